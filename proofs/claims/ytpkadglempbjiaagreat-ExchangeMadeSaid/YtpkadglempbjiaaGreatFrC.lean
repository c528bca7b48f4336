/- concordref26.Asker: its first question. -/
import Derived.Test.YtpkadglempbjiaaGreatFrB
import Derived.Test.YtpkadglempbjiaaGreatFrA
namespace Go.Proofs.YtpkadglempbjiaaGreat
open Go.RowKit Go.Lib
set_option linter.unusedVariables false
set_option linter.unusedSimpArgs false
set_option maxRecDepth 100000

theorem over_behind (cur : Array Value) (k : Nat) (vs : List Value) (j : Nat) (hk : k + vs.length ≤ j) (hc : k + vs.length ≤ cur.size) : (over cur k vs)[j]? = cur[j]? := by
  unfold over
  rw [List.getElem?_toArray, List.getElem?_append_right (by simp; omega), List.getElem?_drop]
  have hm : min k cur.toList.length = k := by simp; omega
  rw [List.length_append, List.length_take, hm, show k + vs.length + (j - (k + vs.length)) = j by omega]
  simp

set_option maxHeartbeats 2000000 in
theorem reask_ok (i0 i1 i2 f t wait tries : Int) (n : Nat) (h1 : 1 ≤ n) (h2 : n ≤ 32) (a p : Nat) (hap : a ≠ p) (cs : Array Value) (w : World) (ha : w.heap[a]? = some (.cells #[.int .u8 i0, .int .u16 i1, .int .u32 i2, .int .u8 f, .int .u8 t, .int .i64 wait, .int .i64 tries, .int .u64 0, .int .u32 0, .bool false, .bool false, .string ByteArray.empty, .int .i64 0, .int .i64 0, .int .i64 0] 136 (0, 0)))
    (hp : w.heap[p]? = some (.cells cs 102 (0, 0))) (x0 : cs[0]? = some (.pointer (some ⟨a, 0, none⟩))) (xs : 35 ≤ cs.size) (x33 : cs[33]? = some (.int .i64 0)) :
    Calls Tryz.prog 20 #[.pointer (some ⟨p, 0, none⟩), .agg (helloRow n)] w fun e w' => ∃ g, e = .returned (.slice (some ⟨g, 0, none⟩) 1 1) ∧ Kept (fun k => k = a ∨ k = p) w w' ∧ w'.heap[g]? = some (.cells #[.int .u8 f, .int .u8 t, .int .u8 i0, .int .u16 i1, .int .u32 i2, .int .u64 0, .int .u32 1, .bool false, .string ⟨#[1, UInt8.ofNat n]⟩] 38 (0, 0)) := by
  have henc := fun w => rencode_hello n h1 h2 w
  unfold helloRow at henc ⊢
  have HENC := Lib.hid henc
  have HA := Lib.hid ha
  have HP := Lib.hid hp
  have X0 := Lib.hid x0
  have X33 := Lib.hid x33
  have hpl := lt_of_heap hp
  have hal := lt_of_heap ha
  clear henc ha hp x0 x33
  go_enter Tryz.func20, Tryz.ntmps20
  go_wp2_with fail
  refine (HENC.out _).mono ?_
  rintro e w1 ⟨rfl, k1⟩
  have k01 : Kept No w w1 := ((Kept.refl No w).alloc _).trans k1
  have gm := k1.heap (heap_alloc_new w _) (fun h => h)
  have HA1 := Lib.hid (k01.heap HA.out (fun h => h))
  have HP1 := Lib.hid (k01.heap HP.out (fun h => h))
  have c0 := (cell_of_row w1 p 0 _ _ _ HP1.out).trans X0.out
  have GM := Lib.hid gm
  have K1 := Lib.hid k01
  clear k1 k01 gm HENC HA HP
  go_wp2_with fail
  refine (rask_ok i0 i1 i2 f t wait tries _ a _ HA1.out).mono ?_
  rintro e w2 ⟨rfl, k2⟩
  have HP2 := Lib.hid (k2.heap HP1.out (fun h => hap h.symm))
  have hml : w.heap.size ≠ a := by omega
  have gm2 := k2.heap GM.out hml
  have m0 := cell_of_row w2 _ 0 _ _ _ gm2
  have m1 := cell_of_row w2 _ 1 _ _ _ gm2
  have m2 := cell_of_row w2 _ 2 _ _ _ gm2
  have m3 := cell_of_row w2 _ 3 _ _ _ gm2
  have m4 := cell_of_row w2 _ 4 _ _ _ gm2
  have m5 := cell_of_row w2 _ 5 _ _ _ gm2
  have m6 := cell_of_row w2 _ 6 _ _ _ gm2
  have m7 := cell_of_row w2 _ 7 _ _ _ gm2
  have m8 := cell_of_row w2 _ 8 _ _ _ gm2
  have m9 := cell_of_row w2 _ 9 _ _ _ gm2
  have m10 := cell_of_row w2 _ 10 _ _ _ gm2
  have m11 := cell_of_row w2 _ 11 _ _ _ gm2
  have m12 := cell_of_row w2 _ 12 _ _ _ gm2
  simp only [List.getElem?_toArray, List.getElem?_cons_zero, List.getElem?_cons_succ] at m0 m1 m2 m3 m4 m5 m6 m7 m8 m9 m10 m11 m12
  have hp2 := lt_of_heap HP2.out
  have hm2 := lt_of_heap gm2
  have hmp : w.heap.size ≠ p := by omega
  have K2 : Hid (Kept (fun k => k = a ∨ k = p) w w2) := Lib.hid ((K1.out.of_no _).next k2 (fun _ _ h => Or.inl h))
  clear k2 K1 c0 HP1 HA1 GM gm2
  unfold frameRow
  have kf : Kept No w2 (w2.alloc (.cells #[.int .u8 f, .int .u8 t, .int .u8 i0, .int .u16 i1, .int .u32 i2, .int .u64 0, .int .u32 1, .bool false, .string ⟨#[1, UInt8.ofNat n]⟩] 38)) := (Kept.refl _ _).alloc _
  have hp3 := kf.heap HP2.out (fun h => h)
  have HP3 := Lib.hid hp3
  have g4 := setRow_heap _ p _ (over cs 9 (#[.int .u8 1, .int .i64 0, .int .u8 (n : Int), .int .u16 0, .bool false, .string ByteArray.empty, .string ByteArray.empty, .slice none 0 0, .slice none 0 0, .slice none 0 0, .slice none 0 0, .slice none 0 0, .slice none 0 0] : Array Value).toList) _ _ hp3
  have d33 := cell_of_row _ p 33 _ _ _ g4
  rw [over_behind cs 9 _ 33 (by simp) (by simp; omega), X33.out] at d33
  have f33 := frozen_of_row _ p 33 _ _ g4
  clear hp3
  have hcz : 9 + (#[.int .u8 1, .int .i64 0, .int .u8 (n : Int), .int .u16 0, .bool false, .string ByteArray.empty, .string ByteArray.empty, .slice none 0 0, .slice none 0 0, .slice none 0 0, .slice none 0 0, .slice none 0 0, .slice none 0 0] : Array Value).size ≤ cs.size := by simp; omega
  have HCZ := Lib.hid hcz
  have gF : (((w2.alloc (.cells #[.int .u8 f, .int .u8 t, .int .u8 i0, .int .u16 i1, .int .u32 i2, .int .u64 0, .int .u32 1, .bool false, .string ⟨#[1, UInt8.ofNat n]⟩] 38)).setRow p (over cs 9 (#[.int .u8 1, .int .i64 0, .int .u8 (n : Int), .int .u16 0, .bool false, .string ByteArray.empty, .string ByteArray.empty, .slice none 0 0, .slice none 0 0, .slice none 0 0, .slice none 0 0, .slice none 0 0, .slice none 0 0] : Array Value).toList)).setCell ⟨p, 33, none⟩ (.int .i64 1)).heap[w2.heap.size]? = some (.cells #[.int .u8 f, .int .u8 t, .int .u8 i0, .int .u16 i1, .int .u32 i2, .int .u64 0, .int .u32 1, .bool false, .string ⟨#[1, UInt8.ofNat n]⟩] 38 (0, 0)) := by
    rw [heap_setCell_other _ _ _ _ (by show w2.heap.size ≠ p; omega), setRow_other _ _ _ _ (by omega)]
    exact heap_alloc_new w2 _
  have GF := Lib.hid gF
  have hs5 : (((w2.alloc (.cells #[.int .u8 f, .int .u8 t, .int .u8 i0, .int .u16 i1, .int .u32 i2, .int .u64 0, .int .u32 1, .bool false, .string ⟨#[1, UInt8.ofNat n]⟩] 38)).setRow p (over cs 9 (#[.int .u8 1, .int .i64 0, .int .u8 (n : Int), .int .u16 0, .bool false, .string ByteArray.empty, .string ByteArray.empty, .slice none 0 0, .slice none 0 0, .slice none 0 0, .slice none 0 0, .slice none 0 0, .slice none 0 0] : Array Value).toList)).setCell ⟨p, 33, none⟩ (.int .i64 1)).heap.size = w2.heap.size + 1 := by simp [World.setCell]
  have K5 : Hid (Kept (fun k => k = a ∨ k = p) w (((w2.alloc (.cells #[.int .u8 f, .int .u8 t, .int .u8 i0, .int .u16 i1, .int .u32 i2, .int .u64 0, .int .u32 1, .bool false, .string ⟨#[1, UInt8.ofNat n]⟩] 38)).setRow p (over cs 9 (#[.int .u8 1, .int .i64 0, .int .u8 (n : Int), .int .u16 0, .bool false, .string ByteArray.empty, .string ByteArray.empty, .slice none 0 0, .slice none 0 0, .slice none 0 0, .slice none 0 0, .slice none 0 0, .slice none 0 0] : Array Value).toList)).setCell ⟨p, 33, none⟩ (.int .i64 1))) := Lib.hid (((K2.out.alloc _).setRow p _ (fun _ => Or.inr rfl)).setCell ⟨p, 33, none⟩ _ (fun _ => Or.inr rfl))
  have HS5 := Lib.hid hs5
  clear hcz kf gF hs5 g4
  go_wp2_with (first | (refine wpList_store_part (by rfl) 98 (.tmp 34) (.tmp 32) (by rfl) p 9 102 cs (#[.int .u8 1, .int .i64 0, .int .u8 (n : Int), .int .u16 0, .bool false, .string ByteArray.empty, .string ByteArray.empty, .slice none 0 0, .slice none 0 0, .slice none 0 0, .slice none 0 0, .slice none 0 0, .slice none 0 0] : Array Value) (by rfl) (by rfl) HP3.out (by kernel_rfl) HCZ.out (by kernel_rfl) ?_) | (refine wpList_load_row (by rfl) 38 (.tmp 7) (by rfl) w2.heap.size (by rfl) 38 #[.int .u8 f, .int .u8 t, .int .u8 i0, .int .u16 i1, .int .u32 i2, .int .u64 0, .int .u32 1, .bool false, .string ⟨#[1, UInt8.ofNat n]⟩] (0, 0) _ GF.out Tryz.underlying38 rfl (by kernel_rfl) ?_))
  go_ret
  refine ⟨_, rfl, ?_, ?_⟩
  · exact K5.out.alloc _
  · have hg := heap_alloc_new (((w2.alloc (.cells #[.int .u8 f, .int .u8 t, .int .u8 i0, .int .u16 i1, .int .u32 i2, .int .u64 0, .int .u32 1, .bool false, .string ⟨#[1, UInt8.ofNat n]⟩] 38)).setRow p (over cs 9 (#[.int .u8 1, .int .i64 0, .int .u8 (n : Int), .int .u16 0, .bool false, .string ByteArray.empty, .string ByteArray.empty, .slice none 0 0, .slice none 0 0, .slice none 0 0, .slice none 0 0, .slice none 0 0, .slice none 0 0] : Array Value).toList)).setCell ⟨p, 33, none⟩ (.int .i64 1)) (.cells #[.int .u8 f, .int .u8 t, .int .u8 i0, .int .u16 i1, .int .u32 i2, .int .u64 0, .int .u32 1, .bool false, .string ⟨#[1, UInt8.ofNat n]⟩] 38)
    rw [HS5.out] at hg
    exact hg
end Go.Proofs.YtpkadglempbjiaaGreat
