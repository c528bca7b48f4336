/- exchange.Asker: its first question. -/
import Derived.Test.YtpkadglempbjiaaGreatEtB
import Derived.Test.YtpkadglempbjiaaGreatEmB
namespace Go.Proofs.YtpkadglempbjiaaGreat
open Go.RowKit Go.Lib
set_option linter.unusedVariables false
set_option linter.unusedSimpArgs false
set_option maxRecDepth 100000

set_option maxHeartbeats 2000000 in
theorem eask_ok (i0 i1 i2 f t wait tries : Int) (n : Nat) (h1 : 1 ≤ n) (h2 : n ≤ 32) (a p : Nat) (hap : a ≠ p) (cs : Array Value) (w : World) (ha : w.heap[a]? = some (.cells (askRow i0 i1 i2 f t wait tries 0 ByteArray.empty 0 0 0) 144 (0, 0)))
    (hp : w.heap[p]? = some (.cells cs 114 (0, 0))) (x0 : cs[0]? = some (.pointer (some ⟨a, 0, none⟩))) (x9 : cs[9]? = some (.int .u8 0)) (x21 : cs[21]? = some (.int .i64 0)) :
    Calls Tryz.prog 24 #[.pointer (some ⟨p, 0, none⟩), .agg (helloRow n)] w fun e w' => ∃ g, e = .returned (.slice (some ⟨g, 0, none⟩) 1 1) ∧ Kept (fun k => k = a ∨ k = p) w w' ∧ w'.heap[g]? = some (.cells (frameRow i0 i1 i2 f t 1 ⟨#[1, UInt8.ofNat n]⟩) 38 (0, 0)) := by
  have henc := fun w => encode_hello n h1 h2 w
  unfold helloRow at henc ⊢
  have HENC := Lib.hid henc
  have HA := Lib.hid ha
  have HP := Lib.hid hp
  have X0 := Lib.hid x0
  have X9 := Lib.hid x9
  have X21 := Lib.hid x21
  have hpl := lt_of_heap hp
  have hal := lt_of_heap ha
  clear henc ha hp x0 x9 x21
  go_enter Tryz.func24, Tryz.ntmps24
  go_wp2_with fail
  refine (HENC.out _).mono ?_
  rintro e w1 ⟨rfl, k1⟩
  have k01 : Kept No w w1 := ((Kept.refl No w).alloc _).trans k1
  have gm := k1.heap (heap_alloc_new w _) (fun h => h)
  have m0 := cell_of_row w1 w.heap.size 0 _ _ _ gm
  simp only [List.getElem?_toArray, List.getElem?_cons_zero] at m0
  have HA1 := Lib.hid (k01.heap HA.out (fun h => h))
  have HP1 := Lib.hid (k01.heap HP.out (fun h => h))
  have c0 := (cell_of_row w1 p 0 _ _ _ HP1.out).trans X0.out
  have GM := Lib.hid gm
  have K1 := Lib.hid k01
  clear k1 k01 gm HENC HA HP m0
  go_wp2_with fail
  refine (ask_ok i0 i1 i2 f t wait tries _ a _ HA1.out).mono ?_
  rintro e w2 ⟨rfl, k2⟩
  have HP2 := Lib.hid (k2.heap HP1.out (fun h => hap h.symm))
  have hml : w.heap.size ≠ a := by omega
  have GM2 := Lib.hid (k2.heap GM.out hml)
  have m0 := cell_of_row w2 w.heap.size 0 _ _ _ GM2.out
  simp only [List.getElem?_toArray, List.getElem?_cons_zero] at m0
  have d9 := (cell_of_row w2 p 9 _ _ _ HP2.out).trans X9.out
  have d21 := (cell_of_row w2 p 21 _ _ _ HP2.out).trans X21.out
  have f9 := frozen_of_row w2 p 9 _ _ HP2.out
  have f21 := frozen_of_row w2 p 21 _ _ HP2.out
  have hp2 := lt_of_heap HP2.out
  have hm2 := lt_of_heap GM2.out
  have hmp : w.heap.size ≠ p := by omega
  have K2 : Hid (Kept (fun k => k = a ∨ k = p) w w2) := Lib.hid ((K1.out.of_no _).next k2 (fun _ _ h => Or.inl h))
  clear k2 K1 c0 HP1 HA1 GM
  unfold frameRow
  go_wp2_with fail
  go_ret
  refine ⟨_, rfl, (((K2.out.setCell ⟨p, 9, none⟩ _ (fun _ => Or.inr rfl)).setCell ⟨p, 21, none⟩ _ (fun _ => Or.inr rfl)).alloc _).alloc _, ?_⟩
  have hg := heap_alloc2_new ((w2.setCell ⟨p, 9, none⟩ (.int .u8 1)).setCell ⟨p, 21, none⟩ (.int .i64 1)) (.cells #[.int .u8 f, .int .u8 t, .int .u8 i0, .int .u16 i1, .int .u32 i2, .int .u64 0, .int .u32 1, .bool false, .string ⟨#[1, UInt8.ofNat n]⟩] 38) (.cells #[.int .u8 f, .int .u8 t, .int .u8 i0, .int .u16 i1, .int .u32 i2, .int .u64 0, .int .u32 1, .bool false, .string ⟨#[1, UInt8.ofNat n]⟩] 38)
  have hs : ((w2.setCell ⟨p, 9, none⟩ (.int .u8 1)).setCell ⟨p, 21, none⟩ (.int .i64 1)).heap.size = w2.heap.size := by simp [World.setCell]
  rw [hs] at hg
  exact hg
end Go.Proofs.YtpkadglempbjiaaGreat
