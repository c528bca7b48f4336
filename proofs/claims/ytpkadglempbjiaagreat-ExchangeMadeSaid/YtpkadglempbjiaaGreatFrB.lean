/- concordref23: an Asker's first request. -/
import Derived.Test.YtpkadglempbjiaaGreatEtA
namespace Go.Proofs.YtpkadglempbjiaaGreat
open Go.RowKit Go.Lib
set_option linter.unusedVariables false
set_option linter.unusedSimpArgs false
set_option maxRecDepth 100000

theorem rnewasker_bad (i0 i1 i2 f t wait tries : Int) (h : wait < 1 ∨ 1000 < wait ∨ tries < 1 ∨ 16 < tries) (w : World) : Calls Tryz.prog 19 #[idRow i0 i1 i2, .int .u8 f, .int .u8 t, .int .i64 wait, .int .i64 tries] w fun e w' => e = .returned (.pointer none) ∧ Kept No w w' := by
  unfold idRow
  by_cases h1 : wait < 1
  · go_enter Tryz.func19, Tryz.ntmps19
    go_wp2_with fail
    go_ret
    exact ⟨rfl, (Kept.refl _ _).alloc _⟩
  by_cases h2 : 1000 < wait
  · go_enter Tryz.func19, Tryz.ntmps19
    go_wp2_with fail
    go_ret
    exact ⟨rfl, (Kept.refl _ _).alloc _⟩
  by_cases h3 : tries < 1
  · go_enter Tryz.func19, Tryz.ntmps19
    go_wp2_with fail
    go_ret
    exact ⟨rfl, (Kept.refl _ _).alloc _⟩
  have h4 : 16 < tries := by omega
  go_enter Tryz.func19, Tryz.ntmps19
  go_wp2_with fail
  go_ret
  exact ⟨rfl, (Kept.refl _ _).alloc _⟩

theorem rnewasker_ok (i0 i1 i2 f t wait tries : Int) (h1 : 1 ≤ wait) (h2 : wait ≤ 1000) (h3 : 1 ≤ tries) (h4 : tries ≤ 16) (w : World) : Calls Tryz.prog 19 #[idRow i0 i1 i2, .int .u8 f, .int .u8 t, .int .i64 wait, .int .i64 tries] w fun e w' => ∃ a, e = .returned (.pointer (some ⟨a, 0, none⟩)) ∧ Kept No w w' ∧ w.heap.size ≤ a ∧ w'.heap[a]? = some (.cells #[.int .u8 i0, .int .u16 i1, .int .u32 i2, .int .u8 f, .int .u8 t, .int .i64 wait, .int .i64 tries, .int .u64 0, .int .u32 0, .bool false, .bool false, .string ByteArray.empty, .int .i64 0, .int .i64 0, .int .i64 0] 136 (0, 0)) := by
  unfold idRow
  go_enter Tryz.func19, Tryz.ntmps19
  go_wp2_with fail
  go_ret
  exact ⟨_, rfl, ((Kept.refl _ _).alloc _).alloc _, by simp, heap_alloc2_new w _ _⟩

set_option maxHeartbeats 1000000 in
theorem rframe_ok (i0 i1 i2 f t wait tries : Int) (body : ByteArray) (a : Nat) (w : World) (ha : w.heap[a]? = some (.cells #[.int .u8 i0, .int .u16 i1, .int .u32 i2, .int .u8 f, .int .u8 t, .int .i64 wait, .int .i64 tries, .int .u64 0, .int .u32 1, .bool true, .bool false, .string body, .int .i64 0, .int .i64 1, .int .i64 1] 136 (0, 0))) :
    Calls Tryz.prog 54 #[.pointer (some ⟨a, 0, none⟩)] w fun e w' => e = .returned (.agg (frameRow i0 i1 i2 f t 1 body)) ∧ Kept No w w' := by
  go_enter Tryz.func54, Tryz.ntmps54
  go_wp2_with fail
  have e0 : (Value.string { data := #[] }) = .string ByteArray.empty := rfl
  rw [e0]
  have gz := heap_alloc_new w (.cells #[.int .u8 0, .int .u8 0, .int .u8 0, .int .u16 0, .int .u32 0, .int .u64 0, .int .u32 0, .bool false, .string ByteArray.empty] 38)
  have k1 : Kept No w (w.alloc (.cells #[.int .u8 0, .int .u8 0, .int .u8 0, .int .u16 0, .int .u32 0, .int .u64 0, .int .u32 0, .bool false, .string ByteArray.empty] 38)) := (Kept.refl _ _).alloc _
  have g1 := k1.heap ha (fun h => h)
  have K1 := Lib.hid k1
  generalize w.alloc (.cells #[.int .u8 0, .int .u8 0, .int .u8 0, .int .u16 0, .int .u32 0, .int .u64 0, .int .u32 0, .bool false, .string ByteArray.empty] 38) = w1 at gz k1 g1 K1 ⊢
  generalize hzb : w.heap.size = zb at gz ⊢
  have HZB := Lib.hid hzb
  have c0 := cell_of_row w1 a 0 _ _ _ g1
  have c1 := cell_of_row w1 a 1 _ _ _ g1
  have c2 := cell_of_row w1 a 2 _ _ _ g1
  have c3 := cell_of_row w1 a 3 _ _ _ g1
  have c4 := cell_of_row w1 a 4 _ _ _ g1
  have c7 := cell_of_row w1 a 7 _ _ _ g1
  have c8 := cell_of_row w1 a 8 _ _ _ g1
  have c11 := cell_of_row w1 a 11 _ _ _ g1
  simp only [List.getElem?_toArray, List.getElem?_cons_zero, List.getElem?_cons_succ] at c0 c1 c2 c3 c4 c7 c8 c11
  have GZ : Hid (w1.drew.heap[zb]? = some (.cells #[.int .u8 0, .int .u8 0, .int .u8 0, .int .u16 0, .int .u32 0, .int .u64 0, .int .u32 0, .bool false, .string ByteArray.empty] 38 (0, 0))) := Lib.hid gz
  clear ha g1 gz k1 hzb
  go_still_tail 25, (by kernel_rfl)
  repeat still_step
  change wpList _ _ _ _ _ w1.drew
  refine wpList_store_row (by rfl) 38 (.tmp 2) (.tmp 27) (by rfl) zb 38 #[.int .u8 0, .int .u8 0, .int .u8 0, .int .u16 0, .int .u32 0, .int .u64 0, .int .u32 0, .bool false, .string ByteArray.empty] #[.int .u8 f, .int .u8 t, .int .u8 i0, .int .u16 i1, .int .u32 i2, .int .u64 0, .int .u32 1, .bool false, .string body] (by rfl) (by rfl) GZ.out (by kernel_rfl) (by rfl) (by kernel_rfl) ?_
  go_wp2_with fail
  refine bodyPost_ret (results_one rfl _ _ _ _ _ _ _ rfl (setRow_heap _ _ _ _ _ _ GZ.out) Tryz.underlying38 rfl (by kernel_rfl)) rfl ?_
  exact ⟨rfl, (K1.out.drew).setRow _ _ (fun h => absurd h (by have := HZB.out; omega))⟩

set_option maxHeartbeats 2000000 in
theorem rask_ok (i0 i1 i2 f t wait tries : Int) (body : ByteArray) (a : Nat) (w : World) (ha : w.heap[a]? = some (.cells #[.int .u8 i0, .int .u16 i1, .int .u32 i2, .int .u8 f, .int .u8 t, .int .i64 wait, .int .i64 tries, .int .u64 0, .int .u32 0, .bool false, .bool false, .string ByteArray.empty, .int .i64 0, .int .i64 0, .int .i64 0] 136 (0, 0))) :
    Calls Tryz.prog 36 #[.pointer (some ⟨a, 0, none⟩), .string body] w fun e w' => e = .returned (.tuple #[.agg (frameRow i0 i1 i2 f t 1 body), .int .i64 0]) ∧ Kept (fun k => k = a) w w' := by
  have hal := lt_of_heap ha
  have c8 := cell_of_row w a 8 _ _ _ ha
  have c9 := cell_of_row w a 9 _ _ _ ha
  have c10 := cell_of_row w a 10 _ _ _ ha
  have c11 := cell_of_row w a 11 _ _ _ ha
  have c12 := cell_of_row w a 12 _ _ _ ha
  have c13 := cell_of_row w a 13 _ _ _ ha
  have c14 := cell_of_row w a 14 _ _ _ ha
  have f8 := frozen_of_row w a 8 _ _ ha
  have f9 := frozen_of_row w a 9 _ _ ha
  have f11 := frozen_of_row w a 11 _ _ ha
  have f12 := frozen_of_row w a 12 _ _ ha
  have f13 := frozen_of_row w a 13 _ _ ha
  have f14 := frozen_of_row w a 14 _ _ ha
  simp only [List.getElem?_toArray, List.getElem?_cons_zero, List.getElem?_cons_succ] at c8 c9 c10 c11 c12 c13 c14
  have HA := Lib.hid ha
  clear ha
  go_enter Tryz.func36, Tryz.ntmps36
  go_wp2_with fail
  have e0 : (Value.string { data := #[] }) = .string ByteArray.empty := rfl
  rw [e0]
  have b0 := heap_setCell_same _ a 8 _ _ (.int .u32 1) HA.out
  have b1 := heap_setCell_same _ a 9 _ _ (.bool true) b0
  have b2 := heap_setCell_same _ a 11 _ _ (.string body) b1
  have b3 := heap_setCell_same _ a 12 _ _ (.int .i64 0) b2
  have b4 := heap_setCell_same _ a 13 _ _ (.int .i64 1) b3
  have b3 : ((((((w.setCell ⟨a, 8, none⟩ (.int .u32 1)).setCell ⟨a, 9, none⟩ (.bool true)).setCell ⟨a, 11, none⟩ (.string body)).setCell ⟨a, 12, none⟩ (.int .i64 0)).setCell ⟨a, 13, none⟩ (.int .i64 1)).setCell ⟨a, 14, none⟩ (.int .i64 1)).heap[a]? = some (.cells #[.int .u8 i0, .int .u16 i1, .int .u32 i2, .int .u8 f, .int .u8 t, .int .i64 wait, .int .i64 tries, .int .u64 0, .int .u32 1, .bool true, .bool false, .string body, .int .i64 0, .int .i64 1, .int .i64 1] 136 (0, 0)) := heap_setCell_same _ a 14 _ _ (.int .i64 1) b4
  have k3 : Kept (fun k => k = a) w ((((((w.setCell ⟨a, 8, none⟩ (.int .u32 1)).setCell ⟨a, 9, none⟩ (.bool true)).setCell ⟨a, 11, none⟩ (.string body)).setCell ⟨a, 12, none⟩ (.int .i64 0)).setCell ⟨a, 13, none⟩ (.int .i64 1)).setCell ⟨a, 14, none⟩ (.int .i64 1)) := (((((((Kept.refl (fun k => k = a) w).setCell ⟨a, 8, none⟩ (.int .u32 1) (fun _ => rfl)).setCell ⟨a, 9, none⟩ (.bool true) (fun _ => rfl)).setCell ⟨a, 11, none⟩ (.string body) (fun _ => rfl)).setCell ⟨a, 12, none⟩ (.int .i64 0) (fun _ => rfl)).setCell ⟨a, 13, none⟩ (.int .i64 1) (fun _ => rfl)).setCell ⟨a, 14, none⟩ (.int .i64 1) (fun _ => rfl))
  have hs3 : ((((((w.setCell ⟨a, 8, none⟩ (.int .u32 1)).setCell ⟨a, 9, none⟩ (.bool true)).setCell ⟨a, 11, none⟩ (.string body)).setCell ⟨a, 12, none⟩ (.int .i64 0)).setCell ⟨a, 13, none⟩ (.int .i64 1)).setCell ⟨a, 14, none⟩ (.int .i64 1)).heap.size = w.heap.size := by simp [World.setCell]
  generalize ((((((w.setCell ⟨a, 8, none⟩ (.int .u32 1)).setCell ⟨a, 9, none⟩ (.bool true)).setCell ⟨a, 11, none⟩ (.string body)).setCell ⟨a, 12, none⟩ (.int .i64 0)).setCell ⟨a, 13, none⟩ (.int .i64 1)).setCell ⟨a, 14, none⟩ (.int .i64 1)) = s3 at b3 k3 hs3 ⊢
  have gz := heap_alloc_new s3 (.cells #[.int .u8 0, .int .u8 0, .int .u8 0, .int .u16 0, .int .u32 0, .int .u64 0, .int .u32 0, .bool false, .string ByteArray.empty] 38)
  rw [hs3] at gz
  have k1 : Kept No s3 (s3.alloc (.cells #[.int .u8 0, .int .u8 0, .int .u8 0, .int .u16 0, .int .u32 0, .int .u64 0, .int .u32 0, .bool false, .string ByteArray.empty] 38)) := (Kept.refl _ _).alloc _
  have g1 := k1.heap b3 (fun h => h)
  have K1 : Hid (Kept (fun k => k = a) w (s3.alloc (.cells #[.int .u8 0, .int .u8 0, .int .u8 0, .int .u16 0, .int .u32 0, .int .u64 0, .int .u32 0, .bool false, .string ByteArray.empty] 38))) := Lib.hid (k3.alloc _)
  generalize s3.alloc (.cells #[.int .u8 0, .int .u8 0, .int .u8 0, .int .u16 0, .int .u32 0, .int .u64 0, .int .u32 0, .bool false, .string ByteArray.empty] 38) = w1 at gz g1 K1 k1 ⊢
  clear k1 k3 b0 b1 b2 b3 b4 hs3 c8 c9 c10 c11 c12 c13 c14 f8 f9 f11 f12 f13 f14
  generalize hzb : w.heap.size = zb at gz hal ⊢
  have HZB := Lib.hid hzb
  have GZ := Lib.hid gz
  have GA := Lib.hid g1
  clear g1 gz hzb
  refine (rframe_ok i0 i1 i2 f t wait tries body a _ GA.out).mono ?_
  rintro e w2 ⟨rfl, k2⟩
  have GZ2 := Lib.hid (k2.heap GZ.out (fun h => h))
  have K2 : Hid (Kept (fun k => k = a) w w2) := Lib.hid (K1.out.next k2 (fun _ _ h => h.elim))
  clear k2 GZ GA K1
  go_wp2_with (refine wpList_store_row (by rfl) 38 (.tmp 4) (.tmp 55) (by rfl) zb 38 #[.int .u8 0, .int .u8 0, .int .u8 0, .int .u16 0, .int .u32 0, .int .u64 0, .int .u32 0, .bool false, .string ByteArray.empty] (frameRow i0 i1 i2 f t 1 body) (by rfl) (by rfl) GZ2.out (by kernel_rfl) (by rfl) (by kernel_rfl) ?_)
  refine bodyPost_ret (results_pair rfl _ _ _ _ _ _ _ rfl (setRow_heap _ _ _ _ _ _ GZ2.out) Tryz.underlying38 rfl (by kernel_rfl)) rfl ?_
  exact ⟨rfl, K2.out.setRow _ _ (fun h => absurd h (by have := HZB.out; omega))⟩
end Go.Proofs.YtpkadglempbjiaaGreat
