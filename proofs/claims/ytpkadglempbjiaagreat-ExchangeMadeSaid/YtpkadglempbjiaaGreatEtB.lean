/- turn.Asker: send, Ask. -/
import Derived.Test.YtpkadglempbjiaaGreatEtA
namespace Go.Proofs.YtpkadglempbjiaaGreat
open Go.RowKit Go.Lib
set_option linter.unusedVariables false
set_option linter.unusedSimpArgs false
set_option maxRecDepth 100000

set_option maxHeartbeats 1000000 in
theorem send_ok (i0 i1 i2 f t wait tries : Int) (seq : Int) (body : ByteArray) (a : Nat) (w : World) (ha : w.heap[a]? = some (.cells (askRow i0 i1 i2 f t wait tries seq body 0 0 0) 144 (0, 0))) :
    Calls Tryz.prog 60 #[.pointer (some ⟨a, 0, none⟩)] w fun e w' => e = .returned (.agg (frameRow i0 i1 i2 f t seq body)) ∧ Kept (fun k => k = a) w w' ∧ w'.heap[a]? = some (.cells (askRow i0 i1 i2 f t wait tries seq body 1 0 1) 144 (0, 0)) := by
  have hal := lt_of_heap ha
  have c10 := cell_of_row w a 10 _ _ _ ha
  have c11 := cell_of_row w a 11 _ _ _ ha
  have c12 := cell_of_row w a 12 _ _ _ ha
  have f10 := frozen_of_row w a 10 _ _ ha
  have f11 := frozen_of_row w a 11 _ _ ha
  have f12 := frozen_of_row w a 12 _ _ ha
  unfold askRow at c10 c11 c12
  simp only [List.getElem?_toArray, List.getElem?_cons_zero, List.getElem?_cons_succ] at c10 c11 c12
  have HA := Lib.hid ha
  clear ha
  go_enter Tryz.func60, Tryz.ntmps60
  go_wp2_with fail
  have e0 : (Value.string { data := #[] }) = .string ByteArray.empty := rfl
  rw [e0]
  have b1 := heap_setCell_same w a 10 _ _ (.int .i64 1) HA.out
  have b2 := heap_setCell_same _ a 12 _ _ (.int .i64 1) b1
  have b3 : (((w.setCell ⟨a, 10, none⟩ (.int .i64 1)).setCell ⟨a, 12, none⟩ (.int .i64 1)).setCell ⟨a, 11, none⟩ (.int .i64 0)).heap[a]? = some (.cells (askRow i0 i1 i2 f t wait tries seq body 1 0 1) 144 (0, 0)) := heap_setCell_same _ a 11 _ _ (.int .i64 0) b2
  have k3 : Kept (fun k => k = a) w (((w.setCell ⟨a, 10, none⟩ (.int .i64 1)).setCell ⟨a, 12, none⟩ (.int .i64 1)).setCell ⟨a, 11, none⟩ (.int .i64 0)) := (((Kept.refl (fun k => k = a) w).setCell ⟨a, 10, none⟩ (.int .i64 1) (fun _ => rfl)).setCell ⟨a, 12, none⟩ (.int .i64 1) (fun _ => rfl)).setCell ⟨a, 11, none⟩ (.int .i64 0) (fun _ => rfl)
  have hs3 : (((w.setCell ⟨a, 10, none⟩ (.int .i64 1)).setCell ⟨a, 12, none⟩ (.int .i64 1)).setCell ⟨a, 11, none⟩ (.int .i64 0)).heap.size = w.heap.size := by simp [World.setCell]
  generalize (((w.setCell ⟨a, 10, none⟩ (.int .i64 1)).setCell ⟨a, 12, none⟩ (.int .i64 1)).setCell ⟨a, 11, none⟩ (.int .i64 0)) = s3 at b3 k3 hs3 ⊢
  have gz := heap_alloc_new s3 (.cells #[.int .u8 0, .int .u8 0, .int .u8 0, .int .u16 0, .int .u32 0, .int .u64 0, .int .u32 0, .bool false, .string ByteArray.empty] 38)
  rw [hs3] at gz
  have k1 : Kept No s3 (s3.alloc (.cells #[.int .u8 0, .int .u8 0, .int .u8 0, .int .u16 0, .int .u32 0, .int .u64 0, .int .u32 0, .bool false, .string ByteArray.empty] 38)) := (Kept.refl _ _).alloc _
  have g1 := k1.heap b3 (fun h => h)
  have K1 : Hid (Kept (fun k => k = a) w (s3.alloc (.cells #[.int .u8 0, .int .u8 0, .int .u8 0, .int .u16 0, .int .u32 0, .int .u64 0, .int .u32 0, .bool false, .string ByteArray.empty] 38))) := Lib.hid (k3.alloc _)
  generalize s3.alloc (.cells #[.int .u8 0, .int .u8 0, .int .u8 0, .int .u16 0, .int .u32 0, .int .u64 0, .int .u32 0, .bool false, .string ByteArray.empty] 38) = w1 at gz g1 K1 k1 ⊢
  clear k1 k3 b1 b2 b3 hs3 c10 c11 c12 f10 f11 f12
  generalize hzb : w.heap.size = zb at gz hal ⊢
  have HZB := Lib.hid hzb
  have c8 := cell_of_row w1 a 8 _ _ _ g1
  have c9 := cell_of_row w1 a 9 _ _ _ g1
  unfold askRow at c8 c9
  simp only [List.getElem?_toArray, List.getElem?_cons_zero, List.getElem?_cons_succ] at c8 c9
  have GZ : Hid (w1.drew.heap[zb]? = some (.cells #[.int .u8 0, .int .u8 0, .int .u8 0, .int .u16 0, .int .u32 0, .int .u64 0, .int .u32 0, .bool false, .string ByteArray.empty] 38 (0, 0))) := Lib.hid gz
  have GA : Hid (w1.drew.heap[a]? = some (.cells (askRow i0 i1 i2 f t wait tries seq body 1 0 1) 144 (0, 0))) := Lib.hid g1
  have HAL := Lib.hid hal
  clear g1 gz hzb
  go_wp2_with fail
  go_still_tail 11, (by kernel_rfl)
  repeat still_step
  change wpList _ _ _ _ _ w1.drew
  go_wp2_with fail
  refine (frame_ok i0 i1 i2 f t wait tries seq body _ _ _ _ _ a _ GA.out).mono ?_
  rintro e w2 ⟨rfl, k2⟩
  have GZ2 := Lib.hid (k2.heap GZ.out (fun h => h))
  have GA2 := Lib.hid (k2.heap GA.out (fun h => h))
  have K2 : Hid (Kept (fun k => k = a) w w2) := Lib.hid ((K1.out.drew).next k2 (fun _ _ h => h.elim))
  clear k2 GZ GA K1 c8 c9
  go_wp2_with (refine wpList_store_row (by rfl) 38 (.tmp 2) (.tmp 31) (by rfl) zb 38 #[.int .u8 0, .int .u8 0, .int .u8 0, .int .u16 0, .int .u32 0, .int .u64 0, .int .u32 0, .bool false, .string ByteArray.empty] (frameRow i0 i1 i2 f t seq body) (by rfl) (by rfl) GZ2.out (by kernel_rfl) (by rfl) (by kernel_rfl) ?_)
  refine bodyPost_ret (results_one rfl _ _ _ _ _ _ _ rfl (setRow_heap _ _ _ _ _ _ GZ2.out) Tryz.underlying38 rfl (by kernel_rfl)) rfl ?_
  refine ⟨rfl, K2.out.setRow _ _ (fun h => absurd h (by have := HZB.out; omega)), ?_⟩
  rw [setRow_other _ _ _ _ (by have := HAL.out; omega)]
  exact GA2.out

set_option maxHeartbeats 1000000 in
theorem ask_ok (i0 i1 i2 f t wait tries : Int) (body : ByteArray) (a : Nat) (w : World) (ha : w.heap[a]? = some (.cells (askRow i0 i1 i2 f t wait tries 0 ByteArray.empty 0 0 0) 144 (0, 0))) :
    Calls Tryz.prog 39 #[.pointer (some ⟨a, 0, none⟩), .string body] w fun e w' => e = .returned (.tuple #[.agg (frameRow i0 i1 i2 f t 1 body), .int .i64 0]) ∧ Kept (fun k => k = a) w w' := by
  have hal := lt_of_heap ha
  have c8 := cell_of_row w a 8 _ _ _ ha
  have c9 := cell_of_row w a 9 _ _ _ ha
  have c10 := cell_of_row w a 10 _ _ _ ha
  have c13 := cell_of_row w a 13 _ _ _ ha
  have f8 := frozen_of_row w a 8 _ _ ha
  have f9 := frozen_of_row w a 9 _ _ ha
  unfold askRow at c8 c9 c10 c13
  simp only [List.getElem?_toArray, List.getElem?_cons_zero, List.getElem?_cons_succ] at c8 c9 c10 c13
  have HA := Lib.hid ha
  clear ha
  go_enter Tryz.func39, Tryz.ntmps39
  go_wp2_with fail
  have e0 : (Value.string { data := #[] }) = .string ByteArray.empty := rfl
  rw [e0]
  have b1 := heap_setCell_same w a 8 _ _ (.int .u32 1) HA.out
  have b3 : ((w.setCell ⟨a, 8, none⟩ (.int .u32 1)).setCell ⟨a, 9, none⟩ (.string body)).heap[a]? = some (.cells (askRow i0 i1 i2 f t wait tries 1 body 0 0 0) 144 (0, 0)) := heap_setCell_same _ a 9 _ _ (.string body) b1
  have k3 : Kept (fun k => k = a) w ((w.setCell ⟨a, 8, none⟩ (.int .u32 1)).setCell ⟨a, 9, none⟩ (.string body)) := ((Kept.refl (fun k => k = a) w).setCell ⟨a, 8, none⟩ (.int .u32 1) (fun _ => rfl)).setCell ⟨a, 9, none⟩ (.string body) (fun _ => rfl)
  have hs3 : ((w.setCell ⟨a, 8, none⟩ (.int .u32 1)).setCell ⟨a, 9, none⟩ (.string body)).heap.size = w.heap.size := by simp [World.setCell]
  generalize ((w.setCell ⟨a, 8, none⟩ (.int .u32 1)).setCell ⟨a, 9, none⟩ (.string body)) = s3 at b3 k3 hs3 ⊢
  have gz := heap_alloc_new s3 (.cells #[.int .u8 0, .int .u8 0, .int .u8 0, .int .u16 0, .int .u32 0, .int .u64 0, .int .u32 0, .bool false, .string ByteArray.empty] 38)
  rw [hs3] at gz
  have k1 : Kept No s3 (s3.alloc (.cells #[.int .u8 0, .int .u8 0, .int .u8 0, .int .u16 0, .int .u32 0, .int .u64 0, .int .u32 0, .bool false, .string ByteArray.empty] 38)) := (Kept.refl _ _).alloc _
  have g1 := k1.heap b3 (fun h => h)
  have K1 : Hid (Kept (fun k => k = a) w (s3.alloc (.cells #[.int .u8 0, .int .u8 0, .int .u8 0, .int .u16 0, .int .u32 0, .int .u64 0, .int .u32 0, .bool false, .string ByteArray.empty] 38))) := Lib.hid (k3.alloc _)
  generalize s3.alloc (.cells #[.int .u8 0, .int .u8 0, .int .u8 0, .int .u16 0, .int .u32 0, .int .u64 0, .int .u32 0, .bool false, .string ByteArray.empty] 38) = w1 at gz g1 K1 k1 ⊢
  clear k1 k3 b1 b3 hs3 c8 c9 c10 c13 f8 f9
  generalize hzb : w.heap.size = zb at gz hal ⊢
  have HZB := Lib.hid hzb
  have GZ := Lib.hid gz
  have GA := Lib.hid g1
  have HAL := Lib.hid hal
  clear g1 gz hzb hal
  refine (send_ok i0 i1 i2 f t wait tries 1 body a _ GA.out).mono ?_
  rintro e w2 ⟨rfl, k2, _⟩
  have GZ2 := Lib.hid (k2.heap GZ.out (by have := HAL.out; omega))
  have K2 : Hid (Kept (fun k => k = a) w w2) := Lib.hid (K1.out.next k2 (fun _ _ h => h))
  clear k2 GZ GA K1
  go_wp2_with (refine wpList_store_row (by rfl) 38 (.tmp 4) (.tmp 42) (by rfl) zb 38 #[.int .u8 0, .int .u8 0, .int .u8 0, .int .u16 0, .int .u32 0, .int .u64 0, .int .u32 0, .bool false, .string ByteArray.empty] (frameRow i0 i1 i2 f t 1 body) (by rfl) (by rfl) GZ2.out (by kernel_rfl) (by rfl) (by kernel_rfl) ?_)
  refine bodyPost_ret (results_pair rfl _ _ _ _ _ _ _ rfl (setRow_heap _ _ _ _ _ _ GZ2.out) Tryz.underlying38 rfl (by kernel_rfl)) rfl ?_
  exact ⟨rfl, K2.out.setRow _ _ (fun h => absurd h (by have := HZB.out; omega))⟩
end Go.Proofs.YtpkadglempbjiaaGreat
