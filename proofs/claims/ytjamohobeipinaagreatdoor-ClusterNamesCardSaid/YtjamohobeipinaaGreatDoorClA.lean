/- cluster: the nil cluster; the walk of ClusterNames. -/
import Derived.Test.YtjamohobeipinaaGreatDoorLwA
import Derived.Test.YtjamohobeipinaaGreatDoorChecked
namespace Go.Proofs.YtjamohobeipinaaGreatDoor
open Go.RowKit Go.Lib
set_option linter.unusedVariables false
set_option maxRecDepth 100000

theorem cclock_nil (w : World) : Calls Tryz.prog 6 #[.pointer none] w fun e w' => e = .returned (.int .i64 0) ∧ w = w' := by
  go_enter Tryz.func6, Tryz.ntmps6
  go_wp2
  go_ret
  exact ⟨rfl, rfl⟩
theorem cflights_nil (w : World) : Calls Tryz.prog 7 #[.pointer none] w fun e w' => e = .returned (.int .i64 0) ∧ w = w' := by
  go_enter Tryz.func7, Tryz.ntmps7
  go_wp2
  go_ret
  exact ⟨rfl, rfl⟩
theorem creports_nil (w : World) : Calls Tryz.prog 8 #[.pointer none] w fun e w' => e = .returned (.slice none 0 0) ∧ w = w' := by
  go_enter Tryz.func8, Tryz.ntmps8
  go_wp2
  go_ret
  exact ⟨rfl, rfl⟩
theorem creplica_nil (w : World) : Calls Tryz.prog 9 #[.pointer none, .int .u8 1] w fun e w' => e = .returned (.pointer none) ∧ w = w' := by
  go_enter Tryz.func9, Tryz.ntmps9
  go_wp2
  go_ret
  exact ⟨rfl, rfl⟩
theorem cnet_nil (w : World) : Calls Tryz.prog 10 #[.pointer none] w fun e w' => e = .returned (.pointer none) ∧ w = w' := by
  go_enter Tryz.func10, Tryz.ntmps10
  go_wp2
  go_ret
  exact ⟨rfl, rfl⟩
theorem cview_nil (w : World) : Calls Tryz.prog 5 #[.pointer none, .int .u8 1] w fun e w' => e = .returned (.tuple #[.agg #[.int .u16 0, .bool false, .bool false, .int .i64 0, .slice none 0 0], .int .i64 2]) ∧ Kept No w w' := by
  go_enter Tryz.func5, Tryz.ntmps5
  go_wp2
  exact bodyPost_ret (results_pair rfl _ _ _ _ _ _ _ rfl (heap_alloc_new w _) Tryz.underlying45 rfl (by kernel_rfl)) rfl ⟨rfl, (Kept.refl _ _).alloc _⟩
set_option maxHeartbeats 1000000 in
theorem cdo_nil (w : World) : Calls Tryz.prog 4 #[.pointer none, .agg #[.int .u8 2, .int .u8 0, .int .u8 0, .string ⟨#[]⟩, .string ⟨#[]⟩, .bool false, .bool false, .slice none 0 0, .int .i64 0, .int .i64 0, .string ⟨#[]⟩, .int .i64 0, .int .i64 0, .int .i64 0, .bool false, .bool false, .slice none 0 0, .int .i64 0, .int .i64 0]] w fun e w' => e = .returned (.agg #[.int .i64 2, .int .u32 0, .int .u64 0, .int .u8 0, .int .u16 0, .int .u32 0, .int .i64 0, .slice none 0 0]) ∧ Kept No w w' := by
  go_enter Tryz.func4, Tryz.ntmps4
  go_wp2_with fail
  refine bodyPost_ret (results_one rfl _ _ (w.heap.size + 1) _ _ _ _ rfl (((Kept.refl No _).alloc _).heap (by have h := heap_alloc_new (w.alloc (.cells #[.int .u8 2, .int .u8 0, .int .u8 0, .string ⟨#[]⟩, .string ⟨#[]⟩, .bool false, .bool false, .slice none 0 0, .int .i64 0, .int .i64 0, .string ⟨#[]⟩, .int .i64 0, .int .i64 0, .int .i64 0, .bool false, .bool false, .slice none 0 0, .int .i64 0, .int .i64 0] 42)) (.cells #[.int .i64 2, .int .u32 0, .int .u64 0, .int .u8 0, .int .u16 0, .int .u32 0, .int .i64 0, .slice none 0 0] 33); simpa using h) (fun h => h)) Tryz.underlying33 rfl (by kernel_rfl)) rfl ?_
  exact ⟨rfl, (((Kept.refl _ _).alloc _).alloc _).alloc _⟩
set_option maxHeartbeats 1000000 in
theorem cnames_walk (w : World) : Calls Tryz.prog 3 #[] w fun e w' => e = .returned (.bool true) ∧ Below w.heap.size w w' := by
  go_enter Tryz.func3, Tryz.ntmps3
  go_wp2_with fail
  refine (cdo_nil _).mono ?_
  rintro e w1 ⟨rfl, k1⟩
  go_wp2_with fail
  refine (cview_nil _).mono ?_
  rintro e w2 ⟨rfl, k2⟩
  have HT := Lib.hid (k2.heap (heap_alloc_new w1 (.cells #[.int .i64 2, .int .u32 0, .int .u64 0, .int .u8 0, .int .u16 0, .int .u32 0, .int .i64 0, .slice none 0 0] 33)) (fun h => h))
  have K2 := Lib.hid (((k1.alloc (.cells #[.int .i64 2, .int .u32 0, .int .u64 0, .int .u8 0, .int .u16 0, .int .u32 0, .int .i64 0, .slice none 0 0] 33)).trans k2).alloc (.cells #[.int .u16 0, .bool false, .bool false, .int .i64 0, .slice none 0 0] 45))
  have HT := Lib.hid (((Kept.refl No _).alloc (.cells #[.int .u16 0, .bool false, .bool false, .int .i64 0, .slice none 0 0] 45)).heap HT.out (fun h => h))
  have t0 := (cell_of_row _ w1.heap.size 0 _ _ _ HT.out).trans rfl
  have t6 := (cell_of_row _ w1.heap.size 6 _ _ _ HT.out).trans rfl
  have t7 := (cell_of_row _ w1.heap.size 7 _ _ _ HT.out).trans rfl
  clear k1 k2 HT
  go_wp2_with fail
  refine (cclock_nil _).mono ?_
  rintro e w' ⟨rfl, rfl⟩
  go_wp2_with fail
  refine (cflights_nil _).mono ?_
  rintro e w' ⟨rfl, rfl⟩
  go_wp2_with fail
  refine (creports_nil _).mono ?_
  rintro e w' ⟨rfl, rfl⟩
  go_wp2_with fail
  refine (creplica_nil _).mono ?_
  rintro e w' ⟨rfl, rfl⟩
  go_wp2_with fail
  refine (cnet_nil _).mono ?_
  rintro e w' ⟨rfl, rfl⟩
  go_wp2_with fail
  go_ret
  exact ⟨rfl, K2.out.below (Nat.le_refl _) (fun _ _ h => h)⟩
end Go.Proofs.YtjamohobeipinaaGreatDoor
