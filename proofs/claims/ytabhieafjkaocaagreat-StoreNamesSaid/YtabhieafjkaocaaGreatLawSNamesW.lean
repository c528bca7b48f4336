/- The walk of StoreNames. -/
import Derived.Test.YtabhieafjkaocaaGreatSnC
namespace Go.Proofs.YtabhieafjkaocaaGreat
open Go.RowKit
set_option linter.unusedVariables false

set_option maxHeartbeats 2000000 in
set_option maxRecDepth 100000 in
theorem snames_walk (w : World) : Calls Tryz.prog 3 #[] w fun e w' => e = .returned (.bool true) ∧ Below w.heap.size w w' := by
  go_enter Tryz.func3, Tryz.ntmps3
  go_wp2_with fail
  refine (read_nil _ _).mono ?_
  rintro e w1 ⟨rfl, k1⟩
  unfold noPage
  go_wp2_with fail
  refine (bread_nil _ _).mono ?_
  rintro e w2 ⟨rfl, k2⟩
  unfold noPage
  go_wp2_with fail
  refine (balloc_nil _ _ _).mono ?_
  rintro e w' ⟨rfl, rfl⟩
  go_wp2_with fail
  refine (open_none _ _).mono ?_
  rintro e w3 ⟨rfl, k3⟩
  go_wp2_with fail
  refine (open_disk _).mono ?_
  rintro e w4 ⟨rfl, k4⟩
  go_wp2_with fail
  refine (drop_nil _).mono ?_
  rintro e w' ⟨rfl, rfl⟩
  have HK := Lib.hid ((((k1.alloc _).trans k2).alloc _).trans (k3.trans k4))
  have r1 := ((k2.alloc (.cells #[.int .u8 0, .int .u32 0, .int .u64 0, .string ByteArray.empty] 28)).trans (k3.trans k4)).heap (heap_alloc_new w1 _) (fun h => h)
  have r2 := (k3.trans k4).heap (heap_alloc_new w2 _) (fun h => h)
  have p0 := cell_of_row w4 w1.heap.size 0 _ _ _ r1
  have p1 := cell_of_row w4 w1.heap.size 1 _ _ _ r1
  have p2 := cell_of_row w4 w1.heap.size 2 _ _ _ r1
  have p3 := cell_of_row w4 w1.heap.size 3 _ _ _ r1
  have q0 := cell_of_row w4 w2.heap.size 0 _ _ _ r2
  have q1 := cell_of_row w4 w2.heap.size 1 _ _ _ r2
  have q2 := cell_of_row w4 w2.heap.size 2 _ _ _ r2
  have q3 := cell_of_row w4 w2.heap.size 3 _ _ _ r2
  simp only [List.getElem?_toArray, List.getElem?_cons_zero, List.getElem?_cons_succ] at p0 p1 p2 p3 q0 q1 q2 q3
  clear k1 k2 k3 k4 r1 r2
  go_wp2_with fail
  refine (pages_nil _).mono ?_
  rintro e w' ⟨rfl, rfl⟩
  go_wp2_with fail
  refine (free_nil _).mono ?_
  rintro e w' ⟨rfl, rfl⟩
  go_wp2_with fail
  refine (serial_nil _).mono ?_
  rintro e w' ⟨rfl, rfl⟩
  go_wp2_with fail
  refine (root_nil _ _).mono ?_
  rintro e w' ⟨rfl, rfl⟩
  go_wp2_with fail
  refine (begin_nil _).mono ?_
  rintro e w' ⟨rfl, rfl⟩
  go_wp2_with fail
  refine (broot_nil _ _).mono ?_
  rintro e w' ⟨rfl, rfl⟩
  go_wp2_with fail
  refine (bsize_nil _).mono ?_
  rintro e w' ⟨rfl, rfl⟩
  go_wp2_with fail
  refine (bwrite_nil _ _ _ _).mono ?_
  rintro e w' ⟨rfl, rfl⟩
  go_wp2_with fail
  refine (brelease_nil _ _).mono ?_
  rintro e w' ⟨rfl, rfl⟩
  go_wp2_with fail
  refine (bsetroot_nil _ _ _).mono ?_
  rintro e w' ⟨rfl, rfl⟩
  go_wp2_with fail
  refine (bcommit_nil _).mono ?_
  rintro e w' ⟨rfl, rfl⟩
  go_wp2_with fail
  go_ret
  exact ⟨rfl, HK.out.below (Nat.le_refl _) (fun _ _ h => h)⟩
end Go.Proofs.YtabhieafjkaocaaGreat
