/- descent.New; the walk of DescentNone. -/
import Derived.Test.YtecdcmjjioanaaaGreatDnC
namespace Go.Proofs.YtecdcmjjioanaaaGreat
open Go.RowKit Go.Lib
set_option linter.unusedVariables false
set_option maxRecDepth 100000

theorem new_nil (s : ByteArray) (b : Bool) (n : Int) (w : World) : Calls Tryz.prog 10 #[.pointer none, .string s, .bool b, .int .i64 n] w fun e w' => e = .returned (.tuple #[.pointer none, .int .i64 2]) ∧ w = w' := by
  go_enter Tryz.func10, Tryz.ntmps10
  go_wp2_with fail
  go_ret2
  exact ⟨rfl, rfl⟩

theorem new_sum (t : Nat) (w : World) (hg : w.heap[t]? = some (.cells (treeRow 2) 64 (0, 0))) : Calls Tryz.prog 10 #[.pointer (some ⟨t, 0, none⟩), .string ⟨#[120]⟩, .bool true, .int .i64 0] w fun e w' => e = .returned (.tuple #[.pointer none, .int .i64 150]) ∧ w = w' := by
  have HG := Lib.hid hg
  clear hg
  go_enter Tryz.func10, Tryz.ntmps10
  go_wp2_with ((go_at_call 19; refine (twidth_ok 2 t (0, 0) _ HG.out).mono ?_; rintro e w' ⟨rfl, rfl⟩))
  go_ret2
  exact ⟨rfl, rfl⟩

theorem new_few (t : Nat) (w : World) (hg : w.heap[t]? = some (.cells (treeRow 2) 64 (0, 0))) : Calls Tryz.prog 10 #[.pointer (some ⟨t, 0, none⟩), .string ⟨#[120, 121]⟩, .bool true, .int .i64 2] w fun e w' => e = .returned (.tuple #[.pointer none, .int .i64 1]) ∧ w = w' := by
  have HG := Lib.hid hg
  clear hg
  go_enter Tryz.func10, Tryz.ntmps10
  go_wp2_with ((go_at_call 19; refine (twidth_ok 2 t (0, 0) _ HG.out).mono ?_; rintro e w' ⟨rfl, rfl⟩))
  go_ret2
  exact ⟨rfl, rfl⟩

theorem new_many (t : Nat) (w : World) (hg : w.heap[t]? = some (.cells (treeRow 2) 64 (0, 0))) : Calls Tryz.prog 10 #[.pointer (some ⟨t, 0, none⟩), .string ⟨#[120, 121]⟩, .bool true, .int .i64 257] w fun e w' => e = .returned (.tuple #[.pointer none, .int .i64 1]) ∧ w = w' := by
  have HG := Lib.hid hg
  clear hg
  go_enter Tryz.func10, Tryz.ntmps10
  go_wp2_with ((go_at_call 19; refine (twidth_ok 2 t (0, 0) _ HG.out).mono ?_; rintro e w' ⟨rfl, rfl⟩))
  go_ret2
  exact ⟨rfl, rfl⟩

set_option maxHeartbeats 2000000 in
theorem new_down (t : Nat) (w : World) (hg : w.heap[t]? = some (.cells (treeRow 2) 64 (0, 0))) : Calls Tryz.prog 10 #[.pointer (some ⟨t, 0, none⟩), .string ⟨#[120, 121]⟩, .bool false, .int .i64 257] w fun e w' => ∃ p row, e = .returned (.tuple #[.pointer (some ⟨p, 0, none⟩), .int .i64 0]) ∧ Kept No w w' ∧ w'.heap[p]? = some (.cells row 49 (0, 0)) ∧ row[2]? = some (.int .u8 2) ∧ row[16]? = some (.bool false) ∧ row[17]? = some (.slice none 0 0) ∧ row[18]? = some (.int .i64 0) := by
  have HG := Lib.hid hg
  clear hg
  go_enter Tryz.func10, Tryz.ntmps10
  go_wp2_with fail
  refine (twidth_ok 2 t (0, 0) _ HG.out).mono ?_
  rintro e w' ⟨rfl, rfl⟩
  go_wp2_with fail
  refine (troot_ok 2 t (0, 0) _ (((Kept.refl No w).alloc _).heap HG.out (fun h => h))).mono ?_
  rintro e w' ⟨rfl, rfl⟩
  go_wp2_with fail
  refine (down_ok _ (.pointer (some ⟨t, 0, none⟩)) _ _ (heap_alloc_new w _)).mono ?_
  rintro e w5 ⟨rfl, k5, q, cap, h5⟩
  have H5 := Lib.hid h5
  have KK : Hid (Kept No w w5) := Lib.hid (((Kept.refl No w).alloc _).next k5 (fun j hj e => absurd hj (by omega)))
  clear h5 k5 HG
  go_wp2_with fail
  go_ret2
  exact ⟨_, _, rfl, KK.out, H5.out, rfl, rfl, rfl, rfl⟩

set_option maxHeartbeats 2000000 in
theorem new_done (t : Nat) (w : World) (hg : w.heap[t]? = some (.cells (treeRow 2) 64 (0, 0))) : Calls Tryz.prog 10 #[.pointer (some ⟨t, 0, none⟩), .string ⟨#[]⟩, .bool true, .int .i64 256] w fun e w' => ∃ p row, e = .returned (.tuple #[.pointer (some ⟨p, 0, none⟩), .int .i64 0]) ∧ Kept No w w' ∧ w'.heap[p]? = some (.cells row 49 (0, 0)) ∧ row[16]? = some (.bool true) ∧ row[17]? = some (.slice none 0 0) := by
  have HG := Lib.hid hg
  clear hg
  go_enter Tryz.func10, Tryz.ntmps10
  go_wp2_with fail
  refine (troot_ok 2 t (0, 0) _ (((Kept.refl No w).alloc _).heap HG.out (fun h => h))).mono ?_
  rintro e w' ⟨rfl, rfl⟩
  go_wp2_with fail
  go_ret2
  exact ⟨_, _, rfl, (Kept.refl _ _).alloc _, heap_alloc_new w _, rfl, rfl⟩
end Go.Proofs.YtecdcmjjioanaaaGreat
