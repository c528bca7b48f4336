/- Contracts on package bitmap: New. -/
import Derived.Test.YtagbclijbeodaaaDoorBmB
import Derived.Deep.OwnRows
namespace Go.Proofs.YtagbclijbeodaaaDoor
open Go.RowKit
set_option linter.unusedVariables false

theorem u64s_made (n : Nat) : (madeCells #[Value.int .u64 0] n).toList = words (List.replicate n 0) := by
  rw [toList_madeCells_one]; simp [words]

theorem ownsRow_drew {w : World} {b : Nat} {e : TypeId} {z : Nat} {v : Value} {n : Nat} {xs : List Value} (h : w.ownsRow b e z v n xs) : w.drew.ownsRow b e z v n xs := h

/-- A made set: block s, its own slice v, both from B on. -/
def MadeSet (B : Nat) (w : World) (s n : Nat) (v : Value) (ws : List Nat) : Prop := SetAt w s n v ws ∧ B ≤ s ∧ ∀ g, v.ownBlock = some g → B ≤ g

theorem new_ok (n : Nat) (w : World) (h : n ≤ 65536) :
    Calls Tryd.prog 12 #[.int .i64 (n : Int)] w fun e w' => ∃ s v, e = .returned (.tuple #[.pointer (some ⟨s, 0, none⟩), .int .i64 0]) ∧ Kept No w w' ∧ SetAt w' s n v (List.replicate ((n + 63) / 64) 0) ∧ w.heap.size ≤ s ∧ (∀ g, v.ownBlock = some g → w.heap.size ≤ g) := by
  obtain ⟨i0, hi, hz0, hz1, hz2⟩ := info_parts Tryd.infoU64
  have hd : decide ((n : Int) < 0) = false := by simp
  have hd2 : decide ((65536 : Int) < n) = false := by simp; omega
  go_enter Tryd.func12, Tryd.ntmps12
  go_wp2_with (at_make; refine wpList_make_row w rfl _ _ 45 rfl 44 i0 (.int .u64 0) Tryd.underlying45 hi hz0 hz1 rfl .i64 .i64 ((n + 63) / 64) (by go_num) (by go_num) (by rw [hz2]; omega) (by omega) ?_)
  go_ret2
  have hrow := World.ownsRow_lit (base := 0) (e := 44) (size := 1) w (madeCells #[Value.int .u64 0] ((n + 63) / 64)) ((n + 63) / 64) (Nat.zero_le _) (by unfold maxLen; omega) (by rw [size_madeCells]; omega)
  rw [u64s_made] at hrow
  refine ⟨w.heap.size + 1, .slice (some ⟨w.heap.size, 0, none⟩) ((n + 63) / 64) ((n + 63) / 64), rfl, ((Kept.refl _ _).alloc _).alloc _, ?_, Nat.le_succ _, ?_⟩
  · have := SetAt.made (n := n) (ws := List.replicate ((n + 63) / 64) 0) (by rw [List.length_replicate]; exact hrow) (by simp) h (by intro x hx; rw [List.mem_replicate] at hx; omega)
    simpa using this
  · intro g hg
    simp [Value.ownBlock] at hg
    omega

end Go.Proofs.YtagbclijbeodaaaDoor
