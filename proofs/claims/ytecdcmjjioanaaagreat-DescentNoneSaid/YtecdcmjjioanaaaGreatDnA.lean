/- descent: of no descent; a descent that is begun, or done at once. -/
import Derived.Test.YtecdcmjjioanaaaGreatMsC
import Derived.Test.YtecdcmjjioanaaaGreatTrB
import Derived.Test.YtecdcmjjioanaaaGreatQk
namespace Go.Proofs.YtecdcmjjioanaaaGreat
open Go.RowKit Go.Lib
set_option linter.unusedVariables false
set_option maxRecDepth 100000

theorem dnext_nil (w : World) : Calls Tryz.prog 4 #[.pointer none] w fun e w' => e = .returned (.tuple #[.agg (msgRow 0 0), .bool false]) ∧ Kept No w w' := by
  go_enter Tryz.func4, Tryz.ntmps4
  go_wp2_with (refine wpList_store_new (by rfl) 34 (.tmp 2) (.tmp 13) (by rfl) w 34 (msgRow 0 0) (msgRow 0 0) (by rfl) (by rfl) (by rfl) (by kernel_rfl) (by rfl) (by kernel_rfl) ?_)
  refine bodyPost_ret (results_pair rfl _ _ _ _ _ _ _ rfl (heap_alloc_new w _) Tryz.underlying34 rfl (by kernel_rfl)) rfl ?_
  exact ⟨rfl, (Kept.refl _ _).alloc _⟩
theorem ddiffs_nil (w : World) : Calls Tryz.prog 5 #[.pointer none] w fun e w' => e = .returned (.tuple #[.slice none 0 0, .int .i64 2]) ∧ w = w' := by
  go_enter Tryz.func5, Tryz.ntmps5
  go_wp2
  go_ret2
  exact ⟨rfl, rfl⟩
theorem dtake_nil (w : World) : Calls Tryz.prog 6 #[.pointer none, .agg (msgRow 0 0)] w fun e w' => e = .returned (.int .i64 2) ∧ Kept No w w' := by
  unfold msgRow
  go_enter Tryz.func6, Tryz.ntmps6
  go_wp2_with fail
  go_ret
  exact ⟨rfl, (Kept.refl _ _).alloc _⟩
theorem ddone_nil (w : World) : Calls Tryz.prog 7 #[.pointer none] w fun e w' => e = .returned (.bool false) ∧ w = w' := by
  go_enter Tryz.func7, Tryz.ntmps7
  go_wp2
  go_ret
  exact ⟨rfl, rfl⟩
theorem dasked_nil (w : World) : Calls Tryz.prog 8 #[.pointer none] w fun e w' => e = .returned (.int .i64 0) ∧ w = w' := by
  go_enter Tryz.func8, Tryz.ntmps8
  go_wp2
  go_ret
  exact ⟨rfl, rfl⟩

theorem ddone_ok (p : Nat) (b : Bool) (w : World) (h : w.cell? ⟨p, 16, none⟩ = some (.bool b)) : Calls Tryz.prog 7 #[.pointer (some ⟨p, 0, none⟩)] w fun e w' => e = .returned (.bool b) ∧ w = w' := by
  go_enter Tryz.func7, Tryz.ntmps7
  go_wp2
  go_ret
  exact ⟨rfl, rfl⟩
theorem dasked_ok (p : Nat) (w : World) (h : w.cell? ⟨p, 18, none⟩ = some (.int .i64 0)) : Calls Tryz.prog 8 #[.pointer (some ⟨p, 0, none⟩)] w fun e w' => e = .returned (.int .i64 0) ∧ w = w' := by
  go_enter Tryz.func8, Tryz.ntmps8
  go_wp2
  go_ret
  exact ⟨rfl, rfl⟩
theorem clone_nil (w : World) : Calls Tryz.prog 12 #[.slice none 0 0] w fun e w' => e = .returned (.slice none 0 0) ∧ w = w' := by
  have hq : ∀ w, (binOp BinOp.eql 37 (.slice none 0 0) (.slice none 0 0)).run Tryz.prog w = .ok (.bool true) w := fun _ => by kernel_rfl
  go_enter Tryz.func12, Tryz.ntmps12
  go_wp2
  go_ret
  exact ⟨rfl, rfl⟩
theorem ddiffs_busy (p : Nat) (w : World) (h : w.cell? ⟨p, 16, none⟩ = some (.bool false)) : Calls Tryz.prog 5 #[.pointer (some ⟨p, 0, none⟩)] w fun e w' => e = .returned (.tuple #[.slice none 0 0, .int .i64 250]) ∧ w = w' := by
  go_enter Tryz.func5, Tryz.ntmps5
  go_wp2
  go_ret2
  exact ⟨rfl, rfl⟩
theorem ddiffs_done (p : Nat) (w : World) (h : w.cell? ⟨p, 16, none⟩ = some (.bool true)) (h2 : w.cell? ⟨p, 17, none⟩ = some (.slice none 0 0)) : Calls Tryz.prog 5 #[.pointer (some ⟨p, 0, none⟩)] w fun e w' => e = .returned (.tuple #[.slice none 0 0, .int .i64 0]) ∧ w = w' := by
  go_enter Tryz.func5, Tryz.ntmps5
  go_wp2_with fail
  refine (clone_nil _).mono ?_
  rintro e w' ⟨rfl, rfl⟩
  go_wp2_with fail
  go_ret2
  exact ⟨rfl, rfl⟩
theorem dtake_done (p : Nat) (w : World) (hp : p < w.heap.size) (h : w.cell? ⟨p, 16, none⟩ = some (.bool true)) : Calls Tryz.prog 6 #[.pointer (some ⟨p, 0, none⟩), .agg (msgRow 0 0)] w fun e w' => e = .returned (.int .i64 5) ∧ Kept No w w' := by
  unfold msgRow
  go_enter Tryz.func6, Tryz.ntmps6
  go_wp2_with fail
  go_ret
  exact ⟨rfl, (Kept.refl _ _).alloc _⟩

theorem bases_ok (w : World) : Calls Tryz.prog 164 #[] w fun e w' => e = .returned (.agg #[.int .i64 0, .int .i64 1, .int .i64 17, .int .i64 273, .int .i64 4369]) ∧ Kept No w w' := by
  go_enter Tryz.func164, Tryz.ntmps164
  go_wp2_with (refine wpList_store_new (by rfl) 193 (.tmp 0) (.tmp 1) (by rfl) w 193 #[.int .i64 0, .int .i64 0, .int .i64 0, .int .i64 0, .int .i64 0] #[.int .i64 0, .int .i64 1, .int .i64 17, .int .i64 273, .int .i64 4369] (by rfl) (by rfl) (by rfl) (by kernel_rfl) (by rfl) (by kernel_rfl) ?_)
  refine bodyPost_ret (results_one rfl _ _ _ _ _ _ _ rfl (heap_alloc_new w _) Tryz.underlying193 rfl (by kernel_rfl)) rfl ?_
  exact ⟨rfl, (Kept.refl _ _).alloc _⟩
theorem level_0 (w : World) : Calls Tryz.prog 73 #[.int .u16 0] w fun e w' => e = .returned (.int .i8 0) ∧ Kept No w w' := by
  go_enter Tryz.func73, Tryz.ntmps73
  go_wp2_with fail
  refine (bases_ok _).mono ?_
  rintro e w1 ⟨rfl, k1⟩
  have K1 := Lib.hid k1
  clear k1
  have i0 : ∀ w, (Instr.index 193 (.agg #[.int .i64 0, .int .i64 1, .int .i64 17, .int .i64 273, .int .i64 4369]) (.int .i64 0)).run Tryz.prog w = .ok (.int .i64 0) w := fun _ => by kernel_rfl
  have i1 : ∀ w, (Instr.index 193 (.agg #[.int .i64 0, .int .i64 1, .int .i64 17, .int .i64 273, .int .i64 4369]) (.int .i64 1)).run Tryz.prog w = .ok (.int .i64 1) w := fun _ => by kernel_rfl
  go_wp2_with fail
  go_loop [6] (fun i => i = .int .i64 0 ∨ i = .int .i64 1) (fun i => 1 - (intOf i).toNat)
  case atStart => exact Or.inl rfl
  case round =>
    rcases hrel with rfl | rfl
    · go_wp2_with fail
      go_round
      case rel => exact Or.inr rfl
      case measure => decide
    · go_wp2_with fail
      go_ret
      exact ⟨rfl, K1.out⟩
end Go.Proofs.YtecdcmjjioanaaaGreat
