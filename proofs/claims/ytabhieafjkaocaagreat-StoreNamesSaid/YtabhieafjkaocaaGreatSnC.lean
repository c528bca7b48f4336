/- Contracts: Open of no device, and of a nil disk. -/
import Derived.Test.YtabhieafjkaocaaGreatSnB
namespace Go.Proofs.YtabhieafjkaocaaGreat
open Go.RowKit
set_option linter.unusedVariables false

theorem dpages_nil (w : World) : Calls Tryz.prog 211 #[.pointer none] w fun e w' => e = .returned (.int .i64 0) ∧ w = w' := by
  go_enter Tryz.func211, Tryz.ntmps211
  go_wp2
  go_ret
  exact ⟨rfl, rfl⟩
set_option maxRecDepth 100000 in
theorem open_none (n : Int) (w : World) : Calls Tryz.prog 12 #[.nilIface, .int .i64 n] w fun e w' => e = .returned (.tuple #[.pointer none, .int .i64 2]) ∧ Kept No w w' := by
  go_enter Tryz.func12, Tryz.ntmps12
  go_wp2
  go_ret2
  exact ⟨rfl, Kept.refl _ _⟩
set_option maxRecDepth 100000 in
theorem open_disk (w : World) : Calls Tryz.prog 12 #[.iface 24 (.pointer none), .int .i64 4] w fun e w' => e = .returned (.tuple #[.pointer none, .int .i64 1]) ∧ Kept No w w' := by
  go_enter Tryz.func12, Tryz.ntmps12
  have hm : ∀ w, (method (Tryz.prog.types.size + 100) 24 (.pointer none) "Pages").run Tryz.prog w = .ok (211, .pointer none) w := fun w => by kernel_rfl
  have hts : Tryz.prog.types.size + 100 = 373 := by kernel_rfl
  rw [hts] at hm
  have hcf : ∀ w, (callFunc 211 #[.pointer none]).run Tryz.prog w = .ok (.enter 211 #[.pointer none]) w := fun w => by kernel_rfl
  go_wp2_with (go_at_call 211; refine (dpages_nil _).mono ?_; rintro e w' ⟨rfl, rfl⟩)
  go_ret2
  exact ⟨rfl, Kept.refl _ _⟩
end Go.Proofs.YtabhieafjkaocaaGreat
