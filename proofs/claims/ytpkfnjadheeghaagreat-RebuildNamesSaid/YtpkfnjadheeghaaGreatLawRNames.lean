/- The law RebuildNames returns true. (Its row says leaving, and time may pass.) -/
import Derived.Test.YtpkfnjadheeghaaGreatRows
import Derived.Test.YtpkfnjadheeghaaGreatRnA
import Derived.ProofKit
import Derived.OpenShut
import Derived.ChangeOld
import Derived.Below
import Derived.SizedLaws
import Derived.Leaving
import Derived.Conc.HoldsTime
namespace Go.Proofs.YtpkfnjadheeghaaGreat.rebuildNames
open Go.ChangeShapes Go.WideShapes Go.ChangeAt Go.RowKit Go.Conc Go.ConcM
set_option linter.unusedVariables false
theorem own : ownKnob Tryz.prog.godebug = none := by kernel_rfl
/-- One goroutine's run is a good one. -/
theorem good_of_calls {P : Program} {f : FuncId} {args : Array Value} {W : World} {R : Value → World → Prop} (hi : P.inits.idxOf? f = none)
    (h : Calls P f args W fun | .returned v, w' => R v w' | _, _ => False) :
    ∃ M last o w' t', runNT P (M + 1) (solo (G (Frame.enter P f args .normal) []) W) #[] = (.ended o w', t') ∧ runN P M (solo (G (Frame.enter P f args .normal) []) W) = .next last ∧
      step P last = .ended o w' ∧ Conc.Good P R last o w' t' := by
  obtain ⟨n, v, w', fr, hn, hend, hp⟩ := h.done_lone hi
  have al := alone_of_lone (w' := w') hn
  refine ⟨n, lone fr [] w', .done v, w', (runNT P (n + 1) (lone (Frame.enter P f args .normal) [] W) #[]).2, Prod.ext (by rw [runNT_fst]; exact hend) rfl, hn, step_of_runs hn hend, v, rfl, hp, ?_, al.2.1, onlyLeaving_of_quiet al.1, al.2.2⟩
  exact fun said => (no_race_of_lone (said := said) P n _ _ hn (by simp [lone]) rfl).2
set_option maxRecDepth 100000 in
theorem lifted (os : Os) (started : os.Started) (H : Type) (enc : TypeId × Value → H) (F : Stop.Interp) :
    ReturnsInLeavingWide { calm := true } Tryz.checked os 3 .any (Rows.rebuildNamesSpec.pre6 enc Tryz.prog Tryz.f3 Rows.rebuildNamesRow.domain false)
      ((OpenSpec.ofChange Rows.rebuildNamesSpec).postWith enc Tryz.prog Tryz.f3 F (outsideKept [.timePasses]) false true false) := by
  refine returnsInLeavingWide_of_change_time (C := Tryz.checked) own started Tryz.func3
    (ChangeSpec.witness6c (enc := enc) (C := Tryz.checked) ⟨#[], #[], []⟩ 8 (by kernel_rfl) (by kernel_rfl) (by kernel_rfl) (by kernel_rfl)) ?_
  intro W base args ds gs before hval0 hW hcnd hsz0 _
  have hW' := hW
  obtain ⟨p, q, hA0, hV, rfl, hfz, hnd⟩ := hW
  have hA : DataW.TrodAll enc Tryz.prog W 0 (fun _ => true) true Tryz.f3.params.toList args.toList ds p := hA0
  rw [Tryz.params3] at hA
  obtain ⟨hargs, rfl, rfl⟩ := trodAll_none hA
  obtain rfl : args = #[] := by cases args; simp_all
  obtain ⟨rfl, rfl⟩ := trodVars_none hV
  clear hA0 hval0 hsz0
  refine good_of_calls (by kernel_rfl) ((rnames_walk W).mono fun e W' ⟨he, bel⟩ => ?_)
  subst he
  have eos : W'.os = W.os := bel.os
  have eW : { W' with os := W.os } = W' := by rw [← eos]
  refine ⟨?_, by rw [eos]; exact OsLater.refl _⟩
  rw [eW]
  exact ⟨_, _, _, [], _, [], hW', trodAll_mk1 (shut_bool Tryz.underlying4 _), trodAll_mk0, rfl, bel.frame _, fun h => by cases h⟩
theorem over : Rows.rebuildNamesRow.holds Tryz.pinned (OpenSpec.ofChange Rows.rebuildNamesSpec) :=
  OpenClaim.holds_of_wide_leaving_time 3 Tryz.f3 rfl rfl rfl rfl rfl rfl rfl ⟨rfl, rfl, rfl, rfl, rfl⟩ rfl rfl rfl rfl rfl (by kernel_rfl) Tryz.func3 (by kernel_rfl)
    (of_decide_eq_true (by kernel_rfl)) (by unfold Func.isWrapper; first | (rw [if_pos (by decide +kernel)]; kernel_rfl) | (rw [if_neg (by decide +kernel)]; exact ⟨rfl, rfl⟩))
    (fun os started H enc _ F => lifted os started H enc F)
end Go.Proofs.YtpkfnjadheeghaaGreat.rebuildNames
namespace Go.Proofs.YtpkfnjadheeghaaGreat
theorem rebuildNames_holds : Rows.RebuildNamesSaid := rebuildNames.over
#print axioms rebuildNames_holds
end Go.Proofs.YtpkfnjadheeghaaGreat
