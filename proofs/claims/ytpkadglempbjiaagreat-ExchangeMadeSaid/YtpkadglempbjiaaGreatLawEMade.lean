/- For every input the law ExchangeMade returns true, and each argument reads afterwards as it read before. No condition. -/
import Derived.Test.YtpkadglempbjiaaGreatRows
import Derived.Test.YtpkadglempbjiaaGreatLawEMadeW
import Derived.ProofKit
import Derived.OpenShut
import Derived.ShutString
import Derived.ChangeOld
import Derived.Below
import Derived.SizedLaws
import Derived.Lib.SmallJoins
import Derived.Test.YtpkadglempbjiaaGreatAg5
namespace Go.Proofs.YtpkadglempbjiaaGreat.exchangeMade
open Go.ChangeShapes Go.WideShapes Go.ChangeAt Go.RowKit
open Go.ChangeMaps (open_string shut_string)
set_option linter.unusedVariables false
theorem own : ownKnob Tryz.prog.godebug = none := by kernel_rfl
theorem laidOut : laidOutB Tryz.prog = true := by kernel_rfl
set_option maxRecDepth 100000 in
set_option maxHeartbeats 4000000 in
theorem lifted (os : Os) (started : os.Started) (H : Type) (enc : TypeId × Value → H) :
    ReturnsInHanded {} Tryz.checked os 3 .any (Rows.exchangeMadeSpec.pre6 enc Tryz.prog Tryz.f3 Rows.exchangeMadeRow.domain false) (Rows.exchangeMadeSpec.post enc Tryz.prog Tryz.f3 false true false false) := by
  refine returnsInHanded_of_change_sized (C := Tryz.checked) own started (by kernel_rfl) Tryz.func3
    (ChangeSpec.witness6 (enc := enc) (C := Tryz.checked) false ⟨#[], #[.agg #[.int .u8 0, .int .u16 0, .int .u32 0], .int .u8 0, .int .u8 0, .int .u16 0, .agg #[.int .i64 0, .int .i64 0, .int .i64 0, .bool false, .bool false], .int .i64 0, .int .i64 0, .int .i64 0], []⟩ 8 (by kernel_rfl) (by kernel_rfl) (by kernel_rfl) (by kernel_rfl)) ?_
  intro W base args ds gs before hval0 hW hcnd hsz0 _
  have hsz : (DataW.weightsEach Tryz.prog (Tryz.f3.params.toList ++ Rows.exchangeMadeSpec.plain.varTypes Tryz.prog) (ds ++ gs)).all (· ≤ reachBytes) = true := hsz0
  have hval : ∀ (j : Nat) t v, Tryz.f3.params[j]? = some t → args[j]? = some v → Value.okWide Tryz.prog W .any base t v := hval0
  have hW' := hW
  obtain ⟨p, q, hA0, hV, rfl, hfz, hnd⟩ := hW
  have hA : DataW.TrodAll enc Tryz.prog W 0 (fun _ => true) true Tryz.f3.params.toList args.toList ds p := hA0
  rw [Tryz.params3] at hA hval hsz
  obtain ⟨v0, vs0, d0, ds0, p0, q0, hargs, rfl, rfl, h0, r0⟩ := trodAll_cons hA
  obtain ⟨v1, vs1, d1, ds1, p1, q1, rfl, rfl, rfl, h1, r1⟩ := trodAll_cons r0
  obtain ⟨v2, vs2, d2, ds2, p2, q2, rfl, rfl, rfl, h2, r2⟩ := trodAll_cons r1
  obtain ⟨v3, vs3, d3, ds3, p3, q3, rfl, rfl, rfl, h3, r3⟩ := trodAll_cons r2
  obtain ⟨v4, vs4, d4, ds4, p4, q4, rfl, rfl, rfl, h4, r4⟩ := trodAll_cons r3
  obtain ⟨v5, vs5, d5, ds5, p5, q5, rfl, rfl, rfl, h5, r5⟩ := trodAll_cons r4
  obtain ⟨v6, vs6, d6, ds6, p6, q6, rfl, rfl, rfl, h6, r6⟩ := trodAll_cons r5
  obtain ⟨v7, vs7, d7, ds7, p7, q7, rfl, rfl, rfl, h7, r7⟩ := trodAll_cons r6
  obtain ⟨rfl, rfl, rfl⟩ := trodAll_nil r7
  obtain rfl : args = #[v0, v1, v2, v3, v4, v5, v6, v7] := by cases args; simp_all
  obtain ⟨rfl, rfl⟩ := trodVars_none hV
  obtain ⟨c0_0, c0_1, c0_2, y0_0, y0_1, y0_2, n0, rfl, rfl, rfl, t0_0, t0_1, t0_2⟩ := Go.Joins.open_agg3 Tryz.underlying25 (by kernel_rfl) (by kernel_rfl) (hval 0 25 v0 rfl rfl) h0
  obtain ⟨a0_0, e0_0, rfl, w0_0⟩ := DataW.trod_int Tryz.underlying5 t0_0
  simp at e0_0
  subst e0_0
  obtain ⟨a0_1, e0_1, rfl, w0_1⟩ := DataW.trod_int Tryz.underlying22 t0_1
  simp at e0_1
  subst e0_1
  obtain ⟨a0_2, e0_2, rfl, w0_2⟩ := DataW.trod_int Tryz.underlying23 t0_2
  simp at e0_2
  subst e0_2
  obtain ⟨a1, rfl, rfl, rfl, w1⟩ := open_int Tryz.underlying5 (hval 1 5 v1 rfl rfl) h1
  obtain ⟨a2, rfl, rfl, rfl, w2⟩ := open_int Tryz.underlying5 (hval 2 5 v2 rfl rfl) h2
  obtain ⟨a3, rfl, rfl, rfl, w3⟩ := open_int Tryz.underlying22 (hval 3 22 v3 rfl rfl) h3
  obtain ⟨c4_0, c4_1, c4_2, c4_3, c4_4, y4_0, y4_1, y4_2, y4_3, y4_4, n4, rfl, rfl, rfl, t4_0, t4_1, t4_2, t4_3, t4_4⟩ := agg5_open Tryz.underlying27 (by kernel_rfl) (by kernel_rfl) (hval 4 27 v4 rfl rfl) h4
  obtain ⟨a4_0, e4_0, rfl, w4_0⟩ := DataW.trod_int Tryz.underlying3 t4_0
  simp at e4_0
  subst e4_0
  obtain ⟨a4_1, e4_1, rfl, w4_1⟩ := DataW.trod_int Tryz.underlying3 t4_1
  simp at e4_1
  subst e4_1
  obtain ⟨a4_2, e4_2, rfl, w4_2⟩ := DataW.trod_int Tryz.underlying3 t4_2
  simp at e4_2
  subst e4_2
  obtain ⟨a4_3, e4_3, rfl⟩ := DataW.trod_bool Tryz.underlying4 t4_3
  simp at e4_3
  subst e4_3
  obtain ⟨a4_4, e4_4, rfl⟩ := DataW.trod_bool Tryz.underlying4 t4_4
  simp at e4_4
  subst e4_4
  obtain ⟨a5, rfl, rfl, rfl, w5⟩ := open_int Tryz.underlying3 (hval 5 3 v5 rfl rfl) h5
  obtain ⟨a6, rfl, rfl, rfl, w6⟩ := open_int Tryz.underlying3 (hval 6 3 v6 rfl rfl) h6
  obtain ⟨a7, rfl, rfl, rfl, w7⟩ := open_int Tryz.underlying3 (hval 7 3 v7 rfl rfl) h7
  clear hA0 hval0 hsz0 hsz
  refine (emade_ok a0_0 a0_1 a0_2 a1 a2 a3 a4_0 a4_1 a4_2 a4_3 a4_4 a5 a6 a7 W ).mono fun e W' ⟨he, bel⟩ => ?_
  subst he
  exact ⟨_, rfl, _, _, _, [], _, [], hW', trodAll_mk1 (shut_bool Tryz.underlying4 _), (trodAll_cons_mk (Go.Joins.shut_agg3 (y0 := (.lit (.int .u8 a0_0), [])) (y1 := (.lit (.int .u16 a0_1), [])) (y2 := (.lit (.int .u32 a0_2), [])) Tryz.underlying25 (by kernel_rfl) (by kernel_rfl) ⟨1, trod1_int Tryz.underlying5 w0_0⟩ ⟨1, trod1_int Tryz.underlying22 w0_1⟩ ⟨1, trod1_int Tryz.underlying23 w0_2⟩) (trodAll_cons_mk (shut_int Tryz.underlying5 w1) (trodAll_cons_mk (shut_int Tryz.underlying5 w2) (trodAll_cons_mk (shut_int Tryz.underlying22 w3) (trodAll_cons_mk (agg5_shut (y0 := (.lit (.int .i64 a4_0), [])) (y1 := (.lit (.int .i64 a4_1), [])) (y2 := (.lit (.int .i64 a4_2), [])) (y3 := (.lit (.bool a4_3), [])) (y4 := (.lit (.bool a4_4), [])) Tryz.underlying27 (by kernel_rfl) (by kernel_rfl) (trod1_int Tryz.underlying3 w4_0) (trod1_int Tryz.underlying3 w4_1) (trod1_int Tryz.underlying3 w4_2) (trod1_bool Tryz.underlying4) (trod1_bool Tryz.underlying4)) (trodAll_cons_mk (shut_int Tryz.underlying3 w5) (trodAll_cons_mk (shut_int Tryz.underlying3 w6) (trodAll_cons_mk (shut_int Tryz.underlying3 w7) trodAll_mk0)))))))), rfl, bel.frame _, fun h => by cases h⟩
theorem over : Rows.exchangeMadeRow.holds Tryz.pinned (OpenSpec.ofChange Rows.exchangeMadeSpec) :=
  OpenClaim.holds_of_wide 3 Tryz.f3 rfl rfl rfl rfl rfl rfl rfl ⟨rfl, rfl, rfl, rfl, rfl⟩ rfl rfl rfl rfl rfl (by kernel_rfl) Tryz.func3 (by kernel_rfl)
    (of_decide_eq_true (by kernel_rfl)) (by unfold Func.isWrapper; first | (rw [if_pos (by decide +kernel)]; kernel_rfl) | (rw [if_neg (by decide +kernel)]; exact ⟨rfl, rfl⟩))
    (fun os started H enc _ => lifted os started H enc)
end Go.Proofs.YtpkadglempbjiaaGreat.exchangeMade
namespace Go.Proofs.YtpkadglempbjiaaGreat
theorem exchangeMade_holds : Rows.ExchangeMadeSaid := exchangeMade.over
#print axioms exchangeMade_holds
end Go.Proofs.YtpkadglempbjiaaGreat
