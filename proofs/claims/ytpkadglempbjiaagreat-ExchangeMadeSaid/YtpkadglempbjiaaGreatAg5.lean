/- A struct of five one-cell fields, by value: opened and shut. -/
import Derived.Lib.SmallJoins
namespace Go.Proofs.YtpkadglempbjiaaGreat
open Go.Joins Go.ChangeShapes Go.WideShapes Go.RowKit Go.Deep
section
variable {H : Type} {enc : TypeId × Value → H} {P : Program} {w : World} {base : Nat} {spare : Nat → Bool} {held : Bool}

theorem five {α : Type} {l : List α} (h : l.length = 5) : ∃ a b c d e, l = [a, b, c, d, e] := by
  match l, h with
  | [a, b, c, d, e], _ => exact ⟨a, b, c, d, e, rfl⟩

/-- A field's one cell, read with one step of fuel. -/
theorem trod1_int {t : TypeId} {k : IntKind} {n : Int} (hu : P.underlying t = some (.int k)) (hw : (Lit.int k n).wf = true) : DataW.trod enc P w base spare held 1 t [.int k n] = some (.lit (.int k n), []) := by
  simp [DataW.trod, hu, hw]
theorem trod1_bool {t : TypeId} {b : Bool} (hu : P.underlying t = some .bool) : DataW.trod enc P w base spare held 1 t [.bool b] = some (.lit (.bool b), []) := by
  simp [DataW.trod, hu]

theorem agg5_open {r : Reach} {b0 : Nat} {t : TypeId} {f0 f1 f2 f3 f4 : Field} {v : Value} {d : DataW H} {p : List MemPlace} (hs : P.underlying t = some (.struct #[f0, f1, f2, f3, f4])) (hone : oneCellFields P #[f0, f1, f2, f3, f4] = true) (hC : P.cellsOf t = 5)
    (hv : Value.okWide P w r b0 t v) (h : DataW.Trod enc P w base spare held t v d p) :
    ∃ (v0 v1 v2 v3 v4 : Value) (y0 y1 y2 y3 y4 : DataW H × List MemPlace) (n : Nat), v = .agg #[v0, v1, v2, v3, v4] ∧ d = .agg [y0.1, y1.1, y2.1, y3.1, y4.1] ∧ p = y0.2 ++ (y1.2 ++ (y2.2 ++ (y3.2 ++ y4.2))) ∧
      DataW.trod enc P w base spare held n f0.type [v0] = some y0 ∧ DataW.trod enc P w base spare held n f1.type [v1] = some y1 ∧ DataW.trod enc P w base spare held n f2.type [v2] = some y2 ∧
      DataW.trod enc P w base spare held n f3.type [v3] = some y3 ∧ DataW.trod enc P w base spare held n f4.type [v4] = some y4 := by
  obtain ⟨⟨l⟩, rfl, hsz⟩ := okWide_struct hs hv
  obtain ⟨c0, c1, c2, c3, c4, rfl⟩ := five (hsz.trans hC)
  obtain ⟨fuel, hf⟩ := h
  obtain ⟨xs, n, _, hx, _, hlen, hg⟩ := DataW.trod_struct hs hf
  obtain ⟨y0, y1, y2, y3, y4, rfl⟩ := five hlen
  have k := fun j f hj => hone_of hone j f hj
  obtain ⟨o0, k0⟩ := k 0 f0 rfl
  obtain ⟨o1, k1⟩ := k 1 f1 rfl
  obtain ⟨o2, k2⟩ := k 2 f2 rfl
  obtain ⟨o3, k3⟩ := k 3 f3 rfl
  obtain ⟨o4, k4⟩ := k 4 f4 rfl
  have g0 := hg 0 f0 rfl
  have g1 := hg 1 f1 rfl
  have g2 := hg 2 f2 rfl
  have g3 := hg 3 f3 rfl
  have g4 := hg 4 f4 rfl
  rw [o0, k0] at g0
  rw [o1, k1] at g1
  rw [o2, k2] at g2
  rw [o3, k3] at g3
  rw [o4, k4] at g4
  simp only [Prod.mk.injEq] at hx
  refine ⟨c0, c1, c2, c3, c4, y0, y1, y2, y3, y4, n, rfl, ?_, ?_, ?_, ?_, ?_, ?_, ?_⟩
  · simpa using hx.1
  · simpa using hx.2
  · simpa [Value.cells] using g0
  · simpa [Value.cells] using g1
  · simpa [Value.cells] using g2
  · simpa [Value.cells] using g3
  · simpa [Value.cells] using g4

theorem agg5_shut {t : TypeId} {f0 f1 f2 f3 f4 : Field} {v0 v1 v2 v3 v4 : Value} {y0 y1 y2 y3 y4 : DataW H × List MemPlace} (hs : P.underlying t = some (.struct #[f0, f1, f2, f3, f4])) (hone : oneCellFields P #[f0, f1, f2, f3, f4] = true) (hC : P.cellsOf t = 5)
    (t0 : DataW.trod enc P w base spare held 1 f0.type [v0] = some y0) (t1 : DataW.trod enc P w base spare held 1 f1.type [v1] = some y1) (t2 : DataW.trod enc P w base spare held 1 f2.type [v2] = some y2)
    (t3 : DataW.trod enc P w base spare held 1 f3.type [v3] = some y3) (t4 : DataW.trod enc P w base spare held 1 f4.type [v4] = some y4) :
    DataW.Trod enc P w base spare held t (.agg #[v0, v1, v2, v3, v4]) (.agg [y0.1, y1.1, y2.1, y3.1, y4.1]) (y0.2 ++ (y1.2 ++ (y2.2 ++ (y3.2 ++ y4.2)))) := by
  have k := fun j f hj => hone_of hone j f hj
  obtain ⟨o0, k0⟩ := k 0 f0 rfl
  obtain ⟨o1, k1⟩ := k 1 f1 rfl
  obtain ⟨o2, k2⟩ := k 2 f2 rfl
  obtain ⟨o3, k3⟩ := k 3 f3 rfl
  obtain ⟨o4, k4⟩ := k 4 f4 rfl
  have ts := trod_struct_mk (enc := enc) (w := w) (base := base) (spare := spare) (held := held) (n := 1) (cs := [v0, v1, v2, v3, v4]) (xs := [y0, y1, y2, y3, y4]) hs (by simp [hC])
    (by simp [o0, k0, o1, k1, o2, k2, o3, k3, o4, k4, t0, t1, t2, t3, t4])
  exact ⟨_, by simpa [Value.cells] using ts⟩
end
end Go.Proofs.YtpkadglempbjiaaGreat
