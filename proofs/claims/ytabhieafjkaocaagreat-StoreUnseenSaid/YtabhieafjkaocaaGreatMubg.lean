/- Merged by wip/tools/merge.py out of: CmD. -/
import Derived.Test.YtabhieafjkaocaaGreatMuaa
import Derived.OpenShut
/- Slices of ints as they come in. -/
namespace Go.Proofs.YtabhieafjkaocaaGreat
open Go.RowKit
set_option linter.unusedVariables false

/-- A slice of ints that came in, as its list. -/
def IntsAt (w : World) (v : Value) (l : List Int) : Prop :=
  (∀ x ∈ l, -9223372036854775808 ≤ x ∧ x ≤ 9223372036854775807) ∧ l.length ≤ 9223372036854775807 ∧
  ((v = .slice none 0 0 ∧ l = []) ∨ ∃ a cap, v = .slice (some a) l.length cap ∧ ∀ i, i < l.length → a.block < w.heap.size ∧ w.cell? (a.add i) = some (.int .i64 (l.getD i 0)))

theorem IntsAt.kept {M : Nat → Prop} {w w' : World} {v : Value} {l : List Int} (h : IntsAt w v l) (k : Kept M w w') (hm : ∀ b, b < w.heap.size → ¬ M b) : IntsAt w' v l := by
  refine ⟨h.1, h.2.1, ?_⟩
  rcases h.2.2 with h | ⟨a, cap, rfl, hc⟩
  · exact .inl h
  · refine .inr ⟨a, cap, rfl, fun i hi => ?_⟩
    obtain ⟨h1, h2⟩ := hc i hi
    refine ⟨Nat.lt_of_lt_of_le h1 k.size, ?_⟩
    have hb : (a.add i).block = a.block := by unfold Addr.add; split <;> rfl
    rw [World.cell?_of_block (w := w) (k.block _ (by rw [hb]; exact h1) (hm _ (by rw [hb]; exact h1)))]
    exact h2

theorem IntsAt.len {w : World} {v : Value} {l : List Int} (h : IntsAt w v l) : ∃ a cap, v = .slice a l.length cap := by
  rcases h.2.2 with ⟨rfl, rfl⟩ | ⟨a, cap, rfl, _⟩
  · exact ⟨none, 0, rfl⟩
  · exact ⟨_, _, rfl⟩

theorem IntsAt.at {w : World} {v : Value} {l : List Int} (h : IntsAt w v l) (h0 : 0 < l.length) :
    ∃ b off cap, v = .slice (some ⟨b, off, none⟩) l.length cap ∧ b < w.heap.size ∧ ∀ i, i < l.length → w.cell? ⟨b, off + i, none⟩ = some (.int .i64 (l.getD i 0)) := by
  rcases h.2.2 with ⟨rfl, rfl⟩ | ⟨a, cap, rfl, hc⟩
  · simp at h0
  · have h1 := (hc 0 h0).1
    obtain ⟨b, off, rfl, h2⟩ := ints_at (fun i hi => (hc i hi).2) h0
    exact ⟨b, off, cap, rfl, h1, h2⟩

theorem IntsAt.elem {w : World} {v : Value} {l : List Int} (h : IntsAt w v l) {i : Nat} (hi : i < l.length) : -9223372036854775808 ≤ l.getD i 0 ∧ l.getD i 0 ≤ 9223372036854775807 := by
  have e : l.getD i 0 = l[i] := by simp [hi]
  rw [e]; exact h.1 _ (List.getElem_mem _)

theorem int_bounds {n : Int} (h : (Lit.int .i64 n).wf = true) : -9223372036854775808 ≤ n ∧ n ≤ 9223372036854775807 := bounds_i64 h

open Go.ChangeShapes Go.WideShapes in
theorem ints_open {H : Type} {enc : TypeId × Value → H} {P : Program} {W : World} {base : Nat} {spare : Nat → Bool} {held : Bool} {t e : TypeId} {a : Option Addr} {len cap : Nat} {d : DataW H} {ps : List MemPlace}
    (hu : P.underlying t = some (.slice e)) (he : P.underlying e = some (.int .i64)) (hc : P.cellsOf e = 1) (h : DataW.Trod enc P W base spare held t (.slice a len cap) d ps) : ∃ l, IntsAt W (.slice a len cap) l := by
  obtain ⟨fuel, hf⟩ := h
  rcases open_ints hu he hc hf with ⟨hcs, _⟩ | ⟨x, l, c, zs, hcs, _, hl, hm, hz, hx, hcell, hwz⟩
  · simp [Value.cells] at hcs
    obtain ⟨rfl, rfl, rfl⟩ := hcs
    exact ⟨[], by simp, by simp, .inl ⟨rfl, rfl⟩⟩
  · simp [Value.cells] at hcs
    obtain ⟨rfl, rfl, rfl⟩ := hcs
    have hl2 : len ≤ zs.length := by
      rw [hz]; split
      · exact hl
      · exact Nat.le_refl _
    have hlen : (zs.take len).length = len := by rw [List.length_take]; omega
    refine ⟨zs.take len, fun y hy => int_bounds (hwz y (List.mem_of_mem_take hy)), ?_, .inr ⟨x, cap, by rw [hlen], fun i hi => ?_⟩⟩
    · rw [hlen]; unfold maxLen at hm; omega
    · rw [hlen] at hi
      have h1 := hcell i (by omega)
      refine ⟨?_, ?_⟩
      · have := World.block_lt_of_cell? W _ h1
        have hb : (x.add i).block = x.block := by unfold Addr.add; split <;> rfl
        rwa [hb] at this
      · rw [h1]; simp [hi]

end Go.Proofs.YtabhieafjkaocaaGreat
