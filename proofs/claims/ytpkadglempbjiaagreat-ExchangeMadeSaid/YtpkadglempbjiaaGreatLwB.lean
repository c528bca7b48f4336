/- Laws for walks: a struct or an array loaded from the middle of a block, or stored there. No program. -/
import Derived.Test.YtpkadglempbjiaaGreatLwA
namespace Go.Proofs.YtpkadglempbjiaaGreat
open Go.RowKit
set_option linter.unusedVariables false
set_option linter.unusedSimpArgs false

theorem add_off (g off i : Nat) : (⟨g, off, none⟩ : Addr).add i = ⟨g, off + i, none⟩ := by unfold Addr.add; split <;> simp_all

/-- cur, with vs laid over it from place k on. -/
def over (cur : Array Value) (k : Nat) (vs : List Value) : Array Value := (cur.toList.take k ++ vs ++ cur.toList.drop (k + vs.length)).toArray

theorem over_nil (cur : Array Value) (k : Nat) : over cur k [] = cur := by
  unfold over
  simp

theorem over_cons (cur : Array Value) (k : Nat) (v : Value) (vs : List Value) (h : k < cur.size) : over (cur.setIfInBounds k v) (k + 1) vs = over cur k (v :: vs) := by
  unfold over
  congr 1
  rw [Array.toList_setIfInBounds]
  apply List.ext_getElem?
  intro j
  have hk : k < cur.toList.length := by simpa using h
  simp only [List.getElem?_append, List.length_append, List.length_take, List.length_set, List.getElem?_take, List.getElem?_drop, List.length_cons, List.getElem?_set]
  have m1 : min (k + 1) cur.toList.length = k + 1 := by omega
  have m2 : min k cur.toList.length = k := by omega
  rw [m1, m2]
  by_cases h1 : j < k
  · have a1 : j < k + 1 + vs.length := by omega
    have a2 : j < k + 1 := by omega
    have a3 : j < k + (vs.length + 1) := by omega
    have a4 : ¬ k = j := by omega
    simp [h1, a1, a2, a3, a4]
  · by_cases h2 : j = k
    · subst h2
      have a1 : j < j + 1 + vs.length := by omega
      have a3 : j < j + (vs.length + 1) := by omega
      simp [a1, a3, h]
    · by_cases h3 : j < k + 1 + vs.length
      · have a2 : ¬ j < k + 1 := by omega
        have a3 : j < k + (vs.length + 1) := by omega
        have a5 : j - k = (j - (k + 1)) + 1 := by omega
        simp [h1, h3, a2, a3, a5]
      · have a2 : ¬ j < k + 1 := by omega
        have a3 : ¬ j < k + (vs.length + 1) := by omega
        have a6 : ¬ k = k + 1 + vs.length + (j - (k + 1 + vs.length)) := by omega
        have a7 : k + 1 + vs.length + (j - (k + 1 + vs.length)) = k + (vs.length + 1) + (j - (k + (vs.length + 1))) := by omega
        simp [h3, a3, a7]
        intro e
        omega

section
variable {P : Program}

theorem run_storeCells_part (g off : Nat) (t : TypeId) : ∀ (vs : List Value) (i : Nat) (cur : Array Value) (w : World), w.heap[g]? = some (.cells cur t (0, 0)) → off + i + vs.length ≤ cur.size → (∀ v ∈ vs, v.oneCell' = true) →
    (storeCells ⟨g, off, none⟩ vs i).run P w = .ok () (w.setRow g (over cur (off + i) vs)) := by
  intro vs
  induction vs with
  | nil =>
    intro i cur w hg hl h1
    rw [over_nil]
    have e : w.setRow g cur = w := by
      have hlt : g < w.heap.size := (Array.getElem?_eq_some_iff.1 hg).1
      have hv : w.heap[g] = .cells cur t (0, 0) := (Array.getElem?_eq_some_iff.1 hg).2
      unfold World.setRow
      cases w with
      | mk heap tape drawn os output =>
        congr 1
        apply Array.ext
        · simp
        · intro k h1 h2
          simp only [Array.getElem_modify]
          split
          · rename_i hk; subst hk; simp at hv; simp [hv]
          · rfl
    rw [e]
    rfl
  | cons v rest ih =>
    intro i cur w hg hl h1
    simp only [List.length_cons] at hl
    have hi : off + i < cur.size := by omega
    have hcell : w.cell? ⟨g, off + i, none⟩ = some cur[off + i] := by simp [World.cell?, hg, hi]
    have hfro : w.frozen? ⟨g, off + i, none⟩ = false := by simp [World.frozen?, hg]
    have hst : (store ((⟨g, off, none⟩ : Addr).add i) v).run P w = .ok () (w.setRow g (cur.setIfInBounds (off + i) v)) := by
      rw [add_off, run_store P w _ v _ (h1 v (by simp)), hcell]
      simp [hfro, setCell_eq_setRow w g (off + i) cur t (0, 0) v hg]
    have h2 := ih (i + 1) (cur.setIfInBounds (off + i) v) (w.setRow g (cur.setIfInBounds (off + i) v)) (setRow_heap w g cur _ t _ hg) (by simp; omega) (fun x hx => h1 x (by simp [hx]))
    simp only [storeCells, Sem.run_bind, hst, Result.andThen_ok, h2, setRow_setRow]
    rw [show off + (i + 1) = off + i + 1 by omega, over_cons cur (off + i) v rest hi]

theorem run_storeVar_part (w : World) (g off : Nat) (t ty : TypeId) (old cells : Array Value) (hg : w.heap[g]? = some (.cells old t (0, 0))) (hi : (P.info? ty).map (·.size) = some cells.size)
    (ho : off + cells.size ≤ old.size) (h1 : cells.all (·.oneCell') = true) :
    (storeVar ty ⟨g, off, none⟩ (.agg cells)).run P w = .ok () (w.setRow g (over old off cells.toList)) := by
  have := run_storeCells_part (P := P) g off t cells.toList 0 old w hg (by simpa using ho) (fun v hv => (Array.all_eq_true_iff_forall_mem.1 h1) v (by simpa using hv))
  cases hq : P.info? ty with
  | none => simp [hq] at hi
  | some i =>
    have hs : cells.size = i.size := by simp [hq] at hi; omega
    simp [storeVar, sizeOf, typeInfo, hq, Value.cells, hs, this]

/-- A struct or an array stored into the middle of a block. -/
theorem wpList_store_part {ops : Array Oper} {rest : List Oper} {o : Oper} {a : Act} {w : World} {Q : Exit → Act → World → Prop} (hgd : o.guard = none) (ty : TypeId) (x y : Operand) (ho : o.op = .store ty x y)
    (g off : Nat) (t : TypeId) (old cells : Array Value) (hx : a.eval x = .pointer (some ⟨g, off, none⟩)) (hy : a.eval y = .agg cells) (hg : w.heap[g]? = some (.cells old t (0, 0)))
    (hi : (P.info? ty).map (·.size) = some cells.size) (hold : off + cells.size ≤ old.size) (h1 : cells.all (·.oneCell') = true)
    (h : wpList P ops Q rest (a.put o.dst undef) (w.setRow g (over old off cells.toList))) : wpList P ops Q (o :: rest) a w := by
  refine wpList_plain hgd fun _ hK => ?_
  unfold Oper.wp execOp
  simp only [ho, hx, hy, Instr.storeAt, Instr.sureAddr, Sem.run_bind, Sem.run_pure, Result.andThen_ok, run_storeVar_part w g off t ty old cells hg hi hold h1]
  exact hK _ _ h

/-- A struct or an array loaded from the middle of a block. -/
theorem run_loadVar_part (w : World) (g off : Nat) (t ty : TypeId) (cs : Array Value) (cells : List Value) (fr : Nat × Nat) (d : TypeDesc) (hg : w.heap[g]? = some (.cells cs t fr))
    (hu : P.underlying ty = some d) (hd : (match d with | .struct _ | .array _ _ => true | _ => false) = true) (hi : (P.info? ty).map (·.size) = some cells.length) (hc : ∀ j v, cells[j]? = some v → cs[off + j]? = some v) :
    (loadVar ty ⟨g, off, none⟩).run P w = .ok (.agg cells.toArray) w := by
  have hl : (loadCells ⟨g, off, none⟩ cells.length).run P w = .ok cells.toArray w :=
    run_loadCells_list (P := P) w ⟨g, off, none⟩ cells (fun j v hv => by
      rw [add_off, cell_of_row w g (off + j) cs t fr hg]
      exact hc j v hv)
  cases hq : P.info? ty with
  | none => simp [hq] at hi
  | some i =>
    have hs : i.size = cells.length := by simpa [hq] using hi
    have hagg : (isAgg ty).run P w = .ok true w := by
      unfold isAgg
      rw [Sem.run_bind, run_underlying hu w]
      cases d <;> simp_all
    simp [loadVar, Sem.run_bind, hagg, sizeOf, typeInfo, hq, hs, hl]
end
end Go.Proofs.YtpkadglempbjiaaGreat
