/- A part. -/
import Derived.Test.YtabhieafjkaocaaGreatMaaa
import Derived.Laws.ResultCell
import Derived.Laws.Rows
import Derived.Laws.Tables
import Derived.Deep.WholeRow
set_option linter.unusedVariables false
set_option linter.unusedSimpArgs false
namespace Go.Proofs.YtabhieafjkaocaaGreat
open Go.RowKit
section
variable {P : Program} {ops : Array Oper} {rest : List Oper} {o : Oper} {a : Act} {w : World} {Q : Exit → Act → World → Prop}
theorem wpList_store_new (hgd : o.guard = none) (ty : TypeId) (x y : Operand) (ho : o.op = .store ty x y)
    (w0 : World) (t : TypeId) (old cells : Array Value) (hw : w = w0.alloc (.cells old t)) (hx : a.eval x = .pointer (some ⟨w0.heap.size, 0, none⟩)) (hy : a.eval y = .agg cells)
    (hi : (P.info? ty).map (·.size) = some cells.size) (hold : old.size = cells.size) (h1 : cells.all (·.oneCell') = true)
    (h : wpList P ops Q rest (a.put o.dst undef) (w0.alloc (.cells cells t))) : wpList P ops Q (o :: rest) a w := by
  subst hw
  refine wpList_plain hgd fun _ hK => wp_store_row ty x y ho w0.heap.size cells hx hy t old (heap_alloc_new w0 _) hi hold h1 ?_
  rw [World.setRow_alloc_new]
  exact hK _ _ h
theorem wpList_store_row (hgd : o.guard = none) (ty : TypeId) (x y : Operand) (ho : o.op = .store ty x y)
    (g : Nat) (t : TypeId) (old cells : Array Value) (hx : a.eval x = .pointer (some ⟨g, 0, none⟩)) (hy : a.eval y = .agg cells) (hg : w.heap[g]? = some (.cells old t (0, 0)))
    (hi : (P.info? ty).map (·.size) = some cells.size) (hold : old.size = cells.size) (h1 : cells.all (·.oneCell') = true)
    (h : wpList P ops Q rest (a.put o.dst undef) (w.setRow g cells)) : wpList P ops Q (o :: rest) a w :=
  wpList_plain hgd fun _ hK => wp_store_row ty x y ho g cells hx hy t old hg hi hold h1 (hK _ _ h)
end
theorem Kept.setRow {M : Nat → Prop} {a b : World} (h : Kept M a b) (g : Nat) (cs : Array Value) (hg : g < a.heap.size → M g) : Kept M a (b.setRow g cs) :=
  h.next (N := fun k => k = g) ⟨rfl, rfl, rfl, by simp, fun k _ hn => setRow_other b g k cs hn⟩ (fun k hk e => by subst e; exact hg hk)
theorem results_one {P : Program} {fn : Func} {p : Tmp} {ty : TypeId} (h : fn.results = #[.cell p ty]) (tmps : Array Value) (w : World) (g : Nat) (t : TypeId) (cs : Array Value) (fr : Nat × Nat) (d : TypeDesc)
    (hp : tmps.getD p undef = .pointer (some ⟨g, 0, none⟩)) (hg : w.heap[g]? = some (.cells cs t fr))
    (hu : P.underlying ty = some d) (hd : (match d with | .struct _ | .array _ _ => true | _ => false) = true) (hi : (P.info? ty).map (·.size) = some cs.size) :
    (results fn tmps).run P w = .ok (.agg cs) w := results_cell_row h tmps w g t cs fr d hp hg hu hd hi
theorem results_pair {P : Program} {fn : Func} {p u : Tmp} {ty : TypeId} (h : fn.results = #[.cell p ty, .tmp u]) (tmps : Array Value) (w : World) (g : Nat) (t : TypeId) (cs : Array Value) (fr : Nat × Nat) (d : TypeDesc)
    (hp : tmps.getD p undef = .pointer (some ⟨g, 0, none⟩)) (hg : w.heap[g]? = some (.cells cs t fr))
    (hu : P.underlying ty = some d) (hd : (match d with | .struct _ | .array _ _ => true | _ => false) = true) (hi : (P.info? ty).map (·.size) = some cs.size) :
    (results fn tmps).run P w = .ok (.tuple #[.agg cs, tmps.getD u undef]) w := by
  rw [results_cell_tmp h, hp]
  simp [asAddr, Result.andThen, run_loadVar_row w g t ty cs fr d hg hu hd hi]
structure InC (C : World → Prop) where
  world : World
  here : C world
instance {M : Nat → Prop} {w : World} : Nonempty (InC (Kept M w)) := ⟨⟨w, Kept.refl _ _⟩⟩
instance {M : Nat → Prop} {w : World} : Inhabited (InC (Kept M w)) := ⟨⟨w, Kept.refl _ _⟩⟩
theorem wp_region_in {P : Program} (C : World → Prop) {id : Nat} {Q : Exit → Act → World → Prop} {a : Act} {w : World} {l : List Oper} (hm : P.follows .mixedOrders = true) (hB : Region.lexB .any l.toArray = true) (hC : C w.drew)
    (h : wpQuiet P l.toArray (fun w' => ∃ p : InC C, w' = p.world) (fun a' => ∀ w', (∃ p : InC C, w' = p.world) → Q .normal a' w') l a) : (Code.region id l.toArray true).wp P Q a w :=
  wp_region_quiet (C := fun w' => ∃ p : InC C, w' = p.world) hm hB ⟨⟨w.drew, hC⟩, rfl⟩ (by simpa using h)
theorem in_of {P : Program} {C : World → Prop} {f : FuncId} {args : Array Value} {w : World} {v : Value} {R : World → Prop}
    (h : Calls P f args w fun e w' => e = .returned v ∧ R w') (hR : ∀ w', R w' → C w') : Calls P f args w fun e w' => e = .returned v ∧ ∃ p : InC C, w' = p.world :=
  h.mono fun _ w' ⟨he, hr⟩ => ⟨he, ⟨w', hR w' hr⟩, rfl⟩
theorem in_same {P : Program} {C : World → Prop} {f : FuncId} {args : Array Value} {p : InC C} {v : Value}
    (h : Calls P f args p.world fun e w' => e = .returned v ∧ p.world = w') : Calls P f args p.world fun e w' => e = .returned v ∧ ∃ p : InC C, w' = p.world :=
  in_of h fun _ e => e ▸ p.here
theorem in_kept {P : Program} {M : Nat → Prop} {w0 : World} {f : FuncId} {args : Array Value} {p : InC (Kept M w0)} {v : Value}
    (h : Calls P f args p.world fun e w' => e = .returned v ∧ Kept No p.world w') : Calls P f args p.world fun e w' => e = .returned v ∧ ∃ p : InC (Kept M w0), w' = p.world :=
  in_of h fun _ k => p.here.next k (fun _ _ h => h.elim)
theorem Kept.cell {M : Nat → Prop} {w w' : World} (h : Kept M w w') {k o : Nat} (hk : k < w.heap.size) (hm : ¬ M k) : w'.cell? ⟨k, o, none⟩ = w.cell? ⟨k, o, none⟩ := by
  unfold World.cell?
  rw [h.block k hk hm]
theorem cell_in {M : Nat → Prop} {w0 : World} {g o : Nat} {cs : Array Value} {t : TypeId} {fr : Nat × Nat} {v : Value} (hg : w0.heap[g]? = some (.cells cs t fr)) (hm : ¬ M g) (hv : cs[o]? = some v) :
    ∀ p : InC (Kept M w0), p.world.cell? ⟨g, o, none⟩ = some v := fun p => by
  rw [cell_of_row p.world g o _ _ _ (p.here.heap hg hm)]; exact hv
theorem cell_at {M : Nat → Prop} {w0 : World} {g o : Nat} {v : Value} (h : w0.cell? ⟨g, o, none⟩ = some v) (hm : ¬ M g) : ∀ p : InC (Kept M w0), p.world.cell? ⟨g, o, none⟩ = some v := fun p => by
  rw [p.here.cell (block_lt_of_cell h) hm]; exact h
end Go.Proofs.YtabhieafjkaocaaGreat
