/- A region that draws its order, whose operations read and whose callees leave a class of worlds: one walk in the text's order. No program. -/
import Derived.Test.YtpkadglempbjiaaGreatWld
import Derived.Laws.Rows
namespace Go.Proofs.YtpkadglempbjiaaGreat
open Go.RowKit
set_option linter.unusedVariables false

/-- A world of a class. -/
structure InC (C : World → Prop) where
  world : World
  here : C world

instance {M : Nat → Prop} {w : World} : Nonempty (InC (Kept M w)) := ⟨⟨w, Kept.refl _ _⟩⟩
instance {M : Nat → Prop} {w : World} : Inhabited (InC (Kept M w)) := ⟨⟨w, Kept.refl _ _⟩⟩

theorem wp_region_in {P : Program} (C : World → Prop) {id : Nat} {Q : Exit → Act → World → Prop} {a : Act} {w : World} {l : List Oper} (hm : P.follows .mixedOrders = true) (hB : Region.lexB .any l.toArray = true) (hC : C w.drew)
    (h : wpQuiet P l.toArray (fun w' => ∃ p : InC C, w' = p.world) (fun a' => ∀ w', (∃ p : InC C, w' = p.world) → Q .normal a' w') l a) : (Code.region id l.toArray true).wp P Q a w :=
  wp_region_quiet (C := fun w' => ∃ p : InC C, w' = p.world) hm hB ⟨⟨w.drew, hC⟩, rfl⟩ (by simpa using h)

/-- A callee's contract, met in a world of the class. -/
theorem in_of {P : Program} {C : World → Prop} {f : FuncId} {args : Array Value} {w : World} {v : Value} {R : World → Prop}
    (h : Calls P f args w fun e w' => e = .returned v ∧ R w') (hR : ∀ w', R w' → C w') : Calls P f args w fun e w' => e = .returned v ∧ ∃ p : InC C, w' = p.world :=
  h.mono fun _ w' ⟨he, hr⟩ => ⟨he, ⟨w', hR w' hr⟩, rfl⟩
theorem in_same {P : Program} {C : World → Prop} {f : FuncId} {args : Array Value} {p : InC C} {v : Value}
    (h : Calls P f args p.world fun e w' => e = .returned v ∧ p.world = w') : Calls P f args p.world fun e w' => e = .returned v ∧ ∃ p : InC C, w' = p.world :=
  in_of h fun _ e => e ▸ p.here
/-- .. where the class is what a world keeps. -/
theorem in_kept {P : Program} {M : Nat → Prop} {w0 : World} {f : FuncId} {args : Array Value} {p : InC (Kept M w0)} {v : Value}
    (h : Calls P f args p.world fun e w' => e = .returned v ∧ Kept No p.world w') : Calls P f args p.world fun e w' => e = .returned v ∧ ∃ p : InC (Kept M w0), w' = p.world :=
  in_of h fun _ k => p.here.next k (fun _ _ h => h.elim)

theorem Kept.cell {M : Nat → Prop} {w w' : World} (h : Kept M w w') {k o : Nat} (hk : k < w.heap.size) (hm : ¬ M k) : w'.cell? ⟨k, o, none⟩ = w.cell? ⟨k, o, none⟩ := by
  unfold World.cell?
  rw [h.block k hk hm]
/-- A cell of a block that is known whole, in every world of the class. -/
theorem cell_in {M : Nat → Prop} {w0 : World} {g o : Nat} {cs : Array Value} {t : TypeId} {fr : Nat × Nat} {v : Value} (hg : w0.heap[g]? = some (.cells cs t fr)) (hm : ¬ M g) (hv : cs[o]? = some v) :
    ∀ p : InC (Kept M w0), p.world.cell? ⟨g, o, none⟩ = some v := fun p => by
  rw [cell_of_row p.world g o _ _ _ (p.here.heap hg hm)]; exact hv
theorem cell_at {M : Nat → Prop} {w0 : World} {g o : Nat} {v : Value} (h : w0.cell? ⟨g, o, none⟩ = some v) (hm : ¬ M g) : ∀ p : InC (Kept M w0), p.world.cell? ⟨g, o, none⟩ = some v := fun p => by
  rw [p.here.cell (block_lt_of_cell h) hm]; exact h
end Go.Proofs.YtpkadglempbjiaaGreat
