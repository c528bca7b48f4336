/- A part. -/
import Derived.Test.YtabhieafjkaocaaGreatMaaa
import Derived.Test.YtabhieafjkaocaaGreatChecked
import Derived.Laws.AppendOwn
import Derived.Maps.AppendAt
import Derived.RangeFuncNested
import Derived.OwnWalk
set_option linter.unusedVariables false
set_option linter.unusedSimpArgs false
namespace Go.Proofs.YtabhieafjkaocaaGreat
open Go.RowKit
def byteVals (l : List UInt8) : List Value := l.map fun b => Value.int .u8 (b.toNat : Int)
structure WrAt (B : Nat) (w : World) (p : Nat) (v : Value) (l : List UInt8) : Prop where
  head : Boxed w p 208 v
  row : w.ownsRow B 5 1 v l.length (byteVals l)
  from_ : B ≤ p
theorem WrAt.lt {B : Nat} {w : World} {p : Nat} {v : Value} {l : List UInt8} (h : WrAt B w p v l) : p < w.heap.size := lt_of_heap h.head
theorem WrAt.kept {B : Nat} {M : Nat → Prop} {w w' : World} {p : Nat} {v : Value} {l : List UInt8} (h : WrAt B w p v l) (k : Kept M w w') (hm : ∀ j, B ≤ j → j < w.heap.size → ¬ M j) : WrAt B w' p v l :=
  ⟨k.heap h.head (hm _ h.from_ h.lt), k.row h.row fun g hg => hm g (h.row.lt g hg).1 (h.row.lt g hg).2, h.from_⟩
theorem Tryz.infoU8 : (Tryz.prog.info? 5).map (fun i => (i.zero, i.size, i.bytes)) = some (some (.int .u8 0), 1, 1) := by kernel_rfl
theorem newWriter_ok (w : World) : Calls Tryz.prog 95 #[] w fun e w' => ∃ p v, e = .returned (.pointer (some ⟨p, 0, none⟩)) ∧ Kept No w w' ∧ WrAt w.heap.size w' p v [] := by
  go_enter Tryz.func95, Tryz.ntmps95
  go_wp2
  go_ret
  exact ⟨_, _, rfl, (Kept.refl _ _).alloc _, heap_alloc_new w _, World.ownsRow_nil _ _ _ _, Nat.le_refl _⟩
theorem appendedW {W w1 : World} {n₁ B : Nat} {t e : TypeId} {size : Nat} {v v' : Value} {k m : Nat} {xs ys : List Value} {tmp : Obj}
    (hv : Boxed W B t v) (hte : t ≠ e) (hrow : W.ownsRow n₁ e size v k xs) (hB : n₁ ≤ B)
    (hown' : w1.ownsRow n₁ e size v' m ys) (hgrow : (W.alloc tmp).grownBy w1 v.ownBlock) :
    Boxed w1 B t v ∧ Boxed (w1.setCell ⟨B, 0, none⟩ v') B t v' ∧ (w1.setCell ⟨B, 0, none⟩ v').ownsRow n₁ e size v' m ys ∧ Kept (fun j => n₁ ≤ j) W (w1.setCell ⟨B, 0, none⟩ v') := by
  have hrow0 : W.ownsRow 0 e size v k xs := ⟨hrow.1, hrow.2.imp id fun ⟨g, cap, cur, h1, _, h3⟩ => ⟨g, cap, cur, h1, Nat.zero_le _, h3⟩⟩
  have hown0 : w1.ownsRow 0 e size v' m ys := ⟨hown'.1, hown'.2.imp id fun ⟨g, cap, cur, h1, _, h3⟩ => ⟨g, cap, cur, h1, Nat.zero_le _, h3⟩⟩
  obtain ⟨a, b, c, d, _⟩ := Boxed.appended (n₀ := 0) hv hte hrow0 (Nat.zero_le _) (Nat.zero_le _) hown0 hgrow
  have hnr := Boxed.not_row a hte hown'
  refine ⟨a, b, hown'.kept (grownBy_setCell' w1 B v') (.inr (fun e => hnr e.symm)), ?_⟩
  have h1 : Kept (fun j => n₁ ≤ j) W (W.alloc tmp) := (Kept.refl _ _).alloc _
  have h2 : Kept (fun j => n₁ ≤ j) W w1 := h1.next (Kept.of_grown hgrow) fun j _ e => (hrow.lt j e).1
  exact h2.setCell _ _ fun _ => hB
end Go.Proofs.YtabhieafjkaocaaGreat
