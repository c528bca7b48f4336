/- wire.Writer: Byte, with just the blocks that it turns. -/
import Derived.Test.YtpkadglempbjiaaGreatWrA
import Derived.Deep.AppendLies
namespace Go.Proofs.YtpkadglempbjiaaGreat
open Go.RowKit
set_option linter.unusedVariables false

/-- The blocks that a step of a writer at p with the row of v may turn. -/
abbrev WrM (p : Nat) (v : Value) : Nat → Prop := fun k => k = p ∨ v.ownBlock = some k

theorem appendedF {W w1 : World} {n₁ B : Nat} {t e : TypeId} {size : Nat} {v v' : Value} {k m : Nat} {xs ys : List Value} {tmp : Obj}
    (hv : Boxed W B t v) (hte : t ≠ e) (hrow : W.ownsRow n₁ e size v k xs) (hB : n₁ ≤ B)
    (hown' : w1.ownsRow n₁ e size v' m ys) (hgrow : (W.alloc tmp).grownBy w1 v.ownBlock) :
    Boxed w1 B t v ∧ Boxed (w1.setCell ⟨B, 0, none⟩ v') B t v' ∧ (w1.setCell ⟨B, 0, none⟩ v').ownsRow n₁ e size v' m ys ∧ Kept (WrM B v) W (w1.setCell ⟨B, 0, none⟩ v') := by
  obtain ⟨h1, h2, h3, _⟩ := appendedW hv hte hrow hB hown' hgrow
  refine ⟨h1, h2, h3, ?_⟩
  have k1 : Kept (WrM B v) W (W.alloc tmp) := (Kept.refl _ W).alloc _
  have k2 : Kept (WrM B v) W w1 := k1.next (Kept.of_grown hgrow) fun j _ e => Or.inr e
  exact k2.setCell _ _ fun _ => Or.inl rfl

set_option maxRecDepth 20000 in
theorem byte_fine (B p : Nat) (v : Value) (l : List UInt8) (b : UInt8) (w : World) (h : WrAt B w p v l) (hl : l.length < 140737488355327) :
    Calls Tryz.prog 58 #[.pointer (some ⟨p, 0, none⟩), .int .u8 (b.toNat : Int)] w fun e w' => ∃ v', e = .returned (.tuple #[]) ∧ Kept (WrM p v) w w' ∧ WrAt B w' p v' (l ++ [b]) ∧ (∀ g, v'.ownBlock = some g → v.ownBlock = some g ∨ w.heap.size ≤ g) := by
  obtain ⟨i0, hi, hz0, hz1, hz2⟩ := info_parts Tryz.infoU8
  have hc := h.head.cell
  have hlt := h.lt
  have HL := Lib.hid hl
  have H := Lib.hid h
  clear hl h
  go_enter Tryz.func58, Tryz.ntmps58
  go_wp2_with (at_builtin; refine wpList_append_lies _ rfl _ _ 145 rfl B 5 i0 (.int .u8 0) 1 1 Tryz.underlying145 hi hz0 hz1 hz2 rfl (by decide) _ _ _ rfl (H.out.row.alloc _) ⟨w.heap.size, 0, none⟩ 1 1 [.int .u8 (b.toNat : Int)] rfl rfl (cell_one_new _ _ _) (by simp [Value.oneCell']) (by decide) (by have := HL.out; unfold maxLen; omega) (by have := HL.out; omega) (by have := H.out.from_; simp; omega) _ rfl ?_; intro g' cap' w1 hown' hgrow hg1 hg2; obtain ⟨hv1, hv2, hr2, hk2⟩ := appendedF H.out.head (by decide) H.out.row H.out.from_ hown' hgrow; have hc1 := hv1.cell; have hf1 := hv1.frozen)
  go_end0
  refine ⟨_, rfl, hk2, ⟨hv2, by simpa [byteVals] using hr2, H.out.from_⟩, fun g hg => ?_⟩
  have e : g' = g := by simpa [Value.ownBlock] using hg
  subst e
  rcases hg1 with h | h
  · exact Or.inl h
  · refine Or.inr ?_
    have h' : g' = (w.alloc (.cells #[.int .u8 (b.toNat : Int)] 5)).heap.size := h
    rw [h']
    simp
end Go.Proofs.YtpkadglempbjiaaGreat
