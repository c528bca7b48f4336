/- Merged by wip/tools/merge.py out of: WrA. -/
import Derived.Test.YtabhieafjkaocaaGreatMuaa
import Derived.Test.YtabhieafjkaocaaGreatChecked
import Derived.Laws.AppendOwn
import Derived.Maps.AppendAt
import Derived.RangeFuncNested
import Derived.OwnWalk
/- wire.Writer: a writer of bytes. -/
namespace Go.Proofs.YtabhieafjkaocaaGreat
open Go.RowKit
set_option linter.unusedVariables false

def byteVals (l : List UInt8) : List Value := l.map fun b => Value.int .u8 (b.toNat : Int)

/-- A writer at p that holds these bytes in the row of v; its blocks lie from B on. -/
structure WrAt (B : Nat) (w : World) (p : Nat) (v : Value) (l : List UInt8) : Prop where
  head : Boxed w p 208 v
  row : w.ownsRow B 5 1 v l.length (byteVals l)
  from_ : B ≤ p

theorem WrAt.lt {B : Nat} {w : World} {p : Nat} {v : Value} {l : List UInt8} (h : WrAt B w p v l) : p < w.heap.size := lt_of_heap h.head
theorem WrAt.kept {B : Nat} {M : Nat → Prop} {w w' : World} {p : Nat} {v : Value} {l : List UInt8} (h : WrAt B w p v l) (k : Kept M w w') (hm : ∀ j, B ≤ j → j < w.heap.size → ¬ M j) : WrAt B w' p v l :=
  ⟨k.heap h.head (hm _ h.from_ h.lt), k.row h.row fun g hg => hm g (h.row.lt g hg).1 (h.row.lt g hg).2, h.from_⟩

theorem Tryz.infoU8 : (Tryz.prog.info? 5).map (fun i => (i.zero, i.size, i.bytes)) = some (some (.int .u8 0), 1, 1) := by kernel_rfl

theorem newWriter_ok (w : World) : Calls Tryz.prog 95 #[] w fun e w' => ∃ p v, e = .returned (.pointer (some ⟨p, 0, none⟩)) ∧ Kept No w w' ∧ WrAt w.heap.size w' p v [] := by
  go_enter Tryz.func95, Tryz.ntmps95
  go_wp2
  go_ret
  exact ⟨_, _, rfl, (Kept.refl _ _).alloc _, heap_alloc_new w _, World.ownsRow_nil _ _ _ _, Nat.le_refl _⟩

theorem appendedW {W w1 : World} {n₁ B : Nat} {t e : TypeId} {size : Nat} {v v' : Value} {k m : Nat} {xs ys : List Value} {tmp : Obj}
    (hv : Boxed W B t v) (hte : t ≠ e) (hrow : W.ownsRow n₁ e size v k xs) (hB : n₁ ≤ B)
    (hown' : w1.ownsRow n₁ e size v' m ys) (hgrow : (W.alloc tmp).grownBy w1 v.ownBlock) :
    Boxed w1 B t v ∧ Boxed (w1.setCell ⟨B, 0, none⟩ v') B t v' ∧ (w1.setCell ⟨B, 0, none⟩ v').ownsRow n₁ e size v' m ys ∧ Kept (fun j => n₁ ≤ j) W (w1.setCell ⟨B, 0, none⟩ v') := by
  have hrow0 : W.ownsRow 0 e size v k xs := ⟨hrow.1, hrow.2.imp id fun ⟨g, cap, cur, h1, _, h3⟩ => ⟨g, cap, cur, h1, Nat.zero_le _, h3⟩⟩
  have hown0 : w1.ownsRow 0 e size v' m ys := ⟨hown'.1, hown'.2.imp id fun ⟨g, cap, cur, h1, _, h3⟩ => ⟨g, cap, cur, h1, Nat.zero_le _, h3⟩⟩
  obtain ⟨a, b, c, d, _⟩ := Boxed.appended (n₀ := 0) hv hte hrow0 (Nat.zero_le _) (Nat.zero_le _) hown0 hgrow
  have hnr := Boxed.not_row a hte hown'
  refine ⟨a, b, hown'.kept (grownBy_setCell' w1 B v') (.inr (fun e => hnr e.symm)), ?_⟩
  have h1 : Kept (fun j => n₁ ≤ j) W (W.alloc tmp) := (Kept.refl _ _).alloc _
  have h2 : Kept (fun j => n₁ ≤ j) W w1 := h1.next (Kept.of_grown hgrow) fun j _ e => (hrow.lt j e).1
  exact h2.setCell _ _ fun _ => hB

set_option maxRecDepth 20000 in
theorem byte_ok (B p : Nat) (v : Value) (l : List UInt8) (b : UInt8) (w : World) (h : WrAt B w p v l) (hl : l.length < 140737488355327) :
    Calls Tryz.prog 97 #[.pointer (some ⟨p, 0, none⟩), .int .u8 (b.toNat : Int)] w fun e w' => ∃ v', e = .returned (.tuple #[]) ∧ Kept (fun k => B ≤ k) w w' ∧ WrAt B w' p v' (l ++ [b]) := by
  obtain ⟨i0, hi, hz0, hz1, hz2⟩ := info_parts Tryz.infoU8
  have hc := h.head.cell
  have hlt := h.lt
  have HL := Lib.hid hl
  have H := Lib.hid h
  clear hl h
  go_enter Tryz.func97, Tryz.ntmps97
  go_wp2_with (at_builtin; refine wpList_append_own _ rfl _ _ 104 rfl B 5 i0 (.int .u8 0) 1 1 Tryz.underlying104 hi hz0 hz1 hz2 rfl (by decide) _ _ _ rfl (H.out.row.alloc _) ⟨w.heap.size, 0, none⟩ 1 1 [.int .u8 (b.toNat : Int)] rfl rfl (cell_one_new _ _ _) (by simp [Value.oneCell']) (by have := HL.out; unfold maxLen; omega) (by have := HL.out; omega) (by have := H.out.from_; simp; omega) ?_; intro v' w1 hown' hgrow _; obtain ⟨g', cap', rfl⟩ := ownsRow_succ hown'; obtain ⟨hv1, hv2, hr2, hk2⟩ := appendedW H.out.head (by decide) H.out.row H.out.from_ hown' hgrow; have hc1 := hv1.cell; have hf1 := hv1.frozen)
  go_end0
  exact ⟨_, rfl, hk2, hv2, by simpa [byteVals] using hr2, H.out.from_⟩
end Go.Proofs.YtabhieafjkaocaaGreat
