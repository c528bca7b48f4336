/- A part. -/
import Derived.Test.YtabhieafjkaocaaGreatMaab
import Derived.Lib.AppendStr
import Derived.Laws.BytesArg
set_option linter.unusedVariables false
set_option linter.unusedSimpArgs false
namespace Go.Proofs.YtabhieafjkaocaaGreat
open Go.RowKit Go.Lib
theorem row_slice {w : World} {b : Nat} {e : TypeId} {z : Nat} {v : Value} {n : Nat} {xs : List Value} (h : w.ownsRow b e z v n xs) : ∃ a cap, v = .slice a n cap := by
  rcases h.2 with ⟨h1, h2⟩ | ⟨g, cap, cur, h1, _⟩
  · rw [h1, h2]; exact ⟨_, _, rfl⟩
  · exact ⟨_, _, h1⟩
theorem appendedW2 {W w1 : World} {n₁ B : Nat} {t e : TypeId} {size : Nat} {v v' : Value} {k m : Nat} {xs ys : List Value}
    (hv : Boxed W B t v) (hte : t ≠ e) (hrow : W.ownsRow n₁ e size v k xs) (hB : n₁ ≤ B)
    (hown' : w1.ownsRow n₁ e size v' m ys) (hgrow : W.grownBy w1 v.ownBlock) :
    Boxed w1 B t v ∧ Boxed (w1.setCell ⟨B, 0, none⟩ v') B t v' ∧ (w1.setCell ⟨B, 0, none⟩ v').ownsRow n₁ e size v' m ys ∧ Kept (fun j => n₁ ≤ j) W (w1.setCell ⟨B, 0, none⟩ v') := by
  have hnr0 := Boxed.not_row hv hte hrow
  have a : Boxed w1 B t v := hv.kept hgrow hnr0
  have hnr := Boxed.not_row a hte hown'
  refine ⟨a, a.set v', hown'.kept (grownBy_setCell' w1 B v') (.inr (fun e => hnr e.symm)), ?_⟩
  have h2 : Kept (fun j => n₁ ≤ j) W w1 := (Kept.of_grown hgrow).mono fun j _ e => (hrow.lt j e).1
  exact h2.setCell _ _ fun _ => hB
set_option maxRecDepth 20000 in
theorem raw_ok (B p : Nat) (v : Value) (l : List UInt8) (s : ByteArray) (w : World) (h : WrAt B w p v l) (hl : l.length + s.size ≤ 140737488355328) :
    Calls Tryz.prog 128 #[.pointer (some ⟨p, 0, none⟩), .string s] w fun e w' => ∃ v', e = .returned (.tuple #[]) ∧ Kept (fun k => B ≤ k) w w' ∧ WrAt B w' p v' (l ++ s.data.toList) := by
  obtain ⟨i0, hi, hz0, hz1, hz2⟩ := info_parts Tryz.infoU8
  have hc := h.head.cell
  have hlt := h.lt
  have HL := Lib.hid hl
  have H := Lib.hid h
  clear hl h
  go_enter Tryz.func128, Tryz.ntmps128
  go_wp2_with (at_builtin; refine wpList_append_own_string _ rfl _ _ 104 9 rfl B 5 i0 Tryz.underlying104 Tryz.underlying9 hi hz0 hz1 hz2 _ _ _ rfl H.out.row _ rfl (by have := HL.out; unfold maxLen; omega) HL.out (by have := H.out.from_; omega) ?_; intro v' w1 hown' hgrow _; obtain ⟨a', cap', rfl⟩ := row_slice hown'; obtain ⟨hv1, hv2, hr2, hk2⟩ := appendedW2 H.out.head (by decide) H.out.row H.out.from_ hown' hgrow; have hc1 := hv1.cell; have hf1 := hv1.frozen)
  go_end0
  exact ⟨_, rfl, hk2, hv2, by simpa [byteVals, strCells] using hr2, H.out.from_⟩
theorem strOf_bytes (l : List UInt8) : strOfNums (l.map fun b => (b.toNat : Int)) = ⟨l.toArray⟩ := by
  unfold strOfNums
  congr 1
  rw [List.map_map]
  congr 1
  conv => rhs; rw [← List.map_id l]
  exact List.map_congr_left fun b _ => by simp
theorem conv_row {w : World} {B : Nat} {v : Value} {l : List UInt8} (h : w.ownsRow B 5 1 v l.length (byteVals l)) : (convert 104 9 v).run Tryz.prog w = .ok (.string ⟨l.toArray⟩) w := by
  rcases h.2 with ⟨rfl, h0⟩ | ⟨g, cap, cur, rfl, _⟩
  · have : l = [] := List.eq_nil_of_length_eq_zero h0
    subst this
    exact run_convert_bytes_nil w 104 5 Tryz.underlying104 Tryz.underlying5 0 0 9 Tryz.underlying9
  · rw [← strOf_bytes]
    refine run_convert_bytes_arg w 104 5 Tryz.underlying104 Tryz.underlying5 g 0 l.length cap _ (by simp) (fun i hi => ?_) 9 Tryz.underlying9
    rw [Nat.zero_add, h.cellAt i (by omega)]
    simp [byteVals, hi]
set_option maxRecDepth 20000 in
theorem wtold_ok (B p : Nat) (v : Value) (l : List UInt8) (w : World) (h : WrAt B w p v l) (hl : l.length ≤ 140737488355328) :
    Calls Tryz.prog 99 #[.pointer (some ⟨p, 0, none⟩)] w fun e w' => e = .returned (.string ⟨l.toArray⟩) ∧ w = w' := by
  have hc := h.head.cell
  have hcv := conv_row h.row
  obtain ⟨a, cap, rfl⟩ := row_slice h.row
  have HL := Lib.hid hl
  have H := Lib.hid h
  clear hl h
  go_enter Tryz.func99, Tryz.ntmps99
  go_wp2
  go_ret
  exact ⟨rfl, rfl⟩
end Go.Proofs.YtabhieafjkaocaaGreat
