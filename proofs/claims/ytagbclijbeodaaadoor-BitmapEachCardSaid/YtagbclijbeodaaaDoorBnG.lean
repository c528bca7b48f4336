/- Plain laws for BitmapNext: as many as there are; what was put in is in; the least from a number on. No walk. -/
import Derived.Test.YtagbclijbeodaaaDoorBnC
import Derived.Test.YtagbclijbeodaaaDoorBmN
import Derived.Test.YtagbclijbeodaaaDoorBmE
namespace Go.Proofs.YtagbclijbeodaaaDoor
open Go.RowKit
set_option linter.unusedVariables false

theorem countP_range_add (p : Nat → Bool) (a b : Nat) : (List.range (a + b)).countP p = (List.range a).countP p + (List.range b).countP (fun i => p (a + i)) := by
  rw [List.range_add, List.countP_append, List.countP_map]; rfl

theorem pc_count (k : Nat) : ∀ x, pc k x = (List.range k).countP fun i => x.testBit i := by
  induction k with
  | zero => intro x; rfl
  | succ k ih =>
    intro x
    rw [pc, ih, show k + 1 = 1 + k by omega, countP_range_add]
    congr 1
    · rw [show List.range 1 = [0] from rfl, List.countP_cons, List.countP_nil, Nat.testBit_zero]
      have : x % 2 = 0 ∨ x % 2 = 1 := by omega
      rcases this with h | h <;> simp [h]
    · congr 1
      funext i
      rw [Nat.testBit_div_two, Nat.add_comm]

theorem cnt_count (ws : List Nat) (hw : ∀ j, ws.getD j 0 < 18446744073709551616) : cnt ws = (List.range (64 * ws.length)).countP (mem ws) := by
  induction ws with
  | nil => rfl
  | cons x ws ih =>
    have hx := hw 0
    have := ih (fun j => by have := hw (j + 1); simpa using this)
    rw [show 64 * (x :: ws).length = 64 + 64 * ws.length by simp; omega, countP_range_add]
    have e1 : cnt (x :: ws) = pc 64 x + cnt ws := by simp [cnt]
    have A : (List.range 64).countP (mem (x :: ws)) = pc 64 x := by
      rw [pc_count]
      apply List.countP_congr
      intro i hi
      rw [List.mem_range] at hi
      unfold mem
      rw [show i / 64 = 0 by omega, show i % 64 = i by omega]
      simp
    have B : (List.range (64 * ws.length)).countP (fun i => mem (x :: ws) (64 + i)) = cnt ws := by
      rw [this]
      apply List.countP_congr
      intro i _
      unfold mem
      rw [show (64 + i) / 64 = i / 64 + 1 by omega, show (64 + i) % 64 = i % 64 by omega]
      simp
    rw [A, B, e1]

theorem els_count {n : Nat} {ws : List Nat} (h : Tidy n ws) : (els n ws 0).length = cnt ws := by
  rw [cnt_count ws h.low]
  have hn : n ≤ 64 * ws.length := by rw [h.size]; omega
  obtain ⟨d, hd⟩ : ∃ d, 64 * ws.length = n + d := ⟨64 * ws.length - n, by omega⟩
  rw [hd, countP_range_add]
  have e0 : (List.range d).countP (fun i => mem ws (n + i)) = 0 := by
    rw [List.countP_eq_zero]
    intro i _
    have := h.top (n + i) (by omega)
    unfold mem
    rw [this]; simp
  rw [e0, Nat.add_zero]
  unfold els
  rw [← List.countP_eq_length_filter]
  apply List.countP_congr
  intro i _
  simp

theorem foldl_mem {n : Nat} (hn : n ≠ 0) (l : List Int) : ∀ ws, Tidy n ws → ∀ i, mem (l.foldl (fun ws x => putW ws (x % (n : Int)).toNat) ws) i = (mem ws i || decide (∃ x ∈ l, (x % (n : Int)).toNat = i)) := by
  induction l with
  | nil => intro ws _ i; simp
  | cons x l ih =>
    intro ws h i
    have h1 := Int.emod_nonneg x (show (n : Int) ≠ 0 by omega)
    have h2 := Int.emod_lt_of_pos x (show (0 : Int) < n by omega)
    have hlt : (x % (n : Int)).toNat < n := by omega
    rw [List.foldl_cons, ih _ (h.put hlt), mem_putW _ _ _ (h.length_gt hlt)]
    rw [Bool.eq_iff_iff]
    simp only [Bool.or_eq_true, decide_eq_true_eq, List.mem_cons, exists_eq_or_imp, or_assoc]

theorem mem_puts {n : Nat} (hn : n ≠ 0) (l : List Int) (x : Int) (hx : x ∈ l) : mem (puts n l) (x % (n : Int)).toNat = true := by
  unfold puts
  rw [if_neg hn, foldl_mem hn l _ (tidy_zero n)]
  have : decide (∃ y ∈ l, (y % (n : Int)).toNat = (x % (n : Int)).toNat) = true := by
    rw [decide_eq_true_eq]; exact ⟨x, hx, rfl⟩
  rw [this, Bool.or_true]

/-- What the law's third loop finds: the first of the list that is not below f, or -1. -/
def firstFrom (f : Int) : List Nat → Int
  | [] => -1
  | x :: l => if f ≤ (x : Int) then (x : Int) else firstFrom f l

theorem firstFrom_nx (n : Nat) (ws : List Nat) (f : Int) : firstFrom f (els n ws 0) = match nx n ws f.toNat with
    | some x => (x : Int)
    | none => -1 := by
  have h : ∀ l : List Nat, firstFrom f l = match l.find? (fun x : Nat => decide (f ≤ (x : Int))) with
      | some x => (x : Int)
      | none => -1 := by
    intro l
    induction l with
    | nil => rfl
    | cons x l ih =>
      unfold firstFrom
      by_cases hx : f ≤ (x : Int)
      · rw [if_pos hx, List.find?_cons_of_pos (by simpa using hx)]
      · rw [if_neg hx, List.find?_cons_of_neg (by simpa using hx), ih]
  rw [h]
  unfold els nx
  rw [List.find?_filter]
  congr 1
  congr 1
  funext i
  rw [Bool.eq_iff_iff]
  simp only [Nat.zero_le, decide_true, Bool.true_and, decide_eq_true_eq, Bool.and_eq_true]
  constructor
  · rintro ⟨h1, h2⟩; exact ⟨by omega, h1⟩
  · rintro ⟨h1, h2⟩; exact ⟨h2, by omega⟩

theorem firstFrom_step (f : Int) (l : List Nat) (k : Nat) (hk : k < l.length) : firstFrom f (l.drop k) = if f ≤ ((l.getD k 0 : Nat) : Int) then ((l.getD k 0 : Nat) : Int) else firstFrom f (l.drop (k + 1)) := by
  rw [List.drop_eq_getElem_cons hk]
  simp [firstFrom, hk]

end Go.Proofs.YtagbclijbeodaaaDoor
