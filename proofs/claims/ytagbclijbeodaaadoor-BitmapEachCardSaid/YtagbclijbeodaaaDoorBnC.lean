/- Plain laws: the numbers of a set, rising. No walk. -/
import Derived.Test.YtagbclijbeodaaaDoorBnB
namespace Go.Proofs.YtagbclijbeodaaaDoor
open Go.RowKit
set_option linter.unusedVariables false

/-- The numbers that are in, from f on, rising. -/
def els (n : Nat) (ws : List Nat) (f : Nat) : List Nat := (List.range n).filter fun i => decide (f ≤ i) && mem ws i

theorem nx_head (n : Nat) (ws : List Nat) (f : Nat) : nx n ws f = (els n ws f).head? := by
  unfold nx els; rw [List.head?_filter]

theorem nx_spec {n : Nat} {ws : List Nat} {f x : Nat} (h : nx n ws f = some x) : x < n ∧ f ≤ x ∧ mem ws x = true ∧ ∀ j, f ≤ j → j < x → mem ws j = false := by
  unfold nx at h
  rw [List.find?_eq_some_iff_getElem] at h
  obtain ⟨hp, i, hi, e, hlt⟩ := h
  simp only [List.length_range] at hi
  have ei : i = x := by simpa using e
  subst ei
  simp only [Bool.and_eq_true, decide_eq_true_eq] at hp
  refine ⟨hi, hp.1, hp.2, fun j h1 h2 => ?_⟩
  have := hlt j h2
  simp only [List.getElem_range, Bool.not_eq_true'] at this
  simpa [h1] using this

theorem els_cons {n : Nat} {ws : List Nat} {f x : Nat} (h : nx n ws f = some x) : els n ws f = x :: els n ws (x + 1) := by
  obtain ⟨hx, hf, hm, hlow⟩ := nx_spec h
  have hr : List.range n = List.range x ++ x :: List.range' (x + 1) (n - x - 1) := by
    rw [List.range_eq_range', List.range_eq_range', show n = x + (1 + (n - x - 1)) by omega, ← List.range'_append_1, Nat.zero_add, ← List.range'_append_1]
    simp
  unfold els
  rw [hr, List.filter_append, List.filter_append, List.filter_cons, List.filter_cons]
  have h1 : (List.range x).filter (fun i => decide (f ≤ i) && mem ws i) = [] := by
    rw [List.filter_eq_nil_iff]
    intro i hi
    rw [List.mem_range] at hi
    by_cases h : f ≤ i
    · simp [hlow i h hi]
    · simp [h]
  have h2 : (List.range x).filter (fun i => decide (x + 1 ≤ i) && mem ws i) = [] := by
    rw [List.filter_eq_nil_iff]
    intro i hi
    rw [List.mem_range] at hi
    have : ¬ x + 1 ≤ i := by omega
    simp [this]
  have h3 : ¬ x + 1 ≤ x := by omega
  rw [h1, h2]
  simp only [hf, hm, decide_true, Bool.and_self, if_true, h3, decide_false, Bool.false_and, List.nil_append]
  congr 1
  apply List.filter_congr
  intro i hi
  rw [List.mem_range'] at hi
  obtain ⟨j, hj, rfl⟩ := hi
  have e1 : f ≤ x + 1 + 1 * j := by omega
  have e2 : x + 1 ≤ x + 1 + 1 * j := by omega
  rw [decide_eq_true e1, decide_eq_true e2]

theorem els_nil {n : Nat} {ws : List Nat} {f : Nat} (h : nx n ws f = none) : els n ws f = [] := by
  rw [nx_head] at h
  exact List.head?_eq_none_iff.1 h

theorem els_nx_nil {n : Nat} {ws : List Nat} {f : Nat} (h : els n ws f = []) : nx n ws f = none := by rw [nx_head, h]; rfl
theorem els_nx_cons {n : Nat} {ws : List Nat} {f x : Nat} {r : List Nat} (h : els n ws f = x :: r) : nx n ws f = some x ∧ r = els n ws (x + 1) := by
  have h1 : nx n ws f = some x := by rw [nx_head, h]; rfl
  refine ⟨h1, ?_⟩
  have := els_cons h1
  rw [h] at this
  exact (List.cons.inj this).2

theorem mem_els {n : Nat} {ws : List Nat} {f i : Nat} : i ∈ els n ws f ↔ i < n ∧ f ≤ i ∧ mem ws i = true := by
  unfold els; simp [List.mem_filter]
theorem els_sorted (n : Nat) (ws : List Nat) (f : Nat) : (els n ws f).Pairwise (· < ·) := List.Pairwise.filter _ (List.pairwise_lt_range)
theorem els_length_le (n : Nat) (ws : List Nat) (f : Nat) : (els n ws f).length ≤ n := by
  have := List.length_filter_le (fun i => decide (f ≤ i) && mem ws i) (List.range n)
  rw [List.length_range] at this
  exact this

/-- Next, of whatever natural number. -/
theorem next_nat (s n : Nat) (v : Value) (ws : List Nat) (w : World) (f : Nat) (h : SetAt w s n v ws) (ht : Tidy n ws) (hT : Tab w) :
    Calls Tryd.prog 14 #[.pointer (some ⟨s, 0, none⟩), .int .i64 (f : Int)] w fun e w' => e = .returned (told2 (nx n ws f)) ∧ w = w' := by
  rcases Nat.lt_or_ge f n with h1 | h1
  · exact next_in s n v ws w f h ht hT h1
  · have : nx n ws f = none := nx_none fun j h2 h3 => absurd h3 (by omega)
    rw [this]
    exact next_out s n v ws w f h h1
theorem next_any (s n : Nat) (v : Value) (ws : List Nat) (w : World) (f : Int) (h : SetAt w s n v ws) (ht : Tidy n ws) (hT : Tab w) :
    Calls Tryd.prog 14 #[.pointer (some ⟨s, 0, none⟩), .int .i64 f] w fun e w' => e = .returned (told2 (nx n ws f.toNat)) ∧ w = w' := by
  by_cases hf : f < 0
  · have e : f.toNat = 0 := by omega
    rw [e]
    rcases Nat.eq_zero_or_pos n with h0 | h0
    · subst h0
      have : nx 0 ws 0 = none := nx_none fun j h2 h3 => absurd h3 (by omega)
      rw [this]
      exact next_out_neg s v ws w f h hf
    · exact next_neg s n v ws w f hf h ht hT h0
  · obtain ⟨k, rfl⟩ := Int.eq_ofNat_of_zero_le (show 0 ≤ f by omega)
    exact next_nat s n v ws w k h ht hT

end Go.Proofs.YtagbclijbeodaaaDoor
