/- Plain laws: sets as words, as bytes, there and back. No walk. -/
import Derived.Test.YtagbclijbeodaaaDoorBmE
namespace Go.Proofs.YtagbclijbeodaaaDoor
open Go.RowKit
set_option linter.unusedVariables false

/-- Words of a set of n numbers: as many as it takes, of 64 bits, no bit from n on. -/
structure Tidy (n : Nat) (ws : List Nat) : Prop where
  size : ws.length = (n + 63) / 64
  low : ∀ j, ws.getD j 0 < 18446744073709551616
  top : ∀ i, n ≤ i → (ws.getD (i / 64) 0).testBit (i % 64) = false

def mem (ws : List Nat) (i : Nat) : Bool := (ws.getD (i / 64) 0).testBit (i % 64)

theorem testBit_big (x t : Nat) (hx : x < 18446744073709551616) (ht : 64 ≤ t) : x.testBit t = false :=
  Nat.testBit_lt_two_pow (Nat.lt_of_lt_of_le hx (by
    have : 2 ^ 64 ≤ 2 ^ t := Nat.pow_le_pow_right (by omega) ht
    omega))

theorem getD_set (l : List Nat) (i j x : Nat) : (l.set i x).getD j 0 = if i = j ∧ i < l.length then x else l.getD j 0 := by
  simp only [List.getD_eq_getElem?_getD, List.getElem?_set]
  split
  · rename_i h; subst h
    split
    · rename_i h; simp [h]
    · rename_i h; simp [h]
  · rename_i h; simp [h]

theorem mem_set (ws : List Nat) (j x i : Nat) (hj : j < ws.length) : mem (ws.set j x) i = if i / 64 = j then x.testBit (i % 64) else mem ws i := by
  unfold mem
  rw [getD_set]
  by_cases h : j = i / 64
  · rw [if_pos ⟨h, hj⟩, if_pos h.symm]
  · rw [if_neg (fun x => h x.1), if_neg (fun e => h e.symm)]

theorem Tidy.length_gt {n : Nat} {ws : List Nat} (h : Tidy n ws) {i : Nat} (hi : i < n) : i / 64 < ws.length := by rw [h.size]; omega

/-- Two tidy lists that have the same numbers are one. -/
theorem Tidy.ext {n : Nat} {a b : List Nat} (ha : Tidy n a) (hb : Tidy n b) (h : ∀ i, i < n → mem a i = mem b i) : a = b := by
  apply List.ext_getElem (ha.size.trans hb.size.symm)
  intro j h1 h2
  have e1 : a.getD j 0 = a[j] := by simp [h1]
  have e2 : b.getD j 0 = b[j] := by simp [h2]
  rw [← e1, ← e2]
  apply Nat.eq_of_testBit_eq
  intro t
  by_cases ht : t < 64
  · have hd : (64 * j + t) / 64 = j := by omega
    have hm : (64 * j + t) % 64 = t := by omega
    by_cases hi : 64 * j + t < n
    · have := h _ hi
      unfold mem at this
      rwa [hd, hm] at this
    · have x1 := ha.top _ (show n ≤ 64 * j + t by omega)
      have x2 := hb.top _ (show n ≤ 64 * j + t by omega)
      rw [hd, hm] at x1 x2
      rw [x1, x2]
  · rw [testBit_big _ _ (ha.low j) (by omega), testBit_big _ _ (hb.low j) (by omega)]

theorem tidy_zero (n : Nat) : Tidy n (List.replicate ((n + 63) / 64) 0) := by
  have h : ∀ j, (List.replicate ((n + 63) / 64) 0).getD j 0 = 0 := by
    intro j
    by_cases hj : j < (n + 63) / 64
    · simp [hj]
    · simp [hj]
  exact ⟨by simp, fun j => by rw [h]; omega, fun i _ => by rw [h]; simp⟩

theorem mem_zero (n i : Nat) : mem (List.replicate ((n + 63) / 64) 0) i = false := by
  unfold mem
  by_cases hj : i / 64 < (n + 63) / 64
  · simp [hj]
  · simp [hj]

theorem mem_putW (ws : List Nat) (i j : Nat) (hi : i / 64 < ws.length) : mem (putW ws i) j = (mem ws j || decide (i = j)) := by
  unfold putW
  rw [mem_set _ _ _ _ hi]
  split
  · rename_i h
    rw [testBit_put]
    unfold mem
    rw [h]
    congr 1
    exact decide_eq_decide.2 ⟨fun e => by omega, fun e => by omega⟩
  · rename_i h
    have : decide (i = j) = false := by simp; omega
    rw [this, Bool.or_false]
theorem mem_takeW (ws : List Nat) (i j : Nat) (hi : i / 64 < ws.length) : mem (takeW ws i) j = (mem ws j && decide (i ≠ j)) := by
  unfold takeW
  rw [mem_set _ _ _ _ hi]
  split
  · rename_i h
    rw [testBit_take _ _ _ (Nat.mod_lt _ (by omega)) (Nat.mod_lt _ (by omega))]
    unfold mem
    rw [h]
    congr 1
    exact decide_eq_decide.2 ⟨fun e => by omega, fun e => by omega⟩
  · rename_i h
    have : decide (i ≠ j) = true := by simp; omega
    rw [this, Bool.and_true]

theorem Tidy.set {n : Nat} {ws : List Nat} (h : Tidy n ws) {j x : Nat} (hx : x < 18446744073709551616) (ht : ∀ i, n ≤ i → i / 64 = j → x.testBit (i % 64) = false) : Tidy n (ws.set j x) := by
  refine ⟨by rw [List.length_set]; exact h.size, fun k => ?_, fun i hi => ?_⟩
  · rw [getD_set]; split
    · exact hx
    · exact h.low k
  · rw [getD_set]; split
    · rename_i e; exact ht i hi e.1.symm
    · exact h.top i hi

theorem Tidy.put {n : Nat} {ws : List Nat} (h : Tidy n ws) {i : Nat} (hi : i < n) : Tidy n (putW ws i) := by
  refine h.set (word_put_lt _ _ (h.low _) (Nat.mod_lt _ (by omega))) fun k hk e => ?_
  have := h.top k hk
  rw [e] at this
  rw [testBit_put, this]
  simp; omega
theorem Tidy.take {n : Nat} {ws : List Nat} (h : Tidy n ws) (i : Nat) : Tidy n (takeW ws i) := by
  refine h.set (word_take_lt _ _ (h.low _)) fun k hk e => ?_
  have := h.top k hk
  rw [e] at this
  rw [Nat.testBit_and, this, Bool.false_and]

theorem foldl_tidy {n : Nat} (hn : n ≠ 0) (l : List Int) : ∀ ws, Tidy n ws → Tidy n (l.foldl (fun ws x => putW ws (x % (n : Int)).toNat) ws) := by
  induction l with
  | nil => intro ws h; exact h
  | cons x l ih =>
    intro ws h
    refine ih _ (h.put ?_)
    have h1 := Int.emod_nonneg x (show (n : Int) ≠ 0 by omega)
    have h2 := Int.emod_lt_of_pos x (show (0 : Int) < n by omega)
    omega

theorem tidy_puts (n : Nat) (l : List Int) : Tidy n (puts n l) := by
  unfold puts
  split
  · exact tidy_zero n
  · rename_i h; exact foldl_tidy h l _ (tidy_zero n)

end Go.Proofs.YtagbclijbeodaaaDoor
