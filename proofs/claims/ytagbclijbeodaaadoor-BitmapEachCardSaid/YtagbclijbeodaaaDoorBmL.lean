/- Plain laws: how many bits a word has (the sum by masks). No program. -/
import Derived.Test.YtagbclijbeodaaaDoorBm0
namespace Go.Proofs.YtagbclijbeodaaaDoor
open Go.RowKit
set_option linter.unusedVariables false

/-- How many of the lowest k bits are set. -/
def pc : Nat → Nat → Nat
  | 0, _ => 0
  | k + 1, x => x % 2 + pc k (x / 2)

theorem pc_le (k x : Nat) : pc k x ≤ k := by
  induction k generalizing x with
  | zero => simp [pc]
  | succ k ih => have := ih (x / 2); simp only [pc]; omega

theorem pc_add (j k x : Nat) : pc (j + k) x = pc j x + pc k (x / 2 ^ j) := by
  induction j generalizing x with
  | zero => simp [pc]
  | succ j ih =>
    rw [show j + 1 + k = (j + k) + 1 by omega, pc, pc, ih, Nat.div_div_eq_div_mul, Nat.pow_succ', Nat.add_assoc]

theorem pc_mod (k x : Nat) : pc k (x % 2 ^ k) = pc k x := by
  induction k generalizing x with
  | zero => simp [pc]
  | succ k ih =>
    simp only [pc]
    rw [Nat.pow_succ', Nat.mod_mul_right_mod, Nat.mod_mul_right_div_self, ih]

/-- and, byte by byte. -/
theorem and_byte (h l M m : Nat) (hl : l < 256) (hm : m < 256) : (256 * h + l) &&& (256 * M + m) = 256 * (h &&& M) + (l &&& m) := by
  apply Nat.eq_of_testBit_eq
  intro i
  have e : (256 : Nat) = 2 ^ 8 := rfl
  have hlm : l &&& m < 2 ^ 8 := Nat.and_lt_two_pow _ (by omega)
  rw [Nat.testBit_and, e, Nat.testBit_two_pow_mul_add _ (by omega), Nat.testBit_two_pow_mul_add _ (by omega), Nat.testBit_two_pow_mul_add _ hlm]
  split
  · rw [Nat.testBit_and]
  · rw [Nat.testBit_and]

/-- the bytes of a number. -/
def by8 : Nat → (Nat → Nat) → Nat
  | 0, _ => 0
  | n + 1, f => 256 * by8 n (fun i => f (i + 1)) + f 0

def digit (x i : Nat) : Nat := x / 256 ^ i % 256

theorem by8_digit (n x : Nat) (hx : x < 256 ^ n) : by8 n (digit x) = x := by
  induction n generalizing x with
  | zero => simp [by8]; omega
  | succ n ih =>
    have h := ih (x / 256) (by rw [Nat.pow_succ'] at hx; omega)
    have e : (fun i => digit x (i + 1)) = digit (x / 256) := by
      funext i; unfold digit; rw [Nat.pow_succ', Nat.div_div_eq_div_mul]
    rw [by8, e, h]
    simp [digit]; omega

theorem by8_lt (n : Nat) (f : Nat → Nat) (hf : ∀ i, f i < 256) : by8 n f < 256 ^ n := by
  induction n generalizing f with
  | zero => simp [by8]
  | succ n ih =>
    have := ih (fun i => f (i + 1)) (fun i => hf _)
    have := hf 0
    rw [by8, Nat.pow_succ']; omega

theorem by8_and (n : Nat) (f g : Nat → Nat) (hf : ∀ i, f i < 256) (hg : ∀ i, g i < 256) : by8 n f &&& by8 n g = by8 n (fun i => f i &&& g i) := by
  induction n generalizing f g with
  | zero => simp [by8]
  | succ n ih =>
    rw [by8, by8, and_byte _ _ _ _ (hf 0) (hg 0), ih _ _ (fun i => hf _) (fun i => hg _), by8]

theorem by8_add (n : Nat) (f g : Nat → Nat) : by8 n f + by8 n g = by8 n (fun i => f i + g i) := by
  induction n generalizing f g with
  | zero => simp [by8]
  | succ n ih => simp only [by8]; rw [← ih]; omega

theorem by8_mask (n m : Nat) : by8 (n + 1) (fun _ => m) = 256 * by8 n (fun _ => m) + m := rfl

/-- shifted by less than a byte, and a mask that lets the upper bits of each byte fall. -/
theorem by8_shr_and (n k : Nat) (m : Nat) (f : Nat → Nat) (hf : ∀ i, f i < 256) (hk : k ≤ 8) (hm : m < 2 ^ (8 - k)) : by8 n f / 2 ^ k &&& by8 n (fun _ => m) = by8 n (fun i => f i / 2 ^ k &&& m) := by
  induction n generalizing f with
  | zero => simp [by8]
  | succ n ih =>
    have ih' := ih (fun i => f (i + 1)) (fun i => hf _)
    have hp : 2 ^ (8 - k) * 2 ^ k = 256 := by rw [← Nat.pow_add]; rw [show 8 - k + k = 8 by omega]
    have hm8 : m < 256 := Nat.lt_of_lt_of_le hm (by have : 2 ^ (8 - k) ≤ 2 ^ 8 := Nat.pow_le_pow_right (by omega) (by omega); omega)
    simp only [by8]
    rw [← ih']
    generalize by8 n (fun i => f (i + 1)) = H
    have h0 := hf 0
    generalize f 0 = l at *
    have hdiv : (256 * H + l) / 2 ^ k = 2 ^ (8 - k) * H + l / 2 ^ k := by
      rw [← hp, show 2 ^ (8 - k) * 2 ^ k * H + l = l + 2 ^ k * (2 ^ (8 - k) * H) by rw [Nat.mul_comm (2 ^ (8 - k)) (2 ^ k), Nat.mul_assoc]; omega, Nat.add_mul_div_left _ _ (Nat.two_pow_pos k)]
      omega
    have hl : l / 2 ^ k < 2 ^ (8 - k) := by
      rw [Nat.div_lt_iff_lt_mul (Nat.two_pow_pos k), hp]; exact h0
    rw [hdiv]
    apply Nat.eq_of_testBit_eq
    intro i
    have e : (256 : Nat) = 2 ^ 8 := rfl
    have hlm : l / 2 ^ k &&& m < 2 ^ 8 := Nat.and_lt_two_pow _ (by omega)
    rw [Nat.testBit_and, e, Nat.testBit_two_pow_mul_add _ hl, Nat.testBit_two_pow_mul_add _ (by omega), Nat.testBit_two_pow_mul_add _ hlm]
    by_cases h1 : i < 8
    · rw [if_pos h1, if_pos h1, Nat.testBit_and]
      by_cases h2 : i < 8 - k
      · rw [if_pos h2]
      · have : m.testBit i = false := Nat.testBit_lt_two_pow (Nat.lt_of_lt_of_le hm (Nat.pow_le_pow_right (by omega) (by omega)))
        rw [this, Bool.and_false, Bool.and_false]
    · rw [if_neg h1, if_neg h1, if_neg (by omega), Nat.testBit_and, Nat.testBit_div_two_pow]
      congr 2
      omega

end Go.Proofs.YtagbclijbeodaaaDoor
