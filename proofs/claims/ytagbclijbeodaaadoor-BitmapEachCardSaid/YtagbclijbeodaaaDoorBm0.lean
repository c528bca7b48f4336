/- Plain laws on words of 64 bits: no program. -/
import Derived.Laws.BitsAllLaws
import Derived.RowKit
namespace Go.Proofs.YtagbclijbeodaaaDoor
open Go.RowKit
set_option linter.unusedVariables false

abbrev W64 : Nat := 18446744073709551616

theorem int_pow2 (k : Nat) : (2 : Int) ^ k = ((2 ^ k : Nat) : Int) := by simp
theorem pow2_lt (k : Nat) (h : k < 64) : 2 ^ k < 18446744073709551616 := Nat.pow_lt_pow_right (a := 2) (by omega) (show k < 64 from h)

theorem word_has (x k : Nat) (hx : x < 18446744073709551616) : (bits .and .u64 ((x : Int) / 2 ^ k) 1 == 1) = x.testBit k := by
  have hlt : x / 2 ^ k < 18446744073709551616 := Nat.lt_of_le_of_lt (Nat.div_le_self _ _) hx
  have h := u64_and_nat (x / 2 ^ k) 1 hlt (by omega)
  rw [int_pow2, ← Int.natCast_ediv]
  have e1 : ((1 : Nat) : Int) = 1 := rfl
  rw [e1] at h
  rw [h, Nat.testBit_eq_decide_div_mod_eq, Nat.and_one_is_mod]
  have : (x / 2 ^ k) % 2 = 0 ∨ (x / 2 ^ k) % 2 = 1 := by omega
  rcases this with h | h <;> rw [h] <;> rfl

theorem wrap_pow2 (k : Nat) (h : k < 64) : IntKind.u64.wrap ((2 : Int) ^ k) = ((2 ^ k : Nat) : Int) := by
  have := pow2_lt k h
  rw [IntKind.wrap_u64, int_pow2]
  generalize 2 ^ k = y at *
  omega

theorem word_put (x k : Nat) (hx : x < 18446744073709551616) (hk : k < 64) : bits .or .u64 (x : Int) (((2 ^ k : Nat) : Int)) = ((x ||| 2 ^ k : Nat) : Int) :=
  u64_or_nat x (2 ^ k) hx (pow2_lt k hk)
theorem word_put_lt (x k : Nat) (hx : x < 18446744073709551616) (hk : k < 64) : x ||| 2 ^ k < 18446744073709551616 := Nat.or_lt_two_pow (n := 64) hx (pow2_lt k hk)
theorem testBit_mask (k j : Nat) (hj : j < 64) (hk : k < 64) : (18446744073709551615 - 2 ^ k).testBit j = decide (j ≠ k) := by
  have : 18446744073709551615 - 2 ^ k = 2 ^ 64 - (2 ^ k + 1) := by omega
  rw [this, Nat.testBit_two_pow_sub_succ (pow2_lt k hk), Nat.testBit_two_pow]
  by_cases e : k = j
  · subst e; simp
  · have e' : j ≠ k := fun h => e h.symm
    simp [e, e', hj]
theorem word_take (x k : Nat) (hx : x < 18446744073709551616) (hk : k < 64) : bits .andNot .u64 (x : Int) (((2 ^ k : Nat) : Int)) = ((x &&& (18446744073709551615 - 2 ^ k) : Nat) : Int) :=
  u64_andNot_nat x (2 ^ k) hx (pow2_lt k hk)
theorem word_take_lt (x y : Nat) (hx : x < 18446744073709551616) : x &&& y < 18446744073709551616 := Nat.lt_of_le_of_lt Nat.and_le_left hx

theorem testBit_put (x k j : Nat) : (x ||| 2 ^ k).testBit j = (x.testBit j || decide (k = j)) := by rw [Nat.testBit_or, Nat.testBit_two_pow]
theorem testBit_take (x k j : Nat) (hk : k < 64) (hj : j < 64) : (x &&& (18446744073709551615 - 2 ^ k)).testBit j = (x.testBit j && decide (j ≠ k)) := by rw [Nat.testBit_and, testBit_mask k j hj hk]

end Go.Proofs.YtagbclijbeodaaaDoor
