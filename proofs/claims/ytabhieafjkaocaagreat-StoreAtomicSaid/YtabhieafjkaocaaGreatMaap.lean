/- A part. -/
import Derived.Test.YtabhieafjkaocaaGreatMaao
import Derived.Test.YtabhieafjkaocaaGreatMaan
set_option linter.unusedVariables false
set_option linter.unusedSimpArgs false
namespace Go.Proofs.YtabhieafjkaocaaGreat.Bm
open Go.RowKit
theorem told_size (n : Nat) (ws : List Nat) : (told n ws).size = (n + 7) / 8 := by rw [told, strOfNums_size, tl_length]
theorem cut_told (n : Nat) (ws : List Nat) (k : Nat) (hk : k < (n + 7) / 8) : cut (told n ws) k = ws.getD (k / 8) 0 / 2 ^ (8 * (k % 8)) % 256 := by
  unfold cut told
  rw [strOfNums_data]
  have e : ((tl ws ((n + 7) / 8) ((n + 7) / 8)).map fun n => UInt8.ofNat n.toNat).getD k 0 = UInt8.ofNat (tb ws k).toNat := by
    simp [tl, hk]
  rw [e, tb, Int.toNat_natCast, UInt8.toNat_ofNat']
  omega
theorem testBit_byte (x k t : Nat) : (x / 2 ^ k % 256).testBit t = (x.testBit (k + t) && decide (t < 8)) := by
  have e : (256 : Nat) = 2 ^ 8 := rfl
  rw [e, Nat.testBit_mod_two_pow, Nat.testBit_div_two_pow, Nat.add_comm t k, Bool.and_comm]
theorem testBit_shl (c k t : Nat) (hc : c < 256) : (c * 2 ^ k).testBit t = (decide (k ≤ t ∧ t < k + 8) && c.testBit (t - k)) := by
  rw [Nat.testBit_mul_two_pow]
  by_cases h1 : k ≤ t
  · by_cases h2 : t < k + 8
    · simp [h1, h2]
    · have : c.testBit (t - k) = false := Nat.testBit_lt_two_pow (Nat.lt_of_lt_of_le hc (by
        have : 2 ^ 8 ≤ 2 ^ (t - k) := Nat.pow_le_pow_right (by omega) (by omega)
        omega))
      simp [this]
  · simp [h1]
theorem fw_length (b : ByteArray) (n k : Nat) : (fw b n k).length = (n + 63) / 64 := by
  induction k with
  | zero => simp [fw]
  | succ k ih => simp [fw, ih]
theorem fw_bit (b : ByteArray) (n : Nat) : ∀ k, k ≤ (n + 7) / 8 → ∀ i, mem (fw b n k) i = (decide (i < 8 * k) && (cut b (i / 8)).testBit (i % 8)) := by
  intro k
  induction k with
  | zero => intro _ i; rw [fw, mem_zero]; simp
  | succ k ih =>
    intro hk i
    have hl := fw_length b n k
    rw [fw, mem_set _ _ _ _ (by rw [hl]; omega)]
    have ihi := ih (by omega) i
    split
    · rename_i h
      rw [Nat.testBit_or, testBit_shl _ _ _ (cut_lt _ _)]
      have e : ((fw b n k).getD (k / 8) 0).testBit (i % 64) = mem (fw b n k) i := by unfold mem; rw [h]
      rw [e, ihi]
      by_cases h1 : i < 8 * k
      · have : decide (8 * (k % 8) ≤ i % 64 ∧ i % 64 < 8 * (k % 8) + 8) = false := by simp; omega
        rw [this]
        simp [h1]; omega
      · by_cases h2 : i < 8 * (k + 1)
        · have e1 : decide (8 * (k % 8) ≤ i % 64 ∧ i % 64 < 8 * (k % 8) + 8) = true := by simp; omega
          have e2 : i / 8 = k := by omega
          have e3 : i % 64 - 8 * (k % 8) = i % 8 := by omega
          rw [e1, e2, e3]
          simp [h1, h2]
        · have e1 : decide (8 * (k % 8) ≤ i % 64 ∧ i % 64 < 8 * (k % 8) + 8) = false := by simp; omega
          rw [e1]
          simp [h1, h2]
    · rename_i h
      rw [ihi]
      by_cases h1 : i < 8 * k
      · simp [h1]; omega
      · have h2 : ¬ i < 8 * (k + 1) := by omega
        simp [h1, h2]
theorem fw_low (b : ByteArray) (n : Nat) : ∀ k j, (fw b n k).getD j 0 < 18446744073709551616 := by
  intro k
  induction k with
  | zero => exact (tidy_zero n).low
  | succ k ih =>
    intro j
    rw [fw, getD_set]
    split
    · exact or_lt64 _ _ (ih _) (shl_byte _ _ (cut_lt _ _) (Nat.mod_lt _ (by omega)))
    · exact ih j
theorem fw_told (n : Nat) (ws : List Nat) (h : Tidy n ws) : fw (told n ws) n (told n ws).size = ws := by
  rw [told_size]
  have hb := fw_bit (told n ws) n ((n + 7) / 8) (Nat.le_refl _)
  have hbit : ∀ i, i < 8 * ((n + 7) / 8) → mem (fw (told n ws) n ((n + 7) / 8)) i = mem ws i := by
    intro i hi
    rw [hb i, cut_told n ws (i / 8) (by omega), testBit_byte]
    have e1 : i / 8 / 8 = i / 64 := by omega
    have e2 : 8 * (i / 8 % 8) + i % 8 = i % 64 := by omega
    rw [e1, e2]
    have h8 : i % 8 < 8 := Nat.mod_lt _ (by omega)
    simp [hi, h8, mem]
  refine Tidy.ext ⟨fw_length _ _ _, fw_low _ _ _, fun i hi => ?_⟩ h fun i hi => hbit i (by omega)
  by_cases h8 : i < 8 * ((n + 7) / 8)
  · have := hbit i h8
    unfold mem at this
    rw [this]; exact h.top i hi
  · have := hb i
    unfold mem at this
    rw [this]; simp [h8]
theorem tidy_top (n : Nat) (ws : List Nat) (h : Tidy n ws) : n % 64 ≠ 0 → ws.getD (n / 64) 0 / 2 ^ (n % 64) = 0 := by
  intro _
  apply Nat.div_eq_of_lt
  apply Nat.lt_pow_two_of_testBit
  intro t ht
  by_cases h64 : t < 64
  · have := h.top (64 * (n / 64) + t) (by omega)
    rwa [show (64 * (n / 64) + t) / 64 = n / 64 by omega, show (64 * (n / 64) + t) % 64 = t by omega] at this
  · exact testBit_big _ _ (h.low _) (by omega)
end Go.Proofs.YtabhieafjkaocaaGreat.Bm
namespace Go.Proofs.YtabhieafjkaocaaGreat.Bm
open Go.RowKit
end Go.Proofs.YtabhieafjkaocaaGreat.Bm
