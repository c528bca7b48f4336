/- Plain laws: sets as words, as bytes, there and back. No walk. -/
import Derived.Test.YtagbclijbeodaaaBmE
namespace Go.Proofs.Ytagbclijbeodaaa
open Go.RowKit
set_option linter.unusedVariables false

/-- Words of a set of n numbers: as many as it takes, of 64 bits, no bit from n on. -/
structure Tidy (n : Nat) (ws : List Nat) : Prop where
  size : ws.length = (n + 63) / 64
  low : ∀ j, ws.getD j 0 < 18446744073709551616
  top : ∀ i, n ≤ i → (ws.getD (i / 64) 0).testBit (i % 64) = false

def mem (ws : List Nat) (i : Nat) : Bool := (ws.getD (i / 64) 0).testBit (i % 64)

theorem testBit_big (x t : Nat) (hx : x < 18446744073709551616) (ht : 64 ≤ t) : x.testBit t = false :=
  Nat.testBit_lt_two_pow (Nat.lt_of_lt_of_le hx (by
    have : 2 ^ 64 ≤ 2 ^ t := Nat.pow_le_pow_right (by omega) ht
    omega))

theorem getD_set (l : List Nat) (i j x : Nat) : (l.set i x).getD j 0 = if i = j ∧ i < l.length then x else l.getD j 0 := by
  simp only [List.getD_eq_getElem?_getD, List.getElem?_set]
  split
  · rename_i h; subst h
    split
    · rename_i h; simp [h]
    · rename_i h; simp [h]
  · rename_i h; simp [h]

theorem mem_set (ws : List Nat) (j x i : Nat) (hj : j < ws.length) : mem (ws.set j x) i = if i / 64 = j then x.testBit (i % 64) else mem ws i := by
  unfold mem
  rw [getD_set]
  by_cases h : j = i / 64
  · rw [if_pos ⟨h, hj⟩, if_pos h.symm]
  · rw [if_neg (fun x => h x.1), if_neg (fun e => h e.symm)]

theorem Tidy.length_gt {n : Nat} {ws : List Nat} (h : Tidy n ws) {i : Nat} (hi : i < n) : i / 64 < ws.length := by rw [h.size]; omega

/-- Two tidy lists that have the same numbers are one. -/
theorem Tidy.ext {n : Nat} {a b : List Nat} (ha : Tidy n a) (hb : Tidy n b) (h : ∀ i, i < n → mem a i = mem b i) : a = b := by
  apply List.ext_getElem (ha.size.trans hb.size.symm)
  intro j h1 h2
  have e1 : a.getD j 0 = a[j] := by simp [h1]
  have e2 : b.getD j 0 = b[j] := by simp [h2]
  rw [← e1, ← e2]
  apply Nat.eq_of_testBit_eq
  intro t
  by_cases ht : t < 64
  · have hd : (64 * j + t) / 64 = j := by omega
    have hm : (64 * j + t) % 64 = t := by omega
    by_cases hi : 64 * j + t < n
    · have := h _ hi
      unfold mem at this
      rwa [hd, hm] at this
    · have x1 := ha.top _ (show n ≤ 64 * j + t by omega)
      have x2 := hb.top _ (show n ≤ 64 * j + t by omega)
      rw [hd, hm] at x1 x2
      rw [x1, x2]
  · rw [testBit_big _ _ (ha.low j) (by omega), testBit_big _ _ (hb.low j) (by omega)]

theorem tidy_zero (n : Nat) : Tidy n (List.replicate ((n + 63) / 64) 0) := by
  have h : ∀ j, (List.replicate ((n + 63) / 64) 0).getD j 0 = 0 := by
    intro j
    by_cases hj : j < (n + 63) / 64
    · simp [hj]
    · simp [hj]
  exact ⟨by simp, fun j => by rw [h]; omega, fun i _ => by rw [h]; simp⟩

theorem mem_zero (n i : Nat) : mem (List.replicate ((n + 63) / 64) 0) i = false := by
  unfold mem
  by_cases hj : i / 64 < (n + 63) / 64
  · simp [hj]
  · simp [hj]

theorem mem_putW (ws : List Nat) (i j : Nat) (hi : i / 64 < ws.length) : mem (putW ws i) j = (mem ws j || decide (i = j)) := by
  unfold putW
  rw [mem_set _ _ _ _ hi]
  split
  · rename_i h
    rw [testBit_put]
    unfold mem
    rw [h]
    congr 1
    exact decide_eq_decide.2 ⟨fun e => by omega, fun e => by omega⟩
  · rename_i h
    have : decide (i = j) = false := by simp; omega
    rw [this, Bool.or_false]
theorem mem_takeW (ws : List Nat) (i j : Nat) (hi : i / 64 < ws.length) : mem (takeW ws i) j = (mem ws j && decide (i ≠ j)) := by
  unfold takeW
  rw [mem_set _ _ _ _ hi]
  split
  · rename_i h
    rw [testBit_take _ _ _ (Nat.mod_lt _ (by omega)) (Nat.mod_lt _ (by omega))]
    unfold mem
    rw [h]
    congr 1
    exact decide_eq_decide.2 ⟨fun e => by omega, fun e => by omega⟩
  · rename_i h
    have : decide (i ≠ j) = true := by simp; omega
    rw [this, Bool.and_true]

theorem Tidy.set {n : Nat} {ws : List Nat} (h : Tidy n ws) {j x : Nat} (hx : x < 18446744073709551616) (ht : ∀ i, n ≤ i → i / 64 = j → x.testBit (i % 64) = false) : Tidy n (ws.set j x) := by
  refine ⟨by rw [List.length_set]; exact h.size, fun k => ?_, fun i hi => ?_⟩
  · rw [getD_set]; split
    · exact hx
    · exact h.low k
  · rw [getD_set]; split
    · rename_i e; exact ht i hi e.1.symm
    · exact h.top i hi

theorem Tidy.put {n : Nat} {ws : List Nat} (h : Tidy n ws) {i : Nat} (hi : i < n) : Tidy n (putW ws i) := by
  refine h.set (word_put_lt _ _ (h.low _) (Nat.mod_lt _ (by omega))) fun k hk e => ?_
  have := h.top k hk
  rw [e] at this
  rw [testBit_put, this]
  simp; omega
theorem Tidy.take {n : Nat} {ws : List Nat} (h : Tidy n ws) (i : Nat) : Tidy n (takeW ws i) := by
  refine h.set (word_take_lt _ _ (h.low _)) fun k hk e => ?_
  have := h.top k hk
  rw [e] at this
  rw [Nat.testBit_and, this, Bool.false_and]

theorem foldl_tidy {n : Nat} (hn : n ≠ 0) (l : List Int) : ∀ ws, Tidy n ws → Tidy n (l.foldl (fun ws x => putW ws (x % (n : Int)).toNat) ws) := by
  induction l with
  | nil => intro ws h; exact h
  | cons x l ih =>
    intro ws h
    refine ih _ (h.put ?_)
    have h1 := Int.emod_nonneg x (show (n : Int) ≠ 0 by omega)
    have h2 := Int.emod_lt_of_pos x (show (0 : Int) < n by omega)
    omega

theorem tidy_puts (n : Nat) (l : List Int) : Tidy n (puts n l) := by
  unfold puts
  split
  · exact tidy_zero n
  · rename_i h; exact foldl_tidy h l _ (tidy_zero n)

/- bytes -/
theorem told_size (n : Nat) (ws : List Nat) : (told n ws).size = (n + 7) / 8 := by rw [told, strOfNums_size, tl_length]
theorem cut_told (n : Nat) (ws : List Nat) (k : Nat) (hk : k < (n + 7) / 8) : cut (told n ws) k = ws.getD (k / 8) 0 / 2 ^ (8 * (k % 8)) % 256 := by
  unfold cut told
  rw [strOfNums_data]
  have e : ((tl ws ((n + 7) / 8) ((n + 7) / 8)).map fun n => UInt8.ofNat n.toNat).getD k 0 = UInt8.ofNat (tb ws k).toNat := by
    simp [tl, hk]
  rw [e, tb, Int.toNat_natCast, UInt8.toNat_ofNat']
  omega

theorem testBit_byte (x k t : Nat) : (x / 2 ^ k % 256).testBit t = (x.testBit (k + t) && decide (t < 8)) := by
  have e : (256 : Nat) = 2 ^ 8 := rfl
  rw [e, Nat.testBit_mod_two_pow, Nat.testBit_div_two_pow, Nat.add_comm t k, Bool.and_comm]

theorem testBit_shl (c k t : Nat) (hc : c < 256) : (c * 2 ^ k).testBit t = (decide (k ≤ t ∧ t < k + 8) && c.testBit (t - k)) := by
  rw [Nat.testBit_mul_two_pow]
  by_cases h1 : k ≤ t
  · by_cases h2 : t < k + 8
    · simp [h1, h2]
    · have : c.testBit (t - k) = false := Nat.testBit_lt_two_pow (Nat.lt_of_lt_of_le hc (by
        have : 2 ^ 8 ≤ 2 ^ (t - k) := Nat.pow_le_pow_right (by omega) (by omega)
        omega))
      simp [this]
  · simp [h1]

theorem fw_length (b : ByteArray) (n k : Nat) : (fw b n k).length = (n + 63) / 64 := by
  induction k with
  | zero => simp [fw]
  | succ k ih => simp [fw, ih]

/-- the words of the first k bytes: their bits, and no other. -/
theorem fw_bit (b : ByteArray) (n : Nat) : ∀ k, k ≤ (n + 7) / 8 → ∀ i, mem (fw b n k) i = (decide (i < 8 * k) && (cut b (i / 8)).testBit (i % 8)) := by
  intro k
  induction k with
  | zero => intro _ i; rw [fw, mem_zero]; simp
  | succ k ih =>
    intro hk i
    have hl := fw_length b n k
    rw [fw, mem_set _ _ _ _ (by rw [hl]; omega)]
    have ihi := ih (by omega) i
    split
    · rename_i h
      rw [Nat.testBit_or, testBit_shl _ _ _ (cut_lt _ _)]
      have e : ((fw b n k).getD (k / 8) 0).testBit (i % 64) = mem (fw b n k) i := by unfold mem; rw [h]
      rw [e, ihi]
      by_cases h1 : i < 8 * k
      · have : decide (8 * (k % 8) ≤ i % 64 ∧ i % 64 < 8 * (k % 8) + 8) = false := by simp; omega
        rw [this]
        simp [h1]; omega
      · by_cases h2 : i < 8 * (k + 1)
        · have e1 : decide (8 * (k % 8) ≤ i % 64 ∧ i % 64 < 8 * (k % 8) + 8) = true := by simp; omega
          have e2 : i / 8 = k := by omega
          have e3 : i % 64 - 8 * (k % 8) = i % 8 := by omega
          rw [e1, e2, e3]
          simp [h1, h2]
        · have e1 : decide (8 * (k % 8) ≤ i % 64 ∧ i % 64 < 8 * (k % 8) + 8) = false := by simp; omega
          rw [e1]
          simp [h1, h2]
    · rename_i h
      rw [ihi]
      by_cases h1 : i < 8 * k
      · simp [h1]; omega
      · have h2 : ¬ i < 8 * (k + 1) := by omega
        simp [h1, h2]

theorem fw_low (b : ByteArray) (n : Nat) : ∀ k j, (fw b n k).getD j 0 < 18446744073709551616 := by
  intro k
  induction k with
  | zero => exact (tidy_zero n).low
  | succ k ih =>
    intro j
    rw [fw, getD_set]
    split
    · exact or_lt64 _ _ (ih _) (shl_byte _ _ (cut_lt _ _) (Nat.mod_lt _ (by omega)))
    · exact ih j

/-- There and back. -/
theorem fw_told (n : Nat) (ws : List Nat) (h : Tidy n ws) : fw (told n ws) n (told n ws).size = ws := by
  rw [told_size]
  have hb := fw_bit (told n ws) n ((n + 7) / 8) (Nat.le_refl _)
  have hbit : ∀ i, i < 8 * ((n + 7) / 8) → mem (fw (told n ws) n ((n + 7) / 8)) i = mem ws i := by
    intro i hi
    rw [hb i, cut_told n ws (i / 8) (by omega), testBit_byte]
    have e1 : i / 8 / 8 = i / 64 := by omega
    have e2 : 8 * (i / 8 % 8) + i % 8 = i % 64 := by omega
    rw [e1, e2]
    have h8 : i % 8 < 8 := Nat.mod_lt _ (by omega)
    simp [hi, h8, mem]
  refine Tidy.ext ⟨fw_length _ _ _, fw_low _ _ _, fun i hi => ?_⟩ h fun i hi => hbit i (by omega)
  by_cases h8 : i < 8 * ((n + 7) / 8)
  · have := hbit i h8
    unfold mem at this
    rw [this]; exact h.top i hi
  · have := hb i
    unfold mem at this
    rw [this]; simp [h8]

theorem tidy_top (n : Nat) (ws : List Nat) (h : Tidy n ws) : n % 64 ≠ 0 → ws.getD (n / 64) 0 / 2 ^ (n % 64) = 0 := by
  intro _
  apply Nat.div_eq_of_lt
  apply Nat.lt_pow_two_of_testBit
  intro t ht
  by_cases h64 : t < 64
  · have := h.top (64 * (n / 64) + t) (by omega)
    rwa [show (64 * (n / 64) + t) / 64 = n / 64 by omega, show (64 * (n / 64) + t) % 64 = t by omega] at this
  · exact testBit_big _ _ (h.low _) (by omega)

theorem told_inj (n : Nat) (a b : List Nat) (ha : Tidy n a) (hb : Tidy n b) : told n a = told n b ↔ a = b := by
  constructor
  · intro h
    rw [← fw_told n a ha, ← fw_told n b hb, h]
  · intro h; rw [h]

end Go.Proofs.Ytagbclijbeodaaa
