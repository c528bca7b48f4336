/- Merged by wip/tools/merge.py out of: CmU, CmV. -/
import Derived.Test.YtabhieafjkaocaaGreatMuao
import Derived.Test.YtabhieafjkaocaaGreatMuan
/- Plain laws: sets as bytes, there and back. No walk. -/
namespace Go.Proofs.YtabhieafjkaocaaGreat.Bm
open Go.RowKit
set_option linter.unusedVariables false

/- bytes -/
theorem told_size (n : Nat) (ws : List Nat) : (told n ws).size = (n + 7) / 8 := by rw [told, strOfNums_size, tl_length]
theorem cut_told (n : Nat) (ws : List Nat) (k : Nat) (hk : k < (n + 7) / 8) : cut (told n ws) k = ws.getD (k / 8) 0 / 2 ^ (8 * (k % 8)) % 256 := by
  unfold cut told
  rw [strOfNums_data]
  have e : ((tl ws ((n + 7) / 8) ((n + 7) / 8)).map fun n => UInt8.ofNat n.toNat).getD k 0 = UInt8.ofNat (tb ws k).toNat := by
    simp [tl, hk]
  rw [e, tb, Int.toNat_natCast, UInt8.toNat_ofNat']
  omega

theorem testBit_byte (x k t : Nat) : (x / 2 ^ k % 256).testBit t = (x.testBit (k + t) && decide (t < 8)) := by
  have e : (256 : Nat) = 2 ^ 8 := rfl
  rw [e, Nat.testBit_mod_two_pow, Nat.testBit_div_two_pow, Nat.add_comm t k, Bool.and_comm]

theorem testBit_shl (c k t : Nat) (hc : c < 256) : (c * 2 ^ k).testBit t = (decide (k ≤ t ∧ t < k + 8) && c.testBit (t - k)) := by
  rw [Nat.testBit_mul_two_pow]
  by_cases h1 : k ≤ t
  · by_cases h2 : t < k + 8
    · simp [h1, h2]
    · have : c.testBit (t - k) = false := Nat.testBit_lt_two_pow (Nat.lt_of_lt_of_le hc (by
        have : 2 ^ 8 ≤ 2 ^ (t - k) := Nat.pow_le_pow_right (by omega) (by omega)
        omega))
      simp [this]
  · simp [h1]

theorem fw_length (b : ByteArray) (n k : Nat) : (fw b n k).length = (n + 63) / 64 := by
  induction k with
  | zero => simp [fw]
  | succ k ih => simp [fw, ih]

/-- the words of the first k bytes: their bits, and no other. -/
theorem fw_bit (b : ByteArray) (n : Nat) : ∀ k, k ≤ (n + 7) / 8 → ∀ i, mem (fw b n k) i = (decide (i < 8 * k) && (cut b (i / 8)).testBit (i % 8)) := by
  intro k
  induction k with
  | zero => intro _ i; rw [fw, mem_zero]; simp
  | succ k ih =>
    intro hk i
    have hl := fw_length b n k
    rw [fw, mem_set _ _ _ _ (by rw [hl]; omega)]
    have ihi := ih (by omega) i
    split
    · rename_i h
      rw [Nat.testBit_or, testBit_shl _ _ _ (cut_lt _ _)]
      have e : ((fw b n k).getD (k / 8) 0).testBit (i % 64) = mem (fw b n k) i := by unfold mem; rw [h]
      rw [e, ihi]
      by_cases h1 : i < 8 * k
      · have : decide (8 * (k % 8) ≤ i % 64 ∧ i % 64 < 8 * (k % 8) + 8) = false := by simp; omega
        rw [this]
        simp [h1]; omega
      · by_cases h2 : i < 8 * (k + 1)
        · have e1 : decide (8 * (k % 8) ≤ i % 64 ∧ i % 64 < 8 * (k % 8) + 8) = true := by simp; omega
          have e2 : i / 8 = k := by omega
          have e3 : i % 64 - 8 * (k % 8) = i % 8 := by omega
          rw [e1, e2, e3]
          simp [h1, h2]
        · have e1 : decide (8 * (k % 8) ≤ i % 64 ∧ i % 64 < 8 * (k % 8) + 8) = false := by simp; omega
          rw [e1]
          simp [h1, h2]
    · rename_i h
      rw [ihi]
      by_cases h1 : i < 8 * k
      · simp [h1]; omega
      · have h2 : ¬ i < 8 * (k + 1) := by omega
        simp [h1, h2]

theorem fw_low (b : ByteArray) (n : Nat) : ∀ k j, (fw b n k).getD j 0 < 18446744073709551616 := by
  intro k
  induction k with
  | zero => exact (tidy_zero n).low
  | succ k ih =>
    intro j
    rw [fw, getD_set]
    split
    · exact or_lt64 _ _ (ih _) (shl_byte _ _ (cut_lt _ _) (Nat.mod_lt _ (by omega)))
    · exact ih j

/-- There and back. -/
theorem fw_told (n : Nat) (ws : List Nat) (h : Tidy n ws) : fw (told n ws) n (told n ws).size = ws := by
  rw [told_size]
  have hb := fw_bit (told n ws) n ((n + 7) / 8) (Nat.le_refl _)
  have hbit : ∀ i, i < 8 * ((n + 7) / 8) → mem (fw (told n ws) n ((n + 7) / 8)) i = mem ws i := by
    intro i hi
    rw [hb i, cut_told n ws (i / 8) (by omega), testBit_byte]
    have e1 : i / 8 / 8 = i / 64 := by omega
    have e2 : 8 * (i / 8 % 8) + i % 8 = i % 64 := by omega
    rw [e1, e2]
    have h8 : i % 8 < 8 := Nat.mod_lt _ (by omega)
    simp [hi, h8, mem]
  refine Tidy.ext ⟨fw_length _ _ _, fw_low _ _ _, fun i hi => ?_⟩ h fun i hi => hbit i (by omega)
  by_cases h8 : i < 8 * ((n + 7) / 8)
  · have := hbit i h8
    unfold mem at this
    rw [this]; exact h.top i hi
  · have := hb i
    unfold mem at this
    rw [this]; simp [h8]

theorem tidy_top (n : Nat) (ws : List Nat) (h : Tidy n ws) : n % 64 ≠ 0 → ws.getD (n / 64) 0 / 2 ^ (n % 64) = 0 := by
  intro _
  apply Nat.div_eq_of_lt
  apply Nat.lt_pow_two_of_testBit
  intro t ht
  by_cases h64 : t < 64
  · have := h.top (64 * (n / 64) + t) (by omega)
    rwa [show (64 * (n / 64) + t) / 64 = n / 64 by omega, show (64 * (n / 64) + t) % 64 = t by omega] at this
  · exact testBit_big _ _ (h.low _) (by omega)

theorem told_inj (n : Nat) (a b : List Nat) (ha : Tidy n a) (hb : Tidy n b) : told n a = told n b ↔ a = b := by
  constructor
  · intro h
    rw [← fw_told n a ha, ← fw_told n b hb, h]
  · intro h; rw [h]

end Go.Proofs.YtabhieafjkaocaaGreat.Bm
/- bitmap.From of bytes that are no set of so many. -/
namespace Go.Proofs.YtabhieafjkaocaaGreat.Bm
open Go.RowKit
set_option linter.unusedVariables false

theorem from_short (n : Nat) (b : ByteArray) (w : World) (hn : n ≤ 65536) (h : b.size ≠ (n + 7) / 8) (hb : b.size < 4611686018427387904) :
    Calls Tryz.prog 84 #[.int .i64 (n : Int), .string b] w fun e w' => e = .returned (.tuple #[.pointer none, .int .i64 4]) ∧ Kept No w w' := by
  have hnew := new_ok n w hn
  have HN := Lib.hid hnew
  have hne : ((b.size : Int) != ((n : Int) + 7) / 8) = true := by rw [bne_iff_ne]; omega
  clear hnew h
  go_enter Tryz.func84, Tryz.ntmps84
  go_wp2_with fail
  refine HN.out.mono ?_
  rintro e w' ⟨s, u, rfl, hk, hset, hs, hu⟩
  go_wp2
  go_ret2
  exact ⟨rfl, hk⟩

theorem from_top (n : Nat) (b : ByteArray) (w : World) (hn : n ≤ 65536) (h : b.size = (n + 7) / 8) (h64 : n % 64 ≠ 0) (htop : (fw b n b.size).getD (n / 64) 0 / 2 ^ (n % 64) ≠ 0) :
    Calls Tryz.prog 84 #[.int .i64 (n : Int), .string b] w fun e w' => e = .returned (.tuple #[.pointer none, .int .i64 4]) ∧ Kept No w w' := by
  have hnew := new_ok n w hn
  have HN := Lib.hid hnew
  have HT := Lib.hid htop
  have hbs : b.size ≤ 65536 := by omega
  have hne : ((b.size : Int) != ((n : Int) + 7) / 8) = false := by rw [bne_eq_false_iff_eq]; omega
  have HB := Lib.hid h
  clear hnew h htop
  go_enter Tryz.func84, Tryz.ntmps84
  go_wp2_with fail
  refine HN.out.mono ?_
  rintro e w' ⟨s, u, rfl, hk, hset, hs, hu⟩
  go_wp2_with fail
  go_loopw [25] (fun i wr => ∃ k : Nat, k ≤ b.size ∧ i = .int .i64 k ∧ Kept No w wr ∧ MadeSet w.heap.size wr s n u (fw b n k)) (fun i _ => b.size - (intOf i).toNat)
  case atStart => exact ⟨0, Nat.zero_le _, rfl, hk, hset, hs, hu⟩
  case round =>
    obtain ⟨k, hkl, rfl, hkw, hm⟩ := hrel
    clear hk hset hs hu HN
    by_cases hlt : k < b.size
    · have hsz := hm.1.size
      have hkk : k / 8 < (fw b n k).length := by rw [hsz]; have := HB.out; omega
      obtain ⟨g, cap, rfl, hgs, hcap, hcs, hfr⟩ := hm.1.slice' (by omega)
      have hv := hm.1.v_cell
      have hx := hcs (k / 8) hkk
      have hf := hfr (k / 8)
      have hw := hm.1.word (k / 8)
      have hlim : (fw b n k).length ≤ 65536 := by rw [hsz]; omega
      have hcb : (b[k].toNat : Nat) = cut b k := by simp [cut, hlt]; rfl
      have hst := hm.1.stored rfl (k / 8) ((fw b n k).getD (k / 8) 0 ||| cut b k * 2 ^ (8 * (k % 8))) (or_lt64 _ _ hw (shl_byte _ _ (cut_lt _ _) (Nat.mod_lt _ (by omega))))
      have HS := Lib.hid hst
      have HM := Lib.hid hm
      have HC := Lib.hid hcb
      have HKW := Lib.hid hkw
      clear hst hm hcs hfr hcb hsz hkw
      generalize hX : (fw b n k).getD (k / 8) 0 = X at *
      have HX := Lib.hid hX
      clear hX
      go_wp2_with fail
      go_region
      go_wp2
      go_roundw
      case rel =>
        have hval : bits .or .u64 (X : Int) (IntKind.u64.wrap (IntKind.u64.wrap (b[k].toNat : Int) * 2 ^ (8 * (k % 8)))) = ((X ||| cut b k * 2 ^ (8 * (k % 8)) : Nat) : Int) := by
          have hc := cut_lt b k
          have h8 : k % 8 < 8 := Nat.mod_lt _ (by omega)
          rw [HC.out, show IntKind.u64.wrap ((cut b k : Nat) : Int) = ((cut b k : Nat) : Int) from by rw [IntKind.wrap_u64]; omega, wrap_shl _ _ hc h8, u64_or_nat _ _ hw (shl_byte _ _ hc h8)]
        rw [hval]
        obtain ⟨h1, h2⟩ := HS.out
        have he : fw b n (k + 1) = (fw b n k).set (k / 8) (X ||| cut b k * 2 ^ (8 * (k % 8))) := by rw [fw, HX.out]
        rw [← he] at h2
        exact ⟨k + 1, by omega, by go_num, HKW.out.next h1 (fun j hj e => by have := HM.out.2.2 j e; omega), h2, HM.out.2⟩
      case measure => simp [intOf]; omega
    · obtain rfl : k = b.size := by omega
      have HM := Lib.hid hm
      have HKW := Lib.hid hkw
      have hd : ((n : Int) % 64 != 0) = true := by rw [bne_iff_ne]; omega
      have hsz := hm.1.size
      have hkk : n / 64 < (fw b n b.size).length := by rw [hsz]; omega
      obtain ⟨g, cap, rfl, hgs, hcap, hcs, hfr⟩ := hm.1.slice' (by omega)
      have hv := hm.1.v_cell
      have hx := hcs (n / 64) hkk
      have hlim : (fw b n b.size).length ≤ 65536 := by rw [hsz]; omega
      have hz := HT.out
      clear hcs hfr hsz hm hkw
      generalize hX : (fw b n b.size).getD (n / 64) 0 = X at *
      clear hX
      have hz2 : ((X : Int) / 2 ^ (n % 64) != 0) = true := by rw [bne_iff_ne, int_pow2, ← Int.natCast_ediv]; omega
      clear hz
      go_wp2
      go_ret2
      exact ⟨rfl, HKW.out⟩
end Go.Proofs.YtabhieafjkaocaaGreat.Bm
