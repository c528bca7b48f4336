/- The contract on From. -/
import Derived.Test.YtagbclijbeodaaaBmG
namespace Go.Proofs.Ytagbclijbeodaaa
open Go.RowKit
set_option linter.unusedVariables false

/-- A made set: block s, its own slice v, both from B on. -/
def MadeSet (B : Nat) (w : World) (s n : Nat) (v : Value) (ws : List Nat) : Prop := SetAt w s n v ws ∧ B ≤ s ∧ ∀ g, v.ownBlock = some g → B ≤ g

theorem from_len (n : Nat) (b : ByteArray) (w : World) (hn : n ≤ 65536) (hb : b.size ≤ 9223372036854775807) (h : b.size ≠ (n + 7) / 8) :
    Calls Try.prog 7 #[.int .i64 (n : Int), .string b] w fun e w' => e = .returned (.tuple #[.pointer none, .int .i64 4]) ∧ Kept No w w' := by
  have hnew := new_ok n w hn
  have HN := Lib.hid hnew
  have hne : ((b.size : Int) != ((n : Int) + 7) / 8) = true := by rw [bne_iff_ne]; omega
  clear hnew
  go_enter Try.func7, Try.ntmps7
  go_wp2_with fail
  refine HN.out.mono ?_
  rintro e w' ⟨s, u, rfl, hk, hset, hs, hu⟩
  have HK := Lib.hid hk
  clear hk hset hs hu
  go_wp2
  go_ret2
  exact ⟨rfl, HK.out⟩

def cut (b : ByteArray) (k : Nat) : Nat := (b.data.toList.getD k 0).toNat
theorem cut_lt (b : ByteArray) (k : Nat) : cut b k < 256 := UInt8.toNat_lt _
/-- the words after k bytes. -/
def fw (b : ByteArray) (n : Nat) : Nat → List Nat
  | 0 => List.replicate ((n + 63) / 64) 0
  | k + 1 => (fw b n k).set (k / 8) ((fw b n k).getD (k / 8) 0 ||| cut b k * 2 ^ (8 * (k % 8)))

theorem shl_byte (c k : Nat) (hc : c < 256) (hk : k < 8) : c * 2 ^ (8 * k) < 18446744073709551616 := by
  have h1 : 2 ^ (8 * k) ≤ 2 ^ 56 := Nat.pow_le_pow_right (by omega) (by omega)
  have h2 : c * 2 ^ (8 * k) ≤ 255 * 2 ^ 56 := Nat.mul_le_mul (by omega) h1
  omega
theorem wrap_shl (c k : Nat) (hc : c < 256) (hk : k < 8) : IntKind.u64.wrap ((c : Int) * 2 ^ (8 * k)) = ((c * 2 ^ (8 * k) : Nat) : Int) := by
  have := shl_byte c k hc hk
  rw [IntKind.wrap_u64, int_pow2, ← Int.natCast_mul]
  generalize c * 2 ^ (8 * k) = y at *
  omega
theorem or_lt64 (x y : Nat) (hx : x < 18446744073709551616) (hy : y < 18446744073709551616) : x ||| y < 18446744073709551616 := Nat.or_lt_two_pow (n := 64) hx hy

theorem from_ok (n : Nat) (b : ByteArray) (w : World) (hn : n ≤ 65536) (h : b.size = (n + 7) / 8) (htop : n % 64 ≠ 0 → (fw b n b.size).getD (n / 64) 0 / 2 ^ (n % 64) = 0) :
    Calls Try.prog 7 #[.int .i64 (n : Int), .string b] w fun e w' => ∃ s v, e = .returned (.tuple #[.pointer (some ⟨s, 0, none⟩), .int .i64 0]) ∧ Kept No w w' ∧ MadeSet w.heap.size w' s n v (fw b n b.size) := by
  have hnew := new_ok n w hn
  have HN := Lib.hid hnew
  have HT := Lib.hid htop
  have hbs : b.size ≤ 65536 := by omega
  have hne : ((b.size : Int) != ((n : Int) + 7) / 8) = false := by rw [bne_eq_false_iff_eq]; omega
  have HB := Lib.hid h
  clear hnew h htop
  go_enter Try.func7, Try.ntmps7
  go_wp2_with fail
  refine HN.out.mono ?_
  rintro e w' ⟨s, u, rfl, hk, hset, hs, hu⟩
  go_wp2_with fail
  go_loopw [25] (fun i wr => ∃ k : Nat, k ≤ b.size ∧ i = .int .i64 k ∧ Kept No w wr ∧ MadeSet w.heap.size wr s n u (fw b n k)) (fun i _ => b.size - (intOf i).toNat)
  case atStart => exact ⟨0, Nat.zero_le _, rfl, hk, hset, hs, hu⟩
  case round =>
    obtain ⟨k, hkl, rfl, hkw, hm⟩ := hrel
    clear hk hset hs hu HN
    by_cases hlt : k < b.size
    · have hsz := hm.1.size
      have hkk : k / 8 < (fw b n k).length := by rw [hsz]; have := HB.out; omega
      obtain ⟨g, cap, rfl, hgs, hcap, hcs, hfr⟩ := hm.1.slice' (by omega)
      have hv := hm.1.v_cell
      have hx := hcs (k / 8) hkk
      have hf := hfr (k / 8)
      have hw := hm.1.word (k / 8)
      have hlim : (fw b n k).length ≤ 65536 := by rw [hsz]; omega
      have hcb : (b[k].toNat : Nat) = cut b k := by simp [cut, hlt]; rfl
      have hst := hm.1.stored rfl (k / 8) ((fw b n k).getD (k / 8) 0 ||| cut b k * 2 ^ (8 * (k % 8))) (or_lt64 _ _ hw (shl_byte _ _ (cut_lt _ _) (Nat.mod_lt _ (by omega))))
      have HS := Lib.hid hst
      have HM := Lib.hid hm
      have HC := Lib.hid hcb
      have HKW := Lib.hid hkw
      clear hst hm hcs hfr hcb hsz hkw
      generalize hX : (fw b n k).getD (k / 8) 0 = X at *
      have HX := Lib.hid hX
      clear hX
      go_wp2_with fail
      go_region
      go_wp2
      go_roundw
      case rel =>
        have hval : bits .or .u64 (X : Int) (IntKind.u64.wrap (IntKind.u64.wrap (b[k].toNat : Int) * 2 ^ (8 * (k % 8)))) = ((X ||| cut b k * 2 ^ (8 * (k % 8)) : Nat) : Int) := by
          have hc := cut_lt b k
          have h8 : k % 8 < 8 := Nat.mod_lt _ (by omega)
          rw [HC.out, show IntKind.u64.wrap ((cut b k : Nat) : Int) = ((cut b k : Nat) : Int) from by rw [IntKind.wrap_u64]; omega, wrap_shl _ _ hc h8, u64_or_nat _ _ hw (shl_byte _ _ hc h8)]
        rw [hval]
        obtain ⟨h1, h2⟩ := HS.out
        have he : fw b n (k + 1) = (fw b n k).set (k / 8) (X ||| cut b k * 2 ^ (8 * (k % 8))) := by rw [fw, HX.out]
        rw [← he] at h2
        exact ⟨k + 1, by omega, by go_num, HKW.out.next h1 (fun j hj e => by have := HM.out.2.2 j e; omega), h2, HM.out.2⟩
      case measure => simp [intOf]; omega
    · obtain rfl : k = b.size := by omega
      have HM := Lib.hid hm
      have HKW := Lib.hid hkw
      by_cases h64 : n % 64 = 0
      · have hd : ((n : Int) % 64 != 0) = false := by rw [bne_eq_false_iff_eq]; omega
        clear hkw hm
        go_wp2
        go_ret2
        exact ⟨s, u, rfl, HKW.out, HM.out⟩
      · have hd : ((n : Int) % 64 != 0) = true := by rw [bne_iff_ne]; omega
        have hsz := hm.1.size
        have hkk : n / 64 < (fw b n b.size).length := by rw [hsz]; omega
        obtain ⟨g, cap, rfl, hgs, hcap, hcs, hfr⟩ := hm.1.slice' (by omega)
        have hv := hm.1.v_cell
        have hx := hcs (n / 64) hkk
        have hlim : (fw b n b.size).length ≤ 65536 := by rw [hsz]; omega
        have hz := HT.out h64
        clear hcs hfr hsz hm hkw
        generalize hX : (fw b n b.size).getD (n / 64) 0 = X at *
        clear hX
        have hz2 : ((X : Int) / 2 ^ (n % 64) != 0) = false := by rw [bne_eq_false_iff_eq, int_pow2, ← Int.natCast_ediv, hz]; rfl
        clear hz
        go_wp2
        go_ret2
        exact ⟨s, _, rfl, HKW.out, HM.out⟩

end Go.Proofs.Ytagbclijbeodaaa
