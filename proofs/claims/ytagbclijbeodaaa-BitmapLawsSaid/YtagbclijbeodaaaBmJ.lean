/- Contracts on Fill and on with. -/
import Derived.Test.YtagbclijbeodaaaBmH
namespace Go.Proofs.Ytagbclijbeodaaa
open Go.RowKit
set_option linter.unusedVariables false

/-- the words after k numbers from f on were put in. -/
def fillW (ws : List Nat) (f : Nat) : Nat → List Nat
  | 0 => ws
  | k + 1 => putW (fillW ws f k) (f + k)
theorem fillW_length (ws : List Nat) (f k : Nat) : (fillW ws f k).length = ws.length := by
  induction k with
  | zero => rfl
  | succ k ih => simp [fillW, putW, ih]

theorem fill_ok (s n : Nat) (v : Value) (ws : List Nat) (w : World) (f b : Nat) (h : SetAt w s n v ws) (h1 : f ≤ b) (h2 : b ≤ n) :
    Calls Try.prog 21 #[.pointer (some ⟨s, 0, none⟩), .int .i64 (f : Int), .int .i64 (b : Int)] w fun e w' => e = .returned (.int .i64 0) ∧ Kept (fun k => v.ownBlock = some k) w w' ∧ SetAt w' s n v (fillW ws f (b - f)) := by
  have hc := h.n_cell
  have hb := h.bound
  have hd1 : decide ((f : Int) < 0) = false := by simp
  have hd2 : decide (b < f) = false := by simp; omega
  have hd3 : decide (n < b) = false := by simp; omega
  have H := Lib.hid h
  clear h
  go_enter Try.func21, Try.ntmps21
  go_wp2_with fail
  go_loopw [7] (fun i wr => ∃ k : Nat, k ≤ b - f ∧ i = .int .i64 ((f + k : Nat) : Int) ∧ Kept (fun k => v.ownBlock = some k) w wr ∧ SetAt wr s n v (fillW ws f k)) (fun i _ => b - (intOf i).toNat)
  case atStart => exact ⟨0, Nat.zero_le _, rfl, Kept.refl _ _, H.out⟩
  case round =>
    obtain ⟨k, hk, rfl, hkw, hs⟩ := hrel
    by_cases hlt : f + k < b
    · have hsz := hs.size
      obtain ⟨g, cap, rfl, hgs, hcap, hcs, hfr⟩ := hs.slice' (by omega)
      have hv := hs.v_cell
      have hlim : (fillW ws f k).length ≤ 65536 := by rw [hsz]; omega
      have hkk : (f + k) / 64 < (fillW ws f k).length := by rw [hsz]; omega
      have hx := hcs ((f + k) / 64) hkk
      have hf := hfr ((f + k) / 64)
      have hx0 := hs.word ((f + k) / 64)
      have hst := hs.stored rfl ((f + k) / 64) _ (word_put_lt _ _ hx0 (Nat.mod_lt (f + k) (show 0 < 64 by omega)))
      have HS := Lib.hid hst
      have HK := Lib.hid hkw
      clear hs hcs hfr hsz hst hkw
      generalize hX : (fillW ws f k).getD ((f + k) / 64) 0 = X at *
      have HX := Lib.hid hX
      clear hX
      generalize hj : f + k = j at *
      have HJ := Lib.hid hj
      clear hj
      go_wp2_with fail
      go_region
      go_wp2
      go_roundw
      case rel =>
        rw [wrap_pow2 _ (Nat.mod_lt _ (by omega)), word_put X _ hx0 (Nat.mod_lt _ (by omega))]
        have he : fillW ws f (k + 1) = (fillW ws f k).set (j / 64) (X ||| 2 ^ (j % 64)) := by rw [fillW, putW, HJ.out, HX.out]
        refine ⟨k + 1, by have := HJ.out; omega, by rw [show f + (k + 1) = j + 1 by have := HJ.out; omega]; rfl, HK.out.trans HS.out.1, ?_⟩
        rw [he]; exact HS.out.2
      case measure => simp [intOf]; omega
    · obtain rfl : k = b - f := by omega
      have HS := Lib.hid hs
      have HK := Lib.hid hkw
      clear hs hkw
      have hj : f + (b - f) = b := by omega
      rw [hj]
      clear hj
      go_wp2
      go_ret
      exact ⟨rfl, HK.out, HS.out⟩

theorem or_fn (x y : Nat) (w : World) (hx : x < 18446744073709551616) (hy : y < 18446744073709551616) :
    Calls Try.prog 25 #[.int .u64 (x : Int), .int .u64 (y : Int)] w fun e w' => e = .returned (.int .u64 ((x ||| y : Nat) : Int)) ∧ w = w' := by
  go_enter Try.func25, Try.ntmps25
  go_wp2
  go_ret
  exact ⟨by rw [← u64_or_nat x y hx hy]; rfl, rfl⟩
theorem and_fn (x y : Nat) (w : World) (hx : x < 18446744073709551616) (hy : y < 18446744073709551616) :
    Calls Try.prog 26 #[.int .u64 (x : Int), .int .u64 (y : Int)] w fun e w' => e = .returned (.int .u64 ((x &&& y : Nat) : Int)) ∧ w = w' := by
  go_enter Try.func26, Try.ntmps26
  go_wp2
  go_ret
  exact ⟨by rw [← u64_and_nat x y hx hy]; rfl, rfl⟩
theorem minus_fn (x y : Nat) (w : World) (hx : x < 18446744073709551616) (hy : y < 18446744073709551616) :
    Calls Try.prog 27 #[.int .u64 (x : Int), .int .u64 (y : Int)] w fun e w' => e = .returned (.int .u64 ((x &&& (18446744073709551615 - y) : Nat) : Int)) ∧ w = w' := by
  go_enter Try.func27, Try.ntmps27
  go_wp2
  go_ret
  exact ⟨by rw [← u64_andNot_nat x y hx hy]; rfl, rfl⟩

end Go.Proofs.Ytagbclijbeodaaa
