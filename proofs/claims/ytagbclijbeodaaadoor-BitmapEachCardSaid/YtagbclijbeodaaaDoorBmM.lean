/- The contract on math/bits.OnesCount64. -/
import Derived.Test.YtagbclijbeodaaaDoorBmL
import Derived.Test.YtagbclijbeodaaaDoorBmA
namespace Go.Proofs.YtagbclijbeodaaaDoor
open Go.RowKit
set_option linter.unusedVariables false

def st1 (x : Int) : Int := IntKind.u64.wrap (bits .and .u64 (x / 2) 6148914691236517205 + bits .and .u64 x 6148914691236517205)
def st2 (y : Int) : Int := IntKind.u64.wrap (bits .and .u64 (y / 4) 3689348814741910323 + bits .and .u64 y 3689348814741910323)
def st3 (y : Int) : Int := bits .and .u64 (IntKind.u64.wrap (y / 16 + y)) 1085102592571150095
def st4 (y : Int) : Int := IntKind.u64.wrap (y + y / 256)
def st5 (y : Int) : Int := IntKind.u64.wrap (y + y / 65536)
def st6 (y : Int) : Int := IntKind.u64.wrap (y + y / 4294967296)

def ones1 (c : Nat) : Nat := (c / 2 &&& 85) + (c &&& 85)
def ones2 (c : Nat) : Nat := (ones1 c / 4 &&& 51) + (ones1 c &&& 51)
theorem ones2_at : ∀ c, c < 256 → ones1 c < 256 ∧ ones2 c % 16 ≤ 4 ∧ ones2 c / 16 ≤ 4 ∧ ones2 c % 16 + ones2 c / 16 = pc 8 c := by decide +kernel

theorem ones1_lt (c : Nat) (h : c < 256) : ones1 c < 256 := (ones2_at c h).1

theorem mask0 : by8 8 (fun _ => 85) = 6148914691236517205 := by decide
theorem mask1 : by8 8 (fun _ => 51) = 3689348814741910323 := by decide
theorem mask2 : by8 8 (fun _ => 15) = 1085102592571150095 := by decide

theorem by8_lt64 (f : Nat → Nat) (hf : ∀ i, f i < 256) : by8 8 f < 18446744073709551616 := by8_lt 8 f hf

theorem wrap_u64_id (y : Nat) (h : y < 18446744073709551616) : IntKind.u64.wrap (y : Int) = (y : Int) := by rw [IntKind.wrap_u64]; omega

theorem st1_eq (f : Nat → Nat) (hf : ∀ i, f i < 256) : st1 ((by8 8 f : Nat) : Int) = ((by8 8 (fun i => ones1 (f i)) : Nat) : Int) := by
  have h := by8_lt64 f hf
  have h2 : by8 8 f / 2 < 18446744073709551616 := by omega
  have a1 := u64_and_nat (by8 8 f / 2) (by8 8 (fun _ => 85)) h2 (by decide)
  have a2 := u64_and_nat (by8 8 f) (by8 8 (fun _ => 85)) h (by decide)
  have e1 := by8_shr_and 8 1 85 f hf (by omega) (by omega)
  have e2 := by8_and 8 f (fun _ => 85) hf (fun _ => by omega)
  rw [Nat.pow_one] at e1
  rw [e1, mask0] at a1
  rw [e2, mask0] at a2
  unfold st1
  rw [show ((by8 8 f : Nat) : Int) / 2 = ((by8 8 f / 2 : Nat) : Int) from by simp]
  have c0 : ((6148914691236517205 : Nat) : Int) = 6148914691236517205 := rfl
  rw [c0] at a1 a2
  rw [a1, a2, ← Int.natCast_add, by8_add]
  exact wrap_u64_id _ (by8_lt64 _ (fun i => ones1_lt _ (hf i)))

theorem st2_eq (f : Nat → Nat) (hf : ∀ i, f i < 256) (g : Nat → Nat) (hg : ∀ i, g i = (f i / 4 &&& 51) + (f i &&& 51)) (hg2 : ∀ i, g i < 256) : st2 ((by8 8 f : Nat) : Int) = ((by8 8 g : Nat) : Int) := by
  have h := by8_lt64 f hf
  have h2 : by8 8 f / 4 < 18446744073709551616 := by omega
  have a1 := u64_and_nat (by8 8 f / 4) (by8 8 (fun _ => 51)) h2 (by decide)
  have a2 := u64_and_nat (by8 8 f) (by8 8 (fun _ => 51)) h (by decide)
  have e1 := by8_shr_and 8 2 51 f hf (by omega) (by omega)
  have e2 := by8_and 8 f (fun _ => 51) hf (fun _ => by omega)
  have p4 : 2 ^ 2 = 4 := rfl
  rw [p4] at e1
  rw [e1, mask1] at a1
  rw [e2, mask1] at a2
  unfold st2
  rw [show ((by8 8 f : Nat) : Int) / 4 = ((by8 8 f / 4 : Nat) : Int) from by simp]
  have c0 : ((3689348814741910323 : Nat) : Int) = 3689348814741910323 := rfl
  rw [c0] at a1 a2
  rw [a1, a2, ← Int.natCast_add, by8_add]
  have e : (fun i => (f i / 4 &&& 51) + (f i &&& 51)) = g := by funext i; rw [hg]
  rw [e]
  exact wrap_u64_id _ (by8_lt64 _ hg2)

theorem by8_8 (f : Nat → Nat) : by8 8 f = f 0 + 256 * f 1 + 65536 * f 2 + 16777216 * f 3 + 4294967296 * f 4 + 1099511627776 * f 5 + 281474976710656 * f 6 + 72057594037927936 * f 7 := by
  have e : by8 8 f = 256 * (256 * (256 * (256 * (256 * (256 * (256 * (256 * 0 + f 7) + f 6) + f 5) + f 4) + f 3) + f 2) + f 1) + f 0 := rfl
  rw [e]; omega

theorem and15 (t : Nat) : t &&& 15 = t % 16 := Nat.and_two_pow_sub_one_eq_mod t 4

theorem st3_eq (f : Nat → Nat) (hf : ∀ i, f i % 16 ≤ 4 ∧ f i / 16 ≤ 4) : st3 ((by8 8 f : Nat) : Int) = ((by8 8 (fun i => f i % 16 + f i / 16) : Nat) : Int) := by
  let t : Nat → Nat := fun i => f i / 16 + (if i = 7 then 0 else 16 * (f (i + 1) % 16)) + f i
  have ht : ∀ i, t i < 256 ∧ t i % 16 = f i % 16 + f i / 16 := by
    intro i
    have h1 := hf i
    have h2 := hf (i + 1)
    show f i / 16 + (if i = 7 then 0 else 16 * (f (i + 1) % 16)) + f i < 256 ∧ (f i / 16 + (if i = 7 then 0 else 16 * (f (i + 1) % 16)) + f i) % 16 = f i % 16 + f i / 16
    split <;> omega
  have hs : by8 8 f / 16 + by8 8 f = by8 8 t := by
    rw [by8_8, by8_8]
    show _ = (f 0 / 16 + 16 * (f 1 % 16) + f 0) + 256 * (f 1 / 16 + 16 * (f 2 % 16) + f 1) + 65536 * (f 2 / 16 + 16 * (f 3 % 16) + f 2) + 16777216 * (f 3 / 16 + 16 * (f 4 % 16) + f 3) + 4294967296 * (f 4 / 16 + 16 * (f 5 % 16) + f 4) + 1099511627776 * (f 5 / 16 + 16 * (f 6 % 16) + f 5) + 281474976710656 * (f 6 / 16 + 16 * (f 7 % 16) + f 6) + 72057594037927936 * (f 7 / 16 + 0 + f 7)
    generalize f 0 = a; generalize f 1 = b; generalize f 2 = c; generalize f 3 = d; generalize f 4 = e; generalize f 5 = g; generalize f 6 = h; generalize f 7 = k
    omega
  have hlt := by8_lt64 t (fun i => (ht i).1)
  have a1 := u64_and_nat (by8 8 t) (by8 8 (fun _ => 15)) hlt (by decide)
  have e2 := by8_and 8 t (fun _ => 15) (fun i => (ht i).1) (fun _ => by omega)
  rw [e2, mask2] at a1
  unfold st3
  rw [show ((by8 8 f : Nat) : Int) / 16 + ((by8 8 f : Nat) : Int) = ((by8 8 f / 16 + by8 8 f : Nat) : Int) from by simp, hs, wrap_u64_id _ hlt]
  have c0 : ((1085102592571150095 : Nat) : Int) = 1085102592571150095 := rfl
  rw [c0] at a1
  rw [a1]
  have e : (fun i => t i &&& 15) = fun i => f i % 16 + f i / 16 := by funext i; rw [and15, (ht i).2]
  rw [e]

def cat8 (a b c d e g h k : Nat) : Nat := a + 256 * b + 65536 * c + 16777216 * d + 4294967296 * e + 1099511627776 * g + 281474976710656 * h + 72057594037927936 * k
theorem cat_shift1 (a b c d e g h k : Nat) (ha : a ≤ 8) : cat8 a b c d e g h k + cat8 a b c d e g h k / 256 = cat8 (a + b) (b + c) (c + d) (d + e) (e + g) (g + h) (h + k) k := by
  unfold cat8; omega
theorem cat_shift2 (a b c d e g h k : Nat) (ha : a ≤ 16) (hb : b ≤ 16) : cat8 a b c d e g h k + cat8 a b c d e g h k / 65536 = cat8 (a + c) (b + d) (c + e) (d + g) (e + h) (g + k) h k := by
  unfold cat8; omega
theorem cat_shift4 (a b c d e g h k : Nat) (ha : a ≤ 32) (hb : b ≤ 32) (hc : c ≤ 32) (hd : d ≤ 32) : cat8 a b c d e g h k + cat8 a b c d e g h k / 4294967296 = cat8 (a + e) (b + g) (c + h) (d + k) e g h k := by
  unfold cat8; omega
theorem cat_lt (a b c d e g h k : Nat) (ha : a ≤ 64) (hb : b ≤ 64) (hc : c ≤ 64) (hd : d ≤ 64) (he : e ≤ 64) (hg : g ≤ 64) (hh : h ≤ 64) (hk : k ≤ 64) : cat8 a b c d e g h k < 9223372036854775808 := by
  unfold cat8; omega
theorem cat_mod (a b c d e g h k : Nat) (ha : a ≤ 64) : cat8 a b c d e g h k % 128 = a := by
  unfold cat8; omega

/-- The last three sums, and the lowest seven bits. -/
theorem sums_eq (a b c d e g h k : Nat) (ha : a ≤ 8) (hb : b ≤ 8) (hc : c ≤ 8) (hd : d ≤ 8) (he : e ≤ 8) (hg : g ≤ 8) (hh : h ≤ 8) (hk : k ≤ 8) :
    ∃ z : Nat, st6 (st5 (st4 ((cat8 a b c d e g h k : Nat) : Int))) = (z : Int) ∧ z < 9223372036854775808 ∧ z % 128 = a + b + c + d + e + g + h + k := by
  have w4 : ∀ y : Nat, y + y / 256 < 18446744073709551616 → st4 (y : Int) = ((y + y / 256 : Nat) : Int) := fun y h => by
    unfold st4; rw [show (y : Int) + (y : Int) / 256 = ((y + y / 256 : Nat) : Int) from by simp]; exact wrap_u64_id _ h
  have w5 : ∀ y : Nat, y + y / 65536 < 18446744073709551616 → st5 (y : Int) = ((y + y / 65536 : Nat) : Int) := fun y h => by
    unfold st5; rw [show (y : Int) + (y : Int) / 65536 = ((y + y / 65536 : Nat) : Int) from by simp]; exact wrap_u64_id _ h
  have w6 : ∀ y : Nat, y + y / 4294967296 < 18446744073709551616 → st6 (y : Int) = ((y + y / 4294967296 : Nat) : Int) := fun y h => by
    unfold st6; rw [show (y : Int) + (y : Int) / 4294967296 = ((y + y / 4294967296 : Nat) : Int) from by simp]; exact wrap_u64_id _ h
  have lt64 : ∀ {a b c d e g h k : Nat}, a ≤ 64 → b ≤ 64 → c ≤ 64 → d ≤ 64 → e ≤ 64 → g ≤ 64 → h ≤ 64 → k ≤ 64 → cat8 a b c d e g h k < 18446744073709551616 :=
    fun ha hb hc hd he hg hh hk => Nat.lt_trans (cat_lt _ _ _ _ _ _ _ _ ha hb hc hd he hg hh hk) (by omega)
  rw [w4 _ (by rw [cat_shift1 _ _ _ _ _ _ _ _ ha]; exact lt64 (by omega) (by omega) (by omega) (by omega) (by omega) (by omega) (by omega) (by omega)), cat_shift1 _ _ _ _ _ _ _ _ ha,
    w5 _ (by rw [cat_shift2 _ _ _ _ _ _ _ _ (by omega) (by omega)]; exact lt64 (by omega) (by omega) (by omega) (by omega) (by omega) (by omega) (by omega) (by omega)), cat_shift2 _ _ _ _ _ _ _ _ (by omega) (by omega),
    w6 _ (by rw [cat_shift4 _ _ _ _ _ _ _ _ (by omega) (by omega) (by omega) (by omega)]; exact lt64 (by omega) (by omega) (by omega) (by omega) (by omega) (by omega) (by omega) (by omega)), cat_shift4 _ _ _ _ _ _ _ _ (by omega) (by omega) (by omega) (by omega)]
  exact ⟨_, rfl, cat_lt _ _ _ _ _ _ _ _ (by omega) (by omega) (by omega) (by omega) (by omega) (by omega) (by omega) (by omega), by rw [cat_mod _ _ _ _ _ _ _ _ (by omega)]; omega⟩

theorem pc_bytes (x : Nat) : pc 64 x = pc 8 (digit x 0) + pc 8 (digit x 1) + pc 8 (digit x 2) + pc 8 (digit x 3) + pc 8 (digit x 4) + pc 8 (digit x 5) + pc 8 (digit x 6) + pc 8 (digit x 7) := by
  have h : ∀ i, pc 8 (digit x i) = pc 8 (x / 256 ^ i) := by
    intro i; unfold digit; exact pc_mod 8 _
  simp only [h]
  rw [show 64 = 8 + (8 + (8 + (8 + (8 + (8 + (8 + 8)))))) from rfl, pc_add, pc_add, pc_add, pc_add, pc_add, pc_add, pc_add]
  simp only [Nat.div_div_eq_div_mul]
  have e0 : x / 256 ^ 0 = x := by simp
  rw [e0]
  have p1 : 2 ^ 8 = 256 ^ 1 := by decide
  have p2 : 256 ^ 1 * 256 ^ 1 = 256 ^ 2 := by decide
  have p3 : 256 ^ 2 * 256 ^ 1 = 256 ^ 3 := by decide
  have p4 : 256 ^ 3 * 256 ^ 1 = 256 ^ 4 := by decide
  have p5 : 256 ^ 4 * 256 ^ 1 = 256 ^ 5 := by decide
  have p6 : 256 ^ 5 * 256 ^ 1 = 256 ^ 6 := by decide
  have p7 : 256 ^ 6 * 256 ^ 1 = 256 ^ 7 := by decide
  rw [p1, p2, p3, p4, p5, p6, p7]
  omega

theorem i64_low7 (z : Nat) (hz : z < 9223372036854775808) : bits .and .i64 (wrap64 (z : Int)) 127 = ((z % 128 : Nat) : Int) := by
  have hw : wrap64 (z : Int) = (z : Int) := by unfold wrap64; omega
  have h127 : z &&& 127 = z % 128 := Nat.and_two_pow_sub_one_eq_mod z 7
  rw [hw]
  show IntKind.i64.wrap ((BitVec.ofInt 64 (z : Int) &&& BitVec.ofInt 64 (127 : Nat)).toNat : Int) = _
  rw [BitVec.toNat_and, ofInt_u64 z (by omega), ofInt_u64 127 (by omega), h127, IntKind.wrap_i64]
  omega

theorem ones_any (x : Nat) (w : World) (hx : x < 18446744073709551616) :
    Calls Tryd.prog 24 #[.int .u64 (x : Int)] w fun e w' => e = .returned (.int .i64 ((pc 64 x : Nat) : Int)) ∧ w = w' := by
  go_enter Tryd.func24, Tryd.ntmps24
  go_wp2
  go_ret
  refine ⟨?_, rfl⟩
  show Ending.returned (.int .i64 (bits .and .i64 (wrap64 (st6 (st5 (st4 (st3 (st2 (st1 (x : Int)))))))) 127)) = _
  have hd : ∀ i, digit x i < 256 := fun i => Nat.mod_lt _ (by omega)
  have ha := fun i => ones2_at (digit x i) (hd i)
  rw [← by8_digit 8 x hx, st1_eq _ hd, st2_eq _ (fun i => (ha i).1) (fun i => ones2 (digit x i)) (fun i => rfl) (fun i => by have := ha i; omega), st3_eq _ (fun i => ⟨(ha i).2.1, (ha i).2.2.1⟩)]
  have h8 : ∀ i, ones2 (digit x i) % 16 + ones2 (digit x i) / 16 = pc 8 (digit x i) := fun i => (ha i).2.2.2
  have e : (fun i => ones2 (digit x i) % 16 + ones2 (digit x i) / 16) = fun i => pc 8 (digit x i) := by funext i; exact h8 i
  rw [e]
  obtain ⟨z, hz, hz2, hz3⟩ := sums_eq _ _ _ _ _ _ _ _ (pc_le 8 (digit x 0)) (pc_le 8 (digit x 1)) (pc_le 8 (digit x 2)) (pc_le 8 (digit x 3)) (pc_le 8 (digit x 4)) (pc_le 8 (digit x 5)) (pc_le 8 (digit x 6)) (pc_le 8 (digit x 7))
  rw [cat8, ← by8_8 fun i => pc 8 (digit x i)] at hz
  rw [hz, by8_digit 8 x hx, pc_bytes, ← hz3]
  rw [i64_low7 z hz2]

end Go.Proofs.YtagbclijbeodaaaDoor
