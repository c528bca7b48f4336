/- A part. -/
import Derived.Test.YtabhieafjkaocaaGreatMaan
import Derived.StillTailTactics
import Derived.Lib.SliceRun
import Derived.Laws.AppendOwnNone
import Derived.Deep.AppendLies
import Derived.Deep.RegionLaw
import Derived.Test.YtabhieafjkaocaaGreatMaam
set_option linter.unusedVariables false
set_option linter.unusedSimpArgs false
namespace Go.Proofs.YtabhieafjkaocaaGreat.Bm
open Go.RowKit
theorem words_one (ws : List Nat) : ∀ u ∈ words ws, u.oneCell' = true := by
  intro u hu
  obtain ⟨x, _, rfl⟩ := List.mem_map.1 hu
  rfl
theorem SetAt.fresh {B : Nat} {w : World} {s n : Nat} {v : Value} {ws : List Nat} (h : SetAt w s n v ws) : MadeSet 0 w s n v ws := ⟨h, Nat.zero_le _, fun _ _ => Nat.zero_le _⟩
theorem own_zero {w : World} {b : Nat} {e : TypeId} {z : Nat} {v : Value} {n : Nat} {xs : List Value} (h : w.ownsRow b e z v n xs) : w.ownsRow 0 e z v n xs := by
  refine ⟨h.1, ?_⟩
  rcases h.2 with h | ⟨g', c', cu, h1, h2, h3⟩
  · exact .inl h
  · exact .inr ⟨g', c', cu, h1, Nat.zero_le _, h3⟩
theorem copy_ok (s n : Nat) (v : Value) (ws : List Nat) (w : World) (h : SetAt w s n v ws) :
    Calls Tryz.prog 89 #[.pointer (some ⟨s, 0, none⟩)] w fun e w' => ∃ s' u, e = .returned (.pointer (some ⟨s', 0, none⟩)) ∧ Kept No w w' ∧ MadeSet w.heap.size w' s' n u ws := by
  obtain ⟨i0, hi, hz0, hz1, hz2⟩ := info_parts Tryz.infoU64
  have hc := h.n_cell
  have hv := h.v_cell
  have hlen : ws.length ≤ 65536 := by have := h.size; have := h.bound; omega
  have H := Lib.hid h
  by_cases h0 : ws = []
  · subst h0
    obtain ⟨a, cap, rfl⟩ := h.slen
    clear h
    cases a
    all_goals
      go_enter Tryz.func89, Tryz.ntmps89
      go_wp2_with fail
      go_region
      all_goals
        go_wp2
        go_ret
        refine ⟨w.heap.size, .slice none 0 0, rfl, ((Kept.refl _ _).alloc _).drew, ?_, Nat.le_refl _, by intro g hg; cases hg⟩
        exact (SetAt.made (w := w) (n := n) (v := .slice none 0 0) (ws := []) (World.ownsRow_nil _ _ _ _) H.out.size H.out.bound H.out.low).drew
  · obtain ⟨g, cap, rfl, hgs, hcap, _, _⟩ := h.slice' (List.length_pos_iff.2 h0)
    have hrow := h.row
    clear h
    have hlt := lt_of_heap H.out.head
    have hcells := fun j u hu => hrow.cells (g := g) rfl j u hu
    have HC : Hid (∀ j u, (words ws)[j]? = some u → w.drew.cell? ((⟨g, 0, none⟩ : Addr).add j) = some u) := hcells
    have hpos : 0 < ws.length := List.length_pos_iff.2 h0
    clear hcells hrow hcap
    have HO := words_one ws
    have HO2 := Lib.hid HO
    clear HO
    go_enter Tryz.func89, Tryz.ntmps89
    go_wp2_with fail
    go_region_law ((refine step_append_lies w.drew rfl (.const (.slice none 0 0)) (.tmp 12) 141 rfl w.heap.size 26 i0 (.int .u64 0) 1 8 Tryz.underlying141 hi hz0 hz1 hz2 rfl (by decide) (.slice none 0 0) 0 [] rfl (World.ownsRow_nil _ _ _ _) ⟨g, 0, none⟩ ws.length cap (words ws) (by simp [Act.eval]) (by simp [words]) HC.out HO2.out hpos (by unfold maxLen; omega) (by omega) (Nat.le_refl _) w.heap.size rfl ?_; intro g1 cap1 w1 hown hgrow hg1 hg2; have hc1 : w1.cell? ⟨s, 0, none⟩ = some (.int .i64 (n : Int)) := by rw [hgrow.cell_far _ hlt (by simp [Value.ownBlock])]; exact hc))
    all_goals
      go_wp2
      go_ret
      have hk : Kept No w w1 := ((Kept.refl No w).drew).trans (Kept.of_grown_none hgrow)
      simp only [Nat.zero_add, List.nil_append] at hown
      exact ⟨w1.heap.size, .slice (some ⟨g1, 0, none⟩) ws.length cap1, rfl, hk.alloc _, SetAt.made (own_zero hown) H.out.size H.out.bound H.out.low, hk.size, fun g' hg' => (hown.lt g' hg').1⟩
theorem SetAt.cells {w : World} {s n g m cap : Nat} {ws : List Nat} (hm : m = ws.length) (h : SetAt w s n (.slice (some ⟨g, 0, none⟩) m cap) ws) : ∀ (vs : List Nat) (o : Nat), o + vs.length ≤ ws.length → (∀ x ∈ vs, x < 18446744073709551616) →
    Kept (fun k => (Value.slice (some ⟨g, 0, none⟩) m cap).ownBlock = some k) w (w.setCells g o (words vs)) ∧ SetAt (w.setCells g o (words vs)) s n (.slice (some ⟨g, 0, none⟩) m cap) (ws.take o ++ vs ++ ws.drop (o + vs.length)) := by
  intro vs
  induction vs generalizing w ws with
  | nil => intro o ho hx; simp only [List.append_nil, List.length_nil, Nat.add_zero, List.take_append_drop]; exact ⟨Kept.refl _ _, h⟩
  | cons v vs ih =>
    intro o ho hx
    simp only [List.length_cons] at ho
    obtain ⟨h1, h2⟩ := h.stored hm o v (hx v List.mem_cons_self)
    have h2' : SetAt (w.setCell ⟨g, o, none⟩ (.int .u64 (v : Int))) s n (.slice (some ⟨g, 0, none⟩) m cap) (ws.set o v) := ⟨h2.head, h2.row, h2.size, h2.bound, h2.low, h2.other⟩
    have h1' : Kept (fun k => (Value.slice (some ⟨g, 0, none⟩) m cap).ownBlock = some k) w (w.setCell ⟨g, o, none⟩ (.int .u64 (v : Int))) := ⟨h1.os, h1.tape, h1.output, h1.size, h1.block⟩
    obtain ⟨k1, k2⟩ := ih (by rw [List.length_set]; exact hm) h2' (o + 1) (by rw [List.length_set]; omega) (fun x hx' => hx x (List.mem_cons_of_mem _ hx'))
    have e : (ws.set o v).take (o + 1) ++ vs ++ (ws.set o v).drop (o + 1 + vs.length) = ws.take o ++ (v :: vs) ++ ws.drop (o + (v :: vs).length) := by
      rw [List.drop_set, if_pos (by omega), List.take_set, List.take_succ_eq_append_getElem (by omega), List.set_append]
      simp [show (ws.take o).length = o by rw [List.length_take]; omega]
      congr 1
      omega
    rw [e] at k2
    exact ⟨h1'.trans k1, k2⟩
end Go.Proofs.YtabhieafjkaocaaGreat.Bm
namespace Go.Proofs.YtabhieafjkaocaaGreat.Bm
open Go.RowKit
def pc : Nat → Nat → Nat
  | 0, _ => 0
  | k + 1, x => x % 2 + pc k (x / 2)
theorem pc_le (k x : Nat) : pc k x ≤ k := by
  induction k generalizing x with
  | zero => simp [pc]
  | succ k ih => have := ih (x / 2); simp only [pc]; omega
theorem pc_add (j k x : Nat) : pc (j + k) x = pc j x + pc k (x / 2 ^ j) := by
  induction j generalizing x with
  | zero => simp [pc]
  | succ j ih =>
    rw [show j + 1 + k = (j + k) + 1 by omega, pc, pc, ih, Nat.div_div_eq_div_mul, Nat.pow_succ', Nat.add_assoc]
theorem pc_mod (k x : Nat) : pc k (x % 2 ^ k) = pc k x := by
  induction k generalizing x with
  | zero => simp [pc]
  | succ k ih =>
    simp only [pc]
    rw [Nat.pow_succ', Nat.mod_mul_right_mod, Nat.mod_mul_right_div_self, ih]
theorem and_byte (h l M m : Nat) (hl : l < 256) (hm : m < 256) : (256 * h + l) &&& (256 * M + m) = 256 * (h &&& M) + (l &&& m) := by
  apply Nat.eq_of_testBit_eq
  intro i
  have e : (256 : Nat) = 2 ^ 8 := rfl
  have hlm : l &&& m < 2 ^ 8 := Nat.and_lt_two_pow _ (by omega)
  rw [Nat.testBit_and, e, Nat.testBit_two_pow_mul_add _ (by omega), Nat.testBit_two_pow_mul_add _ (by omega), Nat.testBit_two_pow_mul_add _ hlm]
  split
  · rw [Nat.testBit_and]
  · rw [Nat.testBit_and]
def by8 : Nat → (Nat → Nat) → Nat
  | 0, _ => 0
  | n + 1, f => 256 * by8 n (fun i => f (i + 1)) + f 0
def digit (x i : Nat) : Nat := x / 256 ^ i % 256
theorem by8_digit (n x : Nat) (hx : x < 256 ^ n) : by8 n (digit x) = x := by
  induction n generalizing x with
  | zero => simp [by8]; omega
  | succ n ih =>
    have h := ih (x / 256) (by rw [Nat.pow_succ'] at hx; omega)
    have e : (fun i => digit x (i + 1)) = digit (x / 256) := by
      funext i; unfold digit; rw [Nat.pow_succ', Nat.div_div_eq_div_mul]
    rw [by8, e, h]
    simp [digit]; omega
theorem by8_lt (n : Nat) (f : Nat → Nat) (hf : ∀ i, f i < 256) : by8 n f < 256 ^ n := by
  induction n generalizing f with
  | zero => simp [by8]
  | succ n ih =>
    have := ih (fun i => f (i + 1)) (fun i => hf _)
    have := hf 0
    rw [by8, Nat.pow_succ']; omega
theorem by8_and (n : Nat) (f g : Nat → Nat) (hf : ∀ i, f i < 256) (hg : ∀ i, g i < 256) : by8 n f &&& by8 n g = by8 n (fun i => f i &&& g i) := by
  induction n generalizing f g with
  | zero => simp [by8]
  | succ n ih =>
    rw [by8, by8, and_byte _ _ _ _ (hf 0) (hg 0), ih _ _ (fun i => hf _) (fun i => hg _), by8]
theorem by8_add (n : Nat) (f g : Nat → Nat) : by8 n f + by8 n g = by8 n (fun i => f i + g i) := by
  induction n generalizing f g with
  | zero => simp [by8]
  | succ n ih => simp only [by8]; rw [← ih]; omega
theorem by8_shr_and (n k : Nat) (m : Nat) (f : Nat → Nat) (hf : ∀ i, f i < 256) (hk : k ≤ 8) (hm : m < 2 ^ (8 - k)) : by8 n f / 2 ^ k &&& by8 n (fun _ => m) = by8 n (fun i => f i / 2 ^ k &&& m) := by
  induction n generalizing f with
  | zero => simp [by8]
  | succ n ih =>
    have ih' := ih (fun i => f (i + 1)) (fun i => hf _)
    have hp : 2 ^ (8 - k) * 2 ^ k = 256 := by rw [← Nat.pow_add]; rw [show 8 - k + k = 8 by omega]
    have hm8 : m < 256 := Nat.lt_of_lt_of_le hm (by have : 2 ^ (8 - k) ≤ 2 ^ 8 := Nat.pow_le_pow_right (by omega) (by omega); omega)
    simp only [by8]
    rw [← ih']
    generalize by8 n (fun i => f (i + 1)) = H
    have h0 := hf 0
    generalize f 0 = l at *
    have hdiv : (256 * H + l) / 2 ^ k = 2 ^ (8 - k) * H + l / 2 ^ k := by
      rw [← hp, show 2 ^ (8 - k) * 2 ^ k * H + l = l + 2 ^ k * (2 ^ (8 - k) * H) by rw [Nat.mul_comm (2 ^ (8 - k)) (2 ^ k), Nat.mul_assoc]; omega, Nat.add_mul_div_left _ _ (Nat.two_pow_pos k)]
      omega
    have hl : l / 2 ^ k < 2 ^ (8 - k) := by
      rw [Nat.div_lt_iff_lt_mul (Nat.two_pow_pos k), hp]; exact h0
    rw [hdiv]
    apply Nat.eq_of_testBit_eq
    intro i
    have e : (256 : Nat) = 2 ^ 8 := rfl
    have hlm : l / 2 ^ k &&& m < 2 ^ 8 := Nat.and_lt_two_pow _ (by omega)
    rw [Nat.testBit_and, e, Nat.testBit_two_pow_mul_add _ hl, Nat.testBit_two_pow_mul_add _ (by omega), Nat.testBit_two_pow_mul_add _ hlm]
    by_cases h1 : i < 8
    · rw [if_pos h1, if_pos h1, Nat.testBit_and]
      by_cases h2 : i < 8 - k
      · rw [if_pos h2]
      · have : m.testBit i = false := Nat.testBit_lt_two_pow (Nat.lt_of_lt_of_le hm (Nat.pow_le_pow_right (by omega) (by omega)))
        rw [this, Bool.and_false, Bool.and_false]
    · rw [if_neg h1, if_neg h1, if_neg (by omega), Nat.testBit_and, Nat.testBit_div_two_pow]
      congr 2
      omega
end Go.Proofs.YtabhieafjkaocaaGreat.Bm
namespace Go.Proofs.YtabhieafjkaocaaGreat.Bm
open Go.RowKit
def st1 (x : Int) : Int := IntKind.u64.wrap (bits .and .u64 (x / 2) 6148914691236517205 + bits .and .u64 x 6148914691236517205)
def st2 (y : Int) : Int := IntKind.u64.wrap (bits .and .u64 (y / 4) 3689348814741910323 + bits .and .u64 y 3689348814741910323)
def st3 (y : Int) : Int := bits .and .u64 (IntKind.u64.wrap (y / 16 + y)) 1085102592571150095
def st4 (y : Int) : Int := IntKind.u64.wrap (y + y / 256)
def st5 (y : Int) : Int := IntKind.u64.wrap (y + y / 65536)
def st6 (y : Int) : Int := IntKind.u64.wrap (y + y / 4294967296)
def ones1 (c : Nat) : Nat := (c / 2 &&& 85) + (c &&& 85)
def ones2 (c : Nat) : Nat := (ones1 c / 4 &&& 51) + (ones1 c &&& 51)
theorem ones2_at : ∀ c, c < 256 → ones1 c < 256 ∧ ones2 c % 16 ≤ 4 ∧ ones2 c / 16 ≤ 4 ∧ ones2 c % 16 + ones2 c / 16 = pc 8 c := by decide +kernel
theorem ones1_lt (c : Nat) (h : c < 256) : ones1 c < 256 := (ones2_at c h).1
theorem mask0 : by8 8 (fun _ => 85) = 6148914691236517205 := by decide
theorem mask1 : by8 8 (fun _ => 51) = 3689348814741910323 := by decide
theorem mask2 : by8 8 (fun _ => 15) = 1085102592571150095 := by decide
theorem by8_lt64 (f : Nat → Nat) (hf : ∀ i, f i < 256) : by8 8 f < 18446744073709551616 := by8_lt 8 f hf
theorem wrap_u64_id (y : Nat) (h : y < 18446744073709551616) : IntKind.u64.wrap (y : Int) = (y : Int) := by rw [IntKind.wrap_u64]; omega
theorem st1_eq (f : Nat → Nat) (hf : ∀ i, f i < 256) : st1 ((by8 8 f : Nat) : Int) = ((by8 8 (fun i => ones1 (f i)) : Nat) : Int) := by
  have h := by8_lt64 f hf
  have h2 : by8 8 f / 2 < 18446744073709551616 := by omega
  have a1 := u64_and_nat (by8 8 f / 2) (by8 8 (fun _ => 85)) h2 (by decide)
  have a2 := u64_and_nat (by8 8 f) (by8 8 (fun _ => 85)) h (by decide)
  have e1 := by8_shr_and 8 1 85 f hf (by omega) (by omega)
  have e2 := by8_and 8 f (fun _ => 85) hf (fun _ => by omega)
  rw [Nat.pow_one] at e1
  rw [e1, mask0] at a1
  rw [e2, mask0] at a2
  unfold st1
  rw [show ((by8 8 f : Nat) : Int) / 2 = ((by8 8 f / 2 : Nat) : Int) from by simp]
  have c0 : ((6148914691236517205 : Nat) : Int) = 6148914691236517205 := rfl
  rw [c0] at a1 a2
  rw [a1, a2, ← Int.natCast_add, by8_add]
  exact wrap_u64_id _ (by8_lt64 _ (fun i => ones1_lt _ (hf i)))
theorem st2_eq (f : Nat → Nat) (hf : ∀ i, f i < 256) (g : Nat → Nat) (hg : ∀ i, g i = (f i / 4 &&& 51) + (f i &&& 51)) (hg2 : ∀ i, g i < 256) : st2 ((by8 8 f : Nat) : Int) = ((by8 8 g : Nat) : Int) := by
  have h := by8_lt64 f hf
  have h2 : by8 8 f / 4 < 18446744073709551616 := by omega
  have a1 := u64_and_nat (by8 8 f / 4) (by8 8 (fun _ => 51)) h2 (by decide)
  have a2 := u64_and_nat (by8 8 f) (by8 8 (fun _ => 51)) h (by decide)
  have e1 := by8_shr_and 8 2 51 f hf (by omega) (by omega)
  have e2 := by8_and 8 f (fun _ => 51) hf (fun _ => by omega)
  have p4 : 2 ^ 2 = 4 := rfl
  rw [p4] at e1
  rw [e1, mask1] at a1
  rw [e2, mask1] at a2
  unfold st2
  rw [show ((by8 8 f : Nat) : Int) / 4 = ((by8 8 f / 4 : Nat) : Int) from by simp]
  have c0 : ((3689348814741910323 : Nat) : Int) = 3689348814741910323 := rfl
  rw [c0] at a1 a2
  rw [a1, a2, ← Int.natCast_add, by8_add]
  have e : (fun i => (f i / 4 &&& 51) + (f i &&& 51)) = g := by funext i; rw [hg]
  rw [e]
  exact wrap_u64_id _ (by8_lt64 _ hg2)
theorem by8_8 (f : Nat → Nat) : by8 8 f = f 0 + 256 * f 1 + 65536 * f 2 + 16777216 * f 3 + 4294967296 * f 4 + 1099511627776 * f 5 + 281474976710656 * f 6 + 72057594037927936 * f 7 := by
  have e : by8 8 f = 256 * (256 * (256 * (256 * (256 * (256 * (256 * (256 * 0 + f 7) + f 6) + f 5) + f 4) + f 3) + f 2) + f 1) + f 0 := rfl
  rw [e]; omega
theorem and15 (t : Nat) : t &&& 15 = t % 16 := Nat.and_two_pow_sub_one_eq_mod t 4
theorem st3_eq (f : Nat → Nat) (hf : ∀ i, f i % 16 ≤ 4 ∧ f i / 16 ≤ 4) : st3 ((by8 8 f : Nat) : Int) = ((by8 8 (fun i => f i % 16 + f i / 16) : Nat) : Int) := by
  let t : Nat → Nat := fun i => f i / 16 + (if i = 7 then 0 else 16 * (f (i + 1) % 16)) + f i
  have ht : ∀ i, t i < 256 ∧ t i % 16 = f i % 16 + f i / 16 := by
    intro i
    have h1 := hf i
    have h2 := hf (i + 1)
    show f i / 16 + (if i = 7 then 0 else 16 * (f (i + 1) % 16)) + f i < 256 ∧ (f i / 16 + (if i = 7 then 0 else 16 * (f (i + 1) % 16)) + f i) % 16 = f i % 16 + f i / 16
    split <;> omega
  have hs : by8 8 f / 16 + by8 8 f = by8 8 t := by
    rw [by8_8, by8_8]
    show _ = (f 0 / 16 + 16 * (f 1 % 16) + f 0) + 256 * (f 1 / 16 + 16 * (f 2 % 16) + f 1) + 65536 * (f 2 / 16 + 16 * (f 3 % 16) + f 2) + 16777216 * (f 3 / 16 + 16 * (f 4 % 16) + f 3) + 4294967296 * (f 4 / 16 + 16 * (f 5 % 16) + f 4) + 1099511627776 * (f 5 / 16 + 16 * (f 6 % 16) + f 5) + 281474976710656 * (f 6 / 16 + 16 * (f 7 % 16) + f 6) + 72057594037927936 * (f 7 / 16 + 0 + f 7)
    generalize f 0 = a; generalize f 1 = b; generalize f 2 = c; generalize f 3 = d; generalize f 4 = e; generalize f 5 = g; generalize f 6 = h; generalize f 7 = k
    omega
  have hlt := by8_lt64 t (fun i => (ht i).1)
  have a1 := u64_and_nat (by8 8 t) (by8 8 (fun _ => 15)) hlt (by decide)
  have e2 := by8_and 8 t (fun _ => 15) (fun i => (ht i).1) (fun _ => by omega)
  rw [e2, mask2] at a1
  unfold st3
  rw [show ((by8 8 f : Nat) : Int) / 16 + ((by8 8 f : Nat) : Int) = ((by8 8 f / 16 + by8 8 f : Nat) : Int) from by simp, hs, wrap_u64_id _ hlt]
  have c0 : ((1085102592571150095 : Nat) : Int) = 1085102592571150095 := rfl
  rw [c0] at a1
  rw [a1]
  have e : (fun i => t i &&& 15) = fun i => f i % 16 + f i / 16 := by funext i; rw [and15, (ht i).2]
  rw [e]
def cat8 (a b c d e g h k : Nat) : Nat := a + 256 * b + 65536 * c + 16777216 * d + 4294967296 * e + 1099511627776 * g + 281474976710656 * h + 72057594037927936 * k
theorem cat_shift1 (a b c d e g h k : Nat) (ha : a ≤ 8) : cat8 a b c d e g h k + cat8 a b c d e g h k / 256 = cat8 (a + b) (b + c) (c + d) (d + e) (e + g) (g + h) (h + k) k := by
  unfold cat8; omega
theorem cat_shift2 (a b c d e g h k : Nat) (ha : a ≤ 16) (hb : b ≤ 16) : cat8 a b c d e g h k + cat8 a b c d e g h k / 65536 = cat8 (a + c) (b + d) (c + e) (d + g) (e + h) (g + k) h k := by
  unfold cat8; omega
theorem cat_shift4 (a b c d e g h k : Nat) (ha : a ≤ 32) (hb : b ≤ 32) (hc : c ≤ 32) (hd : d ≤ 32) : cat8 a b c d e g h k + cat8 a b c d e g h k / 4294967296 = cat8 (a + e) (b + g) (c + h) (d + k) e g h k := by
  unfold cat8; omega
theorem cat_lt (a b c d e g h k : Nat) (ha : a ≤ 64) (hb : b ≤ 64) (hc : c ≤ 64) (hd : d ≤ 64) (he : e ≤ 64) (hg : g ≤ 64) (hh : h ≤ 64) (hk : k ≤ 64) : cat8 a b c d e g h k < 9223372036854775808 := by
  unfold cat8; omega
theorem cat_mod (a b c d e g h k : Nat) (ha : a ≤ 64) : cat8 a b c d e g h k % 128 = a := by
  unfold cat8; omega
theorem sums_eq (a b c d e g h k : Nat) (ha : a ≤ 8) (hb : b ≤ 8) (hc : c ≤ 8) (hd : d ≤ 8) (he : e ≤ 8) (hg : g ≤ 8) (hh : h ≤ 8) (hk : k ≤ 8) :
    ∃ z : Nat, st6 (st5 (st4 ((cat8 a b c d e g h k : Nat) : Int))) = (z : Int) ∧ z < 9223372036854775808 ∧ z % 128 = a + b + c + d + e + g + h + k := by
  have w4 : ∀ y : Nat, y + y / 256 < 18446744073709551616 → st4 (y : Int) = ((y + y / 256 : Nat) : Int) := fun y h => by
    unfold st4; rw [show (y : Int) + (y : Int) / 256 = ((y + y / 256 : Nat) : Int) from by simp]; exact wrap_u64_id _ h
  have w5 : ∀ y : Nat, y + y / 65536 < 18446744073709551616 → st5 (y : Int) = ((y + y / 65536 : Nat) : Int) := fun y h => by
    unfold st5; rw [show (y : Int) + (y : Int) / 65536 = ((y + y / 65536 : Nat) : Int) from by simp]; exact wrap_u64_id _ h
  have w6 : ∀ y : Nat, y + y / 4294967296 < 18446744073709551616 → st6 (y : Int) = ((y + y / 4294967296 : Nat) : Int) := fun y h => by
    unfold st6; rw [show (y : Int) + (y : Int) / 4294967296 = ((y + y / 4294967296 : Nat) : Int) from by simp]; exact wrap_u64_id _ h
  have lt64 : ∀ {a b c d e g h k : Nat}, a ≤ 64 → b ≤ 64 → c ≤ 64 → d ≤ 64 → e ≤ 64 → g ≤ 64 → h ≤ 64 → k ≤ 64 → cat8 a b c d e g h k < 18446744073709551616 :=
    fun ha hb hc hd he hg hh hk => Nat.lt_trans (cat_lt _ _ _ _ _ _ _ _ ha hb hc hd he hg hh hk) (by omega)
  rw [w4 _ (by rw [cat_shift1 _ _ _ _ _ _ _ _ ha]; exact lt64 (by omega) (by omega) (by omega) (by omega) (by omega) (by omega) (by omega) (by omega)), cat_shift1 _ _ _ _ _ _ _ _ ha,
    w5 _ (by rw [cat_shift2 _ _ _ _ _ _ _ _ (by omega) (by omega)]; exact lt64 (by omega) (by omega) (by omega) (by omega) (by omega) (by omega) (by omega) (by omega)), cat_shift2 _ _ _ _ _ _ _ _ (by omega) (by omega),
    w6 _ (by rw [cat_shift4 _ _ _ _ _ _ _ _ (by omega) (by omega) (by omega) (by omega)]; exact lt64 (by omega) (by omega) (by omega) (by omega) (by omega) (by omega) (by omega) (by omega)), cat_shift4 _ _ _ _ _ _ _ _ (by omega) (by omega) (by omega) (by omega)]
  exact ⟨_, rfl, cat_lt _ _ _ _ _ _ _ _ (by omega) (by omega) (by omega) (by omega) (by omega) (by omega) (by omega) (by omega), by rw [cat_mod _ _ _ _ _ _ _ _ (by omega)]; omega⟩
theorem pc_bytes (x : Nat) : pc 64 x = pc 8 (digit x 0) + pc 8 (digit x 1) + pc 8 (digit x 2) + pc 8 (digit x 3) + pc 8 (digit x 4) + pc 8 (digit x 5) + pc 8 (digit x 6) + pc 8 (digit x 7) := by
  have h : ∀ i, pc 8 (digit x i) = pc 8 (x / 256 ^ i) := by
    intro i; unfold digit; exact pc_mod 8 _
  simp only [h]
  rw [show 64 = 8 + (8 + (8 + (8 + (8 + (8 + (8 + 8)))))) from rfl, pc_add, pc_add, pc_add, pc_add, pc_add, pc_add, pc_add]
  simp only [Nat.div_div_eq_div_mul]
  have e0 : x / 256 ^ 0 = x := by simp
  rw [e0]
  have p1 : 2 ^ 8 = 256 ^ 1 := by decide
  have p2 : 256 ^ 1 * 256 ^ 1 = 256 ^ 2 := by decide
  have p3 : 256 ^ 2 * 256 ^ 1 = 256 ^ 3 := by decide
  have p4 : 256 ^ 3 * 256 ^ 1 = 256 ^ 4 := by decide
  have p5 : 256 ^ 4 * 256 ^ 1 = 256 ^ 5 := by decide
  have p6 : 256 ^ 5 * 256 ^ 1 = 256 ^ 6 := by decide
  have p7 : 256 ^ 6 * 256 ^ 1 = 256 ^ 7 := by decide
  rw [p1, p2, p3, p4, p5, p6, p7]
  omega
theorem i64_low7 (z : Nat) (hz : z < 9223372036854775808) : bits .and .i64 (wrap64 (z : Int)) 127 = ((z % 128 : Nat) : Int) := by
  have hw : wrap64 (z : Int) = (z : Int) := by unfold wrap64; omega
  have h127 : z &&& 127 = z % 128 := Nat.and_two_pow_sub_one_eq_mod z 7
  rw [hw]
  show IntKind.i64.wrap ((BitVec.ofInt 64 (z : Int) &&& BitVec.ofInt 64 (127 : Nat)).toNat : Int) = _
  rw [BitVec.toNat_and, ofInt_u64 z (by omega), ofInt_u64 127 (by omega), h127, IntKind.wrap_i64]
  omega
theorem ones_any (x : Nat) (w : World) (hx : x < 18446744073709551616) :
    Calls Tryz.prog 88 #[.int .u64 (x : Int)] w fun e w' => e = .returned (.int .i64 ((pc 64 x : Nat) : Int)) ∧ w = w' := by
  go_enter Tryz.func88, Tryz.ntmps88
  go_wp2
  go_ret
  refine ⟨?_, rfl⟩
  show Ending.returned (.int .i64 (bits .and .i64 (wrap64 (st6 (st5 (st4 (st3 (st2 (st1 (x : Int)))))))) 127)) = _
  have hd : ∀ i, digit x i < 256 := fun i => Nat.mod_lt _ (by omega)
  have ha := fun i => ones2_at (digit x i) (hd i)
  rw [← by8_digit 8 x hx, st1_eq _ hd, st2_eq _ (fun i => (ha i).1) (fun i => ones2 (digit x i)) (fun i => rfl) (fun i => by have := ha i; omega), st3_eq _ (fun i => ⟨(ha i).2.1, (ha i).2.2.1⟩)]
  have h8 : ∀ i, ones2 (digit x i) % 16 + ones2 (digit x i) / 16 = pc 8 (digit x i) := fun i => (ha i).2.2.2
  have e : (fun i => ones2 (digit x i) % 16 + ones2 (digit x i) / 16) = fun i => pc 8 (digit x i) := by funext i; exact h8 i
  rw [e]
  obtain ⟨z, hz, hz2, hz3⟩ := sums_eq _ _ _ _ _ _ _ _ (pc_le 8 (digit x 0)) (pc_le 8 (digit x 1)) (pc_le 8 (digit x 2)) (pc_le 8 (digit x 3)) (pc_le 8 (digit x 4)) (pc_le 8 (digit x 5)) (pc_le 8 (digit x 6)) (pc_le 8 (digit x 7))
  rw [cat8, ← by8_8 fun i => pc 8 (digit x i)] at hz
  rw [hz, by8_digit 8 x hx, pc_bytes, ← hz3]
  rw [i64_low7 z hz2]
end Go.Proofs.YtabhieafjkaocaaGreat.Bm
namespace Go.Proofs.YtabhieafjkaocaaGreat.Bm
open Go.RowKit
def cnt (ws : List Nat) : Nat := (ws.map (pc 64)).sum
theorem cnt_le (ws : List Nat) : cnt ws ≤ 64 * ws.length := by
  unfold cnt
  induction ws with
  | nil => simp
  | cons x l ih => have := pc_le 64 x; simp only [List.map_cons, List.sum_cons, List.length_cons]; omega
theorem cnt_snoc (l : List Nat) (x : Nat) : cnt (l ++ [x]) = cnt l + pc 64 x := by simp [cnt]
theorem take_snocN (l : List Nat) (k : Nat) (h : k < l.length) : l.take (k + 1) = l.take k ++ [l.getD k 0] := by
  rw [List.take_succ_eq_append_getElem h]; simp [h]
theorem count_ok (s n : Nat) (v : Value) (ws : List Nat) (w : World) (h : SetAt w s n v ws) :
    Calls Tryz.prog 53 #[.pointer (some ⟨s, 0, none⟩)] w fun e w' => e = .returned (.int .i64 ((cnt ws : Nat) : Int)) ∧ w = w' := by
  have hv := h.v_cell
  have hlen : ws.length ≤ 65536 := by have := h.size; have := h.bound; omega
  obtain ⟨a, cap, rfl⟩ := h.slen
  have H := Lib.hid h
  clear h
  go_enter Tryz.func53, Tryz.ntmps53
  go_wp2_with fail
  go_loop [3, 13] (fun c i => ∃ k : Nat, k ≤ ws.length ∧ i = .int .i64 k ∧ c = .int .i64 ((cnt (ws.take k) : Nat) : Int)) (fun _ i => ws.length - (intOf i).toNat)
  case atStart => exact ⟨0, Nat.zero_le _, rfl, rfl⟩
  case round =>
    obtain ⟨k, hk, rfl, rfl⟩ := hrel
    by_cases hlt : k < ws.length
    · obtain ⟨g, cap1, e1, _, _, hcs, _⟩ := H.out.slice' (by omega)
      obtain ⟨rfl, rfl⟩ : a = some ⟨g, 0, none⟩ ∧ cap = cap1 := by simpa using e1
      have hx := hcs k hlt
      have hx0 := H.out.word k
      have hcl := cnt_le (ws.take k)
      have hc2 : (ws.take k).length ≤ 65536 := by rw [List.length_take]; omega
      have hsn := cnt_snoc (ws.take k) (ws.getD k 0)
      rw [← take_snocN ws k hlt] at hsn
      have hp := pc_le 64 (ws.getD k 0)
      generalize ws.getD k 0 = X at *
      have hone := ones_any X w hx0
      have HO := Lib.hid hone
      have HS := Lib.hid hsn
      have hcl2 : cnt (ws.take k) ≤ 4194304 := by omega
      clear hcs e1 hone hsn hcl hc2
      generalize cnt (ws.take k) = c at *
      generalize pc 64 X = p at *
      go_wp2_with fail
      refine HO.out.mono ?_
      rintro e w' ⟨rfl, rfl⟩
      go_wp2_with fail
      go_round
      case rel => exact ⟨k + 1, by omega, by go_num, by rw [HS.out]; go_num⟩
      case measure => simp [intOf]; omega
    · obtain rfl : k = ws.length := by omega
      rw [List.take_length]
      go_wp2
      go_ret
      exact ⟨rfl, rfl⟩
end Go.Proofs.YtabhieafjkaocaaGreat.Bm
namespace Go.Proofs.YtabhieafjkaocaaGreat.Bm
open Go.RowKit
structure Tidy (n : Nat) (ws : List Nat) : Prop where
  size : ws.length = (n + 63) / 64
  low : ∀ j, ws.getD j 0 < 18446744073709551616
  top : ∀ i, n ≤ i → (ws.getD (i / 64) 0).testBit (i % 64) = false
def mem (ws : List Nat) (i : Nat) : Bool := (ws.getD (i / 64) 0).testBit (i % 64)
theorem testBit_big (x t : Nat) (hx : x < 18446744073709551616) (ht : 64 ≤ t) : x.testBit t = false :=
  Nat.testBit_lt_two_pow (Nat.lt_of_lt_of_le hx (by
    have : 2 ^ 64 ≤ 2 ^ t := Nat.pow_le_pow_right (by omega) ht
    omega))
theorem getD_set (l : List Nat) (i j x : Nat) : (l.set i x).getD j 0 = if i = j ∧ i < l.length then x else l.getD j 0 := by
  simp only [List.getD_eq_getElem?_getD, List.getElem?_set]
  split
  · rename_i h; subst h
    split
    · rename_i h; simp [h]
    · rename_i h; simp [h]
  · rename_i h; simp [h]
theorem mem_set (ws : List Nat) (j x i : Nat) (hj : j < ws.length) : mem (ws.set j x) i = if i / 64 = j then x.testBit (i % 64) else mem ws i := by
  unfold mem
  rw [getD_set]
  by_cases h : j = i / 64
  · rw [if_pos ⟨h, hj⟩, if_pos h.symm]
  · rw [if_neg (fun x => h x.1), if_neg (fun e => h e.symm)]
theorem Tidy.length_gt {n : Nat} {ws : List Nat} (h : Tidy n ws) {i : Nat} (hi : i < n) : i / 64 < ws.length := by rw [h.size]; omega
theorem Tidy.ext {n : Nat} {a b : List Nat} (ha : Tidy n a) (hb : Tidy n b) (h : ∀ i, i < n → mem a i = mem b i) : a = b := by
  apply List.ext_getElem (ha.size.trans hb.size.symm)
  intro j h1 h2
  have e1 : a.getD j 0 = a[j] := by simp [h1]
  have e2 : b.getD j 0 = b[j] := by simp [h2]
  rw [← e1, ← e2]
  apply Nat.eq_of_testBit_eq
  intro t
  by_cases ht : t < 64
  · have hd : (64 * j + t) / 64 = j := by omega
    have hm : (64 * j + t) % 64 = t := by omega
    by_cases hi : 64 * j + t < n
    · have := h _ hi
      unfold mem at this
      rwa [hd, hm] at this
    · have x1 := ha.top _ (show n ≤ 64 * j + t by omega)
      have x2 := hb.top _ (show n ≤ 64 * j + t by omega)
      rw [hd, hm] at x1 x2
      rw [x1, x2]
  · rw [testBit_big _ _ (ha.low j) (by omega), testBit_big _ _ (hb.low j) (by omega)]
theorem tidy_zero (n : Nat) : Tidy n (List.replicate ((n + 63) / 64) 0) := by
  have h : ∀ j, (List.replicate ((n + 63) / 64) 0).getD j 0 = 0 := by
    intro j
    by_cases hj : j < (n + 63) / 64
    · simp [hj]
    · simp [hj]
  exact ⟨by simp, fun j => by rw [h]; omega, fun i _ => by rw [h]; simp⟩
theorem mem_zero (n i : Nat) : mem (List.replicate ((n + 63) / 64) 0) i = false := by
  unfold mem
  by_cases hj : i / 64 < (n + 63) / 64
  · simp [hj]
  · simp [hj]
theorem mem_putW (ws : List Nat) (i j : Nat) (hi : i / 64 < ws.length) : mem (putW ws i) j = (mem ws j || decide (i = j)) := by
  unfold putW
  rw [mem_set _ _ _ _ hi]
  split
  · rename_i h
    rw [testBit_put]
    unfold mem
    rw [h]
    congr 1
    exact decide_eq_decide.2 ⟨fun e => by omega, fun e => by omega⟩
  · rename_i h
    have : decide (i = j) = false := by simp; omega
    rw [this, Bool.or_false]
theorem mem_takeW (ws : List Nat) (i j : Nat) (hi : i / 64 < ws.length) : mem (takeW ws i) j = (mem ws j && decide (i ≠ j)) := by
  unfold takeW
  rw [mem_set _ _ _ _ hi]
  split
  · rename_i h
    rw [testBit_take _ _ _ (Nat.mod_lt _ (by omega)) (Nat.mod_lt _ (by omega))]
    unfold mem
    rw [h]
    congr 1
    exact decide_eq_decide.2 ⟨fun e => by omega, fun e => by omega⟩
  · rename_i h
    have : decide (i ≠ j) = true := by simp; omega
    rw [this, Bool.and_true]
theorem Tidy.set {n : Nat} {ws : List Nat} (h : Tidy n ws) {j x : Nat} (hx : x < 18446744073709551616) (ht : ∀ i, n ≤ i → i / 64 = j → x.testBit (i % 64) = false) : Tidy n (ws.set j x) := by
  refine ⟨by rw [List.length_set]; exact h.size, fun k => ?_, fun i hi => ?_⟩
  · rw [getD_set]; split
    · exact hx
    · exact h.low k
  · rw [getD_set]; split
    · rename_i e; exact ht i hi e.1.symm
    · exact h.top i hi
theorem Tidy.put {n : Nat} {ws : List Nat} (h : Tidy n ws) {i : Nat} (hi : i < n) : Tidy n (putW ws i) := by
  refine h.set (word_put_lt _ _ (h.low _) (Nat.mod_lt _ (by omega))) fun k hk e => ?_
  have := h.top k hk
  rw [e] at this
  rw [testBit_put, this]
  simp; omega
theorem Tidy.take {n : Nat} {ws : List Nat} (h : Tidy n ws) (i : Nat) : Tidy n (takeW ws i) := by
  refine h.set (word_take_lt _ _ (h.low _)) fun k hk e => ?_
  have := h.top k hk
  rw [e] at this
  rw [Nat.testBit_and, this, Bool.false_and]
end Go.Proofs.YtabhieafjkaocaaGreat.Bm
