/- Plain laws: or, and, minus, number by number, and how many. -/
import Derived.Test.YtagbclijbeodaaaBmQ
namespace Go.Proofs.Ytagbclijbeodaaa
open Go.RowKit
set_option linter.unusedVariables false

def hasB (n : Nat) (ws : List Nat) (i : Int) : Bool := if 0 ≤ i ∧ i < n then mem ws i.toNat else false

theorem has_any (s n : Nat) (v : Value) (ws : List Nat) (w : World) (i : Int) (h : SetAt w s n v ws) :
    Calls Try.prog 16 #[.pointer (some ⟨s, 0, none⟩), .int .i64 i] w fun e w' => e = .returned (.bool (hasB n ws i)) ∧ w = w' := by
  unfold hasB
  split
  · rename_i hi
    obtain ⟨k, rfl⟩ := Int.eq_ofNat_of_zero_le hi.1
    exact has_in s n v ws w k h (by omega)
  · exact has_out s n v ws w i h (by omega)

theorem mix_mem (op : Nat → Nat → Nat) (f : Bool → Bool → Bool) (hf : ∀ x y t, t < 64 → y < 18446744073709551616 → (op x y).testBit t = f (x.testBit t) (y.testBit t)) (a b : List Nat) (i : Nat) (hi : i / 64 < a.length) (hb : ∀ j, b.getD j 0 < 18446744073709551616) :
    mem (mix op a b a.length) i = f (mem a i) (mem b i) := by
  unfold mem
  rw [mix_getD op a b a.length _ hi, if_pos hi, hf _ _ _ (Nat.mod_lt _ (by omega)) (hb _)]

theorem testBit_not (y t : Nat) (ht : t < 64) (hy : y < 18446744073709551616) : (18446744073709551615 - y).testBit t = !y.testBit t := by
  have : 18446744073709551615 - y = 2 ^ 64 - (y + 1) := by omega
  rw [this, Nat.testBit_two_pow_sub_succ hy]
  simp [ht]

theorem hasB_or {n : Nat} {a b : List Nat} (ha : Tidy n a) (hb : Tidy n b) (i : Int) : hasB n (OrW a b) i = (hasB n a i || hasB n b i) := by
  unfold hasB
  split
  · rename_i h
    exact mix_mem (fun x y => x ||| y) (fun x y => x || y) (fun x y t _ _ => Nat.testBit_or x y t) a b _ (ha.length_gt (by omega)) hb.low
  · rfl
theorem hasB_and {n : Nat} {a b : List Nat} (ha : Tidy n a) (hb : Tidy n b) (i : Int) : hasB n (AndW a b) i = (hasB n a i && hasB n b i) := by
  unfold hasB
  split
  · rename_i h
    exact mix_mem (fun x y => x &&& y) (fun x y => x && y) (fun x y t _ _ => Nat.testBit_and x y t) a b _ (ha.length_gt (by omega)) hb.low
  · rfl
theorem hasB_minus {n : Nat} {a b : List Nat} (ha : Tidy n a) (hb : Tidy n b) (i : Int) : hasB n (MinusW a b) i = (hasB n a i && !hasB n b i) := by
  unfold hasB
  split
  · rename_i h
    exact mix_mem (fun x y => x &&& (18446744073709551615 - y)) (fun x y => x && !y) (fun x y t h1 h2 => by rw [Nat.testBit_and, testBit_not y t h1 h2]) a b _ (ha.length_gt (by omega)) hb.low
  · rfl

/- counting -/

theorem testBit_head (x : Nat) : x % 2 = (x.testBit 0).toNat := by
  rw [Nat.testBit_zero]
  have : x % 2 = 0 ∨ x % 2 = 1 := by omega
  rcases this with h | h <;> rw [h] <;> rfl
theorem testBit_tail (x i : Nat) : (x / 2).testBit i = x.testBit (i + 1) := by rw [Nat.testBit_succ]

theorem pc_or_and (k : Nat) : ∀ x y z u : Nat, (∀ i, i < k → z.testBit i = (x.testBit i || y.testBit i)) → (∀ i, i < k → u.testBit i = (x.testBit i && y.testBit i)) → pc k z + pc k u = pc k x + pc k y := by
  induction k with
  | zero => intro x y z u _ _; rfl
  | succ k ih =>
    intro x y z u hz hu
    have h := ih (x / 2) (y / 2) (z / 2) (u / 2) (fun i hi => by rw [testBit_tail, testBit_tail, testBit_tail]; exact hz _ (by omega)) (fun i hi => by rw [testBit_tail, testBit_tail, testBit_tail]; exact hu _ (by omega))
    have h0 := hz 0 (by omega)
    have h1 := hu 0 (by omega)
    simp only [pc, testBit_head, h0, h1]
    cases x.testBit 0 <;> cases y.testBit 0 <;> simp <;> omega

theorem pc_minus_and (k : Nat) : ∀ x y z u : Nat, (∀ i, i < k → z.testBit i = (x.testBit i && !y.testBit i)) → (∀ i, i < k → u.testBit i = (x.testBit i && y.testBit i)) → pc k z + pc k u = pc k x := by
  induction k with
  | zero => intro x y z u _ _; rfl
  | succ k ih =>
    intro x y z u hz hu
    have h := ih (x / 2) (y / 2) (z / 2) (u / 2) (fun i hi => by rw [testBit_tail, testBit_tail, testBit_tail]; exact hz _ (by omega)) (fun i hi => by rw [testBit_tail, testBit_tail, testBit_tail]; exact hu _ (by omega))
    have h0 := hz 0 (by omega)
    have h1 := hu 0 (by omega)
    simp only [pc, testBit_head, h0, h1]
    cases x.testBit 0 <;> cases y.testBit 0 <;> simp <;> omega

def zipN (op : Nat → Nat → Nat) : List Nat → List Nat → List Nat
  | a :: l, b :: m => op a b :: zipN op l m
  | _, _ => []

theorem zipN_length (op : Nat → Nat → Nat) : ∀ a b : List Nat, a.length = b.length → (zipN op a b).length = a.length
  | [], [], _ => rfl
  | _ :: a, _ :: b, h => by simp only [zipN, List.length_cons]; rw [zipN_length op a b (by simpa using h)]
theorem zipN_getD (op : Nat → Nat → Nat) : ∀ (a b : List Nat) (j : Nat), a.length = b.length → j < a.length → (zipN op a b).getD j 0 = op (a.getD j 0) (b.getD j 0)
  | x :: a, y :: b, 0, _, _ => rfl
  | x :: a, y :: b, j + 1, h, hj => by
    have := zipN_getD op a b j (by simpa using h) (by simpa using hj)
    simpa [zipN] using this

theorem mix_zip (op : Nat → Nat → Nat) (a b : List Nat) (h : a.length = b.length) : mix op a b a.length = zipN op a b := by
  apply List.ext_getElem (by rw [mix_length, zipN_length op a b h])
  intro j h1 h2
  rw [mix_length] at h1
  have e1 := mix_getD op a b a.length j h1
  have e2 := zipN_getD op a b j h h1
  rw [if_pos h1] at e1
  have h1' : j < (mix op a b a.length).length := by rw [mix_length]; exact h1
  have g1 : (mix op a b a.length).getD j 0 = (mix op a b a.length)[j] := by simp [h1']
  have g2 : (zipN op a b).getD j 0 = (zipN op a b)[j] := by simp [h2]
  rw [← g1, ← g2, e1, e2]

theorem cnt_cons (x : Nat) (l : List Nat) : cnt (x :: l) = pc 64 x + cnt l := by simp [cnt]

theorem cnt_or_and : ∀ a b : List Nat, a.length = b.length → cnt (zipN (fun x y => x ||| y) a b) + cnt (zipN (fun x y => x &&& y) a b) = cnt a + cnt b
  | [], [], _ => rfl
  | x :: a, y :: b, h => by
    have ih := cnt_or_and a b (by simpa using h)
    have := pc_or_and 64 x y (x ||| y) (x &&& y) (fun i _ => Nat.testBit_or x y i) (fun i _ => Nat.testBit_and x y i)
    simp only [zipN, cnt_cons]
    omega
theorem cnt_minus_and : ∀ a b : List Nat, a.length = b.length → (∀ x ∈ b, x < 18446744073709551616) → cnt (zipN (fun x y => x &&& (18446744073709551615 - y)) a b) + cnt (zipN (fun x y => x &&& y) a b) = cnt a
  | [], [], _, _ => rfl
  | x :: a, y :: b, h, hb => by
    have ih := cnt_minus_and a b (by simpa using h) (fun x hx => hb x (List.mem_cons_of_mem _ hx))
    have := pc_minus_and 64 x y (x &&& (18446744073709551615 - y)) (x &&& y) (fun i hi => by rw [Nat.testBit_and, testBit_not y i hi (hb y List.mem_cons_self)]) (fun i _ => Nat.testBit_and x y i)
    simp only [zipN, cnt_cons]
    omega

theorem Tidy.mem_low {n : Nat} {a : List Nat} (h : Tidy n a) : ∀ x ∈ a, x < 18446744073709551616 := by
  intro x hx
  obtain ⟨j, hj, rfl⟩ := List.getElem_of_mem hx
  have := h.low j
  simpa [hj] using this

theorem sum_or_and {n : Nat} {a b : List Nat} (ha : Tidy n a) (hb : Tidy n b) : cnt (OrW a b) + cnt (AndW a b) = cnt a + cnt b := by
  have h : a.length = b.length := ha.size.trans hb.size.symm
  unfold OrW AndW
  rw [mix_zip _ _ _ h, mix_zip _ _ _ h]
  exact cnt_or_and a b h
theorem sum_minus_and {n : Nat} {a b : List Nat} (ha : Tidy n a) (hb : Tidy n b) : cnt (MinusW a b) + cnt (AndW a b) = cnt a := by
  have h : a.length = b.length := ha.size.trans hb.size.symm
  unfold MinusW AndW
  rw [mix_zip _ _ _ h, mix_zip _ _ _ h]
  exact cnt_minus_and a b h hb.mem_low

theorem zip_self (op : Nat → Nat → Nat) (ho : ∀ x, op x x = x) : ∀ a : List Nat, zipN op a a = a
  | [] => rfl
  | x :: a => by rw [zipN, ho, zip_self op ho a]
theorem or_self' (a : List Nat) : OrW a a = a := by
  unfold OrW; rw [mix_zip _ _ _ rfl]; exact zip_self _ (fun x => Nat.or_self x) a
theorem and_self' (a : List Nat) : AndW a a = a := by
  unfold AndW; rw [mix_zip _ _ _ rfl]; exact zip_self _ (fun x => Nat.and_self x) a
theorem minus_self {n : Nat} {a : List Nat} (h : Tidy n a) : cnt (MinusW a a) = 0 := by
  have := sum_minus_and h h
  rw [and_self'] at this
  omega

theorem OrW_length (a b : List Nat) : (OrW a b).length = a.length := mix_length _ _ _ _
theorem AndW_length (a b : List Nat) : (AndW a b).length = a.length := mix_length _ _ _ _
theorem MinusW_length (a b : List Nat) : (MinusW a b).length = a.length := mix_length _ _ _ _

theorem succ_mod (N : Nat) (h : N < 2001) : (((N : Int) + 1) % 2001).toNat ≠ N := by omega

end Go.Proofs.Ytagbclijbeodaaa
