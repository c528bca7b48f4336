/- A part. -/
import Derived.Test.YtabhieafjkaocaaGreatMaag
import Derived.Test.YtabhieafjkaocaaGreatMaap
import Derived.Test.YtabhieafjkaocaaGreatMaao
set_option linter.unusedVariables false
set_option linter.unusedSimpArgs false
namespace Go.Proofs.YtabhieafjkaocaaGreat
open Bm
structure Root8 where
  a : Nat
  b : Nat
  c : Nat
  d : Nat
  e : Nat
  f : Nat
  g : Nat
  h : Nat
deriving DecidableEq
namespace Root8
def list (r : Root8) : List Nat := [r.a, r.b, r.c, r.d, r.e, r.f, r.g, r.h]
def get (r : Root8) : Nat → Nat
  | 0 => r.a | 1 => r.b | 2 => r.c | 3 => r.d | 4 => r.e | 5 => r.f | 6 => r.g | 7 => r.h | _ => 0
def set (r : Root8) (i x : Nat) : Root8 :=
  match i with
  | 0 => { r with a := x } | 1 => { r with b := x } | 2 => { r with c := x } | 3 => { r with d := x }
  | 4 => { r with e := x } | 5 => { r with f := x } | 6 => { r with g := x } | 7 => { r with h := x } | _ => r
def zero : Root8 := ⟨0, 0, 0, 0, 0, 0, 0, 0⟩
def upto (r : Root8) : Nat → Root8
  | 0 => zero
  | k + 1 => (r.upto k).set k (r.get k)
theorem upto_all (r : Root8) : r.upto 8 = r := by cases r; simp [upto, set, get, zero]
theorem mem_get (r : Root8) (i : Nat) (h : i < 8) : r.get i ∈ r.list := by
  match i, h with
  | 0, _ | 1, _ | 2, _ | 3, _ | 4, _ | 5, _ | 6, _ | 7, _ => simp [get, list]
theorem of_mem (r : Root8) (x : Nat) (h : x ∈ r.list) : ∃ i, i < 8 ∧ r.get i = x := by
  simp only [list, List.mem_cons, List.not_mem_nil, or_false] at h
  rcases h with h | h | h | h | h | h | h | h
  · exact ⟨0, by omega, h.symm⟩
  · exact ⟨1, by omega, h.symm⟩
  · exact ⟨2, by omega, h.symm⟩
  · exact ⟨3, by omega, h.symm⟩
  · exact ⟨4, by omega, h.symm⟩
  · exact ⟨5, by omega, h.symm⟩
  · exact ⟨6, by omega, h.symm⟩
  · exact ⟨7, by omega, h.symm⟩
theorem get_set (r : Root8) (i j x : Nat) (hi : i < 8) : (r.set i x).get j = if j = i then x else r.get j := by
  by_cases hj : j < 8
  · have hi' : i = 0 ∨ i = 1 ∨ i = 2 ∨ i = 3 ∨ i = 4 ∨ i = 5 ∨ i = 6 ∨ i = 7 := by omega
    have hj' : j = 0 ∨ j = 1 ∨ j = 2 ∨ j = 3 ∨ j = 4 ∨ j = 5 ∨ j = 6 ∨ j = 7 := by omega
    clear hi hj
    rcases hi' with rfl | rfl | rfl | rfl | rfl | rfl | rfl | rfl <;> rcases hj' with rfl | rfl | rfl | rfl | rfl | rfl | rfl | rfl <;> rfl
  · have : ∀ q : Root8, q.get j = 0 := fun q => by
      match j, hj with
      | j + 8, _ => rfl
    rw [this, this, if_neg (by omega)]
theorem get_zero (i : Nat) : zero.get i = 0 := by
  match i with
  | 0 | 1 | 2 | 3 | 4 | 5 | 6 | 7 | _ + 8 => rfl
end Root8
structure HeldM where
  n : Nat
  ws : List Nat
  root : Root8
def toldL (n : Nat) (ws : List Nat) : List UInt8 := (told n ws).data.toList
namespace HeldM
def body (h : HeldM) : List UInt8 := be h.n 4 ++ (h.root.list.flatMap fun x => be x 4) ++ toldL h.n h.ws
def asked (h : HeldM) (n : Nat) : Int := if n = 0 ∨ h.n ≤ n then 1 else if mem h.ws n then 0 else 71
structure Ok (h : HeldM) : Prop where
  tidy : Tidy h.n h.ws
  most : h.n ≤ 4096
  some_ : 2 ≤ h.n
  zero : mem h.ws 0 = false
  root : ∀ i, i < 8 → h.root.get i = 0 ∨ (h.root.get i < h.n ∧ mem h.ws (h.root.get i) = true)
theorem Ok.small {h : HeldM} (o : h.Ok) (i : Nat) (hi : i < 8) : h.root.get i < 4294967296 := by
  have := o.most
  rcases o.root i hi with h | h <;> omega
def fresh (n : Nat) : HeldM := ⟨n, List.replicate ((n + 63) / 64) 0, Root8.zero⟩
theorem fresh_ok (n : Nat) (h : 2 ≤ n) (h2 : n ≤ 4096) : (fresh n).Ok := ⟨tidy_zero n, h2, h, mem_zero n 0, fun i _ => .inl (Root8.get_zero i)⟩
end HeldM
theorem toldL_len (n : Nat) (ws : List Nat) : (toldL n ws).length = (n + 7) / 8 := by
  rw [toldL, Array.length_toList]; exact told_size n ws
theorem HeldM.body_len (h : HeldM) : h.body.length = 36 + (h.n + 7) / 8 := by
  simp [HeldM.body, Root8.list, be_length, toldL_len]; omega
def HeldM.page (h : HeldM) : PageV := ⟨83, 0, 0, h.body⟩
structure StM where
  count : Nat
  now : HeldM
  serial : Nat
  next : Nat
  dead : Bool
structure BtM where
  held : HeldM
  has : List (Nat × UInt8 × List UInt8)
  changed : Bool
  ended : Bool
def insC (n : Nat) (c : UInt8 × List UInt8) : List (Nat × UInt8 × List UInt8) → List (Nat × UInt8 × List UInt8)
  | [] => [(n, c)]
  | x :: l => if n < x.1 then (n, c) :: x :: l else if n = x.1 then (n, c) :: l else x :: insC n c l
def delC (n : Nat) (l : List (Nat × UInt8 × List UInt8)) : List (Nat × UInt8 × List UInt8) := l.filter fun x => x.1 != n
def getC (n : Nat) (l : List (Nat × UInt8 × List UInt8)) : Option (UInt8 × List UInt8) :=
  match l with
  | [] => none
  | x :: l => if x.1 = n then some x.2 else getC n l
def Rise (l : List (Nat × UInt8 × List UInt8)) : Prop := (l.map (·.1)).Pairwise (· < ·)
theorem insC_keys (n : Nat) (c : UInt8 × List UInt8) (l : List (Nat × UInt8 × List UInt8)) (x : Nat) : x ∈ (insC n c l).map (·.1) → x = n ∨ x ∈ l.map (·.1) := by
  induction l with
  | nil => intro h; simpa [insC] using h
  | cons y l ih =>
    intro h
    simp only [insC] at h
    split at h
    · simpa using h
    · split at h
      · simp only [List.map_cons, List.mem_cons] at h ⊢
        rcases h with h | h
        · exact .inl h
        · exact .inr (.inr h)
      · simp only [List.map_cons, List.mem_cons] at h ⊢
        rcases h with h | h
        · exact .inr (.inl h)
        · rcases ih h with h | h
          · exact .inl h
          · exact .inr (.inr h)
theorem Rise.ins {n : Nat} {c : UInt8 × List UInt8} {l : List (Nat × UInt8 × List UInt8)} (h : Rise l) : Rise (insC n c l) := by
  induction l with
  | nil => simp [Rise, insC]
  | cons y l ih =>
    have h1 := List.pairwise_cons.1 h
    simp only [insC]
    split
    · rename_i hlt
      refine List.pairwise_cons.2 ⟨fun x hx => ?_, h⟩
      simp only [List.map_cons, List.mem_cons] at hx
      rcases hx with rfl | hx
      · exact hlt
      · exact Nat.lt_trans hlt (h1.1 x hx)
    · rename_i hlt
      split
      · rename_i he
        subst he
        exact h
      · rename_i hne
        refine List.pairwise_cons.2 ⟨fun x hx => ?_, ih h1.2⟩
        rcases insC_keys n c l x hx with rfl | hx
        · show y.1 < x
          omega
        · exact h1.1 x hx
theorem Rise.del {n : Nat} {l : List (Nat × UInt8 × List UInt8)} (h : Rise l) : Rise (delC n l) := by
  unfold Rise at *
  exact List.Pairwise.sublist ((List.filter_sublist).map _) h
theorem getC_ins (n : Nat) (c : UInt8 × List UInt8) (l : List (Nat × UInt8 × List UInt8)) (h : Rise l) (k : Nat) : getC k (insC n c l) = if k = n then some c else getC k l := by
  induction l with
  | nil => simp [insC, getC]; split <;> rename_i h <;> simp_all [eq_comm]
  | cons y l ih =>
    have h1 := List.pairwise_cons.1 h
    simp only [insC]
    split
    · rename_i hlt
      simp only [getC]
      by_cases hk : n = k
      · subst hk; simp
      · simp [hk, show ¬ k = n from fun e => hk e.symm]
    · split
      · rename_i he
        subst he
        simp only [getC]
        by_cases hk : y.1 = k
        · subst hk; simp
        · simp [hk, show ¬ k = y.1 from fun e => hk e.symm]
      · rename_i hlt hne
        simp only [getC]
        by_cases hk : y.1 = k
        · subst hk; simp [show ¬ y.1 = n from fun e => hne e.symm]
        · simp [hk, ih h1.2]
theorem getC_none {n : Nat} {l : List (Nat × UInt8 × List UInt8)} (h : ∀ x ∈ l, x.1 ≠ n) : getC n l = none := by
  induction l with
  | nil => rfl
  | cons y l ih =>
    simp only [getC]
    rw [if_neg (h y (by simp)), ih fun x hx => h x (by simp [hx])]
theorem getC_del (n : Nat) (l : List (Nat × UInt8 × List UInt8)) (k : Nat) : getC k (delC n l) = if k = n then none else getC k l := by
  induction l with
  | nil => simp [delC, getC]
  | cons y l ih =>
    simp only [delC, List.filter_cons] at ih ⊢
    by_cases hy : y.1 = n
    · subst hy
      simp only [bne_self_eq_false, Bool.false_eq_true, if_false, ih, getC]
      by_cases hk : k = y.1
      · simp [hk]
      · simp [hk, show ¬ y.1 = k from fun e => hk e.symm]
    · simp only [bne_iff_ne, ne_eq, hy, not_false_eq_true, if_true, getC, ih]
      by_cases hk : y.1 = k
      · subst hk; simp [hy]
      · simp [hk]
theorem insC_length (n : Nat) (c : UInt8 × List UInt8) (l : List (Nat × UInt8 × List UInt8)) (h : Rise l) : (insC n c l).length = if (getC n l).isSome then l.length else l.length + 1 := by
  induction l with
  | nil => simp [insC, getC]
  | cons y l ih =>
    have h1 := List.pairwise_cons.1 h
    simp only [insC]
    split
    · rename_i hlt
      have : getC n (y :: l) = none := getC_none fun x hx => by
        rcases List.mem_cons.1 hx with rfl | hx
        · omega
        · have : y.1 < x.1 := h1.1 x.1 (List.mem_map_of_mem hx); omega
      rw [this]; simp
    · split
      · rename_i he; simp [getC, he]
      · rename_i hlt hne
        have e : getC n (y :: l) = getC n l := by simp only [getC]; rw [if_neg (fun e => hne e.symm)]
        simp only [e, List.length_cons, ih h1.2]
        split <;> rfl
theorem delC_length (n : Nat) (l : List (Nat × UInt8 × List UInt8)) (h : Rise l) : (delC n l).length + (if (getC n l).isSome then 1 else 0) = l.length := by
  induction l with
  | nil => simp [delC, getC]
  | cons y l ih =>
    have h1 := List.pairwise_cons.1 h
    have ih := ih h1.2
    simp only [delC, List.filter_cons] at ih ⊢
    by_cases hy : y.1 = n
    · have hz : getC n l = none := getC_none fun x hx => by have : y.1 < x.1 := h1.1 x.1 (List.mem_map_of_mem hx); omega
      rw [hz] at ih
      subst hy
      simp [getC] at ih ⊢
      exact ih
    · simp only [bne_iff_ne, ne_eq, hy, not_false_eq_true, if_true, getC, if_false, List.length_cons]
      omega
def BtM.pages (b : BtM) : List PageV := b.held.page :: b.has.map fun x => ⟨x.2.1, x.1, 0, x.2.2⟩
def BtM.size (b : BtM) : Nat := if b.ended ∨ !b.changed then 0 else 1 + b.has.length
end Go.Proofs.YtabhieafjkaocaaGreat
