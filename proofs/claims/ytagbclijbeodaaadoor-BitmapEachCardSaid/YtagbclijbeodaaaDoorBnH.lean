/- Put and Take of whatever number; a round of a range-over-function loop keeps what it must. -/
import Derived.Test.YtagbclijbeodaaaDoorBnG
import Derived.Test.YtagbclijbeodaaaDoorBnE
import Derived.Test.YtagbclijbeodaaaDoorBnF
import Derived.RangeFuncNested
namespace Go.Proofs.YtagbclijbeodaaaDoor
open Go.RowKit Go.Shelf
set_option linter.unusedVariables false

theorem take_no (s n : Nat) (v : Value) (ws : List Nat) (w : World) (i : Int) (h : SetAt w s n v ws) (h1 : i < 0 ∨ (n : Int) ≤ i) :
    Calls Tryd.prog 9 #[.pointer (some ⟨s, 0, none⟩), .int .i64 i] w fun e w' => e = .returned (.int .i64 1) ∧ w = w' := by
  have hr : Calls Tryd.prog 22 #[.pointer (some ⟨s, 0, none⟩), .int .i64 i] w fun e w' => e = .returned (.int .i64 1) ∧ w = w' := by
    rcases h1 with h1 | h1
    · exact right_low s w i h1
    · by_cases h0 : i < 0
      · exact right_low s w i h0
      · exact right_high s n v ws w i h h1
  clear h h1
  go_enter Tryd.func9, Tryd.ntmps9
  go_wp2_with (go_at_call 22; refine hr.mono ?_; rintro e w' ⟨rfl, rfl⟩)
  go_ret
  exact ⟨rfl, rfl⟩

theorem put_any (s n : Nat) (v : Value) (ws : List Nat) (w : World) (i : Int) (h : SetAt w s n v ws) :
    Calls Tryd.prog 8 #[.pointer (some ⟨s, 0, none⟩), .int .i64 i] w fun e w' => ∃ c : Int, e = .returned (.int .i64 c) ∧ Kept (fun k => v.ownBlock = some k) w w' ∧ ∃ ws', SetAt w' s n v ws' := by
  by_cases h0 : 0 ≤ i ∧ i < n
  · obtain ⟨j, rfl⟩ := Int.eq_ofNat_of_zero_le h0.1
    refine (put_ok s n v ws w j h (by omega)).mono ?_
    rintro e w' ⟨rfl, k, m⟩
    exact ⟨_, rfl, k, _, m⟩
  · refine (put_no s n v ws w i h (by omega)).mono ?_
    rintro e w' ⟨rfl, rfl⟩
    exact ⟨_, rfl, Kept.refl _ _, _, h⟩

theorem take_any (s n : Nat) (v : Value) (ws : List Nat) (w : World) (i : Int) (h : SetAt w s n v ws) :
    Calls Tryd.prog 9 #[.pointer (some ⟨s, 0, none⟩), .int .i64 i] w fun e w' => ∃ c : Int, e = .returned (.int .i64 c) ∧ Kept (fun k => v.ownBlock = some k) w w' ∧ ∃ ws', SetAt w' s n v ws' := by
  by_cases h0 : 0 ≤ i ∧ i < n
  · obtain ⟨j, rfl⟩ := Int.eq_ofNat_of_zero_le h0.1
    refine (take_ok s n v ws w j h (by omega)).mono ?_
    rintro e w' ⟨rfl, k, m⟩
    exact ⟨_, rfl, k, _, m⟩
  · refine (take_no s n v ws w i h (by omega)).mono ?_
    rintro e w' ⟨rfl, rfl⟩
    exact ⟨_, rfl, Kept.refl _ _, _, h⟩

/-- What stands wherever the blocks below B stand abides. -/
theorem ownFrom_of {β : Type} {B : Nat} {p : β → World → Prop} (h : ∀ s A C, Kept (fun k => B ≤ k) A C → p s A → p s C) : OwnFrom B p := by
  intro s A X row hs hg hr
  exact h s A X ((Kept.of_grown hg).mono fun k _ e => (hr k e).1) hs

theorem keepsFrom_of {B : Nat} {M : Nat → Prop} {w w' : World} (h : Kept M w w') (hm : ∀ k, M k → k < B) : KeepsFrom B w w' :=
  ⟨h.size, fun k o hk h0 _ => (h.block k (lt_of_heap h0) (fun m => by have := hm k m; omega)).trans h0⟩

theorem els_rise (n : Nat) (ws : List Nat) (f : Nat) {i : Nat} (h : i + 1 < (els n ws f).length) : (els n ws f).getD i 0 < (els n ws f).getD (i + 1) 0 := by
  have := List.pairwise_iff_getElem.1 (els_sorted n ws f) i (i + 1) (by omega) h (by omega)
  simpa [h, show i < (els n ws f).length by omega] using this

open Go.Shelf in
/-- A loop over an iterator whose body is told of its own record; the assign code lays nothing. -/
theorem range_told {F : Fence} {n : Nat} {P : Program} {α : Type} {g : Operand} {ps : Array Tmp} {assign body : Code} {Q : Exit → Act → World → Prop} {a : Act} {w : World}
    (hro : F.round = none) (h1 : 1 ≤ n) {gf : Nat} {lb : Array Value} (hg : a.eval g = .func (.func gf) #[] lb) (hFg : F.fn gf) (eg : ∀ args w, (callFunc gf args).run P w = .ok (.enter gf args) w)
    {encs : α → Array Value} {M : Nat → Prop} {S Sp : List α → Prop} {N : Nat} (hseq : SeqStopsK F (n - 1) P gf lb encs (Kept M) S Sp N w)
    (hM : ∀ k, w.heap.size ≤ k → M k) (hps : ∀ x, (encs x).size = ps.size)
    (I : List α → World → Prop) (Ix : Code → List α → World → Prop) (hI : OwnFrom w.heap.size I) (hIx : ∀ c, OwnFrom w.heap.size (Ix c)) (h0 : I [] w) (Af : α → Act)
    (hassign : ∀ (l : Nat) (x : α) (W : World) (K : Act → World → Prop), K (Af x) W →
      assign.wpIn (F.inRound l) (n - 1 - 1) P (Exit.then K (fun _ _ _ => False)) { tmps := (ps.zip (encs x)).foldl (fun t (p, v) => t.setIfInBounds p v) a.tmps, defers := [] } W)
    (hbody : ∀ (l : Nat) (pre : List α) (x : α) (W : World), w.heap.size ≤ l → (∃ r, W.heap[l]? = some (.loop r)) → I pre W → pre.length < N → body.wpIn (F.inRound l) (n - 1 - 1) P (ownPostG w.heap.size (Kept M) I Ix (pre ++ [x]) W) (Af x) W)
    (hdone : ∀ (D : Nat) (xs : List α) (W : World), w.heap.size ≤ D → S xs → I xs W → W.heap[D]? = some (.deferred (some [])) → Q .normal { a with defers := { target := .collected D, args := #[] } :: a.defers } W)
    (hstop : ∀ (D : Nat) (c : Code) (pre : List α) (W : World), w.heap.size ≤ D → Sp pre → Ix c pre W → W.heap[D]? = some (.deferred (some [])) → c.wpIn F n P Q { a with defers := { target := .collected D, args := #[] } :: a.defers } W) :
    (Code.rangeFunc g ps assign body).wpIn F n P Q a w :=
  wpIn_rangeFunc_ownH hro h1 hg hFg eg hseq (fun h k => h.trans k) (fun W l o o' hl ho _ _ => kept_putObj o' ho (hM _ hl)) (Below.refl _ _) hps I Ix hI hIx h0 (fun x a' _ => a' = Af x) (fun _ _ _ _ _ _ hs _ _ => hs)
    (fun l pre x W K hi hK => hassign l x W K (hK _ _ (KeepsFrom.refl _ _) (Kept.refl _ _) hi rfl)) (fun l pre x a' W hl hr hi e => by subst e; exact hbody l pre x W hl hr hi) hdone hstop

/-- .. and within its round. -/
theorem range_in {F : Fence} {n : Nat} {P : Program} {α : Type} {g : Operand} {ps : Array Tmp} {assign body : Code} {Q : Exit → Act → World → Prop} {a : Act} {w : World}
    {l₀ : Nat} {r₀ : Loop} (hro : F.round = some l₀) (hl₀ : w.heap[l₀]? = some (.loop r₀)) (h1 : 1 ≤ n) {gf : Nat} {lb : Array Value} (hg : a.eval g = .func (.func gf) #[] lb) (hFg : F.fn gf) (eg : ∀ args w, (callFunc gf args).run P w = .ok (.enter gf args) w)
    {encs : α → Array Value} {M : Nat → Prop} {S Sp : List α → Prop} {N : Nat} (hseq : SeqStopsK F (n - 1) P gf lb encs (Kept M) S Sp N w)
    (hM : ∀ k, w.heap.size ≤ k → M k) (hps : ∀ x, (encs x).size = ps.size)
    (I : List α → World → Prop) (Ix : Code → List α → World → Prop) (hI : OwnFrom w.heap.size I) (hIx : ∀ c, OwnFrom w.heap.size (Ix c)) (h0 : I [] w) (Af : α → Act)
    (hassign : ∀ (l : Nat) (x : α) (W : World) (K : Act → World → Prop), K (Af x) W →
      assign.wpIn (F.inRound l) (n - 1 - 1) P (Exit.then K (fun _ _ _ => False)) { tmps := (ps.zip (encs x)).foldl (fun t (p, v) => t.setIfInBounds p v) a.tmps, defers := [] } W)
    (hbody : ∀ (l : Nat) (pre : List α) (x : α) (W : World), I pre W → pre.length < N → body.wpIn (F.inRound l) (n - 1 - 1) P (ownPostG w.heap.size (Kept M) I Ix (pre ++ [x]) W) (Af x) W)
    (hdone : ∀ (xs : List α) (W : World), S xs → I xs W → Q .normal a W)
    (hstop : ∀ (c : Code) (pre : List α) (W : World), Sp pre → Ix c pre W → c.wpIn F n P Q a W) :
    (Code.rangeFunc g ps assign body).wpIn F n P Q a w :=
  wpIn_rangeFunc_ownN hro hl₀ h1 hg hFg eg hseq (fun h k => h.trans k) (fun W l o o' hl ho _ _ => kept_putObj o' ho (hM _ hl)) (Below.refl _ _) hps I Ix hI hIx h0 (fun x a' _ => a' = Af x) (fun _ _ _ _ _ _ hs _ _ => hs)
    (fun l pre x W K hi hK => hassign l x W K (hK _ _ (KeepsFrom.refl _ _) (Kept.refl _ _) hi rfl)) (fun l pre x a' W _ _ hi e => by subst e; exact hbody l pre x W hi) hdone hstop

end Go.Proofs.YtagbclijbeodaaaDoor
