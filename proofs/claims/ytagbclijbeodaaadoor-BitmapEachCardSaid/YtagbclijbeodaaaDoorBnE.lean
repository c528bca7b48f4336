/- What gone hands back: the numbers of a set, rising. -/
import Derived.Test.YtagbclijbeodaaaDoorBnD
import Derived.Maps.AppendAt
namespace Go.Proofs.YtagbclijbeodaaaDoor
open Go.RowKit Go.Shelf
set_option linter.unusedVariables false

attribute [local go_sem] Oper.semAt_some

theorem Tryd.infoInt : (Tryd.prog.info? 3).map (fun i => (i.zero, i.size, i.bytes)) = some (some (.int .i64 0), 1, 8) := by kernel_rfl

def nums (l : List Nat) : List Value := l.map fun x : Nat => Value.int .i64 (x : Int)

theorem kept_putObj {M : Nat → Prop} {W : World} {l : Nat} {o : Obj} (o' : Obj) (h : W.heap[l]? = some o) (hm : M l) : Kept M W (W.putObj l o') :=
  (Kept.of_grown (grownBy_putObj' W l o')).mono fun k _ e => by cases e; exact hm

theorem appendedK {M : Nat → Prop} {W w1 : World} {n₁ B : Nat} {t e : TypeId} {size : Nat} {v v' : Value} {k m : Nat} {xs ys : List Value} {tmp : Obj}
    (hv : Boxed W B t v) (hte : t ≠ e) (hrow : W.ownsRow n₁ e size v k xs) (hM : ∀ j, n₁ ≤ j → M j) (hB : M B)
    (hown' : w1.ownsRow n₁ e size v' m ys) (hgrow : (W.alloc tmp).grownBy w1 v.ownBlock) :
    Boxed w1 B t v ∧ Boxed (w1.setCell ⟨B, 0, none⟩ v') B t v' ∧ (w1.setCell ⟨B, 0, none⟩ v').ownsRow n₁ e size v' m ys ∧ KeepsOthers W (w1.setCell ⟨B, 0, none⟩ v') ∧ Kept M W (w1.setCell ⟨B, 0, none⟩ v') := by
  obtain ⟨a, b, c, d, _⟩ := Boxed.appended (n₀ := 0) hv hte (own_zero hrow) (Nat.zero_le _) (Nat.zero_le _) (own_zero hown') hgrow
  have hnr := Boxed.not_row a hte hown'
  refine ⟨a, b, hown'.kept (grownBy_setCell' w1 B v') (.inr (fun e => hnr e.symm)), d, ?_⟩
  have h1 : Kept M W (W.alloc tmp) := (Kept.refl _ _).alloc _
  have h2 : Kept M W w1 := h1.next (Kept.of_grown hgrow) fun j _ e => hM j (hrow.lt j e).1
  exact h2.setCell _ _ fun _ => hB

theorem run_equalIn_func_nil {P : Program} (w : World) (d : Nat) (t : TypeId) {ps rs : Array TypeId} {vd : Bool} (f : Fn) (a b : Array Value) (h : P.underlying t = some (.func ps rs vd)) :
    (Op.equalIn (d + 1) t (.func f a b) .nilFunc).run P w = .ok false w := by
  simp [Op.equalIn, run_underlying h]
theorem run_eql_func_nil {P : Program} (w : World) (t : TypeId) {ps rs : Array TypeId} {vd : Bool} (f : Fn) (a b : Array Value) (h : P.underlying t = some (.func ps rs vd)) :
    (binOp .eql t (.func f a b) .nilFunc).run P w = .ok (.bool false) w := by
  simp only [binOp]
  simp [Op.equal, Op.maxDepth, run_equalIn_func_nil w 9999 t f a b h]

theorem ownFrom_kept {β : Type} {B : Nat} {M : Nat → Prop} {w : World} (hB : ∀ k, B ≤ k → M k) : OwnFrom B (fun (_ : β) W => Kept M w W) := by
  intro s A X row h hg hr
  exact h.trans ((Kept.of_grown hg).mono fun k _ e => hB k (hr k e).1)

theorem gone_ok (s n : Nat) (v : Value) (ws : List Nat) (w : World) (h : SetAt w s n v ws) (ht : Tidy n ws) (hT : Tab w) :
    Calls Tryd.prog 6 #[.pointer (some ⟨s, 0, none⟩)] w fun e w' => ∃ u, e = .returned u ∧ Kept No w w' ∧ w'.ownsRow w.heap.size 3 1 u (els n ws 0).length (nums (els n ws 0)) := by
  have hel : (els n ws 0).length ≤ 65536 := Nat.le_trans (els_length_le n ws 0) h.bound
  have H := Lib.hid h
  have HT := Lib.hid ht
  have HB := Lib.hid hT
  clear h ht hT
  obtain ⟨i0, hi, hz0, hz1, hz2⟩ := info_parts Tryd.infoInt
  refine (callsIn_wide (n := 5)).1 ?_
  refine callsIn_of_wp_marks Tryd.func6 rfl trivial ?_ rfl
  simp only [Tryd.ntmps6, List.size_toArray, List.length_cons, List.length_nil, Nat.reduceAdd, Nat.reduceSub, Array.replicate_succ, Array.replicate_zero, List.push_toArray, List.append_toArray, List.nil_append, List.cons_append]
  gi_wp2_with fail
  refine ⟨trivial, ?_⟩
  have k0 : Kept No w (w.alloc (.cells #[.slice none 0 0] 22)) := (Kept.refl _ _).alloc _
  have bO := Boxed.new w 22 (.slice none 0 0)
  have hE := each_ok s n v ws (w.alloc (.cells #[.slice none 0 0] 22)) (H.out.no' k0) HT.out (HB.out.kept k0 (fun h => h))
  refine (callsIn_wide.2 hE).mono ?_
  rintro e w2 ⟨bx, s', u, rfl, k2, hE2, hb1, hb2, hb3⟩
  have hq := fun w' => run_eql_func_nil (P := Tryd.prog) w' 27 (.func 21) #[] #[.pointer (some ⟨bx, 0, none⟩)] Tryd.underlying27
  gi_wp2
  have hsz := k2.size
  rw [World.size_alloc] at hsz
  rw [World.size_alloc] at hb1 hb2 hb3
  have bO2 : Boxed w2 w.heap.size 22 (.slice none 0 0) := (k2.block w.heap.size (by simp) (fun h => h)).trans bO
  have hL : Leaves (fun k => k = w.heap.size ∨ w2.heap.size ≤ k) bx s' u := by
    refine ⟨?_, ?_, ?_, ?_⟩
    · have := lt_of_heap hE2.box; omega
    · have := hE2.set.lt; omega
    · intro g hg; have := hE2.set.own_lt hg; have := hb3 g hg; omega
    · have := World.block_lt_of_cell? w _ (HB.out 0 (by decide)); simp at this; omega
  have hk02 : Kept No w w2 := k0.trans k2
  refine wpIn_rangeFunc_ownG rfl (by omega) (gf := 21) (lb := #[.pointer (some ⟨bx, 0, none⟩)]) rfl trivial (enters_of Tryd.func21 (by kernel_rfl) rfl)
    (each_stops (5 - 1) (by omega) bx s' n u ws (fun k => k = w.heap.size ∨ w2.heap.size ≤ k) hL w2 hE2) (fun h k => h.trans k) (fun W l o o' hl ho _ _ => kept_putObj o' ho (.inr hl)) (Below.refl _ _) (fun _ => rfl)
    (fun (pre : List Nat) W => (∃ v, Boxed W w.heap.size 22 v ∧ W.ownsRow w2.heap.size 3 1 v pre.length (nums pre) ∧ True) ∧ Kept (fun k => k = w.heap.size ∨ w2.heap.size ≤ k) w2 W)
    (fun _ _ _ => False)
    (OwnFrom.and (Own.from (holdsRow_own w2.heap.size w.heap.size 22 3 1 (fun pre : List Nat => pre.length) (fun pre => nums pre) (fun _ _ => True)) _) (ownFrom_kept (fun k h => .inr h)))
    (fun _ _ _ _ _ hs _ _ => hs)
    ⟨⟨_, bO2, World.ownsRow_nil _ _ _ _, trivial⟩, Kept.refl _ _⟩
    (fun x => { tmps := #[.pointer (some ⟨s, 0, none⟩), undef, .slice none 0 0, .pointer (some ⟨w.heap.size, 0, none⟩), .func (.func 21) #[] #[.pointer (some ⟨bx, 0, none⟩)], .int .i64 (x : Int), .pointer (some ⟨s, 0, none⟩), .func (.func 21) #[] #[.pointer (some ⟨bx, 0, none⟩)], .func (.func 21) #[] #[.pointer (some ⟨bx, 0, none⟩)], .bool false, undef, .func (.func 21) #[] #[.pointer (some ⟨bx, 0, none⟩)], .int .i64 (x : Int), undef, undef, undef, undef, undef], defers := [] }) ?assign ?body ?done ?stop
  case assign =>
    intro l x W K hK
    gi_wp2
    exact hK
  case body =>
    rintro l pre x W ⟨⟨v, hv, hrow, _⟩, hB⟩ hlt
    have hc := hv.cell
    have hB2 : w2.heap.size ≤ W.heap.size := hB.size
    clear hE hE2 hL k0 k2 bO bO2 hk02 hq
    gi_wp2_with (gi_at_builtin; refine wpListIn_append_own _ rfl _ _ 22 rfl w2.heap.size 3 i0 (.int .i64 0) 1 8 Tryd.underlying22 hi hz0 hz1 hz2 rfl (by decide) _ _ _ rfl (hrow.alloc _) ⟨W.heap.size, 0, none⟩ 1 1 [.int .i64 (x : Int)] rfl rfl (cell_one_new _ _ _) (by simp [Value.oneCell']) (by unfold maxLen; omega) (by omega) (by simp; omega) ?_; intro v' w1 hown' hgrow _; obtain ⟨g', cap', rfl⟩ := ownsRow_succ hown'; obtain ⟨hv1, hv2, hr2, hk2, hb2⟩ := appendedK (M := fun k => k = w.heap.size ∨ w2.heap.size ≤ k) hv (by decide) hrow (fun j h => .inr h) (.inl rfl) hown' hgrow; have hc1 := hv1.cell; have hf1 := hv1.frozen)
    exact ⟨hk2.from _, hb2, ⟨_, hv2, by simpa [nums] using hr2, trivial⟩, hB.trans hb2⟩
  case done =>
    rintro D ys W hD rfl ⟨⟨v, hv, hrow, _⟩, hB⟩ hK
    have hc := hv.cell
    clear hE hE2 hL k0 k2 bO bO2 hq
    gi_wp2
    refine ⟨by simp, .inl ⟨_, _, rfl, run_takeDeferred hK, ?_⟩⟩
    refine ⟨_, results_tmp rfl _ _ _, v, rfl, ?_, ?_⟩
    · exact (hk02.next hB (fun k hk h => by omega)).next (kept_putObj (M := fun k => w2.heap.size ≤ k) _ hK hD) (fun k hk h => by omega)
    · have := ownsRow_putObj hrow (.deferred none) hK rfl
      refine ⟨this.1, ?_⟩
      rcases this.2 with h | ⟨g', c', cu, h1, h2, h3⟩
      · exact .inl h
      · exact .inr ⟨g', c', cu, h1, by omega, h3⟩
  case stop =>
    rintro D c pre W _ _ h _
    exact h.elim

end Go.Proofs.YtagbclijbeodaaaDoor
