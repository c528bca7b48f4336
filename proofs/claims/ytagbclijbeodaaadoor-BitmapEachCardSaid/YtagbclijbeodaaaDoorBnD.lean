/- The iterator that Each hands back. -/
import Derived.RangeFuncBox
import Derived.RangeFuncNested
import Derived.RangeFuncBound
import Derived.RangeFuncCalls
import Derived.RangeFuncLeaves
import Derived.Shelf.Abstract
import Derived.Shelf.RegionOpen
import Derived.WalkKit
import Derived.OwnWalkIn
import Derived.TacticsInMore
import Derived.LoopNIn
import Derived.LoopIn
import Derived.Test.YtagbclijbeodaaaDoorBnC
import Derived.Test.YtagbclijbeodaaaDoorBmI
namespace Go.Proofs.YtagbclijbeodaaaDoor
open Go.RowKit Go.Shelf
set_option linter.unusedVariables false

attribute [local go_sem] Oper.semAt_some

/-- What the iterator reads: its box, the copy's set, the table. -/
structure EachAt (w : World) (bx s n : Nat) (v : Value) (ws : List Nat) : Prop where
  box : w.heap[bx]? = some (.cells #[.pointer (some ⟨s, 0, none⟩)] 23 (0, 0))
  set : SetAt w s n v ws
  tidy : Tidy n ws
  tab : Tab w

/-- M names none of the iterator's blocks. -/
structure Leaves (M : Nat → Prop) (bx s : Nat) (v : Value) : Prop where
  box : ¬ M bx
  head : ¬ M s
  row : ∀ g, v.ownBlock = some g → ¬ M g
  tab : ¬ M 0

theorem Tab.kept {M : Nat → Prop} {w w' : World} (h : Tab w) (k : Kept M w w') (hm : ¬ M 0) : Tab w' := by
  intro j hj
  have h1 := h j hj
  have hlt := World.block_lt_of_cell? w _ h1
  rw [World.cell?_of_block (w := w) (k.block _ hlt hm)]
  exact h1

theorem EachAt.kept {M : Nat → Prop} {w w' : World} {bx s n : Nat} {v : Value} {ws : List Nat} (h : EachAt w bx s n v ws) (k : Kept M w w') (l : Leaves M bx s v) : EachAt w' bx s n v ws :=
  ⟨k.heap h.box l.box, h.set.kept k l.head l.row, h.tidy, h.tab.kept k l.tab⟩

theorem SetAt.no' {w w' : World} {s n : Nat} {v : Value} {ws : List Nat} (h : SetAt w s n v ws) (k : Kept No w w') : SetAt w' s n v ws := h.kept k (fun x => x) (fun _ _ x => x)

theorem next_in_wide (k : Nat) (s n : Nat) (v : Value) (ws : List Nat) (w : World) (f : Nat) (h : SetAt w s n v ws) (ht : Tidy n ws) (hT : Tab w) :
    CallsIn Fence.wide k Tryd.prog 14 #[.pointer (some ⟨s, 0, none⟩), .int .i64 (f : Int)] w fun e w' => e = .returned (told2 (nx n ws f)) ∧ w = w' :=
  callsIn_wide.2 (next_nat s n v ws w f h ht hT)

def okOf : Value → Nat
  | .bool true => 1
  | _ => 0

set_option maxRecDepth 100000 in
set_option maxHeartbeats 1000000 in
theorem each1_in (k : Nat) (hk1 : 1 ≤ k) (l bx s n : Nat) (v : Value) (ws : List Nat) (M : Nat → Prop) (hM : Leaves M bx s v) (J Jx : List Nat → World → Prop)
    (hY : ∀ (pre : List Nat) (x : Nat) (W : World), J pre W → pre.length < (els n ws 0).length → YieldAt Fence.wide (k - 1) Tryd.prog l #[.int .i64 (x : Int)] W fun e W' =>
      (e = .returned (.bool true) ∧ J (pre ++ [x]) W' ∧ Kept M W W') ∨ (e = .returned (.bool false) ∧ Jx (pre ++ [x]) W'))
    (W : World) (hE : EachAt W bx s n v ws) (h0 : J [] W) :
    CallsIn Fence.wide k Tryd.prog 21 #[.func (.yield l) #[] #[], .pointer (some ⟨bx, 0, none⟩)] W fun e W' => (∃ v, e = .returned v) ∧
      ((∃ ys, ys = els n ws 0 ∧ J ys W') ∨ (∃ pre, pre <+: els n ws 0 ∧ Jx pre W')) := by
  have hro : Fence.wide.round = none := rfl
  have hcb : W.cell? ⟨bx, 0, none⟩ = some (.pointer (some ⟨s, 0, none⟩)) := by rw [cell_of_row W bx 0 _ _ _ hE.box]; rfl
  have HN : Hid (∀ (f : Nat) W, EachAt W bx s n v ws → CallsIn Fence.wide (k - 1) Tryd.prog 14 #[.pointer (some ⟨s, 0, none⟩), .int .i64 (f : Int)] W fun e w' => e = .returned (told2 (nx n ws f)) ∧ W = w') :=
    fun f W h => next_in_wide (k - 1) s n v ws W f h.set h.tidy h.tab
  have HE := Lib.hid hE
  have hnl : n ≤ 65536 := hE.set.bound
  clear hE
  refine callsIn_of_wp Tryd.func21 rfl trivial ?_ hro
  simp only [Tryd.ntmps21, List.size_toArray, List.length_cons, List.length_nil, Nat.reduceAdd, Nat.reduceSub, Array.replicate_succ, Array.replicate_zero, List.push_toArray, List.append_toArray, List.nil_append, List.cons_append]
  gi_wp2_with fail
  refine ⟨trivial, ?_⟩
  refine (HN.out 0 W HE.out).mono ?_
  rintro e w' ⟨rfl, rfl⟩
  rw [nx_head]
  unfold told2
  generalize ho : (els n ws 0).head? = o
  have HO := Lib.hid ho
  clear ho
  gi_wp2_with fail
  gi_loopw [3, 4] (fun i ok wr => ∃ (pre rest : List Nat) (f : Nat), i = .int .i64 ((rest.head?.getD 0 : Nat) : Int) ∧ ok = .bool rest.head?.isSome ∧ Hid (els n ws 0 = pre ++ rest ∧ rest = els n ws f) ∧ J pre wr ∧ EachAt wr bx s n v ws) (fun i ok _ => okOf ok * (n + 1 - (intOf i).toNat))
  case atStart => exact ⟨[], els n ws 0, 0, by rw [HO.out], by rw [HO.out], ⟨rfl, rfl⟩, h0, HE.out⟩
  case round =>
    obtain ⟨pre, rest, f, rfl, rfl, HR, hJ, hEr⟩ := hrel
    have hcb' : wr.cell? ⟨bx, 0, none⟩ = some (.pointer (some ⟨s, 0, none⟩)) := by rw [cell_of_row wr bx 0 _ _ _ hEr.box]; rfl
    cases rest with
    | nil =>
      simp only [List.head?_nil, Option.getD_none, Option.isSome_none]
      have hfin : ∃ ys, ys = els n ws 0 ∧ J ys wr := ⟨pre, by rw [HR.out.1, List.append_nil], hJ⟩
      have HF := Lib.hid hfin
      clear hfin hJ hY
      gi_wp2_with fail
      refine ⟨fun _ h => (by cases h), ?_⟩
      gi_wp2
      go_end0
      exact ⟨⟨_, rfl⟩, .inl HF.out⟩
    | cons x rest =>
      simp only [List.head?_cons, Option.getD_some, Option.isSome_some]
      have hx := els_nx_cons HR.out.2.symm
      have hxn := (nx_spec hx.1).1
      have hlen : pre.length < (els n ws 0).length := by rw [HR.out.1]; simp
      obtain ⟨fn, tmps, assign, body, hy, hR⟩ := hY pre x wr hJ hlen
      have HX := Lib.hid hx
      have HK := Lib.hid hEr
      clear hx hlen hJ hY hEr
      gi_wp2_with fail
      refine hR.mono ?_
      rintro e W3 (⟨rfl, hJ3, hk3⟩ | ⟨rfl, hJx3⟩)
      · have hE3 := HK.out.kept hk3 hM
        have hcb3 : W3.cell? ⟨bx, 0, none⟩ = some (.pointer (some ⟨s, 0, none⟩)) := by rw [cell_of_row W3 bx 0 _ _ _ hE3.box]; rfl
        have HE3 := Lib.hid hE3
        have HJ3 := Lib.hid hJ3
        clear hE3 hJ3 hk3
        gi_wp2_with fail
        refine ⟨trivial, ?_⟩
        rw [show ((x : Int) + 1) = ((x + 1 : Nat) : Int) from rfl]
        refine (HN.out (x + 1) W3 HE3.out).mono ?_
        rintro e w' ⟨rfl, rfl⟩
        rw [nx_head]
        unfold told2
        have hrest := HX.out.2
        have hR2 : Hid (els n ws 0 = (pre ++ [x]) ++ rest ∧ rest = els n ws (x + 1)) := ⟨by rw [HR.out.1]; simp, hrest⟩
        rw [← hrest]
        have hmeas : okOf (.bool rest.head?.isSome) * (n + 1 - (rest.head?.getD 0)) < n + 1 - x := by
          cases hr : rest with
          | nil => simp [okOf]; omega
          | cons y r =>
            rw [hr] at hrest
            have := (nx_spec (els_nx_cons hrest.symm).1).2.1
            simp [okOf]; omega
        have HMs := Lib.hid hmeas
        clear hmeas hrest
        generalize ho2 : rest.head? = o2 at HMs ⊢
        have HO2 := Lib.hid ho2
        clear ho2
        gi_wp2
        go_roundw
        case rel => exact ⟨pre ++ [x], rest, x + 1, by rw [HO2.out], by rw [HO2.out], hR2, HJ3.out, HE3.out⟩
        case measure =>
          have := HMs.out
          simp only [intOf, okOf, Int.toNat_natCast, Nat.one_mul] at this ⊢
          exact this
      · have hfin : ∃ pre, pre <+: els n ws 0 ∧ Jx pre W3 := ⟨pre ++ [x], ⟨rest, by rw [HR.out.1]; simp⟩, hJx3⟩
        have HF := Lib.hid hfin
        clear hfin hJx3
        gi_wp2
        go_end0
        exact ⟨⟨_, rfl⟩, .inr HF.out⟩

/-- The iterator keeps its contract at whatever leaves its own blocks. -/
theorem each_stops (k : Nat) (hk1 : 1 ≤ k) (bx s n : Nat) (v : Value) (ws : List Nat) (M : Nat → Prop) (hM : Leaves M bx s v) (w : World) (hE : EachAt w bx s n v ws) :
    SeqStopsK Fence.wide k Tryd.prog 21 #[.pointer (some ⟨bx, 0, none⟩)] (fun x : Nat => #[Value.int .i64 (x : Int)]) (Kept M) (fun ys => ys = els n ws 0) (fun pre => pre <+: els n ws 0) (els n ws 0).length w := fun l J Jx W hW _ _ hY h0 =>
  each1_in k hk1 l bx s n v ws M hM J Jx hY W (hE.kept (M := fun b => w.heap.size ≤ b) (Kept.of_below hW) ⟨by have := lt_of_heap hE.box; omega, by have := hE.set.lt; omega, fun g hg => by have := hE.set.own_lt hg; omega, by have := World.block_lt_of_cell? w _ (hE.tab 0 (by decide)); simp at this; omega⟩) h0

/-- Each: a copy, boxed, and the function value that captures the box. -/
theorem each_ok (s n : Nat) (v : Value) (ws : List Nat) (w : World) (h : SetAt w s n v ws) (ht : Tidy n ws) (hT : Tab w) :
    Calls Tryd.prog 7 #[.pointer (some ⟨s, 0, none⟩)] w fun e w' => ∃ bx s' u, e = .returned (.func (.func 21) #[] #[.pointer (some ⟨bx, 0, none⟩)]) ∧ Kept No w w' ∧ EachAt w' bx s' n u ws ∧ w.heap.size ≤ bx ∧ w.heap.size ≤ s' ∧ (∀ g, u.ownBlock = some g → w.heap.size ≤ g) := by
  have hcopy := copy_ok s n v ws w h
  have HC := Lib.hid hcopy
  have HT := Lib.hid ht
  have HB := Lib.hid hT
  clear hcopy h ht hT
  go_enter Tryd.func7, Tryd.ntmps7
  go_wp2_with fail
  refine HC.out.mono ?_
  rintro e w1 ⟨s', u, rfl, k1, m1⟩
  have HK := Lib.hid k1
  have HM := Lib.hid m1
  clear k1 m1 HC
  go_wp2
  go_ret
  exact ⟨w1.heap.size, s', u, rfl, HK.out.alloc _, ⟨heap_alloc_new w1 _, HM.out.1.no' ((Kept.refl _ _).alloc _), HT.out, HB.out.kept (HK.out.alloc _) (fun h => h)⟩, HK.out.size, HM.out.2.1, HM.out.2.2⟩

end Go.Proofs.YtagbclijbeodaaaDoor
