/- A tree of no entries: the root has no sum. -/
import Derived.Test.YtpkadglempbjiaaGreatTrA
namespace Go.Proofs.YtpkadglempbjiaaGreat
open Go.RowKit Go.Lib
set_option linter.unusedVariables false
set_option maxRecDepth 100000

theorem treeRow_text (n : Int) (k : Nat) (hk : k < 4369) : (treeRow n)[2 + k]? = some (.string ByteArray.empty) := by
  rw [treeRow, List.getElem?_toArray, treeCells, show 2 + k = k + 1 + 1 from by omega, List.getElem?_cons_succ, List.getElem?_cons_succ, List.getElem?_append_left (by simpa using hk), List.getElem?_replicate]
  simp [hk]

set_option maxHeartbeats 1000000 in
theorem form_none (n : Int) (p : Nat) (fr : Nat × Nat) (w : World) (hg : w.heap[p]? = some (.cells (treeRow n) 80 fr)) :
    Calls Tryz.prog 47 #[.int .i64 0, .int .i64 0, .pointer (some ⟨p, 3, none⟩)] w fun e w' => e = .returned (.string ByteArray.empty) ∧ Kept No w w' := by
  have hp := lt_of_heap hg
  have HG := Lib.hid hg
  clear hg
  go_enter Tryz.func47, Tryz.ntmps47
  go_wp2_with fail
  refine (newWriter_ok _).mono ?_
  rintro e w1 ⟨b, v, rfl, k1, h1⟩
  have K1 := Lib.hid k1
  have H1 := Lib.hid h1
  clear k1 h1
  go_wp2_with fail
  refine (byte_ok w.heap.size b _ [] 78 _ H1.out (by decide)).mono ?_
  rintro e w2 ⟨v2, rfl, k2, h2⟩
  have K2 := Lib.hid k2
  have H2 := Lib.hid h2
  clear k2 h2
  go_wp2_with fail
  refine (byte_ok w.heap.size b _ _ 0 _ H2.out (by decide)).mono ?_
  rintro e w3 ⟨v3, rfl, k3, h3⟩
  have K3 := Lib.hid k3
  have H3 := Lib.hid h3
  clear k3 h3
  go_wp2_with fail
  refine (fixed_ok w.heap.size b _ _ 0 2 _ H3.out (by decide) (by decide) (by decide) (by decide) (by decide)).mono ?_
  rintro e w4 ⟨v4, rfl, k4, h4⟩
  have K4 := Lib.hid k4
  have H4 := Lib.hid h4
  clear k4 h4
  go_wp2_with fail
  refine (wlen_ok w.heap.size b _ _ _ H4.out).mono ?_
  rintro e w' ⟨rfl, rfl⟩
  go_wp2_with fail
  have HG4 : Hid (w4.heap[p]? = some (.cells (treeRow n) 80 fr)) := Lib.hid ((((K1.out.next K2.out (fun j hj h => absurd hj (by omega))).next K3.out (fun j hj h => absurd hj (by omega))).next K4.out (fun j hj h => absurd hj (by omega))).heap HG.out (fun h => h))
  have KK : Hid (Kept No w w4) := Lib.hid (((K1.out.next K2.out (fun j hj h => absurd hj (by omega))).next K3.out (fun j hj h => absurd hj (by omega))).next K4.out (fun j hj h => absurd hj (by omega)))
  have hp4 : p < w4.heap.size := lt_of_heap HG4.out
  go_loopw [26] (fun i wr => ∃ k m : Nat, k ≤ 16 ∧ i = .int .i64 k ∧ wr = w4.drewN m) (fun i _ => 16 - (intOf i).toNat)
  case atStart => exact ⟨0, 0, Nat.zero_le _, rfl, rfl⟩
  case round =>
    obtain ⟨k, m, hk, rfl, rfl⟩ := hrel
    by_cases hlt : k < 16
    · have hlti : (k : Int) < 16 := by omega
      have h0i : (0 : Int) ≤ k := by omega
      have hc : w4.cell? ⟨p, 3 + k, none⟩ = some (.string ByteArray.empty) := by
        have := cell_of_row w4 p (3 + k) _ _ _ HG4.out
        rw [show 3 + k = 2 + (k + 1) by omega] at this ⊢
        rw [treeRow_text n (k + 1) (by omega)] at this
        exact this
      go_wp2_with fail
      go_quiet (fail)
      go_wp2_with fail
      go_roundw
      case rel => exact ⟨k + 1, _, by omega, by go_num, rfl⟩
      case measure => simp [intOf]; omega
    · have e16 : k = 16 := by omega
      subst e16
      go_wp2_with fail
      refine (wlen_ok w.heap.size b _ _ _ (H4.out.kept ((Kept.refl No _).drewN m) (fun _ _ _ h => h))).mono ?_
      rintro e w' ⟨rfl, rfl⟩
      go_wp2_with fail
      go_ret
      exact ⟨rfl, KK.out.drewN m⟩

theorem sum_none (n : Int) (p : Nat) (fr : Nat × Nat) (w : World) (hg : w.heap[p]? = some (.cells (treeRow n) 80 fr)) :
    Calls Tryz.prog 33 #[.pointer (some ⟨p, 0, none⟩), .int .i64 0, .int .i64 0, .pointer (some ⟨p, 3, none⟩)] w fun e w' => e = .returned (.string ByteArray.empty) ∧ Kept No w w' := by
  have HG := Lib.hid hg
  clear hg
  go_enter Tryz.func33, Tryz.ntmps33
  go_wp2_with fail
  refine (form_none n p fr _ HG.out).mono ?_
  rintro e w1 ⟨rfl, k1⟩
  go_wp2_with fail
  go_ret
  exact ⟨rfl, k1⟩

theorem heap_same {w : World} {g : Nat} {cs : Array Value} {t : TypeId} {fr : Nat × Nat} (h : w.heap[g]? = some (.cells cs t fr)) (o : Nat) (v : Value) (hv : cs.setIfInBounds o v = cs) : (w.setCell ⟨g, o, none⟩ v).heap[g]? = some (.cells cs t fr) := by
  show (w.heap.modify g _)[g]? = _
  rw [Array.getElem?_modify]
  simp [h, hv]

theorem treeRow_root (n : Int) : (treeRow n).setIfInBounds 2 (.string ByteArray.empty) = treeRow n := by
  apply Array.ext'
  rw [Array.toList_setIfInBounds, treeRow]
  show (treeCells n).set 2 _ = treeCells n
  rw [treeCells, show (4369 : Nat) = 4368 + 1 from rfl, List.replicate_succ]
  rfl

set_option maxHeartbeats 1000000 in
theorem rise_none (n : Int) (p : Nat) (w : World) (hg : w.heap[p]? = some (.cells (treeRow n) 80 (0, 0))) :
    Calls Tryz.prog 17 #[.pointer (some ⟨p, 0, none⟩), .slice none 0 0] w fun e w' => e = .returned (.tuple #[]) ∧ Kept (fun k => k = p) w w' ∧ w'.heap[p]? = some (.cells (treeRow n) 80 (0, 0)) := by
  have hp := lt_of_heap hg
  have HG := Lib.hid hg
  clear hg
  go_enter Tryz.func17, Tryz.ntmps17
  go_wp2_with fail
  go_loop [18] (fun i => i = .int .i64 0) (fun _ => 0)
  case atStart => rfl
  case round =>
    obtain rfl := hrel
    go_wp2_with fail
    go_loop [59] (fun i => i = .int .i64 0) (fun _ => 0)
    case atStart => rfl
    case round =>
      obtain rfl := hrel
      go_wp2_with fail
      go_loop [90] (fun i => i = .int .i64 0) (fun _ => 0)
      case atStart => rfl
      case round =>
        obtain rfl := hrel
        go_wp2_with fail
        refine (sum_none n p _ _ HG.out).mono ?_
        rintro e w1 ⟨rfl, k1⟩
        have HG1 : Hid (w1.heap[p]? = some (.cells (treeRow n) 80 (0, 0))) := Lib.hid (k1.heap HG.out (fun h => h))
        have hc := cell_of_row w1 p 2 _ _ _ HG1.out
        rw [show (treeRow n)[2]? = some (.string ByteArray.empty) from treeRow_text n 0 (by omega)] at hc
        have hf : w1.frozen? ⟨p, 2, none⟩ = false := by simp [World.frozen?, HG1.out]
        have K1 := Lib.hid k1
        clear k1
        go_wp2_with fail
        go_end0
        exact ⟨rfl, (K1.out.of_no _).setCell _ _ (fun _ => rfl), heap_same HG1.out 2 _ (treeRow_root n)⟩

theorem treeRow_zero (n : Int) : (Tryz.zeroCells80.setIfInBounds 0 (.int .i64 n)).setIfInBounds 1 (.int .i64 0) = treeRow n := by kernel_rfl

set_option maxHeartbeats 1000000 in
theorem build_none (n : Int) (h1 : 1 ≤ n) (h2 : n ≤ 32) (w : World) :
    Calls Tryz.prog 5 #[.int .i64 n, .slice none 0 0] w fun e w' => ∃ p, e = .returned (.tuple #[.pointer (some ⟨p, 0, none⟩), .int .i64 0]) ∧ w.heap.size ≤ p ∧ Kept No w w' ∧ w'.heap[p]? = some (.cells (treeRow n) 80 (0, 0)) := by
  go_enter Tryz.func5, Tryz.ntmps5
  go_wp2_with fail
  refine (valid_none n h1 h2 _).mono ?_
  rintro e w' ⟨rfl, rfl⟩
  go_wp2_with fail
  rw [treeRow_zero]
  have HG : Hid ((w.alloc (.cells (treeRow n) 80)).heap[w.heap.size]? = some (.cells (treeRow n) 80 (0, 0))) := Lib.hid (heap_alloc_new w _)
  have K : Hid (Kept No w (w.alloc (.cells (treeRow n) 80))) := Lib.hid ((Kept.refl _ _).alloc _)
  generalize w.alloc (.cells (treeRow n) 80) = w1 at HG K ⊢
  generalize Value.agg (treeRow n) = ag
  go_loop [7, 31] (fun l i => l = .slice none 0 0 ∧ i = .int .i64 0) (fun _ _ => 0)
  case atStart => exact ⟨rfl, rfl⟩
  case round =>
    obtain ⟨rfl, rfl⟩ := hrel
    go_wp2_with fail
    refine (rise_none n _ _ HG.out).mono ?_
    rintro e w2 ⟨rfl, k2, hg2⟩
    go_wp2_with fail
    go_ret2
    exact ⟨_, rfl, Nat.le_refl _, K.out.next k2 (fun j hj e => by omega), hg2⟩
end Go.Proofs.YtpkadglempbjiaaGreat
