/- A part. -/
import Derived.Test.YtabhieafjkaocaaGreatMabh
import Derived.Test.YtabhieafjkaocaaGreatMaar
import Derived.Test.YtabhieafjkaocaaGreatMabf
set_option linter.unusedVariables false
set_option linter.unusedSimpArgs false
namespace Go.Proofs.YtabhieafjkaocaaGreat
open Go.RowKit Go.Lib Bm
set_option maxRecDepth 20000
end Go.Proofs.YtabhieafjkaocaaGreat
namespace Go.Proofs.YtabhieafjkaocaaGreat
open Go.RowKit Go.Lib Go.Maps Go.MapKept Bm
set_option maxRecDepth 20000
theorem begin_fin2 (w : World) (s d u : Nat) (bp : Value) (v : Value) (m : StM) (X : World) (hm s' : Nat) (u' : Value) (B : Nat) (h : StAt w s d u v bp m) (hB : w.heap.size = B) (k : Kept No w X)
    (hz : X.heap[B]? = some (.cells #[.pointer none, .pointer none, .int .u32 0, .int .u32 0, .int .u32 0, .int .u32 0, .int .u32 0, .int .u32 0, .int .u32 0, .int .u32 0, .map none, .bool false, .bool false] 93 (0, 0))) (hh : HeldAt X s' u' m.now) (hs : HasAt X hm [] (.map [])) (n1 : B < hm) (n2 : hm ≠ B) (n3 : B < s') (n4 : ∀ g, u'.ownBlock = some g → B < g) :
    (((((((((((((X.setCell ⟨B, 0, none⟩ (.pointer (some ⟨s, 0, none⟩))).setCell ⟨B, 1, none⟩ (.pointer (some ⟨s', 0, none⟩))).setCell ⟨B, 2, none⟩ (.int .u32 (m.now.root.a : Int))).setCell ⟨B, 3, none⟩ (.int .u32 (m.now.root.b : Int))).setCell ⟨B, 4, none⟩ (.int .u32 (m.now.root.c : Int))).setCell ⟨B, 5, none⟩ (.int .u32 (m.now.root.d : Int))).setCell ⟨B, 6, none⟩ (.int .u32 (m.now.root.e : Int))).setCell ⟨B, 7, none⟩ (.int .u32 (m.now.root.f : Int))).setCell ⟨B, 8, none⟩ (.int .u32 (m.now.root.g : Int))).setCell ⟨B, 9, none⟩ (.int .u32 (m.now.root.h : Int))).setCell ⟨B, 10, none⟩ (.map (some hm))).setCell ⟨B, 11, none⟩ (.bool false)).setCell ⟨B, 12, none⟩ (.bool m.dead)).heap[s]? = some (.cells #[dev d, .int .i64 (m.count : Int), .pointer (some ⟨u, 0, none⟩), .int .u32 (m.now.root.a : Int), .int .u32 (m.now.root.b : Int), .int .u32 (m.now.root.c : Int), .int .u32 (m.now.root.d : Int), .int .u32 (m.now.root.e : Int), .int .u32 (m.now.root.f : Int), .int .u32 (m.now.root.g : Int), .int .u32 (m.now.root.h : Int), .int .u64 (m.serial : Int), .int .u64 (m.next : Int), .bool m.dead, bp] 90 (0, 0)) ∧
    Kept (fun k => k = s) w ((((((((((((((X.setCell ⟨B, 0, none⟩ (.pointer (some ⟨s, 0, none⟩))).setCell ⟨B, 1, none⟩ (.pointer (some ⟨s', 0, none⟩))).setCell ⟨B, 2, none⟩ (.int .u32 (m.now.root.a : Int))).setCell ⟨B, 3, none⟩ (.int .u32 (m.now.root.b : Int))).setCell ⟨B, 4, none⟩ (.int .u32 (m.now.root.c : Int))).setCell ⟨B, 5, none⟩ (.int .u32 (m.now.root.d : Int))).setCell ⟨B, 6, none⟩ (.int .u32 (m.now.root.e : Int))).setCell ⟨B, 7, none⟩ (.int .u32 (m.now.root.f : Int))).setCell ⟨B, 8, none⟩ (.int .u32 (m.now.root.g : Int))).setCell ⟨B, 9, none⟩ (.int .u32 (m.now.root.h : Int))).setCell ⟨B, 10, none⟩ (.map (some hm))).setCell ⟨B, 11, none⟩ (.bool false)).setCell ⟨B, 12, none⟩ (.bool m.dead)).setCell ⟨s, 14, none⟩ (.pointer (some ⟨B, 0, none⟩))) ∧ StAt ((((((((((((((X.setCell ⟨B, 0, none⟩ (.pointer (some ⟨s, 0, none⟩))).setCell ⟨B, 1, none⟩ (.pointer (some ⟨s', 0, none⟩))).setCell ⟨B, 2, none⟩ (.int .u32 (m.now.root.a : Int))).setCell ⟨B, 3, none⟩ (.int .u32 (m.now.root.b : Int))).setCell ⟨B, 4, none⟩ (.int .u32 (m.now.root.c : Int))).setCell ⟨B, 5, none⟩ (.int .u32 (m.now.root.d : Int))).setCell ⟨B, 6, none⟩ (.int .u32 (m.now.root.e : Int))).setCell ⟨B, 7, none⟩ (.int .u32 (m.now.root.f : Int))).setCell ⟨B, 8, none⟩ (.int .u32 (m.now.root.g : Int))).setCell ⟨B, 9, none⟩ (.int .u32 (m.now.root.h : Int))).setCell ⟨B, 10, none⟩ (.map (some hm))).setCell ⟨B, 11, none⟩ (.bool false)).setCell ⟨B, 12, none⟩ (.bool m.dead)).setCell ⟨s, 14, none⟩ (.pointer (some ⟨B, 0, none⟩))) s d u v (.pointer (some ⟨B, 0, none⟩)) m ∧ BtAt ((((((((((((((X.setCell ⟨B, 0, none⟩ (.pointer (some ⟨s, 0, none⟩))).setCell ⟨B, 1, none⟩ (.pointer (some ⟨s', 0, none⟩))).setCell ⟨B, 2, none⟩ (.int .u32 (m.now.root.a : Int))).setCell ⟨B, 3, none⟩ (.int .u32 (m.now.root.b : Int))).setCell ⟨B, 4, none⟩ (.int .u32 (m.now.root.c : Int))).setCell ⟨B, 5, none⟩ (.int .u32 (m.now.root.d : Int))).setCell ⟨B, 6, none⟩ (.int .u32 (m.now.root.e : Int))).setCell ⟨B, 7, none⟩ (.int .u32 (m.now.root.f : Int))).setCell ⟨B, 8, none⟩ (.int .u32 (m.now.root.g : Int))).setCell ⟨B, 9, none⟩ (.int .u32 (m.now.root.h : Int))).setCell ⟨B, 10, none⟩ (.map (some hm))).setCell ⟨B, 11, none⟩ (.bool false)).setCell ⟨B, 12, none⟩ (.bool m.dead)).setCell ⟨s, 14, none⟩ (.pointer (some ⟨B, 0, none⟩))) B s s' u' hm ⟨m.now, [], false, m.dead⟩ ∧ w.heap.size ≤ B ∧ w.heap.size ≤ s' ∧ (∀ g, u'.ownBlock = some g → w.heap.size ≤ g) ∧ w.heap.size ≤ hm := by
  have hlt := lt_of_heap h.head
  have hu := h.held.set.lt
  have kk := kept13 X B (.pointer (some ⟨s, 0, none⟩)) (.pointer (some ⟨s', 0, none⟩)) (.int .u32 (m.now.root.a : Int)) (.int .u32 (m.now.root.b : Int)) (.int .u32 (m.now.root.c : Int)) (.int .u32 (m.now.root.d : Int)) (.int .u32 (m.now.root.e : Int)) (.int .u32 (m.now.root.f : Int)) (.int .u32 (m.now.root.g : Int)) (.int .u32 (m.now.root.h : Int)) (.map (some hm)) (.bool false) (.bool m.dead)
  have hS := kk.heap (k.heap h.head (fun h => h)) (by omega)
  have hrow := set13 X B _ _ _ _ _ _ _ _ _ _ _ _ _ _ (.pointer (some ⟨s, 0, none⟩)) (.pointer (some ⟨s', 0, none⟩)) (.int .u32 (m.now.root.a : Int)) (.int .u32 (m.now.root.b : Int)) (.int .u32 (m.now.root.c : Int)) (.int .u32 (m.now.root.d : Int)) (.int .u32 (m.now.root.e : Int)) (.int .u32 (m.now.root.f : Int)) (.int .u32 (m.now.root.g : Int)) (.int .u32 (m.now.root.h : Int)) (.map (some hm)) (.bool false) (.bool m.dead) hz
  refine ⟨hS, ?_⟩
  have kY : Kept (fun k => k = s) (((((((((((((X.setCell ⟨B, 0, none⟩ (.pointer (some ⟨s, 0, none⟩))).setCell ⟨B, 1, none⟩ (.pointer (some ⟨s', 0, none⟩))).setCell ⟨B, 2, none⟩ (.int .u32 (m.now.root.a : Int))).setCell ⟨B, 3, none⟩ (.int .u32 (m.now.root.b : Int))).setCell ⟨B, 4, none⟩ (.int .u32 (m.now.root.c : Int))).setCell ⟨B, 5, none⟩ (.int .u32 (m.now.root.d : Int))).setCell ⟨B, 6, none⟩ (.int .u32 (m.now.root.e : Int))).setCell ⟨B, 7, none⟩ (.int .u32 (m.now.root.f : Int))).setCell ⟨B, 8, none⟩ (.int .u32 (m.now.root.g : Int))).setCell ⟨B, 9, none⟩ (.int .u32 (m.now.root.h : Int))).setCell ⟨B, 10, none⟩ (.map (some hm))).setCell ⟨B, 11, none⟩ (.bool false)).setCell ⟨B, 12, none⟩ (.bool m.dead)) ((((((((((((((X.setCell ⟨B, 0, none⟩ (.pointer (some ⟨s, 0, none⟩))).setCell ⟨B, 1, none⟩ (.pointer (some ⟨s', 0, none⟩))).setCell ⟨B, 2, none⟩ (.int .u32 (m.now.root.a : Int))).setCell ⟨B, 3, none⟩ (.int .u32 (m.now.root.b : Int))).setCell ⟨B, 4, none⟩ (.int .u32 (m.now.root.c : Int))).setCell ⟨B, 5, none⟩ (.int .u32 (m.now.root.d : Int))).setCell ⟨B, 6, none⟩ (.int .u32 (m.now.root.e : Int))).setCell ⟨B, 7, none⟩ (.int .u32 (m.now.root.f : Int))).setCell ⟨B, 8, none⟩ (.int .u32 (m.now.root.g : Int))).setCell ⟨B, 9, none⟩ (.int .u32 (m.now.root.h : Int))).setCell ⟨B, 10, none⟩ (.map (some hm))).setCell ⟨B, 11, none⟩ (.bool false)).setCell ⟨B, 12, none⟩ (.bool m.dead)).setCell ⟨s, 14, none⟩ (.pointer (some ⟨B, 0, none⟩))) := (Kept.refl _ _).setCell ⟨s, 14, none⟩ _ (fun _ => rfl)
  have hY : ((((((((((((((X.setCell ⟨B, 0, none⟩ (.pointer (some ⟨s, 0, none⟩))).setCell ⟨B, 1, none⟩ (.pointer (some ⟨s', 0, none⟩))).setCell ⟨B, 2, none⟩ (.int .u32 (m.now.root.a : Int))).setCell ⟨B, 3, none⟩ (.int .u32 (m.now.root.b : Int))).setCell ⟨B, 4, none⟩ (.int .u32 (m.now.root.c : Int))).setCell ⟨B, 5, none⟩ (.int .u32 (m.now.root.d : Int))).setCell ⟨B, 6, none⟩ (.int .u32 (m.now.root.e : Int))).setCell ⟨B, 7, none⟩ (.int .u32 (m.now.root.f : Int))).setCell ⟨B, 8, none⟩ (.int .u32 (m.now.root.g : Int))).setCell ⟨B, 9, none⟩ (.int .u32 (m.now.root.h : Int))).setCell ⟨B, 10, none⟩ (.map (some hm))).setCell ⟨B, 11, none⟩ (.bool false)).setCell ⟨B, 12, none⟩ (.bool m.dead)).setCell ⟨s, 14, none⟩ (.pointer (some ⟨B, 0, none⟩))).heap[s]? = some (.cells #[dev d, .int .i64 (m.count : Int), .pointer (some ⟨u, 0, none⟩), .int .u32 (m.now.root.a : Int), .int .u32 (m.now.root.b : Int), .int .u32 (m.now.root.c : Int), .int .u32 (m.now.root.d : Int), .int .u32 (m.now.root.e : Int), .int .u32 (m.now.root.f : Int), .int .u32 (m.now.root.g : Int), .int .u32 (m.now.root.h : Int), .int .u64 (m.serial : Int), .int .u64 (m.next : Int), .bool m.dead, .pointer (some ⟨B, 0, none⟩)] 90 (0, 0)) := by
    have H := heap_setCell_same _ s 14 _ _ (.pointer (some ⟨B, 0, none⟩)) hS
    simp only [List.setIfInBounds_toArray, List.set_cons_succ, List.set_cons_zero] at H
    exact H
  generalize ((((((((((((((X.setCell ⟨B, 0, none⟩ (.pointer (some ⟨s, 0, none⟩))).setCell ⟨B, 1, none⟩ (.pointer (some ⟨s', 0, none⟩))).setCell ⟨B, 2, none⟩ (.int .u32 (m.now.root.a : Int))).setCell ⟨B, 3, none⟩ (.int .u32 (m.now.root.b : Int))).setCell ⟨B, 4, none⟩ (.int .u32 (m.now.root.c : Int))).setCell ⟨B, 5, none⟩ (.int .u32 (m.now.root.d : Int))).setCell ⟨B, 6, none⟩ (.int .u32 (m.now.root.e : Int))).setCell ⟨B, 7, none⟩ (.int .u32 (m.now.root.f : Int))).setCell ⟨B, 8, none⟩ (.int .u32 (m.now.root.g : Int))).setCell ⟨B, 9, none⟩ (.int .u32 (m.now.root.h : Int))).setCell ⟨B, 10, none⟩ (.map (some hm))).setCell ⟨B, 11, none⟩ (.bool false)).setCell ⟨B, 12, none⟩ (.bool m.dead)).setCell ⟨s, 14, none⟩ (.pointer (some ⟨B, 0, none⟩))) = Y at *
  have k1 : Kept No w (((((((((((((X.setCell ⟨B, 0, none⟩ (.pointer (some ⟨s, 0, none⟩))).setCell ⟨B, 1, none⟩ (.pointer (some ⟨s', 0, none⟩))).setCell ⟨B, 2, none⟩ (.int .u32 (m.now.root.a : Int))).setCell ⟨B, 3, none⟩ (.int .u32 (m.now.root.b : Int))).setCell ⟨B, 4, none⟩ (.int .u32 (m.now.root.c : Int))).setCell ⟨B, 5, none⟩ (.int .u32 (m.now.root.d : Int))).setCell ⟨B, 6, none⟩ (.int .u32 (m.now.root.e : Int))).setCell ⟨B, 7, none⟩ (.int .u32 (m.now.root.f : Int))).setCell ⟨B, 8, none⟩ (.int .u32 (m.now.root.g : Int))).setCell ⟨B, 9, none⟩ (.int .u32 (m.now.root.h : Int))).setCell ⟨B, 10, none⟩ (.map (some hm))).setCell ⟨B, 11, none⟩ (.bool false)).setCell ⟨B, 12, none⟩ (.bool m.dead)) := k.next kk (fun j hj e => by omega)
  have k2 : Kept (fun k => k = s) w Y := (k1.of_no _).trans kY
  have hus := h.held.set
  refine ⟨k2, ⟨hY, (h.held.kept k1 (fun h => h) (fun _ _ h => h)).kept kY (cells_ne hus.head h.head (by decide)) (fun g hg => ?_), h.count, h.next, rfl⟩, ⟨kY.heap hrow (by omega), (hh.kept kk (by omega) (fun g hg => by have := n4 g hg; omega)).kept kY (by omega) (fun g hg => by have := n4 g hg; omega), _, (hs.kept kk n2).kept kY (by omega)⟩, by omega, by omega, fun g hg => by have := n4 g hg; omega, by omega⟩
  obtain ⟨cs, hc⟩ := row_cells hus.row hg
  exact cells_ne hc h.head (by decide)
theorem begin_wrap {w w1 w' : World} {s d u b0 b u' hm : Nat} {v v' : Value} {m : StM} {cs : Array Value} (k0 : Kept (fun k => k = b0) w w1) (h0 : w1.heap[b0]? = some (.cells cs 93 (0, 0))) (hne : b0 ≠ s) (h : Kept (fun k => k = s) w1 w' ∧ StAt w' s d u v (.pointer (some ⟨b, 0, none⟩)) m ∧ BtAt w' b s u' v' hm ⟨m.now, [], false, m.dead⟩ ∧ w1.heap.size ≤ b ∧ w1.heap.size ≤ u' ∧ (∀ g, v'.ownBlock = some g → w1.heap.size ≤ g) ∧ w1.heap.size ≤ hm) :
    Kept (fun k => k = s ∨ k = b0) w w' ∧ StAt w' s d u v (.pointer (some ⟨b, 0, none⟩)) m ∧ BtAt w' b s u' v' hm ⟨m.now, [], false, m.dead⟩ ∧ w.heap.size ≤ b ∧ w.heap.size ≤ u' ∧ (∀ g, v'.ownBlock = some g → w.heap.size ≤ g) ∧ w.heap.size ≤ hm ∧ w'.heap[b0]? = some (.cells cs 93 (0, 0)) := by
  obtain ⟨q1, q2, q3, q4, q5, q6, q7⟩ := h
  have hs := k0.size
  exact ⟨(k0.mono (fun _ _ e => .inr e)).next q1 (fun k _ e => .inl e), q2, q3, by omega, by omega, fun g hg => by have := q6 g hg; omega, by omega, q1.heap h0 hne⟩
set_option maxHeartbeats 4000000 in
theorem begin_some (s d u b0 : Nat) (v : Value) (m : StM) (z0 z1 z2 z3 z4 z5 z6 z7 z8 z9 z10 z11 z12 : Value) (w : World) (h : StAt w s d u v (.pointer (some ⟨b0, 0, none⟩)) m) (hb0 : w.heap[b0]? = some (.cells #[z0, z1, z2, z3, z4, z5, z6, z7, z8, z9, z10, z11, z12] 93 (0, 0))) :
    Calls Tryz.prog 18 #[.pointer (some ⟨s, 0, none⟩)] w fun e w' => ∃ b u' v' hm, e = .returned (.pointer (some ⟨b, 0, none⟩)) ∧ Kept (fun k => k = s ∨ k = b0) w w' ∧ StAt w' s d u v (.pointer (some ⟨b, 0, none⟩)) m ∧ BtAt w' b s u' v' hm ⟨m.now, [], false, m.dead⟩ ∧ w.heap.size ≤ b ∧ w.heap.size ≤ u' ∧ (∀ g, v'.ownBlock = some g → w.heap.size ≤ g) ∧ w.heap.size ≤ hm ∧ w'.heap[b0]? = some (.cells #[z0, z1, z2, z3, z4, z5, z6, z7, z8, z9, z10, z11, .bool true] 93 (0, 0)) := by
  have c14 := (cell_of_row w s 14 _ _ _ h.head).trans rfl
  have cb := (cell_of_row w b0 12 _ _ _ hb0).trans rfl
  have fb := frozen_of_row w b0 12 _ _ hb0
  have hB1 := heap_setCell_same w b0 12 _ _ (.bool true) hb0
  simp only [List.setIfInBounds_toArray, List.set_cons_succ, List.set_cons_zero] at hB1
  have k00 : Kept (fun k => k = b0) w (w.setCell ⟨b0, 12, none⟩ (.bool true)) := (Kept.refl _ _).setCell _ _ (fun _ => rfl)
  have hne : b0 ≠ s := cells_ne hb0 h.head (by decide)
  have h1 := h.kept k00 (Ne.symm hne) (fun e => cells_ne hb0 h.held.set.head (by decide) e.symm) (fun g hg e => by
    obtain ⟨cs, hc⟩ := row_cells h.held.set.row hg
    exact cells_ne hb0 hc (by decide) e.symm)
  have hlt := lt_of_heap h1.head
  have H := Lib.hid h1
  have HK00 := Lib.hid k00
  have HB00 := Lib.hid hB1
  have HNE := Lib.hid hne
  clear h h1 hb0 hB1 k00 hne
  go_enter Tryz.func18, Tryz.ntmps18
  go_wp2_with fail
  clear cb fb
  have hsz0 : (w.setCell ⟨b0, 12, none⟩ (.bool true)).heap.size = w.heap.size := by simp
  generalize w.setCell ⟨b0, 12, none⟩ (.bool true) = V1 at *
  rw [← hsz0]
  clear hsz0
  have hB := heap_alloc_new V1 (.cells #[.pointer none, .pointer none, .int .u32 0, .int .u32 0, .int .u32 0, .int .u32 0, .int .u32 0, .int .u32 0, .int .u32 0, .int .u32 0, .map none, .bool false, .bool false] 93)
  have k0 : Kept No V1 (V1.alloc (.cells #[.pointer none, .pointer none, .int .u32 0, .int .u32 0, .int .u32 0, .int .u32 0, .int .u32 0, .int .u32 0, .int .u32 0, .int .u32 0, .map none, .bool false, .bool false] 93)) := (Kept.refl _ _).alloc _
  have hS := k0.heap H.out.head (fun h => h)
  have HH := Lib.hid (H.out.held.kept k0 (fun h => h) (fun _ _ h => h))
  have K0 := Lib.hid k0
  have hsz : (V1.alloc (.cells #[.pointer none, .pointer none, .int .u32 0, .int .u32 0, .int .u32 0, .int .u32 0, .int .u32 0, .int .u32 0, .int .u32 0, .int .u32 0, .map none, .bool false, .bool false] 93)).heap.size = V1.heap.size + 1 := by simp
  generalize (V1.alloc (.cells #[.pointer none, .pointer none, .int .u32 0, .int .u32 0, .int .u32 0, .int .u32 0, .int .u32 0, .int .u32 0, .int .u32 0, .int .u32 0, .map none, .bool false, .bool false] 93)) = W at *
  have HSZ := Lib.hid hsz
  clear hsz k0 c14
  generalize hBe : V1.heap.size = B at *
  have HBE := Lib.hid hBe
  clear hBe
  have s2 := (cell_of_row W s 2 _ _ _ hS).trans rfl
  have s3 := (cell_of_row W s 3 _ _ _ hS).trans rfl
  have s4 := (cell_of_row W s 4 _ _ _ hS).trans rfl
  have s5 := (cell_of_row W s 5 _ _ _ hS).trans rfl
  have s6 := (cell_of_row W s 6 _ _ _ hS).trans rfl
  have s7 := (cell_of_row W s 7 _ _ _ hS).trans rfl
  have s8 := (cell_of_row W s 8 _ _ _ hS).trans rfl
  have s9 := (cell_of_row W s 9 _ _ _ hS).trans rfl
  have s10 := (cell_of_row W s 10 _ _ _ hS).trans rfl
  have s13 : W.cell? ⟨s, 13, none⟩ = some (.bool m.dead) := (cell_of_row W s 13 _ _ _ hS).trans rfl
  have hSm := ((Kept.refl No W).alloc (.map #[] 0)).heap hS (fun h => h)
  have m2 := (cell_of_row (W.alloc (.map #[] 0)) s 2 _ _ _ hSm).trans rfl
  have m3 := (cell_of_row (W.alloc (.map #[] 0)) s 3 _ _ _ hSm).trans rfl
  have m4 := (cell_of_row (W.alloc (.map #[] 0)) s 4 _ _ _ hSm).trans rfl
  have m5 := (cell_of_row (W.alloc (.map #[] 0)) s 5 _ _ _ hSm).trans rfl
  have m6 := (cell_of_row (W.alloc (.map #[] 0)) s 6 _ _ _ hSm).trans rfl
  have m7 := (cell_of_row (W.alloc (.map #[] 0)) s 7 _ _ _ hSm).trans rfl
  have m8 := (cell_of_row (W.alloc (.map #[] 0)) s 8 _ _ _ hSm).trans rfl
  have m9 := (cell_of_row (W.alloc (.map #[] 0)) s 9 _ _ _ hSm).trans rfl
  have m10 := (cell_of_row (W.alloc (.map #[] 0)) s 10 _ _ _ hSm).trans rfl
  have m13 : (W.alloc (.map #[] 0)).cell? ⟨s, 13, none⟩ = some (.bool m.dead) := (cell_of_row (W.alloc (.map #[] 0)) s 13 _ _ _ hSm).trans rfl
  clear hSm
  have HB := Lib.hid hB
  have HS := Lib.hid hS
  clear hB hS
  have hmk : ∀ V1, (Instr.makeMap 91 none).run Tryz.prog V1 = .ok (.map (some V1.heap.size)) (V1.alloc (.map #[] 0)) := fun V1 => by rfl
  go_region_with (first | (go_at_call 54; refine (copied_ok u v m.now _ (HH.out.kept (by first | exact (Kept.refl No W).drew | exact ((Kept.refl No W).alloc _).drew) (fun h => h) (fun _ _ h => h))).mono ?_; rintro e w' ⟨s', u', rfl, k', hset, hn1, hn2⟩; have kk : Kept No W w' := (by first | exact (Kept.refl No W).drew.trans k' | exact ((Kept.refl No W).alloc _).drew.trans k'); have hS' := kk.heap HS.out (fun h => h); have hB' := kk.heap HB.out (fun h => h); have s13' : w'.cell? ⟨s, 13, none⟩ = some (.bool m.dead) := (cell_of_row w' s 13 _ _ _ hS').trans rfl; have s13q : (w'.alloc (.map #[] 0)).cell? ⟨s, 13, none⟩ = some (.bool m.dead) := (cell_of_row (w'.alloc (.map #[] 0)) s 13 _ _ _ (((Kept.refl No w').alloc (.map #[] 0)).heap hS' (fun h => h))).trans rfl; have f0' := frozen_of_row w' B 0 _ _ hB'; have f1' := frozen_of_row w' B 1 _ _ hB'; have f2' := frozen_of_row w' B 2 _ _ hB'; have f3' := frozen_of_row w' B 3 _ _ hB'; have f4' := frozen_of_row w' B 4 _ _ hB'; have f5' := frozen_of_row w' B 5 _ _ hB'; have f6' := frozen_of_row w' B 6 _ _ hB'; have f7' := frozen_of_row w' B 7 _ _ hB'; have f8' := frozen_of_row w' B 8 _ _ hB'; have f9' := frozen_of_row w' B 9 _ _ hB'; have f10' := frozen_of_row w' B 10 _ _ hB'; have f11' := frozen_of_row w' B 11 _ _ hB'; have f12' := frozen_of_row w' B 12 _ _ hB'; have b0' := (cell_of_row w' B 0 _ _ _ hB').trans rfl; have b1' := (cell_of_row w' B 1 _ _ _ hB').trans rfl; have b2' := (cell_of_row w' B 2 _ _ _ hB').trans rfl; have b3' := (cell_of_row w' B 3 _ _ _ hB').trans rfl; have b4' := (cell_of_row w' B 4 _ _ _ hB').trans rfl; have b5' := (cell_of_row w' B 5 _ _ _ hB').trans rfl; have b6' := (cell_of_row w' B 6 _ _ _ hB').trans rfl; have b7' := (cell_of_row w' B 7 _ _ _ hB').trans rfl; have b8' := (cell_of_row w' B 8 _ _ _ hB').trans rfl; have b9' := (cell_of_row w' B 9 _ _ _ hB').trans rfl; have b10' := (cell_of_row w' B 10 _ _ _ hB').trans rfl; have b11' := (cell_of_row w' B 11 _ _ _ hB').trans rfl; have b12' := (cell_of_row w' B 12 _ _ _ hB').trans rfl; have hBq := ((Kept.refl No w').alloc (.map #[] 0)).heap hB' (fun h => h); have f0q := frozen_of_row (w'.alloc (.map #[] 0)) B 0 _ _ hBq; have f1q := frozen_of_row (w'.alloc (.map #[] 0)) B 1 _ _ hBq; have f2q := frozen_of_row (w'.alloc (.map #[] 0)) B 2 _ _ hBq; have f3q := frozen_of_row (w'.alloc (.map #[] 0)) B 3 _ _ hBq; have f4q := frozen_of_row (w'.alloc (.map #[] 0)) B 4 _ _ hBq; have f5q := frozen_of_row (w'.alloc (.map #[] 0)) B 5 _ _ hBq; have f6q := frozen_of_row (w'.alloc (.map #[] 0)) B 6 _ _ hBq; have f7q := frozen_of_row (w'.alloc (.map #[] 0)) B 7 _ _ hBq; have f8q := frozen_of_row (w'.alloc (.map #[] 0)) B 8 _ _ hBq; have f9q := frozen_of_row (w'.alloc (.map #[] 0)) B 9 _ _ hBq; have f10q := frozen_of_row (w'.alloc (.map #[] 0)) B 10 _ _ hBq; have f11q := frozen_of_row (w'.alloc (.map #[] 0)) B 11 _ _ hBq; have f12q := frozen_of_row (w'.alloc (.map #[] 0)) B 12 _ _ hBq; have b0q := (cell_of_row (w'.alloc (.map #[] 0)) B 0 _ _ _ hBq).trans rfl; have b1q := (cell_of_row (w'.alloc (.map #[] 0)) B 1 _ _ _ hBq).trans rfl; have b2q := (cell_of_row (w'.alloc (.map #[] 0)) B 2 _ _ _ hBq).trans rfl; have b3q := (cell_of_row (w'.alloc (.map #[] 0)) B 3 _ _ _ hBq).trans rfl; have b4q := (cell_of_row (w'.alloc (.map #[] 0)) B 4 _ _ _ hBq).trans rfl; have b5q := (cell_of_row (w'.alloc (.map #[] 0)) B 5 _ _ _ hBq).trans rfl; have b6q := (cell_of_row (w'.alloc (.map #[] 0)) B 6 _ _ _ hBq).trans rfl; have b7q := (cell_of_row (w'.alloc (.map #[] 0)) B 7 _ _ _ hBq).trans rfl; have b8q := (cell_of_row (w'.alloc (.map #[] 0)) B 8 _ _ _ hBq).trans rfl; have b9q := (cell_of_row (w'.alloc (.map #[] 0)) B 9 _ _ _ hBq).trans rfl; have b10q := (cell_of_row (w'.alloc (.map #[] 0)) B 10 _ _ _ hBq).trans rfl; have b11q := (cell_of_row (w'.alloc (.map #[] 0)) B 11 _ _ _ hBq).trans rfl; have b12q := (cell_of_row (w'.alloc (.map #[] 0)) B 12 _ _ _ hBq).trans rfl; clear hBq; have HS' := Lib.hid hS'; have HB' := Lib.hid hB'; have K' := Lib.hid k'; have KK := Lib.hid kk; have HSET := Lib.hid hset; have HN1 := Lib.hid hn1; have HN2 := Lib.hid hn2; clear hS' hB' k' kk hset hn1 hn2))
  all_goals
    clear f0' f1' f2' f3' f4' f5' f6' f7' f8' f9' f10' f11' f12' b0' b1' b2' b3' b4' b5' b6' b7' b8' b9' b10' b11' b12' f0q f1q f2q f3q f4q f5q f6q f7q f8q f9q f10q f11q f12q b0q b1q b2q b3q b4q b5q b6q b7q b8q b9q b10q b11q b12q s13' s13q s2 s3 s4 s5 s6 s7 s8 s9 s10 s13 m2 m3 m4 m5 m6 m7 m8 m9 m10 m13
    have hAE := HBE.out
    have hSZ := HSZ.out
    have hWd : W.drew.heap.size = W.heap.size := rfl
    have hWm : (W.alloc (.map #[] 0)).drew.heap.size = W.heap.size + 1 := by show (W.alloc (.map #[] 0)).heap.size = _; simp
    have hle := KK.out.size
    have hn1 := HN1.out
    have hn2 := HN2.out
    have hSu := HSET.out
    first
      | (have F := begin_fin2 V1 s d u (.pointer (some ⟨b0, 0, none⟩)) v m w' W.heap.size s' u' B H.out hAE (K0.out.trans KK.out) HB'.out HSET.out (HasAt.made ((Kept.refl No _).drew.trans K'.out) (fun h => h)) (by omega) (by omega) (by omega) (fun g hg => by have := hn2 g hg; first | omega | (simp at this; omega)); obtain ⟨hS1, hfin⟩ := F; generalize (((((((((((((w'.setCell ⟨B, 0, none⟩ (.pointer (some ⟨s, 0, none⟩))).setCell ⟨B, 1, none⟩ (.pointer (some ⟨s', 0, none⟩))).setCell ⟨B, 2, none⟩ (.int .u32 (m.now.root.a : Int))).setCell ⟨B, 3, none⟩ (.int .u32 (m.now.root.b : Int))).setCell ⟨B, 4, none⟩ (.int .u32 (m.now.root.c : Int))).setCell ⟨B, 5, none⟩ (.int .u32 (m.now.root.d : Int))).setCell ⟨B, 6, none⟩ (.int .u32 (m.now.root.e : Int))).setCell ⟨B, 7, none⟩ (.int .u32 (m.now.root.f : Int))).setCell ⟨B, 8, none⟩ (.int .u32 (m.now.root.g : Int))).setCell ⟨B, 9, none⟩ (.int .u32 (m.now.root.h : Int))).setCell ⟨B, 10, none⟩ (.map (some W.heap.size))).setCell ⟨B, 11, none⟩ (.bool false)).setCell ⟨B, 12, none⟩ (.bool m.dead)) = Y1 at hS1 hfin ⊢; have c1 := (cell_of_row _ s 14 _ _ _ hS1).trans rfl; have f1 := frozen_of_row _ s 14 _ _ hS1; have HFIN := Lib.hid hfin; clear hfin hS1; go_wp2; go_ret; exact ⟨B, s', u', _, rfl, begin_wrap HK00.out HB00.out HNE.out HFIN.out⟩)
      | (have F := begin_fin2 V1 s d u (.pointer (some ⟨b0, 0, none⟩)) v m (w'.alloc (.map #[] 0)) w'.heap.size s' u' B H.out hAE ((K0.out.trans KK.out).alloc _) (((Kept.refl No w').alloc (.map #[] 0)).heap HB'.out (fun h => h)) (HSET.out.kept ((Kept.refl No w').alloc (.map #[] 0)) (fun h => h) (fun _ _ h => h)) (HasAt.made (Kept.refl No _) (fun h => h)) (by omega) (by omega) (by omega) (fun g hg => by have := hn2 g hg; omega); obtain ⟨hS1, hfin⟩ := F; generalize ((((((((((((((w'.alloc (.map #[] 0)).setCell ⟨B, 0, none⟩ (.pointer (some ⟨s, 0, none⟩))).setCell ⟨B, 1, none⟩ (.pointer (some ⟨s', 0, none⟩))).setCell ⟨B, 2, none⟩ (.int .u32 (m.now.root.a : Int))).setCell ⟨B, 3, none⟩ (.int .u32 (m.now.root.b : Int))).setCell ⟨B, 4, none⟩ (.int .u32 (m.now.root.c : Int))).setCell ⟨B, 5, none⟩ (.int .u32 (m.now.root.d : Int))).setCell ⟨B, 6, none⟩ (.int .u32 (m.now.root.e : Int))).setCell ⟨B, 7, none⟩ (.int .u32 (m.now.root.f : Int))).setCell ⟨B, 8, none⟩ (.int .u32 (m.now.root.g : Int))).setCell ⟨B, 9, none⟩ (.int .u32 (m.now.root.h : Int))).setCell ⟨B, 10, none⟩ (.map (some w'.heap.size))).setCell ⟨B, 11, none⟩ (.bool false)).setCell ⟨B, 12, none⟩ (.bool m.dead)) = Y1 at hS1 hfin ⊢; have c1 := (cell_of_row _ s 14 _ _ _ hS1).trans rfl; have f1 := frozen_of_row _ s 14 _ _ hS1; have HFIN := Lib.hid hfin; clear hfin hS1; go_wp2; go_ret; exact ⟨B, s', u', _, rfl, begin_wrap HK00.out HB00.out HNE.out HFIN.out⟩)
end Go.Proofs.YtabhieafjkaocaaGreat
namespace Go.Proofs.YtabhieafjkaocaaGreat
open Go.RowKit Bm
theorem range_set {α : Type} (n k : Nat) (f : Nat → α) (v : α) : ((List.range n).map f).set k v = (List.range n).map fun i => if i = k then v else f i := by
  apply List.ext_getElem?
  intro i
  rw [List.getElem?_set]
  by_cases hi : i < n
  · by_cases hk : k = i
    · subst hk
      simp [hi]
    · simp [hi, hk, show ¬ i = k from fun e => hk e.symm]
  · by_cases hk : k = i
    · subst hk
      simp [hi]
    · simp [hi, hk]
theorem range_getD {α : Type} (n k : Nat) (f : Nat → α) (d : α) (h : k < n) : ((List.range n).map f).getD k d = f k := by simp [h]
def willK (is : SeenM) (m : BtM) (i : Nat) : Int := if mem m.held.ws i = true then (match getC i m.has with | some c => (c.1.toNat : Int) | none => is.kind.getD i (-1)) else -1
def willB (is : SeenM) (m : BtM) (i : Nat) : List UInt8 := if mem m.held.ws i = true then (match getC i m.has with | some c => c.2 | none => is.body.getD i []) else []
def willM (is : SeenM) (m : BtM) : SeenM := ⟨(List.range m.held.n).map (willK is m), (List.range m.held.n).map (willB is m), m.held.root⟩
def SeenM.put (v : SeenM) (n : Nat) (k : Int) (b : List UInt8) : SeenM := ⟨v.kind.set n k, v.body.set n b, v.root⟩
structure Grown (is : SeenM) (m : BtM) : Prop where
  kl : is.kind.length = m.held.n
  bl : is.body.length = m.held.n
  old : ∀ i, mem m.held.ws i = true → getC i m.has = none → 0 ≤ is.kind.getD i (-1)
  has : ∀ y ∈ m.has, mem m.held.ws y.1 = true
  rise : Rise m.has
  ok : m.held.Ok
  same : m.changed = false → m.has = [] ∧ willM is m = is
  live : m.ended = false
theorem Grown.wk {is : SeenM} {m : BtM} (h : Grown is m) (i : Nat) : (mem m.held.ws i = true ∧ 0 ≤ willK is m i) ∨ (mem m.held.ws i = false ∧ willK is m i = -1) := by
  unfold willK
  cases hm : mem m.held.ws i with
  | false => exact .inr ⟨rfl, by rw [if_neg (by simp)]⟩
  | true =>
    refine .inl ⟨rfl, ?_⟩
    rw [if_pos rfl]
    cases hg : getC i m.has with
    | some c => simp
    | none => exact h.old i hm hg
theorem willM_len (is : SeenM) (m : BtM) : (willM is m).kind.length = m.held.n ∧ (willM is m).body.length = m.held.n := by simp [willM]
theorem asked_mem {h : HeldM} (o : h.Ok) (n : Nat) : h.asked n = 0 ↔ mem h.ws n = true := by
  unfold HeldM.asked
  constructor
  · intro e
    split at e
    · omega
    · split at e
      · assumption
      · omega
  · intro e
    rw [if_neg, if_pos e]
    rintro (rfl | hn)
    · rw [o.zero] at e; cases e
    · rw [show mem h.ws n = false from o.tidy.top n hn] at e; cases e
theorem mem_low {h : HeldM} (o : h.Ok) {n : Nat} (hm : mem h.ws n = true) : 0 < n ∧ n < h.n := by
  constructor
  · rcases Nat.eq_zero_or_pos n with rfl | h0
    · rw [o.zero] at hm; cases hm
    · exact h0
  · rcases Nat.lt_or_ge n h.n with h0 | h0
    · exact h0
    · rw [show mem h.ws n = false from o.tidy.top n h0] at hm; cases hm
theorem put_will {is : SeenM} {m m' : BtM} (hn : m'.held.n = m.held.n) (hr : m'.held.root = m.held.root) {k : Nat} {q : Int} {b : List UInt8}
    (h1 : willK is m' k = q) (h2 : willB is m' k = b) (h3 : ∀ i, i ≠ k → willK is m' i = willK is m i ∧ willB is m' i = willB is m i) : willM is m' = (willM is m).put k q b := by
  unfold willM SeenM.put
  rw [hn, hr]
  simp only
  rw [range_set, range_set]
  congr 1
  · apply List.map_congr_left
    intro i _
    by_cases e : i = k
    · subst e; rw [if_pos rfl, h1]
    · rw [if_neg e, (h3 i e).1]
  · apply List.map_congr_left
    intro i _
    by_cases e : i = k
    · subst e; rw [if_pos rfl, h2]
    · rw [if_neg e, (h3 i e).2]
theorem write_will {is : SeenM} {m : BtM} (h : Grown is m) (n : Nat) (c : UInt8 × List UInt8) :
    ((m.write n c).2 ≠ 0 ∧ (m.write n c).1 = m) ∨ ((m.write n c).2 = 0 ∧ m.held.asked n = 0 ∧ c.2.length ≤ 996 ∧ Grown is (m.write n c).1 ∧ willM is (m.write n c).1 = (willM is m).put n (c.1.toNat : Int) c.2 ∧ (m.write n c).1.held.n = m.held.n) := by
  unfold BtM.write
  rw [if_neg (by simp [h.live])]
  by_cases ha : m.held.asked n ≠ 0
  · rw [if_pos ha]; exact .inl ⟨ha, rfl⟩
  rw [if_neg ha]
  have ha : m.held.asked n = 0 := by omega
  by_cases hc : 996 < c.2.length
  · rw [if_pos hc]; exact .inl ⟨by show (82 : Int) ≠ 0; decide, rfl⟩
  rw [if_neg hc]
  have hm := (asked_mem h.ok n).1 ha
  refine .inr ⟨rfl, ha, by omega, ⟨h.kl, h.bl, fun i h1 h2 => ?_, fun y hy => ?_, h.rise.ins, h.ok, fun e => (by cases e), h.live⟩, put_will (by rfl) (by rfl) ?_ ?_ fun i hi => ?_, rfl⟩
  · have h2 : getC i (insC n c m.has) = none := h2
    rw [getC_ins n c m.has h.rise] at h2
    split at h2
    · cases h2
    · exact h.old i h1 h2
  · rcases insC_keys n c m.has y.1 (List.mem_map_of_mem hy) with e | e
    · rw [e]; exact hm
    · obtain ⟨z, hz, e⟩ := List.mem_map.1 e
      rw [← e]; exact h.has z hz
  · unfold willK
    simp only
    rw [if_pos hm, getC_ins n c m.has h.rise, if_pos rfl]
  · unfold willB
    simp only
    rw [if_pos hm, getC_ins n c m.has h.rise, if_pos rfl]
  · unfold willK willB
    simp only
    rw [getC_ins n c m.has h.rise, if_neg hi]
    exact ⟨rfl, rfl⟩
theorem alloc_will {is : SeenM} {m : BtM} (h : Grown is m) (c : UInt8 × List UInt8) :
    ((m.alloc c).2.2 ≠ 0 ∧ (m.alloc c).1 = m) ∨ ((m.alloc c).2.2 = 0 ∧ 0 < (m.alloc c).2.1 ∧ (m.alloc c).2.1 < m.held.n ∧ willK is m (m.alloc c).2.1 = -1 ∧ c.2.length ≤ 996 ∧ Grown is (m.alloc c).1 ∧ willM is (m.alloc c).1 = (willM is m).put (m.alloc c).2.1 (c.1.toNat : Int) c.2 ∧ (m.alloc c).1.held.n = m.held.n) := by
  unfold BtM.alloc
  rw [if_neg (by simp [h.live])]
  by_cases hc : 996 < c.2.length
  · rw [if_pos hc]; exact .inl ⟨by show (82 : Int) ≠ 0; decide, rfl⟩
  rw [if_neg hc]
  cases hf : freeFrom m.held.ws m.held.n 1 with
  | none => exact .inl ⟨by show (3 : Int) ≠ 0; decide, rfl⟩
  | some k =>
    obtain ⟨k1, k2, k3⟩ := freeFrom_some hf
    have hl := h.ok.tidy.length_gt k2
    have hmp : ∀ i, mem (putW m.held.ws k) i = (mem m.held.ws i || decide (k = i)) := fun i => mem_putW _ _ _ hl
    simp only
    refine .inr ⟨trivial, by omega, k2, ?_, by omega, ⟨h.kl, h.bl, fun i h1 h2 => ?_, fun y hy => ?_, h.rise.ins, h.ok.put (by omega) k2, fun e => (by cases e), h.live⟩, put_will (by rfl) (by rfl) ?_ ?_ fun i hi => ?_, rfl⟩
    · unfold willK
      rw [if_neg (by simp [k3])]
    · have h2 : getC i (insC k c m.has) = none := h2
      rw [getC_ins k c m.has h.rise] at h2
      split at h2
      · cases h2
      · rename_i hne
        refine h.old i ?_ h2
        have h1 : mem (putW m.held.ws k) i = true := h1
        rw [hmp] at h1
        simpa [show ¬ k = i from fun e => hne e.symm] using h1
    · show mem (putW m.held.ws k) y.1 = true
      rw [hmp]
      rcases insC_keys k c m.has y.1 (List.mem_map_of_mem hy) with e | e
      · simp [e]
      · obtain ⟨z, hz, e⟩ := List.mem_map.1 e
        rw [← e, h.has z hz, Bool.true_or]
    · unfold willK
      refine (if_pos (show mem (putW m.held.ws k) k = true by rw [hmp]; simp)).trans ?_
      show (match getC k (insC k c m.has) with | some c => (c.1.toNat : Int) | none => is.kind.getD k (-1)) = _
      rw [getC_ins k c m.has h.rise, if_pos rfl]
    · unfold willB
      refine (if_pos (show mem (putW m.held.ws k) k = true by rw [hmp]; simp)).trans ?_
      show (match getC k (insC k c m.has) with | some c => c.2 | none => is.body.getD k []) = _
      rw [getC_ins k c m.has h.rise, if_pos rfl]
    · have e1 : mem (m.held.put k).ws i = mem m.held.ws i := by
        show mem (putW m.held.ws k) i = _
        rw [hmp]; simp [show ¬ k = i from fun e => hi e.symm]
      unfold willK willB
      simp only
      rw [e1, getC_ins k c m.has h.rise, if_neg hi]
      exact ⟨rfl, rfl⟩
theorem release_will {is : SeenM} {m : BtM} (h : Grown is m) (n : Nat) :
    ((m.release n).2 ≠ 0 ∧ (m.release n).1 = m) ∨ ((m.release n).2 = 0 ∧ m.held.asked n = 0 ∧ (∀ i, i < 8 → m.held.root.get i ≠ n) ∧ Grown is (m.release n).1 ∧ willM is (m.release n).1 = (willM is m).put n (-1) [] ∧ (m.release n).1.held.n = m.held.n) := by
  unfold BtM.release
  rw [if_neg (by simp [h.live])]
  by_cases ha : m.held.asked n ≠ 0
  · rw [if_pos ha]; exact .inl ⟨ha, rfl⟩
  rw [if_neg ha]
  have ha : m.held.asked n = 0 := by omega
  by_cases hr : n ∈ m.held.root.list
  · rw [if_pos hr]; exact .inl ⟨by show (1 : Int) ≠ 0; decide, rfl⟩
  rw [if_neg hr]
  have hr' : ∀ i, i < 8 → m.held.root.get i ≠ n := fun i hi e => hr (e ▸ Root8.mem_get _ i hi)
  have hm := (asked_mem h.ok n).1 ha
  have hl := h.ok.tidy.length_gt (mem_low h.ok hm).2
  have hmt : ∀ i, mem (takeW m.held.ws n) i = (mem m.held.ws i && !decide (n = i)) := fun i => by rw [mem_takeW _ _ _ hl]; simp
  refine .inr ⟨rfl, ha, hr', ⟨h.kl, h.bl, fun i h1 h2 => ?_, fun y hy => ?_, h.rise.del, h.ok.take (mem_low h.ok hm).2 hr', fun e => (by cases e), h.live⟩, put_will (by rfl) (by rfl) ?_ ?_ fun i hi => ?_, rfl⟩
  · have h1 : mem (takeW m.held.ws n) i = true := h1
    rw [hmt, Bool.and_eq_true] at h1
    have hne : ¬ i = n := fun e => by simp [e] at h1
    have h2 : getC i (delC n m.has) = none := h2
    rw [getC_del, if_neg hne] at h2
    exact h.old i h1.1 h2
  · have hy : y ∈ delC n m.has := hy
    unfold delC at hy
    obtain ⟨h1, h2⟩ := List.mem_filter.1 hy
    show mem (takeW m.held.ws n) y.1 = true
    rw [hmt, h.has y h1]
    have : ¬ y.1 = n := by simpa using h2
    simp [show ¬ n = y.1 from fun e => this e.symm]
  · unfold willK
    exact if_neg (show ¬ mem (takeW m.held.ws n) n = true by rw [hmt]; simp)
  · unfold willB
    exact if_neg (show ¬ mem (takeW m.held.ws n) n = true by rw [hmt]; simp)
  · have e1 : mem (m.held.take n).ws i = mem m.held.ws i := by
      show mem (takeW m.held.ws n) i = _
      rw [hmt]; simp [show ¬ n = i from fun e => hi e.symm]
    unfold willK willB
    simp only
    rw [e1, getC_del, if_neg hi]
    exact ⟨rfl, rfl⟩
theorem setRoot_will {is : SeenM} {m : BtM} (h : Grown is m) (i : Int) (n : Nat) :
    ((m.setRoot i n).2 ≠ 0 ∧ (m.setRoot i n).1 = m) ∨ ((m.setRoot i n).2 = 0 ∧ 0 ≤ i ∧ i < 8 ∧ (n = 0 ∨ m.held.asked n = 0) ∧ Grown is (m.setRoot i n).1 ∧ willM is (m.setRoot i n).1 = { willM is m with root := m.held.root.set i.toNat n } ∧ (m.setRoot i n).1.held.n = m.held.n) := by
  unfold BtM.setRoot
  rw [if_neg (by simp [h.live])]
  by_cases hi : i < 0 ∨ 8 ≤ i
  · rw [if_pos hi]; exact .inl ⟨by show (1 : Int) ≠ 0; decide, rfl⟩
  rw [if_neg hi]
  by_cases ha : n ≠ 0 ∧ m.held.asked n ≠ 0
  · rw [if_pos ha]; exact .inl ⟨ha.2, rfl⟩
  rw [if_neg ha]
  have ha' : n = 0 ∨ m.held.asked n = 0 := by omega
  refine .inr ⟨rfl, by omega, by omega, ha', ⟨h.kl, h.bl, h.old, h.has, h.rise, h.ok.setRoot (by omega) ha', fun e => (by cases e), h.live⟩, rfl, rfl⟩
theorem will_begin {st : StM} {dm : DiskM} (h : Looks st dm) (ho : st.now.Ok) : Grown (seenM st dm) ⟨st.now, [], false, st.dead⟩ ∧ willM (seenM st dm) ⟨st.now, [], false, st.dead⟩ = seenM st dm := by
  have hw : willM (seenM st dm) ⟨st.now, [], false, st.dead⟩ = seenM st dm := by
    unfold willM seenM
    simp only
    congr 1
    · apply List.map_congr_left
      intro i hi
      have hi := List.mem_range.1 hi
      unfold willK
      simp only [getC]
      rw [range_getD _ _ _ _ hi]
      unfold seenK
      split <;> rfl
    · apply List.map_congr_left
      intro i hi
      have hi := List.mem_range.1 hi
      unfold willB
      simp only [getC]
      rw [range_getD _ _ _ _ hi]
      unfold seenB
      split <;> rfl
  refine ⟨⟨by simp [seenM], by simp [seenM], fun i h1 h2 => ?_, fun y hy => (by cases hy), List.Pairwise.nil, ho, fun _ => ⟨rfl, hw⟩, h.lives⟩, hw⟩
  unfold seenM
  simp only
  rw [range_getD _ _ _ _ (mem_low ho h1).2]
  unfold seenK
  have h1 : mem st.now.ws i = true := h1
  rw [if_pos h1]
  simp
theorem commit_lies {st : StM} {dm dm' : DiskM} {m : BtM} {N : Nat} (hg : Grown (seenM st dm) m) (ho : dm.off = false) (ho' : dm'.off = false) (hb : ∀ y ∈ m.has, y.2.2.length ≤ 996) (hN : N = st.count + m.held.n) (hp : m.pages.length ≤ st.count)
    (h1 : st.serial < st.next) (h2 : st.next ≤ 4611686018427387904)
    (hv : ∀ k, k < N → dm'.view k = (DiskM.last (homeL st.count st.next m.pages) k).getD ((DiskM.last (putL 0 st.next m.pages) k).getD (dm.view k))) {i : Nat} (hi : 0 < i) (hin : i < m.held.n) :
    liesM dm' st.count i = match getC i m.has with | some c => (⟨c.1, i, st.next, c.2⟩, 0) | none => liesM dm st.count i := by
  have hr : (m.pages.map (·.number)).Pairwise (· < ·) := by
    unfold BtM.pages
    rw [List.map_cons, List.map_map]
    refine List.pairwise_cons.2 ⟨fun x hx => ?_, hg.rise⟩
    obtain ⟨y, hy, rfl⟩ := List.mem_map.1 hx
    exact (mem_low hg.ok (hg.has y hy)).1
  have hvi := hv (st.count + i) (by omega)
  unfold liesM
  rw [ho, ho', if_neg (by simp), if_neg (by simp), hvi]
  have hput : DiskM.last (putL 0 st.next m.pages) (st.count + i) = none := last_put_high (by omega)
  rw [hput]
  cases hc : getC i m.has with
  | some c =>
    have hmem : (⟨c.1, i, 0, c.2⟩ : PageV) ∈ m.pages ∧ c.2.length ≤ 996 := by
      have key : ∀ l : List (Nat × UInt8 × List UInt8), getC i l = some c → (i, c) ∈ l := by
        intro l
        induction l with
        | nil => intro h; cases h
        | cons y l ih =>
          intro h
          unfold getC at h
          split at h
          · rename_i e; injection h with h; subst h; subst e; exact List.mem_cons_self
          · exact List.mem_cons_of_mem _ (ih h)
      have hk := key _ hc
      exact ⟨List.mem_cons_of_mem _ (List.mem_map.2 ⟨(i, c), hk, rfl⟩), hb _ hk⟩
    have hat := last_home_at (cnt := st.count) (serial := st.next) hr hmem.1
    simp only at hat
    rw [hat, Option.getD_some]
    have hd := dec_home (serial := st.next) (p := ⟨c.1, i, 0, c.2⟩) (by omega) h2 hmem.2
    simp only at hd
    rw [hd]
  | none =>
    have hno : DiskM.last (homeL st.count st.next m.pages) (st.count + i) = none := last_none _ _ fun x hx e => by
      obtain ⟨p, hp, rfl⟩ := List.mem_map.1 hx
      simp only at e
      have hpi : p.number = i := by omega
      unfold BtM.pages at hp
      rcases List.mem_cons.1 hp with rfl | hp
      · have : (0 : Nat) = i := hpi
        omega
      · obtain ⟨y, hy, rfl⟩ := List.mem_map.1 hp
        have hyi : y.1 = i := hpi
        have key : ∀ l : List (Nat × UInt8 × List UInt8), getC i l = none → ∀ y ∈ l, y.1 ≠ i := by
          intro l
          induction l with
          | nil => intro _ y hy; cases hy
          | cons z l ih =>
            intro h y hy
            unfold getC at h
            split at h
            · cases h
            · rename_i e
              rcases List.mem_cons.1 hy with rfl | hy
              · exact e
              · exact ih h y hy
        exact key _ hc y hy hyi
    rw [hno]
    rfl
def StM.done (st : StM) (m : BtM) : StM := { st with now := m.held, serial := st.next, next := st.next + 1 }
theorem commit_seen {st : StM} {dm dm' : DiskM} {m : BtM} {N : Nat} (hl : Looks st dm) (hso : st.now.Ok) (hg : Grown (seenM st dm) m) (ho : dm.off = false) (ho' : dm'.off = false) (hb : ∀ y ∈ m.has, y.2.2.length ≤ 996) (hN : N = st.count + m.held.n) (hp : m.pages.length ≤ st.count)
    (h1 : st.serial < st.next) (h2 : st.next ≤ 4611686018427387904)
    (hv : ∀ k, k < N → dm'.view k = (DiskM.last (homeL st.count st.next m.pages) k).getD ((DiskM.last (putL 0 st.next m.pages) k).getD (dm.view k))) :
    Looks (st.done m) dm' ∧ seenM (st.done m) dm' = willM (seenM st dm) m := by
  have hnn : st.now.n = m.held.n := by have := hg.kl; simpa [seenM] using this
  have old : ∀ i, mem m.held.ws i = true → getC i m.has = none → mem st.now.ws i = true := fun i hm hc => by
    have h := hg.old i hm hc
    unfold seenM at h
    simp only at h
    rw [range_getD _ _ _ _ (by rw [hnn]; exact (mem_low hg.ok hm).2)] at h
    unfold seenK at h
    split at h
    · assumption
    · omega
  have key := fun i (h0 : 0 < i) (hin : i < m.held.n) => commit_lies hg ho ho' hb hN hp h1 h2 hv h0 hin
  refine ⟨⟨hl.lives, fun i hi hm => ?_⟩, ?_⟩
  · have hm : mem m.held.ws i = true := hm
    have hlo := mem_low hg.ok hm
    show (liesM dm' st.count i).2 = 0 ∧ (liesM dm' st.count i).1.number = i ∧ 1 ≤ (liesM dm' st.count i).1.serial ∧ (liesM dm' st.count i).1.serial ≤ st.next
    rw [key i hlo.1 hlo.2]
    cases hc : getC i m.has with
    | some c => exact ⟨rfl, rfl, by show 1 ≤ st.next; omega, Nat.le_refl _⟩
    | none =>
      obtain ⟨a, b, c, d⟩ := hl.lies i (by rw [hnn]; exact hlo.2) (old i hm hc)
      exact ⟨a, b, c, Nat.le_trans d (Nat.le_of_lt h1)⟩
  · unfold willM
    show (⟨(List.range m.held.n).map (seenK (st.done m) dm'), (List.range m.held.n).map (seenB (st.done m) dm'), m.held.root⟩ : SeenM) = _
    congr 1
    · apply List.map_congr_left
      intro i hi
      have hi := List.mem_range.1 hi
      unfold seenK willK
      show (if mem m.held.ws i = true then ((liesM dm' st.count i).1.kind.toNat : Int) else -1) = _
      cases hm : mem m.held.ws i with
      | false => rfl
      | true =>
        rw [if_pos rfl, if_pos rfl, key i (mem_low hg.ok hm).1 hi]
        cases hc : getC i m.has with
        | some c => rfl
        | none =>
          unfold seenM
          simp only
          rw [range_getD _ _ _ _ (by rw [hnn]; exact hi)]
          unfold seenK
          rw [if_pos (old i hm hc)]
    · apply List.map_congr_left
      intro i hi
      have hi := List.mem_range.1 hi
      unfold seenB willB
      show (if mem m.held.ws i = true then (liesM dm' st.count i).1.body else []) = _
      cases hm : mem m.held.ws i with
      | false => rfl
      | true =>
        rw [if_pos rfl, if_pos rfl, key i (mem_low hg.ok hm).1 hi]
        cases hc : getC i m.has with
        | some c => rfl
        | none =>
          unfold seenM
          simp only
          rw [range_getD _ _ _ _ (by rw [hnn]; exact hi)]
          unfold seenB
          rw [if_pos (old i hm hc)]
end Go.Proofs.YtabhieafjkaocaaGreat
