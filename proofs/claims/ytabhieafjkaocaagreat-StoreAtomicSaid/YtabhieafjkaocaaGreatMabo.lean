/- A part. -/
import Derived.Test.YtabhieafjkaocaaGreatMabn
import Derived.Test.YtabhieafjkaocaaGreatMabi
import Derived.Test.YtabhieafjkaocaaGreatMabl
import Derived.Test.YtabhieafjkaocaaGreatMabe
import Derived.StillTailTactics
import Derived.Deep.RegionHeldLaw
import Derived.Deep.QuietTactic
import Derived.BigQuiet
set_option linter.unusedVariables false
set_option linter.unusedSimpArgs false
namespace Go.Proofs.YtabhieafjkaocaaGreat
open Go.RowKit Go.Lib Go.Maps Bm
set_option maxRecDepth 20000
theorem ownsRow_low {w : World} {a b n : Nat} {e : TypeId} {z : Nat} {v : Value} {xs : List Value} (h : w.ownsRow b e z v n xs) (hab : a ≤ b) : w.ownsRow a e z v n xs := by
  refine ⟨h.1, ?_⟩
  rcases h.2 with h | ⟨g, cap, cur, hv, hb, rest⟩
  · exact .inl h
  · exact .inr ⟨g, cap, cur, hv, Nat.le_trans hab hb, rest⟩
def OldB (w : World) (bp : Value) : Prop := bp = .pointer none ∨ ∃ b0 z0 z1 z2 z3 z4 z5 z6 z7 z8 z9 z10 z11 z12, bp = .pointer (some ⟨b0, 0, none⟩) ∧ w.heap[b0]? = some (.cells #[z0, z1, z2, z3, z4, z5, z6, z7, z8, z9, z10, z11, z12] 93 (0, 0))
theorem OldB.kept {M : Nat → Prop} {w w' : World} {bp : Value} (h : OldB w bp) (k : Kept M w w') (hm : ∀ b, bp = .pointer (some ⟨b, 0, none⟩) → ¬ M b) : OldB w' bp := by
  rcases h with h | ⟨b0, z0, z1, z2, z3, z4, z5, z6, z7, z8, z9, z10, z11, z12, h, hh⟩
  · exact .inl h
  · exact .inr ⟨b0, z0, z1, z2, z3, z4, z5, z6, z7, z8, z9, z10, z11, z12, h, k.heap hh (hm b0 h)⟩
theorem BtAt.old {w : World} {b s u : Nat} {v : Value} {hm : Nat} {m : BtM} (h : BtAt w b s u v hm m) : OldB w (.pointer (some ⟨b, 0, none⟩)) := .inr ⟨b, _, _, _, _, _, _, _, _, _, _, _, _, _, rfl, h.head⟩
theorem OldB.not_life {w : World} {bp : Value} (h : OldB w bp) {L : Nat} {cs : Array Value} {t : TypeId} {fr : Nat × Nat} (hL : w.heap[L]? = some (.cells cs t fr)) (ht : t ≠ 93) : bp ≠ .pointer (some ⟨L, 0, none⟩) := by
  rintro rfl
  rcases h with h | ⟨b0, z0, z1, z2, z3, z4, z5, z6, z7, z8, z9, z10, z11, z12, h, hh⟩
  · cases h
  · injection h with h; injection h with h; injection h with h; subst h; exact cells_ne hL hh ht rfl
theorem begin_any (s d u : Nat) (v bp : Value) (m : StM) (w : World) (h : StAt w s d u v bp m) (ho : OldB w bp) :
    Calls Tryz.prog 18 #[.pointer (some ⟨s, 0, none⟩)] w fun e w' => ∃ b u' v' hm, e = .returned (.pointer (some ⟨b, 0, none⟩)) ∧ Kept (fun k => k = s ∨ bp = .pointer (some ⟨k, 0, none⟩)) w w' ∧ StAt w' s d u v (.pointer (some ⟨b, 0, none⟩)) m ∧ BtAt w' b s u' v' hm ⟨m.now, [], false, m.dead⟩ ∧
      w.heap.size ≤ b ∧ w.heap.size ≤ u' ∧ (∀ g, v'.ownBlock = some g → w.heap.size ≤ g) ∧ w.heap.size ≤ hm ∧ (∀ b0 z0 z1 z2 z3 z4 z5 z6 z7 z8 z9 z10 z11 z12, bp = .pointer (some ⟨b0, 0, none⟩) → w.heap[b0]? = some (.cells #[z0, z1, z2, z3, z4, z5, z6, z7, z8, z9, z10, z11, z12] 93 (0, 0)) → w'.heap[b0]? = some (.cells #[z0, z1, z2, z3, z4, z5, z6, z7, z8, z9, z10, z11, .bool true] 93 (0, 0))) := by
  rcases ho with rfl | ⟨b0, z0, z1, z2, z3, z4, z5, z6, z7, z8, z9, z10, z11, z12, rfl, hh⟩
  · refine (begin_none s d u v m w h).mono ?_
    rintro e w' ⟨b, u', v', hm, rfl, q1, q2, q3, q4, q5, q6, q7⟩
    exact ⟨b, u', v', hm, rfl, q1.mono fun _ _ e => .inl e, q2, q3, q4, q5, q6, q7, fun b0 z0 z1 z2 z3 z4 z5 z6 z7 z8 z9 z10 z11 z12 e _ => by cases e⟩
  · refine (begin_some s d u b0 v m z0 z1 z2 z3 z4 z5 z6 z7 z8 z9 z10 z11 z12 w h hh).mono ?_
    rintro e w' ⟨b, u', v', hm, rfl, q1, q2, q3, q4, q5, q6, q7, q8⟩
    refine ⟨b, u', v', hm, rfl, q1.mono fun k _ e => e.elim .inl (fun e => .inr (by rw [e])), q2, q3, q4, q5, q6, q7, fun b1 y0 y1 y2 y3 y4 y5 y6 y7 y8 y9 y10 y11 y12 e hy => ?_⟩
    injection e with e; injection e with e; injection e with e
    subst e
    rw [hh] at hy
    injection hy with hy
    injection hy with hy
    injection hy with hy
    simp only [List.cons.injEq, and_true] at hy
    obtain ⟨rfl, rfl, rfl, rfl, rfl, rfl, rfl, rfl, rfl, rfl, rfl, rfl, rfl⟩ := hy
    exact q8
theorem over_will (d j : Nat) (sv bv wk wb kv' bv' : Value) (r : Root8) (ik ib : Value) (q : Root8) (ser : Nat) (br ok : Bool) : over (lifeC d j sv bv wk wb r ik ib q ser br ok) 4 (seenC kv' bv' q).toList = lifeC d j sv bv kv' bv' q ik ib q ser br ok := rfl
theorem part_is (d j : Nat) (sv bv wk wb : Value) (r : Root8) (ik ib : Value) (q : Root8) (ser : Nat) (br ok : Bool) : ∀ i v, (seenC ik ib q).toList[i]? = some v → (lifeC d j sv bv wk wb r ik ib q ser br ok)[14 + i]? = some v := by
  intro i v h
  match i, h with
  | 0, h | 1, h | 2, h | 3, h | 4, h | 5, h | 6, h | 7, h | 8, h | 9, h => exact h
  | i + 10, h => simp [seenC] at h
set_option maxHeartbeats 8000000 in
theorem lbegin_ok (L d j s us : Nat) (vs bp bv wk wb ik ib : Value) (r : Root8) (ser : Nat) (br : Bool) (st : StM) (is : SeenM) (base : Nat) (si sn : Int) (so : Bool) (sp : UInt8) (sx : List UInt8) (kv : Value) (st0 sc : Int) (w : World)
    (hL : w.heap[L]? = some (.cells (lifeC d j (.pointer (some ⟨s, 0, none⟩)) bv wk wb r ik ib is.root ser br true) 57 (0, 0))) (hS : StAt w s d us vs bp st) (hO : OldB w bp)
    (hI : SeenAt w base ik ib is) (h1 : 0 < is.kind.length) (h2 : is.body.length = is.kind.length) (h3 : is.kind.length ≤ 4096) :
    Calls Tryz.prog 27 #[.pointer (some ⟨L, 0, none⟩), .agg #[.int .i64 1, .int .i64 si, .int .i64 sn, .bool so, .int .u8 (sp.toNat : Int), .string ⟨⟨sx⟩⟩, kv, .int .i64 st0, .int .i64 sc]] w fun e w' => ∃ b u' v' hm wk' wb', e = .returned (.tuple #[]) ∧ Kept (fun k => k = L ∨ k = s ∨ bp = .pointer (some ⟨k, 0, none⟩)) w w' ∧
      w'.heap[L]? = some (.cells (lifeC d j (.pointer (some ⟨s, 0, none⟩)) (.pointer (some ⟨b, 0, none⟩)) wk' wb' is.root ik ib is.root ser br true) 57 (0, 0)) ∧ StAt w' s d us vs (.pointer (some ⟨b, 0, none⟩)) st ∧ BtAt w' b s u' v' hm ⟨st.now, [], false, st.dead⟩ ∧
      w.heap.size ≤ b ∧ w.heap.size ≤ u' ∧ (∀ g, v'.ownBlock = some g → w.heap.size ≤ g) ∧ w.heap.size ≤ hm ∧ SeenAt w' w.heap.size wk' wb' is := by
  have HL := Lib.hid hL
  have HS := Lib.hid hS
  have HO := Lib.hid hO
  have HI := Lib.hid hI
  have HLS : Hid (L ≠ s) := Lib.hid (cells_ne hL hS.head (by decide))
  have HLB := Lib.hid (hO.not_life hL (by decide))
  clear hL hS hO hI
  go_enter Tryz.func27, Tryz.ntmps27
  go_upto_region 1 with fail
  have hX := heap_alloc_new w (.cells #[.int .i64 1, .int .i64 si, .int .i64 sn, .bool so, .int .u8 (sp.toNat : Int), .string ⟨⟨sx⟩⟩, kv, .int .i64 st0, .int .i64 sc] 62)
  have k1 : Kept No w (w.alloc (.cells #[.int .i64 1, .int .i64 si, .int .i64 sn, .bool so, .int .u8 (sp.toNat : Int), .string ⟨⟨sx⟩⟩, kv, .int .i64 st0, .int .i64 sc] 62)) := (Kept.refl _ _).alloc _
  have hL1 := k1.heap HL.out (fun h => h)
  have HS1 := Lib.hid (HS.out.no k1)
  have HO1 := Lib.hid (HO.out.kept k1 (fun _ _ h => h))
  have HI1 := Lib.hid (HI.out.no k1)
  have K1 := Lib.hid k1
  have HSZ1 := Lib.hid k1.size
  generalize (w.alloc (.cells #[.int .i64 1, .int .i64 si, .int .i64 sn, .bool so, .int .u8 (sp.toNat : Int), .string ⟨⟨sx⟩⟩, kv, .int .i64 st0, .int .i64 sc] 62)) = w1 at *
  have x0 : w1.cell? ⟨w.heap.size, 0, none⟩ = some (.int .i64 1) := (cell_of_row w1 _ 0 _ _ _ hX).trans rfl
  have HXL : Hid (w.heap.size ≠ L) := Lib.hid (cells_ne hX hL1 (by decide))
  clear hX
  generalize hXe : w.heap.size = X at *
  have HXE := Lib.hid hXe
  clear hXe
  have l2 : w1.cell? ⟨L, 2, none⟩ = some (.pointer (some ⟨s, 0, none⟩)) := (cell_of_row w1 L 2 _ _ _ hL1).trans rfl
  have HL1 := Lib.hid hL1
  clear hL1 k1
  go_upto_region 8 with (go_at_call 18; refine (begin_any s d us vs bp st w1 HS1.out HO1.out).mono ?_; rintro e w2 ⟨b, u', v', hm, rfl, k2, hs2, hb2, q1, q2, q3, q4, -⟩; have hL2 := k2.heap HL1.out (fun e => e.elim HLS.out HLB.out); have f3' := frozen_of_row w2 L 3 _ _ hL2; have l3' : w2.cell? ⟨L, 3, none⟩ = some bv := (cell_of_row w2 L 3 _ _ _ hL2).trans rfl; have K2 := Lib.hid k2; have HS2 := Lib.hid hs2; have HB2 := Lib.hid hb2; have HL2 := Lib.hid hL2; have HQ := Lib.hid (And.intro q1 (And.intro q2 (And.intro q3 q4))); clear k2 hs2 hb2 hL2 q1 q2 q3 q4)
  have hk3 : Kept (fun y => y = L) w2 (w2.setCell ⟨L, 3, none⟩ (.pointer (some ⟨b, 0, none⟩))) := (Kept.refl _ _).setCell _ _ (fun _ => rfl)
  have hL3 : (w2.setCell ⟨L, 3, none⟩ (.pointer (some ⟨b, 0, none⟩))).heap[L]? = some (.cells (lifeC d j (.pointer (some ⟨s, 0, none⟩)) (.pointer (some ⟨b, 0, none⟩)) wk wb r ik ib is.root ser br true) 57 (0, 0)) := heap_setCell_same w2 L 3 _ _ _ HL2.out
  have hI2 := HI1.out.kept K2.out (fun g hg e => by
    obtain ⟨c, hc⟩ := row_cells HI1.out.kind hg
    rcases e with rfl | e
    · exact cells_ne hc HS1.out.head (by decide) rfl
    · exact HO1.out.not_life hc (by decide) e) (fun g hg e => by
    obtain ⟨c, hc⟩ := row_cells HI1.out.body hg
    rcases e with rfl | e
    · exact cells_ne hc HS1.out.head (by decide) rfl
    · exact HO1.out.not_life hc (by decide) e)
  have hI3 := hI2.kept hk3 (fun g hg e => by subst e; obtain ⟨c, hc⟩ := row_cells hI2.kind hg; exact cells_ne HL2.out hc (by decide) rfl) (fun g hg e => by subst e; obtain ⟨c, hc⟩ := row_cells hI2.body hg; exact cells_ne HL2.out hc (by decide) rfl)
  clear l3' f3' l2 x0
  generalize w2.setCell ⟨L, 3, none⟩ (.pointer (some ⟨b, 0, none⟩)) = w3 at *
  have HK3 := Lib.hid hk3
  have HL3 := Lib.hid hL3
  have HI3 := Lib.hid hI3
  clear hk3 hL3 hI2 hI3
  go_upto_region 9 with (first
    | (refine wpList_load_part (by rfl) 55 (.tmp 40) (by rfl) L 14 (by rfl) _ _ [ik, ib, .int .u32 (is.root.a : Int), .int .u32 (is.root.b : Int), .int .u32 (is.root.c : Int), .int .u32 (is.root.d : Int), .int .u32 (is.root.e : Int), .int .u32 (is.root.f : Int), .int .u32 (is.root.g : Int), .int .u32 (is.root.h : Int)] _ _ HL3.out Tryz.underlying55 (by rfl) (by exact seen_size) (by exact part_is d j _ _ wk wb r ik ib is.root ser br true) ?_)
    | (go_at_call 61; refine (scopied_ok ik ib is base w3 HI3.out h1 h2 h3).mono ?_; rintro e w4 ⟨wk', wb', rfl, k4, hs4⟩; obtain ⟨ka, kc, rfl⟩ := row_slice hs4.kind; obtain ⟨ta, tc, rfl⟩ := row_slice hs4.body; rw [h2] at hs4; have HL4 := Lib.hid (k4.heap HL3.out (fun h => h)); have K4 := Lib.hid k4; have HS4 := Lib.hid hs4; clear k4 hs4)
    | (refine wpList_store_part (by rfl) 55 (.tmp 44) (.tmp 42) (by rfl) L 4 57 (lifeC d j (.pointer (some ⟨s, 0, none⟩)) (.pointer (some ⟨b, 0, none⟩)) wk wb r ik ib is.root ser br true) (seenC (.slice ka is.kind.length kc) (.slice ta is.kind.length tc) is.root) (by rfl) (by rfl) HL4.out (by exact seen_size) (by simp [seenC]) (by simp [seenC, Value.oneCell']) ?_))
  rw [over_will]
  have hL5 := setRow_heap w4 L _ (lifeC d j (.pointer (some ⟨s, 0, none⟩)) (.pointer (some ⟨b, 0, none⟩)) (.slice ka is.kind.length kc) (.slice ta is.kind.length tc) is.root ik ib is.root ser br true) _ _ HL4.out
  have hk5 : Kept (fun y => y = L) w4 (w4.setRow L (lifeC d j (.pointer (some ⟨s, 0, none⟩)) (.pointer (some ⟨b, 0, none⟩)) (.slice ka is.kind.length kc) (.slice ta is.kind.length tc) is.root ik ib is.root ser br true)) := (Kept.refl _ _).setRow _ _ (fun _ => rfl)
  generalize w4.setRow L (lifeC d j (.pointer (some ⟨s, 0, none⟩)) (.pointer (some ⟨b, 0, none⟩)) (.slice ka is.kind.length kc) (.slice ta is.kind.length tc) is.root ik ib is.root ser br true) = w5 at *
  have l3 : w5.cell? ⟨L, 3, none⟩ = some (.pointer (some ⟨b, 0, none⟩)) := (cell_of_row w5 L 3 _ _ _ hL5).trans rfl
  have l26 : w5.cell? ⟨L, 26, none⟩ = some (.bool true) := (cell_of_row w5 L 26 _ _ _ hL5).trans rfl
  have f26 := frozen_of_row w5 L 26 _ _ hL5
  have HL5 := Lib.hid hL5
  have HK5 := Lib.hid hk5
  clear hL5 hk5
  go_wp2_with fail
  go_end0
  have hL6 : (w5.setCell ⟨L, 26, none⟩ (.bool true)).heap[L]? = some (.cells (lifeC d j (.pointer (some ⟨s, 0, none⟩)) (.pointer (some ⟨b, 0, none⟩)) (.slice ka is.kind.length kc) (.slice ta is.kind.length tc) is.root ik ib is.root ser br true) 57 (0, 0)) := heap_setCell_same w5 L 26 _ _ (.bool true) HL5.out
  have k6 : Kept (fun y => y = L) w5 (w5.setCell ⟨L, 26, none⟩ (.bool true)) := (Kept.refl _ _).setCell _ _ (fun _ => rfl)
  obtain ⟨q1, q2, q3, q4⟩ := HQ.out
  have hw1 : w.heap.size ≤ w1.heap.size := Nat.le_trans (Nat.le_of_eq HXE.out) HSZ1.out
  have hsz3 : w.heap.size ≤ w3.heap.size := Nat.le_trans hw1 (Nat.le_trans K2.out.size HK3.out.size)
  have k46 : Kept (fun y => y = L) w3 _ := ((K4.out.of_no _).trans HK5.out).trans k6
  have k36 : Kept (fun y => y = L) w2 _ := HK3.out.trans k46
  have kall : Kept (fun k => k = L ∨ k = s ∨ bp = .pointer (some ⟨k, 0, none⟩)) w _ := ((K1.out.of_no _).trans (K2.out.mono fun _ _ e => .inr e)).trans (k36.mono fun _ _ e => .inl e)
  have hS6 := HS2.out.kept k36 (Ne.symm HLS.out) (fun e => cells_ne HL2.out HS2.out.held.set.head (by decide) e.symm) (fun g hg e => by subst e; obtain ⟨c, hc⟩ := row_cells HS2.out.held.set.row hg; exact cells_ne HL2.out hc (by decide) rfl)
  have hB6 := HB2.out.other k36 (fun y hy => by subst hy; exact ⟨_, _, HL2.out, by decide, by decide, by decide⟩)
  have hW4 := HS4.out
  have hW6 := hW4.kept (HK5.out.trans k6) (fun g hg e => by subst e; obtain ⟨c, hc⟩ := row_cells hW4.kind hg; exact cells_ne HL4.out hc (by decide) rfl) (fun g hg e => by subst e; obtain ⟨c, hc⟩ := row_cells hW4.body hg; exact cells_ne HL4.out hc (by decide) rfl)
  have hW7 : SeenAt _ w.heap.size _ _ is := ⟨ownsRow_low hW6.kind hsz3, ownsRow_low hW6.body hsz3⟩
  have hfin := And.intro hS6 (And.intro hB6 (And.intro (Nat.le_trans hw1 q1) (And.intro (Nat.le_trans hw1 q2) (And.intro (fun g hg => Nat.le_trans hw1 (q3 g hg)) (And.intro (Nat.le_trans hw1 q4) hW7)))))
  first
    | exact ⟨b, u', v', hm, _, _, rfl, kall, hL6, hfin⟩
    | exact ⟨rfl, b, u', v', hm, _, _, kall, hL6, hfin⟩
theorem seen_one (wk wb : Value) (r : Root8) (h1 : wk.oneCell' = true) (h2 : wb.oneCell' = true) : (seenC wk wb r).all (·.oneCell') = true := by
  have hi : ∀ k n, (Value.int k n).oneCell' = true := fun _ _ => rfl
  simp [seenC, h1, h2, hi]
theorem over_is (d j : Nat) (sv bv wk wb : Value) (r : Root8) (ik ib : Value) (q : Root8) (ser : Nat) (br ok : Bool) : over (lifeC d j sv bv wk wb r ik ib q ser br ok) 14 (seenC wk wb r).toList = lifeC d j sv bv wk wb r wk wb r ser br ok := rfl
theorem part_will (d j : Nat) (sv bv wk wb : Value) (r : Root8) (ik ib : Value) (q : Root8) (ser : Nat) (br ok : Bool) : ∀ i v, (seenC wk wb r).toList[i]? = some v → (lifeC d j sv bv wk wb r ik ib q ser br ok)[4 + i]? = some v := by
  intro i v h
  match i, h with
  | 0, h | 1, h | 2, h | 3, h | 4, h | 5, h | 6, h | 7, h | 8, h | 9, h => exact h
  | i + 10, h => simp [seenC] at h
set_option maxHeartbeats 4000000 in
theorem ldrop_ok (L d j : Nat) (sv wk wb ik ib : Value) (r q : Root8) (ser : Nat) (br : Bool) (b s u : Nat) (v : Value) (hm : Nat) (m : BtM) (si sn : Int) (so : Bool) (sp : UInt8) (sx : List UInt8) (kv : Value) (st0 sc : Int) (w : World)
    (hL : w.heap[L]? = some (.cells (lifeC d j sv (.pointer (some ⟨b, 0, none⟩)) wk wb r ik ib q ser br true) 57 (0, 0))) (hB : BtAt w b s u v hm m) :
    Calls Tryz.prog 63 #[.pointer (some ⟨L, 0, none⟩), .agg #[.int .i64 7, .int .i64 si, .int .i64 sn, .bool so, .int .u8 (sp.toNat : Int), .string ⟨⟨sx⟩⟩, kv, .int .i64 st0, .int .i64 sc]] w fun e w' => e = .returned (.tuple #[]) ∧ Kept (fun k => k = L ∨ k = b ∨ k = hm) w w' ∧
      w'.heap[L]? = some (.cells (lifeC d j sv (.pointer none) wk wb r ik ib q ser br true) 57 (0, 0)) ∧ BtAt w' b s u v hm m.drop := by
  have HL := Lib.hid hL
  have HB := Lib.hid hB
  clear hL hB
  go_enter Tryz.func63, Tryz.ntmps63
  go_upto_region 1 with fail
  have hX := heap_alloc_new w (.cells #[.int .i64 7, .int .i64 si, .int .i64 sn, .bool so, .int .u8 (sp.toNat : Int), .string ⟨⟨sx⟩⟩, kv, .int .i64 st0, .int .i64 sc] 62)
  have k1 : Kept No w (w.alloc (.cells #[.int .i64 7, .int .i64 si, .int .i64 sn, .bool so, .int .u8 (sp.toNat : Int), .string ⟨⟨sx⟩⟩, kv, .int .i64 st0, .int .i64 sc] 62)) := (Kept.refl _ _).alloc _
  have hL1 := k1.heap HL.out (fun h => h)
  have HB1 := Lib.hid (HB.out.no k1)
  have K1 := Lib.hid k1
  generalize (w.alloc (.cells #[.int .i64 7, .int .i64 si, .int .i64 sn, .bool so, .int .u8 (sp.toNat : Int), .string ⟨⟨sx⟩⟩, kv, .int .i64 st0, .int .i64 sc] 62)) = w1 at *
  generalize w.heap.size = X at *
  have x0 : w1.cell? ⟨X, 0, none⟩ = some (.int .i64 7) := (cell_of_row w1 X 0 _ _ _ hX).trans rfl
  have l3 : w1.cell? ⟨L, 3, none⟩ = some (.pointer (some ⟨b, 0, none⟩)) := (cell_of_row w1 L 3 _ _ _ hL1).trans rfl
  have HL1 := Lib.hid hL1
  clear hX hL1 k1
  go_wp2_with (go_at_call 13; refine (drop_ok b s u v hm m w1 HB1.out).mono ?_; rintro e w2 ⟨rfl, k2, hb2⟩; have K2 := Lib.hid k2; have HB2 := Lib.hid hb2; obtain ⟨hn1, hn2⟩ : L ≠ b ∧ L ≠ hm := ⟨cells_ne HL1.out HB1.out.head (by decide), (by obtain ⟨D, hD⟩ := HB1.out.has; obtain ⟨es, clock, hh, -⟩ := hD.own; exact map_ne HL1.out hh)⟩; have hL2 := k2.heap HL1.out (fun e => e.elim hn1 hn2); have HL2 := Lib.hid hL2; have l3' : w2.cell? ⟨L, 3, none⟩ = some (.pointer (some ⟨b, 0, none⟩)) := (cell_of_row w2 L 3 _ _ _ hL2).trans rfl; have f3' := frozen_of_row w2 L 3 _ _ hL2; clear hL2 k2 hb2)
  refine bodyPost_ret (results_none rfl _ _ _) rfl ?_
  have hz := heap_setCell_same w2 L 3 _ _ (.pointer none) HL2.out
  have kz : Kept (fun k => k = L) w2 (w2.setCell ⟨L, 3, none⟩ (.pointer none)) := (Kept.refl _ _).setCell _ _ (fun _ => rfl)
  refine ⟨rfl, ((K1.out.of_no _).trans (K2.out.mono fun _ _ e => .inr e)).trans (kz.mono fun _ _ e => .inl e), hz, ⟨kz.heap HB2.out.head (Ne.symm hn1), HB2.out.held.kept kz (fun e => ?_) (fun g hg e => ?_), HB2.out.has.imp fun D hD => hD.kept kz (Ne.symm hn2)⟩⟩
  · exact cells_ne HL2.out HB2.out.held.set.head (by decide) e.symm
  · obtain ⟨cs, hc⟩ := row_cells HB2.out.held.set.row hg
    exact cells_ne HL2.out hc (by decide) e.symm
theorem commit_cases (st : StM) (m : BtM) (dm : DiskM) (hm : m.ended = false) (hc : 1 ≤ st.count) (hc2 : st.count ≤ 199) (hlt : st.serial < st.next) (hcw : m.changed = true → ¬ room (st.count : Int) < m.size → (commitW st m dm).2 = 0) :
    ((commitM st m dm).2.2.2 = 60 ∧ (commitM st m dm) = (st, m, dm, 60) ∧ (st.count : Int) - 1 < (m.size : Int)) ∨
    ((commitM st m dm).2.2.2 = 0 ∧ m.size = 0 ∧ m.changed = false ∧ commitM st m dm = (st, m.drop, dm, 0)) ∨
    ((commitM st m dm).2.2.2 = 0 ∧ 0 < m.size ∧ m.changed = true ∧ m.pages.length ≤ room (st.count : Int) ∧ commitM st m dm = (st.done m, { m with ended := true }, (commitW st m dm).1, 0)) := by
  by_cases h : room (st.count : Int) < m.size
  · have e : commitM st m dm = (st, m, dm, 60) := by unfold commitM; rw [if_neg (by simp [hm]), if_pos h]
    rw [e]
    refine .inl ⟨rfl, rfl, ?_⟩
    unfold room at h
    omega
  · cases hch : m.changed with
    | false =>
      have e : commitM st m dm = (st, m.drop, dm, 0) := by unfold commitM; rw [if_neg (by simp [hm]), if_neg h, if_pos hch]
      rw [e]
      exact .inr (.inl ⟨rfl, by unfold BtM.size; rw [if_pos (by simp [hch])], rfl, rfl⟩)
    | true =>
      have e : commitM st m dm = (st.done m, { m with ended := true }, (commitW st m dm).1, 0) := by
        unfold commitM
        rw [if_neg (by simp [hm]), if_neg h, if_neg (by simp [hch]), if_neg (by rw [hcw hch h]; simp)]
        rfl
      rw [e]
      have hsz : m.size = 1 + m.has.length := by unfold BtM.size; rw [if_neg (by simp [hm, hch])]
      exact .inr (.inr ⟨rfl, by omega, rfl, by have : m.pages.length = m.has.length + 1 := by simp [BtM.pages]
                                               omega, by rw [hch]⟩)
end Go.Proofs.YtabhieafjkaocaaGreat
namespace Go.Proofs.YtabhieafjkaocaaGreat
open Go.RowKit Go.Lib Go.Maps Go.MapKept Go.ChangeMaps Bm
set_option maxRecDepth 20000
set_option maxHeartbeats 4000000 in
theorem commit_same (b s u us hm : Nat) (v vs bp : Value) (x : DiskH) (st : StM) (dm : DiskM) (m : BtM) (w : World) (hb : BtAt w b s u v hm m) (hs : StAt w s x.d us vs bp st) (hx : DiskAt w x dm) (hme : m.ended = false) (hpos : ∀ y ∈ m.has, 0 < y.1) (hf : ¬ x.foot hm)
    (hser : st.next < 4611686018427387904) (hpl : dm.pend.length < 100000) (hcn : st.count ≤ dm.lies.length) (hsame : room (st.count : Int) < m.size ∨ m.changed = false) :
    Calls Tryz.prog 24 #[.pointer (some ⟨b, 0, none⟩)] w fun e w' => ∃ (x' : DiskH) (u' : Nat) (v' : Value), e = .returned (.int .i64 (commitM st m dm).2.2.2) ∧ Kept (fun k => x.foot k ∨ k = s ∨ k = b ∨ k = hm) w w' ∧
      DiskAt w' x' (commitM st m dm).2.2.1 ∧ x'.d = x.d ∧ (∀ g, x'.foot g → x.foot g ∨ w.heap.size ≤ g) ∧ StAt w' s x.d u' v' bp (commitM st m dm).1 ∧ BtAt w' b s u v hm (commitM st m dm).2.1 ∧ (u' = us ∧ v' = vs) := by
  have HSM := Lib.hid hsame
  clear hsame
  have HB := Lib.hid hb
  have HS := Lib.hid hs
  have HX := Lib.hid hx
  have HO := Lib.hid (open_ok b s u v hm m w hb)
  have hlen := hb.len
  have hcnt := hs.count
  have c0 := (cell_of_row w b 0 _ _ _ hb.head).trans rfl
  have sc1 := (cell_of_row w s 1 _ _ _ hs.head).trans rfl
  have hsz := fun q => size_ok b s u v hm m (w.drewN q) (HB.out.no ((Kept.refl No w).drewN q))
  have hrm := fun q => room_ok st.count (w.drewN q) (by omega)
  have hszm : m.size ≤ 4097 := by unfold BtM.size; split <;> omega
  have HE := Lib.hid hme
  clear hb hs hx hme
  generalize hC : commitM st m dm = C
  have HC := Lib.hid hC
  clear hC
  have hrl : room (st.count : Int) ≤ 198 := by unfold room; omega
  generalize hSZ : m.size = SZ at *
  generalize hRM : room (st.count : Int) = RM at *
  have HSZ := Lib.hid hSZ
  have HRM := Lib.hid hRM
  clear hSZ hRM
  by_cases hbig : RM < SZ
  · have e1 : C = (st, m, dm, 60) := by rw [← HC.out]; unfold commitM; rw [if_neg (by simp [HE.out]), if_pos (by rw [HRM.out, HSZ.out]; exact hbig)]
    subst e1
    have hd : decide ((RM : Int) < (SZ : Int)) = true := by simp; omega
    clear HC
    go_enter Tryz.func24, Tryz.ntmps24
    go_wp2_with (go_at_call 43; refine HO.out.mono ?_; rintro e w' ⟨rfl, rfl⟩; rw [show (if m.ended = true then (5 : Int) else 0) = 0 from by rw [HE.out]; rfl])
    go_quiet (first | (go_at_call 20; exact quiet (hsz _)) | (go_at_call 57; exact quiet (hrm _)))
    go_wp2
    go_ret
    have k := (Kept.refl (fun k => x.foot k ∨ k = s ∨ k = b ∨ k = hm) w).drewN nq
    exact ⟨x, us, vs, rfl, k, HX.out.kept ((Kept.refl No w).drewN nq) (fun _ _ h => h), rfl, fun _ h => .inl h, HS.out.no ((Kept.refl No w).drewN nq), HB.out.no ((Kept.refl No w).drewN nq), ⟨rfl, rfl⟩⟩
  have hd : decide ((RM : Int) < (SZ : Int)) = false := by simp; omega
  have HNB : Hid (¬ RM < SZ) := Lib.hid hbig
  clear hbig
  have c11 := (cell_of_row w b 11 _ _ _ HB.out.head).trans rfl
  by_cases hch : m.changed = false
  · have e1 : C = (st, m.drop, dm, 0) := by rw [← HC.out]; unfold commitM; rw [if_neg (by simp [HE.out]), if_neg (by rw [HRM.out, HSZ.out]; exact HNB.out), if_pos hch]
    subst e1
    rw [hch] at c11
    have hdr := fun q => drop_ok b s u v hm m (w.drewN q) (HB.out.no ((Kept.refl No w).drewN q))
    clear HC hch
    go_enter Tryz.func24, Tryz.ntmps24
    go_wp2_with (go_at_call 43; refine HO.out.mono ?_; rintro e w' ⟨rfl, rfl⟩; rw [show (if m.ended = true then (5 : Int) else 0) = 0 from by rw [HE.out]; rfl])
    go_quiet (first | (go_at_call 20; exact quiet (hsz _)) | (go_at_call 57; exact quiet (hrm _)))
    go_wp2_with (go_at_call 13; refine (hdr _).mono ?_; rintro e w1 ⟨rfl, k1, hb1⟩)
    go_ret
    have kq : Kept No w (w.drewN nq) := (Kept.refl No w).drewN nq
    have hsn := HS.out.no kq
    have hn1 : s ≠ b := cells_ne HS.out.head HB.out.head (by decide)
    obtain ⟨D, hD⟩ := HB.out.has
    obtain ⟨es, clock, hmb, -⟩ := hD.own
    have hn2 : s ≠ hm := map_ne HS.out.head hmb
    have hn3 : us ≠ b := cells_ne HS.out.held.set.head HB.out.head (by decide)
    have hn4 : us ≠ hm := map_ne HS.out.held.set.head hmb
    have hn5 : ∀ g, vs.ownBlock = some g → g ≠ b ∧ g ≠ hm := fun g hg => by
      obtain ⟨cs, hc⟩ := row_cells HS.out.held.set.row hg
      exact ⟨cells_ne hc HB.out.head (by decide), map_ne hc hmb⟩
    have hfb : ¬ x.foot b := HX.out.not_foot HB.out.head (by decide) (by decide) (by decide)
    refine ⟨x, us, vs, rfl, (kq.of_no _).trans (k1.mono fun k _ e => e.elim (fun e => .inr (.inr (.inl e))) (fun e => .inr (.inr (.inr e)))), (HX.out.kept kq (fun _ _ h => h)).kept k1 (fun g hg e => e.elim (fun e => hfb (e ▸ hg)) (fun e => hf (e ▸ hg))), rfl, fun _ h => .inl h, hsn.kept k1 (fun e => e.elim hn1 hn2) (fun e => e.elim hn3 hn4) (fun g hg e => e.elim (hn5 g hg).1 (hn5 g hg).2), hb1, ⟨rfl, rfl⟩⟩
  exact absurd HSM.out (fun h => h.elim HNB.out hch)
theorem commit_ok2 (b s u us hm : Nat) (v vs bp : Value) (x : DiskH) (st : StM) (dm : DiskM) (m : BtM) (w : World) (hb : BtAt w b s u v hm m) (hs : StAt w s x.d us vs bp st) (hx : DiskAt w x dm) (hme : m.ended = false) (hpos : ∀ y ∈ m.has, 0 < y.1) (hf : ¬ x.foot hm)
    (hser : st.next < 4611686018427387904) (hpl : dm.pend.length < 100000) (hcn : st.count ≤ dm.lies.length) :
    Calls Tryz.prog 24 #[.pointer (some ⟨b, 0, none⟩)] w fun e w' => ∃ (x' : DiskH) (u' : Nat) (v' : Value), e = .returned (.int .i64 (commitM st m dm).2.2.2) ∧ Kept (fun k => x.foot k ∨ k = s ∨ k = b ∨ k = hm) w w' ∧
      DiskAt w' x' (commitM st m dm).2.2.1 ∧ x'.d = x.d ∧ (∀ g, x'.foot g → x.foot g ∨ w.heap.size ≤ g) ∧ StAt w' s x.d u' v' bp (commitM st m dm).1 ∧ BtAt w' b s u v hm (commitM st m dm).2.1 ∧ ((u' = us ∧ v' = vs) ∨ (u' = u ∧ v' = v ∧ ¬ (room (st.count : Int) < m.size ∨ m.changed = false))) := by
  by_cases hs0 : room (st.count : Int) < m.size ∨ m.changed = false
  · refine (commit_same b s u us hm v vs bp x st dm m w hb hs hx hme hpos hf hser hpl hcn hs0).mono ?_
    rintro e w' ⟨x', u', v', h1, h2, h3, h4, h5, h6, h7, h8⟩
    exact ⟨x', u', v', h1, h2, h3, h4, h5, h6, h7, .inl h8⟩
  · refine (commit_ok b s u us hm v vs bp x st dm m w hb hs hx hme hpos hf hser hpl hcn).mono ?_
    rintro e w' ⟨x', u', v', h1, h2, h3, h4, h5, h6, h7, h8⟩
    refine ⟨x', u', v', h1, h2, h3, h4, h5, h6, h7, h8.imp id fun h => ⟨h.1, h.2, hs0⟩⟩
end Go.Proofs.YtabhieafjkaocaaGreat
namespace Go.Proofs.YtabhieafjkaocaaGreat
open Go.RowKit Go.Lib Go.Maps Bm
set_option maxRecDepth 20000
set_option maxHeartbeats 8000000 in
theorem lcommit_ok (L j us : Nat) (vs bp wk wb ik ib : Value) (r q : Root8) (br : Bool) (b s u : Nat) (v : Value) (hm : Nat) (x : DiskH) (st : StM) (dm : DiskM) (m : BtM) (si sn : Int) (so : Bool) (sp : UInt8) (sx : List UInt8) (kv : Value) (st0 sc : Int) (w : World)
    (hL : w.heap[L]? = some (.cells (lifeC x.d j (.pointer (some ⟨s, 0, none⟩)) (.pointer (some ⟨b, 0, none⟩)) wk wb r ik ib q st.serial br true) 57 (0, 0)))
    (hB : BtAt w b s u v hm m) (hS : StAt w s x.d us vs bp st) (hX : DiskAt w x dm) (hme : m.ended = false) (hpos : ∀ y ∈ m.has, 0 < y.1) (hf : ¬ x.foot hm) (hser : st.next < 4611686018427387904) (hpl : dm.pend.length < 100000) (hcn : st.count ≤ dm.lies.length)
    (hwk : wk.oneCell' = true) (hwb : wb.oneCell' = true) (hj : j = st.count) (hj2 : j ≤ 199) (hcw : m.changed = true → ¬ room (st.count : Int) < m.size → (commitW st m dm).2 = 0) :
    Calls Tryz.prog 63 #[.pointer (some ⟨L, 0, none⟩), .agg #[.int .i64 6, .int .i64 si, .int .i64 sn, .bool so, .int .u8 (sp.toNat : Int), .string ⟨⟨sx⟩⟩, kv, .int .i64 st0, .int .i64 sc]] w fun e w' => ∃ (x' : DiskH) (u' : Nat) (v' : Value), e = .returned (.tuple #[]) ∧ Kept (fun k => x.foot k ∨ k = s ∨ k = b ∨ k = hm ∨ k = L) w w' ∧
      DiskAt w' x' (commitM st m dm).2.2.1 ∧ x'.d = x.d ∧ (∀ g, x'.foot g → x.foot g ∨ w.heap.size ≤ g) ∧ StAt w' s x.d u' v' bp (commitM st m dm).1 ∧ BtAt w' b s u v hm (commitM st m dm).2.1 ∧ ((u' = us ∧ v' = vs) ∨ (u' = u ∧ v' = v ∧ ¬ (room (st.count : Int) < m.size ∨ m.changed = false))) ∧
      w'.heap[L]? = some (.cells (if (commitM st m dm).2.2.2 = 60 then lifeC x.d j (.pointer (some ⟨s, 0, none⟩)) (.pointer (some ⟨b, 0, none⟩)) wk wb r ik ib q st.serial br true else lifeC x.d j (.pointer (some ⟨s, 0, none⟩)) (.pointer none) wk wb r wk wb r (commitM st m dm).1.serial br true) 57 (0, 0)) := by
  have HONE : Hid ((seenC wk wb r).all (·.oneCell') = true) := Lib.hid (seen_one wk wb r hwk hwb)
  clear hwk hwb
  have hcnt := hS.count
  have hcases : ((commitM st m dm).2.2.2 = 60 ∧ True ∧ (st.count : Int) - 1 < (m.size : Int)) ∨ ((commitM st m dm).2.2.2 = 0 ∧ ((m.size = 0 ∧ (commitM st m dm).1.serial = st.serial) ∨ (0 < m.size ∧ st.serial < (commitM st m dm).1.serial)) ∧ True) := by
    rcases commit_cases st m dm hme (by omega) (by omega) hS.next.1 hcw with ⟨h1, h2, h3⟩ | ⟨h1, h2, h3, h4⟩ | ⟨h1, h2, h3, h4, h5⟩
    · exact .inl ⟨h1, trivial, h3⟩
    · exact .inr ⟨h1, .inl ⟨h2, by rw [h4]⟩, trivial⟩
    · exact .inr ⟨h1, .inr ⟨h2, by rw [h5]; exact hS.next.1⟩, trivial⟩
  have hco := fun w' (k : Kept No w w') => commit_ok2 b s u us hm v vs bp x st dm m w' (hB.no k) (hS.no k) (hX.kept k (fun _ _ h => h)) hme hpos hf hser hpl hcn
  have hsz := fun w' (k : Kept No w w') => size_ok b s u v hm m w' (hB.no k)
  have hszm : m.size ≤ 4097 := by have := hB.len; unfold BtM.size; split <;> omega
  have hfL : ¬ x.foot L := hX.not_foot hL (by decide) (by decide) (by decide)
  have n1 : L ≠ s := cells_ne hL hS.head (by decide)
  have n2 : L ≠ b := cells_ne hL hB.head (by decide)
  have n3 : L ≠ hm := by obtain ⟨D, hD⟩ := hB.has; obtain ⟨es, clock, hh, -⟩ := hD.own; exact map_ne hL hh
  generalize hALT : (¬ (room (st.count : Int) < m.size ∨ m.changed = false)) = ALTP at hco ⊢
  clear hALT
  generalize hC : commitM st m dm = C at *
  obtain ⟨stc, mc, dmc, ans⟩ := C
  simp only at hcases hco ⊢
  have HCO := Lib.hid hco
  have HSZ := Lib.hid hsz
  have HL := Lib.hid hL
  have HB := Lib.hid hB
  have HS := Lib.hid hS
  have HX := Lib.hid hX
  have HFL := Lib.hid hfL
  have HN1 := Lib.hid n1
  have HN2 := Lib.hid n2
  have HN3 := Lib.hid n3
  have hwj : IntKind.i64.wrap ((j : Int) - 1) = (j : Int) - 1 := by rw [IntKind.wrap_i64]; omega
  have HJ := Lib.hid hj
  have HCS := Lib.hid hcases
  clear hL hB hS hX hco hsz hC hcases hfL n1 n2 n3 hj hcw hpos hf hcn hpl hme
  go_enter Tryz.func63, Tryz.ntmps63
  go_upto_region 1 with fail
  have hX0 := heap_alloc_new w (.cells #[.int .i64 6, .int .i64 si, .int .i64 sn, .bool so, .int .u8 (sp.toNat : Int), .string ⟨⟨sx⟩⟩, kv, .int .i64 st0, .int .i64 sc] 62)
  have k1 : Kept No w (w.alloc (.cells #[.int .i64 6, .int .i64 si, .int .i64 sn, .bool so, .int .u8 (sp.toNat : Int), .string ⟨⟨sx⟩⟩, kv, .int .i64 st0, .int .i64 sc] 62)) := (Kept.refl _ _).alloc _
  have hL1 := k1.heap HL.out (fun h => h)
  have HB1 := Lib.hid (HB.out.no k1)
  have HS1 := Lib.hid (HS.out.no k1)
  have K1 := Lib.hid k1
  have HSIZE := Lib.hid k1.size
  generalize (w.alloc (.cells #[.int .i64 6, .int .i64 si, .int .i64 sn, .bool so, .int .u8 (sp.toNat : Int), .string ⟨⟨sx⟩⟩, kv, .int .i64 st0, .int .i64 sc] 62)) = w1 at *
  have x0 : w1.cell? ⟨w.heap.size, 0, none⟩ = some (.int .i64 6) := (cell_of_row w1 _ 0 _ _ _ hX0).trans rfl
  generalize w.heap.size = X at *
  have l3 : w1.cell? ⟨L, 3, none⟩ = some (.pointer (some ⟨b, 0, none⟩)) := (cell_of_row w1 L 3 _ _ _ hL1).trans rfl
  have HL1 := Lib.hid hL1
  clear hX0 hL1 k1
  have hfar : ∀ {w2 : World}, Kept (fun k => x.foot k ∨ k = s ∨ k = b ∨ k = hm) w1 w2 → w2.heap[L]? = some (.cells (lifeC x.d j (.pointer (some ⟨s, 0, none⟩)) (.pointer (some ⟨b, 0, none⟩)) wk wb r ik ib q st.serial br true) 57 (0, 0)) := fun k2 => k2.heap HL1.out (fun e => e.elim HFL.out (fun e => e.elim HN1.out (fun e => e.elim HN2.out HN3.out)))
  have HFAR := Lib.hid (fun w2 (k2 : Kept (fun k => x.foot k ∨ k = s ∨ k = b ∨ k = hm) w1 w2) => hfar k2)
  clear hfar
  have hfar2 : ∀ (w2 w3 : World) (x' : DiskH) (u' : Nat) (v' : Value), DiskAt w2 x' dmc → StAt w2 s x.d u' v' bp stc → BtAt w2 b s u v hm mc → ∀ cs, w2.heap[L]? = some (.cells cs 57 (0, 0)) → Kept (fun k => k = L) w2 w3 → DiskAt w3 x' dmc ∧ StAt w3 s x.d u' v' bp stc ∧ BtAt w3 b s u v hm mc := by
    intro w2 w3 x' u' v' hd hs hb cs hl k
    refine ⟨hd.kept k (fun g hg e => by subst e; exact hd.not_foot hl (by decide) (by decide) (by decide) hg), hs.kept k (cells_ne hs.head hl (by decide)) (cells_ne hs.held.set.head hl (by decide)) (fun g hg e => by subst e; obtain ⟨c, hc⟩ := row_cells hs.held.set.row hg; exact cells_ne hl hc (by decide) rfl), hb.other k (fun y hy => by subst hy; exact ⟨_, _, hl, by decide, by decide, by decide⟩)⟩
  have HFAR2 := Lib.hid hfar2
  clear hfar2
  rcases HCS.out with ⟨rfl, hce, hgt⟩ | ⟨rfl, hsz0, hce⟩
  · have hd1 : decide ((j : Int) - 1 < (m.size : Int)) = true := by have := HJ.out; simp; omega
    generalize m.size = SZ at *
    go_wp2_with (first
      | (go_at_call 20; refine (HSZ.out _ K1.out).mono ?_; rintro e w2 ⟨rfl, rfl⟩)
      | (go_at_call 24; refine (HCO.out _ K1.out).mono ?_; rintro e w2 ⟨x', u', v', rfl, k2, hd2, hx2, hf2, hs2, hb2, ha2⟩; have hL2 := HFAR.out _ k2; have l1' : w2.cell? ⟨L, 1, none⟩ = some (.int .i64 (j : Int)) := (cell_of_row w2 L 1 _ _ _ hL2).trans rfl; have l26' : w2.cell? ⟨L, 26, none⟩ = some (.bool true) := (cell_of_row w2 L 26 _ _ _ hL2).trans rfl; have f26' := frozen_of_row w2 L 26 _ _ hL2; have HL2 := Lib.hid hL2; have HP := Lib.hid (And.intro k2 (And.intro hd2 (And.intro hx2 (And.intro hf2 (And.intro hs2 (And.intro hb2 ha2)))))); clear hL2 k2 hd2 hx2 hf2 hs2 hb2 ha2))
    refine bodyPost_ret (results_none rfl _ _ _) rfl ?_
    obtain ⟨k2, hd2, hx2, hf2, hs2, hb2, ha2⟩ := HP.out
    have hL3 : (w2.setCell ⟨L, 26, none⟩ (.bool true)).heap[L]? = some (.cells (lifeC x.d j (.pointer (some ⟨s, 0, none⟩)) (.pointer (some ⟨b, 0, none⟩)) wk wb r ik ib q st.serial br true) 57 (0, 0)) := heap_setCell_same w2 L 26 _ _ (.bool true) HL2.out
    have k3 : Kept (fun y => y = L) w2 (w2.setCell ⟨L, 26, none⟩ (.bool true)) := (Kept.refl _ _).setCell _ _ (fun _ => rfl)
    obtain ⟨a1, a2, a3⟩ := HFAR2.out _ _ _ _ _ hd2 hs2 hb2 _ HL2.out k3
    have kall : Kept (fun k => x.foot k ∨ k = s ∨ k = b ∨ k = hm ∨ k = L) w _ := ((K1.out.of_no _).trans (k2.mono fun _ _ e => by rcases e with e | e | e | e <;> simp [e])).trans (k3.mono fun _ _ e => by simp [e])
    have hf3 : ∀ g, x'.foot g → x.foot g ∨ w.heap.size ≤ g := fun g hg => (hf2 g hg).imp id (fun h => Nat.le_trans K1.out.size h)
    first
      | exact ⟨x', u', v', rfl, kall, a1, hx2, hf3, a2, a3, ha2, hL3⟩
      | exact ⟨rfl, kall, x', u', v', a1, hx2, hf3, a2, a3, ha2, hL3⟩
      | exact ⟨rfl, kall, x', a1, hx2, hf3, u', v', a2, a3, ha2, hL3⟩
      | exact ⟨rfl, kall, x', a1, hx2, hf3, a3, hL3, u', v', a2, ha2⟩
      | exact ⟨rfl, kall, a3, hL3, x', a1, hx2, hf3, u', v', a2, ha2⟩
  · have hser0 : decide (0 < (0 : Int)) = false := by decide
    rcases hsz0 with ⟨hs0, hse⟩ | ⟨hs0, hse⟩
    all_goals
      generalize m.size = SZ at *
      generalize hSer : stc.serial = ser at *
      have HSer := Lib.hid hSer
      clear hSer
    · subst hs0 hse
      go_upto_region 9 with (first
        | (go_at_call 20; refine (HSZ.out _ K1.out).mono ?_; rintro e w2 ⟨rfl, rfl⟩)
        | (go_at_call 24; refine (HCO.out _ K1.out).mono ?_; rintro e w2 ⟨x', u', v', rfl, k2, hd2, hx2, hf2, hs2, hb2, ha2⟩; have hL2 := HFAR.out _ k2; have l3' : w2.cell? ⟨L, 3, none⟩ = some (.pointer (some ⟨b, 0, none⟩)) := (cell_of_row w2 L 3 _ _ _ hL2).trans rfl; have f3' := frozen_of_row w2 L 3 _ _ hL2; have HL2 := Lib.hid hL2; have HP := Lib.hid (And.intro k2 (And.intro hd2 (And.intro hx2 (And.intro hf2 (And.intro hs2 (And.intro hb2 ha2)))))); clear hL2 k2 hd2 hx2 hf2 hs2 hb2 ha2))
      have b1 : ((0 : Int) == 0) = true := by decide
      obtain ⟨k2, hd2, hx2, hf2, hs2, hb2, ha2⟩ := HP.out
      have hL3 : (w2.setCell ⟨L, 3, none⟩ (.pointer none)).heap[L]? = some (.cells (lifeC x.d j (.pointer (some ⟨s, 0, none⟩)) (.pointer none) wk wb r ik ib q st.serial br true) 57 (0, 0)) := heap_setCell_same w2 L 3 _ _ (.pointer none) HL2.out
      have k3 : Kept (fun y => y = L) w2 (w2.setCell ⟨L, 3, none⟩ (.pointer none)) := (Kept.refl _ _).setCell _ _ (fun _ => rfl)
      obtain ⟨a1, a2, a3⟩ := HFAR2.out _ _ _ _ _ hd2 hs2 hb2 _ HL2.out k3
      clear l3' f3'
      generalize w2.setCell ⟨L, 3, none⟩ (.pointer none) = w3 at *
      have HA1 := Lib.hid a1
      have HA2 := Lib.hid a2
      have HA3 := Lib.hid a3
      have HL3 := Lib.hid hL3
      have K23 : Hid (Kept (fun k => x.foot k ∨ k = s ∨ k = b ∨ k = hm ∨ k = L) w w3) := Lib.hid (((K1.out.of_no _).trans (k2.mono fun _ _ e => by rcases e with e | e | e | e <;> simp [e])).trans (k3.mono fun _ _ e => by simp [e]))
      have HHX := Lib.hid (And.intro hx2 (And.intro (fun g hg => (hf2 g hg).imp id (fun h => Nat.le_trans K1.out.size h) : ∀ g, x'.foot g → x.foot g ∨ w.heap.size ≤ g) ha2))
      have l2 : w3.cell? ⟨L, 2, none⟩ = some (.pointer (some ⟨s, 0, none⟩)) := (cell_of_row w3 L 2 _ _ _ hL3).trans rfl
      have l24 : w3.cell? ⟨L, 24, none⟩ = some (.int .u64 (st.serial : Int)) := (cell_of_row w3 L 24 _ _ _ hL3).trans rfl
      have l26 : w3.cell? ⟨L, 26, none⟩ = some (.bool true) := (cell_of_row w3 L 26 _ _ _ hL3).trans rfl
      have f26 := frozen_of_row w3 L 26 _ _ hL3
      clear k2 hd2 hx2 hf2 hs2 hb2 ha2 hL3 k3 a1 a2 a3
      go_upto_region 10 with fail
      have l2i : ∀ p : InC (Kept No w3), p.world.cell? ⟨L, 2, none⟩ = some (.pointer (some ⟨s, 0, none⟩)) := fun p => (cell_of_row _ L 2 _ _ _ (p.here.heap HL3.out (fun h => h))).trans rfl
      have l24i : ∀ p : InC (Kept No w3), p.world.cell? ⟨L, 24, none⟩ = some (.int .u64 (st.serial : Int)) := fun p => (cell_of_row _ L 24 _ _ _ (p.here.heap HL3.out (fun h => h))).trans rfl
      have HSE : Hid (∀ w', Kept No w3 w' → Calls Tryz.prog 16 #[.pointer (some ⟨s, 0, none⟩)] w' fun e w'' => e = .returned (.int .u64 (st.serial : Int)) ∧ Kept No w' w'') := Lib.hid (fun w' k => by
        have h := serial_ok s x.d u' v' bp stc w' (HA2.out.no k)
        rw [HSer.out] at h
        exact h.mono fun e w'' he => ⟨he.1, by rw [← he.2]; exact Kept.refl _ _⟩)
      clear l2 l24 l26 f26
      refine wp_region_in_tail (Kept No w3) 33 (by kernel_rfl) (by kernel_rfl) ((Kept.refl _ _).drew) ?_
      simp only [List.take_succ_cons, List.take_zero, List.drop_succ_cons, List.drop_zero]
      repeat (go_big_quiet_step (first | (go_at_call 16; exact in_kept (HSE.out _ (InC.here _)))))
      refine wpQuiet_nil ?_
      intro w8 hw'
      obtain ⟨⟨wx, k8⟩, hw''⟩ := hw'
      change w8 = wx at hw''
      subst hw''
      have hL8 := k8.heap HL3.out (fun h => h)
      have l26 : w8.cell? ⟨L, 26, none⟩ = some (.bool true) := (cell_of_row w8 L 26 _ _ _ hL8).trans rfl
      have f26 := frozen_of_row w8 L 26 _ _ hL8
      have HL8 := Lib.hid hL8
      have K8 := Lib.hid k8
      clear hL8 k8 l2i l24i
      go_upto_region 11 with fail
      have hL9 : (w8.setCell ⟨L, 26, none⟩ (.bool true)).heap[L]? = some (.cells (lifeC x.d j (.pointer (some ⟨s, 0, none⟩)) (.pointer none) wk wb r ik ib q st.serial br true) 57 (0, 0)) := heap_setCell_same w8 L 26 _ _ (.bool true) HL8.out
      have K9 : Hid (Kept (fun y => y = L) w3 (w8.setCell ⟨L, 26, none⟩ (.bool true))) := Lib.hid ((K8.out.of_no _).trans ((Kept.refl (fun y => y = L) w8).setCell _ _ (fun _ => rfl)))
      clear l26 f26
      generalize w8.setCell ⟨L, 26, none⟩ (.bool true) = w9 at *
      have HL9 := Lib.hid hL9
      clear hL9
      go_upto_region 12 with (first
        | (refine wpList_load_part (by rfl) 55 (.tmp 80) (by rfl) L 4 (by rfl) _ _ [wk, wb, .int .u32 (r.a : Int), .int .u32 (r.b : Int), .int .u32 (r.c : Int), .int .u32 (r.d : Int), .int .u32 (r.e : Int), .int .u32 (r.f : Int), .int .u32 (r.g : Int), .int .u32 (r.h : Int)] _ _ HL9.out Tryz.underlying55 (by rfl) (by exact seen_size) (by exact part_will x.d j _ _ wk wb r ik ib q st.serial br true) ?_)
        | (refine wpList_store_part (by rfl) 55 (.tmp 83) (.tmp 81) (by rfl) L 14 57 (lifeC x.d j (.pointer (some ⟨s, 0, none⟩)) (.pointer none) wk wb r ik ib q st.serial br true) (seenC wk wb r) (by rfl) (by rfl) HL9.out (by exact seen_size) (by simp [seenC]) HONE.out ?_))
      rw [over_is]
      have hL10 := setRow_heap w9 L _ (lifeC x.d j (.pointer (some ⟨s, 0, none⟩)) (.pointer none) wk wb r wk wb r st.serial br true) _ _ HL9.out
      have K10 : Hid (Kept (fun y => y = L) w3 (w9.setRow L (lifeC x.d j (.pointer (some ⟨s, 0, none⟩)) (.pointer none) wk wb r wk wb r st.serial br true))) := Lib.hid (K9.out.trans ((Kept.refl (fun y => y = L) w9).setRow _ _ (fun _ => rfl)))
      generalize w9.setRow L (lifeC x.d j (.pointer (some ⟨s, 0, none⟩)) (.pointer none) wk wb r wk wb r st.serial br true) = w10 at *
      have l2 : w10.cell? ⟨L, 2, none⟩ = some (.pointer (some ⟨s, 0, none⟩)) := (cell_of_row w10 L 2 _ _ _ hL10).trans rfl
      have l24 : w10.cell? ⟨L, 24, none⟩ = some (.int .u64 (st.serial : Int)) := (cell_of_row w10 L 24 _ _ _ hL10).trans rfl
      have f24 := frozen_of_row w10 L 24 _ _ hL10
      have HL10 := Lib.hid hL10
      have HS10 := Lib.hid (HFAR2.out _ _ _ _ _ HA1.out HA2.out HA3.out _ HL3.out K10.out).2.1
      clear hL10
      go_wp2_with (go_at_call 16; refine (serial_ok s x.d u' v' bp stc w10 HS10.out).mono ?_; rintro e w' ⟨rfl, rfl⟩; rw [HSer.out])
      refine bodyPost_ret (results_none rfl _ _ _) rfl ?_
      have hLF := heap_setCell_same w10 L 24 _ _ (.int .u64 (st.serial : Int)) HL10.out
      have hLF' : (w10.setCell ⟨L, 24, none⟩ (.int .u64 (st.serial : Int))).heap[L]? = some (.cells (lifeC x.d j (.pointer (some ⟨s, 0, none⟩)) (.pointer none) wk wb r wk wb r st.serial br true) 57 (0, 0)) := hLF
      have kF : Kept (fun y => y = L) w3 (w10.setCell ⟨L, 24, none⟩ (.int .u64 (st.serial : Int))) := K10.out.trans ((Kept.refl (fun y => y = L) w10).setCell _ _ (fun _ => rfl))
      obtain ⟨c1, c2, c3⟩ := HFAR2.out _ _ _ _ _ HA1.out HA2.out HA3.out _ HL3.out kF
      obtain ⟨hx2, hf3, ha2⟩ := HHX.out
      have kall : Kept (fun k => x.foot k ∨ k = s ∨ k = b ∨ k = hm ∨ k = L) w _ := K23.out.trans (kF.mono fun _ _ e => by simp [e])
      rw [HSer.out]
      first
        | exact ⟨x', u', v', rfl, kall, c1, hx2, hf3, c2, c3, ha2, hLF'⟩
        | exact ⟨rfl, kall, x', u', v', c1, hx2, hf3, c2, c3, ha2, hLF'⟩
        | exact ⟨rfl, kall, x', c1, hx2, hf3, u', v', c2, c3, ha2, hLF'⟩
        | exact ⟨rfl, kall, x', c1, hx2, hf3, c3, hLF', u', v', c2, ha2⟩
        | exact ⟨rfl, kall, c3, hLF', x', c1, hx2, hf3, u', v', c2, ha2⟩
    · have b1 : ((SZ : Int) == 0) = false := by rw [beq_eq_false_iff_ne]; omega
      have b2 : decide ((0 : Int) < (SZ : Int)) = true := by simp; omega
      have b3 : decide ((st.serial : Int) < (ser : Int)) = true := by simp; omega
      go_upto_region 9 with (first
        | (go_at_call 20; refine (HSZ.out _ K1.out).mono ?_; rintro e w2 ⟨rfl, rfl⟩)
        | (go_at_call 24; refine (HCO.out _ K1.out).mono ?_; rintro e w2 ⟨x', u', v', rfl, k2, hd2, hx2, hf2, hs2, hb2, ha2⟩; have hL2 := HFAR.out _ k2; have l3' : w2.cell? ⟨L, 3, none⟩ = some (.pointer (some ⟨b, 0, none⟩)) := (cell_of_row w2 L 3 _ _ _ hL2).trans rfl; have f3' := frozen_of_row w2 L 3 _ _ hL2; have HL2 := Lib.hid hL2; have HP := Lib.hid (And.intro k2 (And.intro hd2 (And.intro hx2 (And.intro hf2 (And.intro hs2 (And.intro hb2 ha2)))))); clear hL2 k2 hd2 hx2 hf2 hs2 hb2 ha2))
      have b1 : ((0 : Int) == 0) = true := by decide
      obtain ⟨k2, hd2, hx2, hf2, hs2, hb2, ha2⟩ := HP.out
      have hL3 : (w2.setCell ⟨L, 3, none⟩ (.pointer none)).heap[L]? = some (.cells (lifeC x.d j (.pointer (some ⟨s, 0, none⟩)) (.pointer none) wk wb r ik ib q st.serial br true) 57 (0, 0)) := heap_setCell_same w2 L 3 _ _ (.pointer none) HL2.out
      have k3 : Kept (fun y => y = L) w2 (w2.setCell ⟨L, 3, none⟩ (.pointer none)) := (Kept.refl _ _).setCell _ _ (fun _ => rfl)
      obtain ⟨a1, a2, a3⟩ := HFAR2.out _ _ _ _ _ hd2 hs2 hb2 _ HL2.out k3
      clear l3' f3'
      generalize w2.setCell ⟨L, 3, none⟩ (.pointer none) = w3 at *
      have HA1 := Lib.hid a1
      have HA2 := Lib.hid a2
      have HA3 := Lib.hid a3
      have HL3 := Lib.hid hL3
      have K23 : Hid (Kept (fun k => x.foot k ∨ k = s ∨ k = b ∨ k = hm ∨ k = L) w w3) := Lib.hid (((K1.out.of_no _).trans (k2.mono fun _ _ e => by rcases e with e | e | e | e <;> simp [e])).trans (k3.mono fun _ _ e => by simp [e]))
      have HHX := Lib.hid (And.intro hx2 (And.intro (fun g hg => (hf2 g hg).imp id (fun h => Nat.le_trans K1.out.size h) : ∀ g, x'.foot g → x.foot g ∨ w.heap.size ≤ g) ha2))
      have l2 : w3.cell? ⟨L, 2, none⟩ = some (.pointer (some ⟨s, 0, none⟩)) := (cell_of_row w3 L 2 _ _ _ hL3).trans rfl
      have l24 : w3.cell? ⟨L, 24, none⟩ = some (.int .u64 (st.serial : Int)) := (cell_of_row w3 L 24 _ _ _ hL3).trans rfl
      have l26 : w3.cell? ⟨L, 26, none⟩ = some (.bool true) := (cell_of_row w3 L 26 _ _ _ hL3).trans rfl
      have f26 := frozen_of_row w3 L 26 _ _ hL3
      clear k2 hd2 hx2 hf2 hs2 hb2 ha2 hL3 k3 a1 a2 a3
      go_upto_region 10 with fail
      have l2i : ∀ p : InC (Kept No w3), p.world.cell? ⟨L, 2, none⟩ = some (.pointer (some ⟨s, 0, none⟩)) := fun p => (cell_of_row _ L 2 _ _ _ (p.here.heap HL3.out (fun h => h))).trans rfl
      have l24i : ∀ p : InC (Kept No w3), p.world.cell? ⟨L, 24, none⟩ = some (.int .u64 (st.serial : Int)) := fun p => (cell_of_row _ L 24 _ _ _ (p.here.heap HL3.out (fun h => h))).trans rfl
      have HSE : Hid (∀ w', Kept No w3 w' → Calls Tryz.prog 16 #[.pointer (some ⟨s, 0, none⟩)] w' fun e w'' => e = .returned (.int .u64 (ser : Int)) ∧ Kept No w' w'') := Lib.hid (fun w' k => by
        have h := serial_ok s x.d u' v' bp stc w' (HA2.out.no k)
        rw [HSer.out] at h
        exact h.mono fun e w'' he => ⟨he.1, by rw [← he.2]; exact Kept.refl _ _⟩)
      clear l2 l24 l26 f26
      refine wp_region_in_tail (Kept No w3) 33 (by kernel_rfl) (by kernel_rfl) ((Kept.refl _ _).drew) ?_
      simp only [List.take_succ_cons, List.take_zero, List.drop_succ_cons, List.drop_zero]
      repeat (go_big_quiet_step (first | (go_at_call 16; exact in_kept (HSE.out _ (InC.here _)))))
      refine wpQuiet_nil ?_
      intro w8 hw'
      obtain ⟨⟨wx, k8⟩, hw''⟩ := hw'
      change w8 = wx at hw''
      subst hw''
      have hL8 := k8.heap HL3.out (fun h => h)
      have l26 : w8.cell? ⟨L, 26, none⟩ = some (.bool true) := (cell_of_row w8 L 26 _ _ _ hL8).trans rfl
      have f26 := frozen_of_row w8 L 26 _ _ hL8
      have HL8 := Lib.hid hL8
      have K8 := Lib.hid k8
      clear hL8 k8 l2i l24i
      go_upto_region 11 with fail
      have hL9 : (w8.setCell ⟨L, 26, none⟩ (.bool true)).heap[L]? = some (.cells (lifeC x.d j (.pointer (some ⟨s, 0, none⟩)) (.pointer none) wk wb r ik ib q st.serial br true) 57 (0, 0)) := heap_setCell_same w8 L 26 _ _ (.bool true) HL8.out
      have K9 : Hid (Kept (fun y => y = L) w3 (w8.setCell ⟨L, 26, none⟩ (.bool true))) := Lib.hid ((K8.out.of_no _).trans ((Kept.refl (fun y => y = L) w8).setCell _ _ (fun _ => rfl)))
      clear l26 f26
      generalize w8.setCell ⟨L, 26, none⟩ (.bool true) = w9 at *
      have HL9 := Lib.hid hL9
      clear hL9
      go_upto_region 12 with (first
        | (refine wpList_load_part (by rfl) 55 (.tmp 80) (by rfl) L 4 (by rfl) _ _ [wk, wb, .int .u32 (r.a : Int), .int .u32 (r.b : Int), .int .u32 (r.c : Int), .int .u32 (r.d : Int), .int .u32 (r.e : Int), .int .u32 (r.f : Int), .int .u32 (r.g : Int), .int .u32 (r.h : Int)] _ _ HL9.out Tryz.underlying55 (by rfl) (by exact seen_size) (by exact part_will x.d j _ _ wk wb r ik ib q st.serial br true) ?_)
        | (refine wpList_store_part (by rfl) 55 (.tmp 83) (.tmp 81) (by rfl) L 14 57 (lifeC x.d j (.pointer (some ⟨s, 0, none⟩)) (.pointer none) wk wb r ik ib q st.serial br true) (seenC wk wb r) (by rfl) (by rfl) HL9.out (by exact seen_size) (by simp [seenC]) HONE.out ?_))
      rw [over_is]
      have hL10 := setRow_heap w9 L _ (lifeC x.d j (.pointer (some ⟨s, 0, none⟩)) (.pointer none) wk wb r wk wb r st.serial br true) _ _ HL9.out
      have K10 : Hid (Kept (fun y => y = L) w3 (w9.setRow L (lifeC x.d j (.pointer (some ⟨s, 0, none⟩)) (.pointer none) wk wb r wk wb r st.serial br true))) := Lib.hid (K9.out.trans ((Kept.refl (fun y => y = L) w9).setRow _ _ (fun _ => rfl)))
      generalize w9.setRow L (lifeC x.d j (.pointer (some ⟨s, 0, none⟩)) (.pointer none) wk wb r wk wb r st.serial br true) = w10 at *
      have l2 : w10.cell? ⟨L, 2, none⟩ = some (.pointer (some ⟨s, 0, none⟩)) := (cell_of_row w10 L 2 _ _ _ hL10).trans rfl
      have l24 : w10.cell? ⟨L, 24, none⟩ = some (.int .u64 (st.serial : Int)) := (cell_of_row w10 L 24 _ _ _ hL10).trans rfl
      have f24 := frozen_of_row w10 L 24 _ _ hL10
      have HL10 := Lib.hid hL10
      have HS10 := Lib.hid (HFAR2.out _ _ _ _ _ HA1.out HA2.out HA3.out _ HL3.out K10.out).2.1
      clear hL10
      go_wp2_with (go_at_call 16; refine (serial_ok s x.d u' v' bp stc w10 HS10.out).mono ?_; rintro e w' ⟨rfl, rfl⟩; rw [HSer.out])
      refine bodyPost_ret (results_none rfl _ _ _) rfl ?_
      have hLF := heap_setCell_same w10 L 24 _ _ (.int .u64 (ser : Int)) HL10.out
      have hLF' : (w10.setCell ⟨L, 24, none⟩ (.int .u64 (ser : Int))).heap[L]? = some (.cells (lifeC x.d j (.pointer (some ⟨s, 0, none⟩)) (.pointer none) wk wb r wk wb r ser br true) 57 (0, 0)) := hLF
      have kF : Kept (fun y => y = L) w3 (w10.setCell ⟨L, 24, none⟩ (.int .u64 (ser : Int))) := K10.out.trans ((Kept.refl (fun y => y = L) w10).setCell _ _ (fun _ => rfl))
      obtain ⟨c1, c2, c3⟩ := HFAR2.out _ _ _ _ _ HA1.out HA2.out HA3.out _ HL3.out kF
      obtain ⟨hx2, hf3, ha2⟩ := HHX.out
      have kall : Kept (fun k => x.foot k ∨ k = s ∨ k = b ∨ k = hm ∨ k = L) w _ := K23.out.trans (kF.mono fun _ _ e => by simp [e])
      rw [HSer.out]
      first
        | exact ⟨x', u', v', rfl, kall, c1, hx2, hf3, c2, c3, ha2, hLF'⟩
        | exact ⟨rfl, kall, x', u', v', c1, hx2, hf3, c2, c3, ha2, hLF'⟩
        | exact ⟨rfl, kall, x', c1, hx2, hf3, u', v', c2, c3, ha2, hLF'⟩
        | exact ⟨rfl, kall, x', c1, hx2, hf3, c3, hLF', u', v', c2, ha2⟩
        | exact ⟨rfl, kall, c3, hLF', x', c1, hx2, hf3, u', v', c2, ha2⟩
set_option maxHeartbeats 2000000 in
theorem lnil2 (L d j : Nat) (sv wk wb ik ib : Value) (r q : Root8) (ser : Nat) (br ok : Bool) (si sn : Int) (so : Bool) (sp : UInt8) (sx : List UInt8) (kv : Value) (st0 sc : Int) (w : World) (hL : w.heap[L]? = some (.cells (lifeC d j sv (.pointer none) wk wb r ik ib q ser br ok) 57 (0, 0))) :
    Calls Tryz.prog 27 #[.pointer (some ⟨L, 0, none⟩), .agg #[.int .i64 2, .int .i64 si, .int .i64 sn, .bool so, .int .u8 (sp.toNat : Int), .string ⟨⟨sx⟩⟩, kv, .int .i64 st0, .int .i64 sc]] w fun e w' => e = .returned (.tuple #[]) ∧ Kept No w w' := by
  have HL := Lib.hid hL
  clear hL
  go_enter Tryz.func27, Tryz.ntmps27
  go_upto_region 1 with fail
  have hX := heap_alloc_new w (.cells #[.int .i64 2, .int .i64 si, .int .i64 sn, .bool so, .int .u8 (sp.toNat : Int), .string ⟨⟨sx⟩⟩, kv, .int .i64 st0, .int .i64 sc] 62)
  have k1 : Kept No w (w.alloc (.cells #[.int .i64 2, .int .i64 si, .int .i64 sn, .bool so, .int .u8 (sp.toNat : Int), .string ⟨⟨sx⟩⟩, kv, .int .i64 st0, .int .i64 sc] 62)) := (Kept.refl _ _).alloc _
  have hL1 := k1.heap HL.out (fun h => h)
  have K1 := Lib.hid k1
  generalize (w.alloc (.cells #[.int .i64 2, .int .i64 si, .int .i64 sn, .bool so, .int .u8 (sp.toNat : Int), .string ⟨⟨sx⟩⟩, kv, .int .i64 st0, .int .i64 sc] 62)) = w1 at *
  generalize w.heap.size = X at *
  have x0 : w1.cell? ⟨X, 0, none⟩ = some (.int .i64 (2)) := (cell_of_row w1 X 0 _ _ _ hX).trans rfl
  have l3 : w1.cell? ⟨L, 3, none⟩ = some (.pointer none) := (cell_of_row w1 L 3 _ _ _ hL1).trans rfl
  clear hX hL1 k1
  go_wp2_with fail
  go_end0
  exact ⟨rfl, K1.out⟩
set_option maxHeartbeats 2000000 in
theorem lnil3 (L d j : Nat) (sv wk wb ik ib : Value) (r q : Root8) (ser : Nat) (br ok : Bool) (si sn : Int) (so : Bool) (sp : UInt8) (sx : List UInt8) (kv : Value) (st0 sc : Int) (w : World) (hL : w.heap[L]? = some (.cells (lifeC d j sv (.pointer none) wk wb r ik ib q ser br ok) 57 (0, 0))) :
    Calls Tryz.prog 27 #[.pointer (some ⟨L, 0, none⟩), .agg #[.int .i64 3, .int .i64 si, .int .i64 sn, .bool so, .int .u8 (sp.toNat : Int), .string ⟨⟨sx⟩⟩, kv, .int .i64 st0, .int .i64 sc]] w fun e w' => e = .returned (.tuple #[]) ∧ Kept No w w' := by
  have HL := Lib.hid hL
  clear hL
  go_enter Tryz.func27, Tryz.ntmps27
  go_upto_region 1 with fail
  have hX := heap_alloc_new w (.cells #[.int .i64 3, .int .i64 si, .int .i64 sn, .bool so, .int .u8 (sp.toNat : Int), .string ⟨⟨sx⟩⟩, kv, .int .i64 st0, .int .i64 sc] 62)
  have k1 : Kept No w (w.alloc (.cells #[.int .i64 3, .int .i64 si, .int .i64 sn, .bool so, .int .u8 (sp.toNat : Int), .string ⟨⟨sx⟩⟩, kv, .int .i64 st0, .int .i64 sc] 62)) := (Kept.refl _ _).alloc _
  have hL1 := k1.heap HL.out (fun h => h)
  have K1 := Lib.hid k1
  generalize (w.alloc (.cells #[.int .i64 3, .int .i64 si, .int .i64 sn, .bool so, .int .u8 (sp.toNat : Int), .string ⟨⟨sx⟩⟩, kv, .int .i64 st0, .int .i64 sc] 62)) = w1 at *
  generalize w.heap.size = X at *
  have x0 : w1.cell? ⟨X, 0, none⟩ = some (.int .i64 (3)) := (cell_of_row w1 X 0 _ _ _ hX).trans rfl
  have l3 : w1.cell? ⟨L, 3, none⟩ = some (.pointer none) := (cell_of_row w1 L 3 _ _ _ hL1).trans rfl
  clear hX hL1 k1
  go_wp2_with fail
  go_end0
  exact ⟨rfl, K1.out⟩
set_option maxHeartbeats 2000000 in
theorem lnil4 (L d j : Nat) (sv wk wb ik ib : Value) (r q : Root8) (ser : Nat) (br ok : Bool) (si sn : Int) (so : Bool) (sp : UInt8) (sx : List UInt8) (kv : Value) (st0 sc : Int) (w : World) (hL : w.heap[L]? = some (.cells (lifeC d j sv (.pointer none) wk wb r ik ib q ser br ok) 57 (0, 0))) :
    Calls Tryz.prog 27 #[.pointer (some ⟨L, 0, none⟩), .agg #[.int .i64 4, .int .i64 si, .int .i64 sn, .bool so, .int .u8 (sp.toNat : Int), .string ⟨⟨sx⟩⟩, kv, .int .i64 st0, .int .i64 sc]] w fun e w' => e = .returned (.tuple #[]) ∧ Kept No w w' := by
  have HL := Lib.hid hL
  clear hL
  go_enter Tryz.func27, Tryz.ntmps27
  go_upto_region 1 with fail
  have hX := heap_alloc_new w (.cells #[.int .i64 4, .int .i64 si, .int .i64 sn, .bool so, .int .u8 (sp.toNat : Int), .string ⟨⟨sx⟩⟩, kv, .int .i64 st0, .int .i64 sc] 62)
  have k1 : Kept No w (w.alloc (.cells #[.int .i64 4, .int .i64 si, .int .i64 sn, .bool so, .int .u8 (sp.toNat : Int), .string ⟨⟨sx⟩⟩, kv, .int .i64 st0, .int .i64 sc] 62)) := (Kept.refl _ _).alloc _
  have hL1 := k1.heap HL.out (fun h => h)
  have K1 := Lib.hid k1
  generalize (w.alloc (.cells #[.int .i64 4, .int .i64 si, .int .i64 sn, .bool so, .int .u8 (sp.toNat : Int), .string ⟨⟨sx⟩⟩, kv, .int .i64 st0, .int .i64 sc] 62)) = w1 at *
  generalize w.heap.size = X at *
  have x0 : w1.cell? ⟨X, 0, none⟩ = some (.int .i64 (4)) := (cell_of_row w1 X 0 _ _ _ hX).trans rfl
  have l3 : w1.cell? ⟨L, 3, none⟩ = some (.pointer none) := (cell_of_row w1 L 3 _ _ _ hL1).trans rfl
  clear hX hL1 k1
  go_wp2_with fail
  go_end0
  exact ⟨rfl, K1.out⟩
set_option maxHeartbeats 2000000 in
theorem lnil5 (L d j : Nat) (sv wk wb ik ib : Value) (r q : Root8) (ser : Nat) (br ok : Bool) (si sn : Int) (so : Bool) (sp : UInt8) (sx : List UInt8) (kv : Value) (st0 sc : Int) (w : World) (hL : w.heap[L]? = some (.cells (lifeC d j sv (.pointer none) wk wb r ik ib q ser br ok) 57 (0, 0))) :
    Calls Tryz.prog 27 #[.pointer (some ⟨L, 0, none⟩), .agg #[.int .i64 5, .int .i64 si, .int .i64 sn, .bool so, .int .u8 (sp.toNat : Int), .string ⟨⟨sx⟩⟩, kv, .int .i64 st0, .int .i64 sc]] w fun e w' => e = .returned (.tuple #[]) ∧ Kept No w w' := by
  have HL := Lib.hid hL
  clear hL
  go_enter Tryz.func27, Tryz.ntmps27
  go_upto_region 1 with fail
  have hX := heap_alloc_new w (.cells #[.int .i64 5, .int .i64 si, .int .i64 sn, .bool so, .int .u8 (sp.toNat : Int), .string ⟨⟨sx⟩⟩, kv, .int .i64 st0, .int .i64 sc] 62)
  have k1 : Kept No w (w.alloc (.cells #[.int .i64 5, .int .i64 si, .int .i64 sn, .bool so, .int .u8 (sp.toNat : Int), .string ⟨⟨sx⟩⟩, kv, .int .i64 st0, .int .i64 sc] 62)) := (Kept.refl _ _).alloc _
  have hL1 := k1.heap HL.out (fun h => h)
  have K1 := Lib.hid k1
  generalize (w.alloc (.cells #[.int .i64 5, .int .i64 si, .int .i64 sn, .bool so, .int .u8 (sp.toNat : Int), .string ⟨⟨sx⟩⟩, kv, .int .i64 st0, .int .i64 sc] 62)) = w1 at *
  generalize w.heap.size = X at *
  have x0 : w1.cell? ⟨X, 0, none⟩ = some (.int .i64 (5)) := (cell_of_row w1 X 0 _ _ _ hX).trans rfl
  have l3 : w1.cell? ⟨L, 3, none⟩ = some (.pointer none) := (cell_of_row w1 L 3 _ _ _ hL1).trans rfl
  clear hX hL1 k1
  go_wp2_with fail
  go_end0
  exact ⟨rfl, K1.out⟩
set_option maxHeartbeats 2000000 in
theorem lnil6 (L d j : Nat) (sv wk wb ik ib : Value) (r q : Root8) (ser : Nat) (br ok : Bool) (si sn : Int) (so : Bool) (sp : UInt8) (sx : List UInt8) (kv : Value) (st0 sc : Int) (w : World) (hL : w.heap[L]? = some (.cells (lifeC d j sv (.pointer none) wk wb r ik ib q ser br ok) 57 (0, 0))) :
    Calls Tryz.prog 27 #[.pointer (some ⟨L, 0, none⟩), .agg #[.int .i64 6, .int .i64 si, .int .i64 sn, .bool so, .int .u8 (sp.toNat : Int), .string ⟨⟨sx⟩⟩, kv, .int .i64 st0, .int .i64 sc]] w fun e w' => e = .returned (.tuple #[]) ∧ Kept No w w' := by
  have HL := Lib.hid hL
  clear hL
  go_enter Tryz.func27, Tryz.ntmps27
  go_upto_region 1 with fail
  have hX := heap_alloc_new w (.cells #[.int .i64 6, .int .i64 si, .int .i64 sn, .bool so, .int .u8 (sp.toNat : Int), .string ⟨⟨sx⟩⟩, kv, .int .i64 st0, .int .i64 sc] 62)
  have k1 : Kept No w (w.alloc (.cells #[.int .i64 6, .int .i64 si, .int .i64 sn, .bool so, .int .u8 (sp.toNat : Int), .string ⟨⟨sx⟩⟩, kv, .int .i64 st0, .int .i64 sc] 62)) := (Kept.refl _ _).alloc _
  have hL1 := k1.heap HL.out (fun h => h)
  have K1 := Lib.hid k1
  generalize (w.alloc (.cells #[.int .i64 6, .int .i64 si, .int .i64 sn, .bool so, .int .u8 (sp.toNat : Int), .string ⟨⟨sx⟩⟩, kv, .int .i64 st0, .int .i64 sc] 62)) = w1 at *
  generalize w.heap.size = X at *
  have x0 : w1.cell? ⟨X, 0, none⟩ = some (.int .i64 (6)) := (cell_of_row w1 X 0 _ _ _ hX).trans rfl
  have l3 : w1.cell? ⟨L, 3, none⟩ = some (.pointer none) := (cell_of_row w1 L 3 _ _ _ hL1).trans rfl
  clear hX hL1 k1
  go_wp2_with fail
  go_end0
  exact ⟨rfl, K1.out⟩
set_option maxHeartbeats 2000000 in
theorem lnil7 (L d j : Nat) (sv wk wb ik ib : Value) (r q : Root8) (ser : Nat) (br ok : Bool) (si sn : Int) (so : Bool) (sp : UInt8) (sx : List UInt8) (kv : Value) (st0 sc : Int) (w : World) (hL : w.heap[L]? = some (.cells (lifeC d j sv (.pointer none) wk wb r ik ib q ser br ok) 57 (0, 0))) :
    Calls Tryz.prog 27 #[.pointer (some ⟨L, 0, none⟩), .agg #[.int .i64 7, .int .i64 si, .int .i64 sn, .bool so, .int .u8 (sp.toNat : Int), .string ⟨⟨sx⟩⟩, kv, .int .i64 st0, .int .i64 sc]] w fun e w' => e = .returned (.tuple #[]) ∧ Kept No w w' := by
  have HL := Lib.hid hL
  clear hL
  go_enter Tryz.func27, Tryz.ntmps27
  go_upto_region 1 with fail
  have hX := heap_alloc_new w (.cells #[.int .i64 7, .int .i64 si, .int .i64 sn, .bool so, .int .u8 (sp.toNat : Int), .string ⟨⟨sx⟩⟩, kv, .int .i64 st0, .int .i64 sc] 62)
  have k1 : Kept No w (w.alloc (.cells #[.int .i64 7, .int .i64 si, .int .i64 sn, .bool so, .int .u8 (sp.toNat : Int), .string ⟨⟨sx⟩⟩, kv, .int .i64 st0, .int .i64 sc] 62)) := (Kept.refl _ _).alloc _
  have hL1 := k1.heap HL.out (fun h => h)
  have K1 := Lib.hid k1
  generalize (w.alloc (.cells #[.int .i64 7, .int .i64 si, .int .i64 sn, .bool so, .int .u8 (sp.toNat : Int), .string ⟨⟨sx⟩⟩, kv, .int .i64 st0, .int .i64 sc] 62)) = w1 at *
  generalize w.heap.size = X at *
  have x0 : w1.cell? ⟨X, 0, none⟩ = some (.int .i64 (7)) := (cell_of_row w1 X 0 _ _ _ hX).trans rfl
  have l3 : w1.cell? ⟨L, 3, none⟩ = some (.pointer none) := (cell_of_row w1 L 3 _ _ _ hL1).trans rfl
  clear hX hL1 k1
  go_wp2_with fail
  go_end0
  exact ⟨rfl, K1.out⟩
set_option maxHeartbeats 2000000 in
theorem lother (L d j : Nat) (sv bv wk wb ik ib : Value) (r q : Root8) (ser : Nat) (br ok : Bool) (k : Int) (si sn : Int) (so : Bool) (sp : UInt8) (sx : List UInt8) (kv : Value) (st0 sc : Int) (w : World) (hL : w.heap[L]? = some (.cells (lifeC d j sv bv wk wb r ik ib q ser br ok) 57 (0, 0))) (hk : k ≠ 0 ∧ k ≠ 1 ∧ k ≠ 2 ∧ k ≠ 3 ∧ k ≠ 4 ∧ k ≠ 5 ∧ k ≠ 6 ∧ k ≠ 7 ∧ k ≠ 9 ∧ k ≠ 10) :
    Calls Tryz.prog 27 #[.pointer (some ⟨L, 0, none⟩), .agg #[.int .i64 k, .int .i64 si, .int .i64 sn, .bool so, .int .u8 (sp.toNat : Int), .string ⟨⟨sx⟩⟩, kv, .int .i64 st0, .int .i64 sc]] w fun e w' => e = .returned (.tuple #[]) ∧ Kept No w w' := by
  have HL := Lib.hid hL
  clear hL
  obtain ⟨q0, q1, q2, q3, q4, q5, q6, q7, q9, q10⟩ := hk
  have e0 : (k == 0) = false := by rw [beq_eq_false_iff_ne]; exact q0
  have e1 : (k == 1) = false := by rw [beq_eq_false_iff_ne]; exact q1
  have e2 : (k == 2) = false := by rw [beq_eq_false_iff_ne]; exact q2
  have e3 : (k == 3) = false := by rw [beq_eq_false_iff_ne]; exact q3
  have e4 : (k == 4) = false := by rw [beq_eq_false_iff_ne]; exact q4
  have e5 : (k == 5) = false := by rw [beq_eq_false_iff_ne]; exact q5
  have e6 : (k == 6) = false := by rw [beq_eq_false_iff_ne]; exact q6
  have e7 : (k == 7) = false := by rw [beq_eq_false_iff_ne]; exact q7
  have e9 : (k == 9) = false := by rw [beq_eq_false_iff_ne]; exact q9
  have e10 : (k == 10) = false := by rw [beq_eq_false_iff_ne]; exact q10
  clear q0 q1 q2 q3 q4 q5 q6 q7 q9 q10
  go_enter Tryz.func27, Tryz.ntmps27
  go_upto_region 1 with fail
  have hX := heap_alloc_new w (.cells #[.int .i64 k, .int .i64 si, .int .i64 sn, .bool so, .int .u8 (sp.toNat : Int), .string ⟨⟨sx⟩⟩, kv, .int .i64 st0, .int .i64 sc] 62)
  have k1 : Kept No w (w.alloc (.cells #[.int .i64 k, .int .i64 si, .int .i64 sn, .bool so, .int .u8 (sp.toNat : Int), .string ⟨⟨sx⟩⟩, kv, .int .i64 st0, .int .i64 sc] 62)) := (Kept.refl _ _).alloc _
  have hL1 := k1.heap HL.out (fun h => h)
  have K1 := Lib.hid k1
  generalize (w.alloc (.cells #[.int .i64 k, .int .i64 si, .int .i64 sn, .bool so, .int .u8 (sp.toNat : Int), .string ⟨⟨sx⟩⟩, kv, .int .i64 st0, .int .i64 sc] 62)) = w1 at *
  generalize w.heap.size = X at *
  have x0 : w1.cell? ⟨X, 0, none⟩ = some (.int .i64 (k)) := (cell_of_row w1 X 0 _ _ _ hX).trans rfl
  clear hX hL1 k1
  go_wp2_with fail
  go_end0
  exact ⟨rfl, K1.out⟩
set_option maxHeartbeats 4000000 in
theorem lstep7 (L d j : Nat) (sv wk wb ik ib : Value) (r q : Root8) (ser : Nat) (br : Bool) (b s u : Nat) (v : Value) (hm : Nat) (m : BtM) (si sn : Int) (so : Bool) (sp : UInt8) (sx : List UInt8) (kv : Value) (st0 sc : Int) (w : World)
    (hL : w.heap[L]? = some (.cells (lifeC d j sv (.pointer (some ⟨b, 0, none⟩)) wk wb r ik ib q ser br true) 57 (0, 0))) (hB : BtAt w b s u v hm m) :
    Calls Tryz.prog 27 #[.pointer (some ⟨L, 0, none⟩), .agg #[.int .i64 7, .int .i64 si, .int .i64 sn, .bool so, .int .u8 (sp.toNat : Int), .string ⟨⟨sx⟩⟩, kv, .int .i64 st0, .int .i64 sc]] w fun e w' => e = .returned (.tuple #[]) ∧ Kept (fun k => k = L ∨ k = b ∨ k = hm) w w' ∧
      w'.heap[L]? = some (.cells (lifeC d j sv (.pointer none) wk wb r ik ib q ser br true) 57 (0, 0)) ∧ BtAt w' b s u v hm m.drop := by
  have HL := Lib.hid hL
  have HB := Lib.hid hB
  clear hL hB
  go_enter Tryz.func27, Tryz.ntmps27
  go_upto_region 1 with fail
  have hX := heap_alloc_new w (.cells #[.int .i64 7, .int .i64 si, .int .i64 sn, .bool so, .int .u8 (sp.toNat : Int), .string ⟨⟨sx⟩⟩, kv, .int .i64 st0, .int .i64 sc] 62)
  have k1 : Kept No w (w.alloc (.cells #[.int .i64 7, .int .i64 si, .int .i64 sn, .bool so, .int .u8 (sp.toNat : Int), .string ⟨⟨sx⟩⟩, kv, .int .i64 st0, .int .i64 sc] 62)) := (Kept.refl _ _).alloc _
  have hL1 := k1.heap HL.out (fun h => h)
  have K1 := Lib.hid k1
  have HB1 := Lib.hid (HB.out.no k1)
  generalize (w.alloc (.cells #[.int .i64 7, .int .i64 si, .int .i64 sn, .bool so, .int .u8 (sp.toNat : Int), .string ⟨⟨sx⟩⟩, kv, .int .i64 st0, .int .i64 sc] 62)) = w1 at *
  generalize w.heap.size = X at *
  have x0 : w1.cell? ⟨X, 0, none⟩ = some (.int .i64 (7)) := (cell_of_row w1 X 0 _ _ _ hX).trans rfl
  have l3 : w1.cell? ⟨L, 3, none⟩ = some (.pointer (some ⟨b, 0, none⟩)) := (cell_of_row w1 L 3 _ _ _ hL1).trans rfl
  have HX := Lib.hid hX
  have HL1 := Lib.hid hL1
  clear hX hL1 k1
  go_wp2_with (first
    | (refine wpList_load_row (by rfl) 62 (.tmp 3) (by rfl) X (by rfl) _ _ _ _ HX.out Tryz.underlying62 (by rfl) (by exact step_size) ?_)
    | (go_at_call 63; refine (ldrop_ok L d j sv wk wb ik ib r q ser br b s u v hm m si sn so sp sx kv st0 sc w1 HL1.out HB1.out).mono ?_; rintro e w2 ⟨rfl, k2, hl2, hb2⟩; have K2 := Lib.hid k2; have HP := Lib.hid (And.intro hl2 hb2); clear k2 hl2 hb2))
  go_end0
  exact ⟨rfl, (K1.out.of_no _).trans K2.out, HP.out⟩
end Go.Proofs.YtabhieafjkaocaaGreat
