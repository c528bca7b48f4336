/- A part. -/
import Derived.Test.YtabhieafjkaocaaGreatMabo
import Derived.Test.YtabhieafjkaocaaGreatMabt
import Derived.StillTailTactics
import Derived.Deep.RegionHeld3
import Derived.Test.YtabhieafjkaocaaGreatMabq
import Derived.Test.YtabhieafjkaocaaGreatMabj
import Derived.SizedLaws
import Derived.Test.YtabhieafjkaocaaGreatMabk
import Derived.Deep.RegionHeldLaw
import Derived.Test.YtabhieafjkaocaaGreatMabr
set_option linter.unusedVariables false
set_option linter.unusedSimpArgs false
namespace Go.Proofs.YtabhieafjkaocaaGreat
open Go.RowKit Go.Lib Go.Maps Bm
set_option maxRecDepth 20000
theorem cell_keeps {M : Nat → Prop} {w0 : World} {g o : Nat} {cs : Array Value} {t : TypeId} {fr : Nat × Nat} {v : Value} (hg : w0.heap[g]? = some (.cells cs t fr)) (hm : ¬ M g) (hv : cs[o]? = some v) : ∀ w', Kept M w0 w' → w'.cell? ⟨g, o, none⟩ = some v := fun w' k => by
  rw [cell_of_row w' g o _ _ _ (k.heap hg hm)]; exact hv
set_option maxHeartbeats 4000000 in
theorem up_no (L j : Nat) (sv bv wk wb ik ib : Value) (r q : Root8) (ser : Nat) (br : Bool) (x : DiskH) (w : World) (dm' : DiskM) (hL : w.heap[L]? = some (.cells (lifeC x.d j sv bv wk wb r ik ib q ser br true) 57 (0, 0))) (hfL : ¬ x.foot L)
    (hopen : ∀ w1, Kept No w w1 → Calls Tryz.prog 12 #[dev x.d, .int .i64 (j : Int)] w1 fun e w' => ∃ x' : DiskH, e = .returned (.tuple #[.pointer none, .int .i64 40]) ∧ Kept x.foot w1 w' ∧ DiskAt w' x' dm' ∧ x'.d = x.d ∧ ∀ g, x'.foot g → x.foot g ∨ w1.heap.size ≤ g) (hoff : dm'.off = true) :
    Calls Tryz.prog 29 #[.pointer (some ⟨L, 0, none⟩)] w fun e w' => ∃ x' : DiskH, e = .returned (.tuple #[]) ∧ Kept (fun k => x.foot k ∨ k = L) w w' ∧ DiskAt w' x' dm' ∧ x'.d = x.d ∧ (∀ g, x'.foot g → x.foot g ∨ w.heap.size ≤ g) ∧
      w'.heap[L]? = some (.cells (lifeC x.d j (.pointer none) (.pointer none) wk wb r ik ib q ser br true) 57 (0, 0)) := by
  have HL := Lib.hid hL
  have HFL := Lib.hid hfL
  have HOPEN := Lib.hid hopen
  have HOFF := Lib.hid hoff
  have hpn := ptr_not
  clear hL hfL hopen hoff
  have l0 : ∀ w', Kept x.foot w w' → w'.cell? ⟨L, 0, none⟩ = some (.pointer (some ⟨x.d, 0, none⟩)) := cell_keeps (o := 0) HL.out HFL.out rfl
  have l1 : ∀ w', Kept x.foot w w' → w'.cell? ⟨L, 1, none⟩ = some (.int .i64 (j : Int)) := cell_keeps (o := 1) HL.out HFL.out rfl
  have hK0 : Kept No w w := Kept.refl _ _
  have hK0f : Kept x.foot w w := Kept.refl _ _
  go_enter Tryz.func29, Tryz.ntmps29
  go_wp2_with fail
  go_region_held3 (fun w' => Kept x.foot w w') (first | assumption | exact Kept.drew (by assumption))
    (first
      | (go_at_call 12; (with_reducible refine (HOPEN.out _ (by first | assumption | exact Kept.drew (by assumption))).mono ?_); rintro e w' ⟨x', rfl, kk, hd, hxd, hf⟩; have hk1 : Kept x.foot w w' := Kept.trans (by first | assumption | exact Kept.drew (by assumption)) kk; have HD := Lib.hid hd; have HXD := Lib.hid hxd; have HF := Lib.hid hf))
  have hk1 : Kept x.foot w w' := by assumption
  have hL1 := hk1.heap HL.out HFL.out
  have HLIT : Hid (∀ wz, Kept (fun k => k = L) w' wz → Calls Tryz.prog 60 #[.pointer (some ⟨x.d, 0, none⟩)] wz fun e w'' => e = .returned (.bool false) ∧ wz = w'') := Lib.hid (fun wz k => by
    have h := dlit_ok x' dm' wz (HD.out.kept k (fun g hg e => by subst e; exact HD.out.not_foot hL1 (by decide) (by decide) (by decide) hg))
    rw [HXD.out, HOFF.out] at h
    exact h)
  have hpn2 : ∀ w, (binOp .eql 22 (.pointer none) (.pointer none)).run Tryz.prog w = .ok (.bool true) w := fun w => by kernel_rfl
  have c0 : w'.cell? ⟨L, 0, none⟩ = some (.pointer (some ⟨x.d, 0, none⟩)) := (cell_of_row w' L 0 _ _ _ hL1).trans rfl
  have c2 : w'.cell? ⟨L, 2, none⟩ = some sv := (cell_of_row w' L 2 _ _ _ hL1).trans rfl
  have c3 : w'.cell? ⟨L, 3, none⟩ = some bv := (cell_of_row w' L 3 _ _ _ hL1).trans rfl
  have c26 : w'.cell? ⟨L, 26, none⟩ = some (.bool true) := (cell_of_row w' L 26 _ _ _ hL1).trans rfl
  have f2 := frozen_of_row w' L 2 _ _ hL1
  have f3 := frozen_of_row w' L 3 _ _ hL1
  have f26 := frozen_of_row w' L 26 _ _ hL1
  have HL1 := Lib.hid hL1
  have HK1 := Lib.hid hk1
  clear l0 l1 hK0 hK0f hk1 hL1 kk hd hxd hf
  go_wp2_with (go_at_call 60; refine (HLIT.out _ (((Kept.refl (fun k => k = L) w').setCell ⟨L, 3, none⟩ _ (fun _ => rfl)).setCell ⟨L, 2, none⟩ _ (fun _ => rfl))).mono ?_; rintro e w'' ⟨rfl, rfl⟩)
  refine bodyPost_ret (results_none rfl _ _ _) rfl ?_
  have g1 := heap_setCell_same _ L 3 _ _ (.pointer none) HL1.out
  have g2 := heap_setCell_same _ L 2 _ _ (.pointer none) g1
  have g3 := heap_setCell_same _ L 26 _ _ (.bool true) g2
  have k3 : Kept (fun k => k = L) w' (((w'.setCell ⟨L, 3, none⟩ (.pointer none)).setCell ⟨L, 2, none⟩ (.pointer none)).setCell ⟨L, 26, none⟩ (.bool true)) := (((Kept.refl (fun k => k = L) w').setCell ⟨L, 3, none⟩ _ (fun _ => rfl)).setCell ⟨L, 2, none⟩ _ (fun _ => rfl)).setCell ⟨L, 26, none⟩ _ (fun _ => rfl)
  have hd : DiskAt _ x' dm' := HD.out.kept k3 (fun g hg e => by subst e; exact HD.out.not_foot HL1.out (by decide) (by decide) (by decide) hg)
  have kall : Kept (fun k => x.foot k ∨ k = L) w _ := (HK1.out.mono (N := fun k => x.foot k ∨ k = L) (fun _ _ e => .inl e)).trans (k3.mono (fun _ _ e => .inr e))
  have hf : ∀ g, x'.foot g → x.foot g ∨ w.heap.size ≤ g := fun g hg => (HF.out g hg).imp id (fun h => by simpa using h)
  first
    | exact ⟨x', rfl, kall, hd, HXD.out, hf, g3⟩
    | exact ⟨rfl, kall, g3, x', hd, HXD.out, hf⟩
    | exact ⟨rfl, kall, x', hd, HXD.out, hf, g3⟩
set_option maxHeartbeats 8000000 in
theorem up_is (L j N base : Nat) (sv bv wk wb ik ib : Value) (r : Root8) (ser : Nat) (br : Bool) (x : DiskH) (dm dm' : DiskM) (st : StM) (is : SeenM) (w : World) (hL : w.heap[L]? = some (.cells (lifeC x.d j sv bv wk wb r ik ib is.root ser br true) 57 (0, 0))) (hX : DiskAt w x dm)
    (hopen : ∀ w1, Kept No w w1 → Calls Tryz.prog 12 #[dev x.d, .int .i64 (j : Int)] w1 fun e w' => ∃ (x' : DiskH) (s u : Nat) (v : Value), e = .returned (.tuple #[.pointer (some ⟨s, 0, none⟩), .int .i64 0]) ∧ Kept x.foot w1 w' ∧ DiskAt w' x' dm' ∧ x'.d = x.d ∧ (∀ g, x'.foot g → x.foot g ∨ w1.heap.size ≤ g) ∧
      StAt w' s x.d u v (.pointer none) st ∧ w1.heap.size ≤ s ∧ w1.heap.size ≤ u ∧ ∀ g, v.ownBlock = some g → w1.heap.size ≤ g)
    (hlk : Looks st dm') (hfit : st.count + st.now.n ≤ dm'.lies.length) (hN : st.now.n = N) (hN6 : N < 1000000) (hser : ser ≤ st.serial) (hs62 : st.serial < 4611686018427387904) (hI : SeenAt w base ik ib is) (hl1 : is.kind.length = N) (hl2 : is.body.length = N) (hseq : seenM st dm' = is) :
    Calls Tryz.prog 29 #[.pointer (some ⟨L, 0, none⟩)] w fun e w' => ∃ (x' : DiskH) (s u : Nat) (v kv bv' : Value), e = .returned (.tuple #[]) ∧ Kept (fun k => x.foot k ∨ k = L) w w' ∧ DiskAt w' x' dm' ∧ x'.d = x.d ∧ (∀ g, x'.foot g → x.foot g ∨ w.heap.size ≤ g) ∧
      StAt w' s x.d u v (.pointer none) st ∧ w.heap.size ≤ s ∧ w.heap.size ≤ u ∧ (∀ g, v.ownBlock = some g → w.heap.size ≤ g) ∧ SeenAt w' w.heap.size kv bv' (seenM st dm') ∧
      w'.heap[L]? = some (.cells (lifeC x.d j (.pointer (some ⟨s, 0, none⟩)) (.pointer none) wk wb r kv bv' st.now.root st.serial false true) 57 (0, 0)) := by
  have hfL : ¬ x.foot L := hX.not_foot hL (by decide) (by decide) (by decide)
  have HL := Lib.hid hL
  have HFL := Lib.hid hfL
  have HOPEN := Lib.hid hopen
  have HLK := Lib.hid hlk
  have HFIT := Lib.hid hfit
  have HN := Lib.hid hN
  have HSEQ := Lib.hid hseq
  have hls : (seenM st dm').kind.length = N ∧ (seenM st dm').body.length = N := by simp [seenM, hN]
  have HLS := Lib.hid hls
  have HL1 := Lib.hid hl1
  have HL2 := Lib.hid hl2
  have HI : Hid (∀ w', Kept x.foot w w' → SeenAt w' base ik ib is) := Lib.hid (fun w' k => hI.kept k (fun g hg e => by obtain ⟨c, hc⟩ := row_cells hI.kind hg; exact hX.not_foot hc (by decide) (by decide) (by decide) e) (fun g hg e => by obtain ⟨c, hc⟩ := row_cells hI.body hg; exact hX.not_foot hc (by decide) (by decide) (by decide) e))
  have hpn := ptr_not
  have hds : decide ((st.serial : Int) < (ser : Int)) = false := by simp; omega
  clear hL hfL hopen hlk hfit hN hls hl1 hl2 hI hX hseq
  have hK0 : Kept No w w := Kept.refl _ _
  have l0 : ∀ w', Kept x.foot w w' → w'.cell? ⟨L, 0, none⟩ = some (.pointer (some ⟨x.d, 0, none⟩)) := cell_keeps (o := 0) HL.out HFL.out rfl
  have l1 : ∀ w', Kept x.foot w w' → w'.cell? ⟨L, 1, none⟩ = some (.int .i64 (j : Int)) := cell_keeps (o := 1) HL.out HFL.out rfl
  have hK0f : Kept x.foot w w := Kept.refl _ _
  go_enter Tryz.func29, Tryz.ntmps29
  go_wp2_with fail
  go_region_held3 (fun w' => Kept x.foot w w') (first | assumption | exact Kept.drew (by assumption))
    (first
      | (go_at_call 12; (with_reducible refine (HOPEN.out _ (by first | assumption | exact Kept.drew (by assumption))).mono ?_); rintro e w' ⟨x', s, u, v, rfl, kk, hd, hxd, hf, hst, q1, q2, q3⟩; have hk1 : Kept x.foot w w' := Kept.trans (by first | assumption | exact Kept.drew (by assumption)) kk; have HP := Lib.hid (And.intro hd (And.intro hxd (And.intro hf (And.intro hst (And.intro q1 (And.intro q2 q3))))))))
  have hk1 : Kept x.foot w w' := by assumption
  obtain ⟨hd, hxd, hf, hst, q1, q2, q3⟩ := HP.out
  have hL1 := hk1.heap HL.out HFL.out
  have c2 : w'.cell? ⟨L, 2, none⟩ = some sv := (cell_of_row w' L 2 _ _ _ hL1).trans rfl
  have c3 : w'.cell? ⟨L, 3, none⟩ = some bv := (cell_of_row w' L 3 _ _ _ hL1).trans rfl
  have f2 := frozen_of_row w' L 2 _ _ hL1
  have f3 := frozen_of_row w' L 3 _ _ hL1
  have g1 := heap_setCell_same _ L 3 _ _ (.pointer none) hL1
  have g2 := heap_setCell_same _ L 2 _ _ (.pointer none) g1
  have k2 : Kept (fun k => k = L) w' ((w'.setCell ⟨L, 3, none⟩ (.pointer none)).setCell ⟨L, 2, none⟩ (.pointer none)) := ((Kept.refl (fun k => k = L) w').setCell ⟨L, 3, none⟩ _ (fun _ => rfl)).setCell ⟨L, 2, none⟩ _ (fun _ => rfl)
  have hsz : w.heap.size ≤ s ∧ w.heap.size ≤ u ∧ (∀ g, v.ownBlock = some g → w.heap.size ≤ g) ∧ ∀ g, x'.foot g → x.foot g ∨ w.heap.size ≤ g := by
    simp at q1 q2 q3 hf
    exact ⟨q1, q2, q3, hf⟩
  have HSZ := Lib.hid hsz
  have HXD := Lib.hid hxd
  rw [← hxd] at hst
  have HL2' := Lib.hid g2
  have hfar : ∀ (wz : World), Kept (fun k => k = L) w' wz → DiskAt wz x' dm' ∧ StAt wz s x'.d u v (.pointer none) st ∧ SeenAt wz base ik ib is := fun wz k =>
    ⟨hd.kept k (fun g hg e => by subst e; exact hd.not_foot hL1 (by decide) (by decide) (by decide) hg), hst.kept k (cells_ne hst.head hL1 (by decide)) (cells_ne hst.held.set.head hL1 (by decide)) (fun g hg e => by subst e; obtain ⟨c, hc⟩ := row_cells hst.held.set.row hg; exact cells_ne hL1 hc (by decide) rfl),
      (HI.out w' hk1).kept k (fun g hg e => by subst e; obtain ⟨c, hc⟩ := row_cells (HI.out w' hk1).kind hg; exact cells_ne hL1 hc (by decide) rfl) (fun g hg e => by subst e; obtain ⟨c, hc⟩ := row_cells (HI.out w' hk1).body hg; exact cells_ne hL1 hc (by decide) rfl)⟩
  have HFAR := Lib.hid hfar
  have K2 := Lib.hid k2
  have HK1 := Lib.hid hk1
  clear l0 l1 hK0 hK0f hk1 hL1 kk hd hxd hf hst q1 q2 q3 g1 g2 k2 hsz hfar HP
  go_wp2_with fail
  generalize ((w'.setCell ⟨L, 3, none⟩ (.pointer none)).setCell ⟨L, 2, none⟩ (.pointer none)) = w2 at *
  obtain ⟨hd2, hst2, hi2⟩ := HFAR.out w2 K2.out
  have HD2 := Lib.hid hd2
  have HST2 := Lib.hid hst2
  clear hd2 hst2 hi2 c2 c3 f2 f3
  refine (look_ok s u v (.pointer none) x' st dm' w2 HST2.out HD2.out HFIT.out HLK.out).mono ?_
  rintro e w3 ⟨kv, bv', rfl, k3, hsn⟩
  obtain ⟨ka, kc, rfl⟩ := row_slice hsn.kind
  obtain ⟨ta, tc, rfl⟩ := row_slice hsn.body
  rw [HLS.out.1, HLS.out.2] at hsn ⊢
  have k4 := k3.alloc (.cells (seenC (.slice ka N kc) (.slice ta N tc) st.now.root) 55)
  have hV := heap_alloc_new w3 (.cells (seenC (.slice ka N kc) (.slice ta N tc) st.now.root) 55)
  have HSN : Hid (SeenAt (w3.alloc (.cells (seenC (.slice ka N kc) (.slice ta N tc) st.now.root) 55)) w.heap.size (.slice ka N kc) (.slice ta N tc) (seenM st dm')) := Lib.hid (by
    have hz : w.heap.size ≤ w2.heap.size := Nat.le_trans HK1.out.size K2.out.size
    rw [HLS.out.1, HLS.out.2] at *
    have h := hsn.no ((Kept.refl No w3).alloc (.cells (seenC (.slice ka N kc) (.slice ta N tc) st.now.root) 55))
    exact ⟨ownsRow_low h.kind hz, ownsRow_low h.body hz⟩)
  have HV4 := Lib.hid hV
  have HL4 := Lib.hid (k4.heap HL2'.out (fun h => h))
  have HST4 := Lib.hid (HST2.out.no k4)
  have K4 := Lib.hid k4
  clear k3 k4 hsn hV HL2' HD2 HST2
  go_wp2_with (refine wpList_store_new (by rfl) 55 (.tmp 4) (.tmp 52) (by rfl) w3 55 #[.slice none 0 0, .slice none 0 0, .int .u32 0, .int .u32 0, .int .u32 0, .int .u32 0, .int .u32 0, .int .u32 0, .int .u32 0, .int .u32 0] (seenC (.slice ka N kc) (.slice ta N tc) st.now.root) (by rfl) (by rfl) (by rfl) (by exact seen_size) (by simp [seenC]) (by simp [seenC, Value.oneCell']) ?_)
  generalize (w3.alloc (.cells (seenC (.slice ka N kc) (.slice ta N tc) st.now.root) 55)) = w4 at *
  generalize w3.heap.size = V at *
  have HSER : Hid (∀ wz, Kept No w4 wz → Calls Tryz.prog 16 #[.pointer (some ⟨s, 0, none⟩)] wz fun e w'' => e = .returned (.int .u64 (st.serial : Int)) ∧ wz = w'') := Lib.hid (fun wz k => serial_ok s x'.d u v (.pointer none) st wz (HST4.out.no k))
  have l24 : ∀ wz, Kept No w4 wz → wz.cell? ⟨L, 24, none⟩ = some (.int .u64 (ser : Int)) := cell_kept (o := 24) HL4.out rfl
  have hK4 : Kept No w4 w4 := Kept.refl _ _
  go_region_held3 (fun wz => Kept No w4 wz) (first | assumption | exact Kept.drew (by assumption))
    (first
      | (go_at_call 16; (with_reducible refine (HSER.out _ (by first | assumption | exact Kept.drew (by assumption))).mono ?_); rintro e w'' ⟨rfl, rfl⟩))
  clear l24 hK4
  go_wp2_with fail
  have k5 : Kept No w4 w4.drew := (Kept.refl No w4).drew
  have HV5 := Lib.hid (k5.heap HV4.out (fun h => h))
  have HL5 := Lib.hid (k5.heap HL4.out (fun h => h))
  have HST5 := Lib.hid (HST4.out.no k5)
  have HSN5 := Lib.hid (HSN.out.no k5)
  have K5 := Lib.hid (K4.out.trans k5)
  clear k5 HV4 HL4 HST4 HSN K4 HSER
  generalize w4.drew = w5 at *
  obtain ⟨hd5, hst5, hi5⟩ := HFAR.out w5 (K2.out.trans (K5.out.of_no _))
  have HAL1 : Hid (∀ wz, Kept No w5 wz → Calls Tryz.prog 32 #[.agg #[.slice ka N kc, .slice ta N tc, .int .u32 (st.now.root.a : Int), .int .u32 (st.now.root.b : Int), .int .u32 (st.now.root.c : Int), .int .u32 (st.now.root.d : Int), .int .u32 (st.now.root.e : Int), .int .u32 (st.now.root.f : Int), .int .u32 (st.now.root.g : Int), .int .u32 (st.now.root.h : Int)], .agg #[ik, ib, .int .u32 (is.root.a : Int), .int .u32 (is.root.b : Int), .int .u32 (is.root.c : Int), .int .u32 (is.root.d : Int), .int .u32 (is.root.e : Int), .int .u32 (is.root.f : Int), .int .u32 (is.root.g : Int), .int .u32 (is.root.h : Int)]] wz fun e w'' => e = .returned (.bool true) ∧ Kept No wz w'') := Lib.hid (fun wz k => by
    have h := alike_ok _ _ _ _ _ _ (seenM st dm') is wz (HSN5.out.no k) (hi5.no k) (by rw [HLS.out.1, HLS.out.2]) (by rw [HL1.out, HL2.out]) (by rw [HLS.out.1]; omega) (by rw [HL1.out]; omega)
    rw [decide_eq_true HSEQ.out] at h
    exact h)
  have n0 : ∀ p : InC (Kept No w5), p.world.cell? ⟨V, 0, none⟩ = some (.slice ka N kc) := cell_in (o := 0) HV5.out (fun h => h) rfl
  have n1 : ∀ p : InC (Kept No w5), p.world.cell? ⟨V, 1, none⟩ = some (.slice ta N tc) := cell_in (o := 1) HV5.out (fun h => h) rfl
  have n2 : ∀ p : InC (Kept No w5), p.world.cell? ⟨V, 2, none⟩ = some (.int .u32 (st.now.root.a : Int)) := cell_in (o := 2) HV5.out (fun h => h) rfl
  have n3 : ∀ p : InC (Kept No w5), p.world.cell? ⟨V, 3, none⟩ = some (.int .u32 (st.now.root.b : Int)) := cell_in (o := 3) HV5.out (fun h => h) rfl
  have n4 : ∀ p : InC (Kept No w5), p.world.cell? ⟨V, 4, none⟩ = some (.int .u32 (st.now.root.c : Int)) := cell_in (o := 4) HV5.out (fun h => h) rfl
  have n5 : ∀ p : InC (Kept No w5), p.world.cell? ⟨V, 5, none⟩ = some (.int .u32 (st.now.root.d : Int)) := cell_in (o := 5) HV5.out (fun h => h) rfl
  have n6 : ∀ p : InC (Kept No w5), p.world.cell? ⟨V, 6, none⟩ = some (.int .u32 (st.now.root.e : Int)) := cell_in (o := 6) HV5.out (fun h => h) rfl
  have n7 : ∀ p : InC (Kept No w5), p.world.cell? ⟨V, 7, none⟩ = some (.int .u32 (st.now.root.f : Int)) := cell_in (o := 7) HV5.out (fun h => h) rfl
  have n8 : ∀ p : InC (Kept No w5), p.world.cell? ⟨V, 8, none⟩ = some (.int .u32 (st.now.root.g : Int)) := cell_in (o := 8) HV5.out (fun h => h) rfl
  have n9 : ∀ p : InC (Kept No w5), p.world.cell? ⟨V, 9, none⟩ = some (.int .u32 (st.now.root.h : Int)) := cell_in (o := 9) HV5.out (fun h => h) rfl
  have i0 : ∀ p : InC (Kept No w5), p.world.cell? ⟨L, 14, none⟩ = some (ik) := cell_in (o := 14) HL5.out (fun h => h) rfl
  have i1 : ∀ p : InC (Kept No w5), p.world.cell? ⟨L, 15, none⟩ = some (ib) := cell_in (o := 15) HL5.out (fun h => h) rfl
  have i2 : ∀ p : InC (Kept No w5), p.world.cell? ⟨L, 16, none⟩ = some (.int .u32 (is.root.a : Int)) := cell_in (o := 16) HL5.out (fun h => h) rfl
  have i3 : ∀ p : InC (Kept No w5), p.world.cell? ⟨L, 17, none⟩ = some (.int .u32 (is.root.b : Int)) := cell_in (o := 17) HL5.out (fun h => h) rfl
  have i4 : ∀ p : InC (Kept No w5), p.world.cell? ⟨L, 18, none⟩ = some (.int .u32 (is.root.c : Int)) := cell_in (o := 18) HL5.out (fun h => h) rfl
  have i5 : ∀ p : InC (Kept No w5), p.world.cell? ⟨L, 19, none⟩ = some (.int .u32 (is.root.d : Int)) := cell_in (o := 19) HL5.out (fun h => h) rfl
  have i6 : ∀ p : InC (Kept No w5), p.world.cell? ⟨L, 20, none⟩ = some (.int .u32 (is.root.e : Int)) := cell_in (o := 20) HL5.out (fun h => h) rfl
  have i7 : ∀ p : InC (Kept No w5), p.world.cell? ⟨L, 21, none⟩ = some (.int .u32 (is.root.f : Int)) := cell_in (o := 21) HL5.out (fun h => h) rfl
  have i8 : ∀ p : InC (Kept No w5), p.world.cell? ⟨L, 22, none⟩ = some (.int .u32 (is.root.g : Int)) := cell_in (o := 22) HL5.out (fun h => h) rfl
  have i9 : ∀ p : InC (Kept No w5), p.world.cell? ⟨L, 23, none⟩ = some (.int .u32 (is.root.h : Int)) := cell_in (o := 23) HL5.out (fun h => h) rfl
  refine wp_region_in_tail (Kept No w5) 23 (by kernel_rfl) (by kernel_rfl) ((Kept.refl _ _).drew) ?_
  simp only [List.take_succ_cons, List.take_zero, List.drop_succ_cons, List.drop_zero]
  repeat (go_big_quiet_step (first | (go_at_call 32; with_reducible exact in_kept (HAL1.out _ (InC.here _)))))
  refine wpQuiet_nil ?_
  intro w6 hw'
  obtain ⟨⟨wx, k6⟩, hw''⟩ := hw'
  change w6 = wx at hw''
  subst hw''
  have hL6 := k6.heap HL5.out (fun h => h)
  have l26 : w6.cell? ⟨L, 26, none⟩ = some (.bool true) := (cell_of_row w6 L 26 _ _ _ hL6).trans rfl
  have f26 := frozen_of_row w6 L 26 _ _ hL6
  have l2 : w6.cell? ⟨L, 2, none⟩ = some (.pointer none) := (cell_of_row w6 L 2 _ _ _ hL6).trans rfl
  have f2 := frozen_of_row w6 L 2 _ _ hL6
  have HL6 := Lib.hid hL6
  have HV6 := Lib.hid (k6.heap HV5.out (fun h => h))
  have HSN6 := Lib.hid (HSN5.out.no k6)
  have K6 := Lib.hid (K5.out.trans k6)
  clear hL6 k6 n0 n1 n2 n3 n4 n5 n6 n7 n8 n9 i0 i1 i2 i3 i4 i5 i6 i7 i8 i9 HAL1  HV5 HL5 HSN5 K5 hd5 hst5 hi5 
  go_upto_region 12 with fail
  have g1 := heap_setCell_same w6 L 26 _ _ (.bool true) HL6.out
  have g2 := heap_setCell_same _ L 2 _ _ (.pointer (some ⟨s, 0, none⟩)) g1
  have k7 : Kept (fun k => k = L) w6 ((w6.setCell ⟨L, 26, none⟩ (.bool true)).setCell ⟨L, 2, none⟩ (.pointer (some ⟨s, 0, none⟩))) := ((Kept.refl (fun k => k = L) w6).setCell ⟨L, 26, none⟩ _ (fun _ => rfl)).setCell ⟨L, 2, none⟩ _ (fun _ => rfl)
  have hL7 : ((w6.setCell ⟨L, 26, none⟩ (.bool true)).setCell ⟨L, 2, none⟩ (.pointer (some ⟨s, 0, none⟩))).heap[L]? = some (.cells (lifeC x.d j (.pointer (some ⟨s, 0, none⟩)) (.pointer none) wk wb r ik ib is.root ser br true) 57 (0, 0)) := g2
  generalize ((w6.setCell ⟨L, 26, none⟩ (.bool true)).setCell ⟨L, 2, none⟩ (.pointer (some ⟨s, 0, none⟩))) = w7 at *
  have hVL : V ≠ L := cells_ne HV6.out HL6.out (by decide)
  have HL7 := Lib.hid hL7
  have HV7 := Lib.hid (k7.heap HV6.out hVL)
  have K67 := Lib.hid k7
  have K7 := Lib.hid ((K6.out.of_no (fun k => k = L)).trans k7)
  have HVL := Lib.hid hVL
  clear l26 f26 l2 f2 g1 g2 k7 hL7 hVL HV6 K6
  go_upto_region 13 with (first
    | (refine wpList_load_row (by rfl) 55 (.tmp 4) (by rfl) V (by rfl) 55 (seenC (.slice ka N kc) (.slice ta N tc) st.now.root) (0, 0) _ (by exact HV7.out) Tryz.underlying55 (by rfl) (by exact seen_size) ?_)
    | (refine wpList_store_part (by rfl) 55 (.tmp 98) (.tmp 96) (by rfl) L 14 57 (lifeC x.d j (.pointer (some ⟨s, 0, none⟩)) (.pointer none) wk wb r ik ib is.root ser br true) (seenC (.slice ka N kc) (.slice ta N tc) st.now.root) (by rfl) (by rfl) (by exact HL7.out) (by exact seen_size) (by simp [seenC]) (by simp [seenC, Value.oneCell']) ?_))
  rw [over_is2]
  have hL8 := setRow_heap w7 L _ (lifeC x.d j (.pointer (some ⟨s, 0, none⟩)) (.pointer none) wk wb r (.slice ka N kc) (.slice ta N tc) st.now.root ser br true) _ _ HL7.out
  have k8 : Kept (fun k => k = L) w7 (w7.setRow L (lifeC x.d j (.pointer (some ⟨s, 0, none⟩)) (.pointer none) wk wb r (.slice ka N kc) (.slice ta N tc) st.now.root ser br true)) := (Kept.refl _ _).setRow _ _ (fun _ => rfl)
  generalize (w7.setRow L (lifeC x.d j (.pointer (some ⟨s, 0, none⟩)) (.pointer none) wk wb r (.slice ka N kc) (.slice ta N tc) st.now.root ser br true)) = w8 at *
  have K68 := Lib.hid (K67.out.trans k8)
  have K8 := Lib.hid (K7.out.trans k8)
  have HL8 := Lib.hid hL8
  have l24 : w8.cell? ⟨L, 24, none⟩ = some (.int .u64 (ser : Int)) := (cell_of_row w8 L 24 _ _ _ hL8).trans rfl
  have f24 := frozen_of_row w8 L 24 _ _ hL8
  have l25 : w8.cell? ⟨L, 25, none⟩ = some (.bool br) := (cell_of_row w8 L 25 _ _ _ hL8).trans rfl
  have f25 := frozen_of_row w8 L 25 _ _ hL8
  obtain ⟨hd8, hst8, _⟩ := HFAR.out w8 (K2.out.trans K8.out)
  have HST8 := Lib.hid hst8
  clear hd8 hst8 hL8 k8 K7 HV7 HL7
  go_wp2_with (go_at_call 16; refine (serial_ok s x'.d u v (.pointer none) st w8 HST8.out).mono ?_; rintro e w'' ⟨rfl, rfl⟩)
  go_end0
  have g1 := heap_setCell_same w8 L 24 _ _ (.int .u64 (st.serial : Int)) HL8.out
  have g2 := heap_setCell_same _ L 25 _ _ (.bool false) g1
  have hL9 : ((w8.setCell ⟨L, 24, none⟩ (.int .u64 (st.serial : Int))).setCell ⟨L, 25, none⟩ (.bool false)).heap[L]? = some (.cells (lifeC x.d j (.pointer (some ⟨s, 0, none⟩)) (.pointer none) wk wb r (.slice ka N kc) (.slice ta N tc) st.now.root st.serial false true) 57 (0, 0)) := g2
  have k9 : Kept (fun k => k = L) w8 ((w8.setCell ⟨L, 24, none⟩ (.int .u64 (st.serial : Int))).setCell ⟨L, 25, none⟩ (.bool false)) := ((Kept.refl (fun k => k = L) w8).setCell ⟨L, 24, none⟩ _ (fun _ => rfl)).setCell ⟨L, 25, none⟩ _ (fun _ => rfl)
  have k89 := K2.out.trans (K8.out.trans k9)
  obtain ⟨hd9, hst9, _⟩ := HFAR.out _ k89
  rw [HXD.out] at hst9
  have kall : Kept (fun k => x.foot k ∨ k = L) w _ := (HK1.out.mono (N := fun k => x.foot k ∨ k = L) (fun _ _ e => .inl e)).trans (k89.mono (fun _ _ e => .inr e))
  have k69 : Kept (fun k => k = L) w6 _ := K68.out.trans k9
  have hsn9 := HSN6.out.kept k69 (fun g hg e => by subst e; obtain ⟨c, hc⟩ := row_cells HSN6.out.kind hg; exact cells_ne HL6.out hc (by decide) rfl) (fun g hg e => by subst e; obtain ⟨c, hc⟩ := row_cells HSN6.out.body hg; exact cells_ne HL6.out hc (by decide) rfl)
  have hz := HSZ.out
  first
    | exact ⟨x', s, u, v, _, _, rfl, kall, hd9, HXD.out, hz.2.2.2, hst9, hz.1, hz.2.1, hz.2.2.1, hsn9, hL9⟩
    | exact ⟨rfl, kall, x', s, u, v, _, _, hd9, HXD.out, hz.2.2.2, hst9, hz.1, hz.2.1, hz.2.2.1, hsn9, hL9⟩
    | exact ⟨rfl, kall, x', hd9, HXD.out, hz.2.2.2, s, u, v, hst9, hz.1, hz.2.1, hz.2.2.1, _, _, hsn9, hL9⟩
set_option maxHeartbeats 8000000 in
theorem up_will (L j N base : Nat) (sv bv wk wb ik ib : Value) (r : Root8) (ser : Nat) (x : DiskH) (dm dm' : DiskM) (st : StM) (is : SeenM) (w : World) (hL : w.heap[L]? = some (.cells (lifeC x.d j sv bv wk wb r ik ib is.root ser true true) 57 (0, 0))) (hX : DiskAt w x dm)
    (hopen : ∀ w1, Kept No w w1 → Calls Tryz.prog 12 #[dev x.d, .int .i64 (j : Int)] w1 fun e w' => ∃ (x' : DiskH) (s u : Nat) (v : Value), e = .returned (.tuple #[.pointer (some ⟨s, 0, none⟩), .int .i64 0]) ∧ Kept x.foot w1 w' ∧ DiskAt w' x' dm' ∧ x'.d = x.d ∧ (∀ g, x'.foot g → x.foot g ∨ w1.heap.size ≤ g) ∧
      StAt w' s x.d u v (.pointer none) st ∧ w1.heap.size ≤ s ∧ w1.heap.size ≤ u ∧ ∀ g, v.ownBlock = some g → w1.heap.size ≤ g)
    (hlk : Looks st dm') (hfit : st.count + st.now.n ≤ dm'.lies.length) (hN : st.now.n = N) (hN6 : N < 1000000) (hser : ser ≤ st.serial) (hs62 : st.serial < 4611686018427387904) (hI : SeenAt w base ik ib is) (hl1 : is.kind.length = N) (hl2 : is.body.length = N) (wl : SeenM) (hseq : seenM st dm' = wl) (hne : wl ≠ is) (hwr : wl.root = r) (hW : SeenAt w base wk wb wl) :
    Calls Tryz.prog 29 #[.pointer (some ⟨L, 0, none⟩)] w fun e w' => ∃ (x' : DiskH) (s u : Nat) (v kv bv' : Value), e = .returned (.tuple #[]) ∧ Kept (fun k => x.foot k ∨ k = L) w w' ∧ DiskAt w' x' dm' ∧ x'.d = x.d ∧ (∀ g, x'.foot g → x.foot g ∨ w.heap.size ≤ g) ∧
      StAt w' s x.d u v (.pointer none) st ∧ w.heap.size ≤ s ∧ w.heap.size ≤ u ∧ (∀ g, v.ownBlock = some g → w.heap.size ≤ g) ∧ SeenAt w' w.heap.size kv bv' (seenM st dm') ∧
      w'.heap[L]? = some (.cells (lifeC x.d j (.pointer (some ⟨s, 0, none⟩)) (.pointer none) wk wb r kv bv' st.now.root st.serial false true) 57 (0, 0)) := by
  have hfL : ¬ x.foot L := hX.not_foot hL (by decide) (by decide) (by decide)
  have HL := Lib.hid hL
  have HFL := Lib.hid hfL
  have HOPEN := Lib.hid hopen
  have HLK := Lib.hid hlk
  have HFIT := Lib.hid hfit
  have HN := Lib.hid hN
  have HSEQ := Lib.hid hseq
  have hls : (seenM st dm').kind.length = N ∧ (seenM st dm').body.length = N := by simp [seenM, hN]
  have HLS := Lib.hid hls
  have HL1 := Lib.hid hl1
  have HL2 := Lib.hid hl2
  have HI : Hid (∀ w', Kept x.foot w w' → SeenAt w' base ik ib is) := Lib.hid (fun w' k => hI.kept k (fun g hg e => by obtain ⟨c, hc⟩ := row_cells hI.kind hg; exact hX.not_foot hc (by decide) (by decide) (by decide) e) (fun g hg e => by obtain ⟨c, hc⟩ := row_cells hI.body hg; exact hX.not_foot hc (by decide) (by decide) (by decide) e))
  have HW : Hid (∀ w', Kept x.foot w w' → SeenAt w' base wk wb wl) := Lib.hid (fun w' k => hW.kept k (fun g hg e => by obtain ⟨c, hc⟩ := row_cells hW.kind hg; exact hX.not_foot hc (by decide) (by decide) (by decide) e) (fun g hg e => by obtain ⟨c, hc⟩ := row_cells hW.body hg; exact hX.not_foot hc (by decide) (by decide) (by decide) e))
  have HWR := Lib.hid hwr
  have HNE := Lib.hid hne
  have hpn := ptr_not
  have hds : decide ((st.serial : Int) < (ser : Int)) = false := by simp; omega
  clear hL hfL hopen hlk hfit hN hls hl1 hl2 hI hX hseq hW hwr hne
  have hK0 : Kept No w w := Kept.refl _ _
  have l0 : ∀ w', Kept x.foot w w' → w'.cell? ⟨L, 0, none⟩ = some (.pointer (some ⟨x.d, 0, none⟩)) := cell_keeps (o := 0) HL.out HFL.out rfl
  have l1 : ∀ w', Kept x.foot w w' → w'.cell? ⟨L, 1, none⟩ = some (.int .i64 (j : Int)) := cell_keeps (o := 1) HL.out HFL.out rfl
  have hK0f : Kept x.foot w w := Kept.refl _ _
  go_enter Tryz.func29, Tryz.ntmps29
  go_wp2_with fail
  go_region_held3 (fun w' => Kept x.foot w w') (first | assumption | exact Kept.drew (by assumption))
    (first
      | (go_at_call 12; (with_reducible refine (HOPEN.out _ (by first | assumption | exact Kept.drew (by assumption))).mono ?_); rintro e w' ⟨x', s, u, v, rfl, kk, hd, hxd, hf, hst, q1, q2, q3⟩; have hk1 : Kept x.foot w w' := Kept.trans (by first | assumption | exact Kept.drew (by assumption)) kk; have HP := Lib.hid (And.intro hd (And.intro hxd (And.intro hf (And.intro hst (And.intro q1 (And.intro q2 q3))))))))
  have hk1 : Kept x.foot w w' := by assumption
  obtain ⟨hd, hxd, hf, hst, q1, q2, q3⟩ := HP.out
  have hL1 := hk1.heap HL.out HFL.out
  have c2 : w'.cell? ⟨L, 2, none⟩ = some sv := (cell_of_row w' L 2 _ _ _ hL1).trans rfl
  have c3 : w'.cell? ⟨L, 3, none⟩ = some bv := (cell_of_row w' L 3 _ _ _ hL1).trans rfl
  have f2 := frozen_of_row w' L 2 _ _ hL1
  have f3 := frozen_of_row w' L 3 _ _ hL1
  have g1 := heap_setCell_same _ L 3 _ _ (.pointer none) hL1
  have g2 := heap_setCell_same _ L 2 _ _ (.pointer none) g1
  have k2 : Kept (fun k => k = L) w' ((w'.setCell ⟨L, 3, none⟩ (.pointer none)).setCell ⟨L, 2, none⟩ (.pointer none)) := ((Kept.refl (fun k => k = L) w').setCell ⟨L, 3, none⟩ _ (fun _ => rfl)).setCell ⟨L, 2, none⟩ _ (fun _ => rfl)
  have hsz : w.heap.size ≤ s ∧ w.heap.size ≤ u ∧ (∀ g, v.ownBlock = some g → w.heap.size ≤ g) ∧ ∀ g, x'.foot g → x.foot g ∨ w.heap.size ≤ g := by
    simp at q1 q2 q3 hf
    exact ⟨q1, q2, q3, hf⟩
  have HSZ := Lib.hid hsz
  have HXD := Lib.hid hxd
  rw [← hxd] at hst
  have HL2' := Lib.hid g2
  have hfar : ∀ (wz : World), Kept (fun k => k = L) w' wz → DiskAt wz x' dm' ∧ StAt wz s x'.d u v (.pointer none) st ∧ SeenAt wz base ik ib is ∧ SeenAt wz base wk wb wl := fun wz k =>
    ⟨hd.kept k (fun g hg e => by subst e; exact hd.not_foot hL1 (by decide) (by decide) (by decide) hg), hst.kept k (cells_ne hst.head hL1 (by decide)) (cells_ne hst.held.set.head hL1 (by decide)) (fun g hg e => by subst e; obtain ⟨c, hc⟩ := row_cells hst.held.set.row hg; exact cells_ne hL1 hc (by decide) rfl),
      (HI.out w' hk1).kept k (fun g hg e => by subst e; obtain ⟨c, hc⟩ := row_cells (HI.out w' hk1).kind hg; exact cells_ne hL1 hc (by decide) rfl) (fun g hg e => by subst e; obtain ⟨c, hc⟩ := row_cells (HI.out w' hk1).body hg; exact cells_ne hL1 hc (by decide) rfl), (HW.out w' hk1).kept k (fun g hg e => by subst e; obtain ⟨c, hc⟩ := row_cells (HW.out w' hk1).kind hg; exact cells_ne hL1 hc (by decide) rfl) (fun g hg e => by subst e; obtain ⟨c, hc⟩ := row_cells (HW.out w' hk1).body hg; exact cells_ne hL1 hc (by decide) rfl)⟩
  have HFAR := Lib.hid hfar
  have K2 := Lib.hid k2
  have HK1 := Lib.hid hk1
  clear l0 l1 hK0 hK0f hk1 hL1 kk hd hxd hf hst q1 q2 q3 g1 g2 k2 hsz hfar HP
  go_wp2_with fail
  generalize ((w'.setCell ⟨L, 3, none⟩ (.pointer none)).setCell ⟨L, 2, none⟩ (.pointer none)) = w2 at *
  obtain ⟨hd2, hst2, hi2, hw2⟩ := HFAR.out w2 K2.out
  have HD2 := Lib.hid hd2
  have HST2 := Lib.hid hst2
  clear hd2 hst2 hi2 hw2 c2 c3 f2 f3
  refine (look_ok s u v (.pointer none) x' st dm' w2 HST2.out HD2.out HFIT.out HLK.out).mono ?_
  rintro e w3 ⟨kv, bv', rfl, k3, hsn⟩
  obtain ⟨ka, kc, rfl⟩ := row_slice hsn.kind
  obtain ⟨ta, tc, rfl⟩ := row_slice hsn.body
  rw [HLS.out.1, HLS.out.2] at hsn ⊢
  have k4 := k3.alloc (.cells (seenC (.slice ka N kc) (.slice ta N tc) st.now.root) 55)
  have hV := heap_alloc_new w3 (.cells (seenC (.slice ka N kc) (.slice ta N tc) st.now.root) 55)
  have HSN : Hid (SeenAt (w3.alloc (.cells (seenC (.slice ka N kc) (.slice ta N tc) st.now.root) 55)) w.heap.size (.slice ka N kc) (.slice ta N tc) (seenM st dm')) := Lib.hid (by
    have hz : w.heap.size ≤ w2.heap.size := Nat.le_trans HK1.out.size K2.out.size
    rw [HLS.out.1, HLS.out.2] at *
    have h := hsn.no ((Kept.refl No w3).alloc (.cells (seenC (.slice ka N kc) (.slice ta N tc) st.now.root) 55))
    exact ⟨ownsRow_low h.kind hz, ownsRow_low h.body hz⟩)
  have HV4 := Lib.hid hV
  have HL4 := Lib.hid (k4.heap HL2'.out (fun h => h))
  have HST4 := Lib.hid (HST2.out.no k4)
  have K4 := Lib.hid k4
  clear k3 k4 hsn hV HL2' HD2 HST2
  go_wp2_with (refine wpList_store_new (by rfl) 55 (.tmp 4) (.tmp 52) (by rfl) w3 55 #[.slice none 0 0, .slice none 0 0, .int .u32 0, .int .u32 0, .int .u32 0, .int .u32 0, .int .u32 0, .int .u32 0, .int .u32 0, .int .u32 0] (seenC (.slice ka N kc) (.slice ta N tc) st.now.root) (by rfl) (by rfl) (by rfl) (by exact seen_size) (by simp [seenC]) (by simp [seenC, Value.oneCell']) ?_)
  generalize (w3.alloc (.cells (seenC (.slice ka N kc) (.slice ta N tc) st.now.root) 55)) = w4 at *
  generalize w3.heap.size = V at *
  have HSER : Hid (∀ wz, Kept No w4 wz → Calls Tryz.prog 16 #[.pointer (some ⟨s, 0, none⟩)] wz fun e w'' => e = .returned (.int .u64 (st.serial : Int)) ∧ wz = w'') := Lib.hid (fun wz k => serial_ok s x'.d u v (.pointer none) st wz (HST4.out.no k))
  have l24 : ∀ wz, Kept No w4 wz → wz.cell? ⟨L, 24, none⟩ = some (.int .u64 (ser : Int)) := cell_kept (o := 24) HL4.out rfl
  have hK4 : Kept No w4 w4 := Kept.refl _ _
  go_region_held3 (fun wz => Kept No w4 wz) (first | assumption | exact Kept.drew (by assumption))
    (first
      | (go_at_call 16; (with_reducible refine (HSER.out _ (by first | assumption | exact Kept.drew (by assumption))).mono ?_); rintro e w'' ⟨rfl, rfl⟩))
  clear l24 hK4
  go_wp2_with fail
  have k5 : Kept No w4 w4.drew := (Kept.refl No w4).drew
  have HV5 := Lib.hid (k5.heap HV4.out (fun h => h))
  have HL5 := Lib.hid (k5.heap HL4.out (fun h => h))
  have HST5 := Lib.hid (HST4.out.no k5)
  have HSN5 := Lib.hid (HSN.out.no k5)
  have K5 := Lib.hid (K4.out.trans k5)
  clear k5 HV4 HL4 HST4 HSN K4 HSER
  generalize w4.drew = w5 at *
  obtain ⟨hd5, hst5, hi5, hw5⟩ := HFAR.out w5 (K2.out.trans (K5.out.of_no _))
  have HAL1 : Hid (∀ wz, Kept No w5 wz → Calls Tryz.prog 32 #[.agg #[.slice ka N kc, .slice ta N tc, .int .u32 (st.now.root.a : Int), .int .u32 (st.now.root.b : Int), .int .u32 (st.now.root.c : Int), .int .u32 (st.now.root.d : Int), .int .u32 (st.now.root.e : Int), .int .u32 (st.now.root.f : Int), .int .u32 (st.now.root.g : Int), .int .u32 (st.now.root.h : Int)], .agg #[ik, ib, .int .u32 (is.root.a : Int), .int .u32 (is.root.b : Int), .int .u32 (is.root.c : Int), .int .u32 (is.root.d : Int), .int .u32 (is.root.e : Int), .int .u32 (is.root.f : Int), .int .u32 (is.root.g : Int), .int .u32 (is.root.h : Int)]] wz fun e w'' => e = .returned (.bool false) ∧ Kept No wz w'') := Lib.hid (fun wz k => by
    have h := alike_ok _ _ _ _ _ _ (seenM st dm') is wz (HSN5.out.no k) (hi5.no k) (by rw [HLS.out.1, HLS.out.2]) (by rw [HL1.out, HL2.out]) (by rw [HLS.out.1]; omega) (by rw [HL1.out]; omega)
    rw [decide_eq_false (by rw [HSEQ.out]; exact HNE.out)] at h
    exact h)
  have HAL2 : Hid (∀ wz, Kept No w5 wz → Calls Tryz.prog 32 #[.agg #[.slice ka N kc, .slice ta N tc, .int .u32 (st.now.root.a : Int), .int .u32 (st.now.root.b : Int), .int .u32 (st.now.root.c : Int), .int .u32 (st.now.root.d : Int), .int .u32 (st.now.root.e : Int), .int .u32 (st.now.root.f : Int), .int .u32 (st.now.root.g : Int), .int .u32 (st.now.root.h : Int)], .agg #[wk, wb, .int .u32 (r.a : Int), .int .u32 (r.b : Int), .int .u32 (r.c : Int), .int .u32 (r.d : Int), .int .u32 (r.e : Int), .int .u32 (r.f : Int), .int .u32 (r.g : Int), .int .u32 (r.h : Int)]] wz fun e w'' => e = .returned (.bool true) ∧ Kept No wz w'') := Lib.hid (fun wz k => by
    have h := alike_ok _ _ _ _ _ _ (seenM st dm') wl wz (HSN5.out.no k) (hw5.no k) (by rw [HLS.out.1, HLS.out.2]) (by rw [← HSEQ.out, HLS.out.1, HLS.out.2]) (by rw [HLS.out.1]; omega) (by rw [← HSEQ.out, HLS.out.1]; omega)
    rw [decide_eq_true HSEQ.out, HWR.out] at h
    exact h)
  have n0 : ∀ p : InC (Kept No w5), p.world.cell? ⟨V, 0, none⟩ = some (.slice ka N kc) := cell_in (o := 0) HV5.out (fun h => h) rfl
  have n1 : ∀ p : InC (Kept No w5), p.world.cell? ⟨V, 1, none⟩ = some (.slice ta N tc) := cell_in (o := 1) HV5.out (fun h => h) rfl
  have n2 : ∀ p : InC (Kept No w5), p.world.cell? ⟨V, 2, none⟩ = some (.int .u32 (st.now.root.a : Int)) := cell_in (o := 2) HV5.out (fun h => h) rfl
  have n3 : ∀ p : InC (Kept No w5), p.world.cell? ⟨V, 3, none⟩ = some (.int .u32 (st.now.root.b : Int)) := cell_in (o := 3) HV5.out (fun h => h) rfl
  have n4 : ∀ p : InC (Kept No w5), p.world.cell? ⟨V, 4, none⟩ = some (.int .u32 (st.now.root.c : Int)) := cell_in (o := 4) HV5.out (fun h => h) rfl
  have n5 : ∀ p : InC (Kept No w5), p.world.cell? ⟨V, 5, none⟩ = some (.int .u32 (st.now.root.d : Int)) := cell_in (o := 5) HV5.out (fun h => h) rfl
  have n6 : ∀ p : InC (Kept No w5), p.world.cell? ⟨V, 6, none⟩ = some (.int .u32 (st.now.root.e : Int)) := cell_in (o := 6) HV5.out (fun h => h) rfl
  have n7 : ∀ p : InC (Kept No w5), p.world.cell? ⟨V, 7, none⟩ = some (.int .u32 (st.now.root.f : Int)) := cell_in (o := 7) HV5.out (fun h => h) rfl
  have n8 : ∀ p : InC (Kept No w5), p.world.cell? ⟨V, 8, none⟩ = some (.int .u32 (st.now.root.g : Int)) := cell_in (o := 8) HV5.out (fun h => h) rfl
  have n9 : ∀ p : InC (Kept No w5), p.world.cell? ⟨V, 9, none⟩ = some (.int .u32 (st.now.root.h : Int)) := cell_in (o := 9) HV5.out (fun h => h) rfl
  have i0 : ∀ p : InC (Kept No w5), p.world.cell? ⟨L, 14, none⟩ = some (ik) := cell_in (o := 14) HL5.out (fun h => h) rfl
  have i1 : ∀ p : InC (Kept No w5), p.world.cell? ⟨L, 15, none⟩ = some (ib) := cell_in (o := 15) HL5.out (fun h => h) rfl
  have i2 : ∀ p : InC (Kept No w5), p.world.cell? ⟨L, 16, none⟩ = some (.int .u32 (is.root.a : Int)) := cell_in (o := 16) HL5.out (fun h => h) rfl
  have i3 : ∀ p : InC (Kept No w5), p.world.cell? ⟨L, 17, none⟩ = some (.int .u32 (is.root.b : Int)) := cell_in (o := 17) HL5.out (fun h => h) rfl
  have i4 : ∀ p : InC (Kept No w5), p.world.cell? ⟨L, 18, none⟩ = some (.int .u32 (is.root.c : Int)) := cell_in (o := 18) HL5.out (fun h => h) rfl
  have i5 : ∀ p : InC (Kept No w5), p.world.cell? ⟨L, 19, none⟩ = some (.int .u32 (is.root.d : Int)) := cell_in (o := 19) HL5.out (fun h => h) rfl
  have i6 : ∀ p : InC (Kept No w5), p.world.cell? ⟨L, 20, none⟩ = some (.int .u32 (is.root.e : Int)) := cell_in (o := 20) HL5.out (fun h => h) rfl
  have i7 : ∀ p : InC (Kept No w5), p.world.cell? ⟨L, 21, none⟩ = some (.int .u32 (is.root.f : Int)) := cell_in (o := 21) HL5.out (fun h => h) rfl
  have i8 : ∀ p : InC (Kept No w5), p.world.cell? ⟨L, 22, none⟩ = some (.int .u32 (is.root.g : Int)) := cell_in (o := 22) HL5.out (fun h => h) rfl
  have i9 : ∀ p : InC (Kept No w5), p.world.cell? ⟨L, 23, none⟩ = some (.int .u32 (is.root.h : Int)) := cell_in (o := 23) HL5.out (fun h => h) rfl
  have y0 : ∀ p : InC (Kept No w5), p.world.cell? ⟨L, 4, none⟩ = some (wk) := cell_in (o := 4) HL5.out (fun h => h) rfl
  have y1 : ∀ p : InC (Kept No w5), p.world.cell? ⟨L, 5, none⟩ = some (wb) := cell_in (o := 5) HL5.out (fun h => h) rfl
  have y2 : ∀ p : InC (Kept No w5), p.world.cell? ⟨L, 6, none⟩ = some (.int .u32 (r.a : Int)) := cell_in (o := 6) HL5.out (fun h => h) rfl
  have y3 : ∀ p : InC (Kept No w5), p.world.cell? ⟨L, 7, none⟩ = some (.int .u32 (r.b : Int)) := cell_in (o := 7) HL5.out (fun h => h) rfl
  have y4 : ∀ p : InC (Kept No w5), p.world.cell? ⟨L, 8, none⟩ = some (.int .u32 (r.c : Int)) := cell_in (o := 8) HL5.out (fun h => h) rfl
  have y5 : ∀ p : InC (Kept No w5), p.world.cell? ⟨L, 9, none⟩ = some (.int .u32 (r.d : Int)) := cell_in (o := 9) HL5.out (fun h => h) rfl
  have y6 : ∀ p : InC (Kept No w5), p.world.cell? ⟨L, 10, none⟩ = some (.int .u32 (r.e : Int)) := cell_in (o := 10) HL5.out (fun h => h) rfl
  have y7 : ∀ p : InC (Kept No w5), p.world.cell? ⟨L, 11, none⟩ = some (.int .u32 (r.f : Int)) := cell_in (o := 11) HL5.out (fun h => h) rfl
  have y8 : ∀ p : InC (Kept No w5), p.world.cell? ⟨L, 12, none⟩ = some (.int .u32 (r.g : Int)) := cell_in (o := 12) HL5.out (fun h => h) rfl
  have y9 : ∀ p : InC (Kept No w5), p.world.cell? ⟨L, 13, none⟩ = some (.int .u32 (r.h : Int)) := cell_in (o := 13) HL5.out (fun h => h) rfl
  have lbr : ∀ p : InC (Kept No w5), p.world.cell? ⟨L, 25, none⟩ = some (.bool true) := cell_in (o := 25) HL5.out (fun h => h) rfl
  refine wp_region_in_tail (Kept No w5) 23 (by kernel_rfl) (by kernel_rfl) ((Kept.refl _ _).drew) ?_
  simp only [List.take_succ_cons, List.take_zero, List.drop_succ_cons, List.drop_zero]
  repeat (go_big_quiet_step (first | (go_at_call 32; with_reducible exact in_kept (HAL1.out _ (InC.here _))) | (go_at_call 32; with_reducible exact in_kept (HAL2.out _ (InC.here _)))))
  refine wpQuiet_nil ?_
  intro w6 hw'
  obtain ⟨⟨wx, k6⟩, hw''⟩ := hw'
  change w6 = wx at hw''
  subst hw''
  have hL6 := k6.heap HL5.out (fun h => h)
  have l26 : w6.cell? ⟨L, 26, none⟩ = some (.bool true) := (cell_of_row w6 L 26 _ _ _ hL6).trans rfl
  have f26 := frozen_of_row w6 L 26 _ _ hL6
  have l2 : w6.cell? ⟨L, 2, none⟩ = some (.pointer none) := (cell_of_row w6 L 2 _ _ _ hL6).trans rfl
  have f2 := frozen_of_row w6 L 2 _ _ hL6
  have HL6 := Lib.hid hL6
  have HV6 := Lib.hid (k6.heap HV5.out (fun h => h))
  have HSN6 := Lib.hid (HSN5.out.no k6)
  have K6 := Lib.hid (K5.out.trans k6)
  clear hL6 k6 n0 n1 n2 n3 n4 n5 n6 n7 n8 n9 i0 i1 i2 i3 i4 i5 i6 i7 i8 i9 y0 y1 y2 y3 y4 y5 y6 y7 y8 y9 lbr HAL1 HAL2 HV5 HL5 HSN5 K5 hd5 hst5 hi5 hw5
  go_upto_region 12 with fail
  have g1 := heap_setCell_same w6 L 26 _ _ (.bool true) HL6.out
  have g2 := heap_setCell_same _ L 2 _ _ (.pointer (some ⟨s, 0, none⟩)) g1
  have k7 : Kept (fun k => k = L) w6 ((w6.setCell ⟨L, 26, none⟩ (.bool true)).setCell ⟨L, 2, none⟩ (.pointer (some ⟨s, 0, none⟩))) := ((Kept.refl (fun k => k = L) w6).setCell ⟨L, 26, none⟩ _ (fun _ => rfl)).setCell ⟨L, 2, none⟩ _ (fun _ => rfl)
  have hL7 : ((w6.setCell ⟨L, 26, none⟩ (.bool true)).setCell ⟨L, 2, none⟩ (.pointer (some ⟨s, 0, none⟩))).heap[L]? = some (.cells (lifeC x.d j (.pointer (some ⟨s, 0, none⟩)) (.pointer none) wk wb r ik ib is.root ser true true) 57 (0, 0)) := g2
  generalize ((w6.setCell ⟨L, 26, none⟩ (.bool true)).setCell ⟨L, 2, none⟩ (.pointer (some ⟨s, 0, none⟩))) = w7 at *
  have hVL : V ≠ L := cells_ne HV6.out HL6.out (by decide)
  have HL7 := Lib.hid hL7
  have HV7 := Lib.hid (k7.heap HV6.out hVL)
  have K67 := Lib.hid k7
  have K7 := Lib.hid ((K6.out.of_no (fun k => k = L)).trans k7)
  have HVL := Lib.hid hVL
  clear l26 f26 l2 f2 g1 g2 k7 hL7 hVL HV6 K6
  go_upto_region 13 with (first
    | (refine wpList_load_row (by rfl) 55 (.tmp 4) (by rfl) V (by rfl) 55 (seenC (.slice ka N kc) (.slice ta N tc) st.now.root) (0, 0) _ (by exact HV7.out) Tryz.underlying55 (by rfl) (by exact seen_size) ?_)
    | (refine wpList_store_part (by rfl) 55 (.tmp 98) (.tmp 96) (by rfl) L 14 57 (lifeC x.d j (.pointer (some ⟨s, 0, none⟩)) (.pointer none) wk wb r ik ib is.root ser true true) (seenC (.slice ka N kc) (.slice ta N tc) st.now.root) (by rfl) (by rfl) (by exact HL7.out) (by exact seen_size) (by simp [seenC]) (by simp [seenC, Value.oneCell']) ?_))
  rw [over_is2]
  have hL8 := setRow_heap w7 L _ (lifeC x.d j (.pointer (some ⟨s, 0, none⟩)) (.pointer none) wk wb r (.slice ka N kc) (.slice ta N tc) st.now.root ser true true) _ _ HL7.out
  have k8 : Kept (fun k => k = L) w7 (w7.setRow L (lifeC x.d j (.pointer (some ⟨s, 0, none⟩)) (.pointer none) wk wb r (.slice ka N kc) (.slice ta N tc) st.now.root ser true true)) := (Kept.refl _ _).setRow _ _ (fun _ => rfl)
  generalize (w7.setRow L (lifeC x.d j (.pointer (some ⟨s, 0, none⟩)) (.pointer none) wk wb r (.slice ka N kc) (.slice ta N tc) st.now.root ser true true)) = w8 at *
  have K68 := Lib.hid (K67.out.trans k8)
  have K8 := Lib.hid (K7.out.trans k8)
  have HL8 := Lib.hid hL8
  have l24 : w8.cell? ⟨L, 24, none⟩ = some (.int .u64 (ser : Int)) := (cell_of_row w8 L 24 _ _ _ hL8).trans rfl
  have f24 := frozen_of_row w8 L 24 _ _ hL8
  have l25 : w8.cell? ⟨L, 25, none⟩ = some (.bool true) := (cell_of_row w8 L 25 _ _ _ hL8).trans rfl
  have f25 := frozen_of_row w8 L 25 _ _ hL8
  obtain ⟨hd8, hst8, _⟩ := HFAR.out w8 (K2.out.trans K8.out)
  have HST8 := Lib.hid hst8
  clear hd8 hst8 hL8 k8 K7 HV7 HL7
  go_wp2_with (go_at_call 16; refine (serial_ok s x'.d u v (.pointer none) st w8 HST8.out).mono ?_; rintro e w'' ⟨rfl, rfl⟩)
  go_end0
  have g1 := heap_setCell_same w8 L 24 _ _ (.int .u64 (st.serial : Int)) HL8.out
  have g2 := heap_setCell_same _ L 25 _ _ (.bool false) g1
  have hL9 : ((w8.setCell ⟨L, 24, none⟩ (.int .u64 (st.serial : Int))).setCell ⟨L, 25, none⟩ (.bool false)).heap[L]? = some (.cells (lifeC x.d j (.pointer (some ⟨s, 0, none⟩)) (.pointer none) wk wb r (.slice ka N kc) (.slice ta N tc) st.now.root st.serial false true) 57 (0, 0)) := g2
  have k9 : Kept (fun k => k = L) w8 ((w8.setCell ⟨L, 24, none⟩ (.int .u64 (st.serial : Int))).setCell ⟨L, 25, none⟩ (.bool false)) := ((Kept.refl (fun k => k = L) w8).setCell ⟨L, 24, none⟩ _ (fun _ => rfl)).setCell ⟨L, 25, none⟩ _ (fun _ => rfl)
  have k89 := K2.out.trans (K8.out.trans k9)
  obtain ⟨hd9, hst9, _⟩ := HFAR.out _ k89
  rw [HXD.out] at hst9
  have kall : Kept (fun k => x.foot k ∨ k = L) w _ := (HK1.out.mono (N := fun k => x.foot k ∨ k = L) (fun _ _ e => .inl e)).trans (k89.mono (fun _ _ e => .inr e))
  have k69 : Kept (fun k => k = L) w6 _ := K68.out.trans k9
  have hsn9 := HSN6.out.kept k69 (fun g hg e => by subst e; obtain ⟨c, hc⟩ := row_cells HSN6.out.kind hg; exact cells_ne HL6.out hc (by decide) rfl) (fun g hg e => by subst e; obtain ⟨c, hc⟩ := row_cells HSN6.out.body hg; exact cells_ne HL6.out hc (by decide) rfl)
  have hz := HSZ.out
  first
    | exact ⟨x', s, u, v, _, _, rfl, kall, hd9, HXD.out, hz.2.2.2, hst9, hz.1, hz.2.1, hz.2.2.1, hsn9, hL9⟩
    | exact ⟨rfl, kall, x', s, u, v, _, _, hd9, HXD.out, hz.2.2.2, hst9, hz.1, hz.2.1, hz.2.2.1, hsn9, hL9⟩
    | exact ⟨rfl, kall, x', hd9, HXD.out, hz.2.2.2, s, u, v, hst9, hz.1, hz.2.1, hz.2.2.1, _, _, hsn9, hL9⟩
set_option maxHeartbeats 4000000 in
theorem lcommit_no (L j us : Nat) (vs bp wk wb ik ib : Value) (r q : Root8) (br : Bool) (b s u : Nat) (v : Value) (hm : Nat) (x : DiskH) (st : StM) (dm dm' : DiskM) (m : BtM) (si sn : Int) (so : Bool) (sp : UInt8) (sx : List UInt8) (kv : Value) (st0 sc : Int) (w : World)
    (hL : w.heap[L]? = some (.cells (lifeC x.d j (.pointer (some ⟨s, 0, none⟩)) (.pointer (some ⟨b, 0, none⟩)) wk wb r ik ib q st.serial br true) 57 (0, 0)))
    (hB : BtAt w b s u v hm m) (hS : StAt w s x.d us vs bp st) (hX : DiskAt w x dm) (hme : m.ended = false) (hpos : ∀ y ∈ m.has, 0 < y.1) (hf : ¬ x.foot hm) (hser : st.next < 4611686018427387904) (hpl : dm.pend.length < 100000) (hcn : st.count ≤ dm.lies.length)
    (hs0 : 0 < m.size) (hno : (commitM st m dm).2.2.2 = 40) (hdm : (commitM st m dm).2.2.1 = dm') (hoff : dm'.off = true) :
    Calls Tryz.prog 63 #[.pointer (some ⟨L, 0, none⟩), .agg #[.int .i64 6, .int .i64 si, .int .i64 sn, .bool so, .int .u8 (sp.toNat : Int), .string ⟨⟨sx⟩⟩, kv, .int .i64 st0, .int .i64 sc]] w fun e w' => ∃ x' : DiskH, e = .returned (.tuple #[]) ∧ Kept (fun k => x.foot k ∨ k = s ∨ k = b ∨ k = hm ∨ k = L) w w' ∧ DiskAt w' x' dm' ∧ x'.d = x.d ∧ (∀ g, x'.foot g → x.foot g ∨ w.heap.size ≤ g) ∧
      w'.heap[L]? = some (.cells (lifeC x.d j (.pointer none) (.pointer none) wk wb r ik ib q st.serial true true) 57 (0, 0)) := by
  have hco := fun w' (k : Kept No w w') => commit_ok2 b s u us hm v vs bp x st dm m w' (hB.no k) (hS.no k) (hX.kept k (fun _ _ h => h)) hme hpos hf hser hpl hcn
  have hsz := fun w' (k : Kept No w w') => size_ok b s u v hm m w' (hB.no k)
  have hszm : m.size ≤ 4097 := by have := hB.len; unfold BtM.size; split <;> omega
  have hfL : ¬ x.foot L := hX.not_foot hL (by decide) (by decide) (by decide)
  have n1 : L ≠ s := cells_ne hL hS.head (by decide)
  have n2 : L ≠ b := cells_ne hL hB.head (by decide)
  have n3 : L ≠ hm := by obtain ⟨D, hD⟩ := hB.has; obtain ⟨es, clock, hh, -⟩ := hD.own; exact map_ne hL hh
  generalize hALT : (¬ (room (st.count : Int) < m.size ∨ m.changed = false)) = ALTP at hco
  clear hALT
  generalize hC : commitM st m dm = C at *
  obtain ⟨stc, mc, dmc, ans⟩ := C
  simp only at hno hdm hco
  subst hno hdm
  have HCO := Lib.hid hco
  have HSZ := Lib.hid hsz
  have HL := Lib.hid hL
  have HFL := Lib.hid hfL
  have HN1 := Lib.hid n1
  have HN2 := Lib.hid n2
  have HN3 := Lib.hid n3
  have HOFF := Lib.hid hoff
  have hd0 : decide ((0 : Int) < (m.size : Int)) = true := by simp; omega
  clear hL hB hS hX hco hsz hC hfL n1 n2 n3 hpos hf hcn hpl hme hoff
  go_enter Tryz.func63, Tryz.ntmps63
  go_upto_region 1 with fail
  have hX0 := heap_alloc_new w (.cells #[.int .i64 6, .int .i64 si, .int .i64 sn, .bool so, .int .u8 (sp.toNat : Int), .string ⟨⟨sx⟩⟩, kv, .int .i64 st0, .int .i64 sc] 62)
  have k1 : Kept No w (w.alloc (.cells #[.int .i64 6, .int .i64 si, .int .i64 sn, .bool so, .int .u8 (sp.toNat : Int), .string ⟨⟨sx⟩⟩, kv, .int .i64 st0, .int .i64 sc] 62)) := (Kept.refl _ _).alloc _
  have hL1 := k1.heap HL.out (fun h => h)
  have K1 := Lib.hid k1
  generalize (w.alloc (.cells #[.int .i64 6, .int .i64 si, .int .i64 sn, .bool so, .int .u8 (sp.toNat : Int), .string ⟨⟨sx⟩⟩, kv, .int .i64 st0, .int .i64 sc] 62)) = w1 at *
  generalize hXs : w.heap.size = X at *
  have HXS := Lib.hid hXs
  clear hXs
  have x0 : w1.cell? ⟨X, 0, none⟩ = some (.int .i64 6) := (cell_of_row w1 X 0 _ _ _ hX0).trans rfl
  have l3 : w1.cell? ⟨L, 3, none⟩ = some (.pointer (some ⟨b, 0, none⟩)) := (cell_of_row w1 L 3 _ _ _ hL1).trans rfl
  have HL1 := Lib.hid hL1
  clear hX0 hL1 k1
  have hfar : ∀ {w2 : World}, Kept (fun k => x.foot k ∨ k = s ∨ k = b ∨ k = hm) w1 w2 → w2.heap[L]? = some (.cells (lifeC x.d j (.pointer (some ⟨s, 0, none⟩)) (.pointer (some ⟨b, 0, none⟩)) wk wb r ik ib q st.serial br true) 57 (0, 0)) := fun k2 => k2.heap HL1.out (fun e => e.elim HFL.out (fun e => e.elim HN1.out (fun e => e.elim HN2.out HN3.out)))
  have HFAR := Lib.hid (fun w2 (k2 : Kept (fun k => x.foot k ∨ k = s ∨ k = b ∨ k = hm) w1 w2) => hfar k2)
  clear hfar
  generalize m.size = SZ at *
  go_upto_region 8 with (first
    | (go_at_call 20; refine (HSZ.out _ K1.out).mono ?_; rintro e w2 ⟨rfl, rfl⟩)
    | (go_at_call 24; refine (HCO.out _ K1.out).mono ?_; rintro e w2 ⟨x', u', v', rfl, k2, hd2, hx2, hf2, hs2, hb2, ha2⟩; have HL2 := Lib.hid (HFAR.out _ k2); have HP := Lib.hid (And.intro k2 (And.intro hd2 (And.intro hx2 hf2))); clear k2 hd2 hx2 hf2 hs2 hb2 ha2))
  obtain ⟨k2, hd2, hx2, hf2⟩ := HP.out
  have hL2 := HL2.out
  have HLIT : Hid (∀ wz, Kept (fun k => k = L) w2 wz → Calls Tryz.prog 60 #[.pointer (some ⟨x.d, 0, none⟩)] wz fun e w'' => e = .returned (.bool false) ∧ wz = w'') := Lib.hid (fun wz k => by
    have h := dlit_ok x' dmc wz (hd2.kept k (fun g hg e => by subst e; exact hd2.not_foot hL2 (by decide) (by decide) (by decide) hg))
    rw [hx2, HOFF.out] at h
    exact h)
  have c0 : w2.cell? ⟨L, 0, none⟩ = some (.pointer (some ⟨x.d, 0, none⟩)) := (cell_of_row w2 L 0 _ _ _ hL2).trans rfl
  have c2 : w2.cell? ⟨L, 2, none⟩ = some (.pointer (some ⟨s, 0, none⟩)) := (cell_of_row w2 L 2 _ _ _ hL2).trans rfl
  have c3 : w2.cell? ⟨L, 3, none⟩ = some (.pointer (some ⟨b, 0, none⟩)) := (cell_of_row w2 L 3 _ _ _ hL2).trans rfl
  have c25 : w2.cell? ⟨L, 25, none⟩ = some (.bool br) := (cell_of_row w2 L 25 _ _ _ hL2).trans rfl
  have c26 : w2.cell? ⟨L, 26, none⟩ = some (.bool true) := (cell_of_row w2 L 26 _ _ _ hL2).trans rfl
  have f2 := frozen_of_row w2 L 2 _ _ hL2
  have f3 := frozen_of_row w2 L 3 _ _ hL2
  have f25 := frozen_of_row w2 L 25 _ _ hL2
  have f26 := frozen_of_row w2 L 26 _ _ hL2
  clear k2 hd2 hx2 hf2 hL2 l3 x0
  go_wp2_with (go_at_call 60; refine (HLIT.out _ ((Kept.refl (fun k => k = L) w2).setCell ⟨L, 3, none⟩ _ (fun _ => rfl))).mono ?_; rintro e w'' ⟨rfl, rfl⟩)
  go_end0
  obtain ⟨k2, hd2, hx2, hf2⟩ := HP.out
  have g1 := heap_setCell_same _ L 3 _ _ (.pointer none) HL2.out
  have g2 := heap_setCell_same _ L 26 _ _ (.bool true) g1
  have g3 := heap_setCell_same _ L 25 _ _ (.bool true) g2
  have g4 := heap_setCell_same _ L 2 _ _ (.pointer none) g3
  have k3 : Kept (fun k => k = L) w2 ((((w2.setCell ⟨L, 3, none⟩ (.pointer none)).setCell ⟨L, 26, none⟩ (.bool true)).setCell ⟨L, 25, none⟩ (.bool true)).setCell ⟨L, 2, none⟩ (.pointer none)) := ((((Kept.refl (fun k => k = L) w2).setCell ⟨L, 3, none⟩ _ (fun _ => rfl)).setCell ⟨L, 26, none⟩ _ (fun _ => rfl)).setCell ⟨L, 25, none⟩ _ (fun _ => rfl)).setCell ⟨L, 2, none⟩ _ (fun _ => rfl)
  have hd : DiskAt _ x' dmc := hd2.kept k3 (fun g hg e => by subst e; exact hd2.not_foot HL2.out (by decide) (by decide) (by decide) hg)
  have kall : Kept (fun k => x.foot k ∨ k = s ∨ k = b ∨ k = hm ∨ k = L) w _ := ((K1.out.of_no _).trans (k2.mono fun _ _ e => by rcases e with e | e | e | e <;> simp [e])).trans (k3.mono fun _ _ e => by simp [e])
  have hf3 : ∀ g, x'.foot g → x.foot g ∨ w.heap.size ≤ g := fun g hg => (hf2 g hg).imp id (fun h => Nat.le_trans K1.out.size h)
  have g5 : ((((w2.setCell ⟨L, 3, none⟩ (.pointer none)).setCell ⟨L, 26, none⟩ (.bool true)).setCell ⟨L, 25, none⟩ (.bool true)).setCell ⟨L, 2, none⟩ (.pointer none)).heap[L]? = some (.cells (lifeC x.d j (.pointer none) (.pointer none) wk wb r ik ib q st.serial true true) 57 (0, 0)) := g4
  first
    | exact ⟨x', rfl, kall, hd, hx2, hf3, g5⟩
    | exact ⟨rfl, kall, g5, x', hd, hx2, hf3⟩
    | exact ⟨rfl, kall, x', hd, hx2, hf3, g5⟩
set_option maxHeartbeats 4000000 in
theorem lstep6_no (L j us : Nat) (vs bp wk wb ik ib : Value) (r q : Root8) (br : Bool) (b s u : Nat) (v : Value) (hm : Nat) (x : DiskH) (st : StM) (dm dm' : DiskM) (m : BtM) (si sn : Int) (so : Bool) (sp : UInt8) (sx : List UInt8) (kv : Value) (st0 sc : Int) (w : World)
    (hL : w.heap[L]? = some (.cells (lifeC x.d j (.pointer (some ⟨s, 0, none⟩)) (.pointer (some ⟨b, 0, none⟩)) wk wb r ik ib q st.serial br true) 57 (0, 0)))
    (hB : BtAt w b s u v hm m) (hS : StAt w s x.d us vs bp st) (hX : DiskAt w x dm) (hme : m.ended = false) (hpos : ∀ y ∈ m.has, 0 < y.1) (hf : ¬ x.foot hm) (hser : st.next < 4611686018427387904) (hpl : dm.pend.length < 100000) (hcn : st.count ≤ dm.lies.length)
    (hs0 : 0 < m.size) (hno : (commitM st m dm).2.2.2 = 40) (hdm : (commitM st m dm).2.2.1 = dm') (hoff : dm'.off = true) :
    Calls Tryz.prog 27 #[.pointer (some ⟨L, 0, none⟩), .agg #[.int .i64 6, .int .i64 si, .int .i64 sn, .bool so, .int .u8 (sp.toNat : Int), .string ⟨⟨sx⟩⟩, kv, .int .i64 st0, .int .i64 sc]] w fun e w' => ∃ x' : DiskH, e = .returned (.tuple #[]) ∧ Kept (fun k => x.foot k ∨ k = s ∨ k = b ∨ k = hm ∨ k = L) w w' ∧ DiskAt w' x' dm' ∧ x'.d = x.d ∧ (∀ g, x'.foot g → x.foot g ∨ w.heap.size ≤ g) ∧
      w'.heap[L]? = some (.cells (lifeC x.d j (.pointer none) (.pointer none) wk wb r ik ib q st.serial true true) 57 (0, 0)) := by
  have HL := Lib.hid hL
  have hlc := fun w' (k : Kept No w w') => lcommit_no L j us vs bp wk wb ik ib r q br b s u v hm x st dm dm' m si sn so sp sx kv st0 sc w' (k.heap hL (fun h => h)) (hB.no k) (hS.no k) (hX.kept k (fun _ _ h => h)) hme hpos hf hser hpl hcn hs0 hno hdm hoff
  have HLC := Lib.hid hlc
  clear hL hlc hB hS hX hme hpos hf hser hpl hcn hs0 hno hdm hoff
  go_enter Tryz.func27, Tryz.ntmps27
  go_upto_region 1 with fail
  have hX0 := heap_alloc_new w (.cells #[.int .i64 6, .int .i64 si, .int .i64 sn, .bool so, .int .u8 (sp.toNat : Int), .string ⟨⟨sx⟩⟩, kv, .int .i64 st0, .int .i64 sc] 62)
  have k1 : Kept No w (w.alloc (.cells #[.int .i64 6, .int .i64 si, .int .i64 sn, .bool so, .int .u8 (sp.toNat : Int), .string ⟨⟨sx⟩⟩, kv, .int .i64 st0, .int .i64 sc] 62)) := (Kept.refl _ _).alloc _
  have hL1 := k1.heap HL.out (fun h => h)
  have K1 := Lib.hid k1
  generalize (w.alloc (.cells #[.int .i64 6, .int .i64 si, .int .i64 sn, .bool so, .int .u8 (sp.toNat : Int), .string ⟨⟨sx⟩⟩, kv, .int .i64 st0, .int .i64 sc] 62)) = w1 at *
  generalize hXs : w.heap.size = X at *
  have HXS := Lib.hid hXs
  clear hXs
  have x0 : w1.cell? ⟨X, 0, none⟩ = some (.int .i64 6) := (cell_of_row w1 X 0 _ _ _ hX0).trans rfl
  have l3 : w1.cell? ⟨L, 3, none⟩ = some (.pointer (some ⟨b, 0, none⟩)) := (cell_of_row w1 L 3 _ _ _ hL1).trans rfl
  have HX := Lib.hid hX0
  clear hX0 hL1 k1
  go_wp2_with (first
    | (refine wpList_load_row (by rfl) 62 (.tmp 3) (by rfl) X (by rfl) _ _ _ _ HX.out Tryz.underlying62 (by rfl) (by exact step_size) ?_)
    | (go_at_call 63; refine (HLC.out _ K1.out).mono ?_; rintro e w2 ⟨x', rfl, k2, hd, hx2, hf2, hl2⟩; have HP := Lib.hid (And.intro k2 (And.intro hd (And.intro hx2 (And.intro hf2 hl2)))); clear k2 hd hx2 hf2 hl2))
  go_end0
  obtain ⟨k2, hd, hx2, hf2, hl2⟩ := HP.out
  have kall := (K1.out.of_no (fun k => x.foot k ∨ k = s ∨ k = b ∨ k = hm ∨ k = L)).trans k2
  have hf3 : ∀ g, x'.foot g → x.foot g ∨ w.heap.size ≤ g := fun g hg => (hf2 g hg).imp id (fun h => Nat.le_trans K1.out.size h)
  first
    | exact ⟨x', rfl, kall, hd, hx2, hf3, hl2⟩
    | exact ⟨rfl, kall, x', hd, hx2, hf3, hl2⟩
set_option maxHeartbeats 2000000 in
theorem lopen_skip (L j : Nat) (sv bv wk wb ik ib : Value) (r q : Root8) (ser : Nat) (x : DiskH) (dm : DiskM) (si sn : Int) (so : Bool) (sp : UInt8) (sx : List UInt8) (kv : Value) (st0 sc : Int) (w : World) (hL : w.heap[L]? = some (.cells (lifeC x.d j sv bv wk wb r ik ib q ser true true) 57 (0, 0))) (hX : DiskAt w x dm) (hoff : dm.off = true) :
    Calls Tryz.prog 27 #[.pointer (some ⟨L, 0, none⟩), .agg #[.int .i64 0, .int .i64 si, .int .i64 sn, .bool so, .int .u8 (sp.toNat : Int), .string ⟨⟨sx⟩⟩, kv, .int .i64 st0, .int .i64 sc]] w fun e w' => e = .returned (.tuple #[]) ∧ Kept No w w' := by
  have HL := Lib.hid hL
  have HLIT := Lib.hid (fun wz (k : Kept No w wz) => by
    have h := dlit_ok x dm wz (hX.kept k (fun _ _ h => h))
    rw [hoff] at h
    exact (show Calls Tryz.prog 60 #[.pointer (some ⟨x.d, 0, none⟩)] wz fun e w'' => e = .returned (.bool false) ∧ wz = w'' from h))
  clear hL hX hoff
  go_enter Tryz.func27, Tryz.ntmps27
  go_upto_region 1 with fail
  have hX0 := heap_alloc_new w (.cells #[.int .i64 0, .int .i64 si, .int .i64 sn, .bool so, .int .u8 (sp.toNat : Int), .string ⟨⟨sx⟩⟩, kv, .int .i64 st0, .int .i64 sc] 62)
  have k1 : Kept No w (w.alloc (.cells #[.int .i64 0, .int .i64 si, .int .i64 sn, .bool so, .int .u8 (sp.toNat : Int), .string ⟨⟨sx⟩⟩, kv, .int .i64 st0, .int .i64 sc] 62)) := (Kept.refl _ _).alloc _
  have hL1 := k1.heap HL.out (fun h => h)
  have K1 := Lib.hid k1
  generalize (w.alloc (.cells #[.int .i64 0, .int .i64 si, .int .i64 sn, .bool so, .int .u8 (sp.toNat : Int), .string ⟨⟨sx⟩⟩, kv, .int .i64 st0, .int .i64 sc] 62)) = w1 at *
  generalize hXs : w.heap.size = X at *
  have HXS := Lib.hid hXs
  clear hXs
  have x0 : w1.cell? ⟨X, 0, none⟩ = some (.int .i64 0) := (cell_of_row w1 X 0 _ _ _ hX0).trans rfl
  have l0 : w1.cell? ⟨L, 0, none⟩ = some (.pointer (some ⟨x.d, 0, none⟩)) := (cell_of_row w1 L 0 _ _ _ hL1).trans rfl
  have l25 : w1.cell? ⟨L, 25, none⟩ = some (.bool true) := (cell_of_row w1 L 25 _ _ _ hL1).trans rfl
  clear hX0 hL1 k1
  go_wp2_with (go_at_call 60; refine (HLIT.out _ K1.out).mono ?_; rintro e w2 ⟨rfl, rfl⟩)
  go_end0
  exact ⟨rfl, K1.out⟩
theorem lopen_up (L : Nat) (si sn : Int) (so : Bool) (sp : UInt8) (sx : List UInt8) (kv : Value) (st0 sc : Int) (P : World → Prop) (j : Nat) (sv bv wk wb ik ib : Value) (r q : Root8) (ser : Nat) (br : Bool) (x : DiskH) (dm : DiskM) (w : World) (hL : w.heap[L]? = some (.cells (lifeC x.d j sv bv wk wb r ik ib q ser br true) 57 (0, 0))) (hX : DiskAt w x dm) (hlit : br = false ∨ dm.off = false)
    (hup : ∀ w1, Kept No w w1 → Calls Tryz.prog 29 #[.pointer (some ⟨L, 0, none⟩)] w1 fun e w' => e = .returned (.tuple #[]) ∧ P w') :
    Calls Tryz.prog 27 #[.pointer (some ⟨L, 0, none⟩), .agg #[.int .i64 0, .int .i64 si, .int .i64 sn, .bool so, .int .u8 (sp.toNat : Int), .string ⟨⟨sx⟩⟩, kv, .int .i64 st0, .int .i64 sc]] w fun e w' => e = .returned (.tuple #[]) ∧ P w' := by
  have HL := Lib.hid hL
  have HUP := Lib.hid hup
  have HLIT : Hid (dm.off = false → ∀ wz (k : Kept No w wz), Calls Tryz.prog 60 #[.pointer (some ⟨x.d, 0, none⟩)] wz fun e w'' => e = .returned (.bool true) ∧ wz = w'') := Lib.hid (fun ho wz k => by
    have h := dlit_ok x dm wz (hX.kept k (fun _ _ h => h))
    rw [ho] at h
    exact h)
  clear hL hX hup
  go_enter Tryz.func27, Tryz.ntmps27
  go_upto_region 1 with fail
  have hX0 := heap_alloc_new w (.cells #[.int .i64 0, .int .i64 si, .int .i64 sn, .bool so, .int .u8 (sp.toNat : Int), .string ⟨⟨sx⟩⟩, kv, .int .i64 st0, .int .i64 sc] 62)
  have k1 : Kept No w (w.alloc (.cells #[.int .i64 0, .int .i64 si, .int .i64 sn, .bool so, .int .u8 (sp.toNat : Int), .string ⟨⟨sx⟩⟩, kv, .int .i64 st0, .int .i64 sc] 62)) := (Kept.refl _ _).alloc _
  have hL1 := k1.heap HL.out (fun h => h)
  have K1 := Lib.hid k1
  generalize (w.alloc (.cells #[.int .i64 0, .int .i64 si, .int .i64 sn, .bool so, .int .u8 (sp.toNat : Int), .string ⟨⟨sx⟩⟩, kv, .int .i64 st0, .int .i64 sc] 62)) = w1 at *
  generalize hXs : w.heap.size = X at *
  have HXS := Lib.hid hXs
  clear hXs
  have x0 : w1.cell? ⟨X, 0, none⟩ = some (.int .i64 0) := (cell_of_row w1 X 0 _ _ _ hX0).trans rfl
  have l0 : w1.cell? ⟨L, 0, none⟩ = some (.pointer (some ⟨x.d, 0, none⟩)) := (cell_of_row w1 L 0 _ _ _ hL1).trans rfl
  have l25 : w1.cell? ⟨L, 25, none⟩ = some (.bool br) := (cell_of_row w1 L 25 _ _ _ hL1).trans rfl
  clear hX0 hL1 k1
  cases br
  · clear hlit
    go_wp2_with (go_at_call 29; refine (HUP.out _ K1.out).mono ?_; rintro e w2 ⟨rfl, hp⟩; have HP := Lib.hid hp; clear hp)
    go_end0
    exact ⟨rfl, HP.out⟩
  · have hlit : dm.off = false := hlit.resolve_left (by simp)
    have HLT := Lib.hid (HLIT.out hlit)
    clear hlit
    go_wp2_with (first | (go_at_call 60; refine (HLT.out _ K1.out).mono ?_; rintro e w2 ⟨rfl, rfl⟩) | (go_at_call 29; refine (HUP.out _ K1.out).mono ?_; rintro e w2 ⟨rfl, hp⟩; have HP := Lib.hid hp; clear hp))
    go_end0
    exact ⟨rfl, HP.out⟩
theorem lbeg_nil (L j : Nat) (bv wk wb ik ib : Value) (r q : Root8) (ser : Nat) (br : Bool) (x : DiskH) (dm : DiskM) (si sn : Int) (so : Bool) (sp : UInt8) (sx : List UInt8) (kv : Value) (st0 sc : Int) (w : World) (hL : w.heap[L]? = some (.cells (lifeC x.d j (.pointer none) bv wk wb r ik ib q ser br true) 57 (0, 0))) :
    Calls Tryz.prog 27 #[.pointer (some ⟨L, 0, none⟩), .agg #[.int .i64 1, .int .i64 si, .int .i64 sn, .bool so, .int .u8 (sp.toNat : Int), .string ⟨⟨sx⟩⟩, kv, .int .i64 st0, .int .i64 sc]] w fun e w' => e = .returned (.tuple #[]) ∧ Kept No w w' := by
  have HL := Lib.hid hL
  have hpn2 : ∀ w, (binOp .neq 22 (.pointer none) (.pointer none)).run Tryz.prog w = .ok (.bool false) w := fun w => by kernel_rfl
  clear hL
  go_enter Tryz.func27, Tryz.ntmps27
  go_upto_region 1 with fail
  have hX0 := heap_alloc_new w (.cells #[.int .i64 1, .int .i64 si, .int .i64 sn, .bool so, .int .u8 (sp.toNat : Int), .string ⟨⟨sx⟩⟩, kv, .int .i64 st0, .int .i64 sc] 62)
  have k1 : Kept No w (w.alloc (.cells #[.int .i64 1, .int .i64 si, .int .i64 sn, .bool so, .int .u8 (sp.toNat : Int), .string ⟨⟨sx⟩⟩, kv, .int .i64 st0, .int .i64 sc] 62)) := (Kept.refl _ _).alloc _
  have hL1 := k1.heap HL.out (fun h => h)
  have K1 := Lib.hid k1
  generalize (w.alloc (.cells #[.int .i64 1, .int .i64 si, .int .i64 sn, .bool so, .int .u8 (sp.toNat : Int), .string ⟨⟨sx⟩⟩, kv, .int .i64 st0, .int .i64 sc] 62)) = w1 at *
  generalize hXs : w.heap.size = X at *
  have HXS := Lib.hid hXs
  clear hXs
  have x0 : w1.cell? ⟨X, 0, none⟩ = some (.int .i64 1) := (cell_of_row w1 X 0 _ _ _ hX0).trans rfl
  have l2 : w1.cell? ⟨L, 2, none⟩ = some (.pointer none) := (cell_of_row w1 L 2 _ _ _ hL1).trans rfl
  clear hX0 hL1 k1
  go_wp2_with fail
  go_end0
  exact ⟨rfl, K1.out⟩
set_option maxHeartbeats 2000000 in
theorem lfuse (L j : Nat) (sv bv wk wb ik ib : Value) (r q : Root8) (ser : Nat) (br : Bool) (x : DiskH) (dm : DiskM) (si sn : Int) (so : Bool) (sp : UInt8) (sx : List UInt8) (kv : Value) (st0 sc : Int) (w : World) (hL : w.heap[L]? = some (.cells (lifeC x.d j sv bv wk wb r ik ib q ser br true) 57 (0, 0))) (hX : DiskAt w x dm) (hsn : I64 sn) :
    Calls Tryz.prog 27 #[.pointer (some ⟨L, 0, none⟩), .agg #[.int .i64 9, .int .i64 si, .int .i64 sn, .bool so, .int .u8 (sp.toNat : Int), .string ⟨⟨sx⟩⟩, kv, .int .i64 st0, .int .i64 sc]] w fun e w' => e = .returned (.tuple #[]) ∧ Kept (fun k => k = x.d) w w' ∧ DiskAt w' x (dm.fuse sn) := by
  have HL := Lib.hid hL
  have HX := Lib.hid hX
  have HSN := Lib.hid hsn
  clear hL hX hsn
  go_enter Tryz.func27, Tryz.ntmps27
  go_upto_region 1 with fail
  have hX0 := heap_alloc_new w (.cells #[.int .i64 9, .int .i64 si, .int .i64 sn, .bool so, .int .u8 (sp.toNat : Int), .string ⟨⟨sx⟩⟩, kv, .int .i64 st0, .int .i64 sc] 62)
  have k1 : Kept No w (w.alloc (.cells #[.int .i64 9, .int .i64 si, .int .i64 sn, .bool so, .int .u8 (sp.toNat : Int), .string ⟨⟨sx⟩⟩, kv, .int .i64 st0, .int .i64 sc] 62)) := (Kept.refl _ _).alloc _
  have hL1 := k1.heap HL.out (fun h => h)
  have K1 := Lib.hid k1
  generalize (w.alloc (.cells #[.int .i64 9, .int .i64 si, .int .i64 sn, .bool so, .int .u8 (sp.toNat : Int), .string ⟨⟨sx⟩⟩, kv, .int .i64 st0, .int .i64 sc] 62)) = w1 at *
  generalize hXs : w.heap.size = X at *
  have HXS := Lib.hid hXs
  clear hXs
  have x0 : w1.cell? ⟨X, 0, none⟩ = some (.int .i64 9) := (cell_of_row w1 X 0 _ _ _ hX0).trans rfl
  have hhd := (HX.out.kept K1.out (fun _ _ h => h)).head
  have l0 : ∀ wz, Kept (fun k => k = x.d) w1 wz → wz.cell? ⟨L, 0, none⟩ = some (.pointer (some ⟨x.d, 0, none⟩)) := cell_keeps (o := 0) hL1 (cells_ne hL1 hhd (by decide)) rfl
  have x2 : ∀ wz, Kept (fun k => k = x.d) w1 wz → wz.cell? ⟨X, 2, none⟩ = some (.int .i64 sn) := cell_keeps (o := 2) hX0 (cells_ne hX0 hhd (by decide)) rfl
  have hK0 : Kept No w1 w1 := Kept.refl _ _
  have hK0f : Kept (fun k => k = x.d) w1 w1 := Kept.refl _ _
  have HX1 : Hid (∀ wz, Kept No w1 wz → DiskAt wz x dm) := Lib.hid (fun wz k => HX.out.kept (K1.out.trans k) (fun _ _ h => h))
  clear hX0 hL1 k1 hhd
  go_wp2_with fail
  go_region_held3 (fun wz => Kept (fun k => k = x.d) w1 wz) (first | assumption | exact Kept.drew (by assumption))
    (first
      | (go_at_call 64; (with_reducible refine (dfuse_ok x dm sn _ (HX1.out _ (by first | assumption | exact Kept.drew (by assumption))) HSN.out).mono ?_); rintro e w2 ⟨rfl, k2, hd2⟩; have hk2 : Kept (fun k => k = x.d) w1 w2 := Kept.trans (by first | assumption | exact Kept.drew (by assumption)) k2; have HP := Lib.hid (And.intro hk2 hd2); clear hd2))
  go_wp2_with fail
  go_end0
  exact ⟨rfl, (K1.out.of_no _).trans HP.out.1, HP.out.2⟩
end Go.Proofs.YtabhieafjkaocaaGreat
namespace Go.Proofs.YtabhieafjkaocaaGreat
open Go.RowKit
open Go.ChangeShapes Go.WideShapes
section
variable {H : Type} {enc : TypeId × Value → H} {W : World} {base : Nat} {spare : Nat → Bool} {held : Bool}
theorem b_bool : Tryz.prog.bytesOf 4 = 1 := by kernel_rfl
theorem weights_mem_all {P : Program} {e : TypeId} : ∀ {ds : List (DataW H)} {d : DataW H}, d ∈ ds → ∀ n ∈ d.weights P e, n ∈ DataW.weightsAll P e ds
  | c :: ds, d, h, n, hn => by
    simp only [DataW.weightsAll, List.mem_append]
    rcases List.mem_cons.1 h with rfl | h
    · exact .inl hn
    · exact .inr (weights_mem_all h n hn)
theorem bools_open2 {fuel : Nat} {cs : List Value} {x : DataW H × List MemPlace} (h : DataW.trod enc Tryz.prog W base spare held fuel 48 cs = some x) : ∃ v l, cs = [v] ∧ BoolsAt W v l ∧ ((∀ n ∈ x.1.weights Tryz.prog 48, n ≤ reachBytes) → l.length ≤ reachBytes) := by
  rcases Deep.open_slice1 Tryz.underlying48 (by kernel_rfl) h with ⟨rfl, _⟩ | ⟨a, len, cap, m, n, V, D, Pl, rfl, hb, hl, hm, hmm, hxd, hx⟩
  · exact ⟨_, [], rfl, ⟨by simp, .inl ⟨rfl, rfl⟩⟩, fun _ => by simp⟩
  · have hx' : ∀ i, i < len → ∃ b, V i = .bool b := fun i hi => by
      have := (hx i (by rw [hmm]; split <;> omega)).2
      obtain ⟨b, hb, _⟩ := DataW.trod_bool Tryz.underlying4 this
      injection hb with hb
      exact ⟨b, hb⟩
    obtain ⟨B, hB⟩ := Deep.choose_lt (α := Bool) hx'
    refine ⟨_, (List.range len).map B, rfl, ⟨by simp; unfold maxLen at hm; omega, .inr ⟨a, cap, by simp, by simpa using hl, fun i hi => ?_⟩⟩, fun hw => ?_⟩
    have hi : i < len := by simpa using hi
    have h1 := (hx i (by rw [hmm]; split <;> omega)).1
    refine ⟨?_, ?_⟩
    · have := World.block_lt_of_cell? W _ h1
      have hb : (a.add i).block = a.block := by unfold Addr.add; split <;> rfl
      rwa [hb] at this
    · rw [h1, hB i hi]
      simp [hi]
    · have h1 := hw (((List.range len).map D).length + ((List.range (m - len)).map fun j => D (len + j)).length) (by
        rw [show x.1 = DataW.slice ((List.range len).map D) ((List.range (m - len)).map fun j => D (len + j)) from congrArg Prod.fst hxd]
        simp only [DataW.weights, Tryz.underlying48, b_bool, Nat.mul_one]
        exact List.mem_cons_self)
      simp at h1 ⊢
      omega
theorem step_open2 {fuel : Nat} {cs : List Value} {x : DataW H × List MemPlace} (h : DataW.trod enc Tryz.prog W base spare held fuel 62 cs = some x) : ∃ st kv, cs = stepC st kv ∧ StepIn W st kv ∧ ((∀ n ∈ x.1.weights Tryz.prog 62, n ≤ reachBytes) → st.keep.length ≤ reachBytes) := by
  obtain ⟨xs, n, _, hx1, hl, hxl, hg⟩ := DataW.trod_struct Tryz.underlying62 h
  obtain ⟨k0, k1, k2, k3, k4, k5, k6, k7, k8, rfl⟩ := nine (hl.trans c_step)
  obtain ⟨x0, x1, x2, x3, x4, x5, x6, rfl⟩ := seven (hxl.trans rfl)
  have g0 : DataW.trod enc Tryz.prog W base spare held n 3 [k0] = some x0 := by
    have h : DataW.trod enc Tryz.prog W base spare held n 3 (([k0, k1, k2, k3, k4, k5, k6, k7, k8].drop 0).take (Tryz.prog.cellsOf 3)) = some x0 := hg 0 _ rfl
    rw [c_int] at h
    exact h
  have g1 : DataW.trod enc Tryz.prog W base spare held n 3 [k1] = some x1 := by
    have h : DataW.trod enc Tryz.prog W base spare held n 3 (([k0, k1, k2, k3, k4, k5, k6, k7, k8].drop 1).take (Tryz.prog.cellsOf 3)) = some x1 := hg 1 _ rfl
    rw [c_int] at h
    exact h
  have g2 : DataW.trod enc Tryz.prog W base spare held n 3 [k2] = some x2 := by
    have h : DataW.trod enc Tryz.prog W base spare held n 3 (([k0, k1, k2, k3, k4, k5, k6, k7, k8].drop 2).take (Tryz.prog.cellsOf 3)) = some x2 := hg 2 _ rfl
    rw [c_int] at h
    exact h
  have g3 : DataW.trod enc Tryz.prog W base spare held n 4 [k3] = some x3 := by
    have h : DataW.trod enc Tryz.prog W base spare held n 4 (([k0, k1, k2, k3, k4, k5, k6, k7, k8].drop 3).take (Tryz.prog.cellsOf 4)) = some x3 := hg 3 _ rfl
    rw [c_bool] at h
    exact h
  have g4 : DataW.trod enc Tryz.prog W base spare held n 5 [k4] = some x4 := by
    have h : DataW.trod enc Tryz.prog W base spare held n 5 (([k0, k1, k2, k3, k4, k5, k6, k7, k8].drop 4).take (Tryz.prog.cellsOf 5)) = some x4 := hg 4 _ rfl
    rw [c_u8] at h
    exact h
  have g5 : DataW.trod enc Tryz.prog W base spare held n 9 [k5] = some x5 := by
    have h : DataW.trod enc Tryz.prog W base spare held n 9 (([k0, k1, k2, k3, k4, k5, k6, k7, k8].drop 5).take (Tryz.prog.cellsOf 9)) = some x5 := hg 5 _ rfl
    rw [c_string] at h
    exact h
  have g6 : DataW.trod enc Tryz.prog W base spare held n 60 [k6, k7, k8] = some x6 := by
    have h : DataW.trod enc Tryz.prog W base spare held n 60 (([k0, k1, k2, k3, k4, k5, k6, k7, k8].drop 6).take (Tryz.prog.cellsOf 60)) = some x6 := hg 6 _ rfl
    rw [c_fate] at h
    exact h
  obtain ⟨ys, n2, _, hx2, hl2, hyl, hg2⟩ := DataW.trod_struct Tryz.underlying60 g6
  obtain ⟨y0, y1, y2, rfl⟩ := three (hyl.trans rfl)
  have f0 : DataW.trod enc Tryz.prog W base spare held n2 48 [k6] = some y0 := by
    have h : DataW.trod enc Tryz.prog W base spare held n2 48 (([k6, k7, k8].drop 0).take (Tryz.prog.cellsOf 48)) = some y0 := hg2 0 _ rfl
    rw [c_bools] at h
    exact h
  have f1 : DataW.trod enc Tryz.prog W base spare held n2 3 [k7] = some y1 := by
    have h : DataW.trod enc Tryz.prog W base spare held n2 3 (([k6, k7, k8].drop 1).take (Tryz.prog.cellsOf 3)) = some y1 := hg2 1 _ rfl
    rw [c_int] at h
    exact h
  have f2 : DataW.trod enc Tryz.prog W base spare held n2 3 [k8] = some y2 := by
    have h : DataW.trod enc Tryz.prog W base spare held n2 3 (([k6, k7, k8].drop 2).take (Tryz.prog.cellsOf 3)) = some y2 := hg2 2 _ rfl
    rw [c_int] at h
    exact h
  obtain ⟨a0, e0, _, w0⟩ := DataW.trod_int Tryz.underlying3 g0
  obtain ⟨a1, e1, _, w1⟩ := DataW.trod_int Tryz.underlying3 g1
  obtain ⟨a2, e2, _, w2⟩ := DataW.trod_int Tryz.underlying3 g2
  obtain ⟨a3, e3, _⟩ := DataW.trod_bool Tryz.underlying4 g3
  obtain ⟨a4, e4, _, w4⟩ := DataW.trod_int Tryz.underlying5 g4
  obtain ⟨a5, e5, _, w5⟩ := DataW.trod_string Tryz.underlying9 g5
  obtain ⟨v6, l6, e6, h6, h6w⟩ := bools_open2 f0
  obtain ⟨a7, e7, _, w7⟩ := DataW.trod_int Tryz.underlying3 f1
  obtain ⟨a8, e8, _, w8⟩ := DataW.trod_int Tryz.underlying3 f2
  injection e0 with e0; injection e1 with e1; injection e2 with e2; injection e3 with e3; injection e4 with e4; injection e5 with e5; injection e6 with e6; injection e7 with e7; injection e8 with e8
  subst e0 e1 e2 e3 e4 e5 e6 e7 e8
  have b4 := bounds_u8 w4
  refine ⟨⟨a0, a1, a2, a3, UInt8.ofNat a4.toNat, a5.data.toList, l6, a7, a8⟩, k6, ?_, ⟨int_bounds w0, int_bounds w1, int_bounds w2, int_bounds w7, int_bounds w8, ?_, h6⟩, fun hw => h6w fun n hn => hw n ?_⟩
  · unfold stepC
    have e4 : ((UInt8.ofNat a4.toNat).toNat : Int) = a4 := by
      rw [UInt8.toNat_ofNat']
      omega
    simp only
    rw [e4]
  · unfold maxLen at w5
    have : a5.data.toList.length = a5.size := by rw [Array.length_toList]; rfl
    show a5.data.toList.length ≤ _
    omega
  · rw [hx1]
    simp only [DataW.weights, Tryz.underlying62]
    refine DataW.weights_mem_each (j := 6) (t := 60) (d := x6.1) rfl rfl n ?_
    rw [hx2]
    simp only [DataW.weights, Tryz.underlying60]
    exact DataW.weights_mem_each (j := 0) (t := 48) (d := y0.1) rfl rfl n hn
theorem steps_open2 {a : Option Addr} {len cap : Nat} {d : DataW H} {ps : List MemPlace} (h : DataW.Trod enc Tryz.prog W base spare held 50 (.slice a len cap) d ps) : ∃ l, StepsAt W (.slice a len cap) l ∧ ((∀ n ∈ d.weights Tryz.prog 50, n ≤ reachBytes) → ∀ st ∈ l, st.keep.length ≤ reachBytes) := by
  obtain ⟨fuel, hf⟩ := h
  rcases Deep.open_slice Tryz.underlying50 hf with ⟨hcs, _⟩ | ⟨x, l, c, m, n, D, Pl, hcs, hb, hl, hm, hmm, hxd, hx⟩
  · simp [Value.cells] at hcs
    obtain ⟨rfl, rfl, rfl⟩ := hcs
    exact ⟨[], ⟨by simp, .inl ⟨⟨_, _, rfl⟩, rfl⟩⟩, fun _ st h => by simp at h⟩
  · simp [Value.cells] at hcs
    obtain ⟨rfl, rfl, rfl⟩ := hcs
    have hx' : ∀ i, i < len → ∃ p : StepM × Value, StepIn W p.1 p.2 ∧ x.block < W.heap.size ∧ (∀ j c, (stepC p.1 p.2)[j]? = some c → W.cell? (x.add (i * 9 + j)) = some c) ∧ ((∀ n ∈ (D i).weights Tryz.prog 62, n ≤ reachBytes) → p.1.keep.length ≤ reachBytes) := fun i hi => by
      obtain ⟨cs', h1, h2⟩ := hx i (by rw [hmm]; split <;> omega)
      rw [c_step] at h1
      obtain ⟨st, kv, rfl, hst, hstw⟩ := step_open2 h2
      obtain ⟨_, hlen, hcell⟩ := World.cells?_some h1
      have hc : ∀ j c, (stepC st kv)[j]? = some c → W.cell? (x.add (i * 9 + j)) = some c := fun j c hj => by
        have hj9 : j < 9 := by
          have := (List.getElem?_eq_some_iff.1 hj).1
          rwa [hlen] at this
        have := hcell j hj9
        rw [Deep.add_add, hj] at this
        exact this
      refine ⟨(st, kv), hst, ?_, hc, hstw⟩
      have := World.block_lt_of_cell? W _ (hc 0 _ rfl)
      have hb : (x.add (i * 9 + 0)).block = x.block := by unfold Addr.add; split <;> rfl
      rwa [hb] at this
    obtain ⟨F, hF⟩ : ∃ F : Nat → StepM × Value, ∀ i, i < len → StepIn W (F i).1 (F i).2 ∧ x.block < W.heap.size ∧ (∀ j c, (stepC (F i).1 (F i).2)[j]? = some c → W.cell? (x.add (i * 9 + j)) = some c) ∧ ((∀ n ∈ (D i).weights Tryz.prog 62, n ≤ reachBytes) → (F i).1.keep.length ≤ reachBytes) := by
      classical
      refine ⟨fun i => if hi : i < len then Classical.choose (hx' i hi) else (⟨0, 0, 0, false, 0, [], [], 0, 0⟩, .bool false), fun i hi => ?_⟩
      simp only [dif_pos hi]
      exact Classical.choose_spec (hx' i hi)
    refine ⟨(List.range len).map fun i => (F i).1, ⟨by simp; unfold maxLen at hm; omega, ?_⟩, fun hw st hst => ?_⟩
    case refine_2 =>
      obtain ⟨i, hi, rfl⟩ := List.mem_map.1 hst
      have hi := List.mem_range.1 hi
      refine (hF i hi).2.2.2 fun n hn => hw n ?_
      have hxd1 : d = .slice ((List.range len).map D) ((List.range (m - len)).map fun j => D (len + j)) := congrArg Prod.fst hxd
      rw [hxd1]
      simp only [DataW.weights, Tryz.underlying50]
      exact List.mem_cons_of_mem _ (List.mem_append_left _ (weights_mem_all (List.mem_map.2 ⟨i, List.mem_range.2 hi, rfl⟩) n hn))
    by_cases h0 : 0 < len
    · obtain ⟨b, off, spot⟩ := x
      have hspot : spot = none := by simpa [Addr.add] using World.cell?_spot ((hF 0 h0).2.2.1 0 _ rfl)
      subst hspot
      refine .inr ⟨b, off, cap, by simp, (hF 0 h0).2.1, fun i hi => ?_⟩
      have hi' : i < len := by simpa using hi
      obtain ⟨q1, q2, q3, _⟩ := hF i hi'
      refine ⟨(F i).2, by simpa using q1, fun j c hj => ?_⟩
      have hj : (stepC (F i).1 (F i).2)[j]? = some c := by simpa using hj
      have := q3 j c hj
      rw [add_plain] at this
      rw [← this, show off + (i * 9 + j) = off + i * 9 + j by omega]
    · obtain rfl : len = 0 := by omega
      exact .inl ⟨⟨_, _, rfl⟩, rfl⟩
end
end Go.Proofs.YtabhieafjkaocaaGreat
namespace Go.Proofs.YtabhieafjkaocaaGreat
open Go.RowKit Go.Lib Go.Maps Bm
set_option maxRecDepth 20000
theorem run_append_of_none {P : Program} (w : World) (t ty e : TypeId) (i : TypeInfo) (ht : P.underlying t = some (.slice e)) (hi : P.info? e = some i) (av : Option Addr) (ka : Option Addr) (c : Nat) :
    (Builtin.append_ #[t, t] ty #[.slice av 0 0, .slice ka 0 c]).run P w = .ok (.slice av 0 0) w := by
  rcases ka with _ | a <;> rcases av with _ | b <;> simp [Builtin.append_, run_underlying ht, sizeOf, typeInfo, hi, Builtin.lenOf, Builtin.firstCells, storeCells, loadCells, loadCellsFrom]
theorem step_append_none {P : Program} {w : World} {ops : Array Oper} {o : Oper} {a : Act} {K : Act → World → Prop} {Q : Exit → Act → World → Prop} {E : Prop} (hgd : o.guard = none) (s x : Operand) (t : TypeId)
    (ho : o.op = .call { callee := .builtin .append, args := #[s, x], argTypes := #[t, t] }) (e : TypeId) (i : TypeInfo) (ht : P.underlying t = some (.slice e)) (hi : P.info? e = some i)
    (av : Option Addr) (hs : a.eval s = .slice av 0 0) (ka : Option Addr) (c : Nat) (hx : a.eval x = .slice ka 0 c) (h : K (a.put o.dst (.slice av 0 0)) w) :
    if Region.wanted o (yielded ops a.tmps) = true then Oper.wp P o a w K Q else E := by
  have hw : Region.wanted o (yielded ops a.tmps) = true := by simp [Region.wanted, hgd]
  rw [if_pos hw]
  have hr := run_append_of_none (P := P) w t o.type e i ht hi av ka c
  unfold Oper.wp execOp
  simp only [ho, resolve, invoke, builtin, Sem.run_bind, Sem.run_pure, Result.andThen_ok, List.map_toArray, List.map_cons, List.map_nil, hs, hx, hr]
  exact h
theorem bools_own {w : World} {g cap base : Nat} {keep : List Bool} (h : w.ownsRow base 4 1 (.slice (some ⟨g, 0, none⟩) keep.length cap) keep.length (keep.map .bool)) (hl : keep.length ≤ 9223372036854775807) : BoolsAt w (.slice (some ⟨g, 0, none⟩) keep.length cap) keep := by
  refine ⟨hl, .inr ⟨⟨g, 0, none⟩, cap, rfl, ?_, fun i hi => ?_⟩⟩
  · rcases h.2 with ⟨h0, _⟩ | ⟨g', cap', cur, hv, _, _, hc, _⟩
    · cases h0
    · injection hv with _ _ e; omega
  · have hc := h.cells (g := g) rfl i (.bool (keep.getD i false)) (by simp [hi])
    exact ⟨World.block_lt_of_cell? w _ hc |> fun h => by
      have hb : ((⟨g, 0, none⟩ : Addr).add i).block = g := by unfold Addr.add; split <;> rfl
      rwa [hb] at h, hc⟩
theorem bools_none {w : World} {a : Addr} : BoolsAt w (.slice (some a) 0 0) [] := by
  exact ⟨by simp, .inr ⟨a, 0, rfl, Nat.le_refl _, fun i hi => by simp at hi⟩⟩
theorem infoBool' : (Tryz.prog.info? 4).map (fun i => (i.zero, i.size, i.bytes)) = some (some (.bool false), 1, 1) := by kernel_rfl
set_option maxHeartbeats 4000000 in
theorem lcrash_none (L j : Nat) (sv bv wk wb ik ib : Value) (r q : Root8) (ser : Nat) (br : Bool) (x : DiskH) (dm : DiskM) (si sn : Int) (so : Bool) (sp : UInt8) (sx : List UInt8) (ka : Option Addr) (kc : Nat) (st0 sc : Int) (w : World) (hL : w.heap[L]? = some (.cells (lifeC x.d j sv bv wk wb r ik ib q ser br true) 57 (0, 0))) (hX : DiskAt w x dm)
    (hk : BoolsAt w (.slice ka 0 kc) []) (hpl : dm.pend.length < 100000) (ht : I64 st0) (hc : I64 sc)  :
    Calls Tryz.prog 27 #[.pointer (some ⟨L, 0, none⟩), .agg #[.int .i64 10, .int .i64 si, .int .i64 sn, .bool so, .int .u8 (sp.toNat : Int), .string ⟨⟨sx⟩⟩, (.slice ka 0 kc), .int .i64 st0, .int .i64 sc]] w fun e w' => ∃ x' : DiskH, e = .returned (.tuple #[]) ∧ Kept x.foot w w' ∧ DiskAt w' x' (dm.crash [] st0 sc) ∧ x'.d = x.d ∧ ∀ g, x'.foot g → x.foot g := by
  have HL := Lib.hid hL
  have HX := Lib.hid hX
  have HKB := Lib.hid hk
  have HPL := Lib.hid hpl
  have HT := Lib.hid ht
  have HC := Lib.hid hc
  obtain ⟨i1, hi1, hz1, hs1, hb1⟩ := info_parts infoBool'
  clear hL hX hk hpl ht hc
  go_enter Tryz.func27, Tryz.ntmps27
  go_upto_region 1 with fail
  have hX0 := heap_alloc_new w (.cells #[.int .i64 10, .int .i64 si, .int .i64 sn, .bool so, .int .u8 (sp.toNat : Int), .string ⟨⟨sx⟩⟩, (.slice ka 0 kc), .int .i64 st0, .int .i64 sc] 62)
  have k1 : Kept No w (w.alloc (.cells #[.int .i64 10, .int .i64 si, .int .i64 sn, .bool so, .int .u8 (sp.toNat : Int), .string ⟨⟨sx⟩⟩, (.slice ka 0 kc), .int .i64 st0, .int .i64 sc] 62)) := (Kept.refl _ _).alloc _
  have hL1 := k1.heap HL.out (fun h => h)
  have K1 := Lib.hid k1
  generalize (w.alloc (.cells #[.int .i64 10, .int .i64 si, .int .i64 sn, .bool so, .int .u8 (sp.toNat : Int), .string ⟨⟨sx⟩⟩, (.slice ka 0 kc), .int .i64 st0, .int .i64 sc] 62)) = w1 at *
  generalize hXs : w.heap.size = X at *
  have HXS := Lib.hid hXs
  clear hXs
  have x0 : w1.cell? ⟨X, 0, none⟩ = some (.int .i64 10) := (cell_of_row w1 X 0 _ _ _ hX0).trans rfl
  have hx1 := HX.out.kept K1.out (fun _ _ h => h)
  have nL : ¬ x.foot L := hx1.not_foot hL1 (by decide) (by decide) (by decide)
  have nX : ¬ x.foot X := hx1.not_foot hX0 (by decide) (by decide) (by decide)
  have l0 : ∀ wz, Kept x.foot w1 wz → wz.cell? ⟨L, 0, none⟩ = some (.pointer (some ⟨x.d, 0, none⟩)) := cell_keeps (o := 0) hL1 nL rfl
  have x6 : ∀ wz, Kept x.foot w1 wz → wz.cell? ⟨X, 6, none⟩ = some (.slice ka 0 kc) := cell_keeps (o := 6) hX0 nX rfl
  have x7 : ∀ wz, Kept x.foot w1 wz → wz.cell? ⟨X, 7, none⟩ = some (.int .i64 st0) := cell_keeps (o := 7) hX0 nX rfl
  have x8 : ∀ wz, Kept x.foot w1 wz → wz.cell? ⟨X, 8, none⟩ = some (.int .i64 sc) := cell_keeps (o := 8) hX0 nX rfl
  have hK : Kept No w1 w1 := Kept.refl _ _
  have hKf : Kept x.foot w1 w1 := Kept.refl _ _
  have HCR : Hid (∀ wz kv, Kept No w1 wz → BoolsAt wz kv [] → Calls Tryz.prog 28 #[.pointer (some ⟨x.d, 0, none⟩), .agg #[kv, .int .i64 st0, .int .i64 sc]] wz fun e w' => ∃ x' : DiskH, e = .returned (.tuple #[]) ∧ Kept x.foot wz w' ∧ DiskAt w' x' (dm.crash [] st0 sc) ∧ x'.d = x.d ∧ ∀ g, x'.foot g → x.foot g) := Lib.hid (fun wz kv k hb => dcrash_ok x dm kv [] st0 sc wz (hx1.kept k (fun _ _ h => h)) hb HT.out HC.out HPL.out)
  have HK1 := Lib.hid (HKB.out.kept K1.out (fun _ _ h => h))
  clear hX0 hL1 k1 hx1 nL nX
  go_wp2_with fail
  go_region_held_law (fun wz => Kept x.foot w1 wz) (first | assumption | exact Kept.drew (by assumption) | exact Kept.alloc (by assumption) _ | exact Kept.drew (Kept.alloc (by assumption) _) | exact Kept.of_no (by assumption) _)
    (first
      | (refine step_append_none (by rfl) (.tmp 102) (.tmp 105) 48 (by rfl) 4 i1 Tryz.underlying48 hi1 _ (by rfl) _ _ (by rfl) ?_)
      | (go_at_call 28; (with_reducible refine (HCR.out _ _ (by first | (with_reducible exact hK) | (with_reducible exact hK.drew) | (with_reducible exact (hK.alloc _)) | (with_reducible exact (hK.alloc _).drew) | (with_reducible exact (hK.drew.alloc _)) | (with_reducible exact (hK.drew.alloc _).drew)) bools_none).mono ?_); rintro e w2 ⟨x', rfl, k2, hd2, hxd, hf⟩; have hk2 : Kept x.foot w1 w2 := Kept.trans (Kept.of_no (by first | (with_reducible exact hK) | (with_reducible exact hK.drew) | (with_reducible exact (hK.alloc _)) | (with_reducible exact (hK.alloc _).drew) | (with_reducible exact (hK.drew.alloc _)) | (with_reducible exact (hK.drew.alloc _).drew)) _) k2; have HP := Lib.hid (And.intro hk2 (And.intro hd2 (And.intro hxd hf))); clear hd2 hxd hf k2))
  go_wp2_with fail
  go_end0
  obtain ⟨hk2, hd2, hxd, hf⟩ := HP.out
  have kall := (K1.out.of_no x.foot).trans hk2
  first
    | exact ⟨x', rfl, kall, hd2, hxd, hf⟩
    | exact ⟨rfl, kall, x', hd2, hxd, hf⟩
set_option maxHeartbeats 4000000 in
theorem lcrash_some (L j : Nat) (sv bv wk wb ik ib : Value) (r q : Root8) (ser : Nat) (br : Bool) (x : DiskH) (dm : DiskM) (si sn : Int) (so : Bool) (sp : UInt8) (sx : List UInt8) (ka0 : Addr) (kc : Nat) (keep : List Bool) (st0 sc : Int) (w : World) (hL : w.heap[L]? = some (.cells (lifeC x.d j sv bv wk wb r ik ib q ser br true) 57 (0, 0))) (hX : DiskAt w x dm)
    (hk : BoolsAt w (.slice (some ka0) keep.length kc) keep) (hpl : dm.pend.length < 100000) (ht : I64 st0) (hc : I64 sc) (h0 : 0 < keep.length) (hm : keep.length ≤ 140737488355328) :
    Calls Tryz.prog 27 #[.pointer (some ⟨L, 0, none⟩), .agg #[.int .i64 10, .int .i64 si, .int .i64 sn, .bool so, .int .u8 (sp.toNat : Int), .string ⟨⟨sx⟩⟩, (.slice (some ka0) keep.length kc), .int .i64 st0, .int .i64 sc]] w fun e w' => ∃ x' : DiskH, e = .returned (.tuple #[]) ∧ Kept x.foot w w' ∧ DiskAt w' x' (dm.crash keep st0 sc) ∧ x'.d = x.d ∧ ∀ g, x'.foot g → x.foot g := by
  have HL := Lib.hid hL
  have HX := Lib.hid hX
  have HKB := Lib.hid hk
  have HPL := Lib.hid hpl
  have HT := Lib.hid ht
  have HC := Lib.hid hc
  obtain ⟨i1, hi1, hz1, hs1, hb1⟩ := info_parts infoBool'
  have hcel : ∀ w', Kept No w w' → ∀ i, i < keep.length → w'.cell? (ka0.add i) = some (.bool (keep.getD i false)) := by
    rcases hk.2 with ⟨_, e⟩ | ⟨a, cap, e, _, hc⟩
    · rw [e] at h0; simp at h0
    · injection e with e1
      injection e1 with e1
      subst e1
      intro w' k i hi
      obtain ⟨q1, q2⟩ := hc i hi
      have hb : (ka0.add i).block = ka0.block := by unfold Addr.add; split <;> rfl
      rw [World.cell?_of_block (w := w) (k.block _ (by rw [hb]; exact q1) (fun h => h))]
      exact q2
  have HLN := Lib.hid hk.1
  have HNL : Hid ((keep.map Value.bool).length = keep.length * 1) := Lib.hid (by simp)
  have HNO : Hid (∀ u ∈ keep.map Value.bool, u.oneCell' = true) := Lib.hid (fun u hu => by obtain ⟨b, _, rfl⟩ := List.mem_map.1 hu; rfl)
  have HPOS := Lib.hid h0
  have HM63 : Hid (keep.length ≤ maxLen) := Lib.hid (by unfold maxLen; omega)
  have HMB : Hid (keep.length * 1 ≤ 140737488355328) := Lib.hid (by omega)
  have HCE := Lib.hid hcel
  clear hcel h0 hm
  clear hL hX hk hpl ht hc
  go_enter Tryz.func27, Tryz.ntmps27
  go_upto_region 1 with fail
  have hX0 := heap_alloc_new w (.cells #[.int .i64 10, .int .i64 si, .int .i64 sn, .bool so, .int .u8 (sp.toNat : Int), .string ⟨⟨sx⟩⟩, (.slice (some ka0) keep.length kc), .int .i64 st0, .int .i64 sc] 62)
  have k1 : Kept No w (w.alloc (.cells #[.int .i64 10, .int .i64 si, .int .i64 sn, .bool so, .int .u8 (sp.toNat : Int), .string ⟨⟨sx⟩⟩, (.slice (some ka0) keep.length kc), .int .i64 st0, .int .i64 sc] 62)) := (Kept.refl _ _).alloc _
  have hL1 := k1.heap HL.out (fun h => h)
  have K1 := Lib.hid k1
  generalize (w.alloc (.cells #[.int .i64 10, .int .i64 si, .int .i64 sn, .bool so, .int .u8 (sp.toNat : Int), .string ⟨⟨sx⟩⟩, (.slice (some ka0) keep.length kc), .int .i64 st0, .int .i64 sc] 62)) = w1 at *
  generalize hXs : w.heap.size = X at *
  have HXS := Lib.hid hXs
  clear hXs
  have x0 : w1.cell? ⟨X, 0, none⟩ = some (.int .i64 10) := (cell_of_row w1 X 0 _ _ _ hX0).trans rfl
  have hx1 := HX.out.kept K1.out (fun _ _ h => h)
  have nL : ¬ x.foot L := hx1.not_foot hL1 (by decide) (by decide) (by decide)
  have nX : ¬ x.foot X := hx1.not_foot hX0 (by decide) (by decide) (by decide)
  have l0 : ∀ wz, Kept x.foot w1 wz → wz.cell? ⟨L, 0, none⟩ = some (.pointer (some ⟨x.d, 0, none⟩)) := cell_keeps (o := 0) hL1 nL rfl
  have x6 : ∀ wz, Kept x.foot w1 wz → wz.cell? ⟨X, 6, none⟩ = some (.slice (some ka0) keep.length kc) := cell_keeps (o := 6) hX0 nX rfl
  have x7 : ∀ wz, Kept x.foot w1 wz → wz.cell? ⟨X, 7, none⟩ = some (.int .i64 st0) := cell_keeps (o := 7) hX0 nX rfl
  have x8 : ∀ wz, Kept x.foot w1 wz → wz.cell? ⟨X, 8, none⟩ = some (.int .i64 sc) := cell_keeps (o := 8) hX0 nX rfl
  have hK : Kept No w1 w1 := Kept.refl _ _
  have hKf : Kept x.foot w1 w1 := Kept.refl _ _
  have HNW : Hid (∀ wz, Kept No w1 wz → ∀ j u, (keep.map Value.bool)[j]? = some u → wz.cell? (ka0.add j) = some u) := Lib.hid (fun wz k j u hu => by
    have hj : j < keep.length := by simpa using (List.getElem?_eq_some_iff.1 hu).1
    rw [HCE.out wz (K1.out.trans k) j hj]
    simpa [hj] using hu)
  have HCR : Hid (∀ wz kv, Kept No w1 wz → BoolsAt wz kv keep → Calls Tryz.prog 28 #[.pointer (some ⟨x.d, 0, none⟩), .agg #[kv, .int .i64 st0, .int .i64 sc]] wz fun e w' => ∃ x' : DiskH, e = .returned (.tuple #[]) ∧ Kept x.foot wz w' ∧ DiskAt w' x' (dm.crash keep st0 sc) ∧ x'.d = x.d ∧ ∀ g, x'.foot g → x.foot g) := Lib.hid (fun wz kv k hb => dcrash_ok x dm kv keep st0 sc wz (hx1.kept k (fun _ _ h => h)) hb HT.out HC.out HPL.out)
  have HK1 := Lib.hid (HKB.out.kept K1.out (fun _ _ h => h))
  clear hX0 hL1 k1 hx1 nL nX
  go_wp2_with fail
  go_region_held_law (fun wz => Kept x.foot w1 wz) (first | assumption | exact Kept.drew (by assumption) | exact Kept.alloc (by assumption) _ | exact Kept.drew (Kept.alloc (by assumption) _) | exact Kept.of_no (by assumption) _)
    (first
      | (refine step_append_fresh (by rfl) (.tmp 102) (.tmp 105) 48 (by rfl) 0 4 i1 _ 1 _ Tryz.underlying48 hi1 hz1 hs1 hb1 rfl (by decide) _ (by rfl) ka0 keep.length kc (keep.map .bool) (by rfl) HNL.out (HNW.out _ (by first | (with_reducible exact hK) | (with_reducible exact hK.drew) | (with_reducible exact (hK.alloc _)) | (with_reducible exact (hK.alloc _).drew) | (with_reducible exact (hK.drew.alloc _)) | (with_reducible exact (hK.drew.alloc _).drew))) HNO.out HPOS.out HM63.out HMB.out (Nat.zero_le _) ?_; intro g cap w5 hown hk5 hg5; have HOW := Lib.hid hown; have hK5 : Kept No w1 w5 := Kept.trans (by first | (with_reducible exact hK) | (with_reducible exact hK.drew) | (with_reducible exact (hK.alloc _)) | (with_reducible exact (hK.alloc _).drew) | (with_reducible exact (hK.drew.alloc _)) | (with_reducible exact (hK.drew.alloc _).drew)) hk5; have hKf5 : Kept x.foot w1 w5 := hK5.of_no _; clear hown hk5 hg5)
      | (go_at_call 28; (with_reducible refine (HCR.out _ _ (by first | (with_reducible exact hK5) | (with_reducible exact hK5.drew) | (with_reducible exact (hK5.alloc _)) | (with_reducible exact (hK5.alloc _).drew) | (with_reducible exact (hK5.drew.alloc _)) | (with_reducible exact (hK5.drew.alloc _).drew)) (by first | exact bools_own HOW.out HLN.out | exact bools_own (((Kept.refl No _).drew).row HOW.out (fun _ _ h => h)) HLN.out)).mono ?_); rintro e w2 ⟨x', rfl, k2, hd2, hxd, hf⟩; have hk2 : Kept x.foot w1 w2 := Kept.trans (Kept.of_no (by first | (with_reducible exact hK5) | (with_reducible exact hK5.drew) | (with_reducible exact (hK5.alloc _)) | (with_reducible exact (hK5.alloc _).drew) | (with_reducible exact (hK5.drew.alloc _)) | (with_reducible exact (hK5.drew.alloc _).drew)) _) k2; have HP := Lib.hid (And.intro hk2 (And.intro hd2 (And.intro hxd hf))); clear hd2 hxd hf k2))
  go_wp2_with fail
  go_end0
  obtain ⟨hk2, hd2, hxd, hf⟩ := HP.out
  have kall := (K1.out.of_no x.foot).trans hk2
  first
    | exact ⟨x', rfl, kall, hd2, hxd, hf⟩
    | exact ⟨rfl, kall, x', hd2, hxd, hf⟩
end Go.Proofs.YtabhieafjkaocaaGreat
namespace Go.Proofs.YtabhieafjkaocaaGreat
open Go.RowKit Go.Lib Bm
set_option maxRecDepth 20000
theorem view_same {d d' : DiskM} (hl : d'.lies = d.lies) (hp : d'.pend = d.pend) (k : Nat) : d'.view k = d.view k := by unfold DiskM.view; rw [hl, hp]
theorem views_same {d d' : DiskM} (hl : d'.lies = d.lies) (hp : d'.pend = d.pend) (a c : Nat) : views d' a c = views d a c := by
  unfold views
  apply List.map_congr_left
  intro i _
  exact view_same hl hp _
theorem eff_same {d d' : DiskM} (hl : d'.lies = d.lies) (hp : d'.pend = d.pend) (c k : Nat) : effV d' c k = effV d c k := by
  unfold effV
  rw [views_same hl hp, view_same hl hp]
theorem Rests.same {d d' : DiskM} {cnt n B : Nat} (h : Rests d cnt n B) (hl : d'.lies = d.lies) (hp : d'.pend = d.pend) : Rests d' cnt n B :=
  ⟨by rw [hl]; exact h.len, fun k hk => by rw [view_same hl hp]; exact h.long k hk, by rw [hp]; exact h.pend, fun k hk => by rw [view_same hl hp]; exact h.ends k hk⟩
theorem Bare.same {d d' : DiskM} {cnt n B : Nat} (h : Bare d cnt n B) (hl : d'.lies = d.lies) (hp : d'.pend = d.pend) : Bare d' cnt n B :=
  ⟨h.rests.same hl hp, h.two, by rw [views_same hl hp]; exact h.none, by rw [view_same hl hp]; exact h.blank⟩
theorem Stands.still {d d' : DiskM} {cnt n hs B : Nat} {h : HeldM} {is : SeenM} (H : Stands d cnt n h hs B is) (hl : d'.lies = d.lies) (hp : d'.pend = d.pend) : Stands d' cnt n h hs B is :=
  H.same (H.rests.same hl hp) H.low (fun S l e => H.whole S l (by rw [← views_same hl hp]; exact e)) (fun k _ _ => eff_same hl hp _ _)
theorem Sits.still {d d' : DiskM} {st : StM} {is : SeenM} (H : Sits d st is) (hl : d'.lies = d.lies) (hp : d'.pend = d.pend) (ho : d'.off = false) : Sits d' st is := by
  obtain ⟨q1, q2⟩ := looks_same (st' := st) (d' := d') H.looks H.off ho rfl rfl rfl H.looks.lives (fun i _ => view_same hl hp _)
  exact ⟨H.rests.same hl hp, ho, H.two, fun S l e => H.whole S l (by rw [← views_same hl hp]; exact e), fun k h1 h2 => by rw [eff_same hl hp, view_same hl hp]; exact H.home k h1 h2, by rw [view_same hl hp]; exact H.head, H.ok, H.low, q1, by rw [q2]; exact H.seen⟩
def Lies (cnt n ser : Nat) (is : SeenM) (wl : Option SeenM) (k : Nat) (dm : DiskM) : Prop :=
  (wl = none ∧ is = bareSeen n ∧ ser = 0 ∧ ∃ B, Bare dm cnt n B ∧ 3 * (B + 1) + (if dm.armed = true then 1 else 0) ≤ 3 + k) ∨
  (∃ v h hs B, (v = is ∨ wl = some v) ∧ Stands dm cnt n h hs B v ∧ ser ≤ hs ∧ 3 * B ≤ 3 + k)
theorem Lies.mono {cnt n ser k k' : Nat} {is : SeenM} {wl : Option SeenM} {dm : DiskM} (h : Lies cnt n ser is wl k dm) (hk : k ≤ k') : Lies cnt n ser is wl k' dm := by
  rcases h with ⟨a, b, c, B, d, e⟩ | ⟨v, h, hs, B, a, b, c, d⟩
  · exact .inl ⟨a, b, c, B, d, by omega⟩
  · exact .inr ⟨v, h, hs, B, a, b, c, by omega⟩
theorem Lies.pend {cnt n ser k : Nat} {is : SeenM} {wl : Option SeenM} {dm : DiskM} (h : Lies cnt n ser is wl k dm) : dm.pend = [] := by
  rcases h with ⟨_, _, _, B, d, _⟩ | ⟨v, h, hs, B, _, b, _, _⟩
  · exact d.rests.pend
  · exact b.rests.pend
theorem Lies.still {cnt n ser k : Nat} {is : SeenM} {wl : Option SeenM} {d d' : DiskM} (h : Lies cnt n ser is wl k d) (hl : d'.lies = d.lies) (hp : d'.pend = d.pend) : Lies cnt n ser is wl (k + 1) d' := by
  rcases h with ⟨a, b, c, B, hb, e⟩ | ⟨v, h, hs, B, a, b, c, e⟩
  · exact .inl ⟨a, b, c, B, hb.same hl hp, by split <;> omega⟩
  · exact .inr ⟨v, h, hs, B, a, b.still hl hp, c, by omega⟩
theorem crash_still {d : DiskM} (hp : d.pend = []) (keep : List Bool) (torn cut : Int) : (d.crash keep torn cut).lies = d.lies ∧ (d.crash keep torn cut).pend = d.pend := by
  unfold DiskM.crash
  rw [hp]
  exact ⟨rfl, rfl⟩
theorem fuse_still (d : DiskM) (n : Int) : (d.fuse n).lies = d.lies ∧ (d.fuse n).pend = d.pend ∧ (d.fuse n).off = d.off := by
  unfold DiskM.fuse
  split <;> exact ⟨rfl, rfl, rfl⟩
def Downs (cnt n ser : Nat) (is : SeenM) (wl : Option SeenM) (k : Nat) (dm : DiskM) : Prop :=
  dm.pend.length < 100000 ∧ ((dm.off = false ∧ Lies cnt n ser is wl k dm) ∨ (dm.off = true ∧ ∀ keep torn cut, Lies cnt n ser is wl (k + 1) (dm.crash keep torn cut)))
theorem Downs.mono {cnt n ser k k' : Nat} {is : SeenM} {wl : Option SeenM} {dm : DiskM} (h : Downs cnt n ser is wl k dm) (hk : k ≤ k') : Downs cnt n ser is wl k' dm :=
  ⟨h.1, h.2.imp (fun h => ⟨h.1, h.2.mono hk⟩) (fun h => ⟨h.1, fun a b c => (h.2 a b c).mono (by omega)⟩)⟩
theorem Downs.fuse {cnt n ser k : Nat} {is : SeenM} {wl : Option SeenM} {dm : DiskM} (h : Downs cnt n ser is wl k dm) (x : Int) : Downs cnt n ser is wl (k + 1) (dm.fuse x) := by
  obtain ⟨f1, f2, f3⟩ := fuse_still dm x
  refine ⟨by rw [f2]; exact h.1, ?_⟩
  rcases h.2 with ⟨a, b⟩ | ⟨a, b⟩
  · exact .inl ⟨by rw [f3]; exact a, b.still f1 f2⟩
  · have e : dm.fuse x = dm := by unfold DiskM.fuse; rw [if_pos a]
    rw [e]
    exact .inr ⟨a, fun p q r => (b p q r).mono (by omega)⟩
theorem Downs.crash {cnt n ser k : Nat} {is : SeenM} {wl : Option SeenM} {dm : DiskM} (h : Downs cnt n ser is wl k dm) (keep : List Bool) (torn cut : Int) : Downs cnt n ser is wl (k + 1) (dm.crash keep torn cut) := by
  refine ⟨by show ([] : List (Nat × List UInt8)).length < 100000; simp, .inl ⟨rfl, ?_⟩⟩
  rcases h.2 with ⟨a, b⟩ | ⟨a, b⟩
  · obtain ⟨e1, e2⟩ := crash_still b.pend keep torn cut
    exact b.still e1 e2
  · exact b keep torn cut
def OpenYes (x : DiskH) (dm' : DiskM) (st : StM) (cnt : Nat) (w : World) : Prop :=
  ∀ w1, Kept No w w1 → Calls Tryz.prog 12 #[dev x.d, .int .i64 (cnt : Int)] w1 fun e w' => ∃ (x' : DiskH) (s u : Nat) (v : Value), e = .returned (.tuple #[.pointer (some ⟨s, 0, none⟩), .int .i64 0]) ∧ Kept x.foot w1 w' ∧ DiskAt w' x' dm' ∧ x'.d = x.d ∧ (∀ g, x'.foot g → x.foot g ∨ w1.heap.size ≤ g) ∧
      StAt w' s x.d u v (.pointer none) st ∧ w1.heap.size ≤ s ∧ w1.heap.size ≤ u ∧ ∀ g, v.ownBlock = some g → w1.heap.size ≤ g
def OpenNo (x : DiskH) (dm' : DiskM) (cnt : Nat) (w : World) : Prop :=
  ∀ w1, Kept No w w1 → Calls Tryz.prog 12 #[dev x.d, .int .i64 (cnt : Int)] w1 fun e w' => ∃ x' : DiskH, e = .returned (.tuple #[.pointer none, .int .i64 40]) ∧ Kept x.foot w1 w' ∧ DiskAt w' x' dm' ∧ x'.d = x.d ∧ ∀ g, x'.foot g → x.foot g ∨ w1.heap.size ≤ g
theorem layoutM_len (dm : DiskM) (cnt n S : Nat) : (layoutM dm cnt n S).1.lies.length = dm.lies.length := by
  unfold layoutM
  simp only
  split
  · exact putM_len _ _ _ _ _
  · rw [homeW_len]; exact putM_len _ _ _ _ _
theorem act_armed (m : DiskM) : m.act.1.armed = m.armed := by
  unfold DiskM.act
  split
  · split <;> rfl
  · rfl
theorem write_armed (m : DiskM) (n : Int) (b : List UInt8) : (m.write n b).1.armed = m.armed := by
  unfold DiskM.write
  split
  · rfl
  · split
    · rfl
    · split <;> exact act_armed m
theorem sync_armed (m : DiskM) : m.sync.1.armed = m.armed := by
  unfold DiskM.sync
  split
  · rfl
  · split <;> exact act_armed m
theorem homeW_armed (j S : Nat) : ∀ (l : List PageV) (m : DiskM), (homeW j S l m).1.armed = m.armed
  | [], m => sync_armed m
  | p :: l, m => by
    unfold homeW
    split
    · rfl
    · simp only
      split
      · exact write_armed m _ _
      · rw [homeW_armed j S l]; exact write_armed m _ _
theorem layM_armed (S : Nat) (x : DiskM × Int) (n : Nat) (k : UInt8) (b : List UInt8) : (layM S x n k b).1.armed = x.1.armed := by
  unfold layM
  split
  · rfl
  · split
    · rfl
    · exact write_armed _ _ _
theorem laysM_armed (f S : Nat) : ∀ (l : List PageV) (i : Nat) (x : DiskM × Int), (laysM f S i l x).1.armed = x.1.armed
  | [], i, x => rfl
  | p :: l, i, x => by
    unfold laysM
    rw [laysM_armed f S l]
    exact layM_armed _ _ _ _ _
theorem putM_armed (m : DiskM) (f : Nat) (c : Int) (S : Nat) (l : List PageV) : (putM m f c S l).1.armed = m.armed := by
  have h : (layM S (laysM f S 0 l (m, rightM c S l)) f 74 (heads l)).1.armed = m.armed := by rw [layM_armed, laysM_armed]
  unfold putM
  simp only
  split
  · exact h
  · rw [sync_armed]; exact h
theorem layoutM_armed (dm : DiskM) (cnt n S : Nat) : (layoutM dm cnt n S).1.armed = dm.armed := by
  unfold layoutM
  simp only
  split
  · exact putM_armed _ _ _ _ _
  · rw [homeW_armed]; exact putM_armed _ _ _ _ _
theorem open_dark {x : DiskH} {dm : DiskM} {w : World} {cnt n : Nat} (hx : DiskAt w x dm) (ho : dm.off = true) (hl : dm.lies.length = cnt + n) (hn2 : 2 ≤ n) (hc : 2 ≤ cnt) (hall : cnt + n ≤ 4096) : OpenNo x dm cnt w := fun w1 k =>
  (open_off x dm cnt n w1 (hx.kept k (fun _ _ h => h)) ho (by omega) hc hl hn2).mono fun e w' h => ⟨x, h.1, h.2.of_no _, (hx.kept k (fun _ _ h => h)).kept h.2 (fun _ _ h => h), rfl, fun _ h => .inl h⟩
theorem open_lies {x : DiskH} {dm : DiskM} {w : World} {cnt n ser k : Nat} {is : SeenM} {wl : Option SeenM} (hx : DiskAt w x dm) (ho : dm.off = false) (hl : Lies cnt n ser is wl k dm) (hn2 : 2 ≤ n) (hc : 2 ≤ cnt) (hall : cnt + n ≤ 4096) (hk : k ≤ 9223372036854776000) :
    (∃ dm' st v, (v = is ∨ wl = some v) ∧ Sits dm' st v ∧ st.count = cnt ∧ st.now.n = n ∧ ser ≤ st.serial ∧ 3 * (st.next - 1) ≤ 3 + k ∧ dm'.armed = dm.armed ∧ OpenYes x dm' st cnt w) ∨
    (∃ dm', dm.armed = true ∧ dm'.off = true ∧ dm'.lies.length = cnt + n ∧ dm'.pend.length < 100000 ∧ (∀ keep torn cut, Lies cnt n ser is wl (k + 2) (dm'.crash keep torn cut)) ∧ OpenNo x dm' cnt w) := by
  have hp := hl.pend
  rcases hl with ⟨rfl, rfl, rfl, B, hb, hB⟩ | ⟨v, h, hs, B, hv, H, hser, hB⟩
  · have htB : topOf (views dm 0 cnt) ≤ B := hb.rests.ends.top
    have hlen := hb.rests.len
    rcases bare_open hb ho hn2 hall (by omega) with ⟨q1, q2, q3⟩ | ⟨q0, q1, q2, q4, q3⟩
    · left
      refine ⟨_, _, _, .inl rfl, q2, rfl, rfl, Nat.zero_le _, ?_, layoutM_armed _ _ _ _, fun w1 kk => ?_⟩
      · show 3 * (topOf (views dm 0 cnt) + 2 - 1) ≤ 3 + k
        omega
      · exact open_blank x dm cnt n (topOf (views dm 0 cnt)) w1 (hx.kept kk (fun _ _ h => h)) ho (by omega) hc hlen hn2 (by rw [hp]; simp) hb.none rfl (by omega) hb.blank q1 q3
    · right
      refine ⟨_, q0, q2, ?_, by omega, fun keep torn cut => ?_, fun w1 kk => ?_⟩
      · rw [layoutM_len, hlen]
      · rw [if_pos q0] at hB
        rcases q3 keep torn cut with hq | hq
        · exact .inl ⟨rfl, rfl, rfl, _, hq, by
            rw [if_neg (by show ¬ false = true; simp)]
            omega⟩
        · exact .inr ⟨_, _, _, _, .inl rfl, hq, Nat.zero_le _, by omega⟩
      · exact open_blank_no x dm cnt n (topOf (views dm 0 cnt)) w1 (hx.kept kk (fun _ _ h => h)) ho (by omega) hc hlen hn2 (by rw [hp]; simp) hb.none rfl (by omega) hb.blank q1
  · have htB : topOf (views dm 0 cnt) ≤ B := H.rests.ends.top
    have hlen := H.rests.len
    have hlow := H.low
    cases hbm : batchM (views dm 0 cnt) 0 with
    | none =>
      left
      obtain ⟨q1, q2⟩ := stands_none H ho hbm
      refine ⟨_, _, _, hv, q1, rfl, H.num, hser, ?_, rfl, fun w1 kk => ?_⟩
      · show 3 * (max hs (topOf (views dm 0 cnt)) + 1 - 1) ≤ 3 + k
        omega
      · refine (open_none x dm cnt n (topOf (views dm 0 cnt)) hs (max hs (topOf (views dm 0 cnt))) h w1 (hx.kept kk (fun _ _ h => h)) ho (by omega) hc hlen hn2 (by rw [hp]; simp) hbm rfl rfl (by omega) H.ok H.num q2).mono ?_
        rintro e w' ⟨s, u, vv, h1, h2, h3, h4, h5, h6⟩
        exact ⟨x, s, u, vv, h1, h2.of_no _, (hx.kept kk (fun _ _ h => h)).kept h2 (fun _ _ h => h), rfl, fun _ h => .inl h, h3, h4, h5, h6⟩
    | some sl =>
      obtain ⟨S, l⟩ := sl
      have g := H.whole S l hbm
      have glow := g.low
      have glen := g.len
      rcases stands_whole H ho hbm with ⟨q1, q2, q3⟩ | ⟨q0, q1, q2, q4, q3⟩
      · left
        refine ⟨_, _, _, hv, q2, rfl, H.num, hser, ?_, homeW_armed _ _ _ _, fun w1 kk => ?_⟩
        · show 3 * (max hs (topOf (views dm 0 cnt)) + 1 - 1) ≤ 3 + k
          omega
        · exact open_whole x dm cnt n (topOf (views dm 0 cnt)) S hs (max hs (topOf (views dm 0 cnt))) l h w1 (hx.kept kk (fun _ _ h => h)) ho (by omega) hc hlen hn2 (by rw [hp]; simp) hbm rfl g.some_ (by omega) g.num g.body (by omega) rfl (by omega) q1 H.ok H.num q3
      · right
        refine ⟨_, q0, q2, ?_, by omega, fun keep torn cut => .inr ⟨v, h, hs, B, hv, q3 keep torn cut, hser, by omega⟩, fun w1 kk => ?_⟩
        · rw [homeW_len, hlen]
        · exact open_whole_no x dm cnt n (topOf (views dm 0 cnt)) S l w1 (hx.kept kk (fun _ _ h => h)) ho (by omega) hc hlen hn2 (by rw [hp]; simp) hbm rfl g.some_ (by omega) g.num g.body (by omega) q1
end Go.Proofs.YtabhieafjkaocaaGreat
