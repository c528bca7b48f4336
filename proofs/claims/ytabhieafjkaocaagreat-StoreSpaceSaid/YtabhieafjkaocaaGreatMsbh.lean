/- Merged by wip/tools/merge.py out of: LawSpaceW. -/
import Derived.Test.YtabhieafjkaocaaGreatMsbf
import Derived.Test.YtabhieafjkaocaaGreatMsbg
import Derived.Maps.AppendAt
/- StoreSpace: the walk. (Printed by wip/tools/spc.py.) -/
namespace Go.Proofs.YtabhieafjkaocaaGreat
open Go.RowKit Go.Lib Go.Maps Bm
set_option linter.unusedVariables false
set_option linter.unusedSimpArgs false
set_option maxRecDepth 20000

theorem infoBool : (Tryz.prog.info? 4).map (fun i => (i.zero, i.size, i.bytes)) = some (some (.bool false), 1, 1) := by kernel_rfl
theorem cnt_zero (k : Nat) : cnt (List.replicate k 0) = 0 := by
  have h : ∀ c, pc c 0 = 0 := by
    intro c
    induction c with
    | zero => rfl
    | succ c ih => simp [pc, ih]
  simp [cnt, h]

set_option maxHeartbeats 8000000 in
theorem space_in (pages : Int) (rv : Value) (l : List Int) (w : World) (hl : IntsAt w rv l) (P : Nat) (hP : pages = (P : Int)) (h5 : 5 ≤ P) (h100 : P ≤ 100) :
    Calls Tryz.prog 4 #[.int .i64 pages, rv] w fun e w' => e = .returned (.bool true) ∧ Kept No w w' := by
  obtain ⟨ra, rc, rfl⟩ := hl.len
  have HL := Lib.hid hl
  have hpn := ptr_not
  subst hP
  have hd1 : decide ((P : Int) < 5) = false := by simp; omega
  have hd2 : decide ((100 : Int) < (P : Int)) = false := by simp; omega
  have hF : FreshIn P 2 := ⟨by omega, by omega, by omega⟩
  obtain ⟨N, hN⟩ : ∃ N, N = P - 2 := ⟨_, rfl⟩
  have hN3 : 3 ≤ N := by omega
  have hN98 : N ≤ 98 := by omega
  have HNE := Lib.hid hN
  clear hN
  clear hl
  go_enter Tryz.func4, Tryz.ntmps4
  go_wp2_with (go_at_call 25; refine (wakes_ok w).mono ?_; rintro e w1 ⟨rfl, k1⟩; have K1 := Lib.hid k1; clear k1)

  refine (dnew_ok P w1 (by omega) (by omega)).mono ?_
  rintro e w2 ⟨x, rfl, k2, hx2, hf2⟩
  have hx2 : DiskAt w2 x (wk0 P) := hx2
  have hsz1 := K1.out.size
  have K2 : Hid (Kept No w w2) := Lib.hid (K1.out.trans k2)
  have F2 : Hid (∀ g, x.foot g → w.heap.size ≤ g) := Lib.hid (fun g hg => Nat.le_trans hsz1 (hf2 g hg))
  have HX2 := Lib.hid hx2
  clear k2 hx2 hf2 hsz1 K1
  have hopen := open_new P 2 hF x w2 HX2.out
  generalize hst : ws1 P 2 = st at *
  have hnow : st.now = HeldM.fresh N := by rw [← hst]; unfold ws1; rw [show P - 2 = N from HNE.out.symm]
  have hdead : st.dead = false := by rw [← hst]; rfl
  have HNOW := Lib.hid hnow
  have HDEAD := Lib.hid hdead
  have HOPEN := Lib.hid hopen
  clear hst hopen hnow hdead
  go_wp2_with fail
  refine HOPEN.out.mono ?_
  rintro e w3 ⟨x3, s, u, v, rfl, k3, hx3, hd3, hf3, hs3, hsn, hun, hvn⟩
  have K3 : Hid (Kept No w w3) := Lib.hid (K2.out.next k3 (fun k hk e => absurd (F2.out k e) (by omega)))
  have hz2 := K2.out.size
  have HSN : Hid (w.heap.size ≤ s) := Lib.hid (by omega)
  have HS3 := Lib.hid hs3
  clear k3 hx3 hd3 hf3 hs3 hsn hun hvn hz2 K2 HOPEN HX2
  go_wp2_with fail
  refine (begin_none s x.d u v st w3 HS3.out).mono ?_
  rw [HNOW.out, HDEAD.out]
  rintro e w4 ⟨b, u', v', hm, rfl, k4, hs4, hb4, hbn, hun, hvn, hhn⟩
  have hslt := lt_of_heap HS3.out.head
  have hult := lt_of_heap HS3.out.held.set.head
  have hvlt : ∀ g, v.ownBlock = some g → g < w3.heap.size := fun g hg => by
    obtain ⟨cs, hc⟩ := row_cells HS3.out.held.set.row hg
    exact lt_of_heap hc
  have hz3 := K3.out.size
  have K4 : Hid (Kept No w w4) := Lib.hid (K3.out.next k4 (fun k hk e => absurd HSN.out (by omega)))
  have HBF : Hid (∀ g, BtF b v' hm g → w3.heap.size ≤ g) := Lib.hid (fun g hg => by
    rcases hg with e | e | e
    · omega
    · exact hvn g e
    · omega)
  have HB4 := Lib.hid hb4
  have HS4 := Lib.hid hs4
  have HKS : Hid (∀ wr, Kept (BtF b v' hm) w4 wr → StAt wr s x.d u v (.pointer (some ⟨b, 0, none⟩)) st) := Lib.hid (fun wr k => hs4.kept k (fun e => by have := HBF.out s e; omega) (fun e => by have := HBF.out u e; omega) (fun g hg e => by have := HBF.out g e; have := hvlt g hg; omega))
  have HKW : Hid (∀ wr wr', Kept No w wr → Kept (BtF b v' hm) wr wr' → Kept No w wr') := Lib.hid (fun wr wr' k k' => k.next k' (fun j hj e => by have := HBF.out j e; omega))
  have hone : SpOne ⟨HeldM.fresh N, [], false, false⟩ N 1 := ⟨⟨rfl, rfl, HeldM.fresh_ok N (by omega) (by omega), rfl, fun j a b => by
    show mem (List.replicate ((N + 63) / 64) 0) j = _
    rw [mem_zero]; simp; omega⟩, List.Pairwise.nil, by simp, rfl⟩
  have HONE := Lib.hid hone
  have hpg := pages_ok s x.d u v (.pointer (some ⟨b, 0, none⟩)) st w4 hs4
  have hfr : ∀ wr, Kept (BtF b v' hm) w4 wr → Calls Tryz.prog 15 #[.pointer (some ⟨s, 0, none⟩)] wr fun e w' => e = .returned (.int .i64 ((N : Int) - 1)) ∧ Kept No wr w' := fun wr k => by
    have h := free_ok s x.d u v (.pointer (some ⟨b, 0, none⟩)) st wr (HKS.out wr k)
    rw [HNOW.out] at h
    have hc : cnt (HeldM.fresh N).ws = 0 := cnt_zero _
    rw [hc] at h
    simpa [HeldM.fresh] using h
  rw [HNOW.out] at hpg
  have hpg : Calls Tryz.prog 14 #[.pointer (some ⟨s, 0, none⟩)] w4 fun e w' => e = .returned (.int .i64 (N : Int)) ∧ w4 = w' := hpg
  have HPG := Lib.hid hpg
  have HFR := Lib.hid hfr
  have hwn : IntKind.i64.wrap ((N : Int) - 1) = (N : Int) - 1 := by rw [IntKind.wrap_i64]; omega
  clear k4 hs4 hb4 hbn hun hvn hhn hslt hult hvlt hz3 hone hpg hfr K3 HS3
  go_wp2_with (go_at_call 14; refine HPG.out.mono ?_; rintro e w' ⟨rfl, rfl⟩)
  go_loopw [11] (fun i wr => ∃ (k : Nat) (m : BtM), 1 ≤ k ∧ k ≤ N ∧ i = .int .i64 (k : Int) ∧ SpOne m N k ∧ (2 ≤ k → m.changed = true) ∧ BtAt wr b s u' v' hm m ∧ Kept (BtF b v' hm) w4 wr) (fun i _ => N - (intOf i).toNat)
  case atStart => exact ⟨1, _, by omega, by omega, rfl, HONE.out, by omega, HB4.out, Kept.refl _ _⟩
  case round =>
    obtain ⟨k, m, hk1, hkN, rfl, hsp, hch, hbt, hkw⟩ := hrel
    have HSP := Lib.hid hsp
    have HCH := Lib.hid hch
    have HBT := Lib.hid hbt
    have HKR := Lib.hid hkw
    clear hsp hch hbt hkw
    by_cases hlt : k < N
    · have hd : decide ((k : Int) ≤ (N : Int) - 1) = true := by simp; omega
      have hcal := alloc_ok b s u' v' hm m 3 [112] wr HBT.out (by simp)
      have hst := HSP.out.step hk1 hlt (3, [112]) (by simp)
      obtain ⟨a1, a2, a3⟩ := hst
      rw [a1] at hcal
      have HCAL := Lib.hid hcal
      have HA2 := Lib.hid a2
      have HA3 := Lib.hid a3
      have hwk : IntKind.u32.wrap (k : Int) = (k : Int) := by rw [IntKind.wrap_u32]; omega
      clear hcal a1 a2 a3
      go_wp2_with (go_at_call 11; refine HCAL.out.mono ?_; rintro e w5 ⟨rfl, k5, hb5⟩; have K5 := Lib.hid k5; have HB5 := Lib.hid hb5; clear k5 hb5)
      go_roundw
      case rel => exact ⟨k + 1, _, by omega, by omega, by first | rfl | go_num, HA2.out, fun _ => HA3.out, HB5.out, HKR.out.trans K5.out⟩
      case measure => simp [intOf]; omega
    · obtain rfl : k = N := by omega
      have hd : decide ((k : Int) ≤ (k : Int) - 1) = false := by simp; omega
      have hfull := HSP.out.sp.full (by omega) (fun j a b => by simp [b]) (3, [112]) (by simp)
      have hcal := alloc_ok b s u' v' hm m 3 [112] wr HBT.out (by simp)
      rw [hfull] at hcal
      have hsize : m.size = k := by
        unfold BtM.size
        rw [if_neg (by simp [HSP.out.sp.ended, HCH.out (by omega)])]
        have := HSP.out.len
        omega
      have HCAL := Lib.hid hcal
      have HSZ := Lib.hid hsize
      have HKR4 := HKW.out w4 wr K4.out HKR.out
      have hwk : IntKind.i64.wrap ((k : Int) - 1 + 1) = (k : Int) := by rw [IntKind.wrap_i64]; omega
      have hwk2 : (k : Int) - 1 + 1 = (k : Int) := by omega
      have HSPI := Lib.hid HSP.out.sp
      clear hcal hfull hsize HKR4
      go_wp2_with (first
        | (go_at_call 11; refine HCAL.out.mono ?_; rintro e w5 ⟨rfl, k5, hb5⟩; have K5 := Lib.hid k5; have HB5 := Lib.hid hb5; clear k5 hb5)
        | (go_at_call 20; refine (size_ok b s u' v' hm m w5 HB5.out).mono ?_; rintro e w' ⟨rfl, rfl⟩; rw [HSZ.out])
        | (go_at_call 15; refine (HFR.out w5 (HKR.out.trans K5.out)).mono ?_; rintro e w6 ⟨rfl, k6⟩; have K6 := Lib.hid k6; clear k6))
      have KT6 : Hid (Kept No w w6) := Lib.hid ((HKW.out w4 w5 K4.out (HKR.out.trans K5.out)).trans K6.out)
      have HB6 := Lib.hid (HB5.out.no K6.out)
      obtain ⟨i0, hi, hz0, hz1, hz2⟩ := info_parts infoBool
      clear K4 K5 K6 HB5 HKR HBT HSP HCH HCAL HSZ
      go_wp2_with fail
      go_loopw [16, 17] (fun o i wr => ∃ j : Nat, j ≤ k ∧ i = .int .i64 (j : Int) ∧ wr.ownsRow w.heap.size 4 1 o j (List.replicate j (.bool false)) ∧ BtAt wr b s u' v' hm m ∧ Kept No w wr) (fun _ i _ => k - (intOf i).toNat)
      case atStart => exact ⟨0, by omega, rfl, World.ownsRow_nil _ _ _ _, HB6.out, KT6.out⟩
      case round =>
        obtain ⟨j, hjk, rfl, hrow, hbt, hkw⟩ := hrel
        have HROW := Lib.hid hrow
        have HBT := Lib.hid hbt
        have HKR := Lib.hid hkw
        obtain ⟨oa, oc, rfl⟩ := row_slice hrow
        have hszw := hkw.size
        clear hrow hbt hkw
        by_cases hlt : j < k
        · have hdj : decide ((j : Int) ≤ (k : Int) - 1) = true := by simp; omega
          have hrn : (wr.alloc (.cells #[.bool false] 4)).ownsRow w.heap.size 4 1 (.slice oa j oc) j (List.replicate j (.bool false)) := ((Kept.refl No wr).alloc _).row HROW.out (fun _ _ h => h)
          have HRN := Lib.hid hrn
          clear hrn
          go_wp2_with (at_builtin; go_loud (refine wpList_append_own_at _ (by rfl) (.tmp 103) (.tmp 104) 48 (by rfl) w.heap.size 4 i0 _ 1 1 Tryz.underlying48 hi hz0 hz1 hz2 (by rfl) (by decide) _ j (List.replicate j (.bool false)) (by rfl) HRN.out ⟨wr.heap.size, 0, none⟩ 1 1 [.bool false] (by rfl) (by rfl) (cell_one_new _ _ _) (by simp [Value.oneCell']) (by unfold maxLen; omega) (by omega) (by simp; omega) ?_; intro v2 w7 hown' hgrow _ hloc; have HO := Lib.hid hown'; have HG := Lib.hid hgrow; clear hown' hgrow hloc))
          have hkg : Kept (fun q => (Value.slice oa j oc).ownBlock = some q) wr w7 := ((Kept.refl _ wr).alloc _).trans (Kept.of_grown HG.out)
          have hty : ∀ (q : Nat) cs t, wr.heap[q]? = some (.cells cs t (0, 0)) → t ≠ 4 → ¬ (Value.slice oa j oc).ownBlock = some q := fun q cs t hq hne e => by
            obtain ⟨cs', hc'⟩ := row_cells HROW.out e
            exact cells_ne hq hc' hne rfl
          have hmp : ¬ (Value.slice oa j oc).ownBlock = some hm := fun e => by
            obtain ⟨cs', hc'⟩ := row_cells HROW.out e
            obtain ⟨D, hD⟩ := HBT.out.has
            obtain ⟨es, clock, hmb, -⟩ := hD.own
            exact map_ne hc' hmb rfl
          have hb7 := HBT.out.kept hkg (hty _ _ _ HBT.out.head (by decide)) (hty _ _ _ HBT.out.held.set.head (by decide)) (fun q hq => by
            obtain ⟨cs, hc⟩ := row_cells HBT.out.held.set.row hq
            exact hty _ _ _ hc (by decide)) hmp
          have hk7 : Kept No w w7 := HKR.out.next hkg (fun q hq e => by
            rcases HROW.out.2 with ⟨h, _⟩ | ⟨g2, _, _, h, hb, _⟩
            · rw [h] at e; cases e
            · rw [h] at e
              have : q = g2 := by simpa [Value.ownBlock] using e.symm
              omega)
          refine ⟨⟨j + 1, by omega, by first | rfl | go_num, ?_, hb7, hk7⟩, by simp [intOf]; omega⟩
          rw [List.replicate_succ']
          exact HO.out
        · obtain rfl : j = k := by omega
          have hdj : decide ((j : Int) ≤ (j : Int) - 1) = false := by simp; omega
          obtain ⟨g, cap, cur, hv, hgb, hgc, hgs, -, hgz, hgt⟩ : ∃ g cap cur, Value.slice oa j oc = .slice (some ⟨g, 0, none⟩) j cap ∧ w.heap.size ≤ g ∧ wr.heap[g]? = some (.cells cur 4 (0, 0)) ∧ j ≤ cap ∧ cap ≤ maxLen ∧ cur.size = cap * 1 ∧ cur.toList.take (j * 1) = List.replicate j (.bool false) := by
            rcases HROW.out.2 with ⟨_, h2⟩ | h
            · omega
            · exact h
          injection hv with hv1 hv2 hv3
          subst hv1
          subst hv3
          have hc0 : ∀ q, q < j → cur[q]? = some (.bool (decide (1 ≤ q) && !decide (q < j))) := fun q hq => by
            have h1 : (cur.toList.take (j * 1))[q]? = (List.replicate j (Value.bool false))[q]? := by rw [hgt]
            rw [List.getElem?_take_of_lt (by omega), List.getElem?_replicate, if_pos hq, Array.getElem?_toList] at h1
            rw [h1]; simp [hq]
          have HG0 := Lib.hid hgc
          have HC0 := Lib.hid hc0
          have HGB := Lib.hid hgb
          clear hgc hgs hgz hgt hc0 hv2 HROW hgb
          go_wp2_with fail
          go_loopw [18] (fun i wr => ∃ (q : Nat) (Pf : Nat → Bool) (m : BtM) (cur : Array Value), q ≤ l.length ∧ i = .int .i64 (q : Int) ∧ wr.heap[g]? = some (.cells cur 4 (0, 0)) ∧ (∀ y, y < j → cur[y]? = some (.bool (decide (1 ≤ y) && !Pf y))) ∧ SpIn m j Pf ∧ BtAt wr b s u' v' hm m ∧ Kept No w wr) (fun i _ => l.length - (intOf i).toNat)
          case atStart => exact ⟨0, _, m, cur, by omega, rfl, HG0.out, HC0.out, HSPI.out, HBT.out, HKR.out⟩
          case round =>
            obtain ⟨q, Pf, m2, cur2, hql, rfl, hg2, hc2, hsp2, hbt2, hkw2⟩ := hrel
            have HG2 := Lib.hid hg2
            have HC2 := Lib.hid hc2
            have HSP2 := Lib.hid hsp2
            have HBT2 := Lib.hid hbt2
            have HKW2 := Lib.hid hkw2
            clear hg2 hc2 hsp2 hbt2 hkw2
            have hln := HL.out.2.1
            by_cases hlt2 : q < l.length
            · obtain ⟨gb, off, cap2, ev, hb2, hcs⟩ := (HL.out.kept HKW2.out (fun _ _ h => h)).at (by omega)
              obtain ⟨hra, hrc⟩ : ra = some ⟨gb, off, none⟩ ∧ rc = cap2 := by simpa using ev
              subst hra
              subst hrc
              have hcell := hcs q hlt2
              have hel := HL.out.elem hlt2
              clear hcs ev hb2
              generalize hrq : l.getD q 0 = r at *
              clear hrq
              by_cases hbad : r < 1 ∨ (j : Int) - 1 < r
              · rcases hbad with hb | hb
                · have hdr : decide (r < 1) = true := by simp; omega
                  clear hb hel
                  go_wp2_with fail
                  go_roundw
                  case rel => exact ⟨q + 1, Pf, m2, cur2, by omega, by first | rfl | go_num, HG2.out, HC2.out, HSP2.out, HBT2.out, HKW2.out⟩
                  case measure => simp [intOf]; omega
                · have hdr : decide (r < 1) = false := by simp; omega
                  have hdr2 : decide ((j : Int) - 1 < r) = true := by simp; omega
                  clear hb hel
                  go_wp2_with fail
                  go_roundw
                  case rel => exact ⟨q + 1, Pf, m2, cur2, by omega, by first | rfl | go_num, HG2.out, HC2.out, HSP2.out, HBT2.out, HKW2.out⟩
                  case measure => simp [intOf]; omega
              · obtain ⟨R, rfl⟩ : ∃ R : Nat, r = (R : Int) := ⟨r.toNat, by omega⟩
                have hR1 : 1 ≤ R := by omega
                have hRj : R < j := by omega
                have hdr : decide ((R : Int) < 1) = false := by simp; omega
                have hdr2 : decide ((j : Int) - 1 < (R : Int)) = false := by simp; omega
                have hwR : IntKind.u32.wrap (R : Int) = (R : Int) := by rw [IntKind.wrap_u32]; omega
                have hrel2 := release_ok b s u' v' hm m2 R wr HBT2.out (by omega)
                obtain ⟨q1, q2⟩ := HSP2.out.release hR1 hRj
                rw [q1] at hrel2
                have HREL := Lib.hid hrel2
                have HQ2 := Lib.hid q2
                have hcR := HC2.out R hRj
                have hszc : R < cur2.size := (Array.getElem?_eq_some_iff.1 hcR).1
                rw [show decide (1 ≤ R) = true from by simp [hR1], Bool.true_and] at hcR
                clear hrel2 q1 q2 hbad hel
                cases hPR : Pf R
                all_goals
                  rw [hPR] at hcR
                  have HPR := Lib.hid hPR
                  clear hPR
                  go_wp2_with (go_at_call 22; refine HREL.out.mono ?_; rw [HPR.out]; rintro e w8 ⟨rfl, k8, hb8⟩; have K8 := Lib.hid k8; have HB8 := Lib.hid hb8; have hgne : ¬ BtF b v' hm g := (fun e => by
                    rcases e with e | e | e
                    · exact cells_ne HG2.out HBT2.out.head (by decide) e
                    · obtain ⟨cs, hc⟩ := row_cells HBT2.out.held.set.row e
                      exact cells_ne HG2.out hc (by decide) rfl
                    · obtain ⟨D, hD⟩ := HBT2.out.has
                      obtain ⟨es, clock, hmb, -⟩ := hD.own
                      exact map_ne HG2.out hmb e); have hg8 := k8.heap HG2.out hgne; have HG8 := Lib.hid hg8; have gc := (cell_of_row w8 g R _ _ _ hg8).trans hcR; have gf := frozen_of_row w8 g R _ _ hg8; clear k8 hb8 hg8)
                  go_roundw
                  case rel =>
                    have kz : Kept (fun y => y = g) w8 (w8.setCell ⟨g, R, none⟩ (.bool true)) := (Kept.refl _ _).setCell _ _ (fun _ => rfl)
                    have hz := heap_setCell_same w8 g R _ _ (.bool true) HG8.out
                    refine ⟨q + 1, _, _, _, by omega, by first | rfl | go_num, hz, fun y hy => ?_, HQ2.out, HB8.out.kept kz (fun e => hgne (.inl e.symm)) (fun e => cells_ne HG8.out HB8.out.held.set.head (by decide) e.symm) (fun y hy e => hgne (.inr (.inl (e ▸ hy)))) (fun e => hgne (.inr (.inr e.symm))), (HKW.out wr w8 HKW2.out K8.out).next kz (fun y hy e => absurd HGB.out (by omega))⟩
                    by_cases e : y = R
                    · subst e
                      rw [Array.getElem?_setIfInBounds_self_of_lt hszc]
                      simp [hR1]
                    · rw [Array.getElem?_setIfInBounds_ne (fun h => e h.symm), HC2.out y hy]
                      simp [e]
                  case measure => simp [intOf]; omega
            · obtain rfl : q = l.length := by omega
              have HPfl : Hid (SpIn m2 j Pf) := HSP2
              go_wp2_with fail
              go_loopw [21] (fun i wr => ∃ (z : Nat) (Pg : Nat → Bool) (m : BtM), 1 ≤ z ∧ z ≤ j ∧ i = .int .i64 (z : Int) ∧ wr.heap[g]? = some (.cells cur2 4 (0, 0)) ∧ SpIn m j Pg ∧ (∀ y, 1 ≤ y → y < z → Pg y = true) ∧ (∀ y, z ≤ y → Pg y = Pf y) ∧ BtAt wr b s u' v' hm m ∧ Kept No w wr) (fun i _ => j - (intOf i).toNat)
              case atStart => exact ⟨1, Pf, m2, by omega, by omega, rfl, HG2.out, HSP2.out, fun y _ _ => by omega, fun _ _ => rfl, HBT2.out, HKW2.out⟩
              case round =>
                obtain ⟨z, Pg, m3, hz1, hzj, rfl, hg3, hsp3, hlo, hhi, hbt3, hkw3⟩ := hrel
                have HG3 := Lib.hid hg3
                have HSP3 := Lib.hid hsp3
                have HLO := Lib.hid hlo
                have HHI := Lib.hid hhi
                have HBT3 := Lib.hid hbt3
                have HKW3 := Lib.hid hkw3
                clear hg3 hsp3 hlo hhi hbt3 hkw3
                by_cases hlt3 : z < j
                · have hdz : decide ((z : Int) ≤ (j : Int) - 1) = true := by simp; omega
                  have hcz := HC2.out z hlt3
                  rw [show decide (1 ≤ z) = true from by simp [hz1], Bool.true_and] at hcz
                  have gc := (cell_of_row wr g z _ _ _ HG3.out).trans hcz
                  clear hcz
                  cases hPz : Pf z
                  · rw [hPz] at gc
                    obtain ⟨a1, a2, -, -⟩ := HSP3.out.alloc hz1 hlt3 (by rw [HHI.out z (Nat.le_refl _)]; exact hPz) (fun y p q => HLO.out y p q) (4, [113]) (by simp)
                    have hcal := alloc_ok b s u' v' hm m3 4 [113] wr HBT3.out (by simp)
                    rw [a1] at hcal
                    have HCAL := Lib.hid hcal
                    have HA2 := Lib.hid a2
                    have hwz : IntKind.u32.wrap (z : Int) = (z : Int) := by rw [IntKind.wrap_u32]; omega
                    clear hcal a1 a2 hPz
                    go_wp2_with (go_at_call 11; refine HCAL.out.mono ?_; rintro e w8 ⟨rfl, k8, hb8⟩; have K8 := Lib.hid k8; have HB8 := Lib.hid hb8; clear k8 hb8)
                    go_roundw
                    case rel =>
                      have hgne : ¬ BtF b v' hm g := (fun e => by
                        rcases e with e | e | e
                        · exact cells_ne HG3.out HBT3.out.head (by decide) e
                        · obtain ⟨cs, hc⟩ := row_cells HBT3.out.held.set.row e
                          exact cells_ne HG3.out hc (by decide) rfl
                        · obtain ⟨D, hD⟩ := HBT3.out.has
                          obtain ⟨es, clock, hmb, -⟩ := hD.own
                          exact map_ne HG3.out hmb e)
                      refine ⟨z + 1, _, _, by omega, by omega, by first | rfl | go_num, K8.out.heap HG3.out hgne, HA2.out, fun y p q => ?_, fun y p => ?_, HB8.out, HKW.out wr w8 HKW3.out K8.out⟩
                      · by_cases e : y = z
                        · simp [e]
                        · rw [HLO.out y p (by omega)]; rfl
                      · rw [HHI.out y (by omega)]
                        simp [show ¬ y = z by omega]
                    case measure => simp [intOf]; omega
                  · rw [hPz] at gc
                    have HPz := Lib.hid hPz
                    clear hPz
                    go_wp2_with fail
                    go_roundw
                    case rel =>
                      refine ⟨z + 1, Pg, m3, by omega, by omega, by first | rfl | go_num, HG3.out, HSP3.out, fun y p q => ?_, fun y p => HHI.out y (by omega), HBT3.out, HKW3.out⟩
                      by_cases e : y = z
                      · rw [e, HHI.out z (Nat.le_refl _)]; exact HPz.out
                      · exact HLO.out y p (by omega)
                    case measure => simp [intOf]; omega
                · obtain rfl : z = j := by omega
                  have hdz : decide ((z : Int) ≤ (z : Int) - 1) = false := by simp; omega
                  have hfull := HSP3.out.full (by omega) (fun y p q => HLO.out y p q) (3, [112]) (by simp)
                  have hcal := alloc_ok b s u' v' hm m3 3 [112] wr HBT3.out (by simp)
                  rw [hfull] at hcal
                  have HCAL := Lib.hid hcal
                  clear hcal hfull
                  go_wp2_with (go_at_call 11; refine HCAL.out.mono ?_; rintro e w8 ⟨rfl, k8, hb8⟩; have K8 := Lib.hid k8; clear k8 hb8)
                  go_ret
                  exact ⟨rfl, HKW.out wr w8 HKW3.out K8.out⟩

set_option maxHeartbeats 8000000 in
theorem space_lo (pages : Int) (rv : Value) (l : List Int) (w : World) (hl : IntsAt w rv l) (h5 : pages < 5) :
    Calls Tryz.prog 4 #[.int .i64 pages, rv] w fun e w' => e = .returned (.bool true) ∧ Kept No w w' := by
  obtain ⟨ra, rc, rfl⟩ := hl.len
  have HL := Lib.hid hl
  have hpn := ptr_not
  have hd1 : decide (pages < 5) = true := by simp; omega
  obtain ⟨P, hP⟩ : ∃ P : Nat, P = 12 := ⟨_, rfl⟩
  have hF : FreshIn P 2 := ⟨by omega, by omega, by omega⟩
  obtain ⟨N, hN⟩ : ∃ N, N = P - 2 := ⟨_, rfl⟩
  have hN3 : 3 ≤ N := by omega
  have hN98 : N ≤ 98 := by omega
  have HNE := Lib.hid hN
  clear hN
  clear hl
  go_enter Tryz.func4, Tryz.ntmps4
  go_wp2_with (go_at_call 25; refine (wakes_ok w).mono ?_; rintro e w1 ⟨rfl, k1⟩; have K1 := Lib.hid k1; clear k1)
  rw [show (12 : Int) = (P : Int) from by omega]
  have h5 : 5 ≤ P := by omega
  have h100 : P ≤ 100 := by omega
  clear hP

  refine (dnew_ok P w1 (by omega) (by omega)).mono ?_
  rintro e w2 ⟨x, rfl, k2, hx2, hf2⟩
  have hx2 : DiskAt w2 x (wk0 P) := hx2
  have hsz1 := K1.out.size
  have K2 : Hid (Kept No w w2) := Lib.hid (K1.out.trans k2)
  have F2 : Hid (∀ g, x.foot g → w.heap.size ≤ g) := Lib.hid (fun g hg => Nat.le_trans hsz1 (hf2 g hg))
  have HX2 := Lib.hid hx2
  clear k2 hx2 hf2 hsz1 K1
  have hopen := open_new P 2 hF x w2 HX2.out
  generalize hst : ws1 P 2 = st at *
  have hnow : st.now = HeldM.fresh N := by rw [← hst]; unfold ws1; rw [show P - 2 = N from HNE.out.symm]
  have hdead : st.dead = false := by rw [← hst]; rfl
  have HNOW := Lib.hid hnow
  have HDEAD := Lib.hid hdead
  have HOPEN := Lib.hid hopen
  clear hst hopen hnow hdead
  go_wp2_with fail
  refine HOPEN.out.mono ?_
  rintro e w3 ⟨x3, s, u, v, rfl, k3, hx3, hd3, hf3, hs3, hsn, hun, hvn⟩
  have K3 : Hid (Kept No w w3) := Lib.hid (K2.out.next k3 (fun k hk e => absurd (F2.out k e) (by omega)))
  have hz2 := K2.out.size
  have HSN : Hid (w.heap.size ≤ s) := Lib.hid (by omega)
  have HS3 := Lib.hid hs3
  clear k3 hx3 hd3 hf3 hs3 hsn hun hvn hz2 K2 HOPEN HX2
  go_wp2_with fail
  refine (begin_none s x.d u v st w3 HS3.out).mono ?_
  rw [HNOW.out, HDEAD.out]
  rintro e w4 ⟨b, u', v', hm, rfl, k4, hs4, hb4, hbn, hun, hvn, hhn⟩
  have hslt := lt_of_heap HS3.out.head
  have hult := lt_of_heap HS3.out.held.set.head
  have hvlt : ∀ g, v.ownBlock = some g → g < w3.heap.size := fun g hg => by
    obtain ⟨cs, hc⟩ := row_cells HS3.out.held.set.row hg
    exact lt_of_heap hc
  have hz3 := K3.out.size
  have K4 : Hid (Kept No w w4) := Lib.hid (K3.out.next k4 (fun k hk e => absurd HSN.out (by omega)))
  have HBF : Hid (∀ g, BtF b v' hm g → w3.heap.size ≤ g) := Lib.hid (fun g hg => by
    rcases hg with e | e | e
    · omega
    · exact hvn g e
    · omega)
  have HB4 := Lib.hid hb4
  have HS4 := Lib.hid hs4
  have HKS : Hid (∀ wr, Kept (BtF b v' hm) w4 wr → StAt wr s x.d u v (.pointer (some ⟨b, 0, none⟩)) st) := Lib.hid (fun wr k => hs4.kept k (fun e => by have := HBF.out s e; omega) (fun e => by have := HBF.out u e; omega) (fun g hg e => by have := HBF.out g e; have := hvlt g hg; omega))
  have HKW : Hid (∀ wr wr', Kept No w wr → Kept (BtF b v' hm) wr wr' → Kept No w wr') := Lib.hid (fun wr wr' k k' => k.next k' (fun j hj e => by have := HBF.out j e; omega))
  have hone : SpOne ⟨HeldM.fresh N, [], false, false⟩ N 1 := ⟨⟨rfl, rfl, HeldM.fresh_ok N (by omega) (by omega), rfl, fun j a b => by
    show mem (List.replicate ((N + 63) / 64) 0) j = _
    rw [mem_zero]; simp; omega⟩, List.Pairwise.nil, by simp, rfl⟩
  have HONE := Lib.hid hone
  have hpg := pages_ok s x.d u v (.pointer (some ⟨b, 0, none⟩)) st w4 hs4
  have hfr : ∀ wr, Kept (BtF b v' hm) w4 wr → Calls Tryz.prog 15 #[.pointer (some ⟨s, 0, none⟩)] wr fun e w' => e = .returned (.int .i64 ((N : Int) - 1)) ∧ Kept No wr w' := fun wr k => by
    have h := free_ok s x.d u v (.pointer (some ⟨b, 0, none⟩)) st wr (HKS.out wr k)
    rw [HNOW.out] at h
    have hc : cnt (HeldM.fresh N).ws = 0 := cnt_zero _
    rw [hc] at h
    simpa [HeldM.fresh] using h
  rw [HNOW.out] at hpg
  have hpg : Calls Tryz.prog 14 #[.pointer (some ⟨s, 0, none⟩)] w4 fun e w' => e = .returned (.int .i64 (N : Int)) ∧ w4 = w' := hpg
  have HPG := Lib.hid hpg
  have HFR := Lib.hid hfr
  have hwn : IntKind.i64.wrap ((N : Int) - 1) = (N : Int) - 1 := by rw [IntKind.wrap_i64]; omega
  clear k4 hs4 hb4 hbn hun hvn hhn hslt hult hvlt hz3 hone hpg hfr K3 HS3
  go_wp2_with (go_at_call 14; refine HPG.out.mono ?_; rintro e w' ⟨rfl, rfl⟩)
  go_loopw [11] (fun i wr => ∃ (k : Nat) (m : BtM), 1 ≤ k ∧ k ≤ N ∧ i = .int .i64 (k : Int) ∧ SpOne m N k ∧ (2 ≤ k → m.changed = true) ∧ BtAt wr b s u' v' hm m ∧ Kept (BtF b v' hm) w4 wr) (fun i _ => N - (intOf i).toNat)
  case atStart => exact ⟨1, _, by omega, by omega, rfl, HONE.out, by omega, HB4.out, Kept.refl _ _⟩
  case round =>
    obtain ⟨k, m, hk1, hkN, rfl, hsp, hch, hbt, hkw⟩ := hrel
    have HSP := Lib.hid hsp
    have HCH := Lib.hid hch
    have HBT := Lib.hid hbt
    have HKR := Lib.hid hkw
    clear hsp hch hbt hkw
    by_cases hlt : k < N
    · have hd : decide ((k : Int) ≤ (N : Int) - 1) = true := by simp; omega
      have hcal := alloc_ok b s u' v' hm m 3 [112] wr HBT.out (by simp)
      have hst := HSP.out.step hk1 hlt (3, [112]) (by simp)
      obtain ⟨a1, a2, a3⟩ := hst
      rw [a1] at hcal
      have HCAL := Lib.hid hcal
      have HA2 := Lib.hid a2
      have HA3 := Lib.hid a3
      have hwk : IntKind.u32.wrap (k : Int) = (k : Int) := by rw [IntKind.wrap_u32]; omega
      clear hcal a1 a2 a3
      go_wp2_with (go_at_call 11; refine HCAL.out.mono ?_; rintro e w5 ⟨rfl, k5, hb5⟩; have K5 := Lib.hid k5; have HB5 := Lib.hid hb5; clear k5 hb5)
      go_roundw
      case rel => exact ⟨k + 1, _, by omega, by omega, by first | rfl | go_num, HA2.out, fun _ => HA3.out, HB5.out, HKR.out.trans K5.out⟩
      case measure => simp [intOf]; omega
    · obtain rfl : k = N := by omega
      have hd : decide ((k : Int) ≤ (k : Int) - 1) = false := by simp; omega
      have hfull := HSP.out.sp.full (by omega) (fun j a b => by simp [b]) (3, [112]) (by simp)
      have hcal := alloc_ok b s u' v' hm m 3 [112] wr HBT.out (by simp)
      rw [hfull] at hcal
      have hsize : m.size = k := by
        unfold BtM.size
        rw [if_neg (by simp [HSP.out.sp.ended, HCH.out (by omega)])]
        have := HSP.out.len
        omega
      have HCAL := Lib.hid hcal
      have HSZ := Lib.hid hsize
      have HKR4 := HKW.out w4 wr K4.out HKR.out
      have hwk : IntKind.i64.wrap ((k : Int) - 1 + 1) = (k : Int) := by rw [IntKind.wrap_i64]; omega
      have hwk2 : (k : Int) - 1 + 1 = (k : Int) := by omega
      have HSPI := Lib.hid HSP.out.sp
      clear hcal hfull hsize HKR4
      go_wp2_with (first
        | (go_at_call 11; refine HCAL.out.mono ?_; rintro e w5 ⟨rfl, k5, hb5⟩; have K5 := Lib.hid k5; have HB5 := Lib.hid hb5; clear k5 hb5)
        | (go_at_call 20; refine (size_ok b s u' v' hm m w5 HB5.out).mono ?_; rintro e w' ⟨rfl, rfl⟩; rw [HSZ.out])
        | (go_at_call 15; refine (HFR.out w5 (HKR.out.trans K5.out)).mono ?_; rintro e w6 ⟨rfl, k6⟩; have K6 := Lib.hid k6; clear k6))
      have KT6 : Hid (Kept No w w6) := Lib.hid ((HKW.out w4 w5 K4.out (HKR.out.trans K5.out)).trans K6.out)
      have HB6 := Lib.hid (HB5.out.no K6.out)
      obtain ⟨i0, hi, hz0, hz1, hz2⟩ := info_parts infoBool
      clear K4 K5 K6 HB5 HKR HBT HSP HCH HCAL HSZ
      go_wp2_with fail
      go_loopw [16, 17] (fun o i wr => ∃ j : Nat, j ≤ k ∧ i = .int .i64 (j : Int) ∧ wr.ownsRow w.heap.size 4 1 o j (List.replicate j (.bool false)) ∧ BtAt wr b s u' v' hm m ∧ Kept No w wr) (fun _ i _ => k - (intOf i).toNat)
      case atStart => exact ⟨0, by omega, rfl, World.ownsRow_nil _ _ _ _, HB6.out, KT6.out⟩
      case round =>
        obtain ⟨j, hjk, rfl, hrow, hbt, hkw⟩ := hrel
        have HROW := Lib.hid hrow
        have HBT := Lib.hid hbt
        have HKR := Lib.hid hkw
        obtain ⟨oa, oc, rfl⟩ := row_slice hrow
        have hszw := hkw.size
        clear hrow hbt hkw
        by_cases hlt : j < k
        · have hdj : decide ((j : Int) ≤ (k : Int) - 1) = true := by simp; omega
          have hrn : (wr.alloc (.cells #[.bool false] 4)).ownsRow w.heap.size 4 1 (.slice oa j oc) j (List.replicate j (.bool false)) := ((Kept.refl No wr).alloc _).row HROW.out (fun _ _ h => h)
          have HRN := Lib.hid hrn
          clear hrn
          go_wp2_with (at_builtin; go_loud (refine wpList_append_own_at _ (by rfl) (.tmp 103) (.tmp 104) 48 (by rfl) w.heap.size 4 i0 _ 1 1 Tryz.underlying48 hi hz0 hz1 hz2 (by rfl) (by decide) _ j (List.replicate j (.bool false)) (by rfl) HRN.out ⟨wr.heap.size, 0, none⟩ 1 1 [.bool false] (by rfl) (by rfl) (cell_one_new _ _ _) (by simp [Value.oneCell']) (by unfold maxLen; omega) (by omega) (by simp; omega) ?_; intro v2 w7 hown' hgrow _ hloc; have HO := Lib.hid hown'; have HG := Lib.hid hgrow; clear hown' hgrow hloc))
          have hkg : Kept (fun q => (Value.slice oa j oc).ownBlock = some q) wr w7 := ((Kept.refl _ wr).alloc _).trans (Kept.of_grown HG.out)
          have hty : ∀ (q : Nat) cs t, wr.heap[q]? = some (.cells cs t (0, 0)) → t ≠ 4 → ¬ (Value.slice oa j oc).ownBlock = some q := fun q cs t hq hne e => by
            obtain ⟨cs', hc'⟩ := row_cells HROW.out e
            exact cells_ne hq hc' hne rfl
          have hmp : ¬ (Value.slice oa j oc).ownBlock = some hm := fun e => by
            obtain ⟨cs', hc'⟩ := row_cells HROW.out e
            obtain ⟨D, hD⟩ := HBT.out.has
            obtain ⟨es, clock, hmb, -⟩ := hD.own
            exact map_ne hc' hmb rfl
          have hb7 := HBT.out.kept hkg (hty _ _ _ HBT.out.head (by decide)) (hty _ _ _ HBT.out.held.set.head (by decide)) (fun q hq => by
            obtain ⟨cs, hc⟩ := row_cells HBT.out.held.set.row hq
            exact hty _ _ _ hc (by decide)) hmp
          have hk7 : Kept No w w7 := HKR.out.next hkg (fun q hq e => by
            rcases HROW.out.2 with ⟨h, _⟩ | ⟨g2, _, _, h, hb, _⟩
            · rw [h] at e; cases e
            · rw [h] at e
              have : q = g2 := by simpa [Value.ownBlock] using e.symm
              omega)
          refine ⟨⟨j + 1, by omega, by first | rfl | go_num, ?_, hb7, hk7⟩, by simp [intOf]; omega⟩
          rw [List.replicate_succ']
          exact HO.out
        · obtain rfl : j = k := by omega
          have hdj : decide ((j : Int) ≤ (j : Int) - 1) = false := by simp; omega
          obtain ⟨g, cap, cur, hv, hgb, hgc, hgs, -, hgz, hgt⟩ : ∃ g cap cur, Value.slice oa j oc = .slice (some ⟨g, 0, none⟩) j cap ∧ w.heap.size ≤ g ∧ wr.heap[g]? = some (.cells cur 4 (0, 0)) ∧ j ≤ cap ∧ cap ≤ maxLen ∧ cur.size = cap * 1 ∧ cur.toList.take (j * 1) = List.replicate j (.bool false) := by
            rcases HROW.out.2 with ⟨_, h2⟩ | h
            · omega
            · exact h
          injection hv with hv1 hv2 hv3
          subst hv1
          subst hv3
          have hc0 : ∀ q, q < j → cur[q]? = some (.bool (decide (1 ≤ q) && !decide (q < j))) := fun q hq => by
            have h1 : (cur.toList.take (j * 1))[q]? = (List.replicate j (Value.bool false))[q]? := by rw [hgt]
            rw [List.getElem?_take_of_lt (by omega), List.getElem?_replicate, if_pos hq, Array.getElem?_toList] at h1
            rw [h1]; simp [hq]
          have HG0 := Lib.hid hgc
          have HC0 := Lib.hid hc0
          have HGB := Lib.hid hgb
          clear hgc hgs hgz hgt hc0 hv2 HROW hgb
          go_wp2_with fail
          go_loopw [18] (fun i wr => ∃ (q : Nat) (Pf : Nat → Bool) (m : BtM) (cur : Array Value), q ≤ l.length ∧ i = .int .i64 (q : Int) ∧ wr.heap[g]? = some (.cells cur 4 (0, 0)) ∧ (∀ y, y < j → cur[y]? = some (.bool (decide (1 ≤ y) && !Pf y))) ∧ SpIn m j Pf ∧ BtAt wr b s u' v' hm m ∧ Kept No w wr) (fun i _ => l.length - (intOf i).toNat)
          case atStart => exact ⟨0, _, m, cur, by omega, rfl, HG0.out, HC0.out, HSPI.out, HBT.out, HKR.out⟩
          case round =>
            obtain ⟨q, Pf, m2, cur2, hql, rfl, hg2, hc2, hsp2, hbt2, hkw2⟩ := hrel
            have HG2 := Lib.hid hg2
            have HC2 := Lib.hid hc2
            have HSP2 := Lib.hid hsp2
            have HBT2 := Lib.hid hbt2
            have HKW2 := Lib.hid hkw2
            clear hg2 hc2 hsp2 hbt2 hkw2
            have hln := HL.out.2.1
            by_cases hlt2 : q < l.length
            · obtain ⟨gb, off, cap2, ev, hb2, hcs⟩ := (HL.out.kept HKW2.out (fun _ _ h => h)).at (by omega)
              obtain ⟨hra, hrc⟩ : ra = some ⟨gb, off, none⟩ ∧ rc = cap2 := by simpa using ev
              subst hra
              subst hrc
              have hcell := hcs q hlt2
              have hel := HL.out.elem hlt2
              clear hcs ev hb2
              generalize hrq : l.getD q 0 = r at *
              clear hrq
              by_cases hbad : r < 1 ∨ (j : Int) - 1 < r
              · rcases hbad with hb | hb
                · have hdr : decide (r < 1) = true := by simp; omega
                  clear hb hel
                  go_wp2_with fail
                  go_roundw
                  case rel => exact ⟨q + 1, Pf, m2, cur2, by omega, by first | rfl | go_num, HG2.out, HC2.out, HSP2.out, HBT2.out, HKW2.out⟩
                  case measure => simp [intOf]; omega
                · have hdr : decide (r < 1) = false := by simp; omega
                  have hdr2 : decide ((j : Int) - 1 < r) = true := by simp; omega
                  clear hb hel
                  go_wp2_with fail
                  go_roundw
                  case rel => exact ⟨q + 1, Pf, m2, cur2, by omega, by first | rfl | go_num, HG2.out, HC2.out, HSP2.out, HBT2.out, HKW2.out⟩
                  case measure => simp [intOf]; omega
              · obtain ⟨R, rfl⟩ : ∃ R : Nat, r = (R : Int) := ⟨r.toNat, by omega⟩
                have hR1 : 1 ≤ R := by omega
                have hRj : R < j := by omega
                have hdr : decide ((R : Int) < 1) = false := by simp; omega
                have hdr2 : decide ((j : Int) - 1 < (R : Int)) = false := by simp; omega
                have hwR : IntKind.u32.wrap (R : Int) = (R : Int) := by rw [IntKind.wrap_u32]; omega
                have hrel2 := release_ok b s u' v' hm m2 R wr HBT2.out (by omega)
                obtain ⟨q1, q2⟩ := HSP2.out.release hR1 hRj
                rw [q1] at hrel2
                have HREL := Lib.hid hrel2
                have HQ2 := Lib.hid q2
                have hcR := HC2.out R hRj
                have hszc : R < cur2.size := (Array.getElem?_eq_some_iff.1 hcR).1
                rw [show decide (1 ≤ R) = true from by simp [hR1], Bool.true_and] at hcR
                clear hrel2 q1 q2 hbad hel
                cases hPR : Pf R
                all_goals
                  rw [hPR] at hcR
                  have HPR := Lib.hid hPR
                  clear hPR
                  go_wp2_with (go_at_call 22; refine HREL.out.mono ?_; rw [HPR.out]; rintro e w8 ⟨rfl, k8, hb8⟩; have K8 := Lib.hid k8; have HB8 := Lib.hid hb8; have hgne : ¬ BtF b v' hm g := (fun e => by
                    rcases e with e | e | e
                    · exact cells_ne HG2.out HBT2.out.head (by decide) e
                    · obtain ⟨cs, hc⟩ := row_cells HBT2.out.held.set.row e
                      exact cells_ne HG2.out hc (by decide) rfl
                    · obtain ⟨D, hD⟩ := HBT2.out.has
                      obtain ⟨es, clock, hmb, -⟩ := hD.own
                      exact map_ne HG2.out hmb e); have hg8 := k8.heap HG2.out hgne; have HG8 := Lib.hid hg8; have gc := (cell_of_row w8 g R _ _ _ hg8).trans hcR; have gf := frozen_of_row w8 g R _ _ hg8; clear k8 hb8 hg8)
                  go_roundw
                  case rel =>
                    have kz : Kept (fun y => y = g) w8 (w8.setCell ⟨g, R, none⟩ (.bool true)) := (Kept.refl _ _).setCell _ _ (fun _ => rfl)
                    have hz := heap_setCell_same w8 g R _ _ (.bool true) HG8.out
                    refine ⟨q + 1, _, _, _, by omega, by first | rfl | go_num, hz, fun y hy => ?_, HQ2.out, HB8.out.kept kz (fun e => hgne (.inl e.symm)) (fun e => cells_ne HG8.out HB8.out.held.set.head (by decide) e.symm) (fun y hy e => hgne (.inr (.inl (e ▸ hy)))) (fun e => hgne (.inr (.inr e.symm))), (HKW.out wr w8 HKW2.out K8.out).next kz (fun y hy e => absurd HGB.out (by omega))⟩
                    by_cases e : y = R
                    · subst e
                      rw [Array.getElem?_setIfInBounds_self_of_lt hszc]
                      simp [hR1]
                    · rw [Array.getElem?_setIfInBounds_ne (fun h => e h.symm), HC2.out y hy]
                      simp [e]
                  case measure => simp [intOf]; omega
            · obtain rfl : q = l.length := by omega
              have HPfl : Hid (SpIn m2 j Pf) := HSP2
              go_wp2_with fail
              go_loopw [21] (fun i wr => ∃ (z : Nat) (Pg : Nat → Bool) (m : BtM), 1 ≤ z ∧ z ≤ j ∧ i = .int .i64 (z : Int) ∧ wr.heap[g]? = some (.cells cur2 4 (0, 0)) ∧ SpIn m j Pg ∧ (∀ y, 1 ≤ y → y < z → Pg y = true) ∧ (∀ y, z ≤ y → Pg y = Pf y) ∧ BtAt wr b s u' v' hm m ∧ Kept No w wr) (fun i _ => j - (intOf i).toNat)
              case atStart => exact ⟨1, Pf, m2, by omega, by omega, rfl, HG2.out, HSP2.out, fun y _ _ => by omega, fun _ _ => rfl, HBT2.out, HKW2.out⟩
              case round =>
                obtain ⟨z, Pg, m3, hz1, hzj, rfl, hg3, hsp3, hlo, hhi, hbt3, hkw3⟩ := hrel
                have HG3 := Lib.hid hg3
                have HSP3 := Lib.hid hsp3
                have HLO := Lib.hid hlo
                have HHI := Lib.hid hhi
                have HBT3 := Lib.hid hbt3
                have HKW3 := Lib.hid hkw3
                clear hg3 hsp3 hlo hhi hbt3 hkw3
                by_cases hlt3 : z < j
                · have hdz : decide ((z : Int) ≤ (j : Int) - 1) = true := by simp; omega
                  have hcz := HC2.out z hlt3
                  rw [show decide (1 ≤ z) = true from by simp [hz1], Bool.true_and] at hcz
                  have gc := (cell_of_row wr g z _ _ _ HG3.out).trans hcz
                  clear hcz
                  cases hPz : Pf z
                  · rw [hPz] at gc
                    obtain ⟨a1, a2, -, -⟩ := HSP3.out.alloc hz1 hlt3 (by rw [HHI.out z (Nat.le_refl _)]; exact hPz) (fun y p q => HLO.out y p q) (4, [113]) (by simp)
                    have hcal := alloc_ok b s u' v' hm m3 4 [113] wr HBT3.out (by simp)
                    rw [a1] at hcal
                    have HCAL := Lib.hid hcal
                    have HA2 := Lib.hid a2
                    have hwz : IntKind.u32.wrap (z : Int) = (z : Int) := by rw [IntKind.wrap_u32]; omega
                    clear hcal a1 a2 hPz
                    go_wp2_with (go_at_call 11; refine HCAL.out.mono ?_; rintro e w8 ⟨rfl, k8, hb8⟩; have K8 := Lib.hid k8; have HB8 := Lib.hid hb8; clear k8 hb8)
                    go_roundw
                    case rel =>
                      have hgne : ¬ BtF b v' hm g := (fun e => by
                        rcases e with e | e | e
                        · exact cells_ne HG3.out HBT3.out.head (by decide) e
                        · obtain ⟨cs, hc⟩ := row_cells HBT3.out.held.set.row e
                          exact cells_ne HG3.out hc (by decide) rfl
                        · obtain ⟨D, hD⟩ := HBT3.out.has
                          obtain ⟨es, clock, hmb, -⟩ := hD.own
                          exact map_ne HG3.out hmb e)
                      refine ⟨z + 1, _, _, by omega, by omega, by first | rfl | go_num, K8.out.heap HG3.out hgne, HA2.out, fun y p q => ?_, fun y p => ?_, HB8.out, HKW.out wr w8 HKW3.out K8.out⟩
                      · by_cases e : y = z
                        · simp [e]
                        · rw [HLO.out y p (by omega)]; rfl
                      · rw [HHI.out y (by omega)]
                        simp [show ¬ y = z by omega]
                    case measure => simp [intOf]; omega
                  · rw [hPz] at gc
                    have HPz := Lib.hid hPz
                    clear hPz
                    go_wp2_with fail
                    go_roundw
                    case rel =>
                      refine ⟨z + 1, Pg, m3, by omega, by omega, by first | rfl | go_num, HG3.out, HSP3.out, fun y p q => ?_, fun y p => HHI.out y (by omega), HBT3.out, HKW3.out⟩
                      by_cases e : y = z
                      · rw [e, HHI.out z (Nat.le_refl _)]; exact HPz.out
                      · exact HLO.out y p (by omega)
                    case measure => simp [intOf]; omega
                · obtain rfl : z = j := by omega
                  have hdz : decide ((z : Int) ≤ (z : Int) - 1) = false := by simp; omega
                  have hfull := HSP3.out.full (by omega) (fun y p q => HLO.out y p q) (3, [112]) (by simp)
                  have hcal := alloc_ok b s u' v' hm m3 3 [112] wr HBT3.out (by simp)
                  rw [hfull] at hcal
                  have HCAL := Lib.hid hcal
                  clear hcal hfull
                  go_wp2_with (go_at_call 11; refine HCAL.out.mono ?_; rintro e w8 ⟨rfl, k8, hb8⟩; have K8 := Lib.hid k8; clear k8 hb8)
                  go_ret
                  exact ⟨rfl, HKW.out wr w8 HKW3.out K8.out⟩

set_option maxHeartbeats 8000000 in
theorem space_hi (pages : Int) (rv : Value) (l : List Int) (w : World) (hl : IntsAt w rv l) (h5 : 100 < pages) :
    Calls Tryz.prog 4 #[.int .i64 pages, rv] w fun e w' => e = .returned (.bool true) ∧ Kept No w w' := by
  obtain ⟨ra, rc, rfl⟩ := hl.len
  have HL := Lib.hid hl
  have hpn := ptr_not
  have hd1 : decide (pages < 5) = false := by simp; omega
  have hd2 : decide (100 < pages) = true := by simp; omega
  obtain ⟨P, hP⟩ : ∃ P : Nat, P = 12 := ⟨_, rfl⟩
  have hF : FreshIn P 2 := ⟨by omega, by omega, by omega⟩
  obtain ⟨N, hN⟩ : ∃ N, N = P - 2 := ⟨_, rfl⟩
  have hN3 : 3 ≤ N := by omega
  have hN98 : N ≤ 98 := by omega
  have HNE := Lib.hid hN
  clear hN
  clear hl
  go_enter Tryz.func4, Tryz.ntmps4
  go_wp2_with (go_at_call 25; refine (wakes_ok w).mono ?_; rintro e w1 ⟨rfl, k1⟩; have K1 := Lib.hid k1; clear k1)
  rw [show (12 : Int) = (P : Int) from by omega]
  have h5 : 5 ≤ P := by omega
  have h100 : P ≤ 100 := by omega
  clear hP

  refine (dnew_ok P w1 (by omega) (by omega)).mono ?_
  rintro e w2 ⟨x, rfl, k2, hx2, hf2⟩
  have hx2 : DiskAt w2 x (wk0 P) := hx2
  have hsz1 := K1.out.size
  have K2 : Hid (Kept No w w2) := Lib.hid (K1.out.trans k2)
  have F2 : Hid (∀ g, x.foot g → w.heap.size ≤ g) := Lib.hid (fun g hg => Nat.le_trans hsz1 (hf2 g hg))
  have HX2 := Lib.hid hx2
  clear k2 hx2 hf2 hsz1 K1
  have hopen := open_new P 2 hF x w2 HX2.out
  generalize hst : ws1 P 2 = st at *
  have hnow : st.now = HeldM.fresh N := by rw [← hst]; unfold ws1; rw [show P - 2 = N from HNE.out.symm]
  have hdead : st.dead = false := by rw [← hst]; rfl
  have HNOW := Lib.hid hnow
  have HDEAD := Lib.hid hdead
  have HOPEN := Lib.hid hopen
  clear hst hopen hnow hdead
  go_wp2_with fail
  refine HOPEN.out.mono ?_
  rintro e w3 ⟨x3, s, u, v, rfl, k3, hx3, hd3, hf3, hs3, hsn, hun, hvn⟩
  have K3 : Hid (Kept No w w3) := Lib.hid (K2.out.next k3 (fun k hk e => absurd (F2.out k e) (by omega)))
  have hz2 := K2.out.size
  have HSN : Hid (w.heap.size ≤ s) := Lib.hid (by omega)
  have HS3 := Lib.hid hs3
  clear k3 hx3 hd3 hf3 hs3 hsn hun hvn hz2 K2 HOPEN HX2
  go_wp2_with fail
  refine (begin_none s x.d u v st w3 HS3.out).mono ?_
  rw [HNOW.out, HDEAD.out]
  rintro e w4 ⟨b, u', v', hm, rfl, k4, hs4, hb4, hbn, hun, hvn, hhn⟩
  have hslt := lt_of_heap HS3.out.head
  have hult := lt_of_heap HS3.out.held.set.head
  have hvlt : ∀ g, v.ownBlock = some g → g < w3.heap.size := fun g hg => by
    obtain ⟨cs, hc⟩ := row_cells HS3.out.held.set.row hg
    exact lt_of_heap hc
  have hz3 := K3.out.size
  have K4 : Hid (Kept No w w4) := Lib.hid (K3.out.next k4 (fun k hk e => absurd HSN.out (by omega)))
  have HBF : Hid (∀ g, BtF b v' hm g → w3.heap.size ≤ g) := Lib.hid (fun g hg => by
    rcases hg with e | e | e
    · omega
    · exact hvn g e
    · omega)
  have HB4 := Lib.hid hb4
  have HS4 := Lib.hid hs4
  have HKS : Hid (∀ wr, Kept (BtF b v' hm) w4 wr → StAt wr s x.d u v (.pointer (some ⟨b, 0, none⟩)) st) := Lib.hid (fun wr k => hs4.kept k (fun e => by have := HBF.out s e; omega) (fun e => by have := HBF.out u e; omega) (fun g hg e => by have := HBF.out g e; have := hvlt g hg; omega))
  have HKW : Hid (∀ wr wr', Kept No w wr → Kept (BtF b v' hm) wr wr' → Kept No w wr') := Lib.hid (fun wr wr' k k' => k.next k' (fun j hj e => by have := HBF.out j e; omega))
  have hone : SpOne ⟨HeldM.fresh N, [], false, false⟩ N 1 := ⟨⟨rfl, rfl, HeldM.fresh_ok N (by omega) (by omega), rfl, fun j a b => by
    show mem (List.replicate ((N + 63) / 64) 0) j = _
    rw [mem_zero]; simp; omega⟩, List.Pairwise.nil, by simp, rfl⟩
  have HONE := Lib.hid hone
  have hpg := pages_ok s x.d u v (.pointer (some ⟨b, 0, none⟩)) st w4 hs4
  have hfr : ∀ wr, Kept (BtF b v' hm) w4 wr → Calls Tryz.prog 15 #[.pointer (some ⟨s, 0, none⟩)] wr fun e w' => e = .returned (.int .i64 ((N : Int) - 1)) ∧ Kept No wr w' := fun wr k => by
    have h := free_ok s x.d u v (.pointer (some ⟨b, 0, none⟩)) st wr (HKS.out wr k)
    rw [HNOW.out] at h
    have hc : cnt (HeldM.fresh N).ws = 0 := cnt_zero _
    rw [hc] at h
    simpa [HeldM.fresh] using h
  rw [HNOW.out] at hpg
  have hpg : Calls Tryz.prog 14 #[.pointer (some ⟨s, 0, none⟩)] w4 fun e w' => e = .returned (.int .i64 (N : Int)) ∧ w4 = w' := hpg
  have HPG := Lib.hid hpg
  have HFR := Lib.hid hfr
  have hwn : IntKind.i64.wrap ((N : Int) - 1) = (N : Int) - 1 := by rw [IntKind.wrap_i64]; omega
  clear k4 hs4 hb4 hbn hun hvn hhn hslt hult hvlt hz3 hone hpg hfr K3 HS3
  go_wp2_with (go_at_call 14; refine HPG.out.mono ?_; rintro e w' ⟨rfl, rfl⟩)
  go_loopw [11] (fun i wr => ∃ (k : Nat) (m : BtM), 1 ≤ k ∧ k ≤ N ∧ i = .int .i64 (k : Int) ∧ SpOne m N k ∧ (2 ≤ k → m.changed = true) ∧ BtAt wr b s u' v' hm m ∧ Kept (BtF b v' hm) w4 wr) (fun i _ => N - (intOf i).toNat)
  case atStart => exact ⟨1, _, by omega, by omega, rfl, HONE.out, by omega, HB4.out, Kept.refl _ _⟩
  case round =>
    obtain ⟨k, m, hk1, hkN, rfl, hsp, hch, hbt, hkw⟩ := hrel
    have HSP := Lib.hid hsp
    have HCH := Lib.hid hch
    have HBT := Lib.hid hbt
    have HKR := Lib.hid hkw
    clear hsp hch hbt hkw
    by_cases hlt : k < N
    · have hd : decide ((k : Int) ≤ (N : Int) - 1) = true := by simp; omega
      have hcal := alloc_ok b s u' v' hm m 3 [112] wr HBT.out (by simp)
      have hst := HSP.out.step hk1 hlt (3, [112]) (by simp)
      obtain ⟨a1, a2, a3⟩ := hst
      rw [a1] at hcal
      have HCAL := Lib.hid hcal
      have HA2 := Lib.hid a2
      have HA3 := Lib.hid a3
      have hwk : IntKind.u32.wrap (k : Int) = (k : Int) := by rw [IntKind.wrap_u32]; omega
      clear hcal a1 a2 a3
      go_wp2_with (go_at_call 11; refine HCAL.out.mono ?_; rintro e w5 ⟨rfl, k5, hb5⟩; have K5 := Lib.hid k5; have HB5 := Lib.hid hb5; clear k5 hb5)
      go_roundw
      case rel => exact ⟨k + 1, _, by omega, by omega, by first | rfl | go_num, HA2.out, fun _ => HA3.out, HB5.out, HKR.out.trans K5.out⟩
      case measure => simp [intOf]; omega
    · obtain rfl : k = N := by omega
      have hd : decide ((k : Int) ≤ (k : Int) - 1) = false := by simp; omega
      have hfull := HSP.out.sp.full (by omega) (fun j a b => by simp [b]) (3, [112]) (by simp)
      have hcal := alloc_ok b s u' v' hm m 3 [112] wr HBT.out (by simp)
      rw [hfull] at hcal
      have hsize : m.size = k := by
        unfold BtM.size
        rw [if_neg (by simp [HSP.out.sp.ended, HCH.out (by omega)])]
        have := HSP.out.len
        omega
      have HCAL := Lib.hid hcal
      have HSZ := Lib.hid hsize
      have HKR4 := HKW.out w4 wr K4.out HKR.out
      have hwk : IntKind.i64.wrap ((k : Int) - 1 + 1) = (k : Int) := by rw [IntKind.wrap_i64]; omega
      have hwk2 : (k : Int) - 1 + 1 = (k : Int) := by omega
      have HSPI := Lib.hid HSP.out.sp
      clear hcal hfull hsize HKR4
      go_wp2_with (first
        | (go_at_call 11; refine HCAL.out.mono ?_; rintro e w5 ⟨rfl, k5, hb5⟩; have K5 := Lib.hid k5; have HB5 := Lib.hid hb5; clear k5 hb5)
        | (go_at_call 20; refine (size_ok b s u' v' hm m w5 HB5.out).mono ?_; rintro e w' ⟨rfl, rfl⟩; rw [HSZ.out])
        | (go_at_call 15; refine (HFR.out w5 (HKR.out.trans K5.out)).mono ?_; rintro e w6 ⟨rfl, k6⟩; have K6 := Lib.hid k6; clear k6))
      have KT6 : Hid (Kept No w w6) := Lib.hid ((HKW.out w4 w5 K4.out (HKR.out.trans K5.out)).trans K6.out)
      have HB6 := Lib.hid (HB5.out.no K6.out)
      obtain ⟨i0, hi, hz0, hz1, hz2⟩ := info_parts infoBool
      clear K4 K5 K6 HB5 HKR HBT HSP HCH HCAL HSZ
      go_wp2_with fail
      go_loopw [16, 17] (fun o i wr => ∃ j : Nat, j ≤ k ∧ i = .int .i64 (j : Int) ∧ wr.ownsRow w.heap.size 4 1 o j (List.replicate j (.bool false)) ∧ BtAt wr b s u' v' hm m ∧ Kept No w wr) (fun _ i _ => k - (intOf i).toNat)
      case atStart => exact ⟨0, by omega, rfl, World.ownsRow_nil _ _ _ _, HB6.out, KT6.out⟩
      case round =>
        obtain ⟨j, hjk, rfl, hrow, hbt, hkw⟩ := hrel
        have HROW := Lib.hid hrow
        have HBT := Lib.hid hbt
        have HKR := Lib.hid hkw
        obtain ⟨oa, oc, rfl⟩ := row_slice hrow
        have hszw := hkw.size
        clear hrow hbt hkw
        by_cases hlt : j < k
        · have hdj : decide ((j : Int) ≤ (k : Int) - 1) = true := by simp; omega
          have hrn : (wr.alloc (.cells #[.bool false] 4)).ownsRow w.heap.size 4 1 (.slice oa j oc) j (List.replicate j (.bool false)) := ((Kept.refl No wr).alloc _).row HROW.out (fun _ _ h => h)
          have HRN := Lib.hid hrn
          clear hrn
          go_wp2_with (at_builtin; go_loud (refine wpList_append_own_at _ (by rfl) (.tmp 103) (.tmp 104) 48 (by rfl) w.heap.size 4 i0 _ 1 1 Tryz.underlying48 hi hz0 hz1 hz2 (by rfl) (by decide) _ j (List.replicate j (.bool false)) (by rfl) HRN.out ⟨wr.heap.size, 0, none⟩ 1 1 [.bool false] (by rfl) (by rfl) (cell_one_new _ _ _) (by simp [Value.oneCell']) (by unfold maxLen; omega) (by omega) (by simp; omega) ?_; intro v2 w7 hown' hgrow _ hloc; have HO := Lib.hid hown'; have HG := Lib.hid hgrow; clear hown' hgrow hloc))
          have hkg : Kept (fun q => (Value.slice oa j oc).ownBlock = some q) wr w7 := ((Kept.refl _ wr).alloc _).trans (Kept.of_grown HG.out)
          have hty : ∀ (q : Nat) cs t, wr.heap[q]? = some (.cells cs t (0, 0)) → t ≠ 4 → ¬ (Value.slice oa j oc).ownBlock = some q := fun q cs t hq hne e => by
            obtain ⟨cs', hc'⟩ := row_cells HROW.out e
            exact cells_ne hq hc' hne rfl
          have hmp : ¬ (Value.slice oa j oc).ownBlock = some hm := fun e => by
            obtain ⟨cs', hc'⟩ := row_cells HROW.out e
            obtain ⟨D, hD⟩ := HBT.out.has
            obtain ⟨es, clock, hmb, -⟩ := hD.own
            exact map_ne hc' hmb rfl
          have hb7 := HBT.out.kept hkg (hty _ _ _ HBT.out.head (by decide)) (hty _ _ _ HBT.out.held.set.head (by decide)) (fun q hq => by
            obtain ⟨cs, hc⟩ := row_cells HBT.out.held.set.row hq
            exact hty _ _ _ hc (by decide)) hmp
          have hk7 : Kept No w w7 := HKR.out.next hkg (fun q hq e => by
            rcases HROW.out.2 with ⟨h, _⟩ | ⟨g2, _, _, h, hb, _⟩
            · rw [h] at e; cases e
            · rw [h] at e
              have : q = g2 := by simpa [Value.ownBlock] using e.symm
              omega)
          refine ⟨⟨j + 1, by omega, by first | rfl | go_num, ?_, hb7, hk7⟩, by simp [intOf]; omega⟩
          rw [List.replicate_succ']
          exact HO.out
        · obtain rfl : j = k := by omega
          have hdj : decide ((j : Int) ≤ (j : Int) - 1) = false := by simp; omega
          obtain ⟨g, cap, cur, hv, hgb, hgc, hgs, -, hgz, hgt⟩ : ∃ g cap cur, Value.slice oa j oc = .slice (some ⟨g, 0, none⟩) j cap ∧ w.heap.size ≤ g ∧ wr.heap[g]? = some (.cells cur 4 (0, 0)) ∧ j ≤ cap ∧ cap ≤ maxLen ∧ cur.size = cap * 1 ∧ cur.toList.take (j * 1) = List.replicate j (.bool false) := by
            rcases HROW.out.2 with ⟨_, h2⟩ | h
            · omega
            · exact h
          injection hv with hv1 hv2 hv3
          subst hv1
          subst hv3
          have hc0 : ∀ q, q < j → cur[q]? = some (.bool (decide (1 ≤ q) && !decide (q < j))) := fun q hq => by
            have h1 : (cur.toList.take (j * 1))[q]? = (List.replicate j (Value.bool false))[q]? := by rw [hgt]
            rw [List.getElem?_take_of_lt (by omega), List.getElem?_replicate, if_pos hq, Array.getElem?_toList] at h1
            rw [h1]; simp [hq]
          have HG0 := Lib.hid hgc
          have HC0 := Lib.hid hc0
          have HGB := Lib.hid hgb
          clear hgc hgs hgz hgt hc0 hv2 HROW hgb
          go_wp2_with fail
          go_loopw [18] (fun i wr => ∃ (q : Nat) (Pf : Nat → Bool) (m : BtM) (cur : Array Value), q ≤ l.length ∧ i = .int .i64 (q : Int) ∧ wr.heap[g]? = some (.cells cur 4 (0, 0)) ∧ (∀ y, y < j → cur[y]? = some (.bool (decide (1 ≤ y) && !Pf y))) ∧ SpIn m j Pf ∧ BtAt wr b s u' v' hm m ∧ Kept No w wr) (fun i _ => l.length - (intOf i).toNat)
          case atStart => exact ⟨0, _, m, cur, by omega, rfl, HG0.out, HC0.out, HSPI.out, HBT.out, HKR.out⟩
          case round =>
            obtain ⟨q, Pf, m2, cur2, hql, rfl, hg2, hc2, hsp2, hbt2, hkw2⟩ := hrel
            have HG2 := Lib.hid hg2
            have HC2 := Lib.hid hc2
            have HSP2 := Lib.hid hsp2
            have HBT2 := Lib.hid hbt2
            have HKW2 := Lib.hid hkw2
            clear hg2 hc2 hsp2 hbt2 hkw2
            have hln := HL.out.2.1
            by_cases hlt2 : q < l.length
            · obtain ⟨gb, off, cap2, ev, hb2, hcs⟩ := (HL.out.kept HKW2.out (fun _ _ h => h)).at (by omega)
              obtain ⟨hra, hrc⟩ : ra = some ⟨gb, off, none⟩ ∧ rc = cap2 := by simpa using ev
              subst hra
              subst hrc
              have hcell := hcs q hlt2
              have hel := HL.out.elem hlt2
              clear hcs ev hb2
              generalize hrq : l.getD q 0 = r at *
              clear hrq
              by_cases hbad : r < 1 ∨ (j : Int) - 1 < r
              · rcases hbad with hb | hb
                · have hdr : decide (r < 1) = true := by simp; omega
                  clear hb hel
                  go_wp2_with fail
                  go_roundw
                  case rel => exact ⟨q + 1, Pf, m2, cur2, by omega, by first | rfl | go_num, HG2.out, HC2.out, HSP2.out, HBT2.out, HKW2.out⟩
                  case measure => simp [intOf]; omega
                · have hdr : decide (r < 1) = false := by simp; omega
                  have hdr2 : decide ((j : Int) - 1 < r) = true := by simp; omega
                  clear hb hel
                  go_wp2_with fail
                  go_roundw
                  case rel => exact ⟨q + 1, Pf, m2, cur2, by omega, by first | rfl | go_num, HG2.out, HC2.out, HSP2.out, HBT2.out, HKW2.out⟩
                  case measure => simp [intOf]; omega
              · obtain ⟨R, rfl⟩ : ∃ R : Nat, r = (R : Int) := ⟨r.toNat, by omega⟩
                have hR1 : 1 ≤ R := by omega
                have hRj : R < j := by omega
                have hdr : decide ((R : Int) < 1) = false := by simp; omega
                have hdr2 : decide ((j : Int) - 1 < (R : Int)) = false := by simp; omega
                have hwR : IntKind.u32.wrap (R : Int) = (R : Int) := by rw [IntKind.wrap_u32]; omega
                have hrel2 := release_ok b s u' v' hm m2 R wr HBT2.out (by omega)
                obtain ⟨q1, q2⟩ := HSP2.out.release hR1 hRj
                rw [q1] at hrel2
                have HREL := Lib.hid hrel2
                have HQ2 := Lib.hid q2
                have hcR := HC2.out R hRj
                have hszc : R < cur2.size := (Array.getElem?_eq_some_iff.1 hcR).1
                rw [show decide (1 ≤ R) = true from by simp [hR1], Bool.true_and] at hcR
                clear hrel2 q1 q2 hbad hel
                cases hPR : Pf R
                all_goals
                  rw [hPR] at hcR
                  have HPR := Lib.hid hPR
                  clear hPR
                  go_wp2_with (go_at_call 22; refine HREL.out.mono ?_; rw [HPR.out]; rintro e w8 ⟨rfl, k8, hb8⟩; have K8 := Lib.hid k8; have HB8 := Lib.hid hb8; have hgne : ¬ BtF b v' hm g := (fun e => by
                    rcases e with e | e | e
                    · exact cells_ne HG2.out HBT2.out.head (by decide) e
                    · obtain ⟨cs, hc⟩ := row_cells HBT2.out.held.set.row e
                      exact cells_ne HG2.out hc (by decide) rfl
                    · obtain ⟨D, hD⟩ := HBT2.out.has
                      obtain ⟨es, clock, hmb, -⟩ := hD.own
                      exact map_ne HG2.out hmb e); have hg8 := k8.heap HG2.out hgne; have HG8 := Lib.hid hg8; have gc := (cell_of_row w8 g R _ _ _ hg8).trans hcR; have gf := frozen_of_row w8 g R _ _ hg8; clear k8 hb8 hg8)
                  go_roundw
                  case rel =>
                    have kz : Kept (fun y => y = g) w8 (w8.setCell ⟨g, R, none⟩ (.bool true)) := (Kept.refl _ _).setCell _ _ (fun _ => rfl)
                    have hz := heap_setCell_same w8 g R _ _ (.bool true) HG8.out
                    refine ⟨q + 1, _, _, _, by omega, by first | rfl | go_num, hz, fun y hy => ?_, HQ2.out, HB8.out.kept kz (fun e => hgne (.inl e.symm)) (fun e => cells_ne HG8.out HB8.out.held.set.head (by decide) e.symm) (fun y hy e => hgne (.inr (.inl (e ▸ hy)))) (fun e => hgne (.inr (.inr e.symm))), (HKW.out wr w8 HKW2.out K8.out).next kz (fun y hy e => absurd HGB.out (by omega))⟩
                    by_cases e : y = R
                    · subst e
                      rw [Array.getElem?_setIfInBounds_self_of_lt hszc]
                      simp [hR1]
                    · rw [Array.getElem?_setIfInBounds_ne (fun h => e h.symm), HC2.out y hy]
                      simp [e]
                  case measure => simp [intOf]; omega
            · obtain rfl : q = l.length := by omega
              have HPfl : Hid (SpIn m2 j Pf) := HSP2
              go_wp2_with fail
              go_loopw [21] (fun i wr => ∃ (z : Nat) (Pg : Nat → Bool) (m : BtM), 1 ≤ z ∧ z ≤ j ∧ i = .int .i64 (z : Int) ∧ wr.heap[g]? = some (.cells cur2 4 (0, 0)) ∧ SpIn m j Pg ∧ (∀ y, 1 ≤ y → y < z → Pg y = true) ∧ (∀ y, z ≤ y → Pg y = Pf y) ∧ BtAt wr b s u' v' hm m ∧ Kept No w wr) (fun i _ => j - (intOf i).toNat)
              case atStart => exact ⟨1, Pf, m2, by omega, by omega, rfl, HG2.out, HSP2.out, fun y _ _ => by omega, fun _ _ => rfl, HBT2.out, HKW2.out⟩
              case round =>
                obtain ⟨z, Pg, m3, hz1, hzj, rfl, hg3, hsp3, hlo, hhi, hbt3, hkw3⟩ := hrel
                have HG3 := Lib.hid hg3
                have HSP3 := Lib.hid hsp3
                have HLO := Lib.hid hlo
                have HHI := Lib.hid hhi
                have HBT3 := Lib.hid hbt3
                have HKW3 := Lib.hid hkw3
                clear hg3 hsp3 hlo hhi hbt3 hkw3
                by_cases hlt3 : z < j
                · have hdz : decide ((z : Int) ≤ (j : Int) - 1) = true := by simp; omega
                  have hcz := HC2.out z hlt3
                  rw [show decide (1 ≤ z) = true from by simp [hz1], Bool.true_and] at hcz
                  have gc := (cell_of_row wr g z _ _ _ HG3.out).trans hcz
                  clear hcz
                  cases hPz : Pf z
                  · rw [hPz] at gc
                    obtain ⟨a1, a2, -, -⟩ := HSP3.out.alloc hz1 hlt3 (by rw [HHI.out z (Nat.le_refl _)]; exact hPz) (fun y p q => HLO.out y p q) (4, [113]) (by simp)
                    have hcal := alloc_ok b s u' v' hm m3 4 [113] wr HBT3.out (by simp)
                    rw [a1] at hcal
                    have HCAL := Lib.hid hcal
                    have HA2 := Lib.hid a2
                    have hwz : IntKind.u32.wrap (z : Int) = (z : Int) := by rw [IntKind.wrap_u32]; omega
                    clear hcal a1 a2 hPz
                    go_wp2_with (go_at_call 11; refine HCAL.out.mono ?_; rintro e w8 ⟨rfl, k8, hb8⟩; have K8 := Lib.hid k8; have HB8 := Lib.hid hb8; clear k8 hb8)
                    go_roundw
                    case rel =>
                      have hgne : ¬ BtF b v' hm g := (fun e => by
                        rcases e with e | e | e
                        · exact cells_ne HG3.out HBT3.out.head (by decide) e
                        · obtain ⟨cs, hc⟩ := row_cells HBT3.out.held.set.row e
                          exact cells_ne HG3.out hc (by decide) rfl
                        · obtain ⟨D, hD⟩ := HBT3.out.has
                          obtain ⟨es, clock, hmb, -⟩ := hD.own
                          exact map_ne HG3.out hmb e)
                      refine ⟨z + 1, _, _, by omega, by omega, by first | rfl | go_num, K8.out.heap HG3.out hgne, HA2.out, fun y p q => ?_, fun y p => ?_, HB8.out, HKW.out wr w8 HKW3.out K8.out⟩
                      · by_cases e : y = z
                        · simp [e]
                        · rw [HLO.out y p (by omega)]; rfl
                      · rw [HHI.out y (by omega)]
                        simp [show ¬ y = z by omega]
                    case measure => simp [intOf]; omega
                  · rw [hPz] at gc
                    have HPz := Lib.hid hPz
                    clear hPz
                    go_wp2_with fail
                    go_roundw
                    case rel =>
                      refine ⟨z + 1, Pg, m3, by omega, by omega, by first | rfl | go_num, HG3.out, HSP3.out, fun y p q => ?_, fun y p => HHI.out y (by omega), HBT3.out, HKW3.out⟩
                      by_cases e : y = z
                      · rw [e, HHI.out z (Nat.le_refl _)]; exact HPz.out
                      · exact HLO.out y p (by omega)
                    case measure => simp [intOf]; omega
                · obtain rfl : z = j := by omega
                  have hdz : decide ((z : Int) ≤ (z : Int) - 1) = false := by simp; omega
                  have hfull := HSP3.out.full (by omega) (fun y p q => HLO.out y p q) (3, [112]) (by simp)
                  have hcal := alloc_ok b s u' v' hm m3 3 [112] wr HBT3.out (by simp)
                  rw [hfull] at hcal
                  have HCAL := Lib.hid hcal
                  clear hcal hfull
                  go_wp2_with (go_at_call 11; refine HCAL.out.mono ?_; rintro e w8 ⟨rfl, k8, hb8⟩; have K8 := Lib.hid k8; clear k8 hb8)
                  go_ret
                  exact ⟨rfl, HKW.out wr w8 HKW3.out K8.out⟩

theorem space_walk (pages : Int) (rv : Value) (l : List Int) (w : World) (h1 : -9223372036854775808 ≤ pages) (h2 : pages ≤ 9223372036854775807) (hl : IntsAt w rv l) :
    Calls Tryz.prog 4 #[.int .i64 pages, rv] w fun e w' => e = .returned (.bool true) ∧ Below w.heap.size w w' := by
  have key : Calls Tryz.prog 4 #[.int .i64 pages, rv] w fun e w' => e = .returned (.bool true) ∧ Kept No w w' := by
    by_cases h5 : pages < 5
    · exact space_lo pages rv l w hl h5
    · by_cases h6 : 100 < pages
      · exact space_hi pages rv l w hl h6
      · exact space_in pages rv l w hl pages.toNat (by omega) (by omega) (by omega)
  exact key.mono fun e w' h => ⟨h.1, h.2.below (Nat.le_refl _) (fun _ _ h => h)⟩
end Go.Proofs.YtabhieafjkaocaaGreat
