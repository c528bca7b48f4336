/- Merged by wip/tools/merge.py out of: UnB, UnC. -/
import Derived.Test.YtabhieafjkaocaaGreatMubq
import Derived.Deep.RegionHeld3
/- StoreUnseen: the walk. (Printed by wip/tools/un.py.) -/
namespace Go.Proofs.YtabhieafjkaocaaGreat
open Go.RowKit Go.Lib Go.Maps Bm
set_option linter.unusedVariables false
set_option linter.unusedSimpArgs false
set_option maxRecDepth 100000

set_option maxHeartbeats 8000000 in
theorem unseen_walk (d0 d1 : DiskM) (st1 : StM)
    (hnew : ∀ w, Calls Tryz.prog 26 #[.int .i64 16] w fun e w' => ∃ x : DiskH, e = .returned (.tuple #[.pointer (some ⟨x.d, 0, none⟩), .int .i64 0]) ∧ Kept No w w' ∧ DiskAt w' x d0 ∧ ∀ g, x.foot g → w.heap.size ≤ g)
    (hopen : ∀ (x : DiskH) (w : World), DiskAt w x d0 → Calls Tryz.prog 12 #[dev x.d, .int .i64 6] w fun e w' => ∃ (x' : DiskH) (s u : Nat) (v : Value), e = .returned (.tuple #[.pointer (some ⟨s, 0, none⟩), .int .i64 0]) ∧ Kept x.foot w w' ∧ DiskAt w' x' d1 ∧ x'.d = x.d ∧ (∀ g, x'.foot g → x.foot g ∨ w.heap.size ≤ g) ∧
      StAt w' s x.d u v (.pointer none) st1 ∧ w.heap.size ≤ s ∧ w.heap.size ≤ u ∧ ∀ g, v.ownBlock = some g → w.heap.size ≤ g)
    (hcalm : CalmD d1 16) (hcnt : st1.count = 6) (hnum : st1.now.n = 10) (hlk : Looks st1 d1) (hnx : st1.next = 2)
    (sv mv : Value) (l k : List StepM) (drops : Bool) (w : World) (hl : StepsAt w sv l) (hk : StepsAt w mv k) :
    Calls Tryz.prog 6 #[sv, mv, .bool drops] w fun e w' => e = .returned (.bool true) ∧ Kept No w w' := by
  obtain ⟨sa, sc, rfl⟩ := hl.len
  obtain ⟨ma, mc, rfl⟩ := hk.len
  have hll := hl.1
  have hml := hk.1
  have HL := Lib.hid hl
  have HM := Lib.hid hk
  have HLL := Lib.hid hll
  have HML := Lib.hid hml
  have hpn := ptr_not
  have HCALM := Lib.hid hcalm
  have HCNT := Lib.hid hcnt
  have HNUM := Lib.hid hnum
  have HLK := Lib.hid hlk
  have HNX := Lib.hid hnx
  have HOPEN := Lib.hid hopen
  have HNEW := Lib.hid hnew
  generalize hNl : l.length = nl at *
  generalize hNm : k.length = nm at *
  have HNL := Lib.hid hNl
  have HNM := Lib.hid hNm
  clear hl hk hcalm hcnt hnum hlk hnx hopen hnew hNl hNm
  go_enter Tryz.func6, Tryz.ntmps6
  go_wp2_with (go_at_call 25; refine (wakes_ok w).mono ?_; rintro e w1 ⟨rfl, k1⟩; have K1 := Lib.hid k1; clear k1)
  refine (HNEW.out w1).mono ?_
  rintro e w2 ⟨x, rfl, k2, hx2, hf2⟩
  have hsz1 := K1.out.size
  have K2 : Hid (Kept No w w2) := Lib.hid (K1.out.trans k2)
  have F2 : Hid (∀ g, x.foot g → w.heap.size ≤ g) := Lib.hid (fun g hg => Nat.le_trans hsz1 (hf2 g hg))
  have HX2 := Lib.hid hx2
  clear k2 hx2 hf2 hsz1 K1
  go_wp2_with fail
  refine (HOPEN.out x w2 HX2.out).mono ?_
  rintro e w3 ⟨x3, s, u, v, rfl, k3, hx3, hd3, hf3, hs3, hsn, hun, hvn⟩
  have K3 : Hid (Kept No w w3) := Lib.hid (K2.out.next k3 (fun k hk e => absurd (F2.out k e) (by omega)))
  have hz2 := K2.out.size
  have hd3' : x.d = x3.d := hd3.symm
  have HLS : Hid (w.heap.size ≤ s ∧ w.heap.size ≤ u ∧ (∀ g, v.ownBlock = some g → w.heap.size ≤ g) ∧ ∀ g, x3.foot g → w.heap.size ≤ g) := Lib.hid ⟨by omega, by omega, fun g hg => Nat.le_trans hz2 (hvn g hg), fun g hg => (hf3 g hg).elim (F2.out g) (fun h => by omega)⟩
  clear hf3 hsn hun hvn hz2 hd3
  clear HX2 F2 K2 k3 HOPEN HNEW
  generalize x.d = xd at *
  subst hd3'
  have HX3 := Lib.hid hx3
  have HS3 := Lib.hid hs3
  clear hx3 hs3
  go_wp2_with fail
  have hLf : (w3.alloc (.cells #[.pointer (some ⟨x3.d, 0, none⟩), .int .i64 6, .pointer (some ⟨s, 0, none⟩), .pointer none, .slice none 0 0, .slice none 0 0, .int .u32 0, .int .u32 0, .int .u32 0, .int .u32 0, .int .u32 0, .int .u32 0, .int .u32 0, .int .u32 0, .slice none 0 0, .slice none 0 0, .int .u32 0, .int .u32 0, .int .u32 0, .int .u32 0, .int .u32 0, .int .u32 0, .int .u32 0, .int .u32 0, .int .u64 0, .bool false, .bool true] 57)).heap[w3.heap.size]? = some (.cells (lifeC x3.d 6 (.pointer (some ⟨s, 0, none⟩)) (.pointer none) (.slice none 0 0) (.slice none 0 0) Root8.zero (.slice none 0 0) (.slice none 0 0) Root8.zero 0 false true) 57 (0, 0)) := heap_alloc_new w3 _
  have k4 : Kept No w3 (w3.alloc (.cells #[.pointer (some ⟨x3.d, 0, none⟩), .int .i64 6, .pointer (some ⟨s, 0, none⟩), .pointer none, .slice none 0 0, .slice none 0 0, .int .u32 0, .int .u32 0, .int .u32 0, .int .u32 0, .int .u32 0, .int .u32 0, .int .u32 0, .int .u32 0, .slice none 0 0, .slice none 0 0, .int .u32 0, .int .u32 0, .int .u32 0, .int .u32 0, .int .u32 0, .int .u32 0, .int .u32 0, .int .u32 0, .int .u64 0, .bool false, .bool true] 57)) := (Kept.refl _ _).alloc _
  generalize (w3.alloc (.cells #[.pointer (some ⟨x3.d, 0, none⟩), .int .i64 6, .pointer (some ⟨s, 0, none⟩), .pointer none, .slice none 0 0, .slice none 0 0, .int .u32 0, .int .u32 0, .int .u32 0, .int .u32 0, .int .u32 0, .int .u32 0, .int .u32 0, .int .u32 0, .slice none 0 0, .slice none 0 0, .int .u32 0, .int .u32 0, .int .u32 0, .int .u32 0, .int .u32 0, .int .u32 0, .int .u32 0, .int .u32 0, .int .u64 0, .bool false, .bool true] 57)) = w4 at *
  have hbL : w.heap.size ≤ w3.heap.size := K3.out.size
  generalize w3.heap.size = L at *
  have HBL := Lib.hid hbL
  have HS4 := Lib.hid (HS3.out.no k4)
  have HX4 := Lib.hid (HX3.out.kept k4 (fun _ _ h => h))
  have K4 := Lib.hid (K3.out.trans k4)
  have HL4 := Lib.hid hLf
  clear hLf k4 hbL HS3 HX3 K3
  refine (look_ok s u v (.pointer none) x3 st1 d1 w4 HS4.out HX4.out (by rw [HCNT.out, HNUM.out, HCALM.out.len]; exact Nat.le_refl _) HLK.out).mono ?_
  rintro e w5 ⟨kv1, bv1, rfl, k5, hsn5⟩
  obtain ⟨ka, kc, rfl⟩ := row_slice hsn5.kind
  obtain ⟨ta, tc, rfl⟩ := row_slice hsn5.body
  have hl10 : (seenM st1 d1).kind.length = 10 ∧ (seenM st1 d1).body.length = 10 := by simp [seenM, HNUM.out]
  have HL5 := Lib.hid (k5.heap HL4.out (fun h => h))
  have HS5 := Lib.hid (HS4.out.no k5)
  have HX5 := Lib.hid (HX4.out.kept k5 (fun _ _ h => h))
  have K5 := Lib.hid (K4.out.trans k5)
  have HSN5 : Hid (SeenAt w5 w.heap.size _ _ (seenM st1 d1)) := Lib.hid ⟨ownsRow_low hsn5.kind K4.out.size, ownsRow_low hsn5.body K4.out.size⟩
  rw [hl10.1, hl10.2] at HSN5 ⊢
  clear hsn5 k5 HL4 HS4 HX4 K4 hl10
  have hn5 : ∀ o, (w5.alloc o).heap[L]? = _ := fun o => ((Kept.refl No w5).alloc o).heap HL5.out (fun h => h)
  have HN5 := Lib.hid hn5
  clear hn5
  generalize hq1 : st1.now.root = q1 at *
  have HQ1 := Lib.hid hq1
  clear hq1
  go_wp2_with (first
    | (refine wpList_store_new (by rfl) 55 (.tmp 12) (.tmp 52) (by rfl) w5 55 #[.slice none 0 0, .slice none 0 0, .int .u32 0, .int .u32 0, .int .u32 0, .int .u32 0, .int .u32 0, .int .u32 0, .int .u32 0, .int .u32 0] (seenC (.slice ka 10 kc) (.slice ta 10 tc) q1) (by rfl) (by rfl) (by rfl) (by exact seen_size) (by simp [seenC]) (by simp [seenC, Value.oneCell']) ?_)
    | (refine wpList_load_row (by rfl) 55 (.tmp 12) (by rfl) w5.heap.size (by rfl) 55 (seenC (.slice ka 10 kc) (.slice ta 10 tc) q1) (0, 0) _ (by exact heap_alloc_new w5 _) Tryz.underlying55 (by rfl) (by exact seen_size) ?_)
    | (refine wpList_store_part (by rfl) 55 (.tmp 57) (.tmp 55) (by rfl) L 14 57 (lifeC x3.d 6 (.pointer (some ⟨s, 0, none⟩)) (.pointer none) (.slice none 0 0) (.slice none 0 0) Root8.zero (.slice none 0 0) (.slice none 0 0) Root8.zero 0 false true) (seenC (.slice ka 10 kc) (.slice ta 10 tc) q1) (by rfl) (by rfl) (HN5.out _) (by exact seen_size) (by simp [seenC]) (by simp [seenC, Value.oneCell']) ?_))
  rw [over_is2]
  have hL6 := setRow_heap (w5.alloc (.cells (seenC (.slice ka 10 kc) (.slice ta 10 tc) q1) 55)) L _ (lifeC x3.d 6 (.pointer (some ⟨s, 0, none⟩)) (.pointer none) (.slice none 0 0) (.slice none 0 0) Root8.zero (.slice ka 10 kc) (.slice ta 10 tc) q1 0 false true) _ _ (HN5.out _)
  have k6 : Kept (fun y => y = L) w5 ((w5.alloc (.cells (seenC (.slice ka 10 kc) (.slice ta 10 tc) q1) 55)).setRow L (lifeC x3.d 6 (.pointer (some ⟨s, 0, none⟩)) (.pointer none) (.slice none 0 0) (.slice none 0 0) Root8.zero (.slice ka 10 kc) (.slice ta 10 tc) q1 0 false true)) := (((Kept.refl No w5).alloc _).of_no _).setRow _ _ (fun _ => rfl)
  generalize (w5.alloc (.cells (seenC (.slice ka 10 kc) (.slice ta 10 tc) q1) 55)).setRow L (lifeC x3.d 6 (.pointer (some ⟨s, 0, none⟩)) (.pointer none) (.slice none 0 0) (.slice none 0 0) Root8.zero (.slice ka 10 kc) (.slice ta 10 tc) q1 0 false true) = w6 at *
  have HS6 : Hid (StAt w6 s x3.d u v (.pointer none) st1) := Lib.hid (HS5.out.kept k6 (cells_ne HS5.out.head HL5.out (by decide)) (cells_ne HS5.out.held.set.head HL5.out (by decide)) (fun g hg e => by subst e; obtain ⟨c, hc⟩ := row_cells HS5.out.held.set.row hg; exact cells_ne HL5.out hc (by decide) rfl))
  have HX6 : Hid (DiskAt w6 x3 d1) := Lib.hid (HX5.out.kept k6 (fun g hg e => by subst e; exact HX5.out.not_foot HL5.out (by decide) (by decide) (by decide) hg))
  have HSN6 : Hid (SeenAt w6 w.heap.size (.slice ka 10 kc) (.slice ta 10 tc) (seenM st1 d1)) := Lib.hid (HSN5.out.kept k6 (fun g hg e => by subst e; obtain ⟨c, hc⟩ := row_cells HSN5.out.kind hg; exact cells_ne HL5.out hc (by decide) rfl) (fun g hg e => by subst e; obtain ⟨c, hc⟩ := row_cells HSN5.out.body hg; exact cells_ne HL5.out hc (by decide) rfl))
  have K6 : Hid (Kept No w w6) := Lib.hid (K5.out.next k6 (fun g hg e => absurd HBL.out (by omega)))
  have l24 : w6.cell? ⟨L, 24, none⟩ = some (.int .u64 ((0 : Nat) : Int)) := (cell_of_row w6 L 24 _ _ _ hL6).trans rfl
  have f24 := frozen_of_row w6 L 24 _ _ hL6
  have HL6 := Lib.hid hL6
  clear hL6 k6 HN5 HL5 HS5 HX5 HSN5 K5
  refine (serial_ok s x3.d u v (.pointer none) st1 w6 HS6.out).mono ?_
  rintro e w' ⟨rfl, rfl⟩
  go_wp2_with fail
  have hL7 : (w6.setCell ⟨L, 24, none⟩ (.int .u64 (st1.serial : Int))).heap[L]? = some (.cells (lifeC x3.d 6 (.pointer (some ⟨s, 0, none⟩)) (.pointer none) (.slice none 0 0) (.slice none 0 0) Root8.zero (.slice ka 10 kc) (.slice ta 10 tc) q1 st1.serial false true) 57 (0, 0)) := heap_setCell_same w6 L 24 _ _ (.int .u64 (st1.serial : Int)) HL6.out
  have k7 : Kept (fun y => y = L) w6 (w6.setCell ⟨L, 24, none⟩ (.int .u64 (st1.serial : Int))) := (Kept.refl _ _).setCell _ _ (fun _ => rfl)
  generalize w6.setCell ⟨L, 24, none⟩ (.int .u64 (st1.serial : Int)) = w7 at *
  have hlife : LifeAt w.heap.size x3.d w7 L 0 := by
    refine ⟨x3, d1, s, u, v, .pointer none, .pointer none, .slice none 0 0, .slice none 0 0, .slice ka 10 kc, .slice ta 10 tc, Root8.zero, st1, 0, by rw [HQ1.out]; exact hL7, HBL.out, ⟨?_, HCALM.out, ?_, HCNT.out, HNUM.out, HLK.out, HLS.out.2.2.2, HLS.out.1, HLS.out.2.1, HLS.out.2.2.1⟩, ?_, .inl ⟨rfl, .inl rfl, fun b e => (by cases e)⟩, by have := HNX.out; omega⟩
    · exact HX6.out.kept k7 (fun g hg e => by subst e; exact HX6.out.not_foot HL6.out (by decide) (by decide) (by decide) hg)
    · exact HS6.out.kept k7 (cells_ne HS6.out.head HL6.out (by decide)) (cells_ne HS6.out.held.set.head HL6.out (by decide)) (fun g hg e => by subst e; obtain ⟨c, hc⟩ := row_cells HS6.out.held.set.row hg; exact cells_ne HL6.out hc (by decide) rfl)
    · exact HSN6.out.kept k7 (fun g hg e => by subst e; obtain ⟨c, hc⟩ := row_cells HSN6.out.kind hg; exact cells_ne HL6.out hc (by decide) rfl) (fun g hg e => by subst e; obtain ⟨c, hc⟩ := row_cells HSN6.out.body hg; exact cells_ne HL6.out hc (by decide) rfl)
  have K7 : Hid (Kept No w w7) := Lib.hid (K6.out.next k7 (fun g hg e => absurd HBL.out (by omega)))
  have HLIFE := Lib.hid hlife
  clear hlife hL7 k7 HL6 HS6 HX6 HSN6 K6 l24 f24
  have hbeg : Calls Tryz.prog 27 #[.pointer (some ⟨L, 0, none⟩), .agg #[.int .i64 1, .int .i64 0, .int .i64 0, .bool false, .int .u8 0, .string ⟨#[]⟩, .slice none 0 0, .int .i64 0, .int .i64 0]] w7 fun e w' => e = .returned (.tuple #[]) ∧ Kept (fun g => w.heap.size ≤ g) w7 w' ∧ LifeAt w.heap.size x3.d w' L (0 + 1) :=
    life1 HLIFE.out K7.out.size 0 0 false 0 [] (.slice none 0 0) 0 0
  refine hbeg.mono ?_
  rintro e w8 ⟨rfl, k8, hlife8⟩
  have K8 : Hid (Kept No w w8) := Lib.hid (K7.out.next k8 (fun g hg e => absurd e (by omega)))
  have HLIFE8 := Lib.hid hlife8
  clear hbeg k8 hlife8 HLIFE K7
  generalize x3.d = D at *
  go_wp2_with fail
  go_loopw [14] (fun i wr => ∃ (j kk : Nat), j ≤ nl ∧ i = .int .i64 (j : Int) ∧ LifeAt w.heap.size D wr L kk ∧ kk ≤ j + 1 ∧ Kept No w wr) (fun i _ => nl - (intOf i).toNat)
  case atStart => exact ⟨0, 1, by omega, rfl, HLIFE8.out, by omega, K8.out⟩
  case round =>
    obtain ⟨j, kk, hj, rfl, hlife, hkk, hkw⟩ := hrel
    have HLF := Lib.hid hlife
    have HKK := Lib.hid hkk
    have HKW := Lib.hid hkw
    clear hkk hkw HLIFE8 K8
    obtain ⟨x, dm, s2, us, vs, bp, bv, wk, wb, ik, ib, r, st, ph, h1, h2, h3, h4, h5, h6⟩ := hlife
    have HA1 := Lib.hid h1
    have HA2 := Lib.hid h2
    have HA3 := Lib.hid h3
    have HA4 := Lib.hid h4
    have HA5 : Hid (OldB wr bp ∧ ∀ b, bp = .pointer (some ⟨b, 0, none⟩) → w.heap.size ≤ b) := Lib.hid (by
      rcases h5 with ⟨rfl, a2, a3⟩ | ⟨b, u, v, hm, m, rfl, a2, rfl, a4, a5, a6⟩
      · exact ⟨a2, a3⟩
      · rw [a2]
        exact ⟨a4.bt.old, fun b' e => by injection e with e; injection e with e; injection e with e; subst e; exact a4.lb⟩)
    have HA6 := Lib.hid h6.2
    clear h2 h3 h4 h5 h6
    have l26 : wr.cell? ⟨L, 26, none⟩ = some (.bool true) := (cell_of_row wr L 26 _ _ _ h1).trans rfl
    have l2 : wr.cell? ⟨L, 2, none⟩ = some (.pointer (some ⟨s2, 0, none⟩)) := (cell_of_row wr L 2 _ _ _ h1).trans rfl
    clear h1
    have hnl := HNL.out
    by_cases hlt : j < nl
    · obtain ⟨gb, off, cap2, ev, hb2, hcs⟩ := (HL.out.kept HKW.out (fun _ _ h => h)).at (by omega)
      obtain ⟨hra, hrc⟩ : sa = some ⟨gb, off, none⟩ ∧ sc = cap2 := by
        injection ev with e1 e2 e3
        exact ⟨e1, e3⟩
      subst hra
      subst hrc
      obtain ⟨y, kv, hst, hcl⟩ : ∃ (y : StepM) (kv : Value), StepIn wr y kv ∧ ∀ q c, (stepC y kv)[q]? = some c → wr.cell? ⟨gb, off + j * 9 + q, none⟩ = some c := by
        obtain ⟨kv, q1, q2⟩ := hcs j (by rw [HNL.out]; exact hlt)
        exact ⟨_, kv, q1, q2⟩
      clear hcs ev hb2 hnl
      obtain ⟨kd, si, sn, so, sp, sx, kp, st0, sc⟩ := y
      obtain ⟨c0, c1, c2, c3, c4, c5, c6, c7, c8⟩ := step_cells hcl
      have HST := Lib.hid hst
      clear hcl hst
      by_cases e9 : kd = 9
      · subst e9
        go_wp2_with fail
        go_roundw
        case rel => exact ⟨j + 1, kk, by omega, by first | rfl | go_num, HLF.out, by have := HKK.out; omega, HKW.out⟩
        case measure => simp [intOf]; omega
      by_cases e10 : kd = 10
      · subst e10
        go_wp2_with fail
        go_roundw
        case rel => exact ⟨j + 1, kk, by omega, by first | rfl | go_num, HLF.out, by have := HKK.out; omega, HKW.out⟩
        case measure => simp [intOf]; omega
      by_cases e0 : kd = 0
      · subst e0
        go_wp2_with fail
        go_roundw
        case rel => exact ⟨j + 1, kk, by omega, by first | rfl | go_num, HLF.out, by have := HKK.out; omega, HKW.out⟩
        case measure => simp [intOf]; omega
      have t9 : (kd != 9) = true := by simpa using e9
      have t10 : (kd != 10) = true := by simpa using e10
      have t0 : (kd != 0) = true := by simpa using e0
      have u9 : (kd == 9) = false := by simpa using e9
      have u10 : (kd == 10) = false := by simpa using e10
      have u0 : (kd == 0) = false := by simpa using e0
      have hcall : Calls Tryz.prog 27 #[.pointer (some ⟨L, 0, none⟩), .agg #[.int .i64 kd, .int .i64 si, .int .i64 sn, .bool so, .int .u8 (sp.toNat : Int), .string ⟨⟨sx⟩⟩, kv, .int .i64 st0, .int .i64 sc]] wr fun e w' => e = .returned (.tuple #[]) ∧ Kept (fun g => w.heap.size ≤ g) wr w' ∧ LifeAt w.heap.size D w' L (kk + 1) :=
        life_step HLF.out HKW.out.size (by have := HKK.out; omega) ⟨kd, si, sn, so, sp, sx, kp, st0, sc⟩ kv HST.out e0 e9 e10
      have HCALL := Lib.hid hcall
      clear hcall e0 e9 e10
      go_wp2_with (go_at_call 27; refine HCALL.out.mono ?_; rintro e w9 ⟨rfl, k9, hlf9⟩; have K9 := Lib.hid k9; have HLF9 := Lib.hid hlf9; clear k9 hlf9)
      go_roundw
      case rel => exact ⟨j + 1, kk + 1, by omega, by first | rfl | go_num, HLF9.out, by have := HKK.out; omega, HKW.out.next K9.out (fun g hg e => absurd e (by omega))⟩
      case measure => simp [intOf]; omega
    · obtain rfl : j = nl := by omega
      go_wp2_with fail
      obtain rfl : x.d = D := HA6.out
      clear HLF HA6 hll HLL HL HNL HKK hnl
      have hfit : st.count + st.now.n ≤ dm.lies.length := by rw [HA3.out.cnt, HA3.out.num, HA3.out.calm.len]; exact Nat.le_refl _
      have hl10 : (seenM st dm).kind.length = 10 ∧ (seenM st dm).body.length = 10 := by simp [seenM, HA3.out.num]
      have HFIT := Lib.hid hfit
      have HL10 := Lib.hid hl10
      clear hfit hl10
      refine (look_ok s2 us vs bp x st dm wr HA3.out.store HA3.out.disk HFIT.out HA3.out.looks).mono ?_
      rintro e wa ⟨kv1, bv1, rfl, k9, hsn1⟩
      obtain ⟨pa, pc, rfl⟩ := row_slice hsn1.kind
      obtain ⟨qa, qc, rfl⟩ := row_slice hsn1.body
      rw [HL10.out.1, HL10.out.2] at hsn1 ⊢
      have hwasz := k9.size
      have hsz0 := HKW.out.size
      have HW1 : Hid (SeenAt wa w.heap.size (.slice pa 10 pc) (.slice qa 10 qc) (seenM st dm)) := Lib.hid ⟨ownsRow_low hsn1.kind hsz0, ownsRow_low hsn1.body hsz0⟩
      have k10 := k9.alloc (.cells (seenC (.slice pa 10 pc) (.slice qa 10 qc) st.now.root) 55)
      have hWas := heap_alloc_new wa (.cells (seenC (.slice pa 10 pc) (.slice qa 10 qc) st.now.root) 55)
      have HB1 := Lib.hid (k10.heap HA1.out (fun h => h))
      have HB3 := Lib.hid (HA3.out.no k10)
      have HB4 := Lib.hid (HA4.out.no k10)
      have HB5 : Hid (OldB (wa.alloc (.cells (seenC (.slice pa 10 pc) (.slice qa 10 qc) st.now.root) 55)) bp ∧ _) := Lib.hid ⟨HA5.out.1.kept k10 (fun _ _ h => h), HA5.out.2⟩
      have HBW := Lib.hid hWas
      have HW2 := Lib.hid (HW1.out.no ((Kept.refl No wa).alloc (.cells (seenC (.slice pa 10 pc) (.slice qa 10 qc) st.now.root) 55)))
      have KB : Hid (Kept No w (wa.alloc (.cells (seenC (.slice pa 10 pc) (.slice qa 10 qc) st.now.root) 55))) := Lib.hid (HKW.out.trans k10)
      clear hWas k10 k9 hsn1 HW1 HA1 HA3 HA4 HA5 hwasz hsz0
      go_wp2_with (refine wpList_store_new (by rfl) 55 (.tmp 15) (.tmp 128) (by rfl) wa 55 #[.slice none 0 0, .slice none 0 0, .int .u32 0, .int .u32 0, .int .u32 0, .int .u32 0, .int .u32 0, .int .u32 0, .int .u32 0, .int .u32 0] (seenC (.slice pa 10 pc) (.slice qa 10 qc) st.now.root) (by rfl) (by rfl) (by rfl) (by exact seen_size) (by simp [seenC]) (by simp [seenC, Value.oneCell']) ?_)
      generalize (wa.alloc (.cells (seenC (.slice pa 10 pc) (.slice qa 10 qc) st.now.root) 55)) = wb0 at *
      generalize wa.heap.size = W at *
      refine (durable_ok x dm wb0 HB3.out.disk).mono ?_
      rintro e wc ⟨lv, rfl, k11, hlies⟩
      have HC1 := Lib.hid (k11.heap HB1.out (fun h => h))
      have HC3 := Lib.hid (HB3.out.no k11)
      have HC4 := Lib.hid (HB4.out.no k11)
      have HC5 : Hid (OldB wc bp ∧ _) := Lib.hid ⟨HB5.out.1.kept k11 (fun _ _ h => h), HB5.out.2⟩
      have HCW := Lib.hid (k11.heap HBW.out (fun h => h))
      have HC6 := Lib.hid (HW2.out.no k11)
      have HC7 : Hid (SeenAt wc w.heap.size (.slice pa 10 pc) lv ⟨(seenM st dm).kind, dm.lies, st.now.root⟩) := Lib.hid ⟨HC6.out.kind, ownsRow_low hlies KB.out.size⟩
      have KC := Lib.hid (KB.out.trans k11)
      clear k11 hlies HB1 HB3 HB4 HB5 HBW HW2 KB
      have hbp2 := bptr_not
      go_wp2_with fail
      have hbeg : Calls Tryz.prog 27 #[.pointer (some ⟨L, 0, none⟩), .agg #[.int .i64 1, .int .i64 0, .int .i64 0, .bool false, .int .u8 0, .string ⟨#[]⟩, .slice none 0 0, .int .i64 0, .int .i64 0]] wc fun e w' => ∃ b u' v' hm wk' wb', e = .returned (.tuple #[]) ∧ Kept (fun k => k = L ∨ k = s2 ∨ bp = .pointer (some ⟨k, 0, none⟩)) wc w' ∧
          w'.heap[L]? = some (.cells (lifeC x.d 6 (.pointer (some ⟨s2, 0, none⟩)) (.pointer (some ⟨b, 0, none⟩)) wk' wb' st.now.root ik ib st.now.root st.serial false true) 57 (0, 0)) ∧ StAt w' s2 x.d us vs (.pointer (some ⟨b, 0, none⟩)) st ∧ BtAt w' b s2 u' v' hm ⟨st.now, [], false, st.dead⟩ ∧
          wc.heap.size ≤ b ∧ wc.heap.size ≤ u' ∧ (∀ g, v'.ownBlock = some g → wc.heap.size ≤ g) ∧ wc.heap.size ≤ hm ∧ SeenAt w' wc.heap.size wk' wb' (seenM st dm) :=
        lbegin_ok L x.d 6 s2 us vs bp bv wk wb ik ib r st.serial false st (seenM st dm) w.heap.size 0 0 false 0 [] (.slice none 0 0) 0 0 wc HC1.out HC3.out.store HC5.out.1 HC4.out (by rw [HL10.out.1]; omega) (by rw [HL10.out.1, HL10.out.2]) (by rw [HL10.out.1]; omega)
      refine hbeg.mono ?_
      clear hbeg
      rintro e wd ⟨b, u', v', hm, wk', wb', rfl, kk2, hl, hs, hb, q1, q2, q3, q4, hw⟩
      have hold := HC5.out
      have h3 := HC3.out
      have h1 := HC1.out
      have hcz := KC.out.size
      have hbas : ∀ g, (g = L ∨ g = s2 ∨ bp = .pointer (some ⟨g, 0, none⟩)) → w.heap.size ≤ g := by
        rintro g (rfl | rfl | e)
        · exact HA2.out
        · exact h3.ls
        · exact hold.2 g e
      have hfar : ∀ {g : Nat} {cs : Array Value} {t : TypeId} {fr : Nat × Nat}, wc.heap[g]? = some (.cells cs t fr) → t ≠ 57 → t ≠ 90 → t ≠ 93 → ¬ (g = L ∨ g = s2 ∨ bp = .pointer (some ⟨g, 0, none⟩)) := by
        rintro g cs t fr hg n1 n2 n3 (rfl | rfl | e)
        · exact cells_ne hg h1 n1 rfl
        · exact cells_ne hg h3.store.head n2 rfl
        · exact hold.1.not_life hg n3 e
      have hx : DiskAt wd x dm := h3.disk.kept kk2 (fun g hg e => by
        rcases e with rfl | rfl | e
        · exact h3.disk.not_foot h1 (by decide) (by decide) (by decide) hg
        · exact h3.disk.not_foot h3.store.head (by decide) (by decide) (by decide) hg
        · rcases hold.1 with e0 | ⟨b0, z0, z1, z2, z3, z4, z5, z6, z7, z8, z9, z10, z11, z12, e0, hh⟩
          · rw [e0] at e; cases e
          · rw [e0] at e
            injection e with e; injection e with e; injection e with e
            subst e
            exact h3.disk.not_foot hh (by decide) (by decide) (by decide) hg)
      have hsk : ∀ {bs : Nat} {k0 b0 : Value} {o : SeenM}, SeenAt wc bs k0 b0 o → SeenAt wd bs k0 b0 o := fun h => h.kept kk2 (fun g hg => by obtain ⟨c, hc⟩ := row_cells h.kind hg; exact hfar hc (by decide) (by decide) (by decide)) (fun g hg => by obtain ⟨c, hc⟩ := row_cells h.body hg; exact hfar hc (by decide) (by decide) (by decide))
      have hap : ∀ {e : TypeId} {z n bs n2 z2 : Nat} {e2 : TypeId} {xs xs2 : List Value} {v1 v2 : Value}, wc.ownsRow bs e z v1 n xs → wd.ownsRow wc.heap.size e2 z2 v2 n2 xs2 → Apart v1 v2 := fun h1 h2 g hg e => by
        obtain ⟨c, hc⟩ := row_cells h1 hg
        have := lt_of_heap hc
        have := (h2.lt g e).1
        omega
      obtain ⟨wb1, wb2⟩ := will_begin h3.looks h3.store.held.ok
      have hlive : LiveIn w.heap.size wd x s2 us vs b u' v' hm ⟨st.now, [], false, st.dead⟩ (seenM st dm) wk' wb' ik ib := by
        refine ⟨hb, wb1, ?_, Nat.le_trans hcz q1, Nat.le_trans hcz q2, fun g hg => Nat.le_trans hcz (q3 g hg), Nat.le_trans hcz q4, fun hf => ?_, fun g hg e => ?_, hap HC4.out.kind hw.kind, hap HC4.out.body hw.body⟩
        · rw [wb2]; exact ⟨ownsRow_low hw.kind hcz, ownsRow_low hw.body hcz⟩
        · have := h3.disk.foot_lt hf; omega
        · have h7 := q3 g e
          obtain ⟨c, hc⟩ := row_cells h3.store.held.set.row hg
          have := lt_of_heap hc
          omega
      have HD1 := Lib.hid hl
      have HD3 : Hid (StoreIn w.heap.size wd x dm s2 us vs (.pointer (some ⟨b, 0, none⟩)) st) := Lib.hid { h3 with disk := hx, store := hs }
      have HD4 := Lib.hid (hsk HC4.out)
      have HD6 := Lib.hid (hsk HC6.out)
      have HD7 := Lib.hid (hsk HC7.out)
      have HDW := Lib.hid (kk2.heap HCW.out (hfar HCW.out (by decide) (by decide) (by decide)))
      have HAP : Hid (Apart (.slice pa 10 pc) wk' ∧ Apart (.slice qa 10 qc) wb' ∧ Apart lv wb') := Lib.hid ⟨hap HC6.out.kind hw.kind, hap HC6.out.body hw.body, hap HC7.out.body hw.body⟩
      have HLV := Lib.hid hlive
      have KD : Hid (Kept No w wd) := Lib.hid (KC.out.next kk2 (fun g hg e => absurd (hbas g e) (by omega)))
      have l3' : wd.cell? ⟨L, 3, none⟩ = some (.pointer (some ⟨b, 0, none⟩)) := (cell_of_row wd L 3 _ _ _ hl).trans rfl
      have l26' : wd.cell? ⟨L, 26, none⟩ = some (.bool true) := (cell_of_row wd L 26 _ _ _ hl).trans rfl
      clear l2 l26
      clear hl hs hb q1 q2 q3 q4 hw kk2 hold h3 h1 hcz hbas hfar hx hsk hap wb1 wb2 hlive HC1 HC3 HC4 HC5 HC6 HC7 HCW KC HA2
      go_wp2_with fail
      clear l3' l26'
      go_loopw [19] (fun i wr => ∃ (q : Nat) (m : BtM), q ≤ nm ∧ i = .int .i64 (q : Int) ∧ wr.heap[L]? = some (.cells (lifeC x.d 6 (.pointer (some ⟨s2, 0, none⟩)) (.pointer (some ⟨b, 0, none⟩)) wk' wb' m.held.root ik ib st.now.root st.serial false true) 57 (0, 0)) ∧ LiveIn w.heap.size wr x s2 us vs b u' v' hm m (seenM st dm) wk' wb' ik ib ∧ Kept (ChF L b v' hm wk' wb') wd wr) (fun i _ => nm - (intOf i).toNat)
      case atStart => exact ⟨0, ⟨st.now, [], false, st.dead⟩, by omega, rfl, HD1.out, HLV.out, Kept.refl _ _⟩
      case round =>
        obtain ⟨q, m, hq, rfl, hl, hlv, hkq⟩ := hrel
        have HR1 := Lib.hid hl
        have HRL := Lib.hid hlv
        have HRK := Lib.hid hkq
        have hbs : ∀ g, (ChF L b v' hm wk' wb') g → w.heap.size ≤ g := hlv.base HBL.out
        have HRW : Hid (Kept No w wr) := Lib.hid (KD.out.next hkq (fun g hg e => absurd (hbs g e) (by omega)))
        have l26 : wr.cell? ⟨L, 26, none⟩ = some (.bool true) := (cell_of_row wr L 26 _ _ _ hl).trans rfl
        have l2 : wr.cell? ⟨L, 2, none⟩ = some (.pointer (some ⟨s2, 0, none⟩)) := (cell_of_row wr L 2 _ _ _ hl).trans rfl
        clear hl hlv hkq hbs
        by_cases hlt : q < nm
        · obtain ⟨gb, off, cap2, ev, hb2, hcs⟩ := (HM.out.kept HRW.out (fun _ _ h => h)).at (by have := HNM.out; omega)
          obtain ⟨hra, hrc⟩ : ma = some ⟨gb, off, none⟩ ∧ mc = cap2 := by
            injection ev with e1 e2 e3
            exact ⟨e1, e3⟩
          subst hra
          subst hrc
          obtain ⟨y, kv, hst, hcl⟩ : ∃ (y : StepM) (kv : Value), StepIn wr y kv ∧ ∀ z c, (stepC y kv)[z]? = some c → wr.cell? ⟨gb, off + q * 9 + z, none⟩ = some c := by
            obtain ⟨kv, q1, q2⟩ := hcs q (by rw [HNM.out]; exact hlt)
            exact ⟨_, kv, q1, q2⟩
          clear hcs ev hb2
          obtain ⟨kd, si, sn, so, sp, sx, kp, st0, sc⟩ := y
          obtain ⟨c0, c1, c2, c3, c4, c5, c6, c7, c8⟩ := step_cells hcl
          have HST := Lib.hid hst
          clear hcl hst
          rcases Int.lt_or_le kd 2 with e2 | e2
          · have d2 : decide ((2 : Int) ≤ kd) = false := by simp; omega
            clear e2
            go_wp2_with fail
            go_roundw
            case rel => exact ⟨q + 1, m, by omega, by first | rfl | go_num, HR1.out, HRL.out, HRK.out⟩
            case measure => simp [intOf]; omega
          rcases Int.lt_or_le 5 kd with e5 | e5
          · have d2 : decide ((2 : Int) ≤ kd) = true := by simp; omega
            have d5 : decide (kd ≤ (5 : Int)) = false := by simp; omega
            clear e2 e5
            go_wp2_with fail
            go_roundw
            case rel => exact ⟨q + 1, m, by omega, by first | rfl | go_num, HR1.out, HRL.out, HRK.out⟩
            case measure => simp [intOf]; omega
          have d2 : decide ((2 : Int) ≤ kd) = true := by simp; omega
          have d5 : decide (kd ≤ (5 : Int)) = true := by simp; omega
          have hcall := lstep_any L x.d 6 (.pointer (some ⟨s2, 0, none⟩)) wk' wb' ik ib st.now.root st.serial false b s2 u' v' hm m (seenM st dm) w.heap.size kd si sn so sp sx kv st0 sc wr HR1.out HRL.out.bt HRL.out.grown HRL.out.will HST.out.i HST.out.text ⟨e2, e5⟩
          have HCALL := Lib.hid hcall
          clear hcall e2 e5
          go_wp2_with (go_at_call 27; refine HCALL.out.mono ?_; rintro e w9 ⟨m', rfl, k9, hl9, hb9, hg9, hs9, -⟩; have HX9 := Lib.hid (And.intro k9 (And.intro hl9 (And.intro hb9 (And.intro hg9 hs9)))); clear k9 hl9 hb9 hg9 hs9)
          go_roundw
          case rel => exact ⟨q + 1, m', by omega, by first | rfl | go_num, HX9.out.2.1, HRL.out.change HX9.out.2.2.1 HX9.out.2.2.2.1 HX9.out.2.2.2.2, HRK.out.trans HX9.out.1⟩
          case measure => simp [intOf]; omega
        · obtain rfl : q = nm := by omega
          go_wp2_with fail
          have hlv := HLV.out
          have hk := HRK.out
          have h3 := HD3.out.change hlv HD1.out hk
          have h6 := hlv.seen HD1.out HD6.out HAP.out.1 HAP.out.2.1 hk
          have h7 := hlv.seen HD1.out HD7.out HAP.out.1 HAP.out.2.2 hk
          have h4 := hlv.seen HD1.out HD4.out hlv.k hlv.t hk
          have hW := hk.heap HDW.out (hlv.far' HD1.out HDW.out (by decide) (by decide) (by decide) (by decide) (by decide))
          refine (look_ok s2 us vs (.pointer (some ⟨b, 0, none⟩)) x st dm wr h3.store h3.disk HFIT.out h3.looks).mono ?_
          rintro e wf ⟨kv2, bv2, rfl, k9, hsn2⟩
          obtain ⟨pb, pbc, rfl⟩ := row_slice hsn2.kind
          obtain ⟨qb, qbc, rfl⟩ := row_slice hsn2.body
          rw [HL10.out.1, HL10.out.2] at hsn2 ⊢
          have k10 := k9.alloc (.cells (seenC (.slice pb 10 pbc) (.slice qb 10 qbc) st.now.root) 55)
          have HG0 := Lib.hid (heap_alloc_new wf (.cells (seenC (.slice pb 10 pbc) (.slice qb 10 qbc) st.now.root) 55))
          have HGW := Lib.hid (k10.heap hW (fun h => h))
          have HG1 := Lib.hid (k10.heap HR1.out (fun h => h))
          have HGL := Lib.hid (HRL.out.no k10)
          have HG3 := Lib.hid (h3.no k10)
          have HG4 := Lib.hid (h4.no k10)
          have HG6 := Lib.hid (h6.no k10)
          have HG7 := Lib.hid (h7.no k10)
          have HGN := Lib.hid (hsn2.no ((Kept.refl No wf).alloc (.cells (seenC (.slice pb 10 pbc) (.slice qb 10 qbc) st.now.root) 55)))
          have KG : Hid (Kept No w (wf.alloc (.cells (seenC (.slice pb 10 pbc) (.slice qb 10 qbc) st.now.root) 55))) := Lib.hid (HRW.out.trans k10)
          clear hlv hk h3 h6 h7 h4 hW k9 k10 hsn2 HR1 HRL HRK HRW HD1 HD3 HD4 HD6 HD7 HDW HLV KD l26 l2 hml HML HM HNM
          go_wp2_with (refine wpList_store_new (by rfl) 55 (.tmp 20) (.tmp 190) (by rfl) wf 55 #[.slice none 0 0, .slice none 0 0, .int .u32 0, .int .u32 0, .int .u32 0, .int .u32 0, .int .u32 0, .int .u32 0, .int .u32 0, .int .u32 0] (seenC (.slice pb 10 pbc) (.slice qb 10 qbc) st.now.root) (by rfl) (by rfl) (by rfl) (by exact seen_size) (by simp [seenC]) (by simp [seenC, Value.oneCell']) ?_)
          generalize (wf.alloc (.cells (seenC (.slice pb 10 pbc) (.slice qb 10 qbc) st.now.root) 55)) = wg at *
          generalize wf.heap.size = V at *
          have HALK1 : Hid (∀ w', Kept No wg w' → Calls Tryz.prog 32 #[.agg #[.slice pb 10 pbc, .slice qb 10 qbc, .int .u32 (st.now.root.a : Int), .int .u32 (st.now.root.b : Int), .int .u32 (st.now.root.c : Int), .int .u32 (st.now.root.d : Int), .int .u32 (st.now.root.e : Int), .int .u32 (st.now.root.f : Int), .int .u32 (st.now.root.g : Int), .int .u32 (st.now.root.h : Int)], .agg #[.slice pa 10 pc, .slice qa 10 qc, .int .u32 (st.now.root.a : Int), .int .u32 (st.now.root.b : Int), .int .u32 (st.now.root.c : Int), .int .u32 (st.now.root.d : Int), .int .u32 (st.now.root.e : Int), .int .u32 (st.now.root.f : Int), .int .u32 (st.now.root.g : Int), .int .u32 (st.now.root.h : Int)]] w' fun e w'' => e = .returned (.bool true) ∧ Kept No w' w'') := Lib.hid (fun w' k => by
            have h := alike_ok _ _ _ _ _ _ (seenM st dm) (seenM st dm) w' (HGN.out.no k) (HG6.out.no k) (by rw [HL10.out.1, HL10.out.2]) (by rw [HL10.out.1, HL10.out.2]) (by rw [HL10.out.1]; omega) (by rw [HL10.out.1]; omega)
            rw [decide_eq_true rfl] at h
            exact h)
          have HALK2 : Hid (∀ w', Kept No wg w' → Calls Tryz.prog 32 #[.agg #[.slice pb 10 pbc, .slice qb 10 qbc, .int .u32 (st.now.root.a : Int), .int .u32 (st.now.root.b : Int), .int .u32 (st.now.root.c : Int), .int .u32 (st.now.root.d : Int), .int .u32 (st.now.root.e : Int), .int .u32 (st.now.root.f : Int), .int .u32 (st.now.root.g : Int), .int .u32 (st.now.root.h : Int)], .agg #[ik, ib, .int .u32 (st.now.root.a : Int), .int .u32 (st.now.root.b : Int), .int .u32 (st.now.root.c : Int), .int .u32 (st.now.root.d : Int), .int .u32 (st.now.root.e : Int), .int .u32 (st.now.root.f : Int), .int .u32 (st.now.root.g : Int), .int .u32 (st.now.root.h : Int)]] w' fun e w'' => e = .returned (.bool true) ∧ Kept No w' w'') := Lib.hid (fun w' k => by
            have h := alike_ok _ _ _ _ _ _ (seenM st dm) (seenM st dm) w' (HGN.out.no k) (HG4.out.no k) (by rw [HL10.out.1, HL10.out.2]) (by rw [HL10.out.1, HL10.out.2]) (by rw [HL10.out.1]; omega) (by rw [HL10.out.1]; omega)
            rw [decide_eq_true rfl] at h
            exact h)
          have HDUR : Hid (∀ w', Kept No wg w' → Calls Tryz.prog 31 #[.pointer (some ⟨x.d, 0, none⟩)] w' fun e w'' => ∃ v, e = .returned v ∧ Kept No w' w'' ∧ w''.ownsRow 0 9 1 v dm.lies.length (textC dm.lies)) := Lib.hid (fun w' k => (durable_ok x dm w' (HG3.out.no k).disk).mono (fun e w'' ⟨v, h1, h2, h3⟩ => ⟨v, h1, h2, ownsRow_low h3 (Nat.zero_le _)⟩))
          have HSAM : Hid (∀ w' v, Kept No wg w' → w'.ownsRow 0 9 1 v dm.lies.length (textC dm.lies) → Calls Tryz.prog 33 #[v, lv] w' fun e w'' => e = .returned (.bool true) ∧ Kept No w' w'') := Lib.hid (fun w' v k hr => by
            have hl := HG3.out.calm.len
            have h := sameTexts_ok _ _ v lv dm.lies dm.lies w' hr (HG7.out.no k).body (by omega) (by omega)
            rw [decide_eq_true rfl] at h
            exact h)
          have HPEN : Hid (∀ w', Kept No wg w' → Calls Tryz.prog 34 #[.pointer (some ⟨x.d, 0, none⟩)] w' fun e w'' => e = .returned (.int .i64 0) ∧ w' = w'') := Lib.hid (fun w' k => by
            have h := pending_ok x dm w' (HG3.out.no k).disk
            rw [HG3.out.calm.pend] at h
            exact h)
          have l26 : ∀ w', Kept No wg w' → w'.cell? ⟨L, 26, none⟩ = some (.bool true) := cell_kept (o := 26) HG1.out rfl
          have l14_0 : ∀ w', Kept No wg w' → w'.cell? ⟨L, 14, none⟩ = some (ik) := cell_kept (o := 14) HG1.out rfl
          have l14_1 : ∀ w', Kept No wg w' → w'.cell? ⟨L, 15, none⟩ = some (ib) := cell_kept (o := 15) HG1.out rfl
          have l14_2 : ∀ w', Kept No wg w' → w'.cell? ⟨L, 16, none⟩ = some (.int .u32 (st.now.root.a : Int)) := cell_kept (o := 16) HG1.out rfl
          have l14_3 : ∀ w', Kept No wg w' → w'.cell? ⟨L, 17, none⟩ = some (.int .u32 (st.now.root.b : Int)) := cell_kept (o := 17) HG1.out rfl
          have l14_4 : ∀ w', Kept No wg w' → w'.cell? ⟨L, 18, none⟩ = some (.int .u32 (st.now.root.c : Int)) := cell_kept (o := 18) HG1.out rfl
          have l14_5 : ∀ w', Kept No wg w' → w'.cell? ⟨L, 19, none⟩ = some (.int .u32 (st.now.root.d : Int)) := cell_kept (o := 19) HG1.out rfl
          have l14_6 : ∀ w', Kept No wg w' → w'.cell? ⟨L, 20, none⟩ = some (.int .u32 (st.now.root.e : Int)) := cell_kept (o := 20) HG1.out rfl
          have l14_7 : ∀ w', Kept No wg w' → w'.cell? ⟨L, 21, none⟩ = some (.int .u32 (st.now.root.f : Int)) := cell_kept (o := 21) HG1.out rfl
          have l14_8 : ∀ w', Kept No wg w' → w'.cell? ⟨L, 22, none⟩ = some (.int .u32 (st.now.root.g : Int)) := cell_kept (o := 22) HG1.out rfl
          have l14_9 : ∀ w', Kept No wg w' → w'.cell? ⟨L, 23, none⟩ = some (.int .u32 (st.now.root.h : Int)) := cell_kept (o := 23) HG1.out rfl
          have n0 : ∀ w', Kept No wg w' → w'.cell? ⟨V, 0, none⟩ = some (.slice pb 10 pbc) := cell_kept (o := 0) HG0.out rfl
          have n1 : ∀ w', Kept No wg w' → w'.cell? ⟨V, 1, none⟩ = some (.slice qb 10 qbc) := cell_kept (o := 1) HG0.out rfl
          have n2 : ∀ w', Kept No wg w' → w'.cell? ⟨V, 2, none⟩ = some (.int .u32 (st.now.root.a : Int)) := cell_kept (o := 2) HG0.out rfl
          have n3 : ∀ w', Kept No wg w' → w'.cell? ⟨V, 3, none⟩ = some (.int .u32 (st.now.root.b : Int)) := cell_kept (o := 3) HG0.out rfl
          have n4 : ∀ w', Kept No wg w' → w'.cell? ⟨V, 4, none⟩ = some (.int .u32 (st.now.root.c : Int)) := cell_kept (o := 4) HG0.out rfl
          have n5 : ∀ w', Kept No wg w' → w'.cell? ⟨V, 5, none⟩ = some (.int .u32 (st.now.root.d : Int)) := cell_kept (o := 5) HG0.out rfl
          have n6 : ∀ w', Kept No wg w' → w'.cell? ⟨V, 6, none⟩ = some (.int .u32 (st.now.root.e : Int)) := cell_kept (o := 6) HG0.out rfl
          have n7 : ∀ w', Kept No wg w' → w'.cell? ⟨V, 7, none⟩ = some (.int .u32 (st.now.root.f : Int)) := cell_kept (o := 7) HG0.out rfl
          have n8 : ∀ w', Kept No wg w' → w'.cell? ⟨V, 8, none⟩ = some (.int .u32 (st.now.root.g : Int)) := cell_kept (o := 8) HG0.out rfl
          have n9 : ∀ w', Kept No wg w' → w'.cell? ⟨V, 9, none⟩ = some (.int .u32 (st.now.root.h : Int)) := cell_kept (o := 9) HG0.out rfl
          have z0 : ∀ w', Kept No wg w' → w'.cell? ⟨W, 0, none⟩ = some (.slice pa 10 pc) := cell_kept (o := 0) HGW.out rfl
          have z1 : ∀ w', Kept No wg w' → w'.cell? ⟨W, 1, none⟩ = some (.slice qa 10 qc) := cell_kept (o := 1) HGW.out rfl
          have z2 : ∀ w', Kept No wg w' → w'.cell? ⟨W, 2, none⟩ = some (.int .u32 (st.now.root.a : Int)) := cell_kept (o := 2) HGW.out rfl
          have z3 : ∀ w', Kept No wg w' → w'.cell? ⟨W, 3, none⟩ = some (.int .u32 (st.now.root.b : Int)) := cell_kept (o := 3) HGW.out rfl
          have z4 : ∀ w', Kept No wg w' → w'.cell? ⟨W, 4, none⟩ = some (.int .u32 (st.now.root.c : Int)) := cell_kept (o := 4) HGW.out rfl
          have z5 : ∀ w', Kept No wg w' → w'.cell? ⟨W, 5, none⟩ = some (.int .u32 (st.now.root.d : Int)) := cell_kept (o := 5) HGW.out rfl
          have z6 : ∀ w', Kept No wg w' → w'.cell? ⟨W, 6, none⟩ = some (.int .u32 (st.now.root.e : Int)) := cell_kept (o := 6) HGW.out rfl
          have z7 : ∀ w', Kept No wg w' → w'.cell? ⟨W, 7, none⟩ = some (.int .u32 (st.now.root.f : Int)) := cell_kept (o := 7) HGW.out rfl
          have z8 : ∀ w', Kept No wg w' → w'.cell? ⟨W, 8, none⟩ = some (.int .u32 (st.now.root.g : Int)) := cell_kept (o := 8) HGW.out rfl
          have z9 : ∀ w', Kept No wg w' → w'.cell? ⟨W, 9, none⟩ = some (.int .u32 (st.now.root.h : Int)) := cell_kept (o := 9) HGW.out rfl
          have hK0 : Kept No wg wg := Kept.refl _ _
          go_region_held3 (fun w' => Kept No wg w') (first | assumption | exact Kept.drew (by assumption))
            (first
              | (go_at_call 32; (with_reducible refine (HALK1.out _ (by first | assumption | exact Kept.drew (by assumption))).mono ?_); rintro e w' ⟨rfl, kk⟩; have hK1 : Kept No wg w' := Kept.trans (by first | assumption | exact Kept.drew (by assumption)) kk)
              | (go_at_call 32; (with_reducible refine (HALK2.out _ (by first | assumption | exact Kept.drew (by assumption))).mono ?_); rintro e w' ⟨rfl, kk⟩; have hK2 : Kept No wg w' := Kept.trans (by first | assumption | exact Kept.drew (by assumption)) kk)
              | (go_at_call 31; (with_reducible refine (HDUR.out _ (by first | assumption | exact Kept.drew (by assumption))).mono ?_); rintro e w' ⟨dv, rfl, kk, hrow⟩; have HROW := Lib.hid hrow; have hK3 : Kept No wg w' := Kept.trans (by first | assumption | exact Kept.drew (by assumption)) kk; clear hrow)
              | (go_at_call 33; (with_reducible refine (HSAM.out _ _ (by first | assumption | exact Kept.drew (by assumption)) (by first | exact HROW.out | exact ((Kept.refl No _).drew).row HROW.out (fun _ _ h => h))).mono ?_); rintro e w' ⟨rfl, kk⟩; have hK4 : Kept No wg w' := Kept.trans (by first | assumption | exact Kept.drew (by assumption)) kk)
              | (go_at_call 34; (with_reducible refine (HPEN.out _ (by first | assumption | exact Kept.drew (by assumption))).mono ?_); rintro e w' ⟨rfl, rfl⟩))
          have hk : Kept No wg w' := by assumption
          clear l14_0 l14_1 l14_2 l14_3 l14_4 l14_5 l14_6 l14_7 l14_8 l14_9 n0 n1 n2 n3 n4 n5 n6 n7 n8 n9 z0 z1 z2 z3 z4 z5 z6 z7 z8 z9 l26 hK0 HALK1 HALK2 HDUR HSAM HPEN
          have hl := hk.heap HG1.out (fun h => h)
          have hlive := HGL.out.no hk
          have hs0 := HG3.out.no hk
          have h60 := HG6.out.no hk
          have h70 := HG7.out.no hk
          have hW0 := hk.heap HGW.out (fun h => h)
          have KW : Hid (Kept No w w') := Lib.hid (KG.out.trans hk)
          have HBT : Hid (∀ g, BtF b v' hm g → w.heap.size ≤ g) := Lib.hid (fun g e => HGL.out.base HBL.out g (.inr (.inl e)))
          have l2 : w'.cell? ⟨L, 2, none⟩ = some (.pointer (some ⟨s2, 0, none⟩)) := (cell_of_row w' L 2 _ _ _ hl).trans rfl
          have HV1 := Lib.hid hl
          have HV2 := Lib.hid hlive
          have HV3 := Lib.hid hs0
          have HV6 := Lib.hid h60
          have HV7 := Lib.hid h70
          have HVW := Lib.hid hW0
          clear hl hlive hs0 h60 h70 hW0 hk HG1 HG6 HG7 HGW HGN HG4 HG0
          cases drops
          · go_wp2_with fail
            have hhead := HV2.out.bt.head
            refine (begin_some s2 x.d us b vs st _ _ _ _ _ _ _ _ _ _ _ _ _ w' HV3.out.store hhead).mono ?_
            rintro e wh ⟨b2, u2, v2, hm2, rfl, kk, hst, -, -, -, -, -, hhead2⟩
            have hbt : BtAt wh b s2 u' v' hm { m with ended := true } := by
              refine ⟨hhead2, HV2.out.bt.held.kept kk (fun e => ?_) (fun g hg e => ?_), ?_⟩
              · rcases e with e | e
                · exact cells_ne HV2.out.bt.held.set.head HV3.out.store.head (by decide) e
                · exact cells_ne HV2.out.bt.held.set.head hhead (by decide) e
              · obtain ⟨c, hc⟩ := row_cells HV2.out.bt.held.set.row hg
                rcases e with rfl | rfl
                · exact cells_ne hc HV3.out.store.head (by decide) rfl
                · exact cells_ne hc hhead (by decide) rfl
              · obtain ⟨DD, hD⟩ := HV2.out.bt.has
                refine ⟨DD, hD.kept kk (fun e => ?_)⟩
                obtain ⟨es, clock, hb, _⟩ := hD.own
                rcases e with rfl | rfl
                · exact map_ne HV3.out.store.head hb rfl
                · exact map_ne hhead hb rfl
            have hf : ∀ {g : Nat} {cs : Array Value} {t : TypeId} {fr : Nat × Nat}, w'.heap[g]? = some (.cells cs t fr) → t ≠ 90 → t ≠ 93 → ¬ (g = s2 ∨ g = b) := by
              rintro g cs t fr hg n1 n2 (rfl | rfl)
              · exact cells_ne hg HV3.out.store.head n1 rfl
              · exact cells_ne hg hhead n2 rfl
            have hx : DiskAt wh x dm := HV3.out.disk.kept kk (fun g hg e => by
              rcases e with rfl | rfl
              · exact HV3.out.disk.not_foot HV3.out.store.head (by decide) (by decide) (by decide) hg
              · exact HV3.out.disk.not_foot hhead (by decide) (by decide) (by decide) hg)
            have hl := kk.heap HV1.out (hf HV1.out (by decide) (by decide))
            have hW := kk.heap HVW.out (hf HVW.out (by decide) (by decide))
            have h6 := HV6.out.kept kk (fun g hg => by obtain ⟨c, hc⟩ := row_cells HV6.out.kind hg; exact hf hc (by decide) (by decide)) (fun g hg => by obtain ⟨c, hc⟩ := row_cells HV6.out.body hg; exact hf hc (by decide) (by decide))
            have h7 := HV7.out.kept kk (fun g hg => by obtain ⟨c, hc⟩ := row_cells HV7.out.kind hg; exact hf hc (by decide) (by decide)) (fun g hg => by obtain ⟨c, hc⟩ := row_cells HV7.out.body hg; exact hf hc (by decide) (by decide))
            have kall : Kept No w wh := KW.out.next kk (fun g hg e => by
              rcases e with rfl | rfl
              · have := HV3.out.ls; omega
              · have := HV2.out.lb; omega)
            clear hf kk hhead hhead2 l2 HV1 HV2 HV3 HV6 HV7 HVW KW
            obtain ⟨m3, hm3, hbt⟩ : ∃ m3 : BtM, m3.ended = true ∧ BtAt wh b s2 u' v' hm m3 := ⟨_, rfl, hbt⟩
            have HM3 := Lib.hid hm3
            clear hm3
            have HH1 := Lib.hid hl
            have HH2 := Lib.hid hbt
            have HH3 := Lib.hid hst
            have HHX := Lib.hid hx
            have HHW := Lib.hid hW
            have HH6 := Lib.hid h6
            have HH7 := Lib.hid h7
            have KH := Lib.hid kall
            clear hl hbt hst hx hW h6 h7 kall
            have hal : Calls Tryz.prog 11 #[.pointer (some ⟨b, 0, none⟩), .int .u8 1, .string ⟨#[]⟩] wh fun e w'' => e = .returned (.tuple #[.int .u32 0, .int .i64 5]) ∧ Kept (BtF b v' hm) wh w'' ∧ BtAt w'' b s2 u' v' hm m3 := by
              have h := alloc_ok b s2 u' v' hm m3 1 [] wh HH2.out (by simp)
              rw [show m3.alloc (1, []) = (m3, 0, (5 : Int)) from by unfold BtM.alloc; exact if_pos HM3.out] at h
              exact h
            have HAL := Lib.hid hal
            clear hal
            go_wp2_with fail
            refine HAL.out.mono ?_
            rintro e wi ⟨rfl, k12, hbt⟩
            have hst : StAt wi s2 x.d us vs (.pointer (some ⟨b2, 0, none⟩)) st := HH3.out.kept k12 (HH2.out.far HH3.out.head (by decide) (by decide)) (HH2.out.far HH3.out.held.set.head (by decide) (by decide)) (fun g hg e => by
              obtain ⟨c, hc⟩ := row_cells HH3.out.held.set.row hg
              rcases e with rfl | e | rfl
              · exact cells_ne hc HH2.out.head (by decide) rfl
              · exact HGL.out.apart g hg e
              · obtain ⟨DD, hD⟩ := HH2.out.has
                obtain ⟨es, clock, hb, _⟩ := hD.own
                exact map_ne hc hb rfl)
            have hx : DiskAt wi x dm := HHX.out.kept k12 (fun g hg e => by
              rcases e with rfl | e | rfl
              · exact HHX.out.not_foot HH2.out.head (by decide) (by decide) (by decide) hg
              · obtain ⟨c, hc⟩ := row_cells HH2.out.held.set.row e
                exact HHX.out.not_foot hc (by decide) (by decide) (by decide) hg
              · exact HGL.out.far hg)
            have hW := k12.heap HHW.out (HH2.out.far HHW.out (by decide) (by decide))
            have hl := k12.heap HH1.out (HH2.out.far HH1.out (by decide) (by decide))
            have h6 := HH6.out.kept k12 (fun g hg => by obtain ⟨c, hc⟩ := row_cells HH6.out.kind hg; exact HH2.out.far hc (by decide) (by decide)) (fun g hg => by obtain ⟨c, hc⟩ := row_cells HH6.out.body hg; exact HH2.out.far hc (by decide) (by decide))
            have h7 := HH7.out.kept k12 (fun g hg => by obtain ⟨c, hc⟩ := row_cells HH7.out.kind hg; exact HH2.out.far hc (by decide) (by decide)) (fun g hg => by obtain ⟨c, hc⟩ := row_cells HH7.out.body hg; exact HH2.out.far hc (by decide) (by decide))
            have KI : Hid (Kept No w wi) := Lib.hid (KH.out.next k12 (fun g hg e => absurd (HBT.out g e) (by omega)))
            have HI1 := Lib.hid hl
            have HI2 := Lib.hid hbt
            have HI3 := Lib.hid hst
            have HIX := Lib.hid hx
            have HIW := Lib.hid hW
            have HI6 := Lib.hid h6
            have HI7 := Lib.hid h7
            have l2 : wi.cell? ⟨L, 2, none⟩ = some (.pointer (some ⟨s2, 0, none⟩)) := (cell_of_row wi L 2 _ _ _ hl).trans rfl
            clear hbt hst hx hW hl h6 h7 k12 HAL HH1 HH2 HH3 HHX HHW HH6 HH7 KH
            go_wp2_with fail
            refine (commit_no b s2 u' us hm v' vs (.pointer (some ⟨b2, 0, none⟩)) x.d st m3 wi HI2.out HI3.out HM3.out).mono ?_
            rintro e w' ⟨rfl, rfl⟩
            go_wp2_with fail
            refine (look_ok s2 us vs (.pointer (some ⟨b2, 0, none⟩)) x st dm wi HI3.out HIX.out HFIT.out HG3.out.looks).mono ?_
            rintro e wj ⟨kv3, bv3, rfl, k13, hsn3⟩
            obtain ⟨pb3, pbc3, rfl⟩ := row_slice hsn3.kind
            obtain ⟨qb3, qbc3, rfl⟩ := row_slice hsn3.body
            rw [HL10.out.1, HL10.out.2] at hsn3 ⊢
            have k14 := k13.alloc (.cells (seenC (.slice pb3 10 pbc3) (.slice qb3 10 qbc3) st.now.root) 55)
            have hV := heap_alloc_new wj (.cells (seenC (.slice pb3 10 pbc3) (.slice qb3 10 qbc3) st.now.root) 55)
            have hWj := k14.heap HIW.out (fun h => h)
            have HJ2 := Lib.hid (HI2.out.no k14)
            have HJX := Lib.hid (HIX.out.kept k14 (fun _ _ h => h))
            have HJ6 := Lib.hid (HI6.out.no k14)
            have HJ7 := Lib.hid (HI7.out.no k14)
            have HJN := Lib.hid (hsn3.no ((Kept.refl No wj).alloc (.cells (seenC (.slice pb3 10 pbc3) (.slice qb3 10 qbc3) st.now.root) 55)))
            have KJ : Hid (Kept No w (wj.alloc (.cells (seenC (.slice pb3 10 pbc3) (.slice qb3 10 qbc3) st.now.root) 55))) := Lib.hid (KI.out.trans k14)
            clear hsn3 k13 k14 HI1 HI2 HI3 HIX HIW HI6 HI7 KI l2
            go_wp2_with (refine wpList_store_new (by rfl) 55 (.tmp 25) (.tmp 249) (by rfl) wj 55 #[.slice none 0 0, .slice none 0 0, .int .u32 0, .int .u32 0, .int .u32 0, .int .u32 0, .int .u32 0, .int .u32 0, .int .u32 0, .int .u32 0] (seenC (.slice pb3 10 pbc3) (.slice qb3 10 qbc3) st.now.root) (by rfl) (by rfl) (by rfl) (by exact seen_size) (by simp [seenC]) (by simp [seenC, Value.oneCell']) ?_)
            generalize (wj.alloc (.cells (seenC (.slice pb3 10 pbc3) (.slice qb3 10 qbc3) st.now.root) 55)) = wm at *
            generalize wj.heap.size = V3 at *
            have y0 : wm.cell? ⟨V3, 0, none⟩ = some (.slice pb3 10 pbc3) := (cell_of_row wm V3 0 _ _ _ hV).trans rfl
            have y1 : wm.cell? ⟨V3, 1, none⟩ = some (.slice qb3 10 qbc3) := (cell_of_row wm V3 1 _ _ _ hV).trans rfl
            have y2 : wm.cell? ⟨V3, 2, none⟩ = some (.int .u32 (st.now.root.a : Int)) := (cell_of_row wm V3 2 _ _ _ hV).trans rfl
            have y3 : wm.cell? ⟨V3, 3, none⟩ = some (.int .u32 (st.now.root.b : Int)) := (cell_of_row wm V3 3 _ _ _ hV).trans rfl
            have y4 : wm.cell? ⟨V3, 4, none⟩ = some (.int .u32 (st.now.root.c : Int)) := (cell_of_row wm V3 4 _ _ _ hV).trans rfl
            have y5 : wm.cell? ⟨V3, 5, none⟩ = some (.int .u32 (st.now.root.d : Int)) := (cell_of_row wm V3 5 _ _ _ hV).trans rfl
            have y6 : wm.cell? ⟨V3, 6, none⟩ = some (.int .u32 (st.now.root.e : Int)) := (cell_of_row wm V3 6 _ _ _ hV).trans rfl
            have y7 : wm.cell? ⟨V3, 7, none⟩ = some (.int .u32 (st.now.root.f : Int)) := (cell_of_row wm V3 7 _ _ _ hV).trans rfl
            have y8 : wm.cell? ⟨V3, 8, none⟩ = some (.int .u32 (st.now.root.g : Int)) := (cell_of_row wm V3 8 _ _ _ hV).trans rfl
            have y9 : wm.cell? ⟨V3, 9, none⟩ = some (.int .u32 (st.now.root.h : Int)) := (cell_of_row wm V3 9 _ _ _ hV).trans rfl
            have z0 : wm.cell? ⟨W, 0, none⟩ = some (.slice pa 10 pc) := (cell_of_row wm W 0 _ _ _ hWj).trans rfl
            have z1 : wm.cell? ⟨W, 1, none⟩ = some (.slice qa 10 qc) := (cell_of_row wm W 1 _ _ _ hWj).trans rfl
            have z2 : wm.cell? ⟨W, 2, none⟩ = some (.int .u32 (st.now.root.a : Int)) := (cell_of_row wm W 2 _ _ _ hWj).trans rfl
            have z3 : wm.cell? ⟨W, 3, none⟩ = some (.int .u32 (st.now.root.b : Int)) := (cell_of_row wm W 3 _ _ _ hWj).trans rfl
            have z4 : wm.cell? ⟨W, 4, none⟩ = some (.int .u32 (st.now.root.c : Int)) := (cell_of_row wm W 4 _ _ _ hWj).trans rfl
            have z5 : wm.cell? ⟨W, 5, none⟩ = some (.int .u32 (st.now.root.d : Int)) := (cell_of_row wm W 5 _ _ _ hWj).trans rfl
            have z6 : wm.cell? ⟨W, 6, none⟩ = some (.int .u32 (st.now.root.e : Int)) := (cell_of_row wm W 6 _ _ _ hWj).trans rfl
            have z7 : wm.cell? ⟨W, 7, none⟩ = some (.int .u32 (st.now.root.f : Int)) := (cell_of_row wm W 7 _ _ _ hWj).trans rfl
            have z8 : wm.cell? ⟨W, 8, none⟩ = some (.int .u32 (st.now.root.g : Int)) := (cell_of_row wm W 8 _ _ _ hWj).trans rfl
            have z9 : wm.cell? ⟨W, 9, none⟩ = some (.int .u32 (st.now.root.h : Int)) := (cell_of_row wm W 9 _ _ _ hWj).trans rfl
            have HALK3 : Hid (∀ w', Kept No wm w' → Calls Tryz.prog 32 #[.agg #[.slice pb3 10 pbc3, .slice qb3 10 qbc3, .int .u32 (st.now.root.a : Int), .int .u32 (st.now.root.b : Int), .int .u32 (st.now.root.c : Int), .int .u32 (st.now.root.d : Int), .int .u32 (st.now.root.e : Int), .int .u32 (st.now.root.f : Int), .int .u32 (st.now.root.g : Int), .int .u32 (st.now.root.h : Int)], .agg #[.slice pa 10 pc, .slice qa 10 qc, .int .u32 (st.now.root.a : Int), .int .u32 (st.now.root.b : Int), .int .u32 (st.now.root.c : Int), .int .u32 (st.now.root.d : Int), .int .u32 (st.now.root.e : Int), .int .u32 (st.now.root.f : Int), .int .u32 (st.now.root.g : Int), .int .u32 (st.now.root.h : Int)]] w' fun e w'' => e = .returned (.bool true) ∧ Kept No w' w'') := Lib.hid (fun w' k => by
              have h := alike_ok _ _ _ _ _ _ (seenM st dm) (seenM st dm) w' (HJN.out.no k) (HJ6.out.no k) (by rw [HL10.out.1, HL10.out.2]) (by rw [HL10.out.1, HL10.out.2]) (by rw [HL10.out.1]; omega) (by rw [HL10.out.1]; omega)
              rw [decide_eq_true rfl] at h
              exact h)
            have HSIZ : Hid (Calls Tryz.prog 20 #[.pointer (some ⟨b, 0, none⟩)] wm fun e w'' => e = .returned (.int .i64 0) ∧ wm = w'') := Lib.hid (by
              have h := size_ok b s2 u' v' hm m3 wm HJ2.out
              rw [show m3.size = 0 from by unfold BtM.size; exact if_pos (.inl HM3.out)] at h
              exact h)
            clear hV hWj
            go_wp2_with (first
              | (go_at_call 20; refine HSIZ.out.mono ?_; rintro e w' ⟨rfl, rfl⟩)
              | (go_at_call 32; refine (HALK3.out _ (Kept.refl _ _)).mono ?_; rintro e wn ⟨rfl, k15⟩; have K15 := Lib.hid k15; clear k15)
              | (go_at_call 31; refine (durable_ok x dm wn (HJX.out.kept K15.out (fun _ _ h => h))).mono ?_; rintro e wo ⟨dv2, rfl, k16, hrow⟩; have K16 := Lib.hid k16; have HROW := Lib.hid hrow; clear k16 hrow)
              | (go_at_call 33; have hsam := sameTexts_ok _ _ dv2 lv dm.lies dm.lies wo HROW.out (HJ7.out.no (K15.out.trans K16.out)).body (by have := HG3.out.calm.len; omega) (by have := HG3.out.calm.len; omega); rw [decide_eq_true rfl] at hsam; refine hsam.mono ?_; rintro e wp ⟨rfl, k17⟩; have K17 := Lib.hid k17; clear k17 hsam))
            go_ret
            exact ⟨rfl, ((KJ.out.trans K15.out).trans K16.out).trans K17.out⟩
          · go_wp2_with fail
            refine (drop_ok b s2 u' v' hm m w' HV2.out.bt).mono ?_
            rintro e wh ⟨rfl, kk0, hbt⟩
            have kk : Kept (ChF L b v' hm wk' wb') w' wh := kk0.mono (fun _ _ e => .inr (.inl (e.elim .inl (fun e => .inr (.inr e)))))
            have hbt : BtAt wh b s2 u' v' hm { m.drop with ended := true } := hbt
            have hso := HV3.out.change HV2.out HV1.out kk
            have hst := hso.store
            have hx := hso.disk
            have hl := (kk0.heap HV1.out (fun e => by
              rcases e with rfl | rfl
              · exact cells_ne HV1.out HV2.out.bt.head (by decide) rfl
              · obtain ⟨DD, hD⟩ := HV2.out.bt.has
                obtain ⟨es, clock, hb, _⟩ := hD.own
                exact map_ne HV1.out hb rfl))
            have hW := kk.heap HVW.out (HV2.out.far' HV1.out HVW.out (by decide) (by decide) (by decide) (by decide) (by decide))
            have h6 := HV2.out.seen HV1.out HV6.out HAP.out.1 HAP.out.2.1 kk
            have h7 := HV2.out.seen HV1.out HV7.out HAP.out.1 HAP.out.2.2 kk
            have kall : Kept No w wh := KW.out.next kk0 (fun g hg e => by
              rcases e with rfl | rfl
              · have := HV2.out.lb; omega
              · have := HV2.out.lh; omega)
            clear kk kk0 hso l2 HV1 HV2 HV3 HV6 HV7 HVW KW
            obtain ⟨m3, hm3, hbt⟩ : ∃ m3 : BtM, m3.ended = true ∧ BtAt wh b s2 u' v' hm m3 := ⟨_, rfl, hbt⟩
            have HM3 := Lib.hid hm3
            clear hm3
            have HH1 := Lib.hid hl
            have HH2 := Lib.hid hbt
            have HH3 := Lib.hid hst
            have HHX := Lib.hid hx
            have HHW := Lib.hid hW
            have HH6 := Lib.hid h6
            have HH7 := Lib.hid h7
            have KH := Lib.hid kall
            clear hl hbt hst hx hW h6 h7 kall
            have hal : Calls Tryz.prog 11 #[.pointer (some ⟨b, 0, none⟩), .int .u8 1, .string ⟨#[]⟩] wh fun e w'' => e = .returned (.tuple #[.int .u32 0, .int .i64 5]) ∧ Kept (BtF b v' hm) wh w'' ∧ BtAt w'' b s2 u' v' hm m3 := by
              have h := alloc_ok b s2 u' v' hm m3 1 [] wh HH2.out (by simp)
              rw [show m3.alloc (1, []) = (m3, 0, (5 : Int)) from by unfold BtM.alloc; exact if_pos HM3.out] at h
              exact h
            have HAL := Lib.hid hal
            clear hal
            go_wp2_with fail
            refine HAL.out.mono ?_
            rintro e wi ⟨rfl, k12, hbt⟩
            have hst : StAt wi s2 x.d us vs (.pointer (some ⟨b, 0, none⟩)) st := HH3.out.kept k12 (HH2.out.far HH3.out.head (by decide) (by decide)) (HH2.out.far HH3.out.held.set.head (by decide) (by decide)) (fun g hg e => by
              obtain ⟨c, hc⟩ := row_cells HH3.out.held.set.row hg
              rcases e with rfl | e | rfl
              · exact cells_ne hc HH2.out.head (by decide) rfl
              · exact HGL.out.apart g hg e
              · obtain ⟨DD, hD⟩ := HH2.out.has
                obtain ⟨es, clock, hb, _⟩ := hD.own
                exact map_ne hc hb rfl)
            have hx : DiskAt wi x dm := HHX.out.kept k12 (fun g hg e => by
              rcases e with rfl | e | rfl
              · exact HHX.out.not_foot HH2.out.head (by decide) (by decide) (by decide) hg
              · obtain ⟨c, hc⟩ := row_cells HH2.out.held.set.row e
                exact HHX.out.not_foot hc (by decide) (by decide) (by decide) hg
              · exact HGL.out.far hg)
            have hW := k12.heap HHW.out (HH2.out.far HHW.out (by decide) (by decide))
            have hl := k12.heap HH1.out (HH2.out.far HH1.out (by decide) (by decide))
            have h6 := HH6.out.kept k12 (fun g hg => by obtain ⟨c, hc⟩ := row_cells HH6.out.kind hg; exact HH2.out.far hc (by decide) (by decide)) (fun g hg => by obtain ⟨c, hc⟩ := row_cells HH6.out.body hg; exact HH2.out.far hc (by decide) (by decide))
            have h7 := HH7.out.kept k12 (fun g hg => by obtain ⟨c, hc⟩ := row_cells HH7.out.kind hg; exact HH2.out.far hc (by decide) (by decide)) (fun g hg => by obtain ⟨c, hc⟩ := row_cells HH7.out.body hg; exact HH2.out.far hc (by decide) (by decide))
            have KI : Hid (Kept No w wi) := Lib.hid (KH.out.next k12 (fun g hg e => absurd (HBT.out g e) (by omega)))
            have HI1 := Lib.hid hl
            have HI2 := Lib.hid hbt
            have HI3 := Lib.hid hst
            have HIX := Lib.hid hx
            have HIW := Lib.hid hW
            have HI6 := Lib.hid h6
            have HI7 := Lib.hid h7
            have l2 : wi.cell? ⟨L, 2, none⟩ = some (.pointer (some ⟨s2, 0, none⟩)) := (cell_of_row wi L 2 _ _ _ hl).trans rfl
            clear hbt hst hx hW hl h6 h7 k12 HAL HH1 HH2 HH3 HHX HHW HH6 HH7 KH
            go_wp2_with fail
            refine (commit_no b s2 u' us hm v' vs (.pointer (some ⟨b, 0, none⟩)) x.d st m3 wi HI2.out HI3.out HM3.out).mono ?_
            rintro e w' ⟨rfl, rfl⟩
            go_wp2_with fail
            refine (look_ok s2 us vs (.pointer (some ⟨b, 0, none⟩)) x st dm wi HI3.out HIX.out HFIT.out HG3.out.looks).mono ?_
            rintro e wj ⟨kv3, bv3, rfl, k13, hsn3⟩
            obtain ⟨pb3, pbc3, rfl⟩ := row_slice hsn3.kind
            obtain ⟨qb3, qbc3, rfl⟩ := row_slice hsn3.body
            rw [HL10.out.1, HL10.out.2] at hsn3 ⊢
            have k14 := k13.alloc (.cells (seenC (.slice pb3 10 pbc3) (.slice qb3 10 qbc3) st.now.root) 55)
            have hV := heap_alloc_new wj (.cells (seenC (.slice pb3 10 pbc3) (.slice qb3 10 qbc3) st.now.root) 55)
            have hWj := k14.heap HIW.out (fun h => h)
            have HJ2 := Lib.hid (HI2.out.no k14)
            have HJX := Lib.hid (HIX.out.kept k14 (fun _ _ h => h))
            have HJ6 := Lib.hid (HI6.out.no k14)
            have HJ7 := Lib.hid (HI7.out.no k14)
            have HJN := Lib.hid (hsn3.no ((Kept.refl No wj).alloc (.cells (seenC (.slice pb3 10 pbc3) (.slice qb3 10 qbc3) st.now.root) 55)))
            have KJ : Hid (Kept No w (wj.alloc (.cells (seenC (.slice pb3 10 pbc3) (.slice qb3 10 qbc3) st.now.root) 55))) := Lib.hid (KI.out.trans k14)
            clear hsn3 k13 k14 HI1 HI2 HI3 HIX HIW HI6 HI7 KI l2
            go_wp2_with (refine wpList_store_new (by rfl) 55 (.tmp 25) (.tmp 249) (by rfl) wj 55 #[.slice none 0 0, .slice none 0 0, .int .u32 0, .int .u32 0, .int .u32 0, .int .u32 0, .int .u32 0, .int .u32 0, .int .u32 0, .int .u32 0] (seenC (.slice pb3 10 pbc3) (.slice qb3 10 qbc3) st.now.root) (by rfl) (by rfl) (by rfl) (by exact seen_size) (by simp [seenC]) (by simp [seenC, Value.oneCell']) ?_)
            generalize (wj.alloc (.cells (seenC (.slice pb3 10 pbc3) (.slice qb3 10 qbc3) st.now.root) 55)) = wm at *
            generalize wj.heap.size = V3 at *
            have y0 : wm.cell? ⟨V3, 0, none⟩ = some (.slice pb3 10 pbc3) := (cell_of_row wm V3 0 _ _ _ hV).trans rfl
            have y1 : wm.cell? ⟨V3, 1, none⟩ = some (.slice qb3 10 qbc3) := (cell_of_row wm V3 1 _ _ _ hV).trans rfl
            have y2 : wm.cell? ⟨V3, 2, none⟩ = some (.int .u32 (st.now.root.a : Int)) := (cell_of_row wm V3 2 _ _ _ hV).trans rfl
            have y3 : wm.cell? ⟨V3, 3, none⟩ = some (.int .u32 (st.now.root.b : Int)) := (cell_of_row wm V3 3 _ _ _ hV).trans rfl
            have y4 : wm.cell? ⟨V3, 4, none⟩ = some (.int .u32 (st.now.root.c : Int)) := (cell_of_row wm V3 4 _ _ _ hV).trans rfl
            have y5 : wm.cell? ⟨V3, 5, none⟩ = some (.int .u32 (st.now.root.d : Int)) := (cell_of_row wm V3 5 _ _ _ hV).trans rfl
            have y6 : wm.cell? ⟨V3, 6, none⟩ = some (.int .u32 (st.now.root.e : Int)) := (cell_of_row wm V3 6 _ _ _ hV).trans rfl
            have y7 : wm.cell? ⟨V3, 7, none⟩ = some (.int .u32 (st.now.root.f : Int)) := (cell_of_row wm V3 7 _ _ _ hV).trans rfl
            have y8 : wm.cell? ⟨V3, 8, none⟩ = some (.int .u32 (st.now.root.g : Int)) := (cell_of_row wm V3 8 _ _ _ hV).trans rfl
            have y9 : wm.cell? ⟨V3, 9, none⟩ = some (.int .u32 (st.now.root.h : Int)) := (cell_of_row wm V3 9 _ _ _ hV).trans rfl
            have z0 : wm.cell? ⟨W, 0, none⟩ = some (.slice pa 10 pc) := (cell_of_row wm W 0 _ _ _ hWj).trans rfl
            have z1 : wm.cell? ⟨W, 1, none⟩ = some (.slice qa 10 qc) := (cell_of_row wm W 1 _ _ _ hWj).trans rfl
            have z2 : wm.cell? ⟨W, 2, none⟩ = some (.int .u32 (st.now.root.a : Int)) := (cell_of_row wm W 2 _ _ _ hWj).trans rfl
            have z3 : wm.cell? ⟨W, 3, none⟩ = some (.int .u32 (st.now.root.b : Int)) := (cell_of_row wm W 3 _ _ _ hWj).trans rfl
            have z4 : wm.cell? ⟨W, 4, none⟩ = some (.int .u32 (st.now.root.c : Int)) := (cell_of_row wm W 4 _ _ _ hWj).trans rfl
            have z5 : wm.cell? ⟨W, 5, none⟩ = some (.int .u32 (st.now.root.d : Int)) := (cell_of_row wm W 5 _ _ _ hWj).trans rfl
            have z6 : wm.cell? ⟨W, 6, none⟩ = some (.int .u32 (st.now.root.e : Int)) := (cell_of_row wm W 6 _ _ _ hWj).trans rfl
            have z7 : wm.cell? ⟨W, 7, none⟩ = some (.int .u32 (st.now.root.f : Int)) := (cell_of_row wm W 7 _ _ _ hWj).trans rfl
            have z8 : wm.cell? ⟨W, 8, none⟩ = some (.int .u32 (st.now.root.g : Int)) := (cell_of_row wm W 8 _ _ _ hWj).trans rfl
            have z9 : wm.cell? ⟨W, 9, none⟩ = some (.int .u32 (st.now.root.h : Int)) := (cell_of_row wm W 9 _ _ _ hWj).trans rfl
            have HALK3 : Hid (∀ w', Kept No wm w' → Calls Tryz.prog 32 #[.agg #[.slice pb3 10 pbc3, .slice qb3 10 qbc3, .int .u32 (st.now.root.a : Int), .int .u32 (st.now.root.b : Int), .int .u32 (st.now.root.c : Int), .int .u32 (st.now.root.d : Int), .int .u32 (st.now.root.e : Int), .int .u32 (st.now.root.f : Int), .int .u32 (st.now.root.g : Int), .int .u32 (st.now.root.h : Int)], .agg #[.slice pa 10 pc, .slice qa 10 qc, .int .u32 (st.now.root.a : Int), .int .u32 (st.now.root.b : Int), .int .u32 (st.now.root.c : Int), .int .u32 (st.now.root.d : Int), .int .u32 (st.now.root.e : Int), .int .u32 (st.now.root.f : Int), .int .u32 (st.now.root.g : Int), .int .u32 (st.now.root.h : Int)]] w' fun e w'' => e = .returned (.bool true) ∧ Kept No w' w'') := Lib.hid (fun w' k => by
              have h := alike_ok _ _ _ _ _ _ (seenM st dm) (seenM st dm) w' (HJN.out.no k) (HJ6.out.no k) (by rw [HL10.out.1, HL10.out.2]) (by rw [HL10.out.1, HL10.out.2]) (by rw [HL10.out.1]; omega) (by rw [HL10.out.1]; omega)
              rw [decide_eq_true rfl] at h
              exact h)
            have HSIZ : Hid (Calls Tryz.prog 20 #[.pointer (some ⟨b, 0, none⟩)] wm fun e w'' => e = .returned (.int .i64 0) ∧ wm = w'') := Lib.hid (by
              have h := size_ok b s2 u' v' hm m3 wm HJ2.out
              rw [show m3.size = 0 from by unfold BtM.size; exact if_pos (.inl HM3.out)] at h
              exact h)
            clear hV hWj
            go_wp2_with (first
              | (go_at_call 20; refine HSIZ.out.mono ?_; rintro e w' ⟨rfl, rfl⟩)
              | (go_at_call 32; refine (HALK3.out _ (Kept.refl _ _)).mono ?_; rintro e wn ⟨rfl, k15⟩; have K15 := Lib.hid k15; clear k15)
              | (go_at_call 31; refine (durable_ok x dm wn (HJX.out.kept K15.out (fun _ _ h => h))).mono ?_; rintro e wo ⟨dv2, rfl, k16, hrow⟩; have K16 := Lib.hid k16; have HROW := Lib.hid hrow; clear k16 hrow)
              | (go_at_call 33; have hsam := sameTexts_ok _ _ dv2 lv dm.lies dm.lies wo HROW.out (HJ7.out.no (K15.out.trans K16.out)).body (by have := HG3.out.calm.len; omega) (by have := HG3.out.calm.len; omega); rw [decide_eq_true rfl] at hsam; refine hsam.mono ?_; rintro e wp ⟨rfl, k17⟩; have K17 := Lib.hid k17; clear k17 hsam))
            go_ret
            exact ⟨rfl, ((KJ.out.trans K15.out).trans K16.out).trans K17.out⟩
end Go.Proofs.YtabhieafjkaocaaGreat
/- StoreUnseen: its walk, for what it begins with. -/
namespace Go.Proofs.YtabhieafjkaocaaGreat
open Go.RowKit Go.Lib Go.Maps Bm
set_option linter.unusedVariables false

theorem sixteen_in : FreshIn 16 6 := ⟨by omega, by omega, by omega⟩
theorem unseen_ok (sv mv : Value) (l k : List StepM) (drops : Bool) (w : World) (hl : StepsAt w sv l) (hk : StepsAt w mv k) :
    Calls Tryz.prog 6 #[sv, mv, .bool drops] w fun e w' => e = .returned (.bool true) ∧ Below w.heap.size w w' :=
  (unseen_walk (wk0 16) (wk1 16 6) (ws1 16 6) (fun w => dnew_ok 16 w (by omega) (by omega)) (fun x w hx => open_new 16 6 sixteen_in x w hx) (wk1_run sixteen_in).2.1 rfl rfl ⟨rfl, fun i _ hi => by rw [show mem (ws1 16 6).now.ws i = false from mem_zero 10 i] at hi; cases hi⟩ rfl sv mv l k drops w hl hk).mono
    fun e w' h => ⟨h.1, h.2.below (Nat.le_refl _) (fun _ _ h => h)⟩
end Go.Proofs.YtabhieafjkaocaaGreat
