/- A part. -/
import Derived.Test.YtabhieafjkaocaaGreatMabl
import Derived.StillTailTactics
import Derived.Deep.QuietTactic
import Derived.Deep.DeepCutAuto
import Derived.BigQuiet
set_option linter.unusedVariables false
set_option linter.unusedSimpArgs false
namespace Go.Proofs.YtabhieafjkaocaaGreat
open Go.RowKit Go.Lib Go.Maps Bm
set_option maxRecDepth 20000
set_option maxHeartbeats 8000000 in
theorem lwrite_ok (L d j : Nat) (sv wk wb ik ib : Value) (q : Root8) (ser : Nat) (br : Bool) (b s u : Nat) (v : Value) (hm : Nat) (m : BtM) (is : SeenM) (base : Nat) (si : Int) (N : Nat) (so : Bool) (sp : UInt8) (sx : List UInt8) (kv : Value) (st sc : Int) (w : World)
    (hL : w.heap[L]? = some (.cells (lifeC d j sv (.pointer (some ⟨b, 0, none⟩)) wk wb m.held.root ik ib q ser br true) 57 (0, 0))) (hB : BtAt w b s u v hm m) (hG : Grown is m) (hS : SeenAt w base wk wb (willM is m))
    (hsi : I64 si) (hsx : sx.length ≤ 9223372036854775807) (hN : N < 1048576) :
    Calls Tryz.prog 62 #[.pointer (some ⟨L, 0, none⟩), .agg #[.int .i64 2, .int .i64 si, .int .i64 (N : Int), .bool so, .int .u8 (sp.toNat : Int), .string ⟨⟨sx⟩⟩, kv, .int .i64 st, .int .i64 sc]] w fun e w' => ∃ m', e = .returned (.tuple #[]) ∧ Kept (ChF L b v hm wk wb) w w' ∧
      w'.heap[L]? = some (.cells (lifeC d j sv (.pointer (some ⟨b, 0, none⟩)) wk wb m'.held.root ik ib q ser br true) 57 (0, 0)) ∧ BtAt w' b s u v hm m' ∧ Grown is m' ∧ SeenAt w' base wk wb (willM is m') ∧ m'.held.n = m.held.n := by
  have hcase : (N = 0 ∨ (0 < N ∧ m.held.n ≤ N) ∨ (0 < N ∧ N < m.held.n ∧ willK is m N = -1)) ∨ (m.held.asked N = 0 ∧ 0 < N ∧ N < m.held.n ∧ 0 ≤ willK is m N) := by
    rcases hG.wk N with ⟨hm, h0⟩ | ⟨hm, h0⟩
    · have := mem_low hG.ok hm
      exact .inr ⟨(asked_mem hG.ok N).2 hm, this.1, this.2, h0⟩
    · refine .inl ?_
      by_cases e : N = 0
      · exact .inl e
      · by_cases e2 : m.held.n ≤ N
        · exact .inr (.inl ⟨by omega, e2⟩)
        · exact .inr (.inr ⟨by omega, by omega, h0⟩)
  have hn2 := hG.ok.some_
  have hn4 := hG.ok.most
  obtain ⟨wl1, wl2⟩ := willM_len is m
  obtain ⟨gk, ck, hwk, hkc⟩ := own_at1 hS.kind (by omega)
  obtain ⟨gb, cb, hwb, hbc⟩ := own_at1 hS.body (by omega)
  rw [wl1] at hwk
  rw [wl2] at hwb
  subst hwk hwb
  have hkN : N < m.held.n → w.cell? ⟨gk, N, none⟩ = some (.int .i64 (willK is m N)) := fun h => hkc N _ (by rw [kindC_at _ _ (by omega)]; unfold willM; simp only; rw [range_getD _ _ _ _ h])
  have hwu : IntKind.u32.wrap (N : Int) = (N : Int) := by rw [IntKind.wrap_u32]; omega
  have hwp : IntKind.i64.wrap (sp.toNat : Int) = (sp.toNat : Int) := by have := sp.toNat_lt; rw [IntKind.wrap_i64]; omega
  have HKN := Lib.hid hkN
  have HWL1 := Lib.hid wl1
  have HWL2 := Lib.hid wl2
  have HCASE := Lib.hid hcase
  have HL := Lib.hid hL
  have HB := Lib.hid hB
  have HG := Lib.hid hG
  have HS := Lib.hid hS
  have HSI := Lib.hid hsi
  have hwr := fun w' (k : Kept No w w') => write_ok b s u v hm m N sp sx w' (hB.no k) (by omega) hsx
  have hww := write_will hG N (sp, sx)
  generalize hA : m.write N (sp, sx) = A at *
  obtain ⟨m1, ans⟩ := A
  simp only at hww
  have HWR := Lib.hid hwr
  have HWW := Lib.hid hww
  clear hwr hww hA
  clear hkN hcase hL hB hG hS hkc hbc wl1 wl2 hsi
  go_enter Tryz.func62, Tryz.ntmps62
  go_upto_region 2 with fail
  have hX := heap_alloc_new w (.cells #[.int .i64 2, .int .i64 si, .int .i64 (N : Int), .bool so, .int .u8 (sp.toNat : Int), .string ⟨⟨sx⟩⟩, kv, .int .i64 st, .int .i64 sc] 62)
  have k1 : Kept No w (w.alloc (.cells #[.int .i64 2, .int .i64 si, .int .i64 (N : Int), .bool so, .int .u8 (sp.toNat : Int), .string ⟨⟨sx⟩⟩, kv, .int .i64 st, .int .i64 sc] 62)) := (Kept.refl _ _).alloc _
  have hL1 := k1.heap HL.out (fun h => h)
  have HB1 := Lib.hid (HB.out.no k1)
  have HS1 := Lib.hid (HS.out.no k1)
  have hkN : N < m.held.n → (w.alloc (.cells #[.int .i64 2, .int .i64 si, .int .i64 (N : Int), .bool so, .int .u8 (sp.toNat : Int), .string ⟨⟨sx⟩⟩, kv, .int .i64 st, .int .i64 sc] 62)).cell? ⟨gk, N, none⟩ = some (.int .i64 (willK is m N)) := fun h => (k1.cell (World.block_lt_of_cell? w _ (HKN.out h)) (fun e => e)).trans (HKN.out h)
  have K1 := Lib.hid k1
  have hXs : Hid (w.heap.size = w.heap.size) := Lib.hid rfl
  generalize (w.alloc (.cells #[.int .i64 2, .int .i64 si, .int .i64 (N : Int), .bool so, .int .u8 (sp.toNat : Int), .string ⟨⟨sx⟩⟩, kv, .int .i64 st, .int .i64 sc] 62)) = w1 at *
  generalize w.heap.size = X at *
  have x0 : w1.cell? ⟨X, 0, none⟩ = some (.int .i64 2) := (cell_of_row w1 X 0 _ _ _ hX).trans rfl
  have x2 : w1.cell? ⟨X, 2, none⟩ = some (.int .i64 (N : Int)) := (cell_of_row w1 X 2 _ _ _ hX).trans rfl
  have l4 : w1.cell? ⟨L, 4, none⟩ = some (.slice (some ⟨gk, 0, none⟩) m.held.n ck) := (cell_of_row w1 L 4 _ _ _ hL1).trans rfl
  have HX := Lib.hid hX
  have HL1 := Lib.hid hL1
  have HKN1 := Lib.hid hkN
  clear hX hL1 k1 hkN
  generalize hn : m.held.n = n at *
  have HN := Lib.hid hn
  clear hn
  go_cut [5] (fun s5 wx => s5 = .bool (decide (m.held.asked N = 0)) ∧ ∃ q, wx = w1.drewN q)
  case first =>
    rcases HCASE.out with hcase | ⟨ha, h1, h2, h3⟩
    · have hne : decide (m.held.asked N = 0) = false := by
        rw [decide_eq_false_iff_not, asked_mem HG.out.ok]
        intro hm
        rcases hcase with h0 | ⟨_, h0⟩ | ⟨_, _, h0⟩
        · have := mem_low HG.out.ok hm; omega
        · have := mem_low HG.out.ok hm; have := HN.out; omega
        · rcases HG.out.wk N with ⟨_, h⟩ | ⟨h, _⟩
          · omega
          · rw [h] at hm; cases hm
      have HNE := Lib.hid hne
      clear hne
      rcases hcase with h0 | ⟨h1, h2⟩ | ⟨h1, h2, h3⟩
      · have d1 : decide ((0 : Int) < (N : Int)) = false := by simp; omega
        have h0' : ¬ 0 < N := by omega
        clear h0
        go_quiet (fail)
        go_wp2_with fail
        go_meet
        exact ⟨by rw [HNE.out], _, rfl⟩
      · have d1 : decide ((0 : Int) < (N : Int)) = true := by simp; omega
        have d2 : decide ((N : Int) < (n : Int)) = false := by simp; omega
        have d2n : decide (N < n) = false := by simp; omega
        go_quiet (fail)
        go_wp2_with fail
        go_meet
        exact ⟨by rw [HNE.out], _, rfl⟩
      · have d1 : decide ((0 : Int) < (N : Int)) = true := by simp; omega
        have d2 : decide ((N : Int) < (n : Int)) = true := by simp; omega
        have kN := HKN1.out h2
        rw [h3] at kN
        clear h3
        have h2' : (N : Int) < (n : Int) := by omega
        go_quiet (fail)
        go_wp2_with fail
        go_meet
        exact ⟨by rw [HNE.out], _, rfl⟩
    · have HNE : Hid (decide (m.held.asked N = 0) = true) := Lib.hid (decide_eq_true ha)
      have d1 : decide ((0 : Int) < (N : Int)) = true := by simp; omega
      have d2 : decide ((N : Int) < (n : Int)) = true := by simp; omega
      have kN := HKN1.out h2
      generalize willK is m N = K at *
      have d3 : decide ((0 : Int) ≤ K) = true := by simp; omega
      have h2' : (N : Int) < (n : Int) := by omega
      clear ha
      go_quiet (fail)
      go_wp2_with fail
      go_meet
      exact ⟨by rw [HNE.out], _, rfl⟩
  case rest =>
  obtain ⟨rfl, qn, hwq⟩ := hcut
  have kq0 : Kept No w1 wc := by rw [hwq]; exact (Kept.refl No w1).drewN qn
  replace HL1 := Lib.hid (kq0.heap HL1.out (fun h => h))
  replace HX := Lib.hid (kq0.heap HX.out (fun h => h))
  replace HB1 := Lib.hid (HB1.out.no kq0)
  replace HS1 := Lib.hid (HS1.out.no kq0)
  replace K1 := Lib.hid (K1.out.trans kq0)
  clear hwq kq0 HKN1 x0 x2 l4 hXs
  clear w1
  have x0 : wc.cell? ⟨X, 0, none⟩ = some (.int .i64 2) := (cell_of_row wc X 0 _ _ _ HX.out).trans rfl
  have l3 : wc.cell? ⟨L, 3, none⟩ = some (.pointer (some ⟨b, 0, none⟩)) := (cell_of_row wc L 3 _ _ _ HL1.out).trans rfl
  have x1 : wc.cell? ⟨X, 1, none⟩ = some (.int .i64 si) := (cell_of_row wc X 1 _ _ _ HX.out).trans rfl
  have x4 : wc.cell? ⟨X, 4, none⟩ = some (.int .u8 (sp.toNat : Int)) := (cell_of_row wc X 4 _ _ _ HX.out).trans rfl
  have x5 : wc.cell? ⟨X, 5, none⟩ = some (.string ⟨⟨sx⟩⟩) := (cell_of_row wc X 5 _ _ _ HX.out).trans rfl
  go_wp2_with fail
  go_still_tail 9, (by kernel_rfl)
  repeat still_step
  change wpList _ _ _ _ _ wc.drew
  have kq : Kept No wc wc.drew := (Kept.refl No wc).drew
  have KQ := Lib.hid kq
  clear kq
  rcases HWW.out with ⟨h0, h1⟩ | ⟨h0, ha, hc, hg', hw', hn'⟩
  · have hz : (ans == 0) = false := by rw [beq_eq_false_iff_ne]; exact h0
    clear h0
    subst h1
    go_wp2_with (go_at_call 21; refine (HWR.out _ (K1.out.trans KQ.out)).mono ?_; rintro e w2 ⟨rfl, k2, hb2⟩; have K2 := Lib.hid k2; have HB2 := Lib.hid hb2; clear k2 hb2)
    go_end0
    have kq := KQ.out
    have k2 := K2.out
    have hBq := HB1.out.no kq
    have hLq := kq.heap HL1.out (fun h => h)
    have hXq := kq.heap HX.out (fun h => h)
    have hL2 := k2.heap hLq (hBq.far hLq (by decide) (by decide))
    have hX2 := k2.heap hXq (hBq.far hXq (by decide) (by decide))
    have hS2 := (HS1.out.no kq).bt hBq k2
    have hnn := HN.out
    subst hnn
    exact ⟨m1, rfl, ((K1.out.trans kq).of_no _).trans (k2.mono fun _ _ e => .inr (.inl e)), hL2, HB2.out, HG.out, hS2, rfl⟩
  · have hz : (ans == 0) = true := by rw [beq_iff_eq]; exact h0
    subst h0
    have hlo := asked_ok0 ha
    have hNn : N < n := by have := HN.out; omega
    have hN0 := hlo.1
    have hda : decide (m.held.asked N = 0) = true := decide_eq_true ha
    rw [hda]
    have hcl : decide ((sx.length : Int) ≤ 996) = true := by simp; omega
    have hNi : (N : Int) < (n : Int) := by omega
    have HGW := Lib.hid (And.intro hg' hw')
    clear ha hlo hda hg' hw' hc
    go_wp2_with (go_at_call 21; refine (HWR.out _ (K1.out.trans KQ.out)).mono ?_; rintro e w2 ⟨rfl, k2, hb2⟩; have K2 := Lib.hid k2; have HB2 := Lib.hid hb2; have hBq := HB1.out.no KQ.out; have hLq := KQ.out.heap HL1.out (fun h => h); have hXq := KQ.out.heap HX.out (fun h => h); have hL2 := k2.heap hLq (hBq.far hLq (by decide) (by decide)); have hX2 := k2.heap hXq (hBq.far hXq (by decide) (by decide)); have hS2 := (HS1.out.no KQ.out).bt hBq k2; clear hLq hXq hBq k2 hb2; have l4' : w2.cell? ⟨L, 4, none⟩ = some (.slice (some ⟨gk, 0, none⟩) n ck) := (cell_of_row w2 L 4 _ _ _ hL2).trans rfl; have l5' : w2.cell? ⟨L, 5, none⟩ = some (.slice (some ⟨gb, 0, none⟩) n cb) := (cell_of_row w2 L 5 _ _ _ hL2).trans rfl; have l26' : w2.cell? ⟨L, 26, none⟩ = some (.bool true) := (cell_of_row w2 L 26 _ _ _ hL2).trans rfl; have f26' := frozen_of_row w2 L 26 _ _ hL2; have x4' : w2.cell? ⟨X, 4, none⟩ = some (.int .u8 (sp.toNat : Int)) := (cell_of_row w2 X 4 _ _ _ hX2).trans rfl; have x5' : w2.cell? ⟨X, 5, none⟩ = some (.string ⟨⟨sx⟩⟩) := (cell_of_row w2 X 5 _ _ _ hX2).trans rfl; have nXL : ¬ X = L := cells_ne hX2 hL2 (by decide); have nLX : ¬ L = X := fun e => nXL e.symm; obtain ⟨csk, hck⟩ := row_cells hS2.kind (g := gk) rfl; obtain ⟨csb, hcb⟩ := row_cells hS2.body (g := gb) rfl; have nLk : ¬ L = gk := cells_ne hL2 hck (by decide); have nLb : ¬ L = gb := cells_ne hL2 hcb (by decide); have nXk : ¬ X = gk := cells_ne hX2 hck (by decide); have nXb : ¬ X = gb := cells_ne hX2 hcb (by decide); have nkb : ¬ gk = gb := cells_ne hck hcb (by decide); have nkL : ¬ gk = L := fun e => nLk e.symm; have nbL : ¬ gb = L := fun e => nLb e.symm; have nkX : ¬ gk = X := fun e => nXk e.symm; have nbX : ¬ gb = X := fun e => nXb e.symm; have nbk : ¬ gb = gk := fun e => nkb e.symm; have fk' := frozen_of_row w2 gk N _ _ hck; have fb' := frozen_of_row w2 gb N _ _ hcb; have ck' := seen_ckind hS2 HWL1.out hNn; have cb' := seen_cbody hS2 HWL2.out hNn; have HL2 := Lib.hid hL2; have HX2 := Lib.hid hX2; have HS2 := Lib.hid hS2; clear hL2 hX2 hS2 hck hcb)
    obtain ⟨k3, hL3, hX3, hS3⟩ := ch1 HL2.out HX2.out rfl HS2.out
    clear l4' l5' l26' f26' x4' x5' nXL nLX nLk nLb nXk nXb nkb nkL nbL nkX nbX nbk fk' fb' ck' cb'
    generalize w2.setCell ⟨L, 26, none⟩ (.bool true) = w3 at *
    have l4 : w3.cell? ⟨L, 4, none⟩ = some (.slice (some ⟨gk, 0, none⟩) n ck) := (cell_of_row w3 L 4 _ _ _ hL3).trans rfl
    have l26 : w3.cell? ⟨L, 26, none⟩ = some (.bool true) := (cell_of_row w3 L 26 _ _ _ hL3).trans rfl
    have x4 : w3.cell? ⟨X, 4, none⟩ = some (.int .u8 (sp.toNat : Int)) := (cell_of_row w3 X 4 _ _ _ hX3).trans rfl
    obtain ⟨csk, hck⟩ := row_cells hS3.kind (g := gk) rfl
    have fk := frozen_of_row w3 gk N _ _ hck
    have ckk := seen_ckind hS3 HWL1.out hNn
    have K3 := Lib.hid k3
    have HL3 := Lib.hid hL3
    have HX3 := Lib.hid hX3
    have HS3 := Lib.hid hS3
    clear k3 hL3 hX3 hS3 hck
    go_wp2_with fail
    go_still_tail 10, (by kernel_rfl)
    repeat still_step
    change wpList _ _ _ _ _ w3.drew
    go_wp2_with fail
    obtain ⟨k4, hL4, hX4, hS4⟩ := ch2 HL3.out HX3.out HS3.out HWL1.out N (sp.toNat : Int) ((w3.setCell ⟨gk, N, none⟩ (.int .i64 (sp.toNat : Int))).drew) (.inl rfl)
    clear l4 l26 x4 fk ckk
    generalize (w3.setCell ⟨gk, N, none⟩ (.int .i64 (sp.toNat : Int))).drew = w4 at *
    have l5 : w4.cell? ⟨L, 5, none⟩ = some (.slice (some ⟨gb, 0, none⟩) n cb) := (cell_of_row w4 L 5 _ _ _ hL4).trans rfl
    have x5 : w4.cell? ⟨X, 5, none⟩ = some (.string ⟨⟨sx⟩⟩) := (cell_of_row w4 X 5 _ _ _ hX4).trans rfl
    obtain ⟨csb, hcb⟩ := row_cells hS4.body (g := gb) rfl
    have fb := frozen_of_row w4 gb N _ _ hcb
    have cbb := seen_cbody hS4 HWL2.out hNn
    have K4 := Lib.hid k4
    have HL4 := Lib.hid hL4
    have HX4 := Lib.hid hX4
    have HS4 := Lib.hid hS4
    clear k4 hL4 hX4 hS4 hcb
    go_still_tail 9, (by kernel_rfl)
    repeat still_step
    change wpList _ _ _ _ _ w4.drew
    go_wp2_with fail
    go_end0
    obtain ⟨k5, hL5, hX5, hS5⟩ := ch3 HL4.out HX4.out HS4.out HWL2.out N sx ((w4.setCell ⟨gb, N, none⟩ (.string ⟨⟨sx⟩⟩)).drew) (.inl rfl)
    obtain ⟨hg', hw'⟩ := HGW.out
    have hnn := HN.out
    subst hnn
    have hroot : m1.held.root = m.held.root := congrArg SeenM.root hw'
    have k345 : Kept (fun q => q = L ∨ q = gk ∨ q = gb) w2 _ := ((K3.out.mono fun _ _ e => .inl e).trans (K4.out.mono fun _ _ e => .inr (.inl e))).trans (k5.mono fun _ _ e => .inr (.inr e))
    have hbt := ch_bt HB2.out HL2.out HS2.out k345
    have kall := (((K1.out.trans KQ.out).of_no (ChF L b v hm (.slice (some ⟨gk, 0, none⟩) m.held.n ck) (.slice (some ⟨gb, 0, none⟩) m.held.n cb))).trans (K2.out.mono fun _ _ e => .inr (.inl e))).trans (k345.mono fun k _ e => by
      rcases e with e | e | e
      · exact .inl e
      · subst e; exact .inr (.inr (.inl rfl))
      · subst e; exact .inr (.inr (.inr rfl)))
    rw [← hroot] at hL5
    have hfin := And.intro hL5 (And.intro hbt (And.intro hg' (And.intro (show SeenAt _ base _ _ (willM is m1) by rw [hw']; exact hS5) hn')))
    first | exact ⟨m1, rfl, kall, hfin⟩ | exact ⟨rfl, kall, m1, hfin⟩
end Go.Proofs.YtabhieafjkaocaaGreat
