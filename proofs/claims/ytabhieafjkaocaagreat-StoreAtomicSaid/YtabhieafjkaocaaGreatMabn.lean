/- A part. -/
import Derived.Deep.RegionHeldLaw
import Derived.Test.YtabhieafjkaocaaGreatMabl
import Derived.StillTailTactics
import Derived.Deep.QuietTactic
import Derived.Deep.DeepCutAuto
import Derived.BigQuiet
import Derived.Test.YtabhieafjkaocaaGreatMabm
import Derived.Test.YtabhieafjkaocaaGreatMabk
set_option linter.unusedVariables false
set_option linter.unusedSimpArgs false
namespace Go.Proofs.YtabhieafjkaocaaGreat
open Go.RowKit Go.Lib Go.Maps Bm
set_option maxRecDepth 20000
set_option maxHeartbeats 8000000 in
theorem lalloc_ok (L d j : Nat) (sv wk wb ik ib : Value) (q : Root8) (ser : Nat) (br : Bool) (b s u : Nat) (v : Value) (hm : Nat) (m : BtM) (is : SeenM) (base : Nat) (si : Int) (N : Nat) (so : Bool) (sp : UInt8) (sx : List UInt8) (kv : Value) (st sc : Int) (w : World)
    (hL : w.heap[L]? = some (.cells (lifeC d j sv (.pointer (some ⟨b, 0, none⟩)) wk wb m.held.root ik ib q ser br true) 57 (0, 0))) (hB : BtAt w b s u v hm m) (hG : Grown is m) (hS : SeenAt w base wk wb (willM is m))
    (hsi : I64 si) (hsx : sx.length ≤ 9223372036854775807) (hN : N < 1048576) :
    Calls Tryz.prog 62 #[.pointer (some ⟨L, 0, none⟩), .agg #[.int .i64 3, .int .i64 si, .int .i64 (N : Int), .bool so, .int .u8 (sp.toNat : Int), .string ⟨⟨sx⟩⟩, kv, .int .i64 st, .int .i64 sc]] w fun e w' => ∃ m', e = .returned (.tuple #[]) ∧ Kept (ChF L b v hm wk wb) w w' ∧
      w'.heap[L]? = some (.cells (lifeC d j sv (.pointer (some ⟨b, 0, none⟩)) wk wb m'.held.root ik ib q ser br true) 57 (0, 0)) ∧ BtAt w' b s u v hm m' ∧ Grown is m' ∧ SeenAt w' base wk wb (willM is m') ∧ m'.held.n = m.held.n := by
  have hcase : (N = 0 ∨ (0 < N ∧ m.held.n ≤ N) ∨ (0 < N ∧ N < m.held.n ∧ willK is m N = -1)) ∨ (m.held.asked N = 0 ∧ 0 < N ∧ N < m.held.n ∧ 0 ≤ willK is m N) := by
    rcases hG.wk N with ⟨hm, h0⟩ | ⟨hm, h0⟩
    · have := mem_low hG.ok hm
      exact .inr ⟨(asked_mem hG.ok N).2 hm, this.1, this.2, h0⟩
    · refine .inl ?_
      by_cases e : N = 0
      · exact .inl e
      · by_cases e2 : m.held.n ≤ N
        · exact .inr (.inl ⟨by omega, e2⟩)
        · exact .inr (.inr ⟨by omega, by omega, h0⟩)
  have hn2 := hG.ok.some_
  have hn4 := hG.ok.most
  obtain ⟨wl1, wl2⟩ := willM_len is m
  obtain ⟨gk, ck, hwk, hkc⟩ := own_at1 hS.kind (by omega)
  obtain ⟨gb, cb, hwb, hbc⟩ := own_at1 hS.body (by omega)
  rw [wl1] at hwk
  rw [wl2] at hwb
  subst hwk hwb
  have hkN : N < m.held.n → w.cell? ⟨gk, N, none⟩ = some (.int .i64 (willK is m N)) := fun h => hkc N _ (by rw [kindC_at _ _ (by omega)]; unfold willM; simp only; rw [range_getD _ _ _ _ h])
  have hwu : IntKind.u32.wrap (N : Int) = (N : Int) := by rw [IntKind.wrap_u32]; omega
  have hwp : IntKind.i64.wrap (sp.toNat : Int) = (sp.toNat : Int) := by have := sp.toNat_lt; rw [IntKind.wrap_i64]; omega
  have HKN := Lib.hid hkN
  have HWL1 := Lib.hid wl1
  have HWL2 := Lib.hid wl2
  have HCASE := Lib.hid hcase
  have HL := Lib.hid hL
  have HB := Lib.hid hB
  have HG := Lib.hid hG
  have HS := Lib.hid hS
  have HSI := Lib.hid hsi
  have hwr := fun w' (k : Kept No w w') => alloc_ok b s u v hm m sp sx w' (hB.no k) hsx
  have hww := alloc_will hG (sp, sx)
  generalize hA : m.alloc (sp, sx) = A at *
  obtain ⟨m1, kk, ans⟩ := A
  simp only at hww
  have HWR := Lib.hid hwr
  have HWW := Lib.hid hww
  clear hwr hww hA
  clear hkN hcase hL hB hG hS hkc hbc wl1 wl2 hsi
  go_enter Tryz.func62, Tryz.ntmps62
  go_upto_region 2 with fail
  have hX := heap_alloc_new w (.cells #[.int .i64 3, .int .i64 si, .int .i64 (N : Int), .bool so, .int .u8 (sp.toNat : Int), .string ⟨⟨sx⟩⟩, kv, .int .i64 st, .int .i64 sc] 62)
  have k1 : Kept No w (w.alloc (.cells #[.int .i64 3, .int .i64 si, .int .i64 (N : Int), .bool so, .int .u8 (sp.toNat : Int), .string ⟨⟨sx⟩⟩, kv, .int .i64 st, .int .i64 sc] 62)) := (Kept.refl _ _).alloc _
  have hL1 := k1.heap HL.out (fun h => h)
  have HB1 := Lib.hid (HB.out.no k1)
  have HS1 := Lib.hid (HS.out.no k1)
  have hkN : N < m.held.n → (w.alloc (.cells #[.int .i64 3, .int .i64 si, .int .i64 (N : Int), .bool so, .int .u8 (sp.toNat : Int), .string ⟨⟨sx⟩⟩, kv, .int .i64 st, .int .i64 sc] 62)).cell? ⟨gk, N, none⟩ = some (.int .i64 (willK is m N)) := fun h => (k1.cell (World.block_lt_of_cell? w _ (HKN.out h)) (fun e => e)).trans (HKN.out h)
  have K1 := Lib.hid k1
  have hXs : Hid (w.heap.size = w.heap.size) := Lib.hid rfl
  generalize (w.alloc (.cells #[.int .i64 3, .int .i64 si, .int .i64 (N : Int), .bool so, .int .u8 (sp.toNat : Int), .string ⟨⟨sx⟩⟩, kv, .int .i64 st, .int .i64 sc] 62)) = w1 at *
  generalize w.heap.size = X at *
  have x0 : w1.cell? ⟨X, 0, none⟩ = some (.int .i64 3) := (cell_of_row w1 X 0 _ _ _ hX).trans rfl
  have x2 : w1.cell? ⟨X, 2, none⟩ = some (.int .i64 (N : Int)) := (cell_of_row w1 X 2 _ _ _ hX).trans rfl
  have l4 : w1.cell? ⟨L, 4, none⟩ = some (.slice (some ⟨gk, 0, none⟩) m.held.n ck) := (cell_of_row w1 L 4 _ _ _ hL1).trans rfl
  have HX := Lib.hid hX
  have HL1 := Lib.hid hL1
  have HKN1 := Lib.hid hkN
  clear hX hL1 k1 hkN
  generalize hn : m.held.n = n at *
  have HN := Lib.hid hn
  clear hn
  go_cut [5] (fun s5 wx => s5 = .bool (decide (m.held.asked N = 0)) ∧ ∃ q, wx = w1.drewN q)
  case first =>
    rcases HCASE.out with hcase | ⟨ha, h1, h2, h3⟩
    · have hne : decide (m.held.asked N = 0) = false := by
        rw [decide_eq_false_iff_not, asked_mem HG.out.ok]
        intro hm
        rcases hcase with h0 | ⟨_, h0⟩ | ⟨_, _, h0⟩
        · have := mem_low HG.out.ok hm; omega
        · have := mem_low HG.out.ok hm; have := HN.out; omega
        · rcases HG.out.wk N with ⟨_, h⟩ | ⟨h, _⟩
          · omega
          · rw [h] at hm; cases hm
      have HNE := Lib.hid hne
      clear hne
      rcases hcase with h0 | ⟨h1, h2⟩ | ⟨h1, h2, h3⟩
      · have d1 : decide ((0 : Int) < (N : Int)) = false := by simp; omega
        have h0' : ¬ 0 < N := by omega
        clear h0
        go_quiet (fail)
        go_wp2_with fail
        go_meet
        exact ⟨by rw [HNE.out], _, rfl⟩
      · have d1 : decide ((0 : Int) < (N : Int)) = true := by simp; omega
        have d2 : decide ((N : Int) < (n : Int)) = false := by simp; omega
        have d2n : decide (N < n) = false := by simp; omega
        go_quiet (fail)
        go_wp2_with fail
        go_meet
        exact ⟨by rw [HNE.out], _, rfl⟩
      · have d1 : decide ((0 : Int) < (N : Int)) = true := by simp; omega
        have d2 : decide ((N : Int) < (n : Int)) = true := by simp; omega
        have kN := HKN1.out h2
        rw [h3] at kN
        clear h3
        have h2' : (N : Int) < (n : Int) := by omega
        go_quiet (fail)
        go_wp2_with fail
        go_meet
        exact ⟨by rw [HNE.out], _, rfl⟩
    · have HNE : Hid (decide (m.held.asked N = 0) = true) := Lib.hid (decide_eq_true ha)
      have d1 : decide ((0 : Int) < (N : Int)) = true := by simp; omega
      have d2 : decide ((N : Int) < (n : Int)) = true := by simp; omega
      have kN := HKN1.out h2
      generalize willK is m N = K at *
      have d3 : decide ((0 : Int) ≤ K) = true := by simp; omega
      have h2' : (N : Int) < (n : Int) := by omega
      clear ha
      go_quiet (fail)
      go_wp2_with fail
      go_meet
      exact ⟨by rw [HNE.out], _, rfl⟩
  case rest =>
  obtain ⟨rfl, qn, hwq⟩ := hcut
  have kq0 : Kept No w1 wc := by rw [hwq]; exact (Kept.refl No w1).drewN qn
  replace HL1 := Lib.hid (kq0.heap HL1.out (fun h => h))
  replace HX := Lib.hid (kq0.heap HX.out (fun h => h))
  replace HB1 := Lib.hid (HB1.out.no kq0)
  replace HS1 := Lib.hid (HS1.out.no kq0)
  replace K1 := Lib.hid (K1.out.trans kq0)
  clear hwq kq0 HKN1 x0 x2 l4 hXs
  clear w1
  have x0 : wc.cell? ⟨X, 0, none⟩ = some (.int .i64 3) := (cell_of_row wc X 0 _ _ _ HX.out).trans rfl
  have l3 : wc.cell? ⟨L, 3, none⟩ = some (.pointer (some ⟨b, 0, none⟩)) := (cell_of_row wc L 3 _ _ _ HL1.out).trans rfl
  have x1 : wc.cell? ⟨X, 1, none⟩ = some (.int .i64 si) := (cell_of_row wc X 1 _ _ _ HX.out).trans rfl
  have x4 : wc.cell? ⟨X, 4, none⟩ = some (.int .u8 (sp.toNat : Int)) := (cell_of_row wc X 4 _ _ _ HX.out).trans rfl
  have x5 : wc.cell? ⟨X, 5, none⟩ = some (.string ⟨⟨sx⟩⟩) := (cell_of_row wc X 5 _ _ _ HX.out).trans rfl
  go_wp2_with fail
  have kq : Kept No wc wc.drew := (Kept.refl No wc).drew
  have KQ := Lib.hid kq
  clear kq
  rcases HWW.out with ⟨h0, h1⟩ | ⟨h0, hk0, hkn, hk1, hc, hg', hw', hn'⟩
  · have hz : (ans == 0) = false := by rw [beq_eq_false_iff_ne]; exact h0
    clear h0
    subst h1
    go_region_held_law (fun w' => w'.cell? ⟨L, 3, none⟩ = some (.pointer (some ⟨b, 0, none⟩)) ∧ w'.cell? ⟨X, 4, none⟩ = some (.int .u8 (sp.toNat : Int)) ∧ w'.cell? ⟨X, 5, none⟩ = some (.string ⟨⟨sx⟩⟩)) (first | (with_reducible exact ⟨l3, x4, x5⟩) | (with_reducible exact ⟨l3', x4', x5'⟩) | exact ⟨l3, x4, x5⟩) (first | (go_at_call 11; refine (HWR.out _ (K1.out.trans KQ.out)).mono ?_; rintro e w2 ⟨rfl, k2, hb2⟩; have K2 := Lib.hid k2; have HB2 := Lib.hid hb2; have hBq := HB1.out.no KQ.out; have hLq := KQ.out.heap HL1.out (fun h => h); have hXq := KQ.out.heap HX.out (fun h => h); have hL2 := k2.heap hLq (hBq.far hLq (by decide) (by decide)); have hX2 := k2.heap hXq (hBq.far hXq (by decide) (by decide)); have hS2 := (HS1.out.no KQ.out).bt hBq k2; clear hLq hXq hBq k2 hb2;  have HL2 := Lib.hid hL2; have l3' : w2.cell? ⟨L, 3, none⟩ = some (.pointer (some ⟨b, 0, none⟩)) := (cell_of_row w2 L 3 _ _ _ hL2).trans rfl; have x4' : w2.cell? ⟨X, 4, none⟩ = some (.int .u8 (sp.toNat : Int)) := (cell_of_row w2 X 4 _ _ _ hX2).trans rfl; have x5' : w2.cell? ⟨X, 5, none⟩ = some (.string ⟨⟨sx⟩⟩) := (cell_of_row w2 X 5 _ _ _ hX2).trans rfl; have HS2 := Lib.hid hS2; clear hL2 hX2 hS2))
    go_wp2_with fail
    go_end0
    have hnn := HN.out
    subst hnn
    have hL2 := HL2.out
    have hfin := And.intro hL2 (And.intro HB2.out (And.intro HG.out (And.intro HS2.out (rfl : m1.held.n = m1.held.n))))
    have kall := ((K1.out.trans KQ.out).of_no (ChF L b v hm (.slice (some ⟨gk, 0, none⟩) m1.held.n ck) (.slice (some ⟨gb, 0, none⟩) m1.held.n cb))).trans (K2.out.mono fun _ _ e => .inr (.inl e))
    first | exact ⟨m1, rfl, kall, hfin⟩ | exact ⟨rfl, kall, m1, hfin⟩
  · have hz : (ans == 0) = true := by rw [beq_iff_eq]; exact h0
    subst h0
    have hNn : kk < n := by have := HN.out; omega
    have hkw : IntKind.i64.wrap (kk : Int) = (kk : Int) := by have := HN.out; rw [IntKind.wrap_i64]; omega
    have hcl : decide ((sx.length : Int) ≤ 996) = true := by simp; omega
    have hki : (kk : Int) < (n : Int) := by omega
    have e1 : decide ((0 : Int) < (kk : Int)) = true := by simp; omega
    have e2 : decide ((kk : Int) < (n : Int)) = true := by simp; omega
    have e3 : decide ((willM is m).kind.getD kk (-1) < 0) = true := by
      have : (willM is m).kind.getD kk (-1) = willK is m kk := by unfold willM; simp only; exact range_getD _ _ _ _ (by have := HN.out; omega)
      rw [this, hk1]; rfl
    have HKV : Hid ((willM is m).kind.getD kk (-1) = -1) := Lib.hid (by
      have : (willM is m).kind.getD kk (-1) = willK is m kk := by unfold willM; simp only; exact range_getD _ _ _ _ (by have := HN.out; omega)
      rw [this, hk1])
    have HGW := Lib.hid (And.intro hg' hw')
    clear hg' hw' hc hk1 e3
    go_region_held_law (fun w' => w'.cell? ⟨L, 3, none⟩ = some (.pointer (some ⟨b, 0, none⟩)) ∧ w'.cell? ⟨X, 4, none⟩ = some (.int .u8 (sp.toNat : Int)) ∧ w'.cell? ⟨X, 5, none⟩ = some (.string ⟨⟨sx⟩⟩)) (first | (with_reducible exact ⟨l3, x4, x5⟩) | (with_reducible exact ⟨l3', x4', x5'⟩) | exact ⟨l3, x4, x5⟩) (first | (go_at_call 11; refine (HWR.out _ (K1.out.trans KQ.out)).mono ?_; rintro e w2 ⟨rfl, k2, hb2⟩; have K2 := Lib.hid k2; have HB2 := Lib.hid hb2; have hBq := HB1.out.no KQ.out; have hLq := KQ.out.heap HL1.out (fun h => h); have hXq := KQ.out.heap HX.out (fun h => h); have hL2 := k2.heap hLq (hBq.far hLq (by decide) (by decide)); have hX2 := k2.heap hXq (hBq.far hXq (by decide) (by decide)); have hS2 := (HS1.out.no KQ.out).bt hBq k2; clear hLq hXq hBq k2 hb2;  have l3' : w2.cell? ⟨L, 3, none⟩ = some (.pointer (some ⟨b, 0, none⟩)) := (cell_of_row w2 L 3 _ _ _ hL2).trans rfl; have l4' : w2.cell? ⟨L, 4, none⟩ = some (.slice (some ⟨gk, 0, none⟩) n ck) := (cell_of_row w2 L 4 _ _ _ hL2).trans rfl; have l5' : w2.cell? ⟨L, 5, none⟩ = some (.slice (some ⟨gb, 0, none⟩) n cb) := (cell_of_row w2 L 5 _ _ _ hL2).trans rfl; have l26' : w2.cell? ⟨L, 26, none⟩ = some (.bool true) := (cell_of_row w2 L 26 _ _ _ hL2).trans rfl; have f26' := frozen_of_row w2 L 26 _ _ hL2; have x4' : w2.cell? ⟨X, 4, none⟩ = some (.int .u8 (sp.toNat : Int)) := (cell_of_row w2 X 4 _ _ _ hX2).trans rfl; have x5' : w2.cell? ⟨X, 5, none⟩ = some (.string ⟨⟨sx⟩⟩) := (cell_of_row w2 X 5 _ _ _ hX2).trans rfl; have nXL : ¬ X = L := cells_ne hX2 hL2 (by decide); have nLX : ¬ L = X := fun e => nXL e.symm; obtain ⟨csk, hck⟩ := row_cells hS2.kind (g := gk) rfl; obtain ⟨csb, hcb⟩ := row_cells hS2.body (g := gb) rfl; have nLk : ¬ L = gk := cells_ne hL2 hck (by decide); have nLb : ¬ L = gb := cells_ne hL2 hcb (by decide); have nkL : ¬ gk = L := fun e => nLk e.symm; have nbL : ¬ gb = L := fun e => nLb e.symm; have fk' := frozen_of_row w2 gk kk _ _ hck; have fb' := frozen_of_row w2 gb kk _ _ hcb; have ck' := seen_ckind hS2 HWL1.out hNn; have cb' := seen_cbody hS2 HWL2.out hNn; have HL2 := Lib.hid hL2; have HX2 := Lib.hid hX2; have HS2 := Lib.hid hS2; clear hL2 hX2 hS2 hck hcb; rw [HKV.out] at ck'))
    go_wp2_with fail
    clear l3'
    obtain ⟨k3, hL3, hX3, hS3⟩ := ch1 HL2.out HX2.out rfl HS2.out
    clear l4' l5' l26' f26' x4' x5' nXL nLX nLk nLb nkL nbL fk' fb' ck' cb'
    generalize w2.setCell ⟨L, 26, none⟩ (.bool true) = w3 at *
    have l4 : w3.cell? ⟨L, 4, none⟩ = some (.slice (some ⟨gk, 0, none⟩) n ck) := (cell_of_row w3 L 4 _ _ _ hL3).trans rfl
    have l26 : w3.cell? ⟨L, 26, none⟩ = some (.bool true) := (cell_of_row w3 L 26 _ _ _ hL3).trans rfl
    have x4 : w3.cell? ⟨X, 4, none⟩ = some (.int .u8 (sp.toNat : Int)) := (cell_of_row w3 X 4 _ _ _ hX3).trans rfl
    obtain ⟨csk, hck⟩ := row_cells hS3.kind (g := gk) rfl
    have fk := frozen_of_row w3 gk kk _ _ hck
    have ckk := seen_ckind hS3 HWL1.out hNn
    have K3 := Lib.hid k3
    have HL3 := Lib.hid hL3
    have HX3 := Lib.hid hX3
    have HS3 := Lib.hid hS3
    clear k3 hL3 hX3 hS3 hck
    go_wp2_with fail
    go_still_tail 10, (by kernel_rfl)
    repeat still_step
    change wpList _ _ _ _ _ w3.drew
    go_wp2_with fail
    obtain ⟨k4, hL4, hX4, hS4⟩ := ch2 HL3.out HX3.out HS3.out HWL1.out kk ((sp.toNat : Int)) (w3.setCell ⟨gk, kk, none⟩ (.int .i64 ((sp.toNat : Int)))).drew (.inl rfl)
    clear l4 l26 x4 fk ckk
    generalize (w3.setCell ⟨gk, kk, none⟩ (.int .i64 ((sp.toNat : Int)))).drew = w4 at *
    have l5 : w4.cell? ⟨L, 5, none⟩ = some (.slice (some ⟨gb, 0, none⟩) n cb) := (cell_of_row w4 L 5 _ _ _ hL4).trans rfl
    have x5 : w4.cell? ⟨X, 5, none⟩ = some (.string ⟨⟨sx⟩⟩) := (cell_of_row w4 X 5 _ _ _ hX4).trans rfl
    obtain ⟨csb, hcb⟩ := row_cells hS4.body (g := gb) rfl
    have fb := frozen_of_row w4 gb kk _ _ hcb
    have cbb := seen_cbody hS4 HWL2.out hNn
    have K4 := Lib.hid k4
    have HL4 := Lib.hid hL4
    have HX4 := Lib.hid hX4
    have HS4 := Lib.hid hS4
    clear k4 hL4 hX4 hS4 hcb
    go_still_tail 9, (by kernel_rfl)
    repeat still_step
    change wpList _ _ _ _ _ w4.drew
    go_wp2_with fail
    go_end0
    obtain ⟨k5, hL5, hX5, hS5⟩ := ch3 HL4.out HX4.out HS4.out HWL2.out kk sx (w4.setCell ⟨gb, kk, none⟩ (.string ⟨⟨sx⟩⟩)).drew (.inl rfl)
    obtain ⟨hg', hw'⟩ := HGW.out
    have hnn := HN.out
    subst hnn
    have hroot : m1.held.root = m.held.root := congrArg SeenM.root hw'
    have k345 : Kept (fun q => q = L ∨ q = gk ∨ q = gb) w2 _ := ((K3.out.mono fun _ _ e => .inl e).trans (K4.out.mono fun _ _ e => .inr (.inl e))).trans (k5.mono fun _ _ e => .inr (.inr e))
    have hbt := ch_bt HB2.out HL2.out HS2.out k345
    have kall := (((K1.out.trans KQ.out).of_no (ChF L b v hm (.slice (some ⟨gk, 0, none⟩) m.held.n ck) (.slice (some ⟨gb, 0, none⟩) m.held.n cb))).trans (K2.out.mono fun _ _ e => .inr (.inl e))).trans (k345.mono fun k _ e => by
      rcases e with e | e | e
      · exact .inl e
      · subst e; exact .inr (.inr (.inl rfl))
      · subst e; exact .inr (.inr (.inr rfl)))
    rw [← hroot] at hL5
    have hfin := And.intro hL5 (And.intro hbt (And.intro hg' (And.intro (show SeenAt _ base _ _ (willM is m1) by rw [hw']; exact hS5) hn')))
    first | exact ⟨m1, rfl, kall, hfin⟩ | exact ⟨rfl, kall, m1, hfin⟩
set_option maxHeartbeats 8000000 in
theorem lrelease_ok (L d j : Nat) (sv wk wb ik ib : Value) (q : Root8) (ser : Nat) (br : Bool) (b s u : Nat) (v : Value) (hm : Nat) (m : BtM) (is : SeenM) (base : Nat) (si : Int) (N : Nat) (so : Bool) (sp : UInt8) (sx : List UInt8) (kv : Value) (st sc : Int) (w : World)
    (hL : w.heap[L]? = some (.cells (lifeC d j sv (.pointer (some ⟨b, 0, none⟩)) wk wb m.held.root ik ib q ser br true) 57 (0, 0))) (hB : BtAt w b s u v hm m) (hG : Grown is m) (hS : SeenAt w base wk wb (willM is m))
    (hsi : I64 si) (hsx : sx.length ≤ 9223372036854775807) (hN : N < 1048576) :
    Calls Tryz.prog 62 #[.pointer (some ⟨L, 0, none⟩), .agg #[.int .i64 4, .int .i64 si, .int .i64 (N : Int), .bool so, .int .u8 (sp.toNat : Int), .string ⟨⟨sx⟩⟩, kv, .int .i64 st, .int .i64 sc]] w fun e w' => ∃ m', e = .returned (.tuple #[]) ∧ Kept (ChF L b v hm wk wb) w w' ∧
      w'.heap[L]? = some (.cells (lifeC d j sv (.pointer (some ⟨b, 0, none⟩)) wk wb m'.held.root ik ib q ser br true) 57 (0, 0)) ∧ BtAt w' b s u v hm m' ∧ Grown is m' ∧ SeenAt w' base wk wb (willM is m') ∧ m'.held.n = m.held.n := by
  have hcase : (N = 0 ∨ (0 < N ∧ m.held.n ≤ N) ∨ (0 < N ∧ N < m.held.n ∧ willK is m N = -1)) ∨ (m.held.asked N = 0 ∧ 0 < N ∧ N < m.held.n ∧ 0 ≤ willK is m N) := by
    rcases hG.wk N with ⟨hm, h0⟩ | ⟨hm, h0⟩
    · have := mem_low hG.ok hm
      exact .inr ⟨(asked_mem hG.ok N).2 hm, this.1, this.2, h0⟩
    · refine .inl ?_
      by_cases e : N = 0
      · exact .inl e
      · by_cases e2 : m.held.n ≤ N
        · exact .inr (.inl ⟨by omega, e2⟩)
        · exact .inr (.inr ⟨by omega, by omega, h0⟩)
  have hn2 := hG.ok.some_
  have hn4 := hG.ok.most
  obtain ⟨wl1, wl2⟩ := willM_len is m
  obtain ⟨gk, ck, hwk, hkc⟩ := own_at1 hS.kind (by omega)
  obtain ⟨gb, cb, hwb, hbc⟩ := own_at1 hS.body (by omega)
  rw [wl1] at hwk
  rw [wl2] at hwb
  subst hwk hwb
  have hkN : N < m.held.n → w.cell? ⟨gk, N, none⟩ = some (.int .i64 (willK is m N)) := fun h => hkc N _ (by rw [kindC_at _ _ (by omega)]; unfold willM; simp only; rw [range_getD _ _ _ _ h])
  have hwu : IntKind.u32.wrap (N : Int) = (N : Int) := by rw [IntKind.wrap_u32]; omega
  have hwp : IntKind.i64.wrap (sp.toNat : Int) = (sp.toNat : Int) := by have := sp.toNat_lt; rw [IntKind.wrap_i64]; omega
  have HKN := Lib.hid hkN
  have HWL1 := Lib.hid wl1
  have HWL2 := Lib.hid wl2
  have HCASE := Lib.hid hcase
  have HL := Lib.hid hL
  have HB := Lib.hid hB
  have HG := Lib.hid hG
  have HS := Lib.hid hS
  have HSI := Lib.hid hsi
  have hwr := fun w' (k : Kept No w w') => release_ok b s u v hm m N w' (hB.no k) (by omega)
  have hww := release_will hG N
  generalize hA : m.release N = A at *
  obtain ⟨m1, ans⟩ := A
  simp only at hww
  have HWR := Lib.hid hwr
  have HWW := Lib.hid hww
  clear hwr hww hA
  clear hkN hcase hL hB hG hS hkc hbc wl1 wl2 hsi
  go_enter Tryz.func62, Tryz.ntmps62
  go_upto_region 2 with fail
  have hX := heap_alloc_new w (.cells #[.int .i64 4, .int .i64 si, .int .i64 (N : Int), .bool so, .int .u8 (sp.toNat : Int), .string ⟨⟨sx⟩⟩, kv, .int .i64 st, .int .i64 sc] 62)
  have k1 : Kept No w (w.alloc (.cells #[.int .i64 4, .int .i64 si, .int .i64 (N : Int), .bool so, .int .u8 (sp.toNat : Int), .string ⟨⟨sx⟩⟩, kv, .int .i64 st, .int .i64 sc] 62)) := (Kept.refl _ _).alloc _
  have hL1 := k1.heap HL.out (fun h => h)
  have HB1 := Lib.hid (HB.out.no k1)
  have HS1 := Lib.hid (HS.out.no k1)
  have hkN : N < m.held.n → (w.alloc (.cells #[.int .i64 4, .int .i64 si, .int .i64 (N : Int), .bool so, .int .u8 (sp.toNat : Int), .string ⟨⟨sx⟩⟩, kv, .int .i64 st, .int .i64 sc] 62)).cell? ⟨gk, N, none⟩ = some (.int .i64 (willK is m N)) := fun h => (k1.cell (World.block_lt_of_cell? w _ (HKN.out h)) (fun e => e)).trans (HKN.out h)
  have K1 := Lib.hid k1
  have hXs : Hid (w.heap.size = w.heap.size) := Lib.hid rfl
  generalize (w.alloc (.cells #[.int .i64 4, .int .i64 si, .int .i64 (N : Int), .bool so, .int .u8 (sp.toNat : Int), .string ⟨⟨sx⟩⟩, kv, .int .i64 st, .int .i64 sc] 62)) = w1 at *
  generalize w.heap.size = X at *
  have x0 : w1.cell? ⟨X, 0, none⟩ = some (.int .i64 4) := (cell_of_row w1 X 0 _ _ _ hX).trans rfl
  have x2 : w1.cell? ⟨X, 2, none⟩ = some (.int .i64 (N : Int)) := (cell_of_row w1 X 2 _ _ _ hX).trans rfl
  have l4 : w1.cell? ⟨L, 4, none⟩ = some (.slice (some ⟨gk, 0, none⟩) m.held.n ck) := (cell_of_row w1 L 4 _ _ _ hL1).trans rfl
  have HX := Lib.hid hX
  have HL1 := Lib.hid hL1
  have HKN1 := Lib.hid hkN
  clear hX hL1 k1 hkN
  generalize hn : m.held.n = n at *
  have HN := Lib.hid hn
  clear hn
  go_cut [5] (fun s5 wx => s5 = .bool (decide (m.held.asked N = 0)) ∧ ∃ q, wx = w1.drewN q)
  case first =>
    rcases HCASE.out with hcase | ⟨ha, h1, h2, h3⟩
    · have hne : decide (m.held.asked N = 0) = false := by
        rw [decide_eq_false_iff_not, asked_mem HG.out.ok]
        intro hm
        rcases hcase with h0 | ⟨_, h0⟩ | ⟨_, _, h0⟩
        · have := mem_low HG.out.ok hm; omega
        · have := mem_low HG.out.ok hm; have := HN.out; omega
        · rcases HG.out.wk N with ⟨_, h⟩ | ⟨h, _⟩
          · omega
          · rw [h] at hm; cases hm
      have HNE := Lib.hid hne
      clear hne
      rcases hcase with h0 | ⟨h1, h2⟩ | ⟨h1, h2, h3⟩
      · have d1 : decide ((0 : Int) < (N : Int)) = false := by simp; omega
        have h0' : ¬ 0 < N := by omega
        clear h0
        go_quiet (fail)
        go_wp2_with fail
        go_meet
        exact ⟨by rw [HNE.out], _, rfl⟩
      · have d1 : decide ((0 : Int) < (N : Int)) = true := by simp; omega
        have d2 : decide ((N : Int) < (n : Int)) = false := by simp; omega
        have d2n : decide (N < n) = false := by simp; omega
        go_quiet (fail)
        go_wp2_with fail
        go_meet
        exact ⟨by rw [HNE.out], _, rfl⟩
      · have d1 : decide ((0 : Int) < (N : Int)) = true := by simp; omega
        have d2 : decide ((N : Int) < (n : Int)) = true := by simp; omega
        have kN := HKN1.out h2
        rw [h3] at kN
        clear h3
        have h2' : (N : Int) < (n : Int) := by omega
        go_quiet (fail)
        go_wp2_with fail
        go_meet
        exact ⟨by rw [HNE.out], _, rfl⟩
    · have HNE : Hid (decide (m.held.asked N = 0) = true) := Lib.hid (decide_eq_true ha)
      have d1 : decide ((0 : Int) < (N : Int)) = true := by simp; omega
      have d2 : decide ((N : Int) < (n : Int)) = true := by simp; omega
      have kN := HKN1.out h2
      generalize willK is m N = K at *
      have d3 : decide ((0 : Int) ≤ K) = true := by simp; omega
      have h2' : (N : Int) < (n : Int) := by omega
      clear ha
      go_quiet (fail)
      go_wp2_with fail
      go_meet
      exact ⟨by rw [HNE.out], _, rfl⟩
  case rest =>
  obtain ⟨rfl, qn, hwq⟩ := hcut
  have kq0 : Kept No w1 wc := by rw [hwq]; exact (Kept.refl No w1).drewN qn
  replace HL1 := Lib.hid (kq0.heap HL1.out (fun h => h))
  replace HX := Lib.hid (kq0.heap HX.out (fun h => h))
  replace HB1 := Lib.hid (HB1.out.no kq0)
  replace HS1 := Lib.hid (HS1.out.no kq0)
  replace K1 := Lib.hid (K1.out.trans kq0)
  clear hwq kq0 HKN1 x0 x2 l4 hXs
  clear w1
  have x0 : wc.cell? ⟨X, 0, none⟩ = some (.int .i64 4) := (cell_of_row wc X 0 _ _ _ HX.out).trans rfl
  have l3 : wc.cell? ⟨L, 3, none⟩ = some (.pointer (some ⟨b, 0, none⟩)) := (cell_of_row wc L 3 _ _ _ HL1.out).trans rfl
  have x1 : wc.cell? ⟨X, 1, none⟩ = some (.int .i64 si) := (cell_of_row wc X 1 _ _ _ HX.out).trans rfl
  have x4 : wc.cell? ⟨X, 4, none⟩ = some (.int .u8 (sp.toNat : Int)) := (cell_of_row wc X 4 _ _ _ HX.out).trans rfl
  have x5 : wc.cell? ⟨X, 5, none⟩ = some (.string ⟨⟨sx⟩⟩) := (cell_of_row wc X 5 _ _ _ HX.out).trans rfl
  go_wp2_with fail
  have kq : Kept No wc wc := Kept.refl No wc
  have KQ := Lib.hid kq
  clear kq
  rcases HWW.out with ⟨h0, h1⟩ | ⟨h0, ha, hr, hg', hw', hn'⟩
  · have hz : (ans == 0) = false := by rw [beq_eq_false_iff_ne]; exact h0
    clear h0
    subst h1
    go_wp2_with (go_at_call 22; refine (HWR.out _ (K1.out.trans KQ.out)).mono ?_; rintro e w2 ⟨rfl, k2, hb2⟩; have K2 := Lib.hid k2; have HB2 := Lib.hid hb2; have hBq := HB1.out.no KQ.out; have hLq := KQ.out.heap HL1.out (fun h => h); have hXq := KQ.out.heap HX.out (fun h => h); have hL2 := k2.heap hLq (hBq.far hLq (by decide) (by decide)); have hX2 := k2.heap hXq (hBq.far hXq (by decide) (by decide)); have hS2 := (HS1.out.no KQ.out).bt hBq k2; clear hLq hXq hBq k2 hb2;  have HL2 := Lib.hid hL2; have HS2 := Lib.hid hS2; clear hL2 hX2 hS2)
    go_end0
    have hnn := HN.out
    subst hnn
    have hL2 := HL2.out
    have hfin := And.intro hL2 (And.intro HB2.out (And.intro HG.out (And.intro HS2.out (rfl : m1.held.n = m1.held.n))))
    have kall := ((K1.out.trans KQ.out).of_no (ChF L b v hm (.slice (some ⟨gk, 0, none⟩) m1.held.n ck) (.slice (some ⟨gb, 0, none⟩) m1.held.n cb))).trans (K2.out.mono fun _ _ e => .inr (.inl e))
    first | exact ⟨m1, rfl, kall, hfin⟩ | exact ⟨rfl, kall, m1, hfin⟩
  · have hz : (ans == 0) = true := by rw [beq_iff_eq]; exact h0
    subst h0
    have hlo := asked_ok0 ha
    have hNn : N < n := by have := HN.out; omega
    have hda : decide (m.held.asked N = 0) = true := decide_eq_true ha
    rw [hda]
    have hNi : (N : Int) < (n : Int) := by omega
    have HGW := Lib.hid (And.intro hg' hw')
    have HR := Lib.hid hr
    clear ha hlo hda hg' hw' hr
    go_wp2_with (go_at_call 22; refine (HWR.out _ (K1.out.trans KQ.out)).mono ?_; rintro e w2 ⟨rfl, k2, hb2⟩; have K2 := Lib.hid k2; have HB2 := Lib.hid hb2; have hBq := HB1.out.no KQ.out; have hLq := KQ.out.heap HL1.out (fun h => h); have hXq := KQ.out.heap HX.out (fun h => h); have hL2 := k2.heap hLq (hBq.far hLq (by decide) (by decide)); have hX2 := k2.heap hXq (hBq.far hXq (by decide) (by decide)); have hS2 := (HS1.out.no KQ.out).bt hBq k2; clear hLq hXq hBq k2 hb2;  have l4' : w2.cell? ⟨L, 4, none⟩ = some (.slice (some ⟨gk, 0, none⟩) n ck) := (cell_of_row w2 L 4 _ _ _ hL2).trans rfl; have l5' : w2.cell? ⟨L, 5, none⟩ = some (.slice (some ⟨gb, 0, none⟩) n cb) := (cell_of_row w2 L 5 _ _ _ hL2).trans rfl; have l26' : w2.cell? ⟨L, 26, none⟩ = some (.bool true) := (cell_of_row w2 L 26 _ _ _ hL2).trans rfl; have f26' := frozen_of_row w2 L 26 _ _ hL2; have x4' : w2.cell? ⟨X, 4, none⟩ = some (.int .u8 (sp.toNat : Int)) := (cell_of_row w2 X 4 _ _ _ hX2).trans rfl; have x5' : w2.cell? ⟨X, 5, none⟩ = some (.string ⟨⟨sx⟩⟩) := (cell_of_row w2 X 5 _ _ _ hX2).trans rfl; have nXL : ¬ X = L := cells_ne hX2 hL2 (by decide); have nLX : ¬ L = X := fun e => nXL e.symm; obtain ⟨csk, hck⟩ := row_cells hS2.kind (g := gk) rfl; obtain ⟨csb, hcb⟩ := row_cells hS2.body (g := gb) rfl; have nLk : ¬ L = gk := cells_ne hL2 hck (by decide); have nLb : ¬ L = gb := cells_ne hL2 hcb (by decide); have nkL : ¬ gk = L := fun e => nLk e.symm; have nbL : ¬ gb = L := fun e => nLb e.symm; have fk' := frozen_of_row w2 gk N _ _ hck; have fb' := frozen_of_row w2 gb N _ _ hcb; have ck' := seen_ckind hS2 HWL1.out hNn; have cb' := seen_cbody hS2 HWL2.out hNn; have HL2 := Lib.hid hL2; have HX2 := Lib.hid hX2; have HS2 := Lib.hid hS2; clear hL2 hX2 hS2 hck hcb)
    obtain ⟨k3, hL3, hX3, hS3⟩ := ch1 HL2.out HX2.out rfl HS2.out
    clear l4' l5' l26' f26' x4' x5' nXL nLX nLk nLb nkL nbL fk' fb' ck' cb'
    generalize w2.setCell ⟨L, 26, none⟩ (.bool true) = w3 at *
    have K3 := Lib.hid k3
    have HL3 := Lib.hid hL3
    have HX3 := Lib.hid hX3
    have HS3 := Lib.hid hS3
    clear k3 hL3 hX3 hS3
    go_loopw [8] (fun o wr => ∃ k : Nat, k ≤ 8 ∧ o = .int .i64 (k : Int) ∧ Kept (fun y => y = L) w3 wr ∧ wr.heap[L]? = some (.cells (lifeC d j sv (.pointer (some ⟨b, 0, none⟩)) (.slice (some ⟨gk, 0, none⟩) n ck) (.slice (some ⟨gb, 0, none⟩) n cb) m.held.root ik ib q ser br true) 57 (0, 0))) (fun o _ => 8 - (intOf o).toNat)
    case atStart => exact ⟨0, by omega, rfl, Kept.refl _ _, HL3.out⟩
    case round =>
      obtain ⟨k, hk, rfl, hkw, hLw⟩ := hrel
      have f26 := frozen_of_row wr L 26 _ _ hLw
      have l26 : wr.cell? ⟨L, 26, none⟩ = some (.bool true) := (cell_of_row wr L 26 _ _ _ hLw).trans rfl
      have HKW := Lib.hid hkw
      have HLW := Lib.hid hLw
      by_cases hlt : k < 8
      · have hrt : wr.cell? ⟨L, 6 + k, none⟩ = some (.int .u32 (m.held.root.get k : Int)) := by
          rw [cell_of_row wr L (6 + k) _ _ _ hLw]
          exact (show _ = (rootC m.held.root)[k]? from by match k, hlt with | 0, _ | 1, _ | 2, _ | 3, _ | 4, _ | 5, _ | 6, _ | 7, _ => rfl).trans (root_cell _ k hlt)
        have hxn := HR.out k hlt
        generalize m.held.root.get k = x at hrt hxn
        have hnb : ((x : Int) == (N : Int)) = false := by rw [beq_eq_false_iff_ne]; omega
        have hni : ¬ (x : Int) = (N : Int) := by omega
        clear hkw hLw
        go_wp2_with fail
        have hz := heap_setCell_same wr L 26 _ _ (.bool true) HLW.out
        have hx1 : ((x : Int) != (N : Int)) = true := by simp only [bne, hnb]; rfl
        rw [hx1]
        exact ⟨⟨k + 1, by omega, by first | rfl | go_num, HKW.out.trans ((Kept.refl (fun y => y = L) wr).setCell _ _ (fun _ => rfl)), hz⟩, by simp [intOf]; omega⟩
      · obtain rfl : k = 8 := by omega
        have hXr : wr.heap[X]? = _ := hkw.heap HX3.out (cells_ne HX3.out HL3.out (by decide))
        have hSr := HS3.out.kept hkw (fun g hg e => by subst e; obtain ⟨c, hc⟩ := row_cells HS3.out.kind hg; exact cells_ne HL3.out hc (by decide) rfl) (fun g hg e => by subst e; obtain ⟨c, hc⟩ := row_cells HS3.out.body hg; exact cells_ne HL3.out hc (by decide) rfl)
        obtain ⟨csk, hck⟩ := row_cells hSr.kind (g := gk) rfl
        obtain ⟨csb, hcb⟩ := row_cells hSr.body (g := gb) rfl
        have l4 : wr.cell? ⟨L, 4, none⟩ = some (.slice (some ⟨gk, 0, none⟩) n ck) := (cell_of_row wr L 4 _ _ _ hLw).trans rfl
        have l5 : wr.cell? ⟨L, 5, none⟩ = some (.slice (some ⟨gb, 0, none⟩) n cb) := (cell_of_row wr L 5 _ _ _ hLw).trans rfl
        have nLk : ¬ L = gk := cells_ne hLw hck (by decide)
        have nLb : ¬ L = gb := cells_ne hLw hcb (by decide)
        have nkb : ¬ gk = gb := cells_ne hck hcb (by decide)
        have nkL : ¬ gk = L := fun e => nLk e.symm
        have nbL : ¬ gb = L := fun e => nLb e.symm
        have nbk : ¬ gb = gk := fun e => nkb e.symm
        have fk := frozen_of_row wr gk N _ _ hck
        have fb := frozen_of_row wr gb N _ _ hcb
        have ckk := seen_ckind hSr HWL1.out hNn
        have cbb := seen_cbody hSr HWL2.out hNn
        have HXR := Lib.hid hXr
        have HSR := Lib.hid hSr
        clear hkw hLw hXr hSr hck hcb
        go_wp2_with fail
        go_end0
        obtain ⟨k4, hL4, hX4, hS4⟩ := ch2 HLW.out HXR.out HSR.out HWL1.out N (-1) (wr.setCell ⟨gk, N, none⟩ (.int .i64 (-1))) (.inr rfl)
        have K4 := Lib.hid k4
        have K3a := K3
        clear K3
        have K3 := Lib.hid (K3a.out.trans HKW.out)
        obtain ⟨k5, hL5, hX5, hS5⟩ := ch3 hL4 hX4 hS4 HWL2.out N [] ((wr.setCell ⟨gk, N, none⟩ (.int .i64 (-1))).setCell ⟨gb, N, none⟩ (.string ⟨⟨[]⟩⟩)) (.inr rfl)
        obtain ⟨hg', hw'⟩ := HGW.out
        have hnn := HN.out
        subst hnn
        have hroot : m1.held.root = m.held.root := congrArg SeenM.root hw'
        have k345 : Kept (fun q => q = L ∨ q = gk ∨ q = gb) w2 _ := ((K3.out.mono fun _ _ e => .inl e).trans (K4.out.mono fun _ _ e => .inr (.inl e))).trans (k5.mono fun _ _ e => .inr (.inr e))
        have hbt := ch_bt HB2.out HL2.out HS2.out k345
        have kall := (((K1.out.trans KQ.out).of_no (ChF L b v hm (.slice (some ⟨gk, 0, none⟩) m.held.n ck) (.slice (some ⟨gb, 0, none⟩) m.held.n cb))).trans (K2.out.mono fun _ _ e => .inr (.inl e))).trans (k345.mono fun k _ e => by
          rcases e with e | e | e
          · exact .inl e
          · subst e; exact .inr (.inr (.inl rfl))
          · subst e; exact .inr (.inr (.inr rfl)))
        rw [← hroot] at hL5
        have hfin := And.intro hL5 (And.intro hbt (And.intro hg' (And.intro (show SeenAt _ base _ _ (willM is m1) by rw [hw']; exact hS5) hn')))
        first | exact ⟨m1, rfl, kall, hfin⟩ | exact ⟨rfl, kall, m1, hfin⟩
set_option maxHeartbeats 8000000 in
theorem lsetRoot_ok (L d j : Nat) (sv wk wb ik ib : Value) (q : Root8) (ser : Nat) (br : Bool) (b s u : Nat) (v : Value) (hm : Nat) (m : BtM) (is : SeenM) (base : Nat) (si : Int) (N : Nat) (so : Bool) (sp : UInt8) (sx : List UInt8) (kv : Value) (st sc : Int) (w : World)
    (hL : w.heap[L]? = some (.cells (lifeC d j sv (.pointer (some ⟨b, 0, none⟩)) wk wb m.held.root ik ib q ser br true) 57 (0, 0))) (hB : BtAt w b s u v hm m) (hG : Grown is m) (hS : SeenAt w base wk wb (willM is m))
    (hsi : I64 si) (hsx : sx.length ≤ 9223372036854775807) (hN : N < 1048576) :
    Calls Tryz.prog 62 #[.pointer (some ⟨L, 0, none⟩), .agg #[.int .i64 5, .int .i64 si, .int .i64 (N : Int), .bool so, .int .u8 (sp.toNat : Int), .string ⟨⟨sx⟩⟩, kv, .int .i64 st, .int .i64 sc]] w fun e w' => ∃ m', e = .returned (.tuple #[]) ∧ Kept (ChF L b v hm wk wb) w w' ∧
      w'.heap[L]? = some (.cells (lifeC d j sv (.pointer (some ⟨b, 0, none⟩)) wk wb m'.held.root ik ib q ser br true) 57 (0, 0)) ∧ BtAt w' b s u v hm m' ∧ Grown is m' ∧ SeenAt w' base wk wb (willM is m') ∧ m'.held.n = m.held.n := by
  have hcase : (N = 0 ∨ (0 < N ∧ m.held.n ≤ N) ∨ (0 < N ∧ N < m.held.n ∧ willK is m N = -1)) ∨ (m.held.asked N = 0 ∧ 0 < N ∧ N < m.held.n ∧ 0 ≤ willK is m N) := by
    rcases hG.wk N with ⟨hm, h0⟩ | ⟨hm, h0⟩
    · have := mem_low hG.ok hm
      exact .inr ⟨(asked_mem hG.ok N).2 hm, this.1, this.2, h0⟩
    · refine .inl ?_
      by_cases e : N = 0
      · exact .inl e
      · by_cases e2 : m.held.n ≤ N
        · exact .inr (.inl ⟨by omega, e2⟩)
        · exact .inr (.inr ⟨by omega, by omega, h0⟩)
  have hn2 := hG.ok.some_
  have hn4 := hG.ok.most
  obtain ⟨wl1, wl2⟩ := willM_len is m
  obtain ⟨gk, ck, hwk, hkc⟩ := own_at1 hS.kind (by omega)
  obtain ⟨gb, cb, hwb, hbc⟩ := own_at1 hS.body (by omega)
  rw [wl1] at hwk
  rw [wl2] at hwb
  subst hwk hwb
  have hkN : N < m.held.n → w.cell? ⟨gk, N, none⟩ = some (.int .i64 (willK is m N)) := fun h => hkc N _ (by rw [kindC_at _ _ (by omega)]; unfold willM; simp only; rw [range_getD _ _ _ _ h])
  have hwu : IntKind.u32.wrap (N : Int) = (N : Int) := by rw [IntKind.wrap_u32]; omega
  have hwp : IntKind.i64.wrap (sp.toNat : Int) = (sp.toNat : Int) := by have := sp.toNat_lt; rw [IntKind.wrap_i64]; omega
  have HKN := Lib.hid hkN
  have HWL1 := Lib.hid wl1
  have HWL2 := Lib.hid wl2
  have HCASE := Lib.hid hcase
  have HL := Lib.hid hL
  have HB := Lib.hid hB
  have HG := Lib.hid hG
  have HS := Lib.hid hS
  have HSI := Lib.hid hsi
  have hwr := fun w' (k : Kept No w w') => setRoot_ok b s u v hm m si N w' (hB.no k) (by omega) hsi.1 (by have := hsi.2; omega)
  have hww := setRoot_will hG si N
  generalize hA : m.setRoot si N = A at *
  obtain ⟨m1, ans⟩ := A
  simp only at hww
  have HWR := Lib.hid hwr
  have HWW := Lib.hid hww
  clear hwr hww hA
  clear hkN hcase hL hB hG hS hkc hbc wl1 wl2 hsi
  go_enter Tryz.func62, Tryz.ntmps62
  go_upto_region 2 with fail
  have hX := heap_alloc_new w (.cells #[.int .i64 5, .int .i64 si, .int .i64 (N : Int), .bool so, .int .u8 (sp.toNat : Int), .string ⟨⟨sx⟩⟩, kv, .int .i64 st, .int .i64 sc] 62)
  have k1 : Kept No w (w.alloc (.cells #[.int .i64 5, .int .i64 si, .int .i64 (N : Int), .bool so, .int .u8 (sp.toNat : Int), .string ⟨⟨sx⟩⟩, kv, .int .i64 st, .int .i64 sc] 62)) := (Kept.refl _ _).alloc _
  have hL1 := k1.heap HL.out (fun h => h)
  have HB1 := Lib.hid (HB.out.no k1)
  have HS1 := Lib.hid (HS.out.no k1)
  have hkN : N < m.held.n → (w.alloc (.cells #[.int .i64 5, .int .i64 si, .int .i64 (N : Int), .bool so, .int .u8 (sp.toNat : Int), .string ⟨⟨sx⟩⟩, kv, .int .i64 st, .int .i64 sc] 62)).cell? ⟨gk, N, none⟩ = some (.int .i64 (willK is m N)) := fun h => (k1.cell (World.block_lt_of_cell? w _ (HKN.out h)) (fun e => e)).trans (HKN.out h)
  have K1 := Lib.hid k1
  have hXs : Hid (w.heap.size = w.heap.size) := Lib.hid rfl
  generalize (w.alloc (.cells #[.int .i64 5, .int .i64 si, .int .i64 (N : Int), .bool so, .int .u8 (sp.toNat : Int), .string ⟨⟨sx⟩⟩, kv, .int .i64 st, .int .i64 sc] 62)) = w1 at *
  generalize w.heap.size = X at *
  have x0 : w1.cell? ⟨X, 0, none⟩ = some (.int .i64 5) := (cell_of_row w1 X 0 _ _ _ hX).trans rfl
  have x2 : w1.cell? ⟨X, 2, none⟩ = some (.int .i64 (N : Int)) := (cell_of_row w1 X 2 _ _ _ hX).trans rfl
  have l4 : w1.cell? ⟨L, 4, none⟩ = some (.slice (some ⟨gk, 0, none⟩) m.held.n ck) := (cell_of_row w1 L 4 _ _ _ hL1).trans rfl
  have HX := Lib.hid hX
  have HL1 := Lib.hid hL1
  have HKN1 := Lib.hid hkN
  clear hX hL1 k1 hkN
  generalize hn : m.held.n = n at *
  have HN := Lib.hid hn
  clear hn
  go_cut [5] (fun s5 wx => s5 = .bool (decide (m.held.asked N = 0)) ∧ ∃ q, wx = w1.drewN q)
  case first =>
    rcases HCASE.out with hcase | ⟨ha, h1, h2, h3⟩
    · have hne : decide (m.held.asked N = 0) = false := by
        rw [decide_eq_false_iff_not, asked_mem HG.out.ok]
        intro hm
        rcases hcase with h0 | ⟨_, h0⟩ | ⟨_, _, h0⟩
        · have := mem_low HG.out.ok hm; omega
        · have := mem_low HG.out.ok hm; have := HN.out; omega
        · rcases HG.out.wk N with ⟨_, h⟩ | ⟨h, _⟩
          · omega
          · rw [h] at hm; cases hm
      have HNE := Lib.hid hne
      clear hne
      rcases hcase with h0 | ⟨h1, h2⟩ | ⟨h1, h2, h3⟩
      · have d1 : decide ((0 : Int) < (N : Int)) = false := by simp; omega
        have h0' : ¬ 0 < N := by omega
        clear h0
        go_quiet (fail)
        go_wp2_with fail
        go_meet
        exact ⟨by rw [HNE.out], _, rfl⟩
      · have d1 : decide ((0 : Int) < (N : Int)) = true := by simp; omega
        have d2 : decide ((N : Int) < (n : Int)) = false := by simp; omega
        have d2n : decide (N < n) = false := by simp; omega
        go_quiet (fail)
        go_wp2_with fail
        go_meet
        exact ⟨by rw [HNE.out], _, rfl⟩
      · have d1 : decide ((0 : Int) < (N : Int)) = true := by simp; omega
        have d2 : decide ((N : Int) < (n : Int)) = true := by simp; omega
        have kN := HKN1.out h2
        rw [h3] at kN
        clear h3
        have h2' : (N : Int) < (n : Int) := by omega
        go_quiet (fail)
        go_wp2_with fail
        go_meet
        exact ⟨by rw [HNE.out], _, rfl⟩
    · have HNE : Hid (decide (m.held.asked N = 0) = true) := Lib.hid (decide_eq_true ha)
      have d1 : decide ((0 : Int) < (N : Int)) = true := by simp; omega
      have d2 : decide ((N : Int) < (n : Int)) = true := by simp; omega
      have kN := HKN1.out h2
      generalize willK is m N = K at *
      have d3 : decide ((0 : Int) ≤ K) = true := by simp; omega
      have h2' : (N : Int) < (n : Int) := by omega
      clear ha
      go_quiet (fail)
      go_wp2_with fail
      go_meet
      exact ⟨by rw [HNE.out], _, rfl⟩
  case rest =>
  obtain ⟨rfl, qn, hwq⟩ := hcut
  have kq0 : Kept No w1 wc := by rw [hwq]; exact (Kept.refl No w1).drewN qn
  replace HL1 := Lib.hid (kq0.heap HL1.out (fun h => h))
  replace HX := Lib.hid (kq0.heap HX.out (fun h => h))
  replace HB1 := Lib.hid (HB1.out.no kq0)
  replace HS1 := Lib.hid (HS1.out.no kq0)
  replace K1 := Lib.hid (K1.out.trans kq0)
  clear hwq kq0 HKN1 x0 x2 l4 hXs
  clear w1
  have x0 : wc.cell? ⟨X, 0, none⟩ = some (.int .i64 5) := (cell_of_row wc X 0 _ _ _ HX.out).trans rfl
  have l3 : wc.cell? ⟨L, 3, none⟩ = some (.pointer (some ⟨b, 0, none⟩)) := (cell_of_row wc L 3 _ _ _ HL1.out).trans rfl
  have x1 : wc.cell? ⟨X, 1, none⟩ = some (.int .i64 si) := (cell_of_row wc X 1 _ _ _ HX.out).trans rfl
  have x4 : wc.cell? ⟨X, 4, none⟩ = some (.int .u8 (sp.toNat : Int)) := (cell_of_row wc X 4 _ _ _ HX.out).trans rfl
  have x5 : wc.cell? ⟨X, 5, none⟩ = some (.string ⟨⟨sx⟩⟩) := (cell_of_row wc X 5 _ _ _ HX.out).trans rfl
  go_wp2_with fail
  go_still_tail 7, (by kernel_rfl)
  repeat still_step
  change wpList _ _ _ _ _ wc.drew
  have kq : Kept No wc wc.drew := (Kept.refl No wc).drew
  have KQ := Lib.hid kq
  clear kq
  rcases HWW.out with ⟨h0, h1⟩ | ⟨h0, hi0, hi8, ha, hg', hw', hn'⟩
  · have hz : (ans == 0) = false := by rw [beq_eq_false_iff_ne]; exact h0
    clear h0
    subst h1
    go_wp2_with (go_at_call 23; refine (HWR.out _ (K1.out.trans KQ.out)).mono ?_; rintro e w2 ⟨rfl, k2, hb2⟩; have K2 := Lib.hid k2; have HB2 := Lib.hid hb2; have hBq := HB1.out.no KQ.out; have hLq := KQ.out.heap HL1.out (fun h => h); have hXq := KQ.out.heap HX.out (fun h => h); have hL2 := k2.heap hLq (hBq.far hLq (by decide) (by decide)); have hX2 := k2.heap hXq (hBq.far hXq (by decide) (by decide)); have hS2 := (HS1.out.no KQ.out).bt hBq k2; clear hLq hXq hBq k2 hb2;  have HL2 := Lib.hid hL2; have HS2 := Lib.hid hS2; clear hL2 hX2 hS2)
    go_end0
    have hnn := HN.out
    subst hnn
    have hL2 := HL2.out
    have hfin := And.intro hL2 (And.intro HB2.out (And.intro HG.out (And.intro HS2.out (rfl : m1.held.n = m1.held.n))))
    have kall := ((K1.out.trans KQ.out).of_no (ChF L b v hm (.slice (some ⟨gk, 0, none⟩) m1.held.n ck) (.slice (some ⟨gb, 0, none⟩) m1.held.n cb))).trans (K2.out.mono fun _ _ e => .inr (.inl e))
    first | exact ⟨m1, rfl, kall, hfin⟩ | exact ⟨rfl, kall, m1, hfin⟩
  · have hz : (ans == 0) = true := by rw [beq_iff_eq]; exact h0
    subst h0
    obtain ⟨i, rfl⟩ : ∃ i : Nat, si = (i : Int) := ⟨si.toNat, by omega⟩
    have hi : i < 8 := by omega
    have d1 : decide ((0 : Int) ≤ (i : Int)) = true := by simp
    have d2 : decide ((i : Int) < 8) = true := by simp; omega
    have hii : (i : Int) < 8 := by omega
    have HGW := Lib.hid (And.intro hg' hw')
    have HA := Lib.hid ha
    clear ha hg' hw' hi0 hi8
    have hfit : decide (m.held.asked N = 0) = true ∨ (decide (m.held.asked N = 0) = false ∧ N = 0) := by
      by_cases e : m.held.asked N = 0
      · exact .inl (decide_eq_true e)
      · exact .inr ⟨decide_eq_false e, HA.out.resolve_right e⟩
    rcases hfit with hda | ⟨hda, hN0⟩
    all_goals
      rw [hda]
      clear hda
    · go_wp2_with (go_at_call 23; refine (HWR.out _ (K1.out.trans KQ.out)).mono ?_; rintro e w2 ⟨rfl, k2, hb2⟩; have K2 := Lib.hid k2; have HB2 := Lib.hid hb2; have hBq := HB1.out.no KQ.out; have hLq := KQ.out.heap HL1.out (fun h => h); have hXq := KQ.out.heap HX.out (fun h => h); have hL2 := k2.heap hLq (hBq.far hLq (by decide) (by decide)); have hX2 := k2.heap hXq (hBq.far hXq (by decide) (by decide)); have hS2 := (HS1.out.no KQ.out).bt hBq k2; clear hLq hXq hBq k2 hb2;  have l26' : w2.cell? ⟨L, 26, none⟩ = some (.bool true) := (cell_of_row w2 L 26 _ _ _ hL2).trans rfl; have f26' := frozen_of_row w2 L 26 _ _ hL2; have x1' : w2.cell? ⟨X, 1, none⟩ = some (.int .i64 (i : Int)) := (cell_of_row w2 X 1 _ _ _ hX2).trans rfl; have x2' : w2.cell? ⟨X, 2, none⟩ = some (.int .i64 (N : Int)) := (cell_of_row w2 X 2 _ _ _ hX2).trans rfl; have nXL : ¬ X = L := cells_ne hX2 hL2 (by decide); have nLX : ¬ L = X := fun e => nXL e.symm; have HL2 := Lib.hid hL2; have HX2 := Lib.hid hX2; have HS2 := Lib.hid hS2; clear hL2 hX2 hS2)
      have hc3 := heap_setCell_same w2 L 26 _ _ (.bool true) HL2.out
      have k3 : Kept (fun y => y = L) w2 (w2.setCell ⟨L, 26, none⟩ (.bool true)) := (Kept.refl _ _).setCell _ _ (fun _ => rfl)
      have hc3' : (w2.setCell ⟨L, 26, none⟩ (.bool true)).heap[L]? = some (.cells (lifeC d j sv (.pointer (some ⟨b, 0, none⟩)) (.slice (some ⟨gk, 0, none⟩) n ck) (.slice (some ⟨gb, 0, none⟩) n cb) m.held.root ik ib q ser br true) 57 (0, 0)) := hc3
      have hX3 := k3.heap HX2.out nXL
      clear l26' f26' x1' x2' hc3
      generalize w2.setCell ⟨L, 26, none⟩ (.bool true) = w3 at *
      have l26 : w3.cell? ⟨L, 26, none⟩ = some (.bool true) := (cell_of_row w3 L 26 _ _ _ hc3').trans rfl
      have x1 : w3.cell? ⟨X, 1, none⟩ = some (.int .i64 (i : Int)) := (cell_of_row w3 X 1 _ _ _ hX3).trans rfl
      have fr := frozen_of_row w3 L (6 + i) _ _ hc3'
      have lr := root_at hc3' hi
      have HL3 := Lib.hid hc3'
      have K3 := Lib.hid k3
      clear hc3' k3 hX3
      go_wp2_with fail
      go_still_tail 8, (by kernel_rfl)
      repeat still_step
      change wpList _ _ _ _ _ w3.drew
      go_wp2_with fail
      go_end0
      have k4 : Kept (fun y => y = L) w3 ((w3.setCell ⟨L, 6 + i, none⟩ (.int .u32 (N : Int))).drew) := ((Kept.refl (fun y => y = L) w3).setCell _ _ (fun _ => rfl)).drew
      obtain ⟨hg', hw'⟩ := HGW.out
      have hnn := HN.out
      subst hnn
      have hroot : m1.held.root = m.held.root.set i N := congrArg SeenM.root hw'
      have k34 : Kept (fun y => y = L) w2 _ := K3.out.trans k4
      have hbt := HB2.out.other k34 (fun y hy => by subst hy; exact ⟨_, _, HL2.out, by decide, by decide, by decide⟩)
      have hseen := HS2.out.kept k34 (fun g hg e => by subst e; obtain ⟨c, hc⟩ := row_cells HS2.out.kind hg; exact cells_ne HL2.out hc (by decide) rfl) (fun g hg e => by subst e; obtain ⟨c, hc⟩ := row_cells HS2.out.body hg; exact cells_ne HL2.out hc (by decide) rfl)
      have kall := (((K1.out.trans KQ.out).of_no (ChF L b v hm (.slice (some ⟨gk, 0, none⟩) m.held.n ck) (.slice (some ⟨gb, 0, none⟩) m.held.n cb))).trans (K2.out.mono fun _ _ e => .inr (.inl e))).trans (k34.mono fun k _ e => .inl e)
      have hrow := root_store2 HL3.out hi N hroot
      have hfin := And.intro hrow (And.intro hbt (And.intro hg' (And.intro (show SeenAt _ base _ _ (willM is m1) by rw [hw']; exact seen_root hseen _) hn')))
      first | exact ⟨m1, rfl, kall, hfin⟩ | exact ⟨rfl, kall, m1, hfin⟩
    · have hN0b : ((N : Int) == 0) = true := by rw [beq_iff_eq]; omega
      clear hN0
      go_wp2_with (go_at_call 23; refine (HWR.out _ (K1.out.trans KQ.out)).mono ?_; rintro e w2 ⟨rfl, k2, hb2⟩; have K2 := Lib.hid k2; have HB2 := Lib.hid hb2; have hBq := HB1.out.no KQ.out; have hLq := KQ.out.heap HL1.out (fun h => h); have hXq := KQ.out.heap HX.out (fun h => h); have hL2 := k2.heap hLq (hBq.far hLq (by decide) (by decide)); have hX2 := k2.heap hXq (hBq.far hXq (by decide) (by decide)); have hS2 := (HS1.out.no KQ.out).bt hBq k2; clear hLq hXq hBq k2 hb2;  have l26' : w2.cell? ⟨L, 26, none⟩ = some (.bool true) := (cell_of_row w2 L 26 _ _ _ hL2).trans rfl; have f26' := frozen_of_row w2 L 26 _ _ hL2; have x1' : w2.cell? ⟨X, 1, none⟩ = some (.int .i64 (i : Int)) := (cell_of_row w2 X 1 _ _ _ hX2).trans rfl; have x2' : w2.cell? ⟨X, 2, none⟩ = some (.int .i64 (N : Int)) := (cell_of_row w2 X 2 _ _ _ hX2).trans rfl; have nXL : ¬ X = L := cells_ne hX2 hL2 (by decide); have nLX : ¬ L = X := fun e => nXL e.symm; have HL2 := Lib.hid hL2; have HX2 := Lib.hid hX2; have HS2 := Lib.hid hS2; clear hL2 hX2 hS2)
      have hc3 := heap_setCell_same w2 L 26 _ _ (.bool true) HL2.out
      have k3 : Kept (fun y => y = L) w2 (w2.setCell ⟨L, 26, none⟩ (.bool true)) := (Kept.refl _ _).setCell _ _ (fun _ => rfl)
      have hc3' : (w2.setCell ⟨L, 26, none⟩ (.bool true)).heap[L]? = some (.cells (lifeC d j sv (.pointer (some ⟨b, 0, none⟩)) (.slice (some ⟨gk, 0, none⟩) n ck) (.slice (some ⟨gb, 0, none⟩) n cb) m.held.root ik ib q ser br true) 57 (0, 0)) := hc3
      have hX3 := k3.heap HX2.out nXL
      clear l26' f26' x1' x2' hc3
      generalize w2.setCell ⟨L, 26, none⟩ (.bool true) = w3 at *
      have l26 : w3.cell? ⟨L, 26, none⟩ = some (.bool true) := (cell_of_row w3 L 26 _ _ _ hc3').trans rfl
      have x1 : w3.cell? ⟨X, 1, none⟩ = some (.int .i64 (i : Int)) := (cell_of_row w3 X 1 _ _ _ hX3).trans rfl
      have fr := frozen_of_row w3 L (6 + i) _ _ hc3'
      have lr := root_at hc3' hi
      have HL3 := Lib.hid hc3'
      have K3 := Lib.hid k3
      clear hc3' k3 hX3
      go_wp2_with fail
      go_still_tail 8, (by kernel_rfl)
      repeat still_step
      change wpList _ _ _ _ _ w3.drew
      go_wp2_with fail
      go_end0
      have k4 : Kept (fun y => y = L) w3 ((w3.setCell ⟨L, 6 + i, none⟩ (.int .u32 (N : Int))).drew) := ((Kept.refl (fun y => y = L) w3).setCell _ _ (fun _ => rfl)).drew
      obtain ⟨hg', hw'⟩ := HGW.out
      have hnn := HN.out
      subst hnn
      have hroot : m1.held.root = m.held.root.set i N := congrArg SeenM.root hw'
      have k34 : Kept (fun y => y = L) w2 _ := K3.out.trans k4
      have hbt := HB2.out.other k34 (fun y hy => by subst hy; exact ⟨_, _, HL2.out, by decide, by decide, by decide⟩)
      have hseen := HS2.out.kept k34 (fun g hg e => by subst e; obtain ⟨c, hc⟩ := row_cells HS2.out.kind hg; exact cells_ne HL2.out hc (by decide) rfl) (fun g hg e => by subst e; obtain ⟨c, hc⟩ := row_cells HS2.out.body hg; exact cells_ne HL2.out hc (by decide) rfl)
      have kall := (((K1.out.trans KQ.out).of_no (ChF L b v hm (.slice (some ⟨gk, 0, none⟩) m.held.n ck) (.slice (some ⟨gb, 0, none⟩) m.held.n cb))).trans (K2.out.mono fun _ _ e => .inr (.inl e))).trans (k34.mono fun k _ e => .inl e)
      have hrow := root_store2 HL3.out hi N hroot
      have hfin := And.intro hrow (And.intro hbt (And.intro hg' (And.intro (show SeenAt _ base _ _ (willM is m1) by rw [hw']; exact seen_root hseen _) hn')))
      first | exact ⟨m1, rfl, kall, hfin⟩ | exact ⟨rfl, kall, m1, hfin⟩
set_option maxHeartbeats 4000000 in
theorem lstep2 (L d j : Nat) (sv wk wb ik ib : Value) (q : Root8) (ser : Nat) (br : Bool) (b s u : Nat) (v : Value) (hm : Nat) (m : BtM) (is : SeenM) (base : Nat) (si sn : Int) (so : Bool) (sp : UInt8) (sx : List UInt8) (kv : Value) (st0 sc : Int) (w : World)
    (hL : w.heap[L]? = some (.cells (lifeC d j sv (.pointer (some ⟨b, 0, none⟩)) wk wb m.held.root ik ib q ser br true) 57 (0, 0))) (hB : BtAt w b s u v hm m) (hG : Grown is m) (hS : SeenAt w base wk wb (willM is m))
    (hsi : I64 si) (hsx : sx.length ≤ 9223372036854775807) :
    Calls Tryz.prog 27 #[.pointer (some ⟨L, 0, none⟩), .agg #[.int .i64 2, .int .i64 si, .int .i64 sn, .bool so, .int .u8 (sp.toNat : Int), .string ⟨⟨sx⟩⟩, kv, .int .i64 st0, .int .i64 sc]] w fun e w' => ∃ m', e = .returned (.tuple #[]) ∧ Kept (ChF L b v hm wk wb) w w' ∧
      w'.heap[L]? = some (.cells (lifeC d j sv (.pointer (some ⟨b, 0, none⟩)) wk wb m'.held.root ik ib q ser br true) 57 (0, 0)) ∧ BtAt w' b s u v hm m' ∧ Grown is m' ∧ SeenAt w' base wk wb (willM is m') ∧ m'.held.n = m.held.n := by
  have HL := Lib.hid hL
  have HB := Lib.hid hB
  have HG := Lib.hid hG
  have HS := Lib.hid hS
  have HSI := Lib.hid hsi
  clear hL hB hG hS hsi
  go_enter Tryz.func27, Tryz.ntmps27
  go_upto_region 1 with fail
  have hX := heap_alloc_new w (.cells #[.int .i64 2, .int .i64 si, .int .i64 sn, .bool so, .int .u8 (sp.toNat : Int), .string ⟨⟨sx⟩⟩, kv, .int .i64 st0, .int .i64 sc] 62)
  have k1 : Kept No w (w.alloc (.cells #[.int .i64 2, .int .i64 si, .int .i64 sn, .bool so, .int .u8 (sp.toNat : Int), .string ⟨⟨sx⟩⟩, kv, .int .i64 st0, .int .i64 sc] 62)) := (Kept.refl _ _).alloc _
  have hL1 := k1.heap HL.out (fun h => h)
  have HB1 := Lib.hid (HB.out.no k1)
  have HS1 := Lib.hid (HS.out.no k1)
  have K1 := Lib.hid k1
  generalize (w.alloc (.cells #[.int .i64 2, .int .i64 si, .int .i64 sn, .bool so, .int .u8 (sp.toNat : Int), .string ⟨⟨sx⟩⟩, kv, .int .i64 st0, .int .i64 sc] 62)) = w1 at *
  generalize w.heap.size = X at *
  have x0 : w1.cell? ⟨X, 0, none⟩ = some (.int .i64 2) := (cell_of_row w1 X 0 _ _ _ hX).trans rfl
  have x2 : w1.cell? ⟨X, 2, none⟩ = some (.int .i64 sn) := (cell_of_row w1 X 2 _ _ _ hX).trans rfl
  have l3 : w1.cell? ⟨L, 3, none⟩ = some (.pointer (some ⟨b, 0, none⟩)) := (cell_of_row w1 L 3 _ _ _ hL1).trans rfl
  have HX := Lib.hid hX
  have HL1 := Lib.hid hL1
  clear hX hL1 k1
  by_cases hn0 : 0 ≤ sn
  · by_cases hn1 : sn < 1048576
    · obtain ⟨N, rfl⟩ : ∃ N : Nat, sn = (N : Int) := ⟨sn.toNat, by omega⟩
      have d1 : decide ((0 : Int) ≤ (N : Int)) = true := by simp
      have d2 : decide ((N : Int) < 1048576) = true := by simp; omega
      have hN : N < 1048576 := by omega
      go_upto_region 15 with fail
      clear d1 d2
      have HNN := Lib.hid hN
      have HSX := Lib.hid hsx
      clear hN hn0 hn1 hsx
      go_wp2_with (first
        | (refine wpList_load_row (by rfl) 62 (.tmp 3) (by rfl) X (by rfl) _ _ _ _ HX.out Tryz.underlying62 (by rfl) (by exact step_size) ?_)
        | (go_at_call 62; refine (lwrite_ok L d j sv wk wb ik ib q ser br b s u v hm m is base si N so sp sx kv st0 sc w1 HL1.out HB1.out HG.out HS1.out HSI.out HSX.out HNN.out).mono ?_; rintro e w2 ⟨m', rfl, k2, hl2, hb2, hg2, hs2, hn2⟩; have K2 := Lib.hid k2; have HP := Lib.hid (And.intro hl2 (And.intro hb2 (And.intro hg2 (And.intro hs2 hn2)))); clear k2 hl2 hb2 hg2 hs2 hn2))
      go_end0
      have kall := (K1.out.of_no (ChF L b v hm wk wb)).trans K2.out
      first | exact ⟨m', rfl, kall, HP.out⟩ | exact ⟨rfl, kall, m', HP.out⟩
    · have d1 : decide ((0 : Int) ≤ sn) = true := by simpa using hn0
      have d2 : decide (sn < 1048576) = false := by simpa using hn1
      go_wp2_with fail
      go_end0
      have kall := K1.out.of_no (ChF L b v hm wk wb)
      first | exact ⟨m, rfl, kall, HL1.out, HB1.out, HG.out, HS1.out, rfl⟩ | exact ⟨rfl, kall, m, HL1.out, HB1.out, HG.out, HS1.out, rfl⟩
  · have d1 : decide ((0 : Int) ≤ sn) = false := by simpa using hn0
    go_wp2_with fail
    go_end0
    have kall := K1.out.of_no (ChF L b v hm wk wb)
    first | exact ⟨m, rfl, kall, HL1.out, HB1.out, HG.out, HS1.out, rfl⟩ | exact ⟨rfl, kall, m, HL1.out, HB1.out, HG.out, HS1.out, rfl⟩
set_option maxHeartbeats 4000000 in
theorem lstep3 (L d j : Nat) (sv wk wb ik ib : Value) (q : Root8) (ser : Nat) (br : Bool) (b s u : Nat) (v : Value) (hm : Nat) (m : BtM) (is : SeenM) (base : Nat) (si sn : Int) (so : Bool) (sp : UInt8) (sx : List UInt8) (kv : Value) (st0 sc : Int) (w : World)
    (hL : w.heap[L]? = some (.cells (lifeC d j sv (.pointer (some ⟨b, 0, none⟩)) wk wb m.held.root ik ib q ser br true) 57 (0, 0))) (hB : BtAt w b s u v hm m) (hG : Grown is m) (hS : SeenAt w base wk wb (willM is m))
    (hsi : I64 si) (hsx : sx.length ≤ 9223372036854775807) :
    Calls Tryz.prog 27 #[.pointer (some ⟨L, 0, none⟩), .agg #[.int .i64 3, .int .i64 si, .int .i64 sn, .bool so, .int .u8 (sp.toNat : Int), .string ⟨⟨sx⟩⟩, kv, .int .i64 st0, .int .i64 sc]] w fun e w' => ∃ m', e = .returned (.tuple #[]) ∧ Kept (ChF L b v hm wk wb) w w' ∧
      w'.heap[L]? = some (.cells (lifeC d j sv (.pointer (some ⟨b, 0, none⟩)) wk wb m'.held.root ik ib q ser br true) 57 (0, 0)) ∧ BtAt w' b s u v hm m' ∧ Grown is m' ∧ SeenAt w' base wk wb (willM is m') ∧ m'.held.n = m.held.n := by
  have HL := Lib.hid hL
  have HB := Lib.hid hB
  have HG := Lib.hid hG
  have HS := Lib.hid hS
  have HSI := Lib.hid hsi
  clear hL hB hG hS hsi
  go_enter Tryz.func27, Tryz.ntmps27
  go_upto_region 1 with fail
  have hX := heap_alloc_new w (.cells #[.int .i64 3, .int .i64 si, .int .i64 sn, .bool so, .int .u8 (sp.toNat : Int), .string ⟨⟨sx⟩⟩, kv, .int .i64 st0, .int .i64 sc] 62)
  have k1 : Kept No w (w.alloc (.cells #[.int .i64 3, .int .i64 si, .int .i64 sn, .bool so, .int .u8 (sp.toNat : Int), .string ⟨⟨sx⟩⟩, kv, .int .i64 st0, .int .i64 sc] 62)) := (Kept.refl _ _).alloc _
  have hL1 := k1.heap HL.out (fun h => h)
  have HB1 := Lib.hid (HB.out.no k1)
  have HS1 := Lib.hid (HS.out.no k1)
  have K1 := Lib.hid k1
  generalize (w.alloc (.cells #[.int .i64 3, .int .i64 si, .int .i64 sn, .bool so, .int .u8 (sp.toNat : Int), .string ⟨⟨sx⟩⟩, kv, .int .i64 st0, .int .i64 sc] 62)) = w1 at *
  generalize w.heap.size = X at *
  have x0 : w1.cell? ⟨X, 0, none⟩ = some (.int .i64 3) := (cell_of_row w1 X 0 _ _ _ hX).trans rfl
  have x2 : w1.cell? ⟨X, 2, none⟩ = some (.int .i64 sn) := (cell_of_row w1 X 2 _ _ _ hX).trans rfl
  have l3 : w1.cell? ⟨L, 3, none⟩ = some (.pointer (some ⟨b, 0, none⟩)) := (cell_of_row w1 L 3 _ _ _ hL1).trans rfl
  have HX := Lib.hid hX
  have HL1 := Lib.hid hL1
  clear hX hL1 k1
  by_cases hn0 : 0 ≤ sn
  · by_cases hn1 : sn < 1048576
    · obtain ⟨N, rfl⟩ : ∃ N : Nat, sn = (N : Int) := ⟨sn.toNat, by omega⟩
      have d1 : decide ((0 : Int) ≤ (N : Int)) = true := by simp
      have d2 : decide ((N : Int) < 1048576) = true := by simp; omega
      have hN : N < 1048576 := by omega
      go_upto_region 15 with fail
      clear d1 d2
      have HNN := Lib.hid hN
      have HSX := Lib.hid hsx
      clear hN hn0 hn1 hsx
      go_wp2_with (first
        | (refine wpList_load_row (by rfl) 62 (.tmp 3) (by rfl) X (by rfl) _ _ _ _ HX.out Tryz.underlying62 (by rfl) (by exact step_size) ?_)
        | (go_at_call 62; refine (lalloc_ok L d j sv wk wb ik ib q ser br b s u v hm m is base si N so sp sx kv st0 sc w1 HL1.out HB1.out HG.out HS1.out HSI.out HSX.out HNN.out).mono ?_; rintro e w2 ⟨m', rfl, k2, hl2, hb2, hg2, hs2, hn2⟩; have K2 := Lib.hid k2; have HP := Lib.hid (And.intro hl2 (And.intro hb2 (And.intro hg2 (And.intro hs2 hn2)))); clear k2 hl2 hb2 hg2 hs2 hn2))
      go_end0
      have kall := (K1.out.of_no (ChF L b v hm wk wb)).trans K2.out
      first | exact ⟨m', rfl, kall, HP.out⟩ | exact ⟨rfl, kall, m', HP.out⟩
    · have d1 : decide ((0 : Int) ≤ sn) = true := by simpa using hn0
      have d2 : decide (sn < 1048576) = false := by simpa using hn1
      go_wp2_with fail
      go_end0
      have kall := K1.out.of_no (ChF L b v hm wk wb)
      first | exact ⟨m, rfl, kall, HL1.out, HB1.out, HG.out, HS1.out, rfl⟩ | exact ⟨rfl, kall, m, HL1.out, HB1.out, HG.out, HS1.out, rfl⟩
  · have d1 : decide ((0 : Int) ≤ sn) = false := by simpa using hn0
    go_wp2_with fail
    go_end0
    have kall := K1.out.of_no (ChF L b v hm wk wb)
    first | exact ⟨m, rfl, kall, HL1.out, HB1.out, HG.out, HS1.out, rfl⟩ | exact ⟨rfl, kall, m, HL1.out, HB1.out, HG.out, HS1.out, rfl⟩
set_option maxHeartbeats 4000000 in
theorem lstep4 (L d j : Nat) (sv wk wb ik ib : Value) (q : Root8) (ser : Nat) (br : Bool) (b s u : Nat) (v : Value) (hm : Nat) (m : BtM) (is : SeenM) (base : Nat) (si sn : Int) (so : Bool) (sp : UInt8) (sx : List UInt8) (kv : Value) (st0 sc : Int) (w : World)
    (hL : w.heap[L]? = some (.cells (lifeC d j sv (.pointer (some ⟨b, 0, none⟩)) wk wb m.held.root ik ib q ser br true) 57 (0, 0))) (hB : BtAt w b s u v hm m) (hG : Grown is m) (hS : SeenAt w base wk wb (willM is m))
    (hsi : I64 si) (hsx : sx.length ≤ 9223372036854775807) :
    Calls Tryz.prog 27 #[.pointer (some ⟨L, 0, none⟩), .agg #[.int .i64 4, .int .i64 si, .int .i64 sn, .bool so, .int .u8 (sp.toNat : Int), .string ⟨⟨sx⟩⟩, kv, .int .i64 st0, .int .i64 sc]] w fun e w' => ∃ m', e = .returned (.tuple #[]) ∧ Kept (ChF L b v hm wk wb) w w' ∧
      w'.heap[L]? = some (.cells (lifeC d j sv (.pointer (some ⟨b, 0, none⟩)) wk wb m'.held.root ik ib q ser br true) 57 (0, 0)) ∧ BtAt w' b s u v hm m' ∧ Grown is m' ∧ SeenAt w' base wk wb (willM is m') ∧ m'.held.n = m.held.n := by
  have HL := Lib.hid hL
  have HB := Lib.hid hB
  have HG := Lib.hid hG
  have HS := Lib.hid hS
  have HSI := Lib.hid hsi
  clear hL hB hG hS hsi
  go_enter Tryz.func27, Tryz.ntmps27
  go_upto_region 1 with fail
  have hX := heap_alloc_new w (.cells #[.int .i64 4, .int .i64 si, .int .i64 sn, .bool so, .int .u8 (sp.toNat : Int), .string ⟨⟨sx⟩⟩, kv, .int .i64 st0, .int .i64 sc] 62)
  have k1 : Kept No w (w.alloc (.cells #[.int .i64 4, .int .i64 si, .int .i64 sn, .bool so, .int .u8 (sp.toNat : Int), .string ⟨⟨sx⟩⟩, kv, .int .i64 st0, .int .i64 sc] 62)) := (Kept.refl _ _).alloc _
  have hL1 := k1.heap HL.out (fun h => h)
  have HB1 := Lib.hid (HB.out.no k1)
  have HS1 := Lib.hid (HS.out.no k1)
  have K1 := Lib.hid k1
  generalize (w.alloc (.cells #[.int .i64 4, .int .i64 si, .int .i64 sn, .bool so, .int .u8 (sp.toNat : Int), .string ⟨⟨sx⟩⟩, kv, .int .i64 st0, .int .i64 sc] 62)) = w1 at *
  generalize w.heap.size = X at *
  have x0 : w1.cell? ⟨X, 0, none⟩ = some (.int .i64 4) := (cell_of_row w1 X 0 _ _ _ hX).trans rfl
  have x2 : w1.cell? ⟨X, 2, none⟩ = some (.int .i64 sn) := (cell_of_row w1 X 2 _ _ _ hX).trans rfl
  have l3 : w1.cell? ⟨L, 3, none⟩ = some (.pointer (some ⟨b, 0, none⟩)) := (cell_of_row w1 L 3 _ _ _ hL1).trans rfl
  have HX := Lib.hid hX
  have HL1 := Lib.hid hL1
  clear hX hL1 k1
  by_cases hn0 : 0 ≤ sn
  · by_cases hn1 : sn < 1048576
    · obtain ⟨N, rfl⟩ : ∃ N : Nat, sn = (N : Int) := ⟨sn.toNat, by omega⟩
      have d1 : decide ((0 : Int) ≤ (N : Int)) = true := by simp
      have d2 : decide ((N : Int) < 1048576) = true := by simp; omega
      have hN : N < 1048576 := by omega
      go_upto_region 15 with fail
      clear d1 d2
      have HNN := Lib.hid hN
      have HSX := Lib.hid hsx
      clear hN hn0 hn1 hsx
      go_wp2_with (first
        | (refine wpList_load_row (by rfl) 62 (.tmp 3) (by rfl) X (by rfl) _ _ _ _ HX.out Tryz.underlying62 (by rfl) (by exact step_size) ?_)
        | (go_at_call 62; refine (lrelease_ok L d j sv wk wb ik ib q ser br b s u v hm m is base si N so sp sx kv st0 sc w1 HL1.out HB1.out HG.out HS1.out HSI.out HSX.out HNN.out).mono ?_; rintro e w2 ⟨m', rfl, k2, hl2, hb2, hg2, hs2, hn2⟩; have K2 := Lib.hid k2; have HP := Lib.hid (And.intro hl2 (And.intro hb2 (And.intro hg2 (And.intro hs2 hn2)))); clear k2 hl2 hb2 hg2 hs2 hn2))
      go_end0
      have kall := (K1.out.of_no (ChF L b v hm wk wb)).trans K2.out
      first | exact ⟨m', rfl, kall, HP.out⟩ | exact ⟨rfl, kall, m', HP.out⟩
    · have d1 : decide ((0 : Int) ≤ sn) = true := by simpa using hn0
      have d2 : decide (sn < 1048576) = false := by simpa using hn1
      go_wp2_with fail
      go_end0
      have kall := K1.out.of_no (ChF L b v hm wk wb)
      first | exact ⟨m, rfl, kall, HL1.out, HB1.out, HG.out, HS1.out, rfl⟩ | exact ⟨rfl, kall, m, HL1.out, HB1.out, HG.out, HS1.out, rfl⟩
  · have d1 : decide ((0 : Int) ≤ sn) = false := by simpa using hn0
    go_wp2_with fail
    go_end0
    have kall := K1.out.of_no (ChF L b v hm wk wb)
    first | exact ⟨m, rfl, kall, HL1.out, HB1.out, HG.out, HS1.out, rfl⟩ | exact ⟨rfl, kall, m, HL1.out, HB1.out, HG.out, HS1.out, rfl⟩
set_option maxHeartbeats 4000000 in
theorem lstep5 (L d j : Nat) (sv wk wb ik ib : Value) (q : Root8) (ser : Nat) (br : Bool) (b s u : Nat) (v : Value) (hm : Nat) (m : BtM) (is : SeenM) (base : Nat) (si sn : Int) (so : Bool) (sp : UInt8) (sx : List UInt8) (kv : Value) (st0 sc : Int) (w : World)
    (hL : w.heap[L]? = some (.cells (lifeC d j sv (.pointer (some ⟨b, 0, none⟩)) wk wb m.held.root ik ib q ser br true) 57 (0, 0))) (hB : BtAt w b s u v hm m) (hG : Grown is m) (hS : SeenAt w base wk wb (willM is m))
    (hsi : I64 si) (hsx : sx.length ≤ 9223372036854775807) :
    Calls Tryz.prog 27 #[.pointer (some ⟨L, 0, none⟩), .agg #[.int .i64 5, .int .i64 si, .int .i64 sn, .bool so, .int .u8 (sp.toNat : Int), .string ⟨⟨sx⟩⟩, kv, .int .i64 st0, .int .i64 sc]] w fun e w' => ∃ m', e = .returned (.tuple #[]) ∧ Kept (ChF L b v hm wk wb) w w' ∧
      w'.heap[L]? = some (.cells (lifeC d j sv (.pointer (some ⟨b, 0, none⟩)) wk wb m'.held.root ik ib q ser br true) 57 (0, 0)) ∧ BtAt w' b s u v hm m' ∧ Grown is m' ∧ SeenAt w' base wk wb (willM is m') ∧ m'.held.n = m.held.n := by
  have HL := Lib.hid hL
  have HB := Lib.hid hB
  have HG := Lib.hid hG
  have HS := Lib.hid hS
  have HSI := Lib.hid hsi
  clear hL hB hG hS hsi
  go_enter Tryz.func27, Tryz.ntmps27
  go_upto_region 1 with fail
  have hX := heap_alloc_new w (.cells #[.int .i64 5, .int .i64 si, .int .i64 sn, .bool so, .int .u8 (sp.toNat : Int), .string ⟨⟨sx⟩⟩, kv, .int .i64 st0, .int .i64 sc] 62)
  have k1 : Kept No w (w.alloc (.cells #[.int .i64 5, .int .i64 si, .int .i64 sn, .bool so, .int .u8 (sp.toNat : Int), .string ⟨⟨sx⟩⟩, kv, .int .i64 st0, .int .i64 sc] 62)) := (Kept.refl _ _).alloc _
  have hL1 := k1.heap HL.out (fun h => h)
  have HB1 := Lib.hid (HB.out.no k1)
  have HS1 := Lib.hid (HS.out.no k1)
  have K1 := Lib.hid k1
  generalize (w.alloc (.cells #[.int .i64 5, .int .i64 si, .int .i64 sn, .bool so, .int .u8 (sp.toNat : Int), .string ⟨⟨sx⟩⟩, kv, .int .i64 st0, .int .i64 sc] 62)) = w1 at *
  generalize w.heap.size = X at *
  have x0 : w1.cell? ⟨X, 0, none⟩ = some (.int .i64 5) := (cell_of_row w1 X 0 _ _ _ hX).trans rfl
  have x2 : w1.cell? ⟨X, 2, none⟩ = some (.int .i64 sn) := (cell_of_row w1 X 2 _ _ _ hX).trans rfl
  have l3 : w1.cell? ⟨L, 3, none⟩ = some (.pointer (some ⟨b, 0, none⟩)) := (cell_of_row w1 L 3 _ _ _ hL1).trans rfl
  have HX := Lib.hid hX
  have HL1 := Lib.hid hL1
  clear hX hL1 k1
  by_cases hn0 : 0 ≤ sn
  · by_cases hn1 : sn < 1048576
    · obtain ⟨N, rfl⟩ : ∃ N : Nat, sn = (N : Int) := ⟨sn.toNat, by omega⟩
      have d1 : decide ((0 : Int) ≤ (N : Int)) = true := by simp
      have d2 : decide ((N : Int) < 1048576) = true := by simp; omega
      have hN : N < 1048576 := by omega
      go_upto_region 15 with fail
      clear d1 d2
      have HNN := Lib.hid hN
      have HSX := Lib.hid hsx
      clear hN hn0 hn1 hsx
      go_wp2_with (first
        | (refine wpList_load_row (by rfl) 62 (.tmp 3) (by rfl) X (by rfl) _ _ _ _ HX.out Tryz.underlying62 (by rfl) (by exact step_size) ?_)
        | (go_at_call 62; refine (lsetRoot_ok L d j sv wk wb ik ib q ser br b s u v hm m is base si N so sp sx kv st0 sc w1 HL1.out HB1.out HG.out HS1.out HSI.out HSX.out HNN.out).mono ?_; rintro e w2 ⟨m', rfl, k2, hl2, hb2, hg2, hs2, hn2⟩; have K2 := Lib.hid k2; have HP := Lib.hid (And.intro hl2 (And.intro hb2 (And.intro hg2 (And.intro hs2 hn2)))); clear k2 hl2 hb2 hg2 hs2 hn2))
      go_end0
      have kall := (K1.out.of_no (ChF L b v hm wk wb)).trans K2.out
      first | exact ⟨m', rfl, kall, HP.out⟩ | exact ⟨rfl, kall, m', HP.out⟩
    · have d1 : decide ((0 : Int) ≤ sn) = true := by simpa using hn0
      have d2 : decide (sn < 1048576) = false := by simpa using hn1
      go_wp2_with fail
      go_end0
      have kall := K1.out.of_no (ChF L b v hm wk wb)
      first | exact ⟨m, rfl, kall, HL1.out, HB1.out, HG.out, HS1.out, rfl⟩ | exact ⟨rfl, kall, m, HL1.out, HB1.out, HG.out, HS1.out, rfl⟩
  · have d1 : decide ((0 : Int) ≤ sn) = false := by simpa using hn0
    go_wp2_with fail
    go_end0
    have kall := K1.out.of_no (ChF L b v hm wk wb)
    first | exact ⟨m, rfl, kall, HL1.out, HB1.out, HG.out, HS1.out, rfl⟩ | exact ⟨rfl, kall, m, HL1.out, HB1.out, HG.out, HS1.out, rfl⟩
end Go.Proofs.YtabhieafjkaocaaGreat
namespace Go.Proofs.YtabhieafjkaocaaGreat
open Go.RowKit Go.Lib Bm
set_option maxRecDepth 20000
theorem cop_news {W w' : World} {base g cap n : Nat} {e : TypeId} {xs : List Value} (h : W.ownsRow base e 1 (.slice (some ⟨g, 0, none⟩) n cap) n xs) (k : Kept No W w') : ∀ j u, xs[j]? = some u → w'.cell? ((⟨g, 0, none⟩ : Addr).add j) = some u := (k.row h (fun _ _ h => h)).cells (g := g) rfl
theorem cop_base {W w' : World} {A : Nat} (h : A ≤ W.heap.size) (k : Kept No W w') : A ≤ w'.heap.size := Nat.le_trans h k.size
theorem cop_s {W w' : World} {A gk ck gb cb n : Nat} {m : SeenM} (hA : W.heap[A]? = some (.cells #[.slice (some ⟨gk, 0, none⟩) n ck, .slice (some ⟨gb, 0, none⟩) n cb, .int .u32 (m.root.a : Int), .int .u32 (m.root.b : Int), .int .u32 (m.root.c : Int), .int .u32 (m.root.d : Int), .int .u32 (m.root.e : Int), .int .u32 (m.root.f : Int), .int .u32 (m.root.g : Int), .int .u32 (m.root.h : Int)] 55 (0, 0))) (k : Kept No W w') : w'.cell? ⟨A, 0, none⟩ = some (.slice (some ⟨gk, 0, none⟩) n ck) ∧ w'.cell? ⟨A, 1, none⟩ = some (.slice (some ⟨gb, 0, none⟩) n cb) ∧ w'.cell? ⟨A, 2, none⟩ = some (.int .u32 (m.root.a : Int)) ∧ w'.cell? ⟨A, 3, none⟩ = some (.int .u32 (m.root.b : Int)) ∧ w'.cell? ⟨A, 4, none⟩ = some (.int .u32 (m.root.c : Int)) ∧ w'.cell? ⟨A, 5, none⟩ = some (.int .u32 (m.root.d : Int)) ∧ w'.cell? ⟨A, 6, none⟩ = some (.int .u32 (m.root.e : Int)) ∧ w'.cell? ⟨A, 7, none⟩ = some (.int .u32 (m.root.f : Int)) ∧ w'.cell? ⟨A, 8, none⟩ = some (.int .u32 (m.root.g : Int)) ∧ w'.cell? ⟨A, 9, none⟩ = some (.int .u32 (m.root.h : Int)) := by
  have h := k.heap hA (fun h => h)
  exact ⟨(cell_of_row w' A 0 _ _ _ h).trans rfl, (cell_of_row w' A 1 _ _ _ h).trans rfl, (cell_of_row w' A 2 _ _ _ h).trans rfl, (cell_of_row w' A 3 _ _ _ h).trans rfl, (cell_of_row w' A 4 _ _ _ h).trans rfl, (cell_of_row w' A 5 _ _ _ h).trans rfl, (cell_of_row w' A 6 _ _ _ h).trans rfl, (cell_of_row w' A 7 _ _ _ h).trans rfl, (cell_of_row w' A 8 _ _ _ h).trans rfl, (cell_of_row w' A 9 _ _ _ h).trans rfl⟩
theorem cop_store {W w1 : World} {A B gk ck gb cb n : Nat} {m : SeenM} {v0 v1 v2 v3 v4 v5 v6 v7 v8 v9 : Value} (hA : W.heap[A]? = some (.cells #[.slice (some ⟨gk, 0, none⟩) n ck, .slice (some ⟨gb, 0, none⟩) n cb, .int .u32 (m.root.a : Int), .int .u32 (m.root.b : Int), .int .u32 (m.root.c : Int), .int .u32 (m.root.d : Int), .int .u32 (m.root.e : Int), .int .u32 (m.root.f : Int), .int .u32 (m.root.g : Int), .int .u32 (m.root.h : Int)] 55 (0, 0))) (hne : A ≠ B) (k : Kept No W w1) : ((((((((((w1.setCell ⟨B, 0, none⟩ v0).setCell ⟨B, 1, none⟩ v1).setCell ⟨B, 2, none⟩ v2).setCell ⟨B, 3, none⟩ v3).setCell ⟨B, 4, none⟩ v4).setCell ⟨B, 5, none⟩ v5).setCell ⟨B, 6, none⟩ v6).setCell ⟨B, 7, none⟩ v7).setCell ⟨B, 8, none⟩ v8).setCell ⟨B, 9, none⟩ v9).cell? ⟨A, 0, none⟩ = some (.slice (some ⟨gk, 0, none⟩) n ck) ∧ ((((((((((w1.setCell ⟨B, 0, none⟩ v0).setCell ⟨B, 1, none⟩ v1).setCell ⟨B, 2, none⟩ v2).setCell ⟨B, 3, none⟩ v3).setCell ⟨B, 4, none⟩ v4).setCell ⟨B, 5, none⟩ v5).setCell ⟨B, 6, none⟩ v6).setCell ⟨B, 7, none⟩ v7).setCell ⟨B, 8, none⟩ v8).setCell ⟨B, 9, none⟩ v9).cell? ⟨A, 1, none⟩ = some (.slice (some ⟨gb, 0, none⟩) n cb) ∧ ((((((((((w1.setCell ⟨B, 0, none⟩ v0).setCell ⟨B, 1, none⟩ v1).setCell ⟨B, 2, none⟩ v2).setCell ⟨B, 3, none⟩ v3).setCell ⟨B, 4, none⟩ v4).setCell ⟨B, 5, none⟩ v5).setCell ⟨B, 6, none⟩ v6).setCell ⟨B, 7, none⟩ v7).setCell ⟨B, 8, none⟩ v8).setCell ⟨B, 9, none⟩ v9).cell? ⟨A, 2, none⟩ = some (.int .u32 (m.root.a : Int)) ∧ ((((((((((w1.setCell ⟨B, 0, none⟩ v0).setCell ⟨B, 1, none⟩ v1).setCell ⟨B, 2, none⟩ v2).setCell ⟨B, 3, none⟩ v3).setCell ⟨B, 4, none⟩ v4).setCell ⟨B, 5, none⟩ v5).setCell ⟨B, 6, none⟩ v6).setCell ⟨B, 7, none⟩ v7).setCell ⟨B, 8, none⟩ v8).setCell ⟨B, 9, none⟩ v9).cell? ⟨A, 3, none⟩ = some (.int .u32 (m.root.b : Int)) ∧ ((((((((((w1.setCell ⟨B, 0, none⟩ v0).setCell ⟨B, 1, none⟩ v1).setCell ⟨B, 2, none⟩ v2).setCell ⟨B, 3, none⟩ v3).setCell ⟨B, 4, none⟩ v4).setCell ⟨B, 5, none⟩ v5).setCell ⟨B, 6, none⟩ v6).setCell ⟨B, 7, none⟩ v7).setCell ⟨B, 8, none⟩ v8).setCell ⟨B, 9, none⟩ v9).cell? ⟨A, 4, none⟩ = some (.int .u32 (m.root.c : Int)) ∧ ((((((((((w1.setCell ⟨B, 0, none⟩ v0).setCell ⟨B, 1, none⟩ v1).setCell ⟨B, 2, none⟩ v2).setCell ⟨B, 3, none⟩ v3).setCell ⟨B, 4, none⟩ v4).setCell ⟨B, 5, none⟩ v5).setCell ⟨B, 6, none⟩ v6).setCell ⟨B, 7, none⟩ v7).setCell ⟨B, 8, none⟩ v8).setCell ⟨B, 9, none⟩ v9).cell? ⟨A, 5, none⟩ = some (.int .u32 (m.root.d : Int)) ∧ ((((((((((w1.setCell ⟨B, 0, none⟩ v0).setCell ⟨B, 1, none⟩ v1).setCell ⟨B, 2, none⟩ v2).setCell ⟨B, 3, none⟩ v3).setCell ⟨B, 4, none⟩ v4).setCell ⟨B, 5, none⟩ v5).setCell ⟨B, 6, none⟩ v6).setCell ⟨B, 7, none⟩ v7).setCell ⟨B, 8, none⟩ v8).setCell ⟨B, 9, none⟩ v9).cell? ⟨A, 6, none⟩ = some (.int .u32 (m.root.e : Int)) ∧ ((((((((((w1.setCell ⟨B, 0, none⟩ v0).setCell ⟨B, 1, none⟩ v1).setCell ⟨B, 2, none⟩ v2).setCell ⟨B, 3, none⟩ v3).setCell ⟨B, 4, none⟩ v4).setCell ⟨B, 5, none⟩ v5).setCell ⟨B, 6, none⟩ v6).setCell ⟨B, 7, none⟩ v7).setCell ⟨B, 8, none⟩ v8).setCell ⟨B, 9, none⟩ v9).cell? ⟨A, 7, none⟩ = some (.int .u32 (m.root.f : Int)) ∧ ((((((((((w1.setCell ⟨B, 0, none⟩ v0).setCell ⟨B, 1, none⟩ v1).setCell ⟨B, 2, none⟩ v2).setCell ⟨B, 3, none⟩ v3).setCell ⟨B, 4, none⟩ v4).setCell ⟨B, 5, none⟩ v5).setCell ⟨B, 6, none⟩ v6).setCell ⟨B, 7, none⟩ v7).setCell ⟨B, 8, none⟩ v8).setCell ⟨B, 9, none⟩ v9).cell? ⟨A, 8, none⟩ = some (.int .u32 (m.root.g : Int)) ∧ ((((((((((w1.setCell ⟨B, 0, none⟩ v0).setCell ⟨B, 1, none⟩ v1).setCell ⟨B, 2, none⟩ v2).setCell ⟨B, 3, none⟩ v3).setCell ⟨B, 4, none⟩ v4).setCell ⟨B, 5, none⟩ v5).setCell ⟨B, 6, none⟩ v6).setCell ⟨B, 7, none⟩ v7).setCell ⟨B, 8, none⟩ v8).setCell ⟨B, 9, none⟩ v9).cell? ⟨A, 9, none⟩ = some (.int .u32 (m.root.h : Int)) := by
  have h := (kept10 w1 B v0 v1 v2 v3 v4 v5 v6 v7 v8 v9).heap (k.heap hA (fun h => h)) hne
  exact ⟨(cell_of_row _ A 0 _ _ _ h).trans rfl, (cell_of_row _ A 1 _ _ _ h).trans rfl, (cell_of_row _ A 2 _ _ _ h).trans rfl, (cell_of_row _ A 3 _ _ _ h).trans rfl, (cell_of_row _ A 4 _ _ _ h).trans rfl, (cell_of_row _ A 5 _ _ _ h).trans rfl, (cell_of_row _ A 6 _ _ _ h).trans rfl, (cell_of_row _ A 7 _ _ _ h).trans rfl, (cell_of_row _ A 8 _ _ _ h).trans rfl, (cell_of_row _ A 9 _ _ _ h).trans rfl⟩
set_option maxHeartbeats 400000 in
theorem scopied_ok (kv bv : Value) (m : SeenM) (base : Nat) (w : World) (h : SeenAt w base kv bv m) (h1 : 0 < m.kind.length) (h2 : m.body.length = m.kind.length) (h3 : m.kind.length ≤ 4096) :
    Calls Tryz.prog 61 #[.agg (seenC kv bv m.root)] w fun e w' => ∃ kv' bv', e = .returned (.agg (seenC kv' bv' m.root)) ∧ Kept No w w' ∧ SeenAt w' w.heap.size kv' bv' m := by
  obtain ⟨i1, hi1, hz1, hs1, hb1⟩ := info_parts infoInt
  obtain ⟨i2, hi2, hz2, hs2, hb2⟩ := info_parts infoString
  obtain ⟨gk, ck, hkv, hkc⟩ := own_at1 h.kind h1
  obtain ⟨gb, cb, hbv, hbc⟩ := own_at1 h.body (by omega)
  have hrk := h.kind
  have hrb := h.body
  rw [h2] at hbv hrb
  subst hkv hbv
  have HLEN := Lib.hid (rfl : m.kind.length = m.kind.length)
  have HLEB := Lib.hid h2
  generalize hn : m.kind.length = n at hrk hrb h1 h2 h3 HLEN HLEB ⊢
  have HPOS := Lib.hid h1
  have HMAX := Lib.hid h3
  have HN := Lib.hid hn
  have HR1 := Lib.hid hrk
  have HR2 := Lib.hid hrb
  clear h hn h1 h2 h3 hkc hbc hrk hrb
  unfold seenC
  go_enter Tryz.func61, Tryz.ntmps61
  go_wp2_with fail
  have hA := heap_alloc_new w (.cells #[.slice (some ⟨gk, 0, none⟩) n ck, .slice (some ⟨gb, 0, none⟩) n cb, .int .u32 (m.root.a : Int), .int .u32 (m.root.b : Int), .int .u32 (m.root.c : Int), .int .u32 (m.root.d : Int), .int .u32 (m.root.e : Int), .int .u32 (m.root.f : Int), .int .u32 (m.root.g : Int), .int .u32 (m.root.h : Int)] 55)
  have k1 : Kept No w (w.alloc (.cells #[.slice (some ⟨gk, 0, none⟩) n ck, .slice (some ⟨gb, 0, none⟩) n cb, .int .u32 (m.root.a : Int), .int .u32 (m.root.b : Int), .int .u32 (m.root.c : Int), .int .u32 (m.root.d : Int), .int .u32 (m.root.e : Int), .int .u32 (m.root.f : Int), .int .u32 (m.root.g : Int), .int .u32 (m.root.h : Int)] 55)) := (Kept.refl _ _).alloc _
  have hB := heap_alloc_new (w.alloc (.cells #[.slice (some ⟨gk, 0, none⟩) n ck, .slice (some ⟨gb, 0, none⟩) n cb, .int .u32 (m.root.a : Int), .int .u32 (m.root.b : Int), .int .u32 (m.root.c : Int), .int .u32 (m.root.d : Int), .int .u32 (m.root.e : Int), .int .u32 (m.root.f : Int), .int .u32 (m.root.g : Int), .int .u32 (m.root.h : Int)] 55)) (.cells #[.slice none 0 0, .slice none 0 0, .int .u32 0, .int .u32 0, .int .u32 0, .int .u32 0, .int .u32 0, .int .u32 0, .int .u32 0, .int .u32 0] 55)
  have k2 : Kept No (w.alloc (.cells #[.slice (some ⟨gk, 0, none⟩) n ck, .slice (some ⟨gb, 0, none⟩) n cb, .int .u32 (m.root.a : Int), .int .u32 (m.root.b : Int), .int .u32 (m.root.c : Int), .int .u32 (m.root.d : Int), .int .u32 (m.root.e : Int), .int .u32 (m.root.f : Int), .int .u32 (m.root.g : Int), .int .u32 (m.root.h : Int)] 55)) ((w.alloc (.cells #[.slice (some ⟨gk, 0, none⟩) n ck, .slice (some ⟨gb, 0, none⟩) n cb, .int .u32 (m.root.a : Int), .int .u32 (m.root.b : Int), .int .u32 (m.root.c : Int), .int .u32 (m.root.d : Int), .int .u32 (m.root.e : Int), .int .u32 (m.root.f : Int), .int .u32 (m.root.g : Int), .int .u32 (m.root.h : Int)] 55)).alloc (.cells #[.slice none 0 0, .slice none 0 0, .int .u32 0, .int .u32 0, .int .u32 0, .int .u32 0, .int .u32 0, .int .u32 0, .int .u32 0, .int .u32 0] 55)) := (Kept.refl _ _).alloc _
  have e1 : (w.alloc (.cells #[.slice (some ⟨gk, 0, none⟩) n ck, .slice (some ⟨gb, 0, none⟩) n cb, .int .u32 (m.root.a : Int), .int .u32 (m.root.b : Int), .int .u32 (m.root.c : Int), .int .u32 (m.root.d : Int), .int .u32 (m.root.e : Int), .int .u32 (m.root.f : Int), .int .u32 (m.root.g : Int), .int .u32 (m.root.h : Int)] 55)).heap.size = w.heap.size + 1 := by simp
  rw [e1] at hB
  have hA2 := k2.heap hA (fun h => h)
  have hsz : w.heap.size ≤ ((w.alloc (.cells #[.slice (some ⟨gk, 0, none⟩) n ck, .slice (some ⟨gb, 0, none⟩) n cb, .int .u32 (m.root.a : Int), .int .u32 (m.root.b : Int), .int .u32 (m.root.c : Int), .int .u32 (m.root.d : Int), .int .u32 (m.root.e : Int), .int .u32 (m.root.f : Int), .int .u32 (m.root.g : Int), .int .u32 (m.root.h : Int)] 55)).alloc (.cells #[.slice none 0 0, .slice none 0 0, .int .u32 0, .int .u32 0, .int .u32 0, .int .u32 0, .int .u32 0, .int .u32 0, .int .u32 0, .int .u32 0] 55)).heap.size := (k1.trans k2).size
  have K12 := Lib.hid (k1.trans k2)
  have HRK := Lib.hid ((k1.trans k2).row HR1.out (fun _ _ h => h))
  have HRB := Lib.hid ((k1.trans k2).row HR2.out (fun _ _ h => h))
  clear hA k1 k2 e1
  generalize (w.alloc (.cells #[.slice (some ⟨gk, 0, none⟩) n ck, .slice (some ⟨gb, 0, none⟩) n cb, .int .u32 (m.root.a : Int), .int .u32 (m.root.b : Int), .int .u32 (m.root.c : Int), .int .u32 (m.root.d : Int), .int .u32 (m.root.e : Int), .int .u32 (m.root.f : Int), .int .u32 (m.root.g : Int), .int .u32 (m.root.h : Int)] 55)).alloc (.cells #[.slice none 0 0, .slice none 0 0, .int .u32 0, .int .u32 0, .int .u32 0, .int .u32 0, .int .u32 0, .int .u32 0, .int .u32 0, .int .u32 0] 55) = W at *
  have hAB : w.heap.size ≠ w.heap.size + 1 := by omega
  have hle : w.heap.size ≤ w.heap.size + 1 := by omega
  generalize hAe : w.heap.size = A at hA2 hB hAB hsz hle ⊢
  have HAE := Lib.hid hAe
  clear hAe
  generalize A + 1 = B at hB hAB hle ⊢
  have HLE := Lib.hid hle
  clear hle
  have HA := Lib.hid hA2
  have HB := Lib.hid hB
  have HAB := Lib.hid hAB
  have HSZ := Lib.hid hsz
  have KIL : Hid ((kindC m.kind).length = n * 1) := Lib.hid (by simp [kindC, HN.out])
  have TXL : Hid ((textC m.body).length = n * 1) := Lib.hid (by simp [textC, HLEB.out])
  have KIO : Hid (∀ u ∈ kindC m.kind, u.oneCell' = true) := Lib.hid (by simp [kindC, Value.oneCell'])
  have TXO : Hid (∀ u ∈ textC m.body, u.oneCell' = true) := Lib.hid (by simp [textC, Value.oneCell'])
  have HM1 : Hid (n ≤ maxLen) := Lib.hid (by have := HMAX.out; unfold maxLen; omega)
  have KIB : Hid (n * 8 ≤ 140737488355328) := Lib.hid (by have := HMAX.out; omega)
  have TXB : Hid (n * 16 ≤ 140737488355328) := Lib.hid (by have := HMAX.out; omega)
  have HK : Hid (Kept No W W) := Lib.hid (Kept.refl No W)
  clear hA2 hB hAB hsz
  go_region_held_law (fun w' => w'.cell? ⟨A, 0, none⟩ = some (.slice (some ⟨gk, 0, none⟩) n ck) ∧ w'.cell? ⟨A, 1, none⟩ = some (.slice (some ⟨gb, 0, none⟩) n cb) ∧ w'.cell? ⟨A, 2, none⟩ = some (.int .u32 (m.root.a : Int)) ∧ w'.cell? ⟨A, 3, none⟩ = some (.int .u32 (m.root.b : Int)) ∧ w'.cell? ⟨A, 4, none⟩ = some (.int .u32 (m.root.c : Int)) ∧ w'.cell? ⟨A, 5, none⟩ = some (.int .u32 (m.root.d : Int)) ∧ w'.cell? ⟨A, 6, none⟩ = some (.int .u32 (m.root.e : Int)) ∧ w'.cell? ⟨A, 7, none⟩ = some (.int .u32 (m.root.f : Int)) ∧ w'.cell? ⟨A, 8, none⟩ = some (.int .u32 (m.root.g : Int)) ∧ w'.cell? ⟨A, 9, none⟩ = some (.int .u32 (m.root.h : Int))) ((first | (with_reducible exact cop_s HA.out (HK.out)) | (with_reducible exact cop_s HA.out (HK.out.drew)) | (with_reducible exact cop_s HA.out (HK.out.alloc _)) | (with_reducible exact cop_s HA.out ((HK.out.alloc _).drew)) | (with_reducible exact cop_s HA.out ((HK.out.alloc _).alloc _)) | (with_reducible exact cop_s HA.out (((HK.out.alloc _).alloc _).drew)) | (with_reducible exact cop_store HA.out HAB.out HK.out))) (first | (refine step_append_fresh (by rfl) (.tmp 3) (.tmp 5) 45 (by rfl) A 3 i1 _ 1 _ Tryz.underlying45 hi1 hz1 hs1 hb1 rfl (by decide) _ (by rfl) _ n _ (kindC m.kind) (by rfl) KIL.out (cop_news HRK.out (by first | (with_reducible exact HK.out) | (with_reducible exact HK.out.drew) | (with_reducible exact HK.out.alloc _) | (with_reducible exact (HK.out.alloc _).drew) | (with_reducible exact (HK.out.alloc _).alloc _) | (with_reducible exact ((HK.out.alloc _).alloc _).drew))) KIO.out HPOS.out HM1.out KIB.out (cop_base HSZ.out (by first | (with_reducible exact HK.out) | (with_reducible exact HK.out.drew) | (with_reducible exact HK.out.alloc _) | (with_reducible exact (HK.out.alloc _).drew) | (with_reducible exact (HK.out.alloc _).alloc _) | (with_reducible exact ((HK.out.alloc _).alloc _).drew))) ?_; intro g cap w1 hown hk hg; have HK : Hid (Kept No W w1) := Lib.hid (Kept.trans (by first | (with_reducible exact HK.out) | (with_reducible exact HK.out.drew) | (with_reducible exact HK.out.alloc _) | (with_reducible exact (HK.out.alloc _).drew) | (with_reducible exact (HK.out.alloc _).alloc _) | (with_reducible exact ((HK.out.alloc _).alloc _).drew)) hk); (first | have HOS := Lib.hid (hk.row HOS.out (fun _ _ h => h)) | have HOS := Lib.hid ((((Kept.refl No _).alloc _).trans hk).row HOS.out (fun _ _ h => h)) | have HOSq := HK); have HOI := Lib.hid hown; have b0 := (cell_of_row w1 B 0 _ _ _ (HK.out.heap HB.out (fun h => h))).trans rfl; have f0 := frozen_of_row w1 B 0 _ _ (HK.out.heap HB.out (fun h => h)); have b1 := (cell_of_row w1 B 1 _ _ _ (HK.out.heap HB.out (fun h => h))).trans rfl; have f1 := frozen_of_row w1 B 1 _ _ (HK.out.heap HB.out (fun h => h)); have b2 := (cell_of_row w1 B 2 _ _ _ (HK.out.heap HB.out (fun h => h))).trans rfl; have f2 := frozen_of_row w1 B 2 _ _ (HK.out.heap HB.out (fun h => h)); have b3 := (cell_of_row w1 B 3 _ _ _ (HK.out.heap HB.out (fun h => h))).trans rfl; have f3 := frozen_of_row w1 B 3 _ _ (HK.out.heap HB.out (fun h => h)); have b4 := (cell_of_row w1 B 4 _ _ _ (HK.out.heap HB.out (fun h => h))).trans rfl; have f4 := frozen_of_row w1 B 4 _ _ (HK.out.heap HB.out (fun h => h)); have b5 := (cell_of_row w1 B 5 _ _ _ (HK.out.heap HB.out (fun h => h))).trans rfl; have f5 := frozen_of_row w1 B 5 _ _ (HK.out.heap HB.out (fun h => h)); have b6 := (cell_of_row w1 B 6 _ _ _ (HK.out.heap HB.out (fun h => h))).trans rfl; have f6 := frozen_of_row w1 B 6 _ _ (HK.out.heap HB.out (fun h => h)); have b7 := (cell_of_row w1 B 7 _ _ _ (HK.out.heap HB.out (fun h => h))).trans rfl; have f7 := frozen_of_row w1 B 7 _ _ (HK.out.heap HB.out (fun h => h)); have b8 := (cell_of_row w1 B 8 _ _ _ (HK.out.heap HB.out (fun h => h))).trans rfl; have f8 := frozen_of_row w1 B 8 _ _ (HK.out.heap HB.out (fun h => h)); have b9 := (cell_of_row w1 B 9 _ _ _ (HK.out.heap HB.out (fun h => h))).trans rfl; have f9 := frozen_of_row w1 B 9 _ _ (HK.out.heap HB.out (fun h => h)); clear hown hk hg) | (refine step_append_fresh (by rfl) (.tmp 7) (.tmp 9) 52 (by rfl) A 9 i2 _ 1 _ Tryz.underlying52 hi2 hz2 hs2 hb2 rfl (by decide) _ (by rfl) _ n _ (textC m.body) (by rfl) TXL.out (cop_news HRB.out (by first | (with_reducible exact HK.out) | (with_reducible exact HK.out.drew) | (with_reducible exact HK.out.alloc _) | (with_reducible exact (HK.out.alloc _).drew) | (with_reducible exact (HK.out.alloc _).alloc _) | (with_reducible exact ((HK.out.alloc _).alloc _).drew))) TXO.out HPOS.out HM1.out TXB.out (cop_base HSZ.out (by first | (with_reducible exact HK.out) | (with_reducible exact HK.out.drew) | (with_reducible exact HK.out.alloc _) | (with_reducible exact (HK.out.alloc _).drew) | (with_reducible exact (HK.out.alloc _).alloc _) | (with_reducible exact ((HK.out.alloc _).alloc _).drew))) ?_; intro g cap w1 hown hk hg; have HK : Hid (Kept No W w1) := Lib.hid (Kept.trans (by first | (with_reducible exact HK.out) | (with_reducible exact HK.out.drew) | (with_reducible exact HK.out.alloc _) | (with_reducible exact (HK.out.alloc _).drew) | (with_reducible exact (HK.out.alloc _).alloc _) | (with_reducible exact ((HK.out.alloc _).alloc _).drew)) hk); (first | have HOI := Lib.hid (hk.row HOI.out (fun _ _ h => h)) | have HOI := Lib.hid ((((Kept.refl No _).alloc _).trans hk).row HOI.out (fun _ _ h => h)) | have HOIq := HK); have HOS := Lib.hid hown; have b0 := (cell_of_row w1 B 0 _ _ _ (HK.out.heap HB.out (fun h => h))).trans rfl; have f0 := frozen_of_row w1 B 0 _ _ (HK.out.heap HB.out (fun h => h)); have b1 := (cell_of_row w1 B 1 _ _ _ (HK.out.heap HB.out (fun h => h))).trans rfl; have f1 := frozen_of_row w1 B 1 _ _ (HK.out.heap HB.out (fun h => h)); have b2 := (cell_of_row w1 B 2 _ _ _ (HK.out.heap HB.out (fun h => h))).trans rfl; have f2 := frozen_of_row w1 B 2 _ _ (HK.out.heap HB.out (fun h => h)); have b3 := (cell_of_row w1 B 3 _ _ _ (HK.out.heap HB.out (fun h => h))).trans rfl; have f3 := frozen_of_row w1 B 3 _ _ (HK.out.heap HB.out (fun h => h)); have b4 := (cell_of_row w1 B 4 _ _ _ (HK.out.heap HB.out (fun h => h))).trans rfl; have f4 := frozen_of_row w1 B 4 _ _ (HK.out.heap HB.out (fun h => h)); have b5 := (cell_of_row w1 B 5 _ _ _ (HK.out.heap HB.out (fun h => h))).trans rfl; have f5 := frozen_of_row w1 B 5 _ _ (HK.out.heap HB.out (fun h => h)); have b6 := (cell_of_row w1 B 6 _ _ _ (HK.out.heap HB.out (fun h => h))).trans rfl; have f6 := frozen_of_row w1 B 6 _ _ (HK.out.heap HB.out (fun h => h)); have b7 := (cell_of_row w1 B 7 _ _ _ (HK.out.heap HB.out (fun h => h))).trans rfl; have f7 := frozen_of_row w1 B 7 _ _ (HK.out.heap HB.out (fun h => h)); have b8 := (cell_of_row w1 B 8 _ _ _ (HK.out.heap HB.out (fun h => h))).trans rfl; have f8 := frozen_of_row w1 B 8 _ _ (HK.out.heap HB.out (fun h => h)); have b9 := (cell_of_row w1 B 9 _ _ _ (HK.out.heap HB.out (fun h => h))).trans rfl; have f9 := frozen_of_row w1 B 9 _ _ (HK.out.heap HB.out (fun h => h)); clear hown hk hg))
  all_goals
    go_wp2
    have hB' := HK.out.heap HB.out (fun h => h)
    refine bodyPost_ret (results_one rfl _ _ B _ _ _ _ rfl (set10 _ B _ _ _ _ _ _ _ _ _ _ _ _ _ _ _ _ _ _ _ _ _ hB') Tryz.underlying55 rfl seen_size) rfl ?_
    have hni := HOI.out
    have hns := HOS.out
    obtain ⟨ci, hci⟩ := row_cells hni rfl
    obtain ⟨cx, hcx⟩ := row_cells hns rfl
    refine ⟨_, _, rfl, (K12.out.trans HK.out).next (kept10 _ B _ _ _ _ _ _ _ _ _ _) (fun k hk e => by have h1 := HAE.out; have h2 := HLE.out; omega), ?_, ?_⟩
    · rw [HN.out, HAE.out]
      refine (kept10 _ B _ _ _ _ _ _ _ _ _ _).row hni (fun g hg e => ?_)
      subst e
      obtain ⟨c, hc⟩ := row_cells hni hg
      exact cells_ne hB' hc (by decide) rfl
    · rw [HLEB.out, HAE.out]
      refine (kept10 _ B _ _ _ _ _ _ _ _ _ _).row hns (fun g hg e => ?_)
      subst e
      obtain ⟨c, hc⟩ := row_cells hns hg
      exact cells_ne hB' hc (by decide) rfl
end Go.Proofs.YtabhieafjkaocaaGreat
