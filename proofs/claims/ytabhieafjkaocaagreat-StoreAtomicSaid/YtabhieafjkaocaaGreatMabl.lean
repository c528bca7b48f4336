/- A part. -/
import Derived.Test.YtabhieafjkaocaaGreatMabi
import Derived.Test.YtabhieafjkaocaaGreatMabh
import Derived.Test.YtabhieafjkaocaaGreatMabj
import Derived.Laws.OwnMore
set_option linter.unusedVariables false
set_option linter.unusedSimpArgs false
namespace Go.Proofs.YtabhieafjkaocaaGreat
open Go.RowKit Go.Lib Bm
set_option maxRecDepth 20000
theorem step_size : (Tryz.prog.info? 62).map (·.size) = some 9 := by kernel_rfl
abbrev lifeC (d j : Nat) (sv bv wk wb : Value) (r : Root8) (ik ib : Value) (q : Root8) (ser : Nat) (br ok : Bool) : Array Value := #[.pointer (some ⟨d, 0, none⟩), .int .i64 (j : Int), sv, bv, wk, wb, .int .u32 (r.a : Int), .int .u32 (r.b : Int), .int .u32 (r.c : Int), .int .u32 (r.d : Int), .int .u32 (r.e : Int), .int .u32 (r.f : Int), .int .u32 (r.g : Int), .int .u32 (r.h : Int), ik, ib, .int .u32 (q.a : Int), .int .u32 (q.b : Int), .int .u32 (q.c : Int), .int .u32 (q.d : Int), .int .u32 (q.e : Int), .int .u32 (q.f : Int), .int .u32 (q.g : Int), .int .u32 (q.h : Int), .int .u64 (ser : Int), .bool br, .bool ok]
abbrev ChF (L b : Nat) (v : Value) (hm : Nat) (wk wb : Value) : Nat → Prop := fun k => k = L ∨ BtF b v hm k ∨ wk.ownBlock = some k ∨ wb.ownBlock = some k
theorem SeenAt.kept {M : Nat → Prop} {w w' : World} {base : Nat} {kv bv : Value} {m : SeenM} (h : SeenAt w base kv bv m) (k : Kept M w w') (h1 : ∀ g, kv.ownBlock = some g → ¬ M g) (h2 : ∀ g, bv.ownBlock = some g → ¬ M g) : SeenAt w' base kv bv m :=
  ⟨k.row h.kind h1, k.row h.body h2⟩
theorem SeenAt.no {w w' : World} {base : Nat} {kv bv : Value} {m : SeenM} (h : SeenAt w base kv bv m) (k : Kept No w w') : SeenAt w' base kv bv m := h.kept k (fun _ _ h => h) (fun _ _ h => h)
theorem BtAt.far {w : World} {b s u : Nat} {v : Value} {hm : Nat} {m : BtM} (h : BtAt w b s u v hm m) {g : Nat} {cs : Array Value} {t : TypeId} {fr : Nat × Nat} (hg : w.heap[g]? = some (.cells cs t fr)) (h1 : t ≠ 93) (h2 : t ≠ 26) : ¬ BtF b v hm g := by
  obtain ⟨D, hD⟩ := h.has
  obtain ⟨es, clock, hb, _⟩ := hD.own
  rintro (rfl | e | rfl)
  · exact cells_ne hg h.head h1 rfl
  · obtain ⟨cs', hc⟩ := row_cells h.held.set.row e
    exact cells_ne hg hc h2 rfl
  · exact map_ne hg hb rfl
theorem set_root_row (d j : Nat) (sv bv wk wb : Value) (r : Root8) (ik ib : Value) (q : Root8) (ser : Nat) (br ok : Bool) (i n : Nat) (hi : i < 8) : (lifeC d j sv bv wk wb r ik ib q ser br ok).setIfInBounds (6 + i) (.int .u32 (n : Int)) = lifeC d j sv bv wk wb (r.set i n) ik ib q ser br ok := by
  have hi' : i = 0 ∨ i = 1 ∨ i = 2 ∨ i = 3 ∨ i = 4 ∨ i = 5 ∨ i = 6 ∨ i = 7 := by omega
  rcases hi' with rfl | rfl | rfl | rfl | rfl | rfl | rfl | rfl <;> simp [Root8.set, lifeC]
theorem seen_root {w : World} {base : Nat} {kv bv : Value} {m : SeenM} (h : SeenAt w base kv bv m) (r : Root8) : SeenAt w base kv bv { m with root := r } := ⟨h.kind, h.body⟩
theorem root_at {w : World} {L d j : Nat} {sv bv wk wb : Value} {r : Root8} {ik ib : Value} {q : Root8} {ser : Nat} {br ok : Bool} (h : w.heap[L]? = some (.cells (lifeC d j sv bv wk wb r ik ib q ser br ok) 57 (0, 0))) {i : Nat} (hi : i < 8) : w.cell? ⟨L, 6 + i, none⟩ = some (.int .u32 (r.get i : Int)) := by
  rw [cell_of_row w L (6 + i) _ _ _ h]
  have hi' : i = 0 ∨ i = 1 ∨ i = 2 ∨ i = 3 ∨ i = 4 ∨ i = 5 ∨ i = 6 ∨ i = 7 := by omega
  rcases hi' with rfl | rfl | rfl | rfl | rfl | rfl | rfl | rfl <;> rfl
theorem root_store {w : World} {L d j : Nat} {sv bv wk wb : Value} {r : Root8} {ik ib : Value} {q : Root8} {ser : Nat} {br ok : Bool} (h : w.heap[L]? = some (.cells (lifeC d j sv bv wk wb r ik ib q ser br ok) 57 (0, 0))) {i : Nat} (hi : i < 8) (n : Nat) :
    (w.setCell ⟨L, 6 + i, none⟩ (.int .u32 (n : Int))).heap[L]? = some (.cells (lifeC d j sv bv wk wb (r.set i n) ik ib q ser br ok) 57 (0, 0)) := by
  have hz := heap_setCell_same w L (6 + i) _ _ (.int .u32 (n : Int)) h
  rw [set_root_row d j sv bv wk wb r ik ib q ser br ok i n hi] at hz
  exact hz
theorem root_store2 {w : World} {L d j : Nat} {sv bv wk wb : Value} {r r' : Root8} {ik ib : Value} {q : Root8} {ser : Nat} {br ok : Bool} (h : w.heap[L]? = some (.cells (lifeC d j sv bv wk wb r ik ib q ser br ok) 57 (0, 0))) {i : Nat} (hi : i < 8) (n : Nat) (hr : r' = r.set i n) :
    ((w.setCell ⟨L, 6 + i, none⟩ (.int .u32 (n : Int))).drew).heap[L]? = some (.cells (lifeC d j sv bv wk wb r' ik ib q ser br ok) 57 (0, 0)) := by
  subst hr
  exact ((Kept.refl No _).drew).heap (root_store h hi n) (fun h => h)
theorem BtAt.other {M : Nat → Prop} {w w' : World} {b s u : Nat} {v : Value} {hm : Nat} {m : BtM} (h : BtAt w b s u v hm m) (k : Kept M w w') (hM : ∀ q, M q → ∃ cs t, w.heap[q]? = some (.cells cs t (0, 0)) ∧ t ≠ 93 ∧ t ≠ 143 ∧ t ≠ 26) : BtAt w' b s u v hm m := by
  obtain ⟨D, hD⟩ := h.has
  obtain ⟨es, clock, hb, -⟩ := hD.own
  refine ⟨k.heap h.head (fun e => ?_), h.held.kept k (fun e => ?_) (fun g hg e => ?_), D, hD.kept k (fun e => ?_)⟩
  · obtain ⟨cs, t, h1, h2, h3, h4⟩ := hM _ e
    exact cells_ne h1 h.head h2 rfl
  · obtain ⟨cs, t, h1, h2, h3, h4⟩ := hM _ e
    exact cells_ne h1 h.held.set.head h3 rfl
  · obtain ⟨cs, t, h1, h2, h3, h4⟩ := hM _ e
    obtain ⟨cs', hc⟩ := row_cells h.held.set.row hg
    exact cells_ne h1 hc h4 rfl
  · obtain ⟨cs, t, h1, h2, h3, h4⟩ := hM _ e
    exact map_ne h1 hb rfl
theorem ch_bt {w w' : World} {b s u L base n gk ck gb cb : Nat} {v : Value} {hm : Nat} {m : BtM} {cs : Array Value} {sm : SeenM} (h : BtAt w b s u v hm m) (hL : w.heap[L]? = some (.cells cs 57 (0, 0))) (hS : SeenAt w base (.slice (some ⟨gk, 0, none⟩) n ck) (.slice (some ⟨gb, 0, none⟩) n cb) sm)
    (k : Kept (fun q => q = L ∨ q = gk ∨ q = gb) w w') : BtAt w' b s u v hm m := h.other k fun q hq => by
  rcases hq with rfl | rfl | rfl
  · exact ⟨_, _, hL, by decide, by decide, by decide⟩
  · obtain ⟨c, hc⟩ := row_cells hS.kind (g := q) rfl
    exact ⟨_, _, hc, by decide, by decide, by decide⟩
  · obtain ⟨c, hc⟩ := row_cells hS.body (g := q) rfl
    exact ⟨_, _, hc, by decide, by decide, by decide⟩
theorem own_n {w : World} {base n g cap : Nat} {e : TypeId} {xs : List Value} (h : w.ownsRow base e 1 (.slice (some ⟨g, 0, none⟩) n cap) n xs) : ∃ cs, w.heap[g]? = some (.cells cs e (0, 0)) := row_cells h (g := g) rfl
theorem ch1 {w : World} {L X base n gk ck gb cb : Nat} {cs cx : Array Value} {m : SeenM} (hL : w.heap[L]? = some (.cells cs 57 (0, 0))) (hX : w.heap[X]? = some (.cells cx 62 (0, 0))) (h26 : cs.setIfInBounds 26 (.bool true) = cs)
    (hS : SeenAt w base (.slice (some ⟨gk, 0, none⟩) n ck) (.slice (some ⟨gb, 0, none⟩) n cb) m) :
    Kept (fun q => q = L) w (w.setCell ⟨L, 26, none⟩ (.bool true)) ∧ (w.setCell ⟨L, 26, none⟩ (.bool true)).heap[L]? = some (.cells cs 57 (0, 0)) ∧ (w.setCell ⟨L, 26, none⟩ (.bool true)).heap[X]? = some (.cells cx 62 (0, 0)) ∧
    SeenAt (w.setCell ⟨L, 26, none⟩ (.bool true)) base (.slice (some ⟨gk, 0, none⟩) n ck) (.slice (some ⟨gb, 0, none⟩) n cb) m := by
  have k1 : Kept (fun q => q = L) w (w.setCell ⟨L, 26, none⟩ (.bool true)) := (Kept.refl _ _).setCell _ _ (fun _ => rfl)
  have hL1 := heap_setCell_same w L 26 _ _ (.bool true) hL
  rw [h26] at hL1
  refine ⟨k1, hL1, k1.heap hX (cells_ne hX hL (by decide)), hS.kept k1 (fun g hg e => ?_) (fun g hg e => ?_)⟩
  · subst e; obtain ⟨c, hc⟩ := row_cells hS.kind hg; exact cells_ne hL hc (by decide) rfl
  · subst e; obtain ⟨c, hc⟩ := row_cells hS.body hg; exact cells_ne hL hc (by decide) rfl
theorem ch2 {w : World} {L X base n gk ck gb cb : Nat} {cs cx : Array Value} {m : SeenM} (hL : w.heap[L]? = some (.cells cs 57 (0, 0))) (hX : w.heap[X]? = some (.cells cx 62 (0, 0)))
    (hS : SeenAt w base (.slice (some ⟨gk, 0, none⟩) n ck) (.slice (some ⟨gb, 0, none⟩) n cb) m) (h1 : m.kind.length = n) (N : Nat) (k : Int) (W : World) (hW : W = w.drew.setCell ⟨gk, N, none⟩ (.int .i64 k) ∨ W = w.setCell ⟨gk, N, none⟩ (.int .i64 k)) :
    Kept (fun q => q = gk) w W ∧ W.heap[L]? = some (.cells cs 57 (0, 0)) ∧ W.heap[X]? = some (.cells cx 62 (0, 0)) ∧ SeenAt W base (.slice (some ⟨gk, 0, none⟩) n ck) (.slice (some ⟨gb, 0, none⟩) n cb) { m with kind := m.kind.set N k } := by
  obtain ⟨w0, k0, rfl⟩ : ∃ w0, Kept No w w0 ∧ W = w0.setCell ⟨gk, N, none⟩ (.int .i64 k) := by
    rcases hW with rfl | rfl
    · exact ⟨_, (Kept.refl _ _).drew, rfl⟩
    · exact ⟨_, Kept.refl _ _, rfl⟩
  have hL0 := k0.heap hL (fun h => h)
  have hX0 := k0.heap hX (fun h => h)
  have hS0 := hS.no k0
  have a1 := hS0.kind
  rw [h1] at a1
  obtain ⟨c1, e1⟩ := own_n a1
  have k2 : Kept (fun q => q = gk) w0 (w0.setCell ⟨gk, N, none⟩ (.int .i64 k)) := (Kept.refl _ _).setCell _ _ (fun _ => rfl)
  refine ⟨(k0.of_no _).trans k2, k2.heap hL0 (cells_ne hL0 e1 (by decide)), k2.heap hX0 (cells_ne hX0 e1 (by decide)), ⟨?_, k2.row hS0.body (fun g hg e => by subst e; obtain ⟨c, hc⟩ := row_cells hS0.body hg; exact cells_ne e1 hc (by decide) rfl)⟩⟩
  have e : kindC (m.kind.set N k) = (kindC m.kind).set N (.int .i64 k) := by unfold kindC; simp [List.map_set]
  show World.ownsRow _ _ _ _ _ (m.kind.set N k).length (kindC (m.kind.set N k))
  rw [e, List.length_set, h1]
  exact (a1.stored N (.int .i64 k)).1
theorem ch3 {w : World} {L X base n gk ck gb cb : Nat} {cs cx : Array Value} {m : SeenM} (hL : w.heap[L]? = some (.cells cs 57 (0, 0))) (hX : w.heap[X]? = some (.cells cx 62 (0, 0)))
    (hS : SeenAt w base (.slice (some ⟨gk, 0, none⟩) n ck) (.slice (some ⟨gb, 0, none⟩) n cb) m) (h1 : m.body.length = n) (N : Nat) (k : List UInt8) (W : World) (hW : W = w.drew.setCell ⟨gb, N, none⟩ (.string ⟨⟨k⟩⟩) ∨ W = w.setCell ⟨gb, N, none⟩ (.string ⟨⟨k⟩⟩)) :
    Kept (fun q => q = gb) w W ∧ W.heap[L]? = some (.cells cs 57 (0, 0)) ∧ W.heap[X]? = some (.cells cx 62 (0, 0)) ∧ SeenAt W base (.slice (some ⟨gk, 0, none⟩) n ck) (.slice (some ⟨gb, 0, none⟩) n cb) { m with body := m.body.set N k } := by
  obtain ⟨w0, k0, rfl⟩ : ∃ w0, Kept No w w0 ∧ W = w0.setCell ⟨gb, N, none⟩ (.string ⟨⟨k⟩⟩) := by
    rcases hW with rfl | rfl
    · exact ⟨_, (Kept.refl _ _).drew, rfl⟩
    · exact ⟨_, Kept.refl _ _, rfl⟩
  have hL0 := k0.heap hL (fun h => h)
  have hX0 := k0.heap hX (fun h => h)
  have hS0 := hS.no k0
  have a1 := hS0.body
  rw [h1] at a1
  obtain ⟨c1, e1⟩ := own_n a1
  have k2 : Kept (fun q => q = gb) w0 (w0.setCell ⟨gb, N, none⟩ (.string ⟨⟨k⟩⟩)) := (Kept.refl _ _).setCell _ _ (fun _ => rfl)
  refine ⟨(k0.of_no _).trans k2, k2.heap hL0 (cells_ne hL0 e1 (by decide)), k2.heap hX0 (cells_ne hX0 e1 (by decide)), ⟨k2.row hS0.kind (fun g hg e => by subst e; obtain ⟨c, hc⟩ := row_cells hS0.kind hg; exact cells_ne e1 hc (by decide) rfl), ?_⟩⟩
  have e : textC (m.body.set N k) = (textC m.body).set N (.string ⟨⟨k⟩⟩) := by unfold textC; simp [List.map_set]
  show World.ownsRow _ _ _ _ _ (m.body.set N k).length (textC (m.body.set N k))
  rw [e, List.length_set, h1]
  exact (a1.stored N (.string ⟨⟨k⟩⟩)).1
theorem seen_ckind {w : World} {base n g cap N : Nat} {bv : Value} {m : SeenM} (h : SeenAt w base (.slice (some ⟨g, 0, none⟩) n cap) bv m) (hn : m.kind.length = n) (hN : N < n) : w.cell? ⟨g, N, none⟩ = some (.int .i64 (m.kind.getD N (-1))) := by
  have h1 := h.kind
  rw [hn] at h1
  rw [h1.cellAt N (by omega)]
  simp [kindC, show N < m.kind.length by omega]
theorem seen_cbody {w : World} {base n g cap N : Nat} {kv : Value} {m : SeenM} (h : SeenAt w base kv (.slice (some ⟨g, 0, none⟩) n cap) m) (hn : m.body.length = n) (hN : N < n) : w.cell? ⟨g, N, none⟩ = some (.string ⟨⟨m.body.getD N []⟩⟩) := by
  have h1 := h.body
  rw [hn] at h1
  rw [h1.cellAt N (by omega)]
  simp [textC, show N < m.body.length by omega]
theorem SeenAt.bt {w w' : World} {base b s u hm : Nat} {kv bv v : Value} {m : BtM} {sm : SeenM} (h : SeenAt w base kv bv sm) (hB : BtAt w b s u v hm m) (k : Kept (BtF b v hm) w w') : SeenAt w' base kv bv sm :=
  h.kept k (fun g hg => by obtain ⟨cs, hc⟩ := row_cells h.kind hg; exact hB.far hc (by decide) (by decide)) (fun g hg => by obtain ⟨cs, hc⟩ := row_cells h.body hg; exact hB.far hc (by decide) (by decide))
end Go.Proofs.YtabhieafjkaocaaGreat
