/- Merged by wip/tools/merge.py out of: LfH, LfM, LfI, LfJ, UnA. -/
import Derived.Test.YtabhieafjkaocaaGreatMubp
import Derived.Test.YtabhieafjkaocaaGreatMubo
import Derived.Test.YtabhieafjkaocaaGreatMubn
import Derived.Test.YtabhieafjkaocaaGreatMubf
import Derived.Test.YtabhieafjkaocaaGreatMubi
/- StoreUnseen: a life's steps, but Commit. (Printed by wip/tools/lh.py.) -/
namespace Go.Proofs.YtabhieafjkaocaaGreat
open Go.RowKit Go.Lib Bm
set_option linter.unusedVariables false
set_option linter.unusedSimpArgs false
set_option maxRecDepth 20000

theorem StoreIn.no {base : Nat} {w w' : World} {x : DiskH} {dm : DiskM} {s us : Nat} {vs bp : Value} {st : StM} (h : StoreIn base w x dm s us vs bp st) (k : Kept No w w') : StoreIn base w' x dm s us vs bp st :=
  { h with disk := h.disk.kept k (fun _ _ h => h), store := h.store.no k }
theorem LiveIn.no {base : Nat} {w w' : World} {x : DiskH} {s us : Nat} {vs : Value} {b u : Nat} {v : Value} {hm : Nat} {m : BtM} {is : SeenM} {wk wb ik ib : Value} (h : LiveIn base w x s us vs b u v hm m is wk wb ik ib) (k : Kept No w w') : LiveIn base w' x s us vs b u v hm m is wk wb ik ib :=
  { h with bt := h.bt.no k, will := h.will.no k }
theorem LifeAt.no {base D : Nat} {w w' : World} {L k : Nat} (h : LifeAt base D w L k) (kk : Kept No w w') : LifeAt base D w' L (k + 1) := by
  obtain ⟨x, dm, s, us, vs, bp, bv, wk, wb, ik, ib, r, st, ph, h1, h2, h3, h4, h5, h6⟩ := h
  refine ⟨x, dm, s, us, vs, bp, bv, wk, wb, ik, ib, r, st, ph, kk.heap h1 (fun h => h), h2, h3.no kk, h4.no kk, ?_, by omega⟩
  rcases h5 with ⟨a, b, c⟩ | ⟨b, u, v, hm, m, a1, a2, a3, a4, a5⟩
  · exact .inl ⟨a, b.kept kk (fun _ _ h => h), c⟩
  · exact .inr ⟨b, u, v, hm, m, a1, a2, a3, a4.no kk, a5⟩
theorem kept_base {M : Nat → Prop} {w w' : World} {base : Nat} (k : Kept M w w') (h : ∀ g, M g → base ≤ g) : Kept (fun g => base ≤ g) w w' := k.mono fun g _ e => h g e
theorem LiveIn.base {base : Nat} {w : World} {x : DiskH} {s us : Nat} {vs : Value} {b u : Nat} {v : Value} {hm : Nat} {m : BtM} {is : SeenM} {wk wb ik ib : Value} (h : LiveIn base w x s us vs b u v hm m is wk wb ik ib) {L : Nat} (hL : base ≤ L) : ∀ g, ChF L b v hm wk wb g → base ≤ g := by
  rintro g (rfl | (rfl | e | rfl) | e | e)
  · exact hL
  · exact h.lb
  · exact h.lv g e
  · exact h.lh
  · exact (h.will.kind.lt g e).1
  · exact (h.will.body.lt g e).1

theorem life2 {base D L k : Nat} {w : World} (h : LifeAt base D w L k) (si sn : Int) (so : Bool) (sp : UInt8) (sx : List UInt8) (kv : Value) (st0 sc : Int) (hsi : I64 si) (hsx : sx.length ≤ 9223372036854775807) :
    Calls Tryz.prog 27 #[.pointer (some ⟨L, 0, none⟩), .agg #[.int .i64 2, .int .i64 si, .int .i64 sn, .bool so, .int .u8 (sp.toNat : Int), .string ⟨⟨sx⟩⟩, kv, .int .i64 st0, .int .i64 sc]] w fun e w' => e = .returned (.tuple #[]) ∧ Kept (fun g => base ≤ g) w w' ∧ LifeAt base D w' L (k + 1) := by
  have H := h
  obtain ⟨x, dm, s, us, vs, bp, bv, wk, wb, ik, ib, r, st, ph, h1, h2, h3, h4, h5, h6⟩ := h
  rcases h5 with ⟨rfl, a2, a3⟩ | ⟨b, u, v, hm, m, rfl, a2, rfl, a4, a5, a6⟩
  · refine (lnil2 L _ _ _ _ _ _ _ _ _ _ _ _ si sn so sp sx kv st0 sc w h1).mono ?_
    rintro e w' ⟨rfl, kk⟩
    exact ⟨rfl, kk.of_no _, H.no kk⟩
  · refine (lstep2 L _ _ _ _ _ _ _ _ _ _ b s u v hm m (seenM st dm) base si sn so sp sx kv st0 sc w h1 a4.bt a4.grown a4.will hsi hsx).mono ?_
    rintro e w' ⟨m', rfl, kk, hl, hb, hg, hs, hn⟩
    refine ⟨rfl, kept_base kk (a4.base h2), x, dm, s, us, vs, bp, _, wk, wb, ik, ib, _, st, ph + 1, hl, h2, h3.change a4 h1 kk, a4.seen h1 h4 a4.k a4.t kk, .inr ⟨b, u, v, hm, m', rfl, a2, rfl, a4.change hb hg hs, fun _ => by omega, by omega⟩, by omega⟩
theorem life3 {base D L k : Nat} {w : World} (h : LifeAt base D w L k) (si sn : Int) (so : Bool) (sp : UInt8) (sx : List UInt8) (kv : Value) (st0 sc : Int) (hsi : I64 si) (hsx : sx.length ≤ 9223372036854775807) :
    Calls Tryz.prog 27 #[.pointer (some ⟨L, 0, none⟩), .agg #[.int .i64 3, .int .i64 si, .int .i64 sn, .bool so, .int .u8 (sp.toNat : Int), .string ⟨⟨sx⟩⟩, kv, .int .i64 st0, .int .i64 sc]] w fun e w' => e = .returned (.tuple #[]) ∧ Kept (fun g => base ≤ g) w w' ∧ LifeAt base D w' L (k + 1) := by
  have H := h
  obtain ⟨x, dm, s, us, vs, bp, bv, wk, wb, ik, ib, r, st, ph, h1, h2, h3, h4, h5, h6⟩ := h
  rcases h5 with ⟨rfl, a2, a3⟩ | ⟨b, u, v, hm, m, rfl, a2, rfl, a4, a5, a6⟩
  · refine (lnil3 L _ _ _ _ _ _ _ _ _ _ _ _ si sn so sp sx kv st0 sc w h1).mono ?_
    rintro e w' ⟨rfl, kk⟩
    exact ⟨rfl, kk.of_no _, H.no kk⟩
  · refine (lstep3 L _ _ _ _ _ _ _ _ _ _ b s u v hm m (seenM st dm) base si sn so sp sx kv st0 sc w h1 a4.bt a4.grown a4.will hsi hsx).mono ?_
    rintro e w' ⟨m', rfl, kk, hl, hb, hg, hs, hn⟩
    refine ⟨rfl, kept_base kk (a4.base h2), x, dm, s, us, vs, bp, _, wk, wb, ik, ib, _, st, ph + 1, hl, h2, h3.change a4 h1 kk, a4.seen h1 h4 a4.k a4.t kk, .inr ⟨b, u, v, hm, m', rfl, a2, rfl, a4.change hb hg hs, fun _ => by omega, by omega⟩, by omega⟩
theorem life4 {base D L k : Nat} {w : World} (h : LifeAt base D w L k) (si sn : Int) (so : Bool) (sp : UInt8) (sx : List UInt8) (kv : Value) (st0 sc : Int) (hsi : I64 si) (hsx : sx.length ≤ 9223372036854775807) :
    Calls Tryz.prog 27 #[.pointer (some ⟨L, 0, none⟩), .agg #[.int .i64 4, .int .i64 si, .int .i64 sn, .bool so, .int .u8 (sp.toNat : Int), .string ⟨⟨sx⟩⟩, kv, .int .i64 st0, .int .i64 sc]] w fun e w' => e = .returned (.tuple #[]) ∧ Kept (fun g => base ≤ g) w w' ∧ LifeAt base D w' L (k + 1) := by
  have H := h
  obtain ⟨x, dm, s, us, vs, bp, bv, wk, wb, ik, ib, r, st, ph, h1, h2, h3, h4, h5, h6⟩ := h
  rcases h5 with ⟨rfl, a2, a3⟩ | ⟨b, u, v, hm, m, rfl, a2, rfl, a4, a5, a6⟩
  · refine (lnil4 L _ _ _ _ _ _ _ _ _ _ _ _ si sn so sp sx kv st0 sc w h1).mono ?_
    rintro e w' ⟨rfl, kk⟩
    exact ⟨rfl, kk.of_no _, H.no kk⟩
  · refine (lstep4 L _ _ _ _ _ _ _ _ _ _ b s u v hm m (seenM st dm) base si sn so sp sx kv st0 sc w h1 a4.bt a4.grown a4.will hsi hsx).mono ?_
    rintro e w' ⟨m', rfl, kk, hl, hb, hg, hs, hn⟩
    refine ⟨rfl, kept_base kk (a4.base h2), x, dm, s, us, vs, bp, _, wk, wb, ik, ib, _, st, ph + 1, hl, h2, h3.change a4 h1 kk, a4.seen h1 h4 a4.k a4.t kk, .inr ⟨b, u, v, hm, m', rfl, a2, rfl, a4.change hb hg hs, fun _ => by omega, by omega⟩, by omega⟩
theorem life5 {base D L k : Nat} {w : World} (h : LifeAt base D w L k) (si sn : Int) (so : Bool) (sp : UInt8) (sx : List UInt8) (kv : Value) (st0 sc : Int) (hsi : I64 si) (hsx : sx.length ≤ 9223372036854775807) :
    Calls Tryz.prog 27 #[.pointer (some ⟨L, 0, none⟩), .agg #[.int .i64 5, .int .i64 si, .int .i64 sn, .bool so, .int .u8 (sp.toNat : Int), .string ⟨⟨sx⟩⟩, kv, .int .i64 st0, .int .i64 sc]] w fun e w' => e = .returned (.tuple #[]) ∧ Kept (fun g => base ≤ g) w w' ∧ LifeAt base D w' L (k + 1) := by
  have H := h
  obtain ⟨x, dm, s, us, vs, bp, bv, wk, wb, ik, ib, r, st, ph, h1, h2, h3, h4, h5, h6⟩ := h
  rcases h5 with ⟨rfl, a2, a3⟩ | ⟨b, u, v, hm, m, rfl, a2, rfl, a4, a5, a6⟩
  · refine (lnil5 L _ _ _ _ _ _ _ _ _ _ _ _ si sn so sp sx kv st0 sc w h1).mono ?_
    rintro e w' ⟨rfl, kk⟩
    exact ⟨rfl, kk.of_no _, H.no kk⟩
  · refine (lstep5 L _ _ _ _ _ _ _ _ _ _ b s u v hm m (seenM st dm) base si sn so sp sx kv st0 sc w h1 a4.bt a4.grown a4.will hsi hsx).mono ?_
    rintro e w' ⟨m', rfl, kk, hl, hb, hg, hs, hn⟩
    refine ⟨rfl, kept_base kk (a4.base h2), x, dm, s, us, vs, bp, _, wk, wb, ik, ib, _, st, ph + 1, hl, h2, h3.change a4 h1 kk, a4.seen h1 h4 a4.k a4.t kk, .inr ⟨b, u, v, hm, m', rfl, a2, rfl, a4.change hb hg hs, fun _ => by omega, by omega⟩, by omega⟩
theorem life_other {base D L k : Nat} {w : World} (h : LifeAt base D w L k) (kd : Int) (si sn : Int) (so : Bool) (sp : UInt8) (sx : List UInt8) (kv : Value) (st0 sc : Int) (hk : kd ≠ 0 ∧ kd ≠ 1 ∧ kd ≠ 2 ∧ kd ≠ 3 ∧ kd ≠ 4 ∧ kd ≠ 5 ∧ kd ≠ 6 ∧ kd ≠ 7 ∧ kd ≠ 9 ∧ kd ≠ 10) :
    Calls Tryz.prog 27 #[.pointer (some ⟨L, 0, none⟩), .agg #[.int .i64 kd, .int .i64 si, .int .i64 sn, .bool so, .int .u8 (sp.toNat : Int), .string ⟨⟨sx⟩⟩, kv, .int .i64 st0, .int .i64 sc]] w fun e w' => e = .returned (.tuple #[]) ∧ Kept (fun g => base ≤ g) w w' ∧ LifeAt base D w' L (k + 1) := by
  have H := h
  obtain ⟨x, dm, s, us, vs, bp, bv, wk, wb, ik, ib, r, st, ph, h1, h2, h3, h4, h5, h6⟩ := h
  refine (lother L _ _ _ _ _ _ _ _ _ _ _ _ _ kd si sn so sp sx kv st0 sc w h1 hk).mono ?_
  rintro e w' ⟨rfl, kk⟩
  exact ⟨rfl, kk.of_no _, H.no kk⟩
theorem life7 {base D L k : Nat} {w : World} (h : LifeAt base D w L k) (si sn : Int) (so : Bool) (sp : UInt8) (sx : List UInt8) (kv : Value) (st0 sc : Int) :
    Calls Tryz.prog 27 #[.pointer (some ⟨L, 0, none⟩), .agg #[.int .i64 7, .int .i64 si, .int .i64 sn, .bool so, .int .u8 (sp.toNat : Int), .string ⟨⟨sx⟩⟩, kv, .int .i64 st0, .int .i64 sc]] w fun e w' => e = .returned (.tuple #[]) ∧ Kept (fun g => base ≤ g) w w' ∧ LifeAt base D w' L (k + 1) := by
  have H := h
  obtain ⟨x, dm, s, us, vs, bp, bv, wk, wb, ik, ib, r, st, ph, h1, h2, h3, h4, h5, h6⟩ := h
  rcases h5 with ⟨rfl, a2, a3⟩ | ⟨b, u, v, hm, m, rfl, a2, rfl, a4, a5, a6⟩
  · refine (lnil7 L _ _ _ _ _ _ _ _ _ _ _ _ si sn so sp sx kv st0 sc w h1).mono ?_
    rintro e w' ⟨rfl, kk⟩
    exact ⟨rfl, kk.of_no _, H.no kk⟩
  · refine (lstep7 L _ _ _ _ _ _ _ _ _ _ _ b s u v hm m si sn so sp sx kv st0 sc w h1 a4.bt).mono ?_
    rintro e w' ⟨rfl, k0, hl, hb⟩
    have kk : Kept (ChF L b v hm wk wb) w w' := k0.mono fun g _ e => by
      rcases e with e | e | e
      · exact .inl e
      · exact .inr (.inl (.inl e))
      · exact .inr (.inl (.inr (.inr e)))
    refine ⟨rfl, kept_base kk (a4.base h2), x, dm, s, us, vs, bp, _, wk, wb, ik, ib, _, st, ph, hl, h2, h3.change a4 h1 kk, a4.seen h1 h4 a4.k a4.t kk, .inl ⟨rfl, by rw [a2]; exact hb.old, fun b' e => ?_⟩, by omega⟩
    rw [a2] at e
    injection e with e; injection e with e; injection e with e
    subst e
    exact a4.lb
theorem life1 {base D L k : Nat} {w : World} (h : LifeAt base D w L k) (hbw : base ≤ w.heap.size) (si sn : Int) (so : Bool) (sp : UInt8) (sx : List UInt8) (kv : Value) (st0 sc : Int) :
    Calls Tryz.prog 27 #[.pointer (some ⟨L, 0, none⟩), .agg #[.int .i64 1, .int .i64 si, .int .i64 sn, .bool so, .int .u8 (sp.toNat : Int), .string ⟨⟨sx⟩⟩, kv, .int .i64 st0, .int .i64 sc]] w fun e w' => e = .returned (.tuple #[]) ∧ Kept (fun g => base ≤ g) w w' ∧ LifeAt base D w' L (k + 1) := by
  obtain ⟨x, dm, s, us, vs, bp, bv, wk, wb, ik, ib, r, st, ph, h1, h2, h3, h4, h5, h6⟩ := h
  have hold : OldB w bp ∧ ∀ b, bp = .pointer (some ⟨b, 0, none⟩) → base ≤ b := by
    rcases h5 with ⟨rfl, a2, a3⟩ | ⟨b, u, v, hm, m, rfl, a2, rfl, a4, a5, a6⟩
    · exact ⟨a2, a3⟩
    · rw [a2]
      exact ⟨a4.bt.old, fun b' e => by injection e with e; injection e with e; injection e with e; subst e; exact a4.lb⟩
  clear h5
  have hlen : (seenM st dm).kind.length = 10 ∧ (seenM st dm).body.length = 10 := by simp [seenM, h3.num]
  refine (lbegin_ok L _ _ s us vs bp bv wk wb ik ib r _ _ st (seenM st dm) base si sn so sp sx kv st0 sc w h1 h3.store hold.1 h4 (by omega) (by omega) (by omega)).mono ?_
  rintro e w' ⟨b, u', v', hm, wk', wb', rfl, kk, hl, hs, hb, q1, q2, q3, q4, hw⟩
  have hbas : ∀ g, (g = L ∨ g = s ∨ bp = .pointer (some ⟨g, 0, none⟩)) → base ≤ g := by
    rintro g (rfl | rfl | e)
    · exact h2
    · exact h3.ls
    · exact hold.2 g e
  have hfar : ∀ {g : Nat} {cs : Array Value} {t : TypeId} {fr : Nat × Nat}, w.heap[g]? = some (.cells cs t fr) → t ≠ 57 → t ≠ 90 → t ≠ 93 → ¬ (g = L ∨ g = s ∨ bp = .pointer (some ⟨g, 0, none⟩)) := by
    rintro g cs t fr hg n1 n2 n3 (rfl | rfl | e)
    · exact cells_ne hg h1 n1 rfl
    · exact cells_ne hg h3.store.head n2 rfl
    · exact hold.1.not_life hg n3 e
  have hx : DiskAt w' x dm := h3.disk.kept kk (fun g hg e => by
    rcases e with rfl | rfl | e
    · exact h3.disk.not_foot h1 (by decide) (by decide) (by decide) hg
    · exact h3.disk.not_foot h3.store.head (by decide) (by decide) (by decide) hg
    · rcases hold.1 with e0 | ⟨b0, z0, z1, z2, z3, z4, z5, z6, z7, z8, z9, z10, z11, z12, e0, hh⟩
      · rw [e0] at e; cases e
      · rw [e0] at e
        injection e with e; injection e with e; injection e with e
        subst e
        exact h3.disk.not_foot hh (by decide) (by decide) (by decide) hg)
  have hi := h4.kept kk (fun g hg => by obtain ⟨c, hc⟩ := row_cells h4.kind hg; exact hfar hc (by decide) (by decide) (by decide)) (fun g hg => by obtain ⟨c, hc⟩ := row_cells h4.body hg; exact hfar hc (by decide) (by decide) (by decide))
  obtain ⟨wb1, wb2⟩ := will_begin h3.looks h3.store.held.ok
  refine ⟨rfl, kept_base kk hbas, x, dm, s, us, vs, _, _, wk', wb', ik, ib, _, st, 1, hl, h2, { h3 with disk := hx, store := hs }, hi, .inr ⟨b, u', v', hm, ⟨st.now, [], false, st.dead⟩, rfl, rfl, rfl, ?_, fun e => (by cases e), Nat.le_refl _⟩, by omega⟩
  refine ⟨hb, wb1, ?_, Nat.le_trans hbw q1, Nat.le_trans hbw q2, fun g hg => Nat.le_trans hbw (q3 g hg), Nat.le_trans hbw q4, fun hf => ?_, fun g hg e => ?_, fun g hg e => ?_, fun g hg e => ?_⟩
  · rw [wb2]; exact ⟨ownsRow_low hw.kind hbw, ownsRow_low hw.body hbw⟩
  · have := h3.disk.foot_lt hf; omega
  · have h7 := q3 g e
    obtain ⟨c, hc⟩ := row_cells h3.store.held.set.row hg
    have := lt_of_heap hc
    omega
  · have h7 := (hw.kind.lt g e).1
    obtain ⟨c, hc⟩ := row_cells h4.kind hg
    have := lt_of_heap hc
    omega
  · have h7 := (hw.body.lt g e).1
    obtain ⟨c, hc⟩ := row_cells h4.body hg
    have := lt_of_heap hc
    omega
end Go.Proofs.YtabhieafjkaocaaGreat
/- life.step: Commit on a calm disk. (Printed by wip/tools/l6.py.) -/
namespace Go.Proofs.YtabhieafjkaocaaGreat
open Go.RowKit Go.Lib Go.Maps Bm
set_option linter.unusedVariables false
set_option linter.unusedSimpArgs false
set_option maxRecDepth 20000

set_option maxHeartbeats 4000000 in
theorem lstep6 (L j us : Nat) (vs bp wk wb ik ib : Value) (r q : Root8) (br : Bool) (b s u : Nat) (v : Value) (hm : Nat) (x : DiskH) (st : StM) (dm : DiskM) (m : BtM) (si sn : Int) (so : Bool) (sp : UInt8) (sx : List UInt8) (kv : Value) (st0 sc : Int) (w : World)
    (hL : w.heap[L]? = some (.cells (lifeC x.d j (.pointer (some ⟨s, 0, none⟩)) (.pointer (some ⟨b, 0, none⟩)) wk wb r ik ib q st.serial br true) 57 (0, 0)))
    (hB : BtAt w b s u v hm m) (hS : StAt w s x.d us vs bp st) (hX : DiskAt w x dm) (hme : m.ended = false) (hpos : ∀ y ∈ m.has, 0 < y.1) (hf : ¬ x.foot hm) (hser : st.next < 4611686018427387904) (hpl : dm.pend.length < 100000) (hcn : st.count ≤ dm.lies.length)
    (hwk : wk.oneCell' = true) (hwb : wb.oneCell' = true) (hj : j = st.count) (hj2 : j ≤ 199) (hcw : m.changed = true → ¬ room (st.count : Int) < m.size → (commitW st m dm).2 = 0) :
    Calls Tryz.prog 27 #[.pointer (some ⟨L, 0, none⟩), .agg #[.int .i64 6, .int .i64 si, .int .i64 sn, .bool so, .int .u8 (sp.toNat : Int), .string ⟨⟨sx⟩⟩, kv, .int .i64 st0, .int .i64 sc]] w fun e w' => ∃ (x' : DiskH) (u' : Nat) (v' : Value), e = .returned (.tuple #[]) ∧ Kept (fun k => x.foot k ∨ k = s ∨ k = b ∨ k = hm ∨ k = L) w w' ∧
      DiskAt w' x' (commitM st m dm).2.2.1 ∧ x'.d = x.d ∧ (∀ g, x'.foot g → x.foot g ∨ w.heap.size ≤ g) ∧ StAt w' s x.d u' v' bp (commitM st m dm).1 ∧ BtAt w' b s u v hm (commitM st m dm).2.1 ∧ ((u' = us ∧ v' = vs) ∨ (u' = u ∧ v' = v ∧ ¬ (room (st.count : Int) < m.size ∨ m.changed = false))) ∧
      w'.heap[L]? = some (.cells (if (commitM st m dm).2.2.2 = 60 then lifeC x.d j (.pointer (some ⟨s, 0, none⟩)) (.pointer (some ⟨b, 0, none⟩)) wk wb r ik ib q st.serial br true else lifeC x.d j (.pointer (some ⟨s, 0, none⟩)) (.pointer none) wk wb r wk wb r (commitM st m dm).1.serial br true) 57 (0, 0)) := by
  have HL := Lib.hid hL
  have hlc := fun w' (k : Kept No w w') => lcommit_ok L j us vs bp wk wb ik ib r q br b s u v hm x st dm m si sn so sp sx kv st0 sc w' (k.heap hL (fun h => h)) (hB.no k) (hS.no k) (hX.kept k (fun _ _ h => h)) hme hpos hf hser hpl hcn hwk hwb hj hj2 hcw
  generalize hALT : (¬ (room (st.count : Int) < m.size ∨ m.changed = false)) = ALTP at hlc ⊢
  clear hALT
  generalize hC : commitM st m dm = C at *
  clear hC
  generalize hCS : (if C.2.2.2 = 60 then lifeC x.d j (.pointer (some ⟨s, 0, none⟩)) (.pointer (some ⟨b, 0, none⟩)) wk wb r ik ib q st.serial br true else lifeC x.d j (.pointer (some ⟨s, 0, none⟩)) (.pointer none) wk wb r wk wb r C.1.serial br true) = CS at hlc ⊢
  have HLC := Lib.hid hlc
  clear hCS hL hlc hB hS hX hme hpos hf hser hpl hcn hwk hwb hj hj2 hcw
  go_enter Tryz.func27, Tryz.ntmps27
  go_upto_region 1 with fail
  have hX := heap_alloc_new w (.cells #[.int .i64 6, .int .i64 si, .int .i64 sn, .bool so, .int .u8 (sp.toNat : Int), .string ⟨⟨sx⟩⟩, kv, .int .i64 st0, .int .i64 sc] 62)
  have k1 : Kept No w (w.alloc (.cells #[.int .i64 6, .int .i64 si, .int .i64 sn, .bool so, .int .u8 (sp.toNat : Int), .string ⟨⟨sx⟩⟩, kv, .int .i64 st0, .int .i64 sc] 62)) := (Kept.refl _ _).alloc _
  have hL1 := k1.heap HL.out (fun h => h)
  have K1 := Lib.hid k1
  generalize (w.alloc (.cells #[.int .i64 6, .int .i64 si, .int .i64 sn, .bool so, .int .u8 (sp.toNat : Int), .string ⟨⟨sx⟩⟩, kv, .int .i64 st0, .int .i64 sc] 62)) = w1 at *
  generalize hXs : w.heap.size = X at *
  have HXS := Lib.hid hXs
  clear hXs
  have x0 : w1.cell? ⟨X, 0, none⟩ = some (.int .i64 6) := (cell_of_row w1 X 0 _ _ _ hX).trans rfl
  have l3 : w1.cell? ⟨L, 3, none⟩ = some (.pointer (some ⟨b, 0, none⟩)) := (cell_of_row w1 L 3 _ _ _ hL1).trans rfl
  have HX := Lib.hid hX
  clear hX hL1 k1
  go_wp2_with (first
    | (refine wpList_load_row (by rfl) 62 (.tmp 3) (by rfl) X (by rfl) _ _ _ _ HX.out Tryz.underlying62 (by rfl) (by exact step_size) ?_)
    | (go_at_call 63; refine (HLC.out _ K1.out).mono ?_; rintro e w2 ⟨x', u', v', rfl, k2, hd, hx2, hf2, hs2, hb2, ha2, hl2⟩; have HP := Lib.hid (And.intro k2 (And.intro hd (And.intro hx2 (And.intro hf2 (And.intro hs2 (And.intro hb2 (And.intro ha2 hl2))))))); clear k2 hd hx2 hf2 hs2 hb2 ha2 hl2))
  go_end0
  obtain ⟨k2, hd, hx2, hf2, hs2, hb2, ha2, hl2⟩ := HP.out
  have kall := (K1.out.of_no (fun k => x.foot k ∨ k = s ∨ k = b ∨ k = hm ∨ k = L)).trans k2
  have hf3 : ∀ g, x'.foot g → x.foot g ∨ w.heap.size ≤ g := fun g hg => (hf2 g hg).imp id (fun h => Nat.le_trans K1.out.size h)
  first
    | exact ⟨x', u', v', rfl, kall, hd, hx2, hf3, hs2, hb2, ha2, hl2⟩
    | exact ⟨rfl, kall, x', u', v', hd, hx2, hf3, hs2, hb2, ha2, hl2⟩
    | exact ⟨rfl, kall, x', hd, hx2, hf3, u', v', hs2, hb2, ha2, hl2⟩
end Go.Proofs.YtabhieafjkaocaaGreat
/- StoreUnseen: a life's Commit. -/
namespace Go.Proofs.YtabhieafjkaocaaGreat
open Go.RowKit Go.Lib Bm
set_option linter.unusedVariables false
set_option linter.unusedSimpArgs false
set_option maxRecDepth 20000

theorem life6 {base D L k : Nat} {w : World} (h : LifeAt base D w L k) (hbw : base ≤ w.heap.size) (hk : k ≤ 9223372036854775807) (si sn : Int) (so : Bool) (sp : UInt8) (sx : List UInt8) (kv : Value) (st0 sc : Int) :
    Calls Tryz.prog 27 #[.pointer (some ⟨L, 0, none⟩), .agg #[.int .i64 6, .int .i64 si, .int .i64 sn, .bool so, .int .u8 (sp.toNat : Int), .string ⟨⟨sx⟩⟩, kv, .int .i64 st0, .int .i64 sc]] w fun e w' => e = .returned (.tuple #[]) ∧ Kept (fun g => base ≤ g) w w' ∧ LifeAt base D w' L (k + 1) := by
  have H := h
  obtain ⟨x, dm, s, us, vs, bp, bv, wk, wb, ik, ib, r, st, ph, h1, h2, h3, h4, h5, h6⟩ := h
  rcases h5 with ⟨rfl, a2, a3⟩ | ⟨b, u, v, hm, m, rfl, a2, rfl, a4, a5, a6⟩
  · refine (lnil6 L _ _ _ _ _ _ _ _ _ _ _ _ si sn so sp sx kv st0 sc w h1).mono ?_
    rintro e w' ⟨rfl, kk⟩
    exact ⟨rfl, kk.of_no _, H.no kk⟩
  have hcnt := h3.cnt
  have hnum := h3.num
  have hlen : dm.lies.length = 16 := h3.calm.len
  have hnn : m.held.n = 10 := by have := a4.grown.kl; simp [seenM] at this; omega
  have hser : st.next < 4611686018427387904 := by omega
  have hlt := h3.store.next.1
  have hpos : ∀ y ∈ m.has, 0 < y.1 := fun y hy => (mem_low a4.grown.ok (a4.grown.has y hy)).1
  have hlow : ∀ y ∈ m.has, y.1 < m.held.n := fun y hy => (mem_low a4.grown.ok (a4.grown.has y hy)).2
  obtain ⟨DD, hD⟩ := a4.bt.has
  have hsz : m.changed = true → m.size = m.pages.length := fun hc => by unfold BtM.size BtM.pages; rw [if_neg (by simp [a4.grown.live, hc])]; simp; omega
  have hfit : m.changed = true → ¬ room (st.count : Int) < m.size → Fit st.count m.pages := fun hc hr => fit_pages hD a4.grown.ok hpos (by rw [← hsz hc]; omega)
  have hcalm : m.changed = true → ¬ room (st.count : Int) < m.size → _ := fun hc hr => commit_calm (st := st) h3.calm (by omega) (by omega) (hfit hc hr) (by omega) (by omega) hlow (by omega)
  obtain ⟨ka, kc, hwk⟩ := row_slice a4.will.kind
  obtain ⟨ta, tc, hwb⟩ := row_slice a4.will.body
  have hcc := commit_cases st m dm a4.grown.live (by omega) (by omega) hlt (fun hc hr => (hcalm hc hr).1)
  rw [← hcnt] at h1
  refine (lstep6 L _ us vs bp wk wb ik ib m.held.root st.now.root false b s u v hm x st dm m si sn so sp sx kv st0 sc w h1 a4.bt h3.store h3.disk a4.grown.live hpos a4.far hser (by rw [h3.calm.pend]; simp) (by omega) (by rw [hwk]; rfl) (by rw [hwb]; rfl) rfl (by omega) (fun hc hr => (hcalm hc hr).1)).mono ?_
  rintro e w' ⟨x', u', v', rfl, kk, hd, hxd, hf, hs, hb, hal, hl⟩
  obtain ⟨es, clock, hmb⟩ : ∃ es clock, w.heap[hm]? = some (.map es clock) := by obtain ⟨es, clock, hh, -⟩ := hD.own; exact ⟨es, clock, hh⟩
  have hfar : ∀ {g : Nat} {cs : Array Value} {t : TypeId} {fr : Nat × Nat}, w.heap[g]? = some (.cells cs t fr) → (t = 3 ∨ t = 9) → ¬ (x.foot g ∨ g = s ∨ g = b ∨ g = hm ∨ g = L) := by
    intro g cs t fr hg ht e
    rcases e with e | rfl | rfl | rfl | rfl
    · exact h3.disk.not_foot hg (by rcases ht with rfl | rfl <;> decide) (by rcases ht with rfl | rfl <;> decide) (by rcases ht with rfl | rfl <;> decide) e
    · exact cells_ne hg h3.store.head (by rcases ht with rfl | rfl <;> decide) rfl
    · exact cells_ne hg a4.bt.head (by rcases ht with rfl | rfl <;> decide) rfl
    · exact map_ne hg hmb rfl
    · exact cells_ne hg h1 (by rcases ht with rfl | rfl <;> decide) rfl
  have hI : SeenAt w' base ik ib (seenM st dm) := h4.kept kk (fun g hg => by obtain ⟨c, hc⟩ := row_cells h4.kind hg; exact hfar hc (.inl rfl)) (fun g hg => by obtain ⟨c, hc⟩ := row_cells h4.body hg; exact hfar hc (.inr rfl))
  have hW : SeenAt w' base wk wb (willM (seenM st dm) m) := a4.will.kept kk (fun g hg => by obtain ⟨c, hc⟩ := row_cells a4.will.kind hg; exact hfar hc (.inl rfl)) (fun g hg => by obtain ⟨c, hc⟩ := row_cells a4.will.body hg; exact hfar hc (.inr rfl))
  have hkb : Kept (fun g => base ≤ g) w w' := kept_base kk (by
    rintro g (e | rfl | rfl | rfl | rfl)
    · exact h3.foot g e
    · exact h3.ls
    · exact a4.lb
    · exact a4.lh
    · exact h2)
  have hx' : ∀ g, x'.foot g → base ≤ g := fun g hg => (hf g hg).elim (h3.foot g) (fun h => Nat.le_trans hbw h)
  have hfm : ¬ x'.foot hm := fun h => (hf hm h).elim a4.far (fun h => by have := (Array.getElem?_eq_some_iff.1 hmb).1; omega)
  have hbpb : ∀ b', bp = .pointer (some ⟨b', 0, none⟩) → base ≤ b' := fun b' e => by
    rw [a2] at e
    injection e with e; injection e with e; injection e with e
    subst e
    exact a4.lb
  rcases hcc with ⟨_, hce, hgt⟩ | ⟨_, hs0, hch, hce⟩ | ⟨_, hs0, hch, hpl, hce⟩
  · rw [hce] at hd hs hb hl
    simp only [if_true] at hd hs hb hl
    obtain ⟨rfl, rfl⟩ := hal.resolve_right (fun h => h.2.2 (.inl (by unfold room; omega)))
    refine ⟨rfl, hkb, x', dm, s, u', v', bp, _, wk, wb, ik, ib, _, st, ph, ?_, h2, { h3 with disk := hd, store := by rw [hxd]; exact hs, foot := hx' }, hI, .inr ⟨b, u, v, hm, m, rfl, a2, rfl, { a4 with bt := hb, will := hW, far := hfm }, a5, a6⟩, by omega⟩
    rw [hxd, ← hcnt]; exact hl
  · rw [hce] at hd hs hb hl
    simp only at hd hs hb hl
    rw [if_neg (by decide)] at hl
    obtain ⟨rfl, rfl⟩ := hal.resolve_right (fun h => h.2.2 (.inr hch))
    have hsame := (a4.grown.same hch).2
    have hroot : m.held.root = st.now.root := congrArg SeenM.root hsame
    rw [hsame] at hW
    refine ⟨rfl, hkb, x', dm, s, u', v', bp, _, wk, wb, wk, wb, st.now.root, st, 0, ?_, h2, { h3 with disk := hd, store := by rw [hxd]; exact hs, foot := hx' }, hW, .inl ⟨rfl, by rw [a2]; exact hb.old, hbpb⟩, by omega⟩
    rw [hxd, ← hcnt]
    rw [hroot] at hl
    exact hl
  · rw [hce] at hd hs hb hl
    simp only at hd hs hb hl
    rw [if_neg (by decide)] at hl
    have hnr : ¬ room (st.count : Int) < m.size := by rw [hsz hch]; omega
    obtain ⟨c1, c2, c3⟩ := hcalm hch hnr
    obtain ⟨q1, q2⟩ := commit_seen (N := 16) h3.looks h3.store.held.ok a4.grown h3.calm.off c2.off (fun y hy => (hD.ok y hy).2) (by omega) (by unfold room at hpl; omega) hlt (by omega) c3
    rw [← q2] at hW
    refine ⟨rfl, hkb, x', (commitW st m dm).1, s, u', v', bp, _, wk, wb, wk, wb, m.held.root, st.done m, 0, ?_, h2, ⟨hd, c2, by rw [hxd]; exact hs, hcnt, hnn, q1, hx', h3.ls, ?_, ?_⟩, hW, .inl ⟨rfl, by rw [a2]; exact hb.old, hbpb⟩, ?_⟩
    · rw [hxd, ← hcnt]; exact hl
    · rcases hal with ⟨rfl, rfl⟩ | ⟨rfl, rfl, _⟩
      · exact h3.lus
      · exact a4.lu
    · rcases hal with ⟨rfl, rfl⟩ | ⟨rfl, rfl, _⟩
      · exact h3.lvs
      · exact a4.lv
    · have := a5 hch
      show 3 * (st.next + 1) + 0 ≤ 7 + (k + 1) ∧ x'.d = D
      omega
end Go.Proofs.YtabhieafjkaocaaGreat
/- StoreUnseen: a life's step, of any kind but Open, Fuse, Crash. -/
namespace Go.Proofs.YtabhieafjkaocaaGreat
open Go.RowKit Go.Lib Bm
set_option linter.unusedVariables false
set_option linter.unusedSimpArgs false

theorem life_step {base D L k : Nat} {w : World} (h : LifeAt base D w L k) (hbw : base ≤ w.heap.size) (hk : k ≤ 9223372036854775807) (x : StepM) (kv : Value) (hx : StepIn w x kv) (h0 : x.kind ≠ 0) (h9 : x.kind ≠ 9) (h10 : x.kind ≠ 10) :
    Calls Tryz.prog 27 #[.pointer (some ⟨L, 0, none⟩), .agg ⟨stepC x kv⟩] w fun e w' => e = .returned (.tuple #[]) ∧ Kept (fun g => base ≤ g) w w' ∧ LifeAt base D w' L (k + 1) := by
  obtain ⟨kd, i, n, o, p, t, kp, tn, cu⟩ := x
  have hi := hx.i
  have ht := hx.text
  simp only at h0 h9 h10 hi ht
  by_cases e1 : kd = 1
  · subst e1; exact life1 h hbw i n o p t kv tn cu
  by_cases e2 : kd = 2
  · subst e2; exact life2 h i n o p t kv tn cu hi ht
  by_cases e3 : kd = 3
  · subst e3; exact life3 h i n o p t kv tn cu hi ht
  by_cases e4 : kd = 4
  · subst e4; exact life4 h i n o p t kv tn cu hi ht
  by_cases e5 : kd = 5
  · subst e5; exact life5 h i n o p t kv tn cu hi ht
  by_cases e6 : kd = 6
  · subst e6; exact life6 h hbw hk i n o p t kv tn cu
  by_cases e7 : kd = 7
  · subst e7; exact life7 h i n o p t kv tn cu
  exact life_other h kd i n o p t kv tn cu ⟨h0, e1, e2, e3, e4, e5, e6, e7, h9, h10⟩
end Go.Proofs.YtabhieafjkaocaaGreat
/- StoreUnseen: what its walk leans on. -/
namespace Go.Proofs.YtabhieafjkaocaaGreat
open Go.RowKit Go.Lib Go.Maps Bm
set_option linter.unusedVariables false
set_option linter.unusedSimpArgs false
set_option maxRecDepth 20000

theorem over_is2 (d j : Nat) (sv bv wk wb kv' bv' : Value) (r : Root8) (ik ib : Value) (q q' : Root8) (ser : Nat) (br ok : Bool) : over (lifeC d j sv bv wk wb r ik ib q ser br ok) 14 (seenC kv' bv' q').toList = lifeC d j sv bv wk wb r kv' bv' q' ser br ok := rfl
/-- A step's cells, one by one. -/
theorem step_cells {w : World} {b off i : Nat} {kd si sn : Int} {so : Bool} {sp : UInt8} {sx : List UInt8} {kp : List Bool} {st0 sc : Int} {kv : Value} (h : ∀ j c, (stepC ⟨kd, si, sn, so, sp, sx, kp, st0, sc⟩ kv)[j]? = some c → w.cell? ⟨b, off + i * 9 + j, none⟩ = some c) :
    w.cell? ⟨b, off + i * 9, none⟩ = some (.int .i64 kd) ∧ w.cell? ⟨b, off + i * 9 + 1, none⟩ = some (.int .i64 si) ∧ w.cell? ⟨b, off + i * 9 + 2, none⟩ = some (.int .i64 sn) ∧ w.cell? ⟨b, off + i * 9 + 3, none⟩ = some (.bool so) ∧
    w.cell? ⟨b, off + i * 9 + 4, none⟩ = some (.int .u8 (sp.toNat : Int)) ∧ w.cell? ⟨b, off + i * 9 + 5, none⟩ = some (.string ⟨⟨sx⟩⟩) ∧ w.cell? ⟨b, off + i * 9 + 6, none⟩ = some kv ∧ w.cell? ⟨b, off + i * 9 + 7, none⟩ = some (.int .i64 st0) ∧ w.cell? ⟨b, off + i * 9 + 8, none⟩ = some (.int .i64 sc) :=
  ⟨h 0 _ rfl, h 1 _ rfl, h 2 _ rfl, h 3 _ rfl, h 4 _ rfl, h 5 _ rfl, h 6 _ rfl, h 7 _ rfl, h 8 _ rfl⟩
theorem LifeAt.mono {base D L k k' : Nat} {w : World} (h : LifeAt base D w L k) (hk : k ≤ k') : LifeAt base D w L k' := by
  obtain ⟨x, dm, s, us, vs, bp, bv, wk, wb, ik, ib, r, st, ph, h1, h2, h3, h4, h5, h6⟩ := h
  exact ⟨x, dm, s, us, vs, bp, bv, wk, wb, ik, ib, r, st, ph, h1, h2, h3, h4, h5, by omega⟩
/-- What is base or above did not stand at the start. -/
theorem kept_from {w w1 w2 : World} {base : Nat} (k : Kept (fun g => base ≤ g) w w1) (hb : w.heap.size ≤ base) : Kept No w w1 := k.mono fun g hg e => absurd hg (by omega)
theorem lstep_any (L d j : Nat) (sv wk wb ik ib : Value) (q : Root8) (ser : Nat) (br : Bool) (b s u : Nat) (v : Value) (hm : Nat) (m : BtM) (is : SeenM) (base : Nat) (kd si sn : Int) (so : Bool) (sp : UInt8) (sx : List UInt8) (kv : Value) (st0 sc : Int) (w : World)
    (hL : w.heap[L]? = some (.cells (lifeC d j sv (.pointer (some ⟨b, 0, none⟩)) wk wb m.held.root ik ib q ser br true) 57 (0, 0))) (hB : BtAt w b s u v hm m) (hG : Grown is m) (hS : SeenAt w base wk wb (willM is m))
    (hsi : I64 si) (hsx : sx.length ≤ 9223372036854775807) (hk : 2 ≤ kd ∧ kd ≤ 5) :
    Calls Tryz.prog 27 #[.pointer (some ⟨L, 0, none⟩), .agg #[.int .i64 kd, .int .i64 si, .int .i64 sn, .bool so, .int .u8 (sp.toNat : Int), .string ⟨⟨sx⟩⟩, kv, .int .i64 st0, .int .i64 sc]] w fun e w' => ∃ m', e = .returned (.tuple #[]) ∧ Kept (ChF L b v hm wk wb) w w' ∧
      w'.heap[L]? = some (.cells (lifeC d j sv (.pointer (some ⟨b, 0, none⟩)) wk wb m'.held.root ik ib q ser br true) 57 (0, 0)) ∧ BtAt w' b s u v hm m' ∧ Grown is m' ∧ SeenAt w' base wk wb (willM is m') ∧ m'.held.n = m.held.n := by
  have hk' : kd = 2 ∨ kd = 3 ∨ kd = 4 ∨ kd = 5 := by omega
  rcases hk' with rfl | rfl | rfl | rfl
  · exact lstep2 L d j sv wk wb ik ib q ser br b s u v hm m is base si sn so sp sx kv st0 sc w hL hB hG hS hsi hsx
  · exact lstep3 L d j sv wk wb ik ib q ser br b s u v hm m is base si sn so sp sx kv st0 sc w hL hB hG hS hsi hsx
  · exact lstep4 L d j sv wk wb ik ib q ser br b s u v hm m is base si sn so sp sx kv st0 sc w hL hB hG hS hsi hsx
  · exact lstep5 L d j sv wk wb ik ib q ser br b s u v hm m is base si sn so sp sx kv st0 sc w hL hB hG hS hsi hsx
theorem cell_kept {w0 : World} {g o : Nat} {cs : Array Value} {t : TypeId} {fr : Nat × Nat} {v : Value} (hg : w0.heap[g]? = some (.cells cs t fr)) (hv : cs[o]? = some v) : ∀ w', Kept No w0 w' → w'.cell? ⟨g, o, none⟩ = some v := fun w' k => by
  rw [cell_of_row w' g o _ _ _ (k.heap hg (fun h => h))]; exact hv
theorem bptr_not (a : Nat) (w : World) : (binOp .eql 23 (.pointer (some ⟨a, 0, none⟩)) (.pointer none)).run Tryz.prog w = .ok (.bool false) w := by kernel_rfl
end Go.Proofs.YtabhieafjkaocaaGreat
