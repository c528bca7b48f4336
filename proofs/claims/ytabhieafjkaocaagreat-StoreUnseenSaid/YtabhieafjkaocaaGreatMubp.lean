/- Merged by wip/tools/merge.py out of: LfG. -/
import Derived.Test.YtabhieafjkaocaaGreatMubo
/- StoreUnseen: how a life stands, and goes on: what is kept apart. No walk. -/
namespace Go.Proofs.YtabhieafjkaocaaGreat
open Go.RowKit Go.Lib Bm
set_option linter.unusedVariables false
set_option linter.unusedSimpArgs false
set_option maxRecDepth 20000

def Apart (v v' : Value) : Prop := ∀ g, v.ownBlock = some g → v'.ownBlock ≠ some g

/-- A store that lies calm on a disk, and can be looked at. -/
structure StoreIn (base : Nat) (w : World) (x : DiskH) (dm : DiskM) (s us : Nat) (vs bp : Value) (st : StM) : Prop where
  disk : DiskAt w x dm
  calm : CalmD dm 16
  store : StAt w s x.d us vs bp st
  cnt : st.count = 6
  num : st.now.n = 10
  looks : Looks st dm
  foot : ∀ g, x.foot g → base ≤ g
  ls : base ≤ s
  lus : base ≤ us
  lvs : ∀ g, vs.ownBlock = some g → base ≤ g

/-- A batch that goes on, and what it makes of what there is. -/
structure LiveIn (base : Nat) (w : World) (x : DiskH) (s us : Nat) (vs : Value) (b u : Nat) (v : Value) (hm : Nat) (m : BtM) (is : SeenM) (wk wb ik ib : Value) : Prop where
  bt : BtAt w b s u v hm m
  grown : Grown is m
  will : SeenAt w base wk wb (willM is m)
  lb : base ≤ b
  lu : base ≤ u
  lv : ∀ g, v.ownBlock = some g → base ≤ g
  lh : base ≤ hm
  far : ¬ x.foot hm
  apart : Apart vs v
  k : Apart ik wk
  t : Apart ib wb

/-- What the changes of a batch write: which blocks they are not. -/
theorem LiveIn.far' {base : Nat} {w : World} {x : DiskH} {s us : Nat} {vs : Value} {b u : Nat} {v : Value} {hm : Nat} {m : BtM} {is : SeenM} {wk wb ik ib : Value} (h : LiveIn base w x s us vs b u v hm m is wk wb ik ib) {L : Nat} {cl : Array Value}
    (hL : w.heap[L]? = some (.cells cl 57 (0, 0))) {g : Nat} {cs : Array Value} {t : TypeId} {fr : Nat × Nat} (hg : w.heap[g]? = some (.cells cs t fr)) (h0 : t ≠ 57) (h1 : t ≠ 93) (h2 : t ≠ 26)
    (h3 : t ≠ 3) (h4 : t ≠ 9) : ¬ ChF L b v hm wk wb g := by
  rintro (rfl | e | e | e)
  · exact cells_ne hg hL h0 rfl
  · exact h.bt.far hg h1 h2 e
  · obtain ⟨cs', hc⟩ := row_cells h.will.kind e
    exact cells_ne hg hc h3 rfl
  · obtain ⟨cs', hc⟩ := row_cells h.will.body e
    exact cells_ne hg hc h4 rfl
theorem LiveIn.foot' {base : Nat} {w : World} {x : DiskH} {dm : DiskM} {s us : Nat} {vs : Value} {b u : Nat} {v : Value} {hm : Nat} {m : BtM} {is : SeenM} {wk wb ik ib : Value} (h : LiveIn base w x s us vs b u v hm m is wk wb ik ib) {L : Nat} {cl : Array Value}
    (hL : w.heap[L]? = some (.cells cl 57 (0, 0))) (hX : DiskAt w x dm) {g : Nat} (hg : x.foot g) : ¬ ChF L b v hm wk wb g := by
  rintro (rfl | (rfl | e | rfl) | e | e)
  · exact hX.not_foot hL (by decide) (by decide) (by decide) hg
  · exact hX.not_foot h.bt.head (by decide) (by decide) (by decide) hg
  · obtain ⟨cs, hc⟩ := row_cells h.bt.held.set.row e
    exact hX.not_foot hc (by decide) (by decide) (by decide) hg
  · exact h.far hg
  · obtain ⟨cs, hc⟩ := row_cells h.will.kind e
    exact hX.not_foot hc (by decide) (by decide) (by decide) hg
  · obtain ⟨cs, hc⟩ := row_cells h.will.body e
    exact hX.not_foot hc (by decide) (by decide) (by decide) hg
theorem StoreIn.change {base : Nat} {w w' : World} {x : DiskH} {dm : DiskM} {s us : Nat} {vs bp : Value} {st : StM} {b u : Nat} {v : Value} {hm : Nat} {m : BtM} {is : SeenM} {wk wb ik ib : Value} (hs : StoreIn base w x dm s us vs bp st) (h : LiveIn base w x s us vs b u v hm m is wk wb ik ib) {L : Nat} {cl : Array Value}
    (hL : w.heap[L]? = some (.cells cl 57 (0, 0))) (k : Kept (ChF L b v hm wk wb) w w') : StoreIn base w' x dm s us vs bp st :=
  { disk := hs.disk.kept k fun g hg => h.foot' hL hs.disk hg
    calm := hs.calm
    store := hs.store.kept k (h.far' hL hs.store.head (by decide) (by decide) (by decide) (by decide) (by decide)) (h.far' hL hs.store.held.set.head (by decide) (by decide) (by decide) (by decide) (by decide)) (fun g hg e => by
      obtain ⟨cs, hc⟩ := row_cells hs.store.held.set.row hg
      rcases e with rfl | (rfl | e | rfl) | e | e
      · exact cells_ne hc hL (by decide) rfl
      · exact cells_ne hc h.bt.head (by decide) rfl
      · exact h.apart g hg e
      · obtain ⟨D, hD⟩ := h.bt.has
        obtain ⟨es, clock, hb, _⟩ := hD.own
        exact map_ne hc hb rfl
      · obtain ⟨cs', hc'⟩ := row_cells h.will.kind e
        exact cells_ne hc hc' (by decide) rfl
      · obtain ⟨cs', hc'⟩ := row_cells h.will.body e
        exact cells_ne hc hc' (by decide) rfl)
    cnt := hs.cnt
    num := hs.num
    looks := hs.looks
    foot := hs.foot
    ls := hs.ls
    lus := hs.lus
    lvs := hs.lvs }
/-- Rows of ints and texts of another look are kept. -/
theorem LiveIn.seen {base base' : Nat} {w w' : World} {x : DiskH} {s us : Nat} {vs : Value} {b u : Nat} {v : Value} {hm : Nat} {m : BtM} {is : SeenM} {wk wb ik ib kv bv : Value} {o : SeenM} (h : LiveIn base w x s us vs b u v hm m is wk wb ik ib) {L : Nat} {cl : Array Value}
    (hL : w.heap[L]? = some (.cells cl 57 (0, 0))) (ho : SeenAt w base' kv bv o) (h1 : Apart kv wk) (h2 : Apart bv wb) (k : Kept (ChF L b v hm wk wb) w w') : SeenAt w' base' kv bv o := by
  obtain ⟨D, hD⟩ := h.bt.has
  obtain ⟨es, clock, hb, _⟩ := hD.own
  refine ho.kept k (fun g hg e => ?_) (fun g hg e => ?_)
  · obtain ⟨cs, hc⟩ := row_cells ho.kind hg
    rcases e with rfl | e | e | e
    · exact cells_ne hc hL (by decide) rfl
    · exact h.bt.far hc (by decide) (by decide) e
    · exact h1 g hg e
    · obtain ⟨cs', hc'⟩ := row_cells h.will.body e
      exact cells_ne hc hc' (by decide) rfl
  · obtain ⟨cs, hc⟩ := row_cells ho.body hg
    rcases e with rfl | e | e | e
    · exact cells_ne hc hL (by decide) rfl
    · exact h.bt.far hc (by decide) (by decide) e
    · obtain ⟨cs', hc'⟩ := row_cells h.will.kind e
      exact cells_ne hc hc' (by decide) rfl
    · exact h2 g hg e
theorem LiveIn.change {base : Nat} {w w' : World} {x : DiskH} {s us : Nat} {vs : Value} {b u : Nat} {v : Value} {hm : Nat} {m m' : BtM} {is : SeenM} {wk wb ik ib : Value} (h : LiveIn base w x s us vs b u v hm m is wk wb ik ib) (hb : BtAt w' b s u v hm m') (hg : Grown is m') (hw : SeenAt w' base wk wb (willM is m')) :
    LiveIn base w' x s us vs b u v hm m' is wk wb ik ib := { h with bt := hb, grown := hg, will := hw }

/-- How a life stands between two steps. -/
def LifeAt (base D : Nat) (w : World) (L k : Nat) : Prop := ∃ (x : DiskH) (dm : DiskM) (s us : Nat) (vs bp bv wk wb ik ib : Value) (r : Root8) (st : StM) (ph : Nat),
  w.heap[L]? = some (.cells (lifeC x.d 6 (.pointer (some ⟨s, 0, none⟩)) bv wk wb r ik ib st.now.root st.serial false true) 57 (0, 0)) ∧ base ≤ L ∧ StoreIn base w x dm s us vs bp st ∧ SeenAt w base ik ib (seenM st dm) ∧
  ((bv = .pointer none ∧ OldB w bp ∧ (∀ b, bp = .pointer (some ⟨b, 0, none⟩) → base ≤ b)) ∨
    (∃ b u v hm m, bv = .pointer (some ⟨b, 0, none⟩) ∧ bp = bv ∧ r = m.held.root ∧ LiveIn base w x s us vs b u v hm m (seenM st dm) wk wb ik ib ∧ (m.changed = true → 2 ≤ ph) ∧ 1 ≤ ph)) ∧
  3 * st.next + ph ≤ 7 + k ∧ x.d = D
end Go.Proofs.YtabhieafjkaocaaGreat
