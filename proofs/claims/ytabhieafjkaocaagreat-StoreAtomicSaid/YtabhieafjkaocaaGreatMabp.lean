/- A part. -/
import Derived.Test.YtabhieafjkaocaaGreatMabo
set_option linter.unusedVariables false
set_option linter.unusedSimpArgs false
namespace Go.Proofs.YtabhieafjkaocaaGreat
open Go.RowKit Go.Lib Bm
set_option maxRecDepth 20000
def Apart (v v' : Value) : Prop := ∀ g, v.ownBlock = some g → v'.ownBlock ≠ some g
structure LiveIn (base : Nat) (w : World) (x : DiskH) (s us : Nat) (vs : Value) (b u : Nat) (v : Value) (hm : Nat) (m : BtM) (is : SeenM) (wk wb ik ib : Value) : Prop where
  bt : BtAt w b s u v hm m
  grown : Grown is m
  will : SeenAt w base wk wb (willM is m)
  lb : base ≤ b
  lu : base ≤ u
  lv : ∀ g, v.ownBlock = some g → base ≤ g
  lh : base ≤ hm
  far : ¬ x.foot hm
  apart : Apart vs v
  k : Apart ik wk
  t : Apart ib wb
theorem LiveIn.far' {base : Nat} {w : World} {x : DiskH} {s us : Nat} {vs : Value} {b u : Nat} {v : Value} {hm : Nat} {m : BtM} {is : SeenM} {wk wb ik ib : Value} (h : LiveIn base w x s us vs b u v hm m is wk wb ik ib) {L : Nat} {cl : Array Value}
    (hL : w.heap[L]? = some (.cells cl 57 (0, 0))) {g : Nat} {cs : Array Value} {t : TypeId} {fr : Nat × Nat} (hg : w.heap[g]? = some (.cells cs t fr)) (h0 : t ≠ 57) (h1 : t ≠ 93) (h2 : t ≠ 26)
    (h3 : t ≠ 3) (h4 : t ≠ 9) : ¬ ChF L b v hm wk wb g := by
  rintro (rfl | e | e | e)
  · exact cells_ne hg hL h0 rfl
  · exact h.bt.far hg h1 h2 e
  · obtain ⟨cs', hc⟩ := row_cells h.will.kind e
    exact cells_ne hg hc h3 rfl
  · obtain ⟨cs', hc⟩ := row_cells h.will.body e
    exact cells_ne hg hc h4 rfl
theorem LiveIn.foot' {base : Nat} {w : World} {x : DiskH} {dm : DiskM} {s us : Nat} {vs : Value} {b u : Nat} {v : Value} {hm : Nat} {m : BtM} {is : SeenM} {wk wb ik ib : Value} (h : LiveIn base w x s us vs b u v hm m is wk wb ik ib) {L : Nat} {cl : Array Value}
    (hL : w.heap[L]? = some (.cells cl 57 (0, 0))) (hX : DiskAt w x dm) {g : Nat} (hg : x.foot g) : ¬ ChF L b v hm wk wb g := by
  rintro (rfl | (rfl | e | rfl) | e | e)
  · exact hX.not_foot hL (by decide) (by decide) (by decide) hg
  · exact hX.not_foot h.bt.head (by decide) (by decide) (by decide) hg
  · obtain ⟨cs, hc⟩ := row_cells h.bt.held.set.row e
    exact hX.not_foot hc (by decide) (by decide) (by decide) hg
  · exact h.far hg
  · obtain ⟨cs, hc⟩ := row_cells h.will.kind e
    exact hX.not_foot hc (by decide) (by decide) (by decide) hg
  · obtain ⟨cs, hc⟩ := row_cells h.will.body e
    exact hX.not_foot hc (by decide) (by decide) (by decide) hg
theorem LiveIn.seen {base base' : Nat} {w w' : World} {x : DiskH} {s us : Nat} {vs : Value} {b u : Nat} {v : Value} {hm : Nat} {m : BtM} {is : SeenM} {wk wb ik ib kv bv : Value} {o : SeenM} (h : LiveIn base w x s us vs b u v hm m is wk wb ik ib) {L : Nat} {cl : Array Value}
    (hL : w.heap[L]? = some (.cells cl 57 (0, 0))) (ho : SeenAt w base' kv bv o) (h1 : Apart kv wk) (h2 : Apart bv wb) (k : Kept (ChF L b v hm wk wb) w w') : SeenAt w' base' kv bv o := by
  obtain ⟨D, hD⟩ := h.bt.has
  obtain ⟨es, clock, hb, _⟩ := hD.own
  refine ho.kept k (fun g hg e => ?_) (fun g hg e => ?_)
  · obtain ⟨cs, hc⟩ := row_cells ho.kind hg
    rcases e with rfl | e | e | e
    · exact cells_ne hc hL (by decide) rfl
    · exact h.bt.far hc (by decide) (by decide) e
    · exact h1 g hg e
    · obtain ⟨cs', hc'⟩ := row_cells h.will.body e
      exact cells_ne hc hc' (by decide) rfl
  · obtain ⟨cs, hc⟩ := row_cells ho.body hg
    rcases e with rfl | e | e | e
    · exact cells_ne hc hL (by decide) rfl
    · exact h.bt.far hc (by decide) (by decide) e
    · obtain ⟨cs', hc'⟩ := row_cells h.will.kind e
      exact cells_ne hc hc' (by decide) rfl
    · exact h2 g hg e
theorem LiveIn.change {base : Nat} {w w' : World} {x : DiskH} {s us : Nat} {vs : Value} {b u : Nat} {v : Value} {hm : Nat} {m m' : BtM} {is : SeenM} {wk wb ik ib : Value} (h : LiveIn base w x s us vs b u v hm m is wk wb ik ib) (hb : BtAt w' b s u v hm m') (hg : Grown is m') (hw : SeenAt w' base wk wb (willM is m')) :
    LiveIn base w' x s us vs b u v hm m' is wk wb ik ib := { h with bt := hb, grown := hg, will := hw }
end Go.Proofs.YtabhieafjkaocaaGreat
