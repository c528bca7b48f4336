/- A part. -/
import Derived.Test.YtabhieafjkaocaaGreatMabu
import Derived.Test.YtabhieafjkaocaaGreatMabq
import Derived.Test.YtabhieafjkaocaaGreatMabt
import Derived.Test.YtabhieafjkaocaaGreatMabf
import Derived.Maps.AppendAt
import Derived.Deep.DeepCutAuto
set_option linter.unusedVariables false
set_option linter.unusedSimpArgs false
namespace Go.Proofs.YtabhieafjkaocaaGreat
open Go.RowKit Go.Lib Bm
set_option maxRecDepth 20000
structure StoreA (base : Nat) (w : World) (x : DiskH) (dm : DiskM) (s us : Nat) (vs bp : Value) (st : StM) (is : SeenM) : Prop where
  disk : DiskAt w x dm
  store : StAt w s x.d us vs bp st
  sits : Sits dm st is
  ls : base ≤ s
  lus : base ≤ us
  lvs : ∀ g, vs.ownBlock = some g → base ≤ g
theorem StoreA.no {base : Nat} {w w' : World} {x : DiskH} {dm : DiskM} {s us : Nat} {vs bp : Value} {st : StM} {is : SeenM} (h : StoreA base w x dm s us vs bp st is) (k : Kept No w w') : StoreA base w' x dm s us vs bp st is :=
  { h with disk := h.disk.kept k (fun _ _ h => h), store := h.store.no k }
theorem StoreA.change {base : Nat} {w w' : World} {x : DiskH} {dm : DiskM} {s us : Nat} {vs bp : Value} {st : StM} {b u : Nat} {v : Value} {hm : Nat} {m : BtM} {is : SeenM} {wk wb ik ib : Value} {is0 : SeenM} (hs : StoreA base w x dm s us vs bp st is0) (h : LiveIn base w x s us vs b u v hm m is wk wb ik ib) {L : Nat} {cl : Array Value}
    (hL : w.heap[L]? = some (.cells cl 57 (0, 0))) (k : Kept (ChF L b v hm wk wb) w w') : StoreA base w' x dm s us vs bp st is0 :=
  { disk := hs.disk.kept k fun g hg => h.foot' hL hs.disk hg
    store := hs.store.kept k (h.far' hL hs.store.head (by decide) (by decide) (by decide) (by decide) (by decide)) (h.far' hL hs.store.held.set.head (by decide) (by decide) (by decide) (by decide) (by decide)) (fun g hg e => by
      obtain ⟨cs, hc⟩ := row_cells hs.store.held.set.row hg
      rcases e with rfl | (rfl | e | rfl) | e | e
      · exact cells_ne hc hL (by decide) rfl
      · exact cells_ne hc h.bt.head (by decide) rfl
      · exact h.apart g hg e
      · obtain ⟨D, hD⟩ := h.bt.has
        obtain ⟨es, clock, hb, _⟩ := hD.own
        exact map_ne hc hb rfl
      · obtain ⟨cs', hc'⟩ := row_cells h.will.kind e
        exact cells_ne hc hc' (by decide) rfl
      · obtain ⟨cs', hc'⟩ := row_cells h.will.body e
        exact cells_ne hc hc' (by decide) rfl)
    sits := hs.sits
    ls := hs.ls
    lus := hs.lus
    lvs := hs.lvs }
def LifeUp (base cnt n : Nat) (w : World) (x : DiskH) (dm : DiskM) (sv bv wk wb ik ib : Value) (r : Root8) (is : SeenM) (ser : Nat) (br : Bool) (k : Nat) : Prop := ∃ (s us : Nat) (vs bp : Value) (st : StM) (ph : Nat),
  sv = .pointer (some ⟨s, 0, none⟩) ∧ br = false ∧ StoreA base w x dm s us vs bp st is ∧ st.count = cnt ∧ st.now.n = n ∧ ser = st.serial ∧ 3 * (st.next - 1) + ph ≤ 3 + k ∧
  ((bv = .pointer none ∧ OldB w bp ∧ (∀ b, bp = .pointer (some ⟨b, 0, none⟩) → base ≤ b)) ∨
    (∃ b u v hm m, bv = .pointer (some ⟨b, 0, none⟩) ∧ bp = bv ∧ r = m.held.root ∧ LiveIn base w x s us vs b u v hm m is wk wb ik ib ∧ (m.changed = true → 2 ≤ ph) ∧ 1 ≤ ph))
def LifeDown (base cnt n : Nat) (w : World) (dm : DiskM) (sv bv wk wb : Value) (r : Root8) (is : SeenM) (ser : Nat) (br : Bool) (k : Nat) : Prop :=
  sv = .pointer none ∧ bv = .pointer none ∧ dm.lies.length = cnt + n ∧ ∃ wl : Option SeenM, br = wl.isSome ∧ (∀ v, wl = some v → SeenAt w base wk wb v ∧ v.root = r) ∧ Downs cnt n ser is wl k dm
def LifeA (base D cnt n : Nat) (w : World) (L k : Nat) : Prop := ∃ (x : DiskH) (dm : DiskM) (sv bv wk wb ik ib : Value) (r : Root8) (is : SeenM) (ser : Nat) (br : Bool),
  w.heap[L]? = some (.cells (lifeC x.d cnt sv bv wk wb r ik ib is.root ser br true) 57 (0, 0)) ∧ base ≤ L ∧ DiskAt w x dm ∧ (∀ g, x.foot g → base ≤ g) ∧ x.d = D ∧ SeenAt w base ik ib is ∧ is.kind.length = n ∧ is.body.length = n ∧
  (LifeUp base cnt n w x dm sv bv wk wb ik ib r is ser br k ∨ LifeDown base cnt n w dm sv bv wk wb r is ser br k)
def LifeB (base D cnt n : Nat) (w : World) (L k : Nat) : Prop := ∃ (x : DiskH) (dm : DiskM) (sv bv wk wb ik ib : Value) (r : Root8) (is : SeenM) (ser : Nat) (br : Bool),
  w.heap[L]? = some (.cells (lifeC x.d cnt sv bv wk wb r ik ib is.root ser br true) 57 (0, 0)) ∧ base ≤ L ∧ DiskAt w x dm ∧ (∀ g, x.foot g → base ≤ g) ∧ x.d = D ∧ SeenAt w base ik ib is ∧ is.kind.length = n ∧ is.body.length = n ∧ dm.armed = false ∧
  LifeUp base cnt n w x dm sv bv wk wb ik ib r is ser br k
structure Few (cnt n k : Nat) : Prop where
  n2 : 2 ≤ n
  c2 : 2 ≤ cnt
  all : cnt + n ≤ 64
  k63 : k ≤ 9223372036854776000
theorem LifeA.no {base D cnt n : Nat} {w w' : World} {L k : Nat} (h : LifeA base D cnt n w L k) (kk : Kept No w w') : LifeA base D cnt n w' L (k + 1) := by
  obtain ⟨x, dm, sv, bv, wk, wb, ik, ib, r, is, ser, br, h1, h2, h3, h4, h5, h6, h7, h8, h9⟩ := h
  refine ⟨x, dm, sv, bv, wk, wb, ik, ib, r, is, ser, br, kk.heap h1 (fun h => h), h2, h3.kept kk (fun _ _ h => h), h4, h5, h6.no kk, h7, h8, ?_⟩
  rcases h9 with ⟨s, us, vs, bp, st, ph, a1, a2, a3, a4, a5, a6, a7, a8⟩ | ⟨a1, a2, a3, wl, a4, a5, a6⟩
  · refine .inl ⟨s, us, vs, bp, st, ph, a1, a2, a3.no kk, a4, a5, a6, by omega, ?_⟩
    rcases a8 with ⟨b1, b2, b3⟩ | ⟨b, u, v, hm, m, b1, b2, b3, b4, b5⟩
    · exact .inl ⟨b1, b2.kept kk (fun _ _ h => h), b3⟩
    · exact .inr ⟨b, u, v, hm, m, b1, b2, b3, b4.no kk, b5⟩
  · exact .inr ⟨a1, a2, a3, wl, a4, fun v hv => ⟨(a5 v hv).1.no kk, (a5 v hv).2⟩, a6.mono (by omega)⟩
theorem LifeUp.lies {base cnt n : Nat} {w : World} {x : DiskH} {dm : DiskM} {sv bv wk wb ik ib : Value} {r : Root8} {is : SeenM} {ser : Nat} {br : Bool} {k : Nat} (h : LifeUp base cnt n w x dm sv bv wk wb ik ib r is ser br k) : dm.off = false ∧ Lies cnt n ser is none k dm := by
  obtain ⟨s, us, vs, bp, st, ph, rfl, rfl, a3, rfl, rfl, rfl, a7, a8⟩ := h
  exact ⟨a3.sits.off, .inr ⟨is, st.now, st.serial, st.next - 1, .inl rfl, a3.sits.stands, Nat.le_refl _, by omega⟩⟩
theorem keep_foot {base : Nat} {w w' : World} {L : Nat} {cs : Array Value} {x : DiskH} {dm : DiskM} (h3 : DiskAt w x dm) (h1 : w.heap[L]? = some (.cells cs 57 (0, 0))) (kk : Kept (fun k => x.foot k ∨ k = L) w w') {a b : Value} {o : SeenM} (h : SeenAt w base a b o) : SeenAt w' base a b o := by
  have n : ∀ {g : Nat} {c : Array Value} {t : TypeId}, w.heap[g]? = some (.cells c t (0, 0)) → (t = 3 ∨ t = 9) → ¬ (x.foot g ∨ g = L) := by
    rintro g c t hc (rfl | rfl) (e | rfl)
    · exact h3.not_foot hc (by decide) (by decide) (by decide) e
    · exact cells_ne hc h1 (by decide) rfl
    · exact h3.not_foot hc (by decide) (by decide) (by decide) e
    · exact cells_ne hc h1 (by decide) rfl
  exact h.kept kk (fun g hg => by obtain ⟨c, hc⟩ := row_cells h.kind hg; exact n hc (.inl rfl)) (fun g hg => by obtain ⟨c, hc⟩ := row_cells h.body hg; exact n hc (.inr rfl))
set_option maxHeartbeats 1000000 in
theorem up_lit {base D cnt n L k : Nat} {w : World} (f : Few cnt n k) (hbw : base ≤ w.heap.size) {x : DiskH} {dm : DiskM} {sv bv wk wb ik ib : Value} {r : Root8} {is : SeenM} {ser : Nat} {br : Bool} {wl : Option SeenM}
    (h1 : w.heap[L]? = some (.cells (lifeC x.d cnt sv bv wk wb r ik ib is.root ser br true) 57 (0, 0))) (h2 : base ≤ L) (h3 : DiskAt w x dm) (h4 : ∀ g, x.foot g → base ≤ g) (h5 : x.d = D) (h6 : SeenAt w base ik ib is) (h7 : is.kind.length = n) (h8 : is.body.length = n)
    (hbr : br = wl.isSome) (hwl : ∀ v, wl = some v → SeenAt w base wk wb v ∧ v.root = r) (ho : dm.off = false) (hl : Lies cnt n ser is wl k dm) :
    Calls Tryz.prog 29 #[.pointer (some ⟨L, 0, none⟩)] w fun e w' => e = .returned (.tuple #[]) ∧ Kept (fun g => base ≤ g) w w' ∧ LifeA base D cnt n w' L (k + 1) ∧ (dm.armed = false → LifeB base D cnt n w' L (k + 1)) := by
  have hn2 := f.n2
  have hc2 := f.c2
  have hall := f.all
  have hk63 := f.k63
  rcases open_lies h3 ho hl hn2 hc2 (by omega) hk63 with ⟨dm', st, v, hv, hs, hcnt, hnum, hser, hnx, harm, hy⟩ | ⟨dm', harm, hoff, hlen, hpl, hcr, hno⟩
  · have hseen := hs.seen
    have hlen := hs.rests.len
    have hlow := hs.low
    have fin : ∀ {e : Ending} {w' : World}, (∃ (x' : DiskH) (s u : Nat) (vv kv bv' : Value), e = .returned (.tuple #[]) ∧ Kept (fun k => x.foot k ∨ k = L) w w' ∧ DiskAt w' x' dm' ∧ x'.d = x.d ∧ (∀ g, x'.foot g → x.foot g ∨ w.heap.size ≤ g) ∧
        StAt w' s x.d u vv (.pointer none) st ∧ w.heap.size ≤ s ∧ w.heap.size ≤ u ∧ (∀ g, vv.ownBlock = some g → w.heap.size ≤ g) ∧ SeenAt w' w.heap.size kv bv' (seenM st dm') ∧
        w'.heap[L]? = some (.cells (lifeC x.d cnt (.pointer (some ⟨s, 0, none⟩)) (.pointer none) wk wb r kv bv' st.now.root st.serial false true) 57 (0, 0))) →
        e = .returned (.tuple #[]) ∧ Kept (fun g => base ≤ g) w w' ∧ LifeA base D cnt n w' L (k + 1) ∧ (dm.armed = false → LifeB base D cnt n w' L (k + 1)) := by
      rintro e w' ⟨x', s, u, vv, kv, bv', rfl, kk, hd, hxd, hf, hst, q1, q2, q3, hsn, hrow⟩
      have hup : LifeUp base cnt n w' x' dm' (.pointer (some ⟨s, 0, none⟩)) (.pointer none) wk wb kv bv' r (seenM st dm') st.serial false (k + 1) := ⟨s, u, vv, .pointer none, st, 0, rfl, rfl, ⟨hd, by rw [hxd]; exact hst, by rw [hseen]; exact hs, by omega, by omega, fun g hg => Nat.le_trans hbw (q3 g hg)⟩, hcnt, hnum, rfl, by omega, .inl ⟨rfl, .inl rfl, fun b e => (by cases e)⟩⟩
      refine ⟨rfl, kept_base kk (fun g e => e.elim (h4 g) (fun e => by omega)), ⟨x', dm', _, _, wk, wb, kv, bv', r, seenM st dm', st.serial, false, by rw [hxd]; exact hrow, h2, hd, fun g hg => (hf g hg).elim (h4 g) (fun h => by omega), by rw [hxd]; exact h5, ⟨ownsRow_low hsn.kind hbw, ownsRow_low hsn.body hbw⟩, by simp [seenM, hnum], by simp [seenM, hnum], .inl hup⟩, fun ha => ⟨x', dm', _, _, wk, wb, kv, bv', r, seenM st dm', st.serial, false, by rw [hxd]; exact hrow, h2, hd, fun g hg => (hf g hg).elim (h4 g) (fun h => by omega), by rw [hxd]; exact h5, ⟨ownsRow_low hsn.kind hbw, ownsRow_low hsn.body hbw⟩, by simp [seenM, hnum], by simp [seenM, hnum], harm.trans ha, hup⟩⟩
    by_cases hvi : v = is
    · refine (up_is L cnt n base sv bv wk wb ik ib r ser br x dm dm' st is w h1 h3 hy hs.looks (by omega) hnum (by omega) hser (by omega) h6 h7 h8 (by rw [hseen, hvi])).mono fun e w' h => fin h
    · have hw : wl = some v := hv.resolve_left hvi
      obtain ⟨g1, g2⟩ := hwl v hw
      have hbt : br = true := by rw [hbr, hw]; rfl
      subst hbt
      exact (up_will L cnt n base sv bv wk wb ik ib r ser x dm dm' st is w h1 h3 hy hs.looks (by omega) hnum (by omega) hser (by omega) h6 h7 h8 v hseen hvi g2 g1).mono fun e w' h => fin h
  · refine (up_no L cnt sv bv wk wb ik ib r is.root ser br x w dm' h1 (h3.not_foot h1 (by decide) (by decide) (by decide)) hno hoff).mono ?_
    rintro e w' ⟨x', rfl, kk, hd, hxd, hf, hrow⟩
    have hkeep := @keep_foot base w w' L _ _ _ h3 h1 kk
    exact ⟨rfl, kept_base kk (fun g e => e.elim (h4 g) (fun e => by omega)), ⟨x', dm', _, _, wk, wb, ik, ib, r, is, ser, br, by rw [hxd]; exact hrow, h2, hd, fun g hg => (hf g hg).elim (h4 g) (fun h => by omega), by rw [hxd]; exact h5, hkeep h6, h7, h8, .inr ⟨rfl, rfl, hlen, wl, hbr, fun v hv => ⟨hkeep (hwl v hv).1, (hwl v hv).2⟩, hpl, .inr ⟨hoff, hcr⟩⟩⟩, fun ha => by rw [ha] at harm; cases harm⟩
set_option maxHeartbeats 1000000 in
theorem up_dark {base D cnt n L k : Nat} {w : World} (f : Few cnt n k) (hbw : base ≤ w.heap.size) {x : DiskH} {dm : DiskM} {sv bv wk wb ik ib : Value} {r : Root8} {is : SeenM} {ser : Nat}
    (h1 : w.heap[L]? = some (.cells (lifeC x.d cnt sv bv wk wb r ik ib is.root ser false true) 57 (0, 0))) (h2 : base ≤ L) (h3 : DiskAt w x dm) (h4 : ∀ g, x.foot g → base ≤ g) (h5 : x.d = D) (h6 : SeenAt w base ik ib is) (h7 : is.kind.length = n) (h8 : is.body.length = n)
    (ho : dm.off = true) (hlen : dm.lies.length = cnt + n) (hl : Downs cnt n ser is none k dm) :
    Calls Tryz.prog 29 #[.pointer (some ⟨L, 0, none⟩)] w fun e w' => e = .returned (.tuple #[]) ∧ Kept (fun g => base ≤ g) w w' ∧ LifeA base D cnt n w' L (k + 1) := by
  have hn2 := f.n2
  have hc2 := f.c2
  have hall := f.all
  refine (up_no L cnt sv bv wk wb ik ib r is.root ser false x w dm h1 (h3.not_foot h1 (by decide) (by decide) (by decide)) (open_dark h3 ho hlen hn2 hc2 (by omega)) ho).mono ?_
  rintro e w' ⟨x', rfl, kk, hd, hxd, hf, hrow⟩
  have hkeep := @keep_foot base w w' L _ _ _ h3 h1 kk
  exact ⟨rfl, kept_base kk (fun g e => e.elim (h4 g) (fun e => by omega)), x', dm, _, _, wk, wb, ik, ib, r, is, ser, false, by rw [hxd]; exact hrow, h2, hd, fun g hg => (hf g hg).elim (h4 g) (fun h => by omega), by rw [hxd]; exact h5, hkeep h6, h7, h8, .inr ⟨rfl, rfl, hlen, none, rfl, fun v hv => (by cases hv), hl.mono (by omega)⟩⟩
theorem lifeA0 {base D cnt n L k : Nat} {w : World} (h : LifeA base D cnt n w L k) (f : Few cnt n k) (hbw : base ≤ w.heap.size) (si sn : Int) (so : Bool) (sp : UInt8) (sx : List UInt8) (kv : Value) (st0 sc : Int) :
    Calls Tryz.prog 27 #[.pointer (some ⟨L, 0, none⟩), .agg #[.int .i64 0, .int .i64 si, .int .i64 sn, .bool so, .int .u8 (sp.toNat : Int), .string ⟨⟨sx⟩⟩, kv, .int .i64 st0, .int .i64 sc]] w fun e w' => e = .returned (.tuple #[]) ∧ Kept (fun g => base ≤ g) w w' ∧ LifeA base D cnt n w' L (k + 1) := by
  have H := h
  obtain ⟨x, dm, sv, bv, wk, wb, ik, ib, r, is, ser, br, h1, h2, h3, h4, h5, h6, h7, h8, h9⟩ := h
  rcases h9 with hu | ⟨rfl, rfl, a3, wl, a4, a5, a6⟩
  · have hbr : br = false := by obtain ⟨s, us, vs, bp, st, ph, _, e, _⟩ := hu; exact e
    obtain ⟨ho, hl⟩ := hu.lies
    exact lopen_up L si sn so sp sx kv st0 sc (fun w' => Kept (fun g => base ≤ g) w w' ∧ LifeA base D cnt n w' L (k + 1)) cnt sv bv wk wb ik ib r is.root ser br x dm w h1 h3 (.inl hbr) fun w1 k1 =>
      (up_lit (wl := none) f (Nat.le_trans hbw k1.size) (k1.heap h1 (fun h => h)) h2 (h3.kept k1 (fun _ _ h => h)) h4 h5 (h6.no k1) h7 h8 hbr (fun v hv => (by cases hv)) ho hl).mono fun e w' hh => ⟨hh.1, (k1.of_no _).trans hh.2.1, hh.2.2.1⟩
  · rcases a6.2 with ⟨ho, hl⟩ | ⟨ho, hl⟩
    · exact lopen_up L si sn so sp sx kv st0 sc (fun w' => Kept (fun g => base ≤ g) w w' ∧ LifeA base D cnt n w' L (k + 1)) cnt _ _ wk wb ik ib r is.root ser br x dm w h1 h3 (.inr ho) fun w1 k1 =>
        (up_lit (wl := wl) f (Nat.le_trans hbw k1.size) (k1.heap h1 (fun h => h)) h2 (h3.kept k1 (fun _ _ h => h)) h4 h5 (h6.no k1) h7 h8 a4 (fun v hv => ⟨(a5 v hv).1.no k1, (a5 v hv).2⟩) ho hl).mono fun e w' hh => ⟨hh.1, (k1.of_no _).trans hh.2.1, hh.2.2.1⟩
    · cases wl with
      | none =>
        have hbr : br = false := a4
        subst hbr
        exact lopen_up L si sn so sp sx kv st0 sc (fun w' => Kept (fun g => base ≤ g) w w' ∧ LifeA base D cnt n w' L (k + 1)) cnt _ _ wk wb ik ib r is.root ser false x dm w h1 h3 (.inl rfl) fun w1 k1 =>
          (up_dark f (Nat.le_trans hbw k1.size) (k1.heap h1 (fun h => h)) h2 (h3.kept k1 (fun _ _ h => h)) h4 h5 (h6.no k1) h7 h8 ho a3 a6).mono fun e w' hh => ⟨hh.1, (k1.of_no _).trans hh.2.1, hh.2.2⟩
      | some v =>
        have hbr : br = true := a4
        subst hbr
        refine (lopen_skip L cnt _ _ wk wb ik ib r is.root ser x dm si sn so sp sx kv st0 sc w h1 h3 ho).mono ?_
        rintro e w' ⟨rfl, kk⟩
        exact ⟨rfl, kk.of_no _, H.no kk⟩
set_option maxHeartbeats 1000000 in
theorem lifeA1 {base D cnt n L k : Nat} {w : World} (h : LifeA base D cnt n w L k) (f : Few cnt n k) (hbw : base ≤ w.heap.size) (si sn : Int) (so : Bool) (sp : UInt8) (sx : List UInt8) (kv : Value) (st0 sc : Int) :
    Calls Tryz.prog 27 #[.pointer (some ⟨L, 0, none⟩), .agg #[.int .i64 1, .int .i64 si, .int .i64 sn, .bool so, .int .u8 (sp.toNat : Int), .string ⟨⟨sx⟩⟩, kv, .int .i64 st0, .int .i64 sc]] w fun e w' => e = .returned (.tuple #[]) ∧ Kept (fun g => base ≤ g) w w' ∧ LifeA base D cnt n w' L (k + 1) := by
  have H := h
  have hn2 := f.n2
  have hall := f.all
  obtain ⟨x, dm, sv, bv, wk, wb, ik, ib, r, is, ser, br, h1, h2, h3, h4, h5, h6, h7, h8, h9⟩ := h
  rcases h9 with ⟨s, us, vs, bp, st, ph, rfl, rfl, a3, a4, a5, rfl, a7, a8⟩ | ⟨rfl, rfl, a3, wl, a4, a5, a6⟩
  · have hold : OldB w bp ∧ ∀ b, bp = .pointer (some ⟨b, 0, none⟩) → base ≤ b := by
      rcases a8 with ⟨rfl, a2, a3⟩ | ⟨b, u, v, hm, m, rfl, a2, rfl, a4, a5, a6⟩
      · exact ⟨a2, a3⟩
      · rw [a2]
        exact ⟨a4.bt.old, fun b' e => by injection e with e; injection e with e; injection e with e; subst e; exact a4.lb⟩
    clear a8
    refine (lbegin_ok L _ _ s us vs bp bv wk wb ik ib r _ _ st is base si sn so sp sx kv st0 sc w h1 a3.store hold.1 h6 (by omega) (by omega) (by omega)).mono ?_
    rintro e w' ⟨b, u', v', hm, wk', wb', rfl, kk, hl, hs, hb, q1, q2, q3, q4, hw⟩
    have hbas : ∀ g, (g = L ∨ g = s ∨ bp = .pointer (some ⟨g, 0, none⟩)) → base ≤ g := by
      rintro g (rfl | rfl | e)
      · exact h2
      · exact a3.ls
      · exact hold.2 g e
    have hfar : ∀ {g : Nat} {cs : Array Value} {t : TypeId} {fr : Nat × Nat}, w.heap[g]? = some (.cells cs t fr) → t ≠ 57 → t ≠ 90 → t ≠ 93 → ¬ (g = L ∨ g = s ∨ bp = .pointer (some ⟨g, 0, none⟩)) := by
      rintro g cs t fr hg n1 n2 n3 (rfl | rfl | e)
      · exact cells_ne hg h1 n1 rfl
      · exact cells_ne hg a3.store.head n2 rfl
      · exact hold.1.not_life hg n3 e
    have hx : DiskAt w' x dm := h3.kept kk (fun g hg e => by
      rcases e with rfl | rfl | e
      · exact h3.not_foot h1 (by decide) (by decide) (by decide) hg
      · exact h3.not_foot a3.store.head (by decide) (by decide) (by decide) hg
      · rcases hold.1 with e0 | ⟨b0, z0, z1, z2, z3, z4, z5, z6, z7, z8, z9, z10, z11, z12, e0, hh⟩
        · rw [e0] at e; cases e
        · rw [e0] at e
          injection e with e; injection e with e; injection e with e
          subst e
          exact h3.not_foot hh (by decide) (by decide) (by decide) hg)
    have hi := h6.kept kk (fun g hg => by obtain ⟨c, hc⟩ := row_cells h6.kind hg; exact hfar hc (by decide) (by decide) (by decide)) (fun g hg => by obtain ⟨c, hc⟩ := row_cells h6.body hg; exact hfar hc (by decide) (by decide) (by decide))
    obtain ⟨wb1, wb2⟩ := will_begin a3.sits.looks a3.store.held.ok
    rw [a3.sits.seen] at wb1 wb2
    have hroot : is.root = st.now.root := by rw [← a3.sits.seen]; rfl
    refine ⟨rfl, kept_base kk hbas, x, dm, _, _, wk', wb', ik, ib, _, is, _, false, hl, h2, hx, h4, h5, hi, h7, h8, .inl ⟨s, us, vs, _, st, 1, rfl, rfl, { a3 with disk := hx, store := hs }, a4, a5, rfl, ?_, .inr ⟨b, u', v', hm, ⟨st.now, [], false, st.dead⟩, rfl, rfl, hroot, ?_, fun e => (by cases e), Nat.le_refl _⟩⟩⟩
    · have hph : ∀ q, 3 * (st.next - 1) + q ≤ 3 + k → 3 * (st.next - 1) + 1 ≤ 3 + (k + 1) := fun q h => by omega
      exact hph ph a7
    · refine ⟨hb, wb1, ?_, Nat.le_trans hbw q1, Nat.le_trans hbw q2, fun g hg => Nat.le_trans hbw (q3 g hg), Nat.le_trans hbw q4, fun hf => ?_, fun g hg e => ?_, fun g hg e => ?_, fun g hg e => ?_⟩
      · rw [wb2]; exact ⟨ownsRow_low hw.kind hbw, ownsRow_low hw.body hbw⟩
      · have := h3.foot_lt hf; omega
      · have h7 := q3 g e
        obtain ⟨c, hc⟩ := row_cells a3.store.held.set.row hg
        have := lt_of_heap hc
        omega
      · have h7 := (hw.kind.lt g e).1
        obtain ⟨c, hc⟩ := row_cells h6.kind hg
        have := lt_of_heap hc
        omega
      · have h7 := (hw.body.lt g e).1
        obtain ⟨c, hc⟩ := row_cells h6.body hg
        have := lt_of_heap hc
        omega
  · refine (lbeg_nil L cnt _ wk wb ik ib r is.root ser br x dm si sn so sp sx kv st0 sc w h1).mono ?_
    rintro e w' ⟨rfl, kk⟩
    exact ⟨rfl, kk.of_no _, H.no kk⟩
theorem lifeA2 {base D cnt n L k : Nat} {w : World} (h : LifeA base D cnt n w L k) (si sn : Int) (so : Bool) (sp : UInt8) (sx : List UInt8) (kv : Value) (st0 sc : Int) (hsi : I64 si) (hsx : sx.length ≤ 9223372036854775807) :
    Calls Tryz.prog 27 #[.pointer (some ⟨L, 0, none⟩), .agg #[.int .i64 2, .int .i64 si, .int .i64 sn, .bool so, .int .u8 (sp.toNat : Int), .string ⟨⟨sx⟩⟩, kv, .int .i64 st0, .int .i64 sc]] w fun e w' => e = .returned (.tuple #[]) ∧ Kept (fun g => base ≤ g) w w' ∧ LifeA base D cnt n w' L (k + 1) := by
  have H := h
  obtain ⟨x, dm, sv, bv, wk, wb, ik, ib, r, is, ser, br, h1, h2, h3, h4, h5, h6, h7, h8, h9⟩ := h
  have nil : bv = .pointer none → Calls Tryz.prog 27 #[.pointer (some ⟨L, 0, none⟩), .agg #[.int .i64 2, .int .i64 si, .int .i64 sn, .bool so, .int .u8 (sp.toNat : Int), .string ⟨⟨sx⟩⟩, kv, .int .i64 st0, .int .i64 sc]] w fun e w' => e = .returned (.tuple #[]) ∧ Kept (fun g => base ≤ g) w w' ∧ LifeA base D cnt n w' L (k + 1) := by
    rintro rfl
    refine (lnil2 L _ _ _ _ _ _ _ _ _ _ _ _ si sn so sp sx kv st0 sc w h1).mono ?_
    rintro e w' ⟨rfl, kk⟩
    exact ⟨rfl, kk.of_no _, H.no kk⟩
  rcases h9 with ⟨s, us, vs, bp, st, ph, rfl, rfl, a3, a4, a5, rfl, a7, ⟨b1, b2, b3⟩ | ⟨b, u, v, hm, m, rfl, b2, rfl, b4, b5, b6⟩⟩ | ⟨rfl, b1, a3, wl, a4, a5, a6⟩
  · exact nil b1
  · refine (lstep2 L _ _ _ _ _ _ _ _ _ _ b s u v hm m is base si sn so sp sx kv st0 sc w h1 b4.bt b4.grown b4.will hsi hsx).mono ?_
    rintro e w' ⟨m', rfl, kk, hl, hb, hg, hs, hn⟩
    have hso := a3.change b4 h1 kk
    exact ⟨rfl, kept_base kk (b4.base h2), x, dm, _, _, wk, wb, ik, ib, _, is, _, false, hl, h2, hso.disk, h4, h5, b4.seen h1 h6 b4.k b4.t kk, h7, h8, .inl ⟨s, us, vs, bp, st, ph + 1, rfl, rfl, hso, a4, a5, rfl, by omega, .inr ⟨b, u, v, hm, m', rfl, b2, rfl, b4.change hb hg hs, fun _ => by omega, by omega⟩⟩⟩
  · exact nil b1
theorem lifeA3 {base D cnt n L k : Nat} {w : World} (h : LifeA base D cnt n w L k) (si sn : Int) (so : Bool) (sp : UInt8) (sx : List UInt8) (kv : Value) (st0 sc : Int) (hsi : I64 si) (hsx : sx.length ≤ 9223372036854775807) :
    Calls Tryz.prog 27 #[.pointer (some ⟨L, 0, none⟩), .agg #[.int .i64 3, .int .i64 si, .int .i64 sn, .bool so, .int .u8 (sp.toNat : Int), .string ⟨⟨sx⟩⟩, kv, .int .i64 st0, .int .i64 sc]] w fun e w' => e = .returned (.tuple #[]) ∧ Kept (fun g => base ≤ g) w w' ∧ LifeA base D cnt n w' L (k + 1) := by
  have H := h
  obtain ⟨x, dm, sv, bv, wk, wb, ik, ib, r, is, ser, br, h1, h2, h3, h4, h5, h6, h7, h8, h9⟩ := h
  have nil : bv = .pointer none → Calls Tryz.prog 27 #[.pointer (some ⟨L, 0, none⟩), .agg #[.int .i64 3, .int .i64 si, .int .i64 sn, .bool so, .int .u8 (sp.toNat : Int), .string ⟨⟨sx⟩⟩, kv, .int .i64 st0, .int .i64 sc]] w fun e w' => e = .returned (.tuple #[]) ∧ Kept (fun g => base ≤ g) w w' ∧ LifeA base D cnt n w' L (k + 1) := by
    rintro rfl
    refine (lnil3 L _ _ _ _ _ _ _ _ _ _ _ _ si sn so sp sx kv st0 sc w h1).mono ?_
    rintro e w' ⟨rfl, kk⟩
    exact ⟨rfl, kk.of_no _, H.no kk⟩
  rcases h9 with ⟨s, us, vs, bp, st, ph, rfl, rfl, a3, a4, a5, rfl, a7, ⟨b1, b2, b3⟩ | ⟨b, u, v, hm, m, rfl, b2, rfl, b4, b5, b6⟩⟩ | ⟨rfl, b1, a3, wl, a4, a5, a6⟩
  · exact nil b1
  · refine (lstep3 L _ _ _ _ _ _ _ _ _ _ b s u v hm m is base si sn so sp sx kv st0 sc w h1 b4.bt b4.grown b4.will hsi hsx).mono ?_
    rintro e w' ⟨m', rfl, kk, hl, hb, hg, hs, hn⟩
    have hso := a3.change b4 h1 kk
    exact ⟨rfl, kept_base kk (b4.base h2), x, dm, _, _, wk, wb, ik, ib, _, is, _, false, hl, h2, hso.disk, h4, h5, b4.seen h1 h6 b4.k b4.t kk, h7, h8, .inl ⟨s, us, vs, bp, st, ph + 1, rfl, rfl, hso, a4, a5, rfl, by omega, .inr ⟨b, u, v, hm, m', rfl, b2, rfl, b4.change hb hg hs, fun _ => by omega, by omega⟩⟩⟩
  · exact nil b1
theorem lifeA4 {base D cnt n L k : Nat} {w : World} (h : LifeA base D cnt n w L k) (si sn : Int) (so : Bool) (sp : UInt8) (sx : List UInt8) (kv : Value) (st0 sc : Int) (hsi : I64 si) (hsx : sx.length ≤ 9223372036854775807) :
    Calls Tryz.prog 27 #[.pointer (some ⟨L, 0, none⟩), .agg #[.int .i64 4, .int .i64 si, .int .i64 sn, .bool so, .int .u8 (sp.toNat : Int), .string ⟨⟨sx⟩⟩, kv, .int .i64 st0, .int .i64 sc]] w fun e w' => e = .returned (.tuple #[]) ∧ Kept (fun g => base ≤ g) w w' ∧ LifeA base D cnt n w' L (k + 1) := by
  have H := h
  obtain ⟨x, dm, sv, bv, wk, wb, ik, ib, r, is, ser, br, h1, h2, h3, h4, h5, h6, h7, h8, h9⟩ := h
  have nil : bv = .pointer none → Calls Tryz.prog 27 #[.pointer (some ⟨L, 0, none⟩), .agg #[.int .i64 4, .int .i64 si, .int .i64 sn, .bool so, .int .u8 (sp.toNat : Int), .string ⟨⟨sx⟩⟩, kv, .int .i64 st0, .int .i64 sc]] w fun e w' => e = .returned (.tuple #[]) ∧ Kept (fun g => base ≤ g) w w' ∧ LifeA base D cnt n w' L (k + 1) := by
    rintro rfl
    refine (lnil4 L _ _ _ _ _ _ _ _ _ _ _ _ si sn so sp sx kv st0 sc w h1).mono ?_
    rintro e w' ⟨rfl, kk⟩
    exact ⟨rfl, kk.of_no _, H.no kk⟩
  rcases h9 with ⟨s, us, vs, bp, st, ph, rfl, rfl, a3, a4, a5, rfl, a7, ⟨b1, b2, b3⟩ | ⟨b, u, v, hm, m, rfl, b2, rfl, b4, b5, b6⟩⟩ | ⟨rfl, b1, a3, wl, a4, a5, a6⟩
  · exact nil b1
  · refine (lstep4 L _ _ _ _ _ _ _ _ _ _ b s u v hm m is base si sn so sp sx kv st0 sc w h1 b4.bt b4.grown b4.will hsi hsx).mono ?_
    rintro e w' ⟨m', rfl, kk, hl, hb, hg, hs, hn⟩
    have hso := a3.change b4 h1 kk
    exact ⟨rfl, kept_base kk (b4.base h2), x, dm, _, _, wk, wb, ik, ib, _, is, _, false, hl, h2, hso.disk, h4, h5, b4.seen h1 h6 b4.k b4.t kk, h7, h8, .inl ⟨s, us, vs, bp, st, ph + 1, rfl, rfl, hso, a4, a5, rfl, by omega, .inr ⟨b, u, v, hm, m', rfl, b2, rfl, b4.change hb hg hs, fun _ => by omega, by omega⟩⟩⟩
  · exact nil b1
theorem lifeA5 {base D cnt n L k : Nat} {w : World} (h : LifeA base D cnt n w L k) (si sn : Int) (so : Bool) (sp : UInt8) (sx : List UInt8) (kv : Value) (st0 sc : Int) (hsi : I64 si) (hsx : sx.length ≤ 9223372036854775807) :
    Calls Tryz.prog 27 #[.pointer (some ⟨L, 0, none⟩), .agg #[.int .i64 5, .int .i64 si, .int .i64 sn, .bool so, .int .u8 (sp.toNat : Int), .string ⟨⟨sx⟩⟩, kv, .int .i64 st0, .int .i64 sc]] w fun e w' => e = .returned (.tuple #[]) ∧ Kept (fun g => base ≤ g) w w' ∧ LifeA base D cnt n w' L (k + 1) := by
  have H := h
  obtain ⟨x, dm, sv, bv, wk, wb, ik, ib, r, is, ser, br, h1, h2, h3, h4, h5, h6, h7, h8, h9⟩ := h
  have nil : bv = .pointer none → Calls Tryz.prog 27 #[.pointer (some ⟨L, 0, none⟩), .agg #[.int .i64 5, .int .i64 si, .int .i64 sn, .bool so, .int .u8 (sp.toNat : Int), .string ⟨⟨sx⟩⟩, kv, .int .i64 st0, .int .i64 sc]] w fun e w' => e = .returned (.tuple #[]) ∧ Kept (fun g => base ≤ g) w w' ∧ LifeA base D cnt n w' L (k + 1) := by
    rintro rfl
    refine (lnil5 L _ _ _ _ _ _ _ _ _ _ _ _ si sn so sp sx kv st0 sc w h1).mono ?_
    rintro e w' ⟨rfl, kk⟩
    exact ⟨rfl, kk.of_no _, H.no kk⟩
  rcases h9 with ⟨s, us, vs, bp, st, ph, rfl, rfl, a3, a4, a5, rfl, a7, ⟨b1, b2, b3⟩ | ⟨b, u, v, hm, m, rfl, b2, rfl, b4, b5, b6⟩⟩ | ⟨rfl, b1, a3, wl, a4, a5, a6⟩
  · exact nil b1
  · refine (lstep5 L _ _ _ _ _ _ _ _ _ _ b s u v hm m is base si sn so sp sx kv st0 sc w h1 b4.bt b4.grown b4.will hsi hsx).mono ?_
    rintro e w' ⟨m', rfl, kk, hl, hb, hg, hs, hn⟩
    have hso := a3.change b4 h1 kk
    exact ⟨rfl, kept_base kk (b4.base h2), x, dm, _, _, wk, wb, ik, ib, _, is, _, false, hl, h2, hso.disk, h4, h5, b4.seen h1 h6 b4.k b4.t kk, h7, h8, .inl ⟨s, us, vs, bp, st, ph + 1, rfl, rfl, hso, a4, a5, rfl, by omega, .inr ⟨b, u, v, hm, m', rfl, b2, rfl, b4.change hb hg hs, fun _ => by omega, by omega⟩⟩⟩
  · exact nil b1
theorem lifeA_other {base D cnt n L k : Nat} {w : World} (h : LifeA base D cnt n w L k) (kd : Int) (si sn : Int) (so : Bool) (sp : UInt8) (sx : List UInt8) (kv : Value) (st0 sc : Int) (hk : kd ≠ 0 ∧ kd ≠ 1 ∧ kd ≠ 2 ∧ kd ≠ 3 ∧ kd ≠ 4 ∧ kd ≠ 5 ∧ kd ≠ 6 ∧ kd ≠ 7 ∧ kd ≠ 9 ∧ kd ≠ 10) :
    Calls Tryz.prog 27 #[.pointer (some ⟨L, 0, none⟩), .agg #[.int .i64 kd, .int .i64 si, .int .i64 sn, .bool so, .int .u8 (sp.toNat : Int), .string ⟨⟨sx⟩⟩, kv, .int .i64 st0, .int .i64 sc]] w fun e w' => e = .returned (.tuple #[]) ∧ Kept (fun g => base ≤ g) w w' ∧ LifeA base D cnt n w' L (k + 1) := by
  have H := h
  obtain ⟨x, dm, sv, bv, wk, wb, ik, ib, r, is, ser, br, h1, h2, h3, h4, h5, h6, h7, h8, h9⟩ := h
  refine (lother L _ _ _ _ _ _ _ _ _ _ _ _ _ kd si sn so sp sx kv st0 sc w h1 hk).mono ?_
  rintro e w' ⟨rfl, kk⟩
  exact ⟨rfl, kk.of_no _, H.no kk⟩
theorem lifeA7 {base D cnt n L k : Nat} {w : World} (h : LifeA base D cnt n w L k) (si sn : Int) (so : Bool) (sp : UInt8) (sx : List UInt8) (kv : Value) (st0 sc : Int) :
    Calls Tryz.prog 27 #[.pointer (some ⟨L, 0, none⟩), .agg #[.int .i64 7, .int .i64 si, .int .i64 sn, .bool so, .int .u8 (sp.toNat : Int), .string ⟨⟨sx⟩⟩, kv, .int .i64 st0, .int .i64 sc]] w fun e w' => e = .returned (.tuple #[]) ∧ Kept (fun g => base ≤ g) w w' ∧ LifeA base D cnt n w' L (k + 1) := by
  have H := h
  obtain ⟨x, dm, sv, bv, wk, wb, ik, ib, r, is, ser, br, h1, h2, h3, h4, h5, h6, h7, h8, h9⟩ := h
  have nil : bv = .pointer none → Calls Tryz.prog 27 #[.pointer (some ⟨L, 0, none⟩), .agg #[.int .i64 7, .int .i64 si, .int .i64 sn, .bool so, .int .u8 (sp.toNat : Int), .string ⟨⟨sx⟩⟩, kv, .int .i64 st0, .int .i64 sc]] w fun e w' => e = .returned (.tuple #[]) ∧ Kept (fun g => base ≤ g) w w' ∧ LifeA base D cnt n w' L (k + 1) := by
    rintro rfl
    refine (lnil7 L _ _ _ _ _ _ _ _ _ _ _ _ si sn so sp sx kv st0 sc w h1).mono ?_
    rintro e w' ⟨rfl, kk⟩
    exact ⟨rfl, kk.of_no _, H.no kk⟩
  rcases h9 with ⟨s, us, vs, bp, st, ph, rfl, rfl, a3, a4, a5, rfl, a7, ⟨b1, b2, b3⟩ | ⟨b, u, v, hm, m, rfl, b2, rfl, b4, b5, b6⟩⟩ | ⟨rfl, b1, a3, wl, a4, a5, a6⟩
  · exact nil b1
  · refine (lstep7 L _ _ _ _ _ _ _ _ _ _ _ b s u v hm m si sn so sp sx kv st0 sc w h1 b4.bt).mono ?_
    rintro e w' ⟨rfl, k0, hl, hb⟩
    have kk : Kept (ChF L b v hm wk wb) w w' := k0.mono fun g _ e => by
      rcases e with e | e | e
      · exact .inl e
      · exact .inr (.inl (.inl e))
      · exact .inr (.inl (.inr (.inr e)))
    have hso := a3.change b4 h1 kk
    refine ⟨rfl, kept_base kk (b4.base h2), x, dm, _, _, wk, wb, ik, ib, _, is, _, false, hl, h2, hso.disk, h4, h5, b4.seen h1 h6 b4.k b4.t kk, h7, h8, .inl ⟨s, us, vs, bp, st, ph, rfl, rfl, hso, a4, a5, rfl, by omega, .inl ⟨rfl, by rw [b2]; exact hb.old, fun b' e => ?_⟩⟩⟩
    rw [b2] at e
    injection e with e; injection e with e; injection e with e
    subst e
    exact b4.lb
  · exact nil b1
theorem lifeA9 {base D cnt n L k : Nat} {w : World} (h : LifeA base D cnt n w L k) (si sn : Int) (so : Bool) (sp : UInt8) (sx : List UInt8) (kv : Value) (st0 sc : Int) (hsn : I64 sn) :
    Calls Tryz.prog 27 #[.pointer (some ⟨L, 0, none⟩), .agg #[.int .i64 9, .int .i64 si, .int .i64 sn, .bool so, .int .u8 (sp.toNat : Int), .string ⟨⟨sx⟩⟩, kv, .int .i64 st0, .int .i64 sc]] w fun e w' => e = .returned (.tuple #[]) ∧ Kept (fun g => base ≤ g) w w' ∧ LifeA base D cnt n w' L (k + 1) := by
  obtain ⟨x, dm, sv, bv, wk, wb, ik, ib, r, is, ser, br, h1, h2, h3, h4, h5, h6, h7, h8, h9⟩ := h
  refine (lfuse L cnt sv bv wk wb ik ib r is.root ser br x dm si sn so sp sx kv st0 sc w h1 h3 hsn).mono ?_
  rintro e w' ⟨rfl, kk, hd⟩
  have hfd : ∀ {g : Nat} {cs : Array Value} {t : TypeId} {fr : Nat × Nat}, w.heap[g]? = some (.cells cs t fr) → t ≠ 122 → ¬ g = x.d := fun hg n1 => cells_ne hg h3.head n1
  have hkeep : ∀ {a b : Value} {o : SeenM}, SeenAt w base a b o → SeenAt w' base a b o := fun h => h.kept kk (fun g hg => by obtain ⟨c, hc⟩ := row_cells h.kind hg; exact hfd hc (by decide)) (fun g hg => by obtain ⟨c, hc⟩ := row_cells h.body hg; exact hfd hc (by decide))
  obtain ⟨f1, f2, f3⟩ := fuse_still dm sn
  refine ⟨rfl, kept_base kk (fun g e => by subst e; exact h4 _ (.inl rfl)), x, dm.fuse sn, sv, bv, wk, wb, ik, ib, r, is, ser, br, kk.heap h1 (hfd h1 (by decide)), h2, hd, h4, h5, hkeep h6, h7, h8, ?_⟩
  rcases h9 with ⟨s, us, vs, bp, st, ph, a1, a2, a3, a4, a5, a6, a7, a8⟩ | ⟨a1, a2, a3, wl, a4, a5, a6⟩
  · have hso : StoreA base w' x (dm.fuse sn) s us vs bp st is := ⟨hd, a3.store.kept kk (hfd a3.store.head (by decide)) (hfd a3.store.held.set.head (by decide)) (fun g hg => by obtain ⟨c, hc⟩ := row_cells a3.store.held.set.row hg; exact hfd hc (by decide)), a3.sits.still f1 f2 (by rw [f3]; exact a3.sits.off), a3.ls, a3.lus, a3.lvs⟩
    refine .inl ⟨s, us, vs, bp, st, ph, a1, a2, hso, a4, a5, a6, by omega, ?_⟩
    rcases a8 with ⟨b1, b2, b3⟩ | ⟨b, u, v, hm, m, b1, b2, b3, b4, b5⟩
    · refine .inl ⟨b1, b2.kept kk (fun b e hb => ?_), b3⟩
      subst hb
      exact b2.not_life h3.head (by decide) e
    · refine .inr ⟨b, u, v, hm, m, b1, b2, b3, { b4 with bt := b4.bt.other kk (fun q hq => by subst hq; exact ⟨_, _, h3.head, by decide, by decide, by decide⟩), will := hkeep b4.will }, b5⟩
  · exact .inr ⟨a1, a2, by rw [f1]; exact a3, wl, a4, fun v hv => ⟨hkeep (a5 v hv).1, (a5 v hv).2⟩, a6.fuse sn⟩
def LitA (base D cnt n : Nat) (w : World) (L k : Nat) : Prop := ∃ (x : DiskH) (dm : DiskM) (sv bv wk wb ik ib : Value) (r : Root8) (is : SeenM) (ser : Nat) (br : Bool) (wl : Option SeenM),
  w.heap[L]? = some (.cells (lifeC x.d cnt sv bv wk wb r ik ib is.root ser br true) 57 (0, 0)) ∧ base ≤ L ∧ DiskAt w x dm ∧ (∀ g, x.foot g → base ≤ g) ∧ x.d = D ∧ SeenAt w base ik ib is ∧ is.kind.length = n ∧ is.body.length = n ∧
  br = wl.isSome ∧ (∀ v, wl = some v → SeenAt w base wk wb v ∧ v.root = r) ∧ dm.off = false ∧ dm.armed = false ∧ Lies cnt n ser is wl k dm
theorem up_litA {base D cnt n L k : Nat} {w : World} (h : LitA base D cnt n w L k) (f : Few cnt n k) (hbw : base ≤ w.heap.size) :
    Calls Tryz.prog 29 #[.pointer (some ⟨L, 0, none⟩)] w fun e w' => e = .returned (.tuple #[]) ∧ Kept (fun g => base ≤ g) w w' ∧ LifeB base D cnt n w' L (k + 1) := by
  obtain ⟨x, dm, sv, bv, wk, wb, ik, ib, r, is, ser, br, wl, h1, h2, h3, h4, h5, h6, h7, h8, h9, h10, h11, h12, h13⟩ := h
  exact (up_lit f hbw h1 h2 h3 h4 h5 h6 h7 h8 h9 h10 h11 h13).mono fun e w' hh => ⟨hh.1, hh.2.1, hh.2.2.2 h12⟩
theorem LifeB.lit {base D cnt n : Nat} {w : World} {L k : Nat} (h : LifeB base D cnt n w L k) : LitA base D cnt n w L k := by
  obtain ⟨x, dm, sv, bv, wk, wb, ik, ib, r, is, ser, br, h1, h2, h3, h4, h5, h6, h7, h8, h9, h0⟩ := h
  have hbr : br = false := by obtain ⟨s, us, vs, bp, st, ph, _, e, _⟩ := h0; exact e
  exact ⟨x, dm, sv, bv, wk, wb, ik, ib, r, is, ser, br, none, h1, h2, h3, h4, h5, h6, h7, h8, hbr, fun v hv => (by cases hv), h0.lies.1, h9, h0.lies.2⟩
set_option maxHeartbeats 1000000 in
theorem life_crash {base D cnt n L k : Nat} {w w' : World} {x x' : DiskH} {dm : DiskM} {sv bv wk wb ik ib : Value} {r : Root8} {is : SeenM} {ser : Nat} {br : Bool} (h1 : w.heap[L]? = some (.cells (lifeC x.d cnt sv bv wk wb r ik ib is.root ser br true) 57 (0, 0))) (h2 : base ≤ L) (h3 : DiskAt w x dm) (h4 : ∀ g, x.foot g → base ≤ g) (h5 : x.d = D) (h6 : SeenAt w base ik ib is) (h7 : is.kind.length = n) (h8 : is.body.length = n)
    (h9 : LifeUp base cnt n w x dm sv bv wk wb ik ib r is ser br k ∨ LifeDown base cnt n w dm sv bv wk wb r is ser br k) (keep : List Bool) (torn cut : Int) (kk : Kept x.foot w w') (hd : DiskAt w' x' (dm.crash keep torn cut)) (hxd : x'.d = x.d) (hf : ∀ g, x'.foot g → x.foot g) :
    LifeA base D cnt n w' L (k + 1) ∧ LitA base D cnt n w' L (k + 1) := by
  have hrow := kk.heap h1 (h3.not_foot h1 (by decide) (by decide) (by decide))
  rw [← hxd] at hrow
  have hfx : ∀ g, x'.foot g → base ≤ g := fun g hg => h4 g (hf g hg)
  have hkeep : ∀ {a b : Value} {o : SeenM}, SeenAt w base a b o → SeenAt w' base a b o := fun h => h.kept kk (fun g hg => by
    obtain ⟨c, hc⟩ := row_cells h.kind hg
    exact h3.not_foot hc (by decide) (by decide) (by decide)) (fun g hg => by
    obtain ⟨c, hc⟩ := row_cells h.body hg
    exact h3.not_foot hc (by decide) (by decide) (by decide))
  rcases h9 with hu | ⟨rfl, rfl, a3, wl, a4, a5, a6⟩
  · obtain ⟨g1, g2⟩ := hu.lies
    have hbr : br = false := by obtain ⟨s, us, vs, bp, st, ph, _, e, _⟩ := hu; exact e
    obtain ⟨e1, e2⟩ := crash_still g2.pend keep torn cut
    have hup : LifeUp base cnt n w' x' (dm.crash keep torn cut) sv bv wk wb ik ib r is ser br (k + 1) := by
      obtain ⟨s, us, vs, bp, st, ph, z1, z2, a3, a4, a5, z3, a7, a8⟩ := hu
      have hso : StoreA base w' x' (dm.crash keep torn cut) s us vs bp st is := ⟨hd, by rw [hxd]; exact a3.store.kept kk (h3.not_foot a3.store.head (by decide) (by decide) (by decide)) (h3.not_foot a3.store.held.set.head (by decide) (by decide) (by decide)) (fun g hg => by obtain ⟨c, hc⟩ := row_cells a3.store.held.set.row hg; exact h3.not_foot hc (by decide) (by decide) (by decide)), a3.sits.still e1 e2 rfl, a3.ls, a3.lus, a3.lvs⟩
      refine ⟨s, us, vs, bp, st, ph, z1, z2, hso, a4, a5, z3, by omega, ?_⟩
      rcases a8 with ⟨b1, b2, b3⟩ | ⟨b, u, v, hm, m, b1, b2, b3, b4, b5⟩
      · refine .inl ⟨b1, b2.kept kk (fun b e hb => ?_), b3⟩
        rcases b2 with e0 | ⟨b0, q0, q1, q2, q3, q4, q5, q6, q7, q8, q9, q10, q11, q12, e0, hh⟩
        · rw [e0] at e; cases e
        · rw [e0] at e
          injection e with e; injection e with e; injection e with e
          subst e
          exact h3.not_foot hh (by decide) (by decide) (by decide) hb
      · exact .inr ⟨b, u, v, hm, m, b1, b2, b3, { b4 with
          bt := b4.bt.kept kk (h3.not_foot b4.bt.head (by decide) (by decide) (by decide)) (h3.not_foot b4.bt.held.set.head (by decide) (by decide) (by decide)) (fun g hg => by obtain ⟨c, hc⟩ := row_cells b4.bt.held.set.row hg; exact h3.not_foot hc (by decide) (by decide) (by decide)) b4.far
          will := hkeep b4.will
          far := fun h => b4.far (hf _ h) }, b5⟩
    exact ⟨⟨x', _, sv, bv, wk, wb, ik, ib, r, is, ser, br, hrow, h2, hd, hfx, hxd.trans h5, hkeep h6, h7, h8, .inl hup⟩, x', _, sv, bv, wk, wb, ik, ib, r, is, ser, br, none, hrow, h2, hd, hfx, hxd.trans h5, hkeep h6, h7, h8, hbr, fun v hv => (by cases hv), rfl, rfl, hup.lies.2⟩
  · have hdn := a6.crash keep torn cut
    have hlen : (dm.crash keep torn cut).lies.length = cnt + n := by
      rw [← a3]
      exact fateL_len _ _ _ _ _ _
    have hwl : ∀ v, wl = some v → SeenAt w' base wk wb v ∧ v.root = r := fun v hv => ⟨hkeep (a5 v hv).1, (a5 v hv).2⟩
    have hli : Lies cnt n ser is wl (k + 1) (dm.crash keep torn cut) := by
      rcases hdn.2 with ⟨_, b⟩ | ⟨a, _⟩
      · exact b
      · cases a
    exact ⟨⟨x', _, _, _, wk, wb, ik, ib, r, is, ser, br, hrow, h2, hd, hfx, hxd.trans h5, hkeep h6, h7, h8, .inr ⟨rfl, rfl, hlen, wl, a4, hwl, hdn⟩⟩, x', _, _, _, wk, wb, ik, ib, r, is, ser, br, wl, hrow, h2, hd, hfx, hxd.trans h5, hkeep h6, h7, h8, a4, hwl, rfl, rfl, hli⟩
theorem LifeA.few {base cnt n : Nat} {w : World} {x : DiskH} {dm : DiskM} {sv bv wk wb ik ib : Value} {r : Root8} {is : SeenM} {ser : Nat} {br : Bool} {k : Nat} (h : LifeUp base cnt n w x dm sv bv wk wb ik ib r is ser br k ∨ LifeDown base cnt n w dm sv bv wk wb r is ser br k) : dm.pend.length < 100000 := by
  rcases h with h | ⟨_, _, _, wl, _, _, a6⟩
  · rw [h.lies.2.pend]; simp
  · exact a6.1
theorem lifeA10 {base D cnt n L k : Nat} {w : World} (h : LifeA base D cnt n w L k) (si sn : Int) (so : Bool) (sp : UInt8) (sx : List UInt8) (kv : Value) (st0 sc : Int) (keep : List Bool) (hk : BoolsAt w kv keep) (hm : keep.length ≤ 140737488355328) (ht : I64 st0) (hc : I64 sc) :
    Calls Tryz.prog 27 #[.pointer (some ⟨L, 0, none⟩), .agg #[.int .i64 10, .int .i64 si, .int .i64 sn, .bool so, .int .u8 (sp.toNat : Int), .string ⟨⟨sx⟩⟩, kv, .int .i64 st0, .int .i64 sc]] w fun e w' => e = .returned (.tuple #[]) ∧ Kept (fun g => base ≤ g) w w' ∧ LifeA base D cnt n w' L (k + 1) := by
  obtain ⟨x, dm, sv, bv, wk, wb, ik, ib, r, is, ser, br, h1, h2, h3, h4, h5, h6, h7, h8, h9⟩ := h
  have hpl := LifeA.few h9
  have fin : ∀ {e : Ending} {w' : World}, (∃ x' : DiskH, e = .returned (.tuple #[]) ∧ Kept x.foot w w' ∧ DiskAt w' x' (dm.crash keep st0 sc) ∧ x'.d = x.d ∧ ∀ g, x'.foot g → x.foot g) → e = .returned (.tuple #[]) ∧ Kept (fun g => base ≤ g) w w' ∧ LifeA base D cnt n w' L (k + 1) := by
    rintro e w' ⟨x', rfl, kk, hd, hxd, hf⟩
    exact ⟨rfl, kept_base kk h4, (life_crash h1 h2 h3 h4 h5 h6 h7 h8 h9 keep st0 sc kk hd hxd hf).1⟩
  rcases hk.2 with ⟨rfl, rfl⟩ | ⟨a, cap, rfl, hcap, hcell⟩
  · exact (lcrash_none L cnt sv bv wk wb ik ib r is.root ser br x dm si sn so sp sx none 0 st0 sc w h1 h3 hk hpl ht hc).mono fun e w' h => fin h
  · cases keep with
    | nil => exact (lcrash_none L cnt sv bv wk wb ik ib r is.root ser br x dm si sn so sp sx (some a) cap st0 sc w h1 h3 hk hpl ht hc).mono fun e w' h => fin h
    | cons y l => exact (lcrash_some L cnt sv bv wk wb ik ib r is.root ser br x dm si sn so sp sx a cap (y :: l) st0 sc w h1 h3 hk hpl ht hc (by simp) hm).mono fun e w' h => fin h
theorem commitW_len (st : StM) (m : BtM) (dm : DiskM) : (commitW st m dm).1.lies.length = dm.lies.length := by
  unfold commitW
  simp only
  split
  · exact putM_len _ _ _ _ _
  · rw [homeW_len]; exact putM_len _ _ _ _ _
set_option maxHeartbeats 2000000 in
theorem lifeA6 {base D cnt n L k : Nat} {w : World} (h : LifeA base D cnt n w L k) (f : Few cnt n k) (hbw : base ≤ w.heap.size) (si sn : Int) (so : Bool) (sp : UInt8) (sx : List UInt8) (kv : Value) (st0 sc : Int) :
    Calls Tryz.prog 27 #[.pointer (some ⟨L, 0, none⟩), .agg #[.int .i64 6, .int .i64 si, .int .i64 sn, .bool so, .int .u8 (sp.toNat : Int), .string ⟨⟨sx⟩⟩, kv, .int .i64 st0, .int .i64 sc]] w fun e w' => e = .returned (.tuple #[]) ∧ Kept (fun g => base ≤ g) w w' ∧ LifeA base D cnt n w' L (k + 1) := by
  have H := h
  obtain ⟨x, dm, sv, bv, wk, wb, ik, ib, r, is, ser, br, h1, h2, h3, h4, h5, h6, h7, h8, h9⟩ := h
  have nil : bv = .pointer none → Calls Tryz.prog 27 #[.pointer (some ⟨L, 0, none⟩), .agg #[.int .i64 6, .int .i64 si, .int .i64 sn, .bool so, .int .u8 (sp.toNat : Int), .string ⟨⟨sx⟩⟩, kv, .int .i64 st0, .int .i64 sc]] w fun e w' => e = .returned (.tuple #[]) ∧ Kept (fun g => base ≤ g) w w' ∧ LifeA base D cnt n w' L (k + 1) := by
    rintro rfl
    refine (lnil6 L _ _ _ _ _ _ _ _ _ _ _ _ si sn so sp sx kv st0 sc w h1).mono ?_
    rintro e w' ⟨rfl, kk⟩
    exact ⟨rfl, kk.of_no _, H.no kk⟩
  have hn2 := f.n2
  have hc2 := f.c2
  have hall := f.all
  have hk := f.k63
  rcases h9 with ⟨s, us, vs, bp, st, ph, rfl, rfl, a3, rfl, a5, rfl, a7, ⟨b1, b2, b3⟩ | ⟨b, u, v, hm, m, rfl, a2, rfl, a4, b5, a6⟩⟩ | ⟨rfl, b1, a3, wl, a4, a5, a6⟩
  · exact nil b1
  · clear nil H
    have hlen := a3.sits.rests.len
    have hpnd := a3.sits.rests.pend
    have hlt := a3.sits.low
    have hnn : m.held.n = st.now.n := by have := a4.grown.kl; omega
    have hser : st.next < 4611686018427387904 := by omega
    have hpos : ∀ y ∈ m.has, 0 < y.1 := fun y hy => (mem_low a4.grown.ok (a4.grown.has y hy)).1
    obtain ⟨DD, hD⟩ := a4.bt.has
    have hsz : m.changed = true → m.size = m.pages.length := fun hc => by unfold BtM.size BtM.pages; rw [if_neg (by simp [a4.grown.live, hc])]; simp; omega
    have hfit : m.changed = true → ¬ room (st.count : Int) < m.size → Fit st.count m.pages := fun hc hr => fit_pages hD a4.grown.ok hpos (by rw [← hsz hc]; omega)
    have hcs : m.changed = true → ¬ room (st.count : Int) < m.size → _ := fun hc hr => commit_sits a3.sits a4.grown (fun y hy => (hD.ok y hy).2) (hfit hc hr) hnn (by omega)
    obtain ⟨ka, kc, hwk⟩ := row_slice a4.will.kind
    obtain ⟨ta, tc, hwb⟩ := row_slice a4.will.body
    obtain ⟨es, clock, hmb⟩ : ∃ es clock, w.heap[hm]? = some (.map es clock) := by obtain ⟨es, clock, hh, -⟩ := hD.own; exact ⟨es, clock, hh⟩
    have hfar : ∀ {g : Nat} {cs : Array Value} {t : TypeId} {fr : Nat × Nat}, w.heap[g]? = some (.cells cs t fr) → (t = 3 ∨ t = 9) → ¬ (x.foot g ∨ g = s ∨ g = b ∨ g = hm ∨ g = L) := by
      intro g cs t fr hg ht e
      rcases e with e | rfl | rfl | rfl | rfl
      · exact h3.not_foot hg (by rcases ht with rfl | rfl <;> decide) (by rcases ht with rfl | rfl <;> decide) (by rcases ht with rfl | rfl <;> decide) e
      · exact cells_ne hg a3.store.head (by rcases ht with rfl | rfl <;> decide) rfl
      · exact cells_ne hg a4.bt.head (by rcases ht with rfl | rfl <;> decide) rfl
      · exact map_ne hg hmb rfl
      · exact cells_ne hg h1 (by rcases ht with rfl | rfl <;> decide) rfl
    have hM : ∀ g, (x.foot g ∨ g = s ∨ g = b ∨ g = hm ∨ g = L) → base ≤ g := by
      rintro g (e | rfl | rfl | rfl | rfl)
      · exact h4 g e
      · exact a3.ls
      · exact a4.lb
      · exact a4.lh
      · exact h2
    have hkeep : ∀ {w' : World} {a b0 : Value} {o : SeenM}, Kept (fun k => x.foot k ∨ k = s ∨ k = b ∨ k = hm ∨ k = L) w w' → SeenAt w base a b0 o → SeenAt w' base a b0 o := fun kk h => h.kept kk (fun g hg => by obtain ⟨c, hc⟩ := row_cells h.kind hg; exact hfar hc (.inl rfl)) (fun g hg => by obtain ⟨c, hc⟩ := row_cells h.body hg; exact hfar hc (.inr rfl))
    by_cases hcase : m.changed = true ∧ ¬ room (st.count : Int) < m.size ∧ (commitW st m dm).2 ≠ 0
    · obtain ⟨hc, hr, hne⟩ := hcase
      rcases hcs hc hr with ⟨q1, _⟩ | ⟨q1, q2, q3, q4⟩
      · exact absurd q1 hne
      have hC : commitM st m dm = ({ st with dead := true }, { m with ended := true }, (commitW st m dm).1, (commitW st m dm).2) := by
        unfold commitM
        rw [if_neg (by simp [a4.grown.live]), if_neg hr, if_neg (by simp [hc]), if_pos hne]
      have hph := b5 hc
      have hs0 : 0 < m.size := by rw [hsz hc]; simp [BtM.pages]
      refine (lstep6_no L st.count us vs bp wk wb ik ib m.held.root is.root false b s u v hm x st dm (commitW st m dm).1 m si sn so sp sx kv st0 sc w h1 a4.bt a3.store h3 a4.grown.live hpos a4.far hser (by rw [hpnd]; simp) (by omega) hs0 (by rw [hC]; exact q1) (by rw [hC]) q2).mono ?_
      rintro e w' ⟨x', rfl, kk, hd, hxd, hf, hl⟩
      refine ⟨rfl, kept_base kk hM, x', (commitW st m dm).1, _, _, wk, wb, ik, ib, m.held.root, is, st.serial, true, by rw [hxd]; exact hl, h2, hd, fun g hg => (hf g hg).elim (h4 g) (fun h => by omega), hxd.trans h5, hkeep kk h6, h7, h8, .inr ⟨rfl, rfl, by rw [commitW_len, hlen, a5], some (willM is m), rfl, fun v hv => ?_, by omega, .inr ⟨q2, fun keep torn cut => .inr ?_⟩⟩⟩
      · cases hv
        exact ⟨hkeep kk a4.will, rfl⟩
      · rw [← a5]
        rcases q4 keep torn cut with hq | hq
        · exact ⟨is, _, _, _, .inl rfl, hq, Nat.le_refl _, by omega⟩
        · exact ⟨willM is m, _, _, _, .inr rfl, hq, by omega, by omega⟩
    · have hcw : m.changed = true → ¬ room (st.count : Int) < m.size → (commitW st m dm).2 = 0 := fun hc hr => Decidable.byContradiction fun hne => hcase ⟨hc, hr, hne⟩
      have hcc := commit_cases st m dm a4.grown.live (by omega) (by omega) hlt hcw
      refine (lstep6 L st.count us vs bp wk wb ik ib m.held.root is.root false b s u v hm x st dm m si sn so sp sx kv st0 sc w h1 a4.bt a3.store h3 a4.grown.live hpos a4.far hser (by rw [hpnd]; simp) (by omega) (by rw [hwk]; rfl) (by rw [hwb]; rfl) rfl (by omega) hcw).mono ?_
      rintro e w' ⟨x', u', v', rfl, kk, hd, hxd, hf, hs, hb, hal, hl⟩
      have hI := hkeep kk h6
      have hW := hkeep kk a4.will
      have hkb : Kept (fun g => base ≤ g) w w' := kept_base kk hM
      have hx' : ∀ g, x'.foot g → base ≤ g := fun g hg => (hf g hg).elim (h4 g) (fun h => Nat.le_trans hbw h)
      have hfm : ¬ x'.foot hm := fun h => (hf hm h).elim a4.far (fun h => by have := (Array.getElem?_eq_some_iff.1 hmb).1; omega)
      have hbpb : ∀ b', bp = .pointer (some ⟨b', 0, none⟩) → base ≤ b' := fun b' e => by
        rw [a2] at e
        injection e with e; injection e with e; injection e with e
        subst e
        exact a4.lb
      rcases hcc with ⟨_, hce, hgt⟩ | ⟨_, hs0, hch, hce⟩ | ⟨_, hs0, hch, hpl, hce⟩
      · rw [hce] at hd hs hb hl
        simp only [if_true] at hd hs hb hl
        obtain ⟨rfl, rfl⟩ := hal.resolve_right (fun h => h.2.2 (.inl (by unfold room; omega)))
        exact ⟨rfl, hkb, x', dm, _, _, wk, wb, ik, ib, _, is, _, false, by rw [hxd]; exact hl, h2, hd, hx', hxd.trans h5, hI, h7, h8, .inl ⟨s, u', v', bp, st, ph, rfl, rfl, { a3 with disk := hd, store := by rw [hxd]; exact hs }, rfl, a5, rfl, by omega, .inr ⟨b, u, v, hm, m, rfl, a2, rfl, { a4 with bt := hb, will := hW, far := hfm }, b5, a6⟩⟩⟩
      · rw [hce] at hd hs hb hl
        simp only at hd hs hb hl
        rw [if_neg (by decide)] at hl
        obtain ⟨rfl, rfl⟩ := hal.resolve_right (fun h => h.2.2 (.inr hch))
        have hsame := (a4.grown.same hch).2
        have hroot : m.held.root = is.root := congrArg SeenM.root hsame
        rw [hsame] at hW
        rw [hroot] at hl
        exact ⟨rfl, hkb, x', dm, _, _, wk, wb, wk, wb, is.root, is, _, false, by rw [hxd]; exact hl, h2, hd, hx', hxd.trans h5, hW, h7, h8, .inl ⟨s, u', v', bp, st, 0, rfl, rfl, { a3 with disk := hd, store := by rw [hxd]; exact hs }, rfl, a5, rfl, by omega, .inl ⟨rfl, by rw [a2]; exact hb.old, hbpb⟩⟩⟩
      · rw [hce] at hd hs hb hl
        simp only at hd hs hb hl
        rw [if_neg (by decide)] at hl
        have hnr : ¬ room (st.count : Int) < m.size := by rw [hsz hch]; omega
        have hph := b5 hch
        rcases hcs hch hnr with ⟨q1, q2⟩ | ⟨q1, _⟩
        · refine ⟨rfl, hkb, x', (commitW st m dm).1, _, _, wk, wb, wk, wb, m.held.root, willM is m, _, false, by rw [hxd]; exact hl, h2, hd, hx', hxd.trans h5, hW, ?_, ?_, .inl ⟨s, u', v', bp, st.done m, 0, rfl, rfl, ⟨hd, by rw [hxd]; exact hs, q2, a3.ls, ?_, ?_⟩, rfl, ?_, rfl, ?_, .inl ⟨rfl, by rw [a2]; exact hb.old, hbpb⟩⟩⟩
          · show ((List.range m.held.n).map (willK is m)).length = n
            simp; omega
          · show ((List.range m.held.n).map (willB is m)).length = n
            simp; omega
          · rcases hal with ⟨rfl, rfl⟩ | ⟨rfl, rfl, _⟩
            · exact a3.lus
            · exact a4.lu
          · rcases hal with ⟨rfl, rfl⟩ | ⟨rfl, rfl, _⟩
            · exact a3.lvs
            · exact a4.lv
          · show m.held.n = n
            omega
          · show 3 * (st.next + 1 - 1) + 0 ≤ 3 + (k + 1)
            omega
        · rw [hcw hch hnr] at q1; cases q1
  · exact nil b1
theorem life_stepA {base D cnt n L k : Nat} {w : World} (h : LifeA base D cnt n w L k) (f : Few cnt n k) (hbw : base ≤ w.heap.size) (x : StepM) (kv : Value) (hx : StepIn w x kv) (hm : x.keep.length ≤ 140737488355328) :
    Calls Tryz.prog 27 #[.pointer (some ⟨L, 0, none⟩), .agg ⟨stepC x kv⟩] w fun e w' => e = .returned (.tuple #[]) ∧ Kept (fun g => base ≤ g) w w' ∧ LifeA base D cnt n w' L (k + 1) := by
  obtain ⟨kd, i, m, o, p, t, kp, tn, cu⟩ := x
  have hi := hx.i
  have ht := hx.text
  have hn := hx.n
  have htn := hx.torn
  have hcu := hx.cut
  have hkp := hx.keep
  simp only at hm hi ht hn htn hcu hkp
  by_cases e0 : kd = 0
  · subst e0; exact lifeA0 h f hbw i m o p t kv tn cu
  by_cases e1 : kd = 1
  · subst e1; exact lifeA1 h f hbw i m o p t kv tn cu
  by_cases e2 : kd = 2
  · subst e2; exact lifeA2 h i m o p t kv tn cu hi ht
  by_cases e3 : kd = 3
  · subst e3; exact lifeA3 h i m o p t kv tn cu hi ht
  by_cases e4 : kd = 4
  · subst e4; exact lifeA4 h i m o p t kv tn cu hi ht
  by_cases e5 : kd = 5
  · subst e5; exact lifeA5 h i m o p t kv tn cu hi ht
  by_cases e6 : kd = 6
  · subst e6; exact lifeA6 h f hbw i m o p t kv tn cu
  by_cases e7 : kd = 7
  · subst e7; exact lifeA7 h i m o p t kv tn cu
  by_cases e9 : kd = 9
  · subst e9; exact lifeA9 h i m o p t kv tn cu hn
  by_cases e10 : kd = 10
  · subst e10; exact lifeA10 h i m o p t kv tn cu kp hkp hm htn hcu
  exact lifeA_other h kd i m o p t kv tn cu ⟨e0, e1, e2, e3, e4, e5, e6, e7, e9, e10⟩
end Go.Proofs.YtabhieafjkaocaaGreat
namespace Go.Proofs.YtabhieafjkaocaaGreat
open Go.RowKit Go.Lib Go.Maps Bm
set_option maxRecDepth 20000
theorem sptr_ne (a : Nat) (w : World) : (binOp .neq 22 (.pointer (some ⟨a, 0, none⟩)) (.pointer none)).run Tryz.prog w = .ok (.bool true) w := by kernel_rfl
theorem wk0_bare (J N : Nat) (hJ : 2 ≤ J) (hN : 1 ≤ N) : Bare (wk0 (J + N)) J N 0 :=
  ⟨⟨List.length_replicate, fun k hk => by rw [wk0_view _ k hk]; exact List.length_replicate, rfl, wk0_ends _ _ (by omega)⟩, hJ, wk0_batch _ _ (by omega) (by omega), wk0_view _ _ (by omega)⟩
def seen0 (j : Nat) : SeenM := ⟨List.replicate j (-1), List.replicate j [], Root8.zero⟩
theorem bare_seen0 (n : Nat) : seen0 n = bareSeen n := by simp [seen0, bareSeen, List.map_const']
theorem life0 {base J N : Nat} {w : World} {L : Nat} {x : DiskH} {kv tv : Value} (hJ : 2 ≤ J) (hN : 1 ≤ N) (h1 : w.heap[L]? = some (.cells (lifeC x.d J (.pointer none) (.pointer none) (.slice none 0 0) (.slice none 0 0) Root8.zero kv tv Root8.zero 0 false true) 57 (0, 0))) (h2 : base ≤ L)
    (h3 : DiskAt w x (wk0 (J + N))) (h4 : ∀ g, x.foot g → base ≤ g) (h6 : SeenAt w base kv tv (seen0 N)) : LifeA base x.d J N w L 0 :=
  ⟨x, _, _, _, _, _, kv, tv, Root8.zero, seen0 N, 0, false, h1, h2, h3, h4, rfl, h6, List.length_replicate, List.length_replicate, .inr ⟨rfl, rfl, List.length_replicate, none, rfl, fun v hv => (by cases hv), by show ([] : List (Nat × List UInt8)).length < 100000; simp,
    .inl ⟨rfl, .inl ⟨rfl, bare_seen0 N, rfl, 0, wk0_bare J N hJ hN, by show 3 * (0 + 1) + (if false = true then 1 else 0) ≤ 3 + 0; simp⟩⟩⟩⟩
theorem LifeA.ok {base D cnt n : Nat} {w : World} {L k : Nat} (h : LifeA base D cnt n w L k) : w.cell? ⟨L, 26, none⟩ = some (.bool true) := by
  obtain ⟨x, dm, sv, bv, wk, wb, ik, ib, r, is, ser, br, h1, -⟩ := h
  exact (cell_of_row w L 26 _ _ _ h1).trans rfl
theorem LifeB.cells {base D cnt n : Nat} {w : World} {L k : Nat} (h : LifeB base D cnt n w L k) : w.cell? ⟨L, 26, none⟩ = some (.bool true) ∧ ∃ s, w.cell? ⟨L, 2, none⟩ = some (.pointer (some ⟨s, 0, none⟩)) := by
  obtain ⟨x, dm, sv, bv, wk, wb, ik, ib, r, is, ser, br, h1, _, _, _, _, _, _, _, _, h0⟩ := h
  obtain ⟨s, us, vs, bp, st, ph, e, _⟩ := h0
  subst e
  exact ⟨(cell_of_row w L 26 _ _ _ h1).trans rfl, s, (cell_of_row w L 2 _ _ _ h1).trans rfl⟩
theorem LifeA.crashed {base D cnt n : Nat} {w : World} {L k : Nat} (h : LifeA base D cnt n w L k) : w.cell? ⟨L, 0, none⟩ = some (.pointer (some ⟨D, 0, none⟩)) ∧
    Calls Tryz.prog 28 #[.pointer (some ⟨D, 0, none⟩), .agg #[.slice none 0 0, .int .i64 (-1), .int .i64 0]] w fun e w' => e = .returned (.tuple #[]) ∧ Kept (fun g => base ≤ g) w w' ∧ LitA base D cnt n w' L (k + 1) := by
  obtain ⟨x, dm, sv, bv, wk, wb, ik, ib, r, is, ser, br, h1, h2, h3, h4, h5, h6, h7, h8, h9⟩ := h
  subst h5
  refine ⟨(cell_of_row w L 0 _ _ _ h1).trans rfl, (dcrash_ok x dm (.slice none 0 0) [] (-1) 0 w h3 ⟨by simp, .inl ⟨rfl, rfl⟩⟩ ⟨by omega, by omega⟩ ⟨by omega, by omega⟩ (LifeA.few h9)).mono ?_⟩
  rintro e w' ⟨x', rfl, kk, hd, hxd, hf⟩
  exact ⟨rfl, kept_base kk h4, (life_crash h1 h2 h3 h4 rfl h6 h7 h8 h9 [] (-1) 0 kk hd hxd hf).2⟩
theorem seen0_next (j : Nat) : kindC (seen0 (j + 1)).kind = kindC (seen0 j).kind ++ [.int .i64 (-1)] ∧ textC (seen0 (j + 1)).body = textC (seen0 j).body ++ [.string ⟨#[]⟩] := by
  unfold seen0 kindC textC
  simp [List.replicate_succ']
set_option maxRecDepth 100000
set_option maxHeartbeats 8000000 in
theorem atomic_walk (pages journal : Int) (sv : Value) (l : List StepM) (w : World) (hp : I64 pages) (hj : I64 journal) (hl : StepsAt w sv l) (hkl : ∀ y ∈ l, y.keep.length ≤ 140737488355328) :
    Calls Tryz.prog 5 #[.int .i64 pages, .int .i64 journal, sv] w fun e w' => e = .returned (.bool true) ∧ Kept No w w' := by
  obtain ⟨sa, sc, rfl⟩ := hl.len
  have hll := hl.1
  have HL := Lib.hid hl
  have HLL := Lib.hid hll
  have HKL := Lib.hid hkl
  have HP := Lib.hid hp
  have HJ := Lib.hid hj
  obtain ⟨iint, hiint, hz0, hz1, hz2⟩ := info_parts infoInt
  obtain ⟨istring, histring, hs0, hs1, hs2⟩ := info_parts infoString
  generalize hNl : l.length = nl at *
  have HNL := Lib.hid hNl
  clear hl hkl hp hj hNl
  go_enter Tryz.func5, Tryz.ntmps5
  go_upto_region 3 with (go_at_call 25; refine (wakes_ok w).mono ?_; rintro e w1 ⟨rfl, k1⟩; have K1 := Lib.hid k1; clear k1)
  go_cut [19] (fun s19 wx => s19 = .bool (decide (pages < 4 ∨ 64 < pages)) ∧ wx = w1)
  case first =>
    by_cases h1 : pages < 4
    · have h1 : decide (pages < 4) = true := decide_eq_true h1
      have h2 : decide (pages < 4 ∨ 64 < pages) = true := decide_eq_true (.inl (of_decide_eq_true h1))
      have H2 := Lib.hid h2
      clear h2
      go_wp2_with fail
      go_meet
      case rel => exact ⟨by rw [H2.out], rfl⟩
    · have h1 : decide (pages < 4) = false := decide_eq_false h1
      have h2 : decide (pages < 4 ∨ 64 < pages) = decide (64 < pages) := by simp at h1; by_cases h : 64 < pages <;> simp [h] ; omega
      have H2 := Lib.hid h2
      clear h2
      go_wp2_with fail
      go_meet
      case rel => exact ⟨by rw [H2.out], rfl⟩
  case rest =>
  obtain ⟨rfl, rfl⟩ := hcut
  go_upto_if 19 with fail
  go_cut [0] (fun s0 wx => (∃ P : Nat, 4 ≤ P ∧ P ≤ 64 ∧ s0 = .int .i64 (P : Int)) ∧ wx = wc)
  case first =>
    by_cases h1 : pages < 4 ∨ 64 < pages
    · have h1 : decide (pages < 4 ∨ 64 < pages) = true := decide_eq_true h1
      go_wp2_with fail
      go_meet
      case rel => exact ⟨⟨9, by omega, by omega, rfl⟩, rfl⟩
    · have h2 := h1
      have h1 : decide (pages < 4 ∨ 64 < pages) = false := decide_eq_false h1
      go_wp2_with fail
      go_meet
      case rel => exact ⟨⟨pages.toNat, by omega, by omega, by rw [Int.toNat_of_nonneg (by omega)]⟩, rfl⟩
  case rest =>
  obtain ⟨⟨P, hP4, hP64, rfl⟩, rfl⟩ := hcut
  have HP4 := Lib.hid hP4
  have HP64 := Lib.hid hP64
  clear HP
  go_upto_region 5 with fail
  go_cut [27] (fun s27 wx => s27 = .bool (decide (journal < 2 ∨ (P : Int) - 2 < journal)) ∧ wx = wc)
  case first =>
    by_cases h1 : journal < 2
    · have h1 : decide (journal < 2) = true := decide_eq_true h1
      have h2 : decide (journal < 2 ∨ (P : Int) - 2 < journal) = true := decide_eq_true (.inl (of_decide_eq_true h1))
      have H2 := Lib.hid h2
      clear h2
      go_wp2_with fail
      go_meet
      case rel => exact ⟨by rw [H2.out], rfl⟩
    · have h1 : decide (journal < 2) = false := decide_eq_false h1
      have h2 : decide (journal < 2 ∨ (P : Int) - 2 < journal) = decide ((P : Int) - 2 < journal) := by simp at h1; by_cases h : (P : Int) - 2 < journal <;> simp [h] ; omega
      have H2 := Lib.hid h2
      clear h2
      go_wp2_with fail
      go_meet
      case rel => exact ⟨by rw [H2.out], rfl⟩
  case rest =>
  obtain ⟨rfl, rfl⟩ := hcut
  go_upto_if 27 with fail
  go_cut [1] (fun s1 wx => (∃ J : Nat, 2 ≤ J ∧ J + 2 ≤ P ∧ s1 = .int .i64 (J : Int)) ∧ wx = wc)
  case first =>
    by_cases h1 : journal < 2 ∨ (P : Int) - 2 < journal
    · have h1 : decide (journal < 2 ∨ (P : Int) - 2 < journal) = true := decide_eq_true h1
      go_wp2_with fail
      go_meet
      case rel => exact ⟨⟨2, by omega, by omega, rfl⟩, rfl⟩
    · have h2 := h1
      have h1 : decide (journal < 2 ∨ (P : Int) - 2 < journal) = false := decide_eq_false h1
      go_wp2_with fail
      go_meet
      case rel => exact ⟨⟨journal.toNat, by omega, by omega, by rw [Int.toNat_of_nonneg (by omega)]⟩, rfl⟩
  case rest =>
  obtain ⟨⟨J, hJ2, hJP, rfl⟩, rfl⟩ := hcut
  have HJ2 := Lib.hid hJ2
  have HJP := Lib.hid hJP
  clear HJ
  obtain ⟨N, hN⟩ : ∃ N, P = J + N := ⟨P - J, by omega⟩
  have hN2 : 2 ≤ N := by omega
  have HN := Lib.hid hN
  have HN2 := Lib.hid hN2
  clear hN hN2
  go_wp2_with (go_at_call 26; refine (dnew_ok P wc (by omega) (by omega)).mono ?_; rintro e w2 ⟨x, rfl, k2, hx2, hf2⟩; have hsz1 := K1.out.size; have K2 : Hid (Kept No w w2) := Lib.hid (K1.out.trans k2); have F2 : Hid (∀ g, x.foot g → w.heap.size ≤ g) := Lib.hid (fun g hg => Nat.le_trans hsz1 (hf2 g hg)); have HX2 := Lib.hid hx2; clear k2 hx2 hf2 hsz1 K1)
  have hLf : (w2.alloc (.cells #[.pointer (some ⟨x.d, 0, none⟩), .int .i64 (J : Int), .pointer none, .pointer none, .slice none 0 0, .slice none 0 0, .int .u32 0, .int .u32 0, .int .u32 0, .int .u32 0, .int .u32 0, .int .u32 0, .int .u32 0, .int .u32 0, .slice none 0 0, .slice none 0 0, .int .u32 0, .int .u32 0, .int .u32 0, .int .u32 0, .int .u32 0, .int .u32 0, .int .u32 0, .int .u32 0, .int .u64 0, .bool false, .bool true] 57)).heap[w2.heap.size]? = some (.cells (lifeC x.d J (.pointer none) (.pointer none) (.slice none 0 0) (.slice none 0 0) Root8.zero (.slice none 0 0) (.slice none 0 0) Root8.zero 0 false true) 57 (0, 0)) := heap_alloc_new w2 _
  have k3 : Kept No w2 (w2.alloc (.cells #[.pointer (some ⟨x.d, 0, none⟩), .int .i64 (J : Int), .pointer none, .pointer none, .slice none 0 0, .slice none 0 0, .int .u32 0, .int .u32 0, .int .u32 0, .int .u32 0, .int .u32 0, .int .u32 0, .int .u32 0, .int .u32 0, .slice none 0 0, .slice none 0 0, .int .u32 0, .int .u32 0, .int .u32 0, .int .u32 0, .int .u32 0, .int .u32 0, .int .u32 0, .int .u32 0, .int .u64 0, .bool false, .bool true] 57)) := (Kept.refl _ _).alloc _
  generalize (w2.alloc (.cells #[.pointer (some ⟨x.d, 0, none⟩), .int .i64 (J : Int), .pointer none, .pointer none, .slice none 0 0, .slice none 0 0, .int .u32 0, .int .u32 0, .int .u32 0, .int .u32 0, .int .u32 0, .int .u32 0, .int .u32 0, .int .u32 0, .slice none 0 0, .slice none 0 0, .int .u32 0, .int .u32 0, .int .u32 0, .int .u32 0, .int .u32 0, .int .u32 0, .int .u32 0, .int .u32 0, .int .u64 0, .bool false, .bool true] 57)) = w3 at *
  have hbL : w.heap.size ≤ w2.heap.size := K2.out.size
  generalize w2.heap.size = L at *
  have HBL := Lib.hid hbL
  have HX3 := Lib.hid (HX2.out.kept k3 (fun _ _ h => h))
  have K3 := Lib.hid (K2.out.trans k3)
  have HL3 := Lib.hid hLf
  have hsub : decide ((0 : Int) < (P : Int) - (J : Int)) = true := decide_eq_true (by have := HN.out; have := HN2.out; omega)
  clear hLf k3 hbL HX2 K2 hsub
  go_loopw [10] (fun i wr => ∃ (j : Nat) (kv tv : Value), j ≤ N ∧ i = .int .i64 (j : Int) ∧ wr.heap[L]? = some (.cells (lifeC x.d J (.pointer none) (.pointer none) (.slice none 0 0) (.slice none 0 0) Root8.zero kv tv Root8.zero 0 false true) 57 (0, 0)) ∧ SeenAt wr w.heap.size kv tv (seen0 j) ∧ DiskAt wr x (wk0 P) ∧ Kept No w wr) (fun i _ => N - (intOf i).toNat)
  case atStart => exact ⟨0, .slice none 0 0, .slice none 0 0, by omega, rfl, HL3.out, ⟨World.ownsRow_nil _ _ _ _, World.ownsRow_nil _ _ _ _⟩, HX3.out, K3.out⟩
  case round =>
    obtain ⟨j, kv, tv, hj, rfl, hrow, hsn, hx, hkw⟩ := hrel
    clear HL3 HX3 K3
    have HR := Lib.hid hrow
    have HSN := Lib.hid hsn
    have HX := Lib.hid hx
    have HKW := Lib.hid hkw
    have hsz := hkw.size
    obtain ⟨oa, oc, rfl⟩ := row_slice hsn.kind
    obtain ⟨ta, tc, rfl⟩ := row_slice hsn.body
    have hlk : (seen0 j).kind.length = j ∧ (seen0 j).body.length = j := ⟨List.length_replicate, List.length_replicate⟩
    have hPJ : (P : Int) - (J : Int) = (N : Int) := by have := HN.out; omega
    rw [hlk.1, hlk.2] at HR HSN
    clear hrow hsn hx hkw hlk
    by_cases hlt : j < N
    · have HRK : Hid (∀ o, (wr.alloc o).ownsRow w.heap.size 3 1 (.slice oa j oc) j (kindC (seen0 j).kind)) := Lib.hid (fun o => ((Kept.refl No wr).alloc o).row (by have h := HSN.out.kind; rwa [show (seen0 j).kind.length = j from List.length_replicate] at h) (fun _ _ h => h))
      have l14 : wr.cell? ⟨L, 14, none⟩ = some (.slice oa j oc) := (cell_of_row wr L 14 _ _ _ HR.out).trans rfl
      go_upto_region 15 with (at_builtin; go_loud (refine wpList_append_own_at _ (by rfl) (.tmp 51) (.tmp 52) 45 (by rfl) w.heap.size 3 iint _ 1 8 Tryz.underlying45 hiint hz0 hz1 hz2 (by rfl) (by decide) _ j (kindC (seen0 j).kind) (by rfl) (HRK.out _) ⟨wr.heap.size, 0, none⟩ 1 1 [.int .i64 (-1)] (by rfl) (by rfl) (cell_one_new _ _ _) (by simp [Value.oneCell']) (by unfold maxLen; omega) (by omega) (by simp; omega) ?_; intro v2 w7 hown hgrow _ _; obtain ⟨va, vc, rfl⟩ := row_slice hown; have HO7 := Lib.hid hown; have HG := Lib.hid hgrow; clear hown hgrow; have hk7 : Kept (fun q => (Value.slice oa j oc).ownBlock = some q) wr w7 := ((Kept.refl _ wr).alloc _).trans (Kept.of_grown HG.out); have hL7 := hk7.heap HR.out (fun e => by obtain ⟨c, hc⟩ := row_cells HSN.out.kind e; exact cells_ne HR.out hc (by decide) rfl); have f14 := frozen_of_row w7 L 14 _ _ hL7; have c14 : w7.cell? ⟨L, 14, none⟩ = some (.slice oa j oc) := (cell_of_row w7 L 14 _ _ _ hL7).trans rfl; have HL7 := Lib.hid hL7; have HK7 := Lib.hid hk7; clear hL7 hk7))
      have hL8 : (w7.setCell ⟨L, 14, none⟩ (.slice va (j + 1) vc)).heap[L]? = some (.cells (lifeC x.d J (.pointer none) (.pointer none) (.slice none 0 0) (.slice none 0 0) Root8.zero (.slice va (j + 1) vc) (.slice ta j tc) Root8.zero 0 false true) 57 (0, 0)) := heap_setCell_same w7 L 14 _ _ (.slice va (j + 1) vc) HL7.out
      have k8 : Kept (fun y => y = L) w7 (w7.setCell ⟨L, 14, none⟩ (.slice va (j + 1) vc)) := (Kept.refl _ _).setCell _ _ (fun _ => rfl)
      generalize w7.setCell ⟨L, 14, none⟩ (.slice va (j + 1) vc) = w8 at *
      have hlL : ∀ {v : Value} {n : Nat} {xs : List Value} {t : TypeId}, w7.ownsRow w.heap.size t 1 v n xs → t ≠ 57 → ∀ g, v.ownBlock = some g → ¬ g = L := fun h ht g hg e => by subst e; obtain ⟨c, hc⟩ := row_cells h hg; exact cells_ne HL7.out hc (Ne.symm ht) rfl
      have HK8 : Hid (w8.ownsRow w.heap.size 3 1 (.slice va (j + 1) vc) (j + 1) (kindC (seen0 (j + 1)).kind)) := Lib.hid (by rw [(seen0_next j).1]; exact k8.row HO7.out (hlL HO7.out (by decide)))
      have ht7 : w7.ownsRow w.heap.size 9 1 (.slice ta j tc) j (textC (seen0 j).body) := HK7.out.row (by have h := HSN.out.body; rwa [show (seen0 j).body.length = j from List.length_replicate] at h) (fun g hg e => by
        obtain ⟨c, hc⟩ := row_cells HSN.out.body hg
        obtain ⟨c', hc'⟩ := row_cells HSN.out.kind e
        exact cells_ne hc hc' (by decide) rfl)
      have HT8 : Hid (w8.ownsRow w.heap.size 9 1 (.slice ta j tc) j (textC (seen0 j).body)) := Lib.hid (k8.row ht7 (hlL ht7 (by decide)))
      have hx7 : DiskAt w7 x (wk0 P) := HX.out.kept HK7.out (fun g hg e => by obtain ⟨c, hc⟩ := row_cells HSN.out.kind e; exact HX.out.not_foot hc (by decide) (by decide) (by decide) hg)
      have HX8 : Hid (DiskAt w8 x (wk0 P)) := Lib.hid (hx7.kept k8 (fun g hg e => by subst e; exact hx7.not_foot HL7.out (by decide) (by decide) (by decide) hg))
      have KW8 : Hid (Kept No w w8) := Lib.hid ((HKW.out.next HK7.out (fun q hq e => by have := (HSN.out.kind.lt q e).1; omega)).next k8 (fun g hg e => absurd HBL.out (by omega)))
      have HR8 := Lib.hid hL8
      have HTN : Hid (∀ o, (w8.alloc o).ownsRow w.heap.size 9 1 (.slice ta j tc) j (textC (seen0 j).body)) := Lib.hid (fun o => ((Kept.refl No w8).alloc o).row HT8.out (fun _ _ h => h))
      have l15 : w8.cell? ⟨L, 15, none⟩ = some (.slice ta j tc) := (cell_of_row w8 L 15 _ _ _ hL8).trans rfl
      have hsz8 := KW8.out.size
      clear hL8 k8 hlL ht7 hx7 HO7 HG HL7 HK7 HR HSN HX HKW HRK f14 c14 l14 hsz
      go_wp2_with (at_builtin; go_loud (refine wpList_append_own_at _ (by rfl) (.tmp 62) (.tmp 63) 52 (by rfl) w.heap.size 9 istring _ 1 16 Tryz.underlying52 histring hs0 hs1 hs2 (by rfl) (by decide) _ j (textC (seen0 j).body) (by rfl) (HTN.out _) ⟨w8.heap.size, 0, none⟩ 1 1 [.string ⟨#[]⟩] (by rfl) (by rfl) (cell_one_new _ _ _) (by simp [Value.oneCell']) (by unfold maxLen; omega) (by omega) (by simp; omega) ?_; intro v3 w9 hown hgrow _ _; obtain ⟨ua, uc, rfl⟩ := row_slice hown; have HO9 := Lib.hid hown; have HG := Lib.hid hgrow; clear hown hgrow; have hk9 : Kept (fun q => (Value.slice ta j tc).ownBlock = some q) w8 w9 := ((Kept.refl _ w8).alloc _).trans (Kept.of_grown HG.out); have hL9 := hk9.heap HR8.out (fun e => by obtain ⟨c, hc⟩ := row_cells HT8.out e; exact cells_ne HR8.out hc (by decide) rfl); have f15 := frozen_of_row w9 L 15 _ _ hL9; have c15 : w9.cell? ⟨L, 15, none⟩ = some (.slice ta j tc) := (cell_of_row w9 L 15 _ _ _ hL9).trans rfl; have HL9 := Lib.hid hL9; have HK9 := Lib.hid hk9; clear hL9 hk9))
      go_roundw
      case rel =>
        have hLA : (w9.setCell ⟨L, 15, none⟩ (.slice ua (j + 1) uc)).heap[L]? = some (.cells (lifeC x.d J (.pointer none) (.pointer none) (.slice none 0 0) (.slice none 0 0) Root8.zero (.slice va (j + 1) vc) (.slice ua (j + 1) uc) Root8.zero 0 false true) 57 (0, 0)) := heap_setCell_same w9 L 15 _ _ (.slice ua (j + 1) uc) HL9.out
        have kA : Kept (fun y => y = L) w9 (w9.setCell ⟨L, 15, none⟩ (.slice ua (j + 1) uc)) := (Kept.refl _ _).setCell _ _ (fun _ => rfl)
        have hlL : ∀ {v : Value} {n : Nat} {xs : List Value} {t : TypeId}, w9.ownsRow w.heap.size t 1 v n xs → t ≠ 57 → ∀ g, v.ownBlock = some g → ¬ g = L := fun h ht g hg e => by subst e; obtain ⟨c, hc⟩ := row_cells h hg; exact cells_ne HL9.out hc (Ne.symm ht) rfl
        have ht9 := HO9.out
        have hk9 : w9.ownsRow w.heap.size 3 1 (.slice va (j + 1) vc) (j + 1) (kindC (seen0 (j + 1)).kind) := HK9.out.row HK8.out (fun g hg e => by
          obtain ⟨c, hc⟩ := row_cells HK8.out hg
          obtain ⟨c', hc'⟩ := row_cells HT8.out e
          exact cells_ne hc hc' (by decide) rfl)
        have hx9 : DiskAt w9 x (wk0 P) := HX8.out.kept HK9.out (fun g hg e => by obtain ⟨c, hc⟩ := row_cells HT8.out e; exact HX8.out.not_foot hc (by decide) (by decide) (by decide) hg)
        refine ⟨j + 1, _, _, by omega, by first | rfl | go_num, hLA, ⟨?_, ?_⟩, hx9.kept kA (fun g hg e => by subst e; exact hx9.not_foot HL9.out (by decide) (by decide) (by decide) hg), (KW8.out.next HK9.out (fun q hq e => by have := (HT8.out.lt q e).1; omega)).next kA (fun g hg e => absurd HBL.out (by omega))⟩
        · rw [show (seen0 (j + 1)).kind.length = j + 1 from List.length_replicate]
          exact kA.row hk9 (hlL hk9 (by decide))
        · rw [show (seen0 (j + 1)).body.length = j + 1 from List.length_replicate, (seen0_next j).2]
          exact kA.row ht9 (hlL ht9 (by decide))
      case measure => simp [intOf]; omega
    · obtain rfl : j = N := by omega
      have hlife : LifeA w.heap.size x.d J j wr L 0 := life0 HJ2.out (by have := HN2.out; omega) (by
        have h := HR.out
        exact h) HBL.out (by rw [← HN.out]; exact HX.out) F2.out HSN.out
      have HLIFE := Lib.hid hlife
      have hfew : ∀ k, k ≤ 9223372036854776000 → Few J j k := fun k hk => ⟨by have := HN2.out; omega, HJ2.out, by have := HN.out; have := HP64.out; omega, hk⟩
      have HFEW := Lib.hid hfew
      clear hlife hfew HR HSN HX F2
      generalize x.d = D at *
      go_wp2_with fail
      go_loopw [11] (fun i wr => ∃ (q kk : Nat), q ≤ nl ∧ i = .int .i64 (q : Int) ∧ LifeA w.heap.size D J j wr L kk ∧ kk ≤ q ∧ Kept No w wr) (fun i _ => nl - (intOf i).toNat)
      case atStart => exact ⟨0, 0, by omega, rfl, HLIFE.out, by omega, HKW.out⟩
      case round =>
        obtain ⟨q, kk, hq, rfl, hlf, hkk, hkw⟩ := hrel
        have HLF := Lib.hid hlf
        have HKK := Lib.hid hkk
        have HKV := Lib.hid hkw
        have l26 := hlf.ok
        clear hlf hkk hkw HLIFE HKW
        have hnl := HNL.out
        by_cases hlt : q < nl
        · obtain ⟨gb, off, cap2, ev, hb2, hcs⟩ := (HL.out.kept HKV.out (fun _ _ h => h)).at (by omega)
          obtain ⟨hra, hrc⟩ : sa = some ⟨gb, off, none⟩ ∧ sc = cap2 := by
            injection ev with e1 e2 e3
            exact ⟨e1, e3⟩
          subst hra
          subst hrc
          obtain ⟨y, kv, hst, hmem, hcl⟩ : ∃ (y : StepM) (kv : Value), StepIn wr y kv ∧ y ∈ l ∧ ∀ i c, (stepC y kv)[i]? = some c → wr.cell? ⟨gb, off + q * 9 + i, none⟩ = some c := by
            obtain ⟨kv, q1, q2⟩ := hcs q (by rw [HNL.out]; exact hlt)
            exact ⟨_, kv, q1, List.getElem_mem _, q2⟩
          have hkp := HKL.out y hmem
          clear hcs ev hb2 hnl hmem
          obtain ⟨kd, si, sn, so, sp, sx, kp, st0, sc⟩ := y
          obtain ⟨c0, c1, c2, c3, c4, c5, c6, c7, c8⟩ := step_cells hcl
          have hcall : Calls Tryz.prog 27 #[.pointer (some ⟨L, 0, none⟩), .agg #[.int .i64 kd, .int .i64 si, .int .i64 sn, .bool so, .int .u8 (sp.toNat : Int), .string ⟨⟨sx⟩⟩, kv, .int .i64 st0, .int .i64 sc]] wr fun e w' => e = .returned (.tuple #[]) ∧ Kept (fun g => w.heap.size ≤ g) wr w' ∧ LifeA w.heap.size D J j w' L (kk + 1) :=
            life_stepA HLF.out (HFEW.out kk (by have := HKK.out; have := HLL.out; omega)) HKV.out.size ⟨kd, si, sn, so, sp, sx, kp, st0, sc⟩ kv hst hkp
          have HCALL := Lib.hid hcall
          clear hcall hst
          go_wp2_with (go_at_call 27; refine HCALL.out.mono ?_; rintro e wn ⟨rfl, kn, hlfn⟩; have KN := Lib.hid kn; have HLFN := Lib.hid hlfn; clear kn hlfn)
          go_roundw
          case rel => exact ⟨q + 1, kk + 1, by omega, by first | rfl | go_num, HLFN.out, by have := HKK.out; omega, HKV.out.next KN.out (fun g hg e => absurd e (by omega))⟩
          case measure => simp [intOf]; omega
        · obtain rfl : q = nl := by omega
          obtain ⟨l0, hcr⟩ := HLF.out.crashed
          have HCR := Lib.hid hcr
          clear hcr
          go_wp2_with (go_at_call 28; (refine HCR.out.mono ?_; rintro e wn ⟨rfl, kn, hlit⟩; have hup := up_litA hlit (HFEW.out _ (by have := HKK.out; have := HLL.out; omega)) (Nat.le_trans HKV.out.size kn.size); have HUP := Lib.hid hup; have KN := Lib.hid (HKV.out.next kn (fun g hg e => absurd e (by omega))); clear hup kn hlit))
          refine HUP.out.mono ?_
          rintro e wu ⟨rfl, ku, hlb⟩
          have KU : Hid (Kept No w wu) := Lib.hid (KN.out.next ku (fun g hg e => absurd e (by omega)))
          obtain ⟨m26, s1, m2⟩ := hlb.cells
          have hup2 := up_litA hlb.lit (HFEW.out _ (by have := HKK.out; have := HLL.out; omega)) KU.out.size
          have HUP2 := Lib.hid hup2
          have heq := ptr_not
          have hne := sptr_ne
          clear hup2 hlb ku l0 l26 HUP KN HCR HLF
          go_wp2_with (go_at_call 29; (refine HUP2.out.mono ?_; rintro e wz ⟨rfl, kz, hlz⟩; have KZ := Lib.hid (KU.out.next kz (fun g hg e => absurd e (by omega))); obtain ⟨z26, s2, z2⟩ := hlz.cells; clear kz hlz))
          go_ret
          exact ⟨rfl, KZ.out⟩
end Go.Proofs.YtabhieafjkaocaaGreat
