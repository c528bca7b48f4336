/- A part. -/
import Derived.Test.YtabhieafjkaocaaGreatMabp
import Derived.Test.YtabhieafjkaocaaGreatMabo
import Derived.Test.YtabhieafjkaocaaGreatMabn
import Derived.Test.YtabhieafjkaocaaGreatMabf
set_option linter.unusedVariables false
set_option linter.unusedSimpArgs false
namespace Go.Proofs.YtabhieafjkaocaaGreat
open Go.RowKit Go.Lib Bm
set_option maxRecDepth 20000
theorem LiveIn.no {base : Nat} {w w' : World} {x : DiskH} {s us : Nat} {vs : Value} {b u : Nat} {v : Value} {hm : Nat} {m : BtM} {is : SeenM} {wk wb ik ib : Value} (h : LiveIn base w x s us vs b u v hm m is wk wb ik ib) (k : Kept No w w') : LiveIn base w' x s us vs b u v hm m is wk wb ik ib :=
  { h with bt := h.bt.no k, will := h.will.no k }
theorem kept_base {M : Nat → Prop} {w w' : World} {base : Nat} (k : Kept M w w') (h : ∀ g, M g → base ≤ g) : Kept (fun g => base ≤ g) w w' := k.mono fun g _ e => h g e
theorem LiveIn.base {base : Nat} {w : World} {x : DiskH} {s us : Nat} {vs : Value} {b u : Nat} {v : Value} {hm : Nat} {m : BtM} {is : SeenM} {wk wb ik ib : Value} (h : LiveIn base w x s us vs b u v hm m is wk wb ik ib) {L : Nat} (hL : base ≤ L) : ∀ g, ChF L b v hm wk wb g → base ≤ g := by
  rintro g (rfl | (rfl | e | rfl) | e | e)
  · exact hL
  · exact h.lb
  · exact h.lv g e
  · exact h.lh
  · exact (h.will.kind.lt g e).1
  · exact (h.will.body.lt g e).1
end Go.Proofs.YtabhieafjkaocaaGreat
namespace Go.Proofs.YtabhieafjkaocaaGreat
open Go.RowKit Go.Lib Go.Maps Bm
set_option maxRecDepth 20000
set_option maxHeartbeats 4000000 in
theorem lstep6 (L j us : Nat) (vs bp wk wb ik ib : Value) (r q : Root8) (br : Bool) (b s u : Nat) (v : Value) (hm : Nat) (x : DiskH) (st : StM) (dm : DiskM) (m : BtM) (si sn : Int) (so : Bool) (sp : UInt8) (sx : List UInt8) (kv : Value) (st0 sc : Int) (w : World)
    (hL : w.heap[L]? = some (.cells (lifeC x.d j (.pointer (some ⟨s, 0, none⟩)) (.pointer (some ⟨b, 0, none⟩)) wk wb r ik ib q st.serial br true) 57 (0, 0)))
    (hB : BtAt w b s u v hm m) (hS : StAt w s x.d us vs bp st) (hX : DiskAt w x dm) (hme : m.ended = false) (hpos : ∀ y ∈ m.has, 0 < y.1) (hf : ¬ x.foot hm) (hser : st.next < 4611686018427387904) (hpl : dm.pend.length < 100000) (hcn : st.count ≤ dm.lies.length)
    (hwk : wk.oneCell' = true) (hwb : wb.oneCell' = true) (hj : j = st.count) (hj2 : j ≤ 199) (hcw : m.changed = true → ¬ room (st.count : Int) < m.size → (commitW st m dm).2 = 0) :
    Calls Tryz.prog 27 #[.pointer (some ⟨L, 0, none⟩), .agg #[.int .i64 6, .int .i64 si, .int .i64 sn, .bool so, .int .u8 (sp.toNat : Int), .string ⟨⟨sx⟩⟩, kv, .int .i64 st0, .int .i64 sc]] w fun e w' => ∃ (x' : DiskH) (u' : Nat) (v' : Value), e = .returned (.tuple #[]) ∧ Kept (fun k => x.foot k ∨ k = s ∨ k = b ∨ k = hm ∨ k = L) w w' ∧
      DiskAt w' x' (commitM st m dm).2.2.1 ∧ x'.d = x.d ∧ (∀ g, x'.foot g → x.foot g ∨ w.heap.size ≤ g) ∧ StAt w' s x.d u' v' bp (commitM st m dm).1 ∧ BtAt w' b s u v hm (commitM st m dm).2.1 ∧ ((u' = us ∧ v' = vs) ∨ (u' = u ∧ v' = v ∧ ¬ (room (st.count : Int) < m.size ∨ m.changed = false))) ∧
      w'.heap[L]? = some (.cells (if (commitM st m dm).2.2.2 = 60 then lifeC x.d j (.pointer (some ⟨s, 0, none⟩)) (.pointer (some ⟨b, 0, none⟩)) wk wb r ik ib q st.serial br true else lifeC x.d j (.pointer (some ⟨s, 0, none⟩)) (.pointer none) wk wb r wk wb r (commitM st m dm).1.serial br true) 57 (0, 0)) := by
  have HL := Lib.hid hL
  have hlc := fun w' (k : Kept No w w') => lcommit_ok L j us vs bp wk wb ik ib r q br b s u v hm x st dm m si sn so sp sx kv st0 sc w' (k.heap hL (fun h => h)) (hB.no k) (hS.no k) (hX.kept k (fun _ _ h => h)) hme hpos hf hser hpl hcn hwk hwb hj hj2 hcw
  generalize hALT : (¬ (room (st.count : Int) < m.size ∨ m.changed = false)) = ALTP at hlc ⊢
  clear hALT
  generalize hC : commitM st m dm = C at *
  clear hC
  generalize hCS : (if C.2.2.2 = 60 then lifeC x.d j (.pointer (some ⟨s, 0, none⟩)) (.pointer (some ⟨b, 0, none⟩)) wk wb r ik ib q st.serial br true else lifeC x.d j (.pointer (some ⟨s, 0, none⟩)) (.pointer none) wk wb r wk wb r C.1.serial br true) = CS at hlc ⊢
  have HLC := Lib.hid hlc
  clear hCS hL hlc hB hS hX hme hpos hf hser hpl hcn hwk hwb hj hj2 hcw
  go_enter Tryz.func27, Tryz.ntmps27
  go_upto_region 1 with fail
  have hX := heap_alloc_new w (.cells #[.int .i64 6, .int .i64 si, .int .i64 sn, .bool so, .int .u8 (sp.toNat : Int), .string ⟨⟨sx⟩⟩, kv, .int .i64 st0, .int .i64 sc] 62)
  have k1 : Kept No w (w.alloc (.cells #[.int .i64 6, .int .i64 si, .int .i64 sn, .bool so, .int .u8 (sp.toNat : Int), .string ⟨⟨sx⟩⟩, kv, .int .i64 st0, .int .i64 sc] 62)) := (Kept.refl _ _).alloc _
  have hL1 := k1.heap HL.out (fun h => h)
  have K1 := Lib.hid k1
  generalize (w.alloc (.cells #[.int .i64 6, .int .i64 si, .int .i64 sn, .bool so, .int .u8 (sp.toNat : Int), .string ⟨⟨sx⟩⟩, kv, .int .i64 st0, .int .i64 sc] 62)) = w1 at *
  generalize hXs : w.heap.size = X at *
  have HXS := Lib.hid hXs
  clear hXs
  have x0 : w1.cell? ⟨X, 0, none⟩ = some (.int .i64 6) := (cell_of_row w1 X 0 _ _ _ hX).trans rfl
  have l3 : w1.cell? ⟨L, 3, none⟩ = some (.pointer (some ⟨b, 0, none⟩)) := (cell_of_row w1 L 3 _ _ _ hL1).trans rfl
  have HX := Lib.hid hX
  clear hX hL1 k1
  go_wp2_with (first
    | (refine wpList_load_row (by rfl) 62 (.tmp 3) (by rfl) X (by rfl) _ _ _ _ HX.out Tryz.underlying62 (by rfl) (by exact step_size) ?_)
    | (go_at_call 63; refine (HLC.out _ K1.out).mono ?_; rintro e w2 ⟨x', u', v', rfl, k2, hd, hx2, hf2, hs2, hb2, ha2, hl2⟩; have HP := Lib.hid (And.intro k2 (And.intro hd (And.intro hx2 (And.intro hf2 (And.intro hs2 (And.intro hb2 (And.intro ha2 hl2))))))); clear k2 hd hx2 hf2 hs2 hb2 ha2 hl2))
  go_end0
  obtain ⟨k2, hd, hx2, hf2, hs2, hb2, ha2, hl2⟩ := HP.out
  have kall := (K1.out.of_no (fun k => x.foot k ∨ k = s ∨ k = b ∨ k = hm ∨ k = L)).trans k2
  have hf3 : ∀ g, x'.foot g → x.foot g ∨ w.heap.size ≤ g := fun g hg => (hf2 g hg).imp id (fun h => Nat.le_trans K1.out.size h)
  first
    | exact ⟨x', u', v', rfl, kall, hd, hx2, hf3, hs2, hb2, ha2, hl2⟩
    | exact ⟨rfl, kall, x', u', v', hd, hx2, hf3, hs2, hb2, ha2, hl2⟩
    | exact ⟨rfl, kall, x', hd, hx2, hf3, u', v', hs2, hb2, ha2, hl2⟩
end Go.Proofs.YtabhieafjkaocaaGreat
namespace Go.Proofs.YtabhieafjkaocaaGreat
open Go.RowKit Go.Lib Bm
set_option maxRecDepth 20000
end Go.Proofs.YtabhieafjkaocaaGreat
namespace Go.Proofs.YtabhieafjkaocaaGreat
open Go.RowKit Bm
def fateP (keep : List Bool) (torn : Int) (c i : Nat) (new old : List UInt8) : List UInt8 :=
  if (i : Int) = torn then new.take (8 * c) ++ old.drop (8 * c) else if keep.getD i false = true then new else old
def fateL (keep : List Bool) (torn : Int) (c : Nat) : Nat → WrL → List (List UInt8) → List (List UInt8)
  | _, [], l => l
  | i, x :: p, l => fateL keep torn c (i + 1) p (l.set x.1 (fateP keep torn c i x.2 (l.getD x.1 [])))
def cutOf (cut : Int) : Nat := (min (max cut 0) 128).toNat
theorem cutOf_le (cut : Int) : cutOf cut ≤ 128 := by unfold cutOf; omega
def DiskM.crash (m : DiskM) (keep : List Bool) (torn cut : Int) : DiskM := ⟨fateL keep torn (cutOf cut) 0 m.pend m.lies, [], false, false, m.left⟩
def Mix (new old r : List UInt8) : Prop := r = old ∨ r = new ∨ ∃ c, 0 < c ∧ c < 128 ∧ r = new.take (8 * c) ++ old.drop (8 * c)
theorem Mix.len {new old r : List UInt8} (h : Mix new old r) (h1 : new.length = 1024) (h2 : old.length = 1024) : r.length = 1024 := by
  rcases h with rfl | rfl | ⟨c, _, _, rfl⟩
  · exact h2
  · exact h1
  · simp; omega
theorem fateP_mix (keep : List Bool) (torn : Int) {c : Nat} (hc : c ≤ 128) (i : Nat) {new old : List UInt8} (h1 : new.length = 1024) (h2 : old.length = 1024) : Mix new old (fateP keep torn c i new old) := by
  unfold fateP
  split
  · by_cases e0 : c = 0
    · subst e0; exact .inl (by simp)
    · by_cases e1 : c = 128
      · subst e1; exact .inr (.inl (by rw [List.take_of_length_le (by omega), List.drop_of_length_le (by omega), List.append_nil]))
      · exact .inr (.inr ⟨c, by omega, by omega, rfl⟩)
  · split
    · exact .inr (.inl rfl)
    · exact .inl rfl
theorem getD_set (l : List (List UInt8)) (n k : Nat) (b : List UInt8) (hn : n < l.length) : (l.set n b).getD k [] = if n = k then b else l.getD k [] := by
  rw [List.getD_eq_getElem?_getD, List.getElem?_set]
  split
  · rename_i e; subst e; simp [hn]
  · simp
theorem fateL_len (keep : List Bool) (torn : Int) (c : Nat) : ∀ (p : WrL) (i : Nat) (l : List (List UInt8)), (fateL keep torn c i p l).length = l.length
  | [], _, _ => rfl
  | x :: p, i, l => by rw [fateL, fateL_len keep torn c p, List.length_set]
theorem fate_at (keep : List Bool) (torn : Int) {c : Nat} (hc : c ≤ 128) : ∀ (p : WrL) (i : Nat) (l : List (List UInt8)), FitW l.length p → (p.map (·.1)).Nodup → (∀ k, k < l.length → (l.getD k []).length = 1024) → ∀ k, k < l.length →
    (DiskM.last p k = none → (fateL keep torn c i p l).getD k [] = l.getD k []) ∧ ∀ b, DiskM.last p k = some b → Mix b (l.getD k []) ((fateL keep torn c i p l).getD k [])
  | [], i, l, _, _, _, k, _ => ⟨fun _ => rfl, fun b h => (by cases h)⟩
  | x :: p, i, l, hf, hd, hl, k, hk => by
    have hx := hf x (by simp)
    have hd' := List.nodup_cons.1 (show (x.1 :: p.map (·.1)).Nodup from hd)
    have hm := fateP_mix keep torn hc i hx.2 (hl x.1 hx.1)
    have hno : DiskM.last p x.1 = none := last_none p x.1 fun y hy e => hd'.1 (List.mem_map.2 ⟨y, hy, e⟩)
    have ih := fate_at keep torn hc p (i + 1) (l.set x.1 (fateP keep torn c i x.2 (l.getD x.1 []))) (by rw [List.length_set]; exact fun y hy => hf y (by simp [hy])) hd'.2 (fun j hj => by
      rw [List.length_set] at hj
      rw [getD_set _ _ _ _ hx.1]
      split
      · exact hm.len hx.2 (hl x.1 hx.1)
      · exact hl j hj) k (by rw [List.length_set]; exact hk)
    rw [getD_set _ _ _ _ hx.1] at ih
    rw [fateL]
    simp only [DiskM.last]
    by_cases e : x.1 = k
    · subst e
      rw [if_pos rfl] at ih
      rw [hno] at ih ⊢
      rw [if_pos rfl]
      refine ⟨fun h => (by cases h), fun b h => ?_⟩
      have h : x.2 = b := by simpa using h
      subst h
      rw [ih.1 rfl]
      exact hm
    · rw [if_neg e] at ih
      rw [if_neg e, Option.or_none]
      exact ih
theorem view_still {m : DiskM} (hp : m.pend = []) (k : Nat) : m.view k = m.lies.getD k [] := by unfold DiskM.view; rw [hp]; simp [DiskM.last]
theorem crash_view {m0 m : DiskM} {p : WrL} {N : Nat} (h0 : m0.pend = []) (hlen : m0.lies.length = N) (h64 : ∀ k, k < N → (m0.view k).length = 1024) (hl : m.lies = m0.lies) (hp : m.pend = p) (hf : FitW N p) (hd : (p.map (·.1)).Nodup) (keep : List Bool) (torn cut : Int) :
    (m.crash keep torn cut).lies.length = N ∧ ∀ k, k < N → (DiskM.last p k = none → (m.crash keep torn cut).view k = m0.view k) ∧ ∀ b, DiskM.last p k = some b → Mix b (m0.view k) ((m.crash keep torn cut).view k) := by
  unfold DiskM.crash
  refine ⟨by rw [fateL_len, hl, hlen], fun k hk => ?_⟩
  rw [view_still rfl k]
  simp only
  rw [hp, hl, view_still h0 k]
  exact fate_at keep torn (cutOf_le cut) p 0 m0.lies (by rw [hlen]; exact hf) hd (fun j hj => by rw [← view_still h0 j]; exact h64 j (by omega)) k (by omega)
theorem dec_got {b : List UInt8} {n : Nat} {p : PageV} (h : dec b n = .ok p) : p.number = n ∧ p.serial ≤ 4611686018427387904 ∧ p.body.length ≤ 996 ∧ b = enc p := by
  unfold dec decode at h
  split at h
  · cases h
  · split at h
    · cases h
    · simp only at h
      split at h
      · cases h
      · split at h
        · cases h
        · split at h
          · cases h
          · cases h
            rename_i h1 h2 h3
            exact ⟨rfl, by have : (2 : Nat) ^ 62 = 4611686018427387904 := by decide
                           simp only at h2 ⊢; omega, by simp; omega, by
              unfold enc; simp only [ne_eq, Decidable.not_not] at h3; exact h3.symm⟩
theorem dec_ends {b : List UInt8} {n : Nat} {p : PageV} (h : dec b n = .ok p) : ends b = (p.serial, p.serial) := by
  obtain ⟨_, h2, h3, rfl⟩ := dec_got h
  exact ends_enc p (by omega) h3
theorem torn_dec {new old : List UInt8} {c S n : Nat} (h1 : new.length = 1024) (h2 : old.length = 1024) (h0 : 0 < c) (hc : c < 128) (hs : (ends new).1 = S) (ho : (ends old).2 ≠ S) : ∃ e, dec (new.take (8 * c) ++ old.drop (8 * c)) n = .error e := by
  cases hd : dec (new.take (8 * c) ++ old.drop (8 * c)) n with
  | error e => exact ⟨e, rfl⟩
  | ok p =>
    exfalso
    have he := dec_ends hd
    have e1 : (ends (new.take (8 * c) ++ old.drop (8 * c))).1 = (ends new).1 := by
      unfold ends
      simp only
      rw [List.take_append_of_le_length (by simp; omega), List.take_take, show min 8 (8 * c) = 8 by omega]
    have e2 : (ends (new.take (8 * c) ++ old.drop (8 * c))).2 = (ends old).2 := by
      unfold ends
      simp only
      have hl : (new.take (8 * c)).length = 8 * c := by simp; omega
      rw [List.drop_append, hl, List.drop_of_length_le (by rw [hl]; omega), List.nil_append, List.drop_drop, show 8 * c + (1016 - 8 * c) = 1016 by omega]
    rw [he] at e1 e2
    simp only at e1 e2
    omega
theorem mix_ends {new old r : List UInt8} {S : Nat} (h : Mix new old r) (h1 : new.length = 1024) (h2 : old.length = 1024) (hs : ends new = (S, S)) : ((ends r).1 = S ∨ (ends r).1 = (ends old).1) ∧ ((ends r).2 = S ∨ (ends r).2 = (ends old).2) := by
  rcases h with rfl | rfl | ⟨c, h0, hc, rfl⟩
  · exact ⟨.inr rfl, .inr rfl⟩
  · rw [hs]; exact ⟨.inl rfl, .inl rfl⟩
  · have e1 : (ends (new.take (8 * c) ++ old.drop (8 * c))).1 = (ends new).1 := by
      unfold ends
      simp only
      rw [List.take_append_of_le_length (by simp; omega), List.take_take, show min 8 (8 * c) = 8 by omega]
    have e2 : (ends (new.take (8 * c) ++ old.drop (8 * c))).2 = (ends old).2 := by
      unfold ends
      simp only
      have hl : (new.take (8 * c)).length = 8 * c := by simp; omega
      rw [List.drop_append, hl, List.drop_of_length_le (by rw [hl]; omega), List.nil_append, List.drop_drop, show 8 * c + (1016 - 8 * c) = 1016 by omega]
    rw [e1, e2, hs]
    exact ⟨.inl rfl, .inr rfl⟩
end Go.Proofs.YtabhieafjkaocaaGreat
