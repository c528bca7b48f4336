/- A part. -/
import Derived.Test.YtabhieafjkaocaaGreatMaar
import Derived.StillTailTactics
set_option linter.unusedVariables false
set_option linter.unusedSimpArgs false
namespace Go.Proofs.YtabhieafjkaocaaGreat
open Go.RowKit Go.Lib Go.Maps Bm
set_option maxRecDepth 20000
def freeFrom (ws : List Nat) (n i : Nat) : Option Nat := if i < n then (if mem ws i then freeFrom ws n (i + 1) else some i) else none
  termination_by n - i
theorem freeFrom_in (ws : List Nat) (n i : Nat) (h : i < n) (hm : mem ws i = true) : freeFrom ws n i = freeFrom ws n (i + 1) := by
  rw [freeFrom, if_pos h, if_pos hm]
theorem freeFrom_out (ws : List Nat) (n i : Nat) (h : i < n) (hm : mem ws i = false) : freeFrom ws n i = some i := by
  rw [freeFrom, if_pos h, if_neg (by simp [hm])]
theorem freeFrom_end (ws : List Nat) (n i : Nat) (h : ¬ i < n) : freeFrom ws n i = none := by rw [freeFrom, if_neg h]
theorem freeFrom_some {ws : List Nat} {n : Nat} : ∀ {i k : Nat}, freeFrom ws n i = some k → i ≤ k ∧ k < n ∧ mem ws k = false := by
  intro i
  generalize hd : n - i = d
  induction d generalizing i with
  | zero => intro k h; rw [freeFrom_end ws n i (by omega)] at h; cases h
  | succ d ih =>
    intro k h
    by_cases hm : mem ws i = true
    · rw [freeFrom_in ws n i (by omega) hm] at h
      obtain ⟨a, b, c⟩ := ih (by omega) h
      exact ⟨by omega, b, c⟩
    · have hm : mem ws i = false := by simpa using hm
      rw [freeFrom_out ws n i (by omega) hm] at h
      cases h
      exact ⟨Nat.le_refl _, by omega, hm⟩
def HeldM.put (h : HeldM) (k : Nat) : HeldM := { h with ws := putW h.ws k }
def HeldM.take (h : HeldM) (k : Nat) : HeldM := { h with ws := takeW h.ws k }
theorem HeldM.Ok.put {h : HeldM} (o : h.Ok) {k : Nat} (h0 : 0 < k) (hk : k < h.n) : (h.put k).Ok := by
  have hl := o.tidy.length_gt hk
  refine ⟨o.tidy.put hk, o.most, o.some_, ?_, fun i hi => ?_⟩
  · show mem (putW h.ws k) 0 = false
    rw [mem_putW _ _ _ hl, o.zero]
    simp; omega
  · rcases o.root i hi with e | ⟨e1, e2⟩
    · exact .inl e
    · refine .inr ⟨e1, ?_⟩
      show mem (putW h.ws k) (h.root.get i) = true
      rw [mem_putW _ _ _ hl, e2, Bool.true_or]
theorem HeldM.Ok.take {h : HeldM} (o : h.Ok) {k : Nat} (hk : k < h.n) (hr : ∀ i, i < 8 → h.root.get i ≠ k) : (h.take k).Ok := by
  have hl := o.tidy.length_gt hk
  refine ⟨o.tidy.take k, o.most, o.some_, ?_, fun i hi => ?_⟩
  · show mem (takeW h.ws k) 0 = false
    rw [mem_takeW _ _ _ hl, o.zero, Bool.false_and]
  · rcases o.root i hi with e | ⟨e1, e2⟩
    · exact .inl e
    · refine .inr ⟨e1, ?_⟩
      show mem (takeW h.ws k) (h.root.get i) = true
      rw [mem_takeW _ _ _ hl, e2]
      simpa using fun e => hr i hi e.symm
def BtM.alloc (m : BtM) (c : UInt8 × List UInt8) : BtM × Nat × Int :=
  if m.ended then (m, 0, 5) else if 996 < c.2.length then (m, 0, 82) else
    match freeFrom m.held.ws m.held.n 1 with
    | none => (m, 0, 3)
    | some k => (⟨m.held.put k, insC k c m.has, true, m.ended⟩, k, 0)
def BtM.release (m : BtM) (n : Nat) : BtM × Int :=
  if m.ended then (m, 5) else if m.held.asked n ≠ 0 then (m, m.held.asked n) else if n ∈ m.held.root.list then (m, 1)
  else (⟨m.held.take n, delC n m.has, true, m.ended⟩, 0)
def BtM.setRoot (m : BtM) (i : Int) (n : Nat) : BtM × Int :=
  if m.ended then (m, 5) else if i < 0 ∨ 8 ≤ i then (m, 1) else if n ≠ 0 ∧ m.held.asked n ≠ 0 then (m, m.held.asked n)
  else (⟨{ m.held with root := m.held.root.set i.toNat n }, m.has, true, m.ended⟩, 0)
theorem HasAt.put {w w' : World} {hm : Nat} {l : List ConT} {D : DataW Unit} (x : HasAt w hm l D) {k : Nat} (hk : k < 4096) {c : UInt8 × List UInt8} (hc : c.2.length ≤ 996)
    (ho : w'.ownsMap Tryz.prog 25 contElem hm (l.length + 1) (D.put (.int .u32 (k : Int)) (.agg [.lit (.int .u8 (c.1.toNat : Int)), .lit (.string c.2)]))) :
    HasAt w' hm (insC k c l) (D.put (.int .u32 (k : Int)) (.agg [.lit (.int .u8 (c.1.toNat : Int)), .lit (.string c.2)])) := by
  have hK := int_keyed (P := Tryz.prog) Tryz.underlying25
  have hs : Maps.size (D.put (.int .u32 (k : Int)) (.agg [.lit (.int .u8 (c.1.toNat : Int)), .lit (.string c.2)])) = (insC k c l).length := by
    rw [Maps.size_put (x.own.tidy hK), insC_length k c l x.rise, x.has k, x.size]
  refine ⟨?_, x.rise.ins, hs, fun j => ?_, fun j c' hj z => ?_, fun y hy => ?_, fun z hz => ?_⟩
  · have := own_norm ho
    rwa [hs] at this
  · rw [getC_ins k c l x.rise j]
    by_cases e : j = k
    · subst e; rw [if_pos rfl, Maps.has_put_same x.own.isMap (by trivial)]; rfl
    · rw [if_neg e, Maps.has_put_other (by intro e'; injection e' with e1 e2; omega)]; exact x.has j
  · rw [getC_ins k c l x.rise j] at hj
    by_cases e : j = k
    · subst e; rw [if_pos rfl] at hj; cases hj; rw [Maps.atKey_put_same x.own.isMap (by trivial)]
    · rw [if_neg e] at hj; rw [Maps.atKey_put_other (by intro e'; injection e' with e1 e2; omega)]; exact x.get j c' hj z
  · have h1 : ∀ (l : List ConT), (∀ y ∈ l, y.1 < 4096 ∧ y.2.2.length ≤ 996) → ∀ y ∈ insC k c l, y.1 < 4096 ∧ y.2.2.length ≤ 996 := by
      intro l
      induction l with
      | nil => intro _ y hy; simp [insC] at hy; subst hy; exact ⟨hk, hc⟩
      | cons a l ih =>
        intro hl y hy
        simp only [insC] at hy
        split at hy
        · rcases List.mem_cons.1 hy with rfl | hy
          · exact ⟨hk, hc⟩
          · exact hl y hy
        · split at hy
          · rcases List.mem_cons.1 hy with rfl | hy
            · exact ⟨hk, hc⟩
            · exact hl y (List.mem_cons_of_mem _ hy)
          · rcases List.mem_cons.1 hy with rfl | hy
            · exact hl _ (by simp)
            · exact ih (fun y hy => hl y (List.mem_cons_of_mem _ hy)) y hy
    exact h1 l x.ok y hy
  · by_cases e : z = .int .u32 (k : Int)
    · exact ⟨k, e⟩
    · rw [Maps.has_put_other e] at hz; exact x.nat z hz
theorem HasAt.del {w w' : World} {hm : Nat} {l : List ConT} {D : DataW Unit} (x : HasAt w hm l D) {k : Nat}
    (ho : w'.ownsMap Tryz.prog 25 contElem hm l.length (D.del (.int .u32 (k : Int)))) : HasAt w' hm (delC k l) (D.del (.int .u32 (k : Int))) := by
  have hK := int_keyed (P := Tryz.prog) Tryz.underlying25
  have hs : Maps.size (D.del (.int .u32 (k : Int))) = (delC k l).length := by
    have h1 := Maps.size_del (k := .int .u32 (k : Int)) (x.own.tidy hK)
    have h2 := delC_length k l x.rise
    rw [x.has k, x.size] at h1
    omega
  refine ⟨?_, x.rise.del, hs, fun j => ?_, fun j c' hj z => ?_, fun y hy => x.ok y (List.mem_filter.1 hy).1, fun z hz => ?_⟩
  · have := own_norm ho
    rwa [hs] at this
  · rw [getC_del k l j]
    by_cases e : j = k
    · subst e; rw [if_pos rfl, Maps.has_del_same]; rfl
    · rw [if_neg e, Maps.has_del_other (by intro e'; injection e' with e1 e2; omega)]; exact x.has j
  · rw [getC_del k l j] at hj
    by_cases e : j = k
    · rw [if_pos e] at hj; cases hj
    · rw [if_neg e] at hj; rw [Maps.atKey_del_other (by intro e'; injection e' with e1 e2; omega)]; exact x.get j c' hj z
  · by_cases e : z = .int .u32 (k : Int)
    · rw [e, Maps.has_del_same] at hz; cases hz
    · rw [Maps.has_del_other e] at hz; exact x.nat z hz
abbrev BtF (b : Nat) (v : Value) (hm : Nat) : Nat → Prop := fun k => k = b ∨ v.ownBlock = some k ∨ k = hm
theorem BtAt.apart {w : World} {b s u : Nat} {v : Value} {hm : Nat} {m : BtM} (h : BtAt w b s u v hm m) : u ≠ b ∧ u ≠ hm ∧ b ≠ hm ∧ v.ownBlock ≠ some u ∧ v.ownBlock ≠ some b ∧ v.ownBlock ≠ some hm := by
  obtain ⟨D, hD⟩ := h.has
  obtain ⟨es, clock, hb, _⟩ := hD.own
  refine ⟨cells_ne h.held.set.head h.head (by decide), map_ne h.held.set.head hb, map_ne h.head hb, fun e => ?_, fun e => ?_, fun e => ?_⟩
  · obtain ⟨cs, hc⟩ := row_cells h.held.set.row e; exact cells_ne hc h.held.set.head (by decide) rfl
  · obtain ⟨cs, hc⟩ := row_cells h.held.set.row e; exact cells_ne hc h.head (by decide) rfl
  · obtain ⟨cs, hc⟩ := row_cells h.held.set.row e; exact map_ne hc hb rfl
theorem free_ok (s d u : Nat) (v bp : Value) (m : StM) (w : World) (h : StAt w s d u v bp m) :
    Calls Tryz.prog 15 #[.pointer (some ⟨s, 0, none⟩)] w fun e w' => e = .returned (.int .i64 ((m.now.n : Int) - 1 - (cnt m.now.ws : Int))) ∧ Kept No w w' := by
  have c2 := (cell_of_row w s 2 _ _ _ h.head).trans rfl
  have HS := Lib.hid h.held.set
  have hn := h.held.ok.most
  have hc := cnt_le m.now.ws
  have hl := h.held.ok.tidy.size
  have hcn : cnt m.now.ws ≤ 8192 := by omega
  have hw1 : IntKind.i64.wrap ((m.now.n : Int) - 1) = (m.now.n : Int) - 1 := by rw [IntKind.wrap_i64]; omega
  have hw2 : IntKind.i64.wrap ((m.now.n : Int) - 1 - (cnt m.now.ws : Int)) = (m.now.n : Int) - 1 - (cnt m.now.ws : Int) := by rw [IntKind.wrap_i64]; omega
  have HCN := Lib.hid (fun q => count_ok u m.now.n v m.now.ws (w.drewN q) (HS.out.drewN q))
  generalize cnt m.now.ws = cn at *
  clear h hc hl
  go_enter Tryz.func15, Tryz.ntmps15
  have hlen := fun q => len_any u m.now.n v m.now.ws (w.drewN q) (HS.out.drewN q)
  have hcnt := HCN.out
  go_wp2_with fail
  go_quiet (first | (go_at_call 44; exact quiet (hlen _)) | (go_at_call 53; exact quiet (hcnt _)))
  go_wp2
  go_ret
  exact ⟨rfl, (Kept.refl No w).drewN _⟩
theorem BtAt.len {w : World} {b s u : Nat} {v : Value} {hm : Nat} {m : BtM} (h : BtAt w b s u v hm m) : m.has.length ≤ 4096 := by
  obtain ⟨D, hD⟩ := h.has
  exact rise_length hD.rise fun x hx => (hD.ok x hx).1
set_option maxHeartbeats 1000000 in
theorem alloc_ok (b s u : Nat) (v : Value) (hm : Nat) (m : BtM) (kind : UInt8) (body : List UInt8) (w : World) (h : BtAt w b s u v hm m) (hb : body.length ≤ 9223372036854775807) :
    Calls Tryz.prog 11 #[.pointer (some ⟨b, 0, none⟩), .int .u8 (kind.toNat : Int), .string ⟨⟨body⟩⟩] w fun e w' =>
      e = .returned (.tuple #[.int .u32 ((m.alloc (kind, body)).2.1 : Int), .int .i64 (m.alloc (kind, body)).2.2]) ∧ Kept (BtF b v hm) w w' ∧ BtAt w' b s u v hm (m.alloc (kind, body)).1 := by
  have HO := Lib.hid (open_ok b s u v hm m w h)
  have H := Lib.hid h
  clear h
  by_cases he : m.ended = true
  · have e1 : m.alloc (kind, body) = (m, 0, 5) := by unfold BtM.alloc; rw [if_pos he]
    rw [e1]
    have HE := Lib.hid he
    clear he e1
    go_enter Tryz.func11, Tryz.ntmps11
    go_wp2_with (go_at_call 43; refine HO.out.mono ?_; rintro e w' ⟨rfl, rfl⟩; rw [HE.out])
    go_ret2
    exact ⟨rfl, Kept.refl _ _, H.out⟩
  have HE := Lib.hid he
  by_cases hbig : 996 < body.length
  · have e1 : m.alloc (kind, body) = (m, 0, 82) := by unfold BtM.alloc; rw [if_neg he, if_pos hbig]
    rw [e1]
    have hd : decide ((996 : Int) < (body.length : Int)) = true := by simp; omega
    clear he e1 hbig
    go_enter Tryz.func11, Tryz.ntmps11
    go_wp2_with (go_at_call 43; refine HO.out.mono ?_; rintro e w' ⟨rfl, rfl⟩; rw [if_neg HE.out])
    go_ret2
    exact ⟨rfl, Kept.refl _ _, H.out⟩
  have hd : decide ((996 : Int) < (body.length : Int)) = false := by simp; omega
  have HBL : Hid (body.length ≤ 996) := Lib.hid (by omega)
  have hal : m.alloc (kind, body) = match freeFrom m.held.ws m.held.n 1 with
    | none => (m, 0, 3)
    | some k => (⟨m.held.put k, insC k (kind, body) m.has, true, m.ended⟩, k, 0) := by
    unfold BtM.alloc
    (rw [if_neg he, if_neg hbig]) <;> rfl
  rw [hal]
  generalize hA : (match freeFrom m.held.ws m.held.n 1 with
    | none => (m, 0, 3)
    | some k => (⟨m.held.put k, insC k (kind, body) m.has, true, m.ended⟩, k, 0) : BtM × Nat × Int) = A
  have HA := Lib.hid hA
  clear hA
  have hmost := H.out.held.ok.most
  have hsome := H.out.held.ok.some_
  have HHS := Lib.hid H.out.held.set
  have hln := fun w' (hw : w' = w) => len_any u m.held.n v m.held.ws w' (hw ▸ H.out.held.set)
  have hhs := fun (k : Nat) (hk : k < m.held.n) => has_mem u m.held.n v m.held.ws w k H.out.held.set hk
  have HLN := Lib.hid hln
  have HHM := Lib.hid hhs
  obtain ⟨ap1, ap2, ap3, ap4, ap5, ap6⟩ := H.out.apart
  have hhead := H.out.head
  have c1 := (cell_of_row w b 1 _ _ _ hhead).trans rfl
  clear he hbig hal hln hhs
  generalize hN : m.held.n = N at *
  have HN := Lib.hid hN
  clear hN
  go_enter Tryz.func11, Tryz.ntmps11
  go_wp2_with (go_at_call 43; refine HO.out.mono ?_; rintro e w' ⟨rfl, rfl⟩; rw [if_neg HE.out])
  go_loopw [9] (fun i wr => ∃ k : Nat, 1 ≤ k ∧ k ≤ N ∧ i = .int .i64 k ∧ freeFrom m.held.ws N 1 = freeFrom m.held.ws N k ∧ w = wr) (fun i _ => N - (intOf i).toNat)
  case atStart => exact ⟨1, by omega, by omega, rfl, rfl, rfl⟩
  case round =>
    obtain ⟨k, hk1, hkN, rfl, hfr, rfl⟩ := hrel
    have HFR := Lib.hid hfr
    clear hfr
    by_cases hlt : k < N
    · have hdk : decide ((k : Int) < (N : Int)) = true := by simp; omega
      cases hmem : mem m.held.ws k
      · have HMEM := Lib.hid hmem
        clear hmem
        go_wp2_with (first
          | (go_at_call 44; refine (HLN.out _ rfl).mono ?_; rintro e w' ⟨rfl, rfl⟩)
          | (go_at_call 45; refine (HHM.out k hlt).mono ?_; rintro e w' ⟨rfl, rfl⟩; rw [HMEM.out]))
        refine (Bm.put_ok u N v m.held.ws w k HHS.out hlt).mono ?_
        rintro e w1 ⟨rfl, k1, hs1⟩
        have hh1 := k1.heap H.out.head ap5
        have c10 := (cell_of_row w1 b 10 _ _ _ hh1).trans rfl
        obtain ⟨D, hD⟩ := H.out.has
        have HD1 := Lib.hid (hD.kept k1 ap6)
        have HHH := Lib.hid hh1
        have K1 := Lib.hid k1
        have HS1 := Lib.hid hs1
        have hlen := H.out.len
        have hwf : (Lit.int .u32 (k : Int)).wf = true := by
          simp [Lit.wf, IntKind.u32]
          have : IntKind.u32.min = 0 := rfl
          have : IntKind.u32.max = 4294967295 := rfl
          omega
        have hkey := keyOf_int_mk (P := Tryz.prog) Tryz.underlying25 hwf
        have hK := int_keyed (P := Tryz.prog) Tryz.underlying25
        have hwr : IntKind.u32.wrap (k : Int) = (k : Int) := by rw [IntKind.wrap_u32]; omega
        clear k1 hs1 hh1 hwf hD
        go_wp2_with (first
          | (at_mapUpdate; go_loud (refine wpList_mapUpdate_own _ (by rfl) (.tmp 46) (.tmp 48) (.tmp 51) 91 (by rfl) 25 95 hK Tryz.underlying91 contElem hm m.has.length D (by rfl) HD1.out.own (by unfold maxLen; omega) _ _ _ (by rfl) (by rfl) hkey (.agg [.lit (.int .u8 (kind.toNat : Int)), .lit (.string body)]) [] rfl ?_; intro w2 hm2 hg2; have HM := Lib.hid hm2; have G2 := Lib.hid (Kept.of_grown hg2); have hh2 := G2.out.heap HHH.out (by intro e; injection e with e; exact ap3 e.symm); have f11 := frozen_of_row w2 b 11 _ _ hh2; have d11 := (cell_of_row w2 b 11 _ _ _ hh2).trans rfl; have HH2 := Lib.hid hh2; clear hm2 hg2 hh2)))
        go_ret2
        have hN := HN.out
        subst hN
        have hA : A = (⟨m.held.put k, insC k (kind, body) m.has, true, m.ended⟩, k, 0) := by rw [← HA.out, HFR.out, freeFrom_out _ _ _ hlt HMEM.out]
        rw [hA]
        have k3 : Kept (fun j => j = b) w2 (w2.setCell ⟨b, 11, none⟩ (.bool true)) := (Kept.refl _ _).setCell _ _ (fun _ => rfl)
        have hh3 := heap_setCell_same w2 b 11 _ _ (.bool true) HH2.out
        simp only [List.setIfInBounds_toArray, List.set_cons_succ, List.set_cons_zero] at hh3
        have hb2 := lt_of_heap H.out.head
        refine ⟨rfl, (((K1.out.mono (N := BtF b v hm) fun j _ e => .inr (.inl e)).next G2.out fun j _ e => .inr (.inr (by injection e with e; exact e.symm))).next k3 fun j _ e => .inl e), hh3, ⟨(HS1.out.kept G2.out (fun e => ap2 (by injection e with e; exact e.symm)) fun g hg e => ap6 (by injection e with e; rw [e]; exact hg)).kept k3 ap1 (fun g hg e => ap5 (e ▸ hg)), H.out.held.ok.put hk1 hlt⟩, _, (HD1.out.put (by omega) HBL.out HM.out).kept k3 (fun e => ap3 e.symm)⟩
      · have HMEM := Lib.hid hmem
        clear hmem
        go_wp2_with (first
          | (go_at_call 44; refine (HLN.out _ rfl).mono ?_; rintro e w' ⟨rfl, rfl⟩)
          | (go_at_call 45; refine (HHM.out k hlt).mono ?_; rintro e w' ⟨rfl, rfl⟩; rw [HMEM.out]))
        refine ⟨⟨k + 1, by omega, by omega, by first | rfl | go_num, ?_, by first | rfl | trivial⟩, by simp [intOf]; omega⟩
        rw [HFR.out, freeFrom_in _ _ _ hlt HMEM.out]
    · have hdk : decide ((k : Int) < (N : Int)) = false := by simp; omega
      go_wp2_with (first
          | (go_at_call 44; refine (HLN.out _ rfl).mono ?_; rintro e w' ⟨rfl, rfl⟩))
      go_ret2
      have hA : A = (m, 0, 3) := by rw [← HA.out, HFR.out, freeFrom_end _ _ _ hlt]
      rw [hA]
      exact ⟨rfl, Kept.refl _ _, H.out⟩
theorem asked_codes (h : HeldM) (n : Nat) : h.asked n = 0 ∨ h.asked n = 1 ∨ h.asked n = 71 := by
  unfold HeldM.asked
  split
  · exact .inr (.inl rfl)
  · split
    · exact .inl rfl
    · exact .inr (.inr rfl)
theorem asked_ok0 {h : HeldM} {n : Nat} (ha : h.asked n = 0) : 0 < n ∧ n < h.n ∧ mem h.ws n = true := by
  unfold HeldM.asked at ha
  split at ha
  · cases ha
  · split at ha
    · rename_i h1 h2; exact ⟨by omega, by omega, h2⟩
    · cases ha
theorem row_root (s u hm : Nat) (r : Root8) (c e : Bool) (i n : Nat) (hi : i < 8) :
    (#[.pointer (some ⟨s, 0, none⟩), .pointer (some ⟨u, 0, none⟩), .int .u32 (r.a : Int), .int .u32 (r.b : Int), .int .u32 (r.c : Int), .int .u32 (r.d : Int), .int .u32 (r.e : Int), .int .u32 (r.f : Int), .int .u32 (r.g : Int), .int .u32 (r.h : Int), .map (some hm), .bool c, .bool e] : Array Value).setIfInBounds (2 + i) (.int .u32 (n : Int)) =
    #[.pointer (some ⟨s, 0, none⟩), .pointer (some ⟨u, 0, none⟩), .int .u32 ((r.set i n).a : Int), .int .u32 ((r.set i n).b : Int), .int .u32 ((r.set i n).c : Int), .int .u32 ((r.set i n).d : Int), .int .u32 ((r.set i n).e : Int), .int .u32 ((r.set i n).f : Int), .int .u32 ((r.set i n).g : Int), .int .u32 ((r.set i n).h : Int), .map (some hm), .bool c, .bool e] := by
  have hi' : i = 0 ∨ i = 1 ∨ i = 2 ∨ i = 3 ∨ i = 4 ∨ i = 5 ∨ i = 6 ∨ i = 7 := by omega
  rcases hi' with rfl | rfl | rfl | rfl | rfl | rfl | rfl | rfl <;> simp [Root8.set]
theorem HeldM.Ok.setRoot {h : HeldM} (o : h.Ok) {i n : Nat} (hi : i < 8) (hn : n = 0 ∨ h.asked n = 0) : ({ h with root := h.root.set i n } : HeldM).Ok := by
  refine ⟨o.tidy, o.most, o.some_, o.zero, fun j hj => ?_⟩
  show (h.root.set i n).get j = 0 ∨ (h.root.set i n).get j < h.n ∧ mem h.ws ((h.root.set i n).get j) = true
  rw [Root8.get_set h.root i j n hi]
  by_cases e : j = i
  · rw [if_pos e]
    rcases hn with hn | hn
    · exact .inl hn
    · have := asked_ok0 hn; exact .inr ⟨this.2.1, this.2.2⟩
  · rw [if_neg e]; exact o.root j hj
theorem part_of (pre cells post : List Value) (j : Nat) (v : Value) (h : cells[j]? = some v) : (pre ++ cells ++ post).toArray[pre.length + j]? = some v := by
  have hj : j < cells.length := by
    rcases Nat.lt_or_ge j cells.length with h' | h'
    · exact h'
    · rw [List.getElem?_eq_none h'] at h; cases h
  rw [List.getElem?_toArray, List.append_assoc, List.getElem?_append_right (Nat.le_add_right _ _), Nat.add_sub_cancel_left, List.getElem?_append_left hj]
  exact h
theorem setRoot_fin {b s u : Nat} {v : Value} {hm : Nat} {m : BtM} {i n : Nat} {w : World} (h : BtAt w b s u v hm m) (hi : i < 8) (hn : n = 0 ∨ m.held.asked n = 0) :
    (∃ x, w.cell? ⟨b, 2 + i, none⟩ = some x) ∧ w.frozen? ⟨b, 2 + i, none⟩ = false ∧ (∃ x, (w.setCell ⟨b, 2 + i, none⟩ (.int .u32 (n : Int))).cell? ⟨b, 11, none⟩ = some x) ∧ (w.setCell ⟨b, 2 + i, none⟩ (.int .u32 (n : Int))).frozen? ⟨b, 11, none⟩ = false ∧
    Kept (fun k => k = b) w ((w.setCell ⟨b, 2 + i, none⟩ (.int .u32 (n : Int))).setCell ⟨b, 11, none⟩ (.bool true)) ∧
    BtAt ((w.setCell ⟨b, 2 + i, none⟩ (.int .u32 (n : Int))).setCell ⟨b, 11, none⟩ (.bool true)) b s u v hm ⟨{ m.held with root := m.held.root.set i n }, m.has, true, m.ended⟩ := by
  obtain ⟨ap1, ap2, ap3, ap4, ap5, ap6⟩ := h.apart
  have hhead := h.head
  have h1 := heap_setCell_same w b (2 + i) _ _ (.int .u32 (n : Int)) hhead
  rw [row_root s u hm m.held.root m.changed m.ended i n hi] at h1
  have h2 := heap_setCell_same _ b 11 _ _ (.bool true) h1
  simp only [List.setIfInBounds_toArray, List.set_cons_succ, List.set_cons_zero] at h2
  have k : Kept (fun k => k = b) w ((w.setCell ⟨b, 2 + i, none⟩ (.int .u32 (n : Int))).setCell ⟨b, 11, none⟩ (.bool true)) := ((Kept.refl (fun k => k = b) w).setCell ⟨b, 2 + i, none⟩ _ (fun _ => rfl)).setCell ⟨b, 11, none⟩ _ (fun _ => rfl)
  refine ⟨?_, frozen_of_row w b (2 + i) _ _ hhead, ?_, frozen_of_row _ b 11 _ _ h1, k, h2, ⟨h.held.set.kept k ap1 (fun g hg e => ap5 (e ▸ hg)), h.held.ok.setRoot hi hn⟩, h.has.imp fun D hD => hD.kept k (fun e => ap3 e.symm)⟩
  · rw [cell_of_row w b (2 + i) _ _ _ hhead]
    exact ⟨_, Array.getElem?_eq_getElem (by simp; omega)⟩
  · rw [cell_of_row _ b 11 _ _ _ h1]
    exact ⟨_, rfl⟩
set_option maxHeartbeats 1000000 in
theorem setRoot_ok (b s u : Nat) (v : Value) (hm : Nat) (m : BtM) (i : Int) (n : Nat) (w : World) (h : BtAt w b s u v hm m) (hn : n < 4294967296) (hi1 : -9223372036854775808 ≤ i) (hi2 : i < 9223372036854775808) :
    Calls Tryz.prog 23 #[.pointer (some ⟨b, 0, none⟩), .int .i64 i, .int .u32 (n : Int)] w fun e w' =>
      e = .returned (.int .i64 (m.setRoot i n).2) ∧ Kept (BtF b v hm) w w' ∧ BtAt w' b s u v hm (m.setRoot i n).1 := by
  have HO := Lib.hid (open_ok b s u v hm m w h)
  have HASK := Lib.hid (asked_ok u v m.held n w h.held hn)
  have H := Lib.hid h
  have hcodes := asked_codes m.held n
  clear h
  generalize hA : m.setRoot i n = A
  have HA := Lib.hid hA
  clear hA
  by_cases he : m.ended = true
  · have e1 : A = (m, 5) := by rw [← HA.out]; unfold BtM.setRoot; rw [if_pos he]
    subst e1
    have HE := Lib.hid he
    clear he HA
    go_enter Tryz.func23, Tryz.ntmps23
    go_wp2_with (go_at_call 43; refine HO.out.mono ?_; rintro e w' ⟨rfl, rfl⟩; rw [HE.out])
    go_ret
    exact ⟨rfl, Kept.refl _ _, H.out⟩
  have HE := Lib.hid he
  by_cases hbad : i < 0 ∨ 8 ≤ i
  · have e1 : A = (m, 1) := by rw [← HA.out]; unfold BtM.setRoot; rw [if_neg he, if_pos hbad]
    subst e1
    clear he HA
    rcases hbad with hb | hb
    · have hd : decide (i < 0) = true := by simp; omega
      clear hb
      go_enter Tryz.func23, Tryz.ntmps23
      go_wp2_with (go_at_call 43; refine HO.out.mono ?_; rintro e w' ⟨rfl, rfl⟩; rw [if_neg HE.out])
      go_ret
      exact ⟨rfl, Kept.refl _ _, H.out⟩
    · have hd : decide (i < 0) = false := by simp; omega
      have hd8 : decide ((8 : Int) ≤ i) = true := by simp; omega
      clear hb
      go_enter Tryz.func23, Tryz.ntmps23
      go_wp2_with (go_at_call 43; refine HO.out.mono ?_; rintro e w' ⟨rfl, rfl⟩; rw [if_neg HE.out])
      go_ret
      exact ⟨rfl, Kept.refl _ _, H.out⟩
  have hd : decide (i < 0) = false := by simp; omega
  have hd8 : decide ((8 : Int) ≤ i) = false := by simp; omega
  obtain ⟨i, rfl⟩ : ∃ k : Nat, i = (k : Int) := ⟨i.toNat, by omega⟩
  have hi8 : i < 8 := by omega
  have hhead := H.out.head
  have c1 := (cell_of_row w b 1 _ _ _ hhead).trans rfl
  obtain ⟨ap1, ap2, ap3, ap4, ap5, ap6⟩ := H.out.apart
  by_cases hz : n = 0
  · subst hz
    have e1 : A = (⟨{ m.held with root := m.held.root.set i 0 }, m.has, true, m.ended⟩, 0) := by
      rw [← HA.out]; unfold BtM.setRoot; rw [if_neg he, if_neg hbad, if_neg (by simp)]; simp
    subst e1
    have hfin := setRoot_fin (n := 0) H.out hi8 (.inl rfl)
    rw [show ((0 : Nat) : Int) = 0 from rfl] at hfin
    obtain ⟨⟨x, cx⟩, fx, ⟨y, cy⟩, fy, kf, hf⟩ := hfin
    have HF := Lib.hid hf
    have KF := Lib.hid kf
    clear hbad he HA hhead kf hf
    go_enter Tryz.func23, Tryz.ntmps23
    go_wp2_with (go_at_call 43; refine HO.out.mono ?_; rintro e w' ⟨rfl, rfl⟩; rw [if_neg HE.out])
    go_ret
    exact ⟨rfl, KF.out.mono (fun _ _ e => .inl e), HF.out⟩
  have hz0 : ((n : Int) != 0) = true := by simp; omega
  have hz1 : ((n : Int) == 0) = false := by rw [beq_eq_false_iff_ne]; omega
  by_cases hask : m.held.asked n = 0
  · have e1 : A = (⟨{ m.held with root := m.held.root.set i n }, m.has, true, m.ended⟩, 0) := by
      rw [← HA.out]; unfold BtM.setRoot; rw [if_neg he, if_neg hbad, if_neg (by simp [hask])]; simp
    subst e1
    have HHEAD := Lib.hid hhead
    have HAK := Lib.hid hask
    clear hbad he HA hhead hz hcodes hask
    go_enter Tryz.func23, Tryz.ntmps23
    go_wp2_with (first
      | (go_at_call 43; refine HO.out.mono ?_; rintro e w' ⟨rfl, rfl⟩; rw [if_neg HE.out])
      | (refine wpList_load_part (by rfl) 88 (.tmp 24) (by rfl) b 1 (by rfl) _ _ [.pointer (some ⟨u, 0, none⟩), .int .u32 (m.held.root.a : Int), .int .u32 (m.held.root.b : Int), .int .u32 (m.held.root.c : Int), .int .u32 (m.held.root.d : Int), .int .u32 (m.held.root.e : Int), .int .u32 (m.held.root.f : Int), .int .u32 (m.held.root.g : Int), .int .u32 (m.held.root.h : Int)] _ _ HHEAD.out Tryz.underlying88 (by rfl) (by exact held_size) (by exact part_of [_] [.pointer (some ⟨u, 0, none⟩), .int .u32 (m.held.root.a : Int), .int .u32 (m.held.root.b : Int), .int .u32 (m.held.root.c : Int), .int .u32 (m.held.root.d : Int), .int .u32 (m.held.root.e : Int), .int .u32 (m.held.root.f : Int), .int .u32 (m.held.root.g : Int), .int .u32 (m.held.root.h : Int)] [_, _, _]) ?_))
    refine HASK.out.mono ?_
    rintro e w1 ⟨rfl, k1⟩
    rw [HAK.out]
    obtain ⟨⟨x, cx⟩, fx, ⟨y, cy⟩, fy, kf, hf⟩ := setRoot_fin (n := n) (H.out.no k1) hi8 (.inr HAK.out)
    have HF := Lib.hid hf
    have KF := Lib.hid ((k1.of_no (BtF b v hm)).trans (kf.mono (fun _ _ e => .inl e)))
    clear kf hf k1 hz0 hz1 hn HO HASK HHEAD c1 ap1 ap2 ap3 ap4 ap5 ap6
    go_wp2_with fail
    go_ret
    exact ⟨rfl, KF.out, HF.out⟩
  · have e1 : A = (m, m.held.asked n) := by
      rw [← HA.out]; unfold BtM.setRoot; rw [if_neg he, if_neg hbad, if_pos ⟨hz, hask⟩]
    subst e1
    have HHEAD := Lib.hid hhead
    have hak : (m.held.asked n != 0) = true := by simp [hask]
    have hak2 : (m.held.asked n == 0) = false := by simp [hask]
    clear hbad he HA hhead hz hcodes hask
    generalize m.held.asked n = q at *
    go_enter Tryz.func23, Tryz.ntmps23
    go_wp2_with (first
      | (go_at_call 43; refine HO.out.mono ?_; rintro e w' ⟨rfl, rfl⟩; rw [if_neg HE.out])
      | (refine wpList_load_part (by rfl) 88 (.tmp 24) (by rfl) b 1 (by rfl) _ _ [.pointer (some ⟨u, 0, none⟩), .int .u32 (m.held.root.a : Int), .int .u32 (m.held.root.b : Int), .int .u32 (m.held.root.c : Int), .int .u32 (m.held.root.d : Int), .int .u32 (m.held.root.e : Int), .int .u32 (m.held.root.f : Int), .int .u32 (m.held.root.g : Int), .int .u32 (m.held.root.h : Int)] _ _ HHEAD.out Tryz.underlying88 (by rfl) (by exact held_size) (by exact part_of [_] [.pointer (some ⟨u, 0, none⟩), .int .u32 (m.held.root.a : Int), .int .u32 (m.held.root.b : Int), .int .u32 (m.held.root.c : Int), .int .u32 (m.held.root.d : Int), .int .u32 (m.held.root.e : Int), .int .u32 (m.held.root.f : Int), .int .u32 (m.held.root.g : Int), .int .u32 (m.held.root.h : Int)] [_, _, _]) ?_)
      | (go_at_call 41; refine HASK.out.mono ?_; rintro e w1 ⟨rfl, k1⟩; have K1 := Lib.hid k1; clear k1))
    go_ret
    exact ⟨rfl, K1.out.of_no _, H.out.no K1.out⟩
theorem index_ok (b n : Nat) (r : Root8) (w : World) (hc : ∀ j, j < 8 → w.cell? ⟨b, 2 + j, none⟩ = some (.int .u32 (r.get j : Int))) :
    Calls Tryz.prog 90 #[.slice (some ⟨b, 2, none⟩) 8 8, .int .u32 (n : Int)] w fun e w' => ∃ q : Int, e = .returned (.int .i64 q) ∧ (decide ((0 : Int) ≤ q) = decide (n ∈ r.list)) ∧ w = w' := by
  have HC := Lib.hid hc
  clear hc
  go_enter Tryz.func90, Tryz.ntmps90
  go_wp2_with fail
  go_loop [8] (fun i => ∃ k : Nat, k ≤ 8 ∧ i = .int .i64 k ∧ ∀ j, j < k → r.get j ≠ n) (fun i => 8 - (intOf i).toNat)
  case atStart => exact ⟨0, by omega, rfl, fun j hj => by omega⟩
  case round =>
    obtain ⟨k, hk, rfl, hall⟩ := hrel
    have HALL := Lib.hid hall
    clear hall
    by_cases hlt : k < 8
    · have hcell := HC.out k hlt
      have hx : r.get k = r.get k := rfl
      generalize hX : r.get k = X at *
      have HX := Lib.hid hX
      clear hX hx
      by_cases e : n = X
      · have hq : ((n : Int) == (X : Int)) = true := by simp [e]
        have HE := Lib.hid e
        clear e
        go_wp2
        go_ret
        refine ⟨_, rfl, ?_, rfl⟩
        have h1 : n ∈ r.list := by rw [HE.out, ← HX.out]; exact r.mem_get k hlt
        simp [h1]
      · have hq : ((n : Int) == (X : Int)) = false := by rw [beq_eq_false_iff_ne]; omega
        have HE := Lib.hid e
        clear e
        go_wp2
        go_round
        case rel =>
          refine ⟨k + 1, by omega, by go_num, fun j hj => ?_⟩
          by_cases e : j = k
          · subst e; rw [HX.out]; exact fun e => HE.out e.symm
          · exact HALL.out j (by omega)
        case measure => simp [intOf]; omega
    · obtain rfl : k = 8 := by omega
      go_wp2
      go_ret
      refine ⟨_, rfl, ?_, rfl⟩
      have h1 : ¬ n ∈ r.list := fun h => by
        obtain ⟨i, hi, e⟩ := r.of_mem n h
        exact HALL.out i hi e
      simp [h1]
theorem contains_ok (b n : Nat) (r : Root8) (w : World) (hc : ∀ j, j < 8 → w.cell? ⟨b, 2 + j, none⟩ = some (.int .u32 (r.get j : Int))) :
    Calls Tryz.prog 55 #[.slice (some ⟨b, 2, none⟩) 8 8, .int .u32 (n : Int)] w fun e w' => e = .returned (.bool (decide (n ∈ r.list))) ∧ w = w' := by
  have HI := Lib.hid (index_ok b n r w hc)
  clear hc
  go_enter Tryz.func55, Tryz.ntmps55
  go_wp2_with (go_at_call 90; refine HI.out.mono ?_; rintro e w' ⟨q, rfl, hq, rfl⟩)
  go_ret
  rw [← hq]
  exact ⟨rfl, rfl⟩
theorem batch_roots {w : World} {b s u : Nat} {v : Value} {hm : Nat} {m : BtM} (h : BtAt w b s u v hm m) : ∀ j, j < 8 → w.cell? ⟨b, 2 + j, none⟩ = some (.int .u32 (m.held.root.get j : Int)) := fun j hj => by
  rw [cell_of_row w b (2 + j) _ _ _ h.head]
  exact (show _ = (rootC m.held.root)[j]? from by match j, hj with | 0, _ | 1, _ | 2, _ | 3, _ | 4, _ | 5, _ | 6, _ | 7, _ => rfl).trans (root_cell _ j hj)
set_option maxHeartbeats 1000000 in
theorem release_ok (b s u : Nat) (v : Value) (hm : Nat) (m : BtM) (n : Nat) (w : World) (h : BtAt w b s u v hm m) (hn : n < 4294967296) :
    Calls Tryz.prog 22 #[.pointer (some ⟨b, 0, none⟩), .int .u32 (n : Int)] w fun e w' =>
      e = .returned (.int .i64 (m.release n).2) ∧ Kept (BtF b v hm) w w' ∧ BtAt w' b s u v hm (m.release n).1 := by
  have HO := Lib.hid (open_ok b s u v hm m w h)
  have HASK := Lib.hid (asked_ok u v m.held n w h.held hn)
  have H := Lib.hid h
  have hhead := h.head
  have HHEAD := Lib.hid h.head
  clear h
  generalize hA : m.release n = A
  have HA := Lib.hid hA
  clear hA
  by_cases he : m.ended = true
  · have e1 : A = (m, 5) := by rw [← HA.out]; unfold BtM.release; rw [if_pos he]
    subst e1
    have HE := Lib.hid he
    clear he HA hhead
    go_enter Tryz.func22, Tryz.ntmps22
    go_wp2_with (go_at_call 43; refine HO.out.mono ?_; rintro e w' ⟨rfl, rfl⟩; rw [HE.out])
    go_ret
    exact ⟨rfl, Kept.refl _ _, H.out⟩
  have HE := Lib.hid he
  by_cases hask : m.held.asked n = 0
  · have HAK := Lib.hid hask
    go_enter Tryz.func22, Tryz.ntmps22
    clear hask hhead
    go_wp2_with (first
      | (go_at_call 43; refine HO.out.mono ?_; rintro e w' ⟨rfl, rfl⟩; rw [if_neg HE.out])
      | (refine wpList_load_part (by rfl) 88 (.tmp 14) (by rfl) b 1 (by rfl) _ _ [.pointer (some ⟨u, 0, none⟩), .int .u32 (m.held.root.a : Int), .int .u32 (m.held.root.b : Int), .int .u32 (m.held.root.c : Int), .int .u32 (m.held.root.d : Int), .int .u32 (m.held.root.e : Int), .int .u32 (m.held.root.f : Int), .int .u32 (m.held.root.g : Int), .int .u32 (m.held.root.h : Int)] _ _ HHEAD.out Tryz.underlying88 (by rfl) (by exact held_size) (by exact part_of [_] [.pointer (some ⟨u, 0, none⟩), .int .u32 (m.held.root.a : Int), .int .u32 (m.held.root.b : Int), .int .u32 (m.held.root.c : Int), .int .u32 (m.held.root.d : Int), .int .u32 (m.held.root.e : Int), .int .u32 (m.held.root.f : Int), .int .u32 (m.held.root.g : Int), .int .u32 (m.held.root.h : Int)] [_, _, _]) ?_))
    refine HASK.out.mono ?_
    rintro e w1 ⟨rfl, k1⟩
    rw [HAK.out]
    have hB1 := H.out.no k1
    have HB1 := Lib.hid hB1
    have K1 := Lib.hid k1
    have c1 := (cell_of_row w1 b 1 _ _ _ hB1.head).trans rfl
    have HCO := Lib.hid (contains_ok b n m.held.root w1 (batch_roots hB1))
    clear k1 hB1
    by_cases hr : n ∈ m.held.root.list
    · have hdr : decide (n ∈ m.held.root.list) = true := by simp [hr]
      have e1 : A = (m, 1) := by rw [← HA.out]; unfold BtM.release; rw [if_neg he, if_neg (by simp [HAK.out]), if_pos hr]
      subst e1
      have HDR := Lib.hid hdr
      clear hdr hr he HA
      go_wp2_with (go_at_call 55; refine HCO.out.mono ?_; rintro e w' ⟨rfl, rfl⟩; rw [HDR.out])
      go_ret
      exact ⟨rfl, K1.out.of_no _, HB1.out⟩
    · have hdr : decide (n ∈ m.held.root.list) = false := by simp [hr]
      have e1 : A = (⟨m.held.take n, delC n m.has, true, m.ended⟩, 0) := by rw [← HA.out]; unfold BtM.release; rw [if_neg he, if_neg (by simp [HAK.out]), if_neg hr]
      subst e1
      have HDR := Lib.hid hdr
      have HR := Lib.hid hr
      clear hdr hr he HA
      obtain ⟨q1, q2, q3⟩ := asked_ok0 HAK.out
      have hw1 : IntKind.i64.wrap (n : Int) = (n : Int) := by rw [IntKind.wrap_i64]; omega
      obtain ⟨ap1, ap2, ap3, ap4, ap5, ap6⟩ := HB1.out.apart
      clear q3
      go_wp2_with (go_at_call 55; refine HCO.out.mono ?_; rintro e w' ⟨rfl, rfl⟩; rw [HDR.out])
      refine (Bm.take_ok u m.held.n v m.held.ws w1 n HB1.out.held.set q2).mono ?_
      rintro e w2 ⟨rfl, k2, hs2⟩
      have hh2 := k2.heap HB1.out.head ap5
      have c10 := (cell_of_row w2 b 10 _ _ _ hh2).trans rfl
      obtain ⟨D, hD⟩ := HB1.out.has
      have HD2 := Lib.hid (hD.kept k2 ap6)
      have HHH := Lib.hid hh2
      have K2 := Lib.hid k2
      have HS2 := Lib.hid hs2
      have hwf : (Lit.int .u32 (n : Int)).wf = true := by
        simp [Lit.wf, IntKind.u32]
        have : IntKind.u32.min = 0 := rfl
        have : IntKind.u32.max = 4294967295 := rfl
        omega
      have hkey := keyOf_int_mk (P := Tryz.prog) Tryz.underlying25 hwf
      have hK := int_keyed (P := Tryz.prog) Tryz.underlying25
      clear k2 hs2 hh2 hwf hD
      go_wp2_with (at_delete; go_loud (refine wpList_delete_own _ (by rfl) (.tmp 39) (.tmp 40) 91 25 (by rfl) 95 hK Tryz.underlying91 contElem hm m.has.length D (by rfl) HD2.out.own _ _ (by rfl) hkey ?_; intro w3 hm3 hg3; have HM := Lib.hid hm3; have G3 := Lib.hid (Kept.of_grown hg3.grown); have hh3 := G3.out.heap HHH.out (by intro e; injection e with e; exact ap3 e.symm); have f11 := frozen_of_row w3 b 11 _ _ hh3; have d11 := (cell_of_row w3 b 11 _ _ _ hh3).trans rfl; have HH3 := Lib.hid hh3; clear hm3 hg3 hh3))
      go_ret
      have k4 : Kept (fun j => j = b) w3 (w3.setCell ⟨b, 11, none⟩ (.bool true)) := (Kept.refl _ _).setCell _ _ (fun _ => rfl)
      have hh4 := heap_setCell_same w3 b 11 _ _ (.bool true) HH3.out
      simp only [List.setIfInBounds_toArray, List.set_cons_succ, List.set_cons_zero] at hh4
      have hok := HB1.out.held.ok.take q2 (fun i hi e => HR.out (e ▸ m.held.root.mem_get i hi))
      refine ⟨rfl, ((((K1.out.of_no (BtF b v hm)).trans (K2.out.mono (N := BtF b v hm) fun j _ e => .inr (.inl e)))).trans (G3.out.mono (N := BtF b v hm) fun j _ e => .inr (.inr (by injection e with e; exact e.symm)))).trans (k4.mono fun j _ e => .inl e), hh4, ⟨(HS2.out.kept G3.out (fun e => ap2 (by injection e with e; exact e.symm)) fun g hg e => ap6 (by injection e with e; rw [e]; exact hg)).kept k4 ap1 (fun g hg e => ap5 (e ▸ hg)), hok⟩, _, (HD2.out.del HM.out).kept k4 (fun e => ap3 e.symm)⟩
  · have e1 : A = (m, m.held.asked n) := by
      rw [← HA.out]; unfold BtM.release; rw [if_neg he, if_pos hask]
    subst e1
    have hak : (m.held.asked n != 0) = true := by simp [hask]
    have hak2 : (m.held.asked n == 0) = false := by simp [hask]
    clear he HA hhead hask
    generalize m.held.asked n = q at *
    go_enter Tryz.func22, Tryz.ntmps22
    go_wp2_with (first
      | (go_at_call 43; refine HO.out.mono ?_; rintro e w' ⟨rfl, rfl⟩; rw [if_neg HE.out])
      | (refine wpList_load_part (by rfl) 88 (.tmp 14) (by rfl) b 1 (by rfl) _ _ [.pointer (some ⟨u, 0, none⟩), .int .u32 (m.held.root.a : Int), .int .u32 (m.held.root.b : Int), .int .u32 (m.held.root.c : Int), .int .u32 (m.held.root.d : Int), .int .u32 (m.held.root.e : Int), .int .u32 (m.held.root.f : Int), .int .u32 (m.held.root.g : Int), .int .u32 (m.held.root.h : Int)] _ _ HHEAD.out Tryz.underlying88 (by rfl) (by exact held_size) (by exact part_of [_] [.pointer (some ⟨u, 0, none⟩), .int .u32 (m.held.root.a : Int), .int .u32 (m.held.root.b : Int), .int .u32 (m.held.root.c : Int), .int .u32 (m.held.root.d : Int), .int .u32 (m.held.root.e : Int), .int .u32 (m.held.root.f : Int), .int .u32 (m.held.root.g : Int), .int .u32 (m.held.root.h : Int)] [_, _, _]) ?_)
      | (go_at_call 41; refine HASK.out.mono ?_; rintro e w1 ⟨rfl, k1⟩; have K1 := Lib.hid k1; clear k1))
    go_ret
    exact ⟨rfl, K1.out.of_no _, H.out.no K1.out⟩
end Go.Proofs.YtabhieafjkaocaaGreat
namespace Go.Proofs.YtabhieafjkaocaaGreat
open Go.RowKit Go.Lib Bm
set_option maxRecDepth 20000
theorem StAt.not_foot {w : World} {s d u : Nat} {v bp : Value} {m : StM} {x : DiskH} {dm : DiskM} (h : StAt w s d u v bp m) (hx : DiskAt w x dm) : ¬ x.foot s ∧ ¬ x.foot u ∧ ∀ g, v.ownBlock = some g → ¬ x.foot g :=
  ⟨hx.not_foot h.head (by decide) (by decide) (by decide), hx.not_foot h.held.set.head (by decide) (by decide) (by decide), hx.not_row h.held.set.row (by decide) (by decide) (by decide)⟩
theorem write_pend (m : DiskM) (n : Int) (b : List UInt8) : (m.write n b).1.pend.length ≤ m.pend.length + 1 ∧ (m.write n b).1.lies.length = m.lies.length := by
  have ha : m.act.1.pend = m.pend ∧ m.act.1.lies = m.lies := by
    unfold DiskM.act
    split
    · split <;> exact ⟨rfl, rfl⟩
    · exact ⟨rfl, rfl⟩
  unfold DiskM.write
  split
  · exact ⟨by simp, rfl⟩
  · split
    · exact ⟨by simp, rfl⟩
    · split
      · exact ⟨by rw [ha.1]; omega, by rw [ha.2]⟩
      · simp [ha.1, ha.2]
structure SdAt (w : World) (s d cnt : Nat) : Prop where
  head : ∃ cs, w.heap[s]? = some (.cells cs 90 (0, 0)) ∧ cs[0]? = some (dev d) ∧ cs[1]? = some (.int .i64 (cnt : Int))
  count : 2 ≤ cnt ∧ cnt ≤ 4096
theorem StAt.sd {w : World} {s d u : Nat} {v bp : Value} {m : StM} (h : StAt w s d u v bp m) : SdAt w s d m.count := ⟨⟨_, h.head, rfl, rfl⟩, h.count⟩
theorem SdAt.kept {M : Nat → Prop} {w w' : World} {s d cnt : Nat} (h : SdAt w s d cnt) (k : Kept M w w') (hs : ¬ M s) : SdAt w' s d cnt := by
  obtain ⟨cs, h1, h2, h3⟩ := h.head
  exact ⟨⟨cs, k.heap h1 hs, h2, h3⟩, h.count⟩
theorem SdAt.cells {w : World} {s d cnt : Nat} (h : SdAt w s d cnt) : w.cell? ⟨s, 0, none⟩ = some (dev d) ∧ w.cell? ⟨s, 1, none⟩ = some (.int .i64 (cnt : Int)) := by
  obtain ⟨cs, h1, h2, h3⟩ := h.head
  exact ⟨(cell_of_row w s 0 _ _ _ h1).trans h2, (cell_of_row w s 1 _ _ _ h1).trans h3⟩
theorem SdAt.not_foot {w : World} {s d cnt : Nat} {x : DiskH} {dm : DiskM} (h : SdAt w s d cnt) (hx : DiskAt w x dm) : ¬ x.foot s := by
  obtain ⟨cs, h1, h2, h3⟩ := h.head
  exact hx.not_foot h1 (by decide) (by decide) (by decide)
structure HomeIn (w wr : World) (x x' : DiskH) (mm : DiskM) (s cnt : Nat) (pv : Value) (l : List PageV) : Prop where
  st : SdAt wr s x'.d cnt
  disk : DiskAt wr x' mm
  same : x'.d = x.d
  foot : ∀ k, x'.foot k → x.foot k ∨ w.heap.size ≤ k
  kept : Kept x.foot w wr
  pages : PagesAt wr pv l
theorem HomeIn.no {w wr wa : World} {x x' : DiskH} {mm : DiskM} {s cnt : Nat} {pv : Value} {l : List PageV} (h : HomeIn w wr x x' mm s cnt pv l) (k : Kept No wr wa) : HomeIn w wa x x' mm s cnt pv l :=
  ⟨h.st.kept k (fun h => h), h.disk.kept k (fun _ _ h => h), h.same, h.foot, h.kept.next k (fun _ _ h => h.elim), h.pages.kept k (fun _ _ h => h)⟩
theorem HomeIn.turned {w wr wa : World} {x x' x2 : DiskH} {mm m2 : DiskM} {s cnt : Nat} {pv : Value} {l : List PageV} (h : HomeIn w wr x x' mm s cnt pv l) (k : Kept x'.foot wr wa) (hd : DiskAt wa x2 m2) (hs : x2.d = x'.d)
    (hf : ∀ g, x2.foot g → x'.foot g ∨ wr.heap.size ≤ g) : HomeIn w wa x x2 m2 s cnt pv l := by
  have n1 := h.st.not_foot h.disk
  refine ⟨hs ▸ h.st.kept k n1, hd, hs.trans h.same, fun g hg => ?_, h.kept.next k (fun g hg e => ?_), h.pages.kept k (h.disk.not_row h.pages.row (by decide) (by decide) (by decide))⟩
  · rcases hf g hg with e | e
    · exact h.foot g e
    · have := h.kept.size; exact .inr (by omega)
  · rcases h.foot g e with e | e
    · exact e
    · omega
set_option maxHeartbeats 2000000 in
theorem home_ok (s cnt : Nat) (x : DiskH) (dm : DiskM) (serial : Nat) (pv : Value) (l : List PageV) (w : World) (h : SdAt w s x.d cnt) (hx : DiskAt w x dm) (hp : PagesAt w pv l) (h0 : 0 < l.length) (hb : ∀ p ∈ l, p.body.length ≤ 996)
    (hser : serial ≤ 4611686018427387904) (hpl : dm.pend.length + l.length < 500000) :
    Calls Tryz.prog 48 #[.pointer (some ⟨s, 0, none⟩), .int .u64 (serial : Int), pv] w fun e w' => ∃ x' : DiskH,
      e = .returned (.int .i64 (homeW cnt serial l dm).2) ∧ Kept x.foot w w' ∧ DiskAt w' x' (homeW cnt serial l dm).1 ∧ x'.d = x.d ∧ ∀ g, x'.foot g → x.foot g ∨ w.heap.size ≤ g := by
  obtain ⟨g, cap, rfl, hrow⟩ := hp.at h0
  have hin : HomeIn w w x x dm s cnt (.slice (some ⟨g, 0, none⟩) l.length cap) l := ⟨h, hx, rfl, fun _ h => .inl h, Kept.refl _ _, hp⟩
  have HIN := Lib.hid hin
  have hlm := hp.len
  have hcnt := h.count
  clear h hx hp hrow hin
  generalize hR : homeW cnt serial l dm = R
  have HR := Lib.hid hR
  clear hR
  go_enter Tryz.func48, Tryz.ntmps48
  go_wp2_with fail
  go_loopw [14] (fun i wr => ∃ (j : Nat) (x' : DiskH) (mm : DiskM), j ≤ l.length ∧ i = .int .i64 (j : Int) ∧ HomeIn w wr x x' mm s cnt (.slice (some ⟨g, 0, none⟩) l.length cap) l ∧ homeW cnt serial (l.drop j) mm = R ∧ mm.pend.length ≤ dm.pend.length + j) (fun i _ => l.length - (intOf i).toNat)
  case atStart => exact ⟨0, x, dm, by omega, rfl, HIN.out, HR.out, by omega⟩
  case round =>
    obtain ⟨j, x', mm, hj, rfl, hin, hw, hpd⟩ := hrel
    have HW := Lib.hid hw
    by_cases hjl : j < l.length
    · obtain ⟨r0, r1, r2, r3⟩ := hin.pages.row4 rfl j hjl
      have hok := hin.pages.ok _ (List.getElem_mem hjl)
      have hbb := hb _ (List.getElem_mem hjl)
      have hdr : l.drop j = l[j] :: l.drop (j + 1) := List.drop_eq_getElem_cons hjl
      have HDR := Lib.hid hdr
      clear hdr hw
      generalize hpg : l[j] = pg at *
      have HI := Lib.hid hin
      clear hin
      go_wp2_with fail
      have ka : Kept No wr (wr.alloc (.cells #[.int .u8 (pg.kind.toNat : Int), .int .u32 (pg.number : Int), .int .u64 (serial : Int), .string ⟨⟨pg.body⟩⟩] 28)) := (Kept.refl _ _).alloc _
      have hq := heap_alloc_new wr (.cells #[.int .u8 (pg.kind.toNat : Int), .int .u32 (pg.number : Int), .int .u64 (serial : Int), .string ⟨⟨pg.body⟩⟩] 28)
      have H2 := Lib.hid (HI.out.no ka)
      clear HI ka r0 r1 r2 r3
      generalize wr.alloc (.cells #[.int .u8 (pg.kind.toNat : Int), .int .u32 (pg.number : Int), .int .u64 (serial : Int), .string ⟨⟨pg.body⟩⟩] 28) = wa at *
      refine (encode_ok ⟨pg.kind, pg.number, serial, pg.body⟩ wa hser hbb hok.number).mono ?_
      rintro e w5 ⟨b, rfl, k5, hbn, hb5⟩
      have hq5 := k5.heap hq (fun h => h)
      have H3 := Lib.hid (H2.out.no k5)
      have hby : BytesAt w5 b (encode (sumOn 0) ⟨pg.kind, pg.number, serial, pg.body⟩) := ⟨hb5, encode_length _ _ hbb⟩
      have HBY := Lib.hid hby
      have hbf : ¬ x'.foot b := fun h => by
        have := H2.out.disk.foot_lt h
        omega
      obtain ⟨c0, c1⟩ := H3.out.st.cells
      have q1 := (cell_of_row w5 wr.heap.size 1 _ _ _ hq5).trans rfl
      have hnum := hok.number
      have hw1 : IntKind.i64.wrap (pg.number : Int) = (pg.number : Int) := by rw [IntKind.wrap_i64]; omega
      have hw2 : IntKind.i64.wrap ((cnt : Int) + (pg.number : Int)) = (cnt : Int) + (pg.number : Int) := by rw [IntKind.wrap_i64]; omega
      have hts := types_373
      have hmt : ∀ w, (method 373 24 (.pointer (some ⟨x'.d, 0, none⟩)) "Write").run Tryz.prog w = .ok (214, .pointer (some ⟨x'.d, 0, none⟩)) w := fun w => dev_method_write x'.d w
      have hcf : ∀ w (i : Int) (b : Value), (callFunc 214 #[.pointer (some ⟨x'.d, 0, none⟩), .int .i64 i, b]).run Tryz.prog w = .ok (.enter 214 #[.pointer (some ⟨x'.d, 0, none⟩), .int .i64 i, b]) w := fun w i b => by kernel_rfl
      generalize wr.heap.size = Q at *
      clear H2 k5 hq hq5 hb5 hby hok
      go_wp2_with fail
      go_still_tail 15, (by kernel_rfl)
      repeat still_step
      change wpList _ _ _ _ _ w5.drew
      go_wp2_with fail
      rw [show ((cnt : Int) + (pg.number : Int)) = ((cnt + pg.number : Nat) : Int) from by omega]
      have HD := Lib.hid (H3.out.no (Kept.refl No w5).drew)
      have hp2 := hpd
      refine (dwrite_any x' mm (cnt + pg.number) b _ w5.drew HD.out.disk (HBY.out.kept (Kept.refl No w5).drew (fun h => h)) hbf (by omega)).mono ?_
      rintro e w6 ⟨x2, rfl, k6, hd6, hs6, hf6⟩
      have H4 := Lib.hid (HD.out.turned k6 hd6 hs6 hf6)
      have hwp := write_pend mm ((cnt + pg.number : Nat) : Int) (encode (sumOn 0) ⟨pg.kind, pg.number, serial, pg.body⟩)
      have hstep : homeW cnt serial (l.drop j) mm = if (mm.write ((cnt + pg.number : Nat) : Int) (encode (sumOn 0) ⟨pg.kind, pg.number, serial, pg.body⟩)).2 ≠ 0 then mm.write ((cnt + pg.number : Nat) : Int) (encode (sumOn 0) ⟨pg.kind, pg.number, serial, pg.body⟩) else homeW cnt serial (l.drop (j + 1)) (mm.write ((cnt + pg.number : Nat) : Int) (encode (sumOn 0) ⟨pg.kind, pg.number, serial, pg.body⟩)).1 := by
        rw [HDR.out]
        show (if 996 < pg.body.length then _ else _) = _
        rw [if_neg (by omega)]
        rfl
      rw [HW.out] at hstep
      generalize mm.write ((cnt + pg.number : Nat) : Int) (encode (sumOn 0) ⟨pg.kind, pg.number, serial, pg.body⟩) = wr2 at *
      have HSTEP := Lib.hid hstep
      clear hstep H3 HD k6 hd6 hs6 hf6 c0 c1 q1 HBY hbf
      by_cases hz : wr2.2 = 0
      · have hz1 : (wr2.2 != 0) = false := by simp [hz]
        have hz2 : (wr2.2 == 0) = true := by simp [hz]
        have HZ := Lib.hid hz
        clear hz
        go_wp2_with fail
        go_roundw
        case rel =>
          refine ⟨j + 1, x2, wr2.1, by omega, by first | rfl | go_num, H4.out, ?_, by omega⟩
          have := HSTEP.out
          rw [if_neg (by simp [HZ.out])] at this
          exact this.symm
        case measure => simp [intOf]; omega
      · have hz1 : (wr2.2 != 0) = true := by simp [hz]
        have hz2 : (wr2.2 == 0) = false := by simp [hz]
        have hRe : R = wr2 := by
          have := HSTEP.out
          rw [if_pos hz] at this
          exact this
        subst hRe
        clear hz
        go_wp2_with fail
        go_ret
        exact ⟨x2, rfl, H4.out.kept, H4.out.disk, H4.out.same, H4.out.foot⟩
    · have e : j = l.length := by omega
      subst e
      rw [List.drop_length] at hw
      have hRe : R = mm.sync := hw.symm
      subst hRe
      have HI := Lib.hid hin
      obtain ⟨c0, c1⟩ := hin.st.cells
      have hts := types_373
      have hmt : ∀ w, (method 373 24 (.pointer (some ⟨x'.d, 0, none⟩)) "Sync").run Tryz.prog w = .ok (213, .pointer (some ⟨x'.d, 0, none⟩)) w := fun w => dev_method_sync x'.d w
      have hcf : ∀ w, (callFunc 213 #[.pointer (some ⟨x'.d, 0, none⟩)]).run Tryz.prog w = .ok (.enter 213 #[.pointer (some ⟨x'.d, 0, none⟩)]) w := fun w => by kernel_rfl
      clear hin hw HW HR HIN
      go_wp2_with fail
      refine (dsync_any x' mm wr HI.out.disk).mono ?_
      rintro e w8 ⟨x2, rfl, k8, hd8, hs8, hf8⟩
      have H4 := Lib.hid (HI.out.turned k8 hd8 hs8 (fun g hg => .inl (hf8 g hg)))
      clear k8 hd8 hs8 hf8
      go_wp2_with fail
      go_ret
      exact ⟨x2, rfl, H4.out.kept, H4.out.disk, H4.out.same, H4.out.foot⟩
end Go.Proofs.YtabhieafjkaocaaGreat
