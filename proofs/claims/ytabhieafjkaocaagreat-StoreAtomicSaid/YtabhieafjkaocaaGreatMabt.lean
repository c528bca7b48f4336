/- A part. -/
import Derived.Test.YtabhieafjkaocaaGreatMabq
import Derived.Test.YtabhieafjkaocaaGreatMabf
import Derived.Test.YtabhieafjkaocaaGreatMabi
import Derived.Test.YtabhieafjkaocaaGreatMabs
import Derived.StillTailTactics
import Derived.Test.YtabhieafjkaocaaGreatMaau
import Derived.Test.YtabhieafjkaocaaGreatMaam
import Derived.BigRegion
set_option linter.unusedVariables false
set_option linter.unusedSimpArgs false
namespace Go.Proofs.YtabhieafjkaocaaGreat
open Go.RowKit Go.Lib Go.Maps Bm
set_option maxRecDepth 20000
theorem over_is2 (d j : Nat) (sv bv wk wb kv' bv' : Value) (r : Root8) (ik ib : Value) (q q' : Root8) (ser : Nat) (br ok : Bool) : over (lifeC d j sv bv wk wb r ik ib q ser br ok) 14 (seenC kv' bv' q').toList = lifeC d j sv bv wk wb r kv' bv' q' ser br ok := rfl
theorem step_cells {w : World} {b off i : Nat} {kd si sn : Int} {so : Bool} {sp : UInt8} {sx : List UInt8} {kp : List Bool} {st0 sc : Int} {kv : Value} (h : ∀ j c, (stepC ⟨kd, si, sn, so, sp, sx, kp, st0, sc⟩ kv)[j]? = some c → w.cell? ⟨b, off + i * 9 + j, none⟩ = some c) :
    w.cell? ⟨b, off + i * 9, none⟩ = some (.int .i64 kd) ∧ w.cell? ⟨b, off + i * 9 + 1, none⟩ = some (.int .i64 si) ∧ w.cell? ⟨b, off + i * 9 + 2, none⟩ = some (.int .i64 sn) ∧ w.cell? ⟨b, off + i * 9 + 3, none⟩ = some (.bool so) ∧
    w.cell? ⟨b, off + i * 9 + 4, none⟩ = some (.int .u8 (sp.toNat : Int)) ∧ w.cell? ⟨b, off + i * 9 + 5, none⟩ = some (.string ⟨⟨sx⟩⟩) ∧ w.cell? ⟨b, off + i * 9 + 6, none⟩ = some kv ∧ w.cell? ⟨b, off + i * 9 + 7, none⟩ = some (.int .i64 st0) ∧ w.cell? ⟨b, off + i * 9 + 8, none⟩ = some (.int .i64 sc) :=
  ⟨h 0 _ rfl, h 1 _ rfl, h 2 _ rfl, h 3 _ rfl, h 4 _ rfl, h 5 _ rfl, h 6 _ rfl, h 7 _ rfl, h 8 _ rfl⟩
theorem cell_kept {w0 : World} {g o : Nat} {cs : Array Value} {t : TypeId} {fr : Nat × Nat} {v : Value} (hg : w0.heap[g]? = some (.cells cs t fr)) (hv : cs[o]? = some v) : ∀ w', Kept No w0 w' → w'.cell? ⟨g, o, none⟩ = some v := fun w' k => by
  rw [cell_of_row w' g o _ _ _ (k.heap hg (fun h => h))]; exact hv
end Go.Proofs.YtabhieafjkaocaaGreat
namespace Go.Proofs.YtabhieafjkaocaaGreat
open Go.RowKit Go.Lib Go.Maps
set_option maxRecDepth 20000
theorem PendAt.at {w : World} : ∀ {pl : List (Nat × Nat)} {l : List (Nat × List UInt8)}, PendAt w pl l → ∀ j (hj : j < l.length), ∃ h : j < pl.length, (pl[j]).1 = (l[j]).1 ∧ w.heap[(pl[j]).2]? = some (.cells ⟨rowBytes (l[j]).2⟩ 129 (0, 0))
  | p :: pl, q :: l, h, 0, hj => ⟨by simp, h.1, h.2.1⟩
  | p :: pl, q :: l, h, j + 1, hj => by
    obtain ⟨h1, h2, h3⟩ := h.2.2.at j (by simpa using hj)
    exact ⟨by simpa using h1, by simpa using h2, by simpa using h3⟩
  | [], q :: l, h, j, hj => h.elim
theorem pendCells_at : ∀ (pl : List (Nat × Nat)) (j : Nat) (h : j < pl.length), (pendCells pl)[j * 2]? = some (.int .i64 ((pl[j]).1 : Int)) ∧ (pendCells pl)[j * 2 + 1]? = some (.pointer (some ⟨(pl[j]).2, 0, none⟩))
  | p :: pl, 0, h => ⟨rfl, rfl⟩
  | p :: pl, j + 1, h => by
    obtain ⟨h1, h2⟩ := pendCells_at pl j (by simpa using h)
    rw [show (j + 1) * 2 = j * 2 + 1 + 1 by omega]
    exact ⟨h1, h2⟩
theorem fateL_snoc (keep : List Bool) (torn : Int) (c : Nat) (x : Nat × List UInt8) : ∀ (p : WrL) (i : Nat) (l : List (List UInt8)), fateL keep torn c i (p ++ [x]) l = (fateL keep torn c i p l).set x.1 (fateP keep torn c (i + p.length) x.2 ((fateL keep torn c i p l).getD x.1 []))
  | [], i, l => rfl
  | y :: p, i, l => by
    show fateL keep torn c (i + 1) (p ++ [x]) _ = _
    rw [fateL_snoc keep torn c x p (i + 1)]
    show _ = (fateL keep torn c (i + 1) p _).set x.1 (fateP keep torn c (i + (p.length + 1)) x.2 _)
    rw [show i + 1 + p.length = i + (p.length + 1) by omega]
    rfl
theorem fateL_long (keep : List Bool) (torn : Int) {c : Nat} (hc : c ≤ 128) : ∀ (p : WrL) (i : Nat) (l : List (List UInt8)), FitW l.length p → (∀ b ∈ l, b.length = 1024) → ∀ b ∈ fateL keep torn c i p l, b.length = 1024
  | [], i, l, _, hl, b, hb => hl b hb
  | x :: p, i, l, hf, hl, b, hb => by
    have hx := hf x (by simp)
    have hgd : (l.getD x.1 []).length = 1024 := by
      rw [List.getD_eq_getElem?_getD, List.getElem?_eq_getElem hx.1, Option.getD_some]
      exact hl _ (List.getElem_mem _)
    refine fateL_long keep torn hc p (i + 1) _ (by rw [List.length_set]; exact fun y hy => hf y (by simp [hy])) (fun c' hc' => ?_) b hb
    rcases List.mem_or_eq_of_mem_set hc' with h | h
    · exact hl _ h
    · rw [h]; exact (fateP_mix keep torn hc i hx.2 hgd).len hx.2 hgd
theorem flatten_over (L : List (List UInt8)) (n : Nat) (X : List UInt8) (hn : n < L.length) (hl : ∀ b ∈ L, b.length = 1024) (hX : X.length ≤ 1024) :
    (L.set n (X ++ (L.getD n []).drop X.length)).flatten = L.flatten.take (n * 1024) ++ (X ++ L.flatten.drop (n * 1024 + X.length)) := by
  have hgd : L.getD n [] = L[n] := by simp [hn]
  have hln : (L[n]).length = 1024 := hl _ (List.getElem_mem _)
  rw [flatten_set L n _ hn hl (by rw [hgd]; simp; omega), hgd]
  have hp := flatten_part L n hn hl
  have hd : L.flatten.drop (n * 1024 + X.length) = (L[n]).drop X.length ++ L.flatten.drop (n * 1024 + 1024) := by
    have h1 : L.flatten.drop (n * 1024) = L[n] ++ L.flatten.drop (n * 1024 + 1024) := by
      rw [← hp, Nat.mul_comm 1024 n]
      conv => lhs; rw [← List.take_append_drop 1024 (L.flatten.drop (n * 1024)), List.drop_drop]
    rw [← List.drop_drop, h1, List.drop_append_of_le_length (by omega)]
  rw [hd]
  simp [List.append_assoc]
theorem lies_at {L : List (List UInt8)} {n : Nat} (h : n < L.length) (hl : ∀ b ∈ L, b.length = 1024) : (L.getD n []).length = 1024 := by
  rw [List.getD_eq_getElem?_getD, List.getElem?_eq_getElem h, Option.getD_some]
  exact hl _ (List.getElem_mem _)
theorem set_same (L : List (List UInt8)) (n : Nat) (h : n < L.length) : L.set n (L.getD n []) = L := by
  rw [List.getD_eq_getElem?_getD, List.getElem?_eq_getElem h, Option.getD_some, List.set_getElem_self]
theorem cut_facts (cut : Int) : ∃ y : Int, (∀ ts ty w, (Builtin.max_ ts ty #[.int .i64 cut, .int .i64 0]).run Tryz.prog w = .ok (.int .i64 y) w) ∧ ∀ ts ty w, (Builtin.min_ ts ty #[.int .i64 y, .int .i64 128]).run Tryz.prog w = .ok (.int .i64 (cutOf cut : Int)) w := by
  by_cases h0 : cut < 0
  · refine ⟨0, fun ts ty w => by rw [run_max_int2, if_pos h0], fun ts ty w => ?_⟩
    rw [run_min_int2, if_neg (by decide), show (cutOf cut : Int) = 0 from by unfold cutOf; omega]
  · refine ⟨cut, fun ts ty w => by rw [run_max_int2, if_neg (by omega)], fun ts ty w => ?_⟩
    rw [run_min_int2]
    by_cases h1 : 128 < cut
    · rw [if_pos h1, show (cutOf cut : Int) = 128 from by unfold cutOf; omega]
    · rw [if_neg h1, show (cutOf cut : Int) = cut from by unfold cutOf; omega]
theorem size_u8x : (Tryz.prog.info? 5).map (·.size) = some 1 := by kernel_rfl
theorem BoolsAt.cell {w : World} {ka : Option Addr} {kc : Nat} {l : List Bool} (h : BoolsAt w (.slice ka l.length kc) l) {j : Nat} (hj : j < l.length) :
    ∃ b off, ka = some ⟨b, off, none⟩ ∧ b < w.heap.size ∧ w.cell? ⟨b, off + j, none⟩ = some (.bool (l.getD j false)) := by
  rcases h.2 with ⟨_, h2⟩ | ⟨a, cap, e, _, hc⟩
  · rw [h2] at hj; simp at hj
  · injection e with e1 e2 e3
    obtain ⟨h1, h2⟩ := hc j hj
    obtain ⟨b, off, spot⟩ := a
    have hspot : spot = none := by
      obtain ⟨_, h0⟩ := hc 0 (by omega)
      simpa [Addr.add] using World.cell?_spot h0
    subst hspot
    exact ⟨b, off, e1, h1, by rw [add_off] at h2; exact h2⟩
theorem DiskAt.not_bool {w : World} {x : DiskH} {m : DiskM} (h : DiskAt w x m) {b i : Nat} {v : Bool} (hc : w.cell? ⟨b, i, none⟩ = some (.bool v)) : b ≠ x.bl := by
  rintro rfl
  rw [cell_of_row w x.bl i _ _ _ h.lies] at hc
  rw [← Array.getElem?_toList] at hc
  have hc : (rowBytes m.lies.flatten)[i]? = some (.bool v) := hc
  generalize m.lies.flatten = fl at hc
  unfold rowBytes at hc
  rw [List.getElem?_map] at hc
  cases hf : fl[i]? with
  | none => rw [hf] at hc; cases hc
  | some y => rw [hf] at hc; cases hc
set_option maxHeartbeats 4000000 in
theorem dcrash_ok (x : DiskH) (m : DiskM) (kv : Value) (keep : List Bool) (torn cut : Int) (w : World) (h : DiskAt w x m) (hk : BoolsAt w kv keep) (ht : I64 torn) (hc : I64 cut) (hpl : m.pend.length < 100000) :
    Calls Tryz.prog 28 #[.pointer (some ⟨x.d, 0, none⟩), .agg #[kv, .int .i64 torn, .int .i64 cut]] w fun e w' => ∃ x' : DiskH, e = .returned (.tuple #[]) ∧ Kept x.foot w w' ∧ DiskAt w' x' (m.crash keep torn cut) ∧ x'.d = x.d ∧ ∀ g, x'.foot g → x.foot g := by
  have hkk : ∃ ka kc, kv = .slice ka keep.length kc := by
    rcases hk.2 with ⟨rfl, rfl⟩ | ⟨a, cap, rfl, _⟩
    · exact ⟨_, _, rfl⟩
    · exact ⟨_, _, rfl⟩
  obtain ⟨ka, kc, rfl⟩ := hkk
  have hlen := h.pend.length
  have hkl := hk.1
  have H := Lib.hid h
  have HK := Lib.hid hk
  have HT := Lib.hid ht
  have HC := Lib.hid hc
  obtain ⟨pa, pc, hpv⟩ := row_slice h.row
  have HPV := Lib.hid hpv
  have hPl : x.pl.length = m.pend.length := hlen
  generalize hP : m.pend.length = P at *
  have HP := Lib.hid hP
  have HPL := Lib.hid hPl
  clear h hk ht hc hpv hP hPl hlen
  go_enter Tryz.func28, Tryz.ntmps28
  go_upto_region 2 with fail
  have hF := heap_alloc_new w (.cells #[.slice ka keep.length kc, .int .i64 torn, .int .i64 cut] 60)
  have k1 : Kept No w (w.alloc (.cells #[.slice ka keep.length kc, .int .i64 torn, .int .i64 cut] 60)) := (Kept.refl _ _).alloc _
  generalize w.alloc (.cells #[.slice ka keep.length kc, .int .i64 torn, .int .i64 cut] 60) = w1 at *
  generalize w.heap.size = F at *
  have h1 := H.out.kept k1 (fun _ _ h => h)
  have c1 : w1.cell? ⟨x.d, 1, none⟩ = some x.pv := (cell_of_row w1 x.d 1 _ _ _ h1.head).trans rfl
  rw [HPV.out, HPL.out] at c1
  have HD := Lib.hid h1
  have HF := Lib.hid hF
  have HK1 := Lib.hid (HK.out.kept k1 (fun _ _ h => h))
  have K1 := Lib.hid k1
  clear hF k1 h1 H HK
  go_wp2_with fail
  go_loopw [14] (fun i wr => ∃ j : Nat, j ≤ P ∧ i = .int .i64 (j : Int) ∧ Kept (fun k => k = x.bl) w1 wr ∧ wr.heap[x.bl]? = some (.cells ⟨rowBytes (fateL keep torn (cutOf cut) 0 (m.pend.take j) m.lies).flatten⟩ 129 (0, 0))) (fun i _ => P - (intOf i).toNat)
  case atStart => exact ⟨0, by omega, rfl, Kept.refl _ _, HD.out.lies⟩
  case round =>
    obtain ⟨j, hj, rfl, hkw, hL⟩ := hrel
    have HKW := Lib.hid hkw
    have HBL := Lib.hid hL
    clear hkw hL c1
    by_cases hlt : j < P
    · have hjl : j < m.pend.length := by rw [HP.out]; exact hlt
      obtain ⟨hjp, e1, e2⟩ := HD.out.pend.at j hjl
      obtain ⟨p1, p2⟩ := pendCells_at x.pl j hjp
      have hfit := HD.out.fits.pend _ (List.getElem_mem hjl)
      have hsn : m.pend.take (j + 1) = m.pend.take j ++ [m.pend[j]] := by rw [List.take_succ_eq_append_getElem hjl]
      have hown := HD.out.row
      rw [HPV.out] at hown
      have hpa : ∃ g, pa = some ⟨g, 0, none⟩ := by
        rcases hown.2 with ⟨_, h2⟩ | ⟨g, cap, cur, hv, _⟩
        · have := HPL.out; omega
        · injection hv with hv1; exact ⟨g, hv1⟩
      obtain ⟨pg, rfl⟩ := hpa
      have hpn : pg ≠ x.bl := fun e => by
        obtain ⟨cs, hc⟩ := row_cells hown (g := pg) rfl
        exact cells_ne hc HD.out.lies (by decide) e
      have g1 := hown.cells (g := pg) rfl _ _ p1
      have g2 := hown.cells (g := pg) rfl _ _ p2
      rw [add_off, Nat.zero_add] at g1 g2
      have hbnd : pg < w1.heap.size := by
        obtain ⟨cs, hc⟩ := row_cells hown (g := pg) rfl
        exact lt_of_heap hc
      have hpage : (x.pl[j]).2 ≠ x.bl := fun e => HD.out.apart (by rw [← e]; exact List.mem_map_of_mem (List.getElem_mem hjp))
      have q1 : wr.cell? ⟨pg, j * 2, none⟩ = some (.int .i64 ((m.pend[j]).1 : Int)) := by
        rw [World.cell?_of_block (w := w1) (HKW.out.block _ hbnd hpn), g1, e1]
      have q2 : wr.cell? ⟨pg, j * 2 + 1, none⟩ = some (.pointer (some ⟨(x.pl[j]).2, 0, none⟩)) := by
        rw [World.cell?_of_block (w := w1) (HKW.out.block _ hbnd hpn), g2]
      have e3 := HKW.out.heap e2 hpage
      generalize hpe : m.pend[j] = pe at *
      obtain ⟨n, bs⟩ := pe
      simp only at q1 q2 e3 hfit e1
      generalize (x.pl[j]).2 = pp at *
      have HPP := Lib.hid e3
      have HSN := Lib.hid hsn
      have HFIT := Lib.hid hfit
      clear e1 e2 p1 p2 hown g1 g2 hbnd hpage e3 hsn hfit hpn hpe
      have hd0 : wr.heap[x.d]? = _ := HKW.out.heap HD.out.head (Ne.symm HD.out.d_ne.1)
      have hF1 := HKW.out.heap HF.out (cells_ne HF.out HD.out.lies (by decide))
      have hll : (fateL keep torn (cutOf cut) 0 (m.pend.take j) m.lies).length = m.lies.length := fateL_len _ _ _ _ _ _
      have hlong : ∀ b ∈ fateL keep torn (cutOf cut) 0 (m.pend.take j) m.lies, b.length = 1024 := fateL_long keep torn (cutOf_le cut) _ 0 _ (fun y hy => HD.out.fits.pend y (List.mem_of_mem_take hy)) HD.out.fits.lies
      have hnext : fateL keep torn (cutOf cut) 0 (m.pend.take (j + 1)) m.lies = (fateL keep torn (cutOf cut) 0 (m.pend.take j) m.lies).set n (fateP keep torn (cutOf cut) j bs ((fateL keep torn (cutOf cut) 0 (m.pend.take j) m.lies).getD n [])) := by
        rw [HSN.out, fateL_snoc]
        simp only [List.length_take, Nat.min_eq_left (Nat.le_of_lt hjl), Nat.zero_add]
      have HNEXT := Lib.hid hnext
      clear hnext HSN
      generalize fateL keep torn (cutOf cut) 0 (m.pend.take j) m.lies = Lj at *
      have HLL := Lib.hid hll
      have HLONG := Lib.hid hlong
      have hnl : n < m.lies.length := HFIT.out.1
      have hmost := HD.out.most
      have HD0 := Lib.hid hd0
      have HF1 := Lib.hid hF1
      have hjl' := Lib.hid hjl
      clear hll hlong hd0 hF1 hjl
      go_wp2_with fail
      have hB := heap_alloc_new wr (.cells #[.int .i64 (n : Int), .pointer (some ⟨pp, 0, none⟩)] 127)
      have k2 : Kept No wr (wr.alloc (.cells #[.int .i64 (n : Int), .pointer (some ⟨pp, 0, none⟩)] 127)) := (Kept.refl _ _).alloc _
      generalize wr.alloc (.cells #[.int .i64 (n : Int), .pointer (some ⟨pp, 0, none⟩)] 127) = w2 at *
      generalize wr.heap.size = B at *
      have d0 : w2.cell? ⟨x.d, 0, none⟩ = some (.slice (some ⟨x.bl, 0, none⟩) m.lies.length m.lies.length) := (cell_of_row w2 x.d 0 _ _ _ (k2.heap HD0.out (fun h => h))).trans rfl
      have b0 : w2.cell? ⟨B, 0, none⟩ = some (.int .i64 (n : Int)) := (cell_of_row w2 B 0 _ _ _ hB).trans rfl
      have hn0 : (0 : Int) ≤ (n : Int) := by omega
      have hnN : (n : Int) < (m.lies.length : Int) := by omega
      have HB := Lib.hid hB
      have K2 := Lib.hid k2
      clear hB k2 q1 q2
      go_quiet (fail)
      generalize hq : w2.drewN _ = w3
      have kq : Kept No w2 w3 := by rw [← hq]; exact (Kept.refl No w2).drewN _
      clear hq
      have hB3 := kq.heap HB.out (fun h => h)
      have HKQ : Hid (Kept (fun k => k = x.bl) w1 w3) := Lib.hid (HKW.out.next (K2.out.trans kq) (fun _ _ h => h.elim))
      have hk23 := K2.out.trans kq
      have HBL3 := Lib.hid (hk23.heap HBL.out (fun h => h))
      have HPP3 := Lib.hid (hk23.heap HPP.out (fun h => h))
      have hF3 := hk23.heap HF1.out (fun h => h)
      have hppl := cells_ne (hk23.heap HPP.out (fun h => h)) (hk23.heap HBL.out (fun h => h))
      have hold := lies_at (n := n) (by rw [HLL.out]; exact hnl) HLONG.out
      have hsame := set_same Lj n (by rw [HLL.out]; exact hnl)
      have hover := fun X => flatten_over Lj n X (by rw [HLL.out]; exact hnl) HLONG.out
      have hflen := flatten_len Lj HLONG.out
      rw [HLL.out] at hflen
      have hbs := HFIT.out.2
      skip
      have HOLD := Lib.hid hold
      have HSAME := Lib.hid hsame
      have HOVER := Lib.hid hover
      have HFLEN := Lib.hid hflen
      have HBS := Lib.hid hbs
      have c1 : w3.cell? ⟨B, 1, none⟩ = some (.pointer (some ⟨pp, 0, none⟩)) := (cell_of_row w3 B 1 _ _ _ hB3).trans rfl
      have f0 : w3.cell? ⟨F, 0, none⟩ = some (.slice ka keep.length kc) := (cell_of_row w3 F 0 _ _ _ hF3).trans rfl
      have f1 : w3.cell? ⟨F, 1, none⟩ = some (.int .i64 torn) := (cell_of_row w3 F 1 _ _ _ hF3).trans rfl
      have f2 : w3.cell? ⟨F, 2, none⟩ = some (.int .i64 cut) := (cell_of_row w3 F 2 _ _ _ hF3).trans rfl
      have hsz := size_u8x
      clear hold hsame hover hflen hbs hB3 hk23 hF3 hppl HB kq d0 b0 hn0 hnN
      by_cases htj : (j : Int) = torn
      · have hbt : ((j : Int) == torn) = true := by simp [htj]
        obtain ⟨c, hc⟩ : ∃ c, cutOf cut = c := ⟨_, rfl⟩
        have hc128 : c ≤ 128 := by rw [← hc]; exact cutOf_le cut
        obtain ⟨y, hy⟩ := cut_facts cut
        rw [hc] at hy
        obtain ⟨hy1, hy2⟩ := hy
        have hw8 : IntKind.i64.wrap (8 * (c : Int)) = 8 * (c : Int) := by rw [IntKind.wrap_i64]; omega
        have HC8 := Lib.hid hc
        have HTJ := Lib.hid htj
        clear hc htj
        go_upto_region 7 with fail
        have p1 := cell_at (M := No) c1 (fun h => h)
        have p2 := cell_at (M := No) f2 (fun h => h)
        have hb1 : (0 : Int) ≤ 8 * (c : Int) := by omega
        have hb2 : 8 * (c : Int) ≤ 1024 := by omega
        clear c1 f0 f1 f2
        refine wp_region_in_tail (Kept No w3) 10 (by kernel_rfl) (by kernel_rfl) ((Kept.refl _ _).drew) ?_
        simp only [List.take_succ_cons, List.take_zero, List.drop_succ_cons, List.drop_zero]
        repeat (go_big_quiet_step (fail))
        refine wpQuiet_nil ?_
        intro w6 hw'
        obtain ⟨⟨wx, k6⟩, hw''⟩ := hw'
        change w6 = wx at hw''
        subst hw''
        have HSZ8 := Lib.hid hsz
        have HX1 : Hid ((bs.take (8 * c)).length = 8 * c) := Lib.hid (by have := HBS.out; simp; omega)
        have HA : Hid ((Lj.flatten.take (n * 1024)).length = n * 1024) := Lib.hid (by rw [List.length_take, HFLEN.out]; omega)
        have HMX : Hid (((Lj.flatten.drop (n * 1024)).take (bs.take (8 * c)).length).length = (bs.take (8 * c)).length) := Lib.hid (by rw [List.length_take, List.length_drop, HFLEN.out, HX1.out]; omega)
        have HXX : Hid ((bs.drop 0).take (bs.take (8 * c)).length = bs.take (8 * c)) := Lib.hid (by rw [HX1.out, List.drop_zero])
        have HXN : Hid ((bs.take (8 * c)).length = min (8 * c) 1024) := Lib.hid (by rw [HX1.out]; omega)
        have HL6 := Lib.hid (k6.heap HBL3.out (fun h => h))
        have HP6 := Lib.hid (k6.heap HPP3.out (fun h => h))
        refine wpList_copy_row (by rfl) (.tmp 32) (.tmp 41) 104 104 (by rfl) 5 Tryz.underlying104 (by exact HSZ8.out) x.bl (n * 1024) 1024 1024 pp 0 (8 * c) 1024 (by rfl) (by rfl) (Lj.flatten.take (n * 1024)) ((Lj.flatten.drop (n * 1024)).take (bs.take (8 * c)).length) (Lj.flatten.drop (n * 1024 + (bs.take (8 * c)).length)) Lj.flatten bs (bs.take (8 * c)) (by exact split3 _ _ _) (by exact HA.out) (by exact HMX.out) _ _ (0, 0) HL6.out HP6.out (by exact HXX.out) (by exact HXN.out) ?_
        intro w7 k7 hL7
        have K7 : Hid (Kept (fun k => k = x.bl) w1 w7) := Lib.hid (HKQ.out.trans ((k6.of_no _).trans k7))
        have hfin : (fateL keep torn (cutOf cut) 0 (m.pend.take (j + 1)) m.lies).flatten = Lj.flatten.take (n * 1024) ++ (bs.take (8 * c) ++ Lj.flatten.drop (n * 1024 + (bs.take (8 * c)).length)) := by
          rw [HNEXT.out, ← HOVER.out (bs.take (8 * c)) (by rw [HX1.out]; omega)]
          unfold fateP
          rw [if_pos HTJ.out, HC8.out, HX1.out]
        rw [← hfin] at hL7
        have HL7 := Lib.hid hL7
        clear hfin hL7 k7 k6
        go_wp2_with fail
        go_roundw
        case rel => exact ⟨j + 1, by omega, by first | rfl | go_num, K7.out, HL7.out⟩
        case measure => simp [intOf]; omega
      · have hbt : ((j : Int) == torn) = false := by simp [htj]
        have HTJ := Lib.hid htj
        have HSZ8 := Lib.hid hsz
        clear htj hsz
        have hkeep : keep.getD j false = true ∨ keep.getD j false = false := by cases keep.getD j false <;> simp
        have fin0 : keep.getD j false = false → fateL keep torn (cutOf cut) 0 (m.pend.take (j + 1)) m.lies = Lj := fun hk => by
          rw [HNEXT.out]
          unfold fateP
          rw [if_neg HTJ.out, hk, if_neg (by simp), HSAME.out]
        have FIN0 := Lib.hid fin0
        clear fin0
        by_cases hjk : j < keep.length
        · have hkl2 : (j : Int) < (keep.length : Int) := by omega
          have hkd : decide (j < keep.length) = true := by simp [hjk]
          obtain ⟨kb, ko, hka, hkb, hkc⟩ := HK1.out.cell hjk
          subst hka
          have hkne := HD.out.not_bool hkc
          have kc3 : w3.cell? ⟨kb, ko + j, none⟩ = some (.bool (keep.getD j false)) := by
            rw [World.cell?_of_block (w := w1) (HKQ.out.block _ hkb hkne), hkc]
          clear hkb hkc hkne
          rcases hkeep with hk | hk
          · rw [hk] at kc3
            have HX1 := HBS
            have HA : Hid ((Lj.flatten.take (n * 1024)).length = n * 1024) := Lib.hid (by rw [List.length_take, HFLEN.out]; omega)
            have HMX : Hid (((Lj.flatten.drop (n * 1024)).take bs.length).length = bs.length) := Lib.hid (by rw [List.length_take, List.length_drop, HFLEN.out, HX1.out]; omega)
            have HXX : Hid ((bs.drop 0).take bs.length = bs) := Lib.hid (by rw [List.drop_zero, List.take_length])
            have HXN : Hid (bs.length = min 1024 1024) := Lib.hid (by rw [HX1.out]; rfl)
            have hfin : (fateL keep torn (cutOf cut) 0 (m.pend.take (j + 1)) m.lies).flatten = Lj.flatten.take (n * 1024) ++ (bs ++ Lj.flatten.drop (n * 1024 + bs.length)) := by
              rw [HNEXT.out, ← HOVER.out bs (by rw [HX1.out]; omega)]
              unfold fateP
              rw [if_neg HTJ.out, if_pos hk, List.drop_of_length_le (by rw [HOLD.out, HX1.out]; omega), List.append_nil]
            have HFIN := Lib.hid hfin
            clear hfin hk
            go_wp2_with (first | (refine wpList_copy_row (by rfl) (.tmp 56) (.tmp 60) 104 104 (by rfl) 5 Tryz.underlying104 (by exact HSZ8.out) x.bl (n * 1024) 1024 1024 pp 0 (1024) 1024 (by rfl) (by rfl) (Lj.flatten.take (n * 1024)) ((Lj.flatten.drop (n * 1024)).take (bs).length) (Lj.flatten.drop (n * 1024 + (bs).length)) Lj.flatten bs (bs) (by exact split3 _ _ _) (by exact HA.out) (by exact HMX.out) _ _ (0, 0) HBL3.out HPP3.out (by exact HXX.out) (by exact HXN.out) ?_; intro w7 k7 hL7; rw [← HFIN.out] at hL7; have K7 : Hid (Kept (fun k => k = x.bl) w1 w7) := Lib.hid (HKQ.out.trans k7); have HL7 := Lib.hid hL7; clear k7 hL7))
            go_roundw
            case rel => exact ⟨j + 1, by omega, by first | rfl | go_num, K7.out, HL7.out⟩
            case measure => simp [intOf]; omega
          · rw [hk] at kc3
            have HL7 : Hid (w3.heap[x.bl]? = some (.cells ⟨rowBytes (fateL keep torn (cutOf cut) 0 (m.pend.take (j + 1)) m.lies).flatten⟩ 129 (0, 0))) := Lib.hid (by rw [FIN0.out hk]; exact HBL3.out)
            clear hk
            go_wp2_with fail
            go_roundw
            case rel => exact ⟨j + 1, by omega, by first | rfl | go_num, HKQ.out, HL7.out⟩
            case measure => simp [intOf]; omega
        · have hkd : decide (j < keep.length) = false := by simp; omega
          have hkl2 : ¬ (j : Int) < (keep.length : Int) := by omega
          have hk : keep.getD j false = false := by simp [List.getD_eq_getElem?_getD, List.getElem?_eq_none (Nat.le_of_not_lt hjk)]
          have HL7 : Hid (w3.heap[x.bl]? = some (.cells ⟨rowBytes (fateL keep torn (cutOf cut) 0 (m.pend.take (j + 1)) m.lies).flatten⟩ 129 (0, 0))) := Lib.hid (by rw [FIN0.out hk]; exact HBL3.out)
          clear hk hkeep
          go_wp2_with fail
          go_roundw
          case rel => exact ⟨j + 1, by omega, by first | rfl | go_num, HKQ.out, HL7.out⟩
          case measure => simp [intOf]; omega
    · obtain rfl : j = P := by omega
      have htk : m.pend.take j = m.pend := by rw [← HP.out]; exact List.take_length
      rw [htk] at HBL
      have HL7 := HBL
      obtain ⟨D, hD⟩ := HD.out.last
      have hown := hD.own
      have ho : wr.ownsMap Tryz.prog 3 ptrElem x.bm x.pl.length D := by
        obtain ⟨es, clock, hb, Fm, hs, hD2⟩ := hown
        exact ⟨es, clock, HKW.out.heap hb (fun e => map_ne HD.out.lies hb e.symm), Fm, hs, hD2⟩
      have hd1 := HD.out.pages hD HKW.out ho HL7.out (fateL_len _ _ _ _ _ _) (fateL_long keep torn (cutOf_le cut) _ 0 _ (fun y hy => HD.out.fits.pend y hy) HD.out.fits.lies)
      have HD1 := Lib.hid hd1
      have HLEFT := Lib.hid HD.out.left
      clear hown ho hd1 hD D htk
      go_wp2_with fail
      refine (calm_ok x _ wr HD1.out).mono ?_
      rintro e w5 ⟨rfl, k5, h5⟩
      have hh := h5.head
      have c3 := (cell_of_row w5 x.d 3 _ _ _ hh).trans rfl
      have f3 := frozen_of_row w5 x.d 3 _ _ hh
      have c4 := (cell_of_row w5 x.d 4 _ _ _ hh).trans rfl
      have f4 := frozen_of_row w5 x.d 4 _ _ hh
      have e3 := heap_setCell_same _ x.d 3 _ _ (.bool false) hh
      have e4 := heap_setCell_same _ x.d 4 _ _ (.bool false) e3
      have E4 := Lib.hid e4
      have H5 := Lib.hid h5
      have K5 := Lib.hid k5
      clear hh e3 e4 h5 k5
      go_wp2_with fail
      go_end0
      have k6 : Kept (fun j => j = x.d) w5 ((w5.setCell ⟨x.d, 3, none⟩ (.bool false)).setCell ⟨x.d, 4, none⟩ (.bool false)) := ((Kept.refl (fun j => j = x.d) w5).setCell ⟨x.d, 3, none⟩ _ (fun _ => rfl)).setCell ⟨x.d, 4, none⟩ _ (fun _ => rfl)
      have fin := H5.out.turn (m' := m.crash keep torn cut) k6 rfl rfl E4.out ⟨HLEFT.out.1, HLEFT.out.2.1, fun h => (by cases h)⟩
      refine ⟨⟨x.d, x.bl, x.bm, .slice none 0 0, []⟩, rfl, (((K1.out.of_no x.foot).next HKW.out (fun k _ e => .inr (.inl e))).next K5.out (fun k _ e => ?_)).next k6 (fun k _ e => .inl e), fin, rfl, ?_⟩
      · rcases e with rfl | rfl
        · exact .inl rfl
        · exact .inr (.inr (.inl rfl))
      · rintro g (h | h | h | h | h)
        · exact .inl h
        · exact .inr (.inl h)
        · exact .inr (.inr (.inl h))
        · cases h
        · cases h
end Go.Proofs.YtabhieafjkaocaaGreat
namespace Go.Proofs.YtabhieafjkaocaaGreat
open Go.RowKit Go.Lib Bm
set_option maxRecDepth 20000
set_option maxHeartbeats 2000000 in
theorem open_off (x : DiskH) (dm : DiskM) (cnt n : Nat) (w : World) (hx : DiskAt w x dm) (ho : dm.off = true) (hall : dm.lies.length ≤ 4096) (hc : 2 ≤ cnt) (hn : dm.lies.length = cnt + n) (hn2 : 2 ≤ n) :
    Calls Tryz.prog 12 #[dev x.d, .int .i64 (cnt : Int)] w fun e w' => e = .returned (.tuple #[.pointer none, .int .i64 40]) ∧ Kept No w w' := by
  have HX := Lib.hid hx
  have hscan := scan_off x dm 0 cnt
  have HSCAN := Lib.hid (fun w h => hscan w h (by omega) (by omega) ho)
  have HN := Lib.hid hn
  have hlen := hn
  have hts := types_373
  have hmp : ∀ w, (method 373 24 (.pointer (some ⟨x.d, 0, none⟩)) "Pages").run Tryz.prog w = .ok (211, .pointer (some ⟨x.d, 0, none⟩)) w := fun w => dev_method_pages x.d w
  have hcp : ∀ w, (callFunc 211 #[.pointer (some ⟨x.d, 0, none⟩)]).run Tryz.prog w = .ok (.enter 211 #[.pointer (some ⟨x.d, 0, none⟩)]) w := fun w => by kernel_rfl
  have hmt : ∀ w, (method 373 24 (.pointer (some ⟨x.d, 0, none⟩)) "Read").run Tryz.prog w = .ok (212, .pointer (some ⟨x.d, 0, none⟩)) w := fun w => dev_method_read x.d w
  have hcf : ∀ w (i : Int), (callFunc 212 #[.pointer (some ⟨x.d, 0, none⟩), .int .i64 i]).run Tryz.prog w = .ok (.enter 212 #[.pointer (some ⟨x.d, 0, none⟩), .int .i64 i]) w := fun w i => by kernel_rfl
  have hdn := dev_not x.d
  have hL : ((dm.lies.length : Nat) : Int) = (cnt : Int) + (n : Int) := by omega
  generalize hLL : dm.lies.length = L at *
  have HLL := Lib.hid hLL
  clear hLL
  have hd1 : decide ((4096 : Int) < (L : Int)) = false := by simp; omega
  have hd2 : decide ((cnt : Int) < 2) = false := by simp; omega
  have hd3 : decide ((L : Int) - (cnt : Int) < 2) = false := by simp; omega
  have hwl : IntKind.i64.wrap ((L : Int) - (cnt : Int)) = (L : Int) - (cnt : Int) := by rw [IntKind.wrap_i64]; omega
  have HL := Lib.hid hL
  clear hx hscan hn hlen hL
  go_enter Tryz.func12, Tryz.ntmps12
  go_wp2_with fail
  refine (dpages_ok x dm w HX.out).mono ?_
  rintro e w' ⟨rfl, rfl⟩
  rw [HLL.out]
  go_wp2_with fail
  have hS := heap_alloc_new w (.cells #[dev x.d, .int .i64 (cnt : Int), .pointer none, .int .u32 0, .int .u32 0, .int .u32 0, .int .u32 0, .int .u32 0, .int .u32 0, .int .u32 0, .int .u32 0, .int .u64 0, .int .u64 0, .bool false, .pointer none] 90)
  have k1 : Kept No w (w.alloc (.cells #[dev x.d, .int .i64 (cnt : Int), .pointer none, .int .u32 0, .int .u32 0, .int .u32 0, .int .u32 0, .int .u32 0, .int .u32 0, .int .u32 0, .int .u32 0, .int .u64 0, .int .u64 0, .bool false, .pointer none] 90)) := (Kept.refl _ _).alloc _
  generalize (w.alloc (.cells #[dev x.d, .int .i64 (cnt : Int), .pointer none, .int .u32 0, .int .u32 0, .int .u32 0, .int .u32 0, .int .u32 0, .int .u32 0, .int .u32 0, .int .u32 0, .int .u64 0, .int .u64 0, .bool false, .pointer none] 90)) = w1 at *
  generalize hSe : w.heap.size = S at *
  have HSE := Lib.hid hSe
  clear hSe
  have HX1 := Lib.hid (HX.out.kept k1 (fun _ _ h => h))
  refine (HSCAN.out w1 HX1.out).mono ?_
  rintro e w2 ⟨rfl, k2⟩
  have K2 := Lib.hid (k1.trans k2)
  clear k1 k2
  go_wp2
  go_ret2
  exact ⟨rfl, K2.out.alloc _⟩
set_option maxHeartbeats 2000000 in
theorem open_whole_no (x : DiskH) (dm : DiskM) (cnt n top ser : Nat) (l : List PageV) (w : World) (hx : DiskAt w x dm) (ho : dm.off = false) (hall : dm.lies.length ≤ 4096) (hc : 2 ≤ cnt) (hn : dm.lies.length = cnt + n) (hn2 : 2 ≤ n) (hp : dm.pend.length < 100000)
    (hf : batchM (views dm 0 cnt) 0 = some (ser, l)) (htop : topOf (views dm 0 cnt) = top) (hl0 : 0 < l.length) (hln : l.length < 1000) (hnum : ∀ p ∈ l, p.number < n) (hbd : ∀ p ∈ l, p.body.length ≤ 996) (hser : ser ≤ 4611686018427387904)
    (hlay : (homeW cnt ser l dm).2 = 40) :
    Calls Tryz.prog 12 #[dev x.d, .int .i64 (cnt : Int)] w fun e w' => ∃ x' : DiskH, e = .returned (.tuple #[.pointer none, .int .i64 40]) ∧ Kept x.foot w w' ∧ DiskAt w' x' (homeW cnt ser l dm).1 ∧ x'.d = x.d ∧ ∀ g, x'.foot g → x.foot g ∨ w.heap.size ≤ g := by
  have HX := Lib.hid hx
  have hready : dm.ready (cnt : Int) = 0 := by
    unfold DiskM.ready
    rw [ho, if_neg (by simp), if_neg (by omega)]
  have HRDY := Lib.hid hready
  have hscan := scan_ok x dm 0 cnt
  have HSCAN := Lib.hid (fun w h => hscan w h (by omega) (by omega) ho)
  have HF := Lib.hid (show scanOf (views dm 0 cnt) 0 = ⟨top, true, ser, l⟩ from by unfold scanOf; rw [hf, htop])
  have HNUM := Lib.hid hnum
  have HLAY := Lib.hid hlay
  have HN := Lib.hid hn
  have hlen := hn
  have hts := types_373
  have hmp : ∀ w, (method 373 24 (.pointer (some ⟨x.d, 0, none⟩)) "Pages").run Tryz.prog w = .ok (211, .pointer (some ⟨x.d, 0, none⟩)) w := fun w => dev_method_pages x.d w
  have hcp : ∀ w, (callFunc 211 #[.pointer (some ⟨x.d, 0, none⟩)]).run Tryz.prog w = .ok (.enter 211 #[.pointer (some ⟨x.d, 0, none⟩)]) w := fun w => by kernel_rfl
  have hmt : ∀ w, (method 373 24 (.pointer (some ⟨x.d, 0, none⟩)) "Read").run Tryz.prog w = .ok (212, .pointer (some ⟨x.d, 0, none⟩)) w := fun w => dev_method_read x.d w
  have hcf : ∀ w (i : Int), (callFunc 212 #[.pointer (some ⟨x.d, 0, none⟩), .int .i64 i]).run Tryz.prog w = .ok (.enter 212 #[.pointer (some ⟨x.d, 0, none⟩), .int .i64 i]) w := fun w i => by kernel_rfl
  have hdn := dev_not x.d
  have hL : ((dm.lies.length : Nat) : Int) = (cnt : Int) + (n : Int) := by omega
  generalize hLL : dm.lies.length = L at *
  have HLL := Lib.hid hLL
  clear hLL
  have hd1 : decide ((4096 : Int) < (L : Int)) = false := by simp; omega
  have hd2 : decide ((cnt : Int) < 2) = false := by simp; omega
  have hd3 : decide ((L : Int) - (cnt : Int) < 2) = false := by simp; omega
  have hwl : IntKind.i64.wrap ((L : Int) - (cnt : Int)) = (L : Int) - (cnt : Int) := by rw [IntKind.wrap_i64]; omega
  have HL := Lib.hid hL
  clear hx hready hscan hf htop hlay hn hlen hL hnum
  go_enter Tryz.func12, Tryz.ntmps12
  go_wp2_with fail
  refine (dpages_ok x dm w HX.out).mono ?_
  rintro e w' ⟨rfl, rfl⟩
  rw [HLL.out]
  go_wp2_with fail
  have hS := heap_alloc_new w (.cells #[dev x.d, .int .i64 (cnt : Int), .pointer none, .int .u32 0, .int .u32 0, .int .u32 0, .int .u32 0, .int .u32 0, .int .u32 0, .int .u32 0, .int .u32 0, .int .u64 0, .int .u64 0, .bool false, .pointer none] 90)
  have k1 : Kept No w (w.alloc (.cells #[dev x.d, .int .i64 (cnt : Int), .pointer none, .int .u32 0, .int .u32 0, .int .u32 0, .int .u32 0, .int .u32 0, .int .u32 0, .int .u32 0, .int .u32 0, .int .u64 0, .int .u64 0, .bool false, .pointer none] 90)) := (Kept.refl _ _).alloc _
  generalize (w.alloc (.cells #[dev x.d, .int .i64 (cnt : Int), .pointer none, .int .u32 0, .int .u32 0, .int .u32 0, .int .u32 0, .int .u32 0, .int .u32 0, .int .u32 0, .int .u32 0, .int .u64 0, .int .u64 0, .bool false, .pointer none] 90)) = w1 at *
  generalize hSe : w.heap.size = S at *
  have HSE := Lib.hid hSe
  clear hSe
  have HX1 := Lib.hid (HX.out.kept k1 (fun _ _ h => h))
  refine (HSCAN.out w1 HX1.out).mono ?_
  rw [HF.out]
  rintro e w2 ⟨fv, rfl, k2, hpg, hfv⟩
  have HS2 := Lib.hid (k2.heap hS (fun h => h))
  have HX2 := Lib.hid (HX1.out.kept k2 (fun _ _ h => h))
  have K2 := Lib.hid (k1.trans k2)
  have hfv0 : ∃ g cap, fv = .slice (some ⟨g, 0, none⟩) l.length cap := by
    obtain ⟨g, cap, e, _⟩ := hpg.at hl0
    exact ⟨g, cap, e⟩
  obtain ⟨fg, fc, rfl⟩ := hfv0
  have HPG := Lib.hid hpg
  have hwtop : (0 : Int) ≤ top := by omega
  clear hS k1 k2 hpg hfv HX1 hwtop
  go_wp2_with fail
  have hF := heap_alloc_new w2 (.cells #[.int .u64 (top : Int), .bool true, .int .u64 (ser : Int), .slice (some ⟨fg, 0, none⟩) l.length fc] 100)
  have k3 : Kept No w2 (w2.alloc (.cells #[.int .u64 (top : Int), .bool true, .int .u64 (ser : Int), .slice (some ⟨fg, 0, none⟩) l.length fc] 100)) := (Kept.refl _ _).alloc _
  generalize w2.alloc (.cells #[.int .u64 (top : Int), .bool true, .int .u64 (ser : Int), .slice (some ⟨fg, 0, none⟩) l.length fc] 100) = w3 at *
  generalize w2.heap.size = FB at *
  have HF3 := Lib.hid hF
  have HX3 := Lib.hid (HX2.out.kept k3 (fun _ _ h => h))
  have HS3 := Lib.hid (k3.heap HS2.out (fun h => h))
  have HPG3 := Lib.hid (HPG.out.kept k3 (fun _ _ h => h))
  have K3 := Lib.hid (K2.out.trans k3)
  clear hF k3 HX2 HS2 HPG K2 HX HSCAN HF
  go_loopw [54] (fun i wr => ∃ j : Nat, j ≤ l.length ∧ i = .int .i64 (j : Int) ∧ Kept No w3 wr) (fun i _ => l.length - (intOf i).toNat)
  case atStart => exact ⟨0, by omega, rfl, Kept.refl _ _⟩
  case round =>
    obtain ⟨j, hj, rfl, hkw⟩ := hrel
    have HKW := Lib.hid hkw
    clear hkw
    by_cases hjl : j < l.length
    · obtain ⟨r0, r1, r2, r3⟩ := (HPG3.out.kept HKW.out (fun _ _ h => h)).row4 rfl j hjl
      have hnm := HNUM.out _ (List.getElem_mem hjl)
      have hnb := (HPG3.out.ok _ (List.getElem_mem hjl)).number
      generalize l[j] = pg at *
      have hwp : IntKind.i64.wrap (pg.number : Int) = (pg.number : Int) := by rw [IntKind.wrap_i64]; omega
      have hdn2 : decide ((L : Int) - (cnt : Int) ≤ (pg.number : Int)) = false := by have := HN.out; simp; omega
      go_wp2_with fail
      go_roundw
      case rel => exact ⟨j + 1, by omega, by first | rfl | go_num, HKW.out.alloc _⟩
      case measure => simp [intOf]; omega
    · have e : j = l.length := by omega
      subst e
      have HX4 := Lib.hid (HX3.out.kept HKW.out (fun _ _ h => h))
      have HS4 := Lib.hid (HKW.out.heap HS3.out (fun h => h))
      have HF4 := Lib.hid (HKW.out.heap HF3.out (fun h => h))
      have HPG4 := Lib.hid (HPG3.out.kept HKW.out (fun _ _ h => h))
      have K4 := Lib.hid (K3.out.trans HKW.out)
      have hf4 := HF4.out
      have f2 := (cell_of_row wr FB 2 _ _ _ hf4).trans rfl
      have f3 := (cell_of_row wr FB 3 _ _ _ hf4).trans rfl
      clear HX3 HS3 HF3 HPG3 K3 HKW hf4
      go_wp2_with fail
      have HSD : SdAt wr S x.d cnt := ⟨⟨_, HS4.out, rfl, rfl⟩, ⟨hc, by have := HN.out; omega⟩⟩
      refine (home_ok S cnt x dm ser _ l wr HSD HX4.out HPG4.out hl0 hbd hser (by omega)).mono ?_
      rintro e w5 ⟨x5, rfl, k5, hd5, hs5, hf5⟩
      rw [HLAY.out]
      have HFIN := Lib.hid (And.intro ((K4.out.of_no x.foot).trans k5) (And.intro hd5 (And.intro hs5 (show ∀ g, x5.foot g → x.foot g ∨ w.heap.size ≤ g from fun g hg => (hf5 g hg).imp id (fun e => Nat.le_trans K4.out.size e)))))
      clear k5 hd5 hs5 hf5 HS4 HF4 HX4 HPG4 K4 f2 f3 HSD
      go_wp2
      go_ret2
      obtain ⟨a1, a2, a3, a4⟩ := HFIN.out
      exact ⟨x5, rfl, a1, a2, a3, a4⟩
set_option maxHeartbeats 2000000 in
theorem open_blank_no (x : DiskH) (dm : DiskM) (cnt n top : Nat) (w : World) (hx : DiskAt w x dm) (ho : dm.off = false) (hall : dm.lies.length ≤ 4096) (hc : 2 ≤ cnt) (hn : dm.lies.length = cnt + n) (hn2 : 2 ≤ n) (hp : dm.pend.length < 100000)
    (hf : batchM (views dm 0 cnt) 0 = none) (htop : topOf (views dm 0 cnt) = top) (htm : top + 1 < 4611686018427387904) (hblank : dm.view cnt = List.replicate 1024 0) (hlay : (layoutM dm cnt n (top + 1)).2 = 40) :
    Calls Tryz.prog 12 #[dev x.d, .int .i64 (cnt : Int)] w fun e w' => ∃ x' : DiskH, e = .returned (.tuple #[.pointer none, .int .i64 40]) ∧ Kept x.foot w w' ∧ DiskAt w' x' (layoutM dm cnt n (top + 1)).1 ∧ x'.d = x.d ∧ ∀ g, x'.foot g → x.foot g ∨ w.heap.size ≤ g := by
  have HX := Lib.hid hx
  have hready : dm.ready (cnt : Int) = 0 := by
    unfold DiskM.ready
    rw [ho, if_neg (by simp), if_neg (by omega)]
  have HRDY := Lib.hid hready
  have hscan := scan_ok x dm 0 cnt
  have HSCAN := Lib.hid (fun w h => hscan w h (by omega) (by omega) ho)
  have HF := Lib.hid (show scanOf (views dm 0 cnt) 0 = ⟨top, false, 0, []⟩ from by unfold scanOf; rw [hf, htop])
  have HBL := Lib.hid hblank
  have HLAY := Lib.hid hlay
  have HN := Lib.hid hn
  have hlen := hn
  have hts := types_373
  have hmp : ∀ w, (method 373 24 (.pointer (some ⟨x.d, 0, none⟩)) "Pages").run Tryz.prog w = .ok (211, .pointer (some ⟨x.d, 0, none⟩)) w := fun w => dev_method_pages x.d w
  have hcp : ∀ w, (callFunc 211 #[.pointer (some ⟨x.d, 0, none⟩)]).run Tryz.prog w = .ok (.enter 211 #[.pointer (some ⟨x.d, 0, none⟩)]) w := fun w => by kernel_rfl
  have hmt : ∀ w, (method 373 24 (.pointer (some ⟨x.d, 0, none⟩)) "Read").run Tryz.prog w = .ok (212, .pointer (some ⟨x.d, 0, none⟩)) w := fun w => dev_method_read x.d w
  have hcf : ∀ w (i : Int), (callFunc 212 #[.pointer (some ⟨x.d, 0, none⟩), .int .i64 i]).run Tryz.prog w = .ok (.enter 212 #[.pointer (some ⟨x.d, 0, none⟩), .int .i64 i]) w := fun w i => by kernel_rfl
  have hdn := dev_not x.d
  have hL : ((dm.lies.length : Nat) : Int) = (cnt : Int) + (n : Int) := by omega
  generalize hLL : dm.lies.length = L at *
  have HLL := Lib.hid hLL
  clear hLL
  have hd1 : decide ((4096 : Int) < (L : Int)) = false := by simp; omega
  have hd2 : decide ((cnt : Int) < 2) = false := by simp; omega
  have hd3 : decide ((L : Int) - (cnt : Int) < 2) = false := by simp; omega
  have hwl : IntKind.i64.wrap ((L : Int) - (cnt : Int)) = (L : Int) - (cnt : Int) := by rw [IntKind.wrap_i64]; omega
  have HL := Lib.hid hL
  clear hx hready hscan hf htop hblank hlay hn hlen hL
  go_enter Tryz.func12, Tryz.ntmps12
  go_wp2_with fail
  refine (dpages_ok x dm w HX.out).mono ?_
  rintro e w' ⟨rfl, rfl⟩
  rw [HLL.out]
  go_wp2_with fail
  have hS := heap_alloc_new w (.cells #[dev x.d, .int .i64 (cnt : Int), .pointer none, .int .u32 0, .int .u32 0, .int .u32 0, .int .u32 0, .int .u32 0, .int .u32 0, .int .u32 0, .int .u32 0, .int .u64 0, .int .u64 0, .bool false, .pointer none] 90)
  have k1 : Kept No w (w.alloc (.cells #[dev x.d, .int .i64 (cnt : Int), .pointer none, .int .u32 0, .int .u32 0, .int .u32 0, .int .u32 0, .int .u32 0, .int .u32 0, .int .u32 0, .int .u32 0, .int .u64 0, .int .u64 0, .bool false, .pointer none] 90)) := (Kept.refl _ _).alloc _
  generalize (w.alloc (.cells #[dev x.d, .int .i64 (cnt : Int), .pointer none, .int .u32 0, .int .u32 0, .int .u32 0, .int .u32 0, .int .u32 0, .int .u32 0, .int .u32 0, .int .u32 0, .int .u64 0, .int .u64 0, .bool false, .pointer none] 90)) = w1 at *
  generalize hSe : w.heap.size = S at *
  have HSE := Lib.hid hSe
  clear hSe
  have HX1 := Lib.hid (HX.out.kept k1 (fun _ _ h => h))
  refine (HSCAN.out w1 HX1.out).mono ?_
  rw [HF.out]
  rintro e w2 ⟨fv, rfl, k2, hpg, hfv⟩
  have HS2 := Lib.hid (k2.heap hS (fun h => h))
  have HX2 := Lib.hid (HX1.out.kept k2 (fun _ _ h => h))
  have K2 := Lib.hid (k1.trans k2)
  have hfv0 : ∃ a cap, fv = .slice a 0 cap := hpg.slice
  obtain ⟨fa, fc, rfl⟩ := hfv0
  clear hS k1 k2 hpg hfv HX1
  go_wp2_with fail
  have hF := heap_alloc_new w2 (.cells #[.int .u64 (top : Int), .bool false, .int .u64 0, .slice fa 0 fc] 100)
  have k3 : Kept No w2 (w2.alloc (.cells #[.int .u64 (top : Int), .bool false, .int .u64 0, .slice fa 0 fc] 100)) := (Kept.refl _ _).alloc _
  generalize w2.alloc (.cells #[.int .u64 (top : Int), .bool false, .int .u64 0, .slice fa 0 fc] 100) = w3 at *
  generalize w2.heap.size = FB at *
  refine (dread_ok x dm cnt w3 (HX2.out.kept k3 (fun _ _ h => h)) HRDY.out (by rw [HLL.out]; have := HN.out; omega)).mono ?_
  rintro e w4 ⟨b, rfl, k4, hb1, hb2⟩
  rw [HBL.out] at hb2
  have HB4 := Lib.hid hb2
  have HX4 := Lib.hid ((HX2.out.kept k3 (fun _ _ h => h)).kept k4 (fun _ _ h => h))
  have HS4 := Lib.hid (k4.heap (k3.heap HS2.out (fun h => h)) (fun h => h))
  have hF4 := k4.heap hF (fun h => h)
  have f1 := (cell_of_row w4 FB 1 _ _ _ hF4).trans rfl
  have K4 := Lib.hid ((K2.out.trans k3).trans k4)
  have hdt : decide ((4611686018427387904 : Int) ≤ (top : Int)) = false := by simp; omega
  have hwt : IntKind.u64.wrap ((top : Int) + 1) = (top : Int) + 1 := by rw [IntKind.wrap_u64]; omega
  clear hF k3 k4 hb1 hb2 hF4 HX2 HS2 K2 HX HSCAN HF HBL
  go_wp2_with fail
  refine (blank_ok b _ w4 HB4.out).mono ?_
  rintro e w' ⟨rfl, rfl⟩
  have hbb : (List.replicate 1024 (0 : UInt8) == List.replicate 1024 0) = true := by simp
  rw [hbb]
  clear hbb
  go_wp2_with fail
  rw [show ((top : Int) + 1) = ((top + 1 : Nat) : Int) from by omega, show ((L : Int) - (cnt : Int)) = (n : Int) from by have := HL.out; omega]
  have HSD : SdAt w4 S x.d cnt := ⟨⟨_, HS4.out, rfl, rfl⟩, ⟨hc, by have := HN.out; omega⟩⟩
  refine (layout_ok S cnt n (top + 1) x dm w4 HSD HX4.out hn2 (by have := HN.out; omega) (by omega) (by omega) (by rw [HLL.out]; have := HN.out; omega) hp).mono ?_
  rintro e w5 ⟨x5, lv, rfl, k5, hd5, hs5, hf5, hout⟩
  rw [HLAY.out] at hout ⊢
  unfold HeadOut at hout
  rw [if_neg (by decide)] at hout
  subst hout
  have HFIN := Lib.hid (And.intro ((K4.out.of_no x.foot).trans k5) (And.intro hd5 (And.intro hs5 (show ∀ g, x5.foot g → x.foot g ∨ w.heap.size ≤ g from fun g hg => (hf5 g hg).imp id (fun e => Nat.le_trans K4.out.size e)))))
  clear k5 hd5 hs5 hf5 HS4 HX4 HB4 f1 HSD K4
  go_wp2
  go_ret2
  obtain ⟨a1, a2, a3, a4⟩ := HFIN.out
  exact ⟨x5, rfl, a1, a2, a3, a4⟩
set_option maxHeartbeats 2000000 in
theorem open_none (x : DiskH) (dm : DiskM) (cnt n top hs mx : Nat) (h : HeldM) (w : World) (hx : DiskAt w x dm) (ho : dm.off = false) (hall : dm.lies.length ≤ 4096) (hc : 2 ≤ cnt) (hn : dm.lies.length = cnt + n) (hn2 : 2 ≤ n) (hp : dm.pend.length < 100000)
    (hf : batchM (views dm 0 cnt) 0 = none) (htop : topOf (views dm 0 cnt) = top) (hmxe : mx = max hs top) (htm : mx < 4611686018427387904) (hok : h.Ok) (hhn : h.n = n) (hdec : dec (dm.view cnt) 0 = .ok ⟨83, 0, hs, h.body⟩) :
    Calls Tryz.prog 12 #[dev x.d, .int .i64 (cnt : Int)] w fun e w' => ∃ (s u : Nat) (v : Value), e = .returned (.tuple #[.pointer (some ⟨s, 0, none⟩), .int .i64 0]) ∧ Kept No w w' ∧
      StAt w' s x.d u v (.pointer none) ⟨cnt, h, hs, mx + 1, false⟩ ∧ w.heap.size ≤ s ∧ w.heap.size ≤ u ∧ ∀ g, v.ownBlock = some g → w.heap.size ≤ g := by
  have HX := Lib.hid hx
  have hready : dm.ready (cnt : Int) = 0 := by
    unfold DiskM.ready
    rw [ho, if_neg (by simp), if_neg (by omega)]
  have HRDY := Lib.hid hready
  have hscan := scan_ok x dm 0 cnt
  have HSCAN := Lib.hid (fun w h => hscan w h (by omega) (by omega) ho)
  have HF := Lib.hid (show scanOf (views dm 0 cnt) 0 = ⟨top, false, 0, []⟩ from by unfold scanOf; rw [hf, htop])
  have hnb : (dm.view cnt == List.replicate 1024 0) = false := by
    rw [beq_eq_false_iff_ne]
    intro e
    rw [e, dec_zero] at hdec
    cases hdec
  have HBL := Lib.hid hnb
  have HOK := Lib.hid hok
  have HHN := Lib.hid hhn
  have HMX := Lib.hid hmxe
  have HDEC := Lib.hid hdec
  have HN := Lib.hid hn
  have hlen := hn
  have hts := types_373
  have hmp : ∀ w, (method 373 24 (.pointer (some ⟨x.d, 0, none⟩)) "Pages").run Tryz.prog w = .ok (211, .pointer (some ⟨x.d, 0, none⟩)) w := fun w => dev_method_pages x.d w
  have hcp : ∀ w, (callFunc 211 #[.pointer (some ⟨x.d, 0, none⟩)]).run Tryz.prog w = .ok (.enter 211 #[.pointer (some ⟨x.d, 0, none⟩)]) w := fun w => by kernel_rfl
  have hmt : ∀ w, (method 373 24 (.pointer (some ⟨x.d, 0, none⟩)) "Read").run Tryz.prog w = .ok (212, .pointer (some ⟨x.d, 0, none⟩)) w := fun w => dev_method_read x.d w
  have hcf : ∀ w (i : Int), (callFunc 212 #[.pointer (some ⟨x.d, 0, none⟩), .int .i64 i]).run Tryz.prog w = .ok (.enter 212 #[.pointer (some ⟨x.d, 0, none⟩), .int .i64 i]) w := fun w i => by kernel_rfl
  have hdn := dev_not x.d
  have hL : ((dm.lies.length : Nat) : Int) = (cnt : Int) + (n : Int) := by omega
  generalize hLL : dm.lies.length = L at *
  have HLL := Lib.hid hLL
  clear hLL
  have hd1 : decide ((4096 : Int) < (L : Int)) = false := by simp; omega
  have hd2 : decide ((cnt : Int) < 2) = false := by simp; omega
  have hd3 : decide ((L : Int) - (cnt : Int) < 2) = false := by simp; omega
  have hwl : IntKind.i64.wrap ((L : Int) - (cnt : Int)) = (L : Int) - (cnt : Int) := by rw [IntKind.wrap_i64]; omega
  have HL := Lib.hid hL
  clear hx hready hscan hf htop hnb hdec hn hlen hL hok hhn hmxe
  go_enter Tryz.func12, Tryz.ntmps12
  go_wp2_with fail
  refine (dpages_ok x dm w HX.out).mono ?_
  rintro e w' ⟨rfl, rfl⟩
  rw [HLL.out]
  go_wp2_with fail
  have hS := heap_alloc_new w (.cells #[dev x.d, .int .i64 (cnt : Int), .pointer none, .int .u32 0, .int .u32 0, .int .u32 0, .int .u32 0, .int .u32 0, .int .u32 0, .int .u32 0, .int .u32 0, .int .u64 0, .int .u64 0, .bool false, .pointer none] 90)
  have k1 : Kept No w (w.alloc (.cells #[dev x.d, .int .i64 (cnt : Int), .pointer none, .int .u32 0, .int .u32 0, .int .u32 0, .int .u32 0, .int .u32 0, .int .u32 0, .int .u32 0, .int .u32 0, .int .u64 0, .int .u64 0, .bool false, .pointer none] 90)) := (Kept.refl _ _).alloc _
  generalize (w.alloc (.cells #[dev x.d, .int .i64 (cnt : Int), .pointer none, .int .u32 0, .int .u32 0, .int .u32 0, .int .u32 0, .int .u32 0, .int .u32 0, .int .u32 0, .int .u32 0, .int .u64 0, .int .u64 0, .bool false, .pointer none] 90)) = w1 at *
  generalize hSe : w.heap.size = S at *
  have HSE := Lib.hid hSe
  clear hSe
  have HX1 := Lib.hid (HX.out.kept k1 (fun _ _ h => h))
  refine (HSCAN.out w1 HX1.out).mono ?_
  rw [HF.out]
  rintro e w2 ⟨fv, rfl, k2, hpg, hfv⟩
  have HS2 := Lib.hid (k2.heap hS (fun h => h))
  have HX2 := Lib.hid (HX1.out.kept k2 (fun _ _ h => h))
  have K2 := Lib.hid (k1.trans k2)
  have hfv0 : ∃ a cap, fv = .slice a 0 cap := hpg.slice
  obtain ⟨fa, fc, rfl⟩ := hfv0
  clear hS k1 k2 hpg hfv HX1
  go_wp2_with fail
  have hF := heap_alloc_new w2 (.cells #[.int .u64 (top : Int), .bool false, .int .u64 0, .slice fa 0 fc] 100)
  have k3 : Kept No w2 (w2.alloc (.cells #[.int .u64 (top : Int), .bool false, .int .u64 0, .slice fa 0 fc] 100)) := (Kept.refl _ _).alloc _
  generalize w2.alloc (.cells #[.int .u64 (top : Int), .bool false, .int .u64 0, .slice fa 0 fc] 100) = w3 at *
  generalize w2.heap.size = FB at *
  refine (dread_ok x dm cnt w3 (HX2.out.kept k3 (fun _ _ h => h)) HRDY.out (by rw [HLL.out]; have := HN.out; omega)).mono ?_
  rintro e w4 ⟨b, rfl, k4, hb1, hb2⟩
  have HB4 := Lib.hid hb2
  have HX4 := Lib.hid ((HX2.out.kept k3 (fun _ _ h => h)).kept k4 (fun _ _ h => h))
  have HS4 := Lib.hid (k4.heap (k3.heap HS2.out (fun h => h)) (fun h => h))
  have hF4 := k4.heap hF (fun h => h)
  have f1 := (cell_of_row w4 FB 1 _ _ _ hF4).trans rfl
  have K4 := Lib.hid ((K2.out.trans k3).trans k4)
  clear hF k3 k4 hb1 hb2 hF4 HX2 HS2 K2 HX HSCAN HF
  go_wp2_with fail
  refine (blank_ok b _ w4 HB4.out).mono ?_
  rintro e w' ⟨rfl, rfl⟩
  rw [HBL.out]
  go_wp2_with fail
  refine (decode_ok b _ 0 w4 HB4.out (by omega)).mono ?_
  rw [HDEC.out]
  rintro e w6 ⟨rfl, k6⟩
  have HS6 := Lib.hid (k6.heap HS4.out (fun h => h))
  have HX6 := Lib.hid (HX4.out.kept k6 (fun _ _ h => h))
  have K6 := Lib.hid (K4.out.next k6 (fun _ _ h => h.elim))
  simp only [decRow, decErr]
  unfold pageRow
  clear k6 HS4 HX4 K4 HB4
  have hmx : ∀ ts ty w, (Builtin.max_ ts ty #[.int .u64 (hs : Int), .int .u64 (top : Int)]).run Tryz.prog w = .ok (.int .u64 (mx : Int)) w := fun ts ty w => by
    rw [run_max_int2]
    have := HMX.out
    congr 2
    split <;> omega
  have hwt : IntKind.u64.wrap ((mx : Int) + 1) = (mx : Int) + 1 := by rw [IntKind.wrap_u64]; omega
  have hdm : decide ((4611686018427387904 : Int) ≤ (mx : Int)) = false := by simp; omega
  go_wp2_with (first
    | (refine wpList_store_new (by rfl) 28 (.tmp 15) (.tmp 110) (by rfl) w6 28 _ _ (by rfl) (by rfl) (by rfl) (by exact page_size) (by rfl) (by simp [Value.oneCell']) ?_))
  have hP := heap_alloc_new w6 (.cells #[.int .u8 83, .int .u32 0, .int .u64 (hs : Int), .string ⟨⟨h.body⟩⟩] 28)
  have k7 : Kept No w6 (w6.alloc (.cells #[.int .u8 83, .int .u32 0, .int .u64 (hs : Int), .string ⟨⟨h.body⟩⟩] 28)) := (Kept.refl _ _).alloc _
  have hw6 := K6.out.size
  generalize w6.alloc (.cells #[.int .u8 83, .int .u32 0, .int .u64 (hs : Int), .string ⟨⟨h.body⟩⟩] 28) = w7 at *
  generalize hPB : w6.heap.size = PB at *
  have HPB := Lib.hid hPB
  clear hPB
  rw [show ((L : Int) - (cnt : Int)) = (h.n : Int) from by have := HL.out; have := HHN.out; omega]
  have hright := rightH_ok h HOK.out 0 hs w7
  refine hright.mono ?_
  rintro e w8 ⟨u, uv, rfl, k8, hheld, hu1, hu2⟩
  have HS8 := Lib.hid (k8.heap (k7.heap HS6.out (fun h => h)) (fun h => h))
  have HX8 := Lib.hid ((HX6.out.kept k7 (fun _ _ h => h)).kept k8 (fun _ _ h => h))
  have K8 := Lib.hid ((K6.out.next k7 (fun _ _ h => h.elim)).next k8 (fun _ _ h => h.elim))
  have hP8 := k8.heap (by first | exact hP | exact hP) (fun h => h)
  have HP8 := Lib.hid hP8
  have HH8 := Lib.hid hheld
  have hsz7 := k7.size
  have HU1 := Lib.hid (show w.heap.size ≤ u by have := HSE.out; have := HPB.out; omega)
  have HU2 := Lib.hid (show ∀ g, uv.ownBlock = some g → w.heap.size ≤ g from fun g hg => by have := hu2 g hg; have := HSE.out; have := HPB.out; omega)
  clear k7 k8 hP hP8 hheld hu1 hu2 HS6 HX6 K6 hright
  go_wp2_with (refine wpList_store_new (by rfl) 88 (.tmp 16) (.tmp 127) (by rfl) w8 88 _ _ (by rfl) (by rfl) (by rfl) (by exact held_size) (by rfl) (by simp [Value.oneCell']) ?_)
  have hB9 := heap_alloc_new w8 (.cells #[.pointer (some ⟨u, 0, none⟩), .int .u32 (h.root.a : Int), .int .u32 (h.root.b : Int), .int .u32 (h.root.c : Int), .int .u32 (h.root.d : Int), .int .u32 (h.root.e : Int), .int .u32 (h.root.f : Int), .int .u32 (h.root.g : Int), .int .u32 (h.root.h : Int)] 88)
  have k9 : Kept No w8 (w8.alloc (.cells #[.pointer (some ⟨u, 0, none⟩), .int .u32 (h.root.a : Int), .int .u32 (h.root.b : Int), .int .u32 (h.root.c : Int), .int .u32 (h.root.d : Int), .int .u32 (h.root.e : Int), .int .u32 (h.root.f : Int), .int .u32 (h.root.g : Int), .int .u32 (h.root.h : Int)] 88)) := (Kept.refl _ _).alloc _
  generalize w8.alloc (.cells #[.pointer (some ⟨u, 0, none⟩), .int .u32 (h.root.a : Int), .int .u32 (h.root.b : Int), .int .u32 (h.root.c : Int), .int .u32 (h.root.d : Int), .int .u32 (h.root.e : Int), .int .u32 (h.root.f : Int), .int .u32 (h.root.g : Int), .int .u32 (h.root.h : Int)] 88) = w9 at *
  generalize w8.heap.size = HB at *
  have hS9 := k9.heap HS8.out (fun h => h)
  have hP9 := k9.heap HP8.out (fun h => h)
  have HX9 := Lib.hid (HX8.out.kept k9 (fun _ _ h => h))
  have HH9 := Lib.hid (HH8.out.kept k9 (fun h => h) (fun _ _ h => h))
  have K9 := Lib.hid (K8.out.next k9 (fun _ _ h => h.elim))
  have HS9 := Lib.hid hS9
  have sc2 := (cell_of_row w9 S 2 _ _ _ hS9).trans rfl
  have sf2 := frozen_of_row w9 S 2 _ _ hS9
  have sc3 := (cell_of_row w9 S 3 _ _ _ hS9).trans rfl
  have sf3 := frozen_of_row w9 S 3 _ _ hS9
  have sc4 := (cell_of_row w9 S 4 _ _ _ hS9).trans rfl
  have sf4 := frozen_of_row w9 S 4 _ _ hS9
  have sc5 := (cell_of_row w9 S 5 _ _ _ hS9).trans rfl
  have sf5 := frozen_of_row w9 S 5 _ _ hS9
  have sc6 := (cell_of_row w9 S 6 _ _ _ hS9).trans rfl
  have sf6 := frozen_of_row w9 S 6 _ _ hS9
  have sc7 := (cell_of_row w9 S 7 _ _ _ hS9).trans rfl
  have sf7 := frozen_of_row w9 S 7 _ _ hS9
  have sc8 := (cell_of_row w9 S 8 _ _ _ hS9).trans rfl
  have sf8 := frozen_of_row w9 S 8 _ _ hS9
  have sc9 := (cell_of_row w9 S 9 _ _ _ hS9).trans rfl
  have sf9 := frozen_of_row w9 S 9 _ _ hS9
  have sc10 := (cell_of_row w9 S 10 _ _ _ hS9).trans rfl
  have sf10 := frozen_of_row w9 S 10 _ _ hS9
  have sc11 := (cell_of_row w9 S 11 _ _ _ hS9).trans rfl
  have sf11 := frozen_of_row w9 S 11 _ _ hS9
  have sc12 := (cell_of_row w9 S 12 _ _ _ hS9).trans rfl
  have sf12 := frozen_of_row w9 S 12 _ _ hS9
  have bc0 := (cell_of_row w9 HB 0 _ _ _ hB9).trans rfl
  have bc1 := (cell_of_row w9 HB 1 _ _ _ hB9).trans rfl
  have bc2 := (cell_of_row w9 HB 2 _ _ _ hB9).trans rfl
  have bc3 := (cell_of_row w9 HB 3 _ _ _ hB9).trans rfl
  have bc4 := (cell_of_row w9 HB 4 _ _ _ hB9).trans rfl
  have bc5 := (cell_of_row w9 HB 5 _ _ _ hB9).trans rfl
  have bc6 := (cell_of_row w9 HB 6 _ _ _ hB9).trans rfl
  have bc7 := (cell_of_row w9 HB 7 _ _ _ hB9).trans rfl
  have bc8 := (cell_of_row w9 HB 8 _ _ _ hB9).trans rfl
  have pc2 := (cell_of_row w9 PB 2 _ _ _ hP9).trans rfl
  have hne1 : PB ≠ S := cells_ne hP9 hS9 (by decide)
  have hne2 : S ≠ PB := cells_ne hS9 hP9 (by decide)
  have hne3 : HB ≠ S := cells_ne hB9 hS9 (by decide)
  have hne4 : S ≠ HB := cells_ne hS9 hB9 (by decide)
  clear hB9 hS9 hP9 k9 HX8 HH8 K8 HS8 HP8
  go_region
  have kk := kept11 w9 S (.pointer (some ⟨u, 0, none⟩)) (.int .u32 (h.root.a : Int)) (.int .u32 (h.root.b : Int)) (.int .u32 (h.root.c : Int)) (.int .u32 (h.root.d : Int)) (.int .u32 (h.root.e : Int)) (.int .u32 (h.root.f : Int)) (.int .u32 (h.root.g : Int)) (.int .u32 (h.root.h : Int)) (.int .u64 (hs : Int)) (.int .u64 ((mx : Int) + 1))
  have hrow := set11 w9 S 90 _ _ _ _ _ _ _ _ _ _ _ _ _ _ _ (.pointer (some ⟨u, 0, none⟩)) (.int .u32 (h.root.a : Int)) (.int .u32 (h.root.b : Int)) (.int .u32 (h.root.c : Int)) (.int .u32 (h.root.d : Int)) (.int .u32 (h.root.e : Int)) (.int .u32 (h.root.f : Int)) (.int .u32 (h.root.g : Int)) (.int .u32 (h.root.h : Int)) (.int .u64 (hs : Int)) (.int .u64 ((mx : Int) + 1)) HS9.out
  generalize (((((((((((w9.setCell ⟨S, 2, none⟩ (.pointer (some ⟨u, 0, none⟩))).setCell ⟨S, 3, none⟩ (.int .u32 (h.root.a : Int))).setCell ⟨S, 4, none⟩ (.int .u32 (h.root.b : Int))).setCell ⟨S, 5, none⟩ (.int .u32 (h.root.c : Int))).setCell ⟨S, 6, none⟩ (.int .u32 (h.root.d : Int))).setCell ⟨S, 7, none⟩ (.int .u32 (h.root.e : Int))).setCell ⟨S, 8, none⟩ (.int .u32 (h.root.f : Int))).setCell ⟨S, 9, none⟩ (.int .u32 (h.root.g : Int))).setCell ⟨S, 10, none⟩ (.int .u32 (h.root.h : Int))).setCell ⟨S, 11, none⟩ (.int .u64 (hs : Int))).setCell ⟨S, 12, none⟩ (.int .u64 ((mx : Int) + 1))) = Y at kk hrow ⊢
  rw [show (mx : Int) + 1 = ((mx + 1 : Nat) : Int) from by omega] at hrow
  have HROW := Lib.hid hrow
  have KK := Lib.hid kk
  clear hrow kk sc2 sf2 sc3 sf3 sc4 sf4 sc5 sf5 sc6 sf6 sc7 sf7 sc8 sf8 sc9 sf9 sc10 sf10 sc11 sf11 sc12 sf12 bc0 bc1 bc2 bc3 bc4 bc5 bc6 bc7 bc8 pc2
  go_wp2
  go_ret2
  have hSE := HSE.out
  have kd : Kept No Y Y.drew := (Kept.refl _ _).drew
  have hu9 := HH9.out.set
  have huS : u ≠ S := cells_ne hu9.head HS9.out (by decide)
  have hvS : ∀ g, uv.ownBlock = some g → g ≠ S := fun g hg => by
    obtain ⟨cs, hc⟩ := row_cells hu9.row hg
    exact cells_ne hc HS9.out (by decide)
  refine ⟨S, u, uv, rfl, (K9.out.next KK.out (fun k hk e => absurd hk (by omega))).next kd (fun _ _ h => h.elim), ⟨HROW.out, (HH9.out.kept KK.out huS hvS).kept kd (fun h => h) (fun _ _ h => h), ⟨hc, by show cnt ≤ 4096; have := HN.out; omega⟩, ⟨by show hs < mx + 1; have := HMX.out; omega, by show mx + 1 ≤ 4611686018427387904; omega⟩, rfl⟩, by omega, HU1.out, HU2.out⟩
end Go.Proofs.YtabhieafjkaocaaGreat
