/- The walk of BitmapApart. -/
import Derived.Test.YtagbclijbeodaaaBmQ
namespace Go.Proofs.Ytagbclijbeodaaa
open Go.RowKit
set_option linter.unusedVariables false

set_option maxHeartbeats 2000000 in
set_option maxRecDepth 100000 in
theorem apart_walk (n : Int) (v1 : Value) (l : List Int) (v2 : Value) (m : List Int) (w : World) (hn : -9223372036854775808 ≤ n) (hn2 : n ≤ 9223372036854775807) (h1 : IntsAt w v1 l) (h2 : IntsAt w v2 m) :
    Calls Try.prog 5 #[.int .i64 n, v1, v2] w fun e w' => e = .returned (.bool true) ∧ Below w.heap.size w w' := by
  have hof := of_ok n v1 l w hn hn2 h1
  have hbd := fun W => bound_ok n W hn hn2
  have h0 : 0 ≤ n % 2001 := Int.emod_nonneg _ (by omega)
  have h3 : n % 2001 < 2001 := Int.emod_lt_of_pos _ (by omega)
  obtain ⟨N, hN⟩ := Int.eq_ofNat_of_zero_le h0
  have eN : (n % 2001).toNat = N := by rw [hN]; rfl
  rw [eN] at hof
  rw [hN] at hbd h3
  have ta := tidy_puts N l
  have hsa := told_size N (puts N l)
  have hfw := fw_told N _ ta
  have htop := tidy_top N _ ta
  have hml := h2.2.1
  obtain ⟨a2, c2, e2⟩ := h2.len
  subst e2
  generalize puts N l = A at *
  have HM := Lib.hid h2
  have HO := Lib.hid hof
  have HB := Lib.hid hbd
  have HS := Lib.hid hsa
  have HF := Lib.hid hfw
  have HT := Lib.hid htop
  clear hof hbd h1 h2 ta hsa hfw htop hN eN h0
  go_enter Try.func5, Try.ntmps5
  go_wp2_with fail
  refine HO.out.mono ?_
  rintro e w1 ⟨sa, va, rfl, k1, ma⟩
  go_wp2_with fail
  refine (copy_ok sa N va A w1 ma.1).mono ?_
  rintro e w2 ⟨sb, vb, rfl, k2, mb⟩
  have fab := far_made ma.1 (Nat.le_refl _) mb
  have xa := ma.1.no k2
  have ba := ma.2
  have bb : w.heap.size ≤ sb ∧ ∀ g, vb.ownBlock = some g → w.heap.size ≤ g := ⟨Nat.le_trans k1.size mb.2.1, fun g hg => Nat.le_trans k1.size (mb.2.2 g hg)⟩
  have xb := mb.1
  replace k2 := k1.trans k2
  clear k1 ma mb HO
  go_wp2_with fail
  refine (len_any sa N va A w2 xa).mono ?_
  rintro e w' ⟨rfl, rfl⟩
  go_wp2_with fail
  refine (told_ok sa N va A w2 xa).mono ?_
  rintro e w3 ⟨rfl, k3⟩
  replace xa := xa.no k3
  replace xb := xb.no k3
  replace k3 := k2.trans k3
  clear k2
  go_wp2_with fail
  refine (from_ok N (told N A) w3 (by omega) HS.out (by rw [HF.out]; exact HT.out)).mono ?_
  rintro e w4 ⟨sc, vc, rfl, k4, mc⟩
  rw [HF.out] at mc
  have fac := far_made xa (Nat.le_refl _) mc
  have fbc := far_made xb (Nat.le_refl _) mc
  have bc : w.heap.size ≤ sc ∧ ∀ g, vc.ownBlock = some g → w.heap.size ≤ g := ⟨Nat.le_trans k3.size mc.2.1, fun g hg => Nat.le_trans k3.size (mc.2.2 g hg)⟩
  have xc := mc.1
  replace xa := xa.no k4
  replace xb := xb.no k4
  replace k4 := k3.trans k4
  clear k3 mc
  go_wp2_with fail
  refine (len_any sa N va A w4 xa).mono ?_
  rintro e w' ⟨rfl, rfl⟩
  go_wp2_with fail
  refine (told_ok sa N va A w4 xa).mono ?_
  rintro e w5 ⟨rfl, k5⟩
  replace xa := xa.no k5
  replace xb := xb.no k5
  replace xc := xc.no k5
  replace k5 := k4.trans k5
  clear k4
  go_wp2_with fail
  refine (from_ok N (told N A) w5 (by omega) HS.out (by rw [HF.out]; exact HT.out)).mono ?_
  rintro e w6 ⟨sd, vd, rfl, k6, md⟩
  rw [HF.out] at md
  have fad := far_made xa (Nat.le_refl _) md
  have fbd := far_made xb (Nat.le_refl _) md
  have fcd := far_made xc (Nat.le_refl _) md
  have xd := md.1
  replace xa := xa.no k6
  replace xb := xb.no k6
  replace xc := xc.no k6
  replace k6 := k5.trans k6
  clear k5 md
  go_wp2_with fail
  refine (told_ok sa N va A w6 xa).mono ?_
  rintro e w7 ⟨rfl, k7⟩
  replace xa := xa.no k7
  replace xb := xb.no k7
  replace xc := xc.no k7
  replace xd := xd.no k7
  replace k7 := k6.trans k7
  clear k6
  have X : Hid (Kept No w w7 ∧ SetAt w7 sa N va A ∧ SetAt w7 sb N vb A ∧ SetAt w7 sc N vc A ∧ SetAt w7 sd N vd A) := ⟨k7, xa, xb, xc, xd⟩
  clear k7 xa xb xc xd
  go_wp2_with fail
  go_loopw [14] (fun i wr => ∃ k : Nat, k ≤ m.length ∧ i = .int .i64 k ∧ Kept No w wr ∧ ∃ A' B' C', SetAt wr sa N va A' ∧ SetAt wr sb N vb B' ∧ SetAt wr sc N vc C' ∧ SetAt wr sd N vd A) (fun i _ => m.length - (intOf i).toNat)
  case atStart => exact ⟨0, Nat.zero_le _, rfl, X.out.1, A, A, A, X.out.2⟩
  case round =>
    obtain ⟨k, hk, rfl, hkw, A', B', C', xa, xb, xc, xd⟩ := hrel
    clear X
    by_cases hgo : k < m.length ∧ 0 < N
    · obtain ⟨hlt, hN0⟩ := hgo
      obtain ⟨b2, off, cap, ev, hb2, hcs⟩ := (HM.out.kept hkw (fun _ _ h => h)).at (by omega)
      obtain ⟨rfl, rfl⟩ : a2 = some ⟨b2, off, none⟩ ∧ c2 = cap := by simpa using ev
      have hcell := hcs k hlt
      have hel := HM.out.elem hlt
      generalize hx : m.getD k 0 = x at *
      clear hx hcs ev hb2
      have hp0 : 0 ≤ x % (N : Int) := Int.emod_nonneg _ (by omega)
      have hp1 : x % (N : Int) < N := Int.emod_lt_of_pos _ (by omega)
      obtain ⟨y, hy⟩ := Int.eq_ofNat_of_zero_le hp0
      rw [hy] at hp1
      have hyN : y < N := by omega
      have hbel : ∀ q, Calls Try.prog 18 #[.int .i64 x, .int .i64 (N : Int)] (wr.drewN q) fun e w' => e = .returned (.int .i64 (y : Int)) ∧ wr.drewN q = w' := fun q => by
        have := below_ok x N (wr.drewN q) hel.1 hel.2 (by omega) (by omega)
        rw [hy] at this
        exact this
      have hlen := fun q => len_any sa N va A' (wr.drewN q) (xa.drewN q)
      have HLn := Lib.hid hlen
      have HBl := Lib.hid hbel
      clear hy hp0 hbel hlen
      go_wp2_with fail
      refine (len_any sa N va A' wr xa).mono ?_
      rintro e w' ⟨rfl, rfl⟩
      go_wp2_with fail
      go_quiet ((first | (go_at_call 8; exact quiet (HLn.out _)) | (go_at_call 18; exact quiet (HBl.out _))))
      replace hkw := hkw.drewN nq
      replace xa := xa.drewN nq
      replace xb := xb.drewN nq
      replace xc := xc.drewN nq
      replace xd := xd.drewN nq
      clear hcell HLn HBl
      generalize wr.drewN nq = wq at *
      have ty : y / 64 < A'.length := by rw [xa.size]; omega
      have ty' : y / 64 < B'.length := by rw [xb.size]; omega
      go_wp2_with fail
      refine (take_ok sa N va A' wq y xa hyN).mono ?_
      rintro e wt ⟨rfl, kt, xa⟩
      replace hkw := hkw.own kt (Nat.le_refl _) ba.2
      replace xb := xb.far kt fab.symm
      replace xc := xc.far kt fac.symm
      replace xd := xd.far kt fad.symm
      clear kt
      go_wp2_with fail
      refine (put_ok sb N vb B' wt y xb hyN).mono ?_
      rintro e wp ⟨rfl, kp, xb⟩
      replace hkw := hkw.own kp (Nat.le_refl _) bb.2
      replace xa := xa.far kp fab
      replace xc := xc.far kp fbc.symm
      replace xd := xd.far kp fbd.symm
      clear kp
      go_wp2_with fail
      refine (fill_ok sc N vc C' wp 0 y xc (Nat.zero_le _) (Nat.le_of_lt hyN)).mono ?_
      rintro e wf ⟨rfl, kf, xc⟩
      replace hkw := hkw.own kf (Nat.le_refl _) bc.2
      replace xa := xa.far kf fac
      replace xb := xb.far kf fbc
      replace xd := xd.far kf fcd.symm
      clear kf
      go_wp2_with fail
      refine (has_in sa N va _ wf y xa hyN).mono ?_
      rintro e w' ⟨rfl, rfl⟩
      rw [mem_take_self A' y ty]
      go_wp2_with fail
      refine (has_in sb N vb _ wf y xb hyN).mono ?_
      rintro e w' ⟨rfl, rfl⟩
      rw [mem_put_self B' y ty']
      go_wp2_with fail
      refine (told_ok sd N vd A wf xd).mono ?_
      rintro e w8 ⟨rfl, k8⟩
      replace xa := xa.no k8
      replace xb := xb.no k8
      replace xc := xc.no k8
      replace xd := xd.no k8
      replace hkw := hkw.trans k8
      clear k8
      go_wp2
      go_roundw
      case rel => exact ⟨k + 1, by omega, by go_num, hkw, _, _, _, xa, xb, xc, xd⟩
      case measure => simp [intOf]; omega
    · have hz : cnt (List.replicate ((N + 63) / 64) 0) = 0 := cnt_zero _
      have HZ := Lib.hid hz
      clear hz
      rcases Nat.lt_or_ge k m.length with hlt | hge
      focus
        have hgd : decide (0 < N) = false := by simp; omega
        clear hgo
        go_wp2_with fail
        refine (len_any sa N va A' wr xa).mono ?_
        rintro e w' ⟨rfl, rfl⟩
        go_wp2_with fail
      rotate_left
      focus
        clear hgo
        go_wp2_with fail
      all_goals
        refine (clear_ok sb N vb B' wr xb).mono ?_
        rintro e w8 ⟨rfl, k8, xb⟩
        replace hkw := hkw.own k8 (Nat.le_refl _) bb.2
        replace xc := xc.far k8 fbc.symm
        replace xd := xd.far k8 fbd.symm
        clear k8
        go_wp2_with fail
        refine (clear_ok sc N vc C' w8 xc).mono ?_
        rintro e w9 ⟨rfl, k9, xc⟩
        replace hkw := hkw.own k9 (Nat.le_refl _) bc.2
        replace xb := xb.far k9 fbc
        replace xd := xd.far k9 fcd.symm
        clear k9
        go_wp2_with fail
        refine (told_ok sd N vd A w9 xd).mono ?_
        rintro e w10 ⟨rfl, k10⟩
        replace xb := xb.no k10
        replace xc := xc.no k10
        replace hkw := hkw.trans k10
        clear k10
        go_wp2_with fail
        refine (count_ok sb N vb _ w10 xb).mono ?_
        rintro e w' ⟨rfl, rfl⟩
        rw [HZ.out]
        go_wp2_with fail
        refine (count_ok sc N vc _ w10 xc).mono ?_
        rintro e w' ⟨rfl, rfl⟩
        rw [HZ.out]
        go_wp2_with fail
        refine (same_ok sb sc N vb vc _ _ w10 xb xc).mono ?_
        rintro e w' ⟨rfl, q, rfl⟩
        replace xb := xb.drewN q
        replace hkw := hkw.drewN q
        generalize w10.drewN q = w11 at *
        rw [decide_eq_true (rfl : List.replicate ((N + 63) / 64) 0 = List.replicate ((N + 63) / 64) 0)]
        go_wp2_with fail
        refine (len_any sb N vb _ w11 xb).mono ?_
        rintro e w' ⟨rfl, rfl⟩
        go_wp2_with fail
        refine (HB.out w11).mono ?_
        rintro e w' ⟨rfl, rfl⟩
        go_wp2_with fail
        go_ret
        exact ⟨rfl, hkw.below (Nat.le_refl _) (fun _ _ h => h)⟩

end Go.Proofs.Ytagbclijbeodaaa
