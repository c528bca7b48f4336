/- The walk of BitmapLaws. -/
import Derived.Test.YtagbclijbeodaaaBmR
namespace Go.Proofs.Ytagbclijbeodaaa
open Go.RowKit
set_option linter.unusedVariables false

set_option maxHeartbeats 4000000 in
set_option maxRecDepth 100000 in
theorem laws_walk (n : Int) (v1 : Value) (l : List Int) (v2 : Value) (m : List Int) (w : World) (hn : -9223372036854775808 ≤ n) (hn2 : n ≤ 9223372036854775807) (h1 : IntsAt w v1 l) (h2 : IntsAt w v2 m) :
    Calls Try.prog 4 #[.int .i64 n, v1, v2] w fun e w' => e = .returned (.bool true) ∧ Below w.heap.size w w' := by
  have hbd := fun W => bound_ok n W hn hn2
  have h0 : 0 ≤ n % 2001 := Int.emod_nonneg _ (by omega)
  have h3 : n % 2001 < 2001 := Int.emod_lt_of_pos _ (by omega)
  have H1 : Hid (∀ W, Kept No w W → Calls Try.prog 6 #[.int .i64 n, v1] W _) := fun W hk => of_ok n v1 l W hn hn2 (h1.kept hk (fun _ _ h => h))
  have H2 : Hid (∀ W, Kept No w W → Calls Try.prog 6 #[.int .i64 n, v2] W _) := fun W hk => of_ok n v2 m W hn hn2 (h2.kept hk (fun _ _ h => h))
  obtain ⟨N, hN⟩ := Int.eq_ofNat_of_zero_le h0
  have eN : (n % 2001).toNat = N := by rw [hN]; rfl
  rw [eN] at H1 H2
  rw [hN] at hbd h3
  have H3 : Hid (∀ W, Kept No w W → Calls Try.prog 6 #[.int .i64 ((N : Int) + 1), v2] W _) := fun W hk => of_ok ((N : Int) + 1) v2 m W (by omega) (by omega) (h2.kept hk (fun _ _ h => h))
  have ta := tidy_puts N l
  have tb' := tidy_puts N m
  have hO := fun i => hasB_or ta tb' i
  have hA := fun i => hasB_and ta tb' i
  have hM := fun i => hasB_minus ta tb' i
  have s1 := sum_or_and ta tb'
  have s2 := sum_minus_and ta tb'
  have c0 := minus_self ta
  have o0 := or_self' (puts N l)
  have a0 := and_self' (puts N l)
  have lA := ta.size
  have lB := tb'.size
  have nN := succ_mod N (by omega)
  generalize puts N l = A at *
  generalize puts N m = B at *
  generalize hq : puts (((N : Int) + 1) % 2001).toNat m = C at H3
  clear hq
  have kA := cnt_le A
  have kB := cnt_le B
  have kO := cnt_le (OrW A B)
  have kN := cnt_le (AndW A B)
  have kM := cnt_le (MinusW A B)
  rw [OrW_length] at kO
  rw [AndW_length] at kN
  rw [MinusW_length] at kM
  have S : Hid ((∀ i, hasB N (OrW A B) i = (hasB N A i || hasB N B i)) ∧ (∀ i, hasB N (AndW A B) i = (hasB N A i && hasB N B i)) ∧ (∀ i, hasB N (MinusW A B) i = (hasB N A i && !hasB N B i))) := ⟨hO, hA, hM⟩
  have S2 : Hid (cnt (OrW A B) + cnt (AndW A B) = cnt A + cnt B ∧ cnt (MinusW A B) + cnt (AndW A B) = cnt A ∧ cnt (MinusW A A) = 0 ∧ OrW A A = A ∧ AndW A A = A) := ⟨s1, s2, c0, o0, a0⟩
  have S3 : Hid (cnt A ≤ 4096 ∧ cnt B ≤ 4096 ∧ cnt (OrW A B) ≤ 4096 ∧ cnt (AndW A B) ≤ 4096 ∧ cnt (MinusW A B) ≤ 4096) := ⟨by omega, by omega, by omega, by omega, by omega⟩
  have S4 : Hid ((((N : Int) + 1) % 2001).toNat ≠ N) := nN
  have HB := Lib.hid hbd
  clear hbd h1 h2 ta tb' hO hA hM s1 s2 c0 o0 a0 lA lB nN kA kB kO kN kM hN eN h0
  go_enter Try.func4, Try.ntmps4
  have hk : Kept No w w := Kept.refl _ _
  go_wp2_with fail
  refine (H1.out w hk).mono ?_
  rintro e w1 ⟨sa, va, rfl, kk, mk⟩
  have ba : w.heap.size ≤ sa ∧ ∀ g, va.ownBlock = some g → w.heap.size ≤ g := ⟨Nat.le_trans hk.size mk.2.1, fun g hg => Nat.le_trans hk.size (mk.2.2 g hg)⟩
  have xa := mk.1
  replace hk := hk.trans kk
  clear kk mk
  go_wp2_with fail
  refine (H2.out w1 hk).mono ?_
  rintro e w2 ⟨sb, vb, rfl, kk, mk⟩
  have bb : w.heap.size ≤ sb ∧ ∀ g, vb.ownBlock = some g → w.heap.size ≤ g := ⟨Nat.le_trans hk.size mk.2.1, fun g hg => Nat.le_trans hk.size (mk.2.2 g hg)⟩
  have fab := far_made xa (Nat.le_refl _) mk
  replace xa := xa.no kk
  have xb := mk.1
  replace hk := hk.trans kk
  clear kk mk
  go_wp2_with fail
  refine (copy_ok sa N va A w2 xa).mono ?_
  rintro e w3 ⟨so, vo, rfl, kk, mk⟩
  have bo : w.heap.size ≤ so ∧ ∀ g, vo.ownBlock = some g → w.heap.size ≤ g := ⟨Nat.le_trans hk.size mk.2.1, fun g hg => Nat.le_trans hk.size (mk.2.2 g hg)⟩
  have fao := far_made xa (Nat.le_refl _) mk
  replace xa := xa.no kk
  have fbo := far_made xb (Nat.le_refl _) mk
  replace xb := xb.no kk
  have xo := mk.1
  replace hk := hk.trans kk
  clear kk mk
  go_wp2_with fail
  refine (copy_ok sa N va A w3 xa).mono ?_
  rintro e w4 ⟨sg, vg, rfl, kk, mk⟩
  have bg : w.heap.size ≤ sg ∧ ∀ g, vg.ownBlock = some g → w.heap.size ≤ g := ⟨Nat.le_trans hk.size mk.2.1, fun g hg => Nat.le_trans hk.size (mk.2.2 g hg)⟩
  have fag := far_made xa (Nat.le_refl _) mk
  replace xa := xa.no kk
  have fbg := far_made xb (Nat.le_refl _) mk
  replace xb := xb.no kk
  have fog := far_made xo (Nat.le_refl _) mk
  replace xo := xo.no kk
  have xg := mk.1
  replace hk := hk.trans kk
  clear kk mk
  go_wp2_with fail
  refine (copy_ok sa N va A w4 xa).mono ?_
  rintro e w5 ⟨sm, vm, rfl, kk, mk⟩
  have bm : w.heap.size ≤ sm ∧ ∀ g, vm.ownBlock = some g → w.heap.size ≤ g := ⟨Nat.le_trans hk.size mk.2.1, fun g hg => Nat.le_trans hk.size (mk.2.2 g hg)⟩
  have fam := far_made xa (Nat.le_refl _) mk
  replace xa := xa.no kk
  have fbm := far_made xb (Nat.le_refl _) mk
  replace xb := xb.no kk
  have fom := far_made xo (Nat.le_refl _) mk
  replace xo := xo.no kk
  have fgm := far_made xg (Nat.le_refl _) mk
  replace xg := xg.no kk
  have xm := mk.1
  replace hk := hk.trans kk
  clear kk mk
  go_wp2_with fail
  refine (or_ok so sb N vo vb A B w5 ⟨xo, xb, .inl ⟨fbo.symm.left, fun g e1 e2 => fbo.symm.rows g e2 e1⟩⟩).mono ?_
  rintro e w6 ⟨rfl, kk, xo⟩
  replace hk := hk.own kk (Nat.le_refl _) bo.2
  replace xa := xa.far kk fao
  replace xb := xb.far kk fbo
  replace xg := xg.far kk fog.symm
  replace xm := xm.far kk fom.symm
  clear kk
  go_wp2_with fail
  refine (and_ok sg sb N vg vb A B w6 ⟨xg, xb, .inl ⟨fbg.symm.left, fun g e1 e2 => fbg.symm.rows g e2 e1⟩⟩).mono ?_
  rintro e w7 ⟨rfl, kk, xg⟩
  replace hk := hk.own kk (Nat.le_refl _) bg.2
  replace xa := xa.far kk fag
  replace xb := xb.far kk fbg
  replace xo := xo.far kk fog
  replace xm := xm.far kk fgm.symm
  clear kk
  go_wp2_with fail
  refine (minus_ok sm sb N vm vb A B w7 ⟨xm, xb, .inl ⟨fbm.symm.left, fun g e1 e2 => fbm.symm.rows g e2 e1⟩⟩).mono ?_
  rintro e w8 ⟨rfl, kk, xm⟩
  replace hk := hk.own kk (Nat.le_refl _) bm.2
  replace xa := xa.far kk fam
  replace xb := xb.far kk fbm
  replace xo := xo.far kk fom
  replace xg := xg.far kk fgm
  clear kk
  go_wp2_with fail
  go_loop [12] (fun i => ∃ k : Int, -1 ≤ k ∧ k ≤ N + 1 ∧ i = .int .i64 k) (fun i => ((N : Int) + 1 - intOf i).toNat)
  case atStart => exact ⟨-1, by omega, by omega, rfl⟩
  case round =>
    obtain ⟨k, hk1, hk2, rfl⟩ := hrel
    by_cases hlt : k ≤ N
    · go_wp2_with fail
      refine (HB.out w8).mono ?_
      rintro e w' ⟨rfl, rfl⟩
      go_wp2_with fail
      refine (has_any sa N va A w8 k xa).mono ?_
      rintro e w' ⟨rfl, rfl⟩
      generalize hp : hasB N A k = p
      have HP := Lib.hid hp
      clear hp
      go_wp2_with fail
      refine (has_any sb N vb B w8 k xb).mono ?_
      rintro e w' ⟨rfl, rfl⟩
      generalize hq : hasB N B k = q
      have HQ := Lib.hid hq
      clear hq
      go_wp2_with fail
      refine (has_any so N vo (OrW A B) w8 k xo).mono ?_
      rintro e w' ⟨rfl, rfl⟩
      rw [S.out.1, HP.out, HQ.out]
      cases p <;> cases q
      all_goals
        go_wp2_with fail
        refine (has_any sg N vg (AndW A B) w8 k xg).mono ?_
        rintro e w' ⟨rfl, rfl⟩
        rw [S.out.2.1, HP.out, HQ.out]
        go_wp2_with fail
        refine (has_any sm N vm (MinusW A B) w8 k xm).mono ?_
        rintro e w' ⟨rfl, rfl⟩
        rw [S.out.2.2, HP.out, HQ.out]
        go_wp2_with fail
        go_round
        case rel => exact ⟨k + 1, by omega, by omega, by go_num⟩
        case measure => simp [intOf]; omega
    · obtain rfl : k = N + 1 := by omega
      go_wp2_with fail
      refine (HB.out w8).mono ?_
      rintro e w' ⟨rfl, rfl⟩
      go_wp2_with fail
      refine (copy_ok sa N va A w8 xa).mono ?_
      rintro e w9 ⟨sz, vz, rfl, kk, mk⟩
      have bz : w.heap.size ≤ sz ∧ ∀ g, vz.ownBlock = some g → w.heap.size ≤ g := ⟨Nat.le_trans hk.size mk.2.1, fun g hg => Nat.le_trans hk.size (mk.2.2 g hg)⟩
      have faz := far_made xa (Nat.le_refl _) mk
      replace xa := xa.no kk
      have fbz := far_made xb (Nat.le_refl _) mk
      replace xb := xb.no kk
      have foz := far_made xo (Nat.le_refl _) mk
      replace xo := xo.no kk
      have fgz := far_made xg (Nat.le_refl _) mk
      replace xg := xg.no kk
      have fmz := far_made xm (Nat.le_refl _) mk
      replace xm := xm.no kk
      have xz := mk.1
      replace hk := hk.trans kk
      clear kk mk
      obtain ⟨q1, q2, q3, q4, q5⟩ := S3.out
      obtain ⟨r1, r2, r3, r4, r5⟩ := S2.out
      have R3 := Lib.hid r3
      have R4 := Lib.hid r4
      have R5 := Lib.hid r5
      generalize hco : cnt (OrW A B) = co at *
      generalize hcg : cnt (AndW A B) = cg at *
      generalize hcm : cnt (MinusW A B) = cm at *
      generalize hca : cnt A = ca at *
      generalize hcb : cnt B = cb at *
      have X1 : co + cg ≤ ca + cb := by omega
      have X2 : ca + cb ≤ co + cg := by omega
      have X3 : cm + cg ≤ ca := by omega
      have X4 : ca ≤ cm + cg := by omega
      have CO := Lib.hid hco
      have CG := Lib.hid hcg
      have CM := Lib.hid hcm
      have CA := Lib.hid hca
      have CB := Lib.hid hcb
      clear hco hcg hcm hca hcb r1 r2 r3 r4 r5
      go_wp2_with fail
      refine (count_ok so N vo _ w9 xo).mono ?_
      rintro e w' ⟨rfl, rfl⟩
      rw [CO.out]
      go_wp2_with fail
      refine (count_ok sg N vg _ w9 xg).mono ?_
      rintro e w' ⟨rfl, rfl⟩
      rw [CG.out]
      go_wp2_with fail
      refine (count_ok sa N va _ w9 xa).mono ?_
      rintro e w' ⟨rfl, rfl⟩
      rw [CA.out]
      go_wp2_with fail
      refine (count_ok sb N vb _ w9 xb).mono ?_
      rintro e w' ⟨rfl, rfl⟩
      rw [CB.out]
      go_wp2_with fail
      refine (count_ok sm N vm _ w9 xm).mono ?_
      rintro e w' ⟨rfl, rfl⟩
      rw [CM.out]
      go_wp2_with fail
      refine (count_ok sg N vg _ w9 xg).mono ?_
      rintro e w' ⟨rfl, rfl⟩
      rw [CG.out]
      go_wp2_with fail
      refine (count_ok sa N va _ w9 xa).mono ?_
      rintro e w' ⟨rfl, rfl⟩
      rw [CA.out]
      go_wp2_with fail
      refine (H2.out w9 hk).mono ?_
      rintro e w10 ⟨sx1, vx1, rfl, kk, mk⟩
      have bx1 : w.heap.size ≤ sx1 ∧ ∀ g, vx1.ownBlock = some g → w.heap.size ≤ g := ⟨Nat.le_trans hk.size mk.2.1, fun g hg => Nat.le_trans hk.size (mk.2.2 g hg)⟩
      have fax1 := far_made xa (Nat.le_refl _) mk
      replace xa := xa.no kk
      have fbx1 := far_made xb (Nat.le_refl _) mk
      replace xb := xb.no kk
      have fox1 := far_made xo (Nat.le_refl _) mk
      replace xo := xo.no kk
      have fgx1 := far_made xg (Nat.le_refl _) mk
      replace xg := xg.no kk
      have fmx1 := far_made xm (Nat.le_refl _) mk
      replace xm := xm.no kk
      have fzx1 := far_made xz (Nat.le_refl _) mk
      replace xz := xz.no kk
      have xx1 := mk.1
      replace hk := hk.trans kk
      clear kk mk
      clear X1 X2 X3 X4
      go_wp2_with fail
      refine (same_ok sb sx1 N vb vx1 _ _ w10 xb xx1).mono ?_
      rintro e w' ⟨rfl, q, rfl⟩
      replace xa := xa.drewN q
      replace xb := xb.drewN q
      replace xo := xo.drewN q
      replace xg := xg.drewN q
      replace xm := xm.drewN q
      replace xz := xz.drewN q
      replace xx1 := xx1.drewN q
      replace hk := hk.drewN q
      generalize w10.drewN q = w11 at *
      rw [decide_eq_true (rfl : B = B)]
      go_wp2_with fail
      refine (H1.out w11 hk).mono ?_
      rintro e w12 ⟨sx2, vx2, rfl, kk, mk⟩
      have bx2 : w.heap.size ≤ sx2 ∧ ∀ g, vx2.ownBlock = some g → w.heap.size ≤ g := ⟨Nat.le_trans hk.size mk.2.1, fun g hg => Nat.le_trans hk.size (mk.2.2 g hg)⟩
      have fax2 := far_made xa (Nat.le_refl _) mk
      replace xa := xa.no kk
      have fbx2 := far_made xb (Nat.le_refl _) mk
      replace xb := xb.no kk
      have fox2 := far_made xo (Nat.le_refl _) mk
      replace xo := xo.no kk
      have fgx2 := far_made xg (Nat.le_refl _) mk
      replace xg := xg.no kk
      have fmx2 := far_made xm (Nat.le_refl _) mk
      replace xm := xm.no kk
      have fzx2 := far_made xz (Nat.le_refl _) mk
      replace xz := xz.no kk
      have fx1x2 := far_made xx1 (Nat.le_refl _) mk
      replace xx1 := xx1.no kk
      have xx2 := mk.1
      replace hk := hk.trans kk
      clear kk mk
      go_wp2_with fail
      refine (same_ok sa sx2 N va vx2 _ _ w12 xa xx2).mono ?_
      rintro e w' ⟨rfl, q, rfl⟩
      replace xa := xa.drewN q
      replace xb := xb.drewN q
      replace xo := xo.drewN q
      replace xg := xg.drewN q
      replace xm := xm.drewN q
      replace xz := xz.drewN q
      replace xx1 := xx1.drewN q
      replace xx2 := xx2.drewN q
      replace hk := hk.drewN q
      generalize w12.drewN q = w13 at *
      rw [decide_eq_true (rfl : A = A)]
      go_wp2_with fail
      refine (or_ok sz sz N vz vz A A w13 ⟨xz, xz, .inr ⟨rfl, rfl, rfl⟩⟩).mono ?_
      rintro e w14 ⟨rfl, kk, xz⟩
      replace hk := hk.own kk (Nat.le_refl _) bz.2
      replace xa := xa.far kk faz
      replace xb := xb.far kk fbz
      replace xo := xo.far kk foz
      replace xg := xg.far kk fgz
      replace xm := xm.far kk fmz
      replace xx1 := xx1.far kk fzx1.symm
      replace xx2 := xx2.far kk fzx2.symm
      clear kk
      rw [R4.out] at xz
      go_wp2_with fail
      refine (same_ok sz sa N vz va _ _ w14 xz xa).mono ?_
      rintro e w' ⟨rfl, q, rfl⟩
      replace xa := xa.drewN q
      replace xb := xb.drewN q
      replace xo := xo.drewN q
      replace xg := xg.drewN q
      replace xm := xm.drewN q
      replace xz := xz.drewN q
      replace xx1 := xx1.drewN q
      replace xx2 := xx2.drewN q
      replace hk := hk.drewN q
      generalize w14.drewN q = w15 at *
      rw [decide_eq_true (rfl : A = A)]
      go_wp2_with fail
      refine (and_ok sz sz N vz vz A A w15 ⟨xz, xz, .inr ⟨rfl, rfl, rfl⟩⟩).mono ?_
      rintro e w16 ⟨rfl, kk, xz⟩
      replace hk := hk.own kk (Nat.le_refl _) bz.2
      replace xa := xa.far kk faz
      replace xb := xb.far kk fbz
      replace xo := xo.far kk foz
      replace xg := xg.far kk fgz
      replace xm := xm.far kk fmz
      replace xx1 := xx1.far kk fzx1.symm
      replace xx2 := xx2.far kk fzx2.symm
      clear kk
      rw [R5.out] at xz
      go_wp2_with fail
      refine (same_ok sz sa N vz va _ _ w16 xz xa).mono ?_
      rintro e w' ⟨rfl, q, rfl⟩
      replace xa := xa.drewN q
      replace xb := xb.drewN q
      replace xo := xo.drewN q
      replace xg := xg.drewN q
      replace xm := xm.drewN q
      replace xz := xz.drewN q
      replace xx1 := xx1.drewN q
      replace xx2 := xx2.drewN q
      replace hk := hk.drewN q
      generalize w16.drewN q = w17 at *
      rw [decide_eq_true (rfl : A = A)]
      go_wp2_with fail
      refine (minus_ok sz sz N vz vz A A w17 ⟨xz, xz, .inr ⟨rfl, rfl, rfl⟩⟩).mono ?_
      rintro e w18 ⟨rfl, kk, xz⟩
      replace hk := hk.own kk (Nat.le_refl _) bz.2
      replace xa := xa.far kk faz
      replace xb := xb.far kk fbz
      replace xo := xo.far kk foz
      replace xg := xg.far kk fgz
      replace xm := xm.far kk fmz
      replace xx1 := xx1.far kk fzx1.symm
      replace xx2 := xx2.far kk fzx2.symm
      clear kk
      go_wp2_with fail
      refine (count_ok sz N vz _ w18 xz).mono ?_
      rintro e w' ⟨rfl, rfl⟩
      rw [R3.out]
      go_wp2_with fail
      refine (HB.out w18).mono ?_
      rintro e w' ⟨rfl, rfl⟩
      go_wp2_with fail
      refine (H3.out w18 hk).mono ?_
      rintro e w19 ⟨su, vu, rfl, kk, mk⟩
      have bu : w.heap.size ≤ su ∧ ∀ g, vu.ownBlock = some g → w.heap.size ≤ g := ⟨Nat.le_trans hk.size mk.2.1, fun g hg => Nat.le_trans hk.size (mk.2.2 g hg)⟩
      have fau := far_made xa (Nat.le_refl _) mk
      replace xa := xa.no kk
      have fbu := far_made xb (Nat.le_refl _) mk
      replace xb := xb.no kk
      have fou := far_made xo (Nat.le_refl _) mk
      replace xo := xo.no kk
      have fgu := far_made xg (Nat.le_refl _) mk
      replace xg := xg.no kk
      have fmu := far_made xm (Nat.le_refl _) mk
      replace xm := xm.no kk
      have fzu := far_made xz (Nat.le_refl _) mk
      replace xz := xz.no kk
      have fx1u := far_made xx1 (Nat.le_refl _) mk
      replace xx1 := xx1.no kk
      have fx2u := far_made xx2 (Nat.le_refl _) mk
      replace xx2 := xx2.no kk
      have xu := mk.1
      replace hk := hk.trans kk
      clear kk mk
      go_wp2_with fail
      refine (or_arg sa su N _ w19 (fun e => S4.out e.symm) xa.n_cell xu.n_cell).mono ?_
      rintro e w' ⟨rfl, q, rfl⟩
      replace xa := xa.drewN q
      replace xb := xb.drewN q
      replace xo := xo.drewN q
      replace xg := xg.drewN q
      replace xm := xm.drewN q
      replace xz := xz.drewN q
      replace xx1 := xx1.drewN q
      replace xx2 := xx2.drewN q
      replace xu := xu.drewN q
      replace hk := hk.drewN q
      generalize w19.drewN q = w20 at *
      go_wp2_with fail
      refine (and_arg sa su N _ w20 (fun e => S4.out e.symm) xa.n_cell xu.n_cell).mono ?_
      rintro e w' ⟨rfl, q, rfl⟩
      replace xa := xa.drewN q
      replace xb := xb.drewN q
      replace xo := xo.drewN q
      replace xg := xg.drewN q
      replace xm := xm.drewN q
      replace xz := xz.drewN q
      replace xx1 := xx1.drewN q
      replace xx2 := xx2.drewN q
      replace xu := xu.drewN q
      replace hk := hk.drewN q
      generalize w20.drewN q = w21 at *
      go_wp2_with fail
      refine (minus_arg sa su N _ w21 (fun e => S4.out e.symm) xa.n_cell xu.n_cell).mono ?_
      rintro e w' ⟨rfl, q, rfl⟩
      replace xa := xa.drewN q
      replace xb := xb.drewN q
      replace xo := xo.drewN q
      replace xg := xg.drewN q
      replace xm := xm.drewN q
      replace xz := xz.drewN q
      replace xx1 := xx1.drewN q
      replace xx2 := xx2.drewN q
      replace xu := xu.drewN q
      replace hk := hk.drewN q
      generalize w21.drewN q = w22 at *
      go_wp2_with fail
      refine (or_nil sa w22).mono ?_
      rintro e w' ⟨rfl, rfl⟩
      go_wp2_with fail
      refine (H1.out w22 hk).mono ?_
      rintro e w23 ⟨sx3, vx3, rfl, kk, mk⟩
      have bx3 : w.heap.size ≤ sx3 ∧ ∀ g, vx3.ownBlock = some g → w.heap.size ≤ g := ⟨Nat.le_trans hk.size mk.2.1, fun g hg => Nat.le_trans hk.size (mk.2.2 g hg)⟩
      have fax3 := far_made xa (Nat.le_refl _) mk
      replace xa := xa.no kk
      have fbx3 := far_made xb (Nat.le_refl _) mk
      replace xb := xb.no kk
      have fox3 := far_made xo (Nat.le_refl _) mk
      replace xo := xo.no kk
      have fgx3 := far_made xg (Nat.le_refl _) mk
      replace xg := xg.no kk
      have fmx3 := far_made xm (Nat.le_refl _) mk
      replace xm := xm.no kk
      have fzx3 := far_made xz (Nat.le_refl _) mk
      replace xz := xz.no kk
      have fx1x3 := far_made xx1 (Nat.le_refl _) mk
      replace xx1 := xx1.no kk
      have fx2x3 := far_made xx2 (Nat.le_refl _) mk
      replace xx2 := xx2.no kk
      have fux3 := far_made xu (Nat.le_refl _) mk
      replace xu := xu.no kk
      have xx3 := mk.1
      replace hk := hk.trans kk
      clear kk mk
      go_wp2_with fail
      refine (same_ok sa sx3 N va vx3 _ _ w23 xa xx3).mono ?_
      rintro e w' ⟨rfl, q, rfl⟩
      replace xa := xa.drewN q
      replace xb := xb.drewN q
      replace xo := xo.drewN q
      replace xg := xg.drewN q
      replace xm := xm.drewN q
      replace xz := xz.drewN q
      replace xx1 := xx1.drewN q
      replace xx2 := xx2.drewN q
      replace xu := xu.drewN q
      replace xx3 := xx3.drewN q
      replace hk := hk.drewN q
      generalize w23.drewN q = w24 at *
      rw [decide_eq_true (rfl : A = A)]
      go_wp2_with fail
      refine (len_any su _ vu C w24 xu).mono ?_
      rintro e w' ⟨rfl, rfl⟩
      go_wp2_with fail
      refine (HB.out w24).mono ?_
      rintro e w' ⟨rfl, rfl⟩
      go_wp2
      go_ret
      have hend : (max (((N : Int) + 1) % 2001) 0 == ((N : Int) + 1) % 2001) = true := by rw [beq_iff_eq]; omega
      refine ⟨?_, hk.below (Nat.le_refl _) (fun _ _ h => h)⟩
      show Ending.returned (.bool (max (((N : Int) + 1) % 2001) 0 == ((N : Int) + 1) % 2001)) = _
      rw [hend]

end Go.Proofs.Ytagbclijbeodaaa
