/- The walk of BitmapBack. -/
import Derived.Test.YtagbclijbeodaaaBmP
import Derived.Test.YtagbclijbeodaaaBmF
namespace Go.Proofs.Ytagbclijbeodaaa
open Go.RowKit
set_option linter.unusedVariables false

theorem MadeSet.kept {B : Nat} {w w' : World} {s n : Nat} {v : Value} {ws : List Nat} (h : MadeSet B w s n v ws) (k : Kept No w w') : MadeSet B w' s n v ws :=
  ⟨h.1.kept k (fun x => x) (fun _ _ x => x), h.2⟩

theorem push_size (b : ByteArray) (z : UInt8) : (b ++ ⟨#[z]⟩).size = b.size + 1 := by simp [ByteArray.size_append]; rfl

set_option maxRecDepth 100000 in
set_option maxHeartbeats 400000 in
theorem back_walk (n : Int) (v1 : Value) (l : List Int) (v2 : Value) (m : List Int) (w : World) (hn : -9223372036854775808 ≤ n) (hn2 : n ≤ 9223372036854775807) (h1 : IntsAt w v1 l) (h2 : IntsAt w v2 m) :
    Calls Try.prog 3 #[.int .i64 n, v1, v2] w fun e w' => e = .returned (.bool true) ∧ Below w.heap.size w w' := by
  have hof := of_ok n v1 l w hn hn2 h1
  have hbd := fun W => bound_ok n W hn hn2
  have h0 : 0 ≤ n % 2001 := Int.emod_nonneg _ (by omega)
  have h3 : n % 2001 < 2001 := Int.emod_lt_of_pos _ (by omega)
  have H2 : Hid (∀ W, Kept No w W → Calls Try.prog 6 #[.int .i64 n, v2] W _) := fun W hk => of_ok n v2 m W hn hn2 (h2.kept hk (fun _ _ h => h))
  obtain ⟨N, hN⟩ := Int.eq_ofNat_of_zero_le h0
  have eN : (n % 2001).toNat = N := by rw [hN]; rfl
  rw [eN] at hof H2
  rw [hN] at hbd h3
  have HO := Lib.hid hof
  have HB := Lib.hid hbd
  have ta := tidy_puts N l
  have tb' := tidy_puts N m
  have hinj := told_inj N _ _ ta tb'
  have hsa := told_size N (puts N l)
  have hfw := fw_told N _ ta
  have htop := tidy_top N _ ta
  generalize puts N l = A at *
  generalize puts N m = B at *
  have HI := Lib.hid hinj
  have HS := Lib.hid hsa
  have HF := Lib.hid hfw
  have HT := Lib.hid htop
  clear hof hbd h1 h2 ta tb' hinj hsa hfw htop hN eN h0
  go_enter Try.func3, Try.ntmps3
  go_wp2_with fail
  refine HO.out.mono ?_
  rintro e w1 ⟨sa, va, rfl, k1, ma⟩
  go_wp2_with fail
  refine (H2.out w1 k1).mono ?_
  rintro e w2 ⟨sb, vb, rfl, k2, mb⟩
  replace ma := ma.kept k2
  have k2 := k1.trans k2
  clear k1
  go_wp2_with fail
  refine (len_any sa N va A w2 ma.1).mono ?_
  rintro e w' ⟨rfl, rfl⟩
  go_wp2_with fail
  refine (told_ok sa N va A w2 ma.1).mono ?_
  rintro e w3 ⟨rfl, k3⟩
  replace ma := ma.kept k3
  replace mb := mb.kept k3
  have k3 := k2.trans k3
  clear k2
  go_wp2_with fail
  refine (from_ok N (told N A) w3 (by omega) HS.out (by rw [HF.out]; exact HT.out)).mono ?_
  rintro e w4 ⟨sc, vc, rfl, k4, mc⟩
  rw [HF.out] at mc
  replace ma := ma.kept k4
  replace mb := mb.kept k4
  have k4 := k3.trans k4
  clear k3
  have hsz : (told N A).size = (N + 7) / 8 := HS.out
  have HZ := Lib.hid hsz
  clear hsz
  go_wp2_with fail
  refine (same_ok sc sa N vc va A A w4 mc.1 ma.1).mono ?_
  rintro e w' ⟨rfl, q, rfl⟩
  have k5 := k4.drewN q
  replace ma := ma.kept ((Kept.refl No w4).drewN q)
  replace mb := mb.kept ((Kept.refl No w4).drewN q)
  replace mc := mc.kept ((Kept.refl No w4).drewN q)
  clear k4
  generalize w4.drewN q = w5 at *
  rw [decide_eq_true (rfl : A = A)]
  go_wp2_with fail
  refine (same_ok sa sc N va vc A A w5 ma.1 mc.1).mono ?_
  rintro e w' ⟨rfl, q2, rfl⟩
  have k6 := k5.drewN q2
  replace ma := ma.kept ((Kept.refl No w5).drewN q2)
  replace mb := mb.kept ((Kept.refl No w5).drewN q2)
  clear k5 mc
  generalize w5.drewN q2 = w6 at *
  rw [decide_eq_true (rfl : A = A)]
  go_wp2_with fail
  refine (told_ok sa N va A w6 ma.1).mono ?_
  rintro e w7 ⟨rfl, k7⟩
  replace ma := ma.kept k7
  replace mb := mb.kept k7
  have k7 := k6.trans k7
  clear k6
  go_wp2_with fail
  refine (HB.out w7).mono ?_
  rintro e w' ⟨rfl, rfl⟩
  have hlen : (((told N A).size : Int) != ((N : Int) + 7) / 8) = false := by rw [bne_eq_false_iff_eq, HZ.out]; omega
  go_wp2_with fail
  refine (len_any sa N va A w7 ma.1).mono ?_
  rintro e w' ⟨rfl, rfl⟩
  go_wp2_with fail
  refine (told_ok sa N va A w7 ma.1).mono ?_
  rintro e w8 ⟨rfl, k8⟩
  replace ma := ma.kept k8
  replace mb := mb.kept k8
  have k8 := k7.trans k8
  clear k7 hlen
  go_wp2_with fail
  rw [show ((N : Int) + 8) = ((N + 8 : Nat) : Int) from rfl]
  refine (from_len (N + 8) (told N A) w8 (by omega) (by rw [HZ.out]; omega) (by rw [HZ.out]; omega)).mono ?_
  rintro e w9 ⟨rfl, k9⟩
  replace ma := ma.kept k9
  replace mb := mb.kept k9
  have k9 := k8.trans k9
  clear k8
  go_wp2_with fail
  refine (len_any sa N va A w9 ma.1).mono ?_
  rintro e w' ⟨rfl, rfl⟩
  go_wp2_with fail
  refine (told_ok sa N va A w9 ma.1).mono ?_
  rintro e w10 ⟨rfl, k10⟩
  replace ma := ma.kept k10
  replace mb := mb.kept k10
  have k10 := k9.trans k10
  clear k9
  have hq : (told N A).size ≤ 300 := by rw [HZ.out]; omega
  go_wp2_with fail
  refine (from_len N _ _ (by omega) (by rw [push_size, HZ.out]; omega) (by rw [push_size, HZ.out]; omega)).mono ?_
  rintro e w11 ⟨rfl, k11⟩
  replace ma := ma.kept k11
  replace mb := mb.kept k11
  replace k11 := k10.trans k11
  clear k10
  go_wp2_with fail
  refine (same_ok sa sb N va vb A B w11 ma.1 mb.1).mono ?_
  rintro e w' ⟨rfl, q3, rfl⟩
  have k12 := k11.drewN q3
  replace ma := ma.kept ((Kept.refl No w11).drewN q3)
  replace mb := mb.kept ((Kept.refl No w11).drewN q3)
  clear k11
  generalize w11.drewN q3 = w12 at *
  generalize hAB : decide (A = B) = r
  have HAB := Lib.hid hAB
  clear hAB
  go_wp2_with fail
  refine (told_ok sa N va A w12 ma.1).mono ?_
  rintro e w13 ⟨rfl, k13⟩
  replace ma := ma.kept k13
  replace mb := mb.kept k13
  replace k13 := k12.trans k13
  clear k12
  go_wp2_with fail
  refine (told_ok sb N vb B w13 mb.1).mono ?_
  rintro e w14 ⟨rfl, k14⟩
  replace ma := ma.kept k14
  replace k14 := k13.trans k14
  clear k13 mb
  have hcmp : ((told N A).toList == (told N B).toList) = r := by
    rw [← HAB.out, str_beq]; exact decide_eq_decide.2 HI.out
  go_wp2_with fail
  refine (same_ok sa sa N va va A A w14 ma.1 ma.1).mono ?_
  rintro e w' ⟨rfl, q4, rfl⟩
  have k15 := k14.drewN q4
  clear k14 hcmp
  generalize w14.drewN q4 = w15 at *
  rw [decide_eq_true (rfl : A = A)]
  go_wp2_with fail
  refine (same_nil sa w15).mono ?_
  rintro e w' ⟨rfl, q5, rfl⟩
  go_wp2_with fail
  go_ret
  exact ⟨rfl, (k15.drewN q5).below (Nat.le_refl _) (fun _ _ h => h)⟩

end Go.Proofs.Ytagbclijbeodaaa
