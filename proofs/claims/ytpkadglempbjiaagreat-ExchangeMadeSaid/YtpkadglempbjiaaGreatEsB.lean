/- exchange.Start: arguments that are refused. -/
import Derived.Test.YtpkadglempbjiaaGreatEsA
namespace Go.Proofs.YtpkadglempbjiaaGreat
open Go.RowKit Go.Lib
set_option linter.unusedVariables false
set_option linter.unusedSimpArgs false
set_option maxRecDepth 100000

set_option maxHeartbeats 4000000 in
theorem start_bad_free (i0 i1 i2 f t tw wait tries : Int) (short : Bool) (hv : Value) (p : Nat) (w : World) (h : f < 1 ∨ 5 < f ∨ t < 1 ∨ 5 < t ∨ f = t ∨ i0 ≠ f ∨ i1 = 0 ∨ i2 = 0) : Calls Tryz.prog 7 #[idRow i0 i1 i2, .int .u8 f, .int .u8 t, .pointer (some ⟨p, 0, none⟩), hv, termRow tw wait tries short false] w fun e w' => e = .returned (.tuple #[.pointer none, zFrame, .int .i64 1]) ∧ Kept No w w' := by
  unfold idRow termRow
  have HH := Lib.hid h
  clear h
  by_cases h1 : f < 1 ∨ 5 < f
  · go_enter Tryz.func7, Tryz.ntmps7
    go_wp2_with fail
    refine (rep_no f (by omega) _).mono ?_
    rintro e w' ⟨rfl, rfl⟩
    go_wp2_with fail
    exact bodyPost_ret (results_mid rfl _ _ _ _ _ _ _ rfl (start_box _ _ _ _) Tryz.underlying38 rfl (by kernel_rfl)) rfl ⟨rfl, (((Kept.refl _ _).alloc _).alloc _).alloc _⟩
  by_cases h2 : t < 1 ∨ 5 < t
  · go_enter Tryz.func7, Tryz.ntmps7
    go_wp2_with fail
    refine (rep_yes f (by omega) (by omega) _).mono ?_
    rintro e w' ⟨rfl, rfl⟩
    go_wp2_with fail
    refine (rep_no t (by omega) _).mono ?_
    rintro e w' ⟨rfl, rfl⟩
    go_wp2_with fail
    exact bodyPost_ret (results_mid rfl _ _ _ _ _ _ _ rfl (start_box _ _ _ _) Tryz.underlying38 rfl (by kernel_rfl)) rfl ⟨rfl, (((Kept.refl _ _).alloc _).alloc _).alloc _⟩
  by_cases h3 : f = t
  · have b3 : (f == t) = true := by simp [h3]
    have h3' := Lib.hid h3
    clear h3
    go_enter Tryz.func7, Tryz.ntmps7
    go_wp2_with fail
    refine (rep_yes f (by omega) (by omega) _).mono ?_
    rintro e w' ⟨rfl, rfl⟩
    go_wp2_with fail
    refine (rep_yes t (by omega) (by omega) _).mono ?_
    rintro e w' ⟨rfl, rfl⟩
    go_wp2_with fail
    exact bodyPost_ret (results_mid rfl _ _ _ _ _ _ _ rfl (start_box _ _ _ _) Tryz.underlying38 rfl (by kernel_rfl)) rfl ⟨rfl, (((Kept.refl _ _).alloc _).alloc _).alloc _⟩
  have b3 : (f == t) = false := by simp [h3]
  by_cases h4 : i0 ≠ f
  · have b4 : (i0 != f) = true := by simp [h4]
    go_enter Tryz.func7, Tryz.ntmps7
    go_wp2_with fail
    refine (rep_yes f (by omega) (by omega) _).mono ?_
    rintro e w' ⟨rfl, rfl⟩
    go_wp2_with fail
    refine (rep_yes t (by omega) (by omega) _).mono ?_
    rintro e w' ⟨rfl, rfl⟩
    go_wp2_with fail
    exact bodyPost_ret (results_mid rfl _ _ _ _ _ _ _ rfl (start_box _ _ _ _) Tryz.underlying38 rfl (by kernel_rfl)) rfl ⟨rfl, (((Kept.refl _ _).alloc _).alloc _).alloc _⟩
  have b4 : (i0 != f) = false := by simpa using h4
  have H4 := Lib.hid h4
  clear h4
  by_cases h5 : i1 = 0
  · subst h5
    go_enter Tryz.func7, Tryz.ntmps7
    go_wp2_with fail
    refine (rep_yes f (by omega) (by omega) _).mono ?_
    rintro e w' ⟨rfl, rfl⟩
    go_wp2_with fail
    refine (rep_yes t (by omega) (by omega) _).mono ?_
    rintro e w' ⟨rfl, rfl⟩
    go_wp2_with fail
    exact bodyPost_ret (results_mid rfl _ _ _ _ _ _ _ rfl (start_box _ _ _ _) Tryz.underlying38 rfl (by kernel_rfl)) rfl ⟨rfl, (((Kept.refl _ _).alloc _).alloc _).alloc _⟩
  have b5 : (i1 == 0) = false := by simp [h5]
  have h6 : i2 = 0 := by have := HH.out; have := H4.out; omega
  subst h6
  go_enter Tryz.func7, Tryz.ntmps7
  go_wp2_with fail
  refine (rep_yes f (by omega) (by omega) _).mono ?_
  rintro e w' ⟨rfl, rfl⟩
  go_wp2_with fail
  refine (rep_yes t (by omega) (by omega) _).mono ?_
  rintro e w' ⟨rfl, rfl⟩
  go_wp2_with fail
  exact bodyPost_ret (results_mid rfl _ _ _ _ _ _ _ rfl (start_box _ _ _ _) Tryz.underlying38 rfl (by kernel_rfl)) rfl ⟨rfl, (((Kept.refl _ _).alloc _).alloc _).alloc _⟩

set_option maxHeartbeats 4000000 in
theorem start_bad_mend (i0 i1 i2 f t tw wait tries : Int) (short : Bool) (s p : Nat) (w : World) (h : f < 1 ∨ 5 < f ∨ t < 1 ∨ 5 < t ∨ f = t ∨ i0 ≠ f ∨ i1 = 0 ∨ i2 = 0) : Calls Tryz.prog 7 #[idRow i0 i1 i2, .int .u8 f, .int .u8 t, .pointer (some ⟨p, 0, none⟩), .iface 41 (.pointer (some ⟨s, 0, none⟩)), termRow tw wait tries short true] w fun e w' => e = .returned (.tuple #[.pointer none, zFrame, .int .i64 1]) ∧ Kept No w w' := by
  have hq : ∀ w, (binOp BinOp.eql 106 (.iface 41 (.pointer (some ⟨s, 0, none⟩))) .nilIface).run Tryz.prog w = .ok (.bool false) w := fun _ => by kernel_rfl
  unfold idRow termRow
  have HH := Lib.hid h
  clear h
  by_cases h1 : f < 1 ∨ 5 < f
  · go_enter Tryz.func7, Tryz.ntmps7
    go_wp2_with fail
    refine (rep_no f (by omega) _).mono ?_
    rintro e w' ⟨rfl, rfl⟩
    go_wp2_with fail
    exact bodyPost_ret (results_mid rfl _ _ _ _ _ _ _ rfl (start_box _ _ _ _) Tryz.underlying38 rfl (by kernel_rfl)) rfl ⟨rfl, (((Kept.refl _ _).alloc _).alloc _).alloc _⟩
  by_cases h2 : t < 1 ∨ 5 < t
  · go_enter Tryz.func7, Tryz.ntmps7
    go_wp2_with fail
    refine (rep_yes f (by omega) (by omega) _).mono ?_
    rintro e w' ⟨rfl, rfl⟩
    go_wp2_with fail
    refine (rep_no t (by omega) _).mono ?_
    rintro e w' ⟨rfl, rfl⟩
    go_wp2_with fail
    exact bodyPost_ret (results_mid rfl _ _ _ _ _ _ _ rfl (start_box _ _ _ _) Tryz.underlying38 rfl (by kernel_rfl)) rfl ⟨rfl, (((Kept.refl _ _).alloc _).alloc _).alloc _⟩
  by_cases h3 : f = t
  · have b3 : (f == t) = true := by simp [h3]
    have h3' := Lib.hid h3
    clear h3
    go_enter Tryz.func7, Tryz.ntmps7
    go_wp2_with fail
    refine (rep_yes f (by omega) (by omega) _).mono ?_
    rintro e w' ⟨rfl, rfl⟩
    go_wp2_with fail
    refine (rep_yes t (by omega) (by omega) _).mono ?_
    rintro e w' ⟨rfl, rfl⟩
    go_wp2_with fail
    exact bodyPost_ret (results_mid rfl _ _ _ _ _ _ _ rfl (start_box _ _ _ _) Tryz.underlying38 rfl (by kernel_rfl)) rfl ⟨rfl, (((Kept.refl _ _).alloc _).alloc _).alloc _⟩
  have b3 : (f == t) = false := by simp [h3]
  by_cases h4 : i0 ≠ f
  · have b4 : (i0 != f) = true := by simp [h4]
    go_enter Tryz.func7, Tryz.ntmps7
    go_wp2_with fail
    refine (rep_yes f (by omega) (by omega) _).mono ?_
    rintro e w' ⟨rfl, rfl⟩
    go_wp2_with fail
    refine (rep_yes t (by omega) (by omega) _).mono ?_
    rintro e w' ⟨rfl, rfl⟩
    go_wp2_with fail
    exact bodyPost_ret (results_mid rfl _ _ _ _ _ _ _ rfl (start_box _ _ _ _) Tryz.underlying38 rfl (by kernel_rfl)) rfl ⟨rfl, (((Kept.refl _ _).alloc _).alloc _).alloc _⟩
  have b4 : (i0 != f) = false := by simpa using h4
  have H4 := Lib.hid h4
  clear h4
  by_cases h5 : i1 = 0
  · subst h5
    go_enter Tryz.func7, Tryz.ntmps7
    go_wp2_with fail
    refine (rep_yes f (by omega) (by omega) _).mono ?_
    rintro e w' ⟨rfl, rfl⟩
    go_wp2_with fail
    refine (rep_yes t (by omega) (by omega) _).mono ?_
    rintro e w' ⟨rfl, rfl⟩
    go_wp2_with fail
    exact bodyPost_ret (results_mid rfl _ _ _ _ _ _ _ rfl (start_box _ _ _ _) Tryz.underlying38 rfl (by kernel_rfl)) rfl ⟨rfl, (((Kept.refl _ _).alloc _).alloc _).alloc _⟩
  have b5 : (i1 == 0) = false := by simp [h5]
  have h6 : i2 = 0 := by have := HH.out; have := H4.out; omega
  subst h6
  go_enter Tryz.func7, Tryz.ntmps7
  go_wp2_with fail
  refine (rep_yes f (by omega) (by omega) _).mono ?_
  rintro e w' ⟨rfl, rfl⟩
  go_wp2_with fail
  refine (rep_yes t (by omega) (by omega) _).mono ?_
  rintro e w' ⟨rfl, rfl⟩
  go_wp2_with fail
  exact bodyPost_ret (results_mid rfl _ _ _ _ _ _ _ rfl (start_box _ _ _ _) Tryz.underlying38 rfl (by kernel_rfl)) rfl ⟨rfl, (((Kept.refl _ _).alloc _).alloc _).alloc _⟩
end Go.Proofs.YtpkadglempbjiaaGreat
