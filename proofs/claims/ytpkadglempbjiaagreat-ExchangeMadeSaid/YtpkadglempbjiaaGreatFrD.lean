/- concordref15.Build of nothing; concordref26.Start: what is refused first. -/
import Derived.Test.YtpkadglempbjiaaGreatFrC
import Derived.Test.YtpkadglempbjiaaGreatEsA
namespace Go.Proofs.YtpkadglempbjiaaGreat
open Go.RowKit Go.Lib
set_option linter.unusedVariables false
set_option linter.unusedSimpArgs false
set_option maxRecDepth 100000

theorem rwidth14_ok (n : Int) (h1 : 1 ≤ n) (h2 : n ≤ 32) (w : World) : Calls Tryz.prog 27 #[.int .i64 n] w fun e w' => e = .returned (.bool true) ∧ w = w' := by
  go_enter Tryz.func27, Tryz.ntmps27
  go_wp2
  go_ret
  exact ⟨rfl, rfl⟩
theorem rvalid14_ok (n : Int) (h1 : 1 ≤ n) (h2 : n ≤ 32) (w : World) : Calls Tryz.prog 12 #[.slice none 0 0, .int .i64 n] w fun e w' => e = .returned (.bool true) ∧ w = w' := by
  go_enter Tryz.func12, Tryz.ntmps12
  go_wp2_with fail
  go_loop [5] (fun i => i = .int .i64 0) (fun _ => 0)
  case atStart => rfl
  case round =>
    obtain rfl := hrel
    go_wp2_with fail
    refine (rwidth14_ok n h1 h2 _).mono ?_
    rintro e w' ⟨rfl, rfl⟩
    go_wp2_with fail
    go_ret
    exact ⟨rfl, rfl⟩
theorem rbuild_none (n : Int) (h1 : 1 ≤ n) (h2 : n ≤ 32) (w : World) :
    Calls Tryz.prog 4 #[.int .i64 n, .slice none 0 0] w fun e w' => ∃ p, e = .returned (.tuple #[.pointer (some ⟨p, 0, none⟩), .int .i64 0]) ∧ Kept No w w' ∧ w'.heap[p]? = some (.cells #[.int .i64 n, .slice none 0 0, .slice none 0 0] 68 (0, 0)) := by
  go_enter Tryz.func4, Tryz.ntmps4
  go_wp2_with fail
  refine (rvalid14_ok n h1 h2 _).mono ?_
  rintro e w' ⟨rfl, rfl⟩
  go_wp2_with fail
  go_loop [7] (fun i => i = .int .i64 0) (fun _ => 0)
  case atStart => rfl
  case round =>
    obtain rfl := hrel
    go_wp2_with fail
    go_ret2
    exact ⟨_, rfl, (Kept.refl _ _).alloc _, heap_alloc_new w _⟩

theorem rrep_yes (n : Int) (h1 : 1 ≤ n) (h2 : n ≤ 5) (w : World) : Calls Tryz.prog 18 #[.int .u8 n] w fun e w' => e = .returned (.bool true) ∧ w = w' := by
  go_enter Tryz.func18, Tryz.ntmps18
  go_wp2
  go_ret
  exact ⟨rfl, rfl⟩
theorem rrep_no (n : Int) (h : n < 1 ∨ 5 < n) (w : World) : Calls Tryz.prog 18 #[.int .u8 n] w fun e w' => e = .returned (.bool false) ∧ w = w' := by
  by_cases h1 : n < 1
  · go_enter Tryz.func18, Tryz.ntmps18
    go_wp2
    go_ret
    exact ⟨rfl, rfl⟩
  have h2 : decide (n ≤ 5) = false := by simp; omega
  go_enter Tryz.func18, Tryz.ntmps18
  go_wp2
  go_ret
  exact ⟨rfl, rfl⟩

set_option maxHeartbeats 1000000 in
theorem rstart_hnil (i0 i1 i2 f t tw wait tries : Int) (short : Bool) (p : Nat) (w : World) : Calls Tryz.prog 6 #[idRow i0 i1 i2, .int .u8 f, .int .u8 t, .pointer (some ⟨p, 0, none⟩), .pointer none, termRow tw wait tries short true] w fun e w' => e = .returned (.tuple #[.pointer none, zFrame, .int .i64 2]) ∧ Kept No w w' := by
  unfold idRow termRow
  go_enter Tryz.func6, Tryz.ntmps6
  go_wp2_with fail
  exact bodyPost_ret (results_mid rfl _ _ _ _ _ _ _ rfl (start_box _ _ _ _) Tryz.underlying38 rfl (by kernel_rfl)) rfl ⟨rfl, (((Kept.refl _ _).alloc _).alloc _).alloc _⟩

set_option maxHeartbeats 4000000 in
theorem rstart_bad_free (i0 i1 i2 f t tw wait tries : Int) (short : Bool) (hp : Option Addr) (p : Nat) (w : World) (h : f < 1 ∨ 5 < f ∨ t < 1 ∨ 5 < t ∨ f = t ∨ i0 ≠ f ∨ i1 = 0 ∨ i2 = 0) : Calls Tryz.prog 6 #[idRow i0 i1 i2, .int .u8 f, .int .u8 t, .pointer (some ⟨p, 0, none⟩), .pointer hp, termRow tw wait tries short false] w fun e w' => e = .returned (.tuple #[.pointer none, zFrame, .int .i64 1]) ∧ Kept No w w' := by
  unfold idRow termRow
  have HH := Lib.hid h
  clear h
  by_cases h1 : f < 1 ∨ 5 < f
  · go_enter Tryz.func6, Tryz.ntmps6
    go_wp2_with fail
    refine (rrep_no f (by omega) _).mono ?_
    rintro e w' ⟨rfl, rfl⟩
    go_wp2_with fail
    exact bodyPost_ret (results_mid rfl _ _ _ _ _ _ _ rfl (start_box _ _ _ _) Tryz.underlying38 rfl (by kernel_rfl)) rfl ⟨rfl, (((Kept.refl _ _).alloc _).alloc _).alloc _⟩
  by_cases h2 : t < 1 ∨ 5 < t
  · go_enter Tryz.func6, Tryz.ntmps6
    go_wp2_with fail
    refine (rrep_yes f (by omega) (by omega) _).mono ?_
    rintro e w' ⟨rfl, rfl⟩
    go_wp2_with fail
    refine (rrep_no t (by omega) _).mono ?_
    rintro e w' ⟨rfl, rfl⟩
    go_wp2_with fail
    exact bodyPost_ret (results_mid rfl _ _ _ _ _ _ _ rfl (start_box _ _ _ _) Tryz.underlying38 rfl (by kernel_rfl)) rfl ⟨rfl, (((Kept.refl _ _).alloc _).alloc _).alloc _⟩
  by_cases h3 : f = t
  · have b3 : (f == t) = true := by simp [h3]
    have h3' := Lib.hid h3
    clear h3
    go_enter Tryz.func6, Tryz.ntmps6
    go_wp2_with fail
    refine (rrep_yes f (by omega) (by omega) _).mono ?_
    rintro e w' ⟨rfl, rfl⟩
    go_wp2_with fail
    refine (rrep_yes t (by omega) (by omega) _).mono ?_
    rintro e w' ⟨rfl, rfl⟩
    go_wp2_with fail
    exact bodyPost_ret (results_mid rfl _ _ _ _ _ _ _ rfl (start_box _ _ _ _) Tryz.underlying38 rfl (by kernel_rfl)) rfl ⟨rfl, (((Kept.refl _ _).alloc _).alloc _).alloc _⟩
  have b3 : (f == t) = false := by simp [h3]
  by_cases h4 : i0 ≠ f
  · have b4 : (i0 != f) = true := by simp [h4]
    go_enter Tryz.func6, Tryz.ntmps6
    go_wp2_with fail
    refine (rrep_yes f (by omega) (by omega) _).mono ?_
    rintro e w' ⟨rfl, rfl⟩
    go_wp2_with fail
    refine (rrep_yes t (by omega) (by omega) _).mono ?_
    rintro e w' ⟨rfl, rfl⟩
    go_wp2_with fail
    exact bodyPost_ret (results_mid rfl _ _ _ _ _ _ _ rfl (start_box _ _ _ _) Tryz.underlying38 rfl (by kernel_rfl)) rfl ⟨rfl, (((Kept.refl _ _).alloc _).alloc _).alloc _⟩
  have b4 : (i0 != f) = false := by simpa using h4
  have H4 := Lib.hid h4
  clear h4
  by_cases h5 : i1 = 0
  · subst h5
    go_enter Tryz.func6, Tryz.ntmps6
    go_wp2_with fail
    refine (rrep_yes f (by omega) (by omega) _).mono ?_
    rintro e w' ⟨rfl, rfl⟩
    go_wp2_with fail
    refine (rrep_yes t (by omega) (by omega) _).mono ?_
    rintro e w' ⟨rfl, rfl⟩
    go_wp2_with fail
    exact bodyPost_ret (results_mid rfl _ _ _ _ _ _ _ rfl (start_box _ _ _ _) Tryz.underlying38 rfl (by kernel_rfl)) rfl ⟨rfl, (((Kept.refl _ _).alloc _).alloc _).alloc _⟩
  have b5 : (i1 == 0) = false := by simp [h5]
  have h6 : i2 = 0 := by have := HH.out; have := H4.out; omega
  subst h6
  go_enter Tryz.func6, Tryz.ntmps6
  go_wp2_with fail
  refine (rrep_yes f (by omega) (by omega) _).mono ?_
  rintro e w' ⟨rfl, rfl⟩
  go_wp2_with fail
  refine (rrep_yes t (by omega) (by omega) _).mono ?_
  rintro e w' ⟨rfl, rfl⟩
  go_wp2_with fail
  exact bodyPost_ret (results_mid rfl _ _ _ _ _ _ _ rfl (start_box _ _ _ _) Tryz.underlying38 rfl (by kernel_rfl)) rfl ⟨rfl, (((Kept.refl _ _).alloc _).alloc _).alloc _⟩


set_option maxHeartbeats 4000000 in
theorem rstart_bad_mend (i0 i1 i2 f t tw wait tries : Int) (short : Bool) (s p : Nat) (w : World) (h : f < 1 ∨ 5 < f ∨ t < 1 ∨ 5 < t ∨ f = t ∨ i0 ≠ f ∨ i1 = 0 ∨ i2 = 0) : Calls Tryz.prog 6 #[idRow i0 i1 i2, .int .u8 f, .int .u8 t, .pointer (some ⟨p, 0, none⟩), .pointer (some ⟨s, 0, none⟩), termRow tw wait tries short true] w fun e w' => e = .returned (.tuple #[.pointer none, zFrame, .int .i64 1]) ∧ Kept No w w' := by
  unfold idRow termRow
  have HH := Lib.hid h
  clear h
  by_cases h1 : f < 1 ∨ 5 < f
  · go_enter Tryz.func6, Tryz.ntmps6
    go_wp2_with fail
    refine (rrep_no f (by omega) _).mono ?_
    rintro e w' ⟨rfl, rfl⟩
    go_wp2_with fail
    exact bodyPost_ret (results_mid rfl _ _ _ _ _ _ _ rfl (start_box _ _ _ _) Tryz.underlying38 rfl (by kernel_rfl)) rfl ⟨rfl, (((Kept.refl _ _).alloc _).alloc _).alloc _⟩
  by_cases h2 : t < 1 ∨ 5 < t
  · go_enter Tryz.func6, Tryz.ntmps6
    go_wp2_with fail
    refine (rrep_yes f (by omega) (by omega) _).mono ?_
    rintro e w' ⟨rfl, rfl⟩
    go_wp2_with fail
    refine (rrep_no t (by omega) _).mono ?_
    rintro e w' ⟨rfl, rfl⟩
    go_wp2_with fail
    exact bodyPost_ret (results_mid rfl _ _ _ _ _ _ _ rfl (start_box _ _ _ _) Tryz.underlying38 rfl (by kernel_rfl)) rfl ⟨rfl, (((Kept.refl _ _).alloc _).alloc _).alloc _⟩
  by_cases h3 : f = t
  · have b3 : (f == t) = true := by simp [h3]
    have h3' := Lib.hid h3
    clear h3
    go_enter Tryz.func6, Tryz.ntmps6
    go_wp2_with fail
    refine (rrep_yes f (by omega) (by omega) _).mono ?_
    rintro e w' ⟨rfl, rfl⟩
    go_wp2_with fail
    refine (rrep_yes t (by omega) (by omega) _).mono ?_
    rintro e w' ⟨rfl, rfl⟩
    go_wp2_with fail
    exact bodyPost_ret (results_mid rfl _ _ _ _ _ _ _ rfl (start_box _ _ _ _) Tryz.underlying38 rfl (by kernel_rfl)) rfl ⟨rfl, (((Kept.refl _ _).alloc _).alloc _).alloc _⟩
  have b3 : (f == t) = false := by simp [h3]
  by_cases h4 : i0 ≠ f
  · have b4 : (i0 != f) = true := by simp [h4]
    go_enter Tryz.func6, Tryz.ntmps6
    go_wp2_with fail
    refine (rrep_yes f (by omega) (by omega) _).mono ?_
    rintro e w' ⟨rfl, rfl⟩
    go_wp2_with fail
    refine (rrep_yes t (by omega) (by omega) _).mono ?_
    rintro e w' ⟨rfl, rfl⟩
    go_wp2_with fail
    exact bodyPost_ret (results_mid rfl _ _ _ _ _ _ _ rfl (start_box _ _ _ _) Tryz.underlying38 rfl (by kernel_rfl)) rfl ⟨rfl, (((Kept.refl _ _).alloc _).alloc _).alloc _⟩
  have b4 : (i0 != f) = false := by simpa using h4
  have H4 := Lib.hid h4
  clear h4
  by_cases h5 : i1 = 0
  · subst h5
    go_enter Tryz.func6, Tryz.ntmps6
    go_wp2_with fail
    refine (rrep_yes f (by omega) (by omega) _).mono ?_
    rintro e w' ⟨rfl, rfl⟩
    go_wp2_with fail
    refine (rrep_yes t (by omega) (by omega) _).mono ?_
    rintro e w' ⟨rfl, rfl⟩
    go_wp2_with fail
    exact bodyPost_ret (results_mid rfl _ _ _ _ _ _ _ rfl (start_box _ _ _ _) Tryz.underlying38 rfl (by kernel_rfl)) rfl ⟨rfl, (((Kept.refl _ _).alloc _).alloc _).alloc _⟩
  have b5 : (i1 == 0) = false := by simp [h5]
  have h6 : i2 = 0 := by have := HH.out; have := H4.out; omega
  subst h6
  go_enter Tryz.func6, Tryz.ntmps6
  go_wp2_with fail
  refine (rrep_yes f (by omega) (by omega) _).mono ?_
  rintro e w' ⟨rfl, rfl⟩
  go_wp2_with fail
  refine (rrep_yes t (by omega) (by omega) _).mono ?_
  rintro e w' ⟨rfl, rfl⟩
  go_wp2_with fail
  exact bodyPost_ret (results_mid rfl _ _ _ _ _ _ _ rfl (start_box _ _ _ _) Tryz.underlying38 rfl (by kernel_rfl)) rfl ⟨rfl, (((Kept.refl _ _).alloc _).alloc _).alloc _⟩

end Go.Proofs.YtpkadglempbjiaaGreat
