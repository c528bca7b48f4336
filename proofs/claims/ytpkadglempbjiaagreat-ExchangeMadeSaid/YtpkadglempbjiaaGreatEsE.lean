/- exchange.NewDesk, Bound. -/
import Derived.Test.YtpkadglempbjiaaGreatEsA
namespace Go.Proofs.YtpkadglempbjiaaGreat
open Go.RowKit Go.Lib
set_option linter.unusedVariables false
set_option linter.unusedSimpArgs false
set_option maxRecDepth 100000

theorem ret2_int {a b c : Int} (h : a = b) : Ending.returned (.tuple #[.int .i64 a, .int .i64 c]) = Ending.returned (.tuple #[.int .i64 b, .int .i64 c]) := by rw [h]

theorem up_ok (n : Int) (h0 : 0 ≤ n) (h1 : n ≤ 1000000) (w : World) : Calls Tryz.prog 25 #[.int .i64 n] w fun e w' => e = .returned (.int .i64 ((n + 7) / 8)) ∧ w = w' := by
  go_enter Tryz.func25, Tryz.ntmps25
  go_wp2
  go_ret
  rw [show n + 7 = n + 8 - 1 from by omega]
  exact ⟨rfl, rfl⟩

def qn (short mend : Bool) (d k : Int) : Int := 3 + (min d 16 + 7) / 8 + (min d 256 + 7) / 8 + min d 4096 + k / 64 + (if short then 61 + k / 64 else 0) + (if mend then 2 * d else 0)
def bnd (wait tries : Int) (short mend : Bool) (d k : Int) : Int := wrap64 (wrap64 (wait * tries) * qn short mend d k)

set_option maxHeartbeats 1000000 in
theorem bound_att (tw wait tries d k : Int) (q1 : 1 ≤ wait) (q2 : wait ≤ 1000) (q3 : 1 ≤ tries) (q4 : tries ≤ 16) (d0 : 0 ≤ d) (d1 : d ≤ 1048576) (k0 : 0 ≤ k) (k1 : k ≤ 1048576) (r1 : d ≤ 16) (w : World) :
    Calls Tryz.prog 11 #[termRow tw wait tries true true, .int .i64 d, .int .i64 k] w fun e w' => e = .returned (.tuple #[.int .i64 (bnd wait tries true true d k), .int .i64 0]) ∧ Kept No w w' := by
  have r2 : d ≤ 256 := by omega
  have r3 : d ≤ 4096 := by omega
  unfold termRow
  go_enter Tryz.func11, Tryz.ntmps11
  go_wp2_with fail
  refine (up_ok _ (by omega) (by omega) _).mono ?_
  rintro e w' ⟨rfl, rfl⟩
  go_wp2_with fail
  refine (up_ok _ (by omega) (by omega) _).mono ?_
  rintro e w' ⟨rfl, rfl⟩
  go_wp2_with fail
  go_ret2
  refine ⟨ret2_int (congrArg (fun x => wrap64 (wrap64 (wait * tries) * x)) ?_), (Kept.refl _ _).alloc _⟩
  simp only [qn, if_true, Bool.false_eq_true, if_false]
  omega

set_option maxHeartbeats 1000000 in
theorem bound_atf (tw wait tries d k : Int) (q1 : 1 ≤ wait) (q2 : wait ≤ 1000) (q3 : 1 ≤ tries) (q4 : tries ≤ 16) (d0 : 0 ≤ d) (d1 : d ≤ 1048576) (k0 : 0 ≤ k) (k1 : k ≤ 1048576) (r1 : d ≤ 16) (w : World) :
    Calls Tryz.prog 11 #[termRow tw wait tries true false, .int .i64 d, .int .i64 k] w fun e w' => e = .returned (.tuple #[.int .i64 (bnd wait tries true false d k), .int .i64 0]) ∧ Kept No w w' := by
  have r2 : d ≤ 256 := by omega
  have r3 : d ≤ 4096 := by omega
  unfold termRow
  go_enter Tryz.func11, Tryz.ntmps11
  go_wp2_with fail
  refine (up_ok _ (by omega) (by omega) _).mono ?_
  rintro e w' ⟨rfl, rfl⟩
  go_wp2_with fail
  refine (up_ok _ (by omega) (by omega) _).mono ?_
  rintro e w' ⟨rfl, rfl⟩
  go_wp2_with fail
  go_ret2
  refine ⟨ret2_int (congrArg (fun x => wrap64 (wrap64 (wait * tries) * x)) ?_), (Kept.refl _ _).alloc _⟩
  simp only [qn, if_true, Bool.false_eq_true, if_false]
  omega

set_option maxHeartbeats 1000000 in
theorem bound_aft (tw wait tries d k : Int) (q1 : 1 ≤ wait) (q2 : wait ≤ 1000) (q3 : 1 ≤ tries) (q4 : tries ≤ 16) (d0 : 0 ≤ d) (d1 : d ≤ 1048576) (k0 : 0 ≤ k) (k1 : k ≤ 1048576) (r1 : d ≤ 16) (w : World) :
    Calls Tryz.prog 11 #[termRow tw wait tries false true, .int .i64 d, .int .i64 k] w fun e w' => e = .returned (.tuple #[.int .i64 (bnd wait tries false true d k), .int .i64 0]) ∧ Kept No w w' := by
  have r2 : d ≤ 256 := by omega
  have r3 : d ≤ 4096 := by omega
  unfold termRow
  go_enter Tryz.func11, Tryz.ntmps11
  go_wp2_with fail
  refine (up_ok _ (by omega) (by omega) _).mono ?_
  rintro e w' ⟨rfl, rfl⟩
  go_wp2_with fail
  refine (up_ok _ (by omega) (by omega) _).mono ?_
  rintro e w' ⟨rfl, rfl⟩
  go_wp2_with fail
  go_ret2
  refine ⟨ret2_int (congrArg (fun x => wrap64 (wrap64 (wait * tries) * x)) ?_), (Kept.refl _ _).alloc _⟩
  simp only [qn, if_true, Bool.false_eq_true, if_false]
  omega

set_option maxHeartbeats 1000000 in
theorem bound_aff (tw wait tries d k : Int) (q1 : 1 ≤ wait) (q2 : wait ≤ 1000) (q3 : 1 ≤ tries) (q4 : tries ≤ 16) (d0 : 0 ≤ d) (d1 : d ≤ 1048576) (k0 : 0 ≤ k) (k1 : k ≤ 1048576) (r1 : d ≤ 16) (w : World) :
    Calls Tryz.prog 11 #[termRow tw wait tries false false, .int .i64 d, .int .i64 k] w fun e w' => e = .returned (.tuple #[.int .i64 (bnd wait tries false false d k), .int .i64 0]) ∧ Kept No w w' := by
  have r2 : d ≤ 256 := by omega
  have r3 : d ≤ 4096 := by omega
  unfold termRow
  go_enter Tryz.func11, Tryz.ntmps11
  go_wp2_with fail
  refine (up_ok _ (by omega) (by omega) _).mono ?_
  rintro e w' ⟨rfl, rfl⟩
  go_wp2_with fail
  refine (up_ok _ (by omega) (by omega) _).mono ?_
  rintro e w' ⟨rfl, rfl⟩
  go_wp2_with fail
  go_ret2
  refine ⟨ret2_int (congrArg (fun x => wrap64 (wrap64 (wait * tries) * x)) ?_), (Kept.refl _ _).alloc _⟩
  simp only [qn, if_true, Bool.false_eq_true, if_false]
  omega

set_option maxHeartbeats 1000000 in
theorem bound_btt (tw wait tries d k : Int) (q1 : 1 ≤ wait) (q2 : wait ≤ 1000) (q3 : 1 ≤ tries) (q4 : tries ≤ 16) (d0 : 0 ≤ d) (d1 : d ≤ 1048576) (k0 : 0 ≤ k) (k1 : k ≤ 1048576) (r1 : 16 < d) (r2 : d ≤ 256) (w : World) :
    Calls Tryz.prog 11 #[termRow tw wait tries true true, .int .i64 d, .int .i64 k] w fun e w' => e = .returned (.tuple #[.int .i64 (bnd wait tries true true d k), .int .i64 0]) ∧ Kept No w w' := by
  have r3 : d ≤ 4096 := by omega
  unfold termRow
  go_enter Tryz.func11, Tryz.ntmps11
  go_wp2_with fail
  refine (up_ok _ (by omega) (by omega) _).mono ?_
  rintro e w' ⟨rfl, rfl⟩
  go_wp2_with fail
  refine (up_ok _ (by omega) (by omega) _).mono ?_
  rintro e w' ⟨rfl, rfl⟩
  go_wp2_with fail
  go_ret2
  refine ⟨ret2_int (congrArg (fun x => wrap64 (wrap64 (wait * tries) * x)) ?_), (Kept.refl _ _).alloc _⟩
  simp only [qn, if_true, Bool.false_eq_true, if_false]
  omega

set_option maxHeartbeats 1000000 in
theorem bound_btf (tw wait tries d k : Int) (q1 : 1 ≤ wait) (q2 : wait ≤ 1000) (q3 : 1 ≤ tries) (q4 : tries ≤ 16) (d0 : 0 ≤ d) (d1 : d ≤ 1048576) (k0 : 0 ≤ k) (k1 : k ≤ 1048576) (r1 : 16 < d) (r2 : d ≤ 256) (w : World) :
    Calls Tryz.prog 11 #[termRow tw wait tries true false, .int .i64 d, .int .i64 k] w fun e w' => e = .returned (.tuple #[.int .i64 (bnd wait tries true false d k), .int .i64 0]) ∧ Kept No w w' := by
  have r3 : d ≤ 4096 := by omega
  unfold termRow
  go_enter Tryz.func11, Tryz.ntmps11
  go_wp2_with fail
  refine (up_ok _ (by omega) (by omega) _).mono ?_
  rintro e w' ⟨rfl, rfl⟩
  go_wp2_with fail
  refine (up_ok _ (by omega) (by omega) _).mono ?_
  rintro e w' ⟨rfl, rfl⟩
  go_wp2_with fail
  go_ret2
  refine ⟨ret2_int (congrArg (fun x => wrap64 (wrap64 (wait * tries) * x)) ?_), (Kept.refl _ _).alloc _⟩
  simp only [qn, if_true, Bool.false_eq_true, if_false]
  omega

set_option maxHeartbeats 1000000 in
theorem bound_bft (tw wait tries d k : Int) (q1 : 1 ≤ wait) (q2 : wait ≤ 1000) (q3 : 1 ≤ tries) (q4 : tries ≤ 16) (d0 : 0 ≤ d) (d1 : d ≤ 1048576) (k0 : 0 ≤ k) (k1 : k ≤ 1048576) (r1 : 16 < d) (r2 : d ≤ 256) (w : World) :
    Calls Tryz.prog 11 #[termRow tw wait tries false true, .int .i64 d, .int .i64 k] w fun e w' => e = .returned (.tuple #[.int .i64 (bnd wait tries false true d k), .int .i64 0]) ∧ Kept No w w' := by
  have r3 : d ≤ 4096 := by omega
  unfold termRow
  go_enter Tryz.func11, Tryz.ntmps11
  go_wp2_with fail
  refine (up_ok _ (by omega) (by omega) _).mono ?_
  rintro e w' ⟨rfl, rfl⟩
  go_wp2_with fail
  refine (up_ok _ (by omega) (by omega) _).mono ?_
  rintro e w' ⟨rfl, rfl⟩
  go_wp2_with fail
  go_ret2
  refine ⟨ret2_int (congrArg (fun x => wrap64 (wrap64 (wait * tries) * x)) ?_), (Kept.refl _ _).alloc _⟩
  simp only [qn, if_true, Bool.false_eq_true, if_false]
  omega

set_option maxHeartbeats 1000000 in
theorem bound_bff (tw wait tries d k : Int) (q1 : 1 ≤ wait) (q2 : wait ≤ 1000) (q3 : 1 ≤ tries) (q4 : tries ≤ 16) (d0 : 0 ≤ d) (d1 : d ≤ 1048576) (k0 : 0 ≤ k) (k1 : k ≤ 1048576) (r1 : 16 < d) (r2 : d ≤ 256) (w : World) :
    Calls Tryz.prog 11 #[termRow tw wait tries false false, .int .i64 d, .int .i64 k] w fun e w' => e = .returned (.tuple #[.int .i64 (bnd wait tries false false d k), .int .i64 0]) ∧ Kept No w w' := by
  have r3 : d ≤ 4096 := by omega
  unfold termRow
  go_enter Tryz.func11, Tryz.ntmps11
  go_wp2_with fail
  refine (up_ok _ (by omega) (by omega) _).mono ?_
  rintro e w' ⟨rfl, rfl⟩
  go_wp2_with fail
  refine (up_ok _ (by omega) (by omega) _).mono ?_
  rintro e w' ⟨rfl, rfl⟩
  go_wp2_with fail
  go_ret2
  refine ⟨ret2_int (congrArg (fun x => wrap64 (wrap64 (wait * tries) * x)) ?_), (Kept.refl _ _).alloc _⟩
  simp only [qn, if_true, Bool.false_eq_true, if_false]
  omega

set_option maxHeartbeats 1000000 in
theorem bound_ctt (tw wait tries d k : Int) (q1 : 1 ≤ wait) (q2 : wait ≤ 1000) (q3 : 1 ≤ tries) (q4 : tries ≤ 16) (d0 : 0 ≤ d) (d1 : d ≤ 1048576) (k0 : 0 ≤ k) (k1 : k ≤ 1048576) (r1 : 256 < d) (r2 : d ≤ 4096) (w : World) :
    Calls Tryz.prog 11 #[termRow tw wait tries true true, .int .i64 d, .int .i64 k] w fun e w' => e = .returned (.tuple #[.int .i64 (bnd wait tries true true d k), .int .i64 0]) ∧ Kept No w w' := by
  have r0 : 16 < d := by omega
  unfold termRow
  go_enter Tryz.func11, Tryz.ntmps11
  go_wp2_with fail
  refine (up_ok _ (by omega) (by omega) _).mono ?_
  rintro e w' ⟨rfl, rfl⟩
  go_wp2_with fail
  refine (up_ok _ (by omega) (by omega) _).mono ?_
  rintro e w' ⟨rfl, rfl⟩
  go_wp2_with fail
  go_ret2
  refine ⟨ret2_int (congrArg (fun x => wrap64 (wrap64 (wait * tries) * x)) ?_), (Kept.refl _ _).alloc _⟩
  simp only [qn, if_true, Bool.false_eq_true, if_false]
  omega

set_option maxHeartbeats 1000000 in
theorem bound_ctf (tw wait tries d k : Int) (q1 : 1 ≤ wait) (q2 : wait ≤ 1000) (q3 : 1 ≤ tries) (q4 : tries ≤ 16) (d0 : 0 ≤ d) (d1 : d ≤ 1048576) (k0 : 0 ≤ k) (k1 : k ≤ 1048576) (r1 : 256 < d) (r2 : d ≤ 4096) (w : World) :
    Calls Tryz.prog 11 #[termRow tw wait tries true false, .int .i64 d, .int .i64 k] w fun e w' => e = .returned (.tuple #[.int .i64 (bnd wait tries true false d k), .int .i64 0]) ∧ Kept No w w' := by
  have r0 : 16 < d := by omega
  unfold termRow
  go_enter Tryz.func11, Tryz.ntmps11
  go_wp2_with fail
  refine (up_ok _ (by omega) (by omega) _).mono ?_
  rintro e w' ⟨rfl, rfl⟩
  go_wp2_with fail
  refine (up_ok _ (by omega) (by omega) _).mono ?_
  rintro e w' ⟨rfl, rfl⟩
  go_wp2_with fail
  go_ret2
  refine ⟨ret2_int (congrArg (fun x => wrap64 (wrap64 (wait * tries) * x)) ?_), (Kept.refl _ _).alloc _⟩
  simp only [qn, if_true, Bool.false_eq_true, if_false]
  omega

set_option maxHeartbeats 1000000 in
theorem bound_cft (tw wait tries d k : Int) (q1 : 1 ≤ wait) (q2 : wait ≤ 1000) (q3 : 1 ≤ tries) (q4 : tries ≤ 16) (d0 : 0 ≤ d) (d1 : d ≤ 1048576) (k0 : 0 ≤ k) (k1 : k ≤ 1048576) (r1 : 256 < d) (r2 : d ≤ 4096) (w : World) :
    Calls Tryz.prog 11 #[termRow tw wait tries false true, .int .i64 d, .int .i64 k] w fun e w' => e = .returned (.tuple #[.int .i64 (bnd wait tries false true d k), .int .i64 0]) ∧ Kept No w w' := by
  have r0 : 16 < d := by omega
  unfold termRow
  go_enter Tryz.func11, Tryz.ntmps11
  go_wp2_with fail
  refine (up_ok _ (by omega) (by omega) _).mono ?_
  rintro e w' ⟨rfl, rfl⟩
  go_wp2_with fail
  refine (up_ok _ (by omega) (by omega) _).mono ?_
  rintro e w' ⟨rfl, rfl⟩
  go_wp2_with fail
  go_ret2
  refine ⟨ret2_int (congrArg (fun x => wrap64 (wrap64 (wait * tries) * x)) ?_), (Kept.refl _ _).alloc _⟩
  simp only [qn, if_true, Bool.false_eq_true, if_false]
  omega

set_option maxHeartbeats 1000000 in
theorem bound_cff (tw wait tries d k : Int) (q1 : 1 ≤ wait) (q2 : wait ≤ 1000) (q3 : 1 ≤ tries) (q4 : tries ≤ 16) (d0 : 0 ≤ d) (d1 : d ≤ 1048576) (k0 : 0 ≤ k) (k1 : k ≤ 1048576) (r1 : 256 < d) (r2 : d ≤ 4096) (w : World) :
    Calls Tryz.prog 11 #[termRow tw wait tries false false, .int .i64 d, .int .i64 k] w fun e w' => e = .returned (.tuple #[.int .i64 (bnd wait tries false false d k), .int .i64 0]) ∧ Kept No w w' := by
  have r0 : 16 < d := by omega
  unfold termRow
  go_enter Tryz.func11, Tryz.ntmps11
  go_wp2_with fail
  refine (up_ok _ (by omega) (by omega) _).mono ?_
  rintro e w' ⟨rfl, rfl⟩
  go_wp2_with fail
  refine (up_ok _ (by omega) (by omega) _).mono ?_
  rintro e w' ⟨rfl, rfl⟩
  go_wp2_with fail
  go_ret2
  refine ⟨ret2_int (congrArg (fun x => wrap64 (wrap64 (wait * tries) * x)) ?_), (Kept.refl _ _).alloc _⟩
  simp only [qn, if_true, Bool.false_eq_true, if_false]
  omega

set_option maxHeartbeats 1000000 in
theorem bound_dtt (tw wait tries d k : Int) (q1 : 1 ≤ wait) (q2 : wait ≤ 1000) (q3 : 1 ≤ tries) (q4 : tries ≤ 16) (d0 : 0 ≤ d) (d1 : d ≤ 1048576) (k0 : 0 ≤ k) (k1 : k ≤ 1048576) (r1 : 4096 < d) (w : World) :
    Calls Tryz.prog 11 #[termRow tw wait tries true true, .int .i64 d, .int .i64 k] w fun e w' => e = .returned (.tuple #[.int .i64 (bnd wait tries true true d k), .int .i64 0]) ∧ Kept No w w' := by
  have r0 : 16 < d := by omega
  have r2 : 256 < d := by omega
  unfold termRow
  go_enter Tryz.func11, Tryz.ntmps11
  go_wp2_with fail
  refine (up_ok _ (by omega) (by omega) _).mono ?_
  rintro e w' ⟨rfl, rfl⟩
  go_wp2_with fail
  refine (up_ok _ (by omega) (by omega) _).mono ?_
  rintro e w' ⟨rfl, rfl⟩
  go_wp2_with fail
  go_ret2
  refine ⟨ret2_int (congrArg (fun x => wrap64 (wrap64 (wait * tries) * x)) ?_), (Kept.refl _ _).alloc _⟩
  simp only [qn, if_true, Bool.false_eq_true, if_false]
  omega

set_option maxHeartbeats 1000000 in
theorem bound_dtf (tw wait tries d k : Int) (q1 : 1 ≤ wait) (q2 : wait ≤ 1000) (q3 : 1 ≤ tries) (q4 : tries ≤ 16) (d0 : 0 ≤ d) (d1 : d ≤ 1048576) (k0 : 0 ≤ k) (k1 : k ≤ 1048576) (r1 : 4096 < d) (w : World) :
    Calls Tryz.prog 11 #[termRow tw wait tries true false, .int .i64 d, .int .i64 k] w fun e w' => e = .returned (.tuple #[.int .i64 (bnd wait tries true false d k), .int .i64 0]) ∧ Kept No w w' := by
  have r0 : 16 < d := by omega
  have r2 : 256 < d := by omega
  unfold termRow
  go_enter Tryz.func11, Tryz.ntmps11
  go_wp2_with fail
  refine (up_ok _ (by omega) (by omega) _).mono ?_
  rintro e w' ⟨rfl, rfl⟩
  go_wp2_with fail
  refine (up_ok _ (by omega) (by omega) _).mono ?_
  rintro e w' ⟨rfl, rfl⟩
  go_wp2_with fail
  go_ret2
  refine ⟨ret2_int (congrArg (fun x => wrap64 (wrap64 (wait * tries) * x)) ?_), (Kept.refl _ _).alloc _⟩
  simp only [qn, if_true, Bool.false_eq_true, if_false]
  omega

set_option maxHeartbeats 1000000 in
theorem bound_dft (tw wait tries d k : Int) (q1 : 1 ≤ wait) (q2 : wait ≤ 1000) (q3 : 1 ≤ tries) (q4 : tries ≤ 16) (d0 : 0 ≤ d) (d1 : d ≤ 1048576) (k0 : 0 ≤ k) (k1 : k ≤ 1048576) (r1 : 4096 < d) (w : World) :
    Calls Tryz.prog 11 #[termRow tw wait tries false true, .int .i64 d, .int .i64 k] w fun e w' => e = .returned (.tuple #[.int .i64 (bnd wait tries false true d k), .int .i64 0]) ∧ Kept No w w' := by
  have r0 : 16 < d := by omega
  have r2 : 256 < d := by omega
  unfold termRow
  go_enter Tryz.func11, Tryz.ntmps11
  go_wp2_with fail
  refine (up_ok _ (by omega) (by omega) _).mono ?_
  rintro e w' ⟨rfl, rfl⟩
  go_wp2_with fail
  refine (up_ok _ (by omega) (by omega) _).mono ?_
  rintro e w' ⟨rfl, rfl⟩
  go_wp2_with fail
  go_ret2
  refine ⟨ret2_int (congrArg (fun x => wrap64 (wrap64 (wait * tries) * x)) ?_), (Kept.refl _ _).alloc _⟩
  simp only [qn, if_true, Bool.false_eq_true, if_false]
  omega

set_option maxHeartbeats 1000000 in
theorem bound_dff (tw wait tries d k : Int) (q1 : 1 ≤ wait) (q2 : wait ≤ 1000) (q3 : 1 ≤ tries) (q4 : tries ≤ 16) (d0 : 0 ≤ d) (d1 : d ≤ 1048576) (k0 : 0 ≤ k) (k1 : k ≤ 1048576) (r1 : 4096 < d) (w : World) :
    Calls Tryz.prog 11 #[termRow tw wait tries false false, .int .i64 d, .int .i64 k] w fun e w' => e = .returned (.tuple #[.int .i64 (bnd wait tries false false d k), .int .i64 0]) ∧ Kept No w w' := by
  have r0 : 16 < d := by omega
  have r2 : 256 < d := by omega
  unfold termRow
  go_enter Tryz.func11, Tryz.ntmps11
  go_wp2_with fail
  refine (up_ok _ (by omega) (by omega) _).mono ?_
  rintro e w' ⟨rfl, rfl⟩
  go_wp2_with fail
  refine (up_ok _ (by omega) (by omega) _).mono ?_
  rintro e w' ⟨rfl, rfl⟩
  go_wp2_with fail
  go_ret2
  refine ⟨ret2_int (congrArg (fun x => wrap64 (wrap64 (wait * tries) * x)) ?_), (Kept.refl _ _).alloc _⟩
  simp only [qn, if_true, Bool.false_eq_true, if_false]
  omega

theorem bound_ok (tw wait tries d k : Int) (short mend : Bool) (q1 : 1 ≤ wait) (q2 : wait ≤ 1000) (q3 : 1 ≤ tries) (q4 : tries ≤ 16) (d0 : 0 ≤ d) (d1 : d ≤ 1048576) (k0 : 0 ≤ k) (k1 : k ≤ 1048576) (w : World) :
    Calls Tryz.prog 11 #[termRow tw wait tries short mend, .int .i64 d, .int .i64 k] w fun e w' => e = .returned (.tuple #[.int .i64 (bnd wait tries short mend d k), .int .i64 0]) ∧ Kept No w w' := by
  by_cases r1 : d ≤ 16
  · cases short <;> cases mend
    · exact bound_aff tw wait tries d k q1 q2 q3 q4 d0 d1 k0 k1 r1 w
    · exact bound_aft tw wait tries d k q1 q2 q3 q4 d0 d1 k0 k1 r1 w
    · exact bound_atf tw wait tries d k q1 q2 q3 q4 d0 d1 k0 k1 r1 w
    · exact bound_att tw wait tries d k q1 q2 q3 q4 d0 d1 k0 k1 r1 w
  by_cases r2 : d ≤ 256
  · cases short <;> cases mend
    · exact bound_bff tw wait tries d k q1 q2 q3 q4 d0 d1 k0 k1 (by omega) r2 w
    · exact bound_bft tw wait tries d k q1 q2 q3 q4 d0 d1 k0 k1 (by omega) r2 w
    · exact bound_btf tw wait tries d k q1 q2 q3 q4 d0 d1 k0 k1 (by omega) r2 w
    · exact bound_btt tw wait tries d k q1 q2 q3 q4 d0 d1 k0 k1 (by omega) r2 w
  by_cases r3 : d ≤ 4096
  · cases short <;> cases mend
    · exact bound_cff tw wait tries d k q1 q2 q3 q4 d0 d1 k0 k1 (by omega) r3 w
    · exact bound_cft tw wait tries d k q1 q2 q3 q4 d0 d1 k0 k1 (by omega) r3 w
    · exact bound_ctf tw wait tries d k q1 q2 q3 q4 d0 d1 k0 k1 (by omega) r3 w
    · exact bound_ctt tw wait tries d k q1 q2 q3 q4 d0 d1 k0 k1 (by omega) r3 w
  · cases short <;> cases mend
    · exact bound_dff tw wait tries d k q1 q2 q3 q4 d0 d1 k0 k1 (by omega) w
    · exact bound_dft tw wait tries d k q1 q2 q3 q4 d0 d1 k0 k1 (by omega) w
    · exact bound_dtf tw wait tries d k q1 q2 q3 q4 d0 d1 k0 k1 (by omega) w
    · exact bound_dtt tw wait tries d k q1 q2 q3 q4 d0 d1 k0 k1 (by omega) w
end Go.Proofs.YtpkadglempbjiaaGreat
