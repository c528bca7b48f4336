/- concordref26: Bound. -/
import Derived.Test.YtpkadglempbjiaaGreatEsE
namespace Go.Proofs.YtpkadglempbjiaaGreat
open Go.RowKit Go.Lib
set_option linter.unusedVariables false
set_option linter.unusedSimpArgs false
set_option maxRecDepth 100000

set_option maxHeartbeats 1000000 in
theorem rbound_att (tw wait tries d k : Int) (q1 : 1 ≤ wait) (q2 : wait ≤ 1000) (q3 : 1 ≤ tries) (q4 : tries ≤ 16) (d0 : 0 ≤ d) (d1 : d ≤ 1048576) (k0 : 0 ≤ k) (k1 : k ≤ 1048576) (r1 : d ≤ 16) (w : World) :
    Calls Tryz.prog 10 #[termRow tw wait tries true true, .int .i64 d, .int .i64 k] w fun e w' => e = .returned (.tuple #[.int .i64 (bnd wait tries true true d k), .int .i64 0]) ∧ Kept No w w' := by
  have r2 : d ≤ 256 := by omega
  have r3 : d ≤ 4096 := by omega
  unfold termRow
  go_enter Tryz.func10, Tryz.ntmps10
  go_wp2_with fail
  go_ret2
  refine ⟨ret2_int (congrArg (fun x => wrap64 (wrap64 (wait * tries) * x)) ?_), (Kept.refl _ _).alloc _⟩
  simp only [qn, if_true, Bool.false_eq_true, if_false]
  omega

set_option maxHeartbeats 1000000 in
theorem rbound_atf (tw wait tries d k : Int) (q1 : 1 ≤ wait) (q2 : wait ≤ 1000) (q3 : 1 ≤ tries) (q4 : tries ≤ 16) (d0 : 0 ≤ d) (d1 : d ≤ 1048576) (k0 : 0 ≤ k) (k1 : k ≤ 1048576) (r1 : d ≤ 16) (w : World) :
    Calls Tryz.prog 10 #[termRow tw wait tries true false, .int .i64 d, .int .i64 k] w fun e w' => e = .returned (.tuple #[.int .i64 (bnd wait tries true false d k), .int .i64 0]) ∧ Kept No w w' := by
  have r2 : d ≤ 256 := by omega
  have r3 : d ≤ 4096 := by omega
  unfold termRow
  go_enter Tryz.func10, Tryz.ntmps10
  go_wp2_with fail
  go_ret2
  refine ⟨ret2_int (congrArg (fun x => wrap64 (wrap64 (wait * tries) * x)) ?_), (Kept.refl _ _).alloc _⟩
  simp only [qn, if_true, Bool.false_eq_true, if_false]
  omega

set_option maxHeartbeats 1000000 in
theorem rbound_aft (tw wait tries d k : Int) (q1 : 1 ≤ wait) (q2 : wait ≤ 1000) (q3 : 1 ≤ tries) (q4 : tries ≤ 16) (d0 : 0 ≤ d) (d1 : d ≤ 1048576) (k0 : 0 ≤ k) (k1 : k ≤ 1048576) (r1 : d ≤ 16) (w : World) :
    Calls Tryz.prog 10 #[termRow tw wait tries false true, .int .i64 d, .int .i64 k] w fun e w' => e = .returned (.tuple #[.int .i64 (bnd wait tries false true d k), .int .i64 0]) ∧ Kept No w w' := by
  have r2 : d ≤ 256 := by omega
  have r3 : d ≤ 4096 := by omega
  unfold termRow
  go_enter Tryz.func10, Tryz.ntmps10
  go_wp2_with fail
  go_ret2
  refine ⟨ret2_int (congrArg (fun x => wrap64 (wrap64 (wait * tries) * x)) ?_), (Kept.refl _ _).alloc _⟩
  simp only [qn, if_true, Bool.false_eq_true, if_false]
  omega

set_option maxHeartbeats 1000000 in
theorem rbound_aff (tw wait tries d k : Int) (q1 : 1 ≤ wait) (q2 : wait ≤ 1000) (q3 : 1 ≤ tries) (q4 : tries ≤ 16) (d0 : 0 ≤ d) (d1 : d ≤ 1048576) (k0 : 0 ≤ k) (k1 : k ≤ 1048576) (r1 : d ≤ 16) (w : World) :
    Calls Tryz.prog 10 #[termRow tw wait tries false false, .int .i64 d, .int .i64 k] w fun e w' => e = .returned (.tuple #[.int .i64 (bnd wait tries false false d k), .int .i64 0]) ∧ Kept No w w' := by
  have r2 : d ≤ 256 := by omega
  have r3 : d ≤ 4096 := by omega
  unfold termRow
  go_enter Tryz.func10, Tryz.ntmps10
  go_wp2_with fail
  go_ret2
  refine ⟨ret2_int (congrArg (fun x => wrap64 (wrap64 (wait * tries) * x)) ?_), (Kept.refl _ _).alloc _⟩
  simp only [qn, if_true, Bool.false_eq_true, if_false]
  omega

set_option maxHeartbeats 1000000 in
theorem rbound_btt (tw wait tries d k : Int) (q1 : 1 ≤ wait) (q2 : wait ≤ 1000) (q3 : 1 ≤ tries) (q4 : tries ≤ 16) (d0 : 0 ≤ d) (d1 : d ≤ 1048576) (k0 : 0 ≤ k) (k1 : k ≤ 1048576) (r1 : 16 < d) (r2 : d ≤ 256) (w : World) :
    Calls Tryz.prog 10 #[termRow tw wait tries true true, .int .i64 d, .int .i64 k] w fun e w' => e = .returned (.tuple #[.int .i64 (bnd wait tries true true d k), .int .i64 0]) ∧ Kept No w w' := by
  have r3 : d ≤ 4096 := by omega
  unfold termRow
  go_enter Tryz.func10, Tryz.ntmps10
  go_wp2_with fail
  go_ret2
  refine ⟨ret2_int (congrArg (fun x => wrap64 (wrap64 (wait * tries) * x)) ?_), (Kept.refl _ _).alloc _⟩
  simp only [qn, if_true, Bool.false_eq_true, if_false]
  omega

set_option maxHeartbeats 1000000 in
theorem rbound_btf (tw wait tries d k : Int) (q1 : 1 ≤ wait) (q2 : wait ≤ 1000) (q3 : 1 ≤ tries) (q4 : tries ≤ 16) (d0 : 0 ≤ d) (d1 : d ≤ 1048576) (k0 : 0 ≤ k) (k1 : k ≤ 1048576) (r1 : 16 < d) (r2 : d ≤ 256) (w : World) :
    Calls Tryz.prog 10 #[termRow tw wait tries true false, .int .i64 d, .int .i64 k] w fun e w' => e = .returned (.tuple #[.int .i64 (bnd wait tries true false d k), .int .i64 0]) ∧ Kept No w w' := by
  have r3 : d ≤ 4096 := by omega
  unfold termRow
  go_enter Tryz.func10, Tryz.ntmps10
  go_wp2_with fail
  go_ret2
  refine ⟨ret2_int (congrArg (fun x => wrap64 (wrap64 (wait * tries) * x)) ?_), (Kept.refl _ _).alloc _⟩
  simp only [qn, if_true, Bool.false_eq_true, if_false]
  omega

set_option maxHeartbeats 1000000 in
theorem rbound_bft (tw wait tries d k : Int) (q1 : 1 ≤ wait) (q2 : wait ≤ 1000) (q3 : 1 ≤ tries) (q4 : tries ≤ 16) (d0 : 0 ≤ d) (d1 : d ≤ 1048576) (k0 : 0 ≤ k) (k1 : k ≤ 1048576) (r1 : 16 < d) (r2 : d ≤ 256) (w : World) :
    Calls Tryz.prog 10 #[termRow tw wait tries false true, .int .i64 d, .int .i64 k] w fun e w' => e = .returned (.tuple #[.int .i64 (bnd wait tries false true d k), .int .i64 0]) ∧ Kept No w w' := by
  have r3 : d ≤ 4096 := by omega
  unfold termRow
  go_enter Tryz.func10, Tryz.ntmps10
  go_wp2_with fail
  go_ret2
  refine ⟨ret2_int (congrArg (fun x => wrap64 (wrap64 (wait * tries) * x)) ?_), (Kept.refl _ _).alloc _⟩
  simp only [qn, if_true, Bool.false_eq_true, if_false]
  omega

set_option maxHeartbeats 1000000 in
theorem rbound_bff (tw wait tries d k : Int) (q1 : 1 ≤ wait) (q2 : wait ≤ 1000) (q3 : 1 ≤ tries) (q4 : tries ≤ 16) (d0 : 0 ≤ d) (d1 : d ≤ 1048576) (k0 : 0 ≤ k) (k1 : k ≤ 1048576) (r1 : 16 < d) (r2 : d ≤ 256) (w : World) :
    Calls Tryz.prog 10 #[termRow tw wait tries false false, .int .i64 d, .int .i64 k] w fun e w' => e = .returned (.tuple #[.int .i64 (bnd wait tries false false d k), .int .i64 0]) ∧ Kept No w w' := by
  have r3 : d ≤ 4096 := by omega
  unfold termRow
  go_enter Tryz.func10, Tryz.ntmps10
  go_wp2_with fail
  go_ret2
  refine ⟨ret2_int (congrArg (fun x => wrap64 (wrap64 (wait * tries) * x)) ?_), (Kept.refl _ _).alloc _⟩
  simp only [qn, if_true, Bool.false_eq_true, if_false]
  omega

set_option maxHeartbeats 1000000 in
theorem rbound_ctt (tw wait tries d k : Int) (q1 : 1 ≤ wait) (q2 : wait ≤ 1000) (q3 : 1 ≤ tries) (q4 : tries ≤ 16) (d0 : 0 ≤ d) (d1 : d ≤ 1048576) (k0 : 0 ≤ k) (k1 : k ≤ 1048576) (r1 : 256 < d) (r2 : d ≤ 4096) (w : World) :
    Calls Tryz.prog 10 #[termRow tw wait tries true true, .int .i64 d, .int .i64 k] w fun e w' => e = .returned (.tuple #[.int .i64 (bnd wait tries true true d k), .int .i64 0]) ∧ Kept No w w' := by
  have r0 : 16 < d := by omega
  unfold termRow
  go_enter Tryz.func10, Tryz.ntmps10
  go_wp2_with fail
  go_ret2
  refine ⟨ret2_int (congrArg (fun x => wrap64 (wrap64 (wait * tries) * x)) ?_), (Kept.refl _ _).alloc _⟩
  simp only [qn, if_true, Bool.false_eq_true, if_false]
  omega

set_option maxHeartbeats 1000000 in
theorem rbound_ctf (tw wait tries d k : Int) (q1 : 1 ≤ wait) (q2 : wait ≤ 1000) (q3 : 1 ≤ tries) (q4 : tries ≤ 16) (d0 : 0 ≤ d) (d1 : d ≤ 1048576) (k0 : 0 ≤ k) (k1 : k ≤ 1048576) (r1 : 256 < d) (r2 : d ≤ 4096) (w : World) :
    Calls Tryz.prog 10 #[termRow tw wait tries true false, .int .i64 d, .int .i64 k] w fun e w' => e = .returned (.tuple #[.int .i64 (bnd wait tries true false d k), .int .i64 0]) ∧ Kept No w w' := by
  have r0 : 16 < d := by omega
  unfold termRow
  go_enter Tryz.func10, Tryz.ntmps10
  go_wp2_with fail
  go_ret2
  refine ⟨ret2_int (congrArg (fun x => wrap64 (wrap64 (wait * tries) * x)) ?_), (Kept.refl _ _).alloc _⟩
  simp only [qn, if_true, Bool.false_eq_true, if_false]
  omega

set_option maxHeartbeats 1000000 in
theorem rbound_cft (tw wait tries d k : Int) (q1 : 1 ≤ wait) (q2 : wait ≤ 1000) (q3 : 1 ≤ tries) (q4 : tries ≤ 16) (d0 : 0 ≤ d) (d1 : d ≤ 1048576) (k0 : 0 ≤ k) (k1 : k ≤ 1048576) (r1 : 256 < d) (r2 : d ≤ 4096) (w : World) :
    Calls Tryz.prog 10 #[termRow tw wait tries false true, .int .i64 d, .int .i64 k] w fun e w' => e = .returned (.tuple #[.int .i64 (bnd wait tries false true d k), .int .i64 0]) ∧ Kept No w w' := by
  have r0 : 16 < d := by omega
  unfold termRow
  go_enter Tryz.func10, Tryz.ntmps10
  go_wp2_with fail
  go_ret2
  refine ⟨ret2_int (congrArg (fun x => wrap64 (wrap64 (wait * tries) * x)) ?_), (Kept.refl _ _).alloc _⟩
  simp only [qn, if_true, Bool.false_eq_true, if_false]
  omega

set_option maxHeartbeats 1000000 in
theorem rbound_cff (tw wait tries d k : Int) (q1 : 1 ≤ wait) (q2 : wait ≤ 1000) (q3 : 1 ≤ tries) (q4 : tries ≤ 16) (d0 : 0 ≤ d) (d1 : d ≤ 1048576) (k0 : 0 ≤ k) (k1 : k ≤ 1048576) (r1 : 256 < d) (r2 : d ≤ 4096) (w : World) :
    Calls Tryz.prog 10 #[termRow tw wait tries false false, .int .i64 d, .int .i64 k] w fun e w' => e = .returned (.tuple #[.int .i64 (bnd wait tries false false d k), .int .i64 0]) ∧ Kept No w w' := by
  have r0 : 16 < d := by omega
  unfold termRow
  go_enter Tryz.func10, Tryz.ntmps10
  go_wp2_with fail
  go_ret2
  refine ⟨ret2_int (congrArg (fun x => wrap64 (wrap64 (wait * tries) * x)) ?_), (Kept.refl _ _).alloc _⟩
  simp only [qn, if_true, Bool.false_eq_true, if_false]
  omega

set_option maxHeartbeats 1000000 in
theorem rbound_dtt (tw wait tries d k : Int) (q1 : 1 ≤ wait) (q2 : wait ≤ 1000) (q3 : 1 ≤ tries) (q4 : tries ≤ 16) (d0 : 0 ≤ d) (d1 : d ≤ 1048576) (k0 : 0 ≤ k) (k1 : k ≤ 1048576) (r1 : 4096 < d) (w : World) :
    Calls Tryz.prog 10 #[termRow tw wait tries true true, .int .i64 d, .int .i64 k] w fun e w' => e = .returned (.tuple #[.int .i64 (bnd wait tries true true d k), .int .i64 0]) ∧ Kept No w w' := by
  have r0 : 16 < d := by omega
  have r2 : 256 < d := by omega
  unfold termRow
  go_enter Tryz.func10, Tryz.ntmps10
  go_wp2_with fail
  go_ret2
  refine ⟨ret2_int (congrArg (fun x => wrap64 (wrap64 (wait * tries) * x)) ?_), (Kept.refl _ _).alloc _⟩
  simp only [qn, if_true, Bool.false_eq_true, if_false]
  omega

set_option maxHeartbeats 1000000 in
theorem rbound_dtf (tw wait tries d k : Int) (q1 : 1 ≤ wait) (q2 : wait ≤ 1000) (q3 : 1 ≤ tries) (q4 : tries ≤ 16) (d0 : 0 ≤ d) (d1 : d ≤ 1048576) (k0 : 0 ≤ k) (k1 : k ≤ 1048576) (r1 : 4096 < d) (w : World) :
    Calls Tryz.prog 10 #[termRow tw wait tries true false, .int .i64 d, .int .i64 k] w fun e w' => e = .returned (.tuple #[.int .i64 (bnd wait tries true false d k), .int .i64 0]) ∧ Kept No w w' := by
  have r0 : 16 < d := by omega
  have r2 : 256 < d := by omega
  unfold termRow
  go_enter Tryz.func10, Tryz.ntmps10
  go_wp2_with fail
  go_ret2
  refine ⟨ret2_int (congrArg (fun x => wrap64 (wrap64 (wait * tries) * x)) ?_), (Kept.refl _ _).alloc _⟩
  simp only [qn, if_true, Bool.false_eq_true, if_false]
  omega

set_option maxHeartbeats 1000000 in
theorem rbound_dft (tw wait tries d k : Int) (q1 : 1 ≤ wait) (q2 : wait ≤ 1000) (q3 : 1 ≤ tries) (q4 : tries ≤ 16) (d0 : 0 ≤ d) (d1 : d ≤ 1048576) (k0 : 0 ≤ k) (k1 : k ≤ 1048576) (r1 : 4096 < d) (w : World) :
    Calls Tryz.prog 10 #[termRow tw wait tries false true, .int .i64 d, .int .i64 k] w fun e w' => e = .returned (.tuple #[.int .i64 (bnd wait tries false true d k), .int .i64 0]) ∧ Kept No w w' := by
  have r0 : 16 < d := by omega
  have r2 : 256 < d := by omega
  unfold termRow
  go_enter Tryz.func10, Tryz.ntmps10
  go_wp2_with fail
  go_ret2
  refine ⟨ret2_int (congrArg (fun x => wrap64 (wrap64 (wait * tries) * x)) ?_), (Kept.refl _ _).alloc _⟩
  simp only [qn, if_true, Bool.false_eq_true, if_false]
  omega

set_option maxHeartbeats 1000000 in
theorem rbound_dff (tw wait tries d k : Int) (q1 : 1 ≤ wait) (q2 : wait ≤ 1000) (q3 : 1 ≤ tries) (q4 : tries ≤ 16) (d0 : 0 ≤ d) (d1 : d ≤ 1048576) (k0 : 0 ≤ k) (k1 : k ≤ 1048576) (r1 : 4096 < d) (w : World) :
    Calls Tryz.prog 10 #[termRow tw wait tries false false, .int .i64 d, .int .i64 k] w fun e w' => e = .returned (.tuple #[.int .i64 (bnd wait tries false false d k), .int .i64 0]) ∧ Kept No w w' := by
  have r0 : 16 < d := by omega
  have r2 : 256 < d := by omega
  unfold termRow
  go_enter Tryz.func10, Tryz.ntmps10
  go_wp2_with fail
  go_ret2
  refine ⟨ret2_int (congrArg (fun x => wrap64 (wrap64 (wait * tries) * x)) ?_), (Kept.refl _ _).alloc _⟩
  simp only [qn, if_true, Bool.false_eq_true, if_false]
  omega

theorem rbound_ok (tw wait tries d k : Int) (short mend : Bool) (q1 : 1 ≤ wait) (q2 : wait ≤ 1000) (q3 : 1 ≤ tries) (q4 : tries ≤ 16) (d0 : 0 ≤ d) (d1 : d ≤ 1048576) (k0 : 0 ≤ k) (k1 : k ≤ 1048576) (w : World) :
    Calls Tryz.prog 10 #[termRow tw wait tries short mend, .int .i64 d, .int .i64 k] w fun e w' => e = .returned (.tuple #[.int .i64 (bnd wait tries short mend d k), .int .i64 0]) ∧ Kept No w w' := by
  by_cases r1 : d ≤ 16
  · cases short <;> cases mend
    · exact rbound_aff tw wait tries d k q1 q2 q3 q4 d0 d1 k0 k1 r1 w
    · exact rbound_aft tw wait tries d k q1 q2 q3 q4 d0 d1 k0 k1 r1 w
    · exact rbound_atf tw wait tries d k q1 q2 q3 q4 d0 d1 k0 k1 r1 w
    · exact rbound_att tw wait tries d k q1 q2 q3 q4 d0 d1 k0 k1 r1 w
  by_cases r2 : d ≤ 256
  · cases short <;> cases mend
    · exact rbound_bff tw wait tries d k q1 q2 q3 q4 d0 d1 k0 k1 (by omega) r2 w
    · exact rbound_bft tw wait tries d k q1 q2 q3 q4 d0 d1 k0 k1 (by omega) r2 w
    · exact rbound_btf tw wait tries d k q1 q2 q3 q4 d0 d1 k0 k1 (by omega) r2 w
    · exact rbound_btt tw wait tries d k q1 q2 q3 q4 d0 d1 k0 k1 (by omega) r2 w
  by_cases r3 : d ≤ 4096
  · cases short <;> cases mend
    · exact rbound_cff tw wait tries d k q1 q2 q3 q4 d0 d1 k0 k1 (by omega) r3 w
    · exact rbound_cft tw wait tries d k q1 q2 q3 q4 d0 d1 k0 k1 (by omega) r3 w
    · exact rbound_ctf tw wait tries d k q1 q2 q3 q4 d0 d1 k0 k1 (by omega) r3 w
    · exact rbound_ctt tw wait tries d k q1 q2 q3 q4 d0 d1 k0 k1 (by omega) r3 w
  · cases short <;> cases mend
    · exact rbound_dff tw wait tries d k q1 q2 q3 q4 d0 d1 k0 k1 (by omega) w
    · exact rbound_dft tw wait tries d k q1 q2 q3 q4 d0 d1 k0 k1 (by omega) w
    · exact rbound_dtf tw wait tries d k q1 q2 q3 q4 d0 d1 k0 k1 (by omega) w
    · exact rbound_dtt tw wait tries d k q1 q2 q3 q4 d0 d1 k0 k1 (by omega) w
end Go.Proofs.YtpkadglempbjiaaGreat
