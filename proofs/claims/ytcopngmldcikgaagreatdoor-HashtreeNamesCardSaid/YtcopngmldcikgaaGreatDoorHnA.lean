/- The walk of HashtreeNames: of no tree. -/
import Derived.Test.YtcopngmldcikgaaGreatDoorWld
import Derived.Test.YtcopngmldcikgaaGreatDoorChecked
namespace Go.Proofs.YtcopngmldcikgaaGreatDoor
open Go.RowKit
set_option linter.unusedVariables false
set_option maxRecDepth 100000

theorem hopen_nil (n : Int) (w : World) : Calls Tryz.prog 4 #[.pointer none, .int .i64 n] w fun e w' => e = .returned (.tuple #[.pointer none, .int .i64 2]) ∧ Kept No w w' := by
  go_enter Tryz.func4, Tryz.ntmps4
  go_wp2
  go_ret2
  exact ⟨rfl, Kept.refl _ _⟩
theorem hsnap_nil  (w : World) : Calls Tryz.prog 5 #[.pointer none] w fun e w' => e = .returned (.tuple #[.pointer none, .int .i64 2]) ∧ Kept No w w' := by
  go_enter Tryz.func5, Tryz.ntmps5
  go_wp2
  go_ret2
  exact ⟨rfl, Kept.refl _ _⟩
theorem hentries_nil (n : Int) (w : World) : Calls Tryz.prog 6 #[.pointer none, .int .i64 n] w fun e w' => e = .returned (.tuple #[.slice none 0 0, .int .i64 2]) ∧ Kept No w w' := by
  go_enter Tryz.func6, Tryz.ntmps6
  go_wp2
  go_ret2
  exact ⟨rfl, Kept.refl _ _⟩
theorem hsum_nil (n : Int) (w : World) : Calls Tryz.prog 7 #[.pointer none, .int .u16 n] w fun e w' => e = .returned (.tuple #[.string ByteArray.empty, .int .i64 2]) ∧ Kept No w w' := by
  go_enter Tryz.func7, Tryz.ntmps7
  go_wp2
  go_ret2
  exact ⟨rfl, Kept.refl _ _⟩
theorem hnext_nil (n : Int) (w : World) : Calls Tryz.prog 8 #[.pointer none, .int .i64 n] w fun e w' => e = .returned (.tuple #[.int .i64 0, .bool false]) ∧ Kept No w w' := by
  go_enter Tryz.func8, Tryz.ntmps8
  go_wp2
  go_ret2
  exact ⟨rfl, Kept.refl _ _⟩
theorem hwidth_nil  (w : World) : Calls Tryz.prog 9 #[.pointer none] w fun e w' => e = .returned (.int .i64 0) ∧ Kept No w w' := by
  go_enter Tryz.func9, Tryz.ntmps9
  go_wp2
  go_ret
  exact ⟨rfl, Kept.refl _ _⟩
theorem hvalid_nil  (w : World) : Calls Tryz.prog 10 #[.pointer none] w fun e w' => e = .returned (.bool false) ∧ Kept No w w' := by
  go_enter Tryz.func10, Tryz.ntmps10
  go_wp2
  go_ret
  exact ⟨rfl, Kept.refl _ _⟩
theorem hclosed_nil  (w : World) : Calls Tryz.prog 11 #[.pointer none] w fun e w' => e = .returned (.bool false) ∧ Kept No w w' := by
  go_enter Tryz.func11, Tryz.ntmps11
  go_wp2
  go_ret
  exact ⟨rfl, Kept.refl _ _⟩
theorem hdirty_nil  (w : World) : Calls Tryz.prog 12 #[.pointer none] w fun e w' => e = .returned (.int .i64 0) ∧ Kept No w w' := by
  go_enter Tryz.func12, Tryz.ntmps12
  go_wp2
  go_ret
  exact ⟨rfl, Kept.refl _ _⟩
theorem hbuilding_nil  (w : World) : Calls Tryz.prog 13 #[.pointer none] w fun e w' => e = .returned (.bool false) ∧ Kept No w w' := by
  go_enter Tryz.func13, Tryz.ntmps13
  go_wp2
  go_ret
  exact ⟨rfl, Kept.refl _ _⟩
theorem htouch_nil (b : Value) (n : Int) (w : World) : Calls Tryz.prog 14 #[.pointer none, b, .int .i64 n] w fun e w' => e = .returned (.int .i64 2) ∧ Kept No w w' := by
  go_enter Tryz.func14, Tryz.ntmps14
  go_wp2
  go_ret
  exact ⟨rfl, Kept.refl _ _⟩
theorem htouched_nil (n : Int) (w : World) : Calls Tryz.prog 15 #[.pointer none, .int .i64 n] w fun e w' => e = .returned (.int .i64 2) ∧ Kept No w w' := by
  go_enter Tryz.func15, Tryz.ntmps15
  go_wp2
  go_ret
  exact ⟨rfl, Kept.refl _ _⟩
theorem hrefresh_nil  (w : World) : Calls Tryz.prog 16 #[.pointer none] w fun e w' => e = .returned (.int .i64 2) ∧ Kept No w w' := by
  go_enter Tryz.func16, Tryz.ntmps16
  go_wp2
  go_ret
  exact ⟨rfl, Kept.refl _ _⟩
theorem hbegin_nil  (w : World) : Calls Tryz.prog 17 #[.pointer none] w fun e w' => e = .returned (.int .i64 2) ∧ Kept No w w' := by
  go_enter Tryz.func17, Tryz.ntmps17
  go_wp2
  go_ret
  exact ⟨rfl, Kept.refl _ _⟩
theorem hrehash_nil (n : Int) (w : World) : Calls Tryz.prog 18 #[.pointer none, .int .i64 n] w fun e w' => e = .returned (.int .i64 2) ∧ Kept No w w' := by
  go_enter Tryz.func18, Tryz.ntmps18
  go_wp2
  go_ret
  exact ⟨rfl, Kept.refl _ _⟩
theorem hfinish_nil  (w : World) : Calls Tryz.prog 19 #[.pointer none] w fun e w' => e = .returned (.int .i64 2) ∧ Kept No w w' := by
  go_enter Tryz.func19, Tryz.ntmps19
  go_wp2
  go_ret
  exact ⟨rfl, Kept.refl _ _⟩
set_option maxHeartbeats 2000000 in
theorem hnames_walk (w : World) : Calls Tryz.prog 3 #[] w fun e w' => e = .returned (.bool true) ∧ Below w.heap.size w w' := by
  go_enter Tryz.func3, Tryz.ntmps3
  have k0 : Kept No w w := Kept.refl _ _
  go_wp2_with fail
  refine (hopen_nil _ _).mono ?_
  rintro e w1 ⟨rfl, k1⟩
  replace k0 := k0.trans k1
  clear k1
  go_wp2_with fail
  refine (hsnap_nil  _).mono ?_
  rintro e w2 ⟨rfl, k2⟩
  replace k0 := k0.trans k2
  clear k2
  go_wp2_with fail
  refine (hentries_nil _ _).mono ?_
  rintro e w3 ⟨rfl, k3⟩
  replace k0 := k0.trans k3
  clear k3
  go_wp2_with fail
  refine (hsum_nil _ _).mono ?_
  rintro e w4 ⟨rfl, k4⟩
  replace k0 := k0.trans k4
  clear k4
  go_wp2_with fail
  refine (hnext_nil _ _).mono ?_
  rintro e w5 ⟨rfl, k5⟩
  replace k0 := k0.trans k5
  clear k5
  go_wp2_with fail
  refine (hwidth_nil  _).mono ?_
  rintro e w6 ⟨rfl, k6⟩
  replace k0 := k0.trans k6
  clear k6
  go_wp2_with fail
  refine (hvalid_nil  _).mono ?_
  rintro e w7 ⟨rfl, k7⟩
  replace k0 := k0.trans k7
  clear k7
  go_wp2_with fail
  refine (hclosed_nil  _).mono ?_
  rintro e w8 ⟨rfl, k8⟩
  replace k0 := k0.trans k8
  clear k8
  go_wp2_with fail
  refine (hdirty_nil  _).mono ?_
  rintro e w9 ⟨rfl, k9⟩
  replace k0 := k0.trans k9
  clear k9
  go_wp2_with fail
  refine (hbuilding_nil  _).mono ?_
  rintro e w10 ⟨rfl, k10⟩
  replace k0 := k0.trans k10
  clear k10
  go_wp2_with fail
  refine (htouch_nil _ _ _).mono ?_
  rintro e w11 ⟨rfl, k11⟩
  replace k0 := k0.trans k11
  clear k11
  go_wp2_with fail
  refine (htouched_nil _ _).mono ?_
  rintro e w12 ⟨rfl, k12⟩
  replace k0 := k0.trans k12
  clear k12
  go_wp2_with fail
  refine (hrefresh_nil  _).mono ?_
  rintro e w13 ⟨rfl, k13⟩
  replace k0 := k0.trans k13
  clear k13
  go_wp2_with fail
  refine (hbegin_nil  _).mono ?_
  rintro e w14 ⟨rfl, k14⟩
  replace k0 := k0.trans k14
  clear k14
  go_wp2_with fail
  refine (hrehash_nil _ _).mono ?_
  rintro e w15 ⟨rfl, k15⟩
  replace k0 := k0.trans k15
  clear k15
  go_wp2_with fail
  refine (hfinish_nil  _).mono ?_
  rintro e w16 ⟨rfl, k16⟩
  replace k0 := k0.trans k16
  clear k16
  go_wp2_with fail
  go_ret
  exact ⟨rfl, k0.below (Nat.le_refl _) (fun _ _ h => h)⟩
end Go.Proofs.YtcopngmldcikgaaGreatDoor
