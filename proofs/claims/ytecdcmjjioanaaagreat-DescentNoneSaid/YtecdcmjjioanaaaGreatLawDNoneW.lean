/- The walk of DescentNone. -/
import Derived.Test.YtecdcmjjioanaaaGreatDnD
namespace Go.Proofs.YtecdcmjjioanaaaGreat
open Go.RowKit Go.Lib
set_option linter.unusedVariables false
set_option maxRecDepth 100000

set_option maxHeartbeats 8000000 in
theorem dnone_walk (w : World) : Calls Tryz.prog 3 #[] w fun e w' => e = .returned (.bool true) ∧ Below w.heap.size w w' := by
  go_enter Tryz.func3, Tryz.ntmps3
  go_wp2_with fail
  refine (dnext_nil _).mono ?_
  rintro e w1 ⟨rfl, k1⟩
  unfold msgRow
  go_wp2_with fail
  refine (ddiffs_nil _).mono ?_
  rintro e w' ⟨rfl, rfl⟩
  have K1 : Hid (Kept No w (w1.alloc (.cells (msgRow 0 0) 34))) := Lib.hid (k1.alloc _)
  clear k1
  unfold msgRow at K1
  go_wp2_with fail
  have e0 : (Value.string { data := #[] }) = .string ByteArray.empty := rfl
  have HE := Lib.hid e0
  clear e0
  rw [HE.out]
  refine (dtake_nil _).mono ?_
  rintro e w2 ⟨rfl, k2⟩
  have K2 : Hid (Kept No w w2) := Lib.hid (K1.out.trans k2)
  clear k2 K1
  go_wp2_with fail
  refine (ddone_nil _).mono ?_
  rintro e w' ⟨rfl, rfl⟩
  go_wp2_with fail
  refine (dasked_nil _).mono ?_
  rintro e w' ⟨rfl, rfl⟩
  go_wp2_with fail
  refine (build_none 2 (by decide) (by decide) _).mono ?_
  rintro e w3 ⟨t, rfl, tl, k3, hT⟩
  have HT := Lib.hid hT
  have K3 : Hid (Kept No w w3) := Lib.hid (K2.out.trans k3)
  clear k3 K2 hT tl
  go_wp2_with fail
  refine (new_nil _ _ _ _).mono ?_
  rintro e w' ⟨rfl, rfl⟩
  go_wp2_with fail
  refine (new_sum t _ HT.out).mono ?_
  rintro e w' ⟨rfl, rfl⟩
  go_wp2_with fail
  refine (new_few t _ HT.out).mono ?_
  rintro e w' ⟨rfl, rfl⟩
  go_wp2_with fail
  refine (new_many t _ HT.out).mono ?_
  rintro e w' ⟨rfl, rfl⟩
  go_wp2_with fail
  refine (new_down t _ HT.out).mono ?_
  rintro e w4 ⟨g, rg, rfl, k4, hg4, g2, g16, g17, g18⟩
  have HT4 := Lib.hid (k4.heap HT.out (fun h => h))
  have HG4 := Lib.hid hg4
  have GR := Lib.hid (And.intro g2 (And.intro g16 (And.intro g17 g18)))
  have K4 : Hid (Kept No w w4) := Lib.hid (K3.out.trans k4)
  clear k4 K3 HT hg4 g2 g16 g17 g18
  go_wp2_with fail
  refine (new_done t _ HT4.out).mono ?_
  rintro e w5 ⟨i, ri, rfl, k5, hi5, i16, i17⟩
  have HG5 := Lib.hid (k5.heap HG4.out (fun h => h))
  have HI5 := Lib.hid hi5
  have IR := Lib.hid (And.intro i16 i17)
  have K5 : Hid (Kept No w w5) := Lib.hid (K4.out.trans k5)
  clear k5 K4 HT4 HG4 hi5 i16 i17
  have G16 := Lib.hid ((cell_of_row w5 g 16 _ _ _ HG5.out).trans GR.out.2.1)
  have I16 := Lib.hid ((cell_of_row w5 i 16 _ _ _ HI5.out).trans IR.out.1)
  have I17 := Lib.hid ((cell_of_row w5 i 17 _ _ _ HI5.out).trans IR.out.2)
  go_wp2_with fail
  refine (ddone_ok g false _ G16.out).mono ?_
  rintro e w' ⟨rfl, rfl⟩
  go_wp2_with fail
  refine (ddone_ok i true _ I16.out).mono ?_
  rintro e w' ⟨rfl, rfl⟩
  go_wp2_with fail
  refine (ddiffs_busy g _ G16.out).mono ?_
  rintro e w' ⟨rfl, rfl⟩
  go_wp2_with fail
  refine (ddiffs_done i _ I16.out I17.out).mono ?_
  rintro e w' ⟨rfl, rfl⟩
  go_wp2_with fail
  rw [HE.out]
  refine (dtake_done i _ (lt_of_heap HI5.out) I16.out).mono ?_
  rintro e w6 ⟨rfl, k6⟩
  have HG6 := Lib.hid (k6.heap HG5.out (fun h => h))
  have K6 : Hid (Kept No w w6) := Lib.hid (K5.out.trans k6)
  clear k6 K5 HG5 HI5 IR I16 I17 G16
  go_wp2_with fail
  rw [HE.out]
  refine (dtake_none g _ ((cell_of_row w6 g 16 _ _ _ HG6.out).trans GR.out.2.1) ((cell_of_row w6 g 2 _ _ _ HG6.out).trans GR.out.1)).mono ?_
  rintro e w7 ⟨rfl, k7⟩
  have HG7 := Lib.hid (k7.heap HG6.out (fun h => h))
  have K7 : Hid (Kept No w w7) := Lib.hid (K6.out.trans k7)
  clear k7 K6 HG6
  go_wp2_with fail
  rw [HE.out]
  refine (dtake_refused g _ ((cell_of_row w7 g 16 _ _ _ HG7.out).trans GR.out.2.1) ((cell_of_row w7 g 2 _ _ _ HG7.out).trans GR.out.1)).mono ?_
  rintro e w8 ⟨rfl, k8⟩
  have HG8 := Lib.hid (k8.heap HG7.out (fun h => h))
  have K8 : Hid (Kept No w w8) := Lib.hid (K7.out.trans k8)
  clear k8 K7 HG7
  go_wp2_with fail
  refine (dasked_ok g _ ((cell_of_row w8 g 18 _ _ _ HG8.out).trans GR.out.2.2.2)).mono ?_
  rintro e w' ⟨rfl, rfl⟩
  go_wp2_with fail
  go_ret
  exact ⟨rfl, K8.out.below (Nat.le_refl _) (fun _ _ h => h)⟩
end Go.Proofs.YtecdcmjjioanaaaGreat
