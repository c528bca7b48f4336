/- ClusterNames: the tied card. -/
import Derived.Test.YtjamohobeipinaaGreatDoorLawCNames
import Derived.SevenTiedAt
import Derived.Test.YtjamohobeipinaaGreatDoorTie
import Derived.Test.YtjamohobeipinaaGreatDoorCards
namespace Go.Proofs.YtjamohobeipinaaGreatDoor
open Go.ChangeShapes Go.WideShapes Go.ChangeAt Go.RowKit
set_option linter.unusedVariables false
theorem clusterNames_holds : Rows.ClusterNamesCardSaid :=
  Claim7.holds_tied_plain_at .later [] [.data] true (true, "703fceb6d5fabb7b192567474f1407f4d3832427f8e40b402ee7c94a43a344d5") true
    clusterNames_row (fun _ h => by cases h) (by kernel_rfl) (fun _ h => by cases h) clusterNames_row_tie rfl ⟨rfl, rfl⟩ (by kernel_rfl) rfl
    (fun f fn hf hfn => by
      obtain rfl : f = 3 := Option.some.inj ((show Tryz.prog.funcNamed "concord/concordlaw29.ClusterNames" = some 3 by kernel_rfl).symm.trans hf) |>.symm
      obtain rfl : fn = Tryz.f3 := (Option.some.inj (Tryz.func3.symm.trans hfn)).symm
      exact ⟨by kernel_rfl, fun j t ht => by
        rw [Tryz.params3] at ht
        have hm : t ∈ [] := by simpa using Array.mem_of_getElem? ht
        have hall : ([].all fun u => !Tryz.prog.wantsStandIn u) = true := by kernel_rfl
        exact (show Tryz.prog.wantsStandIn t = false by simpa using List.all_eq_true.1 hall t hm)⟩)
    (by kernel_rfl)
#print axioms clusterNames_holds
end Go.Proofs.YtjamohobeipinaaGreatDoor
