/-
  DERIVED. GIVEN WITH THE SEED: THE CARDS: each row of YtjamohobeipinaaGreatDoorRows.lean that lists a variable, with what it lists TIED to the program's text (the seventh form; the later family's looks); each row that meets fmt, with fmt's text TOLD by the authors' own Lean function (tested against real Go, not proved from fmt's source: count such statements apart). THE CARD IS WHAT COUNTS. Prove the row's statement (the work); the ties are given (YtjamohobeipinaaGreatDoorTie.lean); close each card by the builder's one call (the guide's Derived/Test/ToyasCard.lean, 'card_holds'). Laid BY PROGRAM, IN A SANDBOX (cutbox-door.mjs). By AI agents, Wed Nov 11 2026. No macro, syntax, notation, axiom, sorry.
-/
import Derived.Test.YtjamohobeipinaaGreatDoorRows
import GoSem.ClaimSeven
namespace Go.Proofs.YtjamohobeipinaaGreatDoor
namespace Rows

/-- THE TIED CARD OF 'concordlaw29.ClusterNames'. -/
def clusterNamesCard : Claim7 := { stood := { row := clusterNamesRow, standIns := [], harness := (true, "703fceb6d5fabb7b192567474f1407f4d3832427f8e40b402ee7c94a43a344d5"), looks := true }, kinds := [], alts := [], laidByText := true, laidKinds := [.data], laidTests := true, laidLooks := .later }
def ClusterNamesCardSaid : Prop := Claim7.holds Tryz.pinned (.plain (OpenSpec.ofChange clusterNamesSpec)) clusterNamesCard

/-- THE SECOND FORM's CARD OF 'concordlaw29.ClusterNames'. -/
def clusterNamesUptoCard : Claim7 := { stood := { row := clusterNamesUptoRow, standIns := [], harness := (true, "703fceb6d5fabb7b192567474f1407f4d3832427f8e40b402ee7c94a43a344d5"), looks := true }, kinds := [], alts := [], laidByText := true, laidKinds := [.data], laidTests := true, laidLooks := .later }
def ClusterNamesUptoCardSaid : Prop := Claim7.holds Tryz.pinned (.plain (OpenSpec.upto clusterNamesSpec)) clusterNamesUptoCard
end Rows
end Go.Proofs.YtjamohobeipinaaGreatDoor
