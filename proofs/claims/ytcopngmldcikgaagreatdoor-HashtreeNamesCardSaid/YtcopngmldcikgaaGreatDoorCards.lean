/-
  DERIVED. GIVEN WITH THE SEED: THE CARDS: each row of YtcopngmldcikgaaGreatDoorRows.lean that lists a variable, with what it lists TIED to the program's text (the seventh form; the later family's looks); each row that meets fmt, with fmt's text TOLD by the authors' own Lean function (tested against real Go, not proved from fmt's source: count such statements apart). THE CARD IS WHAT COUNTS. Prove the row's statement (the work); the ties are given (YtcopngmldcikgaaGreatDoorTie.lean); close each card by the builder's one call (the guide's Derived/Test/ToyasCard.lean, 'card_holds'). Laid BY PROGRAM, IN A SANDBOX (cutbox-door.mjs). By AI agents, Wed Nov 11 2026. No macro, syntax, notation, axiom, sorry.
-/
import Derived.Test.YtcopngmldcikgaaGreatDoorRows
import GoSem.ClaimSeven
namespace Go.Proofs.YtcopngmldcikgaaGreatDoor
namespace Rows

/-- THE TIED CARD OF 'concordlaw17.HashtreeNames'. -/
def hashtreeNamesCard : Claim7 := { stood := { row := hashtreeNamesRow, standIns := [], harness := (true, "f9b0aac79961681728fbb68d26e3db0a12848e565a05256e09c805d9ec33a72d"), looks := false }, kinds := [], alts := [], laidByText := true, laidKinds := [.data], laidTests := true, laidLooks := .later }
def HashtreeNamesCardSaid : Prop := Claim7.holds Tryz.pinned (.plain (OpenSpec.ofChange hashtreeNamesSpec)) hashtreeNamesCard

/-- THE SECOND FORM's CARD OF 'concordlaw17.HashtreeNames'. -/
def hashtreeNamesUptoCard : Claim7 := { stood := { row := hashtreeNamesUptoRow, standIns := [], harness := (true, "f9b0aac79961681728fbb68d26e3db0a12848e565a05256e09c805d9ec33a72d"), looks := false }, kinds := [], alts := [], laidByText := true, laidKinds := [.data], laidTests := true, laidLooks := .later }
def HashtreeNamesUptoCardSaid : Prop := Claim7.holds Tryz.pinned (.plain (OpenSpec.upto hashtreeNamesSpec)) hashtreeNamesUptoCard
end Rows
end Go.Proofs.YtcopngmldcikgaaGreatDoor
