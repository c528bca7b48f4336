/-
  DERIVED. GIVEN WITH THE SEED: THE CARDS: each row of YtagbclijbeodaaaDoorRows.lean that lists a variable, with what it lists TIED to the program's text (the seventh form; the later family's looks); each row that meets fmt, with fmt's text TOLD by the authors' own Lean function (tested against real Go, not proved from fmt's source: count such statements apart). THE CARD IS WHAT COUNTS. Prove the row's statement (the work); the ties are given (YtagbclijbeodaaaDoorTie.lean); close each card by the builder's one call (the guide's Derived/Test/ToyasCard.lean, 'card_holds'). Laid BY PROGRAM, IN A SANDBOX (cutbox-door.mjs). By AI agents, Wed Nov 11 2026. No macro, syntax, notation, axiom, sorry.
-/
import Derived.Test.YtagbclijbeodaaaDoorRows
import GoSem.ClaimSeven
namespace Go.Proofs.YtagbclijbeodaaaDoor
namespace Rows

/-- THE TIED CARD OF 'concordlaw03.BitmapEach'. -/
def bitmapEachCard : Claim7 := { stood := { row := bitmapEachRow, standIns := [], harness := (true, "14b4a6e501a22ee85b04625430065710c49f7c853cdf0404e2461329e76c03e0"), looks := false }, kinds := [], alts := [], laidByText := true, laidKinds := [.data], laidTests := true, laidLooks := .later }
def BitmapEachCardSaid : Prop := Claim7.holds Tryd.pinned (.plain (OpenSpec.ofChange bitmapEachSpec)) bitmapEachCard

/-- THE TIED CARD OF 'concordlaw03.BitmapNext'. -/
def bitmapNextCard : Claim7 := { stood := { row := bitmapNextRow, standIns := [], harness := (true, "14b4a6e501a22ee85b04625430065710c49f7c853cdf0404e2461329e76c03e0"), looks := false }, kinds := [], alts := [], laidByText := true, laidKinds := [.data], laidTests := true, laidLooks := .later }
def BitmapNextCardSaid : Prop := Claim7.holds Tryd.pinned (.plain (OpenSpec.ofChange bitmapNextSpec)) bitmapNextCard

/-- THE SECOND FORM's CARD OF 'concordlaw03.BitmapEach'. -/
def bitmapEachUptoCard : Claim7 := { stood := { row := bitmapEachUptoRow, standIns := [], harness := (true, "14b4a6e501a22ee85b04625430065710c49f7c853cdf0404e2461329e76c03e0"), looks := false }, kinds := [], alts := [], laidByText := true, laidKinds := [.data], laidTests := true, laidLooks := .later }
def BitmapEachUptoCardSaid : Prop := Claim7.holds Tryd.pinned (.plain (OpenSpec.upto bitmapEachSpec)) bitmapEachUptoCard

/-- THE SECOND FORM's CARD OF 'concordlaw03.BitmapNext'. -/
def bitmapNextUptoCard : Claim7 := { stood := { row := bitmapNextUptoRow, standIns := [], harness := (true, "14b4a6e501a22ee85b04625430065710c49f7c853cdf0404e2461329e76c03e0"), looks := false }, kinds := [], alts := [], laidByText := true, laidKinds := [.data], laidTests := true, laidLooks := .later }
def BitmapNextUptoCardSaid : Prop := Claim7.holds Tryd.pinned (.plain (OpenSpec.upto bitmapNextSpec)) bitmapNextUptoCard
end Rows
end Go.Proofs.YtagbclijbeodaaaDoor
