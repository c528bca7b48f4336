/-
  No cell of these rows narrows 'for every input' (looked for: loops, veiled, ifaces, maps, wideKeys, modest, calm, conditions, laid).
  DERIVED. THE GIVEN ROWS OF THIS SEAT. 6 by the template 'for every input the law returns true; each argument reads behind the call as it read before'; 0 by the template 'total and deterministic' (their statements: YtabhieafjkaocaaGreatTotals.lean).
  GIVEN WITH THE SEED: the statements are not yours to turn. If you find one false, say at which input.
  Laid BY PROGRAM, IN A SANDBOX (cutbox-rows.mjs): the forced cells as the released guide's own fill.sh prints them over the translation 16f1f1ad6b300ed1… (all of the seat's roots in one cut). By AI agents, Wed Nov 11 2026. No macro, syntax, notation, axiom, sorry.
-/
import Derived.Test.YtabhieafjkaocaaGreatChecked
import GoSem.Claim
import GoSem.ClaimJoined
import GoSem.ClaimMapViews
import Derived.JoinedTies
import Derived.KernelRfl
namespace Go.Proofs.YtabhieafjkaocaaGreat
/- THE CELL 'sum', in the pinned program and in every row, IS THE sha256 OF THE DUMP (.gsa) THAT YtabhieafjkaocaaGreatProg.lean LOADS. Nothing in Lean hashes anything: it is a label: what it is worth is what the hold of that sum in a sandbox is worth. -/
noncomputable def Tryz.pinned : Pinned := { name := "ytabhieafjkaocaagreat", sum := "16f1f1ad6b300ed1d1b8ad4be765179ac000b57c5c4d05ca3de29cf9892e94cd", checked := Tryz.checked }
namespace Rows
def none {H : Type} : Left H := { results := [], args := [] }

/-- 'concordlaw07.StoreNames': WHATEVER THE INPUT: true; the input reads as it did. -/
def storeNamesSpec : ChangeSpec := { name := "storeNames", fn := fun _ => fun
  | [] => { results := [.lit (.bool true)], args := [] }
  | _ => none }
def storeNamesRow : OpenClaim := { program := "ytabhieafjkaocaagreat", sum := "16f1f1ad6b300ed1d1b8ad4be765179ac000b57c5c4d05ca3de29cf9892e94cd", func := "concord/concordlaw07.StoreNames", spec := "storeNames", unfollowed := true, recurses := true, apart := false }
def StoreNamesSaid : Prop := storeNamesRow.holds Tryz.pinned (OpenSpec.ofChange storeNamesSpec)

/-- ITS FALSE NEIGHBOUR: 'it returns false'. Refute it at one input. -/
def storeNamesWrong : ChangeSpec := { name := "storeNames", fn := fun _ => fun
  | [] => { results := [.lit (.bool false)], args := [] }
  | _ => none }
def StoreNamesWrongFalsely : Prop := storeNamesRow.holds Tryz.pinned (OpenSpec.ofChange storeNamesWrong)

/-- 'concordlaw07.StoreSpace': WHATEVER THE INPUT: true; the input reads as it did. -/
def storeSpaceSpec : ChangeSpec := { name := "storeSpace", fn := fun _ => fun
  | [d1, d2] => { results := [.lit (.bool true)], args := [d1, d2] }
  | _ => none }
def storeSpaceRow : OpenClaim := { program := "ytabhieafjkaocaagreat", sum := "16f1f1ad6b300ed1d1b8ad4be765179ac000b57c5c4d05ca3de29cf9892e94cd", func := "concord/concordlaw07.StoreSpace", spec := "storeSpace", unfollowed := true, recurses := true, apart := false }
def StoreSpaceSaid : Prop := storeSpaceRow.holds Tryz.pinned (OpenSpec.ofChange storeSpaceSpec)

/-- ITS FALSE NEIGHBOUR: 'it returns false'. Refute it at one input. -/
def storeSpaceWrong : ChangeSpec := { name := "storeSpace", fn := fun _ => fun
  | [d1, d2] => { results := [.lit (.bool false)], args := [d1, d2] }
  | _ => none }
def StoreSpaceWrongFalsely : Prop := storeSpaceRow.holds Tryz.pinned (OpenSpec.ofChange storeSpaceWrong)

/-- 'concordlaw07.StoreAtomic': WHATEVER THE INPUT: true; the input reads as it did. -/
def storeAtomicSpec : ChangeSpec := { name := "storeAtomic", fn := fun _ => fun
  | [d1, d2, d3] => { results := [.lit (.bool true)], args := [d1, d2, d3] }
  | _ => none }
def storeAtomicRow : OpenClaim := { program := "ytabhieafjkaocaagreat", sum := "16f1f1ad6b300ed1d1b8ad4be765179ac000b57c5c4d05ca3de29cf9892e94cd", func := "concord/concordlaw07.StoreAtomic", spec := "storeAtomic", unfollowed := true, recurses := true, apart := false }
def StoreAtomicSaid : Prop := storeAtomicRow.holds Tryz.pinned (OpenSpec.ofChange storeAtomicSpec)

/-- ITS FALSE NEIGHBOUR: 'it returns false'. Refute it at one input. -/
def storeAtomicWrong : ChangeSpec := { name := "storeAtomic", fn := fun _ => fun
  | [d1, d2, d3] => { results := [.lit (.bool false)], args := [d1, d2, d3] }
  | _ => none }
def StoreAtomicWrongFalsely : Prop := storeAtomicRow.holds Tryz.pinned (OpenSpec.ofChange storeAtomicWrong)

/-- 'concordlaw07.StoreUnseen': WHATEVER THE INPUT: true; the input reads as it did. -/
def storeUnseenSpec : ChangeSpec := { name := "storeUnseen", fn := fun _ => fun
  | [d1, d2, d3] => { results := [.lit (.bool true)], args := [d1, d2, d3] }
  | _ => none }
def storeUnseenRow : OpenClaim := { program := "ytabhieafjkaocaagreat", sum := "16f1f1ad6b300ed1d1b8ad4be765179ac000b57c5c4d05ca3de29cf9892e94cd", func := "concord/concordlaw07.StoreUnseen", spec := "storeUnseen", unfollowed := true, recurses := true, apart := false }
def StoreUnseenSaid : Prop := storeUnseenRow.holds Tryz.pinned (OpenSpec.ofChange storeUnseenSpec)

/-- ITS FALSE NEIGHBOUR: 'it returns false'. Refute it at one input. -/
def storeUnseenWrong : ChangeSpec := { name := "storeUnseen", fn := fun _ => fun
  | [d1, d2, d3] => { results := [.lit (.bool false)], args := [d1, d2, d3] }
  | _ => none }
def StoreUnseenWrongFalsely : Prop := storeUnseenRow.holds Tryz.pinned (OpenSpec.ofChange storeUnseenWrong)

/-- 'concordlaw07.StorePlays': WHATEVER THE INPUT: true; the input reads as it did. -/
def storePlaysSpec : ChangeSpec := { name := "storePlays", fn := fun _ => fun
  | [d1, d2, d3] => { results := [.lit (.bool true)], args := [d1, d2, d3] }
  | _ => none }
def storePlaysRow : OpenClaim := { program := "ytabhieafjkaocaagreat", sum := "16f1f1ad6b300ed1d1b8ad4be765179ac000b57c5c4d05ca3de29cf9892e94cd", func := "concord/concordlaw07.StorePlays", spec := "storePlays", unfollowed := true, recurses := true, apart := false }
def StorePlaysSaid : Prop := storePlaysRow.holds Tryz.pinned (OpenSpec.ofChange storePlaysSpec)

/-- ITS FALSE NEIGHBOUR: 'it returns false'. Refute it at one input. -/
def storePlaysWrong : ChangeSpec := { name := "storePlays", fn := fun _ => fun
  | [d1, d2, d3] => { results := [.lit (.bool false)], args := [d1, d2, d3] }
  | _ => none }
def StorePlaysWrongFalsely : Prop := storePlaysRow.holds Tryz.pinned (OpenSpec.ofChange storePlaysWrong)

/-- 'concordlaw07.StoreDisks': WHATEVER THE INPUT: true; the input reads as it did. -/
def storeDisksSpec : ChangeSpec := { name := "storeDisks", fn := fun _ => fun
  | [d1, d2, d3] => { results := [.lit (.bool true)], args := [d1, d2, d3] }
  | _ => none }
def storeDisksRow : OpenClaim := { program := "ytabhieafjkaocaagreat", sum := "16f1f1ad6b300ed1d1b8ad4be765179ac000b57c5c4d05ca3de29cf9892e94cd", func := "concord/concordlaw07.StoreDisks", spec := "storeDisks", unfollowed := true, recurses := true, apart := false }
def StoreDisksSaid : Prop := storeDisksRow.holds Tryz.pinned (OpenSpec.ofChange storeDisksSpec)

/-- ITS FALSE NEIGHBOUR: 'it returns false'. Refute it at one input. -/
def storeDisksWrong : ChangeSpec := { name := "storeDisks", fn := fun _ => fun
  | [d1, d2, d3] => { results := [.lit (.bool false)], args := [d1, d2, d3] }
  | _ => none }
def StoreDisksWrongFalsely : Prop := storeDisksRow.holds Tryz.pinned (OpenSpec.ofChange storeDisksWrong)

/- THE SECOND FORM. 'bulk': how many values and letters a reading holds, each counted each time it is reached (what is shared counts as often as it is met; a slice's spare places count too). A statement '..UptoSaid' is the law's where the arguments, and the package variables that the reading takes, are together of bulk at most 1048576: NARROWER than '..Said'. Prove '..Said' where nothing that the law and all that it calls make is longer than what came in: it says more and counts as full. Else prove '..UptoSaid'. A law counts once. -/
mutual
def uptoBulk {H : Type} : DataW H → Nat
  | .lit (.string bytes) => bytes.length + 1
  | .lit _ => 1
  | .nil => 1
  | .ptr d => uptoBulk d + 1
  | .slice elems spare => uptoBulkAll elems + uptoBulkAll spare + 1
  | .agg parts => uptoBulkAll parts + 1
  | .iface _ d => uptoBulk d + 1
  | .map entries => uptoBulkEntries entries + 1
  | .held _ => 1
def uptoBulkAll {H : Type} : List (DataW H) → Nat
  | [] => 0
  | d :: r => uptoBulk d + uptoBulkAll r
def uptoBulkEntries {H : Type} : List (Lit × DataW H) → Nat
  | [] => 0
  | x :: r => uptoBulkEntry x + uptoBulkEntries r
def uptoBulkEntry {H : Type} : Lit × DataW H → Nat
  | (.string bytes, d) => bytes.length + uptoBulk d + 1
  | (_, d) => uptoBulk d + 1
 end
def uptoSmall : (H : Type) → List (DataW H) → Bool := fun _ ds => decide (uptoBulkAll ds ≤ 1048576)
def OpenSpec.upto (s : _root_.Go.ChangeSpec) : _root_.Go.OpenSpec := { _root_.Go.OpenSpec.ofChange s with cond := some uptoSmall }

/-- 'concordlaw07.StoreNames', WHERE WHAT IT READS IS OF BULK AT MOST 1048576: true; the input reads as it did. -/
def storeNamesUptoRow : OpenClaim := { program := "ytabhieafjkaocaagreat", sum := "16f1f1ad6b300ed1d1b8ad4be765179ac000b57c5c4d05ca3de29cf9892e94cd", func := "concord/concordlaw07.StoreNames", spec := "storeNames", unfollowed := true, recurses := true, apart := false, narrowed := true }
def StoreNamesUptoSaid : Prop := storeNamesUptoRow.holds Tryz.pinned (OpenSpec.upto storeNamesSpec)

/-- 'concordlaw07.StoreSpace', WHERE WHAT IT READS IS OF BULK AT MOST 1048576: true; the input reads as it did. -/
def storeSpaceUptoRow : OpenClaim := { program := "ytabhieafjkaocaagreat", sum := "16f1f1ad6b300ed1d1b8ad4be765179ac000b57c5c4d05ca3de29cf9892e94cd", func := "concord/concordlaw07.StoreSpace", spec := "storeSpace", unfollowed := true, recurses := true, apart := false, narrowed := true }
def StoreSpaceUptoSaid : Prop := storeSpaceUptoRow.holds Tryz.pinned (OpenSpec.upto storeSpaceSpec)

/-- 'concordlaw07.StoreAtomic', WHERE WHAT IT READS IS OF BULK AT MOST 1048576: true; the input reads as it did. -/
def storeAtomicUptoRow : OpenClaim := { program := "ytabhieafjkaocaagreat", sum := "16f1f1ad6b300ed1d1b8ad4be765179ac000b57c5c4d05ca3de29cf9892e94cd", func := "concord/concordlaw07.StoreAtomic", spec := "storeAtomic", unfollowed := true, recurses := true, apart := false, narrowed := true }
def StoreAtomicUptoSaid : Prop := storeAtomicUptoRow.holds Tryz.pinned (OpenSpec.upto storeAtomicSpec)

/-- 'concordlaw07.StoreUnseen', WHERE WHAT IT READS IS OF BULK AT MOST 1048576: true; the input reads as it did. -/
def storeUnseenUptoRow : OpenClaim := { program := "ytabhieafjkaocaagreat", sum := "16f1f1ad6b300ed1d1b8ad4be765179ac000b57c5c4d05ca3de29cf9892e94cd", func := "concord/concordlaw07.StoreUnseen", spec := "storeUnseen", unfollowed := true, recurses := true, apart := false, narrowed := true }
def StoreUnseenUptoSaid : Prop := storeUnseenUptoRow.holds Tryz.pinned (OpenSpec.upto storeUnseenSpec)

/-- 'concordlaw07.StorePlays', WHERE WHAT IT READS IS OF BULK AT MOST 1048576: true; the input reads as it did. -/
def storePlaysUptoRow : OpenClaim := { program := "ytabhieafjkaocaagreat", sum := "16f1f1ad6b300ed1d1b8ad4be765179ac000b57c5c4d05ca3de29cf9892e94cd", func := "concord/concordlaw07.StorePlays", spec := "storePlays", unfollowed := true, recurses := true, apart := false, narrowed := true }
def StorePlaysUptoSaid : Prop := storePlaysUptoRow.holds Tryz.pinned (OpenSpec.upto storePlaysSpec)

/-- 'concordlaw07.StoreDisks', WHERE WHAT IT READS IS OF BULK AT MOST 1048576: true; the input reads as it did. -/
def storeDisksUptoRow : OpenClaim := { program := "ytabhieafjkaocaagreat", sum := "16f1f1ad6b300ed1d1b8ad4be765179ac000b57c5c4d05ca3de29cf9892e94cd", func := "concord/concordlaw07.StoreDisks", spec := "storeDisks", unfollowed := true, recurses := true, apart := false, narrowed := true }
def StoreDisksUptoSaid : Prop := storeDisksUptoRow.holds Tryz.pinned (OpenSpec.upto storeDisksSpec)

end Rows
end Go.Proofs.YtabhieafjkaocaaGreat
