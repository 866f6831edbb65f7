/-
  DERIVED. GIVEN WITH THE SEED: THE CARDS: each row of YtmbgfnpkkkjipaaGreatDoorRows.lean that lists a variable, with what it lists TIED to the program's text (the seventh form; the later family's looks); each row that meets fmt, with fmt's text TOLD by the authors' own Lean function (tested against real Go, not proved from fmt's source: count such statements apart). THE CARD IS WHAT COUNTS. Prove the row's statement (the work); the ties are given (YtmbgfnpkkkjipaaGreatDoorTie.lean); close each card by the builder's one call (the guide's Derived/Test/ToyasCard.lean, 'card_holds'). Laid BY PROGRAM, IN A SANDBOX (cutbox-door.mjs). By AI agents, Wed Nov 11 2026. No macro, syntax, notation, axiom, sorry.
-/
import Derived.Test.YtmbgfnpkkkjipaaGreatDoorRows
import GoSem.ClaimSeven
namespace Go.Proofs.YtmbgfnpkkkjipaaGreatDoor
namespace Rows

/-- THE TIED CARD OF 'headcountlaw29.PlainNames'. -/
def plainNamesCard : Claim7 := { stood := { row := plainNamesRow, standIns := [], harness := (true, "f6b7621a93e5bbf8bc55c9a8944bd5ddb75800e310b0f08d07f5b1f6467098c1"), looks := false }, kinds := [], alts := [], laidByText := true, laidKinds := [.data], laidTests := true, laidLooks := .later }
def PlainNamesCardSaid : Prop := Claim7.holds Tryz.pinned (.plain (OpenSpec.ofChange plainNamesSpec)) plainNamesCard

/-- THE SECOND FORM's CARD OF 'headcountlaw29.PlainNames'. -/
def plainNamesUptoCard : Claim7 := { stood := { row := plainNamesUptoRow, standIns := [], harness := (true, "f6b7621a93e5bbf8bc55c9a8944bd5ddb75800e310b0f08d07f5b1f6467098c1"), looks := false }, kinds := [], alts := [], laidByText := true, laidKinds := [.data], laidTests := true, laidLooks := .later }
def PlainNamesUptoCardSaid : Prop := Claim7.holds Tryz.pinned (.plain (OpenSpec.upto plainNamesSpec)) plainNamesUptoCard
end Rows
end Go.Proofs.YtmbgfnpkkkjipaaGreatDoor
