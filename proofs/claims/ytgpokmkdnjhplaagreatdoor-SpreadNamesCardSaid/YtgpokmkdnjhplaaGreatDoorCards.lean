/-
  DERIVED. GIVEN WITH THE SEED: THE CARDS: each row of YtgpokmkdnjhplaaGreatDoorRows.lean that lists a variable, with what it lists TIED to the program's text (the seventh form; the later family's looks); each row that meets fmt, with fmt's text TOLD by the authors' own Lean function (tested against real Go, not proved from fmt's source: count such statements apart). THE CARD IS WHAT COUNTS. Prove the row's statement (the work); the ties are given (YtgpokmkdnjhplaaGreatDoorTie.lean); close each card by the builder's one call (the guide's Derived/Test/ToyasCard.lean, 'card_holds'). Laid BY PROGRAM, IN A SANDBOX (cutbox-door.mjs). By AI agents, Wed Nov 11 2026. No macro, syntax, notation, axiom, sorry.
-/
import Derived.Test.YtgpokmkdnjhplaaGreatDoorRows
import GoSem.ClaimSeven
namespace Go.Proofs.YtgpokmkdnjhplaaGreatDoor
namespace Rows

/-- THE TIED CARD OF 'headcountlaw24.ActNames'. -/
def actNamesCard : Claim7 := { stood := { row := actNamesRow, standIns := [], harness := (true, "c3ce989b0203cd323c086482f05f4febf5ffc73329f87476f2c22a959753ca5d"), looks := true }, kinds := [], alts := [], laidByText := true, laidKinds := [.data], laidTests := true, laidLooks := .later }
def ActNamesCardSaid : Prop := Claim7.holds Tryz.pinned (.plain (OpenSpec.ofChange actNamesSpec)) actNamesCard

/-- THE TIED CARD OF 'headcountlaw29.PlainNames'. -/
def plainNamesCard : Claim7 := { stood := { row := plainNamesRow, standIns := [], harness := (true, "c3ce989b0203cd323c086482f05f4febf5ffc73329f87476f2c22a959753ca5d"), looks := true }, kinds := [], alts := [], laidByText := true, laidKinds := [.data], laidTests := true, laidLooks := .later }
def PlainNamesCardSaid : Prop := Claim7.holds Tryz.pinned (.plain (OpenSpec.ofChange plainNamesSpec)) plainNamesCard

/-- THE TIED CARD OF 'headcountlaw23.HearNames'. -/
def hearNamesCard : Claim7 := { stood := { row := hearNamesRow, standIns := [], harness := (true, "c3ce989b0203cd323c086482f05f4febf5ffc73329f87476f2c22a959753ca5d"), looks := true }, kinds := [], alts := [], laidByText := true, laidKinds := [.data], laidTests := true, laidLooks := .later }
def HearNamesCardSaid : Prop := Claim7.holds Tryz.pinned (.plain (OpenSpec.ofChange hearNamesSpec)) hearNamesCard

/-- THE TIED CARD OF 'headcountlaw30.SpreadNames'. -/
def spreadNamesCard : Claim7 := { stood := { row := spreadNamesRow, standIns := [], harness := (true, "c3ce989b0203cd323c086482f05f4febf5ffc73329f87476f2c22a959753ca5d"), looks := true }, kinds := [], alts := [], laidByText := true, laidKinds := [.data], laidTests := true, laidLooks := .later }
def SpreadNamesCardSaid : Prop := Claim7.holds Tryz.pinned (.plain (OpenSpec.ofChange spreadNamesSpec)) spreadNamesCard

/-- THE SECOND FORM's CARD OF 'headcountlaw24.ActNames'. -/
def actNamesUptoCard : Claim7 := { stood := { row := actNamesUptoRow, standIns := [], harness := (true, "c3ce989b0203cd323c086482f05f4febf5ffc73329f87476f2c22a959753ca5d"), looks := true }, kinds := [], alts := [], laidByText := true, laidKinds := [.data], laidTests := true, laidLooks := .later }
def ActNamesUptoCardSaid : Prop := Claim7.holds Tryz.pinned (.plain (OpenSpec.upto actNamesSpec)) actNamesUptoCard

/-- THE SECOND FORM's CARD OF 'headcountlaw29.PlainNames'. -/
def plainNamesUptoCard : Claim7 := { stood := { row := plainNamesUptoRow, standIns := [], harness := (true, "c3ce989b0203cd323c086482f05f4febf5ffc73329f87476f2c22a959753ca5d"), looks := true }, kinds := [], alts := [], laidByText := true, laidKinds := [.data], laidTests := true, laidLooks := .later }
def PlainNamesUptoCardSaid : Prop := Claim7.holds Tryz.pinned (.plain (OpenSpec.upto plainNamesSpec)) plainNamesUptoCard

/-- THE SECOND FORM's CARD OF 'headcountlaw23.HearNames'. -/
def hearNamesUptoCard : Claim7 := { stood := { row := hearNamesUptoRow, standIns := [], harness := (true, "c3ce989b0203cd323c086482f05f4febf5ffc73329f87476f2c22a959753ca5d"), looks := true }, kinds := [], alts := [], laidByText := true, laidKinds := [.data], laidTests := true, laidLooks := .later }
def HearNamesUptoCardSaid : Prop := Claim7.holds Tryz.pinned (.plain (OpenSpec.upto hearNamesSpec)) hearNamesUptoCard

/-- THE SECOND FORM's CARD OF 'headcountlaw30.SpreadNames'. -/
def spreadNamesUptoCard : Claim7 := { stood := { row := spreadNamesUptoRow, standIns := [], harness := (true, "c3ce989b0203cd323c086482f05f4febf5ffc73329f87476f2c22a959753ca5d"), looks := true }, kinds := [], alts := [], laidByText := true, laidKinds := [.data], laidTests := true, laidLooks := .later }
def SpreadNamesUptoCardSaid : Prop := Claim7.holds Tryz.pinned (.plain (OpenSpec.upto spreadNamesSpec)) spreadNamesUptoCard
end Rows
end Go.Proofs.YtgpokmkdnjhplaaGreatDoor
