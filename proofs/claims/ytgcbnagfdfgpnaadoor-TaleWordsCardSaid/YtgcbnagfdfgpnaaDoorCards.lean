/-
  DERIVED. GIVEN WITH THE SEED: THE CARDS: each row of YtgcbnagfdfgpnaaDoorRows.lean that lists a variable, with what it lists TIED to the program's text (the seventh form; the later family's looks); each row that meets fmt, with fmt's text TOLD by the authors' own Lean function (tested against real Go, not proved from fmt's source: count such statements apart). THE CARD IS WHAT COUNTS. Prove the row's statement (the work); the ties are given (YtgcbnagfdfgpnaaDoorTie.lean); close each card by the builder's one call (the guide's Derived/Test/ToyasCard.lean, 'card_holds'). Laid BY PROGRAM, IN A SANDBOX (cutbox-door.mjs). By AI agents, Wed Nov 11 2026. No macro, syntax, notation, axiom, sorry.
-/
import Derived.Test.YtgcbnagfdfgpnaaDoorRows
import GoSem.ClaimSeven
namespace Go.Proofs.YtgcbnagfdfgpnaaDoor
namespace Rows

/-- THE TIED CARD OF 'headcountlaw30.SpreadBounds'. -/
def spreadBoundsCard : Claim7 := { stood := { row := spreadBoundsRow, standIns := [], harness := (true, "8da1dfd856d4764265a3898b99b3b241b8113995160b812bc4dba901a1cc626a"), looks := true }, kinds := [], alts := [], laidByText := true, laidKinds := [.data], laidTests := true, laidLooks := .later }
def SpreadBoundsCardSaid : Prop := Claim7.holds Tryd.pinned (.plain (OpenSpec.ofChange spreadBoundsSpec)) spreadBoundsCard

/-- THE TIED CARD OF 'headcountlaw30.SpreadMore'. -/
def spreadMoreCard : Claim7 := { stood := { row := spreadMoreRow, standIns := [], harness := (true, "8da1dfd856d4764265a3898b99b3b241b8113995160b812bc4dba901a1cc626a"), looks := true }, kinds := [], alts := [], laidByText := true, laidKinds := [.data], laidTests := true, laidLooks := .later }
def SpreadMoreCardSaid : Prop := Claim7.holds Tryd.pinned (.plain (OpenSpec.ofChange spreadMoreSpec)) spreadMoreCard

/-- THE TIED CARD OF 'headcountlaw30.SpreadTells'. -/
def spreadTellsCard : Claim7 := { stood := { row := spreadTellsRow, standIns := [], harness := (true, "8da1dfd856d4764265a3898b99b3b241b8113995160b812bc4dba901a1cc626a"), looks := true }, kinds := [], alts := [], laidByText := true, laidKinds := [.data], laidTests := true, laidLooks := .later }
def SpreadTellsCardSaid : Prop := Claim7.holds Tryd.pinned (.plain (OpenSpec.ofChange spreadTellsSpec)) spreadTellsCard

/-- THE TIED CARD OF 'headcountlaw32.TalePrints'. -/
def talePrintsCard : Claim7 := { stood := { row := talePrintsRow, standIns := [], harness := (true, "8da1dfd856d4764265a3898b99b3b241b8113995160b812bc4dba901a1cc626a"), looks := true }, kinds := [], alts := [], laidByText := true, laidKinds := [.data, .data, .data], laidTests := true, laidLooks := .later }
def TalePrintsCardSaid : Prop := Claim7.holds Tryd.pinned (.plain (OpenSpec.ofChange talePrintsSpec)) talePrintsCard

/-- THE TIED CARD OF 'headcountlaw30.SpreadShrinks'. -/
def spreadShrinksCard : Claim7 := { stood := { row := spreadShrinksRow, standIns := [], harness := (true, "8da1dfd856d4764265a3898b99b3b241b8113995160b812bc4dba901a1cc626a"), looks := true }, kinds := [], alts := [], laidByText := true, laidKinds := [.data], laidTests := true, laidLooks := .later }
def SpreadShrinksCardSaid : Prop := Claim7.holds Tryd.pinned (.plain (OpenSpec.ofChange spreadShrinksSpec)) spreadShrinksCard

/-- THE TIED CARD OF 'headcountlaw32.TaleWords'. -/
def taleWordsCard : Claim7 := { stood := { row := taleWordsRow, standIns := [], harness := (true, "8da1dfd856d4764265a3898b99b3b241b8113995160b812bc4dba901a1cc626a"), looks := true }, kinds := [], alts := [], laidByText := true, laidKinds := [.data, .data, .data, .sentinel, .sentinel], laidTests := true, laidLooks := .later }
def TaleWordsCardSaid : Prop := Claim7.holds Tryd.pinned (.plain (OpenSpec.ofChange taleWordsSpec)) taleWordsCard

/-- THE SECOND FORM's CARD OF 'headcountlaw30.SpreadBounds'. -/
def spreadBoundsUptoCard : Claim7 := { stood := { row := spreadBoundsUptoRow, standIns := [], harness := (true, "8da1dfd856d4764265a3898b99b3b241b8113995160b812bc4dba901a1cc626a"), looks := true }, kinds := [], alts := [], laidByText := true, laidKinds := [.data], laidTests := true, laidLooks := .later }
def SpreadBoundsUptoCardSaid : Prop := Claim7.holds Tryd.pinned (.plain (OpenSpec.upto spreadBoundsSpec)) spreadBoundsUptoCard

/-- THE SECOND FORM's CARD OF 'headcountlaw30.SpreadMore'. -/
def spreadMoreUptoCard : Claim7 := { stood := { row := spreadMoreUptoRow, standIns := [], harness := (true, "8da1dfd856d4764265a3898b99b3b241b8113995160b812bc4dba901a1cc626a"), looks := true }, kinds := [], alts := [], laidByText := true, laidKinds := [.data], laidTests := true, laidLooks := .later }
def SpreadMoreUptoCardSaid : Prop := Claim7.holds Tryd.pinned (.plain (OpenSpec.upto spreadMoreSpec)) spreadMoreUptoCard

/-- THE SECOND FORM's CARD OF 'headcountlaw30.SpreadTells'. -/
def spreadTellsUptoCard : Claim7 := { stood := { row := spreadTellsUptoRow, standIns := [], harness := (true, "8da1dfd856d4764265a3898b99b3b241b8113995160b812bc4dba901a1cc626a"), looks := true }, kinds := [], alts := [], laidByText := true, laidKinds := [.data], laidTests := true, laidLooks := .later }
def SpreadTellsUptoCardSaid : Prop := Claim7.holds Tryd.pinned (.plain (OpenSpec.upto spreadTellsSpec)) spreadTellsUptoCard

/-- THE SECOND FORM's CARD OF 'headcountlaw32.TalePrints'. -/
def talePrintsUptoCard : Claim7 := { stood := { row := talePrintsUptoRow, standIns := [], harness := (true, "8da1dfd856d4764265a3898b99b3b241b8113995160b812bc4dba901a1cc626a"), looks := true }, kinds := [], alts := [], laidByText := true, laidKinds := [.data, .data, .data], laidTests := true, laidLooks := .later }
def TalePrintsUptoCardSaid : Prop := Claim7.holds Tryd.pinned (.plain (OpenSpec.upto talePrintsSpec)) talePrintsUptoCard

/-- THE SECOND FORM's CARD OF 'headcountlaw30.SpreadShrinks'. -/
def spreadShrinksUptoCard : Claim7 := { stood := { row := spreadShrinksUptoRow, standIns := [], harness := (true, "8da1dfd856d4764265a3898b99b3b241b8113995160b812bc4dba901a1cc626a"), looks := true }, kinds := [], alts := [], laidByText := true, laidKinds := [.data], laidTests := true, laidLooks := .later }
def SpreadShrinksUptoCardSaid : Prop := Claim7.holds Tryd.pinned (.plain (OpenSpec.upto spreadShrinksSpec)) spreadShrinksUptoCard

/-- THE SECOND FORM's CARD OF 'headcountlaw32.TaleWords'. -/
def taleWordsUptoCard : Claim7 := { stood := { row := taleWordsUptoRow, standIns := [], harness := (true, "8da1dfd856d4764265a3898b99b3b241b8113995160b812bc4dba901a1cc626a"), looks := true }, kinds := [], alts := [], laidByText := true, laidKinds := [.data, .data, .data, .sentinel, .sentinel], laidTests := true, laidLooks := .later }
def TaleWordsUptoCardSaid : Prop := Claim7.holds Tryd.pinned (.plain (OpenSpec.upto taleWordsSpec)) taleWordsUptoCard
end Rows
end Go.Proofs.YtgcbnagfdfgpnaaDoor
