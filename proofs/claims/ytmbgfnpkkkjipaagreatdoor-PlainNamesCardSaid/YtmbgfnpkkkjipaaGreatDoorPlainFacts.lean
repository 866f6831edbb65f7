/- Closed facts of the row PlainNames, one by one (each is a look at the whole translation). -/
import Derived.ProofKit
import Derived.SevenTiedAt
import Derived.Test.YtmbgfnpkkkjipaaGreatDoorRows
namespace Go.Proofs.YtmbgfnpkkkjipaaGreatDoor
namespace PlainNames
theorem laidOut : laidOutB Tryz.prog = true := by kernel_rfl
theorem rowed : mapsRowed Tryz.prog = true := by kernel_rfl
theorem inPlace : (Rows.plainNamesRow.inPlace == Tryz.prog.inPlace 3) = true := by kernel_rfl
theorem unfollowed : (Rows.plainNamesRow.unfollowed == Tryz.prog.unfollowed 3) = true := by kernel_rfl
theorem recurses : (Rows.plainNamesRow.recurses == Tryz.prog.recurses 3) = true := by kernel_rfl
theorem namedOk : (Rows.plainNamesRow.named == Tryz.prog.varsNamed 3) = true := by kernel_rfl
theorem plainKeys : (Rows.plainNamesRow.plainKeys == Tryz.prog.plainKeys) = true := by kernel_rfl
theorem heard : Tryz.prog.stopsHeard = true := by kernel_rfl
theorem enter : Tryz.prog.mayEnter = true := by kernel_rfl
theorem liftedOk : (Rows.plainNamesRow.lifted == Tryz.prog.liftsFinal) = true := by kernel_rfl
theorem made : (Tryz.prog.make == some Rows.plainNamesRow.make) = true := by kernel_rfl
theorem closed : joinedFacts Tryz.prog 3 Tryz.f3 Rows.plainNamesSpec Rows.plainNamesRow = true := by
  unfold joinedFacts
  rw [laidOut, rowed, inPlace, unfollowed, recurses, namedOk, plainKeys, heard, enter, liftedOk, made]
  kernel_rfl
theorem goes : false = Rows.plainNamesRow.goesBy Tryz.prog := by kernel_rfl
theorem looksOk : false = Tryz.prog.looks [] := by kernel_rfl
theorem follows : Tryz.prog.follows .mixedOrders = true := by kernel_rfl
end PlainNames
end Go.Proofs.YtmbgfnpkkkjipaaGreatDoor
