/- Closed facts of the row SpreadNames, one by one (each is a look at the whole translation). -/
import Derived.ProofKit
import Derived.SevenTiedAt
import Derived.Test.YtgpokmkdnjhplaaGreatDoorRows
namespace Go.Proofs.YtgpokmkdnjhplaaGreatDoor
namespace SpreadNames
theorem laidOut : laidOutB Tryz.prog = true := by kernel_rfl
theorem rowed : mapsRowed Tryz.prog = true := by kernel_rfl
theorem inPlace : (Rows.spreadNamesRow.inPlace == Tryz.prog.inPlace 6) = true := by kernel_rfl
theorem unfollowed : (Rows.spreadNamesRow.unfollowed == Tryz.prog.unfollowed 6) = true := by kernel_rfl
theorem recurses : (Rows.spreadNamesRow.recurses == Tryz.prog.recurses 6) = true := by kernel_rfl
theorem namedOk : (Rows.spreadNamesRow.named == Tryz.prog.varsNamed 6) = true := by kernel_rfl
theorem plainKeys : (Rows.spreadNamesRow.plainKeys == Tryz.prog.plainKeys) = true := by kernel_rfl
theorem heard : Tryz.prog.stopsHeard = true := by kernel_rfl
theorem enter : Tryz.prog.mayEnter = true := by kernel_rfl
theorem liftedOk : (Rows.spreadNamesRow.lifted == Tryz.prog.liftsFinal) = true := by kernel_rfl
theorem made : (Tryz.prog.make == some Rows.spreadNamesRow.make) = true := by kernel_rfl
theorem closed : joinedFacts Tryz.prog 6 Tryz.f6 Rows.spreadNamesSpec Rows.spreadNamesRow = true := by
  unfold joinedFacts
  rw [laidOut, rowed, inPlace, unfollowed, recurses, namedOk, plainKeys, heard, enter, liftedOk, made]
  kernel_rfl
theorem goes : false = Rows.spreadNamesRow.goesBy Tryz.prog := by kernel_rfl
theorem looksOk : true = Tryz.prog.looks [] := by kernel_rfl
end SpreadNames
end Go.Proofs.YtgpokmkdnjhplaaGreatDoor
