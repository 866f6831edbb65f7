/- Closed facts of the row ActNames, one by one (each is a look at the whole translation). -/
import Derived.ProofKit
import Derived.SevenTiedAt
import Derived.Test.YtgpokmkdnjhplaaGreatDoorRows
namespace Go.Proofs.YtgpokmkdnjhplaaGreatDoor
namespace ActNames
theorem laidOut : laidOutB Tryz.prog = true := by kernel_rfl
theorem rowed : mapsRowed Tryz.prog = true := by kernel_rfl
theorem inPlace : (Rows.actNamesRow.inPlace == Tryz.prog.inPlace 3) = true := by kernel_rfl
theorem unfollowed : (Rows.actNamesRow.unfollowed == Tryz.prog.unfollowed 3) = true := by kernel_rfl
theorem recurses : (Rows.actNamesRow.recurses == Tryz.prog.recurses 3) = true := by kernel_rfl
theorem namedOk : (Rows.actNamesRow.named == Tryz.prog.varsNamed 3) = true := by kernel_rfl
theorem plainKeys : (Rows.actNamesRow.plainKeys == Tryz.prog.plainKeys) = true := by kernel_rfl
theorem heard : Tryz.prog.stopsHeard = true := by kernel_rfl
theorem enter : Tryz.prog.mayEnter = true := by kernel_rfl
theorem liftedOk : (Rows.actNamesRow.lifted == Tryz.prog.liftsFinal) = true := by kernel_rfl
theorem made : (Tryz.prog.make == some Rows.actNamesRow.make) = true := by kernel_rfl
theorem closed : joinedFacts Tryz.prog 3 Tryz.f3 Rows.actNamesSpec Rows.actNamesRow = true := by
  unfold joinedFacts
  rw [laidOut, rowed, inPlace, unfollowed, recurses, namedOk, plainKeys, heard, enter, liftedOk, made]
  kernel_rfl
theorem goes : false = Rows.actNamesRow.goesBy Tryz.prog := by kernel_rfl
theorem looksOk : true = Tryz.prog.looks [] := by kernel_rfl
theorem follows : Tryz.prog.follows .mixedOrders = true := by kernel_rfl
end ActNames
end Go.Proofs.YtgpokmkdnjhplaaGreatDoor
