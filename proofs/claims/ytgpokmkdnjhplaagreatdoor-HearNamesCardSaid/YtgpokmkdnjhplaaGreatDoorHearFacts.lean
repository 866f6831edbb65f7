/- Closed facts of the row HearNames, one by one (each is a look at the whole translation). -/
import Derived.ProofKit
import Derived.SevenTiedAt
import Derived.Test.YtgpokmkdnjhplaaGreatDoorRows
namespace Go.Proofs.YtgpokmkdnjhplaaGreatDoor
namespace HearNames
theorem laidOut : laidOutB Tryz.prog = true := by kernel_rfl
theorem rowed : mapsRowed Tryz.prog = true := by kernel_rfl
theorem inPlace : (Rows.hearNamesRow.inPlace == Tryz.prog.inPlace 5) = true := by kernel_rfl
theorem unfollowed : (Rows.hearNamesRow.unfollowed == Tryz.prog.unfollowed 5) = true := by kernel_rfl
theorem recurses : (Rows.hearNamesRow.recurses == Tryz.prog.recurses 5) = true := by kernel_rfl
theorem namedOk : (Rows.hearNamesRow.named == Tryz.prog.varsNamed 5) = true := by kernel_rfl
theorem plainKeys : (Rows.hearNamesRow.plainKeys == Tryz.prog.plainKeys) = true := by kernel_rfl
theorem heard : Tryz.prog.stopsHeard = true := by kernel_rfl
theorem enter : Tryz.prog.mayEnter = true := by kernel_rfl
theorem liftedOk : (Rows.hearNamesRow.lifted == Tryz.prog.liftsFinal) = true := by kernel_rfl
theorem made : (Tryz.prog.make == some Rows.hearNamesRow.make) = true := by kernel_rfl
theorem closed : joinedFacts Tryz.prog 5 Tryz.f5 Rows.hearNamesSpec Rows.hearNamesRow = true := by
  unfold joinedFacts
  rw [laidOut, rowed, inPlace, unfollowed, recurses, namedOk, plainKeys, heard, enter, liftedOk, made]
  kernel_rfl
theorem goes : false = Rows.hearNamesRow.goesBy Tryz.prog := by kernel_rfl
theorem looksOk : true = Tryz.prog.looks [] := by kernel_rfl
theorem follows : Tryz.prog.follows .mixedOrders = true := by kernel_rfl
end HearNames
end Go.Proofs.YtgpokmkdnjhplaaGreatDoor
