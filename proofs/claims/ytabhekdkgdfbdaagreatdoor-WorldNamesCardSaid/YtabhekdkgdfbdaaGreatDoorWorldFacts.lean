/- Closed facts of the row WorldNames, one by one (each is a look at the whole translation). -/
import Derived.ProofKit
import Derived.SevenTiedAt
import Derived.Test.YtabhekdkgdfbdaaGreatDoorRows
namespace Go.Proofs.YtabhekdkgdfbdaaGreatDoor
namespace WorldNames
theorem laidOut : laidOutB Tryz.prog = true := by kernel_rfl
theorem rowed : mapsRowed Tryz.prog = true := by kernel_rfl
theorem inPlace : (Rows.worldNamesRow.inPlace == Tryz.prog.inPlace 3) = true := by kernel_rfl
theorem unfollowed : (Rows.worldNamesRow.unfollowed == Tryz.prog.unfollowed 3) = true := by kernel_rfl
theorem recurses : (Rows.worldNamesRow.recurses == Tryz.prog.recurses 3) = true := by kernel_rfl
theorem namedOk : (Rows.worldNamesRow.named == Tryz.prog.varsNamed 3) = true := by kernel_rfl
theorem plainKeys : (Rows.worldNamesRow.plainKeys == Tryz.prog.plainKeys) = true := by kernel_rfl
theorem heard : Tryz.prog.stopsHeard = true := by kernel_rfl
theorem enter : Tryz.prog.mayEnter = true := by kernel_rfl
theorem liftedOk : (Rows.worldNamesRow.lifted == Tryz.prog.liftsFinal) = true := by kernel_rfl
theorem made : (Tryz.prog.make == some Rows.worldNamesRow.make) = true := by kernel_rfl
theorem closed : joinedFacts Tryz.prog 3 Tryz.f3 Rows.worldNamesSpec Rows.worldNamesRow = true := by
  unfold joinedFacts
  rw [laidOut, rowed, inPlace, unfollowed, recurses, namedOk, plainKeys, heard, enter, liftedOk, made]
  kernel_rfl
theorem goes : false = Rows.worldNamesRow.goesBy Tryz.prog := by kernel_rfl
theorem looksOk : true = Tryz.prog.looks [] := by kernel_rfl
end WorldNames
end Go.Proofs.YtabhekdkgdfbdaaGreatDoor
