import Derived.ProofKit
import Derived.SevenTiedAt
import Derived.Test.YtneooimijbfmgaaGreatRows

set_option linter.unusedVariables false
set_option linter.unusedSimpArgs false
set_option linter.unusedSectionVars false
/- Closed facts of the row NodeStays, one by one (each is a look at the whole translation). -/
namespace Go.Proofs.YtneooimijbfmgaaGreat
namespace NodeStays
theorem own : ownKnob Tryz.prog.godebug = none := by kernel_rfl
theorem laidOut : laidOutB Tryz.prog = true := by kernel_rfl
theorem rowed : mapsRowed Tryz.prog = true := by kernel_rfl
theorem inPlace : (Rows.nodeStaysRow.inPlace == Tryz.prog.inPlace 9) = true := by kernel_rfl
theorem unfollowed : (Rows.nodeStaysRow.unfollowed == Tryz.prog.unfollowed 9) = true := by kernel_rfl
theorem recurses : (Rows.nodeStaysRow.recurses == Tryz.prog.recurses 9) = true := by kernel_rfl
theorem namedOk : (Rows.nodeStaysRow.named == Tryz.prog.varsNamed 9) = true := by kernel_rfl
theorem plainKeys : (Rows.nodeStaysRow.plainKeys == Tryz.prog.plainKeys) = true := by kernel_rfl
theorem heard : Tryz.prog.stopsHeard = true := by kernel_rfl
theorem enter : Tryz.prog.mayEnter = true := by kernel_rfl
theorem liftedOk : (Rows.nodeStaysRow.lifted == Tryz.prog.liftsFinal) = true := by kernel_rfl
theorem made : (Tryz.prog.make == some Rows.nodeStaysRow.make) = true := by kernel_rfl
theorem closed : joinedFacts Tryz.prog 9 Tryz.f9 Rows.nodeStaysSpec Rows.nodeStaysRow = true := by
  unfold joinedFacts
  rw [laidOut, rowed, inPlace, unfollowed, recurses, namedOk, plainKeys, heard, enter, liftedOk, made]
  kernel_rfl
end NodeStays
end Go.Proofs.YtneooimijbfmgaaGreat
