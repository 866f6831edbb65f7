import Derived.ProofKit
import Derived.SevenTiedAt
import Derived.Test.YtneooimijbfmgaaGreatRows
set_option linter.unusedVariables false
set_option linter.unusedSimpArgs false
set_option linter.unusedSectionVars false
/- Closed facts of the row SpreadSteps, one by one (each is a look at the whole translation). -/
namespace Go.Proofs.YtneooimijbfmgaaGreat
namespace SpreadSteps
theorem own : ownKnob Tryz.prog.godebug = none := by kernel_rfl
theorem laidOut : laidOutB Tryz.prog = true := by kernel_rfl
theorem rowed : mapsRowed Tryz.prog = true := by kernel_rfl
theorem inPlace : (Rows.spreadStepsRow.inPlace == Tryz.prog.inPlace 3) = true := by kernel_rfl
theorem unfollowed : (Rows.spreadStepsRow.unfollowed == Tryz.prog.unfollowed 3) = true := by kernel_rfl
theorem recurses : (Rows.spreadStepsRow.recurses == Tryz.prog.recurses 3) = true := by kernel_rfl
theorem namedOk : (Rows.spreadStepsRow.named == Tryz.prog.varsNamed 3) = true := by kernel_rfl
theorem plainKeys : (Rows.spreadStepsRow.plainKeys == Tryz.prog.plainKeys) = true := by kernel_rfl
theorem heard : Tryz.prog.stopsHeard = true := by kernel_rfl
theorem enter : Tryz.prog.mayEnter = true := by kernel_rfl
theorem liftedOk : (Rows.spreadStepsRow.lifted == Tryz.prog.liftsFinal) = true := by kernel_rfl
theorem made : (Tryz.prog.make == some Rows.spreadStepsRow.make) = true := by kernel_rfl
theorem closed : joinedFacts Tryz.prog 3 Tryz.f3 Rows.spreadStepsSpec Rows.spreadStepsRow = true := by
  unfold joinedFacts
  rw [laidOut, rowed, inPlace, unfollowed, recurses, namedOk, plainKeys, heard, enter, liftedOk, made]
  kernel_rfl
end SpreadSteps
end Go.Proofs.YtneooimijbfmgaaGreat
