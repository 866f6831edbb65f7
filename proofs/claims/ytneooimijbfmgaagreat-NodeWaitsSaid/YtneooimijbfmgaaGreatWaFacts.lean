import Derived.ProofKit
import Derived.SevenTiedAt
import Derived.Test.YtneooimijbfmgaaGreatRows

set_option linter.unusedVariables false
set_option linter.unusedSimpArgs false
set_option linter.unusedSectionVars false
/- Closed facts of the row NodeWaits, one by one (each is a look at the whole translation). -/
namespace Go.Proofs.YtneooimijbfmgaaGreat
namespace NodeWaits
theorem own : ownKnob Tryz.prog.godebug = none := by kernel_rfl
theorem laidOut : laidOutB Tryz.prog = true := by kernel_rfl
theorem rowed : mapsRowed Tryz.prog = true := by kernel_rfl
theorem inPlace : (Rows.nodeWaitsRow.inPlace == Tryz.prog.inPlace 7) = true := by kernel_rfl
theorem unfollowed : (Rows.nodeWaitsRow.unfollowed == Tryz.prog.unfollowed 7) = true := by kernel_rfl
theorem recurses : (Rows.nodeWaitsRow.recurses == Tryz.prog.recurses 7) = true := by kernel_rfl
theorem namedOk : (Rows.nodeWaitsRow.named == Tryz.prog.varsNamed 7) = true := by kernel_rfl
theorem plainKeys : (Rows.nodeWaitsRow.plainKeys == Tryz.prog.plainKeys) = true := by kernel_rfl
theorem heard : Tryz.prog.stopsHeard = true := by kernel_rfl
theorem enter : Tryz.prog.mayEnter = true := by kernel_rfl
theorem liftedOk : (Rows.nodeWaitsRow.lifted == Tryz.prog.liftsFinal) = true := by kernel_rfl
theorem made : (Tryz.prog.make == some Rows.nodeWaitsRow.make) = true := by kernel_rfl
theorem closed : joinedFacts Tryz.prog 7 Tryz.f7 Rows.nodeWaitsSpec Rows.nodeWaitsRow = true := by
  unfold joinedFacts
  rw [laidOut, rowed, inPlace, unfollowed, recurses, namedOk, plainKeys, heard, enter, liftedOk, made]
  kernel_rfl
end NodeWaits
end Go.Proofs.YtneooimijbfmgaaGreat
