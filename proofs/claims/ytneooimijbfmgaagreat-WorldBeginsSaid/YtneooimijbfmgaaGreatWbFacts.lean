import Derived.ProofKit
import Derived.SevenTiedAt
import Derived.Test.YtneooimijbfmgaaGreatRows

set_option linter.unusedVariables false
set_option linter.unusedSimpArgs false
set_option linter.unusedSectionVars false
/- Closed facts of the row WorldBegins, one by one (each is a look at the whole translation). -/
namespace Go.Proofs.YtneooimijbfmgaaGreat
namespace WorldBegins
theorem own : ownKnob Tryz.prog.godebug = none := by kernel_rfl
theorem laidOut : laidOutB Tryz.prog = true := by kernel_rfl
theorem rowed : mapsRowed Tryz.prog = true := by kernel_rfl
theorem inPlace : (Rows.worldBeginsRow.inPlace == Tryz.prog.inPlace 5) = true := by kernel_rfl
theorem unfollowed : (Rows.worldBeginsRow.unfollowed == Tryz.prog.unfollowed 5) = true := by kernel_rfl
theorem recurses : (Rows.worldBeginsRow.recurses == Tryz.prog.recurses 5) = true := by kernel_rfl
theorem namedOk : (Rows.worldBeginsRow.named == Tryz.prog.varsNamed 5) = true := by kernel_rfl
theorem plainKeys : (Rows.worldBeginsRow.plainKeys == Tryz.prog.plainKeys) = true := by kernel_rfl
theorem heard : Tryz.prog.stopsHeard = true := by kernel_rfl
theorem enter : Tryz.prog.mayEnter = true := by kernel_rfl
theorem liftedOk : (Rows.worldBeginsRow.lifted == Tryz.prog.liftsFinal) = true := by kernel_rfl
theorem made : (Tryz.prog.make == some Rows.worldBeginsRow.make) = true := by kernel_rfl
theorem closed : joinedFacts Tryz.prog 5 Tryz.f5 Rows.worldBeginsSpec Rows.worldBeginsRow = true := by
  unfold joinedFacts
  rw [laidOut, rowed, inPlace, unfollowed, recurses, namedOk, plainKeys, heard, enter, liftedOk, made]
  kernel_rfl
end WorldBegins
end Go.Proofs.YtneooimijbfmgaaGreat
