import Derived.ProofKit
import Derived.SevenTiedAt
import Derived.Test.YtneooimijbfmgaaGreatRows

set_option linter.unusedVariables false
set_option linter.unusedSimpArgs false
set_option linter.unusedSectionVars false
/- Closed facts of the row NodeCrash, one by one (each is a look at the whole translation). -/
namespace Go.Proofs.YtneooimijbfmgaaGreat
namespace NodeCrash
theorem own : ownKnob Tryz.prog.godebug = none := by kernel_rfl
theorem laidOut : laidOutB Tryz.prog = true := by kernel_rfl
theorem rowed : mapsRowed Tryz.prog = true := by kernel_rfl
theorem inPlace : (Rows.nodeCrashRow.inPlace == Tryz.prog.inPlace 6) = true := by kernel_rfl
theorem unfollowed : (Rows.nodeCrashRow.unfollowed == Tryz.prog.unfollowed 6) = true := by kernel_rfl
theorem recurses : (Rows.nodeCrashRow.recurses == Tryz.prog.recurses 6) = true := by kernel_rfl
theorem namedOk : (Rows.nodeCrashRow.named == Tryz.prog.varsNamed 6) = true := by kernel_rfl
theorem plainKeys : (Rows.nodeCrashRow.plainKeys == Tryz.prog.plainKeys) = true := by kernel_rfl
theorem heard : Tryz.prog.stopsHeard = true := by kernel_rfl
theorem enter : Tryz.prog.mayEnter = true := by kernel_rfl
theorem liftedOk : (Rows.nodeCrashRow.lifted == Tryz.prog.liftsFinal) = true := by kernel_rfl
theorem made : (Tryz.prog.make == some Rows.nodeCrashRow.make) = true := by kernel_rfl
theorem closed : joinedFacts Tryz.prog 6 Tryz.f6 Rows.nodeCrashSpec Rows.nodeCrashRow = true := by
  unfold joinedFacts
  rw [laidOut, rowed, inPlace, unfollowed, recurses, namedOk, plainKeys, heard, enter, liftedOk, made]
  kernel_rfl
end NodeCrash
end Go.Proofs.YtneooimijbfmgaaGreat
