/-
  No cell of these rows narrows 'for every input' (looked for: loops, veiled, ifaces, maps, wideKeys, modest, calm, conditions, laid).
  DERIVED. THE GIVEN ROWS OF THIS SEAT. 7 by the template 'for every input the law returns true; each argument reads behind the call as it read before'; 0 by the template 'total and deterministic' (their statements: YtneooimijbfmgaaGreatTotals.lean).
  GIVEN WITH THE SEED: the statements are not yours to turn. If you find one false, say at which input.
  Laid BY PROGRAM, IN A SANDBOX (cutbox-rows.mjs): the forced cells as the released guide's own fill.sh prints them over the translation 0e5def5aac63e4ef… (all of the seat's roots in one cut). By AI agents, Wed Nov 11 2026. No macro, syntax, notation, axiom, sorry.
-/
import Derived.Test.YtneooimijbfmgaaGreatChecked
import GoSem.Claim
import GoSem.ClaimJoined
import GoSem.ClaimMapViews
import Derived.JoinedTies
import Derived.KernelRfl
namespace Go.Proofs.YtneooimijbfmgaaGreat
/- THE CELL 'sum', in the pinned program and in every row, IS THE sha256 OF THE DUMP (.gsa) THAT YtneooimijbfmgaaGreatProg.lean LOADS. Nothing in Lean hashes anything: it is a label: what it is worth is what the hold of that sum in a sandbox is worth. -/
noncomputable def Tryz.pinned : Pinned := { name := "ytneooimijbfmgaagreat", sum := "0e5def5aac63e4ef611064e37a70fbddee5459b6889da8350836636e4f595721", checked := Tryz.checked }
namespace Rows
def none {H : Type} : Left H := { results := [], args := [] }

/-- 'headcountlaw30.SpreadSteps': WHATEVER THE INPUT: true; the input reads as it did. -/
def spreadStepsSpec : ChangeSpec := { name := "spreadSteps", fn := fun _ => fun
  | [d1, d2] => { results := [.lit (.bool true)], args := [d1, d2] }
  | _ => none }
def spreadStepsRow : OpenClaim := { program := "ytneooimijbfmgaagreat", sum := "0e5def5aac63e4ef611064e37a70fbddee5459b6889da8350836636e4f595721", func := "headcount/headcountlaw30.SpreadSteps", spec := "spreadSteps", unfollowed := true, recurses := true, apart := false }
def SpreadStepsSaid : Prop := spreadStepsRow.holds Tryz.pinned (OpenSpec.ofChange spreadStepsSpec)

/-- ITS FALSE NEIGHBOUR: 'it returns false'. Refute it at one input. -/
def spreadStepsWrong : ChangeSpec := { name := "spreadSteps", fn := fun _ => fun
  | [d1, d2] => { results := [.lit (.bool false)], args := [d1, d2] }
  | _ => none }
def SpreadStepsWrongFalsely : Prop := spreadStepsRow.holds Tryz.pinned (OpenSpec.ofChange spreadStepsWrong)

/-- 'headcountlaw26.WorldCopies': WHATEVER THE INPUT: true; the input reads as it did. -/
def worldCopiesSpec : ChangeSpec := { name := "worldCopies", fn := fun _ => fun
  | [d1, d2] => { results := [.lit (.bool true)], args := [d1, d2] }
  | _ => none }
def worldCopiesRow : OpenClaim := { program := "ytneooimijbfmgaagreat", sum := "0e5def5aac63e4ef611064e37a70fbddee5459b6889da8350836636e4f595721", func := "headcount/headcountlaw26.WorldCopies", spec := "worldCopies", unfollowed := true, recurses := true, apart := false }
def WorldCopiesSaid : Prop := worldCopiesRow.holds Tryz.pinned (OpenSpec.ofChange worldCopiesSpec)

/-- ITS FALSE NEIGHBOUR: 'it returns false'. Refute it at one input. -/
def worldCopiesWrong : ChangeSpec := { name := "worldCopies", fn := fun _ => fun
  | [d1, d2] => { results := [.lit (.bool false)], args := [d1, d2] }
  | _ => none }
def WorldCopiesWrongFalsely : Prop := worldCopiesRow.holds Tryz.pinned (OpenSpec.ofChange worldCopiesWrong)

/-- 'headcountlaw26.WorldBegins': WHATEVER THE INPUT: true; the input reads as it did. -/
def worldBeginsSpec : ChangeSpec := { name := "worldBegins", fn := fun _ => fun
  | [d1, d2] => { results := [.lit (.bool true)], args := [d1, d2] }
  | _ => none }
def worldBeginsRow : OpenClaim := { program := "ytneooimijbfmgaagreat", sum := "0e5def5aac63e4ef611064e37a70fbddee5459b6889da8350836636e4f595721", func := "headcount/headcountlaw26.WorldBegins", spec := "worldBegins", unfollowed := true, recurses := true, apart := false }
def WorldBeginsSaid : Prop := worldBeginsRow.holds Tryz.pinned (OpenSpec.ofChange worldBeginsSpec)

/-- ITS FALSE NEIGHBOUR: 'it returns false'. Refute it at one input. -/
def worldBeginsWrong : ChangeSpec := { name := "worldBegins", fn := fun _ => fun
  | [d1, d2] => { results := [.lit (.bool false)], args := [d1, d2] }
  | _ => none }
def WorldBeginsWrongFalsely : Prop := worldBeginsRow.holds Tryz.pinned (OpenSpec.ofChange worldBeginsWrong)

/-- 'headcountlaw22.NodeCrash': WHATEVER THE INPUT: true; the input reads as it did. -/
def nodeCrashSpec : ChangeSpec := { name := "nodeCrash", fn := fun _ => fun
  | [d1, d2] => { results := [.lit (.bool true)], args := [d1, d2] }
  | _ => none }
def nodeCrashRow : OpenClaim := { program := "ytneooimijbfmgaagreat", sum := "0e5def5aac63e4ef611064e37a70fbddee5459b6889da8350836636e4f595721", func := "headcount/headcountlaw22.NodeCrash", spec := "nodeCrash", unfollowed := true, recurses := true, apart := false }
def NodeCrashSaid : Prop := nodeCrashRow.holds Tryz.pinned (OpenSpec.ofChange nodeCrashSpec)

/-- ITS FALSE NEIGHBOUR: 'it returns false'. Refute it at one input. -/
def nodeCrashWrong : ChangeSpec := { name := "nodeCrash", fn := fun _ => fun
  | [d1, d2] => { results := [.lit (.bool false)], args := [d1, d2] }
  | _ => none }
def NodeCrashWrongFalsely : Prop := nodeCrashRow.holds Tryz.pinned (OpenSpec.ofChange nodeCrashWrong)

/-- 'headcountlaw22.NodeWaits': WHATEVER THE INPUT: true; the input reads as it did. -/
def nodeWaitsSpec : ChangeSpec := { name := "nodeWaits", fn := fun _ => fun
  | [d] => { results := [.lit (.bool true)], args := [d] }
  | _ => none }
def nodeWaitsRow : OpenClaim := { program := "ytneooimijbfmgaagreat", sum := "0e5def5aac63e4ef611064e37a70fbddee5459b6889da8350836636e4f595721", func := "headcount/headcountlaw22.NodeWaits", spec := "nodeWaits", unfollowed := true, recurses := true, apart := false }
def NodeWaitsSaid : Prop := nodeWaitsRow.holds Tryz.pinned (OpenSpec.ofChange nodeWaitsSpec)

/-- ITS FALSE NEIGHBOUR: 'it returns false'. Refute it at one input. -/
def nodeWaitsWrong : ChangeSpec := { name := "nodeWaits", fn := fun _ => fun
  | [d] => { results := [.lit (.bool false)], args := [d] }
  | _ => none }
def NodeWaitsWrongFalsely : Prop := nodeWaitsRow.holds Tryz.pinned (OpenSpec.ofChange nodeWaitsWrong)

/-- 'headcountlaw22.NodeTells': WHATEVER THE INPUT: true; the input reads as it did. -/
def nodeTellsSpec : ChangeSpec := { name := "nodeTells", fn := fun _ => fun
  | [d1, d2, d3] => { results := [.lit (.bool true)], args := [d1, d2, d3] }
  | _ => none }
def nodeTellsRow : OpenClaim := { program := "ytneooimijbfmgaagreat", sum := "0e5def5aac63e4ef611064e37a70fbddee5459b6889da8350836636e4f595721", func := "headcount/headcountlaw22.NodeTells", spec := "nodeTells", unfollowed := true, recurses := true, apart := false }
def NodeTellsSaid : Prop := nodeTellsRow.holds Tryz.pinned (OpenSpec.ofChange nodeTellsSpec)

/-- ITS FALSE NEIGHBOUR: 'it returns false'. Refute it at one input. -/
def nodeTellsWrong : ChangeSpec := { name := "nodeTells", fn := fun _ => fun
  | [d1, d2, d3] => { results := [.lit (.bool false)], args := [d1, d2, d3] }
  | _ => none }
def NodeTellsWrongFalsely : Prop := nodeTellsRow.holds Tryz.pinned (OpenSpec.ofChange nodeTellsWrong)

/-- 'headcountlaw22.NodeStays': WHATEVER THE INPUT: true; the input reads as it did. -/
def nodeStaysSpec : ChangeSpec := { name := "nodeStays", fn := fun _ => fun
  | [d1, d2, d3] => { results := [.lit (.bool true)], args := [d1, d2, d3] }
  | _ => none }
def nodeStaysRow : OpenClaim := { program := "ytneooimijbfmgaagreat", sum := "0e5def5aac63e4ef611064e37a70fbddee5459b6889da8350836636e4f595721", func := "headcount/headcountlaw22.NodeStays", spec := "nodeStays", unfollowed := true, recurses := true, apart := false }
def NodeStaysSaid : Prop := nodeStaysRow.holds Tryz.pinned (OpenSpec.ofChange nodeStaysSpec)

/-- ITS FALSE NEIGHBOUR: 'it returns false'. Refute it at one input. -/
def nodeStaysWrong : ChangeSpec := { name := "nodeStays", fn := fun _ => fun
  | [d1, d2, d3] => { results := [.lit (.bool false)], args := [d1, d2, d3] }
  | _ => none }
def NodeStaysWrongFalsely : Prop := nodeStaysRow.holds Tryz.pinned (OpenSpec.ofChange nodeStaysWrong)

/- THE SECOND FORM. 'bulk': how many values and letters a reading holds, each counted each time it is reached (what is shared counts as often as it is met; a slice's spare places count too). A statement '..UptoSaid' is the law's where the arguments, and the package variables that the reading takes, are together of bulk at most 1048576: NARROWER than '..Said'. Prove '..Said' where nothing that the law and all that it calls make is longer than what came in: it says more and counts as full. Else prove '..UptoSaid'. A law counts once. -/
mutual
def uptoBulk {H : Type} : DataW H → Nat
  | .lit (.string bytes) => bytes.length + 1
  | .lit _ => 1
  | .nil => 1
  | .ptr d => uptoBulk d + 1
  | .slice elems spare => uptoBulkAll elems + uptoBulkAll spare + 1
  | .agg parts => uptoBulkAll parts + 1
  | .iface _ d => uptoBulk d + 1
  | .map entries => uptoBulkEntries entries + 1
  | .held _ => 1
def uptoBulkAll {H : Type} : List (DataW H) → Nat
  | [] => 0
  | d :: r => uptoBulk d + uptoBulkAll r
def uptoBulkEntries {H : Type} : List (Lit × DataW H) → Nat
  | [] => 0
  | x :: r => uptoBulkEntry x + uptoBulkEntries r
def uptoBulkEntry {H : Type} : Lit × DataW H → Nat
  | (.string bytes, d) => bytes.length + uptoBulk d + 1
  | (_, d) => uptoBulk d + 1
 end
def uptoSmall : (H : Type) → List (DataW H) → Bool := fun _ ds => decide (uptoBulkAll ds ≤ 1048576)
def OpenSpec.upto (s : _root_.Go.ChangeSpec) : _root_.Go.OpenSpec := { _root_.Go.OpenSpec.ofChange s with cond := some uptoSmall }

/-- 'headcountlaw30.SpreadSteps', WHERE WHAT IT READS IS OF BULK AT MOST 1048576: true; the input reads as it did. -/
def spreadStepsUptoRow : OpenClaim := { program := "ytneooimijbfmgaagreat", sum := "0e5def5aac63e4ef611064e37a70fbddee5459b6889da8350836636e4f595721", func := "headcount/headcountlaw30.SpreadSteps", spec := "spreadSteps", unfollowed := true, recurses := true, apart := false, narrowed := true }
def SpreadStepsUptoSaid : Prop := spreadStepsUptoRow.holds Tryz.pinned (OpenSpec.upto spreadStepsSpec)

/-- 'headcountlaw26.WorldCopies', WHERE WHAT IT READS IS OF BULK AT MOST 1048576: true; the input reads as it did. -/
def worldCopiesUptoRow : OpenClaim := { program := "ytneooimijbfmgaagreat", sum := "0e5def5aac63e4ef611064e37a70fbddee5459b6889da8350836636e4f595721", func := "headcount/headcountlaw26.WorldCopies", spec := "worldCopies", unfollowed := true, recurses := true, apart := false, narrowed := true }
def WorldCopiesUptoSaid : Prop := worldCopiesUptoRow.holds Tryz.pinned (OpenSpec.upto worldCopiesSpec)

/-- 'headcountlaw26.WorldBegins', WHERE WHAT IT READS IS OF BULK AT MOST 1048576: true; the input reads as it did. -/
def worldBeginsUptoRow : OpenClaim := { program := "ytneooimijbfmgaagreat", sum := "0e5def5aac63e4ef611064e37a70fbddee5459b6889da8350836636e4f595721", func := "headcount/headcountlaw26.WorldBegins", spec := "worldBegins", unfollowed := true, recurses := true, apart := false, narrowed := true }
def WorldBeginsUptoSaid : Prop := worldBeginsUptoRow.holds Tryz.pinned (OpenSpec.upto worldBeginsSpec)

/-- 'headcountlaw22.NodeCrash', WHERE WHAT IT READS IS OF BULK AT MOST 1048576: true; the input reads as it did. -/
def nodeCrashUptoRow : OpenClaim := { program := "ytneooimijbfmgaagreat", sum := "0e5def5aac63e4ef611064e37a70fbddee5459b6889da8350836636e4f595721", func := "headcount/headcountlaw22.NodeCrash", spec := "nodeCrash", unfollowed := true, recurses := true, apart := false, narrowed := true }
def NodeCrashUptoSaid : Prop := nodeCrashUptoRow.holds Tryz.pinned (OpenSpec.upto nodeCrashSpec)

/-- 'headcountlaw22.NodeWaits', WHERE WHAT IT READS IS OF BULK AT MOST 1048576: true; the input reads as it did. -/
def nodeWaitsUptoRow : OpenClaim := { program := "ytneooimijbfmgaagreat", sum := "0e5def5aac63e4ef611064e37a70fbddee5459b6889da8350836636e4f595721", func := "headcount/headcountlaw22.NodeWaits", spec := "nodeWaits", unfollowed := true, recurses := true, apart := false, narrowed := true }
def NodeWaitsUptoSaid : Prop := nodeWaitsUptoRow.holds Tryz.pinned (OpenSpec.upto nodeWaitsSpec)

/-- 'headcountlaw22.NodeTells', WHERE WHAT IT READS IS OF BULK AT MOST 1048576: true; the input reads as it did. -/
def nodeTellsUptoRow : OpenClaim := { program := "ytneooimijbfmgaagreat", sum := "0e5def5aac63e4ef611064e37a70fbddee5459b6889da8350836636e4f595721", func := "headcount/headcountlaw22.NodeTells", spec := "nodeTells", unfollowed := true, recurses := true, apart := false, narrowed := true }
def NodeTellsUptoSaid : Prop := nodeTellsUptoRow.holds Tryz.pinned (OpenSpec.upto nodeTellsSpec)

/-- 'headcountlaw22.NodeStays', WHERE WHAT IT READS IS OF BULK AT MOST 1048576: true; the input reads as it did. -/
def nodeStaysUptoRow : OpenClaim := { program := "ytneooimijbfmgaagreat", sum := "0e5def5aac63e4ef611064e37a70fbddee5459b6889da8350836636e4f595721", func := "headcount/headcountlaw22.NodeStays", spec := "nodeStays", unfollowed := true, recurses := true, apart := false, narrowed := true }
def NodeStaysUptoSaid : Prop := nodeStaysUptoRow.holds Tryz.pinned (OpenSpec.upto nodeStaysSpec)

end Rows
end Go.Proofs.YtneooimijbfmgaaGreat
