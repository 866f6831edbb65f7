/- Closed facts of the row AuditNames, one by one (each is a look at the whole translation). -/
import Derived.ProofKit
import Derived.SevenTiedAt
import Derived.Test.YtmcchddjmobhaaaGreatDoorRows
namespace Go.Proofs.YtmcchddjmobhaaaGreatDoor
namespace AuditNames
theorem laidOut : laidOutB Tryz.prog = true := by kernel_rfl
theorem rowed : mapsRowed Tryz.prog = true := by kernel_rfl
theorem inPlace : (Rows.auditNamesRow.inPlace == Tryz.prog.inPlace 3) = true := by kernel_rfl
theorem unfollowed : (Rows.auditNamesRow.unfollowed == Tryz.prog.unfollowed 3) = true := by kernel_rfl
theorem recurses : (Rows.auditNamesRow.recurses == Tryz.prog.recurses 3) = true := by kernel_rfl
theorem namedOk : (Rows.auditNamesRow.named == Tryz.prog.varsNamed 3) = true := by kernel_rfl
theorem plainKeys : (Rows.auditNamesRow.plainKeys == Tryz.prog.plainKeys) = true := by kernel_rfl
theorem heard : Tryz.prog.stopsHeard = true := by kernel_rfl
theorem enter : Tryz.prog.mayEnter = true := by kernel_rfl
theorem liftedOk : (Rows.auditNamesRow.lifted == Tryz.prog.liftsFinal) = true := by kernel_rfl
theorem made : (Tryz.prog.make == some Rows.auditNamesRow.make) = true := by kernel_rfl
theorem closed : joinedFacts Tryz.prog 3 Tryz.f3 Rows.auditNamesSpec Rows.auditNamesRow = true := by
  unfold joinedFacts
  rw [laidOut, rowed, inPlace, unfollowed, recurses, namedOk, plainKeys, heard, enter, liftedOk, made]
  kernel_rfl
/-- no function starts a goroutine, so none that is reached does -/
theorem goesBy_none {P : Program} {c : OpenClaim} (h : P.funcs.any Func.goes = false) (hs : c.start = .entering) : false = c.goesBy P := by
  have key : ∀ f, P.goes f = false := fun f => by
    unfold Program.goes
    rw [h, Bool.and_false, Bool.or_false]
    rw [List.any_eq_false]
    intro g hg
    cases hx : P.funcs[g]? with
    | none => simp
    | some fn =>
      rw [Array.any_eq_false] at h
      obtain ⟨hi, rfl⟩ := Array.getElem?_eq_some_iff.1 hx
      simpa using h g hi
  unfold OpenClaim.goesBy Program.goesAt Program.goesFrom
  rw [hs]
  cases P.funcNamed c.func with
  | none => rfl
  | some f => simp [key]
theorem noGo : Tryz.prog.funcs.any Func.goes = false := by kernel_rfl
theorem goes : false = Rows.auditNamesRow.goesBy Tryz.prog := goesBy_none noGo rfl
theorem looksOk : true = Tryz.prog.looks [] := by kernel_rfl
end AuditNames
end Go.Proofs.YtmcchddjmobhaaaGreatDoor
