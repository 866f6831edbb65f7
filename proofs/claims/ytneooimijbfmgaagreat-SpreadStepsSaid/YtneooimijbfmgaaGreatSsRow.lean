import Derived.WalkKit
import Derived.ProofKit
import Derived.OpenShut
import Derived.Test.YtneooimijbfmgaaGreatRows
import Derived.Test.YtneooimijbfmgaaGreatSsAS
import Derived.Test.YtneooimijbfmgaaGreatSsBC
import Derived.Test.YtneooimijbfmgaaGreatSsFacts
/- SpreadSteps: the steps that do meetings in a world, or the error, are the document's: the law answers true at every input, whatever lies in memory, and turns nothing; there is no condition. -/







set_option linter.unusedVariables false
set_option linter.unusedSimpArgs false
set_option linter.unusedSectionVars false
namespace Go.Proofs.YtneooimijbfmgaaGreat
open Go.RowKit Go.ChangeShapes Go.WideShapes Go.ChangeAt Go.Deep Go.Vc
set_option linter.unusedVariables false
namespace SpreadSteps
noncomputable def pars : List (Bool × List Sh) := [(true, worldS), (false, [.sl pairS])]
theorem parsOk : parsS Tryz.prog 12 Tryz.f3.params.toList = some pars := by kernel_rfl
theorem pre {xs : List DV} (h : InSs pars xs) : t_lawSteps.pre xs := by
  cases h with | cons g0 h0 =>
  cases h0 with | cons g1 h1 =>
  cases h1
  cases g0 with | a _ ds0 hd0 =>
  cases g1 with | c _ d1 hd1 =>
  have e1 : ∃ x, d1 = .fs x := by cases hd1; exact ⟨_, rfl⟩
  obtain ⟨x1, rfl⟩ := e1
  exact ⟨hd0, Ak.1 hd1⟩
set_option maxRecDepth 100000 in
theorem lifted (os : Os) (started : os.Started) (H : Type) (enc : TypeId × Value → H) :
    ReturnsInHanded {} Tryz.checked os 3 .any (Rows.spreadStepsSpec.pre6 enc Tryz.prog Tryz.f3 Rows.spreadStepsRow.domain false) (Rows.spreadStepsSpec.post enc Tryz.prog Tryz.f3 false true false false) := by
  refine returnsInHanded_of_change (C := Tryz.checked) own started (by kernel_rfl) Tryz.func3
    (ChangeSpec.witness6 (enc := enc) (C := Tryz.checked) false ⟨#[], #[.agg #[.int .i64 0, .int .i64 0, .int .i64 0, .int .i64 0, .slice none 0 0, .slice none 0 0, .slice none 0 0, .slice none 0 0, .slice none 0 0, .int .i64 0], .slice none 0 0], []⟩ 12 (by kernel_rfl) (by kernel_rfl) (by kernel_rfl) (by kernel_rfl)) ?_
  intro W base args ds gs before hval0 hW hcnd _
  have hval : ∀ (j : Nat) t v, Tryz.f3.params[j]? = some t → args[j]? = some v → Value.okWide Tryz.prog W .any base t v := hval0
  have hW' := hW
  obtain ⟨p, q, hA0, hV, _, _, _⟩ := hW
  have hA : DataW.TrodAll enc Tryz.prog W 0 (fun _ => true) true Tryz.f3.params.toList args.toList ds p := hA0
  rw [Tryz.params3] at hA
  obtain ⟨v0, vs0, d0, ds0, p0, q0, _, rfl, rfl, _, r0⟩ := trodAll_cons hA
  obtain ⟨v1, vs1, d1, ds1, p1, q1, rfl, rfl, rfl, _, r1⟩ := trodAll_cons r0
  obtain ⟨rfl, rfl, rfl⟩ := trodAll_nil r1
  obtain ⟨rfl, rfl⟩ := trodVars_none hV
  exact Aqo (P := Tryz.prog) (f := 3) (fn := Tryz.f3) (s := Rows.spreadStepsSpec) Acz parsOk rfl (fun xs h => pre h) rfl (fun xs rs h => h) hval laidOut (by decide +kernel) rfl Tryz.underlying4 rfl rfl hW'

theorem over : Rows.spreadStepsRow.holds Tryz.pinned (OpenSpec.ofChange Rows.spreadStepsSpec) :=
  OpenClaim.holds_of_wide 3 Tryz.f3 rfl rfl rfl rfl rfl rfl rfl ⟨rfl, rfl, rfl, rfl, rfl⟩ rfl rfl rfl rfl rfl (by kernel_rfl) Tryz.func3 closed
    (of_decide_eq_true (by kernel_rfl)) (by unfold Func.isWrapper; first | (rw [if_pos (by decide +kernel)]; kernel_rfl) | (rw [if_neg (by decide +kernel)]; exact ⟨rfl, rfl⟩))
    (fun os started H enc _ => lifted os started H enc)
end SpreadSteps

/-- the statement -/
theorem spreadSteps_said : Rows.SpreadStepsSaid := SpreadSteps.over
#print axioms spreadSteps_said
end Go.Proofs.YtneooimijbfmgaaGreat
