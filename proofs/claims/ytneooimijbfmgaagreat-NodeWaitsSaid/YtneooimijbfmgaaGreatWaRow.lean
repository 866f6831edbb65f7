/- NodeWaits: a node waits till a timer of its Wait is due, or its epoch turns, and no timer is left that was due: the law answers true at every input, whatever lies in memory, and turns nothing; there is no condition. -/
import Derived.WalkKit
import Derived.ProofKit
import Derived.OpenShut
import Derived.Test.YtneooimijbfmgaaGreatRows
import Derived.Test.YtneooimijbfmgaaGreatWaAR
import Derived.Test.YtneooimijbfmgaaGreatWaAZ
import Derived.Test.YtneooimijbfmgaaGreatWaFacts
set_option linter.unusedVariables false
set_option linter.unusedSimpArgs false
set_option linter.unusedSectionVars false
namespace Go.Proofs.YtneooimijbfmgaaGreat
open Go.RowKit Go.ChangeShapes Go.WideShapes Go.ChangeAt Go.Deep Go.Vc
set_option linter.unusedVariables false
namespace NodeWaits
noncomputable def pars : List (Bool × List Sh) := [(true, nodeS)]
theorem parsOk : parsS Tryz.prog 12 Tryz.f7.params.toList = some pars := by kernel_rfl
theorem pre {xs : List DV} (h : InSs pars xs) : t_lawWaits.pre xs := by
  cases h with | cons g0 h0 =>
  cases h0
  cases g0 with | a _ ds0 hd0 =>
  exact hd0
set_option maxRecDepth 100000 in
theorem lifted (os : Os) (started : os.Started) (H : Type) (enc : TypeId × Value → H) :
    ReturnsInHanded {} Tryz.checked os 7 .any (Rows.nodeWaitsSpec.pre6 enc Tryz.prog Tryz.f7 Rows.nodeWaitsRow.domain false) (Rows.nodeWaitsSpec.post enc Tryz.prog Tryz.f7 false true false false) := by
  refine returnsInHanded_of_change (C := Tryz.checked) own started (by kernel_rfl) Tryz.func7
    (ChangeSpec.witness6 (enc := enc) (C := Tryz.checked) false ⟨#[], #[.agg #[.int .i64 0, .int .i64 0, .bool false, .int .i64 0, .int .i64 0, .int .i64 0, .int .i64 0, .int .i64 0, .bool false, .slice none 0 0, .int .i64 0, .bool false, .slice none 0 0, .int .i64 0, .bool false, .slice none 0 0, .int .i64 0, .bool false, .slice none 0 0, .int .i64 0, .bool false, .int .i64 0, .int .i64 0, .slice none 0 0, .bool false, .int .i64 0, .int .i64 0, .slice none 0 0, .int .i64 0, .int .i64 0, .slice none 0 0, .slice none 0 0, .slice none 0 0]], []⟩ 12 (by kernel_rfl) (by kernel_rfl) (by kernel_rfl) (by kernel_rfl)) ?_
  intro W base args ds gs before hval0 hW hcnd _
  have hval : ∀ (j : Nat) t v, Tryz.f7.params[j]? = some t → args[j]? = some v → Value.okWide Tryz.prog W .any base t v := hval0
  have hW' := hW
  obtain ⟨p, q, hA0, hV, _, _, _⟩ := hW
  have hA : DataW.TrodAll enc Tryz.prog W 0 (fun _ => true) true Tryz.f7.params.toList args.toList ds p := hA0
  rw [Tryz.params7] at hA
  obtain ⟨v0, vs0, d0, ds0, p0, q0, _, rfl, rfl, _, r0⟩ := trodAll_cons hA
  obtain ⟨rfl, rfl, rfl⟩ := trodAll_nil r0
  obtain ⟨rfl, rfl⟩ := trodVars_none hV
  exact row_true (P := Tryz.prog) (f := 7) (fn := Tryz.f7) (s := Rows.nodeWaitsSpec) con_lawWaits parsOk rfl (fun xs h => pre h) rfl (fun xs rs h => h) hval laidOut (by decide +kernel) rfl Tryz.underlying4 rfl rfl hW'

theorem over : Rows.nodeWaitsRow.holds Tryz.pinned (OpenSpec.ofChange Rows.nodeWaitsSpec) :=
  OpenClaim.holds_of_wide 7 Tryz.f7 rfl rfl rfl rfl rfl rfl rfl ⟨rfl, rfl, rfl, rfl, rfl⟩ rfl rfl rfl rfl rfl (by kernel_rfl) Tryz.func7 closed
    (of_decide_eq_true (by kernel_rfl)) (by unfold Func.isWrapper; first | (rw [if_pos (by decide +kernel)]; kernel_rfl) | (rw [if_neg (by decide +kernel)]; exact ⟨rfl, rfl⟩))
    (fun os started H enc _ => lifted os started H enc)
end NodeWaits

/-- the statement -/
theorem nodeWaits_said : Rows.NodeWaitsSaid := NodeWaits.over
#print axioms nodeWaits_said
end Go.Proofs.YtneooimijbfmgaaGreat
