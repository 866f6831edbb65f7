/- NodeCrash: a crash loses all that is held and leaves nothing, and a life that begins then holds nothing till its epoch turns: the law answers true from any node and any number of ticks, whatever lies in memory, and turns nothing; there is no condition. -/
import Derived.WalkKit
import Derived.ProofKit
import Derived.OpenShut
import Derived.Test.YtneooimijbfmgaaGreatRows
import Derived.Test.YtneooimijbfmgaaGreatCrAS
import Derived.Test.YtneooimijbfmgaaGreatCrBB
import Derived.Test.YtneooimijbfmgaaGreatCrFacts
set_option linter.unusedVariables false
set_option linter.unusedSimpArgs false
set_option linter.unusedSectionVars false
namespace Go.Proofs.YtneooimijbfmgaaGreat
open Go.RowKit Go.ChangeShapes Go.WideShapes Go.ChangeAt Go.Deep Go.Vc
set_option linter.unusedVariables false
namespace NodeCrash
noncomputable def pars : List (Bool × List Sh) := [(true, nodeS), (false, [s64])]
theorem parsOk : parsS Tryz.prog 12 Tryz.f6.params.toList = some pars := by kernel_rfl
theorem pre {xs : List DV} (h : InSs pars xs) : t_lawCrash.pre xs := by
  cases h with | cons h1 h2 =>
  cases h1 with | a _ ds hd =>
  exact hd
set_option maxRecDepth 100000 in
theorem lifted (os : Os) (started : os.Started) (H : Type) (enc : TypeId × Value → H) :
    ReturnsInHanded {} Tryz.checked os 6 .any (Rows.nodeCrashSpec.pre6 enc Tryz.prog Tryz.f6 Rows.nodeCrashRow.domain false) (Rows.nodeCrashSpec.post enc Tryz.prog Tryz.f6 false true false false) := by
  refine returnsInHanded_of_change (C := Tryz.checked) own started (by kernel_rfl) Tryz.func6
    (ChangeSpec.witness6 (enc := enc) (C := Tryz.checked) false ⟨#[], #[.agg #[.int .i64 0, .int .i64 0, .bool false, .int .i64 0, .int .i64 0, .int .i64 0, .int .i64 0, .int .i64 0, .bool false, .slice none 0 0, .int .i64 0, .bool false, .slice none 0 0, .int .i64 0, .bool false, .slice none 0 0, .int .i64 0, .bool false, .slice none 0 0, .int .i64 0, .bool false, .int .i64 0, .int .i64 0, .slice none 0 0, .bool false, .int .i64 0, .int .i64 0, .slice none 0 0, .int .i64 0, .int .i64 0, .slice none 0 0, .slice none 0 0, .slice none 0 0], .int .i64 0], []⟩ 12 (by kernel_rfl) (by kernel_rfl) (by kernel_rfl) (by kernel_rfl)) ?_
  intro W base args ds gs before hval0 hW hcnd _
  have hval : ∀ (j : Nat) t v, Tryz.f6.params[j]? = some t → args[j]? = some v → Value.okWide Tryz.prog W .any base t v := hval0
  have hW' := hW
  obtain ⟨p, q, hA0, hV, _, _, _⟩ := hW
  have hA : DataW.TrodAll enc Tryz.prog W 0 (fun _ => true) true Tryz.f6.params.toList args.toList ds p := hA0
  rw [Tryz.params6] at hA
  obtain ⟨v0, vs0, d0, ds0, p0, q0, _, rfl, rfl, _, r0⟩ := trodAll_cons hA
  obtain ⟨v1, vs1, d1, ds1, p1, q1, rfl, rfl, rfl, _, r1⟩ := trodAll_cons r0
  obtain ⟨rfl, rfl, rfl⟩ := trodAll_nil r1
  obtain ⟨rfl, rfl⟩ := trodVars_none hV
  exact row_true (P := Tryz.prog) (f := 6) (fn := Tryz.f6) (s := Rows.nodeCrashSpec) con_lawCrash parsOk rfl (fun xs h => pre h) rfl (fun xs rs h => h) hval laidOut (by decide +kernel) rfl Tryz.underlying4 rfl rfl hW'

theorem over : Rows.nodeCrashRow.holds Tryz.pinned (OpenSpec.ofChange Rows.nodeCrashSpec) :=
  OpenClaim.holds_of_wide 6 Tryz.f6 rfl rfl rfl rfl rfl rfl rfl ⟨rfl, rfl, rfl, rfl, rfl⟩ rfl rfl rfl rfl rfl (by kernel_rfl) Tryz.func6 closed
    (of_decide_eq_true (by kernel_rfl)) (by unfold Func.isWrapper; first | (rw [if_pos (by decide +kernel)]; kernel_rfl) | (rw [if_neg (by decide +kernel)]; exact ⟨rfl, rfl⟩))
    (fun os started H enc _ => lifted os started H enc)
end NodeCrash

/-- the statement -/
theorem nodeCrash_said : Rows.NodeCrashSaid := NodeCrash.over
#print axioms nodeCrash_said
end Go.Proofs.YtneooimijbfmgaaGreat
