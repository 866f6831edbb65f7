/- NodeNames: the errors, nodes that may not be, and more examples, are as is said: the law returns true and turns nothing; it has no input, so the kernel runs it, by an executor that is proved to answer what the program answers in every world and for every tape; there is no condition. -/
import Derived.WalkKit
import Derived.ProofKit
import Derived.OpenShut
import Derived.LaidMore
import Derived.Lay
import Derived.SevenTiedAt
import Derived.Stop.Joined
import Derived.Lib.LaidTab
import Derived.Deep.Slices
import Derived.Carry
import Derived.Test.YtmbgfnpkkkjipaaGreatRows
import Derived.Test.YtmbgfnpkkkjipaaGreatExI
import Derived.Test.YtmbgfnpkkkjipaaGreatNodeRun
namespace Go.Proofs.YtmbgfnpkkkjipaaGreat
open Go.RowKit Go.ChangeShapes Go.WideShapes Go.ChangeAt Go.Deep Go.Ex
set_option linter.unusedVariables false
namespace NodeNames

theorem own : ownKnob Tryz.prog.godebug = none := by kernel_rfl
section
variable {H : Type} {enc : TypeId × Value → H} {P : Program}
/-- what the row asks behind a call without arguments that answered true and turned nothing -/
theorem post_true {f : Func} {s : ChangeSpec} {W W' : World} {tb : TypeId} {before : List MemPlace}
    (hps : f.params = #[]) (hres : f.resultTypes = #[tb]) (hb : P.underlying tb = some .bool) (hvars : s.vars = []) (hs : s.fn H ([] ++ []) = { results := [.lit (.bool true)], args := [] })
    (hW : DataW.Whole enc P f.params.toList s.vars false W [] [] [] before) (hE : Below W.heap.size W W') : s.post enc P f false true false false W #[] (.bool true) W' := by
  have hW' := hW
  obtain ⟨p, q, hA, hV, rfl, hfz, hnd⟩ := hW
  rw [hps] at hA
  rw [hvars] at hV
  have hp : p = [] := hA
  have hq : q = [] := hV
  subst hp hq
  refine ⟨[], [], [] ++ [], [], [], [], hW', ?_, ?_, ?_, World.keptBut_mono (fun x hx => by cases hx) (hE.frame (· ∈ ([] : List MemPlace))), fun h => by cases h⟩
  · rw [hs, hres]
    exact trodAll_mk1 (shut_bool hb true)
  · rw [hs, hps]
    rfl
  · rw [hvars, hs]
    rfl
end
theorem any (W : World) : Calls Tryz.prog 3 #[] W fun e W' => e = .returned (.bool true) ∧ Below W.heap.size W W' := by
  obtain ⟨m, hm⟩ := trueR_iff ran
  refine (saysM follows last hm (fun g l h => by cases h) (fun g l h => by cases h)).mono ?_
  rintro e W' ⟨he, hg, hh⟩
  exact ⟨he, hg.os, hg.tape, hg.output, hg.size, hh⟩

set_option maxRecDepth 100000 in
theorem lifted (os : Os) (started : os.Started) (H : Type) (enc : TypeId × Value → H) :
    ReturnsInHanded {} Tryz.checked os 3 .any (Rows.nodeNamesSpec.pre6 enc Tryz.prog Tryz.f3 Rows.nodeNamesRow.domain false) (Rows.nodeNamesSpec.post enc Tryz.prog Tryz.f3 false true false false) := by
  refine returnsInHanded_of_change (C := Tryz.checked) own started (by kernel_rfl) Tryz.func3
    (ChangeSpec.witness6 (enc := enc) (C := Tryz.checked) false ⟨#[], #[], []⟩ 8 (by kernel_rfl) (by kernel_rfl) (by kernel_rfl) (by kernel_rfl)) ?_
  intro W base args ds gs before hval0 hW hcnd _
  have hW' := hW
  obtain ⟨p, q, hA0, hV, rfl, hfz, hnd⟩ := hW
  have hA : DataW.TrodAll enc Tryz.prog W 0 (fun _ => true) true Tryz.f3.params.toList args.toList ds p := hA0
  rw [Tryz.params3] at hA
  obtain ⟨ha, rfl, rfl⟩ := trodAll_nil hA
  obtain rfl : args = #[] := by cases args; simp_all
  obtain ⟨rfl, rfl⟩ := trodVars_none hV
  refine (any W).mono fun e W' ⟨he, hE⟩ => ?_
  exact ⟨_, he, post_true rfl rfl Tryz.underlying4 rfl rfl hW' hE⟩

theorem over : Rows.nodeNamesRow.holds Tryz.pinned (OpenSpec.ofChange Rows.nodeNamesSpec) :=
  OpenClaim.holds_of_wide 3 Tryz.f3 rfl rfl rfl rfl rfl rfl rfl ⟨rfl, rfl, rfl, rfl, rfl⟩ rfl rfl rfl rfl rfl (by kernel_rfl) Tryz.func3 (by kernel_rfl)
    (of_decide_eq_true (by kernel_rfl)) (by unfold Func.isWrapper; first | (rw [if_pos (by decide +kernel)]; kernel_rfl) | (rw [if_neg (by decide +kernel)]; exact ⟨rfl, rfl⟩))
    (fun os started H enc _ => lifted os started H enc)
end NodeNames

/-- the statement -/
theorem nodeNames_said : Rows.NodeNamesSaid := NodeNames.over
end Go.Proofs.YtmbgfnpkkkjipaaGreat
