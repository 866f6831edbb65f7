/- AuditNames: the errors, worlds that are not even or not sound, and more examples, are as is said: the law returns true and turns nothing; it has no input, so the kernel runs it, by an executor that is proved to answer what the program answers in every world and for every tape; the condition is that the table of 32 bytes in the library reads as the text of the program lays it, which the card ties to that text. -/
import Derived.WalkKit
import Derived.ProofKit
import Derived.OpenShut
import Derived.LaidMore
import Derived.Lay
import Derived.SevenTiedAt
import Derived.Stop.Joined
import Derived.Lib.LaidTab
import Derived.Deep.Slices
import Derived.Carry
import Derived.Test.YtmcchddjmobhaaaGreatDoorRows
import Derived.Test.YtmcchddjmobhaaaGreatDoorTie
import Derived.Test.YtmcchddjmobhaaaGreatDoorCards
import Derived.Test.YtmcchddjmobhaaaGreatDoorExH
import Derived.Test.YtmcchddjmobhaaaGreatDoorAuditFacts
import Derived.Test.YtmcchddjmobhaaaGreatDoorAuditRun
namespace Go.Proofs.YtmcchddjmobhaaaGreatDoor
open Go.RowKit Go.ChangeShapes Go.WideShapes Go.ChangeAt Go.Deep Go.Ex
set_option linter.unusedVariables false
namespace AuditNames

theorem own : ownKnob Tryz.prog.godebug = none := by kernel_rfl
def laid : List (String × DataW Unit) := [("math/bits.deBruijn32tab", Rows.laid_math_bits_deBruijn32tab)]
def zs : List Int := [0, 1, 28, 2, 29, 14, 24, 3, 30, 22, 20, 15, 25, 17, 4, 8, 31, 27, 13, 23, 21, 19, 16, 7, 26, 12, 18, 6, 11, 5, 10, 9]
theorem zs_tab : ∀ j : Fin 32, zs.getD j.val 0 = ((Lib.deBruijn32tab.getD j.val 0 : Nat) : Int) := by decide +kernel
theorem tab_of {W : World} (h : laidMetH Tryz.prog laid W) : (∀ j, j < 32 → W.cell? ⟨0, j, none⟩ = some (.int .u8 (Lib.deBruijn32tab.getD j 0))) ∧ 0 < W.heap.size := by
  rw [MakeChecks.laidMetH_plain _ _ _ (by kernel_rfl)] at h
  have hl : laid = [("math/bits.deBruijn32tab", Lib.tabData .u8 zs)] := rfl
  rw [hl] at h
  have hg : Tryz.prog.globalNamed "math/bits.deBruijn32tab" = some 0 := by kernel_rfl
  have hI := Lib.tabIs_of_head (n := 32) (e := 5) (t := 338) hg (by kernel_rfl) Tryz.underlying338 Tryz.underlying5 (by kernel_rfl) (by kernel_rfl) h
  have hc : ∀ j, j < 32 → W.cell? ⟨0, j, none⟩ = some (.int .u8 (Lib.deBruijn32tab.getD j 0)) := fun j hj => by
    rw [hI.cell hg j hj, ← zs_tab ⟨j, hj⟩]
  refine ⟨hc, ?_⟩
  rcases Nat.eq_zero_or_pos W.heap.size with h0 | h0
  · have := hc 0 (by decide)
    have he : W.heap = #[] := Array.eq_empty_of_size_eq_zero h0
    simp [World.cell?, he] at this
  · exact h0
theorem known_ok {W : World} (h : laidMetH Tryz.prog laid W) : (∀ g l, known g = some l → ∀ j v, l[j]? = some v → W.cell? ⟨g, j, none⟩ = some v) ∧ ∀ g l, known g = some l → g < W.heap.size := by
  obtain ⟨hc, hp⟩ := tab_of h
  refine ⟨fun g l hg j v hj => ?_, fun g l hg => ?_⟩
  · cases g with
    | succ g => cases hg
    | zero =>
      cases hg
      rw [List.getElem?_map] at hj
      cases hx : Lib.deBruijn32tab[j]? with
      | none => rw [hx] at hj; cases hj
      | some x =>
        rw [hx] at hj
        cases hj
        have hl : j < 32 := by
          rcases Nat.lt_or_ge j 32 with h | h
          · exact h
          · have hz : Lib.deBruijn32tab[j]? = none := List.getElem?_eq_none (Nat.le_trans (by decide) h)
            rw [hz] at hx; cases hx
        rw [hc j hl, List.getD_eq_getElem?_getD, hx]
        rfl
  · cases g with
    | succ g => cases hg
    | zero => exact hp
section
variable {H : Type} {enc : TypeId × Value → H} {P : Program}
/-- what the row asks behind a call without arguments that answered true and turned nothing -/
theorem post_true {f : Func} {s : ChangeSpec} {W W' : World} {tb : TypeId} {before : List MemPlace}
    (hps : f.params = #[]) (hres : f.resultTypes = #[tb]) (hb : P.underlying tb = some .bool) (hvars : s.vars = []) (hs : s.fn H ([] ++ []) = { results := [.lit (.bool true)], args := [] })
    (hW : DataW.Whole enc P f.params.toList s.vars false W [] [] [] before) (hE : Below W.heap.size W W') : s.post enc P f false true false false W #[] (.bool true) W' := by
  have hW' := hW
  obtain ⟨p, q, hA, hV, rfl, hfz, hnd⟩ := hW
  rw [hps] at hA
  rw [hvars] at hV
  have hp : p = [] := hA
  have hq : q = [] := hV
  subst hp hq
  refine ⟨[], [], [] ++ [], [], [], [], hW', ?_, ?_, ?_, World.keptBut_mono (fun x hx => by cases hx) (hE.frame (· ∈ ([] : List MemPlace))), fun h => by cases h⟩
  · rw [hs, hres]
    exact trodAll_mk1 (shut_bool hb true)
  · rw [hs, hps]
    rfl
  · rw [hvars, hs]
    rfl
end
theorem any {W : World} (h : laidMetH Tryz.prog laid W) : Calls Tryz.prog 3 #[] W fun e W' => e = .returned (.bool true) ∧ Below W.heap.size W W' := by
  obtain ⟨m, hm⟩ := trueR_iff ran
  refine (saysM follows last hm (known_ok h).1 (known_ok h).2).mono ?_
  rintro e W' ⟨he, hg, hh⟩
  exact ⟨he, hg.os, hg.tape, hg.output, hg.size, hh⟩

set_option maxRecDepth 100000 in
theorem lifted (os : Os) (started : os.Started) (H : Type) (enc : TypeId × Value → H) :
    ReturnsInHanded {} Tryz.checked os 3 .any (fun w args => (Rows.auditNamesSpec.pre enc Tryz.prog Tryz.f3 Rows.auditNamesRow.domain false w args ∧ laidMetH Tryz.prog laid w) ∧ sizedMet enc Tryz.prog Tryz.f3 (OpenSpec.ofChange Rows.auditNamesSpec) false w args)
      (Rows.auditNamesSpec.post enc Tryz.prog Tryz.f3 false true false false) := by
  refine returnsInHanded_of_change_and (C := Tryz.checked) (X := fun w _ => laidMetH Tryz.prog laid w) (fun _ _ _ hh h => h.of_heap hh) own started (by kernel_rfl) Tryz.func3
    (ChangeSpec.witness_shaped (enc := enc) (C := Tryz.checked) (os := os) (X := fun w _ => laidMetH Tryz.prog laid w) false (World.laidAll Tryz.prog os laid) #[] 8 (World.laidAll_os _ _ _)
      (World.shaped_of_ZipB (by kernel_rfl) (by kernel_rfl)) (by kernel_rfl) (by kernel_rfl) (by kernel_rfl)
      (by rw [MakeChecks.laidMetH_plain _ _ _ (by kernel_rfl)]; exact laidMet_laidAll _ (by kernel_rfl) (by kernel_rfl))) ?_
  intro W base args ds gs before hval0 hW hc _ hL _
  have hW' := hW
  obtain ⟨p, q, hA0, hV, rfl, hfz, hnd⟩ := hW
  have hA : DataW.TrodAll enc Tryz.prog W 0 (fun _ => true) true Tryz.f3.params.toList args.toList ds p := hA0
  rw [Tryz.params3] at hA
  obtain ⟨ha, rfl, rfl⟩ := trodAll_nil hA
  obtain rfl : args = #[] := by cases args; simp_all
  obtain ⟨rfl, rfl⟩ := trodVars_none hV
  refine (any hL).mono fun e W' ⟨he, hE⟩ => ?_
  exact ⟨_, he, post_true rfl rfl Tryz.underlying4 rfl rfl hW' hE⟩

theorem over : Rows.auditNamesRow.holds Tryz.pinned (OpenSpec.ofChange Rows.auditNamesSpec) :=
  OpenClaim.holds_of_wide 3 Tryz.f3 rfl rfl rfl rfl rfl rfl rfl ⟨rfl, rfl, rfl, rfl, rfl⟩ rfl rfl rfl rfl rfl (by kernel_rfl) Tryz.func3 closed
    (of_decide_eq_true (by kernel_rfl)) (by unfold Func.isWrapper; first | (rw [if_pos (by decide +kernel)]; kernel_rfl) | (rw [if_neg (by decide +kernel)]; exact ⟨rfl, rfl⟩))
    (fun os started H enc _ => lifted os started H enc)
end AuditNames

/-- the statement -/
theorem auditNames_said : Rows.AuditNamesCardSaid :=
  Claim7.holds_tied_plain_at .later [] [.data] true (true, "328d7850f04aabb7c8e28ec4467eb584e692665b1075624d2a689c0410c64984") true
    AuditNames.over (fun _ h => by cases h) (by kernel_rfl) (fun _ h => by cases h) auditNames_row_tie rfl ⟨rfl, rfl⟩ (by kernel_rfl) rfl
    (fun f fn hf hfn => by
      obtain rfl : f = 3 := Option.some.inj ((show Tryz.prog.funcNamed "headcount/headcountlaw28.AuditNames" = some 3 by kernel_rfl).symm.trans hf) |>.symm
      obtain rfl : fn = Tryz.f3 := (Option.some.inj (Tryz.func3.symm.trans hfn)).symm
      exact ⟨AuditNames.looksOk, fun j t ht => by
        rw [Tryz.params3] at ht
        simp at ht⟩)
    AuditNames.goes
end Go.Proofs.YtmcchddjmobhaaaGreatDoor
