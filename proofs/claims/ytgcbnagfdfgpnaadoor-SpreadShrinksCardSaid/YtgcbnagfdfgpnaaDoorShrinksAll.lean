/- SpreadShrinks: behind meetings, averages are apart by the bound of their rounds at most: the law returns true at every readable list of masses and every readable list of meetings, and turns nothing; the condition is that the table of 32 bytes in the library reads as the text of the program lays it, which the card ties to that text. -/
import Derived.WalkKit
import Derived.ProofKit
import Derived.OpenShut
import Derived.LaidMore
import Derived.Lay
import Derived.SevenTiedAt
import Derived.Stop.Joined
import Derived.Lib.LaidTab
import Derived.Test.YtgcbnagfdfgpnaaDoorRows
import Derived.Test.YtgcbnagfdfgpnaaDoorTie
import Derived.Test.YtgcbnagfdfgpnaaDoorCards
import Derived.Test.YtgcbnagfdfgpnaaDoorShrinksAll43
import Derived.Test.YtgcbnagfdfgpnaaDoorOpenS
namespace Go.Proofs.YtgcbnagfdfgpnaaDoor
open Go.RowKit Go.Hx Go.ChangeShapes Go.WideShapes Go.ChangeAt Go.Deep
set_option linter.unusedVariables false
namespace SpreadShrinks

theorem own : ownKnob Tryd.prog.godebug = none := by kernel_rfl
theorem laidOut : laidOutB Tryd.prog = true := by kernel_rfl
def laid : List (String × DataW Unit) := [("math/bits.deBruijn32tab", Rows.laid_math_bits_deBruijn32tab)]
def zs : List Int := [0, 1, 28, 2, 29, 14, 24, 3, 30, 22, 20, 15, 25, 17, 4, 8, 31, 27, 13, 23, 21, 19, 16, 7, 26, 12, 18, 6, 11, 5, 10, 9]
theorem zs_tab : ∀ j : Fin 32, zs.getD j.val 0 = ((Lib.deBruijn32tab.getD j.val 0 : Nat) : Int) := by decide +kernel
theorem tab_of {W : World} (h : laidMetH Tryd.prog laid W) : Tab W := fun j hj => by
  rw [MakeChecks.laidMetH_plain _ _ _ (by kernel_rfl)] at h
  have hl : laid = [("math/bits.deBruijn32tab", Lib.tabData .u8 zs)] := rfl
  rw [hl] at h
  have hg : Tryd.prog.globalNamed "math/bits.deBruijn32tab" = some 0 := by kernel_rfl
  have hI := Lib.tabIs_of_head (n := 32) (e := 5) (t := 221) hg (by kernel_rfl) Tryd.underlying221 Tryd.underlying5 (by kernel_rfl) (by kernel_rfl) h
  rw [hI.cell hg j hj, ← zs_tab ⟨j, hj⟩]

set_option maxRecDepth 100000 in
theorem lifted (os : Os) (started : os.Started) (H : Type) (enc : TypeId × Value → H) :
    ReturnsInHanded {} Tryd.checked os 7 .any (fun w args => (Rows.spreadShrinksSpec.pre enc Tryd.prog Tryd.f7 Rows.spreadShrinksRow.domain false w args ∧ laidMetH Tryd.prog laid w) ∧ sizedMet enc Tryd.prog Tryd.f7 (OpenSpec.ofChange Rows.spreadShrinksSpec) false w args)
      (Rows.spreadShrinksSpec.post enc Tryd.prog Tryd.f7 false true false false) := by
  refine returnsInHanded_of_change_and (C := Tryd.checked) (X := fun w _ => laidMetH Tryd.prog laid w) (fun _ _ _ hh h => h.of_heap hh) own started (by kernel_rfl) Tryd.func7
    (ChangeSpec.witness_shaped (enc := enc) (C := Tryd.checked) (os := os) (X := fun w _ => laidMetH Tryd.prog laid w) false (World.laidAll Tryd.prog os laid) #[.slice none 0 0, .slice none 0 0] 8 (World.laidAll_os _ _ _)
      (World.shaped_of_ZipB (by kernel_rfl) (by kernel_rfl)) (by kernel_rfl) (by kernel_rfl) (by kernel_rfl)
      (by rw [MakeChecks.laidMetH_plain _ _ _ (by kernel_rfl)]; exact laidMet_laidAll _ (by kernel_rfl) (by kernel_rfl))) ?_
  intro W base args ds gs before hval0 hW hc _ hL _
  have hval : ∀ (j : Nat) t v, Tryd.f7.params[j]? = some t → args[j]? = some v → Value.okWide Tryd.prog W .any base t v := hval0
  have hW' := hW
  obtain ⟨p, q, hA0, hV, rfl, hfz, hnd⟩ := hW
  have hA : DataW.TrodAll enc Tryd.prog W 0 (fun _ => true) true Tryd.f7.params.toList args.toList ds p := hA0
  rw [Tryd.params7] at hA hval
  obtain ⟨v0, vs0, d0, ds0, p0, q0, hargs, rfl, rfl, h0, r0⟩ := trodAll_cons hA
  obtain ⟨v1, vs1, d1, ds1, p1, q1, rfl, rfl, rfl, h1, r1⟩ := trodAll_cons r0
  obtain ⟨rfl, rfl, rfl⟩ := trodAll_nil r1
  obtain rfl : args = #[v0, v1] := by cases args; simp_all
  obtain ⟨rfl, rfl⟩ := trodVars_none hV
  obtain ⟨A0, l0, c0, rfl⟩ := okWide_slice Tryd.underlying44 (hval 0 44 v0 rfl rfl)
  obtain ⟨A1, l1, c1, rfl⟩ := okWide_slice Tryd.underlying35 (hval 1 35 v1 rfl rfl)
  obtain ⟨fu0, t0⟩ := h0
  obtain ⟨L0, hL0, hok0, hel0⟩ := open_sMass t0
  obtain ⟨rfl, rfl, rfl⟩ : A0 = L0.A ∧ l0 = L0.l.length ∧ c0 = L0.c := by simpa [Value.cells] using hL0
  obtain ⟨fu1, t1⟩ := h1
  obtain ⟨L1, hL1, hok1, hel1⟩ := open_sMeeting t1
  obtain ⟨rfl, rfl, rfl⟩ : A1 = L1.A ∧ l1 = L1.l.length ∧ c1 = L1.c := by simpa [Value.cells] using hL1
  refine (spreadShrinks_any L0 L1 W hok0 (fun z hz => (hel0 z hz).1) (fun z hz => ⟨(hel0 z hz).2.1.1, (hel0 z hz).2.2.1.1, (hel0 z hz).2.2.2.1.1, (hel0 z hz).2.2.2.2.1⟩) hok1 (tab_of hL)).mono fun e W' ⟨he, hE⟩ => ?_
  exact ⟨_, he, post_true laidOut (by decide +kernel) rfl Tryd.underlying4 rfl rfl hW' hE⟩

theorem over : Rows.spreadShrinksRow.holds Tryd.pinned (OpenSpec.ofChange Rows.spreadShrinksSpec) :=
  OpenClaim.holds_of_wide 7 Tryd.f7 rfl rfl rfl rfl rfl rfl rfl ⟨rfl, rfl, rfl, rfl, rfl⟩ rfl rfl rfl rfl rfl (by kernel_rfl) Tryd.func7 (by kernel_rfl)
    (of_decide_eq_true (by kernel_rfl)) (by unfold Func.isWrapper; first | (rw [if_pos (by decide +kernel)]; kernel_rfl) | (rw [if_neg (by decide +kernel)]; exact ⟨rfl, rfl⟩))
    (fun os started H enc _ => lifted os started H enc)
end SpreadShrinks

/-- the statement -/
theorem spreadShrinks_said : Rows.SpreadShrinksCardSaid :=
  Claim7.holds_tied_plain_at .later [] [.data] true (true, "8da1dfd856d4764265a3898b99b3b241b8113995160b812bc4dba901a1cc626a") true
    SpreadShrinks.over (fun _ h => by cases h) (by kernel_rfl) (fun _ h => by cases h) spreadShrinks_row_tie rfl ⟨rfl, rfl⟩ (by kernel_rfl) rfl
    (fun f fn hf hfn => by
      obtain rfl : f = 7 := Option.some.inj ((show Tryd.prog.funcNamed "headcount/headcountlaw30.SpreadShrinks" = some 7 by kernel_rfl).symm.trans hf) |>.symm
      obtain rfl : fn = Tryd.f7 := (Option.some.inj (Tryd.func7.symm.trans hfn)).symm
      exact ⟨by kernel_rfl, fun j t ht => by
        rw [Tryd.params7] at ht
        have hm : t ∈ [44, 35] := by simpa using Array.mem_of_getElem? ht
        have hall : ([44, 35].all fun u => !Tryd.prog.wantsStandIn u) = true := by kernel_rfl
        exact (show Tryd.prog.wantsStandIn t = false by simpa using List.all_eq_true.1 hall t hm)⟩)
    (by kernel_rfl)
end Go.Proofs.YtgcbnagfdfgpnaaDoor
