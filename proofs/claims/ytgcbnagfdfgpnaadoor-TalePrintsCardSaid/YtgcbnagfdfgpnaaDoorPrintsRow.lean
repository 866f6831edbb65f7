/- TalePrints: a tale is printed as the document says, or refused with the same error, and is not turned by it: the law returns true at every readable tale, and turns nothing; the condition is that the tables of the library that the row lists read as the text of the program lays them, which the card ties to that text. -/
import Derived.WalkKit
import Derived.ProofKit
import Derived.OpenShut
import Derived.LaidMore
import Derived.Lay
import Derived.SevenTiedAt
import Derived.Stop.Joined
import Derived.Lib.LaidTab
import Derived.Test.YtgcbnagfdfgpnaaDoorRows
import Derived.Test.YtgcbnagfdfgpnaaDoorTie
import Derived.Test.YtgcbnagfdfgpnaaDoorCards
import Derived.Test.YtgcbnagfdfgpnaaDoorLawTP
import Derived.Test.YtgcbnagfdfgpnaaDoorOpenT
namespace Go.Proofs.YtgcbnagfdfgpnaaDoor
open Go.RowKit Go.Hx Go.ChangeShapes Go.WideShapes Go.ChangeAt Go.Deep
set_option linter.unusedVariables false
namespace TalePrints

theorem own : ownKnob Tryd.prog.godebug = none := by kernel_rfl
theorem laidOut : laidOutB Tryd.prog = true := by kernel_rfl
def laid : List (String × DataW Unit) := [("math/bits.deBruijn32tab", Rows.laid_math_bits_deBruijn32tab), ("math/bits.deBruijn64tab", Rows.laid_math_bits_deBruijn64tab), ("internal/strconv.uint64pow10", Rows.laid_internal_strconv_uint64pow10)]
theorem laid_tail {P : Program} {W : World} {x : String × DataW Unit} {rest : List (String × DataW Unit)} (h : laidMet P (x :: rest) W) : laidMet P rest W := by
  obtain ⟨ps, ⟨g, t, cs, fuel, p, q, _, _, _, _, hq, rfl⟩, hnd, hk⟩ := h
  exact ⟨q, hq, (List.nodup_append.1 hnd).2.1, fun b off hm => hk b off (List.mem_append_right _ hm)⟩
theorem pow_of {W : World} (h : laidMetH Tryd.prog laid W) : Pow W := by
  rw [MakeChecks.laidMetH_plain _ _ _ (by kernel_rfl)] at h
  have hl : laid = [("math/bits.deBruijn32tab", Rows.laid_math_bits_deBruijn32tab), ("math/bits.deBruijn64tab", Rows.laid_math_bits_deBruijn64tab), ("internal/strconv.uint64pow10", Lib.tabData .u64 Lib.pow10Tab)] := by kernel_rfl
  rw [hl] at h
  exact Lib.tabIs_of_head (g := 4) (n := 20) (e := 113) (t := 242) (by kernel_rfl) (by kernel_rfl) Tryd.underlying242 Tryd.underlying113 (by kernel_rfl) (by kernel_rfl) (laid_tail (laid_tail h))
theorem sized_tale {H : Type} {enc : TypeId × Value → H} {w : World} {base : Nat} {spare : Nat → Bool} {held : Bool} {fuel : Nat} {x : DataW H × List MemPlace} {cs : List Value} {X : XTale} (hX : cs = X.cells) (h : DataW.trod enc Tryd.prog w base spare held fuel 64 cs = some x)
    (hs : (x.1.weights Tryd.prog 64).all (· ≤ reachBytes) = true) : X.steps.l.length * 40 ≤ 140737488355328 := by
  subst hX
  obtain ⟨xs, n, _, rfl, hlen, hxl, hf⟩ := DataW.trod_struct Tryd.underlying64 h
  obtain ⟨y2, hy2⟩ : ∃ y, xs[2]? = some y := ⟨_, List.getElem?_eq_getElem (by rw [hxl]; decide)⟩
  have h2 := hf 2 _ rfl
  rw [hy2] at h2
  have hc1 : Tryd.prog.cellsOf 62 = 1 := by kernel_rfl
  have e2 : (X.cells.drop 5).take (Tryd.prog.cellsOf 62) = [.slice X.steps.A X.steps.l.length X.steps.c] := by rw [hc1]; rfl
  have h3 : DataW.trod enc Tryd.prog w base spare held n 62 [.slice X.steps.A X.steps.l.length X.steps.c] = some y2 := by rw [← e2]; exact h2
  rcases DataW.trod_slice Tryd.underlying62 h3 with ⟨hc, _⟩ | ⟨a, len, cap, elems, rest, m, _, hc, rfl, _, _, _, hel, _⟩
  · have hl : X.steps.l.length = 0 := by simp at hc; simp [hc.2.1]
    omega
  · have hl : X.steps.l.length = len := by simp at hc; exact hc.2.1
    have hall : (DataW.weightsEach Tryd.prog [60, 61, 62] (xs.map (·.1))).all (· ≤ reachBytes) = true := by simpa [DataW.weights, Tryd.underlying64] using hs
    have hw := sized_slice hall (j := 2) (t := 62) (e := 115) (elems := elems.map (·.1)) (spare := rest.map (·.1)) rfl (by rw [List.getElem?_map, hy2]; rfl) Tryd.underlying62
    have hb : Tryd.prog.bytesOf 115 = 40 := by kernel_rfl
    rw [hb] at hw
    simp only [List.length_map, reachBytes] at hw
    omega

set_option maxRecDepth 100000 in
theorem lifted (os : Os) (started : os.Started) (H : Type) (enc : TypeId × Value → H) :
    ReturnsInHanded {} Tryd.checked os 6 .any (fun w args => (Rows.talePrintsSpec.pre enc Tryd.prog Tryd.f6 Rows.talePrintsRow.domain false w args ∧ laidMetH Tryd.prog laid w) ∧ sizedMet enc Tryd.prog Tryd.f6 (OpenSpec.ofChange Rows.talePrintsSpec) false w args)
      (Rows.talePrintsSpec.post enc Tryd.prog Tryd.f6 false true false false) := by
  refine returnsInHanded_of_change_and (C := Tryd.checked) (X := fun w _ => laidMetH Tryd.prog laid w) (fun _ _ _ hh h => h.of_heap hh) own started (by kernel_rfl) Tryd.func6
    (ChangeSpec.witness_shaped (enc := enc) (C := Tryd.checked) (os := os) (X := fun w _ => laidMetH Tryd.prog laid w) false (World.laidAll Tryd.prog os laid) #[.agg #[.int .i64 0, .int .i64 0, .int .i64 0, .int .i64 0, .slice none 0 0, .slice none 0 0]] 8 (World.laidAll_os _ _ _)
      (World.shaped_of_ZipB (by kernel_rfl) (by kernel_rfl)) (by kernel_rfl) (by kernel_rfl) (by kernel_rfl)
      (by rw [MakeChecks.laidMetH_plain _ _ _ (by kernel_rfl)]; exact laidMet_laidAll _ (by kernel_rfl) (by kernel_rfl))) ?_
  intro W base args ds gs before hval0 hW hc hwt0 hL _
  have hval : ∀ (j : Nat) t v, Tryd.f6.params[j]? = some t → args[j]? = some v → Value.okWide Tryd.prog W .any base t v := hval0
  have hW' := hW
  obtain ⟨p, q, hA0, hV, rfl, hfz, hnd⟩ := hW
  have hA : DataW.TrodAll enc Tryd.prog W 0 (fun _ => true) true Tryd.f6.params.toList args.toList ds p := hA0
  rw [Tryd.params6] at hA hval
  obtain ⟨v0, vs0, d0, ds0, p0, q0, hargs, rfl, rfl, h0, r0⟩ := trodAll_cons hA
  obtain ⟨rfl, rfl, rfl⟩ := trodAll_nil r0
  obtain rfl : args = #[v0] := by cases args; simp_all
  obtain ⟨rfl, rfl⟩ := trodVars_none hV
  obtain ⟨cs0, rfl, hsz0⟩ := okWide_struct Tryd.underlying64 (hval 0 64 v0 rfl rfl)
  obtain ⟨fu0, t0⟩ := h0
  obtain ⟨X0, hX0, hXo0, hXw0⟩ := open_Tale t0
  obtain rfl : cs0 = X0.cells.toArray := Array.toList_inj.1 hX0
  refine (talePrints_any X0 W hXo0 hXw0 (pow_of hL) (sized_tale rfl t0 (List.all_eq_true.2 fun n hn => List.all_eq_true.1 hwt0 n (DataW.weights_mem_each (j := 0) rfl rfl n hn)))).mono fun e W' ⟨he, hE⟩ => ?_
  exact ⟨_, he, post_true laidOut (by decide +kernel) rfl Tryd.underlying4 rfl rfl hW' hE⟩

theorem over : Rows.talePrintsRow.holds Tryd.pinned (OpenSpec.ofChange Rows.talePrintsSpec) :=
  OpenClaim.holds_of_wide 6 Tryd.f6 rfl rfl rfl rfl rfl rfl rfl ⟨rfl, rfl, rfl, rfl, rfl⟩ rfl rfl rfl rfl rfl (by kernel_rfl) Tryd.func6 (by kernel_rfl)
    (of_decide_eq_true (by kernel_rfl)) (by unfold Func.isWrapper; first | (rw [if_pos (by decide +kernel)]; kernel_rfl) | (rw [if_neg (by decide +kernel)]; exact ⟨rfl, rfl⟩))
    (fun os started H enc _ => lifted os started H enc)
end TalePrints

/-- the statement -/
theorem talePrints_said : Rows.TalePrintsCardSaid :=
  Claim7.holds_tied_plain_at .later [] [.data, .data, .data] true (true, "8da1dfd856d4764265a3898b99b3b241b8113995160b812bc4dba901a1cc626a") true
    TalePrints.over (fun _ h => by cases h) (by kernel_rfl) (fun _ h => by cases h) talePrints_row_tie rfl ⟨rfl, rfl⟩ (by kernel_rfl) rfl
    (fun f fn hf hfn => by
      obtain rfl : f = 6 := Option.some.inj ((show Tryd.prog.funcNamed "headcount/headcountlaw32.TalePrints" = some 6 by kernel_rfl).symm.trans hf) |>.symm
      obtain rfl : fn = Tryd.f6 := (Option.some.inj (Tryd.func6.symm.trans hfn)).symm
      exact ⟨by kernel_rfl, fun j t ht => by
        rw [Tryd.params6] at ht
        have hm : t ∈ [64] := by simpa using Array.mem_of_getElem? ht
        have hall : ([64].all fun u => !Tryd.prog.wantsStandIn u) = true := by kernel_rfl
        exact (show Tryd.prog.wantsStandIn t = false by simpa using List.all_eq_true.1 hall t hm)⟩)
    (by kernel_rfl)
end Go.Proofs.YtgcbnagfdfgpnaaDoor
