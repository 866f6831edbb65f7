/- Whether data are more than statements go through: 'no' says that they are small. Printed by gen_great.py. -/
import Derived.Test.YtnlhpdlnbcdfjaaFresh
import Derived.Test.YtnlhpdlnbcdfjaaChainApp
import Derived.Test.YtnlhpdlnbcdfjaaTwin2
import Derived.Test.YtnlhpdlnbcdfjaaTurn
namespace Go.Hx
open Go.RowKit
/-- an answer: if it is no, it is so -/
def Gr (Φ : Prop) (w : World) (e : Ending) (w' : World) : Prop := ∃ b, e = .returned (.bool b) ∧ (b = false → Φ) ∧ Ext w w'
theorem Gr.yes {Φ : Prop} {w w' : World} {v : Value} (hv : v = .bool true) (h : Ext w w') : Gr Φ w (.returned v) w' := ⟨true, by rw [hv], (fun h => by cases h), h⟩
theorem Gr.no {Φ : Prop} {w w' : World} {v : Value} (hv : v = .bool false) (hΦ : Φ) (h : Ext w w') : Gr Φ w (.returned v) w' := ⟨false, by rw [hv], fun _ => hΦ, h⟩
end Go.Hx
namespace Go.Proofs.Ytnlhpdlnbcdfjaa
open Go.RowKit Go.Hx
attribute [local go_sem] detUpon undIn

set_option maxRecDepth 100000 in
set_option maxHeartbeats 1000000 in
theorem ref02_Great (x : XDyad) (w : World) (hx : x.ok w w.heap.size) :
    Calls Try.prog 60 #[.agg #[.bool x.neg, .slice x.limbs.A x.limbs.l.length x.limbs.c, .int .i64 x.exp]] w (Gr (x.limbs.l.length ≤ 42) w) := by
  have HX := Lib.hid hx
  clear hx
  by_cases h1 : x.limbs.l.length ≤ 42
  · have d1 : decide ((42 : Int) < (x.limbs.l.length : Int)) = false := by simp; omega
    have H1 := Lib.hid h1
    clear h1
    by_cases h2 : x.exp ≤ 1100
    · have d2 : decide ((1100 : Int) < x.exp) = false := by simp; omega
      have H2 := Lib.hid h2
      clear h2
      go_enter Try.func60, Try.ntmps60
      go_wp2_with fail
      go_ret
      exact Gr.no rfl H1.out (by repeat (first | exact Ext.refl _ | assumption | refine Ext.alloc' ?_ _ | refine Ext.drewN' ?_ _ | refine Ext.drew' ?_ | (refine Ext.trans ?_ (by assumption))))
    · have d2 : decide ((1100 : Int) < x.exp) = true := by simp; omega
      have H2 := Lib.hid h2
      clear h2
      go_enter Try.func60, Try.ntmps60
      go_wp2_with fail
      go_ret
      exact Gr.yes rfl (by repeat (first | exact Ext.refl _ | assumption | refine Ext.alloc' ?_ _ | refine Ext.drewN' ?_ _ | refine Ext.drew' ?_ | (refine Ext.trans ?_ (by assumption))))
  · have d1 : decide ((42 : Int) < (x.limbs.l.length : Int)) = true := by simp; omega
    have H1 := Lib.hid h1
    clear h1
    go_enter Try.func60, Try.ntmps60
    go_wp2_with fail
    go_ret
    exact Gr.yes rfl (by repeat (first | exact Ext.refl _ | assumption | refine Ext.alloc' ?_ _ | refine Ext.drewN' ?_ _ | refine Ext.drew' ?_ | (refine Ext.trans ?_ (by assumption))))

set_option maxRecDepth 100000 in
set_option maxHeartbeats 1000000 in
theorem ref06_Great (x : XMass) (w : World) (hx : x.ok w w.heap.size) :
    Calls Try.prog 48 #[.agg #[.bool x.s.neg, .slice x.s.limbs.A x.s.limbs.l.length x.s.limbs.c, .int .i64 x.s.exp, .bool x.w.neg, .slice x.w.limbs.A x.w.limbs.l.length x.w.limbs.c, .int .i64 x.w.exp, .bool x.c.neg, .slice x.c.limbs.A x.c.limbs.l.length x.c.limbs.c, .int .i64 x.c.exp, .bool x.a.neg, .slice x.a.limbs.A x.a.limbs.l.length x.a.limbs.c, .int .i64 x.a.exp]] w (Gr (x.data.small) w) := by
  have HX := Lib.hid hx
  clear hx
  go_enter Try.func48, Try.ntmps48
  go_wp2_with fail
  refine (ref02_Great x.s _ (HX.out.s.ext (by repeat (first | exact Ext.refl _ | assumption | refine Ext.alloc' ?_ _ | refine Ext.drewN' ?_ _ | refine Ext.drew' ?_ | (refine Ext.trans ?_ (by assumption)))))).mono ?_
  rintro e w0 ⟨b0, rfl, hb0, hE0⟩
  have hT0 := hE0
  obtain ⟨hc0, hf0⟩ := ext_cell hT0
  have HB0 := Lib.hid hb0
  clear hb0
  cases b0 with
  | true =>
    go_wp2_with fail
    go_ret
    exact Gr.yes rfl (by repeat (first | exact Ext.refl _ | assumption | refine Ext.alloc' ?_ _ | refine Ext.drewN' ?_ _ | refine Ext.drew' ?_ | (refine Ext.trans ?_ (by assumption))))
  | false =>
    go_wp2_with fail
    refine (ref02_Great x.w _ (HX.out.w.ext (by repeat (first | exact Ext.refl _ | assumption | refine Ext.alloc' ?_ _ | refine Ext.drewN' ?_ _ | refine Ext.drew' ?_ | (refine Ext.trans ?_ (by assumption)))))).mono ?_
    rintro e w1 ⟨b1, rfl, hb1, hE1⟩
    have hT1 := hT0.trans hE1
    clear hc0 hf0
    obtain ⟨hc1, hf1⟩ := ext_cell hT1
    have HB1 := Lib.hid hb1
    clear hb1
    cases b1 with
    | true =>
      go_wp2_with fail
      go_ret
      exact Gr.yes rfl (by repeat (first | exact Ext.refl _ | assumption | refine Ext.alloc' ?_ _ | refine Ext.drewN' ?_ _ | refine Ext.drew' ?_ | (refine Ext.trans ?_ (by assumption))))
    | false =>
      go_wp2_with fail
      refine (ref02_Great x.c _ (HX.out.c.ext (by repeat (first | exact Ext.refl _ | assumption | refine Ext.alloc' ?_ _ | refine Ext.drewN' ?_ _ | refine Ext.drew' ?_ | (refine Ext.trans ?_ (by assumption)))))).mono ?_
      rintro e w2 ⟨b2, rfl, hb2, hE2⟩
      have hT2 := hT1.trans hE2
      clear hc1 hf1
      obtain ⟨hc2, hf2⟩ := ext_cell hT2
      have HB2 := Lib.hid hb2
      clear hb2
      cases b2 with
      | true =>
        go_wp2_with fail
        go_ret
        exact Gr.yes rfl (by repeat (first | exact Ext.refl _ | assumption | refine Ext.alloc' ?_ _ | refine Ext.drewN' ?_ _ | refine Ext.drew' ?_ | (refine Ext.trans ?_ (by assumption))))
      | false =>
        go_wp2_with fail
        refine (ref02_Great x.a _ (HX.out.a.ext (by repeat (first | exact Ext.refl _ | assumption | refine Ext.alloc' ?_ _ | refine Ext.drewN' ?_ _ | refine Ext.drew' ?_ | (refine Ext.trans ?_ (by assumption)))))).mono ?_
        rintro e w3 ⟨b3, rfl, hb3, hE3⟩
        have hT3 := hT2.trans hE3
        clear hc2 hf2
        obtain ⟨hc3, hf3⟩ := ext_cell hT3
        have HB3 := Lib.hid hb3
        clear hb3
        cases b3 with
        | true =>
          go_wp2_with fail
          go_ret
          exact Gr.yes rfl (by repeat (first | exact Ext.refl _ | assumption | refine Ext.alloc' ?_ _ | refine Ext.drewN' ?_ _ | refine Ext.drew' ?_ | (refine Ext.trans ?_ (by assumption))))
        | false =>
          go_wp2_with fail
          go_ret
          exact Gr.no rfl ⟨Nat.le_trans (HB0.out (by simp)) (by decide), Nat.le_trans (HB1.out (by simp)) (by decide), Nat.le_trans (HB2.out (by simp)) (by decide), Nat.le_trans (HB3.out (by simp)) (by decide)⟩ (by repeat (first | exact Ext.refl _ | assumption | refine Ext.alloc' ?_ _ | refine Ext.drewN' ?_ _ | refine Ext.drew' ?_ | (refine Ext.trans ?_ (by assumption))))

set_option maxRecDepth 100000 in
set_option maxHeartbeats 1000000 in
theorem ref20_GreatPart (x : XPart) (w : World) (hx : x.ok w w.heap.size) :
    Calls Try.prog 29 #[.agg #[.bool x.held.s.neg, .slice x.held.s.limbs.A x.held.s.limbs.l.length x.held.s.limbs.c, .int .i64 x.held.s.exp, .bool x.held.w.neg, .slice x.held.w.limbs.A x.held.w.limbs.l.length x.held.w.limbs.c, .int .i64 x.held.w.exp, .bool x.held.c.neg, .slice x.held.c.limbs.A x.held.c.limbs.l.length x.held.c.limbs.c, .int .i64 x.held.c.exp, .bool x.held.a.neg, .slice x.held.a.limbs.A x.held.a.limbs.l.length x.held.a.limbs.c, .int .i64 x.held.a.exp, .bool x.edge.has, .int .i64 x.edge.min, .int .i64 x.edge.max, .slice x.least.A x.least.l.length x.least.c]] w (Gr (x.data.small) w) := by
  have HX := Lib.hid hx
  clear hx
  go_enter Try.func29, Try.ntmps29
  go_wp2_with fail
  refine (ref06_Great x.held _ (HX.out.held.ext (by repeat (first | exact Ext.refl _ | assumption | refine Ext.alloc' ?_ _ | refine Ext.drewN' ?_ _ | refine Ext.drew' ?_ | (refine Ext.trans ?_ (by assumption)))))).mono ?_
  rintro e w0 ⟨b0, rfl, hb0, hE0⟩
  have hT0 := hE0
  obtain ⟨hc0, hf0⟩ := ext_cell hT0
  have HB0 := Lib.hid hb0
  clear hb0
  cases b0 with
  | true =>
    go_wp2_with fail
    go_ret
    exact Gr.yes rfl (by repeat (first | exact Ext.refl _ | assumption | refine Ext.alloc' ?_ _ | refine Ext.drewN' ?_ _ | refine Ext.drew' ?_ | (refine Ext.trans ?_ (by assumption))))
  | false =>
    by_cases h1 : x.least.l.length ≤ 70
    · have d1 : decide ((70 : Int) < (x.least.l.length : Int)) = false := by simp; omega
      have H1 := Lib.hid h1
      clear h1
      go_wp2_with fail
      go_ret
      exact Gr.no rfl ⟨HB0.out (by simp), Nat.le_trans H1.out (by decide)⟩ (by repeat (first | exact Ext.refl _ | assumption | refine Ext.alloc' ?_ _ | refine Ext.drewN' ?_ _ | refine Ext.drew' ?_ | (refine Ext.trans ?_ (by assumption))))
    · have d1 : decide ((70 : Int) < (x.least.l.length : Int)) = true := by simp; omega
      have H1 := Lib.hid h1
      clear h1
      go_wp2_with fail
      go_ret
      exact Gr.yes rfl (by repeat (first | exact Ext.refl _ | assumption | refine Ext.alloc' ?_ _ | refine Ext.drewN' ?_ _ | refine Ext.drew' ?_ | (refine Ext.trans ?_ (by assumption))))

set_option maxRecDepth 100000 in
set_option maxHeartbeats 4000000 in
theorem ref20_Great (x : LX XFrozen) (w : World) (hx : x.ok w w.heap.size XFrozen.cells) (hxs : ∀ z ∈ x.l, XFrozen.ok w w.heap.size z) :
    Calls Try.prog 30 #[.slice x.A x.l.length x.c] w (Gr (x.l.length ≤ 1028 ∧ ∀ z ∈ x.l, (XFrozen.data z).small) w) := by
  obtain ⟨l, A, c⟩ := x
  dsimp only at *
  have HX := Lib.hid hx.1
  have HXS := Lib.hid hxs
  clear hx hxs
  by_cases h40 : l.length ≤ 40
  · have d1 : decide ((40 : Int) < (l.length : Int)) = false := by simp; omega
    have d2 : decide ((1028 : Int) < (l.length : Int)) = false := by simp; omega
    have H40 := Lib.hid h40
    have hb : (l.length : Int) ≤ 40 := by omega
    clear h40
    go_enter Try.func30, Try.ntmps30
    go_wp2_with fail
    go_loopw [3] (fun i wr => ∃ k : Nat, k ≤ l.length ∧ i = .int .i64 k ∧ Hid (∀ z ∈ l.take k, (XFrozen.data z).small) ∧ Ext w wr) (fun i _ => l.length - (intOf i).toNat)
    case atStart => exact ⟨0, Nat.zero_le _, rfl, Lib.hid (fun z hz => by simp at hz), Ext.refl _⟩
    case round =>
      obtain ⟨k, hk, rfl, HT, hE⟩ := hrel
      by_cases hlt : k < l.length
      · obtain ⟨a, ha⟩ : ∃ a, l[k]? = some a := ⟨_, List.getElem?_eq_getElem hlt⟩
        have HM := Lib.hid (List.mem_of_getElem? ha)
        obtain ⟨g, o, rfl, hg, r1⟩ := Sl.row (size := 17) (fun _ => rfl) HX.out ha
        have HA := Lib.hid ha
        have HE := Lib.hid hE
        have gR : Hid (∀ W, Ext w W → RowAt W g (o + k * 17 + 1) a.part.cells) := Lib.hid fun W hW j u hu => by rw [Nat.add_assoc _ 1 j, Nat.add_comm 1 j]; exact hW.cell (r1 (j + 1) u hu)
        have G0 : Hid (∀ W, Ext w W → W.cell? ⟨g, o + k * 17 + 2, none⟩ = some (.slice a.part.held.s.limbs.A a.part.held.s.limbs.l.length a.part.held.s.limbs.c)) := Lib.hid fun W hW => hW.cell (r1 2 _ rfl)
        have G1 : Hid (∀ W, Ext w W → W.cell? ⟨g, o + k * 17 + 5, none⟩ = some (.slice a.part.held.w.limbs.A a.part.held.w.limbs.l.length a.part.held.w.limbs.c)) := Lib.hid fun W hW => hW.cell (r1 5 _ rfl)
        have G2 : Hid (∀ W, Ext w W → W.cell? ⟨g, o + k * 17 + 8, none⟩ = some (.slice a.part.held.c.limbs.A a.part.held.c.limbs.l.length a.part.held.c.limbs.c)) := Lib.hid fun W hW => hW.cell (r1 8 _ rfl)
        have G3 : Hid (∀ W, Ext w W → W.cell? ⟨g, o + k * 17 + 11, none⟩ = some (.slice a.part.held.a.limbs.A a.part.held.a.limbs.l.length a.part.held.a.limbs.c)) := Lib.hid fun W hW => hW.cell (r1 11 _ rfl)
        have G4 : Hid (∀ W, Ext w W → W.cell? ⟨g, o + k * 17 + 16, none⟩ = some (.slice a.part.least.A a.part.least.l.length a.part.least.c)) := Lib.hid fun W hW => hW.cell (r1 16 _ rfl)
        have hli : (k : Int) < (l.length : Int) := by omega
        clear ha r1 hg hE
        go_wp2_with fail
        refine wp_region_chain (Ext w) (fun _ => True) (fun i => if i = 5 then 1 else 0) (by kernel_rfl) (by kernel_rfl) HE.out.drew' trivial ?_
        iterate 5 (first | (refine ctext_skip rfl rfl rfl rfl rfl (fun K hK => ?_); go_simp; refine hK _ ?_; clear hK K) | (refine ctext_skip' rfl (fun K hK => ?_); go_simp; refine hK _ ?_; clear hK K) | (refine ctext_load_row 32 _ rfl rfl rfl _ _ a.part.cells rfl aggPart gR.out (fun K hK => ?_); go_simp; refine hK _ ?_; clear hK K) | (refine ctext_det rfl rfl ?_; apply Exists.intro; refine ⟨fun w hC => ?_, fun K hK => ?_⟩; (first | (go_simp; exact rfl) | (go_simp; rw [G0.out _ hC]; exact ⟨rfl, rfl⟩) | (go_simp; rw [G1.out _ hC]; exact ⟨rfl, rfl⟩) | (go_simp; rw [G2.out _ hC]; exact ⟨rfl, rfl⟩) | (go_simp; rw [G3.out _ hC]; exact ⟨rfl, rfl⟩) | (go_simp; rw [G4.out _ hC]; exact ⟨rfl, rfl⟩)); go_simp; refine hK _ ?_; clear hK K))
        refine ctext_chain (fun v => v = .bool true ∨ v = .bool false) (fun v _ => v = .bool false → a.part.data.small) rfl rfl ⟨_, .inl rfl⟩ (fun w1 hC _ Φ hΦ => ?_) (fun v hv K hK => ?_)
        · go_simp
          refine (ref20_GreatPart a.part _ ((HXS.out a HM.out).part.ext hC)).mono ?_
          rintro e w2 ⟨b, rfl, hb, hE2⟩
          exact ⟨_, rfl, hΦ _ _ (by cases b <;> simp) (hC.trans hE2) (fun h => hb (by cases h; rfl))⟩
        go_simp; refine hK _ ?_; clear hK K
        rcases hv with rfl | rfl
        · iterate 55 (first | (refine ctext_skip rfl rfl rfl rfl rfl (fun K hK => ?_); go_simp; refine hK _ ?_; clear hK K) | (refine ctext_skip' rfl (fun K hK => ?_); go_simp; refine hK _ ?_; clear hK K) | (refine ctext_load_row 32 _ rfl rfl rfl _ _ a.part.cells rfl aggPart gR.out (fun K hK => ?_); go_simp; refine hK _ ?_; clear hK K) | (refine ctext_det rfl rfl ?_; apply Exists.intro; refine ⟨fun w hC => ?_, fun K hK => ?_⟩; (first | (go_simp; exact rfl) | (go_simp; rw [G0.out _ hC]; exact ⟨rfl, rfl⟩) | (go_simp; rw [G1.out _ hC]; exact ⟨rfl, rfl⟩) | (go_simp; rw [G2.out _ hC]; exact ⟨rfl, rfl⟩) | (go_simp; rw [G3.out _ hC]; exact ⟨rfl, rfl⟩) | (go_simp; rw [G4.out _ hC]; exact ⟨rfl, rfl⟩)); go_simp; refine hK _ ?_; clear hK K))
          refine ctext_nil ?_
          intro wz hCz _
          go_wp2_with fail
          go_ret
          exact Gr.yes rfl hCz
        · iterate 55 (first | (refine ctext_skip rfl rfl rfl rfl rfl (fun K hK => ?_); go_simp; refine hK _ ?_; clear hK K) | (refine ctext_skip' rfl (fun K hK => ?_); go_simp; refine hK _ ?_; clear hK K) | (refine ctext_load_row 32 _ rfl rfl rfl _ _ a.part.cells rfl aggPart gR.out (fun K hK => ?_); go_simp; refine hK _ ?_; clear hK K) | (refine ctext_det rfl rfl ?_; apply Exists.intro; refine ⟨fun w hC => ?_, fun K hK => ?_⟩; (first | (go_simp; exact rfl) | (go_simp; rw [G0.out _ hC]; exact ⟨rfl, rfl⟩) | (go_simp; rw [G1.out _ hC]; exact ⟨rfl, rfl⟩) | (go_simp; rw [G2.out _ hC]; exact ⟨rfl, rfl⟩) | (go_simp; rw [G3.out _ hC]; exact ⟨rfl, rfl⟩) | (go_simp; rw [G4.out _ hC]; exact ⟨rfl, rfl⟩)); go_simp; refine hK _ ?_; clear hK K))
          refine ctext_nil ?_
          intro wz hCz hJ
          have HN : Hid (∀ z ∈ l.take (k + 1), (XFrozen.data z).small) := Lib.hid fun z hz => by
            rw [take_snoc HA.out] at hz
            rcases List.mem_append.1 hz with hz | hz
            · exact HT.out z hz
            · simp only [List.mem_singleton] at hz; subst hz; exact hJ rfl
          clear hJ
          go_wp2_with fail
          · go_roundw
            case rel => exact ⟨k + 1, by omega, by go_num, HN, hCz⟩
            case measure => simp [intOf]; omega
      · have hk' : k = l.length := by omega
        go_wp2_with fail
        go_ret
        exact Gr.no rfl ⟨Nat.le_trans H40.out (by decide), fun z hz => HT.out z (by rw [hk', List.take_length]; exact hz)⟩ hE
  · have d1 : decide ((40 : Int) < (l.length : Int)) = true := by simp; omega
    by_cases h24 : l.length < 1024
    · have d2 : decide ((l.length : Int) < (1024 : Int)) = true := by simp; omega
      clear h40 h24
      go_enter Try.func30, Try.ntmps30
      go_wp2_with fail
      go_ret
      exact Gr.yes rfl (Ext.refl _)
    · have d2 : decide ((l.length : Int) < (1024 : Int)) = false := by simp; omega
      by_cases h28 : l.length ≤ 1028
      · have d3 : decide ((1028 : Int) < (l.length : Int)) = false := by simp; omega
        have H40 := Lib.hid h28
        have hb : (l.length : Int) ≤ 1028 := by omega
        clear h40 h24 h28
        go_enter Try.func30, Try.ntmps30
        go_wp2_with fail
        go_loopw [3] (fun i wr => ∃ k : Nat, k ≤ l.length ∧ i = .int .i64 k ∧ Hid (∀ z ∈ l.take k, (XFrozen.data z).small) ∧ Ext w wr) (fun i _ => l.length - (intOf i).toNat)
        case atStart => exact ⟨0, Nat.zero_le _, rfl, Lib.hid (fun z hz => by simp at hz), Ext.refl _⟩
        case round =>
          obtain ⟨k, hk, rfl, HT, hE⟩ := hrel
          by_cases hlt : k < l.length
          · obtain ⟨a, ha⟩ : ∃ a, l[k]? = some a := ⟨_, List.getElem?_eq_getElem hlt⟩
            have HM := Lib.hid (List.mem_of_getElem? ha)
            obtain ⟨g, o, rfl, hg, r1⟩ := Sl.row (size := 17) (fun _ => rfl) HX.out ha
            have HA := Lib.hid ha
            have HE := Lib.hid hE
            have gR : Hid (∀ W, Ext w W → RowAt W g (o + k * 17 + 1) a.part.cells) := Lib.hid fun W hW j u hu => by rw [Nat.add_assoc _ 1 j, Nat.add_comm 1 j]; exact hW.cell (r1 (j + 1) u hu)
            have G0 : Hid (∀ W, Ext w W → W.cell? ⟨g, o + k * 17 + 2, none⟩ = some (.slice a.part.held.s.limbs.A a.part.held.s.limbs.l.length a.part.held.s.limbs.c)) := Lib.hid fun W hW => hW.cell (r1 2 _ rfl)
            have G1 : Hid (∀ W, Ext w W → W.cell? ⟨g, o + k * 17 + 5, none⟩ = some (.slice a.part.held.w.limbs.A a.part.held.w.limbs.l.length a.part.held.w.limbs.c)) := Lib.hid fun W hW => hW.cell (r1 5 _ rfl)
            have G2 : Hid (∀ W, Ext w W → W.cell? ⟨g, o + k * 17 + 8, none⟩ = some (.slice a.part.held.c.limbs.A a.part.held.c.limbs.l.length a.part.held.c.limbs.c)) := Lib.hid fun W hW => hW.cell (r1 8 _ rfl)
            have G3 : Hid (∀ W, Ext w W → W.cell? ⟨g, o + k * 17 + 11, none⟩ = some (.slice a.part.held.a.limbs.A a.part.held.a.limbs.l.length a.part.held.a.limbs.c)) := Lib.hid fun W hW => hW.cell (r1 11 _ rfl)
            have G4 : Hid (∀ W, Ext w W → W.cell? ⟨g, o + k * 17 + 16, none⟩ = some (.slice a.part.least.A a.part.least.l.length a.part.least.c)) := Lib.hid fun W hW => hW.cell (r1 16 _ rfl)
            have hli : (k : Int) < (l.length : Int) := by omega
            clear ha r1 hg hE
            go_wp2_with fail
            refine wp_region_chain (Ext w) (fun _ => True) (fun i => if i = 5 then 1 else 0) (by kernel_rfl) (by kernel_rfl) HE.out.drew' trivial ?_
            iterate 5 (first | (refine ctext_skip rfl rfl rfl rfl rfl (fun K hK => ?_); go_simp; refine hK _ ?_; clear hK K) | (refine ctext_skip' rfl (fun K hK => ?_); go_simp; refine hK _ ?_; clear hK K) | (refine ctext_load_row 32 _ rfl rfl rfl _ _ a.part.cells rfl aggPart gR.out (fun K hK => ?_); go_simp; refine hK _ ?_; clear hK K) | (refine ctext_det rfl rfl ?_; apply Exists.intro; refine ⟨fun w hC => ?_, fun K hK => ?_⟩; (first | (go_simp; exact rfl) | (go_simp; rw [G0.out _ hC]; exact ⟨rfl, rfl⟩) | (go_simp; rw [G1.out _ hC]; exact ⟨rfl, rfl⟩) | (go_simp; rw [G2.out _ hC]; exact ⟨rfl, rfl⟩) | (go_simp; rw [G3.out _ hC]; exact ⟨rfl, rfl⟩) | (go_simp; rw [G4.out _ hC]; exact ⟨rfl, rfl⟩)); go_simp; refine hK _ ?_; clear hK K))
            refine ctext_chain (fun v => v = .bool true ∨ v = .bool false) (fun v _ => v = .bool false → a.part.data.small) rfl rfl ⟨_, .inl rfl⟩ (fun w1 hC _ Φ hΦ => ?_) (fun v hv K hK => ?_)
            · go_simp
              refine (ref20_GreatPart a.part _ ((HXS.out a HM.out).part.ext hC)).mono ?_
              rintro e w2 ⟨b, rfl, hb, hE2⟩
              exact ⟨_, rfl, hΦ _ _ (by cases b <;> simp) (hC.trans hE2) (fun h => hb (by cases h; rfl))⟩
            go_simp; refine hK _ ?_; clear hK K
            rcases hv with rfl | rfl
            · iterate 55 (first | (refine ctext_skip rfl rfl rfl rfl rfl (fun K hK => ?_); go_simp; refine hK _ ?_; clear hK K) | (refine ctext_skip' rfl (fun K hK => ?_); go_simp; refine hK _ ?_; clear hK K) | (refine ctext_load_row 32 _ rfl rfl rfl _ _ a.part.cells rfl aggPart gR.out (fun K hK => ?_); go_simp; refine hK _ ?_; clear hK K) | (refine ctext_det rfl rfl ?_; apply Exists.intro; refine ⟨fun w hC => ?_, fun K hK => ?_⟩; (first | (go_simp; exact rfl) | (go_simp; rw [G0.out _ hC]; exact ⟨rfl, rfl⟩) | (go_simp; rw [G1.out _ hC]; exact ⟨rfl, rfl⟩) | (go_simp; rw [G2.out _ hC]; exact ⟨rfl, rfl⟩) | (go_simp; rw [G3.out _ hC]; exact ⟨rfl, rfl⟩) | (go_simp; rw [G4.out _ hC]; exact ⟨rfl, rfl⟩)); go_simp; refine hK _ ?_; clear hK K))
              refine ctext_nil ?_
              intro wz hCz _
              go_wp2_with fail
              go_ret
              exact Gr.yes rfl hCz
            · iterate 55 (first | (refine ctext_skip rfl rfl rfl rfl rfl (fun K hK => ?_); go_simp; refine hK _ ?_; clear hK K) | (refine ctext_skip' rfl (fun K hK => ?_); go_simp; refine hK _ ?_; clear hK K) | (refine ctext_load_row 32 _ rfl rfl rfl _ _ a.part.cells rfl aggPart gR.out (fun K hK => ?_); go_simp; refine hK _ ?_; clear hK K) | (refine ctext_det rfl rfl ?_; apply Exists.intro; refine ⟨fun w hC => ?_, fun K hK => ?_⟩; (first | (go_simp; exact rfl) | (go_simp; rw [G0.out _ hC]; exact ⟨rfl, rfl⟩) | (go_simp; rw [G1.out _ hC]; exact ⟨rfl, rfl⟩) | (go_simp; rw [G2.out _ hC]; exact ⟨rfl, rfl⟩) | (go_simp; rw [G3.out _ hC]; exact ⟨rfl, rfl⟩) | (go_simp; rw [G4.out _ hC]; exact ⟨rfl, rfl⟩)); go_simp; refine hK _ ?_; clear hK K))
              refine ctext_nil ?_
              intro wz hCz hJ
              have HN : Hid (∀ z ∈ l.take (k + 1), (XFrozen.data z).small) := Lib.hid fun z hz => by
                rw [take_snoc HA.out] at hz
                rcases List.mem_append.1 hz with hz | hz
                · exact HT.out z hz
                · simp only [List.mem_singleton] at hz; subst hz; exact hJ rfl
              clear hJ
              go_wp2_with fail
              · go_ret
                exact Gr.yes rfl hCz
              · go_roundw
                case rel => exact ⟨k + 1, by omega, by go_num, HN, hCz⟩
                case measure => simp [intOf]; omega
          · have hk' : k = l.length := by omega
            go_wp2_with fail
            go_ret
            exact Gr.no rfl ⟨Nat.le_trans H40.out (by decide), fun z hz => HT.out z (by rw [hk', List.take_length]; exact hz)⟩ hE
      · have d3 : decide ((1028 : Int) < (l.length : Int)) = true := by simp; omega
        clear h40 h24 h28
        go_enter Try.func30, Try.ntmps30
        go_wp2_with fail
        go_ret
        exact Gr.yes rfl (Ext.refl _)

set_option maxRecDepth 100000 in
set_option maxHeartbeats 1000000 in
theorem ref22_Great (x : XNode) (w : World) (hx : x.ok w w.heap.size) :
    Calls Try.prog 14 #[.agg #[.int .i64 x.id, .int .i64 x.value, .bool x.up, .int .i64 x.clock.len, .int .i64 x.clock.tick, .int .i64 x.clock.since, .int .i64 x.clock.epoch, .int .i64 x.clock.from_, .bool x.part.held.s.neg, .slice x.part.held.s.limbs.A x.part.held.s.limbs.l.length x.part.held.s.limbs.c, .int .i64 x.part.held.s.exp, .bool x.part.held.w.neg, .slice x.part.held.w.limbs.A x.part.held.w.limbs.l.length x.part.held.w.limbs.c, .int .i64 x.part.held.w.exp, .bool x.part.held.c.neg, .slice x.part.held.c.limbs.A x.part.held.c.limbs.l.length x.part.held.c.limbs.c, .int .i64 x.part.held.c.exp, .bool x.part.held.a.neg, .slice x.part.held.a.limbs.A x.part.held.a.limbs.l.length x.part.held.a.limbs.c, .int .i64 x.part.held.a.exp, .bool x.part.edge.has, .int .i64 x.part.edge.min, .int .i64 x.part.edge.max, .slice x.part.least.A x.part.least.l.length x.part.least.c, .bool x.wait.out, .int .i64 x.wait.number, .int .i64 x.wait.to, .slice x.heard.A x.heard.l.length x.heard.c, .int .i64 x.cache.own, .int .i64 x.cache.cap, .slice x.cache.list.A x.cache.list.l.length x.cache.list.c, .slice x.past.A x.past.l.length x.past.c, .slice x.timers.A x.timers.l.length x.timers.c]] w (Gr (x.data.small) w) := by
  have HX := Lib.hid hx
  clear hx
  go_enter Try.func14, Try.ntmps14
  go_wp2_with fail
  refine (ref20_GreatPart x.part _ (HX.out.part.ext (by repeat (first | exact Ext.refl _ | assumption | refine Ext.alloc' ?_ _ | refine Ext.drewN' ?_ _ | refine Ext.drew' ?_ | (refine Ext.trans ?_ (by assumption)))))).mono ?_
  rintro e w0 ⟨b0, rfl, hb0, hE0⟩
  have hT0 := hE0
  obtain ⟨hc0, hf0⟩ := ext_cell hT0
  have HB0 := Lib.hid hb0
  clear hb0
  cases b0 with
  | true =>
    go_wp2_with fail
    go_ret
    exact Gr.yes rfl (by repeat (first | exact Ext.refl _ | assumption | refine Ext.alloc' ?_ _ | refine Ext.drewN' ?_ _ | refine Ext.drew' ?_ | (refine Ext.trans ?_ (by assumption))))
  | false =>
    by_cases h2 : x.heard.l.length ≤ 100
    · have d2 : decide ((100 : Int) < (x.heard.l.length : Int)) = false := by simp; omega
      have H2 := Lib.hid h2
      clear h2
      by_cases h3 : x.cache.list.l.length ≤ 70
      · have d3 : decide ((70 : Int) < (x.cache.list.l.length : Int)) = false := by simp; omega
        have H3 := Lib.hid h3
        clear h3
        go_wp2_with fail
        refine (ref20_Great x.past _ (HX.out.past.ext (by repeat (first | exact Ext.refl _ | assumption | refine Ext.alloc' ?_ _ | refine Ext.drewN' ?_ _ | refine Ext.drew' ?_ | (refine Ext.trans ?_ (by assumption))))) (fun z hz => (HX.out.past_ z hz).ext (by repeat (first | exact Ext.refl _ | assumption | refine Ext.alloc' ?_ _ | refine Ext.drewN' ?_ _ | refine Ext.drew' ?_ | (refine Ext.trans ?_ (by assumption)))))).mono ?_
        rintro e w1 ⟨b1, rfl, hb1, hE1⟩
        have hT1 := hT0.trans hE1
        clear hc0 hf0
        obtain ⟨hc1, hf1⟩ := ext_cell hT1
        have HB1 := Lib.hid hb1
        clear hb1
        cases b1 with
        | true =>
          go_wp2_with fail
          go_ret
          exact Gr.yes rfl (by repeat (first | exact Ext.refl _ | assumption | refine Ext.alloc' ?_ _ | refine Ext.drewN' ?_ _ | refine Ext.drew' ?_ | (refine Ext.trans ?_ (by assumption))))
        | false =>
          by_cases h4 : x.timers.l.length ≤ 100
          · have d4 : decide ((100 : Int) < (x.timers.l.length : Int)) = false := by simp; omega
            have H4 := Lib.hid h4
            clear h4
            go_wp2_with fail
            go_ret
            exact Gr.no rfl ⟨HB0.out (by simp), Nat.le_trans H2.out (by decide), Nat.le_trans H3.out (by decide), by have := (HB1.out (by simp)).1; simp only [XNode.data, List.length_map]; omega, fun n hn => by obtain ⟨z, hz, rfl⟩ := List.mem_map.1 hn; exact (HB1.out (by simp)).2 z hz, Nat.le_trans H4.out (by decide)⟩ (by repeat (first | exact Ext.refl _ | assumption | refine Ext.alloc' ?_ _ | refine Ext.drewN' ?_ _ | refine Ext.drew' ?_ | (refine Ext.trans ?_ (by assumption))))
          · have d4 : decide ((100 : Int) < (x.timers.l.length : Int)) = true := by simp; omega
            have H4 := Lib.hid h4
            clear h4
            go_wp2_with fail
            go_ret
            exact Gr.yes rfl (by repeat (first | exact Ext.refl _ | assumption | refine Ext.alloc' ?_ _ | refine Ext.drewN' ?_ _ | refine Ext.drew' ?_ | (refine Ext.trans ?_ (by assumption))))
      · have d3 : decide ((70 : Int) < (x.cache.list.l.length : Int)) = true := by simp; omega
        have H3 := Lib.hid h3
        clear h3
        go_wp2_with fail
        go_ret
        exact Gr.yes rfl (by repeat (first | exact Ext.refl _ | assumption | refine Ext.alloc' ?_ _ | refine Ext.drewN' ?_ _ | refine Ext.drew' ?_ | (refine Ext.trans ?_ (by assumption))))
    · have d2 : decide ((100 : Int) < (x.heard.l.length : Int)) = true := by simp; omega
      have H2 := Lib.hid h2
      clear h2
      go_wp2_with fail
      go_ret
      exact Gr.yes rfl (by repeat (first | exact Ext.refl _ | assumption | refine Ext.alloc' ?_ _ | refine Ext.drewN' ?_ _ | refine Ext.drew' ?_ | (refine Ext.trans ?_ (by assumption))))
end Go.Proofs.Ytnlhpdlnbcdfjaa
