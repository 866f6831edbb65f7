/- Masses: the same, copies, too great: parts of the texts of seat Try, cut out by gen_smallm.py. -/
import Derived.Test.YtgcbnagfdfgpnaaDoorTellsAll26
namespace Go.Proofs.YtgcbnagfdfgpnaaDoor
open Go.RowKit Go.Hx
theorem ref06_Same_iff (x y : XMass) : x.data = y.data ↔ x.s.data = y.s.data ∧ x.w.data = y.w.data ∧ x.c.data = y.c.data ∧ x.a.data = y.a.data := by
  constructor
  · intro h
    simp only [XMass.data, PMass.mk.injEq] at h
    obtain ⟨h0, h1, h2, h3⟩ := h
    exact ⟨h0, h1, h2, h3⟩
  · rintro ⟨h0, h1, h2, h3⟩
    simp only [XMass.data, PMass.mk.injEq]
    exact ⟨h0, h1, h2, h3⟩
set_option maxRecDepth 100000 in
set_option maxHeartbeats 1000000 in
theorem ref06_Same (x y : XMass) (w : World) (hx : x.ok w w.heap.size) (hy : y.ok w w.heap.size) :
    Calls Tryd.prog 56 #[.agg #[.bool x.s.neg, .slice x.s.limbs.A x.s.limbs.l.length x.s.limbs.c, .int .i64 x.s.exp, .bool x.w.neg, .slice x.w.limbs.A x.w.limbs.l.length x.w.limbs.c, .int .i64 x.w.exp, .bool x.c.neg, .slice x.c.limbs.A x.c.limbs.l.length x.c.limbs.c, .int .i64 x.c.exp, .bool x.a.neg, .slice x.a.limbs.A x.a.limbs.l.length x.a.limbs.c, .int .i64 x.a.exp], .agg #[.bool y.s.neg, .slice y.s.limbs.A y.s.limbs.l.length y.s.limbs.c, .int .i64 y.s.exp, .bool y.w.neg, .slice y.w.limbs.A y.w.limbs.l.length y.w.limbs.c, .int .i64 y.w.exp, .bool y.c.neg, .slice y.c.limbs.A y.c.limbs.l.length y.c.limbs.c, .int .i64 y.c.exp, .bool y.a.neg, .slice y.a.limbs.A y.a.limbs.l.length y.a.limbs.c, .int .i64 y.a.exp]] w fun e w' => e = .returned (.bool (decide (x.data = y.data))) ∧ Ext w w' := by
  have HI := Lib.hid (ref06_Same_iff x y)
  by_cases q0 : x.s.data = y.s.data
  · have e0 : decide (x.s.data = y.s.data) = true := decide_eq_true q0
    have HQ0 := Lib.hid q0
    clear q0
    by_cases q1 : x.w.data = y.w.data
    · have e1 : decide (x.w.data = y.w.data) = true := decide_eq_true q1
      have HQ1 := Lib.hid q1
      clear q1
      by_cases q2 : x.c.data = y.c.data
      · have e2 : decide (x.c.data = y.c.data) = true := decide_eq_true q2
        have HQ2 := Lib.hid q2
        clear q2
        go_enter Tryd.func56, Tryd.ntmps56
        go_wp2_with fail
        refine (ref02_Same x.s y.s _ (hx.s.ext (by repeat (first | exact Ext.refl _ | assumption | refine Ext.alloc' ?_ _ | refine Ext.drewN' ?_ _ | refine Ext.drew' ?_ | (refine Ext.trans ?_ (by assumption))))) (hy.s.ext (by repeat (first | exact Ext.refl _ | assumption | refine Ext.alloc' ?_ _ | refine Ext.drewN' ?_ _ | refine Ext.drew' ?_ | (refine Ext.trans ?_ (by assumption)))))).mono ?_
        rintro e w0 ⟨rfl, hE0⟩
        have hT0 := hE0
        obtain ⟨hc0, hf0⟩ := ext_cell hT0
        go_wp2_with fail
        refine (ref02_Same x.w y.w _ (hx.w.ext (by repeat (first | exact Ext.refl _ | assumption | refine Ext.alloc' ?_ _ | refine Ext.drewN' ?_ _ | refine Ext.drew' ?_ | (refine Ext.trans ?_ (by assumption))))) (hy.w.ext (by repeat (first | exact Ext.refl _ | assumption | refine Ext.alloc' ?_ _ | refine Ext.drewN' ?_ _ | refine Ext.drew' ?_ | (refine Ext.trans ?_ (by assumption)))))).mono ?_
        rintro e w1 ⟨rfl, hE1⟩
        have hT1 := (hT0).trans hE1
        clear hc0 hf0
        obtain ⟨hc1, hf1⟩ := ext_cell hT1
        go_wp2_with fail
        refine (ref02_Same x.c y.c _ (hx.c.ext (by repeat (first | exact Ext.refl _ | assumption | refine Ext.alloc' ?_ _ | refine Ext.drewN' ?_ _ | refine Ext.drew' ?_ | (refine Ext.trans ?_ (by assumption))))) (hy.c.ext (by repeat (first | exact Ext.refl _ | assumption | refine Ext.alloc' ?_ _ | refine Ext.drewN' ?_ _ | refine Ext.drew' ?_ | (refine Ext.trans ?_ (by assumption)))))).mono ?_
        rintro e w2 ⟨rfl, hE2⟩
        have hT2 := (hT1).trans hE2
        clear hc1 hf1
        obtain ⟨hc2, hf2⟩ := ext_cell hT2
        go_wp2_with fail
        refine (ref02_Same x.a y.a _ (hx.a.ext (by repeat (first | exact Ext.refl _ | assumption | refine Ext.alloc' ?_ _ | refine Ext.drewN' ?_ _ | refine Ext.drew' ?_ | (refine Ext.trans ?_ (by assumption))))) (hy.a.ext (by repeat (first | exact Ext.refl _ | assumption | refine Ext.alloc' ?_ _ | refine Ext.drewN' ?_ _ | refine Ext.drew' ?_ | (refine Ext.trans ?_ (by assumption)))))).mono ?_
        rintro e w3 ⟨rfl, hE3⟩
        go_wp2_with fail
        go_ret
        exact ⟨ret_bool (decide_eq_decide.2 ⟨fun h => HI.out.2 ⟨HQ0.out, HQ1.out, HQ2.out, h⟩, fun h => (HI.out.1 h).2.2.2⟩), (by repeat (first | exact Ext.refl _ | assumption | refine Ext.alloc' ?_ _ | refine Ext.drewN' ?_ _ | refine Ext.drew' ?_ | (refine Ext.trans ?_ (by assumption))))⟩
      · have e2 : decide (x.c.data = y.c.data) = false := decide_eq_false q2
        have HQ2 := Lib.hid q2
        clear q2
        go_enter Tryd.func56, Tryd.ntmps56
        go_wp2_with fail
        refine (ref02_Same x.s y.s _ (hx.s.ext (by repeat (first | exact Ext.refl _ | assumption | refine Ext.alloc' ?_ _ | refine Ext.drewN' ?_ _ | refine Ext.drew' ?_ | (refine Ext.trans ?_ (by assumption))))) (hy.s.ext (by repeat (first | exact Ext.refl _ | assumption | refine Ext.alloc' ?_ _ | refine Ext.drewN' ?_ _ | refine Ext.drew' ?_ | (refine Ext.trans ?_ (by assumption)))))).mono ?_
        rintro e w0 ⟨rfl, hE0⟩
        have hT0 := hE0
        obtain ⟨hc0, hf0⟩ := ext_cell hT0
        go_wp2_with fail
        refine (ref02_Same x.w y.w _ (hx.w.ext (by repeat (first | exact Ext.refl _ | assumption | refine Ext.alloc' ?_ _ | refine Ext.drewN' ?_ _ | refine Ext.drew' ?_ | (refine Ext.trans ?_ (by assumption))))) (hy.w.ext (by repeat (first | exact Ext.refl _ | assumption | refine Ext.alloc' ?_ _ | refine Ext.drewN' ?_ _ | refine Ext.drew' ?_ | (refine Ext.trans ?_ (by assumption)))))).mono ?_
        rintro e w1 ⟨rfl, hE1⟩
        have hT1 := (hT0).trans hE1
        clear hc0 hf0
        obtain ⟨hc1, hf1⟩ := ext_cell hT1
        go_wp2_with fail
        refine (ref02_Same x.c y.c _ (hx.c.ext (by repeat (first | exact Ext.refl _ | assumption | refine Ext.alloc' ?_ _ | refine Ext.drewN' ?_ _ | refine Ext.drew' ?_ | (refine Ext.trans ?_ (by assumption))))) (hy.c.ext (by repeat (first | exact Ext.refl _ | assumption | refine Ext.alloc' ?_ _ | refine Ext.drewN' ?_ _ | refine Ext.drew' ?_ | (refine Ext.trans ?_ (by assumption)))))).mono ?_
        rintro e w2 ⟨rfl, hE2⟩
        go_wp2_with fail
        go_ret
        exact ⟨ret_bool (decide_eq_false (fun h => HQ2.out (HI.out.1 h).2.2.1)).symm, (by repeat (first | exact Ext.refl _ | assumption | refine Ext.alloc' ?_ _ | refine Ext.drewN' ?_ _ | refine Ext.drew' ?_ | (refine Ext.trans ?_ (by assumption))))⟩
    · have e1 : decide (x.w.data = y.w.data) = false := decide_eq_false q1
      have HQ1 := Lib.hid q1
      clear q1
      go_enter Tryd.func56, Tryd.ntmps56
      go_wp2_with fail
      refine (ref02_Same x.s y.s _ (hx.s.ext (by repeat (first | exact Ext.refl _ | assumption | refine Ext.alloc' ?_ _ | refine Ext.drewN' ?_ _ | refine Ext.drew' ?_ | (refine Ext.trans ?_ (by assumption))))) (hy.s.ext (by repeat (first | exact Ext.refl _ | assumption | refine Ext.alloc' ?_ _ | refine Ext.drewN' ?_ _ | refine Ext.drew' ?_ | (refine Ext.trans ?_ (by assumption)))))).mono ?_
      rintro e w0 ⟨rfl, hE0⟩
      have hT0 := hE0
      obtain ⟨hc0, hf0⟩ := ext_cell hT0
      go_wp2_with fail
      refine (ref02_Same x.w y.w _ (hx.w.ext (by repeat (first | exact Ext.refl _ | assumption | refine Ext.alloc' ?_ _ | refine Ext.drewN' ?_ _ | refine Ext.drew' ?_ | (refine Ext.trans ?_ (by assumption))))) (hy.w.ext (by repeat (first | exact Ext.refl _ | assumption | refine Ext.alloc' ?_ _ | refine Ext.drewN' ?_ _ | refine Ext.drew' ?_ | (refine Ext.trans ?_ (by assumption)))))).mono ?_
      rintro e w1 ⟨rfl, hE1⟩
      go_wp2_with fail
      go_ret
      exact ⟨ret_bool (decide_eq_false (fun h => HQ1.out (HI.out.1 h).2.1)).symm, (by repeat (first | exact Ext.refl _ | assumption | refine Ext.alloc' ?_ _ | refine Ext.drewN' ?_ _ | refine Ext.drew' ?_ | (refine Ext.trans ?_ (by assumption))))⟩
  · have e0 : decide (x.s.data = y.s.data) = false := decide_eq_false q0
    have HQ0 := Lib.hid q0
    clear q0
    go_enter Tryd.func56, Tryd.ntmps56
    go_wp2_with fail
    refine (ref02_Same x.s y.s _ (hx.s.ext (by repeat (first | exact Ext.refl _ | assumption | refine Ext.alloc' ?_ _ | refine Ext.drewN' ?_ _ | refine Ext.drew' ?_ | (refine Ext.trans ?_ (by assumption))))) (hy.s.ext (by repeat (first | exact Ext.refl _ | assumption | refine Ext.alloc' ?_ _ | refine Ext.drewN' ?_ _ | refine Ext.drew' ?_ | (refine Ext.trans ?_ (by assumption)))))).mono ?_
    rintro e w0 ⟨rfl, hE0⟩
    go_wp2_with fail
    go_ret
    exact ⟨ret_bool (decide_eq_false (fun h => HQ0.out (HI.out.1 h).1)).symm, (by repeat (first | exact Ext.refl _ | assumption | refine Ext.alloc' ?_ _ | refine Ext.drewN' ?_ _ | refine Ext.drew' ?_ | (refine Ext.trans ?_ (by assumption))))⟩
section
attribute [local go_sem] detUpon undUpon
set_option maxRecDepth 100000 in
set_option maxHeartbeats 400000 in
theorem ref06_Twin (x : XMass) (w : World) (hx : x.ok w w.heap.size) (hs : x.data.small) :
    Calls Tryd.prog 18 #[.agg #[.bool x.s.neg, .slice x.s.limbs.A x.s.limbs.l.length x.s.limbs.c, .int .i64 x.s.exp, .bool x.w.neg, .slice x.w.limbs.A x.w.limbs.l.length x.w.limbs.c, .int .i64 x.w.exp, .bool x.c.neg, .slice x.c.limbs.A x.c.limbs.l.length x.c.limbs.c, .int .i64 x.c.exp, .bool x.a.neg, .slice x.a.limbs.A x.a.limbs.l.length x.a.limbs.c, .int .i64 x.a.exp]] w fun e w' => ∃ y : XMass, e = .returned (.agg #[.bool y.s.neg, .slice y.s.limbs.A y.s.limbs.l.length y.s.limbs.c, .int .i64 y.s.exp, .bool y.w.neg, .slice y.w.limbs.A y.w.limbs.l.length y.w.limbs.c, .int .i64 y.w.exp, .bool y.c.neg, .slice y.c.limbs.A y.c.limbs.l.length y.c.limbs.c, .int .i64 y.c.exp, .bool y.a.neg, .slice y.a.limbs.A y.a.limbs.l.length y.a.limbs.c, .int .i64 y.a.exp]) ∧ y.data = x.data ∧ y.mine w' w.heap.size ∧ Ext w w' := by
  have HX := Lib.hid hx
  have HS := Lib.hid hs
  clear hx hs
  go_enter Tryd.func18, Tryd.ntmps18
  go_wp2_with fail
  obtain ⟨W0, hW0⟩ : ∃ W0, W0 = (w.alloc (.cells #[.bool x.s.neg, .slice x.s.limbs.A x.s.limbs.l.length x.s.limbs.c, .int .i64 x.s.exp, .bool x.w.neg, .slice x.w.limbs.A x.w.limbs.l.length x.w.limbs.c, .int .i64 x.w.exp, .bool x.c.neg, .slice x.c.limbs.A x.c.limbs.l.length x.c.limbs.c, .int .i64 x.c.exp, .bool x.a.neg, .slice x.a.limbs.A x.a.limbs.l.length x.a.limbs.c, .int .i64 x.a.exp] 47)).alloc (.cells #[.bool false, .slice none 0 0, .int .i64 0, .bool false, .slice none 0 0, .int .i64 0, .bool false, .slice none 0 0, .int .i64 0, .bool false, .slice none 0 0, .int .i64 0] 47) := ⟨_, rfl⟩
  have B0 : Blk W0 w.heap.size 47 [.bool x.s.neg, .slice x.s.limbs.A x.s.limbs.l.length x.s.limbs.c, .int .i64 x.s.exp, .bool x.w.neg, .slice x.w.limbs.A x.w.limbs.l.length x.w.limbs.c, .int .i64 x.w.exp, .bool x.c.neg, .slice x.c.limbs.A x.c.limbs.l.length x.c.limbs.c, .int .i64 x.c.exp, .bool x.a.neg, .slice x.a.limbs.A x.a.limbs.l.length x.a.limbs.c, .int .i64 x.a.exp] := by rw [hW0]; exact Blk.alloc (Blk.new rfl) _
  have B1 : Blk W0 (w.heap.size + 1) 47 [.bool false, .slice none 0 0, .int .i64 0, .bool false, .slice none 0 0, .int .i64 0, .bool false, .slice none 0 0, .int .i64 0, .bool false, .slice none 0 0, .int .i64 0] := by rw [hW0]; exact Blk.new (by simp)
  have hE0 : Ext w W0 := by rw [hW0]; exact Ext.alloc' (Ext.alloc _ _) _
  refine wp_region_tail 12 (C := Ext W0) (R := Ext) (U := fun i => if i = 2 then some (.some_ (fun v W => ∃ y : XDyad, v = .agg #[.bool y.neg, .slice y.limbs.A y.limbs.l.length y.limbs.c, .int .i64 y.exp] ∧ y.data = x.s.data ∧ y.mine W w.heap.size)) else if i = 5 then some (.some_ (fun v W => ∃ y : XDyad, v = .agg #[.bool y.neg, .slice y.limbs.A y.limbs.l.length y.limbs.c, .int .i64 y.exp] ∧ y.data = x.w.data ∧ y.mine W w.heap.size)) else if i = 8 then some (.some_ (fun v W => ∃ y : XDyad, v = .agg #[.bool y.neg, .slice y.limbs.A y.limbs.l.length y.limbs.c, .int .i64 y.exp] ∧ y.data = x.c.data ∧ y.mine W w.heap.size)) else if i = 11 then some (.some_ (fun v W => ∃ y : XDyad, v = .agg #[.bool y.neg, .slice y.limbs.A y.limbs.l.length y.limbs.c, .int .i64 y.exp] ∧ y.data = x.a.data ∧ y.mine W w.heap.size)) else none) (by kernel_rfl) (by kernel_rfl) (by rw [hW0]; exact Ext.drew _) ?_
  refine text_det rfl rfl ?_; apply Exists.intro; refine ⟨fun w hC => ?_, fun K hK => ?_⟩; go_simp; exact rfl; go_simp; refine hK _ ?_; clear hK K
  refine text_load_row 24 _ rfl rfl rfl _ _ x.s.cells rfl aggDyad (fun W hW => (B0.ext hW).part 0 3) (fun K hK => ?_); go_simp; refine hK _ ?_; clear hK K
  refine text_und _ rfl rfl (fun v w1 w2 hG hR => ?_) (fun w1 hC Φ hΦ => ?_) (fun v0 K hK => ?_)
  · obtain ⟨y, h1, h2, h3⟩ := hG
    exact ⟨y, h1, h2, h3.ext hR⟩
  · go_simp
    refine (ref02_Twin x.s _ (HX.out.s.ext (hE0.trans hC)) HS.out.1).mono ?_
    rintro e w2 ⟨y, rfl, h1, h2, hE2⟩
    exact ⟨_, rfl, hΦ _ _ (hC.trans hE2) hE2 ⟨y, rfl, h1, h2.lower (hE0.trans hC).size⟩⟩
  go_simp; refine hK _ ?_; clear hK K
  refine text_det rfl rfl ?_; apply Exists.intro; refine ⟨fun w hC => ?_, fun K hK => ?_⟩; go_simp; exact rfl; go_simp; refine hK _ ?_; clear hK K
  refine text_load_row 24 _ rfl rfl rfl _ _ x.w.cells rfl aggDyad (fun W hW => (B0.ext hW).part 3 3) (fun K hK => ?_); go_simp; refine hK _ ?_; clear hK K
  refine text_und _ rfl rfl (fun v w1 w2 hG hR => ?_) (fun w1 hC Φ hΦ => ?_) (fun v1 K hK => ?_)
  · obtain ⟨y, h1, h2, h3⟩ := hG
    exact ⟨y, h1, h2, h3.ext hR⟩
  · go_simp
    refine (ref02_Twin x.w _ (HX.out.w.ext (hE0.trans hC)) HS.out.2.1).mono ?_
    rintro e w2 ⟨y, rfl, h1, h2, hE2⟩
    exact ⟨_, rfl, hΦ _ _ (hC.trans hE2) hE2 ⟨y, rfl, h1, h2.lower (hE0.trans hC).size⟩⟩
  go_simp; refine hK _ ?_; clear hK K
  refine text_det rfl rfl ?_; apply Exists.intro; refine ⟨fun w hC => ?_, fun K hK => ?_⟩; go_simp; exact rfl; go_simp; refine hK _ ?_; clear hK K
  refine text_load_row 24 _ rfl rfl rfl _ _ x.c.cells rfl aggDyad (fun W hW => (B0.ext hW).part 6 3) (fun K hK => ?_); go_simp; refine hK _ ?_; clear hK K
  refine text_und _ rfl rfl (fun v w1 w2 hG hR => ?_) (fun w1 hC Φ hΦ => ?_) (fun v2 K hK => ?_)
  · obtain ⟨y, h1, h2, h3⟩ := hG
    exact ⟨y, h1, h2, h3.ext hR⟩
  · go_simp
    refine (ref02_Twin x.c _ (HX.out.c.ext (hE0.trans hC)) HS.out.2.2.1).mono ?_
    rintro e w2 ⟨y, rfl, h1, h2, hE2⟩
    exact ⟨_, rfl, hΦ _ _ (hC.trans hE2) hE2 ⟨y, rfl, h1, h2.lower (hE0.trans hC).size⟩⟩
  go_simp; refine hK _ ?_; clear hK K
  refine text_det rfl rfl ?_; apply Exists.intro; refine ⟨fun w hC => ?_, fun K hK => ?_⟩; go_simp; exact rfl; go_simp; refine hK _ ?_; clear hK K
  refine text_load_row 24 _ rfl rfl rfl _ _ x.a.cells rfl aggDyad (fun W hW => (B0.ext hW).part 9 3) (fun K hK => ?_); go_simp; refine hK _ ?_; clear hK K
  refine text_und _ rfl rfl (fun v w1 w2 hG hR => ?_) (fun w1 hC Φ hΦ => ?_) (fun v3 K hK => ?_)
  · obtain ⟨y, h1, h2, h3⟩ := hG
    exact ⟨y, h1, h2, h3.ext hR⟩
  · go_simp
    refine (ref02_Twin x.a _ (HX.out.a.ext (hE0.trans hC)) HS.out.2.2.2).mono ?_
    rintro e w2 ⟨y, rfl, h1, h2, hE2⟩
    exact ⟨_, rfl, hΦ _ _ (hC.trans hE2) hE2 ⟨y, rfl, h1, h2.lower (hE0.trans hC).size⟩⟩
  go_simp; refine hK _ ?_; clear hK K
  refine text_nil ?_
  rintro w1 hC ⟨⟨⟨⟨_, ys, rfl, hds, hms⟩, yw, rfl, hdw, hmw⟩, yc, rfl, hdc, hmc⟩, ya, rfl, hda, hma⟩
  have B11 : Blk w1 (w.heap.size + 1) 47 [.bool false, .slice none 0 0, .int .i64 0, .bool false, .slice none 0 0, .int .i64 0, .bool false, .slice none 0 0, .int .i64 0, .bool false, .slice none 0 0, .int .i64 0] := B1.ext hC
  simp only [List.drop_succ_cons, List.drop_zero]
  go_wp2_with (first | ((with_reducible refine wpl_store 47 (.tmp 2) (.tmp 15) ?_ ?_ (w.heap.size + 1) 0 47 [.bool false, .slice none 0 0, .int .i64 0, .bool false, .slice none 0 0, .int .i64 0, .bool false, .slice none 0 0, .int .i64 0, .bool false, .slice none 0 0, .int .i64 0] [.bool ys.neg, .slice ys.limbs.A ys.limbs.l.length ys.limbs.c, .int .i64 ys.exp, .bool yw.neg, .slice yw.limbs.A yw.limbs.l.length yw.limbs.c, .int .i64 yw.exp, .bool yc.neg, .slice yc.limbs.A yc.limbs.l.length yc.limbs.c, .int .i64 yc.exp, .bool ya.neg, .slice ya.limbs.A ya.limbs.l.length ya.limbs.c, .int .i64 ya.exp] ?_ ?_ ?_ ?_ ?_ ?_ ?_); (exact rfl); (exact rfl); (exact rfl); (exact rfl); (exact aggMass); (exact B11); (exact by simp); (exact rfl); (intro w3 BR3 hO3)) | fail)
  have hS : Shape (fun e => e = 47) w.heap.size w1 w3 := Shape.only (T := fun e => e = 47) (Shape.refl _ _ _) B11 hO3 BR3 rfl rfl (by simp)
  exact bodyPost_ret (results_c rfl rfl BR3 aggMass) rfl ⟨⟨ys, yw, yc, ya⟩, rfl, by simp only [XMass.data, hds, hdw, hdc, hda], ⟨hms.shape hS (by decide), hmw.shape hS (by decide), hmc.shape hS (by decide), hma.shape hS (by decide)⟩, Ext.of ((Shape.of_ext (hE0.trans hC)).trans hS |>.below (Nat.le_refl _))⟩
end
section
attribute [local go_sem] detUpon undIn
set_option maxRecDepth 100000 in
set_option maxHeartbeats 1000000 in
theorem ref06_Great (x : XMass) (w : World) (hx : x.ok w w.heap.size) :
    Calls Tryd.prog 47 #[.agg #[.bool x.s.neg, .slice x.s.limbs.A x.s.limbs.l.length x.s.limbs.c, .int .i64 x.s.exp, .bool x.w.neg, .slice x.w.limbs.A x.w.limbs.l.length x.w.limbs.c, .int .i64 x.w.exp, .bool x.c.neg, .slice x.c.limbs.A x.c.limbs.l.length x.c.limbs.c, .int .i64 x.c.exp, .bool x.a.neg, .slice x.a.limbs.A x.a.limbs.l.length x.a.limbs.c, .int .i64 x.a.exp]] w (Gr (x.data.small) w) := by
  have HX := Lib.hid hx
  clear hx
  go_enter Tryd.func47, Tryd.ntmps47
  go_wp2_with fail
  refine (ref02_Great x.s _ (HX.out.s.ext (by repeat (first | exact Ext.refl _ | assumption | refine Ext.alloc' ?_ _ | refine Ext.drewN' ?_ _ | refine Ext.drew' ?_ | (refine Ext.trans ?_ (by assumption)))))).mono ?_
  rintro e w0 ⟨b0, rfl, hb0, hE0⟩
  have hT0 := hE0
  obtain ⟨hc0, hf0⟩ := ext_cell hT0
  have HB0 := Lib.hid hb0
  clear hb0
  cases b0 with
  | true =>
    go_wp2_with fail
    go_ret
    exact Gr.yes rfl (by repeat (first | exact Ext.refl _ | assumption | refine Ext.alloc' ?_ _ | refine Ext.drewN' ?_ _ | refine Ext.drew' ?_ | (refine Ext.trans ?_ (by assumption))))
  | false =>
    go_wp2_with fail
    refine (ref02_Great x.w _ (HX.out.w.ext (by repeat (first | exact Ext.refl _ | assumption | refine Ext.alloc' ?_ _ | refine Ext.drewN' ?_ _ | refine Ext.drew' ?_ | (refine Ext.trans ?_ (by assumption)))))).mono ?_
    rintro e w1 ⟨b1, rfl, hb1, hE1⟩
    have hT1 := hT0.trans hE1
    clear hc0 hf0
    obtain ⟨hc1, hf1⟩ := ext_cell hT1
    have HB1 := Lib.hid hb1
    clear hb1
    cases b1 with
    | true =>
      go_wp2_with fail
      go_ret
      exact Gr.yes rfl (by repeat (first | exact Ext.refl _ | assumption | refine Ext.alloc' ?_ _ | refine Ext.drewN' ?_ _ | refine Ext.drew' ?_ | (refine Ext.trans ?_ (by assumption))))
    | false =>
      go_wp2_with fail
      refine (ref02_Great x.c _ (HX.out.c.ext (by repeat (first | exact Ext.refl _ | assumption | refine Ext.alloc' ?_ _ | refine Ext.drewN' ?_ _ | refine Ext.drew' ?_ | (refine Ext.trans ?_ (by assumption)))))).mono ?_
      rintro e w2 ⟨b2, rfl, hb2, hE2⟩
      have hT2 := hT1.trans hE2
      clear hc1 hf1
      obtain ⟨hc2, hf2⟩ := ext_cell hT2
      have HB2 := Lib.hid hb2
      clear hb2
      cases b2 with
      | true =>
        go_wp2_with fail
        go_ret
        exact Gr.yes rfl (by repeat (first | exact Ext.refl _ | assumption | refine Ext.alloc' ?_ _ | refine Ext.drewN' ?_ _ | refine Ext.drew' ?_ | (refine Ext.trans ?_ (by assumption))))
      | false =>
        go_wp2_with fail
        refine (ref02_Great x.a _ (HX.out.a.ext (by repeat (first | exact Ext.refl _ | assumption | refine Ext.alloc' ?_ _ | refine Ext.drewN' ?_ _ | refine Ext.drew' ?_ | (refine Ext.trans ?_ (by assumption)))))).mono ?_
        rintro e w3 ⟨b3, rfl, hb3, hE3⟩
        have hT3 := hT2.trans hE3
        clear hc2 hf2
        obtain ⟨hc3, hf3⟩ := ext_cell hT3
        have HB3 := Lib.hid hb3
        clear hb3
        cases b3 with
        | true =>
          go_wp2_with fail
          go_ret
          exact Gr.yes rfl (by repeat (first | exact Ext.refl _ | assumption | refine Ext.alloc' ?_ _ | refine Ext.drewN' ?_ _ | refine Ext.drew' ?_ | (refine Ext.trans ?_ (by assumption))))
        | false =>
          go_wp2_with fail
          go_ret
          exact Gr.no rfl ⟨Nat.le_trans (HB0.out (by simp)) (by decide), Nat.le_trans (HB1.out (by simp)) (by decide), Nat.le_trans (HB2.out (by simp)) (by decide), Nat.le_trans (HB3.out (by simp)) (by decide)⟩ (by repeat (first | exact Ext.refl _ | assumption | refine Ext.alloc' ?_ _ | refine Ext.drewN' ?_ _ | refine Ext.drew' ?_ | (refine Ext.trans ?_ (by assumption))))
end
end Go.Proofs.YtgcbnagfdfgpnaaDoor
