/- Meetings of two: the reference; sums: the program. Printed by gen_ref16.py. -/
import Derived.Test.YtgcbnagfdfgpnaaDoorShrinksAll14
import Derived.Test.YtgcbnagfdfgpnaaDoorShrinksAll12
namespace Go.Hx
open Go.RowKit
theorem FineM.lims {x : XMass} (h : FineM x.data) : ∀ i, i < 4 → Limbs (x.at i).limbs.l := fun _ hi => I4cases (motive := fun i => Limbs (x.at i).limbs.l) hi h.1.1 h.2.1.1 h.2.2.1.1 h.2.2.2.1
theorem chk_yes {p : Prop} [Decidable p] (h : p) : chk (decide p) = 0 := by rw [decide_eq_true h]; rfl
theorem chk_no {p : Prop} [Decidable p] (h : ¬ p) : chk (decide p) = 8 := by rw [decide_eq_false h]; rfl
end Go.Hx
namespace Go.Proofs.YtgcbnagfdfgpnaaDoor
open Go.RowKit Go.Hx
attribute [local go_sem] XDyad.cells XMass.cells detUpon undIn
set_option maxRecDepth 100000 in
set_option maxHeartbeats 4000000 in
theorem mass_Add (x y : XMass) (w : World) (hx : x.ok w w.heap.size) (hy : y.ok w w.heap.size) (fx : FineM x.data) (fy : FineM y.data) (hT : Tab w) :
    Calls Tryd.prog 99 #[.agg #[.bool x.s.neg, .slice x.s.limbs.A x.s.limbs.l.length x.s.limbs.c, .int .i64 x.s.exp, .bool x.w.neg, .slice x.w.limbs.A x.w.limbs.l.length x.w.limbs.c, .int .i64 x.w.exp, .bool x.c.neg, .slice x.c.limbs.A x.c.limbs.l.length x.c.limbs.c, .int .i64 x.c.exp, .bool x.a.neg, .slice x.a.limbs.A x.a.limbs.l.length x.a.limbs.c, .int .i64 x.a.exp], .agg #[.bool y.s.neg, .slice y.s.limbs.A y.s.limbs.l.length y.s.limbs.c, .int .i64 y.s.exp, .bool y.w.neg, .slice y.w.limbs.A y.w.limbs.l.length y.w.limbs.c, .int .i64 y.w.exp, .bool y.c.neg, .slice y.c.limbs.A y.c.limbs.l.length y.c.limbs.c, .int .i64 y.c.exp, .bool y.a.neg, .slice y.a.limbs.A y.a.limbs.l.length y.a.limbs.c, .int .i64 y.a.exp]] w fun e w' => ∃ z : XMass, e = .returned (.tuple #[.agg #[.bool z.s.neg, .slice z.s.limbs.A z.s.limbs.l.length z.s.limbs.c, .int .i64 z.s.exp, .bool z.w.neg, .slice z.w.limbs.A z.w.limbs.l.length z.w.limbs.c, .int .i64 z.w.exp, .bool z.c.neg, .slice z.c.limbs.A z.c.limbs.l.length z.c.limbs.c, .int .i64 z.c.exp, .bool z.a.neg, .slice z.a.limbs.A z.a.limbs.l.length z.a.limbs.c, .int .i64 z.a.exp], .int .i64 (addM x.data y.data).2]) ∧ z.data = (addM x.data y.data).1 ∧ z.mine w' w.heap.size ∧ Ext w w' := by
  have HX := Lib.hid hx
  have FX := Lib.hid fx
  have HY := Lib.hid hy
  have FY := Lib.hid fy
  have HT := Lib.hid hT
  clear hx fx hy fy hT
  go_enter Tryd.func99, Tryd.ntmps99
  go_wp2_with fail
  refine calls_nm fun W1 hW => ?_
  have B0 : Blk W1 (w.heap.size) 47 x.cells := by rw [hW]; exact ((Blk.new (by simp)).alloc _).alloc _
  have B1 : Blk W1 (w.heap.size + 1) 47 y.cells := by rw [hW]; exact (Blk.new (by simp)).alloc _
  have B2 : Blk W1 (w.heap.size + 2) 47 XMass.zero.cells := by rw [hW]; exact Blk.new (by simp)
  have E : Ext w W1 := by rw [hW]; exact Ext.alloc' (Ext.alloc' (Ext.alloc' (Ext.refl _) _) _) _
  clear hW
  refine (mass_each_Add x y _ (HX.out.ext E) (HY.out.ext E) (FineM.lims (FX.out)) (FineM.lims (FY.out)) (HT.out.ext E)).mono ?_
  rintro e W2 ⟨r0, rfl, hd0, hm0, hE⟩
  have hz := E.size
  replace B0 := B0.ext hE
  replace B1 := B1.ext hE
  replace B2 := B2.ext hE
  replace E := E.trans hE
  clear hE
  have M_r0 : r0.mine W2 w.heap.size := XMass.mine.lower hm0 hz
  have D_r0 := Lib.hid hd0
  have F_r0 : Hid (FineM r0.data) := Lib.hid (by rw [hd0]; exact addM_fine _ _)
  clear hd0 hm0 hz
  go_wp2_with (first | ((with_reducible refine st (B2) (0) r0.cells 47 (.tmp 4) (.tmp 9) ?_ ?_ ?_ ?_ ?_ ?_ ?_ fun W3 BR3 hO3 => ?_); (exact rfl); ((iterate 4 exact rfl); exact Nat.le_of_ble_eq_true rfl; exact aggMass; replace M_r0 := M_r0.only (B2) hO3 BR3 rfl (by decide); replace E := Only.ext (E) hO3 (by omega); replace B0 := Blk.only (B0) hO3 (by omega); replace B1 := Blk.only (B1) hO3 (by omega); replace B2 : Blk W3 (w.heap.size + 2) 47 r0.cells := BR3; clear BR3 hO3)) | fail)
  exact bodyPost_ret (results_ct rfl rfl (B2) aggMass) rfl ⟨r0, rfl, D_r0.out, M_r0, E⟩
set_option maxRecDepth 100000 in
set_option maxHeartbeats 4000000 in
theorem ref16_Done (x y : XMass) (w : World) (hx : x.ok w w.heap.size) (hy : y.ok w w.heap.size) (fx : FineM x.data) (fy : FineM y.data) :
    Calls Tryd.prog 54 #[.agg #[.bool x.s.neg, .slice x.s.limbs.A x.s.limbs.l.length x.s.limbs.c, .int .i64 x.s.exp, .bool x.w.neg, .slice x.w.limbs.A x.w.limbs.l.length x.w.limbs.c, .int .i64 x.w.exp, .bool x.c.neg, .slice x.c.limbs.A x.c.limbs.l.length x.c.limbs.c, .int .i64 x.c.exp, .bool x.a.neg, .slice x.a.limbs.A x.a.limbs.l.length x.a.limbs.c, .int .i64 x.a.exp], .agg #[.bool y.s.neg, .slice y.s.limbs.A y.s.limbs.l.length y.s.limbs.c, .int .i64 y.s.exp, .bool y.w.neg, .slice y.w.limbs.A y.w.limbs.l.length y.w.limbs.c, .int .i64 y.w.exp, .bool y.c.neg, .slice y.c.limbs.A y.c.limbs.l.length y.c.limbs.c, .int .i64 y.c.exp, .bool y.a.neg, .slice y.a.limbs.A y.a.limbs.l.length y.a.limbs.c, .int .i64 y.a.exp]] w fun e w' => ∃ z : XMass, e = .returned (.tuple #[.agg #[.bool z.s.neg, .slice z.s.limbs.A z.s.limbs.l.length z.s.limbs.c, .int .i64 z.s.exp, .bool z.w.neg, .slice z.w.limbs.A z.w.limbs.l.length z.w.limbs.c, .int .i64 z.w.exp, .bool z.c.neg, .slice z.c.limbs.A z.c.limbs.l.length z.c.limbs.c, .int .i64 z.c.exp, .bool z.a.neg, .slice z.a.limbs.A z.a.limbs.l.length z.a.limbs.c, .int .i64 z.a.exp], .int .i64 (doneM x.data y.data).2]) ∧ z.data = (doneM x.data y.data).1 ∧ z.mine w' w.heap.size ∧ Ext w w' := by
  have HX := Lib.hid hx
  have FX := Lib.hid fx
  have HY := Lib.hid hy
  have FY := Lib.hid fy
  clear hx fx hy fy
  by_cases q0 : mayM x.data
  rotate_left
  · have HR : Hid (doneM x.data y.data = (PMass.zero, 8)) := Lib.hid (by unfold doneM; rw [if_neg fun h => q0 h.1])
    have C0 := Lib.hid (decide_eq_false q0)
    clear q0
    go_enter Tryd.func54, Tryd.ntmps54
    go_wp2_with fail
    refine calls_nm fun W1 hW => ?_
    have B0 : Blk W1 (w.heap.size) 47 x.cells := by rw [hW]; exact ((Blk.new (by simp)).alloc _).alloc _
    have B1 : Blk W1 (w.heap.size + 1) 47 y.cells := by rw [hW]; exact (Blk.new (by simp)).alloc _
    have B2 : Blk W1 (w.heap.size + 2) 47 XMass.zero.cells := by rw [hW]; exact Blk.new (by simp)
    have E : Ext w W1 := by rw [hW]; exact Ext.alloc' (Ext.alloc' (Ext.alloc' (Ext.refl _) _) _) _
    clear hW
    refine (ref06_May x _ (HX.out.ext E)).mono ?_
    rw [C0.out]
    rintro e W2 ⟨rfl, hE⟩
    replace B0 := B0.ext hE
    replace B1 := B1.ext hE
    replace B2 := B2.ext hE
    replace E := E.trans hE
    clear hE
    go_wp2_with (first | ((with_reducible refine st (B2) (0) XMass.zero.cells 47 (.tmp 4) (.tmp 16) ?_ ?_ ?_ ?_ ?_ ?_ ?_ fun W3 BR3 hO3 => ?_); (exact rfl); ((iterate 4 exact rfl); exact Nat.le_of_ble_eq_true rfl; exact aggMass; replace E := Only.ext (E) hO3 (by omega); replace B0 := Blk.only (B0) hO3 (by omega); replace B1 := Blk.only (B1) hO3 (by omega); replace B2 : Blk W3 (w.heap.size + 2) 47 XMass.zero.cells := BR3; clear BR3 hO3)) | fail)
    exact bodyPost_ret (results_ct rfl rfl (B2) aggMass) rfl ⟨XMass.zero, by rw [HR.out] <;> rfl, by rw [HR.out] <;> rfl, XMass.zero_mine _ _, E⟩
  by_cases q1 : mayM y.data
  rotate_left
  · have HR : Hid (doneM x.data y.data = (PMass.zero, 8)) := Lib.hid (by unfold doneM; rw [if_neg fun h => q1 h.2])
    have C0 := Lib.hid (decide_eq_true q0)
    have C1 := Lib.hid (decide_eq_false q1)
    clear q0 q1
    go_enter Tryd.func54, Tryd.ntmps54
    go_wp2_with fail
    refine calls_nm fun W1 hW => ?_
    have B0 : Blk W1 (w.heap.size) 47 x.cells := by rw [hW]; exact ((Blk.new (by simp)).alloc _).alloc _
    have B1 : Blk W1 (w.heap.size + 1) 47 y.cells := by rw [hW]; exact (Blk.new (by simp)).alloc _
    have B2 : Blk W1 (w.heap.size + 2) 47 XMass.zero.cells := by rw [hW]; exact Blk.new (by simp)
    have E : Ext w W1 := by rw [hW]; exact Ext.alloc' (Ext.alloc' (Ext.alloc' (Ext.refl _) _) _) _
    clear hW
    refine (ref06_May x _ (HX.out.ext E)).mono ?_
    rw [C0.out]
    rintro e W2 ⟨rfl, hE⟩
    replace B0 := B0.ext hE
    replace B1 := B1.ext hE
    replace B2 := B2.ext hE
    replace E := E.trans hE
    clear hE
    go_wp2_with (first | ((with_reducible refine ld B1 (0) y.cells 47 (.tmp 3) ?_ ?_ ?_ ?_ ?_ ?_); (exact rfl); ((iterate 2 exact rfl); exact rfl; exact aggMass)) | fail)
    refine (ref06_May y _ (HY.out.ext E)).mono ?_
    rw [C1.out]
    rintro e W3 ⟨rfl, hE⟩
    replace B0 := B0.ext hE
    replace B1 := B1.ext hE
    replace B2 := B2.ext hE
    replace E := E.trans hE
    clear hE
    go_wp2_with (first | ((with_reducible refine st (B2) (0) XMass.zero.cells 47 (.tmp 4) (.tmp 16) ?_ ?_ ?_ ?_ ?_ ?_ ?_ fun W4 BR4 hO4 => ?_); (exact rfl); ((iterate 4 exact rfl); exact Nat.le_of_ble_eq_true rfl; exact aggMass; replace E := Only.ext (E) hO4 (by omega); replace B0 := Blk.only (B0) hO4 (by omega); replace B1 := Blk.only (B1) hO4 (by omega); replace B2 : Blk W4 (w.heap.size + 2) 47 XMass.zero.cells := BR4; clear BR4 hO4)) | fail)
    exact bodyPost_ret (results_ct rfl rfl (B2) aggMass) rfl ⟨XMass.zero, by rw [HR.out] <;> rfl, by rw [HR.out] <;> rfl, XMass.zero_mine _ _, E⟩
  have HR : Hid (doneM x.data y.data = addM x.data (⟨XDyad.zero, XDyad.zero, y.c, y.a⟩ : XMass).data) := Lib.hid (by unfold doneM; rw [if_pos ⟨q0, q1⟩]; rfl)
  have C0 := Lib.hid (decide_eq_true q0)
  have C1 := Lib.hid (decide_eq_true q1)
  clear q0 q1
  go_enter Tryd.func54, Tryd.ntmps54
  go_wp2_with fail
  refine calls_nm fun W1 hW => ?_
  have B0 : Blk W1 (w.heap.size) 47 x.cells := by rw [hW]; exact ((Blk.new (by simp)).alloc _).alloc _
  have B1 : Blk W1 (w.heap.size + 1) 47 y.cells := by rw [hW]; exact (Blk.new (by simp)).alloc _
  have B2 : Blk W1 (w.heap.size + 2) 47 XMass.zero.cells := by rw [hW]; exact Blk.new (by simp)
  have E : Ext w W1 := by rw [hW]; exact Ext.alloc' (Ext.alloc' (Ext.alloc' (Ext.refl _) _) _) _
  clear hW
  refine (ref06_May x _ (HX.out.ext E)).mono ?_
  rw [C0.out]
  rintro e W2 ⟨rfl, hE⟩
  replace B0 := B0.ext hE
  replace B1 := B1.ext hE
  replace B2 := B2.ext hE
  replace E := E.trans hE
  clear hE
  go_wp2_with (first | ((with_reducible refine ld B1 (0) y.cells 47 (.tmp 3) ?_ ?_ ?_ ?_ ?_ ?_); (exact rfl); ((iterate 2 exact rfl); exact rfl; exact aggMass)) | fail)
  refine (ref06_May y _ (HY.out.ext E)).mono ?_
  rw [C1.out]
  rintro e W3 ⟨rfl, hE⟩
  replace B0 := B0.ext hE
  replace B1 := B1.ext hE
  replace B2 := B2.ext hE
  replace E := E.trans hE
  clear hE
  go_wp2_with (first | ((with_reducible refine ld B0 (0) x.cells 47 (.tmp 2) ?_ ?_ ?_ ?_ ?_ ?_); (exact rfl); ((iterate 2 exact rfl); exact rfl; exact aggMass)) | ((with_reducible refine ld B1 (6) y.c.cells 24 (.tmp 19) ?_ ?_ ?_ ?_ ?_ ?_); (exact rfl); ((iterate 2 exact rfl); exact rfl; exact aggDyad)) | ((with_reducible refine ld B1 (9) y.a.cells 24 (.tmp 21) ?_ ?_ ?_ ?_ ?_ ?_); (exact rfl); ((iterate 2 exact rfl); exact rfl; exact aggDyad)) | fail)
  refine (ref06_Add x ((⟨XDyad.zero, XDyad.zero, y.c, y.a⟩ : XMass)) _ (HX.out.ext E) ⟨(XDyad.zero_ok _ _), (XDyad.zero_ok _ _), (HY.out.ext E).c, (HY.out.ext E).a⟩ (FX.out) (⟨fine_zero, fine_zero, (FY.out).2.2.1, (FY.out).2.2.2⟩)).mono ?_
  rintro e W4 ⟨r0, rfl, hd0, hm0, hE⟩
  have hz := E.size
  replace B0 := B0.ext hE
  replace B1 := B1.ext hE
  replace B2 := B2.ext hE
  replace E := E.trans hE
  clear hE
  have M_r0 : r0.mine W4 w.heap.size := XMass.mine.lower hm0 hz
  have D_r0 := Lib.hid hd0
  have F_r0 : Hid (FineM r0.data) := Lib.hid (by rw [hd0]; exact addM_fine _ _)
  clear hd0 hm0 hz
  have L4_2 := B2.lt
  go_wp2_with (first | ((with_reducible refine st (B2.alloc _) (0) r0.cells 47 (.tmp 4) (.tmp 27) ?_ ?_ ?_ ?_ ?_ ?_ ?_ fun W5 BR5 hO5 => ?_); (exact rfl); ((iterate 4 exact rfl); exact Nat.le_of_ble_eq_true rfl; exact aggMass; replace M_r0 := (M_r0.ext (Ext.alloc' (Ext.refl _) _)).only (B2.alloc _) hO5 BR5 rfl (by decide); replace E := Only.ext (Ext.alloc' E _) hO5 (by omega); replace B0 := Blk.only (B0.alloc _) hO5 (by omega); replace B1 := Blk.only (B1.alloc _) hO5 (by omega); have B3 : Blk W5 (W4.heap.size) 47 r0.cells := Blk.only (Blk.new (by simp)) hO5 (by omega); replace B2 : Blk W5 (w.heap.size + 2) 47 r0.cells := BR5; clear BR5 hO5)) | fail)
  exact bodyPost_ret (results_ct rfl rfl (B2) aggMass) rfl ⟨r0, by rw [HR.out] <;> rfl, by rw [HR.out, D_r0.out] <;> rfl, M_r0, E⟩
set_option maxRecDepth 100000 in
set_option maxHeartbeats 4000000 in
theorem mean_Done (x y : XMass) (w : World) (hx : x.ok w w.heap.size) (hy : y.ok w w.heap.size) (fx : FineM x.data) (fy : FineM y.data) (hT : Tab w) :
    Calls Tryd.prog 50 #[.agg #[.bool x.s.neg, .slice x.s.limbs.A x.s.limbs.l.length x.s.limbs.c, .int .i64 x.s.exp, .bool x.w.neg, .slice x.w.limbs.A x.w.limbs.l.length x.w.limbs.c, .int .i64 x.w.exp, .bool x.c.neg, .slice x.c.limbs.A x.c.limbs.l.length x.c.limbs.c, .int .i64 x.c.exp, .bool x.a.neg, .slice x.a.limbs.A x.a.limbs.l.length x.a.limbs.c, .int .i64 x.a.exp], .agg #[.bool y.s.neg, .slice y.s.limbs.A y.s.limbs.l.length y.s.limbs.c, .int .i64 y.s.exp, .bool y.w.neg, .slice y.w.limbs.A y.w.limbs.l.length y.w.limbs.c, .int .i64 y.w.exp, .bool y.c.neg, .slice y.c.limbs.A y.c.limbs.l.length y.c.limbs.c, .int .i64 y.c.exp, .bool y.a.neg, .slice y.a.limbs.A y.a.limbs.l.length y.a.limbs.c, .int .i64 y.a.exp]] w fun e w' => ∃ z : XMass, e = .returned (.tuple #[.agg #[.bool z.s.neg, .slice z.s.limbs.A z.s.limbs.l.length z.s.limbs.c, .int .i64 z.s.exp, .bool z.w.neg, .slice z.w.limbs.A z.w.limbs.l.length z.w.limbs.c, .int .i64 z.w.exp, .bool z.c.neg, .slice z.c.limbs.A z.c.limbs.l.length z.c.limbs.c, .int .i64 z.c.exp, .bool z.a.neg, .slice z.a.limbs.A z.a.limbs.l.length z.a.limbs.c, .int .i64 z.a.exp], .int .i64 (doneM x.data y.data).2]) ∧ z.data = (doneM x.data y.data).1 ∧ z.mine w' w.heap.size ∧ Ext w w' := by
  have HX := Lib.hid hx
  have FX := Lib.hid fx
  have HY := Lib.hid hy
  have FY := Lib.hid fy
  have HT := Lib.hid hT
  clear hx fx hy fy hT
  by_cases q0 : mayM x.data
  rotate_left
  · have HR : Hid (doneM x.data y.data = (PMass.zero, 8)) := Lib.hid (by unfold doneM; rw [if_neg fun h => q0 h.1])
    have C0 := Lib.hid (chk_no q0)
    clear q0
    go_enter Tryd.func50, Tryd.ntmps50
    go_wp2_with fail
    refine calls_nm fun W1 hW => ?_
    have B0 : Blk W1 (w.heap.size) 47 x.cells := by rw [hW]; exact ((Blk.new (by simp)).alloc _).alloc _
    have B1 : Blk W1 (w.heap.size + 1) 47 y.cells := by rw [hW]; exact (Blk.new (by simp)).alloc _
    have B2 : Blk W1 (w.heap.size + 2) 47 XMass.zero.cells := by rw [hW]; exact Blk.new (by simp)
    have E : Ext w W1 := by rw [hW]; exact Ext.alloc' (Ext.alloc' (Ext.alloc' (Ext.refl _) _) _) _
    clear hW
    refine (mass_Check x _ (HX.out.ext E)).mono ?_
    rw [C0.out]
    rintro e W2 ⟨rfl, hE⟩
    replace B0 := B0.ext hE
    replace B1 := B1.ext hE
    replace B2 := B2.ext hE
    replace E := E.trans hE
    clear hE
    go_wp2_with (first | ((with_reducible refine st (B2) (0) XMass.zero.cells 47 (.tmp 4) (.tmp 14) ?_ ?_ ?_ ?_ ?_ ?_ ?_ fun W3 BR3 hO3 => ?_); (exact rfl); ((iterate 4 exact rfl); exact Nat.le_of_ble_eq_true rfl; exact aggMass; replace E := Only.ext (E) hO3 (by omega); replace B0 := Blk.only (B0) hO3 (by omega); replace B1 := Blk.only (B1) hO3 (by omega); replace B2 : Blk W3 (w.heap.size + 2) 47 XMass.zero.cells := BR3; clear BR3 hO3)) | fail)
    exact bodyPost_ret (results_ct rfl rfl (B2) aggMass) rfl ⟨XMass.zero, by rw [HR.out] <;> rfl, by rw [HR.out] <;> rfl, XMass.zero_mine _ _, E⟩
  by_cases q1 : mayM y.data
  rotate_left
  · have HR : Hid (doneM x.data y.data = (PMass.zero, 8)) := Lib.hid (by unfold doneM; rw [if_neg fun h => q1 h.2])
    have C0 := Lib.hid (chk_yes q0)
    have C1 := Lib.hid (chk_no q1)
    clear q0 q1
    go_enter Tryd.func50, Tryd.ntmps50
    go_wp2_with fail
    refine calls_nm fun W1 hW => ?_
    have B0 : Blk W1 (w.heap.size) 47 x.cells := by rw [hW]; exact ((Blk.new (by simp)).alloc _).alloc _
    have B1 : Blk W1 (w.heap.size + 1) 47 y.cells := by rw [hW]; exact (Blk.new (by simp)).alloc _
    have B2 : Blk W1 (w.heap.size + 2) 47 XMass.zero.cells := by rw [hW]; exact Blk.new (by simp)
    have E : Ext w W1 := by rw [hW]; exact Ext.alloc' (Ext.alloc' (Ext.alloc' (Ext.refl _) _) _) _
    clear hW
    refine (mass_Check x _ (HX.out.ext E)).mono ?_
    rw [C0.out]
    rintro e W2 ⟨rfl, hE⟩
    replace B0 := B0.ext hE
    replace B1 := B1.ext hE
    replace B2 := B2.ext hE
    replace E := E.trans hE
    clear hE
    go_wp2_with (first | ((with_reducible refine ld B1 (0) y.cells 47 (.tmp 3) ?_ ?_ ?_ ?_ ?_ ?_); (exact rfl); ((iterate 2 exact rfl); exact rfl; exact aggMass)) | fail)
    refine (mass_Check y _ (HY.out.ext E)).mono ?_
    rw [C1.out]
    rintro e W3 ⟨rfl, hE⟩
    replace B0 := B0.ext hE
    replace B1 := B1.ext hE
    replace B2 := B2.ext hE
    replace E := E.trans hE
    clear hE
    go_wp2_with (first | ((with_reducible refine st (B2) (0) XMass.zero.cells 47 (.tmp 4) (.tmp 14) ?_ ?_ ?_ ?_ ?_ ?_ ?_ fun W4 BR4 hO4 => ?_); (exact rfl); ((iterate 4 exact rfl); exact Nat.le_of_ble_eq_true rfl; exact aggMass; replace E := Only.ext (E) hO4 (by omega); replace B0 := Blk.only (B0) hO4 (by omega); replace B1 := Blk.only (B1) hO4 (by omega); replace B2 : Blk W4 (w.heap.size + 2) 47 XMass.zero.cells := BR4; clear BR4 hO4)) | fail)
    exact bodyPost_ret (results_ct rfl rfl (B2) aggMass) rfl ⟨XMass.zero, by rw [HR.out] <;> rfl, by rw [HR.out] <;> rfl, XMass.zero_mine _ _, E⟩
  have HR : Hid (doneM x.data y.data = addM x.data (⟨XDyad.zero, XDyad.zero, y.c, y.a⟩ : XMass).data) := Lib.hid (by unfold doneM; rw [if_pos ⟨q0, q1⟩]; rfl)
  have C0 := Lib.hid (chk_yes q0)
  have C1 := Lib.hid (chk_yes q1)
  clear q0 q1
  go_enter Tryd.func50, Tryd.ntmps50
  go_wp2_with fail
  refine calls_nm fun W1 hW => ?_
  have B0 : Blk W1 (w.heap.size) 47 x.cells := by rw [hW]; exact ((Blk.new (by simp)).alloc _).alloc _
  have B1 : Blk W1 (w.heap.size + 1) 47 y.cells := by rw [hW]; exact (Blk.new (by simp)).alloc _
  have B2 : Blk W1 (w.heap.size + 2) 47 XMass.zero.cells := by rw [hW]; exact Blk.new (by simp)
  have E : Ext w W1 := by rw [hW]; exact Ext.alloc' (Ext.alloc' (Ext.alloc' (Ext.refl _) _) _) _
  clear hW
  refine (mass_Check x _ (HX.out.ext E)).mono ?_
  rw [C0.out]
  rintro e W2 ⟨rfl, hE⟩
  replace B0 := B0.ext hE
  replace B1 := B1.ext hE
  replace B2 := B2.ext hE
  replace E := E.trans hE
  clear hE
  go_wp2_with (first | ((with_reducible refine ld B1 (0) y.cells 47 (.tmp 3) ?_ ?_ ?_ ?_ ?_ ?_); (exact rfl); ((iterate 2 exact rfl); exact rfl; exact aggMass)) | fail)
  refine (mass_Check y _ (HY.out.ext E)).mono ?_
  rw [C1.out]
  rintro e W3 ⟨rfl, hE⟩
  replace B0 := B0.ext hE
  replace B1 := B1.ext hE
  replace B2 := B2.ext hE
  replace E := E.trans hE
  clear hE
  go_wp2_with (first | ((with_reducible refine ld B0 (0) x.cells 47 (.tmp 2) ?_ ?_ ?_ ?_ ?_ ?_); (exact rfl); ((iterate 2 exact rfl); exact rfl; exact aggMass)) | ((with_reducible refine ld B1 (6) y.c.cells 24 (.tmp 16) ?_ ?_ ?_ ?_ ?_ ?_); (exact rfl); ((iterate 2 exact rfl); exact rfl; exact aggDyad)) | ((with_reducible refine ld B1 (9) y.a.cells 24 (.tmp 18) ?_ ?_ ?_ ?_ ?_ ?_); (exact rfl); ((iterate 2 exact rfl); exact rfl; exact aggDyad)) | fail)
  refine (mass_Add x ((⟨XDyad.zero, XDyad.zero, y.c, y.a⟩ : XMass)) _ (HX.out.ext E) ⟨(XDyad.zero_ok _ _), (XDyad.zero_ok _ _), (HY.out.ext E).c, (HY.out.ext E).a⟩ (FX.out) (⟨fine_zero, fine_zero, (FY.out).2.2.1, (FY.out).2.2.2⟩) (HT.out.ext E)).mono ?_
  rintro e W4 ⟨r0, rfl, hd0, hm0, hE⟩
  have hz := E.size
  replace B0 := B0.ext hE
  replace B1 := B1.ext hE
  replace B2 := B2.ext hE
  replace E := E.trans hE
  clear hE
  have M_r0 : r0.mine W4 w.heap.size := XMass.mine.lower hm0 hz
  have D_r0 := Lib.hid hd0
  have F_r0 : Hid (FineM r0.data) := Lib.hid (by rw [hd0]; exact addM_fine _ _)
  clear hd0 hm0 hz
  go_wp2_with (first | ((with_reducible refine st (B2) (0) r0.cells 47 (.tmp 4) (.tmp 22) ?_ ?_ ?_ ?_ ?_ ?_ ?_ fun W5 BR5 hO5 => ?_); (exact rfl); ((iterate 4 exact rfl); exact Nat.le_of_ble_eq_true rfl; exact aggMass; replace M_r0 := M_r0.only (B2) hO5 BR5 rfl (by decide); replace E := Only.ext (E) hO5 (by omega); replace B0 := Blk.only (B0) hO5 (by omega); replace B1 := Blk.only (B1) hO5 (by omega); replace B2 : Blk W5 (w.heap.size + 2) 47 r0.cells := BR5; clear BR5 hO5)) | fail)
  exact bodyPost_ret (results_ct rfl rfl (B2) aggMass) rfl ⟨r0, by rw [HR.out] <;> rfl, by rw [HR.out, D_r0.out] <;> rfl, M_r0, E⟩
set_option maxRecDepth 100000 in
set_option maxHeartbeats 4000000 in
theorem ref16_Meet (x y : XMass) (w : World) (hx : x.ok w w.heap.size) (hy : y.ok w w.heap.size) (fx : FineM x.data) (fy : FineM y.data) :
    Calls Tryd.prog 53 #[.agg #[.bool x.s.neg, .slice x.s.limbs.A x.s.limbs.l.length x.s.limbs.c, .int .i64 x.s.exp, .bool x.w.neg, .slice x.w.limbs.A x.w.limbs.l.length x.w.limbs.c, .int .i64 x.w.exp, .bool x.c.neg, .slice x.c.limbs.A x.c.limbs.l.length x.c.limbs.c, .int .i64 x.c.exp, .bool x.a.neg, .slice x.a.limbs.A x.a.limbs.l.length x.a.limbs.c, .int .i64 x.a.exp], .agg #[.bool y.s.neg, .slice y.s.limbs.A y.s.limbs.l.length y.s.limbs.c, .int .i64 y.s.exp, .bool y.w.neg, .slice y.w.limbs.A y.w.limbs.l.length y.w.limbs.c, .int .i64 y.w.exp, .bool y.c.neg, .slice y.c.limbs.A y.c.limbs.l.length y.c.limbs.c, .int .i64 y.c.exp, .bool y.a.neg, .slice y.a.limbs.A y.a.limbs.l.length y.a.limbs.c, .int .i64 y.a.exp]] w fun e w' => ∃ z l : XMass, e = .returned (.tuple #[.agg #[.bool z.s.neg, .slice z.s.limbs.A z.s.limbs.l.length z.s.limbs.c, .int .i64 z.s.exp, .bool z.w.neg, .slice z.w.limbs.A z.w.limbs.l.length z.w.limbs.c, .int .i64 z.w.exp, .bool z.c.neg, .slice z.c.limbs.A z.c.limbs.l.length z.c.limbs.c, .int .i64 z.c.exp, .bool z.a.neg, .slice z.a.limbs.A z.a.limbs.l.length z.a.limbs.c, .int .i64 z.a.exp], .agg #[.bool l.s.neg, .slice l.s.limbs.A l.s.limbs.l.length l.s.limbs.c, .int .i64 l.s.exp, .bool l.w.neg, .slice l.w.limbs.A l.w.limbs.l.length l.w.limbs.c, .int .i64 l.w.exp, .bool l.c.neg, .slice l.c.limbs.A l.c.limbs.l.length l.c.limbs.c, .int .i64 l.c.exp, .bool l.a.neg, .slice l.a.limbs.A l.a.limbs.l.length l.a.limbs.c, .int .i64 l.a.exp], .int .i64 (meetM x.data y.data).2.2]) ∧ z.data = (meetM x.data y.data).1 ∧ l.data = (meetM x.data y.data).2.1 ∧ z.mine w' w.heap.size ∧ l.mine w' w.heap.size ∧ Ext w w' := by
  have HX := Lib.hid hx
  have FX := Lib.hid fx
  have HY := Lib.hid hy
  have FY := Lib.hid fy
  clear hx fx hy fy
  by_cases q0 : mayM x.data
  rotate_left
  · have HR : Hid (meetM x.data y.data = (PMass.zero, PMass.zero, 8)) := Lib.hid (by unfold meetM; rw [if_neg fun h => q0 h.1])
    have C0 := Lib.hid (decide_eq_false q0)
    clear q0
    go_enter Tryd.func53, Tryd.ntmps53
    go_wp2_with fail
    refine calls_nm fun W1 hW => ?_
    have B0 : Blk W1 (w.heap.size) 47 x.cells := by rw [hW]; exact (((Blk.new (by simp)).alloc _).alloc _).alloc _
    have B1 : Blk W1 (w.heap.size + 1) 47 y.cells := by rw [hW]; exact ((Blk.new (by simp)).alloc _).alloc _
    have B2 : Blk W1 (w.heap.size + 2) 47 XMass.zero.cells := by rw [hW]; exact (Blk.new (by simp)).alloc _
    have B3 : Blk W1 (w.heap.size + 3) 47 XMass.zero.cells := by rw [hW]; exact Blk.new (by simp)
    have E : Ext w W1 := by rw [hW]; exact Ext.alloc' (Ext.alloc' (Ext.alloc' (Ext.alloc' (Ext.refl _) _) _) _) _
    clear hW
    refine (ref06_May x _ (HX.out.ext E)).mono ?_
    rw [C0.out]
    rintro e W2 ⟨rfl, hE⟩
    replace B0 := B0.ext hE
    replace B1 := B1.ext hE
    replace B2 := B2.ext hE
    replace B3 := B3.ext hE
    replace E := E.trans hE
    clear hE
    go_wp2_with (first | ((with_reducible refine st (B2) (0) XMass.zero.cells 47 (.tmp 4) (.tmp 21) ?_ ?_ ?_ ?_ ?_ ?_ ?_ fun W3 BR3 hO3 => ?_); (exact rfl); ((iterate 4 exact rfl); exact Nat.le_of_ble_eq_true rfl; exact aggMass; replace E := Only.ext (E) hO3 (by omega); replace B0 := Blk.only (B0) hO3 (by omega); replace B1 := Blk.only (B1) hO3 (by omega); replace B3 := Blk.only (B3) hO3 (by omega); replace B2 : Blk W3 (w.heap.size + 2) 47 XMass.zero.cells := BR3; clear BR3 hO3)) | ((with_reducible refine st (B3) (0) XMass.zero.cells 47 (.tmp 5) (.tmp 22) ?_ ?_ ?_ ?_ ?_ ?_ ?_ fun W4 BR4 hO4 => ?_); (exact rfl); ((iterate 4 exact rfl); exact Nat.le_of_ble_eq_true rfl; exact aggMass; replace E := Only.ext (E) hO4 (by omega); replace B0 := Blk.only (B0) hO4 (by omega); replace B1 := Blk.only (B1) hO4 (by omega); replace B2 := Blk.only (B2) hO4 (by omega); replace B3 : Blk W4 (w.heap.size + 3) 47 XMass.zero.cells := BR4; clear BR4 hO4)) | fail)
    exact bodyPost_ret (results_cct rfl rfl (B2) aggMass rfl (B3) aggMass) rfl ⟨XMass.zero, XMass.zero, by rw [HR.out] <;> rfl, by rw [HR.out] <;> rfl, by rw [HR.out] <;> rfl, XMass.zero_mine _ _, XMass.zero_mine _ _, E⟩
  by_cases q1 : mayM y.data
  rotate_left
  · have HR : Hid (meetM x.data y.data = (PMass.zero, PMass.zero, 8)) := Lib.hid (by unfold meetM; rw [if_neg fun h => q1 h.2])
    have C0 := Lib.hid (decide_eq_true q0)
    have C1 := Lib.hid (decide_eq_false q1)
    clear q0 q1
    go_enter Tryd.func53, Tryd.ntmps53
    go_wp2_with fail
    refine calls_nm fun W1 hW => ?_
    have B0 : Blk W1 (w.heap.size) 47 x.cells := by rw [hW]; exact (((Blk.new (by simp)).alloc _).alloc _).alloc _
    have B1 : Blk W1 (w.heap.size + 1) 47 y.cells := by rw [hW]; exact ((Blk.new (by simp)).alloc _).alloc _
    have B2 : Blk W1 (w.heap.size + 2) 47 XMass.zero.cells := by rw [hW]; exact (Blk.new (by simp)).alloc _
    have B3 : Blk W1 (w.heap.size + 3) 47 XMass.zero.cells := by rw [hW]; exact Blk.new (by simp)
    have E : Ext w W1 := by rw [hW]; exact Ext.alloc' (Ext.alloc' (Ext.alloc' (Ext.alloc' (Ext.refl _) _) _) _) _
    clear hW
    refine (ref06_May x _ (HX.out.ext E)).mono ?_
    rw [C0.out]
    rintro e W2 ⟨rfl, hE⟩
    replace B0 := B0.ext hE
    replace B1 := B1.ext hE
    replace B2 := B2.ext hE
    replace B3 := B3.ext hE
    replace E := E.trans hE
    clear hE
    go_wp2_with (first | ((with_reducible refine ld B1 (0) y.cells 47 (.tmp 3) ?_ ?_ ?_ ?_ ?_ ?_); (exact rfl); ((iterate 2 exact rfl); exact rfl; exact aggMass)) | fail)
    refine (ref06_May y _ (HY.out.ext E)).mono ?_
    rw [C1.out]
    rintro e W3 ⟨rfl, hE⟩
    replace B0 := B0.ext hE
    replace B1 := B1.ext hE
    replace B2 := B2.ext hE
    replace B3 := B3.ext hE
    replace E := E.trans hE
    clear hE
    go_wp2_with (first | ((with_reducible refine st (B2) (0) XMass.zero.cells 47 (.tmp 4) (.tmp 21) ?_ ?_ ?_ ?_ ?_ ?_ ?_ fun W4 BR4 hO4 => ?_); (exact rfl); ((iterate 4 exact rfl); exact Nat.le_of_ble_eq_true rfl; exact aggMass; replace E := Only.ext (E) hO4 (by omega); replace B0 := Blk.only (B0) hO4 (by omega); replace B1 := Blk.only (B1) hO4 (by omega); replace B3 := Blk.only (B3) hO4 (by omega); replace B2 : Blk W4 (w.heap.size + 2) 47 XMass.zero.cells := BR4; clear BR4 hO4)) | ((with_reducible refine st (B3) (0) XMass.zero.cells 47 (.tmp 5) (.tmp 22) ?_ ?_ ?_ ?_ ?_ ?_ ?_ fun W5 BR5 hO5 => ?_); (exact rfl); ((iterate 4 exact rfl); exact Nat.le_of_ble_eq_true rfl; exact aggMass; replace E := Only.ext (E) hO5 (by omega); replace B0 := Blk.only (B0) hO5 (by omega); replace B1 := Blk.only (B1) hO5 (by omega); replace B2 := Blk.only (B2) hO5 (by omega); replace B3 : Blk W5 (w.heap.size + 3) 47 XMass.zero.cells := BR5; clear BR5 hO5)) | fail)
    exact bodyPost_ret (results_cct rfl rfl (B2) aggMass rfl (B3) aggMass) rfl ⟨XMass.zero, XMass.zero, by rw [HR.out] <;> rfl, by rw [HR.out] <;> rfl, by rw [HR.out] <;> rfl, XMass.zero_mine _ _, XMass.zero_mine _ _, E⟩
  have C0 := Lib.hid (decide_eq_true q0)
  have C1 := Lib.hid (decide_eq_true q1)
  have P0 : Hid (mayD x.c.data ∧ mayD y.c.data) := Lib.hid ⟨q0.2.2.1, q1.2.2.1⟩
  obtain ⟨e0, h0⟩ : ∃ e, (middleD x.c.data y.c.data).2.2 = e := ⟨_, rfl⟩
  have t0 : e0 = 0 ∨ e0 = 10 := by
    rw [← h0]
    rcases middleD_err P0.out.1 P0.out.2 with h | h
    · exact .inl h.1
    · right; rw [h]
  have G0 := Lib.hid h0
  have P1 : Hid (mayD x.a.data ∧ mayD y.a.data) := Lib.hid ⟨q0.2.2.2, q1.2.2.2⟩
  obtain ⟨e1, h1⟩ : ∃ e, (middleD x.a.data y.a.data).2.2 = e := ⟨_, rfl⟩
  have t1 : e1 = 0 ∨ e1 = 10 := by
    rw [← h1]
    rcases middleD_err P1.out.1 P1.out.2 with h | h
    · exact .inl h.1
    · right; rw [h]
  have G1 := Lib.hid h1
  by_cases hz : e0 = 0 ∧ e1 = 0
  · obtain ⟨rfl, rfl⟩ := hz
    have HR : Hid (meetM x.data y.data = (⟨y.s.data, y.w.data, (middleD x.c.data y.c.data).1, (middleD x.a.data y.a.data).1⟩, ⟨PDyad.zero, PDyad.zero, (middleD x.c.data y.c.data).2.1, (middleD x.a.data y.a.data).2.1⟩, 0)) := Lib.hid (by unfold meetM; rw [if_pos ⟨q0, q1⟩, if_pos ⟨h0, h1⟩]; rfl)
    clear q0 q1 h0 h1 t0 t1
    go_enter Tryd.func53, Tryd.ntmps53
    go_wp2_with fail
    refine calls_nm fun W1 hW => ?_
    have B0 : Blk W1 (w.heap.size) 47 x.cells := by rw [hW]; exact (((Blk.new (by simp)).alloc _).alloc _).alloc _
    have B1 : Blk W1 (w.heap.size + 1) 47 y.cells := by rw [hW]; exact ((Blk.new (by simp)).alloc _).alloc _
    have B2 : Blk W1 (w.heap.size + 2) 47 XMass.zero.cells := by rw [hW]; exact (Blk.new (by simp)).alloc _
    have B3 : Blk W1 (w.heap.size + 3) 47 XMass.zero.cells := by rw [hW]; exact Blk.new (by simp)
    have E : Ext w W1 := by rw [hW]; exact Ext.alloc' (Ext.alloc' (Ext.alloc' (Ext.alloc' (Ext.refl _) _) _) _) _
    clear hW
    refine (ref06_May x _ (HX.out.ext E)).mono ?_
    rw [C0.out]
    rintro e W2 ⟨rfl, hE⟩
    replace B0 := B0.ext hE
    replace B1 := B1.ext hE
    replace B2 := B2.ext hE
    replace B3 := B3.ext hE
    replace E := E.trans hE
    clear hE
    go_wp2_with (first | ((with_reducible refine ld B1 (0) y.cells 47 (.tmp 3) ?_ ?_ ?_ ?_ ?_ ?_); (exact rfl); ((iterate 2 exact rfl); exact rfl; exact aggMass)) | fail)
    refine (ref06_May y _ (HY.out.ext E)).mono ?_
    rw [C1.out]
    rintro e W3 ⟨rfl, hE⟩
    replace B0 := B0.ext hE
    replace B1 := B1.ext hE
    replace B2 := B2.ext hE
    replace B3 := B3.ext hE
    replace E := E.trans hE
    clear hE
    go_wp2_with (first | ((with_reducible refine ld B0 (6) x.c.cells 24 (.tmp 24) ?_ ?_ ?_ ?_ ?_ ?_); (exact rfl); ((iterate 2 exact rfl); exact rfl; exact aggDyad)) | ((with_reducible refine ld B1 (6) y.c.cells 24 (.tmp 26) ?_ ?_ ?_ ?_ ?_ ?_); (exact rfl); ((iterate 2 exact rfl); exact rfl; exact aggDyad)) | fail)
    refine (ref16_Middle x.c y.c _ (HX.out.ext E).c (HY.out.ext E).c ((FX.out).2.2.1) ((FY.out).2.2.1) P0.out.1 P0.out.2).mono ?_
    rw [G0.out]
    rintro e W4 ⟨m0, d0, rfl, hd0, hd1, hm0, hm1, hE⟩
    have hz := E.size
    replace B0 := B0.ext hE
    replace B1 := B1.ext hE
    replace B2 := B2.ext hE
    replace B3 := B3.ext hE
    replace E := E.trans hE
    clear hE
    have M_m0 : m0.mine W4 w.heap.size := XDyad.mine.lower hm0 hz
    have D_m0 := Lib.hid hd0
    have F_m0 : Hid (Fine m0.data) := Lib.hid (by rw [hd0]; exact (middleD_fine _ _).1)
    have M_d0 : d0.mine W4 w.heap.size := XDyad.mine.lower hm1 hz
    have D_d0 := Lib.hid hd1
    have F_d0 : Hid (Fine d0.data) := Lib.hid (by rw [hd1]; exact (middleD_fine _ _).2)
    clear hd0 hm0 hd1 hm1 hz
    have L4_3 := B3.lt
    go_wp2_with (first | ((with_reducible refine ld ((B0.alloc _).alloc _) (9) x.a.cells 24 (.tmp 33) ?_ ?_ ?_ ?_ ?_ ?_); (exact rfl); ((iterate 2 exact rfl); exact rfl; exact aggDyad)) | ((with_reducible refine ld ((B1.alloc _).alloc _) (9) y.a.cells 24 (.tmp 35) ?_ ?_ ?_ ?_ ?_ ?_); (exact rfl); ((iterate 2 exact rfl); exact rfl; exact aggDyad)) | fail)
    refine calls_nm fun W5 hW => ?_
    replace B0 : Blk W5 (w.heap.size) 47 x.cells := by rw [hW]; exact (B0.alloc _).alloc _
    replace B1 : Blk W5 (w.heap.size + 1) 47 y.cells := by rw [hW]; exact (B1.alloc _).alloc _
    replace B2 : Blk W5 (w.heap.size + 2) 47 XMass.zero.cells := by rw [hW]; exact (B2.alloc _).alloc _
    replace B3 : Blk W5 (w.heap.size + 3) 47 XMass.zero.cells := by rw [hW]; exact (B3.alloc _).alloc _
    have B4 : Blk W5 (W4.heap.size) 24 m0.cells := by rw [hW]; exact (Blk.new (by simp)).alloc _
    have B5 : Blk W5 (W4.heap.size + 1) 24 d0.cells := by rw [hW]; exact Blk.new (by simp)
    replace E : Ext w W5 := by rw [hW]; exact Ext.alloc' (Ext.alloc' E _) _
    replace M_m0 : m0.mine W5 w.heap.size := by rw [hW]; exact M_m0.ext (Ext.alloc' (Ext.alloc' (Ext.refl _) _) _)
    replace M_d0 : d0.mine W5 w.heap.size := by rw [hW]; exact M_d0.ext (Ext.alloc' (Ext.alloc' (Ext.refl _) _) _)
    clear hW
    refine (ref16_Middle x.a y.a _ (HX.out.ext E).a (HY.out.ext E).a ((FX.out).2.2.2) ((FY.out).2.2.2) P1.out.1 P1.out.2).mono ?_
    rw [G1.out]
    rintro e W6 ⟨m1, d1, rfl, hd0, hd1, hm0, hm1, hE⟩
    have hz := E.size
    replace B0 := B0.ext hE
    replace B1 := B1.ext hE
    replace B2 := B2.ext hE
    replace B3 := B3.ext hE
    replace B4 := B4.ext hE
    replace B5 := B5.ext hE
    replace M_m0 := M_m0.ext hE
    replace M_d0 := M_d0.ext hE
    replace E := E.trans hE
    clear hE
    have M_m1 : m1.mine W6 w.heap.size := XDyad.mine.lower hm0 hz
    have D_m1 := Lib.hid hd0
    have F_m1 : Hid (Fine m1.data) := Lib.hid (by rw [hd0]; exact (middleD_fine _ _).1)
    have M_d1 : d1.mine W6 w.heap.size := XDyad.mine.lower hm1 hz
    have D_d1 := Lib.hid hd1
    have F_d1 : Hid (Fine d1.data) := Lib.hid (by rw [hd1]; exact (middleD_fine _ _).2)
    clear hd0 hm0 hd1 hm1 hz
    have L6_5 := B5.lt
    go_wp2_with fail
    refine wp_nm fun W7 hW => ?_
    replace B0 : Blk W7 (w.heap.size) 47 x.cells := by rw [hW]; exact (B0.alloc _).alloc _
    replace B1 : Blk W7 (w.heap.size + 1) 47 y.cells := by rw [hW]; exact (B1.alloc _).alloc _
    replace B2 : Blk W7 (w.heap.size + 2) 47 XMass.zero.cells := by rw [hW]; exact (B2.alloc _).alloc _
    replace B3 : Blk W7 (w.heap.size + 3) 47 XMass.zero.cells := by rw [hW]; exact (B3.alloc _).alloc _
    replace B4 : Blk W7 (W4.heap.size) 24 m0.cells := by rw [hW]; exact (B4.alloc _).alloc _
    replace B5 : Blk W7 (W4.heap.size + 1) 24 d0.cells := by rw [hW]; exact (B5.alloc _).alloc _
    have B6 : Blk W7 (W6.heap.size) 24 m1.cells := by rw [hW]; exact (Blk.new (by simp)).alloc _
    have B7 : Blk W7 (W6.heap.size + 1) 24 d1.cells := by rw [hW]; exact Blk.new (by simp)
    replace E : Ext w W7 := by rw [hW]; exact Ext.alloc' (Ext.alloc' E _) _
    replace M_m0 : m0.mine W7 w.heap.size := by rw [hW]; exact M_m0.ext (Ext.alloc' (Ext.alloc' (Ext.refl _) _) _)
    replace M_d0 : d0.mine W7 w.heap.size := by rw [hW]; exact M_d0.ext (Ext.alloc' (Ext.alloc' (Ext.refl _) _) _)
    replace M_m1 : m1.mine W7 w.heap.size := by rw [hW]; exact M_m1.ext (Ext.alloc' (Ext.alloc' (Ext.refl _) _) _)
    replace M_d1 : d1.mine W7 w.heap.size := by rw [hW]; exact M_d1.ext (Ext.alloc' (Ext.alloc' (Ext.refl _) _) _)
    clear hW
    refine FG.wp_region_flowTail 12 (fun w' => W7.heap.size ≤ w'.heap.size ∧ Blk w' (W4.heap.size + 1) 24 d0.cells ∧ Blk w' (W6.heap.size + 1) 24 d1.cells) (Ext W7) Ext (chK W7 [7] [11] [1, 3, 4, 5] []) [7] (by kernel_rfl) (by kernel_rfl) (by kernel_rfl) (fun _ _ h => Ext.size h) ⟨Nat.le_refl _, Blk.drew B5, Blk.drew B7⟩ (chK_early (Ext.drew _)) (Ext.drew _) (fun _ _ h k => h.trans k) ?_
    iterate 1 (refine FG.ftext_det rfl rfl ?_; apply Exists.intro; refine ⟨fun w hC => ?_, fun K hK => ?_⟩; (first | (go_simp; exact rfl) | (go_simp; exact ⟨rfl, rfl⟩) | (go_simp; exact trivial)); go_simp; refine hK _ ?_; clear hK K)
    refine FG.ftext_load_early (Ext W7) 24 _ rfl rfl rfl (w.heap.size + 1) (0) (y.s.cells) rfl aggDyad (fun w1 _ hE => Blk.at (n := 3) (B1.ext hE) rfl) (fun K hK => ?_)
    go_simp; refine hK _ ?_; clear hK K
    iterate 1 (refine FG.ftext_det rfl rfl ?_; apply Exists.intro; refine ⟨fun w hC => ?_, fun K hK => ?_⟩; (first | (go_simp; exact rfl) | (go_simp; exact ⟨rfl, rfl⟩) | (go_simp; exact trivial)); go_simp; refine hK _ ?_; clear hK K)
    refine FG.ftext_load_early (Ext W7) 24 _ rfl rfl rfl (w.heap.size + 1) (3) (y.w.cells) rfl aggDyad (fun w1 _ hE => Blk.at (n := 3) (B1.ext hE) rfl) (fun K hK => ?_)
    go_simp; refine hK _ ?_; clear hK K
    refine FG.ftext_load_early (Ext W7) 24 _ rfl rfl rfl (W4.heap.size) (0) (m0.cells) rfl aggDyad (fun w1 _ hE => Blk.at (n := 3) (B4.ext hE) rfl) (fun K hK => ?_)
    go_simp; refine hK _ ?_; clear hK K
    refine FG.ftext_load_early (Ext W7) 24 _ rfl rfl rfl (W6.heap.size) (0) (m1.cells) rfl aggDyad (fun w1 _ hE => Blk.at (n := 3) (B6.ext hE) rfl) (fun K hK => ?_)
    go_simp; refine hK _ ?_; clear hK K
    iterate 1 (refine FG.ftext_det rfl rfl ?_; apply Exists.intro; refine ⟨fun w hC => ?_, fun K hK => ?_⟩; (first | (go_simp; exact rfl) | (go_simp; exact ⟨rfl, rfl⟩) | (go_simp; exact trivial)); go_simp; refine hK _ ?_; clear hK K)
    refine FG.ftext_seq (fun v => ∃ (t_0 : Bool) (t_1 : Option Addr) (t_2 t_3 : Nat) (t_4 : Int) (t_5 : Bool) (t_6 : Option Addr) (t_7 t_8 : Nat) (t_9 : Int) (t_10 : Bool) (t_11 : Option Addr) (t_12 t_13 : Nat) (t_14 : Int) (t_15 : Bool) (t_16 : Option Addr) (t_17 t_18 : Nat) (t_19 : Int), v = .agg #[.bool t_0, .slice t_1 t_2 t_3, .int .i64 t_4, .bool t_5, .slice t_6 t_7 t_8, .int .i64 t_9, .bool t_10, .slice t_11 t_12 t_13, .int .i64 t_14, .bool t_15, .slice t_16 t_17 t_18, .int .i64 t_19]) (fun v W' => ∃ (t : XMass), v = .agg #[.bool t.s.neg, .slice t.s.limbs.A t.s.limbs.l.length t.s.limbs.c, .int .i64 t.s.exp, .bool t.w.neg, .slice t.w.limbs.A t.w.limbs.l.length t.w.limbs.c, .int .i64 t.w.exp, .bool t.c.neg, .slice t.c.limbs.A t.c.limbs.l.length t.c.limbs.c, .int .i64 t.c.exp, .bool t.a.neg, .slice t.a.limbs.A t.a.limbs.l.length t.a.limbs.c, .int .i64 t.a.exp] ∧ t.data = (⟨y.s, y.w, m0, m1⟩ : XMass).data ∧ t.mine W' W7.heap.size ∧ Ext W7 W') rfl rfl ⟨_, false, none, 0, 0, 0, false, none, 0, 0, 0, false, none, 0, 0, 0, false, none, 0, 0, 0, rfl⟩ (fun v w1 w2 h hR => ?_) (fun w1 hC hJ hF Φ hΦ => ?_) (fun v hv K hK => ?_)
    · obtain ⟨t, hv0, f0_t, f1_t, jE⟩ := h
      exact ⟨t, hv0, f0_t, f1_t.ext hR, jE.trans hR⟩
    · have jE := hJ
      go_simp
      refine (ref06_Twin ((⟨y.s, y.w, m0, m1⟩ : XMass)) _ ⟨(HY.out.ext (E.trans jE)).s, (HY.out.ext (E.trans jE)).w, ((M_m0.ext jE).ok), ((M_m1.ext jE).ok)⟩ (FineM.small ((⟨(FY.out).1, (FY.out).2.1, F_m0.out, F_m1.out⟩)))).mono ?_
      rintro e w2 ⟨t, rfl, hd0, hm0, hE⟩
      exact ⟨_, rfl, hΦ _ _ ⟨_, _, _, _, _, _, _, _, _, _, _, _, _, _, _, _, _, _, _, _, rfl⟩ ⟨Nat.le_trans hC.1 (Ext.size hE), hC.2.1.ext hE, hC.2.2.ext hE⟩ hE ⟨t, rfl, hd0, (XMass.mine.lower hm0 (Ext.size jE)), jE.trans hE⟩⟩
    obtain ⟨t_0, t_1, t_2, t_3, t_4, t_5, t_6, t_7, t_8, t_9, t_10, t_11, t_12, t_13, t_14, t_15, t_16, t_17, t_18, t_19, rfl⟩ := hv
    go_simp; refine hK _ ?_; clear hK K
    refine FG.ftext_load_row 24 _ rfl rfl rfl (W4.heap.size + 1) (0) (d0.cells) rfl aggDyad (fun w1 hC => Blk.at (n := 3) hC.2.1 rfl) (fun K hK => ?_)
    go_simp; refine hK _ ?_; clear hK K
    refine FG.ftext_load_row 24 _ rfl rfl rfl (W6.heap.size + 1) (0) (d1.cells) rfl aggDyad (fun w1 hC => Blk.at (n := 3) hC.2.2 rfl) (fun K hK => ?_)
    go_simp; refine hK _ ?_; clear hK K
    iterate 1 (refine FG.ftext_det rfl rfl ?_; apply Exists.intro; refine ⟨fun w hC => ?_, fun K hK => ?_⟩; (first | (go_simp; exact rfl) | (go_simp; exact ⟨rfl, rfl⟩) | (go_simp; exact trivial)); go_simp; refine hK _ ?_; clear hK K)
    refine FG.ftext_store 47 _ _ (fun W' => ∃ (t : XMass) (V0 : World), (.agg #[.bool t_0, .slice t_1 t_2 t_3, .int .i64 t_4, .bool t_5, .slice t_6 t_7 t_8, .int .i64 t_9, .bool t_10, .slice t_11 t_12 t_13, .int .i64 t_14, .bool t_15, .slice t_16 t_17 t_18, .int .i64 t_19] : Value) = .agg #[.bool t.s.neg, .slice t.s.limbs.A t.s.limbs.l.length t.s.limbs.c, .int .i64 t.s.exp, .bool t.w.neg, .slice t.w.limbs.A t.w.limbs.l.length t.w.limbs.c, .int .i64 t.w.exp, .bool t.c.neg, .slice t.c.limbs.A t.c.limbs.l.length t.c.limbs.c, .int .i64 t.c.exp, .bool t.a.neg, .slice t.a.limbs.A t.a.limbs.l.length t.a.limbs.c, .int .i64 t.a.exp] ∧ t.data = (⟨y.s, y.w, m0, m1⟩ : XMass).data ∧ t.mine V0 W7.heap.size ∧ Ext W7 V0 ∧ Blk W' (w.heap.size + 2) 47 t.cells ∧ Only V0 W' (w.heap.size + 2)) rfl rfl rfl (fun w1 hC hJ hF => ?_) (fun K hK => ?_)
    · obtain ⟨t, q_t, f0_t, f1_t, jE⟩ := hJ
      obtain ⟨rfl, rfl, rfl, rfl, rfl, rfl, rfl, rfl, rfl, rfl, rfl, rfl, rfl, rfl, rfl, rfl, rfl, rfl, rfl, rfl⟩ := eqMass q_t
      exact ⟨w.heap.size + 2, 0, 47, XMass.zero.cells, t.cells, rfl, rfl, aggMass, (B2.ext jE), Nat.le_of_ble_eq_true rfl, rfl, fun w' BR hO => ⟨⟨by show _ ≤ _; rw [hO.size]; exact hC.1, Blk.only hC.2.1 hO (by omega), Blk.only hC.2.2 hO (by omega)⟩, t, w1, rfl, f0_t, f1_t, jE, BR, hO⟩⟩
    go_simp; refine hK _ ?_; clear hK K
    refine FG.ftext_nil ?_
    rintro W8 _ ⟨t, V0, q_t, f0_t, f1_t, jE, jB0, jO0⟩ hF
    clear hF
    obtain ⟨rfl, rfl, rfl, rfl, rfl, rfl, rfl, rfl, rfl, rfl, rfl, rfl, rfl, rfl, rfl, rfl, rfl, rfl, rfl, rfl⟩ := eqMass q_t
    have hz := E.size
    replace M_m0 : m0.mine W8 w.heap.size := ((M_m0.ext jE).only (B2.ext jE) jO0 jB0 rfl (by decide))
    replace M_d0 : d0.mine W8 w.heap.size := ((M_d0.ext jE).only (B2.ext jE) jO0 jB0 rfl (by decide))
    replace M_m1 : m1.mine W8 w.heap.size := ((M_m1.ext jE).only (B2.ext jE) jO0 jB0 rfl (by decide))
    replace M_d1 : d1.mine W8 w.heap.size := ((M_d1.ext jE).only (B2.ext jE) jO0 jB0 rfl (by decide))
    have M_t : t.mine W8 w.heap.size := XMass.mine.lower (f1_t.only (B2.ext jE) jO0 jB0 rfl (by decide)) hz
    have D_t := Lib.hid f0_t
    have F_t : Hid (FineM t.data) := Lib.hid (by rw [f0_t]; exact ⟨(FY.out).1, (FY.out).2.1, F_m0.out, F_m1.out⟩)
    replace B0 : Blk W8 (w.heap.size) 47 x.cells := (Blk.only (B0.ext jE) jO0 (by omega))
    replace B1 : Blk W8 (w.heap.size + 1) 47 y.cells := (Blk.only (B1.ext jE) jO0 (by omega))
    replace B2 : Blk W8 (w.heap.size + 2) 47 t.cells := jB0
    replace B3 : Blk W8 (w.heap.size + 3) 47 XMass.zero.cells := (Blk.only (B3.ext jE) jO0 (by omega))
    replace B4 : Blk W8 (W4.heap.size) 24 m0.cells := (Blk.only (B4.ext jE) jO0 (by omega))
    replace B5 : Blk W8 (W4.heap.size + 1) 24 d0.cells := (Blk.only (B5.ext jE) jO0 (by omega))
    replace B6 : Blk W8 (W6.heap.size) 24 m1.cells := (Blk.only (B6.ext jE) jO0 (by omega))
    replace B7 : Blk W8 (W6.heap.size + 1) 24 d1.cells := (Blk.only (B7.ext jE) jO0 (by omega))
    replace E : Ext w W8 := Only.ext (E.trans jE) jO0 (by omega)
    clear hz jE jB0 jO0 f0_t f1_t q_t
    simp only [List.drop_succ_cons, List.drop_zero]
    gi_wp2_with (first | ((with_reducible refine stIn Open.wide (B3) (0) ((⟨XDyad.zero, XDyad.zero, d0, d1⟩ : XMass).cells) 47 (.tmp 5) (.tmp 60) ?_ ?_ ?_ ?_ ?_ ?_ ?_ fun W9 BR9 hO9 => ?_); (exact rfl); ((iterate 4 exact rfl); exact Nat.le_of_ble_eq_true rfl; exact aggMass; replace M_m0 := M_m0.only (B3) hO9 BR9 rfl (by decide); replace M_d0 := M_d0.only (B3) hO9 BR9 rfl (by decide); replace M_m1 := M_m1.only (B3) hO9 BR9 rfl (by decide); replace M_d1 := M_d1.only (B3) hO9 BR9 rfl (by decide); replace M_t := M_t.only (B3) hO9 BR9 rfl (by decide); replace E := Only.ext (E) hO9 (by omega); replace B0 := Blk.only (B0) hO9 (by omega); replace B1 := Blk.only (B1) hO9 (by omega); replace B2 := Blk.only (B2) hO9 (by omega); replace B4 := Blk.only (B4) hO9 (by omega); replace B5 := Blk.only (B5) hO9 (by omega); replace B6 := Blk.only (B6) hO9 (by omega); replace B7 := Blk.only (B7) hO9 (by omega); replace B3 : Blk W9 (w.heap.size + 3) 47 (⟨XDyad.zero, XDyad.zero, d0, d1⟩ : XMass).cells := BR9; clear BR9 hO9)) | fail)
    go_wp2_with fail
    exact bodyPost_ret (results_cct rfl rfl (B2) aggMass rfl (B3) aggMass) rfl ⟨t, ⟨XDyad.zero, XDyad.zero, d0, d1⟩, by rw [HR.out] <;> rfl, by rw [HR.out, D_t.out, ← D_m0.out, ← D_m1.out] <;> rfl, by rw [HR.out, ← D_d0.out, ← D_d1.out] <;> rfl, M_t, ⟨XDyad.zero_mine _ _, XDyad.zero_mine _ _, M_d0, M_d1⟩, E⟩
  · have HR : Hid (meetM x.data y.data = (PMass.zero, PMass.zero, 10)) := Lib.hid (by unfold meetM; rw [if_pos ⟨q0, q1⟩, if_neg]; intro h; exact hz ⟨h0.symm.trans h.1, h1.symm.trans h.2⟩)
    have hmx := @run_max2 Tryd.prog _ _ t0 t1 hz
    clear q0 q1 h0 h1 t0 t1 hz
    go_enter Tryd.func53, Tryd.ntmps53
    go_wp2_with fail
    refine calls_nm fun W1 hW => ?_
    have B0 : Blk W1 (w.heap.size) 47 x.cells := by rw [hW]; exact (((Blk.new (by simp)).alloc _).alloc _).alloc _
    have B1 : Blk W1 (w.heap.size + 1) 47 y.cells := by rw [hW]; exact ((Blk.new (by simp)).alloc _).alloc _
    have B2 : Blk W1 (w.heap.size + 2) 47 XMass.zero.cells := by rw [hW]; exact (Blk.new (by simp)).alloc _
    have B3 : Blk W1 (w.heap.size + 3) 47 XMass.zero.cells := by rw [hW]; exact Blk.new (by simp)
    have E : Ext w W1 := by rw [hW]; exact Ext.alloc' (Ext.alloc' (Ext.alloc' (Ext.alloc' (Ext.refl _) _) _) _) _
    clear hW
    refine (ref06_May x _ (HX.out.ext E)).mono ?_
    rw [C0.out]
    rintro e W2 ⟨rfl, hE⟩
    replace B0 := B0.ext hE
    replace B1 := B1.ext hE
    replace B2 := B2.ext hE
    replace B3 := B3.ext hE
    replace E := E.trans hE
    clear hE
    go_wp2_with (first | ((with_reducible refine ld B1 (0) y.cells 47 (.tmp 3) ?_ ?_ ?_ ?_ ?_ ?_); (exact rfl); ((iterate 2 exact rfl); exact rfl; exact aggMass)) | fail)
    refine (ref06_May y _ (HY.out.ext E)).mono ?_
    rw [C1.out]
    rintro e W3 ⟨rfl, hE⟩
    replace B0 := B0.ext hE
    replace B1 := B1.ext hE
    replace B2 := B2.ext hE
    replace B3 := B3.ext hE
    replace E := E.trans hE
    clear hE
    go_wp2_with (first | ((with_reducible refine ld B0 (6) x.c.cells 24 (.tmp 24) ?_ ?_ ?_ ?_ ?_ ?_); (exact rfl); ((iterate 2 exact rfl); exact rfl; exact aggDyad)) | ((with_reducible refine ld B1 (6) y.c.cells 24 (.tmp 26) ?_ ?_ ?_ ?_ ?_ ?_); (exact rfl); ((iterate 2 exact rfl); exact rfl; exact aggDyad)) | fail)
    refine (ref16_Middle x.c y.c _ (HX.out.ext E).c (HY.out.ext E).c ((FX.out).2.2.1) ((FY.out).2.2.1) P0.out.1 P0.out.2).mono ?_
    rw [G0.out]
    rintro e W4 ⟨m0, d0, rfl, hd0, hd1, hm0, hm1, hE⟩
    have hz := E.size
    replace B0 := B0.ext hE
    replace B1 := B1.ext hE
    replace B2 := B2.ext hE
    replace B3 := B3.ext hE
    replace E := E.trans hE
    clear hE
    have M_m0 : m0.mine W4 w.heap.size := XDyad.mine.lower hm0 hz
    have D_m0 := Lib.hid hd0
    have F_m0 : Hid (Fine m0.data) := Lib.hid (by rw [hd0]; exact (middleD_fine _ _).1)
    have M_d0 : d0.mine W4 w.heap.size := XDyad.mine.lower hm1 hz
    have D_d0 := Lib.hid hd1
    have F_d0 : Hid (Fine d0.data) := Lib.hid (by rw [hd1]; exact (middleD_fine _ _).2)
    clear hd0 hm0 hd1 hm1 hz
    have L4_3 := B3.lt
    go_wp2_with (first | ((with_reducible refine ld ((B0.alloc _).alloc _) (9) x.a.cells 24 (.tmp 33) ?_ ?_ ?_ ?_ ?_ ?_); (exact rfl); ((iterate 2 exact rfl); exact rfl; exact aggDyad)) | ((with_reducible refine ld ((B1.alloc _).alloc _) (9) y.a.cells 24 (.tmp 35) ?_ ?_ ?_ ?_ ?_ ?_); (exact rfl); ((iterate 2 exact rfl); exact rfl; exact aggDyad)) | fail)
    refine calls_nm fun W5 hW => ?_
    replace B0 : Blk W5 (w.heap.size) 47 x.cells := by rw [hW]; exact (B0.alloc _).alloc _
    replace B1 : Blk W5 (w.heap.size + 1) 47 y.cells := by rw [hW]; exact (B1.alloc _).alloc _
    replace B2 : Blk W5 (w.heap.size + 2) 47 XMass.zero.cells := by rw [hW]; exact (B2.alloc _).alloc _
    replace B3 : Blk W5 (w.heap.size + 3) 47 XMass.zero.cells := by rw [hW]; exact (B3.alloc _).alloc _
    have B4 : Blk W5 (W4.heap.size) 24 m0.cells := by rw [hW]; exact (Blk.new (by simp)).alloc _
    have B5 : Blk W5 (W4.heap.size + 1) 24 d0.cells := by rw [hW]; exact Blk.new (by simp)
    replace E : Ext w W5 := by rw [hW]; exact Ext.alloc' (Ext.alloc' E _) _
    replace M_m0 : m0.mine W5 w.heap.size := by rw [hW]; exact M_m0.ext (Ext.alloc' (Ext.alloc' (Ext.refl _) _) _)
    replace M_d0 : d0.mine W5 w.heap.size := by rw [hW]; exact M_d0.ext (Ext.alloc' (Ext.alloc' (Ext.refl _) _) _)
    clear hW
    refine (ref16_Middle x.a y.a _ (HX.out.ext E).a (HY.out.ext E).a ((FX.out).2.2.2) ((FY.out).2.2.2) P1.out.1 P1.out.2).mono ?_
    rw [G1.out]
    rintro e W6 ⟨m1, d1, rfl, hd0, hd1, hm0, hm1, hE⟩
    have hz := E.size
    replace B0 := B0.ext hE
    replace B1 := B1.ext hE
    replace B2 := B2.ext hE
    replace B3 := B3.ext hE
    replace B4 := B4.ext hE
    replace B5 := B5.ext hE
    replace M_m0 := M_m0.ext hE
    replace M_d0 := M_d0.ext hE
    replace E := E.trans hE
    clear hE
    have M_m1 : m1.mine W6 w.heap.size := XDyad.mine.lower hm0 hz
    have D_m1 := Lib.hid hd0
    have F_m1 : Hid (Fine m1.data) := Lib.hid (by rw [hd0]; exact (middleD_fine _ _).1)
    have M_d1 : d1.mine W6 w.heap.size := XDyad.mine.lower hm1 hz
    have D_d1 := Lib.hid hd1
    have F_d1 : Hid (Fine d1.data) := Lib.hid (by rw [hd1]; exact (middleD_fine _ _).2)
    clear hd0 hm0 hd1 hm1 hz
    have L6_5 := B5.lt
    go_wp2_with (first | ((with_reducible refine st ((B2.alloc _).alloc _) (0) XMass.zero.cells 47 (.tmp 4) (.tmp 45) ?_ ?_ ?_ ?_ ?_ ?_ ?_ fun W7 BR7 hO7 => ?_); (exact rfl); ((iterate 4 exact rfl); exact Nat.le_of_ble_eq_true rfl; exact aggMass; replace M_m0 := (M_m0.ext (Ext.alloc' (Ext.alloc' (Ext.refl _) _) _)).only ((B2.alloc _).alloc _) hO7 BR7 rfl (by decide); replace M_d0 := (M_d0.ext (Ext.alloc' (Ext.alloc' (Ext.refl _) _) _)).only ((B2.alloc _).alloc _) hO7 BR7 rfl (by decide); replace M_m1 := (M_m1.ext (Ext.alloc' (Ext.alloc' (Ext.refl _) _) _)).only ((B2.alloc _).alloc _) hO7 BR7 rfl (by decide); replace M_d1 := (M_d1.ext (Ext.alloc' (Ext.alloc' (Ext.refl _) _) _)).only ((B2.alloc _).alloc _) hO7 BR7 rfl (by decide); replace E := Only.ext (Ext.alloc' (Ext.alloc' E _) _) hO7 (by omega); replace B0 := Blk.only ((B0.alloc _).alloc _) hO7 (by omega); replace B1 := Blk.only ((B1.alloc _).alloc _) hO7 (by omega); replace B3 := Blk.only ((B3.alloc _).alloc _) hO7 (by omega); replace B4 := Blk.only ((B4.alloc _).alloc _) hO7 (by omega); replace B5 := Blk.only ((B5.alloc _).alloc _) hO7 (by omega); have B6 : Blk W7 (W6.heap.size) 24 m1.cells := Blk.only ((Blk.new (by simp)).alloc _) hO7 (by omega); have B7 : Blk W7 (W6.heap.size + 1) 24 d1.cells := Blk.only (Blk.new (by simp)) hO7 (by omega); replace B2 : Blk W7 (w.heap.size + 2) 47 XMass.zero.cells := BR7; clear BR7 hO7)) | ((with_reducible refine st (B3) (0) XMass.zero.cells 47 (.tmp 5) (.tmp 46) ?_ ?_ ?_ ?_ ?_ ?_ ?_ fun W8 BR8 hO8 => ?_); (exact rfl); ((iterate 4 exact rfl); exact Nat.le_of_ble_eq_true rfl; exact aggMass; replace M_m0 := M_m0.only (B3) hO8 BR8 rfl (by decide); replace M_d0 := M_d0.only (B3) hO8 BR8 rfl (by decide); replace M_m1 := M_m1.only (B3) hO8 BR8 rfl (by decide); replace M_d1 := M_d1.only (B3) hO8 BR8 rfl (by decide); replace E := Only.ext (E) hO8 (by omega); replace B0 := Blk.only (B0) hO8 (by omega); replace B1 := Blk.only (B1) hO8 (by omega); replace B2 := Blk.only (B2) hO8 (by omega); replace B4 := Blk.only (B4) hO8 (by omega); replace B5 := Blk.only (B5) hO8 (by omega); replace B6 := Blk.only (B6) hO8 (by omega); replace B7 := Blk.only (B7) hO8 (by omega); replace B3 : Blk W8 (w.heap.size + 3) 47 XMass.zero.cells := BR8; clear BR8 hO8)) | fail)
    exact bodyPost_ret (results_cct rfl rfl (B2) aggMass rfl (B3) aggMass) rfl ⟨XMass.zero, XMass.zero, by rw [HR.out] <;> rfl, by rw [HR.out] <;> rfl, by rw [HR.out] <;> rfl, XMass.zero_mine _ _, XMass.zero_mine _ _, E⟩
end Go.Proofs.YtgcbnagfdfgpnaaDoor
