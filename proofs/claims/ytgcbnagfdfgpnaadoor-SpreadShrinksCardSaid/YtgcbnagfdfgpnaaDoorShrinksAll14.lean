/- Parts of a proof, joined: Ref06, MidD. -/
import Derived.Test.YtgcbnagfdfgpnaaDoorShrinksAll29
import Derived.Test.YtgcbnagfdfgpnaaDoorShrinksAll30
import Derived.Test.YtgcbnagfdfgpnaaDoorShrinksAll9
section
namespace Go.Hx
open Go.RowKit
theorem Fine.small {x : PDyad} (h : Fine x) : x.small := Nat.le_trans h.2 (by decide)
theorem FineM.small {x : PMass} (h : FineM x) : x.small := ⟨h.1.small, h.2.1.small, h.2.2.1.small, h.2.2.2.small⟩
theorem OkD.two {p : PDyad × Int} (h : OkD p) : p.2 = 0 ∨ p.2 = 10 := h.imp (fun h => h.1) id
section
variable {P : Program}
theorem run_max2 {e f : Int} (he : e = 0 ∨ e = 10) (hf : f = 0 ∨ f = 10) (hn : ¬ (e = 0 ∧ f = 0)) (ts : Array TypeId) (t : TypeId) (w : World) : (Builtin.max_ ts t #[.int .i64 e, .int .i64 f]).run P w = .ok (.int .i64 10) w := by
  rcases he with rfl | rfl <;> rcases hf with rfl | rfl <;> first | exact absurd ⟨rfl, rfl⟩ hn | simp [Builtin.max_, Builtin.max2]
theorem run_max4 {e f g h : Int} (he : e = 0 ∨ e = 10) (hf : f = 0 ∨ f = 10) (hg : g = 0 ∨ g = 10) (hh : h = 0 ∨ h = 10) (hn : ¬ (e = 0 ∧ f = 0 ∧ g = 0 ∧ h = 0)) (ts : Array TypeId) (t : TypeId) (w : World) : (Builtin.max_ ts t #[.int .i64 e, .int .i64 f, .int .i64 g, .int .i64 h]).run P w = .ok (.int .i64 10) w := by
  rcases he with rfl | rfl <;> rcases hf with rfl | rfl <;> rcases hg with rfl | rfl <;> rcases hh with rfl | rfl <;> first | exact absurd ⟨rfl, rfl, rfl, rfl⟩ hn | simp [Builtin.max_, Builtin.max2]
theorem run_max4z (ts : Array TypeId) (t : TypeId) (w : World) : (Builtin.max_ ts t #[.int .i64 0, .int .i64 0, .int .i64 0, .int .i64 0]).run P w = .ok (.int .i64 0) w := by
  simp [Builtin.max_, Builtin.max2]
end
end Go.Hx
namespace Go.Proofs.YtgcbnagfdfgpnaaDoor
open Go.RowKit Go.Hx
attribute [local go_sem] XDyad.cells XMass.cells
set_option maxRecDepth 100000 in
set_option maxHeartbeats 4000000 in
theorem ref06_May (x : XMass) (w : World) (hx : x.ok w w.heap.size) :
    Calls Tryd.prog 52 #[.agg #[.bool x.s.neg, .slice x.s.limbs.A x.s.limbs.l.length x.s.limbs.c, .int .i64 x.s.exp, .bool x.w.neg, .slice x.w.limbs.A x.w.limbs.l.length x.w.limbs.c, .int .i64 x.w.exp, .bool x.c.neg, .slice x.c.limbs.A x.c.limbs.l.length x.c.limbs.c, .int .i64 x.c.exp, .bool x.a.neg, .slice x.a.limbs.A x.a.limbs.l.length x.a.limbs.c, .int .i64 x.a.exp]] w fun e w' => e = .returned (.bool (decide (mayM x.data))) ∧ Ext w w' := by
  have HX := Lib.hid hx
  clear hx
  by_cases q0 : mayD x.s.data
  rotate_left
  · have HR : Hid (decide (mayM x.data) = false) := Lib.hid (by rw [decide_eq_false]; exact fun h => q0 h.1)
    have C0 := Lib.hid (decide_eq_false q0)
    clear q0
    go_enter Tryd.func52, Tryd.ntmps52
    go_wp2_with fail
    refine calls_nm fun W1 hW => ?_
    have B0 : Blk W1 (w.heap.size) 47 x.cells := by rw [hW]; exact Blk.new (by simp)
    have E : Ext w W1 := by rw [hW]; exact Ext.alloc' (Ext.refl _) _
    clear hW
    refine (ref02_May x.s _ (HX.out.ext E).s).mono ?_
    rw [C0.out]
    rintro e W2 ⟨rfl, hE⟩
    replace B0 := B0.ext hE
    replace E := E.trans hE
    clear hE
    go_wp2_with fail
    go_ret
    exact ⟨by rw [HR.out] <;> rfl, E⟩
  by_cases q1 : mayD x.w.data
  rotate_left
  · have HR : Hid (decide (mayM x.data) = false) := Lib.hid (by rw [decide_eq_false]; exact fun h => q1 h.2.1)
    have C0 := Lib.hid (decide_eq_true q0)
    have C1 := Lib.hid (decide_eq_false q1)
    clear q0 q1
    go_enter Tryd.func52, Tryd.ntmps52
    go_wp2_with fail
    refine calls_nm fun W1 hW => ?_
    have B0 : Blk W1 (w.heap.size) 47 x.cells := by rw [hW]; exact Blk.new (by simp)
    have E : Ext w W1 := by rw [hW]; exact Ext.alloc' (Ext.refl _) _
    clear hW
    refine (ref02_May x.s _ (HX.out.ext E).s).mono ?_
    rw [C0.out]
    rintro e W2 ⟨rfl, hE⟩
    replace B0 := B0.ext hE
    replace E := E.trans hE
    clear hE
    go_wp2_with (first | ((with_reducible refine ld B0 (3) x.w.cells 24 (.tmp 7) ?_ ?_ ?_ ?_ ?_ ?_); (exact rfl); ((iterate 2 exact rfl); exact rfl; exact aggDyad)) | fail)
    refine (ref02_May x.w _ (HX.out.ext E).w).mono ?_
    rw [C1.out]
    rintro e W3 ⟨rfl, hE⟩
    replace B0 := B0.ext hE
    replace E := E.trans hE
    clear hE
    go_wp2_with fail
    go_ret
    exact ⟨by rw [HR.out] <;> rfl, E⟩
  by_cases q2 : mayD x.c.data
  rotate_left
  · have HR : Hid (decide (mayM x.data) = false) := Lib.hid (by rw [decide_eq_false]; exact fun h => q2 h.2.2.1)
    have C0 := Lib.hid (decide_eq_true q0)
    have C1 := Lib.hid (decide_eq_true q1)
    have C2 := Lib.hid (decide_eq_false q2)
    clear q0 q1 q2
    go_enter Tryd.func52, Tryd.ntmps52
    go_wp2_with fail
    refine calls_nm fun W1 hW => ?_
    have B0 : Blk W1 (w.heap.size) 47 x.cells := by rw [hW]; exact Blk.new (by simp)
    have E : Ext w W1 := by rw [hW]; exact Ext.alloc' (Ext.refl _) _
    clear hW
    refine (ref02_May x.s _ (HX.out.ext E).s).mono ?_
    rw [C0.out]
    rintro e W2 ⟨rfl, hE⟩
    replace B0 := B0.ext hE
    replace E := E.trans hE
    clear hE
    go_wp2_with (first | ((with_reducible refine ld B0 (3) x.w.cells 24 (.tmp 7) ?_ ?_ ?_ ?_ ?_ ?_); (exact rfl); ((iterate 2 exact rfl); exact rfl; exact aggDyad)) | fail)
    refine (ref02_May x.w _ (HX.out.ext E).w).mono ?_
    rw [C1.out]
    rintro e W3 ⟨rfl, hE⟩
    replace B0 := B0.ext hE
    replace E := E.trans hE
    clear hE
    go_wp2_with (first | ((with_reducible refine ld B0 (6) x.c.cells 24 (.tmp 12) ?_ ?_ ?_ ?_ ?_ ?_); (exact rfl); ((iterate 2 exact rfl); exact rfl; exact aggDyad)) | fail)
    refine (ref02_May x.c _ (HX.out.ext E).c).mono ?_
    rw [C2.out]
    rintro e W4 ⟨rfl, hE⟩
    replace B0 := B0.ext hE
    replace E := E.trans hE
    clear hE
    go_wp2_with fail
    go_ret
    exact ⟨by rw [HR.out] <;> rfl, E⟩
  by_cases q3 : mayD x.a.data
  rotate_left
  · have HR : Hid (decide (mayM x.data) = false) := Lib.hid (by rw [decide_eq_false]; exact fun h => q3 h.2.2.2)
    have C0 := Lib.hid (decide_eq_true q0)
    have C1 := Lib.hid (decide_eq_true q1)
    have C2 := Lib.hid (decide_eq_true q2)
    have C3 := Lib.hid (decide_eq_false q3)
    clear q0 q1 q2 q3
    go_enter Tryd.func52, Tryd.ntmps52
    go_wp2_with fail
    refine calls_nm fun W1 hW => ?_
    have B0 : Blk W1 (w.heap.size) 47 x.cells := by rw [hW]; exact Blk.new (by simp)
    have E : Ext w W1 := by rw [hW]; exact Ext.alloc' (Ext.refl _) _
    clear hW
    refine (ref02_May x.s _ (HX.out.ext E).s).mono ?_
    rw [C0.out]
    rintro e W2 ⟨rfl, hE⟩
    replace B0 := B0.ext hE
    replace E := E.trans hE
    clear hE
    go_wp2_with (first | ((with_reducible refine ld B0 (3) x.w.cells 24 (.tmp 7) ?_ ?_ ?_ ?_ ?_ ?_); (exact rfl); ((iterate 2 exact rfl); exact rfl; exact aggDyad)) | fail)
    refine (ref02_May x.w _ (HX.out.ext E).w).mono ?_
    rw [C1.out]
    rintro e W3 ⟨rfl, hE⟩
    replace B0 := B0.ext hE
    replace E := E.trans hE
    clear hE
    go_wp2_with (first | ((with_reducible refine ld B0 (6) x.c.cells 24 (.tmp 12) ?_ ?_ ?_ ?_ ?_ ?_); (exact rfl); ((iterate 2 exact rfl); exact rfl; exact aggDyad)) | fail)
    refine (ref02_May x.c _ (HX.out.ext E).c).mono ?_
    rw [C2.out]
    rintro e W4 ⟨rfl, hE⟩
    replace B0 := B0.ext hE
    replace E := E.trans hE
    clear hE
    go_wp2_with (first | ((with_reducible refine ld B0 (9) x.a.cells 24 (.tmp 17) ?_ ?_ ?_ ?_ ?_ ?_); (exact rfl); ((iterate 2 exact rfl); exact rfl; exact aggDyad)) | fail)
    refine (ref02_May x.a _ (HX.out.ext E).a).mono ?_
    rw [C3.out]
    rintro e W5 ⟨rfl, hE⟩
    replace B0 := B0.ext hE
    replace E := E.trans hE
    clear hE
    go_wp2_with fail
    go_ret
    exact ⟨by rw [HR.out] <;> rfl, E⟩
  have HR : Hid (decide (mayM x.data) = true) := Lib.hid (by rw [decide_eq_true]; exact ⟨q0, q1, q2, q3⟩)
  have C0 := Lib.hid (decide_eq_true q0)
  have C1 := Lib.hid (decide_eq_true q1)
  have C2 := Lib.hid (decide_eq_true q2)
  have C3 := Lib.hid (decide_eq_true q3)
  clear q0 q1 q2 q3
  go_enter Tryd.func52, Tryd.ntmps52
  go_wp2_with fail
  refine calls_nm fun W1 hW => ?_
  have B0 : Blk W1 (w.heap.size) 47 x.cells := by rw [hW]; exact Blk.new (by simp)
  have E : Ext w W1 := by rw [hW]; exact Ext.alloc' (Ext.refl _) _
  clear hW
  refine (ref02_May x.s _ (HX.out.ext E).s).mono ?_
  rw [C0.out]
  rintro e W2 ⟨rfl, hE⟩
  replace B0 := B0.ext hE
  replace E := E.trans hE
  clear hE
  go_wp2_with (first | ((with_reducible refine ld B0 (3) x.w.cells 24 (.tmp 7) ?_ ?_ ?_ ?_ ?_ ?_); (exact rfl); ((iterate 2 exact rfl); exact rfl; exact aggDyad)) | fail)
  refine (ref02_May x.w _ (HX.out.ext E).w).mono ?_
  rw [C1.out]
  rintro e W3 ⟨rfl, hE⟩
  replace B0 := B0.ext hE
  replace E := E.trans hE
  clear hE
  go_wp2_with (first | ((with_reducible refine ld B0 (6) x.c.cells 24 (.tmp 12) ?_ ?_ ?_ ?_ ?_ ?_); (exact rfl); ((iterate 2 exact rfl); exact rfl; exact aggDyad)) | fail)
  refine (ref02_May x.c _ (HX.out.ext E).c).mono ?_
  rw [C2.out]
  rintro e W4 ⟨rfl, hE⟩
  replace B0 := B0.ext hE
  replace E := E.trans hE
  clear hE
  go_wp2_with (first | ((with_reducible refine ld B0 (9) x.a.cells 24 (.tmp 17) ?_ ?_ ?_ ?_ ?_ ?_); (exact rfl); ((iterate 2 exact rfl); exact rfl; exact aggDyad)) | fail)
  refine (ref02_May x.a _ (HX.out.ext E).a).mono ?_
  rw [C3.out]
  rintro e W5 ⟨rfl, hE⟩
  replace B0 := B0.ext hE
  replace E := E.trans hE
  clear hE
  go_wp2_with fail
  go_ret
  exact ⟨by rw [HR.out] <;> rfl, E⟩
set_option maxRecDepth 100000 in
set_option maxHeartbeats 4000000 in
theorem ref06_Add (x y : XMass) (w : World) (hx : x.ok w w.heap.size) (hy : y.ok w w.heap.size) (fx : FineM x.data) (fy : FineM y.data) :
    Calls Tryd.prog 101 #[.agg #[.bool x.s.neg, .slice x.s.limbs.A x.s.limbs.l.length x.s.limbs.c, .int .i64 x.s.exp, .bool x.w.neg, .slice x.w.limbs.A x.w.limbs.l.length x.w.limbs.c, .int .i64 x.w.exp, .bool x.c.neg, .slice x.c.limbs.A x.c.limbs.l.length x.c.limbs.c, .int .i64 x.c.exp, .bool x.a.neg, .slice x.a.limbs.A x.a.limbs.l.length x.a.limbs.c, .int .i64 x.a.exp], .agg #[.bool y.s.neg, .slice y.s.limbs.A y.s.limbs.l.length y.s.limbs.c, .int .i64 y.s.exp, .bool y.w.neg, .slice y.w.limbs.A y.w.limbs.l.length y.w.limbs.c, .int .i64 y.w.exp, .bool y.c.neg, .slice y.c.limbs.A y.c.limbs.l.length y.c.limbs.c, .int .i64 y.c.exp, .bool y.a.neg, .slice y.a.limbs.A y.a.limbs.l.length y.a.limbs.c, .int .i64 y.a.exp]] w fun e w' => ∃ z : XMass, e = .returned (.tuple #[.agg #[.bool z.s.neg, .slice z.s.limbs.A z.s.limbs.l.length z.s.limbs.c, .int .i64 z.s.exp, .bool z.w.neg, .slice z.w.limbs.A z.w.limbs.l.length z.w.limbs.c, .int .i64 z.w.exp, .bool z.c.neg, .slice z.c.limbs.A z.c.limbs.l.length z.c.limbs.c, .int .i64 z.c.exp, .bool z.a.neg, .slice z.a.limbs.A z.a.limbs.l.length z.a.limbs.c, .int .i64 z.a.exp], .int .i64 (addM x.data y.data).2]) ∧ z.data = (addM x.data y.data).1 ∧ z.mine w' w.heap.size ∧ Ext w w' := by
  have HX := Lib.hid hx
  have FX := Lib.hid fx
  have HY := Lib.hid hy
  have FY := Lib.hid fy
  clear hx fx hy fy
  by_cases q0 : mayM x.data
  rotate_left
  · have HR : Hid (addM x.data y.data = (PMass.zero, 8)) := Lib.hid (by unfold addM eachM; rw [if_neg fun h => q0 h.1])
    have C0 := Lib.hid (decide_eq_false q0)
    clear q0
    go_enter Tryd.func101, Tryd.ntmps101
    go_wp2_with fail
    refine calls_nm fun W1 hW => ?_
    have B0 : Blk W1 (w.heap.size) 47 x.cells := by rw [hW]; exact ((Blk.new (by simp)).alloc _).alloc _
    have B1 : Blk W1 (w.heap.size + 1) 47 y.cells := by rw [hW]; exact (Blk.new (by simp)).alloc _
    have B2 : Blk W1 (w.heap.size + 2) 47 XMass.zero.cells := by rw [hW]; exact Blk.new (by simp)
    have E : Ext w W1 := by rw [hW]; exact Ext.alloc' (Ext.alloc' (Ext.alloc' (Ext.refl _) _) _) _
    clear hW
    refine (ref06_May x _ (HX.out.ext E)).mono ?_
    rw [C0.out]
    rintro e W2 ⟨rfl, hE⟩
    replace B0 := B0.ext hE
    replace B1 := B1.ext hE
    replace B2 := B2.ext hE
    replace E := E.trans hE
    clear hE
    go_wp2_with (first | ((with_reducible refine st (B2) (0) XMass.zero.cells 47 (.tmp 4) (.tmp 22) ?_ ?_ ?_ ?_ ?_ ?_ ?_ fun W3 BR3 hO3 => ?_); (exact rfl); ((iterate 4 exact rfl); exact Nat.le_of_ble_eq_true rfl; exact aggMass; replace E := Only.ext (E) hO3 (by omega); replace B0 := Blk.only (B0) hO3 (by omega); replace B1 := Blk.only (B1) hO3 (by omega); replace B2 : Blk W3 (w.heap.size + 2) 47 XMass.zero.cells := BR3; clear BR3 hO3)) | fail)
    exact bodyPost_ret (results_ct rfl rfl (B2) aggMass) rfl ⟨XMass.zero, by rw [HR.out] <;> rfl, by rw [HR.out] <;> rfl, XMass.zero_mine _ _, E⟩
  by_cases q1 : mayM y.data
  rotate_left
  · have HR : Hid (addM x.data y.data = (PMass.zero, 8)) := Lib.hid (by unfold addM eachM; rw [if_neg fun h => q1 h.2])
    have C0 := Lib.hid (decide_eq_true q0)
    have C1 := Lib.hid (decide_eq_false q1)
    clear q0 q1
    go_enter Tryd.func101, Tryd.ntmps101
    go_wp2_with fail
    refine calls_nm fun W1 hW => ?_
    have B0 : Blk W1 (w.heap.size) 47 x.cells := by rw [hW]; exact ((Blk.new (by simp)).alloc _).alloc _
    have B1 : Blk W1 (w.heap.size + 1) 47 y.cells := by rw [hW]; exact (Blk.new (by simp)).alloc _
    have B2 : Blk W1 (w.heap.size + 2) 47 XMass.zero.cells := by rw [hW]; exact Blk.new (by simp)
    have E : Ext w W1 := by rw [hW]; exact Ext.alloc' (Ext.alloc' (Ext.alloc' (Ext.refl _) _) _) _
    clear hW
    refine (ref06_May x _ (HX.out.ext E)).mono ?_
    rw [C0.out]
    rintro e W2 ⟨rfl, hE⟩
    replace B0 := B0.ext hE
    replace B1 := B1.ext hE
    replace B2 := B2.ext hE
    replace E := E.trans hE
    clear hE
    go_wp2_with (first | ((with_reducible refine ld B1 (0) y.cells 47 (.tmp 3) ?_ ?_ ?_ ?_ ?_ ?_); (exact rfl); ((iterate 2 exact rfl); exact rfl; exact aggMass)) | fail)
    refine (ref06_May y _ (HY.out.ext E)).mono ?_
    rw [C1.out]
    rintro e W3 ⟨rfl, hE⟩
    replace B0 := B0.ext hE
    replace B1 := B1.ext hE
    replace B2 := B2.ext hE
    replace E := E.trans hE
    clear hE
    go_wp2_with (first | ((with_reducible refine st (B2) (0) XMass.zero.cells 47 (.tmp 4) (.tmp 22) ?_ ?_ ?_ ?_ ?_ ?_ ?_ fun W4 BR4 hO4 => ?_); (exact rfl); ((iterate 4 exact rfl); exact Nat.le_of_ble_eq_true rfl; exact aggMass; replace E := Only.ext (E) hO4 (by omega); replace B0 := Blk.only (B0) hO4 (by omega); replace B1 := Blk.only (B1) hO4 (by omega); replace B2 : Blk W4 (w.heap.size + 2) 47 XMass.zero.cells := BR4; clear BR4 hO4)) | fail)
    exact bodyPost_ret (results_ct rfl rfl (B2) aggMass) rfl ⟨XMass.zero, by rw [HR.out] <;> rfl, by rw [HR.out] <;> rfl, XMass.zero_mine _ _, E⟩
  have C0 := Lib.hid (decide_eq_true q0)
  have C1 := Lib.hid (decide_eq_true q1)
  obtain ⟨e0, h0⟩ : ∃ e, (addD x.s.data y.s.data).2 = e := ⟨_, rfl⟩
  have t0 : (addD x.s.data y.s.data).2 = 0 ∨ (addD x.s.data y.s.data).2 = 10 := (addD_okD (q0.1 : mayD x.s.data) (q1.1 : mayD y.s.data)).two
  rw [h0] at t0
  have G0 := Lib.hid h0
  obtain ⟨e1, h1⟩ : ∃ e, (addD x.w.data y.w.data).2 = e := ⟨_, rfl⟩
  have t1 : (addD x.w.data y.w.data).2 = 0 ∨ (addD x.w.data y.w.data).2 = 10 := (addD_okD (q0.2.1 : mayD x.w.data) (q1.2.1 : mayD y.w.data)).two
  rw [h1] at t1
  have G1 := Lib.hid h1
  obtain ⟨e2, h2⟩ : ∃ e, (addD x.c.data y.c.data).2 = e := ⟨_, rfl⟩
  have t2 : (addD x.c.data y.c.data).2 = 0 ∨ (addD x.c.data y.c.data).2 = 10 := (addD_okD (q0.2.2.1 : mayD x.c.data) (q1.2.2.1 : mayD y.c.data)).two
  rw [h2] at t2
  have G2 := Lib.hid h2
  obtain ⟨e3, h3⟩ : ∃ e, (addD x.a.data y.a.data).2 = e := ⟨_, rfl⟩
  have t3 : (addD x.a.data y.a.data).2 = 0 ∨ (addD x.a.data y.a.data).2 = 10 := (addD_okD (q0.2.2.2 : mayD x.a.data) (q1.2.2.2 : mayD y.a.data)).two
  rw [h3] at t3
  have G3 := Lib.hid h3
  by_cases hz : e0 = 0 ∧ e1 = 0 ∧ e2 = 0 ∧ e3 = 0
  · obtain ⟨rfl, rfl, rfl, rfl⟩ := hz
    have HR : Hid (addM x.data y.data = ((⟨(addD x.s.data y.s.data).1, (addD x.w.data y.w.data).1, (addD x.c.data y.c.data).1, (addD x.a.data y.a.data).1⟩ : PMass), 0)) := Lib.hid (by unfold addM eachM; rw [if_pos ⟨q0, q1⟩, if_pos ⟨h0, h1, h2, h3⟩]; rfl)
    have hmx := @run_max4z Tryd.prog
    clear q0 q1 h0 h1 h2 h3 t0 t1 t2 t3
    go_enter Tryd.func101, Tryd.ntmps101
    go_wp2_with fail
    refine calls_nm fun W1 hW => ?_
    have B0 : Blk W1 (w.heap.size) 47 x.cells := by rw [hW]; exact ((Blk.new (by simp)).alloc _).alloc _
    have B1 : Blk W1 (w.heap.size + 1) 47 y.cells := by rw [hW]; exact (Blk.new (by simp)).alloc _
    have B2 : Blk W1 (w.heap.size + 2) 47 XMass.zero.cells := by rw [hW]; exact Blk.new (by simp)
    have E : Ext w W1 := by rw [hW]; exact Ext.alloc' (Ext.alloc' (Ext.alloc' (Ext.refl _) _) _) _
    clear hW
    refine (ref06_May x _ (HX.out.ext E)).mono ?_
    rw [C0.out]
    rintro e W2 ⟨rfl, hE⟩
    replace B0 := B0.ext hE
    replace B1 := B1.ext hE
    replace B2 := B2.ext hE
    replace E := E.trans hE
    clear hE
    go_wp2_with (first | ((with_reducible refine ld B1 (0) y.cells 47 (.tmp 3) ?_ ?_ ?_ ?_ ?_ ?_); (exact rfl); ((iterate 2 exact rfl); exact rfl; exact aggMass)) | fail)
    refine (ref06_May y _ (HY.out.ext E)).mono ?_
    rw [C1.out]
    rintro e W3 ⟨rfl, hE⟩
    replace B0 := B0.ext hE
    replace B1 := B1.ext hE
    replace B2 := B2.ext hE
    replace E := E.trans hE
    clear hE
    go_wp2_with (first | ((with_reducible refine ld B0 (0) x.s.cells 24 (.tmp 24) ?_ ?_ ?_ ?_ ?_ ?_); (exact rfl); ((iterate 2 exact rfl); exact rfl; exact aggDyad)) | ((with_reducible refine ld B1 (0) y.s.cells 24 (.tmp 26) ?_ ?_ ?_ ?_ ?_ ?_); (exact rfl); ((iterate 2 exact rfl); exact rfl; exact aggDyad)) | fail)
    refine (ref02_Add x.s y.s _ (HX.out.ext E).s (HY.out.ext E).s ((FX.out).1).1 ((FY.out).1).1).mono ?_
    rw [G0.out]
    rintro e W4 ⟨r0, rfl, hd, hm, hE⟩
    have hz := E.size
    replace B0 := B0.ext hE
    replace B1 := B1.ext hE
    replace B2 := B2.ext hE
    replace E := E.trans hE
    clear hE
    have M_r0 : r0.mine W4 w.heap.size := XDyad.mine.lower ⟨hm⟩ hz
    have D_r0 := Lib.hid hd
    have F_r0 : Hid (Fine r0.data) := Lib.hid (by rw [hd]; exact addD_fine _ _)
    clear hd hm hz
    have L4_2 := B2.lt
    go_wp2_with (first | ((with_reducible refine ld (B0.alloc _) (3) x.w.cells 24 (.tmp 32) ?_ ?_ ?_ ?_ ?_ ?_); (exact rfl); ((iterate 2 exact rfl); exact rfl; exact aggDyad)) | ((with_reducible refine ld (B1.alloc _) (3) y.w.cells 24 (.tmp 34) ?_ ?_ ?_ ?_ ?_ ?_); (exact rfl); ((iterate 2 exact rfl); exact rfl; exact aggDyad)) | fail)
    refine calls_nm fun W5 hW => ?_
    replace B0 : Blk W5 (w.heap.size) 47 x.cells := by rw [hW]; exact B0.alloc _
    replace B1 : Blk W5 (w.heap.size + 1) 47 y.cells := by rw [hW]; exact B1.alloc _
    replace B2 : Blk W5 (w.heap.size + 2) 47 XMass.zero.cells := by rw [hW]; exact B2.alloc _
    have B3 : Blk W5 (W4.heap.size) 24 r0.cells := by rw [hW]; exact Blk.new (by simp)
    replace E : Ext w W5 := by rw [hW]; exact Ext.alloc' E _
    replace M_r0 : r0.mine W5 w.heap.size := by rw [hW]; exact M_r0.ext (Ext.alloc' (Ext.refl _) _)
    clear hW
    refine (ref02_Add x.w y.w _ (HX.out.ext E).w (HY.out.ext E).w ((FX.out).2.1).1 ((FY.out).2.1).1).mono ?_
    rw [G1.out]
    rintro e W6 ⟨r1, rfl, hd, hm, hE⟩
    have hz := E.size
    replace B0 := B0.ext hE
    replace B1 := B1.ext hE
    replace B2 := B2.ext hE
    replace B3 := B3.ext hE
    replace M_r0 := M_r0.ext hE
    replace E := E.trans hE
    clear hE
    have M_r1 : r1.mine W6 w.heap.size := XDyad.mine.lower ⟨hm⟩ hz
    have D_r1 := Lib.hid hd
    have F_r1 : Hid (Fine r1.data) := Lib.hid (by rw [hd]; exact addD_fine _ _)
    clear hd hm hz
    have L6_3 := B3.lt
    go_wp2_with (first | ((with_reducible refine ld (B0.alloc _) (6) x.c.cells 24 (.tmp 40) ?_ ?_ ?_ ?_ ?_ ?_); (exact rfl); ((iterate 2 exact rfl); exact rfl; exact aggDyad)) | ((with_reducible refine ld (B1.alloc _) (6) y.c.cells 24 (.tmp 42) ?_ ?_ ?_ ?_ ?_ ?_); (exact rfl); ((iterate 2 exact rfl); exact rfl; exact aggDyad)) | fail)
    refine calls_nm fun W7 hW => ?_
    replace B0 : Blk W7 (w.heap.size) 47 x.cells := by rw [hW]; exact B0.alloc _
    replace B1 : Blk W7 (w.heap.size + 1) 47 y.cells := by rw [hW]; exact B1.alloc _
    replace B2 : Blk W7 (w.heap.size + 2) 47 XMass.zero.cells := by rw [hW]; exact B2.alloc _
    replace B3 : Blk W7 (W4.heap.size) 24 r0.cells := by rw [hW]; exact B3.alloc _
    have B4 : Blk W7 (W6.heap.size) 24 r1.cells := by rw [hW]; exact Blk.new (by simp)
    replace E : Ext w W7 := by rw [hW]; exact Ext.alloc' E _
    replace M_r0 : r0.mine W7 w.heap.size := by rw [hW]; exact M_r0.ext (Ext.alloc' (Ext.refl _) _)
    replace M_r1 : r1.mine W7 w.heap.size := by rw [hW]; exact M_r1.ext (Ext.alloc' (Ext.refl _) _)
    clear hW
    refine (ref02_Add x.c y.c _ (HX.out.ext E).c (HY.out.ext E).c ((FX.out).2.2.1).1 ((FY.out).2.2.1).1).mono ?_
    rw [G2.out]
    rintro e W8 ⟨r2, rfl, hd, hm, hE⟩
    have hz := E.size
    replace B0 := B0.ext hE
    replace B1 := B1.ext hE
    replace B2 := B2.ext hE
    replace B3 := B3.ext hE
    replace B4 := B4.ext hE
    replace M_r0 := M_r0.ext hE
    replace M_r1 := M_r1.ext hE
    replace E := E.trans hE
    clear hE
    have M_r2 : r2.mine W8 w.heap.size := XDyad.mine.lower ⟨hm⟩ hz
    have D_r2 := Lib.hid hd
    have F_r2 : Hid (Fine r2.data) := Lib.hid (by rw [hd]; exact addD_fine _ _)
    clear hd hm hz
    have L8_4 := B4.lt
    go_wp2_with (first | ((with_reducible refine ld (B0.alloc _) (9) x.a.cells 24 (.tmp 48) ?_ ?_ ?_ ?_ ?_ ?_); (exact rfl); ((iterate 2 exact rfl); exact rfl; exact aggDyad)) | ((with_reducible refine ld (B1.alloc _) (9) y.a.cells 24 (.tmp 50) ?_ ?_ ?_ ?_ ?_ ?_); (exact rfl); ((iterate 2 exact rfl); exact rfl; exact aggDyad)) | fail)
    refine calls_nm fun W9 hW => ?_
    replace B0 : Blk W9 (w.heap.size) 47 x.cells := by rw [hW]; exact B0.alloc _
    replace B1 : Blk W9 (w.heap.size + 1) 47 y.cells := by rw [hW]; exact B1.alloc _
    replace B2 : Blk W9 (w.heap.size + 2) 47 XMass.zero.cells := by rw [hW]; exact B2.alloc _
    replace B3 : Blk W9 (W4.heap.size) 24 r0.cells := by rw [hW]; exact B3.alloc _
    replace B4 : Blk W9 (W6.heap.size) 24 r1.cells := by rw [hW]; exact B4.alloc _
    have B5 : Blk W9 (W8.heap.size) 24 r2.cells := by rw [hW]; exact Blk.new (by simp)
    replace E : Ext w W9 := by rw [hW]; exact Ext.alloc' E _
    replace M_r0 : r0.mine W9 w.heap.size := by rw [hW]; exact M_r0.ext (Ext.alloc' (Ext.refl _) _)
    replace M_r1 : r1.mine W9 w.heap.size := by rw [hW]; exact M_r1.ext (Ext.alloc' (Ext.refl _) _)
    replace M_r2 : r2.mine W9 w.heap.size := by rw [hW]; exact M_r2.ext (Ext.alloc' (Ext.refl _) _)
    clear hW
    refine (ref02_Add x.a y.a _ (HX.out.ext E).a (HY.out.ext E).a ((FX.out).2.2.2).1 ((FY.out).2.2.2).1).mono ?_
    rw [G3.out]
    rintro e W10 ⟨r3, rfl, hd, hm, hE⟩
    have hz := E.size
    replace B0 := B0.ext hE
    replace B1 := B1.ext hE
    replace B2 := B2.ext hE
    replace B3 := B3.ext hE
    replace B4 := B4.ext hE
    replace B5 := B5.ext hE
    replace M_r0 := M_r0.ext hE
    replace M_r1 := M_r1.ext hE
    replace M_r2 := M_r2.ext hE
    replace E := E.trans hE
    clear hE
    have M_r3 : r3.mine W10 w.heap.size := XDyad.mine.lower ⟨hm⟩ hz
    have D_r3 := Lib.hid hd
    have F_r3 : Hid (Fine r3.data) := Lib.hid (by rw [hd]; exact addD_fine _ _)
    clear hd hm hz
    have L10_5 := B5.lt
    go_wp2_with (first | ((with_reducible refine ld (B3.alloc _) (0) r0.cells 24 (.tmp 6) ?_ ?_ ?_ ?_ ?_ ?_); (exact rfl); ((iterate 2 exact rfl); exact rfl; exact aggDyad)) | ((with_reducible refine ld (B4.alloc _) (0) r1.cells 24 (.tmp 8) ?_ ?_ ?_ ?_ ?_ ?_); (exact rfl); ((iterate 2 exact rfl); exact rfl; exact aggDyad)) | ((with_reducible refine ld (B5.alloc _) (0) r2.cells 24 (.tmp 10) ?_ ?_ ?_ ?_ ?_ ?_); (exact rfl); ((iterate 2 exact rfl); exact rfl; exact aggDyad)) | ((with_reducible refine st (B2.alloc _) (0) ((⟨r0, r1, r2, r3⟩ : XMass).cells) 47 (.tmp 4) (.tmp 71) ?_ ?_ ?_ ?_ ?_ ?_ ?_ fun W11 BR11 hO11 => ?_); (exact rfl); ((iterate 4 exact rfl); exact Nat.le_of_ble_eq_true rfl; exact aggMass; replace M_r0 := (M_r0.ext (Ext.alloc' (Ext.refl _) _)).only (B2.alloc _) hO11 BR11 rfl (by decide); replace M_r1 := (M_r1.ext (Ext.alloc' (Ext.refl _) _)).only (B2.alloc _) hO11 BR11 rfl (by decide); replace M_r2 := (M_r2.ext (Ext.alloc' (Ext.refl _) _)).only (B2.alloc _) hO11 BR11 rfl (by decide); replace M_r3 := (M_r3.ext (Ext.alloc' (Ext.refl _) _)).only (B2.alloc _) hO11 BR11 rfl (by decide); replace E := Only.ext (Ext.alloc' E _) hO11 (by omega); replace B0 := Blk.only (B0.alloc _) hO11 (by omega); replace B1 := Blk.only (B1.alloc _) hO11 (by omega); replace B3 := Blk.only (B3.alloc _) hO11 (by omega); replace B4 := Blk.only (B4.alloc _) hO11 (by omega); replace B5 := Blk.only (B5.alloc _) hO11 (by omega); have B6 : Blk W11 (W10.heap.size) 24 r3.cells := Blk.only (Blk.new (by simp)) hO11 (by omega); replace B2 : Blk W11 (w.heap.size + 2) 47 (⟨r0, r1, r2, r3⟩ : XMass).cells := BR11; clear BR11 hO11)) | fail)
    exact bodyPost_ret (results_ct rfl rfl (B2) aggMass) rfl ⟨⟨r0, r1, r2, r3⟩, by rw [HR.out] <;> rfl, by rw [HR.out, ← D_r0.out, ← D_r1.out, ← D_r2.out, ← D_r3.out] <;> rfl, ⟨M_r0, M_r1, M_r2, M_r3⟩, E⟩
  · have HR : Hid (addM x.data y.data = (PMass.zero, 10)) := Lib.hid (by unfold addM eachM; rw [if_pos ⟨q0, q1⟩, if_neg]; intro h; exact hz ⟨h0.symm.trans h.1, h1.symm.trans h.2.1, h2.symm.trans h.2.2.1, h3.symm.trans h.2.2.2⟩)
    have hmx := @run_max4 Tryd.prog _ _ _ _ t0 t1 t2 t3 hz
    clear q0 q1 h0 h1 h2 h3 t0 t1 t2 t3 hz
    go_enter Tryd.func101, Tryd.ntmps101
    go_wp2_with fail
    refine calls_nm fun W1 hW => ?_
    have B0 : Blk W1 (w.heap.size) 47 x.cells := by rw [hW]; exact ((Blk.new (by simp)).alloc _).alloc _
    have B1 : Blk W1 (w.heap.size + 1) 47 y.cells := by rw [hW]; exact (Blk.new (by simp)).alloc _
    have B2 : Blk W1 (w.heap.size + 2) 47 XMass.zero.cells := by rw [hW]; exact Blk.new (by simp)
    have E : Ext w W1 := by rw [hW]; exact Ext.alloc' (Ext.alloc' (Ext.alloc' (Ext.refl _) _) _) _
    clear hW
    refine (ref06_May x _ (HX.out.ext E)).mono ?_
    rw [C0.out]
    rintro e W2 ⟨rfl, hE⟩
    replace B0 := B0.ext hE
    replace B1 := B1.ext hE
    replace B2 := B2.ext hE
    replace E := E.trans hE
    clear hE
    go_wp2_with (first | ((with_reducible refine ld B1 (0) y.cells 47 (.tmp 3) ?_ ?_ ?_ ?_ ?_ ?_); (exact rfl); ((iterate 2 exact rfl); exact rfl; exact aggMass)) | fail)
    refine (ref06_May y _ (HY.out.ext E)).mono ?_
    rw [C1.out]
    rintro e W3 ⟨rfl, hE⟩
    replace B0 := B0.ext hE
    replace B1 := B1.ext hE
    replace B2 := B2.ext hE
    replace E := E.trans hE
    clear hE
    go_wp2_with (first | ((with_reducible refine ld B0 (0) x.s.cells 24 (.tmp 24) ?_ ?_ ?_ ?_ ?_ ?_); (exact rfl); ((iterate 2 exact rfl); exact rfl; exact aggDyad)) | ((with_reducible refine ld B1 (0) y.s.cells 24 (.tmp 26) ?_ ?_ ?_ ?_ ?_ ?_); (exact rfl); ((iterate 2 exact rfl); exact rfl; exact aggDyad)) | fail)
    refine (ref02_Add x.s y.s _ (HX.out.ext E).s (HY.out.ext E).s ((FX.out).1).1 ((FY.out).1).1).mono ?_
    rw [G0.out]
    rintro e W4 ⟨r0, rfl, hd, hm, hE⟩
    have hz := E.size
    replace B0 := B0.ext hE
    replace B1 := B1.ext hE
    replace B2 := B2.ext hE
    replace E := E.trans hE
    clear hE
    have M_r0 : r0.mine W4 w.heap.size := XDyad.mine.lower ⟨hm⟩ hz
    have D_r0 := Lib.hid hd
    have F_r0 : Hid (Fine r0.data) := Lib.hid (by rw [hd]; exact addD_fine _ _)
    clear hd hm hz
    have L4_2 := B2.lt
    go_wp2_with (first | ((with_reducible refine ld (B0.alloc _) (3) x.w.cells 24 (.tmp 32) ?_ ?_ ?_ ?_ ?_ ?_); (exact rfl); ((iterate 2 exact rfl); exact rfl; exact aggDyad)) | ((with_reducible refine ld (B1.alloc _) (3) y.w.cells 24 (.tmp 34) ?_ ?_ ?_ ?_ ?_ ?_); (exact rfl); ((iterate 2 exact rfl); exact rfl; exact aggDyad)) | fail)
    refine calls_nm fun W5 hW => ?_
    replace B0 : Blk W5 (w.heap.size) 47 x.cells := by rw [hW]; exact B0.alloc _
    replace B1 : Blk W5 (w.heap.size + 1) 47 y.cells := by rw [hW]; exact B1.alloc _
    replace B2 : Blk W5 (w.heap.size + 2) 47 XMass.zero.cells := by rw [hW]; exact B2.alloc _
    have B3 : Blk W5 (W4.heap.size) 24 r0.cells := by rw [hW]; exact Blk.new (by simp)
    replace E : Ext w W5 := by rw [hW]; exact Ext.alloc' E _
    replace M_r0 : r0.mine W5 w.heap.size := by rw [hW]; exact M_r0.ext (Ext.alloc' (Ext.refl _) _)
    clear hW
    refine (ref02_Add x.w y.w _ (HX.out.ext E).w (HY.out.ext E).w ((FX.out).2.1).1 ((FY.out).2.1).1).mono ?_
    rw [G1.out]
    rintro e W6 ⟨r1, rfl, hd, hm, hE⟩
    have hz := E.size
    replace B0 := B0.ext hE
    replace B1 := B1.ext hE
    replace B2 := B2.ext hE
    replace B3 := B3.ext hE
    replace M_r0 := M_r0.ext hE
    replace E := E.trans hE
    clear hE
    have M_r1 : r1.mine W6 w.heap.size := XDyad.mine.lower ⟨hm⟩ hz
    have D_r1 := Lib.hid hd
    have F_r1 : Hid (Fine r1.data) := Lib.hid (by rw [hd]; exact addD_fine _ _)
    clear hd hm hz
    have L6_3 := B3.lt
    go_wp2_with (first | ((with_reducible refine ld (B0.alloc _) (6) x.c.cells 24 (.tmp 40) ?_ ?_ ?_ ?_ ?_ ?_); (exact rfl); ((iterate 2 exact rfl); exact rfl; exact aggDyad)) | ((with_reducible refine ld (B1.alloc _) (6) y.c.cells 24 (.tmp 42) ?_ ?_ ?_ ?_ ?_ ?_); (exact rfl); ((iterate 2 exact rfl); exact rfl; exact aggDyad)) | fail)
    refine calls_nm fun W7 hW => ?_
    replace B0 : Blk W7 (w.heap.size) 47 x.cells := by rw [hW]; exact B0.alloc _
    replace B1 : Blk W7 (w.heap.size + 1) 47 y.cells := by rw [hW]; exact B1.alloc _
    replace B2 : Blk W7 (w.heap.size + 2) 47 XMass.zero.cells := by rw [hW]; exact B2.alloc _
    replace B3 : Blk W7 (W4.heap.size) 24 r0.cells := by rw [hW]; exact B3.alloc _
    have B4 : Blk W7 (W6.heap.size) 24 r1.cells := by rw [hW]; exact Blk.new (by simp)
    replace E : Ext w W7 := by rw [hW]; exact Ext.alloc' E _
    replace M_r0 : r0.mine W7 w.heap.size := by rw [hW]; exact M_r0.ext (Ext.alloc' (Ext.refl _) _)
    replace M_r1 : r1.mine W7 w.heap.size := by rw [hW]; exact M_r1.ext (Ext.alloc' (Ext.refl _) _)
    clear hW
    refine (ref02_Add x.c y.c _ (HX.out.ext E).c (HY.out.ext E).c ((FX.out).2.2.1).1 ((FY.out).2.2.1).1).mono ?_
    rw [G2.out]
    rintro e W8 ⟨r2, rfl, hd, hm, hE⟩
    have hz := E.size
    replace B0 := B0.ext hE
    replace B1 := B1.ext hE
    replace B2 := B2.ext hE
    replace B3 := B3.ext hE
    replace B4 := B4.ext hE
    replace M_r0 := M_r0.ext hE
    replace M_r1 := M_r1.ext hE
    replace E := E.trans hE
    clear hE
    have M_r2 : r2.mine W8 w.heap.size := XDyad.mine.lower ⟨hm⟩ hz
    have D_r2 := Lib.hid hd
    have F_r2 : Hid (Fine r2.data) := Lib.hid (by rw [hd]; exact addD_fine _ _)
    clear hd hm hz
    have L8_4 := B4.lt
    go_wp2_with (first | ((with_reducible refine ld (B0.alloc _) (9) x.a.cells 24 (.tmp 48) ?_ ?_ ?_ ?_ ?_ ?_); (exact rfl); ((iterate 2 exact rfl); exact rfl; exact aggDyad)) | ((with_reducible refine ld (B1.alloc _) (9) y.a.cells 24 (.tmp 50) ?_ ?_ ?_ ?_ ?_ ?_); (exact rfl); ((iterate 2 exact rfl); exact rfl; exact aggDyad)) | fail)
    refine calls_nm fun W9 hW => ?_
    replace B0 : Blk W9 (w.heap.size) 47 x.cells := by rw [hW]; exact B0.alloc _
    replace B1 : Blk W9 (w.heap.size + 1) 47 y.cells := by rw [hW]; exact B1.alloc _
    replace B2 : Blk W9 (w.heap.size + 2) 47 XMass.zero.cells := by rw [hW]; exact B2.alloc _
    replace B3 : Blk W9 (W4.heap.size) 24 r0.cells := by rw [hW]; exact B3.alloc _
    replace B4 : Blk W9 (W6.heap.size) 24 r1.cells := by rw [hW]; exact B4.alloc _
    have B5 : Blk W9 (W8.heap.size) 24 r2.cells := by rw [hW]; exact Blk.new (by simp)
    replace E : Ext w W9 := by rw [hW]; exact Ext.alloc' E _
    replace M_r0 : r0.mine W9 w.heap.size := by rw [hW]; exact M_r0.ext (Ext.alloc' (Ext.refl _) _)
    replace M_r1 : r1.mine W9 w.heap.size := by rw [hW]; exact M_r1.ext (Ext.alloc' (Ext.refl _) _)
    replace M_r2 : r2.mine W9 w.heap.size := by rw [hW]; exact M_r2.ext (Ext.alloc' (Ext.refl _) _)
    clear hW
    refine (ref02_Add x.a y.a _ (HX.out.ext E).a (HY.out.ext E).a ((FX.out).2.2.2).1 ((FY.out).2.2.2).1).mono ?_
    rw [G3.out]
    rintro e W10 ⟨r3, rfl, hd, hm, hE⟩
    have hz := E.size
    replace B0 := B0.ext hE
    replace B1 := B1.ext hE
    replace B2 := B2.ext hE
    replace B3 := B3.ext hE
    replace B4 := B4.ext hE
    replace B5 := B5.ext hE
    replace M_r0 := M_r0.ext hE
    replace M_r1 := M_r1.ext hE
    replace M_r2 := M_r2.ext hE
    replace E := E.trans hE
    clear hE
    have M_r3 : r3.mine W10 w.heap.size := XDyad.mine.lower ⟨hm⟩ hz
    have D_r3 := Lib.hid hd
    have F_r3 : Hid (Fine r3.data) := Lib.hid (by rw [hd]; exact addD_fine _ _)
    clear hd hm hz
    have L10_5 := B5.lt
    go_wp2_with (first | ((with_reducible refine st (B2.alloc _) (0) XMass.zero.cells 47 (.tmp 4) (.tmp 61) ?_ ?_ ?_ ?_ ?_ ?_ ?_ fun W11 BR11 hO11 => ?_); (exact rfl); ((iterate 4 exact rfl); exact Nat.le_of_ble_eq_true rfl; exact aggMass; replace M_r0 := (M_r0.ext (Ext.alloc' (Ext.refl _) _)).only (B2.alloc _) hO11 BR11 rfl (by decide); replace M_r1 := (M_r1.ext (Ext.alloc' (Ext.refl _) _)).only (B2.alloc _) hO11 BR11 rfl (by decide); replace M_r2 := (M_r2.ext (Ext.alloc' (Ext.refl _) _)).only (B2.alloc _) hO11 BR11 rfl (by decide); replace M_r3 := (M_r3.ext (Ext.alloc' (Ext.refl _) _)).only (B2.alloc _) hO11 BR11 rfl (by decide); replace E := Only.ext (Ext.alloc' E _) hO11 (by omega); replace B0 := Blk.only (B0.alloc _) hO11 (by omega); replace B1 := Blk.only (B1.alloc _) hO11 (by omega); replace B3 := Blk.only (B3.alloc _) hO11 (by omega); replace B4 := Blk.only (B4.alloc _) hO11 (by omega); replace B5 := Blk.only (B5.alloc _) hO11 (by omega); have B6 : Blk W11 (W10.heap.size) 24 r3.cells := Blk.only (Blk.new (by simp)) hO11 (by omega); replace B2 : Blk W11 (w.heap.size + 2) 47 XMass.zero.cells := BR11; clear BR11 hO11)) | fail)
    exact bodyPost_ret (results_ct rfl rfl (B2) aggMass) rfl ⟨XMass.zero, by rw [HR.out] <;> rfl, by rw [HR.out] <;> rfl, XMass.zero_mine _ _, E⟩
end Go.Proofs.YtgcbnagfdfgpnaaDoor
end
section
namespace Go.Proofs.YtgcbnagfdfgpnaaDoor
open Go.RowKit Go.Hx
attribute [local go_sem] XDyad.cells XMass.cells detUpon undIn
set_option maxRecDepth 100000 in
set_option maxHeartbeats 4000000 in
theorem ref16_Middle (x y : XDyad) (w : World) (hx : x.ok w w.heap.size) (hy : y.ok w w.heap.size) (fx : Fine x.data) (fy : Fine y.data) (mx : mayD x.data) (my : mayD y.data) :
    Calls Tryd.prog 100 #[.agg #[.bool x.neg, .slice x.limbs.A x.limbs.l.length x.limbs.c, .int .i64 x.exp], .agg #[.bool y.neg, .slice y.limbs.A y.limbs.l.length y.limbs.c, .int .i64 y.exp]] w fun e w' => ∃ m d : XDyad, e = .returned (.tuple #[.agg #[.bool m.neg, .slice m.limbs.A m.limbs.l.length m.limbs.c, .int .i64 m.exp], .agg #[.bool d.neg, .slice d.limbs.A d.limbs.l.length d.limbs.c, .int .i64 d.exp], .int .i64 (middleD x.data y.data).2.2]) ∧ m.data = (middleD x.data y.data).1 ∧ d.data = (middleD x.data y.data).2.1 ∧ m.mine w' w.heap.size ∧ d.mine w' w.heap.size ∧ Ext w w' := by
  have HX := Lib.hid hx
  have FX := Lib.hid fx
  have HY := Lib.hid hy
  have FY := Lib.hid fy
  clear hx fx hy fy
  have hP := midP mx my
  clear mx my
  obtain ⟨R, hR⟩ : ∃ R, middleD x.data y.data = R := ⟨_, rfl⟩
  rw [hR] at hP
  have HR := Lib.hid hR
  clear hR
  cases hP with
  | add h =>
    have G0 := Lib.hid h
    clear h
    go_enter Tryd.func100, Tryd.ntmps100
    go_wp2_with fail
    refine calls_nm fun W1 hW => ?_
    have B0 : Blk W1 (w.heap.size) 24 x.cells := by rw [hW]; exact (((Blk.new (by simp)).alloc _).alloc _).alloc _
    have B1 : Blk W1 (w.heap.size + 1) 24 y.cells := by rw [hW]; exact ((Blk.new (by simp)).alloc _).alloc _
    have B2 : Blk W1 (w.heap.size + 2) 24 XDyad.zero.cells := by rw [hW]; exact (Blk.new (by simp)).alloc _
    have B3 : Blk W1 (w.heap.size + 3) 24 XDyad.zero.cells := by rw [hW]; exact Blk.new (by simp)
    have E : Ext w W1 := by rw [hW]; exact Ext.alloc' (Ext.alloc' (Ext.alloc' (Ext.alloc' (Ext.refl _) _) _) _) _
    clear hW
    refine (ref02_Add x y _ (HX.out.ext E) (HY.out.ext E) (FX.out).1 (FY.out).1).mono ?_
    rw [G0.out]
    rintro e W2 ⟨r0, rfl, hd, hm, hE⟩
    have hz := E.size
    replace B0 := B0.ext hE
    replace B1 := B1.ext hE
    replace B2 := B2.ext hE
    replace B3 := B3.ext hE
    replace E := E.trans hE
    clear hE
    have M_r0 : r0.mine W2 w.heap.size := XDyad.mine.lower ⟨hm⟩ hz
    have D_r0 := Lib.hid hd
    have F_r0 : Hid (Fine r0.data) := Lib.hid (by rw [hd]; exact addD_fine _ _)
    clear hd hm hz
    have L2_3 := B3.lt
    go_wp2_with (first | ((with_reducible refine st (B2.alloc _) (0) XDyad.zero.cells 24 (.tmp 4) (.tmp 21) ?_ ?_ ?_ ?_ ?_ ?_ ?_ fun W3 BR3 hO3 => ?_); (exact rfl); ((iterate 4 exact rfl); exact Nat.le_of_ble_eq_true rfl; exact aggDyad; replace M_r0 := (M_r0.ext (Ext.alloc' (Ext.refl _) _)).only (B2.alloc _) hO3 BR3 rfl (by decide); replace E := Only.ext (Ext.alloc' E _) hO3 (by omega); replace B0 := Blk.only (B0.alloc _) hO3 (by omega); replace B1 := Blk.only (B1.alloc _) hO3 (by omega); replace B3 := Blk.only (B3.alloc _) hO3 (by omega); have B4 : Blk W3 (W2.heap.size) 24 r0.cells := Blk.only (Blk.new (by simp)) hO3 (by omega); replace B2 : Blk W3 (w.heap.size + 2) 24 XDyad.zero.cells := BR3; clear BR3 hO3)) | ((with_reducible refine st (B3) (0) XDyad.zero.cells 24 (.tmp 5) (.tmp 22) ?_ ?_ ?_ ?_ ?_ ?_ ?_ fun W4 BR4 hO4 => ?_); (exact rfl); ((iterate 4 exact rfl); exact Nat.le_of_ble_eq_true rfl; exact aggDyad; replace M_r0 := M_r0.only (B3) hO4 BR4 rfl (by decide); replace E := Only.ext (E) hO4 (by omega); replace B0 := Blk.only (B0) hO4 (by omega); replace B1 := Blk.only (B1) hO4 (by omega); replace B2 := Blk.only (B2) hO4 (by omega); replace B4 := Blk.only (B4) hO4 (by omega); replace B3 : Blk W4 (w.heap.size + 3) 24 XDyad.zero.cells := BR4; clear BR4 hO4)) | fail)
    exact bodyPost_ret (results_cct rfl rfl (B2) aggDyad rfl (B3) aggDyad) rfl ⟨XDyad.zero, XDyad.zero, by rw [HR.out] <;> rfl, by rw [HR.out] <;> rfl, by rw [HR.out] <;> rfl, XDyad.zero_mine _ _, XDyad.zero_mine _ _, E⟩
  | half h0 m0 h =>
    have G0 := Lib.hid h0
    have G1 := Lib.hid h
    clear h h0 m0
    go_enter Tryd.func100, Tryd.ntmps100
    go_wp2_with fail
    refine calls_nm fun W1 hW => ?_
    have B0 : Blk W1 (w.heap.size) 24 x.cells := by rw [hW]; exact (((Blk.new (by simp)).alloc _).alloc _).alloc _
    have B1 : Blk W1 (w.heap.size + 1) 24 y.cells := by rw [hW]; exact ((Blk.new (by simp)).alloc _).alloc _
    have B2 : Blk W1 (w.heap.size + 2) 24 XDyad.zero.cells := by rw [hW]; exact (Blk.new (by simp)).alloc _
    have B3 : Blk W1 (w.heap.size + 3) 24 XDyad.zero.cells := by rw [hW]; exact Blk.new (by simp)
    have E : Ext w W1 := by rw [hW]; exact Ext.alloc' (Ext.alloc' (Ext.alloc' (Ext.alloc' (Ext.refl _) _) _) _) _
    clear hW
    refine (ref02_Add x y _ (HX.out.ext E) (HY.out.ext E) (FX.out).1 (FY.out).1).mono ?_
    rw [G0.out]
    rintro e W2 ⟨r0, rfl, hd, hm, hE⟩
    have hz := E.size
    replace B0 := B0.ext hE
    replace B1 := B1.ext hE
    replace B2 := B2.ext hE
    replace B3 := B3.ext hE
    replace E := E.trans hE
    clear hE
    have M_r0 : r0.mine W2 w.heap.size := XDyad.mine.lower ⟨hm⟩ hz
    have D_r0 := Lib.hid hd
    have F_r0 : Hid (Fine r0.data) := Lib.hid (by rw [hd]; exact addD_fine _ _)
    clear hd hm hz
    have L2_3 := B3.lt
    go_wp2_with fail
    refine calls_nm fun W3 hW => ?_
    replace B0 : Blk W3 (w.heap.size) 24 x.cells := by rw [hW]; exact B0.alloc _
    replace B1 : Blk W3 (w.heap.size + 1) 24 y.cells := by rw [hW]; exact B1.alloc _
    replace B2 : Blk W3 (w.heap.size + 2) 24 XDyad.zero.cells := by rw [hW]; exact B2.alloc _
    replace B3 : Blk W3 (w.heap.size + 3) 24 XDyad.zero.cells := by rw [hW]; exact B3.alloc _
    have B4 : Blk W3 (W2.heap.size) 24 r0.cells := by rw [hW]; exact Blk.new (by simp)
    replace E : Ext w W3 := by rw [hW]; exact Ext.alloc' E _
    replace M_r0 : r0.mine W3 w.heap.size := by rw [hW]; exact M_r0.ext (Ext.alloc' (Ext.refl _) _)
    clear hW
    refine (ref02_Half r0 _ (M_r0.ok) (F_r0.out).1).mono ?_
    rw [D_r0.out, G1.out]
    rintro e W4 ⟨r1, rfl, hd, hm, hE⟩
    have hz := E.size
    replace B0 := B0.ext hE
    replace B1 := B1.ext hE
    replace B2 := B2.ext hE
    replace B3 := B3.ext hE
    replace B4 := B4.ext hE
    replace M_r0 := M_r0.ext hE
    replace E := E.trans hE
    clear hE
    have M_r1 : r1.mine W4 w.heap.size := XDyad.mine.lower ⟨hm⟩ hz
    have D_r1 := Lib.hid hd
    have F_r1 : Hid (Fine r1.data) := Lib.hid (by rw [hd]; exact halfD_fine _)
    clear hd hm hz
    have L4_4 := B4.lt
    go_wp2_with (first | ((with_reducible refine st (B2.alloc _) (0) XDyad.zero.cells 24 (.tmp 4) (.tmp 31) ?_ ?_ ?_ ?_ ?_ ?_ ?_ fun W5 BR5 hO5 => ?_); (exact rfl); ((iterate 4 exact rfl); exact Nat.le_of_ble_eq_true rfl; exact aggDyad; replace M_r0 := (M_r0.ext (Ext.alloc' (Ext.refl _) _)).only (B2.alloc _) hO5 BR5 rfl (by decide); replace M_r1 := (M_r1.ext (Ext.alloc' (Ext.refl _) _)).only (B2.alloc _) hO5 BR5 rfl (by decide); replace E := Only.ext (Ext.alloc' E _) hO5 (by omega); replace B0 := Blk.only (B0.alloc _) hO5 (by omega); replace B1 := Blk.only (B1.alloc _) hO5 (by omega); replace B3 := Blk.only (B3.alloc _) hO5 (by omega); replace B4 := Blk.only (B4.alloc _) hO5 (by omega); have B5 : Blk W5 (W4.heap.size) 24 r1.cells := Blk.only (Blk.new (by simp)) hO5 (by omega); replace B2 : Blk W5 (w.heap.size + 2) 24 XDyad.zero.cells := BR5; clear BR5 hO5)) | ((with_reducible refine st (B3) (0) XDyad.zero.cells 24 (.tmp 5) (.tmp 32) ?_ ?_ ?_ ?_ ?_ ?_ ?_ fun W6 BR6 hO6 => ?_); (exact rfl); ((iterate 4 exact rfl); exact Nat.le_of_ble_eq_true rfl; exact aggDyad; replace M_r0 := M_r0.only (B3) hO6 BR6 rfl (by decide); replace M_r1 := M_r1.only (B3) hO6 BR6 rfl (by decide); replace E := Only.ext (E) hO6 (by omega); replace B0 := Blk.only (B0) hO6 (by omega); replace B1 := Blk.only (B1) hO6 (by omega); replace B2 := Blk.only (B2) hO6 (by omega); replace B4 := Blk.only (B4) hO6 (by omega); replace B5 := Blk.only (B5) hO6 (by omega); replace B3 : Blk W6 (w.heap.size + 3) 24 XDyad.zero.cells := BR6; clear BR6 hO6)) | fail)
    exact bodyPost_ret (results_cct rfl rfl (B2) aggDyad rfl (B3) aggDyad) rfl ⟨XDyad.zero, XDyad.zero, by rw [HR.out] <;> rfl, by rw [HR.out] <;> rfl, by rw [HR.out] <;> rfl, XDyad.zero_mine _ _, XDyad.zero_mine _ _, E⟩
  | sub h0 m0 h1 m1 h =>
    have G0 := Lib.hid h0
    have G1 := Lib.hid h1
    have G2 := Lib.hid h
    clear h h0 h1 m0 m1
    go_enter Tryd.func100, Tryd.ntmps100
    go_wp2_with fail
    refine calls_nm fun W1 hW => ?_
    have B0 : Blk W1 (w.heap.size) 24 x.cells := by rw [hW]; exact (((Blk.new (by simp)).alloc _).alloc _).alloc _
    have B1 : Blk W1 (w.heap.size + 1) 24 y.cells := by rw [hW]; exact ((Blk.new (by simp)).alloc _).alloc _
    have B2 : Blk W1 (w.heap.size + 2) 24 XDyad.zero.cells := by rw [hW]; exact (Blk.new (by simp)).alloc _
    have B3 : Blk W1 (w.heap.size + 3) 24 XDyad.zero.cells := by rw [hW]; exact Blk.new (by simp)
    have E : Ext w W1 := by rw [hW]; exact Ext.alloc' (Ext.alloc' (Ext.alloc' (Ext.alloc' (Ext.refl _) _) _) _) _
    clear hW
    refine (ref02_Add x y _ (HX.out.ext E) (HY.out.ext E) (FX.out).1 (FY.out).1).mono ?_
    rw [G0.out]
    rintro e W2 ⟨r0, rfl, hd, hm, hE⟩
    have hz := E.size
    replace B0 := B0.ext hE
    replace B1 := B1.ext hE
    replace B2 := B2.ext hE
    replace B3 := B3.ext hE
    replace E := E.trans hE
    clear hE
    have M_r0 : r0.mine W2 w.heap.size := XDyad.mine.lower ⟨hm⟩ hz
    have D_r0 := Lib.hid hd
    have F_r0 : Hid (Fine r0.data) := Lib.hid (by rw [hd]; exact addD_fine _ _)
    clear hd hm hz
    have L2_3 := B3.lt
    go_wp2_with fail
    refine calls_nm fun W3 hW => ?_
    replace B0 : Blk W3 (w.heap.size) 24 x.cells := by rw [hW]; exact B0.alloc _
    replace B1 : Blk W3 (w.heap.size + 1) 24 y.cells := by rw [hW]; exact B1.alloc _
    replace B2 : Blk W3 (w.heap.size + 2) 24 XDyad.zero.cells := by rw [hW]; exact B2.alloc _
    replace B3 : Blk W3 (w.heap.size + 3) 24 XDyad.zero.cells := by rw [hW]; exact B3.alloc _
    have B4 : Blk W3 (W2.heap.size) 24 r0.cells := by rw [hW]; exact Blk.new (by simp)
    replace E : Ext w W3 := by rw [hW]; exact Ext.alloc' E _
    replace M_r0 : r0.mine W3 w.heap.size := by rw [hW]; exact M_r0.ext (Ext.alloc' (Ext.refl _) _)
    clear hW
    refine (ref02_Half r0 _ (M_r0.ok) (F_r0.out).1).mono ?_
    rw [D_r0.out, G1.out]
    rintro e W4 ⟨r1, rfl, hd, hm, hE⟩
    have hz := E.size
    replace B0 := B0.ext hE
    replace B1 := B1.ext hE
    replace B2 := B2.ext hE
    replace B3 := B3.ext hE
    replace B4 := B4.ext hE
    replace M_r0 := M_r0.ext hE
    replace E := E.trans hE
    clear hE
    have M_r1 : r1.mine W4 w.heap.size := XDyad.mine.lower ⟨hm⟩ hz
    have D_r1 := Lib.hid hd
    have F_r1 : Hid (Fine r1.data) := Lib.hid (by rw [hd]; exact halfD_fine _)
    clear hd hm hz
    have L4_4 := B4.lt
    go_wp2_with (first | ((with_reducible refine ld (B0.alloc _) (0) x.cells 24 (.tmp 2) ?_ ?_ ?_ ?_ ?_ ?_); (exact rfl); ((iterate 2 exact rfl); exact rfl; exact aggDyad)) | fail)
    refine calls_nm fun W5 hW => ?_
    replace B0 : Blk W5 (w.heap.size) 24 x.cells := by rw [hW]; exact B0.alloc _
    replace B1 : Blk W5 (w.heap.size + 1) 24 y.cells := by rw [hW]; exact B1.alloc _
    replace B2 : Blk W5 (w.heap.size + 2) 24 XDyad.zero.cells := by rw [hW]; exact B2.alloc _
    replace B3 : Blk W5 (w.heap.size + 3) 24 XDyad.zero.cells := by rw [hW]; exact B3.alloc _
    replace B4 : Blk W5 (W2.heap.size) 24 r0.cells := by rw [hW]; exact B4.alloc _
    have B5 : Blk W5 (W4.heap.size) 24 r1.cells := by rw [hW]; exact Blk.new (by simp)
    replace E : Ext w W5 := by rw [hW]; exact Ext.alloc' E _
    replace M_r0 : r0.mine W5 w.heap.size := by rw [hW]; exact M_r0.ext (Ext.alloc' (Ext.refl _) _)
    replace M_r1 : r1.mine W5 w.heap.size := by rw [hW]; exact M_r1.ext (Ext.alloc' (Ext.refl _) _)
    clear hW
    refine (ref02_Sub r1 x _ (M_r1.ok) (HX.out.ext E) (F_r1.out).1 (FX.out).1).mono ?_
    rw [D_r1.out, G2.out]
    rintro e W6 ⟨r2, rfl, hd, hm, hE⟩
    have hz := E.size
    replace B0 := B0.ext hE
    replace B1 := B1.ext hE
    replace B2 := B2.ext hE
    replace B3 := B3.ext hE
    replace B4 := B4.ext hE
    replace B5 := B5.ext hE
    replace M_r0 := M_r0.ext hE
    replace M_r1 := M_r1.ext hE
    replace E := E.trans hE
    clear hE
    have M_r2 : r2.mine W6 w.heap.size := XDyad.mine.lower ⟨hm⟩ hz
    have D_r2 := Lib.hid hd
    have F_r2 : Hid (Fine r2.data) := Lib.hid (by rw [hd]; exact subD_fine _ _)
    clear hd hm hz
    have L6_5 := B5.lt
    go_wp2_with (first | ((with_reducible refine st (B2.alloc _) (0) XDyad.zero.cells 24 (.tmp 4) (.tmp 42) ?_ ?_ ?_ ?_ ?_ ?_ ?_ fun W7 BR7 hO7 => ?_); (exact rfl); ((iterate 4 exact rfl); exact Nat.le_of_ble_eq_true rfl; exact aggDyad; replace M_r0 := (M_r0.ext (Ext.alloc' (Ext.refl _) _)).only (B2.alloc _) hO7 BR7 rfl (by decide); replace M_r1 := (M_r1.ext (Ext.alloc' (Ext.refl _) _)).only (B2.alloc _) hO7 BR7 rfl (by decide); replace M_r2 := (M_r2.ext (Ext.alloc' (Ext.refl _) _)).only (B2.alloc _) hO7 BR7 rfl (by decide); replace E := Only.ext (Ext.alloc' E _) hO7 (by omega); replace B0 := Blk.only (B0.alloc _) hO7 (by omega); replace B1 := Blk.only (B1.alloc _) hO7 (by omega); replace B3 := Blk.only (B3.alloc _) hO7 (by omega); replace B4 := Blk.only (B4.alloc _) hO7 (by omega); replace B5 := Blk.only (B5.alloc _) hO7 (by omega); have B6 : Blk W7 (W6.heap.size) 24 r2.cells := Blk.only (Blk.new (by simp)) hO7 (by omega); replace B2 : Blk W7 (w.heap.size + 2) 24 XDyad.zero.cells := BR7; clear BR7 hO7)) | ((with_reducible refine st (B3) (0) XDyad.zero.cells 24 (.tmp 5) (.tmp 43) ?_ ?_ ?_ ?_ ?_ ?_ ?_ fun W8 BR8 hO8 => ?_); (exact rfl); ((iterate 4 exact rfl); exact Nat.le_of_ble_eq_true rfl; exact aggDyad; replace M_r0 := M_r0.only (B3) hO8 BR8 rfl (by decide); replace M_r1 := M_r1.only (B3) hO8 BR8 rfl (by decide); replace M_r2 := M_r2.only (B3) hO8 BR8 rfl (by decide); replace E := Only.ext (E) hO8 (by omega); replace B0 := Blk.only (B0) hO8 (by omega); replace B1 := Blk.only (B1) hO8 (by omega); replace B2 := Blk.only (B2) hO8 (by omega); replace B4 := Blk.only (B4) hO8 (by omega); replace B5 := Blk.only (B5) hO8 (by omega); replace B6 := Blk.only (B6) hO8 (by omega); replace B3 : Blk W8 (w.heap.size + 3) 24 XDyad.zero.cells := BR8; clear BR8 hO8)) | fail)
    exact bodyPost_ret (results_cct rfl rfl (B2) aggDyad rfl (B3) aggDyad) rfl ⟨XDyad.zero, XDyad.zero, by rw [HR.out] <;> rfl, by rw [HR.out] <;> rfl, by rw [HR.out] <;> rfl, XDyad.zero_mine _ _, XDyad.zero_mine _ _, E⟩
  | ok h0 m0 h1 m1 h2 m2 =>
    have G0 := Lib.hid h0
    have G1 := Lib.hid h1
    have G2 := Lib.hid h2
    clear h0 h1 h2 m0 m1 m2
    go_enter Tryd.func100, Tryd.ntmps100
    go_wp2_with fail
    refine calls_nm fun W1 hW => ?_
    have B0 : Blk W1 (w.heap.size) 24 x.cells := by rw [hW]; exact (((Blk.new (by simp)).alloc _).alloc _).alloc _
    have B1 : Blk W1 (w.heap.size + 1) 24 y.cells := by rw [hW]; exact ((Blk.new (by simp)).alloc _).alloc _
    have B2 : Blk W1 (w.heap.size + 2) 24 XDyad.zero.cells := by rw [hW]; exact (Blk.new (by simp)).alloc _
    have B3 : Blk W1 (w.heap.size + 3) 24 XDyad.zero.cells := by rw [hW]; exact Blk.new (by simp)
    have E : Ext w W1 := by rw [hW]; exact Ext.alloc' (Ext.alloc' (Ext.alloc' (Ext.alloc' (Ext.refl _) _) _) _) _
    clear hW
    refine (ref02_Add x y _ (HX.out.ext E) (HY.out.ext E) (FX.out).1 (FY.out).1).mono ?_
    rw [G0.out]
    rintro e W2 ⟨r0, rfl, hd, hm, hE⟩
    have hz := E.size
    replace B0 := B0.ext hE
    replace B1 := B1.ext hE
    replace B2 := B2.ext hE
    replace B3 := B3.ext hE
    replace E := E.trans hE
    clear hE
    have M_r0 : r0.mine W2 w.heap.size := XDyad.mine.lower ⟨hm⟩ hz
    have D_r0 := Lib.hid hd
    have F_r0 : Hid (Fine r0.data) := Lib.hid (by rw [hd]; exact addD_fine _ _)
    clear hd hm hz
    have L2_3 := B3.lt
    go_wp2_with fail
    refine calls_nm fun W3 hW => ?_
    replace B0 : Blk W3 (w.heap.size) 24 x.cells := by rw [hW]; exact B0.alloc _
    replace B1 : Blk W3 (w.heap.size + 1) 24 y.cells := by rw [hW]; exact B1.alloc _
    replace B2 : Blk W3 (w.heap.size + 2) 24 XDyad.zero.cells := by rw [hW]; exact B2.alloc _
    replace B3 : Blk W3 (w.heap.size + 3) 24 XDyad.zero.cells := by rw [hW]; exact B3.alloc _
    have B4 : Blk W3 (W2.heap.size) 24 r0.cells := by rw [hW]; exact Blk.new (by simp)
    replace E : Ext w W3 := by rw [hW]; exact Ext.alloc' E _
    replace M_r0 : r0.mine W3 w.heap.size := by rw [hW]; exact M_r0.ext (Ext.alloc' (Ext.refl _) _)
    clear hW
    refine (ref02_Half r0 _ (M_r0.ok) (F_r0.out).1).mono ?_
    rw [D_r0.out, G1.out]
    rintro e W4 ⟨r1, rfl, hd, hm, hE⟩
    have hz := E.size
    replace B0 := B0.ext hE
    replace B1 := B1.ext hE
    replace B2 := B2.ext hE
    replace B3 := B3.ext hE
    replace B4 := B4.ext hE
    replace M_r0 := M_r0.ext hE
    replace E := E.trans hE
    clear hE
    have M_r1 : r1.mine W4 w.heap.size := XDyad.mine.lower ⟨hm⟩ hz
    have D_r1 := Lib.hid hd
    have F_r1 : Hid (Fine r1.data) := Lib.hid (by rw [hd]; exact halfD_fine _)
    clear hd hm hz
    have L4_4 := B4.lt
    go_wp2_with (first | ((with_reducible refine ld (B0.alloc _) (0) x.cells 24 (.tmp 2) ?_ ?_ ?_ ?_ ?_ ?_); (exact rfl); ((iterate 2 exact rfl); exact rfl; exact aggDyad)) | fail)
    refine calls_nm fun W5 hW => ?_
    replace B0 : Blk W5 (w.heap.size) 24 x.cells := by rw [hW]; exact B0.alloc _
    replace B1 : Blk W5 (w.heap.size + 1) 24 y.cells := by rw [hW]; exact B1.alloc _
    replace B2 : Blk W5 (w.heap.size + 2) 24 XDyad.zero.cells := by rw [hW]; exact B2.alloc _
    replace B3 : Blk W5 (w.heap.size + 3) 24 XDyad.zero.cells := by rw [hW]; exact B3.alloc _
    replace B4 : Blk W5 (W2.heap.size) 24 r0.cells := by rw [hW]; exact B4.alloc _
    have B5 : Blk W5 (W4.heap.size) 24 r1.cells := by rw [hW]; exact Blk.new (by simp)
    replace E : Ext w W5 := by rw [hW]; exact Ext.alloc' E _
    replace M_r0 : r0.mine W5 w.heap.size := by rw [hW]; exact M_r0.ext (Ext.alloc' (Ext.refl _) _)
    replace M_r1 : r1.mine W5 w.heap.size := by rw [hW]; exact M_r1.ext (Ext.alloc' (Ext.refl _) _)
    clear hW
    refine (ref02_Sub r1 x _ (M_r1.ok) (HX.out.ext E) (F_r1.out).1 (FX.out).1).mono ?_
    rw [D_r1.out, G2.out]
    rintro e W6 ⟨r2, rfl, hd, hm, hE⟩
    have hz := E.size
    replace B0 := B0.ext hE
    replace B1 := B1.ext hE
    replace B2 := B2.ext hE
    replace B3 := B3.ext hE
    replace B4 := B4.ext hE
    replace B5 := B5.ext hE
    replace M_r0 := M_r0.ext hE
    replace M_r1 := M_r1.ext hE
    replace E := E.trans hE
    clear hE
    have M_r2 : r2.mine W6 w.heap.size := XDyad.mine.lower ⟨hm⟩ hz
    have D_r2 := Lib.hid hd
    have F_r2 : Hid (Fine r2.data) := Lib.hid (by rw [hd]; exact subD_fine _ _)
    clear hd hm hz
    have L6_5 := B5.lt
    go_wp2_with fail
    refine wp_nm fun W7 hW => ?_
    replace B0 : Blk W7 (w.heap.size) 24 x.cells := by rw [hW]; exact B0.alloc _
    replace B1 : Blk W7 (w.heap.size + 1) 24 y.cells := by rw [hW]; exact B1.alloc _
    replace B2 : Blk W7 (w.heap.size + 2) 24 XDyad.zero.cells := by rw [hW]; exact B2.alloc _
    replace B3 : Blk W7 (w.heap.size + 3) 24 XDyad.zero.cells := by rw [hW]; exact B3.alloc _
    replace B4 : Blk W7 (W2.heap.size) 24 r0.cells := by rw [hW]; exact B4.alloc _
    replace B5 : Blk W7 (W4.heap.size) 24 r1.cells := by rw [hW]; exact B5.alloc _
    have B6 : Blk W7 (W6.heap.size) 24 r2.cells := by rw [hW]; exact Blk.new (by simp)
    replace E : Ext w W7 := by rw [hW]; exact Ext.alloc' E _
    replace M_r0 : r0.mine W7 w.heap.size := by rw [hW]; exact M_r0.ext (Ext.alloc' (Ext.refl _) _)
    replace M_r1 : r1.mine W7 w.heap.size := by rw [hW]; exact M_r1.ext (Ext.alloc' (Ext.refl _) _)
    replace M_r2 : r2.mine W7 w.heap.size := by rw [hW]; exact M_r2.ext (Ext.alloc' (Ext.refl _) _)
    clear hW
    refine FG.wp_region_flowTail 3 (fun w' => W7.heap.size ≤ w'.heap.size ∧ Blk w' (W6.heap.size) 24 r2.cells) (Ext W7) Ext (chK W7 [] [2] [0] []) [] (by kernel_rfl) (by kernel_rfl) (by kernel_rfl) (fun _ _ h => Ext.size h) ⟨Nat.le_refl _, Blk.drew B6⟩ (chK_early (Ext.drew _)) (Ext.drew _) (fun _ _ h k => h.trans k) ?_
    refine FG.ftext_load_early (Ext W7) 24 _ rfl rfl rfl (W4.heap.size) (0) (r1.cells) rfl aggDyad (fun w1 _ hE => Blk.at (n := 3) (B5.ext hE) rfl) (fun K hK => ?_)
    go_simp; refine hK _ ?_; clear hK K
    refine FG.ftext_load_row 24 _ rfl rfl rfl (W6.heap.size) (0) (r2.cells) rfl aggDyad (fun w1 hC => Blk.at (n := 3) hC.2 rfl) (fun K hK => ?_)
    go_simp; refine hK _ ?_; clear hK K
    refine FG.ftext_store 24 _ _ (fun W' => ∃ (V0 : World), Ext W7 V0 ∧ Blk W' (w.heap.size + 2) 24 r1.cells ∧ Only V0 W' (w.heap.size + 2)) rfl rfl rfl (fun w1 hC hJ hF => ?_) (fun K hK => ?_)
    · have jE := hJ
      exact ⟨w.heap.size + 2, 0, 24, XDyad.zero.cells, r1.cells, rfl, rfl, aggDyad, (B2.ext jE), Nat.le_of_ble_eq_true rfl, rfl, fun w' BR hO => ⟨⟨by show _ ≤ _; rw [hO.size]; exact hC.1, Blk.only hC.2 hO (by omega)⟩, w1, jE, BR, hO⟩⟩
    go_simp; refine hK _ ?_; clear hK K
    refine FG.ftext_nil ?_
    rintro W8 _ ⟨V0, jE, jB0, jO0⟩ hF
    clear hF
    have hz := E.size
    replace M_r0 : r0.mine W8 w.heap.size := ((M_r0.ext jE).only (B2.ext jE) jO0 jB0 rfl (by decide))
    replace M_r1 : r1.mine W8 w.heap.size := ((M_r1.ext jE).only (B2.ext jE) jO0 jB0 rfl (by decide))
    replace M_r2 : r2.mine W8 w.heap.size := ((M_r2.ext jE).only (B2.ext jE) jO0 jB0 rfl (by decide))
    replace B0 : Blk W8 (w.heap.size) 24 x.cells := (Blk.only (B0.ext jE) jO0 (by omega))
    replace B1 : Blk W8 (w.heap.size + 1) 24 y.cells := (Blk.only (B1.ext jE) jO0 (by omega))
    replace B2 : Blk W8 (w.heap.size + 2) 24 r1.cells := jB0
    replace B3 : Blk W8 (w.heap.size + 3) 24 XDyad.zero.cells := (Blk.only (B3.ext jE) jO0 (by omega))
    replace B4 : Blk W8 (W2.heap.size) 24 r0.cells := (Blk.only (B4.ext jE) jO0 (by omega))
    replace B5 : Blk W8 (W4.heap.size) 24 r1.cells := (Blk.only (B5.ext jE) jO0 (by omega))
    replace B6 : Blk W8 (W6.heap.size) 24 r2.cells := (Blk.only (B6.ext jE) jO0 (by omega))
    replace E : Ext w W8 := Only.ext (E.trans jE) jO0 (by omega)
    clear hz jE jB0 jO0
    simp only [List.drop_succ_cons, List.drop_zero]
    gi_wp2_with (first | ((with_reducible refine stIn Open.wide (B3) (0) r2.cells 24 (.tmp 5) (.tmp 46) ?_ ?_ ?_ ?_ ?_ ?_ ?_ fun W9 BR9 hO9 => ?_); (exact rfl); ((iterate 4 exact rfl); exact Nat.le_of_ble_eq_true rfl; exact aggDyad; replace M_r0 := M_r0.only (B3) hO9 BR9 rfl (by decide); replace M_r1 := M_r1.only (B3) hO9 BR9 rfl (by decide); replace M_r2 := M_r2.only (B3) hO9 BR9 rfl (by decide); replace E := Only.ext (E) hO9 (by omega); replace B0 := Blk.only (B0) hO9 (by omega); replace B1 := Blk.only (B1) hO9 (by omega); replace B2 := Blk.only (B2) hO9 (by omega); replace B4 := Blk.only (B4) hO9 (by omega); replace B5 := Blk.only (B5) hO9 (by omega); replace B6 := Blk.only (B6) hO9 (by omega); replace B3 : Blk W9 (w.heap.size + 3) 24 r2.cells := BR9; clear BR9 hO9)) | fail)
    go_wp2_with fail
    exact bodyPost_ret (results_cct rfl rfl (B2) aggDyad rfl (B3) aggDyad) rfl ⟨r1, r2, by rw [HR.out] <;> rfl, by rw [HR.out, D_r1.out] <;> rfl, by rw [HR.out, D_r2.out] <;> rfl, M_r1, M_r2, E⟩
set_option maxRecDepth 100000 in
set_option maxHeartbeats 4000000 in
theorem mean_middle (x y : XDyad) (w : World) (hx : x.ok w w.heap.size) (hy : y.ok w w.heap.size) (fx : Fine x.data) (fy : Fine y.data) (mx : mayD x.data) (my : mayD y.data) (hT : Tab w) :
    Calls Tryd.prog 98 #[.agg #[.bool x.neg, .slice x.limbs.A x.limbs.l.length x.limbs.c, .int .i64 x.exp], .agg #[.bool y.neg, .slice y.limbs.A y.limbs.l.length y.limbs.c, .int .i64 y.exp]] w fun e w' => ∃ m d : XDyad, e = .returned (.tuple #[.agg #[.bool m.neg, .slice m.limbs.A m.limbs.l.length m.limbs.c, .int .i64 m.exp], .agg #[.bool d.neg, .slice d.limbs.A d.limbs.l.length d.limbs.c, .int .i64 d.exp], .int .i64 (middleD x.data y.data).2.2]) ∧ m.data = (middleD x.data y.data).1 ∧ d.data = (middleD x.data y.data).2.1 ∧ m.mine w' w.heap.size ∧ d.mine w' w.heap.size ∧ Ext w w' := by
  have HX := Lib.hid hx
  have FX := Lib.hid fx
  have HY := Lib.hid hy
  have FY := Lib.hid fy
  have HT := Lib.hid hT
  clear hx fx hy fy hT
  have hP := midP mx my
  clear mx my
  obtain ⟨R, hR⟩ : ∃ R, middleD x.data y.data = R := ⟨_, rfl⟩
  rw [hR] at hP
  have HR := Lib.hid hR
  clear hR
  cases hP with
  | add h =>
    have G0 := Lib.hid h
    clear h
    go_enter Tryd.func98, Tryd.ntmps98
    go_wp2_with fail
    refine wp_scope_fwd 0 rfl ?_
    go_wp2_with fail
    refine calls_nm fun W1 hW => ?_
    have B0 : Blk W1 (w.heap.size) 24 x.cells := by rw [hW]; exact (((Blk.new (by simp)).alloc _).alloc _).alloc _
    have B1 : Blk W1 (w.heap.size + 1) 24 y.cells := by rw [hW]; exact ((Blk.new (by simp)).alloc _).alloc _
    have B2 : Blk W1 (w.heap.size + 2) 24 XDyad.zero.cells := by rw [hW]; exact (Blk.new (by simp)).alloc _
    have B3 : Blk W1 (w.heap.size + 3) 24 XDyad.zero.cells := by rw [hW]; exact Blk.new (by simp)
    have E : Ext w W1 := by rw [hW]; exact Ext.alloc' (Ext.alloc' (Ext.alloc' (Ext.alloc' (Ext.refl _) _) _) _) _
    clear hW
    refine (dyad_Add x y _ (HX.out.ext E) (HY.out.ext E) (FX.out).1 (FY.out).1 (HT.out.ext E)).mono ?_
    rw [G0.out]
    rintro e W2 ⟨r0, rfl, hd, hm, hE⟩
    have hz := E.size
    replace B0 := B0.ext hE
    replace B1 := B1.ext hE
    replace B2 := B2.ext hE
    replace B3 := B3.ext hE
    replace E := E.trans hE
    clear hE
    have M_r0 : r0.mine W2 w.heap.size := XDyad.mine.lower hm hz
    have D_r0 := Lib.hid hd
    have F_r0 : Hid (Fine r0.data) := Lib.hid (by rw [hd]; exact addD_fine _ _)
    clear hd hm hz
    go_wp2_with (first | ((with_reducible refine st (B2) (0) r0.cells 24 (.tmp 4) (.tmp 11) ?_ ?_ ?_ ?_ ?_ ?_ ?_ fun W3 BR3 hO3 => ?_); (exact rfl); ((iterate 4 exact rfl); exact Nat.le_of_ble_eq_true rfl; exact aggDyad; replace M_r0 := M_r0.only (B2) hO3 BR3 rfl (by decide); replace E := Only.ext (E) hO3 (by omega); replace B0 := Blk.only (B0) hO3 (by omega); replace B1 := Blk.only (B1) hO3 (by omega); replace B3 := Blk.only (B3) hO3 (by omega); replace B2 : Blk W3 (w.heap.size + 2) 24 r0.cells := BR3; clear BR3 hO3)) | fail)
    refine wp_goto (And.intro rfl ?_)
    show Code.wp _ _ _ _ _
    go_wp2_with (first | ((with_reducible refine st (B2) (0) XDyad.zero.cells 24 (.tmp 4) (.tmp 32) ?_ ?_ ?_ ?_ ?_ ?_ ?_ fun W4 BR4 hO4 => ?_); (exact rfl); ((iterate 4 exact rfl); exact Nat.le_of_ble_eq_true rfl; exact aggDyad; replace M_r0 := M_r0.only (B2) hO4 BR4 rfl (by decide); replace E := Only.ext (E) hO4 (by omega); replace B0 := Blk.only (B0) hO4 (by omega); replace B1 := Blk.only (B1) hO4 (by omega); replace B3 := Blk.only (B3) hO4 (by omega); replace B2 : Blk W4 (w.heap.size + 2) 24 XDyad.zero.cells := BR4; clear BR4 hO4)) | ((with_reducible refine st (B3) (0) XDyad.zero.cells 24 (.tmp 5) (.tmp 33) ?_ ?_ ?_ ?_ ?_ ?_ ?_ fun W5 BR5 hO5 => ?_); (exact rfl); ((iterate 4 exact rfl); exact Nat.le_of_ble_eq_true rfl; exact aggDyad; replace M_r0 := M_r0.only (B3) hO5 BR5 rfl (by decide); replace E := Only.ext (E) hO5 (by omega); replace B0 := Blk.only (B0) hO5 (by omega); replace B1 := Blk.only (B1) hO5 (by omega); replace B2 := Blk.only (B2) hO5 (by omega); replace B3 : Blk W5 (w.heap.size + 3) 24 XDyad.zero.cells := BR5; clear BR5 hO5)) | fail)
    refine jump_ret ?_
    exact bodyPost_ret (results_cct rfl rfl (B2) aggDyad rfl (B3) aggDyad) rfl ⟨XDyad.zero, XDyad.zero, by rw [HR.out] <;> rfl, by rw [HR.out] <;> rfl, by rw [HR.out] <;> rfl, XDyad.zero_mine _ _, XDyad.zero_mine _ _, E⟩
  | half h0 m0 h =>
    have G0 := Lib.hid h0
    have G1 := Lib.hid h
    clear h h0 m0
    go_enter Tryd.func98, Tryd.ntmps98
    go_wp2_with fail
    refine wp_scope_fwd 0 rfl ?_
    go_wp2_with fail
    refine calls_nm fun W1 hW => ?_
    have B0 : Blk W1 (w.heap.size) 24 x.cells := by rw [hW]; exact (((Blk.new (by simp)).alloc _).alloc _).alloc _
    have B1 : Blk W1 (w.heap.size + 1) 24 y.cells := by rw [hW]; exact ((Blk.new (by simp)).alloc _).alloc _
    have B2 : Blk W1 (w.heap.size + 2) 24 XDyad.zero.cells := by rw [hW]; exact (Blk.new (by simp)).alloc _
    have B3 : Blk W1 (w.heap.size + 3) 24 XDyad.zero.cells := by rw [hW]; exact Blk.new (by simp)
    have E : Ext w W1 := by rw [hW]; exact Ext.alloc' (Ext.alloc' (Ext.alloc' (Ext.alloc' (Ext.refl _) _) _) _) _
    clear hW
    refine (dyad_Add x y _ (HX.out.ext E) (HY.out.ext E) (FX.out).1 (FY.out).1 (HT.out.ext E)).mono ?_
    rw [G0.out]
    rintro e W2 ⟨r0, rfl, hd, hm, hE⟩
    have hz := E.size
    replace B0 := B0.ext hE
    replace B1 := B1.ext hE
    replace B2 := B2.ext hE
    replace B3 := B3.ext hE
    replace E := E.trans hE
    clear hE
    have M_r0 : r0.mine W2 w.heap.size := XDyad.mine.lower hm hz
    have D_r0 := Lib.hid hd
    have F_r0 : Hid (Fine r0.data) := Lib.hid (by rw [hd]; exact addD_fine _ _)
    clear hd hm hz
    go_wp2_with (first | ((with_reducible refine st (B2) (0) r0.cells 24 (.tmp 4) (.tmp 11) ?_ ?_ ?_ ?_ ?_ ?_ ?_ fun W3 BR3 hO3 => ?_); (exact rfl); ((iterate 4 exact rfl); exact Nat.le_of_ble_eq_true rfl; exact aggDyad; replace M_r0 := M_r0.only (B2) hO3 BR3 rfl (by decide); replace E := Only.ext (E) hO3 (by omega); replace B0 := Blk.only (B0) hO3 (by omega); replace B1 := Blk.only (B1) hO3 (by omega); replace B3 := Blk.only (B3) hO3 (by omega); replace B2 : Blk W3 (w.heap.size + 2) 24 r0.cells := BR3; clear BR3 hO3)) | ((with_reducible refine ld B2 (0) r0.cells 24 (.tmp 4) ?_ ?_ ?_ ?_ ?_ ?_); (exact rfl); ((iterate 2 exact rfl); exact rfl; exact aggDyad)) | fail)
    refine (dyad_Half r0 _ (M_r0.ok) (F_r0.out).1 (HT.out.ext E)).mono ?_
    rw [D_r0.out, G1.out]
    rintro e W4 ⟨r1, rfl, hd, hm, hE⟩
    have hz := E.size
    replace B0 := B0.ext hE
    replace B1 := B1.ext hE
    replace B2 := B2.ext hE
    replace B3 := B3.ext hE
    replace M_r0 := M_r0.ext hE
    replace E := E.trans hE
    clear hE
    have M_r1 : r1.mine W4 w.heap.size := XDyad.mine.lower hm hz
    have D_r1 := Lib.hid hd
    have F_r1 : Hid (Fine r1.data) := Lib.hid (by rw [hd]; exact halfD_fine _)
    clear hd hm hz
    go_wp2_with (first | ((with_reducible refine st (B2) (0) r1.cells 24 (.tmp 4) (.tmp 18) ?_ ?_ ?_ ?_ ?_ ?_ ?_ fun W5 BR5 hO5 => ?_); (exact rfl); ((iterate 4 exact rfl); exact Nat.le_of_ble_eq_true rfl; exact aggDyad; replace M_r0 := M_r0.only (B2) hO5 BR5 rfl (by decide); replace M_r1 := M_r1.only (B2) hO5 BR5 rfl (by decide); replace E := Only.ext (E) hO5 (by omega); replace B0 := Blk.only (B0) hO5 (by omega); replace B1 := Blk.only (B1) hO5 (by omega); replace B3 := Blk.only (B3) hO5 (by omega); replace B2 : Blk W5 (w.heap.size + 2) 24 r1.cells := BR5; clear BR5 hO5)) | fail)
    refine wp_goto (And.intro rfl ?_)
    show Code.wp _ _ _ _ _
    go_wp2_with (first | ((with_reducible refine st (B2) (0) XDyad.zero.cells 24 (.tmp 4) (.tmp 32) ?_ ?_ ?_ ?_ ?_ ?_ ?_ fun W6 BR6 hO6 => ?_); (exact rfl); ((iterate 4 exact rfl); exact Nat.le_of_ble_eq_true rfl; exact aggDyad; replace M_r0 := M_r0.only (B2) hO6 BR6 rfl (by decide); replace M_r1 := M_r1.only (B2) hO6 BR6 rfl (by decide); replace E := Only.ext (E) hO6 (by omega); replace B0 := Blk.only (B0) hO6 (by omega); replace B1 := Blk.only (B1) hO6 (by omega); replace B3 := Blk.only (B3) hO6 (by omega); replace B2 : Blk W6 (w.heap.size + 2) 24 XDyad.zero.cells := BR6; clear BR6 hO6)) | ((with_reducible refine st (B3) (0) XDyad.zero.cells 24 (.tmp 5) (.tmp 33) ?_ ?_ ?_ ?_ ?_ ?_ ?_ fun W7 BR7 hO7 => ?_); (exact rfl); ((iterate 4 exact rfl); exact Nat.le_of_ble_eq_true rfl; exact aggDyad; replace M_r0 := M_r0.only (B3) hO7 BR7 rfl (by decide); replace M_r1 := M_r1.only (B3) hO7 BR7 rfl (by decide); replace E := Only.ext (E) hO7 (by omega); replace B0 := Blk.only (B0) hO7 (by omega); replace B1 := Blk.only (B1) hO7 (by omega); replace B2 := Blk.only (B2) hO7 (by omega); replace B3 : Blk W7 (w.heap.size + 3) 24 XDyad.zero.cells := BR7; clear BR7 hO7)) | fail)
    refine jump_ret ?_
    exact bodyPost_ret (results_cct rfl rfl (B2) aggDyad rfl (B3) aggDyad) rfl ⟨XDyad.zero, XDyad.zero, by rw [HR.out] <;> rfl, by rw [HR.out] <;> rfl, by rw [HR.out] <;> rfl, XDyad.zero_mine _ _, XDyad.zero_mine _ _, E⟩
  | sub h0 m0 h1 m1 h =>
    have G0 := Lib.hid h0
    have G1 := Lib.hid h1
    have G2 := Lib.hid h
    clear h h0 h1 m0 m1
    go_enter Tryd.func98, Tryd.ntmps98
    go_wp2_with fail
    refine wp_scope_fwd 0 rfl ?_
    go_wp2_with fail
    refine calls_nm fun W1 hW => ?_
    have B0 : Blk W1 (w.heap.size) 24 x.cells := by rw [hW]; exact (((Blk.new (by simp)).alloc _).alloc _).alloc _
    have B1 : Blk W1 (w.heap.size + 1) 24 y.cells := by rw [hW]; exact ((Blk.new (by simp)).alloc _).alloc _
    have B2 : Blk W1 (w.heap.size + 2) 24 XDyad.zero.cells := by rw [hW]; exact (Blk.new (by simp)).alloc _
    have B3 : Blk W1 (w.heap.size + 3) 24 XDyad.zero.cells := by rw [hW]; exact Blk.new (by simp)
    have E : Ext w W1 := by rw [hW]; exact Ext.alloc' (Ext.alloc' (Ext.alloc' (Ext.alloc' (Ext.refl _) _) _) _) _
    clear hW
    refine (dyad_Add x y _ (HX.out.ext E) (HY.out.ext E) (FX.out).1 (FY.out).1 (HT.out.ext E)).mono ?_
    rw [G0.out]
    rintro e W2 ⟨r0, rfl, hd, hm, hE⟩
    have hz := E.size
    replace B0 := B0.ext hE
    replace B1 := B1.ext hE
    replace B2 := B2.ext hE
    replace B3 := B3.ext hE
    replace E := E.trans hE
    clear hE
    have M_r0 : r0.mine W2 w.heap.size := XDyad.mine.lower hm hz
    have D_r0 := Lib.hid hd
    have F_r0 : Hid (Fine r0.data) := Lib.hid (by rw [hd]; exact addD_fine _ _)
    clear hd hm hz
    go_wp2_with (first | ((with_reducible refine st (B2) (0) r0.cells 24 (.tmp 4) (.tmp 11) ?_ ?_ ?_ ?_ ?_ ?_ ?_ fun W3 BR3 hO3 => ?_); (exact rfl); ((iterate 4 exact rfl); exact Nat.le_of_ble_eq_true rfl; exact aggDyad; replace M_r0 := M_r0.only (B2) hO3 BR3 rfl (by decide); replace E := Only.ext (E) hO3 (by omega); replace B0 := Blk.only (B0) hO3 (by omega); replace B1 := Blk.only (B1) hO3 (by omega); replace B3 := Blk.only (B3) hO3 (by omega); replace B2 : Blk W3 (w.heap.size + 2) 24 r0.cells := BR3; clear BR3 hO3)) | ((with_reducible refine ld B2 (0) r0.cells 24 (.tmp 4) ?_ ?_ ?_ ?_ ?_ ?_); (exact rfl); ((iterate 2 exact rfl); exact rfl; exact aggDyad)) | fail)
    refine (dyad_Half r0 _ (M_r0.ok) (F_r0.out).1 (HT.out.ext E)).mono ?_
    rw [D_r0.out, G1.out]
    rintro e W4 ⟨r1, rfl, hd, hm, hE⟩
    have hz := E.size
    replace B0 := B0.ext hE
    replace B1 := B1.ext hE
    replace B2 := B2.ext hE
    replace B3 := B3.ext hE
    replace M_r0 := M_r0.ext hE
    replace E := E.trans hE
    clear hE
    have M_r1 : r1.mine W4 w.heap.size := XDyad.mine.lower hm hz
    have D_r1 := Lib.hid hd
    have F_r1 : Hid (Fine r1.data) := Lib.hid (by rw [hd]; exact halfD_fine _)
    clear hd hm hz
    go_wp2_with (first | ((with_reducible refine st (B2) (0) r1.cells 24 (.tmp 4) (.tmp 18) ?_ ?_ ?_ ?_ ?_ ?_ ?_ fun W5 BR5 hO5 => ?_); (exact rfl); ((iterate 4 exact rfl); exact Nat.le_of_ble_eq_true rfl; exact aggDyad; replace M_r0 := M_r0.only (B2) hO5 BR5 rfl (by decide); replace M_r1 := M_r1.only (B2) hO5 BR5 rfl (by decide); replace E := Only.ext (E) hO5 (by omega); replace B0 := Blk.only (B0) hO5 (by omega); replace B1 := Blk.only (B1) hO5 (by omega); replace B3 := Blk.only (B3) hO5 (by omega); replace B2 : Blk W5 (w.heap.size + 2) 24 r1.cells := BR5; clear BR5 hO5)) | ((with_reducible refine ld B2 (0) r1.cells 24 (.tmp 4) ?_ ?_ ?_ ?_ ?_ ?_); (exact rfl); ((iterate 2 exact rfl); exact rfl; exact aggDyad)) | ((with_reducible refine ld B0 (0) x.cells 24 (.tmp 2) ?_ ?_ ?_ ?_ ?_ ?_); (exact rfl); ((iterate 2 exact rfl); exact rfl; exact aggDyad)) | fail)
    refine (dyad_Sub r1 x _ (M_r1.ok) (HX.out.ext E) (F_r1.out).1 (FX.out).1 (HT.out.ext E)).mono ?_
    rw [D_r1.out, G2.out]
    rintro e W6 ⟨r2, rfl, hd, hm, hE⟩
    have hz := E.size
    replace B0 := B0.ext hE
    replace B1 := B1.ext hE
    replace B2 := B2.ext hE
    replace B3 := B3.ext hE
    replace M_r0 := M_r0.ext hE
    replace M_r1 := M_r1.ext hE
    replace E := E.trans hE
    clear hE
    have M_r2 : r2.mine W6 w.heap.size := XDyad.mine.lower hm hz
    have D_r2 := Lib.hid hd
    have F_r2 : Hid (Fine r2.data) := Lib.hid (by rw [hd]; exact subD_fine _ _)
    clear hd hm hz
    go_wp2_with (first | ((with_reducible refine st (B3) (0) r2.cells 24 (.tmp 5) (.tmp 26) ?_ ?_ ?_ ?_ ?_ ?_ ?_ fun W7 BR7 hO7 => ?_); (exact rfl); ((iterate 4 exact rfl); exact Nat.le_of_ble_eq_true rfl; exact aggDyad; replace M_r0 := M_r0.only (B3) hO7 BR7 rfl (by decide); replace M_r1 := M_r1.only (B3) hO7 BR7 rfl (by decide); replace M_r2 := M_r2.only (B3) hO7 BR7 rfl (by decide); replace E := Only.ext (E) hO7 (by omega); replace B0 := Blk.only (B0) hO7 (by omega); replace B1 := Blk.only (B1) hO7 (by omega); replace B2 := Blk.only (B2) hO7 (by omega); replace B3 : Blk W7 (w.heap.size + 3) 24 r2.cells := BR7; clear BR7 hO7)) | fail)
    refine wp_goto (And.intro rfl ?_)
    show Code.wp _ _ _ _ _
    go_wp2_with (first | ((with_reducible refine st (B2) (0) XDyad.zero.cells 24 (.tmp 4) (.tmp 32) ?_ ?_ ?_ ?_ ?_ ?_ ?_ fun W8 BR8 hO8 => ?_); (exact rfl); ((iterate 4 exact rfl); exact Nat.le_of_ble_eq_true rfl; exact aggDyad; replace M_r0 := M_r0.only (B2) hO8 BR8 rfl (by decide); replace M_r1 := M_r1.only (B2) hO8 BR8 rfl (by decide); replace M_r2 := M_r2.only (B2) hO8 BR8 rfl (by decide); replace E := Only.ext (E) hO8 (by omega); replace B0 := Blk.only (B0) hO8 (by omega); replace B1 := Blk.only (B1) hO8 (by omega); replace B3 := Blk.only (B3) hO8 (by omega); replace B2 : Blk W8 (w.heap.size + 2) 24 XDyad.zero.cells := BR8; clear BR8 hO8)) | ((with_reducible refine st (B3) (0) XDyad.zero.cells 24 (.tmp 5) (.tmp 33) ?_ ?_ ?_ ?_ ?_ ?_ ?_ fun W9 BR9 hO9 => ?_); (exact rfl); ((iterate 4 exact rfl); exact Nat.le_of_ble_eq_true rfl; exact aggDyad; replace M_r0 := M_r0.only (B3) hO9 BR9 rfl (by decide); replace M_r1 := M_r1.only (B3) hO9 BR9 rfl (by decide); replace M_r2 := M_r2.only (B3) hO9 BR9 rfl (by decide); replace E := Only.ext (E) hO9 (by omega); replace B0 := Blk.only (B0) hO9 (by omega); replace B1 := Blk.only (B1) hO9 (by omega); replace B2 := Blk.only (B2) hO9 (by omega); replace B3 : Blk W9 (w.heap.size + 3) 24 XDyad.zero.cells := BR9; clear BR9 hO9)) | fail)
    refine jump_ret ?_
    exact bodyPost_ret (results_cct rfl rfl (B2) aggDyad rfl (B3) aggDyad) rfl ⟨XDyad.zero, XDyad.zero, by rw [HR.out] <;> rfl, by rw [HR.out] <;> rfl, by rw [HR.out] <;> rfl, XDyad.zero_mine _ _, XDyad.zero_mine _ _, E⟩
  | ok h0 m0 h1 m1 h2 m2 =>
    have G0 := Lib.hid h0
    have G1 := Lib.hid h1
    have G2 := Lib.hid h2
    clear h0 h1 h2 m0 m1 m2
    go_enter Tryd.func98, Tryd.ntmps98
    go_wp2_with fail
    refine wp_scope_fwd 0 rfl ?_
    go_wp2_with fail
    refine calls_nm fun W1 hW => ?_
    have B0 : Blk W1 (w.heap.size) 24 x.cells := by rw [hW]; exact (((Blk.new (by simp)).alloc _).alloc _).alloc _
    have B1 : Blk W1 (w.heap.size + 1) 24 y.cells := by rw [hW]; exact ((Blk.new (by simp)).alloc _).alloc _
    have B2 : Blk W1 (w.heap.size + 2) 24 XDyad.zero.cells := by rw [hW]; exact (Blk.new (by simp)).alloc _
    have B3 : Blk W1 (w.heap.size + 3) 24 XDyad.zero.cells := by rw [hW]; exact Blk.new (by simp)
    have E : Ext w W1 := by rw [hW]; exact Ext.alloc' (Ext.alloc' (Ext.alloc' (Ext.alloc' (Ext.refl _) _) _) _) _
    clear hW
    refine (dyad_Add x y _ (HX.out.ext E) (HY.out.ext E) (FX.out).1 (FY.out).1 (HT.out.ext E)).mono ?_
    rw [G0.out]
    rintro e W2 ⟨r0, rfl, hd, hm, hE⟩
    have hz := E.size
    replace B0 := B0.ext hE
    replace B1 := B1.ext hE
    replace B2 := B2.ext hE
    replace B3 := B3.ext hE
    replace E := E.trans hE
    clear hE
    have M_r0 : r0.mine W2 w.heap.size := XDyad.mine.lower hm hz
    have D_r0 := Lib.hid hd
    have F_r0 : Hid (Fine r0.data) := Lib.hid (by rw [hd]; exact addD_fine _ _)
    clear hd hm hz
    go_wp2_with (first | ((with_reducible refine st (B2) (0) r0.cells 24 (.tmp 4) (.tmp 11) ?_ ?_ ?_ ?_ ?_ ?_ ?_ fun W3 BR3 hO3 => ?_); (exact rfl); ((iterate 4 exact rfl); exact Nat.le_of_ble_eq_true rfl; exact aggDyad; replace M_r0 := M_r0.only (B2) hO3 BR3 rfl (by decide); replace E := Only.ext (E) hO3 (by omega); replace B0 := Blk.only (B0) hO3 (by omega); replace B1 := Blk.only (B1) hO3 (by omega); replace B3 := Blk.only (B3) hO3 (by omega); replace B2 : Blk W3 (w.heap.size + 2) 24 r0.cells := BR3; clear BR3 hO3)) | ((with_reducible refine ld B2 (0) r0.cells 24 (.tmp 4) ?_ ?_ ?_ ?_ ?_ ?_); (exact rfl); ((iterate 2 exact rfl); exact rfl; exact aggDyad)) | fail)
    refine (dyad_Half r0 _ (M_r0.ok) (F_r0.out).1 (HT.out.ext E)).mono ?_
    rw [D_r0.out, G1.out]
    rintro e W4 ⟨r1, rfl, hd, hm, hE⟩
    have hz := E.size
    replace B0 := B0.ext hE
    replace B1 := B1.ext hE
    replace B2 := B2.ext hE
    replace B3 := B3.ext hE
    replace M_r0 := M_r0.ext hE
    replace E := E.trans hE
    clear hE
    have M_r1 : r1.mine W4 w.heap.size := XDyad.mine.lower hm hz
    have D_r1 := Lib.hid hd
    have F_r1 : Hid (Fine r1.data) := Lib.hid (by rw [hd]; exact halfD_fine _)
    clear hd hm hz
    go_wp2_with (first | ((with_reducible refine st (B2) (0) r1.cells 24 (.tmp 4) (.tmp 18) ?_ ?_ ?_ ?_ ?_ ?_ ?_ fun W5 BR5 hO5 => ?_); (exact rfl); ((iterate 4 exact rfl); exact Nat.le_of_ble_eq_true rfl; exact aggDyad; replace M_r0 := M_r0.only (B2) hO5 BR5 rfl (by decide); replace M_r1 := M_r1.only (B2) hO5 BR5 rfl (by decide); replace E := Only.ext (E) hO5 (by omega); replace B0 := Blk.only (B0) hO5 (by omega); replace B1 := Blk.only (B1) hO5 (by omega); replace B3 := Blk.only (B3) hO5 (by omega); replace B2 : Blk W5 (w.heap.size + 2) 24 r1.cells := BR5; clear BR5 hO5)) | ((with_reducible refine ld B2 (0) r1.cells 24 (.tmp 4) ?_ ?_ ?_ ?_ ?_ ?_); (exact rfl); ((iterate 2 exact rfl); exact rfl; exact aggDyad)) | ((with_reducible refine ld B0 (0) x.cells 24 (.tmp 2) ?_ ?_ ?_ ?_ ?_ ?_); (exact rfl); ((iterate 2 exact rfl); exact rfl; exact aggDyad)) | fail)
    refine (dyad_Sub r1 x _ (M_r1.ok) (HX.out.ext E) (F_r1.out).1 (FX.out).1 (HT.out.ext E)).mono ?_
    rw [D_r1.out, G2.out]
    rintro e W6 ⟨r2, rfl, hd, hm, hE⟩
    have hz := E.size
    replace B0 := B0.ext hE
    replace B1 := B1.ext hE
    replace B2 := B2.ext hE
    replace B3 := B3.ext hE
    replace M_r0 := M_r0.ext hE
    replace M_r1 := M_r1.ext hE
    replace E := E.trans hE
    clear hE
    have M_r2 : r2.mine W6 w.heap.size := XDyad.mine.lower hm hz
    have D_r2 := Lib.hid hd
    have F_r2 : Hid (Fine r2.data) := Lib.hid (by rw [hd]; exact subD_fine _ _)
    clear hd hm hz
    go_wp2_with (first | ((with_reducible refine st (B3) (0) r2.cells 24 (.tmp 5) (.tmp 26) ?_ ?_ ?_ ?_ ?_ ?_ ?_ fun W7 BR7 hO7 => ?_); (exact rfl); ((iterate 4 exact rfl); exact Nat.le_of_ble_eq_true rfl; exact aggDyad; replace M_r0 := M_r0.only (B3) hO7 BR7 rfl (by decide); replace M_r1 := M_r1.only (B3) hO7 BR7 rfl (by decide); replace M_r2 := M_r2.only (B3) hO7 BR7 rfl (by decide); replace E := Only.ext (E) hO7 (by omega); replace B0 := Blk.only (B0) hO7 (by omega); replace B1 := Blk.only (B1) hO7 (by omega); replace B2 := Blk.only (B2) hO7 (by omega); replace B3 : Blk W7 (w.heap.size + 3) 24 r2.cells := BR7; clear BR7 hO7)) | fail)
    refine FG.wp_region_flowTail 3 (fun w' => W7.heap.size ≤ w'.heap.size ∧ Blk w' (w.heap.size + 3) 24 r2.cells) (Ext W7) Ext (chK W7 [] [2] [0] []) [] (by kernel_rfl) (by kernel_rfl) (by kernel_rfl) (fun _ _ h => Ext.size h) ⟨Nat.le_refl _, Blk.drew B3⟩ (chK_early (Ext.drew _)) (Ext.drew _) (fun _ _ h k => h.trans k) ?_
    refine FG.ftext_load_early (Ext W7) 24 _ rfl rfl rfl (w.heap.size + 2) (0) (r1.cells) rfl aggDyad (fun w1 _ hE => Blk.at (n := 3) (B2.ext hE) rfl) (fun K hK => ?_)
    go_simp; refine hK _ ?_; clear hK K
    refine FG.ftext_load_row 24 _ rfl rfl rfl (w.heap.size + 3) (0) (r2.cells) rfl aggDyad (fun w1 hC => Blk.at (n := 3) hC.2 rfl) (fun K hK => ?_)
    go_simp; refine hK _ ?_; clear hK K
    refine FG.ftext_store 24 _ _ (fun W' => ∃ (V0 : World), Ext W7 V0 ∧ Blk W' (w.heap.size + 2) 24 r1.cells ∧ Only V0 W' (w.heap.size + 2)) rfl rfl rfl (fun w1 hC hJ hF => ?_) (fun K hK => ?_)
    · have jE := hJ
      exact ⟨w.heap.size + 2, 0, 24, r1.cells, r1.cells, rfl, rfl, aggDyad, (B2.ext jE), Nat.le_of_ble_eq_true rfl, rfl, fun w' BR hO => ⟨⟨by show _ ≤ _; rw [hO.size]; exact hC.1, Blk.only hC.2 hO (by omega)⟩, w1, jE, BR, hO⟩⟩
    go_simp; refine hK _ ?_; clear hK K
    refine FG.ftext_nil ?_
    rintro W8 _ ⟨V0, jE, jB0, jO0⟩ hF
    clear hF
    have hz := E.size
    replace M_r0 : r0.mine W8 w.heap.size := ((M_r0.ext jE).only (B2.ext jE) jO0 jB0 rfl (by decide))
    replace M_r1 : r1.mine W8 w.heap.size := ((M_r1.ext jE).only (B2.ext jE) jO0 jB0 rfl (by decide))
    replace M_r2 : r2.mine W8 w.heap.size := ((M_r2.ext jE).only (B2.ext jE) jO0 jB0 rfl (by decide))
    replace B0 : Blk W8 (w.heap.size) 24 x.cells := (Blk.only (B0.ext jE) jO0 (by omega))
    replace B1 : Blk W8 (w.heap.size + 1) 24 y.cells := (Blk.only (B1.ext jE) jO0 (by omega))
    replace B2 : Blk W8 (w.heap.size + 2) 24 r1.cells := jB0
    replace B3 : Blk W8 (w.heap.size + 3) 24 r2.cells := (Blk.only (B3.ext jE) jO0 (by omega))
    replace E : Ext w W8 := Only.ext (E.trans jE) jO0 (by omega)
    clear hz jE jB0 jO0
    simp only [List.drop_succ_cons, List.drop_zero]
    gi_wp2_with (first | ((with_reducible refine stIn Open.wide (B3) (0) r2.cells 24 (.tmp 5) (.tmp 31) ?_ ?_ ?_ ?_ ?_ ?_ ?_ fun W9 BR9 hO9 => ?_); (exact rfl); ((iterate 4 exact rfl); exact Nat.le_of_ble_eq_true rfl; exact aggDyad; replace M_r0 := M_r0.only (B3) hO9 BR9 rfl (by decide); replace M_r1 := M_r1.only (B3) hO9 BR9 rfl (by decide); replace M_r2 := M_r2.only (B3) hO9 BR9 rfl (by decide); replace E := Only.ext (E) hO9 (by omega); replace B0 := Blk.only (B0) hO9 (by omega); replace B1 := Blk.only (B1) hO9 (by omega); replace B2 := Blk.only (B2) hO9 (by omega); replace B3 : Blk W9 (w.heap.size + 3) 24 r2.cells := BR9; clear BR9 hO9)) | fail)
    go_wp2_with fail
    refine jump_ret ?_
    exact bodyPost_ret (results_cct rfl rfl (B2) aggDyad rfl (B3) aggDyad) rfl ⟨r1, r2, by rw [HR.out] <;> rfl, by rw [HR.out, D_r1.out] <;> rfl, by rw [HR.out, D_r2.out] <;> rfl, M_r1, M_r2, E⟩
end Go.Proofs.YtgcbnagfdfgpnaaDoor
end
