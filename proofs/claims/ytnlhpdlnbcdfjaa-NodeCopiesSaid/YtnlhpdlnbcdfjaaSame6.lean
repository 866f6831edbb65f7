/- What the program answers when parts are compared. Printed by gen_same5.py. -/
import Derived.Test.YtnlhpdlnbcdfjaaMass
namespace Go.Proofs.Ytnlhpdlnbcdfjaa
open Go.RowKit Go.Hx

theorem past_SamePart_iff (x y : XPart) : x.data = y.data ↔ x.held.data = y.held.data ∧ x.edge = y.edge ∧ x.least.l = y.least.l := by
  constructor
  · intro h
    simp only [XPart.data, PPart.mk.injEq] at h
    obtain ⟨h0, h1, h2⟩ := h
    exact ⟨h0, h1, h2⟩
  · rintro ⟨h0, h1, h2⟩
    simp only [XPart.data, PPart.mk.injEq]
    exact ⟨h0, h1, h2⟩
set_option maxRecDepth 100000 in
set_option maxHeartbeats 1000000 in
theorem past_SamePart (x y : XPart) (w : World) (hx : x.ok w w.heap.size) (hy : y.ok w w.heap.size) :
    Calls Try.prog 39 #[.agg #[.bool x.held.s.neg, .slice x.held.s.limbs.A x.held.s.limbs.l.length x.held.s.limbs.c, .int .i64 x.held.s.exp, .bool x.held.w.neg, .slice x.held.w.limbs.A x.held.w.limbs.l.length x.held.w.limbs.c, .int .i64 x.held.w.exp, .bool x.held.c.neg, .slice x.held.c.limbs.A x.held.c.limbs.l.length x.held.c.limbs.c, .int .i64 x.held.c.exp, .bool x.held.a.neg, .slice x.held.a.limbs.A x.held.a.limbs.l.length x.held.a.limbs.c, .int .i64 x.held.a.exp, .bool x.edge.has, .int .i64 x.edge.min, .int .i64 x.edge.max, .slice x.least.A x.least.l.length x.least.c], .agg #[.bool y.held.s.neg, .slice y.held.s.limbs.A y.held.s.limbs.l.length y.held.s.limbs.c, .int .i64 y.held.s.exp, .bool y.held.w.neg, .slice y.held.w.limbs.A y.held.w.limbs.l.length y.held.w.limbs.c, .int .i64 y.held.w.exp, .bool y.held.c.neg, .slice y.held.c.limbs.A y.held.c.limbs.l.length y.held.c.limbs.c, .int .i64 y.held.c.exp, .bool y.held.a.neg, .slice y.held.a.limbs.A y.held.a.limbs.l.length y.held.a.limbs.c, .int .i64 y.held.a.exp, .bool y.edge.has, .int .i64 y.edge.min, .int .i64 y.edge.max, .slice y.least.A y.least.l.length y.least.c]] w fun e w' => e = .returned (.bool (decide (x.data = y.data))) ∧ Ext w w' := by
  have HI := Lib.hid (past_SamePart_iff x y)
  by_cases q0 : x.held.data = y.held.data
  · have e0 : decide (x.held.data = y.held.data) = true := decide_eq_true q0
    have HQ0 := Lib.hid q0
    clear q0
    by_cases q1 : x.edge = y.edge
    · have e1 : ∀ W, (binOp .eql 30 (.agg #[.bool x.edge.has, .int .i64 x.edge.min, .int .i64 x.edge.max]) (.agg #[.bool y.edge.has, .int .i64 y.edge.min, .int .i64 y.edge.max])).run Try.prog W = .ok (.bool true) W := fun W => by rw [eqlEdge, decide_eq_true q1]
      have HQ1 := Lib.hid q1
      clear q1
      go_enter Try.func39, Try.ntmps39
      go_wp2_with fail
      refine (mass_Same x.held y.held _ (hx.held.ext (by repeat (first | exact Ext.refl _ | assumption | refine Ext.alloc' ?_ _ | refine Ext.drewN' ?_ _ | refine Ext.drew' ?_ | (refine Ext.trans ?_ (by assumption))))) (hy.held.ext (by repeat (first | exact Ext.refl _ | assumption | refine Ext.alloc' ?_ _ | refine Ext.drewN' ?_ _ | refine Ext.drew' ?_ | (refine Ext.trans ?_ (by assumption)))))).mono ?_
      rintro e w0 ⟨rfl, hE0⟩
      have hT0 := hE0
      obtain ⟨hc0, hf0⟩ := ext_cell hT0
      go_wp2_with fail
      refine (eq_u32 x.least y.least _ (hx.least.ext (by repeat (first | exact Ext.refl _ | assumption | refine Ext.alloc' ?_ _ | refine Ext.drewN' ?_ _ | refine Ext.drew' ?_ | (refine Ext.trans ?_ (by assumption))))) (hy.least.ext (by repeat (first | exact Ext.refl _ | assumption | refine Ext.alloc' ?_ _ | refine Ext.drewN' ?_ _ | refine Ext.drew' ?_ | (refine Ext.trans ?_ (by assumption)))))).mono ?_
      rintro e w2 ⟨rfl, j2, rfl⟩
      go_wp2_with fail
      go_ret
      exact ⟨ret_bool (decide_eq_decide.2 ⟨fun h => HI.out.2 ⟨HQ0.out, HQ1.out, h⟩, fun h => (HI.out.1 h).2.2⟩), (by repeat (first | exact Ext.refl _ | assumption | refine Ext.alloc' ?_ _ | refine Ext.drewN' ?_ _ | refine Ext.drew' ?_ | (refine Ext.trans ?_ (by assumption))))⟩
    · have e1 : ∀ W, (binOp .eql 30 (.agg #[.bool x.edge.has, .int .i64 x.edge.min, .int .i64 x.edge.max]) (.agg #[.bool y.edge.has, .int .i64 y.edge.min, .int .i64 y.edge.max])).run Try.prog W = .ok (.bool false) W := fun W => by rw [eqlEdge, decide_eq_false q1]
      have HQ1 := Lib.hid q1
      clear q1
      go_enter Try.func39, Try.ntmps39
      go_wp2_with fail
      refine (mass_Same x.held y.held _ (hx.held.ext (by repeat (first | exact Ext.refl _ | assumption | refine Ext.alloc' ?_ _ | refine Ext.drewN' ?_ _ | refine Ext.drew' ?_ | (refine Ext.trans ?_ (by assumption))))) (hy.held.ext (by repeat (first | exact Ext.refl _ | assumption | refine Ext.alloc' ?_ _ | refine Ext.drewN' ?_ _ | refine Ext.drew' ?_ | (refine Ext.trans ?_ (by assumption)))))).mono ?_
      rintro e w0 ⟨rfl, hE0⟩
      have hT0 := hE0
      obtain ⟨hc0, hf0⟩ := ext_cell hT0
      go_wp2_with fail
      go_ret
      exact ⟨ret_bool (decide_eq_false (fun h => HQ1.out (HI.out.1 h).2.1)).symm, (by repeat (first | exact Ext.refl _ | assumption | refine Ext.alloc' ?_ _ | refine Ext.drewN' ?_ _ | refine Ext.drew' ?_ | (refine Ext.trans ?_ (by assumption))))⟩
  · have e0 : decide (x.held.data = y.held.data) = false := decide_eq_false q0
    have HQ0 := Lib.hid q0
    clear q0
    go_enter Try.func39, Try.ntmps39
    go_wp2_with fail
    refine (mass_Same x.held y.held _ (hx.held.ext (by repeat (first | exact Ext.refl _ | assumption | refine Ext.alloc' ?_ _ | refine Ext.drewN' ?_ _ | refine Ext.drew' ?_ | (refine Ext.trans ?_ (by assumption))))) (hy.held.ext (by repeat (first | exact Ext.refl _ | assumption | refine Ext.alloc' ?_ _ | refine Ext.drewN' ?_ _ | refine Ext.drew' ?_ | (refine Ext.trans ?_ (by assumption)))))).mono ?_
    rintro e w0 ⟨rfl, hE0⟩
    go_wp2_with fail
    go_ret
    exact ⟨ret_bool (decide_eq_false (fun h => HQ0.out (HI.out.1 h).1)).symm, (by repeat (first | exact Ext.refl _ | assumption | refine Ext.alloc' ?_ _ | refine Ext.drewN' ?_ _ | refine Ext.drew' ?_ | (refine Ext.trans ?_ (by assumption))))⟩

end Go.Proofs.Ytnlhpdlnbcdfjaa
