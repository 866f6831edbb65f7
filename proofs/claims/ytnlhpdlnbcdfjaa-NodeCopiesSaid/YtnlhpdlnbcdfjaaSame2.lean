/- What the references answer when structs are compared. Printed by gen_chain.py. -/
import Derived.Test.YtnlhpdlnbcdfjaaRows
import Derived.Test.YtnlhpdlnbcdfjaaSame0
namespace Go.Proofs.Ytnlhpdlnbcdfjaa
open Go.RowKit Go.Hx

theorem ref02_Same_iff (x y : XDyad) : x.data = y.data ↔ x.neg = y.neg ∧ x.exp = y.exp ∧ x.limbs.l = y.limbs.l := by
  constructor
  · intro h
    simp only [XDyad.data, PDyad.mk.injEq] at h
    obtain ⟨h0, h1, h2⟩ := h
    exact ⟨h0, h2, h1⟩
  · rintro ⟨h0, h1, h2⟩
    simp only [XDyad.data, PDyad.mk.injEq]
    exact ⟨h0, h2, h1⟩
set_option maxRecDepth 100000 in
set_option maxHeartbeats 1000000 in
theorem ref02_Same (x y : XDyad) (w : World) (hx : x.ok w w.heap.size) (hy : y.ok w w.heap.size) :
    Calls Try.prog 59 #[.agg #[.bool x.neg, .slice x.limbs.A x.limbs.l.length x.limbs.c, .int .i64 x.exp], .agg #[.bool y.neg, .slice y.limbs.A y.limbs.l.length y.limbs.c, .int .i64 y.exp]] w fun e w' => e = .returned (.bool (decide (x.data = y.data))) ∧ Ext w w' := by
  have HI := Lib.hid (ref02_Same_iff x y)
  by_cases q0 : x.neg = y.neg
  · have e0 : (x.neg == y.neg) = true := by simp [q0]
    have HQ0 := Lib.hid q0
    clear q0
    by_cases q1 : x.exp = y.exp
    · have e1 : (x.exp == y.exp) = true := by simp [q1]
      have HQ1 := Lib.hid q1
      clear q1
      go_enter Try.func59, Try.ntmps59
      go_wp2_with fail
      refine (ref01_Same x.limbs y.limbs _ (hx.limbs.ext (by repeat (first | exact Ext.refl _ | assumption | refine Ext.alloc' ?_ _ | refine Ext.drewN' ?_ _ | refine Ext.drew' ?_ | (refine Ext.trans ?_ (by assumption))))) (hy.limbs.ext (by repeat (first | exact Ext.refl _ | assumption | refine Ext.alloc' ?_ _ | refine Ext.drewN' ?_ _ | refine Ext.drew' ?_ | (refine Ext.trans ?_ (by assumption)))))).mono ?_
      rintro e w2 ⟨rfl, j2, rfl⟩
      go_wp2_with fail
      go_ret
      exact ⟨ret_bool (decide_eq_decide.2 ⟨fun h => HI.out.2 ⟨HQ0.out, HQ1.out, h⟩, fun h => (HI.out.1 h).2.2⟩), (by repeat (first | exact Ext.refl _ | assumption | refine Ext.alloc' ?_ _ | refine Ext.drewN' ?_ _ | refine Ext.drew' ?_ | (refine Ext.trans ?_ (by assumption))))⟩
    · have e1 : (x.exp == y.exp) = false := by simpa using q1
      have HQ1 := Lib.hid q1
      clear q1
      go_enter Try.func59, Try.ntmps59
      go_wp2_with fail
      go_ret
      exact ⟨ret_bool (decide_eq_false (fun h => HQ1.out (HI.out.1 h).2.1)).symm, (by repeat (first | exact Ext.refl _ | assumption | refine Ext.alloc' ?_ _ | refine Ext.drewN' ?_ _ | refine Ext.drew' ?_ | (refine Ext.trans ?_ (by assumption))))⟩
  · have e0 : (x.neg == y.neg) = false := by simpa using q0
    have HQ0 := Lib.hid q0
    clear q0
    go_enter Try.func59, Try.ntmps59
    go_wp2_with fail
    go_ret
    exact ⟨ret_bool (decide_eq_false (fun h => HQ0.out (HI.out.1 h).1)).symm, (by repeat (first | exact Ext.refl _ | assumption | refine Ext.alloc' ?_ _ | refine Ext.drewN' ?_ _ | refine Ext.drew' ?_ | (refine Ext.trans ?_ (by assumption))))⟩

theorem ref06_Same_iff (x y : XMass) : x.data = y.data ↔ x.s.data = y.s.data ∧ x.w.data = y.w.data ∧ x.c.data = y.c.data ∧ x.a.data = y.a.data := by
  constructor
  · intro h
    simp only [XMass.data, PMass.mk.injEq] at h
    obtain ⟨h0, h1, h2, h3⟩ := h
    exact ⟨h0, h1, h2, h3⟩
  · rintro ⟨h0, h1, h2, h3⟩
    simp only [XMass.data, PMass.mk.injEq]
    exact ⟨h0, h1, h2, h3⟩
set_option maxRecDepth 100000 in
set_option maxHeartbeats 1000000 in
theorem ref06_Same (x y : XMass) (w : World) (hx : x.ok w w.heap.size) (hy : y.ok w w.heap.size) :
    Calls Try.prog 45 #[.agg #[.bool x.s.neg, .slice x.s.limbs.A x.s.limbs.l.length x.s.limbs.c, .int .i64 x.s.exp, .bool x.w.neg, .slice x.w.limbs.A x.w.limbs.l.length x.w.limbs.c, .int .i64 x.w.exp, .bool x.c.neg, .slice x.c.limbs.A x.c.limbs.l.length x.c.limbs.c, .int .i64 x.c.exp, .bool x.a.neg, .slice x.a.limbs.A x.a.limbs.l.length x.a.limbs.c, .int .i64 x.a.exp], .agg #[.bool y.s.neg, .slice y.s.limbs.A y.s.limbs.l.length y.s.limbs.c, .int .i64 y.s.exp, .bool y.w.neg, .slice y.w.limbs.A y.w.limbs.l.length y.w.limbs.c, .int .i64 y.w.exp, .bool y.c.neg, .slice y.c.limbs.A y.c.limbs.l.length y.c.limbs.c, .int .i64 y.c.exp, .bool y.a.neg, .slice y.a.limbs.A y.a.limbs.l.length y.a.limbs.c, .int .i64 y.a.exp]] w fun e w' => e = .returned (.bool (decide (x.data = y.data))) ∧ Ext w w' := by
  have HI := Lib.hid (ref06_Same_iff x y)
  by_cases q0 : x.s.data = y.s.data
  · have e0 : decide (x.s.data = y.s.data) = true := decide_eq_true q0
    have HQ0 := Lib.hid q0
    clear q0
    by_cases q1 : x.w.data = y.w.data
    · have e1 : decide (x.w.data = y.w.data) = true := decide_eq_true q1
      have HQ1 := Lib.hid q1
      clear q1
      by_cases q2 : x.c.data = y.c.data
      · have e2 : decide (x.c.data = y.c.data) = true := decide_eq_true q2
        have HQ2 := Lib.hid q2
        clear q2
        go_enter Try.func45, Try.ntmps45
        go_wp2_with fail
        refine (ref02_Same x.s y.s _ (hx.s.ext (by repeat (first | exact Ext.refl _ | assumption | refine Ext.alloc' ?_ _ | refine Ext.drewN' ?_ _ | refine Ext.drew' ?_ | (refine Ext.trans ?_ (by assumption))))) (hy.s.ext (by repeat (first | exact Ext.refl _ | assumption | refine Ext.alloc' ?_ _ | refine Ext.drewN' ?_ _ | refine Ext.drew' ?_ | (refine Ext.trans ?_ (by assumption)))))).mono ?_
        rintro e w0 ⟨rfl, hE0⟩
        have hT0 := hE0
        obtain ⟨hc0, hf0⟩ := ext_cell hT0
        go_wp2_with fail
        refine (ref02_Same x.w y.w _ (hx.w.ext (by repeat (first | exact Ext.refl _ | assumption | refine Ext.alloc' ?_ _ | refine Ext.drewN' ?_ _ | refine Ext.drew' ?_ | (refine Ext.trans ?_ (by assumption))))) (hy.w.ext (by repeat (first | exact Ext.refl _ | assumption | refine Ext.alloc' ?_ _ | refine Ext.drewN' ?_ _ | refine Ext.drew' ?_ | (refine Ext.trans ?_ (by assumption)))))).mono ?_
        rintro e w1 ⟨rfl, hE1⟩
        have hT1 := (hT0).trans hE1
        clear hc0 hf0
        obtain ⟨hc1, hf1⟩ := ext_cell hT1
        go_wp2_with fail
        refine (ref02_Same x.c y.c _ (hx.c.ext (by repeat (first | exact Ext.refl _ | assumption | refine Ext.alloc' ?_ _ | refine Ext.drewN' ?_ _ | refine Ext.drew' ?_ | (refine Ext.trans ?_ (by assumption))))) (hy.c.ext (by repeat (first | exact Ext.refl _ | assumption | refine Ext.alloc' ?_ _ | refine Ext.drewN' ?_ _ | refine Ext.drew' ?_ | (refine Ext.trans ?_ (by assumption)))))).mono ?_
        rintro e w2 ⟨rfl, hE2⟩
        have hT2 := (hT1).trans hE2
        clear hc1 hf1
        obtain ⟨hc2, hf2⟩ := ext_cell hT2
        go_wp2_with fail
        refine (ref02_Same x.a y.a _ (hx.a.ext (by repeat (first | exact Ext.refl _ | assumption | refine Ext.alloc' ?_ _ | refine Ext.drewN' ?_ _ | refine Ext.drew' ?_ | (refine Ext.trans ?_ (by assumption))))) (hy.a.ext (by repeat (first | exact Ext.refl _ | assumption | refine Ext.alloc' ?_ _ | refine Ext.drewN' ?_ _ | refine Ext.drew' ?_ | (refine Ext.trans ?_ (by assumption)))))).mono ?_
        rintro e w3 ⟨rfl, hE3⟩
        go_wp2_with fail
        go_ret
        exact ⟨ret_bool (decide_eq_decide.2 ⟨fun h => HI.out.2 ⟨HQ0.out, HQ1.out, HQ2.out, h⟩, fun h => (HI.out.1 h).2.2.2⟩), (by repeat (first | exact Ext.refl _ | assumption | refine Ext.alloc' ?_ _ | refine Ext.drewN' ?_ _ | refine Ext.drew' ?_ | (refine Ext.trans ?_ (by assumption))))⟩
      · have e2 : decide (x.c.data = y.c.data) = false := decide_eq_false q2
        have HQ2 := Lib.hid q2
        clear q2
        go_enter Try.func45, Try.ntmps45
        go_wp2_with fail
        refine (ref02_Same x.s y.s _ (hx.s.ext (by repeat (first | exact Ext.refl _ | assumption | refine Ext.alloc' ?_ _ | refine Ext.drewN' ?_ _ | refine Ext.drew' ?_ | (refine Ext.trans ?_ (by assumption))))) (hy.s.ext (by repeat (first | exact Ext.refl _ | assumption | refine Ext.alloc' ?_ _ | refine Ext.drewN' ?_ _ | refine Ext.drew' ?_ | (refine Ext.trans ?_ (by assumption)))))).mono ?_
        rintro e w0 ⟨rfl, hE0⟩
        have hT0 := hE0
        obtain ⟨hc0, hf0⟩ := ext_cell hT0
        go_wp2_with fail
        refine (ref02_Same x.w y.w _ (hx.w.ext (by repeat (first | exact Ext.refl _ | assumption | refine Ext.alloc' ?_ _ | refine Ext.drewN' ?_ _ | refine Ext.drew' ?_ | (refine Ext.trans ?_ (by assumption))))) (hy.w.ext (by repeat (first | exact Ext.refl _ | assumption | refine Ext.alloc' ?_ _ | refine Ext.drewN' ?_ _ | refine Ext.drew' ?_ | (refine Ext.trans ?_ (by assumption)))))).mono ?_
        rintro e w1 ⟨rfl, hE1⟩
        have hT1 := (hT0).trans hE1
        clear hc0 hf0
        obtain ⟨hc1, hf1⟩ := ext_cell hT1
        go_wp2_with fail
        refine (ref02_Same x.c y.c _ (hx.c.ext (by repeat (first | exact Ext.refl _ | assumption | refine Ext.alloc' ?_ _ | refine Ext.drewN' ?_ _ | refine Ext.drew' ?_ | (refine Ext.trans ?_ (by assumption))))) (hy.c.ext (by repeat (first | exact Ext.refl _ | assumption | refine Ext.alloc' ?_ _ | refine Ext.drewN' ?_ _ | refine Ext.drew' ?_ | (refine Ext.trans ?_ (by assumption)))))).mono ?_
        rintro e w2 ⟨rfl, hE2⟩
        go_wp2_with fail
        go_ret
        exact ⟨ret_bool (decide_eq_false (fun h => HQ2.out (HI.out.1 h).2.2.1)).symm, (by repeat (first | exact Ext.refl _ | assumption | refine Ext.alloc' ?_ _ | refine Ext.drewN' ?_ _ | refine Ext.drew' ?_ | (refine Ext.trans ?_ (by assumption))))⟩
    · have e1 : decide (x.w.data = y.w.data) = false := decide_eq_false q1
      have HQ1 := Lib.hid q1
      clear q1
      go_enter Try.func45, Try.ntmps45
      go_wp2_with fail
      refine (ref02_Same x.s y.s _ (hx.s.ext (by repeat (first | exact Ext.refl _ | assumption | refine Ext.alloc' ?_ _ | refine Ext.drewN' ?_ _ | refine Ext.drew' ?_ | (refine Ext.trans ?_ (by assumption))))) (hy.s.ext (by repeat (first | exact Ext.refl _ | assumption | refine Ext.alloc' ?_ _ | refine Ext.drewN' ?_ _ | refine Ext.drew' ?_ | (refine Ext.trans ?_ (by assumption)))))).mono ?_
      rintro e w0 ⟨rfl, hE0⟩
      have hT0 := hE0
      obtain ⟨hc0, hf0⟩ := ext_cell hT0
      go_wp2_with fail
      refine (ref02_Same x.w y.w _ (hx.w.ext (by repeat (first | exact Ext.refl _ | assumption | refine Ext.alloc' ?_ _ | refine Ext.drewN' ?_ _ | refine Ext.drew' ?_ | (refine Ext.trans ?_ (by assumption))))) (hy.w.ext (by repeat (first | exact Ext.refl _ | assumption | refine Ext.alloc' ?_ _ | refine Ext.drewN' ?_ _ | refine Ext.drew' ?_ | (refine Ext.trans ?_ (by assumption)))))).mono ?_
      rintro e w1 ⟨rfl, hE1⟩
      go_wp2_with fail
      go_ret
      exact ⟨ret_bool (decide_eq_false (fun h => HQ1.out (HI.out.1 h).2.1)).symm, (by repeat (first | exact Ext.refl _ | assumption | refine Ext.alloc' ?_ _ | refine Ext.drewN' ?_ _ | refine Ext.drew' ?_ | (refine Ext.trans ?_ (by assumption))))⟩
  · have e0 : decide (x.s.data = y.s.data) = false := decide_eq_false q0
    have HQ0 := Lib.hid q0
    clear q0
    go_enter Try.func45, Try.ntmps45
    go_wp2_with fail
    refine (ref02_Same x.s y.s _ (hx.s.ext (by repeat (first | exact Ext.refl _ | assumption | refine Ext.alloc' ?_ _ | refine Ext.drewN' ?_ _ | refine Ext.drew' ?_ | (refine Ext.trans ?_ (by assumption))))) (hy.s.ext (by repeat (first | exact Ext.refl _ | assumption | refine Ext.alloc' ?_ _ | refine Ext.drewN' ?_ _ | refine Ext.drew' ?_ | (refine Ext.trans ?_ (by assumption)))))).mono ?_
    rintro e w0 ⟨rfl, hE0⟩
    go_wp2_with fail
    go_ret
    exact ⟨ret_bool (decide_eq_false (fun h => HQ0.out (HI.out.1 h).1)).symm, (by repeat (first | exact Ext.refl _ | assumption | refine Ext.alloc' ?_ _ | refine Ext.drewN' ?_ _ | refine Ext.drew' ?_ | (refine Ext.trans ?_ (by assumption))))⟩

theorem ref20_SamePart_iff (x y : XPart) : x.data = y.data ↔ x.held.data = y.held.data ∧ x.edge = y.edge ∧ x.least.l = y.least.l := by
  constructor
  · intro h
    simp only [XPart.data, PPart.mk.injEq] at h
    obtain ⟨h0, h1, h2⟩ := h
    exact ⟨h0, h1, h2⟩
  · rintro ⟨h0, h1, h2⟩
    simp only [XPart.data, PPart.mk.injEq]
    exact ⟨h0, h1, h2⟩
set_option maxRecDepth 100000 in
set_option maxHeartbeats 1000000 in
theorem ref20_SamePart (x y : XPart) (w : World) (hx : x.ok w w.heap.size) (hy : y.ok w w.heap.size) :
    Calls Try.prog 24 #[.agg #[.bool x.held.s.neg, .slice x.held.s.limbs.A x.held.s.limbs.l.length x.held.s.limbs.c, .int .i64 x.held.s.exp, .bool x.held.w.neg, .slice x.held.w.limbs.A x.held.w.limbs.l.length x.held.w.limbs.c, .int .i64 x.held.w.exp, .bool x.held.c.neg, .slice x.held.c.limbs.A x.held.c.limbs.l.length x.held.c.limbs.c, .int .i64 x.held.c.exp, .bool x.held.a.neg, .slice x.held.a.limbs.A x.held.a.limbs.l.length x.held.a.limbs.c, .int .i64 x.held.a.exp, .bool x.edge.has, .int .i64 x.edge.min, .int .i64 x.edge.max, .slice x.least.A x.least.l.length x.least.c], .agg #[.bool y.held.s.neg, .slice y.held.s.limbs.A y.held.s.limbs.l.length y.held.s.limbs.c, .int .i64 y.held.s.exp, .bool y.held.w.neg, .slice y.held.w.limbs.A y.held.w.limbs.l.length y.held.w.limbs.c, .int .i64 y.held.w.exp, .bool y.held.c.neg, .slice y.held.c.limbs.A y.held.c.limbs.l.length y.held.c.limbs.c, .int .i64 y.held.c.exp, .bool y.held.a.neg, .slice y.held.a.limbs.A y.held.a.limbs.l.length y.held.a.limbs.c, .int .i64 y.held.a.exp, .bool y.edge.has, .int .i64 y.edge.min, .int .i64 y.edge.max, .slice y.least.A y.least.l.length y.least.c]] w fun e w' => e = .returned (.bool (decide (x.data = y.data))) ∧ Ext w w' := by
  have HI := Lib.hid (ref20_SamePart_iff x y)
  by_cases q0 : x.held.data = y.held.data
  · have e0 : decide (x.held.data = y.held.data) = true := decide_eq_true q0
    have HQ0 := Lib.hid q0
    clear q0
    by_cases q1 : x.edge = y.edge
    · have e1 : ∀ W, (binOp .eql 30 (.agg #[.bool x.edge.has, .int .i64 x.edge.min, .int .i64 x.edge.max]) (.agg #[.bool y.edge.has, .int .i64 y.edge.min, .int .i64 y.edge.max])).run Try.prog W = .ok (.bool true) W := fun W => by rw [eqlEdge, decide_eq_true q1]
      have HQ1 := Lib.hid q1
      clear q1
      go_enter Try.func24, Try.ntmps24
      go_wp2_with fail
      refine (ref06_Same x.held y.held _ (hx.held.ext (by repeat (first | exact Ext.refl _ | assumption | refine Ext.alloc' ?_ _ | refine Ext.drewN' ?_ _ | refine Ext.drew' ?_ | (refine Ext.trans ?_ (by assumption))))) (hy.held.ext (by repeat (first | exact Ext.refl _ | assumption | refine Ext.alloc' ?_ _ | refine Ext.drewN' ?_ _ | refine Ext.drew' ?_ | (refine Ext.trans ?_ (by assumption)))))).mono ?_
      rintro e w0 ⟨rfl, hE0⟩
      have hT0 := hE0
      obtain ⟨hc0, hf0⟩ := ext_cell hT0
      go_wp2_with fail
      refine (ref10_SameTags x.least y.least _ (hx.least.ext (by repeat (first | exact Ext.refl _ | assumption | refine Ext.alloc' ?_ _ | refine Ext.drewN' ?_ _ | refine Ext.drew' ?_ | (refine Ext.trans ?_ (by assumption))))) (hy.least.ext (by repeat (first | exact Ext.refl _ | assumption | refine Ext.alloc' ?_ _ | refine Ext.drewN' ?_ _ | refine Ext.drew' ?_ | (refine Ext.trans ?_ (by assumption)))))).mono ?_
      rintro e w2 ⟨rfl, j2, rfl⟩
      go_wp2_with fail
      go_ret
      exact ⟨ret_bool (decide_eq_decide.2 ⟨fun h => HI.out.2 ⟨HQ0.out, HQ1.out, h⟩, fun h => (HI.out.1 h).2.2⟩), (by repeat (first | exact Ext.refl _ | assumption | refine Ext.alloc' ?_ _ | refine Ext.drewN' ?_ _ | refine Ext.drew' ?_ | (refine Ext.trans ?_ (by assumption))))⟩
    · have e1 : ∀ W, (binOp .eql 30 (.agg #[.bool x.edge.has, .int .i64 x.edge.min, .int .i64 x.edge.max]) (.agg #[.bool y.edge.has, .int .i64 y.edge.min, .int .i64 y.edge.max])).run Try.prog W = .ok (.bool false) W := fun W => by rw [eqlEdge, decide_eq_false q1]
      have HQ1 := Lib.hid q1
      clear q1
      go_enter Try.func24, Try.ntmps24
      go_wp2_with fail
      refine (ref06_Same x.held y.held _ (hx.held.ext (by repeat (first | exact Ext.refl _ | assumption | refine Ext.alloc' ?_ _ | refine Ext.drewN' ?_ _ | refine Ext.drew' ?_ | (refine Ext.trans ?_ (by assumption))))) (hy.held.ext (by repeat (first | exact Ext.refl _ | assumption | refine Ext.alloc' ?_ _ | refine Ext.drewN' ?_ _ | refine Ext.drew' ?_ | (refine Ext.trans ?_ (by assumption)))))).mono ?_
      rintro e w0 ⟨rfl, hE0⟩
      have hT0 := hE0
      obtain ⟨hc0, hf0⟩ := ext_cell hT0
      go_wp2_with fail
      go_ret
      exact ⟨ret_bool (decide_eq_false (fun h => HQ1.out (HI.out.1 h).2.1)).symm, (by repeat (first | exact Ext.refl _ | assumption | refine Ext.alloc' ?_ _ | refine Ext.drewN' ?_ _ | refine Ext.drew' ?_ | (refine Ext.trans ?_ (by assumption))))⟩
  · have e0 : decide (x.held.data = y.held.data) = false := decide_eq_false q0
    have HQ0 := Lib.hid q0
    clear q0
    go_enter Try.func24, Try.ntmps24
    go_wp2_with fail
    refine (ref06_Same x.held y.held _ (hx.held.ext (by repeat (first | exact Ext.refl _ | assumption | refine Ext.alloc' ?_ _ | refine Ext.drewN' ?_ _ | refine Ext.drew' ?_ | (refine Ext.trans ?_ (by assumption))))) (hy.held.ext (by repeat (first | exact Ext.refl _ | assumption | refine Ext.alloc' ?_ _ | refine Ext.drewN' ?_ _ | refine Ext.drew' ?_ | (refine Ext.trans ?_ (by assumption)))))).mono ?_
    rintro e w0 ⟨rfl, hE0⟩
    go_wp2_with fail
    go_ret
    exact ⟨ret_bool (decide_eq_false (fun h => HQ0.out (HI.out.1 h).1)).symm, (by repeat (first | exact Ext.refl _ | assumption | refine Ext.alloc' ?_ _ | refine Ext.drewN' ?_ _ | refine Ext.drew' ?_ | (refine Ext.trans ?_ (by assumption))))⟩

theorem ref08_Same_iff (x y : XCache) : x.data = y.data ↔ x.own = y.own ∧ x.cap = y.cap ∧ x.list.l = y.list.l := by
  constructor
  · intro h
    simp only [XCache.data, PCache.mk.injEq] at h
    obtain ⟨h0, h1, h2⟩ := h
    exact ⟨h0, h1, h2⟩
  · rintro ⟨h0, h1, h2⟩
    simp only [XCache.data, PCache.mk.injEq]
    exact ⟨h0, h1, h2⟩
set_option maxRecDepth 100000 in
set_option maxHeartbeats 1000000 in
theorem ref08_Same (x y : XCache) (w : World) (hx : x.ok w w.heap.size) (hy : y.ok w w.heap.size) :
    Calls Try.prog 26 #[.agg #[.int .i64 x.own, .int .i64 x.cap, .slice x.list.A x.list.l.length x.list.c], .agg #[.int .i64 y.own, .int .i64 y.cap, .slice y.list.A y.list.l.length y.list.c]] w fun e w' => e = .returned (.bool (decide (x.data = y.data))) ∧ Ext w w' := by
  have HI := Lib.hid (ref08_Same_iff x y)
  by_cases q0 : x.own = y.own
  · have e0 : (x.own == y.own) = true := by simp [q0]
    have HQ0 := Lib.hid q0
    clear q0
    by_cases q1 : x.cap = y.cap
    · have e1 : (x.cap == y.cap) = true := by simp [q1]
      have HQ1 := Lib.hid q1
      clear q1
      go_enter Try.func26, Try.ntmps26
      go_wp2_with fail
      refine (ref07_Same x.list y.list _ (hx.list.ext (by repeat (first | exact Ext.refl _ | assumption | refine Ext.alloc' ?_ _ | refine Ext.drewN' ?_ _ | refine Ext.drew' ?_ | (refine Ext.trans ?_ (by assumption))))) (hy.list.ext (by repeat (first | exact Ext.refl _ | assumption | refine Ext.alloc' ?_ _ | refine Ext.drewN' ?_ _ | refine Ext.drew' ?_ | (refine Ext.trans ?_ (by assumption)))))).mono ?_
      rintro e w2 ⟨rfl, j2, rfl⟩
      go_wp2_with fail
      go_ret
      exact ⟨ret_bool (decide_eq_decide.2 ⟨fun h => HI.out.2 ⟨HQ0.out, HQ1.out, h⟩, fun h => (HI.out.1 h).2.2⟩), (by repeat (first | exact Ext.refl _ | assumption | refine Ext.alloc' ?_ _ | refine Ext.drewN' ?_ _ | refine Ext.drew' ?_ | (refine Ext.trans ?_ (by assumption))))⟩
    · have e1 : (x.cap == y.cap) = false := by simpa using q1
      have HQ1 := Lib.hid q1
      clear q1
      go_enter Try.func26, Try.ntmps26
      go_wp2_with fail
      go_ret
      exact ⟨ret_bool (decide_eq_false (fun h => HQ1.out (HI.out.1 h).2.1)).symm, (by repeat (first | exact Ext.refl _ | assumption | refine Ext.alloc' ?_ _ | refine Ext.drewN' ?_ _ | refine Ext.drew' ?_ | (refine Ext.trans ?_ (by assumption))))⟩
  · have e0 : (x.own == y.own) = false := by simpa using q0
    have HQ0 := Lib.hid q0
    clear q0
    go_enter Try.func26, Try.ntmps26
    go_wp2_with fail
    go_ret
    exact ⟨ret_bool (decide_eq_false (fun h => HQ0.out (HI.out.1 h).1)).symm, (by repeat (first | exact Ext.refl _ | assumption | refine Ext.alloc' ?_ _ | refine Ext.drewN' ?_ _ | refine Ext.drew' ?_ | (refine Ext.trans ?_ (by assumption))))⟩

end Go.Proofs.Ytnlhpdlnbcdfjaa
