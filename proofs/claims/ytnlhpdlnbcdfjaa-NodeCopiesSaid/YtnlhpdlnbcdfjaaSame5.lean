/- What the program answers when dyads and caches are compared. Printed by gen_same5.py. -/
import Derived.Test.YtnlhpdlnbcdfjaaSame1
import Derived.Test.YtnlhpdlnbcdfjaaSame2
namespace Go.Proofs.Ytnlhpdlnbcdfjaa
open Go.RowKit Go.Hx

set_option maxRecDepth 100000 in
theorem limb_Same (x y : LX Nat) (w : World) (hx : x.ok w w.heap.size cU32) (hy : y.ok w w.heap.size cU32) :
    Calls Try.prog 68 #[.slice x.A x.l.length x.c, .slice y.A y.l.length y.c] w fun e w' => e = .returned (.bool (decide (x.l = y.l))) ∧ ∃ j, w' = w.drewN j := by
  go_enter Try.func68, Try.ntmps68
  go_wp2_with fail
  refine (eq_u32 x y _ hx hy).mono ?_
  rintro e w1 ⟨rfl, j, rfl⟩
  go_wp2_with fail
  go_ret
  exact ⟨rfl, j, rfl⟩

set_option maxRecDepth 100000 in
theorem desc_Same (x y : LX PDesc) (w : World) (hx : x.ok w w.heap.size PDesc.cells) (hy : y.ok w w.heap.size PDesc.cells) :
    Calls Try.prog 56 #[.slice x.A x.l.length x.c, .slice y.A y.l.length y.c] w fun e w' => e = .returned (.bool (decide (x.l = y.l))) ∧ ∃ j, w' = w.drewN j := by
  go_enter Try.func56, Try.ntmps56
  go_wp2_with fail
  refine (eq_desc x y _ hx hy).mono ?_
  rintro e w1 ⟨rfl, j, rfl⟩
  go_wp2_with fail
  go_ret
  exact ⟨rfl, j, rfl⟩

theorem dyad_Same_iff (x y : XDyad) : x.data = y.data ↔ x.neg = y.neg ∧ x.exp = y.exp ∧ x.limbs.l = y.limbs.l := by
  constructor
  · intro h
    simp only [XDyad.data, PDyad.mk.injEq] at h
    obtain ⟨h0, h1, h2⟩ := h
    exact ⟨h0, h2, h1⟩
  · rintro ⟨h0, h1, h2⟩
    simp only [XDyad.data, PDyad.mk.injEq]
    exact ⟨h0, h2, h1⟩
set_option maxRecDepth 100000 in
set_option maxHeartbeats 1000000 in
theorem dyad_Same (x y : XDyad) (w : World) (hx : x.ok w w.heap.size) (hy : y.ok w w.heap.size) :
    Calls Try.prog 64 #[.agg #[.bool x.neg, .slice x.limbs.A x.limbs.l.length x.limbs.c, .int .i64 x.exp], .agg #[.bool y.neg, .slice y.limbs.A y.limbs.l.length y.limbs.c, .int .i64 y.exp]] w fun e w' => e = .returned (.bool (decide (x.data = y.data))) ∧ Ext w w' := by
  have HI := Lib.hid (dyad_Same_iff x y)
  by_cases q0 : x.neg = y.neg
  · have e0 : (x.neg == y.neg) = true := by simp [q0]
    have HQ0 := Lib.hid q0
    clear q0
    by_cases q1 : x.exp = y.exp
    · have e1 : (x.exp == y.exp) = true := by simp [q1]
      have HQ1 := Lib.hid q1
      clear q1
      go_enter Try.func64, Try.ntmps64
      go_wp2_with fail
      refine (limb_Same x.limbs y.limbs _ (hx.limbs.ext (by repeat (first | exact Ext.refl _ | assumption | refine Ext.alloc' ?_ _ | refine Ext.drewN' ?_ _ | refine Ext.drew' ?_ | (refine Ext.trans ?_ (by assumption))))) (hy.limbs.ext (by repeat (first | exact Ext.refl _ | assumption | refine Ext.alloc' ?_ _ | refine Ext.drewN' ?_ _ | refine Ext.drew' ?_ | (refine Ext.trans ?_ (by assumption)))))).mono ?_
      rintro e w2 ⟨rfl, j2, rfl⟩
      go_wp2_with fail
      go_ret
      exact ⟨ret_bool (decide_eq_decide.2 ⟨fun h => HI.out.2 ⟨HQ0.out, HQ1.out, h⟩, fun h => (HI.out.1 h).2.2⟩), (by repeat (first | exact Ext.refl _ | assumption | refine Ext.alloc' ?_ _ | refine Ext.drewN' ?_ _ | refine Ext.drew' ?_ | (refine Ext.trans ?_ (by assumption))))⟩
    · have e1 : (x.exp == y.exp) = false := by simpa using q1
      have HQ1 := Lib.hid q1
      clear q1
      go_enter Try.func64, Try.ntmps64
      go_wp2_with fail
      go_ret
      exact ⟨ret_bool (decide_eq_false (fun h => HQ1.out (HI.out.1 h).2.1)).symm, (by repeat (first | exact Ext.refl _ | assumption | refine Ext.alloc' ?_ _ | refine Ext.drewN' ?_ _ | refine Ext.drew' ?_ | (refine Ext.trans ?_ (by assumption))))⟩
  · have e0 : (x.neg == y.neg) = false := by simpa using q0
    have HQ0 := Lib.hid q0
    clear q0
    go_enter Try.func64, Try.ntmps64
    go_wp2_with fail
    go_ret
    exact ⟨ret_bool (decide_eq_false (fun h => HQ0.out (HI.out.1 h).1)).symm, (by repeat (first | exact Ext.refl _ | assumption | refine Ext.alloc' ?_ _ | refine Ext.drewN' ?_ _ | refine Ext.drew' ?_ | (refine Ext.trans ?_ (by assumption))))⟩

theorem cache_Same_iff (x y : XCache) : x.data = y.data ↔ x.own = y.own ∧ x.cap = y.cap ∧ x.list.l = y.list.l := by
  constructor
  · intro h
    simp only [XCache.data, PCache.mk.injEq] at h
    obtain ⟨h0, h1, h2⟩ := h
    exact ⟨h0, h1, h2⟩
  · rintro ⟨h0, h1, h2⟩
    simp only [XCache.data, PCache.mk.injEq]
    exact ⟨h0, h1, h2⟩
set_option maxRecDepth 100000 in
set_option maxHeartbeats 1000000 in
theorem cache_Same (x y : XCache) (w : World) (hx : x.ok w w.heap.size) (hy : y.ok w w.heap.size) :
    Calls Try.prog 41 #[.agg #[.int .i64 x.own, .int .i64 x.cap, .slice x.list.A x.list.l.length x.list.c], .agg #[.int .i64 y.own, .int .i64 y.cap, .slice y.list.A y.list.l.length y.list.c]] w fun e w' => e = .returned (.bool (decide (x.data = y.data))) ∧ Ext w w' := by
  have HI := Lib.hid (cache_Same_iff x y)
  by_cases q0 : x.own = y.own
  · have e0 : (x.own == y.own) = true := by simp [q0]
    have HQ0 := Lib.hid q0
    clear q0
    by_cases q1 : x.cap = y.cap
    · have e1 : (x.cap == y.cap) = true := by simp [q1]
      have HQ1 := Lib.hid q1
      clear q1
      go_enter Try.func41, Try.ntmps41
      go_wp2_with fail
      refine (desc_Same x.list y.list _ (hx.list.ext (by repeat (first | exact Ext.refl _ | assumption | refine Ext.alloc' ?_ _ | refine Ext.drewN' ?_ _ | refine Ext.drew' ?_ | (refine Ext.trans ?_ (by assumption))))) (hy.list.ext (by repeat (first | exact Ext.refl _ | assumption | refine Ext.alloc' ?_ _ | refine Ext.drewN' ?_ _ | refine Ext.drew' ?_ | (refine Ext.trans ?_ (by assumption)))))).mono ?_
      rintro e w2 ⟨rfl, j2, rfl⟩
      go_wp2_with fail
      go_ret
      exact ⟨ret_bool (decide_eq_decide.2 ⟨fun h => HI.out.2 ⟨HQ0.out, HQ1.out, h⟩, fun h => (HI.out.1 h).2.2⟩), (by repeat (first | exact Ext.refl _ | assumption | refine Ext.alloc' ?_ _ | refine Ext.drewN' ?_ _ | refine Ext.drew' ?_ | (refine Ext.trans ?_ (by assumption))))⟩
    · have e1 : (x.cap == y.cap) = false := by simpa using q1
      have HQ1 := Lib.hid q1
      clear q1
      go_enter Try.func41, Try.ntmps41
      go_wp2_with fail
      go_ret
      exact ⟨ret_bool (decide_eq_false (fun h => HQ1.out (HI.out.1 h).2.1)).symm, (by repeat (first | exact Ext.refl _ | assumption | refine Ext.alloc' ?_ _ | refine Ext.drewN' ?_ _ | refine Ext.drew' ?_ | (refine Ext.trans ?_ (by assumption))))⟩
  · have e0 : (x.own == y.own) = false := by simpa using q0
    have HQ0 := Lib.hid q0
    clear q0
    go_enter Try.func41, Try.ntmps41
    go_wp2_with fail
    go_ret
    exact ⟨ret_bool (decide_eq_false (fun h => HQ0.out (HI.out.1 h).1)).symm, (by repeat (first | exact Ext.refl _ | assumption | refine Ext.alloc' ?_ _ | refine Ext.drewN' ?_ _ | refine Ext.drew' ?_ | (refine Ext.trans ?_ (by assumption))))⟩

end Go.Proofs.Ytnlhpdlnbcdfjaa
