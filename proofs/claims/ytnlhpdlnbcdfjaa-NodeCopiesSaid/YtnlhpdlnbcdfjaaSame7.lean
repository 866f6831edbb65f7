/- What the program answers when nodes are compared. Printed by gen_same5.py. -/
import Derived.Test.YtnlhpdlnbcdfjaaPastSame
namespace Go.Proofs.Ytnlhpdlnbcdfjaa
open Go.RowKit Go.Hx

theorem node_Same_iff (x y : XNode) : x.data = y.data ↔ x.id = y.id ∧ x.value = y.value ∧ x.up = y.up ∧ x.clock = y.clock ∧ x.wait = y.wait ∧ x.part.data = y.part.data ∧ x.heard.l = y.heard.l ∧ x.cache.data = y.cache.data ∧ x.past.l.map XFrozen.data = y.past.l.map XFrozen.data ∧ x.timers.l = y.timers.l := by
  constructor
  · intro h
    simp only [XNode.data, PNode.mk.injEq] at h
    obtain ⟨h0, h1, h2, h3, h4, h5, h6, h7, h8, h9⟩ := h
    exact ⟨h0, h1, h2, h3, h5, h4, h6, h7, h8, h9⟩
  · rintro ⟨h0, h1, h2, h3, h4, h5, h6, h7, h8, h9⟩
    simp only [XNode.data, PNode.mk.injEq]
    exact ⟨h0, h1, h2, h3, h5, h4, h6, h7, h8, h9⟩
set_option maxRecDepth 100000 in
set_option maxHeartbeats 4000000 in
theorem node_Same (x y : XNode) (w : World) (hx : x.ok w w.heap.size) (hy : y.ok w w.heap.size) :
    Calls Try.prog 17 #[.agg #[.int .i64 x.id, .int .i64 x.value, .bool x.up, .int .i64 x.clock.len, .int .i64 x.clock.tick, .int .i64 x.clock.since, .int .i64 x.clock.epoch, .int .i64 x.clock.from_, .bool x.part.held.s.neg, .slice x.part.held.s.limbs.A x.part.held.s.limbs.l.length x.part.held.s.limbs.c, .int .i64 x.part.held.s.exp, .bool x.part.held.w.neg, .slice x.part.held.w.limbs.A x.part.held.w.limbs.l.length x.part.held.w.limbs.c, .int .i64 x.part.held.w.exp, .bool x.part.held.c.neg, .slice x.part.held.c.limbs.A x.part.held.c.limbs.l.length x.part.held.c.limbs.c, .int .i64 x.part.held.c.exp, .bool x.part.held.a.neg, .slice x.part.held.a.limbs.A x.part.held.a.limbs.l.length x.part.held.a.limbs.c, .int .i64 x.part.held.a.exp, .bool x.part.edge.has, .int .i64 x.part.edge.min, .int .i64 x.part.edge.max, .slice x.part.least.A x.part.least.l.length x.part.least.c, .bool x.wait.out, .int .i64 x.wait.number, .int .i64 x.wait.to, .slice x.heard.A x.heard.l.length x.heard.c, .int .i64 x.cache.own, .int .i64 x.cache.cap, .slice x.cache.list.A x.cache.list.l.length x.cache.list.c, .slice x.past.A x.past.l.length x.past.c, .slice x.timers.A x.timers.l.length x.timers.c], .agg #[.int .i64 y.id, .int .i64 y.value, .bool y.up, .int .i64 y.clock.len, .int .i64 y.clock.tick, .int .i64 y.clock.since, .int .i64 y.clock.epoch, .int .i64 y.clock.from_, .bool y.part.held.s.neg, .slice y.part.held.s.limbs.A y.part.held.s.limbs.l.length y.part.held.s.limbs.c, .int .i64 y.part.held.s.exp, .bool y.part.held.w.neg, .slice y.part.held.w.limbs.A y.part.held.w.limbs.l.length y.part.held.w.limbs.c, .int .i64 y.part.held.w.exp, .bool y.part.held.c.neg, .slice y.part.held.c.limbs.A y.part.held.c.limbs.l.length y.part.held.c.limbs.c, .int .i64 y.part.held.c.exp, .bool y.part.held.a.neg, .slice y.part.held.a.limbs.A y.part.held.a.limbs.l.length y.part.held.a.limbs.c, .int .i64 y.part.held.a.exp, .bool y.part.edge.has, .int .i64 y.part.edge.min, .int .i64 y.part.edge.max, .slice y.part.least.A y.part.least.l.length y.part.least.c, .bool y.wait.out, .int .i64 y.wait.number, .int .i64 y.wait.to, .slice y.heard.A y.heard.l.length y.heard.c, .int .i64 y.cache.own, .int .i64 y.cache.cap, .slice y.cache.list.A y.cache.list.l.length y.cache.list.c, .slice y.past.A y.past.l.length y.past.c, .slice y.timers.A y.timers.l.length y.timers.c]] w fun e w' => e = .returned (.bool (decide (x.data = y.data))) ∧ Ext w w' := by
  have HI := Lib.hid (node_Same_iff x y)
  by_cases q0 : x.id = y.id
  · have e0 : (x.id == y.id) = true := by simp [q0]
    have HQ0 := Lib.hid q0
    clear q0
    by_cases q1 : x.value = y.value
    · have e1 : (x.value == y.value) = true := by simp [q1]
      have HQ1 := Lib.hid q1
      clear q1
      by_cases q2 : x.up = y.up
      · have e2 : (x.up == y.up) = true := by simp [q2]
        have HQ2 := Lib.hid q2
        clear q2
        by_cases q3 : x.clock = y.clock
        · have e3 : ∀ W, (binOp .eql 23 (.agg #[.int .i64 x.clock.len, .int .i64 x.clock.tick, .int .i64 x.clock.since, .int .i64 x.clock.epoch, .int .i64 x.clock.from_]) (.agg #[.int .i64 y.clock.len, .int .i64 y.clock.tick, .int .i64 y.clock.since, .int .i64 y.clock.epoch, .int .i64 y.clock.from_])).run Try.prog W = .ok (.bool true) W := fun W => by rw [eqlClock, decide_eq_true q3]
          have HQ3 := Lib.hid q3
          clear q3
          by_cases q4 : x.wait = y.wait
          · have e4 : ∀ W, (binOp .eql 34 (.agg #[.bool x.wait.out, .int .i64 x.wait.number, .int .i64 x.wait.to]) (.agg #[.bool y.wait.out, .int .i64 y.wait.number, .int .i64 y.wait.to])).run Try.prog W = .ok (.bool true) W := fun W => by rw [eqlWait, decide_eq_true q4]
            have HQ4 := Lib.hid q4
            clear q4
            by_cases q5 : x.part.data = y.part.data
            · have e5 : decide (x.part.data = y.part.data) = true := decide_eq_true q5
              have HQ5 := Lib.hid q5
              clear q5
              by_cases q6 : x.heard.l = y.heard.l
              · have e6 : decide (x.heard.l = y.heard.l) = true := decide_eq_true q6
                have HQ6 := Lib.hid q6
                clear q6
                by_cases q7 : x.cache.data = y.cache.data
                · have e7 : decide (x.cache.data = y.cache.data) = true := decide_eq_true q7
                  have HQ7 := Lib.hid q7
                  clear q7
                  by_cases q8 : x.past.l.map XFrozen.data = y.past.l.map XFrozen.data
                  · have e8 : decide (x.past.l.map XFrozen.data = y.past.l.map XFrozen.data) = true := decide_eq_true q8
                    have HQ8 := Lib.hid q8
                    clear q8
                    go_enter Try.func17, Try.ntmps17
                    go_wp2_with fail
                    refine (past_SamePart x.part y.part _ (hx.part.ext (by repeat (first | exact Ext.refl _ | assumption | refine Ext.alloc' ?_ _ | refine Ext.drewN' ?_ _ | refine Ext.drew' ?_ | (refine Ext.trans ?_ (by assumption))))) (hy.part.ext (by repeat (first | exact Ext.refl _ | assumption | refine Ext.alloc' ?_ _ | refine Ext.drewN' ?_ _ | refine Ext.drew' ?_ | (refine Ext.trans ?_ (by assumption)))))).mono ?_
                    rintro e w5 ⟨rfl, hE5⟩
                    have hT5 := hE5
                    obtain ⟨hc5, hf5⟩ := ext_cell hT5
                    go_wp2_with fail
                    refine (eq_int x.heard y.heard _ (hx.heard.ext (by repeat (first | exact Ext.refl _ | assumption | refine Ext.alloc' ?_ _ | refine Ext.drewN' ?_ _ | refine Ext.drew' ?_ | (refine Ext.trans ?_ (by assumption))))) (hy.heard.ext (by repeat (first | exact Ext.refl _ | assumption | refine Ext.alloc' ?_ _ | refine Ext.drewN' ?_ _ | refine Ext.drew' ?_ | (refine Ext.trans ?_ (by assumption)))))).mono ?_
                    rintro e w6 ⟨rfl, j6, rfl⟩
                    go_wp2_with fail
                    refine (cache_Same x.cache y.cache _ (hx.cache.ext (by repeat (first | exact Ext.refl _ | assumption | refine Ext.alloc' ?_ _ | refine Ext.drewN' ?_ _ | refine Ext.drew' ?_ | (refine Ext.trans ?_ (by assumption))))) (hy.cache.ext (by repeat (first | exact Ext.refl _ | assumption | refine Ext.alloc' ?_ _ | refine Ext.drewN' ?_ _ | refine Ext.drew' ?_ | (refine Ext.trans ?_ (by assumption)))))).mono ?_
                    rintro e w7 ⟨rfl, hE7⟩
                    have hT7 := ((hT5).drewN' j6).trans hE7
                    clear hc5 hf5
                    obtain ⟨hc7, hf7⟩ := ext_cell hT7
                    go_wp2_with fail
                    refine (past_Same x.past y.past _ (hx.past.ext (by repeat (first | exact Ext.refl _ | assumption | refine Ext.alloc' ?_ _ | refine Ext.drewN' ?_ _ | refine Ext.drew' ?_ | (refine Ext.trans ?_ (by assumption))))) (hy.past.ext (by repeat (first | exact Ext.refl _ | assumption | refine Ext.alloc' ?_ _ | refine Ext.drewN' ?_ _ | refine Ext.drew' ?_ | (refine Ext.trans ?_ (by assumption))))) (fun z hz => (hx.past_ z hz).ext (by repeat (first | exact Ext.refl _ | assumption | refine Ext.alloc' ?_ _ | refine Ext.drewN' ?_ _ | refine Ext.drew' ?_ | (refine Ext.trans ?_ (by assumption))))) (fun z hz => (hy.past_ z hz).ext (by repeat (first | exact Ext.refl _ | assumption | refine Ext.alloc' ?_ _ | refine Ext.drewN' ?_ _ | refine Ext.drew' ?_ | (refine Ext.trans ?_ (by assumption)))))).mono ?_
                    rintro e w8 ⟨rfl, hE8⟩
                    have hT8 := (hT7).trans hE8
                    clear hc7 hf7
                    obtain ⟨hc8, hf8⟩ := ext_cell hT8
                    go_wp2_with fail
                    refine (eq_timer x.timers y.timers _ (hx.timers.ext (by repeat (first | exact Ext.refl _ | assumption | refine Ext.alloc' ?_ _ | refine Ext.drewN' ?_ _ | refine Ext.drew' ?_ | (refine Ext.trans ?_ (by assumption))))) (hy.timers.ext (by repeat (first | exact Ext.refl _ | assumption | refine Ext.alloc' ?_ _ | refine Ext.drewN' ?_ _ | refine Ext.drew' ?_ | (refine Ext.trans ?_ (by assumption)))))).mono ?_
                    rintro e w9 ⟨rfl, j9, rfl⟩
                    go_wp2_with fail
                    go_ret
                    exact ⟨ret_bool (decide_eq_decide.2 ⟨fun h => HI.out.2 ⟨HQ0.out, HQ1.out, HQ2.out, HQ3.out, HQ4.out, HQ5.out, HQ6.out, HQ7.out, HQ8.out, h⟩, fun h => (HI.out.1 h).2.2.2.2.2.2.2.2.2⟩), (by repeat (first | exact Ext.refl _ | assumption | refine Ext.alloc' ?_ _ | refine Ext.drewN' ?_ _ | refine Ext.drew' ?_ | (refine Ext.trans ?_ (by assumption))))⟩
                  · have e8 : decide (x.past.l.map XFrozen.data = y.past.l.map XFrozen.data) = false := decide_eq_false q8
                    have HQ8 := Lib.hid q8
                    clear q8
                    go_enter Try.func17, Try.ntmps17
                    go_wp2_with fail
                    refine (past_SamePart x.part y.part _ (hx.part.ext (by repeat (first | exact Ext.refl _ | assumption | refine Ext.alloc' ?_ _ | refine Ext.drewN' ?_ _ | refine Ext.drew' ?_ | (refine Ext.trans ?_ (by assumption))))) (hy.part.ext (by repeat (first | exact Ext.refl _ | assumption | refine Ext.alloc' ?_ _ | refine Ext.drewN' ?_ _ | refine Ext.drew' ?_ | (refine Ext.trans ?_ (by assumption)))))).mono ?_
                    rintro e w5 ⟨rfl, hE5⟩
                    have hT5 := hE5
                    obtain ⟨hc5, hf5⟩ := ext_cell hT5
                    go_wp2_with fail
                    refine (eq_int x.heard y.heard _ (hx.heard.ext (by repeat (first | exact Ext.refl _ | assumption | refine Ext.alloc' ?_ _ | refine Ext.drewN' ?_ _ | refine Ext.drew' ?_ | (refine Ext.trans ?_ (by assumption))))) (hy.heard.ext (by repeat (first | exact Ext.refl _ | assumption | refine Ext.alloc' ?_ _ | refine Ext.drewN' ?_ _ | refine Ext.drew' ?_ | (refine Ext.trans ?_ (by assumption)))))).mono ?_
                    rintro e w6 ⟨rfl, j6, rfl⟩
                    go_wp2_with fail
                    refine (cache_Same x.cache y.cache _ (hx.cache.ext (by repeat (first | exact Ext.refl _ | assumption | refine Ext.alloc' ?_ _ | refine Ext.drewN' ?_ _ | refine Ext.drew' ?_ | (refine Ext.trans ?_ (by assumption))))) (hy.cache.ext (by repeat (first | exact Ext.refl _ | assumption | refine Ext.alloc' ?_ _ | refine Ext.drewN' ?_ _ | refine Ext.drew' ?_ | (refine Ext.trans ?_ (by assumption)))))).mono ?_
                    rintro e w7 ⟨rfl, hE7⟩
                    have hT7 := ((hT5).drewN' j6).trans hE7
                    clear hc5 hf5
                    obtain ⟨hc7, hf7⟩ := ext_cell hT7
                    go_wp2_with fail
                    refine (past_Same x.past y.past _ (hx.past.ext (by repeat (first | exact Ext.refl _ | assumption | refine Ext.alloc' ?_ _ | refine Ext.drewN' ?_ _ | refine Ext.drew' ?_ | (refine Ext.trans ?_ (by assumption))))) (hy.past.ext (by repeat (first | exact Ext.refl _ | assumption | refine Ext.alloc' ?_ _ | refine Ext.drewN' ?_ _ | refine Ext.drew' ?_ | (refine Ext.trans ?_ (by assumption))))) (fun z hz => (hx.past_ z hz).ext (by repeat (first | exact Ext.refl _ | assumption | refine Ext.alloc' ?_ _ | refine Ext.drewN' ?_ _ | refine Ext.drew' ?_ | (refine Ext.trans ?_ (by assumption))))) (fun z hz => (hy.past_ z hz).ext (by repeat (first | exact Ext.refl _ | assumption | refine Ext.alloc' ?_ _ | refine Ext.drewN' ?_ _ | refine Ext.drew' ?_ | (refine Ext.trans ?_ (by assumption)))))).mono ?_
                    rintro e w8 ⟨rfl, hE8⟩
                    go_wp2_with fail
                    go_ret
                    exact ⟨ret_bool (decide_eq_false (fun h => HQ8.out (HI.out.1 h).2.2.2.2.2.2.2.2.1)).symm, (by repeat (first | exact Ext.refl _ | assumption | refine Ext.alloc' ?_ _ | refine Ext.drewN' ?_ _ | refine Ext.drew' ?_ | (refine Ext.trans ?_ (by assumption))))⟩
                · have e7 : decide (x.cache.data = y.cache.data) = false := decide_eq_false q7
                  have HQ7 := Lib.hid q7
                  clear q7
                  go_enter Try.func17, Try.ntmps17
                  go_wp2_with fail
                  refine (past_SamePart x.part y.part _ (hx.part.ext (by repeat (first | exact Ext.refl _ | assumption | refine Ext.alloc' ?_ _ | refine Ext.drewN' ?_ _ | refine Ext.drew' ?_ | (refine Ext.trans ?_ (by assumption))))) (hy.part.ext (by repeat (first | exact Ext.refl _ | assumption | refine Ext.alloc' ?_ _ | refine Ext.drewN' ?_ _ | refine Ext.drew' ?_ | (refine Ext.trans ?_ (by assumption)))))).mono ?_
                  rintro e w5 ⟨rfl, hE5⟩
                  have hT5 := hE5
                  obtain ⟨hc5, hf5⟩ := ext_cell hT5
                  go_wp2_with fail
                  refine (eq_int x.heard y.heard _ (hx.heard.ext (by repeat (first | exact Ext.refl _ | assumption | refine Ext.alloc' ?_ _ | refine Ext.drewN' ?_ _ | refine Ext.drew' ?_ | (refine Ext.trans ?_ (by assumption))))) (hy.heard.ext (by repeat (first | exact Ext.refl _ | assumption | refine Ext.alloc' ?_ _ | refine Ext.drewN' ?_ _ | refine Ext.drew' ?_ | (refine Ext.trans ?_ (by assumption)))))).mono ?_
                  rintro e w6 ⟨rfl, j6, rfl⟩
                  go_wp2_with fail
                  refine (cache_Same x.cache y.cache _ (hx.cache.ext (by repeat (first | exact Ext.refl _ | assumption | refine Ext.alloc' ?_ _ | refine Ext.drewN' ?_ _ | refine Ext.drew' ?_ | (refine Ext.trans ?_ (by assumption))))) (hy.cache.ext (by repeat (first | exact Ext.refl _ | assumption | refine Ext.alloc' ?_ _ | refine Ext.drewN' ?_ _ | refine Ext.drew' ?_ | (refine Ext.trans ?_ (by assumption)))))).mono ?_
                  rintro e w7 ⟨rfl, hE7⟩
                  go_wp2_with fail
                  go_ret
                  exact ⟨ret_bool (decide_eq_false (fun h => HQ7.out (HI.out.1 h).2.2.2.2.2.2.2.1)).symm, (by repeat (first | exact Ext.refl _ | assumption | refine Ext.alloc' ?_ _ | refine Ext.drewN' ?_ _ | refine Ext.drew' ?_ | (refine Ext.trans ?_ (by assumption))))⟩
              · have e6 : decide (x.heard.l = y.heard.l) = false := decide_eq_false q6
                have HQ6 := Lib.hid q6
                clear q6
                go_enter Try.func17, Try.ntmps17
                go_wp2_with fail
                refine (past_SamePart x.part y.part _ (hx.part.ext (by repeat (first | exact Ext.refl _ | assumption | refine Ext.alloc' ?_ _ | refine Ext.drewN' ?_ _ | refine Ext.drew' ?_ | (refine Ext.trans ?_ (by assumption))))) (hy.part.ext (by repeat (first | exact Ext.refl _ | assumption | refine Ext.alloc' ?_ _ | refine Ext.drewN' ?_ _ | refine Ext.drew' ?_ | (refine Ext.trans ?_ (by assumption)))))).mono ?_
                rintro e w5 ⟨rfl, hE5⟩
                have hT5 := hE5
                obtain ⟨hc5, hf5⟩ := ext_cell hT5
                go_wp2_with fail
                refine (eq_int x.heard y.heard _ (hx.heard.ext (by repeat (first | exact Ext.refl _ | assumption | refine Ext.alloc' ?_ _ | refine Ext.drewN' ?_ _ | refine Ext.drew' ?_ | (refine Ext.trans ?_ (by assumption))))) (hy.heard.ext (by repeat (first | exact Ext.refl _ | assumption | refine Ext.alloc' ?_ _ | refine Ext.drewN' ?_ _ | refine Ext.drew' ?_ | (refine Ext.trans ?_ (by assumption)))))).mono ?_
                rintro e w6 ⟨rfl, j6, rfl⟩
                go_wp2_with fail
                go_ret
                exact ⟨ret_bool (decide_eq_false (fun h => HQ6.out (HI.out.1 h).2.2.2.2.2.2.1)).symm, (by repeat (first | exact Ext.refl _ | assumption | refine Ext.alloc' ?_ _ | refine Ext.drewN' ?_ _ | refine Ext.drew' ?_ | (refine Ext.trans ?_ (by assumption))))⟩
            · have e5 : decide (x.part.data = y.part.data) = false := decide_eq_false q5
              have HQ5 := Lib.hid q5
              clear q5
              go_enter Try.func17, Try.ntmps17
              go_wp2_with fail
              refine (past_SamePart x.part y.part _ (hx.part.ext (by repeat (first | exact Ext.refl _ | assumption | refine Ext.alloc' ?_ _ | refine Ext.drewN' ?_ _ | refine Ext.drew' ?_ | (refine Ext.trans ?_ (by assumption))))) (hy.part.ext (by repeat (first | exact Ext.refl _ | assumption | refine Ext.alloc' ?_ _ | refine Ext.drewN' ?_ _ | refine Ext.drew' ?_ | (refine Ext.trans ?_ (by assumption)))))).mono ?_
              rintro e w5 ⟨rfl, hE5⟩
              go_wp2_with fail
              go_ret
              exact ⟨ret_bool (decide_eq_false (fun h => HQ5.out (HI.out.1 h).2.2.2.2.2.1)).symm, (by repeat (first | exact Ext.refl _ | assumption | refine Ext.alloc' ?_ _ | refine Ext.drewN' ?_ _ | refine Ext.drew' ?_ | (refine Ext.trans ?_ (by assumption))))⟩
          · have e4 : ∀ W, (binOp .eql 34 (.agg #[.bool x.wait.out, .int .i64 x.wait.number, .int .i64 x.wait.to]) (.agg #[.bool y.wait.out, .int .i64 y.wait.number, .int .i64 y.wait.to])).run Try.prog W = .ok (.bool false) W := fun W => by rw [eqlWait, decide_eq_false q4]
            have HQ4 := Lib.hid q4
            clear q4
            go_enter Try.func17, Try.ntmps17
            go_wp2_with fail
            go_ret
            exact ⟨ret_bool (decide_eq_false (fun h => HQ4.out (HI.out.1 h).2.2.2.2.1)).symm, (by repeat (first | exact Ext.refl _ | assumption | refine Ext.alloc' ?_ _ | refine Ext.drewN' ?_ _ | refine Ext.drew' ?_ | (refine Ext.trans ?_ (by assumption))))⟩
        · have e3 : ∀ W, (binOp .eql 23 (.agg #[.int .i64 x.clock.len, .int .i64 x.clock.tick, .int .i64 x.clock.since, .int .i64 x.clock.epoch, .int .i64 x.clock.from_]) (.agg #[.int .i64 y.clock.len, .int .i64 y.clock.tick, .int .i64 y.clock.since, .int .i64 y.clock.epoch, .int .i64 y.clock.from_])).run Try.prog W = .ok (.bool false) W := fun W => by rw [eqlClock, decide_eq_false q3]
          have HQ3 := Lib.hid q3
          clear q3
          go_enter Try.func17, Try.ntmps17
          go_wp2_with fail
          go_ret
          exact ⟨ret_bool (decide_eq_false (fun h => HQ3.out (HI.out.1 h).2.2.2.1)).symm, (by repeat (first | exact Ext.refl _ | assumption | refine Ext.alloc' ?_ _ | refine Ext.drewN' ?_ _ | refine Ext.drew' ?_ | (refine Ext.trans ?_ (by assumption))))⟩
      · have e2 : (x.up == y.up) = false := by simpa using q2
        have HQ2 := Lib.hid q2
        clear q2
        go_enter Try.func17, Try.ntmps17
        go_wp2_with fail
        go_ret
        exact ⟨ret_bool (decide_eq_false (fun h => HQ2.out (HI.out.1 h).2.2.1)).symm, (by repeat (first | exact Ext.refl _ | assumption | refine Ext.alloc' ?_ _ | refine Ext.drewN' ?_ _ | refine Ext.drew' ?_ | (refine Ext.trans ?_ (by assumption))))⟩
    · have e1 : (x.value == y.value) = false := by simpa using q1
      have HQ1 := Lib.hid q1
      clear q1
      go_enter Try.func17, Try.ntmps17
      go_wp2_with fail
      go_ret
      exact ⟨ret_bool (decide_eq_false (fun h => HQ1.out (HI.out.1 h).2.1)).symm, (by repeat (first | exact Ext.refl _ | assumption | refine Ext.alloc' ?_ _ | refine Ext.drewN' ?_ _ | refine Ext.drew' ?_ | (refine Ext.trans ?_ (by assumption))))⟩
  · have e0 : (x.id == y.id) = false := by simpa using q0
    have HQ0 := Lib.hid q0
    clear q0
    go_enter Try.func17, Try.ntmps17
    go_wp2_with fail
    go_ret
    exact ⟨ret_bool (decide_eq_false (fun h => HQ0.out (HI.out.1 h).1)).symm, (by repeat (first | exact Ext.refl _ | assumption | refine Ext.alloc' ?_ _ | refine Ext.drewN' ?_ _ | refine Ext.drew' ?_ | (refine Ext.trans ?_ (by assumption))))⟩

end Go.Proofs.Ytnlhpdlnbcdfjaa
