/- Clocks, values, sizes: what is asked of them. Printed by gen_tests.py. -/
import Derived.Test.YtnlhpdlnbcdfjaaRows
import Derived.Test.YtnlhpdlnbcdfjaaData
namespace Go.Proofs.Ytnlhpdlnbcdfjaa
open Go.RowKit Go.Hx

def valueB (x : Int) : Bool := decide (-2147483647 ≤ x ∧ x ≤ 2147483647)
def clockB (c : PClock) : Bool := decide (1 ≤ c.len ∧ c.len ≤ 64 ∧ 0 ≤ c.since ∧ c.since ≤ c.tick ∧ c.tick ≤ 2147483647 ∧ 0 ≤ c.epoch ∧ c.epoch ≤ 65535 ∧ 0 ≤ c.from_ ∧ c.from_ ≤ 65536 ∧ (c.tick - c.since < c.len ∨ c.epoch = 65535))

set_option maxRecDepth 100000 in
set_option maxHeartbeats 400000 in
theorem node_value (x : Int) (w : World) :
    Calls Try.prog 20 #[.int .i64 x] w fun e w' => e = .returned (.bool (valueB x)) ∧ Ext w w' := by
  by_cases q0 : -2147483647 ≤ x
  · have r0 : ¬ (x < -2147483647) := by omega
    by_cases q1 : x ≤ 2147483647
    · have r1 : ¬ (2147483647 < x) := by omega
      have hs := Lib.hid (show (valueB x) = true from decide_eq_true (by omega))
      go_enter Try.func20, Try.ntmps20
      go_wp2
      go_ret
      exact ⟨ret_bool (by rw [hs.out] <;> first | rfl | exact decide_eq_true (by omega) | exact decide_eq_false (by omega)), (by repeat (first | exact Ext.refl _ | assumption | refine Ext.alloc' ?_ _ | refine Ext.drewN' ?_ _ | refine Ext.drew' ?_ | (refine Ext.trans ?_ (by assumption))))⟩
    · have r1 : 2147483647 < x := by omega
      have hs := Lib.hid (show (valueB x) = false from decide_eq_false (by omega))
      go_enter Try.func20, Try.ntmps20
      go_wp2
      go_ret
      exact ⟨ret_bool (by rw [hs.out] <;> first | rfl | exact decide_eq_true (by omega) | exact decide_eq_false (by omega)), (by repeat (first | exact Ext.refl _ | assumption | refine Ext.alloc' ?_ _ | refine Ext.drewN' ?_ _ | refine Ext.drew' ?_ | (refine Ext.trans ?_ (by assumption))))⟩
  · have r0 : x < -2147483647 := by omega
    have hs := Lib.hid (show (valueB x) = false from decide_eq_false (by omega))
    go_enter Try.func20, Try.ntmps20
    go_wp2
    go_ret
    exact ⟨ret_bool (by rw [hs.out] <;> first | rfl | exact decide_eq_true (by omega) | exact decide_eq_false (by omega)), (by repeat (first | exact Ext.refl _ | assumption | refine Ext.alloc' ?_ _ | refine Ext.drewN' ?_ _ | refine Ext.drew' ?_ | (refine Ext.trans ?_ (by assumption))))⟩

set_option maxRecDepth 100000 in
set_option maxHeartbeats 400000 in
theorem ref17_Value (x : Int) (w : World) :
    Calls Try.prog 22 #[.int .i64 x] w fun e w' => e = .returned (.bool (valueB x)) ∧ Ext w w' := by
  by_cases q0 : -2147483647 ≤ x
  · have r0 : ¬ (x < -2147483647) := by omega
    by_cases q1 : x ≤ 2147483647
    · have r1 : ¬ (2147483647 < x) := by omega
      have hs := Lib.hid (show (valueB x) = true from decide_eq_true (by omega))
      go_enter Try.func22, Try.ntmps22
      go_wp2
      go_ret
      exact ⟨ret_bool (by rw [hs.out] <;> first | rfl | exact decide_eq_true (by omega) | exact decide_eq_false (by omega)), (by repeat (first | exact Ext.refl _ | assumption | refine Ext.alloc' ?_ _ | refine Ext.drewN' ?_ _ | refine Ext.drew' ?_ | (refine Ext.trans ?_ (by assumption))))⟩
    · have r1 : 2147483647 < x := by omega
      have hs := Lib.hid (show (valueB x) = false from decide_eq_false (by omega))
      go_enter Try.func22, Try.ntmps22
      go_wp2
      go_ret
      exact ⟨ret_bool (by rw [hs.out] <;> first | rfl | exact decide_eq_true (by omega) | exact decide_eq_false (by omega)), (by repeat (first | exact Ext.refl _ | assumption | refine Ext.alloc' ?_ _ | refine Ext.drewN' ?_ _ | refine Ext.drew' ?_ | (refine Ext.trans ?_ (by assumption))))⟩
  · have r0 : x < -2147483647 := by omega
    have hs := Lib.hid (show (valueB x) = false from decide_eq_false (by omega))
    go_enter Try.func22, Try.ntmps22
    go_wp2
    go_ret
    exact ⟨ret_bool (by rw [hs.out] <;> first | rfl | exact decide_eq_true (by omega) | exact decide_eq_false (by omega)), (by repeat (first | exact Ext.refl _ | assumption | refine Ext.alloc' ?_ _ | refine Ext.drewN' ?_ _ | refine Ext.drew' ?_ | (refine Ext.trans ?_ (by assumption))))⟩

set_option maxRecDepth 100000 in
set_option maxHeartbeats 400000 in
theorem epoch_Check0 (c : PClock) (w : World) :
    Calls Try.prog 21 #[.agg #[.int .i64 c.len, .int .i64 c.tick, .int .i64 c.since, .int .i64 c.epoch, .int .i64 c.from_]] w fun e w' => e = .returned (.int .i64 (pick (clockB c) 0 8)) ∧ Ext w w' := by
  by_cases q0 : 1 ≤ c.len
  · have r0 : ¬ (c.len < 1) := by omega
    by_cases q1 : c.len ≤ 64
    · have r1 : ¬ (64 < c.len) := by omega
      by_cases q2 : 0 ≤ c.since
      · have r2 : ¬ (c.since < 0) := by omega
        by_cases q3 : c.since ≤ c.tick
        · have r3 : ¬ (c.tick < c.since) := by omega
          by_cases q4 : c.tick ≤ 2147483647
          · have r4 : ¬ (2147483647 < c.tick) := by omega
            by_cases q5 : 0 ≤ c.epoch
            · have r5 : ¬ (c.epoch < 0) := by omega
              by_cases q6 : c.epoch ≤ 65535
              · have r6 : ¬ (65535 < c.epoch) := by omega
                by_cases q7 : 0 ≤ c.from_
                · have r7 : ¬ (c.from_ < 0) := by omega
                  by_cases q8 : c.from_ ≤ 65536
                  · have r8 : ¬ (65536 < c.from_) := by omega
                    by_cases f20 : c.tick - c.since < c.len
                    · have r : ¬ (c.len ≤ c.tick - c.since) := by omega
                      have hs := Lib.hid (show (clockB c) = true from decide_eq_true (by omega))
                      go_enter Try.func21, Try.ntmps21
                      go_wp2
                      go_ret
                      exact ⟨ret_int (by rw [hs.out]; rfl), (by repeat (first | exact Ext.refl _ | assumption | refine Ext.alloc' ?_ _ | refine Ext.drewN' ?_ _ | refine Ext.drew' ?_ | (refine Ext.trans ?_ (by assumption))))⟩
                    · have r : c.len ≤ c.tick - c.since := by omega
                      by_cases f22 : c.epoch = 65535
                      · have s : (c.epoch != 65535) = false := by rw [bne_eq_false_iff_eq]; omega
                        have hs := Lib.hid (show (clockB c) = true from decide_eq_true (by omega))
                        go_enter Try.func21, Try.ntmps21
                        go_wp2
                        go_ret
                        exact ⟨ret_int (by rw [hs.out]; rfl), (by repeat (first | exact Ext.refl _ | assumption | refine Ext.alloc' ?_ _ | refine Ext.drewN' ?_ _ | refine Ext.drew' ?_ | (refine Ext.trans ?_ (by assumption))))⟩
                      · have s : (c.epoch != 65535) = true := by rw [bne_iff_ne]; omega
                        have hs := Lib.hid (show (clockB c) = false from decide_eq_false (by omega))
                        go_enter Try.func21, Try.ntmps21
                        go_wp2
                        go_ret
                        exact ⟨ret_int (by rw [hs.out]; rfl), (by repeat (first | exact Ext.refl _ | assumption | refine Ext.alloc' ?_ _ | refine Ext.drewN' ?_ _ | refine Ext.drew' ?_ | (refine Ext.trans ?_ (by assumption))))⟩
                  · have r8 : 65536 < c.from_ := by omega
                    have hs := Lib.hid (show (clockB c) = false from decide_eq_false (by omega))
                    go_enter Try.func21, Try.ntmps21
                    go_wp2
                    go_ret
                    exact ⟨ret_int (by rw [hs.out]; rfl), (by repeat (first | exact Ext.refl _ | assumption | refine Ext.alloc' ?_ _ | refine Ext.drewN' ?_ _ | refine Ext.drew' ?_ | (refine Ext.trans ?_ (by assumption))))⟩
                · have r7 : c.from_ < 0 := by omega
                  have hs := Lib.hid (show (clockB c) = false from decide_eq_false (by omega))
                  go_enter Try.func21, Try.ntmps21
                  go_wp2
                  go_ret
                  exact ⟨ret_int (by rw [hs.out]; rfl), (by repeat (first | exact Ext.refl _ | assumption | refine Ext.alloc' ?_ _ | refine Ext.drewN' ?_ _ | refine Ext.drew' ?_ | (refine Ext.trans ?_ (by assumption))))⟩
              · have r6 : 65535 < c.epoch := by omega
                have hs := Lib.hid (show (clockB c) = false from decide_eq_false (by omega))
                go_enter Try.func21, Try.ntmps21
                go_wp2
                go_ret
                exact ⟨ret_int (by rw [hs.out]; rfl), (by repeat (first | exact Ext.refl _ | assumption | refine Ext.alloc' ?_ _ | refine Ext.drewN' ?_ _ | refine Ext.drew' ?_ | (refine Ext.trans ?_ (by assumption))))⟩
            · have r5 : c.epoch < 0 := by omega
              have hs := Lib.hid (show (clockB c) = false from decide_eq_false (by omega))
              go_enter Try.func21, Try.ntmps21
              go_wp2
              go_ret
              exact ⟨ret_int (by rw [hs.out]; rfl), (by repeat (first | exact Ext.refl _ | assumption | refine Ext.alloc' ?_ _ | refine Ext.drewN' ?_ _ | refine Ext.drew' ?_ | (refine Ext.trans ?_ (by assumption))))⟩
          · have r4 : 2147483647 < c.tick := by omega
            have hs := Lib.hid (show (clockB c) = false from decide_eq_false (by omega))
            go_enter Try.func21, Try.ntmps21
            go_wp2
            go_ret
            exact ⟨ret_int (by rw [hs.out]; rfl), (by repeat (first | exact Ext.refl _ | assumption | refine Ext.alloc' ?_ _ | refine Ext.drewN' ?_ _ | refine Ext.drew' ?_ | (refine Ext.trans ?_ (by assumption))))⟩
        · have r3 : c.tick < c.since := by omega
          have hs := Lib.hid (show (clockB c) = false from decide_eq_false (by omega))
          go_enter Try.func21, Try.ntmps21
          go_wp2
          go_ret
          exact ⟨ret_int (by rw [hs.out]; rfl), (by repeat (first | exact Ext.refl _ | assumption | refine Ext.alloc' ?_ _ | refine Ext.drewN' ?_ _ | refine Ext.drew' ?_ | (refine Ext.trans ?_ (by assumption))))⟩
      · have r2 : c.since < 0 := by omega
        have hs := Lib.hid (show (clockB c) = false from decide_eq_false (by omega))
        go_enter Try.func21, Try.ntmps21
        go_wp2
        go_ret
        exact ⟨ret_int (by rw [hs.out]; rfl), (by repeat (first | exact Ext.refl _ | assumption | refine Ext.alloc' ?_ _ | refine Ext.drewN' ?_ _ | refine Ext.drew' ?_ | (refine Ext.trans ?_ (by assumption))))⟩
    · have r1 : 64 < c.len := by omega
      have hs := Lib.hid (show (clockB c) = false from decide_eq_false (by omega))
      go_enter Try.func21, Try.ntmps21
      go_wp2
      go_ret
      exact ⟨ret_int (by rw [hs.out]; rfl), (by repeat (first | exact Ext.refl _ | assumption | refine Ext.alloc' ?_ _ | refine Ext.drewN' ?_ _ | refine Ext.drew' ?_ | (refine Ext.trans ?_ (by assumption))))⟩
  · have r0 : c.len < 1 := by omega
    have hs := Lib.hid (show (clockB c) = false from decide_eq_false (by omega))
    go_enter Try.func21, Try.ntmps21
    go_wp2
    go_ret
    exact ⟨ret_int (by rw [hs.out]; rfl), (by repeat (first | exact Ext.refl _ | assumption | refine Ext.alloc' ?_ _ | refine Ext.drewN' ?_ _ | refine Ext.drew' ?_ | (refine Ext.trans ?_ (by assumption))))⟩

set_option maxRecDepth 100000 in
set_option maxHeartbeats 400000 in
theorem ref19_May (c : PClock) (w : World) :
    Calls Try.prog 23 #[.agg #[.int .i64 c.len, .int .i64 c.tick, .int .i64 c.since, .int .i64 c.epoch, .int .i64 c.from_]] w fun e w' => e = .returned (.bool (clockB c)) ∧ Ext w w' := by
  by_cases q0 : 1 ≤ c.len
  · have r0 : ¬ (c.len < 1) := by omega
    by_cases q1 : c.len ≤ 64
    · have r1 : ¬ (64 < c.len) := by omega
      by_cases q2 : 0 ≤ c.tick
      · have r2 : ¬ (c.tick < 0) := by omega
        by_cases q3 : c.tick ≤ 2147483647
        · have r3 : ¬ (2147483647 < c.tick) := by omega
          by_cases q4 : 0 ≤ c.since
          · have r4 : ¬ (c.since < 0) := by omega
            by_cases q5 : c.since ≤ c.tick
            · have r5 : ¬ (c.tick < c.since) := by omega
              by_cases q6 : 0 ≤ c.epoch
              · have r6 : ¬ (c.epoch < 0) := by omega
                by_cases q7 : c.epoch ≤ 65535
                · have r7 : ¬ (65535 < c.epoch) := by omega
                  by_cases q8 : 0 ≤ c.from_
                  · have r8 : ¬ (c.from_ < 0) := by omega
                    by_cases q9 : c.from_ ≤ 65536
                    · have r9 : ¬ (65536 < c.from_) := by omega
                      by_cases f22 : c.tick - c.since < c.len
                      · have r : c.tick - c.since < c.len := by omega
                        have hs := Lib.hid (show (clockB c) = true from decide_eq_true (by omega))
                        go_enter Try.func23, Try.ntmps23
                        go_wp2
                        go_ret
                        exact ⟨ret_bool (by rw [hs.out] <;> first | rfl | exact decide_eq_true (by omega) | exact decide_eq_false (by omega)), (by repeat (first | exact Ext.refl _ | assumption | refine Ext.alloc' ?_ _ | refine Ext.drewN' ?_ _ | refine Ext.drew' ?_ | (refine Ext.trans ?_ (by assumption))))⟩
                      · have r : ¬ (c.tick - c.since < c.len) := by omega
                        by_cases f24 : c.epoch = 65535
                        · have s : (c.epoch == 65535) = true := by rw [beq_iff_eq]; omega
                          have hs := Lib.hid (show (clockB c) = true from decide_eq_true (by omega))
                          go_enter Try.func23, Try.ntmps23
                          go_wp2
                          go_ret
                          exact ⟨ret_bool (by rw [hs.out] <;> first | rfl | exact decide_eq_true (by omega) | exact decide_eq_false (by omega)), (by repeat (first | exact Ext.refl _ | assumption | refine Ext.alloc' ?_ _ | refine Ext.drewN' ?_ _ | refine Ext.drew' ?_ | (refine Ext.trans ?_ (by assumption))))⟩
                        · have s : (c.epoch == 65535) = false := by rw [beq_eq_false_iff_ne]; omega
                          have hs := Lib.hid (show (clockB c) = false from decide_eq_false (by omega))
                          go_enter Try.func23, Try.ntmps23
                          go_wp2
                          go_ret
                          exact ⟨ret_bool (by rw [hs.out] <;> first | rfl | exact decide_eq_true (by omega) | exact decide_eq_false (by omega)), (by repeat (first | exact Ext.refl _ | assumption | refine Ext.alloc' ?_ _ | refine Ext.drewN' ?_ _ | refine Ext.drew' ?_ | (refine Ext.trans ?_ (by assumption))))⟩
                    · have r9 : 65536 < c.from_ := by omega
                      have hs := Lib.hid (show (clockB c) = false from decide_eq_false (by omega))
                      go_enter Try.func23, Try.ntmps23
                      go_wp2
                      go_ret
                      exact ⟨ret_bool (by rw [hs.out] <;> first | rfl | exact decide_eq_true (by omega) | exact decide_eq_false (by omega)), (by repeat (first | exact Ext.refl _ | assumption | refine Ext.alloc' ?_ _ | refine Ext.drewN' ?_ _ | refine Ext.drew' ?_ | (refine Ext.trans ?_ (by assumption))))⟩
                  · have r8 : c.from_ < 0 := by omega
                    have hs := Lib.hid (show (clockB c) = false from decide_eq_false (by omega))
                    go_enter Try.func23, Try.ntmps23
                    go_wp2
                    go_ret
                    exact ⟨ret_bool (by rw [hs.out] <;> first | rfl | exact decide_eq_true (by omega) | exact decide_eq_false (by omega)), (by repeat (first | exact Ext.refl _ | assumption | refine Ext.alloc' ?_ _ | refine Ext.drewN' ?_ _ | refine Ext.drew' ?_ | (refine Ext.trans ?_ (by assumption))))⟩
                · have r7 : 65535 < c.epoch := by omega
                  have hs := Lib.hid (show (clockB c) = false from decide_eq_false (by omega))
                  go_enter Try.func23, Try.ntmps23
                  go_wp2
                  go_ret
                  exact ⟨ret_bool (by rw [hs.out] <;> first | rfl | exact decide_eq_true (by omega) | exact decide_eq_false (by omega)), (by repeat (first | exact Ext.refl _ | assumption | refine Ext.alloc' ?_ _ | refine Ext.drewN' ?_ _ | refine Ext.drew' ?_ | (refine Ext.trans ?_ (by assumption))))⟩
              · have r6 : c.epoch < 0 := by omega
                have hs := Lib.hid (show (clockB c) = false from decide_eq_false (by omega))
                go_enter Try.func23, Try.ntmps23
                go_wp2
                go_ret
                exact ⟨ret_bool (by rw [hs.out] <;> first | rfl | exact decide_eq_true (by omega) | exact decide_eq_false (by omega)), (by repeat (first | exact Ext.refl _ | assumption | refine Ext.alloc' ?_ _ | refine Ext.drewN' ?_ _ | refine Ext.drew' ?_ | (refine Ext.trans ?_ (by assumption))))⟩
            · have r5 : c.tick < c.since := by omega
              have hs := Lib.hid (show (clockB c) = false from decide_eq_false (by omega))
              go_enter Try.func23, Try.ntmps23
              go_wp2
              go_ret
              exact ⟨ret_bool (by rw [hs.out] <;> first | rfl | exact decide_eq_true (by omega) | exact decide_eq_false (by omega)), (by repeat (first | exact Ext.refl _ | assumption | refine Ext.alloc' ?_ _ | refine Ext.drewN' ?_ _ | refine Ext.drew' ?_ | (refine Ext.trans ?_ (by assumption))))⟩
          · have r4 : c.since < 0 := by omega
            have hs := Lib.hid (show (clockB c) = false from decide_eq_false (by omega))
            go_enter Try.func23, Try.ntmps23
            go_wp2
            go_ret
            exact ⟨ret_bool (by rw [hs.out] <;> first | rfl | exact decide_eq_true (by omega) | exact decide_eq_false (by omega)), (by repeat (first | exact Ext.refl _ | assumption | refine Ext.alloc' ?_ _ | refine Ext.drewN' ?_ _ | refine Ext.drew' ?_ | (refine Ext.trans ?_ (by assumption))))⟩
        · have r3 : 2147483647 < c.tick := by omega
          have hs := Lib.hid (show (clockB c) = false from decide_eq_false (by omega))
          go_enter Try.func23, Try.ntmps23
          go_wp2
          go_ret
          exact ⟨ret_bool (by rw [hs.out] <;> first | rfl | exact decide_eq_true (by omega) | exact decide_eq_false (by omega)), (by repeat (first | exact Ext.refl _ | assumption | refine Ext.alloc' ?_ _ | refine Ext.drewN' ?_ _ | refine Ext.drew' ?_ | (refine Ext.trans ?_ (by assumption))))⟩
      · have r2 : c.tick < 0 := by omega
        have hs := Lib.hid (show (clockB c) = false from decide_eq_false (by omega))
        go_enter Try.func23, Try.ntmps23
        go_wp2
        go_ret
        exact ⟨ret_bool (by rw [hs.out] <;> first | rfl | exact decide_eq_true (by omega) | exact decide_eq_false (by omega)), (by repeat (first | exact Ext.refl _ | assumption | refine Ext.alloc' ?_ _ | refine Ext.drewN' ?_ _ | refine Ext.drew' ?_ | (refine Ext.trans ?_ (by assumption))))⟩
    · have r1 : 64 < c.len := by omega
      have hs := Lib.hid (show (clockB c) = false from decide_eq_false (by omega))
      go_enter Try.func23, Try.ntmps23
      go_wp2
      go_ret
      exact ⟨ret_bool (by rw [hs.out] <;> first | rfl | exact decide_eq_true (by omega) | exact decide_eq_false (by omega)), (by repeat (first | exact Ext.refl _ | assumption | refine Ext.alloc' ?_ _ | refine Ext.drewN' ?_ _ | refine Ext.drew' ?_ | (refine Ext.trans ?_ (by assumption))))⟩
  · have r0 : c.len < 1 := by omega
    have hs := Lib.hid (show (clockB c) = false from decide_eq_false (by omega))
    go_enter Try.func23, Try.ntmps23
    go_wp2
    go_ret
    exact ⟨ret_bool (by rw [hs.out] <;> first | rfl | exact decide_eq_true (by omega) | exact decide_eq_false (by omega)), (by repeat (first | exact Ext.refl _ | assumption | refine Ext.alloc' ?_ _ | refine Ext.drewN' ?_ _ | refine Ext.drew' ?_ | (refine Ext.trans ?_ (by assumption))))⟩

end Go.Proofs.Ytnlhpdlnbcdfjaa
