/- Nodes that begin: node.New, the reference's, and what they call. Printed by gen_new.py. -/
import Derived.Test.YtnlhpdlnbcdfjaaRows
import Derived.Test.YtnlhpdlnbcdfjaaTests
namespace Go.Proofs.Ytnlhpdlnbcdfjaa
open Go.RowKit Go.Hx

def cacheB (x n : Int) : Bool := decide (0 ≤ x ∧ x < 8 ∧ 1 ≤ n ∧ n ≤ 6)

set_option maxRecDepth 100000 in
set_option maxHeartbeats 400000 in
theorem cache_New_yes (x n : Int) (w : World) (h : cacheB x n = true) :
    Calls Try.prog 19 #[.int .i64 x, .int .i64 n] w fun e w' => e = .returned (.tuple #[.agg #[.int .i64 x, .int .i64 n, .slice none 0 0], .int .i64 0]) ∧ Ext w w' := by
  obtain ⟨h1, h2, h3, h4⟩ := of_decide_eq_true h
  clear h
  have r2 : ¬ (8 ≤ x) := by omega
  have r4 : ¬ (6 < n) := by omega
  go_enter Try.func19, Try.ntmps19
  go_wp2
  exact bodyPost_ret (v := .tuple #[.agg #[.int .i64 x, .int .i64 n, .slice none 0 0], .int .i64 0]) (by simp [results, Try.results19, go_sem]) rfl ⟨rfl, (by repeat (first | exact Ext.refl _ | assumption | refine Ext.alloc' ?_ _ | refine Ext.drewN' ?_ _ | refine Ext.drew' ?_ | (refine Ext.trans ?_ (by assumption))))⟩
set_option maxRecDepth 100000 in
set_option maxHeartbeats 400000 in
theorem cache_New_no (x n : Int) (w : World) (h : cacheB x n = false) :
    Calls Try.prog 19 #[.int .i64 x, .int .i64 n] w fun e w' => e = .returned (.tuple #[.agg #[.int .i64 0, .int .i64 0, .slice none 0 0], .int .i64 2]) ∧ Ext w w' := by
  have H := Lib.hid (of_decide_eq_false h)
  clear h
  go_enter Try.func19, Try.ntmps19
  go_wp2
  all_goals first
    | (exfalso; have := H.out; omega)
    | exact bodyPost_ret (v := .tuple #[.agg #[.int .i64 0, .int .i64 0, .slice none 0 0], .int .i64 2]) (by simp [results, Try.results19, go_sem]) rfl ⟨rfl, (by repeat (first | exact Ext.refl _ | assumption | refine Ext.alloc' ?_ _ | refine Ext.drewN' ?_ _ | refine Ext.drew' ?_ | (refine Ext.trans ?_ (by assumption))))⟩

theorem aggNode : AggTy Try.prog 42 33 := ⟨⟨_, Try.underlying42, rfl⟩, by kernel_rfl⟩
def newB (x v m : Int) (c : PClock) : Bool := cacheB x m && valueB v && clockB c

set_option maxRecDepth 100000 in
set_option maxHeartbeats 400000 in
theorem node_New_yes (x v m : Int) (c : PClock) (w : World) (h : newB x v m c = true) :
    Calls Try.prog 6 #[.int .i64 x, .int .i64 v, .int .i64 m, .agg #[.int .i64 c.len, .int .i64 c.tick, .int .i64 c.since, .int .i64 c.epoch, .int .i64 c.from_]] w fun e w' => e = .returned (.tuple #[.agg #[.int .i64 x, .int .i64 v, .bool true, .int .i64 c.len, .int .i64 c.tick, .int .i64 c.since, .int .i64 c.epoch, .int .i64 c.from_, .bool false, .slice none 0 0, .int .i64 0, .bool false, .slice none 0 0, .int .i64 0, .bool false, .slice none 0 0, .int .i64 0, .bool false, .slice none 0 0, .int .i64 0, .bool false, .int .i64 0, .int .i64 0, .slice none 0 0, .bool false, .int .i64 0, .int .i64 0, .slice none 0 0, .int .i64 x, .int .i64 m, .slice none 0 0, .slice none 0 0, .slice none 0 0], .int .i64 0]) ∧ Ext w w' := by
  simp only [newB, Bool.and_eq_true] at h
  obtain ⟨⟨h1, h2⟩, h3⟩ := h
  have p3 : Go.Hx.pick (clockB c) 0 8 = 0 := by rw [h3]; rfl
  go_enter Try.func6, Try.ntmps6
  go_wp2_with fail
  refine (cache_New_yes x m _ h1).mono ?_
  rintro e w1 ⟨rfl, hE1⟩
  have B1_0 : Blk w1 (w.heap.size) 23 [.int .i64 c.len, .int .i64 c.tick, .int .i64 c.since, .int .i64 c.epoch, .int .i64 c.from_] := Blk.ext (by repeat (first | assumption | exact Blk.new (by simp) | refine Blk.alloc ?_ _ | refine Blk.drewN ?_ _)) hE1
  have B1_1 : Blk w1 (w.heap.size + 1) 42 [.int .i64 0, .int .i64 0, .bool false, .int .i64 0, .int .i64 0, .int .i64 0, .int .i64 0, .int .i64 0, .bool false, .slice none 0 0, .int .i64 0, .bool false, .slice none 0 0, .int .i64 0, .bool false, .slice none 0 0, .int .i64 0, .bool false, .slice none 0 0, .int .i64 0, .bool false, .int .i64 0, .int .i64 0, .slice none 0 0, .bool false, .int .i64 0, .int .i64 0, .slice none 0 0, .int .i64 0, .int .i64 0, .slice none 0 0, .slice none 0 0, .slice none 0 0] := Blk.ext (by repeat (first | assumption | exact Blk.new (by simp) | refine Blk.alloc ?_ _ | refine Blk.drewN ?_ _)) hE1
  obtain ⟨c1_0, f1_0⟩ := B1_0.rules
  obtain ⟨c1_1, f1_1⟩ := B1_1.rules
  go_wp2_with fail
  refine (node_value v _).mono ?_
  rintro e w2 ⟨rfl, hE2⟩
  have B2_0 : Blk w2 (w.heap.size) 23 [.int .i64 c.len, .int .i64 c.tick, .int .i64 c.since, .int .i64 c.epoch, .int .i64 c.from_] := Blk.ext (by repeat (first | assumption | exact Blk.new (by simp) | refine Blk.alloc ?_ _ | refine Blk.drewN ?_ _)) hE2
  have B2_1 : Blk w2 (w.heap.size + 1) 42 [.int .i64 0, .int .i64 0, .bool false, .int .i64 0, .int .i64 0, .int .i64 0, .int .i64 0, .int .i64 0, .bool false, .slice none 0 0, .int .i64 0, .bool false, .slice none 0 0, .int .i64 0, .bool false, .slice none 0 0, .int .i64 0, .bool false, .slice none 0 0, .int .i64 0, .bool false, .int .i64 0, .int .i64 0, .slice none 0 0, .bool false, .int .i64 0, .int .i64 0, .slice none 0 0, .int .i64 0, .int .i64 0, .slice none 0 0, .slice none 0 0, .slice none 0 0] := Blk.ext (by repeat (first | assumption | exact Blk.new (by simp) | refine Blk.alloc ?_ _ | refine Blk.drewN ?_ _)) hE2
  have B2_2 : Blk w2 (w1.heap.size) 38 [.int .i64 x, .int .i64 m, .slice none 0 0] := Blk.ext (by repeat (first | assumption | exact Blk.new (by simp) | refine Blk.alloc ?_ _ | refine Blk.drewN ?_ _)) hE2
  clear c1_0 f1_0
  obtain ⟨c2_0, f2_0⟩ := B2_0.rules
  clear c1_1 f1_1
  obtain ⟨c2_1, f2_1⟩ := B2_1.rules
  obtain ⟨c2_2, f2_2⟩ := B2_2.rules
  go_wp2_with fail
  refine (epoch_Check0 c _).mono ?_
  rintro e w3 ⟨rfl, hE3⟩
  have B3_0 : Blk w3 (w.heap.size) 23 [.int .i64 c.len, .int .i64 c.tick, .int .i64 c.since, .int .i64 c.epoch, .int .i64 c.from_] := Blk.ext (by repeat (first | assumption | exact Blk.new (by simp) | refine Blk.alloc ?_ _ | refine Blk.drewN ?_ _)) hE3
  have B3_1 : Blk w3 (w.heap.size + 1) 42 [.int .i64 0, .int .i64 0, .bool false, .int .i64 0, .int .i64 0, .int .i64 0, .int .i64 0, .int .i64 0, .bool false, .slice none 0 0, .int .i64 0, .bool false, .slice none 0 0, .int .i64 0, .bool false, .slice none 0 0, .int .i64 0, .bool false, .slice none 0 0, .int .i64 0, .bool false, .int .i64 0, .int .i64 0, .slice none 0 0, .bool false, .int .i64 0, .int .i64 0, .slice none 0 0, .int .i64 0, .int .i64 0, .slice none 0 0, .slice none 0 0, .slice none 0 0] := Blk.ext (by repeat (first | assumption | exact Blk.new (by simp) | refine Blk.alloc ?_ _ | refine Blk.drewN ?_ _)) hE3
  have B3_2 : Blk w3 (w1.heap.size) 38 [.int .i64 x, .int .i64 m, .slice none 0 0] := Blk.ext (by repeat (first | assumption | exact Blk.new (by simp) | refine Blk.alloc ?_ _ | refine Blk.drewN ?_ _)) hE3
  clear c2_0 f2_0
  obtain ⟨c3_0, f3_0⟩ := B3_0.rules
  clear c2_1 f2_1
  obtain ⟨c3_1, f3_1⟩ := B3_1.rules
  clear c2_2 f2_2
  obtain ⟨c3_2, f3_2⟩ := B3_2.rules
  go_wp2_with ((with_reducible refine wpl_store 42 (.tmp 8) (.tmp 35) ?_ ?_ (w.heap.size + 1) 0 42 [.int .i64 0, .int .i64 0, .bool false, .int .i64 0, .int .i64 0, .int .i64 0, .int .i64 0, .int .i64 0, .bool false, .slice none 0 0, .int .i64 0, .bool false, .slice none 0 0, .int .i64 0, .bool false, .slice none 0 0, .int .i64 0, .bool false, .slice none 0 0, .int .i64 0, .bool false, .int .i64 0, .int .i64 0, .slice none 0 0, .bool false, .int .i64 0, .int .i64 0, .slice none 0 0, .int .i64 0, .int .i64 0, .slice none 0 0, .slice none 0 0, .slice none 0 0] [.int .i64 x, .int .i64 v, .bool true, .int .i64 c.len, .int .i64 c.tick, .int .i64 c.since, .int .i64 c.epoch, .int .i64 c.from_, .bool false, .slice none 0 0, .int .i64 0, .bool false, .slice none 0 0, .int .i64 0, .bool false, .slice none 0 0, .int .i64 0, .bool false, .slice none 0 0, .int .i64 0, .bool false, .int .i64 0, .int .i64 0, .slice none 0 0, .bool false, .int .i64 0, .int .i64 0, .slice none 0 0, .int .i64 x, .int .i64 m, .slice none 0 0, .slice none 0 0, .slice none 0 0] ?_ ?_ ?_ ?_ ?_ ?_ ?_); (exact rfl); (exact rfl); (exact rfl); (exact rfl); (exact aggNode); (exact B3_1); (exact by simp); (exact rfl); (intro w4 BR hO))
  exact bodyPost_ret (results_ct rfl rfl BR aggNode) rfl ⟨rfl, Only.ext (by repeat (first | exact Ext.refl _ | assumption | refine Ext.alloc' ?_ _ | refine Ext.drewN' ?_ _ | refine Ext.drew' ?_ | (refine Ext.trans ?_ (by assumption)))) hO (by simp)⟩

set_option maxRecDepth 100000 in
set_option maxHeartbeats 400000 in
theorem node_New_no (x v m : Int) (c : PClock) (w : World) (h : newB x v m c = false) :
    Calls Try.prog 6 #[.int .i64 x, .int .i64 v, .int .i64 m, .agg #[.int .i64 c.len, .int .i64 c.tick, .int .i64 c.since, .int .i64 c.epoch, .int .i64 c.from_]] w fun e w' => e = .returned (.tuple #[.agg #[.int .i64 0, .int .i64 0, .bool false, .int .i64 0, .int .i64 0, .int .i64 0, .int .i64 0, .int .i64 0, .bool false, .slice none 0 0, .int .i64 0, .bool false, .slice none 0 0, .int .i64 0, .bool false, .slice none 0 0, .int .i64 0, .bool false, .slice none 0 0, .int .i64 0, .bool false, .int .i64 0, .int .i64 0, .slice none 0 0, .bool false, .int .i64 0, .int .i64 0, .slice none 0 0, .int .i64 0, .int .i64 0, .slice none 0 0, .slice none 0 0, .slice none 0 0], .int .i64 2]) ∧ Ext w w' := by
  cases h1 : cacheB x m with
  | false =>
    clear h
    go_enter Try.func6, Try.ntmps6
    go_wp2_with fail
    refine (cache_New_no x m _ h1).mono ?_
    rintro e w1 ⟨rfl, hE1⟩
    have B1_0 : Blk w1 (w.heap.size) 23 [.int .i64 c.len, .int .i64 c.tick, .int .i64 c.since, .int .i64 c.epoch, .int .i64 c.from_] := Blk.ext (by repeat (first | assumption | exact Blk.new (by simp) | refine Blk.alloc ?_ _ | refine Blk.drewN ?_ _)) hE1
    have B1_1 : Blk w1 (w.heap.size + 1) 42 [.int .i64 0, .int .i64 0, .bool false, .int .i64 0, .int .i64 0, .int .i64 0, .int .i64 0, .int .i64 0, .bool false, .slice none 0 0, .int .i64 0, .bool false, .slice none 0 0, .int .i64 0, .bool false, .slice none 0 0, .int .i64 0, .bool false, .slice none 0 0, .int .i64 0, .bool false, .int .i64 0, .int .i64 0, .slice none 0 0, .bool false, .int .i64 0, .int .i64 0, .slice none 0 0, .int .i64 0, .int .i64 0, .slice none 0 0, .slice none 0 0, .slice none 0 0] := Blk.ext (by repeat (first | assumption | exact Blk.new (by simp) | refine Blk.alloc ?_ _ | refine Blk.drewN ?_ _)) hE1
    obtain ⟨c1_0, f1_0⟩ := B1_0.rules
    obtain ⟨c1_1, f1_1⟩ := B1_1.rules
    go_wp2_with ((with_reducible refine wpl_store 42 (.tmp 8) (.tmp 30) ?_ ?_ (w.heap.size + 1) 0 42 [.int .i64 0, .int .i64 0, .bool false, .int .i64 0, .int .i64 0, .int .i64 0, .int .i64 0, .int .i64 0, .bool false, .slice none 0 0, .int .i64 0, .bool false, .slice none 0 0, .int .i64 0, .bool false, .slice none 0 0, .int .i64 0, .bool false, .slice none 0 0, .int .i64 0, .bool false, .int .i64 0, .int .i64 0, .slice none 0 0, .bool false, .int .i64 0, .int .i64 0, .slice none 0 0, .int .i64 0, .int .i64 0, .slice none 0 0, .slice none 0 0, .slice none 0 0] [.int .i64 0, .int .i64 0, .bool false, .int .i64 0, .int .i64 0, .int .i64 0, .int .i64 0, .int .i64 0, .bool false, .slice none 0 0, .int .i64 0, .bool false, .slice none 0 0, .int .i64 0, .bool false, .slice none 0 0, .int .i64 0, .bool false, .slice none 0 0, .int .i64 0, .bool false, .int .i64 0, .int .i64 0, .slice none 0 0, .bool false, .int .i64 0, .int .i64 0, .slice none 0 0, .int .i64 0, .int .i64 0, .slice none 0 0, .slice none 0 0, .slice none 0 0] ?_ ?_ ?_ ?_ ?_ ?_ ?_); (exact rfl); (exact rfl); (exact rfl); (exact rfl); (exact aggNode); (exact (by repeat (first | assumption | exact Blk.new (by simp) | refine Blk.alloc ?_ _ | refine Blk.drewN ?_ _))); (exact by simp); (exact rfl); (intro w9 BR hO))
    exact bodyPost_ret (results_ct rfl rfl BR aggNode) rfl ⟨rfl, Only.ext (by repeat (first | exact Ext.refl _ | assumption | refine Ext.alloc' ?_ _ | refine Ext.drewN' ?_ _ | refine Ext.drew' ?_ | (refine Ext.trans ?_ (by assumption)))) hO (by simp)⟩
  | true =>
    cases h2 : valueB v with
    | false =>
      clear h
      go_enter Try.func6, Try.ntmps6
      go_wp2_with fail
      refine (cache_New_yes x m _ h1).mono ?_
      rintro e w1 ⟨rfl, hE1⟩
      have B1_0 : Blk w1 (w.heap.size) 23 [.int .i64 c.len, .int .i64 c.tick, .int .i64 c.since, .int .i64 c.epoch, .int .i64 c.from_] := Blk.ext (by repeat (first | assumption | exact Blk.new (by simp) | refine Blk.alloc ?_ _ | refine Blk.drewN ?_ _)) hE1
      have B1_1 : Blk w1 (w.heap.size + 1) 42 [.int .i64 0, .int .i64 0, .bool false, .int .i64 0, .int .i64 0, .int .i64 0, .int .i64 0, .int .i64 0, .bool false, .slice none 0 0, .int .i64 0, .bool false, .slice none 0 0, .int .i64 0, .bool false, .slice none 0 0, .int .i64 0, .bool false, .slice none 0 0, .int .i64 0, .bool false, .int .i64 0, .int .i64 0, .slice none 0 0, .bool false, .int .i64 0, .int .i64 0, .slice none 0 0, .int .i64 0, .int .i64 0, .slice none 0 0, .slice none 0 0, .slice none 0 0] := Blk.ext (by repeat (first | assumption | exact Blk.new (by simp) | refine Blk.alloc ?_ _ | refine Blk.drewN ?_ _)) hE1
      obtain ⟨c1_0, f1_0⟩ := B1_0.rules
      obtain ⟨c1_1, f1_1⟩ := B1_1.rules
      go_wp2_with fail
      refine (node_value v _).mono ?_
      rintro e w2 ⟨rfl, hE2⟩
      have B2_0 : Blk w2 (w.heap.size) 23 [.int .i64 c.len, .int .i64 c.tick, .int .i64 c.since, .int .i64 c.epoch, .int .i64 c.from_] := Blk.ext (by repeat (first | assumption | exact Blk.new (by simp) | refine Blk.alloc ?_ _ | refine Blk.drewN ?_ _)) hE2
      have B2_1 : Blk w2 (w.heap.size + 1) 42 [.int .i64 0, .int .i64 0, .bool false, .int .i64 0, .int .i64 0, .int .i64 0, .int .i64 0, .int .i64 0, .bool false, .slice none 0 0, .int .i64 0, .bool false, .slice none 0 0, .int .i64 0, .bool false, .slice none 0 0, .int .i64 0, .bool false, .slice none 0 0, .int .i64 0, .bool false, .int .i64 0, .int .i64 0, .slice none 0 0, .bool false, .int .i64 0, .int .i64 0, .slice none 0 0, .int .i64 0, .int .i64 0, .slice none 0 0, .slice none 0 0, .slice none 0 0] := Blk.ext (by repeat (first | assumption | exact Blk.new (by simp) | refine Blk.alloc ?_ _ | refine Blk.drewN ?_ _)) hE2
      have B2_2 : Blk w2 (w1.heap.size) 38 [.int .i64 x, .int .i64 m, .slice none 0 0] := Blk.ext (by repeat (first | assumption | exact Blk.new (by simp) | refine Blk.alloc ?_ _ | refine Blk.drewN ?_ _)) hE2
      clear c1_0 f1_0
      obtain ⟨c2_0, f2_0⟩ := B2_0.rules
      clear c1_1 f1_1
      obtain ⟨c2_1, f2_1⟩ := B2_1.rules
      obtain ⟨c2_2, f2_2⟩ := B2_2.rules
      go_wp2_with ((with_reducible refine wpl_store 42 (.tmp 8) (.tmp 30) ?_ ?_ (w.heap.size + 1) 0 42 [.int .i64 0, .int .i64 0, .bool false, .int .i64 0, .int .i64 0, .int .i64 0, .int .i64 0, .int .i64 0, .bool false, .slice none 0 0, .int .i64 0, .bool false, .slice none 0 0, .int .i64 0, .bool false, .slice none 0 0, .int .i64 0, .bool false, .slice none 0 0, .int .i64 0, .bool false, .int .i64 0, .int .i64 0, .slice none 0 0, .bool false, .int .i64 0, .int .i64 0, .slice none 0 0, .int .i64 0, .int .i64 0, .slice none 0 0, .slice none 0 0, .slice none 0 0] [.int .i64 0, .int .i64 0, .bool false, .int .i64 0, .int .i64 0, .int .i64 0, .int .i64 0, .int .i64 0, .bool false, .slice none 0 0, .int .i64 0, .bool false, .slice none 0 0, .int .i64 0, .bool false, .slice none 0 0, .int .i64 0, .bool false, .slice none 0 0, .int .i64 0, .bool false, .int .i64 0, .int .i64 0, .slice none 0 0, .bool false, .int .i64 0, .int .i64 0, .slice none 0 0, .int .i64 0, .int .i64 0, .slice none 0 0, .slice none 0 0, .slice none 0 0] ?_ ?_ ?_ ?_ ?_ ?_ ?_); (exact rfl); (exact rfl); (exact rfl); (exact rfl); (exact aggNode); (exact (by repeat (first | assumption | exact Blk.new (by simp) | refine Blk.alloc ?_ _ | refine Blk.drewN ?_ _))); (exact by simp); (exact rfl); (intro w9 BR hO))
      exact bodyPost_ret (results_ct rfl rfl BR aggNode) rfl ⟨rfl, Only.ext (by repeat (first | exact Ext.refl _ | assumption | refine Ext.alloc' ?_ _ | refine Ext.drewN' ?_ _ | refine Ext.drew' ?_ | (refine Ext.trans ?_ (by assumption)))) hO (by simp)⟩
    | true =>
      have h3 : clockB c = false := by simpa [newB, h1, h2] using h
      have p3 : Go.Hx.pick (clockB c) 0 8 = 8 := by rw [h3]; rfl
      clear h
      go_enter Try.func6, Try.ntmps6
      go_wp2_with fail
      refine (cache_New_yes x m _ h1).mono ?_
      rintro e w1 ⟨rfl, hE1⟩
      have B1_0 : Blk w1 (w.heap.size) 23 [.int .i64 c.len, .int .i64 c.tick, .int .i64 c.since, .int .i64 c.epoch, .int .i64 c.from_] := Blk.ext (by repeat (first | assumption | exact Blk.new (by simp) | refine Blk.alloc ?_ _ | refine Blk.drewN ?_ _)) hE1
      have B1_1 : Blk w1 (w.heap.size + 1) 42 [.int .i64 0, .int .i64 0, .bool false, .int .i64 0, .int .i64 0, .int .i64 0, .int .i64 0, .int .i64 0, .bool false, .slice none 0 0, .int .i64 0, .bool false, .slice none 0 0, .int .i64 0, .bool false, .slice none 0 0, .int .i64 0, .bool false, .slice none 0 0, .int .i64 0, .bool false, .int .i64 0, .int .i64 0, .slice none 0 0, .bool false, .int .i64 0, .int .i64 0, .slice none 0 0, .int .i64 0, .int .i64 0, .slice none 0 0, .slice none 0 0, .slice none 0 0] := Blk.ext (by repeat (first | assumption | exact Blk.new (by simp) | refine Blk.alloc ?_ _ | refine Blk.drewN ?_ _)) hE1
      obtain ⟨c1_0, f1_0⟩ := B1_0.rules
      obtain ⟨c1_1, f1_1⟩ := B1_1.rules
      go_wp2_with fail
      refine (node_value v _).mono ?_
      rintro e w2 ⟨rfl, hE2⟩
      have B2_0 : Blk w2 (w.heap.size) 23 [.int .i64 c.len, .int .i64 c.tick, .int .i64 c.since, .int .i64 c.epoch, .int .i64 c.from_] := Blk.ext (by repeat (first | assumption | exact Blk.new (by simp) | refine Blk.alloc ?_ _ | refine Blk.drewN ?_ _)) hE2
      have B2_1 : Blk w2 (w.heap.size + 1) 42 [.int .i64 0, .int .i64 0, .bool false, .int .i64 0, .int .i64 0, .int .i64 0, .int .i64 0, .int .i64 0, .bool false, .slice none 0 0, .int .i64 0, .bool false, .slice none 0 0, .int .i64 0, .bool false, .slice none 0 0, .int .i64 0, .bool false, .slice none 0 0, .int .i64 0, .bool false, .int .i64 0, .int .i64 0, .slice none 0 0, .bool false, .int .i64 0, .int .i64 0, .slice none 0 0, .int .i64 0, .int .i64 0, .slice none 0 0, .slice none 0 0, .slice none 0 0] := Blk.ext (by repeat (first | assumption | exact Blk.new (by simp) | refine Blk.alloc ?_ _ | refine Blk.drewN ?_ _)) hE2
      have B2_2 : Blk w2 (w1.heap.size) 38 [.int .i64 x, .int .i64 m, .slice none 0 0] := Blk.ext (by repeat (first | assumption | exact Blk.new (by simp) | refine Blk.alloc ?_ _ | refine Blk.drewN ?_ _)) hE2
      clear c1_0 f1_0
      obtain ⟨c2_0, f2_0⟩ := B2_0.rules
      clear c1_1 f1_1
      obtain ⟨c2_1, f2_1⟩ := B2_1.rules
      obtain ⟨c2_2, f2_2⟩ := B2_2.rules
      go_wp2_with fail
      refine (epoch_Check0 c _).mono ?_
      rintro e w3 ⟨rfl, hE3⟩
      have B3_0 : Blk w3 (w.heap.size) 23 [.int .i64 c.len, .int .i64 c.tick, .int .i64 c.since, .int .i64 c.epoch, .int .i64 c.from_] := Blk.ext (by repeat (first | assumption | exact Blk.new (by simp) | refine Blk.alloc ?_ _ | refine Blk.drewN ?_ _)) hE3
      have B3_1 : Blk w3 (w.heap.size + 1) 42 [.int .i64 0, .int .i64 0, .bool false, .int .i64 0, .int .i64 0, .int .i64 0, .int .i64 0, .int .i64 0, .bool false, .slice none 0 0, .int .i64 0, .bool false, .slice none 0 0, .int .i64 0, .bool false, .slice none 0 0, .int .i64 0, .bool false, .slice none 0 0, .int .i64 0, .bool false, .int .i64 0, .int .i64 0, .slice none 0 0, .bool false, .int .i64 0, .int .i64 0, .slice none 0 0, .int .i64 0, .int .i64 0, .slice none 0 0, .slice none 0 0, .slice none 0 0] := Blk.ext (by repeat (first | assumption | exact Blk.new (by simp) | refine Blk.alloc ?_ _ | refine Blk.drewN ?_ _)) hE3
      have B3_2 : Blk w3 (w1.heap.size) 38 [.int .i64 x, .int .i64 m, .slice none 0 0] := Blk.ext (by repeat (first | assumption | exact Blk.new (by simp) | refine Blk.alloc ?_ _ | refine Blk.drewN ?_ _)) hE3
      clear c2_0 f2_0
      obtain ⟨c3_0, f3_0⟩ := B3_0.rules
      clear c2_1 f2_1
      obtain ⟨c3_1, f3_1⟩ := B3_1.rules
      clear c2_2 f2_2
      obtain ⟨c3_2, f3_2⟩ := B3_2.rules
      go_wp2_with ((with_reducible refine wpl_store 42 (.tmp 8) (.tmp 30) ?_ ?_ (w.heap.size + 1) 0 42 [.int .i64 0, .int .i64 0, .bool false, .int .i64 0, .int .i64 0, .int .i64 0, .int .i64 0, .int .i64 0, .bool false, .slice none 0 0, .int .i64 0, .bool false, .slice none 0 0, .int .i64 0, .bool false, .slice none 0 0, .int .i64 0, .bool false, .slice none 0 0, .int .i64 0, .bool false, .int .i64 0, .int .i64 0, .slice none 0 0, .bool false, .int .i64 0, .int .i64 0, .slice none 0 0, .int .i64 0, .int .i64 0, .slice none 0 0, .slice none 0 0, .slice none 0 0] [.int .i64 0, .int .i64 0, .bool false, .int .i64 0, .int .i64 0, .int .i64 0, .int .i64 0, .int .i64 0, .bool false, .slice none 0 0, .int .i64 0, .bool false, .slice none 0 0, .int .i64 0, .bool false, .slice none 0 0, .int .i64 0, .bool false, .slice none 0 0, .int .i64 0, .bool false, .int .i64 0, .int .i64 0, .slice none 0 0, .bool false, .int .i64 0, .int .i64 0, .slice none 0 0, .int .i64 0, .int .i64 0, .slice none 0 0, .slice none 0 0, .slice none 0 0] ?_ ?_ ?_ ?_ ?_ ?_ ?_); (exact rfl); (exact rfl); (exact rfl); (exact rfl); (exact aggNode); (exact (by repeat (first | assumption | exact Blk.new (by simp) | refine Blk.alloc ?_ _ | refine Blk.drewN ?_ _))); (exact by simp); (exact rfl); (intro w9 BR hO))
      exact bodyPost_ret (results_ct rfl rfl BR aggNode) rfl ⟨rfl, Only.ext (by repeat (first | exact Ext.refl _ | assumption | refine Ext.alloc' ?_ _ | refine Ext.drewN' ?_ _ | refine Ext.drew' ?_ | (refine Ext.trans ?_ (by assumption)))) hO (by simp)⟩

set_option maxRecDepth 100000 in
set_option maxHeartbeats 400000 in
theorem ref22_New_yes (x v m : Int) (c : PClock) (w : World) (h : newB x v m c = true) :
    Calls Try.prog 7 #[.int .i64 x, .int .i64 v, .int .i64 m, .agg #[.int .i64 c.len, .int .i64 c.tick, .int .i64 c.since, .int .i64 c.epoch, .int .i64 c.from_]] w fun e w' => e = .returned (.tuple #[.agg #[.int .i64 x, .int .i64 v, .bool true, .int .i64 c.len, .int .i64 c.tick, .int .i64 c.since, .int .i64 c.epoch, .int .i64 c.from_, .bool false, .slice none 0 0, .int .i64 0, .bool false, .slice none 0 0, .int .i64 0, .bool false, .slice none 0 0, .int .i64 0, .bool false, .slice none 0 0, .int .i64 0, .bool false, .int .i64 0, .int .i64 0, .slice none 0 0, .bool false, .int .i64 0, .int .i64 0, .slice none 0 0, .int .i64 x, .int .i64 m, .slice none 0 0, .slice none 0 0, .slice none 0 0], .int .i64 0]) ∧ Ext w w' := by
  simp only [newB, Bool.and_eq_true] at h
  obtain ⟨⟨h1, h2⟩, h3⟩ := h
  obtain ⟨q1, q2, q3, q4⟩ := of_decide_eq_true h1
  clear h1
  have r2 : ¬ (8 ≤ x) := by omega
  have r4 : ¬ (6 < m) := by omega
  go_enter Try.func7, Try.ntmps7
  go_wp2_with fail
  refine (ref17_Value v _).mono ?_
  rintro e w1 ⟨rfl, hE1⟩
  have B1_0 : Blk w1 (w.heap.size) 23 [.int .i64 c.len, .int .i64 c.tick, .int .i64 c.since, .int .i64 c.epoch, .int .i64 c.from_] := Blk.ext (by repeat (first | assumption | exact Blk.new (by simp) | refine Blk.alloc ?_ _ | refine Blk.drewN ?_ _)) hE1
  have B1_1 : Blk w1 (w.heap.size + 1) 42 [.int .i64 0, .int .i64 0, .bool false, .int .i64 0, .int .i64 0, .int .i64 0, .int .i64 0, .int .i64 0, .bool false, .slice none 0 0, .int .i64 0, .bool false, .slice none 0 0, .int .i64 0, .bool false, .slice none 0 0, .int .i64 0, .bool false, .slice none 0 0, .int .i64 0, .bool false, .int .i64 0, .int .i64 0, .slice none 0 0, .bool false, .int .i64 0, .int .i64 0, .slice none 0 0, .int .i64 0, .int .i64 0, .slice none 0 0, .slice none 0 0, .slice none 0 0] := Blk.ext (by repeat (first | assumption | exact Blk.new (by simp) | refine Blk.alloc ?_ _ | refine Blk.drewN ?_ _)) hE1
  obtain ⟨c1_0, f1_0⟩ := B1_0.rules
  obtain ⟨c1_1, f1_1⟩ := B1_1.rules
  go_wp2_with fail
  refine (ref19_May c _).mono ?_
  rintro e w2 ⟨rfl, hE2⟩
  have B2_0 : Blk w2 (w.heap.size) 23 [.int .i64 c.len, .int .i64 c.tick, .int .i64 c.since, .int .i64 c.epoch, .int .i64 c.from_] := Blk.ext (by repeat (first | assumption | exact Blk.new (by simp) | refine Blk.alloc ?_ _ | refine Blk.drewN ?_ _)) hE2
  have B2_1 : Blk w2 (w.heap.size + 1) 42 [.int .i64 0, .int .i64 0, .bool false, .int .i64 0, .int .i64 0, .int .i64 0, .int .i64 0, .int .i64 0, .bool false, .slice none 0 0, .int .i64 0, .bool false, .slice none 0 0, .int .i64 0, .bool false, .slice none 0 0, .int .i64 0, .bool false, .slice none 0 0, .int .i64 0, .bool false, .int .i64 0, .int .i64 0, .slice none 0 0, .bool false, .int .i64 0, .int .i64 0, .slice none 0 0, .int .i64 0, .int .i64 0, .slice none 0 0, .slice none 0 0, .slice none 0 0] := Blk.ext (by repeat (first | assumption | exact Blk.new (by simp) | refine Blk.alloc ?_ _ | refine Blk.drewN ?_ _)) hE2
  clear c1_0 f1_0
  obtain ⟨c2_0, f2_0⟩ := B2_0.rules
  clear c1_1 f1_1
  obtain ⟨c2_1, f2_1⟩ := B2_1.rules
  go_wp2_with ((with_reducible refine wpl_store 42 (.tmp 8) (.tmp 41) ?_ ?_ (w.heap.size + 1) 0 42 [.int .i64 0, .int .i64 0, .bool false, .int .i64 0, .int .i64 0, .int .i64 0, .int .i64 0, .int .i64 0, .bool false, .slice none 0 0, .int .i64 0, .bool false, .slice none 0 0, .int .i64 0, .bool false, .slice none 0 0, .int .i64 0, .bool false, .slice none 0 0, .int .i64 0, .bool false, .int .i64 0, .int .i64 0, .slice none 0 0, .bool false, .int .i64 0, .int .i64 0, .slice none 0 0, .int .i64 0, .int .i64 0, .slice none 0 0, .slice none 0 0, .slice none 0 0] [.int .i64 x, .int .i64 v, .bool true, .int .i64 c.len, .int .i64 c.tick, .int .i64 c.since, .int .i64 c.epoch, .int .i64 c.from_, .bool false, .slice none 0 0, .int .i64 0, .bool false, .slice none 0 0, .int .i64 0, .bool false, .slice none 0 0, .int .i64 0, .bool false, .slice none 0 0, .int .i64 0, .bool false, .int .i64 0, .int .i64 0, .slice none 0 0, .bool false, .int .i64 0, .int .i64 0, .slice none 0 0, .int .i64 x, .int .i64 m, .slice none 0 0, .slice none 0 0, .slice none 0 0] ?_ ?_ ?_ ?_ ?_ ?_ ?_); (exact rfl); (exact rfl); (exact rfl); (exact rfl); (exact aggNode); (exact (by repeat (first | assumption | exact Blk.new (by simp) | refine Blk.alloc ?_ _ | refine Blk.drewN ?_ _))); (exact by simp); (exact rfl); (intro w9 BR hO))
  exact bodyPost_ret (results_ct rfl rfl BR aggNode) rfl ⟨rfl, Only.ext (by repeat (first | exact Ext.refl _ | assumption | refine Ext.alloc' ?_ _ | refine Ext.drewN' ?_ _ | refine Ext.drew' ?_ | (refine Ext.trans ?_ (by assumption)))) hO (by simp)⟩

set_option maxRecDepth 100000 in
set_option maxHeartbeats 400000 in
theorem ref22_New_no (x v m : Int) (c : PClock) (w : World) (h : newB x v m c = false) :
    Calls Try.prog 7 #[.int .i64 x, .int .i64 v, .int .i64 m, .agg #[.int .i64 c.len, .int .i64 c.tick, .int .i64 c.since, .int .i64 c.epoch, .int .i64 c.from_]] w fun e w' => e = .returned (.tuple #[.agg #[.int .i64 0, .int .i64 0, .bool false, .int .i64 0, .int .i64 0, .int .i64 0, .int .i64 0, .int .i64 0, .bool false, .slice none 0 0, .int .i64 0, .bool false, .slice none 0 0, .int .i64 0, .bool false, .slice none 0 0, .int .i64 0, .bool false, .slice none 0 0, .int .i64 0, .bool false, .int .i64 0, .int .i64 0, .slice none 0 0, .bool false, .int .i64 0, .int .i64 0, .slice none 0 0, .int .i64 0, .int .i64 0, .slice none 0 0, .slice none 0 0, .slice none 0 0], .int .i64 2]) ∧ Ext w w' := by
  by_cases q1 : x < 0
  · clear h
    go_enter Try.func7, Try.ntmps7
    go_wp2_with ((with_reducible refine wpl_store 42 (.tmp 8) (.tmp 34) ?_ ?_ (w.heap.size + 1) 0 42 [.int .i64 0, .int .i64 0, .bool false, .int .i64 0, .int .i64 0, .int .i64 0, .int .i64 0, .int .i64 0, .bool false, .slice none 0 0, .int .i64 0, .bool false, .slice none 0 0, .int .i64 0, .bool false, .slice none 0 0, .int .i64 0, .bool false, .slice none 0 0, .int .i64 0, .bool false, .int .i64 0, .int .i64 0, .slice none 0 0, .bool false, .int .i64 0, .int .i64 0, .slice none 0 0, .int .i64 0, .int .i64 0, .slice none 0 0, .slice none 0 0, .slice none 0 0] [.int .i64 0, .int .i64 0, .bool false, .int .i64 0, .int .i64 0, .int .i64 0, .int .i64 0, .int .i64 0, .bool false, .slice none 0 0, .int .i64 0, .bool false, .slice none 0 0, .int .i64 0, .bool false, .slice none 0 0, .int .i64 0, .bool false, .slice none 0 0, .int .i64 0, .bool false, .int .i64 0, .int .i64 0, .slice none 0 0, .bool false, .int .i64 0, .int .i64 0, .slice none 0 0, .int .i64 0, .int .i64 0, .slice none 0 0, .slice none 0 0, .slice none 0 0] ?_ ?_ ?_ ?_ ?_ ?_ ?_); (exact rfl); (exact rfl); (exact rfl); (exact rfl); (exact aggNode); (exact (by repeat (first | assumption | exact Blk.new (by simp) | refine Blk.alloc ?_ _ | refine Blk.drewN ?_ _))); (exact by simp); (exact rfl); (intro w9 BR hO))
    exact bodyPost_ret (results_ct rfl rfl BR aggNode) rfl ⟨rfl, Only.ext (by repeat (first | exact Ext.refl _ | assumption | refine Ext.alloc' ?_ _ | refine Ext.drewN' ?_ _ | refine Ext.drew' ?_ | (refine Ext.trans ?_ (by assumption)))) hO (by simp)⟩
  by_cases q2 : 8 ≤ x
  · clear h
    go_enter Try.func7, Try.ntmps7
    go_wp2_with ((with_reducible refine wpl_store 42 (.tmp 8) (.tmp 34) ?_ ?_ (w.heap.size + 1) 0 42 [.int .i64 0, .int .i64 0, .bool false, .int .i64 0, .int .i64 0, .int .i64 0, .int .i64 0, .int .i64 0, .bool false, .slice none 0 0, .int .i64 0, .bool false, .slice none 0 0, .int .i64 0, .bool false, .slice none 0 0, .int .i64 0, .bool false, .slice none 0 0, .int .i64 0, .bool false, .int .i64 0, .int .i64 0, .slice none 0 0, .bool false, .int .i64 0, .int .i64 0, .slice none 0 0, .int .i64 0, .int .i64 0, .slice none 0 0, .slice none 0 0, .slice none 0 0] [.int .i64 0, .int .i64 0, .bool false, .int .i64 0, .int .i64 0, .int .i64 0, .int .i64 0, .int .i64 0, .bool false, .slice none 0 0, .int .i64 0, .bool false, .slice none 0 0, .int .i64 0, .bool false, .slice none 0 0, .int .i64 0, .bool false, .slice none 0 0, .int .i64 0, .bool false, .int .i64 0, .int .i64 0, .slice none 0 0, .bool false, .int .i64 0, .int .i64 0, .slice none 0 0, .int .i64 0, .int .i64 0, .slice none 0 0, .slice none 0 0, .slice none 0 0] ?_ ?_ ?_ ?_ ?_ ?_ ?_); (exact rfl); (exact rfl); (exact rfl); (exact rfl); (exact aggNode); (exact (by repeat (first | assumption | exact Blk.new (by simp) | refine Blk.alloc ?_ _ | refine Blk.drewN ?_ _))); (exact by simp); (exact rfl); (intro w9 BR hO))
    exact bodyPost_ret (results_ct rfl rfl BR aggNode) rfl ⟨rfl, Only.ext (by repeat (first | exact Ext.refl _ | assumption | refine Ext.alloc' ?_ _ | refine Ext.drewN' ?_ _ | refine Ext.drew' ?_ | (refine Ext.trans ?_ (by assumption)))) hO (by simp)⟩
  cases h2 : valueB v with
  | false =>
    clear h
    go_enter Try.func7, Try.ntmps7
    go_wp2_with fail
    refine (ref17_Value v _).mono ?_
    rintro e w1 ⟨rfl, hE1⟩
    have B1_0 : Blk w1 (w.heap.size) 23 [.int .i64 c.len, .int .i64 c.tick, .int .i64 c.since, .int .i64 c.epoch, .int .i64 c.from_] := Blk.ext (by repeat (first | assumption | exact Blk.new (by simp) | refine Blk.alloc ?_ _ | refine Blk.drewN ?_ _)) hE1
    have B1_1 : Blk w1 (w.heap.size + 1) 42 [.int .i64 0, .int .i64 0, .bool false, .int .i64 0, .int .i64 0, .int .i64 0, .int .i64 0, .int .i64 0, .bool false, .slice none 0 0, .int .i64 0, .bool false, .slice none 0 0, .int .i64 0, .bool false, .slice none 0 0, .int .i64 0, .bool false, .slice none 0 0, .int .i64 0, .bool false, .int .i64 0, .int .i64 0, .slice none 0 0, .bool false, .int .i64 0, .int .i64 0, .slice none 0 0, .int .i64 0, .int .i64 0, .slice none 0 0, .slice none 0 0, .slice none 0 0] := Blk.ext (by repeat (first | assumption | exact Blk.new (by simp) | refine Blk.alloc ?_ _ | refine Blk.drewN ?_ _)) hE1
    obtain ⟨c1_0, f1_0⟩ := B1_0.rules
    obtain ⟨c1_1, f1_1⟩ := B1_1.rules
    go_wp2_with ((with_reducible refine wpl_store 42 (.tmp 8) (.tmp 34) ?_ ?_ (w.heap.size + 1) 0 42 [.int .i64 0, .int .i64 0, .bool false, .int .i64 0, .int .i64 0, .int .i64 0, .int .i64 0, .int .i64 0, .bool false, .slice none 0 0, .int .i64 0, .bool false, .slice none 0 0, .int .i64 0, .bool false, .slice none 0 0, .int .i64 0, .bool false, .slice none 0 0, .int .i64 0, .bool false, .int .i64 0, .int .i64 0, .slice none 0 0, .bool false, .int .i64 0, .int .i64 0, .slice none 0 0, .int .i64 0, .int .i64 0, .slice none 0 0, .slice none 0 0, .slice none 0 0] [.int .i64 0, .int .i64 0, .bool false, .int .i64 0, .int .i64 0, .int .i64 0, .int .i64 0, .int .i64 0, .bool false, .slice none 0 0, .int .i64 0, .bool false, .slice none 0 0, .int .i64 0, .bool false, .slice none 0 0, .int .i64 0, .bool false, .slice none 0 0, .int .i64 0, .bool false, .int .i64 0, .int .i64 0, .slice none 0 0, .bool false, .int .i64 0, .int .i64 0, .slice none 0 0, .int .i64 0, .int .i64 0, .slice none 0 0, .slice none 0 0, .slice none 0 0] ?_ ?_ ?_ ?_ ?_ ?_ ?_); (exact rfl); (exact rfl); (exact rfl); (exact rfl); (exact aggNode); (exact (by repeat (first | assumption | exact Blk.new (by simp) | refine Blk.alloc ?_ _ | refine Blk.drewN ?_ _))); (exact by simp); (exact rfl); (intro w9 BR hO))
    exact bodyPost_ret (results_ct rfl rfl BR aggNode) rfl ⟨rfl, Only.ext (by repeat (first | exact Ext.refl _ | assumption | refine Ext.alloc' ?_ _ | refine Ext.drewN' ?_ _ | refine Ext.drew' ?_ | (refine Ext.trans ?_ (by assumption)))) hO (by simp)⟩
  | true =>
    by_cases q3 : m < 1
    · clear h
      go_enter Try.func7, Try.ntmps7
      go_wp2_with fail
      refine (ref17_Value v _).mono ?_
      rintro e w1 ⟨rfl, hE1⟩
      have B1_0 : Blk w1 (w.heap.size) 23 [.int .i64 c.len, .int .i64 c.tick, .int .i64 c.since, .int .i64 c.epoch, .int .i64 c.from_] := Blk.ext (by repeat (first | assumption | exact Blk.new (by simp) | refine Blk.alloc ?_ _ | refine Blk.drewN ?_ _)) hE1
      have B1_1 : Blk w1 (w.heap.size + 1) 42 [.int .i64 0, .int .i64 0, .bool false, .int .i64 0, .int .i64 0, .int .i64 0, .int .i64 0, .int .i64 0, .bool false, .slice none 0 0, .int .i64 0, .bool false, .slice none 0 0, .int .i64 0, .bool false, .slice none 0 0, .int .i64 0, .bool false, .slice none 0 0, .int .i64 0, .bool false, .int .i64 0, .int .i64 0, .slice none 0 0, .bool false, .int .i64 0, .int .i64 0, .slice none 0 0, .int .i64 0, .int .i64 0, .slice none 0 0, .slice none 0 0, .slice none 0 0] := Blk.ext (by repeat (first | assumption | exact Blk.new (by simp) | refine Blk.alloc ?_ _ | refine Blk.drewN ?_ _)) hE1
      obtain ⟨c1_0, f1_0⟩ := B1_0.rules
      obtain ⟨c1_1, f1_1⟩ := B1_1.rules
      go_wp2_with ((with_reducible refine wpl_store 42 (.tmp 8) (.tmp 34) ?_ ?_ (w.heap.size + 1) 0 42 [.int .i64 0, .int .i64 0, .bool false, .int .i64 0, .int .i64 0, .int .i64 0, .int .i64 0, .int .i64 0, .bool false, .slice none 0 0, .int .i64 0, .bool false, .slice none 0 0, .int .i64 0, .bool false, .slice none 0 0, .int .i64 0, .bool false, .slice none 0 0, .int .i64 0, .bool false, .int .i64 0, .int .i64 0, .slice none 0 0, .bool false, .int .i64 0, .int .i64 0, .slice none 0 0, .int .i64 0, .int .i64 0, .slice none 0 0, .slice none 0 0, .slice none 0 0] [.int .i64 0, .int .i64 0, .bool false, .int .i64 0, .int .i64 0, .int .i64 0, .int .i64 0, .int .i64 0, .bool false, .slice none 0 0, .int .i64 0, .bool false, .slice none 0 0, .int .i64 0, .bool false, .slice none 0 0, .int .i64 0, .bool false, .slice none 0 0, .int .i64 0, .bool false, .int .i64 0, .int .i64 0, .slice none 0 0, .bool false, .int .i64 0, .int .i64 0, .slice none 0 0, .int .i64 0, .int .i64 0, .slice none 0 0, .slice none 0 0, .slice none 0 0] ?_ ?_ ?_ ?_ ?_ ?_ ?_); (exact rfl); (exact rfl); (exact rfl); (exact rfl); (exact aggNode); (exact (by repeat (first | assumption | exact Blk.new (by simp) | refine Blk.alloc ?_ _ | refine Blk.drewN ?_ _))); (exact by simp); (exact rfl); (intro w9 BR hO))
      exact bodyPost_ret (results_ct rfl rfl BR aggNode) rfl ⟨rfl, Only.ext (by repeat (first | exact Ext.refl _ | assumption | refine Ext.alloc' ?_ _ | refine Ext.drewN' ?_ _ | refine Ext.drew' ?_ | (refine Ext.trans ?_ (by assumption)))) hO (by simp)⟩
    by_cases q4 : 6 < m
    · clear h
      go_enter Try.func7, Try.ntmps7
      go_wp2_with fail
      refine (ref17_Value v _).mono ?_
      rintro e w1 ⟨rfl, hE1⟩
      have B1_0 : Blk w1 (w.heap.size) 23 [.int .i64 c.len, .int .i64 c.tick, .int .i64 c.since, .int .i64 c.epoch, .int .i64 c.from_] := Blk.ext (by repeat (first | assumption | exact Blk.new (by simp) | refine Blk.alloc ?_ _ | refine Blk.drewN ?_ _)) hE1
      have B1_1 : Blk w1 (w.heap.size + 1) 42 [.int .i64 0, .int .i64 0, .bool false, .int .i64 0, .int .i64 0, .int .i64 0, .int .i64 0, .int .i64 0, .bool false, .slice none 0 0, .int .i64 0, .bool false, .slice none 0 0, .int .i64 0, .bool false, .slice none 0 0, .int .i64 0, .bool false, .slice none 0 0, .int .i64 0, .bool false, .int .i64 0, .int .i64 0, .slice none 0 0, .bool false, .int .i64 0, .int .i64 0, .slice none 0 0, .int .i64 0, .int .i64 0, .slice none 0 0, .slice none 0 0, .slice none 0 0] := Blk.ext (by repeat (first | assumption | exact Blk.new (by simp) | refine Blk.alloc ?_ _ | refine Blk.drewN ?_ _)) hE1
      obtain ⟨c1_0, f1_0⟩ := B1_0.rules
      obtain ⟨c1_1, f1_1⟩ := B1_1.rules
      go_wp2_with ((with_reducible refine wpl_store 42 (.tmp 8) (.tmp 34) ?_ ?_ (w.heap.size + 1) 0 42 [.int .i64 0, .int .i64 0, .bool false, .int .i64 0, .int .i64 0, .int .i64 0, .int .i64 0, .int .i64 0, .bool false, .slice none 0 0, .int .i64 0, .bool false, .slice none 0 0, .int .i64 0, .bool false, .slice none 0 0, .int .i64 0, .bool false, .slice none 0 0, .int .i64 0, .bool false, .int .i64 0, .int .i64 0, .slice none 0 0, .bool false, .int .i64 0, .int .i64 0, .slice none 0 0, .int .i64 0, .int .i64 0, .slice none 0 0, .slice none 0 0, .slice none 0 0] [.int .i64 0, .int .i64 0, .bool false, .int .i64 0, .int .i64 0, .int .i64 0, .int .i64 0, .int .i64 0, .bool false, .slice none 0 0, .int .i64 0, .bool false, .slice none 0 0, .int .i64 0, .bool false, .slice none 0 0, .int .i64 0, .bool false, .slice none 0 0, .int .i64 0, .bool false, .int .i64 0, .int .i64 0, .slice none 0 0, .bool false, .int .i64 0, .int .i64 0, .slice none 0 0, .int .i64 0, .int .i64 0, .slice none 0 0, .slice none 0 0, .slice none 0 0] ?_ ?_ ?_ ?_ ?_ ?_ ?_); (exact rfl); (exact rfl); (exact rfl); (exact rfl); (exact aggNode); (exact (by repeat (first | assumption | exact Blk.new (by simp) | refine Blk.alloc ?_ _ | refine Blk.drewN ?_ _))); (exact by simp); (exact rfl); (intro w9 BR hO))
      exact bodyPost_ret (results_ct rfl rfl BR aggNode) rfl ⟨rfl, Only.ext (by repeat (first | exact Ext.refl _ | assumption | refine Ext.alloc' ?_ _ | refine Ext.drewN' ?_ _ | refine Ext.drew' ?_ | (refine Ext.trans ?_ (by assumption)))) hO (by simp)⟩
    have h1 : cacheB x m = true := decide_eq_true (by omega)
    have h3 : clockB c = false := by simpa [newB, h1, h2] using h
    clear h h1
    go_enter Try.func7, Try.ntmps7
    go_wp2_with fail
    refine (ref17_Value v _).mono ?_
    rintro e w1 ⟨rfl, hE1⟩
    have B1_0 : Blk w1 (w.heap.size) 23 [.int .i64 c.len, .int .i64 c.tick, .int .i64 c.since, .int .i64 c.epoch, .int .i64 c.from_] := Blk.ext (by repeat (first | assumption | exact Blk.new (by simp) | refine Blk.alloc ?_ _ | refine Blk.drewN ?_ _)) hE1
    have B1_1 : Blk w1 (w.heap.size + 1) 42 [.int .i64 0, .int .i64 0, .bool false, .int .i64 0, .int .i64 0, .int .i64 0, .int .i64 0, .int .i64 0, .bool false, .slice none 0 0, .int .i64 0, .bool false, .slice none 0 0, .int .i64 0, .bool false, .slice none 0 0, .int .i64 0, .bool false, .slice none 0 0, .int .i64 0, .bool false, .int .i64 0, .int .i64 0, .slice none 0 0, .bool false, .int .i64 0, .int .i64 0, .slice none 0 0, .int .i64 0, .int .i64 0, .slice none 0 0, .slice none 0 0, .slice none 0 0] := Blk.ext (by repeat (first | assumption | exact Blk.new (by simp) | refine Blk.alloc ?_ _ | refine Blk.drewN ?_ _)) hE1
    obtain ⟨c1_0, f1_0⟩ := B1_0.rules
    obtain ⟨c1_1, f1_1⟩ := B1_1.rules
    go_wp2_with fail
    refine (ref19_May c _).mono ?_
    rintro e w2 ⟨rfl, hE2⟩
    have B2_0 : Blk w2 (w.heap.size) 23 [.int .i64 c.len, .int .i64 c.tick, .int .i64 c.since, .int .i64 c.epoch, .int .i64 c.from_] := Blk.ext (by repeat (first | assumption | exact Blk.new (by simp) | refine Blk.alloc ?_ _ | refine Blk.drewN ?_ _)) hE2
    have B2_1 : Blk w2 (w.heap.size + 1) 42 [.int .i64 0, .int .i64 0, .bool false, .int .i64 0, .int .i64 0, .int .i64 0, .int .i64 0, .int .i64 0, .bool false, .slice none 0 0, .int .i64 0, .bool false, .slice none 0 0, .int .i64 0, .bool false, .slice none 0 0, .int .i64 0, .bool false, .slice none 0 0, .int .i64 0, .bool false, .int .i64 0, .int .i64 0, .slice none 0 0, .bool false, .int .i64 0, .int .i64 0, .slice none 0 0, .int .i64 0, .int .i64 0, .slice none 0 0, .slice none 0 0, .slice none 0 0] := Blk.ext (by repeat (first | assumption | exact Blk.new (by simp) | refine Blk.alloc ?_ _ | refine Blk.drewN ?_ _)) hE2
    clear c1_0 f1_0
    obtain ⟨c2_0, f2_0⟩ := B2_0.rules
    clear c1_1 f1_1
    obtain ⟨c2_1, f2_1⟩ := B2_1.rules
    go_wp2_with ((with_reducible refine wpl_store 42 (.tmp 8) (.tmp 34) ?_ ?_ (w.heap.size + 1) 0 42 [.int .i64 0, .int .i64 0, .bool false, .int .i64 0, .int .i64 0, .int .i64 0, .int .i64 0, .int .i64 0, .bool false, .slice none 0 0, .int .i64 0, .bool false, .slice none 0 0, .int .i64 0, .bool false, .slice none 0 0, .int .i64 0, .bool false, .slice none 0 0, .int .i64 0, .bool false, .int .i64 0, .int .i64 0, .slice none 0 0, .bool false, .int .i64 0, .int .i64 0, .slice none 0 0, .int .i64 0, .int .i64 0, .slice none 0 0, .slice none 0 0, .slice none 0 0] [.int .i64 0, .int .i64 0, .bool false, .int .i64 0, .int .i64 0, .int .i64 0, .int .i64 0, .int .i64 0, .bool false, .slice none 0 0, .int .i64 0, .bool false, .slice none 0 0, .int .i64 0, .bool false, .slice none 0 0, .int .i64 0, .bool false, .slice none 0 0, .int .i64 0, .bool false, .int .i64 0, .int .i64 0, .slice none 0 0, .bool false, .int .i64 0, .int .i64 0, .slice none 0 0, .int .i64 0, .int .i64 0, .slice none 0 0, .slice none 0 0, .slice none 0 0] ?_ ?_ ?_ ?_ ?_ ?_ ?_); (exact rfl); (exact rfl); (exact rfl); (exact rfl); (exact aggNode); (exact (by repeat (first | assumption | exact Blk.new (by simp) | refine Blk.alloc ?_ _ | refine Blk.drewN ?_ _))); (exact by simp); (exact rfl); (intro w9 BR hO))
    exact bodyPost_ret (results_ct rfl rfl BR aggNode) rfl ⟨rfl, Only.ext (by repeat (first | exact Ext.refl _ | assumption | refine Ext.alloc' ?_ _ | refine Ext.drewN' ?_ _ | refine Ext.drew' ?_ | (refine Ext.trans ?_ (by assumption)))) hO (by simp)⟩

end Go.Proofs.Ytnlhpdlnbcdfjaa
