/- The reference's tales: may they be. Printed by gen_ref32.py. -/
import Derived.Test.YtgcbnagfdfgpnaaDoorPrintT
namespace Go.Proofs.YtgcbnagfdfgpnaaDoor
open Go.RowKit Go.Hx
theorem results_tmp4 {P : Program} {fn : Func} {a b c d : Tmp} (h : fn.results = #[.tmp a, .tmp b, .tmp c, .tmp d]) (tmps : Array Value) (w : World) {v : Value} (hv : v = .tuple #[tmps.getD a undef, tmps.getD b undef, tmps.getD c undef, tmps.getD d undef]) : (results fn tmps).run P w = .ok v w := by
  subst hv
  simp [results, h]
attribute [local go_sem] PStep.cells XTale.cells detUpon undIn
set_option maxRecDepth 100000 in
set_option maxHeartbeats 2000000 in
theorem ref_small (n : Int) (w : World) : Calls Tryd.prog 108 #[.int .i64 n] w fun e w' => e = .returned (.bool (smallB n)) ∧ w' = w := by
  by_cases h1 : -2147483647 ≤ n
  · by_cases h2 : n ≤ 2147483647
    · have HR : Hid (smallB n = true) := Lib.hid (decide_eq_true ⟨h1, h2⟩)
      go_enter Tryd.func108, Tryd.ntmps108
      go_wp2_with fail
      go_ret
      exact ⟨by rw [HR.out] <;> rfl, rfl⟩
    · have HR : Hid (smallB n = false) := Lib.hid (decide_eq_false (by omega))
      go_enter Tryd.func108, Tryd.ntmps108
      go_wp2_with fail
      go_ret
      exact ⟨by rw [HR.out] <;> rfl, rfl⟩
  · have HR : Hid (smallB n = false) := Lib.hid (decide_eq_false (by omega))
    go_enter Tryd.func108, Tryd.ntmps108
    go_wp2_with fail
    go_ret
    exact ⟨by rw [HR.out] <;> rfl, rfl⟩
def hId (op : Int) : Bool := decide ((1 ≤ op ∧ op ≤ 5) ∨ 10 ≤ op)
def hArg (op : Int) : Bool := decide ((6 ≤ op ∧ op ≤ 9) ∨ 11 ≤ op)
def hExt (op : Int) : Bool := decide (op = 9 ∨ 11 ≤ op)
def hDraw (op : Int) : Bool := decide ((2 ≤ op ∧ op ≤ 5) ∨ op = 9 ∨ op = 12)
set_option maxRecDepth 100000 in
set_option maxHeartbeats 2000000 in
theorem ref_has (op : Int) (h0 : 0 ≤ op) (w : World) : Calls Tryd.prog 141 #[.int .u8 op] w fun e w' => e = .returned (.tuple #[.bool (hId op), .bool (hArg op), .bool (hExt op), .bool (hDraw op)]) ∧ w' = w := by
  by_cases h1 : op = 0
  · subst h1
    go_enter Tryd.func141, Tryd.ntmps141
    go_wp2_with fail
    refine bodyPost_ret (results_tmp4 rfl _ _ rfl) rfl ?_
    exact ⟨rfl, rfl⟩
  by_cases h2 : op = 1
  · subst h2
    go_enter Tryd.func141, Tryd.ntmps141
    go_wp2_with fail
    refine bodyPost_ret (results_tmp4 rfl _ _ rfl) rfl ?_
    exact ⟨rfl, rfl⟩
  by_cases h3 : op = 2
  · subst h3
    go_enter Tryd.func141, Tryd.ntmps141
    go_wp2_with fail
    refine bodyPost_ret (results_tmp4 rfl _ _ rfl) rfl ?_
    exact ⟨rfl, rfl⟩
  by_cases h4 : op = 3
  · subst h4
    go_enter Tryd.func141, Tryd.ntmps141
    go_wp2_with fail
    refine bodyPost_ret (results_tmp4 rfl _ _ rfl) rfl ?_
    exact ⟨rfl, rfl⟩
  by_cases h5 : op = 4
  · subst h5
    go_enter Tryd.func141, Tryd.ntmps141
    go_wp2_with fail
    refine bodyPost_ret (results_tmp4 rfl _ _ rfl) rfl ?_
    exact ⟨rfl, rfl⟩
  by_cases h6 : op = 5
  · subst h6
    go_enter Tryd.func141, Tryd.ntmps141
    go_wp2_with fail
    refine bodyPost_ret (results_tmp4 rfl _ _ rfl) rfl ?_
    exact ⟨rfl, rfl⟩
  by_cases h7 : op = 6
  · subst h7
    go_enter Tryd.func141, Tryd.ntmps141
    go_wp2_with fail
    refine bodyPost_ret (results_tmp4 rfl _ _ rfl) rfl ?_
    exact ⟨rfl, rfl⟩
  by_cases h8 : op = 7
  · subst h8
    go_enter Tryd.func141, Tryd.ntmps141
    go_wp2_with fail
    refine bodyPost_ret (results_tmp4 rfl _ _ rfl) rfl ?_
    exact ⟨rfl, rfl⟩
  by_cases h9 : op = 8
  · subst h9
    go_enter Tryd.func141, Tryd.ntmps141
    go_wp2_with fail
    refine bodyPost_ret (results_tmp4 rfl _ _ rfl) rfl ?_
    exact ⟨rfl, rfl⟩
  by_cases h10 : op = 9
  · subst h10
    go_enter Tryd.func141, Tryd.ntmps141
    go_wp2_with fail
    refine bodyPost_ret (results_tmp4 rfl _ _ rfl) rfl ?_
    exact ⟨rfl, rfl⟩
  by_cases h11 : op = 10
  · subst h11
    go_enter Tryd.func141, Tryd.ntmps141
    go_wp2_with fail
    refine bodyPost_ret (results_tmp4 rfl _ _ rfl) rfl ?_
    exact ⟨rfl, rfl⟩
  by_cases h12 : op = 11
  · subst h12
    go_enter Tryd.func141, Tryd.ntmps141
    go_wp2_with fail
    refine bodyPost_ret (results_tmp4 rfl _ _ rfl) rfl ?_
    exact ⟨rfl, rfl⟩
  by_cases h13 : op = 12
  · subst h13
    go_enter Tryd.func141, Tryd.ntmps141
    go_wp2_with fail
    refine bodyPost_ret (results_tmp4 rfl _ _ rfl) rfl ?_
    exact ⟨rfl, rfl⟩
  have HR : Hid (hId op = true ∧ hArg op = true ∧ hExt op = true ∧ hDraw op = false) := Lib.hid ⟨decide_eq_true (by omega), decide_eq_true (by omega), decide_eq_true (by omega), decide_eq_false (by omega)⟩
  have q1 : 1 ≤ op := by omega
  have q2 : 2 ≤ op := by omega
  have q5 : ¬ op ≤ 5 := by omega
  have q6 : 6 ≤ op := by omega
  have q9 : ¬ op ≤ 9 := by omega
  have q10 : 10 ≤ op := by omega
  have q11 : 11 ≤ op := by omega
  have d9 : (op == 9) = false := by rw [beq_eq_false_iff_ne]; omega
  have d12 : (op == 12) = false := by rw [beq_eq_false_iff_ne]; omega
  clear h1 h2 h3 h4 h5 h6 h7 h8 h9 h10 h11 h12 h13
  go_enter Tryd.func141, Tryd.ntmps141
  go_wp2_with fail
  refine bodyPost_ret (results_tmp4 rfl _ _ rfl) rfl ?_
  exact ⟨by rw [HR.out.1, HR.out.2.1, HR.out.2.2.1, HR.out.2.2.2] <;> rfl, rfl⟩
def mayS2 (x : PStep) : Bool := decide (1 ≤ x.op ∧ x.op ≤ 12) && (smallB x.id && smallB x.arg && smallB x.extra) && ((hId x.op || x.id == 0) && (hArg x.op || x.arg == 0) && (hExt x.op || x.extra == 0) && (hDraw x.op || x.draw == 0))
theorem mayS2_eq (x : PStep) : mayS2 x = mayS x := by
  unfold mayS2 mayS
  by_cases h : 1 ≤ x.op ∧ x.op ≤ 12
  · rw [decide_eq_true h]
    congr 1
    obtain ⟨op, id, arg, extra, draw⟩ := x
    dsimp only at h ⊢
    have hc : op = 1 ∨ op = 2 ∨ op = 3 ∨ op = 4 ∨ op = 5 ∨ op = 6 ∨ op = 7 ∨ op = 8 ∨ op = 9 ∨ op = 10 ∨ op = 11 ∨ op = 12 := by omega
    rcases hc with rfl | rfl | rfl | rfl | rfl | rfl | rfl | rfl | rfl | rfl | rfl | rfl
    · have e1 : offs 1 = [1] := rfl
      have e2 : drw 1 = false := rfl
      have e3 : hId 1 = true := rfl
      have e4 : hArg 1 = false := rfl
      have e5 : hExt 1 = false := rfl
      have e6 : hDraw 1 = false := rfl
      unfold restS
      dsimp only
      rw [e1, e2, e3, e4, e5, e6, Bool.eq_iff_iff]
      simp [and_assoc]
    · have e1 : offs 2 = [1] := rfl
      have e2 : drw 2 = true := rfl
      have e3 : hId 2 = true := rfl
      have e4 : hArg 2 = false := rfl
      have e5 : hExt 2 = false := rfl
      have e6 : hDraw 2 = true := rfl
      unfold restS
      dsimp only
      rw [e1, e2, e3, e4, e5, e6, Bool.eq_iff_iff]
      simp
    · have e1 : offs 3 = [1] := rfl
      have e2 : drw 3 = true := rfl
      have e3 : hId 3 = true := rfl
      have e4 : hArg 3 = false := rfl
      have e5 : hExt 3 = false := rfl
      have e6 : hDraw 3 = true := rfl
      unfold restS
      dsimp only
      rw [e1, e2, e3, e4, e5, e6, Bool.eq_iff_iff]
      simp
    · have e1 : offs 4 = [1] := rfl
      have e2 : drw 4 = true := rfl
      have e3 : hId 4 = true := rfl
      have e4 : hArg 4 = false := rfl
      have e5 : hExt 4 = false := rfl
      have e6 : hDraw 4 = true := rfl
      unfold restS
      dsimp only
      rw [e1, e2, e3, e4, e5, e6, Bool.eq_iff_iff]
      simp
    · have e1 : offs 5 = [1] := rfl
      have e2 : drw 5 = true := rfl
      have e3 : hId 5 = true := rfl
      have e4 : hArg 5 = false := rfl
      have e5 : hExt 5 = false := rfl
      have e6 : hDraw 5 = true := rfl
      unfold restS
      dsimp only
      rw [e1, e2, e3, e4, e5, e6, Bool.eq_iff_iff]
      simp
    · have e1 : offs 6 = [2] := rfl
      have e2 : drw 6 = false := rfl
      have e3 : hId 6 = false := rfl
      have e4 : hArg 6 = true := rfl
      have e5 : hExt 6 = false := rfl
      have e6 : hDraw 6 = false := rfl
      unfold restS
      dsimp only
      rw [e1, e2, e3, e4, e5, e6, Bool.eq_iff_iff]
      simp [and_assoc]
    · have e1 : offs 7 = [2] := rfl
      have e2 : drw 7 = false := rfl
      have e3 : hId 7 = false := rfl
      have e4 : hArg 7 = true := rfl
      have e5 : hExt 7 = false := rfl
      have e6 : hDraw 7 = false := rfl
      unfold restS
      dsimp only
      rw [e1, e2, e3, e4, e5, e6, Bool.eq_iff_iff]
      simp [and_assoc]
    · have e1 : offs 8 = [2] := rfl
      have e2 : drw 8 = false := rfl
      have e3 : hId 8 = false := rfl
      have e4 : hArg 8 = true := rfl
      have e5 : hExt 8 = false := rfl
      have e6 : hDraw 8 = false := rfl
      unfold restS
      dsimp only
      rw [e1, e2, e3, e4, e5, e6, Bool.eq_iff_iff]
      simp [and_assoc]
    · have e1 : offs 9 = [2, 3] := rfl
      have e2 : drw 9 = true := rfl
      have e3 : hId 9 = false := rfl
      have e4 : hArg 9 = true := rfl
      have e5 : hExt 9 = true := rfl
      have e6 : hDraw 9 = true := rfl
      unfold restS
      dsimp only
      rw [e1, e2, e3, e4, e5, e6, Bool.eq_iff_iff]
      simp
    · have e1 : offs 10 = [1] := rfl
      have e2 : drw 10 = false := rfl
      have e3 : hId 10 = true := rfl
      have e4 : hArg 10 = false := rfl
      have e5 : hExt 10 = false := rfl
      have e6 : hDraw 10 = false := rfl
      unfold restS
      dsimp only
      rw [e1, e2, e3, e4, e5, e6, Bool.eq_iff_iff]
      simp [and_assoc]
    · have e1 : offs 11 = [1, 2, 3] := rfl
      have e2 : drw 11 = false := rfl
      have e3 : hId 11 = true := rfl
      have e4 : hArg 11 = true := rfl
      have e5 : hExt 11 = true := rfl
      have e6 : hDraw 11 = false := rfl
      unfold restS
      dsimp only
      rw [e1, e2, e3, e4, e5, e6, Bool.eq_iff_iff]
      simp
    · have e1 : offs 12 = [1, 2, 3] := rfl
      have e2 : drw 12 = true := rfl
      have e3 : hId 12 = true := rfl
      have e4 : hArg 12 = true := rfl
      have e5 : hExt 12 = true := rfl
      have e6 : hDraw 12 = true := rfl
      unfold restS
      dsimp only
      rw [e1, e2, e3, e4, e5, e6, Bool.eq_iff_iff]
      simp
  · rw [decide_eq_false h]; rfl
set_option maxRecDepth 100000 in
set_option maxHeartbeats 2000000 in
theorem ref_mayStep (x : PStep) (w : World) (h0 : 0 ≤ x.op) : Calls Tryd.prog 109 #[.agg #[.int .u8 x.op, .int .i64 x.id, .int .i64 x.arg, .int .i64 x.extra, .int .u64 x.draw]] w fun e w' => e = .returned (.bool (mayS x)) ∧ Ext w w' := by
  rw [← mayS2_eq]
  have HB : Hid (Blk (w.alloc (.cells #[.int .u8 x.op, .int .i64 x.id, .int .i64 x.arg, .int .i64 x.extra, .int .u64 x.draw] 115)) w.heap.size 115 [.int .u8 x.op, .int .i64 x.id, .int .i64 x.arg, .int .i64 x.extra, .int .u64 x.draw]) := Lib.hid (Blk.new rfl)
  have HE0 : Hid (Ext w (w.alloc (.cells #[.int .u8 x.op, .int .i64 x.id, .int .i64 x.arg, .int .i64 x.extra, .int .u64 x.draw] 115))) := Lib.hid (Ext.alloc _ _)
  obtain ⟨W, hW⟩ : ∃ W, W = w.alloc (.cells #[.int .u8 x.op, .int .i64 x.id, .int .i64 x.arg, .int .i64 x.extra, .int .u64 x.draw] 115) := ⟨_, rfl⟩
  go_enter Tryd.func109, Tryd.ntmps109
  go_wp2_with fail
  rw [← hW] at HB HE0
  refine (ref_has x.op h0 _).mono ?_
  rintro e w1 ⟨rfl, rfl⟩
  rw [← hW]
  have hc0 : W.cell? ⟨w.heap.size, 0, none⟩ = some (.int .u8 x.op) := HB.out.cell 0
  have hc1 : W.cell? ⟨w.heap.size, 1, none⟩ = some (.int .i64 x.id) := HB.out.cell 1
  have hc2 : W.cell? ⟨w.heap.size, 2, none⟩ = some (.int .i64 x.arg) := HB.out.cell 2
  have hc3 : W.cell? ⟨w.heap.size, 3, none⟩ = some (.int .i64 x.extra) := HB.out.cell 3
  have hc4 : W.cell? ⟨w.heap.size, 4, none⟩ = some (.int .u64 x.draw) := HB.out.cell 4
  clear HB hW
  obtain ⟨hI, hhI⟩ : ∃ v, hId x.op = v := ⟨_, rfl⟩
  obtain ⟨hA, hhA⟩ : ∃ v, hArg x.op = v := ⟨_, rfl⟩
  obtain ⟨hX, hhX⟩ : ∃ v, hExt x.op = v := ⟨_, rfl⟩
  obtain ⟨hD, hhD⟩ : ∃ v, hDraw x.op = v := ⟨_, rfl⟩
  have HR : Hid (mayS2 x = (decide (1 ≤ x.op ∧ x.op ≤ 12) && (smallB x.id && smallB x.arg && smallB x.extra) && ((hI || x.id == 0) && (hA || x.arg == 0) && (hX || x.extra == 0) && (hD || x.draw == 0)))) := Lib.hid (by rw [← hhI, ← hhA, ← hhX, ← hhD]; rfl)
  rw [hhI, hhA, hhX, hhD]
  clear hhI hhA hhX hhD
  by_cases o1 : x.op < 1
  · have HR2 := Lib.hid (show mayS2 x = false by rw [HR.out, decide_eq_false (by omega)]; rfl)
    go_wp2_with fail
    go_ret
    exact ⟨by rw [HR2.out] <;> rfl, HE0.out⟩
  by_cases o2 : (12 : Int) < x.op
  · have HR2 := Lib.hid (show mayS2 x = false by rw [HR.out, decide_eq_false (by omega)]; rfl)
    go_wp2_with fail
    go_ret
    exact ⟨by rw [HR2.out] <;> rfl, HE0.out⟩
  replace HR : Hid (mayS2 x = ((smallB x.id && smallB x.arg && smallB x.extra) && ((hI || x.id == 0) && (hA || x.arg == 0) && (hX || x.extra == 0) && (hD || x.draw == 0)))) := Lib.hid (by rw [HR.out, decide_eq_true ⟨by omega, by omega⟩, Bool.true_and])
  go_wp2_with fail
  refine (ref_small x.id _).mono ?_
  rintro e w2 ⟨rfl, rfl⟩
  obtain ⟨s0, hs0⟩ : ∃ v, smallB x.id = v := ⟨_, rfl⟩
  rw [hs0] at HR ⊢
  clear hs0
  cases s0 with
  | false =>
    have HR2 := Lib.hid (show mayS2 x = false by rw [HR.out]; simp)
    go_wp2_with fail
    go_ret
    exact ⟨by rw [HR2.out] <;> rfl, HE0.out⟩
  | true =>
  go_wp2_with fail
  refine (ref_small x.arg _).mono ?_
  rintro e w3 ⟨rfl, rfl⟩
  obtain ⟨s1, hs1⟩ : ∃ v, smallB x.arg = v := ⟨_, rfl⟩
  rw [hs1] at HR ⊢
  clear hs1
  cases s1 with
  | false =>
    have HR2 := Lib.hid (show mayS2 x = false by rw [HR.out]; simp)
    go_wp2_with fail
    go_ret
    exact ⟨by rw [HR2.out] <;> rfl, HE0.out⟩
  | true =>
  go_wp2_with fail
  refine (ref_small x.extra _).mono ?_
  rintro e w4 ⟨rfl, rfl⟩
  obtain ⟨s2, hs2⟩ : ∃ v, smallB x.extra = v := ⟨_, rfl⟩
  rw [hs2] at HR ⊢
  clear hs2
  cases s2 with
  | false =>
    have HR2 := Lib.hid (show mayS2 x = false by rw [HR.out]; simp)
    go_wp2_with fail
    go_ret
    exact ⟨by rw [HR2.out] <;> rfl, HE0.out⟩
  | true =>
  have HE3 := HE0
  clear HE0
  cases hI with
  | true =>
    cases hA with
    | true =>
      cases hX with
      | true =>
        cases hD with
        | true =>
          have HR2 := Lib.hid (show mayS2 x = true by rw [HR.out]; simp [*])
          go_wp2_with fail
          go_ret
          exact ⟨by rw [HR2.out] <;> rfl, HE3.out⟩
        | false =>
          by_cases z3 : x.draw = 0
          · have d3 : (x.draw == 0) = true := by rw [z3]; rfl
            have HR2 := Lib.hid (show mayS2 x = true by rw [HR.out]; simp [*])
            go_wp2_with fail
            go_ret
            exact ⟨by rw [HR2.out] <;> rfl, HE3.out⟩
          · have d3 : (x.draw == 0) = false := by rw [beq_eq_false_iff_ne]; exact z3
            have HR2 := Lib.hid (show mayS2 x = false by rw [HR.out]; simp [*])
            go_wp2_with fail
            go_ret
            exact ⟨by rw [HR2.out] <;> rfl, HE3.out⟩
      | false =>
        by_cases z2 : x.extra = 0
        · have d2 : (x.extra == 0) = true := by rw [z2]; rfl
          cases hD with
          | true =>
            have HR2 := Lib.hid (show mayS2 x = true by rw [HR.out]; simp [*])
            go_wp2_with fail
            go_ret
            exact ⟨by rw [HR2.out] <;> rfl, HE3.out⟩
          | false =>
            by_cases z3 : x.draw = 0
            · have d3 : (x.draw == 0) = true := by rw [z3]; rfl
              have HR2 := Lib.hid (show mayS2 x = true by rw [HR.out]; simp [*])
              go_wp2_with fail
              go_ret
              exact ⟨by rw [HR2.out] <;> rfl, HE3.out⟩
            · have d3 : (x.draw == 0) = false := by rw [beq_eq_false_iff_ne]; exact z3
              have HR2 := Lib.hid (show mayS2 x = false by rw [HR.out]; simp [*])
              go_wp2_with fail
              go_ret
              exact ⟨by rw [HR2.out] <;> rfl, HE3.out⟩
        · have d2 : (x.extra == 0) = false := by rw [beq_eq_false_iff_ne]; exact z2
          have HR2 := Lib.hid (show mayS2 x = false by rw [HR.out]; simp [*])
          go_wp2_with fail
          go_ret
          exact ⟨by rw [HR2.out] <;> rfl, HE3.out⟩
    | false =>
      by_cases z1 : x.arg = 0
      · have d1 : (x.arg == 0) = true := by rw [z1]; rfl
        cases hX with
        | true =>
          cases hD with
          | true =>
            have HR2 := Lib.hid (show mayS2 x = true by rw [HR.out]; simp [*])
            go_wp2_with fail
            go_ret
            exact ⟨by rw [HR2.out] <;> rfl, HE3.out⟩
          | false =>
            by_cases z3 : x.draw = 0
            · have d3 : (x.draw == 0) = true := by rw [z3]; rfl
              have HR2 := Lib.hid (show mayS2 x = true by rw [HR.out]; simp [*])
              go_wp2_with fail
              go_ret
              exact ⟨by rw [HR2.out] <;> rfl, HE3.out⟩
            · have d3 : (x.draw == 0) = false := by rw [beq_eq_false_iff_ne]; exact z3
              have HR2 := Lib.hid (show mayS2 x = false by rw [HR.out]; simp [*])
              go_wp2_with fail
              go_ret
              exact ⟨by rw [HR2.out] <;> rfl, HE3.out⟩
        | false =>
          by_cases z2 : x.extra = 0
          · have d2 : (x.extra == 0) = true := by rw [z2]; rfl
            cases hD with
            | true =>
              have HR2 := Lib.hid (show mayS2 x = true by rw [HR.out]; simp [*])
              go_wp2_with fail
              go_ret
              exact ⟨by rw [HR2.out] <;> rfl, HE3.out⟩
            | false =>
              by_cases z3 : x.draw = 0
              · have d3 : (x.draw == 0) = true := by rw [z3]; rfl
                have HR2 := Lib.hid (show mayS2 x = true by rw [HR.out]; simp [*])
                go_wp2_with fail
                go_ret
                exact ⟨by rw [HR2.out] <;> rfl, HE3.out⟩
              · have d3 : (x.draw == 0) = false := by rw [beq_eq_false_iff_ne]; exact z3
                have HR2 := Lib.hid (show mayS2 x = false by rw [HR.out]; simp [*])
                go_wp2_with fail
                go_ret
                exact ⟨by rw [HR2.out] <;> rfl, HE3.out⟩
          · have d2 : (x.extra == 0) = false := by rw [beq_eq_false_iff_ne]; exact z2
            have HR2 := Lib.hid (show mayS2 x = false by rw [HR.out]; simp [*])
            go_wp2_with fail
            go_ret
            exact ⟨by rw [HR2.out] <;> rfl, HE3.out⟩
      · have d1 : (x.arg == 0) = false := by rw [beq_eq_false_iff_ne]; exact z1
        have HR2 := Lib.hid (show mayS2 x = false by rw [HR.out]; simp [*])
        go_wp2_with fail
        go_ret
        exact ⟨by rw [HR2.out] <;> rfl, HE3.out⟩
  | false =>
    by_cases z0 : x.id = 0
    · have d0 : (x.id == 0) = true := by rw [z0]; rfl
      cases hA with
      | true =>
        cases hX with
        | true =>
          cases hD with
          | true =>
            have HR2 := Lib.hid (show mayS2 x = true by rw [HR.out]; simp [*])
            go_wp2_with fail
            go_ret
            exact ⟨by rw [HR2.out] <;> rfl, HE3.out⟩
          | false =>
            by_cases z3 : x.draw = 0
            · have d3 : (x.draw == 0) = true := by rw [z3]; rfl
              have HR2 := Lib.hid (show mayS2 x = true by rw [HR.out]; simp [*])
              go_wp2_with fail
              go_ret
              exact ⟨by rw [HR2.out] <;> rfl, HE3.out⟩
            · have d3 : (x.draw == 0) = false := by rw [beq_eq_false_iff_ne]; exact z3
              have HR2 := Lib.hid (show mayS2 x = false by rw [HR.out]; simp [*])
              go_wp2_with fail
              go_ret
              exact ⟨by rw [HR2.out] <;> rfl, HE3.out⟩
        | false =>
          by_cases z2 : x.extra = 0
          · have d2 : (x.extra == 0) = true := by rw [z2]; rfl
            cases hD with
            | true =>
              have HR2 := Lib.hid (show mayS2 x = true by rw [HR.out]; simp [*])
              go_wp2_with fail
              go_ret
              exact ⟨by rw [HR2.out] <;> rfl, HE3.out⟩
            | false =>
              by_cases z3 : x.draw = 0
              · have d3 : (x.draw == 0) = true := by rw [z3]; rfl
                have HR2 := Lib.hid (show mayS2 x = true by rw [HR.out]; simp [*])
                go_wp2_with fail
                go_ret
                exact ⟨by rw [HR2.out] <;> rfl, HE3.out⟩
              · have d3 : (x.draw == 0) = false := by rw [beq_eq_false_iff_ne]; exact z3
                have HR2 := Lib.hid (show mayS2 x = false by rw [HR.out]; simp [*])
                go_wp2_with fail
                go_ret
                exact ⟨by rw [HR2.out] <;> rfl, HE3.out⟩
          · have d2 : (x.extra == 0) = false := by rw [beq_eq_false_iff_ne]; exact z2
            have HR2 := Lib.hid (show mayS2 x = false by rw [HR.out]; simp [*])
            go_wp2_with fail
            go_ret
            exact ⟨by rw [HR2.out] <;> rfl, HE3.out⟩
      | false =>
        by_cases z1 : x.arg = 0
        · have d1 : (x.arg == 0) = true := by rw [z1]; rfl
          cases hX with
          | true =>
            cases hD with
            | true =>
              have HR2 := Lib.hid (show mayS2 x = true by rw [HR.out]; simp [*])
              go_wp2_with fail
              go_ret
              exact ⟨by rw [HR2.out] <;> rfl, HE3.out⟩
            | false =>
              by_cases z3 : x.draw = 0
              · have d3 : (x.draw == 0) = true := by rw [z3]; rfl
                have HR2 := Lib.hid (show mayS2 x = true by rw [HR.out]; simp [*])
                go_wp2_with fail
                go_ret
                exact ⟨by rw [HR2.out] <;> rfl, HE3.out⟩
              · have d3 : (x.draw == 0) = false := by rw [beq_eq_false_iff_ne]; exact z3
                have HR2 := Lib.hid (show mayS2 x = false by rw [HR.out]; simp [*])
                go_wp2_with fail
                go_ret
                exact ⟨by rw [HR2.out] <;> rfl, HE3.out⟩
          | false =>
            by_cases z2 : x.extra = 0
            · have d2 : (x.extra == 0) = true := by rw [z2]; rfl
              cases hD with
              | true =>
                have HR2 := Lib.hid (show mayS2 x = true by rw [HR.out]; simp [*])
                go_wp2_with fail
                go_ret
                exact ⟨by rw [HR2.out] <;> rfl, HE3.out⟩
              | false =>
                by_cases z3 : x.draw = 0
                · have d3 : (x.draw == 0) = true := by rw [z3]; rfl
                  have HR2 := Lib.hid (show mayS2 x = true by rw [HR.out]; simp [*])
                  go_wp2_with fail
                  go_ret
                  exact ⟨by rw [HR2.out] <;> rfl, HE3.out⟩
                · have d3 : (x.draw == 0) = false := by rw [beq_eq_false_iff_ne]; exact z3
                  have HR2 := Lib.hid (show mayS2 x = false by rw [HR.out]; simp [*])
                  go_wp2_with fail
                  go_ret
                  exact ⟨by rw [HR2.out] <;> rfl, HE3.out⟩
            · have d2 : (x.extra == 0) = false := by rw [beq_eq_false_iff_ne]; exact z2
              have HR2 := Lib.hid (show mayS2 x = false by rw [HR.out]; simp [*])
              go_wp2_with fail
              go_ret
              exact ⟨by rw [HR2.out] <;> rfl, HE3.out⟩
        · have d1 : (x.arg == 0) = false := by rw [beq_eq_false_iff_ne]; exact z1
          have HR2 := Lib.hid (show mayS2 x = false by rw [HR.out]; simp [*])
          go_wp2_with fail
          go_ret
          exact ⟨by rw [HR2.out] <;> rfl, HE3.out⟩
    · have d0 : (x.id == 0) = false := by rw [beq_eq_false_iff_ne]; exact z0
      have HR2 := Lib.hid (show mayS2 x = false by rw [HR.out]; simp [*])
      go_wp2_with fail
      go_ret
      exact ⟨by rw [HR2.out] <;> rfl, HE3.out⟩
end Go.Proofs.YtgcbnagfdfgpnaaDoor
