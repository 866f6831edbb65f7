/- A tale's text: the program. Printed by gen_printt.py. -/
import Derived.Test.YtgcbnagfdfgpnaaDoorMayT
namespace Go.Hx
open Go.RowKit
theorem Ext.trans' {a b c : World} {B : Nat} (h : Ext a b) (k : Below B b c) (hB : a.heap.size ≤ B) : Ext a c := Below.trans h (k.mono hB)
end Go.Hx
namespace Go.Proofs.YtgcbnagfdfgpnaaDoor
open Go.RowKit Go.Hx
theorem aggTale : AggTy Tryd.prog 64 6 := ⟨⟨_, Tryd.underlying64, rfl⟩, by kernel_rfl⟩
attribute [local go_sem] PStep.cells XTale.cells detUpon undIn
theorem step_len {x : PStep} (h : StepOk x) : (stepL x).length ≤ 100 := by
  unfold stepL
  have h1 := lineL_len (nameL x.op) _ (nums_in h)
  have h2 : (nameL x.op).length ≤ 10 := by
    obtain ⟨k, hk⟩ : ∃ k : Nat, x.op = (k : Int) := ⟨x.op.toNat, by have := h.op.1; omega⟩
    rw [hk]; exact name_len k
  have h3 := offs_len x.op
  rw [List.length_map] at h1
  rw [List.length_append]
  split
  · have h4 := Lib.nDigits_le20 x.draw.toNat (by have := h.draw; omega)
    rw [List.length_cons, Lib.decDigits_length]
    omega
  · rw [List.length_nil]; omega
theorem steps_len : ∀ (l : List PStep), (∀ x ∈ l, StepOk x) → (stepsL l).length ≤ 101 * l.length
  | [], _ => Nat.le_refl _
  | x :: l, h => by
    have h1 := steps_len l (fun y hy => h y (List.mem_cons_of_mem _ hy))
    have h2 := step_len (h x (List.mem_cons_self ..))
    unfold stepsL at *
    simp only [List.flatMap_cons, List.length_append, List.length_cons, List.length_nil] at *
    omega
theorem stepsL_snoc (l : List PStep) (x : PStep) : stepsL (l ++ [x]) = stepsL l ++ (stepL x ++ [10]) := by
  unfold stepsL; rw [List.flatMap_append]; simp
theorem may_ok {t : PTale} (hw : t.wf) (h : mayT t = true) : (∀ x ∈ t.steps, StepOk x) ∧ t.values.length ≤ 100 ∧ t.steps.length ≤ 512 := by
  unfold mayT at h
  simp only [Bool.and_eq_true] at h
  obtain ⟨⟨_, h2⟩, h3⟩ := h
  have h2 := of_decide_eq_true h2
  refine ⟨fun x hx => ?_, h2.1, h2.2⟩
  have h4 := List.all_eq_true.1 h3 x hx
  obtain ⟨_, w2, w3, w4, w5⟩ := hw.2.2 x hx
  unfold mayS at h4
  simp only [Bool.and_eq_true] at h4
  have h5 := of_decide_eq_true h4.1.1
  exact ⟨h5, w2, w3, w4, by omega⟩
/-- while steps are printed -/
structure PriI (w W : World) (B : Nat) (t : PTale) (k : Nat) : Prop where
  ext : Ext w W
  bld : Bld B (headL t ++ [10] ++ stepsL (t.steps.take k)) W
  low : w.heap.size ≤ B
set_option maxRecDepth 100000 in
set_option maxHeartbeats 2000000 in
theorem tale_Print (x : XTale) (w : World) (hx : x.ok w w.heap.size) (hw : x.data.wf) (hT : Pow w) :
    Calls Tryd.prog 24 #[.agg #[.int .i64 x.conf.nodes, .int .i64 x.conf.len, .int .i64 x.conf.patience, .int .i64 x.conf.cap, .slice x.values.A x.values.l.length x.values.c, .slice x.steps.A x.steps.l.length x.steps.c]] w fun e w' => e = .returned (.tuple #[.string ⟨(printP x.data).1.toArray⟩, .int .i64 (printP x.data).2]) ∧ Ext w w' := by
  have HX := Lib.hid hx
  have HW := Lib.hid hw
  have HT := Lib.hid hT
  have HS := Lib.hid hx.steps.1
  clear hx hw hT
  have HB0 : Hid (Blk (w.alloc (.cells #[.int .i64 x.conf.nodes, .int .i64 x.conf.len, .int .i64 x.conf.patience, .int .i64 x.conf.cap, .slice x.values.A x.values.l.length x.values.c, .slice x.steps.A x.steps.l.length x.steps.c] 64)) w.heap.size 64 [.int .i64 x.conf.nodes, .int .i64 x.conf.len, .int .i64 x.conf.patience, .int .i64 x.conf.cap, .slice x.values.A x.values.l.length x.values.c, .slice x.steps.A x.steps.l.length x.steps.c]) := Lib.hid (Blk.new rfl)
  have hr0 : RowAt (w.alloc (.cells #[.int .i64 x.conf.nodes, .int .i64 x.conf.len, .int .i64 x.conf.patience, .int .i64 x.conf.cap, .slice x.values.A x.values.l.length x.values.c, .slice x.steps.A x.steps.l.length x.steps.c] 64)) w.heap.size 0 [.int .i64 x.conf.nodes, .int .i64 x.conf.len, .int .i64 x.conf.patience, .int .i64 x.conf.cap, .slice x.values.A x.values.l.length x.values.c, .slice x.steps.A x.steps.l.length x.steps.c] := HB0.out.row
  go_enter Tryd.func24, Tryd.ntmps24
  go_wp2_with (first | ((with_reducible refine wpl_load 64 (.tmp 1) ?_ ?_ (w.heap.size) 0 [.int .i64 x.conf.nodes, .int .i64 x.conf.len, .int .i64 x.conf.patience, .int .i64 x.conf.cap, .slice x.values.A x.values.l.length x.values.c, .slice x.steps.A x.steps.l.length x.steps.c] ?_ ?_ ?_ ?_); (exact rfl); (exact rfl); (exact rfl); (exact aggTale); (exact hr0)) | fail)
  clear hr0
  refine calls_nm fun W0 hW => ?_
  have HBT : Hid (Blk W0 w.heap.size 64 [.int .i64 x.conf.nodes, .int .i64 x.conf.len, .int .i64 x.conf.patience, .int .i64 x.conf.cap, .slice x.values.A x.values.l.length x.values.c, .slice x.steps.A x.steps.l.length x.steps.c]) := Lib.hid (by rw [hW]; exact HB0.out)
  have HE0 : Hid (Ext w W0) := Lib.hid (by rw [hW]; exact Ext.alloc _ _)
  clear hW HB0
  refine (tale_may x _ (HX.out.ext HE0.out) HW.out).mono ?_
  cases hm : mayT x.data with
  | false =>
    have HR : Hid (printP x.data = ([], 8)) := Lib.hid (by unfold printP; rw [if_neg (by rw [hm]; decide)])
    clear hm
    rintro e w1 ⟨rfl, hE1⟩
    have HE1 := Lib.hid (HE0.out.trans hE1)
    go_wp2_with fail
    go_ret2
    exact ⟨by rw [HR.out] <;> rfl, HE1.out⟩
  | true =>
  have HOK := Lib.hid (may_ok HW.out hm)
  have HPR : Hid (printP x.data = if 65536 < (textL x.data).length then ([], 4) else (textL x.data, 0)) := Lib.hid (by unfold printP; rw [if_pos hm])
  clear hm
  rintro e w1 ⟨rfl, hE1⟩
  have HE1 := Lib.hid (HE0.out.trans hE1)
  have HB1 := Lib.hid (HBT.out.ext hE1)
  clear hE1 HE0 HBT
  have hr1 : RowAt (w1.alloc (.cells #[.pointer none, .slice none 0 0] 107)) w.heap.size 0 [.int .i64 x.conf.nodes, .int .i64 x.conf.len, .int .i64 x.conf.patience, .int .i64 x.conf.cap, .slice x.values.A x.values.l.length x.values.c, .slice x.steps.A x.steps.l.length x.steps.c] := (HB1.out.alloc _).row
  go_wp2_with (first | ((with_reducible refine wpl_load 64 (.tmp 1) ?_ ?_ (w.heap.size) 0 [.int .i64 x.conf.nodes, .int .i64 x.conf.len, .int .i64 x.conf.patience, .int .i64 x.conf.cap, .slice x.values.A x.values.l.length x.values.c, .slice x.steps.A x.steps.l.length x.steps.c] ?_ ?_ ?_ ?_); (exact rfl); (exact rfl); (exact rfl); (exact aggTale); (exact hr1)) | fail)
  clear hr1
  refine calls_nm fun W2 hW => ?_
  have HBL : Hid (Bld w1.heap.size [] W2) := Lib.hid (by rw [hW]; exact Lib.fresh_isBuilder 107 5 w1)
  have HB2 : Hid (Blk W2 w.heap.size 64 [.int .i64 x.conf.nodes, .int .i64 x.conf.len, .int .i64 x.conf.patience, .int .i64 x.conf.cap, .slice x.values.A x.values.l.length x.values.c, .slice x.steps.A x.steps.l.length x.steps.c]) := Lib.hid (by rw [hW]; exact HB1.out.alloc _)
  have HE2 : Hid (Ext w W2) := Lib.hid (by rw [hW]; exact HE1.out.trans (Ext.alloc _ _))
  have HLB : Hid (w.heap.size < w1.heap.size) := Lib.hid HB1.out.lt
  clear hW HB1 HE1
  obtain ⟨B, hB⟩ : ∃ B, w1.heap.size = B := ⟨_, rfl⟩
  rw [hB] at HBL HLB ⊢
  clear hB
  refine (tale_head x _ (HX.out.ext HE2.out) HW.out.1 HW.out.2.1 (by have := HOK.out.2.1; show x.data.values.length ≤ 900; omega) (HT.out.ext HE2.out)).mono ?_
  rintro e w3 ⟨rfl, hE3⟩
  have HBL3 := Lib.hid (HBL.out.ext hE3)
  have HB3 := Lib.hid (HB2.out.ext hE3)
  have HE3 := Lib.hid (HE2.out.trans hE3)
  have HHL : Hid ((headL x.data).length ≤ 3000) := Lib.hid (by
    have h1 := lineL_len [119, 111, 114, 108, 100] ([x.data.conf.nodes, x.data.conf.len, x.data.conf.patience, x.data.conf.cap] ++ x.data.values) (fun v hv => by
      rcases List.mem_append.1 hv with hv | hv
      · simp only [List.mem_cons, List.not_mem_nil, or_false] at hv
        rcases hv with rfl | rfl | rfl | rfl
        · exact HW.out.1.1
        · exact HW.out.1.2.1
        · exact HW.out.1.2.2.1
        · exact HW.out.1.2.2.2
      · exact HW.out.2.1 v hv)
    have h2 := HOK.out.2.1
    rw [List.length_append] at h1
    simp only [List.length_cons, List.length_nil] at h1
    unfold headL
    omega)
  have a1 : ∀ W, (Op.stringOp .add ⟨(headL x.data).toArray⟩ ⟨#[10]⟩).run Tryd.prog W = .ok (.string ⟨(headL x.data ++ [10]).toArray⟩) W := fun W => run_string_add_lists W _ [10] (by have := HHL.out; omega) (by simp)
  clear hE3 HBL HB2 HE2
  go_wp2_with fail
  refine (bld_write B _ [] _ HBL3.out (by have := HHL.out; simp [ByteArray.size]; omega)).mono ?_
  rintro e w4 ⟨rfl, hB4, hb4⟩
  have HI0 : Hid (PriI w w4 B x.data 0) := Lib.hid ⟨HE3.out.trans' hb4 (Nat.le_of_lt HLB.out), by simpa [stepsL] using hB4, Nat.le_of_lt HLB.out⟩
  have HB4 : Hid (Blk w4 w.heap.size 64 [.int .i64 x.conf.nodes, .int .i64 x.conf.len, .int .i64 x.conf.patience, .int .i64 x.conf.cap, .slice x.values.A x.values.l.length x.values.c, .slice x.steps.A x.steps.l.length x.steps.c]) := Lib.hid ((hb4.block _ HLB.out).trans HB3.out)
  have hcs : w4.cell? ⟨w.heap.size, 5, none⟩ = some (.slice x.steps.A x.steps.l.length x.steps.c) := HB4.out.cell 5
  clear hB4 hb4 HBL3 HB3 HE3 a1 HB4
  go_wp2_with fail
  clear hcs
  obtain ⟨cf, vs, ⟨sl, sA, sc⟩⟩ := x
  dsimp only at *
  go_loopw [17] (fun i W => ∃ (k : Nat), k ≤ sl.length ∧ i = .int .i64 k ∧ Hid (PriI w W B (XTale.data ⟨cf, vs, ⟨sl, sA, sc⟩⟩) k)) (fun i _ => sl.length - (intOf i).toNat)
  case atStart => exact ⟨0, by omega, rfl, HI0⟩
  case round =>
    obtain ⟨k, hk, rfl, HI⟩ := hrel
    clear HI0
    by_cases hlt : k < sl.length
    · obtain ⟨z, hz⟩ : ∃ z, sl[k]? = some z := ⟨_, List.getElem?_eq_getElem hlt⟩
      have HZ := Lib.hid hz
      have HZO : Hid (StepOk z) := Lib.hid (HOK.out.1 z (List.mem_of_getElem? hz))
      obtain ⟨b1, o1, rfl, hb1, hrow⟩ := Sl.row (size := 5) (fun _ => rfl) HS.out hz
      have HRZ : Hid (RowAt wr b1 (o1 + k * 5) [.int .u8 z.op, .int .i64 z.id, .int .i64 z.arg, .int .i64 z.extra, .int .u64 z.draw]) := Lib.hid (hrow.below HI.out.ext.below hb1)
      have hki : (k : Int) < (sl.length : Int) := by omega
      have hk5 : k < 512 := by have := HOK.out.2.2; have : sl.length ≤ 512 := this; omega
      have HSZ : Hid ((stepL z).length ≤ 100) := Lib.hid (step_len HZO.out)
      have HSS : Hid ((stepsL (sl.take k)).length ≤ 60000) := Lib.hid (by
        have h1 := steps_len (sl.take k) (fun y hy => HOK.out.1 y (List.mem_of_mem_take hy))
        rw [List.length_take] at h1
        omega)
      have a1 : ∀ W, (Op.stringOp .add ⟨(stepL z).toArray⟩ ⟨#[10]⟩).run Tryd.prog W = .ok (.string ⟨(stepL z ++ [10]).toArray⟩) W := fun W => run_string_add_lists W _ [10] (by have := HSZ.out; omega) (by simp)
      clear hz hb1 hrow
      go_wp2_with (first | ((with_reducible refine wpl_load 115 (.tmp 19) ?_ ?_ (b1) (o1 + k * 5) [.int .u8 z.op, .int .i64 z.id, .int .i64 z.arg, .int .i64 z.extra, .int .u64 z.draw] ?_ ?_ ?_ ?_); (exact rfl); (exact rfl); (exact rfl); (exact aggStep); (exact HRZ.out)) | fail)
      refine calls_nm fun W5 hW => ?_
      have HE5 : Hid (Ext wr W5) := Lib.hid (by rw [hW]; exact Ext.alloc _ _)
      clear hW HRZ
      refine (tale_step z _ HZO.out (HT.out.ext (HI.out.ext.trans HE5.out))).mono ?_
      rintro e w6 ⟨rfl, hE6⟩
      have HE6 := Lib.hid (HI.out.ext.trans (HE5.out.trans hE6))
      have HB6 := Lib.hid (HI.out.bld.ext (HE5.out.trans hE6))
      clear hE6 HE5
      go_wp2_with fail
      refine (bld_write B _ _ _ HB6.out (by have := HHL.out; have := HSS.out; have := HSZ.out; simp [ByteArray.size, XTale.data] at *; omega)).mono ?_
      rintro e w7 ⟨rfl, hB7, hb7⟩
      have HI2 : Hid (PriI w w7 B (XTale.data ⟨cf, vs, ⟨sl, some ⟨b1, o1, none⟩, sc⟩⟩) (k + 1)) := Lib.hid ⟨HE6.out.trans' hb7 HI.out.low, by
        show Bld B (_ ++ stepsL (sl.take (k + 1))) w7
        rw [take_snoc HZ.out, stepsL_snoc, ← List.append_assoc]
        exact hB7, HI.out.low⟩
      clear hB7 hb7 a1
      go_wp2_with fail
      go_roundw
      case rel => exact ⟨k + 1, by omega, by go_num, HI2⟩
      case measure => simp [intOf]; omega
    · have hki : ¬ (k : Int) < (sl.length : Int) := by omega
      have HBF : Hid (Bld B (textL (XTale.data ⟨cf, vs, ⟨sl, sA, sc⟩⟩)) wr) := Lib.hid (by
        have := HI.out.bld
        rw [show (XTale.data ⟨cf, vs, ⟨sl, sA, sc⟩⟩).steps.take k = sl by show sl.take k = sl; rw [List.take_of_length_le (by omega)]] at this
        exact this)
      have HEF := Lib.hid HI.out.ext
      have HLF := Lib.hid HI.out.low
      clear HI
      obtain ⟨tx, htx⟩ : ∃ t, textL (XTale.data ⟨cf, vs, ⟨sl, sA, sc⟩⟩) = t := ⟨_, rfl⟩
      rw [htx] at HBF HPR
      clear htx
      have hbl : (Lib.byteCells tx).length = tx.length := by simp [Lib.byteCells]
      by_cases hlen : (65536 : Int) < (tx.length : Int)
      · have HR := Lib.hid (HPR.out.trans (if_pos (by omega)))
        clear HPR
        go_wp2_with (first | (go_at_call 61; refine (Tryd.Builder_Len B B _ _ HBF.out).mono ?_; rintro e w8 ⟨rfl, rfl⟩) | fail)
        go_ret2
        exact ⟨by rw [HR.out] <;> rfl, HEF.out⟩
      · have HR := Lib.hid (HPR.out.trans (if_neg (by omega)))
        clear HPR
        go_wp2_with (first | (go_at_call 61; refine (Tryd.Builder_Len B B _ _ HBF.out).mono ?_; rintro e w8 ⟨rfl, rfl⟩) | fail)
        refine (Tryd.Builder_String_any B B tx _ HBF.out (Nat.le_of_lt HBF.out.lt)).mono ?_
        rintro e w9 ⟨rfl, hb9⟩
        have HE9 := Lib.hid (HEF.out.trans' hb9 HLF.out)
        go_wp2_with fail
        go_ret2
        exact ⟨by rw [HR.out] <;> rfl, HE9.out⟩
end Go.Proofs.YtgcbnagfdfgpnaaDoor
