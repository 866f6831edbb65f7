/- The reference's tales: lines. Printed by gen_ref32c.py. -/
import Derived.Test.YtgcbnagfdfgpnaaDoorRef32b
namespace Go.Proofs.YtgcbnagfdfgpnaaDoor
open Go.RowKit Go.Hx
attribute [local go_sem] PStep.cells XTale.cells detUpon undIn
set_option maxRecDepth 100000 in
set_option maxHeartbeats 2000000 in
theorem ref_Line (x : PStep) (w : World) (hx : StepOk x) (hm : smallB x.id = true ∧ smallB x.arg = true ∧ smallB x.extra = true) :
    Calls Tryd.prog 111 #[.agg #[.int .u8 x.op, .int .i64 x.id, .int .i64 x.arg, .int .i64 x.extra, .int .u64 x.draw]] w fun e w' => e = .returned (.string ⟨(stepL x).toArray⟩) ∧ Ext w w' := by
  obtain ⟨op, id, arg, extra, draw⟩ := x
  obtain ⟨draw, rfl⟩ : ∃ k : Nat, draw = (k : Int) := ⟨draw.toNat, by have := hx.draw.1; dsimp only at this; omega⟩
  have HD : Hid (draw < 18446744073709551616) := Lib.hid (by have := hx.draw.2; dsimp only at this; omega)
  have H_id : Hid (smallB id = true) := Lib.hid hm.1
  have H_arg : Hid (smallB arg = true) := Lib.hid hm.2.1
  have H_extra : Hid (smallB extra = true) := Lib.hid hm.2.2
  have hop := hx.op
  dsimp only at hop
  clear hx hm
  have hc : op = 1 ∨ op = 2 ∨ op = 3 ∨ op = 4 ∨ op = 5 ∨ op = 6 ∨ op = 7 ∨ op = 8 ∨ op = 9 ∨ op = 10 ∨ op = 11 ∨ op = 12 := by omega
  clear hop
  dsimp only
  rcases hc with rfl | rfl | rfl | rfl | rfl | rfl | rfl | rfl | rfl | rfl | rfl | rfl
  · skip
    have e1 : offs 1 = [1] := rfl
    have e2 : drw 1 = false := rfl
    have HB0 : Hid (Blk (w.alloc (.cells #[.int .u8 1, .int .i64 id, .int .i64 arg, .int .i64 extra, .int .u64 draw] 115)) w.heap.size 115 [.int .u8 1, .int .i64 id, .int .i64 arg, .int .i64 extra, .int .u64 draw]) := Lib.hid (Blk.new rfl)
    obtain ⟨W, hW⟩ : ∃ W, W = w.alloc (.cells #[.int .u8 1, .int .i64 id, .int .i64 arg, .int .i64 extra, .int .u64 draw] 115) := ⟨_, rfl⟩
    have HB : Hid (Blk W w.heap.size 115 [.int .u8 1, .int .i64 id, .int .i64 arg, .int .i64 extra, .int .u64 draw]) := Lib.hid (by rw [hW]; exact HB0.out)
    have HE : Hid (Ext w W) := Lib.hid (by rw [hW]; exact Ext.alloc _ _)
    have HF0 : Hid (Ext W W) := Lib.hid (Ext.refl _)
    obtain ⟨s0, hs0⟩ : ∃ s, nameL 1 = s := ⟨_, rfl⟩
    have HS0 : Hid (s0.length ≤ 10) := Lib.hid (by rw [← hs0]; exact name_len 1)
    have HR : Hid (stepL ⟨1, id, arg, extra, draw⟩ = s0 ++ [32] ++ Lib.itoa id) := Lib.hid (by unfold stepL lineL; dsimp only; rw [e1, e2, hs0]; simp [PStep.fld])
    have HNM := Lib.hid hs0
    clear hs0 e1 e2 HB0
    go_enter Tryd.func111, Tryd.ntmps111
    go_wp2_with fail
    rw [← hW]
    clear hW
    refine (ref_has 1 (by decide) _).mono ?_
    rw [show hId 1 = true from rfl, show hArg 1 = false from rfl, show hExt 1 = false from rfl, show hDraw 1 = false from rfl]
    rintro e wh ⟨rfl, hw⟩
    rw [hw]
    clear hw
    have hc0 : W.cell? ⟨w.heap.size, 0, none⟩ = some (.int .u8 1) := HB.out.cell 0
    go_wp2_with fail
    clear hc0
    refine (ref_name 1 (by decide) _).mono ?_
    rw [show nameL ((1 : Nat) : Int) = s0 from HNM.out]
    rintro e w1 ⟨rfl, hE1⟩
    have HF1 := Lib.hid hE1
    clear hE1 HF0
    have hc1 : w1.cell? ⟨w.heap.size, 1, none⟩ = some (.int .i64 id) := (HB.out.ext HF1.out).cell 1
    obtain ⟨c1, hcc1⟩ : ∃ c, Lib.itoa id = c := ⟨_, rfl⟩
    have HC1 : Hid (c1.length ≤ 21) := Lib.hid (by rw [← hcc1]; exact itoa_small H_id.out)
    obtain ⟨p1, hp1⟩ : ∃ p, s0 ++ [32] = p := ⟨_, rfl⟩
    have HP1 : Hid (p1.length ≤ 11) := Lib.hid (by rw [← hp1, List.length_append]; have := HS0.out; simp only [List.length_cons, List.length_nil]; omega)
    obtain ⟨s1, hs1⟩ : ∃ s, p1 ++ c1 = s := ⟨_, rfl⟩
    have HS1 : Hid (s1.length ≤ 32) := Lib.hid (by rw [← hs1, List.length_append]; have := HP1.out; have := HC1.out; omega)
    have a1 : ∀ W, (Op.stringOp .add ⟨s0.toArray⟩ ⟨#[32]⟩).run Tryd.prog W = .ok (.string ⟨p1.toArray⟩) W := fun W => by rw [run_string_add_lists W s0 [32] (by have := HS0.out; omega) (by simp), hp1]
    have b1 : ∀ W, (Op.stringOp .add ⟨p1.toArray⟩ ⟨c1.toArray⟩).run Tryd.prog W = .ok (.string ⟨s1.toArray⟩) W := fun W => by rw [run_string_add_lists W p1 c1 (by have := HP1.out; omega) (by have := HC1.out; omega), hs1]
    have HQ1 : Hid (Lib.itoa id = c1 ∧ s0 ++ [32] = p1 ∧ p1 ++ c1 = s1) := Lib.hid ⟨hcc1, hp1, hs1⟩
    clear hcc1 hp1 hs1
    go_wp2_with fail
    clear hc1
    refine (ref_Whole id H_id.out _).mono ?_
    rw [HQ1.out.1]
    rintro e w2 ⟨rfl, hE2⟩
    have HF2 := Lib.hid (HF1.out.trans hE2)
    clear hE2
    have HRR : Hid (stepL ⟨1, id, arg, extra, draw⟩ = s1) := Lib.hid (by rw [HR.out, HQ1.out.1, HQ1.out.2.1, HQ1.out.2.2])
    go_wp2_with fail
    go_ret
    exact ⟨by rw [HRR.out] <;> rfl, HE.out.trans HF2.out⟩
  · skip
    have e1 : offs 2 = [1] := rfl
    have e2 : drw 2 = true := rfl
    have HB0 : Hid (Blk (w.alloc (.cells #[.int .u8 2, .int .i64 id, .int .i64 arg, .int .i64 extra, .int .u64 draw] 115)) w.heap.size 115 [.int .u8 2, .int .i64 id, .int .i64 arg, .int .i64 extra, .int .u64 draw]) := Lib.hid (Blk.new rfl)
    obtain ⟨W, hW⟩ : ∃ W, W = w.alloc (.cells #[.int .u8 2, .int .i64 id, .int .i64 arg, .int .i64 extra, .int .u64 draw] 115) := ⟨_, rfl⟩
    have HB : Hid (Blk W w.heap.size 115 [.int .u8 2, .int .i64 id, .int .i64 arg, .int .i64 extra, .int .u64 draw]) := Lib.hid (by rw [hW]; exact HB0.out)
    have HE : Hid (Ext w W) := Lib.hid (by rw [hW]; exact Ext.alloc _ _)
    have HF0 : Hid (Ext W W) := Lib.hid (Ext.refl _)
    obtain ⟨s0, hs0⟩ : ∃ s, nameL 2 = s := ⟨_, rfl⟩
    have HS0 : Hid (s0.length ≤ 10) := Lib.hid (by rw [← hs0]; exact name_len 2)
    have HR : Hid (stepL ⟨2, id, arg, extra, draw⟩ = s0 ++ [32] ++ Lib.itoa id ++ [32] ++ Lib.decDigits draw) := Lib.hid (by unfold stepL lineL; dsimp only; rw [e1, e2, hs0]; simp [PStep.fld])
    have HNM := Lib.hid hs0
    clear hs0 e1 e2 HB0
    go_enter Tryd.func111, Tryd.ntmps111
    go_wp2_with fail
    rw [← hW]
    clear hW
    refine (ref_has 2 (by decide) _).mono ?_
    rw [show hId 2 = true from rfl, show hArg 2 = false from rfl, show hExt 2 = false from rfl, show hDraw 2 = true from rfl]
    rintro e wh ⟨rfl, hw⟩
    rw [hw]
    clear hw
    have hc0 : W.cell? ⟨w.heap.size, 0, none⟩ = some (.int .u8 2) := HB.out.cell 0
    go_wp2_with fail
    clear hc0
    refine (ref_name 2 (by decide) _).mono ?_
    rw [show nameL ((2 : Nat) : Int) = s0 from HNM.out]
    rintro e w1 ⟨rfl, hE1⟩
    have HF1 := Lib.hid hE1
    clear hE1 HF0
    have hc1 : w1.cell? ⟨w.heap.size, 1, none⟩ = some (.int .i64 id) := (HB.out.ext HF1.out).cell 1
    obtain ⟨c1, hcc1⟩ : ∃ c, Lib.itoa id = c := ⟨_, rfl⟩
    have HC1 : Hid (c1.length ≤ 21) := Lib.hid (by rw [← hcc1]; exact itoa_small H_id.out)
    obtain ⟨p1, hp1⟩ : ∃ p, s0 ++ [32] = p := ⟨_, rfl⟩
    have HP1 : Hid (p1.length ≤ 11) := Lib.hid (by rw [← hp1, List.length_append]; have := HS0.out; simp only [List.length_cons, List.length_nil]; omega)
    obtain ⟨s1, hs1⟩ : ∃ s, p1 ++ c1 = s := ⟨_, rfl⟩
    have HS1 : Hid (s1.length ≤ 32) := Lib.hid (by rw [← hs1, List.length_append]; have := HP1.out; have := HC1.out; omega)
    have a1 : ∀ W, (Op.stringOp .add ⟨s0.toArray⟩ ⟨#[32]⟩).run Tryd.prog W = .ok (.string ⟨p1.toArray⟩) W := fun W => by rw [run_string_add_lists W s0 [32] (by have := HS0.out; omega) (by simp), hp1]
    have b1 : ∀ W, (Op.stringOp .add ⟨p1.toArray⟩ ⟨c1.toArray⟩).run Tryd.prog W = .ok (.string ⟨s1.toArray⟩) W := fun W => by rw [run_string_add_lists W p1 c1 (by have := HP1.out; omega) (by have := HC1.out; omega), hs1]
    have HQ1 : Hid (Lib.itoa id = c1 ∧ s0 ++ [32] = p1 ∧ p1 ++ c1 = s1) := Lib.hid ⟨hcc1, hp1, hs1⟩
    clear hcc1 hp1 hs1
    go_wp2_with fail
    clear hc1
    refine (ref_Whole id H_id.out _).mono ?_
    rw [HQ1.out.1]
    rintro e w2 ⟨rfl, hE2⟩
    have HF2 := Lib.hid (HF1.out.trans hE2)
    clear hE2
    have hc2 : w2.cell? ⟨w.heap.size, 4, none⟩ = some (.int .u64 draw) := (HB.out.ext HF2.out).cell 4
    obtain ⟨c2, hcc2⟩ : ∃ c, Lib.decDigits draw = c := ⟨_, rfl⟩
    have HC2 : Hid (c2.length ≤ 21) := Lib.hid (by rw [← hcc2, Lib.decDigits_length]; have := Lib.nDigits_le20 draw HD.out; omega)
    obtain ⟨p2, hp2⟩ : ∃ p, s1 ++ [32] = p := ⟨_, rfl⟩
    have HP2 : Hid (p2.length ≤ 33) := Lib.hid (by rw [← hp2, List.length_append]; have := HS1.out; simp only [List.length_cons, List.length_nil]; omega)
    obtain ⟨s2, hs2⟩ : ∃ s, p2 ++ c2 = s := ⟨_, rfl⟩
    have HS2 : Hid (s2.length ≤ 54) := Lib.hid (by rw [← hs2, List.length_append]; have := HP2.out; have := HC2.out; omega)
    have a2 : ∀ W, (Op.stringOp .add ⟨s1.toArray⟩ ⟨#[32]⟩).run Tryd.prog W = .ok (.string ⟨p2.toArray⟩) W := fun W => by rw [run_string_add_lists W s1 [32] (by have := HS1.out; omega) (by simp), hp2]
    have b2 : ∀ W, (Op.stringOp .add ⟨p2.toArray⟩ ⟨c2.toArray⟩).run Tryd.prog W = .ok (.string ⟨s2.toArray⟩) W := fun W => by rw [run_string_add_lists W p2 c2 (by have := HP2.out; omega) (by have := HC2.out; omega), hs2]
    have HQ2 : Hid (Lib.decDigits draw = c2 ∧ s1 ++ [32] = p2 ∧ p2 ++ c2 = s2) := Lib.hid ⟨hcc2, hp2, hs2⟩
    clear hcc2 hp2 hs2
    go_wp2_with fail
    clear hc2
    refine (ref_Natural draw HD.out _).mono ?_
    rw [HQ2.out.1]
    rintro e w3 ⟨rfl, hE3⟩
    have HF3 := Lib.hid (HF2.out.trans hE3)
    clear hE3
    have HRR : Hid (stepL ⟨2, id, arg, extra, draw⟩ = s2) := Lib.hid (by rw [HR.out, HQ1.out.1, HQ1.out.2.1, HQ1.out.2.2, HQ2.out.1, HQ2.out.2.1, HQ2.out.2.2])
    go_wp2_with fail
    go_ret
    exact ⟨by rw [HRR.out] <;> rfl, HE.out.trans HF3.out⟩
  · skip
    have e1 : offs 3 = [1] := rfl
    have e2 : drw 3 = true := rfl
    have HB0 : Hid (Blk (w.alloc (.cells #[.int .u8 3, .int .i64 id, .int .i64 arg, .int .i64 extra, .int .u64 draw] 115)) w.heap.size 115 [.int .u8 3, .int .i64 id, .int .i64 arg, .int .i64 extra, .int .u64 draw]) := Lib.hid (Blk.new rfl)
    obtain ⟨W, hW⟩ : ∃ W, W = w.alloc (.cells #[.int .u8 3, .int .i64 id, .int .i64 arg, .int .i64 extra, .int .u64 draw] 115) := ⟨_, rfl⟩
    have HB : Hid (Blk W w.heap.size 115 [.int .u8 3, .int .i64 id, .int .i64 arg, .int .i64 extra, .int .u64 draw]) := Lib.hid (by rw [hW]; exact HB0.out)
    have HE : Hid (Ext w W) := Lib.hid (by rw [hW]; exact Ext.alloc _ _)
    have HF0 : Hid (Ext W W) := Lib.hid (Ext.refl _)
    obtain ⟨s0, hs0⟩ : ∃ s, nameL 3 = s := ⟨_, rfl⟩
    have HS0 : Hid (s0.length ≤ 10) := Lib.hid (by rw [← hs0]; exact name_len 3)
    have HR : Hid (stepL ⟨3, id, arg, extra, draw⟩ = s0 ++ [32] ++ Lib.itoa id ++ [32] ++ Lib.decDigits draw) := Lib.hid (by unfold stepL lineL; dsimp only; rw [e1, e2, hs0]; simp [PStep.fld])
    have HNM := Lib.hid hs0
    clear hs0 e1 e2 HB0
    go_enter Tryd.func111, Tryd.ntmps111
    go_wp2_with fail
    rw [← hW]
    clear hW
    refine (ref_has 3 (by decide) _).mono ?_
    rw [show hId 3 = true from rfl, show hArg 3 = false from rfl, show hExt 3 = false from rfl, show hDraw 3 = true from rfl]
    rintro e wh ⟨rfl, hw⟩
    rw [hw]
    clear hw
    have hc0 : W.cell? ⟨w.heap.size, 0, none⟩ = some (.int .u8 3) := HB.out.cell 0
    go_wp2_with fail
    clear hc0
    refine (ref_name 3 (by decide) _).mono ?_
    rw [show nameL ((3 : Nat) : Int) = s0 from HNM.out]
    rintro e w1 ⟨rfl, hE1⟩
    have HF1 := Lib.hid hE1
    clear hE1 HF0
    have hc1 : w1.cell? ⟨w.heap.size, 1, none⟩ = some (.int .i64 id) := (HB.out.ext HF1.out).cell 1
    obtain ⟨c1, hcc1⟩ : ∃ c, Lib.itoa id = c := ⟨_, rfl⟩
    have HC1 : Hid (c1.length ≤ 21) := Lib.hid (by rw [← hcc1]; exact itoa_small H_id.out)
    obtain ⟨p1, hp1⟩ : ∃ p, s0 ++ [32] = p := ⟨_, rfl⟩
    have HP1 : Hid (p1.length ≤ 11) := Lib.hid (by rw [← hp1, List.length_append]; have := HS0.out; simp only [List.length_cons, List.length_nil]; omega)
    obtain ⟨s1, hs1⟩ : ∃ s, p1 ++ c1 = s := ⟨_, rfl⟩
    have HS1 : Hid (s1.length ≤ 32) := Lib.hid (by rw [← hs1, List.length_append]; have := HP1.out; have := HC1.out; omega)
    have a1 : ∀ W, (Op.stringOp .add ⟨s0.toArray⟩ ⟨#[32]⟩).run Tryd.prog W = .ok (.string ⟨p1.toArray⟩) W := fun W => by rw [run_string_add_lists W s0 [32] (by have := HS0.out; omega) (by simp), hp1]
    have b1 : ∀ W, (Op.stringOp .add ⟨p1.toArray⟩ ⟨c1.toArray⟩).run Tryd.prog W = .ok (.string ⟨s1.toArray⟩) W := fun W => by rw [run_string_add_lists W p1 c1 (by have := HP1.out; omega) (by have := HC1.out; omega), hs1]
    have HQ1 : Hid (Lib.itoa id = c1 ∧ s0 ++ [32] = p1 ∧ p1 ++ c1 = s1) := Lib.hid ⟨hcc1, hp1, hs1⟩
    clear hcc1 hp1 hs1
    go_wp2_with fail
    clear hc1
    refine (ref_Whole id H_id.out _).mono ?_
    rw [HQ1.out.1]
    rintro e w2 ⟨rfl, hE2⟩
    have HF2 := Lib.hid (HF1.out.trans hE2)
    clear hE2
    have hc2 : w2.cell? ⟨w.heap.size, 4, none⟩ = some (.int .u64 draw) := (HB.out.ext HF2.out).cell 4
    obtain ⟨c2, hcc2⟩ : ∃ c, Lib.decDigits draw = c := ⟨_, rfl⟩
    have HC2 : Hid (c2.length ≤ 21) := Lib.hid (by rw [← hcc2, Lib.decDigits_length]; have := Lib.nDigits_le20 draw HD.out; omega)
    obtain ⟨p2, hp2⟩ : ∃ p, s1 ++ [32] = p := ⟨_, rfl⟩
    have HP2 : Hid (p2.length ≤ 33) := Lib.hid (by rw [← hp2, List.length_append]; have := HS1.out; simp only [List.length_cons, List.length_nil]; omega)
    obtain ⟨s2, hs2⟩ : ∃ s, p2 ++ c2 = s := ⟨_, rfl⟩
    have HS2 : Hid (s2.length ≤ 54) := Lib.hid (by rw [← hs2, List.length_append]; have := HP2.out; have := HC2.out; omega)
    have a2 : ∀ W, (Op.stringOp .add ⟨s1.toArray⟩ ⟨#[32]⟩).run Tryd.prog W = .ok (.string ⟨p2.toArray⟩) W := fun W => by rw [run_string_add_lists W s1 [32] (by have := HS1.out; omega) (by simp), hp2]
    have b2 : ∀ W, (Op.stringOp .add ⟨p2.toArray⟩ ⟨c2.toArray⟩).run Tryd.prog W = .ok (.string ⟨s2.toArray⟩) W := fun W => by rw [run_string_add_lists W p2 c2 (by have := HP2.out; omega) (by have := HC2.out; omega), hs2]
    have HQ2 : Hid (Lib.decDigits draw = c2 ∧ s1 ++ [32] = p2 ∧ p2 ++ c2 = s2) := Lib.hid ⟨hcc2, hp2, hs2⟩
    clear hcc2 hp2 hs2
    go_wp2_with fail
    clear hc2
    refine (ref_Natural draw HD.out _).mono ?_
    rw [HQ2.out.1]
    rintro e w3 ⟨rfl, hE3⟩
    have HF3 := Lib.hid (HF2.out.trans hE3)
    clear hE3
    have HRR : Hid (stepL ⟨3, id, arg, extra, draw⟩ = s2) := Lib.hid (by rw [HR.out, HQ1.out.1, HQ1.out.2.1, HQ1.out.2.2, HQ2.out.1, HQ2.out.2.1, HQ2.out.2.2])
    go_wp2_with fail
    go_ret
    exact ⟨by rw [HRR.out] <;> rfl, HE.out.trans HF3.out⟩
  · skip
    have e1 : offs 4 = [1] := rfl
    have e2 : drw 4 = true := rfl
    have HB0 : Hid (Blk (w.alloc (.cells #[.int .u8 4, .int .i64 id, .int .i64 arg, .int .i64 extra, .int .u64 draw] 115)) w.heap.size 115 [.int .u8 4, .int .i64 id, .int .i64 arg, .int .i64 extra, .int .u64 draw]) := Lib.hid (Blk.new rfl)
    obtain ⟨W, hW⟩ : ∃ W, W = w.alloc (.cells #[.int .u8 4, .int .i64 id, .int .i64 arg, .int .i64 extra, .int .u64 draw] 115) := ⟨_, rfl⟩
    have HB : Hid (Blk W w.heap.size 115 [.int .u8 4, .int .i64 id, .int .i64 arg, .int .i64 extra, .int .u64 draw]) := Lib.hid (by rw [hW]; exact HB0.out)
    have HE : Hid (Ext w W) := Lib.hid (by rw [hW]; exact Ext.alloc _ _)
    have HF0 : Hid (Ext W W) := Lib.hid (Ext.refl _)
    obtain ⟨s0, hs0⟩ : ∃ s, nameL 4 = s := ⟨_, rfl⟩
    have HS0 : Hid (s0.length ≤ 10) := Lib.hid (by rw [← hs0]; exact name_len 4)
    have HR : Hid (stepL ⟨4, id, arg, extra, draw⟩ = s0 ++ [32] ++ Lib.itoa id ++ [32] ++ Lib.decDigits draw) := Lib.hid (by unfold stepL lineL; dsimp only; rw [e1, e2, hs0]; simp [PStep.fld])
    have HNM := Lib.hid hs0
    clear hs0 e1 e2 HB0
    go_enter Tryd.func111, Tryd.ntmps111
    go_wp2_with fail
    rw [← hW]
    clear hW
    refine (ref_has 4 (by decide) _).mono ?_
    rw [show hId 4 = true from rfl, show hArg 4 = false from rfl, show hExt 4 = false from rfl, show hDraw 4 = true from rfl]
    rintro e wh ⟨rfl, hw⟩
    rw [hw]
    clear hw
    have hc0 : W.cell? ⟨w.heap.size, 0, none⟩ = some (.int .u8 4) := HB.out.cell 0
    go_wp2_with fail
    clear hc0
    refine (ref_name 4 (by decide) _).mono ?_
    rw [show nameL ((4 : Nat) : Int) = s0 from HNM.out]
    rintro e w1 ⟨rfl, hE1⟩
    have HF1 := Lib.hid hE1
    clear hE1 HF0
    have hc1 : w1.cell? ⟨w.heap.size, 1, none⟩ = some (.int .i64 id) := (HB.out.ext HF1.out).cell 1
    obtain ⟨c1, hcc1⟩ : ∃ c, Lib.itoa id = c := ⟨_, rfl⟩
    have HC1 : Hid (c1.length ≤ 21) := Lib.hid (by rw [← hcc1]; exact itoa_small H_id.out)
    obtain ⟨p1, hp1⟩ : ∃ p, s0 ++ [32] = p := ⟨_, rfl⟩
    have HP1 : Hid (p1.length ≤ 11) := Lib.hid (by rw [← hp1, List.length_append]; have := HS0.out; simp only [List.length_cons, List.length_nil]; omega)
    obtain ⟨s1, hs1⟩ : ∃ s, p1 ++ c1 = s := ⟨_, rfl⟩
    have HS1 : Hid (s1.length ≤ 32) := Lib.hid (by rw [← hs1, List.length_append]; have := HP1.out; have := HC1.out; omega)
    have a1 : ∀ W, (Op.stringOp .add ⟨s0.toArray⟩ ⟨#[32]⟩).run Tryd.prog W = .ok (.string ⟨p1.toArray⟩) W := fun W => by rw [run_string_add_lists W s0 [32] (by have := HS0.out; omega) (by simp), hp1]
    have b1 : ∀ W, (Op.stringOp .add ⟨p1.toArray⟩ ⟨c1.toArray⟩).run Tryd.prog W = .ok (.string ⟨s1.toArray⟩) W := fun W => by rw [run_string_add_lists W p1 c1 (by have := HP1.out; omega) (by have := HC1.out; omega), hs1]
    have HQ1 : Hid (Lib.itoa id = c1 ∧ s0 ++ [32] = p1 ∧ p1 ++ c1 = s1) := Lib.hid ⟨hcc1, hp1, hs1⟩
    clear hcc1 hp1 hs1
    go_wp2_with fail
    clear hc1
    refine (ref_Whole id H_id.out _).mono ?_
    rw [HQ1.out.1]
    rintro e w2 ⟨rfl, hE2⟩
    have HF2 := Lib.hid (HF1.out.trans hE2)
    clear hE2
    have hc2 : w2.cell? ⟨w.heap.size, 4, none⟩ = some (.int .u64 draw) := (HB.out.ext HF2.out).cell 4
    obtain ⟨c2, hcc2⟩ : ∃ c, Lib.decDigits draw = c := ⟨_, rfl⟩
    have HC2 : Hid (c2.length ≤ 21) := Lib.hid (by rw [← hcc2, Lib.decDigits_length]; have := Lib.nDigits_le20 draw HD.out; omega)
    obtain ⟨p2, hp2⟩ : ∃ p, s1 ++ [32] = p := ⟨_, rfl⟩
    have HP2 : Hid (p2.length ≤ 33) := Lib.hid (by rw [← hp2, List.length_append]; have := HS1.out; simp only [List.length_cons, List.length_nil]; omega)
    obtain ⟨s2, hs2⟩ : ∃ s, p2 ++ c2 = s := ⟨_, rfl⟩
    have HS2 : Hid (s2.length ≤ 54) := Lib.hid (by rw [← hs2, List.length_append]; have := HP2.out; have := HC2.out; omega)
    have a2 : ∀ W, (Op.stringOp .add ⟨s1.toArray⟩ ⟨#[32]⟩).run Tryd.prog W = .ok (.string ⟨p2.toArray⟩) W := fun W => by rw [run_string_add_lists W s1 [32] (by have := HS1.out; omega) (by simp), hp2]
    have b2 : ∀ W, (Op.stringOp .add ⟨p2.toArray⟩ ⟨c2.toArray⟩).run Tryd.prog W = .ok (.string ⟨s2.toArray⟩) W := fun W => by rw [run_string_add_lists W p2 c2 (by have := HP2.out; omega) (by have := HC2.out; omega), hs2]
    have HQ2 : Hid (Lib.decDigits draw = c2 ∧ s1 ++ [32] = p2 ∧ p2 ++ c2 = s2) := Lib.hid ⟨hcc2, hp2, hs2⟩
    clear hcc2 hp2 hs2
    go_wp2_with fail
    clear hc2
    refine (ref_Natural draw HD.out _).mono ?_
    rw [HQ2.out.1]
    rintro e w3 ⟨rfl, hE3⟩
    have HF3 := Lib.hid (HF2.out.trans hE3)
    clear hE3
    have HRR : Hid (stepL ⟨4, id, arg, extra, draw⟩ = s2) := Lib.hid (by rw [HR.out, HQ1.out.1, HQ1.out.2.1, HQ1.out.2.2, HQ2.out.1, HQ2.out.2.1, HQ2.out.2.2])
    go_wp2_with fail
    go_ret
    exact ⟨by rw [HRR.out] <;> rfl, HE.out.trans HF3.out⟩
  · skip
    have e1 : offs 5 = [1] := rfl
    have e2 : drw 5 = true := rfl
    have HB0 : Hid (Blk (w.alloc (.cells #[.int .u8 5, .int .i64 id, .int .i64 arg, .int .i64 extra, .int .u64 draw] 115)) w.heap.size 115 [.int .u8 5, .int .i64 id, .int .i64 arg, .int .i64 extra, .int .u64 draw]) := Lib.hid (Blk.new rfl)
    obtain ⟨W, hW⟩ : ∃ W, W = w.alloc (.cells #[.int .u8 5, .int .i64 id, .int .i64 arg, .int .i64 extra, .int .u64 draw] 115) := ⟨_, rfl⟩
    have HB : Hid (Blk W w.heap.size 115 [.int .u8 5, .int .i64 id, .int .i64 arg, .int .i64 extra, .int .u64 draw]) := Lib.hid (by rw [hW]; exact HB0.out)
    have HE : Hid (Ext w W) := Lib.hid (by rw [hW]; exact Ext.alloc _ _)
    have HF0 : Hid (Ext W W) := Lib.hid (Ext.refl _)
    obtain ⟨s0, hs0⟩ : ∃ s, nameL 5 = s := ⟨_, rfl⟩
    have HS0 : Hid (s0.length ≤ 10) := Lib.hid (by rw [← hs0]; exact name_len 5)
    have HR : Hid (stepL ⟨5, id, arg, extra, draw⟩ = s0 ++ [32] ++ Lib.itoa id ++ [32] ++ Lib.decDigits draw) := Lib.hid (by unfold stepL lineL; dsimp only; rw [e1, e2, hs0]; simp [PStep.fld])
    have HNM := Lib.hid hs0
    clear hs0 e1 e2 HB0
    go_enter Tryd.func111, Tryd.ntmps111
    go_wp2_with fail
    rw [← hW]
    clear hW
    refine (ref_has 5 (by decide) _).mono ?_
    rw [show hId 5 = true from rfl, show hArg 5 = false from rfl, show hExt 5 = false from rfl, show hDraw 5 = true from rfl]
    rintro e wh ⟨rfl, hw⟩
    rw [hw]
    clear hw
    have hc0 : W.cell? ⟨w.heap.size, 0, none⟩ = some (.int .u8 5) := HB.out.cell 0
    go_wp2_with fail
    clear hc0
    refine (ref_name 5 (by decide) _).mono ?_
    rw [show nameL ((5 : Nat) : Int) = s0 from HNM.out]
    rintro e w1 ⟨rfl, hE1⟩
    have HF1 := Lib.hid hE1
    clear hE1 HF0
    have hc1 : w1.cell? ⟨w.heap.size, 1, none⟩ = some (.int .i64 id) := (HB.out.ext HF1.out).cell 1
    obtain ⟨c1, hcc1⟩ : ∃ c, Lib.itoa id = c := ⟨_, rfl⟩
    have HC1 : Hid (c1.length ≤ 21) := Lib.hid (by rw [← hcc1]; exact itoa_small H_id.out)
    obtain ⟨p1, hp1⟩ : ∃ p, s0 ++ [32] = p := ⟨_, rfl⟩
    have HP1 : Hid (p1.length ≤ 11) := Lib.hid (by rw [← hp1, List.length_append]; have := HS0.out; simp only [List.length_cons, List.length_nil]; omega)
    obtain ⟨s1, hs1⟩ : ∃ s, p1 ++ c1 = s := ⟨_, rfl⟩
    have HS1 : Hid (s1.length ≤ 32) := Lib.hid (by rw [← hs1, List.length_append]; have := HP1.out; have := HC1.out; omega)
    have a1 : ∀ W, (Op.stringOp .add ⟨s0.toArray⟩ ⟨#[32]⟩).run Tryd.prog W = .ok (.string ⟨p1.toArray⟩) W := fun W => by rw [run_string_add_lists W s0 [32] (by have := HS0.out; omega) (by simp), hp1]
    have b1 : ∀ W, (Op.stringOp .add ⟨p1.toArray⟩ ⟨c1.toArray⟩).run Tryd.prog W = .ok (.string ⟨s1.toArray⟩) W := fun W => by rw [run_string_add_lists W p1 c1 (by have := HP1.out; omega) (by have := HC1.out; omega), hs1]
    have HQ1 : Hid (Lib.itoa id = c1 ∧ s0 ++ [32] = p1 ∧ p1 ++ c1 = s1) := Lib.hid ⟨hcc1, hp1, hs1⟩
    clear hcc1 hp1 hs1
    go_wp2_with fail
    clear hc1
    refine (ref_Whole id H_id.out _).mono ?_
    rw [HQ1.out.1]
    rintro e w2 ⟨rfl, hE2⟩
    have HF2 := Lib.hid (HF1.out.trans hE2)
    clear hE2
    have hc2 : w2.cell? ⟨w.heap.size, 4, none⟩ = some (.int .u64 draw) := (HB.out.ext HF2.out).cell 4
    obtain ⟨c2, hcc2⟩ : ∃ c, Lib.decDigits draw = c := ⟨_, rfl⟩
    have HC2 : Hid (c2.length ≤ 21) := Lib.hid (by rw [← hcc2, Lib.decDigits_length]; have := Lib.nDigits_le20 draw HD.out; omega)
    obtain ⟨p2, hp2⟩ : ∃ p, s1 ++ [32] = p := ⟨_, rfl⟩
    have HP2 : Hid (p2.length ≤ 33) := Lib.hid (by rw [← hp2, List.length_append]; have := HS1.out; simp only [List.length_cons, List.length_nil]; omega)
    obtain ⟨s2, hs2⟩ : ∃ s, p2 ++ c2 = s := ⟨_, rfl⟩
    have HS2 : Hid (s2.length ≤ 54) := Lib.hid (by rw [← hs2, List.length_append]; have := HP2.out; have := HC2.out; omega)
    have a2 : ∀ W, (Op.stringOp .add ⟨s1.toArray⟩ ⟨#[32]⟩).run Tryd.prog W = .ok (.string ⟨p2.toArray⟩) W := fun W => by rw [run_string_add_lists W s1 [32] (by have := HS1.out; omega) (by simp), hp2]
    have b2 : ∀ W, (Op.stringOp .add ⟨p2.toArray⟩ ⟨c2.toArray⟩).run Tryd.prog W = .ok (.string ⟨s2.toArray⟩) W := fun W => by rw [run_string_add_lists W p2 c2 (by have := HP2.out; omega) (by have := HC2.out; omega), hs2]
    have HQ2 : Hid (Lib.decDigits draw = c2 ∧ s1 ++ [32] = p2 ∧ p2 ++ c2 = s2) := Lib.hid ⟨hcc2, hp2, hs2⟩
    clear hcc2 hp2 hs2
    go_wp2_with fail
    clear hc2
    refine (ref_Natural draw HD.out _).mono ?_
    rw [HQ2.out.1]
    rintro e w3 ⟨rfl, hE3⟩
    have HF3 := Lib.hid (HF2.out.trans hE3)
    clear hE3
    have HRR : Hid (stepL ⟨5, id, arg, extra, draw⟩ = s2) := Lib.hid (by rw [HR.out, HQ1.out.1, HQ1.out.2.1, HQ1.out.2.2, HQ2.out.1, HQ2.out.2.1, HQ2.out.2.2])
    go_wp2_with fail
    go_ret
    exact ⟨by rw [HRR.out] <;> rfl, HE.out.trans HF3.out⟩
  · skip
    have e1 : offs 6 = [2] := rfl
    have e2 : drw 6 = false := rfl
    have HB0 : Hid (Blk (w.alloc (.cells #[.int .u8 6, .int .i64 id, .int .i64 arg, .int .i64 extra, .int .u64 draw] 115)) w.heap.size 115 [.int .u8 6, .int .i64 id, .int .i64 arg, .int .i64 extra, .int .u64 draw]) := Lib.hid (Blk.new rfl)
    obtain ⟨W, hW⟩ : ∃ W, W = w.alloc (.cells #[.int .u8 6, .int .i64 id, .int .i64 arg, .int .i64 extra, .int .u64 draw] 115) := ⟨_, rfl⟩
    have HB : Hid (Blk W w.heap.size 115 [.int .u8 6, .int .i64 id, .int .i64 arg, .int .i64 extra, .int .u64 draw]) := Lib.hid (by rw [hW]; exact HB0.out)
    have HE : Hid (Ext w W) := Lib.hid (by rw [hW]; exact Ext.alloc _ _)
    have HF0 : Hid (Ext W W) := Lib.hid (Ext.refl _)
    obtain ⟨s0, hs0⟩ : ∃ s, nameL 6 = s := ⟨_, rfl⟩
    have HS0 : Hid (s0.length ≤ 10) := Lib.hid (by rw [← hs0]; exact name_len 6)
    have HR : Hid (stepL ⟨6, id, arg, extra, draw⟩ = s0 ++ [32] ++ Lib.itoa arg) := Lib.hid (by unfold stepL lineL; dsimp only; rw [e1, e2, hs0]; simp [PStep.fld])
    have HNM := Lib.hid hs0
    clear hs0 e1 e2 HB0
    go_enter Tryd.func111, Tryd.ntmps111
    go_wp2_with fail
    rw [← hW]
    clear hW
    refine (ref_has 6 (by decide) _).mono ?_
    rw [show hId 6 = false from rfl, show hArg 6 = true from rfl, show hExt 6 = false from rfl, show hDraw 6 = false from rfl]
    rintro e wh ⟨rfl, hw⟩
    rw [hw]
    clear hw
    have hc0 : W.cell? ⟨w.heap.size, 0, none⟩ = some (.int .u8 6) := HB.out.cell 0
    go_wp2_with fail
    clear hc0
    refine (ref_name 6 (by decide) _).mono ?_
    rw [show nameL ((6 : Nat) : Int) = s0 from HNM.out]
    rintro e w1 ⟨rfl, hE1⟩
    have HF1 := Lib.hid hE1
    clear hE1 HF0
    have hc1 : w1.cell? ⟨w.heap.size, 2, none⟩ = some (.int .i64 arg) := (HB.out.ext HF1.out).cell 2
    obtain ⟨c1, hcc1⟩ : ∃ c, Lib.itoa arg = c := ⟨_, rfl⟩
    have HC1 : Hid (c1.length ≤ 21) := Lib.hid (by rw [← hcc1]; exact itoa_small H_arg.out)
    obtain ⟨p1, hp1⟩ : ∃ p, s0 ++ [32] = p := ⟨_, rfl⟩
    have HP1 : Hid (p1.length ≤ 11) := Lib.hid (by rw [← hp1, List.length_append]; have := HS0.out; simp only [List.length_cons, List.length_nil]; omega)
    obtain ⟨s1, hs1⟩ : ∃ s, p1 ++ c1 = s := ⟨_, rfl⟩
    have HS1 : Hid (s1.length ≤ 32) := Lib.hid (by rw [← hs1, List.length_append]; have := HP1.out; have := HC1.out; omega)
    have a1 : ∀ W, (Op.stringOp .add ⟨s0.toArray⟩ ⟨#[32]⟩).run Tryd.prog W = .ok (.string ⟨p1.toArray⟩) W := fun W => by rw [run_string_add_lists W s0 [32] (by have := HS0.out; omega) (by simp), hp1]
    have b1 : ∀ W, (Op.stringOp .add ⟨p1.toArray⟩ ⟨c1.toArray⟩).run Tryd.prog W = .ok (.string ⟨s1.toArray⟩) W := fun W => by rw [run_string_add_lists W p1 c1 (by have := HP1.out; omega) (by have := HC1.out; omega), hs1]
    have HQ1 : Hid (Lib.itoa arg = c1 ∧ s0 ++ [32] = p1 ∧ p1 ++ c1 = s1) := Lib.hid ⟨hcc1, hp1, hs1⟩
    clear hcc1 hp1 hs1
    go_wp2_with fail
    clear hc1
    refine (ref_Whole arg H_arg.out _).mono ?_
    rw [HQ1.out.1]
    rintro e w2 ⟨rfl, hE2⟩
    have HF2 := Lib.hid (HF1.out.trans hE2)
    clear hE2
    have HRR : Hid (stepL ⟨6, id, arg, extra, draw⟩ = s1) := Lib.hid (by rw [HR.out, HQ1.out.1, HQ1.out.2.1, HQ1.out.2.2])
    go_wp2_with fail
    go_ret
    exact ⟨by rw [HRR.out] <;> rfl, HE.out.trans HF2.out⟩
  · skip
    have e1 : offs 7 = [2] := rfl
    have e2 : drw 7 = false := rfl
    have HB0 : Hid (Blk (w.alloc (.cells #[.int .u8 7, .int .i64 id, .int .i64 arg, .int .i64 extra, .int .u64 draw] 115)) w.heap.size 115 [.int .u8 7, .int .i64 id, .int .i64 arg, .int .i64 extra, .int .u64 draw]) := Lib.hid (Blk.new rfl)
    obtain ⟨W, hW⟩ : ∃ W, W = w.alloc (.cells #[.int .u8 7, .int .i64 id, .int .i64 arg, .int .i64 extra, .int .u64 draw] 115) := ⟨_, rfl⟩
    have HB : Hid (Blk W w.heap.size 115 [.int .u8 7, .int .i64 id, .int .i64 arg, .int .i64 extra, .int .u64 draw]) := Lib.hid (by rw [hW]; exact HB0.out)
    have HE : Hid (Ext w W) := Lib.hid (by rw [hW]; exact Ext.alloc _ _)
    have HF0 : Hid (Ext W W) := Lib.hid (Ext.refl _)
    obtain ⟨s0, hs0⟩ : ∃ s, nameL 7 = s := ⟨_, rfl⟩
    have HS0 : Hid (s0.length ≤ 10) := Lib.hid (by rw [← hs0]; exact name_len 7)
    have HR : Hid (stepL ⟨7, id, arg, extra, draw⟩ = s0 ++ [32] ++ Lib.itoa arg) := Lib.hid (by unfold stepL lineL; dsimp only; rw [e1, e2, hs0]; simp [PStep.fld])
    have HNM := Lib.hid hs0
    clear hs0 e1 e2 HB0
    go_enter Tryd.func111, Tryd.ntmps111
    go_wp2_with fail
    rw [← hW]
    clear hW
    refine (ref_has 7 (by decide) _).mono ?_
    rw [show hId 7 = false from rfl, show hArg 7 = true from rfl, show hExt 7 = false from rfl, show hDraw 7 = false from rfl]
    rintro e wh ⟨rfl, hw⟩
    rw [hw]
    clear hw
    have hc0 : W.cell? ⟨w.heap.size, 0, none⟩ = some (.int .u8 7) := HB.out.cell 0
    go_wp2_with fail
    clear hc0
    refine (ref_name 7 (by decide) _).mono ?_
    rw [show nameL ((7 : Nat) : Int) = s0 from HNM.out]
    rintro e w1 ⟨rfl, hE1⟩
    have HF1 := Lib.hid hE1
    clear hE1 HF0
    have hc1 : w1.cell? ⟨w.heap.size, 2, none⟩ = some (.int .i64 arg) := (HB.out.ext HF1.out).cell 2
    obtain ⟨c1, hcc1⟩ : ∃ c, Lib.itoa arg = c := ⟨_, rfl⟩
    have HC1 : Hid (c1.length ≤ 21) := Lib.hid (by rw [← hcc1]; exact itoa_small H_arg.out)
    obtain ⟨p1, hp1⟩ : ∃ p, s0 ++ [32] = p := ⟨_, rfl⟩
    have HP1 : Hid (p1.length ≤ 11) := Lib.hid (by rw [← hp1, List.length_append]; have := HS0.out; simp only [List.length_cons, List.length_nil]; omega)
    obtain ⟨s1, hs1⟩ : ∃ s, p1 ++ c1 = s := ⟨_, rfl⟩
    have HS1 : Hid (s1.length ≤ 32) := Lib.hid (by rw [← hs1, List.length_append]; have := HP1.out; have := HC1.out; omega)
    have a1 : ∀ W, (Op.stringOp .add ⟨s0.toArray⟩ ⟨#[32]⟩).run Tryd.prog W = .ok (.string ⟨p1.toArray⟩) W := fun W => by rw [run_string_add_lists W s0 [32] (by have := HS0.out; omega) (by simp), hp1]
    have b1 : ∀ W, (Op.stringOp .add ⟨p1.toArray⟩ ⟨c1.toArray⟩).run Tryd.prog W = .ok (.string ⟨s1.toArray⟩) W := fun W => by rw [run_string_add_lists W p1 c1 (by have := HP1.out; omega) (by have := HC1.out; omega), hs1]
    have HQ1 : Hid (Lib.itoa arg = c1 ∧ s0 ++ [32] = p1 ∧ p1 ++ c1 = s1) := Lib.hid ⟨hcc1, hp1, hs1⟩
    clear hcc1 hp1 hs1
    go_wp2_with fail
    clear hc1
    refine (ref_Whole arg H_arg.out _).mono ?_
    rw [HQ1.out.1]
    rintro e w2 ⟨rfl, hE2⟩
    have HF2 := Lib.hid (HF1.out.trans hE2)
    clear hE2
    have HRR : Hid (stepL ⟨7, id, arg, extra, draw⟩ = s1) := Lib.hid (by rw [HR.out, HQ1.out.1, HQ1.out.2.1, HQ1.out.2.2])
    go_wp2_with fail
    go_ret
    exact ⟨by rw [HRR.out] <;> rfl, HE.out.trans HF2.out⟩
  · skip
    have e1 : offs 8 = [2] := rfl
    have e2 : drw 8 = false := rfl
    have HB0 : Hid (Blk (w.alloc (.cells #[.int .u8 8, .int .i64 id, .int .i64 arg, .int .i64 extra, .int .u64 draw] 115)) w.heap.size 115 [.int .u8 8, .int .i64 id, .int .i64 arg, .int .i64 extra, .int .u64 draw]) := Lib.hid (Blk.new rfl)
    obtain ⟨W, hW⟩ : ∃ W, W = w.alloc (.cells #[.int .u8 8, .int .i64 id, .int .i64 arg, .int .i64 extra, .int .u64 draw] 115) := ⟨_, rfl⟩
    have HB : Hid (Blk W w.heap.size 115 [.int .u8 8, .int .i64 id, .int .i64 arg, .int .i64 extra, .int .u64 draw]) := Lib.hid (by rw [hW]; exact HB0.out)
    have HE : Hid (Ext w W) := Lib.hid (by rw [hW]; exact Ext.alloc _ _)
    have HF0 : Hid (Ext W W) := Lib.hid (Ext.refl _)
    obtain ⟨s0, hs0⟩ : ∃ s, nameL 8 = s := ⟨_, rfl⟩
    have HS0 : Hid (s0.length ≤ 10) := Lib.hid (by rw [← hs0]; exact name_len 8)
    have HR : Hid (stepL ⟨8, id, arg, extra, draw⟩ = s0 ++ [32] ++ Lib.itoa arg) := Lib.hid (by unfold stepL lineL; dsimp only; rw [e1, e2, hs0]; simp [PStep.fld])
    have HNM := Lib.hid hs0
    clear hs0 e1 e2 HB0
    go_enter Tryd.func111, Tryd.ntmps111
    go_wp2_with fail
    rw [← hW]
    clear hW
    refine (ref_has 8 (by decide) _).mono ?_
    rw [show hId 8 = false from rfl, show hArg 8 = true from rfl, show hExt 8 = false from rfl, show hDraw 8 = false from rfl]
    rintro e wh ⟨rfl, hw⟩
    rw [hw]
    clear hw
    have hc0 : W.cell? ⟨w.heap.size, 0, none⟩ = some (.int .u8 8) := HB.out.cell 0
    go_wp2_with fail
    clear hc0
    refine (ref_name 8 (by decide) _).mono ?_
    rw [show nameL ((8 : Nat) : Int) = s0 from HNM.out]
    rintro e w1 ⟨rfl, hE1⟩
    have HF1 := Lib.hid hE1
    clear hE1 HF0
    have hc1 : w1.cell? ⟨w.heap.size, 2, none⟩ = some (.int .i64 arg) := (HB.out.ext HF1.out).cell 2
    obtain ⟨c1, hcc1⟩ : ∃ c, Lib.itoa arg = c := ⟨_, rfl⟩
    have HC1 : Hid (c1.length ≤ 21) := Lib.hid (by rw [← hcc1]; exact itoa_small H_arg.out)
    obtain ⟨p1, hp1⟩ : ∃ p, s0 ++ [32] = p := ⟨_, rfl⟩
    have HP1 : Hid (p1.length ≤ 11) := Lib.hid (by rw [← hp1, List.length_append]; have := HS0.out; simp only [List.length_cons, List.length_nil]; omega)
    obtain ⟨s1, hs1⟩ : ∃ s, p1 ++ c1 = s := ⟨_, rfl⟩
    have HS1 : Hid (s1.length ≤ 32) := Lib.hid (by rw [← hs1, List.length_append]; have := HP1.out; have := HC1.out; omega)
    have a1 : ∀ W, (Op.stringOp .add ⟨s0.toArray⟩ ⟨#[32]⟩).run Tryd.prog W = .ok (.string ⟨p1.toArray⟩) W := fun W => by rw [run_string_add_lists W s0 [32] (by have := HS0.out; omega) (by simp), hp1]
    have b1 : ∀ W, (Op.stringOp .add ⟨p1.toArray⟩ ⟨c1.toArray⟩).run Tryd.prog W = .ok (.string ⟨s1.toArray⟩) W := fun W => by rw [run_string_add_lists W p1 c1 (by have := HP1.out; omega) (by have := HC1.out; omega), hs1]
    have HQ1 : Hid (Lib.itoa arg = c1 ∧ s0 ++ [32] = p1 ∧ p1 ++ c1 = s1) := Lib.hid ⟨hcc1, hp1, hs1⟩
    clear hcc1 hp1 hs1
    go_wp2_with fail
    clear hc1
    refine (ref_Whole arg H_arg.out _).mono ?_
    rw [HQ1.out.1]
    rintro e w2 ⟨rfl, hE2⟩
    have HF2 := Lib.hid (HF1.out.trans hE2)
    clear hE2
    have HRR : Hid (stepL ⟨8, id, arg, extra, draw⟩ = s1) := Lib.hid (by rw [HR.out, HQ1.out.1, HQ1.out.2.1, HQ1.out.2.2])
    go_wp2_with fail
    go_ret
    exact ⟨by rw [HRR.out] <;> rfl, HE.out.trans HF2.out⟩
  · skip
    have e1 : offs 9 = [2, 3] := rfl
    have e2 : drw 9 = true := rfl
    have HB0 : Hid (Blk (w.alloc (.cells #[.int .u8 9, .int .i64 id, .int .i64 arg, .int .i64 extra, .int .u64 draw] 115)) w.heap.size 115 [.int .u8 9, .int .i64 id, .int .i64 arg, .int .i64 extra, .int .u64 draw]) := Lib.hid (Blk.new rfl)
    obtain ⟨W, hW⟩ : ∃ W, W = w.alloc (.cells #[.int .u8 9, .int .i64 id, .int .i64 arg, .int .i64 extra, .int .u64 draw] 115) := ⟨_, rfl⟩
    have HB : Hid (Blk W w.heap.size 115 [.int .u8 9, .int .i64 id, .int .i64 arg, .int .i64 extra, .int .u64 draw]) := Lib.hid (by rw [hW]; exact HB0.out)
    have HE : Hid (Ext w W) := Lib.hid (by rw [hW]; exact Ext.alloc _ _)
    have HF0 : Hid (Ext W W) := Lib.hid (Ext.refl _)
    obtain ⟨s0, hs0⟩ : ∃ s, nameL 9 = s := ⟨_, rfl⟩
    have HS0 : Hid (s0.length ≤ 10) := Lib.hid (by rw [← hs0]; exact name_len 9)
    have HR : Hid (stepL ⟨9, id, arg, extra, draw⟩ = s0 ++ [32] ++ Lib.itoa arg ++ [32] ++ Lib.itoa extra ++ [32] ++ Lib.decDigits draw) := Lib.hid (by unfold stepL lineL; dsimp only; rw [e1, e2, hs0]; simp [PStep.fld])
    have HNM := Lib.hid hs0
    clear hs0 e1 e2 HB0
    go_enter Tryd.func111, Tryd.ntmps111
    go_wp2_with fail
    rw [← hW]
    clear hW
    refine (ref_has 9 (by decide) _).mono ?_
    rw [show hId 9 = false from rfl, show hArg 9 = true from rfl, show hExt 9 = true from rfl, show hDraw 9 = true from rfl]
    rintro e wh ⟨rfl, hw⟩
    rw [hw]
    clear hw
    have hc0 : W.cell? ⟨w.heap.size, 0, none⟩ = some (.int .u8 9) := HB.out.cell 0
    go_wp2_with fail
    clear hc0
    refine (ref_name 9 (by decide) _).mono ?_
    rw [show nameL ((9 : Nat) : Int) = s0 from HNM.out]
    rintro e w1 ⟨rfl, hE1⟩
    have HF1 := Lib.hid hE1
    clear hE1 HF0
    have hc1 : w1.cell? ⟨w.heap.size, 2, none⟩ = some (.int .i64 arg) := (HB.out.ext HF1.out).cell 2
    obtain ⟨c1, hcc1⟩ : ∃ c, Lib.itoa arg = c := ⟨_, rfl⟩
    have HC1 : Hid (c1.length ≤ 21) := Lib.hid (by rw [← hcc1]; exact itoa_small H_arg.out)
    obtain ⟨p1, hp1⟩ : ∃ p, s0 ++ [32] = p := ⟨_, rfl⟩
    have HP1 : Hid (p1.length ≤ 11) := Lib.hid (by rw [← hp1, List.length_append]; have := HS0.out; simp only [List.length_cons, List.length_nil]; omega)
    obtain ⟨s1, hs1⟩ : ∃ s, p1 ++ c1 = s := ⟨_, rfl⟩
    have HS1 : Hid (s1.length ≤ 32) := Lib.hid (by rw [← hs1, List.length_append]; have := HP1.out; have := HC1.out; omega)
    have a1 : ∀ W, (Op.stringOp .add ⟨s0.toArray⟩ ⟨#[32]⟩).run Tryd.prog W = .ok (.string ⟨p1.toArray⟩) W := fun W => by rw [run_string_add_lists W s0 [32] (by have := HS0.out; omega) (by simp), hp1]
    have b1 : ∀ W, (Op.stringOp .add ⟨p1.toArray⟩ ⟨c1.toArray⟩).run Tryd.prog W = .ok (.string ⟨s1.toArray⟩) W := fun W => by rw [run_string_add_lists W p1 c1 (by have := HP1.out; omega) (by have := HC1.out; omega), hs1]
    have HQ1 : Hid (Lib.itoa arg = c1 ∧ s0 ++ [32] = p1 ∧ p1 ++ c1 = s1) := Lib.hid ⟨hcc1, hp1, hs1⟩
    clear hcc1 hp1 hs1
    go_wp2_with fail
    clear hc1
    refine (ref_Whole arg H_arg.out _).mono ?_
    rw [HQ1.out.1]
    rintro e w2 ⟨rfl, hE2⟩
    have HF2 := Lib.hid (HF1.out.trans hE2)
    clear hE2
    have hc2 : w2.cell? ⟨w.heap.size, 3, none⟩ = some (.int .i64 extra) := (HB.out.ext HF2.out).cell 3
    obtain ⟨c2, hcc2⟩ : ∃ c, Lib.itoa extra = c := ⟨_, rfl⟩
    have HC2 : Hid (c2.length ≤ 21) := Lib.hid (by rw [← hcc2]; exact itoa_small H_extra.out)
    obtain ⟨p2, hp2⟩ : ∃ p, s1 ++ [32] = p := ⟨_, rfl⟩
    have HP2 : Hid (p2.length ≤ 33) := Lib.hid (by rw [← hp2, List.length_append]; have := HS1.out; simp only [List.length_cons, List.length_nil]; omega)
    obtain ⟨s2, hs2⟩ : ∃ s, p2 ++ c2 = s := ⟨_, rfl⟩
    have HS2 : Hid (s2.length ≤ 54) := Lib.hid (by rw [← hs2, List.length_append]; have := HP2.out; have := HC2.out; omega)
    have a2 : ∀ W, (Op.stringOp .add ⟨s1.toArray⟩ ⟨#[32]⟩).run Tryd.prog W = .ok (.string ⟨p2.toArray⟩) W := fun W => by rw [run_string_add_lists W s1 [32] (by have := HS1.out; omega) (by simp), hp2]
    have b2 : ∀ W, (Op.stringOp .add ⟨p2.toArray⟩ ⟨c2.toArray⟩).run Tryd.prog W = .ok (.string ⟨s2.toArray⟩) W := fun W => by rw [run_string_add_lists W p2 c2 (by have := HP2.out; omega) (by have := HC2.out; omega), hs2]
    have HQ2 : Hid (Lib.itoa extra = c2 ∧ s1 ++ [32] = p2 ∧ p2 ++ c2 = s2) := Lib.hid ⟨hcc2, hp2, hs2⟩
    clear hcc2 hp2 hs2
    go_wp2_with fail
    clear hc2
    refine (ref_Whole extra H_extra.out _).mono ?_
    rw [HQ2.out.1]
    rintro e w3 ⟨rfl, hE3⟩
    have HF3 := Lib.hid (HF2.out.trans hE3)
    clear hE3
    have hc3 : w3.cell? ⟨w.heap.size, 4, none⟩ = some (.int .u64 draw) := (HB.out.ext HF3.out).cell 4
    obtain ⟨c3, hcc3⟩ : ∃ c, Lib.decDigits draw = c := ⟨_, rfl⟩
    have HC3 : Hid (c3.length ≤ 21) := Lib.hid (by rw [← hcc3, Lib.decDigits_length]; have := Lib.nDigits_le20 draw HD.out; omega)
    obtain ⟨p3, hp3⟩ : ∃ p, s2 ++ [32] = p := ⟨_, rfl⟩
    have HP3 : Hid (p3.length ≤ 55) := Lib.hid (by rw [← hp3, List.length_append]; have := HS2.out; simp only [List.length_cons, List.length_nil]; omega)
    obtain ⟨s3, hs3⟩ : ∃ s, p3 ++ c3 = s := ⟨_, rfl⟩
    have HS3 : Hid (s3.length ≤ 76) := Lib.hid (by rw [← hs3, List.length_append]; have := HP3.out; have := HC3.out; omega)
    have a3 : ∀ W, (Op.stringOp .add ⟨s2.toArray⟩ ⟨#[32]⟩).run Tryd.prog W = .ok (.string ⟨p3.toArray⟩) W := fun W => by rw [run_string_add_lists W s2 [32] (by have := HS2.out; omega) (by simp), hp3]
    have b3 : ∀ W, (Op.stringOp .add ⟨p3.toArray⟩ ⟨c3.toArray⟩).run Tryd.prog W = .ok (.string ⟨s3.toArray⟩) W := fun W => by rw [run_string_add_lists W p3 c3 (by have := HP3.out; omega) (by have := HC3.out; omega), hs3]
    have HQ3 : Hid (Lib.decDigits draw = c3 ∧ s2 ++ [32] = p3 ∧ p3 ++ c3 = s3) := Lib.hid ⟨hcc3, hp3, hs3⟩
    clear hcc3 hp3 hs3
    go_wp2_with fail
    clear hc3
    refine (ref_Natural draw HD.out _).mono ?_
    rw [HQ3.out.1]
    rintro e w4 ⟨rfl, hE4⟩
    have HF4 := Lib.hid (HF3.out.trans hE4)
    clear hE4
    have HRR : Hid (stepL ⟨9, id, arg, extra, draw⟩ = s3) := Lib.hid (by rw [HR.out, HQ1.out.1, HQ1.out.2.1, HQ1.out.2.2, HQ2.out.1, HQ2.out.2.1, HQ2.out.2.2, HQ3.out.1, HQ3.out.2.1, HQ3.out.2.2])
    go_wp2_with fail
    go_ret
    exact ⟨by rw [HRR.out] <;> rfl, HE.out.trans HF4.out⟩
  · skip
    have e1 : offs 10 = [1] := rfl
    have e2 : drw 10 = false := rfl
    have HB0 : Hid (Blk (w.alloc (.cells #[.int .u8 10, .int .i64 id, .int .i64 arg, .int .i64 extra, .int .u64 draw] 115)) w.heap.size 115 [.int .u8 10, .int .i64 id, .int .i64 arg, .int .i64 extra, .int .u64 draw]) := Lib.hid (Blk.new rfl)
    obtain ⟨W, hW⟩ : ∃ W, W = w.alloc (.cells #[.int .u8 10, .int .i64 id, .int .i64 arg, .int .i64 extra, .int .u64 draw] 115) := ⟨_, rfl⟩
    have HB : Hid (Blk W w.heap.size 115 [.int .u8 10, .int .i64 id, .int .i64 arg, .int .i64 extra, .int .u64 draw]) := Lib.hid (by rw [hW]; exact HB0.out)
    have HE : Hid (Ext w W) := Lib.hid (by rw [hW]; exact Ext.alloc _ _)
    have HF0 : Hid (Ext W W) := Lib.hid (Ext.refl _)
    obtain ⟨s0, hs0⟩ : ∃ s, nameL 10 = s := ⟨_, rfl⟩
    have HS0 : Hid (s0.length ≤ 10) := Lib.hid (by rw [← hs0]; exact name_len 10)
    have HR : Hid (stepL ⟨10, id, arg, extra, draw⟩ = s0 ++ [32] ++ Lib.itoa id) := Lib.hid (by unfold stepL lineL; dsimp only; rw [e1, e2, hs0]; simp [PStep.fld])
    have HNM := Lib.hid hs0
    clear hs0 e1 e2 HB0
    go_enter Tryd.func111, Tryd.ntmps111
    go_wp2_with fail
    rw [← hW]
    clear hW
    refine (ref_has 10 (by decide) _).mono ?_
    rw [show hId 10 = true from rfl, show hArg 10 = false from rfl, show hExt 10 = false from rfl, show hDraw 10 = false from rfl]
    rintro e wh ⟨rfl, hw⟩
    rw [hw]
    clear hw
    have hc0 : W.cell? ⟨w.heap.size, 0, none⟩ = some (.int .u8 10) := HB.out.cell 0
    go_wp2_with fail
    clear hc0
    refine (ref_name 10 (by decide) _).mono ?_
    rw [show nameL ((10 : Nat) : Int) = s0 from HNM.out]
    rintro e w1 ⟨rfl, hE1⟩
    have HF1 := Lib.hid hE1
    clear hE1 HF0
    have hc1 : w1.cell? ⟨w.heap.size, 1, none⟩ = some (.int .i64 id) := (HB.out.ext HF1.out).cell 1
    obtain ⟨c1, hcc1⟩ : ∃ c, Lib.itoa id = c := ⟨_, rfl⟩
    have HC1 : Hid (c1.length ≤ 21) := Lib.hid (by rw [← hcc1]; exact itoa_small H_id.out)
    obtain ⟨p1, hp1⟩ : ∃ p, s0 ++ [32] = p := ⟨_, rfl⟩
    have HP1 : Hid (p1.length ≤ 11) := Lib.hid (by rw [← hp1, List.length_append]; have := HS0.out; simp only [List.length_cons, List.length_nil]; omega)
    obtain ⟨s1, hs1⟩ : ∃ s, p1 ++ c1 = s := ⟨_, rfl⟩
    have HS1 : Hid (s1.length ≤ 32) := Lib.hid (by rw [← hs1, List.length_append]; have := HP1.out; have := HC1.out; omega)
    have a1 : ∀ W, (Op.stringOp .add ⟨s0.toArray⟩ ⟨#[32]⟩).run Tryd.prog W = .ok (.string ⟨p1.toArray⟩) W := fun W => by rw [run_string_add_lists W s0 [32] (by have := HS0.out; omega) (by simp), hp1]
    have b1 : ∀ W, (Op.stringOp .add ⟨p1.toArray⟩ ⟨c1.toArray⟩).run Tryd.prog W = .ok (.string ⟨s1.toArray⟩) W := fun W => by rw [run_string_add_lists W p1 c1 (by have := HP1.out; omega) (by have := HC1.out; omega), hs1]
    have HQ1 : Hid (Lib.itoa id = c1 ∧ s0 ++ [32] = p1 ∧ p1 ++ c1 = s1) := Lib.hid ⟨hcc1, hp1, hs1⟩
    clear hcc1 hp1 hs1
    go_wp2_with fail
    clear hc1
    refine (ref_Whole id H_id.out _).mono ?_
    rw [HQ1.out.1]
    rintro e w2 ⟨rfl, hE2⟩
    have HF2 := Lib.hid (HF1.out.trans hE2)
    clear hE2
    have HRR : Hid (stepL ⟨10, id, arg, extra, draw⟩ = s1) := Lib.hid (by rw [HR.out, HQ1.out.1, HQ1.out.2.1, HQ1.out.2.2])
    go_wp2_with fail
    go_ret
    exact ⟨by rw [HRR.out] <;> rfl, HE.out.trans HF2.out⟩
  · skip
    have e1 : offs 11 = [1, 2, 3] := rfl
    have e2 : drw 11 = false := rfl
    have HB0 : Hid (Blk (w.alloc (.cells #[.int .u8 11, .int .i64 id, .int .i64 arg, .int .i64 extra, .int .u64 draw] 115)) w.heap.size 115 [.int .u8 11, .int .i64 id, .int .i64 arg, .int .i64 extra, .int .u64 draw]) := Lib.hid (Blk.new rfl)
    obtain ⟨W, hW⟩ : ∃ W, W = w.alloc (.cells #[.int .u8 11, .int .i64 id, .int .i64 arg, .int .i64 extra, .int .u64 draw] 115) := ⟨_, rfl⟩
    have HB : Hid (Blk W w.heap.size 115 [.int .u8 11, .int .i64 id, .int .i64 arg, .int .i64 extra, .int .u64 draw]) := Lib.hid (by rw [hW]; exact HB0.out)
    have HE : Hid (Ext w W) := Lib.hid (by rw [hW]; exact Ext.alloc _ _)
    have HF0 : Hid (Ext W W) := Lib.hid (Ext.refl _)
    obtain ⟨s0, hs0⟩ : ∃ s, nameL 11 = s := ⟨_, rfl⟩
    have HS0 : Hid (s0.length ≤ 10) := Lib.hid (by rw [← hs0]; exact name_len 11)
    have HR : Hid (stepL ⟨11, id, arg, extra, draw⟩ = s0 ++ [32] ++ Lib.itoa id ++ [32] ++ Lib.itoa arg ++ [32] ++ Lib.itoa extra) := Lib.hid (by unfold stepL lineL; dsimp only; rw [e1, e2, hs0]; simp [PStep.fld])
    have HNM := Lib.hid hs0
    clear hs0 e1 e2 HB0
    go_enter Tryd.func111, Tryd.ntmps111
    go_wp2_with fail
    rw [← hW]
    clear hW
    refine (ref_has 11 (by decide) _).mono ?_
    rw [show hId 11 = true from rfl, show hArg 11 = true from rfl, show hExt 11 = true from rfl, show hDraw 11 = false from rfl]
    rintro e wh ⟨rfl, hw⟩
    rw [hw]
    clear hw
    have hc0 : W.cell? ⟨w.heap.size, 0, none⟩ = some (.int .u8 11) := HB.out.cell 0
    go_wp2_with fail
    clear hc0
    refine (ref_name 11 (by decide) _).mono ?_
    rw [show nameL ((11 : Nat) : Int) = s0 from HNM.out]
    rintro e w1 ⟨rfl, hE1⟩
    have HF1 := Lib.hid hE1
    clear hE1 HF0
    have hc1 : w1.cell? ⟨w.heap.size, 1, none⟩ = some (.int .i64 id) := (HB.out.ext HF1.out).cell 1
    obtain ⟨c1, hcc1⟩ : ∃ c, Lib.itoa id = c := ⟨_, rfl⟩
    have HC1 : Hid (c1.length ≤ 21) := Lib.hid (by rw [← hcc1]; exact itoa_small H_id.out)
    obtain ⟨p1, hp1⟩ : ∃ p, s0 ++ [32] = p := ⟨_, rfl⟩
    have HP1 : Hid (p1.length ≤ 11) := Lib.hid (by rw [← hp1, List.length_append]; have := HS0.out; simp only [List.length_cons, List.length_nil]; omega)
    obtain ⟨s1, hs1⟩ : ∃ s, p1 ++ c1 = s := ⟨_, rfl⟩
    have HS1 : Hid (s1.length ≤ 32) := Lib.hid (by rw [← hs1, List.length_append]; have := HP1.out; have := HC1.out; omega)
    have a1 : ∀ W, (Op.stringOp .add ⟨s0.toArray⟩ ⟨#[32]⟩).run Tryd.prog W = .ok (.string ⟨p1.toArray⟩) W := fun W => by rw [run_string_add_lists W s0 [32] (by have := HS0.out; omega) (by simp), hp1]
    have b1 : ∀ W, (Op.stringOp .add ⟨p1.toArray⟩ ⟨c1.toArray⟩).run Tryd.prog W = .ok (.string ⟨s1.toArray⟩) W := fun W => by rw [run_string_add_lists W p1 c1 (by have := HP1.out; omega) (by have := HC1.out; omega), hs1]
    have HQ1 : Hid (Lib.itoa id = c1 ∧ s0 ++ [32] = p1 ∧ p1 ++ c1 = s1) := Lib.hid ⟨hcc1, hp1, hs1⟩
    clear hcc1 hp1 hs1
    go_wp2_with fail
    clear hc1
    refine (ref_Whole id H_id.out _).mono ?_
    rw [HQ1.out.1]
    rintro e w2 ⟨rfl, hE2⟩
    have HF2 := Lib.hid (HF1.out.trans hE2)
    clear hE2
    have hc2 : w2.cell? ⟨w.heap.size, 2, none⟩ = some (.int .i64 arg) := (HB.out.ext HF2.out).cell 2
    obtain ⟨c2, hcc2⟩ : ∃ c, Lib.itoa arg = c := ⟨_, rfl⟩
    have HC2 : Hid (c2.length ≤ 21) := Lib.hid (by rw [← hcc2]; exact itoa_small H_arg.out)
    obtain ⟨p2, hp2⟩ : ∃ p, s1 ++ [32] = p := ⟨_, rfl⟩
    have HP2 : Hid (p2.length ≤ 33) := Lib.hid (by rw [← hp2, List.length_append]; have := HS1.out; simp only [List.length_cons, List.length_nil]; omega)
    obtain ⟨s2, hs2⟩ : ∃ s, p2 ++ c2 = s := ⟨_, rfl⟩
    have HS2 : Hid (s2.length ≤ 54) := Lib.hid (by rw [← hs2, List.length_append]; have := HP2.out; have := HC2.out; omega)
    have a2 : ∀ W, (Op.stringOp .add ⟨s1.toArray⟩ ⟨#[32]⟩).run Tryd.prog W = .ok (.string ⟨p2.toArray⟩) W := fun W => by rw [run_string_add_lists W s1 [32] (by have := HS1.out; omega) (by simp), hp2]
    have b2 : ∀ W, (Op.stringOp .add ⟨p2.toArray⟩ ⟨c2.toArray⟩).run Tryd.prog W = .ok (.string ⟨s2.toArray⟩) W := fun W => by rw [run_string_add_lists W p2 c2 (by have := HP2.out; omega) (by have := HC2.out; omega), hs2]
    have HQ2 : Hid (Lib.itoa arg = c2 ∧ s1 ++ [32] = p2 ∧ p2 ++ c2 = s2) := Lib.hid ⟨hcc2, hp2, hs2⟩
    clear hcc2 hp2 hs2
    go_wp2_with fail
    clear hc2
    refine (ref_Whole arg H_arg.out _).mono ?_
    rw [HQ2.out.1]
    rintro e w3 ⟨rfl, hE3⟩
    have HF3 := Lib.hid (HF2.out.trans hE3)
    clear hE3
    have hc3 : w3.cell? ⟨w.heap.size, 3, none⟩ = some (.int .i64 extra) := (HB.out.ext HF3.out).cell 3
    obtain ⟨c3, hcc3⟩ : ∃ c, Lib.itoa extra = c := ⟨_, rfl⟩
    have HC3 : Hid (c3.length ≤ 21) := Lib.hid (by rw [← hcc3]; exact itoa_small H_extra.out)
    obtain ⟨p3, hp3⟩ : ∃ p, s2 ++ [32] = p := ⟨_, rfl⟩
    have HP3 : Hid (p3.length ≤ 55) := Lib.hid (by rw [← hp3, List.length_append]; have := HS2.out; simp only [List.length_cons, List.length_nil]; omega)
    obtain ⟨s3, hs3⟩ : ∃ s, p3 ++ c3 = s := ⟨_, rfl⟩
    have HS3 : Hid (s3.length ≤ 76) := Lib.hid (by rw [← hs3, List.length_append]; have := HP3.out; have := HC3.out; omega)
    have a3 : ∀ W, (Op.stringOp .add ⟨s2.toArray⟩ ⟨#[32]⟩).run Tryd.prog W = .ok (.string ⟨p3.toArray⟩) W := fun W => by rw [run_string_add_lists W s2 [32] (by have := HS2.out; omega) (by simp), hp3]
    have b3 : ∀ W, (Op.stringOp .add ⟨p3.toArray⟩ ⟨c3.toArray⟩).run Tryd.prog W = .ok (.string ⟨s3.toArray⟩) W := fun W => by rw [run_string_add_lists W p3 c3 (by have := HP3.out; omega) (by have := HC3.out; omega), hs3]
    have HQ3 : Hid (Lib.itoa extra = c3 ∧ s2 ++ [32] = p3 ∧ p3 ++ c3 = s3) := Lib.hid ⟨hcc3, hp3, hs3⟩
    clear hcc3 hp3 hs3
    go_wp2_with fail
    clear hc3
    refine (ref_Whole extra H_extra.out _).mono ?_
    rw [HQ3.out.1]
    rintro e w4 ⟨rfl, hE4⟩
    have HF4 := Lib.hid (HF3.out.trans hE4)
    clear hE4
    have HRR : Hid (stepL ⟨11, id, arg, extra, draw⟩ = s3) := Lib.hid (by rw [HR.out, HQ1.out.1, HQ1.out.2.1, HQ1.out.2.2, HQ2.out.1, HQ2.out.2.1, HQ2.out.2.2, HQ3.out.1, HQ3.out.2.1, HQ3.out.2.2])
    go_wp2_with fail
    go_ret
    exact ⟨by rw [HRR.out] <;> rfl, HE.out.trans HF4.out⟩
  · skip
    have e1 : offs 12 = [1, 2, 3] := rfl
    have e2 : drw 12 = true := rfl
    have HB0 : Hid (Blk (w.alloc (.cells #[.int .u8 12, .int .i64 id, .int .i64 arg, .int .i64 extra, .int .u64 draw] 115)) w.heap.size 115 [.int .u8 12, .int .i64 id, .int .i64 arg, .int .i64 extra, .int .u64 draw]) := Lib.hid (Blk.new rfl)
    obtain ⟨W, hW⟩ : ∃ W, W = w.alloc (.cells #[.int .u8 12, .int .i64 id, .int .i64 arg, .int .i64 extra, .int .u64 draw] 115) := ⟨_, rfl⟩
    have HB : Hid (Blk W w.heap.size 115 [.int .u8 12, .int .i64 id, .int .i64 arg, .int .i64 extra, .int .u64 draw]) := Lib.hid (by rw [hW]; exact HB0.out)
    have HE : Hid (Ext w W) := Lib.hid (by rw [hW]; exact Ext.alloc _ _)
    have HF0 : Hid (Ext W W) := Lib.hid (Ext.refl _)
    obtain ⟨s0, hs0⟩ : ∃ s, nameL 12 = s := ⟨_, rfl⟩
    have HS0 : Hid (s0.length ≤ 10) := Lib.hid (by rw [← hs0]; exact name_len 12)
    have HR : Hid (stepL ⟨12, id, arg, extra, draw⟩ = s0 ++ [32] ++ Lib.itoa id ++ [32] ++ Lib.itoa arg ++ [32] ++ Lib.itoa extra ++ [32] ++ Lib.decDigits draw) := Lib.hid (by unfold stepL lineL; dsimp only; rw [e1, e2, hs0]; simp [PStep.fld])
    have HNM := Lib.hid hs0
    clear hs0 e1 e2 HB0
    go_enter Tryd.func111, Tryd.ntmps111
    go_wp2_with fail
    rw [← hW]
    clear hW
    refine (ref_has 12 (by decide) _).mono ?_
    rw [show hId 12 = true from rfl, show hArg 12 = true from rfl, show hExt 12 = true from rfl, show hDraw 12 = true from rfl]
    rintro e wh ⟨rfl, hw⟩
    rw [hw]
    clear hw
    have hc0 : W.cell? ⟨w.heap.size, 0, none⟩ = some (.int .u8 12) := HB.out.cell 0
    go_wp2_with fail
    clear hc0
    refine (ref_name 12 (by decide) _).mono ?_
    rw [show nameL ((12 : Nat) : Int) = s0 from HNM.out]
    rintro e w1 ⟨rfl, hE1⟩
    have HF1 := Lib.hid hE1
    clear hE1 HF0
    have hc1 : w1.cell? ⟨w.heap.size, 1, none⟩ = some (.int .i64 id) := (HB.out.ext HF1.out).cell 1
    obtain ⟨c1, hcc1⟩ : ∃ c, Lib.itoa id = c := ⟨_, rfl⟩
    have HC1 : Hid (c1.length ≤ 21) := Lib.hid (by rw [← hcc1]; exact itoa_small H_id.out)
    obtain ⟨p1, hp1⟩ : ∃ p, s0 ++ [32] = p := ⟨_, rfl⟩
    have HP1 : Hid (p1.length ≤ 11) := Lib.hid (by rw [← hp1, List.length_append]; have := HS0.out; simp only [List.length_cons, List.length_nil]; omega)
    obtain ⟨s1, hs1⟩ : ∃ s, p1 ++ c1 = s := ⟨_, rfl⟩
    have HS1 : Hid (s1.length ≤ 32) := Lib.hid (by rw [← hs1, List.length_append]; have := HP1.out; have := HC1.out; omega)
    have a1 : ∀ W, (Op.stringOp .add ⟨s0.toArray⟩ ⟨#[32]⟩).run Tryd.prog W = .ok (.string ⟨p1.toArray⟩) W := fun W => by rw [run_string_add_lists W s0 [32] (by have := HS0.out; omega) (by simp), hp1]
    have b1 : ∀ W, (Op.stringOp .add ⟨p1.toArray⟩ ⟨c1.toArray⟩).run Tryd.prog W = .ok (.string ⟨s1.toArray⟩) W := fun W => by rw [run_string_add_lists W p1 c1 (by have := HP1.out; omega) (by have := HC1.out; omega), hs1]
    have HQ1 : Hid (Lib.itoa id = c1 ∧ s0 ++ [32] = p1 ∧ p1 ++ c1 = s1) := Lib.hid ⟨hcc1, hp1, hs1⟩
    clear hcc1 hp1 hs1
    go_wp2_with fail
    clear hc1
    refine (ref_Whole id H_id.out _).mono ?_
    rw [HQ1.out.1]
    rintro e w2 ⟨rfl, hE2⟩
    have HF2 := Lib.hid (HF1.out.trans hE2)
    clear hE2
    have hc2 : w2.cell? ⟨w.heap.size, 2, none⟩ = some (.int .i64 arg) := (HB.out.ext HF2.out).cell 2
    obtain ⟨c2, hcc2⟩ : ∃ c, Lib.itoa arg = c := ⟨_, rfl⟩
    have HC2 : Hid (c2.length ≤ 21) := Lib.hid (by rw [← hcc2]; exact itoa_small H_arg.out)
    obtain ⟨p2, hp2⟩ : ∃ p, s1 ++ [32] = p := ⟨_, rfl⟩
    have HP2 : Hid (p2.length ≤ 33) := Lib.hid (by rw [← hp2, List.length_append]; have := HS1.out; simp only [List.length_cons, List.length_nil]; omega)
    obtain ⟨s2, hs2⟩ : ∃ s, p2 ++ c2 = s := ⟨_, rfl⟩
    have HS2 : Hid (s2.length ≤ 54) := Lib.hid (by rw [← hs2, List.length_append]; have := HP2.out; have := HC2.out; omega)
    have a2 : ∀ W, (Op.stringOp .add ⟨s1.toArray⟩ ⟨#[32]⟩).run Tryd.prog W = .ok (.string ⟨p2.toArray⟩) W := fun W => by rw [run_string_add_lists W s1 [32] (by have := HS1.out; omega) (by simp), hp2]
    have b2 : ∀ W, (Op.stringOp .add ⟨p2.toArray⟩ ⟨c2.toArray⟩).run Tryd.prog W = .ok (.string ⟨s2.toArray⟩) W := fun W => by rw [run_string_add_lists W p2 c2 (by have := HP2.out; omega) (by have := HC2.out; omega), hs2]
    have HQ2 : Hid (Lib.itoa arg = c2 ∧ s1 ++ [32] = p2 ∧ p2 ++ c2 = s2) := Lib.hid ⟨hcc2, hp2, hs2⟩
    clear hcc2 hp2 hs2
    go_wp2_with fail
    clear hc2
    refine (ref_Whole arg H_arg.out _).mono ?_
    rw [HQ2.out.1]
    rintro e w3 ⟨rfl, hE3⟩
    have HF3 := Lib.hid (HF2.out.trans hE3)
    clear hE3
    have hc3 : w3.cell? ⟨w.heap.size, 3, none⟩ = some (.int .i64 extra) := (HB.out.ext HF3.out).cell 3
    obtain ⟨c3, hcc3⟩ : ∃ c, Lib.itoa extra = c := ⟨_, rfl⟩
    have HC3 : Hid (c3.length ≤ 21) := Lib.hid (by rw [← hcc3]; exact itoa_small H_extra.out)
    obtain ⟨p3, hp3⟩ : ∃ p, s2 ++ [32] = p := ⟨_, rfl⟩
    have HP3 : Hid (p3.length ≤ 55) := Lib.hid (by rw [← hp3, List.length_append]; have := HS2.out; simp only [List.length_cons, List.length_nil]; omega)
    obtain ⟨s3, hs3⟩ : ∃ s, p3 ++ c3 = s := ⟨_, rfl⟩
    have HS3 : Hid (s3.length ≤ 76) := Lib.hid (by rw [← hs3, List.length_append]; have := HP3.out; have := HC3.out; omega)
    have a3 : ∀ W, (Op.stringOp .add ⟨s2.toArray⟩ ⟨#[32]⟩).run Tryd.prog W = .ok (.string ⟨p3.toArray⟩) W := fun W => by rw [run_string_add_lists W s2 [32] (by have := HS2.out; omega) (by simp), hp3]
    have b3 : ∀ W, (Op.stringOp .add ⟨p3.toArray⟩ ⟨c3.toArray⟩).run Tryd.prog W = .ok (.string ⟨s3.toArray⟩) W := fun W => by rw [run_string_add_lists W p3 c3 (by have := HP3.out; omega) (by have := HC3.out; omega), hs3]
    have HQ3 : Hid (Lib.itoa extra = c3 ∧ s2 ++ [32] = p3 ∧ p3 ++ c3 = s3) := Lib.hid ⟨hcc3, hp3, hs3⟩
    clear hcc3 hp3 hs3
    go_wp2_with fail
    clear hc3
    refine (ref_Whole extra H_extra.out _).mono ?_
    rw [HQ3.out.1]
    rintro e w4 ⟨rfl, hE4⟩
    have HF4 := Lib.hid (HF3.out.trans hE4)
    clear hE4
    have hc4 : w4.cell? ⟨w.heap.size, 4, none⟩ = some (.int .u64 draw) := (HB.out.ext HF4.out).cell 4
    obtain ⟨c4, hcc4⟩ : ∃ c, Lib.decDigits draw = c := ⟨_, rfl⟩
    have HC4 : Hid (c4.length ≤ 21) := Lib.hid (by rw [← hcc4, Lib.decDigits_length]; have := Lib.nDigits_le20 draw HD.out; omega)
    obtain ⟨p4, hp4⟩ : ∃ p, s3 ++ [32] = p := ⟨_, rfl⟩
    have HP4 : Hid (p4.length ≤ 77) := Lib.hid (by rw [← hp4, List.length_append]; have := HS3.out; simp only [List.length_cons, List.length_nil]; omega)
    obtain ⟨s4, hs4⟩ : ∃ s, p4 ++ c4 = s := ⟨_, rfl⟩
    have HS4 : Hid (s4.length ≤ 98) := Lib.hid (by rw [← hs4, List.length_append]; have := HP4.out; have := HC4.out; omega)
    have a4 : ∀ W, (Op.stringOp .add ⟨s3.toArray⟩ ⟨#[32]⟩).run Tryd.prog W = .ok (.string ⟨p4.toArray⟩) W := fun W => by rw [run_string_add_lists W s3 [32] (by have := HS3.out; omega) (by simp), hp4]
    have b4 : ∀ W, (Op.stringOp .add ⟨p4.toArray⟩ ⟨c4.toArray⟩).run Tryd.prog W = .ok (.string ⟨s4.toArray⟩) W := fun W => by rw [run_string_add_lists W p4 c4 (by have := HP4.out; omega) (by have := HC4.out; omega), hs4]
    have HQ4 : Hid (Lib.decDigits draw = c4 ∧ s3 ++ [32] = p4 ∧ p4 ++ c4 = s4) := Lib.hid ⟨hcc4, hp4, hs4⟩
    clear hcc4 hp4 hs4
    go_wp2_with fail
    clear hc4
    refine (ref_Natural draw HD.out _).mono ?_
    rw [HQ4.out.1]
    rintro e w5 ⟨rfl, hE5⟩
    have HF5 := Lib.hid (HF4.out.trans hE5)
    clear hE5
    have HRR : Hid (stepL ⟨12, id, arg, extra, draw⟩ = s4) := Lib.hid (by rw [HR.out, HQ1.out.1, HQ1.out.2.1, HQ1.out.2.2, HQ2.out.1, HQ2.out.2.1, HQ2.out.2.2, HQ3.out.1, HQ3.out.2.1, HQ3.out.2.2, HQ4.out.1, HQ4.out.2.1, HQ4.out.2.2])
    go_wp2_with fail
    go_ret
    exact ⟨by rw [HRR.out] <;> rfl, HE.out.trans HF5.out⟩
end Go.Proofs.YtgcbnagfdfgpnaaDoor
