/- The program's meetings of two. Printed by gen_meand.py. -/
import Derived.Test.YtgcbnagfdfgpnaaDoorShrinksAll31
import Derived.WalkMore
namespace Go.Proofs.YtgcbnagfdfgpnaaDoor
open Go.RowKit Go.Hx
attribute [local go_sem] XDyad.cells XMass.cells detUpon undIn
theorem aggP2 : AggTy Tryd.prog 130 2 := ⟨⟨_, Tryd.underlying130, rfl⟩, by kernel_rfl⟩
theorem idxP0 (x y : Value) (w : World) : (Instr.index 130 (.agg #[x, y]) (.int .i64 0)).run Tryd.prog w = .ok x w := by kernel_rfl
theorem idxP1 (x y : Value) (w : World) : (Instr.index 130 (.agg #[x, y]) (.int .i64 1)).run Tryd.prog w = .ok y w := by kernel_rfl
set_option maxRecDepth 100000 in
set_option maxHeartbeats 4000000 in
theorem mean_pair (g : Nat) (w : World) :
    Calls Tryd.prog 68 #[.pointer (some ⟨g, 0, none⟩)] w fun e w' => e = .returned (.agg #[.pointer (some ⟨g, 6, none⟩), .pointer (some ⟨g, 9, none⟩)]) ∧ Ext w w' := by
  go_enter Tryd.func68, Tryd.ntmps68
  go_wp2_with fail
  refine wp_nm fun W1 hW => ?_
  have B0 : Blk W1 (w.heap.size) 130 [.pointer none, .pointer none] := by rw [hW]; exact Blk.new (by simp)
  have E : Ext w W1 := by rw [hW]; exact Ext.alloc' (Ext.refl _) _
  clear hW
  refine FG.wp_region_flowTail 6 (fun w' => W1.heap.size ≤ w'.heap.size) (Ext W1) Ext (chK W1 [] [] [] []) [] (by kernel_rfl) (by kernel_rfl) (by kernel_rfl) (fun _ _ h => Ext.size h) (Nat.le_refl _) (chK_early (Ext.drew _)) (Ext.drew _) (fun _ _ h k => h.trans k) ?_
  iterate 6 (refine FG.ftext_det rfl rfl ?_; apply Exists.intro; refine ⟨fun w hC => ?_, fun K hK => ?_⟩; (first | (go_simp; exact rfl) | (go_simp; exact ⟨rfl, rfl⟩) | (go_simp; exact trivial)); go_simp; refine hK _ ?_; clear hK K)
  refine FG.ftext_nil ?_
  rintro W2 _ jE hF
  clear hF
  have hz := E.size
  replace B0 : Blk W2 (w.heap.size) 130 [.pointer none, .pointer none] := (B0.ext jE)
  replace E : Ext w W2 := E.trans jE
  clear hz jE
  simp only [List.drop_succ_cons, List.drop_zero]
  gi_wp2_with (first | ((with_reducible refine stIn Open.wide (B0) (0) [.pointer (some ⟨g, 6, none⟩), .pointer (some ⟨g, 9, none⟩)] 130 (.tmp 2) (.tmp 9) ?_ ?_ ?_ ?_ ?_ ?_ ?_ fun W3 BR3 hO3 => ?_); (exact rfl); ((iterate 4 exact rfl); exact Nat.le_of_ble_eq_true rfl; exact aggP2; replace E := Only.ext (E) hO3 (by omega); replace B0 : Blk W3 (w.heap.size) 130 [.pointer (some ⟨g, 6, none⟩), .pointer (some ⟨g, 9, none⟩)] := BR3; clear BR3 hO3)) | fail)
  go_wp2_with fail
  exact bodyPost_ret (results_c rfl rfl (B0) aggP2) rfl ⟨rfl, E⟩
set_option maxRecDepth 100000 in
set_option maxHeartbeats 4000000 in
theorem mean_Meet (x y : XMass) (w : World) (hx : x.ok w w.heap.size) (hy : y.ok w w.heap.size) (fx : FineM x.data) (fy : FineM y.data) (hT : Tab w) :
    Calls Tryd.prog 49 #[.agg #[.bool x.s.neg, .slice x.s.limbs.A x.s.limbs.l.length x.s.limbs.c, .int .i64 x.s.exp, .bool x.w.neg, .slice x.w.limbs.A x.w.limbs.l.length x.w.limbs.c, .int .i64 x.w.exp, .bool x.c.neg, .slice x.c.limbs.A x.c.limbs.l.length x.c.limbs.c, .int .i64 x.c.exp, .bool x.a.neg, .slice x.a.limbs.A x.a.limbs.l.length x.a.limbs.c, .int .i64 x.a.exp], .agg #[.bool y.s.neg, .slice y.s.limbs.A y.s.limbs.l.length y.s.limbs.c, .int .i64 y.s.exp, .bool y.w.neg, .slice y.w.limbs.A y.w.limbs.l.length y.w.limbs.c, .int .i64 y.w.exp, .bool y.c.neg, .slice y.c.limbs.A y.c.limbs.l.length y.c.limbs.c, .int .i64 y.c.exp, .bool y.a.neg, .slice y.a.limbs.A y.a.limbs.l.length y.a.limbs.c, .int .i64 y.a.exp]] w fun e w' => ∃ z l : XMass, e = .returned (.tuple #[.agg #[.bool z.s.neg, .slice z.s.limbs.A z.s.limbs.l.length z.s.limbs.c, .int .i64 z.s.exp, .bool z.w.neg, .slice z.w.limbs.A z.w.limbs.l.length z.w.limbs.c, .int .i64 z.w.exp, .bool z.c.neg, .slice z.c.limbs.A z.c.limbs.l.length z.c.limbs.c, .int .i64 z.c.exp, .bool z.a.neg, .slice z.a.limbs.A z.a.limbs.l.length z.a.limbs.c, .int .i64 z.a.exp], .agg #[.bool l.s.neg, .slice l.s.limbs.A l.s.limbs.l.length l.s.limbs.c, .int .i64 l.s.exp, .bool l.w.neg, .slice l.w.limbs.A l.w.limbs.l.length l.w.limbs.c, .int .i64 l.w.exp, .bool l.c.neg, .slice l.c.limbs.A l.c.limbs.l.length l.c.limbs.c, .int .i64 l.c.exp, .bool l.a.neg, .slice l.a.limbs.A l.a.limbs.l.length l.a.limbs.c, .int .i64 l.a.exp], .int .i64 (meetM x.data y.data).2.2]) ∧ z.data = (meetM x.data y.data).1 ∧ l.data = (meetM x.data y.data).2.1 ∧ z.mine w' w.heap.size ∧ l.mine w' w.heap.size ∧ Ext w w' := by
  have HX := Lib.hid hx
  have FX := Lib.hid fx
  have HY := Lib.hid hy
  have FY := Lib.hid fy
  have HT := Lib.hid hT
  clear hx fx hy fy hT
  by_cases q0 : mayM x.data
  rotate_left
  · have HR : Hid (meetM x.data y.data = (PMass.zero, PMass.zero, 8)) := Lib.hid (by unfold meetM; rw [if_neg fun h => q0 h.1])
    have C0 := Lib.hid (chk_no q0)
    clear q0
    go_enter Tryd.func49, Tryd.ntmps49
    go_wp2_with fail
    refine calls_nm fun W1 hW => ?_
    have B0 : Blk W1 (w.heap.size) 47 x.cells := by rw [hW]; exact (((Blk.new (by simp)).alloc _).alloc _).alloc _
    have B1 : Blk W1 (w.heap.size + 1) 47 y.cells := by rw [hW]; exact ((Blk.new (by simp)).alloc _).alloc _
    have B2 : Blk W1 (w.heap.size + 2) 47 XMass.zero.cells := by rw [hW]; exact (Blk.new (by simp)).alloc _
    have B3 : Blk W1 (w.heap.size + 3) 47 XMass.zero.cells := by rw [hW]; exact Blk.new (by simp)
    have E : Ext w W1 := by rw [hW]; exact Ext.alloc' (Ext.alloc' (Ext.alloc' (Ext.alloc' (Ext.refl _) _) _) _) _
    clear hW
    refine (mass_Check x _ (HX.out.ext E)).mono ?_
    rw [C0.out]
    rintro e W2 ⟨rfl, hE⟩
    replace B0 := B0.ext hE
    replace B1 := B1.ext hE
    replace B2 := B2.ext hE
    replace B3 := B3.ext hE
    replace E := E.trans hE
    clear hE
    go_wp2_with (first | ((with_reducible refine st (B2) (0) XMass.zero.cells 47 (.tmp 4) (.tmp 22) ?_ ?_ ?_ ?_ ?_ ?_ ?_ fun W3 BR3 hO3 => ?_); (exact rfl); ((iterate 4 exact rfl); exact Nat.le_of_ble_eq_true rfl; exact aggMass; replace E := Only.ext (E) hO3 (by omega); replace B0 := Blk.only (B0) hO3 (by omega); replace B1 := Blk.only (B1) hO3 (by omega); replace B3 := Blk.only (B3) hO3 (by omega); replace B2 : Blk W3 (w.heap.size + 2) 47 XMass.zero.cells := BR3; clear BR3 hO3)) | ((with_reducible refine st (B3) (0) XMass.zero.cells 47 (.tmp 5) (.tmp 23) ?_ ?_ ?_ ?_ ?_ ?_ ?_ fun W4 BR4 hO4 => ?_); (exact rfl); ((iterate 4 exact rfl); exact Nat.le_of_ble_eq_true rfl; exact aggMass; replace E := Only.ext (E) hO4 (by omega); replace B0 := Blk.only (B0) hO4 (by omega); replace B1 := Blk.only (B1) hO4 (by omega); replace B2 := Blk.only (B2) hO4 (by omega); replace B3 : Blk W4 (w.heap.size + 3) 47 XMass.zero.cells := BR4; clear BR4 hO4)) | fail)
    exact bodyPost_ret (results_cct rfl rfl (B2) aggMass rfl (B3) aggMass) rfl ⟨XMass.zero, XMass.zero, by rw [HR.out] <;> rfl, by rw [HR.out] <;> rfl, by rw [HR.out] <;> rfl, XMass.zero_mine _ _, XMass.zero_mine _ _, E⟩
  by_cases q1 : mayM y.data
  rotate_left
  · have HR : Hid (meetM x.data y.data = (PMass.zero, PMass.zero, 8)) := Lib.hid (by unfold meetM; rw [if_neg fun h => q1 h.2])
    have C0 := Lib.hid (chk_yes q0)
    have C1 := Lib.hid (chk_no q1)
    clear q0 q1
    go_enter Tryd.func49, Tryd.ntmps49
    go_wp2_with fail
    refine calls_nm fun W1 hW => ?_
    have B0 : Blk W1 (w.heap.size) 47 x.cells := by rw [hW]; exact (((Blk.new (by simp)).alloc _).alloc _).alloc _
    have B1 : Blk W1 (w.heap.size + 1) 47 y.cells := by rw [hW]; exact ((Blk.new (by simp)).alloc _).alloc _
    have B2 : Blk W1 (w.heap.size + 2) 47 XMass.zero.cells := by rw [hW]; exact (Blk.new (by simp)).alloc _
    have B3 : Blk W1 (w.heap.size + 3) 47 XMass.zero.cells := by rw [hW]; exact Blk.new (by simp)
    have E : Ext w W1 := by rw [hW]; exact Ext.alloc' (Ext.alloc' (Ext.alloc' (Ext.alloc' (Ext.refl _) _) _) _) _
    clear hW
    refine (mass_Check x _ (HX.out.ext E)).mono ?_
    rw [C0.out]
    rintro e W2 ⟨rfl, hE⟩
    replace B0 := B0.ext hE
    replace B1 := B1.ext hE
    replace B2 := B2.ext hE
    replace B3 := B3.ext hE
    replace E := E.trans hE
    clear hE
    go_wp2_with (first | ((with_reducible refine ld B1 (0) y.cells 47 (.tmp 3) ?_ ?_ ?_ ?_ ?_ ?_); (exact rfl); ((iterate 2 exact rfl); exact rfl; exact aggMass)) | fail)
    refine (mass_Check y _ (HY.out.ext E)).mono ?_
    rw [C1.out]
    rintro e W3 ⟨rfl, hE⟩
    replace B0 := B0.ext hE
    replace B1 := B1.ext hE
    replace B2 := B2.ext hE
    replace B3 := B3.ext hE
    replace E := E.trans hE
    clear hE
    go_wp2_with (first | ((with_reducible refine st (B2) (0) XMass.zero.cells 47 (.tmp 4) (.tmp 22) ?_ ?_ ?_ ?_ ?_ ?_ ?_ fun W4 BR4 hO4 => ?_); (exact rfl); ((iterate 4 exact rfl); exact Nat.le_of_ble_eq_true rfl; exact aggMass; replace E := Only.ext (E) hO4 (by omega); replace B0 := Blk.only (B0) hO4 (by omega); replace B1 := Blk.only (B1) hO4 (by omega); replace B3 := Blk.only (B3) hO4 (by omega); replace B2 : Blk W4 (w.heap.size + 2) 47 XMass.zero.cells := BR4; clear BR4 hO4)) | ((with_reducible refine st (B3) (0) XMass.zero.cells 47 (.tmp 5) (.tmp 23) ?_ ?_ ?_ ?_ ?_ ?_ ?_ fun W5 BR5 hO5 => ?_); (exact rfl); ((iterate 4 exact rfl); exact Nat.le_of_ble_eq_true rfl; exact aggMass; replace E := Only.ext (E) hO5 (by omega); replace B0 := Blk.only (B0) hO5 (by omega); replace B1 := Blk.only (B1) hO5 (by omega); replace B2 := Blk.only (B2) hO5 (by omega); replace B3 : Blk W5 (w.heap.size + 3) 47 XMass.zero.cells := BR5; clear BR5 hO5)) | fail)
    exact bodyPost_ret (results_cct rfl rfl (B2) aggMass rfl (B3) aggMass) rfl ⟨XMass.zero, XMass.zero, by rw [HR.out] <;> rfl, by rw [HR.out] <;> rfl, by rw [HR.out] <;> rfl, XMass.zero_mine _ _, XMass.zero_mine _ _, E⟩
  have C0 := Lib.hid (chk_yes q0)
  have C1 := Lib.hid (chk_yes q1)
  have i0 := idxP0
  have i1 := idxP1
  have P0 : Hid (mayD x.c.data ∧ mayD y.c.data) := Lib.hid ⟨q0.2.2.1, q1.2.2.1⟩
  obtain ⟨e0, h0⟩ : ∃ e, (middleD x.c.data y.c.data).2.2 = e := ⟨_, rfl⟩
  have t0 : e0 = 0 ∨ e0 = 10 := by
    rw [← h0]
    rcases middleD_err P0.out.1 P0.out.2 with h | h
    · exact .inl h.1
    · right; rw [h]
  have G0 := Lib.hid h0
  have P1 : Hid (mayD x.a.data ∧ mayD y.a.data) := Lib.hid ⟨q0.2.2.2, q1.2.2.2⟩
  obtain ⟨e1, h1⟩ : ∃ e, (middleD x.a.data y.a.data).2.2 = e := ⟨_, rfl⟩
  have t1 : e1 = 0 ∨ e1 = 10 := by
    rw [← h1]
    rcases middleD_err P1.out.1 P1.out.2 with h | h
    · exact .inl h.1
    · right; rw [h]
  have G1 := Lib.hid h1
  rcases t0 with rfl | rfl
  rotate_left
  · have HR : Hid (meetM x.data y.data = (PMass.zero, PMass.zero, 10)) := Lib.hid (by unfold meetM; rw [if_pos ⟨q0, q1⟩, if_neg]; intro h; exact absurd (h0.symm.trans h.1) (by decide))
    clear q0 q1 h0 h1 t1
    go_enter Tryd.func49, Tryd.ntmps49
    go_wp2_with fail
    refine calls_nm fun W1 hW => ?_
    have B0 : Blk W1 (w.heap.size) 47 x.cells := by rw [hW]; exact (((Blk.new (by simp)).alloc _).alloc _).alloc _
    have B1 : Blk W1 (w.heap.size + 1) 47 y.cells := by rw [hW]; exact ((Blk.new (by simp)).alloc _).alloc _
    have B2 : Blk W1 (w.heap.size + 2) 47 XMass.zero.cells := by rw [hW]; exact (Blk.new (by simp)).alloc _
    have B3 : Blk W1 (w.heap.size + 3) 47 XMass.zero.cells := by rw [hW]; exact Blk.new (by simp)
    have E : Ext w W1 := by rw [hW]; exact Ext.alloc' (Ext.alloc' (Ext.alloc' (Ext.alloc' (Ext.refl _) _) _) _) _
    clear hW
    refine (mass_Check x _ (HX.out.ext E)).mono ?_
    rw [C0.out]
    rintro e W2 ⟨rfl, hE⟩
    replace B0 := B0.ext hE
    replace B1 := B1.ext hE
    replace B2 := B2.ext hE
    replace B3 := B3.ext hE
    replace E := E.trans hE
    clear hE
    go_wp2_with (first | ((with_reducible refine ld B1 (0) y.cells 47 (.tmp 3) ?_ ?_ ?_ ?_ ?_ ?_); (exact rfl); ((iterate 2 exact rfl); exact rfl; exact aggMass)) | fail)
    refine (mass_Check y _ (HY.out.ext E)).mono ?_
    rw [C1.out]
    rintro e W3 ⟨rfl, hE⟩
    replace B0 := B0.ext hE
    replace B1 := B1.ext hE
    replace B2 := B2.ext hE
    replace B3 := B3.ext hE
    replace E := E.trans hE
    clear hE
    go_wp2_with (first | ((with_reducible refine ld B1 (0) y.cells 47 (.tmp 3) ?_ ?_ ?_ ?_ ?_ ?_); (exact rfl); ((iterate 2 exact rfl); exact rfl; exact aggMass)) | ((with_reducible refine st (B2) (0) y.cells 47 (.tmp 4) (.tmp 24) ?_ ?_ ?_ ?_ ?_ ?_ ?_ fun W4 BR4 hO4 => ?_); (exact rfl); ((iterate 4 exact rfl); exact Nat.le_of_ble_eq_true rfl; exact aggMass; replace E := Only.ext (E) hO4 (by omega); replace B0 := Blk.only (B0) hO4 (by omega); replace B1 := Blk.only (B1) hO4 (by omega); replace B3 := Blk.only (B3) hO4 (by omega); replace B2 : Blk W4 (w.heap.size + 2) 47 y.cells := BR4; clear BR4 hO4)) | fail)
    refine (mean_pair (w.heap.size) _).mono ?_
    rintro e W5 ⟨rfl, hE⟩
    replace B0 := B0.ext hE
    replace B1 := B1.ext hE
    replace B2 := B2.ext hE
    replace B3 := B3.ext hE
    replace E := E.trans hE
    clear hE
    go_wp2_with fail
    refine (mean_pair (w.heap.size + 3) _).mono ?_
    rintro e W6 ⟨rfl, hE⟩
    replace B0 := B0.ext hE
    replace B1 := B1.ext hE
    replace B2 := B2.ext hE
    replace B3 := B3.ext hE
    replace E := E.trans hE
    clear hE
    have L6_3 := B3.lt
    go_wp2_with fail
    refine calls_nm fun W7 hW => ?_
    replace B0 : Blk W7 (w.heap.size) 47 x.cells := by rw [hW]; exact (B0.alloc _).alloc _
    replace B1 : Blk W7 (w.heap.size + 1) 47 y.cells := by rw [hW]; exact (B1.alloc _).alloc _
    replace B2 : Blk W7 (w.heap.size + 2) 47 y.cells := by rw [hW]; exact (B2.alloc _).alloc _
    replace B3 : Blk W7 (w.heap.size + 3) 47 XMass.zero.cells := by rw [hW]; exact (B3.alloc _).alloc _
    have B4 : Blk W7 (W6.heap.size) 130 [.pointer (some ⟨w.heap.size, 6, none⟩), .pointer (some ⟨w.heap.size, 9, none⟩)] := by rw [hW]; exact (Blk.new (by simp)).alloc _
    have B5 : Blk W7 (W6.heap.size + 1) 130 [.pointer (some ⟨w.heap.size + 3, 6, none⟩), .pointer (some ⟨w.heap.size + 3, 9, none⟩)] := by rw [hW]; exact Blk.new (by simp)
    replace E : Ext w W7 := by rw [hW]; exact Ext.alloc' (Ext.alloc' E _) _
    clear hW
    refine (mean_pair (w.heap.size + 2) _).mono ?_
    rintro e W8 ⟨rfl, hE⟩
    replace B0 := B0.ext hE
    replace B1 := B1.ext hE
    replace B2 := B2.ext hE
    replace B3 := B3.ext hE
    replace B4 := B4.ext hE
    replace B5 := B5.ext hE
    replace E := E.trans hE
    clear hE
    go_wp2_with fail
    refine wp_loop_rounds 3 ?_
    rw [rounds_succ]
    go_wp2_with fail
    have L8_5 := B5.lt
    refine FG.wp_region_flowTail 17 (fun w' => W8.heap.size ≤ w'.heap.size) (Ext W8) Ext (chK W8 [8] [15, 16] [2, 4, 7] [(13, 24, XDyad.zero.cells), (14, 24, XDyad.zero.cells)]) [8] (by kernel_rfl) (by kernel_rfl) (by kernel_rfl) (fun _ _ h => Ext.size h) (Nat.le_refl _) (chK_early (Ext.drew _)) (Ext.drew _) (fun _ _ h k => h.trans k) ?_
    iterate 2 (refine FG.ftext_det rfl rfl ?_; apply Exists.intro; refine ⟨fun w hC => ?_, fun K hK => ?_⟩; (first | (go_simp; exact rfl) | (go_simp; exact ⟨rfl, rfl⟩) | (go_simp; exact trivial)); go_simp; refine hK _ ?_; clear hK K)
    refine FG.ftext_early (Ext W8) rfl rfl ?_; apply Exists.intro; refine ⟨fun w1 _ hE => ?_, fun K hK => ?_⟩; (have hc := Blk.cell (B4.ext hE) 0; simp only [List.getElem?_cons_zero] at hc; go_simp; first | exact ⟨rfl, rfl⟩ | exact rfl)
    go_simp; refine hK _ ?_; clear hK K
    iterate 1 (refine FG.ftext_det rfl rfl ?_; apply Exists.intro; refine ⟨fun w hC => ?_, fun K hK => ?_⟩; (first | (go_simp; exact rfl) | (go_simp; exact ⟨rfl, rfl⟩) | (go_simp; exact trivial)); go_simp; refine hK _ ?_; clear hK K)
    refine FG.ftext_load_early (Ext W8) 24 _ rfl rfl rfl (w.heap.size) (6) (x.c.cells) rfl aggDyad (fun w1 _ hE => Blk.at (n := 3) (B0.ext hE) rfl) (fun K hK => ?_)
    go_simp; refine hK _ ?_; clear hK K
    iterate 2 (refine FG.ftext_det rfl rfl ?_; apply Exists.intro; refine ⟨fun w hC => ?_, fun K hK => ?_⟩; (first | (go_simp; exact rfl) | (go_simp; exact ⟨rfl, rfl⟩) | (go_simp; exact trivial)); go_simp; refine hK _ ?_; clear hK K)
    refine FG.ftext_load_early (Ext W8) 24 _ rfl rfl rfl (w.heap.size + 2) (6) (y.c.cells) rfl aggDyad (fun w1 _ hE => Blk.at (n := 3) (B2.ext hE) rfl) (fun K hK => ?_)
    go_simp; refine hK _ ?_; clear hK K
    refine FG.ftext_seq (fun v => ∃ (m0_0 : Bool) (m0_1 : Option Addr) (m0_2 m0_3 : Nat) (m0_4 : Int) (d0_0 : Bool) (d0_1 : Option Addr) (d0_2 d0_3 : Nat) (d0_4 : Int), v = .tuple #[.agg #[.bool m0_0, .slice m0_1 m0_2 m0_3, .int .i64 m0_4], .agg #[.bool d0_0, .slice d0_1 d0_2 d0_3, .int .i64 d0_4], .int .i64 10]) (fun v W' => ∃ (m0 : XDyad) (d0 : XDyad), v = .tuple #[.agg #[.bool m0.neg, .slice m0.limbs.A m0.limbs.l.length m0.limbs.c, .int .i64 m0.exp], .agg #[.bool d0.neg, .slice d0.limbs.A d0.limbs.l.length d0.limbs.c, .int .i64 d0.exp], .int .i64 10] ∧ m0.data = (middleD x.c.data y.c.data).1 ∧ d0.data = (middleD x.c.data y.c.data).2.1 ∧ m0.mine W' W8.heap.size ∧ d0.mine W' W8.heap.size ∧ Ext W8 W') rfl rfl ⟨_, false, none, 0, 0, 0, false, none, 0, 0, 0, rfl⟩ (fun v w1 w2 h hR => ?_) (fun w1 hC hJ hF Φ hΦ => ?_) (fun v hv K hK => ?_)
    · obtain ⟨m0, d0, hv0, f0_m0_d0, f1_m0_d0, f2_m0_d0, f3_m0_d0, jE⟩ := h
      exact ⟨m0, d0, hv0, f0_m0_d0, f1_m0_d0, f2_m0_d0.ext hR, f3_m0_d0.ext hR, jE.trans hR⟩
    · have jE := hJ
      go_simp
      refine (mean_middle x.c y.c _ (HX.out.ext (E.trans jE)).c (HY.out.ext (E.trans jE)).c ((FX.out).2.2.1) ((FY.out).2.2.1) P0.out.1 P0.out.2 (HT.out.ext (E.trans jE))).mono ?_
      rw [G0.out]
      rintro e w2 ⟨m0, d0, rfl, hd0, hd1, hm0, hm1, hE⟩
      exact ⟨_, rfl, hΦ _ _ ⟨_, _, _, _, _, _, _, _, _, _, rfl⟩ (Nat.le_trans hC (Ext.size hE)) hE ⟨m0, d0, rfl, hd0, hd1, (XDyad.mine.lower hm0 (Ext.size jE)), (XDyad.mine.lower hm1 (Ext.size jE)), jE.trans hE⟩⟩
    obtain ⟨m0_0, m0_1, m0_2, m0_3, m0_4, d0_0, d0_1, d0_2, d0_3, d0_4, rfl⟩ := hv
    go_simp; refine hK _ ?_; clear hK K
    iterate 4 (refine FG.ftext_det rfl rfl ?_; apply Exists.intro; refine ⟨fun w hC => ?_, fun K hK => ?_⟩; (first | (go_simp; exact rfl) | (go_simp; exact ⟨rfl, rfl⟩) | (go_simp; exact trivial)); go_simp; refine hK _ ?_; clear hK K)
    refine FG.ftext_fresh _ _ _ rfl rfl (fun w hC => ⟨hC, ?_⟩) (fun g _ _ h hr => Blk.ext h hr) (fun g6 hn_6 hs_6 K hK => ?_)
    · go_simp; first | exact ⟨rfl, Nat.le_trans hC (Ext.size (Ext.alloc _ _)), Ext.alloc _ _, Blk.new rfl⟩ | exact ⟨Nat.le_succ_of_le hC, Ext.alloc _ _, Blk.new rfl⟩
    go_simp; refine hK _ ?_; clear hK K
    refine FG.ftext_fresh _ _ _ rfl rfl (fun w hC => ⟨hC, ?_⟩) (fun g _ _ h hr => Blk.ext h hr) (fun g7 hn_7 hs_7 K hK => ?_)
    · go_simp; first | exact ⟨rfl, Nat.le_trans hC (Ext.size (Ext.alloc _ _)), Ext.alloc _ _, Blk.new rfl⟩ | exact ⟨Nat.le_succ_of_le hC, Ext.alloc _ _, Blk.new rfl⟩
    have n_7_6 : g7 ≠ g6 := fun e => hn_7 (by rw [e]; exact List.Mem.head _)
    go_simp; refine hK _ ?_; clear hK K
    refine FG.ftext_store 24 _ _ (fun W' => ∃ (m0 : XDyad) (d0 : XDyad) (V0 : World), (.tuple #[.agg #[.bool m0_0, .slice m0_1 m0_2 m0_3, .int .i64 m0_4], .agg #[.bool d0_0, .slice d0_1 d0_2 d0_3, .int .i64 d0_4], .int .i64 10] : Value) = .tuple #[.agg #[.bool m0.neg, .slice m0.limbs.A m0.limbs.l.length m0.limbs.c, .int .i64 m0.exp], .agg #[.bool d0.neg, .slice d0.limbs.A d0.limbs.l.length d0.limbs.c, .int .i64 d0.exp], .int .i64 10] ∧ m0.data = (middleD x.c.data y.c.data).1 ∧ d0.data = (middleD x.c.data y.c.data).2.1 ∧ m0.mine V0 W8.heap.size ∧ d0.mine V0 W8.heap.size ∧ Ext W8 V0 ∧ Blk V0 g6 24 XDyad.zero.cells ∧ Blk V0 g7 24 XDyad.zero.cells ∧ Blk W' (g6) 24 m0.cells ∧ Only V0 W' (g6)) rfl rfl rfl (fun w1 hC hJ hF => ?_) (fun K hK => ?_)
    · obtain ⟨m0, d0, q_m0_d0, f0_m0_d0, f1_m0_d0, f2_m0_d0, f3_m0_d0, jE⟩ := hJ
      obtain ⟨⟨_, z_6⟩, z_7⟩ := hF
      obtain ⟨rfl, rfl, rfl, rfl, rfl⟩ := eqDyad (congrArg (fun v : Value => match v with | .tuple a => a.getD 0 undef | _ => v) q_m0_d0)
      obtain ⟨rfl, rfl, rfl, rfl, rfl⟩ := eqDyad (congrArg (fun v : Value => match v with | .tuple a => a.getD 1 undef | _ => v) q_m0_d0)
      exact ⟨g6, 0, 24, XDyad.zero.cells, m0.cells, rfl, rfl, aggDyad, z_6, Nat.le_of_ble_eq_true rfl, rfl, fun w' BR hO => ⟨by show _ ≤ _; rw [hO.size]; exact hC, m0, d0, w1, rfl, f0_m0_d0, f1_m0_d0, f2_m0_d0, f3_m0_d0, jE, z_6, z_7, BR, hO⟩⟩
    go_simp; refine hK _ ?_; clear hK K
    refine FG.ftext_store 24 _ _ (fun W' => ∃ (m0 : XDyad) (d0 : XDyad) (V0 : World) (V1 : World), (.tuple #[.agg #[.bool m0_0, .slice m0_1 m0_2 m0_3, .int .i64 m0_4], .agg #[.bool d0_0, .slice d0_1 d0_2 d0_3, .int .i64 d0_4], .int .i64 10] : Value) = .tuple #[.agg #[.bool m0.neg, .slice m0.limbs.A m0.limbs.l.length m0.limbs.c, .int .i64 m0.exp], .agg #[.bool d0.neg, .slice d0.limbs.A d0.limbs.l.length d0.limbs.c, .int .i64 d0.exp], .int .i64 10] ∧ m0.data = (middleD x.c.data y.c.data).1 ∧ d0.data = (middleD x.c.data y.c.data).2.1 ∧ m0.mine V0 W8.heap.size ∧ d0.mine V0 W8.heap.size ∧ Ext W8 V0 ∧ Blk V0 g6 24 XDyad.zero.cells ∧ Blk V0 g7 24 XDyad.zero.cells ∧ Blk V1 (g6) 24 m0.cells ∧ Only V0 V1 (g6) ∧ Blk W' (g7) 24 d0.cells ∧ Only V1 W' (g7)) rfl rfl rfl (fun w1 hC hJ hF => ?_) (fun K hK => ?_)
    · obtain ⟨m0, d0, V0, q_m0_d0, f0_m0_d0, f1_m0_d0, f2_m0_d0, f3_m0_d0, jE, z_6, z_7, jB0, jO0⟩ := hJ
      obtain ⟨rfl, rfl, rfl, rfl, rfl⟩ := eqDyad (congrArg (fun v : Value => match v with | .tuple a => a.getD 0 undef | _ => v) q_m0_d0)
      obtain ⟨rfl, rfl, rfl, rfl, rfl⟩ := eqDyad (congrArg (fun v : Value => match v with | .tuple a => a.getD 1 undef | _ => v) q_m0_d0)
      exact ⟨g7, 0, 24, XDyad.zero.cells, d0.cells, rfl, rfl, aggDyad, (Blk.only z_7 jO0 (by omega)), Nat.le_of_ble_eq_true rfl, rfl, fun w' BR hO => ⟨by show _ ≤ _; rw [hO.size]; exact hC, m0, d0, V0, w1, rfl, f0_m0_d0, f1_m0_d0, f2_m0_d0, f3_m0_d0, jE, z_6, z_7, jB0, jO0, BR, hO⟩⟩
    go_simp; refine hK _ ?_; clear hK K
    refine FG.ftext_nil ?_
    rintro W9 _ ⟨m0, d0, V0, V1, q_m0_d0, f0_m0_d0, f1_m0_d0, f2_m0_d0, f3_m0_d0, jE, z_6, z_7, jB0, jO0, jB1, jO1⟩ hF
    clear hF
    obtain ⟨rfl, rfl, rfl, rfl, rfl⟩ := eqDyad (congrArg (fun v : Value => match v with | .tuple a => a.getD 0 undef | _ => v) q_m0_d0)
    obtain ⟨rfl, rfl, rfl, rfl, rfl⟩ := eqDyad (congrArg (fun v : Value => match v with | .tuple a => a.getD 1 undef | _ => v) q_m0_d0)
    have hz := E.size
    have M_m0 : m0.mine W9 w.heap.size := XDyad.mine.lower ((f2_m0_d0.only z_6 jO0 jB0 rfl (by decide)).only (Blk.only z_7 jO0 (by omega)) jO1 jB1 rfl (by decide)) hz
    have D_m0 := Lib.hid f0_m0_d0
    have F_m0 : Hid (Fine m0.data) := Lib.hid (by rw [f0_m0_d0]; exact (middleD_fine _ _).1)
    have M_d0 : d0.mine W9 w.heap.size := XDyad.mine.lower ((f3_m0_d0.only z_6 jO0 jB0 rfl (by decide)).only (Blk.only z_7 jO0 (by omega)) jO1 jB1 rfl (by decide)) hz
    have D_d0 := Lib.hid f1_m0_d0
    have F_d0 : Hid (Fine d0.data) := Lib.hid (by rw [f1_m0_d0]; exact (middleD_fine _ _).2)
    replace B0 : Blk W9 (w.heap.size) 47 x.cells := (Blk.only (Blk.only (B0.ext jE) jO0 (by omega)) jO1 (by omega))
    replace B1 : Blk W9 (w.heap.size + 1) 47 y.cells := (Blk.only (Blk.only (B1.ext jE) jO0 (by omega)) jO1 (by omega))
    replace B2 : Blk W9 (w.heap.size + 2) 47 y.cells := (Blk.only (Blk.only (B2.ext jE) jO0 (by omega)) jO1 (by omega))
    replace B3 : Blk W9 (w.heap.size + 3) 47 XMass.zero.cells := (Blk.only (Blk.only (B3.ext jE) jO0 (by omega)) jO1 (by omega))
    replace B4 : Blk W9 (W6.heap.size) 130 [.pointer (some ⟨w.heap.size, 6, none⟩), .pointer (some ⟨w.heap.size, 9, none⟩)] := (Blk.only (Blk.only (B4.ext jE) jO0 (by omega)) jO1 (by omega))
    replace B5 : Blk W9 (W6.heap.size + 1) 130 [.pointer (some ⟨w.heap.size + 3, 6, none⟩), .pointer (some ⟨w.heap.size + 3, 9, none⟩)] := (Blk.only (Blk.only (B5.ext jE) jO0 (by omega)) jO1 (by omega))
    have B6 : Blk W9 (g6) 24 m0.cells := (Blk.only jB0 jO1 (by omega))
    have B7 : Blk W9 (g7) 24 d0.cells := jB1
    replace E : Ext w W9 := Only.ext (Only.ext (E.trans jE) jO0 (by omega)) jO1 (by omega)
    clear hz jE jB0 jB1 jO0 jO1 z_6 z_7 f0_m0_d0 f1_m0_d0 f2_m0_d0 f3_m0_d0 q_m0_d0
    simp only [List.drop_succ_cons, List.drop_zero]
    gi_wp2_with fail
    go_wp2_with (first | ((with_reducible refine st (B2) (0) XMass.zero.cells 47 (.tmp 4) (.tmp 47) ?_ ?_ ?_ ?_ ?_ ?_ ?_ fun W10 BR10 hO10 => ?_); (exact rfl); ((iterate 4 exact rfl); exact Nat.le_of_ble_eq_true rfl; exact aggMass; replace M_m0 := M_m0.only (B2) hO10 BR10 rfl (by decide); replace M_d0 := M_d0.only (B2) hO10 BR10 rfl (by decide); replace E := Only.ext (E) hO10 (by omega); replace B0 := Blk.only (B0) hO10 (by omega); replace B1 := Blk.only (B1) hO10 (by omega); replace B3 := Blk.only (B3) hO10 (by omega); replace B4 := Blk.only (B4) hO10 (by omega); replace B5 := Blk.only (B5) hO10 (by omega); replace B6 := Blk.only (B6) hO10 (by omega); replace B7 := Blk.only (B7) hO10 (by omega); replace B2 : Blk W10 (w.heap.size + 2) 47 XMass.zero.cells := BR10; clear BR10 hO10)) | ((with_reducible refine st (B3) (0) XMass.zero.cells 47 (.tmp 5) (.tmp 48) ?_ ?_ ?_ ?_ ?_ ?_ ?_ fun W11 BR11 hO11 => ?_); (exact rfl); ((iterate 4 exact rfl); exact Nat.le_of_ble_eq_true rfl; exact aggMass; replace M_m0 := M_m0.only (B3) hO11 BR11 rfl (by decide); replace M_d0 := M_d0.only (B3) hO11 BR11 rfl (by decide); replace E := Only.ext (E) hO11 (by omega); replace B0 := Blk.only (B0) hO11 (by omega); replace B1 := Blk.only (B1) hO11 (by omega); replace B2 := Blk.only (B2) hO11 (by omega); replace B4 := Blk.only (B4) hO11 (by omega); replace B5 := Blk.only (B5) hO11 (by omega); replace B6 := Blk.only (B6) hO11 (by omega); replace B7 := Blk.only (B7) hO11 (by omega); replace B3 : Blk W11 (w.heap.size + 3) 47 XMass.zero.cells := BR11; clear BR11 hO11)) | fail)
    exact bodyPost_ret (results_cct rfl rfl (B2) aggMass rfl (B3) aggMass) rfl ⟨XMass.zero, XMass.zero, by rw [HR.out] <;> rfl, by rw [HR.out] <;> rfl, by rw [HR.out] <;> rfl, XMass.zero_mine _ _, XMass.zero_mine _ _, E⟩
  rcases t1 with rfl | rfl
  rotate_left
  · have HR : Hid (meetM x.data y.data = (PMass.zero, PMass.zero, 10)) := Lib.hid (by unfold meetM; rw [if_pos ⟨q0, q1⟩, if_neg]; intro h; exact absurd (h1.symm.trans h.2) (by decide))
    clear q0 q1 h0 h1
    go_enter Tryd.func49, Tryd.ntmps49
    go_wp2_with fail
    refine calls_nm fun W1 hW => ?_
    have B0 : Blk W1 (w.heap.size) 47 x.cells := by rw [hW]; exact (((Blk.new (by simp)).alloc _).alloc _).alloc _
    have B1 : Blk W1 (w.heap.size + 1) 47 y.cells := by rw [hW]; exact ((Blk.new (by simp)).alloc _).alloc _
    have B2 : Blk W1 (w.heap.size + 2) 47 XMass.zero.cells := by rw [hW]; exact (Blk.new (by simp)).alloc _
    have B3 : Blk W1 (w.heap.size + 3) 47 XMass.zero.cells := by rw [hW]; exact Blk.new (by simp)
    have E : Ext w W1 := by rw [hW]; exact Ext.alloc' (Ext.alloc' (Ext.alloc' (Ext.alloc' (Ext.refl _) _) _) _) _
    clear hW
    refine (mass_Check x _ (HX.out.ext E)).mono ?_
    rw [C0.out]
    rintro e W2 ⟨rfl, hE⟩
    replace B0 := B0.ext hE
    replace B1 := B1.ext hE
    replace B2 := B2.ext hE
    replace B3 := B3.ext hE
    replace E := E.trans hE
    clear hE
    go_wp2_with (first | ((with_reducible refine ld B1 (0) y.cells 47 (.tmp 3) ?_ ?_ ?_ ?_ ?_ ?_); (exact rfl); ((iterate 2 exact rfl); exact rfl; exact aggMass)) | fail)
    refine (mass_Check y _ (HY.out.ext E)).mono ?_
    rw [C1.out]
    rintro e W3 ⟨rfl, hE⟩
    replace B0 := B0.ext hE
    replace B1 := B1.ext hE
    replace B2 := B2.ext hE
    replace B3 := B3.ext hE
    replace E := E.trans hE
    clear hE
    go_wp2_with (first | ((with_reducible refine ld B1 (0) y.cells 47 (.tmp 3) ?_ ?_ ?_ ?_ ?_ ?_); (exact rfl); ((iterate 2 exact rfl); exact rfl; exact aggMass)) | ((with_reducible refine st (B2) (0) y.cells 47 (.tmp 4) (.tmp 24) ?_ ?_ ?_ ?_ ?_ ?_ ?_ fun W4 BR4 hO4 => ?_); (exact rfl); ((iterate 4 exact rfl); exact Nat.le_of_ble_eq_true rfl; exact aggMass; replace E := Only.ext (E) hO4 (by omega); replace B0 := Blk.only (B0) hO4 (by omega); replace B1 := Blk.only (B1) hO4 (by omega); replace B3 := Blk.only (B3) hO4 (by omega); replace B2 : Blk W4 (w.heap.size + 2) 47 y.cells := BR4; clear BR4 hO4)) | fail)
    refine (mean_pair (w.heap.size) _).mono ?_
    rintro e W5 ⟨rfl, hE⟩
    replace B0 := B0.ext hE
    replace B1 := B1.ext hE
    replace B2 := B2.ext hE
    replace B3 := B3.ext hE
    replace E := E.trans hE
    clear hE
    go_wp2_with fail
    refine (mean_pair (w.heap.size + 3) _).mono ?_
    rintro e W6 ⟨rfl, hE⟩
    replace B0 := B0.ext hE
    replace B1 := B1.ext hE
    replace B2 := B2.ext hE
    replace B3 := B3.ext hE
    replace E := E.trans hE
    clear hE
    have L6_3 := B3.lt
    go_wp2_with fail
    refine calls_nm fun W7 hW => ?_
    replace B0 : Blk W7 (w.heap.size) 47 x.cells := by rw [hW]; exact (B0.alloc _).alloc _
    replace B1 : Blk W7 (w.heap.size + 1) 47 y.cells := by rw [hW]; exact (B1.alloc _).alloc _
    replace B2 : Blk W7 (w.heap.size + 2) 47 y.cells := by rw [hW]; exact (B2.alloc _).alloc _
    replace B3 : Blk W7 (w.heap.size + 3) 47 XMass.zero.cells := by rw [hW]; exact (B3.alloc _).alloc _
    have B4 : Blk W7 (W6.heap.size) 130 [.pointer (some ⟨w.heap.size, 6, none⟩), .pointer (some ⟨w.heap.size, 9, none⟩)] := by rw [hW]; exact (Blk.new (by simp)).alloc _
    have B5 : Blk W7 (W6.heap.size + 1) 130 [.pointer (some ⟨w.heap.size + 3, 6, none⟩), .pointer (some ⟨w.heap.size + 3, 9, none⟩)] := by rw [hW]; exact Blk.new (by simp)
    replace E : Ext w W7 := by rw [hW]; exact Ext.alloc' (Ext.alloc' E _) _
    clear hW
    refine (mean_pair (w.heap.size + 2) _).mono ?_
    rintro e W8 ⟨rfl, hE⟩
    replace B0 := B0.ext hE
    replace B1 := B1.ext hE
    replace B2 := B2.ext hE
    replace B3 := B3.ext hE
    replace B4 := B4.ext hE
    replace B5 := B5.ext hE
    replace E := E.trans hE
    clear hE
    go_wp2_with fail
    refine wp_loop_rounds 3 ?_
    rw [rounds_succ]
    go_wp2_with fail
    have L8_5 := B5.lt
    refine FG.wp_region_flowTail 17 (fun w' => W8.heap.size ≤ w'.heap.size) (Ext W8) Ext (chK W8 [8] [15, 16] [2, 4, 7] [(13, 24, XDyad.zero.cells), (14, 24, XDyad.zero.cells)]) [8] (by kernel_rfl) (by kernel_rfl) (by kernel_rfl) (fun _ _ h => Ext.size h) (Nat.le_refl _) (chK_early (Ext.drew _)) (Ext.drew _) (fun _ _ h k => h.trans k) ?_
    iterate 2 (refine FG.ftext_det rfl rfl ?_; apply Exists.intro; refine ⟨fun w hC => ?_, fun K hK => ?_⟩; (first | (go_simp; exact rfl) | (go_simp; exact ⟨rfl, rfl⟩) | (go_simp; exact trivial)); go_simp; refine hK _ ?_; clear hK K)
    refine FG.ftext_early (Ext W8) rfl rfl ?_; apply Exists.intro; refine ⟨fun w1 _ hE => ?_, fun K hK => ?_⟩; (have hc := Blk.cell (B4.ext hE) 0; simp only [List.getElem?_cons_zero] at hc; go_simp; first | exact ⟨rfl, rfl⟩ | exact rfl)
    go_simp; refine hK _ ?_; clear hK K
    iterate 1 (refine FG.ftext_det rfl rfl ?_; apply Exists.intro; refine ⟨fun w hC => ?_, fun K hK => ?_⟩; (first | (go_simp; exact rfl) | (go_simp; exact ⟨rfl, rfl⟩) | (go_simp; exact trivial)); go_simp; refine hK _ ?_; clear hK K)
    refine FG.ftext_load_early (Ext W8) 24 _ rfl rfl rfl (w.heap.size) (6) (x.c.cells) rfl aggDyad (fun w1 _ hE => Blk.at (n := 3) (B0.ext hE) rfl) (fun K hK => ?_)
    go_simp; refine hK _ ?_; clear hK K
    iterate 2 (refine FG.ftext_det rfl rfl ?_; apply Exists.intro; refine ⟨fun w hC => ?_, fun K hK => ?_⟩; (first | (go_simp; exact rfl) | (go_simp; exact ⟨rfl, rfl⟩) | (go_simp; exact trivial)); go_simp; refine hK _ ?_; clear hK K)
    refine FG.ftext_load_early (Ext W8) 24 _ rfl rfl rfl (w.heap.size + 2) (6) (y.c.cells) rfl aggDyad (fun w1 _ hE => Blk.at (n := 3) (B2.ext hE) rfl) (fun K hK => ?_)
    go_simp; refine hK _ ?_; clear hK K
    refine FG.ftext_seq (fun v => ∃ (m0_0 : Bool) (m0_1 : Option Addr) (m0_2 m0_3 : Nat) (m0_4 : Int) (d0_0 : Bool) (d0_1 : Option Addr) (d0_2 d0_3 : Nat) (d0_4 : Int), v = .tuple #[.agg #[.bool m0_0, .slice m0_1 m0_2 m0_3, .int .i64 m0_4], .agg #[.bool d0_0, .slice d0_1 d0_2 d0_3, .int .i64 d0_4], .int .i64 0]) (fun v W' => ∃ (m0 : XDyad) (d0 : XDyad), v = .tuple #[.agg #[.bool m0.neg, .slice m0.limbs.A m0.limbs.l.length m0.limbs.c, .int .i64 m0.exp], .agg #[.bool d0.neg, .slice d0.limbs.A d0.limbs.l.length d0.limbs.c, .int .i64 d0.exp], .int .i64 0] ∧ m0.data = (middleD x.c.data y.c.data).1 ∧ d0.data = (middleD x.c.data y.c.data).2.1 ∧ m0.mine W' W8.heap.size ∧ d0.mine W' W8.heap.size ∧ Ext W8 W') rfl rfl ⟨_, false, none, 0, 0, 0, false, none, 0, 0, 0, rfl⟩ (fun v w1 w2 h hR => ?_) (fun w1 hC hJ hF Φ hΦ => ?_) (fun v hv K hK => ?_)
    · obtain ⟨m0, d0, hv0, f0_m0_d0, f1_m0_d0, f2_m0_d0, f3_m0_d0, jE⟩ := h
      exact ⟨m0, d0, hv0, f0_m0_d0, f1_m0_d0, f2_m0_d0.ext hR, f3_m0_d0.ext hR, jE.trans hR⟩
    · have jE := hJ
      go_simp
      refine (mean_middle x.c y.c _ (HX.out.ext (E.trans jE)).c (HY.out.ext (E.trans jE)).c ((FX.out).2.2.1) ((FY.out).2.2.1) P0.out.1 P0.out.2 (HT.out.ext (E.trans jE))).mono ?_
      rw [G0.out]
      rintro e w2 ⟨m0, d0, rfl, hd0, hd1, hm0, hm1, hE⟩
      exact ⟨_, rfl, hΦ _ _ ⟨_, _, _, _, _, _, _, _, _, _, rfl⟩ (Nat.le_trans hC (Ext.size hE)) hE ⟨m0, d0, rfl, hd0, hd1, (XDyad.mine.lower hm0 (Ext.size jE)), (XDyad.mine.lower hm1 (Ext.size jE)), jE.trans hE⟩⟩
    obtain ⟨m0_0, m0_1, m0_2, m0_3, m0_4, d0_0, d0_1, d0_2, d0_3, d0_4, rfl⟩ := hv
    go_simp; refine hK _ ?_; clear hK K
    iterate 4 (refine FG.ftext_det rfl rfl ?_; apply Exists.intro; refine ⟨fun w hC => ?_, fun K hK => ?_⟩; (first | (go_simp; exact rfl) | (go_simp; exact ⟨rfl, rfl⟩) | (go_simp; exact trivial)); go_simp; refine hK _ ?_; clear hK K)
    refine FG.ftext_fresh _ _ _ rfl rfl (fun w hC => ⟨hC, ?_⟩) (fun g _ _ h hr => Blk.ext h hr) (fun g6 hn_6 hs_6 K hK => ?_)
    · go_simp; first | exact ⟨rfl, Nat.le_trans hC (Ext.size (Ext.alloc _ _)), Ext.alloc _ _, Blk.new rfl⟩ | exact ⟨Nat.le_succ_of_le hC, Ext.alloc _ _, Blk.new rfl⟩
    go_simp; refine hK _ ?_; clear hK K
    refine FG.ftext_fresh _ _ _ rfl rfl (fun w hC => ⟨hC, ?_⟩) (fun g _ _ h hr => Blk.ext h hr) (fun g7 hn_7 hs_7 K hK => ?_)
    · go_simp; first | exact ⟨rfl, Nat.le_trans hC (Ext.size (Ext.alloc _ _)), Ext.alloc _ _, Blk.new rfl⟩ | exact ⟨Nat.le_succ_of_le hC, Ext.alloc _ _, Blk.new rfl⟩
    have n_7_6 : g7 ≠ g6 := fun e => hn_7 (by rw [e]; exact List.Mem.head _)
    go_simp; refine hK _ ?_; clear hK K
    refine FG.ftext_store 24 _ _ (fun W' => ∃ (m0 : XDyad) (d0 : XDyad) (V0 : World), (.tuple #[.agg #[.bool m0_0, .slice m0_1 m0_2 m0_3, .int .i64 m0_4], .agg #[.bool d0_0, .slice d0_1 d0_2 d0_3, .int .i64 d0_4], .int .i64 0] : Value) = .tuple #[.agg #[.bool m0.neg, .slice m0.limbs.A m0.limbs.l.length m0.limbs.c, .int .i64 m0.exp], .agg #[.bool d0.neg, .slice d0.limbs.A d0.limbs.l.length d0.limbs.c, .int .i64 d0.exp], .int .i64 0] ∧ m0.data = (middleD x.c.data y.c.data).1 ∧ d0.data = (middleD x.c.data y.c.data).2.1 ∧ m0.mine V0 W8.heap.size ∧ d0.mine V0 W8.heap.size ∧ Ext W8 V0 ∧ Blk V0 g6 24 XDyad.zero.cells ∧ Blk V0 g7 24 XDyad.zero.cells ∧ Blk W' (g6) 24 m0.cells ∧ Only V0 W' (g6)) rfl rfl rfl (fun w1 hC hJ hF => ?_) (fun K hK => ?_)
    · obtain ⟨m0, d0, q_m0_d0, f0_m0_d0, f1_m0_d0, f2_m0_d0, f3_m0_d0, jE⟩ := hJ
      obtain ⟨⟨_, z_6⟩, z_7⟩ := hF
      obtain ⟨rfl, rfl, rfl, rfl, rfl⟩ := eqDyad (congrArg (fun v : Value => match v with | .tuple a => a.getD 0 undef | _ => v) q_m0_d0)
      obtain ⟨rfl, rfl, rfl, rfl, rfl⟩ := eqDyad (congrArg (fun v : Value => match v with | .tuple a => a.getD 1 undef | _ => v) q_m0_d0)
      exact ⟨g6, 0, 24, XDyad.zero.cells, m0.cells, rfl, rfl, aggDyad, z_6, Nat.le_of_ble_eq_true rfl, rfl, fun w' BR hO => ⟨by show _ ≤ _; rw [hO.size]; exact hC, m0, d0, w1, rfl, f0_m0_d0, f1_m0_d0, f2_m0_d0, f3_m0_d0, jE, z_6, z_7, BR, hO⟩⟩
    go_simp; refine hK _ ?_; clear hK K
    refine FG.ftext_store 24 _ _ (fun W' => ∃ (m0 : XDyad) (d0 : XDyad) (V0 : World) (V1 : World), (.tuple #[.agg #[.bool m0_0, .slice m0_1 m0_2 m0_3, .int .i64 m0_4], .agg #[.bool d0_0, .slice d0_1 d0_2 d0_3, .int .i64 d0_4], .int .i64 0] : Value) = .tuple #[.agg #[.bool m0.neg, .slice m0.limbs.A m0.limbs.l.length m0.limbs.c, .int .i64 m0.exp], .agg #[.bool d0.neg, .slice d0.limbs.A d0.limbs.l.length d0.limbs.c, .int .i64 d0.exp], .int .i64 0] ∧ m0.data = (middleD x.c.data y.c.data).1 ∧ d0.data = (middleD x.c.data y.c.data).2.1 ∧ m0.mine V0 W8.heap.size ∧ d0.mine V0 W8.heap.size ∧ Ext W8 V0 ∧ Blk V0 g6 24 XDyad.zero.cells ∧ Blk V0 g7 24 XDyad.zero.cells ∧ Blk V1 (g6) 24 m0.cells ∧ Only V0 V1 (g6) ∧ Blk W' (g7) 24 d0.cells ∧ Only V1 W' (g7)) rfl rfl rfl (fun w1 hC hJ hF => ?_) (fun K hK => ?_)
    · obtain ⟨m0, d0, V0, q_m0_d0, f0_m0_d0, f1_m0_d0, f2_m0_d0, f3_m0_d0, jE, z_6, z_7, jB0, jO0⟩ := hJ
      obtain ⟨rfl, rfl, rfl, rfl, rfl⟩ := eqDyad (congrArg (fun v : Value => match v with | .tuple a => a.getD 0 undef | _ => v) q_m0_d0)
      obtain ⟨rfl, rfl, rfl, rfl, rfl⟩ := eqDyad (congrArg (fun v : Value => match v with | .tuple a => a.getD 1 undef | _ => v) q_m0_d0)
      exact ⟨g7, 0, 24, XDyad.zero.cells, d0.cells, rfl, rfl, aggDyad, (Blk.only z_7 jO0 (by omega)), Nat.le_of_ble_eq_true rfl, rfl, fun w' BR hO => ⟨by show _ ≤ _; rw [hO.size]; exact hC, m0, d0, V0, w1, rfl, f0_m0_d0, f1_m0_d0, f2_m0_d0, f3_m0_d0, jE, z_6, z_7, jB0, jO0, BR, hO⟩⟩
    go_simp; refine hK _ ?_; clear hK K
    refine FG.ftext_nil ?_
    rintro W9 _ ⟨m0, d0, V0, V1, q_m0_d0, f0_m0_d0, f1_m0_d0, f2_m0_d0, f3_m0_d0, jE, z_6, z_7, jB0, jO0, jB1, jO1⟩ hF
    clear hF
    obtain ⟨rfl, rfl, rfl, rfl, rfl⟩ := eqDyad (congrArg (fun v : Value => match v with | .tuple a => a.getD 0 undef | _ => v) q_m0_d0)
    obtain ⟨rfl, rfl, rfl, rfl, rfl⟩ := eqDyad (congrArg (fun v : Value => match v with | .tuple a => a.getD 1 undef | _ => v) q_m0_d0)
    have hz := E.size
    have M_m0 : m0.mine W9 w.heap.size := XDyad.mine.lower ((f2_m0_d0.only z_6 jO0 jB0 rfl (by decide)).only (Blk.only z_7 jO0 (by omega)) jO1 jB1 rfl (by decide)) hz
    have D_m0 := Lib.hid f0_m0_d0
    have F_m0 : Hid (Fine m0.data) := Lib.hid (by rw [f0_m0_d0]; exact (middleD_fine _ _).1)
    have M_d0 : d0.mine W9 w.heap.size := XDyad.mine.lower ((f3_m0_d0.only z_6 jO0 jB0 rfl (by decide)).only (Blk.only z_7 jO0 (by omega)) jO1 jB1 rfl (by decide)) hz
    have D_d0 := Lib.hid f1_m0_d0
    have F_d0 : Hid (Fine d0.data) := Lib.hid (by rw [f1_m0_d0]; exact (middleD_fine _ _).2)
    replace B0 : Blk W9 (w.heap.size) 47 x.cells := (Blk.only (Blk.only (B0.ext jE) jO0 (by omega)) jO1 (by omega))
    replace B1 : Blk W9 (w.heap.size + 1) 47 y.cells := (Blk.only (Blk.only (B1.ext jE) jO0 (by omega)) jO1 (by omega))
    replace B2 : Blk W9 (w.heap.size + 2) 47 y.cells := (Blk.only (Blk.only (B2.ext jE) jO0 (by omega)) jO1 (by omega))
    replace B3 : Blk W9 (w.heap.size + 3) 47 XMass.zero.cells := (Blk.only (Blk.only (B3.ext jE) jO0 (by omega)) jO1 (by omega))
    replace B4 : Blk W9 (W6.heap.size) 130 [.pointer (some ⟨w.heap.size, 6, none⟩), .pointer (some ⟨w.heap.size, 9, none⟩)] := (Blk.only (Blk.only (B4.ext jE) jO0 (by omega)) jO1 (by omega))
    replace B5 : Blk W9 (W6.heap.size + 1) 130 [.pointer (some ⟨w.heap.size + 3, 6, none⟩), .pointer (some ⟨w.heap.size + 3, 9, none⟩)] := (Blk.only (Blk.only (B5.ext jE) jO0 (by omega)) jO1 (by omega))
    have B6 : Blk W9 (g6) 24 m0.cells := (Blk.only jB0 jO1 (by omega))
    have B7 : Blk W9 (g7) 24 d0.cells := jB1
    replace E : Ext w W9 := Only.ext (Only.ext (E.trans jE) jO0 (by omega)) jO1 (by omega)
    clear hz jE jB0 jB1 jO0 jO1 z_6 z_7 f0_m0_d0 f1_m0_d0 f2_m0_d0 f3_m0_d0 q_m0_d0
    simp only [List.drop_succ_cons, List.drop_zero]
    gi_wp2_with fail
    go_wp2_with fail
    refine FG.wp_region_flowTail 8 (fun w' => W9.heap.size ≤ w'.heap.size ∧ Blk w' (W6.heap.size + 1) 130 [.pointer (some ⟨w.heap.size + 3, 6, none⟩), .pointer (some ⟨w.heap.size + 3, 9, none⟩)] ∧ Blk w' (g7) 24 d0.cells) (Ext W9) Ext (chK W9 [] [7] [4] []) [] (by kernel_rfl) (by kernel_rfl) (by kernel_rfl) (fun _ _ h => Ext.size h) ⟨Nat.le_refl _, Blk.drew B5, Blk.drew B7⟩ (chK_early (Ext.drew _)) (Ext.drew _) (fun _ _ h k => h.trans k) ?_
    iterate 3 (refine FG.ftext_det rfl rfl ?_; apply Exists.intro; refine ⟨fun w hC => ?_, fun K hK => ?_⟩; (first | (go_simp; exact rfl) | (go_simp; exact ⟨rfl, rfl⟩) | (go_simp; exact trivial)); go_simp; refine hK _ ?_; clear hK K)
    refine FG.ftext_det rfl rfl ?_; apply Exists.intro; refine ⟨fun w1 hC => ?_, fun K hK => ?_⟩; (have hc := Blk.cell hC.2.1 0; simp only [List.getElem?_cons_zero] at hc; go_simp; first | exact ⟨rfl, rfl⟩ | exact rfl)
    go_simp; refine hK _ ?_; clear hK K
    refine FG.ftext_load_early (Ext W9) 24 _ rfl rfl rfl (g6) (0) (m0.cells) rfl aggDyad (fun w1 _ hE => Blk.at (n := 3) (B6.ext hE) rfl) (fun K hK => ?_)
    go_simp; refine hK _ ?_; clear hK K
    refine FG.ftext_load_row 24 _ rfl rfl rfl (g7) (0) (d0.cells) rfl aggDyad (fun w1 hC => Blk.at (n := 3) hC.2.2 rfl) (fun K hK => ?_)
    go_simp; refine hK _ ?_; clear hK K
    iterate 1 (refine FG.ftext_det rfl rfl ?_; apply Exists.intro; refine ⟨fun w hC => ?_, fun K hK => ?_⟩; (first | (go_simp; exact rfl) | (go_simp; exact ⟨rfl, rfl⟩) | (go_simp; exact trivial)); go_simp; refine hK _ ?_; clear hK K)
    refine FG.ftext_store 24 _ _ (fun W' => ∃ (V0 : World), Ext W9 V0 ∧ Blk W' (w.heap.size + 2) 47 (⟨y.s, y.w, m0, y.a⟩ : XMass).cells ∧ Only V0 W' (w.heap.size + 2)) rfl rfl rfl (fun w1 hC hJ hF => ?_) (fun K hK => ?_)
    · have jE := hJ
      exact ⟨w.heap.size + 2, 6, 47, y.cells, m0.cells, rfl, rfl, aggDyad, (B2.ext jE), Nat.le_of_ble_eq_true rfl, rfl, fun w' BR hO => ⟨⟨by show _ ≤ _; rw [hO.size]; exact hC.1, Blk.only hC.2.1 hO (by omega), Blk.only hC.2.2 hO (by omega)⟩, w1, jE, BR, hO⟩⟩
    go_simp; refine hK _ ?_; clear hK K
    refine FG.ftext_nil ?_
    rintro W10 _ ⟨V0, jE, jB0, jO0⟩ hF
    clear hF
    have hz := E.size
    replace M_m0 : m0.mine W10 w.heap.size := ((M_m0.ext jE).only (B2.ext jE) jO0 jB0 rfl (by decide))
    replace M_d0 : d0.mine W10 w.heap.size := ((M_d0.ext jE).only (B2.ext jE) jO0 jB0 rfl (by decide))
    replace B0 : Blk W10 (w.heap.size) 47 x.cells := (Blk.only (B0.ext jE) jO0 (by omega))
    replace B1 : Blk W10 (w.heap.size + 1) 47 y.cells := (Blk.only (B1.ext jE) jO0 (by omega))
    replace B2 : Blk W10 (w.heap.size + 2) 47 (⟨y.s, y.w, m0, y.a⟩ : XMass).cells := jB0
    replace B3 : Blk W10 (w.heap.size + 3) 47 XMass.zero.cells := (Blk.only (B3.ext jE) jO0 (by omega))
    replace B4 : Blk W10 (W6.heap.size) 130 [.pointer (some ⟨w.heap.size, 6, none⟩), .pointer (some ⟨w.heap.size, 9, none⟩)] := (Blk.only (B4.ext jE) jO0 (by omega))
    replace B5 : Blk W10 (W6.heap.size + 1) 130 [.pointer (some ⟨w.heap.size + 3, 6, none⟩), .pointer (some ⟨w.heap.size + 3, 9, none⟩)] := (Blk.only (B5.ext jE) jO0 (by omega))
    replace B6 : Blk W10 (g6) 24 m0.cells := (Blk.only (B6.ext jE) jO0 (by omega))
    replace B7 : Blk W10 (g7) 24 d0.cells := (Blk.only (B7.ext jE) jO0 (by omega))
    replace E : Ext w W10 := Only.ext (E.trans jE) jO0 (by omega)
    clear hz jE jB0 jO0
    simp only [List.drop_succ_cons, List.drop_zero]
    gi_wp2_with (first | ((with_reducible refine stIn Open.wide (B3) (6) d0.cells 24 (.tmp 57) (.tmp 55) ?_ ?_ ?_ ?_ ?_ ?_ ?_ fun W11 BR11 hO11 => ?_); (exact rfl); ((iterate 4 exact rfl); exact Nat.le_of_ble_eq_true rfl; exact aggDyad; replace M_m0 := M_m0.only (B3) hO11 BR11 rfl (by decide); replace M_d0 := M_d0.only (B3) hO11 BR11 rfl (by decide); replace E := Only.ext (E) hO11 (by omega); replace B0 := Blk.only (B0) hO11 (by omega); replace B1 := Blk.only (B1) hO11 (by omega); replace B2 := Blk.only (B2) hO11 (by omega); replace B4 := Blk.only (B4) hO11 (by omega); replace B5 := Blk.only (B5) hO11 (by omega); replace B6 := Blk.only (B6) hO11 (by omega); replace B7 := Blk.only (B7) hO11 (by omega); replace B3 : Blk W11 (w.heap.size + 3) 47 (⟨XDyad.zero, XDyad.zero, d0, XDyad.zero⟩ : XMass).cells := BR11; clear BR11 hO11)) | fail)
    go_wp2_with fail
    rw [rounds_succ]
    go_wp2_with fail
    have L11_6 := B6.lt
    have L11_7 := B7.lt
    refine FG.wp_region_flowTail 17 (fun w' => W11.heap.size ≤ w'.heap.size) (Ext W11) Ext (chK W11 [8] [15, 16] [2, 4, 7] [(13, 24, XDyad.zero.cells), (14, 24, XDyad.zero.cells)]) [8] (by kernel_rfl) (by kernel_rfl) (by kernel_rfl) (fun _ _ h => Ext.size h) (Nat.le_refl _) (chK_early (Ext.drew _)) (Ext.drew _) (fun _ _ h k => h.trans k) ?_
    iterate 2 (refine FG.ftext_det rfl rfl ?_; apply Exists.intro; refine ⟨fun w hC => ?_, fun K hK => ?_⟩; (first | (go_simp; exact rfl) | (go_simp; exact ⟨rfl, rfl⟩) | (go_simp; exact trivial)); go_simp; refine hK _ ?_; clear hK K)
    refine FG.ftext_early (Ext W11) rfl rfl ?_; apply Exists.intro; refine ⟨fun w1 _ hE => ?_, fun K hK => ?_⟩; (have hc := Blk.cell (B4.ext hE) 1; simp only [List.getElem?_cons_zero, List.getElem?_cons_succ] at hc; go_simp; first | exact ⟨rfl, rfl⟩ | exact rfl)
    go_simp; refine hK _ ?_; clear hK K
    iterate 1 (refine FG.ftext_det rfl rfl ?_; apply Exists.intro; refine ⟨fun w hC => ?_, fun K hK => ?_⟩; (first | (go_simp; exact rfl) | (go_simp; exact ⟨rfl, rfl⟩) | (go_simp; exact trivial)); go_simp; refine hK _ ?_; clear hK K)
    refine FG.ftext_load_early (Ext W11) 24 _ rfl rfl rfl (w.heap.size) (9) (x.a.cells) rfl aggDyad (fun w1 _ hE => Blk.at (n := 3) (B0.ext hE) rfl) (fun K hK => ?_)
    go_simp; refine hK _ ?_; clear hK K
    iterate 2 (refine FG.ftext_det rfl rfl ?_; apply Exists.intro; refine ⟨fun w hC => ?_, fun K hK => ?_⟩; (first | (go_simp; exact rfl) | (go_simp; exact ⟨rfl, rfl⟩) | (go_simp; exact trivial)); go_simp; refine hK _ ?_; clear hK K)
    refine FG.ftext_load_early (Ext W11) 24 _ rfl rfl rfl (w.heap.size + 2) (9) (y.a.cells) rfl aggDyad (fun w1 _ hE => Blk.at (n := 3) (B2.ext hE) rfl) (fun K hK => ?_)
    go_simp; refine hK _ ?_; clear hK K
    refine FG.ftext_seq (fun v => ∃ (m1_0 : Bool) (m1_1 : Option Addr) (m1_2 m1_3 : Nat) (m1_4 : Int) (d1_0 : Bool) (d1_1 : Option Addr) (d1_2 d1_3 : Nat) (d1_4 : Int), v = .tuple #[.agg #[.bool m1_0, .slice m1_1 m1_2 m1_3, .int .i64 m1_4], .agg #[.bool d1_0, .slice d1_1 d1_2 d1_3, .int .i64 d1_4], .int .i64 10]) (fun v W' => ∃ (m1 : XDyad) (d1 : XDyad), v = .tuple #[.agg #[.bool m1.neg, .slice m1.limbs.A m1.limbs.l.length m1.limbs.c, .int .i64 m1.exp], .agg #[.bool d1.neg, .slice d1.limbs.A d1.limbs.l.length d1.limbs.c, .int .i64 d1.exp], .int .i64 10] ∧ m1.data = (middleD x.a.data y.a.data).1 ∧ d1.data = (middleD x.a.data y.a.data).2.1 ∧ m1.mine W' W11.heap.size ∧ d1.mine W' W11.heap.size ∧ Ext W11 W') rfl rfl ⟨_, false, none, 0, 0, 0, false, none, 0, 0, 0, rfl⟩ (fun v w1 w2 h hR => ?_) (fun w1 hC hJ hF Φ hΦ => ?_) (fun v hv K hK => ?_)
    · obtain ⟨m1, d1, hv0, f0_m1_d1, f1_m1_d1, f2_m1_d1, f3_m1_d1, jE⟩ := h
      exact ⟨m1, d1, hv0, f0_m1_d1, f1_m1_d1, f2_m1_d1.ext hR, f3_m1_d1.ext hR, jE.trans hR⟩
    · have jE := hJ
      go_simp
      refine (mean_middle x.a y.a _ (HX.out.ext (E.trans jE)).a (HY.out.ext (E.trans jE)).a ((FX.out).2.2.2) ((FY.out).2.2.2) P1.out.1 P1.out.2 (HT.out.ext (E.trans jE))).mono ?_
      rw [G1.out]
      rintro e w2 ⟨m1, d1, rfl, hd0, hd1, hm0, hm1, hE⟩
      exact ⟨_, rfl, hΦ _ _ ⟨_, _, _, _, _, _, _, _, _, _, rfl⟩ (Nat.le_trans hC (Ext.size hE)) hE ⟨m1, d1, rfl, hd0, hd1, (XDyad.mine.lower hm0 (Ext.size jE)), (XDyad.mine.lower hm1 (Ext.size jE)), jE.trans hE⟩⟩
    obtain ⟨m1_0, m1_1, m1_2, m1_3, m1_4, d1_0, d1_1, d1_2, d1_3, d1_4, rfl⟩ := hv
    go_simp; refine hK _ ?_; clear hK K
    iterate 4 (refine FG.ftext_det rfl rfl ?_; apply Exists.intro; refine ⟨fun w hC => ?_, fun K hK => ?_⟩; (first | (go_simp; exact rfl) | (go_simp; exact ⟨rfl, rfl⟩) | (go_simp; exact trivial)); go_simp; refine hK _ ?_; clear hK K)
    refine FG.ftext_fresh _ _ _ rfl rfl (fun w hC => ⟨hC, ?_⟩) (fun g _ _ h hr => Blk.ext h hr) (fun g8 hn_8 hs_8 K hK => ?_)
    · go_simp; first | exact ⟨rfl, Nat.le_trans hC (Ext.size (Ext.alloc _ _)), Ext.alloc _ _, Blk.new rfl⟩ | exact ⟨Nat.le_succ_of_le hC, Ext.alloc _ _, Blk.new rfl⟩
    go_simp; refine hK _ ?_; clear hK K
    refine FG.ftext_fresh _ _ _ rfl rfl (fun w hC => ⟨hC, ?_⟩) (fun g _ _ h hr => Blk.ext h hr) (fun g9 hn_9 hs_9 K hK => ?_)
    · go_simp; first | exact ⟨rfl, Nat.le_trans hC (Ext.size (Ext.alloc _ _)), Ext.alloc _ _, Blk.new rfl⟩ | exact ⟨Nat.le_succ_of_le hC, Ext.alloc _ _, Blk.new rfl⟩
    have n_9_8 : g9 ≠ g8 := fun e => hn_9 (by rw [e]; exact List.Mem.head _)
    go_simp; refine hK _ ?_; clear hK K
    refine FG.ftext_store 24 _ _ (fun W' => ∃ (m1 : XDyad) (d1 : XDyad) (V0 : World), (.tuple #[.agg #[.bool m1_0, .slice m1_1 m1_2 m1_3, .int .i64 m1_4], .agg #[.bool d1_0, .slice d1_1 d1_2 d1_3, .int .i64 d1_4], .int .i64 10] : Value) = .tuple #[.agg #[.bool m1.neg, .slice m1.limbs.A m1.limbs.l.length m1.limbs.c, .int .i64 m1.exp], .agg #[.bool d1.neg, .slice d1.limbs.A d1.limbs.l.length d1.limbs.c, .int .i64 d1.exp], .int .i64 10] ∧ m1.data = (middleD x.a.data y.a.data).1 ∧ d1.data = (middleD x.a.data y.a.data).2.1 ∧ m1.mine V0 W11.heap.size ∧ d1.mine V0 W11.heap.size ∧ Ext W11 V0 ∧ Blk V0 g8 24 XDyad.zero.cells ∧ Blk V0 g9 24 XDyad.zero.cells ∧ Blk W' (g8) 24 m1.cells ∧ Only V0 W' (g8)) rfl rfl rfl (fun w1 hC hJ hF => ?_) (fun K hK => ?_)
    · obtain ⟨m1, d1, q_m1_d1, f0_m1_d1, f1_m1_d1, f2_m1_d1, f3_m1_d1, jE⟩ := hJ
      obtain ⟨⟨_, z_8⟩, z_9⟩ := hF
      obtain ⟨rfl, rfl, rfl, rfl, rfl⟩ := eqDyad (congrArg (fun v : Value => match v with | .tuple a => a.getD 0 undef | _ => v) q_m1_d1)
      obtain ⟨rfl, rfl, rfl, rfl, rfl⟩ := eqDyad (congrArg (fun v : Value => match v with | .tuple a => a.getD 1 undef | _ => v) q_m1_d1)
      exact ⟨g8, 0, 24, XDyad.zero.cells, m1.cells, rfl, rfl, aggDyad, z_8, Nat.le_of_ble_eq_true rfl, rfl, fun w' BR hO => ⟨by show _ ≤ _; rw [hO.size]; exact hC, m1, d1, w1, rfl, f0_m1_d1, f1_m1_d1, f2_m1_d1, f3_m1_d1, jE, z_8, z_9, BR, hO⟩⟩
    go_simp; refine hK _ ?_; clear hK K
    refine FG.ftext_store 24 _ _ (fun W' => ∃ (m1 : XDyad) (d1 : XDyad) (V0 : World) (V1 : World), (.tuple #[.agg #[.bool m1_0, .slice m1_1 m1_2 m1_3, .int .i64 m1_4], .agg #[.bool d1_0, .slice d1_1 d1_2 d1_3, .int .i64 d1_4], .int .i64 10] : Value) = .tuple #[.agg #[.bool m1.neg, .slice m1.limbs.A m1.limbs.l.length m1.limbs.c, .int .i64 m1.exp], .agg #[.bool d1.neg, .slice d1.limbs.A d1.limbs.l.length d1.limbs.c, .int .i64 d1.exp], .int .i64 10] ∧ m1.data = (middleD x.a.data y.a.data).1 ∧ d1.data = (middleD x.a.data y.a.data).2.1 ∧ m1.mine V0 W11.heap.size ∧ d1.mine V0 W11.heap.size ∧ Ext W11 V0 ∧ Blk V0 g8 24 XDyad.zero.cells ∧ Blk V0 g9 24 XDyad.zero.cells ∧ Blk V1 (g8) 24 m1.cells ∧ Only V0 V1 (g8) ∧ Blk W' (g9) 24 d1.cells ∧ Only V1 W' (g9)) rfl rfl rfl (fun w1 hC hJ hF => ?_) (fun K hK => ?_)
    · obtain ⟨m1, d1, V0, q_m1_d1, f0_m1_d1, f1_m1_d1, f2_m1_d1, f3_m1_d1, jE, z_8, z_9, jB0, jO0⟩ := hJ
      obtain ⟨rfl, rfl, rfl, rfl, rfl⟩ := eqDyad (congrArg (fun v : Value => match v with | .tuple a => a.getD 0 undef | _ => v) q_m1_d1)
      obtain ⟨rfl, rfl, rfl, rfl, rfl⟩ := eqDyad (congrArg (fun v : Value => match v with | .tuple a => a.getD 1 undef | _ => v) q_m1_d1)
      exact ⟨g9, 0, 24, XDyad.zero.cells, d1.cells, rfl, rfl, aggDyad, (Blk.only z_9 jO0 (by omega)), Nat.le_of_ble_eq_true rfl, rfl, fun w' BR hO => ⟨by show _ ≤ _; rw [hO.size]; exact hC, m1, d1, V0, w1, rfl, f0_m1_d1, f1_m1_d1, f2_m1_d1, f3_m1_d1, jE, z_8, z_9, jB0, jO0, BR, hO⟩⟩
    go_simp; refine hK _ ?_; clear hK K
    refine FG.ftext_nil ?_
    rintro W12 _ ⟨m1, d1, V0, V1, q_m1_d1, f0_m1_d1, f1_m1_d1, f2_m1_d1, f3_m1_d1, jE, z_8, z_9, jB0, jO0, jB1, jO1⟩ hF
    clear hF
    obtain ⟨rfl, rfl, rfl, rfl, rfl⟩ := eqDyad (congrArg (fun v : Value => match v with | .tuple a => a.getD 0 undef | _ => v) q_m1_d1)
    obtain ⟨rfl, rfl, rfl, rfl, rfl⟩ := eqDyad (congrArg (fun v : Value => match v with | .tuple a => a.getD 1 undef | _ => v) q_m1_d1)
    have hz := E.size
    replace M_m0 : m0.mine W12 w.heap.size := (((M_m0.ext jE).only z_8 jO0 jB0 rfl (by decide)).only (Blk.only z_9 jO0 (by omega)) jO1 jB1 rfl (by decide))
    replace M_d0 : d0.mine W12 w.heap.size := (((M_d0.ext jE).only z_8 jO0 jB0 rfl (by decide)).only (Blk.only z_9 jO0 (by omega)) jO1 jB1 rfl (by decide))
    have M_m1 : m1.mine W12 w.heap.size := XDyad.mine.lower ((f2_m1_d1.only z_8 jO0 jB0 rfl (by decide)).only (Blk.only z_9 jO0 (by omega)) jO1 jB1 rfl (by decide)) hz
    have D_m1 := Lib.hid f0_m1_d1
    have F_m1 : Hid (Fine m1.data) := Lib.hid (by rw [f0_m1_d1]; exact (middleD_fine _ _).1)
    have M_d1 : d1.mine W12 w.heap.size := XDyad.mine.lower ((f3_m1_d1.only z_8 jO0 jB0 rfl (by decide)).only (Blk.only z_9 jO0 (by omega)) jO1 jB1 rfl (by decide)) hz
    have D_d1 := Lib.hid f1_m1_d1
    have F_d1 : Hid (Fine d1.data) := Lib.hid (by rw [f1_m1_d1]; exact (middleD_fine _ _).2)
    replace B0 : Blk W12 (w.heap.size) 47 x.cells := (Blk.only (Blk.only (B0.ext jE) jO0 (by omega)) jO1 (by omega))
    replace B1 : Blk W12 (w.heap.size + 1) 47 y.cells := (Blk.only (Blk.only (B1.ext jE) jO0 (by omega)) jO1 (by omega))
    replace B2 : Blk W12 (w.heap.size + 2) 47 (⟨y.s, y.w, m0, y.a⟩ : XMass).cells := (Blk.only (Blk.only (B2.ext jE) jO0 (by omega)) jO1 (by omega))
    replace B3 : Blk W12 (w.heap.size + 3) 47 (⟨XDyad.zero, XDyad.zero, d0, XDyad.zero⟩ : XMass).cells := (Blk.only (Blk.only (B3.ext jE) jO0 (by omega)) jO1 (by omega))
    replace B4 : Blk W12 (W6.heap.size) 130 [.pointer (some ⟨w.heap.size, 6, none⟩), .pointer (some ⟨w.heap.size, 9, none⟩)] := (Blk.only (Blk.only (B4.ext jE) jO0 (by omega)) jO1 (by omega))
    replace B5 : Blk W12 (W6.heap.size + 1) 130 [.pointer (some ⟨w.heap.size + 3, 6, none⟩), .pointer (some ⟨w.heap.size + 3, 9, none⟩)] := (Blk.only (Blk.only (B5.ext jE) jO0 (by omega)) jO1 (by omega))
    replace B6 : Blk W12 (g6) 24 m0.cells := (Blk.only (Blk.only (B6.ext jE) jO0 (by omega)) jO1 (by omega))
    replace B7 : Blk W12 (g7) 24 d0.cells := (Blk.only (Blk.only (B7.ext jE) jO0 (by omega)) jO1 (by omega))
    have B8 : Blk W12 (g8) 24 m1.cells := (Blk.only jB0 jO1 (by omega))
    have B9 : Blk W12 (g9) 24 d1.cells := jB1
    replace E : Ext w W12 := Only.ext (Only.ext (E.trans jE) jO0 (by omega)) jO1 (by omega)
    clear hz jE jB0 jB1 jO0 jO1 z_8 z_9 f0_m1_d1 f1_m1_d1 f2_m1_d1 f3_m1_d1 q_m1_d1
    simp only [List.drop_succ_cons, List.drop_zero]
    gi_wp2_with fail
    go_wp2_with (first | ((with_reducible refine st (B2) (0) XMass.zero.cells 47 (.tmp 4) (.tmp 47) ?_ ?_ ?_ ?_ ?_ ?_ ?_ fun W13 BR13 hO13 => ?_); (exact rfl); ((iterate 4 exact rfl); exact Nat.le_of_ble_eq_true rfl; exact aggMass; replace M_m0 := M_m0.only (B2) hO13 BR13 rfl (by decide); replace M_d0 := M_d0.only (B2) hO13 BR13 rfl (by decide); replace M_m1 := M_m1.only (B2) hO13 BR13 rfl (by decide); replace M_d1 := M_d1.only (B2) hO13 BR13 rfl (by decide); replace E := Only.ext (E) hO13 (by omega); replace B0 := Blk.only (B0) hO13 (by omega); replace B1 := Blk.only (B1) hO13 (by omega); replace B3 := Blk.only (B3) hO13 (by omega); replace B4 := Blk.only (B4) hO13 (by omega); replace B5 := Blk.only (B5) hO13 (by omega); replace B6 := Blk.only (B6) hO13 (by omega); replace B7 := Blk.only (B7) hO13 (by omega); replace B8 := Blk.only (B8) hO13 (by omega); replace B9 := Blk.only (B9) hO13 (by omega); replace B2 : Blk W13 (w.heap.size + 2) 47 XMass.zero.cells := BR13; clear BR13 hO13)) | ((with_reducible refine st (B3) (0) XMass.zero.cells 47 (.tmp 5) (.tmp 48) ?_ ?_ ?_ ?_ ?_ ?_ ?_ fun W14 BR14 hO14 => ?_); (exact rfl); ((iterate 4 exact rfl); exact Nat.le_of_ble_eq_true rfl; exact aggMass; replace M_m0 := M_m0.only (B3) hO14 BR14 rfl (by decide); replace M_d0 := M_d0.only (B3) hO14 BR14 rfl (by decide); replace M_m1 := M_m1.only (B3) hO14 BR14 rfl (by decide); replace M_d1 := M_d1.only (B3) hO14 BR14 rfl (by decide); replace E := Only.ext (E) hO14 (by omega); replace B0 := Blk.only (B0) hO14 (by omega); replace B1 := Blk.only (B1) hO14 (by omega); replace B2 := Blk.only (B2) hO14 (by omega); replace B4 := Blk.only (B4) hO14 (by omega); replace B5 := Blk.only (B5) hO14 (by omega); replace B6 := Blk.only (B6) hO14 (by omega); replace B7 := Blk.only (B7) hO14 (by omega); replace B8 := Blk.only (B8) hO14 (by omega); replace B9 := Blk.only (B9) hO14 (by omega); replace B3 : Blk W14 (w.heap.size + 3) 47 XMass.zero.cells := BR14; clear BR14 hO14)) | fail)
    exact bodyPost_ret (results_cct rfl rfl (B2) aggMass rfl (B3) aggMass) rfl ⟨XMass.zero, XMass.zero, by rw [HR.out] <;> rfl, by rw [HR.out] <;> rfl, by rw [HR.out] <;> rfl, XMass.zero_mine _ _, XMass.zero_mine _ _, E⟩
  have HR : Hid (meetM x.data y.data = (⟨y.s.data, y.w.data, (middleD x.c.data y.c.data).1, (middleD x.a.data y.a.data).1⟩, ⟨PDyad.zero, PDyad.zero, (middleD x.c.data y.c.data).2.1, (middleD x.a.data y.a.data).2.1⟩, 0)) := Lib.hid (by unfold meetM; rw [if_pos ⟨q0, q1⟩, if_pos ⟨h0, h1⟩]; rfl)
  clear q0 q1 h0 h1
  go_enter Tryd.func49, Tryd.ntmps49
  go_wp2_with fail
  refine calls_nm fun W1 hW => ?_
  have B0 : Blk W1 (w.heap.size) 47 x.cells := by rw [hW]; exact (((Blk.new (by simp)).alloc _).alloc _).alloc _
  have B1 : Blk W1 (w.heap.size + 1) 47 y.cells := by rw [hW]; exact ((Blk.new (by simp)).alloc _).alloc _
  have B2 : Blk W1 (w.heap.size + 2) 47 XMass.zero.cells := by rw [hW]; exact (Blk.new (by simp)).alloc _
  have B3 : Blk W1 (w.heap.size + 3) 47 XMass.zero.cells := by rw [hW]; exact Blk.new (by simp)
  have E : Ext w W1 := by rw [hW]; exact Ext.alloc' (Ext.alloc' (Ext.alloc' (Ext.alloc' (Ext.refl _) _) _) _) _
  clear hW
  refine (mass_Check x _ (HX.out.ext E)).mono ?_
  rw [C0.out]
  rintro e W2 ⟨rfl, hE⟩
  replace B0 := B0.ext hE
  replace B1 := B1.ext hE
  replace B2 := B2.ext hE
  replace B3 := B3.ext hE
  replace E := E.trans hE
  clear hE
  go_wp2_with (first | ((with_reducible refine ld B1 (0) y.cells 47 (.tmp 3) ?_ ?_ ?_ ?_ ?_ ?_); (exact rfl); ((iterate 2 exact rfl); exact rfl; exact aggMass)) | fail)
  refine (mass_Check y _ (HY.out.ext E)).mono ?_
  rw [C1.out]
  rintro e W3 ⟨rfl, hE⟩
  replace B0 := B0.ext hE
  replace B1 := B1.ext hE
  replace B2 := B2.ext hE
  replace B3 := B3.ext hE
  replace E := E.trans hE
  clear hE
  go_wp2_with (first | ((with_reducible refine ld B1 (0) y.cells 47 (.tmp 3) ?_ ?_ ?_ ?_ ?_ ?_); (exact rfl); ((iterate 2 exact rfl); exact rfl; exact aggMass)) | ((with_reducible refine st (B2) (0) y.cells 47 (.tmp 4) (.tmp 24) ?_ ?_ ?_ ?_ ?_ ?_ ?_ fun W4 BR4 hO4 => ?_); (exact rfl); ((iterate 4 exact rfl); exact Nat.le_of_ble_eq_true rfl; exact aggMass; replace E := Only.ext (E) hO4 (by omega); replace B0 := Blk.only (B0) hO4 (by omega); replace B1 := Blk.only (B1) hO4 (by omega); replace B3 := Blk.only (B3) hO4 (by omega); replace B2 : Blk W4 (w.heap.size + 2) 47 y.cells := BR4; clear BR4 hO4)) | fail)
  refine (mean_pair (w.heap.size) _).mono ?_
  rintro e W5 ⟨rfl, hE⟩
  replace B0 := B0.ext hE
  replace B1 := B1.ext hE
  replace B2 := B2.ext hE
  replace B3 := B3.ext hE
  replace E := E.trans hE
  clear hE
  go_wp2_with fail
  refine (mean_pair (w.heap.size + 3) _).mono ?_
  rintro e W6 ⟨rfl, hE⟩
  replace B0 := B0.ext hE
  replace B1 := B1.ext hE
  replace B2 := B2.ext hE
  replace B3 := B3.ext hE
  replace E := E.trans hE
  clear hE
  have L6_3 := B3.lt
  go_wp2_with fail
  refine calls_nm fun W7 hW => ?_
  replace B0 : Blk W7 (w.heap.size) 47 x.cells := by rw [hW]; exact (B0.alloc _).alloc _
  replace B1 : Blk W7 (w.heap.size + 1) 47 y.cells := by rw [hW]; exact (B1.alloc _).alloc _
  replace B2 : Blk W7 (w.heap.size + 2) 47 y.cells := by rw [hW]; exact (B2.alloc _).alloc _
  replace B3 : Blk W7 (w.heap.size + 3) 47 XMass.zero.cells := by rw [hW]; exact (B3.alloc _).alloc _
  have B4 : Blk W7 (W6.heap.size) 130 [.pointer (some ⟨w.heap.size, 6, none⟩), .pointer (some ⟨w.heap.size, 9, none⟩)] := by rw [hW]; exact (Blk.new (by simp)).alloc _
  have B5 : Blk W7 (W6.heap.size + 1) 130 [.pointer (some ⟨w.heap.size + 3, 6, none⟩), .pointer (some ⟨w.heap.size + 3, 9, none⟩)] := by rw [hW]; exact Blk.new (by simp)
  replace E : Ext w W7 := by rw [hW]; exact Ext.alloc' (Ext.alloc' E _) _
  clear hW
  refine (mean_pair (w.heap.size + 2) _).mono ?_
  rintro e W8 ⟨rfl, hE⟩
  replace B0 := B0.ext hE
  replace B1 := B1.ext hE
  replace B2 := B2.ext hE
  replace B3 := B3.ext hE
  replace B4 := B4.ext hE
  replace B5 := B5.ext hE
  replace E := E.trans hE
  clear hE
  go_wp2_with fail
  refine wp_loop_rounds 3 ?_
  rw [rounds_succ]
  go_wp2_with fail
  have L8_5 := B5.lt
  refine FG.wp_region_flowTail 17 (fun w' => W8.heap.size ≤ w'.heap.size) (Ext W8) Ext (chK W8 [8] [15, 16] [2, 4, 7] [(13, 24, XDyad.zero.cells), (14, 24, XDyad.zero.cells)]) [8] (by kernel_rfl) (by kernel_rfl) (by kernel_rfl) (fun _ _ h => Ext.size h) (Nat.le_refl _) (chK_early (Ext.drew _)) (Ext.drew _) (fun _ _ h k => h.trans k) ?_
  iterate 2 (refine FG.ftext_det rfl rfl ?_; apply Exists.intro; refine ⟨fun w hC => ?_, fun K hK => ?_⟩; (first | (go_simp; exact rfl) | (go_simp; exact ⟨rfl, rfl⟩) | (go_simp; exact trivial)); go_simp; refine hK _ ?_; clear hK K)
  refine FG.ftext_early (Ext W8) rfl rfl ?_; apply Exists.intro; refine ⟨fun w1 _ hE => ?_, fun K hK => ?_⟩; (have hc := Blk.cell (B4.ext hE) 0; simp only [List.getElem?_cons_zero] at hc; go_simp; first | exact ⟨rfl, rfl⟩ | exact rfl)
  go_simp; refine hK _ ?_; clear hK K
  iterate 1 (refine FG.ftext_det rfl rfl ?_; apply Exists.intro; refine ⟨fun w hC => ?_, fun K hK => ?_⟩; (first | (go_simp; exact rfl) | (go_simp; exact ⟨rfl, rfl⟩) | (go_simp; exact trivial)); go_simp; refine hK _ ?_; clear hK K)
  refine FG.ftext_load_early (Ext W8) 24 _ rfl rfl rfl (w.heap.size) (6) (x.c.cells) rfl aggDyad (fun w1 _ hE => Blk.at (n := 3) (B0.ext hE) rfl) (fun K hK => ?_)
  go_simp; refine hK _ ?_; clear hK K
  iterate 2 (refine FG.ftext_det rfl rfl ?_; apply Exists.intro; refine ⟨fun w hC => ?_, fun K hK => ?_⟩; (first | (go_simp; exact rfl) | (go_simp; exact ⟨rfl, rfl⟩) | (go_simp; exact trivial)); go_simp; refine hK _ ?_; clear hK K)
  refine FG.ftext_load_early (Ext W8) 24 _ rfl rfl rfl (w.heap.size + 2) (6) (y.c.cells) rfl aggDyad (fun w1 _ hE => Blk.at (n := 3) (B2.ext hE) rfl) (fun K hK => ?_)
  go_simp; refine hK _ ?_; clear hK K
  refine FG.ftext_seq (fun v => ∃ (m0_0 : Bool) (m0_1 : Option Addr) (m0_2 m0_3 : Nat) (m0_4 : Int) (d0_0 : Bool) (d0_1 : Option Addr) (d0_2 d0_3 : Nat) (d0_4 : Int), v = .tuple #[.agg #[.bool m0_0, .slice m0_1 m0_2 m0_3, .int .i64 m0_4], .agg #[.bool d0_0, .slice d0_1 d0_2 d0_3, .int .i64 d0_4], .int .i64 0]) (fun v W' => ∃ (m0 : XDyad) (d0 : XDyad), v = .tuple #[.agg #[.bool m0.neg, .slice m0.limbs.A m0.limbs.l.length m0.limbs.c, .int .i64 m0.exp], .agg #[.bool d0.neg, .slice d0.limbs.A d0.limbs.l.length d0.limbs.c, .int .i64 d0.exp], .int .i64 0] ∧ m0.data = (middleD x.c.data y.c.data).1 ∧ d0.data = (middleD x.c.data y.c.data).2.1 ∧ m0.mine W' W8.heap.size ∧ d0.mine W' W8.heap.size ∧ Ext W8 W') rfl rfl ⟨_, false, none, 0, 0, 0, false, none, 0, 0, 0, rfl⟩ (fun v w1 w2 h hR => ?_) (fun w1 hC hJ hF Φ hΦ => ?_) (fun v hv K hK => ?_)
  · obtain ⟨m0, d0, hv0, f0_m0_d0, f1_m0_d0, f2_m0_d0, f3_m0_d0, jE⟩ := h
    exact ⟨m0, d0, hv0, f0_m0_d0, f1_m0_d0, f2_m0_d0.ext hR, f3_m0_d0.ext hR, jE.trans hR⟩
  · have jE := hJ
    go_simp
    refine (mean_middle x.c y.c _ (HX.out.ext (E.trans jE)).c (HY.out.ext (E.trans jE)).c ((FX.out).2.2.1) ((FY.out).2.2.1) P0.out.1 P0.out.2 (HT.out.ext (E.trans jE))).mono ?_
    rw [G0.out]
    rintro e w2 ⟨m0, d0, rfl, hd0, hd1, hm0, hm1, hE⟩
    exact ⟨_, rfl, hΦ _ _ ⟨_, _, _, _, _, _, _, _, _, _, rfl⟩ (Nat.le_trans hC (Ext.size hE)) hE ⟨m0, d0, rfl, hd0, hd1, (XDyad.mine.lower hm0 (Ext.size jE)), (XDyad.mine.lower hm1 (Ext.size jE)), jE.trans hE⟩⟩
  obtain ⟨m0_0, m0_1, m0_2, m0_3, m0_4, d0_0, d0_1, d0_2, d0_3, d0_4, rfl⟩ := hv
  go_simp; refine hK _ ?_; clear hK K
  iterate 4 (refine FG.ftext_det rfl rfl ?_; apply Exists.intro; refine ⟨fun w hC => ?_, fun K hK => ?_⟩; (first | (go_simp; exact rfl) | (go_simp; exact ⟨rfl, rfl⟩) | (go_simp; exact trivial)); go_simp; refine hK _ ?_; clear hK K)
  refine FG.ftext_fresh _ _ _ rfl rfl (fun w hC => ⟨hC, ?_⟩) (fun g _ _ h hr => Blk.ext h hr) (fun g6 hn_6 hs_6 K hK => ?_)
  · go_simp; first | exact ⟨rfl, Nat.le_trans hC (Ext.size (Ext.alloc _ _)), Ext.alloc _ _, Blk.new rfl⟩ | exact ⟨Nat.le_succ_of_le hC, Ext.alloc _ _, Blk.new rfl⟩
  go_simp; refine hK _ ?_; clear hK K
  refine FG.ftext_fresh _ _ _ rfl rfl (fun w hC => ⟨hC, ?_⟩) (fun g _ _ h hr => Blk.ext h hr) (fun g7 hn_7 hs_7 K hK => ?_)
  · go_simp; first | exact ⟨rfl, Nat.le_trans hC (Ext.size (Ext.alloc _ _)), Ext.alloc _ _, Blk.new rfl⟩ | exact ⟨Nat.le_succ_of_le hC, Ext.alloc _ _, Blk.new rfl⟩
  have n_7_6 : g7 ≠ g6 := fun e => hn_7 (by rw [e]; exact List.Mem.head _)
  go_simp; refine hK _ ?_; clear hK K
  refine FG.ftext_store 24 _ _ (fun W' => ∃ (m0 : XDyad) (d0 : XDyad) (V0 : World), (.tuple #[.agg #[.bool m0_0, .slice m0_1 m0_2 m0_3, .int .i64 m0_4], .agg #[.bool d0_0, .slice d0_1 d0_2 d0_3, .int .i64 d0_4], .int .i64 0] : Value) = .tuple #[.agg #[.bool m0.neg, .slice m0.limbs.A m0.limbs.l.length m0.limbs.c, .int .i64 m0.exp], .agg #[.bool d0.neg, .slice d0.limbs.A d0.limbs.l.length d0.limbs.c, .int .i64 d0.exp], .int .i64 0] ∧ m0.data = (middleD x.c.data y.c.data).1 ∧ d0.data = (middleD x.c.data y.c.data).2.1 ∧ m0.mine V0 W8.heap.size ∧ d0.mine V0 W8.heap.size ∧ Ext W8 V0 ∧ Blk V0 g6 24 XDyad.zero.cells ∧ Blk V0 g7 24 XDyad.zero.cells ∧ Blk W' (g6) 24 m0.cells ∧ Only V0 W' (g6)) rfl rfl rfl (fun w1 hC hJ hF => ?_) (fun K hK => ?_)
  · obtain ⟨m0, d0, q_m0_d0, f0_m0_d0, f1_m0_d0, f2_m0_d0, f3_m0_d0, jE⟩ := hJ
    obtain ⟨⟨_, z_6⟩, z_7⟩ := hF
    obtain ⟨rfl, rfl, rfl, rfl, rfl⟩ := eqDyad (congrArg (fun v : Value => match v with | .tuple a => a.getD 0 undef | _ => v) q_m0_d0)
    obtain ⟨rfl, rfl, rfl, rfl, rfl⟩ := eqDyad (congrArg (fun v : Value => match v with | .tuple a => a.getD 1 undef | _ => v) q_m0_d0)
    exact ⟨g6, 0, 24, XDyad.zero.cells, m0.cells, rfl, rfl, aggDyad, z_6, Nat.le_of_ble_eq_true rfl, rfl, fun w' BR hO => ⟨by show _ ≤ _; rw [hO.size]; exact hC, m0, d0, w1, rfl, f0_m0_d0, f1_m0_d0, f2_m0_d0, f3_m0_d0, jE, z_6, z_7, BR, hO⟩⟩
  go_simp; refine hK _ ?_; clear hK K
  refine FG.ftext_store 24 _ _ (fun W' => ∃ (m0 : XDyad) (d0 : XDyad) (V0 : World) (V1 : World), (.tuple #[.agg #[.bool m0_0, .slice m0_1 m0_2 m0_3, .int .i64 m0_4], .agg #[.bool d0_0, .slice d0_1 d0_2 d0_3, .int .i64 d0_4], .int .i64 0] : Value) = .tuple #[.agg #[.bool m0.neg, .slice m0.limbs.A m0.limbs.l.length m0.limbs.c, .int .i64 m0.exp], .agg #[.bool d0.neg, .slice d0.limbs.A d0.limbs.l.length d0.limbs.c, .int .i64 d0.exp], .int .i64 0] ∧ m0.data = (middleD x.c.data y.c.data).1 ∧ d0.data = (middleD x.c.data y.c.data).2.1 ∧ m0.mine V0 W8.heap.size ∧ d0.mine V0 W8.heap.size ∧ Ext W8 V0 ∧ Blk V0 g6 24 XDyad.zero.cells ∧ Blk V0 g7 24 XDyad.zero.cells ∧ Blk V1 (g6) 24 m0.cells ∧ Only V0 V1 (g6) ∧ Blk W' (g7) 24 d0.cells ∧ Only V1 W' (g7)) rfl rfl rfl (fun w1 hC hJ hF => ?_) (fun K hK => ?_)
  · obtain ⟨m0, d0, V0, q_m0_d0, f0_m0_d0, f1_m0_d0, f2_m0_d0, f3_m0_d0, jE, z_6, z_7, jB0, jO0⟩ := hJ
    obtain ⟨rfl, rfl, rfl, rfl, rfl⟩ := eqDyad (congrArg (fun v : Value => match v with | .tuple a => a.getD 0 undef | _ => v) q_m0_d0)
    obtain ⟨rfl, rfl, rfl, rfl, rfl⟩ := eqDyad (congrArg (fun v : Value => match v with | .tuple a => a.getD 1 undef | _ => v) q_m0_d0)
    exact ⟨g7, 0, 24, XDyad.zero.cells, d0.cells, rfl, rfl, aggDyad, (Blk.only z_7 jO0 (by omega)), Nat.le_of_ble_eq_true rfl, rfl, fun w' BR hO => ⟨by show _ ≤ _; rw [hO.size]; exact hC, m0, d0, V0, w1, rfl, f0_m0_d0, f1_m0_d0, f2_m0_d0, f3_m0_d0, jE, z_6, z_7, jB0, jO0, BR, hO⟩⟩
  go_simp; refine hK _ ?_; clear hK K
  refine FG.ftext_nil ?_
  rintro W9 _ ⟨m0, d0, V0, V1, q_m0_d0, f0_m0_d0, f1_m0_d0, f2_m0_d0, f3_m0_d0, jE, z_6, z_7, jB0, jO0, jB1, jO1⟩ hF
  clear hF
  obtain ⟨rfl, rfl, rfl, rfl, rfl⟩ := eqDyad (congrArg (fun v : Value => match v with | .tuple a => a.getD 0 undef | _ => v) q_m0_d0)
  obtain ⟨rfl, rfl, rfl, rfl, rfl⟩ := eqDyad (congrArg (fun v : Value => match v with | .tuple a => a.getD 1 undef | _ => v) q_m0_d0)
  have hz := E.size
  have M_m0 : m0.mine W9 w.heap.size := XDyad.mine.lower ((f2_m0_d0.only z_6 jO0 jB0 rfl (by decide)).only (Blk.only z_7 jO0 (by omega)) jO1 jB1 rfl (by decide)) hz
  have D_m0 := Lib.hid f0_m0_d0
  have F_m0 : Hid (Fine m0.data) := Lib.hid (by rw [f0_m0_d0]; exact (middleD_fine _ _).1)
  have M_d0 : d0.mine W9 w.heap.size := XDyad.mine.lower ((f3_m0_d0.only z_6 jO0 jB0 rfl (by decide)).only (Blk.only z_7 jO0 (by omega)) jO1 jB1 rfl (by decide)) hz
  have D_d0 := Lib.hid f1_m0_d0
  have F_d0 : Hid (Fine d0.data) := Lib.hid (by rw [f1_m0_d0]; exact (middleD_fine _ _).2)
  replace B0 : Blk W9 (w.heap.size) 47 x.cells := (Blk.only (Blk.only (B0.ext jE) jO0 (by omega)) jO1 (by omega))
  replace B1 : Blk W9 (w.heap.size + 1) 47 y.cells := (Blk.only (Blk.only (B1.ext jE) jO0 (by omega)) jO1 (by omega))
  replace B2 : Blk W9 (w.heap.size + 2) 47 y.cells := (Blk.only (Blk.only (B2.ext jE) jO0 (by omega)) jO1 (by omega))
  replace B3 : Blk W9 (w.heap.size + 3) 47 XMass.zero.cells := (Blk.only (Blk.only (B3.ext jE) jO0 (by omega)) jO1 (by omega))
  replace B4 : Blk W9 (W6.heap.size) 130 [.pointer (some ⟨w.heap.size, 6, none⟩), .pointer (some ⟨w.heap.size, 9, none⟩)] := (Blk.only (Blk.only (B4.ext jE) jO0 (by omega)) jO1 (by omega))
  replace B5 : Blk W9 (W6.heap.size + 1) 130 [.pointer (some ⟨w.heap.size + 3, 6, none⟩), .pointer (some ⟨w.heap.size + 3, 9, none⟩)] := (Blk.only (Blk.only (B5.ext jE) jO0 (by omega)) jO1 (by omega))
  have B6 : Blk W9 (g6) 24 m0.cells := (Blk.only jB0 jO1 (by omega))
  have B7 : Blk W9 (g7) 24 d0.cells := jB1
  replace E : Ext w W9 := Only.ext (Only.ext (E.trans jE) jO0 (by omega)) jO1 (by omega)
  clear hz jE jB0 jB1 jO0 jO1 z_6 z_7 f0_m0_d0 f1_m0_d0 f2_m0_d0 f3_m0_d0 q_m0_d0
  simp only [List.drop_succ_cons, List.drop_zero]
  gi_wp2_with fail
  go_wp2_with fail
  refine FG.wp_region_flowTail 8 (fun w' => W9.heap.size ≤ w'.heap.size ∧ Blk w' (W6.heap.size + 1) 130 [.pointer (some ⟨w.heap.size + 3, 6, none⟩), .pointer (some ⟨w.heap.size + 3, 9, none⟩)] ∧ Blk w' (g7) 24 d0.cells) (Ext W9) Ext (chK W9 [] [7] [4] []) [] (by kernel_rfl) (by kernel_rfl) (by kernel_rfl) (fun _ _ h => Ext.size h) ⟨Nat.le_refl _, Blk.drew B5, Blk.drew B7⟩ (chK_early (Ext.drew _)) (Ext.drew _) (fun _ _ h k => h.trans k) ?_
  iterate 3 (refine FG.ftext_det rfl rfl ?_; apply Exists.intro; refine ⟨fun w hC => ?_, fun K hK => ?_⟩; (first | (go_simp; exact rfl) | (go_simp; exact ⟨rfl, rfl⟩) | (go_simp; exact trivial)); go_simp; refine hK _ ?_; clear hK K)
  refine FG.ftext_det rfl rfl ?_; apply Exists.intro; refine ⟨fun w1 hC => ?_, fun K hK => ?_⟩; (have hc := Blk.cell hC.2.1 0; simp only [List.getElem?_cons_zero] at hc; go_simp; first | exact ⟨rfl, rfl⟩ | exact rfl)
  go_simp; refine hK _ ?_; clear hK K
  refine FG.ftext_load_early (Ext W9) 24 _ rfl rfl rfl (g6) (0) (m0.cells) rfl aggDyad (fun w1 _ hE => Blk.at (n := 3) (B6.ext hE) rfl) (fun K hK => ?_)
  go_simp; refine hK _ ?_; clear hK K
  refine FG.ftext_load_row 24 _ rfl rfl rfl (g7) (0) (d0.cells) rfl aggDyad (fun w1 hC => Blk.at (n := 3) hC.2.2 rfl) (fun K hK => ?_)
  go_simp; refine hK _ ?_; clear hK K
  iterate 1 (refine FG.ftext_det rfl rfl ?_; apply Exists.intro; refine ⟨fun w hC => ?_, fun K hK => ?_⟩; (first | (go_simp; exact rfl) | (go_simp; exact ⟨rfl, rfl⟩) | (go_simp; exact trivial)); go_simp; refine hK _ ?_; clear hK K)
  refine FG.ftext_store 24 _ _ (fun W' => ∃ (V0 : World), Ext W9 V0 ∧ Blk W' (w.heap.size + 2) 47 (⟨y.s, y.w, m0, y.a⟩ : XMass).cells ∧ Only V0 W' (w.heap.size + 2)) rfl rfl rfl (fun w1 hC hJ hF => ?_) (fun K hK => ?_)
  · have jE := hJ
    exact ⟨w.heap.size + 2, 6, 47, y.cells, m0.cells, rfl, rfl, aggDyad, (B2.ext jE), Nat.le_of_ble_eq_true rfl, rfl, fun w' BR hO => ⟨⟨by show _ ≤ _; rw [hO.size]; exact hC.1, Blk.only hC.2.1 hO (by omega), Blk.only hC.2.2 hO (by omega)⟩, w1, jE, BR, hO⟩⟩
  go_simp; refine hK _ ?_; clear hK K
  refine FG.ftext_nil ?_
  rintro W10 _ ⟨V0, jE, jB0, jO0⟩ hF
  clear hF
  have hz := E.size
  replace M_m0 : m0.mine W10 w.heap.size := ((M_m0.ext jE).only (B2.ext jE) jO0 jB0 rfl (by decide))
  replace M_d0 : d0.mine W10 w.heap.size := ((M_d0.ext jE).only (B2.ext jE) jO0 jB0 rfl (by decide))
  replace B0 : Blk W10 (w.heap.size) 47 x.cells := (Blk.only (B0.ext jE) jO0 (by omega))
  replace B1 : Blk W10 (w.heap.size + 1) 47 y.cells := (Blk.only (B1.ext jE) jO0 (by omega))
  replace B2 : Blk W10 (w.heap.size + 2) 47 (⟨y.s, y.w, m0, y.a⟩ : XMass).cells := jB0
  replace B3 : Blk W10 (w.heap.size + 3) 47 XMass.zero.cells := (Blk.only (B3.ext jE) jO0 (by omega))
  replace B4 : Blk W10 (W6.heap.size) 130 [.pointer (some ⟨w.heap.size, 6, none⟩), .pointer (some ⟨w.heap.size, 9, none⟩)] := (Blk.only (B4.ext jE) jO0 (by omega))
  replace B5 : Blk W10 (W6.heap.size + 1) 130 [.pointer (some ⟨w.heap.size + 3, 6, none⟩), .pointer (some ⟨w.heap.size + 3, 9, none⟩)] := (Blk.only (B5.ext jE) jO0 (by omega))
  replace B6 : Blk W10 (g6) 24 m0.cells := (Blk.only (B6.ext jE) jO0 (by omega))
  replace B7 : Blk W10 (g7) 24 d0.cells := (Blk.only (B7.ext jE) jO0 (by omega))
  replace E : Ext w W10 := Only.ext (E.trans jE) jO0 (by omega)
  clear hz jE jB0 jO0
  simp only [List.drop_succ_cons, List.drop_zero]
  gi_wp2_with (first | ((with_reducible refine stIn Open.wide (B3) (6) d0.cells 24 (.tmp 57) (.tmp 55) ?_ ?_ ?_ ?_ ?_ ?_ ?_ fun W11 BR11 hO11 => ?_); (exact rfl); ((iterate 4 exact rfl); exact Nat.le_of_ble_eq_true rfl; exact aggDyad; replace M_m0 := M_m0.only (B3) hO11 BR11 rfl (by decide); replace M_d0 := M_d0.only (B3) hO11 BR11 rfl (by decide); replace E := Only.ext (E) hO11 (by omega); replace B0 := Blk.only (B0) hO11 (by omega); replace B1 := Blk.only (B1) hO11 (by omega); replace B2 := Blk.only (B2) hO11 (by omega); replace B4 := Blk.only (B4) hO11 (by omega); replace B5 := Blk.only (B5) hO11 (by omega); replace B6 := Blk.only (B6) hO11 (by omega); replace B7 := Blk.only (B7) hO11 (by omega); replace B3 : Blk W11 (w.heap.size + 3) 47 (⟨XDyad.zero, XDyad.zero, d0, XDyad.zero⟩ : XMass).cells := BR11; clear BR11 hO11)) | fail)
  go_wp2_with fail
  rw [rounds_succ]
  go_wp2_with fail
  have L11_6 := B6.lt
  have L11_7 := B7.lt
  refine FG.wp_region_flowTail 17 (fun w' => W11.heap.size ≤ w'.heap.size) (Ext W11) Ext (chK W11 [8] [15, 16] [2, 4, 7] [(13, 24, XDyad.zero.cells), (14, 24, XDyad.zero.cells)]) [8] (by kernel_rfl) (by kernel_rfl) (by kernel_rfl) (fun _ _ h => Ext.size h) (Nat.le_refl _) (chK_early (Ext.drew _)) (Ext.drew _) (fun _ _ h k => h.trans k) ?_
  iterate 2 (refine FG.ftext_det rfl rfl ?_; apply Exists.intro; refine ⟨fun w hC => ?_, fun K hK => ?_⟩; (first | (go_simp; exact rfl) | (go_simp; exact ⟨rfl, rfl⟩) | (go_simp; exact trivial)); go_simp; refine hK _ ?_; clear hK K)
  refine FG.ftext_early (Ext W11) rfl rfl ?_; apply Exists.intro; refine ⟨fun w1 _ hE => ?_, fun K hK => ?_⟩; (have hc := Blk.cell (B4.ext hE) 1; simp only [List.getElem?_cons_zero, List.getElem?_cons_succ] at hc; go_simp; first | exact ⟨rfl, rfl⟩ | exact rfl)
  go_simp; refine hK _ ?_; clear hK K
  iterate 1 (refine FG.ftext_det rfl rfl ?_; apply Exists.intro; refine ⟨fun w hC => ?_, fun K hK => ?_⟩; (first | (go_simp; exact rfl) | (go_simp; exact ⟨rfl, rfl⟩) | (go_simp; exact trivial)); go_simp; refine hK _ ?_; clear hK K)
  refine FG.ftext_load_early (Ext W11) 24 _ rfl rfl rfl (w.heap.size) (9) (x.a.cells) rfl aggDyad (fun w1 _ hE => Blk.at (n := 3) (B0.ext hE) rfl) (fun K hK => ?_)
  go_simp; refine hK _ ?_; clear hK K
  iterate 2 (refine FG.ftext_det rfl rfl ?_; apply Exists.intro; refine ⟨fun w hC => ?_, fun K hK => ?_⟩; (first | (go_simp; exact rfl) | (go_simp; exact ⟨rfl, rfl⟩) | (go_simp; exact trivial)); go_simp; refine hK _ ?_; clear hK K)
  refine FG.ftext_load_early (Ext W11) 24 _ rfl rfl rfl (w.heap.size + 2) (9) (y.a.cells) rfl aggDyad (fun w1 _ hE => Blk.at (n := 3) (B2.ext hE) rfl) (fun K hK => ?_)
  go_simp; refine hK _ ?_; clear hK K
  refine FG.ftext_seq (fun v => ∃ (m1_0 : Bool) (m1_1 : Option Addr) (m1_2 m1_3 : Nat) (m1_4 : Int) (d1_0 : Bool) (d1_1 : Option Addr) (d1_2 d1_3 : Nat) (d1_4 : Int), v = .tuple #[.agg #[.bool m1_0, .slice m1_1 m1_2 m1_3, .int .i64 m1_4], .agg #[.bool d1_0, .slice d1_1 d1_2 d1_3, .int .i64 d1_4], .int .i64 0]) (fun v W' => ∃ (m1 : XDyad) (d1 : XDyad), v = .tuple #[.agg #[.bool m1.neg, .slice m1.limbs.A m1.limbs.l.length m1.limbs.c, .int .i64 m1.exp], .agg #[.bool d1.neg, .slice d1.limbs.A d1.limbs.l.length d1.limbs.c, .int .i64 d1.exp], .int .i64 0] ∧ m1.data = (middleD x.a.data y.a.data).1 ∧ d1.data = (middleD x.a.data y.a.data).2.1 ∧ m1.mine W' W11.heap.size ∧ d1.mine W' W11.heap.size ∧ Ext W11 W') rfl rfl ⟨_, false, none, 0, 0, 0, false, none, 0, 0, 0, rfl⟩ (fun v w1 w2 h hR => ?_) (fun w1 hC hJ hF Φ hΦ => ?_) (fun v hv K hK => ?_)
  · obtain ⟨m1, d1, hv0, f0_m1_d1, f1_m1_d1, f2_m1_d1, f3_m1_d1, jE⟩ := h
    exact ⟨m1, d1, hv0, f0_m1_d1, f1_m1_d1, f2_m1_d1.ext hR, f3_m1_d1.ext hR, jE.trans hR⟩
  · have jE := hJ
    go_simp
    refine (mean_middle x.a y.a _ (HX.out.ext (E.trans jE)).a (HY.out.ext (E.trans jE)).a ((FX.out).2.2.2) ((FY.out).2.2.2) P1.out.1 P1.out.2 (HT.out.ext (E.trans jE))).mono ?_
    rw [G1.out]
    rintro e w2 ⟨m1, d1, rfl, hd0, hd1, hm0, hm1, hE⟩
    exact ⟨_, rfl, hΦ _ _ ⟨_, _, _, _, _, _, _, _, _, _, rfl⟩ (Nat.le_trans hC (Ext.size hE)) hE ⟨m1, d1, rfl, hd0, hd1, (XDyad.mine.lower hm0 (Ext.size jE)), (XDyad.mine.lower hm1 (Ext.size jE)), jE.trans hE⟩⟩
  obtain ⟨m1_0, m1_1, m1_2, m1_3, m1_4, d1_0, d1_1, d1_2, d1_3, d1_4, rfl⟩ := hv
  go_simp; refine hK _ ?_; clear hK K
  iterate 4 (refine FG.ftext_det rfl rfl ?_; apply Exists.intro; refine ⟨fun w hC => ?_, fun K hK => ?_⟩; (first | (go_simp; exact rfl) | (go_simp; exact ⟨rfl, rfl⟩) | (go_simp; exact trivial)); go_simp; refine hK _ ?_; clear hK K)
  refine FG.ftext_fresh _ _ _ rfl rfl (fun w hC => ⟨hC, ?_⟩) (fun g _ _ h hr => Blk.ext h hr) (fun g8 hn_8 hs_8 K hK => ?_)
  · go_simp; first | exact ⟨rfl, Nat.le_trans hC (Ext.size (Ext.alloc _ _)), Ext.alloc _ _, Blk.new rfl⟩ | exact ⟨Nat.le_succ_of_le hC, Ext.alloc _ _, Blk.new rfl⟩
  go_simp; refine hK _ ?_; clear hK K
  refine FG.ftext_fresh _ _ _ rfl rfl (fun w hC => ⟨hC, ?_⟩) (fun g _ _ h hr => Blk.ext h hr) (fun g9 hn_9 hs_9 K hK => ?_)
  · go_simp; first | exact ⟨rfl, Nat.le_trans hC (Ext.size (Ext.alloc _ _)), Ext.alloc _ _, Blk.new rfl⟩ | exact ⟨Nat.le_succ_of_le hC, Ext.alloc _ _, Blk.new rfl⟩
  have n_9_8 : g9 ≠ g8 := fun e => hn_9 (by rw [e]; exact List.Mem.head _)
  go_simp; refine hK _ ?_; clear hK K
  refine FG.ftext_store 24 _ _ (fun W' => ∃ (m1 : XDyad) (d1 : XDyad) (V0 : World), (.tuple #[.agg #[.bool m1_0, .slice m1_1 m1_2 m1_3, .int .i64 m1_4], .agg #[.bool d1_0, .slice d1_1 d1_2 d1_3, .int .i64 d1_4], .int .i64 0] : Value) = .tuple #[.agg #[.bool m1.neg, .slice m1.limbs.A m1.limbs.l.length m1.limbs.c, .int .i64 m1.exp], .agg #[.bool d1.neg, .slice d1.limbs.A d1.limbs.l.length d1.limbs.c, .int .i64 d1.exp], .int .i64 0] ∧ m1.data = (middleD x.a.data y.a.data).1 ∧ d1.data = (middleD x.a.data y.a.data).2.1 ∧ m1.mine V0 W11.heap.size ∧ d1.mine V0 W11.heap.size ∧ Ext W11 V0 ∧ Blk V0 g8 24 XDyad.zero.cells ∧ Blk V0 g9 24 XDyad.zero.cells ∧ Blk W' (g8) 24 m1.cells ∧ Only V0 W' (g8)) rfl rfl rfl (fun w1 hC hJ hF => ?_) (fun K hK => ?_)
  · obtain ⟨m1, d1, q_m1_d1, f0_m1_d1, f1_m1_d1, f2_m1_d1, f3_m1_d1, jE⟩ := hJ
    obtain ⟨⟨_, z_8⟩, z_9⟩ := hF
    obtain ⟨rfl, rfl, rfl, rfl, rfl⟩ := eqDyad (congrArg (fun v : Value => match v with | .tuple a => a.getD 0 undef | _ => v) q_m1_d1)
    obtain ⟨rfl, rfl, rfl, rfl, rfl⟩ := eqDyad (congrArg (fun v : Value => match v with | .tuple a => a.getD 1 undef | _ => v) q_m1_d1)
    exact ⟨g8, 0, 24, XDyad.zero.cells, m1.cells, rfl, rfl, aggDyad, z_8, Nat.le_of_ble_eq_true rfl, rfl, fun w' BR hO => ⟨by show _ ≤ _; rw [hO.size]; exact hC, m1, d1, w1, rfl, f0_m1_d1, f1_m1_d1, f2_m1_d1, f3_m1_d1, jE, z_8, z_9, BR, hO⟩⟩
  go_simp; refine hK _ ?_; clear hK K
  refine FG.ftext_store 24 _ _ (fun W' => ∃ (m1 : XDyad) (d1 : XDyad) (V0 : World) (V1 : World), (.tuple #[.agg #[.bool m1_0, .slice m1_1 m1_2 m1_3, .int .i64 m1_4], .agg #[.bool d1_0, .slice d1_1 d1_2 d1_3, .int .i64 d1_4], .int .i64 0] : Value) = .tuple #[.agg #[.bool m1.neg, .slice m1.limbs.A m1.limbs.l.length m1.limbs.c, .int .i64 m1.exp], .agg #[.bool d1.neg, .slice d1.limbs.A d1.limbs.l.length d1.limbs.c, .int .i64 d1.exp], .int .i64 0] ∧ m1.data = (middleD x.a.data y.a.data).1 ∧ d1.data = (middleD x.a.data y.a.data).2.1 ∧ m1.mine V0 W11.heap.size ∧ d1.mine V0 W11.heap.size ∧ Ext W11 V0 ∧ Blk V0 g8 24 XDyad.zero.cells ∧ Blk V0 g9 24 XDyad.zero.cells ∧ Blk V1 (g8) 24 m1.cells ∧ Only V0 V1 (g8) ∧ Blk W' (g9) 24 d1.cells ∧ Only V1 W' (g9)) rfl rfl rfl (fun w1 hC hJ hF => ?_) (fun K hK => ?_)
  · obtain ⟨m1, d1, V0, q_m1_d1, f0_m1_d1, f1_m1_d1, f2_m1_d1, f3_m1_d1, jE, z_8, z_9, jB0, jO0⟩ := hJ
    obtain ⟨rfl, rfl, rfl, rfl, rfl⟩ := eqDyad (congrArg (fun v : Value => match v with | .tuple a => a.getD 0 undef | _ => v) q_m1_d1)
    obtain ⟨rfl, rfl, rfl, rfl, rfl⟩ := eqDyad (congrArg (fun v : Value => match v with | .tuple a => a.getD 1 undef | _ => v) q_m1_d1)
    exact ⟨g9, 0, 24, XDyad.zero.cells, d1.cells, rfl, rfl, aggDyad, (Blk.only z_9 jO0 (by omega)), Nat.le_of_ble_eq_true rfl, rfl, fun w' BR hO => ⟨by show _ ≤ _; rw [hO.size]; exact hC, m1, d1, V0, w1, rfl, f0_m1_d1, f1_m1_d1, f2_m1_d1, f3_m1_d1, jE, z_8, z_9, jB0, jO0, BR, hO⟩⟩
  go_simp; refine hK _ ?_; clear hK K
  refine FG.ftext_nil ?_
  rintro W12 _ ⟨m1, d1, V0, V1, q_m1_d1, f0_m1_d1, f1_m1_d1, f2_m1_d1, f3_m1_d1, jE, z_8, z_9, jB0, jO0, jB1, jO1⟩ hF
  clear hF
  obtain ⟨rfl, rfl, rfl, rfl, rfl⟩ := eqDyad (congrArg (fun v : Value => match v with | .tuple a => a.getD 0 undef | _ => v) q_m1_d1)
  obtain ⟨rfl, rfl, rfl, rfl, rfl⟩ := eqDyad (congrArg (fun v : Value => match v with | .tuple a => a.getD 1 undef | _ => v) q_m1_d1)
  have hz := E.size
  replace M_m0 : m0.mine W12 w.heap.size := (((M_m0.ext jE).only z_8 jO0 jB0 rfl (by decide)).only (Blk.only z_9 jO0 (by omega)) jO1 jB1 rfl (by decide))
  replace M_d0 : d0.mine W12 w.heap.size := (((M_d0.ext jE).only z_8 jO0 jB0 rfl (by decide)).only (Blk.only z_9 jO0 (by omega)) jO1 jB1 rfl (by decide))
  have M_m1 : m1.mine W12 w.heap.size := XDyad.mine.lower ((f2_m1_d1.only z_8 jO0 jB0 rfl (by decide)).only (Blk.only z_9 jO0 (by omega)) jO1 jB1 rfl (by decide)) hz
  have D_m1 := Lib.hid f0_m1_d1
  have F_m1 : Hid (Fine m1.data) := Lib.hid (by rw [f0_m1_d1]; exact (middleD_fine _ _).1)
  have M_d1 : d1.mine W12 w.heap.size := XDyad.mine.lower ((f3_m1_d1.only z_8 jO0 jB0 rfl (by decide)).only (Blk.only z_9 jO0 (by omega)) jO1 jB1 rfl (by decide)) hz
  have D_d1 := Lib.hid f1_m1_d1
  have F_d1 : Hid (Fine d1.data) := Lib.hid (by rw [f1_m1_d1]; exact (middleD_fine _ _).2)
  replace B0 : Blk W12 (w.heap.size) 47 x.cells := (Blk.only (Blk.only (B0.ext jE) jO0 (by omega)) jO1 (by omega))
  replace B1 : Blk W12 (w.heap.size + 1) 47 y.cells := (Blk.only (Blk.only (B1.ext jE) jO0 (by omega)) jO1 (by omega))
  replace B2 : Blk W12 (w.heap.size + 2) 47 (⟨y.s, y.w, m0, y.a⟩ : XMass).cells := (Blk.only (Blk.only (B2.ext jE) jO0 (by omega)) jO1 (by omega))
  replace B3 : Blk W12 (w.heap.size + 3) 47 (⟨XDyad.zero, XDyad.zero, d0, XDyad.zero⟩ : XMass).cells := (Blk.only (Blk.only (B3.ext jE) jO0 (by omega)) jO1 (by omega))
  replace B4 : Blk W12 (W6.heap.size) 130 [.pointer (some ⟨w.heap.size, 6, none⟩), .pointer (some ⟨w.heap.size, 9, none⟩)] := (Blk.only (Blk.only (B4.ext jE) jO0 (by omega)) jO1 (by omega))
  replace B5 : Blk W12 (W6.heap.size + 1) 130 [.pointer (some ⟨w.heap.size + 3, 6, none⟩), .pointer (some ⟨w.heap.size + 3, 9, none⟩)] := (Blk.only (Blk.only (B5.ext jE) jO0 (by omega)) jO1 (by omega))
  replace B6 : Blk W12 (g6) 24 m0.cells := (Blk.only (Blk.only (B6.ext jE) jO0 (by omega)) jO1 (by omega))
  replace B7 : Blk W12 (g7) 24 d0.cells := (Blk.only (Blk.only (B7.ext jE) jO0 (by omega)) jO1 (by omega))
  have B8 : Blk W12 (g8) 24 m1.cells := (Blk.only jB0 jO1 (by omega))
  have B9 : Blk W12 (g9) 24 d1.cells := jB1
  replace E : Ext w W12 := Only.ext (Only.ext (E.trans jE) jO0 (by omega)) jO1 (by omega)
  clear hz jE jB0 jB1 jO0 jO1 z_8 z_9 f0_m1_d1 f1_m1_d1 f2_m1_d1 f3_m1_d1 q_m1_d1
  simp only [List.drop_succ_cons, List.drop_zero]
  gi_wp2_with fail
  go_wp2_with fail
  refine FG.wp_region_flowTail 8 (fun w' => W12.heap.size ≤ w'.heap.size ∧ Blk w' (W6.heap.size + 1) 130 [.pointer (some ⟨w.heap.size + 3, 6, none⟩), .pointer (some ⟨w.heap.size + 3, 9, none⟩)] ∧ Blk w' (g9) 24 d1.cells) (Ext W12) Ext (chK W12 [] [7] [4] []) [] (by kernel_rfl) (by kernel_rfl) (by kernel_rfl) (fun _ _ h => Ext.size h) ⟨Nat.le_refl _, Blk.drew B5, Blk.drew B9⟩ (chK_early (Ext.drew _)) (Ext.drew _) (fun _ _ h k => h.trans k) ?_
  iterate 3 (refine FG.ftext_det rfl rfl ?_; apply Exists.intro; refine ⟨fun w hC => ?_, fun K hK => ?_⟩; (first | (go_simp; exact rfl) | (go_simp; exact ⟨rfl, rfl⟩) | (go_simp; exact trivial)); go_simp; refine hK _ ?_; clear hK K)
  refine FG.ftext_det rfl rfl ?_; apply Exists.intro; refine ⟨fun w1 hC => ?_, fun K hK => ?_⟩; (have hc := Blk.cell hC.2.1 1; simp only [List.getElem?_cons_zero, List.getElem?_cons_succ] at hc; go_simp; first | exact ⟨rfl, rfl⟩ | exact rfl)
  go_simp; refine hK _ ?_; clear hK K
  refine FG.ftext_load_early (Ext W12) 24 _ rfl rfl rfl (g8) (0) (m1.cells) rfl aggDyad (fun w1 _ hE => Blk.at (n := 3) (B8.ext hE) rfl) (fun K hK => ?_)
  go_simp; refine hK _ ?_; clear hK K
  refine FG.ftext_load_row 24 _ rfl rfl rfl (g9) (0) (d1.cells) rfl aggDyad (fun w1 hC => Blk.at (n := 3) hC.2.2 rfl) (fun K hK => ?_)
  go_simp; refine hK _ ?_; clear hK K
  iterate 1 (refine FG.ftext_det rfl rfl ?_; apply Exists.intro; refine ⟨fun w hC => ?_, fun K hK => ?_⟩; (first | (go_simp; exact rfl) | (go_simp; exact ⟨rfl, rfl⟩) | (go_simp; exact trivial)); go_simp; refine hK _ ?_; clear hK K)
  refine FG.ftext_store 24 _ _ (fun W' => ∃ (V0 : World), Ext W12 V0 ∧ Blk W' (w.heap.size + 2) 47 (⟨y.s, y.w, m0, m1⟩ : XMass).cells ∧ Only V0 W' (w.heap.size + 2)) rfl rfl rfl (fun w1 hC hJ hF => ?_) (fun K hK => ?_)
  · have jE := hJ
    exact ⟨w.heap.size + 2, 9, 47, (⟨y.s, y.w, m0, y.a⟩ : XMass).cells, m1.cells, rfl, rfl, aggDyad, (B2.ext jE), Nat.le_of_ble_eq_true rfl, rfl, fun w' BR hO => ⟨⟨by show _ ≤ _; rw [hO.size]; exact hC.1, Blk.only hC.2.1 hO (by omega), Blk.only hC.2.2 hO (by omega)⟩, w1, jE, BR, hO⟩⟩
  go_simp; refine hK _ ?_; clear hK K
  refine FG.ftext_nil ?_
  rintro W13 _ ⟨V0, jE, jB0, jO0⟩ hF
  clear hF
  have hz := E.size
  replace M_m0 : m0.mine W13 w.heap.size := ((M_m0.ext jE).only (B2.ext jE) jO0 jB0 rfl (by decide))
  replace M_d0 : d0.mine W13 w.heap.size := ((M_d0.ext jE).only (B2.ext jE) jO0 jB0 rfl (by decide))
  replace M_m1 : m1.mine W13 w.heap.size := ((M_m1.ext jE).only (B2.ext jE) jO0 jB0 rfl (by decide))
  replace M_d1 : d1.mine W13 w.heap.size := ((M_d1.ext jE).only (B2.ext jE) jO0 jB0 rfl (by decide))
  replace B0 : Blk W13 (w.heap.size) 47 x.cells := (Blk.only (B0.ext jE) jO0 (by omega))
  replace B1 : Blk W13 (w.heap.size + 1) 47 y.cells := (Blk.only (B1.ext jE) jO0 (by omega))
  replace B2 : Blk W13 (w.heap.size + 2) 47 (⟨y.s, y.w, m0, m1⟩ : XMass).cells := jB0
  replace B3 : Blk W13 (w.heap.size + 3) 47 (⟨XDyad.zero, XDyad.zero, d0, XDyad.zero⟩ : XMass).cells := (Blk.only (B3.ext jE) jO0 (by omega))
  replace B4 : Blk W13 (W6.heap.size) 130 [.pointer (some ⟨w.heap.size, 6, none⟩), .pointer (some ⟨w.heap.size, 9, none⟩)] := (Blk.only (B4.ext jE) jO0 (by omega))
  replace B5 : Blk W13 (W6.heap.size + 1) 130 [.pointer (some ⟨w.heap.size + 3, 6, none⟩), .pointer (some ⟨w.heap.size + 3, 9, none⟩)] := (Blk.only (B5.ext jE) jO0 (by omega))
  replace B6 : Blk W13 (g6) 24 m0.cells := (Blk.only (B6.ext jE) jO0 (by omega))
  replace B7 : Blk W13 (g7) 24 d0.cells := (Blk.only (B7.ext jE) jO0 (by omega))
  replace B8 : Blk W13 (g8) 24 m1.cells := (Blk.only (B8.ext jE) jO0 (by omega))
  replace B9 : Blk W13 (g9) 24 d1.cells := (Blk.only (B9.ext jE) jO0 (by omega))
  replace E : Ext w W13 := Only.ext (E.trans jE) jO0 (by omega)
  clear hz jE jB0 jO0
  simp only [List.drop_succ_cons, List.drop_zero]
  gi_wp2_with (first | ((with_reducible refine stIn Open.wide (B3) (9) d1.cells 24 (.tmp 57) (.tmp 55) ?_ ?_ ?_ ?_ ?_ ?_ ?_ fun W14 BR14 hO14 => ?_); (exact rfl); ((iterate 4 exact rfl); exact Nat.le_of_ble_eq_true rfl; exact aggDyad; replace M_m0 := M_m0.only (B3) hO14 BR14 rfl (by decide); replace M_d0 := M_d0.only (B3) hO14 BR14 rfl (by decide); replace M_m1 := M_m1.only (B3) hO14 BR14 rfl (by decide); replace M_d1 := M_d1.only (B3) hO14 BR14 rfl (by decide); replace E := Only.ext (E) hO14 (by omega); replace B0 := Blk.only (B0) hO14 (by omega); replace B1 := Blk.only (B1) hO14 (by omega); replace B2 := Blk.only (B2) hO14 (by omega); replace B4 := Blk.only (B4) hO14 (by omega); replace B5 := Blk.only (B5) hO14 (by omega); replace B6 := Blk.only (B6) hO14 (by omega); replace B7 := Blk.only (B7) hO14 (by omega); replace B8 := Blk.only (B8) hO14 (by omega); replace B9 := Blk.only (B9) hO14 (by omega); replace B3 : Blk W14 (w.heap.size + 3) 47 (⟨XDyad.zero, XDyad.zero, d0, d1⟩ : XMass).cells := BR14; clear BR14 hO14)) | fail)
  go_wp2_with fail
  rw [rounds_succ]
  go_wp2_with fail
  refine FG.wp_region_flowTail 4 (fun w' => W14.heap.size ≤ w'.heap.size) (Ext W14) Ext (chK W14 [1, 3] [] [0, 2] []) [1, 3] (by kernel_rfl) (by kernel_rfl) (by kernel_rfl) (fun _ _ h => Ext.size h) (Nat.le_refl _) (chK_early (Ext.drew _)) (Ext.drew _) (fun _ _ h k => h.trans k) ?_
  refine FG.ftext_load_early (Ext W14) 47 _ rfl rfl rfl (w.heap.size + 2) (0) ((⟨y.s, y.w, m0, m1⟩ : XMass).cells) rfl aggMass (fun w1 _ hE => Blk.at (n := 12) (B2.ext hE) rfl) (fun K hK => ?_)
  go_simp; refine hK _ ?_; clear hK K
  refine FG.ftext_seq (fun v => ∃ (z_0 : Bool) (z_1 : Option Addr) (z_2 z_3 : Nat) (z_4 : Int) (z_5 : Bool) (z_6 : Option Addr) (z_7 z_8 : Nat) (z_9 : Int) (z_10 : Bool) (z_11 : Option Addr) (z_12 z_13 : Nat) (z_14 : Int) (z_15 : Bool) (z_16 : Option Addr) (z_17 z_18 : Nat) (z_19 : Int), v = .agg #[.bool z_0, .slice z_1 z_2 z_3, .int .i64 z_4, .bool z_5, .slice z_6 z_7 z_8, .int .i64 z_9, .bool z_10, .slice z_11 z_12 z_13, .int .i64 z_14, .bool z_15, .slice z_16 z_17 z_18, .int .i64 z_19]) (fun v W' => ∃ (z : XMass), v = .agg #[.bool z.s.neg, .slice z.s.limbs.A z.s.limbs.l.length z.s.limbs.c, .int .i64 z.s.exp, .bool z.w.neg, .slice z.w.limbs.A z.w.limbs.l.length z.w.limbs.c, .int .i64 z.w.exp, .bool z.c.neg, .slice z.c.limbs.A z.c.limbs.l.length z.c.limbs.c, .int .i64 z.c.exp, .bool z.a.neg, .slice z.a.limbs.A z.a.limbs.l.length z.a.limbs.c, .int .i64 z.a.exp] ∧ z.data = (⟨y.s, y.w, m0, m1⟩ : XMass).data ∧ z.mine W' W14.heap.size ∧ Ext W14 W') rfl rfl ⟨_, false, none, 0, 0, 0, false, none, 0, 0, 0, false, none, 0, 0, 0, false, none, 0, 0, 0, rfl⟩ (fun v w1 w2 h hR => ?_) (fun w1 hC hJ hF Φ hΦ => ?_) (fun v hv K hK => ?_)
  · obtain ⟨z, hv0, f0_z, f1_z, jE⟩ := h
    exact ⟨z, hv0, f0_z, f1_z.ext hR, jE.trans hR⟩
  · have jE := hJ
    go_simp
    refine (mass_Twin ((⟨y.s, y.w, m0, m1⟩ : XMass)) _ ⟨(HY.out.ext (E.trans jE)).s, (HY.out.ext (E.trans jE)).w, ((M_m0.ext jE).ok), ((M_m1.ext jE).ok)⟩ (FineM.small ((⟨(FY.out).1, (FY.out).2.1, F_m0.out, F_m1.out⟩)))).mono ?_
    rintro e w2 ⟨z, rfl, hd0, hm0, hE⟩
    exact ⟨_, rfl, hΦ _ _ ⟨_, _, _, _, _, _, _, _, _, _, _, _, _, _, _, _, _, _, _, _, rfl⟩ (Nat.le_trans hC (Ext.size hE)) hE ⟨z, rfl, hd0, (XMass.mine.lower hm0 (Ext.size jE)), jE.trans hE⟩⟩
  obtain ⟨z_0, z_1, z_2, z_3, z_4, z_5, z_6, z_7, z_8, z_9, z_10, z_11, z_12, z_13, z_14, z_15, z_16, z_17, z_18, z_19, rfl⟩ := hv
  go_simp; refine hK _ ?_; clear hK K
  refine FG.ftext_load_early (Ext W14) 47 _ rfl rfl rfl (w.heap.size + 3) (0) ((⟨XDyad.zero, XDyad.zero, d0, d1⟩ : XMass).cells) rfl aggMass (fun w1 _ hE => Blk.at (n := 12) (B3.ext hE) rfl) (fun K hK => ?_)
  go_simp; refine hK _ ?_; clear hK K
  refine FG.ftext_seq (fun v => ∃ (l_0 : Bool) (l_1 : Option Addr) (l_2 l_3 : Nat) (l_4 : Int) (l_5 : Bool) (l_6 : Option Addr) (l_7 l_8 : Nat) (l_9 : Int) (l_10 : Bool) (l_11 : Option Addr) (l_12 l_13 : Nat) (l_14 : Int) (l_15 : Bool) (l_16 : Option Addr) (l_17 l_18 : Nat) (l_19 : Int), v = .agg #[.bool l_0, .slice l_1 l_2 l_3, .int .i64 l_4, .bool l_5, .slice l_6 l_7 l_8, .int .i64 l_9, .bool l_10, .slice l_11 l_12 l_13, .int .i64 l_14, .bool l_15, .slice l_16 l_17 l_18, .int .i64 l_19]) (fun v W' => ∃ (z : XMass) (l : XMass), (.agg #[.bool z_0, .slice z_1 z_2 z_3, .int .i64 z_4, .bool z_5, .slice z_6 z_7 z_8, .int .i64 z_9, .bool z_10, .slice z_11 z_12 z_13, .int .i64 z_14, .bool z_15, .slice z_16 z_17 z_18, .int .i64 z_19] : Value) = .agg #[.bool z.s.neg, .slice z.s.limbs.A z.s.limbs.l.length z.s.limbs.c, .int .i64 z.s.exp, .bool z.w.neg, .slice z.w.limbs.A z.w.limbs.l.length z.w.limbs.c, .int .i64 z.w.exp, .bool z.c.neg, .slice z.c.limbs.A z.c.limbs.l.length z.c.limbs.c, .int .i64 z.c.exp, .bool z.a.neg, .slice z.a.limbs.A z.a.limbs.l.length z.a.limbs.c, .int .i64 z.a.exp] ∧ z.data = (⟨y.s, y.w, m0, m1⟩ : XMass).data ∧ z.mine W' W14.heap.size ∧ v = .agg #[.bool l.s.neg, .slice l.s.limbs.A l.s.limbs.l.length l.s.limbs.c, .int .i64 l.s.exp, .bool l.w.neg, .slice l.w.limbs.A l.w.limbs.l.length l.w.limbs.c, .int .i64 l.w.exp, .bool l.c.neg, .slice l.c.limbs.A l.c.limbs.l.length l.c.limbs.c, .int .i64 l.c.exp, .bool l.a.neg, .slice l.a.limbs.A l.a.limbs.l.length l.a.limbs.c, .int .i64 l.a.exp] ∧ l.data = (⟨XDyad.zero, XDyad.zero, d0, d1⟩ : XMass).data ∧ l.mine W' W14.heap.size ∧ Ext W14 W') rfl rfl ⟨_, false, none, 0, 0, 0, false, none, 0, 0, 0, false, none, 0, 0, 0, false, none, 0, 0, 0, rfl⟩ (fun v w1 w2 h hR => ?_) (fun w1 hC hJ hF Φ hΦ => ?_) (fun v hv K hK => ?_)
  · obtain ⟨z, l, q_z, f0_z, f1_z, hv0, f0_l, f1_l, jE⟩ := h
    exact ⟨z, l, q_z, f0_z, f1_z.ext hR, hv0, f0_l, f1_l.ext hR, jE.trans hR⟩
  · obtain ⟨z, q_z, f0_z, f1_z, jE⟩ := hJ
    obtain ⟨rfl, rfl, rfl, rfl, rfl, rfl, rfl, rfl, rfl, rfl, rfl, rfl, rfl, rfl, rfl, rfl, rfl, rfl, rfl, rfl⟩ := eqMass q_z
    go_simp
    refine (mass_Twin ((⟨XDyad.zero, XDyad.zero, d0, d1⟩ : XMass)) _ ⟨(XDyad.zero_ok _ _), (XDyad.zero_ok _ _), ((M_d0.ext jE).ok), ((M_d1.ext jE).ok)⟩ (FineM.small ((⟨fine_zero, fine_zero, F_d0.out, F_d1.out⟩)))).mono ?_
    rintro e w2 ⟨l, rfl, hd0, hm0, hE⟩
    exact ⟨_, rfl, hΦ _ _ ⟨_, _, _, _, _, _, _, _, _, _, _, _, _, _, _, _, _, _, _, _, rfl⟩ (Nat.le_trans hC (Ext.size hE)) hE ⟨z, l, q_z, f0_z, f1_z.ext hE, rfl, hd0, (XMass.mine.lower hm0 (Ext.size jE)), jE.trans hE⟩⟩
  obtain ⟨l_0, l_1, l_2, l_3, l_4, l_5, l_6, l_7, l_8, l_9, l_10, l_11, l_12, l_13, l_14, l_15, l_16, l_17, l_18, l_19, rfl⟩ := hv
  go_simp; refine hK _ ?_; clear hK K
  refine FG.ftext_nil ?_
  rintro W15 _ ⟨z, l, q_z, f0_z, f1_z, q_l, f0_l, f1_l, jE⟩ hF
  clear hF
  obtain ⟨rfl, rfl, rfl, rfl, rfl, rfl, rfl, rfl, rfl, rfl, rfl, rfl, rfl, rfl, rfl, rfl, rfl, rfl, rfl, rfl⟩ := eqMass q_z
  obtain ⟨rfl, rfl, rfl, rfl, rfl, rfl, rfl, rfl, rfl, rfl, rfl, rfl, rfl, rfl, rfl, rfl, rfl, rfl, rfl, rfl⟩ := eqMass q_l
  have hz := E.size
  replace M_m0 : m0.mine W15 w.heap.size := (M_m0.ext jE)
  replace M_d0 : d0.mine W15 w.heap.size := (M_d0.ext jE)
  replace M_m1 : m1.mine W15 w.heap.size := (M_m1.ext jE)
  replace M_d1 : d1.mine W15 w.heap.size := (M_d1.ext jE)
  have M_z : z.mine W15 w.heap.size := XMass.mine.lower f1_z hz
  have D_z := Lib.hid f0_z
  have F_z : Hid (FineM z.data) := Lib.hid (by rw [f0_z]; exact ⟨(FY.out).1, (FY.out).2.1, F_m0.out, F_m1.out⟩)
  have M_l : l.mine W15 w.heap.size := XMass.mine.lower f1_l hz
  have D_l := Lib.hid f0_l
  have F_l : Hid (FineM l.data) := Lib.hid (by rw [f0_l]; exact ⟨fine_zero, fine_zero, F_d0.out, F_d1.out⟩)
  replace B0 : Blk W15 (w.heap.size) 47 x.cells := (B0.ext jE)
  replace B1 : Blk W15 (w.heap.size + 1) 47 y.cells := (B1.ext jE)
  replace B2 : Blk W15 (w.heap.size + 2) 47 (⟨y.s, y.w, m0, m1⟩ : XMass).cells := (B2.ext jE)
  replace B3 : Blk W15 (w.heap.size + 3) 47 (⟨XDyad.zero, XDyad.zero, d0, d1⟩ : XMass).cells := (B3.ext jE)
  replace B4 : Blk W15 (W6.heap.size) 130 [.pointer (some ⟨w.heap.size, 6, none⟩), .pointer (some ⟨w.heap.size, 9, none⟩)] := (B4.ext jE)
  replace B5 : Blk W15 (W6.heap.size + 1) 130 [.pointer (some ⟨w.heap.size + 3, 6, none⟩), .pointer (some ⟨w.heap.size + 3, 9, none⟩)] := (B5.ext jE)
  replace B6 : Blk W15 (g6) 24 m0.cells := (B6.ext jE)
  replace B7 : Blk W15 (g7) 24 d0.cells := (B7.ext jE)
  replace B8 : Blk W15 (g8) 24 m1.cells := (B8.ext jE)
  replace B9 : Blk W15 (g9) 24 d1.cells := (B9.ext jE)
  replace E : Ext w W15 := E.trans jE
  clear hz jE f0_z f1_z f0_l f1_l q_z q_l
  simp only [List.drop_succ_cons, List.drop_zero]
  gi_wp2_with (first | ((with_reducible refine stIn Open.wide (B2) (0) z.cells 47 (.tmp 4) (.tmp 60) ?_ ?_ ?_ ?_ ?_ ?_ ?_ fun W16 BR16 hO16 => ?_); (exact rfl); ((iterate 4 exact rfl); exact Nat.le_of_ble_eq_true rfl; exact aggMass; replace M_m0 := M_m0.only (B2) hO16 BR16 rfl (by decide); replace M_d0 := M_d0.only (B2) hO16 BR16 rfl (by decide); replace M_m1 := M_m1.only (B2) hO16 BR16 rfl (by decide); replace M_d1 := M_d1.only (B2) hO16 BR16 rfl (by decide); replace M_z := M_z.only (B2) hO16 BR16 rfl (by decide); replace M_l := M_l.only (B2) hO16 BR16 rfl (by decide); replace E := Only.ext (E) hO16 (by omega); replace B0 := Blk.only (B0) hO16 (by omega); replace B1 := Blk.only (B1) hO16 (by omega); replace B3 := Blk.only (B3) hO16 (by omega); replace B4 := Blk.only (B4) hO16 (by omega); replace B5 := Blk.only (B5) hO16 (by omega); replace B6 := Blk.only (B6) hO16 (by omega); replace B7 := Blk.only (B7) hO16 (by omega); replace B8 := Blk.only (B8) hO16 (by omega); replace B9 := Blk.only (B9) hO16 (by omega); replace B2 : Blk W16 (w.heap.size + 2) 47 z.cells := BR16; clear BR16 hO16)) | ((with_reducible refine stIn Open.wide (B3) (0) l.cells 47 (.tmp 5) (.tmp 62) ?_ ?_ ?_ ?_ ?_ ?_ ?_ fun W17 BR17 hO17 => ?_); (exact rfl); ((iterate 4 exact rfl); exact Nat.le_of_ble_eq_true rfl; exact aggMass; replace M_m0 := M_m0.only (B3) hO17 BR17 rfl (by decide); replace M_d0 := M_d0.only (B3) hO17 BR17 rfl (by decide); replace M_m1 := M_m1.only (B3) hO17 BR17 rfl (by decide); replace M_d1 := M_d1.only (B3) hO17 BR17 rfl (by decide); replace M_z := M_z.only (B3) hO17 BR17 rfl (by decide); replace M_l := M_l.only (B3) hO17 BR17 rfl (by decide); replace E := Only.ext (E) hO17 (by omega); replace B0 := Blk.only (B0) hO17 (by omega); replace B1 := Blk.only (B1) hO17 (by omega); replace B2 := Blk.only (B2) hO17 (by omega); replace B4 := Blk.only (B4) hO17 (by omega); replace B5 := Blk.only (B5) hO17 (by omega); replace B6 := Blk.only (B6) hO17 (by omega); replace B7 := Blk.only (B7) hO17 (by omega); replace B8 := Blk.only (B8) hO17 (by omega); replace B9 := Blk.only (B9) hO17 (by omega); replace B3 : Blk W17 (w.heap.size + 3) 47 l.cells := BR17; clear BR17 hO17)) | fail)
  go_wp2_with fail
  exact bodyPost_ret (results_cct rfl rfl (B2) aggMass rfl (B3) aggMass) rfl ⟨z, l, by rw [HR.out] <;> rfl, by rw [HR.out, D_z.out, ← D_m0.out, ← D_m1.out] <;> rfl, by rw [HR.out, D_l.out, ← D_d0.out, ← D_d1.out] <;> rfl, M_z, M_l, E⟩
end Go.Proofs.YtgcbnagfdfgpnaaDoor
