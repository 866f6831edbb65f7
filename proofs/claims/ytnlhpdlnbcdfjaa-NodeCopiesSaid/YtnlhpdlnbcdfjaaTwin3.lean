/- Copies of parts: the program. -/
import Derived.Test.YtnlhpdlnbcdfjaaMass
namespace Go.Proofs.Ytnlhpdlnbcdfjaa
open Go.RowKit Go.Hx
attribute [local go_sem] detUpon undUpon
set_option maxRecDepth 100000 in
theorem past_TwinPart (x : XPart) (w : World) (hx : x.ok w w.heap.size) (hs : x.data.small) :
    Calls Try.prog 34 #[.agg #[.bool x.held.s.neg, .slice x.held.s.limbs.A x.held.s.limbs.l.length x.held.s.limbs.c, .int .i64 x.held.s.exp, .bool x.held.w.neg, .slice x.held.w.limbs.A x.held.w.limbs.l.length x.held.w.limbs.c, .int .i64 x.held.w.exp, .bool x.held.c.neg, .slice x.held.c.limbs.A x.held.c.limbs.l.length x.held.c.limbs.c, .int .i64 x.held.c.exp, .bool x.held.a.neg, .slice x.held.a.limbs.A x.held.a.limbs.l.length x.held.a.limbs.c, .int .i64 x.held.a.exp, .bool x.edge.has, .int .i64 x.edge.min, .int .i64 x.edge.max, .slice x.least.A x.least.l.length x.least.c]] w fun e w' => ∃ y : XPart, e = .returned (.agg y.cells.toArray) ∧ y.data = x.data ∧ y.mine w' w.heap.size ∧ Ext w w' := by
  have HXM := Lib.hid hx.held
  have HXL := Lib.hid hx.least
  have HSM := Lib.hid hs.1
  have HSL := Lib.hid hs.2
  clear hx hs
  go_enter Try.func34, Try.ntmps34
  go_wp2_with fail
  obtain ⟨W0, hW0⟩ : ∃ W0, W0 = (w.alloc (.cells #[.bool x.held.s.neg, .slice x.held.s.limbs.A x.held.s.limbs.l.length x.held.s.limbs.c, .int .i64 x.held.s.exp, .bool x.held.w.neg, .slice x.held.w.limbs.A x.held.w.limbs.l.length x.held.w.limbs.c, .int .i64 x.held.w.exp, .bool x.held.c.neg, .slice x.held.c.limbs.A x.held.c.limbs.l.length x.held.c.limbs.c, .int .i64 x.held.c.exp, .bool x.held.a.neg, .slice x.held.a.limbs.A x.held.a.limbs.l.length x.held.a.limbs.c, .int .i64 x.held.a.exp, .bool x.edge.has, .int .i64 x.edge.min, .int .i64 x.edge.max, .slice x.least.A x.least.l.length x.least.c] 32)).alloc (.cells #[.bool false, .slice none 0 0, .int .i64 0, .bool false, .slice none 0 0, .int .i64 0, .bool false, .slice none 0 0, .int .i64 0, .bool false, .slice none 0 0, .int .i64 0, .bool false, .int .i64 0, .int .i64 0, .slice none 0 0] 32) := ⟨_, rfl⟩
  have B0 : Blk W0 w.heap.size 32 [.bool x.held.s.neg, .slice x.held.s.limbs.A x.held.s.limbs.l.length x.held.s.limbs.c, .int .i64 x.held.s.exp, .bool x.held.w.neg, .slice x.held.w.limbs.A x.held.w.limbs.l.length x.held.w.limbs.c, .int .i64 x.held.w.exp, .bool x.held.c.neg, .slice x.held.c.limbs.A x.held.c.limbs.l.length x.held.c.limbs.c, .int .i64 x.held.c.exp, .bool x.held.a.neg, .slice x.held.a.limbs.A x.held.a.limbs.l.length x.held.a.limbs.c, .int .i64 x.held.a.exp, .bool x.edge.has, .int .i64 x.edge.min, .int .i64 x.edge.max, .slice x.least.A x.least.l.length x.least.c] := by rw [hW0]; exact Blk.alloc (Blk.new rfl) _
  have B1 : Blk W0 (w.heap.size + 1) 32 [.bool false, .slice none 0 0, .int .i64 0, .bool false, .slice none 0 0, .int .i64 0, .bool false, .slice none 0 0, .int .i64 0, .bool false, .slice none 0 0, .int .i64 0, .bool false, .int .i64 0, .int .i64 0, .slice none 0 0] := by rw [hW0]; exact Blk.new (by simp)
  have hE0 : Ext w W0 := by rw [hW0]; exact Ext.alloc' (Ext.alloc _ _) _
  refine wp_region_tail 7 (C := Ext W0) (R := Ext) (U := fun i => if i = 2 then some (.some_ (fun v W => ∃ y : XMass, v = .agg y.cells.toArray ∧ y.data = x.held.data ∧ y.mine W w.heap.size)) else if i = 5 then some (.some_ (fun v W => ∃ y : LX Nat, v = .slice y.A y.l.length y.c ∧ y.l = x.least.l ∧ Go.Hx.Own W w.heap.size 91 1 cU32 (.slice y.A y.l.length y.c) y.l)) else none) (by kernel_rfl) (by kernel_rfl) (by rw [hW0]; exact Ext.drew _) ?_
  refine text_det rfl rfl ?_; apply Exists.intro; refine ⟨fun w hC => ?_, fun K hK => ?_⟩; go_simp; exact rfl; go_simp; refine hK _ ?_; clear hK K
  refine text_load_row 28 _ rfl rfl rfl _ _ x.held.cells rfl aggMass (fun W hW => (B0.ext hW).part 0 12) (fun K hK => ?_); go_simp; refine hK _ ?_; clear hK K
  refine text_und _ rfl rfl (fun v w1 w2 hG hR => ?_) (fun w1 hC Φ hΦ => ?_) (fun v K hK => ?_)
  · obtain ⟨y, h1, h2, h3⟩ := hG
    exact ⟨y, h1, h2, h3.ext hR⟩
  · go_simp
    refine (mass_Twin x.held _ (HXM.out.ext (hE0.trans hC)) HSM.out).mono ?_
    rintro e w2 ⟨y, rfl, h1, h2, hE2⟩
    exact ⟨_, rfl, hΦ _ _ (hC.trans hE2) hE2 ⟨y, rfl, h1, h2.lower (hE0.trans hC).size⟩⟩
  go_simp; refine hK _ ?_; clear hK K
  refine text_det rfl rfl ?_; apply Exists.intro; refine ⟨fun w hC => ?_, fun K hK => ?_⟩; go_simp; exact rfl; go_simp; refine hK _ ?_; clear hK K
  have g0 : ∀ W, Ext W0 W → W.cell? ⟨w.heap.size, 15, none⟩ = some (.slice x.least.A x.least.l.length x.least.c) := fun W hW => (B0.ext hW).cell 15
  refine text_det rfl rfl ?_; apply Exists.intro; refine ⟨fun w hC => ?_, fun K hK => ?_⟩; go_simp; rw [g0 _ hC]; exact ⟨rfl, rfl⟩; go_simp; refine hK _ ?_; clear hK K
  refine text_und _ rfl rfl (fun v w1 w2 hG hR => ?_) (fun w1 hC Φ hΦ => ?_) (fun v2 K hK => ?_)
  · obtain ⟨y, h1, h2, h3⟩ := hG
    exact ⟨y, h1, h2, h3.ext hR⟩
  · go_simp
    refine (clone_u32 x.least _ (HXL.out.ext (hE0.trans hC)) HSL.out).mono ?_
    rintro e w2 ⟨y, rfl, h1, _, h2, hE2⟩
    exact ⟨_, rfl, hΦ _ _ (hC.trans hE2) hE2 ⟨y, rfl, h1, h2.lower (hE0.trans hC).size⟩⟩
  go_simp; refine hK _ ?_; clear hK K
  refine text_det rfl rfl ?_; apply Exists.intro; refine ⟨fun w hC => ?_, fun K hK => ?_⟩; go_simp; exact rfl; go_simp; refine hK _ ?_; clear hK K
  refine text_nil ?_
  rintro w1 hC ⟨⟨_, y, rfl, hyd, hym⟩, ⟨l, A, c⟩, rfl, rfl, hlo⟩
  have B10 : Blk w1 w.heap.size 32 [.bool x.held.s.neg, .slice x.held.s.limbs.A x.held.s.limbs.l.length x.held.s.limbs.c, .int .i64 x.held.s.exp, .bool x.held.w.neg, .slice x.held.w.limbs.A x.held.w.limbs.l.length x.held.w.limbs.c, .int .i64 x.held.w.exp, .bool x.held.c.neg, .slice x.held.c.limbs.A x.held.c.limbs.l.length x.held.c.limbs.c, .int .i64 x.held.c.exp, .bool x.held.a.neg, .slice x.held.a.limbs.A x.held.a.limbs.l.length x.held.a.limbs.c, .int .i64 x.held.a.exp, .bool x.edge.has, .int .i64 x.edge.min, .int .i64 x.edge.max, .slice x.least.A x.least.l.length x.least.c] := B0.ext hC
  have B11 : Blk w1 (w.heap.size + 1) 32 [.bool false, .slice none 0 0, .int .i64 0, .bool false, .slice none 0 0, .int .i64 0, .bool false, .slice none 0 0, .int .i64 0, .bool false, .slice none 0 0, .int .i64 0, .bool false, .int .i64 0, .int .i64 0, .slice none 0 0] := B1.ext hC
  simp only [List.drop_succ_cons, List.drop_zero]
  go_wp2_with (first | ((with_reducible refine wpl_store 28 (.tmp 9) (.tmp 5) ?_ ?_ (w.heap.size) 0 32 [.bool x.held.s.neg, .slice x.held.s.limbs.A x.held.s.limbs.l.length x.held.s.limbs.c, .int .i64 x.held.s.exp, .bool x.held.w.neg, .slice x.held.w.limbs.A x.held.w.limbs.l.length x.held.w.limbs.c, .int .i64 x.held.w.exp, .bool x.held.c.neg, .slice x.held.c.limbs.A x.held.c.limbs.l.length x.held.c.limbs.c, .int .i64 x.held.c.exp, .bool x.held.a.neg, .slice x.held.a.limbs.A x.held.a.limbs.l.length x.held.a.limbs.c, .int .i64 x.held.a.exp, .bool x.edge.has, .int .i64 x.edge.min, .int .i64 x.edge.max, .slice x.least.A x.least.l.length x.least.c] [.bool y.s.neg, .slice y.s.limbs.A y.s.limbs.l.length y.s.limbs.c, .int .i64 y.s.exp, .bool y.w.neg, .slice y.w.limbs.A y.w.limbs.l.length y.w.limbs.c, .int .i64 y.w.exp, .bool y.c.neg, .slice y.c.limbs.A y.c.limbs.l.length y.c.limbs.c, .int .i64 y.c.exp, .bool y.a.neg, .slice y.a.limbs.A y.a.limbs.l.length y.a.limbs.c, .int .i64 y.a.exp] ?_ ?_ ?_ ?_ ?_ ?_ ?_); (exact rfl); (exact rfl); (exact rfl); (exact rfl); (exact aggMass); (exact B10); (exact by simp); (exact rfl); (intro w2 BR hO; have B20 : Blk w2 w.heap.size 32 [.bool y.s.neg, .slice y.s.limbs.A y.s.limbs.l.length y.s.limbs.c, .int .i64 y.s.exp, .bool y.w.neg, .slice y.w.limbs.A y.w.limbs.l.length y.w.limbs.c, .int .i64 y.w.exp, .bool y.c.neg, .slice y.c.limbs.A y.c.limbs.l.length y.c.limbs.c, .int .i64 y.c.exp, .bool y.a.neg, .slice y.a.limbs.A y.a.limbs.l.length y.a.limbs.c, .int .i64 y.a.exp, .bool x.edge.has, .int .i64 x.edge.min, .int .i64 x.edge.max, .slice x.least.A x.least.l.length x.least.c] := BR; have B21 : Blk w2 (w.heap.size + 1) 32 [.bool false, .slice none 0 0, .int .i64 0, .bool false, .slice none 0 0, .int .i64 0, .bool false, .slice none 0 0, .int .i64 0, .bool false, .slice none 0 0, .int .i64 0, .bool false, .int .i64 0, .int .i64 0, .slice none 0 0] := Blk.only B11 hO (by simp); obtain ⟨c2, f2⟩ := B20.rules)) | ((with_reducible refine wpl_load 32 (.tmp 1) ?_ ?_ (w.heap.size) 0 [.bool y.s.neg, .slice y.s.limbs.A y.s.limbs.l.length y.s.limbs.c, .int .i64 y.s.exp, .bool y.w.neg, .slice y.w.limbs.A y.w.limbs.l.length y.w.limbs.c, .int .i64 y.w.exp, .bool y.c.neg, .slice y.c.limbs.A y.c.limbs.l.length y.c.limbs.c, .int .i64 y.c.exp, .bool y.a.neg, .slice y.a.limbs.A y.a.limbs.l.length y.a.limbs.c, .int .i64 y.a.exp, .bool x.edge.has, .int .i64 x.edge.min, .int .i64 x.edge.max, .slice A x.least.l.length c] ?_ ?_ ?_ ?_); (exact rfl); (exact rfl); (exact rfl); (exact aggPart); (exact (Blk.set B20 15 _).row)) | ((with_reducible refine wpl_store 32 (.tmp 2) (.tmp 11) ?_ ?_ (w.heap.size + 1) 0 32 [.bool false, .slice none 0 0, .int .i64 0, .bool false, .slice none 0 0, .int .i64 0, .bool false, .slice none 0 0, .int .i64 0, .bool false, .slice none 0 0, .int .i64 0, .bool false, .int .i64 0, .int .i64 0, .slice none 0 0] [.bool y.s.neg, .slice y.s.limbs.A y.s.limbs.l.length y.s.limbs.c, .int .i64 y.s.exp, .bool y.w.neg, .slice y.w.limbs.A y.w.limbs.l.length y.w.limbs.c, .int .i64 y.w.exp, .bool y.c.neg, .slice y.c.limbs.A y.c.limbs.l.length y.c.limbs.c, .int .i64 y.c.exp, .bool y.a.neg, .slice y.a.limbs.A y.a.limbs.l.length y.a.limbs.c, .int .i64 y.a.exp, .bool x.edge.has, .int .i64 x.edge.min, .int .i64 x.edge.max, .slice A x.least.l.length c] ?_ ?_ ?_ ?_ ?_ ?_ ?_); (exact rfl); (exact rfl); (exact rfl); (exact rfl); (exact aggPart); (exact (Blk.far B21 (by simp) _)); (exact by simp); (exact rfl); (intro w3 BR3 hO3)) | fail)
  have hS2 : Shape (fun e => e = 32) w.heap.size w1 w2 := Shape.only (T := fun e => e = 32) (Shape.refl _ _ _) B10 hO BR rfl rfl (Nat.le_refl _)
  have hS : Shape (fun e => e = 32) w.heap.size w1 w3 := Shape.only (T := fun e => e = 32) (hS2.put B20 rfl (Nat.le_refl _) 15 _) (Blk.far B21 (by simp) _) hO3 BR3 rfl rfl (by simp)
  exact bodyPost_ret (results_c rfl rfl BR3 aggPart) rfl ⟨⟨y, x.edge, ⟨x.least.l, A, c⟩⟩, rfl, by simp only [XPart.data, hyd], ⟨hym.shape hS (by decide), hlo.shape hS (by decide)⟩, Ext.of ((Shape.of_ext (hE0.trans hC)).trans hS |>.below (Nat.le_refl _))⟩
end Go.Proofs.Ytnlhpdlnbcdfjaa
