/- Copies of masses: the reference. -/
import Derived.Test.YtnlhpdlnbcdfjaaTwin0
namespace Go.Proofs.Ytnlhpdlnbcdfjaa
open Go.RowKit Go.Hx
attribute [local go_sem] detUpon undUpon
theorem aggMass : AggTy Try.prog 28 12 := ⟨⟨_, Try.underlying28, rfl⟩, by kernel_rfl⟩
set_option maxRecDepth 100000 in
set_option maxHeartbeats 400000 in
theorem ref06_Twin (x : XMass) (w : World) (hx : x.ok w w.heap.size) (hs : x.data.small) :
    Calls Try.prog 49 #[.agg #[.bool x.s.neg, .slice x.s.limbs.A x.s.limbs.l.length x.s.limbs.c, .int .i64 x.s.exp, .bool x.w.neg, .slice x.w.limbs.A x.w.limbs.l.length x.w.limbs.c, .int .i64 x.w.exp, .bool x.c.neg, .slice x.c.limbs.A x.c.limbs.l.length x.c.limbs.c, .int .i64 x.c.exp, .bool x.a.neg, .slice x.a.limbs.A x.a.limbs.l.length x.a.limbs.c, .int .i64 x.a.exp]] w fun e w' => ∃ y : XMass, e = .returned (.agg #[.bool y.s.neg, .slice y.s.limbs.A y.s.limbs.l.length y.s.limbs.c, .int .i64 y.s.exp, .bool y.w.neg, .slice y.w.limbs.A y.w.limbs.l.length y.w.limbs.c, .int .i64 y.w.exp, .bool y.c.neg, .slice y.c.limbs.A y.c.limbs.l.length y.c.limbs.c, .int .i64 y.c.exp, .bool y.a.neg, .slice y.a.limbs.A y.a.limbs.l.length y.a.limbs.c, .int .i64 y.a.exp]) ∧ y.data = x.data ∧ y.mine w' w.heap.size ∧ Ext w w' := by
  have HX := Lib.hid hx
  have HS := Lib.hid hs
  clear hx hs
  go_enter Try.func49, Try.ntmps49
  go_wp2_with fail
  obtain ⟨W0, hW0⟩ : ∃ W0, W0 = (w.alloc (.cells #[.bool x.s.neg, .slice x.s.limbs.A x.s.limbs.l.length x.s.limbs.c, .int .i64 x.s.exp, .bool x.w.neg, .slice x.w.limbs.A x.w.limbs.l.length x.w.limbs.c, .int .i64 x.w.exp, .bool x.c.neg, .slice x.c.limbs.A x.c.limbs.l.length x.c.limbs.c, .int .i64 x.c.exp, .bool x.a.neg, .slice x.a.limbs.A x.a.limbs.l.length x.a.limbs.c, .int .i64 x.a.exp] 28)).alloc (.cells #[.bool false, .slice none 0 0, .int .i64 0, .bool false, .slice none 0 0, .int .i64 0, .bool false, .slice none 0 0, .int .i64 0, .bool false, .slice none 0 0, .int .i64 0] 28) := ⟨_, rfl⟩
  have B0 : Blk W0 w.heap.size 28 [.bool x.s.neg, .slice x.s.limbs.A x.s.limbs.l.length x.s.limbs.c, .int .i64 x.s.exp, .bool x.w.neg, .slice x.w.limbs.A x.w.limbs.l.length x.w.limbs.c, .int .i64 x.w.exp, .bool x.c.neg, .slice x.c.limbs.A x.c.limbs.l.length x.c.limbs.c, .int .i64 x.c.exp, .bool x.a.neg, .slice x.a.limbs.A x.a.limbs.l.length x.a.limbs.c, .int .i64 x.a.exp] := by rw [hW0]; exact Blk.alloc (Blk.new rfl) _
  have B1 : Blk W0 (w.heap.size + 1) 28 [.bool false, .slice none 0 0, .int .i64 0, .bool false, .slice none 0 0, .int .i64 0, .bool false, .slice none 0 0, .int .i64 0, .bool false, .slice none 0 0, .int .i64 0] := by rw [hW0]; exact Blk.new (by simp)
  have hE0 : Ext w W0 := by rw [hW0]; exact Ext.alloc' (Ext.alloc _ _) _
  refine wp_region_tail 12 (C := Ext W0) (R := Ext) (U := fun i => if i = 2 then some (.some_ (fun v W => ∃ y : XDyad, v = .agg #[.bool y.neg, .slice y.limbs.A y.limbs.l.length y.limbs.c, .int .i64 y.exp] ∧ y.data = x.s.data ∧ y.mine W w.heap.size)) else if i = 5 then some (.some_ (fun v W => ∃ y : XDyad, v = .agg #[.bool y.neg, .slice y.limbs.A y.limbs.l.length y.limbs.c, .int .i64 y.exp] ∧ y.data = x.w.data ∧ y.mine W w.heap.size)) else if i = 8 then some (.some_ (fun v W => ∃ y : XDyad, v = .agg #[.bool y.neg, .slice y.limbs.A y.limbs.l.length y.limbs.c, .int .i64 y.exp] ∧ y.data = x.c.data ∧ y.mine W w.heap.size)) else if i = 11 then some (.some_ (fun v W => ∃ y : XDyad, v = .agg #[.bool y.neg, .slice y.limbs.A y.limbs.l.length y.limbs.c, .int .i64 y.exp] ∧ y.data = x.a.data ∧ y.mine W w.heap.size)) else none) (by kernel_rfl) (by kernel_rfl) (by rw [hW0]; exact Ext.drew _) ?_
  refine text_det rfl rfl ?_; apply Exists.intro; refine ⟨fun w hC => ?_, fun K hK => ?_⟩; go_simp; exact rfl; go_simp; refine hK _ ?_; clear hK K
  refine text_load_row 26 _ rfl rfl rfl _ _ x.s.cells rfl aggDyad (fun W hW => (B0.ext hW).part 0 3) (fun K hK => ?_); go_simp; refine hK _ ?_; clear hK K
  refine text_und _ rfl rfl (fun v w1 w2 hG hR => ?_) (fun w1 hC Φ hΦ => ?_) (fun v0 K hK => ?_)
  · obtain ⟨y, h1, h2, h3⟩ := hG
    exact ⟨y, h1, h2, h3.ext hR⟩
  · go_simp
    refine (ref02_Twin x.s _ (HX.out.s.ext (hE0.trans hC)) HS.out.1).mono ?_
    rintro e w2 ⟨y, rfl, h1, h2, hE2⟩
    exact ⟨_, rfl, hΦ _ _ (hC.trans hE2) hE2 ⟨y, rfl, h1, h2.lower (hE0.trans hC).size⟩⟩
  go_simp; refine hK _ ?_; clear hK K
  refine text_det rfl rfl ?_; apply Exists.intro; refine ⟨fun w hC => ?_, fun K hK => ?_⟩; go_simp; exact rfl; go_simp; refine hK _ ?_; clear hK K
  refine text_load_row 26 _ rfl rfl rfl _ _ x.w.cells rfl aggDyad (fun W hW => (B0.ext hW).part 3 3) (fun K hK => ?_); go_simp; refine hK _ ?_; clear hK K
  refine text_und _ rfl rfl (fun v w1 w2 hG hR => ?_) (fun w1 hC Φ hΦ => ?_) (fun v1 K hK => ?_)
  · obtain ⟨y, h1, h2, h3⟩ := hG
    exact ⟨y, h1, h2, h3.ext hR⟩
  · go_simp
    refine (ref02_Twin x.w _ (HX.out.w.ext (hE0.trans hC)) HS.out.2.1).mono ?_
    rintro e w2 ⟨y, rfl, h1, h2, hE2⟩
    exact ⟨_, rfl, hΦ _ _ (hC.trans hE2) hE2 ⟨y, rfl, h1, h2.lower (hE0.trans hC).size⟩⟩
  go_simp; refine hK _ ?_; clear hK K
  refine text_det rfl rfl ?_; apply Exists.intro; refine ⟨fun w hC => ?_, fun K hK => ?_⟩; go_simp; exact rfl; go_simp; refine hK _ ?_; clear hK K
  refine text_load_row 26 _ rfl rfl rfl _ _ x.c.cells rfl aggDyad (fun W hW => (B0.ext hW).part 6 3) (fun K hK => ?_); go_simp; refine hK _ ?_; clear hK K
  refine text_und _ rfl rfl (fun v w1 w2 hG hR => ?_) (fun w1 hC Φ hΦ => ?_) (fun v2 K hK => ?_)
  · obtain ⟨y, h1, h2, h3⟩ := hG
    exact ⟨y, h1, h2, h3.ext hR⟩
  · go_simp
    refine (ref02_Twin x.c _ (HX.out.c.ext (hE0.trans hC)) HS.out.2.2.1).mono ?_
    rintro e w2 ⟨y, rfl, h1, h2, hE2⟩
    exact ⟨_, rfl, hΦ _ _ (hC.trans hE2) hE2 ⟨y, rfl, h1, h2.lower (hE0.trans hC).size⟩⟩
  go_simp; refine hK _ ?_; clear hK K
  refine text_det rfl rfl ?_; apply Exists.intro; refine ⟨fun w hC => ?_, fun K hK => ?_⟩; go_simp; exact rfl; go_simp; refine hK _ ?_; clear hK K
  refine text_load_row 26 _ rfl rfl rfl _ _ x.a.cells rfl aggDyad (fun W hW => (B0.ext hW).part 9 3) (fun K hK => ?_); go_simp; refine hK _ ?_; clear hK K
  refine text_und _ rfl rfl (fun v w1 w2 hG hR => ?_) (fun w1 hC Φ hΦ => ?_) (fun v3 K hK => ?_)
  · obtain ⟨y, h1, h2, h3⟩ := hG
    exact ⟨y, h1, h2, h3.ext hR⟩
  · go_simp
    refine (ref02_Twin x.a _ (HX.out.a.ext (hE0.trans hC)) HS.out.2.2.2).mono ?_
    rintro e w2 ⟨y, rfl, h1, h2, hE2⟩
    exact ⟨_, rfl, hΦ _ _ (hC.trans hE2) hE2 ⟨y, rfl, h1, h2.lower (hE0.trans hC).size⟩⟩
  go_simp; refine hK _ ?_; clear hK K
  refine text_nil ?_
  rintro w1 hC ⟨⟨⟨⟨_, ys, rfl, hds, hms⟩, yw, rfl, hdw, hmw⟩, yc, rfl, hdc, hmc⟩, ya, rfl, hda, hma⟩
  have B11 : Blk w1 (w.heap.size + 1) 28 [.bool false, .slice none 0 0, .int .i64 0, .bool false, .slice none 0 0, .int .i64 0, .bool false, .slice none 0 0, .int .i64 0, .bool false, .slice none 0 0, .int .i64 0] := B1.ext hC
  simp only [List.drop_succ_cons, List.drop_zero]
  go_wp2_with (first | ((with_reducible refine wpl_store 28 (.tmp 2) (.tmp 15) ?_ ?_ (w.heap.size + 1) 0 28 [.bool false, .slice none 0 0, .int .i64 0, .bool false, .slice none 0 0, .int .i64 0, .bool false, .slice none 0 0, .int .i64 0, .bool false, .slice none 0 0, .int .i64 0] [.bool ys.neg, .slice ys.limbs.A ys.limbs.l.length ys.limbs.c, .int .i64 ys.exp, .bool yw.neg, .slice yw.limbs.A yw.limbs.l.length yw.limbs.c, .int .i64 yw.exp, .bool yc.neg, .slice yc.limbs.A yc.limbs.l.length yc.limbs.c, .int .i64 yc.exp, .bool ya.neg, .slice ya.limbs.A ya.limbs.l.length ya.limbs.c, .int .i64 ya.exp] ?_ ?_ ?_ ?_ ?_ ?_ ?_); (exact rfl); (exact rfl); (exact rfl); (exact rfl); (exact aggMass); (exact B11); (exact by simp); (exact rfl); (intro w3 BR3 hO3)) | fail)
  have hS : Shape (fun e => e = 28) w.heap.size w1 w3 := Shape.only (T := fun e => e = 28) (Shape.refl _ _ _) B11 hO3 BR3 rfl rfl (by simp)
  exact bodyPost_ret (results_c rfl rfl BR3 aggMass) rfl ⟨⟨ys, yw, yc, ya⟩, rfl, by simp only [XMass.data, hds, hdw, hdc, hda], ⟨hms.shape hS (by decide), hmw.shape hS (by decide), hmc.shape hS (by decide), hma.shape hS (by decide)⟩, Ext.of ((Shape.of_ext (hE0.trans hC)).trans hS |>.below (Nat.le_refl _))⟩
end Go.Proofs.Ytnlhpdlnbcdfjaa
