/- The law NodeCopies: copies, and what is the same, are as is said; copies are new memory. Printed by gen_copies.py. -/
import Derived.Test.YtnlhpdlnbcdfjaaRefTwin
import Derived.Test.YtnlhpdlnbcdfjaaSpoil2
import Derived.Test.YtnlhpdlnbcdfjaaSame7
import Derived.Test.YtnlhpdlnbcdfjaaSame4
namespace Go.Proofs.Ytnlhpdlnbcdfjaa
open Go.RowKit Go.Hx
attribute [local go_sem] detUpon undUpon
set_option maxRecDepth 100000 in
set_option maxHeartbeats 4000000 in
theorem nodeCopies_any (x y : XNode) (w : World) (hx : x.ok w w.heap.size) (hy : y.ok w w.heap.size) :
    Calls Try.prog 5 #[.agg #[.int .i64 x.id, .int .i64 x.value, .bool x.up, .int .i64 x.clock.len, .int .i64 x.clock.tick, .int .i64 x.clock.since, .int .i64 x.clock.epoch, .int .i64 x.clock.from_, .bool x.part.held.s.neg, .slice x.part.held.s.limbs.A x.part.held.s.limbs.l.length x.part.held.s.limbs.c, .int .i64 x.part.held.s.exp, .bool x.part.held.w.neg, .slice x.part.held.w.limbs.A x.part.held.w.limbs.l.length x.part.held.w.limbs.c, .int .i64 x.part.held.w.exp, .bool x.part.held.c.neg, .slice x.part.held.c.limbs.A x.part.held.c.limbs.l.length x.part.held.c.limbs.c, .int .i64 x.part.held.c.exp, .bool x.part.held.a.neg, .slice x.part.held.a.limbs.A x.part.held.a.limbs.l.length x.part.held.a.limbs.c, .int .i64 x.part.held.a.exp, .bool x.part.edge.has, .int .i64 x.part.edge.min, .int .i64 x.part.edge.max, .slice x.part.least.A x.part.least.l.length x.part.least.c, .bool x.wait.out, .int .i64 x.wait.number, .int .i64 x.wait.to, .slice x.heard.A x.heard.l.length x.heard.c, .int .i64 x.cache.own, .int .i64 x.cache.cap, .slice x.cache.list.A x.cache.list.l.length x.cache.list.c, .slice x.past.A x.past.l.length x.past.c, .slice x.timers.A x.timers.l.length x.timers.c], .agg #[.int .i64 y.id, .int .i64 y.value, .bool y.up, .int .i64 y.clock.len, .int .i64 y.clock.tick, .int .i64 y.clock.since, .int .i64 y.clock.epoch, .int .i64 y.clock.from_, .bool y.part.held.s.neg, .slice y.part.held.s.limbs.A y.part.held.s.limbs.l.length y.part.held.s.limbs.c, .int .i64 y.part.held.s.exp, .bool y.part.held.w.neg, .slice y.part.held.w.limbs.A y.part.held.w.limbs.l.length y.part.held.w.limbs.c, .int .i64 y.part.held.w.exp, .bool y.part.held.c.neg, .slice y.part.held.c.limbs.A y.part.held.c.limbs.l.length y.part.held.c.limbs.c, .int .i64 y.part.held.c.exp, .bool y.part.held.a.neg, .slice y.part.held.a.limbs.A y.part.held.a.limbs.l.length y.part.held.a.limbs.c, .int .i64 y.part.held.a.exp, .bool y.part.edge.has, .int .i64 y.part.edge.min, .int .i64 y.part.edge.max, .slice y.part.least.A y.part.least.l.length y.part.least.c, .bool y.wait.out, .int .i64 y.wait.number, .int .i64 y.wait.to, .slice y.heard.A y.heard.l.length y.heard.c, .int .i64 y.cache.own, .int .i64 y.cache.cap, .slice y.cache.list.A y.cache.list.l.length y.cache.list.c, .slice y.past.A y.past.l.length y.past.c, .slice y.timers.A y.timers.l.length y.timers.c]] w fun e w' => e = .returned (.bool true) ∧ Ext w w' := by
  have HX := Lib.hid hx
  have HY := Lib.hid hy
  clear hx hy
  go_enter Try.func5, Try.ntmps5
  have HX0 : Hid (Blk ((w.alloc (.cells x.cells.toArray 42)).alloc (.cells y.cells.toArray 42)) w.heap.size 42 x.cells) := Lib.hid ((Blk.new rfl).alloc _)
  have HY0 : Hid (Blk ((w.alloc (.cells x.cells.toArray 42)).alloc (.cells y.cells.toArray 42)) (w.heap.size + 1) 42 y.cells) := Lib.hid (Blk.new (by simp))
  have HE0 : Hid (Ext w ((w.alloc (.cells x.cells.toArray 42)).alloc (.cells y.cells.toArray 42))) := Lib.hid (Ext.alloc' (Ext.alloc _ _) _)
  go_wp2_with (first | ((with_reducible refine wpl_load 42 (.tmp 2) ?_ ?_ (w.heap.size) 0 x.cells ?_ ?_ ?_ ?_); (exact rfl); (exact rfl); (exact rfl); (exact aggNode); (exact HX0.out.row)) | fail)
  refine (ref22_Great x _ (HX.out.ext HE0.out)).mono ?_
  rintro e w1 ⟨b1, rfl, hb1, hE1⟩
  have HX1 := Lib.hid (HX0.out.ext hE1)
  have HY1 := Lib.hid (HY0.out.ext hE1)
  have HE1 := Lib.hid (HE0.out.trans hE1)
  have HB1 := Lib.hid hb1
  clear hb1 hE1 HX0 HY0 HE0
  cases b1 with
  | true =>
    go_wp2_with fail
    go_ret
    exact ⟨rfl, HE1.out⟩
  | false =>
  go_wp2_with (first | ((with_reducible refine wpl_load 42 (.tmp 3) ?_ ?_ (w.heap.size + 1) 0 y.cells ?_ ?_ ?_ ?_); (exact rfl); (exact rfl); (exact rfl); (exact aggNode); (exact HY1.out.row)) | fail)
  refine (ref22_Great y _ (HY.out.ext HE1.out)).mono ?_
  rintro e w2 ⟨b2, rfl, hb2, hE2⟩
  have HX2 := Lib.hid (HX1.out.ext hE2)
  have HY2 := Lib.hid (HY1.out.ext hE2)
  have HE2 := Lib.hid (HE1.out.trans hE2)
  clear hb2 hE2 HX1 HY1 HE1
  cases b2 with
  | true =>
    go_wp2_with fail
    go_ret
    exact ⟨rfl, HE2.out⟩
  | false =>
  have HSX : Hid x.data.small := Lib.hid (HB1.out (by simp))
  go_wp2_with (first | ((with_reducible refine wpl_load 42 (.tmp 2) ?_ ?_ (w.heap.size) 0 x.cells ?_ ?_ ?_ ?_); (exact rfl); (exact rfl); (exact rfl); (exact aggNode); (exact HX2.out.row)) | fail)
  refine (ref22_Twin x _ (HX.out.ext HE2.out) HSX.out).mono ?_
  rintro e w3 ⟨own, rfl, hod, hom, hE3⟩
  have HX3 := Lib.hid (HX2.out.ext hE3)
  have HY3 := Lib.hid (HY2.out.ext hE3)
  have HE3 := Lib.hid (HE2.out.trans hE3)
  have HOD := Lib.hid hod
  have HOM := Lib.hid hom
  clear hod hom hE3 HX2 HY2 HE2 HB1
  have HSO : Hid own.data.small := Lib.hid (by rw [HOD.out]; exact HSX.out)
  go_wp2_with (first | ((with_reducible refine wpl_store 42 (.tmp 5) (.tmp 15) ?_ ?_ (w3.heap.size) 0 42 [.int .i64 0, .int .i64 0, .bool false, .int .i64 0, .int .i64 0, .int .i64 0, .int .i64 0, .int .i64 0, .bool false, .slice none 0 0, .int .i64 0, .bool false, .slice none 0 0, .int .i64 0, .bool false, .slice none 0 0, .int .i64 0, .bool false, .slice none 0 0, .int .i64 0, .bool false, .int .i64 0, .int .i64 0, .slice none 0 0, .bool false, .int .i64 0, .int .i64 0, .slice none 0 0, .int .i64 0, .int .i64 0, .slice none 0 0, .slice none 0 0, .slice none 0 0] own.cells ?_ ?_ ?_ ?_ ?_ ?_ ?_); (exact rfl); (exact rfl); (exact rfl); (exact rfl); (exact aggNode); (exact (Blk.new rfl)); (exact by simp [XNode.cells_length]); (exact rfl); (intro w4 BR hO; have HX4 := Lib.hid ((HX3.out.alloc _).only hO (Nat.ne_of_lt HX3.out.lt)); have HY4 := Lib.hid ((HY3.out.alloc _).only hO (Nat.ne_of_lt HY3.out.lt)); have B4 : Blk w4 w3.heap.size 42 own.cells := BR; have HE34 := Lib.hid (Only.ext (Ext.alloc w3 _) hO (Nat.le_refl _)); clear hO BR)) | ((with_reducible refine wpl_load 42 (.tmp 5) ?_ ?_ (w3.heap.size) 0 own.cells ?_ ?_ ?_ ?_); (exact rfl); (exact rfl); (exact rfl); (exact aggNode); (exact B4.row)) | fail)
  refine (node_Twin own _ (HOM.out.ok.ext HE34.out) HSO.out).mono ?_
  rintro e w5 ⟨t, rfl, htd, htm, hE5⟩
  have HX5 := Lib.hid (HX4.out.ext hE5)
  have HY5 := Lib.hid (HY4.out.ext hE5)
  have B5 := B4.ext hE5
  have HE45 := Lib.hid hE5
  have HTD := Lib.hid htd
  have HTM := Lib.hid htm
  clear htd htm hE5 HX4 HY4 B4
  go_wp2_with (first | ((with_reducible refine wpl_store 42 (.tmp 6) (.tmp 17) ?_ ?_ (w5.heap.size) 0 42 [.int .i64 0, .int .i64 0, .bool false, .int .i64 0, .int .i64 0, .int .i64 0, .int .i64 0, .int .i64 0, .bool false, .slice none 0 0, .int .i64 0, .bool false, .slice none 0 0, .int .i64 0, .bool false, .slice none 0 0, .int .i64 0, .bool false, .slice none 0 0, .int .i64 0, .bool false, .int .i64 0, .int .i64 0, .slice none 0 0, .bool false, .int .i64 0, .int .i64 0, .slice none 0 0, .int .i64 0, .int .i64 0, .slice none 0 0, .slice none 0 0, .slice none 0 0] t.cells ?_ ?_ ?_ ?_ ?_ ?_ ?_); (exact rfl); (exact rfl); (exact rfl); (exact rfl); (exact aggNode); (exact (Blk.new rfl)); (exact by simp [XNode.cells_length]); (exact rfl); (intro w6 BR hO; have HX6 := Lib.hid ((HX5.out.alloc _).only hO (Nat.ne_of_lt HX5.out.lt)); have HY6 := Lib.hid ((HY5.out.alloc _).only hO (Nat.ne_of_lt HY5.out.lt)); have B6 : Blk w6 w3.heap.size 42 own.cells := (B5.alloc _).only hO (Nat.ne_of_lt B5.lt); have C6 : Blk w6 w5.heap.size 42 t.cells := BR; have HE56 := Lib.hid (Only.ext (Ext.alloc w5 _) hO (Nat.le_refl _)); clear hO BR)) | fail)
  have HE46 : Hid (Ext w4 w6) := Lib.hid (HE45.out.trans HE56.out)
  have HE36 : Hid (Ext w3 w6) := Lib.hid (HE34.out.trans HE46.out)
  have HE6 : Hid (Ext w w6) := Lib.hid (HE3.out.trans HE36.out)
  have HTX : Hid (decide (t.data = x.data) = true) := Lib.hid (decide_eq_true (HTD.out.trans HOD.out))
  have HOX : Hid (decide (own.data = x.data) = true) := Lib.hid (decide_eq_true HOD.out)
  obtain ⟨d, hd⟩ : ∃ d, decide (x.data = y.data) = d := ⟨_, rfl⟩
  have HD := Lib.hid hd
  have HOY : Hid (decide (own.data = y.data) = d) := Lib.hid (by rw [HOD.out]; exact hd)
  clear hd
  have hdd : (d == d) = true := by cases d <;> rfl
  have BX6 := HX6.out
  have BY6 := HY6.out
  refine wp_region_free (C := Ext w6) (R := Ext) (U := fun i => if i = 2 then some (.val (.bool true)) else if i = 6 then some (.val (.bool d)) else if i = 9 then some (.val (.bool d)) else if i = 15 then some (.val (.bool true)) else none) (by kernel_rfl) (by kernel_rfl) (Ext.drew _) ?_
  (refine text_load_row 42 _ rfl rfl rfl _ _ t.cells rfl aggNode (fun W hW => (C6.ext hW).row) (fun K hK => ?_); go_simp; refine hK _ ?_; clear hK K)
  (refine text_load_row 42 _ rfl rfl rfl _ _ x.cells rfl aggNode (fun W hW => (BX6.ext hW).row) (fun K hK => ?_); go_simp; refine hK _ ?_; clear hK K)
  refine text_call _ rfl rfl (fun w1 hC Φ hΦ => ?_) (fun K hK => ?_)
  · go_simp
    refine (ref22_Same t x _ ((HTM.out.ok.ext HE56.out).ext hC) (HX.out.ext (HE6.out.trans hC))).mono ?_
    rw [HTX.out]
    rintro e w2 ⟨rfl, hE2⟩
    exact ⟨_, rfl, hΦ _ _ rfl (hC.trans hE2) hE2⟩
  go_simp; refine hK _ ?_; clear hK K
  (refine text_det rfl rfl ?_; apply Exists.intro; refine ⟨fun w hC => ?_, fun K hK => ?_⟩; go_simp; exact rfl; go_simp; refine hK _ ?_; clear hK K)
  (refine text_load_row 42 _ rfl rfl rfl _ _ own.cells rfl aggNode (fun W hW => (B6.ext hW).row) (fun K hK => ?_); go_simp; refine hK _ ?_; clear hK K)
  (refine text_load_row 42 _ rfl rfl rfl _ _ y.cells rfl aggNode (fun W hW => (BY6.ext hW).row) (fun K hK => ?_); go_simp; refine hK _ ?_; clear hK K)
  refine text_call _ rfl rfl (fun w1 hC Φ hΦ => ?_) (fun K hK => ?_)
  · go_simp
    refine (node_Same own y _ ((HOM.out.ok.ext HE36.out).ext hC) (HY.out.ext (HE6.out.trans hC))).mono ?_
    rw [HOY.out]
    rintro e w2 ⟨rfl, hE2⟩
    exact ⟨_, rfl, hΦ _ _ rfl (hC.trans hE2) hE2⟩
  go_simp; refine hK _ ?_; clear hK K
  (refine text_load_row 42 _ rfl rfl rfl _ _ x.cells rfl aggNode (fun W hW => (BX6.ext hW).row) (fun K hK => ?_); go_simp; refine hK _ ?_; clear hK K)
  (refine text_load_row 42 _ rfl rfl rfl _ _ y.cells rfl aggNode (fun W hW => (BY6.ext hW).row) (fun K hK => ?_); go_simp; refine hK _ ?_; clear hK K)
  refine text_call _ rfl rfl (fun w1 hC Φ hΦ => ?_) (fun K hK => ?_)
  · go_simp
    refine (ref22_Same x y _ (HX.out.ext (HE6.out.trans hC)) (HY.out.ext (HE6.out.trans hC))).mono ?_
    rw [HD.out]
    rintro e w2 ⟨rfl, hE2⟩
    exact ⟨_, rfl, hΦ _ _ rfl (hC.trans hE2) hE2⟩
  go_simp; refine hK _ ?_; clear hK K
  (refine text_det rfl rfl ?_; apply Exists.intro; refine ⟨fun w hC => ?_, fun K hK => ?_⟩; go_simp; exact rfl; go_simp; refine hK _ ?_; clear hK K)
  (refine text_det rfl rfl ?_; apply Exists.intro; refine ⟨fun w hC => ?_, fun K hK => ?_⟩; go_simp; exact rfl; go_simp; refine hK _ ?_; clear hK K)
  (refine text_det rfl rfl ?_; apply Exists.intro; refine ⟨fun w hC => ?_, fun K hK => ?_⟩; go_simp; exact rfl; go_simp; refine hK _ ?_; clear hK K)
  (refine text_load_row 42 _ rfl rfl rfl _ _ own.cells rfl aggNode (fun W hW => (B6.ext hW).row) (fun K hK => ?_); go_simp; refine hK _ ?_; clear hK K)
  (refine text_load_row 42 _ rfl rfl rfl _ _ x.cells rfl aggNode (fun W hW => (BX6.ext hW).row) (fun K hK => ?_); go_simp; refine hK _ ?_; clear hK K)
  refine text_call _ rfl rfl (fun w1 hC Φ hΦ => ?_) (fun K hK => ?_)
  · go_simp
    refine (node_Same own x _ ((HOM.out.ok.ext HE36.out).ext hC) (HX.out.ext (HE6.out.trans hC))).mono ?_
    rw [HOX.out]
    rintro e w2 ⟨rfl, hE2⟩
    exact ⟨_, rfl, hΦ _ _ rfl (hC.trans hE2) hE2⟩
  go_simp; refine hK _ ?_; clear hK K
  (refine text_det rfl rfl ?_; apply Exists.intro; refine ⟨fun w hC => ?_, fun K hK => ?_⟩; go_simp; exact rfl; go_simp; refine hK _ ?_; clear hK K)
  (refine text_det rfl rfl ?_; apply Exists.intro; refine ⟨fun w hC => ?_, fun K hK => ?_⟩; go_simp; exact rfl; go_simp; refine hK _ ?_; clear hK K)
  refine text_nil ?_
  intro w7 hC _
  have HX7 := Lib.hid (BX6.ext hC)
  have HB7 := Lib.hid (B6.ext hC)
  have HC7 := Lib.hid (C6.ext hC)
  have HE67 := Lib.hid hC
  clear hC BX6 BY6 HX6 HY6 B6 C6
  go_wp2_with (first | ((with_reducible refine wpl_load 42 (.tmp 6) ?_ ?_ (w5.heap.size) 0 t.cells ?_ ?_ ?_ ?_); (exact rfl); (exact rfl); (exact rfl); (exact aggNode); (exact HC7.out.row)) | fail)
  refine (spoil t _ w4.heap.size (HE46.out.trans HE67.out).size (HTM.out.ext (HE56.out.trans HE67.out)) (by rw [HTD.out]; exact HSO.out)).mono ?_
  rintro e w8 ⟨⟨v, rfl⟩, hS⟩
  have HX8 := Lib.hid (HX7.out.shape hS (by unfold T5; decide))
  have HB8 := Lib.hid (HB7.out.shape hS (by unfold T5; decide))
  have HBel := Lib.hid (hS.below (HE46.out.trans HE67.out).size)
  clear hS
  have HO8 : Hid (own.ok w8 w8.heap.size) := Lib.hid (((HOM.out.ok.ext HE34.out).below (RowKit.Below.trans (HE46.out.trans HE67.out).below HBel.out)).mono (Nat.le_trans (HE46.out.trans HE67.out).size HBel.out.size))
  have HE8 : Hid (Ext w w8) := Lib.hid (Ext.of (RowKit.Below.trans (HE6.out.trans HE67.out).below (RowKit.Below.mono HBel.out (HE3.out.trans HE34.out).size)))
  go_wp2_with (first | ((with_reducible refine wpl_load 42 (.tmp 5) ?_ ?_ (w3.heap.size) 0 own.cells ?_ ?_ ?_ ?_); (exact rfl); (exact rfl); (exact rfl); (exact aggNode); (exact HB8.out.row)) | ((with_reducible refine wpl_load 42 (.tmp 2) ?_ ?_ (w.heap.size) 0 x.cells ?_ ?_ ?_ ?_); (exact rfl); (exact rfl); (exact rfl); (exact aggNode); (exact HX8.out.row)) | fail)
  refine (ref22_Same own x _ HO8.out (HX.out.ext HE8.out)).mono ?_
  rw [HOX.out]
  rintro e w9 ⟨rfl, hE9⟩
  go_wp2_with fail
  go_ret
  exact ⟨rfl, HE8.out.trans hE9⟩
end Go.Proofs.Ytnlhpdlnbcdfjaa
