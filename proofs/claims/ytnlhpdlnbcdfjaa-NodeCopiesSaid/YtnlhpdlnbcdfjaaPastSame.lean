/- What the program answers when lists of frozen parts are compared: slices.EqualFunc. Printed by gen_pastsame.py. -/
import Derived.Test.YtnlhpdlnbcdfjaaSame6
namespace Go.Proofs.Ytnlhpdlnbcdfjaa
open Go.RowKit Go.Hx
theorem aggFrozen : AggTy Try.prog 82 17 := ⟨⟨_, Try.underlying82, rfl⟩, by kernel_rfl⟩

theorem past_Same1_iff (x y : XFrozen) : x.data = y.data ↔ x.epoch = y.epoch ∧ x.part.data = y.part.data := by
  constructor
  · intro h
    simp only [XFrozen.data, PFrozen.mk.injEq] at h
    obtain ⟨h0, h1⟩ := h
    exact ⟨h0, h1⟩
  · rintro ⟨h0, h1⟩
    simp only [XFrozen.data, PFrozen.mk.injEq]
    exact ⟨h0, h1⟩
set_option maxRecDepth 100000 in
set_option maxHeartbeats 1000000 in
theorem past_Same1 (x y : XFrozen) (w : World) (hx : x.ok w w.heap.size) (hy : y.ok w w.heap.size) :
    Calls Try.prog 58 #[.agg #[.int .i64 x.epoch, .bool x.part.held.s.neg, .slice x.part.held.s.limbs.A x.part.held.s.limbs.l.length x.part.held.s.limbs.c, .int .i64 x.part.held.s.exp, .bool x.part.held.w.neg, .slice x.part.held.w.limbs.A x.part.held.w.limbs.l.length x.part.held.w.limbs.c, .int .i64 x.part.held.w.exp, .bool x.part.held.c.neg, .slice x.part.held.c.limbs.A x.part.held.c.limbs.l.length x.part.held.c.limbs.c, .int .i64 x.part.held.c.exp, .bool x.part.held.a.neg, .slice x.part.held.a.limbs.A x.part.held.a.limbs.l.length x.part.held.a.limbs.c, .int .i64 x.part.held.a.exp, .bool x.part.edge.has, .int .i64 x.part.edge.min, .int .i64 x.part.edge.max, .slice x.part.least.A x.part.least.l.length x.part.least.c], .agg #[.int .i64 y.epoch, .bool y.part.held.s.neg, .slice y.part.held.s.limbs.A y.part.held.s.limbs.l.length y.part.held.s.limbs.c, .int .i64 y.part.held.s.exp, .bool y.part.held.w.neg, .slice y.part.held.w.limbs.A y.part.held.w.limbs.l.length y.part.held.w.limbs.c, .int .i64 y.part.held.w.exp, .bool y.part.held.c.neg, .slice y.part.held.c.limbs.A y.part.held.c.limbs.l.length y.part.held.c.limbs.c, .int .i64 y.part.held.c.exp, .bool y.part.held.a.neg, .slice y.part.held.a.limbs.A y.part.held.a.limbs.l.length y.part.held.a.limbs.c, .int .i64 y.part.held.a.exp, .bool y.part.edge.has, .int .i64 y.part.edge.min, .int .i64 y.part.edge.max, .slice y.part.least.A y.part.least.l.length y.part.least.c]] w fun e w' => e = .returned (.bool (decide (x.data = y.data))) ∧ Ext w w' := by
  have HI := Lib.hid (past_Same1_iff x y)
  by_cases q0 : x.epoch = y.epoch
  · have e0 : (x.epoch == y.epoch) = true := by simp [q0]
    have HQ0 := Lib.hid q0
    clear q0
    go_enter Try.func58, Try.ntmps58
    go_wp2_with fail
    refine (past_SamePart x.part y.part _ (hx.part.ext (by repeat (first | exact Ext.refl _ | assumption | refine Ext.alloc' ?_ _ | refine Ext.drewN' ?_ _ | refine Ext.drew' ?_ | (refine Ext.trans ?_ (by assumption))))) (hy.part.ext (by repeat (first | exact Ext.refl _ | assumption | refine Ext.alloc' ?_ _ | refine Ext.drewN' ?_ _ | refine Ext.drew' ?_ | (refine Ext.trans ?_ (by assumption)))))).mono ?_
    rintro e w1 ⟨rfl, hE1⟩
    go_wp2_with fail
    go_ret
    exact ⟨ret_bool (decide_eq_decide.2 ⟨fun h => HI.out.2 ⟨HQ0.out, h⟩, fun h => (HI.out.1 h).2⟩), (by repeat (first | exact Ext.refl _ | assumption | refine Ext.alloc' ?_ _ | refine Ext.drewN' ?_ _ | refine Ext.drew' ?_ | (refine Ext.trans ?_ (by assumption))))⟩
  · have e0 : (x.epoch == y.epoch) = false := by simpa using q0
    have HQ0 := Lib.hid q0
    clear q0
    go_enter Try.func58, Try.ntmps58
    go_wp2_with fail
    go_ret
    exact ⟨ret_bool (decide_eq_false (fun h => HQ0.out (HI.out.1 h).1)).symm, (by repeat (first | exact Ext.refl _ | assumption | refine Ext.alloc' ?_ _ | refine Ext.drewN' ?_ _ | refine Ext.drew' ?_ | (refine Ext.trans ?_ (by assumption))))⟩

set_option maxRecDepth 100000 in
set_option maxHeartbeats 1000000 in
theorem equalFunc_Frozen (x y : LX XFrozen) (w : World) (hx : x.ok w w.heap.size XFrozen.cells) (hy : y.ok w w.heap.size XFrozen.cells) (hxs : ∀ z ∈ x.l, XFrozen.ok w w.heap.size z) (hys : ∀ z ∈ y.l, XFrozen.ok w w.heap.size z) :
    Calls Try.prog 57 #[.slice x.A x.l.length x.c, .slice y.A y.l.length y.c, .func (.func 58) #[] #[]] w fun e w' => e = .returned (.bool (decide (x.l.map XFrozen.data = y.l.map XFrozen.data))) ∧ Ext w w' := by
  obtain ⟨l, A, c⟩ := x
  obtain ⟨m, B, d⟩ := y
  obtain ⟨hx, hx1, hx2⟩ := hx
  obtain ⟨hy, hy1, hy2⟩ := hy
  dsimp only at *
  unfold maxLen at hx2 hy2
  have HX := Lib.hid hx
  have HY := Lib.hid hy
  have HXS := Lib.hid hxs
  have HYS := Lib.hid hys
  clear hx hy hxs hys
  by_cases hne : l.length = m.length
  · have h0 : ((l.length : Int) != (m.length : Int)) = false := by simp [hne]
    have HN := Lib.hid hne
    clear hne
    go_enter Try.func57, Try.ntmps57
    go_wp2
    go_loopw [17] (fun i wr => ∃ k : Nat, k ≤ l.length ∧ i = .int .i64 k ∧ Hid ((l.take k).map XFrozen.data = (m.take k).map XFrozen.data) ∧ Ext w wr) (fun i _ => l.length - (intOf i).toNat)
    case atStart => exact ⟨0, Nat.zero_le _, rfl, rfl, Ext.refl _⟩
    case round =>
      obtain ⟨k, hk, rfl, ht, hE⟩ := hrel
      by_cases hlt : k < l.length
      · obtain ⟨a, ha⟩ : ∃ a, l[k]? = some a := ⟨_, List.getElem?_eq_getElem hlt⟩
        obtain ⟨b, hb⟩ : ∃ b, m[k]? = some b := ⟨_, List.getElem?_eq_getElem (by have := HN.out; omega)⟩
        obtain ⟨b1, o1, rfl, hb1, r1⟩ := Sl.row (size := 17) (fun _ => rfl) (HX.out.below hE.below) ha
        obtain ⟨b2, o2, rfl, hb2, r2⟩ := Sl.row (size := 17) (fun _ => rfl) (HY.out.below hE.below) hb
        have gR : Hid (∀ W, Ext wr W → RowAt W b1 (o1 + k * 17) a.cells) := fun W hW j u hu => hW.cell (r1 j u hu)
        have hR : Hid (∀ W, Ext wr W → RowAt W b2 (o2 + k * 17) b.cells) := fun W hW j u hu => hW.cell (r2 j u hu)
        have HA := Lib.hid ha
        have HB := Lib.hid hb
        clear ha hb r1 r2 hb1 hb2
        have hl : (k:Int) < (l.length : Int) := by omega
        have hm : (k:Int) < (m.length : Int) := by have := HN.out; omega
        by_cases q : a.data = b.data
        · have HQ := Lib.hid q
          have hd : decide (a.data = b.data) = true := decide_eq_true q
          have HD := Lib.hid hd
          clear q hd
          go_wp2_with (first | ((with_reducible refine wpl_load 82 (.tmp 20) ?_ ?_ (b1) (o1 + k * 17) a.cells ?_ ?_ ?_ ?_); (exact rfl); (exact rfl); (exact rfl); (exact aggFrozen); (exact gR.out _ (Ext.refl _))) | ((with_reducible refine wpl_store 82 (.tmp 8) (.tmp 21) ?_ ?_ (wr.heap.size) 0 82 [.int .i64 0, .bool false, .slice none 0 0, .int .i64 0, .bool false, .slice none 0 0, .int .i64 0, .bool false, .slice none 0 0, .int .i64 0, .bool false, .slice none 0 0, .int .i64 0, .bool false, .int .i64 0, .int .i64 0, .slice none 0 0] a.cells ?_ ?_ ?_ ?_ ?_ ?_ ?_); (exact rfl); (exact rfl); (exact rfl); (exact rfl); (exact aggFrozen); (exact (Blk.new rfl)); (exact by rw [XFrozen.cells_length]; decide); (exact rfl); (intro w2 BR hO; have B1 : Blk w2 wr.heap.size 82 a.cells := BR; have HE2 := Lib.hid (Only.ext (Ext.alloc wr _) hO (Nat.le_refl _)); have HZ2 := Lib.hid (show w2.heap.size = wr.heap.size + 1 by have := hO.size; simpa using this); clear hO)) | ((with_reducible refine wpl_load 82 (.tmp 24) ?_ ?_ (b2) (o2 + k * 17) b.cells ?_ ?_ ?_ ?_); (exact rfl); (exact rfl); (exact rfl); (exact aggFrozen); (exact hR.out _ HE2.out)) | ((with_reducible refine wpl_store 82 (.tmp 9) (.tmp 25) ?_ ?_ (w2.heap.size) 0 82 [.int .i64 0, .bool false, .slice none 0 0, .int .i64 0, .bool false, .slice none 0 0, .int .i64 0, .bool false, .slice none 0 0, .int .i64 0, .bool false, .slice none 0 0, .int .i64 0, .bool false, .int .i64 0, .int .i64 0, .slice none 0 0] b.cells ?_ ?_ ?_ ?_ ?_ ?_ ?_); (exact rfl); (exact rfl); (exact rfl); (exact rfl); (exact aggFrozen); (exact (Blk.new rfl)); (exact by rw [XFrozen.cells_length]; decide); (exact rfl); (intro w3 BR2 hO2; have B2 : Blk w3 w2.heap.size 82 b.cells := BR2; have B13 : Blk w3 wr.heap.size 82 a.cells := (B1.alloc _).only hO2 (by have := HZ2.out; omega); have HW3 := Lib.hid (hE.trans (HE2.out.trans (Only.ext (Ext.alloc w2 _) hO2 (Nat.le_refl _)))); clear hO2)) | ((with_reducible refine wpl_load 82 (.tmp 8) ?_ ?_ (wr.heap.size) 0 a.cells ?_ ?_ ?_ ?_); (exact rfl); (exact rfl); (exact rfl); (exact aggFrozen); (exact B13.row)) | ((with_reducible refine wpl_load 82 (.tmp 9) ?_ ?_ (w2.heap.size) 0 b.cells ?_ ?_ ?_ ?_); (exact rfl); (exact rfl); (exact rfl); (exact aggFrozen); (exact B2.row)) | (go_at_call 58; refine (past_Same1 a b _ ((HXS.out a (List.mem_of_getElem? HA.out)).ext HW3.out) ((HYS.out b (List.mem_of_getElem? HB.out)).ext HW3.out)).mono ?_; rw [HD.out]; rintro e w4 ⟨rfl, hE4⟩) | fail)
          go_roundw
          case rel => exact ⟨k + 1, by omega, by go_num, map_take_succ HA.out HB.out HQ.out ht, HW3.out.trans hE4⟩
          case measure => simp [intOf]; omega
        · have HQ := Lib.hid q
          have hd : decide (a.data = b.data) = false := decide_eq_false q
          have HD := Lib.hid hd
          clear q hd
          go_wp2_with (first | ((with_reducible refine wpl_load 82 (.tmp 20) ?_ ?_ (b1) (o1 + k * 17) a.cells ?_ ?_ ?_ ?_); (exact rfl); (exact rfl); (exact rfl); (exact aggFrozen); (exact gR.out _ (Ext.refl _))) | ((with_reducible refine wpl_store 82 (.tmp 8) (.tmp 21) ?_ ?_ (wr.heap.size) 0 82 [.int .i64 0, .bool false, .slice none 0 0, .int .i64 0, .bool false, .slice none 0 0, .int .i64 0, .bool false, .slice none 0 0, .int .i64 0, .bool false, .slice none 0 0, .int .i64 0, .bool false, .int .i64 0, .int .i64 0, .slice none 0 0] a.cells ?_ ?_ ?_ ?_ ?_ ?_ ?_); (exact rfl); (exact rfl); (exact rfl); (exact rfl); (exact aggFrozen); (exact (Blk.new rfl)); (exact by rw [XFrozen.cells_length]; decide); (exact rfl); (intro w2 BR hO; have B1 : Blk w2 wr.heap.size 82 a.cells := BR; have HE2 := Lib.hid (Only.ext (Ext.alloc wr _) hO (Nat.le_refl _)); have HZ2 := Lib.hid (show w2.heap.size = wr.heap.size + 1 by have := hO.size; simpa using this); clear hO)) | ((with_reducible refine wpl_load 82 (.tmp 24) ?_ ?_ (b2) (o2 + k * 17) b.cells ?_ ?_ ?_ ?_); (exact rfl); (exact rfl); (exact rfl); (exact aggFrozen); (exact hR.out _ HE2.out)) | ((with_reducible refine wpl_store 82 (.tmp 9) (.tmp 25) ?_ ?_ (w2.heap.size) 0 82 [.int .i64 0, .bool false, .slice none 0 0, .int .i64 0, .bool false, .slice none 0 0, .int .i64 0, .bool false, .slice none 0 0, .int .i64 0, .bool false, .slice none 0 0, .int .i64 0, .bool false, .int .i64 0, .int .i64 0, .slice none 0 0] b.cells ?_ ?_ ?_ ?_ ?_ ?_ ?_); (exact rfl); (exact rfl); (exact rfl); (exact rfl); (exact aggFrozen); (exact (Blk.new rfl)); (exact by rw [XFrozen.cells_length]; decide); (exact rfl); (intro w3 BR2 hO2; have B2 : Blk w3 w2.heap.size 82 b.cells := BR2; have B13 : Blk w3 wr.heap.size 82 a.cells := (B1.alloc _).only hO2 (by have := HZ2.out; omega); have HW3 := Lib.hid (hE.trans (HE2.out.trans (Only.ext (Ext.alloc w2 _) hO2 (Nat.le_refl _)))); clear hO2)) | ((with_reducible refine wpl_load 82 (.tmp 8) ?_ ?_ (wr.heap.size) 0 a.cells ?_ ?_ ?_ ?_); (exact rfl); (exact rfl); (exact rfl); (exact aggFrozen); (exact B13.row)) | ((with_reducible refine wpl_load 82 (.tmp 9) ?_ ?_ (w2.heap.size) 0 b.cells ?_ ?_ ?_ ?_); (exact rfl); (exact rfl); (exact rfl); (exact aggFrozen); (exact B2.row)) | (go_at_call 58; refine (past_Same1 a b _ ((HXS.out a (List.mem_of_getElem? HA.out)).ext HW3.out) ((HYS.out b (List.mem_of_getElem? HB.out)).ext HW3.out)).mono ?_; rw [HD.out]; rintro e w4 ⟨rfl, hE4⟩) | fail)
          go_ret
          exact ⟨ret_bool (decide_eq_false (ne_of_map HA.out HB.out HQ.out)).symm, HW3.out.trans hE4⟩
      · have hk' : k = l.length := by omega
        go_wp2
        go_ret
        have hfin : l.map XFrozen.data = m.map XFrozen.data := by
          have := ht.out
          rwa [hk', List.take_length, HN.out, List.take_length] at this
        exact ⟨ret_bool (decide_eq_true hfin).symm, hE⟩
  · have h0 : ((l.length : Int) != (m.length : Int)) = true := by simp; omega
    have HN := Lib.hid hne
    clear hne
    go_enter Try.func57, Try.ntmps57
    go_wp2
    go_ret
    exact ⟨ret_bool (decide_eq_false (fun h => HN.out (by simpa using congrArg List.length h))).symm, Ext.refl _⟩

set_option maxRecDepth 100000 in
theorem past_Same (x y : LX XFrozen) (w : World) (hx : x.ok w w.heap.size XFrozen.cells) (hy : y.ok w w.heap.size XFrozen.cells) (hxs : ∀ z ∈ x.l, XFrozen.ok w w.heap.size z) (hys : ∀ z ∈ y.l, XFrozen.ok w w.heap.size z) :
    Calls Try.prog 42 #[.slice x.A x.l.length x.c, .slice y.A y.l.length y.c] w fun e w' => e = .returned (.bool (decide (x.l.map XFrozen.data = y.l.map XFrozen.data))) ∧ Ext w w' := by
  go_enter Try.func42, Try.ntmps42
  go_wp2_with fail
  refine (equalFunc_Frozen x y _ hx hy hxs hys).mono ?_
  rintro e w1 ⟨rfl, hE⟩
  go_wp2_with fail
  go_ret
  exact ⟨rfl, hE⟩
end Go.Proofs.Ytnlhpdlnbcdfjaa
