/- What the reference answers when lists of frozen parts are compared. -/
import Derived.Test.YtnlhpdlnbcdfjaaRows
import Derived.Test.YtnlhpdlnbcdfjaaSame2
namespace Go.Proofs.Ytnlhpdlnbcdfjaa
open Go.RowKit Go.Hx

theorem aggPart : AggTy Try.prog 32 16 := ⟨⟨_, Try.underlying32, rfl⟩, by kernel_rfl⟩
attribute [local go_sem] detUpon undUpon
set_option maxRecDepth 100000 in
set_option maxHeartbeats 1000000 in
theorem ref20_Same (x y : LX XFrozen) (w : World) (hx : x.ok w w.heap.size XFrozen.cells) (hy : y.ok w w.heap.size XFrozen.cells) (hxs : ∀ z ∈ x.l, XFrozen.ok w w.heap.size z) (hys : ∀ z ∈ y.l, XFrozen.ok w w.heap.size z) :
    Calls Try.prog 27 #[.slice x.A x.l.length x.c, .slice y.A y.l.length y.c] w fun e w' => e = .returned (.bool (decide (x.l.map XFrozen.data = y.l.map XFrozen.data))) ∧ Ext w w' := by
  obtain ⟨l, A, c⟩ := x
  obtain ⟨m, B, d⟩ := y
  obtain ⟨hx, hx1, hx2⟩ := hx
  obtain ⟨hy, hy1, hy2⟩ := hy
  dsimp only at *
  unfold maxLen at hx2 hy2
  have HX := Lib.hid hx
  have HY := Lib.hid hy
  have HXS := Lib.hid hxs
  have HYS := Lib.hid hys
  clear hx hy hxs hys
  by_cases hne : l.length = m.length
  · have h0 : ((l.length : Int) != (m.length : Int)) = false := by simp [hne]
    have HN := Lib.hid hne
    clear hne
    go_enter Try.func27, Try.ntmps27
    go_wp2
    go_loopw [5] (fun i wr => ∃ k : Nat, k ≤ l.length ∧ i = .int .i64 k ∧ Hid ((l.take k).map XFrozen.data = (m.take k).map XFrozen.data) ∧ Ext w wr) (fun i _ => l.length - (intOf i).toNat)
    case atStart => exact ⟨0, Nat.zero_le _, rfl, rfl, Ext.refl _⟩
    case round =>
      obtain ⟨k, hk, rfl, ht, hE⟩ := hrel
      by_cases hlt : k < l.length
      · obtain ⟨a, ha⟩ : ∃ a, l[k]? = some a := ⟨_, List.getElem?_eq_getElem hlt⟩
        obtain ⟨b, hb⟩ : ∃ b, m[k]? = some b := ⟨_, List.getElem?_eq_getElem (by have := HN.out; omega)⟩
        obtain ⟨b1, o1, rfl, hb1, r1⟩ := Sl.row (size := 17) (fun _ => rfl) (HX.out.below hE.below) ha
        obtain ⟨b2, o2, rfl, hb2, r2⟩ := Sl.row (size := 17) (fun _ => rfl) (HY.out.below hE.below) hb
        have g0 : ∀ W, Ext wr W → W.cell? ⟨b1, o1 + k * 17, none⟩ = some (.int .i64 a.epoch) := fun W hW => hW.cell (r1 0 _ rfl)
        have gR : Hid (∀ W, Ext wr W → RowAt W b1 (o1 + k * 17 + 1) a.part.cells) := fun W hW j u hu => by rw [Nat.add_assoc _ 1 j, Nat.add_comm 1 j]; exact hW.cell (r1 (j + 1) u hu)
        have h0 : ∀ W, Ext wr W → W.cell? ⟨b2, o2 + k * 17, none⟩ = some (.int .i64 b.epoch) := fun W hW => hW.cell (r2 0 _ rfl)
        have hR : Hid (∀ W, Ext wr W → RowAt W b2 (o2 + k * 17 + 1) b.part.cells) := fun W hW j u hu => by rw [Nat.add_assoc _ 1 j, Nat.add_comm 1 j]; exact hW.cell (r2 (j + 1) u hu)
        have HA := Lib.hid ha
        have HB := Lib.hid hb
        clear ha hb r1 r2
        have hl : (k:Int) < (l.length : Int) := by omega
        have hm : (k:Int) < (m.length : Int) := by have := HN.out; omega
        by_cases q0 : a.epoch = b.epoch
        · have e0 : (a.epoch != b.epoch) = false := by rw [bne_eq_false_iff_eq]; omega
          by_cases q1 : a.part.data = b.part.data
          · have e1 : decide (a.part.data = b.part.data) = true := decide_eq_true q1
            have HQ := Lib.hid (show a.data = b.data by simp [XFrozen.data, q0, q1])
            clear q0 q1
            go_wp2
            refine wp_region_free (C := Ext wr) (R := Ext) (U := fun i => if i = 22 then some (.val (.bool (decide (a.part.data = b.part.data)))) else none) (by kernel_rfl) (by kernel_rfl) (Ext.drew _) ?_
            repeat (first | (refine text_skip rfl rfl rfl rfl rfl (fun K hK => ?_); go_simp; refine hK _ ?_; clear hK K) | (refine text_load_row 32 _ rfl rfl rfl _ _ a.part.cells rfl aggPart gR.out (fun K hK => ?_); go_simp; refine hK _ ?_; clear hK K) | (refine text_load_row 32 _ rfl rfl rfl _ _ b.part.cells rfl aggPart hR.out (fun K hK => ?_); go_simp; refine hK _ ?_; clear hK K) | (refine text_det rfl rfl ?_; apply Exists.intro; refine ⟨fun w hC => ?_, fun K hK => ?_⟩; go_simp; exact rfl; go_simp; refine hK _ ?_; clear hK K))
            refine text_call _ rfl rfl (fun w1 hC Φ hΦ => ?_) (fun K hK => ?_)
            · go_simp
              refine (ref20_SamePart a.part b.part _ ((HXS.out a (List.mem_of_getElem? HA.out)).part.ext (hE.trans hC)) ((HYS.out b (List.mem_of_getElem? HB.out)).part.ext (hE.trans hC))).mono ?_
              rintro e w2 ⟨rfl, hE2⟩
              exact ⟨_, rfl, hΦ _ _ rfl (hC.trans hE2) hE2⟩
            go_simp; refine hK _ ?_; clear hK K
            repeat (first | (refine text_skip rfl rfl rfl rfl rfl (fun K hK => ?_); go_simp; refine hK _ ?_; clear hK K) | (refine text_load_row 32 _ rfl rfl rfl _ _ a.part.cells rfl aggPart gR.out (fun K hK => ?_); go_simp; refine hK _ ?_; clear hK K) | (refine text_load_row 32 _ rfl rfl rfl _ _ b.part.cells rfl aggPart hR.out (fun K hK => ?_); go_simp; refine hK _ ?_; clear hK K) | (refine text_det rfl rfl ?_; apply Exists.intro; refine ⟨fun w hC => ?_, fun K hK => ?_⟩; go_simp; exact rfl; go_simp; refine hK _ ?_; clear hK K))
            refine text_nil ?_
            intro wz hCz _
            have hEz := hE.trans hCz
            go_wp2
            go_roundw
            case rel => exact ⟨k + 1, by omega, by go_num, map_take_succ HA.out HB.out HQ.out ht, hEz⟩
            case measure => simp [intOf]; omega
          · have e1 : decide (a.part.data = b.part.data) = false := decide_eq_false q1
            have HQ := Lib.hid (show a.data ≠ b.data by simp [XFrozen.data, q0, q1])
            clear q0 q1
            go_wp2
            refine wp_region_free (C := Ext wr) (R := Ext) (U := fun i => if i = 22 then some (.val (.bool (decide (a.part.data = b.part.data)))) else none) (by kernel_rfl) (by kernel_rfl) (Ext.drew _) ?_
            repeat (first | (refine text_skip rfl rfl rfl rfl rfl (fun K hK => ?_); go_simp; refine hK _ ?_; clear hK K) | (refine text_load_row 32 _ rfl rfl rfl _ _ a.part.cells rfl aggPart gR.out (fun K hK => ?_); go_simp; refine hK _ ?_; clear hK K) | (refine text_load_row 32 _ rfl rfl rfl _ _ b.part.cells rfl aggPart hR.out (fun K hK => ?_); go_simp; refine hK _ ?_; clear hK K) | (refine text_det rfl rfl ?_; apply Exists.intro; refine ⟨fun w hC => ?_, fun K hK => ?_⟩; go_simp; exact rfl; go_simp; refine hK _ ?_; clear hK K))
            refine text_call _ rfl rfl (fun w1 hC Φ hΦ => ?_) (fun K hK => ?_)
            · go_simp
              refine (ref20_SamePart a.part b.part _ ((HXS.out a (List.mem_of_getElem? HA.out)).part.ext (hE.trans hC)) ((HYS.out b (List.mem_of_getElem? HB.out)).part.ext (hE.trans hC))).mono ?_
              rintro e w2 ⟨rfl, hE2⟩
              exact ⟨_, rfl, hΦ _ _ rfl (hC.trans hE2) hE2⟩
            go_simp; refine hK _ ?_; clear hK K
            repeat (first | (refine text_skip rfl rfl rfl rfl rfl (fun K hK => ?_); go_simp; refine hK _ ?_; clear hK K) | (refine text_load_row 32 _ rfl rfl rfl _ _ a.part.cells rfl aggPart gR.out (fun K hK => ?_); go_simp; refine hK _ ?_; clear hK K) | (refine text_load_row 32 _ rfl rfl rfl _ _ b.part.cells rfl aggPart hR.out (fun K hK => ?_); go_simp; refine hK _ ?_; clear hK K) | (refine text_det rfl rfl ?_; apply Exists.intro; refine ⟨fun w hC => ?_, fun K hK => ?_⟩; go_simp; exact rfl; go_simp; refine hK _ ?_; clear hK K))
            refine text_nil ?_
            intro wz hCz _
            have hEz := hE.trans hCz
            go_wp2
            go_ret
            exact ⟨ret_bool (decide_eq_false (ne_of_map HA.out HB.out HQ.out)).symm, hEz⟩
        · have e0 : (a.epoch != b.epoch) = true := by rw [bne_iff_ne]; omega
          have HQ := Lib.hid (show a.data ≠ b.data by simp [XFrozen.data, q0])
          clear q0
          go_wp2
          refine wp_region_free (C := Ext wr) (R := Ext) (U := fun i => if i = 22 then some (.val (.bool (decide (a.part.data = b.part.data)))) else none) (by kernel_rfl) (by kernel_rfl) (Ext.drew _) ?_
          repeat (first | (refine text_skip rfl rfl rfl rfl rfl (fun K hK => ?_); go_simp; refine hK _ ?_; clear hK K) | (refine text_load_row 32 _ rfl rfl rfl _ _ a.part.cells rfl aggPart gR.out (fun K hK => ?_); go_simp; refine hK _ ?_; clear hK K) | (refine text_load_row 32 _ rfl rfl rfl _ _ b.part.cells rfl aggPart hR.out (fun K hK => ?_); go_simp; refine hK _ ?_; clear hK K) | (refine text_det rfl rfl ?_; apply Exists.intro; refine ⟨fun w hC => ?_, fun K hK => ?_⟩; go_simp; exact rfl; go_simp; refine hK _ ?_; clear hK K))
          refine text_nil ?_
          intro wz hCz _
          have hEz := hE.trans hCz
          go_wp2
          go_ret
          exact ⟨ret_bool (decide_eq_false (ne_of_map HA.out HB.out HQ.out)).symm, hEz⟩
      · have hk' : k = l.length := by omega
        go_wp2
        go_ret
        have hfin : l.map XFrozen.data = m.map XFrozen.data := by
          have := ht.out
          rwa [hk', List.take_length, HN.out, List.take_length] at this
        exact ⟨ret_bool (decide_eq_true hfin).symm, hE⟩
  · have h0 : ((l.length : Int) != (m.length : Int)) = true := by simp; omega
    have HN := Lib.hid hne
    clear hne
    go_enter Try.func27, Try.ntmps27
    go_wp2
    go_ret
    exact ⟨ret_bool (decide_eq_false (fun h => HN.out (by simpa using congrArg List.length h))).symm, Ext.refl _⟩
end Go.Proofs.Ytnlhpdlnbcdfjaa
