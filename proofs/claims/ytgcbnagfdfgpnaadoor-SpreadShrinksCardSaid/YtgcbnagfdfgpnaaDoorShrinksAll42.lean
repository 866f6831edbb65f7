/- The reference's lists of masses: too many or too great, the same. -/
import Derived.Test.YtgcbnagfdfgpnaaDoorShrinksAll12
import Derived.Test.YtgcbnagfdfgpnaaDoorShrinksAll30
namespace Go.Proofs.YtgcbnagfdfgpnaaDoor
open Go.RowKit Go.Hx
attribute [local go_sem] XDyad.cells XMass.cells detUpon undIn
set_option maxRecDepth 100000 in
set_option maxHeartbeats 1000000 in
theorem ref30_Great (x : LX XMass) (w : World) (hx : x.ok w w.heap.size XMass.cells) (hxs : ∀ z ∈ x.l, z.ok w w.heap.size) :
    Calls Tryd.prog 17 #[.slice x.A x.l.length x.c] w (Gr (x.l.length ≤ 20 ∧ ∀ z ∈ x.l, (XMass.data z).small) w) := by
  obtain ⟨l, A, c⟩ := x
  dsimp only at *
  have HX := Lib.hid hx.1
  have HXS := Lib.hid hxs
  clear hx hxs
  by_cases h20 : l.length ≤ 20
  · have d1 : decide ((20 : Int) < (l.length : Int)) = false := by simp; omega
    have d2 : ¬ (20 : Int) < (l.length : Int) := by omega
    have H20 := Lib.hid h20
    clear h20
    go_enter Tryd.func17, Tryd.ntmps17
    go_wp2_with fail
    go_loopw [3] (fun i wr => ∃ k : Nat, k ≤ l.length ∧ i = .int .i64 k ∧ Hid (∀ z ∈ l.take k, (XMass.data z).small) ∧ Ext w wr) (fun i _ => l.length - (intOf i).toNat)
    case atStart => exact ⟨0, Nat.zero_le _, rfl, Lib.hid (fun z hz => by simp at hz), Ext.refl _⟩
    case round =>
      obtain ⟨k, hk, rfl, HT, hE⟩ := hrel
      by_cases hlt : k < l.length
      · obtain ⟨a, ha⟩ : ∃ a, l[k]? = some a := ⟨_, List.getElem?_eq_getElem hlt⟩
        have HM := Lib.hid (List.mem_of_getElem? ha)
        obtain ⟨g, o, rfl, hg, r1⟩ := Sl.row (size := 12) (fun _ => rfl) (HX.out.below hE.below) ha
        have HA := Lib.hid ha
        have HE := Lib.hid hE
        have HR := Lib.hid r1
        have hli : (k : Int) < (l.length : Int) := by omega
        clear ha r1 hg hE
        go_wp2_with (first | ((with_reducible refine wpl_load 47 (.tmp 15) ?_ ?_ g (o + k * 12) a.cells ?_ ?_ ?_ ?_); (exact rfl); (exact rfl); (exact rfl); (exact aggMass); (exact HR.out)) | fail)
        refine (ref06_Great a _ ((HXS.out a HM.out).ext HE.out)).mono ?_
        rintro e w2 ⟨b, rfl, hb, hE2⟩
        have HE2 := Lib.hid (HE.out.trans hE2)
        have HB := Lib.hid hb
        clear hE2 hb
        cases b with
        | true =>
          go_wp2_with fail
          go_ret
          exact Gr.yes rfl HE2.out
        | false =>
          have HN : Hid (∀ z ∈ l.take (k + 1), (XMass.data z).small) := Lib.hid fun z hz => by
            rw [take_snoc HA.out] at hz
            rcases List.mem_append.1 hz with hz | hz
            · exact HT.out z hz
            · simp only [List.mem_singleton] at hz; subst hz; exact HB.out rfl
          go_wp2_with fail
          go_roundw
          case rel => exact ⟨k + 1, by omega, by go_num, HN, HE2.out⟩
          case measure => simp [intOf]; omega
      · have hk' : k = l.length := by omega
        have hki : ¬ (k : Int) < (l.length : Int) := by omega
        go_wp2_with fail
        go_ret
        exact Gr.no rfl ⟨H20.out, fun z hz => HT.out z (by rw [hk', List.take_length]; exact hz)⟩ hE
  · have d2 : (20 : Int) < (l.length : Int) := by omega
    clear h20
    go_enter Tryd.func17, Tryd.ntmps17
    go_wp2_with fail
    go_ret
    exact Gr.yes rfl (Ext.refl _)
set_option maxRecDepth 100000 in
set_option maxHeartbeats 1000000 in
theorem ref30_SameMasses (x y : LX XMass) (w : World) (hx : x.ok w w.heap.size XMass.cells) (hxs : ∀ z ∈ x.l, z.ok w w.heap.size) (hy : y.ok w w.heap.size XMass.cells) (hys : ∀ z ∈ y.l, z.ok w w.heap.size) :
    Calls Tryd.prog 23 #[.slice x.A x.l.length x.c, .slice y.A y.l.length y.c] w fun e w' => e = .returned (.bool (decide (x.l.map XMass.data = y.l.map XMass.data))) ∧ Ext w w' := by
  obtain ⟨l, A, c⟩ := x
  obtain ⟨m, A', c'⟩ := y
  dsimp only at *
  have hx1 := hx.2.1
  have hx2 := hx.2.2
  unfold maxLen at hx2
  have HX := Lib.hid hx.1
  have HXS := Lib.hid hxs
  have HY := Lib.hid hy.1
  have HYS := Lib.hid hys
  clear hx hxs hy hys
  by_cases hne : l.length = m.length
  · have h0 : ((l.length : Int) != (m.length : Int)) = false := by simp [hne]
    have HN := Lib.hid hne
    clear hne
    go_enter Tryd.func23, Tryd.ntmps23
    go_wp2_with fail
    go_loopw [5] (fun i wr => ∃ k : Nat, k ≤ l.length ∧ i = .int .i64 k ∧ Hid ((l.take k).map XMass.data = (m.take k).map XMass.data) ∧ Ext w wr) (fun i _ => l.length - (intOf i).toNat)
    case atStart => exact ⟨0, Nat.zero_le _, rfl, Lib.hid rfl, Ext.refl _⟩
    case round =>
      obtain ⟨k, hk, rfl, HT, hE⟩ := hrel
      by_cases hlt : k < l.length
      · obtain ⟨a, ha⟩ : ∃ a, l[k]? = some a := ⟨_, List.getElem?_eq_getElem hlt⟩
        obtain ⟨b, hb⟩ : ∃ b, m[k]? = some b := ⟨_, List.getElem?_eq_getElem (by have := HN.out; omega)⟩
        have HM := Lib.hid (List.mem_of_getElem? ha)
        have HMB := Lib.hid (List.mem_of_getElem? hb)
        obtain ⟨g, o, rfl, hg, r1⟩ := Sl.row (size := 12) (fun _ => rfl) (HX.out.below hE.below) ha
        obtain ⟨g', o', rfl, hg', r2⟩ := Sl.row (size := 12) (fun _ => rfl) (HY.out.below hE.below) hb
        have HA := Lib.hid ha
        have HB := Lib.hid hb
        have HE := Lib.hid hE
        have HR : Hid (∀ W', Ext wr W' → RowAt W' g (o + k * 12) a.cells) := Lib.hid fun W' hW' => r1.keep fun p => by
          have hlt' : g < wr.heap.size := Nat.lt_of_lt_of_le hg hE.size
          exact Below.cell (p := ⟨g, p, none⟩) hW'.below hlt'
        have HR' : Hid (∀ W', Ext wr W' → RowAt W' g' (o' + k * 12) b.cells) := Lib.hid fun W' hW' => r2.keep fun p => by
          have hlt' : g' < wr.heap.size := Nat.lt_of_lt_of_le hg' hE.size
          exact Below.cell (p := ⟨g', p, none⟩) hW'.below hlt'
        have hli : (k : Int) < (l.length : Int) := by omega
        have hmi : (k : Int) < (m.length : Int) := by have := HN.out; omega
        clear ha hb r1 r2 hg hg' hE
        by_cases hq : a.data = b.data
        · have HQ : Hid (decide (a.data = b.data) = true) := Lib.hid (decide_eq_true hq)
          have HQ2 := Lib.hid hq
          clear hq
          go_wp2_with fail
          refine FG.wp_region_flow (fun w' => wr.heap.size ≤ w'.heap.size) (Ext wr) Ext (chK wr [8] [] [3, 7] []) [8] (by kernel_rfl) (by kernel_rfl) (by kernel_rfl) (fun _ _ h => Ext.size h) (Nat.le_refl _) (chK_early (Ext.drew _)) (Ext.drew _) (fun _ _ h k => h.trans k) ?_
          iterate 3 (refine FG.ftext_det rfl rfl ?_; apply Exists.intro; refine ⟨fun w hC => ?_, fun K hK => ?_⟩; (first | (go_simp; exact rfl) | (go_simp; exact ⟨rfl, rfl⟩)); go_simp; refine hK _ ?_; clear hK K)
          refine FG.ftext_load_early (Ext wr) 47 _ rfl rfl rfl g (o + k * 12) a.cells rfl aggMass (fun w1 _ hE => HR.out _ hE) (fun K hK => ?_)
          go_simp; refine hK _ ?_; clear hK K
          iterate 3 (refine FG.ftext_det rfl rfl ?_; apply Exists.intro; refine ⟨fun w hC => ?_, fun K hK => ?_⟩; (first | (go_simp; exact rfl) | (go_simp; exact ⟨rfl, rfl⟩)); go_simp; refine hK _ ?_; clear hK K)
          refine FG.ftext_load_early (Ext wr) 47 _ rfl rfl rfl g' (o' + k * 12) b.cells rfl aggMass (fun w1 _ hE => HR'.out _ hE) (fun K hK => ?_)
          go_simp; refine hK _ ?_; clear hK K
          refine FG.ftext_seq (fun v => v = .bool true) (fun _ W' => Ext wr W') rfl rfl ⟨_, rfl⟩ (fun v w1 w2 h hR => h.trans hR) (fun w1 hC hJ hF Φ hΦ => ?_) (fun v hv K hK => ?_)
          · go_simp
            refine (ref06_Same a b _ ((HXS.out a HM.out).ext (HE.out.trans hJ)) ((HYS.out b HMB.out).ext (HE.out.trans hJ))).mono ?_
            rw [HQ.out]
            rintro e w2 ⟨rfl, hE2⟩
            exact ⟨_, rfl, hΦ _ _ rfl (Nat.le_trans hC (Ext.size hE2)) hE2 (hJ.trans hE2)⟩
          subst hv
          go_simp; refine hK _ ?_; clear hK K
          iterate 1 (refine FG.ftext_det rfl rfl ?_; apply Exists.intro; refine ⟨fun w hC => ?_, fun K hK => ?_⟩; (first | (go_simp; exact rfl) | (go_simp; exact ⟨rfl, rfl⟩)); go_simp; refine hK _ ?_; clear hK K)
          refine FG.ftext_nil ?_
          rintro w1 _ hJ _
          have HE1 := Lib.hid (HE.out.trans hJ)
          clear hJ
          go_wp2_with fail
          go_roundw
          case rel => exact ⟨k + 1, by omega, by go_num, map_take_succ HA.out HB.out HQ2.out HT, HE1.out⟩
          case measure => simp [intOf]; omega
        · have HQ : Hid (decide (a.data = b.data) = false) := Lib.hid (decide_eq_false hq)
          have HQ2 := Lib.hid hq
          clear hq
          go_wp2_with fail
          refine FG.wp_region_flow (fun w' => wr.heap.size ≤ w'.heap.size) (Ext wr) Ext (chK wr [8] [] [3, 7] []) [8] (by kernel_rfl) (by kernel_rfl) (by kernel_rfl) (fun _ _ h => Ext.size h) (Nat.le_refl _) (chK_early (Ext.drew _)) (Ext.drew _) (fun _ _ h k => h.trans k) ?_
          iterate 3 (refine FG.ftext_det rfl rfl ?_; apply Exists.intro; refine ⟨fun w hC => ?_, fun K hK => ?_⟩; (first | (go_simp; exact rfl) | (go_simp; exact ⟨rfl, rfl⟩)); go_simp; refine hK _ ?_; clear hK K)
          refine FG.ftext_load_early (Ext wr) 47 _ rfl rfl rfl g (o + k * 12) a.cells rfl aggMass (fun w1 _ hE => HR.out _ hE) (fun K hK => ?_)
          go_simp; refine hK _ ?_; clear hK K
          iterate 3 (refine FG.ftext_det rfl rfl ?_; apply Exists.intro; refine ⟨fun w hC => ?_, fun K hK => ?_⟩; (first | (go_simp; exact rfl) | (go_simp; exact ⟨rfl, rfl⟩)); go_simp; refine hK _ ?_; clear hK K)
          refine FG.ftext_load_early (Ext wr) 47 _ rfl rfl rfl g' (o' + k * 12) b.cells rfl aggMass (fun w1 _ hE => HR'.out _ hE) (fun K hK => ?_)
          go_simp; refine hK _ ?_; clear hK K
          refine FG.ftext_seq (fun v => v = .bool false) (fun _ W' => Ext wr W') rfl rfl ⟨_, rfl⟩ (fun v w1 w2 h hR => h.trans hR) (fun w1 hC hJ hF Φ hΦ => ?_) (fun v hv K hK => ?_)
          · go_simp
            refine (ref06_Same a b _ ((HXS.out a HM.out).ext (HE.out.trans hJ)) ((HYS.out b HMB.out).ext (HE.out.trans hJ))).mono ?_
            rw [HQ.out]
            rintro e w2 ⟨rfl, hE2⟩
            exact ⟨_, rfl, hΦ _ _ rfl (Nat.le_trans hC (Ext.size hE2)) hE2 (hJ.trans hE2)⟩
          subst hv
          go_simp; refine hK _ ?_; clear hK K
          iterate 1 (refine FG.ftext_det rfl rfl ?_; apply Exists.intro; refine ⟨fun w hC => ?_, fun K hK => ?_⟩; (first | (go_simp; exact rfl) | (go_simp; exact ⟨rfl, rfl⟩)); go_simp; refine hK _ ?_; clear hK K)
          refine FG.ftext_nil ?_
          rintro w1 _ hJ _
          have HE1 := Lib.hid (HE.out.trans hJ)
          clear hJ
          go_wp2_with fail
          go_ret
          exact ⟨ret_bool (decide_eq_false (ne_of_map HA.out HB.out HQ2.out)).symm, HE1.out⟩
      · have hk' : k = l.length := by omega
        have hki : ¬ (k : Int) < (l.length : Int) := by omega
        have hfin : Hid (l.map XMass.data = m.map XMass.data) := Lib.hid (by
          have := HT.out
          rwa [hk', List.take_length, HN.out, List.take_length] at this)
        clear hk'
        go_wp2_with fail
        go_ret
        exact ⟨ret_bool (decide_eq_true hfin.out).symm, hE⟩
  · have h0 : ((l.length : Int) != (m.length : Int)) = true := by simp; omega
    have HN : Hid (¬ l.map XMass.data = m.map XMass.data) := Lib.hid fun h => hne (by have := congrArg List.length h; simpa using this)
    clear hne
    go_enter Tryd.func23, Tryd.ntmps23
    go_wp2_with fail
    go_ret
    exact ⟨ret_bool (decide_eq_false HN.out).symm, Ext.refl _⟩
end Go.Proofs.YtgcbnagfdfgpnaaDoor
