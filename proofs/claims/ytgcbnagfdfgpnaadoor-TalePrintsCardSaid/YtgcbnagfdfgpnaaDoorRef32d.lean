/- The reference's tales: a tale's text. Printed by gen_ref32d.py. -/
import Derived.Test.YtgcbnagfdfgpnaaDoorRef32c
namespace Go.Proofs.YtgcbnagfdfgpnaaDoor
open Go.RowKit Go.Hx
theorem small_i64 {v : Int} (h : smallB v = true) : inI64 v := by
  have := of_decide_eq_true h
  unfold inI64; omega
theorem may_small {t : PTale} (h : mayT t = true) : (smallB t.conf.nodes = true ∧ smallB t.conf.len = true ∧ smallB t.conf.patience = true ∧ smallB t.conf.cap = true) ∧ (∀ v ∈ t.values, smallB v = true) ∧ ∀ x ∈ t.steps, smallB x.id = true ∧ smallB x.arg = true ∧ smallB x.extra = true := by
  unfold mayT at h
  simp only [Bool.and_eq_true] at h
  obtain ⟨⟨⟨⟨⟨⟨h1, h2⟩, h3⟩, h4⟩, h5⟩, _⟩, h6⟩ := h
  refine ⟨⟨h1, h2, h3, h4⟩, List.all_eq_true.1 h5, fun x hx => ?_⟩
  have h7 := List.all_eq_true.1 h6 x hx
  unfold mayS at h7
  simp only [Bool.and_eq_true] at h7
  exact ⟨h7.1.2.1.1, h7.1.2.1.2, h7.1.2.2⟩
attribute [local go_sem] PStep.cells XTale.cells detUpon undIn
structure TxtI (w W W0 : World) : Prop where
  ext : Ext w W
  from0 : Ext W0 W
set_option maxRecDepth 100000 in
set_option maxHeartbeats 2000000 in
theorem ref_Text (x : XTale) (w : World) (hx : x.ok w w.heap.size) (hw : x.data.wf) (hm : mayT x.data = true) :
    Calls Tryd.prog 64 #[.agg #[.int .i64 x.conf.nodes, .int .i64 x.conf.len, .int .i64 x.conf.patience, .int .i64 x.conf.cap, .slice x.values.A x.values.l.length x.values.c, .slice x.steps.A x.steps.l.length x.steps.c]] w fun e w' => e = .returned (.string ⟨(textL x.data).toArray⟩) ∧ Ext w w' := by
  have HOK := Lib.hid (may_ok hw hm)
  have HSM := Lib.hid (may_small hm)
  obtain ⟨cf, ⟨l, A, c⟩, ⟨sl, sA, sc⟩⟩ := x
  have HV := Lib.hid hx.values.1
  have HS := Lib.hid hx.steps.1
  have HMS : Hid (smallB cf.nodes = true ∧ smallB cf.len = true ∧ smallB cf.patience = true ∧ smallB cf.cap = true) := Lib.hid HSM.out.1
  have HLN : Hid (l.length ≤ 100 ∧ sl.length ≤ 512) := Lib.hid HOK.out.2
  clear hx hw hm
  dsimp only at *
  have HB : Hid (Blk (w.alloc (.cells #[.int .i64 cf.nodes, .int .i64 cf.len, .int .i64 cf.patience, .int .i64 cf.cap, .slice A l.length c, .slice sA sl.length sc] 64)) w.heap.size 64 [.int .i64 cf.nodes, .int .i64 cf.len, .int .i64 cf.patience, .int .i64 cf.cap, .slice A l.length c, .slice sA sl.length sc]) := Lib.hid (Blk.new rfl)
  have HE : Hid (Ext w (w.alloc (.cells #[.int .i64 cf.nodes, .int .i64 cf.len, .int .i64 cf.patience, .int .i64 cf.cap, .slice A l.length c, .slice sA sl.length sc] 64))) := Lib.hid (Ext.alloc _ _)
  obtain ⟨c0, hc0⟩ : ∃ c, Lib.itoa cf.nodes = c := ⟨_, rfl⟩
  have HC0 : Hid (c0.length ≤ 21) := Lib.hid (by rw [← hc0]; exact itoa_small HMS.out.1)
  obtain ⟨s0, hs0⟩ : ∃ s, [119, 111, 114, 108, 100, 32] ++ c0 = s := ⟨_, rfl⟩
  have HS0 : Hid (s0.length ≤ 27) := Lib.hid (by rw [← hs0, List.length_append]; have := HC0.out; simp only [List.length_cons, List.length_nil]; omega)
  have a0 : ∀ W, (Op.stringOp .add ⟨([119, 111, 114, 108, 100, 32]).toArray⟩ ⟨c0.toArray⟩).run Tryd.prog W = .ok (.string ⟨s0.toArray⟩) W := fun W => by rw [run_string_add_lists W ([119, 111, 114, 108, 100, 32]) c0 (by simp) (by have := HC0.out; omega), hs0]
  obtain ⟨p0, hp0⟩ : ∃ p, s0 ++ [32] = p := ⟨_, rfl⟩
  have HP0 : Hid (p0.length ≤ 28) := Lib.hid (by rw [← hp0, List.length_append]; have := HS0.out; simp only [List.length_cons, List.length_nil]; omega)
  have b0 : ∀ W, (Op.stringOp .add ⟨s0.toArray⟩ ⟨#[32]⟩).run Tryd.prog W = .ok (.string ⟨p0.toArray⟩) W := fun W => by rw [run_string_add_lists W s0 [32] (by have := HS0.out; omega) (by simp), hp0]
  obtain ⟨c1, hc1⟩ : ∃ c, Lib.itoa cf.len = c := ⟨_, rfl⟩
  have HC1 : Hid (c1.length ≤ 21) := Lib.hid (by rw [← hc1]; exact itoa_small HMS.out.2.1)
  obtain ⟨s1, hs1⟩ : ∃ s, p0 ++ c1 = s := ⟨_, rfl⟩
  have HS1 : Hid (s1.length ≤ 49) := Lib.hid (by rw [← hs1, List.length_append]; have := HC1.out; have := HP0.out; omega)
  have a1 : ∀ W, (Op.stringOp .add ⟨(p0).toArray⟩ ⟨c1.toArray⟩).run Tryd.prog W = .ok (.string ⟨s1.toArray⟩) W := fun W => by rw [run_string_add_lists W (p0) c1 (by have := HP0.out; omega) (by have := HC1.out; omega), hs1]
  obtain ⟨p1, hp1⟩ : ∃ p, s1 ++ [32] = p := ⟨_, rfl⟩
  have HP1 : Hid (p1.length ≤ 50) := Lib.hid (by rw [← hp1, List.length_append]; have := HS1.out; simp only [List.length_cons, List.length_nil]; omega)
  have b1 : ∀ W, (Op.stringOp .add ⟨s1.toArray⟩ ⟨#[32]⟩).run Tryd.prog W = .ok (.string ⟨p1.toArray⟩) W := fun W => by rw [run_string_add_lists W s1 [32] (by have := HS1.out; omega) (by simp), hp1]
  obtain ⟨c2, hc2⟩ : ∃ c, Lib.itoa cf.patience = c := ⟨_, rfl⟩
  have HC2 : Hid (c2.length ≤ 21) := Lib.hid (by rw [← hc2]; exact itoa_small HMS.out.2.2.1)
  obtain ⟨s2, hs2⟩ : ∃ s, p1 ++ c2 = s := ⟨_, rfl⟩
  have HS2 : Hid (s2.length ≤ 71) := Lib.hid (by rw [← hs2, List.length_append]; have := HC2.out; have := HP1.out; omega)
  have a2 : ∀ W, (Op.stringOp .add ⟨(p1).toArray⟩ ⟨c2.toArray⟩).run Tryd.prog W = .ok (.string ⟨s2.toArray⟩) W := fun W => by rw [run_string_add_lists W (p1) c2 (by have := HP1.out; omega) (by have := HC2.out; omega), hs2]
  obtain ⟨p2, hp2⟩ : ∃ p, s2 ++ [32] = p := ⟨_, rfl⟩
  have HP2 : Hid (p2.length ≤ 72) := Lib.hid (by rw [← hp2, List.length_append]; have := HS2.out; simp only [List.length_cons, List.length_nil]; omega)
  have b2 : ∀ W, (Op.stringOp .add ⟨s2.toArray⟩ ⟨#[32]⟩).run Tryd.prog W = .ok (.string ⟨p2.toArray⟩) W := fun W => by rw [run_string_add_lists W s2 [32] (by have := HS2.out; omega) (by simp), hp2]
  obtain ⟨c3, hc3⟩ : ∃ c, Lib.itoa cf.cap = c := ⟨_, rfl⟩
  have HC3 : Hid (c3.length ≤ 21) := Lib.hid (by rw [← hc3]; exact itoa_small HMS.out.2.2.2)
  obtain ⟨s3, hs3⟩ : ∃ s, p2 ++ c3 = s := ⟨_, rfl⟩
  have HS3 : Hid (s3.length ≤ 93) := Lib.hid (by rw [← hs3, List.length_append]; have := HC3.out; have := HP2.out; omega)
  have a3 : ∀ W, (Op.stringOp .add ⟨(p2).toArray⟩ ⟨c3.toArray⟩).run Tryd.prog W = .ok (.string ⟨s3.toArray⟩) W := fun W => by rw [run_string_add_lists W (p2) c3 (by have := HP2.out; omega) (by have := HC3.out; omega), hs3]
  have HH : Hid (∀ vs, lineL [119, 111, 114, 108, 100] ([cf.nodes, cf.len, cf.patience, cf.cap] ++ vs) = s3 ++ vs.flatMap fun v => 32 :: Lib.itoa v) := Lib.hid fun vs => by rw [← hs3, ← hp2, ← hs2, ← hp1, ← hs1, ← hp0, ← hs0, ← hc0, ← hc1, ← hc2, ← hc3]; unfold lineL; simp
  have HCC0 := Lib.hid hc0
  have HCC1 := Lib.hid hc1
  have HCC2 := Lib.hid hc2
  have HCC3 := Lib.hid hc3
  clear hs0 hs1 hs2 hs3 hp0 hp1 hp2 hc0 hc1 hc2 hc3
  go_enter Tryd.func64, Tryd.ntmps64
  go_wp2_with fail
  obtain ⟨WX, hWX⟩ : ∃ W, W = w.alloc (.cells #[.int .i64 cf.nodes, .int .i64 cf.len, .int .i64 cf.patience, .int .i64 cf.cap, .slice A l.length c, .slice sA sl.length sc] 64) := ⟨_, rfl⟩
  rw [← hWX] at HB HE ⊢
  clear hWX
  have HG0 : Hid (∀ W : World, Ext WX W → W.cell? ⟨w.heap.size, 0, none⟩ = some (.int .i64 cf.nodes)) := Lib.hid fun W hW => (HB.out.ext hW).cell 0
  have HG1 : Hid (∀ W : World, Ext WX W → W.cell? ⟨w.heap.size, 1, none⟩ = some (.int .i64 cf.len)) := Lib.hid fun W hW => (HB.out.ext hW).cell 1
  have HG2 : Hid (∀ W : World, Ext WX W → W.cell? ⟨w.heap.size, 2, none⟩ = some (.int .i64 cf.patience)) := Lib.hid fun W hW => (HB.out.ext hW).cell 2
  have HG3 : Hid (∀ W : World, Ext WX W → W.cell? ⟨w.heap.size, 3, none⟩ = some (.int .i64 cf.cap)) := Lib.hid fun W hW => (HB.out.ext hW).cell 3
  refine wp_region_flow (Ext WX) (fun _ => True) Ext (fun i => if i = 3 then .row (fun v => v = .string ⟨c0.toArray⟩) (fun _ _ => True) else if i = 9 then .row (fun v => v = .string ⟨c1.toArray⟩) (fun _ _ => True) else if i = 15 then .row (fun v => v = .string ⟨c2.toArray⟩) (fun _ _ => True) else if i = 21 then .row (fun v => v = .string ⟨c3.toArray⟩) (fun _ _ => True) else .det) [3, 9, 15, 21] (by kernel_rfl) (by kernel_rfl) (by kernel_rfl) (Ext.drew _) trivial (keeps_true _) ?_
  iterate 3 (refine ftext_det rfl rfl ?_; apply Exists.intro; refine ⟨fun w hC => ?_, fun K hK => ?_⟩; (first | (go_simp; exact rfl) | (go_simp; exact ⟨rfl, rfl⟩) | (have h1 := HG0.out _ hC; go_simp; first | exact rfl | exact ⟨rfl, rfl⟩)); go_simp; refine hK _ ?_; clear hK K)
  refine ftext_row _ _ rfl rfl ⟨_, rfl⟩ (fun _ => keeps_true _) (fun w1 hC hJ Φ hΦ => ?_) (fun v hv K hK => ?_)
  · go_simp
    refine (ref_Whole cf.nodes HMS.out.1 _).mono ?_
    rw [HCC0.out]
    rintro e w2 ⟨rfl, hE2⟩
    exact ⟨_, rfl, hΦ _ _ rfl (hC.trans hE2) hE2 trivial⟩
  subst hv
  go_simp; refine hK _ ?_; clear hK K
  iterate 5 (refine ftext_det rfl rfl ?_; apply Exists.intro; refine ⟨fun w hC => ?_, fun K hK => ?_⟩; (first | (go_simp; exact rfl) | (go_simp; exact ⟨rfl, rfl⟩) | (have h1 := HG1.out _ hC; go_simp; first | exact rfl | exact ⟨rfl, rfl⟩)); go_simp; refine hK _ ?_; clear hK K)
  refine ftext_row _ _ rfl rfl ⟨_, rfl⟩ (fun _ => keeps_true _) (fun w1 hC hJ Φ hΦ => ?_) (fun v hv K hK => ?_)
  · go_simp
    refine (ref_Whole cf.len HMS.out.2.1 _).mono ?_
    rw [HCC1.out]
    rintro e w2 ⟨rfl, hE2⟩
    exact ⟨_, rfl, hΦ _ _ rfl (hC.trans hE2) hE2 trivial⟩
  subst hv
  go_simp; refine hK _ ?_; clear hK K
  iterate 5 (refine ftext_det rfl rfl ?_; apply Exists.intro; refine ⟨fun w hC => ?_, fun K hK => ?_⟩; (first | (go_simp; exact rfl) | (go_simp; exact ⟨rfl, rfl⟩) | (have h1 := HG2.out _ hC; go_simp; first | exact rfl | exact ⟨rfl, rfl⟩)); go_simp; refine hK _ ?_; clear hK K)
  refine ftext_row _ _ rfl rfl ⟨_, rfl⟩ (fun _ => keeps_true _) (fun w1 hC hJ Φ hΦ => ?_) (fun v hv K hK => ?_)
  · go_simp
    refine (ref_Whole cf.patience HMS.out.2.2.1 _).mono ?_
    rw [HCC2.out]
    rintro e w2 ⟨rfl, hE2⟩
    exact ⟨_, rfl, hΦ _ _ rfl (hC.trans hE2) hE2 trivial⟩
  subst hv
  go_simp; refine hK _ ?_; clear hK K
  iterate 5 (refine ftext_det rfl rfl ?_; apply Exists.intro; refine ⟨fun w hC => ?_, fun K hK => ?_⟩; (first | (go_simp; exact rfl) | (go_simp; exact ⟨rfl, rfl⟩) | (have h1 := HG3.out _ hC; go_simp; first | exact rfl | exact ⟨rfl, rfl⟩)); go_simp; refine hK _ ?_; clear hK K)
  refine ftext_row _ _ rfl rfl ⟨_, rfl⟩ (fun _ => keeps_true _) (fun w1 hC hJ Φ hΦ => ?_) (fun v hv K hK => ?_)
  · go_simp
    refine (ref_Whole cf.cap HMS.out.2.2.2 _).mono ?_
    rw [HCC3.out]
    rintro e w2 ⟨rfl, hE2⟩
    exact ⟨_, rfl, hΦ _ _ rfl (hC.trans hE2) hE2 trivial⟩
  subst hv
  go_simp; refine hK _ ?_; clear hK K
  iterate 2 (refine ftext_det rfl rfl ?_; apply Exists.intro; refine ⟨fun w hC => ?_, fun K hK => ?_⟩; (first | (go_simp; exact rfl) | (go_simp; exact ⟨rfl, rfl⟩)); go_simp; refine hK _ ?_; clear hK K)
  refine ftext_nil ?_
  rintro w1 hC _ _
  have HI0 : Hid (TxtI w w1 WX) := Lib.hid ⟨HE.out.trans hC, hC⟩
  clear hC
  clear HE HG0 HG1 HG2 HG3 a0 a1 a2 a3 b0 b1 b2
  go_wp2_with fail
  go_loopw [3, 4] (fun t i W => ∃ (k : Nat), k ≤ l.length ∧ t = .string ⟨(s3 ++ (l.take k).flatMap fun v => 32 :: Lib.itoa v).toArray⟩ ∧ i = .int .i64 k ∧ Hid (TxtI w W WX)) (fun _ i _ => l.length - (intOf i).toNat)
  case atStart => exact ⟨0, by omega, by simp, rfl, HI0⟩
  case round =>
    obtain ⟨k, hk, rfl, rfl, HI⟩ := hrel
    clear HI0
    have hc4 : wr.cell? ⟨w.heap.size, 4, none⟩ = some (.slice A l.length c) := (HB.out.ext HI.out.from0).cell 4
    obtain ⟨cu, hcu⟩ : ∃ s, (s3 ++ (l.take k).flatMap fun v => 32 :: Lib.itoa v) = s := ⟨_, rfl⟩
    have HCUL : Hid (cu.length ≤ 3000) := Lib.hid (by
      have h1 := lineL_len [119, 111, 114, 108, 100] ([cf.nodes, cf.len, cf.patience, cf.cap] ++ l.take k) (fun v hv => by
        rcases List.mem_append.1 hv with hv | hv
        · simp only [List.mem_cons, List.not_mem_nil, or_false] at hv
          rcases hv with rfl | rfl | rfl | rfl
          · exact small_i64 HMS.out.1
          · exact small_i64 HMS.out.2.1
          · exact small_i64 HMS.out.2.2.1
          · exact small_i64 HMS.out.2.2.2
        · exact small_i64 (HSM.out.2.1 v (List.mem_of_mem_take hv)))
      rw [HH.out, hcu, List.length_append, List.length_take] at h1
      have h2 := HLN.out.1
      simp only [List.length_cons, List.length_nil] at h1
      omega)
    have HCU := Lib.hid hcu
    rw [hcu]
    clear hcu
    by_cases hlt : k < l.length
    · obtain ⟨z, hz⟩ : ∃ z, l[k]? = some z := ⟨_, List.getElem?_eq_getElem hlt⟩
      have HZ := Lib.hid hz
      have HZS : Hid (smallB z = true) := Lib.hid (HSM.out.2.1 z (List.mem_of_getElem? hz))
      obtain ⟨b1, o1, rfl, hb1, hrow⟩ := Sl.row (size := 1) (fun _ => rfl) HV.out hz
      have hc : wr.cell? ⟨b1, o1 + k, none⟩ = some (.int .i64 z) := by have := hrow.below HI.out.ext.below hb1 0 _ rfl; simpa using this
      have hki : (k : Int) < (l.length : Int) := by omega
      have hk9 : k < 100 := by have := HLN.out; omega
      have a1 : ∀ W, (Op.stringOp .add ⟨cu.toArray⟩ ⟨#[32]⟩).run Tryd.prog W = .ok (.string ⟨(cu ++ [32]).toArray⟩) W := fun W => run_string_add_lists W cu [32] (by have := HCUL.out; omega) (by simp)
      obtain ⟨cp, hcp⟩ : ∃ s, cu ++ [32] = s := ⟨_, rfl⟩
      have HCPL : Hid (cp.length ≤ 3001) := Lib.hid (by rw [← hcp, List.length_append]; have := HCUL.out; simp only [List.length_cons, List.length_nil]; omega)
      have a2 : ∀ W, (Op.stringOp .add ⟨cp.toArray⟩ ⟨(Lib.itoa z).toArray⟩).run Tryd.prog W = .ok (.string ⟨(cp ++ Lib.itoa z).toArray⟩) W := fun W => run_string_add_lists W cp _ (by have := HCPL.out; omega) (by have := itoa_small HZS.out; omega)
      rw [hcp] at a1
      have HNX : Hid (cp ++ Lib.itoa z = s3 ++ (l.take (k + 1)).flatMap fun v => 32 :: Lib.itoa v) := Lib.hid (by rw [take_snoc HZ.out, List.flatMap_append, ← List.append_assoc, HCU.out, ← hcp]; simp)
      clear hz hb1 hrow hcp
      go_wp2_with fail
      refine (ref_Whole z HZS.out _).mono ?_
      rintro e w2 ⟨rfl, hE2⟩
      have HI2 : Hid (TxtI w w2 WX) := Lib.hid ⟨HI.out.ext.trans hE2, HI.out.from0.trans hE2⟩
      clear hE2 hc4
      go_wp2_with fail
      go_roundw
      case rel => exact ⟨k + 1, by omega, by rw [HNX.out] <;> rfl, by go_num, HI2⟩
      case measure => simp [intOf]; omega
    · have hki : ¬ (k : Int) < (l.length : Int) := by omega
      have HHL : Hid (headL (XTale.data ⟨cf, ⟨l, A, c⟩, ⟨sl, sA, sc⟩⟩) = cu) := Lib.hid (by
        have := HH.out l
        rw [← HCU.out, show l.take k = l by rw [List.take_of_length_le (by omega)]]
        exact this)
      have a1 : ∀ W, (Op.stringOp .add ⟨cu.toArray⟩ ⟨#[10]⟩).run Tryd.prog W = .ok (.string ⟨(cu ++ [10]).toArray⟩) W := fun W => run_string_add_lists W cu [10] (by have := HCUL.out; omega) (by simp)
      obtain ⟨cn, hcn⟩ : ∃ s, cu ++ [10] = s := ⟨_, rfl⟩
      have HCNL : Hid (cn.length ≤ 3001) := Lib.hid (by rw [← hcn, List.length_append]; have := HCUL.out; simp only [List.length_cons, List.length_nil]; omega)
      have HTX : Hid (textL (XTale.data ⟨cf, ⟨l, A, c⟩, ⟨sl, sA, sc⟩⟩) = cn ++ stepsL sl) := Lib.hid (by unfold textL; rw [HHL.out, hcn]; rfl)
      rw [hcn] at a1
      clear hcn
      go_wp2_with fail
      clear a1 hc4
      go_loopw [3, 5] (fun t i W => ∃ (k : Nat), k ≤ sl.length ∧ t = .string ⟨(cn ++ stepsL (sl.take k)).toArray⟩ ∧ i = .int .i64 k ∧ Hid (TxtI w W WX)) (fun _ i _ => sl.length - (intOf i).toNat)
      case atStart => exact ⟨0, by omega, by simp [stepsL], rfl, HI⟩
      case round =>
        obtain ⟨k, hk, rfl, rfl, HJ⟩ := hrel
        clear HI
        have hc5 : wr.cell? ⟨w.heap.size, 5, none⟩ = some (.slice sA sl.length sc) := (HB.out.ext HJ.out.from0).cell 5
        by_cases hlt : k < sl.length
        · obtain ⟨z, hz⟩ : ∃ z, sl[k]? = some z := ⟨_, List.getElem?_eq_getElem hlt⟩
          have HZ := Lib.hid hz
          have HZO : Hid (StepOk z) := Lib.hid (HOK.out.1 z (List.mem_of_getElem? hz))
          have HZS : Hid (smallB z.id = true ∧ smallB z.arg = true ∧ smallB z.extra = true) := Lib.hid (HSM.out.2.2 z (List.mem_of_getElem? hz))
          obtain ⟨b1, o1, rfl, hb1, hrow⟩ := Sl.row (size := 5) (fun _ => rfl) HS.out hz
          have HRZ : Hid (RowAt wr b1 (o1 + k * 5) [.int .u8 z.op, .int .i64 z.id, .int .i64 z.arg, .int .i64 z.extra, .int .u64 z.draw]) := Lib.hid (hrow.below HJ.out.ext.below hb1)
          have hki : (k : Int) < (sl.length : Int) := by omega
          have hk9 : k < 512 := by have := HLN.out; omega
          have HSZ : Hid ((stepL z).length ≤ 100) := Lib.hid (step_len HZO.out)
          obtain ⟨q, hq⟩ : ∃ q, cn ++ stepsL (sl.take k) = q := ⟨_, rfl⟩
          have HQL : Hid (q.length ≤ 60000) := Lib.hid (by
            have h1 := steps_len (sl.take k) (fun y hy => HOK.out.1 y (List.mem_of_mem_take hy))
            rw [List.length_take] at h1
            rw [← hq, List.length_append]
            have := HCNL.out
            omega)
          have a1 : ∀ W, (Op.stringOp .add ⟨q.toArray⟩ ⟨(stepL z).toArray⟩).run Tryd.prog W = .ok (.string ⟨(q ++ stepL z).toArray⟩) W := fun W => run_string_add_lists W q _ (by have := HQL.out; omega) (by have := HSZ.out; omega)
          obtain ⟨q2, hq2⟩ : ∃ q2, q ++ stepL z = q2 := ⟨_, rfl⟩
          have HQL2 : Hid (q2.length ≤ 60100) := Lib.hid (by rw [← hq2, List.length_append]; have := HQL.out; have := HSZ.out; omega)
          have a2 : ∀ W, (Op.stringOp .add ⟨q2.toArray⟩ ⟨#[10]⟩).run Tryd.prog W = .ok (.string ⟨(q2 ++ [10]).toArray⟩) W := fun W => run_string_add_lists W q2 [10] (by have := HQL2.out; omega) (by simp)
          rw [hq2] at a1
          have HNX : Hid (q2 ++ [10] = cn ++ stepsL (sl.take (k + 1))) := Lib.hid (by rw [take_snoc HZ.out, stepsL_snoc, ← List.append_assoc, ← List.append_assoc, hq, hq2])
          rw [hq]
          clear hz hb1 hrow hq hq2
          go_wp2_with (first | ((with_reducible refine wpl_load 115 (.tmp 58) ?_ ?_ (b1) (o1 + k * 5) [.int .u8 z.op, .int .i64 z.id, .int .i64 z.arg, .int .i64 z.extra, .int .u64 z.draw] ?_ ?_ ?_ ?_); (exact rfl); (exact rfl); (exact rfl); (exact aggStep); (exact HRZ.out)) | fail)
          refine (ref_Line z _ HZO.out HZS.out).mono ?_
          rintro e w2 ⟨rfl, hE2⟩
          have HI2 : Hid (TxtI w w2 WX) := Lib.hid ⟨HJ.out.ext.trans hE2, HJ.out.from0.trans hE2⟩
          clear hE2 hc5
          go_wp2_with fail
          go_roundw
          case rel => exact ⟨k + 1, by omega, by rw [HNX.out] <;> rfl, by go_num, HI2⟩
          case measure => simp [intOf]; omega
        · have hki : ¬ (k : Int) < (sl.length : Int) := by omega
          have HR : Hid (textL (XTale.data ⟨cf, ⟨l, A, c⟩, ⟨sl, sA, sc⟩⟩) = cn ++ stepsL (sl.take k)) := Lib.hid (by rw [HTX.out, show sl.take k = sl by rw [List.take_of_length_le (by omega)]])
          go_wp2_with fail
          go_ret
          exact ⟨by rw [HR.out] <;> rfl, HJ.out.ext⟩
set_option maxRecDepth 100000 in
set_option maxHeartbeats 2000000 in
theorem ref_Print (x : XTale) (w : World) (hx : x.ok w w.heap.size) (hw : x.data.wf) :
    Calls Tryd.prog 25 #[.agg #[.int .i64 x.conf.nodes, .int .i64 x.conf.len, .int .i64 x.conf.patience, .int .i64 x.conf.cap, .slice x.values.A x.values.l.length x.values.c, .slice x.steps.A x.steps.l.length x.steps.c]] w fun e w' => e = .returned (.tuple #[.string ⟨(printP x.data).1.toArray⟩, .int .i64 (printP x.data).2]) ∧ Ext w w' := by
  have HX := Lib.hid hx
  have HW := Lib.hid hw
  clear hx hw
  have HB : Hid (Blk (w.alloc (.cells #[.int .i64 x.conf.nodes, .int .i64 x.conf.len, .int .i64 x.conf.patience, .int .i64 x.conf.cap, .slice x.values.A x.values.l.length x.values.c, .slice x.steps.A x.steps.l.length x.steps.c] 64)) w.heap.size 64 [.int .i64 x.conf.nodes, .int .i64 x.conf.len, .int .i64 x.conf.patience, .int .i64 x.conf.cap, .slice x.values.A x.values.l.length x.values.c, .slice x.steps.A x.steps.l.length x.steps.c]) := Lib.hid (Blk.new rfl)
  have hr0 : RowAt (w.alloc (.cells #[.int .i64 x.conf.nodes, .int .i64 x.conf.len, .int .i64 x.conf.patience, .int .i64 x.conf.cap, .slice x.values.A x.values.l.length x.values.c, .slice x.steps.A x.steps.l.length x.steps.c] 64)) w.heap.size 0 [.int .i64 x.conf.nodes, .int .i64 x.conf.len, .int .i64 x.conf.patience, .int .i64 x.conf.cap, .slice x.values.A x.values.l.length x.values.c, .slice x.steps.A x.steps.l.length x.steps.c] := HB.out.row
  have HE0 : Hid (Ext w (w.alloc (.cells #[.int .i64 x.conf.nodes, .int .i64 x.conf.len, .int .i64 x.conf.patience, .int .i64 x.conf.cap, .slice x.values.A x.values.l.length x.values.c, .slice x.steps.A x.steps.l.length x.steps.c] 64))) := Lib.hid (Ext.alloc _ _)
  go_enter Tryd.func25, Tryd.ntmps25
  go_wp2_with (first | ((with_reducible refine wpl_load 64 (.tmp 1) ?_ ?_ (w.heap.size) 0 [.int .i64 x.conf.nodes, .int .i64 x.conf.len, .int .i64 x.conf.patience, .int .i64 x.conf.cap, .slice x.values.A x.values.l.length x.values.c, .slice x.steps.A x.steps.l.length x.steps.c] ?_ ?_ ?_ ?_); (exact rfl); (exact rfl); (exact rfl); (exact aggTale); (exact hr0)) | fail)
  clear hr0
  refine (ref_May x _ (HX.out.ext HE0.out) HW.out).mono ?_
  cases hm : mayT x.data with
  | false =>
    have HR : Hid (printP x.data = ([], 8)) := Lib.hid (by unfold printP; rw [if_neg (by rw [hm]; decide)])
    clear hm
    rintro e w1 ⟨rfl, hE1⟩
    go_wp2_with fail
    go_ret2
    exact ⟨by rw [HR.out] <;> rfl, HE0.out.trans hE1⟩
  | true =>
  have HM := Lib.hid hm
  have HPR : Hid (printP x.data = if 65536 < (textL x.data).length then ([], 4) else (textL x.data, 0)) := Lib.hid (by unfold printP; rw [if_pos hm])
  clear hm
  rintro e w1 ⟨rfl, hE1⟩
  have HB1 := Lib.hid (HB.out.ext hE1)
  have HE1 := Lib.hid (HE0.out.trans hE1)
  have hr1 : RowAt w1 w.heap.size 0 [.int .i64 x.conf.nodes, .int .i64 x.conf.len, .int .i64 x.conf.patience, .int .i64 x.conf.cap, .slice x.values.A x.values.l.length x.values.c, .slice x.steps.A x.steps.l.length x.steps.c] := HB1.out.row
  clear hE1
  go_wp2_with (first | ((with_reducible refine wpl_load 64 (.tmp 1) ?_ ?_ (w.heap.size) 0 [.int .i64 x.conf.nodes, .int .i64 x.conf.len, .int .i64 x.conf.patience, .int .i64 x.conf.cap, .slice x.values.A x.values.l.length x.values.c, .slice x.steps.A x.steps.l.length x.steps.c] ?_ ?_ ?_ ?_); (exact rfl); (exact rfl); (exact rfl); (exact aggTale); (exact hr1)) | fail)
  clear hr1
  refine (ref_Text x _ (HX.out.ext HE1.out) HW.out HM.out).mono ?_
  rintro e w2 ⟨rfl, hE2⟩
  have HE2 := Lib.hid (HE1.out.trans hE2)
  clear hE2
  obtain ⟨tx, htx⟩ : ∃ t, textL x.data = t := ⟨_, rfl⟩
  rw [htx] at HPR ⊢
  clear htx
  by_cases hlen : (65536 : Int) < (tx.length : Int)
  · have HR := Lib.hid (HPR.out.trans (if_pos (by omega)))
    have hsz : ((⟨tx.toArray⟩ : ByteArray).size : Int) = (tx.length : Int) := rfl
    clear HPR
    go_wp2_with fail
    go_ret2
    exact ⟨by rw [HR.out] <;> rfl, HE2.out⟩
  · have HR := Lib.hid (HPR.out.trans (if_neg (by omega)))
    have hsz : ((⟨tx.toArray⟩ : ByteArray).size : Int) = (tx.length : Int) := rfl
    clear HPR
    go_wp2_with fail
    go_ret2
    exact ⟨by rw [HR.out] <;> rfl, HE2.out⟩
end Go.Proofs.YtgcbnagfdfgpnaaDoor
