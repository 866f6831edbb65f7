/- The reference's dyads: signs turned, sums of signed bits. Printed by gen_refd3.py. -/
import Derived.Test.YtgcbnagfdfgpnaaDoorRefD2
namespace Go.Proofs.YtgcbnagfdfgpnaaDoor
open Go.RowKit Go.Hx
attribute [local go_sem] detUpon undIn
set_option maxRecDepth 100000 in
theorem ref02_Minus (x : XDyad) (w : World) :
    Calls Tryd.prog 94 #[.agg #[.bool x.neg, .slice x.limbs.A x.limbs.l.length x.limbs.c, .int .i64 x.exp]] w fun e w' => ∃ y : XDyad, e = .returned (.agg #[.bool y.neg, .slice y.limbs.A y.limbs.l.length y.limbs.c, .int .i64 y.exp]) ∧ y.data = minusD x.data ∧ y.limbs = x.limbs ∧ y.exp = x.exp ∧ Ext w w' := by
  by_cases h : x.limbs.l.length = 0
  · have d : decide ((0 : Int) < (x.limbs.l.length : Int)) = false := decide_eq_false (by omega)
    have d2 : decide (0 < x.limbs.l.length) = false := decide_eq_false (by omega)
    have HM : Hid (x.data = minusD x.data) := Lib.hid (by unfold minusD; rw [if_pos (show x.data.limbs = [] from List.eq_nil_of_length_eq_zero h)])
    clear h
    go_enter Tryd.func94, Tryd.ntmps94
    have B0 : Blk ((w.alloc (.cells #[.bool x.neg, .slice x.limbs.A x.limbs.l.length x.limbs.c, .int .i64 x.exp] 24)).alloc (.cells #[.bool false, .slice none 0 0, .int .i64 0] 24)) w.heap.size 24 [.bool x.neg, .slice x.limbs.A x.limbs.l.length x.limbs.c, .int .i64 x.exp] := Blk.alloc (Blk.new rfl) _
    have BZ : Blk ((w.alloc (.cells #[.bool x.neg, .slice x.limbs.A x.limbs.l.length x.limbs.c, .int .i64 x.exp] 24)).alloc (.cells #[.bool false, .slice none 0 0, .int .i64 0] 24)) (w.heap.size + 1) 24 [.bool false, .slice none 0 0, .int .i64 0] := Blk.new (by simp)
    go_wp2_with (first | ((with_reducible refine wpl_load 24 (.tmp 1) ?_ ?_ (w.heap.size) 0 [.bool x.neg, .slice x.limbs.A x.limbs.l.length x.limbs.c, .int .i64 x.exp] ?_ ?_ ?_ ?_); (exact rfl); (exact rfl); (exact rfl); (exact aggDyad); (exact B0.row)) | ((with_reducible refine wpl_store 24 (.tmp 2) (.tmp 11) ?_ ?_ (w.heap.size + 1) 0 24 [.bool false, .slice none 0 0, .int .i64 0] [.bool x.neg, .slice x.limbs.A x.limbs.l.length x.limbs.c, .int .i64 x.exp] ?_ ?_ ?_ ?_ ?_ ?_ ?_); (exact rfl); (exact rfl); (exact rfl); (exact rfl); (exact aggDyad); (exact BZ); (exact by simp); (exact rfl); (intro w2 BR hO)) | fail)
    exact bodyPost_ret (results_c rfl rfl BR aggDyad) rfl ⟨x, rfl, HM.out, rfl, rfl, Only.ext (by repeat (first | exact Ext.refl _ | refine Ext.alloc' ?_ _ | refine Ext.setCell' ?_ (by simp) _)) hO (by omega)⟩
  · have d : decide ((0 : Int) < (x.limbs.l.length : Int)) = true := decide_eq_true (by omega)
    have d2 : decide (0 < x.limbs.l.length) = true := decide_eq_true (by omega)
    have hli : (0 : Int) < (x.limbs.l.length : Int) := by omega
    have HM : Hid (XDyad.data { x with neg := !x.neg } = minusD x.data) := Lib.hid (by unfold minusD; rw [if_neg (show ¬ x.data.limbs = [] from fun e => h (by rw [show x.limbs.l = [] from e]; rfl))]; rfl)
    clear h
    go_enter Tryd.func94, Tryd.ntmps94
    have B0 : Blk ((w.alloc (.cells #[.bool x.neg, .slice x.limbs.A x.limbs.l.length x.limbs.c, .int .i64 x.exp] 24)).alloc (.cells #[.bool false, .slice none 0 0, .int .i64 0] 24)) w.heap.size 24 [.bool x.neg, .slice x.limbs.A x.limbs.l.length x.limbs.c, .int .i64 x.exp] := Blk.alloc (Blk.new rfl) _
    have BZ : Blk ((w.alloc (.cells #[.bool x.neg, .slice x.limbs.A x.limbs.l.length x.limbs.c, .int .i64 x.exp] 24)).alloc (.cells #[.bool false, .slice none 0 0, .int .i64 0] 24)) (w.heap.size + 1) 24 [.bool false, .slice none 0 0, .int .i64 0] := Blk.new (by simp)
    go_wp2_with (first | ((with_reducible refine wpl_load 24 (.tmp 1) ?_ ?_ (w.heap.size) 0 [.bool (!x.neg), .slice x.limbs.A x.limbs.l.length x.limbs.c, .int .i64 x.exp] ?_ ?_ ?_ ?_); (exact rfl); (exact rfl); (exact rfl); (exact aggDyad); (exact (Blk.set B0 0 _).row)) | ((with_reducible refine wpl_store 24 (.tmp 2) (.tmp 11) ?_ ?_ (w.heap.size + 1) 0 24 [.bool false, .slice none 0 0, .int .i64 0] [.bool (!x.neg), .slice x.limbs.A x.limbs.l.length x.limbs.c, .int .i64 x.exp] ?_ ?_ ?_ ?_ ?_ ?_ ?_); (exact rfl); (exact rfl); (exact rfl); (exact rfl); (exact aggDyad); (exact (Blk.far BZ (by simp) _)); (exact by simp); (exact rfl); (intro w2 BR hO)) | fail)
    exact bodyPost_ret (results_c rfl rfl (Blk.new (by simp)) aggDyad) rfl ⟨{ x with neg := !x.neg }, rfl, HM.out, rfl, rfl, Ext.alloc' (Ext.alloc _ _) _⟩

set_option maxRecDepth 100000 in
set_option maxHeartbeats 4000000 in
theorem ref02_Plus (s t : Bool) (x y : LX Nat) (m n : Nat) (w : World) (hx : x.ok w w.heap.size cU8) (hy : y.ok w w.heap.size cU8) (hm : x.l = digs 2 m) (hn : y.l = digs 2 n) (hlx : x.l.length ≤ 100000) (hly : y.l.length ≤ 100000) :
    Calls Tryd.prog 135 #[.agg #[.bool s, .slice x.A x.l.length x.c], .agg #[.bool t, .slice y.A y.l.length y.c]] w fun e w' => ∃ z : LX Nat, e = .returned (.agg #[.bool (plusS s m t n).1, .slice z.A z.l.length z.c]) ∧ z.l = digs 2 (plusS s m t n).2 ∧ Go.Hx.Own w' w.heap.size 5 1 cU8 (.slice z.A z.l.length z.c) z.l ∧ Ext w w' := by
  have HX := Lib.hid hx
  have HY := Lib.hid hy
  have HBX : Hid (Bits x.l) := Lib.hid (by rw [hm]; exact Bits.digs m)
  have HBY : Hid (Bits y.l) := Lib.hid (by rw [hn]; exact Bits.digs n)
  have HVX : Hid (val 2 x.l = m) := Lib.hid (by rw [hm]; exact val_digs (by omega) m)
  have HVY : Hid (val 2 y.l = n) := Lib.hid (by rw [hn]; exact val_digs (by omega) n)
  have HLX := Lib.hid hlx
  have HLY := Lib.hid hly
  have HLN : Hid (∀ a b : Nat, a ≤ b → (digs 2 a).length ≤ (digs 2 b).length) := Lib.hid fun a b h => (digs_length (by omega) a _).2 (Nat.lt_of_le_of_lt h ((digs_length (by omega) b _).1 (Nat.le_refl _)))
  have HM := Lib.hid hm
  have HN := Lib.hid hn
  clear hx hy hm hn hlx hly
  by_cases hst : s = t
  · have HP : Hid (plusS s m t n = (s, m + n)) := Lib.hid (by unfold plusS; rw [if_pos hst])
    have dst : (s == t) = true := by simp [hst]
    have HV : Hid (val 2 x.l + val 2 y.l = m + n) := Lib.hid (by rw [HVX.out, HVY.out])
    clear hst
    go_enter Tryd.func135, Tryd.ntmps135
    go_wp2_with fail
    obtain ⟨WX, hWX⟩ : ∃ W0, W0 = ((w.alloc (.cells #[.bool s, .slice x.A x.l.length x.c] 160)).alloc (.cells #[.bool t, .slice y.A y.l.length y.c] 160)).alloc (.cells #[.bool false, .slice none 0 0] 160) := ⟨_, rfl⟩
    have B0 : Blk WX w.heap.size 160 [.bool s, .slice x.A x.l.length x.c] := by rw [hWX]; exact Blk.alloc (Blk.alloc (Blk.new rfl) _) _
    have B1 : Blk WX (w.heap.size + 1) 160 [.bool t, .slice y.A y.l.length y.c] := by rw [hWX]; exact Blk.alloc (Blk.new (by simp)) _
    have BZ : Blk WX (w.heap.size + 2) 160 [.bool false, .slice none 0 0] := by rw [hWX]; exact Blk.new (by simp)
    have hE0 : Ext w WX := by rw [hWX]; exact Ext.alloc' (Ext.alloc' (Ext.alloc _ _) _) _
    try rw [← hWX]
    clear hWX
    have G0 : Hid (∀ W, Ext WX W → W.cell? ⟨w.heap.size, 0, none⟩ = some (.bool s)) := Lib.hid fun W hW => hW.cell (B0.cell 0)
    have G1 : Hid (∀ W, Ext WX W → W.cell? ⟨w.heap.size, 1, none⟩ = some (.slice x.A x.l.length x.c)) := Lib.hid fun W hW => hW.cell (B0.cell 1)
    have G2 : Hid (∀ W, Ext WX W → W.cell? ⟨w.heap.size + 1, 0, none⟩ = some (.bool t)) := Lib.hid fun W hW => hW.cell (B1.cell 0)
    have G3 : Hid (∀ W, Ext WX W → W.cell? ⟨w.heap.size + 1, 1, none⟩ = some (.slice y.A y.l.length y.c)) := Lib.hid fun W hW => hW.cell (B1.cell 1)
    refine wp_region_flowTail 8 (Ext WX) (fun _ => True) Ext (fun i => if i = 6 then .row (fun v => ∃ (z : LX Nat), v = .slice z.A z.l.length z.c) (fun v W => ∃ z : LX Nat, v = .slice z.A z.l.length z.c ∧ z.l = digs 2 (m + n) ∧ Go.Hx.Own W w.heap.size 5 1 cU8 (.slice z.A z.l.length z.c) z.l) else .det) [6] (by kernel_rfl) (by kernel_rfl) (by kernel_rfl) (Ext.drew _) trivial (keeps_true _) ?_
    iterate 6 (refine ftext_det rfl rfl ?_; apply Exists.intro; refine ⟨fun w hC => ?_, fun K hK => ?_⟩; (first | (go_simp; exact rfl) | (go_simp; rw [G0.out _ hC]; exact ⟨rfl, rfl⟩) | (go_simp; rw [G1.out _ hC]; exact ⟨rfl, rfl⟩) | (go_simp; rw [G2.out _ hC]; exact ⟨rfl, rfl⟩) | (go_simp; rw [G3.out _ hC]; exact ⟨rfl, rfl⟩)); go_simp; refine hK _ ?_; clear hK K)
    refine ftext_row _ _ rfl rfl ⟨_, ⟨[], none, 0⟩, rfl⟩ (fun v w1 w2 ⟨z, h1, h2, h3⟩ hR => ⟨z, h1, h2, h3.ext hR⟩) (fun w1 hC hJ Φ hΦ => ?_) (fun v hv K hK => ?_)
    · go_simp
      refine (ref01_Plus x y _ (HX.out.ext (hE0.trans hC)) (HY.out.ext (hE0.trans hC)) HBX.out HBY.out HLX.out HLY.out).mono ?_
      rintro e w2 ⟨z, rfl, h1, h2, hE2⟩
      exact ⟨_, rfl, hΦ _ _ ⟨z, rfl⟩ (hC.trans hE2) hE2 ⟨z, rfl, by rw [h1, HV.out], h2.lower (hE0.trans hC).size⟩⟩
    obtain ⟨z1, rfl⟩ := hv
    go_simp; refine hK _ ?_; clear hK K
    iterate 1 (refine ftext_det rfl rfl ?_; apply Exists.intro; refine ⟨fun w hC => ?_, fun K hK => ?_⟩; (first | (go_simp; exact rfl) | (go_simp; rw [G0.out _ hC]; exact ⟨rfl, rfl⟩) | (go_simp; rw [G1.out _ hC]; exact ⟨rfl, rfl⟩) | (go_simp; rw [G2.out _ hC]; exact ⟨rfl, rfl⟩) | (go_simp; rw [G3.out _ hC]; exact ⟨rfl, rfl⟩)); go_simp; refine hK _ ?_; clear hK K)
    refine ftext_nil ?_
    rintro w1 hC ⟨z, hz, h1, h2⟩ _
    have hz' : Value.slice z1.A z1.l.length z1.c = Value.slice z.A z.l.length z.c := hz
    simp only [hz', List.drop_succ_cons, List.drop_zero]
    refine wplIn_store Open.wide 160 (.tmp 4) (.tmp 17) rfl rfl (w.heap.size + 2) 0 160 [.bool false, .slice none 0 0] [.bool s, .slice z.A z.l.length z.c] rfl rfl aggSigned (BZ.ext hC) (by simp) rfl ?_
    intro w2 BR hO
    refine wpListIn_nil ?_
    have HS2 : Shape (fun e => e = 160) w.heap.size w1 w2 := Shape.only (T := fun e => e = 160) (Shape.refl _ _ _) (BZ.ext hC) hO BR rfl rfl (by omega)
    have HO2 := Lib.hid (Go.Hx.Own.shape h2 HS2 (by decide))
    have HEE := Lib.hid (Only.ext (hE0.trans hC) hO (by omega))
    have H1 := Lib.hid h1
    clear h1 h2 hz hz' hO
    go_wp2_with fail
    exact bodyPost_ret (results_c rfl rfl BR aggSigned) rfl ⟨z, by rw [HP.out]; rfl, by rw [H1.out, HP.out], HO2.out, HEE.out⟩
  · have dst : (s == t) = false := by simp [hst]
    by_cases hge : n ≤ m
    · have HP : Hid (plusS s m t n = (s, m - n)) := Lib.hid (by unfold plusS; rw [if_neg hst, if_pos hge])
      have HV : Hid (val 2 x.l - val 2 y.l = m - n) := Lib.hid (by rw [HVX.out, HVY.out])
      have HG := Lib.hid hge
      obtain ⟨od, hod⟩ : ∃ od, ordI m n = od := ⟨_, rfl⟩
      have HO : Hid (ordI (val 2 x.l) (val 2 y.l) = od) := Lib.hid (by rw [HVX.out, HVY.out]; exact hod)
      have hod0 : 0 ≤ od := by rw [← hod]; unfold ordI; rw [if_neg (by omega)]; split <;> omega
      have hod1 : od ≤ 1 := by rw [← hod]; unfold ordI; rw [if_neg (by omega)]; split <;> omega
      clear hst hge hod
      go_enter Tryd.func135, Tryd.ntmps135
      go_wp2_with fail
      refine (ref01_Order x y _ (HX.out.ext (by repeat (first | exact Ext.refl _ | assumption | refine Ext.alloc' ?_ _ | refine Ext.drewN' ?_ _ | refine Ext.drew' ?_ | (refine Ext.trans ?_ (by assumption))))) (HY.out.ext (by repeat (first | exact Ext.refl _ | assumption | refine Ext.alloc' ?_ _ | refine Ext.drewN' ?_ _ | refine Ext.drew' ?_ | (refine Ext.trans ?_ (by assumption))))) HBX.out HBY.out HLX.out HLY.out).mono ?_
      rw [HO.out]
      rintro e w1 ⟨rfl, rfl⟩
      go_wp2_with fail
      obtain ⟨WX, hWX⟩ : ∃ W0, W0 = ((w.alloc (.cells #[.bool s, .slice x.A x.l.length x.c] 160)).alloc (.cells #[.bool t, .slice y.A y.l.length y.c] 160)).alloc (.cells #[.bool false, .slice none 0 0] 160) := ⟨_, rfl⟩
      have B0 : Blk WX w.heap.size 160 [.bool s, .slice x.A x.l.length x.c] := by rw [hWX]; exact Blk.alloc (Blk.alloc (Blk.new rfl) _) _
      have B1 : Blk WX (w.heap.size + 1) 160 [.bool t, .slice y.A y.l.length y.c] := by rw [hWX]; exact Blk.alloc (Blk.new (by simp)) _
      have BZ : Blk WX (w.heap.size + 2) 160 [.bool false, .slice none 0 0] := by rw [hWX]; exact Blk.new (by simp)
      have hE0 : Ext w WX := by rw [hWX]; exact Ext.alloc' (Ext.alloc' (Ext.alloc _ _) _) _
      try rw [← hWX]
      clear hWX
      have G0 : Hid (∀ W, Ext WX W → W.cell? ⟨w.heap.size, 0, none⟩ = some (.bool s)) := Lib.hid fun W hW => hW.cell (B0.cell 0)
      have G1 : Hid (∀ W, Ext WX W → W.cell? ⟨w.heap.size, 1, none⟩ = some (.slice x.A x.l.length x.c)) := Lib.hid fun W hW => hW.cell (B0.cell 1)
      have G2 : Hid (∀ W, Ext WX W → W.cell? ⟨w.heap.size + 1, 0, none⟩ = some (.bool t)) := Lib.hid fun W hW => hW.cell (B1.cell 0)
      have G3 : Hid (∀ W, Ext WX W → W.cell? ⟨w.heap.size + 1, 1, none⟩ = some (.slice y.A y.l.length y.c)) := Lib.hid fun W hW => hW.cell (B1.cell 1)
      refine wp_region_flowTail 8 (Ext WX) (fun _ => True) Ext (fun i => if i = 6 then .row (fun v => ∃ (z : LX Nat), v = .slice z.A z.l.length z.c) (fun v W => ∃ z : LX Nat, v = .slice z.A z.l.length z.c ∧ z.l = digs 2 (m - n) ∧ Go.Hx.Own W w.heap.size 5 1 cU8 (.slice z.A z.l.length z.c) z.l) else .det) [6] (by kernel_rfl) (by kernel_rfl) (by kernel_rfl) (Ext.drew _) trivial (keeps_true _) ?_
      iterate 6 (refine ftext_det rfl rfl ?_; apply Exists.intro; refine ⟨fun w hC => ?_, fun K hK => ?_⟩; (first | (go_simp; exact rfl) | (go_simp; rw [G0.out _ hC]; exact ⟨rfl, rfl⟩) | (go_simp; rw [G1.out _ hC]; exact ⟨rfl, rfl⟩) | (go_simp; rw [G2.out _ hC]; exact ⟨rfl, rfl⟩) | (go_simp; rw [G3.out _ hC]; exact ⟨rfl, rfl⟩)); go_simp; refine hK _ ?_; clear hK K)
      refine ftext_row _ _ rfl rfl ⟨_, ⟨[], none, 0⟩, rfl⟩ (fun v w1 w2 ⟨z, h1, h2, h3⟩ hR => ⟨z, h1, h2, h3.ext hR⟩) (fun w1 hC hJ Φ hΦ => ?_) (fun v hv K hK => ?_)
      · go_simp
        refine (ref01_Minus x y _ (HX.out.ext (hE0.trans hC)) (HY.out.ext (hE0.trans hC)) HBX.out HBY.out HLX.out (by rw [HM.out, HN.out]; exact HLN.out _ _ HG.out) (by rw [HVX.out, HVY.out]; exact HG.out)).mono ?_
        rintro e w2 ⟨z, rfl, h1, h2, hE2⟩
        exact ⟨_, rfl, hΦ _ _ ⟨z, rfl⟩ (hC.trans hE2) hE2 ⟨z, rfl, by rw [h1, HV.out], h2.lower (hE0.trans hC).size⟩⟩
      obtain ⟨z1, rfl⟩ := hv
      go_simp; refine hK _ ?_; clear hK K
      iterate 1 (refine ftext_det rfl rfl ?_; apply Exists.intro; refine ⟨fun w hC => ?_, fun K hK => ?_⟩; (first | (go_simp; exact rfl) | (go_simp; rw [G0.out _ hC]; exact ⟨rfl, rfl⟩) | (go_simp; rw [G1.out _ hC]; exact ⟨rfl, rfl⟩) | (go_simp; rw [G2.out _ hC]; exact ⟨rfl, rfl⟩) | (go_simp; rw [G3.out _ hC]; exact ⟨rfl, rfl⟩)); go_simp; refine hK _ ?_; clear hK K)
      refine ftext_nil ?_
      rintro w1 hC ⟨z, hz, h1, h2⟩ _
      have hz' : Value.slice z1.A z1.l.length z1.c = Value.slice z.A z.l.length z.c := hz
      simp only [hz', List.drop_succ_cons, List.drop_zero]
      refine wplIn_store Open.wide 160 (.tmp 4) (.tmp 31) rfl rfl (w.heap.size + 2) 0 160 [.bool false, .slice none 0 0] [.bool s, .slice z.A z.l.length z.c] rfl rfl aggSigned (BZ.ext hC) (by simp) rfl ?_
      intro w2 BR hO
      refine wpListIn_nil ?_
      have HS2 : Shape (fun e => e = 160) w.heap.size w1 w2 := Shape.only (T := fun e => e = 160) (Shape.refl _ _ _) (BZ.ext hC) hO BR rfl rfl (by omega)
      have HO2 := Lib.hid (Go.Hx.Own.shape h2 HS2 (by decide))
      have HEE := Lib.hid (Only.ext (hE0.trans hC) hO (by omega))
      have H1 := Lib.hid h1
      clear h1 h2 hz hz' hO
      go_wp2_with fail
      exact bodyPost_ret (results_c rfl rfl BR aggSigned) rfl ⟨z, by rw [HP.out]; rfl, by rw [H1.out, HP.out], HO2.out, HEE.out⟩
    · have HP : Hid (plusS s m t n = (t, n - m)) := Lib.hid (by unfold plusS; rw [if_neg hst, if_neg hge])
      have HV : Hid (val 2 y.l - val 2 x.l = n - m) := Lib.hid (by rw [HVX.out, HVY.out])
      have HG := Lib.hid (show m ≤ n by omega)
      obtain ⟨od, hod⟩ : ∃ od, ordI m n = od := ⟨_, rfl⟩
      have HO : Hid (ordI (val 2 x.l) (val 2 y.l) = od) := Lib.hid (by rw [HVX.out, HVY.out]; exact hod)
      have hod0 : od < 0 := by rw [← hod]; unfold ordI; rw [if_pos (by omega)]; omega
      clear hst hge hod
      go_enter Tryd.func135, Tryd.ntmps135
      go_wp2_with fail
      refine (ref01_Order x y _ (HX.out.ext (by repeat (first | exact Ext.refl _ | assumption | refine Ext.alloc' ?_ _ | refine Ext.drewN' ?_ _ | refine Ext.drew' ?_ | (refine Ext.trans ?_ (by assumption))))) (HY.out.ext (by repeat (first | exact Ext.refl _ | assumption | refine Ext.alloc' ?_ _ | refine Ext.drewN' ?_ _ | refine Ext.drew' ?_ | (refine Ext.trans ?_ (by assumption))))) HBX.out HBY.out HLX.out HLY.out).mono ?_
      rw [HO.out]
      rintro e w1 ⟨rfl, rfl⟩
      go_wp2_with fail
      obtain ⟨WX, hWX⟩ : ∃ W0, W0 = ((w.alloc (.cells #[.bool s, .slice x.A x.l.length x.c] 160)).alloc (.cells #[.bool t, .slice y.A y.l.length y.c] 160)).alloc (.cells #[.bool false, .slice none 0 0] 160) := ⟨_, rfl⟩
      have B0 : Blk WX w.heap.size 160 [.bool s, .slice x.A x.l.length x.c] := by rw [hWX]; exact Blk.alloc (Blk.alloc (Blk.new rfl) _) _
      have B1 : Blk WX (w.heap.size + 1) 160 [.bool t, .slice y.A y.l.length y.c] := by rw [hWX]; exact Blk.alloc (Blk.new (by simp)) _
      have BZ : Blk WX (w.heap.size + 2) 160 [.bool false, .slice none 0 0] := by rw [hWX]; exact Blk.new (by simp)
      have hE0 : Ext w WX := by rw [hWX]; exact Ext.alloc' (Ext.alloc' (Ext.alloc _ _) _) _
      try rw [← hWX]
      clear hWX
      have G0 : Hid (∀ W, Ext WX W → W.cell? ⟨w.heap.size, 0, none⟩ = some (.bool s)) := Lib.hid fun W hW => hW.cell (B0.cell 0)
      have G1 : Hid (∀ W, Ext WX W → W.cell? ⟨w.heap.size, 1, none⟩ = some (.slice x.A x.l.length x.c)) := Lib.hid fun W hW => hW.cell (B0.cell 1)
      have G2 : Hid (∀ W, Ext WX W → W.cell? ⟨w.heap.size + 1, 0, none⟩ = some (.bool t)) := Lib.hid fun W hW => hW.cell (B1.cell 0)
      have G3 : Hid (∀ W, Ext WX W → W.cell? ⟨w.heap.size + 1, 1, none⟩ = some (.slice y.A y.l.length y.c)) := Lib.hid fun W hW => hW.cell (B1.cell 1)
      refine wp_region_flowTail 8 (Ext WX) (fun _ => True) Ext (fun i => if i = 6 then .row (fun v => ∃ (z : LX Nat), v = .slice z.A z.l.length z.c) (fun v W => ∃ z : LX Nat, v = .slice z.A z.l.length z.c ∧ z.l = digs 2 (n - m) ∧ Go.Hx.Own W w.heap.size 5 1 cU8 (.slice z.A z.l.length z.c) z.l) else .det) [6] (by kernel_rfl) (by kernel_rfl) (by kernel_rfl) (Ext.drew _) trivial (keeps_true _) ?_
      iterate 6 (refine ftext_det rfl rfl ?_; apply Exists.intro; refine ⟨fun w hC => ?_, fun K hK => ?_⟩; (first | (go_simp; exact rfl) | (go_simp; rw [G0.out _ hC]; exact ⟨rfl, rfl⟩) | (go_simp; rw [G1.out _ hC]; exact ⟨rfl, rfl⟩) | (go_simp; rw [G2.out _ hC]; exact ⟨rfl, rfl⟩) | (go_simp; rw [G3.out _ hC]; exact ⟨rfl, rfl⟩)); go_simp; refine hK _ ?_; clear hK K)
      refine ftext_row _ _ rfl rfl ⟨_, ⟨[], none, 0⟩, rfl⟩ (fun v w1 w2 ⟨z, h1, h2, h3⟩ hR => ⟨z, h1, h2, h3.ext hR⟩) (fun w1 hC hJ Φ hΦ => ?_) (fun v hv K hK => ?_)
      · go_simp
        refine (ref01_Minus y x _ (HY.out.ext (hE0.trans hC)) (HX.out.ext (hE0.trans hC)) HBY.out HBX.out HLY.out (by rw [HM.out, HN.out]; exact HLN.out _ _ HG.out) (by rw [HVX.out, HVY.out]; exact HG.out)).mono ?_
        rintro e w2 ⟨z, rfl, h1, h2, hE2⟩
        exact ⟨_, rfl, hΦ _ _ ⟨z, rfl⟩ (hC.trans hE2) hE2 ⟨z, rfl, by rw [h1, HV.out], h2.lower (hE0.trans hC).size⟩⟩
      obtain ⟨z1, rfl⟩ := hv
      go_simp; refine hK _ ?_; clear hK K
      iterate 1 (refine ftext_det rfl rfl ?_; apply Exists.intro; refine ⟨fun w hC => ?_, fun K hK => ?_⟩; (first | (go_simp; exact rfl) | (go_simp; rw [G0.out _ hC]; exact ⟨rfl, rfl⟩) | (go_simp; rw [G1.out _ hC]; exact ⟨rfl, rfl⟩) | (go_simp; rw [G2.out _ hC]; exact ⟨rfl, rfl⟩) | (go_simp; rw [G3.out _ hC]; exact ⟨rfl, rfl⟩)); go_simp; refine hK _ ?_; clear hK K)
      refine ftext_nil ?_
      rintro w1 hC ⟨z, hz, h1, h2⟩ _
      have hz' : Value.slice z1.A z1.l.length z1.c = Value.slice z.A z.l.length z.c := hz
      simp only [hz', List.drop_succ_cons, List.drop_zero]
      refine wplIn_store Open.wide 160 (.tmp 4) (.tmp 39) rfl rfl (w.heap.size + 2) 0 160 [.bool false, .slice none 0 0] [.bool t, .slice z.A z.l.length z.c] rfl rfl aggSigned (BZ.ext hC) (by simp) rfl ?_
      intro w2 BR hO
      refine wpListIn_nil ?_
      have HS2 : Shape (fun e => e = 160) w.heap.size w1 w2 := Shape.only (T := fun e => e = 160) (Shape.refl _ _ _) (BZ.ext hC) hO BR rfl rfl (by omega)
      have HO2 := Lib.hid (Go.Hx.Own.shape h2 HS2 (by decide))
      have HEE := Lib.hid (Only.ext (hE0.trans hC) hO (by omega))
      have H1 := Lib.hid h1
      clear h1 h2 hz hz' hO
      go_wp2_with fail
      exact bodyPost_ret (results_c rfl rfl BR aggSigned) rfl ⟨z, by rw [HP.out]; rfl, by rw [H1.out, HP.out], HO2.out, HEE.out⟩
end Go.Proofs.YtgcbnagfdfgpnaaDoor
