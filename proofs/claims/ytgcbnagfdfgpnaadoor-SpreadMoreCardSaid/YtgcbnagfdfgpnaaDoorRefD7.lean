/- The reference's dyads: differences. Printed by gen_refd7.py. -/
import Derived.Test.YtgcbnagfdfgpnaaDoorRefD6
namespace Go.Hx
theorem mayD_minus {x : PDyad} (h : mayD x) : mayD (minusD x) := by
  unfold minusD
  split
  · exact h
  · rename_i hne
    refine ⟨h.1, h.2.1, ?_⟩
    have h2 := h.2.2
    rw [if_neg hne] at h2
    show if x.limbs = [] then _ else _
    rw [if_neg hne]
    exact h2
theorem subD_add {x y : PDyad} (hx : mayD x) (hy : mayD y) : subD x y = addD x (minusD y) := by
  unfold subD addD
  rw [if_pos ⟨hx, hy⟩, if_pos ⟨hx, mayD_minus hy⟩]
end Go.Hx
namespace Go.Proofs.YtgcbnagfdfgpnaaDoor
open Go.RowKit Go.Hx
attribute [local go_sem] detUpon undIn
set_option maxRecDepth 100000 in
set_option maxHeartbeats 4000000 in
theorem ref02_Sub (x y : XDyad) (w : World) (hx : x.ok w w.heap.size) (hy : y.ok w w.heap.size) (hbx : Limbs x.limbs.l) (hby : Limbs y.limbs.l) :
    Calls Tryd.prog 40 #[.agg #[.bool x.neg, .slice x.limbs.A x.limbs.l.length x.limbs.c, .int .i64 x.exp], .agg #[.bool y.neg, .slice y.limbs.A y.limbs.l.length y.limbs.c, .int .i64 y.exp]] w fun e w' => ∃ r : XDyad, e = .returned (.tuple #[.agg #[.bool r.neg, .slice r.limbs.A r.limbs.l.length r.limbs.c, .int .i64 r.exp], .int .i64 (subD x.data y.data).2]) ∧ r.data = (subD x.data y.data).1 ∧ Go.Hx.Own w' w.heap.size 33 1 cU32 (.slice r.limbs.A r.limbs.l.length r.limbs.c) r.limbs.l ∧ Ext w w' := by
  have HX := Lib.hid hx
  have HY := Lib.hid hy
  have HBX := Lib.hid hbx
  have HBY := Lib.hid hby
  clear hx hy hbx hby
  by_cases hmx : mayD x.data
  · by_cases hmy : mayD y.data
    · obtain ⟨sm, hsm⟩ : ∃ sm, addD x.data (minusD y.data) = sm := ⟨_, rfl⟩
      have HSM := Lib.hid hsm
      have HR : Hid (subD x.data y.data = sm) := Lib.hid (by rw [subD_add hmx hmy]; exact hsm)
      have dm : decide (mayD x.data) = true := decide_eq_true hmx
      have dm2 : decide (mayD y.data) = true := decide_eq_true hmy
      clear hmx hmy hsm
      go_enter Tryd.func40, Tryd.ntmps40
      have BX0 : Blk (((w.alloc (.cells #[.bool x.neg, .slice x.limbs.A x.limbs.l.length x.limbs.c, .int .i64 x.exp] 24)).alloc (.cells #[.bool y.neg, .slice y.limbs.A y.limbs.l.length y.limbs.c, .int .i64 y.exp] 24)).alloc (.cells #[.bool false, .slice none 0 0, .int .i64 0] 24)) w.heap.size 24 [.bool x.neg, .slice x.limbs.A x.limbs.l.length x.limbs.c, .int .i64 x.exp] := Blk.alloc (Blk.alloc (Blk.new rfl) _) _
      have BY0 : Blk (((w.alloc (.cells #[.bool x.neg, .slice x.limbs.A x.limbs.l.length x.limbs.c, .int .i64 x.exp] 24)).alloc (.cells #[.bool y.neg, .slice y.limbs.A y.limbs.l.length y.limbs.c, .int .i64 y.exp] 24)).alloc (.cells #[.bool false, .slice none 0 0, .int .i64 0] 24)) (w.heap.size + 1) 24 [.bool y.neg, .slice y.limbs.A y.limbs.l.length y.limbs.c, .int .i64 y.exp] := Blk.alloc (Blk.new (by simp)) _
      go_wp2_with (first | ((with_reducible refine wpl_load 24 (.tmp 2) ?_ ?_ (w.heap.size) 0 [.bool x.neg, .slice x.limbs.A x.limbs.l.length x.limbs.c, .int .i64 x.exp] ?_ ?_ ?_ ?_); (exact rfl); (exact rfl); (exact rfl); (exact aggDyad); (exact BX0.row)) | fail)
      refine (ref02_May x _ (HX.out.ext (by repeat (first | exact Ext.refl _ | assumption | refine Ext.alloc' ?_ _ | refine Ext.drewN' ?_ _ | refine Ext.drew' ?_ | (refine Ext.trans ?_ (by assumption)))))).mono ?_
      rintro e w1 ⟨rfl, hE1⟩
      rw [dm]
      have hE0 : Ext w w1 := (Ext.alloc' (Ext.alloc' (Ext.alloc _ _) _) _).trans hE1
      have BY1 : Blk w1 (w.heap.size + 1) 24 [.bool y.neg, .slice y.limbs.A y.limbs.l.length y.limbs.c, .int .i64 y.exp] := BY0.ext hE1
      go_wp2_with (first | ((with_reducible refine wpl_load 24 (.tmp 3) ?_ ?_ (w.heap.size + 1) 0 [.bool y.neg, .slice y.limbs.A y.limbs.l.length y.limbs.c, .int .i64 y.exp] ?_ ?_ ?_ ?_); (exact rfl); (exact rfl); (exact rfl); (exact aggDyad); (exact BY1.row)) | fail)
      refine (ref02_May y _ (HY.out.ext hE0)).mono ?_
      rintro e w2 ⟨rfl, hE2⟩
      rw [dm2]
      have BX : Blk w2 w.heap.size 24 [.bool x.neg, .slice x.limbs.A x.limbs.l.length x.limbs.c, .int .i64 x.exp] := (BX0.ext hE1).ext hE2
      have BY : Blk w2 (w.heap.size + 1) 24 [.bool y.neg, .slice y.limbs.A y.limbs.l.length y.limbs.c, .int .i64 y.exp] := BY1.ext hE2
      have BZ : Blk w2 (w.heap.size + 2) 24 [.bool false, .slice none 0 0, .int .i64 0] := ((Blk.new (by simp)).ext hE1).ext hE2
      have hE0 := hE0.trans hE2
      clear BX0 BY0 BY1 hE1 hE2 dm dm2
      go_wp2_with fail
      obtain ⟨WX, hWX⟩ : ∃ W0, W0 = w2 := ⟨_, rfl⟩
      rw [← hWX] at BX BY BZ hE0 ⊢
      clear hWX
      refine wp_region_flowTail 9 (Ext WX) (fun _ => True) Ext (fun i => if i = 2 then .seq else if i = 3 then .seq else if i = 7 then .free (fun v => ∃ g : Nat, v = .pointer (some ⟨g, 0, none⟩)) (fun v W => ∃ g : Nat, v = .pointer (some ⟨g, 0, none⟩) ∧ WX.heap.size ≤ g ∧ Blk W g 24 [.bool false, .slice none 0 0, .int .i64 0]) else if i = 8 then .last else .det) [2, 3] (by kernel_rfl) (by kernel_rfl) (by kernel_rfl) (Ext.drew _) trivial (keeps_true _) ?_
      refine ftext_load_row 24 _ rfl rfl rfl (w.heap.size) 0 [.bool x.neg, .slice x.limbs.A x.limbs.l.length x.limbs.c, .int .i64 x.exp] rfl aggDyad (fun w hC => (BX.ext hC).row) (fun K hK => ?_)
      go_simp; refine hK _ ?_; clear hK K
      refine ftext_load_row 24 _ rfl rfl rfl (w.heap.size + 1) 0 [.bool y.neg, .slice y.limbs.A y.limbs.l.length y.limbs.c, .int .i64 y.exp] rfl aggDyad (fun w hC => (BY.ext hC).row) (fun K hK => ?_)
      go_simp; refine hK _ ?_; clear hK K
      refine ftext_seq (fun v => ∃ (y : XDyad), v = .agg #[.bool y.neg, .slice y.limbs.A y.limbs.l.length y.limbs.c, .int .i64 y.exp]) (fun v _ => ∃ r : XDyad, v = .agg #[.bool r.neg, .slice r.limbs.A r.limbs.l.length r.limbs.c, .int .i64 r.exp] ∧ r.data = minusD y.data ∧ r.limbs = y.limbs) rfl rfl ?_ (fun v w1 w2 h _ => h) (fun w1 hC hJ Φ hΦ => ?_) (fun v hv K hK => ?_)
      · exact ⟨_, XDyad.zero, rfl⟩
      · go_simp
        refine (ref02_Minus y _).mono ?_
        rintro e w2 ⟨r, rfl, h1, h2, _, hE2⟩
        exact ⟨_, rfl, hΦ _ _ ⟨r, rfl⟩ (hC.trans hE2) hE2 ⟨r, rfl, h1, h2⟩⟩
      obtain ⟨y0, rfl⟩ := hv
      go_simp; refine hK _ ?_; clear hK K
      refine ftext_seq (fun v => ∃ (y : XDyad), v = .tuple #[.agg #[.bool y.neg, .slice y.limbs.A y.limbs.l.length y.limbs.c, .int .i64 y.exp], .int .i64 (sm.2)]) (fun v W => ∃ y : XDyad, v = .tuple #[.agg #[.bool y.neg, .slice y.limbs.A y.limbs.l.length y.limbs.c, .int .i64 y.exp], .int .i64 (sm.2)] ∧ y.data = sm.1 ∧ Go.Hx.Own W w.heap.size 33 1 cU32 (.slice y.limbs.A y.limbs.l.length y.limbs.c) y.limbs.l) rfl rfl ?_ (fun v w1 w2 ⟨z, h1, h2, h3⟩ hR => ⟨z, h1, h2, h3.ext hR⟩) (fun w1 hC hJ Φ hΦ => ?_) (fun v hv K hK => ?_)
      · exact ⟨_, XDyad.zero, rfl⟩
      · obtain ⟨r, hr, h1, h2⟩ := hJ
        rw [hr]
        have H1 := Lib.hid h1
        have H2 := Lib.hid h2
        clear h1 h2
        go_simp
        refine (ref02_Add x r _ (HX.out.ext (hE0.trans hC)) ⟨by rw [H2.out]; exact (HY.out.ext (hE0.trans hC)).limbs⟩ HBX.out (by rw [H2.out]; exact HBY.out)).mono ?_
        rintro e w2 ⟨z, rfl, h3, h4, hE2⟩
        rw [H1.out, HSM.out] at h3 ⊢
        exact ⟨_, rfl, hΦ _ _ ⟨z, rfl⟩ (hC.trans hE2) hE2 ⟨z, rfl, h3, h4.lower (hE0.trans hC).size⟩⟩
      obtain ⟨y1, rfl⟩ := hv
      go_simp; refine hK _ ?_; clear hK K
      (refine ftext_det rfl rfl ?_; apply Exists.intro; refine ⟨fun w hC => ?_, fun K hK => ?_⟩; (first | (go_simp; exact rfl) | (go_simp; exact ⟨rfl, rfl⟩)); go_simp; refine hK _ ?_; clear hK K)
      (refine ftext_det rfl rfl ?_; apply Exists.intro; refine ⟨fun w hC => ?_, fun K hK => ?_⟩; (first | (go_simp; exact rfl) | (go_simp; exact ⟨rfl, rfl⟩)); go_simp; refine hK _ ?_; clear hK K)
      (refine ftext_det rfl rfl ?_; apply Exists.intro; refine ⟨fun w hC => ?_, fun K hK => ?_⟩; (first | (go_simp; exact rfl) | (go_simp; exact ⟨rfl, rfl⟩)); go_simp; refine hK _ ?_; clear hK K)
      refine ftext_free _ _ rfl rfl ⟨_, 0, rfl⟩ (fun v w1 w2 ⟨g, h1, h2, h3⟩ hR => ⟨g, h1, h2, h3.ext hR⟩) (fun w1 hC Φ hΦ => ?_) (fun v hv K hK => ?_)
      · go_simp
        exact hΦ _ _ ⟨_, rfl⟩ (hC.trans (Ext.alloc _ _)) (Ext.alloc _ _) ⟨_, rfl, hC.size, Blk.new rfl⟩
      obtain ⟨g1, rfl⟩ := hv
      go_simp; refine hK _ ?_; clear hK K
      refine ftext_store 24 _ _ (fun W => ∃ y : XDyad, Blk W g1 24 [.bool y.neg, .slice y.limbs.A y.limbs.l.length y.limbs.c, .int .i64 y.exp] ∧ y.data = sm.1 ∧ Go.Hx.Own W w.heap.size 33 1 cU32 (.slice y.limbs.A y.limbs.l.length y.limbs.c) y.limbs.l ∧ WX.heap.size ≤ g1) rfl rfl rfl (fun w1 hC hJ hF => ?_) (fun K hK => ?_)
      · obtain ⟨y, hy, h1, h2⟩ := hJ
        obtain ⟨_, g, hg, hgs, Bg⟩ := hF
        have hgg : g1 = g := congrArg (fun v : Value => match v with | .pointer (some p) => p.block | _ => 0) hg
        subst hgg
        have hyc : Value.agg #[.bool y1.neg, .slice y1.limbs.A y1.limbs.l.length y1.limbs.c, .int .i64 y1.exp] = Value.agg #[.bool y.neg, .slice y.limbs.A y.limbs.l.length y.limbs.c, .int .i64 y.exp] := congrArg (fun v : Value => match v with | .tuple a => a.getD 0 undef | _ => v) hy
        refine ⟨g1, 24, [.bool false, .slice none 0 0, .int .i64 0], [.bool y.neg, .slice y.limbs.A y.limbs.l.length y.limbs.c, .int .i64 y.exp], rfl, hyc, aggDyad, Bg, rfl, rfl, fun w' BR hO => ?_⟩
        have HS2 : Shape (fun e => e = 24) w.heap.size w1 w' := Shape.only (T := fun e => e = 24) (Shape.refl _ _ _) Bg hO BR rfl rfl (by have := hE0.size; omega)
        exact ⟨Only.ext hC hO hgs, y, BR, h1, Go.Hx.Own.shape h2 HS2 (by decide), hgs⟩
      go_simp; refine hK _ ?_; clear hK K
      refine ftext_nil ?_
      rintro w1 hC ⟨y, BY, hyd, hyo, hgs⟩ _
      simp only [List.drop_succ_cons, List.drop_zero]
      refine wplIn_assign Open.wide _ rfl rfl ?_
      refine wpListIn_nil ?_
      have HO1 := Lib.hid hyo
      have HD1 := Lib.hid hyd
      have HZ1 := Lib.hid (BZ.ext hC)
      have HE1 := Lib.hid (hE0.trans hC)
      clear hyo hyd hgs hC
      go_wp2_with (first | ((with_reducible refine wpl_load 24 (.tmp 6) ?_ ?_ (g1) 0 [.bool y.neg, .slice y.limbs.A y.limbs.l.length y.limbs.c, .int .i64 y.exp] ?_ ?_ ?_ ?_); (exact rfl); (exact rfl); (exact rfl); (exact aggDyad); (exact BY.row)) | ((with_reducible refine wpl_store 24 (.tmp 4) (.tmp 24) ?_ ?_ (w.heap.size + 2) 0 24 [.bool false, .slice none 0 0, .int .i64 0] [.bool y.neg, .slice y.limbs.A y.limbs.l.length y.limbs.c, .int .i64 y.exp] ?_ ?_ ?_ ?_ ?_ ?_ ?_); (exact rfl); (exact rfl); (exact rfl); (exact rfl); (exact aggDyad); (exact HZ1.out); (exact by simp); (exact rfl); (intro w4 BR2 hO2)) | fail)
      have HS4 : Shape (fun e => e = 24) w.heap.size _ w4 := Shape.only (T := fun e => e = 24) (Shape.refl _ _ _) HZ1.out hO2 BR2 rfl rfl (by omega)
      exact bodyPost_ret (results_ct rfl rfl BR2 aggDyad) rfl ⟨y, by rw [HR.out] <;> rfl, by rw [HD1.out, HR.out], Go.Hx.Own.shape HO1.out HS4 (by decide), Only.ext HE1.out hO2 (by omega)⟩
    · have dm : decide (mayD x.data) = true := decide_eq_true hmx
      have dm2 : decide (mayD y.data) = false := decide_eq_false hmy
      have HR : Hid (subD x.data y.data = (PDyad.zero, 8)) := Lib.hid (by unfold subD; rw [if_neg (fun h => hmy h.2)])
      clear hmx hmy
      go_enter Tryd.func40, Tryd.ntmps40
      have BX0 : Blk (((w.alloc (.cells #[.bool x.neg, .slice x.limbs.A x.limbs.l.length x.limbs.c, .int .i64 x.exp] 24)).alloc (.cells #[.bool y.neg, .slice y.limbs.A y.limbs.l.length y.limbs.c, .int .i64 y.exp] 24)).alloc (.cells #[.bool false, .slice none 0 0, .int .i64 0] 24)) w.heap.size 24 [.bool x.neg, .slice x.limbs.A x.limbs.l.length x.limbs.c, .int .i64 x.exp] := Blk.alloc (Blk.alloc (Blk.new rfl) _) _
      have BY0 : Blk (((w.alloc (.cells #[.bool x.neg, .slice x.limbs.A x.limbs.l.length x.limbs.c, .int .i64 x.exp] 24)).alloc (.cells #[.bool y.neg, .slice y.limbs.A y.limbs.l.length y.limbs.c, .int .i64 y.exp] 24)).alloc (.cells #[.bool false, .slice none 0 0, .int .i64 0] 24)) (w.heap.size + 1) 24 [.bool y.neg, .slice y.limbs.A y.limbs.l.length y.limbs.c, .int .i64 y.exp] := Blk.alloc (Blk.new (by simp)) _
      go_wp2_with (first | ((with_reducible refine wpl_load 24 (.tmp 2) ?_ ?_ (w.heap.size) 0 [.bool x.neg, .slice x.limbs.A x.limbs.l.length x.limbs.c, .int .i64 x.exp] ?_ ?_ ?_ ?_); (exact rfl); (exact rfl); (exact rfl); (exact aggDyad); (exact BX0.row)) | fail)
      refine (ref02_May x _ (HX.out.ext (by repeat (first | exact Ext.refl _ | assumption | refine Ext.alloc' ?_ _ | refine Ext.drewN' ?_ _ | refine Ext.drew' ?_ | (refine Ext.trans ?_ (by assumption)))))).mono ?_
      rintro e w1 ⟨rfl, hE1⟩
      rw [dm]
      have hE0 : Ext w w1 := (Ext.alloc' (Ext.alloc' (Ext.alloc _ _) _) _).trans hE1
      have BY1 : Blk w1 (w.heap.size + 1) 24 [.bool y.neg, .slice y.limbs.A y.limbs.l.length y.limbs.c, .int .i64 y.exp] := BY0.ext hE1
      go_wp2_with (first | ((with_reducible refine wpl_load 24 (.tmp 3) ?_ ?_ (w.heap.size + 1) 0 [.bool y.neg, .slice y.limbs.A y.limbs.l.length y.limbs.c, .int .i64 y.exp] ?_ ?_ ?_ ?_); (exact rfl); (exact rfl); (exact rfl); (exact aggDyad); (exact BY1.row)) | fail)
      refine (ref02_May y _ (HY.out.ext hE0)).mono ?_
      rintro e w2 ⟨rfl, hE2⟩
      rw [dm2]
      have BZ : Blk w2 (w.heap.size + 2) 24 [.bool false, .slice none 0 0, .int .i64 0] := ((Blk.new (by simp)).ext hE1).ext hE2
      have hE0 := hE0.trans hE2
      clear BX0 BY0 BY1 hE1 hE2 dm dm2
      go_wp2_with (first | ((with_reducible refine wpl_store 24 (.tmp 4) (.tmp 16) ?_ ?_ (w.heap.size + 2) 0 24 [.bool false, .slice none 0 0, .int .i64 0] [.bool false, .slice none 0 0, .int .i64 0] ?_ ?_ ?_ ?_ ?_ ?_ ?_); (exact rfl); (exact rfl); (exact rfl); (exact rfl); (exact aggDyad); (exact BZ); (exact by simp); (exact rfl); (intro w4 BR2 hO2)) | fail)
      exact bodyPost_ret (results_ct rfl rfl BR2 aggDyad) rfl ⟨XDyad.zero, by rw [HR.out] <;> rfl, by rw [HR.out] <;> rfl, Go.Hx.Own.nil _ _ _ _ _, Only.ext hE0 hO2 (by omega)⟩
  · have dm : decide (mayD x.data) = false := decide_eq_false hmx
    have HR : Hid (subD x.data y.data = (PDyad.zero, 8)) := Lib.hid (by unfold subD; rw [if_neg (fun h => hmx h.1)])
    clear hmx
    go_enter Tryd.func40, Tryd.ntmps40
    have BX0 : Blk (((w.alloc (.cells #[.bool x.neg, .slice x.limbs.A x.limbs.l.length x.limbs.c, .int .i64 x.exp] 24)).alloc (.cells #[.bool y.neg, .slice y.limbs.A y.limbs.l.length y.limbs.c, .int .i64 y.exp] 24)).alloc (.cells #[.bool false, .slice none 0 0, .int .i64 0] 24)) w.heap.size 24 [.bool x.neg, .slice x.limbs.A x.limbs.l.length x.limbs.c, .int .i64 x.exp] := Blk.alloc (Blk.alloc (Blk.new rfl) _) _
    have BY0 : Blk (((w.alloc (.cells #[.bool x.neg, .slice x.limbs.A x.limbs.l.length x.limbs.c, .int .i64 x.exp] 24)).alloc (.cells #[.bool y.neg, .slice y.limbs.A y.limbs.l.length y.limbs.c, .int .i64 y.exp] 24)).alloc (.cells #[.bool false, .slice none 0 0, .int .i64 0] 24)) (w.heap.size + 1) 24 [.bool y.neg, .slice y.limbs.A y.limbs.l.length y.limbs.c, .int .i64 y.exp] := Blk.alloc (Blk.new (by simp)) _
    go_wp2_with (first | ((with_reducible refine wpl_load 24 (.tmp 2) ?_ ?_ (w.heap.size) 0 [.bool x.neg, .slice x.limbs.A x.limbs.l.length x.limbs.c, .int .i64 x.exp] ?_ ?_ ?_ ?_); (exact rfl); (exact rfl); (exact rfl); (exact aggDyad); (exact BX0.row)) | fail)
    refine (ref02_May x _ (HX.out.ext (by repeat (first | exact Ext.refl _ | assumption | refine Ext.alloc' ?_ _ | refine Ext.drewN' ?_ _ | refine Ext.drew' ?_ | (refine Ext.trans ?_ (by assumption)))))).mono ?_
    rintro e w1 ⟨rfl, hE1⟩
    rw [dm]
    have hE0 : Ext w w1 := (Ext.alloc' (Ext.alloc' (Ext.alloc _ _) _) _).trans hE1
    have BZ : Blk w1 (w.heap.size + 2) 24 [.bool false, .slice none 0 0, .int .i64 0] := (Blk.new (by simp)).ext hE1
    clear BX0 BY0 hE1 dm
    go_wp2_with (first | ((with_reducible refine wpl_store 24 (.tmp 4) (.tmp 16) ?_ ?_ (w.heap.size + 2) 0 24 [.bool false, .slice none 0 0, .int .i64 0] [.bool false, .slice none 0 0, .int .i64 0] ?_ ?_ ?_ ?_ ?_ ?_ ?_); (exact rfl); (exact rfl); (exact rfl); (exact rfl); (exact aggDyad); (exact BZ); (exact by simp); (exact rfl); (intro w4 BR2 hO2)) | fail)
    exact bodyPost_ret (results_ct rfl rfl BR2 aggDyad) rfl ⟨XDyad.zero, by rw [HR.out] <;> rfl, by rw [HR.out] <;> rfl, Go.Hx.Own.nil _ _ _ _ _, Only.ext hE0 hO2 (by omega)⟩
end Go.Proofs.YtgcbnagfdfgpnaaDoor
