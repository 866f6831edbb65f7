/- The reference's dyads: halves. Printed by gen_refd5.py. -/
import Derived.Test.YtgcbnagfdfgpnaaDoorRefD4
import Derived.Test.YtgcbnagfdfgpnaaDoorFlowS
namespace Go.Proofs.YtgcbnagfdfgpnaaDoor
open Go.RowKit Go.Hx
attribute [local go_sem] detUpon undIn
set_option maxRecDepth 100000 in
set_option maxHeartbeats 4000000 in
theorem ref02_Half (x : XDyad) (w : World) (hx : x.ok w w.heap.size) (hb : Limbs x.limbs.l) :
    Calls Tryd.prog 39 #[.agg #[.bool x.neg, .slice x.limbs.A x.limbs.l.length x.limbs.c, .int .i64 x.exp]] w fun e w' => ∃ y : XDyad, e = .returned (.tuple #[.agg #[.bool y.neg, .slice y.limbs.A y.limbs.l.length y.limbs.c, .int .i64 y.exp], .int .i64 (halfD x.data).2]) ∧ y.data = (halfD x.data).1 ∧ Go.Hx.Own w' w.heap.size 33 1 cU32 (.slice y.limbs.A y.limbs.l.length y.limbs.c) y.limbs.l ∧ Ext w w' := by
  have HX := Lib.hid hx
  have HB := Lib.hid hb
  clear hx hb
  by_cases hmay : mayD x.data
  · obtain ⟨ng, ls, ex⟩ := x
    obtain ⟨j, rfl⟩ : ∃ j : Nat, ex = (j : Int) := ⟨ex.toNat, by have := hmay.2.1.1; simp only [XDyad.data] at this; omega⟩
    have hj : j ≤ 1024 := by have := hmay.2.1.2; simp only [XDyad.data] at this; omega
    obtain ⟨j1, hj1⟩ : ∃ j1 : Nat, j + 1 = j1 := ⟨_, rfl⟩
    have HJ1 : Hid (j1 ≤ 3000) := Lib.hid (by omega)
    have HLL : Hid (ls.l.length ≤ 40) := Lib.hid hmay.1.1
    have HR : Hid (halfD (⟨ng, ls, (j : Int)⟩ : XDyad).data = formD ng j1 (val B32 ls.l)) := Lib.hid (by unfold halfD; rw [if_pos hmay, ← hj1]; rfl)
    have HNV : Hid (numD (⟨ng, ls, (j : Int)⟩ : XDyad).data j = val B32 ls.l) := Lib.hid (by simp [numD, XDyad.data])
    have HLen : Hid ((digs 2 (val B32 ls.l)).length ≤ 100000) := Lib.hid (by
      have h1 : (digs 2 (val B32 ls.l)).length ≤ 32 * ls.l.length := (digs_length (by omega) _ _).2 (by rw [← B32_pow]; exact val_lt ls.l HB.out)
      have := HLL.out
      omega)
    have hadd : IntKind.i64.wrap ((j : Int) + 1) = (j1 : Int) := by rw [IntWalk.i64_in _ (by omega)]; omega
    have HAD := Lib.hid hadd
    have dm : decide (mayD (⟨ng, ls, (j : Int)⟩ : XDyad).data) = true := decide_eq_true hmay
    have HJ := Lib.hid hj
    clear hmay hadd hj hj1
    go_enter Tryd.func39, Tryd.ntmps39
    have BX0 : Blk ((w.alloc (.cells #[.bool ng, .slice ls.A ls.l.length ls.c, .int .i64 j] 24)).alloc (.cells #[.bool false, .slice none 0 0, .int .i64 0] 24)) w.heap.size 24 [.bool ng, .slice ls.A ls.l.length ls.c, .int .i64 j] := Blk.alloc (Blk.new rfl) _
    go_wp2_with (first | ((with_reducible refine wpl_load 24 (.tmp 1) ?_ ?_ (w.heap.size) 0 [.bool ng, .slice ls.A ls.l.length ls.c, .int .i64 j] ?_ ?_ ?_ ?_); (exact rfl); (exact rfl); (exact rfl); (exact aggDyad); (exact BX0.row)) | fail)
    refine (ref02_May (⟨ng, ls, (j : Int)⟩ : XDyad) _ (HX.out.ext (by repeat (first | exact Ext.refl _ | assumption | refine Ext.alloc' ?_ _ | refine Ext.drewN' ?_ _ | refine Ext.drew' ?_ | (refine Ext.trans ?_ (by assumption)))))).mono ?_
    rintro e w1 ⟨rfl, hE1⟩
    rw [dm]
    have BX : Blk w1 w.heap.size 24 [.bool ng, .slice ls.A ls.l.length ls.c, .int .i64 j] := BX0.ext hE1
    have BZ : Blk w1 (w.heap.size + 1) 24 [.bool false, .slice none 0 0, .int .i64 0] := (Blk.new (by simp)).ext hE1
    have hE0 : Ext w w1 := (Ext.alloc' (Ext.alloc _ _) _).trans hE1
    clear BX0 hE1 dm
    go_wp2_with fail
    obtain ⟨WX, hWX⟩ : ∃ W0, W0 = w1 := ⟨_, rfl⟩
    rw [← hWX] at BX BZ hE0 ⊢
    clear hWX
    have G0 : Hid (∀ W, Ext WX W → W.cell? ⟨w.heap.size, 2, none⟩ = some (.int .i64 j)) := Lib.hid fun W hW => hW.cell (BX.cell 2)
    refine wp_region_flowTail 13 (Ext WX) (fun _ => True) Ext (fun i => if i = 3 then .row (fun v => ∃ (b : Bool) (z : LX Nat), v = .agg #[.bool b, .slice z.A z.l.length z.c]) (fun v W => ∃ z : LX Nat, v = .agg #[.bool ng, .slice z.A z.l.length z.c] ∧ z.l = digs 2 (val B32 ls.l) ∧ Go.Hx.Own W w.heap.size 5 1 cU8 (.slice z.A z.l.length z.c) z.l) else if i = 7 then .row (fun v => ∃ (y : XDyad), v = .tuple #[.agg #[.bool y.neg, .slice y.limbs.A y.limbs.l.length y.limbs.c, .int .i64 y.exp], .int .i64 ((formD ng j1 (val B32 ls.l)).2)]) (fun v W => ∃ y : XDyad, v = .tuple #[.agg #[.bool y.neg, .slice y.limbs.A y.limbs.l.length y.limbs.c, .int .i64 y.exp], .int .i64 ((formD ng j1 (val B32 ls.l)).2)] ∧ y.data = (formD ng j1 (val B32 ls.l)).1 ∧ Go.Hx.Own W w.heap.size 33 1 cU32 (.slice y.limbs.A y.limbs.l.length y.limbs.c) y.limbs.l) else if i = 11 then .free (fun v => ∃ g : Nat, v = .pointer (some ⟨g, 0, none⟩)) (fun v W => ∃ g : Nat, v = .pointer (some ⟨g, 0, none⟩) ∧ WX.heap.size ≤ g ∧ Blk W g 24 [.bool false, .slice none 0 0, .int .i64 0]) else if i = 12 then .last else .det) [3, 7] (by kernel_rfl) (by kernel_rfl) (by kernel_rfl) (Ext.drew _) trivial (keeps_true _) ?_
    refine ftext_load_row 24 _ rfl rfl rfl (w.heap.size) 0 [.bool ng, .slice ls.A ls.l.length ls.c, .int .i64 j] rfl aggDyad (fun w hC => (BX.ext hC).row) (fun K hK => ?_)
    go_simp; refine hK _ ?_; clear hK K
    iterate 2 (refine ftext_det rfl rfl ?_; apply Exists.intro; refine ⟨fun w hC => ?_, fun K hK => ?_⟩; (first | (go_simp; exact rfl) | (go_simp; rw [G0.out _ hC]; exact ⟨rfl, rfl⟩)); go_simp; refine hK _ ?_; clear hK K)
    refine ftext_row _ _ rfl rfl ?_ (fun v w1 w2 ⟨z, h1, h2, h3⟩ hR => ⟨z, h1, h2, h3.ext hR⟩) (fun w1 hC hJ Φ hΦ => ?_) (fun v hv K hK => ?_)
    · exact ⟨_, false, ⟨[], none, 0⟩, rfl⟩
    · go_simp
      refine (ref02_In (⟨ng, ls, (j : Int)⟩ : XDyad) j _ (HX.out.ext (hE0.trans hC)) HB.out (by have := HLL.out; show ls.l.length ≤ 100; omega) (by show (0 : Int) ≤ (j : Int); omega) (by show (j : Int) ≤ (j : Int); omega) (by have := HJ.out; omega)).mono ?_
      rintro e w2 ⟨z, rfl, h1, h2, hE2⟩
      exact ⟨_, rfl, hΦ _ _ ⟨ng, z, rfl⟩ (hC.trans hE2) hE2 ⟨z, rfl, by rw [h1, HNV.out], h2.lower (hE0.trans hC).size⟩⟩
    obtain ⟨b1, z1, rfl⟩ := hv
    go_simp; refine hK _ ?_; clear hK K
    iterate 3 (refine ftext_det rfl rfl ?_; apply Exists.intro; refine ⟨fun w hC => ?_, fun K hK => ?_⟩; (first | (go_simp; exact rfl) | (go_simp; rw [G0.out _ hC]; exact ⟨rfl, rfl⟩)); go_simp; refine hK _ ?_; clear hK K)
    rw [HAD.out]
    refine ftext_row _ _ rfl rfl ?_ (fun v w1 w2 ⟨z, h1, h2, h3⟩ hR => ⟨z, h1, h2, h3.ext hR⟩) (fun w1 hC hJ Φ hΦ => ?_) (fun v hv K hK => ?_)
    · exact ⟨_, XDyad.zero, rfl⟩
    · obtain ⟨z, hz, h1, h2⟩ := hJ
      rw [hz]
      have H1 := Lib.hid h1
      clear h1
      go_simp
      have h1 := H1.out
      refine (ref02_Formed ng z j1 _ (h2.ok) (by rw [h1]; exact Bits.digs _) (by rw [h1]; exact HLen.out) HJ1.out).mono ?_
      rintro e w2 ⟨y, rfl, h3, h4, hE2⟩
      have hv2 : val 2 z.l = val B32 ls.l := by rw [h1]; exact val_digs (by omega) _
      rw [hv2] at h3 ⊢
      exact ⟨_, rfl, hΦ _ _ ⟨y, rfl⟩ (hC.trans hE2) hE2 ⟨y, rfl, h3, h4.lower (hE0.trans hC).size⟩⟩
    obtain ⟨y1, rfl⟩ := hv
    go_simp; refine hK _ ?_; clear hK K
    iterate 3 (refine ftext_det rfl rfl ?_; apply Exists.intro; refine ⟨fun w hC => ?_, fun K hK => ?_⟩; (first | (go_simp; exact rfl) | (go_simp; rw [G0.out _ hC]; exact ⟨rfl, rfl⟩)); go_simp; refine hK _ ?_; clear hK K)
    refine ftext_free _ _ rfl rfl ⟨_, 0, rfl⟩ (fun v w1 w2 ⟨g, h1, h2, h3⟩ hR => ⟨g, h1, h2, h3.ext hR⟩) (fun w1 hC Φ hΦ => ?_) (fun v hv K hK => ?_)
    · go_simp
      exact hΦ _ _ ⟨_, rfl⟩ (hC.trans (Ext.alloc _ _)) (Ext.alloc _ _) ⟨_, rfl, hC.size, Blk.new rfl⟩
    obtain ⟨g1, rfl⟩ := hv
    go_simp; refine hK _ ?_; clear hK K
    refine ftext_store 24 _ _ (fun W => ∃ y : XDyad, Blk W g1 24 [.bool y.neg, .slice y.limbs.A y.limbs.l.length y.limbs.c, .int .i64 y.exp] ∧ y.data = (formD ng j1 (val B32 ls.l)).1 ∧ Go.Hx.Own W w.heap.size 33 1 cU32 (.slice y.limbs.A y.limbs.l.length y.limbs.c) y.limbs.l ∧ WX.heap.size ≤ g1) rfl rfl rfl (fun w1 hC hJ hF => ?_) (fun K hK => ?_)
    · obtain ⟨y, hy, h1, h2⟩ := hJ
      obtain ⟨_, g, hg, hgs, Bg⟩ := hF
      have hgg : g1 = g := congrArg (fun v : Value => match v with | .pointer (some p) => p.block | _ => 0) hg
      subst hgg
      have hyc : Value.agg #[.bool y1.neg, .slice y1.limbs.A y1.limbs.l.length y1.limbs.c, .int .i64 y1.exp] = Value.agg #[.bool y.neg, .slice y.limbs.A y.limbs.l.length y.limbs.c, .int .i64 y.exp] := congrArg (fun v : Value => match v with | .tuple a => a.getD 0 undef | _ => v) hy
      refine ⟨g1, 24, [.bool false, .slice none 0 0, .int .i64 0], [.bool y.neg, .slice y.limbs.A y.limbs.l.length y.limbs.c, .int .i64 y.exp], rfl, hyc, aggDyad, Bg, rfl, rfl, fun w' BR hO => ?_⟩
      have HS2 : Shape (fun e => e = 24) w.heap.size w1 w' := Shape.only (T := fun e => e = 24) (Shape.refl _ _ _) Bg hO BR rfl rfl (by have := hE0.size; omega)
      exact ⟨Only.ext hC hO hgs, y, BR, h1, Go.Hx.Own.shape h2 HS2 (by decide), hgs⟩
    go_simp; refine hK _ ?_; clear hK K
    refine ftext_nil ?_
    rintro w1 hC ⟨y, BY, hyd, hyo, hgs⟩ _
    simp only [List.drop_succ_cons, List.drop_zero]
    refine wplIn_assign Open.wide _ rfl rfl ?_
    refine wpListIn_nil ?_
    have HO1 := Lib.hid hyo
    have HD1 := Lib.hid hyd
    have HZ1 := Lib.hid (BZ.ext hC)
    have HE1 := Lib.hid (hE0.trans hC)
    clear hyo hyd hgs hC
    go_wp2_with (first | ((with_reducible refine wpl_load 24 (.tmp 4) ?_ ?_ (g1) 0 [.bool y.neg, .slice y.limbs.A y.limbs.l.length y.limbs.c, .int .i64 y.exp] ?_ ?_ ?_ ?_); (exact rfl); (exact rfl); (exact rfl); (exact aggDyad); (exact BY.row)) | ((with_reducible refine wpl_store 24 (.tmp 2) (.tmp 21) ?_ ?_ (w.heap.size + 1) 0 24 [.bool false, .slice none 0 0, .int .i64 0] [.bool y.neg, .slice y.limbs.A y.limbs.l.length y.limbs.c, .int .i64 y.exp] ?_ ?_ ?_ ?_ ?_ ?_ ?_); (exact rfl); (exact rfl); (exact rfl); (exact rfl); (exact aggDyad); (exact HZ1.out); (exact by simp); (exact rfl); (intro w4 BR2 hO2)) | fail)
    have HS4 : Shape (fun e => e = 24) w.heap.size _ w4 := Shape.only (T := fun e => e = 24) (Shape.refl _ _ _) HZ1.out hO2 BR2 rfl rfl (by omega)
    exact bodyPost_ret (results_ct rfl rfl BR2 aggDyad) rfl ⟨y, by rw [HR.out] <;> rfl, by rw [HD1.out, HR.out], Go.Hx.Own.shape HO1.out HS4 (by decide), Only.ext HE1.out hO2 (by omega)⟩
  · have dm : decide (mayD x.data) = false := decide_eq_false hmay
    have HR : Hid (halfD x.data = (PDyad.zero, 8)) := Lib.hid (by unfold halfD; rw [if_neg hmay])
    clear hmay
    go_enter Tryd.func39, Tryd.ntmps39
    have BX0 : Blk ((w.alloc (.cells #[.bool x.neg, .slice x.limbs.A x.limbs.l.length x.limbs.c, .int .i64 x.exp] 24)).alloc (.cells #[.bool false, .slice none 0 0, .int .i64 0] 24)) w.heap.size 24 [.bool x.neg, .slice x.limbs.A x.limbs.l.length x.limbs.c, .int .i64 x.exp] := Blk.alloc (Blk.new rfl) _
    go_wp2_with (first | ((with_reducible refine wpl_load 24 (.tmp 1) ?_ ?_ (w.heap.size) 0 [.bool x.neg, .slice x.limbs.A x.limbs.l.length x.limbs.c, .int .i64 x.exp] ?_ ?_ ?_ ?_); (exact rfl); (exact rfl); (exact rfl); (exact aggDyad); (exact BX0.row)) | fail)
    refine (ref02_May x _ (HX.out.ext (by repeat (first | exact Ext.refl _ | assumption | refine Ext.alloc' ?_ _ | refine Ext.drewN' ?_ _ | refine Ext.drew' ?_ | (refine Ext.trans ?_ (by assumption)))))).mono ?_
    rintro e w1 ⟨rfl, hE1⟩
    rw [dm]
    have BZ : Blk w1 (w.heap.size + 1) 24 [.bool false, .slice none 0 0, .int .i64 0] := (Blk.new (by simp)).ext hE1
    have hE0 : Ext w w1 := (Ext.alloc' (Ext.alloc _ _) _).trans hE1
    clear BX0 hE1 dm
    go_wp2_with (first | ((with_reducible refine wpl_store 24 (.tmp 2) (.tmp 9) ?_ ?_ (w.heap.size + 1) 0 24 [.bool false, .slice none 0 0, .int .i64 0] [.bool false, .slice none 0 0, .int .i64 0] ?_ ?_ ?_ ?_ ?_ ?_ ?_); (exact rfl); (exact rfl); (exact rfl); (exact rfl); (exact aggDyad); (exact BZ); (exact by simp); (exact rfl); (intro w4 BR2 hO2)) | fail)
    exact bodyPost_ret (results_ct rfl rfl BR2 aggDyad) rfl ⟨XDyad.zero, by rw [HR.out] <;> rfl, by rw [HR.out] <;> rfl, Go.Hx.Own.nil _ _ _ _ _, Only.ext hE0 hO2 (by omega)⟩
end Go.Proofs.YtgcbnagfdfgpnaaDoor
