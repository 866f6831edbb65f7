/- The reference's dyads: signed bits, signs. Printed by gen_refd2.py. -/
import Derived.Test.YtgcbnagfdfgpnaaDoorRefD
import Derived.Test.YtgcbnagfdfgpnaaDoorTurnM
namespace Go.Proofs.YtgcbnagfdfgpnaaDoor
open Go.RowKit Go.Hx
attribute [local go_sem] detUpon undIn
theorem aggSigned : AggTy Tryd.prog 160 2 := ⟨⟨_, Tryd.underlying160, rfl⟩, by kernel_rfl⟩
set_option maxRecDepth 100000 in
set_option maxHeartbeats 1000000 in
theorem ref02_In (x : XDyad) (k : Nat) (w : World) (hx : x.ok w w.heap.size) (hb : Limbs x.limbs.l) (hl : x.limbs.l.length ≤ 100) (h0 : 0 ≤ x.exp) (h1 : x.exp ≤ k) (hk : k ≤ 3000) :
    Calls Tryd.prog 92 #[.agg #[.bool x.neg, .slice x.limbs.A x.limbs.l.length x.limbs.c, .int .i64 x.exp], .int .i64 k] w fun e w' => ∃ z : LX Nat, e = .returned (.agg #[.bool x.neg, .slice z.A z.l.length z.c]) ∧ z.l = digs 2 (numD x.data k) ∧ Go.Hx.Own w' w.heap.size 5 1 cU8 (.slice z.A z.l.length z.c) z.l ∧ Ext w w' := by
  have HX := Lib.hid hx.limbs
  have HB := Lib.hid hb
  have HL := Lib.hid hl
  obtain ⟨j, hj⟩ : ∃ j : Nat, x.exp = j := ⟨x.exp.toNat, by omega⟩
  have hsub : IntKind.i64.wrap ((k : Int) - x.exp) = ((k - j : Nat) : Int) := by rw [IntWalk.i64_in _ (by omega)]; omega
  have HN : Hid (numD x.data k = 2 ^ (k - j) * val B32 x.limbs.l) := Lib.hid (by simp only [numD, XDyad.data, hj]; rfl)
  have HS := Lib.hid hsub
  have HK := Lib.hid hk
  have HLen : Hid ((digs 2 (val B32 x.limbs.l)).length ≤ 3200) := Lib.hid (by
    have h1 : (digs 2 (val B32 x.limbs.l)).length ≤ 32 * x.limbs.l.length := (digs_length (by omega) _ _).2 (by rw [← B32_pow]; exact val_lt x.limbs.l hb)
    omega)
  clear hx hb hl h0 h1 hsub hk hj
  go_enter Tryd.func92, Tryd.ntmps92
  go_wp2_with fail
  obtain ⟨WX, hWX⟩ : ∃ W0, W0 = (w.alloc (.cells #[.bool x.neg, .slice x.limbs.A x.limbs.l.length x.limbs.c, .int .i64 x.exp] 24)).alloc (.cells #[.bool false, .slice none 0 0] 160) := ⟨_, rfl⟩
  have B0 : Blk WX w.heap.size 24 [.bool x.neg, .slice x.limbs.A x.limbs.l.length x.limbs.c, .int .i64 x.exp] := by rw [hWX]; exact Blk.alloc (Blk.new rfl) _
  have BZ : Blk WX (w.heap.size + 1) 160 [.bool false, .slice none 0 0] := by rw [hWX]; exact Blk.new (by simp)
  have hE0 : Ext w WX := by rw [hWX]; exact Ext.alloc' (Ext.alloc _ _) _
  rw [← hWX]
  clear hWX
  have G0 : Hid (∀ W, Ext WX W → W.cell? ⟨w.heap.size, 0, none⟩ = some (.bool x.neg)) := Lib.hid fun W hW => hW.cell (by first | exact B0.cell 0 | rfl)
  have G1 : Hid (∀ W, Ext WX W → W.cell? ⟨w.heap.size, 1, none⟩ = some (.slice x.limbs.A x.limbs.l.length x.limbs.c)) := Lib.hid fun W hW => hW.cell (by first | exact B0.cell 1 | rfl)
  have G2 : Hid (∀ W, Ext WX W → W.cell? ⟨w.heap.size, 2, none⟩ = some (.int .i64 x.exp)) := Lib.hid fun W hW => hW.cell (by first | exact B0.cell 2 | rfl)
  have G3 := G2
  refine wp_region_flowTail 11 (Ext WX) (fun _ => True) Ext (fun i => if i = 4 then .row (fun v => ∃ (z : LX Nat), v = .slice z.A z.l.length z.c) (fun v W => ∃ z : LX Nat, v = .slice z.A z.l.length z.c ∧ z.l = digs 2 (val B32 x.limbs.l) ∧ Go.Hx.Own W w.heap.size 5 1 cU8 (.slice z.A z.l.length z.c) z.l) else if i = 9 then .row (fun v => ∃ (z : LX Nat), v = .slice z.A z.l.length z.c) (fun v W => ∃ z : LX Nat, v = .slice z.A z.l.length z.c ∧ z.l = digs 2 (numD x.data k) ∧ Go.Hx.Own W w.heap.size 5 1 cU8 (.slice z.A z.l.length z.c) z.l) else .det) [4, 9] (by kernel_rfl) (by kernel_rfl) (by kernel_rfl) (Ext.drew _) trivial (keeps_true _) ?_
  iterate 4 (refine ftext_det rfl rfl ?_; apply Exists.intro; refine ⟨fun w hC => ?_, fun K hK => ?_⟩; (first | (go_simp; exact rfl) | (go_simp; rw [G0.out _ hC]; exact ⟨rfl, rfl⟩) | (go_simp; rw [G1.out _ hC]; exact ⟨rfl, rfl⟩) | (go_simp; rw [G2.out _ hC]; exact ⟨rfl, rfl⟩) | (go_simp; rw [G3.out _ hC]; exact ⟨rfl, rfl⟩)); go_simp; refine hK _ ?_; clear hK K)
  refine ftext_row _ _ rfl rfl ⟨_, ⟨[], none, 0⟩, rfl⟩ (fun v w1 w2 ⟨z, h1, h2, h3⟩ hR => ⟨z, h1, h2, h3.ext hR⟩) (fun w1 hC hJ Φ hΦ => ?_) (fun v hv K hK => ?_)
  · go_simp
    refine (ref01_Digits x.limbs _ (HX.out.ext (hE0.trans hC)) HB.out (by have := HL.out; omega)).mono ?_
    rintro e w2 ⟨z, rfl, h1, h2, hE2⟩
    exact ⟨_, rfl, hΦ _ _ ⟨z, rfl⟩ (hC.trans hE2) hE2 ⟨z, rfl, h1, h2.lower (hE0.trans hC).size⟩⟩
  obtain ⟨z0, rfl⟩ := hv
  go_simp; refine hK _ ?_; clear hK K
  iterate 4 (refine ftext_det rfl rfl ?_; apply Exists.intro; refine ⟨fun w hC => ?_, fun K hK => ?_⟩; (first | (go_simp; exact rfl) | (go_simp; rw [G0.out _ hC]; exact ⟨rfl, rfl⟩) | (go_simp; rw [G1.out _ hC]; exact ⟨rfl, rfl⟩) | (go_simp; rw [G2.out _ hC]; exact ⟨rfl, rfl⟩) | (go_simp; rw [G3.out _ hC]; exact ⟨rfl, rfl⟩)); go_simp; refine hK _ ?_; clear hK K)
  rw [HS.out]
  refine ftext_row _ _ rfl rfl ⟨_, ⟨[], none, 0⟩, rfl⟩ (fun v w1 w2 ⟨z, h1, h2, h3⟩ hR => ⟨z, h1, h2, h3.ext hR⟩) (fun w1 hC hJ Φ hΦ => ?_) (fun v hv K hK => ?_)
  · obtain ⟨z, hz, h1, h2⟩ := hJ
    have HZ := Lib.hid hz
    have H1 := Lib.hid h1
    clear hz h1
    go_simp
    rw [HZ.out]
    refine (ref01_Times2 z (k - j) _ _ (Go.Hx.Own.ok h2) H1.out (by have := HK.out; omega) (by rw [H1.out]; have := HLen.out; omega)).mono ?_
    rintro e w2 ⟨z, rfl, h1, h2, hE2⟩
    exact ⟨_, rfl, hΦ _ _ ⟨z, rfl⟩ (hC.trans hE2) hE2 ⟨z, rfl, by rw [h1, HN.out], h2.lower (hE0.trans hC).size⟩⟩
  obtain ⟨z1, rfl⟩ := hv
  go_simp; refine hK _ ?_; clear hK K
  iterate 1 (refine ftext_det rfl rfl ?_; apply Exists.intro; refine ⟨fun w hC => ?_, fun K hK => ?_⟩; (first | (go_simp; exact rfl) | (go_simp; rw [G0.out _ hC]; exact ⟨rfl, rfl⟩) | (go_simp; rw [G1.out _ hC]; exact ⟨rfl, rfl⟩) | (go_simp; rw [G2.out _ hC]; exact ⟨rfl, rfl⟩) | (go_simp; rw [G3.out _ hC]; exact ⟨rfl, rfl⟩)); go_simp; refine hK _ ?_; clear hK K)
  refine ftext_nil ?_
  rintro w1 hC ⟨z, hz, h1, h2⟩ _
  have hz' : Value.slice z1.A z1.l.length z1.c = Value.slice z.A z.l.length z.c := hz
  simp only [hz', List.drop_succ_cons, List.drop_zero]
  refine wplIn_store Open.wide 160 (.tmp 4) (.tmp 15) rfl rfl (w.heap.size + 1) 0 160 [.bool false, .slice none 0 0] [.bool x.neg, .slice z.A z.l.length z.c] rfl rfl aggSigned (BZ.ext hC) (by simp) rfl ?_
  intro w2 BR hO
  refine wpListIn_nil ?_
  have HS2 : Shape (fun e => e = 160) w.heap.size w1 w2 := Shape.only (T := fun e => e = 160) (Shape.refl _ _ _) (BZ.ext hC) hO BR rfl rfl (by omega)
  have HO2 := Lib.hid (Go.Hx.Own.shape h2 HS2 (by decide))
  have HEE := Lib.hid (Only.ext (hE0.trans hC) hO (by omega))
  have H1 := Lib.hid h1
  clear h1 h2 hz hz' hO
  go_wp2_with fail
  exact bodyPost_ret (results_c rfl rfl BR aggSigned) rfl ⟨z, rfl, H1.out, HO2.out, HEE.out⟩
end Go.Proofs.YtgcbnagfdfgpnaaDoor
