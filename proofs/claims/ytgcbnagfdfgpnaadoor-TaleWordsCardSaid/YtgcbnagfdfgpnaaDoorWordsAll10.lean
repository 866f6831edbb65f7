/- Parts of a proof, joined: RefD2, RefD3, RefD4. -/
import Derived.Test.YtgcbnagfdfgpnaaDoorWordsAll6
import Derived.Test.YtgcbnagfdfgpnaaDoorWordsAll28
section
namespace Go.Proofs.YtgcbnagfdfgpnaaDoor
open Go.RowKit Go.Hx
attribute [local go_sem] detUpon undIn
theorem aggSigned : AggTy Tryd.prog 160 2 := ⟨⟨_, Tryd.underlying160, rfl⟩, by kernel_rfl⟩
set_option maxRecDepth 100000 in
set_option maxHeartbeats 1000000 in
theorem ref02_In (x : XDyad) (k : Nat) (w : World) (hx : x.ok w w.heap.size) (hb : Limbs x.limbs.l) (hl : x.limbs.l.length ≤ 100) (h0 : 0 ≤ x.exp) (h1 : x.exp ≤ k) (hk : k ≤ 3000) :
    Calls Tryd.prog 92 #[.agg #[.bool x.neg, .slice x.limbs.A x.limbs.l.length x.limbs.c, .int .i64 x.exp], .int .i64 k] w fun e w' => ∃ z : LX Nat, e = .returned (.agg #[.bool x.neg, .slice z.A z.l.length z.c]) ∧ z.l = digs 2 (numD x.data k) ∧ Go.Hx.Own w' w.heap.size 5 1 cU8 (.slice z.A z.l.length z.c) z.l ∧ Ext w w' := by
  have HX := Lib.hid hx.limbs
  have HB := Lib.hid hb
  have HL := Lib.hid hl
  obtain ⟨j, hj⟩ : ∃ j : Nat, x.exp = j := ⟨x.exp.toNat, by omega⟩
  have hsub : IntKind.i64.wrap ((k : Int) - x.exp) = ((k - j : Nat) : Int) := by rw [IntWalk.i64_in _ (by omega)]; omega
  have HN : Hid (numD x.data k = 2 ^ (k - j) * val B32 x.limbs.l) := Lib.hid (by simp only [numD, XDyad.data, hj]; rfl)
  have HS := Lib.hid hsub
  have HK := Lib.hid hk
  have HLen : Hid ((digs 2 (val B32 x.limbs.l)).length ≤ 3200) := Lib.hid (by
    have h1 : (digs 2 (val B32 x.limbs.l)).length ≤ 32 * x.limbs.l.length := (digs_length (by omega) _ _).2 (by rw [← B32_pow]; exact val_lt x.limbs.l hb)
    omega)
  clear hx hb hl h0 h1 hsub hk hj
  go_enter Tryd.func92, Tryd.ntmps92
  go_wp2_with fail
  obtain ⟨WX, hWX⟩ : ∃ W0, W0 = (w.alloc (.cells #[.bool x.neg, .slice x.limbs.A x.limbs.l.length x.limbs.c, .int .i64 x.exp] 24)).alloc (.cells #[.bool false, .slice none 0 0] 160) := ⟨_, rfl⟩
  have B0 : Blk WX w.heap.size 24 [.bool x.neg, .slice x.limbs.A x.limbs.l.length x.limbs.c, .int .i64 x.exp] := by rw [hWX]; exact Blk.alloc (Blk.new rfl) _
  have BZ : Blk WX (w.heap.size + 1) 160 [.bool false, .slice none 0 0] := by rw [hWX]; exact Blk.new (by simp)
  have hE0 : Ext w WX := by rw [hWX]; exact Ext.alloc' (Ext.alloc _ _) _
  rw [← hWX]
  clear hWX
  have G0 : Hid (∀ W, Ext WX W → W.cell? ⟨w.heap.size, 0, none⟩ = some (.bool x.neg)) := Lib.hid fun W hW => hW.cell (by first | exact B0.cell 0 | rfl)
  have G1 : Hid (∀ W, Ext WX W → W.cell? ⟨w.heap.size, 1, none⟩ = some (.slice x.limbs.A x.limbs.l.length x.limbs.c)) := Lib.hid fun W hW => hW.cell (by first | exact B0.cell 1 | rfl)
  have G2 : Hid (∀ W, Ext WX W → W.cell? ⟨w.heap.size, 2, none⟩ = some (.int .i64 x.exp)) := Lib.hid fun W hW => hW.cell (by first | exact B0.cell 2 | rfl)
  have G3 := G2
  refine wp_region_flowTail 11 (Ext WX) (fun _ => True) Ext (fun i => if i = 4 then .row (fun v => ∃ (z : LX Nat), v = .slice z.A z.l.length z.c) (fun v W => ∃ z : LX Nat, v = .slice z.A z.l.length z.c ∧ z.l = digs 2 (val B32 x.limbs.l) ∧ Go.Hx.Own W w.heap.size 5 1 cU8 (.slice z.A z.l.length z.c) z.l) else if i = 9 then .row (fun v => ∃ (z : LX Nat), v = .slice z.A z.l.length z.c) (fun v W => ∃ z : LX Nat, v = .slice z.A z.l.length z.c ∧ z.l = digs 2 (numD x.data k) ∧ Go.Hx.Own W w.heap.size 5 1 cU8 (.slice z.A z.l.length z.c) z.l) else .det) [4, 9] (by kernel_rfl) (by kernel_rfl) (by kernel_rfl) (Ext.drew _) trivial (keeps_true _) ?_
  iterate 4 (refine ftext_det rfl rfl ?_; apply Exists.intro; refine ⟨fun w hC => ?_, fun K hK => ?_⟩; (first | (go_simp; exact rfl) | (go_simp; rw [G0.out _ hC]; exact ⟨rfl, rfl⟩) | (go_simp; rw [G1.out _ hC]; exact ⟨rfl, rfl⟩) | (go_simp; rw [G2.out _ hC]; exact ⟨rfl, rfl⟩) | (go_simp; rw [G3.out _ hC]; exact ⟨rfl, rfl⟩)); go_simp; refine hK _ ?_; clear hK K)
  refine ftext_row _ _ rfl rfl ⟨_, ⟨[], none, 0⟩, rfl⟩ (fun v w1 w2 ⟨z, h1, h2, h3⟩ hR => ⟨z, h1, h2, h3.ext hR⟩) (fun w1 hC hJ Φ hΦ => ?_) (fun v hv K hK => ?_)
  · go_simp
    refine (ref01_Digits x.limbs _ (HX.out.ext (hE0.trans hC)) HB.out (by have := HL.out; omega)).mono ?_
    rintro e w2 ⟨z, rfl, h1, h2, hE2⟩
    exact ⟨_, rfl, hΦ _ _ ⟨z, rfl⟩ (hC.trans hE2) hE2 ⟨z, rfl, h1, h2.lower (hE0.trans hC).size⟩⟩
  obtain ⟨z0, rfl⟩ := hv
  go_simp; refine hK _ ?_; clear hK K
  iterate 4 (refine ftext_det rfl rfl ?_; apply Exists.intro; refine ⟨fun w hC => ?_, fun K hK => ?_⟩; (first | (go_simp; exact rfl) | (go_simp; rw [G0.out _ hC]; exact ⟨rfl, rfl⟩) | (go_simp; rw [G1.out _ hC]; exact ⟨rfl, rfl⟩) | (go_simp; rw [G2.out _ hC]; exact ⟨rfl, rfl⟩) | (go_simp; rw [G3.out _ hC]; exact ⟨rfl, rfl⟩)); go_simp; refine hK _ ?_; clear hK K)
  rw [HS.out]
  refine ftext_row _ _ rfl rfl ⟨_, ⟨[], none, 0⟩, rfl⟩ (fun v w1 w2 ⟨z, h1, h2, h3⟩ hR => ⟨z, h1, h2, h3.ext hR⟩) (fun w1 hC hJ Φ hΦ => ?_) (fun v hv K hK => ?_)
  · obtain ⟨z, hz, h1, h2⟩ := hJ
    have HZ := Lib.hid hz
    have H1 := Lib.hid h1
    clear hz h1
    go_simp
    rw [HZ.out]
    refine (ref01_Times2 z (k - j) _ _ (Go.Hx.Own.ok h2) H1.out (by have := HK.out; omega) (by rw [H1.out]; have := HLen.out; omega)).mono ?_
    rintro e w2 ⟨z, rfl, h1, h2, hE2⟩
    exact ⟨_, rfl, hΦ _ _ ⟨z, rfl⟩ (hC.trans hE2) hE2 ⟨z, rfl, by rw [h1, HN.out], h2.lower (hE0.trans hC).size⟩⟩
  obtain ⟨z1, rfl⟩ := hv
  go_simp; refine hK _ ?_; clear hK K
  iterate 1 (refine ftext_det rfl rfl ?_; apply Exists.intro; refine ⟨fun w hC => ?_, fun K hK => ?_⟩; (first | (go_simp; exact rfl) | (go_simp; rw [G0.out _ hC]; exact ⟨rfl, rfl⟩) | (go_simp; rw [G1.out _ hC]; exact ⟨rfl, rfl⟩) | (go_simp; rw [G2.out _ hC]; exact ⟨rfl, rfl⟩) | (go_simp; rw [G3.out _ hC]; exact ⟨rfl, rfl⟩)); go_simp; refine hK _ ?_; clear hK K)
  refine ftext_nil ?_
  rintro w1 hC ⟨z, hz, h1, h2⟩ _
  have hz' : Value.slice z1.A z1.l.length z1.c = Value.slice z.A z.l.length z.c := hz
  simp only [hz', List.drop_succ_cons, List.drop_zero]
  refine wplIn_store Open.wide 160 (.tmp 4) (.tmp 15) rfl rfl (w.heap.size + 1) 0 160 [.bool false, .slice none 0 0] [.bool x.neg, .slice z.A z.l.length z.c] rfl rfl aggSigned (BZ.ext hC) (by simp) rfl ?_
  intro w2 BR hO
  refine wpListIn_nil ?_
  have HS2 : Shape (fun e => e = 160) w.heap.size w1 w2 := Shape.only (T := fun e => e = 160) (Shape.refl _ _ _) (BZ.ext hC) hO BR rfl rfl (by omega)
  have HO2 := Lib.hid (Go.Hx.Own.shape h2 HS2 (by decide))
  have HEE := Lib.hid (Only.ext (hE0.trans hC) hO (by omega))
  have H1 := Lib.hid h1
  clear h1 h2 hz hz' hO
  go_wp2_with fail
  exact bodyPost_ret (results_c rfl rfl BR aggSigned) rfl ⟨z, rfl, H1.out, HO2.out, HEE.out⟩
end Go.Proofs.YtgcbnagfdfgpnaaDoor
end
section
namespace Go.Proofs.YtgcbnagfdfgpnaaDoor
open Go.RowKit Go.Hx
attribute [local go_sem] detUpon undIn
set_option maxRecDepth 100000 in
theorem ref02_Minus (x : XDyad) (w : World) :
    Calls Tryd.prog 94 #[.agg #[.bool x.neg, .slice x.limbs.A x.limbs.l.length x.limbs.c, .int .i64 x.exp]] w fun e w' => ∃ y : XDyad, e = .returned (.agg #[.bool y.neg, .slice y.limbs.A y.limbs.l.length y.limbs.c, .int .i64 y.exp]) ∧ y.data = minusD x.data ∧ y.limbs = x.limbs ∧ y.exp = x.exp ∧ Ext w w' := by
  by_cases h : x.limbs.l.length = 0
  · have d : decide ((0 : Int) < (x.limbs.l.length : Int)) = false := decide_eq_false (by omega)
    have d2 : decide (0 < x.limbs.l.length) = false := decide_eq_false (by omega)
    have HM : Hid (x.data = minusD x.data) := Lib.hid (by unfold minusD; rw [if_pos (show x.data.limbs = [] from List.eq_nil_of_length_eq_zero h)])
    clear h
    go_enter Tryd.func94, Tryd.ntmps94
    have B0 : Blk ((w.alloc (.cells #[.bool x.neg, .slice x.limbs.A x.limbs.l.length x.limbs.c, .int .i64 x.exp] 24)).alloc (.cells #[.bool false, .slice none 0 0, .int .i64 0] 24)) w.heap.size 24 [.bool x.neg, .slice x.limbs.A x.limbs.l.length x.limbs.c, .int .i64 x.exp] := Blk.alloc (Blk.new rfl) _
    have BZ : Blk ((w.alloc (.cells #[.bool x.neg, .slice x.limbs.A x.limbs.l.length x.limbs.c, .int .i64 x.exp] 24)).alloc (.cells #[.bool false, .slice none 0 0, .int .i64 0] 24)) (w.heap.size + 1) 24 [.bool false, .slice none 0 0, .int .i64 0] := Blk.new (by simp)
    go_wp2_with (first | ((with_reducible refine wpl_load 24 (.tmp 1) ?_ ?_ (w.heap.size) 0 [.bool x.neg, .slice x.limbs.A x.limbs.l.length x.limbs.c, .int .i64 x.exp] ?_ ?_ ?_ ?_); (exact rfl); (exact rfl); (exact rfl); (exact aggDyad); (exact B0.row)) | ((with_reducible refine wpl_store 24 (.tmp 2) (.tmp 11) ?_ ?_ (w.heap.size + 1) 0 24 [.bool false, .slice none 0 0, .int .i64 0] [.bool x.neg, .slice x.limbs.A x.limbs.l.length x.limbs.c, .int .i64 x.exp] ?_ ?_ ?_ ?_ ?_ ?_ ?_); (exact rfl); (exact rfl); (exact rfl); (exact rfl); (exact aggDyad); (exact BZ); (exact by simp); (exact rfl); (intro w2 BR hO)) | fail)
    exact bodyPost_ret (results_c rfl rfl BR aggDyad) rfl ⟨x, rfl, HM.out, rfl, rfl, Only.ext (by repeat (first | exact Ext.refl _ | refine Ext.alloc' ?_ _ | refine Ext.setCell' ?_ (by simp) _)) hO (by omega)⟩
  · have d : decide ((0 : Int) < (x.limbs.l.length : Int)) = true := decide_eq_true (by omega)
    have d2 : decide (0 < x.limbs.l.length) = true := decide_eq_true (by omega)
    have hli : (0 : Int) < (x.limbs.l.length : Int) := by omega
    have HM : Hid (XDyad.data { x with neg := !x.neg } = minusD x.data) := Lib.hid (by unfold minusD; rw [if_neg (show ¬ x.data.limbs = [] from fun e => h (by rw [show x.limbs.l = [] from e]; rfl))]; rfl)
    clear h
    go_enter Tryd.func94, Tryd.ntmps94
    have B0 : Blk ((w.alloc (.cells #[.bool x.neg, .slice x.limbs.A x.limbs.l.length x.limbs.c, .int .i64 x.exp] 24)).alloc (.cells #[.bool false, .slice none 0 0, .int .i64 0] 24)) w.heap.size 24 [.bool x.neg, .slice x.limbs.A x.limbs.l.length x.limbs.c, .int .i64 x.exp] := Blk.alloc (Blk.new rfl) _
    have BZ : Blk ((w.alloc (.cells #[.bool x.neg, .slice x.limbs.A x.limbs.l.length x.limbs.c, .int .i64 x.exp] 24)).alloc (.cells #[.bool false, .slice none 0 0, .int .i64 0] 24)) (w.heap.size + 1) 24 [.bool false, .slice none 0 0, .int .i64 0] := Blk.new (by simp)
    go_wp2_with (first | ((with_reducible refine wpl_load 24 (.tmp 1) ?_ ?_ (w.heap.size) 0 [.bool (!x.neg), .slice x.limbs.A x.limbs.l.length x.limbs.c, .int .i64 x.exp] ?_ ?_ ?_ ?_); (exact rfl); (exact rfl); (exact rfl); (exact aggDyad); (exact (Blk.set B0 0 _).row)) | ((with_reducible refine wpl_store 24 (.tmp 2) (.tmp 11) ?_ ?_ (w.heap.size + 1) 0 24 [.bool false, .slice none 0 0, .int .i64 0] [.bool (!x.neg), .slice x.limbs.A x.limbs.l.length x.limbs.c, .int .i64 x.exp] ?_ ?_ ?_ ?_ ?_ ?_ ?_); (exact rfl); (exact rfl); (exact rfl); (exact rfl); (exact aggDyad); (exact (Blk.far BZ (by simp) _)); (exact by simp); (exact rfl); (intro w2 BR hO)) | fail)
    exact bodyPost_ret (results_c rfl rfl (Blk.new (by simp)) aggDyad) rfl ⟨{ x with neg := !x.neg }, rfl, HM.out, rfl, rfl, Ext.alloc' (Ext.alloc _ _) _⟩

set_option maxRecDepth 100000 in
set_option maxHeartbeats 4000000 in
theorem ref02_Plus (s t : Bool) (x y : LX Nat) (m n : Nat) (w : World) (hx : x.ok w w.heap.size cU8) (hy : y.ok w w.heap.size cU8) (hm : x.l = digs 2 m) (hn : y.l = digs 2 n) (hlx : x.l.length ≤ 100000) (hly : y.l.length ≤ 100000) :
    Calls Tryd.prog 135 #[.agg #[.bool s, .slice x.A x.l.length x.c], .agg #[.bool t, .slice y.A y.l.length y.c]] w fun e w' => ∃ z : LX Nat, e = .returned (.agg #[.bool (plusS s m t n).1, .slice z.A z.l.length z.c]) ∧ z.l = digs 2 (plusS s m t n).2 ∧ Go.Hx.Own w' w.heap.size 5 1 cU8 (.slice z.A z.l.length z.c) z.l ∧ Ext w w' := by
  have HX := Lib.hid hx
  have HY := Lib.hid hy
  have HBX : Hid (Bits x.l) := Lib.hid (by rw [hm]; exact Bits.digs m)
  have HBY : Hid (Bits y.l) := Lib.hid (by rw [hn]; exact Bits.digs n)
  have HVX : Hid (val 2 x.l = m) := Lib.hid (by rw [hm]; exact val_digs (by omega) m)
  have HVY : Hid (val 2 y.l = n) := Lib.hid (by rw [hn]; exact val_digs (by omega) n)
  have HLX := Lib.hid hlx
  have HLY := Lib.hid hly
  have HLN : Hid (∀ a b : Nat, a ≤ b → (digs 2 a).length ≤ (digs 2 b).length) := Lib.hid fun a b h => (digs_length (by omega) a _).2 (Nat.lt_of_le_of_lt h ((digs_length (by omega) b _).1 (Nat.le_refl _)))
  have HM := Lib.hid hm
  have HN := Lib.hid hn
  clear hx hy hm hn hlx hly
  by_cases hst : s = t
  · have HP : Hid (plusS s m t n = (s, m + n)) := Lib.hid (by unfold plusS; rw [if_pos hst])
    have dst : (s == t) = true := by simp [hst]
    have HV : Hid (val 2 x.l + val 2 y.l = m + n) := Lib.hid (by rw [HVX.out, HVY.out])
    clear hst
    go_enter Tryd.func135, Tryd.ntmps135
    go_wp2_with fail
    obtain ⟨WX, hWX⟩ : ∃ W0, W0 = ((w.alloc (.cells #[.bool s, .slice x.A x.l.length x.c] 160)).alloc (.cells #[.bool t, .slice y.A y.l.length y.c] 160)).alloc (.cells #[.bool false, .slice none 0 0] 160) := ⟨_, rfl⟩
    have B0 : Blk WX w.heap.size 160 [.bool s, .slice x.A x.l.length x.c] := by rw [hWX]; exact Blk.alloc (Blk.alloc (Blk.new rfl) _) _
    have B1 : Blk WX (w.heap.size + 1) 160 [.bool t, .slice y.A y.l.length y.c] := by rw [hWX]; exact Blk.alloc (Blk.new (by simp)) _
    have BZ : Blk WX (w.heap.size + 2) 160 [.bool false, .slice none 0 0] := by rw [hWX]; exact Blk.new (by simp)
    have hE0 : Ext w WX := by rw [hWX]; exact Ext.alloc' (Ext.alloc' (Ext.alloc _ _) _) _
    try rw [← hWX]
    clear hWX
    have G0 : Hid (∀ W, Ext WX W → W.cell? ⟨w.heap.size, 0, none⟩ = some (.bool s)) := Lib.hid fun W hW => hW.cell (B0.cell 0)
    have G1 : Hid (∀ W, Ext WX W → W.cell? ⟨w.heap.size, 1, none⟩ = some (.slice x.A x.l.length x.c)) := Lib.hid fun W hW => hW.cell (B0.cell 1)
    have G2 : Hid (∀ W, Ext WX W → W.cell? ⟨w.heap.size + 1, 0, none⟩ = some (.bool t)) := Lib.hid fun W hW => hW.cell (B1.cell 0)
    have G3 : Hid (∀ W, Ext WX W → W.cell? ⟨w.heap.size + 1, 1, none⟩ = some (.slice y.A y.l.length y.c)) := Lib.hid fun W hW => hW.cell (B1.cell 1)
    refine wp_region_flowTail 8 (Ext WX) (fun _ => True) Ext (fun i => if i = 6 then .row (fun v => ∃ (z : LX Nat), v = .slice z.A z.l.length z.c) (fun v W => ∃ z : LX Nat, v = .slice z.A z.l.length z.c ∧ z.l = digs 2 (m + n) ∧ Go.Hx.Own W w.heap.size 5 1 cU8 (.slice z.A z.l.length z.c) z.l) else .det) [6] (by kernel_rfl) (by kernel_rfl) (by kernel_rfl) (Ext.drew _) trivial (keeps_true _) ?_
    iterate 6 (refine ftext_det rfl rfl ?_; apply Exists.intro; refine ⟨fun w hC => ?_, fun K hK => ?_⟩; (first | (go_simp; exact rfl) | (go_simp; rw [G0.out _ hC]; exact ⟨rfl, rfl⟩) | (go_simp; rw [G1.out _ hC]; exact ⟨rfl, rfl⟩) | (go_simp; rw [G2.out _ hC]; exact ⟨rfl, rfl⟩) | (go_simp; rw [G3.out _ hC]; exact ⟨rfl, rfl⟩)); go_simp; refine hK _ ?_; clear hK K)
    refine ftext_row _ _ rfl rfl ⟨_, ⟨[], none, 0⟩, rfl⟩ (fun v w1 w2 ⟨z, h1, h2, h3⟩ hR => ⟨z, h1, h2, h3.ext hR⟩) (fun w1 hC hJ Φ hΦ => ?_) (fun v hv K hK => ?_)
    · go_simp
      refine (ref01_Plus x y _ (HX.out.ext (hE0.trans hC)) (HY.out.ext (hE0.trans hC)) HBX.out HBY.out HLX.out HLY.out).mono ?_
      rintro e w2 ⟨z, rfl, h1, h2, hE2⟩
      exact ⟨_, rfl, hΦ _ _ ⟨z, rfl⟩ (hC.trans hE2) hE2 ⟨z, rfl, by rw [h1, HV.out], h2.lower (hE0.trans hC).size⟩⟩
    obtain ⟨z1, rfl⟩ := hv
    go_simp; refine hK _ ?_; clear hK K
    iterate 1 (refine ftext_det rfl rfl ?_; apply Exists.intro; refine ⟨fun w hC => ?_, fun K hK => ?_⟩; (first | (go_simp; exact rfl) | (go_simp; rw [G0.out _ hC]; exact ⟨rfl, rfl⟩) | (go_simp; rw [G1.out _ hC]; exact ⟨rfl, rfl⟩) | (go_simp; rw [G2.out _ hC]; exact ⟨rfl, rfl⟩) | (go_simp; rw [G3.out _ hC]; exact ⟨rfl, rfl⟩)); go_simp; refine hK _ ?_; clear hK K)
    refine ftext_nil ?_
    rintro w1 hC ⟨z, hz, h1, h2⟩ _
    have hz' : Value.slice z1.A z1.l.length z1.c = Value.slice z.A z.l.length z.c := hz
    simp only [hz', List.drop_succ_cons, List.drop_zero]
    refine wplIn_store Open.wide 160 (.tmp 4) (.tmp 17) rfl rfl (w.heap.size + 2) 0 160 [.bool false, .slice none 0 0] [.bool s, .slice z.A z.l.length z.c] rfl rfl aggSigned (BZ.ext hC) (by simp) rfl ?_
    intro w2 BR hO
    refine wpListIn_nil ?_
    have HS2 : Shape (fun e => e = 160) w.heap.size w1 w2 := Shape.only (T := fun e => e = 160) (Shape.refl _ _ _) (BZ.ext hC) hO BR rfl rfl (by omega)
    have HO2 := Lib.hid (Go.Hx.Own.shape h2 HS2 (by decide))
    have HEE := Lib.hid (Only.ext (hE0.trans hC) hO (by omega))
    have H1 := Lib.hid h1
    clear h1 h2 hz hz' hO
    go_wp2_with fail
    exact bodyPost_ret (results_c rfl rfl BR aggSigned) rfl ⟨z, by rw [HP.out]; rfl, by rw [H1.out, HP.out], HO2.out, HEE.out⟩
  · have dst : (s == t) = false := by simp [hst]
    by_cases hge : n ≤ m
    · have HP : Hid (plusS s m t n = (s, m - n)) := Lib.hid (by unfold plusS; rw [if_neg hst, if_pos hge])
      have HV : Hid (val 2 x.l - val 2 y.l = m - n) := Lib.hid (by rw [HVX.out, HVY.out])
      have HG := Lib.hid hge
      obtain ⟨od, hod⟩ : ∃ od, ordI m n = od := ⟨_, rfl⟩
      have HO : Hid (ordI (val 2 x.l) (val 2 y.l) = od) := Lib.hid (by rw [HVX.out, HVY.out]; exact hod)
      have hod0 : 0 ≤ od := by rw [← hod]; unfold ordI; rw [if_neg (by omega)]; split <;> omega
      have hod1 : od ≤ 1 := by rw [← hod]; unfold ordI; rw [if_neg (by omega)]; split <;> omega
      clear hst hge hod
      go_enter Tryd.func135, Tryd.ntmps135
      go_wp2_with fail
      refine (ref01_Order x y _ (HX.out.ext (by repeat (first | exact Ext.refl _ | assumption | refine Ext.alloc' ?_ _ | refine Ext.drewN' ?_ _ | refine Ext.drew' ?_ | (refine Ext.trans ?_ (by assumption))))) (HY.out.ext (by repeat (first | exact Ext.refl _ | assumption | refine Ext.alloc' ?_ _ | refine Ext.drewN' ?_ _ | refine Ext.drew' ?_ | (refine Ext.trans ?_ (by assumption))))) HBX.out HBY.out HLX.out HLY.out).mono ?_
      rw [HO.out]
      rintro e w1 ⟨rfl, rfl⟩
      go_wp2_with fail
      obtain ⟨WX, hWX⟩ : ∃ W0, W0 = ((w.alloc (.cells #[.bool s, .slice x.A x.l.length x.c] 160)).alloc (.cells #[.bool t, .slice y.A y.l.length y.c] 160)).alloc (.cells #[.bool false, .slice none 0 0] 160) := ⟨_, rfl⟩
      have B0 : Blk WX w.heap.size 160 [.bool s, .slice x.A x.l.length x.c] := by rw [hWX]; exact Blk.alloc (Blk.alloc (Blk.new rfl) _) _
      have B1 : Blk WX (w.heap.size + 1) 160 [.bool t, .slice y.A y.l.length y.c] := by rw [hWX]; exact Blk.alloc (Blk.new (by simp)) _
      have BZ : Blk WX (w.heap.size + 2) 160 [.bool false, .slice none 0 0] := by rw [hWX]; exact Blk.new (by simp)
      have hE0 : Ext w WX := by rw [hWX]; exact Ext.alloc' (Ext.alloc' (Ext.alloc _ _) _) _
      try rw [← hWX]
      clear hWX
      have G0 : Hid (∀ W, Ext WX W → W.cell? ⟨w.heap.size, 0, none⟩ = some (.bool s)) := Lib.hid fun W hW => hW.cell (B0.cell 0)
      have G1 : Hid (∀ W, Ext WX W → W.cell? ⟨w.heap.size, 1, none⟩ = some (.slice x.A x.l.length x.c)) := Lib.hid fun W hW => hW.cell (B0.cell 1)
      have G2 : Hid (∀ W, Ext WX W → W.cell? ⟨w.heap.size + 1, 0, none⟩ = some (.bool t)) := Lib.hid fun W hW => hW.cell (B1.cell 0)
      have G3 : Hid (∀ W, Ext WX W → W.cell? ⟨w.heap.size + 1, 1, none⟩ = some (.slice y.A y.l.length y.c)) := Lib.hid fun W hW => hW.cell (B1.cell 1)
      refine wp_region_flowTail 8 (Ext WX) (fun _ => True) Ext (fun i => if i = 6 then .row (fun v => ∃ (z : LX Nat), v = .slice z.A z.l.length z.c) (fun v W => ∃ z : LX Nat, v = .slice z.A z.l.length z.c ∧ z.l = digs 2 (m - n) ∧ Go.Hx.Own W w.heap.size 5 1 cU8 (.slice z.A z.l.length z.c) z.l) else .det) [6] (by kernel_rfl) (by kernel_rfl) (by kernel_rfl) (Ext.drew _) trivial (keeps_true _) ?_
      iterate 6 (refine ftext_det rfl rfl ?_; apply Exists.intro; refine ⟨fun w hC => ?_, fun K hK => ?_⟩; (first | (go_simp; exact rfl) | (go_simp; rw [G0.out _ hC]; exact ⟨rfl, rfl⟩) | (go_simp; rw [G1.out _ hC]; exact ⟨rfl, rfl⟩) | (go_simp; rw [G2.out _ hC]; exact ⟨rfl, rfl⟩) | (go_simp; rw [G3.out _ hC]; exact ⟨rfl, rfl⟩)); go_simp; refine hK _ ?_; clear hK K)
      refine ftext_row _ _ rfl rfl ⟨_, ⟨[], none, 0⟩, rfl⟩ (fun v w1 w2 ⟨z, h1, h2, h3⟩ hR => ⟨z, h1, h2, h3.ext hR⟩) (fun w1 hC hJ Φ hΦ => ?_) (fun v hv K hK => ?_)
      · go_simp
        refine (ref01_Minus x y _ (HX.out.ext (hE0.trans hC)) (HY.out.ext (hE0.trans hC)) HBX.out HBY.out HLX.out (by rw [HM.out, HN.out]; exact HLN.out _ _ HG.out) (by rw [HVX.out, HVY.out]; exact HG.out)).mono ?_
        rintro e w2 ⟨z, rfl, h1, h2, hE2⟩
        exact ⟨_, rfl, hΦ _ _ ⟨z, rfl⟩ (hC.trans hE2) hE2 ⟨z, rfl, by rw [h1, HV.out], h2.lower (hE0.trans hC).size⟩⟩
      obtain ⟨z1, rfl⟩ := hv
      go_simp; refine hK _ ?_; clear hK K
      iterate 1 (refine ftext_det rfl rfl ?_; apply Exists.intro; refine ⟨fun w hC => ?_, fun K hK => ?_⟩; (first | (go_simp; exact rfl) | (go_simp; rw [G0.out _ hC]; exact ⟨rfl, rfl⟩) | (go_simp; rw [G1.out _ hC]; exact ⟨rfl, rfl⟩) | (go_simp; rw [G2.out _ hC]; exact ⟨rfl, rfl⟩) | (go_simp; rw [G3.out _ hC]; exact ⟨rfl, rfl⟩)); go_simp; refine hK _ ?_; clear hK K)
      refine ftext_nil ?_
      rintro w1 hC ⟨z, hz, h1, h2⟩ _
      have hz' : Value.slice z1.A z1.l.length z1.c = Value.slice z.A z.l.length z.c := hz
      simp only [hz', List.drop_succ_cons, List.drop_zero]
      refine wplIn_store Open.wide 160 (.tmp 4) (.tmp 31) rfl rfl (w.heap.size + 2) 0 160 [.bool false, .slice none 0 0] [.bool s, .slice z.A z.l.length z.c] rfl rfl aggSigned (BZ.ext hC) (by simp) rfl ?_
      intro w2 BR hO
      refine wpListIn_nil ?_
      have HS2 : Shape (fun e => e = 160) w.heap.size w1 w2 := Shape.only (T := fun e => e = 160) (Shape.refl _ _ _) (BZ.ext hC) hO BR rfl rfl (by omega)
      have HO2 := Lib.hid (Go.Hx.Own.shape h2 HS2 (by decide))
      have HEE := Lib.hid (Only.ext (hE0.trans hC) hO (by omega))
      have H1 := Lib.hid h1
      clear h1 h2 hz hz' hO
      go_wp2_with fail
      exact bodyPost_ret (results_c rfl rfl BR aggSigned) rfl ⟨z, by rw [HP.out]; rfl, by rw [H1.out, HP.out], HO2.out, HEE.out⟩
    · have HP : Hid (plusS s m t n = (t, n - m)) := Lib.hid (by unfold plusS; rw [if_neg hst, if_neg hge])
      have HV : Hid (val 2 y.l - val 2 x.l = n - m) := Lib.hid (by rw [HVX.out, HVY.out])
      have HG := Lib.hid (show m ≤ n by omega)
      obtain ⟨od, hod⟩ : ∃ od, ordI m n = od := ⟨_, rfl⟩
      have HO : Hid (ordI (val 2 x.l) (val 2 y.l) = od) := Lib.hid (by rw [HVX.out, HVY.out]; exact hod)
      have hod0 : od < 0 := by rw [← hod]; unfold ordI; rw [if_pos (by omega)]; omega
      clear hst hge hod
      go_enter Tryd.func135, Tryd.ntmps135
      go_wp2_with fail
      refine (ref01_Order x y _ (HX.out.ext (by repeat (first | exact Ext.refl _ | assumption | refine Ext.alloc' ?_ _ | refine Ext.drewN' ?_ _ | refine Ext.drew' ?_ | (refine Ext.trans ?_ (by assumption))))) (HY.out.ext (by repeat (first | exact Ext.refl _ | assumption | refine Ext.alloc' ?_ _ | refine Ext.drewN' ?_ _ | refine Ext.drew' ?_ | (refine Ext.trans ?_ (by assumption))))) HBX.out HBY.out HLX.out HLY.out).mono ?_
      rw [HO.out]
      rintro e w1 ⟨rfl, rfl⟩
      go_wp2_with fail
      obtain ⟨WX, hWX⟩ : ∃ W0, W0 = ((w.alloc (.cells #[.bool s, .slice x.A x.l.length x.c] 160)).alloc (.cells #[.bool t, .slice y.A y.l.length y.c] 160)).alloc (.cells #[.bool false, .slice none 0 0] 160) := ⟨_, rfl⟩
      have B0 : Blk WX w.heap.size 160 [.bool s, .slice x.A x.l.length x.c] := by rw [hWX]; exact Blk.alloc (Blk.alloc (Blk.new rfl) _) _
      have B1 : Blk WX (w.heap.size + 1) 160 [.bool t, .slice y.A y.l.length y.c] := by rw [hWX]; exact Blk.alloc (Blk.new (by simp)) _
      have BZ : Blk WX (w.heap.size + 2) 160 [.bool false, .slice none 0 0] := by rw [hWX]; exact Blk.new (by simp)
      have hE0 : Ext w WX := by rw [hWX]; exact Ext.alloc' (Ext.alloc' (Ext.alloc _ _) _) _
      try rw [← hWX]
      clear hWX
      have G0 : Hid (∀ W, Ext WX W → W.cell? ⟨w.heap.size, 0, none⟩ = some (.bool s)) := Lib.hid fun W hW => hW.cell (B0.cell 0)
      have G1 : Hid (∀ W, Ext WX W → W.cell? ⟨w.heap.size, 1, none⟩ = some (.slice x.A x.l.length x.c)) := Lib.hid fun W hW => hW.cell (B0.cell 1)
      have G2 : Hid (∀ W, Ext WX W → W.cell? ⟨w.heap.size + 1, 0, none⟩ = some (.bool t)) := Lib.hid fun W hW => hW.cell (B1.cell 0)
      have G3 : Hid (∀ W, Ext WX W → W.cell? ⟨w.heap.size + 1, 1, none⟩ = some (.slice y.A y.l.length y.c)) := Lib.hid fun W hW => hW.cell (B1.cell 1)
      refine wp_region_flowTail 8 (Ext WX) (fun _ => True) Ext (fun i => if i = 6 then .row (fun v => ∃ (z : LX Nat), v = .slice z.A z.l.length z.c) (fun v W => ∃ z : LX Nat, v = .slice z.A z.l.length z.c ∧ z.l = digs 2 (n - m) ∧ Go.Hx.Own W w.heap.size 5 1 cU8 (.slice z.A z.l.length z.c) z.l) else .det) [6] (by kernel_rfl) (by kernel_rfl) (by kernel_rfl) (Ext.drew _) trivial (keeps_true _) ?_
      iterate 6 (refine ftext_det rfl rfl ?_; apply Exists.intro; refine ⟨fun w hC => ?_, fun K hK => ?_⟩; (first | (go_simp; exact rfl) | (go_simp; rw [G0.out _ hC]; exact ⟨rfl, rfl⟩) | (go_simp; rw [G1.out _ hC]; exact ⟨rfl, rfl⟩) | (go_simp; rw [G2.out _ hC]; exact ⟨rfl, rfl⟩) | (go_simp; rw [G3.out _ hC]; exact ⟨rfl, rfl⟩)); go_simp; refine hK _ ?_; clear hK K)
      refine ftext_row _ _ rfl rfl ⟨_, ⟨[], none, 0⟩, rfl⟩ (fun v w1 w2 ⟨z, h1, h2, h3⟩ hR => ⟨z, h1, h2, h3.ext hR⟩) (fun w1 hC hJ Φ hΦ => ?_) (fun v hv K hK => ?_)
      · go_simp
        refine (ref01_Minus y x _ (HY.out.ext (hE0.trans hC)) (HX.out.ext (hE0.trans hC)) HBY.out HBX.out HLY.out (by rw [HM.out, HN.out]; exact HLN.out _ _ HG.out) (by rw [HVX.out, HVY.out]; exact HG.out)).mono ?_
        rintro e w2 ⟨z, rfl, h1, h2, hE2⟩
        exact ⟨_, rfl, hΦ _ _ ⟨z, rfl⟩ (hC.trans hE2) hE2 ⟨z, rfl, by rw [h1, HV.out], h2.lower (hE0.trans hC).size⟩⟩
      obtain ⟨z1, rfl⟩ := hv
      go_simp; refine hK _ ?_; clear hK K
      iterate 1 (refine ftext_det rfl rfl ?_; apply Exists.intro; refine ⟨fun w hC => ?_, fun K hK => ?_⟩; (first | (go_simp; exact rfl) | (go_simp; rw [G0.out _ hC]; exact ⟨rfl, rfl⟩) | (go_simp; rw [G1.out _ hC]; exact ⟨rfl, rfl⟩) | (go_simp; rw [G2.out _ hC]; exact ⟨rfl, rfl⟩) | (go_simp; rw [G3.out _ hC]; exact ⟨rfl, rfl⟩)); go_simp; refine hK _ ?_; clear hK K)
      refine ftext_nil ?_
      rintro w1 hC ⟨z, hz, h1, h2⟩ _
      have hz' : Value.slice z1.A z1.l.length z1.c = Value.slice z.A z.l.length z.c := hz
      simp only [hz', List.drop_succ_cons, List.drop_zero]
      refine wplIn_store Open.wide 160 (.tmp 4) (.tmp 39) rfl rfl (w.heap.size + 2) 0 160 [.bool false, .slice none 0 0] [.bool t, .slice z.A z.l.length z.c] rfl rfl aggSigned (BZ.ext hC) (by simp) rfl ?_
      intro w2 BR hO
      refine wpListIn_nil ?_
      have HS2 : Shape (fun e => e = 160) w.heap.size w1 w2 := Shape.only (T := fun e => e = 160) (Shape.refl _ _ _) (BZ.ext hC) hO BR rfl rfl (by omega)
      have HO2 := Lib.hid (Go.Hx.Own.shape h2 HS2 (by decide))
      have HEE := Lib.hid (Only.ext (hE0.trans hC) hO (by omega))
      have H1 := Lib.hid h1
      clear h1 h2 hz hz' hO
      go_wp2_with fail
      exact bodyPost_ret (results_c rfl rfl BR aggSigned) rfl ⟨z, by rw [HP.out]; rfl, by rw [H1.out, HP.out], HO2.out, HEE.out⟩
end Go.Proofs.YtgcbnagfdfgpnaaDoor
end
section
namespace Go.Proofs.YtgcbnagfdfgpnaaDoor
open Go.RowKit Go.Hx
attribute [local go_sem] detUpon undIn
/-- the loop of Formed: what is still to be made a dyad -/
def FormI (w : World) (s : Bool) (k0 n k m : Nat) (z : LX Nat) : Prop :=
  z.ok w w.heap.size cU8 ∧ Bits z.l ∧ z.l = digs 2 m ∧ formD s k m = formD s k0 n ∧ z.l.length ≤ 100000
set_option maxRecDepth 100000 in
set_option maxHeartbeats 20000000 in
theorem ref02_Formed (s : Bool) (x : LX Nat) (k0 : Nat) (w : World) (hx : x.ok w w.heap.size cU8) (hb : Bits x.l) (hl : x.l.length ≤ 100000) (hk : k0 ≤ 3000) :
    Calls Tryd.prog 91 #[.agg #[.bool s, .slice x.A x.l.length x.c], .int .i64 k0] w fun e w' => ∃ y : XDyad, e = .returned (.tuple #[.agg #[.bool y.neg, .slice y.limbs.A y.limbs.l.length y.limbs.c, .int .i64 y.exp], .int .i64 (formD s k0 (val 2 x.l)).2]) ∧ y.data = (formD s k0 (val 2 x.l)).1 ∧ Go.Hx.Own w' w.heap.size 33 1 cU32 (.slice y.limbs.A y.limbs.l.length y.limbs.c) y.limbs.l ∧ Ext w w' := by
  have HX := Lib.hid hx
  have HB := Lib.hid hb
  have HL := Lib.hid hl
  obtain ⟨n, hn⟩ : ∃ n, val 2 x.l = n := ⟨_, rfl⟩
  have HN := Lib.hid hn
  simp only [hn]
  clear hx hb hl hn
  go_enter Tryd.func91, Tryd.ntmps91
  go_wp2_with fail
  refine (ref01_Cut x _ (HX.out.ext (by repeat (first | exact Ext.refl _ | assumption | refine Ext.alloc' ?_ _ | refine Ext.drewN' ?_ _ | refine Ext.drew' ?_ | (refine Ext.trans ?_ (by assumption))))) HB.out).mono ?_
  rintro e w1 ⟨j, hj, hd, rfl, rfl⟩
  rw [HN.out] at hd
  obtain ⟨z0, hz0⟩ : ∃ z0 : LX Nat, z0 = ⟨x.l.take j, x.A, x.c⟩ := ⟨_, rfl⟩
  have hzl : z0.l.length = j := by rw [hz0]; simp [List.length_take, hj]
  have hzv : Value.slice x.A j x.c = .slice z0.A z0.l.length z0.c := by rw [hzl, hz0]
  have H0 : Hid (FormI w s k0 n k0 n z0) := Lib.hid (by
    have hX := HX.out
    rw [hz0]
    refine ⟨⟨?_, ?_, hX.2.2⟩, fun q hq => HB.out q (List.mem_of_mem_take hq), hd, rfl, ?_⟩
    · rcases hX.1 with h | ⟨b, off, h1, h2, h3⟩
      · exact .inl (by simp only [h, List.take_nil])
      · have := Sl.part (size := 1) (w := w) (B := w.heap.size) (enc := cU8) (fun _ => rfl) h2 h3 0 j
        simp only [Nat.zero_mul, Nat.add_zero, List.drop_zero] at this
        rw [h1]; exact this
    · have := hX.2.1; simp only [List.length_take]; omega
    · have := HL.out; simp only [List.length_take]; omega)
  rw [hzv]
  clear hd hz0 hzl hzv hj
  go_wp2_with fail
  obtain ⟨WX, hWX⟩ : ∃ W0, W0 = (w.alloc (.cells #[.bool s, .slice x.A x.l.length x.c] 160)).alloc (.cells #[.bool false, .slice none 0 0, .int .i64 0] 24) := ⟨_, rfl⟩
  have B0 : Blk WX w.heap.size 160 [.bool s, .slice x.A x.l.length x.c] := by rw [hWX]; exact Blk.alloc (Blk.new rfl) _
  have BZ : Blk WX (w.heap.size + 1) 24 [.bool false, .slice none 0 0, .int .i64 0] := by rw [hWX]; exact Blk.new (by simp)
  have hE0 : Ext w WX := by rw [hWX]; exact Ext.alloc' (Ext.alloc _ _) _
  have HWS : Hid (WX.heap.size = w.heap.size + 2) := Lib.hid (by rw [hWX]; simp)
  rw [← hWX]
  clear hWX
  have G0 : Hid (∀ W, Ext WX W → W.cell? ⟨w.heap.size, 0, none⟩ = some (.bool s)) := Lib.hid fun W hW => hW.cell (B0.cell 0)
  go_loop [1, 6] (fun i v => ∃ k m : Nat, ∃ z : LX Nat, k ≤ 3000 ∧ i = .int .i64 k ∧ v = .slice z.A z.l.length z.c ∧ Hid (FormI w s k0 n k m z)) (fun i _ => (intOf i).toNat)
  case atStart => exact ⟨k0, n, z0, hk, rfl, rfl, H0⟩
  case round =>
    obtain ⟨k, m, z, hk', rfl, rfl, HZ⟩ := hrel
    have HV : Hid (val 2 z.l = m) := Lib.hid (by rw [HZ.out.2.2.1]; exact val_digs (by omega) m)
    have hzc : z.l.length ≤ z.c := HZ.out.1.2.1
    have hzc2 : z.c ≤ 2 ^ 63 - 1 := by have := HZ.out.1.2.2; unfold maxLen at this; omega
    by_cases h0 : z.l.length = 0
    · have hm0 : m = 0 := (digs_nil (b := 2) (by omega)).1 (by rw [← HZ.out.2.2.1]; exact List.eq_nil_of_length_eq_zero h0)
      have HF : Hid (formD s k0 n = (PDyad.zero, 0)) := Lib.hid (by rw [← HZ.out.2.2.2.1, hm0, formD_zero])
      have d0 : ((z.l.length : Int) == 0) = true := by rw [beq_iff_eq]; omega
      have d1 : decide ((0 : Int) < (z.l.length : Int)) = false := decide_eq_false (by omega)
      have d2 : decide (0 < z.l.length) = false := decide_eq_false (by omega)
      clear h0 hm0
      by_cases hk0 : k = 0
      · subst hk0
        go_wp2_with (first | ((with_reducible refine wpl_store 24 (.tmp 4) (.tmp 31) ?_ ?_ (w.heap.size + 1) 0 24 [.bool false, .slice none 0 0, .int .i64 0] [.bool false, .slice none 0 0, .int .i64 0] ?_ ?_ ?_ ?_ ?_ ?_ ?_); (exact rfl); (exact rfl); (exact rfl); (exact rfl); (exact aggDyad); (exact BZ); (exact by simp); (exact rfl); (intro w2 BR hO)) | fail)
        exact bodyPost_ret (results_ct rfl rfl BR aggDyad) rfl ⟨XDyad.zero, by rw [HF.out]; rfl, by rw [HF.out]; rfl, Go.Hx.Own.nil _ _ _ _ _, Only.ext hE0 hO (by omega)⟩
      · have e1 : decide ((0 : Int) < (k : Int)) = true := decide_eq_true (by omega)
        have e2 : decide (0 < k) = true := decide_eq_true (by omega)
        clear hk0
        go_wp2_with (first | ((with_reducible refine wpl_store 24 (.tmp 4) (.tmp 31) ?_ ?_ (w.heap.size + 1) 0 24 [.bool false, .slice none 0 0, .int .i64 0] [.bool false, .slice none 0 0, .int .i64 0] ?_ ?_ ?_ ?_ ?_ ?_ ?_); (exact rfl); (exact rfl); (exact rfl); (exact rfl); (exact aggDyad); (exact BZ); (exact by simp); (exact rfl); (intro w2 BR hO)) | fail)
        exact bodyPost_ret (results_ct rfl rfl BR aggDyad) rfl ⟨XDyad.zero, by rw [HF.out]; rfl, by rw [HF.out]; rfl, Go.Hx.Own.nil _ _ _ _ _, Only.ext hE0 hO (by omega)⟩
    · have HM0 : Hid (m ≠ 0) := Lib.hid fun h => h0 (by rw [HZ.out.2.2.1, h, digs_zero]; rfl)
      have d0 : ((z.l.length : Int) == 0) = false := by rw [beq_eq_false_iff_ne]; omega
      have d1 : decide ((0 : Int) < (z.l.length : Int)) = true := decide_eq_true (by omega)
      have d2 : decide (0 < z.l.length) = true := decide_eq_true (by omega)
      have hlt : 0 < z.l.length := by omega
      have hli : (0 : Int) < (z.l.length : Int) := by omega
      have hli1 : (1 : Int) ≤ (z.l.length : Int) := by omega
      by_cases hk0 : k = 0
      · have HMK : Hid (k = 0 ∨ m % 2 = 1) := Lib.hid (.inl hk0)
        have e1 : decide ((0 : Int) < (k : Int)) = false := decide_eq_false (by omega)
        have e2 : decide (0 < k) = false := decide_eq_false (by omega)
        clear h0 hk0
        go_wp2_with fail
        refine wp_region_flowTail 7 (Ext WX) (fun _ => True) Ext (fun i => if i = 3 then .row (fun v => ∃ (z : LX Nat), v = .slice z.A z.l.length z.c) (fun v W => ∃ y : LX Nat, v = .slice y.A y.l.length y.c ∧ y.l = digs B32 m ∧ Go.Hx.Own W w.heap.size 33 1 cU32 (.slice y.A y.l.length y.c) y.l) else if i = 6 then .free (fun v => ∃ g : Nat, v = .pointer (some ⟨g, 0, none⟩)) (fun v W => ∃ g : Nat, v = .pointer (some ⟨g, 0, none⟩) ∧ w.heap.size + 2 ≤ g ∧ Blk W g 24 [.bool false, .slice none 0 0, .int .i64 0]) else .det) [3] (by kernel_rfl) (by kernel_rfl) (by kernel_rfl) (Ext.drew _) trivial (keeps_true _) ?_
        iterate 3 (refine ftext_det rfl rfl ?_; apply Exists.intro; refine ⟨fun w hC => ?_, fun K hK => ?_⟩; (first | (go_simp; exact rfl) | (go_simp; rw [G0.out _ hC]; exact ⟨rfl, rfl⟩)); go_simp; refine hK _ ?_; clear hK K)
        refine ftext_row _ _ rfl rfl ⟨_, ⟨[], none, 0⟩, rfl⟩ (fun v w1 w2 ⟨z, h1, h2, h3⟩ hR => ⟨z, h1, h2, h3.ext hR⟩) (fun w1 hC hJ Φ hΦ => ?_) (fun v hv K hK => ?_)
        · go_simp
          refine (ref01_Limbs z _ (HZ.out.1.ext (hE0.trans hC)) HZ.out.2.1 HZ.out.2.2.2.2).mono ?_
          rintro e w2 ⟨y, rfl, h1, h2, hE2⟩
          exact ⟨_, rfl, hΦ _ _ ⟨y, rfl⟩ (hC.trans hE2) hE2 ⟨y, rfl, by rw [h1, HV.out], h2.lower (hE0.trans hC).size⟩⟩
        obtain ⟨z1, rfl⟩ := hv
        go_simp; refine hK _ ?_; clear hK K
        iterate 2 (refine ftext_det rfl rfl ?_; apply Exists.intro; refine ⟨fun w hC => ?_, fun K hK => ?_⟩; (first | (go_simp; exact rfl) | (go_simp; rw [G0.out _ hC]; exact ⟨rfl, rfl⟩)); go_simp; refine hK _ ?_; clear hK K)
        refine ftext_free _ _ rfl rfl ⟨_, 0, rfl⟩ (fun v w1 w2 ⟨g, h1, h2, h3⟩ hR => ⟨g, h1, h2, h3.ext hR⟩) (fun w1 hC Φ hΦ => ?_) (fun v hv K hK => ?_)
        · go_simp
          exact hΦ _ _ ⟨_, rfl⟩ (hC.trans (Ext.alloc _ _)) (Ext.alloc _ _) ⟨_, rfl, by have := hC.size; have := HWS.out; omega, Blk.new rfl⟩
        obtain ⟨g1, rfl⟩ := hv
        go_simp; refine hK _ ?_; clear hK K
        refine ftext_nil ?_
        rintro w1 hC ⟨y, hy, h1, h2⟩ ⟨_, g, hg, hgs, Bg⟩
        have hy' : Value.slice z1.A z1.l.length z1.c = Value.slice y.A y.l.length y.c := hy
        have hg' : Value.pointer (some ⟨g1, 0, none⟩) = Value.pointer (some ⟨g, 0, none⟩) := hg
        simp only [hy', hg', List.drop_succ_cons, List.drop_zero]
        refine wplIn_store Open.wide 24 (.tmp 7) (.tmp 37) rfl rfl (g) 0 24 [.bool false, .slice none 0 0, .int .i64 0] [.bool s, .slice y.A y.l.length y.c, .int .i64 (k : Int)] rfl rfl aggDyad Bg (by simp) rfl ?_
        intro w2 BR hO
        refine wpListIn_nil ?_
        have HS2 : Shape (fun e => e = 24) w.heap.size w1 w2 := Shape.only (T := fun e => e = 24) (Shape.refl _ _ _) Bg hO BR rfl rfl (by omega)
        have HO2 := Lib.hid (Go.Hx.Own.shape h2 HS2 (by decide))
        have HEE := Lib.hid (Only.ext (hE0.trans hC) hO (by omega))
        have HB2 := Lib.hid ((BZ.ext hC).only hO (by omega))
        have H1 := Lib.hid h1
        have BRR : Blk w2 g 24 [.bool s, .slice y.A y.l.length y.c, .int .i64 (k : Int)] := BR
        clear h1 h2 hy hg hy' hg' hO HS2 Bg hC BR
        go_wp2_with (first | ((with_reducible refine wpl_load 24 (.tmp 7) ?_ ?_ (g) 0 [.bool s, .slice y.A y.l.length y.c, .int .i64 (k : Int)] ?_ ?_ ?_ ?_); (exact rfl); (exact rfl); (exact rfl); (exact aggDyad); (exact BRR.row)) | fail)
        refine (ref02_May ⟨s, y, (k : Int)⟩ _ ⟨HO2.out.ok.ext (by repeat (first | exact Ext.refl _ | assumption | refine Ext.alloc' ?_ _ | refine Ext.drewN' ?_ _ | refine Ext.drew' ?_ | (refine Ext.trans ?_ (by assumption))))⟩).mono ?_
        rintro e w3 ⟨rfl, hE3⟩
        have HD : Hid (XDyad.data ⟨s, y, (k : Int)⟩ = ⟨s, digs B32 m, (k : Int)⟩) := Lib.hid (by simp only [XDyad.data, H1.out])
        have HZ3 := Lib.hid (HB2.out.ext hE3)
        have HG3 := Lib.hid (BRR.ext hE3)
        by_cases hmay : mayD (XDyad.data ⟨s, y, (k : Int)⟩)
        · have dm : decide (mayD (XDyad.data ⟨s, y, (k : Int)⟩)) = true := decide_eq_true hmay
          have HR : Hid (formD s k0 n = (XDyad.data ⟨s, y, (k : Int)⟩, 0)) := Lib.hid (by rw [← HZ.out.2.2.2.1, formD_end HM0.out HMK.out, finD_may HM0.out HMK.out, if_pos (by rw [← HD.out]; exact hmay), HD.out])
          rw [dm]
          clear dm hmay
          go_wp2_with (first | ((with_reducible refine wpl_load 24 (.tmp 7) ?_ ?_ (g) 0 [.bool s, .slice y.A y.l.length y.c, .int .i64 (k : Int)] ?_ ?_ ?_ ?_); (exact rfl); (exact rfl); (exact rfl); (exact aggDyad); (exact HG3.out.row)) | ((with_reducible refine wpl_store 24 (.tmp 4) (.tmp 42) ?_ ?_ (w.heap.size + 1) 0 24 [.bool false, .slice none 0 0, .int .i64 0] [.bool s, .slice y.A y.l.length y.c, .int .i64 (k : Int)] ?_ ?_ ?_ ?_ ?_ ?_ ?_); (exact rfl); (exact rfl); (exact rfl); (exact rfl); (exact aggDyad); (exact HZ3.out); (exact by simp); (exact rfl); (intro w4 BR2 hO2)) | fail)
          have HS4 : Shape (fun e => e = 24) w.heap.size _ w4 := Shape.only (T := fun e => e = 24) (Shape.refl _ _ _) HZ3.out hO2 BR2 rfl rfl (by omega)
          exact bodyPost_ret (results_ct rfl rfl BR2 aggDyad) rfl ⟨⟨s, y, (k : Int)⟩, by rw [HR.out] <;> rfl, by rw [HR.out] <;> rfl, Go.Hx.Own.shape (HO2.out.ext hE3) HS4 (by decide), Only.ext (HEE.out.trans hE3) hO2 (by omega)⟩
        · have dm : decide (mayD (XDyad.data ⟨s, y, (k : Int)⟩)) = false := decide_eq_false hmay
          have HR : Hid (formD s k0 n = (PDyad.zero, 10)) := Lib.hid (by rw [← HZ.out.2.2.2.1, formD_end HM0.out HMK.out, finD_may HM0.out HMK.out, if_neg (by rw [← HD.out]; exact hmay)])
          rw [dm]
          clear dm hmay
          go_wp2_with (first | ((with_reducible refine wpl_store 24 (.tmp 4) (.tmp 41) ?_ ?_ (w.heap.size + 1) 0 24 [.bool false, .slice none 0 0, .int .i64 0] [.bool false, .slice none 0 0, .int .i64 0] ?_ ?_ ?_ ?_ ?_ ?_ ?_); (exact rfl); (exact rfl); (exact rfl); (exact rfl); (exact aggDyad); (exact HZ3.out); (exact by simp); (exact rfl); (intro w4 BR2 hO2)) | fail)
          exact bodyPost_ret (results_ct rfl rfl BR2 aggDyad) rfl ⟨XDyad.zero, by rw [HR.out] <;> rfl, by rw [HR.out] <;> rfl, Go.Hx.Own.nil _ _ _ _ _, Only.ext (HEE.out.trans hE3) hO2 (by omega)⟩
      · have e1 : decide ((0 : Int) < (k : Int)) = true := decide_eq_true (by omega)
        have e2 : decide (0 < k) = true := decide_eq_true (by omega)
        obtain ⟨b, off, hA, _, r⟩ := Sl.row (size := 1) (fun _ => rfl) HZ.out.1.1 (List.getElem?_eq_getElem hlt)
        obtain ⟨p, hp⟩ : ∃ p, z.l[0] = p := ⟨_, rfl⟩
        have hc : w.cell? ⟨b, off, none⟩ = some (.int .u8 p) := by have := r 0 _ rfl; rw [hp] at this; simpa using this
        have hcX : WX.cell? ⟨b, off, none⟩ = some (.int .u8 p) := hE0.cell hc
        have hpm : p = m % 2 := by
          have h1 : z.l[0]? = some p := by rw [List.getElem?_eq_getElem hlt, hp]
          rw [HZ.out.2.2.1, digs_pos (by omega) HM0.out] at h1
          simpa using h1.symm
        obtain ⟨l, A, c⟩ := z
        dsimp only at *
        subst hA
        by_cases hp0 : p = 0
        · have hpi : ((p : Int) == 0) = true := by simp [hp0]
          have hsub : IntKind.i64.wrap ((k : Int) - 1) = ((k - 1 : Nat) : Int) := by rw [IntWalk.i64_in _ (by omega)]; omega
          have HI : Hid (FormI w s k0 n (k - 1) (m / 2) ⟨l.drop 1, (if c = 1 then some ⟨b, off, none⟩ else some ⟨b, off + 1, none⟩), c - 1⟩) := Lib.hid (by
            obtain ⟨⟨g1, g2, g3⟩, g4, g5, g6, g7⟩ := HZ.out
            dsimp only at *
            refine ⟨⟨?_, ?_, ?_⟩, fun q hq => g4 q (List.mem_of_mem_drop hq), ?_, ?_, ?_⟩
            · rcases g1 with h | ⟨b', off', h1, h2, h3⟩
              · rw [h] at hlt; exact absurd hlt (by simp)
              · cases h1
                have := Sl.part (size := 1) (w := w) (B := w.heap.size) (enc := cU8) (fun _ => rfl) h2 h3 1 l.length
                rw [List.take_length] at this
                by_cases hc1 : c = 1
                · exact .inl (List.eq_nil_of_length_eq_zero (by simp only [List.length_drop]; omega))
                · simp only [hc1, if_false]; exact this
            · simp only [List.length_drop]; omega
            · dsimp only; omega
            · dsimp only; rw [g5, digs_pos (by omega) HM0.out]; rfl
            · obtain ⟨k', rfl⟩ : ∃ k', k = k' + 1 := ⟨k - 1, by omega⟩
              rw [← g6, formD_even HM0.out (by omega)]; rfl
            · simp only [List.length_drop]; omega)
          have hkp : 0 < k := by omega
          clear h0 hk0 r hp hpm hp0
          go_wp2_with fail
          go_round
          case rel => exact ⟨k - 1, m / 2, ⟨l.drop 1, (if c = 1 then some ⟨b, off, none⟩ else some ⟨b, off + 1, none⟩), c - 1⟩, by omega, by go_num, by simp only [List.length_drop], HI⟩
          case measure => simp [intOf]; omega
        · have hpi : ((p : Int) == 0) = false := by simp [hp0]
          have HMK : Hid (k = 0 ∨ m % 2 = 1) := Lib.hid (.inr (by omega))
          clear h0 hk0 r hp hpm hp0
          go_wp2_with fail
          refine wp_region_flowTail 7 (Ext WX) (fun _ => True) Ext (fun i => if i = 3 then .row (fun v => ∃ (z : LX Nat), v = .slice z.A z.l.length z.c) (fun v W => ∃ y : LX Nat, v = .slice y.A y.l.length y.c ∧ y.l = digs B32 m ∧ Go.Hx.Own W w.heap.size 33 1 cU32 (.slice y.A y.l.length y.c) y.l) else if i = 6 then .free (fun v => ∃ g : Nat, v = .pointer (some ⟨g, 0, none⟩)) (fun v W => ∃ g : Nat, v = .pointer (some ⟨g, 0, none⟩) ∧ w.heap.size + 2 ≤ g ∧ Blk W g 24 [.bool false, .slice none 0 0, .int .i64 0]) else .det) [3] (by kernel_rfl) (by kernel_rfl) (by kernel_rfl) (Ext.drew _) trivial (keeps_true _) ?_
          iterate 3 (refine ftext_det rfl rfl ?_; apply Exists.intro; refine ⟨fun w hC => ?_, fun K hK => ?_⟩; (first | (go_simp; exact rfl) | (go_simp; rw [G0.out _ hC]; exact ⟨rfl, rfl⟩)); go_simp; refine hK _ ?_; clear hK K)
          refine ftext_row _ _ rfl rfl ⟨_, ⟨[], none, 0⟩, rfl⟩ (fun v w1 w2 ⟨z, h1, h2, h3⟩ hR => ⟨z, h1, h2, h3.ext hR⟩) (fun w1 hC hJ Φ hΦ => ?_) (fun v hv K hK => ?_)
          · go_simp
            refine (ref01_Limbs ⟨l, some ⟨b, off, none⟩, c⟩ _ (HZ.out.1.ext (hE0.trans hC)) HZ.out.2.1 HZ.out.2.2.2.2).mono ?_
            rintro e w2 ⟨y, rfl, h1, h2, hE2⟩
            exact ⟨_, rfl, hΦ _ _ ⟨y, rfl⟩ (hC.trans hE2) hE2 ⟨y, rfl, by rw [h1, HV.out], h2.lower (hE0.trans hC).size⟩⟩
          obtain ⟨z1, rfl⟩ := hv
          go_simp; refine hK _ ?_; clear hK K
          iterate 2 (refine ftext_det rfl rfl ?_; apply Exists.intro; refine ⟨fun w hC => ?_, fun K hK => ?_⟩; (first | (go_simp; exact rfl) | (go_simp; rw [G0.out _ hC]; exact ⟨rfl, rfl⟩)); go_simp; refine hK _ ?_; clear hK K)
          refine ftext_free _ _ rfl rfl ⟨_, 0, rfl⟩ (fun v w1 w2 ⟨g, h1, h2, h3⟩ hR => ⟨g, h1, h2, h3.ext hR⟩) (fun w1 hC Φ hΦ => ?_) (fun v hv K hK => ?_)
          · go_simp
            exact hΦ _ _ ⟨_, rfl⟩ (hC.trans (Ext.alloc _ _)) (Ext.alloc _ _) ⟨_, rfl, by have := hC.size; have := HWS.out; omega, Blk.new rfl⟩
          obtain ⟨g1, rfl⟩ := hv
          go_simp; refine hK _ ?_; clear hK K
          refine ftext_nil ?_
          rintro w1 hC ⟨y, hy, h1, h2⟩ ⟨_, g, hg, hgs, Bg⟩
          have hy' : Value.slice z1.A z1.l.length z1.c = Value.slice y.A y.l.length y.c := hy
          have hg' : Value.pointer (some ⟨g1, 0, none⟩) = Value.pointer (some ⟨g, 0, none⟩) := hg
          simp only [hy', hg', List.drop_succ_cons, List.drop_zero]
          refine wplIn_store Open.wide 24 (.tmp 7) (.tmp 37) rfl rfl (g) 0 24 [.bool false, .slice none 0 0, .int .i64 0] [.bool s, .slice y.A y.l.length y.c, .int .i64 (k : Int)] rfl rfl aggDyad Bg (by simp) rfl ?_
          intro w2 BR hO
          refine wpListIn_nil ?_
          have HS2 : Shape (fun e => e = 24) w.heap.size w1 w2 := Shape.only (T := fun e => e = 24) (Shape.refl _ _ _) Bg hO BR rfl rfl (by omega)
          have HO2 := Lib.hid (Go.Hx.Own.shape h2 HS2 (by decide))
          have HEE := Lib.hid (Only.ext (hE0.trans hC) hO (by omega))
          have HB2 := Lib.hid ((BZ.ext hC).only hO (by omega))
          have H1 := Lib.hid h1
          have BRR : Blk w2 g 24 [.bool s, .slice y.A y.l.length y.c, .int .i64 (k : Int)] := BR
          clear h1 h2 hy hg hy' hg' hO HS2 Bg hC BR
          go_wp2_with (first | ((with_reducible refine wpl_load 24 (.tmp 7) ?_ ?_ (g) 0 [.bool s, .slice y.A y.l.length y.c, .int .i64 (k : Int)] ?_ ?_ ?_ ?_); (exact rfl); (exact rfl); (exact rfl); (exact aggDyad); (exact BRR.row)) | fail)
          refine (ref02_May ⟨s, y, (k : Int)⟩ _ ⟨HO2.out.ok.ext (by repeat (first | exact Ext.refl _ | assumption | refine Ext.alloc' ?_ _ | refine Ext.drewN' ?_ _ | refine Ext.drew' ?_ | (refine Ext.trans ?_ (by assumption))))⟩).mono ?_
          rintro e w3 ⟨rfl, hE3⟩
          have HD : Hid (XDyad.data ⟨s, y, (k : Int)⟩ = ⟨s, digs B32 m, (k : Int)⟩) := Lib.hid (by simp only [XDyad.data, H1.out])
          have HZ3 := Lib.hid (HB2.out.ext hE3)
          have HG3 := Lib.hid (BRR.ext hE3)
          by_cases hmay : mayD (XDyad.data ⟨s, y, (k : Int)⟩)
          · have dm : decide (mayD (XDyad.data ⟨s, y, (k : Int)⟩)) = true := decide_eq_true hmay
            have HR : Hid (formD s k0 n = (XDyad.data ⟨s, y, (k : Int)⟩, 0)) := Lib.hid (by rw [← HZ.out.2.2.2.1, formD_end HM0.out HMK.out, finD_may HM0.out HMK.out, if_pos (by rw [← HD.out]; exact hmay), HD.out])
            rw [dm]
            clear dm hmay
            go_wp2_with (first | ((with_reducible refine wpl_load 24 (.tmp 7) ?_ ?_ (g) 0 [.bool s, .slice y.A y.l.length y.c, .int .i64 (k : Int)] ?_ ?_ ?_ ?_); (exact rfl); (exact rfl); (exact rfl); (exact aggDyad); (exact HG3.out.row)) | ((with_reducible refine wpl_store 24 (.tmp 4) (.tmp 42) ?_ ?_ (w.heap.size + 1) 0 24 [.bool false, .slice none 0 0, .int .i64 0] [.bool s, .slice y.A y.l.length y.c, .int .i64 (k : Int)] ?_ ?_ ?_ ?_ ?_ ?_ ?_); (exact rfl); (exact rfl); (exact rfl); (exact rfl); (exact aggDyad); (exact HZ3.out); (exact by simp); (exact rfl); (intro w4 BR2 hO2)) | fail)
            have HS4 : Shape (fun e => e = 24) w.heap.size _ w4 := Shape.only (T := fun e => e = 24) (Shape.refl _ _ _) HZ3.out hO2 BR2 rfl rfl (by omega)
            exact bodyPost_ret (results_ct rfl rfl BR2 aggDyad) rfl ⟨⟨s, y, (k : Int)⟩, by rw [HR.out] <;> rfl, by rw [HR.out] <;> rfl, Go.Hx.Own.shape (HO2.out.ext hE3) HS4 (by decide), Only.ext (HEE.out.trans hE3) hO2 (by omega)⟩
          · have dm : decide (mayD (XDyad.data ⟨s, y, (k : Int)⟩)) = false := decide_eq_false hmay
            have HR : Hid (formD s k0 n = (PDyad.zero, 10)) := Lib.hid (by rw [← HZ.out.2.2.2.1, formD_end HM0.out HMK.out, finD_may HM0.out HMK.out, if_neg (by rw [← HD.out]; exact hmay)])
            rw [dm]
            clear dm hmay
            go_wp2_with (first | ((with_reducible refine wpl_store 24 (.tmp 4) (.tmp 41) ?_ ?_ (w.heap.size + 1) 0 24 [.bool false, .slice none 0 0, .int .i64 0] [.bool false, .slice none 0 0, .int .i64 0] ?_ ?_ ?_ ?_ ?_ ?_ ?_); (exact rfl); (exact rfl); (exact rfl); (exact rfl); (exact aggDyad); (exact HZ3.out); (exact by simp); (exact rfl); (intro w4 BR2 hO2)) | fail)
            exact bodyPost_ret (results_ct rfl rfl BR2 aggDyad) rfl ⟨XDyad.zero, by rw [HR.out] <;> rfl, by rw [HR.out] <;> rfl, Go.Hx.Own.nil _ _ _ _ _, Only.ext (HEE.out.trans hE3) hO2 (by omega)⟩
end Go.Proofs.YtgcbnagfdfgpnaaDoor
end
