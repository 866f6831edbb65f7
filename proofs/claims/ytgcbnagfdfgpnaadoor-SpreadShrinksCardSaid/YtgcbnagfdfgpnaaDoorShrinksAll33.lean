/- The program: the least and the greatest one of dyads. Printed by gen_far.py. -/
import Derived.Test.YtgcbnagfdfgpnaaDoorShrinksAll28
import Derived.Test.YtgcbnagfdfgpnaaDoorShrinksAll32
import Derived.Test.YtgcbnagfdfgpnaaDoorShrinksAll10
namespace Go.Hx
open Go.RowKit
/-- a dyad that came in -/
structure InD (w : World) (x : XDyad) : Prop where
  ok : x.ok w w.heap.size
  lim : Limbs x.limbs.l
  may : mayD x.data
theorem _root_.Go.Hx.Ext.okD {w w' : World} (h : Ext w w') {x : XDyad} (i : InD w x) : x.ok w' w'.heap.size := i.ok.ext h
def farX : Option (XDyad × XDyad) → XDyad → Option (XDyad × XDyad)
  | none, a => some (a, a)
  | some (lo, hi), a => some (if cmpD a.data lo.data < 0 then a else lo, if 0 < cmpD a.data hi.data then a else hi)
def datX (s : Option (XDyad × XDyad)) : Option (PDyad × PDyad) := s.map fun p => (p.1.data, p.2.data)
theorem farX_data (s : Option (XDyad × XDyad)) (a : XDyad) : datX (farX s a) = farS (datX s) a.data := by
  cases s with
  | none => rfl
  | some p => obtain ⟨lo, hi⟩ := p; simp only [farX, farS, datX, Option.map_some]; congr 2 <;> split <;> rfl
/-- the least and the greatest one so far, in memory -/
inductive FarB (w W : World) (L H : Nat) : Option (XDyad × XDyad) → Prop where
  | none (l : Blk W L 124 [.pointer none]) (h : Blk W H 124 [.pointer none]) : FarB w W L H none
  | some {lo hi : XDyad} {p q : Nat} (l : Blk W L 124 [.pointer (some ⟨p, 0, none⟩)]) (h : Blk W H 124 [.pointer (some ⟨q, 0, none⟩)]) (bl : Blk W p 24 [.bool lo.neg, .slice lo.limbs.A lo.limbs.l.length lo.limbs.c, .int .i64 lo.exp]) (bh : Blk W q 24 [.bool hi.neg, .slice hi.limbs.A hi.limbs.l.length hi.limbs.c, .int .i64 hi.exp]) (il : InD w lo) (ih : InD w hi) (np : p ≠ L ∧ p ≠ H ∧ q ≠ L ∧ q ≠ H) : FarB w W L H (some (lo, hi))
theorem FarB.to {w W W' : World} {L H : Nat} {s : Option (XDyad × XDyad)} (h : FarB w W L H s) (k : Ext W W') : FarB w W' L H s := by
  cases h with
  | none l h => exact .none (l.ext k) (h.ext k)
  | some l h bl bh il ih np => exact .some (l.ext k) (h.ext k) (bl.ext k) (bh.ext k) il ih np
structure FarI (w W : World) (L H : Nat) (s : Option (XDyad × XDyad)) : Prop where
  ext : Ext w W
  low : w.heap.size ≤ L ∧ w.heap.size ≤ H ∧ L ≠ H
  row : FarB w W L H s
theorem FarI.to {w W W' : World} {L H : Nat} {s : Option (XDyad × XDyad)} (h : FarI w W L H s) (k : Ext W W') : FarI w W' L H s := ⟨h.ext.trans k, h.low, h.row.to k⟩
end Go.Hx
namespace Go.Proofs.YtgcbnagfdfgpnaaDoor
open Go.RowKit Go.Hx
attribute [local go_sem] detUpon undIn
set_option maxRecDepth 100000 in
set_option maxHeartbeats 1000000 in
theorem mean_ends (w : World) : Calls Tryd.prog 67 #[] w fun e W => e = .returned (.tuple #[.func (.func 113) #[] #[.pointer (some ⟨w.heap.size, 0, none⟩), .pointer (some ⟨w.heap.size + 1, 0, none⟩)], .func (.func 114) #[] #[.pointer (some ⟨w.heap.size, 0, none⟩), .pointer (some ⟨w.heap.size + 1, 0, none⟩)]]) ∧ FarI w W w.heap.size (w.heap.size + 1) none := by
  have BL : Blk ((w.alloc (.cells #[.pointer none] 124)).alloc (.cells #[.pointer none] 124)) w.heap.size 124 [.pointer none] := Blk.alloc (Blk.new rfl) _
  have BH : Blk ((w.alloc (.cells #[.pointer none] 124)).alloc (.cells #[.pointer none] 124)) (w.heap.size + 1) 124 [.pointer none] := Blk.new (by simp)
  have HE : Ext w ((w.alloc (.cells #[.pointer none] 124)).alloc (.cells #[.pointer none] 124)) := Ext.alloc' (Ext.alloc _ _) _
  have HI := Lib.hid (FarI.mk HE ⟨Nat.le_refl _, Nat.le_succ _, by omega⟩ (.none BL BH))
  clear BL BH HE
  go_enter Tryd.func67, Tryd.ntmps67
  go_wp2_with fail
  go_ret2
  exact ⟨rfl, HI.out⟩
set_option maxRecDepth 100000 in
set_option maxHeartbeats 4000000 in
theorem ends_put (w W : World) (L H : Nat) (s : Option (XDyad × XDyad)) (a : XDyad) (hI : FarI w W L H s) (ha : InD w a) :
    Calls Tryd.prog 113 #[.agg #[.bool a.neg, .slice a.limbs.A a.limbs.l.length a.limbs.c, .int .i64 a.exp], .pointer (some ⟨L, 0, none⟩), .pointer (some ⟨H, 0, none⟩)] W fun e W' => e = .returned (.tuple #[]) ∧ FarI w W' L H (farX s a) := by
  obtain ⟨hE, ⟨hL, hH, hLH⟩, hrow⟩ := hI
  have HA := Lib.hid ha
  have HLW : Hid (w.heap.size ≤ L ∧ w.heap.size ≤ H ∧ L ≠ H) := Lib.hid ⟨hL, hH, hLH⟩
  have HA1 : Hid (Blk (W.alloc (.cells #[.bool a.neg, .slice a.limbs.A a.limbs.l.length a.limbs.c, .int .i64 a.exp] 24)) W.heap.size 24 [.bool a.neg, .slice a.limbs.A a.limbs.l.length a.limbs.c, .int .i64 a.exp]) := Lib.hid (Blk.new rfl)
  have HE : Hid (Ext w (W.alloc (.cells #[.bool a.neg, .slice a.limbs.A a.limbs.l.length a.limbs.c, .int .i64 a.exp] 24))) := Lib.hid (hE.trans (Ext.alloc _ _))
  clear hL hH hLH
  cases hrow with
  | none l h =>
    have HNP : Hid (L < W.heap.size ∧ H < W.heap.size) := Lib.hid ⟨l.lt, h.lt⟩
    have HL : Hid (Blk (W.alloc (.cells #[.bool a.neg, .slice a.limbs.A a.limbs.l.length a.limbs.c, .int .i64 a.exp] 24)) L 124 [.pointer none]) := Lib.hid (l.alloc _)
    have HH : Hid (Blk (W.alloc (.cells #[.bool a.neg, .slice a.limbs.A a.limbs.l.length a.limbs.c, .int .i64 a.exp] 24)) H 124 [.pointer none]) := Lib.hid (h.alloc _)
    obtain ⟨c1, hc1⟩ : ∃ c, cmpD a.data a.data = c := ⟨_, rfl⟩
    have hc0 : c1 = 0 := hc1.symm.trans (cmpD_self _)
    subst hc0
    obtain ⟨c1, hcc⟩ : ∃ c : Int, 0 = c := ⟨_, rfl⟩
    rw [hcc] at hc1
    have d1 : decide (c1 < 0) = false := by rw [← hcc]; rfl
    have d2 : decide (0 < c1) = false := by rw [← hcc]; rfl
    have d3 : decide (c1 > 0) = false := d2
    have Hc1 := Lib.hid hc1
    have hcl : (W.alloc (.cells #[.bool a.neg, .slice a.limbs.A a.limbs.l.length a.limbs.c, .int .i64 a.exp] 24)).cell? ⟨L, 0, none⟩ = some (.pointer none) := HL.out.cell 0
    have hfl : (W.alloc (.cells #[.bool a.neg, .slice a.limbs.A a.limbs.l.length a.limbs.c, .int .i64 a.exp] 24)).frozen? ⟨L, 0, none⟩ = false := HL.out.free 0
    have HH2 : Hid (Blk ((W.alloc (.cells #[.bool a.neg, .slice a.limbs.A a.limbs.l.length a.limbs.c, .int .i64 a.exp] 24)).setCell ⟨L, 0, none⟩ (.pointer (some ⟨W.heap.size, 0, none⟩))) H 124 [.pointer none]) := Lib.hid (HH.out.far (by show H ≠ L; have := HLW.out; omega) _)
    have HL2 : Hid (Blk ((W.alloc (.cells #[.bool a.neg, .slice a.limbs.A a.limbs.l.length a.limbs.c, .int .i64 a.exp] 24)).setCell ⟨L, 0, none⟩ (.pointer (some ⟨W.heap.size, 0, none⟩))) L 124 [.pointer (some ⟨W.heap.size, 0, none⟩)]) := Lib.hid (HL.out.set 0 _)
    have hch : ((W.alloc (.cells #[.bool a.neg, .slice a.limbs.A a.limbs.l.length a.limbs.c, .int .i64 a.exp] 24)).setCell ⟨L, 0, none⟩ (.pointer (some ⟨W.heap.size, 0, none⟩))).cell? ⟨H, 0, none⟩ = some (.pointer none) := HH2.out.cell 0
    have hfh : ((W.alloc (.cells #[.bool a.neg, .slice a.limbs.A a.limbs.l.length a.limbs.c, .int .i64 a.exp] 24)).setCell ⟨L, 0, none⟩ (.pointer (some ⟨W.heap.size, 0, none⟩))).frozen? ⟨H, 0, none⟩ = false := HH2.out.free 0
    have HL3 : Hid (Blk (((W.alloc (.cells #[.bool a.neg, .slice a.limbs.A a.limbs.l.length a.limbs.c, .int .i64 a.exp] 24)).setCell ⟨L, 0, none⟩ (.pointer (some ⟨W.heap.size, 0, none⟩))).setCell ⟨H, 0, none⟩ (.pointer (some ⟨W.heap.size, 0, none⟩))) L 124 [.pointer (some ⟨W.heap.size, 0, none⟩)]) := Lib.hid (HL2.out.far (by show L ≠ H; have := HLW.out; omega) _)
    have HH3 : Hid (Blk (((W.alloc (.cells #[.bool a.neg, .slice a.limbs.A a.limbs.l.length a.limbs.c, .int .i64 a.exp] 24)).setCell ⟨L, 0, none⟩ (.pointer (some ⟨W.heap.size, 0, none⟩))).setCell ⟨H, 0, none⟩ (.pointer (some ⟨W.heap.size, 0, none⟩))) H 124 [.pointer (some ⟨W.heap.size, 0, none⟩)]) := Lib.hid (HH2.out.set 0 _)
    have HA3 : Hid (Blk (((W.alloc (.cells #[.bool a.neg, .slice a.limbs.A a.limbs.l.length a.limbs.c, .int .i64 a.exp] 24)).setCell ⟨L, 0, none⟩ (.pointer (some ⟨W.heap.size, 0, none⟩))).setCell ⟨H, 0, none⟩ (.pointer (some ⟨W.heap.size, 0, none⟩))) W.heap.size 24 [.bool a.neg, .slice a.limbs.A a.limbs.l.length a.limbs.c, .int .i64 a.exp]) := Lib.hid ((HA1.out.far (by show W.heap.size ≠ L; have := HNP.out; omega) _).far (by show W.heap.size ≠ H; have := HNP.out; omega) _)
    have HE3 : Hid (Ext w (((W.alloc (.cells #[.bool a.neg, .slice a.limbs.A a.limbs.l.length a.limbs.c, .int .i64 a.exp] 24)).setCell ⟨L, 0, none⟩ (.pointer (some ⟨W.heap.size, 0, none⟩))).setCell ⟨H, 0, none⟩ (.pointer (some ⟨W.heap.size, 0, none⟩)))) := Lib.hid ((HE.out.setCell' (by have := HLW.out; show w.heap.size ≤ L; omega) _).setCell' (by have := HLW.out; show w.heap.size ≤ H; omega) _)
    clear hcc hc1 l h HA1 HL HH HH2 HL2 HE hE
    go_enter Tryd.func113, Tryd.ntmps113
    go_wp2_with fail
    generalize W.heap.size = n at *
    have HL := HL3
    have HH := HH3
    have HA1 := HA3
    have HE := HE3
    clear HL3 HH3 HA3 HE3
    clear hcl hfl hch hfh
    generalize (((W.alloc (.cells #[.bool a.neg, .slice a.limbs.A a.limbs.l.length a.limbs.c, .int .i64 a.exp] 24)).setCell ⟨L, 0, none⟩ (.pointer (some ⟨n, 0, none⟩))).setCell ⟨H, 0, none⟩ (.pointer (some ⟨n, 0, none⟩))) = WX at *
    have HGC : Hid (∀ W : World, Ext WX W → W.cell? ⟨L, 0, none⟩ = some (.pointer (some ⟨n, 0, none⟩))) := Lib.hid fun W hW => (HL.out.ext hW).cell 0
    refine wp_region_flow (Ext WX) (fun _ => True) Ext (fun i => if i = 4 then .row (fun v => v = .tuple #[.int .i64 c1, .int .i64 0]) (fun _ _ => True) else .det) [4] (by kernel_rfl) (by kernel_rfl) (by kernel_rfl) (Ext.drew _) trivial (keeps_true _) ?_
    refine ftext_load_row 24 _ rfl rfl rfl (n) 0 [.bool a.neg, .slice a.limbs.A a.limbs.l.length a.limbs.c, .int .i64 a.exp] rfl aggDyad (fun W hW => (HA1.out.ext hW).row) (fun K hK => ?_)
    go_simp; refine hK _ ?_; clear hK K
    iterate 2 (refine ftext_det rfl rfl ?_; apply Exists.intro; refine ⟨fun w hC => ?_, fun K hK => ?_⟩; (first | (go_simp; exact rfl) | (go_simp; exact ⟨rfl, rfl⟩) | (have h1 := HGC.out _ hC; go_simp; first | exact rfl | exact ⟨rfl, rfl⟩)); go_simp; refine hK _ ?_; clear hK K)
    refine ftext_load_row 24 _ rfl rfl rfl (n) 0 [.bool a.neg, .slice a.limbs.A a.limbs.l.length a.limbs.c, .int .i64 a.exp] rfl aggDyad (fun W hW => (HA1.out.ext hW).row) (fun K hK => ?_)
    go_simp; refine hK _ ?_; clear hK K
    refine ftext_row _ _ rfl rfl ⟨_, rfl⟩ (fun _ => keeps_true _) (fun w1 hC hJ Φ hΦ => ?_) (fun v hv K hK => ?_)
    · go_simp
      refine (dyad_Cmp a a _ ((HE.out.trans hC).okD HA.out) ((HE.out.trans hC).okD HA.out) HA.out.lim HA.out.lim HA.out.may HA.out.may).mono ?_
      rw [Hc1.out]
      rintro r w2 ⟨rfl, hE2⟩
      exact ⟨_, rfl, hΦ _ _ rfl (hC.trans hE2) hE2 trivial⟩
    subst hv
    go_simp; refine hK _ ?_; clear hK K
    iterate 5 (refine ftext_det rfl rfl ?_; apply Exists.intro; refine ⟨fun w hC => ?_, fun K hK => ?_⟩; (first | (go_simp; exact rfl) | (go_simp; exact ⟨rfl, rfl⟩)); go_simp; refine hK _ ?_; clear hK K)
    refine ftext_nil ?_
    rintro W2 hC _ _
    replace HA1 : Hid (Blk W2 n 24 [.bool a.neg, .slice a.limbs.A a.limbs.l.length a.limbs.c, .int .i64 a.exp]) := Lib.hid (HA1.out.ext hC)
    replace HL : Hid (Blk W2 L 124 [.pointer (some ⟨n, 0, none⟩)]) := Lib.hid (HL.out.ext hC)
    replace HH : Hid (Blk W2 H 124 [.pointer (some ⟨n, 0, none⟩)]) := Lib.hid (HH.out.ext hC)
    replace HE : Hid (Ext w W2) := Lib.hid (HE.out.trans hC)
    clear hC HGC
    go_wp2_with fail
    generalize W2 = WX at *
    have HGC : Hid (∀ W : World, Ext WX W → W.cell? ⟨H, 0, none⟩ = some (.pointer (some ⟨n, 0, none⟩))) := Lib.hid fun W hW => (HH.out.ext hW).cell 0
    refine wp_region_flow (Ext WX) (fun _ => True) Ext (fun i => if i = 4 then .row (fun v => v = .tuple #[.int .i64 c1, .int .i64 0]) (fun _ _ => True) else .det) [4] (by kernel_rfl) (by kernel_rfl) (by kernel_rfl) (Ext.drew _) trivial (keeps_true _) ?_
    refine ftext_load_row 24 _ rfl rfl rfl (n) 0 [.bool a.neg, .slice a.limbs.A a.limbs.l.length a.limbs.c, .int .i64 a.exp] rfl aggDyad (fun W hW => (HA1.out.ext hW).row) (fun K hK => ?_)
    go_simp; refine hK _ ?_; clear hK K
    iterate 2 (refine ftext_det rfl rfl ?_; apply Exists.intro; refine ⟨fun w hC => ?_, fun K hK => ?_⟩; (first | (go_simp; exact rfl) | (go_simp; exact ⟨rfl, rfl⟩) | (have h1 := HGC.out _ hC; go_simp; first | exact rfl | exact ⟨rfl, rfl⟩)); go_simp; refine hK _ ?_; clear hK K)
    refine ftext_load_row 24 _ rfl rfl rfl (n) 0 [.bool a.neg, .slice a.limbs.A a.limbs.l.length a.limbs.c, .int .i64 a.exp] rfl aggDyad (fun W hW => (HA1.out.ext hW).row) (fun K hK => ?_)
    go_simp; refine hK _ ?_; clear hK K
    refine ftext_row _ _ rfl rfl ⟨_, rfl⟩ (fun _ => keeps_true _) (fun w1 hC hJ Φ hΦ => ?_) (fun v hv K hK => ?_)
    · go_simp
      refine (dyad_Cmp a a _ ((HE.out.trans hC).okD HA.out) ((HE.out.trans hC).okD HA.out) HA.out.lim HA.out.lim HA.out.may HA.out.may).mono ?_
      rw [Hc1.out]
      rintro r w2 ⟨rfl, hE2⟩
      exact ⟨_, rfl, hΦ _ _ rfl (hC.trans hE2) hE2 trivial⟩
    subst hv
    go_simp; refine hK _ ?_; clear hK K
    iterate 5 (refine ftext_det rfl rfl ?_; apply Exists.intro; refine ⟨fun w hC => ?_, fun K hK => ?_⟩; (first | (go_simp; exact rfl) | (go_simp; exact ⟨rfl, rfl⟩)); go_simp; refine hK _ ?_; clear hK K)
    refine ftext_nil ?_
    rintro W4 hC _ _
    replace HA1 : Hid (Blk W4 n 24 [.bool a.neg, .slice a.limbs.A a.limbs.l.length a.limbs.c, .int .i64 a.exp]) := Lib.hid (HA1.out.ext hC)
    replace HL : Hid (Blk W4 L 124 [.pointer (some ⟨n, 0, none⟩)]) := Lib.hid (HL.out.ext hC)
    replace HH : Hid (Blk W4 H 124 [.pointer (some ⟨n, 0, none⟩)]) := Lib.hid (HH.out.ext hC)
    replace HE : Hid (Ext w W4) := Lib.hid (HE.out.trans hC)
    clear hC HGC
    go_wp2_with fail
    exact bodyPost_end (results_none rfl _ _ _) rfl ⟨rfl, HE.out, HLW.out, .some HL.out HH.out HA1.out HA1.out HA.out HA.out (by have := HNP.out; omega)⟩
  | @some lo hi p q l h bl bh il ih np =>
    have HNP : Hid ((L < W.heap.size ∧ H < W.heap.size) ∧ p ≠ L ∧ p ≠ H ∧ q ≠ L ∧ q ≠ H) := Lib.hid ⟨⟨l.lt, h.lt⟩, np⟩
    have HL : Hid (Blk (W.alloc (.cells #[.bool a.neg, .slice a.limbs.A a.limbs.l.length a.limbs.c, .int .i64 a.exp] 24)) L 124 [.pointer (some ⟨p, 0, none⟩)]) := Lib.hid (l.alloc _)
    have HH : Hid (Blk (W.alloc (.cells #[.bool a.neg, .slice a.limbs.A a.limbs.l.length a.limbs.c, .int .i64 a.exp] 24)) H 124 [.pointer (some ⟨q, 0, none⟩)]) := Lib.hid (h.alloc _)
    have HP : Hid (Blk (W.alloc (.cells #[.bool a.neg, .slice a.limbs.A a.limbs.l.length a.limbs.c, .int .i64 a.exp] 24)) p 24 [.bool lo.neg, .slice lo.limbs.A lo.limbs.l.length lo.limbs.c, .int .i64 lo.exp]) := Lib.hid (bl.alloc _)
    have HQ : Hid (Blk (W.alloc (.cells #[.bool a.neg, .slice a.limbs.A a.limbs.l.length a.limbs.c, .int .i64 a.exp] 24)) q 24 [.bool hi.neg, .slice hi.limbs.A hi.limbs.l.length hi.limbs.c, .int .i64 hi.exp]) := Lib.hid (bh.alloc _)
    have HIL := Lib.hid il
    have HIH := Lib.hid ih
    obtain ⟨c1, hc1⟩ : ∃ c, cmpD a.data lo.data = c := ⟨_, rfl⟩
    obtain ⟨c2, hc2⟩ : ∃ c, cmpD a.data hi.data = c := ⟨_, rfl⟩
    have Hc1 := Lib.hid hc1
    have Hc2 := Lib.hid hc2
    have hcl : (W.alloc (.cells #[.bool a.neg, .slice a.limbs.A a.limbs.l.length a.limbs.c, .int .i64 a.exp] 24)).cell? ⟨L, 0, none⟩ = some (.pointer (some ⟨p, 0, none⟩)) := HL.out.cell 0
    clear l h bl bh il ih np hE
    by_cases q1 : c1 < 0
    · by_cases q2 : 0 < c2
      · have d1 : decide (c1 < 0) = true := decide_eq_true q1
        have d2 : decide (0 < c2) = true := decide_eq_true q2
        have d3 : decide (c2 > 0) = true := d2
        have HR : Hid (farX (some (lo, hi)) a = some (a, a)) := Lib.hid (by show some (if cmpD a.data lo.data < 0 then a else lo, if 0 < cmpD a.data hi.data then a else hi) = _; rw [hc1, hc2, if_pos q1, if_pos q2])
        clear q1 q2 hc1 hc2
        go_enter Tryd.func113, Tryd.ntmps113
        go_wp2_with fail
        clear hcl
        generalize W.heap.size = n at *
        generalize (W.alloc (.cells #[.bool a.neg, .slice a.limbs.A a.limbs.l.length a.limbs.c, .int .i64 a.exp] 24)) = WX at *
        have HGC : Hid (∀ W : World, Ext WX W → W.cell? ⟨L, 0, none⟩ = some (.pointer (some ⟨p, 0, none⟩))) := Lib.hid fun W hW => (HL.out.ext hW).cell 0
        refine wp_region_flow (Ext WX) (fun _ => True) Ext (fun i => if i = 4 then .row (fun v => v = .tuple #[.int .i64 c1, .int .i64 0]) (fun _ _ => True) else .det) [4] (by kernel_rfl) (by kernel_rfl) (by kernel_rfl) (Ext.drew _) trivial (keeps_true _) ?_
        refine ftext_load_row 24 _ rfl rfl rfl (n) 0 [.bool a.neg, .slice a.limbs.A a.limbs.l.length a.limbs.c, .int .i64 a.exp] rfl aggDyad (fun W hW => (HA1.out.ext hW).row) (fun K hK => ?_)
        go_simp; refine hK _ ?_; clear hK K
        iterate 2 (refine ftext_det rfl rfl ?_; apply Exists.intro; refine ⟨fun w hC => ?_, fun K hK => ?_⟩; (first | (go_simp; exact rfl) | (go_simp; exact ⟨rfl, rfl⟩) | (have h1 := HGC.out _ hC; go_simp; first | exact rfl | exact ⟨rfl, rfl⟩)); go_simp; refine hK _ ?_; clear hK K)
        refine ftext_load_row 24 _ rfl rfl rfl (p) 0 [.bool lo.neg, .slice lo.limbs.A lo.limbs.l.length lo.limbs.c, .int .i64 lo.exp] rfl aggDyad (fun W hW => (HP.out.ext hW).row) (fun K hK => ?_)
        go_simp; refine hK _ ?_; clear hK K
        refine ftext_row _ _ rfl rfl ⟨_, rfl⟩ (fun _ => keeps_true _) (fun w1 hC hJ Φ hΦ => ?_) (fun v hv K hK => ?_)
        · go_simp
          refine (dyad_Cmp a lo _ ((HE.out.trans hC).okD HA.out) ((HE.out.trans hC).okD HIL.out) HA.out.lim HIL.out.lim HA.out.may HIL.out.may).mono ?_
          rw [Hc1.out]
          rintro r w2 ⟨rfl, hE2⟩
          exact ⟨_, rfl, hΦ _ _ rfl (hC.trans hE2) hE2 trivial⟩
        subst hv
        go_simp; refine hK _ ?_; clear hK K
        iterate 5 (refine ftext_det rfl rfl ?_; apply Exists.intro; refine ⟨fun w hC => ?_, fun K hK => ?_⟩; (first | (go_simp; exact rfl) | (go_simp; exact ⟨rfl, rfl⟩)); go_simp; refine hK _ ?_; clear hK K)
        refine ftext_nil ?_
        rintro W2 hC _ _
        replace HA1 : Hid (Blk W2 n 24 [.bool a.neg, .slice a.limbs.A a.limbs.l.length a.limbs.c, .int .i64 a.exp]) := Lib.hid (HA1.out.ext hC)
        replace HL : Hid (Blk W2 L 124 [.pointer (some ⟨p, 0, none⟩)]) := Lib.hid (HL.out.ext hC)
        replace HH : Hid (Blk W2 H 124 [.pointer (some ⟨q, 0, none⟩)]) := Lib.hid (HH.out.ext hC)
        replace HP : Hid (Blk W2 p 24 [.bool lo.neg, .slice lo.limbs.A lo.limbs.l.length lo.limbs.c, .int .i64 lo.exp]) := Lib.hid (HP.out.ext hC)
        replace HQ : Hid (Blk W2 q 24 [.bool hi.neg, .slice hi.limbs.A hi.limbs.l.length hi.limbs.c, .int .i64 hi.exp]) := Lib.hid (HQ.out.ext hC)
        replace HE : Hid (Ext w W2) := Lib.hid (HE.out.trans hC)
        clear hC HGC
        have hcs : W2.cell? ⟨L, 0, none⟩ = some (.pointer (some ⟨p, 0, none⟩)) := HL.out.cell 0
        have hfs : W2.frozen? ⟨L, 0, none⟩ = false := HL.out.free 0
        have HA1s : Hid (Blk (W2.setCell ⟨L, 0, none⟩ (.pointer (some ⟨n, 0, none⟩))) n 24 [.bool a.neg, .slice a.limbs.A a.limbs.l.length a.limbs.c, .int .i64 a.exp]) := Lib.hid (HA1.out.far (by show n ≠ L; have := HLW.out; have := HNP.out; omega) _)
        have HLs : Hid (Blk (W2.setCell ⟨L, 0, none⟩ (.pointer (some ⟨n, 0, none⟩))) L 124 [.pointer (some ⟨n, 0, none⟩)]) := Lib.hid (HL.out.set 0 _)
        have HHs : Hid (Blk (W2.setCell ⟨L, 0, none⟩ (.pointer (some ⟨n, 0, none⟩))) H 124 [.pointer (some ⟨q, 0, none⟩)]) := Lib.hid (HH.out.far (by show H ≠ L; have := HLW.out; have := HNP.out; omega) _)
        have HPs : Hid (Blk (W2.setCell ⟨L, 0, none⟩ (.pointer (some ⟨n, 0, none⟩))) p 24 [.bool lo.neg, .slice lo.limbs.A lo.limbs.l.length lo.limbs.c, .int .i64 lo.exp]) := Lib.hid (HP.out.far (by show p ≠ L; have := HLW.out; have := HNP.out; omega) _)
        have HQs : Hid (Blk (W2.setCell ⟨L, 0, none⟩ (.pointer (some ⟨n, 0, none⟩))) q 24 [.bool hi.neg, .slice hi.limbs.A hi.limbs.l.length hi.limbs.c, .int .i64 hi.exp]) := Lib.hid (HQ.out.far (by show q ≠ L; have := HLW.out; have := HNP.out; omega) _)
        have HEs : Hid (Ext w (W2.setCell ⟨L, 0, none⟩ (.pointer (some ⟨n, 0, none⟩)))) := Lib.hid (HE.out.setCell' (by have := HLW.out; show w.heap.size ≤ L; omega) _)
        clear HA1 HL HH HP HQ HE
        go_wp2_with fail
        clear hcs hfs
        have HA1 := HA1s
        have HL := HLs
        have HH := HHs
        have HP := HPs
        have HQ := HQs
        have HE := HEs
        clear HA1s HLs HHs HPs HQs HEs
        generalize (W2.setCell ⟨L, 0, none⟩ (.pointer (some ⟨n, 0, none⟩))) = WX at *
        have HGC : Hid (∀ W : World, Ext WX W → W.cell? ⟨H, 0, none⟩ = some (.pointer (some ⟨q, 0, none⟩))) := Lib.hid fun W hW => (HH.out.ext hW).cell 0
        refine wp_region_flow (Ext WX) (fun _ => True) Ext (fun i => if i = 4 then .row (fun v => v = .tuple #[.int .i64 c2, .int .i64 0]) (fun _ _ => True) else .det) [4] (by kernel_rfl) (by kernel_rfl) (by kernel_rfl) (Ext.drew _) trivial (keeps_true _) ?_
        refine ftext_load_row 24 _ rfl rfl rfl (n) 0 [.bool a.neg, .slice a.limbs.A a.limbs.l.length a.limbs.c, .int .i64 a.exp] rfl aggDyad (fun W hW => (HA1.out.ext hW).row) (fun K hK => ?_)
        go_simp; refine hK _ ?_; clear hK K
        iterate 2 (refine ftext_det rfl rfl ?_; apply Exists.intro; refine ⟨fun w hC => ?_, fun K hK => ?_⟩; (first | (go_simp; exact rfl) | (go_simp; exact ⟨rfl, rfl⟩) | (have h1 := HGC.out _ hC; go_simp; first | exact rfl | exact ⟨rfl, rfl⟩)); go_simp; refine hK _ ?_; clear hK K)
        refine ftext_load_row 24 _ rfl rfl rfl (q) 0 [.bool hi.neg, .slice hi.limbs.A hi.limbs.l.length hi.limbs.c, .int .i64 hi.exp] rfl aggDyad (fun W hW => (HQ.out.ext hW).row) (fun K hK => ?_)
        go_simp; refine hK _ ?_; clear hK K
        refine ftext_row _ _ rfl rfl ⟨_, rfl⟩ (fun _ => keeps_true _) (fun w1 hC hJ Φ hΦ => ?_) (fun v hv K hK => ?_)
        · go_simp
          refine (dyad_Cmp a hi _ ((HE.out.trans hC).okD HA.out) ((HE.out.trans hC).okD HIH.out) HA.out.lim HIH.out.lim HA.out.may HIH.out.may).mono ?_
          rw [Hc2.out]
          rintro r w2 ⟨rfl, hE2⟩
          exact ⟨_, rfl, hΦ _ _ rfl (hC.trans hE2) hE2 trivial⟩
        subst hv
        go_simp; refine hK _ ?_; clear hK K
        iterate 5 (refine ftext_det rfl rfl ?_; apply Exists.intro; refine ⟨fun w hC => ?_, fun K hK => ?_⟩; (first | (go_simp; exact rfl) | (go_simp; exact ⟨rfl, rfl⟩)); go_simp; refine hK _ ?_; clear hK K)
        refine ftext_nil ?_
        rintro W4 hC _ _
        replace HA1 : Hid (Blk W4 n 24 [.bool a.neg, .slice a.limbs.A a.limbs.l.length a.limbs.c, .int .i64 a.exp]) := Lib.hid (HA1.out.ext hC)
        replace HL : Hid (Blk W4 L 124 [.pointer (some ⟨n, 0, none⟩)]) := Lib.hid (HL.out.ext hC)
        replace HH : Hid (Blk W4 H 124 [.pointer (some ⟨q, 0, none⟩)]) := Lib.hid (HH.out.ext hC)
        replace HP : Hid (Blk W4 p 24 [.bool lo.neg, .slice lo.limbs.A lo.limbs.l.length lo.limbs.c, .int .i64 lo.exp]) := Lib.hid (HP.out.ext hC)
        replace HQ : Hid (Blk W4 q 24 [.bool hi.neg, .slice hi.limbs.A hi.limbs.l.length hi.limbs.c, .int .i64 hi.exp]) := Lib.hid (HQ.out.ext hC)
        replace HE : Hid (Ext w W4) := Lib.hid (HE.out.trans hC)
        clear hC HGC
        have hcs : W4.cell? ⟨H, 0, none⟩ = some (.pointer (some ⟨q, 0, none⟩)) := HH.out.cell 0
        have hfs : W4.frozen? ⟨H, 0, none⟩ = false := HH.out.free 0
        have HA1s : Hid (Blk (W4.setCell ⟨H, 0, none⟩ (.pointer (some ⟨n, 0, none⟩))) n 24 [.bool a.neg, .slice a.limbs.A a.limbs.l.length a.limbs.c, .int .i64 a.exp]) := Lib.hid (HA1.out.far (by show n ≠ H; have := HLW.out; have := HNP.out; omega) _)
        have HLs : Hid (Blk (W4.setCell ⟨H, 0, none⟩ (.pointer (some ⟨n, 0, none⟩))) L 124 [.pointer (some ⟨n, 0, none⟩)]) := Lib.hid (HL.out.far (by show L ≠ H; have := HLW.out; have := HNP.out; omega) _)
        have HHs : Hid (Blk (W4.setCell ⟨H, 0, none⟩ (.pointer (some ⟨n, 0, none⟩))) H 124 [.pointer (some ⟨n, 0, none⟩)]) := Lib.hid (HH.out.set 0 _)
        have HPs : Hid (Blk (W4.setCell ⟨H, 0, none⟩ (.pointer (some ⟨n, 0, none⟩))) p 24 [.bool lo.neg, .slice lo.limbs.A lo.limbs.l.length lo.limbs.c, .int .i64 lo.exp]) := Lib.hid (HP.out.far (by show p ≠ H; have := HLW.out; have := HNP.out; omega) _)
        have HQs : Hid (Blk (W4.setCell ⟨H, 0, none⟩ (.pointer (some ⟨n, 0, none⟩))) q 24 [.bool hi.neg, .slice hi.limbs.A hi.limbs.l.length hi.limbs.c, .int .i64 hi.exp]) := Lib.hid (HQ.out.far (by show q ≠ H; have := HLW.out; have := HNP.out; omega) _)
        have HEs : Hid (Ext w (W4.setCell ⟨H, 0, none⟩ (.pointer (some ⟨n, 0, none⟩)))) := Lib.hid (HE.out.setCell' (by have := HLW.out; show w.heap.size ≤ H; omega) _)
        clear HA1 HL HH HP HQ HE
        go_wp2_with fail
        have HA1 := HA1s
        have HL := HLs
        have HH := HHs
        have HP := HPs
        have HQ := HQs
        have HE := HEs
        clear HA1s HLs HHs HPs HQs HEs
        exact bodyPost_end (results_none rfl _ _ _) rfl ⟨rfl, by rw [HR.out]; exact ⟨HE.out, HLW.out, .some HL.out HH.out HA1.out HA1.out HA.out HA.out (by have := HNP.out; omega)⟩⟩
      · have d1 : decide (c1 < 0) = true := decide_eq_true q1
        have d2 : decide (0 < c2) = false := decide_eq_false q2
        have d3 : decide (c2 > 0) = false := d2
        have HR : Hid (farX (some (lo, hi)) a = some (a, hi)) := Lib.hid (by show some (if cmpD a.data lo.data < 0 then a else lo, if 0 < cmpD a.data hi.data then a else hi) = _; rw [hc1, hc2, if_pos q1, if_neg q2])
        clear q1 q2 hc1 hc2
        go_enter Tryd.func113, Tryd.ntmps113
        go_wp2_with fail
        clear hcl
        generalize W.heap.size = n at *
        generalize (W.alloc (.cells #[.bool a.neg, .slice a.limbs.A a.limbs.l.length a.limbs.c, .int .i64 a.exp] 24)) = WX at *
        have HGC : Hid (∀ W : World, Ext WX W → W.cell? ⟨L, 0, none⟩ = some (.pointer (some ⟨p, 0, none⟩))) := Lib.hid fun W hW => (HL.out.ext hW).cell 0
        refine wp_region_flow (Ext WX) (fun _ => True) Ext (fun i => if i = 4 then .row (fun v => v = .tuple #[.int .i64 c1, .int .i64 0]) (fun _ _ => True) else .det) [4] (by kernel_rfl) (by kernel_rfl) (by kernel_rfl) (Ext.drew _) trivial (keeps_true _) ?_
        refine ftext_load_row 24 _ rfl rfl rfl (n) 0 [.bool a.neg, .slice a.limbs.A a.limbs.l.length a.limbs.c, .int .i64 a.exp] rfl aggDyad (fun W hW => (HA1.out.ext hW).row) (fun K hK => ?_)
        go_simp; refine hK _ ?_; clear hK K
        iterate 2 (refine ftext_det rfl rfl ?_; apply Exists.intro; refine ⟨fun w hC => ?_, fun K hK => ?_⟩; (first | (go_simp; exact rfl) | (go_simp; exact ⟨rfl, rfl⟩) | (have h1 := HGC.out _ hC; go_simp; first | exact rfl | exact ⟨rfl, rfl⟩)); go_simp; refine hK _ ?_; clear hK K)
        refine ftext_load_row 24 _ rfl rfl rfl (p) 0 [.bool lo.neg, .slice lo.limbs.A lo.limbs.l.length lo.limbs.c, .int .i64 lo.exp] rfl aggDyad (fun W hW => (HP.out.ext hW).row) (fun K hK => ?_)
        go_simp; refine hK _ ?_; clear hK K
        refine ftext_row _ _ rfl rfl ⟨_, rfl⟩ (fun _ => keeps_true _) (fun w1 hC hJ Φ hΦ => ?_) (fun v hv K hK => ?_)
        · go_simp
          refine (dyad_Cmp a lo _ ((HE.out.trans hC).okD HA.out) ((HE.out.trans hC).okD HIL.out) HA.out.lim HIL.out.lim HA.out.may HIL.out.may).mono ?_
          rw [Hc1.out]
          rintro r w2 ⟨rfl, hE2⟩
          exact ⟨_, rfl, hΦ _ _ rfl (hC.trans hE2) hE2 trivial⟩
        subst hv
        go_simp; refine hK _ ?_; clear hK K
        iterate 5 (refine ftext_det rfl rfl ?_; apply Exists.intro; refine ⟨fun w hC => ?_, fun K hK => ?_⟩; (first | (go_simp; exact rfl) | (go_simp; exact ⟨rfl, rfl⟩)); go_simp; refine hK _ ?_; clear hK K)
        refine ftext_nil ?_
        rintro W2 hC _ _
        replace HA1 : Hid (Blk W2 n 24 [.bool a.neg, .slice a.limbs.A a.limbs.l.length a.limbs.c, .int .i64 a.exp]) := Lib.hid (HA1.out.ext hC)
        replace HL : Hid (Blk W2 L 124 [.pointer (some ⟨p, 0, none⟩)]) := Lib.hid (HL.out.ext hC)
        replace HH : Hid (Blk W2 H 124 [.pointer (some ⟨q, 0, none⟩)]) := Lib.hid (HH.out.ext hC)
        replace HP : Hid (Blk W2 p 24 [.bool lo.neg, .slice lo.limbs.A lo.limbs.l.length lo.limbs.c, .int .i64 lo.exp]) := Lib.hid (HP.out.ext hC)
        replace HQ : Hid (Blk W2 q 24 [.bool hi.neg, .slice hi.limbs.A hi.limbs.l.length hi.limbs.c, .int .i64 hi.exp]) := Lib.hid (HQ.out.ext hC)
        replace HE : Hid (Ext w W2) := Lib.hid (HE.out.trans hC)
        clear hC HGC
        have hcs : W2.cell? ⟨L, 0, none⟩ = some (.pointer (some ⟨p, 0, none⟩)) := HL.out.cell 0
        have hfs : W2.frozen? ⟨L, 0, none⟩ = false := HL.out.free 0
        have HA1s : Hid (Blk (W2.setCell ⟨L, 0, none⟩ (.pointer (some ⟨n, 0, none⟩))) n 24 [.bool a.neg, .slice a.limbs.A a.limbs.l.length a.limbs.c, .int .i64 a.exp]) := Lib.hid (HA1.out.far (by show n ≠ L; have := HLW.out; have := HNP.out; omega) _)
        have HLs : Hid (Blk (W2.setCell ⟨L, 0, none⟩ (.pointer (some ⟨n, 0, none⟩))) L 124 [.pointer (some ⟨n, 0, none⟩)]) := Lib.hid (HL.out.set 0 _)
        have HHs : Hid (Blk (W2.setCell ⟨L, 0, none⟩ (.pointer (some ⟨n, 0, none⟩))) H 124 [.pointer (some ⟨q, 0, none⟩)]) := Lib.hid (HH.out.far (by show H ≠ L; have := HLW.out; have := HNP.out; omega) _)
        have HPs : Hid (Blk (W2.setCell ⟨L, 0, none⟩ (.pointer (some ⟨n, 0, none⟩))) p 24 [.bool lo.neg, .slice lo.limbs.A lo.limbs.l.length lo.limbs.c, .int .i64 lo.exp]) := Lib.hid (HP.out.far (by show p ≠ L; have := HLW.out; have := HNP.out; omega) _)
        have HQs : Hid (Blk (W2.setCell ⟨L, 0, none⟩ (.pointer (some ⟨n, 0, none⟩))) q 24 [.bool hi.neg, .slice hi.limbs.A hi.limbs.l.length hi.limbs.c, .int .i64 hi.exp]) := Lib.hid (HQ.out.far (by show q ≠ L; have := HLW.out; have := HNP.out; omega) _)
        have HEs : Hid (Ext w (W2.setCell ⟨L, 0, none⟩ (.pointer (some ⟨n, 0, none⟩)))) := Lib.hid (HE.out.setCell' (by have := HLW.out; show w.heap.size ≤ L; omega) _)
        clear HA1 HL HH HP HQ HE
        go_wp2_with fail
        clear hcs hfs
        have HA1 := HA1s
        have HL := HLs
        have HH := HHs
        have HP := HPs
        have HQ := HQs
        have HE := HEs
        clear HA1s HLs HHs HPs HQs HEs
        generalize (W2.setCell ⟨L, 0, none⟩ (.pointer (some ⟨n, 0, none⟩))) = WX at *
        have HGC : Hid (∀ W : World, Ext WX W → W.cell? ⟨H, 0, none⟩ = some (.pointer (some ⟨q, 0, none⟩))) := Lib.hid fun W hW => (HH.out.ext hW).cell 0
        refine wp_region_flow (Ext WX) (fun _ => True) Ext (fun i => if i = 4 then .row (fun v => v = .tuple #[.int .i64 c2, .int .i64 0]) (fun _ _ => True) else .det) [4] (by kernel_rfl) (by kernel_rfl) (by kernel_rfl) (Ext.drew _) trivial (keeps_true _) ?_
        refine ftext_load_row 24 _ rfl rfl rfl (n) 0 [.bool a.neg, .slice a.limbs.A a.limbs.l.length a.limbs.c, .int .i64 a.exp] rfl aggDyad (fun W hW => (HA1.out.ext hW).row) (fun K hK => ?_)
        go_simp; refine hK _ ?_; clear hK K
        iterate 2 (refine ftext_det rfl rfl ?_; apply Exists.intro; refine ⟨fun w hC => ?_, fun K hK => ?_⟩; (first | (go_simp; exact rfl) | (go_simp; exact ⟨rfl, rfl⟩) | (have h1 := HGC.out _ hC; go_simp; first | exact rfl | exact ⟨rfl, rfl⟩)); go_simp; refine hK _ ?_; clear hK K)
        refine ftext_load_row 24 _ rfl rfl rfl (q) 0 [.bool hi.neg, .slice hi.limbs.A hi.limbs.l.length hi.limbs.c, .int .i64 hi.exp] rfl aggDyad (fun W hW => (HQ.out.ext hW).row) (fun K hK => ?_)
        go_simp; refine hK _ ?_; clear hK K
        refine ftext_row _ _ rfl rfl ⟨_, rfl⟩ (fun _ => keeps_true _) (fun w1 hC hJ Φ hΦ => ?_) (fun v hv K hK => ?_)
        · go_simp
          refine (dyad_Cmp a hi _ ((HE.out.trans hC).okD HA.out) ((HE.out.trans hC).okD HIH.out) HA.out.lim HIH.out.lim HA.out.may HIH.out.may).mono ?_
          rw [Hc2.out]
          rintro r w2 ⟨rfl, hE2⟩
          exact ⟨_, rfl, hΦ _ _ rfl (hC.trans hE2) hE2 trivial⟩
        subst hv
        go_simp; refine hK _ ?_; clear hK K
        iterate 5 (refine ftext_det rfl rfl ?_; apply Exists.intro; refine ⟨fun w hC => ?_, fun K hK => ?_⟩; (first | (go_simp; exact rfl) | (go_simp; exact ⟨rfl, rfl⟩)); go_simp; refine hK _ ?_; clear hK K)
        refine ftext_nil ?_
        rintro W4 hC _ _
        replace HA1 : Hid (Blk W4 n 24 [.bool a.neg, .slice a.limbs.A a.limbs.l.length a.limbs.c, .int .i64 a.exp]) := Lib.hid (HA1.out.ext hC)
        replace HL : Hid (Blk W4 L 124 [.pointer (some ⟨n, 0, none⟩)]) := Lib.hid (HL.out.ext hC)
        replace HH : Hid (Blk W4 H 124 [.pointer (some ⟨q, 0, none⟩)]) := Lib.hid (HH.out.ext hC)
        replace HP : Hid (Blk W4 p 24 [.bool lo.neg, .slice lo.limbs.A lo.limbs.l.length lo.limbs.c, .int .i64 lo.exp]) := Lib.hid (HP.out.ext hC)
        replace HQ : Hid (Blk W4 q 24 [.bool hi.neg, .slice hi.limbs.A hi.limbs.l.length hi.limbs.c, .int .i64 hi.exp]) := Lib.hid (HQ.out.ext hC)
        replace HE : Hid (Ext w W4) := Lib.hid (HE.out.trans hC)
        clear hC HGC
        go_wp2_with fail
        exact bodyPost_end (results_none rfl _ _ _) rfl ⟨rfl, by rw [HR.out]; exact ⟨HE.out, HLW.out, .some HL.out HH.out HA1.out HQ.out HA.out HIH.out (by have := HNP.out; omega)⟩⟩
    · by_cases q2 : 0 < c2
      · have d1 : decide (c1 < 0) = false := decide_eq_false q1
        have d2 : decide (0 < c2) = true := decide_eq_true q2
        have d3 : decide (c2 > 0) = true := d2
        have HR : Hid (farX (some (lo, hi)) a = some (lo, a)) := Lib.hid (by show some (if cmpD a.data lo.data < 0 then a else lo, if 0 < cmpD a.data hi.data then a else hi) = _; rw [hc1, hc2, if_neg q1, if_pos q2])
        clear q1 q2 hc1 hc2
        go_enter Tryd.func113, Tryd.ntmps113
        go_wp2_with fail
        clear hcl
        generalize W.heap.size = n at *
        generalize (W.alloc (.cells #[.bool a.neg, .slice a.limbs.A a.limbs.l.length a.limbs.c, .int .i64 a.exp] 24)) = WX at *
        have HGC : Hid (∀ W : World, Ext WX W → W.cell? ⟨L, 0, none⟩ = some (.pointer (some ⟨p, 0, none⟩))) := Lib.hid fun W hW => (HL.out.ext hW).cell 0
        refine wp_region_flow (Ext WX) (fun _ => True) Ext (fun i => if i = 4 then .row (fun v => v = .tuple #[.int .i64 c1, .int .i64 0]) (fun _ _ => True) else .det) [4] (by kernel_rfl) (by kernel_rfl) (by kernel_rfl) (Ext.drew _) trivial (keeps_true _) ?_
        refine ftext_load_row 24 _ rfl rfl rfl (n) 0 [.bool a.neg, .slice a.limbs.A a.limbs.l.length a.limbs.c, .int .i64 a.exp] rfl aggDyad (fun W hW => (HA1.out.ext hW).row) (fun K hK => ?_)
        go_simp; refine hK _ ?_; clear hK K
        iterate 2 (refine ftext_det rfl rfl ?_; apply Exists.intro; refine ⟨fun w hC => ?_, fun K hK => ?_⟩; (first | (go_simp; exact rfl) | (go_simp; exact ⟨rfl, rfl⟩) | (have h1 := HGC.out _ hC; go_simp; first | exact rfl | exact ⟨rfl, rfl⟩)); go_simp; refine hK _ ?_; clear hK K)
        refine ftext_load_row 24 _ rfl rfl rfl (p) 0 [.bool lo.neg, .slice lo.limbs.A lo.limbs.l.length lo.limbs.c, .int .i64 lo.exp] rfl aggDyad (fun W hW => (HP.out.ext hW).row) (fun K hK => ?_)
        go_simp; refine hK _ ?_; clear hK K
        refine ftext_row _ _ rfl rfl ⟨_, rfl⟩ (fun _ => keeps_true _) (fun w1 hC hJ Φ hΦ => ?_) (fun v hv K hK => ?_)
        · go_simp
          refine (dyad_Cmp a lo _ ((HE.out.trans hC).okD HA.out) ((HE.out.trans hC).okD HIL.out) HA.out.lim HIL.out.lim HA.out.may HIL.out.may).mono ?_
          rw [Hc1.out]
          rintro r w2 ⟨rfl, hE2⟩
          exact ⟨_, rfl, hΦ _ _ rfl (hC.trans hE2) hE2 trivial⟩
        subst hv
        go_simp; refine hK _ ?_; clear hK K
        iterate 5 (refine ftext_det rfl rfl ?_; apply Exists.intro; refine ⟨fun w hC => ?_, fun K hK => ?_⟩; (first | (go_simp; exact rfl) | (go_simp; exact ⟨rfl, rfl⟩)); go_simp; refine hK _ ?_; clear hK K)
        refine ftext_nil ?_
        rintro W2 hC _ _
        replace HA1 : Hid (Blk W2 n 24 [.bool a.neg, .slice a.limbs.A a.limbs.l.length a.limbs.c, .int .i64 a.exp]) := Lib.hid (HA1.out.ext hC)
        replace HL : Hid (Blk W2 L 124 [.pointer (some ⟨p, 0, none⟩)]) := Lib.hid (HL.out.ext hC)
        replace HH : Hid (Blk W2 H 124 [.pointer (some ⟨q, 0, none⟩)]) := Lib.hid (HH.out.ext hC)
        replace HP : Hid (Blk W2 p 24 [.bool lo.neg, .slice lo.limbs.A lo.limbs.l.length lo.limbs.c, .int .i64 lo.exp]) := Lib.hid (HP.out.ext hC)
        replace HQ : Hid (Blk W2 q 24 [.bool hi.neg, .slice hi.limbs.A hi.limbs.l.length hi.limbs.c, .int .i64 hi.exp]) := Lib.hid (HQ.out.ext hC)
        replace HE : Hid (Ext w W2) := Lib.hid (HE.out.trans hC)
        clear hC HGC
        go_wp2_with fail
        generalize W2 = WX at *
        have HGC : Hid (∀ W : World, Ext WX W → W.cell? ⟨H, 0, none⟩ = some (.pointer (some ⟨q, 0, none⟩))) := Lib.hid fun W hW => (HH.out.ext hW).cell 0
        refine wp_region_flow (Ext WX) (fun _ => True) Ext (fun i => if i = 4 then .row (fun v => v = .tuple #[.int .i64 c2, .int .i64 0]) (fun _ _ => True) else .det) [4] (by kernel_rfl) (by kernel_rfl) (by kernel_rfl) (Ext.drew _) trivial (keeps_true _) ?_
        refine ftext_load_row 24 _ rfl rfl rfl (n) 0 [.bool a.neg, .slice a.limbs.A a.limbs.l.length a.limbs.c, .int .i64 a.exp] rfl aggDyad (fun W hW => (HA1.out.ext hW).row) (fun K hK => ?_)
        go_simp; refine hK _ ?_; clear hK K
        iterate 2 (refine ftext_det rfl rfl ?_; apply Exists.intro; refine ⟨fun w hC => ?_, fun K hK => ?_⟩; (first | (go_simp; exact rfl) | (go_simp; exact ⟨rfl, rfl⟩) | (have h1 := HGC.out _ hC; go_simp; first | exact rfl | exact ⟨rfl, rfl⟩)); go_simp; refine hK _ ?_; clear hK K)
        refine ftext_load_row 24 _ rfl rfl rfl (q) 0 [.bool hi.neg, .slice hi.limbs.A hi.limbs.l.length hi.limbs.c, .int .i64 hi.exp] rfl aggDyad (fun W hW => (HQ.out.ext hW).row) (fun K hK => ?_)
        go_simp; refine hK _ ?_; clear hK K
        refine ftext_row _ _ rfl rfl ⟨_, rfl⟩ (fun _ => keeps_true _) (fun w1 hC hJ Φ hΦ => ?_) (fun v hv K hK => ?_)
        · go_simp
          refine (dyad_Cmp a hi _ ((HE.out.trans hC).okD HA.out) ((HE.out.trans hC).okD HIH.out) HA.out.lim HIH.out.lim HA.out.may HIH.out.may).mono ?_
          rw [Hc2.out]
          rintro r w2 ⟨rfl, hE2⟩
          exact ⟨_, rfl, hΦ _ _ rfl (hC.trans hE2) hE2 trivial⟩
        subst hv
        go_simp; refine hK _ ?_; clear hK K
        iterate 5 (refine ftext_det rfl rfl ?_; apply Exists.intro; refine ⟨fun w hC => ?_, fun K hK => ?_⟩; (first | (go_simp; exact rfl) | (go_simp; exact ⟨rfl, rfl⟩)); go_simp; refine hK _ ?_; clear hK K)
        refine ftext_nil ?_
        rintro W4 hC _ _
        replace HA1 : Hid (Blk W4 n 24 [.bool a.neg, .slice a.limbs.A a.limbs.l.length a.limbs.c, .int .i64 a.exp]) := Lib.hid (HA1.out.ext hC)
        replace HL : Hid (Blk W4 L 124 [.pointer (some ⟨p, 0, none⟩)]) := Lib.hid (HL.out.ext hC)
        replace HH : Hid (Blk W4 H 124 [.pointer (some ⟨q, 0, none⟩)]) := Lib.hid (HH.out.ext hC)
        replace HP : Hid (Blk W4 p 24 [.bool lo.neg, .slice lo.limbs.A lo.limbs.l.length lo.limbs.c, .int .i64 lo.exp]) := Lib.hid (HP.out.ext hC)
        replace HQ : Hid (Blk W4 q 24 [.bool hi.neg, .slice hi.limbs.A hi.limbs.l.length hi.limbs.c, .int .i64 hi.exp]) := Lib.hid (HQ.out.ext hC)
        replace HE : Hid (Ext w W4) := Lib.hid (HE.out.trans hC)
        clear hC HGC
        have hcs : W4.cell? ⟨H, 0, none⟩ = some (.pointer (some ⟨q, 0, none⟩)) := HH.out.cell 0
        have hfs : W4.frozen? ⟨H, 0, none⟩ = false := HH.out.free 0
        have HA1s : Hid (Blk (W4.setCell ⟨H, 0, none⟩ (.pointer (some ⟨n, 0, none⟩))) n 24 [.bool a.neg, .slice a.limbs.A a.limbs.l.length a.limbs.c, .int .i64 a.exp]) := Lib.hid (HA1.out.far (by show n ≠ H; have := HLW.out; have := HNP.out; omega) _)
        have HLs : Hid (Blk (W4.setCell ⟨H, 0, none⟩ (.pointer (some ⟨n, 0, none⟩))) L 124 [.pointer (some ⟨p, 0, none⟩)]) := Lib.hid (HL.out.far (by show L ≠ H; have := HLW.out; have := HNP.out; omega) _)
        have HHs : Hid (Blk (W4.setCell ⟨H, 0, none⟩ (.pointer (some ⟨n, 0, none⟩))) H 124 [.pointer (some ⟨n, 0, none⟩)]) := Lib.hid (HH.out.set 0 _)
        have HPs : Hid (Blk (W4.setCell ⟨H, 0, none⟩ (.pointer (some ⟨n, 0, none⟩))) p 24 [.bool lo.neg, .slice lo.limbs.A lo.limbs.l.length lo.limbs.c, .int .i64 lo.exp]) := Lib.hid (HP.out.far (by show p ≠ H; have := HLW.out; have := HNP.out; omega) _)
        have HQs : Hid (Blk (W4.setCell ⟨H, 0, none⟩ (.pointer (some ⟨n, 0, none⟩))) q 24 [.bool hi.neg, .slice hi.limbs.A hi.limbs.l.length hi.limbs.c, .int .i64 hi.exp]) := Lib.hid (HQ.out.far (by show q ≠ H; have := HLW.out; have := HNP.out; omega) _)
        have HEs : Hid (Ext w (W4.setCell ⟨H, 0, none⟩ (.pointer (some ⟨n, 0, none⟩)))) := Lib.hid (HE.out.setCell' (by have := HLW.out; show w.heap.size ≤ H; omega) _)
        clear HA1 HL HH HP HQ HE
        go_wp2_with fail
        have HA1 := HA1s
        have HL := HLs
        have HH := HHs
        have HP := HPs
        have HQ := HQs
        have HE := HEs
        clear HA1s HLs HHs HPs HQs HEs
        exact bodyPost_end (results_none rfl _ _ _) rfl ⟨rfl, by rw [HR.out]; exact ⟨HE.out, HLW.out, .some HL.out HH.out HP.out HA1.out HIL.out HA.out (by have := HNP.out; omega)⟩⟩
      · have d1 : decide (c1 < 0) = false := decide_eq_false q1
        have d2 : decide (0 < c2) = false := decide_eq_false q2
        have d3 : decide (c2 > 0) = false := d2
        have HR : Hid (farX (some (lo, hi)) a = some (lo, hi)) := Lib.hid (by show some (if cmpD a.data lo.data < 0 then a else lo, if 0 < cmpD a.data hi.data then a else hi) = _; rw [hc1, hc2, if_neg q1, if_neg q2])
        clear q1 q2 hc1 hc2
        go_enter Tryd.func113, Tryd.ntmps113
        go_wp2_with fail
        clear hcl
        generalize W.heap.size = n at *
        generalize (W.alloc (.cells #[.bool a.neg, .slice a.limbs.A a.limbs.l.length a.limbs.c, .int .i64 a.exp] 24)) = WX at *
        have HGC : Hid (∀ W : World, Ext WX W → W.cell? ⟨L, 0, none⟩ = some (.pointer (some ⟨p, 0, none⟩))) := Lib.hid fun W hW => (HL.out.ext hW).cell 0
        refine wp_region_flow (Ext WX) (fun _ => True) Ext (fun i => if i = 4 then .row (fun v => v = .tuple #[.int .i64 c1, .int .i64 0]) (fun _ _ => True) else .det) [4] (by kernel_rfl) (by kernel_rfl) (by kernel_rfl) (Ext.drew _) trivial (keeps_true _) ?_
        refine ftext_load_row 24 _ rfl rfl rfl (n) 0 [.bool a.neg, .slice a.limbs.A a.limbs.l.length a.limbs.c, .int .i64 a.exp] rfl aggDyad (fun W hW => (HA1.out.ext hW).row) (fun K hK => ?_)
        go_simp; refine hK _ ?_; clear hK K
        iterate 2 (refine ftext_det rfl rfl ?_; apply Exists.intro; refine ⟨fun w hC => ?_, fun K hK => ?_⟩; (first | (go_simp; exact rfl) | (go_simp; exact ⟨rfl, rfl⟩) | (have h1 := HGC.out _ hC; go_simp; first | exact rfl | exact ⟨rfl, rfl⟩)); go_simp; refine hK _ ?_; clear hK K)
        refine ftext_load_row 24 _ rfl rfl rfl (p) 0 [.bool lo.neg, .slice lo.limbs.A lo.limbs.l.length lo.limbs.c, .int .i64 lo.exp] rfl aggDyad (fun W hW => (HP.out.ext hW).row) (fun K hK => ?_)
        go_simp; refine hK _ ?_; clear hK K
        refine ftext_row _ _ rfl rfl ⟨_, rfl⟩ (fun _ => keeps_true _) (fun w1 hC hJ Φ hΦ => ?_) (fun v hv K hK => ?_)
        · go_simp
          refine (dyad_Cmp a lo _ ((HE.out.trans hC).okD HA.out) ((HE.out.trans hC).okD HIL.out) HA.out.lim HIL.out.lim HA.out.may HIL.out.may).mono ?_
          rw [Hc1.out]
          rintro r w2 ⟨rfl, hE2⟩
          exact ⟨_, rfl, hΦ _ _ rfl (hC.trans hE2) hE2 trivial⟩
        subst hv
        go_simp; refine hK _ ?_; clear hK K
        iterate 5 (refine ftext_det rfl rfl ?_; apply Exists.intro; refine ⟨fun w hC => ?_, fun K hK => ?_⟩; (first | (go_simp; exact rfl) | (go_simp; exact ⟨rfl, rfl⟩)); go_simp; refine hK _ ?_; clear hK K)
        refine ftext_nil ?_
        rintro W2 hC _ _
        replace HA1 : Hid (Blk W2 n 24 [.bool a.neg, .slice a.limbs.A a.limbs.l.length a.limbs.c, .int .i64 a.exp]) := Lib.hid (HA1.out.ext hC)
        replace HL : Hid (Blk W2 L 124 [.pointer (some ⟨p, 0, none⟩)]) := Lib.hid (HL.out.ext hC)
        replace HH : Hid (Blk W2 H 124 [.pointer (some ⟨q, 0, none⟩)]) := Lib.hid (HH.out.ext hC)
        replace HP : Hid (Blk W2 p 24 [.bool lo.neg, .slice lo.limbs.A lo.limbs.l.length lo.limbs.c, .int .i64 lo.exp]) := Lib.hid (HP.out.ext hC)
        replace HQ : Hid (Blk W2 q 24 [.bool hi.neg, .slice hi.limbs.A hi.limbs.l.length hi.limbs.c, .int .i64 hi.exp]) := Lib.hid (HQ.out.ext hC)
        replace HE : Hid (Ext w W2) := Lib.hid (HE.out.trans hC)
        clear hC HGC
        go_wp2_with fail
        generalize W2 = WX at *
        have HGC : Hid (∀ W : World, Ext WX W → W.cell? ⟨H, 0, none⟩ = some (.pointer (some ⟨q, 0, none⟩))) := Lib.hid fun W hW => (HH.out.ext hW).cell 0
        refine wp_region_flow (Ext WX) (fun _ => True) Ext (fun i => if i = 4 then .row (fun v => v = .tuple #[.int .i64 c2, .int .i64 0]) (fun _ _ => True) else .det) [4] (by kernel_rfl) (by kernel_rfl) (by kernel_rfl) (Ext.drew _) trivial (keeps_true _) ?_
        refine ftext_load_row 24 _ rfl rfl rfl (n) 0 [.bool a.neg, .slice a.limbs.A a.limbs.l.length a.limbs.c, .int .i64 a.exp] rfl aggDyad (fun W hW => (HA1.out.ext hW).row) (fun K hK => ?_)
        go_simp; refine hK _ ?_; clear hK K
        iterate 2 (refine ftext_det rfl rfl ?_; apply Exists.intro; refine ⟨fun w hC => ?_, fun K hK => ?_⟩; (first | (go_simp; exact rfl) | (go_simp; exact ⟨rfl, rfl⟩) | (have h1 := HGC.out _ hC; go_simp; first | exact rfl | exact ⟨rfl, rfl⟩)); go_simp; refine hK _ ?_; clear hK K)
        refine ftext_load_row 24 _ rfl rfl rfl (q) 0 [.bool hi.neg, .slice hi.limbs.A hi.limbs.l.length hi.limbs.c, .int .i64 hi.exp] rfl aggDyad (fun W hW => (HQ.out.ext hW).row) (fun K hK => ?_)
        go_simp; refine hK _ ?_; clear hK K
        refine ftext_row _ _ rfl rfl ⟨_, rfl⟩ (fun _ => keeps_true _) (fun w1 hC hJ Φ hΦ => ?_) (fun v hv K hK => ?_)
        · go_simp
          refine (dyad_Cmp a hi _ ((HE.out.trans hC).okD HA.out) ((HE.out.trans hC).okD HIH.out) HA.out.lim HIH.out.lim HA.out.may HIH.out.may).mono ?_
          rw [Hc2.out]
          rintro r w2 ⟨rfl, hE2⟩
          exact ⟨_, rfl, hΦ _ _ rfl (hC.trans hE2) hE2 trivial⟩
        subst hv
        go_simp; refine hK _ ?_; clear hK K
        iterate 5 (refine ftext_det rfl rfl ?_; apply Exists.intro; refine ⟨fun w hC => ?_, fun K hK => ?_⟩; (first | (go_simp; exact rfl) | (go_simp; exact ⟨rfl, rfl⟩)); go_simp; refine hK _ ?_; clear hK K)
        refine ftext_nil ?_
        rintro W4 hC _ _
        replace HA1 : Hid (Blk W4 n 24 [.bool a.neg, .slice a.limbs.A a.limbs.l.length a.limbs.c, .int .i64 a.exp]) := Lib.hid (HA1.out.ext hC)
        replace HL : Hid (Blk W4 L 124 [.pointer (some ⟨p, 0, none⟩)]) := Lib.hid (HL.out.ext hC)
        replace HH : Hid (Blk W4 H 124 [.pointer (some ⟨q, 0, none⟩)]) := Lib.hid (HH.out.ext hC)
        replace HP : Hid (Blk W4 p 24 [.bool lo.neg, .slice lo.limbs.A lo.limbs.l.length lo.limbs.c, .int .i64 lo.exp]) := Lib.hid (HP.out.ext hC)
        replace HQ : Hid (Blk W4 q 24 [.bool hi.neg, .slice hi.limbs.A hi.limbs.l.length hi.limbs.c, .int .i64 hi.exp]) := Lib.hid (HQ.out.ext hC)
        replace HE : Hid (Ext w W4) := Lib.hid (HE.out.trans hC)
        clear hC HGC
        go_wp2_with fail
        exact bodyPost_end (results_none rfl _ _ _) rfl ⟨rfl, by rw [HR.out]; exact ⟨HE.out, HLW.out, .some HL.out HH.out HP.out HQ.out HIL.out HIH.out (by have := HNP.out; omega)⟩⟩
set_option maxRecDepth 100000 in
set_option maxHeartbeats 1000000 in
theorem ends_far (w W0 : World) (L H : Nat) (lo hi : XDyad) (hI : FarI w W0 L H (some (lo, hi))) (h0 : (subD hi.data lo.data).2 = 0) (hT : Tab w) :
    Calls Tryd.prog 114 #[.pointer (some ⟨L, 0, none⟩), .pointer (some ⟨H, 0, none⟩)] W0 fun e W' => ∃ r : XDyad, e = .returned (.tuple #[.agg #[.bool r.neg, .slice r.limbs.A r.limbs.l.length r.limbs.c, .int .i64 r.exp], .int .i64 0]) ∧ r.data = (subD hi.data lo.data).1 ∧ r.mine W' W0.heap.size ∧ Ext W0 W' := by
  obtain ⟨hE, _, hrow⟩ := hI
  cases hrow with
  | @some _ _ p q l h bl bh il ih np =>
    have HT := Lib.hid hT
    have H0 := Lib.hid h0
    have HIL := Lib.hid il
    have HIH := Lib.hid ih
    have HEX : Hid (Ext W0 (W0.alloc (.cells #[.bool false, .slice none 0 0, .int .i64 0] 24))) := Lib.hid (Ext.alloc _ _)
    have HE : Hid (Ext w (W0.alloc (.cells #[.bool false, .slice none 0 0, .int .i64 0] 24))) := Lib.hid (hE.trans HEX.out)
    have HZ : Hid (Blk (W0.alloc (.cells #[.bool false, .slice none 0 0, .int .i64 0] 24)) W0.heap.size 24 [.bool false, .slice none 0 0, .int .i64 0]) := Lib.hid (Blk.new rfl)
    have HGL : Hid (∀ W : World, Ext (W0.alloc (.cells #[.bool false, .slice none 0 0, .int .i64 0] 24)) W → W.cell? ⟨L, 0, none⟩ = some (.pointer (some ⟨p, 0, none⟩))) := Lib.hid fun W hW => ((l.ext HEX.out).ext hW).cell 0
    have HGH : Hid (∀ W : World, Ext (W0.alloc (.cells #[.bool false, .slice none 0 0, .int .i64 0] 24)) W → W.cell? ⟨H, 0, none⟩ = some (.pointer (some ⟨q, 0, none⟩))) := Lib.hid fun W hW => ((h.ext HEX.out).ext hW).cell 0
    have HP : Hid (Blk (W0.alloc (.cells #[.bool false, .slice none 0 0, .int .i64 0] 24)) p 24 [.bool lo.neg, .slice lo.limbs.A lo.limbs.l.length lo.limbs.c, .int .i64 lo.exp]) := Lib.hid (bl.ext HEX.out)
    have HQ : Hid (Blk (W0.alloc (.cells #[.bool false, .slice none 0 0, .int .i64 0] 24)) q 24 [.bool hi.neg, .slice hi.limbs.A hi.limbs.l.length hi.limbs.c, .int .i64 hi.exp]) := Lib.hid (bh.ext HEX.out)
    have hcl := HGL.out (W0.alloc (.cells #[.bool false, .slice none 0 0, .int .i64 0] 24)) (Ext.refl _)
    clear hE hT h0 l h bl bh il ih np
    go_enter Tryd.func114, Tryd.ntmps114
    go_wp2_with fail
    clear hcl
    generalize W0.alloc (.cells #[.bool false, .slice none 0 0, .int .i64 0] 24) = WX at *
    refine wp_region_flowTail 9 (Ext WX) (fun _ => True) Ext (fun i => if i = 6 then .row (fun v => ∃ r : XDyad, v = .tuple #[.agg #[.bool r.neg, .slice r.limbs.A r.limbs.l.length r.limbs.c, .int .i64 r.exp], .int .i64 0]) (fun v W => ∃ r : XDyad, v = .tuple #[.agg #[.bool r.neg, .slice r.limbs.A r.limbs.l.length r.limbs.c, .int .i64 r.exp], .int .i64 0] ∧ r.data = (subD hi.data lo.data).1 ∧ r.mine W W0.heap.size) else .det) [6] (by kernel_rfl) (by kernel_rfl) (by kernel_rfl) (Ext.drew _) trivial (keeps_true _) ?_
    iterate 2 (refine ftext_det rfl rfl ?_; apply Exists.intro; refine ⟨fun w hC => ?_, fun K hK => ?_⟩; (first | (go_simp; exact rfl) | (go_simp; exact ⟨rfl, rfl⟩) | (have h1 := HGH.out _ hC; go_simp; first | exact rfl | exact ⟨rfl, rfl⟩)); go_simp; refine hK _ ?_; clear hK K)
    refine ftext_load_row 24 _ rfl rfl rfl (q) 0 [.bool hi.neg, .slice hi.limbs.A hi.limbs.l.length hi.limbs.c, .int .i64 hi.exp] rfl aggDyad (fun W hW => (HQ.out.ext hW).row) (fun K hK => ?_)
    go_simp; refine hK _ ?_; clear hK K
    iterate 2 (refine ftext_det rfl rfl ?_; apply Exists.intro; refine ⟨fun w hC => ?_, fun K hK => ?_⟩; (first | (go_simp; exact rfl) | (go_simp; exact ⟨rfl, rfl⟩) | (have h1 := HGL.out _ hC; go_simp; first | exact rfl | exact ⟨rfl, rfl⟩)); go_simp; refine hK _ ?_; clear hK K)
    refine ftext_load_row 24 _ rfl rfl rfl (p) 0 [.bool lo.neg, .slice lo.limbs.A lo.limbs.l.length lo.limbs.c, .int .i64 lo.exp] rfl aggDyad (fun W hW => (HP.out.ext hW).row) (fun K hK => ?_)
    go_simp; refine hK _ ?_; clear hK K
    refine ftext_row _ _ rfl rfl ⟨_, XDyad.zero, rfl⟩ (fun v w1 w2 h hR => by obtain ⟨r, h0, h1, h2⟩ := h; exact ⟨r, h0, h1, h2.ext hR⟩) (fun w1 hC hJ Φ hΦ => ?_) (fun v hv K hK => ?_)
    · go_simp
      refine (dyad_Sub hi lo _ ((HE.out.trans hC).okD HIH.out) ((HE.out.trans hC).okD HIL.out) HIH.out.lim HIL.out.lim (HT.out.ext (HE.out.trans hC))).mono ?_
      rw [H0.out]
      rintro e w2 ⟨r, rfl, h1, h2, hE2⟩
      exact ⟨_, rfl, hΦ _ _ ⟨r, rfl⟩ (hC.trans hE2) hE2 ⟨r, rfl, h1, h2.lower (HEX.out.trans hC).size⟩⟩
    obtain ⟨r1, rfl⟩ := hv
    go_simp; refine hK _ ?_; clear hK K
    iterate 2 (refine ftext_det rfl rfl ?_; apply Exists.intro; refine ⟨fun w hC => ?_, fun K hK => ?_⟩; (first | (go_simp; exact rfl) | (go_simp; exact ⟨rfl, rfl⟩)); go_simp; refine hK _ ?_; clear hK K)
    refine ftext_nil ?_
    rintro w1 hC ⟨r, hr, h1, h2⟩ _
    have hr' : Value.agg #[.bool r1.neg, .slice r1.limbs.A r1.limbs.l.length r1.limbs.c, .int .i64 r1.exp] = Value.agg #[.bool r.neg, .slice r.limbs.A r.limbs.l.length r.limbs.c, .int .i64 r.exp] := congrArg (fun v : Value => match v with | .tuple a => a.getD 0 undef | _ => v) hr
    simp only [hr', List.drop_succ_cons, List.drop_zero]
    have HZ1 := Lib.hid (HZ.out.ext hC)
    have HE1 := Lib.hid (HEX.out.trans hC)
    have HM := Lib.hid h2
    have HD := Lib.hid h1
    clear hr hr' h1 h2 hC
    refine wplIn_store Open.wide 24 (.tmp 2) (.tmp 14) rfl rfl (W0.heap.size) 0 24 [.bool false, .slice none 0 0, .int .i64 0] [.bool r.neg, .slice r.limbs.A r.limbs.l.length r.limbs.c, .int .i64 r.exp] rfl rfl aggDyad HZ1.out (by simp) rfl ?_
    intro w2 BR2 hO2
    refine wplIn_assign Open.wide _ rfl rfl ?_
    refine wpListIn_nil ?_
    go_wp2_with fail
    have HS : Shape (fun e => e = 24) W0.heap.size _ w2 := Shape.only (T := fun e => e = 24) (Shape.refl _ _ _) HZ1.out hO2 BR2 rfl rfl (by omega)
    exact bodyPost_ret (results_ct rfl rfl BR2 aggDyad) rfl ⟨r, rfl, HD.out, HM.out.shape HS (by decide), Only.ext HE1.out hO2 (by omega)⟩
end Go.Proofs.YtgcbnagfdfgpnaaDoor
