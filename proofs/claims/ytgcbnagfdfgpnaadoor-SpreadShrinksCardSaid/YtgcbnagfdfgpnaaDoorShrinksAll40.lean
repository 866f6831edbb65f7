/- The program's bound behind rounds. Printed by gen_bound.py. -/
import Derived.Test.YtgcbnagfdfgpnaaDoorShrinksAll10
import Derived.Test.YtgcbnagfdfgpnaaDoorShrinksAll27
namespace Go.Proofs.YtgcbnagfdfgpnaaDoor
open Go.RowKit Go.Hx
set_option maxRecDepth 100000 in
set_option maxHeartbeats 1000000 in
theorem spread_Bound (x : XDyad) (n r : Int) (w : World) (hx : x.ok w w.heap.size) (hb : Limbs x.limbs.l) (hT : Tab w) :
    Calls Tryd.prog 11 #[.agg #[.bool x.neg, .slice x.limbs.A x.limbs.l.length x.limbs.c, .int .i64 x.exp], .int .i64 n, .int .i64 r] w fun e w' => ∃ y : XDyad, e = .returned (.tuple #[.agg #[.bool y.neg, .slice y.limbs.A y.limbs.l.length y.limbs.c, .int .i64 y.exp], .int .i64 (boundD x.data n r).2]) ∧ y.data = (boundD x.data n r).1 ∧ y.mine w' w.heap.size ∧ Ext w w' := by
  have HX := Lib.hid hx
  have HB := Lib.hid hb
  have HT := Lib.hid hT
  clear hx hb hT
  by_cases hmay : mayD x.data
  · by_cases hng0 : x.neg = false
    · have hng : x.neg = false := hng0
      have hng' : x.data.neg = false := hng
      clear hng0
      by_cases h0 : 2 ≤ n
      · have d0 : decide (n < 2) = false := decide_eq_false (by omega)
        by_cases h1 : n ≤ 8
        · have d1 : decide (8 < n) = false := decide_eq_false (by omega)
          by_cases h2 : 0 ≤ r
          · have d2 : decide (r < 0) = false := decide_eq_false (by omega)
            by_cases h3 : r ≤ 64
            · have d3 : decide (64 < r) = false := decide_eq_false (by omega)
              obtain ⟨N, rfl⟩ : ∃ N : Nat, n = (N : Int) := ⟨n.toNat, by omega⟩
              obtain ⟨R, rfl⟩ : ∃ R : Nat, r = (R : Int) := ⟨r.toNat, by omega⟩
              obtain ⟨m, hm1⟩ : ∃ m : Nat, N = m + 1 := ⟨N - 1, by omega⟩
              obtain ⟨K, hK⟩ : ∃ K, R / m = K := ⟨_, rfl⟩
              obtain ⟨T, hT⟩ : ∃ T, boundD x.data N R = T := ⟨_, rfl⟩
              have HT0 : Hid (boundsD m (K - 0) x.data = T) := Lib.hid (by
                rw [← hT]
                unfold boundD
                rw [if_pos ⟨hmay, hng'⟩, if_pos ⟨h0, h1, h2, h3⟩]
                have e1 : ((N : Int) - 1).toNat = m := by omega
                have e2 : ((R : Int)).toNat = R := by omega
                rw [e1, e2, hK]; rfl)
              have HR := Lib.hid hT
              have hsub : IntKind.i64.wrap ((N : Int) - 1) = (m : Int) := by rw [IntWalk.i64_in _ (by omega)]; omega
              have HG : Hid (Fine x.data) := Lib.hid ⟨HB.out, hmay.1.1⟩
              have dm : decide (mayD x.data) = true := decide_eq_true hmay
              have hmp : 1 ≤ m ∧ m ≤ 7 := by omega
              have hKi : (R : Int) / (m : Int) = (K : Int) := by rw [← hK]; rfl
              have hK64 : K ≤ 64 := by rw [← hK]; exact Nat.le_trans (Nat.div_le_self _ _) (by omega)
              have HNG := Lib.hid hng
              clear hmay h0 h1 h2 h3 hT hK hm1 hng hng'
              go_enter Tryd.func11, Tryd.ntmps11
              have BX0 : Blk ((w.alloc (.cells #[.bool x.neg, .slice x.limbs.A x.limbs.l.length x.limbs.c, .int .i64 x.exp] 24)).alloc (.cells #[.bool false, .slice none 0 0, .int .i64 0] 24)) w.heap.size 24 [.bool x.neg, .slice x.limbs.A x.limbs.l.length x.limbs.c, .int .i64 x.exp] := Blk.alloc (Blk.new rfl) _
              go_wp2_with (first | ((with_reducible refine wpl_load 24 (.tmp 3) ?_ ?_ (w.heap.size) 0 [.bool x.neg, .slice x.limbs.A x.limbs.l.length x.limbs.c, .int .i64 x.exp] ?_ ?_ ?_ ?_); (exact rfl); (exact rfl); (exact rfl); (exact aggDyad); (exact BX0.row)) | fail)
              refine (dyad_Check x _ (HX.out.ext (by repeat (first | exact Ext.refl _ | assumption | refine Ext.alloc' ?_ _ | refine Ext.drewN' ?_ _ | refine Ext.drew' ?_ | (refine Ext.trans ?_ (by assumption)))))).mono ?_
              rw [chk_true dm]
              rintro e w1 ⟨rfl, hE1⟩
              have BX : Blk w1 w.heap.size 24 [.bool x.neg, .slice x.limbs.A x.limbs.l.length x.limbs.c, .int .i64 x.exp] := BX0.ext hE1
              have BZ : Blk w1 (w.heap.size + 1) 24 [.bool false, .slice none 0 0, .int .i64 0] := (Blk.new (by simp)).ext hE1
              have hE0 : Ext w w1 := (Ext.alloc' (Ext.alloc _ _) _).trans hE1
              clear BX0 hE1 dm
              have hcn : w1.cell? ⟨w.heap.size, 0, none⟩ = some (.bool x.neg) := BX.cell 0
              rw [HNG.out] at hcn
              go_wp2_with (first | ((with_reducible refine wpl_load 24 (.tmp 3) ?_ ?_ (w.heap.size) 0 [.bool x.neg, .slice x.limbs.A x.limbs.l.length x.limbs.c, .int .i64 x.exp] ?_ ?_ ?_ ?_); (exact rfl); (exact rfl); (exact rfl); (exact aggDyad); (exact BX.row)) | fail)
              refine (dyad_Twin x _ (HX.out.ext hE0) (by have : x.limbs.l.length ≤ 40 := HG.out.2; show x.limbs.l.length ≤ 1000000; omega)).mono ?_
              rintro e w2 ⟨x1, rfl, hx1, hm1, hE2⟩
              have BZ2 := BZ.ext hE2
              have BX2 := BX.ext hE2
              have hE3 := hE0.trans hE2
              clear BX BZ hcn
              have HX1 := Lib.hid hx1
              have HM1 := Lib.hid hm1
              have HSZ := Lib.hid hE0.size
              clear hx1 hm1
              go_wp2_with (first | ((with_reducible refine wpl_store 24 (.tmp 3) (.tmp 34) ?_ ?_ (w.heap.size) 0 24 [.bool x.neg, .slice x.limbs.A x.limbs.l.length x.limbs.c, .int .i64 x.exp] [.bool x1.neg, .slice x1.limbs.A x1.limbs.l.length x1.limbs.c, .int .i64 x1.exp] ?_ ?_ ?_ ?_ ?_ ?_ ?_); (exact rfl); (exact rfl); (exact rfl); (exact rfl); (exact aggDyad); (exact BX2); (exact by simp); (exact rfl); (intro w3 BX3 hO3)) | fail)
              have HS3 : Shape (fun e => e = 24) w.heap.size _ w3 := Shape.only (T := fun e => e = 24) (Shape.refl _ _ _) BX2 hO3 BX3 rfl rfl (Nat.le_refl _)
              have HB0 : Hid (BndI w w3 w.heap.size m K 0 T x1) := Lib.hid ⟨BX3, (HM1.out.lower HSZ.out).shape HS3 (by decide), by rw [HX1.out]; exact HG.out, by rw [HX1.out]; exact HT0.out, BZ2.only hO3 (by omega), Only.ext hE3 hO3 (Nat.le_refl _), Nat.le_refl _, by omega⟩
              clear BZ2 BX2 hE2 hE3 BX3 hO3 HS3
              go_loopw [39] (fun i wr => ∃ k : Nat, ∃ xk, k ≤ K ∧ i = .int .i64 k ∧ Hid (BndI w wr w.heap.size m K k T xk)) (fun i _ => K - (intOf i).toNat)
              case atStart => exact ⟨0, x1, by omega, rfl, HB0⟩
              case round =>
                obtain ⟨k, xk, hk, rfl, HI⟩ := hrel
                by_cases hlt : k < K
                · have hki : (k : Int) < (K : Int) := by omega
                  obtain ⟨H, hH⟩ : ∃ H, halvesD m xk.data = H := ⟨_, rfl⟩
                  have HH := Lib.hid hH
                  clear hH
                  go_wp2_with (first | ((with_reducible refine wpl_load 24 (.tmp 3) ?_ ?_ (w.heap.size) 0 [.bool xk.neg, .slice xk.limbs.A xk.limbs.l.length xk.limbs.c, .int .i64 xk.exp] ?_ ?_ ?_ ?_); (exact rfl); (exact rfl); (exact rfl); (exact aggDyad); (exact HI.out.blk.row)) | fail)
                  obtain ⟨g8, hg8⟩ : ∃ g, g = wr.heap.size := ⟨_, rfl⟩
                  rw [← hg8]
                  have HG8 := Lib.hid hg8
                  have HL8 : Hid (w.heap.size ≤ g8 ∧ g8 ≠ w.heap.size + 1 ∧ g8 ≠ w.heap.size) := Lib.hid (by have := HI.out.ext.size; have := HI.out.out.lt; have := HI.out.blk.lt; omega)
                  clear hg8
                  obtain ⟨wo, rfl⟩ : ∃ wo : World, wo = wr := ⟨_, rfl⟩
                  go_loopw [44] (fun i wr => ∃ j : Nat, ∃ p, j ≤ m ∧ i = .int .i64 j ∧ Hid (HlvI w wr w.heap.size g8 m j H xk p)) (fun i _ => m - (intOf i).toNat)
                  case atStart =>
                    exact ⟨0, xk, by omega, rfl, Lib.hid ⟨Blk.new HG8.out, HI.out.mine.ext (Ext.alloc _ _), HI.out.fine, HH.out, HI.out.blk.alloc _, HI.out.mine.ext (Ext.alloc _ _), HI.out.out.alloc _, HI.out.ext.alloc' _, HL8.out⟩⟩
                  case round =>
                    obtain ⟨j, p, hj, rfl, HJ⟩ := hrel
                    by_cases hjm : j < m
                    · have hji : (j : Int) < (m : Int) := by omega
                      obtain ⟨he, hhe⟩ : ∃ e, (halfD p.data).2 = e := ⟨_, rfl⟩
                      have HE := Lib.hid hhe
                      by_cases h0 : he = 0
                      · have d0 : (he != 0) = false := by simp [h0]
                        have HZ := Lib.hid h0
                        clear hhe h0
                        go_wp2_with (first | ((with_reducible refine wpl_load 24 (.tmp 8) ?_ ?_ (g8) 0 [.bool p.neg, .slice p.limbs.A p.limbs.l.length p.limbs.c, .int .i64 p.exp] ?_ ?_ ?_ ?_); (exact rfl); (exact rfl); (exact rfl); (exact aggDyad); (exact HJ.out.blk.row)) | fail)
                        refine (dyad_Half p _ HJ.out.mine.ok HJ.out.fine.1 (HT.out.ext HJ.out.ext)).mono ?_
                        rintro e w3 ⟨q, rfl, hq1, hq2, hE⟩
                        rw [HE.out]
                        go_wp2_with (first | ((with_reducible refine wpl_store 24 (.tmp 8) (.tmp 49) ?_ ?_ (g8) 0 24 [.bool p.neg, .slice p.limbs.A p.limbs.l.length p.limbs.c, .int .i64 p.exp] [.bool q.neg, .slice q.limbs.A q.limbs.l.length q.limbs.c, .int .i64 q.exp] ?_ ?_ ?_ ?_ ?_ ?_ ?_); (exact rfl); (exact rfl); (exact rfl); (exact rfl); (exact aggDyad); (exact (HJ.out.blk.ext hE)); (exact by simp); (exact rfl); (intro w4 BR hO)) | fail)
                        have HS : Shape (fun e => e = 24) w.heap.size _ w4 := Shape.only (T := fun e => e = 24) (Shape.refl _ _ _) (HJ.out.blk.ext hE) hO BR rfl rfl HJ.out.near.1
                        go_roundw
                        case rel => exact ⟨j + 1, q, by omega, by go_num, Lib.hid ⟨BR, (hq2.lower HJ.out.ext.size).shape HS (by decide), by rw [hq1]; exact halfD_fine _, by rw [hq1]; exact halves_next hjm (by rw [HE.out, HZ.out]) HJ.out.eq, (HJ.out.xblk.ext hE).only hO (Ne.symm HJ.out.near.2.2), (HJ.out.xmine.ext hE).shape HS (by decide), (HJ.out.out.ext hE).only hO (Ne.symm HJ.out.near.2.1), Only.ext (HJ.out.ext.trans hE) hO HJ.out.near.1, HJ.out.near⟩⟩
                        case measure => simp [intOf]; omega
                      · have d0 : (he != 0) = true := by simp [h0]
                        have HTe : Hid (T = (PDyad.zero, he)) := Lib.hid (by
                          have hs := halves_stop hjm (by rw [hhe]; exact h0) HJ.out.eq
                          rw [hhe] at hs
                          have ht := bounds_stop1 hlt (by rw [HH.out, hs]; exact h0) HI.out.eq
                          rw [HH.out, hs] at ht
                          exact ht)
                        clear hhe h0
                        go_wp2_with (first | ((with_reducible refine wpl_load 24 (.tmp 8) ?_ ?_ (g8) 0 [.bool p.neg, .slice p.limbs.A p.limbs.l.length p.limbs.c, .int .i64 p.exp] ?_ ?_ ?_ ?_); (exact rfl); (exact rfl); (exact rfl); (exact aggDyad); (exact HJ.out.blk.row)) | fail)
                        refine (dyad_Half p _ HJ.out.mine.ok HJ.out.fine.1 (HT.out.ext HJ.out.ext)).mono ?_
                        rintro e w3 ⟨q, rfl, hq1, hq2, hE⟩
                        rw [HE.out]
                        go_wp2_with (first | ((with_reducible refine wpl_store 24 (.tmp 8) (.tmp 49) ?_ ?_ (g8) 0 24 [.bool p.neg, .slice p.limbs.A p.limbs.l.length p.limbs.c, .int .i64 p.exp] [.bool q.neg, .slice q.limbs.A q.limbs.l.length q.limbs.c, .int .i64 q.exp] ?_ ?_ ?_ ?_ ?_ ?_ ?_); (exact rfl); (exact rfl); (exact rfl); (exact rfl); (exact aggDyad); (exact (HJ.out.blk.ext hE)); (exact by simp); (exact rfl); (intro w4 BR hO)) | ((with_reducible refine wpl_store 24 (.tmp 6) (.tmp 53) ?_ ?_ (w.heap.size + 1) 0 24 [.bool false, .slice none 0 0, .int .i64 0] [.bool false, .slice none 0 0, .int .i64 0] ?_ ?_ ?_ ?_ ?_ ?_ ?_); (exact rfl); (exact rfl); (exact rfl); (exact rfl); (exact aggDyad); (exact ((HJ.out.out.ext hE).only hO (Ne.symm HJ.out.near.2.1))); (exact by simp); (exact rfl); (intro w5 BR2 hO2)) | fail)
                        exact bodyPost_ret (results_ct rfl rfl BR2 aggDyad) rfl ⟨XDyad.zero, by rw [HR.out, HTe.out] <;> rfl, by rw [HR.out, HTe.out] <;> rfl, ⟨Go.Hx.Own.nil _ _ _ _ _⟩, Only.ext (Only.ext (HJ.out.ext.trans hE) hO HJ.out.near.1) hO2 (by omega)⟩
                    · have hjm : j = m := by omega
                      have HHp : Hid (H = (p.data, 0)) := Lib.hid (by have := HJ.out.eq; rw [hjm, Nat.sub_self] at this; exact this.symm)
                      obtain ⟨se, hse⟩ : ∃ e, (subD xk.data p.data).2 = e := ⟨_, rfl⟩
                      have HSE := Lib.hid hse
                      have HM := Lib.hid hjm
                      have hji : ¬ (j : Int) < (m : Int) := by omega
                      by_cases h0 : se = 0
                      · have d0 : (se != 0) = false := by simp [h0]
                        have HZ := Lib.hid h0
                        clear hse h0 hjm
                        go_wp2_with (first | ((with_reducible refine wpl_load 24 (.tmp 3) ?_ ?_ (w.heap.size) 0 [.bool xk.neg, .slice xk.limbs.A xk.limbs.l.length xk.limbs.c, .int .i64 xk.exp] ?_ ?_ ?_ ?_); (exact rfl); (exact rfl); (exact rfl); (exact aggDyad); (exact HJ.out.xblk.row)) | ((with_reducible refine wpl_load 24 (.tmp 8) ?_ ?_ (g8) 0 [.bool p.neg, .slice p.limbs.A p.limbs.l.length p.limbs.c, .int .i64 p.exp] ?_ ?_ ?_ ?_); (exact rfl); (exact rfl); (exact rfl); (exact aggDyad); (exact HJ.out.blk.row)) | fail)
                        refine (dyad_Sub xk p _ HJ.out.xmine.ok HJ.out.mine.ok HI.out.fine.1 HJ.out.fine.1 (HT.out.ext HJ.out.ext)).mono ?_
                        rintro e w3 ⟨q, rfl, hq1, hq2, hE⟩
                        rw [HSE.out]
                        go_wp2_with (first | ((with_reducible refine wpl_store 24 (.tmp 3) (.tmp 60) ?_ ?_ (w.heap.size) 0 24 [.bool xk.neg, .slice xk.limbs.A xk.limbs.l.length xk.limbs.c, .int .i64 xk.exp] [.bool q.neg, .slice q.limbs.A q.limbs.l.length q.limbs.c, .int .i64 q.exp] ?_ ?_ ?_ ?_ ?_ ?_ ?_); (exact rfl); (exact rfl); (exact rfl); (exact rfl); (exact aggDyad); (exact (HJ.out.xblk.ext hE)); (exact by simp); (exact rfl); (intro w4 BR hO)) | fail)
                        have HS : Shape (fun e => e = 24) w.heap.size _ w4 := Shape.only (T := fun e => e = 24) (Shape.refl _ _ _) (HJ.out.xblk.ext hE) hO BR rfl rfl (Nat.le_refl _)
                        go_roundw
                        case rel => exact ⟨k + 1, q, by omega, by go_num, Lib.hid ⟨BR, (hq2.lower HJ.out.ext.size).shape HS (by decide), by rw [hq1]; exact subD_fine _ _, by
                          rw [hq1]
                          have e1 : (halvesD m xk.data).1 = p.data := by rw [HH.out, HHp.out]
                          have := bounds_next hlt (by rw [HH.out, HHp.out]) (by rw [e1, HSE.out, HZ.out]) HI.out.eq
                          rw [e1] at this
                          exact this, (HJ.out.out.ext hE).only hO (Ne.symm HI.out.near.2), Only.ext (HJ.out.ext.trans hE) hO (Nat.le_refl _), HI.out.near⟩⟩
                        case measure => simp [intOf]; omega
                      · have d0 : (se != 0) = true := by simp [h0]
                        have HTe : Hid (T = (PDyad.zero, se)) := Lib.hid (by
                          have e1 : (halvesD m xk.data).1 = p.data := by rw [HH.out, HHp.out]
                          have ht := bounds_stop2 hlt (by rw [HH.out, HHp.out]) (by rw [e1, hse]; exact h0) HI.out.eq
                          rw [e1, hse] at ht
                          exact ht)
                        clear hse h0 hjm
                        go_wp2_with (first | ((with_reducible refine wpl_load 24 (.tmp 3) ?_ ?_ (w.heap.size) 0 [.bool xk.neg, .slice xk.limbs.A xk.limbs.l.length xk.limbs.c, .int .i64 xk.exp] ?_ ?_ ?_ ?_); (exact rfl); (exact rfl); (exact rfl); (exact aggDyad); (exact HJ.out.xblk.row)) | ((with_reducible refine wpl_load 24 (.tmp 8) ?_ ?_ (g8) 0 [.bool p.neg, .slice p.limbs.A p.limbs.l.length p.limbs.c, .int .i64 p.exp] ?_ ?_ ?_ ?_); (exact rfl); (exact rfl); (exact rfl); (exact aggDyad); (exact HJ.out.blk.row)) | fail)
                        refine (dyad_Sub xk p _ HJ.out.xmine.ok HJ.out.mine.ok HI.out.fine.1 HJ.out.fine.1 (HT.out.ext HJ.out.ext)).mono ?_
                        rintro e w3 ⟨q, rfl, hq1, hq2, hE⟩
                        rw [HSE.out]
                        go_wp2_with (first | ((with_reducible refine wpl_store 24 (.tmp 3) (.tmp 60) ?_ ?_ (w.heap.size) 0 24 [.bool xk.neg, .slice xk.limbs.A xk.limbs.l.length xk.limbs.c, .int .i64 xk.exp] [.bool q.neg, .slice q.limbs.A q.limbs.l.length q.limbs.c, .int .i64 q.exp] ?_ ?_ ?_ ?_ ?_ ?_ ?_); (exact rfl); (exact rfl); (exact rfl); (exact rfl); (exact aggDyad); (exact (HJ.out.xblk.ext hE)); (exact by simp); (exact rfl); (intro w4 BR hO)) | ((with_reducible refine wpl_store 24 (.tmp 6) (.tmp 64) ?_ ?_ (w.heap.size + 1) 0 24 [.bool false, .slice none 0 0, .int .i64 0] [.bool false, .slice none 0 0, .int .i64 0] ?_ ?_ ?_ ?_ ?_ ?_ ?_); (exact rfl); (exact rfl); (exact rfl); (exact rfl); (exact aggDyad); (exact ((HJ.out.out.ext hE).only hO (Ne.symm HI.out.near.2))); (exact by simp); (exact rfl); (intro w5 BR2 hO2)) | fail)
                        exact bodyPost_ret (results_ct rfl rfl BR2 aggDyad) rfl ⟨XDyad.zero, by rw [HR.out, HTe.out] <;> rfl, by rw [HR.out, HTe.out] <;> rfl, ⟨Go.Hx.Own.nil _ _ _ _ _⟩, Only.ext (Only.ext (HJ.out.ext.trans hE) hO (Nat.le_refl _)) hO2 (by omega)⟩
                · have hkK : k = K := by omega
                  have hki : ¬ (k : Int) < (K : Int) := by omega
                  have HTe : Hid (T = (xk.data, 0)) := Lib.hid (by have := HI.out.eq; rw [hkK, Nat.sub_self] at this; exact this.symm)
                  clear hkK
                  go_wp2_with (first | ((with_reducible refine wpl_load 24 (.tmp 3) ?_ ?_ (w.heap.size) 0 [.bool xk.neg, .slice xk.limbs.A xk.limbs.l.length xk.limbs.c, .int .i64 xk.exp] ?_ ?_ ?_ ?_); (exact rfl); (exact rfl); (exact rfl); (exact aggDyad); (exact HI.out.blk.row)) | ((with_reducible refine wpl_store 24 (.tmp 6) (.tmp 67) ?_ ?_ (w.heap.size + 1) 0 24 [.bool false, .slice none 0 0, .int .i64 0] [.bool xk.neg, .slice xk.limbs.A xk.limbs.l.length xk.limbs.c, .int .i64 xk.exp] ?_ ?_ ?_ ?_ ?_ ?_ ?_); (exact rfl); (exact rfl); (exact rfl); (exact rfl); (exact aggDyad); (exact HI.out.out); (exact by simp); (exact rfl); (intro w4 BR2 hO2)) | fail)
                  have HS : Shape (fun e => e = 24) w.heap.size _ w4 := Shape.only (T := fun e => e = 24) (Shape.refl _ _ _) HI.out.out hO2 BR2 rfl rfl (by omega)
                  exact bodyPost_ret (results_ct rfl rfl BR2 aggDyad) rfl ⟨xk, by rw [HR.out, HTe.out] <;> rfl, by rw [HR.out, HTe.out], HI.out.mine.shape HS (by decide), Only.ext HI.out.ext hO2 (by omega)⟩
            · have dm : decide (mayD x.data) = true := decide_eq_true hmay
              have d3 : decide (64 < r) = true := decide_eq_true (by omega)
              have HR : Hid (boundD x.data n r = (PDyad.zero, 2)) := Lib.hid (by unfold boundD; rw [if_pos ⟨hmay, hng'⟩, if_neg (by omega)])
              have HNG := Lib.hid hng
              clear hmay hng hng'
              go_enter Tryd.func11, Tryd.ntmps11
              have BX0 : Blk ((w.alloc (.cells #[.bool x.neg, .slice x.limbs.A x.limbs.l.length x.limbs.c, .int .i64 x.exp] 24)).alloc (.cells #[.bool false, .slice none 0 0, .int .i64 0] 24)) w.heap.size 24 [.bool x.neg, .slice x.limbs.A x.limbs.l.length x.limbs.c, .int .i64 x.exp] := Blk.alloc (Blk.new rfl) _
              go_wp2_with (first | ((with_reducible refine wpl_load 24 (.tmp 3) ?_ ?_ (w.heap.size) 0 [.bool x.neg, .slice x.limbs.A x.limbs.l.length x.limbs.c, .int .i64 x.exp] ?_ ?_ ?_ ?_); (exact rfl); (exact rfl); (exact rfl); (exact aggDyad); (exact BX0.row)) | fail)
              refine (dyad_Check x _ (HX.out.ext (by repeat (first | exact Ext.refl _ | assumption | refine Ext.alloc' ?_ _ | refine Ext.drewN' ?_ _ | refine Ext.drew' ?_ | (refine Ext.trans ?_ (by assumption)))))).mono ?_
              rw [chk_true dm]
              rintro e w1 ⟨rfl, hE1⟩
              have BX : Blk w1 w.heap.size 24 [.bool x.neg, .slice x.limbs.A x.limbs.l.length x.limbs.c, .int .i64 x.exp] := BX0.ext hE1
              have BZ : Blk w1 (w.heap.size + 1) 24 [.bool false, .slice none 0 0, .int .i64 0] := (Blk.new (by simp)).ext hE1
              have hE0 : Ext w w1 := (Ext.alloc' (Ext.alloc _ _) _).trans hE1
              clear BX0 hE1 dm
              have hcn : w1.cell? ⟨w.heap.size, 0, none⟩ = some (.bool x.neg) := BX.cell 0
              rw [HNG.out] at hcn
              go_wp2_with (first | ((with_reducible refine wpl_store 24 (.tmp 6) (.tmp 32) ?_ ?_ (w.heap.size + 1) 0 24 [.bool false, .slice none 0 0, .int .i64 0] [.bool false, .slice none 0 0, .int .i64 0] ?_ ?_ ?_ ?_ ?_ ?_ ?_); (exact rfl); (exact rfl); (exact rfl); (exact rfl); (exact aggDyad); (exact BZ); (exact by simp); (exact rfl); (intro w4 BR2 hO2)) | fail)
              exact bodyPost_ret (results_ct rfl rfl BR2 aggDyad) rfl ⟨XDyad.zero, by rw [HR.out] <;> rfl, by rw [HR.out] <;> rfl, ⟨Go.Hx.Own.nil _ _ _ _ _⟩, Only.ext hE0 hO2 (by omega)⟩
          · have dm : decide (mayD x.data) = true := decide_eq_true hmay
            have d2 : decide (r < 0) = true := decide_eq_true (by omega)
            have HR : Hid (boundD x.data n r = (PDyad.zero, 2)) := Lib.hid (by unfold boundD; rw [if_pos ⟨hmay, hng'⟩, if_neg (by omega)])
            have HNG := Lib.hid hng
            clear hmay hng hng'
            go_enter Tryd.func11, Tryd.ntmps11
            have BX0 : Blk ((w.alloc (.cells #[.bool x.neg, .slice x.limbs.A x.limbs.l.length x.limbs.c, .int .i64 x.exp] 24)).alloc (.cells #[.bool false, .slice none 0 0, .int .i64 0] 24)) w.heap.size 24 [.bool x.neg, .slice x.limbs.A x.limbs.l.length x.limbs.c, .int .i64 x.exp] := Blk.alloc (Blk.new rfl) _
            go_wp2_with (first | ((with_reducible refine wpl_load 24 (.tmp 3) ?_ ?_ (w.heap.size) 0 [.bool x.neg, .slice x.limbs.A x.limbs.l.length x.limbs.c, .int .i64 x.exp] ?_ ?_ ?_ ?_); (exact rfl); (exact rfl); (exact rfl); (exact aggDyad); (exact BX0.row)) | fail)
            refine (dyad_Check x _ (HX.out.ext (by repeat (first | exact Ext.refl _ | assumption | refine Ext.alloc' ?_ _ | refine Ext.drewN' ?_ _ | refine Ext.drew' ?_ | (refine Ext.trans ?_ (by assumption)))))).mono ?_
            rw [chk_true dm]
            rintro e w1 ⟨rfl, hE1⟩
            have BX : Blk w1 w.heap.size 24 [.bool x.neg, .slice x.limbs.A x.limbs.l.length x.limbs.c, .int .i64 x.exp] := BX0.ext hE1
            have BZ : Blk w1 (w.heap.size + 1) 24 [.bool false, .slice none 0 0, .int .i64 0] := (Blk.new (by simp)).ext hE1
            have hE0 : Ext w w1 := (Ext.alloc' (Ext.alloc _ _) _).trans hE1
            clear BX0 hE1 dm
            have hcn : w1.cell? ⟨w.heap.size, 0, none⟩ = some (.bool x.neg) := BX.cell 0
            rw [HNG.out] at hcn
            go_wp2_with (first | ((with_reducible refine wpl_store 24 (.tmp 6) (.tmp 32) ?_ ?_ (w.heap.size + 1) 0 24 [.bool false, .slice none 0 0, .int .i64 0] [.bool false, .slice none 0 0, .int .i64 0] ?_ ?_ ?_ ?_ ?_ ?_ ?_); (exact rfl); (exact rfl); (exact rfl); (exact rfl); (exact aggDyad); (exact BZ); (exact by simp); (exact rfl); (intro w4 BR2 hO2)) | fail)
            exact bodyPost_ret (results_ct rfl rfl BR2 aggDyad) rfl ⟨XDyad.zero, by rw [HR.out] <;> rfl, by rw [HR.out] <;> rfl, ⟨Go.Hx.Own.nil _ _ _ _ _⟩, Only.ext hE0 hO2 (by omega)⟩
        · have dm : decide (mayD x.data) = true := decide_eq_true hmay
          have d1 : decide (8 < n) = true := decide_eq_true (by omega)
          have HR : Hid (boundD x.data n r = (PDyad.zero, 2)) := Lib.hid (by unfold boundD; rw [if_pos ⟨hmay, hng'⟩, if_neg (by omega)])
          have HNG := Lib.hid hng
          clear hmay hng hng'
          go_enter Tryd.func11, Tryd.ntmps11
          have BX0 : Blk ((w.alloc (.cells #[.bool x.neg, .slice x.limbs.A x.limbs.l.length x.limbs.c, .int .i64 x.exp] 24)).alloc (.cells #[.bool false, .slice none 0 0, .int .i64 0] 24)) w.heap.size 24 [.bool x.neg, .slice x.limbs.A x.limbs.l.length x.limbs.c, .int .i64 x.exp] := Blk.alloc (Blk.new rfl) _
          go_wp2_with (first | ((with_reducible refine wpl_load 24 (.tmp 3) ?_ ?_ (w.heap.size) 0 [.bool x.neg, .slice x.limbs.A x.limbs.l.length x.limbs.c, .int .i64 x.exp] ?_ ?_ ?_ ?_); (exact rfl); (exact rfl); (exact rfl); (exact aggDyad); (exact BX0.row)) | fail)
          refine (dyad_Check x _ (HX.out.ext (by repeat (first | exact Ext.refl _ | assumption | refine Ext.alloc' ?_ _ | refine Ext.drewN' ?_ _ | refine Ext.drew' ?_ | (refine Ext.trans ?_ (by assumption)))))).mono ?_
          rw [chk_true dm]
          rintro e w1 ⟨rfl, hE1⟩
          have BX : Blk w1 w.heap.size 24 [.bool x.neg, .slice x.limbs.A x.limbs.l.length x.limbs.c, .int .i64 x.exp] := BX0.ext hE1
          have BZ : Blk w1 (w.heap.size + 1) 24 [.bool false, .slice none 0 0, .int .i64 0] := (Blk.new (by simp)).ext hE1
          have hE0 : Ext w w1 := (Ext.alloc' (Ext.alloc _ _) _).trans hE1
          clear BX0 hE1 dm
          have hcn : w1.cell? ⟨w.heap.size, 0, none⟩ = some (.bool x.neg) := BX.cell 0
          rw [HNG.out] at hcn
          go_wp2_with (first | ((with_reducible refine wpl_store 24 (.tmp 6) (.tmp 32) ?_ ?_ (w.heap.size + 1) 0 24 [.bool false, .slice none 0 0, .int .i64 0] [.bool false, .slice none 0 0, .int .i64 0] ?_ ?_ ?_ ?_ ?_ ?_ ?_); (exact rfl); (exact rfl); (exact rfl); (exact rfl); (exact aggDyad); (exact BZ); (exact by simp); (exact rfl); (intro w4 BR2 hO2)) | fail)
          exact bodyPost_ret (results_ct rfl rfl BR2 aggDyad) rfl ⟨XDyad.zero, by rw [HR.out] <;> rfl, by rw [HR.out] <;> rfl, ⟨Go.Hx.Own.nil _ _ _ _ _⟩, Only.ext hE0 hO2 (by omega)⟩
      · have dm : decide (mayD x.data) = true := decide_eq_true hmay
        have d0 : decide (n < 2) = true := decide_eq_true (by omega)
        have HR : Hid (boundD x.data n r = (PDyad.zero, 2)) := Lib.hid (by unfold boundD; rw [if_pos ⟨hmay, hng'⟩, if_neg (by omega)])
        have HNG := Lib.hid hng
        clear hmay hng hng'
        go_enter Tryd.func11, Tryd.ntmps11
        have BX0 : Blk ((w.alloc (.cells #[.bool x.neg, .slice x.limbs.A x.limbs.l.length x.limbs.c, .int .i64 x.exp] 24)).alloc (.cells #[.bool false, .slice none 0 0, .int .i64 0] 24)) w.heap.size 24 [.bool x.neg, .slice x.limbs.A x.limbs.l.length x.limbs.c, .int .i64 x.exp] := Blk.alloc (Blk.new rfl) _
        go_wp2_with (first | ((with_reducible refine wpl_load 24 (.tmp 3) ?_ ?_ (w.heap.size) 0 [.bool x.neg, .slice x.limbs.A x.limbs.l.length x.limbs.c, .int .i64 x.exp] ?_ ?_ ?_ ?_); (exact rfl); (exact rfl); (exact rfl); (exact aggDyad); (exact BX0.row)) | fail)
        refine (dyad_Check x _ (HX.out.ext (by repeat (first | exact Ext.refl _ | assumption | refine Ext.alloc' ?_ _ | refine Ext.drewN' ?_ _ | refine Ext.drew' ?_ | (refine Ext.trans ?_ (by assumption)))))).mono ?_
        rw [chk_true dm]
        rintro e w1 ⟨rfl, hE1⟩
        have BX : Blk w1 w.heap.size 24 [.bool x.neg, .slice x.limbs.A x.limbs.l.length x.limbs.c, .int .i64 x.exp] := BX0.ext hE1
        have BZ : Blk w1 (w.heap.size + 1) 24 [.bool false, .slice none 0 0, .int .i64 0] := (Blk.new (by simp)).ext hE1
        have hE0 : Ext w w1 := (Ext.alloc' (Ext.alloc _ _) _).trans hE1
        clear BX0 hE1 dm
        have hcn : w1.cell? ⟨w.heap.size, 0, none⟩ = some (.bool x.neg) := BX.cell 0
        rw [HNG.out] at hcn
        go_wp2_with (first | ((with_reducible refine wpl_store 24 (.tmp 6) (.tmp 32) ?_ ?_ (w.heap.size + 1) 0 24 [.bool false, .slice none 0 0, .int .i64 0] [.bool false, .slice none 0 0, .int .i64 0] ?_ ?_ ?_ ?_ ?_ ?_ ?_); (exact rfl); (exact rfl); (exact rfl); (exact rfl); (exact aggDyad); (exact BZ); (exact by simp); (exact rfl); (intro w4 BR2 hO2)) | fail)
        exact bodyPost_ret (results_ct rfl rfl BR2 aggDyad) rfl ⟨XDyad.zero, by rw [HR.out] <;> rfl, by rw [HR.out] <;> rfl, ⟨Go.Hx.Own.nil _ _ _ _ _⟩, Only.ext hE0 hO2 (by omega)⟩
    · have hng : x.neg = true := by simpa using hng0
      clear hng0
      have dm : decide (mayD x.data) = true := decide_eq_true hmay
      have HR : Hid (boundD x.data n r = (PDyad.zero, 8)) := Lib.hid (by unfold boundD; rw [if_neg (fun h => by have h2 : x.neg = false := h.2; rw [hng] at h2; cases h2)])
      have HNG := Lib.hid hng
      clear hmay hng
      go_enter Tryd.func11, Tryd.ntmps11
      have BX0 : Blk ((w.alloc (.cells #[.bool x.neg, .slice x.limbs.A x.limbs.l.length x.limbs.c, .int .i64 x.exp] 24)).alloc (.cells #[.bool false, .slice none 0 0, .int .i64 0] 24)) w.heap.size 24 [.bool x.neg, .slice x.limbs.A x.limbs.l.length x.limbs.c, .int .i64 x.exp] := Blk.alloc (Blk.new rfl) _
      go_wp2_with (first | ((with_reducible refine wpl_load 24 (.tmp 3) ?_ ?_ (w.heap.size) 0 [.bool x.neg, .slice x.limbs.A x.limbs.l.length x.limbs.c, .int .i64 x.exp] ?_ ?_ ?_ ?_); (exact rfl); (exact rfl); (exact rfl); (exact aggDyad); (exact BX0.row)) | fail)
      refine (dyad_Check x _ (HX.out.ext (by repeat (first | exact Ext.refl _ | assumption | refine Ext.alloc' ?_ _ | refine Ext.drewN' ?_ _ | refine Ext.drew' ?_ | (refine Ext.trans ?_ (by assumption)))))).mono ?_
      rw [chk_true dm]
      rintro e w1 ⟨rfl, hE1⟩
      have BX : Blk w1 w.heap.size 24 [.bool x.neg, .slice x.limbs.A x.limbs.l.length x.limbs.c, .int .i64 x.exp] := BX0.ext hE1
      have BZ : Blk w1 (w.heap.size + 1) 24 [.bool false, .slice none 0 0, .int .i64 0] := (Blk.new (by simp)).ext hE1
      have hE0 : Ext w w1 := (Ext.alloc' (Ext.alloc _ _) _).trans hE1
      clear BX0 hE1 dm
      have hcn : w1.cell? ⟨w.heap.size, 0, none⟩ = some (.bool x.neg) := BX.cell 0
      rw [HNG.out] at hcn
      go_wp2_with (first | ((with_reducible refine wpl_store 24 (.tmp 6) (.tmp 17) ?_ ?_ (w.heap.size + 1) 0 24 [.bool false, .slice none 0 0, .int .i64 0] [.bool false, .slice none 0 0, .int .i64 0] ?_ ?_ ?_ ?_ ?_ ?_ ?_); (exact rfl); (exact rfl); (exact rfl); (exact rfl); (exact aggDyad); (exact BZ); (exact by simp); (exact rfl); (intro w4 BR2 hO2)) | fail)
      exact bodyPost_ret (results_ct rfl rfl BR2 aggDyad) rfl ⟨XDyad.zero, by rw [HR.out] <;> rfl, by rw [HR.out] <;> rfl, ⟨Go.Hx.Own.nil _ _ _ _ _⟩, Only.ext hE0 hO2 (by omega)⟩
  · have dm : decide (mayD x.data) = false := decide_eq_false hmay
    have HR : Hid (boundD x.data n r = (PDyad.zero, 8)) := Lib.hid (by unfold boundD; rw [if_neg (fun h => hmay h.1)])
    clear hmay
    go_enter Tryd.func11, Tryd.ntmps11
    have BX0 : Blk ((w.alloc (.cells #[.bool x.neg, .slice x.limbs.A x.limbs.l.length x.limbs.c, .int .i64 x.exp] 24)).alloc (.cells #[.bool false, .slice none 0 0, .int .i64 0] 24)) w.heap.size 24 [.bool x.neg, .slice x.limbs.A x.limbs.l.length x.limbs.c, .int .i64 x.exp] := Blk.alloc (Blk.new rfl) _
    go_wp2_with (first | ((with_reducible refine wpl_load 24 (.tmp 3) ?_ ?_ (w.heap.size) 0 [.bool x.neg, .slice x.limbs.A x.limbs.l.length x.limbs.c, .int .i64 x.exp] ?_ ?_ ?_ ?_); (exact rfl); (exact rfl); (exact rfl); (exact aggDyad); (exact BX0.row)) | fail)
    refine (dyad_Check x _ (HX.out.ext (by repeat (first | exact Ext.refl _ | assumption | refine Ext.alloc' ?_ _ | refine Ext.drewN' ?_ _ | refine Ext.drew' ?_ | (refine Ext.trans ?_ (by assumption)))))).mono ?_
    rw [chk_false dm]
    rintro e w1 ⟨rfl, hE1⟩
    have BX : Blk w1 w.heap.size 24 [.bool x.neg, .slice x.limbs.A x.limbs.l.length x.limbs.c, .int .i64 x.exp] := BX0.ext hE1
    have BZ : Blk w1 (w.heap.size + 1) 24 [.bool false, .slice none 0 0, .int .i64 0] := (Blk.new (by simp)).ext hE1
    have hE0 : Ext w w1 := (Ext.alloc' (Ext.alloc _ _) _).trans hE1
    clear BX0 hE1 dm
    have hcn : w1.cell? ⟨w.heap.size, 0, none⟩ = some (.bool x.neg) := BX.cell 0
    go_wp2_with (first | ((with_reducible refine wpl_store 24 (.tmp 6) (.tmp 17) ?_ ?_ (w.heap.size + 1) 0 24 [.bool false, .slice none 0 0, .int .i64 0] [.bool false, .slice none 0 0, .int .i64 0] ?_ ?_ ?_ ?_ ?_ ?_ ?_); (exact rfl); (exact rfl); (exact rfl); (exact rfl); (exact aggDyad); (exact BZ); (exact by simp); (exact rfl); (intro w4 BR2 hO2)) | fail)
    exact bodyPost_ret (results_ct rfl rfl BR2 aggDyad) rfl ⟨XDyad.zero, by rw [HR.out] <;> rfl, by rw [HR.out] <;> rfl, ⟨Go.Hx.Own.nil _ _ _ _ _⟩, Only.ext hE0 hO2 (by omega)⟩
end Go.Proofs.YtgcbnagfdfgpnaaDoor
