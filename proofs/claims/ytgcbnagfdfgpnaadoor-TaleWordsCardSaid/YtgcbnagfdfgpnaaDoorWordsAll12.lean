/- Parts of a proof, joined: DAddD, DSubD. -/
import Derived.Test.YtgcbnagfdfgpnaaDoorWordsAll9
import Derived.Test.YtgcbnagfdfgpnaaDoorWordsAll11
section
namespace Go.Hx
open Go.RowKit
theorem sum_bound {a b k q : Nat} (ha : a < 2 ^ k) (hb : b < 2 ^ k) (hk : k + 1 ≤ 32 * q) : a + b < B32 ^ q := by
  rw [B32_pow]
  refine Nat.lt_of_lt_of_le (m := 2 ^ (k + 1)) ?_ (Nat.pow_le_pow_right (by omega) hk)
  rw [Nat.pow_succ]; omega
theorem blk_below {w w' : World} {g b t : Nat} {cs : List Value} (h : Blk w b t cs) (k : Below g w w') (hb : b < g) : Blk w' b t cs := (k.block b hb).trans h
end Go.Hx
namespace Go.Proofs.YtgcbnagfdfgpnaaDoor
open Go.RowKit Go.Hx
attribute [local go_sem] detUpon undIn
set_option maxRecDepth 100000 in
set_option maxHeartbeats 1000000 in
theorem dyad_Add (x y : XDyad) (w : World) (hx : x.ok w w.heap.size) (hy : y.ok w w.heap.size) (hbx : Limbs x.limbs.l) (hby : Limbs y.limbs.l) (hT : Tab w) :
    Calls Tryd.prog 89 #[.agg #[.bool x.neg, .slice x.limbs.A x.limbs.l.length x.limbs.c, .int .i64 x.exp], .agg #[.bool y.neg, .slice y.limbs.A y.limbs.l.length y.limbs.c, .int .i64 y.exp]] w fun e w' => ∃ r : XDyad, e = .returned (.tuple #[.agg #[.bool r.neg, .slice r.limbs.A r.limbs.l.length r.limbs.c, .int .i64 r.exp], .int .i64 (addD x.data y.data).2]) ∧ r.data = (addD x.data y.data).1 ∧ r.mine w' w.heap.size ∧ Ext w w' := by
  have HX := Lib.hid hx
  have HY := Lib.hid hy
  have HBX := Lib.hid hbx
  have HBY := Lib.hid hby
  have HT := Lib.hid hT
  clear hx hy hbx hby hT
  by_cases hmx : mayD x.data
  · by_cases hmy : mayD y.data
    · obtain ⟨nx, lx, ex⟩ := x
      obtain ⟨ny, ly, ey⟩ := y
      obtain ⟨jx, rfl⟩ : ∃ j : Nat, ex = (j : Int) := ⟨ex.toNat, by have := hmx.2.1.1; simp only [XDyad.data] at this; omega⟩
      obtain ⟨jy, rfl⟩ : ∃ j : Nat, ey = (j : Int) := ⟨ey.toNat, by have := hmy.2.1.1; simp only [XDyad.data] at this; omega⟩
      have hjx : jx ≤ 1024 := by have := hmx.2.1.2; simp only [XDyad.data] at this; omega
      have hjy : jy ≤ 1024 := by have := hmy.2.1.2; simp only [XDyad.data] at this; omega
      obtain ⟨m, hm⟩ : ∃ m, max jx jy = m := ⟨_, rfl⟩
      obtain ⟨ps, hps⟩ : ∃ ps, (plusS nx (numD (⟨nx, lx, (jx : Int)⟩ : XDyad).data m) ny (numD (⟨ny, ly, (jy : Int)⟩ : XDyad).data m)) = ps := ⟨_, rfl⟩
      obtain ⟨sm, hsm⟩ : ∃ sm, formD ps.1 m ps.2 = sm := ⟨_, rfl⟩
      have hm1 : m ≤ 1024 := by omega
      have hmax : max (jx : Int) (jy : Int) = (m : Int) := by
        have h1 := hm
        rw [Nat.max_def] at h1
        rw [Int.max_def]
        split at h1 <;> split <;> omega
      have HLX : Hid (lx.l.length ≤ 40) := Lib.hid hmx.1.1
      have HLY : Hid (ly.l.length ≤ 40) := Lib.hid hmy.1.1
      have HKX : Hid (((m - jx : Nat) : Int) = (m : Int) - (jx : Int)) := Lib.hid (by omega)
      have HKY : Hid (((m - jy : Nat) : Int) = (m : Int) - (jy : Int)) := Lib.hid (by omega)
      have HKM : Hid (m ≤ 2000 ∧ m - jy ≤ 1024) := Lib.hid (by omega)
      have HKX2 : Hid (m - jx ≤ 1024) := Lib.hid (by omega)
      have HPS := Lib.hid hps
      have HSM := Lib.hid hsm
      obtain ⟨kk, hkk⟩ : ∃ k, k = 2304 := ⟨_, rfl⟩
      have hnx := numD_lt hmx HBX.out hm1 hkk
      have hny := numD_lt hmy HBY.out hm1 hkk
      have HSB : Hid (numD (⟨nx, lx, (jx : Int)⟩ : XDyad).data m + numD (⟨ny, ly, (jy : Int)⟩ : XDyad).data m < B32 ^ 74) := Lib.hid (sum_bound hnx hny (by omega))
      have HR : Hid (addD (⟨nx, lx, (jx : Int)⟩ : XDyad).data (⟨ny, ly, (jy : Int)⟩ : XDyad).data = sm) := Lib.hid (by
        unfold addD sumD
        rw [if_pos ⟨hmx, hmy⟩]
        show formD (plusS nx (numD (⟨nx, lx, (jx : Int)⟩ : XDyad).data (max jx jy)) ny (numD (⟨ny, ly, (jy : Int)⟩ : XDyad).data (max jx jy))).1 (max jx jy) (plusS nx (numD (⟨nx, lx, (jx : Int)⟩ : XDyad).data (max jx jy)) ny (numD (⟨ny, ly, (jy : Int)⟩ : XDyad).data (max jx jy))).2 = _
        rw [hm, hps]
        exact hsm)
      have dm : decide (mayD (⟨nx, lx, (jx : Int)⟩ : XDyad).data) = true := decide_eq_true hmx
      have dm2 : decide (mayD (⟨ny, ly, (jy : Int)⟩ : XDyad).data) = true := decide_eq_true hmy
      clear hmx hmy hjx hjy hps hsm hm1 hnx hny hm hkk
      go_enter Tryd.func89, Tryd.ntmps89
      have BX0 : Blk (((w.alloc (.cells #[.bool nx, .slice lx.A lx.l.length lx.c, .int .i64 jx] 24)).alloc (.cells #[.bool ny, .slice ly.A ly.l.length ly.c, .int .i64 jy] 24)).alloc (.cells #[.bool false, .slice none 0 0, .int .i64 0] 24)) w.heap.size 24 [.bool nx, .slice lx.A lx.l.length lx.c, .int .i64 jx] := Blk.alloc (Blk.alloc (Blk.new rfl) _) _
      have BY0 : Blk (((w.alloc (.cells #[.bool nx, .slice lx.A lx.l.length lx.c, .int .i64 jx] 24)).alloc (.cells #[.bool ny, .slice ly.A ly.l.length ly.c, .int .i64 jy] 24)).alloc (.cells #[.bool false, .slice none 0 0, .int .i64 0] 24)) (w.heap.size + 1) 24 [.bool ny, .slice ly.A ly.l.length ly.c, .int .i64 jy] := Blk.alloc (Blk.new (by simp)) _
      go_wp2_with (first | ((with_reducible refine wpl_load 24 (.tmp 2) ?_ ?_ (w.heap.size) 0 [.bool nx, .slice lx.A lx.l.length lx.c, .int .i64 jx] ?_ ?_ ?_ ?_); (exact rfl); (exact rfl); (exact rfl); (exact aggDyad); (exact BX0.row)) | fail)
      refine (dyad_Check (⟨nx, lx, (jx : Int)⟩ : XDyad) _ (HX.out.ext (by repeat (first | exact Ext.refl _ | assumption | refine Ext.alloc' ?_ _ | refine Ext.drewN' ?_ _ | refine Ext.drew' ?_ | (refine Ext.trans ?_ (by assumption)))))).mono ?_
      rw [chk_true dm]
      rintro e w1 ⟨rfl, hE1⟩
      have hE0 : Ext w w1 := (Ext.alloc' (Ext.alloc' (Ext.alloc _ _) _) _).trans hE1
      have BY1 : Blk w1 (w.heap.size + 1) 24 [.bool ny, .slice ly.A ly.l.length ly.c, .int .i64 jy] := BY0.ext hE1
      go_wp2_with (first | ((with_reducible refine wpl_load 24 (.tmp 3) ?_ ?_ (w.heap.size + 1) 0 [.bool ny, .slice ly.A ly.l.length ly.c, .int .i64 jy] ?_ ?_ ?_ ?_); (exact rfl); (exact rfl); (exact rfl); (exact aggDyad); (exact BY1.row)) | fail)
      refine (dyad_Check (⟨ny, ly, (jy : Int)⟩ : XDyad) _ (HY.out.ext hE0)).mono ?_
      rw [chk_true dm2]
      rintro e w2 ⟨rfl, hE2⟩
      have BX : Blk w2 w.heap.size 24 [.bool nx, .slice lx.A lx.l.length lx.c, .int .i64 jx] := (BX0.ext hE1).ext hE2
      have BY : Blk w2 (w.heap.size + 1) 24 [.bool ny, .slice ly.A ly.l.length ly.c, .int .i64 jy] := BY1.ext hE2
      have BZ : Blk w2 (w.heap.size + 2) 24 [.bool false, .slice none 0 0, .int .i64 0] := ((Blk.new (by simp)).ext hE1).ext hE2
      have hE0 := hE0.trans hE2
      clear BX0 BY0 BY1 hE1 hE2 dm dm2
      have hcx : w2.cell? ⟨w.heap.size, 2, none⟩ = some (.int .i64 jx) := BX.cell 2
      have hcy : w2.cell? ⟨w.heap.size + 1, 2, none⟩ = some (.int .i64 jy) := BY.cell 2
      go_wp2_with (first | ((with_reducible refine wpl_load 24 (.tmp 2) ?_ ?_ (w.heap.size) 0 [.bool nx, .slice lx.A lx.l.length lx.c, .int .i64 jx] ?_ ?_ ?_ ?_); (exact rfl); (exact rfl); (exact rfl); (exact aggDyad); (exact BX.row)) | fail)
      refine (dyad_of (⟨nx, lx, (jx : Int)⟩ : XDyad) m (m - jx) _ (HX.out.ext hE0) HBX.out HLX.out HKX.out HKX2.out).mono ?_
      rintro e w3 ⟨g, l, rfl, hg, BG, hl, hlim, hval, hE3⟩
      have HGL : Hid (w.heap.size + 2 < g) := Lib.hid (Nat.lt_of_lt_of_le BZ.lt hg)
      have HB3 : Hid (Blk w3 g 139 (Value.bool nx :: Value.slice none 0 0 :: Value.int .i64 m :: W32 l)) := Lib.hid BG
      have HL := Lib.hid hl
      have HLIM := Lib.hid hlim
      have HVAL : Hid (val B32 l = numD (⟨nx, lx, (jx : Int)⟩ : XDyad).data m) := Lib.hid (by rw [hval]; rfl)
      have HE3 := Lib.hid (hE0.trans hE3)
      have HY3 := Lib.hid (BY.ext hE3)
      have HZ3 := Lib.hid (BZ.ext hE3)
      clear BX BY BZ hE0 hcx hcy hg BG hl hlim hval hE3
      go_wp2_with fail
      obtain ⟨WX, hWX⟩ : ∃ W0, W0 = w3 := ⟨_, rfl⟩
      rw [← hWX] at HB3 HE3 HY3 HZ3 ⊢
      clear hWX
      have HGY : Hid (∀ W : World, Below g WX W → W.cell? ⟨w.heap.size + 1, 0, none⟩ = some (.bool ny)) := Lib.hid fun W hW => by rw [hW.cell (by have := HGL.out; show w.heap.size + 1 < g; omega)]; exact HY3.out.cell 0
      refine wp_region_flow (Below g WX) (fun W => Blk W g 139 (Value.bool nx :: Value.slice none 0 0 :: Value.int .i64 m :: W32 l)) Ext (fun i => if i = 5 then .row (fun v => ∃ l2 : List Nat, v = .agg (W32 l2).toArray ∧ l2.length = 74 ∧ Limbs l2) (fun v W => Blk W g 139 (Value.bool nx :: Value.slice none 0 0 :: Value.int .i64 m :: W32 l) ∧ ∃ l2 : List Nat, v = .agg (W32 l2).toArray ∧ val B32 l2 = numD (⟨ny, ly, (jy : Int)⟩ : XDyad).data m) else if i = 6 then .last else .det) [5] (by kernel_rfl) (by kernel_rfl) (by kernel_rfl) (Below.refl _ _).drew HB3.out.drew (fun w1 w2 h1 h2 => h1.ext h2) ?_
      iterate 3 (refine ftext_det rfl rfl ?_; apply Exists.intro; refine ⟨fun w hC => ?_, fun K hK => ?_⟩; (first | (go_simp; exact rfl) | (go_simp; exact ⟨rfl, rfl⟩) | (have h1 := HGY.out _ hC; go_simp; first | exact rfl | exact ⟨rfl, rfl⟩)); go_simp; refine hK _ ?_; clear hK K)
      refine ftext_load_row 24 _ rfl rfl rfl (w.heap.size + 1) 0 [.bool ny, .slice ly.A ly.l.length ly.c, .int .i64 jy] rfl aggDyad (fun W hW => (blk_below HY3.out hW (by have := HGL.out; omega)).row) (fun K hK => ?_)
      go_simp; refine hK _ ?_; clear hK K
      (refine ftext_det rfl rfl ?_; apply Exists.intro; refine ⟨fun w hC => ?_, fun K hK => ?_⟩; (first | (go_simp; exact rfl) | (go_simp; exact ⟨rfl, rfl⟩) | (have h1 := HGY.out _ hC; go_simp; first | exact rfl | exact ⟨rfl, rfl⟩)); go_simp; refine hK _ ?_; clear hK K)
      refine ftext_row _ _ rfl rfl ⟨_, List.replicate 74 0, rfl, by simp, Limbs.zeros _⟩ (fun v w1 w2 h1 h2 => ⟨h1.1.ext h2, h1.2⟩) (fun w1 hC hJ Φ hΦ => ?_) (fun v hv K hK => ?_)
      · have hEw : Ext w w1 := Below.trans HE3.out (hC.mono (by have := HGL.out; omega))
        have HBJ := Lib.hid hJ
        go_simp
        refine (dyad_widen (⟨ny, ly, (jy : Int)⟩ : XDyad) m (m - jy) _ (HY.out.ext hEw) HBY.out HLY.out HKY.out HKM.out.2).mono ?_
        rintro r w2 ⟨l2, rfl, h1, h2, h3, hE2⟩
        exact ⟨_, rfl, hΦ _ _ ⟨l2, rfl, h1, h2⟩ (hC.trans (Below.mono hE2 (Nat.le_trans (Nat.le_of_lt HB3.out.lt) hC.size))) hE2 ⟨HBJ.out.ext hE2, l2, rfl, h3⟩⟩
      obtain ⟨l2, rfl, hl2, hlim2⟩ := hv
      have HL2 := Lib.hid hl2
      have HLIM2 := Lib.hid hlim2
      clear hl2 hlim2
      go_simp; refine hK _ ?_; clear hK K
      refine ftext_last (fun _ => True) (fun _ W => ∃ o : List Nat, Blk W g 139 (Value.bool ps.1 :: Value.slice none 0 0 :: Value.int .i64 m :: W32 o) ∧ o.length = 74 ∧ Limbs o ∧ val B32 o = ps.2) rfl rfl ⟨undef, trivial⟩ (fun w1 hC hJ _ Φ hΦ => ?_) (fun v hv K hK => ?_)
      · obtain ⟨hJB, l3, hl3, hval3⟩ := hJ
        have hll := W32.inj hl3
        subst hll
        have HJB := Lib.hid hJB
        have HV3 := Lib.hid hval3
        clear hJB hval3 hl3
        go_simp
        refine (sum_add g nx ny (.slice none 0 0) (.int .i64 m) l l2 _ HJB.out HL.out HL2.out HLIM.out HLIM2.out (by rw [HVAL.out, HV3.out]; exact HSB.out)).mono ?_
        rw [HVAL.out, HV3.out, HPS.out]
        rintro r w2 ⟨o, rfl, h1, h2, h3, h4, h5⟩
        exact ⟨_, rfl, hΦ _ _ trivial (hC.trans h5) ⟨o, h1, h2, h3, h4⟩⟩
      clear hv
      go_simp; refine hK _ ?_; clear hK K
      refine ftext_nil ?_
      rintro w4 hC ⟨o, hBo, hol, holim, hov⟩ _
      have HB4 := Lib.hid hBo
      have HOL := Lib.hid hol
      have HOLIM := Lib.hid holim
      have HOV := Lib.hid hov
      have HE4 : Hid (Ext w w4) := Lib.hid (Below.trans HE3.out (hC.mono (by have := HGL.out; omega)))
      have HZ4 : Hid (Blk w4 (w.heap.size + 2) 24 [.bool false, .slice none 0 0, .int .i64 0]) := Lib.hid (blk_below HZ3.out hC HGL.out)
      clear hC hBo hol holim hov
      go_wp2_with fail
      refine (sum_form g m ps.1 (.slice none 0 0) o _ HB4.out HOL.out HOLIM.out HKM.out.1 (HT.out.ext HE4.out)).mono ?_
      rw [HOV.out, HSM.out]
      rintro e w5 ⟨q, rfl, hq1, hq2, hE5⟩
      have BZ5 := HZ4.out.ext hE5
      have hE6 := HE4.out.trans hE5
      have hq3 := hq2.lower HE4.out.size
      go_wp2_with (first | ((with_reducible refine wpl_store 24 (.tmp 4) (.tmp 34) ?_ ?_ (w.heap.size + 2) 0 24 [.bool false, .slice none 0 0, .int .i64 0] [.bool q.neg, .slice q.limbs.A q.limbs.l.length q.limbs.c, .int .i64 q.exp] ?_ ?_ ?_ ?_ ?_ ?_ ?_); (exact rfl); (exact rfl); (exact rfl); (exact rfl); (exact aggDyad); (exact BZ5); (exact by simp); (exact rfl); (intro w6 BR2 hO2)) | fail)
      have HS : Shape (fun e => e = 24) w.heap.size _ w6 := Shape.only (T := fun e => e = 24) (Shape.refl _ _ _) BZ5 hO2 BR2 rfl rfl (by omega)
      exact bodyPost_ret (results_ct rfl rfl BR2 aggDyad) rfl ⟨q, by rw [HR.out] <;> rfl, by rw [hq1, HR.out], hq3.shape HS (by decide), Only.ext hE6 hO2 (by omega)⟩
    · have dm : decide (mayD x.data) = true := decide_eq_true hmx
      have dm2 : decide (mayD y.data) = false := decide_eq_false hmy
      have HR : Hid (addD x.data y.data = (PDyad.zero, 8)) := Lib.hid (by unfold addD; rw [if_neg (fun h => hmy h.2)])
      clear hmx hmy
      go_enter Tryd.func89, Tryd.ntmps89
      have BX0 : Blk (((w.alloc (.cells #[.bool x.neg, .slice x.limbs.A x.limbs.l.length x.limbs.c, .int .i64 x.exp] 24)).alloc (.cells #[.bool y.neg, .slice y.limbs.A y.limbs.l.length y.limbs.c, .int .i64 y.exp] 24)).alloc (.cells #[.bool false, .slice none 0 0, .int .i64 0] 24)) w.heap.size 24 [.bool x.neg, .slice x.limbs.A x.limbs.l.length x.limbs.c, .int .i64 x.exp] := Blk.alloc (Blk.alloc (Blk.new rfl) _) _
      have BY0 : Blk (((w.alloc (.cells #[.bool x.neg, .slice x.limbs.A x.limbs.l.length x.limbs.c, .int .i64 x.exp] 24)).alloc (.cells #[.bool y.neg, .slice y.limbs.A y.limbs.l.length y.limbs.c, .int .i64 y.exp] 24)).alloc (.cells #[.bool false, .slice none 0 0, .int .i64 0] 24)) (w.heap.size + 1) 24 [.bool y.neg, .slice y.limbs.A y.limbs.l.length y.limbs.c, .int .i64 y.exp] := Blk.alloc (Blk.new (by simp)) _
      go_wp2_with (first | ((with_reducible refine wpl_load 24 (.tmp 2) ?_ ?_ (w.heap.size) 0 [.bool x.neg, .slice x.limbs.A x.limbs.l.length x.limbs.c, .int .i64 x.exp] ?_ ?_ ?_ ?_); (exact rfl); (exact rfl); (exact rfl); (exact aggDyad); (exact BX0.row)) | fail)
      refine (dyad_Check x _ (HX.out.ext (by repeat (first | exact Ext.refl _ | assumption | refine Ext.alloc' ?_ _ | refine Ext.drewN' ?_ _ | refine Ext.drew' ?_ | (refine Ext.trans ?_ (by assumption)))))).mono ?_
      rw [chk_true dm]
      rintro e w1 ⟨rfl, hE1⟩
      have hE0 : Ext w w1 := (Ext.alloc' (Ext.alloc' (Ext.alloc _ _) _) _).trans hE1
      have BY1 : Blk w1 (w.heap.size + 1) 24 [.bool y.neg, .slice y.limbs.A y.limbs.l.length y.limbs.c, .int .i64 y.exp] := BY0.ext hE1
      go_wp2_with (first | ((with_reducible refine wpl_load 24 (.tmp 3) ?_ ?_ (w.heap.size + 1) 0 [.bool y.neg, .slice y.limbs.A y.limbs.l.length y.limbs.c, .int .i64 y.exp] ?_ ?_ ?_ ?_); (exact rfl); (exact rfl); (exact rfl); (exact aggDyad); (exact BY1.row)) | fail)
      refine (dyad_Check y _ (HY.out.ext hE0)).mono ?_
      rw [chk_false dm2]
      rintro e w2 ⟨rfl, hE2⟩
      have BZ : Blk w2 (w.heap.size + 2) 24 [.bool false, .slice none 0 0, .int .i64 0] := ((Blk.new (by simp)).ext hE1).ext hE2
      have hE0 := hE0.trans hE2
      clear BX0 BY0 BY1 hE1 hE2 dm dm2
      go_wp2_with (first | ((with_reducible refine wpl_store 24 (.tmp 4) (.tmp 16) ?_ ?_ (w.heap.size + 2) 0 24 [.bool false, .slice none 0 0, .int .i64 0] [.bool false, .slice none 0 0, .int .i64 0] ?_ ?_ ?_ ?_ ?_ ?_ ?_); (exact rfl); (exact rfl); (exact rfl); (exact rfl); (exact aggDyad); (exact BZ); (exact by simp); (exact rfl); (intro w4 BR2 hO2)) | fail)
      exact bodyPost_ret (results_ct rfl rfl BR2 aggDyad) rfl ⟨XDyad.zero, by rw [HR.out] <;> rfl, by rw [HR.out] <;> rfl, ⟨Go.Hx.Own.nil _ _ _ _ _⟩, Only.ext hE0 hO2 (by omega)⟩
  · have dm : decide (mayD x.data) = false := decide_eq_false hmx
    have HR : Hid (addD x.data y.data = (PDyad.zero, 8)) := Lib.hid (by unfold addD; rw [if_neg (fun h => hmx h.1)])
    clear hmx
    go_enter Tryd.func89, Tryd.ntmps89
    have BX0 : Blk (((w.alloc (.cells #[.bool x.neg, .slice x.limbs.A x.limbs.l.length x.limbs.c, .int .i64 x.exp] 24)).alloc (.cells #[.bool y.neg, .slice y.limbs.A y.limbs.l.length y.limbs.c, .int .i64 y.exp] 24)).alloc (.cells #[.bool false, .slice none 0 0, .int .i64 0] 24)) w.heap.size 24 [.bool x.neg, .slice x.limbs.A x.limbs.l.length x.limbs.c, .int .i64 x.exp] := Blk.alloc (Blk.alloc (Blk.new rfl) _) _
    have BY0 : Blk (((w.alloc (.cells #[.bool x.neg, .slice x.limbs.A x.limbs.l.length x.limbs.c, .int .i64 x.exp] 24)).alloc (.cells #[.bool y.neg, .slice y.limbs.A y.limbs.l.length y.limbs.c, .int .i64 y.exp] 24)).alloc (.cells #[.bool false, .slice none 0 0, .int .i64 0] 24)) (w.heap.size + 1) 24 [.bool y.neg, .slice y.limbs.A y.limbs.l.length y.limbs.c, .int .i64 y.exp] := Blk.alloc (Blk.new (by simp)) _
    go_wp2_with (first | ((with_reducible refine wpl_load 24 (.tmp 2) ?_ ?_ (w.heap.size) 0 [.bool x.neg, .slice x.limbs.A x.limbs.l.length x.limbs.c, .int .i64 x.exp] ?_ ?_ ?_ ?_); (exact rfl); (exact rfl); (exact rfl); (exact aggDyad); (exact BX0.row)) | fail)
    refine (dyad_Check x _ (HX.out.ext (by repeat (first | exact Ext.refl _ | assumption | refine Ext.alloc' ?_ _ | refine Ext.drewN' ?_ _ | refine Ext.drew' ?_ | (refine Ext.trans ?_ (by assumption)))))).mono ?_
    rw [chk_false dm]
    rintro e w1 ⟨rfl, hE1⟩
    have hE0 : Ext w w1 := (Ext.alloc' (Ext.alloc' (Ext.alloc _ _) _) _).trans hE1
    have BZ : Blk w1 (w.heap.size + 2) 24 [.bool false, .slice none 0 0, .int .i64 0] := (Blk.new (by simp)).ext hE1
    clear BX0 BY0 hE1 dm
    go_wp2_with (first | ((with_reducible refine wpl_store 24 (.tmp 4) (.tmp 16) ?_ ?_ (w.heap.size + 2) 0 24 [.bool false, .slice none 0 0, .int .i64 0] [.bool false, .slice none 0 0, .int .i64 0] ?_ ?_ ?_ ?_ ?_ ?_ ?_); (exact rfl); (exact rfl); (exact rfl); (exact rfl); (exact aggDyad); (exact BZ); (exact by simp); (exact rfl); (intro w4 BR2 hO2)) | fail)
    exact bodyPost_ret (results_ct rfl rfl BR2 aggDyad) rfl ⟨XDyad.zero, by rw [HR.out] <;> rfl, by rw [HR.out] <;> rfl, ⟨Go.Hx.Own.nil _ _ _ _ _⟩, Only.ext hE0 hO2 (by omega)⟩
end Go.Proofs.YtgcbnagfdfgpnaaDoor
end
section
namespace Go.Hx
open Go.RowKit
/-- all of w's memory stays but for one block -/
structure But (w w' : World) (b : Nat) : Prop where
  os : w'.os = w.os
  tape : w'.tape = w.tape
  output : w'.output = w.output
  size : w.heap.size ≤ w'.heap.size
  block : ∀ k, k < w.heap.size → k ≠ b → w'.heap[k]? = w.heap[k]?
theorem But.alloc (w : World) (o : Obj) (b : Nat) : But w (w.alloc o) b := ⟨(Ext.alloc w o).os, (Ext.alloc w o).tape, (Ext.alloc w o).output, (Ext.alloc w o).size, fun k hk _ => (Ext.alloc w o).block k hk⟩
theorem But.set (w : World) (b j : Nat) (u : Value) : But w (w.setCell ⟨b, j, none⟩ u) b :=
  have h := (Below.refl 0 w).setCell (p := ⟨b, j, none⟩) (Nat.zero_le _) u
  ⟨h.os, h.tape, h.output, h.size, fun k _ hb => Below.heap_setCell w ⟨b, j, none⟩ u k hb⟩
theorem But.trans {a b c : World} {g : Nat} (h : But a b g) (k : But b c g) : But a c g :=
  ⟨k.os.trans h.os, k.tape.trans h.tape, k.output.trans h.output, Nat.le_trans h.size k.size, fun i hi hg => (k.block i (Nat.lt_of_lt_of_le hi h.size) hg).trans (h.block i hi hg)⟩
theorem But.only {w w1 w2 : World} {b g : Nat} (h : But w w1 b) (k : Only w1 w2 g) (hg : w.heap.size ≤ g) : But w w2 b :=
  ⟨k.os.trans h.os, k.tape.trans h.tape, k.output.trans h.output, by rw [k.size]; exact h.size, fun i hi hb => (k.block i (by omega)).trans (h.block i hi hb)⟩
theorem But.blk {w w' : World} {b g t : Nat} {cs : List Value} (h : But w w' b) (hB : Blk w g t cs) (hg : g ≠ b) : Blk w' g t cs := (h.block g hB.lt hg).trans hB
theorem But.ext {w0 w w' : World} {b : Nat} (h : But w w' b) (hE : Ext w0 w) (hb : w0.heap.size ≤ b) : Ext w0 w' :=
  ⟨h.os.trans hE.os, h.tape.trans hE.tape, h.output.trans hE.output, Nat.le_trans hE.size h.size, fun k hk => (h.block k (Nat.lt_of_lt_of_le hk hE.size) (by omega)).trans (hE.block k hk)⟩
theorem turn_minus {y : XDyad} {ty : Bool} (h : mayD y.data) (ht : (!y.neg && decide (0 < y.limbs.l.length)) = ty) : (⟨ty, y.limbs, y.exp⟩ : XDyad).data = minusD y.data := by
  subst ht
  unfold minusD
  by_cases h0 : y.limbs.l = []
  · have h1 := h.2.2
    have h0' : y.data.limbs = [] := h0
    rw [if_pos h0'] at h1 ⊢
    have hn : y.neg = false := h1.2
    simp [XDyad.data, h0, hn]
  · have h0' : ¬ y.data.limbs = [] := h0
    rw [if_neg h0']
    have hp : 0 < y.limbs.l.length := List.length_pos_iff.2 h0
    simp [XDyad.data, hp]
end Go.Hx
namespace Go.Proofs.YtgcbnagfdfgpnaaDoor
open Go.RowKit Go.Hx
attribute [local go_sem] detUpon undIn
set_option maxRecDepth 100000 in
set_option maxHeartbeats 1000000 in
theorem sub_turn (b : Nat) (ng ty : Bool) (A0 : Option Addr) (L0 c0 : Nat) (ex : Int) (w : World) (hB : Blk w b 24 [.bool ng, .slice A0 L0 c0, .int .i64 ex]) (ht : (!ng && decide (0 < L0)) = ty) :
    Calls Tryd.prog 88 #[.pointer (some ⟨b, 0, none⟩)] w fun e w' => e = .returned (.agg #[.bool ty, .slice A0 L0 c0, .int .i64 ex]) ∧ But w w' b := by
  have HLT := Lib.hid hB.lt
  have HB := Lib.hid hB
  clear hB
  cases ng with
  | true =>
    have hty : ty = false := by rw [← ht]; rfl
    subst hty
    clear ht
    go_enter Tryd.func88, Tryd.ntmps88
    have HB1 : Blk (w.alloc (.cells #[.bool false, .slice none 0 0, .int .i64 0] 24)) b 24 [.bool true, .slice A0 L0 c0, .int .i64 ex] := HB.out.alloc _
    have HZ1 : Blk (w.alloc (.cells #[.bool false, .slice none 0 0, .int .i64 0] 24)) w.heap.size 24 [.bool false, .slice none 0 0, .int .i64 0] := Blk.new rfl
    obtain ⟨r0, f0⟩ := HB1.rules
    have hc0 := r0 0
    have hc1 := r0 1
    have hf0 := f0 0
    clear r0 f0
    have HB2 := Lib.hid (HB1.set 0 (.bool false))
    have HZ2 := Lib.hid (HZ1.far (p := ⟨b, 0, none⟩) (by have := HLT.out; show w.heap.size ≠ b; omega) (.bool false))
    have HBU := Lib.hid ((But.alloc w (.cells #[.bool false, .slice none 0 0, .int .i64 0] 24) b).trans (But.set _ b 0 (.bool false)))
    clear HB1 HZ1
    go_wp2_with (first | ((with_reducible refine wpl_load 24 (.tmp 0) ?_ ?_ (b) 0 [.bool false, .slice A0 L0 c0, .int .i64 ex] ?_ ?_ ?_ ?_); (exact rfl); (exact rfl); (exact rfl); (exact aggDyad); (exact HB2.out.row)) | ((with_reducible refine wpl_store 24 (.tmp 1) (.tmp 12) ?_ ?_ (w.heap.size) 0 24 [.bool false, .slice none 0 0, .int .i64 0] [.bool false, .slice A0 L0 c0, .int .i64 ex] ?_ ?_ ?_ ?_ ?_ ?_ ?_); (exact rfl); (exact rfl); (exact rfl); (exact rfl); (exact aggDyad); (exact HZ2.out); (exact by simp); (exact rfl); (intro w4 BR2 hO2)) | fail)
    exact bodyPost_ret (results_c rfl rfl BR2 aggDyad) rfl ⟨rfl, HBU.out.only hO2 (by omega)⟩
  | false =>
    by_cases h0 : L0 = 0
    · subst h0
      have hty : ty = false := by rw [← ht]; rfl
      subst hty
      clear ht
      go_enter Tryd.func88, Tryd.ntmps88
      have HB1 : Blk (w.alloc (.cells #[.bool false, .slice none 0 0, .int .i64 0] 24)) b 24 [.bool false, .slice A0 0 c0, .int .i64 ex] := HB.out.alloc _
      have HZ1 : Blk (w.alloc (.cells #[.bool false, .slice none 0 0, .int .i64 0] 24)) w.heap.size 24 [.bool false, .slice none 0 0, .int .i64 0] := Blk.new rfl
      obtain ⟨r0, f0⟩ := HB1.rules
      have hc0 := r0 0
      have hc1 := r0 1
      have hf0 := f0 0
      clear r0 f0
      have HB2 := Lib.hid (HB1.set 0 (.bool false))
      have HZ2 := Lib.hid (HZ1.far (p := ⟨b, 0, none⟩) (by have := HLT.out; show w.heap.size ≠ b; omega) (.bool false))
      have HBU := Lib.hid ((But.alloc w (.cells #[.bool false, .slice none 0 0, .int .i64 0] 24) b).trans (But.set _ b 0 (.bool false)))
      clear HB1 HZ1
      go_wp2_with (first | ((with_reducible refine wpl_load 24 (.tmp 0) ?_ ?_ (b) 0 [.bool false, .slice A0 0 c0, .int .i64 ex] ?_ ?_ ?_ ?_); (exact rfl); (exact rfl); (exact rfl); (exact aggDyad); (exact HB2.out.row)) | ((with_reducible refine wpl_store 24 (.tmp 1) (.tmp 12) ?_ ?_ (w.heap.size) 0 24 [.bool false, .slice none 0 0, .int .i64 0] [.bool false, .slice A0 0 c0, .int .i64 ex] ?_ ?_ ?_ ?_ ?_ ?_ ?_); (exact rfl); (exact rfl); (exact rfl); (exact rfl); (exact aggDyad); (exact HZ2.out); (exact by simp); (exact rfl); (intro w4 BR2 hO2)) | fail)
      exact bodyPost_ret (results_c rfl rfl BR2 aggDyad) rfl ⟨rfl, HBU.out.only hO2 (by omega)⟩
    · have hty : ty = true := by rw [← ht]; simp; omega
      subst hty
      have hp : 0 < L0 := by omega
      have hpi : (0 : Int) < (L0 : Int) := by omega
      clear ht h0
      go_enter Tryd.func88, Tryd.ntmps88
      have HB1 : Blk (w.alloc (.cells #[.bool false, .slice none 0 0, .int .i64 0] 24)) b 24 [.bool false, .slice A0 L0 c0, .int .i64 ex] := HB.out.alloc _
      have HZ1 : Blk (w.alloc (.cells #[.bool false, .slice none 0 0, .int .i64 0] 24)) w.heap.size 24 [.bool false, .slice none 0 0, .int .i64 0] := Blk.new rfl
      obtain ⟨r0, f0⟩ := HB1.rules
      have hc0 := r0 0
      have hc1 := r0 1
      have hf0 := f0 0
      clear r0 f0
      have HB2 := Lib.hid (HB1.set 0 (.bool true))
      have HZ2 := Lib.hid (HZ1.far (p := ⟨b, 0, none⟩) (by have := HLT.out; show w.heap.size ≠ b; omega) (.bool true))
      have HBU := Lib.hid ((But.alloc w (.cells #[.bool false, .slice none 0 0, .int .i64 0] 24) b).trans (But.set _ b 0 (.bool true)))
      clear HB1 HZ1
      go_wp2_with (first | ((with_reducible refine wpl_load 24 (.tmp 0) ?_ ?_ (b) 0 [.bool true, .slice A0 L0 c0, .int .i64 ex] ?_ ?_ ?_ ?_); (exact rfl); (exact rfl); (exact rfl); (exact aggDyad); (exact HB2.out.row)) | ((with_reducible refine wpl_store 24 (.tmp 1) (.tmp 12) ?_ ?_ (w.heap.size) 0 24 [.bool false, .slice none 0 0, .int .i64 0] [.bool true, .slice A0 L0 c0, .int .i64 ex] ?_ ?_ ?_ ?_ ?_ ?_ ?_); (exact rfl); (exact rfl); (exact rfl); (exact rfl); (exact aggDyad); (exact HZ2.out); (exact by simp); (exact rfl); (intro w4 BR2 hO2)) | fail)
      exact bodyPost_ret (results_c rfl rfl BR2 aggDyad) rfl ⟨rfl, HBU.out.only hO2 (by omega)⟩
set_option maxRecDepth 100000 in
set_option maxHeartbeats 1000000 in
theorem dyad_Sub (x y : XDyad) (w : World) (hx : x.ok w w.heap.size) (hy : y.ok w w.heap.size) (hbx : Limbs x.limbs.l) (hby : Limbs y.limbs.l) (hT : Tab w) :
    Calls Tryd.prog 37 #[.agg #[.bool x.neg, .slice x.limbs.A x.limbs.l.length x.limbs.c, .int .i64 x.exp], .agg #[.bool y.neg, .slice y.limbs.A y.limbs.l.length y.limbs.c, .int .i64 y.exp]] w fun e w' => ∃ r : XDyad, e = .returned (.tuple #[.agg #[.bool r.neg, .slice r.limbs.A r.limbs.l.length r.limbs.c, .int .i64 r.exp], .int .i64 (subD x.data y.data).2]) ∧ r.data = (subD x.data y.data).1 ∧ r.mine w' w.heap.size ∧ Ext w w' := by
  have HX := Lib.hid hx
  have HY := Lib.hid hy
  have HBX := Lib.hid hbx
  have HBY := Lib.hid hby
  have HT := Lib.hid hT
  clear hx hy hbx hby hT
  by_cases hmx : mayD x.data
  · by_cases hmy : mayD y.data
    · obtain ⟨sm, hsm⟩ : ∃ sm, addD x.data (minusD y.data) = sm := ⟨_, rfl⟩
      obtain ⟨ty, hty⟩ : ∃ t, (!y.neg && decide (0 < y.limbs.l.length)) = t := ⟨_, rfl⟩
      have HTY := Lib.hid hty
      have HYT : Hid ((⟨ty, y.limbs, y.exp⟩ : XDyad).data = minusD y.data) := Lib.hid (turn_minus hmy hty)
      have HSM := Lib.hid hsm
      have HR : Hid (subD x.data y.data = sm) := Lib.hid (by rw [subD_add hmx hmy]; exact hsm)
      have dm : decide (mayD x.data) = true := decide_eq_true hmx
      have dm2 : decide (mayD y.data) = true := decide_eq_true hmy
      clear hmx hmy hsm hty
      go_enter Tryd.func37, Tryd.ntmps37
      have BX0 : Blk (((w.alloc (.cells #[.bool x.neg, .slice x.limbs.A x.limbs.l.length x.limbs.c, .int .i64 x.exp] 24)).alloc (.cells #[.bool y.neg, .slice y.limbs.A y.limbs.l.length y.limbs.c, .int .i64 y.exp] 24)).alloc (.cells #[.bool false, .slice none 0 0, .int .i64 0] 24)) w.heap.size 24 [.bool x.neg, .slice x.limbs.A x.limbs.l.length x.limbs.c, .int .i64 x.exp] := Blk.alloc (Blk.alloc (Blk.new rfl) _) _
      have BY0 : Blk (((w.alloc (.cells #[.bool x.neg, .slice x.limbs.A x.limbs.l.length x.limbs.c, .int .i64 x.exp] 24)).alloc (.cells #[.bool y.neg, .slice y.limbs.A y.limbs.l.length y.limbs.c, .int .i64 y.exp] 24)).alloc (.cells #[.bool false, .slice none 0 0, .int .i64 0] 24)) (w.heap.size + 1) 24 [.bool y.neg, .slice y.limbs.A y.limbs.l.length y.limbs.c, .int .i64 y.exp] := Blk.alloc (Blk.new (by simp)) _
      go_wp2_with (first | ((with_reducible refine wpl_load 24 (.tmp 2) ?_ ?_ (w.heap.size) 0 [.bool x.neg, .slice x.limbs.A x.limbs.l.length x.limbs.c, .int .i64 x.exp] ?_ ?_ ?_ ?_); (exact rfl); (exact rfl); (exact rfl); (exact aggDyad); (exact BX0.row)) | fail)
      refine (dyad_Check x _ (HX.out.ext (by repeat (first | exact Ext.refl _ | assumption | refine Ext.alloc' ?_ _ | refine Ext.drewN' ?_ _ | refine Ext.drew' ?_ | (refine Ext.trans ?_ (by assumption)))))).mono ?_
      rw [chk_true dm]
      rintro e w1 ⟨rfl, hE1⟩
      have hE0 : Ext w w1 := (Ext.alloc' (Ext.alloc' (Ext.alloc _ _) _) _).trans hE1
      have BY1 : Blk w1 (w.heap.size + 1) 24 [.bool y.neg, .slice y.limbs.A y.limbs.l.length y.limbs.c, .int .i64 y.exp] := BY0.ext hE1
      go_wp2_with (first | ((with_reducible refine wpl_load 24 (.tmp 3) ?_ ?_ (w.heap.size + 1) 0 [.bool y.neg, .slice y.limbs.A y.limbs.l.length y.limbs.c, .int .i64 y.exp] ?_ ?_ ?_ ?_); (exact rfl); (exact rfl); (exact rfl); (exact aggDyad); (exact BY1.row)) | fail)
      refine (dyad_Check y _ (HY.out.ext hE0)).mono ?_
      rw [chk_true dm2]
      rintro e w2 ⟨rfl, hE2⟩
      have BX : Blk w2 w.heap.size 24 [.bool x.neg, .slice x.limbs.A x.limbs.l.length x.limbs.c, .int .i64 x.exp] := (BX0.ext hE1).ext hE2
      have BY : Blk w2 (w.heap.size + 1) 24 [.bool y.neg, .slice y.limbs.A y.limbs.l.length y.limbs.c, .int .i64 y.exp] := BY1.ext hE2
      have BZ : Blk w2 (w.heap.size + 2) 24 [.bool false, .slice none 0 0, .int .i64 0] := ((Blk.new (by simp)).ext hE1).ext hE2
      have hE0 := hE0.trans hE2
      clear BX0 BY0 BY1 hE1 hE2 dm dm2
      go_wp2_with fail
      refine wp_region_any (by kernel_rfl) ?_
      change wpAny _ _ _ _ _ _ _ (World.drew _)
      obtain ⟨W3, hW3⟩ : ∃ W, W = w2.drew := ⟨_, rfl⟩
      rw [← hW3]
      have BX3 : Hid (Blk W3 w.heap.size 24 [.bool x.neg, .slice x.limbs.A x.limbs.l.length x.limbs.c, .int .i64 x.exp]) := Lib.hid (by rw [hW3]; exact BX.drew)
      have BY3 : Hid (Blk W3 (w.heap.size + 1) 24 [.bool y.neg, .slice y.limbs.A y.limbs.l.length y.limbs.c, .int .i64 y.exp]) := Lib.hid (by rw [hW3]; exact BY.drew)
      have BZ3 : Hid (Blk W3 (w.heap.size + 2) 24 [.bool false, .slice none 0 0, .int .i64 0]) := Lib.hid (by rw [hW3]; exact BZ.drew)
      have HE3 : Hid (Ext w W3) := Lib.hid (by rw [hW3]; exact hE0.drew')
      clear hW3 BX BY BZ hE0
      refine wpAny_take (i := 1) (v := (.func (.func 88) #[] #[.pointer (some ⟨w.heap.size + 1, 0, none⟩)])) rfl (by kernel_rfl) (by kernel_rfl) (by kernel_rfl) (fun _ _ _ h => h) (Or.inl ⟨by rfl, ?_⟩) ?_
      · intro w0
        (go_simp)
      (go_simp)
      refine wpAny_ready (rs := [0, 2]) (by kernel_rfl) (by simp) ?_
      refine AllReady.cons (i := 0) (o := ?_) ?_ (fun K hK => ?_) ?_
      rotate_left
      · simp only [List.getElem?_toArray, List.getElem?_cons_zero]
        with_reducible rfl
      rotate_left
      refine AllReady.cons (i := 2) (o := ?_) ?_ (fun K hK => ?_) ?_
      rotate_left
      · simp only [List.getElem?_toArray, List.getElem?_cons_succ, List.getElem?_cons_zero]
        with_reducible rfl
      rotate_left
      · exact AllReady.nil
      · refine step_load 24 (.tmp 2) rfl rfl (w.heap.size) 0 [.bool x.neg, .slice x.limbs.A x.limbs.l.length x.limbs.c, .int .i64 x.exp] rfl aggDyad BX3.out.row ?_
        go_simp
        refine hK _ _ ?_
        clear hK K
        refine wpAny_ready (rs := [2]) (by kernel_rfl) (by simp) ?_
        refine AllReady.cons (i := 2) (o := ?_) ?_ (fun K hK => ?_) ?_
        rotate_left
        · simp only [List.getElem?_toArray, List.getElem?_cons_succ, List.getElem?_cons_zero]
          with_reducible rfl
        rotate_left
        · exact AllReady.nil
        go_simp
        refine (sub_turn (w.heap.size + 1) y.neg ty y.limbs.A y.limbs.l.length y.limbs.c y.exp _ BY3.out HTY.out).mono ?_
        rintro e w4 ⟨rfl, hbut⟩
        have BX4 := Lib.hid (hbut.blk BX3.out (by omega))
        have BZ4 := Lib.hid (hbut.blk BZ3.out (by omega))
        have HE4 := Lib.hid (hbut.ext HE3.out (by omega))
        clear hbut
        go_simp
        refine hK _ _ ?_
        clear hK K
        refine wpAny_ready (rs := [3]) (by kernel_rfl) (by simp) ?_
        refine AllReady.cons (i := 3) (o := ?_) ?_ (fun K hK => ?_) ?_
        rotate_left
        · simp only [List.getElem?_toArray, List.getElem?_cons_succ, List.getElem?_cons_zero]
          with_reducible rfl
        rotate_left
        · exact AllReady.nil
        go_simp
        refine (dyad_Add x ⟨ty, y.limbs, y.exp⟩ _ (HX.out.ext HE4.out) ⟨(HY.out.ext HE4.out).limbs⟩ HBX.out HBY.out (HT.out.ext HE4.out)).mono ?_
        rw [HYT.out, HSM.out]
        rintro e w5 ⟨q, rfl, hq1, hq2, hE5⟩
        have BZ5 := Lib.hid (BZ4.out.ext hE5)
        have HE5 := Lib.hid (HE4.out.trans hE5)
        have HQ1 := Lib.hid hq1
        have HQ2 := Lib.hid (hq2.lower HE4.out.size)
        clear hq1 hq2 hE5
        go_simp
        refine hK _ _ ?_
        clear hK K
        refine wpAny_take (i := 4) (v := (.agg #[.bool q.neg, .slice q.limbs.A q.limbs.l.length q.limbs.c, .int .i64 q.exp])) rfl (by kernel_rfl) (by kernel_rfl) (by kernel_rfl) (fun _ _ _ h => h) (Or.inl ⟨by rfl, ?_⟩) ?_
        · intro w0
          (go_simp)
        (go_simp)
        refine wpAny_take (i := 5) (v := (.int .i64 sm.2)) rfl (by kernel_rfl) (by kernel_rfl) (by kernel_rfl) (fun _ _ _ h => h) (Or.inl ⟨by rfl, ?_⟩) ?_
        · intro w0
          (go_simp)
        (go_simp)
        refine wpAny_ready (rs := [6]) (by kernel_rfl) (by simp) ?_
        refine AllReady.cons (i := 6) (o := ?_) ?_ (fun K hK => ?_) ?_
        rotate_left
        · simp only [List.getElem?_toArray, List.getElem?_cons_succ, List.getElem?_cons_zero]
          with_reducible rfl
        rotate_left
        · exact AllReady.nil
        refine step_store 24 (.tmp 4) (.tmp 21) rfl rfl (w.heap.size + 2) 0 24 [.bool false, .slice none 0 0, .int .i64 0] [.bool q.neg, .slice q.limbs.A q.limbs.l.length q.limbs.c, .int .i64 q.exp] rfl rfl aggDyad BZ5.out (by simp) rfl (fun w6 BR2 hO2 => ?_)
        go_simp
        refine hK _ _ ?_
        clear hK K
        refine wpAny_ready (rs := [7]) (by kernel_rfl) (by simp) ?_
        refine AllReady.cons (i := 7) (o := ?_) ?_ (fun K hK => ?_) ?_
        rotate_left
        · simp only [List.getElem?_toArray, List.getElem?_cons_succ, List.getElem?_cons_zero]
          with_reducible rfl
        rotate_left
        · exact AllReady.nil
        go_simp
        refine hK _ _ ?_
        clear hK K
        refine wpAny_done (by kernel_rfl) ?_ _
        go_wp2_with fail
        have HS : Shape (fun e => e = 24) w.heap.size _ w6 := Shape.only (T := fun e => e = 24) (Shape.refl _ _ _) BZ5.out hO2 BR2 rfl rfl (by omega)
        exact bodyPost_ret (results_ct rfl rfl BR2 aggDyad) rfl ⟨q, by rw [HR.out] <;> rfl, by rw [HQ1.out, HR.out], HQ2.out.shape HS (by decide), Only.ext HE5.out hO2 (by omega)⟩
      · go_simp
        refine (sub_turn (w.heap.size + 1) y.neg ty y.limbs.A y.limbs.l.length y.limbs.c y.exp _ BY3.out HTY.out).mono ?_
        rintro e w4 ⟨rfl, hbut⟩
        have BX4 := Lib.hid (hbut.blk BX3.out (by omega))
        have BZ4 := Lib.hid (hbut.blk BZ3.out (by omega))
        have HE4 := Lib.hid (hbut.ext HE3.out (by omega))
        clear hbut
        go_simp
        refine hK _ _ ?_
        clear hK K
        refine wpAny_ready (rs := [0]) (by kernel_rfl) (by simp) ?_
        refine AllReady.cons (i := 0) (o := ?_) ?_ (fun K hK => ?_) ?_
        rotate_left
        · simp only [List.getElem?_toArray, List.getElem?_cons_zero]
          with_reducible rfl
        rotate_left
        · exact AllReady.nil
        refine step_load 24 (.tmp 2) rfl rfl (w.heap.size) 0 [.bool x.neg, .slice x.limbs.A x.limbs.l.length x.limbs.c, .int .i64 x.exp] rfl aggDyad BX4.out.row ?_
        go_simp
        refine hK _ _ ?_
        clear hK K
        refine wpAny_ready (rs := [3]) (by kernel_rfl) (by simp) ?_
        refine AllReady.cons (i := 3) (o := ?_) ?_ (fun K hK => ?_) ?_
        rotate_left
        · simp only [List.getElem?_toArray, List.getElem?_cons_succ, List.getElem?_cons_zero]
          with_reducible rfl
        rotate_left
        · exact AllReady.nil
        go_simp
        refine (dyad_Add x ⟨ty, y.limbs, y.exp⟩ _ (HX.out.ext HE4.out) ⟨(HY.out.ext HE4.out).limbs⟩ HBX.out HBY.out (HT.out.ext HE4.out)).mono ?_
        rw [HYT.out, HSM.out]
        rintro e w5 ⟨q, rfl, hq1, hq2, hE5⟩
        have BZ5 := Lib.hid (BZ4.out.ext hE5)
        have HE5 := Lib.hid (HE4.out.trans hE5)
        have HQ1 := Lib.hid hq1
        have HQ2 := Lib.hid (hq2.lower HE4.out.size)
        clear hq1 hq2 hE5
        go_simp
        refine hK _ _ ?_
        clear hK K
        refine wpAny_take (i := 4) (v := (.agg #[.bool q.neg, .slice q.limbs.A q.limbs.l.length q.limbs.c, .int .i64 q.exp])) rfl (by kernel_rfl) (by kernel_rfl) (by kernel_rfl) (fun _ _ _ h => h) (Or.inl ⟨by rfl, ?_⟩) ?_
        · intro w0
          (go_simp)
        (go_simp)
        refine wpAny_take (i := 5) (v := (.int .i64 sm.2)) rfl (by kernel_rfl) (by kernel_rfl) (by kernel_rfl) (fun _ _ _ h => h) (Or.inl ⟨by rfl, ?_⟩) ?_
        · intro w0
          (go_simp)
        (go_simp)
        refine wpAny_ready (rs := [6]) (by kernel_rfl) (by simp) ?_
        refine AllReady.cons (i := 6) (o := ?_) ?_ (fun K hK => ?_) ?_
        rotate_left
        · simp only [List.getElem?_toArray, List.getElem?_cons_succ, List.getElem?_cons_zero]
          with_reducible rfl
        rotate_left
        · exact AllReady.nil
        refine step_store 24 (.tmp 4) (.tmp 21) rfl rfl (w.heap.size + 2) 0 24 [.bool false, .slice none 0 0, .int .i64 0] [.bool q.neg, .slice q.limbs.A q.limbs.l.length q.limbs.c, .int .i64 q.exp] rfl rfl aggDyad BZ5.out (by simp) rfl (fun w6 BR2 hO2 => ?_)
        go_simp
        refine hK _ _ ?_
        clear hK K
        refine wpAny_ready (rs := [7]) (by kernel_rfl) (by simp) ?_
        refine AllReady.cons (i := 7) (o := ?_) ?_ (fun K hK => ?_) ?_
        rotate_left
        · simp only [List.getElem?_toArray, List.getElem?_cons_succ, List.getElem?_cons_zero]
          with_reducible rfl
        rotate_left
        · exact AllReady.nil
        go_simp
        refine hK _ _ ?_
        clear hK K
        refine wpAny_done (by kernel_rfl) ?_ _
        go_wp2_with fail
        have HS : Shape (fun e => e = 24) w.heap.size _ w6 := Shape.only (T := fun e => e = 24) (Shape.refl _ _ _) BZ5.out hO2 BR2 rfl rfl (by omega)
        exact bodyPost_ret (results_ct rfl rfl BR2 aggDyad) rfl ⟨q, by rw [HR.out] <;> rfl, by rw [HQ1.out, HR.out], HQ2.out.shape HS (by decide), Only.ext HE5.out hO2 (by omega)⟩
    · have dm : decide (mayD x.data) = true := decide_eq_true hmx
      have dm2 : decide (mayD y.data) = false := decide_eq_false hmy
      have HR : Hid (subD x.data y.data = (PDyad.zero, 8)) := Lib.hid (by unfold subD; rw [if_neg (fun h => hmy h.2)])
      clear hmx hmy
      go_enter Tryd.func37, Tryd.ntmps37
      have BX0 : Blk (((w.alloc (.cells #[.bool x.neg, .slice x.limbs.A x.limbs.l.length x.limbs.c, .int .i64 x.exp] 24)).alloc (.cells #[.bool y.neg, .slice y.limbs.A y.limbs.l.length y.limbs.c, .int .i64 y.exp] 24)).alloc (.cells #[.bool false, .slice none 0 0, .int .i64 0] 24)) w.heap.size 24 [.bool x.neg, .slice x.limbs.A x.limbs.l.length x.limbs.c, .int .i64 x.exp] := Blk.alloc (Blk.alloc (Blk.new rfl) _) _
      have BY0 : Blk (((w.alloc (.cells #[.bool x.neg, .slice x.limbs.A x.limbs.l.length x.limbs.c, .int .i64 x.exp] 24)).alloc (.cells #[.bool y.neg, .slice y.limbs.A y.limbs.l.length y.limbs.c, .int .i64 y.exp] 24)).alloc (.cells #[.bool false, .slice none 0 0, .int .i64 0] 24)) (w.heap.size + 1) 24 [.bool y.neg, .slice y.limbs.A y.limbs.l.length y.limbs.c, .int .i64 y.exp] := Blk.alloc (Blk.new (by simp)) _
      go_wp2_with (first | ((with_reducible refine wpl_load 24 (.tmp 2) ?_ ?_ (w.heap.size) 0 [.bool x.neg, .slice x.limbs.A x.limbs.l.length x.limbs.c, .int .i64 x.exp] ?_ ?_ ?_ ?_); (exact rfl); (exact rfl); (exact rfl); (exact aggDyad); (exact BX0.row)) | fail)
      refine (dyad_Check x _ (HX.out.ext (by repeat (first | exact Ext.refl _ | assumption | refine Ext.alloc' ?_ _ | refine Ext.drewN' ?_ _ | refine Ext.drew' ?_ | (refine Ext.trans ?_ (by assumption)))))).mono ?_
      rw [chk_true dm]
      rintro e w1 ⟨rfl, hE1⟩
      have hE0 : Ext w w1 := (Ext.alloc' (Ext.alloc' (Ext.alloc _ _) _) _).trans hE1
      have BY1 : Blk w1 (w.heap.size + 1) 24 [.bool y.neg, .slice y.limbs.A y.limbs.l.length y.limbs.c, .int .i64 y.exp] := BY0.ext hE1
      go_wp2_with (first | ((with_reducible refine wpl_load 24 (.tmp 3) ?_ ?_ (w.heap.size + 1) 0 [.bool y.neg, .slice y.limbs.A y.limbs.l.length y.limbs.c, .int .i64 y.exp] ?_ ?_ ?_ ?_); (exact rfl); (exact rfl); (exact rfl); (exact aggDyad); (exact BY1.row)) | fail)
      refine (dyad_Check y _ (HY.out.ext hE0)).mono ?_
      rw [chk_false dm2]
      rintro e w2 ⟨rfl, hE2⟩
      have BZ : Blk w2 (w.heap.size + 2) 24 [.bool false, .slice none 0 0, .int .i64 0] := ((Blk.new (by simp)).ext hE1).ext hE2
      have hE0 := hE0.trans hE2
      clear BX0 BY0 BY1 hE1 hE2 dm dm2
      go_wp2_with (first | ((with_reducible refine wpl_store 24 (.tmp 4) (.tmp 15) ?_ ?_ (w.heap.size + 2) 0 24 [.bool false, .slice none 0 0, .int .i64 0] [.bool false, .slice none 0 0, .int .i64 0] ?_ ?_ ?_ ?_ ?_ ?_ ?_); (exact rfl); (exact rfl); (exact rfl); (exact rfl); (exact aggDyad); (exact BZ); (exact by simp); (exact rfl); (intro w4 BR2 hO2)) | fail)
      exact bodyPost_ret (results_ct rfl rfl BR2 aggDyad) rfl ⟨XDyad.zero, by rw [HR.out] <;> rfl, by rw [HR.out] <;> rfl, ⟨Go.Hx.Own.nil _ _ _ _ _⟩, Only.ext hE0 hO2 (by omega)⟩
  · have dm : decide (mayD x.data) = false := decide_eq_false hmx
    have HR : Hid (subD x.data y.data = (PDyad.zero, 8)) := Lib.hid (by unfold subD; rw [if_neg (fun h => hmx h.1)])
    clear hmx
    go_enter Tryd.func37, Tryd.ntmps37
    have BX0 : Blk (((w.alloc (.cells #[.bool x.neg, .slice x.limbs.A x.limbs.l.length x.limbs.c, .int .i64 x.exp] 24)).alloc (.cells #[.bool y.neg, .slice y.limbs.A y.limbs.l.length y.limbs.c, .int .i64 y.exp] 24)).alloc (.cells #[.bool false, .slice none 0 0, .int .i64 0] 24)) w.heap.size 24 [.bool x.neg, .slice x.limbs.A x.limbs.l.length x.limbs.c, .int .i64 x.exp] := Blk.alloc (Blk.alloc (Blk.new rfl) _) _
    have BY0 : Blk (((w.alloc (.cells #[.bool x.neg, .slice x.limbs.A x.limbs.l.length x.limbs.c, .int .i64 x.exp] 24)).alloc (.cells #[.bool y.neg, .slice y.limbs.A y.limbs.l.length y.limbs.c, .int .i64 y.exp] 24)).alloc (.cells #[.bool false, .slice none 0 0, .int .i64 0] 24)) (w.heap.size + 1) 24 [.bool y.neg, .slice y.limbs.A y.limbs.l.length y.limbs.c, .int .i64 y.exp] := Blk.alloc (Blk.new (by simp)) _
    go_wp2_with (first | ((with_reducible refine wpl_load 24 (.tmp 2) ?_ ?_ (w.heap.size) 0 [.bool x.neg, .slice x.limbs.A x.limbs.l.length x.limbs.c, .int .i64 x.exp] ?_ ?_ ?_ ?_); (exact rfl); (exact rfl); (exact rfl); (exact aggDyad); (exact BX0.row)) | fail)
    refine (dyad_Check x _ (HX.out.ext (by repeat (first | exact Ext.refl _ | assumption | refine Ext.alloc' ?_ _ | refine Ext.drewN' ?_ _ | refine Ext.drew' ?_ | (refine Ext.trans ?_ (by assumption)))))).mono ?_
    rw [chk_false dm]
    rintro e w1 ⟨rfl, hE1⟩
    have hE0 : Ext w w1 := (Ext.alloc' (Ext.alloc' (Ext.alloc _ _) _) _).trans hE1
    have BZ : Blk w1 (w.heap.size + 2) 24 [.bool false, .slice none 0 0, .int .i64 0] := (Blk.new (by simp)).ext hE1
    clear BX0 BY0 hE1 dm
    go_wp2_with (first | ((with_reducible refine wpl_store 24 (.tmp 4) (.tmp 15) ?_ ?_ (w.heap.size + 2) 0 24 [.bool false, .slice none 0 0, .int .i64 0] [.bool false, .slice none 0 0, .int .i64 0] ?_ ?_ ?_ ?_ ?_ ?_ ?_); (exact rfl); (exact rfl); (exact rfl); (exact rfl); (exact aggDyad); (exact BZ); (exact by simp); (exact rfl); (intro w4 BR2 hO2)) | fail)
    exact bodyPost_ret (results_ct rfl rfl BR2 aggDyad) rfl ⟨XDyad.zero, by rw [HR.out] <;> rfl, by rw [HR.out] <;> rfl, ⟨Go.Hx.Own.nil _ _ _ _ _⟩, Only.ext hE0 hO2 (by omega)⟩
end Go.Proofs.YtgcbnagfdfgpnaaDoor
end
