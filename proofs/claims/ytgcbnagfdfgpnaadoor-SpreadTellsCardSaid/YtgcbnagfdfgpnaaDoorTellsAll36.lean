/- What comes of meetings: the reference. Printed by gen_meetr.py. -/
import Derived.Test.YtgcbnagfdfgpnaaDoorTellsAll35
import Derived.Test.YtgcbnagfdfgpnaaDoorTellsAll13
namespace Go.Proofs.YtgcbnagfdfgpnaaDoor
open Go.RowKit Go.Hx
attribute [local go_sem] XDyad.cells XMass.cells PMeeting.cells detUpon undIn
set_option maxRecDepth 100000 in
set_option maxHeartbeats 4000000 in
theorem ref30_Meet (x : LX XMass) (m : LX PMeeting) (w : World) (hx : x.ok w w.heap.size XMass.cells) (hxs : ∀ z ∈ x.l, z.ok w w.heap.size) (hm : m.ok w w.heap.size PMeeting.cells) (lx : ∀ z ∈ x.l, LimM z.data) :
    Calls Tryd.prog 20 #[.slice x.A x.l.length x.c, .slice m.A m.l.length m.c] w fun e w' => ∃ z : LX XMass, e = .returned (.tuple #[.slice z.A z.l.length z.c, .int .i64 (meetP (x.l.map XMass.data) m.l).2]) ∧ z.l.map XMass.data = (meetP (x.l.map XMass.data) m.l).1 ∧ Go.Hx.Own w' w.heap.size 47 12 XMass.cells (.slice z.A z.l.length z.c) z.l ∧ AllMine w' w.heap.size z.l ∧ Ext w w' := by
  have HM := Lib.hid hm
  have HXS := Lib.hid hxs
  have LXX := Lib.hid lx
  obtain ⟨l, A, c⟩ := x
  have HX := Lib.hid hx.1
  clear hm hxs lx hx
  dsimp only at *
  by_cases h0 : askedP l.length m.l = 0
  rotate_left
  · have HV : Hid (meetP (l.map XMass.data) m.l = ([], askedP l.length m.l)) := Lib.hid (by unfold meetP; rw [List.length_map, if_neg h0])
    obtain ⟨v, hv⟩ : ∃ v, askedP l.length m.l = v := ⟨_, rfl⟩
    rw [hv] at HV h0
    have HVV := Lib.hid hv
    have d0 : (v != 0) = true := by simpa using h0
    clear h0 hv
    go_enter Tryd.func20, Tryd.ntmps20
    go_wp2_with fail
    refine (ref30_asked l.length m _ HM.out).mono ?_
    rw [HVV.out]
    rintro e w1 ⟨rfl, hE1⟩
    go_wp2_with fail
    go_ret2
    exact ⟨⟨[], none, 0⟩, by rw [HV.out] <;> rfl, by rw [HV.out] <;> rfl, Go.Hx.Own.nil _ _ _ _ _, AllMine.nil _ _, hE1⟩
  obtain ⟨h2, h8, hl64, hall⟩ := asked_ok h0
  have HA := Lib.hid h0
  have HALL := Lib.hid hall
  have HL : Hid (2 ≤ l.length ∧ l.length ≤ 8 ∧ m.l.length ≤ 64) := Lib.hid ⟨by omega, by omega, hl64⟩
  clear h0 hall h2 h8 hl64
  go_enter Tryd.func20, Tryd.ntmps20
  go_wp2_with fail
  refine (ref30_asked l.length m _ HM.out).mono ?_
  rw [HA.out]
  rintro e w1 ⟨rfl, hE1⟩
  have HI0 : Hid (CopI w w1 l 0 (.slice none 0 0) []) := Lib.hid ⟨Go.Hx.Own.nil _ _ _ _ _, AllMine.nil _ _, rfl, by simp, hE1⟩
  clear hE1
  go_wp2_with fail
  go_loopw [7, 8] (fun v i wr => ∃ (k : Nat) (o : List XMass), k ≤ l.length ∧ i = .int .i64 k ∧ Hid (CopI w wr l k v o)) (fun _ i _ => l.length - (intOf i).toNat)
  case atStart => exact ⟨0, [], by omega, rfl, HI0⟩
  case round =>
    obtain ⟨k, o, hk, rfl, HI⟩ := hrel
    clear HI0
    obtain ⟨A0, c0, rfl, hok0⟩ := HI.out.own.form
    clear hok0
    by_cases hlt : k < l.length
    · obtain ⟨z, hz⟩ : ∃ z, l[k]? = some z := ⟨_, List.getElem?_eq_getElem hlt⟩
      have HZ := Lib.hid hz
      have HZM := Lib.hid (List.mem_of_getElem? hz)
      obtain ⟨b1, o1, rfl, hb1, hrow⟩ := Sl.row (size := 12) (fun _ => rfl) HX.out hz
      have R_z : Hid (∀ W, Ext w W → RowAt W b1 (o1 + k * 12) z.cells) := Lib.hid fun W hW => hrow.below hW.below hb1
      have hki : (k : Int) < (l.length : Int) := by omega
      have hk8 : k < 8 := by have := HL.out; omega
      have hok := Lib.hid ((HXS.out z HZM.out).ext HI.out.ext)
      have hol : o.length = k := by have := congrArg List.length HI.out.data; simpa [Nat.min_eq_left (Nat.le_of_lt hlt)] using this
      have HOL := Lib.hid hol
      clear hz hb1 hrow hol
      by_cases hmay : mayM z.data
      rotate_left
      · have HC : Hid (decide (mayM z.data) = false) := Lib.hid (decide_eq_false hmay)
        have HV : Hid (meetP (l.map XMass.data) m.l = ([], 8)) := Lib.hid (by unfold meetP; rw [List.length_map, if_pos HA.out, if_neg]; intro h; exact hmay (h _ (List.mem_map_of_mem HZM.out)))
        clear hmay
        go_wp2_with (first | ((with_reducible refine wpl_load 47 (.tmp 30) ?_ ?_ b1 (o1 + k * 12) z.cells ?_ ?_ ?_ ?_); (exact rfl); (exact rfl); (exact rfl); (exact aggMass); (exact R_z.out _ HI.out.ext)) | fail)
        refine (ref06_May z _ hok.out).mono ?_
        rw [HC.out]
        rintro e w2 ⟨rfl, hE2⟩
        have HE2 := Lib.hid (HI.out.ext.trans hE2)
        clear hE2
        go_wp2_with fail
        go_ret2
        exact ⟨⟨[], none, 0⟩, by rw [HV.out] <;> rfl, by rw [HV.out] <;> rfl, Go.Hx.Own.nil _ _ _ _ _, AllMine.nil _ _, HE2.out⟩
      have HC : Hid (decide (mayM z.data) = true) := Lib.hid (decide_eq_true hmay)
      have HMY := Lib.hid hmay
      have HSM : Hid (z.data.small) := Lib.hid (((LXX.out z HZM.out).fine hmay).small)
      clear hmay
      go_wp2_with (first | ((with_reducible refine wpl_load 47 (.tmp 30) ?_ ?_ b1 (o1 + k * 12) z.cells ?_ ?_ ?_ ?_); (exact rfl); (exact rfl); (exact rfl); (exact aggMass); (exact R_z.out _ HI.out.ext)) | fail)
      refine (ref06_May z _ hok.out).mono ?_
      rw [HC.out]
      rintro e W2 ⟨rfl, E1⟩
      go_wp2_with (first | ((with_reducible refine wpl_load 47 (.tmp 37) ?_ ?_ b1 (o1 + k * 12) z.cells ?_ ?_ ?_ ?_); (exact rfl); (exact rfl); (exact rfl); (exact aggMass); (exact R_z.out _ (HI.out.ext.trans E1))) | fail)
      refine (ref06_Twin z _ (hok.out.ext E1) HSM.out).mono ?_
      rintro e W3 ⟨y, rfl, hyd, hym, hE⟩
      have HYD := Lib.hid hyd
      have HYM := Lib.hid (hym.lower (HI.out.ext.trans E1).size)
      have HOW := Lib.hid (HI.out.own.ext (E1.trans hE))
      have HE3 := Lib.hid (HI.out.ext.trans (E1.trans hE))
      have HAM := Lib.hid (HI.out.mine.ext (E1.trans hE))
      clear hyd hym E1 hE
      go_wp2_with (at_builtin; go_must (refine app_one elMass rfl (.tmp 34) (.tmp 40) rfl W3 w.heap.size XMass.cells _ o y rfl HOW.out _ 1 rfl (by simp) rfl rfl (by have := HOL.out; omega) (by have := HOL.out; unfold maxLen; omega) HE3.out.size ?_); intro v' w4 hown' hgrow hat)
      have HI2 : Hid (CopI w w4 l (k + 1) v' (o ++ [y])) := Lib.hid ⟨hown', (HAM.out.kept HOW.out hgrow (by decide)).snoc (HYM.out.kept HOW.out hgrow (by decide)), by rw [List.map_append, HI.out.data, take_snoc HZ.out, List.map_append]; simp [HYD.out], fun q hq => by
        rw [take_snoc HZ.out] at hq
        rcases List.mem_append.1 hq with hq | hq
        · exact HI.out.may q hq
        · simp only [List.mem_singleton] at hq; subst hq; exact HMY.out, Own.below HOW.out HE3.out hgrow (Nat.le_refl _) HE3.out.size⟩
      clear hown' hgrow hat
      go_roundw
      case rel => exact ⟨k + 1, o ++ [y], by omega, by go_num, HI2⟩
      case measure => simp [intOf]; omega
    · have hkl : k = l.length := by omega
      have hki : ¬ (k : Int) < (l.length : Int) := by omega
      have HMAY : Hid (∀ z ∈ l, mayM z.data) := Lib.hid fun z hz => HI.out.may z (by rw [hkl, List.take_length]; exact hz)
      have HOD : Hid (o.map XMass.data = l.map XMass.data) := Lib.hid (by have := HI.out.data; rwa [hkl, List.take_length] at this)
      clear hkl
      obtain ⟨g, rfl⟩ := Own.place (k := 0) (by have := congrArg List.length HOD.out; simp only [List.length_map] at this; have := HL.out; omega) HI.out.own
      obtain ⟨cur, hcur, hkl, hgl⟩ := KL.of_own HI.out.own
      obtain ⟨T, hT⟩ : ∃ T, meetsM m.l (l.map XMass.data) = T := ⟨_, rfl⟩
      have HR : Hid (meetP (l.map XMass.data) m.l = T) := Lib.hid (by unfold meetP; rw [List.length_map, if_pos HA.out, if_pos, hT]; intro z hz; obtain ⟨z', hz', rfl⟩ := List.mem_map.1 hz; exact HMAY.out z' hz')
      have hon : o.length = l.length := by have := congrArg List.length HOD.out; simpa using this
      have HI1 : Hid (MetI w wr g l.length c0 m.l T cur o 0) := Lib.hid ⟨hcur, hkl, HI.out.mine, fun z hz => by
        have : z.data ∈ l.map XMass.data := by rw [← HOD.out]; exact List.mem_map_of_mem hz
        obtain ⟨z', hz', e⟩ := List.mem_map.1 this
        rw [← e]
        exact ⟨HMAY.out z' hz', (LXX.out z' hz').fine (HMAY.out z' hz')⟩, hon, by rw [List.drop_zero, HOD.out, hT], HI.out.ext, hgl⟩
      clear hcur hkl hgl hT
      go_wp2_with fail
      clear hon
      obtain ⟨ml, mA, mc⟩ := m
      dsimp only at *
      go_loopw [9] (fun i W => ∃ (j : Nat) (cur : List Value) (q : List XMass), j ≤ ml.length ∧ i = .int .i64 j ∧ Hid (MetI w W g l.length c0 ml T cur q j)) (fun i _ => ml.length - (intOf i).toNat)
      case atStart => exact ⟨0, cur, o, by omega, rfl, HI1⟩
      case round =>
        obtain ⟨j, cur, q, hj, rfl, HJ⟩ := hrel
        clear HI1 HI
        by_cases hlt2 : j < ml.length
        rotate_left
        · have hjl : j = ml.length := by omega
          have hji : ¬ (j : Int) < (ml.length : Int) := by omega
          have HTe : Hid (T = (q.map XMass.data, 0)) := Lib.hid (by have := HJ.out.eq; rw [hjl, List.drop_length] at this; exact this.symm)
          clear hjl
          go_wp2_with fail
          go_ret2
          have hq := HJ.out.len
          rw [← hq]
          exact ⟨⟨q, some ⟨g, 0, none⟩, c0⟩, by rw [HR.out, HTe.out] <;> rfl, by rw [HR.out, HTe.out], HJ.out.kl.own (fun _ => rfl) HJ.out.blk HJ.out.low, HJ.out.mine, HJ.out.ext⟩
        obtain ⟨zz, hz⟩ : ∃ z, ml[j]? = some z := ⟨_, List.getElem?_eq_getElem hlt2⟩
        have HZ := Lib.hid hz
        obtain ⟨b1, o1, rfl, hb1, hrow⟩ := Sl.row (size := 2) (fun _ => rfl) HM.out.1 hz
        have R_z : Hid (∀ W, Ext w W → RowAt W b1 (o1 + j * 2) zz.cells) := Lib.hid fun W hW => hrow.below hW.below hb1
        obtain ⟨ha, hb, hai, hbi, hab⟩ := meetOk_nat (HALL.out zz (List.mem_of_getElem? hz))
        clear hrow hb1 hz
        obtain ⟨za, zb⟩ := zz
        obtain ⟨a, rfl⟩ : ∃ a : Nat, za = (a : Int) := ⟨za.toNat, hai.symm⟩
        obtain ⟨b, rfl⟩ : ∃ b : Nat, zb = (b : Int) := ⟨zb.toNat, hbi.symm⟩
        simp only [Int.toNat_natCast] at ha hb hab
        have HAB := Lib.hid hab
        have hqn := HJ.out.len
        obtain ⟨p, hp⟩ : ∃ p, q[a]? = some p := ⟨_, List.getElem?_eq_getElem (by omega)⟩
        obtain ⟨r, hr⟩ : ∃ r, q[b]? = some r := ⟨_, List.getElem?_eq_getElem (by omega)⟩
        have HP := Lib.hid hp
        have HQ := Lib.hid hr
        have HPM := Lib.hid (List.mem_of_getElem? hp)
        have HQM := Lib.hid (List.mem_of_getElem? hr)
        have FP := Lib.hid (HJ.out.good p HPM.out).2
        have FR := Lib.hid (HJ.out.good r HQM.out).2
        have hml64 : ml.length ≤ 64 := HL.out.2.2
        have hji : (j : Int) < (ml.length : Int) := by omega
        have hal : (a : Int) < (l.length : Int) := by omega
        have hbl : (b : Int) < (l.length : Int) := by omega
        have B0 := HJ.out.blk
        have KL0 := Lib.hid HJ.out.kl
        have N_q := HJ.out.mine
        have E := HJ.out.ext
        have LOW := HJ.out.low
        have hm1 := (HJ.out.good p HPM.out).1
        have hm2 := (HJ.out.good r HQM.out).1
        have t0 := meetM_two hm1 hm2
        clear hp hr hai hbi hab hqn
        rcases t0 with he | he
        rotate_left
        · have HTe : Hid (T = ([], 10)) := Lib.hid (meets_bad1 (a := a) (b := b) HZ.out (by simp) (by simp) HP.out HQ.out HJ.out.eq he)
          have G0 := Lib.hid he
          clear he hm1 hm2
          go_wp2_with fail
          have L0_0 := B0.lt
          refine FG.wp_region_flowTail 25 (fun w' => wr.heap.size ≤ w'.heap.size) (Ext wr) Ext (chK wr [16] [23, 24] [5, 7, 13, 15] [(21, 47, XMass.zero.cells), (22, 47, XMass.zero.cells)]) [16] (by kernel_rfl) (by kernel_rfl) (by kernel_rfl) (fun _ _ h => Ext.size h) (Nat.le_refl _) (chK_early (Ext.drew _)) (Ext.drew _) (fun _ _ h k => h.trans k) ?_
          iterate 5 (refine FG.ftext_det rfl rfl ?_; apply Exists.intro; refine ⟨fun w hC => ?_, fun K hK => ?_⟩; (first | (go_simp; exact rfl) | (go_simp; exact ⟨rfl, rfl⟩) | (go_simp; exact trivial)); go_simp; refine hK _ ?_; clear hK K)
          refine FG.ftext_early (Ext wr) rfl rfl ?_; apply Exists.intro; refine ⟨fun w1 _ hE => ?_, fun K hK => ?_⟩; (have hc := R_z.out _ (E.trans hE) 0 _ rfl; simp only [Nat.add_zero] at hc; go_simp; first | exact ⟨rfl, rfl⟩ | exact rfl)
          go_simp; refine hK _ ?_; clear hK K
          iterate 1 (refine FG.ftext_det rfl rfl ?_; apply Exists.intro; refine ⟨fun w hC => ?_, fun K hK => ?_⟩; (first | (go_simp; exact rfl) | (go_simp; exact ⟨rfl, rfl⟩) | (go_simp; exact trivial)); go_simp; refine hK _ ?_; clear hK K)
          refine FG.ftext_load_early (Ext wr) 47 _ rfl rfl rfl (g) (a * 12) (p.cells) rfl aggMass (fun w1 _ hE => Blk.at (n := 12) (B0.ext hE) (KL0.out.get (fun _ => rfl) HP.out)) (fun K hK => ?_)
          go_simp; refine hK _ ?_; clear hK K
          iterate 5 (refine FG.ftext_det rfl rfl ?_; apply Exists.intro; refine ⟨fun w hC => ?_, fun K hK => ?_⟩; (first | (go_simp; exact rfl) | (go_simp; exact ⟨rfl, rfl⟩) | (go_simp; exact trivial)); go_simp; refine hK _ ?_; clear hK K)
          refine FG.ftext_early (Ext wr) rfl rfl ?_; apply Exists.intro; refine ⟨fun w1 _ hE => ?_, fun K hK => ?_⟩; (have hc := R_z.out _ (E.trans hE) 1 _ rfl; go_simp; first | exact ⟨rfl, rfl⟩ | exact rfl)
          go_simp; refine hK _ ?_; clear hK K
          iterate 1 (refine FG.ftext_det rfl rfl ?_; apply Exists.intro; refine ⟨fun w hC => ?_, fun K hK => ?_⟩; (first | (go_simp; exact rfl) | (go_simp; exact ⟨rfl, rfl⟩) | (go_simp; exact trivial)); go_simp; refine hK _ ?_; clear hK K)
          refine FG.ftext_load_early (Ext wr) 47 _ rfl rfl rfl (g) (b * 12) (r.cells) rfl aggMass (fun w1 _ hE => Blk.at (n := 12) (B0.ext hE) (KL0.out.get (fun _ => rfl) HQ.out)) (fun K hK => ?_)
          go_simp; refine hK _ ?_; clear hK K
          refine FG.ftext_seq (fun v => ∃ (x_0 : Bool) (x_1 : Option Addr) (x_2 x_3 : Nat) (x_4 : Int) (x_5 : Bool) (x_6 : Option Addr) (x_7 x_8 : Nat) (x_9 : Int) (x_10 : Bool) (x_11 : Option Addr) (x_12 x_13 : Nat) (x_14 : Int) (x_15 : Bool) (x_16 : Option Addr) (x_17 x_18 : Nat) (x_19 : Int) (lk_0 : Bool) (lk_1 : Option Addr) (lk_2 lk_3 : Nat) (lk_4 : Int) (lk_5 : Bool) (lk_6 : Option Addr) (lk_7 lk_8 : Nat) (lk_9 : Int) (lk_10 : Bool) (lk_11 : Option Addr) (lk_12 lk_13 : Nat) (lk_14 : Int) (lk_15 : Bool) (lk_16 : Option Addr) (lk_17 lk_18 : Nat) (lk_19 : Int), v = .tuple #[.agg #[.bool x_0, .slice x_1 x_2 x_3, .int .i64 x_4, .bool x_5, .slice x_6 x_7 x_8, .int .i64 x_9, .bool x_10, .slice x_11 x_12 x_13, .int .i64 x_14, .bool x_15, .slice x_16 x_17 x_18, .int .i64 x_19], .agg #[.bool lk_0, .slice lk_1 lk_2 lk_3, .int .i64 lk_4, .bool lk_5, .slice lk_6 lk_7 lk_8, .int .i64 lk_9, .bool lk_10, .slice lk_11 lk_12 lk_13, .int .i64 lk_14, .bool lk_15, .slice lk_16 lk_17 lk_18, .int .i64 lk_19], .int .i64 10]) (fun v W' => ∃ (x : XMass) (lk : XMass), v = .tuple #[.agg #[.bool x.s.neg, .slice x.s.limbs.A x.s.limbs.l.length x.s.limbs.c, .int .i64 x.s.exp, .bool x.w.neg, .slice x.w.limbs.A x.w.limbs.l.length x.w.limbs.c, .int .i64 x.w.exp, .bool x.c.neg, .slice x.c.limbs.A x.c.limbs.l.length x.c.limbs.c, .int .i64 x.c.exp, .bool x.a.neg, .slice x.a.limbs.A x.a.limbs.l.length x.a.limbs.c, .int .i64 x.a.exp], .agg #[.bool lk.s.neg, .slice lk.s.limbs.A lk.s.limbs.l.length lk.s.limbs.c, .int .i64 lk.s.exp, .bool lk.w.neg, .slice lk.w.limbs.A lk.w.limbs.l.length lk.w.limbs.c, .int .i64 lk.w.exp, .bool lk.c.neg, .slice lk.c.limbs.A lk.c.limbs.l.length lk.c.limbs.c, .int .i64 lk.c.exp, .bool lk.a.neg, .slice lk.a.limbs.A lk.a.limbs.l.length lk.a.limbs.c, .int .i64 lk.a.exp], .int .i64 10] ∧ x.data = (meetM p.data r.data).1 ∧ lk.data = (meetM p.data r.data).2.1 ∧ x.mine W' wr.heap.size ∧ lk.mine W' wr.heap.size ∧ Ext wr W') rfl rfl ⟨_, false, none, 0, 0, 0, false, none, 0, 0, 0, false, none, 0, 0, 0, false, none, 0, 0, 0, false, none, 0, 0, 0, false, none, 0, 0, 0, false, none, 0, 0, 0, false, none, 0, 0, 0, rfl⟩ (fun v w1 w2 h hR => ?_) (fun w1 hC hJ hF Φ hΦ => ?_) (fun v hv K hK => ?_)
          · obtain ⟨x, lk, hv0, f0_x_lk, f1_x_lk, f2_x_lk, f3_x_lk, jE⟩ := h
            exact ⟨x, lk, hv0, f0_x_lk, f1_x_lk, f2_x_lk.ext hR, f3_x_lk.ext hR, jE.trans hR⟩
          · have jE := hJ
            go_simp
            refine (ref16_Meet p r _ (((N_q.ext jE) p HPM.out).ok) (((N_q.ext jE) r HQM.out).ok) (FP.out) (FR.out)).mono ?_
            rw [G0.out]
            rintro e w2 ⟨x, lk, rfl, hd0, hd1, hm0, hm1, hE⟩
            exact ⟨_, rfl, hΦ _ _ ⟨_, _, _, _, _, _, _, _, _, _, _, _, _, _, _, _, _, _, _, _, _, _, _, _, _, _, _, _, _, _, _, _, _, _, _, _, _, _, _, _, rfl⟩ (Nat.le_trans hC (Ext.size hE)) hE ⟨x, lk, rfl, hd0, hd1, (XMass.mine.lower hm0 (Ext.size jE)), (XMass.mine.lower hm1 (Ext.size jE)), jE.trans hE⟩⟩
          obtain ⟨x_0, x_1, x_2, x_3, x_4, x_5, x_6, x_7, x_8, x_9, x_10, x_11, x_12, x_13, x_14, x_15, x_16, x_17, x_18, x_19, lk_0, lk_1, lk_2, lk_3, lk_4, lk_5, lk_6, lk_7, lk_8, lk_9, lk_10, lk_11, lk_12, lk_13, lk_14, lk_15, lk_16, lk_17, lk_18, lk_19, rfl⟩ := hv
          go_simp; refine hK _ ?_; clear hK K
          iterate 4 (refine FG.ftext_det rfl rfl ?_; apply Exists.intro; refine ⟨fun w hC => ?_, fun K hK => ?_⟩; (first | (go_simp; exact rfl) | (go_simp; exact ⟨rfl, rfl⟩) | (go_simp; exact trivial)); go_simp; refine hK _ ?_; clear hK K)
          refine FG.ftext_fresh _ _ _ rfl rfl (fun w hC => ⟨hC, ?_⟩) (fun g _ _ h hr => Blk.ext h hr) (fun g1 hn_1 hs_1 K hK => ?_)
          · go_simp; first | exact ⟨rfl, Nat.le_trans hC (Ext.size (Ext.alloc _ _)), Ext.alloc _ _, Blk.new rfl⟩ | exact ⟨Nat.le_succ_of_le hC, Ext.alloc _ _, Blk.new rfl⟩
          go_simp; refine hK _ ?_; clear hK K
          refine FG.ftext_fresh _ _ _ rfl rfl (fun w hC => ⟨hC, ?_⟩) (fun g _ _ h hr => Blk.ext h hr) (fun g2 hn_2 hs_2 K hK => ?_)
          · go_simp; first | exact ⟨rfl, Nat.le_trans hC (Ext.size (Ext.alloc _ _)), Ext.alloc _ _, Blk.new rfl⟩ | exact ⟨Nat.le_succ_of_le hC, Ext.alloc _ _, Blk.new rfl⟩
          have n_2_1 : g2 ≠ g1 := fun e => hn_2 (by rw [e]; exact List.Mem.head _)
          go_simp; refine hK _ ?_; clear hK K
          refine FG.ftext_store 47 _ _ (fun W' => ∃ (x : XMass) (lk : XMass) (V0 : World), (.tuple #[.agg #[.bool x_0, .slice x_1 x_2 x_3, .int .i64 x_4, .bool x_5, .slice x_6 x_7 x_8, .int .i64 x_9, .bool x_10, .slice x_11 x_12 x_13, .int .i64 x_14, .bool x_15, .slice x_16 x_17 x_18, .int .i64 x_19], .agg #[.bool lk_0, .slice lk_1 lk_2 lk_3, .int .i64 lk_4, .bool lk_5, .slice lk_6 lk_7 lk_8, .int .i64 lk_9, .bool lk_10, .slice lk_11 lk_12 lk_13, .int .i64 lk_14, .bool lk_15, .slice lk_16 lk_17 lk_18, .int .i64 lk_19], .int .i64 10] : Value) = .tuple #[.agg #[.bool x.s.neg, .slice x.s.limbs.A x.s.limbs.l.length x.s.limbs.c, .int .i64 x.s.exp, .bool x.w.neg, .slice x.w.limbs.A x.w.limbs.l.length x.w.limbs.c, .int .i64 x.w.exp, .bool x.c.neg, .slice x.c.limbs.A x.c.limbs.l.length x.c.limbs.c, .int .i64 x.c.exp, .bool x.a.neg, .slice x.a.limbs.A x.a.limbs.l.length x.a.limbs.c, .int .i64 x.a.exp], .agg #[.bool lk.s.neg, .slice lk.s.limbs.A lk.s.limbs.l.length lk.s.limbs.c, .int .i64 lk.s.exp, .bool lk.w.neg, .slice lk.w.limbs.A lk.w.limbs.l.length lk.w.limbs.c, .int .i64 lk.w.exp, .bool lk.c.neg, .slice lk.c.limbs.A lk.c.limbs.l.length lk.c.limbs.c, .int .i64 lk.c.exp, .bool lk.a.neg, .slice lk.a.limbs.A lk.a.limbs.l.length lk.a.limbs.c, .int .i64 lk.a.exp], .int .i64 10] ∧ x.data = (meetM p.data r.data).1 ∧ lk.data = (meetM p.data r.data).2.1 ∧ x.mine V0 wr.heap.size ∧ lk.mine V0 wr.heap.size ∧ Ext wr V0 ∧ Blk V0 g1 47 XMass.zero.cells ∧ Blk V0 g2 47 XMass.zero.cells ∧ Blk W' (g1) 47 x.cells ∧ Only V0 W' (g1)) rfl rfl rfl (fun w1 hC hJ hF => ?_) (fun K hK => ?_)
          · obtain ⟨x, lk, q_x_lk, f0_x_lk, f1_x_lk, f2_x_lk, f3_x_lk, jE⟩ := hJ
            obtain ⟨⟨_, z_1⟩, z_2⟩ := hF
            obtain ⟨rfl, rfl, rfl, rfl, rfl, rfl, rfl, rfl, rfl, rfl, rfl, rfl, rfl, rfl, rfl, rfl, rfl, rfl, rfl, rfl⟩ := eqMass (congrArg (fun v : Value => match v with | .tuple a => a.getD 0 undef | _ => v) q_x_lk)
            obtain ⟨rfl, rfl, rfl, rfl, rfl, rfl, rfl, rfl, rfl, rfl, rfl, rfl, rfl, rfl, rfl, rfl, rfl, rfl, rfl, rfl⟩ := eqMass (congrArg (fun v : Value => match v with | .tuple a => a.getD 1 undef | _ => v) q_x_lk)
            exact ⟨g1, 0, 47, XMass.zero.cells, x.cells, rfl, rfl, aggMass, z_1, Nat.le_of_ble_eq_true rfl, rfl, fun w' BR hO => ⟨by show _ ≤ _; rw [hO.size]; exact hC, x, lk, w1, rfl, f0_x_lk, f1_x_lk, f2_x_lk, f3_x_lk, jE, z_1, z_2, BR, hO⟩⟩
          go_simp; refine hK _ ?_; clear hK K
          refine FG.ftext_store 47 _ _ (fun W' => ∃ (x : XMass) (lk : XMass) (V0 : World) (V1 : World), (.tuple #[.agg #[.bool x_0, .slice x_1 x_2 x_3, .int .i64 x_4, .bool x_5, .slice x_6 x_7 x_8, .int .i64 x_9, .bool x_10, .slice x_11 x_12 x_13, .int .i64 x_14, .bool x_15, .slice x_16 x_17 x_18, .int .i64 x_19], .agg #[.bool lk_0, .slice lk_1 lk_2 lk_3, .int .i64 lk_4, .bool lk_5, .slice lk_6 lk_7 lk_8, .int .i64 lk_9, .bool lk_10, .slice lk_11 lk_12 lk_13, .int .i64 lk_14, .bool lk_15, .slice lk_16 lk_17 lk_18, .int .i64 lk_19], .int .i64 10] : Value) = .tuple #[.agg #[.bool x.s.neg, .slice x.s.limbs.A x.s.limbs.l.length x.s.limbs.c, .int .i64 x.s.exp, .bool x.w.neg, .slice x.w.limbs.A x.w.limbs.l.length x.w.limbs.c, .int .i64 x.w.exp, .bool x.c.neg, .slice x.c.limbs.A x.c.limbs.l.length x.c.limbs.c, .int .i64 x.c.exp, .bool x.a.neg, .slice x.a.limbs.A x.a.limbs.l.length x.a.limbs.c, .int .i64 x.a.exp], .agg #[.bool lk.s.neg, .slice lk.s.limbs.A lk.s.limbs.l.length lk.s.limbs.c, .int .i64 lk.s.exp, .bool lk.w.neg, .slice lk.w.limbs.A lk.w.limbs.l.length lk.w.limbs.c, .int .i64 lk.w.exp, .bool lk.c.neg, .slice lk.c.limbs.A lk.c.limbs.l.length lk.c.limbs.c, .int .i64 lk.c.exp, .bool lk.a.neg, .slice lk.a.limbs.A lk.a.limbs.l.length lk.a.limbs.c, .int .i64 lk.a.exp], .int .i64 10] ∧ x.data = (meetM p.data r.data).1 ∧ lk.data = (meetM p.data r.data).2.1 ∧ x.mine V0 wr.heap.size ∧ lk.mine V0 wr.heap.size ∧ Ext wr V0 ∧ Blk V0 g1 47 XMass.zero.cells ∧ Blk V0 g2 47 XMass.zero.cells ∧ Blk V1 (g1) 47 x.cells ∧ Only V0 V1 (g1) ∧ Blk W' (g2) 47 lk.cells ∧ Only V1 W' (g2)) rfl rfl rfl (fun w1 hC hJ hF => ?_) (fun K hK => ?_)
          · obtain ⟨x, lk, V0, q_x_lk, f0_x_lk, f1_x_lk, f2_x_lk, f3_x_lk, jE, z_1, z_2, jB0, jO0⟩ := hJ
            obtain ⟨rfl, rfl, rfl, rfl, rfl, rfl, rfl, rfl, rfl, rfl, rfl, rfl, rfl, rfl, rfl, rfl, rfl, rfl, rfl, rfl⟩ := eqMass (congrArg (fun v : Value => match v with | .tuple a => a.getD 0 undef | _ => v) q_x_lk)
            obtain ⟨rfl, rfl, rfl, rfl, rfl, rfl, rfl, rfl, rfl, rfl, rfl, rfl, rfl, rfl, rfl, rfl, rfl, rfl, rfl, rfl⟩ := eqMass (congrArg (fun v : Value => match v with | .tuple a => a.getD 1 undef | _ => v) q_x_lk)
            exact ⟨g2, 0, 47, XMass.zero.cells, lk.cells, rfl, rfl, aggMass, (Blk.only z_2 jO0 (by omega)), Nat.le_of_ble_eq_true rfl, rfl, fun w' BR hO => ⟨by show _ ≤ _; rw [hO.size]; exact hC, x, lk, V0, w1, rfl, f0_x_lk, f1_x_lk, f2_x_lk, f3_x_lk, jE, z_1, z_2, jB0, jO0, BR, hO⟩⟩
          go_simp; refine hK _ ?_; clear hK K
          refine FG.ftext_nil ?_
          rintro W1 _ ⟨x, lk, V0, V1, q_x_lk, f0_x_lk, f1_x_lk, f2_x_lk, f3_x_lk, jE, z_1, z_2, jB0, jO0, jB1, jO1⟩ hF
          clear hF
          obtain ⟨rfl, rfl, rfl, rfl, rfl, rfl, rfl, rfl, rfl, rfl, rfl, rfl, rfl, rfl, rfl, rfl, rfl, rfl, rfl, rfl⟩ := eqMass (congrArg (fun v : Value => match v with | .tuple a => a.getD 0 undef | _ => v) q_x_lk)
          obtain ⟨rfl, rfl, rfl, rfl, rfl, rfl, rfl, rfl, rfl, rfl, rfl, rfl, rfl, rfl, rfl, rfl, rfl, rfl, rfl, rfl⟩ := eqMass (congrArg (fun v : Value => match v with | .tuple a => a.getD 1 undef | _ => v) q_x_lk)
          have hz := E.size
          replace N_q : AllMine W1 w.heap.size q := (((N_q.ext jE).only z_1 jO0 jB0 rfl (by decide)).only (Blk.only z_2 jO0 (by omega)) jO1 jB1 rfl (by decide))
          have M_x : x.mine W1 w.heap.size := XMass.mine.lower ((f2_x_lk.only z_1 jO0 jB0 rfl (by decide)).only (Blk.only z_2 jO0 (by omega)) jO1 jB1 rfl (by decide)) hz
          have D_x := Lib.hid f0_x_lk
          have F_x : Hid (FineM x.data) := Lib.hid (by rw [f0_x_lk]; exact (meetM_fine (FR.out)).1)
          have M_lk : lk.mine W1 w.heap.size := XMass.mine.lower ((f3_x_lk.only z_1 jO0 jB0 rfl (by decide)).only (Blk.only z_2 jO0 (by omega)) jO1 jB1 rfl (by decide)) hz
          have D_lk := Lib.hid f1_x_lk
          have F_lk : Hid (FineM lk.data) := Lib.hid (by rw [f1_x_lk]; exact (meetM_fine (FR.out)).2)
          replace B0 : Blk W1 (g) 47 cur := (Blk.only (Blk.only (B0.ext jE) jO0 (by omega)) jO1 (by omega))
          have B1 : Blk W1 (g1) 47 x.cells := (Blk.only jB0 jO1 (by omega))
          have B2 : Blk W1 (g2) 47 lk.cells := jB1
          replace E : Ext w W1 := Only.ext (Only.ext (E.trans jE) jO0 (by omega)) jO1 (by omega)
          clear hz jE jB0 jB1 jO0 jO1 z_1 z_2 f0_x_lk f1_x_lk f2_x_lk f3_x_lk q_x_lk
          simp only [List.drop_succ_cons, List.drop_zero]
          gi_wp2_with fail
          go_wp2_with fail
          go_ret2
          exact ⟨⟨[], none, 0⟩, by rw [HR.out, HTe.out] <;> rfl, by rw [HR.out, HTe.out] <;> rfl, Go.Hx.Own.nil _ _ _ _ _, AllMine.nil _ _, E⟩
        have t1 := doneM_two hm1 (meetM_may he).2
        have G0 := Lib.hid he
        rcases t1 with hd | hd
        rotate_left
        · have HTe : Hid (T = ([], 10)) := Lib.hid (meets_bad2 (a := a) (b := b) HZ.out (by simp) (by simp) HP.out HQ.out HJ.out.eq he hd)
          have G1 := Lib.hid hd
          clear he hd hm1 hm2
          go_wp2_with fail
          have L0_0 := B0.lt
          refine FG.wp_region_flowTail 25 (fun w' => wr.heap.size ≤ w'.heap.size) (Ext wr) Ext (chK wr [16] [23, 24] [5, 7, 13, 15] [(21, 47, XMass.zero.cells), (22, 47, XMass.zero.cells)]) [16] (by kernel_rfl) (by kernel_rfl) (by kernel_rfl) (fun _ _ h => Ext.size h) (Nat.le_refl _) (chK_early (Ext.drew _)) (Ext.drew _) (fun _ _ h k => h.trans k) ?_
          iterate 5 (refine FG.ftext_det rfl rfl ?_; apply Exists.intro; refine ⟨fun w hC => ?_, fun K hK => ?_⟩; (first | (go_simp; exact rfl) | (go_simp; exact ⟨rfl, rfl⟩) | (go_simp; exact trivial)); go_simp; refine hK _ ?_; clear hK K)
          refine FG.ftext_early (Ext wr) rfl rfl ?_; apply Exists.intro; refine ⟨fun w1 _ hE => ?_, fun K hK => ?_⟩; (have hc := R_z.out _ (E.trans hE) 0 _ rfl; simp only [Nat.add_zero] at hc; go_simp; first | exact ⟨rfl, rfl⟩ | exact rfl)
          go_simp; refine hK _ ?_; clear hK K
          iterate 1 (refine FG.ftext_det rfl rfl ?_; apply Exists.intro; refine ⟨fun w hC => ?_, fun K hK => ?_⟩; (first | (go_simp; exact rfl) | (go_simp; exact ⟨rfl, rfl⟩) | (go_simp; exact trivial)); go_simp; refine hK _ ?_; clear hK K)
          refine FG.ftext_load_early (Ext wr) 47 _ rfl rfl rfl (g) (a * 12) (p.cells) rfl aggMass (fun w1 _ hE => Blk.at (n := 12) (B0.ext hE) (KL0.out.get (fun _ => rfl) HP.out)) (fun K hK => ?_)
          go_simp; refine hK _ ?_; clear hK K
          iterate 5 (refine FG.ftext_det rfl rfl ?_; apply Exists.intro; refine ⟨fun w hC => ?_, fun K hK => ?_⟩; (first | (go_simp; exact rfl) | (go_simp; exact ⟨rfl, rfl⟩) | (go_simp; exact trivial)); go_simp; refine hK _ ?_; clear hK K)
          refine FG.ftext_early (Ext wr) rfl rfl ?_; apply Exists.intro; refine ⟨fun w1 _ hE => ?_, fun K hK => ?_⟩; (have hc := R_z.out _ (E.trans hE) 1 _ rfl; go_simp; first | exact ⟨rfl, rfl⟩ | exact rfl)
          go_simp; refine hK _ ?_; clear hK K
          iterate 1 (refine FG.ftext_det rfl rfl ?_; apply Exists.intro; refine ⟨fun w hC => ?_, fun K hK => ?_⟩; (first | (go_simp; exact rfl) | (go_simp; exact ⟨rfl, rfl⟩) | (go_simp; exact trivial)); go_simp; refine hK _ ?_; clear hK K)
          refine FG.ftext_load_early (Ext wr) 47 _ rfl rfl rfl (g) (b * 12) (r.cells) rfl aggMass (fun w1 _ hE => Blk.at (n := 12) (B0.ext hE) (KL0.out.get (fun _ => rfl) HQ.out)) (fun K hK => ?_)
          go_simp; refine hK _ ?_; clear hK K
          refine FG.ftext_seq (fun v => ∃ (x_0 : Bool) (x_1 : Option Addr) (x_2 x_3 : Nat) (x_4 : Int) (x_5 : Bool) (x_6 : Option Addr) (x_7 x_8 : Nat) (x_9 : Int) (x_10 : Bool) (x_11 : Option Addr) (x_12 x_13 : Nat) (x_14 : Int) (x_15 : Bool) (x_16 : Option Addr) (x_17 x_18 : Nat) (x_19 : Int) (lk_0 : Bool) (lk_1 : Option Addr) (lk_2 lk_3 : Nat) (lk_4 : Int) (lk_5 : Bool) (lk_6 : Option Addr) (lk_7 lk_8 : Nat) (lk_9 : Int) (lk_10 : Bool) (lk_11 : Option Addr) (lk_12 lk_13 : Nat) (lk_14 : Int) (lk_15 : Bool) (lk_16 : Option Addr) (lk_17 lk_18 : Nat) (lk_19 : Int), v = .tuple #[.agg #[.bool x_0, .slice x_1 x_2 x_3, .int .i64 x_4, .bool x_5, .slice x_6 x_7 x_8, .int .i64 x_9, .bool x_10, .slice x_11 x_12 x_13, .int .i64 x_14, .bool x_15, .slice x_16 x_17 x_18, .int .i64 x_19], .agg #[.bool lk_0, .slice lk_1 lk_2 lk_3, .int .i64 lk_4, .bool lk_5, .slice lk_6 lk_7 lk_8, .int .i64 lk_9, .bool lk_10, .slice lk_11 lk_12 lk_13, .int .i64 lk_14, .bool lk_15, .slice lk_16 lk_17 lk_18, .int .i64 lk_19], .int .i64 0]) (fun v W' => ∃ (x : XMass) (lk : XMass), v = .tuple #[.agg #[.bool x.s.neg, .slice x.s.limbs.A x.s.limbs.l.length x.s.limbs.c, .int .i64 x.s.exp, .bool x.w.neg, .slice x.w.limbs.A x.w.limbs.l.length x.w.limbs.c, .int .i64 x.w.exp, .bool x.c.neg, .slice x.c.limbs.A x.c.limbs.l.length x.c.limbs.c, .int .i64 x.c.exp, .bool x.a.neg, .slice x.a.limbs.A x.a.limbs.l.length x.a.limbs.c, .int .i64 x.a.exp], .agg #[.bool lk.s.neg, .slice lk.s.limbs.A lk.s.limbs.l.length lk.s.limbs.c, .int .i64 lk.s.exp, .bool lk.w.neg, .slice lk.w.limbs.A lk.w.limbs.l.length lk.w.limbs.c, .int .i64 lk.w.exp, .bool lk.c.neg, .slice lk.c.limbs.A lk.c.limbs.l.length lk.c.limbs.c, .int .i64 lk.c.exp, .bool lk.a.neg, .slice lk.a.limbs.A lk.a.limbs.l.length lk.a.limbs.c, .int .i64 lk.a.exp], .int .i64 0] ∧ x.data = (meetM p.data r.data).1 ∧ lk.data = (meetM p.data r.data).2.1 ∧ x.mine W' wr.heap.size ∧ lk.mine W' wr.heap.size ∧ Ext wr W') rfl rfl ⟨_, false, none, 0, 0, 0, false, none, 0, 0, 0, false, none, 0, 0, 0, false, none, 0, 0, 0, false, none, 0, 0, 0, false, none, 0, 0, 0, false, none, 0, 0, 0, false, none, 0, 0, 0, rfl⟩ (fun v w1 w2 h hR => ?_) (fun w1 hC hJ hF Φ hΦ => ?_) (fun v hv K hK => ?_)
          · obtain ⟨x, lk, hv0, f0_x_lk, f1_x_lk, f2_x_lk, f3_x_lk, jE⟩ := h
            exact ⟨x, lk, hv0, f0_x_lk, f1_x_lk, f2_x_lk.ext hR, f3_x_lk.ext hR, jE.trans hR⟩
          · have jE := hJ
            go_simp
            refine (ref16_Meet p r _ (((N_q.ext jE) p HPM.out).ok) (((N_q.ext jE) r HQM.out).ok) (FP.out) (FR.out)).mono ?_
            rw [G0.out]
            rintro e w2 ⟨x, lk, rfl, hd0, hd1, hm0, hm1, hE⟩
            exact ⟨_, rfl, hΦ _ _ ⟨_, _, _, _, _, _, _, _, _, _, _, _, _, _, _, _, _, _, _, _, _, _, _, _, _, _, _, _, _, _, _, _, _, _, _, _, _, _, _, _, rfl⟩ (Nat.le_trans hC (Ext.size hE)) hE ⟨x, lk, rfl, hd0, hd1, (XMass.mine.lower hm0 (Ext.size jE)), (XMass.mine.lower hm1 (Ext.size jE)), jE.trans hE⟩⟩
          obtain ⟨x_0, x_1, x_2, x_3, x_4, x_5, x_6, x_7, x_8, x_9, x_10, x_11, x_12, x_13, x_14, x_15, x_16, x_17, x_18, x_19, lk_0, lk_1, lk_2, lk_3, lk_4, lk_5, lk_6, lk_7, lk_8, lk_9, lk_10, lk_11, lk_12, lk_13, lk_14, lk_15, lk_16, lk_17, lk_18, lk_19, rfl⟩ := hv
          go_simp; refine hK _ ?_; clear hK K
          iterate 4 (refine FG.ftext_det rfl rfl ?_; apply Exists.intro; refine ⟨fun w hC => ?_, fun K hK => ?_⟩; (first | (go_simp; exact rfl) | (go_simp; exact ⟨rfl, rfl⟩) | (go_simp; exact trivial)); go_simp; refine hK _ ?_; clear hK K)
          refine FG.ftext_fresh _ _ _ rfl rfl (fun w hC => ⟨hC, ?_⟩) (fun g _ _ h hr => Blk.ext h hr) (fun g1 hn_1 hs_1 K hK => ?_)
          · go_simp; first | exact ⟨rfl, Nat.le_trans hC (Ext.size (Ext.alloc _ _)), Ext.alloc _ _, Blk.new rfl⟩ | exact ⟨Nat.le_succ_of_le hC, Ext.alloc _ _, Blk.new rfl⟩
          go_simp; refine hK _ ?_; clear hK K
          refine FG.ftext_fresh _ _ _ rfl rfl (fun w hC => ⟨hC, ?_⟩) (fun g _ _ h hr => Blk.ext h hr) (fun g2 hn_2 hs_2 K hK => ?_)
          · go_simp; first | exact ⟨rfl, Nat.le_trans hC (Ext.size (Ext.alloc _ _)), Ext.alloc _ _, Blk.new rfl⟩ | exact ⟨Nat.le_succ_of_le hC, Ext.alloc _ _, Blk.new rfl⟩
          have n_2_1 : g2 ≠ g1 := fun e => hn_2 (by rw [e]; exact List.Mem.head _)
          go_simp; refine hK _ ?_; clear hK K
          refine FG.ftext_store 47 _ _ (fun W' => ∃ (x : XMass) (lk : XMass) (V0 : World), (.tuple #[.agg #[.bool x_0, .slice x_1 x_2 x_3, .int .i64 x_4, .bool x_5, .slice x_6 x_7 x_8, .int .i64 x_9, .bool x_10, .slice x_11 x_12 x_13, .int .i64 x_14, .bool x_15, .slice x_16 x_17 x_18, .int .i64 x_19], .agg #[.bool lk_0, .slice lk_1 lk_2 lk_3, .int .i64 lk_4, .bool lk_5, .slice lk_6 lk_7 lk_8, .int .i64 lk_9, .bool lk_10, .slice lk_11 lk_12 lk_13, .int .i64 lk_14, .bool lk_15, .slice lk_16 lk_17 lk_18, .int .i64 lk_19], .int .i64 0] : Value) = .tuple #[.agg #[.bool x.s.neg, .slice x.s.limbs.A x.s.limbs.l.length x.s.limbs.c, .int .i64 x.s.exp, .bool x.w.neg, .slice x.w.limbs.A x.w.limbs.l.length x.w.limbs.c, .int .i64 x.w.exp, .bool x.c.neg, .slice x.c.limbs.A x.c.limbs.l.length x.c.limbs.c, .int .i64 x.c.exp, .bool x.a.neg, .slice x.a.limbs.A x.a.limbs.l.length x.a.limbs.c, .int .i64 x.a.exp], .agg #[.bool lk.s.neg, .slice lk.s.limbs.A lk.s.limbs.l.length lk.s.limbs.c, .int .i64 lk.s.exp, .bool lk.w.neg, .slice lk.w.limbs.A lk.w.limbs.l.length lk.w.limbs.c, .int .i64 lk.w.exp, .bool lk.c.neg, .slice lk.c.limbs.A lk.c.limbs.l.length lk.c.limbs.c, .int .i64 lk.c.exp, .bool lk.a.neg, .slice lk.a.limbs.A lk.a.limbs.l.length lk.a.limbs.c, .int .i64 lk.a.exp], .int .i64 0] ∧ x.data = (meetM p.data r.data).1 ∧ lk.data = (meetM p.data r.data).2.1 ∧ x.mine V0 wr.heap.size ∧ lk.mine V0 wr.heap.size ∧ Ext wr V0 ∧ Blk V0 g1 47 XMass.zero.cells ∧ Blk V0 g2 47 XMass.zero.cells ∧ Blk W' (g1) 47 x.cells ∧ Only V0 W' (g1)) rfl rfl rfl (fun w1 hC hJ hF => ?_) (fun K hK => ?_)
          · obtain ⟨x, lk, q_x_lk, f0_x_lk, f1_x_lk, f2_x_lk, f3_x_lk, jE⟩ := hJ
            obtain ⟨⟨_, z_1⟩, z_2⟩ := hF
            obtain ⟨rfl, rfl, rfl, rfl, rfl, rfl, rfl, rfl, rfl, rfl, rfl, rfl, rfl, rfl, rfl, rfl, rfl, rfl, rfl, rfl⟩ := eqMass (congrArg (fun v : Value => match v with | .tuple a => a.getD 0 undef | _ => v) q_x_lk)
            obtain ⟨rfl, rfl, rfl, rfl, rfl, rfl, rfl, rfl, rfl, rfl, rfl, rfl, rfl, rfl, rfl, rfl, rfl, rfl, rfl, rfl⟩ := eqMass (congrArg (fun v : Value => match v with | .tuple a => a.getD 1 undef | _ => v) q_x_lk)
            exact ⟨g1, 0, 47, XMass.zero.cells, x.cells, rfl, rfl, aggMass, z_1, Nat.le_of_ble_eq_true rfl, rfl, fun w' BR hO => ⟨by show _ ≤ _; rw [hO.size]; exact hC, x, lk, w1, rfl, f0_x_lk, f1_x_lk, f2_x_lk, f3_x_lk, jE, z_1, z_2, BR, hO⟩⟩
          go_simp; refine hK _ ?_; clear hK K
          refine FG.ftext_store 47 _ _ (fun W' => ∃ (x : XMass) (lk : XMass) (V0 : World) (V1 : World), (.tuple #[.agg #[.bool x_0, .slice x_1 x_2 x_3, .int .i64 x_4, .bool x_5, .slice x_6 x_7 x_8, .int .i64 x_9, .bool x_10, .slice x_11 x_12 x_13, .int .i64 x_14, .bool x_15, .slice x_16 x_17 x_18, .int .i64 x_19], .agg #[.bool lk_0, .slice lk_1 lk_2 lk_3, .int .i64 lk_4, .bool lk_5, .slice lk_6 lk_7 lk_8, .int .i64 lk_9, .bool lk_10, .slice lk_11 lk_12 lk_13, .int .i64 lk_14, .bool lk_15, .slice lk_16 lk_17 lk_18, .int .i64 lk_19], .int .i64 0] : Value) = .tuple #[.agg #[.bool x.s.neg, .slice x.s.limbs.A x.s.limbs.l.length x.s.limbs.c, .int .i64 x.s.exp, .bool x.w.neg, .slice x.w.limbs.A x.w.limbs.l.length x.w.limbs.c, .int .i64 x.w.exp, .bool x.c.neg, .slice x.c.limbs.A x.c.limbs.l.length x.c.limbs.c, .int .i64 x.c.exp, .bool x.a.neg, .slice x.a.limbs.A x.a.limbs.l.length x.a.limbs.c, .int .i64 x.a.exp], .agg #[.bool lk.s.neg, .slice lk.s.limbs.A lk.s.limbs.l.length lk.s.limbs.c, .int .i64 lk.s.exp, .bool lk.w.neg, .slice lk.w.limbs.A lk.w.limbs.l.length lk.w.limbs.c, .int .i64 lk.w.exp, .bool lk.c.neg, .slice lk.c.limbs.A lk.c.limbs.l.length lk.c.limbs.c, .int .i64 lk.c.exp, .bool lk.a.neg, .slice lk.a.limbs.A lk.a.limbs.l.length lk.a.limbs.c, .int .i64 lk.a.exp], .int .i64 0] ∧ x.data = (meetM p.data r.data).1 ∧ lk.data = (meetM p.data r.data).2.1 ∧ x.mine V0 wr.heap.size ∧ lk.mine V0 wr.heap.size ∧ Ext wr V0 ∧ Blk V0 g1 47 XMass.zero.cells ∧ Blk V0 g2 47 XMass.zero.cells ∧ Blk V1 (g1) 47 x.cells ∧ Only V0 V1 (g1) ∧ Blk W' (g2) 47 lk.cells ∧ Only V1 W' (g2)) rfl rfl rfl (fun w1 hC hJ hF => ?_) (fun K hK => ?_)
          · obtain ⟨x, lk, V0, q_x_lk, f0_x_lk, f1_x_lk, f2_x_lk, f3_x_lk, jE, z_1, z_2, jB0, jO0⟩ := hJ
            obtain ⟨rfl, rfl, rfl, rfl, rfl, rfl, rfl, rfl, rfl, rfl, rfl, rfl, rfl, rfl, rfl, rfl, rfl, rfl, rfl, rfl⟩ := eqMass (congrArg (fun v : Value => match v with | .tuple a => a.getD 0 undef | _ => v) q_x_lk)
            obtain ⟨rfl, rfl, rfl, rfl, rfl, rfl, rfl, rfl, rfl, rfl, rfl, rfl, rfl, rfl, rfl, rfl, rfl, rfl, rfl, rfl⟩ := eqMass (congrArg (fun v : Value => match v with | .tuple a => a.getD 1 undef | _ => v) q_x_lk)
            exact ⟨g2, 0, 47, XMass.zero.cells, lk.cells, rfl, rfl, aggMass, (Blk.only z_2 jO0 (by omega)), Nat.le_of_ble_eq_true rfl, rfl, fun w' BR hO => ⟨by show _ ≤ _; rw [hO.size]; exact hC, x, lk, V0, w1, rfl, f0_x_lk, f1_x_lk, f2_x_lk, f3_x_lk, jE, z_1, z_2, jB0, jO0, BR, hO⟩⟩
          go_simp; refine hK _ ?_; clear hK K
          refine FG.ftext_nil ?_
          rintro W1 _ ⟨x, lk, V0, V1, q_x_lk, f0_x_lk, f1_x_lk, f2_x_lk, f3_x_lk, jE, z_1, z_2, jB0, jO0, jB1, jO1⟩ hF
          clear hF
          obtain ⟨rfl, rfl, rfl, rfl, rfl, rfl, rfl, rfl, rfl, rfl, rfl, rfl, rfl, rfl, rfl, rfl, rfl, rfl, rfl, rfl⟩ := eqMass (congrArg (fun v : Value => match v with | .tuple a => a.getD 0 undef | _ => v) q_x_lk)
          obtain ⟨rfl, rfl, rfl, rfl, rfl, rfl, rfl, rfl, rfl, rfl, rfl, rfl, rfl, rfl, rfl, rfl, rfl, rfl, rfl, rfl⟩ := eqMass (congrArg (fun v : Value => match v with | .tuple a => a.getD 1 undef | _ => v) q_x_lk)
          have hz := E.size
          replace N_q : AllMine W1 w.heap.size q := (((N_q.ext jE).only z_1 jO0 jB0 rfl (by decide)).only (Blk.only z_2 jO0 (by omega)) jO1 jB1 rfl (by decide))
          have M_x : x.mine W1 w.heap.size := XMass.mine.lower ((f2_x_lk.only z_1 jO0 jB0 rfl (by decide)).only (Blk.only z_2 jO0 (by omega)) jO1 jB1 rfl (by decide)) hz
          have D_x := Lib.hid f0_x_lk
          have F_x : Hid (FineM x.data) := Lib.hid (by rw [f0_x_lk]; exact (meetM_fine (FR.out)).1)
          have M_lk : lk.mine W1 w.heap.size := XMass.mine.lower ((f3_x_lk.only z_1 jO0 jB0 rfl (by decide)).only (Blk.only z_2 jO0 (by omega)) jO1 jB1 rfl (by decide)) hz
          have D_lk := Lib.hid f1_x_lk
          have F_lk : Hid (FineM lk.data) := Lib.hid (by rw [f1_x_lk]; exact (meetM_fine (FR.out)).2)
          replace B0 : Blk W1 (g) 47 cur := (Blk.only (Blk.only (B0.ext jE) jO0 (by omega)) jO1 (by omega))
          have B1 : Blk W1 (g1) 47 x.cells := (Blk.only jB0 jO1 (by omega))
          have B2 : Blk W1 (g2) 47 lk.cells := jB1
          replace E : Ext w W1 := Only.ext (Only.ext (E.trans jE) jO0 (by omega)) jO1 (by omega)
          clear hz jE jB0 jB1 jO0 jO1 z_1 z_2 f0_x_lk f1_x_lk f2_x_lk f3_x_lk q_x_lk
          simp only [List.drop_succ_cons, List.drop_zero]
          gi_wp2_with fail
          go_wp2_with fail
          have L1_1 := B1.lt
          have L1_2 := B2.lt
          refine FG.wp_region_flowTail 15 (fun w' => W1.heap.size ≤ w'.heap.size) (Ext W1) Ext (chK W1 [9] [14] [5, 7, 8] [(13, 47, XMass.zero.cells)]) [9] (by kernel_rfl) (by kernel_rfl) (by kernel_rfl) (fun _ _ h => Ext.size h) (Nat.le_refl _) (chK_early (Ext.drew _)) (Ext.drew _) (fun _ _ h k => h.trans k) ?_
          iterate 5 (refine FG.ftext_det rfl rfl ?_; apply Exists.intro; refine ⟨fun w hC => ?_, fun K hK => ?_⟩; (first | (go_simp; exact rfl) | (go_simp; exact ⟨rfl, rfl⟩) | (go_simp; exact trivial)); go_simp; refine hK _ ?_; clear hK K)
          refine FG.ftext_early (Ext W1) rfl rfl ?_; apply Exists.intro; refine ⟨fun w1 _ hE => ?_, fun K hK => ?_⟩; (have hc := R_z.out _ (E.trans hE) 0 _ rfl; simp only [Nat.add_zero] at hc; go_simp; first | exact ⟨rfl, rfl⟩ | exact rfl)
          go_simp; refine hK _ ?_; clear hK K
          iterate 1 (refine FG.ftext_det rfl rfl ?_; apply Exists.intro; refine ⟨fun w hC => ?_, fun K hK => ?_⟩; (first | (go_simp; exact rfl) | (go_simp; exact ⟨rfl, rfl⟩) | (go_simp; exact trivial)); go_simp; refine hK _ ?_; clear hK K)
          refine FG.ftext_load_early (Ext W1) 47 _ rfl rfl rfl (g) (a * 12) (p.cells) rfl aggMass (fun w1 _ hE => Blk.at (n := 12) (B0.ext hE) (KL0.out.get (fun _ => rfl) HP.out)) (fun K hK => ?_)
          go_simp; refine hK _ ?_; clear hK K
          refine FG.ftext_load_early (Ext W1) 47 _ rfl rfl rfl (g2) (0) (lk.cells) rfl aggMass (fun w1 _ hE => Blk.at (n := 12) (B2.ext hE) rfl) (fun K hK => ?_)
          go_simp; refine hK _ ?_; clear hK K
          refine FG.ftext_seq (fun v => ∃ (y_0 : Bool) (y_1 : Option Addr) (y_2 y_3 : Nat) (y_4 : Int) (y_5 : Bool) (y_6 : Option Addr) (y_7 y_8 : Nat) (y_9 : Int) (y_10 : Bool) (y_11 : Option Addr) (y_12 y_13 : Nat) (y_14 : Int) (y_15 : Bool) (y_16 : Option Addr) (y_17 y_18 : Nat) (y_19 : Int), v = .tuple #[.agg #[.bool y_0, .slice y_1 y_2 y_3, .int .i64 y_4, .bool y_5, .slice y_6 y_7 y_8, .int .i64 y_9, .bool y_10, .slice y_11 y_12 y_13, .int .i64 y_14, .bool y_15, .slice y_16 y_17 y_18, .int .i64 y_19], .int .i64 10]) (fun v W' => ∃ (y : XMass), v = .tuple #[.agg #[.bool y.s.neg, .slice y.s.limbs.A y.s.limbs.l.length y.s.limbs.c, .int .i64 y.s.exp, .bool y.w.neg, .slice y.w.limbs.A y.w.limbs.l.length y.w.limbs.c, .int .i64 y.w.exp, .bool y.c.neg, .slice y.c.limbs.A y.c.limbs.l.length y.c.limbs.c, .int .i64 y.c.exp, .bool y.a.neg, .slice y.a.limbs.A y.a.limbs.l.length y.a.limbs.c, .int .i64 y.a.exp], .int .i64 10] ∧ y.data = (doneM p.data (meetM p.data r.data).2.1).1 ∧ y.mine W' W1.heap.size ∧ Ext W1 W') rfl rfl ⟨_, false, none, 0, 0, 0, false, none, 0, 0, 0, false, none, 0, 0, 0, false, none, 0, 0, 0, rfl⟩ (fun v w1 w2 h hR => ?_) (fun w1 hC hJ hF Φ hΦ => ?_) (fun v hv K hK => ?_)
          · obtain ⟨y, hv0, f0_y, f1_y, jE⟩ := h
            exact ⟨y, hv0, f0_y, f1_y.ext hR, jE.trans hR⟩
          · have jE := hJ
            go_simp
            refine (ref16_Done p lk _ (((N_q.ext jE) p HPM.out).ok) ((M_lk.ext jE).ok) (FP.out) (F_lk.out)).mono ?_
            rw [D_lk.out, G1.out]
            rintro e w2 ⟨y, rfl, hd0, hm0, hE⟩
            exact ⟨_, rfl, hΦ _ _ ⟨_, _, _, _, _, _, _, _, _, _, _, _, _, _, _, _, _, _, _, _, rfl⟩ (Nat.le_trans hC (Ext.size hE)) hE ⟨y, rfl, hd0, (XMass.mine.lower hm0 (Ext.size jE)), jE.trans hE⟩⟩
          obtain ⟨y_0, y_1, y_2, y_3, y_4, y_5, y_6, y_7, y_8, y_9, y_10, y_11, y_12, y_13, y_14, y_15, y_16, y_17, y_18, y_19, rfl⟩ := hv
          go_simp; refine hK _ ?_; clear hK K
          iterate 3 (refine FG.ftext_det rfl rfl ?_; apply Exists.intro; refine ⟨fun w hC => ?_, fun K hK => ?_⟩; (first | (go_simp; exact rfl) | (go_simp; exact ⟨rfl, rfl⟩) | (go_simp; exact trivial)); go_simp; refine hK _ ?_; clear hK K)
          refine FG.ftext_fresh _ _ _ rfl rfl (fun w hC => ⟨hC, ?_⟩) (fun g _ _ h hr => Blk.ext h hr) (fun g3 hn_3 hs_3 K hK => ?_)
          · go_simp; first | exact ⟨rfl, Nat.le_trans hC (Ext.size (Ext.alloc _ _)), Ext.alloc _ _, Blk.new rfl⟩ | exact ⟨Nat.le_succ_of_le hC, Ext.alloc _ _, Blk.new rfl⟩
          go_simp; refine hK _ ?_; clear hK K
          refine FG.ftext_store 47 _ _ (fun W' => ∃ (y : XMass) (V0 : World), (.tuple #[.agg #[.bool y_0, .slice y_1 y_2 y_3, .int .i64 y_4, .bool y_5, .slice y_6 y_7 y_8, .int .i64 y_9, .bool y_10, .slice y_11 y_12 y_13, .int .i64 y_14, .bool y_15, .slice y_16 y_17 y_18, .int .i64 y_19], .int .i64 10] : Value) = .tuple #[.agg #[.bool y.s.neg, .slice y.s.limbs.A y.s.limbs.l.length y.s.limbs.c, .int .i64 y.s.exp, .bool y.w.neg, .slice y.w.limbs.A y.w.limbs.l.length y.w.limbs.c, .int .i64 y.w.exp, .bool y.c.neg, .slice y.c.limbs.A y.c.limbs.l.length y.c.limbs.c, .int .i64 y.c.exp, .bool y.a.neg, .slice y.a.limbs.A y.a.limbs.l.length y.a.limbs.c, .int .i64 y.a.exp], .int .i64 10] ∧ y.data = (doneM p.data (meetM p.data r.data).2.1).1 ∧ y.mine V0 W1.heap.size ∧ Ext W1 V0 ∧ Blk V0 g3 47 XMass.zero.cells ∧ Blk W' (g3) 47 y.cells ∧ Only V0 W' (g3)) rfl rfl rfl (fun w1 hC hJ hF => ?_) (fun K hK => ?_)
          · obtain ⟨y, q_y, f0_y, f1_y, jE⟩ := hJ
            obtain ⟨_, z_3⟩ := hF
            obtain ⟨rfl, rfl, rfl, rfl, rfl, rfl, rfl, rfl, rfl, rfl, rfl, rfl, rfl, rfl, rfl, rfl, rfl, rfl, rfl, rfl⟩ := eqMass (congrArg (fun v : Value => match v with | .tuple a => a.getD 0 undef | _ => v) q_y)
            exact ⟨g3, 0, 47, XMass.zero.cells, y.cells, rfl, rfl, aggMass, z_3, Nat.le_of_ble_eq_true rfl, rfl, fun w' BR hO => ⟨by show _ ≤ _; rw [hO.size]; exact hC, y, w1, rfl, f0_y, f1_y, jE, z_3, BR, hO⟩⟩
          go_simp; refine hK _ ?_; clear hK K
          refine FG.ftext_nil ?_
          rintro W2 _ ⟨y, V0, q_y, f0_y, f1_y, jE, z_3, jB0, jO0⟩ hF
          clear hF
          obtain ⟨rfl, rfl, rfl, rfl, rfl, rfl, rfl, rfl, rfl, rfl, rfl, rfl, rfl, rfl, rfl, rfl, rfl, rfl, rfl, rfl⟩ := eqMass (congrArg (fun v : Value => match v with | .tuple a => a.getD 0 undef | _ => v) q_y)
          have hz := E.size
          replace N_q : AllMine W2 w.heap.size q := ((N_q.ext jE).only z_3 jO0 jB0 rfl (by decide))
          replace M_x : x.mine W2 w.heap.size := ((M_x.ext jE).only z_3 jO0 jB0 rfl (by decide))
          replace M_lk : lk.mine W2 w.heap.size := ((M_lk.ext jE).only z_3 jO0 jB0 rfl (by decide))
          have M_y : y.mine W2 w.heap.size := XMass.mine.lower (f1_y.only z_3 jO0 jB0 rfl (by decide)) hz
          have D_y := Lib.hid f0_y
          have F_y : Hid (FineM y.data) := Lib.hid (by rw [f0_y]; exact doneM_fine _ _)
          replace B0 : Blk W2 (g) 47 cur := (Blk.only (B0.ext jE) jO0 (by omega))
          replace B1 : Blk W2 (g1) 47 x.cells := (Blk.only (B1.ext jE) jO0 (by omega))
          replace B2 : Blk W2 (g2) 47 lk.cells := (Blk.only (B2.ext jE) jO0 (by omega))
          have B3 : Blk W2 (g3) 47 y.cells := jB0
          replace E : Ext w W2 := Only.ext (E.trans jE) jO0 (by omega)
          clear hz jE jB0 jO0 z_3 f0_y f1_y q_y
          simp only [List.drop_succ_cons, List.drop_zero]
          gi_wp2_with fail
          go_wp2_with fail
          go_ret2
          exact ⟨⟨[], none, 0⟩, by rw [HR.out, HTe.out] <;> rfl, by rw [HR.out, HTe.out] <;> rfl, Go.Hx.Own.nil _ _ _ _ _, AllMine.nil _ _, E⟩
        have G1 := Lib.hid hd
        have HG : Hid (mayM (meetM p.data r.data).1 ∧ mayM (doneM p.data (meetM p.data r.data).2.1).1) := Lib.hid ⟨(meetM_may he).1, doneM_may hd⟩
        clear he hd hm1 hm2
        go_wp2_with fail
        have L0_0 := B0.lt
        refine FG.wp_region_flowTail 25 (fun w' => wr.heap.size ≤ w'.heap.size) (Ext wr) Ext (chK wr [16] [23, 24] [5, 7, 13, 15] [(21, 47, XMass.zero.cells), (22, 47, XMass.zero.cells)]) [16] (by kernel_rfl) (by kernel_rfl) (by kernel_rfl) (fun _ _ h => Ext.size h) (Nat.le_refl _) (chK_early (Ext.drew _)) (Ext.drew _) (fun _ _ h k => h.trans k) ?_
        iterate 5 (refine FG.ftext_det rfl rfl ?_; apply Exists.intro; refine ⟨fun w hC => ?_, fun K hK => ?_⟩; (first | (go_simp; exact rfl) | (go_simp; exact ⟨rfl, rfl⟩) | (go_simp; exact trivial)); go_simp; refine hK _ ?_; clear hK K)
        refine FG.ftext_early (Ext wr) rfl rfl ?_; apply Exists.intro; refine ⟨fun w1 _ hE => ?_, fun K hK => ?_⟩; (have hc := R_z.out _ (E.trans hE) 0 _ rfl; simp only [Nat.add_zero] at hc; go_simp; first | exact ⟨rfl, rfl⟩ | exact rfl)
        go_simp; refine hK _ ?_; clear hK K
        iterate 1 (refine FG.ftext_det rfl rfl ?_; apply Exists.intro; refine ⟨fun w hC => ?_, fun K hK => ?_⟩; (first | (go_simp; exact rfl) | (go_simp; exact ⟨rfl, rfl⟩) | (go_simp; exact trivial)); go_simp; refine hK _ ?_; clear hK K)
        refine FG.ftext_load_early (Ext wr) 47 _ rfl rfl rfl (g) (a * 12) (p.cells) rfl aggMass (fun w1 _ hE => Blk.at (n := 12) (B0.ext hE) (KL0.out.get (fun _ => rfl) HP.out)) (fun K hK => ?_)
        go_simp; refine hK _ ?_; clear hK K
        iterate 5 (refine FG.ftext_det rfl rfl ?_; apply Exists.intro; refine ⟨fun w hC => ?_, fun K hK => ?_⟩; (first | (go_simp; exact rfl) | (go_simp; exact ⟨rfl, rfl⟩) | (go_simp; exact trivial)); go_simp; refine hK _ ?_; clear hK K)
        refine FG.ftext_early (Ext wr) rfl rfl ?_; apply Exists.intro; refine ⟨fun w1 _ hE => ?_, fun K hK => ?_⟩; (have hc := R_z.out _ (E.trans hE) 1 _ rfl; go_simp; first | exact ⟨rfl, rfl⟩ | exact rfl)
        go_simp; refine hK _ ?_; clear hK K
        iterate 1 (refine FG.ftext_det rfl rfl ?_; apply Exists.intro; refine ⟨fun w hC => ?_, fun K hK => ?_⟩; (first | (go_simp; exact rfl) | (go_simp; exact ⟨rfl, rfl⟩) | (go_simp; exact trivial)); go_simp; refine hK _ ?_; clear hK K)
        refine FG.ftext_load_early (Ext wr) 47 _ rfl rfl rfl (g) (b * 12) (r.cells) rfl aggMass (fun w1 _ hE => Blk.at (n := 12) (B0.ext hE) (KL0.out.get (fun _ => rfl) HQ.out)) (fun K hK => ?_)
        go_simp; refine hK _ ?_; clear hK K
        refine FG.ftext_seq (fun v => ∃ (x_0 : Bool) (x_1 : Option Addr) (x_2 x_3 : Nat) (x_4 : Int) (x_5 : Bool) (x_6 : Option Addr) (x_7 x_8 : Nat) (x_9 : Int) (x_10 : Bool) (x_11 : Option Addr) (x_12 x_13 : Nat) (x_14 : Int) (x_15 : Bool) (x_16 : Option Addr) (x_17 x_18 : Nat) (x_19 : Int) (lk_0 : Bool) (lk_1 : Option Addr) (lk_2 lk_3 : Nat) (lk_4 : Int) (lk_5 : Bool) (lk_6 : Option Addr) (lk_7 lk_8 : Nat) (lk_9 : Int) (lk_10 : Bool) (lk_11 : Option Addr) (lk_12 lk_13 : Nat) (lk_14 : Int) (lk_15 : Bool) (lk_16 : Option Addr) (lk_17 lk_18 : Nat) (lk_19 : Int), v = .tuple #[.agg #[.bool x_0, .slice x_1 x_2 x_3, .int .i64 x_4, .bool x_5, .slice x_6 x_7 x_8, .int .i64 x_9, .bool x_10, .slice x_11 x_12 x_13, .int .i64 x_14, .bool x_15, .slice x_16 x_17 x_18, .int .i64 x_19], .agg #[.bool lk_0, .slice lk_1 lk_2 lk_3, .int .i64 lk_4, .bool lk_5, .slice lk_6 lk_7 lk_8, .int .i64 lk_9, .bool lk_10, .slice lk_11 lk_12 lk_13, .int .i64 lk_14, .bool lk_15, .slice lk_16 lk_17 lk_18, .int .i64 lk_19], .int .i64 0]) (fun v W' => ∃ (x : XMass) (lk : XMass), v = .tuple #[.agg #[.bool x.s.neg, .slice x.s.limbs.A x.s.limbs.l.length x.s.limbs.c, .int .i64 x.s.exp, .bool x.w.neg, .slice x.w.limbs.A x.w.limbs.l.length x.w.limbs.c, .int .i64 x.w.exp, .bool x.c.neg, .slice x.c.limbs.A x.c.limbs.l.length x.c.limbs.c, .int .i64 x.c.exp, .bool x.a.neg, .slice x.a.limbs.A x.a.limbs.l.length x.a.limbs.c, .int .i64 x.a.exp], .agg #[.bool lk.s.neg, .slice lk.s.limbs.A lk.s.limbs.l.length lk.s.limbs.c, .int .i64 lk.s.exp, .bool lk.w.neg, .slice lk.w.limbs.A lk.w.limbs.l.length lk.w.limbs.c, .int .i64 lk.w.exp, .bool lk.c.neg, .slice lk.c.limbs.A lk.c.limbs.l.length lk.c.limbs.c, .int .i64 lk.c.exp, .bool lk.a.neg, .slice lk.a.limbs.A lk.a.limbs.l.length lk.a.limbs.c, .int .i64 lk.a.exp], .int .i64 0] ∧ x.data = (meetM p.data r.data).1 ∧ lk.data = (meetM p.data r.data).2.1 ∧ x.mine W' wr.heap.size ∧ lk.mine W' wr.heap.size ∧ Ext wr W') rfl rfl ⟨_, false, none, 0, 0, 0, false, none, 0, 0, 0, false, none, 0, 0, 0, false, none, 0, 0, 0, false, none, 0, 0, 0, false, none, 0, 0, 0, false, none, 0, 0, 0, false, none, 0, 0, 0, rfl⟩ (fun v w1 w2 h hR => ?_) (fun w1 hC hJ hF Φ hΦ => ?_) (fun v hv K hK => ?_)
        · obtain ⟨x, lk, hv0, f0_x_lk, f1_x_lk, f2_x_lk, f3_x_lk, jE⟩ := h
          exact ⟨x, lk, hv0, f0_x_lk, f1_x_lk, f2_x_lk.ext hR, f3_x_lk.ext hR, jE.trans hR⟩
        · have jE := hJ
          go_simp
          refine (ref16_Meet p r _ (((N_q.ext jE) p HPM.out).ok) (((N_q.ext jE) r HQM.out).ok) (FP.out) (FR.out)).mono ?_
          rw [G0.out]
          rintro e w2 ⟨x, lk, rfl, hd0, hd1, hm0, hm1, hE⟩
          exact ⟨_, rfl, hΦ _ _ ⟨_, _, _, _, _, _, _, _, _, _, _, _, _, _, _, _, _, _, _, _, _, _, _, _, _, _, _, _, _, _, _, _, _, _, _, _, _, _, _, _, rfl⟩ (Nat.le_trans hC (Ext.size hE)) hE ⟨x, lk, rfl, hd0, hd1, (XMass.mine.lower hm0 (Ext.size jE)), (XMass.mine.lower hm1 (Ext.size jE)), jE.trans hE⟩⟩
        obtain ⟨x_0, x_1, x_2, x_3, x_4, x_5, x_6, x_7, x_8, x_9, x_10, x_11, x_12, x_13, x_14, x_15, x_16, x_17, x_18, x_19, lk_0, lk_1, lk_2, lk_3, lk_4, lk_5, lk_6, lk_7, lk_8, lk_9, lk_10, lk_11, lk_12, lk_13, lk_14, lk_15, lk_16, lk_17, lk_18, lk_19, rfl⟩ := hv
        go_simp; refine hK _ ?_; clear hK K
        iterate 4 (refine FG.ftext_det rfl rfl ?_; apply Exists.intro; refine ⟨fun w hC => ?_, fun K hK => ?_⟩; (first | (go_simp; exact rfl) | (go_simp; exact ⟨rfl, rfl⟩) | (go_simp; exact trivial)); go_simp; refine hK _ ?_; clear hK K)
        refine FG.ftext_fresh _ _ _ rfl rfl (fun w hC => ⟨hC, ?_⟩) (fun g _ _ h hr => Blk.ext h hr) (fun g1 hn_1 hs_1 K hK => ?_)
        · go_simp; first | exact ⟨rfl, Nat.le_trans hC (Ext.size (Ext.alloc _ _)), Ext.alloc _ _, Blk.new rfl⟩ | exact ⟨Nat.le_succ_of_le hC, Ext.alloc _ _, Blk.new rfl⟩
        go_simp; refine hK _ ?_; clear hK K
        refine FG.ftext_fresh _ _ _ rfl rfl (fun w hC => ⟨hC, ?_⟩) (fun g _ _ h hr => Blk.ext h hr) (fun g2 hn_2 hs_2 K hK => ?_)
        · go_simp; first | exact ⟨rfl, Nat.le_trans hC (Ext.size (Ext.alloc _ _)), Ext.alloc _ _, Blk.new rfl⟩ | exact ⟨Nat.le_succ_of_le hC, Ext.alloc _ _, Blk.new rfl⟩
        have n_2_1 : g2 ≠ g1 := fun e => hn_2 (by rw [e]; exact List.Mem.head _)
        go_simp; refine hK _ ?_; clear hK K
        refine FG.ftext_store 47 _ _ (fun W' => ∃ (x : XMass) (lk : XMass) (V0 : World), (.tuple #[.agg #[.bool x_0, .slice x_1 x_2 x_3, .int .i64 x_4, .bool x_5, .slice x_6 x_7 x_8, .int .i64 x_9, .bool x_10, .slice x_11 x_12 x_13, .int .i64 x_14, .bool x_15, .slice x_16 x_17 x_18, .int .i64 x_19], .agg #[.bool lk_0, .slice lk_1 lk_2 lk_3, .int .i64 lk_4, .bool lk_5, .slice lk_6 lk_7 lk_8, .int .i64 lk_9, .bool lk_10, .slice lk_11 lk_12 lk_13, .int .i64 lk_14, .bool lk_15, .slice lk_16 lk_17 lk_18, .int .i64 lk_19], .int .i64 0] : Value) = .tuple #[.agg #[.bool x.s.neg, .slice x.s.limbs.A x.s.limbs.l.length x.s.limbs.c, .int .i64 x.s.exp, .bool x.w.neg, .slice x.w.limbs.A x.w.limbs.l.length x.w.limbs.c, .int .i64 x.w.exp, .bool x.c.neg, .slice x.c.limbs.A x.c.limbs.l.length x.c.limbs.c, .int .i64 x.c.exp, .bool x.a.neg, .slice x.a.limbs.A x.a.limbs.l.length x.a.limbs.c, .int .i64 x.a.exp], .agg #[.bool lk.s.neg, .slice lk.s.limbs.A lk.s.limbs.l.length lk.s.limbs.c, .int .i64 lk.s.exp, .bool lk.w.neg, .slice lk.w.limbs.A lk.w.limbs.l.length lk.w.limbs.c, .int .i64 lk.w.exp, .bool lk.c.neg, .slice lk.c.limbs.A lk.c.limbs.l.length lk.c.limbs.c, .int .i64 lk.c.exp, .bool lk.a.neg, .slice lk.a.limbs.A lk.a.limbs.l.length lk.a.limbs.c, .int .i64 lk.a.exp], .int .i64 0] ∧ x.data = (meetM p.data r.data).1 ∧ lk.data = (meetM p.data r.data).2.1 ∧ x.mine V0 wr.heap.size ∧ lk.mine V0 wr.heap.size ∧ Ext wr V0 ∧ Blk V0 g1 47 XMass.zero.cells ∧ Blk V0 g2 47 XMass.zero.cells ∧ Blk W' (g1) 47 x.cells ∧ Only V0 W' (g1)) rfl rfl rfl (fun w1 hC hJ hF => ?_) (fun K hK => ?_)
        · obtain ⟨x, lk, q_x_lk, f0_x_lk, f1_x_lk, f2_x_lk, f3_x_lk, jE⟩ := hJ
          obtain ⟨⟨_, z_1⟩, z_2⟩ := hF
          obtain ⟨rfl, rfl, rfl, rfl, rfl, rfl, rfl, rfl, rfl, rfl, rfl, rfl, rfl, rfl, rfl, rfl, rfl, rfl, rfl, rfl⟩ := eqMass (congrArg (fun v : Value => match v with | .tuple a => a.getD 0 undef | _ => v) q_x_lk)
          obtain ⟨rfl, rfl, rfl, rfl, rfl, rfl, rfl, rfl, rfl, rfl, rfl, rfl, rfl, rfl, rfl, rfl, rfl, rfl, rfl, rfl⟩ := eqMass (congrArg (fun v : Value => match v with | .tuple a => a.getD 1 undef | _ => v) q_x_lk)
          exact ⟨g1, 0, 47, XMass.zero.cells, x.cells, rfl, rfl, aggMass, z_1, Nat.le_of_ble_eq_true rfl, rfl, fun w' BR hO => ⟨by show _ ≤ _; rw [hO.size]; exact hC, x, lk, w1, rfl, f0_x_lk, f1_x_lk, f2_x_lk, f3_x_lk, jE, z_1, z_2, BR, hO⟩⟩
        go_simp; refine hK _ ?_; clear hK K
        refine FG.ftext_store 47 _ _ (fun W' => ∃ (x : XMass) (lk : XMass) (V0 : World) (V1 : World), (.tuple #[.agg #[.bool x_0, .slice x_1 x_2 x_3, .int .i64 x_4, .bool x_5, .slice x_6 x_7 x_8, .int .i64 x_9, .bool x_10, .slice x_11 x_12 x_13, .int .i64 x_14, .bool x_15, .slice x_16 x_17 x_18, .int .i64 x_19], .agg #[.bool lk_0, .slice lk_1 lk_2 lk_3, .int .i64 lk_4, .bool lk_5, .slice lk_6 lk_7 lk_8, .int .i64 lk_9, .bool lk_10, .slice lk_11 lk_12 lk_13, .int .i64 lk_14, .bool lk_15, .slice lk_16 lk_17 lk_18, .int .i64 lk_19], .int .i64 0] : Value) = .tuple #[.agg #[.bool x.s.neg, .slice x.s.limbs.A x.s.limbs.l.length x.s.limbs.c, .int .i64 x.s.exp, .bool x.w.neg, .slice x.w.limbs.A x.w.limbs.l.length x.w.limbs.c, .int .i64 x.w.exp, .bool x.c.neg, .slice x.c.limbs.A x.c.limbs.l.length x.c.limbs.c, .int .i64 x.c.exp, .bool x.a.neg, .slice x.a.limbs.A x.a.limbs.l.length x.a.limbs.c, .int .i64 x.a.exp], .agg #[.bool lk.s.neg, .slice lk.s.limbs.A lk.s.limbs.l.length lk.s.limbs.c, .int .i64 lk.s.exp, .bool lk.w.neg, .slice lk.w.limbs.A lk.w.limbs.l.length lk.w.limbs.c, .int .i64 lk.w.exp, .bool lk.c.neg, .slice lk.c.limbs.A lk.c.limbs.l.length lk.c.limbs.c, .int .i64 lk.c.exp, .bool lk.a.neg, .slice lk.a.limbs.A lk.a.limbs.l.length lk.a.limbs.c, .int .i64 lk.a.exp], .int .i64 0] ∧ x.data = (meetM p.data r.data).1 ∧ lk.data = (meetM p.data r.data).2.1 ∧ x.mine V0 wr.heap.size ∧ lk.mine V0 wr.heap.size ∧ Ext wr V0 ∧ Blk V0 g1 47 XMass.zero.cells ∧ Blk V0 g2 47 XMass.zero.cells ∧ Blk V1 (g1) 47 x.cells ∧ Only V0 V1 (g1) ∧ Blk W' (g2) 47 lk.cells ∧ Only V1 W' (g2)) rfl rfl rfl (fun w1 hC hJ hF => ?_) (fun K hK => ?_)
        · obtain ⟨x, lk, V0, q_x_lk, f0_x_lk, f1_x_lk, f2_x_lk, f3_x_lk, jE, z_1, z_2, jB0, jO0⟩ := hJ
          obtain ⟨rfl, rfl, rfl, rfl, rfl, rfl, rfl, rfl, rfl, rfl, rfl, rfl, rfl, rfl, rfl, rfl, rfl, rfl, rfl, rfl⟩ := eqMass (congrArg (fun v : Value => match v with | .tuple a => a.getD 0 undef | _ => v) q_x_lk)
          obtain ⟨rfl, rfl, rfl, rfl, rfl, rfl, rfl, rfl, rfl, rfl, rfl, rfl, rfl, rfl, rfl, rfl, rfl, rfl, rfl, rfl⟩ := eqMass (congrArg (fun v : Value => match v with | .tuple a => a.getD 1 undef | _ => v) q_x_lk)
          exact ⟨g2, 0, 47, XMass.zero.cells, lk.cells, rfl, rfl, aggMass, (Blk.only z_2 jO0 (by omega)), Nat.le_of_ble_eq_true rfl, rfl, fun w' BR hO => ⟨by show _ ≤ _; rw [hO.size]; exact hC, x, lk, V0, w1, rfl, f0_x_lk, f1_x_lk, f2_x_lk, f3_x_lk, jE, z_1, z_2, jB0, jO0, BR, hO⟩⟩
        go_simp; refine hK _ ?_; clear hK K
        refine FG.ftext_nil ?_
        rintro W1 _ ⟨x, lk, V0, V1, q_x_lk, f0_x_lk, f1_x_lk, f2_x_lk, f3_x_lk, jE, z_1, z_2, jB0, jO0, jB1, jO1⟩ hF
        clear hF
        obtain ⟨rfl, rfl, rfl, rfl, rfl, rfl, rfl, rfl, rfl, rfl, rfl, rfl, rfl, rfl, rfl, rfl, rfl, rfl, rfl, rfl⟩ := eqMass (congrArg (fun v : Value => match v with | .tuple a => a.getD 0 undef | _ => v) q_x_lk)
        obtain ⟨rfl, rfl, rfl, rfl, rfl, rfl, rfl, rfl, rfl, rfl, rfl, rfl, rfl, rfl, rfl, rfl, rfl, rfl, rfl, rfl⟩ := eqMass (congrArg (fun v : Value => match v with | .tuple a => a.getD 1 undef | _ => v) q_x_lk)
        have hz := E.size
        replace N_q : AllMine W1 w.heap.size q := (((N_q.ext jE).only z_1 jO0 jB0 rfl (by decide)).only (Blk.only z_2 jO0 (by omega)) jO1 jB1 rfl (by decide))
        have M_x : x.mine W1 w.heap.size := XMass.mine.lower ((f2_x_lk.only z_1 jO0 jB0 rfl (by decide)).only (Blk.only z_2 jO0 (by omega)) jO1 jB1 rfl (by decide)) hz
        have D_x := Lib.hid f0_x_lk
        have F_x : Hid (FineM x.data) := Lib.hid (by rw [f0_x_lk]; exact (meetM_fine (FR.out)).1)
        have M_lk : lk.mine W1 w.heap.size := XMass.mine.lower ((f3_x_lk.only z_1 jO0 jB0 rfl (by decide)).only (Blk.only z_2 jO0 (by omega)) jO1 jB1 rfl (by decide)) hz
        have D_lk := Lib.hid f1_x_lk
        have F_lk : Hid (FineM lk.data) := Lib.hid (by rw [f1_x_lk]; exact (meetM_fine (FR.out)).2)
        replace B0 : Blk W1 (g) 47 cur := (Blk.only (Blk.only (B0.ext jE) jO0 (by omega)) jO1 (by omega))
        have B1 : Blk W1 (g1) 47 x.cells := (Blk.only jB0 jO1 (by omega))
        have B2 : Blk W1 (g2) 47 lk.cells := jB1
        replace E : Ext w W1 := Only.ext (Only.ext (E.trans jE) jO0 (by omega)) jO1 (by omega)
        clear hz jE jB0 jB1 jO0 jO1 z_1 z_2 f0_x_lk f1_x_lk f2_x_lk f3_x_lk q_x_lk
        simp only [List.drop_succ_cons, List.drop_zero]
        gi_wp2_with fail
        go_wp2_with fail
        have L1_1 := B1.lt
        have L1_2 := B2.lt
        refine FG.wp_region_flowTail 15 (fun w' => W1.heap.size ≤ w'.heap.size) (Ext W1) Ext (chK W1 [9] [14] [5, 7, 8] [(13, 47, XMass.zero.cells)]) [9] (by kernel_rfl) (by kernel_rfl) (by kernel_rfl) (fun _ _ h => Ext.size h) (Nat.le_refl _) (chK_early (Ext.drew _)) (Ext.drew _) (fun _ _ h k => h.trans k) ?_
        iterate 5 (refine FG.ftext_det rfl rfl ?_; apply Exists.intro; refine ⟨fun w hC => ?_, fun K hK => ?_⟩; (first | (go_simp; exact rfl) | (go_simp; exact ⟨rfl, rfl⟩) | (go_simp; exact trivial)); go_simp; refine hK _ ?_; clear hK K)
        refine FG.ftext_early (Ext W1) rfl rfl ?_; apply Exists.intro; refine ⟨fun w1 _ hE => ?_, fun K hK => ?_⟩; (have hc := R_z.out _ (E.trans hE) 0 _ rfl; simp only [Nat.add_zero] at hc; go_simp; first | exact ⟨rfl, rfl⟩ | exact rfl)
        go_simp; refine hK _ ?_; clear hK K
        iterate 1 (refine FG.ftext_det rfl rfl ?_; apply Exists.intro; refine ⟨fun w hC => ?_, fun K hK => ?_⟩; (first | (go_simp; exact rfl) | (go_simp; exact ⟨rfl, rfl⟩) | (go_simp; exact trivial)); go_simp; refine hK _ ?_; clear hK K)
        refine FG.ftext_load_early (Ext W1) 47 _ rfl rfl rfl (g) (a * 12) (p.cells) rfl aggMass (fun w1 _ hE => Blk.at (n := 12) (B0.ext hE) (KL0.out.get (fun _ => rfl) HP.out)) (fun K hK => ?_)
        go_simp; refine hK _ ?_; clear hK K
        refine FG.ftext_load_early (Ext W1) 47 _ rfl rfl rfl (g2) (0) (lk.cells) rfl aggMass (fun w1 _ hE => Blk.at (n := 12) (B2.ext hE) rfl) (fun K hK => ?_)
        go_simp; refine hK _ ?_; clear hK K
        refine FG.ftext_seq (fun v => ∃ (y_0 : Bool) (y_1 : Option Addr) (y_2 y_3 : Nat) (y_4 : Int) (y_5 : Bool) (y_6 : Option Addr) (y_7 y_8 : Nat) (y_9 : Int) (y_10 : Bool) (y_11 : Option Addr) (y_12 y_13 : Nat) (y_14 : Int) (y_15 : Bool) (y_16 : Option Addr) (y_17 y_18 : Nat) (y_19 : Int), v = .tuple #[.agg #[.bool y_0, .slice y_1 y_2 y_3, .int .i64 y_4, .bool y_5, .slice y_6 y_7 y_8, .int .i64 y_9, .bool y_10, .slice y_11 y_12 y_13, .int .i64 y_14, .bool y_15, .slice y_16 y_17 y_18, .int .i64 y_19], .int .i64 0]) (fun v W' => ∃ (y : XMass), v = .tuple #[.agg #[.bool y.s.neg, .slice y.s.limbs.A y.s.limbs.l.length y.s.limbs.c, .int .i64 y.s.exp, .bool y.w.neg, .slice y.w.limbs.A y.w.limbs.l.length y.w.limbs.c, .int .i64 y.w.exp, .bool y.c.neg, .slice y.c.limbs.A y.c.limbs.l.length y.c.limbs.c, .int .i64 y.c.exp, .bool y.a.neg, .slice y.a.limbs.A y.a.limbs.l.length y.a.limbs.c, .int .i64 y.a.exp], .int .i64 0] ∧ y.data = (doneM p.data (meetM p.data r.data).2.1).1 ∧ y.mine W' W1.heap.size ∧ Ext W1 W') rfl rfl ⟨_, false, none, 0, 0, 0, false, none, 0, 0, 0, false, none, 0, 0, 0, false, none, 0, 0, 0, rfl⟩ (fun v w1 w2 h hR => ?_) (fun w1 hC hJ hF Φ hΦ => ?_) (fun v hv K hK => ?_)
        · obtain ⟨y, hv0, f0_y, f1_y, jE⟩ := h
          exact ⟨y, hv0, f0_y, f1_y.ext hR, jE.trans hR⟩
        · have jE := hJ
          go_simp
          refine (ref16_Done p lk _ (((N_q.ext jE) p HPM.out).ok) ((M_lk.ext jE).ok) (FP.out) (F_lk.out)).mono ?_
          rw [D_lk.out, G1.out]
          rintro e w2 ⟨y, rfl, hd0, hm0, hE⟩
          exact ⟨_, rfl, hΦ _ _ ⟨_, _, _, _, _, _, _, _, _, _, _, _, _, _, _, _, _, _, _, _, rfl⟩ (Nat.le_trans hC (Ext.size hE)) hE ⟨y, rfl, hd0, (XMass.mine.lower hm0 (Ext.size jE)), jE.trans hE⟩⟩
        obtain ⟨y_0, y_1, y_2, y_3, y_4, y_5, y_6, y_7, y_8, y_9, y_10, y_11, y_12, y_13, y_14, y_15, y_16, y_17, y_18, y_19, rfl⟩ := hv
        go_simp; refine hK _ ?_; clear hK K
        iterate 3 (refine FG.ftext_det rfl rfl ?_; apply Exists.intro; refine ⟨fun w hC => ?_, fun K hK => ?_⟩; (first | (go_simp; exact rfl) | (go_simp; exact ⟨rfl, rfl⟩) | (go_simp; exact trivial)); go_simp; refine hK _ ?_; clear hK K)
        refine FG.ftext_fresh _ _ _ rfl rfl (fun w hC => ⟨hC, ?_⟩) (fun g _ _ h hr => Blk.ext h hr) (fun g3 hn_3 hs_3 K hK => ?_)
        · go_simp; first | exact ⟨rfl, Nat.le_trans hC (Ext.size (Ext.alloc _ _)), Ext.alloc _ _, Blk.new rfl⟩ | exact ⟨Nat.le_succ_of_le hC, Ext.alloc _ _, Blk.new rfl⟩
        go_simp; refine hK _ ?_; clear hK K
        refine FG.ftext_store 47 _ _ (fun W' => ∃ (y : XMass) (V0 : World), (.tuple #[.agg #[.bool y_0, .slice y_1 y_2 y_3, .int .i64 y_4, .bool y_5, .slice y_6 y_7 y_8, .int .i64 y_9, .bool y_10, .slice y_11 y_12 y_13, .int .i64 y_14, .bool y_15, .slice y_16 y_17 y_18, .int .i64 y_19], .int .i64 0] : Value) = .tuple #[.agg #[.bool y.s.neg, .slice y.s.limbs.A y.s.limbs.l.length y.s.limbs.c, .int .i64 y.s.exp, .bool y.w.neg, .slice y.w.limbs.A y.w.limbs.l.length y.w.limbs.c, .int .i64 y.w.exp, .bool y.c.neg, .slice y.c.limbs.A y.c.limbs.l.length y.c.limbs.c, .int .i64 y.c.exp, .bool y.a.neg, .slice y.a.limbs.A y.a.limbs.l.length y.a.limbs.c, .int .i64 y.a.exp], .int .i64 0] ∧ y.data = (doneM p.data (meetM p.data r.data).2.1).1 ∧ y.mine V0 W1.heap.size ∧ Ext W1 V0 ∧ Blk V0 g3 47 XMass.zero.cells ∧ Blk W' (g3) 47 y.cells ∧ Only V0 W' (g3)) rfl rfl rfl (fun w1 hC hJ hF => ?_) (fun K hK => ?_)
        · obtain ⟨y, q_y, f0_y, f1_y, jE⟩ := hJ
          obtain ⟨_, z_3⟩ := hF
          obtain ⟨rfl, rfl, rfl, rfl, rfl, rfl, rfl, rfl, rfl, rfl, rfl, rfl, rfl, rfl, rfl, rfl, rfl, rfl, rfl, rfl⟩ := eqMass (congrArg (fun v : Value => match v with | .tuple a => a.getD 0 undef | _ => v) q_y)
          exact ⟨g3, 0, 47, XMass.zero.cells, y.cells, rfl, rfl, aggMass, z_3, Nat.le_of_ble_eq_true rfl, rfl, fun w' BR hO => ⟨by show _ ≤ _; rw [hO.size]; exact hC, y, w1, rfl, f0_y, f1_y, jE, z_3, BR, hO⟩⟩
        go_simp; refine hK _ ?_; clear hK K
        refine FG.ftext_nil ?_
        rintro W2 _ ⟨y, V0, q_y, f0_y, f1_y, jE, z_3, jB0, jO0⟩ hF
        clear hF
        obtain ⟨rfl, rfl, rfl, rfl, rfl, rfl, rfl, rfl, rfl, rfl, rfl, rfl, rfl, rfl, rfl, rfl, rfl, rfl, rfl, rfl⟩ := eqMass (congrArg (fun v : Value => match v with | .tuple a => a.getD 0 undef | _ => v) q_y)
        have hz := E.size
        replace N_q : AllMine W2 w.heap.size q := ((N_q.ext jE).only z_3 jO0 jB0 rfl (by decide))
        replace M_x : x.mine W2 w.heap.size := ((M_x.ext jE).only z_3 jO0 jB0 rfl (by decide))
        replace M_lk : lk.mine W2 w.heap.size := ((M_lk.ext jE).only z_3 jO0 jB0 rfl (by decide))
        have M_y : y.mine W2 w.heap.size := XMass.mine.lower (f1_y.only z_3 jO0 jB0 rfl (by decide)) hz
        have D_y := Lib.hid f0_y
        have F_y : Hid (FineM y.data) := Lib.hid (by rw [f0_y]; exact doneM_fine _ _)
        replace B0 : Blk W2 (g) 47 cur := (Blk.only (B0.ext jE) jO0 (by omega))
        replace B1 : Blk W2 (g1) 47 x.cells := (Blk.only (B1.ext jE) jO0 (by omega))
        replace B2 : Blk W2 (g2) 47 lk.cells := (Blk.only (B2.ext jE) jO0 (by omega))
        have B3 : Blk W2 (g3) 47 y.cells := jB0
        replace E : Ext w W2 := Only.ext (E.trans jE) jO0 (by omega)
        clear hz jE jB0 jO0 z_3 f0_y f1_y q_y
        simp only [List.drop_succ_cons, List.drop_zero]
        gi_wp2_with fail
        go_wp2_with fail
        refine FG.wp_region_flowTail 8 (fun w' => W2.heap.size ≤ w'.heap.size) (Ext W2) Ext (chK W2 [7] [] [5, 6] []) [7] (by kernel_rfl) (by kernel_rfl) (by kernel_rfl) (fun _ _ h => Ext.size h) (Nat.le_refl _) (chK_early (Ext.drew _)) (Ext.drew _) (fun _ _ h k => h.trans k) ?_
        iterate 5 (refine FG.ftext_det rfl rfl ?_; apply Exists.intro; refine ⟨fun w hC => ?_, fun K hK => ?_⟩; (first | (go_simp; exact rfl) | (go_simp; exact ⟨rfl, rfl⟩) | (go_simp; exact trivial)); go_simp; refine hK _ ?_; clear hK K)
        refine FG.ftext_early (Ext W2) rfl rfl ?_; apply Exists.intro; refine ⟨fun w1 _ hE => ?_, fun K hK => ?_⟩; (have hc := R_z.out _ (E.trans hE) 1 _ rfl; go_simp; first | exact ⟨rfl, rfl⟩ | exact rfl)
        go_simp; refine hK _ ?_; clear hK K
        refine FG.ftext_load_early (Ext W2) 47 _ rfl rfl rfl (g1) (0) (x.cells) rfl aggMass (fun w1 _ hE => Blk.at (n := 12) (B1.ext hE) rfl) (fun K hK => ?_)
        go_simp; refine hK _ ?_; clear hK K
        refine FG.ftext_seq (fun v => ∃ (tx_0 : Bool) (tx_1 : Option Addr) (tx_2 tx_3 : Nat) (tx_4 : Int) (tx_5 : Bool) (tx_6 : Option Addr) (tx_7 tx_8 : Nat) (tx_9 : Int) (tx_10 : Bool) (tx_11 : Option Addr) (tx_12 tx_13 : Nat) (tx_14 : Int) (tx_15 : Bool) (tx_16 : Option Addr) (tx_17 tx_18 : Nat) (tx_19 : Int), v = .agg #[.bool tx_0, .slice tx_1 tx_2 tx_3, .int .i64 tx_4, .bool tx_5, .slice tx_6 tx_7 tx_8, .int .i64 tx_9, .bool tx_10, .slice tx_11 tx_12 tx_13, .int .i64 tx_14, .bool tx_15, .slice tx_16 tx_17 tx_18, .int .i64 tx_19]) (fun v W' => ∃ (tx : XMass), v = .agg #[.bool tx.s.neg, .slice tx.s.limbs.A tx.s.limbs.l.length tx.s.limbs.c, .int .i64 tx.s.exp, .bool tx.w.neg, .slice tx.w.limbs.A tx.w.limbs.l.length tx.w.limbs.c, .int .i64 tx.w.exp, .bool tx.c.neg, .slice tx.c.limbs.A tx.c.limbs.l.length tx.c.limbs.c, .int .i64 tx.c.exp, .bool tx.a.neg, .slice tx.a.limbs.A tx.a.limbs.l.length tx.a.limbs.c, .int .i64 tx.a.exp] ∧ tx.data = x.data ∧ tx.mine W' W2.heap.size ∧ Ext W2 W') rfl rfl ⟨_, false, none, 0, 0, 0, false, none, 0, 0, 0, false, none, 0, 0, 0, false, none, 0, 0, 0, rfl⟩ (fun v w1 w2 h hR => ?_) (fun w1 hC hJ hF Φ hΦ => ?_) (fun v hv K hK => ?_)
        · obtain ⟨tx, hv0, f0_tx, f1_tx, jE⟩ := h
          exact ⟨tx, hv0, f0_tx, f1_tx.ext hR, jE.trans hR⟩
        · have jE := hJ
          go_simp
          refine (ref06_Twin x _ ((M_x.ext jE).ok) (FineM.small ((F_x.out)))).mono ?_
          rintro e w2 ⟨tx, rfl, hd0, hm0, hE⟩
          exact ⟨_, rfl, hΦ _ _ ⟨_, _, _, _, _, _, _, _, _, _, _, _, _, _, _, _, _, _, _, _, rfl⟩ (Nat.le_trans hC (Ext.size hE)) hE ⟨tx, rfl, hd0, (XMass.mine.lower hm0 (Ext.size jE)), jE.trans hE⟩⟩
        obtain ⟨tx_0, tx_1, tx_2, tx_3, tx_4, tx_5, tx_6, tx_7, tx_8, tx_9, tx_10, tx_11, tx_12, tx_13, tx_14, tx_15, tx_16, tx_17, tx_18, tx_19, rfl⟩ := hv
        go_simp; refine hK _ ?_; clear hK K
        refine FG.ftext_nil ?_
        rintro W3 _ ⟨tx, q_tx, f0_tx, f1_tx, jE⟩ hF
        clear hF
        obtain ⟨rfl, rfl, rfl, rfl, rfl, rfl, rfl, rfl, rfl, rfl, rfl, rfl, rfl, rfl, rfl, rfl, rfl, rfl, rfl, rfl⟩ := eqMass q_tx
        have hz := E.size
        replace N_q : AllMine W3 w.heap.size q := (N_q.ext jE)
        replace M_x : x.mine W3 w.heap.size := (M_x.ext jE)
        replace M_lk : lk.mine W3 w.heap.size := (M_lk.ext jE)
        replace M_y : y.mine W3 w.heap.size := (M_y.ext jE)
        have M_tx : tx.mine W3 w.heap.size := XMass.mine.lower f1_tx hz
        have D_tx := Lib.hid f0_tx
        have F_tx : Hid (FineM tx.data) := Lib.hid (by rw [f0_tx]; exact F_x.out)
        replace B0 : Blk W3 (g) 47 cur := (B0.ext jE)
        replace B1 : Blk W3 (g1) 47 x.cells := (B1.ext jE)
        replace B2 : Blk W3 (g2) 47 lk.cells := (B2.ext jE)
        replace B3 : Blk W3 (g3) 47 y.cells := (B3.ext jE)
        replace E : Ext w W3 := E.trans jE
        clear hz jE f0_tx f1_tx q_tx
        simp only [List.drop_succ_cons, List.drop_zero]
        gi_wp2_with (first | ((with_reducible refine stIn Open.wide (B0) (b * 12) tx.cells 47 (.tmp 96) (.tmp 95) ?_ ?_ ?_ ?_ ?_ ?_ ?_ fun W4 BR4 hO4 => ?_); (exact rfl); ((iterate 4 exact rfl); exact (KL0.out.fit HQ.out); exact aggMass; obtain ⟨cu1, qc1⟩ : ∃ c, cur.take (b * 12) ++ tx.cells ++ cur.drop (b * 12 + tx.cells.length) = c := ⟨_, rfl⟩; have KL1 : Hid (KL 12 XMass.cells cu1 (q.set b tx) c0) := Lib.hid (by have h9 := KL0.out.set (fun _ => rfl) HQ.out tx; rwa [qc1] at h9); have HK1_0 : Hid ((q.set b tx)[a]? = some p) := Lib.hid (by rw [List.getElem?_set_ne (by have := HAB.out; omega)]; exact HP.out); have HK1_1 : Hid ((q.set b tx)[b]? = some tx) := Lib.hid (List.getElem?_set_self (List.getElem?_eq_some_iff.1 HQ.out).1); rw [qc1] at BR4; replace N_q := N_q.only (B0) hO4 BR4 (KL1.out.len.trans KL0.out.len.symm) (by decide); replace M_x := M_x.only (B0) hO4 BR4 (KL1.out.len.trans KL0.out.len.symm) (by decide); replace M_lk := M_lk.only (B0) hO4 BR4 (KL1.out.len.trans KL0.out.len.symm) (by decide); replace M_y := M_y.only (B0) hO4 BR4 (KL1.out.len.trans KL0.out.len.symm) (by decide); replace M_tx := M_tx.only (B0) hO4 BR4 (KL1.out.len.trans KL0.out.len.symm) (by decide); replace E := Only.ext (E) hO4 (by omega); replace B1 := Blk.only (B1) hO4 (by omega); replace B2 := Blk.only (B2) hO4 (by omega); replace B3 := Blk.only (B3) hO4 (by omega); replace B0 : Blk W4 (g) 47 cu1 := BR4; clear BR4 hO4)) | fail)
        go_wp2_with fail
        refine FG.wp_region_flowTail 8 (fun w' => W4.heap.size ≤ w'.heap.size) (Ext W4) Ext (chK W4 [7] [] [5, 6] []) [7] (by kernel_rfl) (by kernel_rfl) (by kernel_rfl) (fun _ _ h => Ext.size h) (Nat.le_refl _) (chK_early (Ext.drew _)) (Ext.drew _) (fun _ _ h k => h.trans k) ?_
        iterate 5 (refine FG.ftext_det rfl rfl ?_; apply Exists.intro; refine ⟨fun w hC => ?_, fun K hK => ?_⟩; (first | (go_simp; exact rfl) | (go_simp; exact ⟨rfl, rfl⟩) | (go_simp; exact trivial)); go_simp; refine hK _ ?_; clear hK K)
        refine FG.ftext_early (Ext W4) rfl rfl ?_; apply Exists.intro; refine ⟨fun w1 _ hE => ?_, fun K hK => ?_⟩; (have hc := R_z.out _ (E.trans hE) 0 _ rfl; simp only [Nat.add_zero] at hc; go_simp; first | exact ⟨rfl, rfl⟩ | exact rfl)
        go_simp; refine hK _ ?_; clear hK K
        refine FG.ftext_load_early (Ext W4) 47 _ rfl rfl rfl (g3) (0) (y.cells) rfl aggMass (fun w1 _ hE => Blk.at (n := 12) (B3.ext hE) rfl) (fun K hK => ?_)
        go_simp; refine hK _ ?_; clear hK K
        refine FG.ftext_seq (fun v => ∃ (ty_0 : Bool) (ty_1 : Option Addr) (ty_2 ty_3 : Nat) (ty_4 : Int) (ty_5 : Bool) (ty_6 : Option Addr) (ty_7 ty_8 : Nat) (ty_9 : Int) (ty_10 : Bool) (ty_11 : Option Addr) (ty_12 ty_13 : Nat) (ty_14 : Int) (ty_15 : Bool) (ty_16 : Option Addr) (ty_17 ty_18 : Nat) (ty_19 : Int), v = .agg #[.bool ty_0, .slice ty_1 ty_2 ty_3, .int .i64 ty_4, .bool ty_5, .slice ty_6 ty_7 ty_8, .int .i64 ty_9, .bool ty_10, .slice ty_11 ty_12 ty_13, .int .i64 ty_14, .bool ty_15, .slice ty_16 ty_17 ty_18, .int .i64 ty_19]) (fun v W' => ∃ (ty : XMass), v = .agg #[.bool ty.s.neg, .slice ty.s.limbs.A ty.s.limbs.l.length ty.s.limbs.c, .int .i64 ty.s.exp, .bool ty.w.neg, .slice ty.w.limbs.A ty.w.limbs.l.length ty.w.limbs.c, .int .i64 ty.w.exp, .bool ty.c.neg, .slice ty.c.limbs.A ty.c.limbs.l.length ty.c.limbs.c, .int .i64 ty.c.exp, .bool ty.a.neg, .slice ty.a.limbs.A ty.a.limbs.l.length ty.a.limbs.c, .int .i64 ty.a.exp] ∧ ty.data = y.data ∧ ty.mine W' W4.heap.size ∧ Ext W4 W') rfl rfl ⟨_, false, none, 0, 0, 0, false, none, 0, 0, 0, false, none, 0, 0, 0, false, none, 0, 0, 0, rfl⟩ (fun v w1 w2 h hR => ?_) (fun w1 hC hJ hF Φ hΦ => ?_) (fun v hv K hK => ?_)
        · obtain ⟨ty, hv0, f0_ty, f1_ty, jE⟩ := h
          exact ⟨ty, hv0, f0_ty, f1_ty.ext hR, jE.trans hR⟩
        · have jE := hJ
          go_simp
          refine (ref06_Twin y _ ((M_y.ext jE).ok) (FineM.small ((F_y.out)))).mono ?_
          rintro e w2 ⟨ty, rfl, hd0, hm0, hE⟩
          exact ⟨_, rfl, hΦ _ _ ⟨_, _, _, _, _, _, _, _, _, _, _, _, _, _, _, _, _, _, _, _, rfl⟩ (Nat.le_trans hC (Ext.size hE)) hE ⟨ty, rfl, hd0, (XMass.mine.lower hm0 (Ext.size jE)), jE.trans hE⟩⟩
        obtain ⟨ty_0, ty_1, ty_2, ty_3, ty_4, ty_5, ty_6, ty_7, ty_8, ty_9, ty_10, ty_11, ty_12, ty_13, ty_14, ty_15, ty_16, ty_17, ty_18, ty_19, rfl⟩ := hv
        go_simp; refine hK _ ?_; clear hK K
        refine FG.ftext_nil ?_
        rintro W5 _ ⟨ty, q_ty, f0_ty, f1_ty, jE⟩ hF
        clear hF
        obtain ⟨rfl, rfl, rfl, rfl, rfl, rfl, rfl, rfl, rfl, rfl, rfl, rfl, rfl, rfl, rfl, rfl, rfl, rfl, rfl, rfl⟩ := eqMass q_ty
        have hz := E.size
        replace N_q : AllMine W5 w.heap.size q := (N_q.ext jE)
        replace M_x : x.mine W5 w.heap.size := (M_x.ext jE)
        replace M_lk : lk.mine W5 w.heap.size := (M_lk.ext jE)
        replace M_y : y.mine W5 w.heap.size := (M_y.ext jE)
        replace M_tx : tx.mine W5 w.heap.size := (M_tx.ext jE)
        have M_ty : ty.mine W5 w.heap.size := XMass.mine.lower f1_ty hz
        have D_ty := Lib.hid f0_ty
        have F_ty : Hid (FineM ty.data) := Lib.hid (by rw [f0_ty]; exact F_y.out)
        replace B0 : Blk W5 (g) 47 cu1 := (B0.ext jE)
        replace B1 : Blk W5 (g1) 47 x.cells := (B1.ext jE)
        replace B2 : Blk W5 (g2) 47 lk.cells := (B2.ext jE)
        replace B3 : Blk W5 (g3) 47 y.cells := (B3.ext jE)
        replace E : Ext w W5 := E.trans jE
        clear hz jE f0_ty f1_ty q_ty
        simp only [List.drop_succ_cons, List.drop_zero]
        gi_wp2_with (first | ((with_reducible refine stIn Open.wide (B0) (a * 12) ty.cells 47 (.tmp 105) (.tmp 104) ?_ ?_ ?_ ?_ ?_ ?_ ?_ fun W6 BR6 hO6 => ?_); (exact rfl); ((iterate 4 exact rfl); exact (KL1.out.fit HK1_0.out); exact aggMass; obtain ⟨cu2, qc2⟩ : ∃ c, cu1.take (a * 12) ++ ty.cells ++ cu1.drop (a * 12 + ty.cells.length) = c := ⟨_, rfl⟩; have KL2 : Hid (KL 12 XMass.cells cu2 ((q.set b tx).set a ty) c0) := Lib.hid (by have h9 := KL1.out.set (fun _ => rfl) HK1_0.out ty; rwa [qc2] at h9); have HK2_0 : Hid (((q.set b tx).set a ty)[a]? = some ty) := Lib.hid (List.getElem?_set_self (List.getElem?_eq_some_iff.1 HK1_0.out).1); have HK2_1 : Hid (((q.set b tx).set a ty)[b]? = some tx) := Lib.hid (by rw [List.getElem?_set_ne (by have := HAB.out; omega)]; exact HK1_1.out); rw [qc2] at BR6; replace N_q := N_q.only (B0) hO6 BR6 (KL2.out.len.trans KL1.out.len.symm) (by decide); replace M_x := M_x.only (B0) hO6 BR6 (KL2.out.len.trans KL1.out.len.symm) (by decide); replace M_lk := M_lk.only (B0) hO6 BR6 (KL2.out.len.trans KL1.out.len.symm) (by decide); replace M_y := M_y.only (B0) hO6 BR6 (KL2.out.len.trans KL1.out.len.symm) (by decide); replace M_tx := M_tx.only (B0) hO6 BR6 (KL2.out.len.trans KL1.out.len.symm) (by decide); replace M_ty := M_ty.only (B0) hO6 BR6 (KL2.out.len.trans KL1.out.len.symm) (by decide); replace E := Only.ext (E) hO6 (by omega); replace B1 := Blk.only (B1) hO6 (by omega); replace B2 := Blk.only (B2) hO6 (by omega); replace B3 := Blk.only (B3) hO6 (by omega); replace B0 : Blk W6 (g) 47 cu2 := BR6; clear BR6 hO6)) | fail)
        go_wp2_with fail
        have HGD : Hid (∀ z ∈ ((q.set b tx).set a ty), mayM z.data ∧ FineM z.data) := Lib.hid fun z hz => by
          rcases List.mem_or_eq_of_mem_set hz with hz | rfl
          · rcases List.mem_or_eq_of_mem_set hz with hz | rfl
            · exact HJ.out.good z hz
            · exact ⟨by rw [D_tx.out, D_x.out]; exact HG.out.1, F_tx.out⟩
          · exact ⟨by rw [D_ty.out, D_y.out]; exact HG.out.2, F_ty.out⟩
        go_roundw
        case rel => exact ⟨j + 1, cu2, ((q.set b tx).set a ty), by omega, by go_num, Lib.hid ⟨B0, KL2.out, (N_q.set M_tx).set M_ty, HGD.out, by rw [List.length_set, List.length_set]; exact HJ.out.len, meets_next (a := a) (b := b) HZ.out (by simp) (by simp) HP.out HQ.out HJ.out.eq G0.out G1.out (D_tx.out.trans D_x.out) (D_ty.out.trans D_y.out), E, LOW⟩⟩
        case measure => simp [intOf]; omega
end Go.Proofs.YtgcbnagfdfgpnaaDoor
