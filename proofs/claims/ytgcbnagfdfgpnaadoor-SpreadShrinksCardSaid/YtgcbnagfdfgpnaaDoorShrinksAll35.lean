/- What comes of meetings: the program. Printed by gen_meetl.py. -/
import Derived.Test.YtgcbnagfdfgpnaaDoorShrinksAll32
import Derived.Test.YtgcbnagfdfgpnaaDoorShrinksAll34
import Derived.Test.YtgcbnagfdfgpnaaDoorShrinksAll15
namespace Go.Hx
open Go.RowKit
/-- a mass's limbs are limbs -/
def LimM (x : PMass) : Prop := Limbs x.s.limbs ∧ Limbs x.w.limbs ∧ Limbs x.c.limbs ∧ Limbs x.a.limbs
theorem LimM.fine {x : PMass} (h : LimM x) (m : mayM x) : FineM x := ⟨⟨h.1, m.1.1.1⟩, ⟨h.2.1, m.2.1.1.1⟩, ⟨h.2.2.1, m.2.2.1.1.1⟩, ⟨h.2.2.2, m.2.2.2.1.1⟩⟩
theorem AllMine.nil (W : World) (B : Nat) : AllMine W B [] := fun _ h => by cases h
theorem AllMine.snoc {W : World} {B : Nat} {l : List XMass} (h : AllMine W B l) {y : XMass} (hy : y.mine W B) : AllMine W B (l ++ [y]) := fun x hx => by
  rcases List.mem_append.1 hx with hx | hx
  · exact h x hx
  · simp only [List.mem_singleton] at hx; subst hx; exact hy
theorem Own.mass_kept {W W' : World} {B e size : Nat} {α : Type} {enc : α → List Value} {v : Value} {l : List α} {d : XDyad} (hd : d.mine W B) (ho : Go.Hx.Own W B e size enc v l) (hg : W.grownBy W' v.ownBlock) (hne : ¬ 33 = e) : d.mine W' B := by
  refine ⟨Own.kept hd.limbs hg ?_⟩
  cases hb : (Value.slice d.limbs.A d.limbs.l.length d.limbs.c).ownBlock with
  | none => exact .inl rfl
  | some k => exact .inr fun e2 => Own.ne hd.limbs ho hne hb e2.symm
theorem AllMine.kept {W W' : World} {B e size : Nat} {α : Type} {enc : α → List Value} {v : Value} {l : List XMass} {o : List α} (h : AllMine W B l) (ho : Go.Hx.Own W B e size enc v o) (hg : W.grownBy W' v.ownBlock) (hne : ¬ 33 = e) : AllMine W' B l := fun x hx =>
  ⟨Own.mass_kept (h x hx).s ho hg hne, Own.mass_kept (h x hx).w ho hg hne, Own.mass_kept (h x hx).c ho hg hne, Own.mass_kept (h x hx).a ho hg hne⟩
theorem XMass.mine.kept {W W' : World} {B e size : Nat} {α : Type} {enc : α → List Value} {v : Value} {o : List α} {x : XMass} (h : x.mine W B) (ho : Go.Hx.Own W B e size enc v o) (hg : W.grownBy W' v.ownBlock) (hne : ¬ 33 = e) : x.mine W' B :=
  ⟨Own.mass_kept h.s ho hg hne, Own.mass_kept h.w ho hg hne, Own.mass_kept h.c ho hg hne, Own.mass_kept h.a ho hg hne⟩
/-- masses behind meetings so far -/
structure MetI (w W : World) (g N c0 : Nat) (m : List PMeeting) (T : List PMass × Int) (cur : List Value) (q : List XMass) (j : Nat) : Prop where
  blk : Go.Hx.Blk W g 47 cur
  kl : KL 12 XMass.cells cur q c0
  mine : AllMine W w.heap.size q
  good : ∀ z ∈ q, mayM z.data ∧ FineM z.data
  len : q.length = N
  eq : meetsM (m.drop j) (q.map XMass.data) = T
  ext : Ext w W
  low : w.heap.size ≤ g
theorem getD_map {q : List XMass} {k : Nat} {p : XMass} (h : q[k]? = some p) : (q.map XMass.data)[k]?.getD PMass.zero = p.data := by rw [List.getElem?_map, h]; rfl
theorem meets_bad1 {m : List PMeeting} {j : Nat} {z : PMeeting} {q : List XMass} {a b : Nat} {p r : XMass} {T : List PMass × Int} (hz : m[j]? = some z) (ha : z.asks.toNat = a) (hb : z.asked.toNat = b) (hp : q[a]? = some p) (hr : q[b]? = some r) (h : meetsM (m.drop j) (q.map XMass.data) = T) (he : (meetM p.data r.data).2.2 = 10) : T = ([], 10) := by
  obtain ⟨hlt, hz2⟩ := List.getElem?_eq_some_iff.1 hz
  rw [← h, List.drop_eq_getElem_cons hlt, hz2]
  unfold meetsM
  rw [ha, hb, getD_map hp, getD_map hr, if_neg (by rw [he]; decide), he]
theorem meets_bad2 {m : List PMeeting} {j : Nat} {z : PMeeting} {q : List XMass} {a b : Nat} {p r : XMass} {T : List PMass × Int} (hz : m[j]? = some z) (ha : z.asks.toNat = a) (hb : z.asked.toNat = b) (hp : q[a]? = some p) (hr : q[b]? = some r) (h : meetsM (m.drop j) (q.map XMass.data) = T) (he : (meetM p.data r.data).2.2 = 0) (hd : (doneM p.data (meetM p.data r.data).2.1).2 = 10) : T = ([], 10) := by
  obtain ⟨hlt, hz2⟩ := List.getElem?_eq_some_iff.1 hz
  rw [← h, List.drop_eq_getElem_cons hlt, hz2]
  unfold meetsM
  rw [ha, hb, getD_map hp, getD_map hr, if_pos he, if_neg (by rw [hd]; decide), hd]
theorem meets_next {m : List PMeeting} {j : Nat} {z : PMeeting} {q : List XMass} {a b : Nat} {p r x y : XMass} {T : List PMass × Int} (hz : m[j]? = some z) (ha : z.asks.toNat = a) (hb : z.asked.toNat = b) (hp : q[a]? = some p) (hr : q[b]? = some r) (h : meetsM (m.drop j) (q.map XMass.data) = T) (he : (meetM p.data r.data).2.2 = 0) (hd : (doneM p.data (meetM p.data r.data).2.1).2 = 0) (hx : x.data = (meetM p.data r.data).1) (hy : y.data = (doneM p.data (meetM p.data r.data).2.1).1) : meetsM (m.drop (j + 1)) (((q.set b x).set a y).map XMass.data) = T := by
  obtain ⟨hlt, hz2⟩ := List.getElem?_eq_some_iff.1 hz
  rw [← h, List.drop_eq_getElem_cons hlt, hz2]
  conv => rhs; unfold meetsM
  rw [ha, hb, getD_map hp, getD_map hr, if_pos he, if_pos hd, List.map_set, List.map_set, hx, hy]
theorem meetM_two {x y : PMass} (hx : mayM x) (hy : mayM y) : (meetM x y).2.2 = 0 ∨ (meetM x y).2.2 = 10 := by
  unfold meetM
  rw [if_pos ⟨hx, hy⟩]
  split
  · exact .inl rfl
  · exact .inr rfl
theorem doneM_two {x y : PMass} (hx : mayM x) (hy : mayM y) : (doneM x y).2 = 0 ∨ (doneM x y).2 = 10 := by
  unfold doneM addM eachM
  rw [if_pos ⟨hx, hy⟩, if_pos ⟨hx, mayD_zero, mayD_zero, hy.2.2.1, hy.2.2.2⟩]
  split
  · exact .inl rfl
  · exact .inr rfl
/-- copies of masses so far -/
structure CopI (w W : World) (l : List XMass) (k : Nat) (v : Value) (o : List XMass) : Prop where
  own : Go.Hx.Own W w.heap.size 47 12 XMass.cells v o
  mine : AllMine W w.heap.size o
  data : o.map XMass.data = (l.take k).map XMass.data
  may : ∀ z ∈ l.take k, mayM z.data
  ext : Ext w W
end Go.Hx
namespace Go.Proofs.YtgcbnagfdfgpnaaDoor
open Go.RowKit Go.Hx
attribute [local go_sem] XDyad.cells XMass.cells detUpon undIn
theorem aggMeeting : AggTy Tryd.prog 37 2 := ⟨⟨_, Tryd.underlying37, rfl⟩, by kernel_rfl⟩
attribute [local go_sem] PMeeting.cells
theorem elMass : ElTy Tryd.prog 44 47 12 160 := ElTy.mk' (z := .agg XMass.zero.cells.toArray) Tryd.underlying44 (by kernel_rfl) rfl (by decide)
set_option maxRecDepth 100000 in
set_option maxHeartbeats 4000000 in
theorem spread_Meet (x : LX XMass) (m : LX PMeeting) (w : World) (hx : x.ok w w.heap.size XMass.cells) (hxs : ∀ z ∈ x.l, z.ok w w.heap.size) (hm : m.ok w w.heap.size PMeeting.cells) (lx : ∀ z ∈ x.l, LimM z.data) (hT : Tab w) :
    Calls Tryd.prog 19 #[.slice x.A x.l.length x.c, .slice m.A m.l.length m.c] w fun e w' => ∃ z : LX XMass, e = .returned (.tuple #[.slice z.A z.l.length z.c, .int .i64 (meetP (x.l.map XMass.data) m.l).2]) ∧ z.l.map XMass.data = (meetP (x.l.map XMass.data) m.l).1 ∧ Go.Hx.Own w' w.heap.size 47 12 XMass.cells (.slice z.A z.l.length z.c) z.l ∧ AllMine w' w.heap.size z.l ∧ Ext w w' := by
  have HM := Lib.hid hm
  have HT := Lib.hid hT
  have HXS := Lib.hid hxs
  have LXX := Lib.hid lx
  obtain ⟨l, A, c⟩ := x
  have HX := Lib.hid hx.1
  clear hm hT hxs lx hx
  dsimp only at *
  by_cases h0 : askedP l.length m.l = 0
  rotate_left
  · have HV : Hid (meetP (l.map XMass.data) m.l = ([], askedP l.length m.l)) := Lib.hid (by unfold meetP; rw [List.length_map, if_neg h0])
    obtain ⟨v, hv⟩ : ∃ v, askedP l.length m.l = v := ⟨_, rfl⟩
    rw [hv] at HV h0
    have HVV := Lib.hid hv
    have d0 : (v != 0) = true := by simpa using h0
    clear h0 hv
    go_enter Tryd.func19, Tryd.ntmps19
    go_wp2_with fail
    refine (spread_asked l.length m _ HM.out).mono ?_
    rw [HVV.out]
    rintro e w1 ⟨rfl, hE1⟩
    go_wp2_with fail
    go_ret2
    exact ⟨⟨[], none, 0⟩, by rw [HV.out] <;> rfl, by rw [HV.out] <;> rfl, Go.Hx.Own.nil _ _ _ _ _, AllMine.nil _ _, hE1⟩
  obtain ⟨h2, h8, hl64, hall⟩ := asked_ok h0
  have HA := Lib.hid h0
  have HALL := Lib.hid hall
  have HL : Hid (2 ≤ l.length ∧ l.length ≤ 8 ∧ m.l.length ≤ 64) := Lib.hid ⟨by omega, by omega, hl64⟩
  clear h0 hall h2 h8 hl64
  go_enter Tryd.func19, Tryd.ntmps19
  go_wp2_with fail
  refine (spread_asked l.length m _ HM.out).mono ?_
  rw [HA.out]
  rintro e w1 ⟨rfl, hE1⟩
  have HI0 : Hid (CopI w w1 l 0 (.slice none 0 0) []) := Lib.hid ⟨Go.Hx.Own.nil _ _ _ _ _, AllMine.nil _ _, rfl, by simp, hE1⟩
  clear hE1
  go_wp2_with fail
  go_loopw [4, 24] (fun v i wr => ∃ (k : Nat) (o : List XMass), k ≤ l.length ∧ i = .int .i64 k ∧ Hid (CopI w wr l k v o)) (fun _ i _ => l.length - (intOf i).toNat)
  case atStart => exact ⟨0, [], by omega, rfl, HI0⟩
  case round =>
    obtain ⟨k, o, hk, rfl, HI⟩ := hrel
    clear HI0
    obtain ⟨A0, c0, rfl, hok0⟩ := HI.out.own.form
    clear hok0
    by_cases hlt : k < l.length
    · obtain ⟨z, hz⟩ : ∃ z, l[k]? = some z := ⟨_, List.getElem?_eq_getElem hlt⟩
      have HZ := Lib.hid hz
      have HZM := Lib.hid (List.mem_of_getElem? hz)
      obtain ⟨b1, o1, rfl, hb1, hrow⟩ := Sl.row (size := 12) (fun _ => rfl) HX.out hz
      have R_z : Hid (∀ W, Ext w W → RowAt W b1 (o1 + k * 12) z.cells) := Lib.hid fun W hW => hrow.below hW.below hb1
      have hki : (k : Int) < (l.length : Int) := by omega
      have hk8 : k < 8 := by have := HL.out; omega
      have hok := Lib.hid ((HXS.out z HZM.out).ext HI.out.ext)
      have hol : o.length = k := by have := congrArg List.length HI.out.data; simpa [Nat.min_eq_left (Nat.le_of_lt hlt)] using this
      have HOL := Lib.hid hol
      clear hz hb1 hrow hol
      by_cases hmay : mayM z.data
      rotate_left
      · have HC : Hid (chk (decide (mayM z.data)) = 8) := Lib.hid (chk_no hmay)
        have HV : Hid (meetP (l.map XMass.data) m.l = ([], 8)) := Lib.hid (by unfold meetP; rw [List.length_map, if_pos HA.out, if_neg]; intro h; exact hmay (h _ (List.mem_map_of_mem HZM.out)))
        clear hmay
        go_wp2_with (first | ((with_reducible refine wpl_load 47 (.tmp 26) ?_ ?_ b1 (o1 + k * 12) z.cells ?_ ?_ ?_ ?_); (exact rfl); (exact rfl); (exact rfl); (exact aggMass); (exact R_z.out _ HI.out.ext)) | fail)
        refine (mass_Check z _ (hok.out.ext (Ext.alloc _ _))).mono ?_
        rw [HC.out]
        rintro e w2 ⟨rfl, hE2⟩
        have HE2 := Lib.hid ((HI.out.ext.alloc' _).trans hE2)
        clear hE2
        go_wp2_with fail
        go_ret2
        exact ⟨⟨[], none, 0⟩, by rw [HV.out] <;> rfl, by rw [HV.out] <;> rfl, Go.Hx.Own.nil _ _ _ _ _, AllMine.nil _ _, HE2.out⟩
      have HC : Hid (chk (decide (mayM z.data)) = 0) := Lib.hid (chk_yes hmay)
      have HMY := Lib.hid hmay
      have HSM : Hid (z.data.small) := Lib.hid (((LXX.out z HZM.out).fine hmay).small)
      clear hmay
      go_wp2_with (first | ((with_reducible refine wpl_load 47 (.tmp 26) ?_ ?_ b1 (o1 + k * 12) z.cells ?_ ?_ ?_ ?_); (exact rfl); (exact rfl); (exact rfl); (exact aggMass); (exact R_z.out _ HI.out.ext)) | fail)
      refine calls_nm fun W1 hW => ?_
      have B0 : Blk W1 wr.heap.size 47 z.cells := by rw [hW]; exact Blk.new (by simp)
      have E1 : Ext wr W1 := by rw [hW]; exact Ext.alloc _ _
      clear hW
      refine (mass_Check z _ (hok.out.ext E1)).mono ?_
      rw [HC.out]
      rintro e W2 ⟨rfl, hE⟩
      replace B0 := B0.ext hE
      replace E1 := E1.trans hE
      clear hE
      go_wp2_with (first | ((with_reducible refine ld B0 0 z.cells 47 (.tmp 8) ?_ ?_ ?_ ?_ ?_ ?_); (exact rfl); (iterate 3 exact rfl); (exact aggMass)) | fail)
      refine (mass_Twin z _ (hok.out.ext E1) HSM.out).mono ?_
      rintro e W3 ⟨y, rfl, hyd, hym, hE⟩
      have HYD := Lib.hid hyd
      have HYM := Lib.hid (hym.lower (HI.out.ext.trans E1).size)
      have HOW := Lib.hid (HI.out.own.ext (E1.trans hE))
      have HE3 := Lib.hid (HI.out.ext.trans (E1.trans hE))
      have HAM := Lib.hid (HI.out.mine.ext (E1.trans hE))
      clear hyd hym E1 hE B0
      go_wp2_with (at_builtin; go_must (refine app_one elMass rfl (.tmp 33) (.tmp 36) rfl W3 w.heap.size XMass.cells _ o y rfl HOW.out _ 1 rfl (by simp) rfl rfl (by have := HOL.out; omega) (by have := HOL.out; unfold maxLen; omega) HE3.out.size ?_); intro v' w4 hown' hgrow hat)
      have HI2 : Hid (CopI w w4 l (k + 1) v' (o ++ [y])) := Lib.hid ⟨hown', (HAM.out.kept HOW.out hgrow (by decide)).snoc (HYM.out.kept HOW.out hgrow (by decide)), by rw [List.map_append, HI.out.data, take_snoc HZ.out, List.map_append]; simp [HYD.out], fun q hq => by
        rw [take_snoc HZ.out] at hq
        rcases List.mem_append.1 hq with hq | hq
        · exact HI.out.may q hq
        · simp only [List.mem_singleton] at hq; subst hq; exact HMY.out, Own.below HOW.out HE3.out hgrow (Nat.le_refl _) HE3.out.size⟩
      clear hown' hgrow hat
      go_roundw
      case rel => exact ⟨k + 1, o ++ [y], by omega, by go_num, HI2⟩
      case measure => simp [intOf]; omega
    · have hkl : k = l.length := by omega
      have hki : ¬ (k : Int) < (l.length : Int) := by omega
      have HMAY : Hid (∀ z ∈ l, mayM z.data) := Lib.hid fun z hz => HI.out.may z (by rw [hkl, List.take_length]; exact hz)
      have HOD : Hid (o.map XMass.data = l.map XMass.data) := Lib.hid (by have := HI.out.data; rwa [hkl, List.take_length] at this)
      clear hkl
      obtain ⟨g, rfl⟩ := Own.place (k := 0) (by have := congrArg List.length HOD.out; simp only [List.length_map] at this; have := HL.out; omega) HI.out.own
      obtain ⟨cur, hcur, hkl, hgl⟩ := KL.of_own HI.out.own
      obtain ⟨T, hT⟩ : ∃ T, meetsM m.l (l.map XMass.data) = T := ⟨_, rfl⟩
      have HR : Hid (meetP (l.map XMass.data) m.l = T) := Lib.hid (by unfold meetP; rw [List.length_map, if_pos HA.out, if_pos, hT]; intro z hz; obtain ⟨z', hz', rfl⟩ := List.mem_map.1 hz; exact HMAY.out z' hz')
      have hon : o.length = l.length := by have := congrArg List.length HOD.out; simpa using this
      have HI1 : Hid (MetI w wr g l.length c0 m.l T cur o 0) := Lib.hid ⟨hcur, hkl, HI.out.mine, fun z hz => by
        have : z.data ∈ l.map XMass.data := by rw [← HOD.out]; exact List.mem_map_of_mem hz
        obtain ⟨z', hz', e⟩ := List.mem_map.1 this
        rw [← e]
        exact ⟨HMAY.out z' hz', (LXX.out z' hz').fine (HMAY.out z' hz')⟩, hon, by rw [List.drop_zero, HOD.out, hT], HI.out.ext, hgl⟩
      clear hcur hkl hgl hT
      go_wp2_with fail
      clear hon
      obtain ⟨ml, mA, mc⟩ := m
      dsimp only at *
      go_loopw [4, 41] (fun v i W => ∃ (j : Nat) (cur : List Value) (q : List XMass), j ≤ ml.length ∧ v = .slice (some ⟨g, 0, none⟩) l.length c0 ∧ i = .int .i64 j ∧ Hid (MetI w W g l.length c0 ml T cur q j)) (fun _ i _ => ml.length - (intOf i).toNat)
      case atStart => exact ⟨0, cur, o, by omega, rfl, rfl, HI1⟩
      case round =>
        obtain ⟨j, cur, q, hj, rfl, rfl, HJ⟩ := hrel
        clear HI1 HI
        by_cases hlt2 : j < ml.length
        rotate_left
        · have hjl : j = ml.length := by omega
          have hji : ¬ (j : Int) < (ml.length : Int) := by omega
          have HTe : Hid (T = (q.map XMass.data, 0)) := Lib.hid (by have := HJ.out.eq; rw [hjl, List.drop_length] at this; exact this.symm)
          clear hjl
          go_wp2_with fail
          go_ret2
          have hq := HJ.out.len
          rw [← hq]
          exact ⟨⟨q, some ⟨g, 0, none⟩, c0⟩, by rw [HR.out, HTe.out] <;> rfl, by rw [HR.out, HTe.out], HJ.out.kl.own (fun _ => rfl) HJ.out.blk HJ.out.low, HJ.out.mine, HJ.out.ext⟩
        obtain ⟨zz, hz⟩ : ∃ z, ml[j]? = some z := ⟨_, List.getElem?_eq_getElem hlt2⟩
        have HZ := Lib.hid hz
        obtain ⟨b1, o1, rfl, hb1, hrow⟩ := Sl.row (size := 2) (fun _ => rfl) HM.out.1 hz
        have R_z : Hid (∀ W, Ext w W → RowAt W b1 (o1 + j * 2) zz.cells) := Lib.hid fun W hW => hrow.below hW.below hb1
        obtain ⟨ha, hb, hai, hbi, hab⟩ := meetOk_nat (HALL.out zz (List.mem_of_getElem? hz))
        clear hrow hb1 hz
        obtain ⟨za, zb⟩ := zz
        obtain ⟨a, rfl⟩ : ∃ a : Nat, za = (a : Int) := ⟨za.toNat, hai.symm⟩
        obtain ⟨b, rfl⟩ : ∃ b : Nat, zb = (b : Int) := ⟨zb.toNat, hbi.symm⟩
        simp only [Int.toNat_natCast] at ha hb hab
        have HAB := Lib.hid hab
        have hqn := HJ.out.len
        obtain ⟨p, hp⟩ : ∃ p, q[a]? = some p := ⟨_, List.getElem?_eq_getElem (by omega)⟩
        obtain ⟨r, hr⟩ : ∃ r, q[b]? = some r := ⟨_, List.getElem?_eq_getElem (by omega)⟩
        have HP := Lib.hid hp
        have HQ := Lib.hid hr
        have HPM := Lib.hid (List.mem_of_getElem? hp)
        have HQM := Lib.hid (List.mem_of_getElem? hr)
        have FP := Lib.hid (HJ.out.good p HPM.out).2
        have FR := Lib.hid (HJ.out.good r HQM.out).2
        have hml64 : ml.length ≤ 64 := HL.out.2.2
        have hji : (j : Int) < (ml.length : Int) := by omega
        have hal : (a : Int) < (l.length : Int) := by omega
        have hbl : (b : Int) < (l.length : Int) := by omega
        have B0 := HJ.out.blk
        have KL0 := Lib.hid HJ.out.kl
        have N_q := HJ.out.mine
        have E := HJ.out.ext
        have LOW := HJ.out.low
        have hm1 := (HJ.out.good p HPM.out).1
        have hm2 := (HJ.out.good r HQM.out).1
        have t0 := meetM_two hm1 hm2
        clear hp hr hai hbi hab hqn
        rcases t0 with he | he
        rotate_left
        · have HTe : Hid (T = ([], 10)) := Lib.hid (meets_bad1 (a := a) (b := b) HZ.out (by simp) (by simp) HP.out HQ.out HJ.out.eq he)
          have G0 := Lib.hid he
          clear he hm1 hm2
          have L0_0 := B0.lt
          go_wp2_with (first | ((with_reducible refine wpl_load 37 (.tmp 43) ?_ ?_ b1 (o1 + j * 2) ((⟨(a : Int), (b : Int)⟩ : PMeeting).cells) ?_ ?_ ?_ ?_); (exact rfl); ((iterate 2 exact rfl); exact aggMeeting; exact R_z.out _ (E))) | fail)
          refine wp_nm fun W1 hW => ?_
          replace B0 : Blk W1 (g) 47 cur := by rw [hW]; exact B0.alloc _
          have B1 : Blk W1 (wr.heap.size) 37 (⟨(a : Int), (b : Int)⟩ : PMeeting).cells := by rw [hW]; exact Blk.new (by simp)
          replace E : Ext w W1 := by rw [hW]; exact Ext.alloc' E _
          replace N_q : AllMine W1 w.heap.size q := by rw [hW]; exact N_q.ext (Ext.alloc' (Ext.refl _) _)
          clear hW
          have L1_1 := B1.lt
          refine FG.wp_region_flowTail 19 (fun w' => W1.heap.size ≤ w'.heap.size) (Ext W1) Ext (chK W1 [10] [17, 18] [2, 4, 7, 9] [(15, 47, XMass.zero.cells), (16, 47, XMass.zero.cells)]) [10] (by kernel_rfl) (by kernel_rfl) (by kernel_rfl) (fun _ _ h => Ext.size h) (Nat.le_refl _) (chK_early (Ext.drew _)) (Ext.drew _) (fun _ _ h k => h.trans k) ?_
          iterate 2 (refine FG.ftext_det rfl rfl ?_; apply Exists.intro; refine ⟨fun w hC => ?_, fun K hK => ?_⟩; (first | (go_simp; exact rfl) | (go_simp; exact ⟨rfl, rfl⟩) | (go_simp; exact trivial)); go_simp; refine hK _ ?_; clear hK K)
          refine FG.ftext_early (Ext W1) rfl rfl ?_; apply Exists.intro; refine ⟨fun w1 _ hE => ?_, fun K hK => ?_⟩; (have hc : w1.cell? ⟨wr.heap.size, 0, none⟩ = some (.int .i64 (a : Int)) := Blk.cell (B1.ext hE) 0; go_simp; first | exact ⟨rfl, rfl⟩ | exact rfl)
          go_simp; refine hK _ ?_; clear hK K
          iterate 1 (refine FG.ftext_det rfl rfl ?_; apply Exists.intro; refine ⟨fun w hC => ?_, fun K hK => ?_⟩; (first | (go_simp; exact rfl) | (go_simp; exact ⟨rfl, rfl⟩) | (go_simp; exact trivial)); go_simp; refine hK _ ?_; clear hK K)
          refine FG.ftext_load_early (Ext W1) 47 _ rfl rfl rfl (g) (a * 12) (p.cells) rfl aggMass (fun w1 _ hE => Blk.at (n := 12) (B0.ext hE) (KL0.out.get (fun _ => rfl) HP.out)) (fun K hK => ?_)
          go_simp; refine hK _ ?_; clear hK K
          iterate 2 (refine FG.ftext_det rfl rfl ?_; apply Exists.intro; refine ⟨fun w hC => ?_, fun K hK => ?_⟩; (first | (go_simp; exact rfl) | (go_simp; exact ⟨rfl, rfl⟩) | (go_simp; exact trivial)); go_simp; refine hK _ ?_; clear hK K)
          refine FG.ftext_early (Ext W1) rfl rfl ?_; apply Exists.intro; refine ⟨fun w1 _ hE => ?_, fun K hK => ?_⟩; (have hc : w1.cell? ⟨wr.heap.size, 1, none⟩ = some (.int .i64 (b : Int)) := Blk.cell (B1.ext hE) 1; go_simp; first | exact ⟨rfl, rfl⟩ | exact rfl)
          go_simp; refine hK _ ?_; clear hK K
          iterate 1 (refine FG.ftext_det rfl rfl ?_; apply Exists.intro; refine ⟨fun w hC => ?_, fun K hK => ?_⟩; (first | (go_simp; exact rfl) | (go_simp; exact ⟨rfl, rfl⟩) | (go_simp; exact trivial)); go_simp; refine hK _ ?_; clear hK K)
          refine FG.ftext_load_early (Ext W1) 47 _ rfl rfl rfl (g) (b * 12) (r.cells) rfl aggMass (fun w1 _ hE => Blk.at (n := 12) (B0.ext hE) (KL0.out.get (fun _ => rfl) HQ.out)) (fun K hK => ?_)
          go_simp; refine hK _ ?_; clear hK K
          refine FG.ftext_seq (fun v => ∃ (x_0 : Bool) (x_1 : Option Addr) (x_2 x_3 : Nat) (x_4 : Int) (x_5 : Bool) (x_6 : Option Addr) (x_7 x_8 : Nat) (x_9 : Int) (x_10 : Bool) (x_11 : Option Addr) (x_12 x_13 : Nat) (x_14 : Int) (x_15 : Bool) (x_16 : Option Addr) (x_17 x_18 : Nat) (x_19 : Int) (lk_0 : Bool) (lk_1 : Option Addr) (lk_2 lk_3 : Nat) (lk_4 : Int) (lk_5 : Bool) (lk_6 : Option Addr) (lk_7 lk_8 : Nat) (lk_9 : Int) (lk_10 : Bool) (lk_11 : Option Addr) (lk_12 lk_13 : Nat) (lk_14 : Int) (lk_15 : Bool) (lk_16 : Option Addr) (lk_17 lk_18 : Nat) (lk_19 : Int), v = .tuple #[.agg #[.bool x_0, .slice x_1 x_2 x_3, .int .i64 x_4, .bool x_5, .slice x_6 x_7 x_8, .int .i64 x_9, .bool x_10, .slice x_11 x_12 x_13, .int .i64 x_14, .bool x_15, .slice x_16 x_17 x_18, .int .i64 x_19], .agg #[.bool lk_0, .slice lk_1 lk_2 lk_3, .int .i64 lk_4, .bool lk_5, .slice lk_6 lk_7 lk_8, .int .i64 lk_9, .bool lk_10, .slice lk_11 lk_12 lk_13, .int .i64 lk_14, .bool lk_15, .slice lk_16 lk_17 lk_18, .int .i64 lk_19], .int .i64 10]) (fun v W' => ∃ (x : XMass) (lk : XMass), v = .tuple #[.agg #[.bool x.s.neg, .slice x.s.limbs.A x.s.limbs.l.length x.s.limbs.c, .int .i64 x.s.exp, .bool x.w.neg, .slice x.w.limbs.A x.w.limbs.l.length x.w.limbs.c, .int .i64 x.w.exp, .bool x.c.neg, .slice x.c.limbs.A x.c.limbs.l.length x.c.limbs.c, .int .i64 x.c.exp, .bool x.a.neg, .slice x.a.limbs.A x.a.limbs.l.length x.a.limbs.c, .int .i64 x.a.exp], .agg #[.bool lk.s.neg, .slice lk.s.limbs.A lk.s.limbs.l.length lk.s.limbs.c, .int .i64 lk.s.exp, .bool lk.w.neg, .slice lk.w.limbs.A lk.w.limbs.l.length lk.w.limbs.c, .int .i64 lk.w.exp, .bool lk.c.neg, .slice lk.c.limbs.A lk.c.limbs.l.length lk.c.limbs.c, .int .i64 lk.c.exp, .bool lk.a.neg, .slice lk.a.limbs.A lk.a.limbs.l.length lk.a.limbs.c, .int .i64 lk.a.exp], .int .i64 10] ∧ x.data = (meetM p.data r.data).1 ∧ lk.data = (meetM p.data r.data).2.1 ∧ x.mine W' W1.heap.size ∧ lk.mine W' W1.heap.size ∧ Ext W1 W') rfl rfl ⟨_, false, none, 0, 0, 0, false, none, 0, 0, 0, false, none, 0, 0, 0, false, none, 0, 0, 0, false, none, 0, 0, 0, false, none, 0, 0, 0, false, none, 0, 0, 0, false, none, 0, 0, 0, rfl⟩ (fun v w1 w2 h hR => ?_) (fun w1 hC hJ hF Φ hΦ => ?_) (fun v hv K hK => ?_)
          · obtain ⟨x, lk, hv0, f0_x_lk, f1_x_lk, f2_x_lk, f3_x_lk, jE⟩ := h
            exact ⟨x, lk, hv0, f0_x_lk, f1_x_lk, f2_x_lk.ext hR, f3_x_lk.ext hR, jE.trans hR⟩
          · have jE := hJ
            go_simp
            refine (mean_Meet p r _ (((N_q.ext jE) p HPM.out).ok) (((N_q.ext jE) r HQM.out).ok) (FP.out) (FR.out) (HT.out.ext (E.trans jE))).mono ?_
            rw [G0.out]
            rintro e w2 ⟨x, lk, rfl, hd0, hd1, hm0, hm1, hE⟩
            exact ⟨_, rfl, hΦ _ _ ⟨_, _, _, _, _, _, _, _, _, _, _, _, _, _, _, _, _, _, _, _, _, _, _, _, _, _, _, _, _, _, _, _, _, _, _, _, _, _, _, _, rfl⟩ (Nat.le_trans hC (Ext.size hE)) hE ⟨x, lk, rfl, hd0, hd1, (XMass.mine.lower hm0 (Ext.size jE)), (XMass.mine.lower hm1 (Ext.size jE)), jE.trans hE⟩⟩
          obtain ⟨x_0, x_1, x_2, x_3, x_4, x_5, x_6, x_7, x_8, x_9, x_10, x_11, x_12, x_13, x_14, x_15, x_16, x_17, x_18, x_19, lk_0, lk_1, lk_2, lk_3, lk_4, lk_5, lk_6, lk_7, lk_8, lk_9, lk_10, lk_11, lk_12, lk_13, lk_14, lk_15, lk_16, lk_17, lk_18, lk_19, rfl⟩ := hv
          go_simp; refine hK _ ?_; clear hK K
          iterate 4 (refine FG.ftext_det rfl rfl ?_; apply Exists.intro; refine ⟨fun w hC => ?_, fun K hK => ?_⟩; (first | (go_simp; exact rfl) | (go_simp; exact ⟨rfl, rfl⟩) | (go_simp; exact trivial)); go_simp; refine hK _ ?_; clear hK K)
          refine FG.ftext_fresh _ _ _ rfl rfl (fun w hC => ⟨hC, ?_⟩) (fun g _ _ h hr => Blk.ext h hr) (fun g2 hn_2 hs_2 K hK => ?_)
          · go_simp; first | exact ⟨rfl, Nat.le_trans hC (Ext.size (Ext.alloc _ _)), Ext.alloc _ _, Blk.new rfl⟩ | exact ⟨Nat.le_succ_of_le hC, Ext.alloc _ _, Blk.new rfl⟩
          go_simp; refine hK _ ?_; clear hK K
          refine FG.ftext_fresh _ _ _ rfl rfl (fun w hC => ⟨hC, ?_⟩) (fun g _ _ h hr => Blk.ext h hr) (fun g3 hn_3 hs_3 K hK => ?_)
          · go_simp; first | exact ⟨rfl, Nat.le_trans hC (Ext.size (Ext.alloc _ _)), Ext.alloc _ _, Blk.new rfl⟩ | exact ⟨Nat.le_succ_of_le hC, Ext.alloc _ _, Blk.new rfl⟩
          have n_3_2 : g3 ≠ g2 := fun e => hn_3 (by rw [e]; exact List.Mem.head _)
          go_simp; refine hK _ ?_; clear hK K
          refine FG.ftext_store 47 _ _ (fun W' => ∃ (x : XMass) (lk : XMass) (V0 : World), (.tuple #[.agg #[.bool x_0, .slice x_1 x_2 x_3, .int .i64 x_4, .bool x_5, .slice x_6 x_7 x_8, .int .i64 x_9, .bool x_10, .slice x_11 x_12 x_13, .int .i64 x_14, .bool x_15, .slice x_16 x_17 x_18, .int .i64 x_19], .agg #[.bool lk_0, .slice lk_1 lk_2 lk_3, .int .i64 lk_4, .bool lk_5, .slice lk_6 lk_7 lk_8, .int .i64 lk_9, .bool lk_10, .slice lk_11 lk_12 lk_13, .int .i64 lk_14, .bool lk_15, .slice lk_16 lk_17 lk_18, .int .i64 lk_19], .int .i64 10] : Value) = .tuple #[.agg #[.bool x.s.neg, .slice x.s.limbs.A x.s.limbs.l.length x.s.limbs.c, .int .i64 x.s.exp, .bool x.w.neg, .slice x.w.limbs.A x.w.limbs.l.length x.w.limbs.c, .int .i64 x.w.exp, .bool x.c.neg, .slice x.c.limbs.A x.c.limbs.l.length x.c.limbs.c, .int .i64 x.c.exp, .bool x.a.neg, .slice x.a.limbs.A x.a.limbs.l.length x.a.limbs.c, .int .i64 x.a.exp], .agg #[.bool lk.s.neg, .slice lk.s.limbs.A lk.s.limbs.l.length lk.s.limbs.c, .int .i64 lk.s.exp, .bool lk.w.neg, .slice lk.w.limbs.A lk.w.limbs.l.length lk.w.limbs.c, .int .i64 lk.w.exp, .bool lk.c.neg, .slice lk.c.limbs.A lk.c.limbs.l.length lk.c.limbs.c, .int .i64 lk.c.exp, .bool lk.a.neg, .slice lk.a.limbs.A lk.a.limbs.l.length lk.a.limbs.c, .int .i64 lk.a.exp], .int .i64 10] ∧ x.data = (meetM p.data r.data).1 ∧ lk.data = (meetM p.data r.data).2.1 ∧ x.mine V0 W1.heap.size ∧ lk.mine V0 W1.heap.size ∧ Ext W1 V0 ∧ Blk V0 g2 47 XMass.zero.cells ∧ Blk V0 g3 47 XMass.zero.cells ∧ Blk W' (g2) 47 x.cells ∧ Only V0 W' (g2)) rfl rfl rfl (fun w1 hC hJ hF => ?_) (fun K hK => ?_)
          · obtain ⟨x, lk, q_x_lk, f0_x_lk, f1_x_lk, f2_x_lk, f3_x_lk, jE⟩ := hJ
            obtain ⟨⟨_, z_2⟩, z_3⟩ := hF
            obtain ⟨rfl, rfl, rfl, rfl, rfl, rfl, rfl, rfl, rfl, rfl, rfl, rfl, rfl, rfl, rfl, rfl, rfl, rfl, rfl, rfl⟩ := eqMass (congrArg (fun v : Value => match v with | .tuple a => a.getD 0 undef | _ => v) q_x_lk)
            obtain ⟨rfl, rfl, rfl, rfl, rfl, rfl, rfl, rfl, rfl, rfl, rfl, rfl, rfl, rfl, rfl, rfl, rfl, rfl, rfl, rfl⟩ := eqMass (congrArg (fun v : Value => match v with | .tuple a => a.getD 1 undef | _ => v) q_x_lk)
            exact ⟨g2, 0, 47, XMass.zero.cells, x.cells, rfl, rfl, aggMass, z_2, Nat.le_of_ble_eq_true rfl, rfl, fun w' BR hO => ⟨by show _ ≤ _; rw [hO.size]; exact hC, x, lk, w1, rfl, f0_x_lk, f1_x_lk, f2_x_lk, f3_x_lk, jE, z_2, z_3, BR, hO⟩⟩
          go_simp; refine hK _ ?_; clear hK K
          refine FG.ftext_store 47 _ _ (fun W' => ∃ (x : XMass) (lk : XMass) (V0 : World) (V1 : World), (.tuple #[.agg #[.bool x_0, .slice x_1 x_2 x_3, .int .i64 x_4, .bool x_5, .slice x_6 x_7 x_8, .int .i64 x_9, .bool x_10, .slice x_11 x_12 x_13, .int .i64 x_14, .bool x_15, .slice x_16 x_17 x_18, .int .i64 x_19], .agg #[.bool lk_0, .slice lk_1 lk_2 lk_3, .int .i64 lk_4, .bool lk_5, .slice lk_6 lk_7 lk_8, .int .i64 lk_9, .bool lk_10, .slice lk_11 lk_12 lk_13, .int .i64 lk_14, .bool lk_15, .slice lk_16 lk_17 lk_18, .int .i64 lk_19], .int .i64 10] : Value) = .tuple #[.agg #[.bool x.s.neg, .slice x.s.limbs.A x.s.limbs.l.length x.s.limbs.c, .int .i64 x.s.exp, .bool x.w.neg, .slice x.w.limbs.A x.w.limbs.l.length x.w.limbs.c, .int .i64 x.w.exp, .bool x.c.neg, .slice x.c.limbs.A x.c.limbs.l.length x.c.limbs.c, .int .i64 x.c.exp, .bool x.a.neg, .slice x.a.limbs.A x.a.limbs.l.length x.a.limbs.c, .int .i64 x.a.exp], .agg #[.bool lk.s.neg, .slice lk.s.limbs.A lk.s.limbs.l.length lk.s.limbs.c, .int .i64 lk.s.exp, .bool lk.w.neg, .slice lk.w.limbs.A lk.w.limbs.l.length lk.w.limbs.c, .int .i64 lk.w.exp, .bool lk.c.neg, .slice lk.c.limbs.A lk.c.limbs.l.length lk.c.limbs.c, .int .i64 lk.c.exp, .bool lk.a.neg, .slice lk.a.limbs.A lk.a.limbs.l.length lk.a.limbs.c, .int .i64 lk.a.exp], .int .i64 10] ∧ x.data = (meetM p.data r.data).1 ∧ lk.data = (meetM p.data r.data).2.1 ∧ x.mine V0 W1.heap.size ∧ lk.mine V0 W1.heap.size ∧ Ext W1 V0 ∧ Blk V0 g2 47 XMass.zero.cells ∧ Blk V0 g3 47 XMass.zero.cells ∧ Blk V1 (g2) 47 x.cells ∧ Only V0 V1 (g2) ∧ Blk W' (g3) 47 lk.cells ∧ Only V1 W' (g3)) rfl rfl rfl (fun w1 hC hJ hF => ?_) (fun K hK => ?_)
          · obtain ⟨x, lk, V0, q_x_lk, f0_x_lk, f1_x_lk, f2_x_lk, f3_x_lk, jE, z_2, z_3, jB0, jO0⟩ := hJ
            obtain ⟨rfl, rfl, rfl, rfl, rfl, rfl, rfl, rfl, rfl, rfl, rfl, rfl, rfl, rfl, rfl, rfl, rfl, rfl, rfl, rfl⟩ := eqMass (congrArg (fun v : Value => match v with | .tuple a => a.getD 0 undef | _ => v) q_x_lk)
            obtain ⟨rfl, rfl, rfl, rfl, rfl, rfl, rfl, rfl, rfl, rfl, rfl, rfl, rfl, rfl, rfl, rfl, rfl, rfl, rfl, rfl⟩ := eqMass (congrArg (fun v : Value => match v with | .tuple a => a.getD 1 undef | _ => v) q_x_lk)
            exact ⟨g3, 0, 47, XMass.zero.cells, lk.cells, rfl, rfl, aggMass, (Blk.only z_3 jO0 (by omega)), Nat.le_of_ble_eq_true rfl, rfl, fun w' BR hO => ⟨by show _ ≤ _; rw [hO.size]; exact hC, x, lk, V0, w1, rfl, f0_x_lk, f1_x_lk, f2_x_lk, f3_x_lk, jE, z_2, z_3, jB0, jO0, BR, hO⟩⟩
          go_simp; refine hK _ ?_; clear hK K
          refine FG.ftext_nil ?_
          rintro W2 _ ⟨x, lk, V0, V1, q_x_lk, f0_x_lk, f1_x_lk, f2_x_lk, f3_x_lk, jE, z_2, z_3, jB0, jO0, jB1, jO1⟩ hF
          clear hF
          obtain ⟨rfl, rfl, rfl, rfl, rfl, rfl, rfl, rfl, rfl, rfl, rfl, rfl, rfl, rfl, rfl, rfl, rfl, rfl, rfl, rfl⟩ := eqMass (congrArg (fun v : Value => match v with | .tuple a => a.getD 0 undef | _ => v) q_x_lk)
          obtain ⟨rfl, rfl, rfl, rfl, rfl, rfl, rfl, rfl, rfl, rfl, rfl, rfl, rfl, rfl, rfl, rfl, rfl, rfl, rfl, rfl⟩ := eqMass (congrArg (fun v : Value => match v with | .tuple a => a.getD 1 undef | _ => v) q_x_lk)
          have hz := E.size
          replace N_q : AllMine W2 w.heap.size q := (((N_q.ext jE).only z_2 jO0 jB0 rfl (by decide)).only (Blk.only z_3 jO0 (by omega)) jO1 jB1 rfl (by decide))
          have M_x : x.mine W2 w.heap.size := XMass.mine.lower ((f2_x_lk.only z_2 jO0 jB0 rfl (by decide)).only (Blk.only z_3 jO0 (by omega)) jO1 jB1 rfl (by decide)) hz
          have D_x := Lib.hid f0_x_lk
          have F_x : Hid (FineM x.data) := Lib.hid (by rw [f0_x_lk]; exact (meetM_fine (FR.out)).1)
          have M_lk : lk.mine W2 w.heap.size := XMass.mine.lower ((f3_x_lk.only z_2 jO0 jB0 rfl (by decide)).only (Blk.only z_3 jO0 (by omega)) jO1 jB1 rfl (by decide)) hz
          have D_lk := Lib.hid f1_x_lk
          have F_lk : Hid (FineM lk.data) := Lib.hid (by rw [f1_x_lk]; exact (meetM_fine (FR.out)).2)
          replace B0 : Blk W2 (g) 47 cur := (Blk.only (Blk.only (B0.ext jE) jO0 (by omega)) jO1 (by omega))
          replace B1 : Blk W2 (wr.heap.size) 37 (⟨(a : Int), (b : Int)⟩ : PMeeting).cells := (Blk.only (Blk.only (B1.ext jE) jO0 (by omega)) jO1 (by omega))
          have B2 : Blk W2 (g2) 47 x.cells := (Blk.only jB0 jO1 (by omega))
          have B3 : Blk W2 (g3) 47 lk.cells := jB1
          replace E : Ext w W2 := Only.ext (Only.ext (E.trans jE) jO0 (by omega)) jO1 (by omega)
          clear hz jE jB0 jB1 jO0 jO1 z_2 z_3 f0_x_lk f1_x_lk f2_x_lk f3_x_lk q_x_lk
          simp only [List.drop_succ_cons, List.drop_zero]
          gi_wp2_with fail
          go_wp2_with fail
          go_ret2
          exact ⟨⟨[], none, 0⟩, by rw [HR.out, HTe.out] <;> rfl, by rw [HR.out, HTe.out] <;> rfl, Go.Hx.Own.nil _ _ _ _ _, AllMine.nil _ _, E⟩
        have t1 := doneM_two hm1 (meetM_may he).2
        have G0 := Lib.hid he
        rcases t1 with hd | hd
        rotate_left
        · have HTe : Hid (T = ([], 10)) := Lib.hid (meets_bad2 (a := a) (b := b) HZ.out (by simp) (by simp) HP.out HQ.out HJ.out.eq he hd)
          have G1 := Lib.hid hd
          clear he hd hm1 hm2
          have L0_0 := B0.lt
          go_wp2_with (first | ((with_reducible refine wpl_load 37 (.tmp 43) ?_ ?_ b1 (o1 + j * 2) ((⟨(a : Int), (b : Int)⟩ : PMeeting).cells) ?_ ?_ ?_ ?_); (exact rfl); ((iterate 2 exact rfl); exact aggMeeting; exact R_z.out _ (E))) | fail)
          refine wp_nm fun W1 hW => ?_
          replace B0 : Blk W1 (g) 47 cur := by rw [hW]; exact B0.alloc _
          have B1 : Blk W1 (wr.heap.size) 37 (⟨(a : Int), (b : Int)⟩ : PMeeting).cells := by rw [hW]; exact Blk.new (by simp)
          replace E : Ext w W1 := by rw [hW]; exact Ext.alloc' E _
          replace N_q : AllMine W1 w.heap.size q := by rw [hW]; exact N_q.ext (Ext.alloc' (Ext.refl _) _)
          clear hW
          have L1_1 := B1.lt
          refine FG.wp_region_flowTail 19 (fun w' => W1.heap.size ≤ w'.heap.size) (Ext W1) Ext (chK W1 [10] [17, 18] [2, 4, 7, 9] [(15, 47, XMass.zero.cells), (16, 47, XMass.zero.cells)]) [10] (by kernel_rfl) (by kernel_rfl) (by kernel_rfl) (fun _ _ h => Ext.size h) (Nat.le_refl _) (chK_early (Ext.drew _)) (Ext.drew _) (fun _ _ h k => h.trans k) ?_
          iterate 2 (refine FG.ftext_det rfl rfl ?_; apply Exists.intro; refine ⟨fun w hC => ?_, fun K hK => ?_⟩; (first | (go_simp; exact rfl) | (go_simp; exact ⟨rfl, rfl⟩) | (go_simp; exact trivial)); go_simp; refine hK _ ?_; clear hK K)
          refine FG.ftext_early (Ext W1) rfl rfl ?_; apply Exists.intro; refine ⟨fun w1 _ hE => ?_, fun K hK => ?_⟩; (have hc : w1.cell? ⟨wr.heap.size, 0, none⟩ = some (.int .i64 (a : Int)) := Blk.cell (B1.ext hE) 0; go_simp; first | exact ⟨rfl, rfl⟩ | exact rfl)
          go_simp; refine hK _ ?_; clear hK K
          iterate 1 (refine FG.ftext_det rfl rfl ?_; apply Exists.intro; refine ⟨fun w hC => ?_, fun K hK => ?_⟩; (first | (go_simp; exact rfl) | (go_simp; exact ⟨rfl, rfl⟩) | (go_simp; exact trivial)); go_simp; refine hK _ ?_; clear hK K)
          refine FG.ftext_load_early (Ext W1) 47 _ rfl rfl rfl (g) (a * 12) (p.cells) rfl aggMass (fun w1 _ hE => Blk.at (n := 12) (B0.ext hE) (KL0.out.get (fun _ => rfl) HP.out)) (fun K hK => ?_)
          go_simp; refine hK _ ?_; clear hK K
          iterate 2 (refine FG.ftext_det rfl rfl ?_; apply Exists.intro; refine ⟨fun w hC => ?_, fun K hK => ?_⟩; (first | (go_simp; exact rfl) | (go_simp; exact ⟨rfl, rfl⟩) | (go_simp; exact trivial)); go_simp; refine hK _ ?_; clear hK K)
          refine FG.ftext_early (Ext W1) rfl rfl ?_; apply Exists.intro; refine ⟨fun w1 _ hE => ?_, fun K hK => ?_⟩; (have hc : w1.cell? ⟨wr.heap.size, 1, none⟩ = some (.int .i64 (b : Int)) := Blk.cell (B1.ext hE) 1; go_simp; first | exact ⟨rfl, rfl⟩ | exact rfl)
          go_simp; refine hK _ ?_; clear hK K
          iterate 1 (refine FG.ftext_det rfl rfl ?_; apply Exists.intro; refine ⟨fun w hC => ?_, fun K hK => ?_⟩; (first | (go_simp; exact rfl) | (go_simp; exact ⟨rfl, rfl⟩) | (go_simp; exact trivial)); go_simp; refine hK _ ?_; clear hK K)
          refine FG.ftext_load_early (Ext W1) 47 _ rfl rfl rfl (g) (b * 12) (r.cells) rfl aggMass (fun w1 _ hE => Blk.at (n := 12) (B0.ext hE) (KL0.out.get (fun _ => rfl) HQ.out)) (fun K hK => ?_)
          go_simp; refine hK _ ?_; clear hK K
          refine FG.ftext_seq (fun v => ∃ (x_0 : Bool) (x_1 : Option Addr) (x_2 x_3 : Nat) (x_4 : Int) (x_5 : Bool) (x_6 : Option Addr) (x_7 x_8 : Nat) (x_9 : Int) (x_10 : Bool) (x_11 : Option Addr) (x_12 x_13 : Nat) (x_14 : Int) (x_15 : Bool) (x_16 : Option Addr) (x_17 x_18 : Nat) (x_19 : Int) (lk_0 : Bool) (lk_1 : Option Addr) (lk_2 lk_3 : Nat) (lk_4 : Int) (lk_5 : Bool) (lk_6 : Option Addr) (lk_7 lk_8 : Nat) (lk_9 : Int) (lk_10 : Bool) (lk_11 : Option Addr) (lk_12 lk_13 : Nat) (lk_14 : Int) (lk_15 : Bool) (lk_16 : Option Addr) (lk_17 lk_18 : Nat) (lk_19 : Int), v = .tuple #[.agg #[.bool x_0, .slice x_1 x_2 x_3, .int .i64 x_4, .bool x_5, .slice x_6 x_7 x_8, .int .i64 x_9, .bool x_10, .slice x_11 x_12 x_13, .int .i64 x_14, .bool x_15, .slice x_16 x_17 x_18, .int .i64 x_19], .agg #[.bool lk_0, .slice lk_1 lk_2 lk_3, .int .i64 lk_4, .bool lk_5, .slice lk_6 lk_7 lk_8, .int .i64 lk_9, .bool lk_10, .slice lk_11 lk_12 lk_13, .int .i64 lk_14, .bool lk_15, .slice lk_16 lk_17 lk_18, .int .i64 lk_19], .int .i64 0]) (fun v W' => ∃ (x : XMass) (lk : XMass), v = .tuple #[.agg #[.bool x.s.neg, .slice x.s.limbs.A x.s.limbs.l.length x.s.limbs.c, .int .i64 x.s.exp, .bool x.w.neg, .slice x.w.limbs.A x.w.limbs.l.length x.w.limbs.c, .int .i64 x.w.exp, .bool x.c.neg, .slice x.c.limbs.A x.c.limbs.l.length x.c.limbs.c, .int .i64 x.c.exp, .bool x.a.neg, .slice x.a.limbs.A x.a.limbs.l.length x.a.limbs.c, .int .i64 x.a.exp], .agg #[.bool lk.s.neg, .slice lk.s.limbs.A lk.s.limbs.l.length lk.s.limbs.c, .int .i64 lk.s.exp, .bool lk.w.neg, .slice lk.w.limbs.A lk.w.limbs.l.length lk.w.limbs.c, .int .i64 lk.w.exp, .bool lk.c.neg, .slice lk.c.limbs.A lk.c.limbs.l.length lk.c.limbs.c, .int .i64 lk.c.exp, .bool lk.a.neg, .slice lk.a.limbs.A lk.a.limbs.l.length lk.a.limbs.c, .int .i64 lk.a.exp], .int .i64 0] ∧ x.data = (meetM p.data r.data).1 ∧ lk.data = (meetM p.data r.data).2.1 ∧ x.mine W' W1.heap.size ∧ lk.mine W' W1.heap.size ∧ Ext W1 W') rfl rfl ⟨_, false, none, 0, 0, 0, false, none, 0, 0, 0, false, none, 0, 0, 0, false, none, 0, 0, 0, false, none, 0, 0, 0, false, none, 0, 0, 0, false, none, 0, 0, 0, false, none, 0, 0, 0, rfl⟩ (fun v w1 w2 h hR => ?_) (fun w1 hC hJ hF Φ hΦ => ?_) (fun v hv K hK => ?_)
          · obtain ⟨x, lk, hv0, f0_x_lk, f1_x_lk, f2_x_lk, f3_x_lk, jE⟩ := h
            exact ⟨x, lk, hv0, f0_x_lk, f1_x_lk, f2_x_lk.ext hR, f3_x_lk.ext hR, jE.trans hR⟩
          · have jE := hJ
            go_simp
            refine (mean_Meet p r _ (((N_q.ext jE) p HPM.out).ok) (((N_q.ext jE) r HQM.out).ok) (FP.out) (FR.out) (HT.out.ext (E.trans jE))).mono ?_
            rw [G0.out]
            rintro e w2 ⟨x, lk, rfl, hd0, hd1, hm0, hm1, hE⟩
            exact ⟨_, rfl, hΦ _ _ ⟨_, _, _, _, _, _, _, _, _, _, _, _, _, _, _, _, _, _, _, _, _, _, _, _, _, _, _, _, _, _, _, _, _, _, _, _, _, _, _, _, rfl⟩ (Nat.le_trans hC (Ext.size hE)) hE ⟨x, lk, rfl, hd0, hd1, (XMass.mine.lower hm0 (Ext.size jE)), (XMass.mine.lower hm1 (Ext.size jE)), jE.trans hE⟩⟩
          obtain ⟨x_0, x_1, x_2, x_3, x_4, x_5, x_6, x_7, x_8, x_9, x_10, x_11, x_12, x_13, x_14, x_15, x_16, x_17, x_18, x_19, lk_0, lk_1, lk_2, lk_3, lk_4, lk_5, lk_6, lk_7, lk_8, lk_9, lk_10, lk_11, lk_12, lk_13, lk_14, lk_15, lk_16, lk_17, lk_18, lk_19, rfl⟩ := hv
          go_simp; refine hK _ ?_; clear hK K
          iterate 4 (refine FG.ftext_det rfl rfl ?_; apply Exists.intro; refine ⟨fun w hC => ?_, fun K hK => ?_⟩; (first | (go_simp; exact rfl) | (go_simp; exact ⟨rfl, rfl⟩) | (go_simp; exact trivial)); go_simp; refine hK _ ?_; clear hK K)
          refine FG.ftext_fresh _ _ _ rfl rfl (fun w hC => ⟨hC, ?_⟩) (fun g _ _ h hr => Blk.ext h hr) (fun g2 hn_2 hs_2 K hK => ?_)
          · go_simp; first | exact ⟨rfl, Nat.le_trans hC (Ext.size (Ext.alloc _ _)), Ext.alloc _ _, Blk.new rfl⟩ | exact ⟨Nat.le_succ_of_le hC, Ext.alloc _ _, Blk.new rfl⟩
          go_simp; refine hK _ ?_; clear hK K
          refine FG.ftext_fresh _ _ _ rfl rfl (fun w hC => ⟨hC, ?_⟩) (fun g _ _ h hr => Blk.ext h hr) (fun g3 hn_3 hs_3 K hK => ?_)
          · go_simp; first | exact ⟨rfl, Nat.le_trans hC (Ext.size (Ext.alloc _ _)), Ext.alloc _ _, Blk.new rfl⟩ | exact ⟨Nat.le_succ_of_le hC, Ext.alloc _ _, Blk.new rfl⟩
          have n_3_2 : g3 ≠ g2 := fun e => hn_3 (by rw [e]; exact List.Mem.head _)
          go_simp; refine hK _ ?_; clear hK K
          refine FG.ftext_store 47 _ _ (fun W' => ∃ (x : XMass) (lk : XMass) (V0 : World), (.tuple #[.agg #[.bool x_0, .slice x_1 x_2 x_3, .int .i64 x_4, .bool x_5, .slice x_6 x_7 x_8, .int .i64 x_9, .bool x_10, .slice x_11 x_12 x_13, .int .i64 x_14, .bool x_15, .slice x_16 x_17 x_18, .int .i64 x_19], .agg #[.bool lk_0, .slice lk_1 lk_2 lk_3, .int .i64 lk_4, .bool lk_5, .slice lk_6 lk_7 lk_8, .int .i64 lk_9, .bool lk_10, .slice lk_11 lk_12 lk_13, .int .i64 lk_14, .bool lk_15, .slice lk_16 lk_17 lk_18, .int .i64 lk_19], .int .i64 0] : Value) = .tuple #[.agg #[.bool x.s.neg, .slice x.s.limbs.A x.s.limbs.l.length x.s.limbs.c, .int .i64 x.s.exp, .bool x.w.neg, .slice x.w.limbs.A x.w.limbs.l.length x.w.limbs.c, .int .i64 x.w.exp, .bool x.c.neg, .slice x.c.limbs.A x.c.limbs.l.length x.c.limbs.c, .int .i64 x.c.exp, .bool x.a.neg, .slice x.a.limbs.A x.a.limbs.l.length x.a.limbs.c, .int .i64 x.a.exp], .agg #[.bool lk.s.neg, .slice lk.s.limbs.A lk.s.limbs.l.length lk.s.limbs.c, .int .i64 lk.s.exp, .bool lk.w.neg, .slice lk.w.limbs.A lk.w.limbs.l.length lk.w.limbs.c, .int .i64 lk.w.exp, .bool lk.c.neg, .slice lk.c.limbs.A lk.c.limbs.l.length lk.c.limbs.c, .int .i64 lk.c.exp, .bool lk.a.neg, .slice lk.a.limbs.A lk.a.limbs.l.length lk.a.limbs.c, .int .i64 lk.a.exp], .int .i64 0] ∧ x.data = (meetM p.data r.data).1 ∧ lk.data = (meetM p.data r.data).2.1 ∧ x.mine V0 W1.heap.size ∧ lk.mine V0 W1.heap.size ∧ Ext W1 V0 ∧ Blk V0 g2 47 XMass.zero.cells ∧ Blk V0 g3 47 XMass.zero.cells ∧ Blk W' (g2) 47 x.cells ∧ Only V0 W' (g2)) rfl rfl rfl (fun w1 hC hJ hF => ?_) (fun K hK => ?_)
          · obtain ⟨x, lk, q_x_lk, f0_x_lk, f1_x_lk, f2_x_lk, f3_x_lk, jE⟩ := hJ
            obtain ⟨⟨_, z_2⟩, z_3⟩ := hF
            obtain ⟨rfl, rfl, rfl, rfl, rfl, rfl, rfl, rfl, rfl, rfl, rfl, rfl, rfl, rfl, rfl, rfl, rfl, rfl, rfl, rfl⟩ := eqMass (congrArg (fun v : Value => match v with | .tuple a => a.getD 0 undef | _ => v) q_x_lk)
            obtain ⟨rfl, rfl, rfl, rfl, rfl, rfl, rfl, rfl, rfl, rfl, rfl, rfl, rfl, rfl, rfl, rfl, rfl, rfl, rfl, rfl⟩ := eqMass (congrArg (fun v : Value => match v with | .tuple a => a.getD 1 undef | _ => v) q_x_lk)
            exact ⟨g2, 0, 47, XMass.zero.cells, x.cells, rfl, rfl, aggMass, z_2, Nat.le_of_ble_eq_true rfl, rfl, fun w' BR hO => ⟨by show _ ≤ _; rw [hO.size]; exact hC, x, lk, w1, rfl, f0_x_lk, f1_x_lk, f2_x_lk, f3_x_lk, jE, z_2, z_3, BR, hO⟩⟩
          go_simp; refine hK _ ?_; clear hK K
          refine FG.ftext_store 47 _ _ (fun W' => ∃ (x : XMass) (lk : XMass) (V0 : World) (V1 : World), (.tuple #[.agg #[.bool x_0, .slice x_1 x_2 x_3, .int .i64 x_4, .bool x_5, .slice x_6 x_7 x_8, .int .i64 x_9, .bool x_10, .slice x_11 x_12 x_13, .int .i64 x_14, .bool x_15, .slice x_16 x_17 x_18, .int .i64 x_19], .agg #[.bool lk_0, .slice lk_1 lk_2 lk_3, .int .i64 lk_4, .bool lk_5, .slice lk_6 lk_7 lk_8, .int .i64 lk_9, .bool lk_10, .slice lk_11 lk_12 lk_13, .int .i64 lk_14, .bool lk_15, .slice lk_16 lk_17 lk_18, .int .i64 lk_19], .int .i64 0] : Value) = .tuple #[.agg #[.bool x.s.neg, .slice x.s.limbs.A x.s.limbs.l.length x.s.limbs.c, .int .i64 x.s.exp, .bool x.w.neg, .slice x.w.limbs.A x.w.limbs.l.length x.w.limbs.c, .int .i64 x.w.exp, .bool x.c.neg, .slice x.c.limbs.A x.c.limbs.l.length x.c.limbs.c, .int .i64 x.c.exp, .bool x.a.neg, .slice x.a.limbs.A x.a.limbs.l.length x.a.limbs.c, .int .i64 x.a.exp], .agg #[.bool lk.s.neg, .slice lk.s.limbs.A lk.s.limbs.l.length lk.s.limbs.c, .int .i64 lk.s.exp, .bool lk.w.neg, .slice lk.w.limbs.A lk.w.limbs.l.length lk.w.limbs.c, .int .i64 lk.w.exp, .bool lk.c.neg, .slice lk.c.limbs.A lk.c.limbs.l.length lk.c.limbs.c, .int .i64 lk.c.exp, .bool lk.a.neg, .slice lk.a.limbs.A lk.a.limbs.l.length lk.a.limbs.c, .int .i64 lk.a.exp], .int .i64 0] ∧ x.data = (meetM p.data r.data).1 ∧ lk.data = (meetM p.data r.data).2.1 ∧ x.mine V0 W1.heap.size ∧ lk.mine V0 W1.heap.size ∧ Ext W1 V0 ∧ Blk V0 g2 47 XMass.zero.cells ∧ Blk V0 g3 47 XMass.zero.cells ∧ Blk V1 (g2) 47 x.cells ∧ Only V0 V1 (g2) ∧ Blk W' (g3) 47 lk.cells ∧ Only V1 W' (g3)) rfl rfl rfl (fun w1 hC hJ hF => ?_) (fun K hK => ?_)
          · obtain ⟨x, lk, V0, q_x_lk, f0_x_lk, f1_x_lk, f2_x_lk, f3_x_lk, jE, z_2, z_3, jB0, jO0⟩ := hJ
            obtain ⟨rfl, rfl, rfl, rfl, rfl, rfl, rfl, rfl, rfl, rfl, rfl, rfl, rfl, rfl, rfl, rfl, rfl, rfl, rfl, rfl⟩ := eqMass (congrArg (fun v : Value => match v with | .tuple a => a.getD 0 undef | _ => v) q_x_lk)
            obtain ⟨rfl, rfl, rfl, rfl, rfl, rfl, rfl, rfl, rfl, rfl, rfl, rfl, rfl, rfl, rfl, rfl, rfl, rfl, rfl, rfl⟩ := eqMass (congrArg (fun v : Value => match v with | .tuple a => a.getD 1 undef | _ => v) q_x_lk)
            exact ⟨g3, 0, 47, XMass.zero.cells, lk.cells, rfl, rfl, aggMass, (Blk.only z_3 jO0 (by omega)), Nat.le_of_ble_eq_true rfl, rfl, fun w' BR hO => ⟨by show _ ≤ _; rw [hO.size]; exact hC, x, lk, V0, w1, rfl, f0_x_lk, f1_x_lk, f2_x_lk, f3_x_lk, jE, z_2, z_3, jB0, jO0, BR, hO⟩⟩
          go_simp; refine hK _ ?_; clear hK K
          refine FG.ftext_nil ?_
          rintro W2 _ ⟨x, lk, V0, V1, q_x_lk, f0_x_lk, f1_x_lk, f2_x_lk, f3_x_lk, jE, z_2, z_3, jB0, jO0, jB1, jO1⟩ hF
          clear hF
          obtain ⟨rfl, rfl, rfl, rfl, rfl, rfl, rfl, rfl, rfl, rfl, rfl, rfl, rfl, rfl, rfl, rfl, rfl, rfl, rfl, rfl⟩ := eqMass (congrArg (fun v : Value => match v with | .tuple a => a.getD 0 undef | _ => v) q_x_lk)
          obtain ⟨rfl, rfl, rfl, rfl, rfl, rfl, rfl, rfl, rfl, rfl, rfl, rfl, rfl, rfl, rfl, rfl, rfl, rfl, rfl, rfl⟩ := eqMass (congrArg (fun v : Value => match v with | .tuple a => a.getD 1 undef | _ => v) q_x_lk)
          have hz := E.size
          replace N_q : AllMine W2 w.heap.size q := (((N_q.ext jE).only z_2 jO0 jB0 rfl (by decide)).only (Blk.only z_3 jO0 (by omega)) jO1 jB1 rfl (by decide))
          have M_x : x.mine W2 w.heap.size := XMass.mine.lower ((f2_x_lk.only z_2 jO0 jB0 rfl (by decide)).only (Blk.only z_3 jO0 (by omega)) jO1 jB1 rfl (by decide)) hz
          have D_x := Lib.hid f0_x_lk
          have F_x : Hid (FineM x.data) := Lib.hid (by rw [f0_x_lk]; exact (meetM_fine (FR.out)).1)
          have M_lk : lk.mine W2 w.heap.size := XMass.mine.lower ((f3_x_lk.only z_2 jO0 jB0 rfl (by decide)).only (Blk.only z_3 jO0 (by omega)) jO1 jB1 rfl (by decide)) hz
          have D_lk := Lib.hid f1_x_lk
          have F_lk : Hid (FineM lk.data) := Lib.hid (by rw [f1_x_lk]; exact (meetM_fine (FR.out)).2)
          replace B0 : Blk W2 (g) 47 cur := (Blk.only (Blk.only (B0.ext jE) jO0 (by omega)) jO1 (by omega))
          replace B1 : Blk W2 (wr.heap.size) 37 (⟨(a : Int), (b : Int)⟩ : PMeeting).cells := (Blk.only (Blk.only (B1.ext jE) jO0 (by omega)) jO1 (by omega))
          have B2 : Blk W2 (g2) 47 x.cells := (Blk.only jB0 jO1 (by omega))
          have B3 : Blk W2 (g3) 47 lk.cells := jB1
          replace E : Ext w W2 := Only.ext (Only.ext (E.trans jE) jO0 (by omega)) jO1 (by omega)
          clear hz jE jB0 jB1 jO0 jO1 z_2 z_3 f0_x_lk f1_x_lk f2_x_lk f3_x_lk q_x_lk
          simp only [List.drop_succ_cons, List.drop_zero]
          gi_wp2_with fail
          obtain ⟨c1, f1⟩ := Blk.rules B1
          go_wp2_with (first | ((with_reducible refine ld B2 (0) x.cells 47 (.tmp 12) ?_ ?_ ?_ ?_ ?_ ?_); (exact rfl); ((iterate 2 exact rfl); exact rfl; exact aggMass)) | ((with_reducible refine st (B0) (b * 12) x.cells 47 (.tmp 67) (.tmp 66) ?_ ?_ ?_ ?_ ?_ ?_ ?_ fun W3 BR3 hO3 => ?_); (exact rfl); ((iterate 4 exact rfl); exact (KL0.out.fit HQ.out); exact aggMass; obtain ⟨cu1, qc1⟩ : ∃ c, cur.take (b * 12) ++ x.cells ++ cur.drop (b * 12 + x.cells.length) = c := ⟨_, rfl⟩; have KL1 : Hid (KL 12 XMass.cells cu1 (q.set b x) c0) := Lib.hid (by have h9 := KL0.out.set (fun _ => rfl) HQ.out x; rwa [qc1] at h9); have HK1_0 : Hid ((q.set b x)[a]? = some p) := Lib.hid (by rw [List.getElem?_set_ne (by have := HAB.out; omega)]; exact HP.out); have HK1_1 : Hid ((q.set b x)[b]? = some x) := Lib.hid (List.getElem?_set_self (List.getElem?_eq_some_iff.1 HQ.out).1); rw [qc1] at BR3; replace N_q := N_q.only (B0) hO3 BR3 (KL1.out.len.trans KL0.out.len.symm) (by decide); replace M_x := M_x.only (B0) hO3 BR3 (KL1.out.len.trans KL0.out.len.symm) (by decide); replace M_lk := M_lk.only (B0) hO3 BR3 (KL1.out.len.trans KL0.out.len.symm) (by decide); replace E := Only.ext (E) hO3 (by omega); replace B1 := Blk.only (B1) hO3 (by omega); replace B2 := Blk.only (B2) hO3 (by omega); replace B3 := Blk.only (B3) hO3 (by omega); replace B0 : Blk W3 (g) 47 cu1 := BR3; clear BR3 hO3)) | fail)
          clear c1 f1
          refine FG.wp_region_flowTail 15 (fun w' => W3.heap.size ≤ w'.heap.size) (Ext W3) Ext (chK W3 [9] [14] [2, 5, 7, 8] []) [9] (by kernel_rfl) (by kernel_rfl) (by kernel_rfl) (fun _ _ h => Ext.size h) (Nat.le_refl _) (chK_early (Ext.drew _)) (Ext.drew _) (fun _ _ h k => h.trans k) ?_
          iterate 2 (refine FG.ftext_det rfl rfl ?_; apply Exists.intro; refine ⟨fun w hC => ?_, fun K hK => ?_⟩; (first | (go_simp; exact rfl) | (go_simp; exact ⟨rfl, rfl⟩) | (go_simp; exact trivial)); go_simp; refine hK _ ?_; clear hK K)
          refine FG.ftext_early (Ext W3) rfl rfl ?_; apply Exists.intro; refine ⟨fun w1 _ hE => ?_, fun K hK => ?_⟩; (have hc : w1.cell? ⟨wr.heap.size, 0, none⟩ = some (.int .i64 (a : Int)) := Blk.cell (B1.ext hE) 0; go_simp; first | exact ⟨rfl, rfl⟩ | exact rfl)
          go_simp; refine hK _ ?_; clear hK K
          iterate 2 (refine FG.ftext_det rfl rfl ?_; apply Exists.intro; refine ⟨fun w hC => ?_, fun K hK => ?_⟩; (first | (go_simp; exact rfl) | (go_simp; exact ⟨rfl, rfl⟩) | (go_simp; exact trivial)); go_simp; refine hK _ ?_; clear hK K)
          refine FG.ftext_early (Ext W3) rfl rfl ?_; apply Exists.intro; refine ⟨fun w1 _ hE => ?_, fun K hK => ?_⟩; (have hc : w1.cell? ⟨wr.heap.size, 0, none⟩ = some (.int .i64 (a : Int)) := Blk.cell (B1.ext hE) 0; go_simp; first | exact ⟨rfl, rfl⟩ | exact rfl)
          go_simp; refine hK _ ?_; clear hK K
          iterate 1 (refine FG.ftext_det rfl rfl ?_; apply Exists.intro; refine ⟨fun w hC => ?_, fun K hK => ?_⟩; (first | (go_simp; exact rfl) | (go_simp; exact ⟨rfl, rfl⟩) | (go_simp; exact trivial)); go_simp; refine hK _ ?_; clear hK K)
          refine FG.ftext_load_early (Ext W3) 47 _ rfl rfl rfl (g) (a * 12) (p.cells) rfl aggMass (fun w1 _ hE => Blk.at (n := 12) (B0.ext hE) (KL1.out.get (fun _ => rfl) HK1_0.out)) (fun K hK => ?_)
          go_simp; refine hK _ ?_; clear hK K
          refine FG.ftext_load_early (Ext W3) 47 _ rfl rfl rfl (g3) (0) (lk.cells) rfl aggMass (fun w1 _ hE => Blk.at (n := 12) (B3.ext hE) rfl) (fun K hK => ?_)
          go_simp; refine hK _ ?_; clear hK K
          refine FG.ftext_seq (fun v => ∃ (y_0 : Bool) (y_1 : Option Addr) (y_2 y_3 : Nat) (y_4 : Int) (y_5 : Bool) (y_6 : Option Addr) (y_7 y_8 : Nat) (y_9 : Int) (y_10 : Bool) (y_11 : Option Addr) (y_12 y_13 : Nat) (y_14 : Int) (y_15 : Bool) (y_16 : Option Addr) (y_17 y_18 : Nat) (y_19 : Int), v = .tuple #[.agg #[.bool y_0, .slice y_1 y_2 y_3, .int .i64 y_4, .bool y_5, .slice y_6 y_7 y_8, .int .i64 y_9, .bool y_10, .slice y_11 y_12 y_13, .int .i64 y_14, .bool y_15, .slice y_16 y_17 y_18, .int .i64 y_19], .int .i64 10]) (fun v W' => ∃ (y : XMass), v = .tuple #[.agg #[.bool y.s.neg, .slice y.s.limbs.A y.s.limbs.l.length y.s.limbs.c, .int .i64 y.s.exp, .bool y.w.neg, .slice y.w.limbs.A y.w.limbs.l.length y.w.limbs.c, .int .i64 y.w.exp, .bool y.c.neg, .slice y.c.limbs.A y.c.limbs.l.length y.c.limbs.c, .int .i64 y.c.exp, .bool y.a.neg, .slice y.a.limbs.A y.a.limbs.l.length y.a.limbs.c, .int .i64 y.a.exp], .int .i64 10] ∧ y.data = (doneM p.data (meetM p.data r.data).2.1).1 ∧ y.mine W' W3.heap.size ∧ Ext W3 W') rfl rfl ⟨_, false, none, 0, 0, 0, false, none, 0, 0, 0, false, none, 0, 0, 0, false, none, 0, 0, 0, rfl⟩ (fun v w1 w2 h hR => ?_) (fun w1 hC hJ hF Φ hΦ => ?_) (fun v hv K hK => ?_)
          · obtain ⟨y, hv0, f0_y, f1_y, jE⟩ := h
            exact ⟨y, hv0, f0_y, f1_y.ext hR, jE.trans hR⟩
          · have jE := hJ
            go_simp
            refine (mean_Done p lk _ (((N_q.ext jE) p HPM.out).ok) ((M_lk.ext jE).ok) (FP.out) (F_lk.out) (HT.out.ext (E.trans jE))).mono ?_
            rw [D_lk.out, G1.out]
            rintro e w2 ⟨y, rfl, hd0, hm0, hE⟩
            exact ⟨_, rfl, hΦ _ _ ⟨_, _, _, _, _, _, _, _, _, _, _, _, _, _, _, _, _, _, _, _, rfl⟩ (Nat.le_trans hC (Ext.size hE)) hE ⟨y, rfl, hd0, (XMass.mine.lower hm0 (Ext.size jE)), jE.trans hE⟩⟩
          obtain ⟨y_0, y_1, y_2, y_3, y_4, y_5, y_6, y_7, y_8, y_9, y_10, y_11, y_12, y_13, y_14, y_15, y_16, y_17, y_18, y_19, rfl⟩ := hv
          go_simp; refine hK _ ?_; clear hK K
          iterate 4 (refine FG.ftext_det rfl rfl ?_; apply Exists.intro; refine ⟨fun w hC => ?_, fun K hK => ?_⟩; (first | (go_simp; exact rfl) | (go_simp; exact ⟨rfl, rfl⟩) | (go_simp; exact trivial)); go_simp; refine hK _ ?_; clear hK K)
          refine FG.ftext_store 47 _ _ (fun W' => ∃ (y : XMass) (V0 : World), (.tuple #[.agg #[.bool y_0, .slice y_1 y_2 y_3, .int .i64 y_4, .bool y_5, .slice y_6 y_7 y_8, .int .i64 y_9, .bool y_10, .slice y_11 y_12 y_13, .int .i64 y_14, .bool y_15, .slice y_16 y_17 y_18, .int .i64 y_19], .int .i64 10] : Value) = .tuple #[.agg #[.bool y.s.neg, .slice y.s.limbs.A y.s.limbs.l.length y.s.limbs.c, .int .i64 y.s.exp, .bool y.w.neg, .slice y.w.limbs.A y.w.limbs.l.length y.w.limbs.c, .int .i64 y.w.exp, .bool y.c.neg, .slice y.c.limbs.A y.c.limbs.l.length y.c.limbs.c, .int .i64 y.c.exp, .bool y.a.neg, .slice y.a.limbs.A y.a.limbs.l.length y.a.limbs.c, .int .i64 y.a.exp], .int .i64 10] ∧ y.data = (doneM p.data (meetM p.data r.data).2.1).1 ∧ y.mine V0 W3.heap.size ∧ Ext W3 V0 ∧ Blk W' (g) 47 (cu1.take (a * 12) ++ y.cells ++ cu1.drop (a * 12 + y.cells.length)) ∧ Only V0 W' (g)) rfl rfl rfl (fun w1 hC hJ hF => ?_) (fun K hK => ?_)
          · obtain ⟨y, q_y, f0_y, f1_y, jE⟩ := hJ
            obtain ⟨rfl, rfl, rfl, rfl, rfl, rfl, rfl, rfl, rfl, rfl, rfl, rfl, rfl, rfl, rfl, rfl, rfl, rfl, rfl, rfl⟩ := eqMass (congrArg (fun v : Value => match v with | .tuple a => a.getD 0 undef | _ => v) q_y)
            exact ⟨g, a * 12, 47, cu1, y.cells, rfl, rfl, aggMass, (B0.ext jE), (KL1.out.fit HK1_0.out), rfl, fun w' BR hO => ⟨by show _ ≤ _; rw [hO.size]; exact hC, y, w1, rfl, f0_y, f1_y, jE, BR, hO⟩⟩
          go_simp; refine hK _ ?_; clear hK K
          refine FG.ftext_nil ?_
          rintro W4 _ ⟨y, V0, q_y, f0_y, f1_y, jE, jB0, jO0⟩ hF
          clear hF
          obtain ⟨rfl, rfl, rfl, rfl, rfl, rfl, rfl, rfl, rfl, rfl, rfl, rfl, rfl, rfl, rfl, rfl, rfl, rfl, rfl, rfl⟩ := eqMass (congrArg (fun v : Value => match v with | .tuple a => a.getD 0 undef | _ => v) q_y)
          obtain ⟨cu2, qc2⟩ : ∃ c, cu1.take (a * 12) ++ y.cells ++ cu1.drop (a * 12 + y.cells.length) = c := ⟨_, rfl⟩
          have KL2 : Hid (KL 12 XMass.cells cu2 ((q.set b x).set a y) c0) := Lib.hid (by have h9 := KL1.out.set (fun _ => rfl) HK1_0.out y; rwa [qc2] at h9)
          have HK2_0 : Hid (((q.set b x).set a y)[a]? = some y) := Lib.hid (List.getElem?_set_self (List.getElem?_eq_some_iff.1 HK1_0.out).1)
          have HK2_1 : Hid (((q.set b x).set a y)[b]? = some x) := Lib.hid (by rw [List.getElem?_set_ne (by have := HAB.out; omega)]; exact HK1_1.out)
          rw [qc2] at jB0
          have hz := E.size
          replace N_q : AllMine W4 w.heap.size q := ((N_q.ext jE).only (B0.ext jE) jO0 jB0 (KL2.out.len.trans KL1.out.len.symm) (by decide))
          replace M_x : x.mine W4 w.heap.size := ((M_x.ext jE).only (B0.ext jE) jO0 jB0 (KL2.out.len.trans KL1.out.len.symm) (by decide))
          replace M_lk : lk.mine W4 w.heap.size := ((M_lk.ext jE).only (B0.ext jE) jO0 jB0 (KL2.out.len.trans KL1.out.len.symm) (by decide))
          have M_y : y.mine W4 w.heap.size := XMass.mine.lower (f1_y.only (B0.ext jE) jO0 jB0 (KL2.out.len.trans KL1.out.len.symm) (by decide)) hz
          have D_y := Lib.hid f0_y
          have F_y : Hid (FineM y.data) := Lib.hid (by rw [f0_y]; exact doneM_fine _ _)
          replace B0 : Blk W4 (g) 47 cu2 := jB0
          replace B1 : Blk W4 (wr.heap.size) 37 (⟨(a : Int), (b : Int)⟩ : PMeeting).cells := (Blk.only (B1.ext jE) jO0 (by omega))
          replace B2 : Blk W4 (g2) 47 x.cells := (Blk.only (B2.ext jE) jO0 (by omega))
          replace B3 : Blk W4 (g3) 47 lk.cells := (Blk.only (B3.ext jE) jO0 (by omega))
          replace E : Ext w W4 := Only.ext (E.trans jE) jO0 (by omega)
          clear hz jE jB0 jO0 f0_y f1_y q_y
          simp only [List.drop_succ_cons, List.drop_zero]
          gi_wp2_with fail
          go_wp2_with fail
          go_ret2
          exact ⟨⟨[], none, 0⟩, by rw [HR.out, HTe.out] <;> rfl, by rw [HR.out, HTe.out] <;> rfl, Go.Hx.Own.nil _ _ _ _ _, AllMine.nil _ _, E⟩
        have G1 := Lib.hid hd
        have HG : Hid (mayM (meetM p.data r.data).1 ∧ mayM (doneM p.data (meetM p.data r.data).2.1).1) := Lib.hid ⟨(meetM_may he).1, doneM_may hd⟩
        clear he hd hm1 hm2
        have L0_0 := B0.lt
        go_wp2_with (first | ((with_reducible refine wpl_load 37 (.tmp 43) ?_ ?_ b1 (o1 + j * 2) ((⟨(a : Int), (b : Int)⟩ : PMeeting).cells) ?_ ?_ ?_ ?_); (exact rfl); ((iterate 2 exact rfl); exact aggMeeting; exact R_z.out _ (E))) | fail)
        refine wp_nm fun W1 hW => ?_
        replace B0 : Blk W1 (g) 47 cur := by rw [hW]; exact B0.alloc _
        have B1 : Blk W1 (wr.heap.size) 37 (⟨(a : Int), (b : Int)⟩ : PMeeting).cells := by rw [hW]; exact Blk.new (by simp)
        replace E : Ext w W1 := by rw [hW]; exact Ext.alloc' E _
        replace N_q : AllMine W1 w.heap.size q := by rw [hW]; exact N_q.ext (Ext.alloc' (Ext.refl _) _)
        clear hW
        have L1_1 := B1.lt
        refine FG.wp_region_flowTail 19 (fun w' => W1.heap.size ≤ w'.heap.size) (Ext W1) Ext (chK W1 [10] [17, 18] [2, 4, 7, 9] [(15, 47, XMass.zero.cells), (16, 47, XMass.zero.cells)]) [10] (by kernel_rfl) (by kernel_rfl) (by kernel_rfl) (fun _ _ h => Ext.size h) (Nat.le_refl _) (chK_early (Ext.drew _)) (Ext.drew _) (fun _ _ h k => h.trans k) ?_
        iterate 2 (refine FG.ftext_det rfl rfl ?_; apply Exists.intro; refine ⟨fun w hC => ?_, fun K hK => ?_⟩; (first | (go_simp; exact rfl) | (go_simp; exact ⟨rfl, rfl⟩) | (go_simp; exact trivial)); go_simp; refine hK _ ?_; clear hK K)
        refine FG.ftext_early (Ext W1) rfl rfl ?_; apply Exists.intro; refine ⟨fun w1 _ hE => ?_, fun K hK => ?_⟩; (have hc : w1.cell? ⟨wr.heap.size, 0, none⟩ = some (.int .i64 (a : Int)) := Blk.cell (B1.ext hE) 0; go_simp; first | exact ⟨rfl, rfl⟩ | exact rfl)
        go_simp; refine hK _ ?_; clear hK K
        iterate 1 (refine FG.ftext_det rfl rfl ?_; apply Exists.intro; refine ⟨fun w hC => ?_, fun K hK => ?_⟩; (first | (go_simp; exact rfl) | (go_simp; exact ⟨rfl, rfl⟩) | (go_simp; exact trivial)); go_simp; refine hK _ ?_; clear hK K)
        refine FG.ftext_load_early (Ext W1) 47 _ rfl rfl rfl (g) (a * 12) (p.cells) rfl aggMass (fun w1 _ hE => Blk.at (n := 12) (B0.ext hE) (KL0.out.get (fun _ => rfl) HP.out)) (fun K hK => ?_)
        go_simp; refine hK _ ?_; clear hK K
        iterate 2 (refine FG.ftext_det rfl rfl ?_; apply Exists.intro; refine ⟨fun w hC => ?_, fun K hK => ?_⟩; (first | (go_simp; exact rfl) | (go_simp; exact ⟨rfl, rfl⟩) | (go_simp; exact trivial)); go_simp; refine hK _ ?_; clear hK K)
        refine FG.ftext_early (Ext W1) rfl rfl ?_; apply Exists.intro; refine ⟨fun w1 _ hE => ?_, fun K hK => ?_⟩; (have hc : w1.cell? ⟨wr.heap.size, 1, none⟩ = some (.int .i64 (b : Int)) := Blk.cell (B1.ext hE) 1; go_simp; first | exact ⟨rfl, rfl⟩ | exact rfl)
        go_simp; refine hK _ ?_; clear hK K
        iterate 1 (refine FG.ftext_det rfl rfl ?_; apply Exists.intro; refine ⟨fun w hC => ?_, fun K hK => ?_⟩; (first | (go_simp; exact rfl) | (go_simp; exact ⟨rfl, rfl⟩) | (go_simp; exact trivial)); go_simp; refine hK _ ?_; clear hK K)
        refine FG.ftext_load_early (Ext W1) 47 _ rfl rfl rfl (g) (b * 12) (r.cells) rfl aggMass (fun w1 _ hE => Blk.at (n := 12) (B0.ext hE) (KL0.out.get (fun _ => rfl) HQ.out)) (fun K hK => ?_)
        go_simp; refine hK _ ?_; clear hK K
        refine FG.ftext_seq (fun v => ∃ (x_0 : Bool) (x_1 : Option Addr) (x_2 x_3 : Nat) (x_4 : Int) (x_5 : Bool) (x_6 : Option Addr) (x_7 x_8 : Nat) (x_9 : Int) (x_10 : Bool) (x_11 : Option Addr) (x_12 x_13 : Nat) (x_14 : Int) (x_15 : Bool) (x_16 : Option Addr) (x_17 x_18 : Nat) (x_19 : Int) (lk_0 : Bool) (lk_1 : Option Addr) (lk_2 lk_3 : Nat) (lk_4 : Int) (lk_5 : Bool) (lk_6 : Option Addr) (lk_7 lk_8 : Nat) (lk_9 : Int) (lk_10 : Bool) (lk_11 : Option Addr) (lk_12 lk_13 : Nat) (lk_14 : Int) (lk_15 : Bool) (lk_16 : Option Addr) (lk_17 lk_18 : Nat) (lk_19 : Int), v = .tuple #[.agg #[.bool x_0, .slice x_1 x_2 x_3, .int .i64 x_4, .bool x_5, .slice x_6 x_7 x_8, .int .i64 x_9, .bool x_10, .slice x_11 x_12 x_13, .int .i64 x_14, .bool x_15, .slice x_16 x_17 x_18, .int .i64 x_19], .agg #[.bool lk_0, .slice lk_1 lk_2 lk_3, .int .i64 lk_4, .bool lk_5, .slice lk_6 lk_7 lk_8, .int .i64 lk_9, .bool lk_10, .slice lk_11 lk_12 lk_13, .int .i64 lk_14, .bool lk_15, .slice lk_16 lk_17 lk_18, .int .i64 lk_19], .int .i64 0]) (fun v W' => ∃ (x : XMass) (lk : XMass), v = .tuple #[.agg #[.bool x.s.neg, .slice x.s.limbs.A x.s.limbs.l.length x.s.limbs.c, .int .i64 x.s.exp, .bool x.w.neg, .slice x.w.limbs.A x.w.limbs.l.length x.w.limbs.c, .int .i64 x.w.exp, .bool x.c.neg, .slice x.c.limbs.A x.c.limbs.l.length x.c.limbs.c, .int .i64 x.c.exp, .bool x.a.neg, .slice x.a.limbs.A x.a.limbs.l.length x.a.limbs.c, .int .i64 x.a.exp], .agg #[.bool lk.s.neg, .slice lk.s.limbs.A lk.s.limbs.l.length lk.s.limbs.c, .int .i64 lk.s.exp, .bool lk.w.neg, .slice lk.w.limbs.A lk.w.limbs.l.length lk.w.limbs.c, .int .i64 lk.w.exp, .bool lk.c.neg, .slice lk.c.limbs.A lk.c.limbs.l.length lk.c.limbs.c, .int .i64 lk.c.exp, .bool lk.a.neg, .slice lk.a.limbs.A lk.a.limbs.l.length lk.a.limbs.c, .int .i64 lk.a.exp], .int .i64 0] ∧ x.data = (meetM p.data r.data).1 ∧ lk.data = (meetM p.data r.data).2.1 ∧ x.mine W' W1.heap.size ∧ lk.mine W' W1.heap.size ∧ Ext W1 W') rfl rfl ⟨_, false, none, 0, 0, 0, false, none, 0, 0, 0, false, none, 0, 0, 0, false, none, 0, 0, 0, false, none, 0, 0, 0, false, none, 0, 0, 0, false, none, 0, 0, 0, false, none, 0, 0, 0, rfl⟩ (fun v w1 w2 h hR => ?_) (fun w1 hC hJ hF Φ hΦ => ?_) (fun v hv K hK => ?_)
        · obtain ⟨x, lk, hv0, f0_x_lk, f1_x_lk, f2_x_lk, f3_x_lk, jE⟩ := h
          exact ⟨x, lk, hv0, f0_x_lk, f1_x_lk, f2_x_lk.ext hR, f3_x_lk.ext hR, jE.trans hR⟩
        · have jE := hJ
          go_simp
          refine (mean_Meet p r _ (((N_q.ext jE) p HPM.out).ok) (((N_q.ext jE) r HQM.out).ok) (FP.out) (FR.out) (HT.out.ext (E.trans jE))).mono ?_
          rw [G0.out]
          rintro e w2 ⟨x, lk, rfl, hd0, hd1, hm0, hm1, hE⟩
          exact ⟨_, rfl, hΦ _ _ ⟨_, _, _, _, _, _, _, _, _, _, _, _, _, _, _, _, _, _, _, _, _, _, _, _, _, _, _, _, _, _, _, _, _, _, _, _, _, _, _, _, rfl⟩ (Nat.le_trans hC (Ext.size hE)) hE ⟨x, lk, rfl, hd0, hd1, (XMass.mine.lower hm0 (Ext.size jE)), (XMass.mine.lower hm1 (Ext.size jE)), jE.trans hE⟩⟩
        obtain ⟨x_0, x_1, x_2, x_3, x_4, x_5, x_6, x_7, x_8, x_9, x_10, x_11, x_12, x_13, x_14, x_15, x_16, x_17, x_18, x_19, lk_0, lk_1, lk_2, lk_3, lk_4, lk_5, lk_6, lk_7, lk_8, lk_9, lk_10, lk_11, lk_12, lk_13, lk_14, lk_15, lk_16, lk_17, lk_18, lk_19, rfl⟩ := hv
        go_simp; refine hK _ ?_; clear hK K
        iterate 4 (refine FG.ftext_det rfl rfl ?_; apply Exists.intro; refine ⟨fun w hC => ?_, fun K hK => ?_⟩; (first | (go_simp; exact rfl) | (go_simp; exact ⟨rfl, rfl⟩) | (go_simp; exact trivial)); go_simp; refine hK _ ?_; clear hK K)
        refine FG.ftext_fresh _ _ _ rfl rfl (fun w hC => ⟨hC, ?_⟩) (fun g _ _ h hr => Blk.ext h hr) (fun g2 hn_2 hs_2 K hK => ?_)
        · go_simp; first | exact ⟨rfl, Nat.le_trans hC (Ext.size (Ext.alloc _ _)), Ext.alloc _ _, Blk.new rfl⟩ | exact ⟨Nat.le_succ_of_le hC, Ext.alloc _ _, Blk.new rfl⟩
        go_simp; refine hK _ ?_; clear hK K
        refine FG.ftext_fresh _ _ _ rfl rfl (fun w hC => ⟨hC, ?_⟩) (fun g _ _ h hr => Blk.ext h hr) (fun g3 hn_3 hs_3 K hK => ?_)
        · go_simp; first | exact ⟨rfl, Nat.le_trans hC (Ext.size (Ext.alloc _ _)), Ext.alloc _ _, Blk.new rfl⟩ | exact ⟨Nat.le_succ_of_le hC, Ext.alloc _ _, Blk.new rfl⟩
        have n_3_2 : g3 ≠ g2 := fun e => hn_3 (by rw [e]; exact List.Mem.head _)
        go_simp; refine hK _ ?_; clear hK K
        refine FG.ftext_store 47 _ _ (fun W' => ∃ (x : XMass) (lk : XMass) (V0 : World), (.tuple #[.agg #[.bool x_0, .slice x_1 x_2 x_3, .int .i64 x_4, .bool x_5, .slice x_6 x_7 x_8, .int .i64 x_9, .bool x_10, .slice x_11 x_12 x_13, .int .i64 x_14, .bool x_15, .slice x_16 x_17 x_18, .int .i64 x_19], .agg #[.bool lk_0, .slice lk_1 lk_2 lk_3, .int .i64 lk_4, .bool lk_5, .slice lk_6 lk_7 lk_8, .int .i64 lk_9, .bool lk_10, .slice lk_11 lk_12 lk_13, .int .i64 lk_14, .bool lk_15, .slice lk_16 lk_17 lk_18, .int .i64 lk_19], .int .i64 0] : Value) = .tuple #[.agg #[.bool x.s.neg, .slice x.s.limbs.A x.s.limbs.l.length x.s.limbs.c, .int .i64 x.s.exp, .bool x.w.neg, .slice x.w.limbs.A x.w.limbs.l.length x.w.limbs.c, .int .i64 x.w.exp, .bool x.c.neg, .slice x.c.limbs.A x.c.limbs.l.length x.c.limbs.c, .int .i64 x.c.exp, .bool x.a.neg, .slice x.a.limbs.A x.a.limbs.l.length x.a.limbs.c, .int .i64 x.a.exp], .agg #[.bool lk.s.neg, .slice lk.s.limbs.A lk.s.limbs.l.length lk.s.limbs.c, .int .i64 lk.s.exp, .bool lk.w.neg, .slice lk.w.limbs.A lk.w.limbs.l.length lk.w.limbs.c, .int .i64 lk.w.exp, .bool lk.c.neg, .slice lk.c.limbs.A lk.c.limbs.l.length lk.c.limbs.c, .int .i64 lk.c.exp, .bool lk.a.neg, .slice lk.a.limbs.A lk.a.limbs.l.length lk.a.limbs.c, .int .i64 lk.a.exp], .int .i64 0] ∧ x.data = (meetM p.data r.data).1 ∧ lk.data = (meetM p.data r.data).2.1 ∧ x.mine V0 W1.heap.size ∧ lk.mine V0 W1.heap.size ∧ Ext W1 V0 ∧ Blk V0 g2 47 XMass.zero.cells ∧ Blk V0 g3 47 XMass.zero.cells ∧ Blk W' (g2) 47 x.cells ∧ Only V0 W' (g2)) rfl rfl rfl (fun w1 hC hJ hF => ?_) (fun K hK => ?_)
        · obtain ⟨x, lk, q_x_lk, f0_x_lk, f1_x_lk, f2_x_lk, f3_x_lk, jE⟩ := hJ
          obtain ⟨⟨_, z_2⟩, z_3⟩ := hF
          obtain ⟨rfl, rfl, rfl, rfl, rfl, rfl, rfl, rfl, rfl, rfl, rfl, rfl, rfl, rfl, rfl, rfl, rfl, rfl, rfl, rfl⟩ := eqMass (congrArg (fun v : Value => match v with | .tuple a => a.getD 0 undef | _ => v) q_x_lk)
          obtain ⟨rfl, rfl, rfl, rfl, rfl, rfl, rfl, rfl, rfl, rfl, rfl, rfl, rfl, rfl, rfl, rfl, rfl, rfl, rfl, rfl⟩ := eqMass (congrArg (fun v : Value => match v with | .tuple a => a.getD 1 undef | _ => v) q_x_lk)
          exact ⟨g2, 0, 47, XMass.zero.cells, x.cells, rfl, rfl, aggMass, z_2, Nat.le_of_ble_eq_true rfl, rfl, fun w' BR hO => ⟨by show _ ≤ _; rw [hO.size]; exact hC, x, lk, w1, rfl, f0_x_lk, f1_x_lk, f2_x_lk, f3_x_lk, jE, z_2, z_3, BR, hO⟩⟩
        go_simp; refine hK _ ?_; clear hK K
        refine FG.ftext_store 47 _ _ (fun W' => ∃ (x : XMass) (lk : XMass) (V0 : World) (V1 : World), (.tuple #[.agg #[.bool x_0, .slice x_1 x_2 x_3, .int .i64 x_4, .bool x_5, .slice x_6 x_7 x_8, .int .i64 x_9, .bool x_10, .slice x_11 x_12 x_13, .int .i64 x_14, .bool x_15, .slice x_16 x_17 x_18, .int .i64 x_19], .agg #[.bool lk_0, .slice lk_1 lk_2 lk_3, .int .i64 lk_4, .bool lk_5, .slice lk_6 lk_7 lk_8, .int .i64 lk_9, .bool lk_10, .slice lk_11 lk_12 lk_13, .int .i64 lk_14, .bool lk_15, .slice lk_16 lk_17 lk_18, .int .i64 lk_19], .int .i64 0] : Value) = .tuple #[.agg #[.bool x.s.neg, .slice x.s.limbs.A x.s.limbs.l.length x.s.limbs.c, .int .i64 x.s.exp, .bool x.w.neg, .slice x.w.limbs.A x.w.limbs.l.length x.w.limbs.c, .int .i64 x.w.exp, .bool x.c.neg, .slice x.c.limbs.A x.c.limbs.l.length x.c.limbs.c, .int .i64 x.c.exp, .bool x.a.neg, .slice x.a.limbs.A x.a.limbs.l.length x.a.limbs.c, .int .i64 x.a.exp], .agg #[.bool lk.s.neg, .slice lk.s.limbs.A lk.s.limbs.l.length lk.s.limbs.c, .int .i64 lk.s.exp, .bool lk.w.neg, .slice lk.w.limbs.A lk.w.limbs.l.length lk.w.limbs.c, .int .i64 lk.w.exp, .bool lk.c.neg, .slice lk.c.limbs.A lk.c.limbs.l.length lk.c.limbs.c, .int .i64 lk.c.exp, .bool lk.a.neg, .slice lk.a.limbs.A lk.a.limbs.l.length lk.a.limbs.c, .int .i64 lk.a.exp], .int .i64 0] ∧ x.data = (meetM p.data r.data).1 ∧ lk.data = (meetM p.data r.data).2.1 ∧ x.mine V0 W1.heap.size ∧ lk.mine V0 W1.heap.size ∧ Ext W1 V0 ∧ Blk V0 g2 47 XMass.zero.cells ∧ Blk V0 g3 47 XMass.zero.cells ∧ Blk V1 (g2) 47 x.cells ∧ Only V0 V1 (g2) ∧ Blk W' (g3) 47 lk.cells ∧ Only V1 W' (g3)) rfl rfl rfl (fun w1 hC hJ hF => ?_) (fun K hK => ?_)
        · obtain ⟨x, lk, V0, q_x_lk, f0_x_lk, f1_x_lk, f2_x_lk, f3_x_lk, jE, z_2, z_3, jB0, jO0⟩ := hJ
          obtain ⟨rfl, rfl, rfl, rfl, rfl, rfl, rfl, rfl, rfl, rfl, rfl, rfl, rfl, rfl, rfl, rfl, rfl, rfl, rfl, rfl⟩ := eqMass (congrArg (fun v : Value => match v with | .tuple a => a.getD 0 undef | _ => v) q_x_lk)
          obtain ⟨rfl, rfl, rfl, rfl, rfl, rfl, rfl, rfl, rfl, rfl, rfl, rfl, rfl, rfl, rfl, rfl, rfl, rfl, rfl, rfl⟩ := eqMass (congrArg (fun v : Value => match v with | .tuple a => a.getD 1 undef | _ => v) q_x_lk)
          exact ⟨g3, 0, 47, XMass.zero.cells, lk.cells, rfl, rfl, aggMass, (Blk.only z_3 jO0 (by omega)), Nat.le_of_ble_eq_true rfl, rfl, fun w' BR hO => ⟨by show _ ≤ _; rw [hO.size]; exact hC, x, lk, V0, w1, rfl, f0_x_lk, f1_x_lk, f2_x_lk, f3_x_lk, jE, z_2, z_3, jB0, jO0, BR, hO⟩⟩
        go_simp; refine hK _ ?_; clear hK K
        refine FG.ftext_nil ?_
        rintro W2 _ ⟨x, lk, V0, V1, q_x_lk, f0_x_lk, f1_x_lk, f2_x_lk, f3_x_lk, jE, z_2, z_3, jB0, jO0, jB1, jO1⟩ hF
        clear hF
        obtain ⟨rfl, rfl, rfl, rfl, rfl, rfl, rfl, rfl, rfl, rfl, rfl, rfl, rfl, rfl, rfl, rfl, rfl, rfl, rfl, rfl⟩ := eqMass (congrArg (fun v : Value => match v with | .tuple a => a.getD 0 undef | _ => v) q_x_lk)
        obtain ⟨rfl, rfl, rfl, rfl, rfl, rfl, rfl, rfl, rfl, rfl, rfl, rfl, rfl, rfl, rfl, rfl, rfl, rfl, rfl, rfl⟩ := eqMass (congrArg (fun v : Value => match v with | .tuple a => a.getD 1 undef | _ => v) q_x_lk)
        have hz := E.size
        replace N_q : AllMine W2 w.heap.size q := (((N_q.ext jE).only z_2 jO0 jB0 rfl (by decide)).only (Blk.only z_3 jO0 (by omega)) jO1 jB1 rfl (by decide))
        have M_x : x.mine W2 w.heap.size := XMass.mine.lower ((f2_x_lk.only z_2 jO0 jB0 rfl (by decide)).only (Blk.only z_3 jO0 (by omega)) jO1 jB1 rfl (by decide)) hz
        have D_x := Lib.hid f0_x_lk
        have F_x : Hid (FineM x.data) := Lib.hid (by rw [f0_x_lk]; exact (meetM_fine (FR.out)).1)
        have M_lk : lk.mine W2 w.heap.size := XMass.mine.lower ((f3_x_lk.only z_2 jO0 jB0 rfl (by decide)).only (Blk.only z_3 jO0 (by omega)) jO1 jB1 rfl (by decide)) hz
        have D_lk := Lib.hid f1_x_lk
        have F_lk : Hid (FineM lk.data) := Lib.hid (by rw [f1_x_lk]; exact (meetM_fine (FR.out)).2)
        replace B0 : Blk W2 (g) 47 cur := (Blk.only (Blk.only (B0.ext jE) jO0 (by omega)) jO1 (by omega))
        replace B1 : Blk W2 (wr.heap.size) 37 (⟨(a : Int), (b : Int)⟩ : PMeeting).cells := (Blk.only (Blk.only (B1.ext jE) jO0 (by omega)) jO1 (by omega))
        have B2 : Blk W2 (g2) 47 x.cells := (Blk.only jB0 jO1 (by omega))
        have B3 : Blk W2 (g3) 47 lk.cells := jB1
        replace E : Ext w W2 := Only.ext (Only.ext (E.trans jE) jO0 (by omega)) jO1 (by omega)
        clear hz jE jB0 jB1 jO0 jO1 z_2 z_3 f0_x_lk f1_x_lk f2_x_lk f3_x_lk q_x_lk
        simp only [List.drop_succ_cons, List.drop_zero]
        gi_wp2_with fail
        obtain ⟨c1, f1⟩ := Blk.rules B1
        go_wp2_with (first | ((with_reducible refine ld B2 (0) x.cells 47 (.tmp 12) ?_ ?_ ?_ ?_ ?_ ?_); (exact rfl); ((iterate 2 exact rfl); exact rfl; exact aggMass)) | ((with_reducible refine st (B0) (b * 12) x.cells 47 (.tmp 67) (.tmp 66) ?_ ?_ ?_ ?_ ?_ ?_ ?_ fun W3 BR3 hO3 => ?_); (exact rfl); ((iterate 4 exact rfl); exact (KL0.out.fit HQ.out); exact aggMass; obtain ⟨cu3, qc3⟩ : ∃ c, cur.take (b * 12) ++ x.cells ++ cur.drop (b * 12 + x.cells.length) = c := ⟨_, rfl⟩; have KL3 : Hid (KL 12 XMass.cells cu3 (q.set b x) c0) := Lib.hid (by have h9 := KL0.out.set (fun _ => rfl) HQ.out x; rwa [qc3] at h9); have HK3_0 : Hid ((q.set b x)[a]? = some p) := Lib.hid (by rw [List.getElem?_set_ne (by have := HAB.out; omega)]; exact HP.out); have HK3_1 : Hid ((q.set b x)[b]? = some x) := Lib.hid (List.getElem?_set_self (List.getElem?_eq_some_iff.1 HQ.out).1); rw [qc3] at BR3; replace N_q := N_q.only (B0) hO3 BR3 (KL3.out.len.trans KL0.out.len.symm) (by decide); replace M_x := M_x.only (B0) hO3 BR3 (KL3.out.len.trans KL0.out.len.symm) (by decide); replace M_lk := M_lk.only (B0) hO3 BR3 (KL3.out.len.trans KL0.out.len.symm) (by decide); replace E := Only.ext (E) hO3 (by omega); replace B1 := Blk.only (B1) hO3 (by omega); replace B2 := Blk.only (B2) hO3 (by omega); replace B3 := Blk.only (B3) hO3 (by omega); replace B0 : Blk W3 (g) 47 cu3 := BR3; clear BR3 hO3)) | fail)
        clear c1 f1
        refine FG.wp_region_flowTail 15 (fun w' => W3.heap.size ≤ w'.heap.size) (Ext W3) Ext (chK W3 [9] [14] [2, 5, 7, 8] []) [9] (by kernel_rfl) (by kernel_rfl) (by kernel_rfl) (fun _ _ h => Ext.size h) (Nat.le_refl _) (chK_early (Ext.drew _)) (Ext.drew _) (fun _ _ h k => h.trans k) ?_
        iterate 2 (refine FG.ftext_det rfl rfl ?_; apply Exists.intro; refine ⟨fun w hC => ?_, fun K hK => ?_⟩; (first | (go_simp; exact rfl) | (go_simp; exact ⟨rfl, rfl⟩) | (go_simp; exact trivial)); go_simp; refine hK _ ?_; clear hK K)
        refine FG.ftext_early (Ext W3) rfl rfl ?_; apply Exists.intro; refine ⟨fun w1 _ hE => ?_, fun K hK => ?_⟩; (have hc : w1.cell? ⟨wr.heap.size, 0, none⟩ = some (.int .i64 (a : Int)) := Blk.cell (B1.ext hE) 0; go_simp; first | exact ⟨rfl, rfl⟩ | exact rfl)
        go_simp; refine hK _ ?_; clear hK K
        iterate 2 (refine FG.ftext_det rfl rfl ?_; apply Exists.intro; refine ⟨fun w hC => ?_, fun K hK => ?_⟩; (first | (go_simp; exact rfl) | (go_simp; exact ⟨rfl, rfl⟩) | (go_simp; exact trivial)); go_simp; refine hK _ ?_; clear hK K)
        refine FG.ftext_early (Ext W3) rfl rfl ?_; apply Exists.intro; refine ⟨fun w1 _ hE => ?_, fun K hK => ?_⟩; (have hc : w1.cell? ⟨wr.heap.size, 0, none⟩ = some (.int .i64 (a : Int)) := Blk.cell (B1.ext hE) 0; go_simp; first | exact ⟨rfl, rfl⟩ | exact rfl)
        go_simp; refine hK _ ?_; clear hK K
        iterate 1 (refine FG.ftext_det rfl rfl ?_; apply Exists.intro; refine ⟨fun w hC => ?_, fun K hK => ?_⟩; (first | (go_simp; exact rfl) | (go_simp; exact ⟨rfl, rfl⟩) | (go_simp; exact trivial)); go_simp; refine hK _ ?_; clear hK K)
        refine FG.ftext_load_early (Ext W3) 47 _ rfl rfl rfl (g) (a * 12) (p.cells) rfl aggMass (fun w1 _ hE => Blk.at (n := 12) (B0.ext hE) (KL3.out.get (fun _ => rfl) HK3_0.out)) (fun K hK => ?_)
        go_simp; refine hK _ ?_; clear hK K
        refine FG.ftext_load_early (Ext W3) 47 _ rfl rfl rfl (g3) (0) (lk.cells) rfl aggMass (fun w1 _ hE => Blk.at (n := 12) (B3.ext hE) rfl) (fun K hK => ?_)
        go_simp; refine hK _ ?_; clear hK K
        refine FG.ftext_seq (fun v => ∃ (y_0 : Bool) (y_1 : Option Addr) (y_2 y_3 : Nat) (y_4 : Int) (y_5 : Bool) (y_6 : Option Addr) (y_7 y_8 : Nat) (y_9 : Int) (y_10 : Bool) (y_11 : Option Addr) (y_12 y_13 : Nat) (y_14 : Int) (y_15 : Bool) (y_16 : Option Addr) (y_17 y_18 : Nat) (y_19 : Int), v = .tuple #[.agg #[.bool y_0, .slice y_1 y_2 y_3, .int .i64 y_4, .bool y_5, .slice y_6 y_7 y_8, .int .i64 y_9, .bool y_10, .slice y_11 y_12 y_13, .int .i64 y_14, .bool y_15, .slice y_16 y_17 y_18, .int .i64 y_19], .int .i64 0]) (fun v W' => ∃ (y : XMass), v = .tuple #[.agg #[.bool y.s.neg, .slice y.s.limbs.A y.s.limbs.l.length y.s.limbs.c, .int .i64 y.s.exp, .bool y.w.neg, .slice y.w.limbs.A y.w.limbs.l.length y.w.limbs.c, .int .i64 y.w.exp, .bool y.c.neg, .slice y.c.limbs.A y.c.limbs.l.length y.c.limbs.c, .int .i64 y.c.exp, .bool y.a.neg, .slice y.a.limbs.A y.a.limbs.l.length y.a.limbs.c, .int .i64 y.a.exp], .int .i64 0] ∧ y.data = (doneM p.data (meetM p.data r.data).2.1).1 ∧ y.mine W' W3.heap.size ∧ Ext W3 W') rfl rfl ⟨_, false, none, 0, 0, 0, false, none, 0, 0, 0, false, none, 0, 0, 0, false, none, 0, 0, 0, rfl⟩ (fun v w1 w2 h hR => ?_) (fun w1 hC hJ hF Φ hΦ => ?_) (fun v hv K hK => ?_)
        · obtain ⟨y, hv0, f0_y, f1_y, jE⟩ := h
          exact ⟨y, hv0, f0_y, f1_y.ext hR, jE.trans hR⟩
        · have jE := hJ
          go_simp
          refine (mean_Done p lk _ (((N_q.ext jE) p HPM.out).ok) ((M_lk.ext jE).ok) (FP.out) (F_lk.out) (HT.out.ext (E.trans jE))).mono ?_
          rw [D_lk.out, G1.out]
          rintro e w2 ⟨y, rfl, hd0, hm0, hE⟩
          exact ⟨_, rfl, hΦ _ _ ⟨_, _, _, _, _, _, _, _, _, _, _, _, _, _, _, _, _, _, _, _, rfl⟩ (Nat.le_trans hC (Ext.size hE)) hE ⟨y, rfl, hd0, (XMass.mine.lower hm0 (Ext.size jE)), jE.trans hE⟩⟩
        obtain ⟨y_0, y_1, y_2, y_3, y_4, y_5, y_6, y_7, y_8, y_9, y_10, y_11, y_12, y_13, y_14, y_15, y_16, y_17, y_18, y_19, rfl⟩ := hv
        go_simp; refine hK _ ?_; clear hK K
        iterate 4 (refine FG.ftext_det rfl rfl ?_; apply Exists.intro; refine ⟨fun w hC => ?_, fun K hK => ?_⟩; (first | (go_simp; exact rfl) | (go_simp; exact ⟨rfl, rfl⟩) | (go_simp; exact trivial)); go_simp; refine hK _ ?_; clear hK K)
        refine FG.ftext_store 47 _ _ (fun W' => ∃ (y : XMass) (V0 : World), (.tuple #[.agg #[.bool y_0, .slice y_1 y_2 y_3, .int .i64 y_4, .bool y_5, .slice y_6 y_7 y_8, .int .i64 y_9, .bool y_10, .slice y_11 y_12 y_13, .int .i64 y_14, .bool y_15, .slice y_16 y_17 y_18, .int .i64 y_19], .int .i64 0] : Value) = .tuple #[.agg #[.bool y.s.neg, .slice y.s.limbs.A y.s.limbs.l.length y.s.limbs.c, .int .i64 y.s.exp, .bool y.w.neg, .slice y.w.limbs.A y.w.limbs.l.length y.w.limbs.c, .int .i64 y.w.exp, .bool y.c.neg, .slice y.c.limbs.A y.c.limbs.l.length y.c.limbs.c, .int .i64 y.c.exp, .bool y.a.neg, .slice y.a.limbs.A y.a.limbs.l.length y.a.limbs.c, .int .i64 y.a.exp], .int .i64 0] ∧ y.data = (doneM p.data (meetM p.data r.data).2.1).1 ∧ y.mine V0 W3.heap.size ∧ Ext W3 V0 ∧ Blk W' (g) 47 (cu3.take (a * 12) ++ y.cells ++ cu3.drop (a * 12 + y.cells.length)) ∧ Only V0 W' (g)) rfl rfl rfl (fun w1 hC hJ hF => ?_) (fun K hK => ?_)
        · obtain ⟨y, q_y, f0_y, f1_y, jE⟩ := hJ
          obtain ⟨rfl, rfl, rfl, rfl, rfl, rfl, rfl, rfl, rfl, rfl, rfl, rfl, rfl, rfl, rfl, rfl, rfl, rfl, rfl, rfl⟩ := eqMass (congrArg (fun v : Value => match v with | .tuple a => a.getD 0 undef | _ => v) q_y)
          exact ⟨g, a * 12, 47, cu3, y.cells, rfl, rfl, aggMass, (B0.ext jE), (KL3.out.fit HK3_0.out), rfl, fun w' BR hO => ⟨by show _ ≤ _; rw [hO.size]; exact hC, y, w1, rfl, f0_y, f1_y, jE, BR, hO⟩⟩
        go_simp; refine hK _ ?_; clear hK K
        refine FG.ftext_nil ?_
        rintro W4 _ ⟨y, V0, q_y, f0_y, f1_y, jE, jB0, jO0⟩ hF
        clear hF
        obtain ⟨rfl, rfl, rfl, rfl, rfl, rfl, rfl, rfl, rfl, rfl, rfl, rfl, rfl, rfl, rfl, rfl, rfl, rfl, rfl, rfl⟩ := eqMass (congrArg (fun v : Value => match v with | .tuple a => a.getD 0 undef | _ => v) q_y)
        obtain ⟨cu4, qc4⟩ : ∃ c, cu3.take (a * 12) ++ y.cells ++ cu3.drop (a * 12 + y.cells.length) = c := ⟨_, rfl⟩
        have KL4 : Hid (KL 12 XMass.cells cu4 ((q.set b x).set a y) c0) := Lib.hid (by have h9 := KL3.out.set (fun _ => rfl) HK3_0.out y; rwa [qc4] at h9)
        have HK4_0 : Hid (((q.set b x).set a y)[a]? = some y) := Lib.hid (List.getElem?_set_self (List.getElem?_eq_some_iff.1 HK3_0.out).1)
        have HK4_1 : Hid (((q.set b x).set a y)[b]? = some x) := Lib.hid (by rw [List.getElem?_set_ne (by have := HAB.out; omega)]; exact HK3_1.out)
        rw [qc4] at jB0
        have hz := E.size
        replace N_q : AllMine W4 w.heap.size q := ((N_q.ext jE).only (B0.ext jE) jO0 jB0 (KL4.out.len.trans KL3.out.len.symm) (by decide))
        replace M_x : x.mine W4 w.heap.size := ((M_x.ext jE).only (B0.ext jE) jO0 jB0 (KL4.out.len.trans KL3.out.len.symm) (by decide))
        replace M_lk : lk.mine W4 w.heap.size := ((M_lk.ext jE).only (B0.ext jE) jO0 jB0 (KL4.out.len.trans KL3.out.len.symm) (by decide))
        have M_y : y.mine W4 w.heap.size := XMass.mine.lower (f1_y.only (B0.ext jE) jO0 jB0 (KL4.out.len.trans KL3.out.len.symm) (by decide)) hz
        have D_y := Lib.hid f0_y
        have F_y : Hid (FineM y.data) := Lib.hid (by rw [f0_y]; exact doneM_fine _ _)
        replace B0 : Blk W4 (g) 47 cu4 := jB0
        replace B1 : Blk W4 (wr.heap.size) 37 (⟨(a : Int), (b : Int)⟩ : PMeeting).cells := (Blk.only (B1.ext jE) jO0 (by omega))
        replace B2 : Blk W4 (g2) 47 x.cells := (Blk.only (B2.ext jE) jO0 (by omega))
        replace B3 : Blk W4 (g3) 47 lk.cells := (Blk.only (B3.ext jE) jO0 (by omega))
        replace E : Ext w W4 := Only.ext (E.trans jE) jO0 (by omega)
        clear hz jE jB0 jO0 f0_y f1_y q_y
        simp only [List.drop_succ_cons, List.drop_zero]
        gi_wp2_with fail
        go_wp2_with fail
        have HGD : Hid (∀ z ∈ ((q.set b x).set a y), mayM z.data ∧ FineM z.data) := Lib.hid fun z hz => by
          rcases List.mem_or_eq_of_mem_set hz with hz | rfl
          · rcases List.mem_or_eq_of_mem_set hz with hz | rfl
            · exact HJ.out.good z hz
            · exact ⟨by rw [D_x.out]; exact HG.out.1, F_x.out⟩
          · exact ⟨by rw [D_y.out]; exact HG.out.2, F_y.out⟩
        go_roundw
        case rel => exact ⟨j + 1, cu4, ((q.set b x).set a y), by omega, rfl, by go_num, Lib.hid ⟨B0, KL4.out, (N_q.set M_x).set M_y, HGD.out, by rw [List.length_set, List.length_set]; exact HJ.out.len, meets_next (a := a) (b := b) HZ.out (by simp) (by simp) HP.out HQ.out HJ.out.eq G0.out G1.out D_x.out D_y.out, E, LOW⟩⟩
        case measure => simp [intOf]; omega
end Go.Proofs.YtgcbnagfdfgpnaaDoor
