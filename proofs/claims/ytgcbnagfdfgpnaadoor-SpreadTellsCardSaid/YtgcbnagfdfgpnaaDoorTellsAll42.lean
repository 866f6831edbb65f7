/- The law SpreadTells answers true from any state in which the library's table lies. Printed by gen_lawst.py. -/
import Derived.Test.YtgcbnagfdfgpnaaDoorTellsAll35
import Derived.Test.YtgcbnagfdfgpnaaDoorTellsAll36
import Derived.Test.YtgcbnagfdfgpnaaDoorTellsAll38
import Derived.Test.YtgcbnagfdfgpnaaDoorTellsAll40
import Derived.Test.YtgcbnagfdfgpnaaDoorTellsAll41
namespace Go.Hx
open Go.RowKit
/-- while what was answered is spoiled -/
structure TelI (W1 wr : World) (z : LX XMass) : Prop where
  ext : Ext W1 wr
  blk : z.l.length = 0 ∨ ∃ g cur, z.A = some ⟨g, 0, none⟩ ∧ Go.Hx.Blk wr g 47 cur ∧ KL 12 XMass.cells cur z.l z.c ∧ W1.heap.size ≤ g
  rows : ∀ x ∈ z.l, x.a.limbs.l.length = 0 ∨ ∃ g cur, x.a.limbs.A = some ⟨g, 0, none⟩ ∧ Blk wr g 33 cur ∧ x.a.limbs.l.length ≤ cur.length ∧ W1.heap.size ≤ g
theorem TelI.of {W1 wr : World} {z : LX XMass} (hE : Ext W1 wr) (ho : Go.Hx.Own wr W1.heap.size 47 12 XMass.cells (.slice z.A z.l.length z.c) z.l) (hm : AllMine wr W1.heap.size z.l) : TelI W1 wr z := by
  refine ⟨hE, ?_, fun x hx => ?_⟩
  · rcases Nat.eq_zero_or_pos z.l.length with h0 | h0
    · exact .inl h0
    · obtain ⟨g, hA⟩ := Go.Hx.Own.place h0 ho
      rw [hA] at ho
      obtain ⟨cur, h1, h2, h3⟩ := KL.of_own ho
      exact .inr ⟨g, cur, hA, h1, h2, h3⟩
  · rcases Nat.eq_zero_or_pos x.a.limbs.l.length with h0 | h0
    · exact .inl h0
    · obtain ⟨g, hA⟩ := Go.Hx.Own.place h0 (hm x hx).a.limbs
      have hm2 := (hm x hx).a.limbs
      rw [hA] at hm2
      obtain ⟨cur, h1, h2, h3, _, h5, _⟩ := Go.Hx.Own.blk hm2
      exact .inr ⟨g, cur, hA, h1, by omega, h2⟩
theorem TelI.ext2 {W1 w w' : World} {z : LX XMass} (h : TelI W1 w z) (hE : Ext w w') : TelI W1 w' z := by
  refine ⟨h.ext.trans hE, ?_, fun x hx => ?_⟩
  · rcases h.blk with h0 | ⟨g', c', hA, hb, hk, hl⟩
    · exact .inl h0
    · exact .inr ⟨g', c', hA, hb.ext hE, hk, hl⟩
  · rcases h.rows x hx with h0 | ⟨g', c', hA, hb, hk, hl⟩
    · exact .inl h0
    · exact .inr ⟨g', c', hA, hb.ext hE, hk, hl⟩
theorem TelI.cell {W1 wr : World} {zl : List XMass} {g zc k : Nat} {x : XMass} (h : TelI W1 wr ⟨zl, some ⟨g, 0, none⟩, zc⟩) (hx : zl[k]? = some x) : wr.cell? ⟨g, k * 12 + 9 + 1, none⟩ = some (.slice x.a.limbs.A x.a.limbs.l.length x.a.limbs.c) := by
  have hk := (List.getElem?_eq_some_iff.1 hx).1
  rcases h.blk with h0 | ⟨g', c', hA, hb, hK, hl⟩
  · simp only at h0; omega
  · injection hA with hA
    injection hA with hA
    subst hA
    rw [hb.cell]
    have h2 := hK.get (fun _ => rfl) hx
    have h3 := congrArg (fun l : List Value => l[10]?) h2
    simp only [List.getElem?_take_of_lt (show 10 < 12 by decide), List.getElem?_drop] at h3
    rw [show k * 12 + 9 + 1 = k * 12 + 10 from rfl, h3]
    rfl
theorem TelI.place {W1 wr : World} {z : LX XMass} (h : TelI W1 wr z) (hz : 0 < z.l.length) : ∃ g, z.A = some ⟨g, 0, none⟩ := by
  rcases h.blk with h0 | ⟨g', c', hA, _⟩
  · omega
  · exact ⟨g', hA⟩
theorem TelI.set {W1 wr : World} {z : LX XMass} (h : TelI W1 wr z) {g j : Nat} {cur : List Value} (hB : Blk wr g 33 cur) (hg : W1.heap.size ≤ g) (v : Value) : TelI W1 (wr.setCell ⟨g, j, none⟩ v) z := by
  refine ⟨h.ext.setCell' hg _, ?_, fun x hx => ?_⟩
  · rcases h.blk with h0 | ⟨g', c', hA, hb, hk, hl⟩
    · exact .inl h0
    · refine .inr ⟨g', c', hA, hb.far (fun e => ?_) _, hk, hl⟩
      subst e
      exact absurd (blk_type hb hB) (by decide)
  · rcases h.rows x hx with h0 | ⟨g', c', hA, hb, hk, hl⟩
    · exact .inl h0
    · by_cases e : g = g'
      · subst e
        exact .inr ⟨g, c'.set j v, hA, hb.set j _, by simpa using hk, hl⟩
      · exact .inr ⟨g', c', hA, hb.far (fun e2 => e e2.symm) _, hk, hl⟩
/-- a mass's dyads are whole: their limbs are limbs -/
structure TwiI (w W : World) (l : List XMass) (k : Nat) (v : Value) (o : List XMass) : Prop where
  own : Go.Hx.Own W w.heap.size 47 12 XMass.cells v o
  mine : AllMine W w.heap.size o
  data : o.map XMass.data = (l.take k).map XMass.data
  ext : Ext w W
end Go.Hx
namespace Go.Proofs.YtgcbnagfdfgpnaaDoor
open Go.RowKit Go.Hx
attribute [local go_sem] XDyad.cells XMass.cells PMeeting.cells detUpon undIn
theorem stoodMeeting : Tryd.prog.stoodInHeld 37 = false := by kernel_rfl
theorem underMeeting : Tryd.prog.underlying 37 = some (.struct (Tryd.prog.fieldsOf 37)) := by kernel_rfl
theorem eqAsMeeting (w : World) (x y : PMeeting) : (Op.equalIn 10000 37 (.agg #[.int .i64 x.asks, .int .i64 x.asked]) (.agg #[.int .i64 y.asks, .int .i64 y.asked])).run Tryd.prog w = .ok (decide (x = y)) w := by
  rw [show (10000 : Nat) = 9999 + 1 from rfl, run_equalIn_struct w 9999 37 _ _ underMeeting stoodMeeting]
  simp only [Program.fieldsOf, Tryd.underlying37]
  simp [go_sem, Tryd.underlying3]
  obtain ⟨x0, x1⟩ := x
  obtain ⟨y0, y1⟩ := y
  simp only [PMeeting.mk.injEq]
  repeat' split
  all_goals simp_all
theorem neqMeeting (w : World) (x y : PMeeting) : (binOp .neq 37 (.agg #[.int .i64 x.asks, .int .i64 x.asked]) (.agg #[.int .i64 y.asks, .int .i64 y.asked])).run Tryd.prog w = .ok (.bool (!decide (x = y))) w := by
  rw [run_neq_struct, eqAsMeeting]; rfl
theorem eqlMeeting (w : World) (x y : PMeeting) : (binOp .eql 37 (.agg #[.int .i64 x.asks, .int .i64 x.asked]) (.agg #[.int .i64 y.asks, .int .i64 y.asked])).run Tryd.prog w = .ok (.bool (decide (x = y))) w := by
  rw [run_eql_struct, eqAsMeeting]; rfl

set_option maxRecDepth 100000 in
set_option maxHeartbeats 1000000 in
theorem spreadTells_any (x : LX XMass) (n : Int) (m : LX PMeeting) (w : World) (hx : x.ok w w.heap.size XMass.cells) (hxs : ∀ z ∈ x.l, z.ok w w.heap.size) (lx : ∀ z ∈ x.l, LimM z.data) (hm : m.ok w w.heap.size PMeeting.cells) (hT : Tab w) :
    Calls Tryd.prog 5 #[.slice x.A x.l.length x.c, .int .i64 n, .slice m.A m.l.length m.c] w fun e w' => e = .returned (.bool true) ∧ Ext w w' := by
  have HM := Lib.hid hm
  have HT := Lib.hid hT
  have HXO := Lib.hid hx
  have HXS := Lib.hid hxs
  have LXX := Lib.hid lx
  obtain ⟨l, A, c⟩ := x
  have HX := Lib.hid hx.1
  clear hm hT hxs lx hx
  dsimp only at *
  go_enter Tryd.func5, Tryd.ntmps5
  go_wp2_with fail
  refine (ref30_Great ⟨l, A, c⟩ _ HXO.out HXS.out).mono ?_
  rintro e w1 ⟨bg, rfl, hbg, hE1⟩
  cases bg with
  | true =>
    go_wp2_with fail
    go_ret
    exact ⟨rfl, hE1⟩
  | false =>
  have HG := Lib.hid (hbg rfl)
  clear hbg
  dsimp only at HG
  by_cases h100 : (100 : Int) < (m.l.length : Int)
  · go_wp2_with fail
    go_ret
    exact ⟨rfl, hE1⟩
  have HML : Hid (m.l.length ≤ 100) := Lib.hid (by omega)
  have HI0 : Hid (TwiI w w1 l 0 (.slice none 0 0) []) := Lib.hid ⟨Go.Hx.Own.nil _ _ _ _ _, AllMine.nil _ _, rfl, hE1⟩
  clear hE1
  go_wp2_with fail
  go_loopw [7, 8] (fun v i wr => ∃ (k : Nat) (o : List XMass), k ≤ l.length ∧ i = .int .i64 k ∧ Hid (TwiI w wr l k v o)) (fun _ i _ => l.length - (intOf i).toNat)
  case atStart => exact ⟨0, [], by omega, rfl, HI0⟩
  case round =>
    obtain ⟨k, o, hk, rfl, HI⟩ := hrel
    clear HI0
    obtain ⟨A0, c0, rfl, hok0⟩ := HI.out.own.form
    clear hok0
    by_cases hlt : k < l.length
    · obtain ⟨z, hz⟩ : ∃ z, l[k]? = some z := ⟨_, List.getElem?_eq_getElem hlt⟩
      have HZ := Lib.hid hz
      have HZM := Lib.hid (List.mem_of_getElem? hz)
      obtain ⟨b1, o1, rfl, hb1, hrow⟩ := Sl.row (size := 12) (fun _ => rfl) HX.out hz
      have R_z : Hid (∀ W, Ext w W → RowAt W b1 (o1 + k * 12) z.cells) := Lib.hid fun W hW => hrow.below hW.below hb1
      have hki : (k : Int) < (l.length : Int) := by omega
      have hk20 : k < 20 := by have := HG.out.1; omega
      have hok := Lib.hid ((HXS.out z HZM.out).ext HI.out.ext)
      have HSM : Hid (z.data.small) := Lib.hid (HG.out.2 z HZM.out)
      have hol : o.length = k := by have := congrArg List.length HI.out.data; simpa [Nat.min_eq_left (Nat.le_of_lt hlt)] using this
      have HOL := Lib.hid hol
      clear hz hb1 hrow hol
      go_wp2_with (first | ((with_reducible refine wpl_load 47 (.tmp 42) ?_ ?_ b1 (o1 + k * 12) z.cells ?_ ?_ ?_ ?_); (exact rfl); (exact rfl); (exact rfl); (exact aggMass); (exact R_z.out _ HI.out.ext)) | fail)
      refine (ref06_Twin z _ hok.out HSM.out).mono ?_
      rintro e W3 ⟨y, rfl, hyd, hym, hE⟩
      have HYD := Lib.hid hyd
      have HYM := Lib.hid (hym.lower HI.out.ext.size)
      have HOW := Lib.hid (HI.out.own.ext hE)
      have HE3 := Lib.hid (HI.out.ext.trans hE)
      have HAM := Lib.hid (HI.out.mine.ext hE)
      clear hyd hym hE
      go_wp2_with (at_builtin; go_must (refine app_one elMass rfl (.tmp 39) (.tmp 45) rfl W3 w.heap.size XMass.cells _ o y rfl HOW.out _ 1 rfl (by simp) rfl rfl (by have := HOL.out; omega) (by have := HOL.out; unfold maxLen; omega) HE3.out.size ?_); intro v' w4 hown' hgrow hat)
      have HI2 : Hid (TwiI w w4 l (k + 1) v' (o ++ [y])) := Lib.hid ⟨hown', (HAM.out.kept HOW.out hgrow (by decide)).snoc (HYM.out.kept HOW.out hgrow (by decide)), by rw [List.map_append, HI.out.data, take_snoc HZ.out, List.map_append]; simp [HYD.out], Own.below HOW.out HE3.out hgrow (Nat.le_refl _) HE3.out.size⟩
      clear hown' hgrow hat
      go_roundw
      case rel => exact ⟨k + 1, o ++ [y], by omega, by go_num, HI2⟩
      case measure => simp [intOf]; omega
    · have hkl : k = l.length := by omega
      have hki : ¬ (k : Int) < (l.length : Int) := by omega
      have HOD : Hid (o.map XMass.data = l.map XMass.data) := Lib.hid (by have := HI.out.data; rwa [hkl, List.take_length] at this)
      have HOW := Lib.hid HI.out.own
      have HOM := Lib.hid HI.out.mine
      have HE2 := Lib.hid HI.out.ext
      clear hkl hlt hk HI h100
      have HLO : Hid (∀ z ∈ o, LimM z.data) := Lib.hid fun z hz => by
        have : z.data ∈ l.map XMass.data := by rw [← HOD.out]; exact List.mem_map_of_mem hz
        obtain ⟨z', hz', e⟩ := List.mem_map.1 this
        rw [← e]; exact LXX.out z' hz'
      obtain ⟨ml, mA, mc⟩ := m
      dsimp only at *
      go_wp2_with (at_builtin; go_must (refine app_many elMeet rfl (.tmp 47) (.tmp 48) rfl (wr.alloc _) _ PMeeting.cells _ [] ml rfl (own_new wr _ (by simp)) mA mc rfl ((HM.out.ext HE2.out).ext (Ext.alloc _ _)).1 (fun _ => rfl) (fun _ => rfl) (by have := HML.out; rw [List.length_nil]; omega) (by have := HML.out; rw [List.length_nil]; unfold maxLen; omega) (by simp) ?_); intro v' w4 hown' hgrow hat)
      rw [List.nil_append] at hown'
      obtain ⟨A9, c9, rfl, hok9⟩ := hown'.form
      have hE4 := ext_grown rfl (by simp) hgrow
      have HE4 := Lib.hid (HE2.out.trans hE4)
      have HO4 : Hid (LX.ok w4 w4.heap.size XMass.cells ⟨o, A0, c0⟩) := Lib.hid (HOW.out.ext hE4).ok
      have HOZ4 : Hid (∀ z ∈ o, z.ok w4 w4.heap.size) := Lib.hid fun z hz => ((HOM.out.ext hE4) z hz).ok
      have HM9 : Hid (LX.ok w4 w4.heap.size PMeeting.cells ⟨ml, A9, c9⟩) := Lib.hid hok9
      have HX4 : Hid (LX.ok w4 w4.heap.size XMass.cells ⟨l, A, c⟩) := Lib.hid (HXO.out.ext HE4.out)
      have HM4 : Hid (LX.ok w4 w4.heap.size PMeeting.cells ⟨ml, mA, mc⟩) := Lib.hid (HM.out.ext HE4.out)
      have HXS4 : Hid (∀ z ∈ l, z.ok w4 w4.heap.size) := Lib.hid fun z hz => (HXS.out z hz).ext HE4.out
      clear hown' hgrow hat hok9 hE4 HOW HOM HE2 HM HXO HXS HX
      obtain ⟨T, hT⟩ : ∃ T, meetP (l.map XMass.data) ml = T := ⟨_, rfl⟩
      have HTT := Lib.hid hT
      obtain ⟨J, hJ⟩ : ∃ T, joinsP n ml = T := ⟨_, rfl⟩
      have HJ := Lib.hid hJ
      obtain ⟨R, hR⟩ : ∃ T, roundsP n ml = T := ⟨_, rfl⟩
      have HR := Lib.hid hR
      clear hT hJ hR
      obtain ⟨tl, te⟩ := T
      obtain ⟨j0, je⟩ := J
      obtain ⟨r0, re⟩ := R
      go_wp2_with fail
      refine (spread_Meet ⟨o, A0, c0⟩ ⟨ml, A9, c9⟩ _ HO4.out HOZ4.out HM9.out HLO.out (HT.out.ext HE4.out)).mono ?_
      dsimp only
      rw [HOD.out, HTT.out]
      rintro e w5 ⟨⟨zl, zA, zc⟩, rfl, hzd, hzo, hzm, hE5⟩
      dsimp only at hzd hzo hzm
      have HZD := Lib.hid hzd
      have HZI : Hid (TelI w4 w5 ⟨zl, zA, zc⟩) := Lib.hid (TelI.of hE5 hzo hzm)
      have HZ5 : Hid (LX.ok w5 w5.heap.size XMass.cells ⟨zl, zA, zc⟩) := Lib.hid hzo.ok
      have HZZ5 : Hid (∀ z ∈ zl, z.ok w5 w5.heap.size) := Lib.hid fun z hz => (hzm z hz).ok
      have HE5 := Lib.hid hE5
      clear hzd hzo hzm hE5
      go_wp2_with fail
      refine (ref30_Meet ⟨l, A, c⟩ ⟨ml, mA, mc⟩ _ (HX4.out.ext HE5.out) (fun z hz => (HXS4.out z hz).ext HE5.out) (HM4.out.ext HE5.out) LXX.out).mono ?_
      dsimp only
      rw [HTT.out]
      rintro e w6 ⟨⟨yl, yA, yc⟩, rfl, hyd, hyo, hym, hE6⟩
      dsimp only at hyd hyo hym
      have HYD := Lib.hid hyd
      have HY6 : Hid (LX.ok w6 w6.heap.size XMass.cells ⟨yl, yA, yc⟩) := Lib.hid hyo.ok
      have HYZ6 : Hid (∀ z ∈ yl, z.ok w6 w6.heap.size) := Lib.hid fun z hz => (hym z hz).ok
      have HE6 := Lib.hid hE6
      clear hyd hyo hym hE6
      go_wp2_with fail
      refine (spread_Joins n ⟨ml, A9, c9⟩ _ (HM9.out.ext (HE5.out.trans HE6.out))).mono ?_
      dsimp only
      rw [HJ.out]
      rintro e w7 ⟨rfl, hE7⟩
      have HE7 := Lib.hid (HE6.out.trans hE7)
      have HF7 := Lib.hid hE7
      clear hE7
      go_wp2_with fail
      refine (ref30_Joins n ⟨ml, mA, mc⟩ _ (HM4.out.ext (HE5.out.trans HE7.out))).mono ?_
      dsimp only
      rw [HJ.out]
      rintro e w8 ⟨rfl, hE8⟩
      have HE8 := Lib.hid (HE7.out.trans hE8)
      have HF8 := Lib.hid (HF7.out.trans hE8)
      clear hE8
      go_wp2_with fail
      refine (spread_Rounds n ⟨ml, A9, c9⟩ _ (HM9.out.ext (HE5.out.trans HE8.out))).mono ?_
      dsimp only
      rw [HR.out]
      rintro e w9 ⟨rfl, hE9⟩
      have HE9 := Lib.hid (HE8.out.trans hE9)
      have HF9 := Lib.hid (HF8.out.trans hE9)
      clear hE9
      go_wp2_with fail
      refine (ref30_Rounds n ⟨ml, mA, mc⟩ _ (HM4.out.ext (HE5.out.trans HE9.out))).mono ?_
      dsimp only
      rw [HR.out]
      rintro e w10 ⟨rfl, hE10⟩
      have HE10 := Lib.hid (HE9.out.trans hE10)
      have HF10 := Lib.hid (HF9.out.trans hE10)
      clear hE10
      go_wp2_with fail
      refine (ref30_SameMasses ⟨zl, zA, zc⟩ ⟨yl, yA, yc⟩ _ (HZ5.out.ext HE10.out) (fun z hz => (HZZ5.out z hz).ext HE10.out) (HY6.out.ext HF10.out) (fun z hz => (HYZ6.out z hz).ext HF10.out)).mono ?_
      dsimp only
      rw [decide_eq_true (show zl.map XMass.data = yl.map XMass.data by rw [HZD.out, HYD.out])]
      rintro e w11 ⟨rfl, hE11⟩
      have HS0 : Hid (TelI w4 w11 ⟨zl, zA, zc⟩) := Lib.hid (HZI.out.ext2 (HE10.out.trans hE11))
      have HZL : Hid (zl.length ≤ maxLen ∧ ∀ z ∈ zl, z.a.limbs.l.length ≤ maxLen) := Lib.hid ⟨Nat.le_trans HZ5.out.2.1 HZ5.out.2.2, fun z hz => Nat.le_trans (HZZ5.out z hz).a.limbs.2.1 (HZZ5.out z hz).a.limbs.2.2⟩
      clear hE11 HZ5 HZZ5 HY6 HYZ6 HZI HE5 HE6 HE7 HE8 HE9 HE10 HF7 HF8 HF9 HF10 HZD HYD HTT HJ HR
      go_wp2_with fail
      go_loopw [23, 24] (fun i _ wr => ∃ k : Nat, k ≤ zl.length ∧ i = .int .i64 k ∧ Hid (TelI w4 wr ⟨zl, zA, zc⟩)) (fun i _ _ => zl.length - (intOf i).toNat)
      case atStart => exact ⟨0, by omega, rfl, HS0⟩
      case round =>
        obtain ⟨k, hk, rfl, HI⟩ := hrel
        clear HS0
        by_cases hlt : k < zl.length
        · obtain ⟨x, hx⟩ : ∃ x, zl[k]? = some x := ⟨_, List.getElem?_eq_getElem hlt⟩
          have HX := Lib.hid hx
          have HXM := Lib.hid (List.mem_of_getElem? hx)
          have hki : (k : Int) < (zl.length : Int) := by omega
          have hkm : zl.length ≤ 9223372036854775807 := by have := HZL.out.1; unfold maxLen at this; omega
          have hql : x.a.limbs.l.length ≤ 9223372036854775807 := by have := HZL.out.2 x HXM.out; unfold maxLen at this; omega
          obtain ⟨g, hg⟩ := HI.out.place (by show 0 < zl.length; omega)
          dsimp only at hg
          subst hg
          clear hx
          go_wp2_with fail
          go_loopw [24] (fun i wr => ∃ j : Nat, j ≤ x.a.limbs.l.length ∧ i = .int .i64 j ∧ Hid (TelI w4 wr ⟨zl, some ⟨g, 0, none⟩, zc⟩)) (fun i _ => x.a.limbs.l.length - (intOf i).toNat)
          case atStart => exact ⟨0, by omega, rfl, HI⟩
          case round =>
            obtain ⟨j, hj, rfl, HI⟩ := hrel
            have hc := HI.out.cell HX.out
            by_cases hlt2 : j < x.a.limbs.l.length
            · have hji : (j : Int) < (x.a.limbs.l.length : Int) := by omega
              obtain ⟨g2, cur, hA, hBg, hlen, hge⟩ := (HI.out.rows x HXM.out).resolve_left (by omega)
              rw [hA] at hc
              have hjc : j < cur.length := by omega
              obtain ⟨u, hu⟩ : ∃ u, cur[j]? = some u := ⟨_, List.getElem?_eq_getElem hjc⟩
              have hcg : wr.cell? ⟨g2, j, none⟩ = some u := by rw [hBg.cell j]; exact hu
              have hfg : wr.frozen? ⟨g2, j, none⟩ = false := hBg.free j
              have HI2 : Hid (TelI w4 (wr.setCell ⟨g2, j, none⟩ (.int .u32 7)) ⟨zl, some ⟨g, 0, none⟩, zc⟩) := Lib.hid (HI.out.set hBg hge _)
              clear hA hBg hlen hge hjc hu
              go_wp2_with fail
              go_roundw
              case rel => exact ⟨j + 1, by omega, by go_num, HI2⟩
              case measure => simp [intOf]; omega
            · have hji : ¬ (j : Int) < (x.a.limbs.l.length : Int) := by omega
              go_wp2_with fail
              go_roundw
              case rel => exact ⟨k + 1, by omega, by go_num, HI⟩
              case measure => simp [intOf]; omega
        · have hki : ¬ (k : Int) < (zl.length : Int) := by omega
          have HE : Hid (Ext w4 wr) := Lib.hid HI.out.ext
          clear HI
          go_wp2_with fail
          go_loopw [25] (fun i wr => ∃ k : Nat, k ≤ ml.length ∧ i = .int .i64 k ∧ Hid (Ext w4 wr)) (fun i _ => ml.length - (intOf i).toNat)
          case atStart => exact ⟨0, by omega, rfl, HE⟩
          case round =>
            obtain ⟨k, hk, rfl, HE⟩ := hrel
            by_cases hlt : k < ml.length
            · obtain ⟨a, ha⟩ : ∃ a, ml[k]? = some a := ⟨_, List.getElem?_eq_getElem hlt⟩
              have hki : (k : Int) < (ml.length : Int) := by omega
              have hk100 : ml.length ≤ 100 := HML.out
              obtain ⟨b1, o1, rfl, hb1, r1⟩ := Sl.row (size := 2) (fun _ => rfl) (HM9.out.ext HE.out).1 ha
              obtain ⟨b2, o2, rfl, hb2, r2⟩ := Sl.row (size := 2) (fun _ => rfl) (HM4.out.ext HE.out).1 ha
              have e1 : ∀ W, (binOp .neq 37 (.agg #[.int .i64 a.asks, .int .i64 a.asked]) (.agg #[.int .i64 a.asks, .int .i64 a.asked])).run Tryd.prog W = .ok (.bool false) W := fun W => by rw [neqMeeting]; simp
              have g0 := r1 0 _ rfl
              have g1 := r1 1 _ rfl
              have h0 := r2 0 _ rfl
              have h1 := r2 1 _ rfl
              simp only [Nat.add_zero] at g0 g1 h0 h1
              clear ha hb1 hb2 r1 r2
              go_wp2
              go_quiet (fail)
              go_wp2
              go_roundw
              case rel => exact ⟨k + 1, by omega, by go_num, Lib.hid (HE.out.drewN' _)⟩
              case measure => simp [intOf]; omega
            · have hki : ¬ (k : Int) < (ml.length : Int) := by omega
              go_wp2_with fail
              refine (ref30_SameMasses ⟨o, A0, c0⟩ ⟨l, A, c⟩ _ (HO4.out.ext HE.out) (fun z hz => (HOZ4.out z hz).ext HE.out) (HX4.out.ext HE.out) (fun z hz => (HXS4.out z hz).ext HE.out)).mono ?_
              dsimp only
              rw [decide_eq_true HOD.out]
              rintro e w12 ⟨rfl, hE12⟩
              have HE12 := Lib.hid (HE4.out.trans (HE.out.trans hE12))
              clear hE12
              go_wp2_with fail
              go_ret
              exact ⟨rfl, HE12.out⟩
end Go.Proofs.YtgcbnagfdfgpnaaDoor
