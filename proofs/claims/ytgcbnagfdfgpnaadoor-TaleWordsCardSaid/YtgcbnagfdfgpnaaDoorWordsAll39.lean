/- Dyads: the same, copies, too great: parts of the texts of seat Try, cut out by gen_smalld.py. -/
import Derived.Test.YtgcbnagfdfgpnaaDoorWordsAll6
import Derived.Test.YtgcbnagfdfgpnaaDoorWordsAll20
import Derived.Test.YtgcbnagfdfgpnaaDoorWordsAll16
import Derived.Test.YtgcbnagfdfgpnaaDoorWordsAll28
namespace Go.Hx
theorem own_new {α : Type} {e size : Nat} {enc : α → List Value} (W : World) (g : Nat) (hg : g = W.heap.size) : Own (W.alloc (.cells #[] e)) W.heap.size e size enc (.slice (some ⟨g, 0, none⟩) 0 0) [] := by
  subst hg
  exact World.ownsRow_lit W #[] 0 (Nat.le_refl _) (by simp [maxLen]) (by simp)
theorem ext_grown {W w1 : World} {e g : Nat} {v : Value} (hv : v = .slice (some ⟨g, 0, none⟩) 0 0) (hg : g = W.heap.size) (h : (W.alloc (.cells #[] e)).grownBy w1 v.ownBlock) : Ext W w1 := by
  subst hv
  exact Ext.of (Own.below (own_new (size := 1) (enc := fun _ : Nat => []) W g hg) (Ext.alloc W _).below h (Nat.le_refl _) (by simp))
/-- an answer: if it is no, it is so -/
def Gr (Φ : Prop) (w : World) (e : Ending) (w' : World) : Prop := ∃ b, e = .returned (.bool b) ∧ (b = false → Φ) ∧ Ext w w'
theorem Gr.yes {Φ : Prop} {w w' : World} {v : Value} (hv : v = .bool true) (h : Ext w w') : Gr Φ w (.returned v) w' := ⟨true, by rw [hv], (fun h => by cases h), h⟩
theorem Gr.no {Φ : Prop} {w w' : World} {v : Value} (hv : v = .bool false) (hΦ : Φ) (h : Ext w w') : Gr Φ w (.returned v) w' := ⟨false, by rw [hv], fun _ => hΦ, h⟩
end Go.Hx
namespace Go.Proofs.YtgcbnagfdfgpnaaDoor
open Go.RowKit Go.Hx
set_option maxRecDepth 100000 in
set_option maxHeartbeats 400000 in
theorem ref01_Same (x y : LX Nat) (w : World) (hx : x.ok w w.heap.size cU32) (hy : y.ok w w.heap.size cU32) :
    Calls Tryd.prog 41 #[.slice x.A x.l.length x.c, .slice y.A y.l.length y.c] w fun e w' => e = .returned (.bool (decide (x.l = y.l))) ∧ ∃ j, w' = w.drewN j := by
  obtain ⟨l, A, c⟩ := x
  obtain ⟨m, B, d⟩ := y
  obtain ⟨hx, hx1, hx2⟩ := hx
  obtain ⟨hy, hy1, hy2⟩ := hy
  dsimp only at *
  unfold maxLen at hx2 hy2
  have HX := Lib.hid hx
  have HY := Lib.hid hy
  clear hx hy
  by_cases hne : l.length = m.length
  · have h0 : ((l.length : Int) != (m.length : Int)) = false := by simp [hne]
    have HN := Lib.hid hne
    clear hne
    go_enter Tryd.func41, Tryd.ntmps41
    go_wp2
    go_loopw [5] (fun i wr => ∃ k : Nat, k ≤ l.length ∧ i = .int .i64 k ∧ Hid (l.take k = m.take k) ∧ ∃ j, wr = w.drewN j) (fun i _ => l.length - (intOf i).toNat)
    case atStart => exact ⟨0, Nat.zero_le _, rfl, rfl, 0, rfl⟩
    case round =>
      obtain ⟨k, hk, rfl, ht, j, rfl⟩ := hrel
      by_cases hlt : k < l.length
      · obtain ⟨a, ha⟩ : ∃ a, l[k]? = some a := ⟨_, List.getElem?_eq_getElem hlt⟩
        obtain ⟨b, hb⟩ : ∃ b, m[k]? = some b := ⟨_, List.getElem?_eq_getElem (by have := HN.out; omega)⟩
        obtain ⟨b1, o1, rfl, hb1, r1⟩ := Sl.row (size := 1) (fun _ => rfl) HX.out ha
        obtain ⟨b2, o2, rfl, hb2, r2⟩ := Sl.row (size := 1) (fun _ => rfl) HY.out hb
        have g0 := r1 0 _ rfl
        have h0 := r2 0 _ rfl
        simp only [Nat.mul_one, Nat.add_zero] at g0 h0
        have HA := Lib.hid ha
        have HB := Lib.hid hb
        clear ha hb r1 r2
        have hl : (k:Int) < (l.length : Int) := by omega
        have hm : (k:Int) < (m.length : Int) := by have := HN.out; omega
        by_cases q0 : a = b
        · have e0 : ((a : Int) != (b : Int)) = false := by rw [bne_eq_false_iff_eq]; omega
          have HQ := Lib.hid (show a = b by exact q0)
          clear q0
          go_wp2
          go_quiet (fail)
          go_wp2
          go_roundw
          case rel => exact ⟨k + 1, by omega, by go_num, take_eq_succ HA.out HB.out HQ.out ht, _, rfl⟩
          case measure => simp [intOf]; omega
        · have e0 : ((a : Int) != (b : Int)) = true := by rw [bne_iff_ne]; omega
          have HQ := Lib.hid (show a ≠ b by rintro rfl; exact q0 rfl)
          clear q0
          go_wp2
          go_quiet (fail)
          go_wp2
          go_ret
          exact ⟨ret_bool (decide_eq_false (ne_of_get HA.out HB.out HQ.out)).symm, _, World.drewN_drewN _ _ _⟩
      · have hk' : k = l.length := by omega
        go_wp2
        go_ret
        have hfin : l = m := by
          have := ht.out
          rwa [hk', List.take_length, HN.out, List.take_length] at this
        exact ⟨ret_bool (decide_eq_true hfin).symm, _, rfl⟩
  · have h0 : ((l.length : Int) != (m.length : Int)) = true := by simp; omega
    have HN := Lib.hid hne
    clear hne
    go_enter Tryd.func41, Tryd.ntmps41
    go_wp2
    go_ret
    exact ⟨ret_bool (decide_eq_false (fun h => HN.out (by rw [h]))).symm, 0, rfl⟩
theorem ref02_Same_iff (x y : XDyad) : x.data = y.data ↔ x.neg = y.neg ∧ x.exp = y.exp ∧ x.limbs.l = y.limbs.l := by
  constructor
  · intro h
    simp only [XDyad.data, PDyad.mk.injEq] at h
    obtain ⟨h0, h1, h2⟩ := h
    exact ⟨h0, h2, h1⟩
  · rintro ⟨h0, h1, h2⟩
    simp only [XDyad.data, PDyad.mk.injEq]
    exact ⟨h0, h2, h1⟩
set_option maxRecDepth 100000 in
set_option maxHeartbeats 1000000 in
theorem ref02_Same (x y : XDyad) (w : World) (hx : x.ok w w.heap.size) (hy : y.ok w w.heap.size) :
    Calls Tryd.prog 13 #[.agg #[.bool x.neg, .slice x.limbs.A x.limbs.l.length x.limbs.c, .int .i64 x.exp], .agg #[.bool y.neg, .slice y.limbs.A y.limbs.l.length y.limbs.c, .int .i64 y.exp]] w fun e w' => e = .returned (.bool (decide (x.data = y.data))) ∧ Ext w w' := by
  have HI := Lib.hid (ref02_Same_iff x y)
  by_cases q0 : x.neg = y.neg
  · have e0 : (x.neg == y.neg) = true := by simp [q0]
    have HQ0 := Lib.hid q0
    clear q0
    by_cases q1 : x.exp = y.exp
    · have e1 : (x.exp == y.exp) = true := by simp [q1]
      have HQ1 := Lib.hid q1
      clear q1
      go_enter Tryd.func13, Tryd.ntmps13
      go_wp2_with fail
      refine (ref01_Same x.limbs y.limbs _ (hx.limbs.ext (by repeat (first | exact Ext.refl _ | assumption | refine Ext.alloc' ?_ _ | refine Ext.drewN' ?_ _ | refine Ext.drew' ?_ | (refine Ext.trans ?_ (by assumption))))) (hy.limbs.ext (by repeat (first | exact Ext.refl _ | assumption | refine Ext.alloc' ?_ _ | refine Ext.drewN' ?_ _ | refine Ext.drew' ?_ | (refine Ext.trans ?_ (by assumption)))))).mono ?_
      rintro e w2 ⟨rfl, j2, rfl⟩
      go_wp2_with fail
      go_ret
      exact ⟨ret_bool (decide_eq_decide.2 ⟨fun h => HI.out.2 ⟨HQ0.out, HQ1.out, h⟩, fun h => (HI.out.1 h).2.2⟩), (by repeat (first | exact Ext.refl _ | assumption | refine Ext.alloc' ?_ _ | refine Ext.drewN' ?_ _ | refine Ext.drew' ?_ | (refine Ext.trans ?_ (by assumption))))⟩
    · have e1 : (x.exp == y.exp) = false := by simpa using q1
      have HQ1 := Lib.hid q1
      clear q1
      go_enter Tryd.func13, Tryd.ntmps13
      go_wp2_with fail
      go_ret
      exact ⟨ret_bool (decide_eq_false (fun h => HQ1.out (HI.out.1 h).2.1)).symm, (by repeat (first | exact Ext.refl _ | assumption | refine Ext.alloc' ?_ _ | refine Ext.drewN' ?_ _ | refine Ext.drew' ?_ | (refine Ext.trans ?_ (by assumption))))⟩
  · have e0 : (x.neg == y.neg) = false := by simpa using q0
    have HQ0 := Lib.hid q0
    clear q0
    go_enter Tryd.func13, Tryd.ntmps13
    go_wp2_with fail
    go_ret
    exact ⟨ret_bool (decide_eq_false (fun h => HQ0.out (HI.out.1 h).1)).symm, (by repeat (first | exact Ext.refl _ | assumption | refine Ext.alloc' ?_ _ | refine Ext.drewN' ?_ _ | refine Ext.drew' ?_ | (refine Ext.trans ?_ (by assumption))))⟩
set_option maxRecDepth 100000 in
theorem dyad_Twin (x : XDyad) (w : World) (hx : x.ok w w.heap.size) (hs : x.data.small) :
    Calls Tryd.prog 35 #[.agg #[.bool x.neg, .slice x.limbs.A x.limbs.l.length x.limbs.c, .int .i64 x.exp]] w fun e w' => ∃ y : XDyad, e = .returned (.agg #[.bool y.neg, .slice y.limbs.A y.limbs.l.length y.limbs.c, .int .i64 y.exp]) ∧ y.data = x.data ∧ y.mine w' w.heap.size ∧ Ext w w' := by
  go_enter Tryd.func35, Tryd.ntmps35
  go_wp2_with fail
  refine (clone_u32 x.limbs _ (hx.limbs.ext (by repeat (first | exact Ext.refl _ | assumption | refine Ext.alloc' ?_ _ | refine Ext.drewN' ?_ _ | refine Ext.drew' ?_ | (refine Ext.trans ?_ (by assumption))))) hs).mono ?_
  rintro e w1 ⟨⟨l, A, c⟩, rfl, rfl, _, hown, hE1⟩
  have B0 : Blk w1 (w.heap.size) 24 [.bool x.neg, .slice x.limbs.A x.limbs.l.length x.limbs.c, .int .i64 x.exp] := Blk.ext (by repeat (first | assumption | exact Blk.new (by simp) | refine Blk.alloc ?_ _ | refine Blk.drewN ?_ _)) hE1
  have B1 : Blk w1 (w.heap.size + 1) 24 [.bool false, .slice none 0 0, .int .i64 0] := Blk.ext (by repeat (first | assumption | exact Blk.new (by simp) | refine Blk.alloc ?_ _ | refine Blk.drewN ?_ _)) hE1
  obtain ⟨c0, f0⟩ := B0.rules
  obtain ⟨c1, f1⟩ := B1.rules
  go_wp2_with (first | ((with_reducible refine wpl_load 24 (.tmp 1) ?_ ?_ (w.heap.size) 0 [.bool x.neg, .slice A x.limbs.l.length c, .int .i64 x.exp] ?_ ?_ ?_ ?_); (exact rfl); (exact rfl); (exact rfl); (exact aggDyad); (exact (Blk.set B0 1 _).row)) | ((with_reducible refine wpl_store 24 (.tmp 2) (.tmp 7) ?_ ?_ (w.heap.size + 1) 0 24 [.bool false, .slice none 0 0, .int .i64 0] [.bool x.neg, .slice A x.limbs.l.length c, .int .i64 x.exp] ?_ ?_ ?_ ?_ ?_ ?_ ?_); (exact rfl); (exact rfl); (exact rfl); (exact rfl); (exact aggDyad); (exact (Blk.far B1 (by simp) _)); (exact by simp); (exact rfl); (intro w2 BR hO)) | fail)
  have hS : Shape (fun e => e = 24) w.heap.size w1 w2 := Shape.only (T := fun e => e = 24) ((Shape.refl (fun e => e = 24) _ _).put B0 rfl (Nat.le_refl _) 1 _) (Blk.far B1 (by simp) _) hO BR rfl rfl (by simp)
  have hE : Ext w w1 := Ext.trans (Ext.alloc' (Ext.alloc _ _) _) hE1
  exact bodyPost_ret (results_c rfl rfl BR aggDyad) rfl ⟨⟨x.neg, ⟨x.limbs.l, A, c⟩, x.exp⟩, rfl, rfl, ⟨(hown.lower (by simp; omega)).shape hS (by decide)⟩, Ext.of ((Shape.of_ext hE).trans hS |>.below (Nat.le_refl _))⟩
set_option maxRecDepth 100000 in
theorem ref02_Twin (x : XDyad) (w : World) (hx : x.ok w w.heap.size) (hs : x.data.small) :
    Calls Tryd.prog 10 #[.agg #[.bool x.neg, .slice x.limbs.A x.limbs.l.length x.limbs.c, .int .i64 x.exp]] w fun e w' => ∃ y : XDyad, e = .returned (.agg #[.bool y.neg, .slice y.limbs.A y.limbs.l.length y.limbs.c, .int .i64 y.exp]) ∧ y.data = x.data ∧ y.mine w' w.heap.size ∧ Ext w w' := by
  go_enter Tryd.func10, Tryd.ntmps10
  have HS : Hid (∀ W, Ext w W → Sl W W.heap.size cU32 x.limbs.A x.limbs.l) := Lib.hid fun W hW => (hx.limbs.1.below hW.below).mono hW.size
  have HN := Lib.hid (show x.limbs.l.length ≤ 1000000 from hs)
  go_wp2_with (first | (at_builtin; go_must (refine app_many elu32 rfl (.tmp 3) (.tmp 5) rfl (((w.alloc _).alloc _).alloc _) _ cU32 _ [] x.limbs.l rfl (own_new ((w.alloc _).alloc _) _ (by simp)) x.limbs.A x.limbs.c rfl (HS.out _ (by repeat (first | exact Ext.refl _ | assumption | refine Ext.alloc' ?_ _ | refine Ext.drewN' ?_ _ | refine Ext.drew' ?_ | (refine Ext.trans ?_ (by assumption))))) (fun _ => rfl) (fun _ => rfl) (by have := HN.out; rw [List.length_nil]; omega) (by have := HN.out; rw [List.length_nil]; unfold maxLen; omega) (by simp) ?_); intro v1 w1 hown hgrow1 hnew1; rw [List.nil_append] at hown; obtain ⟨A, c, rfl, hok1⟩ := hown.form; have hE1 := ext_grown rfl (by simp) hgrow1; have B0 : Blk w1 (w.heap.size) 24 [.bool x.neg, .slice x.limbs.A x.limbs.l.length x.limbs.c, .int .i64 x.exp] := Blk.ext (by repeat (first | assumption | exact Blk.new (by simp) | refine Blk.alloc ?_ _ | refine Blk.drewN ?_ _)) hE1; have B1 : Blk w1 (w.heap.size + 1) 24 [.bool false, .slice none 0 0, .int .i64 0] := Blk.ext (by repeat (first | assumption | exact Blk.new (by simp) | refine Blk.alloc ?_ _ | refine Blk.drewN ?_ _)) hE1; obtain ⟨c0, f0⟩ := B0.rules; obtain ⟨c1, f1⟩ := B1.rules) | ((with_reducible refine wpl_load 24 (.tmp 1) ?_ ?_ (w.heap.size) 0 [.bool x.neg, .slice A x.limbs.l.length c, .int .i64 x.exp] ?_ ?_ ?_ ?_); (exact rfl); (exact rfl); (exact rfl); (exact aggDyad); (exact (Blk.set B0 1 _).row)) | ((with_reducible refine wpl_store 24 (.tmp 2) (.tmp 8) ?_ ?_ (w.heap.size + 1) 0 24 [.bool false, .slice none 0 0, .int .i64 0] [.bool x.neg, .slice A x.limbs.l.length c, .int .i64 x.exp] ?_ ?_ ?_ ?_ ?_ ?_ ?_); (exact rfl); (exact rfl); (exact rfl); (exact rfl); (exact aggDyad); (exact (Blk.far B1 (by simp) _)); (exact by simp); (exact rfl); (intro w2 BR hO)) | fail)
  have hS : Shape (fun e => e = 24) w.heap.size w1 w2 := Shape.only (T := fun e => e = 24) ((Shape.refl (fun e => e = 24) _ _).put B0 rfl (Nat.le_refl _) 1 _) (Blk.far B1 (by simp) _) hO BR rfl rfl (by simp)
  have hE : Ext w w1 := Ext.trans (Ext.alloc' (Ext.alloc _ _) _) hE1
  exact bodyPost_ret (results_c rfl rfl BR aggDyad) rfl ⟨⟨x.neg, ⟨x.limbs.l, A, c⟩, x.exp⟩, rfl, rfl, ⟨(hown.lower (by simp; omega)).shape hS (by decide)⟩, Ext.of ((Shape.of_ext hE).trans hS |>.below (Nat.le_refl _))⟩
section
attribute [local go_sem] detUpon undIn
set_option maxRecDepth 100000 in
set_option maxHeartbeats 1000000 in
theorem ref02_Great (x : XDyad) (w : World) (hx : x.ok w w.heap.size) :
    Calls Tryd.prog 9 #[.agg #[.bool x.neg, .slice x.limbs.A x.limbs.l.length x.limbs.c, .int .i64 x.exp]] w (Gr (x.limbs.l.length ≤ 42) w) := by
  have HX := Lib.hid hx
  clear hx
  by_cases h1 : x.limbs.l.length ≤ 42
  · have d1 : decide ((42 : Int) < (x.limbs.l.length : Int)) = false := by simp; omega
    have H1 := Lib.hid h1
    clear h1
    by_cases h2 : x.exp ≤ 1100
    · have d2 : decide ((1100 : Int) < x.exp) = false := by simp; omega
      have H2 := Lib.hid h2
      clear h2
      go_enter Tryd.func9, Tryd.ntmps9
      go_wp2_with fail
      go_ret
      exact Gr.no rfl H1.out (by repeat (first | exact Ext.refl _ | assumption | refine Ext.alloc' ?_ _ | refine Ext.drewN' ?_ _ | refine Ext.drew' ?_ | (refine Ext.trans ?_ (by assumption))))
    · have d2 : decide ((1100 : Int) < x.exp) = true := by simp; omega
      have H2 := Lib.hid h2
      clear h2
      go_enter Tryd.func9, Tryd.ntmps9
      go_wp2_with fail
      go_ret
      exact Gr.yes rfl (by repeat (first | exact Ext.refl _ | assumption | refine Ext.alloc' ?_ _ | refine Ext.drewN' ?_ _ | refine Ext.drew' ?_ | (refine Ext.trans ?_ (by assumption))))
  · have d1 : decide ((42 : Int) < (x.limbs.l.length : Int)) = true := by simp; omega
    have H1 := Lib.hid h1
    clear h1
    go_enter Tryd.func9, Tryd.ntmps9
    go_wp2_with fail
    go_ret
    exact Gr.yes rfl (by repeat (first | exact Ext.refl _ | assumption | refine Ext.alloc' ?_ _ | refine Ext.drewN' ?_ _ | refine Ext.drew' ?_ | (refine Ext.trans ?_ (by assumption))))
end
end Go.Proofs.YtgcbnagfdfgpnaaDoor
