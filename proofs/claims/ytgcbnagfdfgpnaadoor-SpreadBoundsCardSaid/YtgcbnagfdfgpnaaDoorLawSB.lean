/- The law SpreadBounds answers true from any state in which the library's table lies. Printed by gen_law30.py. -/
import Derived.Test.YtgcbnagfdfgpnaaDoorBoundD
import Derived.Test.YtgcbnagfdfgpnaaDoorRefD8
namespace Go.Hx
open Go.RowKit
structure SpI (W1 wr : World) (b8 : Nat) (q : XDyad) : Prop where
  ext : Ext W1 wr
  blk : Blk wr b8 24 [.bool q.neg, .slice q.limbs.A q.limbs.l.length q.limbs.c, .int .i64 q.exp]
  row : q.limbs.l.length = 0 ∨ ∃ g cur, q.limbs.A = some ⟨g, 0, none⟩ ∧ Blk wr g 33 cur ∧ q.limbs.l.length ≤ cur.length ∧ W1.heap.size ≤ g ∧ g ≠ b8
theorem SpI.of {W1 wr : World} {b8 : Nat} {q : XDyad} (hE : Ext W1 wr) (hB : Blk wr b8 24 [.bool q.neg, .slice q.limbs.A q.limbs.l.length q.limbs.c, .int .i64 q.exp]) (hm : q.mine wr W1.heap.size) : SpI W1 wr b8 q := by
  refine ⟨hE, hB, ?_⟩
  rcases Nat.eq_zero_or_pos q.limbs.l.length with h0 | h0
  · exact .inl h0
  · obtain ⟨g, hA⟩ := Go.Hx.Own.place h0 hm.limbs
    have hm2 := hm.limbs
    rw [hA] at hm2
    obtain ⟨cur, h1, h2, h3, _, h5, _⟩ := Go.Hx.Own.blk hm2
    refine .inr ⟨g, cur, hA, h1, by omega, h2, fun h => ?_⟩
    rw [h] at h1
    exact absurd (blk_type h1 hB) (by decide)
end Go.Hx
namespace Go.Proofs.YtgcbnagfdfgpnaaDoor
open Go.RowKit Go.Hx
set_option maxRecDepth 100000 in
set_option maxHeartbeats 1000000 in
theorem spreadBounds_any (x : XDyad) (n r : Int) (w : World) (hx : x.ok w w.heap.size) (hb : Limbs x.limbs.l) (hT : Tab w) :
    Calls Tryd.prog 3 #[.agg #[.bool x.neg, .slice x.limbs.A x.limbs.l.length x.limbs.c, .int .i64 x.exp], .int .i64 n, .int .i64 r] w fun e w' => e = .returned (.bool true) ∧ Ext w w' := by
  have HX := Lib.hid hx
  have HB := Lib.hid hb
  have HT := Lib.hid hT
  clear hx hb hT
  go_enter Tryd.func3, Tryd.ntmps3
  have BX0 : Blk (w.alloc (.cells #[.bool x.neg, .slice x.limbs.A x.limbs.l.length x.limbs.c, .int .i64 x.exp] 24)) w.heap.size 24 [.bool x.neg, .slice x.limbs.A x.limbs.l.length x.limbs.c, .int .i64 x.exp] := Blk.new rfl
  go_wp2_with (first | ((with_reducible refine wpl_load 24 (.tmp 3) ?_ ?_ (w.heap.size) 0 [.bool x.neg, .slice x.limbs.A x.limbs.l.length x.limbs.c, .int .i64 x.exp] ?_ ?_ ?_ ?_); (exact rfl); (exact rfl); (exact rfl); (exact aggDyad); (exact BX0.row)) | fail)
  refine (ref02_Great x _ (HX.out.ext (by repeat (first | exact Ext.refl _ | assumption | refine Ext.alloc' ?_ _ | refine Ext.drewN' ?_ _ | refine Ext.drew' ?_ | (refine Ext.trans ?_ (by assumption)))))).mono ?_
  rintro e w1 ⟨bg, rfl, hbg, hE1⟩
  have BX1 := BX0.ext hE1
  have hE0 : Ext w w1 := (Ext.alloc _ _).trans hE1
  clear BX0 hE1
  cases bg with
  | true =>
    go_wp2_with fail
    go_ret
    exact ⟨rfl, hE0⟩
  | false =>
    have HLN := Lib.hid (hbg rfl)
    clear hbg
    go_wp2_with (first | ((with_reducible refine wpl_load 24 (.tmp 3) ?_ ?_ (w.heap.size) 0 [.bool x.neg, .slice x.limbs.A x.limbs.l.length x.limbs.c, .int .i64 x.exp] ?_ ?_ ?_ ?_); (exact rfl); (exact rfl); (exact rfl); (exact aggDyad); (exact BX1.row)) | fail)
    refine (ref02_Twin x _ (HX.out.ext hE0) (by have := HLN.out; show x.limbs.l.length ≤ 1000000; omega)).mono ?_
    rintro e w2 ⟨y, rfl, hy1, hy2, hE2⟩
    have BX2 := BX1.ext hE2
    have hE02 := hE0.trans hE2
    have HBY : Hid (Limbs y.limbs.l) := Lib.hid (by have h1 : y.limbs.l = x.limbs.l := congrArg PDyad.limbs hy1; rw [h1]; exact HB.out)
    have HY1 := Lib.hid hy1
    have HY2 := Lib.hid hy2
    clear hy1 hy2 BX1 hE0
    obtain ⟨b7, hb7⟩ : ∃ b, b = w2.heap.size := ⟨_, rfl⟩
    have HB7 := Lib.hid hb7
    clear hb7
    have BY : Blk (w2.alloc (.cells #[.bool y.neg, .slice y.limbs.A y.limbs.l.length y.limbs.c, .int .i64 y.exp] 24)) w2.heap.size 24 [.bool y.neg, .slice y.limbs.A y.limbs.l.length y.limbs.c, .int .i64 y.exp] := Blk.new rfl
    go_wp2_with (first | ((with_reducible refine wpl_load 24 (.tmp 7) ?_ ?_ (w2.heap.size) 0 [.bool y.neg, .slice y.limbs.A y.limbs.l.length y.limbs.c, .int .i64 y.exp] ?_ ?_ ?_ ?_); (exact rfl); (exact rfl); (exact rfl); (exact aggDyad); (exact BY.row)) | fail)
    obtain ⟨W1, hW1⟩ : ∃ W, W = w2.alloc (.cells #[.bool y.neg, .slice y.limbs.A y.limbs.l.length y.limbs.c, .int .i64 y.exp] 24) := ⟨_, rfl⟩
    have HBX1 : Hid (Blk W1 w.heap.size 24 [.bool x.neg, .slice x.limbs.A x.limbs.l.length x.limbs.c, .int .i64 x.exp]) := Lib.hid (by rw [hW1]; exact BX2.alloc _)
    have HBY1 : Hid (Blk W1 w2.heap.size 24 [.bool y.neg, .slice y.limbs.A y.limbs.l.length y.limbs.c, .int .i64 y.exp]) := Lib.hid (by rw [hW1]; exact BY)
    have HE1 : Hid (Ext w W1) := Lib.hid (by rw [hW1]; exact hE02.alloc' _)
    have HYM : Hid (y.ok W1 W1.heap.size) := Lib.hid (by rw [hW1]; exact HY2.out.ok.ext (Ext.alloc _ _))
    rw [← hW1]
    clear hW1 BX2 BY hE02
    obtain ⟨T, hT⟩ : ∃ T, boundD x.data n r = T := ⟨_, rfl⟩
    refine (spread_Bound y n r _ HYM.out HBY.out (HT.out.ext HE1.out)).mono ?_
    rw [HY1.out, hT]
    rintro e w3 ⟨q, rfl, hq1, hq2, hE3⟩
    have HQ1 := Lib.hid hq1
    have HBX3 := Lib.hid (HBX1.out.ext hE3)
    have HE3 := Lib.hid hE3
    have HQM := Lib.hid hq2
    have HT1 := Lib.hid hT
    clear hq1 hq2 hE3 hT
    have bx3 := HBX3.out
    go_wp2_with (first | ((with_reducible refine wpl_load 24 (.tmp 3) ?_ ?_ (w.heap.size) 0 [.bool x.neg, .slice x.limbs.A x.limbs.l.length x.limbs.c, .int .i64 x.exp] ?_ ?_ ?_ ?_); (exact rfl); (exact rfl); (exact rfl); (exact aggDyad); (exact (bx3.alloc _).row)) | fail)
    obtain ⟨W4, hW4⟩ : ∃ W, W = w3.alloc (.cells #[.bool q.neg, .slice q.limbs.A q.limbs.l.length q.limbs.c, .int .i64 q.exp] 24) := ⟨_, rfl⟩
    have HE4 : Hid (Ext W1 W4) := Lib.hid (by rw [hW4]; exact HE3.out.alloc' _)
    have HBQ4 : Hid (Blk W4 w3.heap.size 24 [.bool q.neg, .slice q.limbs.A q.limbs.l.length q.limbs.c, .int .i64 q.exp]) := Lib.hid (by rw [hW4]; exact Blk.new rfl)
    have HQM4 : Hid (q.mine W4 W1.heap.size) := Lib.hid (by rw [hW4]; exact HQM.out.ext (Ext.alloc _ _))
    rw [← hW4]
    clear hW4 bx3
    refine (ref30_Bound x n r _ (HX.out.ext (HE1.out.trans HE4.out)) HB.out).mono ?_
    rw [HT1.out]
    rintro e w5 ⟨p, rfl, hp1, hp2, hE5⟩
    have HP1 := Lib.hid hp1
    have HPM := Lib.hid hp2
    have HE5 := Lib.hid (HE4.out.trans hE5)
    have HBQ5 := Lib.hid (HBQ4.out.ext hE5)
    have HQM5 := Lib.hid (HQM4.out.ext hE5)
    clear hp1 hp2 hE5
    have bq5 := HBQ5.out
    have BP : Blk (w5.alloc (.cells #[.bool p.neg, .slice p.limbs.A p.limbs.l.length p.limbs.c, .int .i64 p.exp] 24)) w5.heap.size 24 [.bool p.neg, .slice p.limbs.A p.limbs.l.length p.limbs.c, .int .i64 p.exp] := Blk.new rfl
    go_wp2_with (first | ((with_reducible refine wpl_load 24 (.tmp 8) ?_ ?_ (w3.heap.size) 0 [.bool q.neg, .slice q.limbs.A q.limbs.l.length q.limbs.c, .int .i64 q.exp] ?_ ?_ ?_ ?_); (exact rfl); (exact rfl); (exact rfl); (exact aggDyad); (exact (bq5.alloc _).row)) | ((with_reducible refine wpl_load 24 (.tmp 10) ?_ ?_ (w5.heap.size) 0 [.bool p.neg, .slice p.limbs.A p.limbs.l.length p.limbs.c, .int .i64 p.exp] ?_ ?_ ?_ ?_); (exact rfl); (exact rfl); (exact rfl); (exact aggDyad); (exact BP.row)) | fail)
    refine (ref02_Same q p _ (HQM5.out.ok.ext (Ext.alloc _ _)) (HPM.out.ok.ext (Ext.alloc _ _))).mono ?_
    rw [decide_eq_true (show q.data = p.data by rw [HQ1.out, HP1.out])]
    rintro e w6 ⟨rfl, hE6⟩
    have HE6 := Lib.hid ((HE5.out.alloc' (.cells #[.bool p.neg, .slice p.limbs.A p.limbs.l.length p.limbs.c, .int .i64 p.exp] 24)).trans hE6)
    have HS0 : Hid (SpI W1 w6 w3.heap.size q) := Lib.hid (SpI.of HE6.out ((bq5.alloc _).ext hE6) ((HQM5.out.ext (Ext.alloc _ _)).ext hE6))
    clear bq5 BP hE6
    go_wp2_with fail
    have hql : q.limbs.l.length ≤ 9223372036854775807 := by
      obtain ⟨_, h1, h2⟩ := HQM5.out.ok.limbs
      unfold maxLen at h2
      omega
    go_loopw [13] (fun i wr => ∃ j : Nat, j ≤ q.limbs.l.length ∧ i = .int .i64 j ∧ Hid (SpI W1 wr w3.heap.size q)) (fun i _ => q.limbs.l.length - (intOf i).toNat)
    case atStart => exact ⟨0, by omega, rfl, HS0⟩
    case round =>
      obtain ⟨j, hj, rfl, HI⟩ := hrel
      by_cases hlt : j < q.limbs.l.length
      · have hji : (j : Int) < (q.limbs.l.length : Int) := by omega
        obtain ⟨g, cur, hA, hBg, hlen, hge, hne⟩ := HI.out.row.resolve_left (by omega)
        have hc8 : wr.cell? ⟨w3.heap.size, 1, none⟩ = some (.slice (some ⟨g, 0, none⟩) q.limbs.l.length q.limbs.c) := by rw [← hA]; exact HI.out.blk.cell 1
        have hjc : j < cur.length := by omega
        obtain ⟨u, hu⟩ : ∃ u, cur[j]? = some u := ⟨_, List.getElem?_eq_getElem hjc⟩
        have hcg : wr.cell? ⟨g, j, none⟩ = some u := by rw [hBg.cell j]; exact hu
        have hfg : wr.frozen? ⟨g, j, none⟩ = false := hBg.free j
        have HI2 : Hid (SpI W1 (wr.setCell ⟨g, j, none⟩ (.int .u32 7)) w3.heap.size q) := Lib.hid ⟨HI.out.ext.setCell' hge _, HI.out.blk.far (Ne.symm hne) _, .inr ⟨g, cur.set j (.int .u32 7), hA, hBg.set j _, by simpa using hlen, hge, hne⟩⟩
        clear hA hBg hlen hge hne hjc hu
        go_wp2_with fail
        go_roundw
        case rel => exact ⟨j + 1, by omega, by go_num, HI2⟩
        case measure => simp [intOf]; omega
      · have hji : ¬ (j : Int) < (q.limbs.l.length : Int) := by omega
        have hc8 : wr.cell? ⟨w3.heap.size, 1, none⟩ = some (.slice q.limbs.A q.limbs.l.length q.limbs.c) := HI.out.blk.cell 1
        have BX7 : Blk wr w.heap.size 24 [.bool x.neg, .slice x.limbs.A x.limbs.l.length x.limbs.c, .int .i64 x.exp] := HBX1.out.ext HI.out.ext
        have BY7 : Blk wr w2.heap.size 24 [.bool y.neg, .slice y.limbs.A y.limbs.l.length y.limbs.c, .int .i64 y.exp] := HBY1.out.ext HI.out.ext
        go_wp2_with (first | ((with_reducible refine wpl_load 24 (.tmp 7) ?_ ?_ (w2.heap.size) 0 [.bool y.neg, .slice y.limbs.A y.limbs.l.length y.limbs.c, .int .i64 y.exp] ?_ ?_ ?_ ?_); (exact rfl); (exact rfl); (exact rfl); (exact aggDyad); (exact BY7.row)) | ((with_reducible refine wpl_load 24 (.tmp 3) ?_ ?_ (w.heap.size) 0 [.bool x.neg, .slice x.limbs.A x.limbs.l.length x.limbs.c, .int .i64 x.exp] ?_ ?_ ?_ ?_); (exact rfl); (exact rfl); (exact rfl); (exact aggDyad); (exact BX7.row)) | fail)
        refine (ref02_Same y x _ (HYM.out.ext HI.out.ext) (HX.out.ext (HE1.out.trans HI.out.ext))).mono ?_
        rw [decide_eq_true HY1.out]
        rintro e w7 ⟨rfl, hE7⟩
        go_wp2_with fail
        go_ret
        exact ⟨rfl, (HE1.out.trans HI.out.ext).trans hE7⟩
end Go.Proofs.YtgcbnagfdfgpnaaDoor
