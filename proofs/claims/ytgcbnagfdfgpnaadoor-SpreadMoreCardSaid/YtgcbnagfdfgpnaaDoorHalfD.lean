/- The program's halves. Printed by gen_half.py. -/
import Derived.Test.YtgcbnagfdfgpnaaDoorFormD
namespace Go.Proofs.YtgcbnagfdfgpnaaDoor
open Go.RowKit Go.Hx
set_option maxRecDepth 100000 in
set_option maxHeartbeats 1000000 in
theorem dyad_Half (x : XDyad) (w : World) (hx : x.ok w w.heap.size) (hb : Limbs x.limbs.l) (hT : Tab w) :
    Calls Tryd.prog 36 #[.agg #[.bool x.neg, .slice x.limbs.A x.limbs.l.length x.limbs.c, .int .i64 x.exp]] w fun e w' => ∃ y : XDyad, e = .returned (.tuple #[.agg #[.bool y.neg, .slice y.limbs.A y.limbs.l.length y.limbs.c, .int .i64 y.exp], .int .i64 (halfD x.data).2]) ∧ y.data = (halfD x.data).1 ∧ y.mine w' w.heap.size ∧ Ext w w' := by
  have HX := Lib.hid hx
  have HB := Lib.hid hb
  have HT := Lib.hid hT
  clear hx hb hT
  by_cases hmay : mayD x.data
  · obtain ⟨ng, ls, ex⟩ := x
    obtain ⟨j, rfl⟩ : ∃ j : Nat, ex = (j : Int) := ⟨ex.toNat, by have := hmay.2.1.1; simp only [XDyad.data] at this; omega⟩
    have hj : j ≤ 1024 := by have := hmay.2.1.2; simp only [XDyad.data] at this; omega
    obtain ⟨j1, hj1⟩ : ∃ j1 : Nat, j + 1 = j1 := ⟨_, rfl⟩
    have HLL : Hid (ls.l.length ≤ 40) := Lib.hid hmay.1.1
    have HR : Hid (halfD (⟨ng, ls, (j : Int)⟩ : XDyad).data = formD ng j1 (val B32 ls.l)) := Lib.hid (by unfold halfD; rw [if_pos hmay, ← hj1]; rfl)
    have hadd : IntKind.i64.wrap ((j : Int) + 1) = (j1 : Int) := by rw [IntWalk.i64_in _ (by omega)]; omega
    have dm : decide (mayD (⟨ng, ls, (j : Int)⟩ : XDyad).data) = true := decide_eq_true hmay
    have HJ := Lib.hid hj
    have HJ1 : Hid (j1 ≤ 2000) := Lib.hid (by omega)
    clear hmay hj hj1
    go_enter Tryd.func36, Tryd.ntmps36
    have BX0 : Blk ((w.alloc (.cells #[.bool ng, .slice ls.A ls.l.length ls.c, .int .i64 j] 24)).alloc (.cells #[.bool false, .slice none 0 0, .int .i64 0] 24)) w.heap.size 24 [.bool ng, .slice ls.A ls.l.length ls.c, .int .i64 j] := Blk.alloc (Blk.new rfl) _
    go_wp2_with (first | ((with_reducible refine wpl_load 24 (.tmp 1) ?_ ?_ (w.heap.size) 0 [.bool ng, .slice ls.A ls.l.length ls.c, .int .i64 j] ?_ ?_ ?_ ?_); (exact rfl); (exact rfl); (exact rfl); (exact aggDyad); (exact BX0.row)) | fail)
    refine (dyad_Check (⟨ng, ls, (j : Int)⟩ : XDyad) _ (HX.out.ext (by repeat (first | exact Ext.refl _ | assumption | refine Ext.alloc' ?_ _ | refine Ext.drewN' ?_ _ | refine Ext.drew' ?_ | (refine Ext.trans ?_ (by assumption)))))).mono ?_
    rw [chk_true dm]
    rintro e w1 ⟨rfl, hE1⟩
    have BX : Blk w1 w.heap.size 24 [.bool ng, .slice ls.A ls.l.length ls.c, .int .i64 j] := BX0.ext hE1
    have BZ : Blk w1 (w.heap.size + 1) 24 [.bool false, .slice none 0 0, .int .i64 0] := (Blk.new (by simp)).ext hE1
    have hE0 : Ext w w1 := (Ext.alloc' (Ext.alloc _ _) _).trans hE1
    clear BX0 hE1 dm
    have hcx : w1.cell? ⟨w.heap.size, 2, none⟩ = some (.int .i64 j) := BX.cell 2
    go_wp2_with (first | ((with_reducible refine wpl_load 24 (.tmp 1) ?_ ?_ (w.heap.size) 0 [.bool ng, .slice ls.A ls.l.length ls.c, .int .i64 j] ?_ ?_ ?_ ?_); (exact rfl); (exact rfl); (exact rfl); (exact aggDyad); (exact BX.row)) | fail)
    refine (dyad_of (⟨ng, ls, (j : Int)⟩ : XDyad) j 0 _ (HX.out.ext hE0) HB.out HLL.out (by simp) (by omega)).mono ?_
    rintro e w2 ⟨g, l, rfl, hg, BG, hl, hlim, hval, hE2⟩
    have BZ2 := BZ.ext hE2
    have hE3 := hE0.trans hE2
    have hgl : w.heap.size + 1 < g := Nat.lt_of_lt_of_le BZ.lt hg
    have HGL := Lib.hid hgl
    have HL := Lib.hid hl
    have HLIM := Lib.hid hlim
    have HVAL : Hid (val B32 l = val B32 ls.l) := Lib.hid (by rw [hval]; simp)
    have hcg : w2.cell? ⟨g, 2, none⟩ = some (.int .i64 j) := BG.cell 2
    have hfg : w2.frozen? ⟨g, 2, none⟩ = false := BG.free 2
    have HG2 : Hid (Blk (w2.setCell ⟨g, 2, none⟩ (.int .i64 j1)) g 139 (.bool ng :: .slice none 0 0 :: .int .i64 j1 :: W32 l)) := Lib.hid (BG.set 2 _)
    have HZ3 : Hid (Blk (w2.setCell ⟨g, 2, none⟩ (.int .i64 j1)) (w.heap.size + 1) 24 [.bool false, .slice none 0 0, .int .i64 0]) := Lib.hid (BZ2.far (by show w.heap.size + 1 ≠ g; omega) _)
    have HE3 : Hid (Ext w (w2.setCell ⟨g, 2, none⟩ (.int .i64 j1))) := Lib.hid (hE3.setCell' (by show w.heap.size ≤ g; omega) _)
    clear BX BZ hE0 hcx hg BG hl hlim hval hE2 BZ2 hE3 hgl
    go_wp2_with fail
    refine (sum_form g j1 ng (.slice none 0 0) l _ HG2.out HL.out HLIM.out HJ1.out (HT.out.ext HE3.out)).mono ?_
    rw [HVAL.out]
    rintro e w3 ⟨q, rfl, hq1, hq2, hE4⟩
    have BZ4 := HZ3.out.ext hE4
    have hE5 := HE3.out.trans hE4
    have hq3 := hq2.lower HE3.out.size
    go_wp2_with (first | ((with_reducible refine wpl_store 24 (.tmp 2) (.tmp 24) ?_ ?_ (w.heap.size + 1) 0 24 [.bool false, .slice none 0 0, .int .i64 0] [.bool q.neg, .slice q.limbs.A q.limbs.l.length q.limbs.c, .int .i64 q.exp] ?_ ?_ ?_ ?_ ?_ ?_ ?_); (exact rfl); (exact rfl); (exact rfl); (exact rfl); (exact aggDyad); (exact BZ4); (exact by simp); (exact rfl); (intro w4 BR2 hO2)) | fail)
    have HS : Shape (fun e => e = 24) w.heap.size _ w4 := Shape.only (T := fun e => e = 24) (Shape.refl _ _ _) BZ4 hO2 BR2 rfl rfl (by omega)
    exact bodyPost_ret (results_ct rfl rfl BR2 aggDyad) rfl ⟨q, by rw [HR.out] <;> rfl, by rw [hq1, HR.out], hq3.shape HS (by decide), Only.ext hE5 hO2 (by omega)⟩
  · have dm : decide (mayD x.data) = false := decide_eq_false hmay
    have HR : Hid (halfD x.data = (PDyad.zero, 8)) := Lib.hid (by unfold halfD; rw [if_neg hmay])
    clear hmay
    go_enter Tryd.func36, Tryd.ntmps36
    have BX0 : Blk ((w.alloc (.cells #[.bool x.neg, .slice x.limbs.A x.limbs.l.length x.limbs.c, .int .i64 x.exp] 24)).alloc (.cells #[.bool false, .slice none 0 0, .int .i64 0] 24)) w.heap.size 24 [.bool x.neg, .slice x.limbs.A x.limbs.l.length x.limbs.c, .int .i64 x.exp] := Blk.alloc (Blk.new rfl) _
    go_wp2_with (first | ((with_reducible refine wpl_load 24 (.tmp 1) ?_ ?_ (w.heap.size) 0 [.bool x.neg, .slice x.limbs.A x.limbs.l.length x.limbs.c, .int .i64 x.exp] ?_ ?_ ?_ ?_); (exact rfl); (exact rfl); (exact rfl); (exact aggDyad); (exact BX0.row)) | fail)
    refine (dyad_Check x _ (HX.out.ext (by repeat (first | exact Ext.refl _ | assumption | refine Ext.alloc' ?_ _ | refine Ext.drewN' ?_ _ | refine Ext.drew' ?_ | (refine Ext.trans ?_ (by assumption)))))).mono ?_
    rw [chk_false dm]
    rintro e w1 ⟨rfl, hE1⟩
    have BZ : Blk w1 (w.heap.size + 1) 24 [.bool false, .slice none 0 0, .int .i64 0] := (Blk.new (by simp)).ext hE1
    have hE0 : Ext w w1 := (Ext.alloc' (Ext.alloc _ _) _).trans hE1
    clear BX0 hE1 dm
    go_wp2_with (first | ((with_reducible refine wpl_store 24 (.tmp 2) (.tmp 8) ?_ ?_ (w.heap.size + 1) 0 24 [.bool false, .slice none 0 0, .int .i64 0] [.bool false, .slice none 0 0, .int .i64 0] ?_ ?_ ?_ ?_ ?_ ?_ ?_); (exact rfl); (exact rfl); (exact rfl); (exact rfl); (exact aggDyad); (exact BZ); (exact by simp); (exact rfl); (intro w4 BR2 hO2)) | fail)
    exact bodyPost_ret (results_ct rfl rfl BR2 aggDyad) rfl ⟨XDyad.zero, by rw [HR.out] <;> rfl, by rw [HR.out] <;> rfl, ⟨Go.Hx.Own.nil _ _ _ _ _⟩, Only.ext hE0 hO2 (by omega)⟩
end Go.Proofs.YtgcbnagfdfgpnaaDoor
