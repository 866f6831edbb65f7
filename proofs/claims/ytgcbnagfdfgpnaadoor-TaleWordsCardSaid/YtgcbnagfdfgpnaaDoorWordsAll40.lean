/- The law TaleWords answers true from any state in which the library's tables and errors lie. Printed by gen_lawtw.py. -/
import Derived.Test.YtgcbnagfdfgpnaaDoorWordsAll13
import Derived.Test.YtgcbnagfdfgpnaaDoorWordsAll37
import Derived.Test.YtgcbnagfdfgpnaaDoorWordsAll38
import Derived.Test.YtgcbnagfdfgpnaaDoorWordsAll39
namespace Go.Proofs.YtgcbnagfdfgpnaaDoor
open Go.RowKit Go.Hx
set_option linter.unusedVariables false
set_option linter.unusedSimpArgs false
set_option maxRecDepth 100000 in
set_option maxHeartbeats 4000000 in
theorem taleWords_any (x : XDyad) (s : List UInt8) (w : World) (hx : x.ok w w.heap.size) (hb : Limbs x.limbs.l) (hex : inI64 x.exp) (hEs : Esy w) (hEr : Era w) (hT : Tz w) (hP : Pow w) :
    Calls Tryd.prog 8 #[.agg #[.bool x.neg, .slice x.limbs.A x.limbs.l.length x.limbs.c, .int .i64 x.exp], .string ⟨s.toArray⟩] w fun e w' => e = .returned (.bool true) ∧ Ext w w' := by
  have HX := Lib.hid hx
  have HB := Lib.hid hb
  have HI := Lib.hid hex
  have HT := Lib.hid (And.intro hEs (And.intro hEr (And.intro hT hP)))
  have hsz : ((ByteArray.mk s.toArray).size : Int) = (s.length : Int) := rfl
  clear hx hb hex hEs hEr hT hP
  have BX0 : Blk (w.alloc (.cells #[.bool x.neg, .slice x.limbs.A x.limbs.l.length x.limbs.c, .int .i64 x.exp] 24)) w.heap.size 24 [.bool x.neg, .slice x.limbs.A x.limbs.l.length x.limbs.c, .int .i64 x.exp] := Blk.new rfl
  go_enter Tryd.func8, Tryd.ntmps8
  go_wp2_with (first | ((with_reducible refine wpl_load 24 (.tmp 2) ?_ ?_ (w.heap.size) 0 [.bool x.neg, .slice x.limbs.A x.limbs.l.length x.limbs.c, .int .i64 x.exp] ?_ ?_ ?_ ?_); (exact rfl); (exact rfl); (exact rfl); (exact aggDyad); (exact BX0.row)) | fail)
  refine (ref02_Great x _ (HX.out.ext (by repeat (first | exact Ext.refl _ | assumption | refine Ext.alloc' ?_ _ | refine Ext.drewN' ?_ _ | refine Ext.drew' ?_ | (refine Ext.trans ?_ (by assumption)))))).mono ?_
  rintro e w1 ⟨bg, rfl, hbg, hE1⟩
  have HBX1 := Lib.hid (BX0.ext hE1)
  have HE1 : Hid (Ext w w1) := Lib.hid ((Ext.alloc _ _).trans hE1)
  clear BX0 hE1
  cases bg with
  | true =>
    go_wp2_with fail
    go_ret
    exact ⟨rfl, HE1.out⟩
  | false =>
    have HLN := Lib.hid (hbg rfl)
    clear hbg
    by_cases hl : 2000 < s.length
    · have hli : (2000 : Int) < (s.length : Int) := by omega
      clear hl
      go_wp2_with fail
      go_ret
      exact ⟨rfl, HE1.out⟩
    · have hli : ¬ (2000 : Int) < (s.length : Int) := by omega
      have HSL : Hid (s.length ≤ 2000) := Lib.hid (by omega)
      clear hl
      go_wp2_with (first | ((with_reducible refine wpl_load 24 (.tmp 2) ?_ ?_ (w.heap.size) 0 [.bool x.neg, .slice x.limbs.A x.limbs.l.length x.limbs.c, .int .i64 x.exp] ?_ ?_ ?_ ?_); (exact rfl); (exact rfl); (exact rfl); (exact aggDyad); (exact HBX1.out.row)) | fail)
      refine (ref02_Twin x _ (HX.out.ext HE1.out) (by have := HLN.out; show x.limbs.l.length ≤ 1000000; omega)).mono ?_
      rintro e w2 ⟨y, rfl, hy1, hy2, hE2⟩
      have HY1 := Lib.hid hy1
      have HYB : Hid (Limbs y.limbs.l ∧ y.limbs.l.length ≤ 100 ∧ inI64 y.exp) := Lib.hid (by
        have h1 : y.limbs.l = x.limbs.l := congrArg PDyad.limbs hy1
        have h2 : y.exp = x.exp := congrArg PDyad.exp hy1
        rw [h1, h2]
        exact ⟨HB.out, by have := HLN.out; omega, HI.out⟩)
      have HYM : Hid (y.ok (w2.alloc (.cells #[.bool y.neg, .slice y.limbs.A y.limbs.l.length y.limbs.c, .int .i64 y.exp] 24)) (w2.alloc (.cells #[.bool y.neg, .slice y.limbs.A y.limbs.l.length y.limbs.c, .int .i64 y.exp] 24)).heap.size) := Lib.hid (hy2.ok.ext (Ext.alloc _ _))
      have HBX2 := Lib.hid ((HBX1.out.ext hE2).alloc (.cells #[.bool y.neg, .slice y.limbs.A y.limbs.l.length y.limbs.c, .int .i64 y.exp] 24))
      have HBY2 : Hid (Blk (w2.alloc (.cells #[.bool y.neg, .slice y.limbs.A y.limbs.l.length y.limbs.c, .int .i64 y.exp] 24)) w2.heap.size 24 [.bool y.neg, .slice y.limbs.A y.limbs.l.length y.limbs.c, .int .i64 y.exp]) := Lib.hid (Blk.new rfl)
      have HE2 : Hid (Ext w (w2.alloc (.cells #[.bool y.neg, .slice y.limbs.A y.limbs.l.length y.limbs.c, .int .i64 y.exp] 24))) := Lib.hid ((HE1.out.trans hE2).alloc' _)
      clear hy1 hy2 hE2 HBX1 HE1
      go_wp2_with (first | ((with_reducible refine wpl_load 24 (.tmp 5) ?_ ?_ (w2.heap.size) 0 [.bool y.neg, .slice y.limbs.A y.limbs.l.length y.limbs.c, .int .i64 y.exp] ?_ ?_ ?_ ?_); (exact rfl); (exact rfl); (exact rfl); (exact aggDyad); (exact HBY2.out.row)) | fail)
      obtain ⟨g5, hg5⟩ : ∃ g, w2.heap.size = g := ⟨_, rfl⟩
      rw [hg5] at HBY2
      simp only [hg5]
      clear hg5
      generalize w2.alloc (.cells #[.bool y.neg, .slice y.limbs.A y.limbs.l.length y.limbs.c, .int .i64 y.exp] 24) = W2 at *
      have HSH := tale_Show y W2 HYM.out HYB.out.1 HYB.out.2.1 HYB.out.2.2 (HT.out.2.2.1.ext HE2.out) (HT.out.2.2.2.ext HE2.out)
      have HRS := fun W (hW : Ext W2 W) => ref_Show x W (HX.out.ext (HE2.out.trans hW)) HB.out
      rw [HY1.out] at HSH
      obtain ⟨⟨sw, se⟩, hsw⟩ : ∃ p, showP x.data = p := ⟨_, rfl⟩
      rw [hsw] at HSH
      simp only [hsw] at HRS
      clear hsw
      refine HSH.mono ?_
      clear HSH
      rintro e w3 ⟨rfl, hE3⟩
      have HE3 := Lib.hid hE3
      have HBX3 := Lib.hid (HBX2.out.ext hE3)
      have HRS3 := HRS w3 hE3
      clear hE3 HRS
      go_wp2_with (first | ((with_reducible refine wpl_load 24 (.tmp 2) ?_ ?_ (w.heap.size) 0 [.bool x.neg, .slice x.limbs.A x.limbs.l.length x.limbs.c, .int .i64 x.exp] ?_ ?_ ?_ ?_); (exact rfl); (exact rfl); (exact rfl); (exact aggDyad); (exact HBX3.out.row)) | fail)
      refine HRS3.mono ?_
      clear HRS3
      rintro e w4 ⟨rfl, hE4⟩
      have HE4 := Lib.hid (HE3.out.trans hE4)
      clear hE4
      go_wp2_with fail
      refine (tale_Read s w4 HSL.out (HT.out.1.ext (HE2.out.trans HE4.out)) (HT.out.2.1.ext (HE2.out.trans HE4.out)) (HT.out.2.2.1.ext (HE2.out.trans HE4.out)) (HT.out.2.2.2.ext (HE2.out.trans HE4.out))).mono ?_
      rintro e w5 ⟨p, rfl, hp1, hp2, hE5⟩
      obtain ⟨⟨cd, ce⟩, hcd⟩ : ∃ q, chkR s (readQ s) = q := ⟨_, rfl⟩
      rw [hcd] at hp1
      have HCD := Lib.hid hcd
      simp only [hcd]
      have HP1 := Lib.hid hp1
      have HPM : Hid (p.ok (w5.alloc (.cells #[.bool p.neg, .slice p.limbs.A p.limbs.l.length p.limbs.c, .int .i64 p.exp] 24)) (w5.alloc (.cells #[.bool p.neg, .slice p.limbs.A p.limbs.l.length p.limbs.c, .int .i64 p.exp] 24)).heap.size) := Lib.hid (hp2.ok.ext (Ext.alloc _ _))
      have HBP5 : Hid (Blk (w5.alloc (.cells #[.bool p.neg, .slice p.limbs.A p.limbs.l.length p.limbs.c, .int .i64 p.exp] 24)) w5.heap.size 24 [.bool p.neg, .slice p.limbs.A p.limbs.l.length p.limbs.c, .int .i64 p.exp]) := Lib.hid (Blk.new rfl)
      have HE5 := Lib.hid ((HE4.out.trans hE5).alloc' (.cells #[.bool p.neg, .slice p.limbs.A p.limbs.l.length p.limbs.c, .int .i64 p.exp] 24))
      clear hp1 hp2 hE5 hcd
      go_wp2_with fail
      obtain ⟨g10, hg10⟩ : ∃ g, w5.heap.size = g := ⟨_, rfl⟩
      rw [hg10] at HBP5
      simp only [hg10]
      clear hg10
      generalize w5.alloc (.cells #[.bool p.neg, .slice p.limbs.A p.limbs.l.length p.limbs.c, .int .i64 p.exp] 24) = W5 at *
      refine (ref_Read s W5 HSL.out).mono ?_
      rintro e w6 ⟨r, hr, q, rfl, hq1, hq2, hE6⟩
      have hcr : chkR s r = (cd, ce) := by
        rw [← HCD.out]
        exact chkR_same hr.1 (fun a h1 h2 h3 => by rw [← h3]; exact readQ_word a h1 h2) hr.2 (fun a h => readQ_limbs h)
      rw [hcr] at hq1
      rw [hcr]
      dsimp only at hq1 ⊢
      have HQ1 := Lib.hid hq1
      have HQM : Hid (q.ok (w6.alloc (.cells #[.bool q.neg, .slice q.limbs.A q.limbs.l.length q.limbs.c, .int .i64 q.exp] 24)) (w6.alloc (.cells #[.bool q.neg, .slice q.limbs.A q.limbs.l.length q.limbs.c, .int .i64 q.exp] 24)).heap.size) := Lib.hid (hq2.ext (Ext.alloc _ _))
      have HBQ6 : Hid (Blk (w6.alloc (.cells #[.bool q.neg, .slice q.limbs.A q.limbs.l.length q.limbs.c, .int .i64 q.exp] 24)) w6.heap.size 24 [.bool q.neg, .slice q.limbs.A q.limbs.l.length q.limbs.c, .int .i64 q.exp]) := Lib.hid (Blk.new rfl)
      have HE56 := Lib.hid (hE6.alloc' (.cells #[.bool q.neg, .slice q.limbs.A q.limbs.l.length q.limbs.c, .int .i64 q.exp] 24))
      clear hr hcr hq1 hq2 hE6
      go_wp2_with (first | ((with_reducible refine wpl_load 24 (.tmp 10) ?_ ?_ g10 0 [.bool p.neg, .slice p.limbs.A p.limbs.l.length p.limbs.c, .int .i64 p.exp] ?_ ?_ ?_ ?_); (exact rfl); (exact rfl); (exact rfl); (exact aggDyad); (exact (HBP5.out.ext HE56.out).row)) | ((with_reducible refine wpl_load 24 (.tmp 12) ?_ ?_ (w6.heap.size) 0 [.bool q.neg, .slice q.limbs.A q.limbs.l.length q.limbs.c, .int .i64 q.exp] ?_ ?_ ?_ ?_); (exact rfl); (exact rfl); (exact rfl); (exact aggDyad); (exact HBQ6.out.row)) | fail)
      have HPQ := ref02_Same p q (w6.alloc (.cells #[.bool q.neg, .slice q.limbs.A q.limbs.l.length q.limbs.c, .int .i64 q.exp] 24)) (HPM.out.ext HE56.out) HQM.out
      rw [decide_eq_true (show p.data = q.data from HP1.out.trans HQ1.out.symm)] at HPQ
      refine HPQ.mono ?_
      clear HPQ
      rintro e w7 ⟨rfl, hE7⟩
      have HE57 := Lib.hid (HE56.out.trans hE7)
      have HE27 := Lib.hid (HE5.out.trans HE57.out)
      have HBY7 := Lib.hid (HBY2.out.ext HE27.out)
      have HBX7 := Lib.hid (HBX2.out.ext HE27.out)
      clear hE7
      go_wp2_with (first | ((with_reducible refine wpl_load 24 (.tmp 5) ?_ ?_ g5 0 [.bool y.neg, .slice y.limbs.A y.limbs.l.length y.limbs.c, .int .i64 y.exp] ?_ ?_ ?_ ?_); (exact rfl); (exact rfl); (exact rfl); (exact aggDyad); (exact HBY7.out.row)) | ((with_reducible refine wpl_load 24 (.tmp 2) ?_ ?_ (w.heap.size) 0 [.bool x.neg, .slice x.limbs.A x.limbs.l.length x.limbs.c, .int .i64 x.exp] ?_ ?_ ?_ ?_); (exact rfl); (exact rfl); (exact rfl); (exact aggDyad); (exact HBX7.out.row)) | fail)
      have HYX := ref02_Same y x w7 (HYM.out.ext HE27.out) (HX.out.ext (HE2.out.trans HE27.out))
      rw [decide_eq_true (show y.data = x.data from HY1.out)] at HYX
      refine HYX.mono ?_
      clear HYX
      rintro e w8 ⟨rfl, hE8⟩
      have HE8 : Hid (Ext w w8) := Lib.hid ((HE2.out.trans HE27.out).trans hE8)
      clear hE8
      go_wp2_with fail
      go_ret
      exact ⟨rfl, HE8.out⟩
end Go.Proofs.YtgcbnagfdfgpnaaDoor
