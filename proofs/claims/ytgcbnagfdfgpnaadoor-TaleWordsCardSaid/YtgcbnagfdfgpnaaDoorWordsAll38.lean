/- The reference's word of a dyad, or the error. Printed by gen_refwe.py. -/
import Derived.Test.YtgcbnagfdfgpnaaDoorWordsAll35
import Derived.Test.YtgcbnagfdfgpnaaDoorWordsAll31
namespace Go.Proofs.YtgcbnagfdfgpnaaDoor
open Go.RowKit Go.Hx
set_option maxRecDepth 100000 in
set_option maxHeartbeats 2000000 in
theorem ref_Show (x : XDyad) (w : World) (hx : x.ok w w.heap.size) (hl : Limbs x.limbs.l) :
    Calls Tryd.prog 31 #[.agg #[.bool x.neg, .slice x.limbs.A x.limbs.l.length x.limbs.c, .int .i64 x.exp]] w fun e w' => e = .returned (.tuple #[.string ⟨(showP x.data).1.toArray⟩, .int .i64 (showP x.data).2]) ∧ Ext w w' := by
  have HX := Lib.hid hx
  have HL := Lib.hid hl
  clear hx hl
  have HB : Hid (Blk (w.alloc (.cells #[.bool x.neg, .slice x.limbs.A x.limbs.l.length x.limbs.c, .int .i64 x.exp] 24)) w.heap.size 24 [.bool x.neg, .slice x.limbs.A x.limbs.l.length x.limbs.c, .int .i64 x.exp]) := Lib.hid (Blk.new rfl)
  have HE : Hid (Ext w (w.alloc (.cells #[.bool x.neg, .slice x.limbs.A x.limbs.l.length x.limbs.c, .int .i64 x.exp] 24))) := Lib.hid (Ext.alloc _ _)
  go_enter Tryd.func31, Tryd.ntmps31
  go_wp2_with (first | ((with_reducible refine wpl_load 24 (.tmp 1) ?_ ?_ (w.heap.size) 0 [.bool x.neg, .slice x.limbs.A x.limbs.l.length x.limbs.c, .int .i64 x.exp] ?_ ?_ ?_ ?_); (exact rfl); (exact rfl); (exact rfl); (exact aggDyad); (exact HB.out.row)) | fail)
  refine (ref02_May x _ (HX.out.ext HE.out)).mono ?_
  by_cases hm : mayD x.data
  · have HR : Hid (showP x.data = (wordL x.data, 0)) := Lib.hid (if_pos hm)
    rw [decide_eq_true hm]
    rintro e w1 ⟨rfl, hE1⟩
    have HE1 := Lib.hid (HE.out.trans hE1)
    have HB1 := Lib.hid (HB.out.ext hE1)
    have HM := Lib.hid hm
    clear hE1 hm
    go_wp2_with (first | ((with_reducible refine wpl_load 24 (.tmp 1) ?_ ?_ (w.heap.size) 0 [.bool x.neg, .slice x.limbs.A x.limbs.l.length x.limbs.c, .int .i64 x.exp] ?_ ?_ ?_ ?_); (exact rfl); (exact rfl); (exact rfl); (exact aggDyad); (exact HB1.out.row)) | fail)
    refine (ref_Word x _ (HX.out.ext HE1.out) HL.out HM.out).mono ?_
    rintro e w2 ⟨rfl, hE2⟩
    have HE2 := Lib.hid (HE1.out.trans hE2)
    clear hE2
    go_wp2_with fail
    go_ret2
    exact ⟨by rw [HR.out] <;> rfl, HE2.out⟩
  · have HR : Hid (showP x.data = ([], 8)) := Lib.hid (if_neg hm)
    rw [decide_eq_false hm]
    rintro e w1 ⟨rfl, hE1⟩
    have HE1 := Lib.hid (HE.out.trans hE1)
    clear hE1 hm
    go_wp2_with fail
    go_ret2
    exact ⟨by rw [HR.out] <;> rfl, HE1.out⟩
end Go.Proofs.YtgcbnagfdfgpnaaDoor
