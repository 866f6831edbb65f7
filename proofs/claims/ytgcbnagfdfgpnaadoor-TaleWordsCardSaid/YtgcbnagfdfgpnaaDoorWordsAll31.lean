/- A dyad's word, or the error: the program. -/
import Derived.Test.YtgcbnagfdfgpnaaDoorWordsAll30
import Derived.Test.YtgcbnagfdfgpnaaDoorWordsAll6
namespace Go.Hx
open Go.RowKit
/-- a dyad's word, or the error -/
def showP (a : PDyad) : List UInt8 × Int := if mayD a then (wordL a, 0) else ([], 8)
end Go.Hx
namespace Go.Proofs.YtgcbnagfdfgpnaaDoor
open Go.RowKit Go.Hx
theorem aggDyadW : AggTy Tryd.prog 24 3 := ⟨⟨_, Tryd.underlying24, rfl⟩, by kernel_rfl⟩
set_option maxRecDepth 100000 in
set_option maxHeartbeats 2000000 in
theorem tale_Show (x : XDyad) (w : World) (hx : x.ok w w.heap.size) (hl : ∀ n ∈ x.limbs.l, n < 4294967296) (h100 : x.limbs.l.length ≤ 100) (hex : inI64 x.exp) (hT : Tz w) (hP : Pow w) :
    Calls Tryd.prog 30 #[.agg #[.bool x.neg, .slice x.limbs.A x.limbs.l.length x.limbs.c, .int .i64 x.exp]] w fun e w' => e = .returned (.tuple #[.string ⟨(showP x.data).1.toArray⟩, .int .i64 (showP x.data).2]) ∧ Ext w w' := by
  have HX := Lib.hid hx
  have HL := Lib.hid hl
  have H1 := Lib.hid h100
  have HI := Lib.hid hex
  have HT := Lib.hid hT
  have HP := Lib.hid hP
  clear hx hl h100 hex hT hP
  have HB : Hid (Blk (w.alloc (.cells #[.bool x.neg, .slice x.limbs.A x.limbs.l.length x.limbs.c, .int .i64 x.exp] 24)) w.heap.size 24 [.bool x.neg, .slice x.limbs.A x.limbs.l.length x.limbs.c, .int .i64 x.exp]) := Lib.hid (Blk.new rfl)
  have HE : Hid (Ext w (w.alloc (.cells #[.bool x.neg, .slice x.limbs.A x.limbs.l.length x.limbs.c, .int .i64 x.exp] 24))) := Lib.hid (Ext.alloc _ _)
  have hr0 : RowAt (w.alloc (.cells #[.bool x.neg, .slice x.limbs.A x.limbs.l.length x.limbs.c, .int .i64 x.exp] 24)) w.heap.size 0 [.bool x.neg, .slice x.limbs.A x.limbs.l.length x.limbs.c, .int .i64 x.exp] := HB.out.row
  go_enter Tryd.func30, Tryd.ntmps30
  go_wp2_with (first | ((with_reducible refine wpl_load 24 (.tmp 1) ?_ ?_ (w.heap.size) 0 [.bool x.neg, .slice x.limbs.A x.limbs.l.length x.limbs.c, .int .i64 x.exp] ?_ ?_ ?_ ?_); (exact rfl); (exact rfl); (exact rfl); (exact aggDyadW); (exact hr0)) | fail)
  clear hr0
  refine (dyad_Check x _ (HX.out.ext HE.out)).mono ?_
  by_cases hm : mayD x.data
  · have HR : Hid (showP x.data = (wordL x.data, 0)) := Lib.hid (if_pos hm)
    have hc : chk (decide (mayD x.data)) = 0 := by rw [decide_eq_true hm]; rfl
    rw [hc]
    rintro e w1 ⟨rfl, hE1⟩
    have HE1 := Lib.hid (HE.out.trans hE1)
    have hr1 : RowAt w1 w.heap.size 0 [.bool x.neg, .slice x.limbs.A x.limbs.l.length x.limbs.c, .int .i64 x.exp] := (HB.out.ext hE1).row
    clear hE1 hc hm
    go_wp2_with (first | ((with_reducible refine wpl_load 24 (.tmp 1) ?_ ?_ (w.heap.size) 0 [.bool x.neg, .slice x.limbs.A x.limbs.l.length x.limbs.c, .int .i64 x.exp] ?_ ?_ ?_ ?_); (exact rfl); (exact rfl); (exact rfl); (exact aggDyadW); (exact hr1)) | fail)
    clear hr1
    refine (tale_word x _ (HX.out.ext HE1.out) HL.out H1.out HI.out (HT.out.ext HE1.out) (HP.out.ext HE1.out)).mono ?_
    rintro e w2 ⟨rfl, hE2⟩
    have HE2 := Lib.hid (HE1.out.trans hE2)
    clear hE2
    go_wp2_with fail
    go_ret2
    exact ⟨by rw [HR.out] <;> rfl, HE2.out⟩
  · have HR : Hid (showP x.data = ([], 8)) := Lib.hid (if_neg hm)
    have hc : chk (decide (mayD x.data)) = 8 := by rw [decide_eq_false hm]; rfl
    rw [hc]
    rintro e w1 ⟨rfl, hE1⟩
    have HE1 := Lib.hid (HE.out.trans hE1)
    clear hE1 hc hm
    go_wp2_with fail
    go_ret2
    exact ⟨by rw [HR.out] <;> rfl, HE1.out⟩
end Go.Proofs.YtgcbnagfdfgpnaaDoor
