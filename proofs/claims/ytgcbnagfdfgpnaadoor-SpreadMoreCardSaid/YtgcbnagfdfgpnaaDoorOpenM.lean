/- What comes in, opened. Printed by gen_open.py. -/
import Derived.Test.YtgcbnagfdfgpnaaDoorRows
import Derived.Test.YtgcbnagfdfgpnaaDoorFrame
namespace Go.Proofs.YtgcbnagfdfgpnaaDoor
open Go.RowKit Go.Hx Go.ChangeShapes Go.WideShapes Go.ChangeAt Go.Deep
section
variable {H : Type} {enc : TypeId × Value → H} {w : World} {base : Nat} {spare : Nat → Bool} {held : Bool} {fuel : Nat} {cs : List Value} {x : DataW H × List MemPlace}
theorem open_Meeting (h : DataW.trod enc Tryd.prog w base spare held fuel 37 cs = some x) : ∃ X : PMeeting, cs = X.cells ∧ PMeeting.wf X := by
  obtain ⟨ys, n, _, _, hlen, hyl, hf⟩ := DataW.trod_struct Tryd.underlying37 h
  have hget : ∀ j, j < 2 → ∃ y, ys[j]? = some y := fun j hj => ⟨_, List.getElem?_eq_getElem (by rw [hyl]; exact hj)⟩
  obtain ⟨y0, hy0⟩ := hget 0 (by decide)
  have r0 := hf 0 _ rfl
  rw [hy0] at r0
  obtain ⟨x0, e0, _, w0⟩ := DataW.trod_int Tryd.underlying3 r0
  have c0 : Tryd.prog.cellsOf 3 = 1 := by kernel_rfl
  have g0 := (congrArg (fun k => (cs.drop 0).take k) c0.symm).trans e0
  obtain ⟨y1, hy1⟩ := hget 1 (by decide)
  have r1 := hf 1 _ rfl
  rw [hy1] at r1
  obtain ⟨x1, e1, _, w1⟩ := DataW.trod_int Tryd.underlying3 r1
  have c1 : Tryd.prog.cellsOf 3 = 1 := by kernel_rfl
  have g1 := (congrArg (fun k => (cs.drop 1).take k) c1.symm).trans e1
  have z : cs.drop 2 = [] := List.drop_eq_nil_of_le (by rw [hlen]; exact Nat.le_of_eq (by kernel_rfl))
  have all : cs = _ := (List.drop_zero).symm.trans (glue g0 (glue g1 z))
  exact ⟨⟨x0, x1⟩, all, ⟨inI64_of w0, inI64_of w1⟩⟩
theorem open_sMeeting (h : DataW.trod enc Tryd.prog w base spare held fuel 35 cs = some x) : ∃ L : LX PMeeting, cs = [.slice L.A L.l.length L.c] ∧ L.ok w w.heap.size PMeeting.cells ∧ ∀ n ∈ L.l, PMeeting.wf n :=
  open_list (size := 2) (enc' := PMeeting.cells) (ok := PMeeting.wf) Tryd.underlying35 (by kernel_rfl) (by decide) (fun n cs' y hy => open_Meeting hy) h
end
end Go.Proofs.YtgcbnagfdfgpnaaDoor
