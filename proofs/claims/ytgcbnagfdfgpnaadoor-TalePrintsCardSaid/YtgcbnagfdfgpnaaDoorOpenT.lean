/- What comes in, opened. Printed by gen_open.py. -/
import Derived.Test.YtgcbnagfdfgpnaaDoorRows
import Derived.Test.YtgcbnagfdfgpnaaDoorFrame
namespace Go.Proofs.YtgcbnagfdfgpnaaDoor
open Go.RowKit Go.Hx Go.ChangeShapes Go.WideShapes Go.ChangeAt Go.Deep
section
variable {H : Type} {enc : TypeId × Value → H} {w : World} {base : Nat} {spare : Nat → Bool} {held : Bool} {fuel : Nat} {cs : List Value} {x : DataW H × List MemPlace}
theorem open_sInt (h : DataW.trod enc Tryd.prog w base spare held fuel 61 cs = some x) : ∃ L : LX Int, cs = [.slice L.A L.l.length L.c] ∧ L.ok w w.heap.size cInt ∧ ∀ n ∈ L.l, (inI64) n :=
  open_list (size := 1) (enc' := cInt) (ok := inI64) Tryd.underlying61 (by kernel_rfl) (by decide) (fun n cs' y hy => by
    obtain ⟨z, rfl, _, hw⟩ := DataW.trod_int Tryd.underlying3 hy
    exact ⟨z, rfl, inI64_of hw⟩) h
theorem open_Conf (h : DataW.trod enc Tryd.prog w base spare held fuel 60 cs = some x) : ∃ X : PConf, cs = X.cells ∧ PConf.wf X := by
  obtain ⟨ys, n, _, _, hlen, hyl, hf⟩ := DataW.trod_struct Tryd.underlying60 h
  have hget : ∀ j, j < 4 → ∃ y, ys[j]? = some y := fun j hj => ⟨_, List.getElem?_eq_getElem (by rw [hyl]; exact hj)⟩
  obtain ⟨y0, hy0⟩ := hget 0 (by decide)
  have r0 := hf 0 _ rfl
  rw [hy0] at r0
  obtain ⟨x0, e0, _, w0⟩ := DataW.trod_int Tryd.underlying3 r0
  have c0 : Tryd.prog.cellsOf 3 = 1 := by kernel_rfl
  have g0 := (congrArg (fun k => (cs.drop 0).take k) c0.symm).trans e0
  obtain ⟨y1, hy1⟩ := hget 1 (by decide)
  have r1 := hf 1 _ rfl
  rw [hy1] at r1
  obtain ⟨x1, e1, _, w1⟩ := DataW.trod_int Tryd.underlying3 r1
  have c1 : Tryd.prog.cellsOf 3 = 1 := by kernel_rfl
  have g1 := (congrArg (fun k => (cs.drop 1).take k) c1.symm).trans e1
  obtain ⟨y2, hy2⟩ := hget 2 (by decide)
  have r2 := hf 2 _ rfl
  rw [hy2] at r2
  obtain ⟨x2, e2, _, w2⟩ := DataW.trod_int Tryd.underlying3 r2
  have c2 : Tryd.prog.cellsOf 3 = 1 := by kernel_rfl
  have g2 := (congrArg (fun k => (cs.drop 2).take k) c2.symm).trans e2
  obtain ⟨y3, hy3⟩ := hget 3 (by decide)
  have r3 := hf 3 _ rfl
  rw [hy3] at r3
  obtain ⟨x3, e3, _, w3⟩ := DataW.trod_int Tryd.underlying3 r3
  have c3 : Tryd.prog.cellsOf 3 = 1 := by kernel_rfl
  have g3 := (congrArg (fun k => (cs.drop 3).take k) c3.symm).trans e3
  have z : cs.drop 4 = [] := List.drop_eq_nil_of_le (by rw [hlen]; exact Nat.le_of_eq (by kernel_rfl))
  have all : cs = _ := (List.drop_zero).symm.trans (glue g0 (glue g1 (glue g2 (glue g3 z))))
  exact ⟨⟨x0, x1, x2, x3⟩, all, ⟨inI64_of w0, inI64_of w1, inI64_of w2, inI64_of w3⟩⟩
theorem open_Step (h : DataW.trod enc Tryd.prog w base spare held fuel 115 cs = some x) : ∃ X : PStep, cs = X.cells ∧ PStep.wf X := by
  obtain ⟨ys, n, _, _, hlen, hyl, hf⟩ := DataW.trod_struct Tryd.underlying115 h
  have hget : ∀ j, j < 5 → ∃ y, ys[j]? = some y := fun j hj => ⟨_, List.getElem?_eq_getElem (by rw [hyl]; exact hj)⟩
  obtain ⟨y0, hy0⟩ := hget 0 (by decide)
  have r0 := hf 0 _ rfl
  rw [hy0] at r0
  obtain ⟨x0, e0, _, w0⟩ := DataW.trod_int Tryd.underlying5 r0
  have c0 : Tryd.prog.cellsOf 5 = 1 := by kernel_rfl
  have g0 := (congrArg (fun k => (cs.drop 0).take k) c0.symm).trans e0
  obtain ⟨y1, hy1⟩ := hget 1 (by decide)
  have r1 := hf 1 _ rfl
  rw [hy1] at r1
  obtain ⟨x1, e1, _, w1⟩ := DataW.trod_int Tryd.underlying3 r1
  have c1 : Tryd.prog.cellsOf 3 = 1 := by kernel_rfl
  have g1 := (congrArg (fun k => (cs.drop 1).take k) c1.symm).trans e1
  obtain ⟨y2, hy2⟩ := hget 2 (by decide)
  have r2 := hf 2 _ rfl
  rw [hy2] at r2
  obtain ⟨x2, e2, _, w2⟩ := DataW.trod_int Tryd.underlying3 r2
  have c2 : Tryd.prog.cellsOf 3 = 1 := by kernel_rfl
  have g2 := (congrArg (fun k => (cs.drop 2).take k) c2.symm).trans e2
  obtain ⟨y3, hy3⟩ := hget 3 (by decide)
  have r3 := hf 3 _ rfl
  rw [hy3] at r3
  obtain ⟨x3, e3, _, w3⟩ := DataW.trod_int Tryd.underlying3 r3
  have c3 : Tryd.prog.cellsOf 3 = 1 := by kernel_rfl
  have g3 := (congrArg (fun k => (cs.drop 3).take k) c3.symm).trans e3
  obtain ⟨y4, hy4⟩ := hget 4 (by decide)
  have r4 := hf 4 _ rfl
  rw [hy4] at r4
  obtain ⟨x4, e4, _, w4⟩ := DataW.trod_int Tryd.underlying113 r4
  have c4 : Tryd.prog.cellsOf 113 = 1 := by kernel_rfl
  have g4 := (congrArg (fun k => (cs.drop 4).take k) c4.symm).trans e4
  have z : cs.drop 5 = [] := List.drop_eq_nil_of_le (by rw [hlen]; exact Nat.le_of_eq (by kernel_rfl))
  have all : cs = _ := (List.drop_zero).symm.trans (glue g0 (glue g1 (glue g2 (glue g3 (glue g4 z)))))
  exact ⟨⟨x0, x1, x2, x3, x4⟩, all, ⟨inU8_of w0, inI64_of w1, inI64_of w2, inI64_of w3, inU64_of w4⟩⟩
theorem open_sStep (h : DataW.trod enc Tryd.prog w base spare held fuel 62 cs = some x) : ∃ L : LX PStep, cs = [.slice L.A L.l.length L.c] ∧ L.ok w w.heap.size PStep.cells ∧ ∀ n ∈ L.l, PStep.wf n :=
  open_list (size := 5) (enc' := PStep.cells) (ok := PStep.wf) Tryd.underlying62 (by kernel_rfl) (by decide) (fun n cs' y hy => open_Step hy) h
theorem open_Tale (h : DataW.trod enc Tryd.prog w base spare held fuel 64 cs = some x) : ∃ X : XTale, cs = X.cells ∧ X.ok w w.heap.size ∧ PTale.wf X.data := by
  obtain ⟨ys, n, _, _, hlen, hyl, hf⟩ := DataW.trod_struct Tryd.underlying64 h
  have hget : ∀ j, j < 3 → ∃ y, ys[j]? = some y := fun j hj => ⟨_, List.getElem?_eq_getElem (by rw [hyl]; exact hj)⟩
  obtain ⟨y0, hy0⟩ := hget 0 (by decide)
  have r0 := hf 0 _ rfl
  rw [hy0] at r0
  obtain ⟨x0, e0, w0⟩ := open_Conf r0
  have c0 : Tryd.prog.cellsOf 60 = 4 := by kernel_rfl
  have g0 := (congrArg (fun k => (cs.drop 0).take k) c0.symm).trans e0
  obtain ⟨y1, hy1⟩ := hget 1 (by decide)
  have r1 := hf 1 _ rfl
  rw [hy1] at r1
  obtain ⟨x1, e1, k1, w1⟩ := open_sInt r1
  have c1 : Tryd.prog.cellsOf 61 = 1 := by kernel_rfl
  have g1 := (congrArg (fun k => (cs.drop 4).take k) c1.symm).trans e1
  obtain ⟨y2, hy2⟩ := hget 2 (by decide)
  have r2 := hf 2 _ rfl
  rw [hy2] at r2
  obtain ⟨x2, e2, k2, w2⟩ := open_sStep r2
  have c2 : Tryd.prog.cellsOf 62 = 1 := by kernel_rfl
  have g2 := (congrArg (fun k => (cs.drop 5).take k) c2.symm).trans e2
  have z : cs.drop 6 = [] := List.drop_eq_nil_of_le (by rw [hlen]; exact Nat.le_of_eq (by kernel_rfl))
  have all : cs = _ := (List.drop_zero).symm.trans (glue g0 (glue g1 (glue g2 z)))
  exact ⟨⟨x0, x1, x2⟩, all, ⟨k1, k2⟩, ⟨w0, w1, w2⟩⟩
end
end Go.Proofs.YtgcbnagfdfgpnaaDoor
