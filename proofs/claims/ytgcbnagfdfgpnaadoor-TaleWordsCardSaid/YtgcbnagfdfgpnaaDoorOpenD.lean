/- What comes in, opened. Printed by gen_open.py. -/
import Derived.Test.YtgcbnagfdfgpnaaDoorRows
import Derived.Test.YtgcbnagfdfgpnaaDoorFrame
namespace Go.Proofs.YtgcbnagfdfgpnaaDoor
open Go.RowKit Go.Hx Go.ChangeShapes Go.WideShapes Go.ChangeAt Go.Deep
section
variable {H : Type} {enc : TypeId × Value → H} {w : World} {base : Nat} {spare : Nat → Bool} {held : Bool} {fuel : Nat} {cs : List Value} {x : DataW H × List MemPlace}
theorem open_sU32 (h : DataW.trod enc Tryd.prog w base spare held fuel 22 cs = some x) : ∃ L : LX Nat, cs = [.slice L.A L.l.length L.c] ∧ L.ok w w.heap.size cU32 ∧ ∀ n ∈ L.l, (fun n => n < 4294967296) n :=
  open_list (size := 1) (enc' := cU32) (ok := fun n => n < 4294967296) Tryd.underlying22 (by kernel_rfl) (by decide) (fun n cs' y hy => by
    obtain ⟨z, rfl, _, hw⟩ := DataW.trod_int Tryd.underlying33 hy
    have hb := inU32_of hw
    exact ⟨z.toNat, by simp [cU32, Int.toNat_of_nonneg hb.1], by omega⟩) h
theorem open_Dyad (h : DataW.trod enc Tryd.prog w base spare held fuel 24 cs = some x) : ∃ X : XDyad, cs = X.cells ∧ X.ok w w.heap.size ∧ PDyad.wf X.data := by
  obtain ⟨ys, n, _, _, hlen, hyl, hf⟩ := DataW.trod_struct Tryd.underlying24 h
  have hget : ∀ j, j < 3 → ∃ y, ys[j]? = some y := fun j hj => ⟨_, List.getElem?_eq_getElem (by rw [hyl]; exact hj)⟩
  obtain ⟨y0, hy0⟩ := hget 0 (by decide)
  have r0 := hf 0 _ rfl
  rw [hy0] at r0
  obtain ⟨x0, e0, _⟩ := DataW.trod_bool Tryd.underlying4 r0
  have c0 : Tryd.prog.cellsOf 4 = 1 := by kernel_rfl
  have g0 := (congrArg (fun k => (cs.drop 0).take k) c0.symm).trans e0
  obtain ⟨y1, hy1⟩ := hget 1 (by decide)
  have r1 := hf 1 _ rfl
  rw [hy1] at r1
  obtain ⟨x1, e1, k1, w1⟩ := open_sU32 r1
  have c1 : Tryd.prog.cellsOf 22 = 1 := by kernel_rfl
  have g1 := (congrArg (fun k => (cs.drop 1).take k) c1.symm).trans e1
  obtain ⟨y2, hy2⟩ := hget 2 (by decide)
  have r2 := hf 2 _ rfl
  rw [hy2] at r2
  obtain ⟨x2, e2, _, w2⟩ := DataW.trod_int Tryd.underlying3 r2
  have c2 : Tryd.prog.cellsOf 3 = 1 := by kernel_rfl
  have g2 := (congrArg (fun k => (cs.drop 2).take k) c2.symm).trans e2
  have z : cs.drop 3 = [] := List.drop_eq_nil_of_le (by rw [hlen]; exact Nat.le_of_eq (by kernel_rfl))
  have all : cs = _ := (List.drop_zero).symm.trans (glue g0 (glue g1 (glue g2 z)))
  exact ⟨⟨x0, x1, x2⟩, all, ⟨k1⟩, ⟨w1, inI64_of w2⟩⟩
end
end Go.Proofs.YtgcbnagfdfgpnaaDoor
