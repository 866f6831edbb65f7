/- What comes in, opened. Printed by gen_open.py. -/
import Derived.Test.YtnlhpdlnbcdfjaaRows
import Derived.Test.YtnlhpdlnbcdfjaaFrame
namespace Go.Proofs.Ytnlhpdlnbcdfjaa
open Go.RowKit Go.Hx Go.ChangeShapes Go.WideShapes Go.ChangeAt Go.Deep
section
variable {H : Type} {enc : TypeId × Value → H} {w : World} {base : Nat} {spare : Nat → Bool} {held : Bool} {fuel : Nat} {cs : List Value} {x : DataW H × List MemPlace}
theorem open_Clock (h : DataW.trod enc Try.prog w base spare held fuel 23 cs = some x) : ∃ X : PClock, cs = X.cells ∧ PClock.wf X := by
  obtain ⟨ys, n, _, _, hlen, hyl, hf⟩ := DataW.trod_struct Try.underlying23 h
  have hget : ∀ j, j < 5 → ∃ y, ys[j]? = some y := fun j hj => ⟨_, List.getElem?_eq_getElem (by rw [hyl]; exact hj)⟩
  obtain ⟨y0, hy0⟩ := hget 0 (by decide)
  have r0 := hf 0 _ rfl
  rw [hy0] at r0
  obtain ⟨x0, e0, _, w0⟩ := DataW.trod_int Try.underlying3 r0
  have c0 : Try.prog.cellsOf 3 = 1 := by kernel_rfl
  have g0 := (congrArg (fun k => (cs.drop 0).take k) c0.symm).trans e0
  obtain ⟨y1, hy1⟩ := hget 1 (by decide)
  have r1 := hf 1 _ rfl
  rw [hy1] at r1
  obtain ⟨x1, e1, _, w1⟩ := DataW.trod_int Try.underlying3 r1
  have c1 : Try.prog.cellsOf 3 = 1 := by kernel_rfl
  have g1 := (congrArg (fun k => (cs.drop 1).take k) c1.symm).trans e1
  obtain ⟨y2, hy2⟩ := hget 2 (by decide)
  have r2 := hf 2 _ rfl
  rw [hy2] at r2
  obtain ⟨x2, e2, _, w2⟩ := DataW.trod_int Try.underlying3 r2
  have c2 : Try.prog.cellsOf 3 = 1 := by kernel_rfl
  have g2 := (congrArg (fun k => (cs.drop 2).take k) c2.symm).trans e2
  obtain ⟨y3, hy3⟩ := hget 3 (by decide)
  have r3 := hf 3 _ rfl
  rw [hy3] at r3
  obtain ⟨x3, e3, _, w3⟩ := DataW.trod_int Try.underlying3 r3
  have c3 : Try.prog.cellsOf 3 = 1 := by kernel_rfl
  have g3 := (congrArg (fun k => (cs.drop 3).take k) c3.symm).trans e3
  obtain ⟨y4, hy4⟩ := hget 4 (by decide)
  have r4 := hf 4 _ rfl
  rw [hy4] at r4
  obtain ⟨x4, e4, _, w4⟩ := DataW.trod_int Try.underlying3 r4
  have c4 : Try.prog.cellsOf 3 = 1 := by kernel_rfl
  have g4 := (congrArg (fun k => (cs.drop 4).take k) c4.symm).trans e4
  have z : cs.drop 5 = [] := List.drop_eq_nil_of_le (by rw [hlen]; exact Nat.le_of_eq (by kernel_rfl))
  have all : cs = _ := (List.drop_zero).symm.trans (glue g0 (glue g1 (glue g2 (glue g3 (glue g4 z)))))
  exact ⟨⟨x0, x1, x2, x3, x4⟩, all, ⟨inI64_of w0, inI64_of w1, inI64_of w2, inI64_of w3, inI64_of w4⟩⟩
theorem open_sU32 (h : DataW.trod enc Try.prog w base spare held fuel 24 cs = some x) : ∃ L : LX Nat, cs = [.slice L.A L.l.length L.c] ∧ L.ok w w.heap.size cU32 ∧ ∀ n ∈ L.l, (fun n => n < 4294967296) n :=
  open_list (size := 1) (enc' := cU32) (ok := fun n => n < 4294967296) Try.underlying24 (by kernel_rfl) (by decide) (fun n cs' y hy => by
    obtain ⟨z, rfl, _, hw⟩ := DataW.trod_int Try.underlying91 hy
    have hb := inU32_of hw
    exact ⟨z.toNat, by simp [cU32, Int.toNat_of_nonneg hb.1], by omega⟩) h
theorem open_Dyad (h : DataW.trod enc Try.prog w base spare held fuel 26 cs = some x) : ∃ X : XDyad, cs = X.cells ∧ X.ok w w.heap.size ∧ PDyad.wf X.data := by
  obtain ⟨ys, n, _, _, hlen, hyl, hf⟩ := DataW.trod_struct Try.underlying26 h
  have hget : ∀ j, j < 3 → ∃ y, ys[j]? = some y := fun j hj => ⟨_, List.getElem?_eq_getElem (by rw [hyl]; exact hj)⟩
  obtain ⟨y0, hy0⟩ := hget 0 (by decide)
  have r0 := hf 0 _ rfl
  rw [hy0] at r0
  obtain ⟨x0, e0, _⟩ := DataW.trod_bool Try.underlying4 r0
  have c0 : Try.prog.cellsOf 4 = 1 := by kernel_rfl
  have g0 := (congrArg (fun k => (cs.drop 0).take k) c0.symm).trans e0
  obtain ⟨y1, hy1⟩ := hget 1 (by decide)
  have r1 := hf 1 _ rfl
  rw [hy1] at r1
  obtain ⟨x1, e1, k1, w1⟩ := open_sU32 r1
  have c1 : Try.prog.cellsOf 24 = 1 := by kernel_rfl
  have g1 := (congrArg (fun k => (cs.drop 1).take k) c1.symm).trans e1
  obtain ⟨y2, hy2⟩ := hget 2 (by decide)
  have r2 := hf 2 _ rfl
  rw [hy2] at r2
  obtain ⟨x2, e2, _, w2⟩ := DataW.trod_int Try.underlying3 r2
  have c2 : Try.prog.cellsOf 3 = 1 := by kernel_rfl
  have g2 := (congrArg (fun k => (cs.drop 2).take k) c2.symm).trans e2
  have z : cs.drop 3 = [] := List.drop_eq_nil_of_le (by rw [hlen]; exact Nat.le_of_eq (by kernel_rfl))
  have all : cs = _ := (List.drop_zero).symm.trans (glue g0 (glue g1 (glue g2 z)))
  exact ⟨⟨x0, x1, x2⟩, all, ⟨k1⟩, ⟨w1, inI64_of w2⟩⟩
theorem open_Mass (h : DataW.trod enc Try.prog w base spare held fuel 28 cs = some x) : ∃ X : XMass, cs = X.cells ∧ X.ok w w.heap.size ∧ PMass.wf X.data := by
  obtain ⟨ys, n, _, _, hlen, hyl, hf⟩ := DataW.trod_struct Try.underlying28 h
  have hget : ∀ j, j < 4 → ∃ y, ys[j]? = some y := fun j hj => ⟨_, List.getElem?_eq_getElem (by rw [hyl]; exact hj)⟩
  obtain ⟨y0, hy0⟩ := hget 0 (by decide)
  have r0 := hf 0 _ rfl
  rw [hy0] at r0
  obtain ⟨x0, e0, k0, w0⟩ := open_Dyad r0
  have c0 : Try.prog.cellsOf 26 = 3 := by kernel_rfl
  have g0 := (congrArg (fun k => (cs.drop 0).take k) c0.symm).trans e0
  obtain ⟨y1, hy1⟩ := hget 1 (by decide)
  have r1 := hf 1 _ rfl
  rw [hy1] at r1
  obtain ⟨x1, e1, k1, w1⟩ := open_Dyad r1
  have c1 : Try.prog.cellsOf 26 = 3 := by kernel_rfl
  have g1 := (congrArg (fun k => (cs.drop 3).take k) c1.symm).trans e1
  obtain ⟨y2, hy2⟩ := hget 2 (by decide)
  have r2 := hf 2 _ rfl
  rw [hy2] at r2
  obtain ⟨x2, e2, k2, w2⟩ := open_Dyad r2
  have c2 : Try.prog.cellsOf 26 = 3 := by kernel_rfl
  have g2 := (congrArg (fun k => (cs.drop 6).take k) c2.symm).trans e2
  obtain ⟨y3, hy3⟩ := hget 3 (by decide)
  have r3 := hf 3 _ rfl
  rw [hy3] at r3
  obtain ⟨x3, e3, k3, w3⟩ := open_Dyad r3
  have c3 : Try.prog.cellsOf 26 = 3 := by kernel_rfl
  have g3 := (congrArg (fun k => (cs.drop 9).take k) c3.symm).trans e3
  have z : cs.drop 12 = [] := List.drop_eq_nil_of_le (by rw [hlen]; exact Nat.le_of_eq (by kernel_rfl))
  have all : cs = _ := (List.drop_zero).symm.trans (glue g0 (glue g1 (glue g2 (glue g3 z))))
  exact ⟨⟨x0, x1, x2, x3⟩, all, ⟨k0, k1, k2, k3⟩, ⟨w0, w1, w2, w3⟩⟩
theorem open_Edge (h : DataW.trod enc Try.prog w base spare held fuel 30 cs = some x) : ∃ X : PEdge, cs = X.cells ∧ PEdge.wf X := by
  obtain ⟨ys, n, _, _, hlen, hyl, hf⟩ := DataW.trod_struct Try.underlying30 h
  have hget : ∀ j, j < 3 → ∃ y, ys[j]? = some y := fun j hj => ⟨_, List.getElem?_eq_getElem (by rw [hyl]; exact hj)⟩
  obtain ⟨y0, hy0⟩ := hget 0 (by decide)
  have r0 := hf 0 _ rfl
  rw [hy0] at r0
  obtain ⟨x0, e0, _⟩ := DataW.trod_bool Try.underlying4 r0
  have c0 : Try.prog.cellsOf 4 = 1 := by kernel_rfl
  have g0 := (congrArg (fun k => (cs.drop 0).take k) c0.symm).trans e0
  obtain ⟨y1, hy1⟩ := hget 1 (by decide)
  have r1 := hf 1 _ rfl
  rw [hy1] at r1
  obtain ⟨x1, e1, _, w1⟩ := DataW.trod_int Try.underlying3 r1
  have c1 : Try.prog.cellsOf 3 = 1 := by kernel_rfl
  have g1 := (congrArg (fun k => (cs.drop 1).take k) c1.symm).trans e1
  obtain ⟨y2, hy2⟩ := hget 2 (by decide)
  have r2 := hf 2 _ rfl
  rw [hy2] at r2
  obtain ⟨x2, e2, _, w2⟩ := DataW.trod_int Try.underlying3 r2
  have c2 : Try.prog.cellsOf 3 = 1 := by kernel_rfl
  have g2 := (congrArg (fun k => (cs.drop 2).take k) c2.symm).trans e2
  have z : cs.drop 3 = [] := List.drop_eq_nil_of_le (by rw [hlen]; exact Nat.le_of_eq (by kernel_rfl))
  have all : cs = _ := (List.drop_zero).symm.trans (glue g0 (glue g1 (glue g2 z)))
  exact ⟨⟨x0, x1, x2⟩, all, ⟨inI64_of w1, inI64_of w2⟩⟩
theorem open_Part (h : DataW.trod enc Try.prog w base spare held fuel 32 cs = some x) : ∃ X : XPart, cs = X.cells ∧ X.ok w w.heap.size ∧ PPart.wf X.data := by
  obtain ⟨ys, n, _, _, hlen, hyl, hf⟩ := DataW.trod_struct Try.underlying32 h
  have hget : ∀ j, j < 3 → ∃ y, ys[j]? = some y := fun j hj => ⟨_, List.getElem?_eq_getElem (by rw [hyl]; exact hj)⟩
  obtain ⟨y0, hy0⟩ := hget 0 (by decide)
  have r0 := hf 0 _ rfl
  rw [hy0] at r0
  obtain ⟨x0, e0, k0, w0⟩ := open_Mass r0
  have c0 : Try.prog.cellsOf 28 = 12 := by kernel_rfl
  have g0 := (congrArg (fun k => (cs.drop 0).take k) c0.symm).trans e0
  obtain ⟨y1, hy1⟩ := hget 1 (by decide)
  have r1 := hf 1 _ rfl
  rw [hy1] at r1
  obtain ⟨x1, e1, w1⟩ := open_Edge r1
  have c1 : Try.prog.cellsOf 30 = 3 := by kernel_rfl
  have g1 := (congrArg (fun k => (cs.drop 12).take k) c1.symm).trans e1
  obtain ⟨y2, hy2⟩ := hget 2 (by decide)
  have r2 := hf 2 _ rfl
  rw [hy2] at r2
  obtain ⟨x2, e2, k2, w2⟩ := open_sU32 r2
  have c2 : Try.prog.cellsOf 24 = 1 := by kernel_rfl
  have g2 := (congrArg (fun k => (cs.drop 15).take k) c2.symm).trans e2
  have z : cs.drop 16 = [] := List.drop_eq_nil_of_le (by rw [hlen]; exact Nat.le_of_eq (by kernel_rfl))
  have all : cs = _ := (List.drop_zero).symm.trans (glue g0 (glue g1 (glue g2 z)))
  exact ⟨⟨x0, x1, x2⟩, all, ⟨k0, k2⟩, ⟨w0, w1, w2⟩⟩
theorem open_Wait (h : DataW.trod enc Try.prog w base spare held fuel 34 cs = some x) : ∃ X : PWait, cs = X.cells ∧ PWait.wf X := by
  obtain ⟨ys, n, _, _, hlen, hyl, hf⟩ := DataW.trod_struct Try.underlying34 h
  have hget : ∀ j, j < 3 → ∃ y, ys[j]? = some y := fun j hj => ⟨_, List.getElem?_eq_getElem (by rw [hyl]; exact hj)⟩
  obtain ⟨y0, hy0⟩ := hget 0 (by decide)
  have r0 := hf 0 _ rfl
  rw [hy0] at r0
  obtain ⟨x0, e0, _⟩ := DataW.trod_bool Try.underlying4 r0
  have c0 : Try.prog.cellsOf 4 = 1 := by kernel_rfl
  have g0 := (congrArg (fun k => (cs.drop 0).take k) c0.symm).trans e0
  obtain ⟨y1, hy1⟩ := hget 1 (by decide)
  have r1 := hf 1 _ rfl
  rw [hy1] at r1
  obtain ⟨x1, e1, _, w1⟩ := DataW.trod_int Try.underlying3 r1
  have c1 : Try.prog.cellsOf 3 = 1 := by kernel_rfl
  have g1 := (congrArg (fun k => (cs.drop 1).take k) c1.symm).trans e1
  obtain ⟨y2, hy2⟩ := hget 2 (by decide)
  have r2 := hf 2 _ rfl
  rw [hy2] at r2
  obtain ⟨x2, e2, _, w2⟩ := DataW.trod_int Try.underlying3 r2
  have c2 : Try.prog.cellsOf 3 = 1 := by kernel_rfl
  have g2 := (congrArg (fun k => (cs.drop 2).take k) c2.symm).trans e2
  have z : cs.drop 3 = [] := List.drop_eq_nil_of_le (by rw [hlen]; exact Nat.le_of_eq (by kernel_rfl))
  have all : cs = _ := (List.drop_zero).symm.trans (glue g0 (glue g1 (glue g2 z)))
  exact ⟨⟨x0, x1, x2⟩, all, ⟨inI64_of w1, inI64_of w2⟩⟩
theorem open_sInt (h : DataW.trod enc Try.prog w base spare held fuel 35 cs = some x) : ∃ L : LX Int, cs = [.slice L.A L.l.length L.c] ∧ L.ok w w.heap.size cInt ∧ ∀ n ∈ L.l, (inI64) n :=
  open_list (size := 1) (enc' := cInt) (ok := inI64) Try.underlying35 (by kernel_rfl) (by decide) (fun n cs' y hy => by
    obtain ⟨z, rfl, _, hw⟩ := DataW.trod_int Try.underlying3 hy
    exact ⟨z, rfl, inI64_of hw⟩) h
theorem open_Desc (h : DataW.trod enc Try.prog w base spare held fuel 84 cs = some x) : ∃ X : PDesc, cs = X.cells ∧ PDesc.wf X := by
  obtain ⟨ys, n, _, _, hlen, hyl, hf⟩ := DataW.trod_struct Try.underlying84 h
  have hget : ∀ j, j < 2 → ∃ y, ys[j]? = some y := fun j hj => ⟨_, List.getElem?_eq_getElem (by rw [hyl]; exact hj)⟩
  obtain ⟨y0, hy0⟩ := hget 0 (by decide)
  have r0 := hf 0 _ rfl
  rw [hy0] at r0
  obtain ⟨x0, e0, _, w0⟩ := DataW.trod_int Try.underlying3 r0
  have c0 : Try.prog.cellsOf 3 = 1 := by kernel_rfl
  have g0 := (congrArg (fun k => (cs.drop 0).take k) c0.symm).trans e0
  obtain ⟨y1, hy1⟩ := hget 1 (by decide)
  have r1 := hf 1 _ rfl
  rw [hy1] at r1
  obtain ⟨x1, e1, _, w1⟩ := DataW.trod_int Try.underlying3 r1
  have c1 : Try.prog.cellsOf 3 = 1 := by kernel_rfl
  have g1 := (congrArg (fun k => (cs.drop 1).take k) c1.symm).trans e1
  have z : cs.drop 2 = [] := List.drop_eq_nil_of_le (by rw [hlen]; exact Nat.le_of_eq (by kernel_rfl))
  have all : cs = _ := (List.drop_zero).symm.trans (glue g0 (glue g1 z))
  exact ⟨⟨x0, x1⟩, all, ⟨inI64_of w0, inI64_of w1⟩⟩
theorem open_sDesc (h : DataW.trod enc Try.prog w base spare held fuel 36 cs = some x) : ∃ L : LX PDesc, cs = [.slice L.A L.l.length L.c] ∧ L.ok w w.heap.size PDesc.cells ∧ ∀ n ∈ L.l, PDesc.wf n :=
  open_list (size := 2) (enc' := PDesc.cells) (ok := PDesc.wf) Try.underlying36 (by kernel_rfl) (by decide) (fun n cs' y hy => open_Desc hy) h
theorem open_Cache (h : DataW.trod enc Try.prog w base spare held fuel 38 cs = some x) : ∃ X : XCache, cs = X.cells ∧ X.ok w w.heap.size ∧ PCache.wf X.data := by
  obtain ⟨ys, n, _, _, hlen, hyl, hf⟩ := DataW.trod_struct Try.underlying38 h
  have hget : ∀ j, j < 3 → ∃ y, ys[j]? = some y := fun j hj => ⟨_, List.getElem?_eq_getElem (by rw [hyl]; exact hj)⟩
  obtain ⟨y0, hy0⟩ := hget 0 (by decide)
  have r0 := hf 0 _ rfl
  rw [hy0] at r0
  obtain ⟨x0, e0, _, w0⟩ := DataW.trod_int Try.underlying3 r0
  have c0 : Try.prog.cellsOf 3 = 1 := by kernel_rfl
  have g0 := (congrArg (fun k => (cs.drop 0).take k) c0.symm).trans e0
  obtain ⟨y1, hy1⟩ := hget 1 (by decide)
  have r1 := hf 1 _ rfl
  rw [hy1] at r1
  obtain ⟨x1, e1, _, w1⟩ := DataW.trod_int Try.underlying3 r1
  have c1 : Try.prog.cellsOf 3 = 1 := by kernel_rfl
  have g1 := (congrArg (fun k => (cs.drop 1).take k) c1.symm).trans e1
  obtain ⟨y2, hy2⟩ := hget 2 (by decide)
  have r2 := hf 2 _ rfl
  rw [hy2] at r2
  obtain ⟨x2, e2, k2, w2⟩ := open_sDesc r2
  have c2 : Try.prog.cellsOf 36 = 1 := by kernel_rfl
  have g2 := (congrArg (fun k => (cs.drop 2).take k) c2.symm).trans e2
  have z : cs.drop 3 = [] := List.drop_eq_nil_of_le (by rw [hlen]; exact Nat.le_of_eq (by kernel_rfl))
  have all : cs = _ := (List.drop_zero).symm.trans (glue g0 (glue g1 (glue g2 z)))
  exact ⟨⟨x0, x1, x2⟩, all, ⟨k2⟩, ⟨inI64_of w0, inI64_of w1, w2⟩⟩
theorem open_Frozen (h : DataW.trod enc Try.prog w base spare held fuel 82 cs = some x) : ∃ X : XFrozen, cs = X.cells ∧ X.ok w w.heap.size ∧ PFrozen.wf X.data := by
  obtain ⟨ys, n, _, _, hlen, hyl, hf⟩ := DataW.trod_struct Try.underlying82 h
  have hget : ∀ j, j < 2 → ∃ y, ys[j]? = some y := fun j hj => ⟨_, List.getElem?_eq_getElem (by rw [hyl]; exact hj)⟩
  obtain ⟨y0, hy0⟩ := hget 0 (by decide)
  have r0 := hf 0 _ rfl
  rw [hy0] at r0
  obtain ⟨x0, e0, _, w0⟩ := DataW.trod_int Try.underlying3 r0
  have c0 : Try.prog.cellsOf 3 = 1 := by kernel_rfl
  have g0 := (congrArg (fun k => (cs.drop 0).take k) c0.symm).trans e0
  obtain ⟨y1, hy1⟩ := hget 1 (by decide)
  have r1 := hf 1 _ rfl
  rw [hy1] at r1
  obtain ⟨x1, e1, k1, w1⟩ := open_Part r1
  have c1 : Try.prog.cellsOf 32 = 16 := by kernel_rfl
  have g1 := (congrArg (fun k => (cs.drop 1).take k) c1.symm).trans e1
  have z : cs.drop 17 = [] := List.drop_eq_nil_of_le (by rw [hlen]; exact Nat.le_of_eq (by kernel_rfl))
  have all : cs = _ := (List.drop_zero).symm.trans (glue g0 (glue g1 z))
  exact ⟨⟨x0, x1⟩, all, ⟨k1⟩, ⟨inI64_of w0, w1⟩⟩
theorem open_sFrozen (h : DataW.trod enc Try.prog w base spare held fuel 39 cs = some x) : ∃ L : LX XFrozen, cs = [.slice L.A L.l.length L.c] ∧ L.ok w w.heap.size XFrozen.cells ∧ ∀ n ∈ L.l, (XFrozen.ok w w.heap.size n ∧ PFrozen.wf n.data) :=
  open_list (size := 17) (enc' := XFrozen.cells) (ok := fun n => XFrozen.ok w w.heap.size n ∧ PFrozen.wf n.data) Try.underlying39 (by kernel_rfl) (by decide) (fun n cs' y hy => open_Frozen hy) h
theorem open_Timer (h : DataW.trod enc Try.prog w base spare held fuel 79 cs = some x) : ∃ X : PTimer, cs = X.cells ∧ PTimer.wf X := by
  obtain ⟨ys, n, _, _, hlen, hyl, hf⟩ := DataW.trod_struct Try.underlying79 h
  have hget : ∀ j, j < 2 → ∃ y, ys[j]? = some y := fun j hj => ⟨_, List.getElem?_eq_getElem (by rw [hyl]; exact hj)⟩
  obtain ⟨y0, hy0⟩ := hget 0 (by decide)
  have r0 := hf 0 _ rfl
  rw [hy0] at r0
  obtain ⟨x0, e0, _, w0⟩ := DataW.trod_int Try.underlying3 r0
  have c0 : Try.prog.cellsOf 3 = 1 := by kernel_rfl
  have g0 := (congrArg (fun k => (cs.drop 0).take k) c0.symm).trans e0
  obtain ⟨y1, hy1⟩ := hget 1 (by decide)
  have r1 := hf 1 _ rfl
  rw [hy1] at r1
  obtain ⟨x1, e1, _, w1⟩ := DataW.trod_int Try.underlying3 r1
  have c1 : Try.prog.cellsOf 3 = 1 := by kernel_rfl
  have g1 := (congrArg (fun k => (cs.drop 1).take k) c1.symm).trans e1
  have z : cs.drop 2 = [] := List.drop_eq_nil_of_le (by rw [hlen]; exact Nat.le_of_eq (by kernel_rfl))
  have all : cs = _ := (List.drop_zero).symm.trans (glue g0 (glue g1 z))
  exact ⟨⟨x0, x1⟩, all, ⟨inI64_of w0, inI64_of w1⟩⟩
theorem open_sTimer (h : DataW.trod enc Try.prog w base spare held fuel 40 cs = some x) : ∃ L : LX PTimer, cs = [.slice L.A L.l.length L.c] ∧ L.ok w w.heap.size PTimer.cells ∧ ∀ n ∈ L.l, PTimer.wf n :=
  open_list (size := 2) (enc' := PTimer.cells) (ok := PTimer.wf) Try.underlying40 (by kernel_rfl) (by decide) (fun n cs' y hy => open_Timer hy) h
theorem open_Node (h : DataW.trod enc Try.prog w base spare held fuel 42 cs = some x) : ∃ X : XNode, cs = X.cells ∧ X.ok w w.heap.size ∧ PNode.wf X.data := by
  obtain ⟨ys, n, _, _, hlen, hyl, hf⟩ := DataW.trod_struct Try.underlying42 h
  have hget : ∀ j, j < 10 → ∃ y, ys[j]? = some y := fun j hj => ⟨_, List.getElem?_eq_getElem (by rw [hyl]; exact hj)⟩
  obtain ⟨y0, hy0⟩ := hget 0 (by decide)
  have r0 := hf 0 _ rfl
  rw [hy0] at r0
  obtain ⟨x0, e0, _, w0⟩ := DataW.trod_int Try.underlying3 r0
  have c0 : Try.prog.cellsOf 3 = 1 := by kernel_rfl
  have g0 := (congrArg (fun k => (cs.drop 0).take k) c0.symm).trans e0
  obtain ⟨y1, hy1⟩ := hget 1 (by decide)
  have r1 := hf 1 _ rfl
  rw [hy1] at r1
  obtain ⟨x1, e1, _, w1⟩ := DataW.trod_int Try.underlying3 r1
  have c1 : Try.prog.cellsOf 3 = 1 := by kernel_rfl
  have g1 := (congrArg (fun k => (cs.drop 1).take k) c1.symm).trans e1
  obtain ⟨y2, hy2⟩ := hget 2 (by decide)
  have r2 := hf 2 _ rfl
  rw [hy2] at r2
  obtain ⟨x2, e2, _⟩ := DataW.trod_bool Try.underlying4 r2
  have c2 : Try.prog.cellsOf 4 = 1 := by kernel_rfl
  have g2 := (congrArg (fun k => (cs.drop 2).take k) c2.symm).trans e2
  obtain ⟨y3, hy3⟩ := hget 3 (by decide)
  have r3 := hf 3 _ rfl
  rw [hy3] at r3
  obtain ⟨x3, e3, w3⟩ := open_Clock r3
  have c3 : Try.prog.cellsOf 23 = 5 := by kernel_rfl
  have g3 := (congrArg (fun k => (cs.drop 3).take k) c3.symm).trans e3
  obtain ⟨y4, hy4⟩ := hget 4 (by decide)
  have r4 := hf 4 _ rfl
  rw [hy4] at r4
  obtain ⟨x4, e4, k4, w4⟩ := open_Part r4
  have c4 : Try.prog.cellsOf 32 = 16 := by kernel_rfl
  have g4 := (congrArg (fun k => (cs.drop 8).take k) c4.symm).trans e4
  obtain ⟨y5, hy5⟩ := hget 5 (by decide)
  have r5 := hf 5 _ rfl
  rw [hy5] at r5
  obtain ⟨x5, e5, w5⟩ := open_Wait r5
  have c5 : Try.prog.cellsOf 34 = 3 := by kernel_rfl
  have g5 := (congrArg (fun k => (cs.drop 24).take k) c5.symm).trans e5
  obtain ⟨y6, hy6⟩ := hget 6 (by decide)
  have r6 := hf 6 _ rfl
  rw [hy6] at r6
  obtain ⟨x6, e6, k6, w6⟩ := open_sInt r6
  have c6 : Try.prog.cellsOf 35 = 1 := by kernel_rfl
  have g6 := (congrArg (fun k => (cs.drop 27).take k) c6.symm).trans e6
  obtain ⟨y7, hy7⟩ := hget 7 (by decide)
  have r7 := hf 7 _ rfl
  rw [hy7] at r7
  obtain ⟨x7, e7, k7, w7⟩ := open_Cache r7
  have c7 : Try.prog.cellsOf 38 = 3 := by kernel_rfl
  have g7 := (congrArg (fun k => (cs.drop 28).take k) c7.symm).trans e7
  obtain ⟨y8, hy8⟩ := hget 8 (by decide)
  have r8 := hf 8 _ rfl
  rw [hy8] at r8
  obtain ⟨x8, e8, k8, w8⟩ := open_sFrozen r8
  have c8 : Try.prog.cellsOf 39 = 1 := by kernel_rfl
  have g8 := (congrArg (fun k => (cs.drop 31).take k) c8.symm).trans e8
  obtain ⟨y9, hy9⟩ := hget 9 (by decide)
  have r9 := hf 9 _ rfl
  rw [hy9] at r9
  obtain ⟨x9, e9, k9, w9⟩ := open_sTimer r9
  have c9 : Try.prog.cellsOf 40 = 1 := by kernel_rfl
  have g9 := (congrArg (fun k => (cs.drop 32).take k) c9.symm).trans e9
  have z : cs.drop 33 = [] := List.drop_eq_nil_of_le (by rw [hlen]; exact Nat.le_of_eq (by kernel_rfl))
  have all : cs = _ := (List.drop_zero).symm.trans (glue g0 (glue g1 (glue g2 (glue g3 (glue g4 (glue g5 (glue g6 (glue g7 (glue g8 (glue g9 z))))))))))
  exact ⟨⟨x0, x1, x2, x3, x4, x5, x6, x7, x8, x9⟩, all, ⟨k4, k6, k7, k8, fun y hy => (w8 y hy).1, k9⟩, ⟨inI64_of w0, inI64_of w1, w3, w4, w5, w6, w7, (fun n hn => by obtain ⟨y, hy, rfl⟩ := List.mem_map.1 hn; exact (w8 y hy).2), w9⟩⟩
theorem open_Event (h : DataW.trod enc Try.prog w base spare held fuel 56 cs = some x) : ∃ X : PEvent, cs = X.cells ∧ PEvent.wf X := by
  obtain ⟨ys, n, _, _, hlen, hyl, hf⟩ := DataW.trod_struct Try.underlying56 h
  have hget : ∀ j, j < 5 → ∃ y, ys[j]? = some y := fun j hj => ⟨_, List.getElem?_eq_getElem (by rw [hyl]; exact hj)⟩
  obtain ⟨y0, hy0⟩ := hget 0 (by decide)
  have r0 := hf 0 _ rfl
  rw [hy0] at r0
  obtain ⟨x0, e0, _, w0⟩ := DataW.trod_int Try.underlying3 r0
  have c0 : Try.prog.cellsOf 3 = 1 := by kernel_rfl
  have g0 := (congrArg (fun k => (cs.drop 0).take k) c0.symm).trans e0
  obtain ⟨y1, hy1⟩ := hget 1 (by decide)
  have r1 := hf 1 _ rfl
  rw [hy1] at r1
  obtain ⟨x1, e1, _, w1⟩ := DataW.trod_int Try.underlying5 r1
  have c1 : Try.prog.cellsOf 5 = 1 := by kernel_rfl
  have g1 := (congrArg (fun k => (cs.drop 1).take k) c1.symm).trans e1
  obtain ⟨y2, hy2⟩ := hget 2 (by decide)
  have r2 := hf 2 _ rfl
  rw [hy2] at r2
  obtain ⟨x2, e2, _, w2⟩ := DataW.trod_int Try.underlying3 r2
  have c2 : Try.prog.cellsOf 3 = 1 := by kernel_rfl
  have g2 := (congrArg (fun k => (cs.drop 2).take k) c2.symm).trans e2
  obtain ⟨y3, hy3⟩ := hget 3 (by decide)
  have r3 := hf 3 _ rfl
  rw [hy3] at r3
  obtain ⟨x3, e3, _, w3⟩ := DataW.trod_int Try.underlying3 r3
  have c3 : Try.prog.cellsOf 3 = 1 := by kernel_rfl
  have g3 := (congrArg (fun k => (cs.drop 3).take k) c3.symm).trans e3
  obtain ⟨y4, hy4⟩ := hget 4 (by decide)
  have r4 := hf 4 _ rfl
  rw [hy4] at r4
  obtain ⟨x4, e4, _, w4⟩ := DataW.trod_int Try.underlying3 r4
  have c4 : Try.prog.cellsOf 3 = 1 := by kernel_rfl
  have g4 := (congrArg (fun k => (cs.drop 4).take k) c4.symm).trans e4
  have z : cs.drop 5 = [] := List.drop_eq_nil_of_le (by rw [hlen]; exact Nat.le_of_eq (by kernel_rfl))
  have all : cs = _ := (List.drop_zero).symm.trans (glue g0 (glue g1 (glue g2 (glue g3 (glue g4 z)))))
  exact ⟨⟨x0, x1, x2, x3, x4⟩, all, ⟨inI64_of w0, inU8_of w1, inI64_of w2, inI64_of w3, inI64_of w4⟩⟩
theorem open_sEvent (h : DataW.trod enc Try.prog w base spare held fuel 50 cs = some x) : ∃ L : LX PEvent, cs = [.slice L.A L.l.length L.c] ∧ L.ok w w.heap.size PEvent.cells ∧ ∀ n ∈ L.l, PEvent.wf n :=
  open_list (size := 5) (enc' := PEvent.cells) (ok := PEvent.wf) Try.underlying50 (by kernel_rfl) (by decide) (fun n cs' y hy => open_Event hy) h
end
end Go.Proofs.Ytnlhpdlnbcdfjaa
