/- 'make([]T, n)' of one-cell elements. -/
import Derived.Laws.MakeOwn
import Derived.Test.YtgcbnagfdfgpnaaDoorWordsAll16
namespace Go.Hx
open Go.RowKit
theorem madeCells_one (v : Value) (n : Nat) : (madeCells #[v] n).toList = List.replicate n v := by
  apply List.ext_getElem?
  intro i
  simp [madeCells, List.getElem?_replicate]
  by_cases h : i < n
  · simp [h, Nat.mod_one]
  · simp [h]
section
variable {P : Program} {ops : Array Oper} {rest : List Oper} {o : Oper} {a : Act} {Q : Exit → Act → World → Prop} {Fi : Fence} {Φ : Value → World → Prop}
theorem run_make_one {α : Type} {t e bytes : Nat} {enc : α → List Value} {z0 : α} (E : ElTy P t e 1 bytes) (u : Value) (hz0 : (P.info? e).bind (·.zero) = some u) (hl : enc z0 = [u]) (hc : u.cells = #[u])
    (n : Nat) (hbytes : bytes * n ≤ 281474976710656) (h63 : n ≤ maxLen) (w : World) (kl kc : IntKind) :
    ∃ w', (Instr.makeSlice t (.int kl (n : Int)) (.int kc (n : Int))).run P w = .ok (.slice (some ⟨w.heap.size, 0, none⟩) n n) w' ∧ Go.Hx.Own w' w.heap.size e 1 enc (.slice (some ⟨w.heap.size, 0, none⟩) n n) (List.replicate n z0) ∧ Ext w w' := by
  obtain ⟨i, z, hi, hz, hsz, hby, hzs⟩ := E.info
  have hzz : z = u := by rw [hi] at hz0; simpa [hz] using hz0
  obtain ⟨w', hr, ho, hg⟩ := run_make_full (P := P) (w := w) (base := w.heap.size) t e i z 1 E.ht hi hz hsz kl kc n (by rw [hby]; exact hbytes) h63 (Nat.le_refl _)
  refine ⟨w', hr, ?_, Ext.of ((RowKit.Below.refl _ _).grown hg (Nat.le_refl _) (fun k h => by cases h))⟩
  unfold Go.Hx.Own
  have e1 : (List.replicate n z0).flatMap enc = (madeCells z.cells (n * 1)).toList := by
    rw [Nat.mul_one, hzz, hc, madeCells_one]
    clear hbytes h63 ho hr
    induction n with
    | zero => simp
    | succ n ih => rw [List.replicate_succ, List.replicate_succ, List.flatMap_cons, ih, hl]; rfl
  rw [e1, List.length_replicate]
  exact ho
theorem wpl_make {α : Type} {t e bytes : Nat} {enc : α → List Value} {z0 : α} (E : ElTy P t e 1 bytes) (u : Value) (hz0 : (P.info? e).bind (·.zero) = some u) (hl : enc z0 = [u]) (hc : u.cells = #[u])
    (x y : Operand) (ho : o.op = .makeSlice t x y) (hw : Region.wanted o (yielded ops a.tmps) = true) (n : Nat) (kl kc : IntKind) (hx : a.eval x = .int kl n) (hy : a.eval y = .int kc n) (hbytes : bytes * n ≤ 281474976710656) (h63 : n ≤ maxLen) (w : World)
    (h : ∀ w', Go.Hx.Own w' w.heap.size e 1 enc (.slice (some ⟨w.heap.size, 0, none⟩) n n) (List.replicate n z0) → Ext w w' → wpList P ops Q rest (a.put o.dst (.slice (some ⟨w.heap.size, 0, none⟩) n n)) w') : wpList P ops Q (o :: rest) a w := by
  refine wpList_want hw fun K hK => ?_
  obtain ⟨w', hr, h1, h2⟩ := run_make_one E u hz0 hl hc n hbytes h63 w kl kc
  unfold Oper.wp execOp
  simp only [ho, hx, hy, Sem.run_bind, Sem.run_pure, Result.andThen_ok, hr]
  exact hK _ _ (h w' h1 h2)
theorem und_make {α : Type} {t e bytes : Nat} {enc : α → List Value} {z0 : α} (E : ElTy P t e 1 bytes) (u : Value) (hz0 : (P.info? e).bind (·.zero) = some u) (hl : enc z0 = [u]) (hc : u.cells = #[u])
    (x y : Operand) (ho : o.op = .makeSlice t x y) (n : Nat) (kl kc : IntKind) (hx : a.eval x = .int kl n) (hy : a.eval y = .int kc n) (hbytes : bytes * n ≤ 281474976710656) (h63 : n ≤ maxLen) (w : World)
    (h : ∀ w', Go.Hx.Own w' w.heap.size e 1 enc (.slice (some ⟨w.heap.size, 0, none⟩) n n) (List.replicate n z0) → Ext w w' → Φ (.slice (some ⟨w.heap.size, 0, none⟩) n n) w') : undIn Fi P Φ ((execOp a.eval o).run P w) := by
  obtain ⟨w', hr, h1, h2⟩ := run_make_one E u hz0 hl hc n hbytes h63 w kl kc
  unfold execOp
  simp only [ho, hx, hy, Sem.run_bind, Sem.run_pure, Result.andThen_ok, hr]
  exact h w' h1 h2
end
end Go.Hx
