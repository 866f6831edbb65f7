/- Appends as steps of a region that draws its order. -/
import Derived.Test.YtgcbnagfdfgpnaaDoorChain
import Derived.Test.YtgcbnagfdfgpnaaDoorWordsAll2
namespace Go.Hx
open Go.RowKit
section
variable {Fi : Fence} {P : Program} {o : Oper} {a : Act} {Φ : Value → World → Prop}
/-- 'append(out, x)': x was just laid in a block of its own -/
theorem und_app_one {α : Type} {t e size bytes : Nat} (E : ElTy P t e size bytes) (s x : Operand) (ho : o.op = .call { callee := .builtin .append, args := #[s, x], argTypes := #[t, t] })
    (W : World) (base : Nat) (enc : α → List Value) (v : Value) (l : List α) (y : α) (hs : a.eval s = v) (hown : Go.Hx.Own W base e size enc v l)
    (g c : Nat) (hx : a.eval x = .slice (some ⟨g, 0, none⟩) 1 c) (hg : g = W.heap.size) (hl : (enc y).length = size) (h1 : (enc y).all (·.oneCell') = true)
    (hbytes : (l.length + 1) * bytes ≤ 140737488355328) (h63 : l.length + 1 ≤ maxLen) (hbase : base ≤ W.heap.size)
    (h : ∀ v' w', Go.Hx.Own w' base e size enc v' (l ++ [y]) → W.grownBy w' v.ownBlock → Φ v' w') :
    undIn Fi P Φ ((execOp a.eval o).run P (W.alloc (.cells (enc y).toArray e))) := by
  subst hg
  obtain ⟨i, z, hi, hz, hsz, hby, hzs⟩ := E.info
  have hlen : (enc y).length = 1 * size := by omega
  obtain ⟨v', w', hr, h2, h3, _, h5⟩ := run_append_own_at (P := P) (W.alloc (.cells (enc y).toArray e)) base t o.type e i z size bytes E.ht hi hz hsz hby hzs E.pos v l.length (l.flatMap enc)
    (World.ownsRow.alloc hown _) ⟨W.heap.size, 0, none⟩ 1 c (enc y) hlen (cells_new _ _) (by simpa using h1) h63 hbytes (by simp; omega)
  unfold execOp
  simp only [ho, resolve, invoke, builtin, Sem.run_bind, Sem.run_pure, Result.andThen_ok, List.map_toArray, List.map_cons, List.map_nil, hs, hx, hr]
  refine h v' w' ?_ ?_
  · unfold Go.Hx.Own
    simpa using h2
  · exact ⟨h3.os, h3.tape, h3.output, by have := h3.size; simp at this; omega, fun k hk hne => (h3.block k (by simp; omega) hne).trans (Below.heap_alloc W _ k hk)⟩
/-- 'append(out, l...)' -/
theorem und_app_many {α : Type} {t e size bytes : Nat} (E : ElTy P t e size bytes) (s x : Operand) (ho : o.op = .call { callee := .builtin .append, args := #[s, x], argTypes := #[t, t] })
    (W : World) (base : Nat) (enc : α → List Value) (v : Value) (l : List α) (ys : List α) (hs : a.eval s = v) (hown : Go.Hx.Own W base e size enc v l)
    (A : Option Addr) (n c : Nat) (hx : a.eval x = .slice A n c) (hn : ys.length = n) (hsl : Sl W W.heap.size enc A ys) (hl : ∀ y, (enc y).length = size) (h1 : ∀ y, (enc y).all (·.oneCell') = true)
    (hbytes : (l.length + ys.length) * bytes ≤ 140737488355328) (h63 : l.length + ys.length ≤ maxLen) (hbase : base ≤ W.heap.size)
    (h : ∀ v' w', Go.Hx.Own w' base e size enc v' (l ++ ys) → W.grownBy w' v.ownBlock → Φ v' w') :
    undIn Fi P Φ ((execOp a.eval o).run P W) := by
  subst hn
  obtain ⟨i, z, hi, hz, hsz, hby, hzs⟩ := E.info
  have key : ∃ v' w', (Builtin.append_ #[t, t] o.type #[v, .slice A ys.length c]).run P W = .ok v' w' ∧ Go.Hx.Own w' base e size enc v' (l ++ ys) ∧ W.grownBy w' v.ownBlock := by
    by_cases hy : ys = []
    · subst hy
      obtain ⟨A', c', hv, hok⟩ := hown.form
      subst hv
      have hsrc : Src P i.size t (.slice A 0 c) 0 [] W := by
        cases A with
        | none => exact Src.ofNil W E.ht c
        | some a => exact Src.ofSlice W E.ht a 0 c [] (by simp) (by simp) (by simp)
      refine ⟨_, W, run_append_nothing W t t o.type e i E.ht hi A' l.length c' hok.2.1 _ hsrc, ?_, ⟨rfl, rfl, rfl, Nat.le_refl _, fun _ _ _ => rfl⟩⟩
      rw [List.append_nil]
      exact hown
    · obtain ⟨b, off, hA, hb, hrow⟩ := hsl.resolve_left hy
      subst hA
      have hlen : (ys.flatMap enc).length = ys.length * size := by
        clear hx hsl hbytes h63 h hy hrow
        induction ys with
        | nil => simp
        | cons y ys ih => rw [List.flatMap_cons, List.length_append, ih, hl, List.length_cons, Nat.add_mul]; omega
      obtain ⟨v', w', hr, h2, h3, _, h5⟩ := run_append_own_at (P := P) W base t o.type e i z size bytes E.ht hi hz hsz hby hzs E.pos v l.length (l.flatMap enc) hown ⟨b, off, none⟩ ys.length c (ys.flatMap enc) hlen
        (fun j u hu => by rw [add_none]; exact hrow j u hu) (fun u hu => by obtain ⟨y, _, hy⟩ := List.mem_flatMap.1 hu; exact (List.all_eq_true.1 (h1 y)) u hy) h63 hbytes hbase
      refine ⟨v', w', hr, ?_, h3⟩
      unfold Go.Hx.Own
      rw [List.flatMap_append, List.length_append]
      exact h2
  obtain ⟨v', w', hr, h2, h3⟩ := key
  unfold execOp
  simp only [ho, resolve, invoke, builtin, Sem.run_bind, Sem.run_pure, Result.andThen_ok, List.map_toArray, List.map_cons, List.map_nil, hs, hx, hr]
  exact h v' w' h2 h3
end
end Go.Hx
