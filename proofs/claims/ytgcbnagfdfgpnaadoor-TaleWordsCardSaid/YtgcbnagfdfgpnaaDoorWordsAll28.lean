/- What stays when the book-keeping of a range over a function turns a block that holds no cells; whole structs loaded and stored inside a fence. -/
import Derived.RangeFuncNested
import Derived.RangeFuncBound
import Derived.RangeFuncCalls
import Derived.RangeFuncLeaves
import Derived.OwnWalkIn
import Derived.TacticsInMore
import Derived.Test.YtgcbnagfdfgpnaaDoorChain
import Derived.Test.YtgcbnagfdfgpnaaDoorWordsAll19
namespace Go.Hx
open Go Go.RowKit

section
variable {W W' : World} {row : Option Nat}
/-- a block that holds no cells may have turned -/
def Turn (W W' : World) (row : Option Nat) : Prop := W.grownBy W' row ∧ ∀ r, row = some r → ∃ o : Obj, W.heap[r]? = some o ∧ o.isCells = false
theorem Turn.block (h : Turn W W' row) {g : Nat} {cs : Array Value} {t : TypeId} {p : Nat × Nat} (hg : W.heap[g]? = some (.cells cs t p)) : W'.heap[g]? = W.heap[g]? := by
  refine h.1.block g (block_lt hg) fun e => ?_
  obtain ⟨o, ho, hc⟩ := h.2 g e.symm
  rw [hg] at ho
  cases ho
  cases hc
theorem Blk.turn {g t : Nat} {cs : List Value} (h : Blk W g t cs) (k : Turn W W' row) : Blk W' g t cs := (k.block h).trans h
theorem Own.turn {α : Type} {B e size : Nat} {enc : α → List Value} {v : Value} {l : List α} (h : Go.Hx.Own W B e size enc v l) (k : Turn W W' row) : Go.Hx.Own W' B e size enc v l := by
  refine Go.Hx.Own.kept h k.1 ?_
  cases hv : v.ownBlock with
  | none => exact .inl rfl
  | some g =>
    refine .inr fun e => ?_
    obtain ⟨cur, hg⟩ := Own.typed h hv
    obtain ⟨o, ho, hc⟩ := k.2 g e.symm
    rw [hg] at ho
    cases ho
    cases hc
theorem XDyad.mine.turn {B : Nat} {x : XDyad} (h : x.mine W B) (k : Turn W W' row) : x.mine W' B := ⟨Own.turn h.limbs k⟩
theorem Ext.turn {w : World} {B : Nat} (h : Ext w W) (hB : w.heap.size ≤ B) (k : W.grownBy W' row) (hr : ∀ r, row = some r → B ≤ r) : Ext w W' :=
  RowKit.Below.grown h k h.size fun r e => Nat.le_trans hB (hr r e)
theorem Ext.put {w : World} (h : Ext w W) (l : Nat) (o : Obj) (hl : w.heap.size ≤ l) : Ext w (W.putObj l o) :=
  RowKit.Below.grown h (grownBy_putObj' W l o) h.size fun r e => by cases e; exact hl
theorem Turn.put (W : World) {l : Nat} {o : Obj} (o' : Obj) (h : W.heap[l]? = some o) (hc : o.isCells = false) : Turn W (W.putObj l o') (some l) :=
  ⟨grownBy_putObj' W l o', fun r e => by cases e; exact ⟨o, h, hc⟩⟩
theorem KeepsOthers.ext (h : Ext W W') : KeepsOthers W W' := ⟨h.size, fun k _ hk _ => (h.block k (Array.getElem?_eq_some_iff.1 hk).1).trans hk⟩
theorem KeepsOthers.only {g t : Nat} {cs : List Value} (hB : Blk W g t cs) (h : Only W W' g) : KeepsOthers W W' := ⟨by rw [h.size]; exact Nat.le_refl _, fun k o hk ho => by
  by_cases e : k = g
  · subst e
    unfold Blk at hB
    rw [hB] at hk
    cases hk
    cases ho
  · exact (h.block k e).trans hk⟩
end

section
variable {Fi : Fence} {n : Nat} {P : Program} {ops : Array Oper} {rest : List Oper} {o : Oper} {a : Act} {Q : Exit → Act → World → Prop} {w : World}
theorem wplIn_load (hop : Open Fi) (ty : TypeId) (x : Operand) (ho : o.op = .load ty x) (hw : Region.wanted o (yielded ops a.tmps) = true) (b off : Nat) (cs : List Value) (hx : a.eval x = .pointer (some ⟨b, off, none⟩)) (hT : AggTy P ty cs.length)
    (hrow : RowAt w b off cs) (h : wpListIn Fi n P ops Q rest (a.put o.dst (.agg cs.toArray)) w) : wpListIn Fi n P ops Q (o :: rest) a w := by
  refine wpListIn_step fun K hK => ?_
  rw [if_pos hw]
  have hsem : o.semAt Fi.round a.eval = execOp a.eval o := Oper.semAt_eq _ _ _ (fun c => by rw [ho]; intro h; cases h)
  unfold Oper.wpIn
  refine ⟨fun f _ => hop.fn f, ?_⟩
  rw [hsem]
  unfold execOp
  simp only [ho, hx, Instr.loadAt, Instr.sureAddr, Sem.run_bind, Sem.run_pure, Result.andThen_ok, run_loadVar_at hrow hT]
  exact hK _ _ h

theorem wplIn_store (hop : Open Fi) (ty : TypeId) (x y : Operand) (ho : o.op = .store ty x y) (hw : Region.wanted o (yielded ops a.tmps) = true) (g off : Nat) (t : TypeId) (cs vs : List Value) (hx : a.eval x = .pointer (some ⟨g, off, none⟩)) (hy : a.eval y = .agg vs.toArray)
    (hT : AggTy P ty vs.length) (hB : Blk w g t cs) (hfit : off + vs.length ≤ cs.length) (h1 : vs.all (·.oneCell') = true)
    (h : ∀ w', Blk w' g t (cs.take off ++ vs ++ cs.drop (off + vs.length)) → Only w w' g → wpListIn Fi n P ops Q rest (a.put o.dst undef) w') : wpListIn Fi n P ops Q (o :: rest) a w := by
  refine wpListIn_step fun K hK => ?_
  rw [if_pos hw]
  have hsem : o.semAt Fi.round a.eval = execOp a.eval o := Oper.semAt_eq _ _ _ (fun c => by rw [ho]; intro h; cases h)
  have hr := run_storeVar_at (P := P) (off := off) hT hB hfit h1
  unfold Oper.wpIn
  refine ⟨fun f _ => hop.fn f, ?_⟩
  rw [hsem]
  unfold execOp
  simp only [ho, hx, hy, Instr.storeAt, Instr.sureAddr, Sem.run_bind, Sem.run_pure, Result.andThen_ok, hr]
  refine hK _ _ (h _ ?_ ⟨rfl, rfl, rfl, by simp [World.setRow], fun k hk => setRow_other w g k _ hk⟩)
  unfold Blk
  rw [setRow_heap w g cs.toArray _ t (0, 0) hB]
end

section
variable {Fi : Fence} {P : Program} {ops : Array Oper} {ch : Nat → Nat} {Lq : Act → (World → Prop) → (World → Prop) → Prop} {o : Oper} {rest : List Oper} {k : Nat} {a : Act} {C J : World → Prop}
/-- a struct that lies at a place is loaded -/
theorem ctext_load_row (ty : TypeId) (x : Operand) (ho : o.op = .load ty x) (hu : ch k = 0) (hw : Region.wanted o (yielded ops a.tmps) = true) (b off : Nat) (cs : List Value) (hx : a.eval x = .pointer (some ⟨b, off, none⟩)) (hT : AggTy P ty cs.length)
    (hrow : ∀ w, C w → RowAt w b off cs) (h : ∀ K : Act → Prop, (∀ a, wpTextC Fi P ops ch Lq rest (k + 1) a C J → K a) → K (a.put o.dst (.agg cs.toArray))) : wpTextC Fi P ops ch Lq (o :: rest) k a C J := by
  refine ctext_det hu hw ⟨.agg cs.toArray, fun w hC => ?_, h⟩
  unfold execOp
  simp only [ho, hx, Instr.loadAt, Instr.sureAddr, Sem.run_bind, Sem.run_pure, Result.andThen_ok, run_loadVar_at (hrow w hC) hT]
  exact ⟨rfl, rfl⟩
end
end Go.Hx
