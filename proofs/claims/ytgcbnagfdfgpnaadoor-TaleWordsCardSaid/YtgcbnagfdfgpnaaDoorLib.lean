import Derived.WalkKit
import Derived.WalkSpells
import Derived.WalkLawsBesides
import Derived.Deep.QuietTactic
import Derived.BigQuiet
import Derived.Laws.OwnMore
import Derived.Deep.AppendLies
import Derived.Deep.Draws
import Derived.Maps.AppendAt
import Derived.LoopTactic
import Derived.Deep.DeepFit
import Derived.Laws.StructEq
import Derived.Lib.Hide
import Derived.Test.YtgcbnagfdfgpnaaDoorFree
namespace Go.Hx
open Go.RowKit

/-- the slice type t has elements e, of size cells and bytes bytes -/
structure ElTy (P : Program) (t e size bytes : Nat) : Prop where
  ht : P.underlying t = some (.slice e)
  info : ∃ i z, P.info? e = some i ∧ i.zero = some z ∧ i.size = size ∧ i.bytes = bytes ∧ z.cells.size = size
  pos : 0 < size

theorem ElTy.mk' {P : Program} {t e size bytes : Nat} {z : Value} (ht : P.underlying t = some (.slice e)) (h : (P.info? e).map (fun i => (i.zero, i.size, i.bytes)) = some (some z, size, bytes)) (hz : z.cells.size = size) (hp : 0 < size) : ElTy P t e size bytes := by
  obtain ⟨i, h1, h2, h3, h4⟩ := info_parts h
  exact ⟨ht, ⟨i, z, h1, h2, h3, h4, hz⟩, hp⟩

theorem add_none (b off n : Nat) : (⟨b, off, none⟩ : Addr).add n = ⟨b, off + n, none⟩ := by
  unfold Addr.add; split <;> simp_all

/-- cells at a place -/
def RowAt (w : World) (b off : Nat) (cs : List Value) : Prop := ∀ j u, cs[j]? = some u → w.cell? ⟨b, off + j, none⟩ = some u

/-- a slice that reads as a list, below block B -/
def Sl {α : Type} (w : World) (B : Nat) (enc : α → List Value) (A : Option Addr) (l : List α) : Prop := l = [] ∨ ∃ b off, A = some ⟨b, off, none⟩ ∧ b < B ∧ RowAt w b off (l.flatMap enc)

section
variable {α : Type} {w w' : World} {B B' : Nat} {enc : α → List Value} {A : Option Addr} {l : List α}
theorem RowAt.keep {b off : Nat} {cs : List Value} (h : RowAt w b off cs) (hk : ∀ o, w'.cell? ⟨b, o, none⟩ = w.cell? ⟨b, o, none⟩) : RowAt w' b off cs := fun j u hu => (hk _).trans (h j u hu)
theorem RowAt.below {b off : Nat} {cs : List Value} (h : RowAt w b off cs) (hb : Below B w w') (hB : b < B) : RowAt w' b off cs := h.keep fun _ => hb.cell (p := ⟨b, _, none⟩) hB
theorem Sl.below (h : Sl w B enc A l) (hb : Below B w w') : Sl w' B enc A l := by
  rcases h with h | ⟨b, off, h1, h2, h3⟩
  · exact .inl h
  · exact .inr ⟨b, off, h1, h2, h3.below hb h2⟩
theorem Sl.mono (h : Sl w B enc A l) (hB : B ≤ B') : Sl w B' enc A l := by
  rcases h with h | ⟨b, off, h1, h2, h3⟩
  · exact .inl h
  · exact .inr ⟨b, off, h1, by omega, h3⟩

theorem flatMap_get {size : Nat} (hs : ∀ x, (enc x).length = size) : ∀ (l : List α) (k : Nat) (x : α) (j : Nat) (u : Value), l[k]? = some x → (enc x)[j]? = some u → (l.flatMap enc)[k * size + j]? = some u := by
  intro l
  induction l with
  | nil => intro k x j u h; simp at h
  | cons y l ih =>
    intro k x j u h hj
    rw [List.flatMap_cons]
    cases k with
    | zero =>
      simp only [List.getElem?_cons_zero, Option.some.injEq] at h
      subst h
      have hlt : j < (enc y).length := (List.getElem?_eq_some_iff.1 hj).1
      rw [Nat.zero_mul, Nat.zero_add, List.getElem?_append_left hlt]
      exact hj
    | succ k =>
      simp only [List.getElem?_cons_succ] at h
      rw [List.getElem?_append_right (by rw [hs]; have := Nat.add_mul k 1 size; omega), hs]
      have e : (k + 1) * size + j - size = k * size + j := by have := Nat.add_mul k 1 size; omega
      rw [e]
      exact ih k x j u h hj

theorem Sl.row {size : Nat} (hs : ∀ x, (enc x).length = size) (h : Sl w B enc A l) {k : Nat} {x : α} (hx : l[k]? = some x) : ∃ b off, A = some ⟨b, off, none⟩ ∧ b < B ∧ RowAt w b (off + k * size) (enc x) := by
  rcases h with rfl | ⟨b, off, h1, h2, h3⟩
  · simp at hx
  · refine ⟨b, off, h1, h2, fun j u hu => ?_⟩
    have := h3 _ _ (flatMap_get hs l k x j u hx hu)
    rwa [← Nat.add_assoc] at this
end

/-- a row of the call's own that reads as a list -/
def Own {α : Type} (w : World) (base e size : Nat) (enc : α → List Value) (v : Value) (l : List α) : Prop := w.ownsRow base e size v l.length (l.flatMap enc)

theorem Own.nil {α : Type} (w : World) (base e size : Nat) (enc : α → List Value) : Own w base e size enc (.slice none 0 0) [] := World.ownsRow_nil _ _ _ _

theorem cells_new {w : World} (cs : List Value) (t : TypeId) : ∀ j u, cs[j]? = some u → (w.alloc (.cells cs.toArray t)).cell? ((⟨w.heap.size, 0, none⟩ : Addr).add j) = some u := by
  intro j u hu
  rw [add_none, Nat.zero_add, cell_of_row _ w.heap.size j cs.toArray t (0, 0) (heap_alloc_new w _)]
  simpa using hu

section
variable {P : Program} {ops : Array Oper} {rest : List Oper} {o : Oper} {a : Act} {Q : Exit → Act → World → Prop}

/-- 'out = append(out, x)': x was just laid in a block of its own -/
theorem app_one {α : Type} {t e size bytes : Nat} (E : ElTy P t e size bytes) (hgd : o.guard = none) (s x : Operand) (ho : o.op = .call { callee := .builtin .append, args := #[s, x], argTypes := #[t, t] })
    (W : World) (base : Nat) (enc : α → List Value) (v : Value) (l : List α) (y : α) (hs : a.eval s = v) (hown : Own W base e size enc v l)
    (g c : Nat) (hx : a.eval x = .slice (some ⟨g, 0, none⟩) 1 c) (hg : g = W.heap.size) (hl : (enc y).length = size) (h1 : (enc y).all (·.oneCell') = true)
    (hbytes : (l.length + 1) * bytes ≤ 140737488355328) (h63 : l.length + 1 ≤ maxLen) (hbase : base ≤ W.heap.size)
    (h : ∀ v' w', Own w' base e size enc v' (l ++ [y]) → W.grownBy w' v.ownBlock → (v'.ownBlock = v.ownBlock ∨ ∃ g, v'.ownBlock = some g ∧ W.heap.size ≤ g) → wpList P ops Q rest (a.put o.dst v') w') :
    wpList P ops Q (o :: rest) a (W.alloc (.cells (enc y).toArray e)) := by
  subst hg
  obtain ⟨i, z, hi, hz, hsz, hby, hzs⟩ := E.info
  refine wpList_plain hgd fun K hK => ?_
  have hlen : (enc y).length = 1 * size := by omega
  obtain ⟨v', w', hr, h2, h3, _, h5⟩ := run_append_own_at (P := P) (W.alloc (.cells (enc y).toArray e)) base t o.type e i z size bytes E.ht hi hz hsz hby hzs E.pos v l.length (l.flatMap enc)
    (World.ownsRow.alloc hown _) ⟨W.heap.size, 0, none⟩ 1 c (enc y) hlen (cells_new _ _) (by simpa using h1) h63 hbytes (by simp; omega)
  unfold Oper.wp execOp
  simp only [ho, resolve, invoke, builtin, Sem.run_bind, Sem.run_pure, Result.andThen_ok, List.map_toArray, List.map_cons, List.map_nil, hs, hx, hr]
  refine hK _ _ (h v' w' ?_ ?_ ?_)
  · unfold Own
    simpa using h2
  · exact ⟨h3.os, h3.tape, h3.output, by have := h3.size; simp at this; omega, fun k hk hne => (h3.block k (by simp; omega) hne).trans (Below.heap_alloc W _ k hk)⟩
  · rcases h5 with h5 | h5
    · exact .inl h5
    · exact .inr ⟨_, h5, by simp⟩
end

theorem Own.below_block {α : Type} {w : World} {base e size : Nat} {enc : α → List Value} {v : Value} {l : List α} (h : Own w base e size enc v l) : ∀ k, v.ownBlock = some k → base ≤ k := fun k hk => (World.ownsRow.lt h k hk).1

theorem Own.below {α : Type} {w w' w0 : World} {B base e size : Nat} {enc : α → List Value} {v : Value} {l : List α} (h : Own w base e size enc v l) (hb : Below B w0 w) (hg : w.grownBy w' v.ownBlock) (hB : B ≤ base) (hbase : B ≤ w.heap.size) : Below B w0 w' :=
  hb.grown hg hbase fun k hk => Nat.le_trans hB (h.below_block k hk)

theorem Own.alloc {α : Type} {w : World} {base e size : Nat} {enc : α → List Value} {v : Value} {l : List α} (h : Own w base e size enc v l) (o : Obj) : Own (w.alloc o) base e size enc v l := World.ownsRow.alloc h o
theorem Own.drewN {α : Type} {w : World} {base e size : Nat} {enc : α → List Value} {v : Value} {l : List α} (h : Own w base e size enc v l) (n : Nat) : Own (w.drewN n) base e size enc v l := h

theorem take_snoc {α : Type} {l : List α} {k : Nat} {x : α} (h : l[k]? = some x) : l.take (k + 1) = l.take k ++ [x] := by
  rw [List.take_add_one, h]; rfl
theorem filter_take_yes {α : Type} {l : List α} {k : Nat} {x : α} {p : α → Bool} (h : l[k]? = some x) (hp : p x = true) : (l.take (k + 1)).filter p = (l.take k).filter p ++ [x] := by
  rw [take_snoc h, List.filter_append]; simp [hp]
theorem filter_take_no {α : Type} {l : List α} {k : Nat} {x : α} {p : α → Bool} (h : l[k]? = some x) (hp : p x = false) : (l.take (k + 1)).filter p = (l.take k).filter p := by
  rw [take_snoc h, List.filter_append]; simp [hp]
theorem filter_take_le {α : Type} (l : List α) (k : Nat) (p : α → Bool) : ((l.take k).filter p).length ≤ k := Nat.le_trans (List.length_filter_le _ _) (List.length_take_le _ _)

end Go.Hx
namespace Go.Hx
open Go.RowKit
theorem take_eq_succ {α : Type} {l m : List α} {k : Nat} {a b : α} (ha : l[k]? = some a) (hb : m[k]? = some b) (hq : a = b) (h : Hid (l.take k = m.take k)) : Hid (l.take (k + 1) = m.take (k + 1)) := by
  have := h.out
  show _ = _
  rw [take_snoc ha, take_snoc hb, this, hq]
theorem ne_of_get {α : Type} {l m : List α} {k : Nat} {a b : α} (ha : l[k]? = some a) (hb : m[k]? = some b) (hq : a ≠ b) : l ≠ m := by
  rintro rfl
  rw [ha] at hb
  injection hb with hb
  exact hq hb
end Go.Hx
namespace Go.Hx
theorem ret_bool {b c : Bool} (h : b = c) : Ending.returned (.bool b) = .returned (.bool c) := by rw [h]
theorem ret_int {k : IntKind} {b c : Int} (h : b = c) : Ending.returned (.int k b) = .returned (.int k c) := by rw [h]
end Go.Hx
namespace Go.Hx
open Go.RowKit
theorem map_take_succ {α β : Type} {f : α → β} {l m : List α} {k : Nat} {a b : α} (ha : l[k]? = some a) (hb : m[k]? = some b) (hq : f a = f b) (h : Hid ((l.take k).map f = (m.take k).map f)) : Hid ((l.take (k + 1)).map f = (m.take (k + 1)).map f) := by
  have := h.out
  show _ = _
  rw [take_snoc ha, take_snoc hb, List.map_append, List.map_append, this]
  simp [hq]
theorem ne_of_map {α β : Type} {f : α → β} {l m : List α} {k : Nat} {a b : α} (ha : l[k]? = some a) (hb : m[k]? = some b) (hq : f a ≠ f b) : l.map f ≠ m.map f := by
  intro h
  have h1 : (l.map f)[k]? = some (f a) := by rw [List.getElem?_map, ha]; rfl
  have h2 : (m.map f)[k]? = some (f b) := by rw [List.getElem?_map, hb]; rfl
  rw [h, h2] at h1
  injection h1 with h1
  exact hq h1.symm
end Go.Hx
namespace Go.Hx
open Go.RowKit
/-- ty is a struct of n cells -/
def AggTy (P : Program) (ty n : Nat) : Prop := (∃ d, P.underlying ty = some d ∧ (match d with | .struct _ | .array _ _ => true | _ => false) = true) ∧ (P.info? ty).map (·.size) = some n

theorem run_loadVar_at {P : Program} {w : World} {b off : Nat} {ty : TypeId} {cs : List Value} (hrow : RowAt w b off cs) (h : AggTy P ty cs.length) : (loadVar ty ⟨b, off, none⟩).run P w = .ok (.agg cs.toArray) w := by
  obtain ⟨⟨d, hu, hd⟩, hi⟩ := h
  have hl : (loadCells ⟨b, off, none⟩ cs.length).run P w = .ok cs.toArray w :=
    run_loadCells_list (P := P) w ⟨b, off, none⟩ cs (fun j v hv => by rw [add_none]; exact hrow j v hv)
  cases hq : P.info? ty with
  | none => rw [hq] at hi; cases hi
  | some i =>
    rw [hq] at hi
    simp only [Option.map_some, Option.some.injEq] at hi
    cases d <;> simp at hd <;> simp [loadVar, isAgg, run_underlying hu, sizeOf, typeInfo, hq, hi, hl]

section
variable {P : Program} {ops : Array Oper} {C : World → Prop} {R : World → World → Prop} {U : Nat → Option Spec} {Lq : Act → (World → Prop) → Prop} {o : Oper} {rest : List Oper} {k : Nat} {a : Act} {F : World → Prop}
/-- a struct that lies at a place is loaded -/
theorem text_load_row (ty : TypeId) (x : Operand) (ho : o.op = .load ty x) (hu : U k = none) (hw : Region.wanted o (yielded ops a.tmps) = true) (b off : Nat) (cs : List Value) (hx : a.eval x = .pointer (some ⟨b, off, none⟩)) (hT : AggTy P ty cs.length)
    (hrow : ∀ w, C w → RowAt w b off cs) (h : ∀ K : Act → Prop, (∀ a, wpText P ops C R U Lq rest (k + 1) a F → K a) → K (a.put o.dst (.agg cs.toArray))) : wpText P ops C R U Lq (o :: rest) k a F := by
  refine text_det hu hw ⟨.agg cs.toArray, fun w hC => ?_, h⟩
  unfold execOp
  simp only [ho, hx, Instr.loadAt, Instr.sureAddr, Sem.run_bind, Sem.run_pure, Result.andThen_ok, run_loadVar_at (hrow w hC) hT]
  exact ⟨rfl, rfl⟩
end
end Go.Hx
namespace Go.Hx
/-- one number or another one -/
def pick (b : Bool) (m n : Int) : Int := if b then m else n
end Go.Hx
namespace Go.Hx
open Go.RowKit
/-- block g is just these cells -/
def Blk (w : World) (g : Nat) (t : TypeId) (cs : List Value) : Prop := w.heap[g]? = some (.cells cs.toArray t (0, 0))
section
variable {w w' : World} {g : Nat} {t : TypeId} {cs : List Value}
theorem Blk.lt (h : Blk w g t cs) : g < w.heap.size := by
  rcases Nat.lt_or_ge g w.heap.size with hlt | hge
  · exact hlt
  · unfold Blk at h; rw [Array.getElem?_eq_none hge] at h; cases h
theorem Blk.cell (h : Blk w g t cs) (i : Nat) : w.cell? ⟨g, i, none⟩ = cs[i]? := by
  rw [cell_of_row w g i _ t (0, 0) h]; simp
theorem Blk.free (h : Blk w g t cs) (i : Nat) : w.frozen? ⟨g, i, none⟩ = false := by
  unfold Blk at h
  simp [World.frozen?, h]
theorem Blk.new {W : World} (hg : g = W.heap.size) : Blk (W.alloc (.cells cs.toArray t)) g t cs := by subst hg; exact heap_alloc_new W _
theorem Blk.alloc (h : Blk w g t cs) (o : Obj) : Blk (w.alloc o) g t cs := (Below.heap_alloc w o g h.lt).trans h
theorem Blk.drew (h : Blk w g t cs) : Blk w.drew g t cs := h
theorem Blk.drewN (h : Blk w g t cs) (n : Nat) : Blk (w.drewN n) g t cs := h
theorem Blk.ext (h : Blk w g t cs) (hE : Ext w w') : Blk w' g t cs := (hE.block g h.lt).trans h
theorem Blk.set (h : Blk w g t cs) (i : Nat) (u : Value) : Blk (w.setCell ⟨g, i, none⟩ u) g t (cs.set i u) := by
  unfold Blk at h ⊢
  simp [World.setCell, Array.getElem?_modify, h]
theorem Blk.far (h : Blk w g t cs) {p : Addr} (hp : g ≠ p.block) (u : Value) : Blk (w.setCell p u) g t cs := (Below.heap_setCell w p u g hp).trans h
theorem Blk.row (h : Blk w g t cs) : RowAt w g 0 cs := fun j u hu => by rw [Nat.zero_add, h.cell, hu]
theorem Blk.part (h : Blk w g t cs) (off n : Nat) : RowAt w g off ((cs.drop off).take n) := fun j u hu => by
  rw [h.cell]
  rw [List.getElem?_take] at hu
  split at hu
  · rwa [List.getElem?_drop] at hu
  · cases hu
theorem Blk.rules (h : Blk w g t cs) : (∀ i, w.cell? ⟨g, i, none⟩ = cs[i]?) ∧ (∀ i, w.frozen? ⟨g, i, none⟩ = false) := ⟨h.cell, h.free⟩
end
end Go.Hx
namespace Go.Hx
open Go.RowKit
/-- but for block g nothing that is there turned, and no block is new -/
structure Only (w w' : World) (g : Nat) : Prop where
  os : w'.os = w.os
  tape : w'.tape = w.tape
  output : w'.output = w.output
  size : w'.heap.size = w.heap.size
  block : ∀ k, k ≠ g → w'.heap[k]? = w.heap[k]?
theorem Only.ext {w0 w w' : World} {g : Nat} (h : Ext w0 w) (k : Only w w' g) (hg : w0.heap.size ≤ g) : Ext w0 w' :=
  ⟨k.os.trans h.os, k.tape.trans h.tape, k.output.trans h.output, by rw [k.size]; exact h.size, fun i hi => (k.block i (by omega)).trans (h.block i hi)⟩
theorem Blk.only {w w' : World} {g h : Nat} {t : TypeId} {cs : List Value} (hB : Blk w g t cs) (k : Only w w' h) (hne : g ≠ h) : Blk w' g t cs := (k.block g hne).trans hB

section
variable {P : Program} {ops : Array Oper} {rest : List Oper} {o : Oper} {a : Act} {Q : Exit → Act → World → Prop} {w : World}
theorem wpList_want (hw : Region.wanted o (yielded ops a.tmps) = true) (h : ∀ K : Act → World → Prop, (∀ a w, wpList P ops Q rest a w → K a w) → o.wp P a w K Q) : wpList P ops Q (o :: rest) a w :=
  wpList_step fun K hK => by rw [if_pos hw]; exact h K hK

theorem wpl_load (ty : TypeId) (x : Operand) (ho : o.op = .load ty x) (hw : Region.wanted o (yielded ops a.tmps) = true) (b off : Nat) (cs : List Value) (hx : a.eval x = .pointer (some ⟨b, off, none⟩)) (hT : AggTy P ty cs.length)
    (hrow : RowAt w b off cs) (h : wpList P ops Q rest (a.put o.dst (.agg cs.toArray)) w) : wpList P ops Q (o :: rest) a w := by
  refine wpList_want hw fun K hK => ?_
  unfold Oper.wp execOp
  simp only [ho, hx, Instr.loadAt, Instr.sureAddr, Sem.run_bind, Sem.run_pure, Result.andThen_ok, run_loadVar_at hrow hT]
  exact hK _ _ h

theorem run_storeVar_at {g off : Nat} {ty : TypeId} {t : TypeId} {cs vs : List Value} (hT : AggTy P ty vs.length) (hB : Blk w g t cs) (hfit : off + vs.length ≤ cs.length) (h1 : vs.all (·.oneCell') = true) :
    (storeVar ty ⟨g, off, none⟩ (.agg vs.toArray)).run P w = .ok () (w.setRow g (cs.take off ++ vs ++ cs.drop (off + vs.length)).toArray) := by
  have hst := run_storeCells_at P g off t vs 0 cs.toArray w hB (by simpa using hfit) (by simpa using h1)
  obtain ⟨⟨d, hu, hd⟩, hi⟩ := hT
  cases hq : P.info? ty with
  | none => rw [hq] at hi; cases hi
  | some i =>
    rw [hq] at hi
    simp only [Option.map_some, Option.some.injEq] at hi
    simp only [Nat.add_zero] at hst
    simp [storeVar, sizeOf, typeInfo, hq, hi, Value.cells, hst]

theorem wpl_store (ty : TypeId) (x y : Operand) (ho : o.op = .store ty x y) (hw : Region.wanted o (yielded ops a.tmps) = true) (g off : Nat) (t : TypeId) (cs vs : List Value) (hx : a.eval x = .pointer (some ⟨g, off, none⟩)) (hy : a.eval y = .agg vs.toArray)
    (hT : AggTy P ty vs.length) (hB : Blk w g t cs) (hfit : off + vs.length ≤ cs.length) (h1 : vs.all (·.oneCell') = true)
    (h : ∀ w', Blk w' g t (cs.take off ++ vs ++ cs.drop (off + vs.length)) → Only w w' g → wpList P ops Q rest (a.put o.dst undef) w') : wpList P ops Q (o :: rest) a w := by
  refine wpList_want hw fun K hK => ?_
  have hr := run_storeVar_at (P := P) (off := off) hT hB hfit h1
  unfold Oper.wp execOp
  simp only [ho, hx, hy, Instr.storeAt, Instr.sureAddr, Sem.run_bind, Sem.run_pure, Result.andThen_ok, hr]
  refine hK _ _ (h _ ?_ ⟨rfl, rfl, rfl, by simp [World.setRow], fun k hk => setRow_other w g k _ hk⟩)
  unfold Blk
  rw [setRow_heap w g cs.toArray _ t (0, 0) hB]
end
end Go.Hx
namespace Go.Hx
open Go.RowKit
section
variable {P : Program} {fn : Func} {w : World} {tmps : Array Value} {p q t u : Tmp} {ty ty' g g' tt tt' : Nat} {cs cs' : List Value}
theorem results_c (h : fn.results = #[.cell p ty]) (hp : tmps.getD p undef = .pointer (some ⟨g, 0, none⟩)) (hB : Blk w g tt cs) (hT : AggTy P ty cs.length) : (results fn tmps).run P w = .ok (.agg cs.toArray) w := by
  have hp' : tmps[p]?.getD undef = .pointer (some ⟨g, 0, none⟩) := by simpa using hp
  simp [results, h, hp', asAddr, run_loadVar_at hB.row hT]
theorem results_ct (h : fn.results = #[.cell p ty, .tmp t]) (hp : tmps.getD p undef = .pointer (some ⟨g, 0, none⟩)) (hB : Blk w g tt cs) (hT : AggTy P ty cs.length) : (results fn tmps).run P w = .ok (.tuple #[.agg cs.toArray, tmps.getD t undef]) w := by
  have hp' : tmps[p]?.getD undef = .pointer (some ⟨g, 0, none⟩) := by simpa using hp
  simp [results, h, hp', asAddr, run_loadVar_at hB.row hT]
theorem results_ctt (h : fn.results = #[.cell p ty, .tmp t, .tmp u]) (hp : tmps.getD p undef = .pointer (some ⟨g, 0, none⟩)) (hB : Blk w g tt cs) (hT : AggTy P ty cs.length) : (results fn tmps).run P w = .ok (.tuple #[.agg cs.toArray, tmps.getD t undef, tmps.getD u undef]) w := by
  have hp' : tmps[p]?.getD undef = .pointer (some ⟨g, 0, none⟩) := by simpa using hp
  simp [results, h, hp', asAddr, run_loadVar_at hB.row hT]
theorem results_cct (h : fn.results = #[.cell p ty, .cell q ty', .tmp t]) (hp : tmps.getD p undef = .pointer (some ⟨g, 0, none⟩)) (hB : Blk w g tt cs) (hT : AggTy P ty cs.length)
    (hq : tmps.getD q undef = .pointer (some ⟨g', 0, none⟩)) (hB' : Blk w g' tt' cs') (hT' : AggTy P ty' cs'.length) : (results fn tmps).run P w = .ok (.tuple #[.agg cs.toArray, .agg cs'.toArray, tmps.getD t undef]) w := by
  have hp' : tmps[p]?.getD undef = .pointer (some ⟨g, 0, none⟩) := by simpa using hp
  have hq' : tmps[q]?.getD undef = .pointer (some ⟨g', 0, none⟩) := by simpa using hq
  simp [results, h, hp', hq', asAddr, run_loadVar_at hB.row hT, run_loadVar_at hB'.row hT']
end
end Go.Hx
