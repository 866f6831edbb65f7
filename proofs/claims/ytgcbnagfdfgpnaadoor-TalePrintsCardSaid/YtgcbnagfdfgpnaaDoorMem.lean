/- Rows that a call owns, rows of rows, and what stays of them. -/
import Derived.Deep.Onto
import Derived.Deep.AppendSrc
import Derived.Deep.Upon
import Derived.Test.YtgcbnagfdfgpnaaDoorData
namespace Go.Hx
open Go.RowKit

section
variable {α : Type} {w w' : World} {base e size : Nat} {enc : α → List Value} {v : Value} {l : List α}

/-- the form of a row that is owned -/
theorem Own.form (h : Own w base e size enc v l) : ∃ A c, v = .slice A l.length c ∧ LX.ok w w.heap.size enc ⟨l, A, c⟩ := by
  rcases h.2 with ⟨rfl, hn⟩ | ⟨g, cap, cur, rfl, hb, hg, hc, hm, hs, ht⟩
  · have : l = [] := List.eq_nil_of_length_eq_zero hn
    subst this
    exact ⟨none, 0, rfl, .inl rfl, by simp, by simp [maxLen]⟩
  · have hlt : g < w.heap.size := by
      rcases Nat.lt_or_ge g w.heap.size with hlt | hge
      · exact hlt
      · rw [Array.getElem?_eq_none hge] at hg; cases hg
    refine ⟨_, _, rfl, .inr ⟨g, 0, rfl, hlt, fun j u hu => ?_⟩, hc, hm⟩
    have := World.ownsRow.cells (w := w) (base := base) (e := e) (size := size) h (g := g) rfl j u hu
    rwa [add_none] at this

theorem Own.ok {A : Option Addr} {c : Nat} (h : Own w base e size enc (.slice A l.length c) l) : LX.ok w w.heap.size enc ⟨l, A, c⟩ := by
  obtain ⟨A', c', hv, hok⟩ := h.form
  cases hv
  exact hok

/-- block of a row that is owned: its type -/
theorem Own.typed (h : Own w base e size enc v l) {g : Nat} (hg : v.ownBlock = some g) : ∃ cur, w.heap[g]? = some (.cells cur e (0, 0)) := by
  rcases h.2 with ⟨rfl, _⟩ | ⟨g', cap, cur, rfl, _, hg', _⟩
  · cases hg
  · cases hg; exact ⟨cur, hg'⟩

theorem Own.ne {β : Type} {e' size' base' : Nat} {enc' : β → List Value} {v' : Value} {l' : List β} (h : Own w base e size enc v l) (h' : Own w base' e' size' enc' v' l') (hne : e ≠ e') {g : Nat} (hg : v.ownBlock = some g) : v'.ownBlock ≠ some g := by
  intro hg'
  obtain ⟨c, hc⟩ := h.typed hg
  obtain ⟨c', hc'⟩ := h'.typed hg'
  rw [hc] at hc'
  injection hc' with hc'
  injection hc' with _ h2
  exact hne h2

theorem Own.kept {row : Option Nat} (h : Own w base e size enc v l) (hg : w.grownBy w' row) (hne : v.ownBlock = none ∨ v.ownBlock ≠ row) : Own w' base e size enc v l := World.ownsRow.kept h hg hne
theorem Own.far (h : Own w base e size enc v l) {p : Addr} (hp : v.ownBlock ≠ some p.block) (u : Value) : Own (w.setCell p u) base e size enc v l :=
  h.kept ⟨rfl, rfl, rfl, by simp, fun k _ hk => Below.heap_setCell w p u k (fun hq => hk (by rw [hq]))⟩ (by
    cases hv : v.ownBlock with
    | none => exact .inl rfl
    | some g => exact .inr (by rw [← hv]; exact hp))
theorem Own.lower {base' : Nat} (h : Own w base e size enc v l) (hb : base' ≤ base) : Own w base' e size enc v l := World.ownsRow.mono h hb
theorem Own.ext (h : Own w base e size enc v l) (hE : Ext w w') : Own w' base e size enc v l :=
  h.kept (row := none) ⟨hE.os, hE.tape, hE.output, hE.size, fun k hk _ => hE.block k hk⟩ (by cases v.ownBlock <;> simp)
end

theorem flatMap_drop {α : Type} {enc : α → List Value} {size : Nat} (hs : ∀ x, (enc x).length = size) : ∀ (f : Nat) (l : List α), (l.drop f).flatMap enc = (l.flatMap enc).drop (f * size)
  | 0, l => by simp
  | f + 1, [] => by simp
  | f + 1, x :: l => by
    rw [List.drop_succ_cons, flatMap_drop hs f l, List.flatMap_cons, Nat.add_mul, Nat.add_comm, ← List.drop_drop, List.drop_left' (by rw [hs, Nat.one_mul])]
/-- a part of a list that lies at a place -/
theorem Sl.part {α : Type} {w : World} {B size b off : Nat} {enc : α → List Value} {l : List α} (hs : ∀ x, (enc x).length = size) (hb : b < B) (h : RowAt w b off (l.flatMap enc)) (f t : Nat) : Sl w B enc (some ⟨b, off + f * size, none⟩) ((l.take t).drop f) := by
  refine .inr ⟨b, _, rfl, hb, fun j u hu => ?_⟩
  rw [flatMap_drop hs, List.getElem?_drop] at hu
  have h2 : (l.flatMap enc)[f * size + j]? = some u := by
    have hlt := (List.getElem?_eq_some_iff.1 hu).1
    have hp : ((l.take t).flatMap enc) <+: (l.flatMap enc) := by
      conv => rhs; rw [← List.take_append_drop t l]
      rw [List.flatMap_append]
      exact List.prefix_append _ _
    rw [← hu]
    obtain ⟨r, hr⟩ := hp
    rw [← hr, List.getElem?_append_left hlt]
  have := h _ u h2
  rwa [← Nat.add_assoc] at this

/-- places that may be written -/
def Room (w : World) (base : Nat) (A : Option Addr) (n : Nat) : Prop := n = 0 ∨ ∃ g, A = some ⟨g, 0, none⟩ ∧ base ≤ g ∧ g < w.heap.size ∧ ∀ j, j < n → (w.cell? ⟨g, j, none⟩).isSome = true ∧ w.frozen? ⟨g, j, none⟩ = false

section
variable {w w' : World} {base n : Nat} {A : Option Addr}
theorem Room.of_own {α : Type} {e size : Nat} {enc : α → List Value} {l : List α} {c : Nat} (h : Own w base e size enc (.slice A l.length c) l) : Room w base A (l.length * size) := by
  rcases h.2 with ⟨hv, hn⟩ | ⟨g, cap, cur, hv, hb, hg, hc, hm, hs, ht⟩
  · exact .inl (by rw [hn, Nat.zero_mul])
  · cases hv
    have hlt : g < w.heap.size := by
      rcases Nat.lt_or_ge g w.heap.size with hlt | hge
      · exact hlt
      · rw [Array.getElem?_eq_none hge] at hg; cases hg
    refine .inr ⟨g, rfl, hb, hlt, fun j hj => ⟨?_, ?_⟩⟩
    · rw [cell_of_row w g j _ e (0, 0) hg]
      have : j < cur.size := by rw [hs]; exact Nat.lt_of_lt_of_le hj (Nat.mul_le_mul_right _ hc)
      simp [this]
    · simp [World.frozen?, hg]
theorem Room.set (h : Room w base A n) (p : Addr) (u : Value) : Room (w.setCell p u) base A n := by
  rcases h with h | ⟨g, hA, hb, hlt, hr⟩
  · exact .inl h
  · refine .inr ⟨g, hA, hb, by simpa using hlt, fun j hj => ⟨?_, ?_⟩⟩
    · have := (hr j hj).1
      by_cases hp : g = p.block
      · unfold World.cell? at this ⊢
        simp only [World.setCell, Array.getElem?_modify, hp, if_true] at this ⊢
        revert this
        cases w.heap[p.block]? with
        | none => simp
        | some o =>
          cases o <;> simp
          split <;> simp
      · rw [World.cell?_of_block (a := ⟨g, j, none⟩) (Below.heap_setCell w p u g hp)]; exact this
    · have := (hr j hj).2
      by_cases hp : g = p.block
      · unfold World.frozen? at this ⊢
        simp only [World.setCell, Array.getElem?_modify, hp, if_true] at this ⊢
        revert this
        cases w.heap[p.block]? with
        | none => simp
        | some o => cases o <;> simp
      · rw [World.frozen?_of_block (a := ⟨g, j, none⟩) (Below.heap_setCell w p u g hp)]; exact this
theorem Room.ext (h : Room w base A n) (hE : Ext w w') : Room w' base A n := by
  rcases h with h | ⟨g, hA, hb, hlt, hr⟩
  · exact .inl h
  · refine .inr ⟨g, hA, hb, Nat.lt_of_lt_of_le hlt hE.size, fun j hj => ?_⟩
    rw [World.cell?_of_block (a := ⟨g, j, none⟩) (hE.block g hlt), World.frozen?_of_block (a := ⟨g, j, none⟩) (hE.block g hlt)]
    exact hr j hj
theorem Room.lower {base' : Nat} (h : Room w base A n) (hb : base' ≤ base) : Room w base' A n := by
  rcases h with h | ⟨g, hA, h1, h2⟩
  · exact .inl h
  · exact .inr ⟨g, hA, by omega, h2⟩
theorem Room.at (h : Room w base A n) {j : Nat} (hj : j < n) : ∃ g u, A = some ⟨g, 0, none⟩ ∧ base ≤ g ∧ w.cell? ⟨g, j, none⟩ = some u ∧ w.frozen? ⟨g, j, none⟩ = false := by
  rcases h with h | ⟨g, hA, hb, _, hr⟩
  · omega
  · obtain ⟨u, hu⟩ := Option.isSome_iff_exists.1 (hr j hj).1
    exact ⟨g, u, hA, hb, hu, (hr j hj).2⟩
end

section
variable {P : Program} {ops : Array Oper} {rest : List Oper} {o : Oper} {a : Act} {Q : Exit → Act → World → Prop}
/-- 'out = append(out, l...)' -/
theorem app_many {α : Type} {t e size bytes : Nat} (E : ElTy P t e size bytes) (hgd : o.guard = none) (s x : Operand) (ho : o.op = .call { callee := .builtin .append, args := #[s, x], argTypes := #[t, t] })
    (W : World) (base : Nat) (enc : α → List Value) (v : Value) (l : List α) (ys : List α) (hs : a.eval s = v) (hown : Own W base e size enc v l)
    (A : Option Addr) (c : Nat) (hx : a.eval x = .slice A ys.length c) (hsl : Sl W W.heap.size enc A ys) (hl : ∀ y, (enc y).length = size) (h1 : ∀ y, (enc y).all (·.oneCell') = true)
    (hbytes : (l.length + ys.length) * bytes ≤ 140737488355328) (h63 : l.length + ys.length ≤ maxLen) (hbase : base ≤ W.heap.size)
    (h : ∀ v' w', Own w' base e size enc v' (l ++ ys) → W.grownBy w' v.ownBlock → (v'.ownBlock = v.ownBlock ∨ ∃ g, v'.ownBlock = some g ∧ W.heap.size ≤ g) → wpList P ops Q rest (a.put o.dst v') w') :
    wpList P ops Q (o :: rest) a W := by
  obtain ⟨i, z, hi, hz, hsz, hby, hzs⟩ := E.info
  have key : ∃ v' w', (Builtin.append_ #[t, t] o.type #[v, .slice A ys.length c]).run P W = .ok v' w' ∧ Own w' base e size enc v' (l ++ ys) ∧ W.grownBy w' v.ownBlock ∧ (v'.ownBlock = v.ownBlock ∨ ∃ g, v'.ownBlock = some g ∧ W.heap.size ≤ g) := by
    by_cases hy : ys = []
    · subst hy
      obtain ⟨A', c', hv, hok⟩ := hown.form
      subst hv
      have hsrc : Src P i.size t (.slice A 0 c) 0 [] W := by
        cases A with
        | none => exact Src.ofNil W E.ht c
        | some a => exact Src.ofSlice W E.ht a 0 c [] (by simp) (by simp) (by simp)
      refine ⟨_, W, run_append_nothing W t t o.type e i E.ht hi A' l.length c' hok.2.1 _ hsrc, ?_, ⟨rfl, rfl, rfl, Nat.le_refl _, fun _ _ _ => rfl⟩, .inl rfl⟩
      rw [List.append_nil]
      exact hown
    · obtain ⟨b, off, hA, hb, hrow⟩ := hsl.resolve_left hy
      subst hA
      have hlen : (ys.flatMap enc).length = ys.length * size := by
        clear hx hsl hbytes h63 h hy hrow
        induction ys with
        | nil => simp
        | cons y ys ih => rw [List.flatMap_cons, List.length_append, ih, hl, List.length_cons, Nat.add_mul]; omega
      obtain ⟨v', w', hr, h2, h3, _, h5⟩ := run_append_own_at (P := P) W base t o.type e i z size bytes E.ht hi hz hsz hby hzs E.pos v l.length (l.flatMap enc) hown ⟨b, off, none⟩ ys.length c (ys.flatMap enc) hlen
        (fun j u hu => by rw [add_none]; exact hrow j u hu) (fun u hu => by obtain ⟨y, _, hy⟩ := List.mem_flatMap.1 hu; exact (List.all_eq_true.1 (h1 y)) u hy) h63 hbytes hbase
      refine ⟨v', w', hr, ?_, h3, ?_⟩
      · unfold Own
        rw [List.flatMap_append, List.length_append]
        exact h2
      · rcases h5 with h5 | h5
        · exact .inl h5
        · exact .inr ⟨_, h5, Nat.le_refl _⟩
  obtain ⟨v', w', hr, h2, h3, h5⟩ := key
  refine wpList_plain hgd fun K hK => ?_
  unfold Oper.wp execOp
  simp only [ho, resolve, invoke, builtin, Sem.run_bind, Sem.run_pure, Result.andThen_ok, List.map_toArray, List.map_cons, List.map_nil, hs, hx, hr]
  exact hK _ _ (h v' w' h2 h3 h5)
/-- 'out = append(out, l[f:t]...)': the appended length under a name of its own -/
theorem app_part {α : Type} {t e size bytes : Nat} (E : ElTy P t e size bytes) (hgd : o.guard = none) (s x : Operand) (ho : o.op = .call { callee := .builtin .append, args := #[s, x], argTypes := #[t, t] })
    (W : World) (base : Nat) (enc : α → List Value) (v : Value) (l : List α) (ys : List α) (hs : a.eval s = v) (hown : Own W base e size enc v l)
    (A : Option Addr) (n c : Nat) (hx : a.eval x = .slice A n c) (hn : ys.length = n) (hsl : Sl W W.heap.size enc A ys) (hl : ∀ y, (enc y).length = size) (h1 : ∀ y, (enc y).all (·.oneCell') = true)
    (hbytes : (l.length + ys.length) * bytes ≤ 140737488355328) (h63 : l.length + ys.length ≤ maxLen) (hbase : base ≤ W.heap.size)
    (h : ∀ v' w', Own w' base e size enc v' (l ++ ys) → W.grownBy w' v.ownBlock → (v'.ownBlock = v.ownBlock ∨ ∃ g, v'.ownBlock = some g ∧ W.heap.size ≤ g) → wpList P ops Q rest (a.put o.dst v') w') :
    wpList P ops Q (o :: rest) a W := by
  subst hn
  exact app_many E hgd s x ho W base enc v l ys hs hown A c hx hsl hl h1 hbytes h63 hbase h
end
end Go.Hx
