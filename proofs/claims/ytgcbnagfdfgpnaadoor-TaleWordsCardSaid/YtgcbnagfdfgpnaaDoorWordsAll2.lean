/- Parts of a proof, joined: Mem, Shape, OwnSet. -/
import Derived.Deep.Onto
import Derived.Deep.AppendSrc
import Derived.Deep.Upon
import Derived.Test.YtgcbnagfdfgpnaaDoorData
section
namespace Go.Hx
open Go.RowKit

section
variable {α : Type} {w w' : World} {base e size : Nat} {enc : α → List Value} {v : Value} {l : List α}

/-- the form of a row that is owned -/
theorem Own.form (h : Own w base e size enc v l) : ∃ A c, v = .slice A l.length c ∧ LX.ok w w.heap.size enc ⟨l, A, c⟩ := by
  rcases h.2 with ⟨rfl, hn⟩ | ⟨g, cap, cur, rfl, hb, hg, hc, hm, hs, ht⟩
  · have : l = [] := List.eq_nil_of_length_eq_zero hn
    subst this
    exact ⟨none, 0, rfl, .inl rfl, by simp, by simp [maxLen]⟩
  · have hlt : g < w.heap.size := by
      rcases Nat.lt_or_ge g w.heap.size with hlt | hge
      · exact hlt
      · rw [Array.getElem?_eq_none hge] at hg; cases hg
    refine ⟨_, _, rfl, .inr ⟨g, 0, rfl, hlt, fun j u hu => ?_⟩, hc, hm⟩
    have := World.ownsRow.cells (w := w) (base := base) (e := e) (size := size) h (g := g) rfl j u hu
    rwa [add_none] at this

theorem Own.ok {A : Option Addr} {c : Nat} (h : Own w base e size enc (.slice A l.length c) l) : LX.ok w w.heap.size enc ⟨l, A, c⟩ := by
  obtain ⟨A', c', hv, hok⟩ := h.form
  cases hv
  exact hok

/-- block of a row that is owned: its type -/
theorem Own.typed (h : Own w base e size enc v l) {g : Nat} (hg : v.ownBlock = some g) : ∃ cur, w.heap[g]? = some (.cells cur e (0, 0)) := by
  rcases h.2 with ⟨rfl, _⟩ | ⟨g', cap, cur, rfl, _, hg', _⟩
  · cases hg
  · cases hg; exact ⟨cur, hg'⟩

theorem Own.ne {β : Type} {e' size' base' : Nat} {enc' : β → List Value} {v' : Value} {l' : List β} (h : Own w base e size enc v l) (h' : Own w base' e' size' enc' v' l') (hne : e ≠ e') {g : Nat} (hg : v.ownBlock = some g) : v'.ownBlock ≠ some g := by
  intro hg'
  obtain ⟨c, hc⟩ := h.typed hg
  obtain ⟨c', hc'⟩ := h'.typed hg'
  rw [hc] at hc'
  injection hc' with hc'
  injection hc' with _ h2
  exact hne h2

theorem Own.kept {row : Option Nat} (h : Own w base e size enc v l) (hg : w.grownBy w' row) (hne : v.ownBlock = none ∨ v.ownBlock ≠ row) : Own w' base e size enc v l := World.ownsRow.kept h hg hne
theorem Own.far (h : Own w base e size enc v l) {p : Addr} (hp : v.ownBlock ≠ some p.block) (u : Value) : Own (w.setCell p u) base e size enc v l :=
  h.kept ⟨rfl, rfl, rfl, by simp, fun k _ hk => Below.heap_setCell w p u k (fun hq => hk (by rw [hq]))⟩ (by
    cases hv : v.ownBlock with
    | none => exact .inl rfl
    | some g => exact .inr (by rw [← hv]; exact hp))
theorem Own.lower {base' : Nat} (h : Own w base e size enc v l) (hb : base' ≤ base) : Own w base' e size enc v l := World.ownsRow.mono h hb
theorem Own.ext (h : Own w base e size enc v l) (hE : Ext w w') : Own w' base e size enc v l :=
  h.kept (row := none) ⟨hE.os, hE.tape, hE.output, hE.size, fun k hk _ => hE.block k hk⟩ (by cases v.ownBlock <;> simp)
end

theorem flatMap_drop {α : Type} {enc : α → List Value} {size : Nat} (hs : ∀ x, (enc x).length = size) : ∀ (f : Nat) (l : List α), (l.drop f).flatMap enc = (l.flatMap enc).drop (f * size)
  | 0, l => by simp
  | f + 1, [] => by simp
  | f + 1, x :: l => by
    rw [List.drop_succ_cons, flatMap_drop hs f l, List.flatMap_cons, Nat.add_mul, Nat.add_comm, ← List.drop_drop, List.drop_left' (by rw [hs, Nat.one_mul])]
/-- a part of a list that lies at a place -/
theorem Sl.part {α : Type} {w : World} {B size b off : Nat} {enc : α → List Value} {l : List α} (hs : ∀ x, (enc x).length = size) (hb : b < B) (h : RowAt w b off (l.flatMap enc)) (f t : Nat) : Sl w B enc (some ⟨b, off + f * size, none⟩) ((l.take t).drop f) := by
  refine .inr ⟨b, _, rfl, hb, fun j u hu => ?_⟩
  rw [flatMap_drop hs, List.getElem?_drop] at hu
  have h2 : (l.flatMap enc)[f * size + j]? = some u := by
    have hlt := (List.getElem?_eq_some_iff.1 hu).1
    have hp : ((l.take t).flatMap enc) <+: (l.flatMap enc) := by
      conv => rhs; rw [← List.take_append_drop t l]
      rw [List.flatMap_append]
      exact List.prefix_append _ _
    rw [← hu]
    obtain ⟨r, hr⟩ := hp
    rw [← hr, List.getElem?_append_left hlt]
  have := h _ u h2
  rwa [← Nat.add_assoc] at this

/-- places that may be written -/
def Room (w : World) (base : Nat) (A : Option Addr) (n : Nat) : Prop := n = 0 ∨ ∃ g, A = some ⟨g, 0, none⟩ ∧ base ≤ g ∧ g < w.heap.size ∧ ∀ j, j < n → (w.cell? ⟨g, j, none⟩).isSome = true ∧ w.frozen? ⟨g, j, none⟩ = false

section
variable {w w' : World} {base n : Nat} {A : Option Addr}
theorem Room.of_own {α : Type} {e size : Nat} {enc : α → List Value} {l : List α} {c : Nat} (h : Own w base e size enc (.slice A l.length c) l) : Room w base A (l.length * size) := by
  rcases h.2 with ⟨hv, hn⟩ | ⟨g, cap, cur, hv, hb, hg, hc, hm, hs, ht⟩
  · exact .inl (by rw [hn, Nat.zero_mul])
  · cases hv
    have hlt : g < w.heap.size := by
      rcases Nat.lt_or_ge g w.heap.size with hlt | hge
      · exact hlt
      · rw [Array.getElem?_eq_none hge] at hg; cases hg
    refine .inr ⟨g, rfl, hb, hlt, fun j hj => ⟨?_, ?_⟩⟩
    · rw [cell_of_row w g j _ e (0, 0) hg]
      have : j < cur.size := by rw [hs]; exact Nat.lt_of_lt_of_le hj (Nat.mul_le_mul_right _ hc)
      simp [this]
    · simp [World.frozen?, hg]
theorem Room.set (h : Room w base A n) (p : Addr) (u : Value) : Room (w.setCell p u) base A n := by
  rcases h with h | ⟨g, hA, hb, hlt, hr⟩
  · exact .inl h
  · refine .inr ⟨g, hA, hb, by simpa using hlt, fun j hj => ⟨?_, ?_⟩⟩
    · have := (hr j hj).1
      by_cases hp : g = p.block
      · unfold World.cell? at this ⊢
        simp only [World.setCell, Array.getElem?_modify, hp, if_true] at this ⊢
        revert this
        cases w.heap[p.block]? with
        | none => simp
        | some o =>
          cases o <;> simp
          split <;> simp
      · rw [World.cell?_of_block (a := ⟨g, j, none⟩) (Below.heap_setCell w p u g hp)]; exact this
    · have := (hr j hj).2
      by_cases hp : g = p.block
      · unfold World.frozen? at this ⊢
        simp only [World.setCell, Array.getElem?_modify, hp, if_true] at this ⊢
        revert this
        cases w.heap[p.block]? with
        | none => simp
        | some o => cases o <;> simp
      · rw [World.frozen?_of_block (a := ⟨g, j, none⟩) (Below.heap_setCell w p u g hp)]; exact this
theorem Room.ext (h : Room w base A n) (hE : Ext w w') : Room w' base A n := by
  rcases h with h | ⟨g, hA, hb, hlt, hr⟩
  · exact .inl h
  · refine .inr ⟨g, hA, hb, Nat.lt_of_lt_of_le hlt hE.size, fun j hj => ?_⟩
    rw [World.cell?_of_block (a := ⟨g, j, none⟩) (hE.block g hlt), World.frozen?_of_block (a := ⟨g, j, none⟩) (hE.block g hlt)]
    exact hr j hj
theorem Room.lower {base' : Nat} (h : Room w base A n) (hb : base' ≤ base) : Room w base' A n := by
  rcases h with h | ⟨g, hA, h1, h2⟩
  · exact .inl h
  · exact .inr ⟨g, hA, by omega, h2⟩
theorem Room.at (h : Room w base A n) {j : Nat} (hj : j < n) : ∃ g u, A = some ⟨g, 0, none⟩ ∧ base ≤ g ∧ w.cell? ⟨g, j, none⟩ = some u ∧ w.frozen? ⟨g, j, none⟩ = false := by
  rcases h with h | ⟨g, hA, hb, _, hr⟩
  · omega
  · obtain ⟨u, hu⟩ := Option.isSome_iff_exists.1 (hr j hj).1
    exact ⟨g, u, hA, hb, hu, (hr j hj).2⟩
end

section
variable {P : Program} {ops : Array Oper} {rest : List Oper} {o : Oper} {a : Act} {Q : Exit → Act → World → Prop}
/-- 'out = append(out, l...)' -/
theorem app_many {α : Type} {t e size bytes : Nat} (E : ElTy P t e size bytes) (hgd : o.guard = none) (s x : Operand) (ho : o.op = .call { callee := .builtin .append, args := #[s, x], argTypes := #[t, t] })
    (W : World) (base : Nat) (enc : α → List Value) (v : Value) (l : List α) (ys : List α) (hs : a.eval s = v) (hown : Own W base e size enc v l)
    (A : Option Addr) (c : Nat) (hx : a.eval x = .slice A ys.length c) (hsl : Sl W W.heap.size enc A ys) (hl : ∀ y, (enc y).length = size) (h1 : ∀ y, (enc y).all (·.oneCell') = true)
    (hbytes : (l.length + ys.length) * bytes ≤ 140737488355328) (h63 : l.length + ys.length ≤ maxLen) (hbase : base ≤ W.heap.size)
    (h : ∀ v' w', Own w' base e size enc v' (l ++ ys) → W.grownBy w' v.ownBlock → (v'.ownBlock = v.ownBlock ∨ ∃ g, v'.ownBlock = some g ∧ W.heap.size ≤ g) → wpList P ops Q rest (a.put o.dst v') w') :
    wpList P ops Q (o :: rest) a W := by
  obtain ⟨i, z, hi, hz, hsz, hby, hzs⟩ := E.info
  have key : ∃ v' w', (Builtin.append_ #[t, t] o.type #[v, .slice A ys.length c]).run P W = .ok v' w' ∧ Own w' base e size enc v' (l ++ ys) ∧ W.grownBy w' v.ownBlock ∧ (v'.ownBlock = v.ownBlock ∨ ∃ g, v'.ownBlock = some g ∧ W.heap.size ≤ g) := by
    by_cases hy : ys = []
    · subst hy
      obtain ⟨A', c', hv, hok⟩ := hown.form
      subst hv
      have hsrc : Src P i.size t (.slice A 0 c) 0 [] W := by
        cases A with
        | none => exact Src.ofNil W E.ht c
        | some a => exact Src.ofSlice W E.ht a 0 c [] (by simp) (by simp) (by simp)
      refine ⟨_, W, run_append_nothing W t t o.type e i E.ht hi A' l.length c' hok.2.1 _ hsrc, ?_, ⟨rfl, rfl, rfl, Nat.le_refl _, fun _ _ _ => rfl⟩, .inl rfl⟩
      rw [List.append_nil]
      exact hown
    · obtain ⟨b, off, hA, hb, hrow⟩ := hsl.resolve_left hy
      subst hA
      have hlen : (ys.flatMap enc).length = ys.length * size := by
        clear hx hsl hbytes h63 h hy hrow
        induction ys with
        | nil => simp
        | cons y ys ih => rw [List.flatMap_cons, List.length_append, ih, hl, List.length_cons, Nat.add_mul]; omega
      obtain ⟨v', w', hr, h2, h3, _, h5⟩ := run_append_own_at (P := P) W base t o.type e i z size bytes E.ht hi hz hsz hby hzs E.pos v l.length (l.flatMap enc) hown ⟨b, off, none⟩ ys.length c (ys.flatMap enc) hlen
        (fun j u hu => by rw [add_none]; exact hrow j u hu) (fun u hu => by obtain ⟨y, _, hy⟩ := List.mem_flatMap.1 hu; exact (List.all_eq_true.1 (h1 y)) u hy) h63 hbytes hbase
      refine ⟨v', w', hr, ?_, h3, ?_⟩
      · unfold Own
        rw [List.flatMap_append, List.length_append]
        exact h2
      · rcases h5 with h5 | h5
        · exact .inl h5
        · exact .inr ⟨_, h5, Nat.le_refl _⟩
  obtain ⟨v', w', hr, h2, h3, h5⟩ := key
  refine wpList_plain hgd fun K hK => ?_
  unfold Oper.wp execOp
  simp only [ho, resolve, invoke, builtin, Sem.run_bind, Sem.run_pure, Result.andThen_ok, List.map_toArray, List.map_cons, List.map_nil, hs, hx, hr]
  exact hK _ _ (h v' w' h2 h3 h5)
/-- 'out = append(out, l[f:t]...)': the appended length under a name of its own -/
theorem app_part {α : Type} {t e size bytes : Nat} (E : ElTy P t e size bytes) (hgd : o.guard = none) (s x : Operand) (ho : o.op = .call { callee := .builtin .append, args := #[s, x], argTypes := #[t, t] })
    (W : World) (base : Nat) (enc : α → List Value) (v : Value) (l : List α) (ys : List α) (hs : a.eval s = v) (hown : Own W base e size enc v l)
    (A : Option Addr) (n c : Nat) (hx : a.eval x = .slice A n c) (hn : ys.length = n) (hsl : Sl W W.heap.size enc A ys) (hl : ∀ y, (enc y).length = size) (h1 : ∀ y, (enc y).all (·.oneCell') = true)
    (hbytes : (l.length + ys.length) * bytes ≤ 140737488355328) (h63 : l.length + ys.length ≤ maxLen) (hbase : base ≤ W.heap.size)
    (h : ∀ v' w', Own w' base e size enc v' (l ++ ys) → W.grownBy w' v.ownBlock → (v'.ownBlock = v.ownBlock ∨ ∃ g, v'.ownBlock = some g ∧ W.heap.size ≤ g) → wpList P ops Q rest (a.put o.dst v') w') :
    wpList P ops Q (o :: rest) a W := by
  subst hn
  exact app_many E hgd s x ho W base enc v l ys hs hown A c hx hsl hl h1 hbytes h63 hbase h
end
end Go.Hx
end
section
namespace Go.Hx
open Go.RowKit

/-- n cells at a place in new memory, in a row of elements of type e -/
def TRoom (w : World) (base e : Nat) (A : Option Addr) (n : Nat) : Prop := n = 0 ∨ ∃ g cur, A = some ⟨g, 0, none⟩ ∧ base ≤ g ∧ w.heap[g]? = some (.cells cur e (0, 0)) ∧ n ≤ cur.size

theorem block_lt {w : World} {g : Nat} {o : Obj} (h : w.heap[g]? = some o) : g < w.heap.size := by
  rcases Nat.lt_or_ge g w.heap.size with hlt | hge
  · exact hlt
  · rw [Array.getElem?_eq_none hge] at h; cases h

/-- rows of the types T of new memory may have been written; all else is there as it was -/
structure Shape (T : Nat → Prop) (base : Nat) (w w' : World) : Prop where
  os : w'.os = w.os
  tape : w'.tape = w.tape
  output : w'.output = w.output
  size : w.heap.size ≤ w'.heap.size
  block : ∀ k, k < w.heap.size → w'.heap[k]? = w.heap[k]? ∨ (base ≤ k ∧ ∃ cur cur' e, T e ∧ w.heap[k]? = some (.cells cur e (0, 0)) ∧ w'.heap[k]? = some (.cells cur' e (0, 0)) ∧ cur'.size = cur.size)

section
variable {T : Nat → Prop} {base e n : Nat} {w w' w'' : World} {A : Option Addr}
theorem Shape.refl (T : Nat → Prop) (base : Nat) (w : World) : Shape T base w w := ⟨rfl, rfl, rfl, Nat.le_refl _, fun _ _ => .inl rfl⟩
theorem Shape.of_ext (h : Ext w w') : Shape T base w w' := ⟨h.os, h.tape, h.output, h.size, fun k hk => .inl (h.block k hk)⟩
theorem Shape.trans (h : Shape T base w w') (k : Shape T base w' w'') : Shape T base w w'' := by
  refine ⟨k.os.trans h.os, k.tape.trans h.tape, k.output.trans h.output, Nat.le_trans h.size k.size, fun i hi => ?_⟩
  rcases k.block i (Nat.lt_of_lt_of_le hi h.size) with h2 | ⟨hb, c1, c2, e, hT, h2, h3, h4⟩
  · rcases h.block i hi with h1 | ⟨hb, c1, c2, e, hT, h3, h4, h5⟩
    · exact .inl (h2.trans h1)
    · exact .inr ⟨hb, c1, c2, e, hT, h3, h2.trans h4, h5⟩
  · rcases h.block i hi with h1 | ⟨_, c3, c4, e', hT', h5, h6, h7⟩
    · exact .inr ⟨hb, c1, c2, e, hT, h1 ▸ h2, h3, h4⟩
    · rw [h6] at h2
      cases h2
      exact .inr ⟨hb, c3, c2, _, hT', h5, h3, h4.trans h7⟩
theorem Shape.mono {T' : Nat → Prop} (h : Shape T base w w') (hT : ∀ e, T e → T' e) : Shape T' base w w' :=
  ⟨h.os, h.tape, h.output, h.size, fun i hi => (h.block i hi).imp id fun ⟨hb, c1, c2, e, h1, h2⟩ => ⟨hb, c1, c2, e, hT e h1, h2⟩⟩
theorem Shape.lower {base' : Nat} (h : Shape T base w w') (hb : base' ≤ base) : Shape T base' w w' :=
  ⟨h.os, h.tape, h.output, h.size, fun i hi => (h.block i hi).imp id fun ⟨h0, h1⟩ => ⟨Nat.le_trans hb h0, h1⟩⟩
/-- what is older than the new memory stays -/
theorem Shape.below (h : Shape T base w w') (hb : base ≤ w.heap.size) : Below base w w' :=
  ⟨h.os, h.tape, h.output, h.size, fun i hi => by
    rcases h.block i (Nat.lt_of_lt_of_le hi hb) with h1 | ⟨h1, _⟩
    · exact h1
    · omega⟩
theorem TRoom.shape (h : TRoom w base e A n) (k : Shape T base w w') : TRoom w' base e A n := by
  rcases h with h | ⟨g, cur, hA, hb, hg, hn⟩
  · exact .inl h
  · rcases k.block g (block_lt hg) with h1 | ⟨_, c1, c2, e', _, h2, h3, h4⟩
    · exact .inr ⟨g, cur, hA, hb, h1.trans hg, hn⟩
    · rw [hg] at h2
      cases h2
      exact .inr ⟨g, c2, hA, hb, h3, by omega⟩
theorem TRoom.ext (h : TRoom w base e A n) (k : Ext w w') : TRoom w' base e A n := h.shape (T := fun _ => False) (.of_ext k)
theorem TRoom.lower {base' : Nat} (h : TRoom w base e A n) (hb : base' ≤ base) : TRoom w base' e A n := by
  rcases h with h | ⟨g, cur, hA, h1, h2⟩
  · exact .inl h
  · exact .inr ⟨g, cur, hA, by omega, h2⟩
theorem TRoom.nil {w : World} {base e : Nat} {A : Option Addr} : TRoom w base e A 0 := .inl rfl
theorem TRoom.at (h : TRoom w base e A n) {j : Nat} (hj : j < n) : ∃ g u, A = some ⟨g, 0, none⟩ ∧ base ≤ g ∧ w.cell? ⟨g, j, none⟩ = some u ∧ w.frozen? ⟨g, j, none⟩ = false ∧ ∃ cur, w.heap[g]? = some (.cells cur e (0, 0)) := by
  rcases h with h | ⟨g, cur, hA, hb, hg, hn⟩
  · omega
  · have hlt : j < cur.size := by omega
    refine ⟨g, cur[j], hA, hb, ?_, ?_, cur, hg⟩
    · rw [cell_of_row w g j _ e (0, 0) hg]
      simp [hlt]
    · simp [World.frozen?, hg]
theorem TRoom.of_own {α : Type} {size : Nat} {enc : α → List Value} {l : List α} {c : Nat} (h : Own w base e size enc (.slice A l.length c) l) : TRoom w base e A (l.length * size) := by
  rcases h.2 with ⟨hv, hn⟩ | ⟨g, cap, cur, hv, hb, hg, hc, hm, hs, ht⟩
  · exact .inl (by rw [hn, Nat.zero_mul])
  · cases hv
    exact .inr ⟨g, cur, rfl, hb, hg, by rw [hs]; exact Nat.mul_le_mul_right _ hc⟩
theorem Shape.set {g : Nat} {cur : Array Value} (h : Shape T base w w') (hg : w'.heap[g]? = some (.cells cur e (0, 0))) (hT : T e) (hb : base ≤ g) (j : Nat) (u : Value) : Shape T base w (w'.setCell ⟨g, j, none⟩ u) := by
  refine h.trans ⟨rfl, rfl, rfl, by simp, fun k hk => ?_⟩
  by_cases hkg : k = g
  · subst hkg
    refine .inr ⟨hb, cur, cur.setIfInBounds j u, e, hT, hg, ?_, by simp⟩
    simp [World.setCell, Array.getElem?_modify, hg]
  · exact .inl (Below.heap_setCell w' _ u k hkg)
theorem RowAt.shape {b off : Nat} {cs : List Value} (h : RowAt w b off cs) (k : Shape T base w w') {cur : Array Value} (hg : w.heap[b]? = some (.cells cur e (0, 0))) (hT : ¬T e) : RowAt w' b off cs := by
  rcases k.block b (block_lt hg) with h1 | ⟨_, c1, c2, e', hT', h2, _⟩
  · exact h.keep fun o => World.cell?_of_block (a := ⟨b, o, none⟩) h1
  · rw [hg] at h2
    cases h2
    exact absurd hT' hT
theorem Own.shape {α : Type} {B size : Nat} {enc : α → List Value} {v : Value} {l : List α} (h : Own w B e size enc v l) (k : Shape T base w w') (hT : ¬T e) : Own w' B e size enc v l := by
  refine ⟨h.1, ?_⟩
  rcases h.2 with h2 | ⟨g, cap, cur, hv, hb, hg, h3⟩
  · exact .inl h2
  · refine .inr ⟨g, cap, cur, hv, hb, ?_, h3⟩
    rcases k.block g (block_lt hg) with h1 | ⟨_, c1, c2, e', hT', h2, _⟩
    · exact h1.trans hg
    · rw [hg] at h2
      cases h2
      exact absurd hT' hT
/-- a block of the call's own was written as a whole, or in part -/
theorem Shape.only {W : World} {g t : Nat} {cs cs' : List Value} (h : Shape T base w W) (hB : Blk W g t cs) (hO : Only W w' g) (hR : Blk w' g t cs') (hl : cs'.length = cs.length) (hT : T t) (hb : base ≤ g) : Shape T base w w' := by
  refine h.trans ⟨hO.os, hO.tape, hO.output, by rw [hO.size]; exact Nat.le_refl _, fun k _ => ?_⟩
  by_cases hk : k = g
  · subst hk
    exact .inr ⟨hb, cs.toArray, cs'.toArray, t, hT, hB, hR, by simpa using hl⟩
  · exact .inl (hO.block k hk)
theorem Shape.put {W : World} {g t : Nat} {cs : List Value} (h : Shape T base w W) (hB : Blk W g t cs) (hT : T t) (hb : base ≤ g) (j : Nat) (u : Value) : Shape T base w (W.setCell ⟨g, j, none⟩ u) := h.set hB hT hb j u
end
end Go.Hx
end
section
namespace Go.Hx
open Go.RowKit
section
variable {α : Type} {enc : α → List Value} {size : Nat}
theorem split_at {l : List α} {k : Nat} {x : α} (h : l[k]? = some x) : ∃ l1 l2, l = l1 ++ x :: l2 ∧ l1.length = k := by
  have hlt := (List.getElem?_eq_some_iff.1 h).1
  refine ⟨l.take k, l.drop (k + 1), ?_, by simp; omega⟩
  have hx := (List.getElem?_eq_some_iff.1 h).2
  rw [← hx]
  simp
theorem flatMap_length (hs : ∀ x, (enc x).length = size) : ∀ l : List α, (l.flatMap enc).length = l.length * size
  | [] => by simp
  | x :: l => by rw [List.flatMap_cons, List.length_append, hs, flatMap_length hs l, List.length_cons, Nat.add_mul, Nat.one_mul, Nat.add_comm]
theorem set_split {l1 l2 : List α} {x y : α} : (l1 ++ x :: l2).set l1.length y = l1 ++ y :: l2 := by simp

/-- the cells behind a store into element k, from cell off on -/
theorem cells_set (hs : ∀ x, (enc x).length = size) {l : List α} {k off : Nat} {x y : α} (hx : l[k]? = some x) {vs cur : List Value} (hv : off + vs.length ≤ size)
    (hy : enc y = (enc x).take off ++ vs ++ (enc x).drop (off + vs.length)) (hcur : cur.take (l.length * size) = l.flatMap enc) :
    (cur.take (k * size + off) ++ vs ++ cur.drop (k * size + off + vs.length)).take (l.length * size) = (l.set k y).flatMap enc := by
  obtain ⟨l1, l2, rfl, rfl⟩ := split_at hx
  rw [set_split]
  have hc : cur = (l1.flatMap enc ++ (enc x ++ l2.flatMap enc)) ++ cur.drop ((l1 ++ x :: l2).length * size) := by
    conv => lhs; rw [← List.take_append_drop ((l1 ++ x :: l2).length * size) cur, hcur]
    simp
  generalize cur.drop ((l1 ++ x :: l2).length * size) = R at hc
  have hx3 : enc x = (enc x).take off ++ ((enc x).drop off).take vs.length ++ (enc x).drop (off + vs.length) := by
    rw [List.append_assoc, ← List.drop_drop, List.take_append_drop, List.take_append_drop]
  have hp : ((enc x).take off).length = off := by rw [List.length_take, hs]; omega
  have ho : (((enc x).drop off).take vs.length).length = vs.length := by rw [List.length_take, List.length_drop, hs]; omega
  generalize (enc x).take off = p at hx3 hp hy
  generalize ((enc x).drop off).take vs.length = o at hx3 ho
  generalize (enc x).drop (off + vs.length) = q at hx3 hy
  have hA := flatMap_length hs l1
  generalize hAA : l1.flatMap enc = A at *
  have hB : (A ++ p).length = l1.length * size + off := by rw [List.length_append, hA, hp]
  have hB2 : (A ++ p ++ o).length = l1.length * size + off + vs.length := by rw [List.length_append, hB, ho]
  have e1 : cur.take (l1.length * size + off) = A ++ p := by
    have e0 : cur = (A ++ p) ++ (o ++ q ++ l2.flatMap enc ++ R) := by rw [hc, hx3]; simp [List.append_assoc]
    rw [e0, ← hB, List.take_left' rfl]
  have e2 : cur.drop (l1.length * size + off + vs.length) = q ++ l2.flatMap enc ++ R := by
    have e0 : cur = (A ++ p ++ o) ++ (q ++ l2.flatMap enc ++ R) := by rw [hc, hx3]; simp [List.append_assoc]
    rw [e0, ← hB2, List.drop_left' rfl]
  rw [e1, e2]
  have hfin : (A ++ p ++ vs ++ (q ++ l2.flatMap enc ++ R)) = (A ++ enc y ++ l2.flatMap enc) ++ R := by rw [hy]; simp [List.append_assoc]
  have hlen : (A ++ enc y ++ l2.flatMap enc).length = (l1 ++ x :: l2).length * size := by
    have := flatMap_length hs (l1 ++ y :: l2)
    rw [List.flatMap_append, List.flatMap_cons, List.length_append, List.length_append] at this
    rw [List.length_append, List.length_append, hA, hs, flatMap_length hs l2, List.length_append, List.length_cons, Nat.add_mul, Nat.add_mul, Nat.one_mul]
    omega
  rw [hfin, ← hlen, List.take_left']
  · rw [List.flatMap_append, List.flatMap_cons, hAA, List.append_assoc]
  · rfl

/-- the block of a row that is owned -/
theorem Own.blk {w : World} {base e g c : Nat} {l : List α} (h : Go.Hx.Own w base e size enc (.slice (some ⟨g, 0, none⟩) l.length c) l) : ∃ cur, Blk w g e cur ∧ base ≤ g ∧ l.length ≤ c ∧ c ≤ maxLen ∧ cur.length = c * size ∧ cur.take (l.length * size) = l.flatMap enc := by
  rcases h.2 with ⟨h1, _⟩ | ⟨g', cap, cur, hv, hb, hg, hn, hm, hs, ht⟩
  · cases h1
  · cases hv
    exact ⟨cur.toList, by unfold Blk; simpa using hg, hb, hn, hm, by simpa using hs, ht⟩
theorem Own.of_blk {w : World} {base e g c : Nat} {l : List α} {cur : List Value} (hs : ∀ x, (enc x).length = size) (hB : Blk w g e cur) (hb : base ≤ g) (hn : l.length ≤ c) (hm : c ≤ maxLen) (hl : cur.length = c * size) (ht : cur.take (l.length * size) = l.flatMap enc) :
    Go.Hx.Own w base e size enc (.slice (some ⟨g, 0, none⟩) l.length c) l :=
  ⟨flatMap_length hs l, .inr ⟨g, c, cur.toArray, rfl, hb, hB, hn, hm, by simpa using hl, by simpa using ht⟩⟩
/-- a row that is owned and not empty: its place -/
theorem Own.place {w : World} {base e c : Nat} {A : Option Addr} {l : List α} {k : Nat} (hk : k < l.length) (h : Go.Hx.Own w base e size enc (.slice A l.length c) l) : ∃ g, A = some ⟨g, 0, none⟩ := by
  rcases h.2 with ⟨_, h1⟩ | ⟨g', cap, cur, hv, _⟩
  · omega
  · cases hv
    exact ⟨g', rfl⟩
end
end Go.Hx
end
