/- New memory: rows by their types, and what a function that writes over its own rows leaves. -/
import Derived.Test.YtgcbnagfdfgpnaaDoorMem
namespace Go.Hx
open Go.RowKit

/-- n cells at a place in new memory, in a row of elements of type e -/
def TRoom (w : World) (base e : Nat) (A : Option Addr) (n : Nat) : Prop := n = 0 ∨ ∃ g cur, A = some ⟨g, 0, none⟩ ∧ base ≤ g ∧ w.heap[g]? = some (.cells cur e (0, 0)) ∧ n ≤ cur.size

theorem block_lt {w : World} {g : Nat} {o : Obj} (h : w.heap[g]? = some o) : g < w.heap.size := by
  rcases Nat.lt_or_ge g w.heap.size with hlt | hge
  · exact hlt
  · rw [Array.getElem?_eq_none hge] at h; cases h

/-- rows of the types T of new memory may have been written; all else is there as it was -/
structure Shape (T : Nat → Prop) (base : Nat) (w w' : World) : Prop where
  os : w'.os = w.os
  tape : w'.tape = w.tape
  output : w'.output = w.output
  size : w.heap.size ≤ w'.heap.size
  block : ∀ k, k < w.heap.size → w'.heap[k]? = w.heap[k]? ∨ (base ≤ k ∧ ∃ cur cur' e, T e ∧ w.heap[k]? = some (.cells cur e (0, 0)) ∧ w'.heap[k]? = some (.cells cur' e (0, 0)) ∧ cur'.size = cur.size)

section
variable {T : Nat → Prop} {base e n : Nat} {w w' w'' : World} {A : Option Addr}
theorem Shape.refl (T : Nat → Prop) (base : Nat) (w : World) : Shape T base w w := ⟨rfl, rfl, rfl, Nat.le_refl _, fun _ _ => .inl rfl⟩
theorem Shape.of_ext (h : Ext w w') : Shape T base w w' := ⟨h.os, h.tape, h.output, h.size, fun k hk => .inl (h.block k hk)⟩
theorem Shape.trans (h : Shape T base w w') (k : Shape T base w' w'') : Shape T base w w'' := by
  refine ⟨k.os.trans h.os, k.tape.trans h.tape, k.output.trans h.output, Nat.le_trans h.size k.size, fun i hi => ?_⟩
  rcases k.block i (Nat.lt_of_lt_of_le hi h.size) with h2 | ⟨hb, c1, c2, e, hT, h2, h3, h4⟩
  · rcases h.block i hi with h1 | ⟨hb, c1, c2, e, hT, h3, h4, h5⟩
    · exact .inl (h2.trans h1)
    · exact .inr ⟨hb, c1, c2, e, hT, h3, h2.trans h4, h5⟩
  · rcases h.block i hi with h1 | ⟨_, c3, c4, e', hT', h5, h6, h7⟩
    · exact .inr ⟨hb, c1, c2, e, hT, h1 ▸ h2, h3, h4⟩
    · rw [h6] at h2
      cases h2
      exact .inr ⟨hb, c3, c2, _, hT', h5, h3, h4.trans h7⟩
theorem Shape.mono {T' : Nat → Prop} (h : Shape T base w w') (hT : ∀ e, T e → T' e) : Shape T' base w w' :=
  ⟨h.os, h.tape, h.output, h.size, fun i hi => (h.block i hi).imp id fun ⟨hb, c1, c2, e, h1, h2⟩ => ⟨hb, c1, c2, e, hT e h1, h2⟩⟩
theorem Shape.lower {base' : Nat} (h : Shape T base w w') (hb : base' ≤ base) : Shape T base' w w' :=
  ⟨h.os, h.tape, h.output, h.size, fun i hi => (h.block i hi).imp id fun ⟨h0, h1⟩ => ⟨Nat.le_trans hb h0, h1⟩⟩
/-- what is older than the new memory stays -/
theorem Shape.below (h : Shape T base w w') (hb : base ≤ w.heap.size) : Below base w w' :=
  ⟨h.os, h.tape, h.output, h.size, fun i hi => by
    rcases h.block i (Nat.lt_of_lt_of_le hi hb) with h1 | ⟨h1, _⟩
    · exact h1
    · omega⟩
theorem TRoom.shape (h : TRoom w base e A n) (k : Shape T base w w') : TRoom w' base e A n := by
  rcases h with h | ⟨g, cur, hA, hb, hg, hn⟩
  · exact .inl h
  · rcases k.block g (block_lt hg) with h1 | ⟨_, c1, c2, e', _, h2, h3, h4⟩
    · exact .inr ⟨g, cur, hA, hb, h1.trans hg, hn⟩
    · rw [hg] at h2
      cases h2
      exact .inr ⟨g, c2, hA, hb, h3, by omega⟩
theorem TRoom.ext (h : TRoom w base e A n) (k : Ext w w') : TRoom w' base e A n := h.shape (T := fun _ => False) (.of_ext k)
theorem TRoom.lower {base' : Nat} (h : TRoom w base e A n) (hb : base' ≤ base) : TRoom w base' e A n := by
  rcases h with h | ⟨g, cur, hA, h1, h2⟩
  · exact .inl h
  · exact .inr ⟨g, cur, hA, by omega, h2⟩
theorem TRoom.nil {w : World} {base e : Nat} {A : Option Addr} : TRoom w base e A 0 := .inl rfl
theorem TRoom.at (h : TRoom w base e A n) {j : Nat} (hj : j < n) : ∃ g u, A = some ⟨g, 0, none⟩ ∧ base ≤ g ∧ w.cell? ⟨g, j, none⟩ = some u ∧ w.frozen? ⟨g, j, none⟩ = false ∧ ∃ cur, w.heap[g]? = some (.cells cur e (0, 0)) := by
  rcases h with h | ⟨g, cur, hA, hb, hg, hn⟩
  · omega
  · have hlt : j < cur.size := by omega
    refine ⟨g, cur[j], hA, hb, ?_, ?_, cur, hg⟩
    · rw [cell_of_row w g j _ e (0, 0) hg]
      simp [hlt]
    · simp [World.frozen?, hg]
theorem TRoom.of_own {α : Type} {size : Nat} {enc : α → List Value} {l : List α} {c : Nat} (h : Own w base e size enc (.slice A l.length c) l) : TRoom w base e A (l.length * size) := by
  rcases h.2 with ⟨hv, hn⟩ | ⟨g, cap, cur, hv, hb, hg, hc, hm, hs, ht⟩
  · exact .inl (by rw [hn, Nat.zero_mul])
  · cases hv
    exact .inr ⟨g, cur, rfl, hb, hg, by rw [hs]; exact Nat.mul_le_mul_right _ hc⟩
theorem Shape.set {g : Nat} {cur : Array Value} (h : Shape T base w w') (hg : w'.heap[g]? = some (.cells cur e (0, 0))) (hT : T e) (hb : base ≤ g) (j : Nat) (u : Value) : Shape T base w (w'.setCell ⟨g, j, none⟩ u) := by
  refine h.trans ⟨rfl, rfl, rfl, by simp, fun k hk => ?_⟩
  by_cases hkg : k = g
  · subst hkg
    refine .inr ⟨hb, cur, cur.setIfInBounds j u, e, hT, hg, ?_, by simp⟩
    simp [World.setCell, Array.getElem?_modify, hg]
  · exact .inl (Below.heap_setCell w' _ u k hkg)
theorem RowAt.shape {b off : Nat} {cs : List Value} (h : RowAt w b off cs) (k : Shape T base w w') {cur : Array Value} (hg : w.heap[b]? = some (.cells cur e (0, 0))) (hT : ¬T e) : RowAt w' b off cs := by
  rcases k.block b (block_lt hg) with h1 | ⟨_, c1, c2, e', hT', h2, _⟩
  · exact h.keep fun o => World.cell?_of_block (a := ⟨b, o, none⟩) h1
  · rw [hg] at h2
    cases h2
    exact absurd hT' hT
theorem Own.shape {α : Type} {B size : Nat} {enc : α → List Value} {v : Value} {l : List α} (h : Own w B e size enc v l) (k : Shape T base w w') (hT : ¬T e) : Own w' B e size enc v l := by
  refine ⟨h.1, ?_⟩
  rcases h.2 with h2 | ⟨g, cap, cur, hv, hb, hg, h3⟩
  · exact .inl h2
  · refine .inr ⟨g, cap, cur, hv, hb, ?_, h3⟩
    rcases k.block g (block_lt hg) with h1 | ⟨_, c1, c2, e', hT', h2, _⟩
    · exact h1.trans hg
    · rw [hg] at h2
      cases h2
      exact absurd hT' hT
/-- a block of the call's own was written as a whole, or in part -/
theorem Shape.only {W : World} {g t : Nat} {cs cs' : List Value} (h : Shape T base w W) (hB : Blk W g t cs) (hO : Only W w' g) (hR : Blk w' g t cs') (hl : cs'.length = cs.length) (hT : T t) (hb : base ≤ g) : Shape T base w w' := by
  refine h.trans ⟨hO.os, hO.tape, hO.output, by rw [hO.size]; exact Nat.le_refl _, fun k _ => ?_⟩
  by_cases hk : k = g
  · subst hk
    exact .inr ⟨hb, cs.toArray, cs'.toArray, t, hT, hB, hR, by simpa using hl⟩
  · exact .inl (hO.block k hk)
theorem Shape.put {W : World} {g t : Nat} {cs : List Value} (h : Shape T base w W) (hB : Blk W g t cs) (hT : T t) (hb : base ≤ g) (j : Nat) (u : Value) : Shape T base w (W.setCell ⟨g, j, none⟩ u) := h.set hB hT hb j u
end
end Go.Hx
