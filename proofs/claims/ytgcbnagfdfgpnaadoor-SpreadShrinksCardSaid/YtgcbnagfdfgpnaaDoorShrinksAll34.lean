/- Lists of structs that lie in a block of the call's own, for walks that a program prints. -/
import Derived.Test.YtgcbnagfdfgpnaaDoorShrinksAll30
import Derived.Test.YtgcbnagfdfgpnaaDoorShrinksAll1
namespace Go.Hx
open Go.RowKit
/-- the first cells of a block are those of a list -/
structure KL {α : Type} (size : Nat) (enc : α → List Value) (cs : List Value) (l : List α) (c : Nat) : Prop where
  len : cs.length = c * size
  cap : l.length ≤ c
  max : c ≤ maxLen
  cells : cs.take (l.length * size) = l.flatMap enc
section
variable {α : Type} {size c k : Nat} {enc : α → List Value} {cs : List Value} {l : List α} {x : α}
theorem KL.fit (h : KL size enc cs l c) (hx : l[k]? = some x) : k * size + size ≤ cs.length := by
  have hk := (List.getElem?_eq_some_iff.1 hx).1
  have h2 := h.cap
  rw [h.len, ← Nat.succ_mul]
  exact Nat.mul_le_mul_right _ (by omega)
theorem KL.get (h : KL size enc cs l c) (hs : ∀ x, (enc x).length = size) (hx : l[k]? = some x) : (cs.drop (k * size)).take size = enc x := by
  have hk := (List.getElem?_eq_some_iff.1 hx).1
  have hle : k * size + size ≤ l.length * size := by rw [← Nat.succ_mul]; exact Nat.mul_le_mul_right _ hk
  have h1 : (cs.drop (k * size)).take size = ((cs.take (l.length * size)).drop (k * size)).take size := by
    rw [List.drop_take, List.take_take, Nat.min_eq_left (by omega)]
  rw [h1, h.cells]
  obtain ⟨l1, l2, rfl, rfl⟩ := split_at hx
  rw [List.flatMap_append, List.drop_append_of_le_length (by rw [flatMap_length hs]; exact Nat.le_refl _), List.drop_eq_nil_of_le (by rw [flatMap_length hs]; exact Nat.le_refl _), List.nil_append, List.flatMap_cons, List.take_append_of_le_length (by rw [hs]; exact Nat.le_refl _), List.take_of_length_le (by rw [hs]; exact Nat.le_refl _)]
theorem KL.set (h : KL size enc cs l c) (hs : ∀ x, (enc x).length = size) (hx : l[k]? = some x) (y : α) : KL size enc (cs.take (k * size) ++ enc y ++ cs.drop (k * size + (enc y).length)) (l.set k y) c := by
  have hf := h.fit hx
  refine ⟨?_, by rw [List.length_set]; exact h.cap, h.max, ?_⟩
  · simp only [List.length_append, List.length_take, List.length_drop, hs]
    have := h.len
    omega
  · have := cells_set (off := 0) (y := y) (vs := enc y) hs hx (by rw [hs]; omega) (by simp [hs]) h.cells
    simpa [hs] using this
theorem KL.of_own {W : World} {B e g : Nat} (h : Go.Hx.Own W B e size enc (.slice (some ⟨g, 0, none⟩) l.length c) l) : ∃ cs, Go.Hx.Blk W g e cs ∧ KL size enc cs l c ∧ B ≤ g := by
  obtain ⟨cur, hB, hb, hn, hm, hl, ht⟩ := Own.blk h
  exact ⟨cur, hB, ⟨hl, hn, hm, ht⟩, hb⟩
theorem KL.own {W : World} {B e g : Nat} (h : KL size enc cs l c) (hs : ∀ x, (enc x).length = size) (hB : Go.Hx.Blk W g e cs) (hb : B ≤ g) : Go.Hx.Own W B e size enc (.slice (some ⟨g, 0, none⟩) l.length c) l :=
  Own.of_blk hs hB hb h.cap h.max h.len h.cells
end
/-- masses, each of the call's own -/
def AllMine (W : World) (B : Nat) (l : List XMass) : Prop := ∀ x ∈ l, x.mine W B
theorem AllMine.ext {W W' : World} {B : Nat} {l : List XMass} (h : AllMine W B l) (k : Ext W W') : AllMine W' B l := fun x hx => (h x hx).ext k
theorem AllMine.only {w w' : World} {B g t : Nat} {l : List XMass} {cs cs' : List Value} (h : AllMine w B l) (hB : Blk w g t cs) (hO : Only w w' g) (hR : Blk w' g t cs') (hl : cs'.length = cs.length) (ht : ¬ 33 = t) : AllMine w' B l := fun x hx => (h x hx).only hB hO hR hl ht
theorem AllMine.set {W : World} {B : Nat} {l : List XMass} (h : AllMine W B l) {k : Nat} {y : XMass} (hy : y.mine W B) : AllMine W B (l.set k y) := fun x hx => by
  rcases List.mem_or_eq_of_mem_set hx with hx | rfl
  · exact h x hx
  · exact hy
end Go.Hx
