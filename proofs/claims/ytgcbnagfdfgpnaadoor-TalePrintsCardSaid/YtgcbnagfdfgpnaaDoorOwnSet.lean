/- A part of an element of a row that a call owns is written over. -/
import Derived.Test.YtgcbnagfdfgpnaaDoorShape
namespace Go.Hx
open Go.RowKit
section
variable {α : Type} {enc : α → List Value} {size : Nat}
theorem split_at {l : List α} {k : Nat} {x : α} (h : l[k]? = some x) : ∃ l1 l2, l = l1 ++ x :: l2 ∧ l1.length = k := by
  have hlt := (List.getElem?_eq_some_iff.1 h).1
  refine ⟨l.take k, l.drop (k + 1), ?_, by simp; omega⟩
  have hx := (List.getElem?_eq_some_iff.1 h).2
  rw [← hx]
  simp
theorem flatMap_length (hs : ∀ x, (enc x).length = size) : ∀ l : List α, (l.flatMap enc).length = l.length * size
  | [] => by simp
  | x :: l => by rw [List.flatMap_cons, List.length_append, hs, flatMap_length hs l, List.length_cons, Nat.add_mul, Nat.one_mul, Nat.add_comm]
theorem set_split {l1 l2 : List α} {x y : α} : (l1 ++ x :: l2).set l1.length y = l1 ++ y :: l2 := by simp

/-- the cells behind a store into element k, from cell off on -/
theorem cells_set (hs : ∀ x, (enc x).length = size) {l : List α} {k off : Nat} {x y : α} (hx : l[k]? = some x) {vs cur : List Value} (hv : off + vs.length ≤ size)
    (hy : enc y = (enc x).take off ++ vs ++ (enc x).drop (off + vs.length)) (hcur : cur.take (l.length * size) = l.flatMap enc) :
    (cur.take (k * size + off) ++ vs ++ cur.drop (k * size + off + vs.length)).take (l.length * size) = (l.set k y).flatMap enc := by
  obtain ⟨l1, l2, rfl, rfl⟩ := split_at hx
  rw [set_split]
  have hc : cur = (l1.flatMap enc ++ (enc x ++ l2.flatMap enc)) ++ cur.drop ((l1 ++ x :: l2).length * size) := by
    conv => lhs; rw [← List.take_append_drop ((l1 ++ x :: l2).length * size) cur, hcur]
    simp
  generalize cur.drop ((l1 ++ x :: l2).length * size) = R at hc
  have hx3 : enc x = (enc x).take off ++ ((enc x).drop off).take vs.length ++ (enc x).drop (off + vs.length) := by
    rw [List.append_assoc, ← List.drop_drop, List.take_append_drop, List.take_append_drop]
  have hp : ((enc x).take off).length = off := by rw [List.length_take, hs]; omega
  have ho : (((enc x).drop off).take vs.length).length = vs.length := by rw [List.length_take, List.length_drop, hs]; omega
  generalize (enc x).take off = p at hx3 hp hy
  generalize ((enc x).drop off).take vs.length = o at hx3 ho
  generalize (enc x).drop (off + vs.length) = q at hx3 hy
  have hA := flatMap_length hs l1
  generalize hAA : l1.flatMap enc = A at *
  have hB : (A ++ p).length = l1.length * size + off := by rw [List.length_append, hA, hp]
  have hB2 : (A ++ p ++ o).length = l1.length * size + off + vs.length := by rw [List.length_append, hB, ho]
  have e1 : cur.take (l1.length * size + off) = A ++ p := by
    have e0 : cur = (A ++ p) ++ (o ++ q ++ l2.flatMap enc ++ R) := by rw [hc, hx3]; simp [List.append_assoc]
    rw [e0, ← hB, List.take_left' rfl]
  have e2 : cur.drop (l1.length * size + off + vs.length) = q ++ l2.flatMap enc ++ R := by
    have e0 : cur = (A ++ p ++ o) ++ (q ++ l2.flatMap enc ++ R) := by rw [hc, hx3]; simp [List.append_assoc]
    rw [e0, ← hB2, List.drop_left' rfl]
  rw [e1, e2]
  have hfin : (A ++ p ++ vs ++ (q ++ l2.flatMap enc ++ R)) = (A ++ enc y ++ l2.flatMap enc) ++ R := by rw [hy]; simp [List.append_assoc]
  have hlen : (A ++ enc y ++ l2.flatMap enc).length = (l1 ++ x :: l2).length * size := by
    have := flatMap_length hs (l1 ++ y :: l2)
    rw [List.flatMap_append, List.flatMap_cons, List.length_append, List.length_append] at this
    rw [List.length_append, List.length_append, hA, hs, flatMap_length hs l2, List.length_append, List.length_cons, Nat.add_mul, Nat.add_mul, Nat.one_mul]
    omega
  rw [hfin, ← hlen, List.take_left']
  · rw [List.flatMap_append, List.flatMap_cons, hAA, List.append_assoc]
  · rfl

/-- the block of a row that is owned -/
theorem Own.blk {w : World} {base e g c : Nat} {l : List α} (h : Go.Hx.Own w base e size enc (.slice (some ⟨g, 0, none⟩) l.length c) l) : ∃ cur, Blk w g e cur ∧ base ≤ g ∧ l.length ≤ c ∧ c ≤ maxLen ∧ cur.length = c * size ∧ cur.take (l.length * size) = l.flatMap enc := by
  rcases h.2 with ⟨h1, _⟩ | ⟨g', cap, cur, hv, hb, hg, hn, hm, hs, ht⟩
  · cases h1
  · cases hv
    exact ⟨cur.toList, by unfold Blk; simpa using hg, hb, hn, hm, by simpa using hs, ht⟩
theorem Own.of_blk {w : World} {base e g c : Nat} {l : List α} {cur : List Value} (hs : ∀ x, (enc x).length = size) (hB : Blk w g e cur) (hb : base ≤ g) (hn : l.length ≤ c) (hm : c ≤ maxLen) (hl : cur.length = c * size) (ht : cur.take (l.length * size) = l.flatMap enc) :
    Go.Hx.Own w base e size enc (.slice (some ⟨g, 0, none⟩) l.length c) l :=
  ⟨flatMap_length hs l, .inr ⟨g, c, cur.toArray, rfl, hb, hB, hn, hm, by simpa using hl, by simpa using ht⟩⟩
/-- a row that is owned and not empty: its place -/
theorem Own.place {w : World} {base e c : Nat} {A : Option Addr} {l : List α} {k : Nat} (hk : k < l.length) (h : Go.Hx.Own w base e size enc (.slice A l.length c) l) : ∃ g, A = some ⟨g, 0, none⟩ := by
  rcases h.2 with ⟨_, h1⟩ | ⟨g', cap, cur, hv, _⟩
  · omega
  · cases hv
    exact ⟨g', rfl⟩
end
end Go.Hx
