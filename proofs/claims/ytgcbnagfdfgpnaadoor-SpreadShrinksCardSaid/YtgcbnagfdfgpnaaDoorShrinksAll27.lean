/- The bound behind rounds, as plain data. -/
import Derived.Test.YtgcbnagfdfgpnaaDoorShrinksAll11
import Derived.Test.YtgcbnagfdfgpnaaDoorShrinksAll23
namespace Go.Hx
open Go.RowKit
def halvesD : Nat → PDyad → PDyad × Int
  | 0, p => (p, 0)
  | k + 1, p => if (halfD p).2 = 0 then halvesD k (halfD p).1 else (PDyad.zero, (halfD p).2)
def stepD (m : Nat) (x : PDyad) : PDyad × Int :=
  if (halvesD m x).2 = 0 then (if (subD x (halvesD m x).1).2 = 0 then ((subD x (halvesD m x).1).1, 0) else (PDyad.zero, (subD x (halvesD m x).1).2)) else (PDyad.zero, (halvesD m x).2)
def boundsD (m : Nat) : Nat → PDyad → PDyad × Int
  | 0, x => (x, 0)
  | k + 1, x => if (stepD m x).2 = 0 then boundsD m k (stepD m x).1 else (PDyad.zero, (stepD m x).2)
def boundD (x : PDyad) (n r : Int) : PDyad × Int :=
  if mayD x ∧ x.neg = false then (if 2 ≤ n ∧ n ≤ 8 ∧ 0 ≤ r ∧ r ≤ 64 then boundsD (n - 1).toNat (r.toNat / (n - 1).toNat) x else (PDyad.zero, 2)) else (PDyad.zero, 8)
/-- limbs, and not many -/
def Fine (x : PDyad) : Prop := Limbs x.limbs ∧ x.limbs.length ≤ 40
theorem fine_zero : Fine PDyad.zero := ⟨(fun _ h => by cases h), by decide⟩
theorem finD_fine (neg : Bool) (n k : Nat) : Fine (finD neg n k).1 := by
  unfold finD
  split
  · exact fine_zero
  · rename_i h
    exact ⟨Limbs.digs n, by show (digs B32 n).length ≤ 40; omega⟩
theorem formD_fine (neg : Bool) : ∀ k n, Fine (formD neg k n).1
  | 0, n => by
    unfold formD
    split
    · exact fine_zero
    · exact finD_fine _ _ _
  | k + 1, n => by
    unfold formD
    split
    · exact fine_zero
    · split
      · exact formD_fine neg k _
      · exact finD_fine _ _ _
theorem halfD_fine (x : PDyad) : Fine (halfD x).1 := by
  unfold halfD
  split
  · exact formD_fine _ _ _
  · exact fine_zero
theorem sumD_fine (x y : PDyad) : Fine (sumD x y).1 := formD_fine _ _ _
theorem addD_fine (x y : PDyad) : Fine (addD x y).1 := by
  unfold addD
  split
  · exact sumD_fine _ _
  · exact fine_zero
theorem subD_fine (x y : PDyad) : Fine (subD x y).1 := by
  unfold subD
  split
  · exact sumD_fine _ _
  · exact fine_zero
theorem halves_next {k m : Nat} {p : PDyad} {h : PDyad × Int} (hk : k < m) (he : (halfD p).2 = 0) (h0 : halvesD (m - k) p = h) : halvesD (m - (k + 1)) (halfD p).1 = h := by
  rw [← h0, show m - k = m - (k + 1) + 1 by omega, halvesD, if_pos he]
theorem halves_stop {k m : Nat} {p : PDyad} {h : PDyad × Int} (hk : k < m) (he : (halfD p).2 ≠ 0) (h0 : halvesD (m - k) p = h) : h = (PDyad.zero, (halfD p).2) := by
  rw [← h0, show m - k = m - (k + 1) + 1 by omega, halvesD, if_neg he]
theorem bounds_stop1 {m k K : Nat} {x : PDyad} {t : PDyad × Int} (hk : k < K) (he : (halvesD m x).2 ≠ 0) (h0 : boundsD m (K - k) x = t) : t = (PDyad.zero, (halvesD m x).2) := by
  have hs : stepD m x = (PDyad.zero, (halvesD m x).2) := by unfold stepD; rw [if_neg he]
  rw [← h0, show K - k = K - (k + 1) + 1 by omega, boundsD, hs, if_neg he]
theorem bounds_stop2 {m k K : Nat} {x : PDyad} {t : PDyad × Int} (hk : k < K) (he : (halvesD m x).2 = 0) (hs : (subD x (halvesD m x).1).2 ≠ 0) (h0 : boundsD m (K - k) x = t) : t = (PDyad.zero, (subD x (halvesD m x).1).2) := by
  have hs' : stepD m x = (PDyad.zero, (subD x (halvesD m x).1).2) := by unfold stepD; rw [if_pos he, if_neg hs]
  rw [← h0, show K - k = K - (k + 1) + 1 by omega, boundsD, hs', if_neg hs]
theorem bounds_next {m k K : Nat} {x : PDyad} {t : PDyad × Int} (hk : k < K) (he : (halvesD m x).2 = 0) (hs : (subD x (halvesD m x).1).2 = 0) (h0 : boundsD m (K - k) x = t) : boundsD m (K - (k + 1)) (subD x (halvesD m x).1).1 = t := by
  have hs' : stepD m x = ((subD x (halvesD m x).1).1, 0) := by unfold stepD; rw [if_pos he, if_pos hs]
  rw [← h0, show K - k = K - (k + 1) + 1 by omega, boundsD, hs', if_pos rfl]

/-- the state of the rounds -/
structure BndI (w wr : World) (g m K k : Nat) (T : PDyad × Int) (x : XDyad) : Prop where
  blk : Blk wr g 24 [.bool x.neg, .slice x.limbs.A x.limbs.l.length x.limbs.c, .int .i64 x.exp]
  mine : x.mine wr w.heap.size
  fine : Fine x.data
  eq : boundsD m (K - k) x.data = T
  out : Blk wr (w.heap.size + 1) 24 [.bool false, .slice none 0 0, .int .i64 0]
  ext : Ext w wr
  near : w.heap.size ≤ g ∧ g ≠ w.heap.size + 1
/-- the state of the halves -/
structure HlvI (w wr : World) (g h m i : Nat) (H : PDyad × Int) (x p : XDyad) : Prop where
  blk : Blk wr h 24 [.bool p.neg, .slice p.limbs.A p.limbs.l.length p.limbs.c, .int .i64 p.exp]
  mine : p.mine wr w.heap.size
  fine : Fine p.data
  eq : halvesD (m - i) p.data = H
  xblk : Blk wr g 24 [.bool x.neg, .slice x.limbs.A x.limbs.l.length x.limbs.c, .int .i64 x.exp]
  xmine : x.mine wr w.heap.size
  out : Blk wr (w.heap.size + 1) 24 [.bool false, .slice none 0 0, .int .i64 0]
  ext : Ext w wr
  near : w.heap.size ≤ h ∧ h ≠ w.heap.size + 1 ∧ h ≠ g
end Go.Hx
