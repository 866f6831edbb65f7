/- Dyads as plain data: what sums, differences and halves are. -/
import Derived.Test.YtgcbnagfdfgpnaaDoorShrinksAll21
namespace Go.Hx
open Go.RowKit
def mayL (l : List Nat) : Prop := l.length ≤ 40 ∧ l.getLast? ≠ some 0
instance (l : List Nat) : Decidable (mayL l) := by unfold mayL; infer_instance
def mayD (x : PDyad) : Prop := mayL x.limbs ∧ (0 ≤ x.exp ∧ x.exp ≤ 1024) ∧ (if x.limbs = [] then x.exp = 0 ∧ x.neg = false else x.exp = 0 ∨ x.limbs[0]?.getD 0 % 2 = 1)
instance (x : PDyad) : Decidable (mayD x) := by unfold mayD; infer_instance
def finD (neg : Bool) (n k : Nat) : PDyad × Int := if 40 < (digs B32 n).length ∨ 1024 < k then (PDyad.zero, 10) else (⟨neg, digs B32 n, k⟩, 0)
def formD (neg : Bool) : Nat → Nat → PDyad × Int
  | 0, n => if n = 0 then (PDyad.zero, 0) else finD neg n 0
  | k + 1, n => if n = 0 then (PDyad.zero, 0) else if n % 2 = 0 then formD neg k (n / 2) else finD neg n (k + 1)
def numD (x : PDyad) (k : Nat) : Nat := 2 ^ (k - x.exp.toNat) * val B32 x.limbs
def plusS (s : Bool) (m : Nat) (t : Bool) (n : Nat) : Bool × Nat := if s = t then (s, m + n) else if n ≤ m then (s, m - n) else (t, n - m)
def sumD (x y : PDyad) : PDyad × Int :=
  formD (plusS x.neg (numD x (max x.exp.toNat y.exp.toNat)) y.neg (numD y (max x.exp.toNat y.exp.toNat))).1 (max x.exp.toNat y.exp.toNat) (plusS x.neg (numD x (max x.exp.toNat y.exp.toNat)) y.neg (numD y (max x.exp.toNat y.exp.toNat))).2
def halfD (x : PDyad) : PDyad × Int := if mayD x then formD x.neg (x.exp.toNat + 1) (val B32 x.limbs) else (PDyad.zero, 8)
def addD (x y : PDyad) : PDyad × Int := if mayD x ∧ mayD y then sumD x y else (PDyad.zero, 8)
def minusD (x : PDyad) : PDyad := if x.limbs = [] then x else { x with neg := !x.neg }
def subD (x y : PDyad) : PDyad × Int := if mayD x ∧ mayD y then sumD x (minusD y) else (PDyad.zero, 8)

theorem formD_zero (neg : Bool) : ∀ k, formD neg k 0 = (PDyad.zero, 0)
  | 0 => by simp [formD]
  | k + 1 => by simp [formD]
theorem formD_even {neg : Bool} {k n : Nat} (h0 : n ≠ 0) (h : n % 2 = 0) : formD neg (k + 1) n = formD neg k (n / 2) := by simp [formD, h0, h]
theorem formD_end {neg : Bool} {k n : Nat} (h0 : n ≠ 0) (h : k = 0 ∨ n % 2 = 1) : formD neg k n = finD neg n k := by
  cases k with
  | zero => simp [formD, h0]
  | succ k =>
    have h1 : n % 2 = 1 := h.resolve_left (by omega)
    simp [formD, h0, h1]
theorem digs_head {n : Nat} (h : n ≠ 0) : (digs B32 n)[0]?.getD 0 % 2 = n % 2 := by
  rw [digs_pos (by decide) h]
  show n % 4294967296 % 2 = n % 2
  omega
theorem mayD_fin {neg : Bool} {n k : Nat} (h0 : n ≠ 0) (h : k = 0 ∨ n % 2 = 1) : mayD ⟨neg, digs B32 n, k⟩ ↔ ¬ (40 < (digs B32 n).length ∨ 1024 < k) := by
  have hne : digs B32 n ≠ [] := fun e => h0 ((digs_nil (by decide)).1 e)
  unfold mayD mayL
  simp only [hne, if_false]
  rw [digs_head h0]
  constructor
  · rintro ⟨⟨h1, _⟩, ⟨_, h2⟩, _⟩
    omega
  · intro h1
    refine ⟨⟨by omega, digs_last (by decide) n⟩, ⟨by omega, by omega⟩, ?_⟩
    rcases h with h | h
    · left; omega
    · right; exact h
theorem finD_may {neg : Bool} {n k : Nat} (h0 : n ≠ 0) (h : k = 0 ∨ n % 2 = 1) : finD neg n k = if mayD ⟨neg, digs B32 n, k⟩ then (⟨neg, digs B32 n, k⟩, 0) else (PDyad.zero, 10) := by
  unfold finD
  by_cases hc : 40 < (digs B32 n).length ∨ 1024 < k
  · rw [if_pos hc, if_neg (fun hm => (mayD_fin h0 h).1 hm hc)]
  · rw [if_neg hc, if_pos ((mayD_fin h0 h).2 hc)]
end Go.Hx
namespace Go.Proofs.YtgcbnagfdfgpnaaDoor
open Go.RowKit Go.Hx
set_option maxRecDepth 100000 in
set_option maxHeartbeats 1000000 in
theorem ref01_May (x : LX Nat) (w : World) (hx : x.ok w w.heap.size cU32) :
    Calls Tryd.prog 90 #[.slice x.A x.l.length x.c] w fun e w' => e = .returned (.bool (decide (mayL x.l))) ∧ w' = w := by
  obtain ⟨l, A, c⟩ := x
  obtain ⟨hx, hx1, hx2⟩ := hx
  dsimp only at *
  unfold maxLen at hx2
  by_cases h1 : l.length ≤ 40
  · have d1 : decide ((l.length : Int) ≤ 40) = true := by simp; omega
    by_cases h2 : l.length = 0
    · have d2 : ((l.length : Int) == 0) = true := by rw [beq_iff_eq]; omega
      have HR := Lib.hid (show decide (mayL l) = true by rw [List.eq_nil_of_length_eq_zero h2]; decide)
      clear h1 h2 hx
      go_enter Tryd.func90, Tryd.ntmps90
      go_wp2_with fail
      go_ret
      exact ⟨ret_bool HR.out.symm, rfl⟩
    · have d2 : ((l.length : Int) == 0) = false := by rw [beq_eq_false_iff_ne]; omega
      obtain ⟨j, hj⟩ : ∃ j, l.length = j + 1 := ⟨l.length - 1, by omega⟩
      have hlt : j < l.length := by omega
      obtain ⟨b, off, rfl, _, r⟩ := Sl.row (size := 1) (fun _ => rfl) hx (List.getElem?_eq_getElem hlt)
      obtain ⟨p, hp⟩ : ∃ p, l[j] = p := ⟨_, rfl⟩
      have hc : w.cell? ⟨b, off + j, none⟩ = some (.int .u32 p) := by have := r 0 _ rfl; rw [hp] at this; simpa using this
      have hsub : IntKind.i64.wrap ((l.length : Int) - 1) = (j : Int) := by rw [IntWalk.i64_in _ (by omega)]; omega
      have hsub2 : (l.length : Int) - 1 = (j : Int) := by omega
      have hlast : l.getLast? = some p := by rw [List.getLast?_eq_getElem?, hj]; simp [List.getElem?_eq_getElem hlt, hp]
      have hji : (j : Int) < (l.length : Int) := by omega
      by_cases h3 : p = 0
      · have d3 : ((p : Int) != 0) = false := by simp [h3]
        have HR := Lib.hid (show decide (mayL l) = false from decide_eq_false fun h => h.2 (by rw [hlast, h3]))
        clear h1 h2 h3 hx r hp hj hlast
        go_enter Tryd.func90, Tryd.ntmps90
        go_wp2_with fail
        go_ret
        exact ⟨ret_bool HR.out.symm, rfl⟩
      · have d3 : ((p : Int) != 0) = true := by simp [h3]
        have HR := Lib.hid (show decide (mayL l) = true from decide_eq_true ⟨h1, by rw [hlast]; simpa using h3⟩)
        clear h1 h2 h3 hx r hp hj hlast
        go_enter Tryd.func90, Tryd.ntmps90
        go_wp2_with fail
        go_ret
        exact ⟨ret_bool HR.out.symm, rfl⟩
  · have d1 : decide ((l.length : Int) ≤ 40) = false := by simp; omega
    have HR := Lib.hid (show decide (mayL l) = false from decide_eq_false fun h => h1 h.1)
    clear h1 hx
    go_enter Tryd.func90, Tryd.ntmps90
    go_wp2_with fail
    go_ret
    exact ⟨ret_bool HR.out.symm, rfl⟩
end Go.Proofs.YtgcbnagfdfgpnaaDoor
