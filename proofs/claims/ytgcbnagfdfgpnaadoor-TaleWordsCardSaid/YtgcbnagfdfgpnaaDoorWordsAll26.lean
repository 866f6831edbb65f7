/- Words of dyads: plain data. -/
import Derived.Test.YtgcbnagfdfgpnaaDoorWordsAll22
import Derived.Test.YtgcbnagfdfgpnaaDoorWordsAll4
import Derived.Lib.Repeat
namespace Go.Hx
open Go.RowKit
/-- a limb's digits, all eight -/
def pad8 (l : List UInt8) : List UInt8 := Lib.repeatL [48] (8 - l.length) ++ l
/-- the digits of limbs, the last limb first -/
def digL : List Nat → List UInt8
  | [] => []
  | x :: r => if r = [] then hexL x else digL r ++ pad8 (hexL x)
/-- a dyad's word -/
def wordL (a : PDyad) : List UInt8 :=
  (if a.neg = true then [45] else []) ++ digL a.limbs ++ (if a.limbs = [] then [48] else []) ++ (if 0 < a.exp then 47 :: Lib.itoa a.exp else [])
theorem hexL_pos (n : Nat) : 1 ≤ (hexL n).length := by
  by_cases h : n < 16
  · rw [hexL_small h]; simp
  · rw [hexL_step h, List.length_append]; simp
theorem hexL_len : ∀ (k n : Nat), n < 16 ^ (k + 1) → (hexL n).length ≤ k + 1
  | 0, n, h => by rw [hexL_small (by simpa using h)]; simp
  | k + 1, n, h => by
    by_cases hn : n < 16
    · rw [hexL_small hn]; simp
    · rw [hexL_step hn, List.length_append]
      have h1 : n / 16 < 16 ^ (k + 1) := Nat.div_lt_of_lt_mul (by rw [← Nat.pow_succ']; exact h)
      have := hexL_len k (n / 16) h1
      simp
      omega
theorem hexL_len8 {n : Nat} (h : n < 4294967296) : (hexL n).length ≤ 8 := hexL_len 7 n (by have : (16 : Nat) ^ 8 = 4294967296 := by decide
                                                                                           omega)
theorem pad8_len {l : List UInt8} (h : l.length ≤ 8) : (pad8 l).length = 8 := by
  unfold pad8
  rw [List.length_append, Lib.repeatL_length]
  simp
  omega
theorem digL_len : ∀ (l : List Nat), (∀ n ∈ l, n < 4294967296) → (digL l).length ≤ 8 * l.length
  | [], _ => by simp [digL]
  | x :: r, h => by
    have h8 := hexL_len8 (h x (by simp))
    unfold digL
    split
    · simp only [List.length_cons]; omega
    · have := digL_len r fun n hn => h n (List.mem_cons_of_mem _ hn)
      rw [List.length_append, pad8_len h8, List.length_cons]
      omega
theorem drop_cons {α : Type} {l : List α} {i : Nat} {x : α} (h : l[i]? = some x) : l.drop i = x :: l.drop (i + 1) := by
  obtain ⟨h1, rfl⟩ := List.getElem?_eq_some_iff.1 h
  exact List.drop_eq_getElem_cons h1
end Go.Hx
