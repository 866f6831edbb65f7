/- Tales' texts: plain. -/
import Derived.Test.YtgcbnagfdfgpnaaDoorData
import Derived.Lib.ItoaLen
namespace Go.Hx
open Go.RowKit
def smallB (n : Int) : Bool := decide (-2147483647 ≤ n ∧ n ≤ 2147483647)
/-- which numbers a step's line has -/
def offs (op : Int) : List Nat := if op = 1 ∨ op = 10 then [1] else if op = 2 ∨ op = 3 ∨ op = 4 ∨ op = 5 then [1] else if op = 6 ∨ op = 7 ∨ op = 8 then [2] else if op = 9 then [2, 3] else [1, 2, 3]
def drw (op : Int) : Bool := !decide (op = 1 ∨ op = 10 ∨ op = 6 ∨ op = 7 ∨ op = 8 ∨ op = 11)
def PStep.fld (x : PStep) (k : Nat) : Int := if k = 1 then x.id else if k = 2 then x.arg else x.extra
def lineL (s : List UInt8) (vs : List Int) : List UInt8 := s ++ vs.flatMap fun v => 32 :: Lib.itoa v
def namesL : List (List UInt8) := [[], [116, 105, 99, 107], [112, 117, 115, 104], [97, 115, 107], [110, 101, 119, 115], [116, 101, 108, 108], [100, 101, 108, 105, 118, 101, 114], [100, 114, 111, 112], [100, 111, 117, 98, 108, 101], [115, 112, 111, 105, 108], [99, 114, 97, 115, 104], [106, 111, 105, 110], [113, 117, 101, 114, 121]]
def nameL (op : Int) : List UInt8 := namesL[op.toNat]?.getD []
def stepL (x : PStep) : List UInt8 := lineL (nameL x.op) ((offs x.op).map x.fld) ++ if drw x.op = true then 32 :: Lib.decDigits x.draw.toNat else []
def headL (t : PTale) : List UInt8 := lineL [119, 111, 114, 108, 100] ([t.conf.nodes, t.conf.len, t.conf.patience, t.conf.cap] ++ t.values)
def stepsL (l : List PStep) : List UInt8 := l.flatMap fun x => stepL x ++ [10]
def textL (t : PTale) : List UInt8 := headL t ++ [10] ++ stepsL t.steps
def restS (x : PStep) : PStep := ⟨x.op, if 1 ∈ offs x.op then 0 else x.id, if 2 ∈ offs x.op then 0 else x.arg, if 3 ∈ offs x.op then 0 else x.extra, if drw x.op = true then 0 else x.draw⟩
def mayS (x : PStep) : Bool := decide (1 ≤ x.op ∧ x.op ≤ 12) && (smallB x.id && smallB x.arg && smallB x.extra) && decide (restS x = ⟨x.op, 0, 0, 0, 0⟩)
def mayT (t : PTale) : Bool := (smallB t.conf.nodes && smallB t.conf.len && smallB t.conf.patience && smallB t.conf.cap) && t.values.all smallB && decide (t.values.length ≤ 100 ∧ t.steps.length ≤ 512) && t.steps.all mayS
def printP (t : PTale) : List UInt8 × Int := if mayT t = true then (if 65536 < (textL t).length then ([], 4) else (textL t, 0)) else ([], 8)
theorem itoa_small {v : Int} (h : smallB v = true) : (Lib.itoa v).length ≤ 21 := by
  have := of_decide_eq_true h
  unfold Lib.itoa
  split
  · rw [List.length_cons, Lib.decDigits_length]
    have := Lib.nDigits_le20 v.natAbs (by omega)
    omega
  · rw [Lib.decDigits_length]
    have := Lib.nDigits_le20 v.toNat (by omega)
    omega
theorem lineL_snoc (s : List UInt8) (vs : List Int) (v : Int) : lineL s (vs ++ [v]) = lineL s vs ++ 32 :: Lib.itoa v := by
  unfold lineL; rw [List.flatMap_append, List.append_assoc]; simp
theorem itoa_len {v : Int} (h : inI64 v) : (Lib.itoa v).length ≤ 21 := by
  unfold inI64 at h
  unfold Lib.itoa
  split
  · rw [List.length_cons, Lib.decDigits_length]
    have := Lib.nDigits_le20 v.natAbs (by omega)
    omega
  · rw [Lib.decDigits_length]
    have := Lib.nDigits_le20 v.toNat (by omega)
    omega
theorem lineL_len (s : List UInt8) : ∀ (vs : List Int), (∀ v ∈ vs, inI64 v) → (lineL s vs).length ≤ s.length + 22 * vs.length
  | [], _ => by simp [lineL]
  | v :: vs, h => by
    have h1 := lineL_len s vs (fun u hu => h u (List.mem_cons_of_mem _ hu))
    have h2 := itoa_len (h v (List.mem_cons_self ..))
    unfold lineL at *
    simp only [List.length_append, List.flatMap_cons, List.length_cons] at *
    omega
end Go.Hx
