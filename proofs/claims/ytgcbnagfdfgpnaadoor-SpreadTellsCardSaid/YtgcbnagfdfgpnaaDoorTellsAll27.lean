/- What comes of meetings, as plain data. -/
import Derived.Test.YtgcbnagfdfgpnaaDoorTellsAll26
import Derived.Test.YtgcbnagfdfgpnaaDoorTellsAll5
namespace Go.Hx
open Go.RowKit
/-- an answer that may be, or the error of too much -/
def OkD (p : PDyad × Int) : Prop := (p.2 = 0 ∧ mayD p.1) ∨ p.2 = 10
theorem mayD_zero : mayD PDyad.zero := by decide
theorem finD_okD {neg : Bool} {n k : Nat} (h0 : n ≠ 0) (h : k = 0 ∨ n % 2 = 1) : OkD (finD neg n k) := by
  rw [finD_may h0 h]
  split
  · rename_i hm; exact .inl ⟨rfl, hm⟩
  · exact .inr rfl
theorem formD_okD (neg : Bool) : ∀ k n, OkD (formD neg k n)
  | 0, n => by
    unfold formD
    split
    · exact .inl ⟨rfl, mayD_zero⟩
    · rename_i h; exact finD_okD h (.inl rfl)
  | k + 1, n => by
    unfold formD
    split
    · exact .inl ⟨rfl, mayD_zero⟩
    · rename_i h
      split
      · exact formD_okD neg k _
      · rename_i h2; exact finD_okD h (.inr (by omega))
theorem addD_okD {x y : PDyad} (hx : mayD x) (hy : mayD y) : OkD (addD x y) := by
  unfold addD; rw [if_pos ⟨hx, hy⟩]; exact formD_okD _ _ _
theorem subD_okD {x y : PDyad} (hx : mayD x) (hy : mayD y) : OkD (subD x y) := by
  unfold subD; rw [if_pos ⟨hx, hy⟩]; exact formD_okD _ _ _
theorem halfD_okD {x : PDyad} (hx : mayD x) : OkD (halfD x) := by
  unfold halfD; rw [if_pos hx]; exact formD_okD _ _ _
/-- half of a sum, and that less the first one -/
def middleD (a b : PDyad) : PDyad × PDyad × Int :=
  if (addD a b).2 = 0 ∧ (halfD (addD a b).1).2 = 0 ∧ (subD (halfD (addD a b).1).1 a).2 = 0 then ((halfD (addD a b).1).1, (subD (halfD (addD a b).1).1 a).1, 0) else (PDyad.zero, PDyad.zero, 10)
inductive MidP (a b : PDyad) : PDyad × PDyad × Int → Prop where
  | add (h : (addD a b).2 = 10) : MidP a b (PDyad.zero, PDyad.zero, 10)
  | half (h0 : (addD a b).2 = 0) (m0 : mayD (addD a b).1) (h : (halfD (addD a b).1).2 = 10) : MidP a b (PDyad.zero, PDyad.zero, 10)
  | sub (h0 : (addD a b).2 = 0) (m0 : mayD (addD a b).1) (h1 : (halfD (addD a b).1).2 = 0) (m1 : mayD (halfD (addD a b).1).1) (h : (subD (halfD (addD a b).1).1 a).2 = 10) : MidP a b (PDyad.zero, PDyad.zero, 10)
  | ok (h0 : (addD a b).2 = 0) (m0 : mayD (addD a b).1) (h1 : (halfD (addD a b).1).2 = 0) (m1 : mayD (halfD (addD a b).1).1) (h2 : (subD (halfD (addD a b).1).1 a).2 = 0) (m2 : mayD (subD (halfD (addD a b).1).1 a).1) : MidP a b ((halfD (addD a b).1).1, (subD (halfD (addD a b).1).1 a).1, 0)
theorem midP {a b : PDyad} (ha : mayD a) (hb : mayD b) : MidP a b (middleD a b) := by
  unfold middleD
  rcases addD_okD ha hb with ⟨h0, m0⟩ | h0
  · rcases halfD_okD m0 with ⟨h1, m1⟩ | h1
    · rcases subD_okD m1 ha with ⟨h2, m2⟩ | h2
      · rw [if_pos ⟨h0, h1, h2⟩]; exact .ok h0 m0 h1 m1 h2 m2
      · rw [if_neg (fun h => by rw [h2] at h; exact absurd h.2.2 (by decide))]; exact .sub h0 m0 h1 m1 h2
    · rw [if_neg (fun h => by rw [h1] at h; exact absurd h.2.1 (by decide))]; exact .half h0 m0 h1
  · rw [if_neg (fun h => by rw [h0] at h; exact absurd h.1 (by decide))]; exact .add h0
theorem middleD_err {a b : PDyad} (ha : mayD a) (hb : mayD b) : (middleD a b).2.2 = 0 ∧ mayD (middleD a b).1 ∧ mayD (middleD a b).2.1 ∨ middleD a b = (PDyad.zero, PDyad.zero, 10) := by
  have h := midP ha hb
  generalize middleD a b = r at h
  cases h with
  | add h => exact .inr rfl
  | half h0 m0 h => exact .inr rfl
  | sub h0 m0 h1 m1 h => exact .inr rfl
  | ok h0 m0 h1 m1 h2 m2 => exact .inl ⟨rfl, m1, m2⟩
theorem middleD_fine (a b : PDyad) : Fine (middleD a b).1 ∧ Fine (middleD a b).2.1 := by
  unfold middleD
  split
  · exact ⟨halfD_fine _, subD_fine _ _⟩
  · exact ⟨fine_zero, fine_zero⟩
/-- sums, part by part -/
def eachM (f : PDyad → PDyad → PDyad × Int) (x y : PMass) : PMass × Int :=
  if mayM x ∧ mayM y then (if (f x.s y.s).2 = 0 ∧ (f x.w y.w).2 = 0 ∧ (f x.c y.c).2 = 0 ∧ (f x.a y.a).2 = 0 then (⟨(f x.s y.s).1, (f x.w y.w).1, (f x.c y.c).1, (f x.a y.a).1⟩, 0) else (PMass.zero, 10)) else (PMass.zero, 8)
def addM (x y : PMass) : PMass × Int := eachM addD x y
def meetM (x y : PMass) : PMass × PMass × Int :=
  if mayM x ∧ mayM y then (if (middleD x.c y.c).2.2 = 0 ∧ (middleD x.a y.a).2.2 = 0 then (⟨y.s, y.w, (middleD x.c y.c).1, (middleD x.a y.a).1⟩, ⟨PDyad.zero, PDyad.zero, (middleD x.c y.c).2.1, (middleD x.a y.a).2.1⟩, 0) else (PMass.zero, PMass.zero, 10)) else (PMass.zero, PMass.zero, 8)
def doneM (x y : PMass) : PMass × Int :=
  if mayM x ∧ mayM y then addM x ⟨PDyad.zero, PDyad.zero, y.c, y.a⟩ else (PMass.zero, 8)
def FineM (x : PMass) : Prop := Fine x.s ∧ Fine x.w ∧ Fine x.c ∧ Fine x.a
theorem fineM_zero : FineM PMass.zero := ⟨fine_zero, fine_zero, fine_zero, fine_zero⟩
theorem mayM_zero : mayM PMass.zero := ⟨mayD_zero, mayD_zero, mayD_zero, mayD_zero⟩
theorem addM_fine (x y : PMass) : FineM (addM x y).1 := by
  unfold addM eachM
  split
  · split
    · exact ⟨addD_fine _ _, addD_fine _ _, addD_fine _ _, addD_fine _ _⟩
    · exact fineM_zero
  · exact fineM_zero
theorem OkD.may {p : PDyad × Int} (h : OkD p) (h0 : p.2 = 0) : mayD p.1 := by
  rcases h with h | h
  · exact h.2
  · rw [h0] at h; cases h
theorem addM_may {x y : PMass} (h : (addM x y).2 = 0) : mayM (addM x y).1 := by
  unfold addM eachM at *
  split at h
  · rename_i hm
    rw [if_pos hm]
    split at h
    · rename_i h0
      rw [if_pos h0]
      exact ⟨(addD_okD hm.1.1 hm.2.1).may h0.1, (addD_okD hm.1.2.1 hm.2.2.1).may h0.2.1, (addD_okD hm.1.2.2.1 hm.2.2.2.1).may h0.2.2.1, (addD_okD hm.1.2.2.2 hm.2.2.2.2).may h0.2.2.2⟩
    · cases h
  · cases h
theorem doneM_fine (x y : PMass) : FineM (doneM x y).1 := by
  unfold doneM
  split
  · exact addM_fine _ _
  · exact fineM_zero
theorem doneM_may {x y : PMass} (h : (doneM x y).2 = 0) : mayM (doneM x y).1 := by
  unfold doneM at *
  split at h
  · rename_i hm; rw [if_pos hm]; exact addM_may h
  · cases h
theorem meetM_fine {x y : PMass} (hy : FineM y) : FineM (meetM x y).1 ∧ FineM (meetM x y).2.1 := by
  unfold meetM
  split
  · split
    · exact ⟨⟨hy.1, hy.2.1, (middleD_fine _ _).1, (middleD_fine _ _).1⟩, ⟨fine_zero, fine_zero, (middleD_fine _ _).2, (middleD_fine _ _).2⟩⟩
    · exact ⟨fineM_zero, fineM_zero⟩
  · exact ⟨fineM_zero, fineM_zero⟩
theorem meetM_may {x y : PMass} (h : (meetM x y).2.2 = 0) : mayM (meetM x y).1 ∧ mayM (meetM x y).2.1 := by
  unfold meetM at *
  split at h
  · rename_i hm
    rw [if_pos hm]
    split at h
    · rename_i h0
      rw [if_pos h0]
      have hc := (middleD_err hm.1.2.2.1 hm.2.2.2.1).resolve_right (fun e => by rw [e] at h0; exact absurd h0.1 (by decide))
      have ha := (middleD_err hm.1.2.2.2 hm.2.2.2.2).resolve_right (fun e => by rw [e] at h0; exact absurd h0.2 (by decide))
      exact ⟨⟨hm.2.1, hm.2.2.1, hc.2.1, ha.2.1⟩, ⟨mayD_zero, mayD_zero, hc.2.2, ha.2.2⟩⟩
    · cases h
  · cases h
/-- what comes of meetings that may be, of masses that may be -/
def meetsM : List PMeeting → List PMass → List PMass × Int
  | [], l => (l, 0)
  | x :: m, l =>
    if (meetM (l[x.asks.toNat]?.getD PMass.zero) (l[x.asked.toNat]?.getD PMass.zero)).2.2 = 0 then
      (if (doneM (l[x.asks.toNat]?.getD PMass.zero) (meetM (l[x.asks.toNat]?.getD PMass.zero) (l[x.asked.toNat]?.getD PMass.zero)).2.1).2 = 0 then
        meetsM m ((l.set x.asked.toNat (meetM (l[x.asks.toNat]?.getD PMass.zero) (l[x.asked.toNat]?.getD PMass.zero)).1).set x.asks.toNat (doneM (l[x.asks.toNat]?.getD PMass.zero) (meetM (l[x.asks.toNat]?.getD PMass.zero) (l[x.asked.toNat]?.getD PMass.zero)).2.1).1)
      else ([], (doneM (l[x.asks.toNat]?.getD PMass.zero) (meetM (l[x.asks.toNat]?.getD PMass.zero) (l[x.asked.toNat]?.getD PMass.zero)).2.1).2))
    else ([], (meetM (l[x.asks.toNat]?.getD PMass.zero) (l[x.asked.toNat]?.getD PMass.zero)).2.2)
def meetP (l : List PMass) (m : List PMeeting) : List PMass × Int :=
  if askedP l.length m = 0 then (if ∀ x ∈ l, mayM x then meetsM m l else ([], 8)) else ([], askedP l.length m)
end Go.Hx
