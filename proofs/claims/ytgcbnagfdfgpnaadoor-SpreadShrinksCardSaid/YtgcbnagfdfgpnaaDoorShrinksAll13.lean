/- Parts of a proof, joined: MeetP, ShrinkP. -/
import Derived.Test.YtgcbnagfdfgpnaaDoorShrinksAll12
import Derived.Test.YtgcbnagfdfgpnaaDoorJoinP
section
namespace Go.Hx
open Go.RowKit
/-- an answer that may be, or the error of too much -/
def OkD (p : PDyad × Int) : Prop := (p.2 = 0 ∧ mayD p.1) ∨ p.2 = 10
theorem mayD_zero : mayD PDyad.zero := by decide
theorem finD_okD {neg : Bool} {n k : Nat} (h0 : n ≠ 0) (h : k = 0 ∨ n % 2 = 1) : OkD (finD neg n k) := by
  rw [finD_may h0 h]
  split
  · rename_i hm; exact .inl ⟨rfl, hm⟩
  · exact .inr rfl
theorem formD_okD (neg : Bool) : ∀ k n, OkD (formD neg k n)
  | 0, n => by
    unfold formD
    split
    · exact .inl ⟨rfl, mayD_zero⟩
    · rename_i h; exact finD_okD h (.inl rfl)
  | k + 1, n => by
    unfold formD
    split
    · exact .inl ⟨rfl, mayD_zero⟩
    · rename_i h
      split
      · exact formD_okD neg k _
      · rename_i h2; exact finD_okD h (.inr (by omega))
theorem addD_okD {x y : PDyad} (hx : mayD x) (hy : mayD y) : OkD (addD x y) := by
  unfold addD; rw [if_pos ⟨hx, hy⟩]; exact formD_okD _ _ _
theorem subD_okD {x y : PDyad} (hx : mayD x) (hy : mayD y) : OkD (subD x y) := by
  unfold subD; rw [if_pos ⟨hx, hy⟩]; exact formD_okD _ _ _
theorem halfD_okD {x : PDyad} (hx : mayD x) : OkD (halfD x) := by
  unfold halfD; rw [if_pos hx]; exact formD_okD _ _ _
/-- half of a sum, and that less the first one -/
def middleD (a b : PDyad) : PDyad × PDyad × Int :=
  if (addD a b).2 = 0 ∧ (halfD (addD a b).1).2 = 0 ∧ (subD (halfD (addD a b).1).1 a).2 = 0 then ((halfD (addD a b).1).1, (subD (halfD (addD a b).1).1 a).1, 0) else (PDyad.zero, PDyad.zero, 10)
inductive MidP (a b : PDyad) : PDyad × PDyad × Int → Prop where
  | add (h : (addD a b).2 = 10) : MidP a b (PDyad.zero, PDyad.zero, 10)
  | half (h0 : (addD a b).2 = 0) (m0 : mayD (addD a b).1) (h : (halfD (addD a b).1).2 = 10) : MidP a b (PDyad.zero, PDyad.zero, 10)
  | sub (h0 : (addD a b).2 = 0) (m0 : mayD (addD a b).1) (h1 : (halfD (addD a b).1).2 = 0) (m1 : mayD (halfD (addD a b).1).1) (h : (subD (halfD (addD a b).1).1 a).2 = 10) : MidP a b (PDyad.zero, PDyad.zero, 10)
  | ok (h0 : (addD a b).2 = 0) (m0 : mayD (addD a b).1) (h1 : (halfD (addD a b).1).2 = 0) (m1 : mayD (halfD (addD a b).1).1) (h2 : (subD (halfD (addD a b).1).1 a).2 = 0) (m2 : mayD (subD (halfD (addD a b).1).1 a).1) : MidP a b ((halfD (addD a b).1).1, (subD (halfD (addD a b).1).1 a).1, 0)
theorem midP {a b : PDyad} (ha : mayD a) (hb : mayD b) : MidP a b (middleD a b) := by
  unfold middleD
  rcases addD_okD ha hb with ⟨h0, m0⟩ | h0
  · rcases halfD_okD m0 with ⟨h1, m1⟩ | h1
    · rcases subD_okD m1 ha with ⟨h2, m2⟩ | h2
      · rw [if_pos ⟨h0, h1, h2⟩]; exact .ok h0 m0 h1 m1 h2 m2
      · rw [if_neg (fun h => by rw [h2] at h; exact absurd h.2.2 (by decide))]; exact .sub h0 m0 h1 m1 h2
    · rw [if_neg (fun h => by rw [h1] at h; exact absurd h.2.1 (by decide))]; exact .half h0 m0 h1
  · rw [if_neg (fun h => by rw [h0] at h; exact absurd h.1 (by decide))]; exact .add h0
theorem middleD_err {a b : PDyad} (ha : mayD a) (hb : mayD b) : (middleD a b).2.2 = 0 ∧ mayD (middleD a b).1 ∧ mayD (middleD a b).2.1 ∨ middleD a b = (PDyad.zero, PDyad.zero, 10) := by
  have h := midP ha hb
  generalize middleD a b = r at h
  cases h with
  | add h => exact .inr rfl
  | half h0 m0 h => exact .inr rfl
  | sub h0 m0 h1 m1 h => exact .inr rfl
  | ok h0 m0 h1 m1 h2 m2 => exact .inl ⟨rfl, m1, m2⟩
theorem middleD_fine (a b : PDyad) : Fine (middleD a b).1 ∧ Fine (middleD a b).2.1 := by
  unfold middleD
  split
  · exact ⟨halfD_fine _, subD_fine _ _⟩
  · exact ⟨fine_zero, fine_zero⟩
/-- sums, part by part -/
def eachM (f : PDyad → PDyad → PDyad × Int) (x y : PMass) : PMass × Int :=
  if mayM x ∧ mayM y then (if (f x.s y.s).2 = 0 ∧ (f x.w y.w).2 = 0 ∧ (f x.c y.c).2 = 0 ∧ (f x.a y.a).2 = 0 then (⟨(f x.s y.s).1, (f x.w y.w).1, (f x.c y.c).1, (f x.a y.a).1⟩, 0) else (PMass.zero, 10)) else (PMass.zero, 8)
def addM (x y : PMass) : PMass × Int := eachM addD x y
def meetM (x y : PMass) : PMass × PMass × Int :=
  if mayM x ∧ mayM y then (if (middleD x.c y.c).2.2 = 0 ∧ (middleD x.a y.a).2.2 = 0 then (⟨y.s, y.w, (middleD x.c y.c).1, (middleD x.a y.a).1⟩, ⟨PDyad.zero, PDyad.zero, (middleD x.c y.c).2.1, (middleD x.a y.a).2.1⟩, 0) else (PMass.zero, PMass.zero, 10)) else (PMass.zero, PMass.zero, 8)
def doneM (x y : PMass) : PMass × Int :=
  if mayM x ∧ mayM y then addM x ⟨PDyad.zero, PDyad.zero, y.c, y.a⟩ else (PMass.zero, 8)
def FineM (x : PMass) : Prop := Fine x.s ∧ Fine x.w ∧ Fine x.c ∧ Fine x.a
theorem fineM_zero : FineM PMass.zero := ⟨fine_zero, fine_zero, fine_zero, fine_zero⟩
theorem mayM_zero : mayM PMass.zero := ⟨mayD_zero, mayD_zero, mayD_zero, mayD_zero⟩
theorem addM_fine (x y : PMass) : FineM (addM x y).1 := by
  unfold addM eachM
  split
  · split
    · exact ⟨addD_fine _ _, addD_fine _ _, addD_fine _ _, addD_fine _ _⟩
    · exact fineM_zero
  · exact fineM_zero
theorem OkD.may {p : PDyad × Int} (h : OkD p) (h0 : p.2 = 0) : mayD p.1 := by
  rcases h with h | h
  · exact h.2
  · rw [h0] at h; cases h
theorem addM_may {x y : PMass} (h : (addM x y).2 = 0) : mayM (addM x y).1 := by
  unfold addM eachM at *
  split at h
  · rename_i hm
    rw [if_pos hm]
    split at h
    · rename_i h0
      rw [if_pos h0]
      exact ⟨(addD_okD hm.1.1 hm.2.1).may h0.1, (addD_okD hm.1.2.1 hm.2.2.1).may h0.2.1, (addD_okD hm.1.2.2.1 hm.2.2.2.1).may h0.2.2.1, (addD_okD hm.1.2.2.2 hm.2.2.2.2).may h0.2.2.2⟩
    · cases h
  · cases h
theorem doneM_fine (x y : PMass) : FineM (doneM x y).1 := by
  unfold doneM
  split
  · exact addM_fine _ _
  · exact fineM_zero
theorem doneM_may {x y : PMass} (h : (doneM x y).2 = 0) : mayM (doneM x y).1 := by
  unfold doneM at *
  split at h
  · rename_i hm; rw [if_pos hm]; exact addM_may h
  · cases h
theorem meetM_fine {x y : PMass} (hy : FineM y) : FineM (meetM x y).1 ∧ FineM (meetM x y).2.1 := by
  unfold meetM
  split
  · split
    · exact ⟨⟨hy.1, hy.2.1, (middleD_fine _ _).1, (middleD_fine _ _).1⟩, ⟨fine_zero, fine_zero, (middleD_fine _ _).2, (middleD_fine _ _).2⟩⟩
    · exact ⟨fineM_zero, fineM_zero⟩
  · exact ⟨fineM_zero, fineM_zero⟩
theorem meetM_may {x y : PMass} (h : (meetM x y).2.2 = 0) : mayM (meetM x y).1 ∧ mayM (meetM x y).2.1 := by
  unfold meetM at *
  split at h
  · rename_i hm
    rw [if_pos hm]
    split at h
    · rename_i h0
      rw [if_pos h0]
      have hc := (middleD_err hm.1.2.2.1 hm.2.2.2.1).resolve_right (fun e => by rw [e] at h0; exact absurd h0.1 (by decide))
      have ha := (middleD_err hm.1.2.2.2 hm.2.2.2.2).resolve_right (fun e => by rw [e] at h0; exact absurd h0.2 (by decide))
      exact ⟨⟨hm.2.1, hm.2.2.1, hc.2.1, ha.2.1⟩, ⟨mayD_zero, mayD_zero, hc.2.2, ha.2.2⟩⟩
    · cases h
  · cases h
/-- what comes of meetings that may be, of masses that may be -/
def meetsM : List PMeeting → List PMass → List PMass × Int
  | [], l => (l, 0)
  | x :: m, l =>
    if (meetM (l[x.asks.toNat]?.getD PMass.zero) (l[x.asked.toNat]?.getD PMass.zero)).2.2 = 0 then
      (if (doneM (l[x.asks.toNat]?.getD PMass.zero) (meetM (l[x.asks.toNat]?.getD PMass.zero) (l[x.asked.toNat]?.getD PMass.zero)).2.1).2 = 0 then
        meetsM m ((l.set x.asked.toNat (meetM (l[x.asks.toNat]?.getD PMass.zero) (l[x.asked.toNat]?.getD PMass.zero)).1).set x.asks.toNat (doneM (l[x.asks.toNat]?.getD PMass.zero) (meetM (l[x.asks.toNat]?.getD PMass.zero) (l[x.asked.toNat]?.getD PMass.zero)).2.1).1)
      else ([], (doneM (l[x.asks.toNat]?.getD PMass.zero) (meetM (l[x.asks.toNat]?.getD PMass.zero) (l[x.asked.toNat]?.getD PMass.zero)).2.1).2))
    else ([], (meetM (l[x.asks.toNat]?.getD PMass.zero) (l[x.asked.toNat]?.getD PMass.zero)).2.2)
def meetP (l : List PMass) (m : List PMeeting) : List PMass × Int :=
  if askedP l.length m = 0 then (if ∀ x ∈ l, mayM x then meetsM m l else ([], 8)) else ([], askedP l.length m)
end Go.Hx
end
section
namespace Go.Hx
open Go.RowKit
/-- a number with a sign -/
def sg (s : Bool) (n : Nat) : Int := if s then -(n : Int) else n
/-- a dyad's number, 2^K times -/
def ivK (K : Nat) (x : PDyad) : Int := sg x.neg (numD x K)
theorem sg_abs (s : Bool) (n : Nat) : (sg s n).natAbs = n := by unfold sg; split <;> omega
theorem sg_mul (s : Bool) (a n : Nat) : sg s (a * n) = (a : Int) * sg s n := by
  unfold sg; split
  · rw [Int.mul_neg]; push_cast; rfl
  · push_cast; rfl
theorem sg_plus (s t : Bool) (m n : Nat) : sg (plusS s m t n).1 (plusS s m t n).2 = sg s m + sg t n := by
  unfold plusS
  split
  · rename_i h; subst h; unfold sg; split <;> (push_cast; omega)
  · rename_i h
    cases s <;> cases t <;> simp at h <;> (split <;> (unfold sg; simp; omega))
theorem plus_le (s t : Bool) (m n : Nat) : (plusS s m t n).2 ≤ m + n := by
  unfold plusS; split
  · exact Nat.le_refl _
  · split <;> (dsimp only; omega)
theorem finD_ok {neg : Bool} {n k : Nat} (hn : n < B32 ^ 40) (hk : k ≤ 1024) : finD neg n k = (⟨neg, digs B32 n, k⟩, 0) := by
  unfold finD
  rw [if_neg]
  have := (digs_length (b := B32) (by decide) n 40).2 hn
  omega
theorem iv_zero (K : Nat) : ivK K PDyad.zero = 0 := by simp [ivK, sg, numD, PDyad.zero]
theorem formD_iv {neg : Bool} : ∀ (k n : Nat), k ≤ 1024 → n < B32 ^ 40 → ∃ z, formD neg k n = (z, 0) ∧ 0 ≤ z.exp ∧ z.exp ≤ k ∧ ∀ K, k ≤ K → ivK K z = sg neg (2 ^ (K - k) * n)
  | 0, n, hk, hn => by
    by_cases h0 : n = 0
    · subst h0
      exact ⟨PDyad.zero, formD_zero .., by simp [PDyad.zero], by simp [PDyad.zero], fun K _ => by rw [iv_zero]; simp [sg]⟩
    · rw [formD_end h0 (.inl rfl), finD_ok hn hk]
      refine ⟨_, rfl, Int.le_refl _, Int.le_refl _, fun K _ => ?_⟩
      unfold ivK numD
      dsimp only
      rw [val_digs (by decide)]
      rfl
  | k + 1, n, hk, hn => by
    by_cases h0 : n = 0
    · subst h0
      exact ⟨PDyad.zero, formD_zero .., by simp [PDyad.zero], by simp [PDyad.zero]; omega, fun K _ => by rw [iv_zero]; simp [sg]⟩
    · by_cases h2 : n % 2 = 0
      · rw [formD_even h0 h2]
        obtain ⟨z, h3, h4, h5, h6⟩ := formD_iv (neg := neg) k (n / 2) (by omega) (by omega)
        refine ⟨z, h3, h4, by omega, fun K hK => ?_⟩
        rw [h6 K (by omega), show K - k = (K - (k + 1)) + 1 by omega, Nat.pow_succ, Nat.mul_assoc, show 2 * (n / 2) = n by omega]
      · rw [formD_end h0 (.inr (by omega)), finD_ok hn hk]
        refine ⟨_, rfl, Int.natCast_nonneg _, Int.le_refl _, fun K hK => ?_⟩
        unfold ivK numD
        dsimp only
        rw [val_digs (by decide), Int.toNat_natCast]
theorem numD_up {x : PDyad} {e K : Nat} (h1 : x.exp.toNat ≤ e) (h2 : e ≤ K) : numD x K = 2 ^ (K - e) * numD x e := by
  unfold numD
  rw [← Nat.mul_assoc, ← Nat.pow_add]
  congr 2; omega
theorem iv_up {x : PDyad} {e K : Nat} (h1 : x.exp.toNat ≤ e) (h2 : e ≤ K) : ivK K x = ((2 ^ (K - e) : Nat) : Int) * ivK e x := by
  unfold ivK; rw [numD_up h1 h2, sg_mul]
theorem iv_abs (K : Nat) (x : PDyad) : (ivK K x).natAbs = numD x K := sg_abs _ _
theorem numD_mono {x : PDyad} {e K : Nat} (h1 : x.exp.toNat ≤ e) (h2 : e ≤ K) : numD x e ≤ numD x K := by
  rw [numD_up h1 h2]
  have := Nat.two_pow_pos (K - e)
  exact Nat.le_mul_of_pos_left _ this
/-- a sum that is not too great -/
theorem sumD_iv {K : Nat} {x y : PDyad} (hK : K ≤ 1024) (ex : x.exp ≤ K) (ey : y.exp ≤ K) (hs : (ivK K x).natAbs + (ivK K y).natAbs < B32 ^ 40) : (sumD x y).2 = 0 ∧ (sumD x y).1.exp ≤ max x.exp.toNat y.exp.toNat ∧ 0 ≤ (sumD x y).1.exp ∧ ivK K (sumD x y).1 = ivK K x + ivK K y := by
  rw [iv_abs, iv_abs] at hs
  obtain ⟨e, he⟩ : ∃ e, max x.exp.toNat y.exp.toNat = e := ⟨_, rfl⟩
  have h1 : x.exp.toNat ≤ e := by omega
  have h2 : y.exp.toNat ≤ e := by omega
  have h3 : e ≤ K := by omega
  unfold sumD
  rw [he]
  have hm := numD_mono h1 h3
  have hn := numD_mono h2 h3
  have hp := plus_le x.neg y.neg (numD x e) (numD y e)
  have hq := sg_plus x.neg y.neg (numD x e) (numD y e)
  generalize plusS x.neg (numD x e) y.neg (numD y e) = r at *
  obtain ⟨z, h4, h5, h6, h7⟩ := formD_iv (neg := r.1) e r.2 (by omega) (by omega)
  rw [h4]
  refine ⟨rfl, h6, h5, ?_⟩
  rw [h7 K h3, sg_mul, hq, iv_up h1 h3, iv_up h2 h3, ← Int.mul_add]
  rfl
theorem iv_minus (K : Nat) (x : PDyad) : ivK K (minusD x) = - ivK K x := by
  unfold minusD
  split
  · rename_i h; simp [ivK, sg, numD, h]
  · unfold ivK numD sg; dsimp only; cases x.neg <;> simp
theorem minus_exp (x : PDyad) : (minusD x).exp = x.exp := by unfold minusD; split <;> rfl
theorem mayD.exp0 {x : PDyad} (h : mayD x) : 0 ≤ x.exp := h.2.1.1
theorem addD_iv {K : Nat} {x y : PDyad} (hx : mayD x) (hy : mayD y) (hK : K ≤ 1024) (ex : x.exp ≤ K) (ey : y.exp ≤ K) (hs : (ivK K x).natAbs + (ivK K y).natAbs < B32 ^ 40) : (addD x y).2 = 0 ∧ mayD (addD x y).1 ∧ (addD x y).1.exp ≤ max x.exp y.exp ∧ ivK K (addD x y).1 = ivK K x + ivK K y := by
  have h := addD_okD hx hy
  unfold addD at *
  rw [if_pos ⟨hx, hy⟩] at *
  obtain ⟨h1, h2, h3, h4⟩ := sumD_iv hK ex ey hs
  have := hx.exp0
  have := hy.exp0
  exact ⟨h1, h.may h1, by omega, h4⟩
theorem subD_iv {K : Nat} {x y : PDyad} (hx : mayD x) (hy : mayD y) (hK : K ≤ 1024) (ex : x.exp ≤ K) (ey : y.exp ≤ K) (hs : (ivK K x).natAbs + (ivK K y).natAbs < B32 ^ 40) : (subD x y).2 = 0 ∧ mayD (subD x y).1 ∧ (subD x y).1.exp ≤ max x.exp y.exp ∧ ivK K (subD x y).1 = ivK K x - ivK K y := by
  have h := subD_okD hx hy
  unfold subD at *
  rw [if_pos ⟨hx, hy⟩] at *
  obtain ⟨h1, h2, h3, h4⟩ := sumD_iv (y := minusD y) hK ex (by rw [minus_exp]; exact ey) (by rw [iv_minus, Int.natAbs_neg]; exact hs)
  have := hx.exp0
  have := hy.exp0
  rw [minus_exp] at h2
  rw [iv_minus] at h4
  exact ⟨h1, h.may h1, by omega, by rw [h4]; omega⟩
theorem halfD_iv {K : Nat} {x : PDyad} (hx : mayD x) (hK : K ≤ 1024) (ex : x.exp + 1 ≤ K) (hs : (ivK K x).natAbs < B32 ^ 40) : (halfD x).2 = 0 ∧ mayD (halfD x).1 ∧ (halfD x).1.exp ≤ x.exp + 1 ∧ 2 * ivK K (halfD x).1 = ivK K x := by
  have h := halfD_okD hx
  have h0 := hx.exp0
  unfold halfD at *
  rw [if_pos hx] at *
  rw [iv_abs] at hs
  have hv : val B32 x.limbs ≤ numD x K := Nat.le_mul_of_pos_left _ (Nat.two_pow_pos _)
  obtain ⟨z, h4, h5, h6, h7⟩ := formD_iv (neg := x.neg) (x.exp.toNat + 1) (val B32 x.limbs) (by omega) (by omega)
  rw [h4] at h ⊢
  refine ⟨rfl, h.may rfl, by show z.exp ≤ _; omega, ?_⟩
  rw [h7 K (by omega)]
  unfold ivK numD
  rw [show K - x.exp.toNat = K - (x.exp.toNat + 1) + 1 by omega, Nat.pow_succ, Nat.mul_comm (2 ^ _) 2, Nat.mul_assoc, sg_mul x.neg 2]
  rfl
/-- nothing added -/
theorem addD_none {x : PDyad} (hx : mayD x) (hl : Limbs x.limbs) : (addD x PDyad.zero).2 = 0 := by
  unfold addD
  rw [if_pos ⟨hx, mayD_zero⟩]
  unfold sumD
  have h0 := hx.exp0
  have e1 : max x.exp.toNat PDyad.zero.exp.toNat = x.exp.toNat := by simp [PDyad.zero]
  have e2 : numD PDyad.zero x.exp.toNat = 0 := by simp [numD, PDyad.zero]
  have e3 : numD x x.exp.toNat = val B32 x.limbs := by simp [numD]
  rw [e1, e2, e3]
  have hn : val B32 x.limbs < B32 ^ 40 := by
    refine Nat.lt_of_lt_of_le (val_lt _ hl) (Nat.pow_le_pow_right (by decide) hx.1.1)
  have hp := plus_le x.neg PDyad.zero.neg (val B32 x.limbs) 0
  obtain ⟨z, h4, _⟩ := formD_iv (neg := (plusS x.neg (val B32 x.limbs) PDyad.zero.neg 0).1) x.exp.toNat (plusS x.neg (val B32 x.limbs) PDyad.zero.neg 0).2 (by have := hx.2.1.2; omega) (by omega)
  rw [h4]
/-- what a meeting does to numbers -/
structure StepR (n : Nat) (x : PMeeting) (v u : Nat → Int) : Prop where
  one : 2 * u x.asks.toNat = v x.asks.toNat + v x.asked.toNat
  two : 2 * u x.asked.toNat = v x.asks.toNat + v x.asked.toNat
  rest : ∀ i, i < n → i ≠ x.asks.toNat → i ≠ x.asked.toNat → u i = v i
inductive Run (n : Nat) : List PMeeting → (Nat → Int) → (Nat → Int) → Prop where
  | nil (v) : Run n [] v v
  | cons {x m v u w} (h : StepR n x v u) (t : Run n m u w) : Run n (x :: m) v w
/-- a set of nodes -/
def cntS (n : Nat) (S : Nat → Bool) : Nat := (List.range n).countP S
theorem cntS_le (n : Nat) (S : Nat → Bool) : cntS n S ≤ n := by
  have := List.countP_le_length (p := S) (l := List.range n)
  rwa [List.length_range] at this
theorem cntS_all {n : Nat} {S : Nat → Bool} (h : cntS n S = n) : ∀ i, i < n → S i = true := by
  have h1 : (List.range n).countP S = (List.range n).length := by rw [List.length_range]; exact h
  intro i hi
  exact List.countP_eq_length.1 h1 i (List.mem_range.2 hi)
theorem cntS_not {n : Nat} {S : Nat → Bool} (h : cntS n S ≠ n) : ∃ i, i < n ∧ S i = false := by
  rcases Classical.em (∃ i, i < n ∧ S i = false) with h1 | h1
  · exact h1
  · exfalso; apply h
    have : (List.range n).countP S = (List.range n).length := List.countP_eq_length.2 fun i hi => by
      rcases Bool.eq_false_or_eq_true (S i) with h2 | h2
      · exact h2
      · exact absurd ⟨i, List.mem_range.1 hi, h2⟩ h1
    rwa [List.length_range] at this
theorem cntS_some {n : Nat} {S : Nat → Bool} (h : cntS n S ≠ 0) : ∃ i, i < n ∧ S i = true := by
  have : 0 < (List.range n).countP S := Nat.pos_of_ne_zero h
  obtain ⟨i, hi, hs⟩ := List.countP_pos_iff.1 this
  exact ⟨i, List.mem_range.1 hi, hs⟩
theorem countP_two {p : Nat → Bool} {i j : Nat} (hij : i ≠ j) (hi : p i = true) (hj : p j = true) : ∀ l : List Nat, i ∈ l → j ∈ l → 2 ≤ l.countP p
  | [], h, _ => by cases h
  | x :: l, h1, h2 => by
    rw [List.countP_cons]
    rcases List.mem_cons.1 h1 with rfl | g1
    · rcases List.mem_cons.1 h2 with rfl | g2
      · exact absurd rfl hij
      · have := List.countP_pos_iff.2 ⟨j, g2, hj⟩
        rw [if_pos hi]; omega
    · rcases List.mem_cons.1 h2 with rfl | g2
      · have := List.countP_pos_iff.2 ⟨i, g1, hi⟩
        rw [if_pos hj]; omega
      · have := countP_two hij hi hj l g1 g2
        omega
theorem countP_more {S : Nat → Bool} {a : Nat} (hs : S a = false) : ∀ l : List Nat, l.Nodup → a ∈ l → l.countP (fun i => S i || decide (i = a)) = l.countP S + 1
  | [], _, h => by cases h
  | x :: l, hn, h => by
    obtain ⟨hx, hn'⟩ := List.nodup_cons.1 hn
    rw [List.countP_cons, List.countP_cons]
    by_cases hxa : x = a
    · subst hxa
      have e : l.countP (fun i => S i || decide (i = x)) = l.countP S := List.countP_congr fun v hv => by
        have : v ≠ x := fun h => hx (h ▸ hv)
        simp [this]
      rw [e, hs]; simp
    · have := countP_more hs l hn' (by rcases List.mem_cons.1 h with rfl | h; exact absurd rfl hxa; exact h)
      rw [this]; simp [hxa]; omega
theorem cntS_more {n a : Nat} {S : Nat → Bool} (ha : a < n) (hs : S a = false) : cntS n (fun i => S i || decide (i = a)) = cntS n S + 1 :=
  countP_more hs _ List.nodup_range (List.mem_range.2 ha)
theorem cntS_one {n a : Nat} (ha : a < n) : cntS n (fun i => decide (i = a)) = 1 := by
  have := cntS_more (S := fun _ => false) ha rfl
  simp only [Bool.false_or] at this
  rw [this]
  unfold cntS
  rw [List.countP_eq_zero.2 (by simp)]
theorem two_groups {n : Nat} {s : PJ} (h : Inv n s) {i j : Nat} (hi : i < n) (hj : j < n) (hne : gv s.g i ≠ gv s.g j) : s.cnt ≠ 1 := by
  have mi := gv_mem (g := s.g) (i := i) (by rw [h.len]; exact hi)
  have mj := gv_mem (g := s.g) (i := j) (by rw [h.len]; exact hj)
  have := countP_two (p := fun v => decide (v ∈ s.g)) hne (by simpa using mi) (by simpa using mj) (List.range n) (List.mem_range.2 (h.low _ mi)) (List.mem_range.2 (h.low _ mj))
  rw [h.cnt]
  omega
theorem exists_max (v : Nat → Int) : ∀ n, ∃ i, i < n + 1 ∧ ∀ j, j < n + 1 → v j ≤ v i
  | 0 => ⟨0, by omega, fun j hj => by rw [show j = 0 by omega]; exact Int.le_refl _⟩
  | n + 1 => by
    obtain ⟨i, hi, h⟩ := exists_max v n
    by_cases hc : v i ≤ v (n + 1)
    · refine ⟨n + 1, by omega, fun j hj => ?_⟩
      by_cases hj2 : j = n + 1
      · rw [hj2]; exact Int.le_refl _
      · exact Int.le_trans (h j (by omega)) hc
    · refine ⟨i, by omega, fun j hj => ?_⟩
      by_cases hj2 : j = n + 1
      · rw [hj2]; omega
      · exact h j (by omega)
theorem exists_min (v : Nat → Int) (n : Nat) : ∃ i, i < n + 1 ∧ ∀ j, j < n + 1 → v i ≤ v j := by
  obtain ⟨i, hi, h⟩ := exists_max (fun i => - v i) n
  exact ⟨i, hi, fun j hj => by have := h j hj; omega⟩
/-- how far is shrunk by blocks of q rounds -/
def Shr (q L : Nat) (D : Nat → Int) : Prop := ∀ b, b < L → 2 ^ q * D (b + 1) = 2 ^ q * D b - D b
/-- numbers in a block of rounds -/
structure St (q : Nat) (D : Nat → Int) (r : Nat) (s : PJ) (v : Nat → Int) (lo hi : Int) (k : Nat) (S : Nat → Bool) : Prop where
  inv : Inv (q + 1) s
  far : hi - lo ≤ D (r / q)
  in_ : ∀ i, i < q + 1 → lo ≤ v i ∧ v i ≤ hi
  cnt : cntS (q + 1) S = k + 1
  low : ∀ i, i < q + 1 → S i = true → hi - lo ≤ 2 ^ k * (hi - v i)
  much : r % q ≤ k
  sep : r % q + 1 ≤ k ∨ k = q ∨ ∀ i j, i < q + 1 → j < q + 1 → S i = true → S j = false → gv s.g i ≠ gv s.g j
theorem pow_pos' (k : Nat) : (0 : Int) < 2 ^ k := by
  have := Nat.two_pow_pos k
  have h : ((2 ^ k : Nat) : Int) = (2 : Int) ^ k := by push_cast; rfl
  omega
theorem St.begin {q : Nat} {D : Nat → Int} {r : Nat} {s : PJ} (v : Nat → Int) (hi : Inv (q + 1) s) (h0 : r % q = 0) (hs : ∀ i j, i < q + 1 → j < q + 1 → i ≠ j → gv s.g i ≠ gv s.g j) (hd : ∀ i j, i < q + 1 → j < q + 1 → v i - v j ≤ D (r / q)) : ∃ lo hi k S, St q D r s v lo hi k S := by
  obtain ⟨a, ha, hmax⟩ := exists_max v q
  obtain ⟨b, hb, hmin⟩ := exists_min v q
  refine ⟨v b, v a, 0, fun i => decide (i = b), hi, hd a b ha hb, fun i hi => ⟨hmin i hi, hmax i hi⟩, cntS_one hb, fun i hi hS => ?_, by omega, .inr (.inr fun i j hi hj h1 h2 => hs i j hi hj ?_)⟩
  · have : i = b := by simpa using hS
    subst this
    simp
  · intro e; subst e; rw [h1] at h2; cases h2
theorem St.step {q : Nat} {D : Nat → Int} {r : Nat} {s : PJ} {v u : Nat → Int} {lo hi : Int} {k : Nat} {S : Nat → Bool} (h : St q D r s v lo hi k S) {x : PMeeting} (hx : meetOk ((q + 1 : Nat) : Int) x = true) (hu : StepR (q + 1) x v u) : ∃ k S, St q D r (stepJ s x) u lo hi k S := by
  obtain ⟨ha, hb, _, _, hab⟩ := meetOk_nat hx
  generalize eA : x.asks.toNat = a at *
  generalize eB : x.asked.toNat = b at *
  have h1 := hu.one
  have h2 := hu.two
  have h3 := hu.rest
  rw [eA, eB] at h1 h2 h3
  have hva := h.in_ a ha
  have hvb := h.in_ b hb
  have hin : ∀ i, i < q + 1 → lo ≤ u i ∧ u i ≤ hi := fun i hi' => by
    by_cases e1 : i = a
    · subst e1; omega
    · by_cases e2 : i = b
      · subst e2; omega
      · rw [h3 i hi' e1 e2]; exact h.in_ i hi'
  have hlen : s.g.length = q + 1 := h.inv.len
  by_cases hS : S a = S b
  · refine ⟨k, S, h.inv.step hx, h.far, hin, h.cnt, fun i hi' hi2 => ?_, h.much, ?_⟩
    · have key : ∀ z, 2 * z = v a + v b → S a = true → hi - lo ≤ 2 ^ k * (hi - z) := fun z hz hSa => by
        have l1 := h.low a ha hSa
        have l2 := h.low b hb (hS ▸ hSa)
        have e : 2 * (2 ^ k * (hi - z)) = 2 ^ k * (hi - v a) + 2 ^ k * (hi - v b) := by
          rw [← Int.mul_add, ← Int.mul_assoc, Int.mul_comm 2, Int.mul_assoc]
          congr 1; omega
        omega
      by_cases e1 : i = a
      · subst e1; exact key _ h1 hi2
      · by_cases e2 : i = b
        · subst e2; exact key _ h2 (hS.trans hi2)
        · rw [h3 i hi' e1 e2]; exact h.low i hi' hi2
    · rcases h.sep with h4 | h4 | h4
      · exact .inl h4
      · exact .inr (.inl h4)
      · refine .inr (.inr fun i j hi' hj' hSi hSj => ?_)
        rw [Ne, step_rel (by omega) (by omega), eA, eB]
        rintro (h5 | ⟨h5, h6⟩)
        · exact h4 i j hi' hj' hSi hSj h5
        · rcases Bool.eq_false_or_eq_true (S a) with hSa | hSa
          · rcases h6 with h6 | h6
            · exact h4 a j ha hj' hSa hSj h6.symm
            · exact h4 b j hb hj' (hS ▸ hSa) hSj h6.symm
          · rcases h5 with h5 | h5
            · exact h4 i a hi' ha hSi hSa h5
            · exact h4 i b hi' hb hSi (hS ▸ hSa) h5
  · -- one joins
    have key : ∀ z, 2 * z = v a + v b → hi - lo ≤ 2 ^ (k + 1) * (hi - z) := fun z hz => by
      have e : 2 ^ (k + 1) * (hi - z) = 2 ^ k * (hi - v a) + 2 ^ k * (hi - v b) := by
        rw [Int.pow_succ, ← Int.mul_add, Int.mul_assoc]
        congr 1; omega
      have p1 : 0 ≤ 2 ^ k * (hi - v a) := Int.mul_nonneg (Int.le_of_lt (pow_pos' k)) (by omega)
      have p2 : 0 ≤ 2 ^ k * (hi - v b) := Int.mul_nonneg (Int.le_of_lt (pow_pos' k)) (by omega)
      rcases Bool.eq_false_or_eq_true (S a) with hSa | hSa
      · have := h.low a ha hSa; omega
      · have hSb : S b = true := by
          rcases Bool.eq_false_or_eq_true (S b) with h9 | h9
          · exact h9
          · exact absurd (hSa.trans h9.symm) hS
        have := h.low b hb hSb; omega
    have all : ∀ (S' : Nat → Bool), (∀ i, S' i = true → S i = true ∨ i = a ∨ i = b) → ∀ i, i < q + 1 → S' i = true → hi - lo ≤ 2 ^ (k + 1) * (hi - u i) := fun S' hS' i hi' hSi => by
      by_cases e1 : i = a
      · subst e1; exact key _ h1
      · by_cases e2 : i = b
        · subst e2; exact key _ h2
        · rw [h3 i hi' e1 e2]
          have := h.low i hi' (by rcases hS' i hSi with h9 | h9 | h9; exact h9; exact absurd h9 e1; exact absurd h9 e2)
          have p : 0 ≤ 2 ^ k * (hi - v i) := Int.mul_nonneg (Int.le_of_lt (pow_pos' k)) (by have := h.in_ i hi'; omega)
          rw [Int.pow_succ, Int.mul_assoc, Int.mul_comm 2, ← Int.mul_assoc]
          omega
    have fin : ∀ c, c < q + 1 → S c = false → (c = a ∨ c = b) → ∃ k S, St q D r (stepJ s x) u lo hi k S := fun c hc hSc hcab =>
      ⟨k + 1, fun i => S i || decide (i = c), h.inv.step hx, h.far, hin, by rw [cntS_more hc hSc, h.cnt], all _ (fun i hi' => by
        rcases Bool.or_eq_true _ _ ▸ hi' with h9 | h9
        · exact .inl h9
        · have : i = c := by simpa using h9
          rw [this]; exact .inr hcab), by have := h.much; omega, .inl (by have := h.much; omega)⟩
    rcases Bool.eq_false_or_eq_true (S a) with hSa | hSa
    · refine fin b hb ?_ (.inr rfl)
      rcases Bool.eq_false_or_eq_true (S b) with h9 | h9
      · exact absurd (hSa.trans h9.symm) hS
      · exact h9
    · exact fin a ha hSa (.inl rfl)
theorem init_ne {n i j : Nat} (hi : i < n) (hj : j < n) (h : i ≠ j) : gv (initJ n).g i ≠ gv (initJ n).g j := by
  unfold gv initJ
  rw [List.getElem?_range hi, List.getElem?_range hj]
  exact h
theorem St.round {q L : Nat} (hq : 1 ≤ q) {D : Nat → Int} (hD : Shr q L D) {r : Nat} (hL : (r + 1) / q ≤ L) {s : PJ} {v : Nat → Int} {lo hi : Int} {k : Nat} {S : Nat → Bool} (h : St q D r s v lo hi k S) (hc : s.cnt = 1) : ∃ lo hi k S, St q D (r + 1) (initJ (q + 1)) v lo hi k S := by
  have hle := cntS_le (q + 1) S
  have hcnt := h.cnt
  have hmod : r % q < q := Nat.mod_lt _ (by omega)
  have hk : r % q + 1 ≤ k := by
    rcases h.sep with h4 | h4 | h4
    · exact h4
    · omega
    · by_cases hkq : k = q
      · omega
      · exfalso
        obtain ⟨i, hi', hSi⟩ := cntS_some (n := q + 1) (S := S) (by omega)
        obtain ⟨j, hj', hSj⟩ := cntS_not (n := q + 1) (S := S) (by omega)
        exact two_groups h.inv hi' hj' (h4 i j hi' hj' hSi hSj) hc
  have hsplit := Nat.div_add_mod r q
  by_cases ht : r % q + 1 = q
  · have e1 : (r + 1) / q = r / q + 1 := by
      rw [← hsplit, Nat.add_assoc, ht, Nat.mul_add_div (by omega), Nat.div_self (by omega), Nat.mul_add_div (by omega), Nat.div_eq_of_lt hmod]
    have e2 : (r + 1) % q = 0 := by
      rw [← hsplit, Nat.add_assoc, ht]
      simp
    refine St.begin v (Inv.init _) e2 (fun i j hi' hj' hij => init_ne hi' hj' hij) fun i j hi' hj' => ?_
    have hkq : k = q := by omega
    subst hkq
    have hSi := cntS_all hcnt i hi'
    have l1 := h.low i hi' hSi
    have l2 := h.in_ j hj'
    have hD1 := hD (r / k) (by omega)
    rw [← e1] at hD1
    have hfar := h.far
    have hp := pow_pos' k
    refine Int.le_of_mul_le_mul_left (a := 2 ^ k) ?_ hp
    have e3 : 2 ^ k * (hi - v i) = 2 ^ k * hi - 2 ^ k * v i := Int.mul_sub ..
    have e4 : 2 ^ k * (v i - v j) = 2 ^ k * v i - 2 ^ k * v j := Int.mul_sub ..
    have l3 : 2 ^ k * lo ≤ 2 ^ k * v j := Int.mul_le_mul_of_nonneg_left l2.1 (Int.le_of_lt hp)
    have l4 : (2 ^ k - 1) * (hi - lo) ≤ (2 ^ k - 1) * D (r / k) := Int.mul_le_mul_of_nonneg_left hfar (by omega)
    rw [Int.sub_mul, Int.sub_mul, Int.one_mul, Int.one_mul, Int.mul_sub] at l4
    rw [hD1]
    omega
  · have e1 : (r + 1) / q = r / q := by
      rw [← hsplit, Nat.add_assoc, Nat.mul_add_div (by omega), Nat.div_eq_of_lt (by omega : r % q + 1 < q), Nat.mul_add_div (by omega), Nat.div_eq_of_lt hmod]
    have e2 : (r + 1) % q = r % q + 1 := by
      rw [← hsplit, Nat.add_assoc, Nat.mul_add_mod, Nat.mod_eq_of_lt (by omega : r % q + 1 < q), Nat.mul_add_mod, Nat.mod_mod]
    refine ⟨lo, hi, k, S, Inv.init _, by rw [e1]; exact h.far, h.in_, h.cnt, h.low, by omega, .inr (.inr fun i j hi' hj' hSi hSj => init_ne hi' hj' ?_)⟩
    intro e; subst e; rw [hSi] at hSj; cases hSj
theorem St.run {q L : Nat} (hq : 1 ≤ q) {D : Nat → Int} (hD : Shr q L D) {m : List PMeeting} {v w : Nat → Int} (hr : Run (q + 1) m v w) : ∀ {r : Nat} {s : PJ} {lo hi : Int} {k : Nat} {S : Nat → Bool}, St q D r s v lo hi k S → (rfold (q + 1) (r, s) m).1 / q ≤ L → (∀ x ∈ m, meetOk ((q + 1 : Nat) : Int) x = true) → ∃ t lo hi k S, St q D (rfold (q + 1) (r, s) m).1 t w lo hi k S := by
  induction hr with
  | nil v => intro r s lo hi k S h _ _; exact ⟨s, lo, hi, k, S, h⟩
  | @cons x m v u w hu t ih =>
    intro r s lo hi k S h hL hm
    replace hL : (rfold (q + 1) (rstep (q + 1) (r, s) x) m).1 / q ≤ L := hL
    have hm' : ∀ y ∈ m, meetOk ((q + 1 : Nat) : Int) y = true := fun y hy => hm y (List.mem_cons_of_mem _ hy)
    obtain ⟨k1, S1, h1⟩ := h.step (hm x (List.mem_cons_self ..)) hu
    show ∃ t lo hi k S, St q D (rfold (q + 1) (rstep (q + 1) (r, s) x) m).1 t w lo hi k S
    unfold rstep at hL ⊢
    dsimp only at hL ⊢
    by_cases hc : (stepJ s x).cnt = 1
    · rw [if_pos hc] at hL ⊢
      obtain ⟨lo2, hi2, k2, S2, h2⟩ := h1.round hq hD (Nat.le_trans (Nat.div_le_div_right (rfold_ge m (r + 1) _)) hL) hc
      exact ih h2 hL hm'
    · rw [if_neg hc] at hL ⊢
      exact ih h1 hL hm'
/-- behind meetings, numbers are apart by the bound of their rounds at most -/
theorem shrinks {q L : Nat} (hq : 1 ≤ q) {D : Nat → Int} (hD : Shr q L D) {m : List PMeeting} {v w : Nat → Int} (hr : Run (q + 1) m v w) (hm : ∀ x ∈ m, meetOk ((q + 1 : Nat) : Int) x = true) (h0 : ∀ i j, i < q + 1 → j < q + 1 → v i - v j ≤ D 0) (hL : (rfold (q + 1) (0, initJ (q + 1)) m).1 / q ≤ L) : ∀ i j, i < q + 1 → j < q + 1 → w i - w j ≤ D ((rfold (q + 1) (0, initJ (q + 1)) m).1 / q) := by
  obtain ⟨lo, hi, k, S, h⟩ := St.begin (q := q) (D := D) (r := 0) (s := initJ (q + 1)) v (Inv.init _) (Nat.zero_mod q) (fun i j hi hj hij => init_ne hi hj hij) (by rw [Nat.zero_div]; exact h0)
  obtain ⟨s, lo, hi, k, S, h⟩ := St.run hq hD hr h hL hm
  intro i j hi' hj'
  have h1 := h.in_ i hi'
  have h2 := h.in_ j hj'
  have := h.far
  omega
/-- dyads of some size -/
structure Sz (K E B : Nat) (x : PDyad) : Prop where
  may : mayD x
  exp : x.exp ≤ E
  abs : (ivK K x).natAbs ≤ B
theorem middleD_iv {K E B : Nat} (hK : K ≤ 1024) (hE : E + 1 ≤ K) (hB : 4 * B < B32 ^ 40) {x y : PDyad} (hx : Sz K E B x) (hy : Sz K E B y) : (middleD x y).2.2 = 0 ∧ Sz K (E + 1) B (middleD x y).1 ∧ 2 * ivK K (middleD x y).1 = ivK K x + ivK K y ∧ mayD (middleD x y).2.1 ∧ (middleD x y).2.1.exp ≤ (E + 1 : Nat) ∧ ivK K (middleD x y).2.1 = ivK K (middleD x y).1 - ivK K x := by
  have x1 := hx.exp
  have y1 := hy.exp
  have x2 := hx.abs
  have y2 := hy.abs
  obtain ⟨a1, a2, a3, a4⟩ := addD_iv hx.may hy.may hK (by omega) (by omega) (by omega : (ivK K x).natAbs + (ivK K y).natAbs < B32 ^ 40)
  obtain ⟨b1, b2, b3, b4⟩ := halfD_iv (K := K) a2 hK (by omega) (by omega)
  obtain ⟨c1, c2, c3, c4⟩ := subD_iv (K := K) b2 hx.may hK (by omega) (by omega) (by omega)
  unfold middleD
  rw [if_pos ⟨a1, b1, c1⟩]
  refine ⟨rfl, ⟨b2, ?_, ?_⟩, ?_, c2, ?_, c4⟩ <;> dsimp only <;> omega
/-- masses of some size -/
structure SzM (K E B : Nat) (x : PMass) : Prop where
  may : mayM x
  lim : Limbs x.s.limbs ∧ Limbs x.w.limbs
  c : Sz K E B x.c
  a : Sz K E B x.a
theorem SzM.up {K E B F : Nat} {x : PMass} (h : SzM K E B x) (hF : E ≤ F) : SzM K F B x :=
  ⟨h.may, h.lim, ⟨h.c.may, by have := h.c.exp; omega, h.c.abs⟩, ⟨h.a.may, by have := h.a.exp; omega, h.a.abs⟩⟩
theorem meetM_iv {K E B : Nat} (hK : K ≤ 1024) (hE : E + 1 ≤ K) (hB : 4 * B < B32 ^ 40) {x y : PMass} (hx : SzM K E B x) (hy : SzM K E B y) : (meetM x y).2.2 = 0 ∧ (doneM x (meetM x y).2.1).2 = 0 ∧ SzM K (E + 1) B (meetM x y).1 ∧ SzM K (E + 1) B (doneM x (meetM x y).2.1).1 ∧ (2 * ivK K (meetM x y).1.c = ivK K x.c + ivK K y.c ∧ 2 * ivK K (meetM x y).1.a = ivK K x.a + ivK K y.a) ∧ (2 * ivK K (doneM x (meetM x y).2.1).1.c = ivK K x.c + ivK K y.c ∧ 2 * ivK K (doneM x (meetM x y).2.1).1.a = ivK K x.a + ivK K y.a) := by
  obtain ⟨c1, c2, c3, c4, c5, c6⟩ := middleD_iv hK hE hB hx.c hy.c
  obtain ⟨a1, a2, a3, a4, a5, a6⟩ := middleD_iv hK hE hB hx.a hy.a
  have e1 : meetM x y = (⟨y.s, y.w, (middleD x.c y.c).1, (middleD x.a y.a).1⟩, ⟨PDyad.zero, PDyad.zero, (middleD x.c y.c).2.1, (middleD x.a y.a).2.1⟩, 0) := by
    unfold meetM
    rw [if_pos ⟨hx.may, hy.may⟩, if_pos ⟨c1, a1⟩]
  rw [e1]
  dsimp only
  have m1 : mayM ⟨PDyad.zero, PDyad.zero, (middleD x.c y.c).2.1, (middleD x.a y.a).2.1⟩ := ⟨mayD_zero, mayD_zero, c4, a4⟩
  obtain ⟨d1, d2, d3, d4⟩ := addD_iv (K := K) hx.c.may c4 hK (by have := hx.c.exp; omega) (by omega) (by have := hx.c.abs; have := c2.abs; omega)
  obtain ⟨f1, f2, f3, f4⟩ := addD_iv (K := K) hx.a.may a4 hK (by have := hx.a.exp; omega) (by omega) (by have := hx.a.abs; have := a2.abs; omega)
  have e2 : doneM x ⟨PDyad.zero, PDyad.zero, (middleD x.c y.c).2.1, (middleD x.a y.a).2.1⟩ = (⟨(addD x.s PDyad.zero).1, (addD x.w PDyad.zero).1, (addD x.c (middleD x.c y.c).2.1).1, (addD x.a (middleD x.a y.a).2.1).1⟩, 0) := by
    unfold doneM addM eachM
    rw [if_pos ⟨hx.may, m1⟩, if_pos ⟨hx.may, m1⟩, if_pos ⟨addD_none hx.may.1 hx.lim.1, addD_none hx.may.2.1 hx.lim.2, d1, f1⟩]
  rw [e2]
  dsimp only
  have sc : Sz K (E + 1) B (addD x.c (middleD x.c y.c).2.1).1 := ⟨d2, by have := hx.c.exp; omega, by have := c2.abs; rw [d4, c6]; omega⟩
  have sa : Sz K (E + 1) B (addD x.a (middleD x.a y.a).2.1).1 := ⟨f2, by have := hx.a.exp; omega, by have := a2.abs; rw [f4, a6]; omega⟩
  refine ⟨rfl, rfl, ⟨⟨hy.may.1, hy.may.2.1, c2.may, a2.may⟩, hy.lim, c2, a2⟩, ⟨⟨(addD_okD hx.may.1 mayD_zero).may (addD_none hx.may.1 hx.lim.1), (addD_okD hx.may.2.1 mayD_zero).may (addD_none hx.may.2.1 hx.lim.2), d2, f2⟩, ⟨(addD_fine _ _).1, (addD_fine _ _).1⟩, sc, sa⟩, ⟨c3, a3⟩, by rw [d4, c6]; omega, by rw [f4, a6]; omega⟩
/-- the numbers of a list of masses -/
def cvs (K : Nat) (l : List PMass) (i : Nat) : Int := ivK K (l[i]?.getD PMass.zero).c
def avs (K : Nat) (l : List PMass) (i : Nat) : Int := ivK K (l[i]?.getD PMass.zero).a
theorem getD_set2 {α : Type} (l : List α) (a b i : Nat) (x y d : α) (ha : a < l.length) (hb : b < l.length) : ((l.set b x).set a y)[i]?.getD d = if i = a then y else if i = b then x else l[i]?.getD d := by
  rw [List.getElem?_set, List.getElem?_set]
  by_cases h1 : i = a
  · subst h1; simp [ha]
  · rw [if_neg (fun h => h1 h.symm), if_neg h1]
    by_cases h2 : i = b
    · subst h2; simp [hb]
    · rw [if_neg (fun h => h2 h.symm), if_neg h2]
theorem getD_mem {α : Type} {l : List α} {i : Nat} (d : α) (h : i < l.length) : l[i]?.getD d ∈ l := by
  rw [List.getElem?_eq_getElem h]; exact List.getElem_mem h
theorem meetsM_iv {K B : Nat} (hK : K ≤ 1024) (hB : 4 * B < B32 ^ 40) : ∀ (m : List PMeeting) (l : List PMass) (E : Nat), E + m.length ≤ K → (∀ x ∈ m, meetOk l.length x = true) → (∀ x ∈ l, SzM K E B x) → (meetsM m l).2 = 0 ∧ (meetsM m l).1.length = l.length ∧ (∀ x ∈ (meetsM m l).1, SzM K (E + m.length) B x) ∧ Run l.length m (cvs K l) (cvs K (meetsM m l).1) ∧ Run l.length m (avs K l) (avs K (meetsM m l).1)
  | [], l, E, _, _, hl => ⟨rfl, rfl, hl, .nil _, .nil _⟩
  | x :: m, l, E, hE, hm, hl => by
    rw [List.length_cons] at hE
    have hx := hm x (List.mem_cons_self ..)
    have hm' : ∀ y ∈ m, meetOk l.length y = true := fun y hy => hm y (List.mem_cons_of_mem _ hy)
    obtain ⟨ha, hb, _, _, hab⟩ := meetOk_nat hx
    unfold meetsM
    obtain ⟨a, ea⟩ : ∃ a, x.asks.toNat = a := ⟨_, rfl⟩
    obtain ⟨b, eb⟩ : ∃ b, x.asked.toNat = b := ⟨_, rfl⟩
    rw [ea] at ha hab
    rw [eb] at hb hab
    rw [ea, eb]
    obtain ⟨p, ep⟩ : ∃ p, l[a]?.getD PMass.zero = p := ⟨_, rfl⟩
    obtain ⟨r, er⟩ : ∃ r, l[b]?.getD PMass.zero = r := ⟨_, rfl⟩
    rw [ep, er]
    have hp : SzM K E B p := hl p (ep ▸ getD_mem _ ha)
    have hr : SzM K E B r := hl r (er ▸ getD_mem _ hb)
    obtain ⟨h1, h2, h3, h4, h5, h6⟩ := meetM_iv hK (by omega) hB hp hr
    rw [if_pos h1, if_pos h2]
    obtain ⟨u, eu⟩ : ∃ u, (meetM p r).1 = u := ⟨_, rfl⟩
    obtain ⟨d, ed⟩ : ∃ d, (doneM p (meetM p r).2.1).1 = d := ⟨_, rfl⟩
    rw [eu] at h3 h5
    rw [ed] at h4 h6
    rw [eu, ed]
    have hlen : ((l.set b u).set a d).length = l.length := by simp
    obtain ⟨g1, g2, g3, g4, g5⟩ := meetsM_iv hK hB m ((l.set b u).set a d) (E + 1) (by omega) (by rw [hlen]; exact hm') (fun z hz => by
      rcases List.mem_or_eq_of_mem_set hz with hz | rfl
      · rcases List.mem_or_eq_of_mem_set hz with hz | rfl
        · exact (hl z hz).up (Nat.le_succ _)
        · exact h3
      · exact h4)
    rw [hlen] at g2 g4 g5
    refine ⟨g1, g2, fun z hz => by rw [List.length_cons, show E + (m.length + 1) = E + 1 + m.length by omega]; exact g3 z hz, .cons ⟨?_, ?_, fun i hi h1 h2 => ?_⟩ g4, .cons ⟨?_, ?_, fun i hi h1 h2 => ?_⟩ g5⟩
    · show 2 * ivK K _ = ivK K _ + ivK K _
      rw [ea, eb, getD_set2 _ _ _ _ _ _ _ ha hb, if_pos rfl, ep, er]; exact h6.1
    · show 2 * ivK K _ = ivK K _ + ivK K _
      rw [ea, eb, getD_set2 _ _ _ _ _ _ _ ha hb, if_neg (Ne.symm hab), if_pos rfl, ep, er]; exact h5.1
    · show ivK K _ = ivK K _
      rw [ea] at h1; rw [eb] at h2
      rw [getD_set2 _ _ _ _ _ _ _ ha hb, if_neg h1, if_neg h2]
    · show 2 * ivK K _ = ivK K _ + ivK K _
      rw [ea, eb, getD_set2 _ _ _ _ _ _ _ ha hb, if_pos rfl, ep, er]; exact h6.2
    · show 2 * ivK K _ = ivK K _ + ivK K _
      rw [ea, eb, getD_set2 _ _ _ _ _ _ _ ha hb, if_neg (Ne.symm hab), if_pos rfl, ep, er]; exact h5.2
    · show ivK K _ = ivK K _
      rw [ea] at h1; rw [eb] at h2
      rw [getD_set2 _ _ _ _ _ _ _ ha hb, if_neg h1, if_neg h2]
/-- how two dyads stand -/
def cmpD (x y : PDyad) : Int :=
  if (plusS x.neg (numD x (max x.exp.toNat y.exp.toNat)) (!y.neg) (numD y (max x.exp.toNat y.exp.toNat))).2 = 0 then 0
  else if (plusS x.neg (numD x (max x.exp.toNat y.exp.toNat)) (!y.neg) (numD y (max x.exp.toNat y.exp.toNat))).1 = true then -1 else 1
theorem sg_not (s : Bool) (n : Nat) : sg (!s) n = - sg s n := by cases s <;> simp [sg]
theorem cmpD_iv {K : Nat} {x y : PDyad} (ex : x.exp ≤ K) (ey : y.exp ≤ K) : (cmpD x y = 0 ∧ ivK K x = ivK K y) ∨ (cmpD x y = -1 ∧ ivK K x < ivK K y) ∨ (cmpD x y = 1 ∧ ivK K y < ivK K x) := by
  obtain ⟨e, he⟩ : ∃ e, max x.exp.toNat y.exp.toNat = e := ⟨_, rfl⟩
  have h1 : x.exp.toNat ≤ e := by omega
  have h2 : y.exp.toNat ≤ e := by omega
  have h3 : e ≤ K := by omega
  have hq := sg_plus x.neg (!y.neg) (numD x e) (numD y e)
  rw [sg_not] at hq
  have e1 := iv_up h1 h3
  have e2 := iv_up h2 h3
  have hp : (0 : Int) < ((2 ^ (K - e) : Nat) : Int) := by have := Nat.two_pow_pos (K - e); omega
  unfold cmpD
  rw [he]
  generalize plusS x.neg (numD x e) (!y.neg) (numD y e) = r at *
  replace hq : sg r.1 r.2 = ivK e x - ivK e y := by rw [hq]; rfl
  rw [e1, e2]
  generalize ((2 ^ (K - e) : Nat) : Int) = p at *
  by_cases h0 : r.2 = 0
  · rw [if_pos h0]
    rw [h0] at hq
    have : ivK e x = ivK e y := by unfold sg at hq; split at hq <;> omega
    exact .inl ⟨rfl, by rw [this]⟩
  · rw [if_neg h0]
    by_cases hs : r.1 = true
    · rw [if_pos hs]
      rw [hs] at hq
      exact .inr (.inl ⟨rfl, Int.mul_lt_mul_of_pos_left (by unfold sg at hq; simp at hq; omega) hp⟩)
    · rw [if_neg hs]
      have hs' : r.1 = false := by simpa using hs
      rw [hs'] at hq
      exact .inr (.inr ⟨rfl, Int.mul_lt_mul_of_pos_left (by unfold sg at hq; simp at hq; omega) hp⟩)
theorem cmpD_self (x : PDyad) : cmpD x x = 0 := by
  have := cmpD_iv (K := x.exp.toNat) (x := x) (y := x) (by omega) (by omega)
  omega
/-- the least and the greatest one of dyads -/
def farS : Option (PDyad × PDyad) → PDyad → Option (PDyad × PDyad)
  | none, a => some (a, a)
  | some (lo, hi), a => some (if cmpD a lo < 0 then a else lo, if 0 < cmpD a hi then a else hi)
def farsD (l : List PDyad) : Option (PDyad × PDyad) := l.foldl farS none
def farD (l : List PDyad) : PDyad × Int := match farsD l with
  | none => (PDyad.zero, 6)
  | some (lo, hi) => subD hi lo
theorem fars_some {K : Nat} : ∀ (l : List PDyad) (lo hi : PDyad), lo.exp ≤ K → hi.exp ≤ K → (∀ x ∈ l, x.exp ≤ K) → ∃ lo' hi', l.foldl farS (some (lo, hi)) = some (lo', hi') ∧ (lo' = lo ∨ lo' ∈ l) ∧ (hi' = hi ∨ hi' ∈ l) ∧ ivK K lo' ≤ ivK K lo ∧ ivK K hi ≤ ivK K hi' ∧ ∀ x ∈ l, ivK K lo' ≤ ivK K x ∧ ivK K x ≤ ivK K hi'
  | [], lo, hi, _, _, _ => ⟨lo, hi, rfl, .inl rfl, .inl rfl, Int.le_refl _, Int.le_refl _, by simp⟩
  | a :: l, lo, hi, h1, h2, hl => by
    have ha := hl a (List.mem_cons_self ..)
    have c1 := cmpD_iv ha h1
    have c2 := cmpD_iv ha h2
    obtain ⟨lo', hi', g1, g2, g3, g4, g5, g6⟩ := fars_some (K := K) l (if cmpD a lo < 0 then a else lo) (if 0 < cmpD a hi then a else hi) (by split <;> assumption) (by split <;> assumption) (fun x hx => hl x (List.mem_cons_of_mem _ hx))
    have k1 : ivK K (if cmpD a lo < 0 then a else lo) ≤ ivK K lo ∧ ivK K (if cmpD a lo < 0 then a else lo) ≤ ivK K a := by split <;> omega
    have k2 : ivK K hi ≤ ivK K (if 0 < cmpD a hi then a else hi) ∧ ivK K a ≤ ivK K (if 0 < cmpD a hi then a else hi) := by split <;> omega
    refine ⟨lo', hi', g1, ?_, ?_, by omega, by omega, fun x hx => ?_⟩
    · rcases g2 with g2 | g2
      · rw [g2]; split
        · exact .inr (List.mem_cons_self ..)
        · exact .inl rfl
      · exact .inr (List.mem_cons_of_mem _ g2)
    · rcases g3 with g3 | g3
      · rw [g3]; split
        · exact .inr (List.mem_cons_self ..)
        · exact .inl rfl
      · exact .inr (List.mem_cons_of_mem _ g3)
    · rcases List.mem_cons.1 hx with rfl | hx
      · omega
      · exact g6 x hx
theorem farsD_iv {K : Nat} {l : List PDyad} (hne : l ≠ []) (hl : ∀ x ∈ l, x.exp ≤ K) : ∃ lo hi, farsD l = some (lo, hi) ∧ lo ∈ l ∧ hi ∈ l ∧ ∀ x ∈ l, ivK K lo ≤ ivK K x ∧ ivK K x ≤ ivK K hi := by
  cases l with
  | nil => exact absurd rfl hne
  | cons a l =>
    have ha := hl a (List.mem_cons_self ..)
    obtain ⟨lo', hi', g1, g2, g3, g4, g5, g6⟩ := fars_some (K := K) l a a ha ha (fun x hx => hl x (List.mem_cons_of_mem _ hx))
    refine ⟨lo', hi', g1, by rcases g2 with rfl | g2; exact List.mem_cons_self ..; exact List.mem_cons_of_mem _ g2, by rcases g3 with rfl | g3; exact List.mem_cons_self ..; exact List.mem_cons_of_mem _ g3, fun x hx => ?_⟩
    rcases List.mem_cons.1 hx with rfl | hx
    · exact ⟨g4, g5⟩
    · exact g6 x hx
theorem farD_iv {K E B : Nat} (hK : K ≤ 1024) (hE : E ≤ K) (hB : 4 * B < B32 ^ 40) {l : List PDyad} (hne : l ≠ []) (hl : ∀ x ∈ l, Sz K E B x) : (farD l).2 = 0 ∧ Sz K E (2 * B) (farD l).1 ∧ 0 ≤ ivK K (farD l).1 ∧ (∀ x ∈ l, ∀ y ∈ l, ivK K x - ivK K y ≤ ivK K (farD l).1) ∧ ∃ x ∈ l, ∃ y ∈ l, ivK K (farD l).1 = ivK K x - ivK K y := by
  obtain ⟨lo, hi, h1, h2, h3, h4⟩ := farsD_iv (K := K) hne (fun x hx => by have := (hl x hx).exp; omega)
  unfold farD
  rw [h1]
  dsimp only
  have s1 := hl lo h2
  have s2 := hl hi h3
  have := s1.exp; have := s1.abs; have := s2.exp; have := s2.abs
  obtain ⟨d1, d2, d3, d4⟩ := subD_iv (K := K) s2.may s1.may hK (by omega) (by omega) (by omega)
  refine ⟨d1, ⟨d2, by omega, by omega⟩, ?_, fun x hx y hy => ?_, hi, h3, lo, h2, d4⟩
  · have := h4 lo h2; omega
  · have := h4 x hx; have := h4 y hy; omega
theorem neg_iv {K : Nat} {x : PDyad} (hx : mayD x) (h : 0 ≤ ivK K x) : x.neg = false := by
  rcases Bool.eq_false_or_eq_true x.neg with h1 | h1
  · exfalso
    have h0 : numD x K = 0 := by unfold ivK sg at h; rw [if_pos h1] at h; omega
    have hv : val B32 x.limbs = 0 := by
      unfold numD at h0
      rcases Nat.mul_eq_zero.1 h0 with h2 | h2
      · have := Nat.two_pow_pos (K - x.exp.toNat); omega
      · exact h2
    by_cases hn : x.limbs = []
    · have := hx.2.2
      rw [if_pos hn] at this
      rw [this.2] at h1; cases h1
    · obtain ⟨z, hz⟩ : ∃ z, x.limbs.getLast? = some z := ⟨_, List.getLast?_eq_some_getLast hn⟩
      have := val_eq_zero (by decide) _ hv z (List.mem_of_getLast? hz)
      exact hx.1.2 (by rw [hz, this])
  · exact h1
theorem halvesD_iv {K : Nat} (hK : K ≤ 1024) : ∀ (k : Nat) (p : PDyad), mayD p → p.exp + k ≤ K → (ivK K p).natAbs < B32 ^ 40 → (halvesD k p).2 = 0 ∧ mayD (halvesD k p).1 ∧ (halvesD k p).1.exp ≤ p.exp + k ∧ 2 ^ k * ivK K (halvesD k p).1 = ivK K p
  | 0, p, h, _, _ => ⟨rfl, h, by show p.exp ≤ p.exp + 0; omega, by show 2 ^ 0 * ivK K p = ivK K p; rw [Int.pow_zero, Int.one_mul]⟩
  | k + 1, p, h, he, hs => by
    obtain ⟨h1, h2, h3, h4⟩ := halfD_iv h hK (by omega) hs
    unfold halvesD
    rw [if_pos h1]
    obtain ⟨g1, g2, g3, g4⟩ := halvesD_iv hK k (halfD p).1 h2 (by omega) (by omega)
    exact ⟨g1, g2, by omega, by rw [Int.pow_succ, Int.mul_comm (2 ^ k) 2, Int.mul_assoc, g4, h4]⟩
theorem stepD_iv {K m : Nat} (hK : K ≤ 1024) {x : PDyad} (h : mayD x) (he : x.exp + m ≤ K) (h0 : 0 ≤ ivK K x) (hs : 2 * (ivK K x).natAbs < B32 ^ 40) : (stepD m x).2 = 0 ∧ mayD (stepD m x).1 ∧ (stepD m x).1.exp ≤ x.exp + m ∧ 0 ≤ ivK K (stepD m x).1 ∧ ivK K (stepD m x).1 ≤ ivK K x ∧ 2 ^ m * ivK K (stepD m x).1 = 2 ^ m * ivK K x - ivK K x := by
  obtain ⟨g1, g2, g3, g4⟩ := halvesD_iv hK m x h he (by omega)
  have hp := pow_pos' m
  have k1 : 0 ≤ ivK K (halvesD m x).1 := by
    rcases Int.lt_or_le (ivK K (halvesD m x).1) 0 with h9 | h9
    · have := Int.mul_neg_of_pos_of_neg hp h9; omega
    · exact h9
  have k2 : ivK K (halvesD m x).1 ≤ ivK K x := by
    have := Int.mul_le_mul_of_nonneg_right (show (1 : Int) ≤ 2 ^ m by omega) k1
    omega
  obtain ⟨d1, d2, d3, d4⟩ := subD_iv (K := K) h g2 hK (by omega) (by omega) (by omega)
  unfold stepD
  rw [if_pos g1, if_pos d1]
  dsimp only
  exact ⟨rfl, d2, by omega, by omega, by omega, by rw [d4, Int.mul_sub, g4]⟩
theorem boundsD_iv {K m : Nat} (hK : K ≤ 1024) : ∀ (L : Nat) (x : PDyad), mayD x → x.exp + L * m ≤ K → 0 ≤ ivK K x → 2 * (ivK K x).natAbs < B32 ^ 40 → ∃ D : Nat → Int, D 0 = ivK K x ∧ Shr m L D ∧ (boundsD m L x).2 = 0 ∧ mayD (boundsD m L x).1 ∧ (boundsD m L x).1.exp ≤ K ∧ ivK K (boundsD m L x).1 = D L
  | 0, x, h, he, h0, hs => ⟨fun _ => ivK K x, rfl, fun b hb => absurd hb (Nat.not_lt_zero _), rfl, h, by show x.exp ≤ K; simpa using he, rfl⟩
  | L + 1, x, h, he, h0, hs => by
    have e1 : ((L + 1 : Nat) : Int) * m = (L : Int) * m + m := by push_cast; rw [Int.add_mul, Int.one_mul]
    have e2 : (0 : Int) ≤ (L : Int) * m := Int.mul_nonneg (Int.natCast_nonneg _) (Int.natCast_nonneg _)
    rw [e1] at he
    obtain ⟨g1, g2, g3, g4, g5, g6⟩ := stepD_iv (m := m) hK h (by omega) h0 hs
    obtain ⟨D, d1, d2, d3, d4, d5, d6⟩ := boundsD_iv (m := m) hK L (stepD m x).1 g2 (by omega) g4 (by omega)
    unfold boundsD
    rw [if_pos g1]
    refine ⟨fun b => if b = 0 then ivK K x else D (b - 1), rfl, fun b hb => ?_, d3, d4, d5, d6⟩
    cases b with
    | zero => show 2 ^ m * D 0 = 2 ^ m * ivK K x - ivK K x; rw [d1]; exact g6
    | succ b => exact d2 b (by omega)
theorem small_iv {K : Nat} {x : PDyad} (hl : Limbs x.limbs) (h : x.limbs.length ≤ 8) : (ivK K x).natAbs ≤ 2 ^ (K + 256) := by
  rw [iv_abs]
  unfold numD
  have h1 : val B32 x.limbs < B32 ^ 8 := Nat.lt_of_lt_of_le (val_lt _ hl) (Nat.pow_le_pow_right (by decide) h)
  have h2 : 2 ^ (K - x.exp.toNat) ≤ 2 ^ K := Nat.pow_le_pow_right (by decide) (by omega)
  have h3 := Nat.mul_le_mul h2 (Nat.le_of_lt h1)
  rw [Nat.pow_add]
  rw [B32_pow] at h3
  exact h3
theorem four_pow {k n : Nat} (h : k + 2 < 32 * n) : 4 * 2 ^ k < B32 ^ n := by
  rw [B32_pow, show 4 * 2 ^ k = 2 ^ (k + 2) by rw [Nat.pow_add]; omega]
  exact Nat.pow_lt_pow_right (by decide) h
/-- one average's numbers -/
theorem shrinks_one {n k0 : Nat} (hk : k0 + 2 < 32 * 40) {l out : List PDyad} {m : List PMeeting} {R : Nat} (hn2 : 2 ≤ n) (hn : l.length = n) (ho : out.length = n) (hR : (rfold n (0, initJ n) m).1 = R) (hRm : R ≤ 64) (hm : ∀ x ∈ m, meetOk (n : Int) x = true)
    (hl : ∀ x ∈ l, Sz 400 200 (2 ^ k0) x) (hlo : ∀ x ∈ out, Sz 400 264 (2 ^ k0) x)
    (hr : Run n m (fun i => ivK 400 (l[i]?.getD PDyad.zero)) (fun i => ivK 400 (out[i]?.getD PDyad.zero))) :
    ((farD l).2 = 0 ∧ mayD (farD l).1 ∧ (farD l).1.neg = false) ∧ ((farD out).2 = 0 ∧ mayD (farD out).1) ∧ ((boundsD (n - 1) (R / (n - 1)) (farD l).1).2 = 0 ∧ mayD (boundsD (n - 1) (R / (n - 1)) (farD l).1).1) ∧ cmpD (farD out).1 (boundsD (n - 1) (R / (n - 1)) (farD l).1).1 ≤ 0 := by
  have hB := four_pow hk
  generalize (2 : Nat) ^ k0 = B at *
  have ne1 : l ≠ [] := fun h => by rw [h] at hn; simp at hn; omega
  have ne2 : out ≠ [] := fun h => by rw [h] at ho; simp at ho; omega
  obtain ⟨f1, f2, f3, f4, _⟩ := farD_iv (by decide) (by decide) hB ne1 hl
  obtain ⟨o1, o2, o3, _, x, hx, y, hy, o5⟩ := farD_iv (by decide) (by decide) hB ne2 hlo
  obtain ⟨q, rfl⟩ : ∃ q, n = q + 1 := ⟨n - 1, by omega⟩
  rw [Nat.add_sub_cancel]
  have hq : 1 ≤ q := by omega
  have hdiv : R / q * q ≤ R := Nat.div_mul_le_self R q
  have fe := f2.exp
  obtain ⟨D, d1, d2, d3, d4, d5, d6⟩ := boundsD_iv (K := 400) (m := q) (by decide) (R / q) (farD l).1 f2.may (by
    have : ((R / q : Nat) : Int) * (q : Int) = ((R / q * q : Nat) : Int) := by push_cast; rfl
    rw [this]; omega) f3 (by have := f2.abs; omega)
  have key := shrinks hq d2 hr hm (fun i j hi hj => by
    rw [d1]
    exact f4 _ (getD_mem _ (by omega)) _ (getD_mem _ (by omega))) (by rw [hR]; exact Nat.le_refl _)
  rw [hR] at key
  refine ⟨⟨f1, f2.may, neg_iv f2.may f3⟩, ⟨o1, o2.may⟩, ⟨d3, d4⟩, ?_⟩
  obtain ⟨i, hi, rfl⟩ := List.getElem_of_mem hx
  obtain ⟨j, hj, rfl⟩ := List.getElem_of_mem hy
  have k1 := key i j (by omega) (by omega)
  rw [List.getElem?_eq_getElem hi, List.getElem?_eq_getElem hj] at k1
  simp only [Option.getD_some] at k1
  have oe := o2.exp
  have := cmpD_iv (K := 400) (x := (farD out).1) (y := (boundsD q (R / q) (farD l).1).1) (by omega) d5
  omega
end Go.Hx
end
