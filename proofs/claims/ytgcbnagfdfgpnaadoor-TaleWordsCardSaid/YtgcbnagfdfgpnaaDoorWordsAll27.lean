/- Words of dyads and dyads of words: plain data. -/
import Derived.Test.YtgcbnagfdfgpnaaDoorWordsAll25
import Derived.Test.YtgcbnagfdfgpnaaDoorWordsAll26
import Derived.Lib.ItoaLen
import Derived.Lib.AtoiAllCases
namespace Go.Hx
open Go.RowKit
/-! ### Digits to the base of 16 -/
theorem hexv_hexd {d : Nat} (h : d < 16) : hexv (hexd d) = some d := by
  have : ∀ d : Fin 16, hexv (hexd d.val) = some d.val := by decide +kernel
  exact this ⟨d, h⟩
theorem hexs_hexL (n : Nat) : hexs (hexL n) 0 = some n := by
  induction n using Nat.strongRecOn with
  | _ n ih =>
    by_cases h : n < 16
    · rw [hexL_small h]; simp [hexs, hexv_hexd h]
    · rw [hexL_step h, hexs_snoc, ih (n / 16) (by omega), hexv_hexd (Nat.mod_lt _ (by omega))]
      exact congrArg some (by omega)
theorem hexs_zeros (l : List UInt8) : ∀ k, hexs (Lib.repeatL [48] k ++ l) 0 = hexs l 0
  | 0 => rfl
  | k + 1 => by
    have h : hexv 48 = some 0 := by decide
    show hexs (48 :: (Lib.repeatL [48] k ++ l)) 0 = _
    simp only [hexs, h]
    exact hexs_zeros l k
theorem hexs_pad8 (x : Nat) : hexs (pad8 (hexL x)) 0 = some x := by
  unfold pad8
  rw [hexs_zeros, hexs_hexL]
/-- limbs read from digits to the base of 16, eight at a time from the end -/
def limP (s : List UInt8) : Option (List Nat) :=
  if _h : s = [] then some [] else match hexs (s.drop (s.length - 8)) 0 with
    | none => none
    | some n => match limP (s.take (s.length - 8)) with
      | none => none
      | some l => some (n :: l)
termination_by s.length
decreasing_by
  rw [List.length_take]
  have : s.length ≠ 0 := fun e => _h (List.eq_nil_of_length_eq_zero e)
  omega
theorem limP_nil : limP [] = some [] := by rw [limP]; simp
theorem limP_step {s : List UInt8} (h : s ≠ []) : limP s = match hexs (s.drop (s.length - 8)) 0 with
    | none => none
    | some n => match limP (s.take (s.length - 8)) with
      | none => none
      | some l => some (n :: l) := by
  rw [limP, dif_neg h]
theorem pad8_ne (l : List UInt8) (h : l ≠ []) : pad8 l ≠ [] := by
  unfold pad8
  simp [h]
theorem hexL_ne (n : Nat) : hexL n ≠ [] := fun h => by have := hexL_pos n; rw [h] at this; simp at this
theorem limP_one {x : Nat} (h : x < B32) : limP (hexL x) = some [x] := by
  have h8 : (hexL x).length ≤ 8 := hexL_len8 h
  rw [limP_step (hexL_ne x), show (hexL x).length - 8 = 0 by omega, List.drop_zero, List.take_zero, limP_nil, hexs_hexL]
theorem limP_digL : ∀ l : List Nat, Limbs l → limP (digL l) = some l
  | [], _ => by simp [digL, limP_nil]
  | x :: r, h => by
    have hx : x < B32 := h x (by simp)
    have ih := limP_digL r fun n hn => h n (List.mem_cons_of_mem _ hn)
    unfold digL
    split
    · rename_i hr; rw [hr]; exact limP_one hx
    · have h8 : (pad8 (hexL x)).length = 8 := pad8_len (hexL_len8 hx)
      have hl : (digL r ++ pad8 (hexL x)).length - 8 = (digL r).length := by rw [List.length_append]; omega
      rw [limP_step (fun e => pad8_ne _ (hexL_ne x) (List.append_eq_nil_iff.1 e).2), hl, List.drop_left', List.take_left', hexs_pad8, ih]
      · rfl
      · rfl
/-- so many digits of a number -/
def hexJ : Nat → Nat → List UInt8
  | 0, _ => []
  | j + 1, n => hexd (n / 16 ^ j % 16) :: hexJ j n
theorem hexJ_len : ∀ j n, (hexJ j n).length = j
  | 0, _ => rfl
  | j + 1, n => by simp [hexJ, hexJ_len j n]
theorem hexJ_last : ∀ j n, hexJ (j + 1) n = hexJ j (n / 16) ++ [hexd (n % 16)]
  | 0, n => by simp [hexJ]
  | j + 1, n => by
    have h := hexJ_last j n
    show hexd (n / 16 ^ (j + 1) % 16) :: hexJ (j + 1) n = hexd (n / 16 / 16 ^ j % 16) :: hexJ j (n / 16) ++ _
    rw [h, Nat.pow_succ, Nat.mul_comm, Nat.div_div_eq_div_mul]
    rfl
theorem hexJ_hexL : ∀ j n, 16 ^ j ≤ n → n < 16 ^ (j + 1) → hexJ (j + 1) n = hexL n
  | 0, n, _, h2 => by
    have h : n < 16 := by simpa using h2
    rw [hexL_small h]
    simp [hexJ, Nat.mod_eq_of_lt h]
  | j + 1, n, h1, h2 => by
    have hp : 0 < 16 ^ j := Nat.pow_pos (by omega)
    rw [Nat.pow_succ] at h1
    have h16 : ¬ n < 16 := by omega
    rw [hexL_step h16, hexJ_last, hexJ_hexL j (n / 16) (by omega) (by rw [Nat.pow_succ] at h2; omega)]
theorem hexL_app {v : Nat} (hv : v ≠ 0) : ∀ k x, x < 16 ^ k → hexL (x + 16 ^ k * v) = hexL v ++ hexJ k x
  | 0, x, hx => by
    have : x = 0 := by simpa using hx
    subst this
    simp [hexJ]
  | k + 1, x, hx => by
    have hp : 1 ≤ 16 ^ k := Nat.pow_pos (by omega)
    have hb : 16 ≤ 16 ^ (k + 1) * v := by
      have h1 : 16 ^ (k + 1) * 1 ≤ 16 ^ (k + 1) * v := Nat.mul_le_mul_left _ (by omega)
      rw [Nat.pow_succ] at h1 ⊢
      omega
    have e : 16 ^ (k + 1) * v = 16 * (16 ^ k * v) := by rw [Nat.pow_succ, Nat.mul_comm (16 ^ k) 16, Nat.mul_assoc]
    rw [hexL_step (by omega), e, show (x + 16 * (16 ^ k * v)) / 16 = x / 16 + 16 ^ k * v by omega, show (x + 16 * (16 ^ k * v)) % 16 = x % 16 by omega,
      hexL_app hv k (x / 16) (by rw [Nat.pow_succ] at hx; omega), hexJ_last, List.append_assoc]
theorem hexJ_zero : ∀ k, hexJ k 0 = Lib.repeatL [48] k
  | 0 => rfl
  | k + 1 => by
    show hexd (0 / 16 ^ k % 16) :: hexJ k 0 = 48 :: Lib.repeatL [48] k
    rw [hexJ_zero k, Nat.zero_div]
    rfl
theorem hexJ_pad : ∀ k x, x < 16 ^ (k + 1) → hexJ (k + 1) x = Lib.repeatL [48] (k + 1 - (hexL x).length) ++ hexL x
  | 0, x, h => by
    have h' : x < 16 := by simpa using h
    rw [hexL_small h']
    simp [hexJ, Nat.mod_eq_of_lt h', Lib.repeatL]
  | k + 1, x, h => by
    by_cases h1 : 16 ^ (k + 1) ≤ x
    · have h2 := hexJ_hexL (k + 1) x h1 h
      have h3 := hexJ_len (k + 1 + 1) x
      rw [h2] at h3
      rw [h2, h3, Nat.sub_self]
      rfl
    · have hlt : x < 16 ^ (k + 1) := by omega
      have h4 := hexL_len k x hlt
      show hexd (x / 16 ^ (k + 1) % 16) :: hexJ (k + 1) x = _
      rw [hexJ_pad k x hlt, Nat.div_eq_of_lt hlt, show k + 1 + 1 - (hexL x).length = (k + 1 - (hexL x).length) + 1 by omega]
      rfl
theorem pad8_hexJ {x : Nat} (h : x < B32) : pad8 (hexL x) = hexJ 8 x := by
  unfold pad8
  rw [hexJ_pad 7 x (by have : (16 : Nat) ^ (7 + 1) = 4294967296 := by decide
                       rw [this]; exact h)]
/-- the digits of limbs are those of their number -/
theorem digL_val : ∀ l : List Nat, Limbs l → l ≠ [] → l.getLast? ≠ some 0 → digL l = hexL (val B32 l)
  | [], _, h, _ => absurd rfl h
  | x :: r, h, _, h0 => by
    have hx : x < B32 := h x (by simp)
    have hr : Limbs r := fun n hn => h n (List.mem_cons_of_mem _ hn)
    unfold digL
    split
    · rename_i e; rw [e, val_cons]; simp
    · rename_i e
      have h1 : r.getLast? ≠ some 0 := by
        cases r with
        | nil => exact absurd rfl e
        | cons y r => rwa [List.getLast?_cons_cons] at h0
      have hv : val B32 r ≠ 0 := fun hv => by
        have := digs_val (b := B32) (by decide) r hr h1
        rw [hv, digs_zero] at this
        exact e this.symm
      have hp : (16 : Nat) ^ 8 = B32 := by decide
      rw [digL_val r hr e h1, val_cons, pad8_hexJ hx, ← hp, hexL_app hv 8 x (by rw [hp]; exact hx)]
/-- a place of a number's digits, from the end -/
theorem hexL_at (n : Nat) : ∀ k, k < (hexL n).length → (hexL n)[(hexL n).length - 1 - k]? = some (hexd (n / 16 ^ k % 16)) := by
  induction n using Nat.strongRecOn with
  | _ n ih =>
    intro k hk
    by_cases h : n < 16
    · rw [hexL_small h] at hk ⊢
      have : k = 0 := by simpa using hk
      subst this
      simp [Nat.mod_eq_of_lt h]
    · rw [hexL_step h] at hk ⊢
      rw [List.length_append] at hk ⊢
      simp only [List.length_cons, List.length_nil] at hk ⊢
      cases k with
      | zero => simp
      | succ k =>
        have := ih (n / 16) (by omega) k (by omega)
        rw [List.getElem?_append_left (by have := hexL_pos (n / 16); omega), show (hexL (n / 16)).length + (0 + 1) - 1 - (k + 1) = (hexL (n / 16)).length - 1 - k by omega, this, Nat.pow_succ, Nat.mul_comm (16 ^ k), Nat.div_div_eq_div_mul]
theorem hexL_lt (n : Nat) : n < 16 ^ (hexL n).length := by
  induction n using Nat.strongRecOn with
  | _ n ih =>
    by_cases h : n < 16
    · rw [hexL_small h]; simpa using h
    · rw [hexL_step h, List.length_append]
      have := ih (n / 16) (by omega)
      simp only [List.length_cons, List.length_nil]
      rw [Nat.pow_succ]
      omega
theorem hexL_chars (n : Nat) : ∀ c ∈ hexL n, ∃ d, d < 16 ∧ c = hexd d := by
  induction n using Nat.strongRecOn with
  | _ n ih =>
    intro c hc
    by_cases h : n < 16
    · rw [hexL_small h] at hc; exact ⟨n, h, by simpa using hc⟩
    · rw [hexL_step h] at hc
      rcases List.mem_append.1 hc with hc | hc
      · exact ih (n / 16) (by omega) c hc
      · exact ⟨n % 16, Nat.mod_lt _ (by omega), by simpa using hc⟩
theorem hexd_not {d : Nat} (h : d < 16) : hexd d ≠ 47 ∧ hexd d ≠ 45 ∧ (hexd d).toNat < 256 := by
  have : ∀ d : Fin 16, hexd d.val ≠ 47 ∧ hexd d.val ≠ 45 ∧ (hexd d.val).toNat < 256 := by decide +kernel
  exact this ⟨d, h⟩
/-! ### Words -/
/-- a dyad's number in digits -/
def bodyL (a : PDyad) : List UInt8 := hexL (val B32 a.limbs)
def signL (a : PDyad) : List UInt8 := if a.neg = true then [45] else []
def tailL (a : PDyad) : List UInt8 := if 0 < a.exp then 47 :: Lib.itoa a.exp else []
theorem wordL_eq (a : PDyad) (hl : Limbs a.limbs) (h0 : a.limbs.getLast? ≠ some 0) : wordL a = signL a ++ bodyL a ++ tailL a := by
  unfold wordL signL bodyL tailL
  by_cases h : a.limbs = []
  · rw [h]; simp [digL, hexL_small (n := 0) (by omega), hexd]
  · rw [if_neg h, digL_val _ hl h h0]; simp
/-- the digits of a small number -/
def dig4 (n : Nat) : List UInt8 :=
  if n < 10 then [UInt8.ofNat (48 + n)] else if n < 100 then [UInt8.ofNat (48 + n / 10), UInt8.ofNat (48 + n % 10)]
  else if n < 1000 then [UInt8.ofNat (48 + n / 10 / 10), UInt8.ofNat (48 + n / 10 % 10), UInt8.ofNat (48 + n % 10)]
  else [UInt8.ofNat (48 + n / 10 / 10 / 10), UInt8.ofNat (48 + n / 10 / 10 % 10), UInt8.ofNat (48 + n / 10 % 10), UInt8.ofNat (48 + n % 10)]
theorem dig4_eq {n : Nat} (h : n < 10000) : Lib.decDigits n = dig4 n := by
  unfold dig4
  split
  · rename_i h1; exact Lib.decDigits_one h1
  · rename_i h1
    split
    · rename_i h2; exact Lib.decDigits_two h1 h2
    · rename_i h2
      split
      · rename_i h3
        rw [Lib.decDigits, dif_neg h1, Lib.decDigits_two (by omega) (by omega)]; rfl
      · rename_i h3
        rw [Lib.decDigits, dif_neg h1, Lib.decDigits, dif_neg (by omega), Lib.decDigits_two (by omega) (by omega)]; rfl
/-- a number's value, digit by digit -/
def decV (l : List UInt8) : Nat := l.foldl (fun a c => 10 * a + (c.toNat - 48)) 0
theorem dig4_all : ∀ n : Fin 1025, Lib.atoiAll (dig4 n.val) = .ok (n.val : Int) ∧ (dig4 n.val).all (fun c => c != 47 && decide (48 ≤ c.toNat) && decide (c.toNat ≤ 57)) = true ∧ (dig4 n.val).length ≤ 4 ∧ 1 ≤ (dig4 n.val).length ∧ decV (dig4 n.val) = n.val ∧ (1 ≤ n.val → (dig4 n.val).head? ≠ some 48) := by decide +kernel
theorem itoa_dig4 {e : Int} (h0 : 0 ≤ e) (h1 : e ≤ 1024) : ∃ n : Nat, n < 1025 ∧ e = n ∧ Lib.itoa e = dig4 n := by
  refine ⟨e.toNat, by omega, by omega, ?_⟩
  unfold Lib.itoa
  rw [if_neg (by omega), dig4_eq (by omega)]
/-- the first slash -/
theorem index_first : ∀ {a r : List UInt8}, (47 : UInt8) ∉ a → Lib.indexByte (a ++ 47 :: r) 47 = a.length
  | [], r, _ => rfl
  | b :: a, r, h => by
    have h1 : (b == 47) = false := by simpa using fun e => h (by rw [e]; simp)
    have ih := index_first (a := a) (r := r) fun hm => h (List.mem_cons_of_mem _ hm)
    show Lib.indexByte (b :: (a ++ 47 :: r)) 47 = _
    unfold Lib.indexByte
    rw [h1, ih, if_neg (by simp), if_neg (by simp)]
    simp
theorem index_none : ∀ {a : List UInt8}, (47 : UInt8) ∉ a → Lib.indexByte a 47 = -1
  | [], _ => rfl
  | b :: a, h => by
    have h1 : (b == 47) = false := by simpa using fun e => h (by rw [e]; simp)
    have ih := index_none (a := a) fun hm => h (List.mem_cons_of_mem _ hm)
    unfold Lib.indexByte
    rw [h1, ih]
    simp
theorem front_no (a : PDyad) : (47 : UInt8) ∉ signL a ++ bodyL a := by
  intro h
  rcases List.mem_append.1 h with h | h
  · unfold signL at h
    split at h <;> simp at h
  · obtain ⟨d, hd, e⟩ := hexL_chars _ _ h
    exact (hexd_not hd).1 e.symm
theorem cut_word (a : PDyad) (hm : mayD a) (hl : Limbs a.limbs) : cutL (wordL a) = if 0 < a.exp then (signL a ++ bodyL a, Lib.itoa a.exp, true) else (signL a ++ bodyL a, [], false) := by
  rw [wordL_eq a hl hm.1.2]
  unfold cutL tailL
  by_cases h : 0 < a.exp
  · have e : ((signL a ++ bodyL a).length : Int).toNat = (signL a ++ bodyL a).length := by omega
    rw [if_pos h, if_pos h, index_first (front_no a), if_pos (by omega), e, List.take_left' rfl, ← List.drop_drop, List.drop_left' rfl]
    rfl
  · rw [if_neg h, if_neg h, List.append_nil, index_none (front_no a), if_neg (by omega)]
/-- a sign ahead -/
def cutS (s : List UInt8) : List UInt8 × Bool := if s.head? = some 45 then (s.drop 1, true) else (s, false)
theorem cutS_word (a : PDyad) : cutS (signL a ++ bodyL a) = (bodyL a, a.neg) := by
  unfold cutS signL
  cases hn : a.neg with
  | true => simp
  | false =>
    have h : (bodyL a).head? ≠ some 45 := fun h => by
      obtain ⟨d, hd, e⟩ := hexL_chars _ 45 (List.mem_of_mem_head? h)
      exact (hexd_not hd).2.1 e.symm
    simp [h]
theorem limP_body (a : PDyad) (hm : mayD a) (hl : Limbs a.limbs) : ∃ l, limP (bodyL a) = some l ∧ val B32 l = val B32 a.limbs ∧ Limbs l := by
  unfold bodyL
  by_cases h : a.limbs = []
  · rw [h]
    have hz : Limbs [0] := fun x hx => by
      rw [List.mem_singleton.1 hx]
      decide
    exact ⟨[0], limP_one (by decide), by simp [val], hz⟩
  · rw [← digL_val _ hl h hm.1.2]
    exact ⟨_, limP_digL _ hl, rfl, hl⟩
theorem limbs_back (a : PDyad) (hm : mayD a) (hl : Limbs a.limbs) : digs B32 (val B32 a.limbs) = a.limbs := digs_val (by decide) _ hl hm.1.2
theorem body_len (a : PDyad) (hm : mayD a) (hl : Limbs a.limbs) : (bodyL a).length ≤ 320 := by
  unfold bodyL
  by_cases h : a.limbs = []
  · rw [h, val_nil, hexL_small (by omega)]; simp
  · rw [← digL_val _ hl h hm.1.2]
    have := digL_len a.limbs hl
    have := hm.1.1
    omega
/-- the program's reader -/
def expQ (w : List UInt8) : Option (List UInt8 × Int) :=
  if (cutL w).2.2 = true then match Lib.atoiAll (cutL w).2.1 with
    | .ok v => some ((cutL w).1, v)
    | _ => none
  else some ((cutL w).1, 0)
def readQ (w : List UInt8) : Option PDyad :=
  match expQ w with
  | none => none
  | some (s, v) => if 320 < (cutS s).1.length then none else match limP (cutS s).1 with
    | none => none
    | some l => some ⟨(cutS s).2, digs B32 (val B32 l), v⟩
theorem expQ_word (a : PDyad) (hm : mayD a) (hl : Limbs a.limbs) : expQ (wordL a) = some (signL a ++ bodyL a, a.exp) := by
  obtain ⟨n, hn, he, hi⟩ := itoa_dig4 hm.2.1.1 hm.2.1.2
  unfold expQ
  rw [cut_word a hm hl]
  by_cases h : 0 < a.exp
  · simp only [if_pos h, if_true]
    rw [hi, (dig4_all ⟨n, hn⟩).1, he]
  · simp only [if_neg h]
    have : a.exp = 0 := by omega
    simp [this]
theorem readQ_word (a : PDyad) (hm : mayD a) (hl : Limbs a.limbs) : readQ (wordL a) = some a := by
  obtain ⟨l, h1, h2, _⟩ := limP_body a hm hl
  unfold readQ
  rw [expQ_word a hm hl]
  simp only [cutS_word a]
  rw [if_neg (by have := body_len a hm hl; omega), h1]
  simp only [h2, limbs_back a hm hl]
/-- what a reader answers that looks whether the word is that -/
def chkR (w : List UInt8) : Option PDyad → PDyad × Int
  | some a => if mayD a ∧ wordL a = w then (a, 0) else (PDyad.zero, 320)
  | none => (PDyad.zero, 320)
/-- any two such readers answer the same -/
theorem chkR_same {w : List UInt8} {x y : Option PDyad} (hx : ∀ a, mayD a → Limbs a.limbs → wordL a = w → x = some a) (hy : ∀ a, mayD a → Limbs a.limbs → wordL a = w → y = some a)
    (lx : ∀ a, x = some a → Limbs a.limbs) (ly : ∀ a, y = some a → Limbs a.limbs) : chkR w x = chkR w y := by
  cases x with
  | some a =>
    by_cases h : mayD a ∧ wordL a = w
    · rw [hy a h.1 (lx a rfl) h.2]
    · cases y with
      | none => simp [chkR, h]
      | some b =>
        by_cases h2 : mayD b ∧ wordL b = w
        · have := hx b h2.1 (ly b rfl) h2.2
          injection this with this
          rw [this]
        · simp [chkR, h, h2]
  | none =>
    cases y with
    | none => rfl
    | some b =>
      by_cases h2 : mayD b ∧ wordL b = w
      · have := hx b h2.1 (ly b rfl) h2.2
        cases this
      · simp [chkR, h2]
theorem readQ_limbs {w : List UInt8} {a : PDyad} (h : readQ w = some a) : Limbs a.limbs := by
  unfold readQ at h
  split at h
  · cases h
  · split at h
    · cases h
    · split at h
      · cases h
      · injection h with h
        rw [← h]
        exact digs_lt (by decide) _
end Go.Hx
