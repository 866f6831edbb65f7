/- Numbers as lists of digits: plain mathematics. -/
import Derived.KernelRfl
namespace Go.Hx
/-- the number of digits to a base, the lowest first -/
def val (b : Nat) : List Nat → Nat
  | [] => 0
  | x :: l => x + b * val b l
/-- the digits of a number, none at the end that is 0 -/
def digs (b n : Nat) : List Nat := if _h : n = 0 ∨ b < 2 then [] else n % b :: digs b (n / b)
termination_by n
decreasing_by exact Nat.div_lt_self (by omega) (by omega)

section
variable {b : Nat} {l m : List Nat}
@[simp] theorem val_nil : val b [] = 0 := rfl
theorem val_cons (x : Nat) : val b (x :: l) = x + b * val b l := rfl
theorem val_append : ∀ l : List Nat, val b (l ++ m) = val b l + b ^ l.length * val b m
  | [] => by simp
  | x :: l => by rw [List.cons_append, val_cons, val_cons, val_append l, List.length_cons, Nat.pow_succ, Nat.mul_add, Nat.add_assoc, ← Nat.mul_assoc, Nat.mul_comm b (b ^ l.length)]
theorem val_snoc (l : List Nat) (x : Nat) : val b (l ++ [x]) = val b l + b ^ l.length * x := by rw [val_append]; simp [val]
theorem val_lt : ∀ l : List Nat, (∀ x ∈ l, x < b) → val b l < b ^ l.length
  | [], _ => by simp
  | x :: l, h => by
    have h1 := val_lt l (fun y hy => h y (List.mem_cons_of_mem _ hy))
    have h2 := h x (List.mem_cons_self ..)
    rw [val_cons, List.length_cons, Nat.pow_succ, Nat.mul_comm]
    have h3 : b * val b l + b ≤ b * b ^ l.length := by rw [← Nat.mul_succ]; exact Nat.mul_le_mul_left _ h1
    rw [Nat.mul_comm (b ^ l.length) b, Nat.mul_comm (val b l) b]
    omega
theorem val_zeros (k : Nat) (l : List Nat) : val b (List.replicate k 0 ++ l) = b ^ k * val b l := by
  have h : val b (List.replicate k 0) = 0 := by
    induction k with
    | zero => rfl
    | succ k ih => rw [List.replicate_succ, val_cons, ih]; simp
  rw [val_append, h, List.length_replicate, Nat.zero_add]
theorem val_take_succ {k x : Nat} (h : l[k]? = some x) : val b (l.take (k + 1)) = val b (l.take k) + b ^ k * x := by
  have hlt := (List.getElem?_eq_some_iff.1 h).1
  rw [List.take_add_one, h]
  show val b (l.take k ++ [x]) = _
  rw [val_snoc, List.length_take, Nat.min_eq_left (by omega)]
theorem val_take_add_drop (k : Nat) (h : k ≤ l.length) : val b l = val b (l.take k) + b ^ k * val b (l.drop k) := by
  conv => lhs; rw [← List.take_append_drop k l]
  rw [val_append, List.length_take, Nat.min_eq_left h]

theorem digs_zero (b : Nat) : digs b 0 = [] := by rw [digs]; simp
theorem digs_pos {n : Nat} (hb : 2 ≤ b) (hn : n ≠ 0) : digs b n = n % b :: digs b (n / b) := by
  rw [digs]
  rw [dif_neg (by omega)]
theorem val_digs (hb : 2 ≤ b) (n : Nat) : val b (digs b n) = n := by
  induction n using Nat.strongRecOn with
  | _ n ih =>
    by_cases hn : n = 0
    · subst hn; rw [digs_zero]; rfl
    · rw [digs_pos hb hn, val_cons, ih _ (Nat.div_lt_self (by omega) (by omega))]
      exact Nat.mod_add_div n b
theorem digs_lt (hb : 2 ≤ b) (n : Nat) : ∀ x ∈ digs b n, x < b := by
  induction n using Nat.strongRecOn with
  | _ n ih =>
    by_cases hn : n = 0
    · subst hn; rw [digs_zero]; simp
    · rw [digs_pos hb hn]
      intro x hx
      rcases List.mem_cons.1 hx with rfl | hx
      · exact Nat.mod_lt _ (by omega)
      · exact ih _ (Nat.div_lt_self (by omega) (by omega)) x hx
/-- digits without a 0 at the end are those of their number -/
theorem digs_val (hb : 2 ≤ b) : ∀ l : List Nat, (∀ x ∈ l, x < b) → l.getLast? ≠ some 0 → digs b (val b l) = l
  | [], _, _ => digs_zero b
  | x :: l, h, hl => by
    have hx := h x (List.mem_cons_self ..)
    have hl' : l.getLast? ≠ some 0 := by
      cases l with
      | nil => simp
      | cons y l => rw [List.getLast?_cons_cons] at hl; exact hl
    have ih := digs_val hb l (fun y hy => h y (List.mem_cons_of_mem _ hy)) hl'
    have h0 : x + b * val b l ≠ 0 := by
      intro h0
      have hx0 : x = 0 := by omega
      have hv : val b l = 0 := by
        rcases Nat.eq_zero_or_pos (val b l) with h1 | h1
        · exact h1
        · have := Nat.mul_pos (show 0 < b by omega) h1; omega
      rw [hv, digs_zero] at ih
      subst ih
      subst hx0
      exact hl rfl
    rw [val_cons, digs_pos hb h0, Nat.add_mul_mod_self_left, Nat.mod_eq_of_lt hx, Nat.add_mul_div_left _ _ (by omega), Nat.div_eq_of_lt hx, Nat.zero_add, ih]
theorem digs_last (hb : 2 ≤ b) (n : Nat) : (digs b n).getLast? ≠ some 0 := by
  induction n using Nat.strongRecOn with
  | _ n ih =>
    by_cases hn : n = 0
    · subst hn; rw [digs_zero]; simp
    · rw [digs_pos hb hn]
      by_cases hd : n / b = 0
      · rw [hd, digs_zero]
        have : n < b := by
          rcases Nat.lt_or_ge n b with h | h
          · exact h
          · have := Nat.div_pos h (by omega); omega
        rw [Nat.mod_eq_of_lt this]
        simpa using hn
      · have := ih (n / b) (Nat.div_lt_self (by omega) (by omega))
        rw [digs_pos hb hd] at this ⊢
        rw [List.getLast?_cons_cons]
        exact this
theorem digs_nil (hb : 2 ≤ b) {n : Nat} : digs b n = [] ↔ n = 0 := ⟨fun h => by rw [← val_digs hb n, h]; rfl, fun h => by rw [h, digs_zero]⟩
theorem digs_length (hb : 2 ≤ b) (n k : Nat) : (digs b n).length ≤ k ↔ n < b ^ k := by
  constructor
  · intro h
    have h1 := val_lt (digs b n) (digs_lt hb n)
    rw [val_digs hb] at h1
    exact Nat.lt_of_lt_of_le h1 (Nat.pow_le_pow_right (by omega) h)
  · induction k generalizing n with
    | zero =>
      intro h
      have : n = 0 := by simpa using h
      rw [this, digs_zero]; simp
    | succ k ih =>
      intro h
      by_cases hn : n = 0
      · rw [hn, digs_zero]; simp
      · rw [digs_pos hb hn, List.length_cons]
        have := ih (n / b) (Nat.div_lt_of_lt_mul (by rw [Nat.pow_succ, Nat.mul_comm] at h; exact h))
        omega
theorem digs_shift (hb : 2 ≤ b) (k : Nat) {n : Nat} (hn : n ≠ 0) : List.replicate k 0 ++ digs b n = digs b (b ^ k * n) := by
  have h := val_zeros (b := b) k (digs b n)
  rw [val_digs hb] at h
  rw [← h]
  refine (digs_val hb _ (fun x hx => ?_) ?_).symm
  · rcases List.mem_append.1 hx with hx | hx
    · rw [List.eq_of_mem_replicate hx]; omega
    · exact digs_lt hb n x hx
  · have h1 := digs_last hb n
    rw [List.getLast?_append]
    cases hg : (digs b n).getLast? with
    | none =>
      rw [List.getLast?_eq_none_iff, digs_nil hb] at hg
      exact absurd hg hn
    | some x => rw [hg] at h1; simpa using h1
theorem val_eq_zero (hb : 0 < b) : ∀ l : List Nat, val b l = 0 → ∀ x ∈ l, x = 0
  | [], _ => by simp
  | y :: l, h => by
    rw [val_cons] at h
    have hy : y = 0 := by omega
    have hl : val b l = 0 := by
      rcases Nat.eq_zero_or_pos (val b l) with h1 | h1
      · exact h1
      · have := Nat.mul_pos hb h1; omega
    intro x hx
    rcases List.mem_cons.1 hx with rfl | hx
    · exact hy
    · exact val_eq_zero hb l hl x hx
/-- what lies behind is nothing but 0 -/
theorem digs_cut (hb : 2 ≤ b) (k : Nat) (hk : k ≤ l.length) (hl : ∀ x ∈ l, x < b) (h0 : val b (l.drop k) = 0) (hlast : k = 0 ∨ ∃ x, l[k - 1]? = some x ∧ x ≠ 0) : l.take k = digs b (val b l) := by
  have hv : val b l = val b (l.take k) := by rw [val_take_add_drop k hk, h0]; simp
  rw [hv]
  refine (digs_val hb _ (fun x hx => hl x (List.mem_of_mem_take hx)) ?_).symm
  rcases hlast with rfl | ⟨x, hx, hx0⟩
  · simp
  · have hlt := (List.getElem?_eq_some_iff.1 hx).1
    by_cases hk0 : k = 0
    · subst hk0; simp
    · rw [List.getLast?_eq_getElem?, List.length_take, Nat.min_eq_left hk, List.getElem?_take, if_pos (by omega), hx]
      simpa using hx0
end

/-- how often 2 goes into a number -/
def tz (n : Nat) : Nat := if h : n = 0 ∨ n % 2 = 1 then 0 else tz (n / 2) + 1
termination_by n
decreasing_by omega
theorem tz_odd {n : Nat} (h : n % 2 = 1) : tz n = 0 := by rw [tz, dif_pos (.inr h)]
theorem tz_even {n : Nat} (h0 : n ≠ 0) (h : n % 2 = 0) : tz n = tz (n / 2) + 1 := by rw [tz, dif_neg (by omega)]
theorem tz_spec {n : Nat} (h0 : n ≠ 0) : n = 2 ^ tz n * (n / 2 ^ tz n) ∧ (n / 2 ^ tz n) % 2 = 1 := by
  induction n using Nat.strongRecOn with
  | _ n ih =>
    rcases Nat.mod_two_eq_zero_or_one n with h | h
    · obtain ⟨h1, h2⟩ := ih (n / 2) (by omega) (by omega)
      rw [tz_even h0 h]
      have e : n / 2 ^ (tz (n / 2) + 1) = n / 2 / 2 ^ tz (n / 2) := by rw [Nat.pow_succ, Nat.mul_comm, ← Nat.div_div_eq_div_mul]
      rw [e]
      refine ⟨?_, h2⟩
      rw [Nat.pow_succ, Nat.mul_assoc, Nat.mul_comm 2, ← Nat.mul_assoc, ← h1]
      omega
    · rw [tz_odd h]; simpa using h
theorem tz_unique {n t m : Nat} (h : n = 2 ^ t * m) (hm : m % 2 = 1) : tz n = t := by
  induction t generalizing n with
  | zero => rw [tz_odd (by rw [h]; simpa using hm)]
  | succ t ih =>
    have hm0 : 0 < m := by omega
    have hp : 0 < 2 ^ t * m := Nat.mul_pos (Nat.two_pow_pos t) hm0
    have e : n = 2 * (2 ^ t * m) := by rw [h, Nat.pow_succ, Nat.mul_comm (2 ^ t) 2, Nat.mul_assoc]
    rw [tz_even (by omega) (by omega), ih (n := n / 2) (by omega)]
end Go.Hx
