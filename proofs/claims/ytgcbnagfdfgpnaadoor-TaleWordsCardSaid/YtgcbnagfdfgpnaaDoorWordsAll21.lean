/- Numbers in parts of 32 bits: what widening, adding, comparing, scanning and forming do, in plain mathematics. -/
import Derived.Test.YtgcbnagfdfgpnaaDoorWordsAll4
import Derived.Lib.TrailingZeros
import Derived.Lib.BitFns
namespace Go.Hx
theorem formD_tz (neg : Bool) : ∀ (k n : Nat), n ≠ 0 → formD neg k n = finD neg (n / 2 ^ min (tz n) k) (k - min (tz n) k)
  | 0, n, h => by simp [formD, h]
  | k + 1, n, h => by
    rcases Nat.mod_two_eq_zero_or_one n with h2 | h2
    · rw [formD_even h h2, formD_tz neg k (n / 2) (by omega), tz_even h h2, show min (tz (n / 2) + 1) (k + 1) = min (tz (n / 2)) k + 1 by omega, Nat.pow_succ, Nat.mul_comm _ 2, ← Nat.div_div_eq_div_mul, Nat.add_sub_add_right]
    · rw [formD_end h (.inr h2), tz_odd h2]; simp
/-- how many binary digits a number has -/
def bl (n : Nat) : Nat := (digs 2 n).length
theorem bl_le {n k : Nat} : bl n ≤ k ↔ n < 2 ^ k := digs_length (by omega) n k
theorem bl_zero : bl 0 = 0 := by unfold bl; rw [digs_zero]; rfl
theorem bl_ne {n : Nat} (h : n ≠ 0) : bl n ≠ 0 := fun h0 => by
  have := bl_le.1 (Nat.le_of_eq h0)
  simp at this
  exact h this
theorem bl_eq {n k : Nat} (h1 : 2 ^ k ≤ n) (h2 : n < 2 ^ (k + 1)) : bl n = k + 1 := by
  have h3 := bl_le.2 h2
  have h4 : ¬ bl n ≤ k := fun h => by have := bl_le.1 h; omega
  omega
theorem bl_spec {n : Nat} (h : n ≠ 0) : ∃ k, bl n = k + 1 ∧ 2 ^ k ≤ n ∧ n < 2 ^ (k + 1) := by
  obtain ⟨k, hk⟩ : ∃ k, bl n = k + 1 := ⟨bl n - 1, by have := bl_ne h; omega⟩
  refine ⟨k, hk, ?_, bl_le.1 (by omega)⟩
  rcases Nat.lt_or_ge n (2 ^ k) with h1 | h1
  · have := bl_le.2 h1; omega
  · exact h1
theorem bl_div (n t : Nat) : bl (n / 2 ^ t) = bl n - t := by
  have h : ∀ k, bl (n / 2 ^ t) ≤ k ↔ bl n ≤ k + t := fun k => by rw [bl_le, bl_le, Nat.div_lt_iff_lt_mul (Nat.two_pow_pos t), Nat.pow_add]
  have h1 := (h (bl n - t)).2 (by omega)
  have h2 := (h (bl (n / 2 ^ t))).1 (Nat.le_refl _)
  omega
theorem bl_add {m x j : Nat} (hm : m < 2 ^ j) (hx : x ≠ 0) : bl (m + 2 ^ j * x) = j + bl x := by
  obtain ⟨k, hk, h1, h2⟩ := bl_spec hx
  rw [hk]
  refine bl_eq (k := j + k) ?_ ?_
  · rw [Nat.pow_add]
    have := Nat.mul_le_mul_left (2 ^ j) h1
    omega
  · rw [Nat.add_assoc, Nat.pow_add]
    have := Nat.mul_le_mul_left (2 ^ j) h2
    rw [Nat.mul_succ] at this
    omega
theorem d32_len (m : Nat) : (digs B32 m).length = (bl m + 31) / 32 := by
  have h : ∀ j, (digs B32 m).length ≤ j ↔ bl m ≤ 32 * j := fun j => by rw [bl_le, digs_length (by decide), B32_pow]
  have h1 := (h ((bl m + 31) / 32)).2 (by omega)
  have h2 := (h (digs B32 m).length).1 (Nat.le_refl _)
  omega
theorem bitLenAux_bl : ∀ (f x : Nat), x < 2 ^ f → Lib.bitLenAux f x = bl x
  | 0, x, h => by
    have : x = 0 := by simpa using h
    subst this
    rw [bl_zero]; rfl
  | f + 1, x, h => by
    unfold Lib.bitLenAux
    by_cases h0 : x = 0
    · rw [if_pos h0, h0, bl_zero]
    · rw [if_neg h0, bitLenAux_bl f (x / 2) (by rw [Nat.pow_succ] at h; omega)]
      unfold bl
      rw [digs_pos (by omega) h0, List.length_cons]
      omega
theorem bitLen_bl {x : Nat} (h : x < 2 ^ 64) : Lib.bitLen x = bl x := bitLenAux_bl 64 x h
theorem ctz_tz {x : Nat} (h0 : x ≠ 0) (h : x < 2 ^ 32) : Lib.ctz 32 x = tz x := by
  unfold Lib.ctz
  rw [if_neg h0]
  obtain ⟨m, hm, _⟩ := Lib.ctzFrom_spec 32 x (by omega) h
  exact (tz_unique hm (by omega)).symm
theorem tz_add {m x j : Nat} (h0 : m ≠ 0) (hm : m < 2 ^ j) : tz (m + 2 ^ j * x) = tz m := by
  obtain ⟨h1, h2⟩ := tz_spec h0
  have hlt : tz m < j := by
    rcases Nat.lt_or_ge (tz m) j with h | h
    · exact h
    · exfalso
      have h3 : 2 ^ j ≤ 2 ^ tz m := Nat.pow_le_pow_right (by omega) h
      have h4 : 2 ^ tz m * 1 ≤ 2 ^ tz m * (m / 2 ^ tz m) := Nat.mul_le_mul_left _ (Nat.pos_of_ne_zero (fun h => by rw [h] at h2; cases h2))
      omega
  obtain ⟨d, hd⟩ : ∃ d, j = tz m + (d + 1) := ⟨j - tz m - 1, by omega⟩
  refine tz_unique (m := m / 2 ^ tz m + 2 ^ (d + 1) * x) ?_ ?_
  · rw [Nat.mul_add, ← h1, ← Nat.mul_assoc, ← Nat.pow_add, ← hd]
  · rw [Nat.pow_succ, Nat.mul_comm _ 2, Nat.mul_assoc]; omega
theorem tz_mul {x : Nat} (j : Nat) (h0 : x ≠ 0) : tz (2 ^ j * x) = j + tz x := by
  obtain ⟨h1, h2⟩ := tz_spec h0
  refine tz_unique (m := x / 2 ^ tz x) ?_ h2
  rw [Nat.pow_add, Nat.mul_assoc, ← h1]
section
variable {b : Nat}
theorem val_get (hb : 0 < b) : ∀ (l : List Nat), (∀ x ∈ l, x < b) → ∀ j : Nat, l[j]?.getD 0 = val b l / b ^ j % b
  | [], _, j => by simp
  | x :: l, h, 0 => by
    have hx := h x (List.mem_cons_self ..)
    rw [val_cons, Nat.pow_zero, Nat.div_one, Nat.add_mul_mod_self_left, Nat.mod_eq_of_lt hx]; simp
  | x :: l, h, j + 1 => by
    have hx := h x (List.mem_cons_self ..)
    have ih := val_get hb l (fun y hy => h y (List.mem_cons_of_mem _ hy)) j
    rw [val_cons, Nat.pow_succ, Nat.mul_comm (b ^ j) b, ← Nat.div_div_eq_div_mul, Nat.add_mul_div_left _ _ hb, Nat.div_eq_of_lt hx, Nat.zero_add, ← ih]; simp
theorem digs_get (hb : 2 ≤ b) {n i : Nat} (h : i < (digs b n).length) : (digs b n)[i]? = some (n / b ^ i % b) := by
  have h1 := val_get (b := b) (by omega) (digs b n) (digs_lt hb n) i
  rw [val_digs hb] at h1
  rw [← h1, List.getElem?_eq_getElem h]; rfl
theorem val_set : ∀ (l : List Nat) (j y : Nat), j < l.length → val b (l.set j y) + b ^ j * l[j]?.getD 0 = val b l + b ^ j * y
  | [], j, y, h => by simp at h
  | x :: l, 0, y, h => by simp [val_cons]; omega
  | x :: l, j + 1, y, h => by
    have ih := val_set l j y (by simpa using h)
    rw [List.set_cons_succ, val_cons, val_cons, Nat.pow_succ, Nat.mul_comm (b ^ j) b, Nat.mul_assoc, Nat.mul_assoc]
    have : (x :: l)[j + 1]?.getD 0 = l[j]?.getD 0 := by simp
    rw [this]
    have h1 : b * (val b (l.set j y) + b ^ j * l[j]?.getD 0) = b * (val b l + b ^ j * y) := by rw [ih]
    rw [Nat.mul_add, Nat.mul_add] at h1
    omega
theorem getD_set (l : List Nat) (i j y : Nat) (h : i < l.length) : (l.set i y)[j]?.getD 0 = if i = j then y else l[j]?.getD 0 := by
  rw [List.getElem?_set]
  by_cases hij : i = j
  · subst hij; simp [h]
  · simp [hij]
theorem take_set_self (l : List Nat) (i y : Nat) : (l.set i y).take i = l.take i := by
  apply List.ext_getElem?
  intro j
  simp only [List.getElem?_take, List.getElem?_set]
  by_cases hj : j < i
  · simp only [hj, if_true]
    rw [if_neg (by omega)]
  · simp only [hj, if_false]
end
theorem Limbs.get {l : List Nat} (h : Limbs l) (j : Nat) : l[j]?.getD 0 < B32 := by
  cases hj : l[j]? with
  | none => decide
  | some x => exact h x (List.mem_of_getElem? hj)
theorem Limbs.set {l : List Nat} (h : Limbs l) (j : Nat) {y : Nat} (hy : y < B32) : Limbs (l.set j y) := fun x hx => by
  rcases List.mem_or_eq_of_mem_set hx with h1 | h1
  · exact h x h1
  · rw [h1]; exact hy
theorem Limbs.digs (n : Nat) : Limbs (digs B32 n) := digs_lt (by decide) n
theorem Limbs.zeros (n : Nat) : Limbs (List.replicate n 0) := fun x hx => by rw [List.eq_of_mem_replicate hx]; decide
theorem val_zeros' (b k : Nat) : val b (List.replicate k 0) = 0 := by
  have := val_zeros (b := b) k []
  simpa using this
theorem OrderI.differL {x y : List Nat} {k p q : Nat} (h : OrderI x y (k + 1)) (hbx : Limbs x) (hp : x[k]?.getD 0 = p) (hq : y[k]?.getD 0 = q) (hlt : p < q) : val B32 x < val B32 y := by
  have hd : val B32 (x.drop (k + 1)) = val B32 (y.drop (k + 1)) := val_congr fun j => by
    rw [List.getElem?_drop, List.getElem?_drop]; exact h.same _ (by omega)
  rw [val_split (l := x) (k := k), val_split (l := y) (k := k), hd, val_take_getD, val_take_getD, hp, hq]
  have h1 : val B32 (x.take k) < B32 ^ k := Nat.lt_of_lt_of_le (val_lt _ (fun z hz => hbx z (List.mem_of_mem_take hz))) (Nat.pow_le_pow_right (by decide) (by rw [List.length_take]; omega))
  have h2 : B32 ^ k * (p + 1) ≤ B32 ^ k * q := Nat.mul_le_mul_left _ hlt
  rw [Nat.mul_add] at h2
  omega
theorem OrderI.allSame {x y : List Nat} (h : OrderI x y 0) : val B32 x = val B32 y := val_congr fun j => h.same j (Nat.zero_le _)

/-- a number at a greater exponent, limb by limb -/
structure WidI (a : List Nat) (k i : Nat) (l : List Nat) : Prop where
  len : l.length = 74
  limbs : Limbs l
  sum : val B32 l = 2 ^ k * val B32 (a.take i)
  top : l[i + k / 32]?.getD 0 < 2 ^ (k % 32)
  zero : ∀ j, i + k / 32 < j → l[j]?.getD 0 = 0
theorem WidI.begin (a : List Nat) (k : Nat) : WidI a k 0 (List.replicate 74 0) :=
  ⟨by simp, Limbs.zeros _, by rw [val_zeros']; simp, by
    have : (List.replicate 74 0)[0 + k / 32]?.getD 0 = 0 := by
      rw [List.getElem?_replicate]; split <;> rfl
    rw [this]; exact Nat.two_pow_pos _, fun j _ => by rw [List.getElem?_replicate]; split <;> rfl⟩
theorem or_low {c r y : Nat} (h : c < 2 ^ r) : c ||| 2 ^ r * y = c + 2 ^ r * y := by
  rw [Nat.or_comm, ← Nat.two_pow_add_eq_or_of_lt h, Nat.add_comm]
theorem shl_low {x r : Nat} (hr : r ≤ 32) : x * 2 ^ r % B32 = 2 ^ r * (x % 2 ^ (32 - r)) := by
  rw [Nat.mul_comm x, show B32 = 2 ^ r * 2 ^ (32 - r) by rw [← Nat.pow_add, Nat.add_sub_cancel' hr], Nat.mul_mod_mul_left]
theorem WidI.next {a l : List Nat} {k i x c lo hi : Nat} (h : WidI a k i l) (hx : a[i]? = some x) (hlt : x < B32) (hi74 : i + k / 32 + 1 < 74) (hc : l[i + k / 32]?.getD 0 = c) (hlo : x * 2 ^ (k % 32) % B32 = lo) (hhi : x * 2 ^ (k % 32) / B32 = hi) :
    WidI a k (i + 1) ((l.set (i + k / 32) (c ||| lo)).set (i + k / 32 + 1) hi) ∧ c ||| lo < B32 ∧ hi < B32 := by
  have hr : k % 32 ≤ 32 := by omega
  have htop := h.top
  rw [hc] at htop
  rw [shl_low hr] at hlo
  have hcl : c ||| lo = c + lo := by rw [← hlo]; exact or_low htop
  have hp : 2 ^ (k % 32) * 2 ^ (32 - k % 32) = B32 := by rw [← Nat.pow_add, Nat.add_sub_cancel' hr]
  have hcb : c + lo < B32 := by
    have h1 : x % 2 ^ (32 - k % 32) + 1 ≤ 2 ^ (32 - k % 32) := Nat.mod_lt _ (Nat.two_pow_pos _)
    have h2 := Nat.mul_le_mul_left (2 ^ (k % 32)) h1
    rw [Nat.mul_add, hlo, hp] at h2
    omega
  have hhb : hi < 2 ^ (k % 32) := by
    rw [← hhi]
    exact Nat.div_lt_of_lt_mul (Nat.mul_lt_mul_of_pos_right hlt (Nat.two_pow_pos _))
  have hrb : 2 ^ (k % 32) ≤ B32 := by
    have := Nat.mul_le_mul_left (2 ^ (k % 32)) (Nat.two_pow_pos (32 - k % 32))
    omega
  have hhb2 : hi < B32 := by omega
  have hz := h.zero (i + k / 32 + 1) (by omega)
  have hlen := h.len
  rw [hcl]
  refine ⟨⟨by simp [h.len], (h.limbs.set _ hcb).set _ hhb2, ?_, ?_, fun j hj => ?_⟩, hcb, hhb2⟩
  · have e1 := val_set (b := B32) l (i + k / 32) (c + lo) (by omega)
    have e2 := val_set (b := B32) (l.set (i + k / 32) (c + lo)) (i + k / 32 + 1) hi (by simp; omega)
    rw [getD_set _ _ _ _ (by omega), if_neg (by omega), hz] at e2
    rw [hc] at e1
    have hsum := h.sum
    rw [val_take_succ hx, Nat.mul_add, ← hsum]
    have hd := Nat.mod_add_div (x * 2 ^ (k % 32)) B32
    rw [hhi, shl_low hr, hlo] at hd
    have e3 : 2 ^ k * (B32 ^ i * x) = B32 ^ (i + k / 32) * lo + B32 ^ (i + k / 32 + 1) * hi := by
      rw [Nat.pow_succ B32 (i + k / 32), Nat.mul_assoc (B32 ^ (i + k / 32)), ← Nat.mul_add, hd, Nat.pow_add, B32_pow (k / 32)]
      have : 2 ^ k = 2 ^ (32 * (k / 32)) * 2 ^ (k % 32) := by rw [← Nat.pow_add, Nat.div_add_mod]
      rw [this]
      simp only [Nat.mul_assoc, Nat.mul_comm, Nat.mul_left_comm]
    rw [e3]
    rw [Nat.mul_add] at e1
    omega
  · rw [show i + 1 + k / 32 = i + k / 32 + 1 by omega, getD_set _ _ _ _ (by simp; omega), if_pos rfl]
    exact hhb
  · rw [getD_set _ _ _ _ (by simp; omega), if_neg (by omega), getD_set _ _ _ _ (by omega), if_neg (by omega)]
    exact h.zero j (by omega)
theorem WidI.done {a l : List Nat} {k : Nat} (h : WidI a k a.length l) : val B32 l = 2 ^ k * val B32 a := by rw [h.sum, List.take_length]

/-- a sum, limb by limb -/
structure SumI (w x : List Nat) (i c : Nat) (o : List Nat) : Prop where
  len : o.length = 74
  limbs : Limbs o
  rest : ∀ j, i ≤ j → o[j]?.getD 0 = w[j]?.getD 0
  sum : val B32 (o.take i) + B32 ^ i * c = val B32 (w.take i) + val B32 (x.take i)
  carry : c ≤ 1
theorem SumI.begin {w x : List Nat} (h : w.length = 74) (hl : Limbs w) : SumI w x 0 0 w := ⟨h, hl, fun _ _ => rfl, by simp, by omega⟩
theorem SumI.next {w x o : List Nat} {i c p q s t : Nat} (h : SumI w x i c o) (hx : Limbs x) (hp : w[i]?.getD 0 = p) (hq : x[i]?.getD 0 = q) (hi : i < 74) (hs : (p + q + c) % B32 = s) (ht : (p + q + c) / B32 = t) : SumI w x (i + 1) t (o.set i s) := by
  have hpl : p < B32 := by rw [← hp, ← h.rest i (Nat.le_refl _)]; exact h.limbs.get i
  have hql : q < B32 := by rw [← hq]; exact hx.get i
  have hc := h.carry
  have hsl : s < B32 := by rw [← hs]; exact Nat.mod_lt _ (by decide)
  have hlen := h.len
  refine ⟨by simp [h.len], h.limbs.set _ hsl, fun j hj => by rw [getD_set _ _ _ _ (by omega), if_neg (by omega)]; exact h.rest j (by omega), ?_, by rw [← ht]; exact Nat.le_of_lt_succ (Nat.div_lt_of_lt_mul (by omega))⟩
  rw [val_take_getD, val_take_getD, val_take_getD, take_set_self, getD_set _ _ _ _ (by omega), if_pos rfl, hp, hq]
  have hsum := h.sum
  have hd := Nat.mod_add_div (p + q + c) B32
  rw [hs, ht] at hd
  have e : B32 ^ i * s + B32 ^ (i + 1) * t = B32 ^ i * p + B32 ^ i * q + B32 ^ i * c := by
    rw [Nat.pow_succ, Nat.mul_assoc, ← Nat.mul_add, hd, Nat.mul_add, Nat.mul_add]
  omega
theorem SumI.done {w x o : List Nat} {c : Nat} (h : SumI w x 74 c o) (hw : w.length = 74) (hx : x.length = 74) (hb : val B32 w + val B32 x < B32 ^ 74) : val B32 o = val B32 w + val B32 x := by
  have hs := h.sum
  rw [List.take_of_length_le (by rw [h.len]; omega), List.take_of_length_le (by omega), List.take_of_length_le (by omega)] at hs
  have hc : c = 0 := by
    rcases Nat.eq_zero_or_pos c with h0 | h0
    · exact h0
    · exfalso
      have := Nat.mul_le_mul_left (B32 ^ 74) h0
      generalize B32 ^ 74 = P at *
      omega
  rw [hc, Nat.mul_zero] at hs
  omega
/-- a difference, limb by limb -/
structure SubI (w x : List Nat) (i c : Nat) (o : List Nat) : Prop where
  len : o.length = 74
  limbs : Limbs o
  rest : ∀ j, i ≤ j → o[j]?.getD 0 = w[j]?.getD 0
  sum : val B32 (o.take i) + val B32 (x.take i) = val B32 (w.take i) + B32 ^ i * c
  carry : c ≤ 1
theorem SubI.begin {w x : List Nat} (h : w.length = 74) (hl : Limbs w) : SubI w x 0 0 w := ⟨h, hl, fun _ _ => rfl, by simp, by omega⟩
theorem SubI.next {w x o : List Nat} {i c p q s t : Nat} (h : SubI w x i c o) (hp : w[i]?.getD 0 = p) (hq : x[i]?.getD 0 = q) (hi : i < 74) (hs : s < B32) (ht : t ≤ 1) (hst : s + q + c = p + B32 * t) : SubI w x (i + 1) t (o.set i s) := by
  have hlen := h.len
  refine ⟨by simp [h.len], h.limbs.set _ hs, fun j hj => by rw [getD_set _ _ _ _ (by omega), if_neg (by omega)]; exact h.rest j (by omega), ?_, ht⟩
  rw [val_take_getD, val_take_getD, val_take_getD, take_set_self, getD_set _ _ _ _ (by omega), if_pos rfl, hp, hq]
  have hsum := h.sum
  have e : B32 ^ i * s + B32 ^ i * q + B32 ^ i * c = B32 ^ i * p + B32 ^ (i + 1) * t := by
    rw [Nat.pow_succ, Nat.mul_assoc, ← Nat.mul_add, ← Nat.mul_add, hst, Nat.mul_add]
  omega
theorem SubI.done {w x o : List Nat} {c : Nat} (h : SubI w x 74 c o) (hw : w.length = 74) (hx : x.length = 74) (hb : val B32 x ≤ val B32 w) : val B32 o = val B32 w - val B32 x := by
  have hs := h.sum
  have ho := val_lt o h.limbs
  rw [h.len] at ho
  rw [List.take_of_length_le (by rw [h.len]; omega), List.take_of_length_le (by omega), List.take_of_length_le (by omega)] at hs
  have hc : c = 0 := by
    rcases Nat.eq_zero_or_pos c with h0 | h0
    · exact h0
    · exfalso
      have := Nat.mul_le_mul_left (B32 ^ 74) h0
      generalize B32 ^ 74 = P at *
      omega
  rw [hc, Nat.mul_zero] at hs
  omega

/-- the lowest and the highest digit, limb by limb -/
structure ScanI (l : List Nat) (i low high : Nat) : Prop where
  low : low = if val B32 (l.take i) = 0 then 0 else tz (val B32 (l.take i))
  high : high = bl (val B32 (l.take i))
theorem ScanI.begin (l : List Nat) : ScanI l 0 0 0 := ⟨by simp, by simp [bl_zero]⟩
theorem take_lt {l : List Nat} (h : Limbs l) (i : Nat) : val B32 (l.take i) < 2 ^ (32 * i) := by
  rw [← B32_pow]
  exact Nat.lt_of_lt_of_le (val_lt _ (fun z hz => h z (List.mem_of_mem_take hz))) (Nat.pow_le_pow_right (by decide) (by rw [List.length_take]; omega))
theorem ScanI.zero {l : List Nat} {i low high : Nat} (h : ScanI l i low high) (hx : l[i]?.getD 0 = 0) : ScanI l (i + 1) low high := by
  have e : val B32 (l.take (i + 1)) = val B32 (l.take i) := by rw [val_take_getD, hx]; simp
  exact ⟨by rw [e]; exact h.low, by rw [e]; exact h.high⟩
theorem ScanI.first {l : List Nat} {i low high x : Nat} (h : ScanI l i low high) (h0 : high = 0) (hx : l[i]?.getD 0 = x) (hx0 : x ≠ 0) : ScanI l (i + 1) (32 * i + tz x) (32 * i + bl x) := by
  have hm : val B32 (l.take i) = 0 := by
    rcases Nat.eq_zero_or_pos (val B32 (l.take i)) with h1 | h1
    · exact h1
    · exact absurd (h.high.symm.trans h0) (bl_ne (by omega))
  have e : val B32 (l.take (i + 1)) = 2 ^ (32 * i) * x := by rw [val_take_getD, hx, hm, B32_pow]; simp
  have e0 : 2 ^ (32 * i) * x ≠ 0 := Nat.mul_ne_zero (Nat.pos_iff_ne_zero.1 (Nat.two_pow_pos _)) hx0
  refine ⟨by rw [e, if_neg e0, tz_mul _ hx0], ?_⟩
  have := bl_add (m := 0) (j := 32 * i) (Nat.two_pow_pos _) hx0
  rw [Nat.zero_add] at this
  rw [e, this]
theorem ScanI.more {l : List Nat} {i low high x : Nat} (h : ScanI l i low high) (hl : Limbs l) (h0 : high ≠ 0) (hx : l[i]?.getD 0 = x) (hx0 : x ≠ 0) : ScanI l (i + 1) low (32 * i + bl x) := by
  have hm : val B32 (l.take i) ≠ 0 := fun h1 => h0 (by rw [h.high, h1, bl_zero])
  have e : val B32 (l.take (i + 1)) = val B32 (l.take i) + 2 ^ (32 * i) * x := by rw [val_take_getD, hx, B32_pow]
  have hlow := h.low
  rw [if_neg hm] at hlow
  refine ⟨?_, ?_⟩
  · rw [e, if_neg (by omega), tz_add hm (take_lt hl i)]; exact hlow
  · rw [e, bl_add (take_lt hl i) hx0]
theorem ScanI.done {l : List Nat} {low high : Nat} (h : ScanI l l.length low high) : high = bl (val B32 l) ∧ (val B32 l ≠ 0 → low = tz (val B32 l)) := by
  have h1 := h.low
  have h2 := h.high
  rw [List.take_length] at h1 h2
  exact ⟨h2, fun h => by rw [h1, if_neg h]⟩
theorem formD_scan {neg : Bool} {e n low : Nat} (h0 : n ≠ 0) (hlow : low = min (tz n) e) :
    formD neg e n = if 1280 < bl n - low ∨ 1024 < e - low then (PDyad.zero, 10) else (⟨neg, digs B32 (n / 2 ^ low), ((e - low : Nat) : Int)⟩, 0) := by
  rw [formD_tz neg e n h0, ← hlow]
  unfold finD
  have h : 40 < (digs B32 (n / 2 ^ low)).length ↔ 1280 < bl n - low := by rw [d32_len, bl_div]; omega
  by_cases h1 : 1280 < bl n - low ∨ 1024 < e - low
  · rw [if_pos h1, if_pos (by rw [h]; exact h1)]
  · rw [if_neg h1, if_neg (by rw [h]; exact h1)]
theorem at_val (N i k : Nat) : (N / B32 ^ (i + k / 32 + 1) % B32 * B32 + N / B32 ^ (i + k / 32) % B32) / 2 ^ (k % 32) % B32 = N / 2 ^ k / B32 ^ i % B32 := by
  have e1 : N / B32 ^ (i + k / 32 + 1) = N / B32 ^ (i + k / 32) / B32 := by rw [Nat.pow_succ, Nat.div_div_eq_div_mul]
  rw [e1]
  have e2 : N / 2 ^ k / B32 ^ i = N / B32 ^ (i + k / 32) / 2 ^ (k % 32) := by
    rw [Nat.div_div_eq_div_mul, Nat.div_div_eq_div_mul]
    congr 1
    have : 2 ^ k = 2 ^ (32 * (k / 32)) * 2 ^ (k % 32) := by rw [← Nat.pow_add, Nat.div_add_mod]
    rw [this, Nat.pow_add, B32_pow (k / 32)]
    simp only [Nat.mul_assoc, Nat.mul_comm]
  rw [e2]
  generalize N / B32 ^ (i + k / 32) = M
  have hr : k % 32 ≤ 32 := by omega
  have e3 : M / B32 % B32 * B32 + M % B32 = M % (B32 * B32) := by rw [Nat.mod_mul, Nat.mul_comm (M / B32 % B32) B32, Nat.add_comm]
  have e4 : B32 * B32 = 2 ^ (k % 32) * (2 ^ (32 - k % 32) * B32) := by
    rw [← Nat.mul_assoc, ← Nat.pow_add, Nat.add_sub_cancel' hr]
  rw [e3, e4, Nat.mod_mul_right_div_self, Nat.mod_mul_left_mod]
end Go.Hx
