/- Parts of a proof, joined: JoinP, AllP. -/
import Derived.Test.YtgcbnagfdfgpnaaDoorData
section
namespace Go.Hx
open Go.RowKit
def PMeeting.turn (x : PMeeting) : PMeeting := ⟨x.asked, x.asks⟩
def meetOk (n : Int) (x : PMeeting) : Bool := decide (0 ≤ x.asks ∧ 0 ≤ x.asked ∧ x.asks < n ∧ x.asked < n ∧ x.asks ≠ x.asked)
/-- the error of so many nodes, and meetings -/
def askedP (n : Int) (l : List PMeeting) : Int := if n < 2 ∨ 8 < n then 2 else if 64 < l.length then 4 else if l.all (meetOk n) then 0 else 2
/-- groups of nodes, and how many there are -/
structure PJ where
  g : List Nat
  cnt : Int
def gv (g : List Nat) (i : Nat) : Nat := g[i]?.getD 0
def initJ (n : Nat) : PJ := ⟨List.range n, n⟩
def stepJ (s : PJ) (x : PMeeting) : PJ := ⟨s.g.map fun v => if v = gv s.g x.asks.toNat then gv s.g x.asked.toNat else v, if gv s.g x.asks.toNat = gv s.g x.asked.toNat then s.cnt else s.cnt - 1⟩
def foldJ (s : PJ) (l : List PMeeting) : PJ := l.foldl stepJ s
def rstep (n : Nat) (a : Nat × PJ) (x : PMeeting) : Nat × PJ := if (stepJ a.2 x).cnt = 1 then (a.1 + 1, initJ n) else (a.1, stepJ a.2 x)
def rfold (n : Nat) (a : Nat × PJ) (l : List PMeeting) : Nat × PJ := l.foldl (rstep n) a
def joinsP (n : Int) (l : List PMeeting) : Bool × Int := if askedP n l = 0 then (decide ((foldJ (initJ n.toNat) l).cnt = 1), 0) else (false, askedP n l)
def roundsP (n : Int) (l : List PMeeting) : Int × Int := if askedP n l = 0 then ((rfold n.toNat (0, initJ n.toNat) l).1, 0) else (0, askedP n l)

theorem gv_map {g : List Nat} {f : Nat → Nat} {i : Nat} (h : i < g.length) : gv (g.map f) i = f (gv g i) := by
  unfold gv
  rw [List.getElem?_map, List.getElem?_eq_getElem h]; rfl
theorem gv_mem {g : List Nat} {i : Nat} (h : i < g.length) : gv g i ∈ g := by
  unfold gv
  rw [List.getElem?_eq_getElem h]; exact List.getElem_mem h
theorem step_len (s : PJ) (x : PMeeting) : (stepJ s x).g.length = s.g.length := by simp [stepJ]
/-- who is together behind a meeting -/
theorem step_rel {s : PJ} {x : PMeeting} {i j : Nat} (hi : i < s.g.length) (hj : j < s.g.length) : gv (stepJ s x).g i = gv (stepJ s x).g j ↔ (gv s.g i = gv s.g j ∨ ((gv s.g i = gv s.g x.asks.toNat ∨ gv s.g i = gv s.g x.asked.toNat) ∧ (gv s.g j = gv s.g x.asks.toNat ∨ gv s.g j = gv s.g x.asked.toNat))) := by
  show gv (s.g.map _) i = gv (s.g.map _) j ↔ _
  rw [gv_map hi, gv_map hj]
  generalize gv s.g i = a
  generalize gv s.g j = b
  generalize gv s.g x.asks.toNat = p
  generalize gv s.g x.asked.toNat = q
  split <;> split <;> omega
structure Sim (n : Nat) (s t : PJ) : Prop where
  l1 : s.g.length = n
  l2 : t.g.length = n
  cnt : s.cnt = t.cnt
  rel : ∀ i j, i < n → j < n → (gv s.g i = gv s.g j ↔ gv t.g i = gv t.g j)
theorem meetOk_nat {n : Nat} {x : PMeeting} (h : meetOk n x = true) : x.asks.toNat < n ∧ x.asked.toNat < n ∧ ((x.asks.toNat : Nat) : Int) = x.asks ∧ ((x.asked.toNat : Nat) : Int) = x.asked ∧ x.asks.toNat ≠ x.asked.toNat := by
  unfold meetOk at h
  have := of_decide_eq_true h
  omega
theorem Sim.step {n : Nat} {s t : PJ} (h : Sim n s t) {x : PMeeting} (hx : meetOk n x = true) : Sim n (stepJ s x) (stepJ t x.turn) := by
  obtain ⟨ha, hb, _⟩ := meetOk_nat hx
  refine ⟨by rw [step_len, h.l1], by rw [step_len, h.l2], ?_, fun i j hi hj => ?_⟩
  · have e := h.rel _ _ ha hb
    unfold stepJ
    show (if _ then _ else _) = (if gv t.g x.asked.toNat = gv t.g x.asks.toNat then _ else _)
    by_cases h1 : gv s.g x.asks.toNat = gv s.g x.asked.toNat
    · rw [if_pos h1, if_pos (e.1 h1).symm]; exact h.cnt
    · rw [if_neg h1, if_neg (fun h2 => h1 (e.2 h2.symm)), h.cnt]
  · rw [step_rel (by rw [h.l1]; exact hi) (by rw [h.l1]; exact hj), step_rel (by rw [h.l2]; exact hi) (by rw [h.l2]; exact hj)]
    show _ ↔ (_ ∨ ((_ = gv t.g x.asked.toNat ∨ _ = gv t.g x.asks.toNat) ∧ (_ = gv t.g x.asked.toNat ∨ _ = gv t.g x.asks.toNat)))
    rw [h.rel i j hi hj, h.rel i _ hi ha, h.rel i _ hi hb, h.rel j _ hj ha, h.rel j _ hj hb]
    constructor
    · rintro (h1 | ⟨h1, h2⟩)
      · exact .inl h1
      · exact .inr ⟨h1.symm, h2.symm⟩
    · rintro (h1 | ⟨h1, h2⟩)
      · exact .inl h1
      · exact .inr ⟨h1.symm, h2.symm⟩
theorem Sim.refl {n : Nat} {s : PJ} (h : s.g.length = n) : Sim n s s := ⟨h, h, rfl, fun _ _ _ _ => Iff.rfl⟩
theorem init_len (n : Nat) : (initJ n).g.length = n := by simp [initJ]
theorem rfold_turn {n : Nat} : ∀ (l : List PMeeting) (r : Nat) (s t : PJ), Sim n s t → (∀ x ∈ l, meetOk n x = true) → (rfold n (r, s) l).1 = (rfold n (r, t) (l.map PMeeting.turn)).1
  | [], _, _, _, _, _ => rfl
  | x :: l, r, s, t, h, hl => by
    have h1 := h.step (hl x (List.mem_cons_self ..))
    have hl' : ∀ y ∈ l, meetOk n y = true := fun y hy => hl y (List.mem_cons_of_mem _ hy)
    show (rfold n (rstep n (r, s) x) l).1 = (rfold n (rstep n (r, t) x.turn) (l.map PMeeting.turn)).1
    unfold rstep
    dsimp only
    by_cases hc : (stepJ s x).cnt = 1
    · rw [if_pos hc, if_pos (by rw [← h1.cnt]; exact hc)]
      exact rfold_turn l _ _ _ (Sim.refl (init_len n)) hl'
    · rw [if_neg hc, if_neg (by rw [← h1.cnt]; exact hc)]
      exact rfold_turn l _ _ _ h1 hl'
theorem step_cnt (s : PJ) (x : PMeeting) : (stepJ s x).cnt = s.cnt ∨ (stepJ s x).cnt = s.cnt - 1 := by
  unfold stepJ
  dsimp only
  split
  · exact .inl rfl
  · exact .inr rfl
theorem rfold_bound {n : Nat} : ∀ (l : List PMeeting) (r : Nat) (s : PJ) (k : Int), s.cnt ≤ n → (r : Int) * (n - 1) + (n - s.cnt) ≤ k → (((rfold n (r, s) l).1 : Nat) : Int) * (n - 1) ≤ k + l.length
  | [], r, s, k, hc, h => by show (r : Int) * (n - 1) ≤ k + 0; omega
  | x :: l, r, s, k, hc, h => by
    show (((rfold n (rstep n (r, s) x) l).1 : Nat) : Int) * (n - 1) ≤ k + ((l.length + 1 : Nat) : Int)
    have hs := step_cnt s x
    unfold rstep
    dsimp only
    by_cases h1 : (stepJ s x).cnt = 1
    · rw [if_pos h1]
      have := rfold_bound l (r + 1) (initJ n) (k + 1) (Int.le_refl _) (by
        show ((r + 1 : Nat) : Int) * (n - 1) + (n - (n : Int)) ≤ k + 1
        have e : ((r + 1 : Nat) : Int) * ((n : Int) - 1) = (r : Int) * (n - 1) + (n - 1) := by push_cast; rw [Int.add_mul]; omega
        omega)
      omega
    · rw [if_neg h1]
      have := rfold_bound (n := n) l r (stepJ s x) (k + 1) (by omega) (by omega)
      omega
theorem rfold_ge {n : Nat} : ∀ (l : List PMeeting) (r : Nat) (s : PJ), r ≤ (rfold n (r, s) l).1
  | [], r, s => Nat.le_refl _
  | x :: l, r, s => by
    show r ≤ (rfold n (rstep n (r, s) x) l).1
    unfold rstep
    dsimp only
    split
    · exact Nat.le_trans (Nat.le_succ r) (rfold_ge l (r + 1) _)
    · exact rfold_ge l r _
theorem rfold_one {n : Nat} (l : List PMeeting) (a : Nat × PJ) (x : PMeeting) : (rfold n a (l ++ [x])).1 = (rfold n a l).1 ∨ (rfold n a (l ++ [x])).1 = (rfold n a l).1 + 1 := by
  unfold rfold
  rw [List.foldl_append]
  show (rstep n (l.foldl (rstep n) a) x).1 = _ ∨ (rstep n (l.foldl (rstep n) a) x).1 = _
  unfold rstep
  split
  · exact .inr rfl
  · exact .inl rfl
/-- how many groups there are -/
structure Inv (n : Nat) (s : PJ) : Prop where
  len : s.g.length = n
  low : ∀ v ∈ s.g, v < n
  cnt : s.cnt = (((List.range n).countP fun v => decide (v ∈ s.g) : Nat) : Int)
theorem Inv.init (n : Nat) : Inv n (initJ n) :=
  ⟨init_len n, fun v hv => by simpa [initJ] using hv, by
    show (n : Int) = _
    have : ((List.range n).countP fun v => decide (v ∈ (initJ n).g)) = n := by
      rw [List.countP_eq_length.2 (fun v hv => by simpa [initJ] using hv), List.length_range]
    rw [this]⟩
theorem countP_drop {p q : Nat → Bool} {a : Nat} (hpq : ∀ v, q v = (p v && decide (v ≠ a))) (hp : p a = true) : ∀ l : List Nat, l.Nodup → a ∈ l → l.countP p = l.countP q + 1
  | [], _, h => by cases h
  | x :: l, hn, h => by
    obtain ⟨hx, hn'⟩ := List.nodup_cons.1 hn
    by_cases hxa : x = a
    · subst hxa
      have e : l.countP p = l.countP q := List.countP_congr fun v hv => by
        have : v ≠ x := fun h => hx (h ▸ hv)
        rw [hpq v]; simp [this]
      have hqx : q x = false := by rw [hpq x]; simp
      rw [List.countP_cons_of_pos hp, List.countP_cons_of_neg (by simp [hqx]), e]
    · have ih := countP_drop hpq hp l hn' ((List.mem_cons.1 h).resolve_left (fun h => hxa h.symm))
      have e : q x = p x := by rw [hpq x]; simp [hxa]
      rw [List.countP_cons, List.countP_cons, e, ih]
      omega
theorem Inv.step {n : Nat} {s : PJ} (h : Inv n s) {x : PMeeting} (hx : meetOk n x = true) : Inv n (stepJ s x) := by
  obtain ⟨ha, hb, _⟩ := meetOk_nat hx
  have ma := gv_mem (g := s.g) (by rw [h.len]; exact ha)
  have mb := gv_mem (g := s.g) (by rw [h.len]; exact hb)
  refine ⟨by rw [step_len, h.len], fun v hv => ?_, ?_⟩
  · obtain ⟨u, hu, rfl⟩ := List.mem_map.1 hv
    split
    · exact h.low _ mb
    · exact h.low _ hu
  · unfold stepJ
    dsimp only
    by_cases hab : gv s.g x.asks.toNat = gv s.g x.asked.toNat
    · rw [if_pos hab, h.cnt]
      have : s.g.map (fun v => if v = gv s.g x.asks.toNat then gv s.g x.asked.toNat else v) = s.g := by
        rw [hab]
        conv => rhs; rw [← List.map_id s.g]
        apply List.map_congr_left
        intro v _
        show (if v = _ then _ else v) = v
        split
        · rename_i h1; exact h1.symm
        · rfl
      rw [this]
    · rw [if_neg hab, h.cnt]
      have := countP_drop (p := fun v => decide (v ∈ s.g)) (q := fun v => decide (v ∈ s.g.map (fun v => if v = gv s.g x.asks.toNat then gv s.g x.asked.toNat else v))) (a := gv s.g x.asks.toNat) (fun v => by
        rw [Bool.eq_iff_iff]
        simp only [decide_eq_true_eq, Bool.and_eq_true, List.mem_map, ne_eq]
        constructor
        · rintro ⟨u, hu, rfl⟩
          split
          · exact ⟨mb, fun h => hab h.symm⟩
          · rename_i h1; exact ⟨hu, h1⟩
        · rintro ⟨h1, h2⟩
          exact ⟨v, h1, if_neg h2⟩) (by simpa using ma) (List.range n) List.nodup_range (List.mem_range.2 (h.low _ ma))
      omega
theorem Inv.one {n : Nat} {s : PJ} (h : Inv n s) (h1 : s.cnt = 1) {x : PMeeting} (hx : meetOk n x = true) : (stepJ s x).cnt = 1 := by
  have h2 := (h.step hx).cnt
  rcases step_cnt s x with h3 | h3
  · rw [h3, h1]
  · exfalso
    obtain ⟨ha, hb, _⟩ := meetOk_nat hx
    have h4 := (h.step hx)
    have m := gv_mem (g := (stepJ s x).g) (i := x.asks.toNat) (by rw [h4.len]; exact ha)
    have hp : 0 < (List.range n).countP fun v => decide (v ∈ (stepJ s x).g) := List.countP_pos_iff.2 ⟨_, List.mem_range.2 (h4.low _ m), by simpa using m⟩
    omega
theorem fold_stays {n : Nat} : ∀ (l : List PMeeting) (s : PJ), Inv n s → s.cnt = 1 → (∀ x ∈ l, meetOk n x = true) → (foldJ s l).cnt = 1
  | [], _, _, h, _ => h
  | x :: l, s, hi, h, hl => fold_stays l (stepJ s x) (hi.step (hl x (List.mem_cons_self ..))) (hi.one h (hl x (List.mem_cons_self ..))) (fun y hy => hl y (List.mem_cons_of_mem _ hy))
theorem joins_rounds {n : Nat} : ∀ (l : List PMeeting) (s : PJ), Inv n s → s.cnt ≠ 1 → (∀ x ∈ l, meetOk n x = true) → (0 < (rfold n (0, s) l).1 ↔ (foldJ s l).cnt = 1)
  | [], s, _, h, _ => ⟨fun h1 => absurd h1 (Nat.lt_irrefl 0), fun h1 => absurd h1 h⟩
  | x :: l, s, hi, h, hl => by
    have hx := hl x (List.mem_cons_self ..)
    have hl' : ∀ y ∈ l, meetOk n y = true := fun y hy => hl y (List.mem_cons_of_mem _ hy)
    show 0 < (rfold n (rstep n (0, s) x) l).1 ↔ (foldJ (stepJ s x) l).cnt = 1
    unfold rstep
    dsimp only
    by_cases hc : (stepJ s x).cnt = 1
    · rw [if_pos hc]
      exact ⟨fun _ => fold_stays l _ (hi.step hx) hc hl', fun _ => rfold_ge l 1 _⟩
    · rw [if_neg hc]
      exact joins_rounds l _ (hi.step hx) hc hl'
theorem asked_ok {n : Int} {l : List PMeeting} (h : askedP n l = 0) : 2 ≤ n ∧ n ≤ 8 ∧ l.length ≤ 64 ∧ ∀ x ∈ l, meetOk n x = true := by
  unfold askedP at h
  split at h
  · cases h
  · split at h
    · cases h
    · split at h
      · rename_i h1 h2 h3
        exact ⟨by omega, by omega, by omega, List.all_eq_true.1 h3⟩
      · cases h
theorem asked_of {n : Int} {l : List PMeeting} (h2 : 2 ≤ n) (h8 : n ≤ 8) (hl : l.length ≤ 64) (hx : ∀ x ∈ l, meetOk n x = true) : askedP n l = 0 := by
  unfold askedP
  rw [if_neg (by omega), if_neg (by omega), if_pos (List.all_eq_true.2 hx)]
theorem asked_turn (n : Int) (l : List PMeeting) : askedP n (l.map PMeeting.turn) = askedP n l := by
  unfold askedP
  rw [List.length_map, List.all_map]
  have : (meetOk n ∘ PMeeting.turn) = meetOk n := by
    funext x
    unfold meetOk PMeeting.turn
    simp only [Function.comp]
    rw [decide_eq_decide]
    constructor <;> (rintro ⟨h1, h2, h3, h4, h5⟩; exact ⟨h2, h1, h4, h3, Ne.symm h5⟩)
  rw [this]
theorem rounds_turn (n : Int) (l : List PMeeting) : roundsP n (l.map PMeeting.turn) = roundsP n l := by
  unfold roundsP
  rw [asked_turn]
  split
  · rename_i h
    obtain ⟨h2, h8, _, hx⟩ := asked_ok h
    obtain ⟨N, rfl⟩ : ∃ N : Nat, n = (N : Int) := ⟨n.toNat, by omega⟩
    rw [Int.toNat_natCast, ← rfold_turn l 0 _ _ (Sim.refl (init_len N)) hx]
  · rfl
end Go.Hx
end
section
namespace Go.Hx
open Go.RowKit
def bv (t : List Bool) (i : Nat) : Bool := t[i]?.getD false
def stepA (t : List Bool) (x : PMeeting) : List Bool := if bv t x.asks.toNat || bv t x.asked.toNat then (t.set x.asks.toNat true).set x.asked.toNat true else t
def passA (m : List PMeeting) (t : List Bool) : List Bool := m.foldl stepA t
def iterA (m : List PMeeting) : Nat → List Bool → List Bool
  | 0, t => t
  | k + 1, t => passA m (iterA m k t)
def initA (n : Nat) : List Bool := (List.replicate n false).set 0 true
def allP (n : Nat) (m : List PMeeting) : Bool := (iterA m n (initA n)).all id
def cntT (t : List Bool) : Nat := t.countP id

theorem bv_set {t : List Bool} {i j : Nat} (hi : i < t.length) : bv (t.set i true) j = if j = i then true else bv t j := by
  unfold bv
  rw [List.getElem?_set]
  by_cases h : i = j
  · subst h; rw [if_pos rfl, if_pos hi, if_pos rfl]; rfl
  · rw [if_neg h, if_neg (fun e => h e.symm)]
theorem set_noop {t : List Bool} {i : Nat} (h : bv t i = true) : t.set i true = t := by
  apply List.ext_getElem?
  intro j
  rw [List.getElem?_set]
  by_cases e : i = j
  · subst e
    unfold bv at h
    cases hx : t[i]? with
    | none => rw [hx] at h; cases h
    | some b =>
      rw [hx] at h
      have hb : b = true := h
      have hlt := (List.getElem?_eq_some_iff.1 hx).1
      rw [if_pos rfl, if_pos hlt, hb]
  · rw [if_neg e]
theorem set_cnt : ∀ {t : List Bool} {i : Nat}, i < t.length → bv t i = false → cntT (t.set i true) = cntT t + 1
  | [], _, h, _ => absurd h (Nat.not_lt_zero _)
  | b :: t, 0, _, hb => by
    have : b = false := hb
    subst this
    show List.countP id (true :: t) = List.countP id (false :: t) + 1
    simp
  | b :: t, i + 1, h, hb => by
    have ih := set_cnt (t := t) (i := i) (by simpa using h) hb
    unfold cntT at *
    rw [List.set_cons_succ, List.countP_cons, List.countP_cons, ih]
    omega
theorem set_grow {t : List Bool} {i : Nat} (hi : i < t.length) : t.set i true = t ∨ cntT t < cntT (t.set i true) := by
  cases h : bv t i with
  | true => exact .inl (set_noop h)
  | false => exact .inr (by rw [set_cnt hi h]; omega)
theorem set_le {t : List Bool} {i : Nat} (hi : i < t.length) : cntT t ≤ cntT (t.set i true) := by
  rcases set_grow hi with h | h
  · rw [h]; exact Nat.le_refl _
  · omega
theorem stepA_len (t : List Bool) (x : PMeeting) : (stepA t x).length = t.length := by
  unfold stepA; split <;> simp
theorem passA_len : ∀ (m : List PMeeting) (t : List Bool), (passA m t).length = t.length
  | [], _ => rfl
  | x :: m, t => by show (passA m (stepA t x)).length = _; rw [passA_len m, stepA_len]
theorem iterA_len (m : List PMeeting) : ∀ (k : Nat) (t : List Bool), (iterA m k t).length = t.length
  | 0, _ => rfl
  | k + 1, t => by show (passA m (iterA m k t)).length = _; rw [passA_len, iterA_len m k]
theorem initA_len (n : Nat) : (initA n).length = n := by simp [initA]
theorem stepA_grow {n : Nat} {t : List Bool} {x : PMeeting} (ht : t.length = n) (hx : meetOk n x = true) : stepA t x = t ∨ cntT t < cntT (stepA t x) := by
  obtain ⟨ha, hb, _⟩ := meetOk_nat hx
  unfold stepA
  split
  · have h2 : x.asked.toNat < (t.set x.asks.toNat true).length := by rw [List.length_set, ht]; exact hb
    rcases set_grow (t := t) (i := x.asks.toNat) (by rw [ht]; exact ha) with h1 | h1
    · rw [h1]; exact set_grow (by rw [ht]; exact hb)
    · exact .inr (Nat.lt_of_lt_of_le h1 (set_le h2))
  · exact .inl rfl
theorem stepA_le {n : Nat} {t : List Bool} {x : PMeeting} (ht : t.length = n) (hx : meetOk n x = true) : cntT t ≤ cntT (stepA t x) := by
  rcases stepA_grow ht hx with h | h
  · rw [h]; exact Nat.le_refl _
  · omega
theorem passA_le {n : Nat} : ∀ (m : List PMeeting) (t : List Bool), t.length = n → (∀ x ∈ m, meetOk n x = true) → cntT t ≤ cntT (passA m t)
  | [], _, _, _ => Nat.le_refl _
  | x :: m, t, ht, hm => Nat.le_trans (stepA_le ht (hm x (List.mem_cons_self ..))) (passA_le m _ (by rw [stepA_len, ht]) fun y hy => hm y (List.mem_cons_of_mem _ hy))
theorem passA_grow {n : Nat} : ∀ (m : List PMeeting) (t : List Bool), t.length = n → (∀ x ∈ m, meetOk n x = true) → passA m t = t ∨ cntT t < cntT (passA m t)
  | [], _, _, _ => .inl rfl
  | x :: m, t, ht, hm => by
    have hx := hm x (List.mem_cons_self ..)
    have hm' : ∀ y ∈ m, meetOk n y = true := fun y hy => hm y (List.mem_cons_of_mem _ hy)
    show passA m (stepA t x) = t ∨ cntT t < cntT (passA m (stepA t x))
    rcases stepA_grow ht hx with h | h
    · rw [h]; exact passA_grow m t ht hm'
    · exact .inr (Nat.lt_of_lt_of_le h (passA_le m _ (by rw [stepA_len, ht]) hm'))
theorem stepA_closed {n : Nat} {t : List Bool} {x : PMeeting} (ht : t.length = n) (hx : meetOk n x = true) (h : stepA t x = t) : bv t x.asks.toNat = bv t x.asked.toNat := by
  obtain ⟨ha, hb, _, _, hne⟩ := meetOk_nat hx
  unfold stepA at h
  split at h
  · have e1 : bv ((t.set x.asks.toNat true).set x.asked.toNat true) x.asked.toNat = true := by rw [bv_set (by rw [List.length_set, ht]; exact hb), if_pos rfl]
    have e2 : bv ((t.set x.asks.toNat true).set x.asked.toNat true) x.asks.toNat = true := by rw [bv_set (by rw [List.length_set, ht]; exact hb), if_neg hne, bv_set (by rw [ht]; exact ha), if_pos rfl]
    rw [h] at e1 e2
    rw [e1, e2]
  · rename_i h1
    simp only [Bool.or_eq_true, not_or, Bool.not_eq_true] at h1
    rw [h1.1, h1.2]
theorem passA_closed {n : Nat} : ∀ (m : List PMeeting) (t : List Bool), t.length = n → (∀ x ∈ m, meetOk n x = true) → passA m t = t → ∀ x ∈ m, bv t x.asks.toNat = bv t x.asked.toNat
  | [], _, _, _, _ => fun _ h => by cases h
  | x :: m, t, ht, hm, h => by
    have hx := hm x (List.mem_cons_self ..)
    have hm' : ∀ y ∈ m, meetOk n y = true := fun y hy => hm y (List.mem_cons_of_mem _ hy)
    have h' : passA m (stepA t x) = t := h
    rcases stepA_grow ht hx with h1 | h1
    · rw [h1] at h'
      intro y hy
      rcases List.mem_cons.1 hy with rfl | hy
      · exact stepA_closed ht hx h1
      · exact passA_closed m t ht hm' h' y hy
    · have h2 := passA_le m (stepA t x) (by rw [stepA_len, ht]) hm'
      rw [h'] at h2
      omega
theorem iterA_stable {n : Nat} {m : List PMeeting} {t : List Bool} (ht : t.length = n) (hm : ∀ x ∈ m, meetOk n x = true) (h1 : 1 ≤ cntT t) : passA m (iterA m n t) = iterA m n t := by
  have key : ∀ k, passA m (iterA m k t) = iterA m k t ∨ k + 1 ≤ cntT (iterA m k t) := fun k => by
    induction k with
    | zero => exact .inr h1
    | succ k ih =>
      show passA m (passA m (iterA m k t)) = passA m (iterA m k t) ∨ k + 1 + 1 ≤ cntT (passA m (iterA m k t))
      rcases ih with ih | ih
      · left; rw [ih, ih]
      · rcases passA_grow m (iterA m k t) (by rw [iterA_len, ht]) hm with h | h
        · left; rw [h, h]
        · right; omega
  rcases key n with h | h
  · exact h
  · have h3 : cntT (iterA m n t) ≤ (iterA m n t).length := List.countP_le_length
    rw [iterA_len, ht] at h3
    omega
/-- what holds of all that is come to -/
theorem stepA_all {n : Nat} {Q : Nat → Prop} {t : List Bool} {x : PMeeting} (ht : t.length = n) (hx : meetOk n x = true) (hq : Q x.asks.toNat ↔ Q x.asked.toNat) (h : ∀ i, i < n → bv t i = true → Q i) : ∀ i, i < n → bv (stepA t x) i = true → Q i := by
  obtain ⟨ha, hb, _⟩ := meetOk_nat hx
  intro i hi hbi
  unfold stepA at hbi
  split at hbi
  · rename_i h1
    have h1' : bv t x.asks.toNat = true ∨ bv t x.asked.toNat = true := by simpa using h1
    have qa : Q x.asks.toNat := h1'.elim (fun h2 => h _ ha h2) fun h2 => hq.2 (h _ hb h2)
    rw [bv_set (by rw [List.length_set, ht]; exact hb)] at hbi
    split at hbi
    · rename_i e; rw [e]; exact hq.1 qa
    · rw [bv_set (by rw [ht]; exact ha)] at hbi
      split at hbi
      · rename_i e; rw [e]; exact qa
      · exact h i hi hbi
  · exact h i hi hbi
theorem passA_all {n : Nat} {Q : Nat → Prop} : ∀ (m : List PMeeting) (t : List Bool), t.length = n → (∀ x ∈ m, meetOk n x = true) → (∀ x ∈ m, (Q x.asks.toNat ↔ Q x.asked.toNat)) → (∀ i, i < n → bv t i = true → Q i) → ∀ i, i < n → bv (passA m t) i = true → Q i
  | [], _, _, _, _, h => h
  | x :: m, t, ht, hm, hq, h => passA_all m _ (by rw [stepA_len, ht]) (fun y hy => hm y (List.mem_cons_of_mem _ hy)) (fun y hy => hq y (List.mem_cons_of_mem _ hy)) (stepA_all ht (hm x (List.mem_cons_self ..)) (hq x (List.mem_cons_self ..)) h)
theorem iterA_all {n : Nat} {Q : Nat → Prop} {m : List PMeeting} {t : List Bool} (ht : t.length = n) (hm : ∀ x ∈ m, meetOk n x = true) (hq : ∀ x ∈ m, (Q x.asks.toNat ↔ Q x.asked.toNat)) (h : ∀ i, i < n → bv t i = true → Q i) : ∀ k, ∀ i, i < n → bv (iterA m k t) i = true → Q i
  | 0 => h
  | k + 1 => passA_all m _ (by rw [iterA_len, ht]) hm hq (iterA_all ht hm hq h k)
theorem stepA_keep {n : Nat} {t : List Bool} {x : PMeeting} (ht : t.length = n) (hx : meetOk n x = true) {i : Nat} (h : bv t i = true) : bv (stepA t x) i = true := by
  obtain ⟨ha, hb, _⟩ := meetOk_nat hx
  unfold stepA
  split
  · rw [bv_set (by rw [List.length_set, ht]; exact hb)]
    split
    · rfl
    · rw [bv_set (by rw [ht]; exact ha)]
      split
      · rfl
      · exact h
  · exact h
theorem passA_keep {n : Nat} : ∀ (m : List PMeeting) (t : List Bool), t.length = n → (∀ x ∈ m, meetOk n x = true) → ∀ i, bv t i = true → bv (passA m t) i = true
  | [], _, _, _, _, h => h
  | x :: m, t, ht, hm, i, h => passA_keep m _ (by rw [stepA_len, ht]) (fun y hy => hm y (List.mem_cons_of_mem _ hy)) i (stepA_keep ht (hm x (List.mem_cons_self ..)) h)
theorem iterA_keep {n : Nat} {m : List PMeeting} {t : List Bool} (ht : t.length = n) (hm : ∀ x ∈ m, meetOk n x = true) {i : Nat} (h : bv t i = true) : ∀ k, bv (iterA m k t) i = true
  | 0 => h
  | k + 1 => passA_keep m _ (by rw [iterA_len, ht]) hm i (iterA_keep ht hm h k)

theorem foldJ_len (m : List PMeeting) : ∀ s : PJ, (foldJ s m).g.length = s.g.length := by
  induction m with
  | nil => intro s; rfl
  | cons x m ih => intro s; show (foldJ (stepJ s x) m).g.length = _; rw [ih, step_len]
/-- who is together stays together -/
theorem foldJ_keep : ∀ (m : List PMeeting) (s : PJ) (i j : Nat), i < s.g.length → j < s.g.length → gv s.g i = gv s.g j → gv (foldJ s m).g i = gv (foldJ s m).g j
  | [], _, _, _, _, _, h => h
  | x :: m, s, i, j, hi, hj, h => foldJ_keep m (stepJ s x) i j (by rw [step_len]; exact hi) (by rw [step_len]; exact hj) ((step_rel hi hj).2 (.inl h))
theorem foldJ_met {n : Nat} : ∀ (m : List PMeeting) (s : PJ), s.g.length = n → (∀ x ∈ m, meetOk n x = true) → ∀ x ∈ m, gv (foldJ s m).g x.asks.toNat = gv (foldJ s m).g x.asked.toNat
  | [], _, _, _, _, h => by cases h
  | y :: m, s, hs, hm, x, hx => by
    have hl : (stepJ s y).g.length = n := by rw [step_len, hs]
    rcases List.mem_cons.1 hx with rfl | hx
    · obtain ⟨ha, hb, _⟩ := meetOk_nat (hm x (List.mem_cons_self ..))
      exact foldJ_keep m (stepJ s x) _ _ (by rw [hl]; exact ha) (by rw [hl]; exact hb) ((step_rel (by rw [hs]; exact ha) (by rw [hs]; exact hb)).2 (.inr ⟨.inl rfl, .inr rfl⟩))
    · exact foldJ_met m _ hl (fun z hz => hm z (List.mem_cons_of_mem _ hz)) x hx
/-- only what has met is together -/
theorem foldJ_min {n : Nat} {f : Nat → Bool} : ∀ (m : List PMeeting) (s : PJ), s.g.length = n → (∀ x ∈ m, meetOk n x = true) → (∀ x ∈ m, f x.asks.toNat = f x.asked.toNat) → (∀ i j, i < n → j < n → gv s.g i = gv s.g j → f i = f j) → ∀ i j, i < n → j < n → gv (foldJ s m).g i = gv (foldJ s m).g j → f i = f j
  | [], _, _, _, _, h => h
  | x :: m, s, hs, hm, hf, h => by
    have hx := hm x (List.mem_cons_self ..)
    have fx := hf x (List.mem_cons_self ..)
    obtain ⟨ha, hb, _⟩ := meetOk_nat hx
    refine foldJ_min m (stepJ s x) (by rw [step_len, hs]) (fun y hy => hm y (List.mem_cons_of_mem _ hy)) (fun y hy => hf y (List.mem_cons_of_mem _ hy)) fun i j hi hj e => ?_
    rcases (step_rel (by rw [hs]; exact hi) (by rw [hs]; exact hj)).1 e with e | ⟨e1, e2⟩
    · exact h i j hi hj e
    · have k1 : f i = f x.asks.toNat := e1.elim (fun e => h i _ hi ha e) fun e => (h i _ hi hb e).trans fx.symm
      have k2 : f j = f x.asks.toNat := e2.elim (fun e => h j _ hj ha e) fun e => (h j _ hj hb e).trans fx.symm
      rw [k1, k2]
theorem gv_init {n i : Nat} (h : i < n) : gv (initJ n).g i = i := by
  show (List.range n)[i]?.getD 0 = i
  rw [List.getElem?_range h]; rfl
/-- one group is left just if all are together -/
theorem Inv.one_iff {n : Nat} {s : PJ} (h : Inv n s) (hn : 0 < n) : s.cnt = 1 ↔ ∀ i, i < n → gv s.g i = gv s.g 0 := by
  have m0 := gv_mem (g := s.g) (i := 0) (by rw [h.len]; exact hn)
  have hd := countP_drop (p := fun v => decide (v ∈ s.g)) (q := fun v => decide (v ∈ s.g) && decide (v ≠ gv s.g 0)) (a := gv s.g 0) (fun v => rfl) (by simpa using m0) (List.range n) List.nodup_range (List.mem_range.2 (h.low _ m0))
  rw [h.cnt]
  constructor
  · intro h1 i hi
    refine Decidable.byContradiction fun hne => ?_
    have mi := gv_mem (g := s.g) (i := i) (by rw [h.len]; exact hi)
    have hp : 0 < (List.range n).countP fun v => decide (v ∈ s.g) && decide (v ≠ gv s.g 0) := List.countP_pos_iff.2 ⟨_, List.mem_range.2 (h.low _ mi), by simp [mi, hne]⟩
    omega
  · intro h1
    have hz : ((List.range n).countP fun v => decide (v ∈ s.g) && decide (v ≠ gv s.g 0)) = 0 := List.countP_eq_zero.2 fun v hv => by
      simp only [Bool.and_eq_true, decide_eq_true_eq, not_and, Decidable.not_not]
      intro hm
      obtain ⟨i, hi, rfl⟩ := List.getElem_of_mem hm
      have := h1 i (by rw [← h.len]; exact hi)
      unfold gv at this
      rw [List.getElem?_eq_getElem hi] at this
      exact this
    omega
theorem foldJ_inv {n : Nat} : ∀ (m : List PMeeting) (s : PJ), Inv n s → (∀ x ∈ m, meetOk n x = true) → Inv n (foldJ s m)
  | [], _, h, _ => h
  | x :: m, _, h, hm => foldJ_inv m _ (h.step (hm x (List.mem_cons_self ..))) fun y hy => hm y (List.mem_cons_of_mem _ hy)
theorem initA_bv {n i : Nat} (hn : 0 < n) : bv (initA n) i = decide (i = 0) := by
  unfold initA
  rw [bv_set (by simpa using hn)]
  by_cases h : i = 0
  · rw [if_pos h]; simp [h]
  · rw [if_neg h]
    unfold bv
    rw [List.getElem?_replicate]
    split <;> simp [h]
theorem cnt_pos {t : List Bool} {i : Nat} (h : bv t i = true) : 1 ≤ cntT t := by
  refine List.countP_pos_iff.2 ⟨true, ?_, rfl⟩
  unfold bv at h
  cases hx : t[i]? with
  | none => rw [hx] at h; cases h
  | some b =>
    rw [hx] at h
    have hb : b = true := h
    rw [← hb]
    exact List.mem_of_getElem? hx
theorem allP_iff {n : Nat} {m : List PMeeting} (hn : 0 < n) (hm : ∀ x ∈ m, meetOk n x = true) : allP n m = true ↔ (foldJ (initJ n) m).cnt = 1 := by
  have hI := foldJ_inv m _ (Inv.init n) hm
  rw [hI.one_iff hn]
  have hl : (iterA m n (initA n)).length = n := by rw [iterA_len, initA_len]
  have h0 : bv (initA n) 0 = true := by rw [initA_bv hn]; rfl
  have hall : allP n m = true ↔ ∀ i, i < n → bv (iterA m n (initA n)) i = true := by
    unfold allP
    rw [List.all_eq_true]
    constructor
    · intro h i hi
      unfold bv
      rw [List.getElem?_eq_getElem (by rw [hl]; exact hi)]
      exact h _ (List.getElem_mem _)
    · intro h b hb
      obtain ⟨i, hi, rfl⟩ := List.getElem_of_mem hb
      have := h i (by rw [← hl]; exact hi)
      unfold bv at this
      rw [List.getElem?_eq_getElem hi] at this
      exact this
  rw [hall]
  constructor
  · intro h i hi
    exact iterA_all (n := n) (Q := fun i => gv (foldJ (initJ n) m).g i = gv (foldJ (initJ n) m).g 0) (initA_len n) hm (fun x hx => by rw [foldJ_met m _ (init_len n) hm x hx]) (fun i _ hb => by
      rw [initA_bv hn] at hb
      rw [of_decide_eq_true hb]) n i hi (h i hi)
  · intro h i hi
    have hst := iterA_stable (initA_len n) hm (cnt_pos h0)
    have hcl := passA_closed m _ hl hm hst
    have := foldJ_min (f := bv (iterA m n (initA n))) m (initJ n) (init_len n) hm hcl (fun i j hi hj e => by rw [gv_init hi, gv_init hj] at e; rw [e]) i 0 hi hn (h i hi)
    rw [this]
    exact iterA_keep (initA_len n) hm h0 n
end Go.Hx
end
