/- Meetings as plain data: whether they may be, whether they join all, and how often. -/
import Derived.Test.YtgcbnagfdfgpnaaDoorData
namespace Go.Hx
open Go.RowKit
def PMeeting.turn (x : PMeeting) : PMeeting := ⟨x.asked, x.asks⟩
def meetOk (n : Int) (x : PMeeting) : Bool := decide (0 ≤ x.asks ∧ 0 ≤ x.asked ∧ x.asks < n ∧ x.asked < n ∧ x.asks ≠ x.asked)
/-- the error of so many nodes, and meetings -/
def askedP (n : Int) (l : List PMeeting) : Int := if n < 2 ∨ 8 < n then 2 else if 64 < l.length then 4 else if l.all (meetOk n) then 0 else 2
/-- groups of nodes, and how many there are -/
structure PJ where
  g : List Nat
  cnt : Int
def gv (g : List Nat) (i : Nat) : Nat := g[i]?.getD 0
def initJ (n : Nat) : PJ := ⟨List.range n, n⟩
def stepJ (s : PJ) (x : PMeeting) : PJ := ⟨s.g.map fun v => if v = gv s.g x.asks.toNat then gv s.g x.asked.toNat else v, if gv s.g x.asks.toNat = gv s.g x.asked.toNat then s.cnt else s.cnt - 1⟩
def foldJ (s : PJ) (l : List PMeeting) : PJ := l.foldl stepJ s
def rstep (n : Nat) (a : Nat × PJ) (x : PMeeting) : Nat × PJ := if (stepJ a.2 x).cnt = 1 then (a.1 + 1, initJ n) else (a.1, stepJ a.2 x)
def rfold (n : Nat) (a : Nat × PJ) (l : List PMeeting) : Nat × PJ := l.foldl (rstep n) a
def joinsP (n : Int) (l : List PMeeting) : Bool × Int := if askedP n l = 0 then (decide ((foldJ (initJ n.toNat) l).cnt = 1), 0) else (false, askedP n l)
def roundsP (n : Int) (l : List PMeeting) : Int × Int := if askedP n l = 0 then ((rfold n.toNat (0, initJ n.toNat) l).1, 0) else (0, askedP n l)

theorem gv_map {g : List Nat} {f : Nat → Nat} {i : Nat} (h : i < g.length) : gv (g.map f) i = f (gv g i) := by
  unfold gv
  rw [List.getElem?_map, List.getElem?_eq_getElem h]; rfl
theorem gv_mem {g : List Nat} {i : Nat} (h : i < g.length) : gv g i ∈ g := by
  unfold gv
  rw [List.getElem?_eq_getElem h]; exact List.getElem_mem h
theorem step_len (s : PJ) (x : PMeeting) : (stepJ s x).g.length = s.g.length := by simp [stepJ]
/-- who is together behind a meeting -/
theorem step_rel {s : PJ} {x : PMeeting} {i j : Nat} (hi : i < s.g.length) (hj : j < s.g.length) : gv (stepJ s x).g i = gv (stepJ s x).g j ↔ (gv s.g i = gv s.g j ∨ ((gv s.g i = gv s.g x.asks.toNat ∨ gv s.g i = gv s.g x.asked.toNat) ∧ (gv s.g j = gv s.g x.asks.toNat ∨ gv s.g j = gv s.g x.asked.toNat))) := by
  show gv (s.g.map _) i = gv (s.g.map _) j ↔ _
  rw [gv_map hi, gv_map hj]
  generalize gv s.g i = a
  generalize gv s.g j = b
  generalize gv s.g x.asks.toNat = p
  generalize gv s.g x.asked.toNat = q
  split <;> split <;> omega
structure Sim (n : Nat) (s t : PJ) : Prop where
  l1 : s.g.length = n
  l2 : t.g.length = n
  cnt : s.cnt = t.cnt
  rel : ∀ i j, i < n → j < n → (gv s.g i = gv s.g j ↔ gv t.g i = gv t.g j)
theorem meetOk_nat {n : Nat} {x : PMeeting} (h : meetOk n x = true) : x.asks.toNat < n ∧ x.asked.toNat < n ∧ ((x.asks.toNat : Nat) : Int) = x.asks ∧ ((x.asked.toNat : Nat) : Int) = x.asked ∧ x.asks.toNat ≠ x.asked.toNat := by
  unfold meetOk at h
  have := of_decide_eq_true h
  omega
theorem Sim.step {n : Nat} {s t : PJ} (h : Sim n s t) {x : PMeeting} (hx : meetOk n x = true) : Sim n (stepJ s x) (stepJ t x.turn) := by
  obtain ⟨ha, hb, _⟩ := meetOk_nat hx
  refine ⟨by rw [step_len, h.l1], by rw [step_len, h.l2], ?_, fun i j hi hj => ?_⟩
  · have e := h.rel _ _ ha hb
    unfold stepJ
    show (if _ then _ else _) = (if gv t.g x.asked.toNat = gv t.g x.asks.toNat then _ else _)
    by_cases h1 : gv s.g x.asks.toNat = gv s.g x.asked.toNat
    · rw [if_pos h1, if_pos (e.1 h1).symm]; exact h.cnt
    · rw [if_neg h1, if_neg (fun h2 => h1 (e.2 h2.symm)), h.cnt]
  · rw [step_rel (by rw [h.l1]; exact hi) (by rw [h.l1]; exact hj), step_rel (by rw [h.l2]; exact hi) (by rw [h.l2]; exact hj)]
    show _ ↔ (_ ∨ ((_ = gv t.g x.asked.toNat ∨ _ = gv t.g x.asks.toNat) ∧ (_ = gv t.g x.asked.toNat ∨ _ = gv t.g x.asks.toNat)))
    rw [h.rel i j hi hj, h.rel i _ hi ha, h.rel i _ hi hb, h.rel j _ hj ha, h.rel j _ hj hb]
    constructor
    · rintro (h1 | ⟨h1, h2⟩)
      · exact .inl h1
      · exact .inr ⟨h1.symm, h2.symm⟩
    · rintro (h1 | ⟨h1, h2⟩)
      · exact .inl h1
      · exact .inr ⟨h1.symm, h2.symm⟩
theorem Sim.refl {n : Nat} {s : PJ} (h : s.g.length = n) : Sim n s s := ⟨h, h, rfl, fun _ _ _ _ => Iff.rfl⟩
theorem init_len (n : Nat) : (initJ n).g.length = n := by simp [initJ]
theorem rfold_turn {n : Nat} : ∀ (l : List PMeeting) (r : Nat) (s t : PJ), Sim n s t → (∀ x ∈ l, meetOk n x = true) → (rfold n (r, s) l).1 = (rfold n (r, t) (l.map PMeeting.turn)).1
  | [], _, _, _, _, _ => rfl
  | x :: l, r, s, t, h, hl => by
    have h1 := h.step (hl x (List.mem_cons_self ..))
    have hl' : ∀ y ∈ l, meetOk n y = true := fun y hy => hl y (List.mem_cons_of_mem _ hy)
    show (rfold n (rstep n (r, s) x) l).1 = (rfold n (rstep n (r, t) x.turn) (l.map PMeeting.turn)).1
    unfold rstep
    dsimp only
    by_cases hc : (stepJ s x).cnt = 1
    · rw [if_pos hc, if_pos (by rw [← h1.cnt]; exact hc)]
      exact rfold_turn l _ _ _ (Sim.refl (init_len n)) hl'
    · rw [if_neg hc, if_neg (by rw [← h1.cnt]; exact hc)]
      exact rfold_turn l _ _ _ h1 hl'
theorem step_cnt (s : PJ) (x : PMeeting) : (stepJ s x).cnt = s.cnt ∨ (stepJ s x).cnt = s.cnt - 1 := by
  unfold stepJ
  dsimp only
  split
  · exact .inl rfl
  · exact .inr rfl
theorem rfold_bound {n : Nat} : ∀ (l : List PMeeting) (r : Nat) (s : PJ) (k : Int), s.cnt ≤ n → (r : Int) * (n - 1) + (n - s.cnt) ≤ k → (((rfold n (r, s) l).1 : Nat) : Int) * (n - 1) ≤ k + l.length
  | [], r, s, k, hc, h => by show (r : Int) * (n - 1) ≤ k + 0; omega
  | x :: l, r, s, k, hc, h => by
    show (((rfold n (rstep n (r, s) x) l).1 : Nat) : Int) * (n - 1) ≤ k + ((l.length + 1 : Nat) : Int)
    have hs := step_cnt s x
    unfold rstep
    dsimp only
    by_cases h1 : (stepJ s x).cnt = 1
    · rw [if_pos h1]
      have := rfold_bound l (r + 1) (initJ n) (k + 1) (Int.le_refl _) (by
        show ((r + 1 : Nat) : Int) * (n - 1) + (n - (n : Int)) ≤ k + 1
        have e : ((r + 1 : Nat) : Int) * ((n : Int) - 1) = (r : Int) * (n - 1) + (n - 1) := by push_cast; rw [Int.add_mul]; omega
        omega)
      omega
    · rw [if_neg h1]
      have := rfold_bound (n := n) l r (stepJ s x) (k + 1) (by omega) (by omega)
      omega
theorem rfold_ge {n : Nat} : ∀ (l : List PMeeting) (r : Nat) (s : PJ), r ≤ (rfold n (r, s) l).1
  | [], r, s => Nat.le_refl _
  | x :: l, r, s => by
    show r ≤ (rfold n (rstep n (r, s) x) l).1
    unfold rstep
    dsimp only
    split
    · exact Nat.le_trans (Nat.le_succ r) (rfold_ge l (r + 1) _)
    · exact rfold_ge l r _
theorem rfold_one {n : Nat} (l : List PMeeting) (a : Nat × PJ) (x : PMeeting) : (rfold n a (l ++ [x])).1 = (rfold n a l).1 ∨ (rfold n a (l ++ [x])).1 = (rfold n a l).1 + 1 := by
  unfold rfold
  rw [List.foldl_append]
  show (rstep n (l.foldl (rstep n) a) x).1 = _ ∨ (rstep n (l.foldl (rstep n) a) x).1 = _
  unfold rstep
  split
  · exact .inr rfl
  · exact .inl rfl
/-- how many groups there are -/
structure Inv (n : Nat) (s : PJ) : Prop where
  len : s.g.length = n
  low : ∀ v ∈ s.g, v < n
  cnt : s.cnt = (((List.range n).countP fun v => decide (v ∈ s.g) : Nat) : Int)
theorem Inv.init (n : Nat) : Inv n (initJ n) :=
  ⟨init_len n, fun v hv => by simpa [initJ] using hv, by
    show (n : Int) = _
    have : ((List.range n).countP fun v => decide (v ∈ (initJ n).g)) = n := by
      rw [List.countP_eq_length.2 (fun v hv => by simpa [initJ] using hv), List.length_range]
    rw [this]⟩
theorem countP_drop {p q : Nat → Bool} {a : Nat} (hpq : ∀ v, q v = (p v && decide (v ≠ a))) (hp : p a = true) : ∀ l : List Nat, l.Nodup → a ∈ l → l.countP p = l.countP q + 1
  | [], _, h => by cases h
  | x :: l, hn, h => by
    obtain ⟨hx, hn'⟩ := List.nodup_cons.1 hn
    by_cases hxa : x = a
    · subst hxa
      have e : l.countP p = l.countP q := List.countP_congr fun v hv => by
        have : v ≠ x := fun h => hx (h ▸ hv)
        rw [hpq v]; simp [this]
      have hqx : q x = false := by rw [hpq x]; simp
      rw [List.countP_cons_of_pos hp, List.countP_cons_of_neg (by simp [hqx]), e]
    · have ih := countP_drop hpq hp l hn' ((List.mem_cons.1 h).resolve_left (fun h => hxa h.symm))
      have e : q x = p x := by rw [hpq x]; simp [hxa]
      rw [List.countP_cons, List.countP_cons, e, ih]
      omega
theorem Inv.step {n : Nat} {s : PJ} (h : Inv n s) {x : PMeeting} (hx : meetOk n x = true) : Inv n (stepJ s x) := by
  obtain ⟨ha, hb, _⟩ := meetOk_nat hx
  have ma := gv_mem (g := s.g) (by rw [h.len]; exact ha)
  have mb := gv_mem (g := s.g) (by rw [h.len]; exact hb)
  refine ⟨by rw [step_len, h.len], fun v hv => ?_, ?_⟩
  · obtain ⟨u, hu, rfl⟩ := List.mem_map.1 hv
    split
    · exact h.low _ mb
    · exact h.low _ hu
  · unfold stepJ
    dsimp only
    by_cases hab : gv s.g x.asks.toNat = gv s.g x.asked.toNat
    · rw [if_pos hab, h.cnt]
      have : s.g.map (fun v => if v = gv s.g x.asks.toNat then gv s.g x.asked.toNat else v) = s.g := by
        rw [hab]
        conv => rhs; rw [← List.map_id s.g]
        apply List.map_congr_left
        intro v _
        show (if v = _ then _ else v) = v
        split
        · rename_i h1; exact h1.symm
        · rfl
      rw [this]
    · rw [if_neg hab, h.cnt]
      have := countP_drop (p := fun v => decide (v ∈ s.g)) (q := fun v => decide (v ∈ s.g.map (fun v => if v = gv s.g x.asks.toNat then gv s.g x.asked.toNat else v))) (a := gv s.g x.asks.toNat) (fun v => by
        rw [Bool.eq_iff_iff]
        simp only [decide_eq_true_eq, Bool.and_eq_true, List.mem_map, ne_eq]
        constructor
        · rintro ⟨u, hu, rfl⟩
          split
          · exact ⟨mb, fun h => hab h.symm⟩
          · rename_i h1; exact ⟨hu, h1⟩
        · rintro ⟨h1, h2⟩
          exact ⟨v, h1, if_neg h2⟩) (by simpa using ma) (List.range n) List.nodup_range (List.mem_range.2 (h.low _ ma))
      omega
theorem Inv.one {n : Nat} {s : PJ} (h : Inv n s) (h1 : s.cnt = 1) {x : PMeeting} (hx : meetOk n x = true) : (stepJ s x).cnt = 1 := by
  have h2 := (h.step hx).cnt
  rcases step_cnt s x with h3 | h3
  · rw [h3, h1]
  · exfalso
    obtain ⟨ha, hb, _⟩ := meetOk_nat hx
    have h4 := (h.step hx)
    have m := gv_mem (g := (stepJ s x).g) (i := x.asks.toNat) (by rw [h4.len]; exact ha)
    have hp : 0 < (List.range n).countP fun v => decide (v ∈ (stepJ s x).g) := List.countP_pos_iff.2 ⟨_, List.mem_range.2 (h4.low _ m), by simpa using m⟩
    omega
theorem fold_stays {n : Nat} : ∀ (l : List PMeeting) (s : PJ), Inv n s → s.cnt = 1 → (∀ x ∈ l, meetOk n x = true) → (foldJ s l).cnt = 1
  | [], _, _, h, _ => h
  | x :: l, s, hi, h, hl => fold_stays l (stepJ s x) (hi.step (hl x (List.mem_cons_self ..))) (hi.one h (hl x (List.mem_cons_self ..))) (fun y hy => hl y (List.mem_cons_of_mem _ hy))
theorem joins_rounds {n : Nat} : ∀ (l : List PMeeting) (s : PJ), Inv n s → s.cnt ≠ 1 → (∀ x ∈ l, meetOk n x = true) → (0 < (rfold n (0, s) l).1 ↔ (foldJ s l).cnt = 1)
  | [], s, _, h, _ => ⟨fun h1 => absurd h1 (Nat.lt_irrefl 0), fun h1 => absurd h1 h⟩
  | x :: l, s, hi, h, hl => by
    have hx := hl x (List.mem_cons_self ..)
    have hl' : ∀ y ∈ l, meetOk n y = true := fun y hy => hl y (List.mem_cons_of_mem _ hy)
    show 0 < (rfold n (rstep n (0, s) x) l).1 ↔ (foldJ (stepJ s x) l).cnt = 1
    unfold rstep
    dsimp only
    by_cases hc : (stepJ s x).cnt = 1
    · rw [if_pos hc]
      exact ⟨fun _ => fold_stays l _ (hi.step hx) hc hl', fun _ => rfold_ge l 1 _⟩
    · rw [if_neg hc]
      exact joins_rounds l _ (hi.step hx) hc hl'
theorem asked_ok {n : Int} {l : List PMeeting} (h : askedP n l = 0) : 2 ≤ n ∧ n ≤ 8 ∧ l.length ≤ 64 ∧ ∀ x ∈ l, meetOk n x = true := by
  unfold askedP at h
  split at h
  · cases h
  · split at h
    · cases h
    · split at h
      · rename_i h1 h2 h3
        exact ⟨by omega, by omega, by omega, List.all_eq_true.1 h3⟩
      · cases h
theorem asked_of {n : Int} {l : List PMeeting} (h2 : 2 ≤ n) (h8 : n ≤ 8) (hl : l.length ≤ 64) (hx : ∀ x ∈ l, meetOk n x = true) : askedP n l = 0 := by
  unfold askedP
  rw [if_neg (by omega), if_neg (by omega), if_pos (List.all_eq_true.2 hx)]
theorem asked_turn (n : Int) (l : List PMeeting) : askedP n (l.map PMeeting.turn) = askedP n l := by
  unfold askedP
  rw [List.length_map, List.all_map]
  have : (meetOk n ∘ PMeeting.turn) = meetOk n := by
    funext x
    unfold meetOk PMeeting.turn
    simp only [Function.comp]
    rw [decide_eq_decide]
    constructor <;> (rintro ⟨h1, h2, h3, h4, h5⟩; exact ⟨h2, h1, h4, h3, Ne.symm h5⟩)
  rw [this]
theorem rounds_turn (n : Int) (l : List PMeeting) : roundsP n (l.map PMeeting.turn) = roundsP n l := by
  unfold roundsP
  rw [asked_turn]
  split
  · rename_i h
    obtain ⟨h2, h8, _, hx⟩ := asked_ok h
    obtain ⟨N, rfl⟩ : ∃ N : Nat, n = (N : Int) := ⟨n.toNat, by omega⟩
    rw [Int.toNat_natCast, ← rfold_turn l 0 _ _ (Sim.refl (init_len N)) hx]
  · rfl
end Go.Hx
