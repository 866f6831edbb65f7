/- The executor is sound: append. -/
import Derived.Deep.AppendSrc
import Derived.Deep.Upon
import Derived.Test.YtmcchddjmobhaaaGreatDoorExB
set_option linter.unusedVariables false
set_option linter.unusedSimpArgs false
set_option linter.unusedSectionVars false
namespace Go.Ex
variable [Holes]
section
variable {P : Program} {K : Nat → Option (List Value)} {σ τ : Env} {m m1 : Mem} {w w1 : World}
/-- a row dies, and one is laid, in its block or in a new one -/
theorem step_move (h : Rel K σ m w) {r0 e0 k0 : Nat} {cs0 : T C} (hr0 : m.S.get r0 = some (.cells e0 k0 cs0)) (e q : Nat) (cs : T C) (b o k : Nat) (v : Value) (hg : Goes w w1)
    (hk : ∀ b, b < w.heap.size → b ≠ σ.b r0 → w1.heap[b]? = w.heap[b]?) (hb : b = w.heap.size ∨ b = σ.b r0)
    (hr : RowOk (σ.set m.nx b o k v) (m.nx + 1) w1 m.nx (.cells e q cs)) :
    Step K σ m w (σ.set m.nx b o k v) ⟨(m.S.set r0 .dead).set m.nx (.cells e q cs), m.nx + 1, lower r0 m.lo⟩ w1 := by
  have hag := Env.agree_set σ m.nx b o k v
  have hlt0 := h.lt _ _ hr0
  have hb0 := (h.row _ _ hr0).blk_lt (r := .cells e0 k0 cs0) rfl
  obtain ⟨hlo1, hlo2⟩ := lower_le r0 m.lo
  let S' := (m.S.set r0 .dead).set m.nx (.cells e q cs)
  have hget : ∀ i, S'.get i = if i = m.nx then some (.cells e q cs) else if i = r0 then some .dead else m.S.get i := fun i => by
    show ((m.S.set r0 .dead).set m.nx (.cells e q cs)).get i = _
    rw [T.get_set, T.get_set]
  have hold : ∀ i s, S'.get i = some s → i ≠ m.nx → s.blk = true → i ≠ r0 ∧ m.S.get i = some s := fun i s hs hi hsb => by
    rw [hget, if_neg hi] at hs
    by_cases h0 : i = r0
    · rw [if_pos h0] at hs; cases hs; cases hsb
    · rw [if_neg h0] at hs; exact ⟨h0, hs⟩
  have hne : ∀ i s, m.S.get i = some s → s.blk = true → i ≠ r0 → σ.b i ≠ σ.b r0 := fun i s hs hsb hi he => hi (h.inj i r0 s _ hs hr0 hsb rfl he)
  have hnewb : ∀ i s, m.S.get i = some s → s.blk = true → i ≠ r0 → σ.b i ≠ b := fun i s hs hsb hi he => by
    rcases hb with hb | hb
    · have := (h.row i s hs).blk_lt hsb; omega
    · exact hne i s hs hsb hi (he.trans hb)
  refine ⟨Nat.le_succ _, hag, ⟨fun i s hs => ?_, fun i s hs => ?_, fun i j s s' hs hs' hsb hsb' he => ?_, fun g l hg' => ?_, fun i s hs hsb => ?_, fun g l hg' => Nat.lt_of_lt_of_le (h.low g l hg') hg.size, fun i hi => h.fresh i (Nat.le_of_succ_le hi)⟩, hg, fun b' hb' hfr => ?_, fun i s hi hs hsb => ?_, fun i s hi hs hsb => ?_, hlo1, fun i s hs hsl => ?_⟩
  · by_cases hi : i = m.nx
    · subst hi; rw [hget, if_pos rfl] at hs; cases hs; exact hr
    · rw [hget, if_neg hi] at hs
      by_cases h0 : i = r0
      · rw [if_pos h0] at hs; cases hs; trivial
      · rw [if_neg h0] at hs
        exact (h.row i s hs).keep hag (h.lt i s hs) (Nat.le_succ _) (fun hsb => hk _ ((h.row i s hs).blk_lt hsb) (hne i s hs hsb h0))
  · by_cases hi : i = m.nx
    · subst hi; exact h.ltnx
    · rw [hget, if_neg hi] at hs
      by_cases h0 : i = r0
      · subst h0; exact hlt0.mono (Nat.le_succ _)
      · rw [if_neg h0] at hs; exact (h.lt i s hs).mono (Nat.le_succ _)
  · by_cases hi : i = m.nx
    · by_cases hj : j = m.nx
      · rw [hi, hj]
      · exfalso
        obtain ⟨h0, h1⟩ := hold j s' hs' hj hsb'
        rw [hi, Env.set_b, hag.b j (h.lt j s' h1)] at he
        exact hnewb j s' h1 hsb' h0 he.symm
    · by_cases hj : j = m.nx
      · exfalso
        obtain ⟨h0, h1⟩ := hold i s hs hi hsb
        rw [hj, Env.set_b, hag.b i (h.lt i s h1)] at he
        exact hnewb i s h1 hsb h0 he
      · obtain ⟨_, h1⟩ := hold i s hs hi hsb
        obtain ⟨_, h2⟩ := hold j s' hs' hj hsb'
        rw [hag.b i (h.lt i s h1), hag.b j (h.lt j s' h2)] at he
        exact h.inj i j s s' h1 h2 hsb hsb' he
  · exact known_kept h (fun g l hg2 => hk g (h.low g l hg2) (fun he => by have := h.apart r0 _ hr0 rfl; rw [← he, hg2] at this; cases this)) g l hg'
  · by_cases hi : i = m.nx
    · rw [hi, Env.set_b]
      rcases hb with hb | hb
      · rw [hb]
        cases hK : K w.heap.size with
        | none => rfl
        | some l => have := h.low _ _ hK; omega
      · rw [hb]; exact h.apart r0 _ hr0 rfl
    · obtain ⟨_, h1⟩ := hold i s hs hi hsb
      rw [hag.b i (h.lt i s h1)]
      exact h.apart i s h1 hsb
  · refine hk b' hb' fun he => ?_
    have : r0 < lower r0 m.lo := hfr r0 _ hr0 rfl he.symm
    omega
  · obtain ⟨_, h1⟩ := hold i s hs (by omega) hsb
    exact ⟨s, h1, hsb⟩
  · by_cases hi' : i = m.nx
    · rw [hi', Env.set_b]
      rcases hb with hb | hb
      · exact .inl (by omega)
      · exact .inr ⟨r0, _, hr0, rfl, hb.symm, hlo2⟩
    · obtain ⟨_, h1⟩ := hold i s hs hi' hsb
      exact absurd (h.lt i s h1).lt (by omega)
  · have h1 := (h.lt i s hs).lt
    have h2 : i ≠ r0 := fun e => by rw [e, hr0] at hs; cases hs; cases hsl
    exact ⟨s, by show S'.get i = _; rw [hget, if_neg (by omega), if_neg h2]; exact hs, hsl⟩
end
end Go.Ex
namespace Go.Ex
variable [Holes]
section
variable {P : Program} {K : Nat → Option (List Value)} {σ τ : Env} {m m1 : Mem} {w w1 : World}
theorem read_cells (h : Rel K σ m w) {r o n : Nat} {l : List C} (hr : m.read r o n = some l) (j : Nat) (v : Value) (hv : (l.map (realC σ))[j]? = some v) : w.cell? ⟨σ.b r, σ.o r + o + j, none⟩ = some v := by
  have := (read_ok h hr).2.2 j v hv
  rwa [addr_add] at this
theorem ones_real {l : List C} (h : l.all oneB = true) : ∀ u ∈ l.map (realC σ), u.oneCell' = true := fun u hu => by
  obtain ⟨c, hc, rfl⟩ := List.mem_map.1 hu
  exact one_real (List.all_eq_true.1 h c hc)
theorem src_ok (h : Rel K σ m w) {z t n : Nat} {x : W} {new : List C} (hs : srcW P m z t x = some (n, new)) :
    Src P z t (realW σ x) n (new.map (realC σ)) w ∧ (∀ c ∈ new, C.lt m.nx c) ∧ new.all oneB = true := by
  unfold srcW at hs
  split at hs
  · rename_i e r o k z' c hu
    rw [cond_eq_ite] at hs
    split at hs
    · rename_i hz
      have hz := Nat.eq_of_beq_eq_true hz
      subst hz
      split at hs
      · rename_i l hl
        obtain ⟨hone, hs⟩ := cond_some hs
        cases hs
        obtain ⟨h1, h2, h3⟩ := read_ok h hl
        refine ⟨?_, h2, hone⟩
        have : ∃ q, realW σ (.v (.c (.sl r o n z c))) = .slice (some ⟨σ.b r, σ.o r + o, none⟩) n q := by cases c <;> exact ⟨_, rfl⟩
        obtain ⟨q, hq⟩ := this
        rw [hq]
        exact Src.ofSlice w hu _ n q _ (by simpa using h1) h3 (ones_real hone)
      · cases hs
    · cases hs
  · rename_i e r p o z' hu
    cases hs
    refine ⟨?_, (fun c hc => by cases hc), rfl⟩
    exact Src.ofSlice w hu _ 0 _ [] (by simp) (fun j u hj => by simp at hj) (fun u hu => by cases hu)
  · rename_i e c hu
    cases hs
    exact ⟨Src.ofNil w hu c, (fun c hc => by cases hc), rfl⟩
  · rename_i b hu
    obtain ⟨hz, hs⟩ := cond_some hs
    have hz := Nat.eq_of_beq_eq_true hz
    subst hz
    cases hs
    refine ⟨?_, fun c hc => by obtain ⟨v, _, rfl⟩ := List.mem_map.1 hc; trivial, by rw [List.all_eq_true]; intro c hc; obtain ⟨v, _, rfl⟩ := List.mem_map.1 hc; rfl⟩
    have := Src.ofString w hu b
    rw [List.map_map]
    exact this
  · cases hs
theorem drewG (w : World) : Goes w w.drew := ⟨rfl, rfl, rfl, Nat.le_refl _⟩
theorem Rel.drew (h : Rel K σ m w) : Rel K σ m w.drew := ⟨h.row, h.lt, h.inj, h.known, h.apart, h.low, h.fresh⟩
theorem zeroIs_ok {e z : Nat} (h : zeroIs P e z = true) : ∃ i v, P.info? e = some i ∧ i.zero = some v ∧ v.cells.size = z := by
  unfold zeroIs at h
  split at h
  · rename_i l hl
    obtain ⟨v, _, rfl, i, hi, hz⟩ := run_zero' (w := default) hl
    have := Nat.eq_of_beq_eq_true h
    exact ⟨i, v, hi, hz, by rw [← ofV_cells_real ⟨fun _ => 0, fun _ => 0, fun _ => 0, fun _ => .nilFunc⟩ v]; simpa using this⟩
  · cases h
theorem size_of_info {e z : Nat} {i : TypeInfo} (hs : sizeOf? P e = some z) (hi : P.info? e = some i) : i.size = z := by
  unfold sizeOf? at hs; rw [hi] at hs; simpa using hs
/-- a new row that is grown into -/
theorem grow_ok {t tx ty e z n k q : Nat} (hu : P.underlying t = some (.slice e)) (hs : sizeOf? P e = some z) (hz : 0 < z) (hzero : zeroIs P e z = true) {base : Option Addr} {x : W} {new old : List C}
    (hsrc : Src P z tx (realW σ x) n (new.map (realC σ)) w) (hk : old.length = k * z)
    (hold : (Builtin.firstCells z k (.slice base k q)).run P w.drew = .ok (old.map (realC σ)).toArray w.drew) (hq : q < k + n) (hn : k + n ≤ 1048576) (hb : (k + n) * bytes? P e ≤ 140737488355328) :
    ∃ cap w', (Builtin.append_ #[t, tx] ty #[.slice base k q, realW σ x]).run P w = .ok (.slice (some ⟨w.heap.size, 0, none⟩) (k + n) cap) w' ∧ k + n ≤ cap ∧ Goes w w' ∧
      ∃ arr : Array Value, w'.heap = w.heap.push (.cells arr e (0, 0)) ∧ arr.size = cap * z ∧ (old ++ new).length ≤ arr.size ∧ ∀ j, j < (old ++ new).length → arr[j]? = ((old ++ new).map (realC σ))[j]? := by
  obtain ⟨i, v, hi, hiz, hvs⟩ := zeroIs_ok hzero
  have hisz := size_of_info hs hi
  subst hisz
  have hby : bytes? P e = i.bytes := by unfold bytes?; rw [hi]
  rw [hby] at hb
  have hfit := growslice_fits (old := q) (bytes := i.bytes) hq hb
  have hr := run_append_grow_src (P := P) w t tx ty e i v hu hi hiz base k q (old.map (realC σ)) hold (realW σ x) n (new.map (realC σ)) hsrc hq (by omega) hfit
  have hge := grownCap_ge w (k + n) q e
  have hnl' : new.length = n * i.size := by simpa using hsrc.newsLen
  refine ⟨_, _, hr, hge, ⟨rfl, rfl, rfl, by simp⟩, _, rfl, ?_, ?_, fun j hj => ?_⟩
  · rw [Array.size_append, size_zeroCells, hvs]
    simp only [List.size_toArray, List.length_append, List.length_map, hk, hnl']
    rw [← Nat.add_mul, ← Nat.add_mul]
    congr 1
    omega
  · rw [Array.size_append]; simp
  · rw [Array.getElem?_append_left (by simpa using hj), List.getElem?_toArray, List.map_append]
end
end Go.Ex
namespace Go.Ex
variable [Holes]
section
variable {P : Program} {K : Nat → Option (List Value)} {σ τ : Env} {m m1 : Mem} {w w1 : World}
theorem run_room {t tx ty e z k n c b off : Nat} {x : Value} {news : List Value} (hu : P.underlying t = some (.slice e)) (hs : sizeOf? P e = some z) (hsrc : Src P z tx x n news w) (hroom : k + n ≤ c)
    (hst : (storeCells ((⟨b, off, none⟩ : Addr).add (k * z)) news).run P w = .ok () w1) :
    (Builtin.append_ #[t, tx] ty #[.slice (some ⟨b, off, none⟩) k c, x]).run P w = .ok (.slice (some ⟨b, off, none⟩) (k + n) c) w1 := by
  rcases hsrc.kind with ⟨e', hk⟩ | hk <;> simp [Builtin.append_, run_underlying hu, run_underlying hk, run_sizeOf' hs, hsrc.len, hroom, hsrc.cells, hst]
theorem capR_new (n : Nat) (σ : Env) (b o k z c : Nat) (v : Value) (hz : 0 < z) (hk : k = o + c * z) : capR (σ.set n b o k v) n 0 z = c := by
  unfold capR
  rw [Env.set_k, Env.set_o, hk, Nat.add_zero, Nat.add_sub_cancel_left, Nat.mul_div_cancel _ hz]
/-- appended into a new row, the old one stays -/
theorem appN_ok (h : Rel K σ m w) {t tx ty e z n k q : Nat} {x y : W} {base : Option Addr} {new old : List C} (hu : P.underlying t = some (.slice e)) (hs : sizeOf? P e = some z) (hz : 0 < z) (hzero : zeroIs P e z = true)
    (hsrc : Src P z tx (realW σ x) n (new.map (realC σ)) w) (hnl : ∀ c ∈ new, C.lt m.nx c) (hol : ∀ c ∈ old, C.lt m.nx c) (hk : old.length = k * z)
    (hold : (Builtin.firstCells z k (.slice base k q)).run P w.drew = .ok (old.map (realC σ)).toArray w.drew) (hq : q < k + n) (hn : k + n ≤ 1048576) (hb : (k + n) * bytes? P e ≤ 140737488355328)
    (ha : appN m e z (k + n) (old ++ new) = .ok y m1) :
    ∃ τ w', (Builtin.append_ #[t, tx] ty #[.slice base k q, realW σ x]).run P w = .ok (realW τ y) w' ∧ Step K σ m w τ m1 w' ∧ y.lt m1.nx := by
  obtain ⟨cap, w', hr, hge, hg, arr, hw, hsz, hle, hget⟩ := grow_ok (ty := ty) hu hs hz hzero hsrc hk hold hq hn hb
  cases ha
  refine ⟨_, w', ?_, step_new h e (old ++ new) (fun c hc => by rcases List.mem_append.1 hc with hc | hc; exact hol c hc; exact hnl c hc) arr hle hget hg hw, h.ltnx⟩
  rw [hr]
  have : capR (σ.set m.nx w.heap.size 0 arr.size undef) m.nx 0 z = cap := capR_new _ _ _ _ _ _ _ _ hz (by omega)
  simp [one, realW, realV, realC, this]
theorem appT_ok (h : Rel K σ m w) {t tx ty e z n q kk : Nat} {x y : W} {base : Option Addr} {new : List C} {g : Nat → Option C} (hu : P.underlying t = some (.slice e)) (hs : sizeOf? P e = some z) (hz : 0 < z) (hzero : zeroIs P e z = true)
    (hsrc : Src P z tx (realW σ x) n (new.map (realC σ)) w) (hnl : ∀ c ∈ new, C.lt m.nx c)
    (hold : (Builtin.firstCells z 0 (.slice base 0 q)).run P w.drew = .ok #[] w.drew) (hq : q < n) (hn : n ≤ 1048576) (hb : n * bytes? P e ≤ 140737488355328) (hk : kk = new.length) (hg : ∀ j, j < new.length → g j = new[j]?)
    (ha : (.ok (one (.sl m.nx 0 n z none)) (m.newT e kk g) : R1) = .ok y m1) :
    ∃ τ w', (Builtin.append_ #[t, tx] ty #[.slice base 0 q, realW σ x]).run P w = .ok (realW τ y) w' ∧ Step K σ m w τ m1 w' ∧ y.lt m1.nx := by
  obtain ⟨cap, w', hr, hge, hg', arr, hw, hsz, hle, hget⟩ := grow_ok (ty := ty) (k := 0) (old := []) hu hs hz hzero hsrc (by simp) hold (by omega) (by omega) (by rw [Nat.zero_add]; exact hb)
  rw [Nat.zero_add] at hr hge
  cases ha
  refine ⟨_, w', ?_, step_newT h e new kk g hk hg hnl arr (by simpa using hle) (fun j hj => by simpa using hget j (by simpa using hj)) hg' hw, h.ltnx⟩
  rw [hr]
  have : capR (σ.set m.nx w.heap.size 0 arr.size undef) m.nx 0 z = cap := capR_new _ _ _ _ _ _ _ _ hz (by omega)
  simp [one, realW, realV, realC, this]
theorem appC_ok (h : Rel K σ m w) {t tx ty e z n k r o c : Nat} {x y : W} {new : List C} (hu : P.underlying t = some (.slice e)) (hs : sizeOf? P e = some z) (hz : 0 < z) (hzero : zeroIs P e z = true)
    (hsrc : Src P z tx (realW σ x) n (new.map (realC σ)) w) (hnl : ∀ c ∈ new, C.lt m.nx c) (hr : Lt r m.nx) (hn : k + n ≤ 1048576) (hb : (k + n) * bytes? P e ≤ 140737488355328)
    (ha : appC m e z r o k c n new = .ok y m1) :
    ∃ τ w', (Builtin.append_ #[t, tx] ty #[.slice (some ⟨σ.b r, σ.o r + o, none⟩) k c, realW σ x]).run P w = .ok (realW τ y) w' ∧ Step K σ m w τ m1 w' ∧ y.lt m1.nx := by
  unfold appC at ha
  rw [cond_eq_ite] at ha
  split at ha
  · rename_i hle
    have hle := Nat.le_of_ble_eq_true hle
    split at ha
    · rename_i m2 hw
      cases ha
      obtain ⟨e', arr, h1, h2, h3, h4⟩ := step_write h hw hnl
      have hst := run_storeCells_at P (σ.b r) (σ.o r + o + k * z) e' (new.map (realC σ)) 0 arr w h1 (by simp; omega) h3
      refine ⟨σ, _, run_room (ty := ty) hu hs hsrc hle (by rw [addr_add]; simpa [Nat.add_assoc] using hst), by simpa [Nat.add_assoc] using h4, ?_⟩
      exact Lt.mono hr h4.nx
    · cases ha
  · rename_i hle
    have hle : ¬ k + n ≤ c := fun hq => hle (Nat.ble_eq_true_of_le hq)
    split at ha
    · rename_i old hrd
      obtain ⟨h1, h2, h3⟩ := read_ok h hrd
      refine appN_ok h hu hs hz hzero hsrc hnl h2 h1 ?_ (by omega) hn hb ha
      exact run_firstCells_some w.drew z k ⟨σ.b r, σ.o r + o, none⟩ k c (old.map (realC σ)) (by simpa using h1) (by simpa using h3)
    · cases ha
theorem appU_ok (h : Rel K σ m w) {t tx ty e z n k r o : Nat} {x y : W} {new : List C} (hu : P.underlying t = some (.slice e)) (hs : sizeOf? P e = some z) (hz : 0 < z) (hzero : zeroIs P e z = true)
    (hsrc : Src P z tx (realW σ x) n (new.map (realC σ)) w) (hnl : ∀ c ∈ new, C.lt m.nx c) (hn : k + n ≤ 1048576) (hb : (k + n) * bytes? P e ≤ 140737488355328)
    (ha : appU m e z r o k n new = .ok y m1) :
    ∃ τ w', (Builtin.append_ #[t, tx] ty #[.slice (some ⟨σ.b r, σ.o r + o, none⟩) k (capR σ r o z), realW σ x]).run P w = .ok (realW τ y) w' ∧ Step K σ m w τ m1 w' ∧ y.lt m1.nx := by
  have hlen : new.length = n * z := by simpa using hsrc.newsLen
  unfold appU at ha
  split at ha
  · rename_i e' q cs hrow
    -- both ways lay the same cells
    obtain ⟨hc, cs', hcs', rfl, rfl⟩ : (Nat.beq e e' && Nat.ble (o + k * z) q && new.all oneB) = true ∧ ∃ cs' : T C, (∀ j, j < k * z + new.length → cs'.get j = if j < k * z then cs.get (o + j) else new[j - k * z]?) ∧
        y = one (.sl m.nx 0 (k + n) z none) ∧ m1 = ⟨(m.S.set r .dead).set m.nx (.cells e (k * z + new.length) cs'), m.nx + 1, lower r m.lo⟩ := by
      rw [cond_eq_ite] at ha
      split at ha
      · rename_i hc
        refine ⟨hc, ?_⟩
        rw [cond_eq_ite] at ha
        split at ha
        · rename_i ho
          have ho := Nat.eq_of_beq_eq_true ho
          split at ha
          case h_2 => cases ha
          cases ha
          refine ⟨_, fun j hj => ?_, rfl, rfl⟩
          rw [T.get_puts]
          by_cases hjk : j < k * z
          · rw [if_neg (by omega), if_pos hjk, ho, Nat.zero_add]
          · rw [if_pos (by omega), if_neg hjk]
        · split at ha
          · rename_i old hol
            cases ha
            obtain ⟨h1, h2⟩ := T.list_spec _ _ _ _ hol
            refine ⟨_, fun j hj => ?_, rfl, rfl⟩
            rw [T.get_puts, if_pos (by simp; omega), Nat.sub_zero]
            by_cases hjk : j < k * z
            · rw [if_pos hjk, List.getElem?_append_left (by omega), h2 j hjk]
            · rw [if_neg hjk, List.getElem?_append_right (by omega), h1]
          · cases ha
      · cases ha
    simp only [Bool.and_eq_true] at hc
    obtain ⟨⟨he, hle⟩, hone⟩ := hc
    have he := Nat.eq_of_beq_eq_true he
    have hle := Nat.le_of_ble_eq_true hle
    subst he
    obtain ⟨arr, a1, a2, a3, a4⟩ := h.row r _ hrow
    have hag := fun b o k v => Env.agree_set σ m.nx b o k v
    -- the old cells, as the world has them
    have holds : ∀ j, j < k * z → ∃ c, cs.get (o + j) = some c ∧ C.lt m.nx c ∧ arr[σ.o r + (o + j)]? = some (realC σ c) := fun j hj => a4 (o + j) (by omega)
    by_cases hroom : k + n ≤ capR σ r o z
    · have hfit : σ.o r + o + (k * z + n * z) ≤ σ.k r := by
        have h1 : (k + n) * z ≤ σ.k r - (σ.o r + o) := Nat.le_trans (Nat.mul_le_mul_right z hroom) (Nat.div_mul_le_self _ _)
        rw [Nat.add_mul] at h1
        omega
      have hst := run_storeCells_at P (σ.b r) (σ.o r + o + k * z) e (new.map (realC σ)) 0 arr w a1 (by simp; omega) (ones_real hone)
      simp only [Nat.add_zero, List.length_map] at hst
      refine ⟨σ.set m.nx (σ.b r) (σ.o r + o) (σ.k r) undef, _, ?_, step_move h hrow e _ cs' (σ.b r) (σ.o r + o) (σ.k r) undef (goes_setRow w (σ.b r) (arr.toList.take (σ.o r + o + k * z) ++ new.map (realC σ) ++ arr.toList.drop (σ.o r + o + k * z + new.length)).toArray)
        (fun b _ hb => setRow_other w _ b _ hb) (.inr rfl) ⟨(arr.toList.take (σ.o r + o + k * z) ++ new.map (realC σ) ++ arr.toList.drop (σ.o r + o + k * z + new.length)).toArray, ?_, ?_, ?_, fun j hj => ?_⟩, h.ltnx⟩
      · rw [run_room (ty := ty) hu hs hsrc hroom (by rw [addr_add]; exact hst)]
        simp [one, realW, realV, realC, capR]
      · rw [Env.set_b]; exact setRow_heap w (σ.b r) arr _ e (0, 0) a1
      · simp; omega
      · simp; omega
      · rw [hcs' j hj, Env.set_o]
        have hsz : (arr.toList.take (σ.o r + o + k * z)).length = σ.o r + o + k * z := by simp; omega
        rw [List.getElem?_toArray, List.append_assoc, List.getElem?_append, hsz]
        by_cases hjk : j < k * z
        · rw [if_pos hjk, if_pos (by omega)]
          obtain ⟨c, hc, hl, hv⟩ := holds j hjk
          refine ⟨c, hc, hl.mono (Nat.le_succ _), ?_⟩
          rw [(hag _ _ _ _).realC hl, ← hv, List.getElem?_take, if_pos (by omega)]
          simp [Nat.add_assoc]
        · rw [if_neg hjk, if_neg (by omega), List.getElem?_append_left (by simp; omega)]
          have hlt : j - k * z < new.length := by omega
          refine ⟨new[j - k * z], List.getElem?_eq_getElem hlt, (hnl _ (List.getElem_mem hlt)).mono (Nat.le_succ _), ?_⟩
          rw [(hag _ _ _ _).realC (hnl _ (List.getElem_mem hlt)), show σ.o r + o + j - (σ.o r + o + k * z) = j - k * z by omega, List.getElem?_map, List.getElem?_eq_getElem hlt]; rfl
    · -- no room: a new row
      obtain ⟨old, hol, hoc⟩ : ∃ old : List C, old.length = k * z ∧ ∀ j, j < k * z → ∃ c, cs.get (o + j) = some c ∧ old[j]? = some c := by
        refine ⟨(List.range (k * z)).map fun j => (cs.get (o + j)).getD (.raw .nilFunc), by simp, fun j hj => ?_⟩
        obtain ⟨c, hc, _⟩ := holds j hj
        exact ⟨c, hc, by simp [hj, hc]⟩
      have hold : (Builtin.firstCells z k (.slice (some ⟨σ.b r, σ.o r + o, none⟩) k (capR σ r o z))).run P w.drew = .ok (old.map (realC σ)).toArray w.drew := by
        refine run_firstCells_some w.drew z k ⟨σ.b r, σ.o r + o, none⟩ k _ (old.map (realC σ)) (by simpa using hol) (fun j v hv => ?_)
        have hj : j < k * z := by have := (List.getElem?_eq_some_iff.1 hv).1; simp at this; omega
        obtain ⟨c, hc, hx⟩ := hoc j hj
        obtain ⟨c', hc', _, ha'⟩ := holds j hj
        rw [hc] at hc'; cases hc'
        rw [List.getElem?_map, hx] at hv
        cases hv
        rw [addr_add]
        show w.cell? _ = _
        rw [World.cell?, a1]
        simpa [Nat.add_assoc] using ha'
      obtain ⟨cap, w', hr, hge, hg, arr', hw, hsz, hle', hget⟩ := grow_ok (ty := ty) (old := old) hu hs hz hzero hsrc hol hold (by omega) hn hb
      refine ⟨σ.set m.nx w.heap.size 0 arr'.size undef, w', ?_, step_move h hrow e _ cs' w.heap.size 0 arr'.size undef hg (fun b hb _ => by rw [hw, Array.getElem?_push, if_neg (by omega)]) (.inl rfl)
        ⟨arr', by rw [Env.set_b, hw]; simp, by simp, by rw [Env.set_o]; simp at hle'; omega, fun j hj => ?_⟩, h.ltnx⟩
      · rw [hr]
        have : capR (σ.set m.nx w.heap.size 0 arr'.size undef) m.nx 0 z = cap := capR_new _ _ _ _ _ _ _ _ hz (by omega)
        simp [one, realW, realV, realC, this]
      · rw [hcs' j hj, Env.set_o, Nat.zero_add, hget j (by simp; omega), List.map_append]
        by_cases hjk : j < k * z
        · rw [if_pos hjk]
          obtain ⟨c, hc, hx⟩ := hoc j hjk
          obtain ⟨c', hc', hl, _⟩ := holds j hjk
          rw [hc] at hc'; cases hc'
          refine ⟨c, hc, hl.mono (Nat.le_succ _), ?_⟩
          rw [(hag _ _ _ _).realC hl, List.getElem?_append_left (by simp; omega), List.getElem?_map, hx]; rfl
        · rw [if_neg hjk]
          have hlt : j - k * z < new.length := by omega
          refine ⟨new[j - k * z], List.getElem?_eq_getElem hlt, (hnl _ (List.getElem_mem hlt)).mono (Nat.le_succ _), ?_⟩
          rw [(hag _ _ _ _).realC (hnl _ (List.getElem_mem hlt)), List.getElem?_append_right (by simp; omega), List.length_map, hol, List.getElem?_map, List.getElem?_eq_getElem hlt]; rfl
  · cases ha
end
end Go.Ex
