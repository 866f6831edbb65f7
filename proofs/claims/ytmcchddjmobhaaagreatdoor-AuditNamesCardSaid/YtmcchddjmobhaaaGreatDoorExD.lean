/- The executor is sound: copy, clear. -/
import Derived.CallsIn
import Derived.Test.YtmcchddjmobhaaaGreatDoorExC
set_option linter.unusedVariables false
set_option linter.unusedSimpArgs false
set_option linter.unusedSectionVars false
namespace Go.Ex
variable [Holes]
section
variable {P : Program} {K : Nat → Option (List Value)} {σ τ : Env} {m m1 : Mem} {w w1 : World}
theorem append0_ok (h : Rel K σ m w) {sT xT ty : Nat} {s x y : W} (ha : app0W P m sT xT s x = .ok y m1) (hsl : s.lt m.nx) :
    ∃ τ w', (Builtin.append_ #[sT, xT] ty #[realW σ s, realW σ x]).run P w = .ok (realW τ y) w' ∧ Step K σ m w τ m1 w' ∧ y.lt m1.nx := by
  unfold app0W at ha
  split at ha
  · cases ha
  · rename_i e z hty
    obtain ⟨hu, hs⟩ := sliceTy_ok hty
    split at ha
    · cases ha
    · rename_i n new hsrc
      obtain ⟨hS, hnl, hone⟩ := src_ok h hsrc
      obtain ⟨i, hi, hisz⟩ : ∃ i, P.info? e = some i ∧ i.size = z := by
        cases hi : P.info? e with
        | none => unfold sizeOf? at hs; rw [hi] at hs; cases hs
        | some i => exact ⟨i, rfl, size_of_info hs hi⟩
      have nothing : ∀ base k q, n = 0 → k ≤ q → (Builtin.append_ #[sT, xT] ty #[.slice base k q, realW σ x]).run P w = .ok (.slice base k q) w := fun base k q hn hkq => by
        subst hn
        have hnil : new.map (realC σ) = [] := List.eq_nil_of_length_eq_zero (by rw [hS.newsLen, Nat.zero_mul])
        rw [hnil, ← hisz] at hS
        exact run_append_nothing w sT xT ty e i hu hi base k q hkq _ hS
      split at ha
      · rw [cond_eq_ite] at ha
        split at ha
        · rename_i hn
          cases ha
          exact ⟨σ, w, nothing none 0 0 (Nat.eq_of_beq_eq_true hn) (Nat.le_refl _), Step.refl h, trivial⟩
        · rename_i hn
          rw [cond_eq_ite] at ha
          split at ha
          · rename_i hc
            simp only [Bool.and_eq_true] at hc
            obtain ⟨⟨⟨h1, h2⟩, h3⟩, h4⟩ := hc
            have h1 := Nat.le_of_ble_eq_true h1
            have h2 := Nat.le_of_ble_eq_true h2
            have hn : n ≠ 0 := fun e => hn (by rw [e]; rfl)
            refine appN_ok (k := 0) (q := 0) (base := none) (old := []) h hu hs (Nat.le_of_ble_eq_true h3) h4 hS hnl (fun c hc => by cases hc) (by simp) (run_firstCells_none w.drew z 0 0 0) (by omega) (by omega) (by simpa using h2) ?_
            simpa using ha
          · cases ha
      · rename_i r o k z' cap
        rw [cond_eq_ite] at ha
        split at ha
        · rename_i hc
          simp only [Bool.and_eq_true] at hc
          obtain ⟨⟨⟨⟨h0, h1⟩, h2⟩, h3⟩, h4⟩ := hc
          have h0 := Nat.eq_of_beq_eq_true h0
          have h1 : 0 < z := Nat.le_of_ble_eq_true h1
          have h2 := Nat.le_of_ble_eq_true h2
          have h3 := Nat.le_of_ble_eq_true h3
          subst h0
          split at ha
          · rename_i c
            rw [cond_eq_ite] at ha
            split at ha
            · rename_i hn
              rw [cond_eq_ite] at ha
              split at ha
              · rename_i hkc
                cases ha
                exact ⟨σ, w, nothing _ k c (Nat.eq_of_beq_eq_true hn) (Nat.le_of_ble_eq_true hkc), Step.refl h, hsl⟩
              · cases ha
            · exact appC_ok h hu hs h1 h4 hS hnl hsl h2 h3 ha
          · rw [cond_eq_ite] at ha
            split at ha
            · rename_i hn
              rw [cond_eq_ite] at ha
              split at ha
              · rename_i hf
                cases ha
                have hfit := fits_ok h hf
                refine ⟨σ, w, nothing _ k (capR σ r o z) (Nat.eq_of_beq_eq_true hn) ?_, Step.refl h, hsl⟩
                unfold capR
                rw [Nat.le_div_iff_mul_le h1]
                omega
              · cases ha
            · exact appU_ok h hu hs h1 h4 hS hnl h2 h3 ha
        · cases ha
      · cases ha
theorem run_append_make (w : World) (t tx ty e : TypeId) (kk kx : IntKind) (i : TypeInfo) (v : Value) (ht : P.underlying t = some (.slice e)) (hx : P.underlying tx = some (.int kk)) (hi : P.info? e = some i) (hv : i.zero = some v) (n : Nat) (h0 : 0 < n) (hn : n ≤ 65536) (hs : 0 < i.size) (hb : n * i.bytes ≤ 140737488355328) :
    (Builtin.append_ #[t, tx] ty #[.slice none 0 0, .int kx (n : Int)]).run P w =
      .ok (.slice (some ⟨w.heap.size, 0, none⟩) n (grownCap w n 0 e)) (w.drew.alloc (.cells (Builtin.zeroCells v.cells n ++ Builtin.zeroCells v.cells (grownCap w n 0 e - n)) e)) := by
  have hw := wrap_small hn
  have hfit := growslice_fits (old := 0) (bytes := i.bytes) h0 hb
  have h48' : ¬ (281474976710656 < Builtin.nextslicecap n 0 * i.bytes) := by omega
  have h48 : ¬ ((281474976710656 : Int) < (n : Int) * (i.bytes : Int)) := by
    rw [← Int.natCast_mul]
    omega
  have hn0 : ¬ (n = 0) := by omega
  have hsz : ¬ (i.size = 0) := by omega
  have h63' : ¬ (9223372036854775807 < (n : Int)) := by omega
  have hneg : ¬ ((n : Int) < 0) := by omega
  simp [Builtin.append_, run_underlying ht, run_underlying hx, sizeOf, typeInfo, zeroValue, hi, hv, hw, asInt, asIntOf, hneg, h48, h48', hn0, hsz, h63', Question.forced, Builtin.firstCells, newRow, grownCap]
  intro hq
  rw [Nat.mul_eq_zero] at hq
  omega
theorem makeNil_ok (h : Rel K σ m w) {sT xT ty : Nat} {kx : IntKind} {n : Int} {y : W} (ha : makeNil P m sT xT n = .ok y m1) :
    ∃ τ w', (Builtin.append_ #[sT, xT] ty #[.slice none 0 0, .int kx n]).run P w = .ok (realW τ y) w' ∧ Step K σ m w τ m1 w' ∧ y.lt m1.nx := by
  unfold makeNil at ha
  split at ha
  · rename_i e z kk n hty hx
    obtain ⟨hu, hs⟩ := sliceTy_ok hty
    rw [cond_eq_ite] at ha
    split at ha
    · rename_i hc
      simp only [Bool.and_eq_true] at hc
      obtain ⟨⟨⟨h1, h2⟩, h3⟩, h4⟩ := hc
      have h1 : 0 < n := Nat.le_of_ble_eq_true h1
      have h2 : 0 < z := Nat.le_of_ble_eq_true h2
      have h3 := Nat.le_of_ble_eq_true h3
      have h4 := Nat.le_of_ble_eq_true h4
      split at ha
      · rename_i c hz
        rw [cond_eq_ite] at ha
        split at ha
        · rename_i hl
          have hl := Nat.eq_of_beq_eq_true hl
          have hzero : zeroIs P e z = true := by unfold zeroIs; rw [hz]; simp [hl]
          obtain ⟨v, _, rfl, i, hi, hv⟩ := run_zero' (w := w) hz
          have hisz := size_of_info hs hi
          subst hisz
          have hvs : v.cells.size = i.size := by rw [← hl, ← ofV_cells_real σ v]; simp
          have hby : bytes? P e = i.bytes := by unfold bytes?; rw [hi]
          rw [hby] at h4
          have hr := run_append_make w sT xT ty e kk kx i v hu hx hi hv n h1 h3 h2 h4
          have hge := grownCap_ge w n 0 e
          cases ha
          have hzr : Builtin.zeroCells v.cells n = ((reps (V.of v).cells n).map (realC σ)).toArray := zeros_real σ v n
          have hlen : (reps (V.of v).cells n).length = n * i.size := by rw [reps_length, hl]
          refine ⟨_, w.drew.alloc (.cells (Builtin.zeroCells v.cells n ++ Builtin.zeroCells v.cells (grownCap w n 0 e - n)) e), ?_, step_new h e (reps (V.of v).cells n) (reps_mem (fun x hx => ofV_cells_lt m.nx v x hx) n) (Builtin.zeroCells v.cells n ++ Builtin.zeroCells v.cells (grownCap w n 0 e - n)) ?_ (fun j hj => ?_) ⟨rfl, rfl, rfl, by simp⟩ rfl, h.ltnx⟩
          · have hcap : capR (σ.set m.nx w.heap.size 0 (Builtin.zeroCells v.cells n ++ Builtin.zeroCells v.cells (grownCap w n 0 e - n)).size undef) m.nx 0 i.size = grownCap w n 0 e := by
              refine capR_new _ _ _ _ _ _ _ _ h2 ?_
              rw [Array.size_append, size_zeroCells, size_zeroCells, hvs, ← Nat.add_mul]
              rw [Nat.zero_add]
              congr 1
              omega
            show (Builtin.append_ #[sT, xT] ty #[.slice none 0 0, .int kx ((n : Nat) : Int)]).run P w = _
            rw [hr]
            rw [Array.size_append] at hcap
            simp [one, realW, realV, realC, hcap]
          · rw [Array.size_append, hzr]; simp
          · rw [hzr, Array.getElem?_append_left (by simpa using hj), List.getElem?_toArray]
        · cases ha
      · cases ha
    · cases ha
  · cases ha
theorem view_ok {r o k : Nat} {g : Nat → Option C} (hv : viewW m r o k = some g) : ∃ l, m.read r o k = some l ∧ l.length = k ∧ (∀ j, j < k → g j = l[j]?) ∧ l.all oneB = true := by
  unfold viewW at hv
  split at hv
  · rename_i e q cs hrow
    obtain ⟨hc, hv⟩ := cond_some hv
    cases hv
    rw [Bool.and_eq_true] at hc
    obtain ⟨h1, h2⟩ := hc
    have hall : ∀ j, j < k → ∃ c, cs.get (o + j) = some c ∧ oneB c = true := fun j hj => by
      have h3 := allR_ok _ _ _ _ h2 j (Nat.zero_le _) (by have := deep_lt k; omega) hj
      cases hx : cs.get (o + j) with
      | none => simp only [Nat.add_eq] at h3; rw [hx] at h3; cases h3
      | some c => simp only [Nat.add_eq] at h3; rw [hx] at h3; exact ⟨c, rfl, h3⟩
    obtain ⟨l, hl⟩ : ∃ l, cs.list o k = some l := by
      clear h1 h2 hv hrow
      revert hall
      induction k generalizing o with
      | zero => exact fun _ => ⟨[], rfl⟩
      | succ k ih =>
        intro hall
        obtain ⟨c, hc, _⟩ := hall 0 (by omega)
        obtain ⟨l, hl⟩ := ih (o := o + 1) (fun j hj => by have := hall (j + 1) (by omega); rwa [show o + (j + 1) = o + 1 + j by omega] at this)
        refine ⟨c :: l, ?_⟩
        rw [T.list]; rw [Nat.add_zero] at hc; rw [hc, hl]
    obtain ⟨g1, g2⟩ := T.list_spec _ _ _ _ hl
    refine ⟨l, ?_, g1, fun j hj => g2 j hj, ?_⟩
    · unfold Mem.read
      rw [hrow]
      simp only [h1, cond_true, hl]
    · rw [List.all_eq_true]
      intro c hc
      obtain ⟨j, hj, rfl⟩ := List.getElem_of_mem hc
      obtain ⟨c', hc', ho⟩ := hall j (by omega)
      rw [g2 j (by omega), List.getElem?_eq_getElem hj] at hc'
      cases hc'
      exact ho
  · cases hv
theorem big_ok (h : Rel K σ m w) {sT xT ty : Nat} {s x y : W} (ha : bigW P m sT xT s x = .ok y m1) :
    ∃ τ w', (Builtin.append_ #[sT, xT] ty #[realW σ s, realW σ x]).run P w = .ok (realW τ y) w' ∧ Step K σ m w τ m1 w' ∧ y.lt m1.nx := by
  unfold bigW at ha
  split at ha
  · rename_i r o k z' c r2 o2 n z2 c2
    rw [cond_eq_ite] at ha
    split at ha
    · rename_i hc
      simp only [Bool.and_eq_true] at hc
      obtain ⟨⟨hc0, hk0⟩, hbig⟩ := hc
      have hc0 := Nat.eq_of_beq_eq_true hc0
      have hk0 := Nat.eq_of_beq_eq_true hk0
      have hbig := Nat.le_of_ble_eq_true hbig
      subst hc0 hk0
      split at ha
      · rename_i e z e' hty hu'
        obtain ⟨hu, hs⟩ := sliceTy_ok hty
        rw [cond_eq_ite] at ha
        split at ha
        · rename_i hc
          simp only [Bool.and_eq_true] at hc
          obtain ⟨⟨⟨⟨⟨h0, h0'⟩, h2⟩, h3⟩, h1⟩, h4⟩ := hc
          have h0 := Nat.eq_of_beq_eq_true h0
          have h0' := Nat.eq_of_beq_eq_true h0'
          have h1 : 0 < z := Nat.le_of_ble_eq_true h1
          have h2 := Nat.le_of_ble_eq_true h2
          have h3 := Nat.le_of_ble_eq_true h3
          subst h0 h0'
          split at ha
          · rename_i g hv
            obtain ⟨l, hl, hlen, hg, hone⟩ := view_ok hv
            have hS := src_ok h (z := z) (t := xT) (x := .v (.c (.sl r2 o2 n z c2))) (n := n) (new := l) (by
              unfold srcW
              rw [hu']
              have hl' : m.read r2 o2 (n * z) = some l := hl
              simp only [hl', hone]
              have : Nat.beq z z = true := Nat.beq_refl z
              rw [this]; rfl)
            exact appT_ok h hu hs h1 h4 hS.1 hS.2.1 (run_firstCells_some w.drew z 0 _ 0 0 [] (by simp) (fun j v hj => by simp at hj)) (by rcases Nat.eq_zero_or_pos n with hn | hn; subst hn; omega; exact hn) h2 h3 hlen.symm (fun j hj => hg j (by omega)) ha
          · cases ha
        · cases ha
      · cases ha
    · cases ha
  · cases ha
theorem append_ok (h : Rel K σ m w) {sT xT ty : Nat} {s x y : W} (ha : appendW P m sT xT s x = .ok y m1) (hsl : s.lt m.nx) :
    ∃ τ w', (Builtin.append_ #[sT, xT] ty #[realW σ s, realW σ x]).run P w = .ok (realW τ y) w' ∧ Step K σ m w τ m1 w' ∧ y.lt m1.nx := by
  unfold appendW at ha
  split at ha
  · rename_i y' m' hb
    cases ha
    exact big_ok h hb
  · unfold app1W at ha
    split at ha
    · exact makeNil_ok h ha
    · exact append0_ok h ha hsl
theorem len_ok {x : W} {n : Nat} (h : lenW x = some n) : (Builtin.lenOf (realW σ x)).run P w = .ok n w := by
  unfold lenW at h
  split at h
  · rename_i r o n z c
    cases h
    cases c <;> rfl
  · cases h; rfl
  · cases h; rfl
  · cases h; rfl
  · cases h
theorem first_ok (h : Rel K σ m w) {z n : Nat} {x : W} {l : List C} (hf : firstW m z n x = some l) :
    (Builtin.firstCells z n (realW σ x)).run P w = .ok (l.map (realC σ)).toArray w ∧ ∀ c ∈ l, C.lt m.nx c := by
  unfold firstW at hf
  split at hf
  · rename_i r o k z' c
    rw [cond_eq_ite] at hf
    split at hf
    · rename_i hc
      simp only [Bool.and_eq_true] at hc
      have hz := Nat.eq_of_beq_eq_true hc.1
      subst hz
      obtain ⟨h1, h2, h3⟩ := read_ok h hf
      refine ⟨?_, h2⟩
      have : ∃ q, realW σ (.v (.c (.sl r o k z c))) = .slice (some ⟨σ.b r, σ.o r + o, none⟩) k q := by cases c <;> exact ⟨_, rfl⟩
      obtain ⟨q, hq⟩ := this
      rw [hq]
      exact run_firstCells_some w z n _ k q _ (by simpa using h1) h3
    · cases hf
  · rename_i b
    obtain ⟨hc, hf⟩ := cond_some hf
    cases hf
    refine ⟨?_, fun c hc => by obtain ⟨v, _, rfl⟩ := List.mem_map.1 hc; trivial⟩
    rw [show realW σ (.v (.c (.raw (.string b)))) = .string b from rfl]
    simp only [Builtin.firstCells, Sem.run_pure, List.map_map]
    congr 1
    apply Array.ext'
    simp
    rfl
  · cases hf
theorem copy_ok (h : Rel K σ m w) {dT xT ty : Nat} {d x y : W} (hc : copyW P m dT d x = .ok y m1) :
    ∃ w', (Builtin.copy_ #[dT, xT] ty #[realW σ d, realW σ x]).run P w = .ok (realW σ y) w' ∧ Step K σ m w σ m1 w' ∧ y.lt m1.nx := by
  unfold copyW at hc
  split at hc
  · rename_i e z r o a z' c b hty hlen
    obtain ⟨hu, hs⟩ := sliceTy_ok hty
    have hd : ∃ q, realW σ (.v (.c (.sl r o a z' c))) = .slice (some ⟨σ.b r, σ.o r + o, none⟩) a q := by cases c <;> exact ⟨_, rfl⟩
    obtain ⟨q, hq⟩ := hd
    have hl := fun w : World => len_ok (σ := σ) (P := P) (w := w) hlen
    dsimp only at hc
    rw [cond_eq_ite] at hc
    split at hc
    · rename_i hn
      have hn := Nat.eq_of_beq_eq_true hn
      cases hc
      have hz : (Builtin.firstCells z 0 (realW σ x)).run P w = .ok #[] w := by
        unfold lenW at hlen
        split at hlen
        · rename_i r' o' n' z'' c'
          have : ∃ q, realW σ (.v (.c (.sl r' o' n' z'' c'))) = .slice (some ⟨σ.b r', σ.o r' + o', none⟩) n' q := by cases c' <;> exact ⟨_, rfl⟩
          obtain ⟨q, hq⟩ := this
          rw [hq]
          exact run_firstCells_some w z 0 _ n' q [] (by simp) (fun j v hj => by simp at hj)
        · rename_i r' p' o' z''
          exact run_firstCells_some w z 0 ⟨_, _, none⟩ 0 _ [] (by simp) (fun j v hj => by simp at hj)
        · rename_i a' n' c'
          cases a' with
          | none => exact run_firstCells_none w z 0 n' c'
          | some a' => exact run_firstCells_some w z 0 _ n' c' [] (by simp) (fun j v hj => by simp at hj)
        · rename_i s
          show (Builtin.firstCells z 0 (.string s)).run P w = _
          simp [Builtin.firstCells]
        · cases hlen
      refine ⟨w, ?_, Step.refl h, trivial⟩
      rw [hq]
      simp only [Builtin.copy_]
      simp [run_underlying hu, hl, run_sizeOf' hs, hn, hz, storeCells]
      simp [one, realW, realV, realC, hn]
    · rw [cond_eq_ite] at hc
      split at hc
      · rename_i hz
        have hz := Nat.eq_of_beq_eq_true hz
        subst hz
        split at hc
        · rename_i l hf
          split at hc
          · rename_i m2 hw
            cases hc
            obtain ⟨f1, f2⟩ := first_ok (P := P) h hf
            obtain ⟨e', arr, h1, h2, h3, h4⟩ := step_write h hw f2
            have hst := run_storeCells_at P (σ.b r) (σ.o r + o) e' (l.map (realC σ)) 0 arr w h1 (by simpa using h2) h3
            simp only [Nat.add_zero, List.length_map] at hst
            refine ⟨_, ?_, h4, trivial⟩
            rw [hq]
            simp only [Builtin.copy_]
            simp [run_underlying hu, hl, run_sizeOf' hs, f1, hst]
            simp [one, realW, realV, realC]
          · cases hc
        · cases hc
      · cases hc
  · cases hc
end
end Go.Ex
namespace Go.Ex
variable [Holes]
section
variable {P : Program} {K : Nat → Option (List Value)} {σ τ : Env} {m m1 : Mem} {w w1 : World}
theorem clear_ok (h : Rel K σ m w) {t ty : Nat} {x y : W} (hc : clearW P m t x = .ok y m1) :
    ∃ w', (Builtin.clear_ #[t] ty #[realW σ x]).run P w = .ok (realW σ y) w' ∧ Step K σ m w σ m1 w' ∧ y.lt m1.nx := by
  unfold clearW at hc
  split at hc
  · rename_i e z r o n z' c hty
    obtain ⟨hu, hs⟩ := sliceTy_ok hty
    have hd : ∃ q, realW σ (.v (.c (.sl r o n z' c))) = .slice (some ⟨σ.b r, σ.o r + o, none⟩) n q := by cases c <;> exact ⟨_, rfl⟩
    obtain ⟨q, hq⟩ := hd
    rw [cond_eq_ite] at hc
    split at hc
    · rename_i hn
      have hn := Nat.eq_of_beq_eq_true hn
      subst hn
      cases hc
      refine ⟨w, ?_, Step.refl h, undefW_lt _⟩
      rw [hq]
      simp [Builtin.clear_, run_underlying hu, undefW, realW]
    · rename_i hn
      rw [cond_eq_ite] at hc
      split at hc
      · rename_i hz
        simp only [Bool.and_eq_true] at hz
        obtain ⟨⟨hz, hz0⟩, hzi⟩ := hz
        have hz := Nat.eq_of_beq_eq_true hz
        have hz0 : 0 < z := Nat.le_of_ble_eq_true hz0
        subst hz
        split at hc
        · rename_i l hzl
          split at hc
          · rename_i m2 hw
            cases hc
            obtain ⟨z1, zero, z2, z3⟩ := zeros_ok (m := m) (w := w) (σ := σ) hs hzl
            obtain ⟨e', arr, h1, h2, h3, h4⟩ := step_write h hw z1
            have hst := run_storeCells_at P (σ.b r) (σ.o r + o) e' (l.map (realC σ)) 0 arr w h1 (by simpa using h2) h3
            simp only [Nat.add_zero, List.length_map] at hst
            refine ⟨_, ?_, h4, undefW_lt _⟩
            rw [hq]
            have hn0 : n ≠ 0 := fun e => hn (by rw [e]; rfl)
            rcases z2 with ⟨h0, rfl⟩ | ⟨h0, v, hv, rfl⟩
            · exact absurd h0 (Nat.mul_ne_zero hn0 (by omega))
            · obtain ⟨i, v', hi, hiz, hvs⟩ := zeroIs_ok hzi
              have : v = v' := by
                simp [zeroValue, typeInfo, hi, hiz] at hv
                exact hv.symm
              subst this
              have hzc : Builtin.zeroCells v.cells n = (l.map (realC σ)).toArray := by rw [← z3, ← hvs]; rfl
              obtain ⟨k, rfl⟩ : ∃ k, n = k + 1 := ⟨n - 1, by omega⟩
              simp [Builtin.clear_, run_underlying hu, hv, hzc, hst, undefW, realW]
          · cases hc
        · cases hc
      · cases hc
  · rename_i e z q c hty
    obtain ⟨hu, hs⟩ := sliceTy_ok hty
    cases hc
    refine ⟨w, ?_, Step.refl h, undefW_lt _⟩
    show (Builtin.clear_ #[t] ty #[.slice none q c]).run P w = _
    simp [Builtin.clear_, run_underlying hu, undefW, realW]
  · rename_i e z r p o z' hty
    obtain ⟨hu, hs⟩ := sliceTy_ok hty
    cases hc
    refine ⟨w, ?_, Step.refl h, undefW_lt _⟩
    show (Builtin.clear_ #[t] ty #[.slice (some _) 0 _]).run P w = _
    simp [Builtin.clear_, run_underlying hu, undefW, realW]
  · cases hc
end
end Go.Ex
namespace Go.Ex
variable [Holes]
section
variable {P : Program} {K : Nat → Option (List Value)} {σ τ : Env} {m m1 : Mem} {w w1 : World}
/-- what an operation that calls nothing does -/
def Does (P : Program) (K : Nat → Option (List Value)) (σ : Env) (m : Mem) (w : World) (s : Sem Value) (x : W) (m1 : Mem) : Prop :=
  ∃ τ w', s.run P w = .ok (realW τ x) w' ∧ Step K σ m w τ m1 w' ∧ x.lt m1.nx
theorem Does.pure (h : Rel K σ m w) {s : Sem Value} {x : W} (hs : s.run P w = .ok (realW σ x) w ∧ x.lt m.nx) : Does P K σ m w s x m := ⟨σ, w, hs.1, Step.refl h, hs.2⟩
theorem purW_ok {x : Option W} {y : W} (h : purW x m = .ok y m1) : x = some y ∧ m1 = m := by
  cases x with
  | none => cases h
  | some x => cases h; exact ⟨rfl, rfl⟩
theorem un_ok {op : UnOp} {x y : W} (h : unW P op x = some y) (n : Nat) : (Op.unary op (realW σ x)).run P w = .ok (realW σ y) w ∧ y.lt n := by
  unfold unW at h
  split at h
  · rename_i v hv
    rw [rawW_ok hv]
    exact prun_ok h n
  · cases h
theorem conv_ok {a b : Nat} {x y : W} (h : convW P a b x = some y) (n : Nat) : (convert a b (realW σ x)).run P w = .ok (realW σ y) w ∧ y.lt n := by
  unfold convW at h
  split at h
  · rename_i v hv
    rw [rawW_ok hv]
    exact prun_ok h n
  · cases h
theorem bytesW_ok : ∀ {l : List C} {ns : List Int}, bytesW l = some ns → l.map (realC σ) = ns.map (Value.int .u8)
  | [], ns, h => by cases h; rfl
  | c :: l, ns, h => by
    unfold bytesW at h
    split at h
    · rename_i he; cases he
    · rename_i n l' he
      cases he
      split at h
      · rename_i ns' hn
        cases h
        rw [List.map_cons, List.map_cons, bytesW_ok hn]; rfl
      · cases h
    · cases h
theorem strB_ok (ns : List Int) : ns.foldl (fun r n => r.push (UInt8.ofNat n.toNat)) ByteArray.empty = strB ns := by
  have key : ∀ (ns : List Int) (s : ByteArray), ns.foldl (fun r n => r.push (UInt8.ofNat n.toNat)) s = ⟨⟨s.data.toList ++ ns.map fun n => UInt8.ofNat n.toNat⟩⟩ := by
    intro ns
    induction ns with
    | nil => intro s; simp
    | cons n ns ih =>
      intro s
      rw [List.foldl_cons, ih]
      simp [ByteArray.push]
  rw [key]
  simp [strB, ByteArray.empty, ByteArray.emptyWithCapacity]
  try rfl
theorem convM_ok (h : Rel K σ m w) {a b : Nat} {x y : W} (hc : convM P m a b x = some y) : (convert a b (realW σ x)).run P w = .ok (realW σ y) w ∧ y.lt m.nx := by
  unfold convM at hc
  split at hc
  · rename_i r o n z c
    unfold strW at hc
    split at hc
    · rename_i e ha hb
      split at hc
      · rename_i he
        split at hc
        · rename_i l hr
          split at hc
          · rename_i ns hn
            cases hc
            refine ⟨?_, trivial⟩
            obtain ⟨h1, h2, h3⟩ := read_ok h hr
            have : ∃ q, realW σ (.v (.c (.sl r o n z c))) = .slice (some ⟨σ.b r, σ.o r + o, none⟩) n q := by cases c <;> exact ⟨_, rfl⟩
            obtain ⟨q, hq⟩ := this
            rw [hq, run_convert_bytes_string w a b e _ n q ha he hb]
            have hcs := run_loadCells_list (P := P) (w := w) _ _ h3
            rw [List.length_map, h1, bytesW_ok hn] at hcs
            rw [run_bytesToString w _ n q ns hcs, strB_ok]
            rfl
          · cases hc
        · cases hc
      · cases hc
    · cases hc
  · rename_i r p o z
    unfold emW at hc
    split at hc
    · rename_i e ha hb
      split at hc
      · rename_i he
        cases hc
        refine ⟨?_, trivial⟩
        have : ∃ ad q, realW σ (.v (.c (.em r p o z))) = .slice (some ad) 0 q := ⟨_, _, rfl⟩
        obtain ⟨ad, q, hq⟩ := this
        rw [hq, run_convert_bytes_string w a b e _ 0 q ha he hb]
        have hcs := run_loadCells_list (P := P) (w := w) ad [] (fun j v hv => by simp at hv)
        rw [run_bytesToString w _ 0 q [] (by simpa using hcs), strB_ok]
        rfl
      · cases hc
    · cases hc
  · exact conv_ok hc _
theorem nilCheck_ok (h : Rel K σ m w) {x y : W} (hn : nilCheckW m x = some y) (hx : x.lt m.nx) : y = x ∧ (∀ o : Oper, ∀ p ρ, o.op = .nilCheck p → ρ p = realW σ x → (execOp ρ o).run P w = .ok (.value (realW σ y)) w) := by
  unfold nilCheckW at hn
  split at hn
  · cases hn
    refine ⟨rfl, fun o p ρ ho hp => ?_⟩
    unfold execOp
    simp only [ho, hp]
    rfl
  · cases hn
    refine ⟨rfl, fun o p ρ ho hp => ?_⟩
    unfold execOp
    simp only [ho, hp]
    rfl
  · rename_i i
    obtain ⟨hc, hn⟩ := cond_some hn
    cases hn
    obtain ⟨f, a, b, hq, hne⟩ := plainFn_ok h hc
    refine ⟨rfl, fun o p ρ ho hp => ?_⟩
    have hq' : realW σ (.v (.c (.clo i))) = .func f a b := hq
    have hq2 : realW σ (one (.clo i)) = .func f a b := hq
    unfold execOp
    simp only [ho, hp, hq', hq2]
    cases f with
    | method n => exact absurd rfl (hne n)
    | func => rfl
    | methodOf => rfl
    | via => rfl
    | yield => rfl
  · cases hn
    refine ⟨rfl, fun o p ρ ho hp => ?_⟩
    unfold execOp
    simp only [ho, hp]
    rfl
  · cases hn
    refine ⟨rfl, fun o p ρ ho hp => ?_⟩
    unfold execOp
    simp only [ho, hp]
    rfl
  · cases hn
theorem val_step (h : Rel K σ m w) {x : V} (hx : x.lt m.nx) : Step K σ m w (σ.set m.nx 0 0 0 (realV σ x)) (m.add (.val x)).1 w := by
  have hag := Env.agree_set σ m.nx 0 0 0 (realV σ x)
  refine step_add h (.val x) 0 0 0 (realV σ x) (Goes.refl w) (fun _ _ => rfl) (fun hb => by cases hb) ⟨?_, hx.mono (Nat.le_succ _)⟩
  rw [Env.set_v, hag.realV hx]
theorem fn_step (h : Rel K σ m w) {f : Fn} {first caps : List W} (hf : ∀ x ∈ first, W.lt m.nx x) (hc : ∀ x ∈ caps, W.lt m.nx x) :
    Step K σ m w (σ.set m.nx 0 0 0 (.func f (first.map (realW σ)).toArray (caps.map (realW σ)).toArray)) (m.add (.fn f first caps)).1 w := by
  have hag := Env.agree_set σ m.nx 0 0 0 (.func f (first.map (realW σ)).toArray (caps.map (realW σ)).toArray)
  refine step_add h (.fn f first caps) 0 0 0 _ (Goes.refl w) (fun _ _ => rfl) (fun hb => by cases hb) ⟨?_, fun x hx => (hf x hx).mono (Nat.le_succ _), fun x hx => (hc x hx).mono (Nat.le_succ _)⟩
  rw [Env.set_v, hag.mapW hf, hag.mapW hc]
theorem iface_ok (h : Rel K σ m w) {t : Nat} {x y : W} (hi : ifaceW P m t x = .ok y m1) (hx : x.lt m.nx) : Does P K σ m w (Instr.makeInterface t (realW σ x)) y m1 := by
  unfold ifaceW at hi
  split at hi
  · cases hi
  · cases hi
  · rename_i v hu hne
    cases hi
    refine Does.pure h ⟨?_, trivial⟩
    cases hu' : P.underlying t with
    | none => exact absurd hu' hu
    | some d =>
      cases d <;> first | exact absurd hu' (hne _) | (simp [Instr.makeInterface, run_underlying hu', realW, realV, realC, one])
  · rename_i x _ hu hne
    cases hi
    refine ⟨_, w, ?_, val_step h hx, h.ltnx⟩
    cases hu' : P.underlying t with
    | none => exact absurd hu' hu
    | some d =>
      cases d <;> first | exact absurd hu' (hne _) | (simp [Instr.makeInterface, run_underlying hu', realW, realV, realC, one])
  · cases hi
theorem assert_ok (h : Rel K σ m w) {t t0 : Nat} {x y : W} {ok : Bool} (ha : assertW P m x t ok = some y) : (Instr.typeAssert (realW σ x) t0 t ok).run P w = .ok (realW σ y) w ∧ y.lt m.nx := by
  unfold assertW at ha
  split at ha
  · cases ha
  · cases ha
  · rename_i t' v hu hne
    replace ⟨hc, ha⟩ := cond_some ha
    have hc := Nat.eq_of_beq_eq_true hc
    subst hc
    refine ⟨?_, by subst ha; cases ok; exact ofW_lt _ _; intro z hz; simp at hz; rcases hz with rfl | rfl; exact ofV_lt _ _; trivial⟩
    show (Instr.typeAssert (.iface t v) t0 t ok).run P w = _
    cases hu' : P.underlying t with
    | none => exact absurd hu' hu
    | some d =>
      subst ha
      have e1 : realW σ (bif ok then W.t [V.of v, V.c (C.raw (Value.bool true))] else W.of v) = if ok then .tuple #[v, .bool true] else v := by
        cases ok
        · exact ofW_real σ v
        · show Value.tuple ([realV σ (V.of v), .bool true]).toArray = _
          rw [ofV_real]
          rfl
      rw [e1]
      cases ok <;> cases d <;> first | exact absurd hu' (hne _) | simp [Instr.typeAssert, run_underlying hu']
  · rename_i t' i hu hne
    rw [cond_eq_ite] at ha
    split at ha
    · rename_i hc
      have hc := Nat.eq_of_beq_eq_true hc
      subst hc
      split at ha
      · rename_i v hv
        cases ha
        obtain ⟨h1, h2⟩ := h.row i _ hv
        refine ⟨?_, by cases ok; exact h2; intro z hz; simp at hz; rcases hz with rfl | rfl; exact h2; trivial⟩
        show (Instr.typeAssert (.iface t (σ.v i)) t0 t ok).run P w = _
        rw [h1]
        cases hu' : P.underlying t with
        | none => exact absurd hu' hu
        | some d =>
          cases ok <;> cases d <;> first | exact absurd hu' (hne _) | simp [Instr.typeAssert, run_underlying hu', realW, realV, realC]
      · cases ha
    · cases ha
  · cases ha
end
end Go.Ex
