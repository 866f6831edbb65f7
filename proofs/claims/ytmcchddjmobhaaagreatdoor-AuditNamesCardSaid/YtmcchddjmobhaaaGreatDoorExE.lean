/- The executor is sound: calls. -/
import Derived.RangeFuncIn
import Derived.RangeFuncLeaves
import Derived.RangeFuncRecord
import Derived.Test.YtmcchddjmobhaaaGreatDoorExD
set_option linter.unusedVariables false
set_option linter.unusedSimpArgs false
set_option linter.unusedSectionVars false
namespace Go.Ex
variable [Holes]
section
variable {P : Program} {K : Nat → Option (List Value)} {σ τ : Env} {m m1 : Mem} {w w1 : World}
def entM (k : IntKind) (e : Int × Value × Nat) : MapEntry := ⟨.int k e.1, e.2.1, e.2.2⟩
theorem run_getMap {r : Nat} {es : Array MapEntry} {c : Nat} (h : w.heap[r]? = some (.map es c)) : (getObj r).run P w = .ok (.map es c) w := by simp [getObj, Sem.run, h]
theorem run_setMap {r : Nat} {es : Array MapEntry} {c : Nat} (o : Obj) (h : w.heap[r]? = some (.map es c)) : (setObj r o).run P w = .ok () (w.putObj r o) := by simp [setObj, Sem.run, h, World.putObj]
theorem goes_putM (w : World) (l : Nat) (o : Obj) : Goes w (w.putObj l o) := ⟨rfl, rfl, rfl, by simp [World.putObj]⟩
theorem rowM_heap (h : Rel K σ m w) {r : Nat} {k : IntKind} {es : List (Int × Value × Nat)} {c : Nat} (hr : m.S.get r = some (.map k es c)) : w.heap[σ.b r]? = some (.map (es.map (entM k)).toArray c) := h.row r _ hr
/-- a map is turned -/
theorem step_map (h : Rel K σ m w) {r : Nat} {k : IntKind} {es : List (Int × Value × Nat)} {c : Nat} (hr : m.S.get r = some (.map k es c)) (es' : List (Int × Value × Nat)) (c' : Nat) :
    Step K σ m w σ ⟨m.S.set r (.map k es' c'), m.nx, lower r m.lo⟩ (w.putObj (σ.b r) (.map (es'.map (entM k)).toArray c')) := by
  refine step_turnR h hr rfl rfl rfl (lower_le _ _).1 (lower_le _ _).2 (goes_putM _ _ _) (fun b hb => World.putObj_heap_other hb) ?_
  show (w.putObj (σ.b r) _).heap[σ.b r]? = some (.map (es'.map (entM k)).toArray c')
  exact World.putObj_heap_same (heap_lt (rowM_heap h hr))
theorem mapTy_ok {t et : Nat} {k : IntKind} (h : mapTy P t = some (k, et)) : ∃ kt, P.underlying t = some (.map kt et) ∧ P.underlying kt = some (.int k) := by
  unfold mapTy at h
  split at h
  · rename_i kt et' hu
    split at h
    · rename_i k' hk
      cases h
      exact ⟨kt, hu, hk⟩
    · cases h
  · cases h
theorem rowM_ok {k : IntKind} {x i : W} {r c : Nat} {es : List (Int × Value × Nat)} {n : Int} (h : rowM m k x i = some (r, es, c, n)) : x = .v (.c (.mp r)) ∧ i = .v (.c (.raw (.int k n))) ∧ m.S.get r = some (.map k es c) := by
  unfold rowM at h
  split at h
  · rename_i r' k' n'
    rw [cond_eq_ite] at h
    split at h
    · rename_i hk
      have hk := eq_of_beq hk
      subst hk
      split at h
      · rename_i kk es' c' hg
        rw [cond_eq_ite] at h
        split at h
        · rename_i hkk
          have hkk := eq_of_beq hkk
          subst hkk
          cases h
          exact ⟨rfl, rfl, hg⟩
        · cases h
      · cases h
    · cases h
  · cases h
def idxM (n : Int) : List (Int × Value × Nat) → Option Nat
  | [] => none
  | e :: es => if e.1 = n then some 0 else (idxM n es).map (· + 1)
theorem findM_idx (n : Int) (es : List (Int × Value × Nat)) : findM n es = (idxM n es).bind fun i => (es[i]?).map (·.2) := by
  induction es with
  | nil => rfl
  | cons e es ih =>
    unfold findM idxM
    by_cases he : e.1 = n
    · rw [if_pos he, he]; simp
    · rw [if_neg he, cond_eq_ite, if_neg (by simpa using he), ih]
      cases idxM n es <;> simp
theorem findNow_ok (q k : IntKind) (n : Int) (es : List (Int × Value × Nat)) (j : Nat) : Instr.findNow (.int q) (.int k n) (es.map (entM k)) j = some ((idxM n es).bind fun i => (es[i]?).map fun e => (j + i, e.2.1)) := by
  induction es generalizing j with
  | nil => rfl
  | cons e es ih =>
    have hs : Instr.sameNow (.int q) (.int k n) (.int k e.1) = some (n == e.1) := by simp [Instr.sameNow]
    show (match Instr.sameNow (.int q) (.int k n) (.int k e.1) with
      | some true => some (some (j, e.2.1))
      | some false => Instr.findNow (.int q) (.int k n) (es.map (entM k)) (j + 1)
      | none => none) = _
    rw [hs]
    unfold idxM
    by_cases he : e.1 = n
    · rw [if_pos he, he]; simp
    · have hb : (n == e.1) = false := by simpa using fun h => he h.symm
      rw [if_neg he, hb]
      show Instr.findNow _ _ _ (j + 1) = _
      rw [ih]
      cases hx : idxM n es with
      | none => rfl
      | some i => simp [Nat.add_assoc, Nat.add_comm 1 i]
theorem run_findKey {kt : Nat} {k : IntKind} (hk : P.underlying kt = some (.int k)) (n : Int) (es : List (Int × Value × Nat)) : (Instr.findKey kt (.int k n) (es.map (entM k))).run P w = .ok ((idxM n es).bind fun i => (es[i]?).map fun e => (i, e.2.1)) w := by
  unfold Instr.findKey
  rw [Sem.run_bind, run_underlying hk]
  simp only [Result.andThen_ok, findNow_ok, Nat.zero_add]
  rfl
theorem run_checkKey {kt : Nat} {k : IntKind} (hk : P.underlying kt = some (.int k)) (b : Bool) (n : Int) : (Instr.checkKey b 10000 kt (.int k n)).run P w = .ok () w := by
  unfold Instr.checkKey
  rw [Sem.run_bind, run_underlying hk]
  rfl
theorem run_zeroV {t : Nat} {z : Value} (h : zeroV P t = some z) : (zeroValue t).run P w = .ok z w := by
  unfold zeroV at h
  cases hi : P.info? t with
  | none => rw [hi] at h; cases h
  | some i =>
    rw [hi] at h
    simp [zeroValue, typeInfo, hi, show i.zero = some z from h]
theorem two_lt (v : Value) (b : C) (hb : C.lt m.nx b) : W.lt m.nx (.t [V.of v, .c b]) := fun x hx => by
  rcases List.mem_cons.1 hx with rfl | hx
  · exact ofV_lt _ _
  · rcases List.mem_cons.1 hx with rfl | hx
    · exact hb
    · cases hx
theorem lookup_ok (h : Rel K σ m w) {t : Nat} {x i y : W} {ok : Bool} (hl : lookupW P m t x i ok = some y) : (Instr.lookup t (realW σ x) (realW σ i) ok).run P w = .ok (realW σ y) w ∧ y.lt m.nx := by
  unfold lookupW at hl
  split at hl
  · rename_i k et hty
    obtain ⟨kt, hu, hk⟩ := mapTy_ok hty
    split at hl
    · rename_i r es c n hrow
      obtain ⟨rfl, rfl, hg⟩ := rowM_ok hrow
      have hh := rowM_heap h hg
      have key : ∀ v b, ((idxM n es).bind fun i => (es[i]?).map fun e => (i, e.2.1)) = (if b = true then some (0, v) else none) ∨ True := fun _ _ => .inr trivial
      split at hl
      · rename_i v bn hf
        cases hl
        rw [findM_idx] at hf
        obtain ⟨i, hi, he⟩ := Option.bind_eq_some_iff.1 hf
        obtain ⟨e, he1, he2⟩ := Option.map_eq_some_iff.1 he
        have hfk : ((idxM n es).bind fun i => (es[i]?).map fun e => (i, e.2.1)) = some (i, v) := by rw [hi]; simp [he1, he2]
        refine ⟨?_, by
          cases ok
          · exact ofW_lt _ _
          · exact two_lt _ _ trivial⟩
        unfold Instr.lookup
        simp only [Sem.run_bind, run_underlying hu, Result.andThen_ok, realW, realV, realC, run_getMap hh, Sem.run_pure, run_checkKey hk, List.toList_toArray, run_findKey hk, hfk]
        cases ok
        · show Result.ok v w = .ok (realW σ (W.of v)) w; rw [ofW_real]
        · show Result.ok (Value.tuple #[v, .bool true]) w = .ok (.tuple #[realV σ (V.of v), .bool true]) w
          rw [ofV_real]
      · rename_i z hf hz
        cases hl
        rw [findM_idx] at hf
        have hfk : ((idxM n es).bind fun i => (es[i]?).map fun e => (i, e.2.1)) = none := by
          cases hi : idxM n es with
          | none => rfl
          | some i =>
            rw [hi] at hf
            simp only [Option.bind_some, Option.map_eq_none_iff] at hf
            simp [hf]
        refine ⟨?_, by
          cases ok
          · exact ofW_lt _ _
          · exact two_lt _ _ trivial⟩
        unfold Instr.lookup
        simp only [Sem.run_bind, run_underlying hu, Result.andThen_ok, realW, realV, realC, run_getMap hh, Sem.run_pure, run_checkKey hk, List.toList_toArray, run_findKey hk, hfk, run_zeroV hz]
        cases ok
        · show Result.ok z w = .ok (realW σ (W.of z)) w; rw [ofW_real]
        · show Result.ok (Value.tuple #[z, .bool false]) w = .ok (.tuple #[realV σ (V.of z), .bool false]) w
          rw [ofV_real]
      · cases hl
    · cases hl
  · cases hl
theorem sl_ptr_new (k : Nat) (v : Value) : realW (σ.set m.nx w.heap.size 0 k v) (one (.mp m.nx)) = .map (some w.heap.size) := by
  simp [one, realW, realV, realC]
theorem makeMap_ok (h : Rel K σ m w) {t : Nat} {r : Option Operand} {y : W} (hm : makeMapW P m t r = .ok y m1) : r = none ∧
    ∃ τ w', (Instr.makeMap t none).run P w = .ok (realW τ y) w' ∧ Step K σ m w τ m1 w' ∧ y.lt m1.nx := by
  unfold makeMapW at hm
  split at hm
  · rename_i k et hty
    cases hm
    refine ⟨rfl, σ.set m.nx w.heap.size 0 0 undef, w.alloc (.map #[] 0), ?_, ?_, h.ltnx⟩
    · show _ = Result.ok (realW _ (one (.mp m.nx))) _
      rw [sl_ptr_new]
      rfl
    · refine step_add h (.map k [] 0) _ _ _ _ (goes_alloc w _) (fun b hb => alloc_old w _ b hb) (fun _ => Nat.le_refl _) ?_
      show (w.alloc (.map #[] 0)).heap[(σ.set m.nx w.heap.size 0 0 undef).b m.nx]? = _
      rw [Env.set_b]
      show (w.heap.push (.map #[] 0))[w.heap.size]? = _
      rw [Array.getElem?_push_size]; rfl
  · cases hm
theorem idxM_key {n : Int} {es : List (Int × Value × Nat)} {i : Nat} (h : idxM n es = some i) : ∃ e, es[i]? = some e ∧ e.1 = n := by
  induction es generalizing i with
  | nil => cases h
  | cons e es ih =>
    unfold idxM at h
    split at h
    · rename_i he; cases h; exact ⟨e, rfl, he⟩
    · cases hx : idxM n es with
      | none => rw [hx] at h; cases h
      | some j =>
        rw [hx] at h; cases h
        obtain ⟨e', h1, h2⟩ := ih hx
        exact ⟨e', by simpa using h1, h2⟩
theorem modify_self {α : Type} (l : Array α) (i : Nat) (f : α → α) (hf : ∀ x, l[i]? = some x → f x = x) : l.modify i f = l := by
  apply Array.ext_getElem?
  intro j
  rw [Array.getElem?_modify]
  split
  · rename_i he; subst he
    cases hx : l[i]? with
    | none => rfl
    | some x => rw [Option.map_some, hf x hx]
  · rfl
theorem mapEntry_ok (h : Rel K σ m w) {t : Nat} {x i y : W} (hl : mapEntryW P m t x i = .ok y m1) : ∃ w', (Instr.mapEntry t (realW σ x) (realW σ i)).run P w = .ok (realW σ y) w' ∧ Step K σ m w σ m1 w' ∧ y.lt m1.nx := by
  unfold mapEntryW at hl
  split at hl
  · rename_i k et hty
    obtain ⟨kt, hu, hk⟩ := mapTy_ok hty
    split at hl
    · rename_i r es c n hrow
      obtain ⟨rfl, rfl, hg⟩ := rowM_ok hrow
      have hh := rowM_heap h hg
      have hx : realW σ (.v (.c (.mp r))) = .map (some (σ.b r)) := rfl
      have hi : realW σ (.v (.c (.raw (.int k n)))) = .int k n := rfl
      rw [hx, hi]
      split at hl
      · rename_i v bn hf
        cases hl
        rw [findM_idx] at hf
        obtain ⟨i, hi, he⟩ := Option.bind_eq_some_iff.1 hf
        obtain ⟨e, he1, he2⟩ := Option.map_eq_some_iff.1 he
        obtain ⟨e', he3, he4⟩ := idxM_key hi
        rw [he1] at he3; cases he3
        have hfk : ((idxM n es).bind fun i => (es[i]?).map fun e => (i, e.2.1)) = some (i, v) := by rw [hi]; simp [he1, he2]
        refine ⟨_, ?_, step_map h hg es c, two_lt _ _ trivial⟩
        have he5 : ((es.map (entM k)).toArray)[i]? = some ⟨.int k n, v, bn⟩ := by
          simp [he1, entM, he4, he2]
        unfold Instr.mapEntry
        simp only [Sem.run_bind, run_underlying hu, Result.andThen_ok, run_getMap hh, run_checkKey hk, List.toList_toArray, run_findKey hk, hfk, he5, Option.map_some, Option.getD_some]
        have hks : (Instr.keyThatStays (.int k n) (.int k n)).run P w = .ok (.int k n) w := by
          have hsb : Instr.sameBits 10000 (.int k n) (.int k n) = true := by simp [Instr.sameBits]
          simp [Instr.keyThatStays, hsb]
        rw [hks]
        simp only [Result.andThen_ok, Sem.run_bind]
        rw [modify_self _ _ _ (fun x hx => by rw [he5] at hx; cases hx; rfl), run_setMap _ hh]
        simp only [Result.andThen_ok, Sem.run_pure]
        show _ = Result.ok (Value.tuple #[realV σ (V.of v), goInt bn]) _
        rw [ofV_real]
      · rename_i hf
        split at hl
        · rename_i z hz
          cases hl
          rw [findM_idx] at hf
          have hfk : ((idxM n es).bind fun i => (es[i]?).map fun e => (i, e.2.1)) = none := by
            cases hi : idxM n es with
            | none => rfl
            | some i =>
              rw [hi] at hf
              simp only [Option.bind_some, Option.map_eq_none_iff] at hf
              simp [hf]
          refine ⟨_, ?_, step_map h hg _ _, two_lt _ _ trivial⟩
          unfold Instr.mapEntry
          simp only [Sem.run_bind, run_underlying hu, Result.andThen_ok, run_getMap hh, run_checkKey hk, List.toList_toArray, run_findKey hk, hfk, run_zeroV hz]
          have : (es.map (entM k)).toArray.push { key := .int k n, val := z, born := c } = ((es ++ [(n, z, c)]).map (entM k)).toArray := by simp [entM]
          rw [this, run_setMap _ hh]
          simp only [Result.andThen_ok, Sem.run_pure]
          show _ = Result.ok (Value.tuple #[realV σ (V.of z), goInt c]) _
          rw [ofV_real]
        · cases hl
    · cases hl
  · cases hl
theorem setK_ok {n : Int} {v : Value} {k : IntKind} {es es' : List (Int × Value × Nat)} (h : setK n v es = some es') :
    ∃ i e, idxM n es = some i ∧ es[i]? = some e ∧ e.1 = n ∧ (es.map (entM k)).modify i (fun e => { e with key := .int k n, val := v }) = es'.map (entM k) := by
  induction es generalizing es' with
  | nil => cases h
  | cons e es ih =>
    unfold setK at h
    rw [cond_eq_ite] at h
    split at h
    · rename_i hb
      have hb := eq_of_beq hb
      cases h
      refine ⟨0, e, ?_, rfl, hb, ?_⟩
      · unfold idxM; rw [if_pos hb]
      · simp [List.modify_cons, entM, hb]
    · rename_i hb
      have hb : ¬ e.1 = n := fun he => hb (by rw [he]; simp)
      split at h
      · rename_i es1 h1
        cases h
        obtain ⟨i, e', h2, h3, h4, h5⟩ := ih h1
        refine ⟨i + 1, e', ?_, by simpa using h3, h4, ?_⟩
        · unfold idxM; rw [if_neg hb, h2]; rfl
        · rw [List.map_cons, List.modify_succ_cons, h5]; rfl
      · cases h
theorem setK_none {n : Int} {v : Value} {es : List (Int × Value × Nat)} (h : setK n v es = none) : idxM n es = none := by
  induction es with
  | nil => rfl
  | cons e es ih =>
    unfold setK at h
    rw [cond_eq_ite] at h
    split at h
    · cases h
    · rename_i hb
      have hb : ¬ e.1 = n := fun he => hb (by rw [he]; simp)
      split at h
      · cases h
      · rename_i h1
        unfold idxM; rw [if_neg hb, ih h1]; rfl
theorem mapUpdate_ok (h : Rel K σ m w) {t : Nat} {x i v y : W} (hl : mapUpdateW P m t x i v = .ok y m1) : ∃ w', (Instr.mapUpdate t (realW σ x) (realW σ i) (realW σ v)).run P w = .ok () w' ∧ Step K σ m w σ m1 w' ∧ y = undefW := by
  unfold mapUpdateW at hl
  split at hl
  · rename_i k et hty
    obtain ⟨kt, hu, hk⟩ := mapTy_ok hty
    split at hl
    · rename_i r es c n v' hrow hv
      obtain ⟨rfl, rfl, hg⟩ := rowM_ok hrow
      have hh := rowM_heap h hg
      have hx : realW σ (.v (.c (.mp r))) = .map (some (σ.b r)) := rfl
      have hi : realW σ (.v (.c (.raw (.int k n)))) = .int k n := rfl
      rw [hx, hi, rawW_ok hv]
      split at hl
      · rename_i es' hs
        cases hl
        obtain ⟨i, e, h1, h2, h3, h4⟩ := setK_ok (k := k) hs
        have hfk : ((idxM n es).bind fun i => (es[i]?).map fun e => (i, e.2.1)) = some (i, e.2.1) := by rw [h1]; simp [h2]
        have he5 : ((es.map (entM k)).toArray)[i]? = some ⟨.int k n, e.2.1, e.2.2⟩ := by
          simp [h2, entM, h3]
        refine ⟨_, ?_, step_map h hg es' c, rfl⟩
        unfold Instr.mapUpdate
        simp only [Sem.run_bind, run_underlying hu, Result.andThen_ok, run_getMap hh, run_checkKey hk, List.toList_toArray, run_findKey hk, hfk, he5, Option.map_some, Option.getD_some]
        have hks : (Instr.keyThatStays (.int k n) (.int k n)).run P w = .ok (.int k n) w := by
          have hsb : Instr.sameBits 10000 (.int k n) (.int k n) = true := by simp [Instr.sameBits]
          simp [Instr.keyThatStays, hsb]
        rw [hks]
        simp only [Result.andThen_ok]
        have h6 : ((es.map (entM k)).toArray.modify i fun e => { e with key := .int k n, val := v' }) = (es'.map (entM k)).toArray := by
          rw [← h4, List.modify_toArray]
        rw [h6, run_setMap _ hh]
      · rename_i hs
        cases hl
        have hfk : ((idxM n es).bind fun i => (es[i]?).map fun e => (i, e.2.1)) = none := by rw [setK_none hs]; rfl
        refine ⟨_, ?_, step_map h hg _ _, rfl⟩
        unfold Instr.mapUpdate
        simp only [Sem.run_bind, run_underlying hu, Result.andThen_ok, run_getMap hh, run_checkKey hk, List.toList_toArray, run_findKey hk, hfk]
        have : (es.map (entM k)).toArray.push { key := .int k n, val := v', born := c } = ((es ++ [(n, v', c)]).map (entM k)).toArray := by simp [entM]
        rw [this, run_setMap _ hh]
    · cases hl
  · cases hl
theorem setM_ok {b : Nat} {v : Value} {k : IntKind} {es es' : List (Int × Value × Nat)} (h : setM b v es = some es') :
    ∃ i, (es.map (entM k)).findIdx? (fun e => (e.born : Int) == (b : Int)) = some i ∧ (es.map (entM k)).modify i (fun e => { e with val := v }) = es'.map (entM k) := by
  induction es generalizing es' with
  | nil => cases h
  | cons e es ih =>
    unfold setM at h
    rw [cond_eq_ite] at h
    split at h
    · rename_i hb
      have hb := Nat.eq_of_beq_eq_true hb
      cases h
      refine ⟨0, ?_, ?_⟩
      · rw [List.map_cons, List.findIdx?_cons, if_pos (by simp [entM, hb])]
      · simp [List.modify_cons, entM, hb]
    · rename_i hb
      split at h
      · rename_i es1 h1
        cases h
        obtain ⟨i, h2, h3⟩ := ih h1
        refine ⟨i + 1, ?_, ?_⟩
        · rw [List.map_cons, List.findIdx?_cons, if_neg (by
            simp [entM]
            intro he
            have he' : e.2.2 = b := by exact_mod_cast he
            exact hb (by rw [he']; exact Nat.beq_refl _)), h2]; rfl
        · rw [List.map_cons, List.modify_succ_cons, h3]; rfl
      · cases h
theorem entryStore_ok (h : Rel K σ m w) {t : Nat} {x b v y : W} (hl : entryStoreW m x b v = .ok y m1) : ∃ w', (Instr.entryStore t (realW σ x) (realW σ b) (realW σ v)).run P w = .ok () w' ∧ Step K σ m w σ m1 w' ∧ y = undefW := by
  unfold entryStoreW at hl
  split at hl
  · rename_i r bn v' hb hv
    obtain ⟨kb, hb⟩ := natW_ok (σ := σ) hb
    split at hl
    · rename_i k es c hg
      have hh := rowM_heap h hg
      split at hl
      · rename_i es' hs
        cases hl
        obtain ⟨i, h1, h2⟩ := setM_ok (k := k) hs
        refine ⟨_, ?_, step_map h hg es' c, rfl⟩
        rw [hb, rawW_ok hv]
        show (Instr.entryStore t (.map (some (σ.b r))) (.int kb bn) v').run P w = _
        unfold Instr.entryStore
        simp only [Sem.run_bind, Result.andThen_ok, run_getMap hh, asInt, asIntOf, Sem.run_pure]
        have h3 : (es.map (entM k)).toArray.findIdx? (fun e => (e.born : Int) == (bn : Int)) = some i := by
          rw [List.findIdx?_toArray]; exact h1
        rw [h3]
        simp only
        have h4 : ((es.map (entM k)).toArray.modify i fun e => { e with val := v' }) = (es'.map (entM k)).toArray := by
          rw [← h2, List.modify_toArray]
        rw [h4, run_setMap _ hh]
      · cases hl
    · cases hl
  · cases hl
theorem clrM_ok (h : Rel K σ m w) {t ty : Nat} {r : Nat} {y : W} (hu : (P.underlying t).isSome = true) (hc : clearMapW m r = .ok y m1) :
    ∃ w', (Builtin.clear_ #[t] ty #[realW σ (.v (.c (.mp r)))]).run P w = .ok (realW σ y) w' ∧ Step K σ m w σ m1 w' ∧ y.lt m1.nx := by
  unfold clearMapW at hc
  split at hc
  · rename_i k es c hg
    cases hc
    have hh := rowM_heap h hg
    refine ⟨_, ?_, step_map h hg [] c, undefW_lt _⟩
    obtain ⟨d, hd⟩ := Option.isSome_iff_exists.1 hu
    show (Builtin.clear_ #[t] ty #[.map (some (σ.b r))]).run P w = _
    simp only [Builtin.clear_, List.getElem?_toArray, List.getElem?_cons_zero, Sem.run_bind, run_underlying hd, Result.andThen_ok, run_getMap hh, run_setMap _ hh, Sem.run_pure]
    simp [undefW, realW]
  · cases hc
theorem clr_ok (h : Rel K σ m w) {t ty : Nat} {x y : W} (hc : clrW P m t x = .ok y m1) :
    ∃ w', (Builtin.clear_ #[t] ty #[realW σ x]).run P w = .ok (realW σ y) w' ∧ Step K σ m w σ m1 w' ∧ y.lt m1.nx := by
  unfold clrW at hc
  split at hc
  · rename_i r
    rw [cond_eq_ite] at hc
    split at hc
    · rename_i hu; exact clrM_ok h hu hc
    · cases hc
  · exact clear_ok h hc
end
end Go.Ex
namespace Go.Ex
variable [Holes]
/-- a fence that lets all in -/
structure WF (F : Fence) : Prop where
  fn : ∀ f, F.fn f
  depth : F.depth = none
/-- what a step of a machine hands on -/
def Und (F : Fence) (P : Program) (Φ : Value → World → Prop) : Result Next → Prop
  | .ok (.value v) w => Φ v w
  | .ok .skip w => Φ undef w
  | .ok (.enter f args) w => ∀ n, CallsIn F n P f args w fun e w' => ∃ v, e = .returned v ∧ Φ v w'
  | .ok (.round l f tmps assign body) w => ∀ n, RoundIn F n P l f tmps assign body w fun e w' => ∃ v, e = .returned v ∧ Φ v w'
  | _ => False
/-- a function that may be entered -/
def CanEnter (P : Program) (f : FuncId) : Prop := ∃ fn, P.funcs[f]? = some fn ∧ (fn.name == "runtime.NumGoroutine") = false ∧ fn.body.isSome = true
/-- the round's loop is there -/
def RoundOk (σ : Env) (m : Mem) (F : Fence) : Prop := ∀ b, F.round = some b → ∃ i r, m.S.get i = some r ∧ r.isLoop = true ∧ σ.b i = b
/-- the blocks for the deferred calls of rounds -/
def MarksOk (B : Nat) (a : Act) (w : World) : Prop := ∃ rs : List Nat, a.defers = rs.map (fun r => ({ target := .collected r, args := #[] } : Deferred)) ∧ rs.Nodup ∧ ∀ r ∈ rs, B ≤ r ∧ w.heap[r]? = some (.deferred (some []))
def SoundCall (P : Program) (K : Nat → Option (List Value)) (R : Rec) : Prop :=
  ∀ f args m x m1, R.call f args m = .ok x m1 → CanEnter P f ∧ ∀ F, WF F → ∀ σ w, Rel K σ m w → (∀ a ∈ args, W.lt m.nx a) → ∀ n,
    CallsIn F n P f (args.map (realW σ)).toArray w fun e w' => ∃ τ, e = .returned (realW τ x) ∧ Step K σ m w τ m1 w' ∧ W.lt m1.nx x
def SoundCode (P : Program) (K : Nat → Option (List Value)) (code : Nat → Code → T W → Mem → R3) : Prop :=
  ∀ nt c tm m e tm1 m1, code nt c tm m = .ok e tm1 m1 → ∀ F, WF F → ∀ σ w a B, RoundOk σ m F → Rel K σ m w → TmOk σ m.nx a.tmps tm → a.tmps.size = nt → MarksOk B a w → B ≤ w.heap.size → ∀ Q n,
    (∀ τ a1 w1, Step K σ m w τ m1 w1 → TmOk τ m1.nx a1.tmps tm1 → a1.tmps.size = nt → MarksOk B a1 w1 → Q e a1 w1) → c.wpIn F n P Q a w
section
variable {P : Program} {K : Nat → Option (List Value)} {σ τ : Env} {m m1 : Mem} {w w1 : World} {F : Fence}
theorem RoundOk.step (h : RoundOk σ m F) (hr : Rel K σ m w) (k : Step K σ m w τ m1 w1) : RoundOk τ m1 F := fun b hb => by
  obtain ⟨i, r, h1, h2, h3⟩ := h b hb
  obtain ⟨s, h4, h5⟩ := k.keep i r h1 h2
  exact ⟨i, s, h4, h5, by rw [k.agree.b i (hr.lt i r h1)]; exact h3⟩
/-- what is no row's stays -/
theorem Step.other (k : Step K σ m w τ m1 w1) (hr : Rel K σ m w) {b : Nat} {o : Obj} (hb : w.heap[b]? = some o) (h1 : ∀ c e f, o ≠ .cells c e f) (h2 : ∀ l, o ≠ .loop l) (h3 : ∀ es c, o ≠ .map es c) : w1.heap[b]? = some o := by
  rw [k.frame b (heap_lt hb) (fun i r hi hrb he => ?_), hb]
  exfalso
  have := hr.row i r hi
  cases r with
  | cells e q cs => obtain ⟨arr, a1, _⟩ := this; rw [he, hb] at a1; cases a1; exact h1 _ _ _ rfl
  | loop st p nt tm ps a b => obtain ⟨fn, tmps, df, _, _, _, a4⟩ := this; rw [he, hb] at a4; cases a4; exact h2 _ rfl
  | map k es c => have this : w.heap[σ.b i]? = _ := this; rw [he, hb] at this; cases this; exact h3 _ _ rfl
  | fn => cases hrb
  | val => cases hrb
  | dead => cases hrb
theorem MarksOk.step {B : Nat} {a : Act} (h : MarksOk B a w) (hr : Rel K σ m w) (k : Step K σ m w τ m1 w1) {tmps : Array Value} : MarksOk B { a with tmps := tmps } w1 := by
  obtain ⟨rs, h1, h2, h3⟩ := h
  exact ⟨rs, h1, h2, fun r hrr => ⟨(h3 r hrr).1, k.other hr (h3 r hrr).2 (fun _ _ _ => by simp) (fun _ => by simp) (fun _ _ => by simp)⟩⟩
theorem callFunc_run {f : Nat} {args : Array Value} (h : CanEnter P f) : (callFunc f args).run P w = .ok (.enter f args) w := by
  obtain ⟨fn, hf, hn, hb⟩ := h
  have hn' : ¬ fn.name = "runtime.NumGoroutine" := by simpa using hn
  have hb' : ¬ fn.body = none := fun e => by rw [e] at hb; cases hb
  simp [callFunc, hf, hn', hb']
theorem evs_map {a : Act} {tm : T W} (h : TmOk σ m.nx a.tmps tm) (xs : Array Operand) : xs.map a.eval = ((xs.toList.map (ev tm)).map (realW σ)).toArray := by
  apply Array.ext'
  simp only [Array.toList_map, List.map_map, List.toList_toArray]
  refine List.map_congr_left fun x _ => ?_
  exact (h.ev a.defers x).1
theorem evs_lt {a : Act} {tm : T W} (h : TmOk σ m.nx a.tmps tm) (xs : Array Operand) : ∀ x ∈ xs.toList.map (ev tm), W.lt m.nx x := fun x hx => by
  obtain ⟨y, _, rfl⟩ := List.mem_map.1 hx
  exact (h.ev a.defers y).2
theorem rawB_ok {b : Builtin} {ts : Array TypeId} {xs : List W} {ty : TypeId} {y : W} {cs : Array Bool} (h : rawB P b ts (xs.mapM W.raw?) ty = some y) (n : Nat) :
    (builtin b ts ty cs (xs.map (realW σ)).toArray).run P w = .ok (.value (realW σ y)) w ∧ y.lt n := by
  unfold rawB at h
  split at h
  · rename_i vs hv
    rw [cond_eq_ite] at h
    split at h
    · rename_i hp
      split at h
      · rename_i v hv'
        cases h
        rw [rawWs_ok xs vs hv, ofW_real]
        refine ⟨?_, ofW_lt _ _⟩
        have := pureRun_ok w _ _ hv'
        rw [← this]
        cases b <;> first | rfl | (exact absurd hp (by simp [pureB]))
      · cases h
    · cases h
  · cases h
theorem len_b {t ty : Nat} {x : W} {n : Nat} (h : lenOf P t x = some n) : (Builtin.len_ #[t] ty #[realW σ x]).run P w = .ok (goInt n) w := by
  unfold lenOf at h
  split at h
  · rename_i r o k z c e hu
    cases h
    have : ∃ q, realW σ (.v (.c (.sl r o n z c))) = .slice (some ⟨σ.b r, σ.o r + o, none⟩) n q := by cases c <;> exact ⟨_, rfl⟩
    obtain ⟨q, hq⟩ := this
    rw [hq]
    simp [Builtin.len_, run_underlying hu]
  · rename_i r p o z e hu
    cases h
    show (Builtin.len_ #[t] ty #[.slice (some _) 0 _]).run P w = _
    simp [Builtin.len_, run_underlying hu]
  · rename_i r o a hu
    split at h
    · rename_i k e hu2
      cases h
      show (Builtin.len_ #[t] ty #[.pointer _]).run P w = _
      simp [Builtin.len_, run_underlying hu, run_underlying hu2]
    · cases h
  · rename_i cs k e hu
    cases h
    show (Builtin.len_ #[t] ty #[.agg _]).run P w = _
    simp [Builtin.len_, run_underlying hu]
  · cases h
theorem cap_b {t ty : Nat} {x : W} {n : Nat} (h : capOf P t x = some n) : (Builtin.cap_ #[t] ty #[realW σ x]).run P w = .ok (goInt n) w := by
  unfold capOf at h
  split at h
  · rename_i r o k z c e hu
    cases h
    show (Builtin.cap_ #[t] ty #[.slice (some _) k n]).run P w = _
    simp [Builtin.cap_, run_underlying hu]
  · cases h
/-- the builtins -/
theorem builtin_ok (h : Rel K σ m w) {b : Builtin} {ts : Array TypeId} {xs : List W} {ty : TypeId} {y : W} {cs : Array Bool} (hb : builtinW P b ts xs (xs.mapM W.raw?) ty m = .ok y m1) (hl : ∀ x ∈ xs, W.lt m.nx x) :
    ∃ τ w', (builtin b ts ty cs (xs.map (realW σ)).toArray).run P w = .ok (.value (realW τ y)) w' ∧ Step K σ m w τ m1 w' ∧ y.lt m1.nx := by
  have one : ∀ {ts : Array TypeId} {t : Nat}, ts.toList = [t] → ts = #[t] := fun h => Array.ext' h
  have two : ∀ {ts : Array TypeId} {t u : Nat}, ts.toList = [t, u] → ts = #[t, u] := fun h => Array.ext' h
  unfold builtinW at hb
  split at hb
  · split at hb
    · rename_i t u s x hts
      have := two hts; subst this
      obtain ⟨τ, w', h1, h2, h3⟩ := append_ok (ty := ty) h hb (hl s (by simp))
      refine ⟨τ, w', ?_, h2, h3⟩
      show (do pure (.value (← Builtin.append_ #[t, u] ty #[realW σ s, realW σ x])) : Sem Next).run P w = _
      rw [Sem.run_bind, h1]; rfl
    · cases hb
  · split at hb
    · rename_i t u s x hts
      have := two hts; subst this
      obtain ⟨w', h1, h2, h3⟩ := copy_ok (xT := u) (ty := ty) h hb
      refine ⟨σ, w', ?_, h2, h3⟩
      show (do pure (.value (← Builtin.copy_ #[t, u] ty #[realW σ s, realW σ x])) : Sem Next).run P w = _
      rw [Sem.run_bind, h1]; rfl
    · cases hb
  · split at hb
    · rename_i t x hts
      have := one hts; subst this
      obtain ⟨w', h1, h2, h3⟩ := clr_ok (ty := ty) h hb
      refine ⟨σ, w', ?_, h2, h3⟩
      show (do pure (.value (← Builtin.clear_ #[t] ty #[realW σ x])) : Sem Next).run P w = _
      rw [Sem.run_bind, h1]; rfl
    · cases hb
  · split at hb
    · rename_i t x hts
      have := one hts; subst this
      obtain ⟨hb2, rfl⟩ := purW_ok hb
      unfold intOr at hb2
      split at hb2
      · rename_i n hn
        cases hb2
        refine ⟨σ, w, ?_, Step.refl h, trivial⟩
        show (do pure (.value (← Builtin.len_ #[t] ty #[realW σ x])) : Sem Next).run P w = _
        rw [Sem.run_bind, len_b hn]; rfl
      · obtain ⟨h1, h2⟩ := rawB_ok (σ := σ) (w := w) (cs := cs) hb2 m1.nx
        exact ⟨σ, w, h1, Step.refl h, h2⟩
    · cases hb
  · split at hb
    · rename_i t x hts
      have := one hts; subst this
      obtain ⟨hb2, rfl⟩ := purW_ok hb
      unfold intOr at hb2
      split at hb2
      · rename_i n hn
        cases hb2
        refine ⟨σ, w, ?_, Step.refl h, trivial⟩
        show (do pure (.value (← Builtin.cap_ #[t] ty #[realW σ x])) : Sem Next).run P w = _
        rw [Sem.run_bind, cap_b hn]; rfl
      · obtain ⟨h1, h2⟩ := rawB_ok (σ := σ) (w := w) (cs := cs) hb2 m1.nx
        exact ⟨σ, w, h1, Step.refl h, h2⟩
    · cases hb
  · obtain ⟨hb2, rfl⟩ := purW_ok hb
    obtain ⟨h1, h2⟩ := rawB_ok (σ := σ) (w := w) (cs := cs) hb2 m1.nx
    exact ⟨σ, w, h1, Step.refl h, h2⟩
end
end Go.Ex
namespace Go.Ex
variable [Holes]
section
variable {P : Program} {K : Nat → Option (List Value)} {R : Rec} {σ τ : Env} {m m1 : Mem} {w w1 : World} {F : Fence} {Φ : Value → World → Prop}
theorem und_value {s : Sem Value} {v : Value} {w' : World} (h : s.run P w = .ok v w') (hΦ : Φ v w') : Und F P Φ ((do pure (.value (← s)) : Sem Next).run P w) := by
  rw [Sem.run_bind, h]; exact hΦ
theorem und_does {s : Sem Value} {x : W} (h : Does P K σ m w s x m1) (hΦ : ∀ τ w', Step K σ m w τ m1 w' → x.lt m1.nx → Φ (realW τ x) w') : Und F P Φ ((do pure (.value (← s)) : Sem Next).run P w) := by
  obtain ⟨τ, w', h1, h2, h3⟩ := h
  exact und_value h1 (hΦ τ w' h2 h3)
theorem rawO_ok {a : Act} {tm : T W} (hT : TmOk σ m.nx a.tmps tm) {x : Option Operand} {v : Option Value} (h : rawO tm x = some v) : x.map a.eval = v := by
  unfold rawO at h
  split at h
  · rename_i o
    split at h
    · rename_i u hu
      cases h
      rw [Option.map_some, (hT.ev a.defers o).1, rawW_ok hu]
    · cases h
  · cases h; rfl
theorem evO_map {a : Act} {tm : T W} (hT : TmOk σ m.nx a.tmps tm) (x : Option Operand) : x.map a.eval = (x.map (ev tm)).map (realW σ) := by
  cases x with
  | none => rfl
  | some o => rw [Option.map_some, Option.map_some, Option.map_some, (hT.ev a.defers o).1]
theorem evP_map {a : Act} {tm : T W} (hT : TmOk σ m.nx a.tmps tm) (l : Array (Nat × Operand)) : (l.map fun (i, x) => (i, a.eval x)) = ((evs tm l).map fun p => (p.1, realW σ p.2)).toArray := by
  apply Array.ext'
  unfold evs
  simp only [Array.toList_map, List.map_map, List.toList_toArray]
  refine List.map_congr_left fun x _ => ?_
  obtain ⟨i, x⟩ := x
  show (i, a.eval x) = (i, realW σ (ev tm x))
  rw [(hT.ev a.defers x).1]
theorem evP_lt {a : Act} {tm : T W} (hT : TmOk σ m.nx a.tmps tm) (l : Array (Nat × Operand)) : ∀ p ∈ evs tm l, W.lt m.nx p.2 := fun p hp => by
  unfold evs at hp
  obtain ⟨⟨i, x⟩, _, rfl⟩ := List.mem_map.1 hp
  exact (hT.ev a.defers x).2
theorem purW_does (h : Rel K σ m w) {x : Option W} {y : W} {s : Sem Value} (hp : purW x m = .ok y m1) (hs : x = some y → s.run P w = .ok (realW σ y) w ∧ y.lt m.nx) : Does P K σ m w s y m1 := by
  obtain ⟨h1, rfl⟩ := purW_ok hp
  exact Does.pure h (hs h1)
theorem pick_ok {a : Act} {tm : T W} (hT : TmOk σ m.nx a.tmps tm) {c x y : Operand} {z : W} (h : pickW tm c x y = some z) : (do pure (.value (if ← asBool (a.eval c) then a.eval x else a.eval y)) : Sem Next).run P w = .ok (.value (realW σ z)) w ∧ z.lt m.nx := by
  unfold pickW at h
  split at h
  · rename_i b hb
    cases h
    have hc : a.eval c = .bool b := by rw [(hT.ev a.defers c).1, hb]; rfl
    rw [hc]
    cases b
    · exact ⟨by simp [asBool, (hT.ev a.defers y).1], (hT.ev a.defers y).2⟩
    · exact ⟨by simp [asBool, (hT.ev a.defers x).1], (hT.ev a.defers x).2⟩
  · cases h
/-- operations that call nothing of Go's -/
theorem op_plain {o : Oper} {a : Act} {tm : T W} {x : W} (hc : ∀ c, o.op ≠ .call c) (ho : opW P K R o.op o.type tm m = .ok x m1) (h : Rel K σ m w) (hT : TmOk σ m.nx a.tmps tm)
    (hΦ : ∀ τ w', Step K σ m w τ m1 w' → x.lt m1.nx → Φ (realW τ x) w') : Und F P Φ ((execOp a.eval o).run P w) := by
  have E : ∀ p, a.eval p = realW σ (ev tm p) := fun p => (hT.ev a.defers p).1
  have L : ∀ p, W.lt m.nx (ev tm p) := fun p => (hT.ev a.defers p).2
  unfold execOp
  revert ho
  cases hop : o.op <;> intro ho <;> simp only [opW] at ho <;> dsimp only
  case move p => cases ho; rw [E p]; exact hΦ σ w (Step.refl h) (L p)
  case assign p => cases ho; rw [E p]; exact hΦ σ w (Step.refl h) (L p)
  case pick c p q =>
    obtain ⟨h1, rfl⟩ := purW_ok ho
    obtain ⟨h2, h3⟩ := pick_ok (P := P) (w := w) hT h1
    rw [h2]
    exact hΦ σ w (Step.refl h) h3
  case alloc e => exact und_does (alloc_ok h ho) hΦ
  case box e p => simp only [E p]; exact und_does (box_ok h ho (L p)) hΦ
  case build t ps => simp only [evP_map hT]; exact und_does (purW_does h ho fun hx => build_ok hx (evP_lt hT ps)) hΦ
  case buildSlice t n ps => simp only [evP_map hT]; exact und_does (buildSlice_ok h ho (evP_lt hT ps)) hΦ
  case load t p => simp only [E p]; exact und_does (purW_does h ho fun hx => load_ok h hx (L p)) hΦ
  case store t p q =>
    simp only [E p, E q]
    unfold stW at ho
    split at ho
    · rename_i m2 hs
      cases ho
      obtain ⟨w', h1, h2⟩ := store_ok (P := P) h hs (L q)
      rw [Sem.run_bind, h1]
      exact hΦ σ w' h2 (undefW_lt _)
    · cases ho
  case nilCheck p =>
    obtain ⟨h1, rfl⟩ := purW_ok ho
    obtain ⟨h2, h3⟩ := nilCheck_ok (P := P) h h1 (L p)
    have := h3 o p a.eval hop (E p)
    unfold execOp at this
    simp only [hop] at this
    rw [this]
    exact hΦ σ w (Step.refl h) (by rw [h2]; exact L p)
  case binOp op t p q u => simp only [E p, E q]; exact und_does (purW_does h ho fun hx => bin2_ok h hx) hΦ
  case unOp op t p => simp only [E p]; exact und_does (purW_does h ho fun hx => un_ok hx _) hΦ
  case convert s d p => simp only [E p]; exact und_does (purW_does h ho fun hx => convM_ok h hx) hΦ
  case makeInterface t p => simp only [E p]; exact und_does (iface_ok h ho (L p)) hΦ
  case makeFunc f first caps =>
    simp only [evs_map hT]
    cases ho
    refine und_value (s := Instr.makeFunc f _ _) rfl ?_
    have := hΦ _ w (fn_step h (evs_lt hT first) (evs_lt hT caps)) h.ltnx
    simpa [one, realW, realV, realC] using this
  case makeSlice t p q => simp only [E p, E q]; exact und_does (makeSlice_ok h ho) hΦ
  case slice t p lo hi mx =>
    obtain ⟨h1, rfl⟩ := purW_ok ho
    refine und_does (Does.pure h ?_) hΦ
    unfold sliceOp at h1
    split at h1
    · rename_i v hv
      split at h1
      · rename_i l hh hl hhh
        rw [E p, hv, rawO_ok hT hl, rawO_ok hT hhh]
        exact prun_ok h1 _
      · cases h1
    · rw [E p, evO_map hT, evO_map hT, evO_map hT]
      exact slice_ok h h1 (L p)
  case fieldAddr t p f => simp only [E p]; exact und_does (purW_does h ho fun hx => fieldAddr_ok hx (L p)) hΦ
  case field t p f => simp only [E p]; exact und_does (purW_does h ho fun hx => field_ok hx (L p)) hΦ
  case indexAddr t p q =>
    simp only [E p, E q]
    refine und_does (purW_does h ho fun hx => ?_) hΦ
    unfold indexAddrOp at hx
    split at hx
    · rename_i u hu
      split at hx
      · rename_i v hv
        rw [hu, rawW_ok hv]
        exact prun_ok hx _
      · cases hx
    · exact indexAddr_ok hx (L p)
  case index t p q => simp only [E p, E q]; exact und_does (purW_does h ho fun hx => index_ok hx (L p)) hΦ
  case extract p i => simp only [E p]; exact und_does (purW_does h ho fun hx => extract_ok hx (L p)) hΦ
  case typeAssert p t0 t ok => simp only [E p]; exact und_does (purW_does h ho fun hx => assert_ok h hx) hΦ
  case call c => exact absurd hop (hc c)
  case makeMap t r =>
    obtain ⟨rfl, hd⟩ := makeMap_ok (P := P) h ho
    exact und_does hd hΦ
  case lookup t p q ok => simp only [E p, E q]; exact und_does (purW_does h ho fun hx => lookup_ok h hx) hΦ
  case mapEntry t p q =>
    simp only [E p, E q]
    obtain ⟨w', h1, h2, h3⟩ := mapEntry_ok (P := P) h ho
    exact und_does ⟨σ, w', h1, h2, h3⟩ hΦ
  case mapUpdate t p q r =>
    simp only [E p, E q, E r]
    obtain ⟨w', h1, h2, rfl⟩ := mapUpdate_ok (P := P) h ho
    rw [Sem.run_bind, h1]
    exact hΦ σ w' h2 (undefW_lt _)
  case entryStore t p q r =>
    simp only [E p, E q, E r]
    obtain ⟨w', h1, h2, rfl⟩ := entryStore_ok (P := P) (t := t) h ho
    rw [Sem.run_bind, h1]
    exact hΦ σ w' h2 (undefW_lt _)
  all_goals cases ho
end
end Go.Ex
namespace Go.Ex
variable [Holes]
section
variable {P : Program} {K : Nat → Option (List Value)} {R : Rec} {σ τ : Env} {m m1 : Mem} {w w1 : World} {F : Fence} {Φ : Value → World → Prop}
/-- a loop's record is turned -/
theorem step_loop (h : Rel K σ m w) {r : Nat} {s0 s1 : Row} {lo : Nat} (hr : m.S.get r = some s0) (h0 : s0.isLoop = true) (h1 : s1.isLoop = true) (hlo : lo ≤ m.lo) (hlr : lo ≤ r) (hg : Goes w w1) (hw : ∀ b, b ≠ σ.b r → w1.heap[b]? = w.heap[b]?)
    (hn : RowOk σ m.nx w1 r s1) : Step K σ m w σ ⟨m.S.set r s1, m.nx, lo⟩ w1 := by
  have b0 : s0.blk = true := by cases s0 <;> first | rfl | cases h0
  have b1 : s1.blk = true := by cases s1 <;> first | rfl | cases h1
  have hget : ∀ i, (m.S.set r s1).get i = if i = r then some s1 else m.S.get i := fun i => T.get_set _ _ _ _
  have hold : ∀ i s, (m.S.set r s1).get i = some s → s.blk = true → ∃ s', m.S.get i = some s' ∧ s'.blk = true := fun i s hs hsb => by
    by_cases hi : i = r
    · subst hi; exact ⟨_, hr, b0⟩
    · rw [hget, if_neg hi] at hs; exact ⟨s, hs, hsb⟩
  have hother : ∀ i s, m.S.get i = some s → s.blk = true → i ≠ r → σ.b i ≠ σ.b r := fun i s hs hsb hi he => hi (h.inj i r s _ hs hr hsb b0 he)
  have hap := h.apart r _ hr b0
  refine ⟨Nat.le_refl _, Agree.refl _ _, ⟨fun i s hs => ?_, fun i s hs => ?_, fun i j s s' hs hs' hsb hsb' he => ?_, fun g l hg' => ?_, fun i s hs hsb => ?_, fun g l hg' => Nat.lt_of_lt_of_le (h.low g l hg') hg.size, h.fresh⟩, hg, fun b _ hb => ?_, fun i s _ hs hsb => hold i s hs hsb, fun i s hi hs hsb => ?_, hlo, fun i s hs hsl => ?_⟩
  · by_cases hi : i = r
    · subst hi; rw [hget, if_pos rfl] at hs; cases hs; exact hn
    · rw [hget, if_neg hi] at hs
      exact (h.row i s hs).keep (Agree.refl _ _) (h.lt i s hs) (Nat.le_refl _) (fun hsb => hw _ (hother i s hs hsb hi))
  · by_cases hi : i = r
    · subst hi; exact h.lt _ _ hr
    · rw [hget, if_neg hi] at hs; exact h.lt i s hs
  · obtain ⟨t, ht, htb⟩ := hold i s hs hsb
    obtain ⟨t', ht', htb'⟩ := hold j s' hs' hsb'
    exact h.inj i j t t' ht ht' htb htb' he
  · exact known_kept h (fun g l hg2 => hw g (fun he => by rw [← he, hg2] at hap; cases hap)) g l hg'
  · obtain ⟨t, ht, htb⟩ := hold i s hs hsb
    exact h.apart i t ht htb
  · refine hw b fun he => ?_
    have := hb r _ hr b0 he.symm
    exact absurd (show r < lo from this) (by omega)
  · obtain ⟨t, ht, _⟩ := hold i s hs hsb
    exact absurd (h.lt i t ht).lt (by omega)
  · by_cases hi : i = r
    · subst hi; exact ⟨s1, by rw [hget, if_pos rfl], h1⟩
    · exact ⟨s, by rw [hget, if_neg hi]; exact hs, hsl⟩
/-- a row that was laid on the way dies -/
theorem step_kill (h0 : Rel K σ m w) (k : Step K σ m w τ m1 w1) {w2 : World} {r lo : Nat} {s0 : Row} (hr : m1.S.get r = some s0) (hb0 : s0.blk = true) (hge : m.nx ≤ r) (hlo : lo ≤ m1.lo) (hlr : lo ≤ r) (hg : Goes w1 w2) (hw : ∀ b, b ≠ τ.b r → w2.heap[b]? = w1.heap[b]?) :
    Step K σ m w τ ⟨m1.S.set r .dead, m1.nx, lo⟩ w2 := by
  have h := k.rel
  have hget : ∀ i, (m1.S.set r .dead).get i = if i = r then some .dead else m1.S.get i := fun i => T.get_set _ _ _ _
  have hold : ∀ i s, (m1.S.set r .dead).get i = some s → s.blk = true → i ≠ r ∧ m1.S.get i = some s := fun i s hs hsb => by
    by_cases hi : i = r
    · subst hi; rw [hget, if_pos rfl] at hs; cases hs; cases hsb
    · rw [hget, if_neg hi] at hs; exact ⟨hi, hs⟩
  have hother : ∀ i s, m1.S.get i = some s → s.blk = true → i ≠ r → τ.b i ≠ τ.b r := fun i s hs hsb hi he => hi (h.inj i r s _ hs hr hsb hb0 he)
  have hap := h.apart r _ hr hb0
  refine ⟨k.nx, k.agree, ⟨fun i s hs => ?_, fun i s hs => ?_, fun i j s s' hs hs' hsb hsb' he => ?_, fun g l hg' => ?_, fun i s hs hsb => ?_, fun g l hg' => Nat.lt_of_lt_of_le (h.low g l hg') hg.size, h.fresh⟩, k.goes.trans hg, fun b hb hfr => ?_, fun i s hi hs hsb => ?_, fun i s hi hs hsb => ?_, Nat.le_trans hlo k.lo, fun i s hs hsl => ?_⟩
  · by_cases hi : i = r
    · subst hi; rw [hget, if_pos rfl] at hs; cases hs; trivial
    · rw [hget, if_neg hi] at hs
      exact (h.row i s hs).keep (Agree.refl _ _) (h.lt i s hs) (Nat.le_refl _) (fun hsb => hw _ (hother i s hs hsb hi))
  · by_cases hi : i = r
    · subst hi; exact h.lt _ _ hr
    · rw [hget, if_neg hi] at hs; exact h.lt i s hs
  · obtain ⟨_, h1⟩ := hold i s hs hsb
    obtain ⟨_, h2⟩ := hold j s' hs' hsb'
    exact h.inj i j s s' h1 h2 hsb hsb' he
  · exact known_kept h (fun g l hg2 => hw g (fun he => by rw [← he, hg2] at hap; cases hap)) g l hg'
  · obtain ⟨_, h1⟩ := hold i s hs hsb
    exact h.apart i s h1 hsb
  · have hne : b ≠ τ.b r := fun he => by
      rcases k.new r s0 hge hr hb0 with hn | ⟨j, s, hs, hsb, hj, hl⟩
      · omega
      · have : j < lo := hfr j s hs hsb (by rw [hj, he])
        omega
    rw [hw b hne]
    exact k.frame b hb fun i s hs hsb he => Nat.lt_of_lt_of_le (hfr i s hs hsb he) hlo
  · obtain ⟨_, h1⟩ := hold i s hs hsb
    exact k.old i s hi h1 hsb
  · obtain ⟨_, h1⟩ := hold i s hs hsb
    rcases k.new i s hi h1 hsb with hn | ⟨j, t, ht, htb, hj, hl⟩
    · exact .inl hn
    · exact .inr ⟨j, t, ht, htb, hj, Nat.le_trans hlo hl⟩
  · obtain ⟨t, ht, htl⟩ := k.keep i s hs hsl
    have : i ≠ r := fun e => by have := (h0.lt i s hs).lt; omega
    exact ⟨t, by rw [hget, if_neg this]; exact ht, htl⟩
end
end Go.Ex
namespace Go.Ex
variable [Holes]
section
variable {P : Program} {K : Nat → Option (List Value)} {R : Rec} {σ τ : Env} {m m1 : Mem} {w w1 : World} {F : Fence} {Φ : Value → World → Prop}
theorem par_ok {nt : Nat} : ∀ (ps : List Tmp) (xs : List W) (tm tm' : T W) (tmps : Array Value), parW nt ps xs tm = some tm' → TmOk σ m.nx tmps tm → tmps.size = nt → (∀ x ∈ xs, W.lt m.nx x) →
    ps.length = xs.length ∧ ∃ tmps', ((ps.zip (xs.map (realW σ))).foldl (fun tmps (p : Tmp × Value) => tmps.setIfInBounds p.1 p.2) tmps) = tmps' ∧ TmOk σ m.nx tmps' tm' ∧ tmps'.size = nt
  | [], [], tm, tm', tmps, h, hT, hs, _ => by cases h; exact ⟨rfl, tmps, rfl, hT, hs⟩
  | p :: ps, x :: xs, tm, tm', tmps, h, hT, hs, hl => by
    unfold parW at h
    rw [cond_eq_ite] at h
    split at h
    · rename_i hp
      have hp : p < nt := Nat.le_of_ble_eq_true hp
      obtain ⟨h1, tmps', h2, h3, h4⟩ := par_ok ps xs _ tm' (tmps.setIfInBounds p (realW σ x)) h (hT.set (hl x List.mem_cons_self) (by rw [hs]; exact hp)) (by simpa using hs) (fun y hy => hl y (List.mem_cons_of_mem _ hy))
      exact ⟨by simp [h1], tmps', by rw [List.map_cons, List.zip_cons_cons, List.foldl_cons]; exact h2, h3, h4⟩
    · cases h
  | [], x :: xs, tm, tm', tmps, h, hT, hs, _ => by cases h
  | p :: ps, [], tm, tm', tmps, h, hT, hs, _ => by cases h
theorem goes_put (w : World) (l : Nat) (o : Obj) : Goes w (w.putObj l o) := ⟨rfl, rfl, rfl, by simp [World.putObj]⟩
/-- a call of a loop's yield -/
theorem round_und (hC : SoundCode P K R.code) {i nt : Nat} {p : Option Code} {tm0 : T W} {ps : List Tmp} {ca cb : Code} {args : List W} {x : W} {aa : Array Value}
    (hrow : m.S.get i = some (.loop .ready p nt tm0 ps ca cb)) (haa : aa = (args.map (realW σ)).toArray) {tm' : T W} (hp : parW nt ps args tm0 = some tm') (hr : roundW i (beginW R i nt cb (R.code nt ca tm' m)) = .ok x m1)
    (h : Rel K σ m w) (hl : ∀ y ∈ args, W.lt m.nx y) (hF : WF F) (hΦ : ∀ τ w', Step K σ m w τ m1 w' → x.lt m1.nx → Φ (realW τ x) w') : Und F P Φ ((Instr.yield (σ.b i) aa).run P w) := by
  obtain ⟨fn, tmps, df, hv, hsz, hT, hheap⟩ := h.row i _ hrow
  obtain ⟨hlen, tmps', hfold, hT', hsz'⟩ := par_ok ps args tm0 tm' tmps hp hT hsz hl
  have hy := run_yield (P := P) (args := aa) hheap (by rw [haa]; simp [hlen])
  rw [hy]
  intro n
  have hzip : (ps.toArray.zip aa).foldl (fun tmps (t, a) => tmps.setIfInBounds t a) tmps = tmps' := by
    rw [haa, ← hfold, ← Array.foldl_toList]
    simp
  simp only
  rw [hzip]
  -- the round
  cases hca : R.code nt ca tm' m with
  | no => rw [hca] at hr; cases hr
  | ok e tm1 ma =>
    rw [hca] at hr
    cases e with
    | normal =>
      simp only [beginW] at hr
      cases hrow1 : ma.S.get i with
      | none => rw [hrow1] at hr; cases hr
      | some r1 =>
        rw [hrow1] at hr
        split at hr
        rotate_left
        · cases hr
        rename_i st p1 nt1 tmx ps1 a1 b1 hq
        cases hq
        cases hcb : R.code nt cb tm1 ⟨ma.S.set i (.loop .busy p1 nt1 tmx ps1 a1 b1), ma.nx, lower i ma.lo⟩ with
        | no => rw [hcb] at hr; cases hr
        | ok e2 tm2 mb =>
          rw [hcb] at hr
          refine roundIn_of_wpIn (hF.fn fn) ?_
          have hFr : WF (F.inRound (σ.b i)) := ⟨hF.fn, hF.depth⟩
          refine hC nt ca tm' m .normal tm1 ma hca (F.inRound (σ.b i)) hFr σ w ⟨tmps', []⟩ w.heap.size (fun b hb => ⟨i, _, hrow, rfl, by cases hb; rfl⟩) h hT' hsz' ⟨[], rfl, List.nodup_nil, fun r hr => by cases hr⟩ (Nat.le_refl _) _ n ?_
          intro τ a1' w1 k1 hT1 hsz1 hM1
          have hlti := h.lt i _ hrow
          have hb1 : τ.b i = σ.b i := k1.agree.b i hlti
          obtain ⟨fn1, tmps1, df1, hv1, hsz1', hT1', hheap1⟩ := k1.rel.row i _ hrow1
          rw [hb1] at hheap1
          have hbg := run_beginRound (P := P) hheap1 rfl
          refine ⟨_, hbg, ?_⟩
          -- the record is busy
          have k2 : Step K τ ma w1 τ ⟨ma.S.set i (.loop .busy p1 nt1 tmx ps1 a1 b1), ma.nx, lower i ma.lo⟩ (w1.putObj (σ.b i) _) :=
            step_loop k1.rel hrow1 rfl rfl (lower_le _ _).1 (lower_le _ _).2 (goes_put _ _ _) (fun b hb => World.putObj_heap_other (by rw [← hb1]; exact hb))
              ⟨fn1, tmps1, df1, by rw [hb1] at hv1 ⊢; exact hv1, hsz1', hT1', by rw [hb1]; exact World.putObj_heap_same (heap_lt hheap1)⟩
          have k12 := k1.trans k2
          refine hC nt cb tm1 _ e2 tm2 mb hcb (F.inRound (σ.b i)) hFr τ _ a1' w.heap.size (fun b hb => ⟨i, _, by show (ma.S.set i _).get i = _; rw [T.get_set, if_pos rfl], rfl, by cases hb; exact hb1⟩) k2.rel (hT1.agree (Agree.refl _ _) (Nat.le_refl _)) hsz1 (hM1.step (tmps := a1'.tmps) k1.rel k2) k12.goes.size _ n ?_
          intro υ a2 w2 k3 hT2 hsz2 hM2
          have k13 := k12.trans k3
          -- the round's end
          have fin : ∀ jump, endW mb i jump = .ok x m1 → ∃ v w', (Instr.endRound (σ.b i) jump).run P w2 = .ok v w' ∧ ∃ v', Ending.returned v = .returned v' ∧ Φ v' w' := by
            intro jump hj
            unfold endW at hj
            split at hj
            · rename_i st2 p2 nt2 tm2' ps2 a2' b2 hrow2
              cases hj
              obtain ⟨fn2, tmps2, df2, hv2, hsz2', hT2', hheap2⟩ := k3.rel.row i _ hrow2
              have hb2 : υ.b i = σ.b i := k13.agree.b i hlti
              rw [hb2] at hheap2
              have hen := run_endRound (P := P) jump hheap2
              refine ⟨_, _, hen, _, rfl, ?_⟩
              have k4 : Step K υ mb w2 υ ⟨mb.S.set i (.loop (bif jump.isNone then .ready else .done) jump nt2 tm2' ps2 a2' b2), mb.nx, lower i mb.lo⟩ (w2.putObj (σ.b i) _) :=
                step_loop k3.rel hrow2 rfl rfl (lower_le _ _).1 (lower_le _ _).2 (goes_put _ _ _) (fun b hb => World.putObj_heap_other (by rw [← hb2]; exact hb))
                  ⟨fn2, tmps2, df2, by rw [hb2] at hv2 ⊢; exact hv2, hsz2', hT2', by rw [hb2, cond_eq_ite]; exact World.putObj_heap_same (heap_lt hheap2)⟩
              exact hΦ υ _ (k13.trans k4) trivial
            · cases hj
          cases e2 with
          | normal => exact fin none hr
          | ret => exact fin (some .ret) hr
          | exit j => exact fin (some (.exit j)) hr
          | goto j => exact fin (some (.goto j)) hr
          | panic c => cases hr
          | outgrown => cases hr
    | _ => cases hr
end
end Go.Ex
namespace Go.Ex
variable [Holes]
section
variable {P : Program} {K : Nat → Option (List Value)} {R : Rec} {σ τ : Env} {m m1 : Mem} {w w1 : World} {F : Fence} {Φ : Value → World → Prop}
theorem enter_und (hS : SoundCall P K R) {f : FuncId} {args : List W} {x : W} {vs : Array Value} (hv : vs = (args.map (realW σ)).toArray) (hr : R.call f args m = .ok x m1) (h : Rel K σ m w) (hl : ∀ y ∈ args, W.lt m.nx y) (hF : WF F)
    (hΦ : ∀ τ w', Step K σ m w τ m1 w' → x.lt m1.nx → Φ (realW τ x) w') : Und F P Φ ((callFunc f vs).run P w) := by
  obtain ⟨hc, hcall⟩ := hS f args m x m1 hr
  rw [callFunc_run hc, hv]
  intro n
  refine (hcall F hF σ w h hl n).mono ?_
  rintro e w' ⟨τ, rfl, k, hx⟩
  exact ⟨_, rfl, hΦ τ w' k hx⟩
theorem callF_run {f x : W} {args : List W} (hr : callF R f args m = .ok x m1) (h : Rel K σ m w) (hf : f.lt m.nx) (hl : ∀ y ∈ args, W.lt m.nx y) :
    ∃ d g gs, (Deferred.ofValue (realW σ f) (args.map (realW σ)).toArray).run P w = .ok d w ∧ (invoke d.target d.args).run P w = (callFunc g (gs.map (realW σ)).toArray).run P w ∧ R.call g gs m = .ok x m1 ∧ ∀ y ∈ gs, W.lt m.nx y := by
  unfold callF at hr
  split at hr
  · rename_i g a b
    rw [cond_eq_ite] at hr
    split at hr
    · rename_i he
      simp only [Bool.and_eq_true, Array.isEmpty_iff] at he
      obtain ⟨rfl, rfl⟩ := he
      refine ⟨_, g, args, rfl, ?_, hr, hl⟩
      show (callFunc g (#[] ++ (args.map (realW σ)).toArray ++ #[])).run P w = _
      simp
    · cases hr
  · rename_i i
    split at hr
    · rename_i g first caps hrow
      obtain ⟨h1, h2, h3⟩ := h.row i _ hrow
      have hv : realW σ (.v (.c (.clo i))) = .func (.func g) (first.map (realW σ)).toArray (caps.map (realW σ)).toArray := by simp only [realW, realV, realC, h1]
      rw [hv]
      refine ⟨_, g, first ++ args ++ caps, rfl, ?_, hr, fun y hy => ?_⟩
      · show (callFunc g ((first.map (realW σ)).toArray ++ (args.map (realW σ)).toArray ++ (caps.map (realW σ)).toArray)).run P w = _
        simp
      · simp only [List.mem_append] at hy
        rcases hy with (hy | hy) | hy
        · exact h2 y hy
        · exact hl y hy
        · exact h3 y hy
    · cases hr
  · cases hr
theorem callF_und (hS : SoundCall P K R) {f x : W} {args : List W} (hr : callF R f args m = .ok x m1) (h : Rel K σ m w) (hf : f.lt m.nx) (hl : ∀ y ∈ args, W.lt m.nx y) (hF : WF F)
    (hΦ : ∀ τ w', Step K σ m w τ m1 w' → x.lt m1.nx → Φ (realW τ x) w') : Und F P Φ ((do let d ← Deferred.ofValue (realW σ f) (args.map (realW σ)).toArray; invoke d.target d.args : Sem Next).run P w) := by
  obtain ⟨d, g, gs, h1, h2, h3, h4⟩ := callF_run (P := P) hr h hf hl
  rw [Sem.run_bind, h1, Result.andThen_ok, h2]
  exact enter_und hS rfl h3 h h4 hF hΦ
theorem callW_und (hS : SoundCall P K R) (hC : SoundCode P K R.code) {f x : W} {args : List W} (hr : callW R f args m = .ok x m1) (h : Rel K σ m w) (hf : f.lt m.nx) (hl : ∀ y ∈ args, W.lt m.nx y) (hF : WF F)
    (hΦ : ∀ τ w', Step K σ m w τ m1 w' → x.lt m1.nx → Φ (realW τ x) w') : Und F P Φ ((do let d ← Deferred.ofValue (realW σ f) (args.map (realW σ)).toArray; invoke d.target d.args : Sem Next).run P w) := by
  unfold callW at hr
  split at hr
  · rename_i i
    split at hr
    · rename_i p nt tm ps a b hrow
      split at hr
      · rename_i tm' hp
        have hrow' := h.row i _ hrow
        obtain ⟨fn, tmps, df, h1, _⟩ := hrow'
        have hv : realW σ (.v (.c (.clo i))) = .func (.yield (σ.b i)) #[] #[] := by simp only [realW, realV, realC, h1]
        rw [hv]
        show Und F P Φ ((Instr.yield (σ.b i) (#[] ++ (args.map (realW σ)).toArray)).run P w)
        exact round_und hC hrow (by simp) hp hr h hl hF hΦ
      · cases hr
    · exact callF_und hS hr h hf hl hF hΦ
  · exact callF_und hS hr h hf hl hF hΦ
theorem follow_ok : ∀ (l : List FieldStep) (t : Nat) (x y : W) (xt : Nat), followW P l t x = some (xt, y) → x.lt m.nx → (follow l t (.val (realW σ x))).run P w = Result.ok (xt, Place.val (realW σ y)) w ∧ y.lt m.nx
  | [], t, x, y, xt, h, hx => by cases h; exact ⟨rfl, hx⟩
  | s :: l, t, x, y, xt, h, hx => by
    unfold followW at h
    rw [cond_eq_ite] at h
    split at h
    · cases h
    · rename_i hd
      split at h
      · rename_i fields cs hu
        split at h
        · rename_i f hf
          split at h
          · rename_i z hz
            obtain ⟨h1, h2⟩ := part_ok (w := w) (σ := σ) hz hx
            obtain ⟨h3, h4⟩ := follow_ok l f.type z y xt h h2
            refine ⟨?_, h4⟩
            have hd' : s.deref = false := by simpa using hd
            have hxr : realW σ (.v (.a cs)) = .agg (cs.map (realC σ)).toArray := rfl
            rw [hxr]
            simp only [follow, Sem.run_bind, run_underlying hu, Result.andThen_ok, hf, hd', Bool.false_eq_true, if_false, h1]
            exact h3
          · cases h
        · cases h
      · cases h
theorem invokeW_und (hS : SoundCall P K R) {r x : W} {args : List W} {name : String} {vs : Array Value} (hvs : vs = (args.map (realW σ)).toArray) (hr : invokeW P R r name args m = .ok x m1) (h : Rel K σ m w) (hl : ∀ y ∈ args, W.lt m.nx y) (hF : WF F)
    (hΦ : ∀ τ w', Step K σ m w τ m1 w' → x.lt m1.nx → Φ (realW τ x) w') : Und F P Φ ((callMethod (realW σ r) name vs).run P w) := by
  have key : ∀ (t : Nat) (y : W) (u : Value), u = realW σ y → y.lt m.nx → methodW P R t y name args m = .ok x m1 → Und F P Φ ((callMethod (.iface t u) name vs).run P w) := by
    intro t y u hu hy hm
    subst hu
    unfold methodW at hm
    split at hm
    · cases hm
    · rename_i i hi
      split at hm
      · rename_i nm sig path f pr hfind
        split at hm
        · rename_i xt z hfol
          obtain ⟨f1, f2⟩ := follow_ok (σ := σ) (w := w) path.toList t y z xt hfol hy
          obtain ⟨k, hk⟩ : ∃ k, P.types.size + Made.depth = k + 1 := ⟨P.types.size + 99, rfl⟩
          have hti : (typeInfo t).run P w = .ok i w := by simp [typeInfo, hi]
          have hmeth : (method (P.types.size + Made.depth) t (realW σ y) name).run P w = .ok (f, realW σ z) w ∧ R.call f (z :: args) m = .ok x m1 := by
            split at hm
            · rename_i e hu
              refine ⟨?_, hm⟩
              rw [hk]
              simp only [method, Sem.run_bind, hti, Result.andThen_ok, hfind, f1, receiverAt, run_underlying hu, Place.get, Sem.run_pure]
            · cases hm
            · cases hm
            · cases hm
            · rename_i d hne hu
              refine ⟨?_, hm⟩
              rw [hk]
              simp only [method, Sem.run_bind, hti, Result.andThen_ok, hfind, f1, receiverAt, run_underlying hu]
              cases d <;> first | exact absurd rfl (hne _) | simp [Place.get]
          obtain ⟨g1, g2⟩ := hmeth
          unfold callMethod
          have hprog : (program).run P w = .ok P w := rfl
          simp only [Sem.run_bind, hprog, Result.andThen_ok, g1]
          refine enter_und hS (by rw [hvs]; simp) g2 h (fun q hq => ?_) hF hΦ
          rcases List.mem_cons.1 hq with rfl | hq
          · exact f2
          · exact hl q hq
        · cases hm
      · cases hm
  unfold invokeW at hr
  split at hr
  · rename_i t v
    exact key t (W.of v) v (ofW_real σ v).symm (ofW_lt _ _) hr
  · rename_i t i
    split at hr
    · rename_i v hv
      obtain ⟨h1, h2⟩ := h.row i _ hv
      exact key t (.v v) (σ.v i) h1 h2 hr
    · cases hr
  · cases hr
end
end Go.Ex
