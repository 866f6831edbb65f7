import Derived.Laws.BytesString
import Derived.RangeFuncRecord
import Derived.RangeFuncIn
import Derived.RangeFuncLeaves
import Derived.TacticsIn
import Derived.Test.YtneooimijbfmgaaGreatCrAC
set_option linter.unusedVariables false
set_option linter.unusedSimpArgs false
set_option linter.unusedSectionVars false
namespace Go.Vc
variable [Holes]
section
variable {P : Program} {K : Nat → Option (List Value)} {σ τ : Env} {m m1 : Mem} {w w1 : World}
/-- what an operation that calls nothing does -/
def Does (P : Program) (K : Nat → Option (List Value)) (σ : Env) (m : Mem) (w : World) (s : Sem Value) (x : W) (m1 : Mem) : Prop :=
  ∃ τ w', s.run P w = .ok (realW τ x) w' ∧ Step K σ m w τ m1 w' ∧ x.lt m1.nx
theorem Does.pure (h : Rel K σ m w) {s : Sem Value} {x : W} (hs : s.run P w = .ok (realW σ x) w ∧ x.lt m.nx) : Does P K σ m w s x m := ⟨σ, w, hs.1, Step.refl h, hs.2⟩
theorem purW_ok {x : Option W} {y : W} (h : purW x m = .ok y m1) : x = some y ∧ m1 = m := by
  cases x with
  | none => cases h
  | some x => cases h; exact ⟨rfl, rfl⟩
theorem un_ok {op : UnOp} {x y : W} (h : unW P op x = some y) (n : Nat) : (Op.unary op (realW σ x)).run P w = .ok (realW σ y) w ∧ y.lt n := by
  unfold unW at h
  split at h
  · rename_i v hv
    rw [rawW_ok hv]
    exact prun_ok h n
  · cases h
theorem conv_ok {a b : Nat} {x y : W} (h : convW P a b x = some y) (n : Nat) : (convert a b (realW σ x)).run P w = .ok (realW σ y) w ∧ y.lt n := by
  unfold convW at h
  split at h
  · rename_i v hv
    rw [rawW_ok hv]
    exact prun_ok h n
  · cases h
theorem bytesW_ok : ∀ {l : List C} {ns : List Int}, bytesW l = some ns → l.map (realC σ) = ns.map (Value.int .u8)
  | [], ns, h => by cases h; rfl
  | c :: l, ns, h => by
    unfold bytesW at h
    split at h
    · rename_i he; cases he
    · rename_i n l' he
      cases he
      split at h
      · rename_i ns' hn
        cases h
        rw [List.map_cons, List.map_cons, bytesW_ok hn]; rfl
      · cases h
    · cases h
theorem strB_ok (ns : List Int) : ns.foldl (fun r n => r.push (UInt8.ofNat n.toNat)) ByteArray.empty = strB ns := by
  have key : ∀ (ns : List Int) (s : ByteArray), ns.foldl (fun r n => r.push (UInt8.ofNat n.toNat)) s = ⟨⟨s.data.toList ++ ns.map fun n => UInt8.ofNat n.toNat⟩⟩ := by
    intro ns
    induction ns with
    | nil => intro s; simp
    | cons n ns ih =>
      intro s
      rw [List.foldl_cons, ih]
      simp [ByteArray.push]
  rw [key]
  simp [strB, ByteArray.empty, ByteArray.emptyWithCapacity]
  try rfl
theorem convM_ok (h : Rel K σ m w) {a b : Nat} {x y : W} (hc : convM P m a b x = some y) : (convert a b (realW σ x)).run P w = .ok (realW σ y) w ∧ y.lt m.nx := by
  unfold convM at hc
  split at hc
  · rename_i r o n z c
    unfold strW at hc
    split at hc
    · rename_i e ha hb
      split at hc
      · rename_i he
        split at hc
        · rename_i l hr
          split at hc
          · rename_i ns hn
            cases hc
            refine ⟨?_, trivial⟩
            obtain ⟨h1, h2, h3⟩ := read_ok h hr
            have : ∃ q, realW σ (.v (.c (.sl r o n z c))) = .slice (some ⟨σ.b r, σ.o r + o, none⟩) n q := by cases c <;> exact ⟨_, rfl⟩
            obtain ⟨q, hq⟩ := this
            rw [hq, run_convert_bytes_string w a b e _ n q ha he hb]
            have hcs := run_loadCells_list (P := P) (w := w) _ _ h3
            rw [List.length_map, h1, bytesW_ok hn] at hcs
            rw [run_bytesToString w _ n q ns hcs, strB_ok]
            rfl
          · cases hc
        · cases hc
      · cases hc
    · cases hc
  · rename_i r p o z
    unfold emW at hc
    split at hc
    · rename_i e ha hb
      split at hc
      · rename_i he
        cases hc
        refine ⟨?_, trivial⟩
        have : ∃ ad q, realW σ (.v (.c (.em r p o z))) = .slice (some ad) 0 q := ⟨_, _, rfl⟩
        obtain ⟨ad, q, hq⟩ := this
        rw [hq, run_convert_bytes_string w a b e _ 0 q ha he hb]
        have hcs := run_loadCells_list (P := P) (w := w) ad [] (fun j v hv => by simp at hv)
        rw [run_bytesToString w _ 0 q [] (by simpa using hcs), strB_ok]
        rfl
      · cases hc
    · cases hc
  · exact conv_ok hc _
theorem nilCheck_ok (h : Rel K σ m w) {x y : W} (hn : nilCheckW m x = some y) (hx : x.lt m.nx) : y = x ∧ (∀ o : Oper, ∀ p ρ, o.op = .nilCheck p → ρ p = realW σ x → (execOp ρ o).run P w = .ok (.value (realW σ y)) w) := by
  unfold nilCheckW at hn
  split at hn
  · cases hn
    refine ⟨rfl, fun o p ρ ho hp => ?_⟩
    unfold execOp
    simp only [ho, hp]
    rfl
  · cases hn
    refine ⟨rfl, fun o p ρ ho hp => ?_⟩
    unfold execOp
    simp only [ho, hp]
    rfl
  · rename_i i
    obtain ⟨hc, hn⟩ := cond_some hn
    cases hn
    obtain ⟨f, a, b, hq, hne⟩ := plainFn_ok h hc
    refine ⟨rfl, fun o p ρ ho hp => ?_⟩
    have hq' : realW σ (.v (.c (.clo i))) = .func f a b := hq
    have hq2 : realW σ (one (.clo i)) = .func f a b := hq
    unfold execOp
    simp only [ho, hp, hq', hq2]
    cases f with
    | method n => exact absurd rfl (hne n)
    | func => rfl
    | methodOf => rfl
    | via => rfl
    | yield => rfl
  · cases hn
    refine ⟨rfl, fun o p ρ ho hp => ?_⟩
    unfold execOp
    simp only [ho, hp]
    rfl
  · cases hn
    refine ⟨rfl, fun o p ρ ho hp => ?_⟩
    unfold execOp
    simp only [ho, hp]
    rfl
  · cases hn
theorem val_step (h : Rel K σ m w) {x : V} (hx : x.lt m.nx) : Step K σ m w (σ.set m.nx 0 0 0 (realV σ x)) (m.add (.val x)).1 w := by
  have hag := Env.agree_set σ m.nx 0 0 0 (realV σ x)
  refine step_add h (.val x) 0 0 0 (realV σ x) (Goes.refl w) (fun _ _ => rfl) (fun hb => by cases hb) ⟨?_, hx.mono (Nat.le_succ _)⟩
  rw [Env.set_v, hag.realV hx]
theorem fn_step (h : Rel K σ m w) {f : Fn} {first caps : List W} (hf : ∀ x ∈ first, W.lt m.nx x) (hc : ∀ x ∈ caps, W.lt m.nx x) :
    Step K σ m w (σ.set m.nx 0 0 0 (.func f (first.map (realW σ)).toArray (caps.map (realW σ)).toArray)) (m.add (.fn f first caps)).1 w := by
  have hag := Env.agree_set σ m.nx 0 0 0 (.func f (first.map (realW σ)).toArray (caps.map (realW σ)).toArray)
  refine step_add h (.fn f first caps) 0 0 0 _ (Goes.refl w) (fun _ _ => rfl) (fun hb => by cases hb) ⟨?_, fun x hx => (hf x hx).mono (Nat.le_succ _), fun x hx => (hc x hx).mono (Nat.le_succ _)⟩
  rw [Env.set_v, hag.mapW hf, hag.mapW hc]
theorem iface_ok (h : Rel K σ m w) {t : Nat} {x y : W} (hi : ifaceW P m t x = .ok y m1) (hx : x.lt m.nx) : Does P K σ m w (Instr.makeInterface t (realW σ x)) y m1 := by
  unfold ifaceW at hi
  split at hi
  · cases hi
  · cases hi
  · rename_i v hu hne
    cases hi
    refine Does.pure h ⟨?_, trivial⟩
    cases hu' : P.underlying t with
    | none => exact absurd hu' hu
    | some d =>
      cases d <;> first | exact absurd hu' (hne _) | (simp [Instr.makeInterface, run_underlying hu', realW, realV, realC, one])
  · rename_i x _ hu hne
    cases hi
    refine ⟨_, w, ?_, val_step h hx, h.ltnx⟩
    cases hu' : P.underlying t with
    | none => exact absurd hu' hu
    | some d =>
      cases d <;> first | exact absurd hu' (hne _) | (simp [Instr.makeInterface, run_underlying hu', realW, realV, realC, one])
  · cases hi
theorem assert_ok (h : Rel K σ m w) {t t0 : Nat} {x y : W} {ok : Bool} (ha : assertW P m x t ok = some y) : (Instr.typeAssert (realW σ x) t0 t ok).run P w = .ok (realW σ y) w ∧ y.lt m.nx := by
  unfold assertW at ha
  split at ha
  · cases ha
  · cases ha
  · rename_i t' v hu hne
    replace ⟨hc, ha⟩ := cond_some ha
    have hc := Nat.eq_of_beq_eq_true hc
    subst hc
    refine ⟨?_, by subst ha; cases ok; exact ofW_lt _ _; intro z hz; simp at hz; rcases hz with rfl | rfl; exact ofV_lt _ _; trivial⟩
    show (Instr.typeAssert (.iface t v) t0 t ok).run P w = _
    cases hu' : P.underlying t with
    | none => exact absurd hu' hu
    | some d =>
      subst ha
      have e1 : realW σ (bif ok then W.t [V.of v, V.c (C.raw (Value.bool true))] else W.of v) = if ok then .tuple #[v, .bool true] else v := by
        cases ok
        · exact ofW_real σ v
        · show Value.tuple ([realV σ (V.of v), .bool true]).toArray = _
          rw [ofV_real]
          rfl
      rw [e1]
      cases ok <;> cases d <;> first | exact absurd hu' (hne _) | simp [Instr.typeAssert, run_underlying hu']
  · rename_i t' i hu hne
    rw [cond_eq_ite] at ha
    split at ha
    · rename_i hc
      have hc := Nat.eq_of_beq_eq_true hc
      subst hc
      split at ha
      · rename_i v hv
        cases ha
        obtain ⟨h1, h2⟩ := h.row i _ hv
        refine ⟨?_, by cases ok; exact h2; intro z hz; simp at hz; rcases hz with rfl | rfl; exact h2; trivial⟩
        show (Instr.typeAssert (.iface t (σ.v i)) t0 t ok).run P w = _
        rw [h1]
        cases hu' : P.underlying t with
        | none => exact absurd hu' hu
        | some d =>
          cases ok <;> cases d <;> first | exact absurd hu' (hne _) | simp [Instr.typeAssert, run_underlying hu', realW, realV, realC]
      · cases ha
    · cases ha
  · cases ha
end
end Go.Vc

namespace Go.Vc
variable [Holes]
section
variable {P : Program} {K : Nat → Option (List Value)} {σ τ : Env} {m m1 : Mem} {w w1 : World}
def entM (k : IntKind) (e : Int × Value × Nat) : MapEntry := ⟨.int k e.1, e.2.1, e.2.2⟩
theorem run_getMap {r : Nat} {es : Array MapEntry} {c : Nat} (h : w.heap[r]? = some (.map es c)) : (getObj r).run P w = .ok (.map es c) w := by simp [getObj, Sem.run, h]
theorem run_setMap {r : Nat} {es : Array MapEntry} {c : Nat} (o : Obj) (h : w.heap[r]? = some (.map es c)) : (setObj r o).run P w = .ok () (w.putObj r o) := by simp [setObj, Sem.run, h, World.putObj]
theorem goes_putM (w : World) (l : Nat) (o : Obj) : Goes w (w.putObj l o) := ⟨rfl, rfl, rfl, by simp [World.putObj]⟩
theorem rowM_heap (h : Rel K σ m w) {r : Nat} {k : IntKind} {es : List (Int × Value × Nat)} {c : Nat} (hr : m.S.get r = some (.map k es c)) : w.heap[σ.b r]? = some (.map (es.map (entM k)).toArray c) := h.row r _ hr
/-- a map is turned -/
theorem step_map (h : Rel K σ m w) {r : Nat} {k : IntKind} {es : List (Int × Value × Nat)} {c : Nat} (hr : m.S.get r = some (.map k es c)) (es' : List (Int × Value × Nat)) (c' : Nat) :
    Step K σ m w σ ⟨m.S.set r (.map k es' c'), m.nx, lower r m.lo⟩ (w.putObj (σ.b r) (.map (es'.map (entM k)).toArray c')) := by
  refine step_turnR h hr rfl rfl rfl (lower_le _ _).1 (lower_le _ _).2 (goes_putM _ _ _) (fun b hb => World.putObj_heap_other hb) ?_
  show (w.putObj (σ.b r) _).heap[σ.b r]? = some (.map (es'.map (entM k)).toArray c')
  exact World.putObj_heap_same (heap_lt (rowM_heap h hr))
theorem mapTy_ok {t et : Nat} {k : IntKind} (h : mapTy P t = some (k, et)) : ∃ kt, P.underlying t = some (.map kt et) ∧ P.underlying kt = some (.int k) := by
  unfold mapTy at h
  split at h
  · rename_i kt et' hu
    split at h
    · rename_i k' hk
      cases h
      exact ⟨kt, hu, hk⟩
    · cases h
  · cases h
theorem rowM_ok {k : IntKind} {x i : W} {r c : Nat} {es : List (Int × Value × Nat)} {n : Int} (h : rowM m k x i = some (r, es, c, n)) : x = .v (.c (.mp r)) ∧ i = .v (.c (.raw (.int k n))) ∧ m.S.get r = some (.map k es c) := by
  unfold rowM at h
  split at h
  · rename_i r' k' n'
    rw [cond_eq_ite] at h
    split at h
    · rename_i hk
      have hk := eq_of_beq hk
      subst hk
      split at h
      · rename_i kk es' c' hg
        rw [cond_eq_ite] at h
        split at h
        · rename_i hkk
          have hkk := eq_of_beq hkk
          subst hkk
          cases h
          exact ⟨rfl, rfl, hg⟩
        · cases h
      · cases h
    · cases h
  · cases h
def idxM (n : Int) : List (Int × Value × Nat) → Option Nat
  | [] => none
  | e :: es => if e.1 = n then some 0 else (idxM n es).map (· + 1)
theorem findM_idx (n : Int) (es : List (Int × Value × Nat)) : findM n es = (idxM n es).bind fun i => (es[i]?).map (·.2) := by
  induction es with
  | nil => rfl
  | cons e es ih =>
    unfold findM idxM
    by_cases he : e.1 = n
    · rw [if_pos he, he]; simp
    · rw [if_neg he, cond_eq_ite, if_neg (by simpa using he), ih]
      cases idxM n es <;> simp
theorem findNow_ok (q k : IntKind) (n : Int) (es : List (Int × Value × Nat)) (j : Nat) : Instr.findNow (.int q) (.int k n) (es.map (entM k)) j = some ((idxM n es).bind fun i => (es[i]?).map fun e => (j + i, e.2.1)) := by
  induction es generalizing j with
  | nil => rfl
  | cons e es ih =>
    have hs : Instr.sameNow (.int q) (.int k n) (.int k e.1) = some (n == e.1) := by simp [Instr.sameNow]
    show (match Instr.sameNow (.int q) (.int k n) (.int k e.1) with
      | some true => some (some (j, e.2.1))
      | some false => Instr.findNow (.int q) (.int k n) (es.map (entM k)) (j + 1)
      | none => none) = _
    rw [hs]
    unfold idxM
    by_cases he : e.1 = n
    · rw [if_pos he, he]; simp
    · have hb : (n == e.1) = false := by simpa using fun h => he h.symm
      rw [if_neg he, hb]
      show Instr.findNow _ _ _ (j + 1) = _
      rw [ih]
      cases hx : idxM n es with
      | none => rfl
      | some i => simp [Nat.add_assoc, Nat.add_comm 1 i]
theorem run_findKey {kt : Nat} {k : IntKind} (hk : P.underlying kt = some (.int k)) (n : Int) (es : List (Int × Value × Nat)) : (Instr.findKey kt (.int k n) (es.map (entM k))).run P w = .ok ((idxM n es).bind fun i => (es[i]?).map fun e => (i, e.2.1)) w := by
  unfold Instr.findKey
  rw [Sem.run_bind, run_underlying hk]
  simp only [Result.andThen_ok, findNow_ok, Nat.zero_add]
  rfl
theorem run_checkKey {kt : Nat} {k : IntKind} (hk : P.underlying kt = some (.int k)) (b : Bool) (n : Int) : (Instr.checkKey b 10000 kt (.int k n)).run P w = .ok () w := by
  unfold Instr.checkKey
  rw [Sem.run_bind, run_underlying hk]
  rfl
theorem run_zeroV {t : Nat} {z : Value} (h : zeroV P t = some z) : (zeroValue t).run P w = .ok z w := by
  unfold zeroV at h
  cases hi : P.info? t with
  | none => rw [hi] at h; cases h
  | some i =>
    rw [hi] at h
    simp [zeroValue, typeInfo, hi, show i.zero = some z from h]
theorem two_lt (v : Value) (b : C) (hb : C.lt m.nx b) : W.lt m.nx (.t [V.of v, .c b]) := fun x hx => by
  rcases List.mem_cons.1 hx with rfl | hx
  · exact ofV_lt _ _
  · rcases List.mem_cons.1 hx with rfl | hx
    · exact hb
    · cases hx
theorem lookup_ok (h : Rel K σ m w) {t : Nat} {x i y : W} {ok : Bool} (hl : lookupW P m t x i ok = some y) : (Instr.lookup t (realW σ x) (realW σ i) ok).run P w = .ok (realW σ y) w ∧ y.lt m.nx := by
  unfold lookupW at hl
  split at hl
  · rename_i k et hty
    obtain ⟨kt, hu, hk⟩ := mapTy_ok hty
    split at hl
    · rename_i r es c n hrow
      obtain ⟨rfl, rfl, hg⟩ := rowM_ok hrow
      have hh := rowM_heap h hg
      have key : ∀ v b, ((idxM n es).bind fun i => (es[i]?).map fun e => (i, e.2.1)) = (if b = true then some (0, v) else none) ∨ True := fun _ _ => .inr trivial
      split at hl
      · rename_i v bn hf
        cases hl
        rw [findM_idx] at hf
        obtain ⟨i, hi, he⟩ := Option.bind_eq_some_iff.1 hf
        obtain ⟨e, he1, he2⟩ := Option.map_eq_some_iff.1 he
        have hfk : ((idxM n es).bind fun i => (es[i]?).map fun e => (i, e.2.1)) = some (i, v) := by rw [hi]; simp [he1, he2]
        refine ⟨?_, by
          cases ok
          · exact ofW_lt _ _
          · exact two_lt _ _ trivial⟩
        unfold Instr.lookup
        simp only [Sem.run_bind, run_underlying hu, Result.andThen_ok, realW, realV, realC, run_getMap hh, Sem.run_pure, run_checkKey hk, List.toList_toArray, run_findKey hk, hfk]
        cases ok
        · show Result.ok v w = .ok (realW σ (W.of v)) w; rw [ofW_real]
        · show Result.ok (Value.tuple #[v, .bool true]) w = .ok (.tuple #[realV σ (V.of v), .bool true]) w
          rw [ofV_real]
      · rename_i z hf hz
        cases hl
        rw [findM_idx] at hf
        have hfk : ((idxM n es).bind fun i => (es[i]?).map fun e => (i, e.2.1)) = none := by
          cases hi : idxM n es with
          | none => rfl
          | some i =>
            rw [hi] at hf
            simp only [Option.bind_some, Option.map_eq_none_iff] at hf
            simp [hf]
        refine ⟨?_, by
          cases ok
          · exact ofW_lt _ _
          · exact two_lt _ _ trivial⟩
        unfold Instr.lookup
        simp only [Sem.run_bind, run_underlying hu, Result.andThen_ok, realW, realV, realC, run_getMap hh, Sem.run_pure, run_checkKey hk, List.toList_toArray, run_findKey hk, hfk, run_zeroV hz]
        cases ok
        · show Result.ok z w = .ok (realW σ (W.of z)) w; rw [ofW_real]
        · show Result.ok (Value.tuple #[z, .bool false]) w = .ok (.tuple #[realV σ (V.of z), .bool false]) w
          rw [ofV_real]
      · cases hl
    · cases hl
  · cases hl
theorem sl_ptr_new (k : Nat) (v : Value) : realW (σ.set m.nx w.heap.size 0 k v) (one (.mp m.nx)) = .map (some w.heap.size) := by
  simp [one, realW, realV, realC]
theorem makeMap_ok (h : Rel K σ m w) {t : Nat} {r : Option Operand} {y : W} (hm : makeMapW P m t r = .ok y m1) : r = none ∧
    ∃ τ w', (Instr.makeMap t none).run P w = .ok (realW τ y) w' ∧ Step K σ m w τ m1 w' ∧ y.lt m1.nx := by
  unfold makeMapW at hm
  split at hm
  · rename_i k et hty
    cases hm
    refine ⟨rfl, σ.set m.nx w.heap.size 0 0 undef, w.alloc (.map #[] 0), ?_, ?_, h.ltnx⟩
    · show _ = Result.ok (realW _ (one (.mp m.nx))) _
      rw [sl_ptr_new]
      rfl
    · refine step_add h (.map k [] 0) _ _ _ _ (goes_alloc w _) (fun b hb => alloc_old w _ b hb) (fun _ => Nat.le_refl _) ?_
      show (w.alloc (.map #[] 0)).heap[(σ.set m.nx w.heap.size 0 0 undef).b m.nx]? = _
      rw [Env.set_b]
      show (w.heap.push (.map #[] 0))[w.heap.size]? = _
      rw [Array.getElem?_push_size]; rfl
  · cases hm
theorem idxM_key {n : Int} {es : List (Int × Value × Nat)} {i : Nat} (h : idxM n es = some i) : ∃ e, es[i]? = some e ∧ e.1 = n := by
  induction es generalizing i with
  | nil => cases h
  | cons e es ih =>
    unfold idxM at h
    split at h
    · rename_i he; cases h; exact ⟨e, rfl, he⟩
    · cases hx : idxM n es with
      | none => rw [hx] at h; cases h
      | some j =>
        rw [hx] at h; cases h
        obtain ⟨e', h1, h2⟩ := ih hx
        exact ⟨e', by simpa using h1, h2⟩
theorem modify_self {α : Type} (l : Array α) (i : Nat) (f : α → α) (hf : ∀ x, l[i]? = some x → f x = x) : l.modify i f = l := by
  apply Array.ext_getElem?
  intro j
  rw [Array.getElem?_modify]
  split
  · rename_i he; subst he
    cases hx : l[i]? with
    | none => rfl
    | some x => rw [Option.map_some, hf x hx]
  · rfl
theorem mapEntry_ok (h : Rel K σ m w) {t : Nat} {x i y : W} (hl : mapEntryW P m t x i = .ok y m1) : ∃ w', (Instr.mapEntry t (realW σ x) (realW σ i)).run P w = .ok (realW σ y) w' ∧ Step K σ m w σ m1 w' ∧ y.lt m1.nx := by
  unfold mapEntryW at hl
  split at hl
  · rename_i k et hty
    obtain ⟨kt, hu, hk⟩ := mapTy_ok hty
    split at hl
    · rename_i r es c n hrow
      obtain ⟨rfl, rfl, hg⟩ := rowM_ok hrow
      have hh := rowM_heap h hg
      have hx : realW σ (.v (.c (.mp r))) = .map (some (σ.b r)) := rfl
      have hi : realW σ (.v (.c (.raw (.int k n)))) = .int k n := rfl
      rw [hx, hi]
      split at hl
      · rename_i v bn hf
        cases hl
        rw [findM_idx] at hf
        obtain ⟨i, hi, he⟩ := Option.bind_eq_some_iff.1 hf
        obtain ⟨e, he1, he2⟩ := Option.map_eq_some_iff.1 he
        obtain ⟨e', he3, he4⟩ := idxM_key hi
        rw [he1] at he3; cases he3
        have hfk : ((idxM n es).bind fun i => (es[i]?).map fun e => (i, e.2.1)) = some (i, v) := by rw [hi]; simp [he1, he2]
        refine ⟨_, ?_, step_map h hg es c, two_lt _ _ trivial⟩
        have he5 : ((es.map (entM k)).toArray)[i]? = some ⟨.int k n, v, bn⟩ := by
          simp [he1, entM, he4, he2]
        unfold Instr.mapEntry
        simp only [Sem.run_bind, run_underlying hu, Result.andThen_ok, run_getMap hh, run_checkKey hk, List.toList_toArray, run_findKey hk, hfk, he5, Option.map_some, Option.getD_some]
        have hks : (Instr.keyThatStays (.int k n) (.int k n)).run P w = .ok (.int k n) w := by
          have hsb : Instr.sameBits 10000 (.int k n) (.int k n) = true := by simp [Instr.sameBits]
          simp [Instr.keyThatStays, hsb]
        rw [hks]
        simp only [Result.andThen_ok, Sem.run_bind]
        rw [modify_self _ _ _ (fun x hx => by rw [he5] at hx; cases hx; rfl), run_setMap _ hh]
        simp only [Result.andThen_ok, Sem.run_pure]
        show _ = Result.ok (Value.tuple #[realV σ (V.of v), goInt bn]) _
        rw [ofV_real]
      · rename_i hf
        split at hl
        · rename_i z hz
          cases hl
          rw [findM_idx] at hf
          have hfk : ((idxM n es).bind fun i => (es[i]?).map fun e => (i, e.2.1)) = none := by
            cases hi : idxM n es with
            | none => rfl
            | some i =>
              rw [hi] at hf
              simp only [Option.bind_some, Option.map_eq_none_iff] at hf
              simp [hf]
          refine ⟨_, ?_, step_map h hg _ _, two_lt _ _ trivial⟩
          unfold Instr.mapEntry
          simp only [Sem.run_bind, run_underlying hu, Result.andThen_ok, run_getMap hh, run_checkKey hk, List.toList_toArray, run_findKey hk, hfk, run_zeroV hz]
          have : (es.map (entM k)).toArray.push { key := .int k n, val := z, born := c } = ((es ++ [(n, z, c)]).map (entM k)).toArray := by simp [entM]
          rw [this, run_setMap _ hh]
          simp only [Result.andThen_ok, Sem.run_pure]
          show _ = Result.ok (Value.tuple #[realV σ (V.of z), goInt c]) _
          rw [ofV_real]
        · cases hl
    · cases hl
  · cases hl
theorem setK_ok {n : Int} {v : Value} {k : IntKind} {es es' : List (Int × Value × Nat)} (h : setK n v es = some es') :
    ∃ i e, idxM n es = some i ∧ es[i]? = some e ∧ e.1 = n ∧ (es.map (entM k)).modify i (fun e => { e with key := .int k n, val := v }) = es'.map (entM k) := by
  induction es generalizing es' with
  | nil => cases h
  | cons e es ih =>
    unfold setK at h
    rw [cond_eq_ite] at h
    split at h
    · rename_i hb
      have hb := eq_of_beq hb
      cases h
      refine ⟨0, e, ?_, rfl, hb, ?_⟩
      · unfold idxM; rw [if_pos hb]
      · simp [List.modify_cons, entM, hb]
    · rename_i hb
      have hb : ¬ e.1 = n := fun he => hb (by rw [he]; simp)
      split at h
      · rename_i es1 h1
        cases h
        obtain ⟨i, e', h2, h3, h4, h5⟩ := ih h1
        refine ⟨i + 1, e', ?_, by simpa using h3, h4, ?_⟩
        · unfold idxM; rw [if_neg hb, h2]; rfl
        · rw [List.map_cons, List.modify_succ_cons, h5]; rfl
      · cases h
theorem setK_none {n : Int} {v : Value} {es : List (Int × Value × Nat)} (h : setK n v es = none) : idxM n es = none := by
  induction es with
  | nil => rfl
  | cons e es ih =>
    unfold setK at h
    rw [cond_eq_ite] at h
    split at h
    · cases h
    · rename_i hb
      have hb : ¬ e.1 = n := fun he => hb (by rw [he]; simp)
      split at h
      · cases h
      · rename_i h1
        unfold idxM; rw [if_neg hb, ih h1]; rfl
theorem mapUpdate_ok (h : Rel K σ m w) {t : Nat} {x i v y : W} (hl : mapUpdateW P m t x i v = .ok y m1) : ∃ w', (Instr.mapUpdate t (realW σ x) (realW σ i) (realW σ v)).run P w = .ok () w' ∧ Step K σ m w σ m1 w' ∧ y = undefW := by
  unfold mapUpdateW at hl
  split at hl
  · rename_i k et hty
    obtain ⟨kt, hu, hk⟩ := mapTy_ok hty
    split at hl
    · rename_i r es c n v' hrow hv
      obtain ⟨rfl, rfl, hg⟩ := rowM_ok hrow
      have hh := rowM_heap h hg
      have hx : realW σ (.v (.c (.mp r))) = .map (some (σ.b r)) := rfl
      have hi : realW σ (.v (.c (.raw (.int k n)))) = .int k n := rfl
      rw [hx, hi, rawW_ok hv]
      split at hl
      · rename_i es' hs
        cases hl
        obtain ⟨i, e, h1, h2, h3, h4⟩ := setK_ok (k := k) hs
        have hfk : ((idxM n es).bind fun i => (es[i]?).map fun e => (i, e.2.1)) = some (i, e.2.1) := by rw [h1]; simp [h2]
        have he5 : ((es.map (entM k)).toArray)[i]? = some ⟨.int k n, e.2.1, e.2.2⟩ := by
          simp [h2, entM, h3]
        refine ⟨_, ?_, step_map h hg es' c, rfl⟩
        unfold Instr.mapUpdate
        simp only [Sem.run_bind, run_underlying hu, Result.andThen_ok, run_getMap hh, run_checkKey hk, List.toList_toArray, run_findKey hk, hfk, he5, Option.map_some, Option.getD_some]
        have hks : (Instr.keyThatStays (.int k n) (.int k n)).run P w = .ok (.int k n) w := by
          have hsb : Instr.sameBits 10000 (.int k n) (.int k n) = true := by simp [Instr.sameBits]
          simp [Instr.keyThatStays, hsb]
        rw [hks]
        simp only [Result.andThen_ok]
        have h6 : ((es.map (entM k)).toArray.modify i fun e => { e with key := .int k n, val := v' }) = (es'.map (entM k)).toArray := by
          rw [← h4, List.modify_toArray]
        rw [h6, run_setMap _ hh]
      · rename_i hs
        cases hl
        have hfk : ((idxM n es).bind fun i => (es[i]?).map fun e => (i, e.2.1)) = none := by rw [setK_none hs]; rfl
        refine ⟨_, ?_, step_map h hg _ _, rfl⟩
        unfold Instr.mapUpdate
        simp only [Sem.run_bind, run_underlying hu, Result.andThen_ok, run_getMap hh, run_checkKey hk, List.toList_toArray, run_findKey hk, hfk]
        have : (es.map (entM k)).toArray.push { key := .int k n, val := v', born := c } = ((es ++ [(n, v', c)]).map (entM k)).toArray := by simp [entM]
        rw [this, run_setMap _ hh]
    · cases hl
  · cases hl
theorem setM_ok {b : Nat} {v : Value} {k : IntKind} {es es' : List (Int × Value × Nat)} (h : setM b v es = some es') :
    ∃ i, (es.map (entM k)).findIdx? (fun e => (e.born : Int) == (b : Int)) = some i ∧ (es.map (entM k)).modify i (fun e => { e with val := v }) = es'.map (entM k) := by
  induction es generalizing es' with
  | nil => cases h
  | cons e es ih =>
    unfold setM at h
    rw [cond_eq_ite] at h
    split at h
    · rename_i hb
      have hb := Nat.eq_of_beq_eq_true hb
      cases h
      refine ⟨0, ?_, ?_⟩
      · rw [List.map_cons, List.findIdx?_cons, if_pos (by simp [entM, hb])]
      · simp [List.modify_cons, entM, hb]
    · rename_i hb
      split at h
      · rename_i es1 h1
        cases h
        obtain ⟨i, h2, h3⟩ := ih h1
        refine ⟨i + 1, ?_, ?_⟩
        · rw [List.map_cons, List.findIdx?_cons, if_neg (by
            simp [entM]
            intro he
            have he' : e.2.2 = b := by exact_mod_cast he
            exact hb (by rw [he']; exact Nat.beq_refl _)), h2]; rfl
        · rw [List.map_cons, List.modify_succ_cons, h3]; rfl
      · cases h
theorem entryStore_ok (h : Rel K σ m w) {t : Nat} {x b v y : W} (hl : entryStoreW m x b v = .ok y m1) : ∃ w', (Instr.entryStore t (realW σ x) (realW σ b) (realW σ v)).run P w = .ok () w' ∧ Step K σ m w σ m1 w' ∧ y = undefW := by
  unfold entryStoreW at hl
  split at hl
  · rename_i r bn v' hb hv
    obtain ⟨kb, hb⟩ := natW_ok (σ := σ) hb
    split at hl
    · rename_i k es c hg
      have hh := rowM_heap h hg
      split at hl
      · rename_i es' hs
        cases hl
        obtain ⟨i, h1, h2⟩ := setM_ok (k := k) hs
        refine ⟨_, ?_, step_map h hg es' c, rfl⟩
        rw [hb, rawW_ok hv]
        show (Instr.entryStore t (.map (some (σ.b r))) (.int kb bn) v').run P w = _
        unfold Instr.entryStore
        simp only [Sem.run_bind, Result.andThen_ok, run_getMap hh, asInt, asIntOf, Sem.run_pure]
        have h3 : (es.map (entM k)).toArray.findIdx? (fun e => (e.born : Int) == (bn : Int)) = some i := by
          rw [List.findIdx?_toArray]; exact h1
        rw [h3]
        simp only
        have h4 : ((es.map (entM k)).toArray.modify i fun e => { e with val := v' }) = (es'.map (entM k)).toArray := by
          rw [← h2, List.modify_toArray]
        rw [h4, run_setMap _ hh]
      · cases hl
    · cases hl
  · cases hl
theorem clrM_ok (h : Rel K σ m w) {t ty : Nat} {r : Nat} {y : W} (hu : (P.underlying t).isSome = true) (hc : clearMapW m r = .ok y m1) :
    ∃ w', (Builtin.clear_ #[t] ty #[realW σ (.v (.c (.mp r)))]).run P w = .ok (realW σ y) w' ∧ Step K σ m w σ m1 w' ∧ y.lt m1.nx := by
  unfold clearMapW at hc
  split at hc
  · rename_i k es c hg
    cases hc
    have hh := rowM_heap h hg
    refine ⟨_, ?_, step_map h hg [] c, undefW_lt _⟩
    obtain ⟨d, hd⟩ := Option.isSome_iff_exists.1 hu
    show (Builtin.clear_ #[t] ty #[.map (some (σ.b r))]).run P w = _
    simp only [Builtin.clear_, List.getElem?_toArray, List.getElem?_cons_zero, Sem.run_bind, run_underlying hd, Result.andThen_ok, run_getMap hh, run_setMap _ hh, Sem.run_pure]
    simp [undefW, realW]
  · cases hc
theorem clr_ok (h : Rel K σ m w) {t ty : Nat} {x y : W} (hc : clrW P m t x = .ok y m1) :
    ∃ w', (Builtin.clear_ #[t] ty #[realW σ x]).run P w = .ok (realW σ y) w' ∧ Step K σ m w σ m1 w' ∧ y.lt m1.nx := by
  unfold clrW at hc
  split at hc
  · rename_i r
    rw [cond_eq_ite] at hc
    split at hc
    · rename_i hu; exact clrM_ok h hu hc
    · cases hc
  · exact clear_ok h hc
end
end Go.Vc

namespace Go.Vc
variable [Holes]
/-- a fence that lets all in -/
structure WF (F : Fence) : Prop where
  fn : ∀ f, F.fn f
  depth : F.depth = none
  alive : F.alive = false
/-- what a step of a machine hands on -/
def Und (F : Fence) (P : Program) (Φ : Value → World → Prop) : Result Next → Prop
  | .ok (.value v) w => Φ v w
  | .ok .skip w => Φ undef w
  | .ok (.enter f args) w => ∀ n, CallsIn F n P f args w fun e w' => ∃ v, e = .returned v ∧ Φ v w'
  | .ok (.round l f tmps assign body) w => ∀ n, RoundIn F n P l f tmps assign body w fun e w' => ∃ v, e = .returned v ∧ Φ v w'
  | _ => False
/-- a function that may be entered -/
def CanEnter (P : Program) (f : FuncId) : Prop := ∃ fn, P.funcs[f]? = some fn ∧ (fn.name == "runtime.NumGoroutine") = false ∧ fn.body.isSome = true
/-- the round's loop is there -/
def RoundOk (σ : Env) (m : Mem) (F : Fence) : Prop := ∀ b, F.round = some b → ∃ i r, m.S.get i = some r ∧ r.isLoop = true ∧ σ.b i = b
/-- the blocks for the deferred calls of rounds -/
def MarksOk (B : Nat) (a : Act) (w : World) : Prop := ∃ rs : List Nat, a.defers = rs.map (fun r => ({ target := .collected r, args := #[] } : Deferred)) ∧ rs.Nodup ∧ ∀ r ∈ rs, B ≤ r ∧ w.heap[r]? = some (.deferred (some []))
section
variable {P : Program} {K : Nat → Option (List Value)} {σ τ : Env} {m m1 : Mem} {w w1 : World} {F : Fence}
theorem RoundOk.step (h : RoundOk σ m F) (hr : Rel K σ m w) (k : Step K σ m w τ m1 w1) : RoundOk τ m1 F := fun b hb => by
  obtain ⟨i, r, h1, h2, h3⟩ := h b hb
  obtain ⟨s, h4, h5⟩ := k.keep i r h1 h2
  exact ⟨i, s, h4, h5, by rw [k.agree.b i (hr.lt i r h1)]; exact h3⟩
/-- what is no row's stays -/
theorem Step.other (k : Step K σ m w τ m1 w1) (hr : Rel K σ m w) {b : Nat} {o : Obj} (hb : w.heap[b]? = some o) (h1 : ∀ c e f, o ≠ .cells c e f) (h2 : ∀ l, o ≠ .loop l) (h3 : ∀ es c, o ≠ .map es c) : w1.heap[b]? = some o := by
  rw [k.frame b (heap_lt hb) (fun i r hi hrb he => ?_), hb]
  exfalso
  have := hr.row i r hi
  cases r with
  | cells e q cs => obtain ⟨arr, a1, _⟩ := this; rw [he, hb] at a1; cases a1; exact h1 _ _ _ rfl
  | loop st p nt tm ps a b => obtain ⟨fn, tmps, df, _, _, _, a4⟩ := this; rw [he, hb] at a4; cases a4; exact h2 _ rfl
  | map k es c => have this : w.heap[σ.b i]? = _ := this; rw [he, hb] at this; cases this; exact h3 _ _ rfl
  | fn => cases hrb
  | val => cases hrb
  | dead => cases hrb
theorem MarksOk.step {B : Nat} {a : Act} (h : MarksOk B a w) (hr : Rel K σ m w) (k : Step K σ m w τ m1 w1) {tmps : Array Value} : MarksOk B { a with tmps := tmps } w1 := by
  obtain ⟨rs, h1, h2, h3⟩ := h
  exact ⟨rs, h1, h2, fun r hrr => ⟨(h3 r hrr).1, k.other hr (h3 r hrr).2 (fun _ _ _ => by simp) (fun _ => by simp) (fun _ _ => by simp)⟩⟩
theorem callFunc_run {f : Nat} {args : Array Value} (h : CanEnter P f) : (callFunc f args).run P w = .ok (.enter f args) w := by
  obtain ⟨fn, hf, hn, hb⟩ := h
  have hn' : ¬ fn.name = "runtime.NumGoroutine" := by simpa using hn
  have hb' : ¬ fn.body = none := fun e => by rw [e] at hb; cases hb
  simp [callFunc, hf, hn', hb']
theorem evs_map {a : Act} {tm : Tm} (h : TmOk σ m.nx a.tmps tm) (xs : Array Operand) : xs.map a.eval = ((xs.toList.map (ev tm)).map (realW σ)).toArray := by
  apply Array.ext'
  simp only [Array.toList_map, List.map_map, List.toList_toArray]
  refine List.map_congr_left fun x _ => ?_
  exact (h.ev a.defers x).1
theorem evs_lt {a : Act} {tm : Tm} (h : TmOk σ m.nx a.tmps tm) (xs : Array Operand) : ∀ x ∈ xs.toList.map (ev tm), W.lt m.nx x := fun x hx => by
  obtain ⟨y, _, rfl⟩ := List.mem_map.1 hx
  exact (h.ev a.defers y).2
theorem rawB_ok {b : Builtin} {ts : Array TypeId} {xs : List W} {ty : TypeId} {y : W} {cs : Array Bool} (h : rawB P b ts (xs.mapM W.raw?) ty = some y) (n : Nat) :
    (builtin b ts ty cs (xs.map (realW σ)).toArray).run P w = .ok (.value (realW σ y)) w ∧ y.lt n := by
  unfold rawB at h
  split at h
  · rename_i vs hv
    rw [cond_eq_ite] at h
    split at h
    · rename_i hp
      split at h
      · rename_i v hv'
        cases h
        rw [rawWs_ok xs vs hv, ofW_real]
        refine ⟨?_, ofW_lt _ _⟩
        have := pureRun_ok w _ _ hv'
        rw [← this]
        cases b <;> first | rfl | (exact absurd hp (by simp [pureB]))
      · cases h
    · cases h
  · cases h
theorem len_b {t ty : Nat} {x : W} {n : Nat} (h : lenOf P t x = some n) : (Builtin.len_ #[t] ty #[realW σ x]).run P w = .ok (goInt n) w := by
  unfold lenOf at h
  split at h
  · rename_i r o k z c e hu
    cases h
    have : ∃ q, realW σ (.v (.c (.sl r o n z c))) = .slice (some ⟨σ.b r, σ.o r + o, none⟩) n q := by cases c <;> exact ⟨_, rfl⟩
    obtain ⟨q, hq⟩ := this
    rw [hq]
    simp [Builtin.len_, run_underlying hu]
  · rename_i r p o z e hu
    cases h
    show (Builtin.len_ #[t] ty #[.slice (some _) 0 _]).run P w = _
    simp [Builtin.len_, run_underlying hu]
  · rename_i r o a hu
    split at h
    · rename_i k e hu2
      cases h
      show (Builtin.len_ #[t] ty #[.pointer _]).run P w = _
      simp [Builtin.len_, run_underlying hu, run_underlying hu2]
    · cases h
  · rename_i cs k e hu
    cases h
    show (Builtin.len_ #[t] ty #[.agg _]).run P w = _
    simp [Builtin.len_, run_underlying hu]
  · cases h
theorem cap_b {t ty : Nat} {x : W} {n : Nat} (h : capOf P t x = some n) : (Builtin.cap_ #[t] ty #[realW σ x]).run P w = .ok (goInt n) w := by
  unfold capOf at h
  split at h
  · rename_i r o k z c e hu
    cases h
    show (Builtin.cap_ #[t] ty #[.slice (some _) k n]).run P w = _
    simp [Builtin.cap_, run_underlying hu]
  · cases h
/-- the builtins -/
theorem builtin_ok (h : Rel K σ m w) {b : Builtin} {ts : Array TypeId} {xs : List W} {ty : TypeId} {y : W} {cs : Array Bool} (hb : builtinW P b ts xs (xs.mapM W.raw?) ty m = .ok y m1) (hl : ∀ x ∈ xs, W.lt m.nx x) :
    ∃ τ w', (builtin b ts ty cs (xs.map (realW σ)).toArray).run P w = .ok (.value (realW τ y)) w' ∧ Step K σ m w τ m1 w' ∧ y.lt m1.nx := by
  have one : ∀ {ts : Array TypeId} {t : Nat}, ts.toList = [t] → ts = #[t] := fun h => Array.ext' h
  have two : ∀ {ts : Array TypeId} {t u : Nat}, ts.toList = [t, u] → ts = #[t, u] := fun h => Array.ext' h
  unfold builtinW at hb
  split at hb
  · split at hb
    · rename_i t u s x hts
      have := two hts; subst this
      obtain ⟨τ, w', h1, h2, h3⟩ := append_ok (ty := ty) h hb (hl s (by simp))
      refine ⟨τ, w', ?_, h2, h3⟩
      show (do pure (.value (← Builtin.append_ #[t, u] ty #[realW σ s, realW σ x])) : Sem Next).run P w = _
      rw [Sem.run_bind, h1]; rfl
    · cases hb
  · split at hb
    · rename_i t u s x hts
      have := two hts; subst this
      obtain ⟨w', h1, h2, h3⟩ := copy_ok (xT := u) (ty := ty) h hb
      refine ⟨σ, w', ?_, h2, h3⟩
      show (do pure (.value (← Builtin.copy_ #[t, u] ty #[realW σ s, realW σ x])) : Sem Next).run P w = _
      rw [Sem.run_bind, h1]; rfl
    · cases hb
  · split at hb
    · rename_i t x hts
      have := one hts; subst this
      obtain ⟨w', h1, h2, h3⟩ := clr_ok (ty := ty) h hb
      refine ⟨σ, w', ?_, h2, h3⟩
      show (do pure (.value (← Builtin.clear_ #[t] ty #[realW σ x])) : Sem Next).run P w = _
      rw [Sem.run_bind, h1]; rfl
    · cases hb
  · split at hb
    · rename_i t x hts
      have := one hts; subst this
      obtain ⟨hb2, rfl⟩ := purW_ok hb
      unfold intOr at hb2
      split at hb2
      · rename_i n hn
        cases hb2
        refine ⟨σ, w, ?_, Step.refl h, trivial⟩
        show (do pure (.value (← Builtin.len_ #[t] ty #[realW σ x])) : Sem Next).run P w = _
        rw [Sem.run_bind, len_b hn]; rfl
      · obtain ⟨h1, h2⟩ := rawB_ok (σ := σ) (w := w) (cs := cs) hb2 m1.nx
        exact ⟨σ, w, h1, Step.refl h, h2⟩
    · cases hb
  · split at hb
    · rename_i t x hts
      have := one hts; subst this
      obtain ⟨hb2, rfl⟩ := purW_ok hb
      unfold intOr at hb2
      split at hb2
      · rename_i n hn
        cases hb2
        refine ⟨σ, w, ?_, Step.refl h, trivial⟩
        show (do pure (.value (← Builtin.cap_ #[t] ty #[realW σ x])) : Sem Next).run P w = _
        rw [Sem.run_bind, cap_b hn]; rfl
      · obtain ⟨h1, h2⟩ := rawB_ok (σ := σ) (w := w) (cs := cs) hb2 m1.nx
        exact ⟨σ, w, h1, Step.refl h, h2⟩
    · cases hb
  · obtain ⟨hb2, rfl⟩ := purW_ok hb
    obtain ⟨h1, h2⟩ := rawB_ok (σ := σ) (w := w) (cs := cs) hb2 m1.nx
    exact ⟨σ, w, h1, Step.refl h, h2⟩
end
end Go.Vc

namespace Go.Vc
variable [Holes]
section
variable {P : Program} {K : Nat → Option (List Value)} {σ τ : Env} {m m1 : Mem} {w w1 : World} {F : Fence} {Φ : Value → World → Prop}
theorem und_value {s : Sem Value} {v : Value} {w' : World} (h : s.run P w = .ok v w') (hΦ : Φ v w') : Und F P Φ ((do pure (.value (← s)) : Sem Next).run P w) := by
  rw [Sem.run_bind, h]; exact hΦ
theorem und_does {s : Sem Value} {x : W} (h : Does P K σ m w s x m1) (hΦ : ∀ τ w', Step K σ m w τ m1 w' → x.lt m1.nx → Φ (realW τ x) w') : Und F P Φ ((do pure (.value (← s)) : Sem Next).run P w) := by
  obtain ⟨τ, w', h1, h2, h3⟩ := h
  exact und_value h1 (hΦ τ w' h2 h3)
theorem rawO_ok {a : Act} {tm : Tm} (hT : TmOk σ m.nx a.tmps tm) {x : Option Operand} {v : Option Value} (h : rawO tm x = some v) : x.map a.eval = v := by
  unfold rawO at h
  split at h
  · rename_i o
    split at h
    · rename_i u hu
      cases h
      rw [Option.map_some, (hT.ev a.defers o).1, rawW_ok hu]
    · cases h
  · cases h; rfl
theorem evO_map {a : Act} {tm : Tm} (hT : TmOk σ m.nx a.tmps tm) (x : Option Operand) : x.map a.eval = (x.map (ev tm)).map (realW σ) := by
  cases x with
  | none => rfl
  | some o => rw [Option.map_some, Option.map_some, Option.map_some, (hT.ev a.defers o).1]
theorem evP_map {a : Act} {tm : Tm} (hT : TmOk σ m.nx a.tmps tm) (l : Array (Nat × Operand)) : (l.map fun (i, x) => (i, a.eval x)) = ((evs tm l).map fun p => (p.1, realW σ p.2)).toArray := by
  apply Array.ext'
  unfold evs
  simp only [Array.toList_map, List.map_map, List.toList_toArray]
  refine List.map_congr_left fun x _ => ?_
  obtain ⟨i, x⟩ := x
  show (i, a.eval x) = (i, realW σ (ev tm x))
  rw [(hT.ev a.defers x).1]
theorem evP_lt {a : Act} {tm : Tm} (hT : TmOk σ m.nx a.tmps tm) (l : Array (Nat × Operand)) : ∀ p ∈ evs tm l, W.lt m.nx p.2 := fun p hp => by
  unfold evs at hp
  obtain ⟨⟨i, x⟩, _, rfl⟩ := List.mem_map.1 hp
  exact (hT.ev a.defers x).2
theorem purW_does (h : Rel K σ m w) {x : Option W} {y : W} {s : Sem Value} (hp : purW x m = .ok y m1) (hs : x = some y → s.run P w = .ok (realW σ y) w ∧ y.lt m.nx) : Does P K σ m w s y m1 := by
  obtain ⟨h1, rfl⟩ := purW_ok hp
  exact Does.pure h (hs h1)
theorem pick_ok {a : Act} {tm : Tm} (hT : TmOk σ m.nx a.tmps tm) {c x y : Operand} {z : W} (h : pickW tm c x y = some z) : (do pure (.value (if ← asBool (a.eval c) then a.eval x else a.eval y)) : Sem Next).run P w = .ok (.value (realW σ z)) w ∧ z.lt m.nx := by
  unfold pickW at h
  split at h
  · rename_i b hb
    cases h
    have hc : a.eval c = .bool b := by rw [(hT.ev a.defers c).1, hb]; rfl
    rw [hc]
    cases b
    · exact ⟨by simp [asBool, (hT.ev a.defers y).1], (hT.ev a.defers y).2⟩
    · exact ⟨by simp [asBool, (hT.ev a.defers x).1], (hT.ev a.defers x).2⟩
  · cases h
/-- operations that call nothing of Go's -/
theorem op_plain {o : Oper} {a : Act} {tm : Tm} {x : W} (hc : ∀ c, o.op ≠ .call c) (ho : opW P K o.op o.type tm m = .ok x m1) (h : Rel K σ m w) (hT : TmOk σ m.nx a.tmps tm)
    (hΦ : ∀ τ w', Step K σ m w τ m1 w' → x.lt m1.nx → Φ (realW τ x) w') : Und F P Φ ((execOp a.eval o).run P w) := by
  have E : ∀ p, a.eval p = realW σ (ev tm p) := fun p => (hT.ev a.defers p).1
  have L : ∀ p, W.lt m.nx (ev tm p) := fun p => (hT.ev a.defers p).2
  unfold execOp
  revert ho
  cases hop : o.op <;> intro ho <;> simp only [opW] at ho <;> dsimp only
  case move p => cases ho; rw [E p]; exact hΦ σ w (Step.refl h) (L p)
  case assign p => cases ho; rw [E p]; exact hΦ σ w (Step.refl h) (L p)
  case pick c p q =>
    obtain ⟨h1, rfl⟩ := purW_ok ho
    obtain ⟨h2, h3⟩ := pick_ok (P := P) (w := w) hT h1
    rw [h2]
    exact hΦ σ w (Step.refl h) h3
  case alloc e => exact und_does (alloc_ok h ho) hΦ
  case box e p => simp only [E p]; exact und_does (box_ok h ho (L p)) hΦ
  case build t ps => simp only [evP_map hT]; exact und_does (purW_does h ho fun hx => build_ok hx (evP_lt hT ps)) hΦ
  case buildSlice t n ps => simp only [evP_map hT]; exact und_does (buildSlice_ok h ho (evP_lt hT ps)) hΦ
  case load t p =>
    simp only [E p]
    exact und_does (purW_does h ho fun hx => load_ok h hx (L p)) hΦ
  case store t p q =>
    simp only [E p, E q]
    unfold stW at ho
    split at ho
    · rename_i m2 hs
      cases ho
      obtain ⟨w', h1, h2⟩ := store_ok (P := P) h hs (L q)
      rw [Sem.run_bind, h1]
      exact hΦ σ w' h2 (undefW_lt _)
    · cases ho
  case nilCheck p =>
    obtain ⟨h1, rfl⟩ := purW_ok ho
    obtain ⟨h2, h3⟩ := nilCheck_ok (P := P) h h1 (L p)
    have := h3 o p a.eval hop (E p)
    unfold execOp at this
    simp only [hop] at this
    rw [this]
    exact hΦ σ w (Step.refl h) (by rw [h2]; exact L p)
  case binOp op t p q u => simp only [E p, E q]; exact und_does (purW_does h ho fun hx => bin2_ok h hx) hΦ
  case unOp op t p => simp only [E p]; exact und_does (purW_does h ho fun hx => un_ok hx _) hΦ
  case convert s d p => simp only [E p]; exact und_does (purW_does h ho fun hx => convM_ok h hx) hΦ
  case makeInterface t p => simp only [E p]; exact und_does (iface_ok h ho (L p)) hΦ
  case makeFunc f first caps =>
    simp only [evs_map hT]
    cases ho
    refine und_value (s := Instr.makeFunc f _ _) rfl ?_
    have := hΦ _ w (fn_step h (evs_lt hT first) (evs_lt hT caps)) h.ltnx
    simpa [one, realW, realV, realC] using this
  case makeSlice t p q => simp only [E p, E q]; exact und_does (makeSlice_ok h ho) hΦ
  case slice t p lo hi mx =>
    obtain ⟨h1, rfl⟩ := purW_ok ho
    refine und_does (Does.pure h ?_) hΦ
    unfold sliceOp at h1
    split at h1
    · rename_i v hv
      split at h1
      · rename_i l hh hl hhh
        rw [E p, hv, rawO_ok hT hl, rawO_ok hT hhh]
        exact prun_ok h1 _
      · cases h1
    · rw [E p, evO_map hT, evO_map hT, evO_map hT]
      exact slice_ok h h1 (L p)
  case fieldAddr t p f =>
    simp only [E p]
    exact und_does (purW_does h ho fun hx => fieldAddr_ok hx (L p)) hΦ
  case field t p f => simp only [E p]; exact und_does (purW_does h ho fun hx => field_ok hx (L p)) hΦ
  case indexAddr t p q =>
    simp only [E p, E q]
    refine und_does ?_ hΦ
    refine purW_does h ho fun hx => ?_
    unfold indexAddrOp at hx
    split at hx
    · rename_i u hu
      split at hx
      · rename_i v hv
        rw [hu, rawW_ok hv]
        exact prun_ok hx _
      · cases hx
    · exact indexAddr_ok hx (L p)
  case index t p q => simp only [E p, E q]; exact und_does (purW_does h ho fun hx => index_ok hx (L p)) hΦ
  case extract p i => simp only [E p]; exact und_does (purW_does h ho fun hx => extract_ok hx (L p)) hΦ
  case typeAssert p t0 t ok => simp only [E p]; exact und_does (purW_does h ho fun hx => assert_ok h hx) hΦ
  case call c => exact absurd hop (hc c)
  case makeMap t r =>
    obtain ⟨rfl, hd⟩ := makeMap_ok (P := P) h ho
    exact und_does hd hΦ
  case lookup t p q ok => simp only [E p, E q]; exact und_does (purW_does h ho fun hx => lookup_ok h hx) hΦ
  case mapEntry t p q =>
    simp only [E p, E q]
    obtain ⟨w', h1, h2, h3⟩ := mapEntry_ok (P := P) h ho
    exact und_does ⟨σ, w', h1, h2, h3⟩ hΦ
  case mapUpdate t p q r =>
    simp only [E p, E q, E r]
    obtain ⟨w', h1, h2, rfl⟩ := mapUpdate_ok (P := P) h ho
    rw [Sem.run_bind, h1]
    exact hΦ σ w' h2 (undefW_lt _)
  case entryStore t p q r =>
    simp only [E p, E q, E r]
    obtain ⟨w', h1, h2, rfl⟩ := entryStore_ok (P := P) (t := t) h ho
    rw [Sem.run_bind, h1]
    exact hΦ σ w' h2 (undefW_lt _)
  all_goals cases ho
end
end Go.Vc

namespace Go.Vc
variable [Holes]
section
variable {P : Program} {K : Nat → Option (List Value)} {σ τ : Env} {m m1 : Mem} {w w1 : World} {F : Fence} {Φ : Value → World → Prop}
theorem builtin_und {o : Oper} {c : Call} {a : Act} {tm : Tm} {x : W} (hop : o.op = .call c) (ho : callOp P tm m c o.type = .ok x m1) (h : Rel K σ m w) (hT : TmOk σ m.nx a.tmps tm)
    (hΦ : ∀ τ w', Step K σ m w τ m1 w' → x.lt m1.nx → Φ (realW τ x) w') : Und F P Φ ((execOp a.eval o).run P w) := by
  unfold execOp
  simp only [hop]
  unfold callOp at ho
  unfold resolve
  rw [evs_map hT c.args]
  split at ho
  · rename_i b hcal
    simp only [hcal]
    have key : ∀ cs, Und F P Φ ((builtin b c.argTypes o.type cs (((c.args.toList.map (ev tm)).map (realW σ)).toArray)).run P w) := fun cs => by
      obtain ⟨τ, w', h1, h2, h3⟩ := builtin_ok (cs := cs) h ho (evs_lt hT c.args)
      rw [h1]
      exact hΦ τ w' h2 h3
    simp only [Sem.run_bind, Sem.run_pure, Result.andThen_ok]
    exact key _
  · cases ho
/-- every operation that enters no function -/
theorem op_und {o : Oper} {a : Act} {tm : Tm} {x : W} (ho : opW P K o.op o.type tm m = .ok x m1) (h : Rel K σ m w) (hT : TmOk σ m.nx a.tmps tm)
    (hΦ : ∀ τ w', Step K σ m w τ m1 w' → x.lt m1.nx → Φ (realW τ x) w') : Und F P Φ ((execOp a.eval o).run P w) := by
  by_cases hc : ∃ c, o.op = .call c
  · obtain ⟨c, hc⟩ := hc
    rw [hc] at ho
    simp only [opW] at ho
    exact builtin_und hc ho h hT hΦ
  · exact op_plain (fun c hq => hc ⟨c, hq⟩) ho h hT hΦ
theorem want_ok {a : Act} {tm : Tm} (hT : TmOk σ m.nx a.tmps tm) (ops : Array Oper) (o : Oper) (hop : openB ops tm o = false) : Region.wanted o (yielded ops a.tmps) = wantW ops tm o := by
  unfold Region.wanted wantW
  cases hg : o.guard with
  | none => rfl
  | some g =>
    obtain ⟨j, b⟩ := g
    simp only
    unfold yielded
    unfold openB at hop
    rw [hg] at hop
    simp only at hop
    cases hd : (ops[j]?).bind (·.dst) with
    | none => rfl
    | some d =>
      simp only [Option.bind_some]
      rw [hd] at hop
      simp only at hop
      have hget := hT.get d
      rw [Array.getD_eq_getD_getElem?] at hget
      rcases Nat.lt_or_ge d a.tmps.size with hlt | hge
      · rw [Array.getElem?_eq_getElem hlt] at hget ⊢
        rw [Option.getD_some] at hget
        rw [hget]
        cases hx : tm.get d with
        | t l => rfl
        | v y =>
          cases y with
          | a cs => rfl
          | c z =>
            cases z with
            | raw v => cases v <;> first | rfl | (rename_i q; cases q <;> cases b <;> rfl)
            | sb q => rw [hx] at hop; cases hop
            | sl r o n z c => cases c <;> rfl
            | clo i =>
              have hh : (∃ f p q, realC σ (.clo i) = .func f p q) ∨ realC σ (.clo i) = .nilFunc := by
                simp only [realC]
                split
                · exact .inl ⟨_, _, _, rfl⟩
                · exact .inr rfl
              rw [show realW σ (.v (.c (.clo i))) = realC σ (.clo i) from rfl]
              rcases hh with ⟨f, p, q, hh⟩ | hh <;> rw [hh] <;> rfl
            | fz i =>
              have hh : (∃ a n c, realC σ (.fz i) = .slice a n c) ∨ realC σ (.fz i) = .nilFunc := by
                simp only [realC]
                split
                · exact .inl ⟨_, _, _, rfl⟩
                · exact .inr rfl
              rw [show realW σ (.v (.c (.fz i))) = realC σ (.fz i) from rfl]
              rcases hh with ⟨f, p, q, hh⟩ | hh <;> rw [hh] <;> rfl
            | _ => rfl
      · rw [Array.getElem?_eq_none hge] at hget ⊢
        have hb : isB (tm.get d) b = false := by
          unfold isB
          split
          · rename_i c hc
            rw [hc] at hget
            cases hget
          · rfl
        rw [hb]; rfl
theorem und_in {n : Nat} {o : Oper} {a : Act} {next : Act → World → Prop} {Q : Exit → Act → World → Prop} (hF : WF F) (hnd : ∀ c, o.op ≠ .defer c) (h : Und F P (fun v w' => next (a.put o.dst v) w') ((execOp a.eval o).run P w)) : o.wpIn F n P a w next Q := by
  have hsem : o.semAt F.round a.eval = execOp a.eval o := by
    unfold Oper.semAt
    cases hr : F.round with
    | none => rfl
    | some l =>
      cases hop : o.op with
      | defer c => exact absurd hop (hnd c)
      | _ => rfl
  refine ⟨fun f _ => hF.fn f, ?_⟩
  rw [hsem]
  have hd : ∀ {p : Prop}, (F.depth.isSome = true → p) := fun hq => by rw [hF.depth] at hq; cases hq
  revert h
  cases (execOp a.eval o).run P w with
  | halt => exact fun h => h.elim
  | ok x w' =>
    cases x with
    | value v => exact fun h => h
    | skip => exact fun h => h
    | enter f args =>
      intro h
      refine ⟨hd, (h (n - 1)).mono ?_⟩
      rintro e w2 ⟨v, rfl, hv⟩
      exact hv
    | round l f tmps assign body =>
      intro h
      refine ⟨hd, (h (n - 1)).mono ?_⟩
      rintro e w2 ⟨v, rfl, hv⟩
      exact hv
    | _ => exact fun h => h.elim
theorem noDefer {o : Oper} {tm : Tm} {x : W} (ho : opW P K o.op o.type tm m = .ok x m1) : ∀ c, o.op ≠ .defer c := fun c hc => by
  rw [hc] at ho
  cases ho
theorem put_size (a : Act) (d : Option Tmp) (v : Value) : (a.put d v).tmps.size = a.tmps.size := by cases d <;> simp [Act.put]
theorem put_defers (a : Act) (d : Option Tmp) (v : Value) : (a.put d v).defers = a.defers := by cases d <;> rfl
theorem putR_ok {nt : Nat} {tm tm1 : Tm} {d : Option Tmp} {r : R1} (h : putR nt tm d r = .ok tm1 m1) : ∃ x, r = .ok x m1 ∧ ∀ (σ : Env) (n : Nat) (a : Act), TmOk σ n a.tmps tm → a.tmps.size = nt → x.lt n → TmOk σ n (a.put d (realW σ x)).tmps tm1 := by
  cases r with
  | no => cases h
  | ok x m2 =>
    cases d with
    | none => cases h; exact ⟨x, rfl, fun σ n a hT _ _ => hT⟩
    | some d =>
      have h' : (Bool.rec .no (.ok (tm.set d x) m2) (Nat.blt d nt) : R2) = .ok tm1 m1 := h
      cases hb : Nat.blt d nt with
      | false => rw [hb] at h'; cases h'
      | true =>
        rw [hb] at h'
        cases h'
        exact ⟨x, rfl, fun σ n a hT hs hx => hT.set hx (by rw [hs]; exact Nat.le_of_ble_eq_true hb)⟩
end
section
variable {P : Program} {K : Nat → Option (List Value)} {σ τ : Env} {m m1 : Mem} {w w1 : World} {F : Fence} {n : Nat} {Q : Exit → Act → World → Prop} {a : Act}
/-- from a loop's head on -/
def LoopAt (F : Fence) (n : Nat) (P : Program) (c : Code) (Q : Exit → Act → World → Prop) (a : Act) (w : World) : Prop :=
  ∀ (b : Frame) (k : List Item) (cs : List Frame), b.roundOf = F.round → F.fn b.fn → F.room (cs.length + 1 + n) →
    ∃ e a' w', Q e a' w' ∧ ArrivesIn (Machine.fenced P F) P (lone (b.atR a (.code c :: .inLoop c :: k)) cs w) b k cs e a' w'
theorem loopAt_step {c : Code} (h : c.wpIn F n P (Exit.then (LoopAt F n P c Q) Q) a w) : LoopAt F n P c Q a w := by
  intro b k cs hro hb hr
  obtain ⟨e, a₁, w₁, hq, harr⟩ := h b (.inLoop c :: k) cs hro hb hr
  cases e with
  | normal =>
    obtain ⟨e₂, a₂, w₂, hq₂, harr₂⟩ := hq b k cs hro hb hr
    exact ⟨e₂, a₂, w₂, hq₂, .of_steps (StepsIn.trans harr (.one (fenced_calm hb hr rfl) stepR_inLoop)) harr₂⟩
  | exit id => exact ⟨_, a₁, w₁, hq, .pass (x := .inLoop c) rfl (fun _ _ => .inl (by simp)) harr⟩
  | goto l => exact ⟨_, a₁, w₁, hq, .pass (x := .inLoop c) rfl (fun _ _ => .inl (by simp)) harr⟩
  | ret => exact ⟨_, a₁, w₁, hq, .pass (x := .inLoop c) rfl (fun _ _ => .inl (by simp)) harr⟩
  | panic ch => exact ⟨_, a₁, w₁, hq, .pass (x := .inLoop c) rfl (fun _ _ => .inl (by simp)) harr⟩
  | outgrown => exact ⟨_, a₁, w₁, hq, .pass (x := .inLoop c) rfl (fun _ _ => .inl (by simp)) harr⟩
theorem wpIn_loopAt {c : Code} (h : LoopAt F n P c Q a w) : (Code.loop c).wpIn F n P Q a w := by
  intro b k cs hro hb hr
  obtain ⟨e, a₁, w₁, hq, harr⟩ := h b k cs hro hb hr
  exact ⟨e, a₁, w₁, hq, .of_steps (.one (fenced_calm hb hr rfl) stepR_loop) harr⟩
theorem stepR_scope' {b : Frame} {k : List Item} {cs : List Frame} {c : Code} : step P (lone (b.atR a (.code (.scope c) :: k)) cs w) = .next (lone (b.atR a (.code c :: .inScope c :: k)) cs w) :=
  step_lone_go (by simp [stepG, stepG.exec, Frame.atR])
theorem stepR_inScope' {b : Frame} {k : List Item} {cs : List Frame} {c : Code} : step P (lone (b.atR a (.inScope c :: k)) cs w) = .next (lone (b.atR a k) cs w) :=
  step_lone_go (by simp [stepG, stepG.exec, Frame.atR])
/-- what a scope makes of how its body is left, without a jump within it -/
theorem scope_pass {b : Frame} {k : List Item} {cs : List Frame} {M : Machine} {c : Code} {e : Exit} {a' : Act} {w' : World} (hb : F.fn b.fn) (hr : F.room (cs.length + 1 + n)) (he : ∀ l, e = .goto l → findLabel c l = none)
    (h : ArrivesIn (Machine.fenced P F) P M b (.inScope c :: k) cs e a' w') : ArrivesIn (Machine.fenced P F) P M b k cs e a' w' := by
  cases e with
  | normal => exact StepsIn.trans h (.one (fenced_calm hb hr rfl) stepR_inScope')
  | exit id => exact ⟨fun k' hk => h.1 k' (by simpa [exitTo] using hk), fun hr' hk => h.2 hr' (by simpa [exitTo] using hk)⟩
  | goto l =>
    have hl := he l rfl
    have hg : gotoIn l (.inScope c :: k) = gotoIn l k := by simp [gotoIn, hl]
    exact ⟨fun k' hk => h.1 k' (by rw [hg]; exact hk), fun hr' hk => h.2 hr' (by rw [hg]; exact hk)⟩
  | ret => exact h
  | panic ch => exact h
  | outgrown => exact h
def ScopeQ (F : Fence) (n : Nat) (P : Program) (c : Code) (Q : Exit → Act → World → Prop) : Exit → Act → World → Prop
  | .goto l, a, w => match findLabel c l with
    | some rest => rest.wpIn F n P (Exit.noGoto Q) a w
    | none => Q (.goto l) a w
  | e, a, w => Q e a w
theorem wpIn_scopeQ {c : Code} (h : c.wpIn F n P (ScopeQ F n P c Q) a w) : (Code.scope c).wpIn F n P Q a w := by
  intro b k cs hro hb hr
  obtain ⟨e, a₁, w₁, hq, harr⟩ := h b (.inScope c :: k) cs hro hb hr
  have h0 : (lone (b.atR a (.code (.scope c) :: k)) cs w).fenced P F := fenced_calm hb hr rfl
  have plain : ∀ e, (∀ l, e = .goto l → findLabel c l = none) → Q e a₁ w₁ → ArrivesIn (Machine.fenced P F) P (lone (b.atR a (.code c :: .inScope c :: k)) cs w) b (.inScope c :: k) cs e a₁ w₁ →
      ∃ e a' w', Q e a' w' ∧ ArrivesIn (Machine.fenced P F) P (lone (b.atR a (.code (.scope c) :: k)) cs w) b k cs e a' w' := fun e he hq harr =>
    ⟨e, a₁, w₁, hq, .of_steps (.one h0 stepR_scope') (scope_pass hb hr he harr)⟩
  cases e with
  | goto l =>
    cases hl : findLabel c l with
    | none =>
      simp only [ScopeQ, hl] at hq
      exact plain _ (fun l' e => by cases e; exact hl) hq harr
    | some rest =>
      simp only [ScopeQ, hl] at hq
      have hg : gotoIn l (.inScope c :: k) = some (.code rest :: .inScope c :: k) := by simp [gotoIn, hl]
      obtain ⟨e₂, a₂, w₂, hq₂, harr₂⟩ := hq b (.inScope c :: k) cs hro hb hr
      have hs := harr.1 _ hg
      cases e₂ with
      | goto l' => exact hq₂.elim
      | normal => exact ⟨_, a₂, w₂, hq₂, .of_steps (.head h0 stepR_scope' hs) (scope_pass (c := c) hb hr (fun _ e => by cases e) harr₂)⟩
      | exit id => exact ⟨_, a₂, w₂, hq₂, .of_steps (.head h0 stepR_scope' hs) (scope_pass (c := c) hb hr (fun _ e => by cases e) harr₂)⟩
      | ret => exact ⟨_, a₂, w₂, hq₂, .of_steps (.head h0 stepR_scope' hs) (scope_pass (c := c) hb hr (fun _ e => by cases e) harr₂)⟩
      | panic ch => exact ⟨_, a₂, w₂, hq₂, .of_steps (.head h0 stepR_scope' hs) (scope_pass (c := c) hb hr (fun _ e => by cases e) harr₂)⟩
      | outgrown => exact ⟨_, a₂, w₂, hq₂, .of_steps (.head h0 stepR_scope' hs) (scope_pass (c := c) hb hr (fun _ e => by cases e) harr₂)⟩
  | normal => exact plain _ (fun _ e => by cases e) hq harr
  | exit id => exact plain _ (fun _ e => by cases e) hq harr
  | ret => exact plain _ (fun _ e => by cases e) hq harr
  | panic ch => exact plain _ (fun _ e => by cases e) hq harr
  | outgrown => exact plain _ (fun _ e => by cases e) hq harr
end
end Go.Vc
