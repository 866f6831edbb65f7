
import Derived.Test.YtneooimijbfmgaaGreatCrAG
set_option linter.unusedVariables false
set_option linter.unusedSimpArgs false
set_option linter.unusedSectionVars false
/- Equality that is seen at once. -/
namespace Go.Vc
/-- equal, as far as it is seen at once -/
noncomputable def eqV : Value → Value → Bool
  | .int k n, .int k' n' => k == k' && n == n'
  | .bool b, .bool b' => b == b'
  | .pointer none, .pointer none => true
  | .pointer (some ⟨g, o, none⟩), .pointer (some ⟨g', o', none⟩) => Nat.beq g g' && Nat.beq o o'
  | .slice none n c, .slice none n' c' => Nat.beq n n' && Nat.beq c c'
  | .nilFunc, .nilFunc => true
  | .nilIface, .nilIface => true
  | .func (.func f) a b, .func (.func f') a' b' => Nat.beq f f' && (a.isEmpty && b.isEmpty && a'.isEmpty && b'.isEmpty)
  | _, _ => false
noncomputable def eqO : Option Nat → Option Nat → Bool
  | none, none => true
  | some a, some b => Nat.beq a b
  | _, _ => false
noncomputable def eqC : C → C → Bool
  | .raw v, .raw v' => eqV v v'
  | .ptr r o, .ptr r' o' => Nat.beq r r' && Nat.beq o o'
  | .sl r o n z c, .sl r' o' n' z' c' => Nat.beq r r' && Nat.beq o o' && Nat.beq n n' && Nat.beq z z' && eqO c c'
  | .em r p o z, .em r' p' o' z' => Nat.beq r r' && Nat.beq p p' && Nat.beq o o' && Nat.beq z z'
  | .clo i, .clo i' => Nat.beq i i'
  | .ifc t i, .ifc t' i' => Nat.beq t t' && Nat.beq i i'
  | .mp r, .mp r' => Nat.beq r r'
  | .fz i, .fz i' => Nat.beq i i'
  | .fp i o, .fp i' o' => Nat.beq i i' && Nat.beq o o'
  | .sb i, .sb i' => Nat.beq i i'
  | .si k i, .si k' i' => k == k' && Nat.beq i i'
  | .ss i, .ss i' => Nat.beq i i'
  | _, _ => false
noncomputable def eqL {α : Type} (f : α → α → Bool) : List α → List α → Bool
  | [], [] => true
  | a :: l, b :: l' => f a b && eqL f l l'
  | _, _ => false
noncomputable def eqVV : V → V → Bool
  | .c x, .c y => eqC x y
  | .a l, .a l' => eqL eqC l l'
  | _, _ => false
noncomputable def eqWW : W → W → Bool
  | .v x, .v y => eqVV x y
  | .t l, .t l' => eqL eqVV l l'
  | _, _ => false
theorem nbeq {a b : Nat} (h : Nat.beq a b = true) : a = b := Nat.eq_of_beq_eq_true h
theorem eqV_ok {a b : Value} (h : eqV a b = true) : a = b := by
  unfold eqV at h
  split at h <;> first | (cases h; done) | skip
  · simp only [Bool.and_eq_true, beq_iff_eq] at h; rw [h.1, h.2]
  · simp only [beq_iff_eq] at h; rw [h]
  · rfl
  · simp only [Bool.and_eq_true] at h; rw [nbeq h.1, nbeq h.2]
  · simp only [Bool.and_eq_true] at h; rw [nbeq h.1, nbeq h.2]
  · rfl
  · rfl
  · simp only [Bool.and_eq_true, Array.isEmpty_iff] at h
    obtain ⟨h1, ⟨⟨h2, h3⟩, h4⟩, h5⟩ := h
    rw [nbeq h1, h2, h3, h4, h5]
theorem eqO_ok {a b : Option Nat} (h : eqO a b = true) : a = b := by
  unfold eqO at h
  split at h
  · rfl
  · rw [nbeq h]
  · cases h
theorem eqC_ok {a b : C} (h : eqC a b = true) : a = b := by
  unfold eqC at h
  split at h <;> first | (cases h; done) | skip
  · rw [eqV_ok h]
  · simp only [Bool.and_eq_true] at h; rw [nbeq h.1, nbeq h.2]
  · simp only [Bool.and_eq_true] at h; rw [nbeq h.1.1.1.1, nbeq h.1.1.1.2, nbeq h.1.1.2, nbeq h.1.2, eqO_ok h.2]
  · simp only [Bool.and_eq_true] at h; rw [nbeq h.1.1.1, nbeq h.1.1.2, nbeq h.1.2, nbeq h.2]
  · rw [nbeq h]
  · simp only [Bool.and_eq_true] at h; rw [nbeq h.1, nbeq h.2]
  · rw [nbeq h]
  · rw [nbeq h]
  · simp only [Bool.and_eq_true] at h; rw [nbeq h.1, nbeq h.2]
  · rw [nbeq h]
  · simp only [Bool.and_eq_true, beq_iff_eq] at h; rw [h.1, nbeq h.2]
  · rw [nbeq h]
theorem eqL_ok {α : Type} {f : α → α → Bool} (hf : ∀ a b, f a b = true → a = b) : ∀ (l l' : List α), eqL f l l' = true → l = l'
  | [], [], _ => rfl
  | a :: l, b :: l', h => by
    unfold eqL at h
    simp only [Bool.and_eq_true] at h
    rw [hf a b h.1, eqL_ok hf l l' h.2]
  | [], _ :: _, h => by cases h
  | _ :: _, [], h => by cases h
theorem eqVV_ok {a b : V} (h : eqVV a b = true) : a = b := by
  unfold eqVV at h
  split at h
  · rw [eqC_ok h]
  · rw [eqL_ok (fun _ _ h => eqC_ok h) _ _ h]
  · cases h
theorem eqWW_ok {a b : W} (h : eqWW a b = true) : a = b := by
  unfold eqWW at h
  split at h
  · rw [eqVV_ok h]
  · rw [eqL_ok (fun _ _ h => eqVV_ok h) _ _ h]
  · cases h
end Go.Vc

/- append, on own data. -/
namespace Go.Vc
/-- cells that read as rows of data -/
def Rows (F : Nat → Prop) (w : World) (z : Nat) (news : List Value) (l : List (List D)) : Prop :=
  ∀ (q : Nat) (cs : List D), l[q]? = some cs → cs.length = z ∧ ∀ (p : Nat) (d : D), cs[p]? = some d → ∃ v, news[q * z + p]? = some v ∧ RD F w d v
theorem place_lt {q p z n : Nat} (hq : q < n) (hp : p < z) : q * z + p < n * z := by
  have : (q + 1) * z ≤ n * z := Nat.mul_le_mul_right z hq
  rw [Nat.add_mul] at this
  omega
theorem els_append {F : Nat → Prop} {w w1 : World} {z k : Nat} {arr1 : Array Value} {old news : List Value} {l1 l2 : List (List D)} (hc : ∀ g j v, F g → w.cell? ⟨g, j, none⟩ = some v → w1.cell? ⟨g, j, none⟩ = some v) (hk : l1.length = k) (hol : old.length = k * z)
    (ho : Rows F w z old l1) (hn : Rows F w z news l2) (hg : ∀ j, j < (old ++ news).length → arr1[j]? = (old ++ news)[j]?) (hnl : news.length = l2.length * z) : Els F w1 z arr1 (l1 ++ l2) := fun q cs hq => by
  rcases Nat.lt_or_ge q k with h | h
  · rw [List.getElem?_append_left (by omega)] at hq
    obtain ⟨h1, h2⟩ := ho q cs hq
    refine ⟨h1, fun p d hp => ?_⟩
    obtain ⟨v, h3, h4⟩ := h2 p d hp
    have hlt : q * z + p < k * z := place_lt h (by have := (List.getElem?_eq_some_iff.1 hp).1; omega)
    refine ⟨v, ?_, h4.keep (fun _ h => h) hc⟩
    rw [hg _ (by rw [List.length_append]; omega), List.getElem?_append_left (by omega)]
    exact h3
  · rw [List.getElem?_append_right (by omega), hk] at hq
    obtain ⟨h1, h2⟩ := hn (q - k) cs hq
    refine ⟨h1, fun p d hp => ?_⟩
    obtain ⟨v, h3, h4⟩ := h2 p d hp
    have hq2 := (List.getElem?_eq_some_iff.1 hq).1
    have hlt : (q - k) * z + p < l2.length * z := place_lt hq2 (by have := (List.getElem?_eq_some_iff.1 hp).1; omega)
    have e : q * z + p = k * z + ((q - k) * z + p) := by
      have : q * z = k * z + (q - k) * z := by rw [← Nat.add_mul]; congr 1; omega
      omega
    refine ⟨v, ?_, h4.keep (fun _ h => h) hc⟩
    rw [e, hg _ (by rw [List.length_append]; omega), List.getElem?_append_right (by omega), hol, Nat.add_sub_cancel_left]
    exact h3
/-- APPENDED TO OWN DATA -/
theorem append_od [Holes] {P : Program} {F : Nat → Prop} {w : World} {t tx ty e z n g : Nat} {l1 l2 : List (List D)} {v x : Value} {news : List Value} (hu : P.underlying t = some (.slice e)) (hs : sizeOf? P e = some z) (hzero : zeroIs P e z = true) (h : OdV F w e z l1 g v)
    (hsrc : Src P z tx x n news w) (hn2 : l2.length = n) (hrows : Rows F w z news l2) (hF : ∀ g', F g' → g' < w.heap.size) (hFg : liveV v → ¬ F g) (hn : l1.length + n ≤ 1048576) (hb : 1048576 * bytes? P e ≤ 140737488355328) :
    ∃ v' w' g', (Builtin.append_ #[t, tx] ty #[v, x]).run P w = .ok v' w' ∧ Goes w w' ∧ (∀ q, q < w.heap.size → (liveV v → q ≠ g) → w'.heap[q]? = w.heap[q]?) ∧ ((g' = g ∧ liveV v) ∨ w.heap.size ≤ g' ∨ ¬ liveV v') ∧ OdV F w' e z (l1 ++ l2) g' v' := by
  obtain ⟨hz, a, c, rfl, hv⟩ := h
  obtain ⟨i, zv, hi, hiz, hvs⟩ := zeroIs_ok hzero
  have hisz := size_of_info hs hi
  have hnl : news.length = n * z := hsrc.newsLen
  have hb' : (l1.length + n) * bytes? P e ≤ 140737488355328 := Nat.le_trans (Nat.mul_le_mul_right _ hn) hb
  -- the old cells
  obtain ⟨old, o1, o2, o3⟩ : ∃ old : List Value, old.length = l1.length * z ∧ Rows F w z old l1 ∧ (Builtin.firstCells z l1.length (.slice a l1.length c)).run P w.drew = .ok old.toArray w.drew := by
    rcases hv with ⟨rfl, rfl⟩ | ⟨rfl, hc0, arr, h1, h2, h3, h4⟩
    · refine ⟨[], by simp, fun q cs hq => by simp at hq, ?_⟩
      cases a with
      | none => exact run_firstCells_none _ _ _ _ _
      | some a => exact run_firstCells_some _ _ _ _ _ _ [] (by simp) (fun j v hv => by simp at hv)
    · have hle : l1.length * z ≤ arr.size := Nat.le_trans (Nat.mul_le_mul_right z h3) h2
      refine ⟨arr.toList.take (l1.length * z), by simp; omega, fun q cs hq => ?_, ?_⟩
      · obtain ⟨h5, h6⟩ := h4 q cs hq
        refine ⟨h5, fun p d hp => ?_⟩
        obtain ⟨u, h7, h8⟩ := h6 p d hp
        have hlt : q * z + p < l1.length * z := place_lt (List.getElem?_eq_some_iff.1 hq).1 (by have := (List.getElem?_eq_some_iff.1 hp).1; omega)
        refine ⟨u, ?_, h8⟩
        rw [List.getElem?_take, if_pos hlt, Array.getElem?_toList]
        exact h7
      · refine run_firstCells_some _ _ _ _ _ _ _ (by simp; omega) fun j v hv => ?_
        rw [List.getElem?_take] at hv
        split at hv
        · rw [Array.getElem?_toList] at hv
          rw [addr_add, Nat.zero_add]
          have : w.drew.heap[g]? = some (.cells arr e (0, 0)) := h1
          simp [World.cell?, this, hv]
        · cases hv
  by_cases hroom : l1.length + n ≤ c
  · rcases hv with ⟨rfl, rfl⟩ | ⟨rfl, hc0, arr, h1, h2, h3, h4⟩
    · have hn0 : n = 0 := by simp at hroom; exact hroom
      subst hn0
      have hl2 : l2 = [] := List.eq_nil_of_length_eq_zero hn2
      subst hl2
      have hnews : news = [] := List.eq_nil_of_length_eq_zero (by simpa using hnl)
      subst hnews
      refine ⟨_, w, g, run_append_nothing w t tx ty e i hu hi a 0 0 (Nat.le_refl _) x (by rw [hisz]; exact hsrc), ⟨rfl, rfl, rfl, Nat.le_refl _⟩, fun _ _ _ => rfl, .inr (.inr fun ⟨_, _, _, he, hlt⟩ => by cases he; omega), hz, a, 0, rfl, .inl ⟨rfl, rfl⟩⟩
    · have hlv : liveV (.slice (some ⟨g, 0, none⟩) l1.length c) := ⟨_, _, _, rfl, hc0⟩
      have hsz : l1.length * z + news.length ≤ arr.size := by
        rw [hnl, ← Nat.add_mul]; exact Nat.le_trans (Nat.mul_le_mul_right z hroom) h2
      have hst := run_storeCells_at P g (0 + l1.length * z) e news 0 arr w h1 (by omega) hsrc.one
      simp only [Nat.zero_add, Nat.add_zero] at hst
      refine ⟨_, _, g, run_room (ty := ty) hu hs hsrc hroom (by rw [addr_add, Nat.zero_add]; exact hst), goes_setRow _ _ _, fun q hq hne => setRow_other w g q _ (hne hlv), .inl ⟨rfl, hlv⟩, hz, _, c, by rw [List.length_append, hn2], .inr ⟨rfl, hc0, _, setRow_heap w g arr _ e (0, 0) h1, ?_, by rw [List.length_append]; omega, ?_⟩⟩
      · simp only [List.size_toArray, List.length_append, List.length_take, List.length_drop, Array.length_toList]
        omega
      · have hol : (arr.toList.take (l1.length * z)).length = l1.length * z := by simp; omega
        refine els_append (w := w) (k := l1.length) (old := arr.toList.take (l1.length * z)) (news := news) (fun g' j u hF' hu' => ?_) rfl hol (fun q cs hq => ?_) hrows (fun j hj => ?_) (by rw [hnl, hn2])
        · have hne : g' ≠ g := fun he => hFg hlv (he ▸ hF')
          rw [cell_heap (setRow_other w g g' _ hne)]; exact hu'
        · obtain ⟨h5, h6⟩ := h4 q cs hq
          refine ⟨h5, fun p d hp => ?_⟩
          obtain ⟨u, h7, h8⟩ := h6 p d hp
          have hlt : q * z + p < l1.length * z := place_lt (List.getElem?_eq_some_iff.1 hq).1 (by have := (List.getElem?_eq_some_iff.1 hp).1; omega)
          exact ⟨u, by rw [List.getElem?_take, if_pos hlt, Array.getElem?_toList]; exact h7, h8⟩
        · rw [List.getElem?_toArray, List.getElem?_append_left hj]
  · have hid : ∀ l : List Value, (l.map C.raw).map (realC env0) = l := fun l => by
      rw [List.map_map]; exact List.map_id l
    have hgr := grow_ok (σ := env0) (ty := ty) (tx := tx) (x := .v (.c (.raw x))) (new := news.map .raw) (old := old.map .raw) (base := a) (q := c) hu hs hz hzero (by rw [hid]; exact hsrc) (by rw [List.length_map]; exact o1) (by rw [hid]; exact o3) (by omega) hn hb'
    obtain ⟨cap, w', r1, r2, r3, arr', r4, r5, r6, r7⟩ := hgr
    have hcap : 0 < cap := by omega
    refine ⟨_, w', w.heap.size, r1, r3, fun q hq _ => ?_, .inr (.inl (Nat.le_refl _)), hz, _, cap, by rw [List.length_append, hn2], .inr ⟨rfl, hcap, arr', ?_, Nat.le_of_eq r5.symm, by rw [List.length_append]; omega, ?_⟩⟩
    · rw [r4, Array.getElem?_push, if_neg (by omega)]
    · rw [r4, Array.getElem?_push, if_pos rfl]
    · refine els_append (w := w) (k := l1.length) (old := old) (news := news) (fun g' j u hF' hu' => ?_) rfl o1 o2 hrows (fun j hj => ?_) (by rw [hnl, hn2])
      · have hg' := hF g' hF'
        have hh : w'.heap[g']? = w.heap[g']? := by rw [r4, Array.getElem?_push, if_neg (by omega)]
        rw [cell_heap hh]; exact hu'
      · rw [r7 j (by simpa using hj), List.map_append, hid, hid]
end Go.Vc

/- append: the rule. -/
namespace Go.Vc
section
variable [Holes]
section
variable {K : Nat → Option (List Value)} {b : Bs} {F F0 : Nat → Prop} {B0 : Nat} {σ τ : Env} {m : Mem} {Y : T YRow} {w w1 : World} {ρ ρ' : Rho} {i : Nat}
/-- a row of own data is told no more -/
theorem YRel.kill (h : YRel F F0 B0 σ m Y w) (hi : Lt i m.nx) : YRel F F0 B0 σ m (Y.set i .dead) w := h.add hi rfl trivial
theorem Aw.kill (h : Aw K b m Y ρ σ w) (hi : Lt i m.nx) : Aw K b m (Y.set i .dead) ρ σ w := by
  obtain ⟨F, hF⟩ := h.y
  refine ⟨h.rel, h.nx, h.agree, h.nx1, h.agree1, h.base, h.goes, h.frame, h.own, ⟨F, hF.kill hi⟩, fun q y hq => ?_, h.dfr, h.keep, h.klow⟩
  rw [T.get_set] at hq
  split at hq
  · cases hq; trivial
  · exact h.ag q y hq
/-- the world turns where nothing is told -/
theorem Aw.turn {g : Nat} {P : Prop} (h : Aw K b m Y ρ σ w) (hF : YRel F b.F0 b.wB.heap.size σ m Y w) (hg : Goes w w1) (hk : ∀ q, q < w.heap.size → (P → q ≠ g) → w1.heap[q]? = w.heap[q]?)
    (hfree : P → ¬ F g ∧ b.wB.heap.size ≤ g ∧ (∀ q r, m.S.get q = some r → r.blk = true → σ.b q ≠ g) ∧ (∀ i e z o j, Y.get i = some (.od e z o j) → live σ i → σ.b i ≠ g) ∧ ∀ q, w.heap[g]? ≠ some (.deferred q)) :
    Aw K b m Y ρ σ w1 ∧ YRel F b.F0 b.wB.heap.size σ m Y w1 := by
  have hrow : ∀ i r, m.S.get i = some r → r.blk = true → w1.heap[σ.b i]? = w.heap[σ.b i]? := fun i r hi hb => hk _ ((h.rel.row i r hi).blk_lt hb) fun hp => (hfree hp).2.2.1 i r hi hb
  have hFk : ∀ g' j v, F g' → w.cell? ⟨g', j, none⟩ = some v → w1.cell? ⟨g', j, none⟩ = some v := fun g' j v hg' hv => by
    rw [cell_heap (hk g' (hF.dom g' hg').1 fun hp he => (hfree hp).1 (he ▸ hg'))]; exact hv
  have hy : YRel F b.F0 b.wB.heap.size σ m Y w1 := ⟨fun g' hg' => ⟨Nat.lt_of_lt_of_le (hF.dom g' hg').1 hg.size, (hF.dom g' hg').2⟩, fun i y hi => ⟨(hF.row i y hi).1, (hF.row i y hi).2.keep (hF.row i y hi).1 (Agree.refl _ _) (Nat.le_refl _) hFk fun ho hl => by
      cases y <;> first | (cases ho; done) | skip
      exact hk _ (hF.od i _ _ _ _ hi hl).1 fun hp => (hfree hp).2.2.2.1 i _ _ _ _ hi hl⟩, fun i e z o j hi hl => ⟨Nat.lt_of_lt_of_le (hF.od i e z o j hi hl).1 hg.size, (hF.od i e z o j hi hl).2⟩, hF.odi⟩
  refine ⟨⟨⟨fun i s hs => (h.rel.row i s hs).keep (Agree.refl _ _) (h.rel.lt i s hs) (Nat.le_refl _) (hrow i s hs), h.rel.lt, h.rel.inj, known_kept h.rel fun q l hq => hk q (h.rel.low q l hq) fun hp he => by have := (hfree hp).2.1; have := h.klow q l hq; omega, h.rel.apart, fun q l hq => Nat.lt_of_lt_of_le (h.rel.low q l hq) hg.size, h.rel.fresh⟩,
    h.nx, h.agree, h.nx1, h.agree1, h.base, h.goes.trans hg, fun q hq => ?_, h.own, ⟨F, hy⟩, h.ag, fun q d hq => ?_, h.keep, h.klow⟩, hy⟩
  · rw [hk q (Nat.lt_of_lt_of_le hq h.size) fun hp he => by have := (hfree hp).2.1; omega]
    exact h.frame q hq
  · have h1 := h.dfr q d hq
    rw [hk q (heap_lt h1) fun hp he => (hfree hp).2.2.2.2 d (he ▸ h1)]
    exact h1
/-- one more number, for data -/
theorem Aw.num (h : Aw K b m Y ρ σ w) (hF : YRel F b.F0 b.wB.heap.size σ m Y w) (hτ : Agree m.nx σ τ) (hr : RhoEq m.nx ρ ρ') : Aw K b (m.up (m.nx + 1)) Y ρ' τ w ∧ YRel F b.F0 b.wB.heap.size τ (m.up (m.nx + 1)) Y w := by
  have k := step_nx h.rel hτ
  have h1 := h.step k
  have h2 := hF.step k
  exact ⟨⟨h1.rel, h1.nx, h1.agree, h1.nx1, h1.agree1, h1.base, h1.goes, h1.frame, h1.own, ⟨F, h2⟩, fun i x hi => ((h.ag i x hi).rho hr (hF.row i x hi).1.lt (hF.row i x hi).2).agree (hF.row i x hi).1 hτ (hF.row i x hi).2, h1.dfr, h1.keep, h1.klow⟩, h2⟩
/-- one more row of own data -/
theorem Aw.symO (h : Aw K b m Y ρ σ w) (hF : YRel F b.F0 b.wB.heap.size σ m Y w) {e z j : Nat} {own : Bool} {v : Value} {g : Nat} (hj : Lt j m.nx) (hag : σ.r.d j = ρ.d j) (hv : OdV (Fo F b.wB.heap.size own) w e z (σ.r.d j) g v)
    (hl : liveV v → g < w.heap.size ∧ b.wB.heap.size ≤ g ∧ ¬ F g ∧ (∀ q r, m.S.get q = some r → r.blk = true → σ.b q ≠ g) ∧ ∀ i e z o j, Y.get i = some (.od e z o j) → live σ i → σ.b i ≠ g) :
    ∃ τ, Agree m.nx σ τ ∧ Aw K b (m.up (m.nx + 1)) (Y.set m.nx (.od e z own j)) ρ τ w ∧ YRel F b.F0 b.wB.heap.size τ (m.up (m.nx + 1)) (Y.set m.nx (.od e z own j)) w ∧ realC τ (.fz m.nx) = v ∧ Lt m.nx (m.nx + 1) ∧ τ.b m.nx = g := by
  have ha := Env.agree_set σ m.nx g 0 0 v
  obtain ⟨h1, h2⟩ := h.num hF ha (RhoEq.refl _ ρ)
  have hlt : Lt m.nx (m.up (m.nx + 1)).nx := h.rel.ltnx
  have hlive : live (σ.set m.nx g 0 0 v) m.nx ↔ liveV v := by unfold live liveV; rw [Env.set_v]
  have hdj : (σ.set m.nx g 0 0 v).r.d j = σ.r.d j := rfl
  have hold : ∀ i y, (Y.set m.nx (.od e z own j)).get i = some y → i ≠ m.nx → Y.get i = some y := fun i y hi hne => by
    rw [T.get_set, if_neg hne] at hi; exact hi
  have hy : YRel F b.F0 b.wB.heap.size (σ.set m.nx g 0 0 v) (m.up (m.nx + 1)) (Y.set m.nx (.od e z own j)) w := by
    refine ⟨h2.dom, fun i y hi => ?_, fun i e' z' o' j' hi hl' => ?_, fun i e1 z1 o1 j1 i' e2 z2 o2 j2 hi hi' hl1 hl2 he => ?_⟩
    · by_cases hne : i = m.nx
      · subst hne
        rw [T.get_set, if_pos rfl] at hi
        cases hi
        refine ⟨hlt, hj.mono (Nat.le_succ _), hv.1, ?_⟩
        obtain ⟨_, a, c, h3, h4⟩ := hv
        exact ⟨a, c, by rw [Env.set_v]; exact h3, by rw [Env.set_b]; exact h4⟩
      · exact h2.row i y (hold i y hi hne)
    · by_cases hne : i = m.nx
      · subst hne
        rw [Env.set_b]
        obtain ⟨h3, h4, h5, h6, _⟩ := hl (hlive.1 hl')
        exact ⟨h3, h4, h5, fun q r hq hb => by rw [ha.b q (h.rel.lt q r hq)]; exact h6 q r hq hb⟩
      · exact h2.od i e' z' o' j' (hold i _ hi hne) hl'
    · have key : ∀ i e1 z1 o1 j1, i ≠ m.nx → (Y.set m.nx (.od e z own j)).get i = some (.od e1 z1 o1 j1) → live (σ.set m.nx g 0 0 v) i → live (σ.set m.nx g 0 0 v) m.nx → (σ.set m.nx g 0 0 v).b i ≠ (σ.set m.nx g 0 0 v).b m.nx := fun i e1 z1 o1 j1 hne hi hl1 hl2 he => by
        have hi0 := hold i _ hi hne
        have hli := (hF.row i _ hi0).1
        rw [Env.set_b, ha.b i hli] at he
        exact (hl (hlive.1 hl2)).2.2.2.2 i _ _ _ _ hi0 ((live_agree ha hli).1 hl1) he
      by_cases hn1 : i = m.nx
      · by_cases hn2 : i' = m.nx
        · rw [hn1, hn2]
        · subst hn1; exact absurd he.symm (key i' _ _ _ _ hn2 hi' hl2 hl1)
      · by_cases hn2 : i' = m.nx
        · subst hn2; exact absurd he (key i _ _ _ _ hn1 hi hl1 hl2)
        · exact h2.odi i e1 z1 o1 j1 i' e2 z2 o2 j2 (hold i _ hi hn1) (hold i' _ hi' hn2) hl1 hl2 he
  refine ⟨_, ha, ⟨h1.rel, h1.nx, h1.agree, h1.nx1, h1.agree1, h1.base, h1.goes, h1.frame, h1.own, ⟨F, hy⟩, fun i y hi => ?_, h1.dfr, h1.keep, h1.klow⟩, hy, ?_, hlt, Env.set_b _ _ _ _ _ _⟩
  · by_cases hne : i = m.nx
    · subst hne
      rw [T.get_set, if_pos rfl] at hi
      cases hi
      exact hag
    · exact h1.ag i y (hold i y hi hne)
  · obtain ⟨_, a, c, h3, _⟩ := hv
    simp only [realC, Env.set_v, h3]
end
end
/-- where is appended to -/
noncomputable def dstA (Y : T YRow) (e z : Nat) : W → Option (Bool × Option (Nat × Nat))
  | .v (.c (.raw (.slice none 0 0))) => some (true, none)
  | .v (.c (.sl _ _ 0 _ (some 0))) => some (true, none)
  | .v (.c (.fz i)) => match Y.get i with
    | some (.fz _ 2 _) => some (true, none)
    | some (.od e' z' own j) => bif Nat.beq e e' && Nat.beq z z' then some (own, some (i, j)) else none
    | _ => none
  | _ => none
/-- what is appended -/
inductive SrcI where
  | rows (n : Nat) (cs : List C)
  | sym (own : Bool) (j : Nat)
noncomputable def symS (Y : T YRow) : W → Option (Bool × Nat)
  | .v (.c (.fz i)) => match Y.get i with
    | some (.fz own _ j) => some (own, j)
    | some (.od _ _ own j) => some (own, j)
    | _ => none
  | _ => none
noncomputable def isSl (P : Program) (t : TypeId) : Bool := match P.underlying t with
  | some (.slice _) => true
  | _ => false
noncomputable def srcA (P : Program) (m : Mem) (Y : T YRow) (z : Nat) (t : TypeId) (x : W) : Option SrcI := match symS Y x with
  | some (own, j) => bif isSl P t then some (.sym own j) else none
  | none => match srcW P m z t x with
    | some (n, cs) => some (.rows n cs)
    | none => none
noncomputable def chunk (z : Nat) : Nat → List C → List (List C)
  | 0, _ => []
  | n + 1, cs => cs.take z :: chunk z n (cs.drop z)
noncomputable def outRows (Y : T YRow) (ρ : Rho) (own : Bool) (ks : List Kd) : List (List C) → Option (List (List D))
  | [] => some []
  | cs :: l => match outCs Y ρ own ks cs, outRows Y ρ own ks l with
    | some ds, some dss => some (ds :: dss)
    | _, _ => none
/-- no slices among them -/
noncomputable def flatK (ks : List Kd) : Bool := ks.all fun k => match k with
  | .int _ | .bool | .str => true
  | _ => false
/-- what is appended, as data; whether it is own; what is to be shown -/
noncomputable def srcD (Y : T YRow) (ρ : Rho) (ks : List Kd) (z : Nat) : SrcI → Option (List (List D) × Bool × Prop)
  | .sym own j => match !own && flatK ks with
    | true => some (ρ.d j, true, Shp ks (ρ.d j))
    | false => some (ρ.d j, own, Rect z (ρ.d j))
  | .rows n cs => match outRows Y ρ true ks (chunk z n cs) with
    | some l => some (l, true, True)
    | none => match outRows Y ρ false ks (chunk z n cs) with
      | some l => some (l, false, True)
      | none => none
noncomputable def dat1 (ρ : Rho) : Option (Nat × Nat) → List (List D)
  | some (_, j) => ρ.d j
  | none => []
noncomputable def killY (Y : T YRow) : Option (Nat × Nat) → T YRow
  | some (i, _) => Y.set i .dead
  | none => Y
end Go.Vc

/- append: what is appended. -/
namespace Go.Vc
section
variable [Holes]
section
variable {P : Program} {K : Nat → Option (List Value)} {b : Bs} {F F0 : Nat → Prop} {B0 : Nat} {σ τ : Env} {m : Mem} {Y : T YRow} {w w1 : World} {ρ ρ' : Rho} {i : Nat}
theorem RD.one {d : D} {v : Value} (h : RD F w d v) : v.oneCell' = true := by cases h <;> first | assumption | rfl
theorem src_nil {z tx e : Nat} (hk : P.underlying tx = some (.slice e)) (a : Option Addr) (c : Nat) : Src P z tx (.slice a 0 c) 0 [] w := by
  cases a with
  | none => exact Src.ofNil w hk c
  | some a => exact Src.ofSlice w hk a 0 c [] (by simp) (fun j u hj => by simp at hj) (fun u hu => by cases hu)
theorem isSl_ok {t : Nat} (h : isSl P t = true) : ∃ e, P.underlying t = some (.slice e) := by
  unfold isSl at h
  split at h
  · rename_i e he; exact ⟨e, he⟩
  · cases h
theorem symS_ok {z t j : Nat} {own : Bool} {x : W} (h : symS Y x = some (own, j)) (ht : isSl P t = true) (hz : 0 < z) (hA : SymAg ρ σ Y) (hF : YRel F F0 B0 σ m Y w) (hr : Rect z (ρ.d j)) :
    ∃ news, Src P z t (realW σ x) (ρ.d j).length news w ∧ Rows (Fo F B0 own) w z news (ρ.d j) := by
  obtain ⟨e, he⟩ := isSl_ok ht
  unfold symS at h
  split at h
  · rename_i i
    split at h
    · rename_i own' c j' hi
      cases h
      obtain ⟨_, hrd, _⟩ := (hF.row i _ hi).2
      have hag : σ.r.d j = ρ.d j := hA i _ hi
      rw [hag] at hrd
      have hre : realW σ (.v (.c (.fz i))) = σ.v i := by
        obtain ⟨a, c, hv⟩ := hrd.slice
        show realC σ (.fz i) = _
        simp only [realC, hv]
      rw [hre]
      generalize hv : σ.v i = v at hrd
      generalize hl : ρ.d j = l at hrd hr
      cases hrd with
      | nil a c => exact ⟨[], src_nil he a c, fun q cs hq => by simp at hq⟩
      | fs l gb o c' z' vs h0' hz' hc hFb hll ha hd =>
        obtain ⟨cs0, hcs0⟩ : ∃ cs0, l[0]? = some cs0 := ⟨_, List.getElem?_eq_getElem (by cases l with | nil => exact absurd rfl h0' | cons => simp)⟩
        have hzz : z' = z := (hll 0 cs0 hcs0).symm.trans (hr cs0 (List.mem_of_getElem? hcs0))
        subst hzz
        have hget : ∀ q, q < l.length * z' → ((List.range (l.length * z')).map fun q => vs (q / z') (q % z'))[q]? = some (vs (q / z') (q % z')) := fun q hq => by
          rw [List.getElem?_map, List.getElem?_range hq]; rfl
        have hin : ∀ q, q < l.length * z' → ∃ cs d, l[q / z']? = some cs ∧ cs[q % z']? = some d := fun q hq => by
          have h1 : q / z' < l.length := Nat.div_lt_of_lt_mul (by rw [Nat.mul_comm]; exact hq)
          have h2 : q % z' < (l[q / z']).length := by rw [hll _ _ (List.getElem?_eq_getElem h1)]; exact Nat.mod_lt _ hz'
          exact ⟨_, _, List.getElem?_eq_getElem h1, List.getElem?_eq_getElem h2⟩
        refine ⟨(List.range (l.length * z')).map fun q => vs (q / z') (q % z'), Src.ofSlice w he _ _ _ _ (by simp) (fun q u hq => ?_) (fun u hu => ?_), fun q cs hq => ⟨hll q cs hq, fun p d hp => ?_⟩⟩
        · have hlt : q < l.length * z' := by have := (List.getElem?_eq_some_iff.1 hq).1; simpa using this
          rw [hget q hlt] at hq
          cases hq
          obtain ⟨cs, d, h1, h2⟩ := hin q hlt
          have := ha _ _ cs d h1 h2
          rw [addr_add, ← this]
          congr 2
          have := Nat.div_add_mod q z'
          rw [Nat.mul_comm] at this
          omega
        · obtain ⟨q, hq⟩ := List.mem_iff_getElem?.1 hu
          have hlt : q < l.length * z' := by have := (List.getElem?_eq_some_iff.1 hq).1; simpa using this
          rw [hget q hlt] at hq
          cases hq
          obtain ⟨cs, d, h1, h2⟩ := hin q hlt
          exact (hd _ _ cs d h1 h2).one
        · have hp1 : p < z' := by have := (List.getElem?_eq_some_iff.1 hp).1; rw [hll q cs hq] at this; exact this
          have hlt : q * z' + p < l.length * z' := place_lt (List.getElem?_eq_some_iff.1 hq).1 hp1
          refine ⟨_, hget _ hlt, ?_⟩
          rw [show (q * z' + p) / z' = q by rw [Nat.add_comm, Nat.add_mul_div_right _ _ hz', Nat.div_eq_of_lt hp1, Nat.zero_add], show (q * z' + p) % z' = p by rw [Nat.add_comm, Nat.add_mul_mod_self_right, Nat.mod_eq_of_lt hp1]]
          exact hd q p cs d hq hp
    · rename_i e1 z1 own' j' hi
      cases h
      obtain ⟨_, hz1, a, c, hv, hc⟩ := (hF.row i _ hi).2
      have hag : σ.r.d j = ρ.d j := hA i _ hi
      rw [hag] at hv hc
      have hre : realW σ (.v (.c (.fz i))) = .slice a (ρ.d j).length c := by
        show realC σ (.fz i) = _
        simp only [realC, hv]
      rw [hre]
      rcases hc with ⟨_, hl⟩ | ⟨rfl, hc0, arr, h1, h2, h3, h4⟩
      · rw [hl]; exact ⟨[], src_nil he a c, fun q cs hq => by simp at hq⟩
      · by_cases hl0 : ρ.d j = []
        · rw [hl0]; exact ⟨[], src_nil he _ c, fun q cs hq => by simp at hq⟩
        · obtain ⟨cs0, hcs0⟩ : ∃ cs0, (ρ.d j)[0]? = some cs0 := ⟨_, List.getElem?_eq_getElem (List.length_pos_iff.2 hl0)⟩
          have hzz : z1 = z := (h4 0 cs0 hcs0).1.symm.trans (hr cs0 (List.mem_of_getElem? hcs0))
          subst hzz
          have hle : (ρ.d j).length * z1 ≤ arr.size := Nat.le_trans (Nat.mul_le_mul_right z1 h3) h2
          have hget : ∀ q, q < (ρ.d j).length * z1 → (arr.toList.take ((ρ.d j).length * z1))[q]? = arr[q]? := fun q hq => by
            rw [List.getElem?_take, if_pos hq, Array.getElem?_toList]
          refine ⟨arr.toList.take ((ρ.d j).length * z1), Src.ofSlice w he _ _ _ _ (by simp; omega) (fun q u hq => ?_) (fun u hu => ?_), fun q cs hq => ⟨(h4 q cs hq).1, fun p d hp => ?_⟩⟩
          · have hlt : q < (ρ.d j).length * z1 := by have := (List.getElem?_eq_some_iff.1 hq).1; simp at this; omega
            rw [hget q hlt] at hq
            rw [addr_add, Nat.zero_add]
            simp [World.cell?, h1, hq]
          · obtain ⟨q, hq⟩ := List.mem_iff_getElem?.1 hu
            have hlt : q < (ρ.d j).length * z1 := by have := (List.getElem?_eq_some_iff.1 hq).1; simp at this; omega
            rw [hget q hlt] at hq
            have e1 : q / z1 < (ρ.d j).length := Nat.div_lt_of_lt_mul (by rw [Nat.mul_comm]; exact hlt)
            obtain ⟨h5, h6⟩ := h4 _ _ (List.getElem?_eq_getElem e1)
            obtain ⟨u', h7, h8⟩ := h6 (q % z1) _ (List.getElem?_eq_getElem (by rw [h5]; exact Nat.mod_lt _ hz1))
            have : q / z1 * z1 + q % z1 = q := by have := Nat.div_add_mod q z1; rw [Nat.mul_comm] at this; omega
            rw [this, hq] at h7
            cases h7
            exact h8.one
          · obtain ⟨h5, h6⟩ := h4 q cs hq
            obtain ⟨u, h7, h8⟩ := h6 p d hp
            have hlt : q * z1 + p < (ρ.d j).length * z1 := place_lt (List.getElem?_eq_some_iff.1 hq).1 (by have := (List.getElem?_eq_some_iff.1 hp).1; omega)
            exact ⟨u, by rw [hget _ hlt]; exact h7, h8⟩
    · cases h
  · cases h
theorem outRows_ok {own : Bool} {ks : List Kd} {z : Nat} (hks : ks.length = z) (hA : SymAg ρ σ Y) (hF : YRel F F0 B0 σ m Y w) : ∀ (n : Nat) (cs : List C) (l : List (List D)), outRows Y ρ own ks (chunk z n cs) = some l → cs.length = n * z → l.length = n ∧ Rows (Fo F B0 own) w z (cs.map (realC σ)) l
  | 0, cs, l, h, hl => by cases h; exact ⟨rfl, fun q c hq => by simp at hq⟩
  | n + 1, cs, l, h, hl => by
    have h' : (match outCs Y ρ own ks (cs.take z), outRows Y ρ own ks (chunk z n (cs.drop z)) with | some ds, some dss => some (ds :: dss) | _, _ => none) = some l := h
    split at h'
    · rename_i ds dss hd hdd
      cases h'
      have hz : z ≤ cs.length := by rw [hl, Nat.add_mul]; omega
      obtain ⟨h1, h2⟩ := outCs_ok hA hF _ _ _ hd
      obtain ⟨h3, h4⟩ := outRows_ok hks hA hF n (cs.drop z) dss hdd (by rw [List.length_drop, hl, Nat.add_mul]; omega)
      refine ⟨by simp [h3], fun q c hq => ?_⟩
      cases q with
      | zero =>
        simp at hq
        subst hq
        refine ⟨by rw [dks_len h1, hks], fun p d hp => ?_⟩
        have hpz : p < z := by have := (List.getElem?_eq_some_iff.1 hp).1; rw [dks_len h1, hks] at this; exact this
        have hlt : p < cs.length := by omega
        refine ⟨realC σ cs[p], by rw [Nat.zero_mul, Nat.zero_add, List.getElem?_map, List.getElem?_eq_getElem hlt]; rfl, h2.2 p d _ hp ?_⟩
        rw [List.getElem?_map, List.getElem?_take, if_pos hpz, List.getElem?_eq_getElem hlt]; rfl
      | succ q =>
        obtain ⟨h5, h6⟩ := h4 q c (by simpa using hq)
        refine ⟨h5, fun p d hp => ?_⟩
        obtain ⟨v, h7, h8⟩ := h6 p d hp
        refine ⟨v, ?_, h8⟩
        rw [← h7, List.getElem?_map, List.getElem?_map, List.getElem?_drop]
        congr 2
        rw [Nat.add_mul]; omega
    · cases h'
theorem srcD_ok {z t : Nat} {x : W} {s : SrcI} {ks : List Kd} {l : List (List D)} {own : Bool} {p : Prop} (hs : srcA P m Y z t x = some s) (hd : srcD Y ρ ks z s = some (l, own, p)) (hp : p) (hz : 0 < z) (hks : ks.length = z) (hR : Rel K σ m w) (hA : SymAg ρ σ Y) (hF : YRel F F0 B0 σ m Y w) :
    ∃ news, Src P z t (realW σ x) l.length news w ∧ Rows (Fo F B0 own) w z news l := by
  unfold srcA at hs
  split at hs
  · rename_i own' j hj
    cases ht : isSl P t with
    | false => rw [ht] at hs; cases hs
    | true =>
      rw [ht] at hs
      cases hs
      have hd : (match !own' && flatK ks with
        | true => some (ρ.d j, true, Shp ks (ρ.d j))
        | false => some (ρ.d j, own', Rect z (ρ.d j))) = some (l, own, p) := hd
      split at hd
      · rename_i hfl
        cases hd
        rw [Bool.and_eq_true] at hfl
        have hp : Shp ks (ρ.d j) := hp
        obtain ⟨news, h1, h2⟩ := symS_ok hj ht hz hA hF (fun cs hc => by rw [← hks]; exact dks_len (hp cs hc))
        refine ⟨news, h1, fun q cs hq => ?_⟩
        obtain ⟨h3, h4⟩ := h2 q cs hq
        refine ⟨h3, fun i d hi => ?_⟩
        obtain ⟨v, h5, h6⟩ := h4 i d hi
        refine ⟨v, h5, ?_⟩
        have key : ∀ (ks : List Kd) (cs : List D), flatK ks = true → DKs ks cs → ∀ d ∈ cs, ∃ u, d = .raw u := fun ks => by
          induction ks with
          | nil => intro cs _ h d hd; cases h; cases hd
          | cons k ks ih =>
            intro cs hf h d hd
            cases h with
            | cons h1 h2 =>
            unfold flatK at hf
            rw [List.all_cons, Bool.and_eq_true] at hf
            rcases List.mem_cons.1 hd with rfl | hd
            · cases h1 <;> first | exact ⟨_, rfl⟩ | (cases hf.1)
            · exact ih _ hf.2 h2 d hd
        obtain ⟨u, rfl⟩ := key ks cs hfl.2 (hp cs (List.mem_of_getElem? hq)) d (List.mem_of_getElem? hi)
        cases h6 with
        | raw _ h => exact .raw _ h
      · cases hd
        exact symS_ok hj ht hz hA hF hp
  · split at hs
    · rename_i n cs hw
      cases hs
      obtain ⟨h1, h2, h3⟩ := src_ok hR hw
      have hl : cs.length = n * z := by have := h1.newsLen; simpa using this
      have key : ∀ own, outRows Y ρ own ks (chunk z n cs) = some l → ∃ news, Src P z t (realW σ x) l.length news w ∧ Rows (Fo F B0 own) w z news l := fun own ho => by
        obtain ⟨h4, h5⟩ := outRows_ok hks hA hF n cs l ho hl
        exact ⟨_, by rw [h4]; exact h1, h5⟩
      have hd' : (match outRows Y ρ true ks (chunk z n cs) with
        | some l => some (l, true, True)
        | none => match outRows Y ρ false ks (chunk z n cs) with
          | some l => some (l, false, True)
          | none => none) = some (l, own, p) := hd
      split at hd'
      · rename_i l' ho; cases hd'; exact key true ho
      · split at hd'
        · rename_i l' ho; cases hd'; exact key false ho
        · cases hd'
    · cases hs
theorem Rows.mono {F' : Nat → Prop} {z : Nat} {news : List Value} {l : List (List D)} (h : Rows F w z news l) (hF : ∀ g, F g → F' g) : Rows F' w z news l := fun q cs hq => by
  obtain ⟨h1, h2⟩ := h q cs hq
  refine ⟨h1, fun p d hp => ?_⟩
  obtain ⟨v, h3, h4⟩ := h2 p d hp
  exact ⟨v, h3, h4.keep hF fun _ _ _ _ h => h⟩
end
end
end Go.Vc

/- append: the rule. -/
namespace Go.Vc
structure AppI where
  e : Nat
  z : Nat
  ks : List Kd
  own : Bool
  d : Option (Nat × Nat)
  src : SrcI
noncomputable def appA (P : Program) (m : Mem) (Y : T YRow) (tm : Tm) (t u : TypeId) (s x : Operand) : Option AppI := match sliceTy P t with
  | some (e, z) => match kindsOf P e with
    | some ks => bif Nat.blt 0 z && Nat.beq ks.length z && zeroIs P e z && Nat.ble (Nat.mul 1048576 (bytes? P e)) 140737488355328 then match dstA Y e z (ev tm s), srcA P m Y z u (ev tm x) with
        | some (own, d), some src => some ⟨e, z, ks, own, d, src⟩
        | _, _ => none
      else none
    | none => none
  | none => none
section
variable [H : Holes] {P : Program} {K : Nat → Option (List Value)} {s s' : St} {ρ ρ' : Rho} {Q : Post}
theorem fo_and {F : Nat → Prop} {B0 : Nat} {o1 o2 : Bool} (g : Nat) : (Fo F B0 o1 g → Fo F B0 (o1 && o2) g) ∧ (Fo F B0 o2 g → Fo F B0 (o1 && o2) g) := by
  cases o1 <;> cases o2 <;> simp [Fo] <;> (try exact fun h _ => h)
theorem OdV.mono {F F' : Nat → Prop} {w : World} {e z g : Nat} {l : List (List D)} {v : Value} (h : OdV F w e z l g v) (hF : ∀ g, F g → F' g) : OdV F' w e z l g v := by
  obtain ⟨h1, a, c, h2, h3⟩ := h
  refine ⟨h1, a, c, h2, ?_⟩
  rcases h3 with h3 | ⟨h3, h4, arr, h5, h6, h7, h8⟩
  · exact .inl h3
  · refine .inr ⟨h3, h4, arr, h5, h6, h7, fun q cs hq => ?_⟩
    obtain ⟨h9, h10⟩ := h8 q cs hq
    refine ⟨h9, fun p d hp => ?_⟩
    obtain ⟨v, h11, h12⟩ := h10 p d hp
    exact ⟨v, h11, h12.keep hF fun _ _ _ _ h => h⟩
/-- APPEND -/
theorem sx_app {all : Array Oper} {o : Oper} {l : List Oper} {c : Call} {t u : TypeId} {s0 x0 : Operand} {i : AppI} {l2 : List (List D)} {own2 : Bool} {p : Prop} (hc : s.cur = .ops all (o :: l)) (hop : openB all s.tm o = false) (hw : wantW all s.tm o = true)
    (ho : o.op = .call c) (hcal : c.callee = .builtin .append) (hts : c.argTypes.toList = [t, u]) (hxs : c.args.toList = [s0, x0]) (ha : appA P s.m s.Y s.tm t u s0 x0 = some i) (hd : srcD s.Y ρ i.ks i.z i.src = some (l2, own2, p)) (hp : p) (hlen : (dat1 ρ i.d).length + l2.length ≤ 1048576)
    (hput : putY s all o l (one (.fz (Nat.succ s.m.nx))) (s.m.up (Nat.succ (Nat.succ s.m.nx))) ((killY s.Y i.d).set (Nat.succ s.m.nx) (.od i.e i.z (i.own && own2) s.m.nx)) = some s') (k : ∀ x, x = dat1 ρ i.d ++ l2 → Sx P K s' (ρ.setD s.m.nx x) Q) : Sx P K s ρ Q := by
  refine sx_und hc hop hw (fun c' hc' => by rw [hc'] at ho; cases ho) fun F hF n b hB Qw hQ σ a w hA => ?_
  have hts : c.argTypes = #[t, u] := Array.ext' hts
  have hxs : c.args = #[s0, x0] := Array.ext' hxs
  unfold execOp
  simp only [ho]
  unfold resolve
  simp only [hcal, hts, hxs]
  rw [show (#[s0, x0].map a.eval) = #[realW σ (ev s.tm s0), realW σ (ev s.tm x0)] by simp [(hA.tm.ev a.defers s0).1, (hA.tm.ev a.defers x0).1]]
  show Und F P _ ((do pure (.value (← Builtin.append_ #[t, u] o.type #[realW σ (ev s.tm s0), realW σ (ev s.tm x0)])) : Sem Next).run P w)
  obtain ⟨G, hG⟩ := hA.aw.y
  unfold appA at ha
  split at ha
  · rename_i e z hty
    obtain ⟨hu, hsz⟩ := sliceTy_ok hty
    split at ha
    · rename_i ks hks
      obtain ⟨hcc, ha⟩ : (Nat.blt 0 z && Nat.beq ks.length z && zeroIs P e z && Nat.ble (Nat.mul 1048576 (bytes? P e)) 140737488355328) = true ∧ _ = some i := by
        cases hq : (Nat.blt 0 z && Nat.beq ks.length z && zeroIs P e z && Nat.ble (Nat.mul 1048576 (bytes? P e)) 140737488355328) with
        | false => rw [hq] at ha; cases ha
        | true => rw [hq] at ha; exact ⟨rfl, ha⟩
      simp only [Bool.and_eq_true] at hcc
      obtain ⟨⟨⟨c1, c2⟩, c3⟩, c4⟩ := hcc
      have c1 : 0 < z := Nat.le_of_ble_eq_true c1
      have c2 := Nat.eq_of_beq_eq_true c2
      have c4 : 1048576 * bytes? P e ≤ 140737488355328 := Nat.le_of_ble_eq_true c4
      split at ha
      · rename_i own d src hdst hsrc
        cases ha
        dsimp only at hd hlen hput k
        obtain ⟨news, hs1, hs2⟩ := srcD_ok hsrc hd hp c1 c2 hA.aw.rel hA.aw.ag hG
        -- where it goes to
        obtain ⟨g, hv, hdead⟩ : ∃ g, OdV (Fo G b.wB.heap.size own) w e z (dat1 ρ d) g (realW σ (ev s.tm s0)) ∧ (liveV (realW σ (ev s.tm s0)) → ∃ i j, d = some (i, j) ∧ s.Y.get i = some (.od e z own j) ∧ live σ i ∧ σ.b i = g) := by
          unfold dstA at hdst
          split at hdst
          · rename_i he
            cases hdst
            rw [he]
            exact ⟨0, ⟨c1, none, 0, rfl, .inl ⟨rfl, rfl⟩⟩, fun ⟨_, _, _, hq, hlt⟩ => by cases hq; omega⟩
          · rename_i r0 o0 z0 he
            cases hdst
            rw [he]
            exact ⟨0, ⟨c1, _, 0, rfl, .inl ⟨rfl, rfl⟩⟩, fun ⟨_, _, _, hq, hlt⟩ => by cases hq; omega⟩
          · rename_i q he
            rw [he]
            split at hdst
            · rename_i ow j hi
              cases hdst
              obtain ⟨_, _, h3, h4⟩ := (hG.row q _ hi).2
              obtain ⟨a', k', hv'⟩ := h3 (by decide)
              have hd0 := h4 rfl
              have hre : realW σ (.v (.c (.fz q))) = .slice a' k' k' := by
                show realC σ (.fz q) = _
                simp only [realC, hv']
              have hk0 : k' = 0 := by
                have hrd := (hG.row q _ hi).2.2.1
                obtain ⟨a2, c2', hv2⟩ := hrd.slice
                rw [hv'] at hv2
                cases hv2
                rw [hd0]; rfl
              subst hk0
              rw [hre]
              exact ⟨0, ⟨c1, a', 0, rfl, .inl ⟨rfl, rfl⟩⟩, fun ⟨_, _, _, hq, hlt⟩ => by cases hq; omega⟩
            · rename_i e' z' ow j hi
              obtain ⟨hq1, hq2⟩ := cond_some hdst
              simp only [Bool.and_eq_true] at hq1
              have e1 := Nat.eq_of_beq_eq_true hq1.1
              have e2 := Nat.eq_of_beq_eq_true hq1.2
              subst e1; subst e2
              cases hq2
              obtain ⟨_, hz1, a', c', hv', hc'⟩ := (hG.row q _ hi).2
              have hag : σ.r.d j = ρ.d j := hA.aw.ag q _ hi
              rw [hag] at hv' hc'
              have hre : realW σ (.v (.c (.fz q))) = .slice a' (ρ.d j).length c' := by
                show realC σ (.fz q) = _
                simp only [realC, hv']
              rw [hre]
              exact ⟨σ.b q, ⟨hz1, a', c', rfl, hc'⟩, fun ⟨a2, n2, c2', hq, hlt⟩ => ⟨q, j, rfl, hi, ⟨a', _, c', hv', by cases hq; exact hlt⟩, rfl⟩⟩
            · cases hdst
          · cases hdst
        have hdead2 : liveV (realW σ (ev s.tm s0)) → g < w.heap.size ∧ b.wB.heap.size ≤ g ∧ ¬ G g ∧ (∀ q r, s.m.S.get q = some r → r.blk = true → σ.b q ≠ g) ∧ ∀ q, w.heap[g]? ≠ some (.deferred q) := fun hl => by
          obtain ⟨q, j, rfl, hi, hli, rfl⟩ := hdead hl
          obtain ⟨h1, h2, h3, h4⟩ := hG.od q _ _ _ _ hi hli
          refine ⟨h1, h2, h3, h4, fun qq hqq => ?_⟩
          obtain ⟨_, a', c', hv', hc'⟩ := hv
          obtain ⟨a2, n2, c2', hq2, hlt2⟩ := hl
          rw [hv'] at hq2; cases hq2
          rcases hc' with ⟨h5, _⟩ | ⟨_, _, arr, h5, _⟩
          · omega
          · rw [h5] at hqq; cases hqq
        obtain ⟨v', w', g', r1, r2, r3, r4, r5⟩ := append_od (F := Fo G b.wB.heap.size (own && own2)) (ty := o.type) hu hsz c3 (hv.mono fun g hg => (fo_and g).1 hg) hs1 rfl (hs2.mono fun g hg => (fo_and g).2 hg) (fun g hg => (hG.dom g hg.1).1) (fun hl hg => (hdead2 hl).2.2.1 hg.1) hlen c4
        rw [Sem.run_bind, r1]
        -- the old row dies
        have hkY : ∀ q y, (killY s.Y d).get q = some y → (s.Y.get q = some y ∧ ∀ i j, d = some (i, j) → q ≠ i) ∨ y = .dead := fun q y hq => by
          unfold killY at hq
          split at hq
          · rename_i i j
            rw [T.get_set] at hq
            split at hq
            · cases hq; exact .inr rfl
            · rename_i hne; exact .inl ⟨hq, fun i' j' he => by cases he; exact hne⟩
          · exact .inl ⟨hq, fun i j he => by cases he⟩
        have hkill : Aw K b s.m (killY s.Y d) ρ σ w ∧ YRel G b.F0 b.wB.heap.size σ s.m (killY s.Y d) w := by
          unfold killY
          split
          · rename_i i j
            have hi : Lt i s.m.nx := by
              unfold dstA at hdst
              split at hdst
              · cases hdst
              · cases hdst
              · split at hdst
                · cases hdst
                · rename_i hi
                  obtain ⟨_, hq2⟩ := cond_some hdst
                  cases hq2
                  exact (hG.row _ _ hi).1
                · cases hdst
              · cases hdst
            exact ⟨hA.aw.kill hi, hG.kill hi⟩
          · exact ⟨hA.aw, hG⟩
        obtain ⟨hA1, hG1⟩ := hkill.1.turn (g := g) (P := liveV (realW σ (ev s.tm s0))) hkill.2 r2 r3 fun hl => by
          obtain ⟨h1, h2, h3, h4, h5⟩ := hdead2 hl
          refine ⟨h3, h2, h4, fun q e' z' o' j' hq hlq he => ?_, h5⟩
          obtain ⟨i, j, hd0, hi, hli, hbi⟩ := hdead hl
          rcases hkY q _ hq with ⟨hq1, hq2⟩ | hq1
          · exact hq2 i j hd0 (hG.odi q _ _ _ _ i _ _ _ _ hq1 hi hlq hli (he.trans hbi.symm))
          · cases hq1
        -- the data's number
        have hτ := Env.agree_sym σ s.m.nx .nilFunc (σ.r.setD s.m.nx (dat1 ρ d ++ l2)) (rhoEq_setD _ _ _)
        obtain ⟨hA2, hG2⟩ := hA1.num hG1 hτ (rhoEq_setD ρ s.m.nx (dat1 ρ d ++ l2))
        have hdat : (σ.sym s.m.nx .nilFunc (σ.r.setD s.m.nx (dat1 ρ d ++ l2))).r.d s.m.nx = dat1 ρ d ++ l2 := setD_at _ _ _
        -- the new row
        obtain ⟨υ, k1, k2, k3, k4, k5, _⟩ := hA2.symO hG2 (e := e) (z := z) (j := s.m.nx) (own := own && own2) (v := v') (g := g') hA.aw.rel.ltnx (by rw [hdat, setD_at]) (by rw [hdat]; exact r5) fun hl => by
          have hold : ∀ q r, s.m.S.get q = some r → r.blk = true → (σ.sym s.m.nx .nilFunc (σ.r.setD s.m.nx (dat1 ρ d ++ l2))).b q = σ.b q := fun q r _ _ => rfl
          rcases r4 with ⟨rfl, hlv⟩ | hge | hnl
          · obtain ⟨h1, h2, h3, h4, h5⟩ := hdead2 hlv
            refine ⟨Nat.lt_of_lt_of_le h1 r2.size, h2, h3, fun q r hq hb => h4 q r hq hb, fun q e' z' o' j' hq hlq he => ?_⟩
            obtain ⟨i, j, hd0, hi, hli, hbi⟩ := hdead hlv
            rcases hkY q _ hq with ⟨hq1, hq2⟩ | hq1
            · exact hq2 i j hd0 (hG.odi q _ _ _ _ i _ _ _ _ hq1 hi ((live_agree hτ (hG.row q _ hq1).1).1 hlq) hli (he.trans hbi.symm))
            · cases hq1
          · have hlt : g' < w'.heap.size := by
              obtain ⟨_, a', c', hv', hc'⟩ := r5
              obtain ⟨a2, n2, c2', hq2, hlt2⟩ := hl
              rw [hv'] at hq2; cases hq2
              rcases hc' with ⟨h5, _⟩ | ⟨_, _, arr, h5, _⟩
              · omega
              · exact heap_lt h5
            refine ⟨hlt, Nat.le_trans hA.aw.size hge, fun hg => ?_, fun q r hq hb he => ?_, fun q e' z' o' j' hq hlq he => ?_⟩
            · have := (hG.dom g' hg).1; omega
            · have := (hA.aw.rel.row q r hq).blk_lt hb
              have he : σ.b q = g' := he
              omega
            · rcases hkY q _ hq with ⟨hq1, _⟩ | hq1
              · have := (hG.od q _ _ _ _ hq1 ((live_agree hτ (hG.row q _ hq1).1).1 hlq)).1
                have he : σ.b q = g' := he
                omega
              · cases hq1
          · exact absurd hl hnl
        show den F n P Qw s.ks (.ops all l) (a.put o.dst v') w'
        unfold putY at hput
        cases hput' : putR s.nt s.tm o.dst (.ok (one (.fz (Nat.succ s.m.nx))) (s.m.up (Nat.succ (Nat.succ s.m.nx)))) with
        | no => rw [hput'] at hput; cases hput
        | ok tm m2 =>
          rw [hput'] at hput
          cases hput
          obtain ⟨x', hx', hpk⟩ := putR_ok hput'
          cases hx'
          have hagr : Agree s.m.nx σ υ := hτ.trans (Nat.le_succ _) k1
          have hval : realW υ (one (.fz (Nat.succ s.m.nx))) = v' := k4
          rw [← hval]
          refine k _ rfl F hF n b hB Qw hQ υ _ w' ⟨k2, hpk υ _ a (hA.tm.agree hagr (by show s.m.nx ≤ s.m.nx + 2; omega)) hA.nt k5, by rw [put_size]; exact hA.nt, ?_⟩
          obtain ⟨rs, q1, q2, q3⟩ := hA.mks
          refine ⟨rs, by rw [put_defers]; exact q1, q2, fun r hr => ⟨(q3 r hr).1, ?_⟩⟩
          rw [r3 r (heap_lt (q3 r hr).2) fun hl he => (hdead2 hl).2.2.2.2 _ (he ▸ (q3 r hr).2)]
          exact (q3 r hr).2
      · cases ha
    · cases ha
  · cases ha
end
end Go.Vc
