import Derived.OrdersIn
import Derived.StillTail
import Derived.Test.YtneooimijbfmgaaGreatCrAK
import Derived.Test.YtneooimijbfmgaaGreatCrAL
set_option linter.unusedVariables false
set_option linter.unusedSimpArgs false
set_option linter.unusedSectionVars false
/- A REGION THAT DRAWS: operations that only add, in any order, then the others in a line. -/
namespace Go.Vc
noncomputable def namesY (ops : Array Oper) (o : Oper) : List Tmp := (o.op.operands.toList.filterMap fun x => match x with
  | .tmp t => some t
  | _ => none) ++ match o.guard with
  | some g => match (ops[g.1]?).bind (·.dst) with
    | some d => [d]
    | none => []
  | none => []
theorem namesY_op {ops : Array Oper} {o : Oper} {t : Tmp} (h : Operand.tmp t ∈ o.op.operands) : t ∈ namesY ops o :=
  List.mem_append_left _ (List.mem_filterMap.2 ⟨.tmp t, by simpa using h, rfl⟩)
theorem namesY_guard {ops : Array Oper} {o : Oper} {g : Nat} {b : Bool} {t : Tmp} (hg : o.guard = some (g, b)) (h : (ops[g]?).bind (·.dst) = some t) : t ∈ namesY ops o := by
  refine List.mem_append_right _ ?_
  rw [hg]
  simp only
  rw [h]
  simp
structure NamesY (ops : Array Oper) (p : Nat) (o : Nat → Oper) (nx : Nat → Nat) (tm : Nat → Tm) (did : Nat → Bool) (tv : Nat → Tm) : Prop where
  nmD : ∀ j, j < p → ∀ t, (o j).dst = some t → ∀ k, k < p → (o k).dst = some t → k = j ∨ (k < j ∧ Wt ops j k) ∨ (j < k ∧ Wt ops k j)
  nmT : ∀ j, j < p → ∀ t, t ∈ namesY ops (o j) → ∀ k, k < p → (o k).dst = some t → k = j ∨ (k < j ∧ Wt ops j k) ∨ (j < k ∧ Wt ops k j)
  tvT : ∀ j, j < p → ∀ t, t ∈ namesY ops (o j) → (tv j).get t = (tm j).get t
  tvN : ∀ j, j < p → ∀ t, ¬ t ∈ namesY ops (o j) → (tv j).get t = .v (.c (.raw undef))
  tvl : ∀ j, j < p → ∀ t, @W.lt noHoles (nx j) ((tv j).get t)
  want : ∀ j, j < p → openB ops (tv j) (o j) = false ∧ wantW ops (tv j) (o j) = did j
  op : ∀ j, j < p → did j = true → (∀ c, (o j).op ≠ .defer c) ∧ ∀ cs b, (o j).op ≠ .select cs b
section
variable {H : Holes} {P : Program} {K : Nat → Option (List Value)} {b : Bs} {nt p : Nat} {ops : Array Oper} {o : Nat → Oper} {nx : Nat → Nat} {S : T Row} {Y : T YRow} {ρ : Nat → Rho} {tm : Nat → Tm} {did : Nat → Bool} {x : Nat → W} {V V' : Nat → T Row} {U U' : Nat → T YRow} {vis : Nat → Nat → Prop} {tv : Nat → Tm} {m0 : Mem} {Y0 : T YRow} {G0 G : Nat → Prop} {σ0 σ : Env} {w0 w : World} {a0 a : Act} {D D' : Nat → Bool} {j : Nat} {tm0 : Tm}
theorem tmY_succ {n : Nat} (t : Tmp) : (tmY o x D tm0 (n + 1)).get t = if (o n).dst = some t ∧ D n = true then x n else (tmY o x D tm0 n).get t := by
  rw [tmY]
  split
  · rename_i d hd
    cases hD : D n with
    | true =>
      rw [cond_true, @Tm.get_set noHoles]
      by_cases ht : d = t
      · subst ht; rw [if_pos rfl, if_pos ⟨hd, rfl⟩]
      · rw [if_neg ht, if_neg (fun hc => ht (by have := hc.1; rw [hd] at this; cases this; rfl))]
    | false => rw [cond_false, if_neg (fun hc => by cases hc.2)]
  · rename_i hd
    rw [if_neg (fun hc => by rw [hd] at hc; cases hc.1)]
theorem tmY_next (hn : NamesY ops p o nx tm did tv) (hj : j < p) (hnot : D j = false) (hcl : ∀ k q, D k = true → Wt ops k q → D q = true) (hD' : ∀ k, k < p → D' k = (D k || decide (k = j))) (t : Tmp) : (tmY o x D' tm0 p).get t = if (o j).dst = some t then x j else (tmY o x D tm0 p).get t := by
  have lo : ∀ n, n ≤ j → (tmY o x D' tm0 n).get t = (tmY o x D tm0 n).get t := fun n => by
    induction n with
    | zero => exact fun _ => rfl
    | succ n ih =>
      intro hle
      rw [tmY_succ, tmY_succ, ih (by omega), hD' n (by omega)]
      have : decide (n = j) = false := by simp; omega
      rw [this, Bool.or_false]
  have hi : ∀ n, j < n → n ≤ p → (tmY o x D' tm0 n).get t = if (o j).dst = some t then x j else (tmY o x D tm0 n).get t := fun n => by
    induction n with
    | zero => intro h; omega
    | succ n ih =>
      intro h1 h2
      by_cases he : n = j
      · subst he
        rw [tmY_succ, tmY_succ, lo n (Nat.le_refl _), hD' n hj, hnot]
        simp
      · rw [tmY_succ, tmY_succ, ih (by omega) (by omega), hD' n (by omega)]
        have : decide (n = j) = false := by simp; omega
        rw [this, Bool.or_false]
        by_cases hw : (o n).dst = some t ∧ D n = true
        · rw [if_pos hw, if_pos hw]
          by_cases hwj : (o j).dst = some t
          · exfalso
            rcases hn.nmD j hj t hwj n (by omega) hw.1 with h3 | ⟨h3, _⟩ | ⟨_, h3⟩
            · exact he h3
            · omega
            · have := hcl n j hw.2 h3
              rw [hnot] at this; cases this
          · rw [if_neg hwj]
        · rw [if_neg hw, if_neg hw]
  exact hi p hj (Nat.le_refl p)
theorem tmY_seen (h : RunY P K nt ops p o nx S Y ρ tm did x V V' U U' vis tv) (hn : NamesY ops p o nx tm did tv) (h0 : tm 0 = tm0) (hj : j < p) (hnot : D j = false) (hw : ∀ k, Wt ops j k → D k = true) (hcl : ∀ k q, D k = true → Wt ops k q → D q = true) {t : Tmp} (ht : t ∈ namesY ops (o j)) : (tmY o x D tm0 p).get t = (tv j).get t := by
  rw [hn.tvT j hj t ht]
  have lo : ∀ n, n ≤ j → (tmY o x D tm0 n).get t = (tm n).get t := fun n => by
    induction n with
    | zero => exact fun _ => by rw [h0]; rfl
    | succ n ih =>
      intro hle
      rw [tmY_succ, ih (by omega)]
      by_cases hd : (o n).dst = some t
      · have hDn : D n = true := by
          rcases hn.nmT j hj t ht n (by omega) hd with h3 | ⟨_, h3⟩ | ⟨h3, _⟩
          · omega
          · exact hw n h3
          · omega
        rw [if_pos ⟨hd, hDn⟩, (h.put n (by omega) t hd).2, @Tm.get_set noHoles, if_pos rfl]
      · rw [if_neg (fun hc => hd hc.1)]
        cases hdd : (o n).dst with
        | none => rw [h.same n (by omega) hdd]
        | some d => rw [(h.put n (by omega) d hdd).2, @Tm.get_set noHoles, if_neg (fun he => hd (by rw [hdd, he]))]
  have hi : ∀ n, j ≤ n → n ≤ p → (tmY o x D tm0 n).get t = (tm j).get t := fun n => by
    induction n with
    | zero => intro h1 _; rw [← lo j (Nat.le_refl _), Nat.le_zero.1 h1]
    | succ n ih =>
      intro h1 h2
      by_cases he : n + 1 = j
      · rw [he]; exact lo j (Nat.le_refl _)
      · rw [tmY_succ, ih (by omega) (by omega), if_neg]
        rintro ⟨hd, hDn⟩
        rcases hn.nmT j hj t ht n (by omega) hd with h3 | ⟨h3, _⟩ | ⟨_, h3⟩
        · subst h3; rw [hnot] at hDn; cases hDn
        · omega
        · have := hcl n j hDn h3
          rw [hnot] at this; cases this
  exact hi p (Nat.le_of_lt hj) (Nat.le_refl p)
/-- what an operation's temporaries are -/
noncomputable def actY (nt : Nat) (l : List Tmp) (a : Act) : Act := ⟨Array.ofFn (n := nt) fun i => if i.1 ∈ l then a.tmps.getD i undef else undef, a.defers⟩
theorem actY_get {l : List Tmp} (hs : a.tmps.size = nt) (t : Tmp) : (actY nt l a).tmps[t]? = if t < nt then some (if t ∈ l then a.tmps.getD t undef else undef) else none := by
  by_cases h : t < nt
  · rw [if_pos h]; simp [actY, h]
  · rw [if_neg h]; simp [actY, h]
theorem actY_in {l : List Tmp} (hs : a.tmps.size = nt) {t : Tmp} (ht : t ∈ l) : a.tmps[t]? = (actY nt l a).tmps[t]? := by
  rw [actY_get hs]
  by_cases h : t < nt
  · rw [if_pos h, if_pos ht, Array.getD_eq_getD_getElem?, Array.getElem?_eq_getElem (Nat.lt_of_lt_of_eq h hs.symm)]; rfl
  · rw [if_neg h, Array.getElem?_eq_none (hs ▸ Nat.le_of_not_lt h)]
theorem actY_eval {l : List Tmp} (hs : a.tmps.size = nt) (y : Operand) (hy : ∀ t, y = .tmp t → t ∈ l) : a.eval y = (actY nt l a).eval y := by
  cases y with
  | tmp t =>
    show a.tmps.getD t undef = Array.getD _ t undef
    rw [Array.getD_eq_getD_getElem?, Array.getD_eq_getD_getElem?, actY_in hs (hy t rfl)]
  | _ => rfl
theorem actY_want {oo : Oper} (hs : a.tmps.size = nt) : Region.wanted oo (yielded ops a.tmps) = Region.wanted oo (yielded ops (actY nt (namesY ops oo) a).tmps) := by
  unfold Region.wanted
  cases hg : oo.guard with
  | none => rfl
  | some g =>
    obtain ⟨i, q⟩ := g
    simp only
    unfold yielded
    cases hd : (ops[i]?).bind (·.dst) with
    | none => rfl
    | some d => simp only [Option.bind_some]; rw [actY_in hs (namesY_guard hg hd)]
theorem actY_tm (h : RunY P K nt ops p o nx S Y ρ tm did x V V' U U' vis tv) (hn : NamesY ops p o nx tm did tv) (h0 : tm 0 = tm0) (hj : j < p) (hnot : D j = false) (hw : ∀ k, Wt ops j k → D k = true) (hcl : ∀ k q, D k = true → Wt ops k q → D q = true) (inv : InvY H K b nt p o nx S Y ρ tm0 x G0 σ0 a0 w0 D G σ a w) :
    @TmOk (belowY (holY H nx p D) (nx j)) σ (nx j) (actY nt (namesY ops (o j)) a).tmps (tv j) := by
  refine @TmOk.mk (belowY (holY H nx p D) (nx j)) _ _ _ _ (fun t => ?_) (fun t => ?_)
  · by_cases ht : t ∈ namesY ops (o j)
    · rw [Array.getD_eq_getD_getElem?, ← actY_in inv.size ht, ← Array.getD_eq_getD_getElem?, inv.tget t, tmY_seen h hn h0 hj hnot hw hcl ht]
    · rw [hn.tvN j hj t ht, Array.getD_eq_getD_getElem?, actY_get inv.size, if_neg ht]
      split <;> rfl
  · by_cases ht : t ∈ namesY ops (o j)
    · have h1 := inv.tlt t
      rw [tmY_seen h hn h0 hj hnot hw hcl ht] at h1
      exact W.lt.both h1 (hn.tvl j hj t) fun q h2 h3 => @Lt.mk (belowY (holY H nx p D) (nx j)) _ _ (@Lt.lt noHoles _ _ h3) (fun hc => @Lt.ok (holY H nx p D) _ _ h2 hc.2)
    · rw [hn.tvN j hj t ht]; trivial
end
/-- what j waits for is done, if what it names first is -/
theorem wt_ready {ops : Array Oper} {D : Nat → Bool} (hc : ∀ j oj, ops[j]? = some oj → D j = true → ∀ e ∈ oj.after, Region.binds .any e = true → D e.on = true) {j k : Nat} (hr : ∀ oj, ops[j]? = some oj → ∀ e ∈ oj.after, Region.binds .any e = true → D e.on = true) (h : Wt ops j k) : D k = true := by
  induction h with
  | one ho he hb => exact hr _ ho _ he hb
  | more ho he hb _ ih => exact ih fun oj hoj e' he' hb' => hc _ oj hoj (hr _ ho _ he hb) e' he' hb'
theorem wt_closed {ops : Array Oper} {D : Nat → Bool} (hc : ∀ j oj, ops[j]? = some oj → D j = true → ∀ e ∈ oj.after, Region.binds .any e = true → D e.on = true) {j k : Nat} (hj : D j = true) (h : Wt ops j k) : D k = true :=
  wt_ready hc (fun oj ho => hc j oj ho hj) h
/-- how an operation's edges go -/
structure EdgesY (ops : Array Oper) (p : Nat) : Prop where
  back : ∀ (j : Nat) (o : Oper), ops[j]? = some o → ∀ e ∈ o.after, Region.binds .any e = true → e.on < j
  cut : ∀ j, p ≤ j → j < ops.size → ∀ k, k < p → Wt ops j k
  le : p ≤ ops.size
section
variable {F : Fence} {n : Nat} {P : Program} {ops : Array Oper} {p : Nat} {Q : Exit → Act → World → Prop}
/-- none is ready: all are done -/
theorem none_ready (he : EdgesY ops p) {listed : Array Bool} (hs : listed.size = ops.size) (h : Region.ready .any ops listed = []) : ∀ k, k < ops.size → listed.getD k false = true := by
  intro k
  induction k using Nat.strongRecOn with
  | _ k ih =>
    intro hk
    cases hd : listed.getD k false with
    | true => rfl
    | false =>
      exfalso
      have hop : ops[k]? = some ops[k] := Array.getElem?_eq_getElem hk
      have : k ∈ Region.ready .any ops listed := mem_ready.2 ⟨getD_in (by rw [hs]; exact hk) hd, ops[k], hop, fun e hee hb' => by
        have hlt := he.back k _ hop e hee hb'
        exact ih e.on hlt (by omega)⟩
      rw [h] at this; cases this
theorem set_getD {listed : Array Bool} {j : Nat} (hj : j < listed.size) (k : Nat) : (listed.setIfInBounds j true).getD k false = (listed.getD k false || decide (k = j)) := by
  by_cases he : k = j
  · subst he; simp [hj]
  · rw [getD_set_ne false (Ne.symm he)]; simp [he]
/-- all are done -/
theorem drawAt_end {r : Nat} {a : Act} {w : World} (hr : r = ops.size) (h : Q .normal a w) : drawAt F n P ops r Q a w := fun fuel listed hs hl hf => by
  have hnil : Region.ready .any ops listed = [] := List.eq_nil_iff_forall_not_mem.2 fun i hi => by
    obtain ⟨g1, oo, g2, _⟩ := mem_ready.1 hi
    have g3 := getD_both g1
    rw [hl i] at g3
    have := (Array.getElem?_eq_some_iff.1 g2).1
    simp at g3
    omega
  cases fuel with
  | zero => exact ⟨hnil, h⟩
  | succ fuel => exact ⟨fun _ => h, fun j hj => by rw [hnil] at hj; cases hj⟩
theorem letsOut_then {D : Act → World → Prop} (h : LetsOut (Exit.then D Q)) : LetsOut Q := h
theorem upon_then {o : Oper} {a : Act} {K D : Act → World → Prop} {r : Result Next} (h : o.uponIn F n P a K (Exit.then D Q) r) : o.uponIn F n P a K Q r := by
  cases r with
  | halt hh w => cases hh <;> first | exact h | exact h.elim
  | ok x w =>
    cases x <;> first
      | exact h
      | exact ⟨h.1, h.2.mono fun e w2 h2 => by cases e <;> exact h2⟩
      | exact h.elim
/-- one operation that all others wait for -/
theorem line_go {r : Nat} {o : Oper} (hback : ∀ (j : Nat) (o : Oper), ops[j]? = some o → ∀ e ∈ o.after, Region.binds .any e = true → e.on < j) (hcut : ∀ j, r < j → j < ops.size → Wt ops j r) (ho : ops[r]? = some o) {a : Act} {w : World} (h : wpListIn F n P ops (Exit.then (drawAt F n P ops (r + 1) Q) Q) [o] a w) : drawAt F n P ops r Q a w := fun fuel listed hs hl hf => by
  have hrs := (Array.getElem?_eq_some_iff.1 ho).1
  cases fuel with
  | zero => omega
  | succ fuel =>
    have hone : ∀ j, j ∈ Region.ready .any ops listed → j = r := fun j hj => by
      obtain ⟨g1, oo, g2, g3⟩ := mem_ready.1 hj
      have hjl := (Array.getElem?_eq_some_iff.1 g2).1
      have g1' := getD_both g1
      rw [hl j] at g1'
      have hjq : r ≤ j := by simpa using g1'
      rcases Nat.lt_or_ge r j with h1 | h1
      · have hw := hcut j h1 hjl
        have hc : ∀ i oi, ops[i]? = some oi → listed.getD i false = true → ∀ e ∈ oi.after, Region.binds .any e = true → listed.getD e.on false = true := fun i oi hi hli e hee hb => by
          have := hback i oi hi e hee hb
          rw [hl i] at hli
          rw [hl e.on]
          simp at hli ⊢
          omega
        have := wt_ready (D := fun k => listed.getD k false) hc (fun oj hoj => by
          have : oj = oo := Option.some.inj (hoj.symm.trans g2)
          subst this
          exact g3) hw
        simp only [hl r] at this
        simp at this
      · omega
    have hin : r ∈ Region.ready .any ops listed := mem_ready.2 ⟨getD_in (by rw [hs]; exact hrs) (by rw [hl r]; simp), o, ho, fun e hee hb' => (by
      have := hback r o ho e hee hb'
      rw [hl e.on]; simp; omega)⟩
    refine ⟨fun hnil => (by rw [hnil] at hin; cases hin), fun j hj => ?_⟩
    have hje := hone j hj
    subst hje
    have go : ∀ a' w', drawAt F n P ops (j + 1) Q a' w' → wpAnyIn F n P .any ops Q fuel (listed.setIfInBounds j true) a' w' := fun a' w' h' =>
      h' fuel _ (by simp [hs]) (fun k => by
        rw [set_getD (by rw [hs]; exact hrs) k, hl k]
        by_cases h1 : k < j
        · simp [h1]; omega
        · by_cases h2 : k = j
          · simp [h2]
          · simp [h1, h2]; omega) (by omega)
    unfold wpOpIn
    rw [ho]
    simp only
    unfold wpListIn at h
    split
    · rename_i hwt
      rw [if_pos hwt] at h
      exact ⟨h.1, upon_then (Oper.wpIn_mono (fun a' w' h' => go a' w' h') h).2⟩
    · rename_i hwt
      rw [if_neg hwt] at h
      exact ⟨h.1, go _ _ h.2⟩
/-- done already: it sets what is set -/
def idO (o : Oper) : Oper := { o with op := match o.dst with | some d => .move (.tmp d) | none => .move (.const undef), guard := none }
/-- it waits for all that are done -/
def waitO (r : Nat) (o : Oper) : Oper := { o with after := o.after ++ (Array.range r).map fun k => (⟨k, .data⟩ : Edge) }
def idA (ops : Array Oper) (r : Nat) : Array Oper := ((ops.toList.take r).map idO ++ (ops.toList.drop r).map (waitO r)).toArray
theorem idA_get (ops : Array Oper) {r : Nat} (hr : r ≤ ops.size) (i : Nat) : (idA ops r)[i]? = if i < r then (ops[i]?).map idO else (ops[i]?).map (waitO r) := by
  unfold idA
  rw [List.getElem?_toArray]
  have hl : ((ops.toList.take r).map idO).length = r := by simp; omega
  by_cases h : i < r
  · rw [if_pos h, List.getElem?_append_left (by omega), List.getElem?_map, List.getElem?_take, if_pos h, Array.getElem?_toList]
  · rw [if_neg h, List.getElem?_append_right (by omega), hl, List.getElem?_map, List.getElem?_drop, Array.getElem?_toList]
    congr 2
    omega
theorem idA_size (ops : Array Oper) {r : Nat} (hr : r ≤ ops.size) : (idA ops r).size = ops.size := by
  unfold idA
  simp
  omega
theorem idA_dst (ops : Array Oper) {r : Nat} (hr : r ≤ ops.size) (i : Nat) : ((idA ops r)[i]?).bind (·.dst) = (ops[i]?).bind (·.dst) := by
  rw [idA_get ops hr]
  split <;> cases ops[i]? <;> rfl
theorem idA_yielded (ops : Array Oper) {r : Nat} (hr : r ≤ ops.size) (tmps : Array Value) : yielded (idA ops r) tmps = yielded ops tmps := by
  funext j
  unfold yielded
  rw [idA_dst ops hr]
theorem idA_ready1 {r : Nat} (hr : r ≤ ops.size) {listed : Array Bool} {i : Nat} (hi : i < r) : i ∈ Region.ready .any (idA ops r) listed ↔ i ∈ Region.ready .any ops listed := by
  rw [mem_ready, mem_ready, idA_get ops hr, if_pos hi]
  cases ops[i]? with
  | none => simp
  | some o =>
    simp only [Option.map_some, Option.some.injEq, exists_eq_left']
    exact Iff.rfl
theorem idA_ready {r : Nat} (hr : r ≤ ops.size) {listed : Array Bool} (hl : ∀ k, k < r → listed.getD k false = true) (i : Nat) : i ∈ Region.ready .any (idA ops r) listed ↔ i ∈ Region.ready .any ops listed := by
  by_cases hi : i < r
  · exact idA_ready1 hr hi
  · rw [mem_ready, mem_ready, idA_get ops hr, if_neg hi]
    cases ops[i]? with
    | none => simp
    | some o =>
      simp only [Option.map_some, Option.some.injEq, exists_eq_left']
      refine and_congr_right fun _ => ⟨fun h e he hb => h e (Array.mem_append.2 (.inl he)) hb, fun h e he hb => ?_⟩
      rcases Array.mem_append.1 he with he | he
      · exact h e he hb
      · obtain ⟨k, hk, rfl⟩ := Array.mem_map.1 he
        exact hl k (by simpa using hk)
theorem idA_back {r : Nat} (hr : r ≤ ops.size) : ∀ (fuel : Nat) (listed : Array Bool) (a : Act) (w : World), (∀ k, k < r → listed.getD k false = true) → wpAnyIn F n P .any (idA ops r) Q fuel listed a w → wpAnyIn F n P .any ops Q fuel listed a w
  | 0, listed, a, w, hl, h => ⟨List.eq_nil_iff_forall_not_mem.2 fun i hi => (by
      have := (idA_ready hr hl i).2 hi
      rw [h.1] at this; cases this), h.2⟩
  | fuel + 1, listed, a, w, hl, h => by
    refine ⟨fun hnil => h.1 (List.eq_nil_iff_forall_not_mem.2 fun i hi => by
      have := (idA_ready hr hl i).1 hi
      rw [hnil] at this; cases this), fun j hj => ?_⟩
    have h2 := h.2 j ((idA_ready hr hl j).2 hj)
    have hjr : ¬ j < r := fun hlt => by
      obtain ⟨g1, _⟩ := mem_ready.1 hj
      have := getD_both g1
      rw [hl j hlt] at this; cases this
    have go : ∀ a' w', wpAnyIn F n P .any (idA ops r) Q fuel (listed.setIfInBounds j true) a' w' → wpAnyIn F n P .any ops Q fuel (listed.setIfInBounds j true) a' w' := fun a' w' h' => idA_back hr fuel _ a' w' (fun k hk => by
      rw [getD_set_ne false (by omega)]; exact hl k hk) h'
    unfold wpOpIn at h2 ⊢
    rw [idA_get ops hr, if_neg hjr] at h2
    cases ho : ops[j]? with
    | none => rw [ho] at h2; exact go _ _ h2
    | some o =>
      rw [ho] at h2
      simp only [Option.map_some] at h2 ⊢
      rw [idA_yielded ops hr] at h2
      have hww : Region.wanted (waitO r o) (yielded ops a.tmps) = Region.wanted o (yielded ops a.tmps) := rfl
      rw [hww] at h2
      split
      · rename_i hwt
        rw [if_pos hwt] at h2
        exact Oper.wpIn_mono (o := o) go h2
      · rename_i hwt
        rw [if_neg hwt] at h2
        exact ⟨h2.1, go _ _ h2.2⟩
theorem put_self (a : Act) (d : Tmp) : a.put (some d) (a.eval (.tmp d)) = a := by
  show ({ a with tmps := a.tmps.setIfInBounds d (a.tmps.getD d undef) } : Act) = a
  have : a.tmps.setIfInBounds d (a.tmps.getD d undef) = a.tmps := by
    apply Array.ext_getElem?
    intro i
    rw [Array.getElem?_setIfInBounds]
    split
    · rename_i he
      subst he
      split
      · rename_i hlt; rw [Array.getElem?_eq_getElem hlt]; simp [Array.getD]
      · rename_i hge; rw [Array.getElem?_eq_none (by omega)]
    · rfl
  rw [this]
theorem idO_wp {o : Oper} {K : Act → World → Prop} {a : Act} {w : World} (h : (idO o).wpIn F n P a w K Q) : K a w := by
  have h2 := h.2
  have hop : (idO o).op = match o.dst with | some d => .move (.tmp d) | none => .move (.const undef) := rfl
  cases hd : o.dst with
  | none =>
    rw [hd] at hop
    have hs : ((idO o).semAt F.round a.eval).run P w = .ok (.value undef) w := by
      unfold Oper.semAt execOp
      cases F.round <;> simp only [hop] <;> rfl
    rw [hs] at h2
    have : (idO o).dst = none := hd
    have h3 : K (a.put (idO o).dst undef) w := h2
    rw [this] at h3
    exact h3
  | some d =>
    rw [hd] at hop
    have hs : ((idO o).semAt F.round a.eval).run P w = .ok (.value (a.eval (.tmp d))) w := by
      unfold Oper.semAt execOp
      cases F.round <;> simp only [hop] <;> rfl
    rw [hs] at h2
    have : (idO o).dst = some d := hd
    have h3 : K (a.put (idO o).dst (a.eval (.tmp d))) w := h2
    rw [this, put_self] at h3
    exact h3
/-- those that are done are done again -/
theorem ids_go {r : Nat} (hr : r ≤ ops.size) (hback : ∀ (j : Nat) (o : Oper), ops[j]? = some o → ∀ e ∈ o.after, Region.binds .any e = true → e.on < j) {a : Act} {w : World} (h : drawAt F n P (idA ops r) 0 Q a w) : drawAt F n P ops r Q a w := fun fuel listed hs hl hf => by
  have key : ∀ q, q ≤ r → ∀ l2 : Array Bool, l2.size = ops.size → (∀ k, l2.getD k false = decide (k < q)) → ∀ f2, f2 + q = fuel + r → wpAnyIn F n P .any (idA ops r) Q f2 l2 a w := fun q => by
    induction q with
    | zero => intro _ l2 h1 h2 f2 hf2; exact h f2 l2 (by rw [idA_size ops hr]; exact h1) h2 (by rw [idA_size ops hr]; omega)
    | succ q ih =>
      intro hq l2 h1 h2 f2 hf2
      -- one step back
      let l3 : Array Bool := Array.ofFn (n := ops.size) fun i => decide (i.1 < q)
      have h3 : ∀ k, l3.getD k false = decide (k < q) := fun k => by
        rw [Array.getD_eq_getD_getElem?]
        by_cases hk : k < ops.size
        · rw [Array.getElem?_eq_getElem (by simpa [l3] using hk)]
          simp [l3]
        · rw [Array.getElem?_eq_none (by simpa [l3] using hk)]
          simp; omega
      have hw := ih (by omega) l3 (by simp [l3]) h3 (f2 + 1) (by omega)
      have hqs : q < ops.size := by omega
      have hoq : ops[q]? = some ops[q] := Array.getElem?_eq_getElem hqs
      have hin : q ∈ Region.ready .any (idA ops r) l3 := (idA_ready1 hr (by omega)).2 (mem_ready.2 ⟨getD_in (by simpa [l3] using hqs) (by rw [h3 q]; simp), ops[q], hoq, fun e hee hb' => by
        have := hback q _ hoq e hee hb'
        rw [h3 e.on]; simp; omega⟩)
      have h4 := hw.2 q hin
      unfold wpOpIn at h4
      rw [idA_get ops hr, if_pos (by omega), hoq] at h4
      simp only [Option.map_some] at h4
      have hwt : Region.wanted (idO ops[q]) (yielded (idA ops r) a.tmps) = true := rfl
      rw [if_pos hwt] at h4
      have h5 := idO_wp h4
      have he : l3.setIfInBounds q true = l2 := by
        apply Array.ext_getElem?
        intro i
        by_cases hi : i < ops.size
        · have e1 : (l3.setIfInBounds q true).getD i false = l2.getD i false := by
            rw [set_getD (by simpa [l3] using hqs) i, h3 i, h2 i]
            by_cases h1 : i < q
            · simp [h1]; omega
            · by_cases h2 : i = q
              · simp [h2]
              · simp [h1, h2]; omega
          rw [Array.getD_eq_getD_getElem?, Array.getD_eq_getD_getElem?] at e1
          have s1 : i < (l3.setIfInBounds q true).size := by simpa [l3] using hi
          have s2 : i < l2.size := by omega
          rw [Array.getElem?_eq_getElem s1, Array.getElem?_eq_getElem s2] at e1 ⊢
          simpa using e1
        · rw [Array.getElem?_eq_none (by simpa [l3] using hi), Array.getElem?_eq_none (by omega)]
      rw [he] at h5
      exact h5
  exact idA_back hr fuel listed a w (fun k hk => by rw [hl k]; simp [hk]) (key r (Nat.le_refl r) listed hs hl fuel rfl)
end
end Go.Vc

/- A point where the paths of an operation meet. -/
namespace Go.Vc
theorem list_join {F : Fence} {n : Nat} {P : Program} {all : Array Oper} {Q : Exit → Act → World → Prop} {o : Oper} {l : List Oper} {a : Act} {w : World} (h : wpListIn F n P all (Exit.then (fun a w => wpListIn F n P all Q l a w) Q) [o] a w) : wpListIn F n P all Q (o :: l) a w := by
  unfold wpListIn at h ⊢
  split
  · rename_i hw
    rw [if_pos hw] at h
    exact ⟨h.1, upon_then (Oper.wpIn_mono (fun a' w' h' => h') h).2⟩
  · rename_i hw
    rw [if_neg hw] at h
    exact ⟨h.1, h.2⟩
section
variable [H : Holes]
variable {P : Program} {K : Nat → Option (List Value)} {s s' : St} {ρ ρ' : Rho} {Q : Post}
/-- PATHS MEET behind an operation -/
theorem sx_join {all : Array Oper} {o : Oper} {l : List Oper} {j : Nat} {h : Hint} (hc : s.cur = .ops all (o :: l)) (hj : freshK j s.ks = true) (hok : okH h = true) (hpl : atB s.Y s.m.nx h.ods = true)
    (run : Sx P K ⟨.ops all [o], .loop .skip (some j) :: s.ks, s.tm, s.m, s.Y, s.nt, s.key⟩ ρ ⟨Q.q, (j, lcOf s ρ h 1) :: dropJ j Q.L⟩)
    (body : ∀ g, allV h.rks s.m.nx (killO s.m.S s.tm s.Y h.ods) ρ fun ds vs n' Y' ρ' => allO h.ods n' ρ' fun ls ρ' => h.inv ρ (ds ++ datO ls) → Sx P K (joinS s (.ops all l) s.ks h g vs n' Y') ρ' Q) : Sx P K s ρ Q := by
  intro F hF n b hB Qw hQ σ a w hA
  have hplt := plt_ok hA hpl
  have hbn := hA.aw.nx1
  have claim : ∀ (a : Act) (w : World), HeadAt K b (lcOf s ρ h 1) a w → wpListIn F n P all (after F n P Qw s.ks) l a w := by
    intro a w hh
    obtain ⟨σ', ds, vs, n', Y', xs, υ, ρ2, hag, hag1, hAt, hΨ, hin, hmu⟩ := hh.into (c := .ops all l) (ks := s.ks) hok hplt hbn (body fun t => a.tmps.getD t undef)
    exact (hΨ hin) F hF n (b.at σ' s.m.nx) hB Qw (QOk.low hbn hag1 hQ) υ a w hAt
  rw [hc]
  show wpListIn F n P all (after F n P Qw s.ks) (o :: l) a w
  have hrun := run F hF n (b.at σ s.m.nx) hB ⟨Qw.q, fun i => if i = j then (fun a w => wpListIn F n P all (after F n P Qw s.ks) l a w) else Qw.Λ i, Qw.np⟩ (QOk.at hbn hA.aw.agree1 hQ j _ _ (link_ok hA hpl σ _ fun i y hi => by
    rcases (kill_ok hA h.ods i y hi).2 with h3 | rfl
    · exact hA.aw.ag i y h3
    · trivial) claim) σ a w hA.at
  have haf : after F n P ⟨Qw.q, fun i => if i = j then (fun a w => wpListIn F n P all (after F n P Qw s.ks) l a w) else Qw.Λ i, Qw.np⟩ s.ks = after F n P Qw s.ks := after_fresh (fun i hi => if_neg hi) s.ks hj
  have hden : wpListIn F n P all (Exit.then (if j = j then (fun a w => wpListIn F n P all (after F n P Qw s.ks) l a w) else Qw.Λ j) (after F n P ⟨Qw.q, fun i => if i = j then (fun a w => wpListIn F n P all (after F n P Qw s.ks) l a w) else Qw.Λ i, Qw.np⟩ s.ks)) [o] a w := hrun
  rw [if_pos rfl, haf] at hden
  exact list_join hden
/-- PATHS MEET behind a code -/
theorem sx_joinC {c : Code} {j : Nat} {h : Hint} (hc : s.cur = .code c) (hj : freshK j s.ks = true) (hok : okH h = true) (hpl : atB s.Y s.m.nx h.ods = true)
    (run : Sx P K ⟨.code c, .loop .skip (some j) :: s.ks, s.tm, s.m, s.Y, s.nt, s.key⟩ ρ ⟨Q.q, (j, lcOf s ρ h 1) :: dropJ j Q.L⟩)
    (body : ∀ g, allV h.rks s.m.nx (killO s.m.S s.tm s.Y h.ods) ρ fun ds vs n' Y' ρ' => allO h.ods n' ρ' fun ls ρ' => h.inv ρ (ds ++ datO ls) → Sx P K (joinS s (.exit .normal) s.ks h g vs n' Y') ρ' Q) : Sx P K s ρ Q := by
  intro F hF n b hB Qw hQ σ a w hA
  have hplt := plt_ok hA hpl
  have hbn := hA.aw.nx1
  have claim : ∀ (a : Act) (w : World), HeadAt K b (lcOf s ρ h 1) a w → after F n P Qw s.ks .normal a w := by
    intro a w hh
    obtain ⟨σ', ds, vs, n', Y', xs, υ, ρ2, hag, hag1, hAt, hΨ, hin, hmu⟩ := hh.into (c := .exit .normal) (ks := s.ks) hok hplt hbn (body fun t => a.tmps.getD t undef)
    exact (hΨ hin) F hF n (b.at σ' s.m.nx) hB Qw (QOk.low hbn hag1 hQ) υ a w hAt
  rw [hc]
  show c.wpIn F n P (after F n P Qw s.ks) a w
  have hrun := run F hF n (b.at σ s.m.nx) hB ⟨Qw.q, fun i => if i = j then (fun a w => after F n P Qw s.ks .normal a w) else Qw.Λ i, Qw.np⟩ (QOk.at hbn hA.aw.agree1 hQ j _ _ (link_ok hA hpl σ _ fun i y hi => by
    rcases (kill_ok hA h.ods i y hi).2 with h3 | rfl
    · exact hA.aw.ag i y h3
    · trivial) claim) σ a w hA.at
  have haf : after F n P ⟨Qw.q, fun i => if i = j then (fun a w => after F n P Qw s.ks .normal a w) else Qw.Λ i, Qw.np⟩ s.ks = after F n P Qw s.ks := after_fresh (fun i hi => if_neg hi) s.ks hj
  have hden : c.wpIn F n P (Exit.then (if j = j then (fun a w => after F n P Qw s.ks .normal a w) else Qw.Λ j) (after F n P ⟨Qw.q, fun i => if i = j then (fun a w => after F n P Qw s.ks .normal a w) else Qw.Λ i, Qw.np⟩ s.ks)) a w := hrun
  rw [if_pos rfl, haf] at hden
  exact wpIn_monoQ hden fun e a w he => by cases e <;> exact he
end
end Go.Vc

/- States told in full, so that what comes later is found faster. -/
namespace Go.Vc
noncomputable def fcN (n : Nat) (k : Nat → Prop) : Prop := (Nat.rec (k 0) (fun m _ => k (Nat.succ m)) n : Prop)
theorem fcN_eq (n : Nat) (k : Nat → Prop) : fcN n k = k n := by cases n <;> rfl
noncomputable def fcC (c : C) (k : C → Prop) : Prop := match c with
  | .raw v => k (.raw v)
  | .ptr r o => fcN r fun r => fcN o fun o => k (.ptr r o)
  | .sl r o n z cap => fcN r fun r => fcN o fun o => fcN n fun n => fcN z fun z => k (.sl r o n z cap)
  | .em r p o z => k (.em r p o z)
  | .clo i => fcN i fun i => k (.clo i)
  | .ifc t i => fcN i fun i => k (.ifc t i)
  | .mp r => k (.mp r)
  | .fz i => fcN i fun i => k (.fz i)
  | .fp i o => fcN i fun i => fcN o fun o => k (.fp i o)
  | .sb i => fcN i fun i => k (.sb i)
  | .si q i => fcN i fun i => k (.si q i)
  | .ss i => fcN i fun i => k (.ss i)
theorem fcC_eq (c : C) (k : C → Prop) : fcC c k = k c := by cases c <;> simp [fcC, fcN_eq]
noncomputable def fcL {α : Type} (f : α → (α → Prop) → Prop) : List α → (List α → Prop) → Prop
  | [], k => k []
  | x :: l, k => f x fun x => fcL f l fun l => k (x :: l)
theorem fcL_eq {α : Type} {f : α → (α → Prop) → Prop} (hf : ∀ x k, f x k = k x) : ∀ (l : List α) (k : List α → Prop), fcL f l k = k l
  | [], k => rfl
  | x :: l, k => by unfold fcL; rw [hf, fcL_eq hf l]
noncomputable def fcV (x : V) (k : V → Prop) : Prop := match x with
  | .c c => fcC c fun c => k (.c c)
  | .a cs => fcL fcC cs fun cs => k (.a cs)
theorem fcV_eq (x : V) (k : V → Prop) : fcV x k = k x := by cases x <;> simp [fcV, fcC_eq, fcL_eq fcC_eq]
noncomputable def fcW (x : W) (k : W → Prop) : Prop := match x with
  | .v x => fcV x fun x => k (.v x)
  | .t l => fcL fcV l fun l => k (.t l)
theorem fcW_eq (x : W) (k : W → Prop) : fcW x k = k x := by cases x <;> simp [fcW, fcV_eq, fcL_eq fcV_eq]
noncomputable def fcP (p : Nat × W) (k : Nat × W → Prop) : Prop := fcN p.1 fun a => fcW p.2 fun b => k (a, b)
theorem fcP_eq (p : Nat × W) (k : Nat × W → Prop) : fcP p k = k p := by unfold fcP; rw [fcN_eq, fcW_eq]
noncomputable def fcO {α : Type} (f : α → (α → Prop) → Prop) (o : Option α) (k : Option α → Prop) : Prop := match o with
  | none => k none
  | some x => f x fun x => k (some x)
theorem fcO_eq {α : Type} {f : α → (α → Prop) → Prop} (hf : ∀ x k, f x k = k x) (o : Option α) (k : Option α → Prop) : fcO f o k = k o := by cases o <;> simp [fcO, hf]
noncomputable def fcT {α : Type} (f : α → (α → Prop) → Prop) : T α → (T α → Prop) → Prop
  | .e, k => k .e
  | .n l v r, k => fcO f v fun v => fcT f l fun l => fcT f r fun r => k (.n l v r)
theorem fcT_eq {α : Type} {f : α → (α → Prop) → Prop} (hf : ∀ x k, f x k = k x) : ∀ (t : T α) (k : T α → Prop), fcT f t k = k t
  | .e, k => rfl
  | .n l v r, k => by unfold fcT; rw [fcO_eq hf, fcT_eq hf l, fcT_eq hf r]
noncomputable def fcY (y : YRow) (k : YRow → Prop) : Prop := match y with
  | .fz o c j => fcN c fun c => fcN j fun j => k (.fz o c j)
  | .fp o cs => fcL fcC cs fun cs => k (.fp o cs)
  | .od e z o j => fcN e fun e => fcN z fun z => fcN j fun j => k (.od e z o j)
  | .ep i x z => fcN i fun i => fcN x fun x => fcN z fun z => k (.ep i x z)
  | .ov i x z => fcN i fun i => fcN x fun x => fcN z fun z => k (.ov i x z)
  | y => k y
theorem fcY_eq (y : YRow) (k : YRow → Prop) : fcY y k = k y := by cases y <;> simp [fcY, fcN_eq, fcL_eq fcC_eq]
noncomputable def fcR (r : Row) (k : Row → Prop) : Prop := match r with
  | .cells e q cs => fcN q fun q => fcT fcC cs fun cs => k (.cells e q cs)
  | .fn f a b => fcL fcW a fun a => fcL fcW b fun b => k (.fn f a b)
  | .val x => fcV x fun x => k (.val x)
  | r => k r
theorem fcR_eq (r : Row) (k : Row → Prop) : fcR r k = k r := by cases r <;> simp [fcR, fcN_eq, fcT_eq fcC_eq, fcL_eq fcW_eq, fcV_eq]
/-- a state told in full -/
noncomputable def fcS (s : St) (k : St → Prop) : Prop := fcN s.m.nx fun nx => fcT fcY s.Y fun Y => fcT fcR s.m.S fun S => fcL fcP s.tm.l fun l => k ⟨s.cur, s.ks, ⟨l, s.tm.g⟩, ⟨S, nx, s.m.lo⟩, Y, s.nt, s.key⟩
theorem fcS_eq (s : St) (k : St → Prop) : fcS s k = k s := by
  unfold fcS
  rw [fcN_eq, fcT_eq fcY_eq, fcT_eq fcR_eq, fcL_eq fcP_eq]
end Go.Vc

/- A REGION THAT DRAWS: the law. -/
namespace Go.Vc
/-- undone ones below n -/
def cntY (D : Nat → Bool) : Nat → Nat
  | 0 => 0
  | k + 1 => cntY D k + if D k = true then 0 else 1
theorem cntY_zero {D : Nat → Bool} : ∀ {N : Nat}, cntY D N = 0 → ∀ k, k < N → D k = true
  | N + 1, h, k, hk => by
    unfold cntY at h
    by_cases hd : D N = true
    · rcases Nat.lt_or_ge k N with hl | hg
      · exact cntY_zero (by omega) k hl
      · rw [show k = N by omega]; exact hd
    · rw [if_neg hd] at h; omega
theorem cntY_congr {D D' : Nat → Bool} : ∀ {N : Nat}, (∀ k, k < N → D k = D' k) → cntY D N = cntY D' N
  | 0, _ => rfl
  | N + 1, h => by unfold cntY; rw [h N (Nat.lt_succ_self _), cntY_congr fun k hk => h k (Nat.lt_succ_of_lt hk)]
theorem cntY_set {D D' : Nat → Bool} {j : Nat} (hn : D j = false) : ∀ {N : Nat}, j < N → (∀ k, k < N → D' k = (D k || decide (k = j))) → cntY D' N + 1 = cntY D N
  | N + 1, hj, h => by
    unfold cntY
    by_cases he : j = N
    · subst he
      rw [h j hj, hn]
      have : cntY D' j = cntY D j := cntY_congr fun k hk => by rw [h k (by omega)]; simp; omega
      simp
      omega
    · have := cntY_set hn (show j < N by omega) fun k hk => h k (Nat.lt_succ_of_lt hk)
      rw [h N (Nat.lt_succ_self _)]
      have hx : decide (N = j) = false := by simp; omega
      rw [hx, Bool.or_false]
      omega
theorem cntY_le (D : Nat → Bool) : ∀ N, cntY D N ≤ N
  | 0 => Nat.le_refl _
  | N + 1 => by
    unfold cntY
    have := cntY_le D N
    split <;> omega
section
variable {H : Holes} {P : Program} {K : Nat → Option (List Value)} {b : Bs} {nt p : Nat} {ops : Array Oper} {o : Nat → Oper} {nx : Nat → Nat} {S : T Row} {Y : T YRow} {ρ : Nat → Rho} {tm : Nat → Tm} {did : Nat → Bool} {x : Nat → W} {V V' : Nat → T Row} {U U' : Nat → T YRow} {vis : Nat → Nat → Prop} {tv : Nat → Tm} {m0 : Mem} {Y0 : T YRow} {G0 : Nat → Prop} {σ0 : Env} {w0 : World} {a0 : Act} {tm0 : Tm} {F : Fence} {n lo : Nat} {Q : Exit → Act → World → Prop}
theorem draw_go (hF : WF F) (B : BegY H K b nx S Y ρ m0 Y0 G0 σ0 w0) (h : RunY P K nt ops p o nx S Y ρ tm did x V V' U U' vis tv) (hn : NamesY ops p o nx tm did tv) (h0 : tm 0 = tm0) (he : EdgesY ops p)
    (hQ : ∀ σ a w, @Aw H K b ⟨S, nx p, lo⟩ Y (ρ p) σ w → @TmOk H σ (nx p) a.tmps (tm p) → a.tmps.size = nt → a.defers = a0.defers → Goes w0 w → (∀ g, g < w0.heap.size → w.heap[g]? = w0.heap[g]?) → drawAt F n P ops p Q a w) :
    ∀ (fuel : Nat) (listed : Array Bool) (G : Nat → Prop) (σ : Env) (a : Act) (w : World), listed.size = ops.size → (∀ j oj, ops[j]? = some oj → listed.getD j false = true → ∀ e ∈ oj.after, Region.binds .any e = true → listed.getD e.on false = true) → (∀ k, p ≤ k → listed.getD k false = false) →
      cntY (fun k => listed.getD k false) p + (ops.size - p) ≤ fuel → InvY H K b nt p o nx S Y ρ tm0 x G0 σ0 a0 w0 (fun k => listed.getD k false) G σ a w → wpAnyIn F n P .any ops Q fuel listed a w := by
  have hle := he.le
  have fin : ∀ (fuel : Nat) (listed : Array Bool) (G : Nat → Prop) (σ : Env) (a : Act) (w : World), listed.size = ops.size → (∀ k, p ≤ k → listed.getD k false = false) → ops.size ≤ fuel + p → (∀ k, k < p → listed.getD k false = true) → InvY H K b nt p o nx S Y ρ tm0 x G0 σ0 a0 w0 (fun k => listed.getD k false) G σ a w → wpAnyIn F n P .any ops Q fuel listed a w := fun fuel listed G σ a w hs hhi hf hall inv => by
    obtain ⟨k1, k2⟩ := inv_end (lo := lo) B h h0 inv hall
    refine hQ σ a w k1 k2 inv.size inv.dfr inv.goes inv.heap fuel listed hs (fun k => ?_) hf
    rcases Nat.lt_or_ge k p with h1 | h1
    · rw [hall k h1]; simp [h1]
    · rw [hhi k h1]; simp; omega
  intro fuel
  induction fuel with
  | zero =>
    intro listed G σ a w hsz hc hhi hcnt inv
    exact fin 0 listed G σ a w hsz hhi (by omega) (cntY_zero (D := fun k => listed.getD k false) (by omega)) inv
  | succ fuel ih =>
    intro listed G σ a w hsz hc hhi hcnt inv
    by_cases hz : cntY (fun k => listed.getD k false) p = 0
    · exact fin (fuel + 1) listed G σ a w hsz hhi (by omega) (cntY_zero (D := fun k => listed.getD k false) hz) inv
    refine ⟨fun hnil => ?_, fun j hj => ?_⟩
    · exfalso
      apply hz
      have := none_ready he hsz hnil
      have key : ∀ q, q ≤ p → cntY (fun k => listed.getD k false) q = 0 := fun q => by
        induction q with
        | zero => exact fun _ => rfl
        | succ q ihq =>
          intro hq
          unfold cntY
          rw [ihq (by omega), if_pos (this q (by omega))]
      exact key p (Nat.le_refl p)
    · obtain ⟨g1, oo, g2, g3⟩ := mem_ready.1 hj
      have hjl := (Array.getElem?_eq_some_iff.1 g2).1
      have hnot : (fun k => listed.getD k false) j = false := getD_both g1
      have hready : ∀ k, Wt ops j k → (fun k => listed.getD k false) k = true := fun k hk => wt_ready (D := fun k => listed.getD k false) hc (fun oj hoj => by
        have : oj = oo := Option.some.inj (hoj.symm.trans g2)
        subst this
        exact g3) hk
      have hcl : ∀ k q, (fun k => listed.getD k false) k = true → Wt ops k q → (fun k => listed.getD k false) q = true := fun k q hk hq => wt_closed (D := fun k => listed.getD k false) hc hk hq
      have hjp : j < p := by
        rcases Nat.lt_or_ge j p with h1 | h1
        · exact h1
        · exfalso
          apply hz
          have key : ∀ q, q ≤ p → cntY (fun k => listed.getD k false) q = 0 := fun q => by
            induction q with
            | zero => exact fun _ => rfl
            | succ q ihq =>
              intro hq
              unfold cntY
              rw [ihq (by omega), if_pos (hready q (he.cut j h1 hjl q (by omega)))]
          exact key p (Nat.le_refl p)
      have hos : o j = oo := Option.some.inj ((h.op j hjp).symm.trans g2)
      subst hos
      have hD' : ∀ k, k < p → (fun k => (listed.setIfInBounds j true).getD k false) k = ((fun k => listed.getD k false) k || decide (k = j)) := fun k _ => set_getD (by rw [hsz]; exact hjl) k
      have hc' : ∀ i oi, ops[i]? = some oi → (listed.setIfInBounds j true).getD i false = true → ∀ e ∈ oi.after, Region.binds .any e = true → (listed.setIfInBounds j true).getD e.on false = true := fun i oi hi hl e hee hb' => by
        by_cases hij : j = i
        · subst hij
          have : oi = o j := Option.some.inj (hi.symm.trans g2)
          subst this
          exact getD_set_true (g3 e hee hb')
        · rw [getD_set_ne false hij] at hl
          exact getD_set_true (hc i oi hi hl e hee hb')
      have hhi' : ∀ k, p ≤ k → (listed.setIfInBounds j true).getD k false = false := fun k hk => by
        rw [getD_set_ne false (by omega)]; exact hhi k hk
      have hcnt' : cntY (fun k => (listed.setIfInBounds j true).getD k false) p + (ops.size - p) ≤ fuel := by
        have := cntY_set (D := fun k => listed.getD k false) (D' := fun k => (listed.setIfInBounds j true).getD k false) hnot hjp hD'
        omega
      have htm : ∀ t, (tmY o x (fun k => (listed.setIfInBounds j true).getD k false) tm0 p).get t = if (o j).dst = some t then x j else (tmY o x (fun k => listed.getD k false) tm0 p).get t := tmY_next hn hjp hnot hcl hD'
      have hput : ∀ d, (o j).dst = some d → d < nt := fun d hd => (h.put j hjp d hd).1
      have go : ∀ G' σ' a' w', InvY H K b nt p o nx S Y ρ tm0 x G0 σ0 a0 w0 (fun k => (listed.setIfInBounds j true).getD k false) G' σ' a' w' → wpAnyIn F n P .any ops Q fuel (listed.setIfInBounds j true) a' w' := fun G' σ' a' w' inv' => ih _ G' σ' a' w' (by simp [hsz]) hc' hhi' hcnt' inv'
      have hT := actY_tm h hn h0 hjp hnot hready hcl inv
      have hw : Region.wanted (o j) (yielded ops a.tmps) = did j := by
        rw [actY_want inv.size, @want_ok (belowY (holY H nx p fun k => listed.getD k false) (nx j)) σ ⟨.e, nx j, nx j⟩ _ _ hT ops (o j) (hn.want j hjp).1, (hn.want j hjp).2]
      unfold wpOpIn
      rw [g2]
      simp only
      rw [hw]
      cases hd : did j with
      | false =>
        simp only [Bool.false_eq_true, if_false]
        exact ⟨fun f _ => hF.fn f, go _ _ _ _ (inv_skip h inv hjp hd hD' hput htm)⟩
      | true =>
        simp only [if_true]
        obtain ⟨hnd, hns⟩ := hn.op j hjp hd
        refine und_in hF hnd ?_
        rw [execOp_congr (o j) hns (fun y hy => actY_eval (l := namesY ops (o j)) inv.size y (fun t ht => by subst ht; exact namesY_op hy))]
        obtain ⟨hA, hY⟩ := see_now B h inv hjp ⟨hnot, hready⟩
        refine h.run j hjp hd (belowY (holY H nx p fun k => listed.getD k false) (nx j)) F hF b.own G σ _ w _ hA hY hT fun τ w' G' q1 q2 q3 q4 q5 q6 q7 q8 q9 => ?_
        exact go _ _ _ _ (inv_did B h inv hjp hnot hd hD' hput htm q1 q2 q3 q4 q5 q6 q7 q8 q9)
end
section
variable [H : Holes] {P : Program} {K : Nat → Option (List Value)} {s : St} {ρ : Rho} {Q : Post}
/-- into a region that draws -/
theorem sx_enterD (hm : P.follows .mixedOrders = true) {id : Nat} {ops : Array Oper} (hc : s.cur = .code (.region id ops true)) (k : Sx P K ⟨.draw ops 0, s.ks, s.tm, s.m, s.Y, s.nt, s.key⟩ ρ Q) : Sx P K s ρ Q := by
  intro F hF n b hB Qw hQ σ a w hA
  rw [hc]
  refine wpIn_region_any hm ?_
  have hA1 := hA.step (step_grow (w1 := { w with drawn := w.drawn + 1 }) hA.aw.rel ⟨rfl, rfl, rfl, Nat.le_refl _⟩ (fun _ _ => rfl)) (hA.tm.agree (Agree.refl _ _) (Nat.le_refl _)) hA.nt rfl (.draw ops 0) s.ks
  exact k F hF n b hB Qw hQ σ a _ hA1 ops.size _ (by simp) (fun k => by rw [getD_replicate_false]; simp) (by omega)
/-- out of it -/
theorem sx_endD {ops : Array Oper} {r : Nat} (hc : s.cur = .draw ops r) (hr : r = ops.size) (k : Sx P K ⟨.exit .normal, s.ks, s.tm, s.m, s.Y, s.nt, s.key⟩ ρ Q) : Sx P K s ρ Q :=
  sx_by k rfl rfl rfl rfl fun F n Qw a w h => by rw [hc]; exact drawAt_end hr h
/-- one operation that all others wait for -/
theorem sx_lineD {ops : Array Oper} {r : Nat} {o : Oper} (hc : s.cur = .draw ops r) (hback : ∀ (j : Nat) (o : Oper), ops[j]? = some o → ∀ e ∈ o.after, Region.binds .any e = true → e.on < j) (hcut : ∀ j, r < j → j < ops.size → Wt ops j r) (ho : ops[r]? = some o) (k : Sx P K ⟨.ops ops [o], .draw ops (r + 1) :: s.ks, s.tm, s.m, s.Y, s.nt, s.key⟩ ρ Q) : Sx P K s ρ Q :=
  sx_by k rfl rfl rfl rfl fun F n Qw a w h => by rw [hc]; exact line_go hback hcut ho h
/-- those that are done are done again -/
theorem sx_idsD {ops : Array Oper} {r : Nat} (hc : s.cur = .draw ops r) (hr : r ≤ ops.size) (hback : ∀ (j : Nat) (o : Oper), ops[j]? = some o → ∀ e ∈ o.after, Region.binds .any e = true → e.on < j) (k : Sx P K ⟨.draw (idA ops r) 0, s.ks, s.tm, s.m, s.Y, s.nt, s.key⟩ ρ Q) : Sx P K s ρ Q :=
  sx_by k rfl rfl rfl rfl fun F n Qw a w h => by rw [hc]; exact ids_go hr hback h
/-- A REGION THAT DRAWS -/
theorem sx_draw {p : Nat} {ops : Array Oper} {o : Nat → Oper} {nx : Nat → Nat} {S : T Row} {Y : T YRow} {ρs : Nat → Rho} {tm : Nat → Tm} {did : Nat → Bool} {x : Nat → W} {V V' : Nat → T Row} {U U' : Nat → T YRow} {vis : Nat → Nat → Prop} {tv : Nat → Tm} {lo : Nat}
    (hc : s.cur = .draw ops 0) (h : (∀ i r, s.m.S.get i = some r → i < s.m.nx) → (∀ i y, s.Y.get i = some y → i < s.m.nx) → RunY P K s.nt ops p o nx S Y ρs tm did x V V' U U' vis tv) (hn : NamesY ops p o nx tm did tv) (he : EdgesY ops p) (h0 : tm 0 = s.tm) (hnx : nx 0 = s.m.nx) (hρ : ρs 0 = ρ) (hS : ∀ i, i < nx 0 → S.get i = s.m.S.get i) (hY : ∀ i, i < nx 0 → Y.get i = s.Y.get i)
    (k : Sx P K ⟨.draw ops p, s.ks, tm p, ⟨S, nx p, lo⟩, Y, s.nt, s.key⟩ (ρs p) Q) : Sx P K s ρ Q := by
  intro F hF n b hB Qw hQ σ a w hA
  rw [hc]
  intro fuel listed hs hl hf
  obtain ⟨G0, hG0⟩ := hA.aw.y
  subst hρ
  have h := h (fun i r hr => (hA.aw.rel.lt i r hr).lt) (fun i y hy => (hG0.row i y hy).1.lt)
  have hBg : BegY H K b nx S Y ρs s.m s.Y G0 σ w := ⟨hA.aw, hG0, hnx.symm, hS, hY⟩
  have hle := he.le
  have hl0 : ∀ k, listed.getD k false = false := fun k => by rw [hl k]; simp
  refine draw_go (lo := lo) (tm0 := s.tm) hF hBg h hn h0 he (fun σ' a' w' k1 k2 k3 k4 k5 k6 => ?_) fuel listed G0 σ a _ hs (fun j oj _ hl' => by rw [hl0] at hl'; cases hl') (fun k _ => hl0 k) ?_ (inv_start hBg h (fun k _ => hl0 k) (by rw [hnx]; exact hA.tm) hA.nt)
  · obtain ⟨rs, q1, q2, q3⟩ := hA.mks
    exact k F hF n b ‹_› Qw hQ σ' a' w' ⟨k1, k2, k3, ⟨rs, by rw [k4]; exact q1, q2, fun r hr => ⟨(q3 r hr).1, by rw [k6 r (heap_lt (q3 r hr).2)]; exact (q3 r hr).2⟩⟩⟩
  · have := cntY_le (fun k => listed.getD k false) p
    omega
end
end Go.Vc

/- An operation that looks at no world, taken first. -/
namespace Go.Vc
section
variable {F : Fence} {n : Nat} {P : Program} {ops : Array Oper} {Q : Exit → Act → World → Prop}
/-- what j may not do, if i is taken ahead of it -/
def Apart (ops : Array Oper) (oi oj : Oper) : Prop := ∀ d, oi.dst = some d → ¬ d ∈ namesY ops oj ∧ oj.dst ≠ some d ∧ ∀ e, oj.dst = some e → ¬ e ∈ namesY ops oi
/-- it yields v, in whatever world -/
structure PureAt (F : Fence) (P : Program) (ops : Array Oper) (o : Oper) (v : Value) (a : Act) : Prop where
  run : ∀ w, (o.semAt F.round a.eval).run P w = .ok (.value v) w
  want : Region.wanted o (yielded ops a.tmps) = true
theorem put_getD (a : Act) (d : Option Tmp) (v : Value) (t : Tmp) (h : d ≠ some t) : (a.put d v).tmps[t]? = a.tmps[t]? := by
  cases d with
  | none => rfl
  | some d =>
    show (a.tmps.setIfInBounds d v)[t]? = a.tmps[t]?
    rw [Array.getElem?_setIfInBounds_ne]
    exact fun e => h (by rw [e])
theorem put_eval (a : Act) (d : Option Tmp) (v : Value) (y : Operand) (h : ∀ t, y = .tmp t → d ≠ some t) : (a.put d v).eval y = a.eval y := by
  cases y with
  | tmp t =>
    show (a.put d v).tmps.getD t undef = a.tmps.getD t undef
    rw [Array.getD_eq_getD_getElem?, Array.getD_eq_getD_getElem?, put_getD a d v t (h t rfl)]
  | _ => rfl
theorem put_want (a : Act) (d : Option Tmp) (v : Value) (o : Oper) (h : ∀ t, d = some t → ¬ t ∈ namesY ops o) : Region.wanted o (yielded ops (a.put d v).tmps) = Region.wanted o (yielded ops a.tmps) := by
  unfold Region.wanted
  cases hg : o.guard with
  | none => rfl
  | some g =>
    obtain ⟨j, b⟩ := g
    simp only
    unfold yielded
    cases hd : (ops[j]?).bind (·.dst) with
    | none => rfl
    | some t =>
      simp only [Option.bind_some]
      rw [put_getD a d v t fun e => h t e (namesY_guard hg hd)]
theorem put_comm (a : Act) (d e : Option Tmp) (u v : Value) (h : ∀ t, d = some t → e ≠ some t) : (a.put d u).put e v = (a.put e v).put d u := by
  cases d with
  | none => cases e <;> rfl
  | some d =>
    cases e with
    | none => rfl
    | some e =>
      show ({ a with tmps := (a.tmps.setIfInBounds d u).setIfInBounds e v } : Act) = { a with tmps := (a.tmps.setIfInBounds e v).setIfInBounds d u }
      rw [Array.setIfInBounds_comm]
      exact fun he => h d rfl (by rw [he])
theorem semAt_put {o : Oper} (hnd : ∀ c, o.op ≠ .defer c) (hns : ∀ cs b, o.op ≠ .select cs b) (a : Act) (d : Option Tmp) (v : Value) (h : ∀ t, d = some t → ¬ t ∈ namesY ops o) : o.semAt F.round (a.put d v).eval = o.semAt F.round a.eval := by
  have key : ∀ ρ, o.semAt F.round ρ = execOp ρ o := fun ρ => by
    unfold Oper.semAt
    cases F.round with
    | none => rfl
    | some l =>
      cases hop : o.op with
      | defer c => exact absurd hop (hnd c)
      | _ => rfl
  rw [key, key]
  exact execOp_congr o hns fun y hy => put_eval a d v y fun t ht e => h t e (by subst ht; exact namesY_op hy)
theorem about_put' (o : Oper) (w : World) (a : Act) (d : Option Tmp) (v : Value) (h : ∀ t, d = some t → ¬ t ∈ namesY ops o) : o.about P w (a.put d v).eval = o.about P w a.eval :=
  about_congr o w fun y hy => put_eval a d v y fun t ht e => h t e (by subst ht; exact namesY_op hy)
theorem PureAt.put {o : Oper} {v : Value} {a : Act} (h : PureAt F P ops o v a) (hnd : ∀ c, o.op ≠ .defer c) (hns : ∀ cs b, o.op ≠ .select cs b) {e : Option Tmp} {u : Value} (he : ∀ t, e = some t → ¬ t ∈ namesY ops o) : PureAt F P ops o v (a.put e u) :=
  ⟨fun w => by rw [semAt_put hnd hns a e u he]; exact h.run w, by rw [put_want a e u o he]; exact h.want⟩
/-- TAKEN FIRST -/
theorem take_go {i : Nat} {oi : Oper} {v : Value} (hi : ops[i]? = some oi) (hnp : ∀ c a w, ¬ Q (.panic c) a w) (hall : ∀ (j : Nat) (oj : Oper), ops[j]? = some oj → (∀ c, oj.op ≠ .defer c) ∧ ∀ cs b, oj.op ≠ .select cs b) (hdst : oi.dst ≠ none) (hFn : ∀ f, F.fn f) :
    ∀ (fuel : Nat) (listed : Array Bool) (a : Act) (w : World), listed.size = ops.size → i ∈ Region.ready .any ops listed → 
      (∀ L : Array Bool, L.getD i false = false → (∀ k, listed.getD k false = true → L.getD k false = true) → ∀ j oj, ops[j]? = some oj → j ≠ i → j ∈ Region.ready .any ops L → Apart ops oi oj) → PureAt F P ops oi v a → wpAnyIn F n P .any ops Q fuel (listed.setIfInBounds i true) (a.put oi.dst v) w → wpAnyIn F n P .any ops Q (fuel + 1) listed a w := by
  intro fuel
  have hio := hall i oi hi
  have first : ∀ (K : Act → World → Prop) (a : Act) (w : World), PureAt F P ops oi v a → K (a.put oi.dst v) w → wpOpIn F n P ops Q i K a w := fun K a w hp hk => by
    unfold wpOpIn
    rw [hi]
    simp only
    rw [if_pos hp.want]
    refine ⟨fun f _ => hFn f, ?_⟩
    rw [hp.run w]
    exact hk
  induction fuel with
  | zero =>
    intro listed a w hs hr hap hp H
    refine ⟨fun h => absurd hr (by rw [h]; exact fun h => by cases h), fun j hj => ?_⟩
    by_cases hji : j = i
    · subst hji; exact first _ a w hp H
    · exfalso
      obtain ⟨g1, oj, g2, g3⟩ := mem_ready.1 hj
      have : j ∈ Region.ready .any ops (listed.setIfInBounds i true) := mem_ready.2 ⟨by rw [getD_set_ne true (Ne.symm hji)]; exact g1, oj, g2, fun e he hb => getD_set_true (g3 e he hb)⟩
      rw [H.1] at this
      cases this
  | succ fuel ih =>
    intro listed a w hs hr hap hp H
    refine ⟨fun h => absurd hr (by rw [h]; exact fun h => by cases h), fun j hj => ?_⟩
    by_cases hji : j = i
    · subst hji; exact first _ a w hp H
    · obtain ⟨g1, oj, g2, g3⟩ := mem_ready.1 hj
      have hiun : listed.getD i false = false := getD_both (mem_ready.1 hr).1
      have hj2 : j ∈ Region.ready .any ops (listed.setIfInBounds i true) := mem_ready.2 ⟨by rw [getD_set_ne true (Ne.symm hji)]; exact g1, oj, g2, fun e he hb => getD_set_true (g3 e he hb)⟩
      have h1 := H.2 j hj2
      have hA := hap listed hiun (fun _ h => h) j oj g2 hji hj
      have hn1 : ∀ t, oi.dst = some t → ¬ t ∈ namesY ops oj := fun t ht => (hA t ht).1
      obtain ⟨d, hd⟩ : ∃ d, oi.dst = some d := by
        cases hq : oi.dst with
        | none => exact absurd hq hdst
        | some d => exact ⟨d, rfl⟩
      have hn2 : ∀ t, oi.dst = some t → oj.dst ≠ some t := fun t ht => (hA t ht).2.1
      have hn3 : ∀ t, oj.dst = some t → ¬ t ∈ namesY ops oi := fun t ht => (hA d hd).2.2 t ht
      have hjo := hall j oj g2
      have hsz : i < ops.size := (Array.getElem?_eq_some_iff.1 hi).1
      have hri : i ∈ Region.ready .any ops (listed.setIfInBounds j true) := by
        obtain ⟨k1, oi', k2, k3⟩ := mem_ready.1 hr
        exact mem_ready.2 ⟨by rw [getD_set_ne true hji]; exact k1, oi', k2, fun e he hb => getD_set_true (k3 e he hb)⟩
      have go : ∀ (a : Act), PureAt F P ops oi v a → ∀ u w', wpAnyIn F n P .any ops Q fuel ((listed.setIfInBounds i true).setIfInBounds j true) ((a.put oi.dst v).put oj.dst u) w' → wpAnyIn F n P .any ops Q (fuel + 1) (listed.setIfInBounds j true) (a.put oj.dst u) w' := fun a hp u w' h2 => by
        refine ih (listed.setIfInBounds j true) _ w' (by simp [hs]) hri (fun L hL hsub k ok hk hki hkr => hap L hL (fun q hq => hsub q (getD_set_true hq)) k ok hk hki hkr) (hp.put hio.1 hio.2 hn3) ?_
        rw [Array.setIfInBounds_comm _ _ hji, put_comm a oj.dst oi.dst u v fun t ht he => hn2 t he ht]
        exact h2
      unfold wpOpIn at h1 ⊢
      rw [g2] at h1 ⊢
      simp only at h1 ⊢
      rw [put_want a oi.dst v oj hn1] at h1
      split
      · rename_i hw
        rw [if_pos hw] at h1
        obtain ⟨h3, h4⟩ := h1
        rw [about_put' oj w a oi.dst v hn1] at h3
        refine ⟨h3, ?_⟩
        rw [semAt_put hjo.1 hjo.2 a oi.dst v hn1] at h4
        revert h4
        cases hrun : (oj.semAt F.round a.eval).run P w with
        | halt x w' => cases x <;> first | exact fun h => absurd h (hnp _ _ _) | exact fun h => h.elim
        | ok x w' =>
          cases x with
          | value u => exact fun h => go a hp u w' h
          | skip => exact fun h => go a hp undef w' h
          | enter f args => exact fun h => ⟨h.1, h.2.mono fun e w2 h2 => by
              cases e with
              | returned u => exact go a hp u w2 h2
              | panicked c => exact absurd h2 (hnp _ _ _)
              | outgrown => exact h2⟩
          | round l f tmps as body => exact fun h => ⟨h.1, h.2.mono fun e w2 h2 => by
              cases e with
              | returned u => exact go a hp u w2 h2
              | panicked c => exact absurd h2 (hnp _ _ _)
              | outgrown => exact h2⟩
          | row r args => exact fun h => ⟨h.1, h.2.mono fun u w2 h2 => go a hp u w2 h2⟩
          | defer dd =>
            intro h
            refine go { a with defers := dd :: a.defers } ⟨hp.run, hp.want⟩ undef w' ?_
            have e : ({ a with defers := dd :: a.defers } : Act).put oi.dst v = { a.put oi.dst v with defers := dd :: (a.put oi.dst v).defers } := by
              rw [hd]; rfl
            rw [e]
            exact h
          | _ => exact fun h => h.elim
      · rename_i hw
        rw [if_neg hw] at h1
        obtain ⟨h3, h4⟩ := h1
        rw [about_put' oj w a oi.dst v hn1] at h3
        exact ⟨h3, go a hp undef w h4⟩
end
end Go.Vc
