/- The executor is sound: regions that draw; all of it. -/
import Derived.OrdersIn
import Derived.StillTail
import Derived.Test.YtmcchddjmobhaaaGreatDoorExG
set_option linter.unusedVariables false
set_option linter.unusedSimpArgs false
set_option linter.unusedSectionVars false
namespace Go.Ex
section
variable {σ τ : Env} {n n1 n2 : Nat} {w w1 : World}
/-- other holes, another bound -/
theorem C.lt.move {H1 H2 : Holes} {c : C} (h : @C.lt H1 n1 c) (k : ∀ q, @Lt H1 q n1 → @Lt H2 q n2) : @C.lt H2 n2 c := by
  cases c <;> first | trivial | exact k _ h
theorem V.lt.move {H1 H2 : Holes} {x : V} (h : @V.lt H1 n1 x) (k : ∀ q, @Lt H1 q n1 → @Lt H2 q n2) : @V.lt H2 n2 x := by
  cases x with
  | c x => exact C.lt.move (c := x) h k
  | a cs => exact fun x hx => C.lt.move (h x hx) k
theorem W.lt.move {H1 H2 : Holes} {x : W} (h : @W.lt H1 n1 x) (k : ∀ q, @Lt H1 q n1 → @Lt H2 q n2) : @W.lt H2 n2 x := by
  cases x with
  | v x => exact V.lt.move (x := x) h k
  | t l => exact fun x hx => V.lt.move (h x hx) k
theorem TmOk.move {H1 H2 : Holes} {tmps : Array Value} {tm : T W} (h : @TmOk H1 σ n1 tmps tm) (ag : @Agree H1 n1 σ τ) (k : ∀ q, @Lt H1 q n1 → @Lt H2 q n2) : @TmOk H2 τ n2 tmps tm :=
  let h' := @TmOk.agree H1 σ τ n1 n1 tmps tm h ag (Nat.le_refl _)
  @TmOk.mk H2 τ n2 tmps tm (@TmOk.get H1 _ _ _ _ h') (@TmOk.out H1 _ _ _ _ h') (fun t x hx => W.lt.move (@TmOk.lt H1 _ _ _ _ h' t x hx) k)
theorem RowOk.move {H1 H2 : Holes} {i : Nat} {r : Row} (h : @RowOk H1 σ n1 w i r) (ag : @Agree H1 n1 σ τ) (hi : @Lt H1 i n1) (k : ∀ q, @Lt H1 q n1 → @Lt H2 q n2) (hb : r.blk = true → w1.heap[σ.b i]? = w.heap[σ.b i]?) : @RowOk H2 τ n2 w1 i r := by
  have h' := @RowOk.keep H1 σ τ w w1 n1 n1 i r h ag hi (Nat.le_refl _) hb
  cases r with
  | cells e q cs =>
    obtain ⟨arr, h1, h2, h3, h4⟩ := h'
    refine ⟨arr, h1, h2, h3, fun j hj => ?_⟩
    obtain ⟨c, hc, hl, ha⟩ := h4 j hj
    exact ⟨c, hc, C.lt.move hl k, ha⟩
  | fn f first caps =>
    obtain ⟨h1, h2, h3⟩ := h'
    exact ⟨h1, fun x hx => W.lt.move (h2 x hx) k, fun x hx => W.lt.move (h3 x hx) k⟩
  | val x => exact ⟨h'.1, V.lt.move h'.2 k⟩
  | loop st p nt tm ps a b =>
    obtain ⟨fn, tmps, df, h1, h2, h3, h4⟩ := h'
    exact ⟨fn, tmps, df, h1, h2, TmOk.move h3 (@Agree.refl H1 n1 τ) k, h4⟩
  | dead => trivial
  | map k es c => exact h'
/-- what lies there from the one, what is named from the other -/
theorem RowOk.both {H1 H2 : Holes} {i : Nat} {r : Row} (h : @RowOk H1 τ n1 w1 i r) (k : @RowOk H2 σ n2 w i r) : @RowOk H2 τ n2 w1 i r := by
  cases r with
  | cells e q cs =>
    obtain ⟨arr, h1, h2, h3, h4⟩ := h
    obtain ⟨_, _, _, _, k4⟩ := k
    refine ⟨arr, h1, h2, h3, fun j hj => ?_⟩
    obtain ⟨c, hc, _, ha⟩ := h4 j hj
    obtain ⟨c', hc', hl', _⟩ := k4 j hj
    rw [hc] at hc'
    cases hc'
    exact ⟨c, hc, hl', ha⟩
  | fn f first caps => exact ⟨h.1, k.2.1, k.2.2⟩
  | val x => exact ⟨h.1, k.2⟩
  | loop st p nt tm ps a b =>
    obtain ⟨fn, tmps, df, h1, h2, h3, h4⟩ := h
    obtain ⟨_, _, _, _, _, k3, _⟩ := k
    exact ⟨fn, tmps, df, h1, h2, @TmOk.mk H2 _ _ _ _ (@TmOk.get H1 _ _ _ _ h3) (@TmOk.out H1 _ _ _ _ h3) (@TmOk.lt H2 _ _ _ _ k3), h4⟩
  | dead => trivial
  | map k es c => exact h
/-- what the check says -/
theorem ltC_lt {H : Holes} {x : C} (h : @C.lt H n x) (k : ltC n1 x = true) : @C.lt H n1 x := by
  cases x <;> simp only [ltC, rowOfC, List.all_cons, List.all_nil, Bool.and_true, blt_dec, decide_eq_true_iff] at k <;> first | trivial | exact ⟨k, h.ok⟩
theorem ltV_lt {H : Holes} {x : V} (h : @V.lt H n x) (k : ltV n1 x = true) : @V.lt H n1 x := by
  cases x with
  | c x => exact ltC_lt h k
  | a cs => exact fun x hx => ltC_lt (h x hx) (List.all_eq_true.1 k x hx)
theorem ltW_lt {H : Holes} {x : W} (h : @W.lt H n x) (k : ltW n1 x = true) : @W.lt H n1 x := by
  cases x with
  | v x => exact ltV_lt h k
  | t l => exact fun x hx => ltV_lt (h x hx) (List.all_eq_true.1 k x hx)
end
section
variable {P : Program} {K : Nat → Option (List Value)} {R : Rec}
theorem evs_congr {tm tm' : T W} (l : Array (Nat × Operand)) (h : ∀ x ∈ (l.toList.map (·.2)), ev tm x = ev tm' x) : evs tm l = evs tm' l := by
  unfold evs
  refine List.map_congr_left fun p hp => ?_
  obtain ⟨i, x⟩ := p
  show (i, ev tm x) = (i, ev tm' x)
  rw [h x (List.mem_map.2 ⟨(i, x), hp, rfl⟩)]
theorem map_ev_congr {tm tm' : T W} (l : Array Operand) (h : ∀ x ∈ l, ev tm x = ev tm' x) : l.toList.map (ev tm) = l.toList.map (ev tm') :=
  List.map_congr_left fun x hx => h x (by simpa using hx)
theorem opt_ev_congr {tm tm' : T W} (l : Option Operand) (h : ∀ x ∈ l.toArray, ev tm x = ev tm' x) : l.map (ev tm) = l.map (ev tm') := by
  cases l with
  | none => rfl
  | some x => simp [h x (by simp)]
theorem rawO_congr {tm tm' : T W} (l : Option Operand) (h : ∀ x ∈ l.toArray, ev tm x = ev tm' x) : rawO tm l = rawO tm' l := by
  cases l with
  | none => rfl
  | some x => simp [rawO, h x (by simp)]
/-- an operation looks at its operands only -/
theorem opW_congr {tm tm' : T W} {m : Mem} (o : Op) (ty : Nat) (h : ∀ x ∈ o.operands, ev tm x = ev tm' x) : opW P K R o ty tm m = opW P K R o ty tm' m := by
  cases o <;> simp only [opW] <;> simp only [Op.operands] at h
  case call c =>
    have hargs : c.args.toList.map (ev tm) = c.args.toList.map (ev tm') := map_ev_congr _ fun x hx => h x (by simp [Call.operands, hx])
    unfold callOp
    split <;> rename_i hc
    · rw [h _ (by simp [Call.operands, hc]), hargs]
    · rw [hargs]
    · rw [h _ (by simp [Call.operands, hc]), hargs]
  case pick c a b => simp only [pickW, h c (by simp), h a (by simp), h b (by simp)]
  case build t ps => rw [evs_congr ps fun x hx => h x (by simpa using hx)]
  case buildSlice t l ps => rw [evs_congr ps fun x hx => h x (by simpa using hx)]
  case makeFunc f a b => simp only [funcW, map_ev_congr a fun x hx => h x (by simp [hx]), map_ev_congr b fun x hx => h x (by simp [hx])]
  case slice t x l hi mx =>
    unfold sliceOp
    rw [h x (by simp), opt_ev_congr l fun y hy => h y (by simp at hy ⊢; simp [hy]), opt_ev_congr hi fun y hy => h y (by simp at hy ⊢; simp [hy]), opt_ev_congr mx fun y hy => h y (by simp at hy ⊢; simp [hy]),
      rawO_congr l fun y hy => h y (by simp at hy ⊢; simp [hy]), rawO_congr hi fun y hy => h y (by simp at hy ⊢; simp [hy])]
  all_goals first
    | rfl
    | (rename_i x; simp only [h x (by simp)]; done)
    | (rename_i x _; simp only [h x (by simp)]; done)
    | (rename_i x _ _; simp only [h x (by simp)]; done)
    | (rename_i x _ _ _; simp only [h x (by simp)]; done)
    | (rename_i x y; simp only [h x (by simp), h y (by simp)]; done)
    | (rename_i x y z; simp only [h x (by simp), h y (by simp), h z (by simp)]; done)
    | (rename_i x y z; simp only [h x (by simp), h y (by simp), h z (by simp)]; done)
    | (rename_i x y _; simp only [h x (by simp), h y (by simp)]; done)
end
end Go.Ex
namespace Go.Ex
variable [Holes]
theorem wait_closed {ops : Array Oper} {D : Nat → Bool} (hc : ∀ j oj, ops[j]? = some oj → D j = true → ∀ e ∈ oj.after, Region.binds .any e = true → D e.on = true) : ∀ (f j k : Nat), D j = true → waitB ops f j k = true → D k = true
  | 0, j, k, _, h => by cases h
  | f + 1, j, k, hj, h => by
    unfold waitB at h
    cases ho : ops[j]? with
    | none => rw [ho] at h; cases h
    | some o =>
      rw [ho] at h
      obtain ⟨e, he, hq⟩ := List.any_eq_true.1 h
      rw [Bool.and_eq_true, Bool.or_eq_true] at hq
      have hd := hc j o ho hj e (by simpa using he) hq.1
      rcases hq.2 with h1 | h1
      · rw [← Nat.eq_of_beq_eq_true h1]; exact hd
      · exact wait_closed hc f e.on k hd h1
theorem wait_ready {ops : Array Oper} {D : Nat → Bool} (hc : ∀ j oj, ops[j]? = some oj → D j = true → ∀ e ∈ oj.after, Region.binds .any e = true → D e.on = true) {j k : Nat} {o : Oper} (ho : ops[j]? = some o) (hr : ∀ e ∈ o.after, Region.binds .any e = true → D e.on = true) : ∀ (f : Nat), waitB ops f j k = true → D k = true
  | 0, h => by cases h
  | f + 1, h => by
    unfold waitB at h
    rw [ho] at h
    obtain ⟨e, he, hq⟩ := List.any_eq_true.1 h
    rw [Bool.and_eq_true, Bool.or_eq_true] at hq
    have hd := hr e (by simpa using he) hq.1
    rcases hq.2 with h1 | h1
    · rw [← Nat.eq_of_beq_eq_true h1]; exact hd
    · exact wait_closed hc f e.on k hd h1
theorem drawOk_spec {ops : Array Oper} (h : drawOk ops = true) {j : Nat} {o : Oper} (ho : ops[j]? = some o) :
    (∀ e ∈ o.after, Region.binds .any e = true → e.on < j) ∧ (∀ t ∈ namesW ops o, ∀ i p, ops[i]? = some p → p.dst = some t → i = j ∨ (i < j ∧ waitB ops ops.size j i = true) ∨ (j < i ∧ waitB ops ops.size i j = true)) ∧
      ∀ i, i < j → tagAt ops i = 3 → tagAt ops j = 3 → waitB ops ops.size j i = true := by
  unfold drawOk at h
  dsimp only at h
  have mem : ∀ i p, ops[i]? = some p → (p, i) ∈ ops.toList.zipIdx := fun i p hp => by
    rw [List.mem_zipIdx_iff_getElem?]
    simpa using hp
  have h0 := List.all_eq_true.1 h (o, j) (mem j o ho)
  dsimp only at h0
  rw [Bool.and_eq_true, Bool.and_eq_true] at h0
  obtain ⟨⟨h1, h2⟩, h3⟩ := h0
  refine ⟨fun e he hb => ?_, fun t ht i p hp hd => ?_, fun i hi ti tj => ?_⟩
  · have := List.all_eq_true.1 h1 e (by simpa using he)
    rw [hb] at this
    simpa [blt_dec] using this
  · have := List.all_eq_true.1 (List.all_eq_true.1 h2 t ht) (p, i) (mem i p hp)
    dsimp only at this
    rw [hd] at this
    simp only [beq_self_eq_true, Bool.not_true, Bool.false_or, Bool.or_eq_true, Bool.and_eq_true, beq_dec, blt_dec, decide_eq_true_iff] at this
    rcases this with (h | h) | h
    · exact .inl h
    · exact .inr (.inl h)
    · exact .inr (.inr h)
  · have := List.all_eq_true.1 h3 i (List.mem_range.2 hi)
    rw [ti, tj] at this
    simpa using this
theorem tagW_cases (o : Op) : tagW o = 1 ∨ tagW o = 2 ∨ tagW o = 3 := by
  cases o <;> simp only [tagW] <;> try simp
  split
  · split <;> simp
  · simp
section
variable {P : Program} {K : Nat → Option (List Value)} {R : Rec} {nt N : Nat} {ops : Array Oper} {tm : Nat → T W} {m : Nat → Mem} {ds : Nat → List Done} {sd : Nat → SD}
theorem RunD.nx (h : RunD P K R nt ops N tm m ds sd) {i : Nat} : ∀ {j : Nat}, i ≤ j → j ≤ N → (m i).nx ≤ (m j).nx
  | 0, hi, _ => by rw [Nat.le_zero.1 hi]; exact Nat.le_refl _
  | j + 1, hi, hj => by
    rcases Nat.lt_or_ge i (j + 1) with hl | hl
    · exact Nat.le_trans (h.nx (by omega : i ≤ j) (by omega)) (h.abs j hj).nx
    · rw [show i = j + 1 by omega]; exact Nat.le_refl _
theorem RunD.lo (h : RunD P K R nt ops N tm m ds sd) {i : Nat} : ∀ {j : Nat}, i ≤ j → j ≤ N → (m j).lo ≤ (m i).lo
  | 0, hi, _ => by rw [Nat.le_zero.1 hi]; exact Nat.le_refl _
  | j + 1, hi, hj => by
    rcases Nat.lt_or_ge i (j + 1) with hl | hl
    · exact Nat.le_trans (h.abs j hj).lo (h.lo (by omega : i ≤ j) (by omega))
    · rw [show i = j + 1 by omega]; exact Nat.le_refl _
theorem RunD.bd (h : RunD P K R nt ops N tm m ds sd) (hb : Bd (m 0)) : ∀ {j : Nat}, j ≤ N → Bd (m j)
  | 0, _ => hb
  | j + 1, hj => (h.abs j hj).bd (h.bd hb (by omega))
theorem RunD.mem (h : RunD P K R nt ops N tm m ds sd) {i : Nat} (hi : (sd i).did = true) : ∀ {j : Nat}, i < j → j ≤ N → (sd i).d ∈ ds j
  | 0, hl, _ => absurd hl (Nat.not_lt_zero _)
  | j + 1, hl, hj => by
    have hs := h.step j hj
    by_cases he : i = j
    · subst he
      rw [(hs.run hi).2.2.1]; exact List.mem_cons_self
    · have ih := h.mem hi (show i < j by omega) (by omega)
      cases hd : (sd j).did with
      | false => rw [(hs.skip hd).2.1]; exact ih
      | true => rw [(hs.run hd).2.2.1]; exact List.mem_cons_of_mem _ ih
theorem wr_iff (s : SD) (r : Nat) : s.wr r = true ↔ s.did = true ∧ hitB s.d r = true ∧ s.hid r = false := by
  unfold SD.wr
  simp [and_assoc]
/-- the rows are those of the last that turned them -/
theorem RunD.rows (h : RunD P K R nt ops N tm m ds sd) (r : Nat) : ∀ {j : Nat}, j ≤ N → (m j).S.get r = lastOf ((m 0).S.get r) (fun k => (sd k).wr r) (fun k => (sd k).mo.S.get r) j
  | 0, _ => rfl
  | j + 1, hj => by
    have ih := h.rows r (show j ≤ N by omega)
    have hs := h.step j hj
    unfold lastOf
    cases hd : (sd j).did with
    | false =>
      rw [(hs.skip hd).1, ih, if_neg]
      rw [wr_iff, hd]; simp
    | true =>
      rw [(hs.run hd).2.2.2.2.2.next r]
      by_cases hw : hitB (sd j).d r = true ∧ (sd j).hid r = false
      · rw [if_pos hw, if_pos ((wr_iff _ _).2 ⟨hd, hw⟩)]
      · rw [if_neg hw, if_neg (fun hq => hw ((wr_iff _ _).1 hq).2), ih]
/-- two of which the later does not wait for the other -/
theorem RunD.apart (h : RunD P K R nt ops ops.size tm m ds sd) (hb : Bd (m 0)) (hok : drawOk ops = true) {i j : Nat} (hi : i < j) (hj : j < ops.size) (hdi : (sd i).did = true) (hdj : (sd j).did = true) (hw : waitB ops ops.size j i = false) :
    (∀ r y, (sd j).V.get r = some y → (sd i).wr r = false) ∧ (∀ r y, (sd i).V.get r = some y → (sd j).wr r = false) ∧ ∀ r, (sd i).wr r = true → (sd j).wr r = false := by
  have si := h.step i (by omega)
  have sj := h.step j hj
  obtain ⟨i1, i2, i3, i4, i5, i6⟩ := si.run hdi
  obtain ⟨j1, j2, j3, j4, j5, j6⟩ := sj.run hdj
  have hm := h.mem hdi hi (by omega)
  have ha : apartB (sd i).d (sd j).d = true := by
    rcases j5 _ hm with h1 | h1
    · rw [i4, hw] at h1; cases h1
    · exact h1
  have key := pair_apart i6 j6 (h.nx (show i + 1 ≤ j by omega) (by omega)) (h.bd hb (by omega)) hm i4 (.inl ha) hw (fun a1 a2 a3 a4 => by
    have t1 : tagAt ops i = 3 := by unfold tagAt; rw [si.op]; rcases tagW_cases (sd i).o.op with q | q | q <;> first | exact absurd q a1 | exact absurd q a2 | exact q
    have t2 : tagAt ops j = 3 := by unfold tagAt; rw [sj.op]; rcases tagW_cases (sd j).o.op with q | q | q <;> first | exact absurd q a3 | exact absurd q a4 | exact q
    rw [(drawOk_spec hok sj.op).2.2 i hi t1 t2] at hw; cases hw)
  have nw : ∀ (s : SD) r, ¬ (hitB s.d r = true ∧ s.hid r = false) → s.wr r = false := fun s r hn => by
    cases hq : s.wr r with
    | false => rfl
    | true => exact absurd ((wr_iff s r).1 hq).2 hn
  exact ⟨fun r y hy => nw _ _ (key.1 r y hy), fun r y hy => nw _ _ (key.2.1 r y hy), fun r hr => nw _ _ (key.2.2 r ((wr_iff _ _).1 hr).2)⟩
end
end Go.Ex
namespace Go.Ex
variable [Holes]
/-- rows, bounds and temporaries by those of D only -/
noncomputable def rowD (m : Nat → Mem) (sd : Nat → SD) (N : Nat) (D : Nat → Bool) (r : Nat) : Option Row := lastOf ((m 0).S.get r) (fun k => D k && (sd k).wr r) (fun k => (sd k).mo.S.get r) N
noncomputable def bnD (m : Nat → Mem) (sd : Nat → SD) (N : Nat) (D : Nat → Bool) (r : Nat) : Nat := lastOf (m 0).nx (fun k => D k && (sd k).wr r) (fun k => (m (k + 1)).nx) N
noncomputable def tmD (tm : Nat → T W) (sd : Nat → SD) (N : Nat) (D : Nat → Bool) (t : Nat) : Option W := lastOf ((tm 0).get t) (fun k => D k && ((sd k).o.dst == some t)) (fun k => some (sd k).x) N
section
variable {P : Program} {K : Nat → Option (List Value)} {R : Rec} {nt : Nat} {ops : Array Oper} {tm : Nat → T W} {m : Nat → Mem} {ds : Nat → List Done} {sd : Nat → SD} {D D' : Nat → Bool} {j : Nat}
theorem putR_get {nt : Nat} {tm tm1 : T W} {d : Option Tmp} {x : W} {m m1 : Mem} (h : putR nt tm d (.ok x m) = .ok tm1 m1) (t : Nat) : (tm1.get t = if d = some t then some x else tm.get t) ∧ (d = some t → t < nt) := by
  cases d with
  | none => cases h; simp
  | some d =>
    have h' : (Bool.rec .no (.ok (tm.set d x) m) (Nat.blt d nt) : R2) = .ok tm1 m1 := h
    cases hb : Nat.blt d nt with
    | false => rw [hb] at h'; cases h'
    | true =>
      rw [hb] at h'
      cases h'
      rw [blt_dec, decide_eq_true_iff] at hb
      refine ⟨?_, fun e => by cases e; exact hb⟩
      rw [T.get_set]
      by_cases htd : t = d
      · subst htd; simp
      · rw [if_neg htd, if_neg (fun e => htd (by cases e; rfl))]
/-- j may run now -/
structure Now (ops : Array Oper) (D : Nat → Bool) (j : Nat) (o : Oper) : Prop where
  closed : ∀ j oj, ops[j]? = some oj → D j = true → ∀ e ∈ oj.after, Region.binds .any e = true → D e.on = true
  op : ops[j]? = some o
  not : D j = false
  ready : ∀ e ∈ o.after, Region.binds .any e = true → D e.on = true
theorem Now.lt {o : Oper} (n : Now ops D j o) : j < ops.size := (Array.getElem?_eq_some_iff.1 n.op).1
theorem Now.before {o : Oper} (n : Now ops D j o) {k : Nat} (h : D k = false) : waitB ops ops.size j k = false := by
  cases hw : waitB ops ops.size j k with
  | false => rfl
  | true => rw [wait_ready n.closed n.op n.ready _ hw] at h; cases h
theorem Now.behind {o : Oper} (n : Now ops D j o) {k : Nat} (h : D k = true) : waitB ops ops.size k j = false := by
  cases hw : waitB ops ops.size k j with
  | false => rfl
  | true =>
    have := wait_closed n.closed _ k j h hw
    rw [n.not] at this; cases this
theorem seen_iff (h : RunD P K R nt ops ops.size tm m ds sd) (hb : Bd (m 0)) (hok : drawOk ops = true) (n : Now ops D j (sd j).o) (hd : (sd j).did = true) {r : Nat} (hr : (∃ y, (sd j).V.get r = some y) ∨ (sd j).wr r = true) {k : Nat} (hk : k < ops.size) (hkj : k ≠ j) (hw : (sd k).wr r = true) : k < j ↔ D k = true := by
  have hdk := ((wr_iff _ _).1 hw).1
  constructor
  · intro hlt
    cases hD : D k with
    | true => rfl
    | false =>
      obtain ⟨p1, p2, p3⟩ := h.apart hb hok hlt n.lt hdk hd (n.before hD)
      rcases hr with ⟨y, hy⟩ | hr
      · rw [p1 r y hy] at hw; cases hw
      · rw [p3 r hw] at hr; cases hr
  · intro hD
    rcases Nat.lt_or_ge k j with hlt | hge
    · exact hlt
    · obtain ⟨p1, p2, p3⟩ := h.apart hb hok (show j < k by omega) hk hd hdk (n.behind hD)
      rcases hr with ⟨y, hy⟩ | hr
      · rw [p2 r y hy] at hw; cases hw
      · rw [p3 r hr] at hw; cases hw
/-- what counts below j is what is done -/
theorem count_seen (h : RunD P K R nt ops ops.size tm m ds sd) (hb : Bd (m 0)) (hok : drawOk ops = true) (n : Now ops D j (sd j).o) (hd : (sd j).did = true) {r : Nat} (hr : (∃ y, (sd j).V.get r = some y) ∨ (sd j).wr r = true) {α : Type} {z : α} {v : Nat → α} :
    lastOf z (fun k => D k && (sd k).wr r) v ops.size = lastOf z (fun k => (sd k).wr r) v j := by
  rw [lastOf_stop (j := j) (Nat.le_of_lt n.lt)]
  · refine lastOf_congr fun k hk => ?_
    cases hw : (sd k).wr r with
    | false => simp
    | true => rw [(seen_iff h hb hok n hd hr (by have := n.lt; omega) (by omega) hw).1 hk]; rfl
  · intro k h1 h2
    by_cases hkj : k = j
    · subst hkj; rw [n.not]; rfl
    · cases hw : (sd k).wr r with
      | false => simp
      | true =>
        cases hD : D k with
        | false => rfl
        | true => have := (seen_iff h hb hok n hd hr h2 hkj hw).2 hD; omega
theorem rowD_seen (h : RunD P K R nt ops ops.size tm m ds sd) (hb : Bd (m 0)) (hok : drawOk ops = true) (n : Now ops D j (sd j).o) (hd : (sd j).did = true) {r : Nat} (hr : (∃ y, (sd j).V.get r = some y) ∨ (sd j).wr r = true) :
    rowD m sd ops.size D r = (m j).S.get r := by
  unfold rowD
  rw [count_seen h hb hok n hd hr, ← h.rows r (Nat.le_of_lt n.lt)]
theorem bnD_seen (h : RunD P K R nt ops ops.size tm m ds sd) (hb : Bd (m 0)) (hok : drawOk ops = true) (n : Now ops D j (sd j).o) (hd : (sd j).did = true) {r : Nat} (hr : (∃ y, (sd j).V.get r = some y) ∨ (sd j).wr r = true) :
    bnD m sd ops.size D r ≤ (m j).nx := by
  unfold bnD
  rw [count_seen h hb hok n hd hr]
  have hl := n.lt
  exact lastOf_or (p := fun q => q ≤ (m j).nx) (h.nx (Nat.zero_le _) (Nat.le_of_lt hl)) fun k hk _ => h.nx (show k + 1 ≤ j by omega) (Nat.le_of_lt hl)
/-- and behind j -/
theorem count_next (h : RunD P K R nt ops ops.size tm m ds sd) (hb : Bd (m 0)) (hok : drawOk ops = true) (n : Now ops D j (sd j).o) (hD' : ∀ k, k < ops.size → D' k = (D k || decide (k = j))) (r : Nat) {α : Type} {z : α} {v : Nat → α} :
    lastOf z (fun k => D' k && (sd k).wr r) v ops.size = if (sd j).wr r = true then v j else lastOf z (fun k => D k && (sd k).wr r) v ops.size := by
  by_cases hw : (sd j).wr r = true
  · rw [if_pos hw]
    have hd := ((wr_iff _ _).1 hw).1
    refine lastOf_at n.lt (by rw [hD' j n.lt, hw]; simp) fun k h1 h2 => ?_
    cases hwk : (sd k).wr r with
    | false => simp
    | true =>
      rw [hD' k h2]
      cases hD : D k with
      | false => simp; omega
      | true => have := (seen_iff h hb hok n hd (.inr hw) h2 (by omega) hwk).2 hD; omega
  · rw [if_neg hw]
    refine lastOf_congr fun k hk => ?_
    rw [hD' k hk]
    by_cases hkj : k = j
    · subst hkj
      have : (sd k).wr r = false := by simpa using hw
      rw [this]; simp
    · simp [hkj]
theorem rowD_next (h : RunD P K R nt ops ops.size tm m ds sd) (hb : Bd (m 0)) (hok : drawOk ops = true) (n : Now ops D j (sd j).o) (hD' : ∀ k, k < ops.size → D' k = (D k || decide (k = j))) (r : Nat) :
    rowD m sd ops.size D' r = if (sd j).wr r = true then (sd j).mo.S.get r else rowD m sd ops.size D r := count_next h hb hok n hD' r
theorem bnD_next (h : RunD P K R nt ops ops.size tm m ds sd) (hb : Bd (m 0)) (hok : drawOk ops = true) (n : Now ops D j (sd j).o) (hD' : ∀ k, k < ops.size → D' k = (D k || decide (k = j))) (r : Nat) :
    bnD m sd ops.size D' r = if (sd j).wr r = true then (m (j + 1)).nx else bnD m sd ops.size D r := count_next h hb hok n hD' r
/-- temporaries that j names -/
theorem name_iff (h : RunD P K R nt ops ops.size tm m ds sd) (hok : drawOk ops = true) (n : Now ops D j (sd j).o) {t : Nat} (ht : t ∈ namesW ops (sd j).o) {k : Nat} (hk : k < ops.size) (hkj : k ≠ j) (hw : (sd k).o.dst = some t) : k < j ↔ D k = true := by
  rcases (drawOk_spec hok n.op).2.1 t ht k (sd k).o (h.step k hk).op hw with h1 | ⟨h1, h2⟩ | ⟨h1, h2⟩
  · exact absurd h1 hkj
  · exact ⟨fun _ => wait_ready n.closed n.op n.ready _ h2, fun _ => h1⟩
  · refine ⟨fun hl => by omega, fun hD => ?_⟩
    have := wait_closed n.closed _ k j hD h2
    rw [n.not] at this; cases this
theorem RunD.tmps (h : RunD P K R nt ops ops.size tm m ds sd) (t : Nat) : ∀ {j : Nat}, j ≤ ops.size → (tm j).get t = lastOf ((tm 0).get t) (fun k => (sd k).o.dst == some t) (fun k => some (sd k).x) j
  | 0, _ => rfl
  | j + 1, hj => by
    have ih := h.tmps t (show j ≤ ops.size by omega)
    have hs := h.step j hj
    have hput := (putR_get hs.put t).1
    unfold lastOf
    rw [hput]
    by_cases hw : (sd j).o.dst = some t
    · rw [if_pos hw, if_pos (by simp [hw])]
    · rw [if_neg hw, if_neg (by simp [hw]), ih]
theorem tmD_seen (h : RunD P K R nt ops ops.size tm m ds sd) (hok : drawOk ops = true) (n : Now ops D j (sd j).o) {t : Nat} (ht : t ∈ namesW ops (sd j).o) : tmD tm sd ops.size D t = (tm j).get t := by
  unfold tmD
  rw [h.tmps t (Nat.le_of_lt n.lt), lastOf_stop (j := j) (Nat.le_of_lt n.lt)]
  · refine lastOf_congr fun k hk => ?_
    by_cases hw : (sd k).o.dst = some t
    · rw [(name_iff h hok n ht (by have := n.lt; omega) (by omega) hw).1 hk]; rfl
    · simp [hw]
  · intro k h1 h2
    by_cases hkj : k = j
    · subst hkj; rw [n.not]; rfl
    · by_cases hw : (sd k).o.dst = some t
      · cases hD : D k with
        | false => rfl
        | true => have := (name_iff h hok n ht h2 hkj hw).2 hD; omega
      · simp [hw]
theorem tmD_next (h : RunD P K R nt ops ops.size tm m ds sd) (hok : drawOk ops = true) (n : Now ops D j (sd j).o) (hD' : ∀ k, k < ops.size → D' k = (D k || decide (k = j))) (t : Nat) :
    tmD tm sd ops.size D' t = if (sd j).o.dst = some t then some (sd j).x else tmD tm sd ops.size D t := by
  unfold tmD
  by_cases hw : (sd j).o.dst = some t
  · rw [if_pos hw]
    have ht : t ∈ namesW ops (sd j).o := by unfold namesW; rw [hw]; simp
    refine lastOf_at n.lt (by rw [hD' j n.lt, hw]; simp) fun k h1 h2 => ?_
    by_cases hwk : (sd k).o.dst = some t
    · rw [hD' k h2]
      cases hD : D k with
      | false => simp; omega
      | true => have := (name_iff h hok n ht h2 (by omega) hwk).2 hD; omega
    · simp [hwk]
  · rw [if_neg hw]
    refine lastOf_congr fun k hk => ?_
    rw [hD' k hk]
    by_cases hkj : k = j
    · subst hkj; simp [hw]
    · simp [hkj]
end
end Go.Ex
namespace Go.Ex
/-- the holes: those before, and the numbers of the undone -/
abbrev holD (H : Holes) (m : Nat → Mem) (N : Nat) (D : Nat → Bool) : Holes := ⟨fun q => H.h q ∨ ∃ k, k < N ∧ D k = false ∧ (m k).nx ≤ q ∧ q < (m (k + 1)).nx⟩
abbrev below (H : Holes) (n : Nat) : Holes := ⟨fun q => q < n ∧ H.h q⟩
/-- what holds between the operations of a region that draws -/
structure InvD (H : Holes) (K : Nat → Option (List Value)) (N nt B : Nat) (tm : Nat → T W) (m : Nat → Mem) (sd : Nat → SD) (σ0 : Env) (w0 : World) (D : Nat → Bool) (σ : Env) (a : Act) (w : World) : Prop where
  row : ∀ r y, rowD m sd N D r = some y → @RowOk (holD H m N D) σ (bnD m sd N D r) w r y
  lt : ∀ r y, rowD m sd N D r = some y → @Lt (holD H m N D) r (bnD m sd N D r)
  inj : ∀ i j r s, rowD m sd N D i = some r → rowD m sd N D j = some s → r.blk = true → s.blk = true → σ.b i = σ.b j → i = j
  known : ∀ g l, K g = some l → ∀ j v, l[j]? = some v → w.cell? ⟨g, j, none⟩ = some v
  apart : ∀ i r, rowD m sd N D i = some r → r.blk = true → K (σ.b i) = none
  low : ∀ g l, K g = some l → g < w.heap.size
  agree : @Agree H (m 0).nx σ0 σ
  goes : Goes w0 w
  frame : ∀ b, b < w0.heap.size → (∀ i r, (m 0).S.get i = some r → r.blk = true → σ0.b i = b → i < (m N).lo) → w.heap[b]? = w0.heap[b]?
  old : ∀ i r, i < (m 0).nx → rowD m sd N D i = some r → r.blk = true → ∃ s, (m 0).S.get i = some s ∧ s.blk = true
  new : ∀ i r, (m 0).nx ≤ i → rowD m sd N D i = some r → r.blk = true → w0.heap.size ≤ σ.b i ∨ ∃ j s, (m 0).S.get j = some s ∧ s.blk = true ∧ σ0.b j = σ.b i ∧ (m N).lo ≤ j
  keep : ∀ i r, (m 0).S.get i = some r → r.isLoop = true → ∃ s, rowD m sd N D i = some s ∧ s.isLoop = true
  size : a.tmps.size = nt
  tmps : ∀ t, t < nt → a.tmps[t]? = some (realW σ ((tmD tm sd N D t).getD undefW))
  tlt : ∀ t x, tmD tm sd N D t = some x → @W.lt (holD H m N D) (m N).nx x
  marks : MarksOk B a w
/-- new numbers from the one, the others from the other -/
def mix (σ τ : Env) (a b : Nat) : Env := ⟨fun q => if a ≤ q ∧ q < b then τ.b q else σ.b q, fun q => if a ≤ q ∧ q < b then τ.o q else σ.o q, fun q => if a ≤ q ∧ q < b then τ.k q else σ.k q, fun q => if a ≤ q ∧ q < b then τ.v q else σ.v q⟩
theorem mix_in {H : Holes} {σ τ : Env} {a b : Nat} (h : @Agree H a σ τ) : @Agree H b τ (mix σ τ a b) := by
  refine @Agree.mk H b τ (mix σ τ a b) ?_ ?_ ?_ ?_ <;> intro i hi <;> simp only [mix] <;> split
  · rfl
  · exact (h.b i ⟨by have := hi.lt; omega, hi.ok⟩).symm
  · rfl
  · exact (h.o i ⟨by have := hi.lt; omega, hi.ok⟩).symm
  · rfl
  · exact (h.k i ⟨by have := hi.lt; omega, hi.ok⟩).symm
  · rfl
  · exact (h.v i ⟨by have := hi.lt; omega, hi.ok⟩).symm
theorem mix_out {H : Holes} {σ τ : Env} {a b n : Nat} (h : ∀ q, @Lt H q n → ¬ (a ≤ q ∧ q < b)) : @Agree H n σ (mix σ τ a b) :=
  @Agree.mk H n σ (mix σ τ a b) (fun i hi => if_neg (h i hi)) (fun i hi => if_neg (h i hi)) (fun i hi => if_neg (h i hi)) (fun i hi => if_neg (h i hi))
section
variable {H : Holes} {P : Program} {K : Nat → Option (List Value)} {R : Rec} {nt B : Nat} {ops : Array Oper} {tm : Nat → T W} {m : Nat → Mem} {ds : Nat → List Done} {sd : Nat → SD} {D D' : Nat → Bool} {j : Nat} {σ0 σ τ : Env} {w0 w w' : World} {a : Act}
theorem eff_of (h : RunD P K R nt ops ops.size tm m ds sd) (hj : j < ops.size) (hd : (sd j).did = true) : Eff ops j (tagW (sd j).o.op) (ds j) (sd j).V (m j) (sd j).mo (m (j + 1)) (sd j).d (sd j).hid := ((h.step j hj).run hd).2.2.2.2.2
theorem seen_row (h : RunD P K R nt ops ops.size tm m ds sd) (hb : Bd (m 0)) (hok : drawOk ops = true) (n : Now ops D j (sd j).o) (hd : (sd j).did = true) {r : Nat} {y : Row} (hy : (sd j).V.get r = some y) : rowD m sd ops.size D r = some y := by
  rw [@rowD_seen ⟨fun _ => False⟩ _ _ _ _ _ _ _ _ _ _ _ h hb hok n hd r (.inl ⟨y, hy⟩)]
  exact (eff_of h (Array.getElem?_eq_some_iff.1 n.op).1 hd).sub r y hy
/-- what j sees lies there -/
theorem rel_now (h : RunD P K R nt ops ops.size tm m ds sd) (hb : Bd (m 0)) (hok : drawOk ops = true) (n : Now ops D j (sd j).o) (hd : (sd j).did = true) (hfr : ∀ q, H.h q → q < (m 0).nx) (inv : InvD H K ops.size nt B tm m sd σ0 w0 D σ a w) :
    @Rel (below (holD H m ops.size D) (m j).nx) K σ ⟨(sd j).V, (m j).nx, big⟩ w := by
  have toR : ∀ {r y}, (sd j).V.get r = some y → rowD m sd ops.size D r = some y := fun hy => seen_row h hb hok n hd hy
  have bn : ∀ {r y}, (sd j).V.get r = some y → bnD m sd ops.size D r ≤ (m j).nx := fun hy => @bnD_seen H _ _ _ _ _ _ _ _ _ _ _ h hb hok n hd _ (.inl ⟨_, hy⟩)
  have cv : ∀ {q p}, p ≤ (m j).nx → @Lt (holD H m ops.size D) q p → @Lt (below (holD H m ops.size D) (m j).nx) q (m j).nx := fun hp hq =>
    @Lt.mk (below (holD H m ops.size D) (m j).nx) _ _ (Nat.lt_of_lt_of_le (@Lt.lt (holD H m ops.size D) _ _ hq) hp) (fun hc => @Lt.ok (holD H m ops.size D) _ _ hq hc.2)
  refine @Rel.mk (below (holD H m ops.size D) (m j).nx) K σ ⟨(sd j).V, (m j).nx, big⟩ w (fun r y hy => ?_) (fun r y hy => ?_) (fun i i' r s hr hs hrb hsb he => ?_) inv.known (fun i r hr hrb => ?_) inv.low (fun i hi hc => ?_)
  · exact RowOk.move (inv.row r y (toR hy)) (@Agree.refl (holD H m ops.size D) _ σ) (inv.lt r y (toR hy)) (fun q hq => cv (bn hy) hq) (fun _ => rfl)
  · exact cv (bn hy) (inv.lt r y (toR hy))
  · exact inv.inj i i' r s (toR hr) (toR hs) hrb hsb he
  · exact inv.apart i r (toR hr) hrb
  · have : (m j).nx ≤ i := hi
    have := hc.1
    omega
/-- j was done -/
theorem inv_did (h : RunD P K R nt ops ops.size tm m ds sd) (hb : Bd (m 0)) (hok : drawOk ops = true) (n : Now ops D j (sd j).o) (hd : (sd j).did = true) (hfr : ∀ q, H.h q → q < (m 0).nx) (inv : InvD H K ops.size nt B tm m sd σ0 w0 D σ a w)
    (hD' : ∀ k, k < ops.size → D' k = (D k || decide (k = j)))
    (k : @Step (below (holD H m ops.size D) (m j).nx) K σ ⟨(sd j).V, (m j).nx, big⟩ w τ (sd j).mo w') (hx : @W.lt (below (holD H m ops.size D) (m j).nx) (sd j).mo.nx (sd j).x) :
    InvD H K ops.size nt B tm m sd σ0 w0 D' (mix σ τ (m j).nx (m (j + 1)).nx) (a.put (sd j).o.dst (realW τ (sd j).x)) w' := by
  have kr := @Step.rel (below (holD H m ops.size D) (m j).nx) _ _ _ _ _ _ _ k
  have krlt := @Rel.lt (below (holD H m ops.size D) (m j).nx) _ _ _ _ kr
  have kag := @Step.agree (below (holD H m ops.size D) (m j).nx) _ _ _ _ _ _ _ k
  have kframe := @Step.frame (below (holD H m ops.size D) (m j).nx) _ _ _ _ _ _ _ k
  have hj := (Array.getElem?_eq_some_iff.1 n.op).1
  have e := eff_of h hj hd
  have n0j : (m 0).nx ≤ (m j).nx := h.nx (Nat.zero_le _) (Nat.le_of_lt hj)
  have njN : (m (j + 1)).nx ≤ (m ops.size).nx := h.nx (show j + 1 ≤ ops.size from hj) (Nat.le_refl _)
  have loN : (m ops.size).lo ≤ (sd j).mo.lo := Nat.le_trans (h.lo (show j + 1 ≤ ops.size from hj) (Nat.le_refl _)) e.lo
  have toR : ∀ {r y}, (sd j).V.get r = some y → rowD m sd ops.size D r = some y := fun hy => seen_row h hb hok n hd hy
  -- numbers
  have shrink : ∀ {q p}, @Lt (holD H m ops.size D) q p → @Lt (holD H m ops.size D') q p := fun {q p} hq =>
    @Lt.mk (holD H m ops.size D') _ _ (@Lt.lt (holD H m ops.size D) _ _ hq) (fun hc => @Lt.ok (holD H m ops.size D) _ _ hq (by
      rcases hc with hc | ⟨i, h1, h2, h3⟩
      · exact .inl hc
      · refine .inr ⟨i, h1, ?_, h3⟩
        rw [hD' i h1] at h2
        cases hDi : D i with
        | false => rfl
        | true => rw [hDi] at h2; cases h2))
  have grow : ∀ {q p}, p ≤ (m (j + 1)).nx → @Lt (below (holD H m ops.size D) (m j).nx) q p → @Lt (holD H m ops.size D') q p := fun {q p} hp hq => by
    have h1 := @Lt.lt (below (holD H m ops.size D) (m j).nx) _ _ hq
    have h2 := @Lt.ok (below (holD H m ops.size D) (m j).nx) _ _ hq
    refine @Lt.mk (holD H m ops.size D') _ _ h1 (fun hc => ?_)
    rcases hc with hc | ⟨i, i1, i2, i3, i4⟩
    · exact h2 ⟨by have := hfr q hc; omega, .inl hc⟩
    · rw [hD' i i1] at i2
      simp only [Bool.or_eq_false_iff, decide_eq_false_iff_not] at i2
      rcases Nat.lt_or_ge i j with hl | hg
      · have := h.nx (show i + 1 ≤ j from hl) (Nat.le_of_lt hj)
        exact h2 ⟨by omega, .inr ⟨i, i1, i2.1, i3, i4⟩⟩
      · have := h.nx (show j + 1 ≤ i by omega) (Nat.le_of_lt i1)
        omega
  have hole : ∀ {q p}, @Lt (holD H m ops.size D) q p → ¬ ((m j).nx ≤ q ∧ q < (m (j + 1)).nx) := fun {q p} hq hc => @Lt.ok (holD H m ops.size D) _ _ hq (.inr ⟨j, hj, n.not, hc⟩)
  have mo2 : ∀ {p}, @Agree (holD H m ops.size D) p σ (mix σ τ (m j).nx (m (j + 1)).nx) := fun {p} => mix_out fun q hq => hole hq
  have mi : @Agree (below (holD H m ops.size D) (m j).nx) (m (j + 1)).nx τ (mix σ τ (m j).nx (m (j + 1)).nx) := mix_in kag
  -- rows
  have stay : ∀ {r y y'}, (sd j).wr r = false → (sd j).V.get r = some y' → rowD m sd ops.size D r = some y → (sd j).mo.S.get r = some y := fun {r y y'} hw hv hr => by
    have := toR hv
    rw [hr] at this
    cases this
    refine e.stay r y hv ?_
    cases hh : hitB (sd j).d r with
    | false => rfl
    | true =>
      have := (wr_iff (sd j) r).2 ⟨hd, hh, e.vis r y hv⟩
      rw [hw] at this; cases this
  have cls : ∀ {r y}, rowD m sd ops.size D' r = some y → ((sd j).mo.S.get r = some y ∧ r < (m (j + 1)).nx ∧ (mix σ τ (m j).nx (m (j + 1)).nx).b r = τ.b r) ∨ ((sd j).V.get r = none ∧ (sd j).wr r = false ∧ rowD m sd ops.size D r = some y ∧ (mix σ τ (m j).nx (m (j + 1)).nx).b r = σ.b r) := fun {r y} hr => by
    rw [@rowD_next H _ _ _ _ _ _ _ _ _ _ _ _ h hb hok n hD' r] at hr
    have fm : (sd j).mo.S.get r = some y → ((sd j).mo.S.get r = some y ∧ r < (m (j + 1)).nx ∧ (mix σ τ (m j).nx (m (j + 1)).nx).b r = τ.b r) := fun hm =>
      ⟨hm, e.rows r y hm, @Agree.b (below (holD H m ops.size D) (m j).nx) _ _ _ mi r (@Lt.mk (below (holD H m ops.size D) (m j).nx) _ _ (e.rows r y hm) (@Lt.ok (below (holD H m ops.size D) (m j).nx) _ _ (krlt r y hm)))⟩
    split at hr
    · exact .inl (fm hr)
    · rename_i hw
      have hw : (sd j).wr r = false := by simpa using hw
      cases hv : (sd j).V.get r with
      | none => exact .inr ⟨rfl, hw, hr, @Agree.b (holD H m ops.size D) _ _ _ mo2 r (inv.lt r y hr)⟩
      | some y' =>
        exact .inl (fm (stay hw hv hr))
  have outb : ∀ {r y}, (sd j).V.get r = none → rowD m sd ops.size D r = some y → y.blk = true → w'.heap[σ.b r]? = w.heap[σ.b r]? := fun {r y} hv hr hbk => by
    refine kframe _ (@RowOk.blk_lt (holD H m ops.size D) σ w _ r y (inv.row r y hr) hbk) fun i s hs hsb he => ?_
    have := inv.inj i r s y (toR hs) hr hsb hbk he
    subst this
    have hs' : (sd j).V.get i = some s := hs
    rw [hv] at hs'; cases hs'
  have krow := @Rel.row (below (holD H m ops.size D) (m j).nx) _ _ _ _ kr
  have krinj := @Rel.inj (below (holD H m ops.size D) (m j).nx) _ _ _ _ kr
  have krap := @Rel.apart (below (holD H m ops.size D) (m j).nx) _ _ _ _ kr
  have kold := @Step.old (below (holD H m ops.size D) (m j).nx) _ _ _ _ _ _ _ k
  have knew := @Step.new (below (holD H m ops.size D) (m j).nx) _ _ _ _ _ _ _ k
  have kkeep := @Step.keep (below (holD H m ops.size D) (m j).nx) _ _ _ _ _ _ _ k
  have kgoes := @Step.goes (below (holD H m ops.size D) (m j).nx) _ _ _ _ _ _ _ k
  have hmn : ∀ {r}, (sd j).wr r = true → (sd j).mo.nx = (m (j + 1)).nx := fun {r} hw => e.mnx.resolve_right fun hf => by
    have := ((wr_iff _ _).1 hw).2.1
    rw [hf r] at this; cases this
  have rn : ∀ r, rowD m sd ops.size D' r = if (sd j).wr r = true then (sd j).mo.S.get r else rowD m sd ops.size D r := fun r => @rowD_next H _ _ _ _ _ _ _ _ _ _ _ _ h hb hok n hD' r
  have bnn : ∀ r, bnD m sd ops.size D' r = if (sd j).wr r = true then (m (j + 1)).nx else bnD m sd ops.size D r := fun r => @bnD_next H _ _ _ _ _ _ _ _ _ _ _ _ h hb hok n hD' r
  have ltD : ∀ r y, rowD m sd ops.size D' r = some y → @Lt (holD H m ops.size D') r (bnD m sd ops.size D' r) := fun r y hr => by
    rw [rn r] at hr
    rw [bnn r]
    by_cases hw : (sd j).wr r = true
    · rw [if_pos hw] at hr ⊢
      have := krlt r y hr
      rw [hmn hw] at this
      exact grow (Nat.le_refl _) this
    · rw [if_neg hw] at hr ⊢
      exact shrink (inv.lt r y hr)
  have hxj : @W.lt (below (holD H m ops.size D) (m j).nx) (m (j + 1)).nx (sd j).x := ltW_lt hx ((h.step j hj).run hd).2.1
  -- from the region's start
  have old1 : ∀ i r, i < (m 0).nx → rowD m sd ops.size D' i = some r → r.blk = true → ∃ s, (m 0).S.get i = some s ∧ s.blk = true := fun i r hi hr hbk => by
    rcases cls hr with ⟨hm, _, _⟩ | ⟨_, _, hr', _⟩
    · obtain ⟨s, hs, hsb⟩ := kold i r (show i < (m j).nx by omega) hm hbk
      exact inv.old i s hi (toR hs) hsb
    · exact inv.old i r hi hr' hbk
  have lag : ∀ {i r}, i < (m 0).nx → rowD m sd ops.size D i = some r → σ.b i = σ0.b i := fun {i r} hi hr => @Agree.b H _ _ _ inv.agree i (@Lt.mk H _ _ hi fun hc => @Lt.ok (holD H m ops.size D) _ _ (inv.lt i r hr) (.inl hc))
  have new0 : ∀ {i r}, rowD m sd ops.size D i = some r → r.blk = true → (sd j).mo.lo ≤ i → w0.heap.size ≤ σ.b i ∨ ∃ j s, (m 0).S.get j = some s ∧ s.blk = true ∧ σ0.b j = σ.b i ∧ (m ops.size).lo ≤ j := fun {i r} hr hbk hl => by
    rcases Nat.lt_or_ge i (m 0).nx with hi | hi
    · obtain ⟨s, hs, hsb⟩ := inv.old i r hi hr hbk
      exact .inr ⟨i, s, hs, hsb, (lag hi hr).symm, by omega⟩
    · exact inv.new i r hi hr hbk
  refine ⟨fun r y hr => ?_, ltD, fun i i' r s hr hs hrb hsb he => ?_, @Rel.known (below (holD H m ops.size D) (m j).nx) _ _ _ _ kr, fun i r hr hrb => ?_, @Rel.low (below (holD H m ops.size D) (m j).nx) _ _ _ _ kr, ?_, inv.goes.trans kgoes, fun b hb0 hfr0 => ?_, old1, fun i r hi hr hbk => ?_, fun i r hr hl => ?_, ?_, fun t ht => ?_, fun t x hx0 => ?_, ?_⟩
  · rw [rn r] at hr
    rw [bnn r]
    by_cases hw : (sd j).wr r = true
    · rw [if_pos hw] at hr ⊢
      have h1 := krow r y hr
      have h2 := krlt r y hr
      rw [hmn hw] at h1 h2
      exact RowOk.move h1 mi h2 (fun q hq => grow (Nat.le_refl _) hq) (fun _ => rfl)
    · rw [if_neg hw] at hr ⊢
      have hw : (sd j).wr r = false := by simpa using hw
      cases hv : (sd j).V.get r with
      | none => exact RowOk.move (inv.row r y hr) mo2 (inv.lt r y hr) (fun q hq => shrink hq) (fun hbk => outb hv hr hbk)
      | some y' =>
        have hm := stay hw hv hr
        have hbn : bnD m sd ops.size D r ≤ (m j).nx := @bnD_seen H _ _ _ _ _ _ _ _ _ _ _ h hb hok n hd _ (.inl ⟨_, hv⟩)
        have cv : ∀ {q}, @Lt (holD H m ops.size D) q (bnD m sd ops.size D r) → @Lt (below (holD H m ops.size D) (m j).nx) q (m (j + 1)).nx := fun {q} hq =>
          @Lt.mk (below (holD H m ops.size D) (m j).nx) _ _ (by have := @Lt.lt (holD H m ops.size D) _ _ hq; have := e.nx; omega) (fun hc => @Lt.ok (holD H m ops.size D) _ _ hq hc.2)
        have hb2 := RowOk.both (krow r y hm) (inv.row r y hr)
        refine RowOk.move hb2 (@Agree.mk (holD H m ops.size D) _ _ _ (fun i hi => @Agree.b (below (holD H m ops.size D) (m j).nx) _ _ _ mi i (cv hi)) (fun i hi => @Agree.o (below (holD H m ops.size D) (m j).nx) _ _ _ mi i (cv hi)) (fun i hi => @Agree.k (below (holD H m ops.size D) (m j).nx) _ _ _ mi i (cv hi)) (fun i hi => @Agree.v (below (holD H m ops.size D) (m j).nx) _ _ _ mi i (cv hi))) (inv.lt r y hr) (fun q hq => shrink hq) (fun _ => rfl)
  · have cross : ∀ {i i' r s}, (sd j).mo.S.get i = some r → r.blk = true → (sd j).V.get i' = none → rowD m sd ops.size D i' = some s → s.blk = true → τ.b i = σ.b i' → False := fun {i i' r s} hm hrb hv hs hsb he => by
      rcases Nat.lt_or_ge i (m j).nx with hi | hi
      · obtain ⟨s0, hs0, hsb0⟩ := kold i r hi hm hrb
        have h1 := @Agree.b (below (holD H m ops.size D) (m j).nx) _ _ _ kag i (@Lt.mk (below (holD H m ops.size D) (m j).nx) _ _ hi (@Lt.ok (below (holD H m ops.size D) (m j).nx) _ _ (krlt i r hm)))
        have := inv.inj i i' s0 s (toR hs0) hs hsb0 hsb (h1.symm.trans he)
        subst this
        have hs0' : (sd j).V.get i = some s0 := hs0
        rw [hv] at hs0'; cases hs0'
      · rcases knew i r hi hm hrb with h1 | ⟨q, s0, hs0, hsb0, h1, _⟩
        · have := @RowOk.blk_lt (holD H m ops.size D) σ w _ i' s (inv.row i' s hs) hsb
          omega
        · have := inv.inj q i' s0 s (toR hs0) hs hsb0 hsb (h1.trans he)
          subst this
          have hs0' : (sd j).V.get q = some s0 := hs0
          rw [hv] at hs0'; cases hs0'
    rcases cls hr with ⟨h1, h2, h3⟩ | ⟨h1, h2, h3, h4⟩ <;> rcases cls hs with ⟨g1, g2, g3⟩ | ⟨g1, g2, g3, g4⟩
    · rw [h3, g3] at he
      exact krinj i i' r s h1 g1 hrb hsb he
    · rw [h3, g4] at he
      exact (cross h1 hrb g1 g3 hsb he).elim
    · rw [h4, g3] at he
      exact (cross g1 hsb h1 h3 hrb he.symm).elim
    · rw [h4, g4] at he
      exact inv.inj i i' r s h3 g3 hrb hsb he
  · rcases cls hr with ⟨h1, h2, h3⟩ | ⟨h1, h2, h3, h4⟩
    · rw [h3]; exact krap i r h1 hrb
    · rw [h4]; exact inv.apart i r h3 hrb
  · have nn : ∀ {q}, @Lt H q (m 0).nx → ¬ ((m j).nx ≤ q ∧ q < (m (j + 1)).nx) := fun {q} hq hc => by have := @Lt.lt H _ _ hq; omega
    refine @Agree.mk H _ _ _ (fun i hi => ?_) (fun i hi => ?_) (fun i hi => ?_) (fun i hi => ?_)
    · exact (if_neg (nn hi)).trans (@Agree.b H _ _ _ inv.agree i hi)
    · exact (if_neg (nn hi)).trans (@Agree.o H _ _ _ inv.agree i hi)
    · exact (if_neg (nn hi)).trans (@Agree.k H _ _ _ inv.agree i hi)
    · exact (if_neg (nn hi)).trans (@Agree.v H _ _ _ inv.agree i hi)
  · rw [kframe b (Nat.lt_of_lt_of_le hb0 inv.goes.size) (fun i s hs hsb he => ?_)]
    · exact inv.frame b hb0 hfr0
    · have hs' := toR hs
      refine Nat.lt_of_not_le fun hl => ?_
      rcases new0 hs' hsb hl with h1 | ⟨q, s0, hs0, hsb0, h1, h2⟩
      · omega
      · have := hfr0 q s0 hs0 hsb0 (h1.trans he)
        omega
  · rcases cls hr with ⟨h1, h2, h3⟩ | ⟨h1, h2, h3, h4⟩
    · rw [h3]
      rcases Nat.lt_or_ge i (m j).nx with hij | hij
      · obtain ⟨s0, hs0, hsb0⟩ := kold i r hij h1 hbk
        have h5 := @Agree.b (below (holD H m ops.size D) (m j).nx) _ _ _ kag i (@Lt.mk (below (holD H m ops.size D) (m j).nx) _ _ hij (@Lt.ok (below (holD H m ops.size D) (m j).nx) _ _ (krlt i r h1)))
        rw [h5]
        exact inv.new i s0 hi (toR hs0) hsb0
      · rcases knew i r hij h1 hbk with h5 | ⟨q, s0, hs0, hsb0, h5, h6⟩
        · exact .inl (Nat.le_trans inv.goes.size h5)
        · rw [← h5]
          exact new0 (toR hs0) hsb0 h6
    · rw [h4]; exact inv.new i r hi h3 hbk
  · obtain ⟨s, hs, hsl⟩ := inv.keep i r hr hl
    rw [rn i]
    by_cases hw : (sd j).wr i = true
    · rw [if_pos hw]
      have h1 := (wr_iff _ _).1 hw
      have hi : i < (m j).nx := Nat.lt_of_lt_of_le (hb i r hr) n0j
      have h2 := e.full i h1.2.1 h1.2.2 hi
      rw [@rowD_seen H _ _ _ _ _ _ _ _ _ _ _ h hb hok n hd i (.inr hw)] at hs
      rw [hs] at h2
      exact kkeep i s h2 hsl
    · rw [if_neg hw]; exact ⟨s, hs, hsl⟩
  · rw [put_size]; exact inv.size
  · rw [@tmD_next H _ _ _ _ _ _ _ _ _ _ _ _ h hok n hD' t]
    have hsz := inv.size
    have hget := inv.tmps t ht
    by_cases hw : (sd j).o.dst = some t
    · rw [if_pos hw, hw]
      show (a.tmps.setIfInBounds t _)[t]? = _
      rw [Array.getElem?_setIfInBounds]
      simp only [if_true, hsz, ht]
      rw [Option.getD_some, @Agree.realW (below (holD H m ops.size D) (m j).nx) _ _ _ mi _ hxj]
    · rw [if_neg hw]
      have h1 : (a.put (sd j).o.dst (realW τ (sd j).x)).tmps[t]? = a.tmps[t]? := by
        cases hdst : (sd j).o.dst with
        | none => rfl
        | some t' =>
          show (a.tmps.setIfInBounds t' _)[t]? = _
          rw [Array.getElem?_setIfInBounds, if_neg (fun he => hw (by rw [hdst, he]))]
      rw [h1, hget]
      cases hq : tmD tm sd ops.size D t with
      | none => rfl
      | some y => rw [Option.getD_some, @Agree.realW (holD H m ops.size D) _ _ _ mo2 _ (inv.tlt t y hq)]
  · rw [@tmD_next H _ _ _ _ _ _ _ _ _ _ _ _ h hok n hD' t] at hx0
    by_cases hw : (sd j).o.dst = some t
    · rw [if_pos hw] at hx0
      cases hx0
      exact W.lt.move hxj fun q hq => @Lt.mono (holD H m ops.size D') _ _ _ (grow (Nat.le_refl _) hq) njN
    · rw [if_neg hw] at hx0
      exact W.lt.move (inv.tlt t x hx0) fun q hq => shrink hq
  · obtain ⟨rs, q1, q2, q3⟩ := @MarksOk.step (below (holD H m ops.size D) (m j).nx) _ _ _ _ _ _ _ _ _ inv.marks (rel_now h hb hok n hd hfr inv) k a.tmps
    exact ⟨rs, by rw [put_defers]; exact q1, q2, q3⟩
end
end Go.Ex
namespace Go.Ex
section
variable {H : Holes} {P : Program} {K : Nat → Option (List Value)} {R : Rec} {nt B : Nat} {ops : Array Oper} {tm : Nat → T W} {m : Nat → Mem} {ds : Nat → List Done} {sd : Nat → SD} {D D' : Nat → Bool} {j : Nat} {σ0 σ τ : Env} {w0 w w' : World} {a a' : Act}
/-- j was passed by -/
theorem inv_skip (h : RunD P K R nt ops ops.size tm m ds sd) (hb : Bd (m 0)) (hok : drawOk ops = true) (n : Now ops D j (sd j).o) (hd : (sd j).did = false) (inv : InvD H K ops.size nt B tm m sd σ0 w0 D σ a w)
    (hD' : ∀ k, k < ops.size → D' k = (D k || decide (k = j))) : InvD H K ops.size nt B tm m sd σ0 w0 D' σ (a.put (sd j).o.dst undef) w := by
  have hj := (Array.getElem?_eq_some_iff.1 n.op).1
  have hxu := ((h.step j hj).skip hd).2.2
  have nw : ∀ r, ¬ (sd j).wr r = true := fun r hw => by rw [((wr_iff _ _).1 hw).1] at hd; cases hd
  have rn : ∀ r, rowD m sd ops.size D' r = rowD m sd ops.size D r := fun r => by rw [@rowD_next H _ _ _ _ _ _ _ _ _ _ _ _ h hb hok n hD' r, if_neg (nw r)]
  have bnn : ∀ r, bnD m sd ops.size D' r = bnD m sd ops.size D r := fun r => by rw [@bnD_next H _ _ _ _ _ _ _ _ _ _ _ _ h hb hok n hD' r, if_neg (nw r)]
  have shrink : ∀ {q p}, @Lt (holD H m ops.size D) q p → @Lt (holD H m ops.size D') q p := fun {q p} hq =>
    @Lt.mk (holD H m ops.size D') _ _ (@Lt.lt (holD H m ops.size D) _ _ hq) (fun hc => @Lt.ok (holD H m ops.size D) _ _ hq (by
      rcases hc with hc | ⟨i, h1, h2, h3⟩
      · exact .inl hc
      · refine .inr ⟨i, h1, ?_, h3⟩
        rw [hD' i h1] at h2
        cases hDi : D i with
        | false => rfl
        | true => rw [hDi] at h2; cases h2))
  have er : rowD m sd ops.size D' = rowD m sd ops.size D := funext rn
  refine ⟨fun r y hr => ?_, fun r y hr => ?_, ?_, inv.known, ?_, inv.low, inv.agree, inv.goes, inv.frame, ?_, ?_, ?_, by rw [put_size]; exact inv.size, fun t ht => ?_, fun t x hx0 => ?_, ?_⟩
  · rw [rn r] at hr; rw [bnn r]
    exact RowOk.move (inv.row r y hr) (@Agree.refl (holD H m ops.size D) _ σ) (inv.lt r y hr) (fun q hq => shrink hq) (fun _ => rfl)
  · rw [rn r] at hr; rw [bnn r]; exact shrink (inv.lt r y hr)
  · rw [er]; exact inv.inj
  · rw [er]; exact inv.apart
  · rw [er]; exact inv.old
  · rw [er]; exact inv.new
  · rw [er]; exact inv.keep
  · rw [@tmD_next H _ _ _ _ _ _ _ _ _ _ _ _ h hok n hD' t]
    have hsz := inv.size
    have hget := inv.tmps t ht
    by_cases hw : (sd j).o.dst = some t
    · rw [if_pos hw, hw, hxu]
      show (a.tmps.setIfInBounds t _)[t]? = _
      rw [Array.getElem?_setIfInBounds]
      simp only [if_true, hsz, ht]
      rfl
    · rw [if_neg hw, ← hget]
      cases hdst : (sd j).o.dst with
      | none => rfl
      | some t' =>
        show (a.tmps.setIfInBounds t' _)[t]? = _
        rw [Array.getElem?_setIfInBounds, if_neg (fun he => hw (by rw [hdst, he]))]
  · rw [@tmD_next H _ _ _ _ _ _ _ _ _ _ _ _ h hok n hD' t] at hx0
    by_cases hw : (sd j).o.dst = some t
    · rw [if_pos hw, hxu] at hx0
      cases hx0
      exact @undefW_lt (holD H m ops.size D') _
    · rw [if_neg hw] at hx0
      exact W.lt.move (inv.tlt t x hx0) fun q hq => shrink hq
  · obtain ⟨rs, q1, q2, q3⟩ := inv.marks
    exact ⟨rs, by rw [put_defers]; exact q1, q2, q3⟩
theorem holD_out {q : Nat} (h : RunD P K R nt ops ops.size tm m ds sd) (hq : @Lt H q (m 0).nx) : ∀ {p}, (m 0).nx ≤ p → @Lt (holD H m ops.size D) q p := fun {p} hp =>
  @Lt.mk (holD H m ops.size D) _ _ (Nat.lt_of_lt_of_le (@Lt.lt H _ _ hq) hp) (fun hc => by
    rcases hc with hc | ⟨k, k1, k2, k3, k4⟩
    · exact @Lt.ok H _ _ hq hc
    · have := h.nx (Nat.zero_le k) (Nat.le_of_lt k1)
      have := @Lt.lt H _ _ hq
      omega)
/-- before the first -/
theorem inv_start (h : RunD P K R nt ops ops.size tm m ds sd) (hD : ∀ k, k < ops.size → D k = false) (hr : @Rel H K σ0 (m 0) w0) (hT : @TmOk H σ0 (m 0).nx a.tmps (tm 0)) (hs : a.tmps.size = nt) (hM : MarksOk B a w0) :
    InvD H K ops.size nt B tm m sd σ0 w0 D σ0 a w0 := by
  have rn : ∀ r, rowD m sd ops.size D r = (m 0).S.get r := fun r => lastOf_stop (j := 0) (Nat.zero_le _) fun k _ hk => by rw [hD k hk]; rfl
  have bnn : ∀ r, bnD m sd ops.size D r = (m 0).nx := fun r => lastOf_stop (j := 0) (Nat.zero_le _) fun k _ hk => by rw [hD k hk]; rfl
  have tn : ∀ t, tmD tm sd ops.size D t = (tm 0).get t := fun t => lastOf_stop (j := 0) (Nat.zero_le _) fun k _ hk => by rw [hD k hk]; rfl
  have er : rowD m sd ops.size D = fun r => (m 0).S.get r := funext rn
  have nN := h.nx (Nat.zero_le ops.size) (Nat.le_refl _)
  refine ⟨fun r y hy => ?_, fun r y hy => ?_, by rw [er]; exact @Rel.inj H _ _ _ _ hr, @Rel.known H _ _ _ _ hr, by rw [er]; exact @Rel.apart H _ _ _ _ hr, @Rel.low H _ _ _ _ hr, @Agree.refl H _ _, ⟨rfl, rfl, rfl, Nat.le_refl _⟩, fun _ _ _ => rfl, fun i r _ hy hbk => ?_, fun i r hi hy _ => ?_, fun i r hy hl => ?_, hs, fun t ht => ?_, fun t x hx => ?_, hM⟩
  · rw [rn] at hy; rw [bnn]
    exact RowOk.move (@Rel.row H _ _ _ _ hr r y hy) (@Agree.refl H _ _) (@Rel.lt H _ _ _ _ hr r y hy) (fun q hq => holD_out h hq (Nat.le_refl _)) (fun _ => rfl)
  · rw [rn] at hy; rw [bnn]
    exact holD_out h (@Rel.lt H _ _ _ _ hr r y hy) (Nat.le_refl _)
  · rw [rn] at hy; exact ⟨r, hy, hbk⟩
  · rw [rn] at hy
    have := @Lt.lt H _ _ (@Rel.lt H _ _ _ _ hr i r hy)
    omega
  · exact ⟨r, by rw [rn]; exact hy, hl⟩
  · rw [tn]; exact @TmOk.get H _ _ _ _ hT t (by rw [hs]; exact ht)
  · rw [tn] at hx
    exact W.lt.move (@TmOk.lt H _ _ _ _ hT t x hx) fun q hq => holD_out h hq nN
/-- behind the last -/
theorem inv_end (h : RunD P K R nt ops ops.size tm m ds sd) (hD : ∀ k, k < ops.size → D k = true) (hr : @Rel H K σ0 (m 0) w0) (hT : @TmOk H σ0 (m 0).nx a.tmps (tm 0)) (hout : ∀ t, nt ≤ t → (tm ops.size).get t = none) (inv : InvD H K ops.size nt B tm m sd σ0 w0 D σ a' w) :
    @Step H K σ0 (m 0) w0 σ (m ops.size) w ∧ @TmOk H σ (m ops.size).nx a'.tmps (tm ops.size) := by
  have rn : ∀ r, rowD m sd ops.size D r = (m ops.size).S.get r := fun r => by
    rw [@RunD.rows H _ _ _ _ _ _ _ _ _ _ h r ops.size (Nat.le_refl _)]
    exact lastOf_congr fun k hk => by rw [hD k hk]; rfl
  have tn : ∀ t, tmD tm sd ops.size D t = (tm ops.size).get t := fun t => by
    rw [@RunD.tmps H _ _ _ _ _ _ _ _ _ h t ops.size (Nat.le_refl _)]
    exact lastOf_congr fun k hk => by rw [hD k hk]; rfl
  have bnn : ∀ r, bnD m sd ops.size D r ≤ (m ops.size).nx := fun r => lastOf_or (p := fun q => q ≤ (m ops.size).nx) (h.nx (Nat.zero_le _) (Nat.le_refl _)) fun k hk _ => h.nx (show k + 1 ≤ ops.size from hk) (Nat.le_refl _)
  have er : rowD m sd ops.size D = fun r => (m ops.size).S.get r := funext rn
  have nN := h.nx (Nat.zero_le ops.size) (Nat.le_refl _)
  have lN := h.lo (Nat.zero_le ops.size) (Nat.le_refl _)
  have back : ∀ {q p p'}, p ≤ p' → @Lt (holD H m ops.size D) q p → @Lt H q p' := fun {q p p'} hp hq => @Lt.mk H _ _ (Nat.lt_of_lt_of_le (@Lt.lt (holD H m ops.size D) _ _ hq) hp) (fun hc => @Lt.ok (holD H m ops.size D) _ _ hq (.inl hc))
  have hrel : @Rel H K σ (m ops.size) w := @Rel.mk H _ _ _ _
    (fun r y hy => by
      rw [← rn] at hy
      exact RowOk.move (inv.row r y hy) (@Agree.refl (holD H m ops.size D) _ _) (inv.lt r y hy) (fun q hq => back (bnn r) hq) (fun _ => rfl))
    (fun r y hy => by rw [← rn] at hy; exact back (bnn r) (inv.lt r y hy))
    (by have := inv.inj; rw [er] at this; exact this) inv.known (by have := inv.apart; rw [er] at this; exact this) inv.low
    (fun i hi => @Rel.fresh H _ _ _ _ hr i (Nat.le_trans nN hi))
  refine ⟨@Step.mk H _ _ _ _ _ _ _ nN inv.agree hrel inv.goes inv.frame (by have := inv.old; rw [er] at this; exact this) (by have := inv.new; rw [er] at this; exact this) lN (by have := inv.keep; rw [er] at this; exact this), @TmOk.mk H _ _ _ _ (fun t ht => ?_) (fun t ht => hout t (by rw [← inv.size]; exact ht)) (fun t x hx => ?_)⟩
  · rw [← tn]; exact inv.tmps t (by rw [← inv.size]; exact ht)
  · rw [← tn] at hx
    exact W.lt.move (inv.tlt t x hx) fun q hq => back (Nat.le_refl _) hq
end
end Go.Ex
namespace Go.Ex
/-- those temporaries only -/
noncomputable def onlyW (t : T W) : List Tmp → T W
  | [] => .e
  | n :: l => T.put (t.get n) (onlyW t l) n
theorem only_get (t : T W) : ∀ (l : List Tmp) (i : Nat), (onlyW t l).get i = if i ∈ l then t.get i else none
  | [], i => by rw [show (onlyW t []).get i = none from T.get_e _]; simp
  | n :: l, i => by
    rw [onlyW, T.get_put, only_get t l i]
    by_cases h : i = n
    · subst h; simp
    · simp [h]
theorem run_out {P : Program} {K : Nat → Option (List Value)} {R : Rec} {nt : Nat} {ops : Array Oper} {tm : Nat → T W} {m : Nat → Mem} {ds : Nat → List Done} {sd : Nat → SD} (h : RunD P K R nt ops ops.size tm m ds sd) (h0 : ∀ t, nt ≤ t → (tm 0).get t = none) : ∀ {j : Nat}, j ≤ ops.size → ∀ t, nt ≤ t → (tm j).get t = none
  | 0, _ => h0
  | j + 1, hj => fun t ht => by
    have hp := @putR_get ⟨fun _ => False⟩ _ _ _ _ _ _ _ (h.step j hj).put t
    rw [hp.1, if_neg (fun hq => by have := hp.2 hq; omega)]
    exact run_out h h0 (show j ≤ ops.size by omega) t ht
section
variable {H : Holes} {P : Program} {K : Nat → Option (List Value)} {R : Rec} {nt B : Nat} {ops : Array Oper} {tm : Nat → T W} {m : Nat → Mem} {ds : Nat → List Done} {sd : Nat → SD} {D D' : Nat → Bool} {j : Nat} {σ0 σ τ : Env} {w0 w w' : World} {a a' : Act}
/-- what j's temporaries are -/
noncomputable def actJ (nt : Nat) (σ : Env) (t : T W) (df : List Deferred) : Act := ⟨Array.ofFn (n := nt) fun i => realW σ ((t.get i).getD undefW), df⟩
theorem tmok_now (h : RunD P K R nt ops ops.size tm m ds sd) (hok : drawOk ops = true) (n : Now ops D j (sd j).o) (h0 : ∀ t, nt ≤ t → (tm 0).get t = none) (hlt0 : ∀ t x, (tm 0).get t = some x → @W.lt H (m 0).nx x)
    (hrun : ∀ k, k < ops.size → ltW (m (k + 1)).nx (sd k).x = true) (hfr : ∀ q, H.h q → q < (m 0).nx) (inv : InvD H K ops.size nt B tm m sd σ0 w0 D σ a w) :
    @TmOk (below (holD H m ops.size D) (m j).nx) σ (m j).nx (actJ nt σ (onlyW (tm j) (namesW ops (sd j).o)) a.defers).tmps (onlyW (tm j) (namesW ops (sd j).o)) := by
  have hj := (Array.getElem?_eq_some_iff.1 n.op).1
  have cv : ∀ {q p}, p ≤ (m j).nx → @Lt (holD H m ops.size D) q p → @Lt (below (holD H m ops.size D) (m j).nx) q (m j).nx := fun hp hq =>
    @Lt.mk (below (holD H m ops.size D) (m j).nx) _ _ (Nat.lt_of_lt_of_le (@Lt.lt (holD H m ops.size D) _ _ hq) hp) (fun hc => @Lt.ok (holD H m ops.size D) _ _ hq hc.2)
  have hsz : (actJ nt σ (onlyW (tm j) (namesW ops (sd j).o)) a.defers).tmps.size = nt := by simp [actJ]
  refine @TmOk.mk (below (holD H m ops.size D) (m j).nx) _ _ _ _ (fun t ht => ?_) (fun t ht => ?_) (fun t x hx => ?_)
  · rw [hsz] at ht
    simp [actJ, ht]
  · rw [hsz] at ht
    rw [only_get]
    split
    · exact run_out h h0 (Nat.le_of_lt hj) t ht
    · rfl
  · rw [only_get] at hx
    split at hx
    · rename_i ht
      have h1 := hx
      rw [← @tmD_seen H _ _ _ _ _ _ _ _ _ _ _ h hok n t ht] at h1
      have h2 := inv.tlt t x h1
      rw [@RunD.tmps H _ _ _ _ _ _ _ _ _ h t j (Nat.le_of_lt hj)] at hx
      have h3 : (tm 0).get t = some x ∨ ∃ k, k < j ∧ (sd k).x = x := by
        revert hx
        exact lastOf_or (p := fun q => q = some x → ((tm 0).get t = some x ∨ ∃ k, k < j ∧ (sd k).x = x)) (fun e => .inl e) fun k hk _ e => .inr ⟨k, hk, by cases e; rfl⟩
      rcases h3 with h3 | ⟨k, hk, rfl⟩
      · refine W.lt.move (hlt0 t x h3) fun q hq => cv (Nat.le_refl _) ?_
        have nj := h.nx (Nat.zero_le j) (Nat.le_of_lt hj)
        refine @Lt.mk (holD H m ops.size D) _ _ (Nat.lt_of_lt_of_le (@Lt.lt H _ _ hq) nj) (fun hc => ?_)
        rcases hc with hc | ⟨i, i1, i2, i3, i4⟩
        · exact @Lt.ok H _ _ hq hc
        · have := h.nx (Nat.zero_le i) (Nat.le_of_lt i1)
          have := @Lt.lt H _ _ hq
          omega
      · exact W.lt.move (ltW_lt h2 (hrun k (by omega))) fun q hq => cv (h.nx (show k + 1 ≤ j from hk) (Nat.le_of_lt hj)) hq
    · cases hx
theorem names_op {o : Oper} {t : Tmp} (h : Operand.tmp t ∈ o.op.operands) : t ∈ namesW ops o := by
  unfold namesW
  refine List.mem_append_left _ (List.mem_append_right _ (List.mem_filterMap.2 ⟨.tmp t, by simpa using h, rfl⟩))
theorem names_guard {o : Oper} {g : Nat} {b : Bool} {t : Tmp} (hg : o.guard = some (g, b)) (h : (ops[g]?).bind (·.dst) = some t) : t ∈ namesW ops o := by
  unfold namesW
  refine List.mem_append_right _ ?_
  rw [hg]
  simp only
  rw [h]
  simp
/-- the temporaries that j names are as in the text's order -/
theorem same_tmp (h : RunD P K R nt ops ops.size tm m ds sd) (hok : drawOk ops = true) (n : Now ops D j (sd j).o) (inv : InvD H K ops.size nt B tm m sd σ0 w0 D σ a w) {t : Tmp} (ht : t ∈ namesW ops (sd j).o) :
    a.tmps[t]? = (actJ nt σ (onlyW (tm j) (namesW ops (sd j).o)) a.defers).tmps[t]? := by
  rcases Nat.lt_or_ge t nt with hl | hl
  · rw [inv.tmps t hl, @tmD_seen H _ _ _ _ _ _ _ _ _ _ _ h hok n t ht]
    simp [actJ, hl, only_get, ht]
  · rw [Array.getElem?_eq_none (by rw [inv.size]; exact hl), Array.getElem?_eq_none (by simp [actJ]; exact hl)]
theorem same_eval (h : RunD P K R nt ops ops.size tm m ds sd) (hok : drawOk ops = true) (n : Now ops D j (sd j).o) (inv : InvD H K ops.size nt B tm m sd σ0 w0 D σ a w) : ∀ x ∈ (sd j).o.op.operands, a.eval x = (actJ nt σ (onlyW (tm j) (namesW ops (sd j).o)) a.defers).eval x := fun x hx => by
  cases x with
  | tmp t =>
    show a.tmps.getD t undef = Array.getD _ t undef
    rw [Array.getD_eq_getD_getElem?, Array.getD_eq_getD_getElem?, same_tmp h hok n inv (names_op hx)]
  | _ => rfl
theorem same_ev (o : Oper) (t : T W) : ∀ x ∈ o.op.operands, ev t x = ev (onlyW t (namesW ops o)) x := fun x hx => by
  cases x with
  | tmp i =>
    show (Option.rec undefW (fun x => x) (t.get i) : W) = Option.rec undefW (fun x => x) ((onlyW t (namesW ops o)).get i)
    rw [only_get, if_pos (names_op hx)]
  | _ => rfl
theorem same_want (h : RunD P K R nt ops ops.size tm m ds sd) (hok : drawOk ops = true) (n : Now ops D j (sd j).o) (inv : InvD H K ops.size nt B tm m sd σ0 w0 D σ a w) : Region.wanted (sd j).o (yielded ops a.tmps) = Region.wanted (sd j).o (yielded ops (actJ nt σ (onlyW (tm j) (namesW ops (sd j).o)) a.defers).tmps) := by
  unfold Region.wanted
  cases hg : (sd j).o.guard with
  | none => rfl
  | some g =>
    obtain ⟨i, b⟩ := g
    simp only
    unfold yielded
    cases hd : (ops[i]?).bind (·.dst) with
    | none => rfl
    | some d => simp only [Option.bind_some]; rw [same_tmp h hok n inv (names_guard hg hd)]
theorem same_wantW (o : Oper) (t : T W) : wantW ops t o = wantW ops (onlyW t (namesW ops o)) o := by
  unfold wantW
  cases hg : o.guard with
  | none => rfl
  | some g =>
    obtain ⟨i, b⟩ := g
    simp only
    cases hd : (ops[i]?).bind (·.dst) with
    | none => rfl
    | some d => simp only; rw [only_get, if_pos (names_guard hg hd)]
end
end Go.Ex
namespace Go.Ex
def cntU (D : Nat → Bool) : Nat → Nat
  | 0 => 0
  | k + 1 => cntU D k + if D k = true then 0 else 1
theorem cntU_zero {D : Nat → Bool} : ∀ {N : Nat}, cntU D N = 0 → ∀ k, k < N → D k = true
  | N + 1, h, k, hk => by
    unfold cntU at h
    by_cases hd : D N = true
    · rcases Nat.lt_or_ge k N with hl | hg
      · exact cntU_zero (by omega) k hl
      · rw [show k = N by omega]; exact hd
    · rw [if_neg hd] at h; omega
theorem cntU_congr {D D' : Nat → Bool} : ∀ {N : Nat}, (∀ k, k < N → D k = D' k) → cntU D N = cntU D' N
  | 0, _ => rfl
  | N + 1, h => by unfold cntU; rw [h N (Nat.lt_succ_self _), cntU_congr fun k hk => h k (Nat.lt_succ_of_lt hk)]
theorem cntU_set {D D' : Nat → Bool} {j : Nat} (hn : D j = false) : ∀ {N : Nat}, j < N → (∀ k, k < N → D' k = (D k || decide (k = j))) → cntU D' N + 1 = cntU D N
  | N + 1, hj, h => by
    unfold cntU
    by_cases he : j = N
    · subst he
      rw [h j hj, hn]
      have : cntU D' j = cntU D j := cntU_congr fun k hk => by rw [h k (by omega)]; simp; omega
      simp
      omega
    · have := cntU_set hn (show j < N by omega) fun k hk => h k (Nat.lt_succ_of_lt hk)
      rw [h N (Nat.lt_succ_self _)]
      have hx : decide (N = j) = false := by simp; omega
      rw [hx, Bool.or_false]
      omega
section
variable {P : Program} {K : Nat → Option (List Value)} {R : Rec} {F : Fence}
theorem op_und' (HH : Holes) (hS : @SoundCall HH P K R) (hC : @SoundCode HH P K R.code) {σ : Env} {m m1 : Mem} {w : World} {Φ : Value → World → Prop} {o : Oper} {a : Act} {tm : T W} {x : W} (ho : opW P K R o.op o.type tm m = .ok x m1) (h : @Rel HH K σ m w) (hT : @TmOk HH σ m.nx a.tmps tm) (hF : WF F)
    (hΦ : ∀ τ w', @Step HH K σ m w τ m1 w' → @W.lt HH m1.nx x → Φ (realW τ x) w') : Und F P Φ ((execOp a.eval o).run P w) := op_und hS hC ho h hT hF hΦ
theorem draw_go {H : Holes} {nt B n : Nat} {ops : Array Oper} {tm : Nat → T W} {m : Nat → Mem} {ds : Nat → List Done} {sd : Nat → SD} {σ0 : Env} {w0 : World} {Q : Exit → Act → World → Prop} (hS : ∀ HH : Holes, @SoundCall HH P K R) (hC : ∀ HH : Holes, @SoundCode HH P K R.code) (hF : WF F)
    (h : RunD P K R nt ops ops.size tm m ds sd) (hb : Bd (m 0)) (hok : drawOk ops = true) (h0 : ∀ t, nt ≤ t → (tm 0).get t = none) (hlt0 : ∀ t x, (tm 0).get t = some x → @W.lt H (m 0).nx x)
    (hfr : ∀ q, H.h q → q < (m 0).nx) (hr0 : @Rel H K σ0 (m 0) w0)
    (hQ : ∀ σ a w, @Step H K σ0 (m 0) w0 σ (m ops.size) w → @TmOk H σ (m ops.size).nx a.tmps (tm ops.size) → a.tmps.size = nt → MarksOk B a w → Q .normal a w) :
    ∀ (fuel : Nat) (listed : Array Bool) (σ : Env) (a : Act) (w : World), listed.size = ops.size → (∀ j oj, ops[j]? = some oj → listed.getD j false = true → ∀ e ∈ oj.after, Region.binds .any e = true → listed.getD e.on false = true) →
      cntU (fun k => listed.getD k false) ops.size ≤ fuel → InvD H K ops.size nt B tm m sd σ0 w0 (fun k => listed.getD k false) σ a w → wpAnyIn F n P .any ops Q fuel listed a w := by
  have hrun : ∀ k, k < ops.size → ltW (m (k + 1)).nx (sd k).x = true := fun k hk => by
    cases hd : (sd k).did with
    | true => exact ((h.step k hk).run hd).2.1
    | false => rw [((h.step k hk).skip hd).2.2]; rfl
  have fin : ∀ (listed : Array Bool) (σ : Env) (a : Act) (w : World), (∀ k, k < ops.size → listed.getD k false = true) → InvD H K ops.size nt B tm m sd σ0 w0 (fun k => listed.getD k false) σ a w → Q .normal a w := fun listed σ a w hall inv => by
    have hT0 : @TmOk H σ0 (m 0).nx (actJ nt σ0 (tm 0) []).tmps (tm 0) := @TmOk.mk H _ _ _ _ (fun t ht => by simp [actJ] at ht ⊢; simp [ht]) (fun t ht => h0 t (by simpa [actJ] using ht)) hlt0
    obtain ⟨k1, k2⟩ := inv_end h hall hr0 hT0 (run_out h h0 (Nat.le_refl _)) inv
    exact hQ σ a w k1 k2 inv.size inv.marks
  intro fuel
  induction fuel with
  | zero =>
    intro listed σ a w hsz hc hcnt inv
    have hall := cntU_zero (Nat.le_zero.1 hcnt)
    refine ⟨?_, fin listed σ a w hall inv⟩
    apply List.eq_nil_iff_forall_not_mem.2
    intro i hi
    obtain ⟨g1, o, g2, _⟩ := mem_ready.1 hi
    have := hall i (Array.getElem?_eq_some_iff.1 g2).1
    have g3 := getD_both g1
    rw [g3] at this; cases this
  | succ fuel ih =>
    intro listed σ a w hsz hc hcnt inv
    refine ⟨fun hnil => fin listed σ a w (fun k => ?_) inv, fun j hj => ?_⟩
    · induction k using Nat.strongRecOn with
      | _ k ihk =>
        intro hk
        cases hd : listed.getD k false with
        | true => rfl
        | false =>
          exfalso
          have hop : ops[k]? = some ops[k] := Array.getElem?_eq_getElem hk
          have : k ∈ Region.ready .any ops listed := mem_ready.2 ⟨getD_in (by rw [hsz]; exact hk) hd, ops[k], hop, fun e he hb' => by
            have hlt := (@drawOk_spec H ops hok k _ hop).1 e he hb'
            exact ihk e.on hlt (by omega)⟩
          rw [hnil] at this; cases this
    · obtain ⟨g1, o, g2, g3⟩ := mem_ready.1 hj
      have hjl := (Array.getElem?_eq_some_iff.1 g2).1
      have hos : (sd j).o = o := Option.some.inj ((h.step j hjl).op.symm.trans g2)
      subst hos
      have now : Now ops (fun k => listed.getD k false) j (sd j).o := ⟨hc, g2, getD_both g1, g3⟩
      have hD' : ∀ k, k < ops.size → (listed.setIfInBounds j true).getD k false = (listed.getD k false || decide (k = j)) := fun k hk => by
        by_cases he : k = j
        · subst he
          simp [hsz, hk]
        · rw [getD_set_ne false (Ne.symm he)]; simp [he]
      have hc' : ∀ i oi, ops[i]? = some oi → (listed.setIfInBounds j true).getD i false = true → ∀ e ∈ oi.after, Region.binds .any e = true → (listed.setIfInBounds j true).getD e.on false = true := fun i oi hi hl e he hb' => by
        by_cases hij : j = i
        · subst hij
          have : oi = (sd j).o := Option.some.inj (hi.symm.trans g2)
          subst this
          exact getD_set_true (g3 e he hb')
        · rw [getD_set_ne false hij] at hl
          exact getD_set_true (hc i oi hi hl e he hb')
      have hcnt' : cntU (fun k => (listed.setIfInBounds j true).getD k false) ops.size ≤ fuel := by
        have := cntU_set (D := fun k => listed.getD k false) (D' := fun k => (listed.setIfInBounds j true).getD k false) now.not hjl hD'
        omega
      have go : ∀ σ' a' w', InvD H K ops.size nt B tm m sd σ0 w0 (fun k => (listed.setIfInBounds j true).getD k false) σ' a' w' → wpAnyIn F n P .any ops Q fuel (listed.setIfInBounds j true) a' w' := fun σ' a' w' inv' => ih _ σ' a' w' (by simp [hsz]) hc' hcnt' inv'
      have hT := tmok_now h hok now h0 hlt0 hrun hfr inv
      have hw : Region.wanted (sd j).o (yielded ops a.tmps) = (sd j).did := by
        rw [same_want h hok now inv, @want_ok (below (holD H m ops.size fun k => listed.getD k false) (m j).nx) σ ⟨(sd j).V, (m j).nx, big⟩ _ _ hT ops (sd j).o, ← same_wantW, (h.step j hjl).want]
      unfold wpOpIn
      rw [g2]
      simp only
      rw [hw]
      cases hd : (sd j).did with
      | false =>
        simp only [Bool.false_eq_true, if_false]
        exact ⟨fun f _ => hF.fn f, go _ _ _ (inv_skip h hb hok now hd inv hD')⟩
      | true =>
        simp only [if_true]
        have hrn := (h.step j hjl).run hd
        have ho := hrn.1
        rw [opW_congr (sd j).o.op (sd j).o.type (same_ev (sd j).o (tm j))] at ho
        have hnd : ∀ c, (sd j).o.op ≠ .defer c := noDefer hrn.1
        have hns : ∀ cs b, (sd j).o.op ≠ .select cs b := fun cs b hq => by
          have := hrn.1
          rw [hq] at this
          cases this
        refine und_in hF hnd ?_
        rw [execOp_congr (sd j).o hns (same_eval h hok now inv)]
        exact op_und' (below (holD H m ops.size fun k => listed.getD k false) (m j).nx) (hS _) (hC _) ho (rel_now h hb hok now hd hfr inv) hT hF fun τ w' k hx => go _ _ _ (inv_did h hb hok now hd hfr inv hD' k hx)
/-- A REGION THAT DRAWS IS SOUND -/
theorem draw_ok (hm : P.follows .mixedOrders = true) (hR : AbsRec R) (hS : ∀ HH : Holes, @SoundCall HH P K R) (hC : ∀ HH : Holes, @SoundCode HH P K R.code) : ∀ H : Holes, @SoundDraw H P K R := by
  intro H nt ops tm0 m0 tm1 m1 hdw F hF σ0 w0 a0 B hr hT hs hM Q n id hQ
  have hb : Bd m0 := fun r y hy => @Lt.lt H _ _ (@Rel.lt H _ _ _ _ hr r y hy)
  obtain ⟨hok, tm, m, ds, sd, h, e1, e2, e3, e4, e5⟩ := @drawW_run H P K R hR nt ops tm0 tm1 m0 m1 hb hdw
  subst e1 e2 e4 e5
  refine wpIn_region_any hm ?_
  have hr' : @Rel H K σ0 (m 0) { w0 with drawn := w0.drawn + 1 } := @Rel.drew H _ _ _ _ hr
  refine draw_go (H := H) (σ0 := σ0) (w0 := { w0 with drawn := w0.drawn + 1 }) (B := B) (nt := nt) hS hC hF h hb hok (fun t ht => @TmOk.out H _ _ _ _ hT t (by rw [hs]; exact ht)) (@TmOk.lt H _ _ _ _ hT) (fun q hq => Nat.lt_of_not_le fun hc => @Rel.fresh H _ _ _ _ hr q hc hq) hr'
    (fun σ a w k hT' hs' hM' => hQ σ a w (@Step.mk H _ _ _ _ _ _ _ (by have g := @Step.nx H _ _ _ _ _ _ _ k; exact g) (by have g := @Step.agree H _ _ _ _ _ _ _ k; exact g) (by have g := @Step.rel H _ _ _ _ _ _ _ k; exact g) (by have g := @Step.goes H _ _ _ _ _ _ _ k; exact ⟨g.os, g.tape, g.output, g.size⟩) (by have g := @Step.frame H _ _ _ _ _ _ _ k; exact g) (by have g := @Step.old H _ _ _ _ _ _ _ k; exact g) (by have g := @Step.new H _ _ _ _ _ _ _ k; exact g) (by have g := @Step.lo H _ _ _ _ _ _ _ k; exact g) (by have g := @Step.keep H _ _ _ _ _ _ _ k; exact g)) hT' hs' hM')
    ops.size (Array.replicate ops.size false) σ0 a0 _ (by simp) (fun j oj _ hl' => by rw [getD_replicate_false] at hl'; cases hl') ?_ (inv_start h (fun k _ => getD_replicate_false _ _) hr' hT hs hM)
  have : ∀ N, cntU (fun k => (Array.replicate ops.size false).getD k false) N = N := fun N => by
    induction N with
    | zero => rfl
    | succ N ih => unfold cntU; rw [ih, getD_replicate_false]; simp
  rw [this]
  exact Nat.le_refl _
end
/-- THE EXECUTOR IS SOUND, ALL OF IT -/
theorem exec_sound {P : Program} {K : Nat → Option (List Value)} (hm : P.follows .mixedOrders = true) (n : Nat) [H : Holes] : SoundCall P K (exec P K n) := by
  have key : ∀ n, ∀ HH : Holes, @SoundCall HH P K (exec P K n) ∧ @SoundCode HH P K (exec P K n).code ∧ @SoundLoop HH P K (exec P K n).code := by
    intro n
    induction n with
    | zero => exact fun HH => ⟨(fun _ _ _ _ _ h => by cases h), (fun _ _ _ _ _ _ _ h => by cases h), (fun _ _ _ _ _ _ _ h => by cases h)⟩
    | succ n ih =>
      intro HH
      have hc := @code_ok HH P K (exec P K n) (ih HH).1 (ih HH).2.1 (ih HH).2.2 (draw_ok hm (@abs_exec HH P K n) (fun H' => (ih H').1) (fun H' => (ih H').2.1) HH)
      exact ⟨@call_ok HH P K (exec P K n) hc, hc, @loop_ok HH P K (exec P K n) hc (ih HH).2.2⟩
  exact (key n H).1
end Go.Ex
namespace Go.Ex
abbrev noHoles : Holes := ⟨fun _ => False⟩
def env0 : Env := ⟨fun _ => 0, fun _ => 0, fun _ => 0, fun _ => undef⟩
theorem rel_empty {K : Nat → Option (List Value)} {w : World} (hK : ∀ g l, K g = some l → ∀ j v, l[j]? = some v → w.cell? ⟨g, j, none⟩ = some v) (hl : ∀ g l, K g = some l → g < w.heap.size) : @Rel noHoles K env0 ⟨.e, 0, big⟩ w := by
  have he : ∀ i, (T.e : T Row).get i = none := fun i => T.get_e i
  refine @Rel.mk noHoles _ _ _ _ (fun i r h => ?_) (fun i r h => ?_) (fun i j r s h => ?_) hK (fun i r h => ?_) hl (fun i _ h => h)
  all_goals (rw [show (⟨.e, 0, big⟩ : Mem).S.get i = none from he i] at h; cases h)
/-- a closed call that the executor runs to the end -/
theorem exec_calls {P : Program} {K : Nat → Option (List Value)} (hm : P.follows .mixedOrders = true) {n f : Nat} {x : W} {m1 : Mem} (h : (exec P K n).call f [] ⟨.e, 0, big⟩ = .ok x m1) {w : World} (hK : ∀ g l, K g = some l → ∀ j v, l[j]? = some v → w.cell? ⟨g, j, none⟩ = some v) (hl : ∀ g l, K g = some l → g < w.heap.size) {F : Fence} (hF : WF F) (q : Nat) :
    CallsIn F q P f #[] w fun e w' => ∃ τ, e = .returned (realW τ x) ∧ Goes w w' ∧ ∀ b, b < w.heap.size → w'.heap[b]? = w.heap[b]? := by
  have hs := (@exec_sound P K hm n noHoles) f [] ⟨.e, 0, big⟩ x m1 h
  have hc := hs.2 F hF env0 w (rel_empty hK hl) (fun a ha => by cases ha) q
  refine CallsIn.mono hc ?_
  rintro e w' ⟨τ, he, k, _⟩
  refine ⟨τ, he, @Step.goes noHoles _ _ _ _ _ _ _ k, fun b hb => @Step.frame noHoles _ _ _ _ _ _ _ k b hb fun i r hi _ _ => ?_⟩
  rw [show (⟨.e, 0, big⟩ : Mem).S.get i = none from T.get_e i] at hi
  cases hi
/-- the answer is true -/
noncomputable def isT : Option W → Bool
  | some (.v (.c (.raw (.bool b)))) => b
  | _ => false
/-- what the kernel runs says what the program answers, in every world that has the table -/
theorem says {P : Program} {K : Nat → Option (List Value)} (hm : P.follows .mixedOrders = true) {n f : Nat} (h : isT (run P K n f []) = true) {w : World} (hK : ∀ g l, K g = some l → ∀ j v, l[j]? = some v → w.cell? ⟨g, j, none⟩ = some v) (hl : ∀ g l, K g = some l → g < w.heap.size) :
    Calls P f #[] w fun e w' => e = .returned (.bool true) ∧ Goes w w' ∧ ∀ b, b < w.heap.size → w'.heap[b]? = w.heap[b]? := by
  unfold run at h
  cases hr : (exec P K n).call f [] ⟨.e, 0, big⟩ with
  | no => rw [hr] at h; cases h
  | ok x m1 =>
    rw [hr] at h
    have hc := exec_calls (F := Fence.wide) hm hr hK hl ⟨fun _ => trivial, rfl⟩ 1
    refine CallsIn.calls (CallsIn.mono hc ?_) (fun k d hd => by cases hd)
    rintro e w' ⟨τ, he, hg, hh⟩
    refine ⟨?_, hg, hh⟩
    dsimp only at h
    unfold isT at h
    split at h
    · rename_i b hx
      cases hx
      subst h
      exact he
    · cases h
end Go.Ex
