/- The executor is sound: code, calls; what stays. -/
import Derived.RangeFuncNested
import Derived.Test.YtmcchddjmobhaaaGreatDoorExF
set_option linter.unusedVariables false
set_option linter.unusedSimpArgs false
set_option linter.unusedSectionVars false
namespace Go.Ex
variable [Holes]
/-- what a region that draws does -/
def SoundDraw (P : Program) (K : Nat → Option (List Value)) (R : Rec) : Prop :=
  ∀ nt ops tm m tm1 m1, drawW P K R nt ops tm m = .ok tm1 m1 → ∀ F, WF F → ∀ σ w a B, Rel K σ m w → TmOk σ m.nx a.tmps tm → a.tmps.size = nt → MarksOk B a w → ∀ Q n id,
    (∀ τ a1 w1, Step K σ m w τ m1 w1 → TmOk τ m1.nx a1.tmps tm1 → a1.tmps.size = nt → MarksOk B a1 w1 → Q .normal a1 w1) → (Code.region id ops true).wpIn F n P Q a w
/-- from a loop's head on -/
def SoundLoop (P : Program) (K : Nat → Option (List Value)) (code : Nat → Code → T W → Mem → R3) : Prop :=
  ∀ nt c tm m e tm1 m1, code nt (.loop c) tm m = .ok e tm1 m1 → ∀ F, WF F → ∀ σ w a B, RoundOk σ m F → Rel K σ m w → TmOk σ m.nx a.tmps tm → a.tmps.size = nt → MarksOk B a w → B ≤ w.heap.size → ∀ Q n,
    (∀ τ a1 w1, Step K σ m w τ m1 w1 → TmOk τ m1.nx a1.tmps tm1 → a1.tmps.size = nt → MarksOk B a1 w1 → Q e a1 w1) → LoopAt F n P c Q a w
section
variable {P : Program} {K : Nat → Option (List Value)} {R : Rec} {σ τ : Env} {m m1 : Mem} {w w1 : World} {F : Fence}
theorem codeW_loop (nt : Nat) (c : Code) (tm : T W) (m : Mem) : codeW P K R nt (.loop c) tm m = match codeW P K R nt c tm m with
    | .ok .normal tm m => R.code nt (.loop c) tm m
    | r => r := rfl
/-- a loop's record is laid -/
theorem step_enter (h : Rel K σ m w) {nt : Nat} {tm : T W} {a : Act} (hT : TmOk σ m.nx a.tmps tm) (hs : a.tmps.size = nt) (fn : FuncId) (ps : Array Tmp) (assign body : Code) (df l : Nat) (hl : w.heap.size ≤ l) (hg : Goes w w1) (hold : ∀ b, b < w.heap.size → w1.heap[b]? = w.heap[b]?)
    (hnew : w1.heap[l]? = some (.loop { state := .ready, pending := none, fn, tmps := a.tmps, params := ps, assign, body, defers := df })) :
    Step K σ m w (σ.set m.nx l 0 0 (.func (.yield l) #[] #[])) (m.add (.loop .ready none nt tm ps.toList assign body)).1 w1 := by
  have hag := Env.agree_set σ m.nx l 0 0 (.func (.yield l) #[] #[])
  exact step_add h _ l 0 0 _ hg hold (fun _ => hl) ⟨fn, a.tmps, df, by simp, hs, hT.agree hag (Nat.le_succ _), by simpa using hnew⟩
theorem range_ok (hS : SoundCall P K R) (hF : WF F) {nt n B : Nat} {g : Operand} {ps : Array Tmp} {assign body : Code} {tm tm1 : T W} {e : Exit} {a : Act} {Q : Exit → Act → World → Prop}
    (hr : leaveW tm m.nx (callF R (ev tm g) [one (.clo m.nx)] (m.add (.loop .ready none nt tm ps.toList assign body)).1) = .ok e tm1 m1) (hRd : RoundOk σ m F) (h : Rel K σ m w) (hT : TmOk σ m.nx a.tmps tm) (hs : a.tmps.size = nt) (hM : MarksOk B a w) (hB : B ≤ w.heap.size)
    (hQ : ∀ τ a1 w1, Step K σ m w τ m1 w1 → TmOk τ m1.nx a1.tmps tm1 → a1.tmps.size = nt → MarksOk B a1 w1 → Q e a1 w1) : (Code.rangeFunc g ps assign body).wpIn F n P Q a w := by
  have hd : ∀ {p : Prop}, (F.depth.isSome = true → p) := fun hq => by rw [hF.depth] at hq; cases hq
  cases hcall : callF R (ev tm g) [one (.clo m.nx)] (m.add (.loop .ready none nt tm ps.toList assign body)).1 with
  | no => rw [hcall] at hr; cases hr
  | ok x m2 =>
    rw [hcall] at hr
    refine wpIn_rangeFunc fun fn _ => ?_
    -- the record
    obtain ⟨l, mark, w₁, he, hl, hg, hold, df, hnew, hM1⟩ : ∃ (l : Nat) (mark : List Deferred) (w₁ : World), (Instr.enterLoop fn a.tmps ps assign body F.round).run P w = .ok (l, mark) w₁ ∧ w.heap.size ≤ l ∧ Goes w w₁ ∧ (∀ b, b < w.heap.size → w₁.heap[b]? = w.heap[b]?) ∧
        ∃ df, w₁.heap[l]? = some (.loop { state := .ready, pending := none, fn, tmps := a.tmps, params := ps, assign, body, defers := df }) ∧ MarksOk B { a with defers := mark ++ a.defers } w₁ := by
      obtain ⟨rs, q1, q2, q3⟩ := hM
      cases hro : F.round with
      | none =>
        refine ⟨_, _, _, run_enterLoop_outer fn a.tmps ps assign body, Nat.le_succ _, (goes_alloc w _).trans (goes_alloc _ _), fun b hb => ?_, w.heap.size, ?_, w.heap.size :: rs, by simp [q1], ?_, fun r hrr => ?_⟩
        · rw [alloc_old _ _ b (by simp; omega), alloc_old _ _ b hb]
        · have := World.alloc_heap_new (w.alloc (.deferred (some []))) (.loop { state := .ready, pending := none, fn, tmps := a.tmps, params := ps, assign, body, defers := w.heap.size })
          rwa [World.size_alloc] at this
        · refine List.nodup_cons.2 ⟨fun hm => ?_, q2⟩
          have := heap_lt (q3 _ hm).2
          omega
        · rcases List.mem_cons.1 hrr with rfl | hrr
          · exact ⟨hB, by rw [alloc_old _ _ _ (by simp)]; exact World.alloc_heap_new w _⟩
          · obtain ⟨p1, p2⟩ := q3 r hrr
            have := heap_lt p2
            exact ⟨p1, by rw [alloc_old _ _ _ (by simp; omega), alloc_old _ _ _ this]; exact p2⟩
      | some l0 =>
        obtain ⟨i, r0, h1, h2, h3⟩ := hRd l0 hro
        obtain ⟨lp, hlp⟩ : ∃ lp, w.heap[l0]? = some (.loop lp) := by
          have := h.row i r0 h1
          cases r0 with
          | loop st p nt tm ps ca cb => obtain ⟨fn, tmps, df, _, _, _, h4⟩ := this; rw [h3] at h4; exact ⟨_, h4⟩
          | _ => cases h2
        refine ⟨_, _, _, run_enterLoop_inner hlp fn a.tmps ps assign body, Nat.le_refl _, goes_alloc w _, fun b hb => alloc_old _ _ b hb, lp.defers, World.alloc_heap_new w _, rs, by simpa using q1, q2, fun r hrr => ?_⟩
        obtain ⟨p1, p2⟩ := q3 r hrr
        exact ⟨p1, by rw [alloc_old _ _ _ (heap_lt p2)]; exact p2⟩
    have k1 := step_enter h hT hs fn ps assign body df l hl hg hold hnew
    have hag := k1.agree
    obtain ⟨d, g', gs, c1, c2, c3, c4⟩ := callF_run (P := P) hcall k1.rel (W.lt.mono (hT.ev a.defers g).2 (Nat.le_succ _)) (fun y hy => by simp at hy; subst hy; exact h.ltnx)
    obtain ⟨hcan, hcalls⟩ := hS g' gs _ x m2 c3
    have hgv : a.eval g = realW (σ.set m.nx l 0 0 (.func (.yield l) #[] #[])) (ev tm g) := by rw [hag.realW (hT.ev a.defers g).2]; exact (hT.ev a.defers g).1
    have hyv : realW (σ.set m.nx l 0 0 (.func (.yield l) #[] #[])) (one (.clo m.nx)) = .func (.yield l) #[] #[] := by simp [one, realW, realV, realC]
    refine ⟨l, mark, w₁, d, w₁, g', _, w₁, he, ?_, fun f' _ => hF.fn f', by rw [c2]; exact callFunc_run hcan, hd, (hcalls F hF _ w₁ k1.rel c4 (n - 1)).mono ?_⟩
    · rw [List.map_cons, List.map_nil, hyv, ← hgv] at c1
      have hcv : a.eval (.const (.func (.yield l) #[] #[])) = .func (.yield l) #[] #[] := rfl
      simp only [resolve, rangeCall, List.map_toArray, List.map_cons, List.map_nil, hcv]
      exact c1
    · rintro e' w₃ ⟨υ, rfl, k2, hx⟩
      have k12 := k1.trans k2
      have hlt : Lt m.nx (m.add (.loop .ready none nt tm ps.toList assign body)).1.nx := h.ltnx
      have hbl : υ.b m.nx = l := by rw [k2.agree.b _ hlt, Env.set_b]
      have hT3 : TmOk υ m2.nx a.tmps tm := hT.agree k12.agree k12.nx
      have hM3 : MarksOk B { a with defers := mark ++ a.defers } w₃ := by
        have := hM1.step (tmps := a.tmps) k1.rel k2
        exact this
      -- the row is there still
      have fin : ∀ (st : LoopState) (pd : Option Code) nt' tm' ps' ca cb, m2.S.get m.nx = some (.loop st pd nt' tm' ps' ca cb) → st ≠ .busy → ∀ e, m1 = ⟨m2.S.set m.nx .dead, m2.nx, lower m.nx m2.lo⟩ → tm1 = tm → (∀ τ a1 w1, Step K σ m w τ m1 w1 → TmOk τ m1.nx a1.tmps tm1 → a1.tmps.size = nt → MarksOk B a1 w1 → Q e a1 w1) →
          (∀ a' w', Q e a' w' → match pd with | none => Q .normal a' w' | some c => c.wpIn F n P Q a' w') → rangePost F n P l Q { a with defers := mark ++ a.defers } (.returned (realW υ x)) w₃ := by
        intro st pd nt' tm' ps' ca cb hrow hst e hm ht hQ' hj
        obtain ⟨fn2, tmps2, df2, v1, v2, v3, v4⟩ := k2.rel.row _ _ hrow
        rw [hbl] at v4
        have hend := run_endLoop (P := P) v4 hst
        refine ⟨_, _, hend, ?_⟩
        have kk := step_kill (w2 := w₃.putObj l (.loop { state := .exhausted, pending := pd, fn := fn2, tmps := tmps2, params := ps'.toArray, assign := ca, body := cb, defers := df2 })) h k12 hrow rfl (Nat.le_refl _) (lower_le _ _).1 (lower_le _ _).2 (goes_put _ _ _) (fun b hb => World.putObj_heap_other (by rw [← hbl]; exact hb))
        subst hm ht
        refine hj _ _ (hQ' υ _ _ kk hT3 hs ?_)
        obtain ⟨rs, q1, q2, q3⟩ := hM3
        refine ⟨rs, q1, q2, fun r hrr => ⟨(q3 r hrr).1, ?_⟩⟩
        rw [World.putObj_heap_other]
        · exact (q3 r hrr).2
        · rintro rfl
          rw [(q3 _ hrr).2] at v4
          cases v4
      unfold leaveW at hr
      simp only at hr
      split at hr
      · cases hr
      · rename_i st nt' tm' ps' ca cb hne hrow
        cases hr
        exact fin st none _ _ _ _ _ hrow (fun e => hne e) .normal rfl rfl hQ (fun _ _ hq => hq)
      · rename_i st nt' tm' ps' ca cb hne hrow
        cases hr
        exact fin st _ _ _ _ _ _ hrow (fun e => hne e) .ret rfl rfl hQ (fun _ _ hq => wpIn_ret hq)
      · rename_i st i nt' tm' ps' ca cb hne hrow
        cases hr
        exact fin st _ _ _ _ _ _ hrow (fun e => hne e) (.exit i) rfl rfl hQ (fun _ _ hq => wpIn_exit hq)
      · rename_i st i nt' tm' ps' ca cb hne hrow
        cases hr
        exact fin st _ _ _ _ _ _ hrow (fun e => hne e) (.goto i) rfl rfl hQ (fun _ _ hq => wpIn_goto hq)
      · cases hr
end
end Go.Ex
namespace Go.Ex
variable [Holes]
section
variable {P : Program} {K : Nat → Option (List Value)} {R : Rec} {σ τ : Env} {m m1 : Mem} {w w1 : World} {F : Fence}
/-- all code but what a loop comes back to -/
theorem code_ok (hS : SoundCall P K R) (hC : SoundCode P K R.code) (hL : SoundLoop P K R.code) (hD : SoundDraw P K R) : SoundCode P K (codeW P K R) := by
  intro nt c
  induction c with
  | skip => intro tm m e tm1 m1 h F hF σ w a B hRd hr hT hs hM hB Q n hQ; cases h; exact wpIn_skip (hQ σ a w (Step.refl hr) hT hs hM)
  | label l => intro tm m e tm1 m1 h F hF σ w a B hRd hr hT hs hM hB Q n hQ; cases h; exact wpIn_label (hQ σ a w (Step.refl hr) hT hs hM)
  | exit id => intro tm m e tm1 m1 h F hF σ w a B hRd hr hT hs hM hB Q n hQ; cases h; exact wpIn_exit (hQ σ a w (Step.refl hr) hT hs hM)
  | goto l => intro tm m e tm1 m1 h F hF σ w a B hRd hr hT hs hM hB Q n hQ; cases h; exact wpIn_goto (hQ σ a w (Step.refl hr) hT hs hM)
  | ret => intro tm m e tm1 m1 h F hF σ w a B hRd hr hT hs hM hB Q n hQ; cases h; exact wpIn_ret (hQ σ a w (Step.refl hr) hT hs hM)
  | refuse why => intro tm m e tm1 m1 h; cases h
  | seq x y ihx ihy =>
    intro tm m e tm1 m1 h F hF σ w a B hRd hr hT hs hM hB Q n hQ
    have h' : (match codeW P K R nt x tm m with | .ok .normal tm m => codeW P K R nt y tm m | r => r) = .ok e tm1 m1 := h
    cases hx : codeW P K R nt x tm m with
    | no => rw [hx] at h'; cases h'
    | ok e1 tm2 m2 =>
      rw [hx] at h'
      refine wpIn_seq (ihx tm m e1 tm2 m2 hx F hF σ w a B hRd hr hT hs hM hB _ n fun τ a1 w1 k hT1 hs1 hM1 => ?_)
      cases e1 with
      | normal => exact ihy tm2 m2 e tm1 m1 h' F hF τ w1 a1 B (hRd.step hr k) k.rel hT1 hs1 hM1 (Nat.le_trans hB k.goes.size) Q n fun υ a2 w2 k2 => hQ υ a2 w2 (k.trans k2)
      | _ => cases h'; exact hQ τ a1 w1 k hT1 hs1 hM1
  | cond c x y ihx ihy =>
    intro tm m e tm1 m1 h F hF σ w a B hRd hr hT hs hM hB Q n hQ
    have h' : (match ev tm c with | .v (.c (.raw (.bool c))) => (Bool.rec (codeW P K R nt y tm m) (codeW P K R nt x tm m) c : R3) | _ => .no) = .ok e tm1 m1 := h
    split at h'
    · rename_i b hb
      have hc : a.eval c = .bool b := by rw [(hT.ev a.defers c).1, hb]; rfl
      refine wpIn_cond hc ?_
      cases b with
      | true => exact ihx tm m e tm1 m1 h' F hF σ w a B hRd hr hT hs hM hB Q n hQ
      | false => exact ihy tm m e tm1 m1 h' F hF σ w a B hRd hr hT hs hM hB Q n hQ
    · cases h'
  | block id x ih =>
    intro tm m e tm1 m1 h F hF σ w a B hRd hr hT hs hM hB Q n hQ
    have h' : (match codeW P K R nt x tm m with | .ok (.exit i) tm m => (Bool.rec (.ok (.exit i) tm m) (.ok .normal tm m) (Nat.beq i id) : R3) | r => r) = .ok e tm1 m1 := h
    cases hx : codeW P K R nt x tm m with
    | no => rw [hx] at h'; cases h'
    | ok e1 tm2 m2 =>
      rw [hx] at h'
      refine wpIn_block (ih tm m e1 tm2 m2 hx F hF σ w a B hRd hr hT hs hM hB _ n fun τ a1 w1 k hT1 hs1 hM1 => ?_)
      cases e1 with
      | exit i =>
        simp only at h'
        cases hi : Nat.beq i id with
        | true =>
          rw [hi] at h'
          cases h'
          have := Nat.eq_of_beq_eq_true hi
          simp only [Exit.inBlock, this, if_true]
          exact hQ τ a1 w1 k hT1 hs1 hM1
        | false =>
          rw [hi] at h'
          cases h'
          have : ¬ i = id := fun e => by rw [e] at hi; have := Nat.beq_refl id; rw [this] at hi; cases hi
          simp only [Exit.inBlock, this, if_false]
          exact hQ τ a1 w1 k hT1 hs1 hM1
      | _ => cases h'; exact hQ τ a1 w1 k hT1 hs1 hM1
  | loop x ih =>
    intro tm m e tm1 m1 h F hF σ w a B hRd hr hT hs hM hB Q n hQ
    have h' : (match codeW P K R nt x tm m with | .ok .normal tm m => R.code nt (.loop x) tm m | r => r) = .ok e tm1 m1 := h
    cases hx : codeW P K R nt x tm m with
    | no => rw [hx] at h'; cases h'
    | ok e1 tm2 m2 =>
      rw [hx] at h'
      refine wpIn_loopAt (loopAt_step (ih tm m e1 tm2 m2 hx F hF σ w a B hRd hr hT hs hM hB _ n fun τ a1 w1 k hT1 hs1 hM1 => ?_))
      cases e1 with
      | normal => exact hL nt x tm2 m2 e tm1 m1 h' F hF τ w1 a1 B (hRd.step hr k) k.rel hT1 hs1 hM1 (Nat.le_trans hB k.goes.size) Q n fun υ a2 w2 k2 => hQ υ a2 w2 (k.trans k2)
      | _ => cases h'; exact hQ τ a1 w1 k hT1 hs1 hM1
  | region id ops d =>
    intro tm m e tm1 m1 h F hF σ w a B hRd hr hT hs hM hB Q n hQ
    have h' : (R2.rec .no (fun tm m => .ok .normal tm m) (Bool.rec (opsW P K R nt ops ops.toList tm m) (drawW P K R nt ops tm m) d : R2) : R3) = .ok e tm1 m1 := h
    cases d with
    | false =>
      cases hx : opsW P K R nt ops ops.toList tm m with
      | no => rw [hx] at h'; cases h'
      | ok tm2 m2 =>
        rw [hx] at h'
        cases h'
        exact wpIn_region_list (ops_ok hS hC hF ops ops.toList tm tm1 m m1 σ w a Q hx hr hT hs hM hQ)
    | true =>
      cases hx : drawW P K R nt ops tm m with
      | no => rw [hx] at h'; cases h'
      | ok tm2 m2 =>
        rw [hx] at h'
        cases h'
        exact hD nt ops tm m tm1 m1 hx F hF σ w a B hr hT hs hM Q n id hQ
  | scope x ih =>
    intro tm m e tm1 m1 h F hF σ w a B hRd hr hT hs hM hB Q n hQ
    have h' : scopeW R nt x (codeW P K R nt x tm m) = .ok e tm1 m1 := h
    cases hx : codeW P K R nt x tm m with
    | no => rw [hx] at h'; cases h'
    | ok e1 tm2 m2 =>
      rw [hx] at h'
      refine wpIn_scopeQ (ih tm m e1 tm2 m2 hx F hF σ w a B hRd hr hT hs hM hB _ n fun τ a1 w1 k hT1 hs1 hM1 => ?_)
      cases e1 with
      | goto l =>
        simp only [scopeW] at h'
        simp only [ScopeQ]
        cases hl : findLabel x l with
        | none => rw [hl] at h'; cases h'; exact hQ τ a1 w1 k hT1 hs1 hM1
        | some rest =>
          rw [hl] at h'
          simp only at h' ⊢
          cases hy : R.code nt rest tm2 m2 with
          | no => rw [hy] at h'; cases h'
          | ok e2 tm3 m3 =>
            rw [hy] at h'
            refine hC nt rest tm2 m2 e2 tm3 m3 hy F hF τ w1 a1 B (hRd.step hr k) k.rel hT1 hs1 hM1 (Nat.le_trans hB k.goes.size) _ n fun υ a2 w2 k2 hT2 hs2 hM2 => ?_
            cases e2 with
            | goto l' => cases h'
            | _ => cases h'; exact hQ υ a2 w2 (k.trans k2) hT2 hs2 hM2
      | _ => cases h'; exact hQ τ a1 w1 k hT1 hs1 hM1
  | rangeFunc g ps assign body _ _ =>
    intro tm m e tm1 m1 h F hF σ w a B hRd hr hT hs hM hB Q n hQ
    exact range_ok hS hF h hRd hr hT hs hM hB hQ
theorem loop_ok (hc : SoundCode P K (codeW P K R)) (hL : SoundLoop P K R.code) : SoundLoop P K (codeW P K R) := by
  intro nt x tm m e tm1 m1 h F hF σ w a B hRd hr hT hs hM hB Q n hQ
  rw [codeW_loop] at h
  cases hx : codeW P K R nt x tm m with
  | no => rw [hx] at h; cases h
  | ok e1 tm2 m2 =>
    rw [hx] at h
    refine loopAt_step (hc nt x tm m e1 tm2 m2 hx F hF σ w a B hRd hr hT hs hM hB _ n fun τ a1 w1 k hT1 hs1 hM1 => ?_)
    cases e1 with
    | normal => exact hL nt x tm2 m2 e tm1 m1 h F hF τ w1 a1 B (hRd.step hr k) k.rel hT1 hs1 hM1 (Nat.le_trans hB k.goes.size) Q n fun υ a2 w2 k2 => hQ υ a2 w2 (k.trans k2)
    | _ => cases h; exact hQ τ a1 w1 k hT1 hs1 hM1
end
end Go.Ex
namespace Go.Ex
variable [Holes]
section
variable {P : Program} {K : Nat → Option (List Value)} {R : Rec} {σ τ : Env} {m m1 : Mem} {w w1 : World} {F : Fence}
theorem tmpsW_get : ∀ (l : List W) (i : Nat) (t : T W) (j : Nat), (tmpsW i l t).get j = if i ≤ j ∧ j < i + l.length then l[j - i]? else t.get j
  | [], i, t, j => by simp only [tmpsW, List.length_nil, Nat.add_zero]; rw [if_neg (by omega)]
  | x :: l, i, t, j => by
    rw [tmpsW, tmpsW_get l (i + 1), T.get_set]
    by_cases h : i + 1 ≤ j ∧ j < i + 1 + l.length
    · rw [if_pos h, if_pos (by simp; omega), show j - i = (j - (i + 1)) + 1 by omega, List.getElem?_cons_succ]
    · rw [if_neg h]
      by_cases h1 : j = i
      · subst h1; rw [if_pos rfl, if_pos (by simp)]; simp
      · rw [if_neg h1, if_neg (by simp; omega)]
theorem args_ok {args : List W} {n nt : Nat} (hl : ∀ a ∈ args, W.lt n a) (hn : args.length ≤ nt) :
    TmOk σ n ((args.map (realW σ)).toArray ++ Array.replicate (nt - (args.map (realW σ)).toArray.size) undef) (tmpsW 0 args .e) ∧ ((args.map (realW σ)).toArray ++ Array.replicate (nt - (args.map (realW σ)).toArray.size) undef).size = nt := by
  have hsz : ((args.map (realW σ)).toArray ++ Array.replicate (nt - (args.map (realW σ)).toArray.size) undef).size = nt := by simp; omega
  refine ⟨⟨fun t ht => ?_, fun t ht => ?_, fun t x hx => ?_⟩, hsz⟩
  · rw [tmpsW_get]
    by_cases h : t < args.length
    · rw [if_pos (by omega), Array.getElem?_append_left (by simpa using h)]
      simp [h]
    · rw [if_neg (by omega), T.get_e, Array.getElem?_append_right (by simp; omega)]
      rw [hsz] at ht
      simp only [Option.getD_none]
      rw [Array.getElem?_replicate, if_pos (by simp; omega)]
      rfl
  · rw [hsz] at ht
    rw [tmpsW_get, if_neg (by omega), T.get_e]
  · rw [tmpsW_get] at hx
    split at hx
    · exact hl x (List.mem_of_getElem? hx)
    · cases hx
/-- one result -/
def resS (tmps : Array Value) : ResultVar → Sem Value
  | .tmp t => pure (tmps.getD t undef)
  | .cell a t => do loadVar t (← asAddr (tmps.getD a undef))
theorem ret_ok (h : Rel K σ m w) {tmps : Array Value} {tm : T W} (hT : TmOk σ m.nx tmps tm) : ∀ (rs : List ResultVar) (l : List V), retW P K m tm rs = some l →
    (rs.mapM (resS tmps)).run P w = .ok (l.map (realV σ)) w ∧ ∀ x ∈ l, V.lt m.nx x
  | [], l, hr => by cases hr; exact ⟨rfl, fun x hx => by cases hx⟩
  | .tmp t :: rs, l, hr => by
    have hr' : (match Option.getD (tm.get t) undefW, retW P K m tm rs with | .v x, some l => some (x :: l) | _, _ => none) = some l := hr
    split at hr'
    · rename_i x l' hx hl
      cases hr'
      obtain ⟨h1, h2⟩ := ret_ok h hT rs l' hl
      have hv := hT.ev [] (.tmp t)
      have hxe : ev tm (.tmp t) = .v x := by
        show (Option.rec undefW (fun x => x) (tm.get t) : W) = _
        rw [← hx]
        cases tm.get t <;> rfl
      rw [hxe] at hv
      refine ⟨?_, fun y hy => ?_⟩
      · have hv1 : tmps.getD t undef = realV σ x := hv.1
        have hres : (resS tmps (.tmp t)).run P w = .ok (realV σ x) w := by rw [← hv1]; rfl
        simp only [List.mapM_cons, Sem.run_bind, hres, Sem.run_pure, Result.andThen_ok, h1, List.map_cons]
      · rcases List.mem_cons.1 hy with rfl | hy
        · exact hv.2
        · exact h2 y hy
    · cases hr'
  | .cell a t :: rs, l, hr => by
    have hr' : (match loadW P K m t (Option.getD (tm.get a) undefW), retW P K m tm rs with | some (.v x), some l => some (x :: l) | _, _ => none) = some l := hr
    split at hr'
    · rename_i x l' hx hl
      cases hr'
      obtain ⟨h1, h2⟩ := ret_ok h hT rs l' hl
      have hv := hT.ev [] (.tmp a)
      have hxe : ev tm (.tmp a) = Option.getD (tm.get a) undefW := by
        show (Option.rec undefW (fun x => x) (tm.get a) : W) = _
        cases tm.get a <;> rfl
      rw [hxe] at hv
      obtain ⟨l1, l2⟩ := load_ok (P := P) h hx hv.2
      have hv1 : tmps.getD a undef = realW σ (Option.getD (tm.get a) undefW) := hv.1
      refine ⟨?_, fun y hy => ?_⟩
      · rw [← hv1] at l1
        have hla : (resS tmps (.cell a t)).run P w = .ok (realV σ x) w := by
          show (do loadVar t (← asAddr (tmps.getD a undef)) : Sem Value).run P w = .ok (realV σ x) w
          revert l1
          cases tmps.getD a undef with
          | pointer p => cases p <;> intro l1 <;> first | exact l1 | (simp [Instr.loadAt, Instr.sureAddr, stuck] at l1)
          | _ => intro l1; simp [Instr.loadAt, Instr.sureAddr, stuck] at l1
        simp only [List.mapM_cons, Sem.run_bind, hla, Sem.run_pure, Result.andThen_ok, h1, List.map_cons]
      · rcases List.mem_cons.1 hy with rfl | hy
        · exact l2
        · exact h2 y hy
    · cases hr'
theorem results_ok (h : Rel K σ m w) {fn : Func} {tmps : Array Value} {tm : T W} (hT : TmOk σ m.nx tmps tm) {l : List V} (hr : retW P K m tm fn.results.toList = some l) :
    (results fn tmps).run P w = .ok (realW σ (ret1 l)) w ∧ W.lt m.nx (ret1 l) := by
  obtain ⟨h1, h2⟩ := ret_ok (P := P) h hT fn.results.toList l hr
  constructor
  · have hfun : results fn tmps = (do
        let vs ← fn.results.mapM (resS tmps)
        pure (if h : vs.size = 1 then vs[0] else .tuple vs)) := by
      unfold results
      congr 1
    rw [hfun, Array.mapM_eq_mapM_toList, map_eq_pure_bind]
    simp only [Sem.run_bind, h1, Result.andThen_ok, Sem.run_pure]
    congr 1
    match l with
    | [] => rfl
    | [x] => rfl
    | x :: y :: l => simp [ret1, realW]
  · match l with
    | [] => exact fun x hx => by cases hx
    | [x] => exact h2 x (by simp)
    | x :: y :: l => exact h2
theorem step_mark (h0 : Rel K σ m w) (k : Step K σ m w τ m1 w1) {b : Nat} {o : Obj} {q : Option (List Deferred)} (hb : w.heap.size ≤ b) (hq : w1.heap[b]? = some (.deferred q)) : Step K σ m w τ m1 (w1.putObj b o) := by
  have hne : ∀ i s, m1.S.get i = some s → s.blk = true → τ.b i ≠ b := fun i s hs hsb he => by
    have := k.rel.row i s hs
    cases s with
    | cells e q' cs => obtain ⟨arr, a1, _⟩ := this; rw [he, hq] at a1; cases a1
    | loop st p nt tm ps ca cb => obtain ⟨fn, tmps, df, _, _, _, a4⟩ := this; rw [he, hq] at a4; cases a4
    | map k es c => have this : w1.heap[τ.b i]? = _ := this; rw [he, hq] at this; cases this
    | _ => cases hsb
  have hg : Goes w1 (w1.putObj b o) := goes_put _ _ _
  refine ⟨k.nx, k.agree, ⟨fun i s hs => (k.rel.row i s hs).keep (Agree.refl _ _) (k.rel.lt i s hs) (Nat.le_refl _) (fun hsb => World.putObj_heap_other (hne i s hs hsb)), k.rel.lt, k.rel.inj,
    known_kept k.rel (fun g l hg' => World.putObj_heap_other (by have := h0.low g l hg'; omega)), k.rel.apart, fun g l hg' => Nat.lt_of_lt_of_le (k.rel.low g l hg') hg.size, k.rel.fresh⟩, k.goes.trans hg, fun c hc hfr => ?_, k.old, k.new, k.lo, k.keep⟩
  rw [World.putObj_heap_other (by omega)]
  exact k.frame c hc hfr
/-- the marks are taken, the results handed on -/
theorem leave_ok (h0 : Rel K σ m w) {n : Nat} {fn : Func} {tm : T W} {l : List V} {Rr : Ending → World → Prop} (hr : retW P K m1 tm fn.results.toList = some l) {tmps : Array Value}
    (hR : ∀ w', Step K σ m w τ m1 w' → Rr (.returned (realW τ (ret1 l))) w') : ∀ (rs : List Nat) (w1 : World), Step K σ m w τ m1 w1 → TmOk τ m1.nx tmps tm → rs.Nodup → (∀ r ∈ rs, w.heap.size ≤ r ∧ w1.heap[r]? = some (.deferred (some []))) →
    LeavesInM F n P fn tmps Rr (rs.map fun r => ({ target := .collected r, args := #[] } : Deferred)) .returning w1
  | [], w1, k, hT, _, _ => ⟨_, (results_ok (P := P) k.rel hT hr).1, hR w1 k⟩
  | r :: rs, w1, k, hT, hn, hm => by
    obtain ⟨h1, h2⟩ := hm r List.mem_cons_self
    refine ⟨by simp, .inl ⟨r, _, rfl, run_takeDeferred (P := P) h2, ?_⟩⟩
    refine leave_ok h0 hr hR rs _ (step_mark h0 k h1 h2) hT (List.nodup_cons.1 hn).2 (fun r' hr' => ⟨(hm r' (List.mem_cons_of_mem _ hr')).1, ?_⟩)
    rw [World.putObj_heap_other (fun e => (List.nodup_cons.1 hn).1 (by rw [← e]; exact hr'))]
    exact (hm r' (List.mem_cons_of_mem _ hr')).2
theorem call_ok (hc : SoundCode P K (codeW P K R)) : ∀ f args m x m1, callFW P K R f args m = .ok x m1 → CanEnter P f ∧ ∀ F, WF F → ∀ σ w, Rel K σ m w → (∀ a ∈ args, W.lt m.nx a) → ∀ n,
    CallsIn F n P f (args.map (realW σ)).toArray w fun e w' => ∃ τ, e = .returned (realW τ x) ∧ Step K σ m w τ m1 w' ∧ W.lt m1.nx x := by
  intro f args m x m1 h
  unfold callFW at h
  split at h
  · cases h
  · rename_i fn hf
    rw [cond_eq_ite] at h
    split at h
    · cases h
    · rename_i hname
      unfold bodyW at h
      split at h
      · cases h
      · rename_i c hbody
        rw [cond_eq_ite] at h
        split at h
        · rename_i hle
          have hle := Nat.le_of_ble_eq_true hle
          refine ⟨⟨fn, hf, by simpa using hname, by rw [hbody]; rfl⟩, fun F hF σ w hr hl n => ?_⟩
          cases hx : codeW P K R fn.ntmps c (tmpsW 0 args .e) m with
          | no => rw [hx] at h; cases h
          | ok e tm1 m2 =>
            rw [hx] at h
            obtain ⟨hT, hsz⟩ := args_ok (σ := σ) hl hle
            have hFp : WF F.plain := ⟨hF.fn, hF.depth⟩
            have key : ∀ l, retW P K m2 tm1 fn.results.toList = some l → x = ret1 l → m1 = m2 → (e = .normal ∨ e = .ret) → CallsIn F.plain n P f (args.map (realW σ)).toArray w fun e w' => ∃ τ, e = .returned (realW τ x) ∧ Step K σ m w τ m1 w' ∧ W.lt m1.nx x := by
              intro l hret hx1 hm1 he
              subst hx1 hm1
              refine callsIn_of_wp_marks hf hbody (hF.fn f) ?_ rfl
              refine hc fn.ntmps c _ m e tm1 m1 hx F.plain hFp σ w _ w.heap.size (fun b hb => by cases hb) hr hT hsz ⟨[], rfl, List.nodup_nil, fun r hr => by cases hr⟩ (Nat.le_refl _) _ n ?_
              rintro τ a1 w1 k hT1 hs1 ⟨rs, q1, q2, q3⟩
              have := leave_ok (F := F.plain) (n := n) (fn := fn) (Rr := fun e w' => ∃ τ, e = .returned (realW τ (ret1 l)) ∧ Step K σ m w τ m1 w' ∧ W.lt m1.nx (ret1 l)) hr hret (fun w' k' => ⟨τ, rfl, k', (results_ok (P := P) (fn := fn) k.rel hT1 hret).2⟩) rs w1 k hT1 q2 q3
              rw [← q1] at this
              rcases he with rfl | rfl <;> exact this
            have fin : ∀ l, retW P K m2 tm1 fn.results.toList = some l → x = ret1 l → m1 = m2 → (e = .normal ∨ e = .ret) → CallsIn F n P f (args.map (realW σ)).toArray w fun e w' => ∃ τ, e = .returned (realW τ x) ∧ Step K σ m w τ m1 w' ∧ W.lt m1.nx x := key
            unfold finW at h
            split at h
            · rename_i tm' m' hq
              cases hq
              unfold retR at h
              split at h
              · rename_i l hret
                cases h
                exact fin l hret rfl rfl (.inl rfl)
              · cases h
            · rename_i tm' m' hq
              cases hq
              unfold retR at h
              split at h
              · rename_i l hret
                cases h
                exact fin l hret rfl rfl (.inr rfl)
              · cases h
            · cases h
        · cases h
end
end Go.Ex
namespace Go.Ex
/-- THE EXECUTOR IS SOUND -/
theorem exec_ok {P : Program} {K : Nat → Option (List Value)} (hD : ∀ R, (∀ [Holes], SoundCall P K R) → (∀ [Holes], SoundCode P K R.code) → ∀ [Holes], SoundDraw P K R) : ∀ n, ∀ [Holes], SoundCall P K (exec P K n) ∧ SoundCode P K (exec P K n).code ∧ SoundLoop P K (exec P K n).code
  | 0 => ⟨(fun _ _ _ _ _ h => by cases h), (fun _ _ _ _ _ _ _ h => by cases h), (fun _ _ _ _ _ _ _ h => by cases h)⟩
  | n + 1 => by
    have ih := exec_ok hD n
    have hc := code_ok ih.1 ih.2.1 ih.2.2 (hD _ (fun [Holes] => (exec_ok hD n).1) (fun [Holes] => (exec_ok hD n).2.1))
    exact ⟨call_ok hc, hc, loop_ok hc ih.2.2⟩
end Go.Ex
namespace Go.Ex
variable [Holes]
/-- all rows lie below the next number -/
def Bd (m : Mem) : Prop := ∀ r x, m.S.get r = some x → r < m.nx
/-- rows below the numbers then, and below the least that was turned, are as they were -/
structure Abs (m m' : Mem) : Prop where
  nx : m.nx ≤ m'.nx
  lo : m'.lo ≤ m.lo
  same : ∀ r, r < m.nx → r < m'.lo → m'.S.get r = m.S.get r
  bd : Bd m → Bd m'
section
variable {P : Program} {K : Nat → Option (List Value)} {R : Rec} {m m1 m2 : Mem}
theorem Abs.refl (m : Mem) : Abs m m := ⟨Nat.le_refl _, Nat.le_refl _, fun _ _ _ => rfl, fun h => h⟩
theorem Abs.trans (h : Abs m m1) (k : Abs m1 m2) : Abs m m2 :=
  ⟨Nat.le_trans h.nx k.nx, Nat.le_trans k.lo h.lo, fun r hr hl => (k.same r (Nat.lt_of_lt_of_le hr h.nx) hl).trans (h.same r hr (Nat.lt_of_lt_of_le hl k.lo)), fun b => k.bd (h.bd b)⟩
theorem abs_add (m : Mem) (r : Row) : Abs m (m.add r).1 := ⟨Nat.le_succ _, Nat.le_refl _, fun i hi _ => by
  show (m.S.set m.nx r).get i = _
  rw [T.get_set, if_neg (by omega)], fun b i x hx => by
  have hx' : (m.S.set m.nx r).get i = some x := hx
  rw [T.get_set] at hx'
  show i < m.nx + 1
  split at hx'
  · omega
  · have := b i x hx'; omega⟩
theorem abs_new (m : Mem) (e : Nat) (l : List C) : Abs m (m.new e l).1 := abs_add m _
theorem abs_set {r : Nat} {s x : Row} {q : Nat} (hq : m.nx ≤ q) (hx : m.S.get r = some x) : Abs m ⟨m.S.set r s, q, lower r m.lo⟩ := ⟨hq, (lower_le _ _).1, fun i _ hl => by
  have := (lower_le r m.lo).2
  show (m.S.set r s).get i = _
  rw [T.get_set, if_neg (by have : i < lower r m.lo := hl; omega)], fun b i y hy => by
  have hy' : (m.S.set r s).get i = some y := hy
  rw [T.get_set] at hy'
  show i < q
  split at hy'
  · rename_i he; subst he; exact Nat.lt_of_lt_of_le (b _ _ hx) hq
  · exact Nat.lt_of_lt_of_le (b i y hy') hq⟩
theorem abs_newT (m : Mem) (e k : Nat) (g : Nat → Option C) : Abs m (m.newT e k g) := abs_add m _
theorem abs_write {r o : Nat} {l : List C} (h : m.write r o l = some m1) : Abs m m1 := by
  unfold Mem.write at h
  split at h
  · rename_i hrow
    obtain ⟨_, rfl⟩ := cond_some h
    exact abs_set (Nat.le_refl _) hrow
  · cases h
theorem abs_pur {x : Option W} {y : W} (h : purW x m = .ok y m1) : Abs m m1 := by
  obtain ⟨_, rfl⟩ := purW_ok h
  exact Abs.refl _
theorem abs_appN {e z n : Nat} {new : List C} {y : W} (h : appN m e z n new = .ok y m1) : Abs m m1 := by cases h; exact abs_new m _ _
theorem abs_appC {e z r o k c n : Nat} {new : List C} {y : W} (h : appC m e z r o k c n new = .ok y m1) : Abs m m1 := by
  unfold appC at h
  rw [cond_eq_ite] at h
  split at h
  · split at h
    · rename_i m2 hw; cases h; exact abs_write hw
    · cases h
  · split at h
    · exact abs_appN h
    · cases h
theorem abs_appU {e z r o k n : Nat} {new : List C} {y : W} (h : appU m e z r o k n new = .ok y m1) : Abs m m1 := by
  have key : ∀ s x, m.S.get r = some x → Abs m ⟨(m.S.set r .dead).set m.nx s, m.nx + 1, lower r m.lo⟩ := fun s x hx => ⟨Nat.le_succ _, (lower_le _ _).1, fun i hi hl => by
    have := (lower_le r m.lo).2
    show ((m.S.set r .dead).set m.nx s).get i = _
    rw [T.get_set, if_neg (by omega), T.get_set, if_neg (by have : i < lower r m.lo := hl; omega)], fun b i y hy => by
    have hy' : ((m.S.set r .dead).set m.nx s).get i = some y := hy
    rw [T.get_set, T.get_set] at hy'
    show i < m.nx + 1
    split at hy'
    · omega
    · split at hy'
      · rename_i he; subst he; have := b _ _ hx; omega
      · have := b i y hy'; omega⟩
  unfold appU at h
  split at h
  · rename_i hrow
    rw [cond_eq_ite] at h
    split at h
    · rw [cond_eq_ite] at h
      split at h
      · split at h
        · cases h; exact key _ _ hrow
        · cases h
      · split at h
        · cases h; exact key _ _ hrow
        · cases h
    · cases h
  · cases h
theorem abs_append0 {sT xT : Nat} {s x y : W} (h : app0W P m sT xT s x = .ok y m1) : Abs m m1 := by
  unfold app0W at h
  split at h
  · cases h
  · split at h
    · cases h
    · split at h
      · rw [cond_eq_ite] at h
        split at h
        · cases h; exact Abs.refl _
        · rw [cond_eq_ite] at h
          split at h
          · exact abs_appN h
          · cases h
      · rw [cond_eq_ite] at h
        split at h
        · split at h
          · rw [cond_eq_ite] at h
            split at h
            · rw [cond_eq_ite] at h
              split at h
              · cases h; exact Abs.refl _
              · cases h
            · exact abs_appC h
          · rw [cond_eq_ite] at h
            split at h
            · rw [cond_eq_ite] at h
              split at h
              · cases h; exact Abs.refl _
              · cases h
            · exact abs_appU h
        · cases h
      · cases h
theorem abs_append {sT xT : Nat} {s x y : W} (h : appendW P m sT xT s x = .ok y m1) : Abs m m1 := by
  unfold appendW at h
  split at h
  · rename_i y' m' hb
    cases h
    unfold bigW at hb
    split at hb
    · rw [cond_eq_ite] at hb
      split at hb
      · split at hb
        · rw [cond_eq_ite] at hb
          split at hb
          · split at hb
            · cases hb; exact abs_newT m _ _ _
            · cases hb
          · cases hb
        · cases hb
      · cases hb
    · cases hb
  unfold app1W at h
  split at h
  · unfold makeNil at h
    split at h
    · rw [cond_eq_ite] at h
      split at h
      · split at h
        · rw [cond_eq_ite] at h
          split at h
          · exact abs_appN h
          · cases h
        · cases h
      · cases h
    · cases h
  · exact abs_append0 h
theorem abs_copy {dT : Nat} {d x y : W} (h : copyW P m dT d x = .ok y m1) : Abs m m1 := by
  unfold copyW at h
  split at h
  · dsimp only at h
    rw [cond_eq_ite] at h
    split at h
    · cases h; exact Abs.refl _
    · rw [cond_eq_ite] at h
      split at h
      · split at h
        · split at h
          · rename_i m2 hw; cases h; exact abs_write hw
          · cases h
        · cases h
      · cases h
  · cases h
theorem abs_clear {t : Nat} {x y : W} (h : clearW P m t x = .ok y m1) : Abs m m1 := by
  unfold clearW at h
  split at h
  · rw [cond_eq_ite] at h
    split at h
    · cases h; exact Abs.refl _
    · rw [cond_eq_ite] at h
      split at h
      · split at h
        · split at h
          · rename_i m2 hw; cases h; exact abs_write hw
          · cases h
        · cases h
      · cases h
  · cases h; exact Abs.refl _
  · cases h; exact Abs.refl _
  · cases h
theorem abs_clrM {r : Nat} {y : W} (h : clearMapW m r = .ok y m1) : Abs m m1 := by
  unfold clearMapW at h
  split at h
  · rename_i hg; cases h; exact abs_set (Nat.le_refl _) hg
  · cases h
theorem abs_clr {t : Nat} {x y : W} (h : clrW P m t x = .ok y m1) : Abs m m1 := by
  unfold clrW at h
  split at h
  · rw [cond_eq_ite] at h
    split at h
    · exact abs_clrM h
    · cases h
  · exact abs_clear h
theorem rowM_get {k : IntKind} {x i : W} {r c : Nat} {es : List (Int × Value × Nat)} {n : Int} (h : rowM m k x i = some (r, es, c, n)) : m.S.get r = some (.map k es c) := (rowM_ok h).2.2
theorem abs_entry {t : Nat} {x i y : W} (h : mapEntryW P m t x i = .ok y m1) : Abs m m1 := by
  unfold mapEntryW at h
  split at h
  · split at h
    · rename_i hrow
      have hg := rowM_get hrow
      split at h
      · cases h; exact abs_set (Nat.le_refl _) hg
      · split at h
        · cases h; exact abs_set (Nat.le_refl _) hg
        · cases h
    · cases h
  · cases h
theorem abs_mupd {t : Nat} {x i v y : W} (h : mapUpdateW P m t x i v = .ok y m1) : Abs m m1 := by
  unfold mapUpdateW at h
  split at h
  · split at h
    · rename_i hrow _
      have hg := rowM_get hrow
      split at h
      · cases h; exact abs_set (Nat.le_refl _) hg
      · cases h; exact abs_set (Nat.le_refl _) hg
    · cases h
  · cases h
theorem abs_estore {x b v y : W} (h : entryStoreW m x b v = .ok y m1) : Abs m m1 := by
  unfold entryStoreW at h
  split at h
  · split at h
    · rename_i hg
      split at h
      · cases h; exact abs_set (Nat.le_refl _) hg
      · cases h
    · cases h
  · cases h
theorem abs_builtin {b : Builtin} {ts : Array Nat} {xs : List W} {raws : Option (List Value)} {ty : Nat} {y : W} (h : builtinW P b ts xs raws ty m = .ok y m1) : Abs m m1 := by
  unfold builtinW at h
  split at h
  · split at h
    · exact abs_append h
    · cases h
  · split at h
    · exact abs_copy h
    · cases h
  · split at h
    · exact abs_clr h
    · cases h
  · split at h
    · exact abs_pur h
    · cases h
  · split at h
    · exact abs_pur h
    · cases h
  · exact abs_pur h
/-- what is called leaves them so -/
structure AbsRec (R : Rec) : Prop where
  call : ∀ f args m x m1, R.call f args m = .ok x m1 → Abs m m1
  code : ∀ nt c tm m e tm1 m1, R.code nt c tm m = .ok e tm1 m1 → Abs m m1
theorem abs_endW {l : Nat} {j : Option Code} {y : W} (h : endW m l j = .ok y m1) : Abs m m1 := by
  unfold endW at h
  split at h
  · rename_i hrow; cases h; exact abs_set (Nat.le_refl _) hrow
  · cases h
theorem abs_round (hR : AbsRec R) {i nt : Nat} {a b : Code} {tm : T W} {y : W} (h : roundW i (beginW R i nt b (R.code nt a tm m)) = .ok y m1) : Abs m m1 := by
  cases ha : R.code nt a tm m with
  | no => rw [ha] at h; cases h
  | ok e tm1 ma =>
    have k1 := hR.code _ _ _ _ _ _ _ ha
    rw [ha] at h
    cases e with
    | normal =>
      simp only [beginW] at h
      cases hrow : ma.S.get i with
      | none => rw [hrow] at h; cases h
      | some r1 =>
        rw [hrow] at h
        split at h
        rotate_left
        · cases h
        rename_i p1 nt1 tmx ps1 a1 b1 hq
        cases hb : R.code nt b tm1 ⟨ma.S.set i (.loop .busy p1 nt1 tmx ps1 a1 b1), ma.nx, lower i ma.lo⟩ with
        | no => rw [hb] at h; cases h
        | ok e2 tm2 mb =>
          rw [hb] at h
          have k2 := hR.code _ _ _ _ _ _ _ hb
          have k12 := (k1.trans (abs_set (r := i) (s := .loop .busy p1 nt1 tmx ps1 a1 b1) (Nat.le_refl _) hrow)).trans k2
          cases e2 with
          | normal => exact k12.trans (abs_endW h)
          | ret => exact k12.trans (abs_endW h)
          | exit j => exact k12.trans (abs_endW h)
          | goto j => exact k12.trans (abs_endW h)
          | panic c => cases h
          | outgrown => cases h
    | _ => cases h
theorem abs_callF (hR : AbsRec R) {f y : W} {args : List W} (h : callF R f args m = .ok y m1) : Abs m m1 := by
  unfold callF at h
  split at h
  · rw [cond_eq_ite] at h
    split at h
    · exact hR.call _ _ _ _ _ h
    · cases h
  · split at h
    · exact hR.call _ _ _ _ _ h
    · cases h
  · cases h
theorem abs_callW (hR : AbsRec R) {f y : W} {args : List W} (h : callW R f args m = .ok y m1) : Abs m m1 := by
  unfold callW at h
  split at h
  · split at h
    · split at h
      · exact abs_round hR h
      · cases h
    · exact abs_callF hR h
  · exact abs_callF hR h
theorem abs_method (hR : AbsRec R) {t : Nat} {x y : W} {name : String} {args : List W} (h : methodW P R t x name args m = .ok y m1) : Abs m m1 := by
  unfold methodW at h
  split at h
  · cases h
  · split at h
    · split at h
      · split at h
        · exact hR.call _ _ _ _ _ h
        · cases h
        · cases h
        · cases h
        · exact hR.call _ _ _ _ _ h
      · cases h
    · cases h
theorem abs_invoke (hR : AbsRec R) {x y : W} {name : String} {args : List W} (h : invokeW P R x name args m = .ok y m1) : Abs m m1 := by
  unfold invokeW at h
  split at h
  · exact abs_method hR h
  · split at h
    · exact abs_method hR h
    · cases h
  · cases h
theorem abs_op (hR : AbsRec R) {o : Op} {ty : Nat} {tm : T W} {y : W} (h : opW P K R o ty tm m = .ok y m1) : Abs m m1 := by
  cases o <;> simp only [opW] at h
  case move => cases h; exact Abs.refl _
  case makeMap =>
    unfold makeMapW at h
    split at h
    · cases h; exact abs_add m _
    · cases h
  case mapEntry => exact abs_entry h
  case entryStore => exact abs_estore h
  case mapUpdate => exact abs_mupd h
  case assign => cases h; exact Abs.refl _
  case alloc =>
    unfold allocW at h
    split at h
    · cases h; exact abs_new m _ _
    · cases h
  case box =>
    unfold boxW at h
    split at h
    · rename_i v _
      cases hg : v.good with
      | false => rw [hg] at h; cases h
      | true => rw [hg] at h; cases h; exact abs_new m _ _
    · cases h
  case buildSlice =>
    unfold buildSliceW at h
    split at h
    · rw [cond_eq_ite] at h
      split at h
      · split at h
        · split at h
          · cases h; exact abs_new m _ _
          · cases h
        · cases h
      · cases h
    · cases h
  case makeSlice =>
    unfold makeSliceW at h
    split at h
    · rw [cond_eq_ite] at h
      split at h
      · rw [cond_eq_ite] at h
        split at h
        · split at h
          · cases h; exact abs_newT m _ _ _
          · cases h
        · split at h
          · cases h; exact abs_new m _ _
          · cases h
      · cases h
    · cases h
  case store =>
    unfold stW storeW at h
    split at h
    · rename_i m2 hs
      cases h
      split at hs
      · split at hs
        · rw [cond_eq_ite] at hs
          split at hs
          · exact abs_write hs
          · cases hs
        · cases hs
      · cases hs
    · cases h
  case makeInterface =>
    unfold ifaceW at h
    split at h
    · cases h
    · cases h
    · cases h; exact Abs.refl _
    · cases h; exact abs_add m _
    · cases h
  case makeFunc => cases h; exact abs_add m _
  case call =>
    unfold callOp at h
    split at h
    · exact abs_callW hR h
    · exact abs_builtin h
    · exact abs_invoke hR h
  all_goals first | exact abs_pur h | (cases h; done)
end
end Go.Ex
namespace Go.Ex
variable [Holes]
/-- something done hides that row of it -/
noncomputable def hidB (ops : Array Oper) (j : Nat) (ds : List Done) (r : Nat) : Bool := ds.any fun d => Nat.beq d.lo big && Nat.blt d.n0 d.n1 && !(waitB ops ops.size j d.j) && (r == d.n0)
theorem hide_get (ops : Array Oper) (j : Nat) : ∀ (ds : List Done) (S : T Row) (r : Nat), (hide ops j ds S).get r = if hidB ops j ds r then none else S.get r
  | [], S, r => by simp [hide, hidB]
  | d :: ds, S, r => by
    have ih := hide_get ops j ds (Bool.rec S (Bool.rec (S.del d.n0) S (waitB ops ops.size j d.j)) (Nat.beq d.lo big && Nat.blt d.n0 d.n1)) r
    have h0 : hide ops j (d :: ds) S = hide ops j ds (Bool.rec S (Bool.rec (S.del d.n0) S (waitB ops ops.size j d.j)) (Nat.beq d.lo big && Nat.blt d.n0 d.n1)) := rfl
    rw [h0, ih]
    have h1 : hidB ops j (d :: ds) r = ((Nat.beq d.lo big && Nat.blt d.n0 d.n1 && !(waitB ops ops.size j d.j) && (r == d.n0)) || hidB ops j ds r) := by simp [hidB]
    rw [h1]
    cases hb : hidB ops j ds r with
    | true => simp
    | false =>
      cases hc : (Nat.beq d.lo big && Nat.blt d.n0 d.n1) with
      | false => simp
      | true =>
        cases hw : waitB ops ops.size j d.j with
        | true => simp
        | false =>
          simp only [Bool.not_false, Bool.true_and, Bool.or_false, beq_iff_eq, Bool.false_eq_true, if_false]
          exact T.get_del S d.n0 r
theorem unhide_get (ops : Array Oper) (j : Nat) (S0 : T Row) : ∀ (ds : List Done) (S : T Row) (r : Nat), (unhide ops j ds S0 S).get r = if hidB ops j ds r then S0.get r else S.get r
  | [], S, r => by simp [unhide, hidB]
  | d :: ds, S, r => by
    have ih := unhide_get ops j S0 ds (Bool.rec S (Bool.rec (T.put (S0.get d.n0) S d.n0) S (waitB ops ops.size j d.j)) (Nat.beq d.lo big && Nat.blt d.n0 d.n1)) r
    have h0 : unhide ops j (d :: ds) S0 S = unhide ops j ds S0 (Bool.rec S (Bool.rec (T.put (S0.get d.n0) S d.n0) S (waitB ops ops.size j d.j)) (Nat.beq d.lo big && Nat.blt d.n0 d.n1)) := rfl
    rw [h0, ih]
    have h1 : hidB ops j (d :: ds) r = ((Nat.beq d.lo big && Nat.blt d.n0 d.n1 && !(waitB ops ops.size j d.j) && (r == d.n0)) || hidB ops j ds r) := by simp [hidB]
    rw [h1]
    cases hb : hidB ops j ds r with
    | true => simp
    | false =>
      cases hc : (Nat.beq d.lo big && Nat.blt d.n0 d.n1) with
      | false => simp
      | true =>
        cases hw : waitB ops ops.size j d.j with
        | true => simp
        | false =>
          simp only [Bool.not_false, Bool.true_and, Bool.or_false, beq_iff_eq, Bool.false_eq_true, if_false]
          rw [T.get_put]
          by_cases hr : r = d.n0
          · subst hr; simp
          · simp [hr]
section
variable {P : Program} {K : Nat → Option (List Value)} {R : Rec} {m m1 m2 : Mem}
theorem putR_val {nt : Nat} {tm tm1 : T W} {d : Option Tmp} {r : R1} (h : putR nt tm d r = .ok tm1 m1) : ∃ x, r = .ok x m1 ∧ (match d with | none => tm1 = tm | some t => t < nt ∧ tm1 = tm.set t x) := by
  cases r with
  | no => cases h
  | ok x m' =>
    cases d with
    | none => cases h; exact ⟨x, rfl, rfl⟩
    | some t =>
      have h' : (Bool.rec .no (.ok (tm.set t x) m') (Nat.blt t nt) : R2) = .ok tm1 m1 := h
      cases hb : Nat.blt t nt with
      | false => rw [hb] at h'; cases h'
      | true => rw [hb] at h'; cases h'; exact ⟨x, rfl, Nat.blt_eq ▸ hb, rfl⟩
theorem abs_step (hR : AbsRec R) {nt : Nat} {ops : Array Oper} {o : Oper} {tm tm1 : T W} (h : stepW P K R nt ops o tm m = .ok tm1 m1) : Abs m m1 := by
  unfold stepW at h
  cases hw : wantW ops tm o with
  | false =>
    rw [hw] at h
    obtain ⟨x, hx, _⟩ := putR_val h
    cases hx; exact Abs.refl _
  | true =>
    rw [hw] at h
    obtain ⟨x, hx, _⟩ := putR_val h
    exact abs_op hR hx
theorem abs_ops (hR : AbsRec R) {nt : Nat} {ops : Array Oper} : ∀ (l : List Oper) {tm tm1 : T W} {m m1 : Mem}, opsW P K R nt ops l tm m = .ok tm1 m1 → Abs m m1
  | [], _, _, _, _, h => by cases h; exact Abs.refl _
  | o :: l, tm, tm1, m, m1, h => by
    have h' : (R2.rec .no (opsW P K R nt ops l) (stepW P K R nt ops o tm m) : R2) = .ok tm1 m1 := h
    cases hs : stepW P K R nt ops o tm m with
    | no => rw [hs] at h'; cases h'
    | ok tm2 m2 => rw [hs] at h'; exact (abs_step hR hs).trans (abs_ops hR l h')
theorem doneW_ok {nt : Nat} {ops : Array Oper} {o : Oper} {ds ds1 : List Done} {d : Done} {tm tm1 : T W} {x : W} (h : doneW nt ops o ds d tm m x = .ok tm1 m1 ds1) :
    ltW m.nx x = true ∧ Nat.blt m.nx big = true ∧ (∀ e ∈ ds, waitB ops ops.size d.j e.j = true ∨ apartB e d = true) ∧ putR nt tm o.dst (.ok x m) = .ok tm1 m ∧ m1 = m ∧ ds1 = d :: ds := by
  unfold doneW at h
  rw [cond_eq_ite] at h
  split at h
  · rename_i hc
    split at h
    · rename_i tm' m' hp
      cases h
      simp only [Bool.and_eq_true, List.all_eq_true, Bool.or_eq_true] at hc
      obtain ⟨⟨h1, h2⟩, h3⟩ := hc
      obtain ⟨y, hy, _⟩ := putR_val hp
      cases hy
      exact ⟨h1, h2, h3, hp, rfl, rfl⟩
    · cases h
  · cases h
theorem readD_ok {nt : Nat} {ops : Array Oper} {j : Nat} {o : Oper} {ds ds1 : List Done} {tm tm1 : T W} (h : readD P K R nt ops j o ds tm m = .ok tm1 m1 ds1) :
    ∃ x m', opW P K R o.op o.type tm ⟨pickRows m.S (readsW tm o.op), m.nx, big⟩ = .ok x m' ∧ m'.nx = m.nx ∧ m'.lo = big ∧ doneW nt ops o ds ⟨j, readsW tm o.op, m.nx, m.nx, big, false⟩ tm m x = .ok tm1 m1 ds1 := by
  unfold readD at h
  dsimp only at h
  split at h
  · rename_i x m' hx
    rw [cond_eq_ite] at h
    split at h
    · rename_i hc
      simp only [Bool.and_eq_true] at hc
      exact ⟨x, m', hx, Nat.eq_of_beq_eq_true hc.1, Nat.eq_of_beq_eq_true hc.2, h⟩
    · cases h
  · cases h
theorem newD_ok {nt : Nat} {ops : Array Oper} {j : Nat} {o : Oper} {ds ds1 : List Done} {tm tm1 : T W} (h : newD P K R nt ops j o ds tm m = .ok tm1 m1 ds1) :
    ∃ x m', opW P K R o.op o.type tm ⟨.e, m.nx, big⟩ = .ok x m' ∧ m'.lo = big ∧ m'.nx ≤ m.nx + 1 ∧
      ((∃ row, m'.S.get m.nx = some row ∧ doneW nt ops o ds ⟨j, [], m.nx, m'.nx, big, false⟩ tm ⟨m.S.set m.nx row, m'.nx, m.lo⟩ x = .ok tm1 m1 ds1) ∨ (m'.S.get m.nx = none ∧ doneW nt ops o ds ⟨j, [], m.nx, m.nx, big, false⟩ tm m x = .ok tm1 m1 ds1)) := by
  unfold newD at h
  split at h
  · rename_i x m' hx
    rw [cond_eq_ite] at h
    split at h
    · rename_i hc
      simp only [Bool.and_eq_true] at hc
      refine ⟨x, m', hx, Nat.eq_of_beq_eq_true hc.1, Nat.le_of_ble_eq_true hc.2, ?_⟩
      split at h
      · rename_i row hrow
        exact .inl ⟨row, hrow, h⟩
      · rename_i hrow
        exact .inr ⟨hrow, h⟩
    · cases h
  · cases h
theorem lineD_ok {nt : Nat} {ops : Array Oper} {j : Nat} {o : Oper} {ds ds1 : List Done} {tm tm1 : T W} (h : lineD P K R nt ops j o ds tm m = .ok tm1 m1 ds1) :
    ∃ x m', opW P K R o.op o.type tm ⟨hide ops j ds m.S, m.nx, big⟩ = .ok x m' ∧ doneW nt ops o ds ⟨j, [], m.nx, m'.nx, lower m'.lo (big - 1), soloW o.op⟩ tm ⟨unhide ops j ds m.S m'.S, m'.nx, lower m'.lo m.lo⟩ x = .ok tm1 m1 ds1 := by
  unfold lineD at h
  dsimp only at h
  split at h
  · rename_i x m' hx
    exact ⟨x, m', hx, h⟩
  · cases h
theorem abs_stepD (hR : AbsRec R) {nt : Nat} {ops : Array Oper} {j : Nat} {o : Oper} {ds ds1 : List Done} {tm tm1 : T W} (h : stepD P K R nt ops j o ds tm m = .ok tm1 m1 ds1) : Abs m m1 := by
  unfold stepD at h
  cases hw : wantW ops tm o with
  | false =>
    rw [hw] at h
    dsimp only at h
    split at h
    · rename_i tm' m' hp
      cases h
      obtain ⟨x, hx, _⟩ := putR_val hp
      cases hx; exact Abs.refl _
    · cases h
  | true =>
    rw [hw] at h
    dsimp only at h
    split at h
    · obtain ⟨x, m', _, _, _, hd⟩ := readD_ok h
      obtain ⟨_, _, _, _, rfl, _⟩ := doneW_ok hd
      exact Abs.refl _
    · obtain ⟨x, m', hx, hlo, hnx, hd | hd⟩ := newD_ok h
      · obtain ⟨row, hrow, hd⟩ := hd
        obtain ⟨_, _, _, _, rfl, _⟩ := doneW_ok hd
        have k := abs_op hR hx
        have hb := k.bd (fun r x hx => by rw [show (⟨.e, m.nx, big⟩ : Mem).S.get r = none from T.get_e _] at hx; cases hx) _ _ hrow
        refine ⟨k.nx, Nat.le_refl _, fun r hr _ => ?_, fun b r y hy => ?_⟩
        · show (m.S.set m.nx row).get r = _
          rw [T.get_set, if_neg (by omega)]
        · have hy' : (m.S.set m.nx row).get r = some y := hy
          rw [T.get_set] at hy'
          have hn : m.nx ≤ m'.nx := k.nx
          show r < m'.nx
          split at hy'
          · omega
          · exact Nat.lt_of_lt_of_le (b r y hy') hn
      · obtain ⟨_, _, _, _, rfl, _⟩ := doneW_ok hd.2
        exact Abs.refl _
    · obtain ⟨x, m', hx, hd⟩ := lineD_ok h
      obtain ⟨_, _, _, _, rfl, _⟩ := doneW_ok hd
      have k := abs_op hR hx
      refine ⟨k.nx, (lower_le _ _).1, fun r hr hl => ?_, fun b r y hy => ?_⟩
      · have hl' : r < m'.lo := Nat.lt_of_lt_of_le hl (lower_le _ _).2
        show (unhide ops j ds m.S m'.S).get r = _
        rw [unhide_get]
        have hs := k.same r hr hl'
        simp only [hide_get] at hs
        cases hb : hidB ops j ds r with
        | true => simp
        | false => rw [hb] at hs; simpa using hs
      · have hy' : (unhide ops j ds m.S m'.S).get r = some y := hy
        rw [unhide_get] at hy'
        have hn : m.nx ≤ m'.nx := k.nx
        show r < m'.nx
        split at hy'
        · exact Nat.lt_of_lt_of_le (b r y hy') hn
        · refine k.bd (fun i x hx => ?_) r y hy'
          have hx' : (hide ops j ds m.S).get i = some x := hx
          rw [hide_get] at hx'
          split at hx'
          · cases hx'
          · exact b i x hx'
theorem abs_opsD (hR : AbsRec R) {nt : Nat} {ops : Array Oper} : ∀ (l : List Oper) (j : Nat) (ds : List Done) {tm tm1 : T W} {m m1 : Mem}, opsD P K R nt ops l j ds tm m = .ok tm1 m1 → Abs m m1
  | [], _, _, _, _, _, _, h => by cases h; exact Abs.refl _
  | o :: l, j, ds, tm, tm1, m, m1, h => by
    have h' : (match stepD P K R nt ops j o ds tm m with | .ok tm m ds => opsD P K R nt ops l (j + 1) ds tm m | .no => .no) = .ok tm1 m1 := h
    cases hs : stepD P K R nt ops j o ds tm m with
    | no => rw [hs] at h'; cases h'
    | ok tm2 m2 ds2 => rw [hs] at h'; exact (abs_stepD hR hs).trans (abs_opsD hR l (j + 1) ds2 h')
theorem abs_leave {tm tm1 : T W} {l : Nat} {r : R1} {e : Exit} (h : leaveW tm l r = .ok e tm1 m1) : ∃ x m, r = .ok x m ∧ Abs m m1 := by
  unfold leaveW at h
  cases r with
  | no => cases h
  | ok x m =>
    refine ⟨x, m, rfl, ?_⟩
    dsimp only at h
    split at h
    · cases h
    all_goals first | (cases h; rename_i hrow; exact abs_set (Nat.le_refl _) hrow) | cases h
theorem abs_code (hR : AbsRec R) : ∀ (c : Code) {nt : Nat} {tm tm1 : T W} {m m1 : Mem} {e : Exit}, codeW P K R nt c tm m = .ok e tm1 m1 → Abs m m1 := by
  intro c
  induction c with
  | skip | label | exit | goto | ret => intro nt tm tm1 m m1 e h; cases h; exact Abs.refl _
  | refuse why => intro nt tm tm1 m m1 e h; cases h
  | seq x y ihx ihy =>
    intro nt tm tm1 m m1 e h
    have h' : (match codeW P K R nt x tm m with | .ok .normal tm m => codeW P K R nt y tm m | r => r) = .ok e tm1 m1 := h
    cases hx : codeW P K R nt x tm m with
    | no => rw [hx] at h'; cases h'
    | ok e1 tm2 m2 =>
      rw [hx] at h'
      cases e1 with
      | normal => exact (ihx hx).trans (ihy h')
      | _ => cases h'; exact ihx hx
  | cond c x y ihx ihy =>
    intro nt tm tm1 m m1 e h
    have h' : (match ev tm c with | .v (.c (.raw (.bool c))) => (Bool.rec (codeW P K R nt y tm m) (codeW P K R nt x tm m) c : R3) | _ => .no) = .ok e tm1 m1 := h
    split at h'
    · rename_i b hb
      cases b with
      | true => exact ihx h'
      | false => exact ihy h'
    · cases h'
  | block id x ih =>
    intro nt tm tm1 m m1 e h
    have h' : (match codeW P K R nt x tm m with | .ok (.exit i) tm m => (Bool.rec (.ok (.exit i) tm m) (.ok .normal tm m) (Nat.beq i id) : R3) | r => r) = .ok e tm1 m1 := h
    cases hx : codeW P K R nt x tm m with
    | no => rw [hx] at h'; cases h'
    | ok e1 tm2 m2 =>
      rw [hx] at h'
      cases e1 with
      | exit i =>
        simp only at h'
        cases hi : Nat.beq i id with
        | true => rw [hi] at h'; cases h'; exact ih hx
        | false => rw [hi] at h'; cases h'; exact ih hx
      | _ => cases h'; exact ih hx
  | loop x ih =>
    intro nt tm tm1 m m1 e h
    have h' : (match codeW P K R nt x tm m with | .ok .normal tm m => R.code nt (.loop x) tm m | r => r) = .ok e tm1 m1 := h
    cases hx : codeW P K R nt x tm m with
    | no => rw [hx] at h'; cases h'
    | ok e1 tm2 m2 =>
      rw [hx] at h'
      cases e1 with
      | normal => exact (ih hx).trans (hR.code _ _ _ _ _ _ _ h')
      | _ => cases h'; exact ih hx
  | region id ops d =>
    intro nt tm tm1 m m1 e h
    have h' : (R2.rec .no (fun tm m => .ok .normal tm m) (Bool.rec (opsW P K R nt ops ops.toList tm m) (drawW P K R nt ops tm m) d : R2) : R3) = .ok e tm1 m1 := h
    cases d with
    | false =>
      cases hx : opsW P K R nt ops ops.toList tm m with
      | no => rw [hx] at h'; cases h'
      | ok tm2 m2 => rw [hx] at h'; cases h'; exact abs_ops hR _ hx
    | true =>
      cases hx : drawW P K R nt ops tm m with
      | no => rw [hx] at h'; cases h'
      | ok tm2 m2 =>
        rw [hx] at h'
        cases h'
        unfold drawW at hx
        rw [cond_eq_ite] at hx
        split at hx
        · exact abs_opsD hR _ _ _ hx
        · cases hx
  | scope x ih =>
    intro nt tm tm1 m m1 e h
    have h' : scopeW R nt x (codeW P K R nt x tm m) = .ok e tm1 m1 := h
    cases hx : codeW P K R nt x tm m with
    | no => rw [hx] at h'; cases h'
    | ok e1 tm2 m2 =>
      rw [hx] at h'
      cases e1 with
      | goto l =>
        simp only [scopeW] at h'
        cases hl : findLabel x l with
        | none => rw [hl] at h'; cases h'; exact ih hx
        | some rest =>
          rw [hl] at h'
          simp only at h'
          cases hy : R.code nt rest tm2 m2 with
          | no => rw [hy] at h'; cases h'
          | ok e2 tm3 m3 =>
            rw [hy] at h'
            have k := (ih hx).trans (hR.code _ _ _ _ _ _ _ hy)
            cases e2 with
            | goto l' => cases h'
            | _ => cases h'; exact k
      | _ => cases h'; exact ih hx
  | rangeFunc g ps assign body _ _ =>
    intro nt tm tm1 m m1 e h
    obtain ⟨x, m2, hc, hl⟩ := abs_leave (show leaveW tm m.nx (callF R (ev tm g) [one (.clo m.nx)] (m.add (.loop .ready none nt tm ps.toList assign body)).1) = .ok e tm1 m1 from h)
    exact ((abs_add m _).trans (abs_callF hR hc)).trans hl
theorem abs_callFW (hR : AbsRec R) {f : FuncId} {args : List W} {x : W} (h : callFW P K R f args m = .ok x m1) : Abs m m1 := by
  unfold callFW at h
  split at h
  · cases h
  · rw [cond_eq_ite] at h
    split at h
    · cases h
    · unfold bodyW at h
      split at h
      · cases h
      · rw [cond_eq_ite] at h
        split at h
        · rename_i fn _ _ _ c _ _
          cases hx : codeW P K R fn.ntmps c (tmpsW 0 args .e) m with
          | no => rw [hx] at h; cases h
          | ok e tm1 m2 =>
            rw [hx] at h
            have k := abs_code hR c hx
            unfold finW at h
            split at h
            · rename_i hq; cases hq
              unfold retR at h
              split at h
              · cases h; exact k
              · cases h
            · rename_i hq; cases hq
              unfold retR at h
              split at h
              · cases h; exact k
              · cases h
            · cases h
        · cases h
end
theorem abs_exec (P : Program) (K : Nat → Option (List Value)) : ∀ n, AbsRec (exec P K n)
  | 0 => ⟨(fun _ _ _ _ _ h => by cases h), (fun _ _ _ _ _ _ _ h => by cases h)⟩
  | n + 1 => ⟨fun _ _ _ _ _ h => abs_callFW (abs_exec P K n) h, fun _ _ _ _ _ _ _ h => abs_code (abs_exec P K n) _ h⟩
end Go.Ex
namespace Go.Ex
variable [Holes]
section
variable {P : Program} {K : Nat → Option (List Value)} {R : Rec} {m m1 m2 mo : Mem}
/-- one old row is turned at most -/
def Solo (m m1 : Mem) : Prop := (∃ r0 x, m.S.get r0 = some x ∧ m1.lo = lower r0 m.lo ∧ ∀ r, r < m.nx → r ≠ r0 → m1.S.get r = m.S.get r) ∨ (m1.lo = m.lo ∧ ∀ r, r < m.nx → m1.S.get r = m.S.get r)
theorem solo_refl (m : Mem) : Solo m m := .inr ⟨rfl, fun _ _ => rfl⟩
theorem solo_write {r o : Nat} {l : List C} (h : m.write r o l = some m1) : Solo m m1 := by
  unfold Mem.write at h
  split at h
  · rename_i hrow
    obtain ⟨_, rfl⟩ := cond_some h
    refine .inl ⟨r, _, hrow, rfl, fun i hi hne => ?_⟩
    show (m.S.set r _).get i = _
    rw [T.get_set, if_neg hne]
  · cases h
theorem solo_new (m : Mem) (e : Nat) (l : List C) : Solo m (m.new e l).1 := .inr ⟨rfl, fun i hi => by
  show (m.S.set m.nx _).get i = _
  rw [T.get_set, if_neg (by omega)]⟩
theorem solo_newT (m : Mem) (e k : Nat) (g : Nat → Option C) : Solo m (m.newT e k g) := .inr ⟨rfl, fun i hi => by
  show (m.S.set m.nx _).get i = _
  rw [T.get_set, if_neg (by omega)]⟩
theorem solo_appC {e z r o k c n : Nat} {new : List C} {y : W} (h : appC m e z r o k c n new = .ok y m1) : Solo m m1 := by
  unfold appC at h
  rw [cond_eq_ite] at h
  split at h
  · split at h
    · rename_i m2 hw; cases h; exact solo_write hw
    · cases h
  · split at h
    · cases h; exact solo_new m _ _
    · cases h
theorem solo_appU {e z r o k n : Nat} {new : List C} {y : W} (h : appU m e z r o k n new = .ok y m1) : Solo m m1 := by
  have key : ∀ s x, m.S.get r = some x → Solo m ⟨(m.S.set r .dead).set m.nx s, m.nx + 1, lower r m.lo⟩ := fun s x hx => .inl ⟨r, x, hx, rfl, fun i hi hne => by
    show ((m.S.set r .dead).set m.nx s).get i = _
    rw [T.get_set, if_neg (by omega), T.get_set, if_neg hne]⟩
  unfold appU at h
  split at h
  · rename_i hrow
    rw [cond_eq_ite] at h
    split at h
    · rw [cond_eq_ite] at h
      split at h
      · split at h
        · cases h; exact key _ _ hrow
        · cases h
      · split at h
        · cases h; exact key _ _ hrow
        · cases h
    · cases h
  · cases h
theorem solo_append0 {sT xT : Nat} {s x y : W} (h : app0W P m sT xT s x = .ok y m1) : Solo m m1 := by
  unfold app0W at h
  split at h
  · cases h
  · split at h
    · cases h
    · split at h
      · rw [cond_eq_ite] at h
        split at h
        · cases h; exact solo_refl _
        · rw [cond_eq_ite] at h
          split at h
          · cases h; exact solo_new m _ _
          · cases h
      · rw [cond_eq_ite] at h
        split at h
        · split at h
          · rw [cond_eq_ite] at h
            split at h
            · rw [cond_eq_ite] at h
              split at h
              · cases h; exact solo_refl _
              · cases h
            · exact solo_appC h
          · rw [cond_eq_ite] at h
            split at h
            · rw [cond_eq_ite] at h
              split at h
              · cases h; exact solo_refl _
              · cases h
            · exact solo_appU h
        · cases h
      · cases h
theorem solo_append {sT xT : Nat} {s x y : W} (h : appendW P m sT xT s x = .ok y m1) : Solo m m1 := by
  unfold appendW at h
  split at h
  · rename_i y' m' hb
    cases h
    unfold bigW at hb
    split at hb
    · rw [cond_eq_ite] at hb
      split at hb
      · split at hb
        · rw [cond_eq_ite] at hb
          split at hb
          · split at hb
            · cases hb; exact solo_newT m _ _ _
            · cases hb
          · cases hb
        · cases hb
      · cases hb
    · cases hb
  unfold app1W at h
  split at h
  · unfold makeNil at h
    split at h
    · rw [cond_eq_ite] at h
      split at h
      · split at h
        · rw [cond_eq_ite] at h
          split at h
          · cases h; exact solo_new m _ _
          · cases h
        · cases h
      · cases h
    · cases h
  · exact solo_append0 h
theorem solo_copy {dT : Nat} {d x y : W} (h : copyW P m dT d x = .ok y m1) : Solo m m1 := by
  unfold copyW at h
  split at h
  · dsimp only at h
    rw [cond_eq_ite] at h
    split at h
    · cases h; exact solo_refl _
    · rw [cond_eq_ite] at h
      split at h
      · split at h
        · split at h
          · rename_i m2 hw; cases h; exact solo_write hw
          · cases h
        · cases h
      · cases h
  · cases h
theorem solo_clear {t : Nat} {x y : W} (h : clearW P m t x = .ok y m1) : Solo m m1 := by
  unfold clearW at h
  split at h
  · rw [cond_eq_ite] at h
    split at h
    · cases h; exact solo_refl _
    · rw [cond_eq_ite] at h
      split at h
      · split at h
        · split at h
          · rename_i m2 hw; cases h; exact solo_write hw
          · cases h
        · cases h
      · cases h
  · cases h; exact solo_refl _
  · cases h; exact solo_refl _
  · cases h
theorem solo_set {r : Nat} {s x : Row} (hr : m.S.get r = some x) : Solo m ⟨m.S.set r s, m.nx, lower r m.lo⟩ := .inl ⟨r, x, hr, rfl, fun i hi hne => by
  show (m.S.set r s).get i = _
  rw [T.get_set, if_neg hne]⟩
theorem solo_clr {t : Nat} {x y : W} (h : clrW P m t x = .ok y m1) : Solo m m1 := by
  unfold clrW at h
  split at h
  · rw [cond_eq_ite] at h
    split at h
    · unfold clearMapW at h
      split at h
      · rename_i hg; cases h; exact solo_set hg
      · cases h
    · cases h
  · exact solo_clear h
theorem solo_entry {t : Nat} {x i y : W} (h : mapEntryW P m t x i = .ok y m1) : Solo m m1 := by
  unfold mapEntryW at h
  split at h
  · split at h
    · rename_i hrow
      have hg := rowM_get hrow
      split at h
      · cases h; exact solo_set hg
      · split at h
        · cases h; exact solo_set hg
        · cases h
    · cases h
  · cases h
theorem solo_mupd {t : Nat} {x i v y : W} (h : mapUpdateW P m t x i v = .ok y m1) : Solo m m1 := by
  unfold mapUpdateW at h
  split at h
  · split at h
    · rename_i hrow _
      have hg := rowM_get hrow
      split at h
      · cases h; exact solo_set hg
      · cases h; exact solo_set hg
    · cases h
  · cases h
theorem solo_estore {x b v y : W} (h : entryStoreW m x b v = .ok y m1) : Solo m m1 := by
  unfold entryStoreW at h
  split at h
  · split at h
    · rename_i hg
      split at h
      · cases h; exact solo_set hg
      · cases h
    · cases h
  · cases h
theorem solo_pur {x : Option W} {y : W} (h : purW x m = .ok y m1) : Solo m m1 := by
  obtain ⟨_, rfl⟩ := purW_ok h
  exact solo_refl _
theorem solo_op {o : Op} {ty : Nat} {tm : T W} {y : W} (hs : soloW o = true) (h : opW P K R o ty tm m = .ok y m1) : Solo m m1 := by
  cases o <;> simp only [soloW] at hs <;> try cases hs
  case mapEntry => simp only [opW] at h; exact solo_entry h
  case entryStore => simp only [opW] at h; exact solo_estore h
  case mapUpdate => simp only [opW] at h; exact solo_mupd h
  case store =>
    simp only [opW] at h
    unfold stW storeW at h
    split at h
    · rename_i m2 hs
      cases h
      split at hs
      · split at hs
        · rw [cond_eq_ite] at hs
          split at hs
          · exact solo_write hs
          · cases hs
        · cases hs
      · cases hs
    · cases h
  case call c =>
    simp only [opW] at h
    unfold callOp at h
    split at h
    · rename_i hc; rw [hc] at hs; cases hs
    · unfold builtinW at h
      dsimp only at h
      split at h
      · split at h
        · exact solo_append h
        · cases h
      · split at h
        · exact solo_copy h
        · cases h
      · split at h
        · exact solo_clr h
        · cases h
      · split at h
        · exact solo_pur h
        · cases h
      · split at h
        · exact solo_pur h
        · cases h
      · exact solo_pur h
    · rename_i hc; rw [hc] at hs; cases hs
theorem blt_dec (a b : Nat) : Nat.blt a b = decide (a < b) := by rw [Bool.eq_iff_iff, decide_eq_true_iff]; exact Iff.of_eq Nat.blt_eq
theorem ble_dec (a b : Nat) : Nat.ble a b = decide (a ≤ b) := by rw [Bool.eq_iff_iff, decide_eq_true_iff]; exact Iff.of_eq Nat.ble_eq
theorem beq_dec (a b : Nat) : Nat.beq a b = decide (a = b) := by rw [Bool.eq_iff_iff, decide_eq_true_iff]; exact Iff.of_eq Nat.beq_eq
theorem lower_eq (a b : Nat) : lower a b = if a ≤ b then a else b := by
  show (Bool.rec b a (Nat.ble a b) : Nat) = _
  rw [brec, ble_dec]
  simp
theorem hit_iff (d : Done) (r : Nat) : hitB d r = true ↔ (d.one = false ∧ lower d.lo d.n0 ≤ r ∧ r < d.n1) ∨ (d.one = true ∧ (r = d.lo ∨ (d.n0 ≤ r ∧ r < d.n1))) := by
  unfold hitB
  rw [blt_dec, blt_dec, ble_dec, beq_dec]
  cases d.one with
  | false => simp
  | true => simp
end
end Go.Ex
namespace Go.Ex
variable [Holes]
theorem pick_get (S : T Row) : ∀ (l : List Nat) (r : Nat) (y : Row), (pickRows S l).get r = some y → S.get r = some y ∧ r ∈ l
  | [], r, y, h => by rw [show (pickRows S []).get r = none from T.get_e _] at h; cases h
  | a :: l, r, y, h => by
    unfold pickRows at h
    cases ha : S.get a with
    | none =>
      rw [ha] at h
      obtain ⟨h1, h2⟩ := pick_get S l r y h
      exact ⟨h1, List.mem_cons_of_mem _ h2⟩
    | some x =>
      rw [ha] at h
      dsimp only at h
      rw [T.get_set] at h
      split at h
      · rename_i hr; cases h; subst hr; exact ⟨ha, List.mem_cons_self⟩
      · obtain ⟨h1, h2⟩ := pick_get S l r y h
        exact ⟨h1, List.mem_cons_of_mem _ h2⟩
/-- what an operation that was done does to the rows -/
structure Eff (ops : Array Oper) (j tg : Nat) (ds : List Done) (V : T Row) (m mo m1 : Mem) (d : Done) (hid : Nat → Bool) : Prop where
  sub : ∀ r y, V.get r = some y → m.S.get r = some y
  n0 : d.n0 = m.nx
  n1 : d.n1 = m1.nx
  nx : m.nx ≤ m1.nx
  top : m1.nx < big
  next : ∀ r, m1.S.get r = if hitB d r = true ∧ hid r = false then mo.S.get r else m.S.get r
  rows : ∀ r y, mo.S.get r = some y → r < m1.nx
  stay : ∀ r y, V.get r = some y → hitB d r = false → mo.S.get r = some y
  out : ∀ r y, mo.S.get r = some y → hitB d r = false → V.get r = some y
  lo : m1.lo ≤ mo.lo
  bnd : ∀ r, hitB d r = true → r < m1.nx ∨ r = big - 1
  full : ∀ r, hitB d r = true → hid r = false → r < m.nx → V.get r = m.S.get r
  mnx : mo.nx = m1.nx ∨ ∀ r, hitB d r = false
  vis : ∀ r y, V.get r = some y → hid r = false
  kr : tg = 1 → (∀ r, hitB d r = false) ∧ ∀ r y, V.get r = some y → r ∈ d.rs
  kn : tg = 2 → (∀ r, V.get r = none) ∧ (∀ r, hitB d r = true → m.nx ≤ r ∧ r < m1.nx) ∧ d.lo = big ∧ m1.nx ≤ m.nx + 1
  kl : tg ≠ 1 → tg ≠ 2 → hid = hidB ops j ds
section
variable {P : Program} {K : Nat → Option (List Value)} {R : Rec} {m m1 m2 mo : Mem}
theorem bd_sub {V : T Row} (hb : Bd m) (h : ∀ r y, V.get r = some y → m.S.get r = some y) : Bd ⟨V, m.nx, big⟩ := fun r y hy => hb r y (h r y hy)
theorem eff_read (hR : AbsRec R) (hb : Bd m) (hlo : m.lo ≤ big) {nt : Nat} {ops : Array Oper} {j : Nat} {o : Oper} {ds ds1 : List Done} {tm tm1 : T W} (h : readD P K R nt ops j o ds tm m = .ok tm1 m1 ds1) :
    ∃ V mo x d hid, opW P K R o.op o.type tm ⟨V, m.nx, big⟩ = .ok x mo ∧ putR nt tm o.dst (.ok x m1) = .ok tm1 m1 ∧ ltW m1.nx x = true ∧ ds1 = d :: ds ∧ d.j = j ∧ (∀ e ∈ ds, waitB ops ops.size j e.j = true ∨ apartB e d = true) ∧ Eff ops j 1 ds V m mo m1 d hid := by
  obtain ⟨x, mo, hx, hnx, hmo, hd⟩ := readD_ok h
  obtain ⟨d1, d2, d3, d4, rfl, d6⟩ := doneW_ok hd
  have k := abs_op hR hx
  have hsub : ∀ r y, (pickRows m1.S (readsW tm o.op)).get r = some y → m1.S.get r = some y := fun r y hy => (pick_get _ _ _ _ hy).1
  have hbo := k.bd (bd_sub hb hsub)
  have hnh : ∀ r, hitB ⟨j, readsW tm o.op, m1.nx, m1.nx, big, false⟩ r = false := fun r => by
    cases hh : hitB ⟨j, readsW tm o.op, m1.nx, m1.nx, big, false⟩ r with
    | false => rfl
    | true =>
      rcases (hit_iff _ _).1 hh with ⟨_, h1, h2⟩ | ⟨h1, _⟩
      · dsimp only at h1 h2
        rw [lower_eq] at h1
        rw [blt_dec, decide_eq_true_iff] at d2
        split at h1 <;> omega
      · cases h1
  rw [blt_dec, decide_eq_true_iff] at d2
  refine ⟨_, mo, x, _, fun _ => false, hx, d4, d1, d6, rfl, d3, ⟨hsub, rfl, rfl, Nat.le_refl _, d2, fun r => by rw [hnh r]; simp, fun r y hy => by have := hbo r y hy; omega, fun r y hy _ => ?_, fun r y hy _ => ?_, by omega, fun r hr => (by rw [hnh r] at hr; cases hr), fun r hr => (by rw [hnh r] at hr; cases hr), .inr hnh, fun _ _ _ => rfl,
    fun _ => ⟨hnh, fun r y hy => (pick_get _ _ _ _ hy).2⟩, (fun h => by cases h), fun h => absurd rfl h⟩⟩
  · rw [k.same r (hb r y (hsub r y hy)) (by have := hb r y (hsub r y hy); omega)]; exact hy
  · have := hbo r y hy
    rw [← k.same r (by show r < m1.nx; omega) (by omega)]; exact hy
theorem eff_new (hR : AbsRec R) (hb : Bd m) (hlo : m.lo ≤ big) {nt : Nat} {ops : Array Oper} {j : Nat} {o : Oper} {ds ds1 : List Done} {tm tm1 : T W} (h : newD P K R nt ops j o ds tm m = .ok tm1 m1 ds1) :
    ∃ V mo x d hid, opW P K R o.op o.type tm ⟨V, m.nx, big⟩ = .ok x mo ∧ putR nt tm o.dst (.ok x m1) = .ok tm1 m1 ∧ ltW m1.nx x = true ∧ ds1 = d :: ds ∧ d.j = j ∧ (∀ e ∈ ds, waitB ops ops.size j e.j = true ∨ apartB e d = true) ∧ Eff ops j 2 ds V m mo m1 d hid := by
  obtain ⟨x, mo, hx, hmo, hnx, hd⟩ := newD_ok h
  have k := abs_op hR hx
  have he : ∀ r, (T.e : T Row).get r = none := fun r => T.get_e _
  have hbo := k.bd (fun r y hy => by rw [show (⟨.e, m.nx, big⟩ : Mem).S.get r = none from he r] at hy; cases hy)
  have hkn : m.nx ≤ mo.nx := k.nx
  rcases hd with ⟨row, hrow, hd⟩ | ⟨hrow, hd⟩
  · obtain ⟨d1, d2, d3, d4, rfl, d6⟩ := doneW_ok hd
    have hlt := hbo _ _ hrow
    have hn1 : mo.nx = m.nx + 1 := by omega
    rw [blt_dec, decide_eq_true_iff] at d2
    have d2' : mo.nx < big := d2
    have hh : ∀ r, hitB ⟨j, [], m.nx, mo.nx, big, false⟩ r = true ↔ r = m.nx := fun r => by
      rw [hit_iff]
      have : lower big m.nx = m.nx := by rw [lower_eq, if_neg (by omega)]
      simp only [this]
      constructor
      · rintro (⟨_, h1, h2⟩ | ⟨h1, _⟩)
        · omega
        · cases h1
      · rintro rfl
        exact .inl ⟨trivial, Nat.le_refl _, hlt⟩
    refine ⟨_, mo, x, _, fun _ => false, hx, d4, d1, d6, rfl, d3, ⟨fun r y hy => (by rw [he] at hy; cases hy), rfl, rfl, hkn, d2, fun r => ?_, fun r y hy => hbo r y hy, fun r y hy _ => (by rw [he] at hy; cases hy), fun r y hy hf => ?_, by rw [hmo]; exact hlo, fun r hr => .inl (by have := (hh r).1 hr; show r < mo.nx; omega), fun r hr _ hl => absurd hl (by have := (hh r).1 hr; omega), .inl rfl, fun _ _ _ => rfl,
      (fun h => by cases h), fun _ => ⟨he, fun r hr => ?_, rfl, hnx⟩, fun _ h => absurd rfl h⟩⟩
    · show (m.S.set m.nx row).get r = _
      rw [T.get_set]
      by_cases hr : r = m.nx
      · rw [if_pos hr, if_pos ⟨(hh r).2 hr, rfl⟩, hr]; exact hrow.symm
      · rw [if_neg hr, if_neg (fun hq => hr ((hh r).1 hq.1))]
    · have h1 := hbo r y hy
      have h2 : r ≠ m.nx := fun e => by rw [(hh r).2 e] at hf; cases hf
      rw [← k.same r (by show r < m.nx; omega) (by omega)]; exact hy
    · have := (hh r).1 hr
      show m.nx ≤ r ∧ r < mo.nx
      omega
  · obtain ⟨d1, d2, d3, d4, rfl, d6⟩ := doneW_ok hd
    rw [blt_dec, decide_eq_true_iff] at d2
    have hh : ∀ r, hitB ⟨j, [], m1.nx, m1.nx, big, false⟩ r = false := fun r => by
      cases hc : hitB ⟨j, [], m1.nx, m1.nx, big, false⟩ r with
      | false => rfl
      | true =>
        rcases (hit_iff _ _).1 hc with ⟨_, h1, h2⟩ | ⟨h1, _⟩
        · dsimp only at h1 h2
          rw [lower_eq] at h1
          split at h1 <;> omega
        · cases h1
    have hro : ∀ r y, mo.S.get r = some y → r < m1.nx := fun r y hy => by
      have h1 := hbo r y hy
      have h2 : r ≠ m1.nx := fun e => by rw [e, hrow] at hy; cases hy
      omega
    refine ⟨_, mo, x, _, fun _ => false, hx, d4, d1, d6, rfl, d3, ⟨fun r y hy => (by rw [he] at hy; cases hy), rfl, rfl, Nat.le_refl _, d2, fun r => by rw [hh r]; simp, hro, fun r y hy _ => (by rw [he] at hy; cases hy), fun r y hy hf => ?_, by rw [hmo]; exact hlo, fun r hr => (by rw [hh r] at hr; cases hr), fun r hr => (by rw [hh r] at hr; cases hr), .inr hh, fun _ _ _ => rfl,
      (fun h => by cases h), fun _ => ⟨he, fun r hr => (by rw [hh r] at hr; cases hr), rfl, Nat.le_succ _⟩, fun _ h => absurd rfl h⟩⟩
    have h1 := hro r y hy
    rw [← k.same r h1 (by omega)]; exact hy
theorem eff_line (hR : AbsRec R) (hb : Bd m) {nt : Nat} {ops : Array Oper} {j tg : Nat} (ht1 : tg ≠ 1) (ht2 : tg ≠ 2) {o : Oper} {ds ds1 : List Done} {tm tm1 : T W} (h : lineD P K R nt ops j o ds tm m = .ok tm1 m1 ds1) :
    ∃ V mo x d hid, opW P K R o.op o.type tm ⟨V, m.nx, big⟩ = .ok x mo ∧ putR nt tm o.dst (.ok x m1) = .ok tm1 m1 ∧ ltW m1.nx x = true ∧ ds1 = d :: ds ∧ d.j = j ∧ (∀ e ∈ ds, waitB ops ops.size j e.j = true ∨ apartB e d = true) ∧ Eff ops j tg ds V m mo m1 d hid := by
  obtain ⟨x, mo, hx, hd⟩ := lineD_ok h
  obtain ⟨d1, d2, d3, d4, rfl, d6⟩ := doneW_ok hd
  have k := abs_op hR hx
  have hkn : m.nx ≤ mo.nx := k.nx
  rw [blt_dec, decide_eq_true_iff] at d2
  have d2' : mo.nx < big := d2
  have hsub : ∀ r y, (hide ops j ds m.S).get r = some y → m.S.get r = some y := fun r y hy => by
    rw [hide_get] at hy
    split at hy
    · cases hy
    · exact hy
  have hbV := bd_sub hb hsub
  have hbo := k.bd hbV
  -- what is not hit is as it was
  have same : ∀ r, hitB ⟨j, [], m.nx, mo.nx, lower mo.lo (big - 1), soloW o.op⟩ r = false → r < mo.nx → r < m.nx ∧ mo.S.get r = (hide ops j ds m.S).get r := fun r hf hr => by
    have hn : ¬ ((soloW o.op = false ∧ lower (lower mo.lo (big - 1)) m.nx ≤ r ∧ r < mo.nx) ∨ (soloW o.op = true ∧ (r = lower mo.lo (big - 1) ∨ (m.nx ≤ r ∧ r < mo.nx)))) := fun hq => by
      rw [(hit_iff _ _).2 hq] at hf; cases hf
    cases hs : soloW o.op with
    | false =>
      have h1 : r < lower (lower mo.lo (big - 1)) m.nx := Nat.lt_of_not_le fun hl => hn (.inl ⟨hs, hl, hr⟩)
      have h2 := lower_le (lower mo.lo (big - 1)) m.nx
      have h3 := lower_le mo.lo (big - 1)
      exact ⟨by omega, k.same r (by show r < m.nx; omega) (by omega)⟩
    | true =>
      have h1 : r < m.nx := Nat.lt_of_not_le fun hl => hn (.inr ⟨hs, .inr ⟨hl, hr⟩⟩)
      refine ⟨h1, ?_⟩
      rcases solo_op hs hx with ⟨r0, y0, hr0, hl0, hsame⟩ | ⟨_, hsame⟩
      · have hlt0 : r0 < m.nx := hbV r0 y0 hr0
        have e1 : mo.lo = r0 := by
          rw [hl0]
          show lower r0 big = r0
          rw [lower_eq, if_pos (by omega)]
        have e2 : lower mo.lo (big - 1) = r0 := by rw [e1, lower_eq, if_pos (by omega)]
        exact hsame r h1 fun e => hn (.inr ⟨hs, .inl (by rw [e2, e])⟩)
      · exact hsame r h1
  refine ⟨_, mo, x, _, hidB ops j ds, hx, d4, d1, d6, rfl, d3, ⟨hsub, rfl, rfl, hkn, d2, fun r => ?_, fun r y hy => hbo r y hy, fun r y hy hf => ?_, fun r y hy hf => ?_, (lower_le _ _).2, fun r hr => ?_, fun r _ hh _ => (by rw [hide_get, hh]; simp), .inl rfl, fun r y hy => ?_, fun h => absurd h ht1, fun h => absurd h ht2, fun _ _ => rfl⟩⟩
  · show (unhide ops j ds m.S mo.S).get r = _
    rw [unhide_get]
    cases hh : hidB ops j ds r with
    | true => simp
    | false =>
      cases hf : hitB ⟨j, [], m.nx, mo.nx, lower mo.lo (big - 1), soloW o.op⟩ r with
      | true => simp
      | false =>
        simp only [Bool.false_eq_true, false_and, if_false]
        rcases Nat.lt_or_ge r mo.nx with hr | hr
        · rw [(same r hf hr).2, hide_get, hh]; simp
        · have e1 : mo.S.get r = none := by
            cases hq : mo.S.get r with
            | none => rfl
            | some y => have := hbo r y hq; omega
          have e2 : m.S.get r = none := by
            cases hq : m.S.get r with
            | none => rfl
            | some y => have := hb r y hq; omega
          rw [e1, e2]
  · have := hb r y (hsub r y hy)
    rw [(same r hf (by omega)).2]; exact hy
  · rw [← (same r hf (hbo r y hy)).2]; exact hy
  · rcases (hit_iff _ _).1 hr with ⟨_, _, h3⟩ | ⟨h1, h2 | ⟨_, h2⟩⟩
    · exact .inl h3
    · have h1' : soloW o.op = true := h1
      have h2' : r = lower mo.lo (big - 1) := h2
      rcases solo_op h1' hx with ⟨r0, y0, hr0, hl0, _⟩ | ⟨hl0, _⟩
      · have hlt0 : r0 < m.nx := hbV r0 y0 hr0
        have e1 : mo.lo = r0 := by
          rw [hl0]
          show lower r0 big = r0
          rw [lower_eq, if_pos (by omega)]
        rw [h2', e1, lower_eq, if_pos (by omega)]
        exact .inl (show r0 < mo.nx by omega)
      · have e1 : mo.lo = big := hl0
        rw [h2', e1, lower_eq, if_neg (by show ¬ (big ≤ big - 1); have : 0 < big := by decide
                                          omega)]
        exact .inr rfl
    · exact .inl h2
  · rw [hide_get] at hy
    cases hh : hidB ops j ds r with
    | false => rfl
    | true => rw [hh] at hy; simp at hy
end
end Go.Ex
namespace Go.Ex
variable [Holes]
/-- the last of those below n that count -/
def lastOf {α : Type} (z : α) (c : Nat → Bool) (v : Nat → α) : Nat → α
  | 0 => z
  | j + 1 => if c j = true then v j else lastOf z c v j
theorem lastOf_congr {α : Type} {z : α} {c c' : Nat → Bool} {v : Nat → α} : ∀ {n : Nat}, (∀ k, k < n → c k = c' k) → lastOf z c v n = lastOf z c' v n
  | 0, _ => rfl
  | n + 1, h => by
    unfold lastOf
    rw [h n (Nat.lt_succ_self _), lastOf_congr fun k hk => h k (Nat.lt_succ_of_lt hk)]
theorem lastOf_stop {α : Type} {z : α} {c : Nat → Bool} {v : Nat → α} {j : Nat} : ∀ {n : Nat}, j ≤ n → (∀ k, j ≤ k → k < n → c k = false) → lastOf z c v n = lastOf z c v j
  | 0, hj, _ => by rw [Nat.le_zero.1 hj]
  | n + 1, hj, h => by
    rcases Nat.lt_or_ge j (n + 1) with hl | hl
    · rw [lastOf, h n (by omega) (Nat.lt_succ_self _), lastOf_stop (by omega : j ≤ n) fun k h1 h2 => h k h1 (Nat.lt_succ_of_lt h2)]
      simp
    · rw [show j = n + 1 by omega]
theorem lastOf_at {α : Type} {z : α} {c : Nat → Bool} {v : Nat → α} {j n : Nat} (hj : j < n) (hc : c j = true) (h : ∀ k, j < k → k < n → c k = false) : lastOf z c v n = v j := by
  rw [lastOf_stop (show j + 1 ≤ n from hj) fun k h1 h2 => h k h1 h2, lastOf, if_pos hc]
theorem lastOf_or {α : Type} {z : α} {c : Nat → Bool} {v : Nat → α} {p : α → Prop} (hz : p z) : ∀ {n : Nat}, (∀ k, k < n → c k = true → p (v k)) → p (lastOf z c v n)
  | 0, _ => hz
  | n + 1, h => by
    unfold lastOf
    split
    · rename_i hc; exact h n (Nat.lt_succ_self _) hc
    · exact lastOf_or hz fun k hk => h k (Nat.lt_succ_of_lt hk)
section
variable {P : Program} {K : Nat → Option (List Value)} {R : Rec}
/-- two that don't wait for one another don't meet -/
theorem pair_apart {ops : Array Oper} {i j tgi tgj : Nat} {dsi dsj : List Done} {Vi Vj : T Row} {mi moi mi1 mj moj mj1 : Mem} {di dj : Done} {hidi hidj : Nat → Bool}
    (ei : Eff ops i tgi dsi Vi mi moi mi1 di hidi) (ej : Eff ops j tgj dsj Vj mj moj mj1 dj hidj) (hle : mi1.nx ≤ mj.nx) (hbi : Bd mi) (hin : di ∈ dsj) (hdi : di.j = i) (ha : apartB di dj = true ∨ apartB dj di = true) (hw : waitB ops ops.size j i = false)
    (hl : tgi ≠ 1 → tgi ≠ 2 → tgj ≠ 1 → tgj ≠ 2 → False) :
    (∀ r y, Vj.get r = some y → ¬ (hitB di r = true ∧ hidi r = false)) ∧ (∀ r y, Vi.get r = some y → ¬ (hitB dj r = true ∧ hidj r = false)) ∧ ∀ r, (hitB di r = true ∧ hidi r = false) → ¬ (hitB dj r = true ∧ hidj r = false) := by
  have a1 : ∀ r, r ∈ di.rs → hitB dj r = false := fun r hr => by
    rcases ha with h | h <;> (unfold apartB at h; simp only [Bool.and_eq_true, List.all_eq_true, Bool.not_eq_true'] at h)
    · exact h.1 r hr
    · exact h.2 r hr
  have a2 : ∀ r, r ∈ dj.rs → hitB di r = false := fun r hr => by
    rcases ha with h | h <;> (unfold apartB at h; simp only [Bool.and_eq_true, List.all_eq_true, Bool.not_eq_true'] at h)
    · exact h.2 r hr
    · exact h.1 r hr
  have hni := ei.nx
  have hnj := ej.nx
  by_cases ti1 : tgi = 1
  · obtain ⟨k1, k2⟩ := ei.kr ti1
    refine ⟨fun r y _ h => ?_, fun r y hy h => ?_, fun r h => ?_⟩
    · rw [k1] at h; cases h.1
    · rw [a1 r (k2 r y hy)] at h; cases h.1
    · rw [k1] at h; cases h.1
  by_cases tj1 : tgj = 1
  · obtain ⟨k1, k2⟩ := ej.kr tj1
    refine ⟨fun r y hy h => ?_, fun r y _ h => ?_, fun r _ h => ?_⟩
    · rw [a2 r (k2 r y hy)] at h; cases h.1
    · rw [k1] at h; cases h.1
    · rw [k1] at h; cases h.1
  by_cases tj2 : tgj = 2
  · obtain ⟨k1, k2, _⟩ := ej.kn tj2
    refine ⟨fun r y hy => ?_, fun r y hy h => ?_, fun r h h' => ?_⟩
    · rw [k1] at hy; cases hy
    · have h1 := hbi r y (ei.sub r y hy)
      have h2 := k2 r h.1
      omega
    · have h2 := k2 r h'.1
      have h3 := ej.top
      rcases ei.bnd r h.1 with h1 | h1 <;> omega
  by_cases ti2 : tgi = 2
  · obtain ⟨k1, k2, k3, k4⟩ := ei.kn ti2
    have hid : ∀ r, hitB di r = true → hidj r = true := fun r hr => by
      have h1 := k2 r hr
      rw [ej.kl tj1 tj2]
      unfold hidB
      rw [List.any_eq_true]
      refine ⟨di, hin, ?_⟩
      have n0 := ei.n0
      have n1 := ei.n1
      rw [hdi, hw, k3, beq_dec, blt_dec, n0, n1]
      have : r = mi.nx := by omega
      subst this
      simp
      omega
    refine ⟨fun r y hy h => ?_, fun r y hy => ?_, fun r h h' => ?_⟩
    · have := ej.vis r y hy
      rw [hid r h.1] at this; cases this
    · rw [k1] at hy; cases hy
    · rw [hid r h.1] at h'; cases h'.2
  · exact (hl ti1 ti2 tj1 tj2).elim
/-- an operation's step: what it read, what it left -/
structure SD where
  did : Bool
  V : T Row
  mo : Mem
  x : W
  d : Done
  hid : Nat → Bool
  o : Oper
/-- it turns that row, for others' eyes -/
noncomputable def SD.wr (s : SD) (r : Nat) : Bool := s.did && hitB s.d r && !(s.hid r)
structure SDok (P : Program) (K : Nat → Option (List Value)) (R : Rec) (nt : Nat) (ops : Array Oper) (j : Nat) (tm : T W) (m : Mem) (ds : List Done) (tm1 : T W) (m1 : Mem) (ds1 : List Done) (s : SD) : Prop where
  op : ops[j]? = some s.o
  want : s.did = wantW ops tm s.o
  put : putR nt tm s.o.dst (.ok s.x m1) = .ok tm1 m1
  skip : s.did = false → m1 = m ∧ ds1 = ds ∧ s.x = undefW
  run : s.did = true → opW P K R s.o.op s.o.type tm ⟨s.V, m.nx, big⟩ = .ok s.x s.mo ∧ ltW m1.nx s.x = true ∧ ds1 = s.d :: ds ∧ s.d.j = j ∧ (∀ e ∈ ds, waitB ops ops.size j e.j = true ∨ apartB e s.d = true) ∧ Eff ops j (tagW s.o.op) ds s.V m s.mo m1 s.d s.hid
theorem stepD_sd (hR : AbsRec R) {nt : Nat} {ops : Array Oper} {j : Nat} {o : Oper} {ds ds1 : List Done} {tm tm1 : T W} {m m1 : Mem} (hb : Bd m) (hlo : m.lo ≤ big) (ho : ops[j]? = some o) (h : stepD P K R nt ops j o ds tm m = .ok tm1 m1 ds1) :
    ∃ s, SDok P K R nt ops j tm m ds tm1 m1 ds1 s := by
  unfold stepD at h
  cases hw : wantW ops tm o with
  | false =>
    rw [hw] at h
    dsimp only at h
    split at h
    · rename_i tm' m' hp
      cases h
      obtain ⟨x, hx, _⟩ := putR_val hp
      cases hx
      exact ⟨⟨false, .e, m, undefW, ⟨0, [], 0, 0, 0, false⟩, fun _ => false, o⟩, ho, hw.symm, hp, fun _ => ⟨rfl, rfl, rfl⟩, (fun e => by cases e)⟩
    · cases h
  | true =>
    rw [hw] at h
    dsimp only at h
    split at h
    · rename_i ht
      obtain ⟨V, mo, x, d, hid, h1, h2, h3, h4, h5, h6, h7⟩ := eff_read hR hb hlo h
      exact ⟨⟨true, V, mo, x, d, hid, o⟩, ho, hw.symm, h2, (fun e => by cases e), fun _ => ⟨h1, h3, h4, h5, h6, by rw [ht]; exact h7⟩⟩
    · rename_i ht
      obtain ⟨V, mo, x, d, hid, h1, h2, h3, h4, h5, h6, h7⟩ := eff_new hR hb hlo h
      exact ⟨⟨true, V, mo, x, d, hid, o⟩, ho, hw.symm, h2, (fun e => by cases e), fun _ => ⟨h1, h3, h4, h5, h6, by rw [ht]; exact h7⟩⟩
    · rename_i ht1 ht2
      obtain ⟨V, mo, x, d, hid, h1, h2, h3, h4, h5, h6, h7⟩ := eff_line (tg := tagW o.op) hR hb (fun e => ht1 e) (fun e => ht2 e) h
      exact ⟨⟨true, V, mo, x, d, hid, o⟩, ho, hw.symm, h2, (fun e => by cases e), fun _ => ⟨h1, h3, h4, h5, h6, h7⟩⟩
/-- the whole region, step by step -/
structure RunD (P : Program) (K : Nat → Option (List Value)) (R : Rec) (nt : Nat) (ops : Array Oper) (N : Nat) (tm : Nat → T W) (m : Nat → Mem) (ds : Nat → List Done) (sd : Nat → SD) : Prop where
  step : ∀ j, j < N → SDok P K R nt ops j (tm j) (m j) (ds j) (tm (j + 1)) (m (j + 1)) (ds (j + 1)) (sd j)
  abs : ∀ j, j < N → Abs (m j) (m (j + 1))
theorem opsD_run (hR : AbsRec R) {nt : Nat} {ops : Array Oper} : ∀ (l : List Oper) (j0 : Nat) (ds0 : List Done) (tm0 tm1 : T W) (m0 m1 : Mem), Bd m0 → m0.lo ≤ big → (∀ i, i < l.length → l[i]? = ops[j0 + i]?) → opsD P K R nt ops l j0 ds0 tm0 m0 = .ok tm1 m1 →
    ∃ (tm : Nat → T W) (m : Nat → Mem) (ds : Nat → List Done), tm j0 = tm0 ∧ m j0 = m0 ∧ ds j0 = ds0 ∧ tm (j0 + l.length) = tm1 ∧ m (j0 + l.length) = m1 ∧
      ∀ j, j0 ≤ j → j < j0 + l.length → (∃ s, SDok P K R nt ops j (tm j) (m j) (ds j) (tm (j + 1)) (m (j + 1)) (ds (j + 1)) s) ∧ Abs (m j) (m (j + 1))
  | [], j0, ds0, tm0, tm1, m0, m1, _, _, _, h => by cases h; exact ⟨fun _ => tm0, fun _ => m0, fun _ => ds0, rfl, rfl, rfl, rfl, rfl, fun j h1 h2 => absurd h2 (by simp; omega)⟩
  | o :: l, j0, ds0, tm0, tm1, m0, m1, hb, hlo, hl, h => by
    have h' : (match stepD P K R nt ops j0 o ds0 tm0 m0 with | .ok tm m ds => opsD P K R nt ops l (j0 + 1) ds tm m | .no => .no) = .ok tm1 m1 := h
    cases hs : stepD P K R nt ops j0 o ds0 tm0 m0 with
    | no => rw [hs] at h'; cases h'
    | ok tm2 m2 ds2 =>
      rw [hs] at h'
      have ho : ops[j0]? = some o := by have := hl 0 (by simp); simpa using this.symm
      have ka := abs_stepD hR hs
      obtain ⟨tm, m, ds, e1, e2, e3, e4, e5, e6⟩ := opsD_run hR l (j0 + 1) ds2 tm2 tm1 m2 m1 (ka.bd hb) (Nat.le_trans ka.lo hlo) (fun i hi => by have := hl (i + 1) (by simp; omega); rw [show j0 + 1 + i = j0 + (i + 1) by omega]; simpa using this) h'
      have ne : ∀ i, j0 + 1 ≤ i → ¬ i = j0 := fun i hi => by omega
      refine ⟨fun i => if i = j0 then tm0 else tm i, fun i => if i = j0 then m0 else m i, fun i => if i = j0 then ds0 else ds i, if_pos rfl, if_pos rfl, if_pos rfl, ?_, ?_, fun j h1 h2 => ?_⟩
      · show (if j0 + (l.length + 1) = j0 then _ else _) = _
        rw [if_neg (by omega), ← e4]; congr 1; rw [List.length_cons]; omega
      · show (if j0 + (l.length + 1) = j0 then _ else _) = _
        rw [if_neg (by omega), ← e5]; congr 1; rw [List.length_cons]; omega
      · by_cases hj : j = j0
        · subst hj
          simp only [if_true, if_neg (ne (j + 1) (Nat.le_refl _)), e1, e2, e3]
          exact ⟨stepD_sd hR hb hlo ho hs, ka⟩
        · simp only [if_neg hj, if_neg (ne (j + 1) (by omega))]
          exact e6 j (by omega) (by simp at h2; omega)
theorem drawW_run (hR : AbsRec R) {nt : Nat} {ops : Array Oper} {tm0 tm1 : T W} {m0 m1 : Mem} (hb : Bd m0) (h : drawW P K R nt ops tm0 m0 = .ok tm1 m1) :
    drawOk ops = true ∧ ∃ tm m ds sd, RunD P K R nt ops ops.size tm m ds sd ∧ tm 0 = tm0 ∧ m 0 = m0 ∧ ds 0 = [] ∧ tm ops.size = tm1 ∧ m ops.size = m1 := by
  unfold drawW at h
  rw [cond_eq_ite] at h
  split at h
  · rename_i hd0
    rw [Bool.and_eq_true] at hd0
    have hlo := Nat.le_of_ble_eq_true hd0.1
    have hd := hd0.2
    obtain ⟨tm, m, ds, e1, e2, e3, e4, e5, e6⟩ := opsD_run hR ops.toList 0 [] tm0 tm1 m0 m1 hb hlo (fun i _ => by simp) h
    have hlen : 0 + ops.toList.length = ops.size := by simp
    rw [hlen] at e4 e5 e6
    obtain ⟨sd, hsd⟩ := Classical.axiomOfChoice (r := fun j s => j < ops.size → SDok P K R nt ops j (tm j) (m j) (ds j) (tm (j + 1)) (m (j + 1)) (ds (j + 1)) s) (fun j => by
      by_cases hj : j < ops.size
      · obtain ⟨s, hs⟩ := (e6 j (Nat.zero_le _) hj).1
        exact ⟨s, fun _ => hs⟩
      · exact ⟨⟨false, .e, m0, undefW, ⟨0, [], 0, 0, 0, false⟩, fun _ => false, ⟨none, .move (.const undef), 0, "", #[], none⟩⟩, fun h => absurd h hj⟩)
    exact ⟨hd, tm, m, ds, sd, ⟨hsd, fun j hj => (e6 j (Nat.zero_le _) hj).2⟩, e1, e2, e3, e4, e5⟩
  · cases h
end
end Go.Ex
