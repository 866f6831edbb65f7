/- The executor is sound: operations. -/
import Derived.TacticsIn
import Derived.Test.YtmcchddjmobhaaaGreatDoorExE
set_option linter.unusedVariables false
set_option linter.unusedSimpArgs false
set_option linter.unusedSectionVars false
namespace Go.Ex
variable [Holes]
section
variable {P : Program} {K : Nat → Option (List Value)} {R : Rec} {σ τ : Env} {m m1 : Mem} {w w1 : World} {F : Fence} {Φ : Value → World → Prop}
theorem callOp_und (hS : SoundCall P K R) (hC : SoundCode P K R.code) {o : Oper} {c : Call} {a : Act} {tm : T W} {x : W} (hop : o.op = .call c) (ho : callOp P R tm m c o.type = .ok x m1) (h : Rel K σ m w) (hT : TmOk σ m.nx a.tmps tm) (hF : WF F)
    (hΦ : ∀ τ w', Step K σ m w τ m1 w' → x.lt m1.nx → Φ (realW τ x) w') : Und F P Φ ((execOp a.eval o).run P w) := by
  have E : ∀ p, a.eval p = realW σ (ev tm p) := fun p => (hT.ev a.defers p).1
  have L : ∀ p, W.lt m.nx (ev tm p) := fun p => (hT.ev a.defers p).2
  unfold execOp
  simp only [hop]
  unfold callOp at ho
  unfold resolve
  rw [evs_map hT c.args]
  split at ho
  · rename_i f hcal
    simp only [hcal, E f]
    exact callW_und hS hC ho h (L f) (evs_lt hT c.args) hF hΦ
  · rename_i b hcal
    simp only [hcal]
    have key : ∀ cs, Und F P Φ ((builtin b c.argTypes o.type cs (((c.args.toList.map (ev tm)).map (realW σ)).toArray)).run P w) := fun cs => by
      obtain ⟨τ, w', h1, h2, h3⟩ := builtin_ok (cs := cs) h ho (evs_lt hT c.args)
      rw [h1]
      exact hΦ τ w' h2 h3
    simp only [Sem.run_bind, Sem.run_pure, Result.andThen_ok]
    exact key _
  · rename_i r name hcal
    simp only [hcal, E r]
    simp only [Sem.run_bind, Sem.run_pure, Result.andThen_ok]
    show Und F P Φ ((invoke (.fn (.method name) #[]) (#[realW σ (ev tm r)] ++ ((c.args.toList.map (ev tm)).map (realW σ)).toArray)).run P w)
    have he : (#[realW σ (ev tm r)] ++ ((c.args.toList.map (ev tm)).map (realW σ)).toArray)[0]? = some (realW σ (ev tm r)) := by simp
    unfold invoke
    simp only [he]
    exact invokeW_und hS (by simp; exact List.take_of_length_le (by simp)) ho h (evs_lt hT c.args) hF hΦ
/-- every operation -/
theorem op_und (hS : SoundCall P K R) (hC : SoundCode P K R.code) {o : Oper} {a : Act} {tm : T W} {x : W} (ho : opW P K R o.op o.type tm m = .ok x m1) (h : Rel K σ m w) (hT : TmOk σ m.nx a.tmps tm) (hF : WF F)
    (hΦ : ∀ τ w', Step K σ m w τ m1 w' → x.lt m1.nx → Φ (realW τ x) w') : Und F P Φ ((execOp a.eval o).run P w) := by
  by_cases hc : ∃ c, o.op = .call c
  · obtain ⟨c, hc⟩ := hc
    rw [hc] at ho
    simp only [opW] at ho
    exact callOp_und hS hC hc ho h hT hF hΦ
  · exact op_plain (fun c hq => hc ⟨c, hq⟩) ho h hT hΦ
theorem want_ok {a : Act} {tm : T W} (hT : TmOk σ m.nx a.tmps tm) (ops : Array Oper) (o : Oper) : Region.wanted o (yielded ops a.tmps) = wantW ops tm o := by
  unfold Region.wanted wantW
  cases hg : o.guard with
  | none => rfl
  | some g =>
    obtain ⟨j, b⟩ := g
    simp only
    unfold yielded
    cases hd : (ops[j]?).bind (·.dst) with
    | none => rfl
    | some d =>
      simp only [Option.bind_some]
      rcases Nat.lt_or_ge d a.tmps.size with hlt | hge
      · rw [hT.get d hlt]
        cases hx : tm.get d with
        | none => rfl
        | some x =>
          simp only [Option.getD_some]
          cases x with
          | t l => rfl
          | v y =>
            cases y with
            | a cs => rfl
            | c z =>
              cases z with
              | raw v => cases v <;> first | rfl | (rename_i q; cases q <;> cases b <;> rfl)
              | sl r o n z c => cases c <;> rfl
              | clo i =>
                have hh : (∃ f p q, realC σ (.clo i) = .func f p q) ∨ realC σ (.clo i) = .nilFunc := by
                  simp only [realC]
                  split
                  · exact .inl ⟨_, _, _, rfl⟩
                  · exact .inr rfl
                rw [show realW σ (.v (.c (.clo i))) = realC σ (.clo i) from rfl]
                rcases hh with ⟨f, p, q, hh⟩ | hh <;> rw [hh] <;> rfl
              | _ => rfl
      · rw [Array.getElem?_eq_none hge, hT.out d hge]
        rfl
theorem und_in {n : Nat} {o : Oper} {a : Act} {next : Act → World → Prop} {Q : Exit → Act → World → Prop} (hF : WF F) (hnd : ∀ c, o.op ≠ .defer c) (h : Und F P (fun v w' => next (a.put o.dst v) w') ((execOp a.eval o).run P w)) : o.wpIn F n P a w next Q := by
  have hsem : o.semAt F.round a.eval = execOp a.eval o := by
    unfold Oper.semAt
    cases hr : F.round with
    | none => rfl
    | some l =>
      cases hop : o.op with
      | defer c => exact absurd hop (hnd c)
      | _ => rfl
  refine ⟨fun f _ => hF.fn f, ?_⟩
  rw [hsem]
  have hd : ∀ {p : Prop}, (F.depth.isSome = true → p) := fun hq => by rw [hF.depth] at hq; cases hq
  revert h
  cases (execOp a.eval o).run P w with
  | halt => exact fun h => h.elim
  | ok x w' =>
    cases x with
    | value v => exact fun h => h
    | skip => exact fun h => h
    | enter f args =>
      intro h
      refine ⟨hd, (h (n - 1)).mono ?_⟩
      rintro e w2 ⟨v, rfl, hv⟩
      exact hv
    | round l f tmps assign body =>
      intro h
      refine ⟨hd, (h (n - 1)).mono ?_⟩
      rintro e w2 ⟨v, rfl, hv⟩
      exact hv
    | _ => exact fun h => h.elim
theorem noDefer {o : Oper} {tm : T W} {x : W} (ho : opW P K R o.op o.type tm m = .ok x m1) : ∀ c, o.op ≠ .defer c := fun c hc => by
  rw [hc] at ho
  cases ho
theorem put_size (a : Act) (d : Option Tmp) (v : Value) : (a.put d v).tmps.size = a.tmps.size := by cases d <;> simp [Act.put]
theorem put_defers (a : Act) (d : Option Tmp) (v : Value) : (a.put d v).defers = a.defers := by cases d <;> rfl
theorem putR_ok {nt : Nat} {tm tm1 : T W} {d : Option Tmp} {r : R1} (h : putR nt tm d r = .ok tm1 m1) : ∃ x, r = .ok x m1 ∧ ∀ (σ : Env) (n : Nat) (a : Act), TmOk σ n a.tmps tm → a.tmps.size = nt → x.lt n → TmOk σ n (a.put d (realW σ x)).tmps tm1 := by
  cases r with
  | no => cases h
  | ok x m2 =>
    cases d with
    | none => cases h; exact ⟨x, rfl, fun σ n a hT _ _ => hT⟩
    | some d =>
      have h' : (Bool.rec .no (.ok (tm.set d x) m2) (Nat.blt d nt) : R2) = .ok tm1 m1 := h
      cases hb : Nat.blt d nt with
      | false => rw [hb] at h'; cases h'
      | true =>
        rw [hb] at h'
        cases h'
        exact ⟨x, rfl, fun σ n a hT hs hx => hT.set hx (by rw [hs]; exact Nat.le_of_ble_eq_true hb)⟩
/-- operations one by one -/
theorem ops_ok (hS : SoundCall P K R) (hC : SoundCode P K R.code) (hF : WF F) {nt n B : Nat} (ops : Array Oper) : ∀ (l : List Oper) (tm tm1 : T W) (m m1 : Mem) (σ : Env) (w : World) (a : Act) (Q : Exit → Act → World → Prop), opsW P K R nt ops l tm m = .ok tm1 m1 → Rel K σ m w → TmOk σ m.nx a.tmps tm → a.tmps.size = nt → MarksOk B a w →
    (∀ τ a1 w1, Step K σ m w τ m1 w1 → TmOk τ m1.nx a1.tmps tm1 → a1.tmps.size = nt → MarksOk B a1 w1 → Q .normal a1 w1) → wpListIn F n P ops Q l a w
  | [], tm, tm1, m, m1, σ, w, a, Q, ho, h, hT, hs, hM, hQ => by cases ho; exact hQ σ a w (Step.refl h) hT hs hM
  | o :: l, tm, tm1, m, m1, σ, w, a, Q, ho, h, hT, hs, hM, hQ => by
    have ho' : (R2.rec .no (opsW P K R nt ops l) (stepW P K R nt ops o tm m) : R2) = .ok tm1 m1 := ho
    cases hst : stepW P K R nt ops o tm m with
    | no => rw [hst] at ho'; cases ho'
    | ok tm2 m2 =>
      rw [hst] at ho'
      have hst' : (Bool.rec (putR nt tm o.dst (.ok undefW m)) (putR nt tm o.dst (opW P K R o.op o.type tm m)) (wantW ops tm o) : R2) = .ok tm2 m2 := hst
      refine wpListIn_step fun KK hK => ?_
      rw [want_ok hT ops o]
      cases hw : wantW ops tm o with
      | false =>
        rw [hw] at hst'
        obtain ⟨x, hx, hput⟩ := putR_ok hst'
        cases hx
        refine ⟨fun f _ => hF.fn f, hK _ _ ?_⟩
        refine ops_ok hS hC hF ops l tm2 tm1 m m1 σ w (a.put o.dst undef) Q ho' h (hput σ m.nx a hT hs (undefW_lt _)) (by rw [put_size]; exact hs) ?_ hQ
        obtain ⟨rs, q1, q2, q3⟩ := hM
        exact ⟨rs, by rw [put_defers]; exact q1, q2, q3⟩
      | true =>
        rw [hw] at hst'
        obtain ⟨x, hx, hput⟩ := putR_ok hst'
        refine und_in hF (noDefer hx) (op_und hS hC hx h hT hF fun τ w' k hxl => hK _ _ ?_)
        refine ops_ok hS hC hF ops l tm2 tm1 m2 m1 τ w' (a.put o.dst (realW τ x)) Q ho' k.rel (hput τ m2.nx a (hT.agree k.agree k.nx) hs hxl) (by rw [put_size]; exact hs) ?_ (fun υ a1 w1 k2 => hQ υ a1 w1 (k.trans k2))
        obtain ⟨rs, q1, q2, q3⟩ := hM.step (tmps := a.tmps) h k
        exact ⟨rs, by rw [put_defers]; exact q1, q2, q3⟩
end
end Go.Ex
namespace Go.Ex
variable [Holes]
section
variable {P : Program} {K : Nat → Option (List Value)} {R : Rec} {σ τ : Env} {m m1 : Mem} {w w1 : World} {F : Fence} {n : Nat} {Q : Exit → Act → World → Prop} {a : Act}
/-- from a loop's head on -/
def LoopAt (F : Fence) (n : Nat) (P : Program) (c : Code) (Q : Exit → Act → World → Prop) (a : Act) (w : World) : Prop :=
  ∀ (b : Frame) (k : List Item) (cs : List Frame), b.roundOf = F.round → F.fn b.fn → F.room (cs.length + 1 + n) →
    ∃ e a' w', Q e a' w' ∧ ArrivesIn (Machine.fenced P F) P (lone (b.atR a (.code c :: .inLoop c :: k)) cs w) b k cs e a' w'
theorem loopAt_step {c : Code} (h : c.wpIn F n P (Exit.then (LoopAt F n P c Q) Q) a w) : LoopAt F n P c Q a w := by
  intro b k cs hro hb hr
  obtain ⟨e, a₁, w₁, hq, harr⟩ := h b (.inLoop c :: k) cs hro hb hr
  cases e with
  | normal =>
    obtain ⟨e₂, a₂, w₂, hq₂, harr₂⟩ := hq b k cs hro hb hr
    exact ⟨e₂, a₂, w₂, hq₂, .of_steps (StepsIn.trans harr (.one (fenced_calm hb hr rfl) stepR_inLoop)) harr₂⟩
  | exit id => exact ⟨_, a₁, w₁, hq, .pass (x := .inLoop c) rfl (fun _ _ => .inl (by simp)) harr⟩
  | goto l => exact ⟨_, a₁, w₁, hq, .pass (x := .inLoop c) rfl (fun _ _ => .inl (by simp)) harr⟩
  | ret => exact ⟨_, a₁, w₁, hq, .pass (x := .inLoop c) rfl (fun _ _ => .inl (by simp)) harr⟩
  | panic ch => exact ⟨_, a₁, w₁, hq, .pass (x := .inLoop c) rfl (fun _ _ => .inl (by simp)) harr⟩
  | outgrown => exact ⟨_, a₁, w₁, hq, .pass (x := .inLoop c) rfl (fun _ _ => .inl (by simp)) harr⟩
theorem wpIn_loopAt {c : Code} (h : LoopAt F n P c Q a w) : (Code.loop c).wpIn F n P Q a w := by
  intro b k cs hro hb hr
  obtain ⟨e, a₁, w₁, hq, harr⟩ := h b k cs hro hb hr
  exact ⟨e, a₁, w₁, hq, .of_steps (.one (fenced_calm hb hr rfl) stepR_loop) harr⟩
theorem stepR_scope' {b : Frame} {k : List Item} {cs : List Frame} {c : Code} : step P (lone (b.atR a (.code (.scope c) :: k)) cs w) = .next (lone (b.atR a (.code c :: .inScope c :: k)) cs w) :=
  step_lone_go (by simp [stepG, stepG.exec, Frame.atR])
theorem stepR_inScope' {b : Frame} {k : List Item} {cs : List Frame} {c : Code} : step P (lone (b.atR a (.inScope c :: k)) cs w) = .next (lone (b.atR a k) cs w) :=
  step_lone_go (by simp [stepG, stepG.exec, Frame.atR])
/-- what a scope makes of how its body is left, without a jump within it -/
theorem scope_pass {b : Frame} {k : List Item} {cs : List Frame} {M : Machine} {c : Code} {e : Exit} {a' : Act} {w' : World} (hb : F.fn b.fn) (hr : F.room (cs.length + 1 + n)) (he : ∀ l, e = .goto l → findLabel c l = none)
    (h : ArrivesIn (Machine.fenced P F) P M b (.inScope c :: k) cs e a' w') : ArrivesIn (Machine.fenced P F) P M b k cs e a' w' := by
  cases e with
  | normal => exact StepsIn.trans h (.one (fenced_calm hb hr rfl) stepR_inScope')
  | exit id => exact ⟨fun k' hk => h.1 k' (by simpa [exitTo] using hk), fun hr' hk => h.2 hr' (by simpa [exitTo] using hk)⟩
  | goto l =>
    have hl := he l rfl
    have hg : gotoIn l (.inScope c :: k) = gotoIn l k := by simp [gotoIn, hl]
    exact ⟨fun k' hk => h.1 k' (by rw [hg]; exact hk), fun hr' hk => h.2 hr' (by rw [hg]; exact hk)⟩
  | ret => exact h
  | panic ch => exact h
  | outgrown => exact h
def ScopeQ (F : Fence) (n : Nat) (P : Program) (c : Code) (Q : Exit → Act → World → Prop) : Exit → Act → World → Prop
  | .goto l, a, w => match findLabel c l with
    | some rest => rest.wpIn F n P (Exit.noGoto Q) a w
    | none => Q (.goto l) a w
  | e, a, w => Q e a w
theorem wpIn_scopeQ {c : Code} (h : c.wpIn F n P (ScopeQ F n P c Q) a w) : (Code.scope c).wpIn F n P Q a w := by
  intro b k cs hro hb hr
  obtain ⟨e, a₁, w₁, hq, harr⟩ := h b (.inScope c :: k) cs hro hb hr
  have h0 : (lone (b.atR a (.code (.scope c) :: k)) cs w).fenced P F := fenced_calm hb hr rfl
  have plain : ∀ e, (∀ l, e = .goto l → findLabel c l = none) → Q e a₁ w₁ → ArrivesIn (Machine.fenced P F) P (lone (b.atR a (.code c :: .inScope c :: k)) cs w) b (.inScope c :: k) cs e a₁ w₁ →
      ∃ e a' w', Q e a' w' ∧ ArrivesIn (Machine.fenced P F) P (lone (b.atR a (.code (.scope c) :: k)) cs w) b k cs e a' w' := fun e he hq harr =>
    ⟨e, a₁, w₁, hq, .of_steps (.one h0 stepR_scope') (scope_pass hb hr he harr)⟩
  cases e with
  | goto l =>
    cases hl : findLabel c l with
    | none =>
      simp only [ScopeQ, hl] at hq
      exact plain _ (fun l' e => by cases e; exact hl) hq harr
    | some rest =>
      simp only [ScopeQ, hl] at hq
      have hg : gotoIn l (.inScope c :: k) = some (.code rest :: .inScope c :: k) := by simp [gotoIn, hl]
      obtain ⟨e₂, a₂, w₂, hq₂, harr₂⟩ := hq b (.inScope c :: k) cs hro hb hr
      have hs := harr.1 _ hg
      cases e₂ with
      | goto l' => exact hq₂.elim
      | normal => exact ⟨_, a₂, w₂, hq₂, .of_steps (.head h0 stepR_scope' hs) (scope_pass (c := c) hb hr (fun _ e => by cases e) harr₂)⟩
      | exit id => exact ⟨_, a₂, w₂, hq₂, .of_steps (.head h0 stepR_scope' hs) (scope_pass (c := c) hb hr (fun _ e => by cases e) harr₂)⟩
      | ret => exact ⟨_, a₂, w₂, hq₂, .of_steps (.head h0 stepR_scope' hs) (scope_pass (c := c) hb hr (fun _ e => by cases e) harr₂)⟩
      | panic ch => exact ⟨_, a₂, w₂, hq₂, .of_steps (.head h0 stepR_scope' hs) (scope_pass (c := c) hb hr (fun _ e => by cases e) harr₂)⟩
      | outgrown => exact ⟨_, a₂, w₂, hq₂, .of_steps (.head h0 stepR_scope' hs) (scope_pass (c := c) hb hr (fun _ e => by cases e) harr₂)⟩
  | normal => exact plain _ (fun _ e => by cases e) hq harr
  | exit id => exact plain _ (fun _ e => by cases e) hq harr
  | ret => exact plain _ (fun _ e => by cases e) hq harr
  | panic ch => exact plain _ (fun _ e => by cases e) hq harr
  | outgrown => exact plain _ (fun _ e => by cases e) hq harr
end
end Go.Ex
