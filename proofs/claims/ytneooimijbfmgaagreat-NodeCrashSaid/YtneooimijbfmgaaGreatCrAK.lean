
import Derived.Test.YtneooimijbfmgaaGreatCrAJ
set_option linter.unusedVariables false
set_option linter.unusedSimpArgs false
set_option linter.unusedSectionVars false
/- Loops, by invariants. -/
namespace Go.Vc
section
variable [Holes]
section
variable {K : Nat → Option (List Value)} {b : Bs} {F F0 : Nat → Prop} {B0 : Nat} {σ τ : Env} {m m2 : Mem} {Y Y2 : T YRow} {w : World} {ρ ρ2 : Rho} {n n2 i : Nat}
theorem RowOk.rlt {r : Row} (h : RowOk σ n w i r) : RowLt n r := by
  cases r with
  | cells e k cs =>
    obtain ⟨arr, _, _, _, h4⟩ := h
    intro j c hj hc
    obtain ⟨c', h5, h6, _⟩ := h4 j hj
    rw [hc] at h5; cases h5
    exact h6
  | fn f a b => exact ⟨h.2.1, h.2.2⟩
  | val x => exact h.2
  | loop st p nt tm ps a b =>
    obtain ⟨fn, tmps, df, _, _, h3, _⟩ := h
    exact h3.lt
  | dead => trivial
  | map kk es c => trivial
theorem YOk.ylt {y : YRow} (h : YOk F B0 σ n w i y) : YLt n y := by
  cases y with
  | fp own cs => exact fun j c hj => (h.2 j c hj).1
  | od e z o j => exact h.1
  | fz o c j => exact h.1
  | ep q x z => exact ⟨h.1, h.2.1⟩
  | ov q x z => exact ⟨h.1, h.2.1⟩
  | _ => trivial
/-- a row, with fewer numbers -/
theorem RowOk.cut {r s : Row} (h : RowOk σ n2 w i s) (hs : RowEx (fun j => (i, j) ∈ ([] : List (Nat × Nat))) r s) (hl : RowLt n r) : RowOk σ n w i r := by
  rcases hs with rfl | ⟨e, k, t, t', rfl, rfl, hj⟩
  · cases r with
    | cells e k cs =>
      obtain ⟨arr, h1, h2, h3, h4⟩ := h
      refine ⟨arr, h1, h2, h3, fun j hj => ?_⟩
      obtain ⟨c, h5, _, h6⟩ := h4 j hj
      exact ⟨c, h5, hl j c hj h5, h6⟩
    | fn f a b => exact ⟨h.1, hl.1, hl.2⟩
    | val x => exact ⟨h.1, hl⟩
    | loop st p nt tm ps a b =>
      obtain ⟨fn, tmps, df, h1, h2, h3, h4⟩ := h
      exact ⟨fn, tmps, df, h1, h2, ⟨h3.get, hl⟩, h4⟩
    | dead => trivial
    | map kk es c => exact h
  · obtain ⟨arr, h1, h2, h3, h4⟩ := h
    refine ⟨arr, h1, h2, h3, fun j hjk => ?_⟩
    obtain ⟨c, h5, _, h6⟩ := h4 j hjk
    rw [hj j hjk (by simp)] at h5
    exact ⟨c, h5, hl j c hjk h5, h6⟩
theorem YOk.cut {y y2 : YRow} (h : YOk F B0 σ n2 w i y2) (hs : YSame y y2) (hl : YLt n y) : YOk F B0 σ n w i y := by
  rcases hs with rfl | ⟨rfl, _, rfl⟩ | rfl
  · cases y with
    | fp own cs => exact ⟨h.1, fun j c hj => ⟨hl j c hj, (h.2 j c hj).2⟩⟩
    | od e z o j => exact ⟨hl, h.2⟩
    | fz o c j => exact ⟨hl, h.2⟩
    | ep q x z => exact ⟨hl.1, hl.2, h.2.2⟩
    | ov q x z => exact ⟨hl.1, hl.2, h.2.2⟩
    | _ => exact h
  · trivial
  · trivial
theorem Agree.low (h : Agree n2 σ τ) (hn : n ≤ n2) : Agree n σ τ :=
  ⟨fun i hi => h.b i (hi.mono hn), fun i hi => h.o i (hi.mono hn), fun i hi => h.k i (hi.mono hn), fun i hi => h.v i (hi.mono hn), fun i hi => h.rn i (hi.mono hn), fun i hi => h.rt i (hi.mono hn), fun i hi => h.rs i (hi.mono hn), fun i hi => h.rd i (hi.mono hn)⟩
theorem RowEx.blk {ex : Nat → Prop} {r s : Row} (h : RowEx ex r s) : r.blk = s.blk ∧ r.isLoop = s.isLoop := by
  rcases h with rfl | ⟨e, k, t, t', rfl, rfl, _⟩ <;> exact ⟨rfl, rfl⟩
/-- numbers that a symbol's datum has -/
def YNum (j : Nat) : YRow → Prop
  | .fz _ _ i => i = j
  | .od _ _ _ i => i = j
  | _ => False
theorem YAg.agree' {y : YRow} (h : YAg ρ σ i y) (hi : Lt i n) (ha : Agree n σ τ) (hj : ∀ j, YNum j y → Lt j n) : YAg ρ τ i y := by
  cases y with
  | int => exact (ha.rn i hi).trans h
  | bool => exact (ha.rt i hi).trans h
  | kb b => exact (ha.rt i hi).trans h
  | str => exact (ha.rs i hi).trans h
  | fz o c j => exact (ha.rd j (hj j rfl)).trans h
  | od e z o j => exact (ha.rd j (hj j rfl)).trans h
  | _ => trivial
theorem hylt' {y : YRow} (hn : n ≤ n2) (h : YLt n y) (j : Nat) (hj : YNum j y) : Lt j n2 := by
  cases y with
  | fz o c i => cases hj; exact Lt.mono h hn
  | od e z o i => cases hj; exact Lt.mono h hn
  | _ => cases hj
/-- less is told -/
theorem Aw.sub (h : Aw K b m2 Y2 ρ2 σ w) (hs : SEx [] m.S m2.S) (hY : ∀ i y, Y.get i = some y → ∃ y2, Y2.get i = some y2 ∧ YSame y y2) (hn0 : b.n0 ≤ m.nx) (hn1 : m.nx ≤ b.n1) (hag : SymAg ρ b.σ1 Y)
    (hylt : ∀ i y, Y.get i = some y → Lt i m.nx ∧ YLt m.nx y) (hrlt : ∀ i r, m.S.get i = some r → Lt i m.nx ∧ RowLt m.nx r) (hloops : ∀ i, b.L i → ∃ s, m.S.get i = some s ∧ s.isLoop = true) (hfr : ∀ i, m.nx ≤ i → ¬ Holes.h i) :
    Aw K (b.lim m.nx) m Y ρ σ w ∧ ∀ F, YRel F b.F0 b.wB.heap.size σ m2 Y2 w → YRel F b.F0 b.wB.heap.size σ m Y w := by
  have hy : ∀ F, YRel F b.F0 b.wB.heap.size σ m2 Y2 w → YRel F b.F0 b.wB.heap.size σ m Y w := fun F hF => by
    have od : ∀ {i e z o j}, Y.get i = some (.od e z o j) → Y2.get i = some (.od e z o j) := fun {i e z o j} hi => by
      obtain ⟨y2, h1, h2⟩ := hY i _ hi
      rcases h2 with rfl | ⟨h2, _⟩ | h2
      · exact h1
      · cases h2
      · cases h2
    refine ⟨fun g hg => ⟨(hF.dom g hg).1, fun i r hi hb => ?_, (hF.dom g hg).2.2⟩, fun i y hi => ?_, fun i e z o j hi hl => ?_, fun i e z o j i' e' z' o' j' hi hi' => hF.odi i e z o j i' e' z' o' j' (od hi) (od hi')⟩
    · obtain ⟨s, h1, h2⟩ := hs i r hi
      exact (hF.dom g hg).2.1 i s h1 (by rw [← h2.blk.1]; exact hb)
    · obtain ⟨y2, h1, h2⟩ := hY i y hi
      exact ⟨(hylt i y hi).1, (hF.row i y2 h1).2.cut h2 (hylt i y hi).2⟩
    · obtain ⟨h1, h2, h3, h4⟩ := hF.od i e z o j (od hi) hl
      refine ⟨h1, h2, h3, fun q r hq hb => ?_⟩
      obtain ⟨s, h5, h6⟩ := hs q r hq
      exact h4 q s h5 (by rw [← h6.blk.1]; exact hb)
  refine ⟨⟨⟨fun i r hi => ?_, fun i r hi => (hrlt i r hi).1, fun i j r s hr hs' hrb hsb he => ?_, h.rel.known, fun i r hi hb => ?_, h.rel.low, hfr⟩, hn0, h.agree, Nat.min_le_right _ _, h.agree1.low (Nat.min_le_left _ _), h.base, h.goes, h.frame, fun i r hi hb => ?_, ?_, fun i y hi => ?_, h.dfr, hloops, h.klow⟩, hy⟩
  · obtain ⟨s, h1, h2⟩ := hs i r hi
    exact (h.rel.row i s h1).cut h2 (hrlt i r hi).2
  · obtain ⟨r0, h1, h2⟩ := hs i r hr
    obtain ⟨s0, h3, h4⟩ := hs j s hs'
    exact h.rel.inj i j r0 s0 h1 h3 (by rw [← h2.blk.1]; exact hrb) (by rw [← h4.blk.1]; exact hsb) he
  · obtain ⟨r0, h1, h2⟩ := hs i r hi
    exact h.rel.apart i r0 h1 (by rw [← h2.blk.1]; exact hb)
  · obtain ⟨r0, h1, h2⟩ := hs i r hi
    exact h.own i r0 h1 (by rw [← h2.blk.1]; exact hb)
  · obtain ⟨F, hF⟩ := h.y
    exact ⟨F, hy F hF⟩
  · obtain ⟨y2, h1, h2⟩ := hY i y hi
    obtain ⟨F, hF⟩ := h.y
    exact (hag i y hi).agree' ((hylt i y hi).1.mono hn1) h.agree1 (fun j hj => (hylt' hn1 (hylt i y hi).2 j hj))
/-- rows with raw cells name no more -/
theorem sets_rlt : ∀ (cells : List (Nat × Nat)) (us : List Value) (S : T Row), (∀ i r, S.get i = some r → Lt i n ∧ RowLt n r) → ∀ i r, (setsC S cells (us.map .raw)).get i = some r → Lt i n ∧ RowLt n r
  | [], us, S, h => by cases us <;> exact h
  | p :: cells, [], S, h => h
  | p :: cells, u :: us, S, h => by
    refine sets_rlt cells us _ fun i r hi => ?_
    unfold set1C at hi
    split at hi
    · rename_i e k t hp
      rw [T.get_set] at hi
      split at hi
      · rename_i he
        cases hi
        subst he
        obtain ⟨h1, h2⟩ := h _ _ hp
        refine ⟨h1, fun j c hj hc => ?_⟩
        rw [T.get_set] at hc
        split at hc
        · cases hc; trivial
        · exact h2 j c hj hc
      · exact h i r hi
    · exact h i r hi
theorem sets_loops : ∀ (cells : List (Nat × Nat)) (cs : List C) (S : T Row) (i : Nat) (s : Row), S.get i = some s → s.isLoop = true → (setsC S cells cs).get i = some s
  | [], cs, S, i, s, h, hl => by cases cs <;> exact h
  | p :: cells, [], S, i, s, h, hl => h
  | p :: cells, c :: cs, S, i, s, h, hl => by
    refine sets_loops cells cs _ i s ?_ hl
    unfold set1C
    split
    · rename_i e k t hp
      rw [T.get_set]
      split
      · rename_i he; subst he; rw [h] at hp; cases hp; cases hl
      · exact h
    · exact h
end
noncomputable def isOd : Option YRow → Bool
  | some (.od ..) => true
  | _ => false
noncomputable def odC (S : T Row) (tm : Tm) (o : OdG) : W := match o.pl with
  | .tmp => tm.get o.t
  | .row i => .v (.c (.fz i))
  | .cel r j => match S.get r with
    | some (.cells _ k t) => bif Nat.blt j k then (match t.get j with
      | some c => .v (.c c)
      | none => undefW) else undefW
    | _ => undefW
noncomputable def odGet (S : T Row) (tm : Tm) (Y YB : T YRow) (o : OdG) : Option (Option (Nat × Nat)) := bif Nat.blt 0 o.z then match odC S tm o with
  | .v (.c (.raw (.slice none 0 0))) => some none
  | .v (.c (.fz i)) => match Y.get i with
    | some (.od e z own j) => bif Nat.beq e o.e && Nat.beq z o.z && (own || !o.own) && !(isOd (YB.get i)) then some (some (i, j)) else none
    | _ => none
  | _ => none
  else none
noncomputable def odApart (x : Option (Nat × Nat)) (xs : List (Option (Nat × Nat))) : Bool := match x with
  | none => true
  | some (i, _) => xs.all fun y => match y with
    | some (i', _) => !(Nat.beq i i')
    | none => true
noncomputable def odGets (S : T Row) (tm : Tm) (Y YB : T YRow) : List OdG → Option (List (Option (Nat × Nat)))
  | [] => some []
  | o :: os => match odGet S tm Y YB o, odGets S tm Y YB os with
    | some x, some xs => bif odApart x xs then some (x :: xs) else none
    | _, _ => none
noncomputable def odL (ρ : Rho) (x : Option (Nat × Nat)) : List (List D) := match x with
  | some (_, j) => ρ.d j
  | none => []
noncomputable def odDat (ρ : Rho) (xs : List (Option (Nat × Nat))) : List DV := xs.map fun x => .c (.fs (odL ρ x))
noncomputable def odX (σ : Env) (ρ : Rho) (x : Option (Nat × Nat)) : OdX := match x with
  | some (i, j) => ⟨ρ.d j, σ.b i, σ.v i⟩
  | none => ⟨[], 0, .slice none 0 0⟩
/-- the values that a loop turns -/
noncomputable def gvS (tm : Tm) : List Tmp → Option (List V)
  | [] => some []
  | t :: l => match tm.get t, gvS tm l with
    | .v x, some vs => some (x :: vs)
    | _, _ => none
noncomputable def valsG (s : St) (gens : List Tmp) (cells : List (Nat × Nat)) : Option (List V × List C) := match gvS s.tm gens, valsC s.m.S cells with
  | some vs, some cs => some (vs, cs)
  | _, _ => none
theorem gvS_ok {σ : Env} {n : Nat} {tmps : Array Value} {tm : Tm} (hT : TmOk σ n tmps tm) : ∀ (l : List Tmp) (vs : List V), gvS tm l = some vs → mapN tmps l = vs.map (realV σ)
  | [], vs, h => by cases h; rfl
  | t :: l, vs, h => by
    unfold gvS at h
    split at h
    · rename_i x vs' hx hvs
      cases h
      show tmps.getD t undef :: mapN tmps l = _
      rw [gvS_ok hT l vs' hvs, hT.get t, hx]
      rfl
    · cases h
theorem valsC_len : ∀ (cells : List (Nat × Nat)) (S : T Row) (cs : List C), valsC S cells = some cs → cs.length = cells.length
  | [], S, cs, h => by cases h; rfl
  | p :: l, S, cs, h => by
    unfold valsC at h
    split at h
    · rename_i e k t hp
      cases hb : Nat.blt p.2 k with
      | false => rw [hb] at h; cases h
      | true =>
        rw [hb] at h
        simp only [cond_true] at h
        split at h
        · rename_i c cs' hc hcs
          cases h
          simp [valsC_len l S cs' hcs]
        · cases h
    · cases h
section
variable {P : Program} {K : Nat → Option (List Value)} {s s' : St} {ρ ρ' : Rho} {Q : Post}
theorem odXs_ok {b : Bs} {σ : Env} {a : Act} {w : World} {F : Nat → Prop} {S : T Row} {YB : T YRow} (hA : At K b s ρ σ a w) (hF : YRel F b.F0 b.wB.heap.size σ s.m s.Y w) (hS : ∀ q r, S.get q = some r → r.blk = true → ∃ r', s.m.S.get q = some r' ∧ r'.blk = true)
    (hY : ∀ i y, YB.get i = some y → ∃ y2, s.Y.get i = some y2 ∧ YSame y y2) : ∀ (os : List OdG) (xs : List (Option (Nat × Nat))), odGets s.m.S s.tm s.Y YB os = some xs → OdXs F b.wB.heap.size σ S YB w a.tmps os (xs.map (odX σ ρ))
  | [], xs, h => by cases h; exact .nil
  | o :: os, xs, h => by
    unfold odGets at h
    split at h
    · rename_i x xs' hx hxs
      cases hap : odApart x xs' with
      | false => rw [hap] at h; cases h
      | true =>
        rw [hap] at h
        cases h
        have ih := odXs_ok hA hF hS hY os xs' hxs
        unfold odGet at hx
        cases hz : Nat.blt 0 o.z with
        | false => rw [hz] at hx; cases hx
        | true =>
          rw [hz] at hx
          have hz : 0 < o.z := Nat.le_of_ble_eq_true hz
          simp only [cond_true] at hx
          split at hx
          · rename_i he
            cases hx
            have hnl : ¬ liveV (.slice none 0 0) := fun ⟨_, _, _, hq, hlt⟩ => by cases hq; omega
            exact .cons (by
              unfold OdAt
              unfold odC at he
              cases hp : o.pl with
              | tmp => rw [hp] at he; have he : s.tm.get o.t = _ := he; show a.tmps.getD o.t undef = _; rw [hA.tm.get, he]; rfl
              | row i => rw [hp] at he; cases he
              | cel r j => trivial) ⟨hz, none, 0, rfl, .inl ⟨rfl, rfl⟩⟩ (fun hl => absurd hl hnl) (fun y _ hl => absurd hl hnl) ih
          · rename_i i he
            split at hx
            · rename_i e z own j hi
              obtain ⟨hc, hx⟩ := cond_some hx
              cases hx
              simp only [Bool.and_eq_true, Bool.or_eq_true, Bool.not_eq_true'] at hc
              obtain ⟨⟨⟨c1, c2⟩, c3⟩, c4⟩ := hc
              have c1 := nbeq c1
              have c2 := nbeq c2
              subst c1; subst c2
              obtain ⟨_, _, a', c', hv', hc'⟩ := (hF.row i _ hi).2
              have hag : σ.r.d j = ρ.d j := hA.aw.ag i _ hi
              rw [hag] at hv' hc'
              have hlv : liveV (σ.v i) ↔ live σ i := Iff.rfl
              refine .cons ?_ (OdV.mono ⟨hz, a', c', hv', hc'⟩ fun g hg => ⟨hg.1, fun ho => hg.2 ?_⟩) (fun hl => ?_) (fun y hy hl hly hg => ?_) ih
              · unfold OdAt
                unfold odC at he
                cases hp : o.pl with
                | cel r j => trivial
                | tmp =>
                  rw [hp] at he
                  have he : s.tm.get o.t = _ := he
                  show a.tmps.getD o.t undef = _
                  rw [hA.tm.get, he]
                  show realC σ (.fz i) = σ.v i
                  simp only [realC, hv']
                | row i0 =>
                  rw [hp] at he
                  cases he
                  exact ⟨rfl, rfl⟩
              · rcases c3 with c3 | c3
                · exact c3
                · rw [c3] at ho; cases ho
              · obtain ⟨h1, h2, h3, h4⟩ := hF.od i _ _ _ _ hi (hlv.1 hl)
                refine ⟨h1, h2, h3, fun q r hq hb => ?_, fun q e' z' o' j' hq hlq hbq => ?_⟩
                · obtain ⟨r', h5, h6⟩ := hS q r hq hb
                  exact h4 q r' h5 h6
                · obtain ⟨y2, h5, h6⟩ := hY q _ hq
                  rcases h6 with rfl | ⟨h6, _⟩ | h6
                  · have := hF.odi q _ _ _ _ i _ _ _ _ h5 hi hlq (hlv.1 hl) hbq
                    subst this
                    rw [hq] at c4; cases c4
                  · cases h6
                  · cases h6
              · obtain ⟨x', hx', rfl⟩ := List.mem_map.1 hy
                cases x' with
                | none => exact absurd hly fun ⟨_, _, _, hq, hlt⟩ => by cases hq; omega
                | some p =>
                  obtain ⟨i', j'⟩ := p
                  -- that row is one of own data
                  have hod : ∃ e z o, s.Y.get i' = some (.od e z o j') := by
                    have key : ∀ (os : List OdG) (xs : List (Option (Nat × Nat))), odGets s.m.S s.tm s.Y YB os = some xs → some (i', j') ∈ xs → ∃ e z o, s.Y.get i' = some (.od e z o j') := fun os => by
                      induction os with
                      | nil => intro xs h hm; cases h; cases hm
                      | cons o os ih2 =>
                        intro xs h hm
                        unfold odGets at h
                        split at h
                        · rename_i x2 xs2 hx2 hxs2
                          obtain ⟨_, h⟩ := cond_some h
                          cases h
                          rcases List.mem_cons.1 hm with he2 | hm
                          · subst he2
                            unfold odGet at hx2
                            obtain ⟨_, hx2⟩ : Nat.blt 0 o.z = true ∧ _ = some (some (i', j')) := by
                              cases hq : Nat.blt 0 o.z with
                              | false => rw [hq] at hx2; cases hx2
                              | true => rw [hq] at hx2; exact ⟨rfl, hx2⟩
                            split at hx2
                            · cases hx2
                            · split at hx2
                              · rename_i hi2
                                obtain ⟨_, hx2⟩ := cond_some hx2
                                cases hx2
                                exact ⟨_, _, _, hi2⟩
                              · cases hx2
                            · cases hx2
                          · exact ih2 xs2 hxs2 hm
                        · cases h
                    exact key os xs' hxs hx'
                  obtain ⟨e', z', o', hi'⟩ := hod
                  have heq := hF.odi i _ _ _ _ i' _ _ _ _ hi hi' (hlv.1 hl) hly hg
                  subst heq
                  unfold odApart at hap
                  have := List.all_eq_true.1 hap _ hx'
                  simp at this
            · cases hx
          · cases hx
    · cases h
theorem datX_od (σ : Env) (ρ : Rho) (xs : List (Option (Nat × Nat))) : datX (xs.map (odX σ ρ)) = odDat ρ xs := by
  unfold datX odDat
  rw [List.map_map]
  refine List.map_congr_left fun x _ => ?_
  cases x <;> rfl
theorem valsC_app {S : T Row} : ∀ (l1 l2 : List (Nat × Nat)) (c1 c2 : List C), valsC S l1 = some c1 → valsC S l2 = some c2 → valsC S (l1 ++ l2) = some (c1 ++ c2)
  | [], l2, c1, c2, h1, h2 => by cases h1; exact h2
  | p :: l1, l2, c1, c2, h1, h2 => by
    unfold valsC at h1
    split at h1
    · rename_i e k t hp
      obtain ⟨hb, h1⟩ : Nat.blt p.2 k = true ∧ (match t.get p.2, valsC S l1 with | some c, some cs => some (c :: cs) | _, _ => none) = some c1 := by
        cases hq : Nat.blt p.2 k with
        | true => rw [hq] at h1; exact ⟨rfl, h1⟩
        | false => rw [hq] at h1; cases h1
      split at h1
      · rename_i c cs hc hcs
        cases h1
        show valsC S (p :: (l1 ++ l2)) = _
        unfold valsC
        rw [hp]
        dsimp only
        rw [hb, hc, valsC_app l1 l2 cs c2 hcs h2]
        rfl
      · cases h1
    · cases h1
/-- what cells of own data hold -/
theorem odVals {b : Bs} {σ : Env} {a : Act} {w : World} {F : Nat → Prop} {YB : T YRow} (hA : At K b s ρ σ a w) (hF : YRel F b.F0 b.wB.heap.size σ s.m s.Y w) : ∀ (os : List OdG) (xs : List (Option (Nat × Nat))), odGets s.m.S s.tm s.Y YB os = some xs → ∃ cs, valsC s.m.S (ocs os) = some cs ∧ cs.map (realC σ) = celV os (xs.map (odX σ ρ))
  | [], xs, h => by cases h; exact ⟨[], rfl, rfl⟩
  | o :: os, xs, h => by
    unfold odGets at h
    split at h
    · rename_i x xs' hx hxs
      obtain ⟨_, h⟩ := cond_some h
      cases h
      obtain ⟨cs, h1, h2⟩ := odVals hA hF os xs' hxs
      unfold odGet at hx
      have hx : (match odC s.m.S s.tm o with
        | .v (.c (.raw (.slice none 0 0))) => some none
        | .v (.c (.fz i)) => match s.Y.get i with
          | some (.od e z own j) => bif Nat.beq e o.e && Nat.beq z o.z && (own || !o.own) && !(isOd (YB.get i)) then some (some (i, j)) else none
          | _ => none
        | _ => none) = some x := by
        cases hq : Nat.blt 0 o.z with
        | false => rw [hq] at hx; cases hx
        | true => rw [hq] at hx; exact hx
      cases hp : o.pl with
      | tmp => exact ⟨cs, by unfold ocs; rw [hp]; exact h1, by rw [List.map_cons]; unfold celV; rw [hp]; exact h2⟩
      | row i => exact ⟨cs, by unfold ocs; rw [hp]; exact h1, by rw [List.map_cons]; unfold celV; rw [hp]; exact h2⟩
      | cel r j =>
        have key : ∀ c, odC s.m.S s.tm o = .v (.c c) → (realC σ c = (odX σ ρ x).v) → ∃ cs, valsC s.m.S (ocs (o :: os)) = some cs ∧ cs.map (realC σ) = celV (o :: os) ((x :: xs').map (odX σ ρ)) := fun c hc hv => by
          unfold odC at hc
          rw [hp] at hc
          dsimp only at hc
          split at hc
          · rename_i e k t hr
            cases hb : Nat.blt j k with
            | false => rw [hb] at hc; cases hc
            | true =>
              rw [hb] at hc
              simp only [cond_true] at hc
              split at hc
              · rename_i c' hc'
                cases hc
                refine ⟨c :: cs, ?_, ?_⟩
                · unfold ocs
                  rw [hp]
                  dsimp only
                  unfold valsC
                  rw [hr]
                  dsimp only
                  rw [hb, hc', h1]
                  rfl
                · rw [List.map_cons, List.map_cons]
                  unfold celV
                  rw [hp, hv, h2]
              · cases hc
          · cases hc
        split at hx
        · rename_i he
          cases hx
          exact key _ he rfl
        · rename_i i he
          split at hx
          · rename_i e z own j' hi
            obtain ⟨_, hx⟩ := cond_some hx
            cases hx
            refine key _ he ?_
            obtain ⟨_, _, a', c', hv', _⟩ := (hF.row i _ hi).2
            show realC σ (.fz i) = σ.v i
            simp only [realC, hv']
          · cases hx
        · cases hx
    · cases h
/-- at a loop's head -/
theorem HeadAt.of {b : Bs} {σ : Env} {a : Act} {w : World} {lc : LC} (hA : At K b s ρ σ a w) (L : Link b lc) (hb : backB lc s = true) {vs : List V} {cs : List C} (hg : valsG s lc.gens lc.cells = some (vs, cs)) {ds : List DV} (ho : outVs s.Y ρ lc.rks (vs ++ cs.map V.c) = some ds) {xs : List (Option (Nat × Nat))} (hod : odGets s.m.S s.tm s.Y lc.YB lc.ods = some xs) (hinv : lc.inv lc.ρ (ds ++ odDat ρ xs)) (hmu : lc.mu lc.ρ (ds ++ odDat ρ xs) < lc.k) : HeadAt K b lc a w := by
  unfold backB at hb
  simp only [Bool.and_eq_true] at hb
  obtain ⟨⟨⟨b1, b2⟩, b3⟩, b4⟩ := hb
  unfold valsG at hg
  split at hg
  · rename_i vs' cs' hvs hcs
    cases hg
    obtain ⟨F, hF⟩ := hA.aw.y
    -- told by values
    obtain ⟨oc, hoc, hov⟩ := odVals hA hF lc.ods xs hod
    have hcs2 := valsC_app _ _ _ _ hcs hoc
    have hmp : (cs ++ oc).map (realC σ) = cs.map (realC σ) ++ celV lc.ods (xs.map (odX σ ρ)) := by rw [List.map_append, hov]
    have hsr := sets_raw (lc.cells ++ ocs lc.ods) (cs ++ oc) s.m.S s.m.S (SLike.refl σ s.m.nx s.m.S) hcs2
    rw [hmp] at hsr
    obtain ⟨h1, h2⟩ := hA.aw.like hsr
    have hlen : (cs.map (realC σ)).length = lc.cells.length := by rw [List.length_map, valsC_len _ _ _ hcs]
    have hex := sets_ex (lc.cells ++ ocs lc.ods) ((cs.map (realC σ) ++ celV lc.ods (xs.map (odX σ ρ))).map .raw) lc.mB.S s.m.S (by rw [List.length_map, ← hmp, List.length_map]; exact valsC_len _ _ _ hcs2) (rowsB_ok b2 fun i r hi => (L.rlt i r hi).1.lt)
    obtain ⟨h3, h4⟩ := Aw.sub (m := headM lc (cs.map (realC σ)) (xs.map (odX σ ρ))) (Y := lc.YB) (ρ := lc.ρ) h1 hex (ysB_ok b3 fun i y hi => (L.ylt i y hi).1.lt) L.n0 L.nx L.ag L.ylt (sets_rlt _ _ _ L.rlt) (fun i hi => by
      obtain ⟨r, h5, h6⟩ := L.loops i hi
      exact ⟨r, sets_loops _ _ _ _ _ h5 h6, h6⟩) L.fresh
    refine ⟨σ, F, cs.map (realC σ), ds, xs.map (odX σ ρ), hlen, h3, h4 F (h2 F hF), ?_, fun p hp => ?_, by rw [hA.nt, nbeq b4], hA.mks, odXs_ok hA hF (fun q r hq hb => ?_) (ysB_ok b3 fun i y hi => (L.ylt i y hi).1.lt) _ _ hod, by rw [datX_od]; exact hinv, by rw [datX_od]; exact hmu⟩
    · have := outVs_ok hA.aw.ag hF _ _ _ ho
      rw [List.map_append, ← gvS_ok hA.tm _ _ hvs] at this
      rw [List.map_map] at this
      exact this
    · have h5 := eqWW_ok (List.all_eq_true.1 b1 p hp)
      exact ⟨by rw [hA.tm.get p.1, h5], L.klt p hp⟩
    · obtain ⟨r1, h5, h6⟩ := hex q r hq
      obtain ⟨r2, h7, h8⟩ := hsr.back h5
      exact ⟨r2, h7, by rw [h8.blk.1, ← h6.blk.1]; exact hb⟩
  · cases hg
/-- back at a loop's head -/
theorem sx_back {c : Code} {j : Nat} {ks : List Kt} {lc : LC} (hc : s.cur = .exit .normal) (hk : s.ks = .loop c (some j) :: ks) (hL : (j, lc) ∈ Q.L) (hb : backB lc s = true) {vs : List V} {cs : List C} (hg : valsG s lc.gens lc.cells = some (vs, cs)) {ds : List DV}
    (ho : outVs s.Y ρ lc.rks (vs ++ cs.map V.c) = some ds) {xs : List (Option (Nat × Nat))} (hod : odGets s.m.S s.tm s.Y lc.YB lc.ods = some xs) (hinv : lc.inv lc.ρ (ds ++ odDat ρ xs)) (hmu : lc.mu lc.ρ (ds ++ odDat ρ xs) < lc.k) : Sx P K s ρ Q := by
  intro F hF n b hB Qw hQ σ a w hA
  rw [hc, hk]
  obtain ⟨L, hΛ⟩ := hQ.2 _ hL
  exact hΛ a w (HeadAt.of hA L hb hg ho hod hinv hmu)
end
end
end Go.Vc

/- Loops, by invariants: the way in. -/
namespace Go.Vc
noncomputable def keepL (tm : Tm) (l : List Tmp) : List (Tmp × W) := l.map fun t => (t, tm.get t)
noncomputable def toldW : List Tmp → List V → List (Tmp × W)
  | t :: l, v :: vs => (t, .v v) :: toldW l vs
  | _, _ => []
noncomputable def cellV : V → C
  | .c x => x
  | .a _ => .raw .nilFunc
noncomputable def dropJ (j : Nat) : List (Nat × LC) → List (Nat × LC)
  | [] => []
  | p :: l => bif Nat.beq p.1 j then dropJ j l else p :: dropJ j l
noncomputable def freshK (j : Nat) : List Kt → Bool
  | [] => true
  | .loop _ (some i) :: ks => !(Nat.beq i j) && freshK j ks
  | _ :: ks => freshK j ks
/-- a loop's hint: what stays, what turns, its shapes, the invariant, the measure -/
structure Hint where
  keep : List Tmp
  gens : List Tmp
  cells : List (Nat × Nat)
  rks : List RK
  ods : List OdG
  inv : Rho → List DV → Prop
  mu : Rho → List DV → Nat
noncomputable def odT : List OdG → Nat → List (Tmp × W)
  | [], _ => []
  | o :: os, n => match o.pl with
    | .tmp => (o.t, .v (.c (.fz (Nat.succ n)))) :: odT os (Nat.succ (Nat.succ n))
    | .row _ => odT os (Nat.succ n)
    | .cel _ _ => odT os (Nat.succ (Nat.succ n))
noncomputable def odCs : List OdG → Nat → List C
  | [], _ => []
  | o :: os, n => match o.pl with
    | .tmp => odCs os (Nat.succ (Nat.succ n))
    | .row _ => odCs os (Nat.succ n)
    | .cel _ _ => .fz (Nat.succ n) :: odCs os (Nat.succ (Nat.succ n))
noncomputable def odRows : List OdG → Nat → T YRow → T YRow
  | [], _, Y => Y
  | o :: os, n, Y => match o.pl with
    | .row i => odRows os (Nat.succ n) (Y.set i (.od o.e o.z o.own n))
    | _ => odRows os (Nat.succ (Nat.succ n)) (Y.set (Nat.succ n) (.od o.e o.z o.own n))
noncomputable def odNx : List OdG → Nat → Nat
  | [], n => n
  | o :: os, n => match o.pl with
    | .row _ => odNx os (Nat.succ n)
    | _ => odNx os (Nat.succ (Nat.succ n))
/-- for all own data -/
noncomputable def allO : List OdG → Nat → Rho → (List (List (List D)) → Rho → Prop) → Prop
  | [], _, ρ, k => k [] ρ
  | o :: os, n, ρ, k => ∀ x : List (List D), allO os (match o.pl with | .row _ => Nat.succ n | _ => Nat.succ (Nat.succ n)) (ρ.setD n x) fun l ρ => k (x :: l) ρ
/-- rows that a loop turns in place are not told at its head -/
noncomputable def killO (S : T Row) (tm : Tm) (Y : T YRow) : List OdG → T YRow
  | [] => Y
  | o :: os => match odC S tm o with
    | .v (.c (.fz i)) => match Y.get i with
      | some _ => (killO S tm Y os).set i .dead
      | none => killO S tm Y os
    | _ => killO S tm Y os
noncomputable def atB (Y : T YRow) (n : Nat) (os : List OdG) : Bool := os.all fun o => match o.pl with
  | .row i => Nat.blt i n && (match Y.get i with | some _ => true | none => false)
  | _ => true
noncomputable def datO (l : List (List (List D))) : List DV := l.map fun x => .c (.fs x)
noncomputable def lcOf (s : St) (ρ : Rho) (h : Hint) (k : Nat) : LC := ⟨s.m, killO s.m.S s.tm s.Y h.ods, keepL s.tm h.keep, h.gens, h.cells, h.rks, h.ods, s.nt, ρ, h.inv, h.mu, k⟩
noncomputable def okH (h : Hint) : Bool := Nat.beq h.rks.length (h.gens.length + h.cells.length) && (h.rks.drop h.gens.length).all (fun r => !r.agg)
theorem dropJ_mem : ∀ (L : List (Nat × LC)) (j : Nat) (p : Nat × LC), p ∈ dropJ j L → p ∈ L ∧ p.1 ≠ j
  | q :: L, j, p, h => by
    unfold dropJ at h
    cases hq : Nat.beq q.1 j with
    | true =>
      rw [hq] at h
      obtain ⟨h1, h2⟩ := dropJ_mem L j p h
      exact ⟨List.mem_cons_of_mem _ h1, h2⟩
    | false =>
      rw [hq] at h
      rcases List.mem_cons.1 h with rfl | h
      · exact ⟨List.mem_cons_self, fun e => by rw [e, Nat.beq_refl] at hq; cases hq⟩
      · obtain ⟨h1, h2⟩ := dropJ_mem L j p h
        exact ⟨List.mem_cons_of_mem _ h1, h2⟩
theorem after_fresh {F : Fence} {n : Nat} {P : Program} {q : Exit → Act → World → Prop} {Λ Λ' : Nat → Act → World → Prop} {np : ∀ c a w, ¬ q (.panic c) a w} {j : Nat} (h : ∀ i, i ≠ j → Λ' i = Λ i) : ∀ ks : List Kt, freshK j ks = true → after F n P ⟨q, Λ', np⟩ ks = after F n P ⟨q, Λ, np⟩ ks
  | [], _ => rfl
  | .seq b :: ks, hk => by simp only [after, after_fresh h ks hk]
  | .block id :: ks, hk => by simp only [after, after_fresh h ks hk]
  | .loop c none :: ks, hk => by simp only [after, after_fresh h ks hk]
  | .loop c (some i) :: ks, hk => by
    unfold freshK at hk
    simp only [Bool.and_eq_true, Bool.not_eq_true'] at hk
    simp only [after, after_fresh h ks hk.2, h i (fun e => by rw [e, Nat.beq_refl] at hk; cases hk.1)]
  | .scope c :: ks, hk => by simp only [after, after_fresh h ks hk]
  | .noGoto :: ks, hk => by simp only [after, after_fresh h ks hk]
  | .draw all r :: ks, hk => by simp only [after, after_fresh h ks hk]
def Bs.at (b : Bs) (σ : Env) (n : Nat) : Bs := ⟨b.wB, b.F0, b.σ0, b.n0, b.wC, b.L, σ, n⟩
section
variable [Holes]
theorem RD.ne_agg {F : Nat → Prop} {w : World} {d : D} {cs : Array Value} (h : RD F w d (.agg cs)) : False := by cases h with | raw v h => cases h
theorem TmOk.told {σ : Env} {n : Nat} {tmps : Array Value} {l : List (Tmp × W)} (h : ∀ p ∈ l, tmps.getD p.1 undef = realW σ p.2 ∧ p.2.lt n) : TmOk σ n tmps ⟨l, fun t => tmps.getD t undef⟩ := by
  have key : ∀ (l : List (Nat × W)) (t : Nat) (d : W), (∀ p ∈ l, tmps.getD p.1 undef = realW σ p.2 ∧ p.2.lt n) → tmps.getD t undef = realW σ d → d.lt n → tmps.getD t undef = realW σ (lookT l t d) ∧ (lookT l t d).lt n := fun l => by
    induction l with
    | nil => intro t d _ h1 h2; exact ⟨h1, h2⟩
    | cons p l ih =>
      intro t d hp h1 h2
      show tmps.getD t undef = realW σ (bif Nat.beq p.1 t then p.2 else lookT l t d) ∧ (bif Nat.beq p.1 t then p.2 else lookT l t d).lt n
      cases hq : Nat.beq p.1 t with
      | true =>
        have := Nat.eq_of_beq_eq_true hq
        subst this
        exact hp p List.mem_cons_self
      | false => exact ih t d (fun q hq => hp q (List.mem_cons_of_mem _ hq)) h1 h2
  exact ⟨fun t => (key l t (.v (.c (.raw (tmps.getD t undef)))) h rfl trivial).1, fun t => (key l t (.v (.c (.raw (tmps.getD t undef)))) h rfl trivial).2⟩
section
variable {K : Nat → Option (List Value)} {b : Bs} {σ σ' : Env} {m : Mem} {Y : T YRow} {ρ : Rho} {a : Act} {w : World} {lc : LC} {n : Nat}
theorem Aw.unat (h : Aw K (b.at σ n) m Y ρ σ' w) (hn : b.n1 ≤ n) (ha : Agree b.n1 b.σ1 σ) : Aw K b m Y ρ σ' w :=
  ⟨h.rel, h.nx, h.agree, Nat.le_trans hn h.nx1, ha.trans hn h.agree1, h.base, h.goes, h.frame, h.own, h.y, h.ag, h.dfr, h.keep, h.klow⟩
theorem HeadAt.base (h : HeadAt K (b.at σ n) lc a w) (hn : b.n1 ≤ n) (ha : Agree b.n1 b.σ1 σ) : HeadAt K b lc a w := by
  obtain ⟨τ, F, us, ds, xs, h1, h2, h3⟩ := h
  refine ⟨τ, F, us, ds, xs, h1, ⟨h2.rel, h2.nx, h2.agree, Nat.min_le_right _ _, ?_, h2.base, h2.goes, h2.frame, h2.own, h2.y, h2.ag, h2.dfr, h2.keep, h2.klow⟩, h3⟩
  have hle : Nat.min b.n1 lc.mB.nx ≤ Nat.min n lc.mB.nx := by
    have e1 := Nat.min_le_left b.n1 lc.mB.nx
    have e2 := Nat.min_le_right b.n1 lc.mB.nx
    exact Nat.le_min.2 ⟨Nat.le_trans e1 hn, e2⟩
  exact (ha.low (Nat.min_le_left _ _)).trans hle h2.agree1
end
theorem datO_x (xs : List OdX) : datO (xs.map (·.l)) = datX xs := by
  unfold datO datX
  rw [List.map_map]
  rfl
theorem odNx_le : ∀ (os : List OdG) (n : Nat), n ≤ odNx os n
  | [], n => Nat.le_refl _
  | o :: os, n => by
    unfold odNx
    cases o.pl with
    | row _ => exact Nat.le_trans (by omega) (odNx_le os (Nat.succ n))
    | _ => exact Nat.le_trans (by omega) (odNx_le os (Nat.succ (Nat.succ n)))
theorem killO_get {i : Nat} {y : YRow} (S : T Row) (tm : Tm) (Y : T YRow) : ∀ os : List OdG, (killO S tm Y os).get i = some y → Y.get i = some y ∨ (y = .dead ∧ ∃ z, Y.get i = some z)
  | [], h => .inl h
  | o :: os, h => by
    unfold killO at h
    split at h
    · split at h
      · rename_i q z hz
        rw [T.get_set] at h
        split at h
        · rename_i he; subst he; cases h; exact .inr ⟨rfl, _, by assumption⟩
        · exact killO_get S tm Y os h
      · exact killO_get S tm Y os h
    · exact killO_get S tm Y os h
theorem OdAt.move {σ τ : Env} {tmps : Array Value} {o : OdG} {x : OdX} (h : OdAt σ tmps o x) (ht : ∀ i, o.pl = .row i → τ.v i = σ.v i ∧ τ.b i = σ.b i) : OdAt τ tmps o x := by
  unfold OdAt at h ⊢
  split at h
  · exact h
  · rename_i i hi
    obtain ⟨h1, h2⟩ := ht i hi
    exact ⟨h1.trans h.1, h2.trans h.2⟩
  · trivial
theorem OdXs.cut {F : Nat → Prop} {B0 : Nat} {σ τ : Env} {S S' : T Row} {Y Y' : T YRow} {w : World} {tmps : Array Value} {os : List OdG} {xs : List OdX} (h : OdXs F B0 σ S Y w tmps os xs) (hm : ∀ x ∈ xs, OdFree F B0 σ S Y w x → OdFree F B0 τ S' Y' w x) (ht : ∀ o ∈ os, ∀ i, o.pl = .row i → τ.v i = σ.v i ∧ τ.b i = σ.b i) : OdXs F B0 τ S' Y' w tmps os xs := by
  induction h with
  | nil => exact .nil
  | cons h1 h2 h3 h4 _ ih => exact .cons (h1.move (ht _ List.mem_cons_self)) h2 (hm _ List.mem_cons_self h3) h4 (ih (fun x hx => hm x (List.mem_cons_of_mem _ hx)) fun o ho => ht o (List.mem_cons_of_mem _ ho))
theorem OdXs.move {F : Nat → Prop} {B0 : Nat} {σ τ : Env} {S S' : T Row} {Y Y' : T YRow} {w : World} {tmps : Array Value} {os : List OdG} {xs : List OdX} (h : OdXs F B0 σ S Y w tmps os xs) (hm : ∀ x, OdFree F B0 σ S Y w x → OdFree F B0 τ S' Y' w x) (ht : ∀ o ∈ os, ∀ i, o.pl = .row i → τ.v i = σ.v i ∧ τ.b i = σ.b i) : OdXs F B0 τ S' Y' w tmps os xs := h.cut (fun x _ => hm x) ht
/-- rows for own data, told anew -/
theorem Aw.symOs {K : Nat → Option (List Value)} {b : Bs} {F : Nat → Prop} {w : World} {tmps : Array Value} : ∀ (os : List OdG) (xs : List OdX) (n : Nat) {σ : Env} {m : Mem} {Y : T YRow} {ρ : Rho} {k : List (List (List D)) → Rho → Prop}, n = m.nx → Aw K b m Y ρ σ w → YRel F b.F0 b.wB.heap.size σ m Y w → OdXs F b.wB.heap.size σ m.S Y w tmps os xs → (∀ o ∈ os, ∀ i, o.pl = .row i → Lt i m.nx) → allO os n ρ k →
    ∃ (τ : Env) (ρ' : Rho), Agree m.nx σ τ ∧ Aw K b (m.up (odNx os n)) (odRows os n Y) ρ' τ w ∧ ((∀ p ∈ odT os n, tmps.getD p.1 undef = realW τ p.2 ∧ p.2.lt (odNx os n)) ∧ (odCs os n).map (realC τ) = celV os xs ∧ ∀ c ∈ odCs os n, C.lt (odNx os n) c) ∧ datO (xs.map (·.l)) = datX xs ∧ k (xs.map (·.l)) ρ'
  | [], xs, n, σ, m, Y, ρ, k, hn, h, hF, hx, hpl, ha => by
    cases hx
    subst hn
    exact ⟨σ, ρ, Agree.refl _ _, h, ⟨(fun p hp => by cases hp), rfl, fun c hc => by cases hc⟩, rfl, ha⟩
  | o :: os, [], n, σ, m, Y, ρ, k, hn, h, hF, hx, hpl, ha => by cases hx
  | o :: os, x :: xs, n, σ, m, Y, ρ, k, hn, h, hF, hx, hpl, ha => by
    cases hx with
    | cons h1 h2 h3 h4 h5 =>
    subst hn
    have hτ := Env.agree_sym σ m.nx .nilFunc (σ.r.setD m.nx x.l) (rhoEq_setD _ _ _)
    obtain ⟨hA2, hG2⟩ := h.num hF hτ (rhoEq_setD ρ m.nx x.l)
    generalize hτd : σ.sym m.nx .nilFunc (σ.r.setD m.nx x.l) = τ at hτ hA2 hG2
    have hdat : τ.r.d m.nx = x.l := by rw [← hτd]; exact setD_at _ _ _
    have hb : ∀ i, τ.b i = σ.b i := fun i => by rw [← hτd]; rfl
    have hlive : ∀ i y, Y.get i = some y → (live τ i ↔ live σ i) := fun i y hi => live_agree hτ (hF.row i y hi).1
    have hpl' : ∀ o ∈ os, ∀ i, o.pl = .row i → Lt i m.nx := fun o ho => hpl o (List.mem_cons_of_mem _ ho)
    -- a row of its own
    have fresh : (∀ i, o.pl ≠ .row i) → (o.pl = .tmp → tmps.getD o.t undef = x.v) → ∃ (τ : Env) (ρ' : Rho), Agree m.nx σ τ ∧ Aw K b (m.up (odNx (o :: os) m.nx)) (odRows (o :: os) m.nx Y) ρ' τ w ∧ ((∀ p ∈ odT (o :: os) m.nx, tmps.getD p.1 undef = realW τ p.2 ∧ p.2.lt (odNx (o :: os) m.nx)) ∧ (odCs (o :: os) m.nx).map (realC τ) = celV (o :: os) (x :: xs) ∧ ∀ c ∈ odCs (o :: os) m.nx, C.lt (odNx (o :: os) m.nx) c) ∧ datO ((x :: xs).map (·.l)) = datX (x :: xs) ∧ k ((x :: xs).map (·.l)) ρ' := fun hno htmp => by
      have e1 : odNx (o :: os) m.nx = odNx os (m.nx + 2) := by
        show (match o.pl with | .row _ => _ | _ => _) = _
        cases hp : o.pl with
        | row i => exact absurd hp (hno i)
        | _ => rfl
      have e2 : odRows (o :: os) m.nx Y = odRows os (m.nx + 2) (Y.set (m.nx + 1) (.od o.e o.z o.own m.nx)) := by
        show (match o.pl with | .row _ => _ | _ => _) = _
        cases hp : o.pl with
        | row i => exact absurd hp (hno i)
        | _ => rfl
      have ha : ∀ y : List (List D), allO os (m.nx + 2) (ρ.setD m.nx y) fun l ρ => k (y :: l) ρ := by
        unfold allO at ha
        cases hp : o.pl with
        | row i => exact absurd hp (hno i)
        | _ => rw [hp] at ha; exact ha
      obtain ⟨υ, k1, k2, k3, k4, k5, k6⟩ := hA2.symO hG2 (e := o.e) (z := o.z) (j := m.nx) (own := o.own) (v := x.v) (g := x.g) h.rel.ltnx (by rw [hdat, setD_at]) (by rw [hdat]; exact h2) fun hl => by
        obtain ⟨g1, g2, g3, g4, g5⟩ := h3 hl
        exact ⟨g1, g2, g3, fun q r hq hb' => by rw [hb]; exact g4 q r hq hb', fun i e z oo j hi hli => by rw [hb]; exact g5 i e z oo j hi ((hlive i _ hi).1 hli)⟩
      have hbx : liveV x.v → υ.b (m.nx + 1) = x.g := fun _ => k6
      have h5' : OdXs F b.wB.heap.size υ m.S (Y.set (m.nx + 1) (.od o.e o.z o.own m.nx)) w tmps os xs := h5.cut (fun y hy hf hl => by
        obtain ⟨g1, g2, g3, g4, g5⟩ := hf hl
        refine ⟨g1, g2, g3, fun q r hq hb' => ?_, fun i e z oo j hi hli => ?_⟩
        · rw [k1.b q ((h.rel.lt q r hq).mono (Nat.le_succ _)), hb]; exact g4 q r hq hb'
        · rw [T.get_set] at hi
          split at hi
          · rename_i he
            subst he
            have hlx : liveV x.v := by
              obtain ⟨a, q, c, hv, hc⟩ := hli
              have : realC υ (.fz (m.nx + 1)) = .slice a q c := by simp only [realC, hv]
              rw [show realC υ (.fz (m.nx + 1)) = x.v from k4] at this
              exact ⟨a, q, c, this, hc⟩
            rw [hbx hlx]
            exact h4 y hy hlx hl
          · have hlt := (hF.row i _ hi).1
            rw [k1.b i (hlt.mono (Nat.le_succ _)), hb]
            exact g5 i e z oo j hi ((hlive i _ hi).1 ((live_agree k1 (hlt.mono (Nat.le_succ _))).1 hli))) fun o' ho' i hi => by
        have hlt := hpl' o' ho' i hi
        exact ⟨by rw [k1.v i (hlt.mono (Nat.le_succ _)), hτ.v i hlt], by rw [k1.b i (hlt.mono (Nat.le_succ _)), hb]⟩
      obtain ⟨φ, ρ', j1, j2, ⟨j3, j3b, j3c⟩, j4, j5⟩ := Aw.symOs os xs (m.nx + 2) (m := m.up (m.nx + 1 + 1)) rfl k2 k3 h5' (fun o' ho' i hi => (hpl' o' ho' i hi).mono (by show m.nx ≤ m.nx + 2; omega)) (ha x.l)
      have hreal : realC φ (.fz (m.nx + 1)) = x.v := by rw [j1.realC (x := .fz (m.nx + 1)) k5]; exact k4
      have hlt5 : C.lt (odNx os (m.nx + 2)) (.fz (m.nx + 1)) := Lt.mono k5 (odNx_le os (m.nx + 2))
      refine ⟨φ, ρ', (hτ.trans (Nat.le_succ _) k1).trans (by show m.nx ≤ m.nx + 2; omega) j1, ?_, ⟨fun p hpm => ?_, ?_, fun c hc => ?_⟩, datO_x _, j5⟩
      · rw [e1, e2]; exact j2
      · rw [e1]
        cases hp : o.pl with
        | row i => exact absurd hp (hno i)
        | tmp =>
          have e3 : odT (o :: os) m.nx = (o.t, W.v (.c (.fz (m.nx + 1)))) :: odT os (m.nx + 2) := by show (match o.pl with | .tmp => _ | .row _ => _ | .cel _ _ => _) = _; rw [hp]
          rw [e3] at hpm
          rcases List.mem_cons.1 hpm with rfl | hpm
          · refine ⟨?_, hlt5⟩
            show tmps.getD o.t undef = realC φ (.fz (m.nx + 1))
            rw [htmp hp]
            exact hreal.symm
          · exact j3 p hpm
        | cel r j =>
          have e3 : odT (o :: os) m.nx = odT os (m.nx + 2) := by show (match o.pl with | .tmp => _ | .row _ => _ | .cel _ _ => _) = _; rw [hp]
          rw [e3] at hpm
          exact j3 p hpm
      · unfold odCs celV
        cases hp : o.pl with
        | row i => exact absurd hp (hno i)
        | tmp => exact j3b
        | cel r j => show _ :: _ = _; rw [hreal]; exact congrArg _ j3b
      · rw [e1]
        unfold odCs at hc
        cases hp : o.pl with
        | row i => exact absurd hp (hno i)
        | tmp => rw [hp] at hc; exact j3c c hc
        | cel r j =>
          rw [hp] at hc
          rcases List.mem_cons.1 hc with rfl | hc
          · exact hlt5
          · exact j3c c hc
    cases hp : o.pl with
    | tmp =>
      unfold OdAt at h1
      rw [hp] at h1
      exact fresh (fun i hi => by rw [hp] at hi; cases hi) fun _ => h1
    | cel r j => exact fresh (fun i hi => by rw [hp] at hi; cases hi) fun hi => by rw [hp] at hi; cases hi
    | row i =>
      unfold OdAt at h1
      rw [hp] at h1
      obtain ⟨h1v, h1b⟩ : σ.v i = x.v ∧ σ.b i = x.g := h1
      unfold allO at ha
      rw [hp] at ha
      have hlt := hpl o List.mem_cons_self i hp
      have hlv : live τ i ↔ liveV x.v := by unfold live liveV; rw [hτ.v i hlt, h1v]
      obtain ⟨k2, k3⟩ := hA2.reod hG2 (i := i) (e := o.e) (z := o.z) (j := m.nx) (own := o.own) (hlt.mono (Nat.le_succ _)) h.rel.ltnx (by rw [hdat, setD_at]) (by rw [hdat, hb, hτ.v i hlt, h1v, h1b]; exact h2) fun hl => by
        obtain ⟨g1, g2, g3, g4, g5⟩ := h3 (hlv.1 hl)
        rw [hb, h1b]
        exact ⟨g1, g2, g3, fun q r hq hb' => by rw [hb]; exact g4 q r hq hb', fun q e z oo j _ hq hlq => by rw [hb]; exact g5 q e z oo j hq ((hlive q _ hq).1 hlq)⟩
      have h5' : OdXs F b.wB.heap.size τ m.S (Y.set i (.od o.e o.z o.own m.nx)) w tmps os xs := h5.cut (fun y hy hf hl => by
        obtain ⟨g1, g2, g3, g4, g5⟩ := hf hl
        refine ⟨g1, g2, g3, fun q r hq hb' => by rw [hb]; exact g4 q r hq hb', fun q e z oo j hq hlq => ?_⟩
        rw [T.get_set] at hq
        split at hq
        · rename_i he
          subst he
          rw [hb, h1b]
          exact h4 y hy (hlv.1 hlq) hl
        · rw [hb]
          exact g5 q e z oo j hq ((hlive q _ hq).1 hlq)) fun o' ho' q hq => by
        have hlt := hpl' o' ho' q hq
        exact ⟨hτ.v q hlt, hb q⟩
      obtain ⟨φ, ρ', j1, j2, ⟨j3, j3b, j3c⟩, j4, j5⟩ := Aw.symOs os xs (m.nx + 1) (m := m.up (m.nx + 1)) rfl k2 k3 h5' (fun o' ho' q hq => (hpl' o' ho' q hq).mono (Nat.le_succ _)) (ha x.l)
      have e1 : odNx (o :: os) m.nx = odNx os (m.nx + 1) := by show (match o.pl with | .row _ => _ | _ => _) = _; rw [hp]
      refine ⟨φ, ρ', hτ.trans (Nat.le_succ _) j1, ?_, ⟨fun p hpm => ?_, ?_, fun c hc => ?_⟩, datO_x _, j5⟩
      · have e2 : odRows (o :: os) m.nx Y = odRows os (m.nx + 1) (Y.set i (.od o.e o.z o.own m.nx)) := by show (match o.pl with | .row _ => _ | _ => _) = _; rw [hp]
        rw [e1, e2]; exact j2
      · have e3 : odT (o :: os) m.nx = odT os (m.nx + 1) := by show (match o.pl with | .tmp => _ | .row _ => _ | .cel _ _ => _) = _; rw [hp]
        rw [e1]
        rw [e3] at hpm
        exact j3 p hpm
      · unfold odCs celV
        rw [hp]
        exact j3b
      · unfold odCs at hc
        rw [hp] at hc
        rw [e1]
        exact j3c c hc
section
variable {P : Program} {K : Nat → Option (List Value)} {s s' : St} {ρ ρ' : Rho} {Q : Post}
/-- a state at a head, with new symbols -/
noncomputable def joinS (s : St) (c : Cur) (ks : List Kt) (h : Hint) (g : Nat → Value) (vs : List V) (n : Nat) (Y : T YRow) : St :=
  ⟨c, ks, ⟨toldW h.gens (vs.take h.gens.length) ++ (odT h.ods n ++ keepL s.tm h.keep), g⟩, ⟨setsC s.m.S (h.cells ++ ocs h.ods) ((vs.drop h.gens.length).map cellV ++ odCs h.ods n), odNx h.ods n, s.m.lo⟩, odRows h.ods n Y, s.nt, s.key⟩
/-- the loop's head with new symbols -/
noncomputable def headS (s : St) (c : Code) (j : Nat) (h : Hint) (g : Nat → Value) (vs : List V) (n : Nat) (Y : T YRow) : St := joinS s (.code c) (.loop c (some j) :: s.ks) h g vs n Y
/-- rows of own data that are turned in place are told -/
theorem plt_ok {b : Bs} {σ : Env} {a : Act} {w : World} {h : Hint} (hA : At K b s ρ σ a w) (hpl : atB s.Y s.m.nx h.ods = true) : ∀ o ∈ h.ods, ∀ i, o.pl = .row i → Lt i s.m.nx := fun o ho i hi => by
  obtain ⟨F0, hF0⟩ := hA.aw.y
  have := List.all_eq_true.1 hpl o ho
  simp only [hi, Bool.and_eq_true] at this
  obtain ⟨_, h3⟩ := this
  split at h3
  · rename_i y hy; exact (hF0.row i y hy).1
  · cases h3
theorem kill_ok {b : Bs} {σ : Env} {a : Act} {w : World} (hA : At K b s ρ σ a w) (os : List OdG) : ∀ i y, (killO s.m.S s.tm s.Y os).get i = some y → Lt i s.m.nx ∧ (s.Y.get i = some y ∨ y = .dead) := fun i y hi => by
  obtain ⟨F0, hF0⟩ := hA.aw.y
  rcases killO_get _ _ _ os hi with h | ⟨h, z, hz⟩
  · exact ⟨(hF0.row i y h).1, .inl h⟩
  · exact ⟨(hF0.row i z hz).1, .inr h⟩
theorem link_ok {b : Bs} {σ : Env} {a : Act} {w : World} {h : Hint} (hA : At K b s ρ σ a w) (hpl : atB s.Y s.m.nx h.ods = true) (σ' : Env) (k : Nat) (hag : SymAg ρ σ' (killO s.m.S s.tm s.Y h.ods)) : Link (b.at σ' s.m.nx) (lcOf s ρ h k) := by
  obtain ⟨F0, hF0⟩ := hA.aw.y
  have hkill := kill_ok hA h.ods
  exact ⟨Nat.le_refl _, hA.aw.nx, hag, fun i y hi => ⟨(hkill i y hi).1, by
      rcases (hkill i y hi).2 with h3 | rfl
      · exact (hF0.row i y h3).2.ylt
      · trivial⟩, fun i r hi => ⟨hA.aw.rel.lt i r hi, (hA.aw.rel.row i r hi).rlt⟩, fun p hp => by
      obtain ⟨t, _, rfl⟩ := List.mem_map.1 hp
      exact hA.tm.lt t, hA.aw.keep, hA.aw.rel.fresh⟩
theorem HeadAt.into {b : Bs} {h : Hint} {k : Nat} {a : Act} {w : World} {c : Cur} {ks : List Kt} {Ψ : List DV → List V → Nat → T YRow → List (List (List D)) → Rho → Prop} (hok : okH h = true) (hplt : ∀ o ∈ h.ods, ∀ i, o.pl = .row i → Lt i s.m.nx) (hbn : b.n1 ≤ s.m.nx) (hh : HeadAt K b (lcOf s ρ h k) a w)
    (body : allV h.rks s.m.nx (killO s.m.S s.tm s.Y h.ods) ρ fun ds vs n' Y' ρ' => allO h.ods n' ρ' fun ls ρ' => Ψ ds vs n' Y' ls ρ') :
    ∃ (σ' : Env) (ds : List DV) (vs : List V) (n' : Nat) (Y' : T YRow) (xs : List OdX) (υ : Env) (ρ2 : Rho), SymAg ρ σ' (killO s.m.S s.tm s.Y h.ods) ∧ Agree b.n1 b.σ1 σ' ∧ At K (b.at σ' s.m.nx) (joinS s c ks h (fun t => a.tmps.getD t undef) vs n' Y') ρ2 υ a w ∧ Ψ ds vs n' Y' (xs.map (·.l)) ρ2 ∧ h.inv ρ (ds ++ datO (xs.map (·.l))) ∧ h.mu ρ (ds ++ datO (xs.map (·.l))) < k := by
  obtain ⟨σ', F', us, ds, xs, hlen, hAw, hF', hrv, hkeep, hnt, hmks, hox, hin, hmu⟩ := hh
  have hlen : us.length = h.cells.length := hlen
  obtain ⟨τ, vs, n', Y', ρ', q0, q1, q2, q3, q4, q5, q6, q7⟩ := Aw.symR h.rks ds (mapN a.tmps h.gens ++ us) s.m.nx (m := headM (lcOf s ρ h k) us xs) rfl hAw hF' hrv body
  have hag1 : Agree b.n1 b.σ1 σ' := hAw.agree1.low (show b.n1 ≤ Nat.min b.n1 s.m.nx from Nat.le_min.2 ⟨Nat.le_refl _, hbn⟩)
  have hml : (mapN a.tmps h.gens).length = h.gens.length := by simp [mapN]
  have hvl : vs.length = h.gens.length + us.length := by
    have := congrArg List.length q4
    rw [List.length_map, List.length_append, hml] at this
    exact this
  have htake : (vs.take h.gens.length).map (realV τ) = mapN a.tmps h.gens := by
    rw [List.map_take, q4, ← hml, List.take_left]
  have hdrop : (vs.drop h.gens.length).map (realV τ) = us := by
    rw [List.map_drop, q4, ← hml, List.drop_left]
  -- no cell is a whole of cells
  have hcell : ∀ (i : Nat) (v : V) (u : Value), (vs.drop h.gens.length)[i]? = some v → us[i]? = some u → ∃ x, v = .c x ∧ realC τ x = u := fun i v u hv hu => by
    have hr : realV τ v = u := by
      have := congrArg (·[i]?) hdrop
      simp only [List.getElem?_map, hv, hu, Option.map_some, Option.some.injEq] at this
      exact this
    cases v with
    | c x => exact ⟨x, rfl, hr⟩
    | a cs =>
      exfalso
      unfold okH at hok
      simp only [Bool.and_eq_true] at hok
      obtain ⟨k1, k2⟩ := hok
      have k1 := nbeq k1
      have key : ∀ {rs : List RK} {ds : List DV} {us : List Value} {F : Nat → Prop} {B0 : Nat}, RVs F B0 w rs ds us → ∀ (i : Nat) (r : RK) (u : Value), rs[i]? = some r → us[i]? = some u → ∃ d, RV F B0 w r d u := fun {rs ds us F B0} hh => by
        induction hh with
        | nil => intro i r u hr _; simp at hr
        | cons hx _ ih =>
          intro i r u hr hu
          cases i with
          | zero => simp at hr hu; subst hr hu; exact ⟨_, hx⟩
          | succ i => exact ih i r u hr hu
      have hil : i < us.length := (List.getElem?_eq_some_iff.1 hu).1
      have hrl : h.gens.length + i < h.rks.length := by
        have e1 := hrv.len
        have e2 : (mapN a.tmps h.gens ++ us).length = h.rks.length := e1
        rw [List.length_append, hml] at e2
        omega
      obtain ⟨d, hd⟩ := key hrv (h.gens.length + i) _ u (List.getElem?_eq_getElem hrl) (by
        show (mapN a.tmps h.gens ++ us)[h.gens.length + i]? = some u
        rw [List.getElem?_append_right (by rw [hml]; omega), hml, Nat.add_sub_cancel_left]; exact hu)
      have hagg : (h.rks[h.gens.length + i]).agg = false := by
        have := List.all_eq_true.1 k2 (h.rks[h.gens.length + i]) (by
          rw [List.mem_iff_getElem?]
          exact ⟨i, by rw [List.getElem?_drop]; exact List.getElem?_eq_getElem hrl⟩)
        simpa using this
      generalize h.rks[h.gens.length + i] = r at hd hagg
      rw [← hr] at hd
      generalize hv' : realV τ (.a cs) = v' at hd
      cases hd with
      | c kd own d v hdk hrd => subst hv'; exact RD.ne_agg hrd
      | a ks own ds vs hdk hrd => cases hagg
  have hdl : (vs.drop h.gens.length).length = us.length := by rw [List.length_drop, hvl]; omega
  -- the cells told by symbols, first the plain ones
  have hsl : SLike τ n' (headM (lcOf s ρ h k) us xs).S (setsC s.m.S (h.cells ++ ocs h.ods) ((vs.drop h.gens.length).map cellV ++ (celV h.ods xs).map .raw)) := sets_both (h.cells ++ ocs h.ods) _ _ _ _ (SLike.refl _ _ _) (by
    show ((us ++ celV h.ods xs).map _).length = _
    rw [List.length_map, List.length_append, List.length_append, List.length_map, List.length_map, hdl]) fun i x x' hx hx' => by
    rw [show (us ++ celV (lcOf s ρ h k).ods xs).map C.raw = us.map C.raw ++ (celV h.ods xs).map C.raw from List.map_append, List.getElem?_append, List.length_map] at hx
    rw [List.getElem?_append, List.length_map, hdl] at hx'
    split at hx
    · rename_i hi
      rw [if_pos hi] at hx'
      rw [List.getElem?_map] at hx hx'
      cases hu : us[i]? with
      | none => rw [hu] at hx; cases hx
      | some u =>
        rw [hu] at hx; cases hx
        cases hv : (vs.drop h.gens.length)[i]? with
        | none => rw [hv] at hx'; cases hx'
        | some v =>
          rw [hv] at hx'; cases hx'
          obtain ⟨y, rfl, hy⟩ := hcell i v u hv hu
          exact ⟨hy, fun _ => q5 _ (List.mem_of_mem_drop (List.mem_of_getElem? hv))⟩
    · rename_i hi
      rw [if_neg hi] at hx'
      rw [hx] at hx'
      cases hx'
      exact ⟨rfl, fun h => h⟩
  obtain ⟨h1, h2⟩ := q2.like hsl
  -- own data
  have hox2 : OdXs F' b.wB.heap.size τ (setsC s.m.S (h.cells ++ ocs h.ods) ((vs.drop h.gens.length).map cellV ++ (celV h.ods xs).map .raw)) Y' w a.tmps h.ods xs := hox.move (fun x hx hl => by
    obtain ⟨g1, g2, g3, g4, g5⟩ := hx hl
    refine ⟨g1, g2, g3, fun q r hq hb => ?_, fun i e z o jj hi hli => ?_⟩
    · obtain ⟨r', h5, h6⟩ := hsl.back hq
      rw [q1.b q (hAw.rel.lt q r' h5)]
      exact g4 q r' h5 (by rw [h6.blk.1]; exact hb)
    · have hi0 := q7 i _ hi rfl
      have hli0 := (hF'.row i _ hi0).1
      rw [q1.b i hli0]
      exact g5 i e z o jj hi0 ((live_agree q1 hli0).1 hli)) fun o ho i hi => ⟨q1.v i (hplt o ho i hi), q1.b i (hplt o ho i hi)⟩
  obtain ⟨υ, ρ2, o1, o2, ⟨o3, o3b, o3c⟩, o4⟩ := Aw.symOs h.ods xs n' (m := ⟨setsC s.m.S (h.cells ++ ocs h.ods) ((vs.drop h.gens.length).map cellV ++ (celV h.ods xs).map .raw), n', s.m.lo⟩) rfl h1 (h2 F' q6) hox2 (fun o ho i hi => (hplt o ho i hi).mono q0) q3
  have q1 := q1.trans q0 o1
  have q0 : s.m.nx ≤ odNx h.ods n' := Nat.le_trans q0 (odNx_le _ _)
  -- .. and those of own data
  have hsl2 : SLike υ (odNx h.ods n') (setsC s.m.S (h.cells ++ ocs h.ods) ((vs.drop h.gens.length).map cellV ++ (celV h.ods xs).map .raw)) (setsC s.m.S (h.cells ++ ocs h.ods) ((vs.drop h.gens.length).map cellV ++ odCs h.ods n')) := sets_both (h.cells ++ ocs h.ods) _ _ _ _ (SLike.refl _ _ _) (by
    simp only [List.length_append, List.length_map, ← o3b]) fun i x x' hx hx' => by
    rw [List.getElem?_append] at hx hx'
    split at hx
    · rename_i hi
      rw [if_pos hi] at hx'
      rw [hx] at hx'
      cases hx'
      exact ⟨rfl, fun h => h⟩
    · rename_i hi
      rw [if_neg hi] at hx'
      rw [← o3b, List.getElem?_map, List.getElem?_map, hx'] at hx
      cases hx
      exact ⟨rfl, fun _ => o3c _ (List.mem_of_getElem? hx')⟩
  obtain ⟨h1, _⟩ := o2.like hsl2
  have hAw2 : Aw K (b.at σ' s.m.nx) ⟨setsC s.m.S (h.cells ++ ocs h.ods) ((vs.drop h.gens.length).map cellV ++ odCs h.ods n'), odNx h.ods n', s.m.lo⟩ (odRows h.ods n' Y') ρ2 υ w :=
    ⟨h1.rel, h1.nx, h1.agree, q0, q1, h1.base, h1.goes, h1.frame, h1.own, h1.y, h1.ag, h1.dfr, h1.keep, h1.klow⟩
  have hT : TmOk υ (odNx h.ods n') a.tmps ⟨toldW h.gens (vs.take h.gens.length) ++ (odT h.ods n' ++ keepL s.tm h.keep), fun t => a.tmps.getD t undef⟩ := TmOk.told fun p hp => by
    rcases List.mem_append.1 hp with hp | hp
    · have key : ∀ (l : List Tmp) (vs : List V), vs.map (realV τ) = mapN a.tmps l → (∀ v ∈ vs, V.lt n' v) → p ∈ toldW l vs → a.tmps.getD p.1 undef = realW υ p.2 ∧ p.2.lt (odNx h.ods n') := fun l => by
        induction l with
        | nil => intro vs _ _ h; cases vs <;> cases h
        | cons t l ih =>
          intro vs hv hl hm
          cases vs with
          | nil => cases hm
          | cons v vs =>
            have hv' : realV τ v :: vs.map (realV τ) = a.tmps.getD t undef :: mapN a.tmps l := hv
            rcases List.mem_cons.1 (show p ∈ (t, W.v v) :: toldW l vs from hm) with rfl | hm
            · exact ⟨by rw [show realW υ (W.v v) = realV υ v from rfl, o1.realV (hl v List.mem_cons_self)]; exact (List.cons.inj hv').1.symm, V.lt.mono (hl v List.mem_cons_self) (odNx_le _ _)⟩
            · exact ih vs (List.cons.inj hv').2 (fun x hx => hl x (List.mem_cons_of_mem _ hx)) hm
      exact key _ _ htake (fun v hv => q5 v (List.mem_of_mem_take hv)) hp
    · rcases List.mem_append.1 hp with hp | hp
      · exact o3 p hp
      · obtain ⟨h3, h4⟩ := hkeep p hp
        exact ⟨by rw [q1.realW h4]; exact h3, h4.mono q0⟩
  exact ⟨σ', ds, vs, n', Y', xs, υ, ρ2, hAw.ag, hag1, ⟨hAw2, hT, hnt, hmks⟩, o4.2, by rw [o4.1]; exact hin, by rw [o4.1]; exact hmu⟩
/-- a base that tells more -/
theorem At.at {b : Bs} {σ : Env} {a : Act} {w : World} {c : Cur} {ks : List Kt} (hA : At K b s ρ σ a w) : At K (b.at σ s.m.nx) ⟨c, ks, s.tm, s.m, s.Y, s.nt, s.key⟩ ρ σ a w := ⟨⟨hA.aw.rel, hA.aw.nx, hA.aw.agree, Nat.le_refl _, Agree.refl _ _, hA.aw.base, hA.aw.goes, hA.aw.frame, hA.aw.own, hA.aw.y, hA.aw.ag, hA.aw.dfr, hA.aw.keep, hA.aw.klow⟩, hA.tm, hA.nt, hA.mks⟩
theorem QOk.at {b : Bs} {nt : Nat} {Qw : Qs} {σ : Env} {n : Nat} {q : Exit → Tm → Mem → T YRow → Rho → Prop} {L : List (Nat × LC)} (hbn : b.n1 ≤ n) (ha : Agree b.n1 b.σ1 σ) (hQ : QOk K b nt ⟨q, L⟩ Qw) (j : Nat) (lc : LC) (Φ : Act → World → Prop) (hL : Link (b.at σ n) lc) (hΦ : ∀ a w, HeadAt K b lc a w → Φ a w) : QOk K (b.at σ n) nt ⟨q, (j, lc) :: dropJ j L⟩ ⟨Qw.q, fun i => if i = j then Φ else Qw.Λ i, Qw.np⟩ := ⟨fun e tm m Y ρ2 key σ2 a2 w2 hq hA2 => hQ.1 e tm m Y ρ2 key σ2 a2 w2 hq ⟨hA2.aw.unat hbn ha, hA2.tm, hA2.nt, hA2.mks⟩, fun p hp => by
  rcases List.mem_cons.1 hp with rfl | hp
  · refine ⟨hL, fun a2 w2 hh2 => ?_⟩
    show (if j = j then Φ else Qw.Λ j) a2 w2
    rw [if_pos rfl]
    exact hΦ a2 w2 (hh2.base hbn ha)
  · obtain ⟨hp1, hp2⟩ := dropJ_mem _ _ _ hp
    obtain ⟨L, hΛ⟩ := hQ.2 p hp1
    refine ⟨⟨Nat.le_trans L.nx hbn, L.n0, fun i y hi => (L.ag i y hi).agree' ((L.ylt i y hi).1.mono L.nx) ha (hylt' L.nx (L.ylt i y hi).2), L.ylt, L.rlt, L.klt, L.loops, L.fresh⟩, fun a2 w2 hh2 => ?_⟩
    show (if p.1 = j then Φ else Qw.Λ p.1) a2 w2
    rw [if_neg hp2]
    exact hΛ a2 w2 (hh2.base hbn ha)⟩
/-- the same, without a head more -/
theorem QOk.low {b : Bs} {nt : Nat} {Qw : Qs} {σ : Env} {n : Nat} (hbn : b.n1 ≤ n) (ha : Agree b.n1 b.σ1 σ) (hQ : QOk K b nt Q Qw) : QOk K (b.at σ n) nt Q Qw := ⟨fun e tm m Y ρ2 key σ2 a2 w2 hq hA2 => hQ.1 e tm m Y ρ2 key σ2 a2 w2 hq ⟨hA2.aw.unat hbn ha, hA2.tm, hA2.nt, hA2.mks⟩, fun p hp => by
  obtain ⟨L, hΛ⟩ := hQ.2 p hp
  exact ⟨⟨Nat.le_trans L.nx hbn, L.n0, fun i y hi => (L.ag i y hi).agree' ((L.ylt i y hi).1.mono L.nx) ha (hylt' L.nx (L.ylt i y hi).2), L.ylt, L.rlt, L.klt, L.loops, L.fresh⟩, fun a2 w2 hh2 => hΛ a2 w2 (hh2.base hbn ha)⟩⟩
/-- INTO A LOOP -/
theorem sx_loop {c : Code} {j : Nat} {h : Hint} {vs0 : List V} {cs0 : List C} {ds0 : List DV} (hc : s.cur = .code (.loop c)) (hj : freshK j s.ks = true) (hok : okH h = true) (hg : valsG s h.gens h.cells = some (vs0, cs0)) (ho : outVs s.Y ρ h.rks (vs0 ++ cs0.map V.c) = some ds0) {xs0 : List (Option (Nat × Nat))} (hod : odGets s.m.S s.tm s.Y (killO s.m.S s.tm s.Y h.ods) h.ods = some xs0) (hpl : atB s.Y s.m.nx h.ods = true) (hinv : h.inv ρ (ds0 ++ odDat ρ xs0)) (hb0 : backB (lcOf s ρ h 0) s = true)
    (body : ∀ g, allV h.rks s.m.nx (killO s.m.S s.tm s.Y h.ods) ρ fun ds vs n' Y' ρ' => allO h.ods n' ρ' fun ls ρ' => h.inv ρ (ds ++ datO ls) → Sx P K (headS s c j h g vs n' Y') ρ' ⟨Q.q, (j, lcOf s ρ h (h.mu ρ (ds ++ datO ls))) :: dropJ j Q.L⟩) : Sx P K s ρ Q := by
  intro F hF n b hB Qw hQ σ a w hA
  rw [hc]
  show (Code.loop c).wpIn F n P (after F n P Qw s.ks) a w
  refine wpIn_loopAt ?_
  have hplt := plt_ok hA hpl
  have hbn := hA.aw.nx1
  have claim : ∀ (k : Nat) (a : Act) (w : World), HeadAt K b (lcOf s ρ h k) a w → LoopAt F n P c (after F n P Qw s.ks) a w := by
    intro k
    induction k using Nat.strongRecOn with
    | _ k ih =>
    intro a w hh
    obtain ⟨σ', ds, vs, n', Y', xs, υ, ρ2, hag, hag1, hAt, hΨ, hin, hmu⟩ := hh.into (c := .code c) (ks := .loop c (some j) :: s.ks) hok hplt hbn (body fun t => a.tmps.getD t undef)
    refine loopAt_step ?_
    have hrun := (hΨ hin) F hF n (b.at σ' s.m.nx) hB ⟨Qw.q, fun i => if i = j then LoopAt F n P c (after F n P Qw s.ks) else Qw.Λ i, Qw.np⟩ (QOk.at hbn hag1 hQ j _ _ (link_ok hA hpl σ' _ hag) fun a2 w2 hh2 => ih _ hmu a2 w2 hh2) υ a w hAt
    have haf : after F n P ⟨Qw.q, fun i => if i = j then LoopAt F n P c (after F n P Qw s.ks) else Qw.Λ i, Qw.np⟩ s.ks = after F n P Qw s.ks := after_fresh (fun i hi => if_neg hi) s.ks hj
    have hden : (c.wpIn F n P (Exit.then (if j = j then LoopAt F n P c (after F n P Qw s.ks) else Qw.Λ j) (after F n P ⟨Qw.q, fun i => if i = j then LoopAt F n P c (after F n P Qw s.ks) else Qw.Λ i, Qw.np⟩ s.ks))) a w := hrun
    rw [if_pos rfl, haf] at hden
    exact hden
  refine claim (h.mu ρ (ds0 ++ odDat ρ xs0) + 1) a w (HeadAt.base (σ := σ) (n := s.m.nx) (HeadAt.of (hA.at (c := s.cur) (ks := s.ks)) (link_ok hA hpl σ _ fun i y hi => by
    rcases (kill_ok hA h.ods i y hi).2 with h3 | rfl
    · exact hA.aw.ag i y h3
    · trivial) ?_ hg ho hod hinv (Nat.lt_succ_self _)) hA.aw.nx1 hA.aw.agree1)
  exact hb0
end
end
end Go.Vc
