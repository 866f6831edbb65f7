
import Derived.Test.YtneooimijbfmgaaGreatCrAP
set_option linter.unusedVariables false
set_option linter.unusedSimpArgs false
set_option linter.unusedSectionVars false
/- A region that draws, told in another order. -/
namespace Go.Vc
noncomputable def posN (l : List Nat) (k : Nat) : Nat := List.rec 0 (fun i _ ih => bif Nat.beq i k then 0 else Nat.succ ih) l
noncomputable def renO (π : List Nat) (o : Oper) : Oper := { o with after := (o.after.toList.map fun e => { e with on := posN π e.on }).toArray, guard := match o.guard with
  | some g => some (posN π g.1, g.2)
  | none => none }
noncomputable def permL (ops : Array Oper) (π : List Nat) : List Nat → List Oper
  | [] => []
  | i :: l => match ops[i]? with
    | some o => renO π o :: permL ops π l
    | none => permL ops π l
noncomputable def permA (ops : Array Oper) (π : List Nat) : Array Oper := (permL ops π π).toArray
noncomputable def permB (ops : Array Oper) (π : List Nat) : Bool := Nat.beq π.length ops.size && (π.all (fun i => Nat.blt i ops.size) && ((List.range ops.size).all (fun k => match π[posN π k]? with
  | some k' => Nat.beq k' k && (match π[k]? with
    | some q => Nat.beq (posN π q) k
    | none => false)
  | none => false) && ops.toList.all fun o => (o.after.toList.all fun e => Nat.blt e.on ops.size) && (match o.guard with
  | some g => Nat.blt g.1 ops.size
  | none => true)))
section
variable {F : Fence} {n : Nat} {P : Program} {Q : Exit → Act → World → Prop} {ops : Array Oper} {π : List Nat}
theorem permL_get : ∀ (l : List Nat), (∀ i ∈ l, i < ops.size) → ∀ q : Nat, (permL ops π l)[q]? = (l[q]?).bind fun i => (ops[i]?).map (renO π)
  | [], _, q => by simp [permL]
  | i :: l, h, q => by
    unfold permL
    have hi := h i List.mem_cons_self
    rw [Array.getElem?_eq_getElem hi]
    cases q with
    | zero => simp [Array.getElem?_eq_getElem hi]
    | succ q => simp only [List.getElem?_cons_succ]; exact permL_get l (fun i hi => h i (List.mem_cons_of_mem _ hi)) q
theorem permL_len : ∀ (l : List Nat), (∀ i ∈ l, i < ops.size) → (permL ops π l).length = l.length
  | [], _ => rfl
  | i :: l, h => by
    unfold permL
    have hi := h i List.mem_cons_self
    rw [Array.getElem?_eq_getElem hi]
    simp [permL_len l fun i hi => h i (List.mem_cons_of_mem _ hi)]
structure PermOk (ops : Array Oper) (π : List Nat) : Prop where
  size : (permA ops π).size = ops.size
  get : ∀ k o, ops[k]? = some o → (permA ops π)[posN π k]? = some (renO π o)
  inj : ∀ k k', k < ops.size → k' < ops.size → posN π k = posN π k' → k = k'
  lt : ∀ k, k < ops.size → posN π k < ops.size
  back : ∀ (q : Nat) (o' : Oper), (permA ops π)[q]? = some o' → ∃ k o, ops[k]? = some o ∧ o' = renO π o ∧ posN π k = q
  edge : ∀ (k : Nat) (o : Oper), ops[k]? = some o → ∀ e ∈ o.after, e.on < ops.size
  grd : ∀ (k : Nat) (o : Oper) g, ops[k]? = some o → o.guard = some g → g.1 < ops.size
theorem perm_ok (h : permB ops π = true) : PermOk ops π := by
  unfold permB at h
  simp only [Bool.and_eq_true] at h
  obtain ⟨h1, h2, h3, h4⟩ := h
  have h1 := Nat.eq_of_beq_eq_true h1
  rw [List.all_eq_true] at h2 h3 h4
  have hl : ∀ i ∈ π, i < ops.size := fun i hi => Nat.le_of_ble_eq_true (h2 i hi)
  have hp : ∀ k, k < ops.size → π[posN π k]? = some k := fun k hk => by
    have := h3 k (List.mem_range.2 hk)
    split at this
    · rename_i k' hk'; rw [Bool.and_eq_true] at this; rw [hk', Nat.eq_of_beq_eq_true this.1]
    · cases this
  have hp2 : ∀ k, k < ops.size → ∃ q, π[k]? = some q ∧ posN π q = k := fun k hk => by
    have := h3 k (List.mem_range.2 hk)
    split at this
    · rename_i k' hk'
      rw [Bool.and_eq_true] at this
      have h5 := this.2
      split at h5
      · rename_i q hq; exact ⟨q, hq, Nat.eq_of_beq_eq_true h5⟩
      · cases h5
    · cases this
  refine ⟨?_, fun k o ho => ?_, fun k k' hk hk' he => ?_, fun k hk => ?_, fun q o' hq => ?_, fun k o ho e he => ?_, fun k o g ho hg => ?_⟩
  · show (permL ops π π).toArray.size = _
    simp [permL_len π hl, h1]
  · show (permL ops π π).toArray[posN π k]? = _
    rw [List.getElem?_toArray, permL_get π hl, hp k (Array.getElem?_eq_some_iff.1 ho).1]
    simp [ho]
  · have a1 := hp k hk
    rw [he, hp k' hk'] at a1
    exact (Option.some.inj a1).symm
  · have := (List.getElem?_eq_some_iff.1 (hp k hk)).1
    omega
  · have hq' : (permL ops π π).toArray[q]? = some o' := hq
    rw [List.getElem?_toArray, permL_get π hl] at hq'
    cases hqq : π[q]? with
    | none => rw [hqq] at hq'; cases hq'
    | some k =>
      rw [hqq] at hq'
      have hkl := hl k (List.mem_of_getElem? hqq)
      have hq' : (ops[k]?).map (renO π) = some o' := hq'
      rw [Array.getElem?_eq_getElem hkl] at hq'
      cases hq'
      have hql : q < ops.size := by have := (List.getElem?_eq_some_iff.1 hqq).1; omega
      obtain ⟨k2, e1, e2⟩ := hp2 q hql
      rw [hqq] at e1
      cases e1
      exact ⟨k, _, Array.getElem?_eq_getElem hkl, rfl, e2⟩
  · have := h4 o (by rw [← Array.getElem?_toList] at ho; exact List.mem_of_getElem? ho)
    rw [Bool.and_eq_true, List.all_eq_true] at this
    exact Nat.le_of_ble_eq_true (this.1 e (by simpa using he))
  · have := h4 o (by rw [← Array.getElem?_toList] at ho; exact List.mem_of_getElem? ho)
    rw [Bool.and_eq_true] at this
    rw [hg] at this
    exact Nat.le_of_ble_eq_true this.2
theorem perm_ready (J : PermOk ops π) {L L' : Array Bool} (hL : L.size = ops.size) (hL' : L'.size = ops.size) (hk : ∀ k, k < ops.size → L'.getD (posN π k) false = L.getD k false) {i : Nat} (hi : i ∈ Region.ready .any ops L) : posN π i ∈ Region.ready .any (permA ops π) L' := by
  obtain ⟨g1, o, g2, g3⟩ := mem_ready.1 hi
  have hil := (Array.getElem?_eq_some_iff.1 g2).1
  refine mem_ready.2 ⟨getD_in (by rw [hL']; exact J.lt i hil) (by rw [hk i hil]; exact getD_both g1), renO π o, J.get i o g2, fun e he hb => ?_⟩
  have he' : e ∈ o.after.toList.map fun e => ({ e with on := posN π e.on } : Edge) := by simpa [renO] using he
  obtain ⟨e0, h1, rfl⟩ := List.mem_map.1 he'
  have h1 : e0 ∈ o.after := by simpa using h1
  show L'.getD (posN π e0.on) false = true
  rw [hk e0.on (J.edge i o g2 e0 h1)]
  exact g3 e0 h1 hb
theorem perm_none (J : PermOk ops π) {L L' : Array Bool} (hL : L.size = ops.size) (hk : ∀ k, k < ops.size → L'.getD (posN π k) false = L.getD k false) {q : Nat} (hq : q ∈ Region.ready .any (permA ops π) L') : ∃ i, i ∈ Region.ready .any ops L := by
  obtain ⟨g1, o', g2, g3⟩ := mem_ready.1 hq
  obtain ⟨k, o, ho, rfl, hkq⟩ := J.back q o' g2
  have hkl := (Array.getElem?_eq_some_iff.1 ho).1
  refine ⟨k, mem_ready.2 ⟨getD_in (by rw [hL]; exact hkl) (by rw [← hk k hkl, hkq]; exact getD_both g1), o, ho, fun e he hb => ?_⟩⟩
  rw [← hk e.on (J.edge k o ho e he)]
  refine g3 { e with on := posN π e.on } ?_ hb
  simp only [renO]
  simpa using ⟨e, he, rfl, rfl⟩
theorem perm_back (J : PermOk ops π) : ∀ (fuel : Nat) (L L' : Array Bool) (a : Act) (w : World), L.size = ops.size → L'.size = ops.size → (∀ k, k < ops.size → L'.getD (posN π k) false = L.getD k false) → wpAnyIn F n P .any (permA ops π) Q fuel L' a w → wpAnyIn F n P .any ops Q fuel L a w
  | 0, L, L', a, w, hL, hL', hk, h => by
    refine ⟨List.eq_nil_iff_forall_not_mem.2 fun i hi => ?_, h.2⟩
    have := perm_ready J hL hL' hk hi
    rw [h.1] at this; cases this
  | fuel + 1, L, L', a, w, hL, hL', hk, h => by
    by_cases hne : Region.ready .any ops L = []
    · by_cases hne' : Region.ready .any (permA ops π) L' = []
      · exact ⟨fun _ => h.1 hne', fun i hi => by rw [hne] at hi; cases hi⟩
      · exfalso
        -- an index there comes from one here
        obtain ⟨q, hq⟩ := List.exists_mem_of_ne_nil _ hne'
        obtain ⟨i, hi⟩ := perm_none J hL hk hq
        rw [hne] at hi; cases hi
    · refine ⟨fun h0 => absurd h0 hne, fun i hi => ?_⟩
      have hr := perm_ready J hL hL' hk hi
      obtain ⟨_, o, g2, _⟩ := mem_ready.1 hi
      have hil := (Array.getElem?_eq_some_iff.1 g2).1
      have h2 := h.2 _ hr
      have ih : ∀ a w, wpAnyIn F n P .any (permA ops π) Q fuel (L'.setIfInBounds (posN π i) true) a w → wpAnyIn F n P .any ops Q fuel (L.setIfInBounds i true) a w := fun a w => perm_back J fuel _ _ a w (by simp [hL]) (by simp [hL']) fun k hkl => by
        rw [set_getD (by rw [hL']; exact J.lt i hil), set_getD (by rw [hL]; exact hil), hk k hkl]
        congr 1
        exact decide_eq_decide.2 ⟨fun he => J.inj k i hkl hil he, fun he => by rw [he]⟩
      unfold wpOpIn at h2 ⊢
      rw [J.get i o g2] at h2
      rw [g2]
      simp only at h2 ⊢
      have hw : Region.wanted (renO π o) (yielded (permA ops π) a.tmps) = Region.wanted o (yielded ops a.tmps) := by
        unfold Region.wanted
        cases hg : o.guard with
        | none => simp only [renO, hg]
        | some g =>
          simp only [renO, hg]
          have hgl := J.grd i o g g2 hg
          have hy : yielded (permA ops π) a.tmps (posN π g.1) = yielded ops a.tmps g.1 := by
            unfold yielded
            rw [J.get g.1 _ (Array.getElem?_eq_getElem hgl), Array.getElem?_eq_getElem hgl]
            rfl
          rw [hy]
      rw [hw] at h2
      split
      · rename_i hq
        rw [if_pos hq] at h2
        have h3 : o.wpIn F n P a w (wpAnyIn F n P .any (permA ops π) Q fuel (L'.setIfInBounds (posN π i) true)) Q := by
          obtain ⟨dst, op, type, pos, after, guard⟩ := o
          exact h2
        exact Oper.wpIn_mono ih h3
      · rename_i hq
        rw [if_neg hq] at h2
        exact ⟨h2.1, ih _ _ h2.2⟩
end
section
variable [H : Holes] {P : Program} {K : Nat → Option (List Value)} {s : St} {ρ : Rho} {Q : Post}
theorem sx_perm {ops : Array Oper} {π : List Nat} (hc : s.cur = .draw ops 0) (hp : permB ops π = true) (k : Sx P K ⟨.draw (permA ops π) 0, s.ks, s.tm, s.m, s.Y, s.nt, s.key⟩ ρ Q) : Sx P K s ρ Q := by
  refine sx_same (s' := ⟨.draw (permA ops π) 0, s.ks, s.tm, s.m, s.Y, s.nt, s.key⟩) rfl rfl rfl rfl (fun F n Qw a w h => ?_) k
  rw [hc]
  have J := perm_ok hp
  intro fuel listed hs hl hf
  refine perm_back J fuel listed (Array.replicate ops.size false) a w hs (by simp) (fun k hk => ?_) (h fuel _ (by simp [J.size]) (fun k => ?_) (by rw [J.size]; exact hf))
  · rw [hl k, Array.getD_eq_getD_getElem?, Array.getElem?_replicate, if_pos (J.lt k hk)]; simp
  · rw [Array.getD_eq_getD_getElem?, Array.getElem?_replicate]; split <;> simp
end
end Go.Vc
