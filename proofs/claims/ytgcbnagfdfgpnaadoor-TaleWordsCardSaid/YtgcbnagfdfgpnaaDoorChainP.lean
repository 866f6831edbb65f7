/- The chain's law once more, with operations that yield the same in every world: they may stand beside a step that parts the region. -/
import Derived.Test.YtgcbnagfdfgpnaaDoorChain
namespace Go.Hx.CP
open Go Go.Hx

section
variable {Fi : Fence} {m : Nat} {P : Program} {ops : Array Oper} {md : Region.Mode} {ch : Nat → Nat}

/-- one operation: 1: a part of the chain, told step by step; 2: a step of the chain that parts the region; else: one that yields the same in every world of C -/
def cOp (Fi : Fence) (P : Program) (ops : Array Oper) (ch : Nat → Nat) (i : Nat) (o : Oper) (K : Act → (World → Prop) → (World → Prop) → Prop) (a : Act) (C J : World → Prop) : Prop :=
  if Region.wanted o (yielded ops a.tmps) = true then
    if ch i = 3 then ∃ v, (∀ w, detUpon w v ((execOp a.eval o).run P w)) ∧ K (a.put o.dst v) C J
    else if ch i = 1 then ∃ (V : Value → Prop) (J' : Value → World → Prop), (∃ v, V v) ∧ (∀ w, C w → J w → undIn Fi P (fun v w' => V v ∧ C w' ∧ J' v w') ((execOp a.eval o).run P w)) ∧ ∀ v, V v → K (a.put o.dst v) C (J' v)
    else if ch i = 2 then ∃ (V : Value → Prop) (C' J' : Value → World → Prop), (∃ v, V v) ∧ (∀ v, V v → ∃ w, C' v w) ∧ (∀ w, C w → J w → undIn Fi P (fun v w' => V v ∧ C' v w' ∧ J' v w') ((execOp a.eval o).run P w)) ∧ ∀ v, V v → K (a.put o.dst v) (C' v) (J' v)
    else ∃ v, (∀ w, C w → detUpon w v ((execOp a.eval o).run P w)) ∧ K (a.put o.dst v) C J
  else K (a.put o.dst undef) C J

theorem cOp_mono {i : Nat} {o : Oper} {K K' : Act → (World → Prop) → (World → Prop) → Prop} {a : Act} {C J : World → Prop} (hne : ∃ w, C w) (h : ∀ a C J, (∃ w, C w) → K a C J → K' a C J) (hh : cOp Fi P ops ch i o K a C J) : cOp Fi P ops ch i o K' a C J := by
  unfold cOp at *
  split
  · rename_i hw
    rw [if_pos hw] at hh
    split
    · rename_i hc; rw [if_pos hc] at hh; obtain ⟨v, h1, h2⟩ := hh; exact ⟨v, h1, h _ _ _ hne h2⟩
    rename_i h3
    rw [if_neg h3] at hh
    split
    · rename_i hc; rw [if_pos hc] at hh; obtain ⟨V, J', h0, h1, h2⟩ := hh; exact ⟨V, J', h0, h1, fun v hv => h _ _ _ hne (h2 v hv)⟩
    · rename_i hc
      rw [if_neg hc] at hh
      split
      · rename_i hb; rw [if_pos hb] at hh; obtain ⟨V, C', J', h0, h1, h2, h3⟩ := hh; exact ⟨V, C', J', h0, h1, h2, fun v hv => h _ _ _ (h1 v hv) (h3 v hv)⟩
      · rename_i hb; rw [if_neg hb] at hh; obtain ⟨v, h1, h2⟩ := hh; exact ⟨v, h1, h _ _ _ hne h2⟩
  · rename_i hw
    rw [if_neg hw] at hh
    exact h _ _ _ hne hh

def wpAnyC (Fi : Fence) (P : Program) (md : Region.Mode) (ops : Array Oper) (ch : Nat → Nat) (n : Nat) (L : Array Bool → Act → (World → Prop) → (World → Prop) → Prop) : Nat → Array Bool → Act → (World → Prop) → (World → Prop) → Prop
  | 0, listed, a, C, J => L listed a C J
  | f + 1, listed, a, C, J => Region.ready md ops listed ≠ [] ∧ ∀ i ∈ Region.ready md ops listed, i < n ∧ ∀ o, ops[i]? = some o → cOp Fi P ops ch i o (wpAnyC Fi P md ops ch n L f (listed.setIfInBounds i true)) a C J

theorem wpAnyIn_of_C {n g : Nat} {L : Array Bool → Act → (World → Prop) → (World → Prop) → Prop} {Q : Exit → Act → World → Prop} (hop : Open Fi) (hdf : ∀ (j : Nat) (o : Oper) c, ops[j]? = some o → o.op ≠ .defer c)
    (hL : ∀ listed a C J w, L listed a C J → C w → J w → wpAnyIn Fi m P md ops Q g listed a w) :
    ∀ (f : Nat) (listed : Array Bool) (a : Act) (C J : World → Prop) (w : World), C w → J w → wpAnyC Fi P md ops ch n L f listed a C J → wpAnyIn Fi m P md ops Q (f + g) listed a w
  | 0, listed, a, C, J, w, hC, hJ, h => by rw [Nat.zero_add]; exact hL _ _ _ _ _ h hC hJ
  | f + 1, listed, a, C, J, w, hC, hJ, h => by
    rw [show f + 1 + g = (f + g) + 1 by omega]
    refine ⟨fun h0 => absurd h0 h.1, fun i hi => ?_⟩
    obtain ⟨_, o, ho, _⟩ := mem_ready.1 hi
    have h1 := (h.2 i hi).2 o ho
    have hab : ∀ f, o.about P w a.eval = some f → Fi.fn f := fun f _ => hop.fn f
    have hdep : Fi.depth.isSome = true → 1 ≤ m := fun hd => by rw [hop.depth] at hd; cases hd
    have hsem : o.semAt Fi.round a.eval = execOp a.eval o := Oper.semAt_eq _ _ _ (fun c => hdf i o c ho)
    unfold wpOpIn
    rw [ho]
    unfold cOp at h1
    simp only
    split
    · rename_i hw
      rw [if_pos hw] at h1
      unfold Oper.wpIn
      refine ⟨hab, ?_⟩
      rw [hsem]
      have key : ∀ (V : Value → Prop) (C' J' : Value → World → Prop), undIn Fi P (fun v w' => V v ∧ C' v w' ∧ J' v w') ((execOp a.eval o).run P w) → (∀ v, V v → wpAnyC Fi P md ops ch n L f (listed.setIfInBounds i true) (a.put o.dst v) (C' v) (J' v)) →
          o.uponIn Fi m P a (wpAnyIn Fi m P md ops Q (f + g) (listed.setIfInBounds i true)) Q ((execOp a.eval o).run P w) := fun V C' J' h4 h3 => by
        generalize (execOp a.eval o).run P w = r at *
        cases r with
        | ok x w' =>
          cases x <;> simp only [undIn] at h4 <;> simp only [Oper.uponIn]
          · exact wpAnyIn_of_C hop hdf hL f _ _ _ _ _ h4.2.1 h4.2.2 (h3 _ h4.1)
          · exact wpAnyIn_of_C hop hdf hL f _ _ _ _ _ h4.2.1 h4.2.2 (h3 _ h4.1)
          · refine ⟨hdep, CallsIn.mono (hop.calls h4) fun e w'' ⟨u, he, hv, hc, hj⟩ => ?_⟩
            subst he
            exact wpAnyIn_of_C hop hdf hL f _ _ _ _ _ hc hj (h3 _ hv)
          · obtain ⟨m', h4⟩ := h4
            refine ⟨hdep, RoundIn.mono (hop.round h4) fun e w'' ⟨u, he, hv, hc, hj⟩ => ?_⟩
            subst he
            exact wpAnyIn_of_C hop hdf hL f _ _ _ _ _ hc hj (h3 _ hv)
        | halt x w' => exact h4.elim
      split at h1
      · obtain ⟨v, h2, h3⟩ := h1
        have h4 := h2 w
        generalize (execOp a.eval o).run P w = r at *
        cases r with
        | ok x w' =>
          cases x <;> simp only [detUpon] at h4 <;> simp only [Oper.uponIn]
          · obtain ⟨e1, e2⟩ := h4
            rw [e1, e2]
            exact wpAnyIn_of_C hop hdf hL f _ _ _ _ _ hC hJ h3
          · obtain ⟨e1, e2⟩ := h4
            rw [e1, ← e2]
            exact wpAnyIn_of_C hop hdf hL f _ _ _ _ _ hC hJ h3
        | halt x w' => exact h4.elim
      split at h1
      · obtain ⟨V, J', _, h2, h3⟩ := h1
        exact key V (fun _ => C) J' (h2 w hC hJ) h3
      · split at h1
        · obtain ⟨V, C', J', _, _, h2, h3⟩ := h1
          exact key V C' J' (h2 w hC hJ) h3
        · obtain ⟨v, h2, h3⟩ := h1
          have h4 := h2 w hC
          generalize (execOp a.eval o).run P w = r at *
          cases r with
          | ok x w' =>
            cases x <;> simp only [detUpon] at h4 <;> simp only [Oper.uponIn]
            · obtain ⟨e1, e2⟩ := h4
              rw [e1, e2]
              exact wpAnyIn_of_C hop hdf hL f _ _ _ _ _ hC hJ h3
            · obtain ⟨e1, e2⟩ := h4
              rw [e1, ← e2]
              exact wpAnyIn_of_C hop hdf hL f _ _ _ _ _ hC hJ h3
          | halt x w' => exact h4.elim
    · rename_i hw
      rw [if_neg hw] at h1
      exact ⟨hab, wpAnyIn_of_C hop hdf hL f _ _ _ _ _ hC hJ h1⟩

/-- an operation that is apart from another one -/
theorem cOp_swap {i j : Nat} {oi oj : Oper} (hx : ch i = 3 ∨ ch j = 3 ∨ ch i ≠ 2 ∧ ch j ≠ 2 ∧ (ch i ≠ 1 ∨ ch j ≠ 1)) (hap : oi.apart ops oj = true) (hsi : ∀ cs b, oi.op ≠ .select cs b) (hsj : ∀ cs b, oj.op ≠ .select cs b)
    {K : Act → (World → Prop) → (World → Prop) → Prop} {a : Act} {C J : World → Prop} (hne : ∃ w, C w)
    (h : cOp Fi P ops ch i oi (fun a C J => cOp Fi P ops ch j oj K a C J) a C J) : cOp Fi P ops ch j oj (fun a C J => cOp Fi P ops ch i oi K a C J) a C J := by
  obtain ⟨h1, h2, h3⟩ := Oper.apart_spec hap
  have ei : ∀ (a : Act) u, execOp (a.put oj.dst u).eval oi = execOp a.eval oi := fun a u => execOp_put oi hsi a oj.dst u h3
  have wi : ∀ (a : Act) u, Region.wanted oi (yielded ops (a.put oj.dst u).tmps) = Region.wanted oi (yielded ops a.tmps) := fun a u => wanted_put oi a oj.dst u h3
  have ej : ∀ (a : Act) u, execOp (a.put oi.dst u).eval oj = execOp a.eval oj := fun a u => execOp_put oj hsj a oi.dst u h1
  have wj : ∀ (a : Act) u, Region.wanted oj (yielded ops (a.put oi.dst u).tmps) = Region.wanted oj (yielded ops a.tmps) := fun a u => wanted_put oj a oi.dst u h1
  have cm : ∀ v u, (a.put oi.dst v).put oj.dst u = (a.put oj.dst u).put oi.dst v := fun v u => Act.put_comm a v u h2
  obtain ⟨w0, hw0⟩ := hne
  unfold cOp at *
  simp only [ei, wi, ej, wj] at *
  by_cases hwi : Region.wanted oi (yielded ops a.tmps) = true
  · by_cases hwj : Region.wanted oj (yielded ops a.tmps) = true
    · simp only [hwi, hwj, if_true] at *
      by_cases hi3 : ch i = 3
      · simp only [hi3, if_true] at *
        obtain ⟨v, hv, hh⟩ := h
        split at hh
        · rename_i hc; simp only [hc, if_true]; obtain ⟨u, hu, hk⟩ := hh; exact ⟨u, hu, v, hv, by rw [← cm]; exact hk⟩
        · rename_i hc
          rw [if_neg hc]
          split at hh
          · rename_i hd; rw [if_pos hd]; obtain ⟨V, J', hV, hJ, hk⟩ := hh; exact ⟨V, J', hV, hJ, fun u hu => ⟨v, hv, by rw [← cm]; exact hk u hu⟩⟩
          · rename_i hd
            rw [if_neg hd]
            split at hh
            · rename_i he; rw [if_pos he]; obtain ⟨V, C', J', hV, hN, hJ, hk⟩ := hh; exact ⟨V, C', J', hV, hN, hJ, fun u hu => ⟨v, hv, by rw [← cm]; exact hk u hu⟩⟩
            · rename_i he; rw [if_neg he]; obtain ⟨u, hu, hk⟩ := hh; exact ⟨u, hu, v, hv, by rw [← cm]; exact hk⟩
      · simp only [hi3, if_false] at *
        by_cases hj3 : ch j = 3
        · simp only [hj3, if_true] at *
          split at h
          · rename_i hc
            simp only [hc, if_true]
            obtain ⟨V, J', ⟨v0, hv0⟩, hJ, hh⟩ := h
            obtain ⟨u, hu, _⟩ := hh v0 hv0
            refine ⟨u, hu, V, J', ⟨v0, hv0⟩, hJ, fun v hv => ?_⟩
            obtain ⟨u', hu', hk⟩ := hh v hv
            have : u' = u := detUpon_eq (hu' w0) (hu w0)
            subst this
            rw [← cm]; exact hk
          · rename_i hc
            simp only [hc, if_false]
            split at h
            · rename_i hd
              simp only [hd, if_true]
              obtain ⟨V, C', J', ⟨v0, hv0⟩, hN, hJ, hh⟩ := h
              obtain ⟨u, hu, _⟩ := hh v0 hv0
              refine ⟨u, hu, V, C', J', ⟨v0, hv0⟩, hN, hJ, fun v hv => ?_⟩
              obtain ⟨u', hu', hk⟩ := hh v hv
              have : u' = u := detUpon_eq (hu' w0) (hu w0)
              subst this
              rw [← cm]; exact hk
            · rename_i hd
              simp only [hd, if_false]
              obtain ⟨v, hv, u, hu, hk⟩ := h
              exact ⟨u, hu, v, hv, by rw [← cm]; exact hk⟩
        · simp only [hj3, if_false] at *
          obtain ⟨hi2, hj2, hx⟩ := (hx.resolve_left hi3).resolve_left hj3
          simp only [hi2, hj2, if_false] at *
          by_cases hci : ch i = 1
          · by_cases hcj : ch j = 1
            · rcases hx with hx | hx
              · exact absurd hci hx
              · exact absurd hcj hx
            · simp only [hci, hcj, if_true, if_false] at *
              obtain ⟨V, J', ⟨v0, hv0⟩, hJ, hh⟩ := h
              obtain ⟨u, hu, _⟩ := hh v0 hv0
              refine ⟨u, hu, V, J', ⟨v0, hv0⟩, hJ, fun v hv => ?_⟩
              obtain ⟨u', hu', hk⟩ := hh v hv
              have : u' = u := detUpon_eq (hu' w0 hw0) (hu w0 hw0)
              subst this
              rw [← cm]; exact hk
          · by_cases hcj : ch j = 1
            · simp only [hci, hcj, if_true, if_false] at *
              obtain ⟨v, hv, V, J', hV, hJ, hh⟩ := h
              exact ⟨V, J', hV, hJ, fun u hu => ⟨v, hv, by rw [← cm]; exact hh u hu⟩⟩
            · simp only [hci, hcj, if_false] at *
              obtain ⟨v, hv, u, hu, hh⟩ := h
              exact ⟨u, hu, v, hv, by rw [← cm]; exact hh⟩
    · simp only [hwi, hwj, if_true, Bool.false_eq_true, if_false] at *
      split at h
      · rename_i hc; rw [if_pos hc]; obtain ⟨v, hv, hh⟩ := h; exact ⟨v, hv, by rw [← cm]; exact hh⟩
      · rename_i hc
        rw [if_neg hc]
        split at h
        · rename_i hd; rw [if_pos hd]; obtain ⟨V, J', hV, hJ, hh⟩ := h; exact ⟨V, J', hV, hJ, fun v hv => by rw [← cm]; exact hh v hv⟩
        · rename_i hd
          rw [if_neg hd]
          split at h
          · rename_i he; rw [if_pos he]; obtain ⟨V, C', J', hV, hN, hJ, hh⟩ := h; exact ⟨V, C', J', hV, hN, hJ, fun v hv => by rw [← cm]; exact hh v hv⟩
          · rename_i he; rw [if_neg he]; obtain ⟨v, hv, hh⟩ := h; exact ⟨v, hv, by rw [← cm]; exact hh⟩
  · by_cases hwj : Region.wanted oj (yielded ops a.tmps) = true
    · simp only [hwi, hwj, if_true, Bool.false_eq_true, if_false] at *
      split at h
      · rename_i hc; rw [if_pos hc]; obtain ⟨v, hv, hh⟩ := h; exact ⟨v, hv, by rw [← cm]; exact hh⟩
      · rename_i hc
        rw [if_neg hc]
        split at h
        · rename_i hd; rw [if_pos hd]; obtain ⟨V, J', hV, hJ, hh⟩ := h; exact ⟨V, J', hV, hJ, fun v hv => by rw [← cm]; exact hh v hv⟩
        · rename_i hd
          rw [if_neg hd]
          split at h
          · rename_i he; rw [if_pos he]; obtain ⟨V, C', J', hV, hN, hJ, hh⟩ := h; exact ⟨V, C', J', hV, hN, hJ, fun v hv => by rw [← cm]; exact hh v hv⟩
          · rename_i he; rw [if_neg he]; obtain ⟨v, hv, hh⟩ := h; exact ⟨v, hv, by rw [← cm]; exact hh⟩
    · simp only [hwi, hwj, Bool.false_eq_true, if_false] at *
      rw [← cm]; exact h

theorem cOp_some {i : Nat} {o : Oper} {K : Act → (World → Prop) → (World → Prop) → Prop} {a : Act} {C J : World → Prop} (h : cOp Fi P ops ch i o K a C J) : ∃ a' C' J', K a' C' J' := by
  unfold cOp at h
  split at h
  · split at h
    · obtain ⟨v, _, hk⟩ := h; exact ⟨_, _, _, hk⟩
    split at h
    · obtain ⟨V, J', ⟨v, hv⟩, _, hk⟩ := h; exact ⟨_, _, _, hk v hv⟩
    · split at h
      · obtain ⟨V, C', J', ⟨v, hv⟩, _, _, hk⟩ := h; exact ⟨_, _, _, hk v hv⟩
      · obtain ⟨v, _, hk⟩ := h; exact ⟨_, _, _, hk⟩
  · exact ⟨_, _, _, h⟩

/-- the operations of the chain come one behind the other; one that parts the region has every other one ahead of it or behind it -/
def rowB (md : Region.Mode) (ops : Array Oper) (n : Nat) (ch : Nat → Nat) : Bool :=
  (List.range n).all fun j => (List.range j).all fun i => (ch i == 3 || ch j == 3 || !((ch i == 2 || ch j == 2) || ch i == 1 && ch j == 1)) || reachB md ops n j i

theorem rowB_spec {n i j : Nat} (h : rowB md ops n ch = true) (hj : j < n) (hij : i < j) (hc : ¬(ch i = 3 ∨ ch j = 3 ∨ ch i ≠ 2 ∧ ch j ≠ 2 ∧ (ch i ≠ 1 ∨ ch j ≠ 1))) : reachB md ops n j i = true := by
  simp only [rowB, List.all_eq_true, List.mem_range, Bool.or_eq_true, Bool.not_eq_true'] at h
  refine (h j hj i hij).resolve_left fun h1 => hc ?_
  simp only [Bool.or_eq_false_iff, Bool.and_eq_false_iff, beq_eq_false_iff_ne, beq_iff_eq] at h1
  rcases h1 with (h1 | h1) | h1
  · exact .inl h1
  · exact .inr (.inl h1)
  · exact .inr (.inr ⟨h1.1.1, h1.1.2, h1.2⟩)

theorem row_apart {n i j : Nat} {listed : Array Bool} (h : rowB md ops n ch = true) (inv : HeadInv md ops n listed) (hin : i < n) (hjn : j < n) (hi : i ∈ Region.ready md ops listed) (hj : j ∈ Region.ready md ops listed) (hji : j ≠ i) : ch i = 3 ∨ ch j = 3 ∨ ch i ≠ 2 ∧ ch j ≠ 2 ∧ (ch i ≠ 1 ∨ ch j ≠ 1) := by
  refine Classical.byContradiction fun hc => ?_
  have hui := getD_both (mem_ready.1 hi).1
  have huj := getD_both (mem_ready.1 hj).1
  rcases Nat.lt_or_gt_of_ne hji with hlt | hlt
  · have := reachB_ready inv _ _ _ (rowB_spec h hin hlt (fun hx => hc (hx.elim (fun h => .inr (.inl h)) fun hx => hx.elim .inl fun hx => .inr (.inr ⟨hx.2.1, hx.1, hx.2.2.symm⟩)))) hi
    rw [huj] at this; cases this
  · have := reachB_ready inv _ _ _ (rowB_spec h hjn hlt hc) hj
    rw [hui] at this; cases this

theorem wpAnyC_first {n i : Nat} {oi : Oper} {L : Array Bool → Act → (World → Prop) → (World → Prop) → Prop} (hi : ops[i]? = some oi) (hsel : Region.noSelect ops = true) (hin : i < n) (hrow : rowB md ops n ch = true)
    (hhead : ∀ listed, HeadInv md ops n listed → listed.getD i true = false → ∀ j ∈ Region.ready md ops listed, j < n)
    (hdone : ∀ listed a C J, L listed a C J → ∀ j ∈ Region.ready md ops listed, n ≤ j) :
    ∀ (f : Nat) (listed : Array Bool) (a : Act) (C J : World → Prop), (∃ w, C w) → HeadInv md ops n listed →
      (∀ j oj, ops[j]? = some oj → j ≠ i → listed.getD j true = false → (∀ e ∈ oj.after, Region.binds md e = true → e.on ≠ i) → oi.apart ops oj = true) →
      i ∈ Region.ready md ops listed → cOp Fi P ops ch i oi (wpAnyC Fi P md ops ch n L f (listed.setIfInBounds i true)) a C J →
      wpAnyC Fi P md ops ch n L (f + 1) listed a C J := by
  intro f
  induction f with
  | zero =>
    intro listed a C J _ inv _ hr H
    have hun := (mem_ready.1 hr).1
    refine ⟨fun h => (by rw [h] at hr; cases hr), fun j hj => ?_⟩
    have hjn := hhead listed inv hun j hj
    refine ⟨hjn, fun o ho => ?_⟩
    by_cases hji : j = i
    · subst hji
      rw [hi] at ho
      injection ho with ho
      subst ho
      exact H
    · obtain ⟨a', C', J', hl⟩ := cOp_some H
      have := hdone _ _ _ _ hl j (ready_mono hj hji)
      omega
  | succ f ih =>
    intro listed a C J hne inv hfree hr H
    have hun := (mem_ready.1 hr).1
    refine ⟨fun h => (by rw [h] at hr; cases hr), fun j hj => ?_⟩
    have hjn := hhead listed inv hun j hj
    refine ⟨hjn, fun oj hoj => ?_⟩
    by_cases hji : j = i
    · subst hji
      rw [hi] at hoj
      injection hoj with hoj
      subst hoj
      exact H
    · obtain ⟨hjun, oj', hoj', hall⟩ := mem_ready.1 hj
      have : oj' = oj := Option.some.inj (hoj'.symm.trans hoj)
      subst this
      have hnot : ∀ e ∈ oj'.after, Region.binds md e = true → e.on ≠ i := fun e he hb heq => by
        have h1 := hall e he hb
        rw [heq, getD_both hun] at h1
        cases h1
      have hap := hfree j oj' hoj hji hjun hnot
      have hfree' : ∀ k ok, ops[k]? = some ok → k ≠ i → (listed.setIfInBounds j true).getD k true = false →
          (∀ e ∈ ok.after, Region.binds md e = true → e.on ≠ i) → oi.apart ops ok = true := fun k ok hk hki hun hno => by
        refine hfree k ok hk hki ?_ hno
        by_cases hjk : j = k
        · subst hjk; exact hjun
        · rw [getD_set_ne true hjk] at hun; exact hun
      have H1 : cOp Fi P ops ch i oi (fun a C J => cOp Fi P ops ch j oj' (wpAnyC Fi P md ops ch n L f ((listed.setIfInBounds i true).setIfInBounds j true)) a C J) a C J :=
        cOp_mono hne (fun a' C' J' _ h => (h.2 j (ready_mono hj hji)).2 oj' hoj) H
      have H2 := cOp_swap (row_apart hrow inv hin hjn hr hj hji) hap (Region.noSelect_spec hsel i oi · · hi) (Region.noSelect_spec hsel j oj' · · hoj) hne H1
      refine cOp_mono hne (fun a' C' J' hne' h => ih (listed.setIfInBounds j true) a' C' J' hne' (inv.set hj hjn) hfree' (ready_mono hr (Ne.symm hji)) ?_) H2
      rw [Array.setIfInBounds_comm _ _ hji]
      exact h

/-- THE WALK IN THE TEXT's ORDER -/
def wpTextC (Fi : Fence) (P : Program) (ops : Array Oper) (ch : Nat → Nat) (Lq : Act → (World → Prop) → (World → Prop) → Prop) : List Oper → Nat → Act → (World → Prop) → (World → Prop) → Prop
  | [], _, a, C, J => Lq a C J
  | o :: rest, k, a, C, J => cOp Fi P ops ch k o (fun a C J => wpTextC Fi P ops ch Lq rest (k + 1) a C J) a C J

theorem wpAnyC_lex {n : Nat} {Lq : Act → (World → Prop) → (World → Prop) → Prop} {fin : Array Bool} (hsel : Region.noSelect ops = true) (hrow : rowB md ops n ch = true)
    (hhead : ∀ i, i < n → ∀ listed, HeadInv md ops n listed → listed.getD i true = false → ∀ j ∈ Region.ready md ops listed, j < n)
    (hdone : ∀ j ∈ Region.ready md ops fin, n ≤ j) :
    ∀ (l : List Oper) (k : Nat) (listed : Array Bool) (a : Act) (C J : World → Prop), (∃ w, C w) → (∀ j, j < l.length → l[j]? = ops[k + j]?) → k + l.length = n → HeadInv md ops n listed →
    lexB md ops l.length k listed = true → setFrom l.length k listed = fin → wpTextC Fi P ops ch Lq l k a C J →
    wpAnyC Fi P md ops ch n (fun listed' a' C' J' => listed' = fin ∧ Lq a' C' J') l.length listed a C J
  | [], k, listed, a, C, J, _, _, _, _, _, hf, h => ⟨hf, h⟩
  | o :: l, k, listed, a, C, J, hne, hl, hk, inv, hB, hf, h => by
    have h0 : ops[k]? = some o := by simpa using (hl 0 (by simp)).symm
    simp only [List.length_cons, lexB, Bool.and_eq_true] at hB
    obtain ⟨⟨hr, hfr⟩, hB'⟩ := hB
    have hkn : k < n := by simp only [List.length_cons] at hk; omega
    have hr' : k ∈ Region.ready md ops listed := by simpa using hr
    refine wpAnyC_first h0 hsel hkn hrow (hhead k hkn) (fun listed' a' C' J' hL => by rw [hL.1]; exact hdone) l.length listed a C J hne inv (Region.free_spec h0 hfr) hr' ?_
    refine cOp_mono hne (fun a' C' J' hne' hh => wpAnyC_lex hsel hrow hhead hdone l (k + 1) _ a' C' J' hne' (fun j hj => by have := hl (j + 1) (by simp; omega); simpa [Nat.add_assoc, Nat.add_comm 1 j] using this) (by simp only [List.length_cons] at hk; omega) (inv.set hr' hkn) hB' hf hh) h

def chainAllB (md : Region.Mode) (ops : Array Oper) (ch : Nat → Nat) : Bool :=
  freeAllB md ops && noDefer ops && rowB md ops ops.size ch

/-- ALL OPERATIONS -/
theorem wpIn_region_chain {id : Nat} {Q : Exit → Act → World → Prop} {a : Act} {w : World} {l : List Oper} (C J : World → Prop) (ch : Nat → Nat) (hop : Open Fi) (hm : P.follows .mixedOrders = true) (hB : chainAllB .any l.toArray ch = true)
    (hC : C w.drew) (hJ : J w.drew) (h : wpTextC Fi P l.toArray ch (fun a' C J => ∀ w', C w' → J w' → Q .normal a' w') l 0 a C J) : (Code.region id l.toArray true).wpIn Fi m P Q a w := by
  simp only [chainAllB, freeAllB, Bool.and_eq_true] at hB
  obtain ⟨⟨⟨⟨hsel, hlex⟩, hrd⟩, hdf⟩, hrow⟩ := hB
  have hrd' : Region.ready .any l.toArray (setFrom l.length 0 (Array.replicate l.toArray.size false)) = [] := by simpa using hrd
  have H := wpAnyC_lex (md := .any) (n := l.length) (fin := setFrom l.length 0 (Array.replicate l.toArray.size false)) (Lq := fun a' C J => ∀ w', C w' → J w' → Q .normal a' w') hsel (by simpa using hrow)
    (fun i _ listed _ _ j hj => by obtain ⟨_, o, ho, _⟩ := mem_ready.1 hj; have := (Array.getElem?_eq_some_iff.1 ho).1; simpa using this) (fun j hj => by rw [hrd'] at hj; cases hj) l 0 _ a _ _ ⟨_, hC⟩ (fun j _ => by simp) (by simp) (headInv0 _) (by simpa using hlex) rfl h
  refine wpIn_region_any hm ?_
  have := wpAnyIn_of_C (Q := Q) (g := 0) (m := m) hop (noDefer_spec hdf · · ·) (fun listed a' C J w' hL hc hf => ⟨by rw [hL.1]; exact hrd', hL.2 w' hc hf⟩) _ _ _ _ _ w.drew hC hJ H
  simpa using this

/-- ALL OPERATIONS, without a fence -/
theorem wp_region_chain {id : Nat} {Q : Exit → Act → World → Prop} {a : Act} {w : World} {l : List Oper} (C J : World → Prop) (ch : Nat → Nat) (hm : P.follows .mixedOrders = true) (hB : chainAllB .any l.toArray ch = true)
    (hC : C w.drew) (hJ : J w.drew) (h : wpTextC Fence.wide P l.toArray ch (fun a' C J => ∀ w', C w' → J w' → Q .normal a' w') l 0 a C J) : (Code.region id l.toArray true).wp P Q a w :=
  (wpIn_wide (n := 0)).1 (wpIn_region_chain C J ch Open.wide hm hB hC hJ h)

def chainTailB (md : Region.Mode) (ops : Array Oper) (n : Nat) (ch : Nat → Nat) : Bool :=
  freeTailB md ops n && noDefer ops && rowB md ops n ch

/-- THE FIRST n OPERATIONS, then the others one by one -/
theorem wpIn_region_chainTail {id : Nat} {Q : Exit → Act → World → Prop} {a : Act} {w : World} {l : List Oper} (n : Nat) (C J : World → Prop) (ch : Nat → Nat) (hop : Open Fi) (hm : P.follows .mixedOrders = true) (hB : chainTailB .any l.toArray n ch = true)
    (hC : C w.drew) (hJ : J w.drew) (h : wpTextC Fi P l.toArray ch (fun a' C J => ∀ w', C w' → J w' → wpListIn Fi m P l.toArray Q (l.drop n) a' w') (l.take n) 0 a C J) : (Code.region id l.toArray true).wpIn Fi m P Q a w := by
  simp only [chainTailB, freeTailB, Bool.and_eq_true, decide_eq_true_eq] at hB
  obtain ⟨⟨⟨⟨⟨⟨⟨hsel, hn⟩, hs⟩, hc⟩, hlex⟩, hsq⟩, hdf⟩, hrow⟩ := hB
  have hn' : n < l.length := by simpa using hn
  have htl : (l.take n).length = n := by simp; omega
  have hdl : (l.drop n).length = l.toArray.size - n := by simp
  have H := wpAnyC_lex (md := .any) (n := n) (fin := setFrom n 0 (Array.replicate l.toArray.size false)) (Lq := fun a' C J => ∀ w', C w' → J w' → wpListIn Fi m P l.toArray Q (l.drop n) a' w') hsel hrow
    (fun i hi listed inv hun j hj => by
      rcases Nat.lt_or_ge j n with h | h
      · exact h
      · exact absurd hj (tail_waits hs hc hn inv _ i rfl hi hun j h)) (seqB_ready hsq) (l.take n) 0 _ a _ _ ⟨_, hC⟩ (fun j hj => by
    have hj' : j < n := by rw [htl] at hj; exact hj
    simp [hj']) (by simpa using htl) (headInv0 _) (by rw [htl]; exact hlex) (by rw [htl]) h
  refine wpIn_region_any hm ?_
  have := wpAnyIn_of_C (Q := Q) (g := l.toArray.size - n) (m := m) hop (noDefer_spec hdf · · ·) (fun listed a' C J w' hL hcw hf => by
    have := wpAnyIn_of_seq (md := .any) (Q' := Q) (l.drop n) n listed a' w' (fun j => by simp [List.getElem?_drop]) (by rw [hL.1, hdl]; exact hsq) (hL.2 w' hcw hf)
    rwa [hdl] at this) _ _ _ _ _ w.drew hC hJ H
  rw [htl, show n + (l.toArray.size - n) = l.toArray.size by omega] at this
  exact this

section
variable {W : World} {Lq : Act → (World → Prop) → (World → Prop) → Prop} {o : Oper} {rest : List Oper} {k : Nat} {a : Act} {C J : World → Prop}
theorem ctext_nil (h : Lq a C J) : wpTextC Fi P ops ch Lq [] k a C J := h
theorem ctext_skip {j : Nat} {want b : Bool} {oj : Oper} {t : Tmp} (hg : o.guard = some (j, want)) (hj : ops[j]? = some oj) (hd : oj.dst = some t) (hv : a.tmps[t]? = some (.bool b)) (hne : (b == want) = false)
    (h : ∀ K : Act → Prop, (∀ a, wpTextC Fi P ops ch Lq rest (k + 1) a C J → K a) → K (a.put o.dst undef)) : wpTextC Fi P ops ch Lq (o :: rest) k a C J := by
  have hw : Region.wanted o (yielded ops a.tmps) = false := by
    simp only [Region.wanted, hg, yielded, hj, Option.bind_some, hd, hv]
    simpa using hne
  unfold wpTextC cOp
  rw [if_neg (by simp [hw])]
  exact h _ fun _ h => h
/-- its guard was passed over itself -/
theorem ctext_skip' (hw : Region.wanted o (yielded ops a.tmps) = false)
    (h : ∀ K : Act → Prop, (∀ a, wpTextC Fi P ops ch Lq rest (k + 1) a C J → K a) → K (a.put o.dst undef)) : wpTextC Fi P ops ch Lq (o :: rest) k a C J := by
  unfold wpTextC cOp
  rw [if_neg (by simp [hw])]
  exact h _ fun _ h => h
theorem ctext_det (hu : ch k = 0) (hw : Region.wanted o (yielded ops a.tmps) = true)
    (h : ∃ v, (∀ w, C w → detUpon w v ((execOp a.eval o).run P w)) ∧ ∀ K : Act → Prop, (∀ a, wpTextC Fi P ops ch Lq rest (k + 1) a C J → K a) → K (a.put o.dst v)) : wpTextC Fi P ops ch Lq (o :: rest) k a C J := by
  obtain ⟨v, hv, h⟩ := h
  unfold wpTextC cOp
  rw [if_pos hw, if_neg (by simp [hu]), if_neg (by simp [hu]), if_neg (by simp [hu])]
  exact ⟨v, hv, h _ fun _ h => h⟩
theorem ctext_pure (hu : ch k = 3) (hw : Region.wanted o (yielded ops a.tmps) = true)
    (h : ∃ v, (∀ w, detUpon w v ((execOp a.eval o).run P w)) ∧ ∀ K : Act → Prop, (∀ a, wpTextC Fi P ops ch Lq rest (k + 1) a C J → K a) → K (a.put o.dst v)) : wpTextC Fi P ops ch Lq (o :: rest) k a C J := by
  obtain ⟨v, hv, h⟩ := h
  unfold wpTextC cOp
  rw [if_pos hw, if_pos hu]
  exact ⟨v, hv, h _ fun _ h => h⟩
theorem ctext_chain (V : Value → Prop) (J' : Value → World → Prop) (hu : ch k = 1) (hw : Region.wanted o (yielded ops a.tmps) = true) (hV : ∃ v, V v)
    (hv : ∀ w, C w → J w → ∀ Φ : Value → World → Prop, (∀ v w', V v → C w' → J' v w' → Φ v w') → undIn Fi P Φ ((execOp a.eval o).run P w))
    (h : ∀ v, V v → ∀ K : Act → Prop, (∀ a, wpTextC Fi P ops ch Lq rest (k + 1) a C (J' v) → K a) → K (a.put o.dst v)) : wpTextC Fi P ops ch Lq (o :: rest) k a C J := by
  unfold wpTextC cOp
  rw [if_pos hw, if_neg (by simp [hu]), if_pos hu]
  exact ⟨V, J', hV, fun w hC hJ => hv w hC hJ _ fun v w' h0 h1 h2 => ⟨h0, h1, h2⟩, fun v hv => h v hv _ fun _ h => h⟩
/-- a step that parts the region -/
theorem ctext_bar (V : Value → Prop) (C' J' : Value → World → Prop) (hu : ch k = 2) (hw : Region.wanted o (yielded ops a.tmps) = true) (hV : ∃ v, V v) (hN : ∀ v, V v → ∃ w, C' v w)
    (hv : ∀ w, C w → J w → ∀ Φ : Value → World → Prop, (∀ v w', V v → C' v w' → J' v w' → Φ v w') → undIn Fi P Φ ((execOp a.eval o).run P w))
    (h : ∀ v, V v → ∀ K : Act → Prop, (∀ a, wpTextC Fi P ops ch Lq rest (k + 1) a (C' v) (J' v) → K a) → K (a.put o.dst v)) : wpTextC Fi P ops ch Lq (o :: rest) k a C J := by
  unfold wpTextC cOp
  rw [if_pos hw, if_neg (by simp [hu]), if_neg (by simp [hu]), if_pos hu]
  exact ⟨V, C', J', hV, hN, fun w hC hJ => hv w hC hJ _ fun v w' h0 h1 h2 => ⟨h0, h1, h2⟩, fun v hv => h v hv _ fun _ h => h⟩
end
end
attribute [irreducible] wpTextC
end Go.Hx.CP
