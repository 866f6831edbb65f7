/- Parts of a proof, joined: Flow, FlowS. -/
import Derived.Test.YtgcbnagfdfgpnaaDoorChain
import Derived.Test.YtgcbnagfdfgpnaaDoorLib
section
namespace Go.Hx
open Go Go.RowKit

/-- what an operation is: it yields the same in every world of C; a step of the row, told step by step; one beside the row that may come at any time -/
inductive Kind where
  | det
  | row (V : Value → Prop) (J : Value → World → Prop)
  | free (V : Value → Prop) (G : Value → World → Prop)
  /-- comes behind all others but those of kind det; what it brings need not be kept by R -/
  | last
  /-- like row, but what it brings may name what came before it in the text; no free one stands before it, but for those that it waits for -/
  | seq

section
variable {Fi : Fence} {m : Nat} {P : Program} {ops : Array Oper} {md : Region.Mode} {R : World → World → Prop} {ch : Nat → Kind}

def Keeps (R : World → World → Prop) (J : World → Prop) : Prop := ∀ w w', J w → R w w' → J w'

def fwOp (Fi : Fence) (P : Program) (ops : Array Oper) (C : World → Prop) (R : World → World → Prop) (ch : Nat → Kind) (i : Nat) (o : Oper) (K : Act → (World → Prop) → (World → Prop) → Prop) (a : Act) (J F : World → Prop) : Prop :=
  if Region.wanted o (yielded ops a.tmps) = true then
    match ch i with
    | .row V J' => (∃ v, V v) ∧ (∀ v, Keeps R (J' v)) ∧ (∀ w, C w → J w → undIn Fi P (fun v w' => V v ∧ C w' ∧ R w w' ∧ J' v w') ((execOp a.eval o).run P w)) ∧ ∀ v, V v → K (a.put o.dst v) (J' v) F
    | .free V G => (∃ v, V v) ∧ (∀ v, Keeps R (G v)) ∧ (∀ w, C w → undIn Fi P (fun v w' => V v ∧ C w' ∧ R w w' ∧ G v w') ((execOp a.eval o).run P w)) ∧ ∀ v, V v → K (a.put o.dst v) J (fun w => F w ∧ G v w)
    | .last => ∃ (V : Value → Prop) (J' : Value → World → Prop), (∃ v, V v) ∧ (∀ w, C w → J w → F w → undIn Fi P (fun v w' => V v ∧ C w' ∧ J' v w') ((execOp a.eval o).run P w)) ∧ ∀ v, V v → K (a.put o.dst v) (J' v) (fun _ => True)
    | .seq => ∃ (V : Value → Prop) (J' : Value → World → Prop), (∃ v, V v) ∧ (∀ v, Keeps R (J' v)) ∧ (∀ w, C w → J w → undIn Fi P (fun v w' => V v ∧ C w' ∧ R w w' ∧ J' v w') ((execOp a.eval o).run P w)) ∧ ∀ v, V v → K (a.put o.dst v) (J' v) F
    | .det => ∃ v, (∀ w, C w → detUpon w v ((execOp a.eval o).run P w)) ∧ K (a.put o.dst v) J F
  else K (a.put o.dst undef) J F

theorem fwOp_mono {i : Nat} {o : Oper} {C : World → Prop} {K K' : Act → (World → Prop) → (World → Prop) → Prop} {a : Act} {J F : World → Prop} (h : ∀ a J F, K a J F → K' a J F) (hh : fwOp Fi P ops C R ch i o K a J F) : fwOp Fi P ops C R ch i o K' a J F := by
  unfold fwOp at *
  split
  · rename_i hw
    rw [if_pos hw] at hh
    split
    · rename_i V J' hc; rw [hc] at hh; exact ⟨hh.1, hh.2.1, hh.2.2.1, fun v hv => h _ _ _ (hh.2.2.2 v hv)⟩
    · rename_i V G hc; rw [hc] at hh; exact ⟨hh.1, hh.2.1, hh.2.2.1, fun v hv => h _ _ _ (hh.2.2.2 v hv)⟩
    · rename_i hc; rw [hc] at hh; obtain ⟨V, J', h1, h2, h3⟩ := hh; exact ⟨V, J', h1, h2, fun v hv => h _ _ _ (h3 v hv)⟩
    · rename_i hc; rw [hc] at hh; obtain ⟨V, J', h1, h2, h3, h4⟩ := hh; exact ⟨V, J', h1, h2, h3, fun v hv => h _ _ _ (h4 v hv)⟩
    · rename_i hc; rw [hc] at hh; obtain ⟨v, h1, h2⟩ := hh; exact ⟨v, h1, h _ _ _ h2⟩
  · rename_i hw
    rw [if_neg hw] at hh
    exact h _ _ _ hh

def wpAnyW (Fi : Fence) (P : Program) (md : Region.Mode) (ops : Array Oper) (C : World → Prop) (R : World → World → Prop) (ch : Nat → Kind) (n : Nat) (L : Array Bool → Act → (World → Prop) → (World → Prop) → Prop) : Nat → Array Bool → Act → (World → Prop) → (World → Prop) → Prop
  | 0, listed, a, J, F => L listed a J F
  | f + 1, listed, a, J, F => Region.ready md ops listed ≠ [] ∧ ∀ i ∈ Region.ready md ops listed, i < n ∧ ∀ o, ops[i]? = some o → fwOp Fi P ops C R ch i o (wpAnyW Fi P md ops C R ch n L f (listed.setIfInBounds i true)) a J F

def Kind.isRow : Kind → Bool
  | .row _ _ => true
  | .seq => true
  | _ => false
def Kind.isDet : Kind → Bool
  | .det => true
  | _ => false
def Kind.isFree : Kind → Bool
  | .free _ _ => true
  | _ => false
def Kind.isSeq : Kind → Bool
  | .seq => true
  | _ => false
/-- no free one stands before one of the kind seq, but for those that it waits for -/
def seqKB (md : Region.Mode) (ops : Array Oper) (n : Nat) (ch : Nat → Kind) : Bool :=
  (List.range n).all fun j => !(ch j).isSeq || (List.range j).all fun i => !(ch i).isFree || reachB md ops n j i
def Kind.isLast : Kind → Bool
  | .last => true
  | _ => false
/-- what comes last comes behind all others but those of kind det -/
def lastB (md : Region.Mode) (ops : Array Oper) (n : Nat) (ch : Nat → Kind) : Bool :=
  (List.range n).all fun i => !(ch i).isLast || (List.range n).all fun j => decide (j = i) || (ch j).isDet || reachB md ops n i j
theorem seq_free {n i j : Nat} {listed : Array Bool} (h : seqKB md ops n ch = true) (inv : HeadInv md ops n listed) (hjn : j < n) (hlt : i < j) (hj : j ∈ Region.ready md ops listed) (hi : listed.getD i true = false) (hs : (ch j).isSeq = true) : (ch i).isFree = false := by
  simp only [seqKB, List.all_eq_true, List.mem_range, Bool.or_eq_true, Bool.not_eq_true'] at h
  rcases (h j hjn).resolve_left (by simp [hs]) i hlt with h1 | h1
  · exact h1
  · have := reachB_ready inv _ _ _ h1 hj
    rw [getD_both hi] at this; cases this
theorem last_det {n i j : Nat} {listed : Array Bool} (h : lastB md ops n ch = true) (inv : HeadInv md ops n listed) (hin : i < n) (hjn : j < n) (hi : i ∈ Region.ready md ops listed) (hj : listed.getD j true = false) (hji : j ≠ i) (hl : (ch i).isLast = true) : (ch j).isDet = true := by
  simp only [lastB, List.all_eq_true, List.mem_range, Bool.or_eq_true, Bool.not_eq_true', decide_eq_true_eq] at h
  rcases (h i hin).resolve_left (by simp [hl]) j hjn with (h1 | h1) | h1
  · exact absurd h1 hji
  · exact h1
  · have := reachB_ready inv _ _ _ h1 hi
    rw [getD_both hj] at this; cases this

theorem wpAnyIn_of_W {n g : Nat} {C : World → Prop} (hla : lastB md ops n ch = true) {L : Array Bool → Act → (World → Prop) → (World → Prop) → Prop} {Q : Exit → Act → World → Prop} (hop : Open Fi) (hdf : ∀ (j : Nat) (o : Oper) c, ops[j]? = some o → o.op ≠ .defer c)
    (hL : ∀ listed a J F w, L listed a J F → C w → J w → F w → wpAnyIn Fi m P md ops Q g listed a w) :
    ∀ (f : Nat) (listed : Array Bool) (a : Act) (J F : World → Prop) (w : World), C w → J w → F w → HeadInv md ops n listed → (Keeps R J ∧ Keeps R F) ∨ (∀ j, j < n → listed.getD j true = false → (ch j).isDet = true) → wpAnyW Fi P md ops C R ch n L f listed a J F → wpAnyIn Fi m P md ops Q (f + g) listed a w
  | 0, listed, a, J, F, w, hC, hJ, hF, _, _, h => by rw [Nat.zero_add]; exact hL _ _ _ _ _ h hC hJ hF
  | f + 1, listed, a, J, F, w, hC, hJ, hF, inv, kk, h => by
    rw [show f + 1 + g = (f + g) + 1 by omega]
    refine ⟨fun h0 => absurd h0 h.1, fun i hi => ?_⟩
    obtain ⟨hun, o, ho, _⟩ := mem_ready.1 hi
    have h1 := (h.2 i hi).2 o ho
    have hin := (h.2 i hi).1
    have inv' := inv.set hi hin
    have later : ∀ j, j < n → (listed.setIfInBounds i true).getD j true = false → j ≠ i ∧ listed.getD j true = false := fun j _ hj => by
      by_cases hij : i = j
      · subst hij
        exfalso; clear inv'; simp only [Array.getD_eq_getD_getElem?, Array.getElem?_setIfInBounds] at hj hun; simp only [if_true] at hj; split at hj <;> simp_all
      · exact ⟨Ne.symm hij, by rwa [getD_set_ne true hij] at hj⟩
    have kk' : (∀ j, j < n → listed.getD j true = false → (ch j).isDet = true) → (∀ j, j < n → (listed.setIfInBounds i true).getD j true = false → (ch j).isDet = true) := fun h j hj hl => h j hj (later j hj hl).2
    have hab : ∀ f, o.about P w a.eval = some f → Fi.fn f := fun f _ => hop.fn f
    have hdep : Fi.depth.isSome = true → 1 ≤ m := fun hd => by rw [hop.depth] at hd; cases hd
    have hsem : o.semAt Fi.round a.eval = execOp a.eval o := Oper.semAt_eq _ _ _ (fun c => hdf i o c ho)
    unfold wpOpIn
    rw [ho]
    unfold fwOp at h1
    simp only
    split
    · rename_i hw
      rw [if_pos hw] at h1
      unfold Oper.wpIn
      refine ⟨hab, ?_⟩
      rw [hsem]
      have key : ∀ (V : Value → Prop) (J' F' : Value → World → Prop), (∀ v, (Keeps R (J' v) ∧ Keeps R (F' v)) ∨ (∀ j, j < n → (listed.setIfInBounds i true).getD j true = false → (ch j).isDet = true)) → undIn Fi P (fun v w' => V v ∧ C w' ∧ J' v w' ∧ F' v w') ((execOp a.eval o).run P w) → (∀ v, V v → wpAnyW Fi P md ops C R ch n L f (listed.setIfInBounds i true) (a.put o.dst v) (J' v) (F' v)) →
          o.uponIn Fi m P a (wpAnyIn Fi m P md ops Q (f + g) (listed.setIfInBounds i true)) Q ((execOp a.eval o).run P w) := fun V J' F' kJ' h4 h3 => by
        generalize (execOp a.eval o).run P w = r at *
        cases r with
        | ok x w' =>
          cases x <;> simp only [undIn] at h4 <;> simp only [Oper.uponIn]
          · exact wpAnyIn_of_W hla hop hdf hL f _ _ _ _ _ h4.2.1 h4.2.2.1 h4.2.2.2 inv' (kJ' _) (h3 _ h4.1)
          · exact wpAnyIn_of_W hla hop hdf hL f _ _ _ _ _ h4.2.1 h4.2.2.1 h4.2.2.2 inv' (kJ' _) (h3 _ h4.1)
          · refine ⟨hdep, CallsIn.mono (hop.calls h4) fun e w'' ⟨u, he, hv, hc, hj, hf⟩ => ?_⟩
            subst he
            exact wpAnyIn_of_W hla hop hdf hL f _ _ _ _ _ hc hj hf inv' (kJ' _) (h3 _ hv)
          · obtain ⟨m', h4⟩ := h4
            refine ⟨hdep, RoundIn.mono (hop.round h4) fun e w'' ⟨u, he, hv, hc, hj, hf⟩ => ?_⟩
            subst he
            exact wpAnyIn_of_W hla hop hdf hL f _ _ _ _ _ hc hj hf inv' (kJ' _) (h3 _ hv)
        | halt x w' => exact h4.elim
      split at h1
      · rename_i V J' hc
        obtain ⟨kJ, kF⟩ := kk.resolve_right (fun hd => by have := hd i hin hun; rw [hc] at this; cases this)
        obtain ⟨_, kJ', h2, h3⟩ := h1
        exact key V J' (fun _ => F) (fun v => .inl ⟨kJ' v, kF⟩) (undIn_mono (fun v w' ⟨h1, h2, h3, h4⟩ => ⟨h1, h2, h4, kF _ _ hF h3⟩) (h2 w hC hJ)) h3
      · rename_i V G hc
        obtain ⟨kJ, kF⟩ := kk.resolve_right (fun hd => by have := hd i hin hun; rw [hc] at this; cases this)
        obtain ⟨_, kG, h2, h3⟩ := h1
        exact key V (fun _ => J) (fun v w => F w ∧ G v w) (fun v => .inl ⟨kJ, fun w1 w2 hh hr => ⟨kF _ _ hh.1 hr, kG v _ _ hh.2 hr⟩⟩) (undIn_mono (fun v w' ⟨h1, h2, h3, h4⟩ => ⟨h1, h2, kJ _ _ hJ h3, kF _ _ hF h3, h4⟩) (h2 w hC)) h3
      · rename_i hc
        obtain ⟨V, J', _, h2, h3⟩ := h1
        refine key V J' (fun _ _ => True) (fun v => .inr fun j hj hl => last_det hla inv hin hj hi (later j hj hl).2 (later j hj hl).1 (by rw [hc]; rfl)) (undIn_mono (fun v w' ⟨h1, h2, h3⟩ => ⟨h1, h2, h3, trivial⟩) (h2 w hC hJ hF)) h3
      · rename_i hc
        obtain ⟨kJ, kF⟩ := kk.resolve_right (fun hd => by have := hd i hin hun; rw [hc] at this; cases this)
        obtain ⟨V, J', _, kJ', h2, h3⟩ := h1
        exact key V J' (fun _ => F) (fun v => .inl ⟨kJ' v, kF⟩) (undIn_mono (fun v w' ⟨h1, h2, h3, h4⟩ => ⟨h1, h2, h4, kF _ _ hF h3⟩) (h2 w hC hJ)) h3
      · obtain ⟨v, h2, h3⟩ := h1
        have kk2 := kk.imp id kk'
        have h4 := h2 w hC
        generalize (execOp a.eval o).run P w = r at *
        cases r with
        | ok x w' =>
          cases x <;> simp only [detUpon] at h4 <;> simp only [Oper.uponIn]
          · obtain ⟨e1, e2⟩ := h4
            rw [e1, e2]
            exact wpAnyIn_of_W hla hop hdf hL f _ _ _ _ _ hC hJ hF inv' kk2 h3
          · obtain ⟨e1, e2⟩ := h4
            rw [e1, ← e2]
            exact wpAnyIn_of_W hla hop hdf hL f _ _ _ _ _ hC hJ hF inv' kk2 h3
        | halt x w' => exact h4.elim
    · rename_i hw
      rw [if_neg hw] at h1
      exact ⟨hab, wpAnyIn_of_W hla hop hdf hL f _ _ _ _ _ hC hJ hF inv' (kk.imp id kk') h1⟩

/-- an operation that is apart from another one, not both of the row; K does not mind more being known -/
theorem fwOp_swap {i j : Nat} {oi oj : Oper} {C : World → Prop} (hx : (ch i).isRow = false ∨ (ch j).isRow = false) (hy : (ch i).isLast = true → (ch j).isDet = true) (hz : (ch j).isLast = true → (ch i).isDet = true) (hq : (ch j).isSeq = true → (ch i).isFree = false) (hap : oi.apart ops oj = true) (hsi : ∀ cs b, oi.op ≠ .select cs b) (hsj : ∀ cs b, oj.op ≠ .select cs b) (hne : ∃ w, C w)
    {K : Act → (World → Prop) → (World → Prop) → Prop} (hK : ∀ a J (F F' : World → Prop), (∀ w, F' w → F w) → K a J F → K a J F') {a : Act} {J F : World → Prop}
    (h : fwOp Fi P ops C R ch i oi (fun a J F => fwOp Fi P ops C R ch j oj K a J F) a J F) : fwOp Fi P ops C R ch j oj (fun a J F => fwOp Fi P ops C R ch i oi K a J F) a J F := by
  obtain ⟨h1, h2, h3⟩ := Oper.apart_spec hap
  have ei : ∀ (a : Act) u, execOp (a.put oj.dst u).eval oi = execOp a.eval oi := fun a u => execOp_put oi hsi a oj.dst u h3
  have wi : ∀ (a : Act) u, Region.wanted oi (yielded ops (a.put oj.dst u).tmps) = Region.wanted oi (yielded ops a.tmps) := fun a u => wanted_put oi a oj.dst u h3
  have ej : ∀ (a : Act) u, execOp (a.put oi.dst u).eval oj = execOp a.eval oj := fun a u => execOp_put oj hsj a oi.dst u h1
  have wj : ∀ (a : Act) u, Region.wanted oj (yielded ops (a.put oi.dst u).tmps) = Region.wanted oj (yielded ops a.tmps) := fun a u => wanted_put oj a oi.dst u h1
  have cm : ∀ v u, (a.put oi.dst v).put oj.dst u = (a.put oj.dst u).put oi.dst v := fun v u => Act.put_comm a v u h2
  obtain ⟨w0, hw0⟩ := hne
  unfold fwOp at *
  simp only [ei, wi, ej, wj] at *
  by_cases hwi : Region.wanted oi (yielded ops a.tmps) = true
  · by_cases hwj : Region.wanted oj (yielded ops a.tmps) = true
    · simp only [hwi, hwj, if_true] at *
      cases hci : ch i with
      | row V J' =>
        cases hcj : ch j with
        | row V2 J2 => rw [hci, hcj] at hx; rcases hx with hx | hx <;> cases hx
        | seq => rw [hci, hcj] at hx; rcases hx with hx | hx <;> cases hx
        | last => rw [hci, hcj] at hz; cases hz rfl
        | free V2 G =>
          simp only [hci, hcj] at *
          obtain ⟨⟨v0, hv0⟩, kJ, hJ, hh⟩ := h
          obtain ⟨hV, kG, hG, _⟩ := hh v0 hv0
          exact ⟨hV, kG, hG, fun u hu => ⟨⟨v0, hv0⟩, kJ, hJ, fun v hv => by rw [← cm]; exact (hh v hv).2.2.2 u hu⟩⟩
        | det =>
          simp only [hci, hcj] at *
          obtain ⟨⟨v0, hv0⟩, kJ, hJ, hh⟩ := h
          obtain ⟨u, hu, _⟩ := hh v0 hv0
          refine ⟨u, hu, ⟨v0, hv0⟩, kJ, hJ, fun v hv => ?_⟩
          obtain ⟨u', hu', hk⟩ := hh v hv
          have : u' = u := detUpon_eq (hu' w0 hw0) (hu w0 hw0)
          subst this
          rw [← cm]; exact hk
      | last =>
        cases hcj : ch j with
        | row V2 J2 => rw [hci, hcj] at hy; cases hy rfl
        | free V2 J2 => rw [hci, hcj] at hy; cases hy rfl
        | last => rw [hci, hcj] at hy; cases hy rfl
        | seq => rw [hci, hcj] at hy; cases hy rfl
        | det =>
          simp only [hci, hcj] at *
          obtain ⟨V, J', ⟨v0, hv0⟩, hJ, hh⟩ := h
          obtain ⟨u, hu, _⟩ := hh v0 hv0
          refine ⟨u, hu, V, J', ⟨v0, hv0⟩, hJ, fun v hv => ?_⟩
          obtain ⟨u', hu', hk⟩ := hh v hv
          have : u' = u := detUpon_eq (hu' w0 hw0) (hu w0 hw0)
          subst this
          rw [← cm]; exact hk
      | seq =>
        cases hcj : ch j with
        | row V2 J2 => rw [hci, hcj] at hx; rcases hx with hx | hx <;> cases hx
        | seq => rw [hci, hcj] at hx; rcases hx with hx | hx <;> cases hx
        | last => rw [hci, hcj] at hz; cases hz rfl
        | free V2 G =>
          simp only [hci, hcj] at *
          obtain ⟨V, J', ⟨v0, hv0⟩, kJ, hJ, hh⟩ := h
          obtain ⟨hV, kG, hG, _⟩ := hh v0 hv0
          exact ⟨hV, kG, hG, fun u hu => ⟨V, J', ⟨v0, hv0⟩, kJ, hJ, fun v hv => by rw [← cm]; exact (hh v hv).2.2.2 u hu⟩⟩
        | det =>
          simp only [hci, hcj] at *
          obtain ⟨V, J', ⟨v0, hv0⟩, kJ, hJ, hh⟩ := h
          obtain ⟨u, hu, _⟩ := hh v0 hv0
          refine ⟨u, hu, V, J', ⟨v0, hv0⟩, kJ, hJ, fun v hv => ?_⟩
          obtain ⟨u', hu', hk⟩ := hh v hv
          have : u' = u := detUpon_eq (hu' w0 hw0) (hu w0 hw0)
          subst this
          rw [← cm]; exact hk
      | free V G =>
        cases hcj : ch j with
        | seq => rw [hci, hcj] at hq; cases hq rfl
        | last => rw [hci, hcj] at hz; cases hz rfl
        | row V2 J2 =>
          simp only [hci, hcj] at *
          obtain ⟨⟨v0, hv0⟩, kG, hG, hh⟩ := h
          obtain ⟨hV, kJ, hJ, _⟩ := hh v0 hv0
          exact ⟨hV, kJ, hJ, fun u hu => ⟨⟨v0, hv0⟩, kG, hG, fun v hv => by rw [← cm]; exact (hh v hv).2.2.2 u hu⟩⟩
        | free V' G' =>
          simp only [hci, hcj] at *
          obtain ⟨⟨v0, hv0⟩, kG, hG, hh⟩ := h
          obtain ⟨hV', kG', hG', _⟩ := hh v0 hv0
          exact ⟨hV', kG', hG', fun u hu => ⟨⟨v0, hv0⟩, kG, hG, fun v hv => by rw [← cm]; exact hK _ _ _ _ (fun w hw => ⟨⟨hw.1.1, hw.2⟩, hw.1.2⟩) ((hh v hv).2.2.2 u hu)⟩⟩
        | det =>
          simp only [hci, hcj] at *
          obtain ⟨⟨v0, hv0⟩, kG, hG, hh⟩ := h
          obtain ⟨u, hu, _⟩ := hh v0 hv0
          refine ⟨u, hu, ⟨v0, hv0⟩, kG, hG, fun v hv => ?_⟩
          obtain ⟨u', hu', hk⟩ := hh v hv
          have : u' = u := detUpon_eq (hu' w0 hw0) (hu w0 hw0)
          subst this
          rw [← cm]; exact hk
      | det =>
        cases hcj : ch j with
        | seq =>
          simp only [hci, hcj] at *
          obtain ⟨v, hv, V, J', hV, kJ, hJ, hh⟩ := h
          exact ⟨V, J', hV, kJ, hJ, fun u hu => ⟨v, hv, by rw [← cm]; exact hh u hu⟩⟩
        | last =>
          simp only [hci, hcj] at *
          obtain ⟨v, hv, V, J', hV, hJ, hh⟩ := h
          exact ⟨V, J', hV, hJ, fun u hu => ⟨v, hv, by rw [← cm]; exact hh u hu⟩⟩
        | row V J' =>
          simp only [hci, hcj] at *
          obtain ⟨v, hv, hV, kJ, hJ, hh⟩ := h
          exact ⟨hV, kJ, hJ, fun u hu => ⟨v, hv, by rw [← cm]; exact hh u hu⟩⟩
        | free V G =>
          simp only [hci, hcj] at *
          obtain ⟨v, hv, hV, kG, hG, hh⟩ := h
          exact ⟨hV, kG, hG, fun u hu => ⟨v, hv, by rw [← cm]; exact hh u hu⟩⟩
        | det =>
          simp only [hci, hcj] at *
          obtain ⟨v, hv, u, hu, hh⟩ := h
          exact ⟨u, hu, v, hv, by rw [← cm]; exact hh⟩
    · simp only [hwi, hwj, if_true, Bool.false_eq_true, if_false] at *
      cases hc : ch i with
      | row V J' => rw [hc] at h; exact ⟨h.1, h.2.1, h.2.2.1, fun v hv => by rw [← cm]; exact h.2.2.2 v hv⟩
      | free V G => rw [hc] at h; exact ⟨h.1, h.2.1, h.2.2.1, fun v hv => by rw [← cm]; exact h.2.2.2 v hv⟩
      | seq => rw [hc] at h; obtain ⟨V, J', h1, h2, h3, h4⟩ := h; exact ⟨V, J', h1, h2, h3, fun v hv => by rw [← cm]; exact h4 v hv⟩
      | last => rw [hc] at h; obtain ⟨V, J', h1, h2, h3⟩ := h; exact ⟨V, J', h1, h2, fun v hv => by rw [← cm]; exact h3 v hv⟩
      | det => rw [hc] at h; obtain ⟨v, hv, hh⟩ := h; exact ⟨v, hv, by rw [← cm]; exact hh⟩
  · by_cases hwj : Region.wanted oj (yielded ops a.tmps) = true
    · simp only [hwi, hwj, if_true, Bool.false_eq_true, if_false] at *
      cases hc : ch j with
      | row V J' => rw [hc] at h; exact ⟨h.1, h.2.1, h.2.2.1, fun v hv => by rw [← cm]; exact h.2.2.2 v hv⟩
      | free V G => rw [hc] at h; exact ⟨h.1, h.2.1, h.2.2.1, fun v hv => by rw [← cm]; exact h.2.2.2 v hv⟩
      | seq => rw [hc] at h; obtain ⟨V, J', h1, h2, h3, h4⟩ := h; exact ⟨V, J', h1, h2, h3, fun v hv => by rw [← cm]; exact h4 v hv⟩
      | last => rw [hc] at h; obtain ⟨V, J', h1, h2, h3⟩ := h; exact ⟨V, J', h1, h2, fun v hv => by rw [← cm]; exact h3 v hv⟩
      | det => rw [hc] at h; obtain ⟨v, hv, hh⟩ := h; exact ⟨v, hv, by rw [← cm]; exact hh⟩
    · simp only [hwi, hwj, Bool.false_eq_true, if_false] at *
      rw [← cm]; exact h

theorem fwOp_some {i : Nat} {o : Oper} {C : World → Prop} {K : Act → (World → Prop) → (World → Prop) → Prop} {a : Act} {J F : World → Prop} (h : fwOp Fi P ops C R ch i o K a J F) : ∃ a' J' F', K a' J' F' := by
  unfold fwOp at h
  split at h
  · split at h
    · obtain ⟨⟨v, hv⟩, _, _, hk⟩ := h; exact ⟨_, _, _, hk v hv⟩
    · obtain ⟨⟨v, hv⟩, _, _, hk⟩ := h; exact ⟨_, _, _, hk v hv⟩
    · obtain ⟨_, _, ⟨v, hv⟩, _, hk⟩ := h; exact ⟨_, _, _, hk v hv⟩
    · obtain ⟨_, _, ⟨v, hv⟩, _, _, hk⟩ := h; exact ⟨_, _, _, hk v hv⟩
    · obtain ⟨v, _, hk⟩ := h; exact ⟨_, _, _, hk⟩
  · exact ⟨_, _, _, h⟩

theorem fwOp_anti {i : Nat} {o : Oper} {C : World → Prop} {K : Act → (World → Prop) → (World → Prop) → Prop} (hK : ∀ a J (F F' : World → Prop), (∀ w, F' w → F w) → K a J F → K a J F') {a : Act} {J F F' : World → Prop} (hF : ∀ w, F' w → F w) (h : fwOp Fi P ops C R ch i o K a J F) : fwOp Fi P ops C R ch i o K a J F' := by
  unfold fwOp at *
  split
  · rename_i hw
    rw [if_pos hw] at h
    split
    · rename_i V J' hc; rw [hc] at h; exact ⟨h.1, h.2.1, h.2.2.1, fun v hv => hK _ _ _ _ hF (h.2.2.2 v hv)⟩
    · rename_i V G hc; rw [hc] at h; exact ⟨h.1, h.2.1, h.2.2.1, fun v hv => hK _ _ _ _ (fun w hw => ⟨hF w hw.1, hw.2⟩) (h.2.2.2 v hv)⟩
    · rename_i hc; rw [hc] at h; obtain ⟨V, J', h1, h2, h3⟩ := h; exact ⟨V, J', h1, fun w g1 g2 g3 => h2 w g1 g2 (hF w g3), h3⟩
    · rename_i hc; rw [hc] at h; obtain ⟨V, J', h1, h2, h3, h4⟩ := h; exact ⟨V, J', h1, h2, h3, fun v hv => hK _ _ _ _ hF (h4 v hv)⟩
    · rename_i hc; rw [hc] at h; obtain ⟨v, h1, h2⟩ := h; exact ⟨v, h1, hK _ _ _ _ hF h2⟩
  · rename_i hw
    rw [if_neg hw] at h
    exact hK _ _ _ _ hF h

def AntiW (L : Array Bool → Act → (World → Prop) → (World → Prop) → Prop) : Prop := ∀ listed a J (F F' : World → Prop), (∀ w, F' w → F w) → L listed a J F → L listed a J F'

theorem wpAnyW_anti {n : Nat} {C : World → Prop} {L : Array Bool → Act → (World → Prop) → (World → Prop) → Prop} (hL : AntiW L) : ∀ (f : Nat) (listed : Array Bool) (a : Act) (J F F' : World → Prop), (∀ w, F' w → F w) → wpAnyW Fi P md ops C R ch n L f listed a J F → wpAnyW Fi P md ops C R ch n L f listed a J F'
  | 0, _, _, _, _, _, hF, h => hL _ _ _ _ _ hF h
  | f + 1, _, _, _, _, _, hF, h => ⟨h.1, fun i hi => ⟨(h.2 i hi).1, fun o ho => fwOp_anti (K := wpAnyW Fi P md ops C R ch n L f _) (fun a J F F' h1 h2 => wpAnyW_anti hL f _ a J F F' h1 h2) hF ((h.2 i hi).2 o ho)⟩⟩

/-- the operations of the row come one behind the other -/
def lineB (md : Region.Mode) (ops : Array Oper) (n : Nat) (rows : List Nat) : Bool :=
  rows.all fun j => rows.all fun i => !(decide (i < j)) || reachB md ops n j i

def rowsB (n : Nat) (ch : Nat → Kind) (rows : List Nat) : Bool := (List.range n).all fun i => !(ch i).isRow || rows.contains i

theorem line_apart {n i j : Nat} {rows : List Nat} {listed : Array Bool} (h : lineB md ops n rows = true) (hr : rowsB n ch rows = true) (inv : HeadInv md ops n listed) (hin : i < n) (hjn : j < n) (hi : i ∈ Region.ready md ops listed) (hj : j ∈ Region.ready md ops listed) (hji : j ≠ i) : (ch i).isRow = false ∨ (ch j).isRow = false := by
  cases hci : (ch i).isRow with
  | false => exact .inl rfl
  | true =>
    cases hcj : (ch j).isRow with
    | false => exact .inr rfl
    | true =>
      exfalso
      simp only [rowsB, List.all_eq_true, List.mem_range, Bool.or_eq_true, Bool.not_eq_true'] at hr
      have ri : i ∈ rows := by have := (hr i hin).resolve_left (by simp [hci]); simpa using this
      have rj : j ∈ rows := by have := (hr j hjn).resolve_left (by simp [hcj]); simpa using this
      simp only [lineB, List.all_eq_true, Bool.or_eq_true, Bool.not_eq_true', decide_eq_false_iff_not] at h
      have hui := getD_both (mem_ready.1 hi).1
      have huj := getD_both (mem_ready.1 hj).1
      rcases Nat.lt_or_gt_of_ne hji with hlt | hlt
      · have := reachB_ready inv _ _ _ ((h i ri j rj).resolve_left (by omega)) hi
        rw [huj] at this; cases this
      · have := reachB_ready inv _ _ _ ((h j rj i ri).resolve_left (by omega)) hj
        rw [hui] at this; cases this

theorem wpAnyW_first {n i : Nat} (hla : lastB md ops n ch = true) (hsq : seqKB md ops n ch = true) {oi : Oper} {L : Array Bool → Act → (World → Prop) → (World → Prop) → Prop} (hi : ops[i]? = some oi) (hsel : Region.noSelect ops = true) (hin : i < n) {rows : List Nat} {C : World → Prop} (hrow : lineB md ops n rows = true) (hrr : rowsB n ch rows = true) (hne : ∃ w, C w)
    (hhead : ∀ listed, HeadInv md ops n listed → listed.getD i true = false → ∀ j ∈ Region.ready md ops listed, j < n)
    (hL : AntiW L) (hdone : ∀ listed a J F, L listed a J F → ∀ j ∈ Region.ready md ops listed, n ≤ j) :
    ∀ (f : Nat) (listed : Array Bool) (a : Act) (J F : World → Prop), HeadInv md ops n listed → (∀ j, j < i → listed.getD j false = true) →
      (∀ j oj, ops[j]? = some oj → j ≠ i → listed.getD j true = false → (∀ e ∈ oj.after, Region.binds md e = true → e.on ≠ i) → oi.apart ops oj = true) →
      i ∈ Region.ready md ops listed → fwOp Fi P ops C R ch i oi (wpAnyW Fi P md ops C R ch n L f (listed.setIfInBounds i true)) a J F →
      wpAnyW Fi P md ops C R ch n L (f + 1) listed a J F := by
  intro f
  induction f with
  | zero =>
    intro listed a J F inv _ _ hr H
    have hun := (mem_ready.1 hr).1
    refine ⟨fun h => (by rw [h] at hr; cases hr), fun j hj => ?_⟩
    have hjn := hhead listed inv hun j hj
    refine ⟨hjn, fun o ho => ?_⟩
    by_cases hji : j = i
    · subst hji
      rw [hi] at ho
      injection ho with ho
      subst ho
      exact H
    · obtain ⟨a', J', F', hl⟩ := fwOp_some H
      have := hdone _ _ _ _ hl j (ready_mono hj hji)
      omega
  | succ f ih =>
    intro listed a J F inv hbef hfree hr H
    have hun := (mem_ready.1 hr).1
    refine ⟨fun h => (by rw [h] at hr; cases hr), fun j hj => ?_⟩
    have hjn := hhead listed inv hun j hj
    refine ⟨hjn, fun oj hoj => ?_⟩
    by_cases hji : j = i
    · subst hji
      rw [hi] at hoj
      injection hoj with hoj
      subst hoj
      exact H
    · obtain ⟨hjun, oj', hoj', hall⟩ := mem_ready.1 hj
      have : oj' = oj := Option.some.inj (hoj'.symm.trans hoj)
      subst this
      have hnot : ∀ e ∈ oj'.after, Region.binds md e = true → e.on ≠ i := fun e he hb heq => by
        have h1 := hall e he hb
        rw [heq, getD_both hun] at h1
        cases h1
      have hap := hfree j oj' hoj hji hjun hnot
      have hfree' : ∀ k ok, ops[k]? = some ok → k ≠ i → (listed.setIfInBounds j true).getD k true = false →
          (∀ e ∈ ok.after, Region.binds md e = true → e.on ≠ i) → oi.apart ops ok = true := fun k ok hk hki hun hno => by
        refine hfree k ok hk hki ?_ hno
        by_cases hjk : j = k
        · subst hjk; exact hjun
        · rw [getD_set_ne true hjk] at hun; exact hun
      have H1 : fwOp Fi P ops C R ch i oi (fun a J F => fwOp Fi P ops C R ch j oj' (wpAnyW Fi P md ops C R ch n L f ((listed.setIfInBounds i true).setIfInBounds j true)) a J F) a J F :=
        fwOp_mono (fun a' J' F' h => (h.2 j (ready_mono hj hji)).2 oj' hoj) H
      have H2 := fwOp_swap (line_apart hrow hrr inv hin hjn hr hj hji) (fun hl => last_det hla inv hin hjn hr hjun hji hl) (fun hl => last_det hla inv hjn hin hj hun (Ne.symm hji) hl) (fun hs => seq_free hsq inv hjn (by
        rcases Nat.lt_or_gt_of_ne hji with h | h
        · have := hbef j h; rw [getD_both hjun] at this; cases this
        · exact h) hj hun hs) hap (Region.noSelect_spec hsel i oi · · hi) (Region.noSelect_spec hsel j oj' · · hoj) hne (fun a J F F' => wpAnyW_anti hL f _ a J F F') H1
      refine fwOp_mono (fun a' J' F' h => ih (listed.setIfInBounds j true) a' J' F' (inv.set hj hjn) (fun m hm => getD_set_true (hbef m hm)) hfree' (ready_mono hr (Ne.symm hji)) ?_) H2
      rw [Array.setIfInBounds_comm _ _ hji]
      exact h

/-- THE WALK IN THE TEXT's ORDER -/
def wpTextW (Fi : Fence) (P : Program) (ops : Array Oper) (C : World → Prop) (R : World → World → Prop) (ch : Nat → Kind) (Lq : Act → (World → Prop) → (World → Prop) → Prop) : List Oper → Nat → Act → (World → Prop) → (World → Prop) → Prop
  | [], _, a, J, F => Lq a J F
  | o :: rest, k, a, J, F => fwOp Fi P ops C R ch k o (fun a J F => wpTextW Fi P ops C R ch Lq rest (k + 1) a J F) a J F

theorem wpAnyW_lex {n : Nat} (hla : lastB md ops n ch = true) (hsqk : seqKB md ops n ch = true) {Lq : Act → (World → Prop) → (World → Prop) → Prop} {fin : Array Bool} (hLq : ∀ a J (F F' : World → Prop), (∀ w, F' w → F w) → Lq a J F → Lq a J F') (hsel : Region.noSelect ops = true) {rows : List Nat} {C : World → Prop} (hrow : lineB md ops n rows = true) (hrr : rowsB n ch rows = true) (hne : ∃ w, C w)
    (hhead : ∀ i, i < n → ∀ listed, HeadInv md ops n listed → listed.getD i true = false → ∀ j ∈ Region.ready md ops listed, j < n)
    (hdone : ∀ j ∈ Region.ready md ops fin, n ≤ j) :
    ∀ (l : List Oper) (k : Nat) (listed : Array Bool) (a : Act) (J F : World → Prop), (∀ j, j < l.length → l[j]? = ops[k + j]?) → k + l.length = n → HeadInv md ops n listed → (∀ j, j < k → listed.getD j false = true) →
    lexB md ops l.length k listed = true → setFrom l.length k listed = fin → wpTextW Fi P ops C R ch Lq l k a J F →
    wpAnyW Fi P md ops C R ch n (fun listed' a' J' F' => listed' = fin ∧ Lq a' J' F') l.length listed a J F
  | [], k, listed, a, J, F, _, _, _, _, _, hf, h => ⟨hf, h⟩
  | o :: l, k, listed, a, J, F, hl, hk, inv, hbef, hB, hf, h => by
    have h0 : ops[k]? = some o := by simpa using (hl 0 (by simp)).symm
    simp only [List.length_cons, lexB, Bool.and_eq_true] at hB
    obtain ⟨⟨hr, hfr⟩, hB'⟩ := hB
    have hkn : k < n := by simp only [List.length_cons] at hk; omega
    have hr' : k ∈ Region.ready md ops listed := by simpa using hr
    refine wpAnyW_first hla hsqk h0 hsel hkn hrow hrr hne (hhead k hkn) (fun _ _ _ _ _ hF hh => ⟨hh.1, hLq _ _ _ _ hF hh.2⟩) (fun listed' a' J' F' hL => by rw [hL.1]; exact hdone) l.length listed a J F inv hbef (Region.free_spec h0 hfr) hr' ?_
    refine fwOp_mono (fun a' J' F' hh => wpAnyW_lex hla hsqk hLq hsel hrow hrr hne hhead hdone l (k + 1) _ a' J' F' (fun j hj => by have := hl (j + 1) (by simp; omega); simpa [Nat.add_assoc, Nat.add_comm 1 j] using this) (by simp only [List.length_cons] at hk; omega) (inv.set hr' hkn) (fun j hj => by
      by_cases hjk : k = j
      · subst hjk
        have hun := (mem_ready.1 hr').1
        simp only [Array.getD_eq_getD_getElem?, Array.getElem?_setIfInBounds] at hun ⊢
        simp only [if_true]; split <;> simp_all
      · rw [getD_set_ne false hjk]; exact hbef j (by omega)) hB' hf hh) h

def flowAllB (md : Region.Mode) (ops : Array Oper) (rows : List Nat) : Bool :=
  freeAllB md ops && noDefer ops && lineB md ops ops.size rows

/-- ALL OPERATIONS -/
theorem wpIn_region_flow {id : Nat} {Q : Exit → Act → World → Prop} {a : Act} {w : World} {l : List Oper} (C J : World → Prop) (R : World → World → Prop) (ch : Nat → Kind) (rows : List Nat) (hop : Open Fi) (hm : P.follows .mixedOrders = true) (hB : flowAllB .any l.toArray rows = true) (hrr : (rowsB l.length ch rows && lastB .any l.toArray l.length ch && seqKB .any l.toArray l.length ch) = true)
    (hC : C w.drew) (hJ : J w.drew) (kJ : Keeps R J) (h : wpTextW Fi P l.toArray C R ch (fun a' J F => ∀ w', C w' → J w' → F w' → Q .normal a' w') l 0 a J (fun _ => True)) : (Code.region id l.toArray true).wpIn Fi m P Q a w := by
  simp only [flowAllB, freeAllB, Bool.and_eq_true] at hB
  obtain ⟨⟨⟨⟨hsel, hlex⟩, hrd⟩, hdf⟩, hrow⟩ := hB
  have hrd' : Region.ready .any l.toArray (setFrom l.length 0 (Array.replicate l.toArray.size false)) = [] := by simpa using hrd
  obtain ⟨hrr, hsqk⟩ := Bool.and_eq_true_iff.1 hrr
  obtain ⟨hrr, hla⟩ := Bool.and_eq_true_iff.1 hrr
  have H := wpAnyW_lex hla hsqk (md := .any) (n := l.length) (fin := setFrom l.length 0 (Array.replicate l.toArray.size false)) (Lq := fun a' J F => ∀ w', C w' → J w' → F w' → Q .normal a' w') (fun a J F F' hF hh w' hc hj hf => hh w' hc hj (hF _ hf)) hsel (by simpa using hrow) hrr ⟨_, hC⟩
    (fun i _ listed _ _ j hj => by obtain ⟨_, o, ho, _⟩ := mem_ready.1 hj; have := (Array.getElem?_eq_some_iff.1 ho).1; simpa using this) (fun j hj => by rw [hrd'] at hj; cases hj) l 0 _ a _ _ (fun j _ => by simp) (by simp) (headInv0 _) (fun j hj => absurd hj (Nat.not_lt_zero _)) (by simpa using hlex) rfl h
  refine wpIn_region_any hm ?_
  have := wpAnyIn_of_W hla (Q := Q) (g := 0) (m := m) hop (noDefer_spec hdf · · ·) (fun listed a' J F w' hL hc hj hf => ⟨by rw [hL.1]; exact hrd', hL.2 w' hc hj hf⟩) _ _ _ _ _ w.drew hC hJ trivial (headInv0 _) (.inl ⟨kJ, fun _ _ _ _ => trivial⟩) H
  simpa using this

/-- ALL OPERATIONS, without a fence -/
theorem wp_region_flow {id : Nat} {Q : Exit → Act → World → Prop} {a : Act} {w : World} {l : List Oper} (C J : World → Prop) (R : World → World → Prop) (ch : Nat → Kind) (rows : List Nat) (hm : P.follows .mixedOrders = true) (hB : flowAllB .any l.toArray rows = true) (hrr : (rowsB l.length ch rows && lastB .any l.toArray l.length ch && seqKB .any l.toArray l.length ch) = true)
    (hC : C w.drew) (hJ : J w.drew) (kJ : Keeps R J) (h : wpTextW Fence.wide P l.toArray C R ch (fun a' J F => ∀ w', C w' → J w' → F w' → Q .normal a' w') l 0 a J (fun _ => True)) : (Code.region id l.toArray true).wp P Q a w :=
  (wpIn_wide (n := 0)).1 (wpIn_region_flow C J R ch rows Open.wide hm hB hrr hC hJ kJ h)

def flowTailB (md : Region.Mode) (ops : Array Oper) (n : Nat) (rows : List Nat) : Bool :=
  freeTailB md ops n && noDefer ops && lineB md ops n rows

/-- THE FIRST n OPERATIONS, then the others one by one -/
theorem wpIn_region_flowTail {id : Nat} {Q : Exit → Act → World → Prop} {a : Act} {w : World} {l : List Oper} (n : Nat) (C J : World → Prop) (R : World → World → Prop) (ch : Nat → Kind) (rows : List Nat) (hop : Open Fi) (hm : P.follows .mixedOrders = true) (hB : flowTailB .any l.toArray n rows = true) (hrr : (rowsB n ch rows && lastB .any l.toArray n ch && seqKB .any l.toArray n ch) = true)
    (hC : C w.drew) (hJ : J w.drew) (kJ : Keeps R J) (h : wpTextW Fi P l.toArray C R ch (fun a' J F => ∀ w', C w' → J w' → F w' → wpListIn Fi m P l.toArray Q (l.drop n) a' w') (l.take n) 0 a J (fun _ => True)) : (Code.region id l.toArray true).wpIn Fi m P Q a w := by
  simp only [flowTailB, freeTailB, Bool.and_eq_true, decide_eq_true_eq] at hB
  obtain ⟨⟨⟨⟨⟨⟨⟨hsel, hn⟩, hs⟩, hc⟩, hlex⟩, hsq⟩, hdf⟩, hrow⟩ := hB
  have hn' : n < l.length := by simpa using hn
  have htl : (l.take n).length = n := by simp; omega
  have hdl : (l.drop n).length = l.toArray.size - n := by simp
  obtain ⟨hrr, hsqk⟩ := Bool.and_eq_true_iff.1 hrr
  obtain ⟨hrr, hla⟩ := Bool.and_eq_true_iff.1 hrr
  have H := wpAnyW_lex hla hsqk (md := .any) (n := n) (fin := setFrom n 0 (Array.replicate l.toArray.size false)) (Lq := fun a' J F => ∀ w', C w' → J w' → F w' → wpListIn Fi m P l.toArray Q (l.drop n) a' w') (fun a J F F' hF hh w' hc hj hf => hh w' hc hj (hF _ hf)) hsel hrow hrr ⟨_, hC⟩
    (fun i hi listed inv hun j hj => by
      rcases Nat.lt_or_ge j n with h | h
      · exact h
      · exact absurd hj (tail_waits hs hc hn inv _ i rfl hi hun j h)) (seqB_ready hsq) (l.take n) 0 _ a _ _ (fun j hj => by
    have hj' : j < n := by rw [htl] at hj; exact hj
    simp [hj']) (by simpa using htl) (headInv0 _) (fun j hj => absurd hj (Nat.not_lt_zero _)) (by rw [htl]; exact hlex) (by rw [htl]) h
  refine wpIn_region_any hm ?_
  have := wpAnyIn_of_W hla (Q := Q) (g := l.toArray.size - n) (m := m) hop (noDefer_spec hdf · · ·) (fun listed a' J F w' hL hcw hj hf => by
    have := wpAnyIn_of_seq (md := .any) (Q' := Q) (l.drop n) n listed a' w' (fun j => by simp [List.getElem?_drop]) (by rw [hL.1, hdl]; exact hsq) (hL.2 w' hcw hj hf)
    rwa [hdl] at this) _ _ _ _ _ w.drew hC hJ trivial (headInv0 _) (.inl ⟨kJ, fun _ _ _ _ => trivial⟩) H
  rw [htl, show n + (l.toArray.size - n) = l.toArray.size by omega] at this
  exact this

/-- THE FIRST n OPERATIONS, then the others one by one (these inside the widest fence) -/
theorem wp_region_flowTail {id : Nat} {Q : Exit → Act → World → Prop} {a : Act} {w : World} {l : List Oper} (n : Nat) (C J : World → Prop) (R : World → World → Prop) (ch : Nat → Kind) (rows : List Nat) (hm : P.follows .mixedOrders = true) (hB : flowTailB .any l.toArray n rows = true) (hrr : (rowsB n ch rows && lastB .any l.toArray n ch && seqKB .any l.toArray n ch) = true)
    (hC : C w.drew) (hJ : J w.drew) (kJ : Keeps R J) (h : wpTextW Fence.wide P l.toArray C R ch (fun a' J F => ∀ w', C w' → J w' → F w' → wpListIn Fence.wide 0 P l.toArray Q (l.drop n) a' w') (l.take n) 0 a J (fun _ => True)) : (Code.region id l.toArray true).wp P Q a w :=
  (wpIn_wide (n := 0)).1 (wpIn_region_flowTail n C J R ch rows Open.wide hm hB hrr hC hJ kJ h)

theorem keeps_true (R : World → World → Prop) : Keeps R (fun _ => True) := fun _ _ _ _ => trivial
section
variable {C : World → Prop} {Lq : Act → (World → Prop) → (World → Prop) → Prop} {o : Oper} {rest : List Oper} {k : Nat} {a : Act} {J F : World → Prop}
theorem ftext_nil (h : Lq a J F) : wpTextW Fi P ops C R ch Lq [] k a J F := h
theorem ftext_skip {j : Nat} {want b : Bool} {oj : Oper} {t : Tmp} (hg : o.guard = some (j, want)) (hj : ops[j]? = some oj) (hd : oj.dst = some t) (hv : a.tmps[t]? = some (.bool b)) (hne : (b == want) = false)
    (h : ∀ K : Act → Prop, (∀ a, wpTextW Fi P ops C R ch Lq rest (k + 1) a J F → K a) → K (a.put o.dst undef)) : wpTextW Fi P ops C R ch Lq (o :: rest) k a J F := by
  have hw : Region.wanted o (yielded ops a.tmps) = false := by
    simp only [Region.wanted, hg, yielded, hj, Option.bind_some, hd, hv]
    simpa using hne
  unfold wpTextW fwOp
  rw [if_neg (by simp [hw])]
  exact h _ fun _ h => h
theorem ftext_skip' (hw : Region.wanted o (yielded ops a.tmps) = false)
    (h : ∀ K : Act → Prop, (∀ a, wpTextW Fi P ops C R ch Lq rest (k + 1) a J F → K a) → K (a.put o.dst undef)) : wpTextW Fi P ops C R ch Lq (o :: rest) k a J F := by
  unfold wpTextW fwOp
  rw [if_neg (by simp [hw])]
  exact h _ fun _ h => h
theorem ftext_det (hu : ch k = .det) (hw : Region.wanted o (yielded ops a.tmps) = true)
    (h : ∃ v, (∀ w, C w → detUpon w v ((execOp a.eval o).run P w)) ∧ ∀ K : Act → Prop, (∀ a, wpTextW Fi P ops C R ch Lq rest (k + 1) a J F → K a) → K (a.put o.dst v)) : wpTextW Fi P ops C R ch Lq (o :: rest) k a J F := by
  obtain ⟨v, hv, h⟩ := h
  unfold wpTextW fwOp
  rw [if_pos hw]
  simp only [hu]
  exact ⟨v, hv, h _ fun _ h => h⟩
theorem ftext_row (V : Value → Prop) (J' : Value → World → Prop) (hu : ch k = .row V J') (hw : Region.wanted o (yielded ops a.tmps) = true) (hV : ∃ v, V v) (kJ : ∀ v, Keeps R (J' v))
    (hv : ∀ w, C w → J w → ∀ Φ : Value → World → Prop, (∀ v w', V v → C w' → R w w' → J' v w' → Φ v w') → undIn Fi P Φ ((execOp a.eval o).run P w))
    (h : ∀ v, V v → ∀ K : Act → Prop, (∀ a, wpTextW Fi P ops C R ch Lq rest (k + 1) a (J' v) F → K a) → K (a.put o.dst v)) : wpTextW Fi P ops C R ch Lq (o :: rest) k a J F := by
  unfold wpTextW fwOp
  rw [if_pos hw]
  simp only [hu]
  exact ⟨hV, kJ, fun w hC hJ => hv w hC hJ _ fun v w' h0 h1 h2 h3 => ⟨h0, h1, h2, h3⟩, fun v hv => h v hv _ fun _ h => h⟩
theorem ftext_seq (V : Value → Prop) (J' : Value → World → Prop) (hu : ch k = .seq) (hw : Region.wanted o (yielded ops a.tmps) = true) (hV : ∃ v, V v) (kJ : ∀ v, Keeps R (J' v))
    (hv : ∀ w, C w → J w → ∀ Φ : Value → World → Prop, (∀ v w', V v → C w' → R w w' → J' v w' → Φ v w') → undIn Fi P Φ ((execOp a.eval o).run P w))
    (h : ∀ v, V v → ∀ K : Act → Prop, (∀ a, wpTextW Fi P ops C R ch Lq rest (k + 1) a (J' v) F → K a) → K (a.put o.dst v)) : wpTextW Fi P ops C R ch Lq (o :: rest) k a J F := by
  unfold wpTextW fwOp
  rw [if_pos hw]
  simp only [hu]
  exact ⟨V, J', hV, kJ, fun w hC hJ => hv w hC hJ _ fun v w' h0 h1 h2 h3 => ⟨h0, h1, h2, h3⟩, fun v hv => h v hv _ fun _ h => h⟩
theorem ftext_free (V : Value → Prop) (G : Value → World → Prop) (hu : ch k = .free V G) (hw : Region.wanted o (yielded ops a.tmps) = true) (hV : ∃ v, V v) (kG : ∀ v, Keeps R (G v))
    (hv : ∀ w, C w → ∀ Φ : Value → World → Prop, (∀ v w', V v → C w' → R w w' → G v w' → Φ v w') → undIn Fi P Φ ((execOp a.eval o).run P w))
    (h : ∀ v, V v → ∀ K : Act → Prop, (∀ a, wpTextW Fi P ops C R ch Lq rest (k + 1) a J (fun w => F w ∧ G v w) → K a) → K (a.put o.dst v)) : wpTextW Fi P ops C R ch Lq (o :: rest) k a J F := by
  unfold wpTextW fwOp
  rw [if_pos hw]
  simp only [hu]
  exact ⟨hV, kG, fun w hC => hv w hC _ fun v w' h0 h1 h2 h3 => ⟨h0, h1, h2, h3⟩, fun v hv => h v hv _ fun _ h => h⟩
theorem ftext_last (V : Value → Prop) (J' : Value → World → Prop) (hu : ch k = .last) (hw : Region.wanted o (yielded ops a.tmps) = true) (hV : ∃ v, V v)
    (hv : ∀ w, C w → J w → F w → ∀ Φ : Value → World → Prop, (∀ v w', V v → C w' → J' v w' → Φ v w') → undIn Fi P Φ ((execOp a.eval o).run P w))
    (h : ∀ v, V v → ∀ K : Act → Prop, (∀ a, wpTextW Fi P ops C R ch Lq rest (k + 1) a (J' v) (fun _ => True) → K a) → K (a.put o.dst v)) : wpTextW Fi P ops C R ch Lq (o :: rest) k a J F := by
  unfold wpTextW fwOp
  rw [if_pos hw]
  simp only [hu]
  exact ⟨V, J', hV, fun w hC hJ hF => hv w hC hJ hF _ fun v w' h0 h1 h2 => ⟨h0, h1, h2⟩, fun v hv => h v hv _ fun _ h => h⟩
/-- a struct that lies at a place is loaded -/
theorem ftext_load_row (ty : TypeId) (x : Operand) (ho : o.op = .load ty x) (hu : ch k = .det) (hw : Region.wanted o (yielded ops a.tmps) = true) (b off : Nat) (cs : List Value) (hx : a.eval x = .pointer (some ⟨b, off, none⟩)) (hT : AggTy P ty cs.length)
    (hrow : ∀ w, C w → RowAt w b off cs) (h : ∀ K : Act → Prop, (∀ a, wpTextW Fi P ops C R ch Lq rest (k + 1) a J F → K a) → K (a.put o.dst (.agg cs.toArray))) : wpTextW Fi P ops C R ch Lq (o :: rest) k a J F := by
  refine ftext_det hu hw ⟨.agg cs.toArray, fun w hC => ?_, h⟩
  unfold execOp
  simp only [ho, hx, Instr.loadAt, Instr.sureAddr, Sem.run_bind, Sem.run_pure, Result.andThen_ok, run_loadVar_at (hrow w hC) hT]
  exact ⟨rfl, rfl⟩
end
end
attribute [irreducible] wpTextW
end Go.Hx
end
section
namespace Go.Hx
open Go Go.RowKit
section
variable {Fi : Fence} {P : Program} {ops : Array Oper} {ch : Nat → Kind} {R : World → World → Prop} {Lq : Act → (World → Prop) → (World → Prop) → Prop} {o : Oper} {rest : List Oper} {k : Nat} {a : Act} {C J F : World → Prop}
theorem ftext_store (ty : TypeId) (x y : Operand) (J' : World → Prop) (ho : o.op = .store ty x y) (hu : ch k = .last) (hw : Region.wanted o (yielded ops a.tmps) = true)
    (hv : ∀ w, C w → J w → F w → ∃ g t cs vs, a.eval x = .pointer (some ⟨g, 0, none⟩) ∧ a.eval y = .agg vs.toArray ∧ AggTy P ty vs.length ∧ Blk w g t cs ∧ vs.length = cs.length ∧ vs.all (·.oneCell') = true ∧ ∀ w', Blk w' g t vs → Only w w' g → C w' ∧ J' w')
    (h : ∀ K : Act → Prop, (∀ a, wpTextW Fi P ops C R ch Lq rest (k + 1) a J' (fun _ => True) → K a) → K (a.put o.dst undef)) : wpTextW Fi P ops C R ch Lq (o :: rest) k a J F := by
  refine ftext_last (fun v => v = undef) (fun _ W => J' W) hu hw ⟨_, rfl⟩ (fun w hC hJ hF Φ hΦ => ?_) (fun v hv => by subst hv; exact h)
  obtain ⟨g, t, cs, vs, hx, hy, hT, hB, hl, h1, hk⟩ := hv w hC hJ hF
  have hr := run_storeVar_at (P := P) (off := 0) hT hB (by omega) h1
  unfold execOp
  simp only [ho, hx, hy, Instr.storeAt, Instr.sureAddr, Sem.run_bind, Sem.run_pure, Result.andThen_ok, hr, undIn]
  have hB' : Blk (w.setRow g (cs.take 0 ++ vs ++ cs.drop (0 + vs.length)).toArray) g t vs := by
    unfold Blk
    rw [setRow_heap w g cs.toArray _ t (0, 0) hB]
    simp [hl]
  obtain ⟨hC', hJ'⟩ := hk _ hB' ⟨rfl, rfl, rfl, by simp [World.setRow], fun k hk => setRow_other w g k _ hk⟩
  exact hΦ _ _ rfl hC' hJ'
theorem wplIn_assign {n : Nat} {Q : Exit → Act → World → Prop} {w : World} (hop : Open Fi) (x : Operand) (ho : o.op = .assign x) (hw : Region.wanted o (yielded ops a.tmps) = true)
    (h : wpListIn Fi n P ops Q rest (a.put o.dst (a.eval x)) w) : wpListIn Fi n P ops Q (o :: rest) a w := by
  refine wpListIn_step fun K hK => ?_
  rw [if_pos hw]
  have hsem : o.semAt Fi.round a.eval = execOp a.eval o := Oper.semAt_eq _ _ _ (fun c => by rw [ho]; intro h; cases h)
  unfold Oper.wpIn
  refine ⟨fun f _ => hop.fn f, ?_⟩
  rw [hsem]
  unfold execOp
  simp only [ho]
  exact hK _ _ h
end
end Go.Hx
end
