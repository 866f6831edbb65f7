/- A region that draws its order, whose operations may make memory and call: one walk in the text's order. -/
import Derived.Still
import Derived.StillTail
import Derived.Deep.Draws
import Derived.Tactics
import Derived.Tactics2
import Derived.KernelRfl
import Derived.Below
namespace Go.Hx
open Go

/-- what is said of an operation that is no plain one: its value; or what is so of it -/
inductive Spec where
  | val (v : Value)
  | some_ (G : Value → World → Prop)

section
variable {P : Program} {ops : Array Oper} {md : Region.Mode} {C : World → Prop} {R : World → World → Prop} {U : Nat → Option Spec}

/-- the operation leaves the world alone and yields v -/
def detUpon (w : World) (v : Value) : Result Next → Prop
  | .ok (.value u) w' => w' = w ∧ u = v
  | .ok .skip w' => w' = w ∧ v = undef
  | _ => False

/-- the operation yields something of which Φ is so -/
def undUpon (P : Program) (Φ : Value → World → Prop) : Result Next → Prop
  | .ok (.value u) w' => Φ u w'
  | .ok .skip w' => Φ undef w'
  | .ok (.enter f args) w' => Calls P f args w' fun e w'' => ∃ v, e = .returned v ∧ Φ v w''
  | _ => False

theorem detUpon_eq {w : World} {u v : Value} {r : Result Next} (h : detUpon w u r) (k : detUpon w v r) : u = v := by
  cases r with
  | ok n w' =>
    cases n <;> simp only [detUpon] at h k
    · exact h.2.symm.trans k.2
    · exact h.2.trans k.2.symm
  | halt x w' => exact h.elim

def fOp (P : Program) (ops : Array Oper) (C : World → Prop) (R : World → World → Prop) (U : Nat → Option Spec) (i : Nat) (o : Oper) (K : Act → (World → Prop) → Prop) (a : Act) (F : World → Prop) : Prop :=
  if Region.wanted o (yielded ops a.tmps) then
    match U i with
    | none => ∃ v, (∀ w, C w → detUpon w v ((execOp a.eval o).run P w)) ∧ K (a.put o.dst v) F
    | some (.val v) => (∀ w, C w → undUpon P (fun u w' => u = v ∧ C w' ∧ R w w') ((execOp a.eval o).run P w)) ∧ K (a.put o.dst v) F
    | some (.some_ G) => (∀ v w w', G v w → R w w' → G v w') ∧ (∀ w, C w → undUpon P (fun v w' => C w' ∧ R w w' ∧ G v w') ((execOp a.eval o).run P w)) ∧ ∀ v, K (a.put o.dst v) (fun w => F w ∧ G v w)
  else K (a.put o.dst undef) F

theorem fOp_mono {i : Nat} {o : Oper} {K K' : Act → (World → Prop) → Prop} {a : Act} {F : World → Prop} (h : ∀ a F, K a F → K' a F) (hh : fOp P ops C R U i o K a F) : fOp P ops C R U i o K' a F := by
  unfold fOp at *
  split
  · rename_i hw
    rw [if_pos hw] at hh
    split
    · rename_i hu; rw [hu] at hh; obtain ⟨v, h1, h2⟩ := hh; exact ⟨v, h1, h _ _ h2⟩
    · rename_i v hu; rw [hu] at hh; exact ⟨hh.1, h _ _ hh.2⟩
    · rename_i G hu; rw [hu] at hh; exact ⟨hh.1, hh.2.1, fun v => h _ _ (hh.2.2 v)⟩
  · rename_i hw
    rw [if_neg hw] at hh
    exact h _ _ hh

/-- whatever order is picked: the first n operations come up, f of them are left; L: what holds behind them -/
def wpAnyF (P : Program) (md : Region.Mode) (ops : Array Oper) (C : World → Prop) (R : World → World → Prop) (U : Nat → Option Spec) (n : Nat) (L : Array Bool → Act → (World → Prop) → Prop) : Nat → Array Bool → Act → (World → Prop) → Prop
  | 0, listed, a, F => L listed a F
  | f + 1, listed, a, F => Region.ready md ops listed ≠ [] ∧ ∀ i ∈ Region.ready md ops listed, i < n ∧ ∀ o, ops[i]? = some o → fOp P ops C R U i o (wpAnyF P md ops C R U n L f (listed.setIfInBounds i true)) a F

def Anti (L : Array Bool → Act → (World → Prop) → Prop) : Prop := ∀ listed a (F F' : World → Prop), (∀ w, F' w → F w) → L listed a F → L listed a F'

theorem wpAnyF_anti {n : Nat} {L : Array Bool → Act → (World → Prop) → Prop} (hL : Anti L) : ∀ (f : Nat) (listed : Array Bool) (a : Act) (F F' : World → Prop), (∀ w, F' w → F w) → wpAnyF P md ops C R U n L f listed a F → wpAnyF P md ops C R U n L f listed a F'
  | 0, _, _, _, _, hF, h => hL _ _ _ _ hF h
  | f + 1, listed, a, F, F', hF, h => by
    refine ⟨h.1, fun i hi => ⟨(h.2 i hi).1, fun o ho => ?_⟩⟩
    have h1 := (h.2 i hi).2 o ho
    unfold fOp at *
    split
    · rename_i hw
      rw [if_pos hw] at h1
      split
      · rename_i hu; rw [hu] at h1; obtain ⟨v, h2, h3⟩ := h1; exact ⟨v, h2, wpAnyF_anti hL f _ _ _ _ hF h3⟩
      · rename_i v hu; rw [hu] at h1; exact ⟨h1.1, wpAnyF_anti hL f _ _ _ _ hF h1.2⟩
      · rename_i G hu; rw [hu] at h1; exact ⟨h1.1, h1.2.1, fun v => wpAnyF_anti hL f _ _ _ _ (fun w hw => ⟨hF w hw.1, hw.2⟩) (h1.2.2 v)⟩
    · rename_i hw
      rw [if_neg hw] at h1
      exact wpAnyF_anti hL f _ _ _ _ hF h1

theorem wpAny_of_F {n g : Nat} {L : Array Bool → Act → (World → Prop) → Prop} {Q : Exit → Act → World → Prop}
    (hL : ∀ listed a F w, L listed a F → C w → F w → wpAny P md ops Q g listed a w) :
    ∀ (f : Nat) (listed : Array Bool) (a : Act) (F : World → Prop) (w : World), C w → F w → (∀ w w', F w → R w w' → F w') → wpAnyF P md ops C R U n L f listed a F → wpAny P md ops Q (f + g) listed a w
  | 0, listed, a, F, w, hC, hF, _, h => by rw [Nat.zero_add]; exact hL _ _ _ _ h hC hF
  | f + 1, listed, a, F, w, hC, hF, hS, h => by
    rw [show f + 1 + g = (f + g) + 1 by omega]
    refine ⟨fun h0 => absurd h0 h.1, fun i hi => ?_⟩
    obtain ⟨_, o, ho, _⟩ := mem_ready.1 hi
    have h1 := (h.2 i hi).2 o ho
    unfold wpOp
    rw [ho]
    unfold fOp at h1
    simp only
    split
    · rename_i hw
      rw [if_pos hw] at h1
      refine .inl ?_
      unfold Oper.wp
      cases hu : U i with
      | none =>
        rw [hu] at h1
        obtain ⟨v, h2, h3⟩ := h1
        have h4 := h2 w hC
        generalize (execOp a.eval o).run P w = r at *
        cases r with
        | ok x w' =>
          cases x <;> simp only [detUpon] at h4 <;> simp only [Oper.upon]
          · obtain ⟨e1, e2⟩ := h4
            rw [e1, e2]
            exact wpAny_of_F hL f _ _ _ _ hC hF hS h3
          · obtain ⟨e1, e2⟩ := h4
            rw [e1, ← e2]
            exact wpAny_of_F hL f _ _ _ _ hC hF hS h3
        | halt x w' => exact h4.elim
      | some S =>
       cases S with
       | val v =>
        rw [hu] at h1
        obtain ⟨h3, h4⟩ := h1
        have h5 := h3 w hC
        generalize (execOp a.eval o).run P w = r at *
        cases r with
        | ok x w' =>
          cases x <;> simp only [undUpon] at h5 <;> simp only [Oper.upon]
          · obtain ⟨e, hc, hr⟩ := h5
            rw [e]
            exact wpAny_of_F hL f _ _ _ _ hc (hS _ _ hF hr) hS h4
          · obtain ⟨e, hc, hr⟩ := h5
            rw [e]
            exact wpAny_of_F hL f _ _ _ _ hc (hS _ _ hF hr) hS h4
          · refine h5.mono fun e w'' ⟨u, he, hu, hc, hr⟩ => ?_
            subst he
            rw [hu]
            exact wpAny_of_F hL f _ _ _ _ hc (hS _ _ hF hr) hS h4
        | halt x w' => exact h5.elim
       | some_ G =>
        rw [hu] at h1
        obtain ⟨h2, h3, h4⟩ := h1
        have h5 := h3 w hC
        have hS' : ∀ v w w', F w ∧ G v w → R w w' → F w' ∧ G v w' := fun v w w' hh hr => ⟨hS _ _ hh.1 hr, h2 _ _ _ hh.2 hr⟩
        generalize (execOp a.eval o).run P w = r at *
        cases r with
        | ok x w' =>
          cases x <;> simp only [undUpon] at h5 <;> simp only [Oper.upon]
          · exact wpAny_of_F hL f _ _ _ _ h5.1 ⟨hS _ _ hF h5.2.1, h5.2.2⟩ (hS' _) (h4 _)
          · exact wpAny_of_F hL f _ _ _ _ h5.1 ⟨hS _ _ hF h5.2.1, h5.2.2⟩ (hS' _) (h4 _)
          · refine h5.mono fun e w'' ⟨v, he, hv⟩ => ?_
            subst he
            exact wpAny_of_F hL f _ _ _ _ hv.1 ⟨hS _ _ hF hv.2.1, hv.2.2⟩ (hS' _) (h4 _)
        | halt x w' => exact h5.elim
    · rename_i hw
      rw [if_neg hw] at h1
      exact wpAny_of_F hL f _ _ _ _ hC hF hS h1

/-- an operation that is apart from another one: whether that one's value is there already makes no difference -/
theorem fOp_swap {i j : Nat} {oi oj : Oper} (hap : oi.apart ops oj = true) (hsi : ∀ cs b, oi.op ≠ .select cs b) (hsj : ∀ cs b, oj.op ≠ .select cs b) (hne : ∃ w, C w)
    {K : Act → (World → Prop) → Prop} (hK : ∀ a (F F' : World → Prop), (∀ w, F' w → F w) → K a F → K a F') {a : Act} {F : World → Prop}
    (h : fOp P ops C R U i oi (fun a F => fOp P ops C R U j oj K a F) a F) : fOp P ops C R U j oj (fun a F => fOp P ops C R U i oi K a F) a F := by
  obtain ⟨h1, h2, h3⟩ := Oper.apart_spec hap
  have ei : ∀ (a : Act) u, execOp (a.put oj.dst u).eval oi = execOp a.eval oi := fun a u => execOp_put oi hsi a oj.dst u h3
  have wi : ∀ (a : Act) u, Region.wanted oi (yielded ops (a.put oj.dst u).tmps) = Region.wanted oi (yielded ops a.tmps) := fun a u => wanted_put oi a oj.dst u h3
  have ej : ∀ (a : Act) u, execOp (a.put oi.dst u).eval oj = execOp a.eval oj := fun a u => execOp_put oj hsj a oi.dst u h1
  have wj : ∀ (a : Act) u, Region.wanted oj (yielded ops (a.put oi.dst u).tmps) = Region.wanted oj (yielded ops a.tmps) := fun a u => wanted_put oj a oi.dst u h1
  have cm : ∀ v u, (a.put oi.dst v).put oj.dst u = (a.put oj.dst u).put oi.dst v := fun v u => Act.put_comm a v u h2
  unfold fOp at *
  simp only [ei, wi, ej, wj] at *
  by_cases hwi : Region.wanted oi (yielded ops a.tmps) = true
  · by_cases hwj : Region.wanted oj (yielded ops a.tmps) = true
    · simp only [hwi, hwj, if_true] at *
      cases hui : U i with
      | none =>
        simp only [hui] at *
        obtain ⟨v, hv, hh⟩ := h
        cases huj : U j with
        | none =>
          simp only [huj] at *
          obtain ⟨u, hu, hk⟩ := hh
          exact ⟨u, hu, v, hv, by rw [← cm]; exact hk⟩
        | some S =>
          cases S with
          | val u => simp only [huj] at *; exact ⟨hh.1, v, hv, by rw [← cm]; exact hh.2⟩
          | some_ G => simp only [huj] at *; exact ⟨hh.1, hh.2.1, fun u => ⟨v, hv, by rw [← cm]; exact hh.2.2 u⟩⟩
      | some S =>
       cases S with
       | val v =>
        simp only [hui] at *
        obtain ⟨hv, hh⟩ := h
        cases huj : U j with
        | none =>
          simp only [huj] at *
          obtain ⟨u, hu, hk⟩ := hh
          exact ⟨u, hu, hv, by rw [← cm]; exact hk⟩
        | some S =>
          cases S with
          | val u => simp only [huj] at *; exact ⟨hh.1, hv, by rw [← cm]; exact hh.2⟩
          | some_ G => simp only [huj] at *; exact ⟨hh.1, hh.2.1, fun u => ⟨hv, by rw [← cm]; exact hh.2.2 u⟩⟩
       | some_ G =>
        simp only [hui] at *
        obtain ⟨hs, hv, hh⟩ := h
        cases huj : U j with
        | none =>
          simp only [huj] at *
          obtain ⟨u, hu, _⟩ := hh undef
          refine ⟨u, hu, hs, hv, fun v => ?_⟩
          obtain ⟨u', hu', hk⟩ := hh v
          obtain ⟨w, hw⟩ := hne
          have : u' = u := detUpon_eq (hu' w hw) (hu w hw)
          subst this
          rw [← cm]; exact hk
        | some S =>
          cases S with
          | val u => simp only [huj] at *; exact ⟨(hh undef).1, hs, hv, fun v => by rw [← cm]; exact (hh v).2⟩
          | some_ G' => simp only [huj] at *; exact ⟨(hh undef).1, (hh undef).2.1, fun u => ⟨hs, hv, fun v => by rw [← cm]; exact hK _ _ _ (fun w hw => ⟨⟨hw.1.1, hw.2⟩, hw.1.2⟩) ((hh v).2.2 u)⟩⟩
    · simp only [hwi, hwj, if_true, Bool.false_eq_true, if_false] at *
      cases hui : U i with
      | none =>
        simp only [hui] at *
        obtain ⟨v, hv, hh⟩ := h
        exact ⟨v, hv, by rw [← cm]; exact hh⟩
      | some S =>
        cases S with
        | val v => simp only [hui] at *; exact ⟨h.1, by rw [← cm]; exact h.2⟩
        | some_ G => simp only [hui] at *; exact ⟨h.1, h.2.1, fun v => by rw [← cm]; exact h.2.2 v⟩
  · by_cases hwj : Region.wanted oj (yielded ops a.tmps) = true
    · simp only [hwi, hwj, if_true, Bool.false_eq_true, if_false] at *
      cases huj : U j with
      | none =>
        simp only [huj] at *
        obtain ⟨u, hu, hk⟩ := h
        exact ⟨u, hu, by rw [← cm]; exact hk⟩
      | some S =>
        cases S with
        | val u => simp only [huj] at *; exact ⟨h.1, by rw [← cm]; exact h.2⟩
        | some_ G => simp only [huj] at *; exact ⟨h.1, h.2.1, fun u => by rw [← cm]; exact h.2.2 u⟩
    · simp only [hwi, hwj, Bool.false_eq_true, if_false] at *
      rw [← cm]; exact h

theorem fOp_some {i : Nat} {o : Oper} {K : Act → (World → Prop) → Prop} {a : Act} {F : World → Prop} (h : fOp P ops C R U i o K a F) : ∃ a' F', K a' F' := by
  unfold fOp at h
  split at h
  · split at h
    · obtain ⟨v, _, hk⟩ := h; exact ⟨_, _, hk⟩
    · exact ⟨_, _, h.2⟩
    · exact ⟨_, _, h.2.2 undef⟩
  · exact ⟨_, _, h⟩

theorem wpAnyF_first {n i : Nat} {oi : Oper} {L : Array Bool → Act → (World → Prop) → Prop} (hi : ops[i]? = some oi) (hsel : Region.noSelect ops = true) (hin : i < n) (hL : Anti L) (hne : ∃ w, C w)
    (hhead : ∀ listed, HeadInv md ops n listed → listed.getD i true = false → ∀ j ∈ Region.ready md ops listed, j < n)
    (hdone : ∀ listed a F, L listed a F → ∀ j ∈ Region.ready md ops listed, n ≤ j) :
    ∀ (f : Nat) (listed : Array Bool) (a : Act) (F : World → Prop), HeadInv md ops n listed →
      (∀ j oj, ops[j]? = some oj → j ≠ i → listed.getD j true = false → (∀ e ∈ oj.after, Region.binds md e = true → e.on ≠ i) → oi.apart ops oj = true) →
      i ∈ Region.ready md ops listed → fOp P ops C R U i oi (wpAnyF P md ops C R U n L f (listed.setIfInBounds i true)) a F →
      wpAnyF P md ops C R U n L (f + 1) listed a F := by
  intro f
  induction f with
  | zero =>
    intro listed a F inv _ hr H
    have hun := (mem_ready.1 hr).1
    refine ⟨fun h => (by rw [h] at hr; cases hr), fun j hj => ?_⟩
    have hjn := hhead listed inv hun j hj
    refine ⟨hjn, fun o ho => ?_⟩
    by_cases hji : j = i
    · subst hji
      rw [hi] at ho
      injection ho with ho
      subst ho
      exact H
    · obtain ⟨a', F', hl⟩ := fOp_some H
      have := hdone _ _ _ hl j (ready_mono hj hji)
      omega
  | succ f ih =>
    intro listed a F inv hfree hr H
    have hun := (mem_ready.1 hr).1
    refine ⟨fun h => (by rw [h] at hr; cases hr), fun j hj => ?_⟩
    have hjn := hhead listed inv hun j hj
    refine ⟨hjn, fun oj hoj => ?_⟩
    by_cases hji : j = i
    · subst hji
      rw [hi] at hoj
      injection hoj with hoj
      subst hoj
      exact H
    · obtain ⟨hjun, oj', hoj', hall⟩ := mem_ready.1 hj
      have : oj' = oj := Option.some.inj (hoj'.symm.trans hoj)
      subst this
      have hnot : ∀ e ∈ oj'.after, Region.binds md e = true → e.on ≠ i := fun e he hb heq => by
        have h1 := hall e he hb
        rw [heq, getD_both hun] at h1
        cases h1
      have hap := hfree j oj' hoj hji hjun hnot
      have hfree' : ∀ k ok, ops[k]? = some ok → k ≠ i → (listed.setIfInBounds j true).getD k true = false →
          (∀ e ∈ ok.after, Region.binds md e = true → e.on ≠ i) → oi.apart ops ok = true := fun k ok hk hki hun hno => by
        refine hfree k ok hk hki ?_ hno
        by_cases hjk : j = k
        · subst hjk; exact hjun
        · rw [getD_set_ne true hjk] at hun; exact hun
      have H1 : fOp P ops C R U i oi (fun a F => fOp P ops C R U j oj' (wpAnyF P md ops C R U n L f ((listed.setIfInBounds i true).setIfInBounds j true)) a F) a F :=
        fOp_mono (fun a' F' h => (h.2 j (ready_mono hj hji)).2 oj' hoj) H
      have H2 := fOp_swap hap (Region.noSelect_spec hsel i oi · · hi) (Region.noSelect_spec hsel j oj' · · hoj) hne (fun a F F' => wpAnyF_anti hL f _ a F F') H1
      refine fOp_mono (fun a' F' h => ih (listed.setIfInBounds j true) a' F' (inv.set hj hjn) hfree' (ready_mono hr (Ne.symm hji)) ?_) H2
      rw [Array.setIfInBounds_comm _ _ hji]
      exact h

/-- THE WALK IN THE TEXT's ORDER -/
def wpText (P : Program) (ops : Array Oper) (C : World → Prop) (R : World → World → Prop) (U : Nat → Option Spec) (Lq : Act → (World → Prop) → Prop) : List Oper → Nat → Act → (World → Prop) → Prop
  | [], _, a, F => Lq a F
  | o :: rest, k, a, F => fOp P ops C R U k o (fun a F => wpText P ops C R U Lq rest (k + 1) a F) a F

def lexB (md : Region.Mode) (ops : Array Oper) : Nat → Nat → Array Bool → Bool
  | 0, _, _ => true
  | f + 1, k, listed => (Region.ready md ops listed).contains k && Region.free md ops listed k && lexB md ops f (k + 1) (listed.setIfInBounds k true)

def setFrom : Nat → Nat → Array Bool → Array Bool
  | 0, _, listed => listed
  | f + 1, k, listed => setFrom f (k + 1) (listed.setIfInBounds k true)

theorem wpAnyF_lex {n : Nat} {Lq : Act → (World → Prop) → Prop} {fin : Array Bool} (hsel : Region.noSelect ops = true) (hLq : ∀ a (F F' : World → Prop), (∀ w, F' w → F w) → Lq a F → Lq a F') (hne : ∃ w, C w)
    (hhead : ∀ i, i < n → ∀ listed, HeadInv md ops n listed → listed.getD i true = false → ∀ j ∈ Region.ready md ops listed, j < n)
    (hdone : ∀ j ∈ Region.ready md ops fin, n ≤ j) :
    ∀ (l : List Oper) (k : Nat) (listed : Array Bool) (a : Act) (F : World → Prop), (∀ j, j < l.length → l[j]? = ops[k + j]?) → k + l.length = n → HeadInv md ops n listed →
    lexB md ops l.length k listed = true → setFrom l.length k listed = fin → wpText P ops C R U Lq l k a F →
    wpAnyF P md ops C R U n (fun listed' a' F' => listed' = fin ∧ Lq a' F') l.length listed a F
  | [], k, listed, a, F, _, _, _, _, hf, h => ⟨hf, h⟩
  | o :: l, k, listed, a, F, hl, hk, inv, hB, hf, h => by
    have h0 : ops[k]? = some o := by simpa using (hl 0 (by simp)).symm
    simp only [List.length_cons, lexB, Bool.and_eq_true] at hB
    obtain ⟨⟨hr, hfr⟩, hB'⟩ := hB
    have hkn : k < n := by simp only [List.length_cons] at hk; omega
    have hr' : k ∈ Region.ready md ops listed := by simpa using hr
    refine wpAnyF_first h0 hsel hkn (fun _ _ _ _ hF hh => ⟨hh.1, hLq _ _ _ hF hh.2⟩) hne (hhead k hkn) (fun listed' a' F' hL => by rw [hL.1]; exact hdone) l.length listed a F inv (Region.free_spec h0 hfr) hr' ?_
    refine fOp_mono (fun a' F' hh => wpAnyF_lex hsel hLq hne hhead hdone l (k + 1) _ a' F' (fun j hj => by have := hl (j + 1) (by simp; omega); simpa [Nat.add_assoc, Nat.add_comm 1 j] using this) (by simp only [List.length_cons] at hk; omega) (inv.set hr' hkn) hB' hf hh) h

def freeAllB (md : Region.Mode) (ops : Array Oper) : Bool :=
  Region.noSelect ops && lexB md ops ops.size 0 (Array.replicate ops.size false) && (Region.ready md ops (setFrom ops.size 0 (Array.replicate ops.size false))).isEmpty

def freeTailB (md : Region.Mode) (ops : Array Oper) (n : Nat) : Bool :=
  Region.noSelect ops && decide (n < ops.size) && Region.sinkB md ops n && Region.chainB md ops n && lexB md ops n 0 (Array.replicate ops.size false) &&
    Region.seqB md ops (ops.size - n) n (setFrom n 0 (Array.replicate ops.size false))

theorem headInv0 (n : Nat) : HeadInv md ops n (Array.replicate ops.size false) :=
  ⟨by simp, fun j oj _ hl => (by rw [getD_replicate_false] at hl; cases hl), fun t _ ht => getD_in (by simpa using ht) (getD_replicate_false _ _)⟩

/-- ALL OPERATIONS ARE FREE -/
theorem wp_region_free {id : Nat} {Q : Exit → Act → World → Prop} {a : Act} {w : World} {l : List Oper} (hm : P.follows .mixedOrders = true) (hB : freeAllB .any l.toArray = true)
    (hC : C w.drew) (h : wpText P l.toArray C R U (fun a' F => ∀ w', C w' → F w' → Q .normal a' w') l 0 a (fun _ => True)) : (Code.region id l.toArray true).wp P Q a w := by
  simp only [freeAllB, Bool.and_eq_true] at hB
  obtain ⟨⟨hsel, hlex⟩, hrd⟩ := hB
  have hrd' : Region.ready .any l.toArray (setFrom l.length 0 (Array.replicate l.toArray.size false)) = [] := by simpa using hrd
  have H := wpAnyF_lex (md := .any) (n := l.length) (fin := setFrom l.length 0 (Array.replicate l.toArray.size false)) (Lq := fun a' F => ∀ w', C w' → F w' → Q .normal a' w') hsel (fun a F F' hF hh w' hc hf => hh w' hc (hF _ hf)) ⟨_, hC⟩
    (fun i _ listed _ _ j hj => by obtain ⟨_, o, ho, _⟩ := mem_ready.1 hj; have := (Array.getElem?_eq_some_iff.1 ho).1; simpa using this) (fun j hj => by rw [hrd'] at hj; cases hj) l 0 _ a _ (fun j _ => by simp) (by simp) (headInv0 _) (by simpa using hlex) rfl h
  refine wp_region_any hm ?_
  have := wpAny_of_F (Q := Q) (g := 0) (fun listed a' F w' hL hc hf => ⟨by rw [hL.1]; exact hrd', hL.2 w' hc hf⟩) _ _ _ _ w.drew hC trivial (fun _ _ _ _ => trivial) H
  simpa using this

/-- THE FIRST n OPERATIONS ARE FREE, the others follow one by one -/
theorem wp_region_tail {id : Nat} {Q : Exit → Act → World → Prop} {a : Act} {w : World} {l : List Oper} (n : Nat) (hm : P.follows .mixedOrders = true) (hB : freeTailB .any l.toArray n = true)
    (hC : C w.drew) (h : wpText P l.toArray C R U (fun a' F => ∀ w', C w' → F w' → wpList P l.toArray Q (l.drop n) a' w') (l.take n) 0 a (fun _ => True)) : (Code.region id l.toArray true).wp P Q a w := by
  simp only [freeTailB, Bool.and_eq_true, decide_eq_true_eq] at hB
  obtain ⟨⟨⟨⟨⟨hsel, hn⟩, hs⟩, hc⟩, hlex⟩, hsq⟩ := hB
  have hn' : n < l.length := by simpa using hn
  have htl : (l.take n).length = n := by simp; omega
  have hdl : (l.drop n).length = l.toArray.size - n := by simp
  have H := wpAnyF_lex (md := .any) (n := n) (fin := setFrom n 0 (Array.replicate l.toArray.size false)) (Lq := fun a' F => ∀ w', C w' → F w' → wpList P l.toArray Q (l.drop n) a' w') hsel (fun a F F' hF hh w' hc hf => hh w' hc (hF _ hf)) ⟨_, hC⟩
    (fun i hi listed inv hun j hj => by
      rcases Nat.lt_or_ge j n with h | h
      · exact h
      · exact absurd hj (tail_waits hs hc hn inv _ i rfl hi hun j h)) (seqB_ready hsq) (l.take n) 0 _ a _ (fun j hj => by
    have hj' : j < n := by rw [htl] at hj; exact hj
    simp [hj']) (by simpa using htl) (headInv0 _) (by rw [htl]; exact hlex) (by rw [htl]) h
  refine wp_region_any hm ?_
  have := wpAny_of_F (Q := Q) (g := l.toArray.size - n) (fun listed a' F w' hL hcw hf => by
    have := wpAny_of_seq (md := .any) (Q' := Q) (l.drop n) n listed a' w' (fun j => by simp [List.getElem?_drop]) (by rw [hL.1, hdl]; exact hsq) (hL.2 w' hcw hf)
    rwa [hdl] at this) _ _ _ _ w.drew hC trivial (fun _ _ _ _ => trivial) H
  rw [htl, show n + (l.toArray.size - n) = l.toArray.size by omega] at this
  exact this

/-- nothing that is there turns -/
def Ext (w w' : World) : Prop := RowKit.Below w.heap.size w w'
theorem Ext.refl (w : World) : Ext w w := RowKit.Below.refl _ _
theorem Ext.drew (w : World) : Ext w w.drew := (RowKit.Below.refl _ _).drew
theorem Ext.trans {a b c : World} (h : Ext a b) (k : Ext b c) : Ext a c := RowKit.Below.trans h (RowKit.Below.mono k (RowKit.Below.size h))
theorem Ext.cell {w w' : World} {p : Addr} {v : Value} (h : Ext w w') (hc : w.cell? p = some v) : w'.cell? p = some v := (RowKit.Below.cell h (World.block_lt_of_cell? w p hc)).trans hc
theorem Ext.below {w w' : World} (h : Ext w w') : RowKit.Below w.heap.size w w' := h
theorem Ext.of {w w' : World} (h : RowKit.Below w.heap.size w w') : Ext w w' := h
theorem Ext.alloc (w : World) (o : Obj) : Ext w (w.alloc o) := (RowKit.Below.refl _ _).alloc (Nat.le_refl _) _
theorem Ext.setCell' {w w' : World} (h : Ext w w') {p : Addr} (hp : w.heap.size ≤ p.block) (u : Value) : Ext w (w'.setCell p u) := RowKit.Below.setCell h hp u
theorem Ext.alloc' {w w' : World} (h : Ext w w') (o : Obj) : Ext w (w'.alloc o) := h.trans (Ext.alloc _ _)
theorem Ext.drew' {w w' : World} (h : Ext w w') : Ext w w'.drew := h.trans (Ext.drew _)
theorem Ext.drewN (w : World) (n : Nat) : Ext w (w.drewN n) := ⟨rfl, rfl, rfl, Nat.le_refl _, fun _ _ => rfl⟩

theorem Ext.drewN' {w w' : World} (h : Ext w w') (n : Nat) : Ext w (w'.drewN n) := h.trans (Ext.drewN _ _)
theorem ext_cell {W w1 : World} (hb : Ext W w1) : (∀ b o, b < W.heap.size → w1.cell? ⟨b, o, none⟩ = W.cell? ⟨b, o, none⟩) ∧ (∀ b o, b < W.heap.size → w1.frozen? ⟨b, o, none⟩ = W.frozen? ⟨b, o, none⟩) :=
  ⟨fun b o h => RowKit.Below.cell hb (p := ⟨b, o, none⟩) h, fun b o h => RowKit.Below.frozen hb (p := ⟨b, o, none⟩) h⟩
theorem Ext.size {w w' : World} (h : Ext w w') : w.heap.size ≤ w'.heap.size := RowKit.Below.size h

section
variable {W : World} {Lq : Act → (World → Prop) → Prop} {o : Oper} {rest : List Oper} {k : Nat} {a : Act} {F : World → Prop}
theorem text_nil (h : Lq a F) : wpText P ops C R U Lq [] k a F := h
theorem text_skip {j : Nat} {want b : Bool} {oj : Oper} {t : Tmp} (hg : o.guard = some (j, want)) (hj : ops[j]? = some oj) (hd : oj.dst = some t) (hv : a.tmps[t]? = some (.bool b)) (hne : (b == want) = false)
    (h : ∀ K : Act → Prop, (∀ a, wpText P ops C R U Lq rest (k + 1) a F → K a) → K (a.put o.dst undef)) : wpText P ops C R U Lq (o :: rest) k a F := by
  have hw : Region.wanted o (yielded ops a.tmps) = false := by
    simp only [Region.wanted, hg, yielded, hj, Option.bind_some, hd, hv]
    simpa using hne
  unfold wpText fOp
  rw [if_neg (by simp [hw])]
  exact h _ fun _ h => h
theorem text_det (hu : U k = none) (hw : Region.wanted o (yielded ops a.tmps) = true)
    (h : ∃ v, (∀ w, C w → detUpon w v ((execOp a.eval o).run P w)) ∧ ∀ K : Act → Prop, (∀ a, wpText P ops C R U Lq rest (k + 1) a F → K a) → K (a.put o.dst v)) : wpText P ops C R U Lq (o :: rest) k a F := by
  obtain ⟨v, hv, h⟩ := h
  unfold wpText fOp
  rw [if_pos hw]
  simp only [hu]
  exact ⟨v, hv, h _ fun _ h => h⟩
theorem text_und (G : Value → World → Prop) (hu : U k = some (.some_ G)) (hw : Region.wanted o (yielded ops a.tmps) = true) (hs : ∀ v w w', G v w → R w w' → G v w')
    (hv : ∀ w, C w → ∀ Φ : Value → World → Prop, (∀ v w', C w' → R w w' → G v w' → Φ v w') → undUpon P Φ ((execOp a.eval o).run P w))
    (h : ∀ v, ∀ K : Act → Prop, (∀ a, wpText P ops C R U Lq rest (k + 1) a (fun w => F w ∧ G v w) → K a) → K (a.put o.dst v)) : wpText P ops C R U Lq (o :: rest) k a F := by
  unfold wpText fOp
  rw [if_pos hw]
  simp only [hu]
  exact ⟨hs, fun w hC => hv w hC _ fun v w' h1 h2 h3 => ⟨h1, h2, h3⟩, fun v => h v _ fun _ h => h⟩
/-- a call that answers a value that is known, whatever the world -/
theorem text_call (v : Value) (hu : U k = some (.val v)) (hw : Region.wanted o (yielded ops a.tmps) = true)
    (hv : ∀ w, C w → ∀ Φ : Value → World → Prop, (∀ u w', u = v → C w' → R w w' → Φ u w') → undUpon P Φ ((execOp a.eval o).run P w))
    (h : ∀ K : Act → Prop, (∀ a, wpText P ops C R U Lq rest (k + 1) a F → K a) → K (a.put o.dst v)) : wpText P ops C R U Lq (o :: rest) k a F := by
  unfold wpText fOp
  rw [if_pos hw]
  simp only [hu]
  exact ⟨fun w hC => hv w hC _ fun u w' h0 h1 h2 => ⟨h0, h1, h2⟩, h _ fun _ h => h⟩
end
end
attribute [irreducible] wpText
end Go.Hx
