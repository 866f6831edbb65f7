/- What was run once is looked up: it is sound. -/
import Derived.Test.YtmcchddjmobhaaaGreatDoorExH
set_option linter.unusedVariables false
set_option linter.unusedSimpArgs false
set_option linter.unusedSectionVars false
namespace Go.Ex
inductive VK where
  | b (x : Bool)
  | i (k : IntKind) (n : Int)
  | s (x : ByteArray)
  | p
  | z (n c : Nat)
  | nf
  | ni
  | f (f : FuncId)
  | o
noncomputable def fnK (f : Fn) : Bool → VK := Fn.rec (fun f b => Bool.rec .o (.f f) b) (fun _ _ => .o) (fun _ _ _ => .o) (fun _ _ _ _ _ => .o) (fun _ _ => .o) f
noncomputable def vk (v : Value) : VK := Value.rec (motive_1 := fun _ => VK) (motive_2 := fun _ => VK) (motive_3 := fun _ => VK) VK.b VK.i (fun _ _ => .o) (fun _ _ _ => .o) VK.s (fun a => Option.rec .p (fun _ => .o) a) (fun a n c => Option.rec (.z n c) (fun _ => .o) a) (fun _ => .o) (fun _ => .o) (fun f a b _ _ => fnK f (Bool.rec false b.isEmpty a.isEmpty)) .nf (fun _ _ _ => .o) .ni (fun _ _ => .o) (fun _ _ => .o) (fun _ _ => .o) .o (fun _ _ _ _ => .o) v
noncomputable def eqVK (a b : VK) : Bool := VK.rec (fun x b => VK.rec (fun y => sameB x y) (fun _ _ => false) (fun _ => false) false (fun _ _ => false) false false (fun _ => false) false b)
  (fun k n b => VK.rec (fun _ => false) (fun k' n' => Bool.rec false (eqZ n n') (Nat.beq (kid k) (kid k'))) (fun _ => false) false (fun _ _ => false) false false (fun _ => false) false b)
  (fun s b => VK.rec (fun _ => false) (fun _ _ => false) (fun t => decide (s = t)) false (fun _ _ => false) false false (fun _ => false) false b)
  (fun b => VK.rec (fun _ => false) (fun _ _ => false) (fun _ => false) true (fun _ _ => false) false false (fun _ => false) false b)
  (fun n c b => VK.rec (fun _ => false) (fun _ _ => false) (fun _ => false) false (fun n' c' => Bool.rec false (Nat.beq c c') (Nat.beq n n')) false false (fun _ => false) false b)
  (fun b => VK.rec (fun _ => false) (fun _ _ => false) (fun _ => false) false (fun _ _ => false) true false (fun _ => false) false b)
  (fun b => VK.rec (fun _ => false) (fun _ _ => false) (fun _ => false) false (fun _ _ => false) false true (fun _ => false) false b)
  (fun f b => VK.rec (fun _ => false) (fun _ _ => false) (fun _ => false) false (fun _ _ => false) false false (fun g => Nat.beq f g) false b)
  (fun _ => false) a b
noncomputable def and2 (a b : Bool) : Bool := Bool.rec false b a
noncomputable def eqO (a b : Option Nat) : Bool := Option.rec (fun b => Option.rec true (fun _ => false) b) (fun x b => Option.rec false (fun y => Nat.beq x y) b) a b
noncomputable def eqC (a b : C) : Bool := C.rec
  (fun v b => C.rec (fun w => eqVK (vk v) (vk w)) (fun _ _ => false) (fun _ _ _ _ _ => false) (fun _ _ _ _ => false) (fun _ => false) (fun _ _ => false) (fun _ => false) b)
  (fun r o b => C.rec (fun _ => false) (fun r' o' => and2 (Nat.beq r r') (Nat.beq o o')) (fun _ _ _ _ _ => false) (fun _ _ _ _ => false) (fun _ => false) (fun _ _ => false) (fun _ => false) b)
  (fun r o n z c b => C.rec (fun _ => false) (fun _ _ => false) (fun r' o' n' z' c' => and2 (Nat.beq r r') (and2 (Nat.beq o o') (and2 (Nat.beq n n') (and2 (Nat.beq z z') (eqO c c'))))) (fun _ _ _ _ => false) (fun _ => false) (fun _ _ => false) (fun _ => false) b)
  (fun r p o z b => C.rec (fun _ => false) (fun _ _ => false) (fun _ _ _ _ _ => false) (fun r' p' o' z' => and2 (Nat.beq r r') (and2 (Nat.beq p p') (and2 (Nat.beq o o') (Nat.beq z z')))) (fun _ => false) (fun _ _ => false) (fun _ => false) b)
  (fun r b => C.rec (fun _ => false) (fun _ _ => false) (fun _ _ _ _ _ => false) (fun _ _ _ _ => false) (fun r' => Nat.beq r r') (fun _ _ => false) (fun _ => false) b)
  (fun t r b => C.rec (fun _ => false) (fun _ _ => false) (fun _ _ _ _ _ => false) (fun _ _ _ _ => false) (fun _ => false) (fun t' r' => and2 (Nat.beq t t') (Nat.beq r r')) (fun _ => false) b)
  (fun r b => C.rec (fun _ => false) (fun _ _ => false) (fun _ _ _ _ _ => false) (fun _ _ _ _ => false) (fun _ => false) (fun _ _ => false) (fun r' => Nat.beq r r') b) a b
noncomputable def eqL {α : Type} (p : α → α → Bool) (a : List α) : List α → Bool := List.rec (fun b => List.rec true (fun _ _ _ => false) b) (fun x _ ih b => List.rec false (fun y l _ => Bool.rec false (ih l) (p x y)) b) a
noncomputable def eqV (a b : V) : Bool := V.rec (fun x b => V.rec (fun y => eqC x y) (fun _ => false) b) (fun l b => V.rec (fun _ => false) (fun l' => eqL eqC l l') b) a b
noncomputable def likeW (a b : W) : Bool := W.rec (fun x b => W.rec (fun y => eqV x y) (fun _ => false) b) (fun l b => W.rec (fun _ => false) (fun l' => eqL eqV l l') b) a b
-- other numbers for rows
noncomputable def mapF {α β : Type} (f : α → β) (l : List α) : List β := List.rec [] (fun x _ ih => f x :: ih) l
noncomputable def renC (ρ : Nat → Nat) (c : C) : C := C.rec C.raw (fun r o => .ptr (ρ r) o) (fun r o n z c => .sl (ρ r) o n z c) (fun r p o z => .em (ρ r) p o z) (fun r => .clo (ρ r)) (fun t r => .ifc t (ρ r)) (fun r => .mp (ρ r)) c
noncomputable def renV (ρ : Nat → Nat) (v : V) : V := V.rec (fun c => .c (renC ρ c)) (fun l => .a (mapF (renC ρ) l)) v
noncomputable def renW (ρ : Nat → Nat) (w : W) : W := W.rec (fun v => .v (renV ρ v)) (fun l => .t (mapF (renV ρ) l)) w
/-- a row of what was run -/
inductive Er where
  | cells (e : TypeId) (l : List C)
  | fn (f : FuncId) (first caps : List W)
  | val (x : V)
  | gen (e : TypeId) (k : Nat) (g : Nat → Value)
noncomputable def renE (ρ : Nat → Nat) (r : Er) : Er := Er.rec (fun e l => .cells e (mapF (renC ρ) l)) (fun f a b => .fn f (mapF (renW ρ) a) (mapF (renW ρ) b)) (fun x => .val (renV ρ x)) (fun e k g => .gen e k g) r
noncomputable def rowE (r : Er) : Row := Er.rec (fun e l => .cells e (lenF l) (putsF l .e 0)) (fun f a b => .fn (.func f) a b) Row.val (fun e k g => .cells e k (genT (fun i => some (.raw (g i))) (deep k) 1 0)) r
noncomputable def eqT (cs : T C) (l : List C) : Nat → Bool := List.rec (fun _ => true) (fun x _ ih i => Option.rec false (fun y => Bool.rec false (ih (Nat.succ i)) (eqC y x)) (cs.get i)) l
noncomputable def fnEq (f : Fn) : FuncId → Bool := Fn.rec (fun f g => Nat.beq f g) (fun _ _ => false) (fun _ _ _ => false) (fun _ _ _ _ _ => false) (fun _ _ => false) f
noncomputable def eqGn (cs : T C) (g : Nat → Value) (i : Nat) : Bool := Option.rec false (fun y => eqC y (.raw (g i))) (cs.get i)
/-- the row begins as that one -/
noncomputable def eqR (r : Row) (s : Er) : Bool := Row.rec
  (fun e k cs s => Er.rec (fun e' l => and2 (Nat.beq e e') (and2 (Nat.ble (lenF l) k) (eqT cs l 0))) (fun _ _ _ => false) (fun _ => false) (fun e' k' g => and2 (Nat.beq e e') (and2 (Nat.ble k' k) (allR (eqGn cs g) k' (deep k') 0))) s)
  (fun f a b s => Er.rec (fun _ _ => false) (fun g a' b' => and2 (fnEq f g) (and2 (eqL likeW a a') (eqL likeW b b'))) (fun _ => false) (fun _ _ _ => false) s)
  (fun x s => Er.rec (fun _ _ => false) (fun _ _ _ => false) (fun y => eqV x y) (fun _ _ _ => false) s)
  (fun _ _ _ _ _ _ _ _ => false) (fun _ => false) (fun _ _ _ _ => false) r s
noncomputable def eqOR (r : Option Row) (s : Er) : Bool := Option.rec false (fun r => eqR r s) r
noncomputable def ci (n : Nat) : C := .raw (.int .i64 (.ofNat n))
noncomputable def cm (n : Nat) : C := .raw (.int .i64 (.negSucc n))
noncomputable def c8 (n : Nat) : C := .raw (.int .u8 (.ofNat n))
noncomputable def c32 (n : Nat) : C := .raw (.int .u32 (.ofNat n))
noncomputable def c64 (n : Nat) : C := .raw (.int .u64 (.ofNat n))
noncomputable def cb (b : Bool) : C := .raw (.bool b)
noncomputable def cz : C := .raw (.slice none 0 0)
noncomputable def cp : C := .raw (.pointer none)
/-- a call that was run: the function, what it was given (rows are numbered from 0), what it answered and what rows it laid (numbered on), and their numbers in that run -/
structure Ent where
  args : List W
  ins : List Er
  x : W
  outs : List Er
  idx : List Nat
noncomputable def orN (x : Option Nat) : Nat := Option.rec 0 (fun x => x) x
noncomputable def ren2 (a b : List Nat) (k : Nat) (q : Nat) : Nat := Bool.rec (orN (nthF b (Nat.sub q k))) (orN (nthF a q)) (Nat.blt q k)
noncomputable def iota (n : Nat) : Nat → List Nat := Nat.rec (fun _ => []) (fun _ ih i => i :: ih (Nat.succ i)) n
noncomputable def ltR (n : Nat) (r : Er) : Bool := Er.rec (fun _ l => allF (fun c => ltCF c n) l) (fun _ a b => and2 (allF (fun w => ltWF w n) a) (allF (fun w => ltWF w n) b)) (fun x => ltVF x n) (fun _ _ _ => true) r
noncomputable def rowsL (l : List Er) : List Row := mapF rowE l
noncomputable def memE (l : List Er) : Mem := ⟨putsF (rowsL l) .e 0, lenF l, big⟩
noncomputable def nodupF (l : List Nat) : Bool := List.rec true (fun x l ih => and2 (allF (fun y => Bool.rec true false (Nat.beq x y)) l) ih) l
noncomputable def rowsOk (S : T Row) (ρ : Nat → Nat) (l : List Er) : List Nat → Bool := List.rec (fun n => List.rec true (fun _ _ _ => false) n) (fun r _ ih n => List.rec false (fun i n _ => and2 (eqOR (S.get i) (renE ρ r)) (ih n)) n) l
/-- the run is as is said -/
noncomputable def chkE (e : Ent) (r : R1) : Bool := R1.rec false (fun x m => and2 (Nat.ble (lenF e.ins) m.lo) (and2 (Nat.blt (lenF e.ins) big)
  (and2 (allF (ltR (lenF e.ins)) e.ins) (and2 (allF (fun w => ltWF w (lenF e.ins)) e.args) (and2 (ltWF e.x (lenF e.ins + lenF e.outs)) (and2 (allF (ltR (lenF e.ins + lenF e.outs)) e.outs)
  (and2 (nodupF e.idx) (and2 (allF (fun i => Nat.ble (lenF e.ins) i) e.idx)
  (and2 (likeW x (renW (ren2 (iota (lenF e.ins) 0) e.idx (lenF e.ins)) e.x)) (rowsOk m.S (ren2 (iota (lenF e.ins) 0) e.idx (lenF e.ins)) e.outs e.idx)))))))))) r
-- which rows stand for those
noncomputable def rowC (c : C) : Option Nat := C.rec (fun _ => none) (fun r _ => some r) (fun r _ _ _ _ => some r) (fun r _ _ _ => some r) (fun r => some r) (fun _ r => some r) (fun r => some r) c
noncomputable def cellsV (v : V) : List C := V.rec (fun c => [c]) (fun l => l) v
noncomputable def cellsW (w : W) : List C := W.rec cellsV (fun l => List.rec [] (fun v _ ih => appF (cellsV v) ih) l) w
noncomputable def cellsWs (l : List W) : List C := List.rec [] (fun w _ ih => appF (cellsW w) ih) l
noncomputable def cellsE (r : Er) : List C := Er.rec (fun _ l => l) (fun _ a b => appF (cellsWs a) (cellsWs b)) cellsV (fun _ _ _ => []) r
noncomputable def cellsR (r : Row) : Nat → List C := Row.rec (fun _ _ cs n => Option.rec [] (fun l => l) (listF cs n 0)) (fun _ a b _ => appF (cellsWs a) (cellsWs b)) (fun x _ => cellsV x) (fun _ _ _ _ _ _ _ _ => []) (fun _ => []) (fun _ _ _ _ => []) r
noncomputable def orows (r : Option Row) : Nat → List C := Option.rec (fun _ => []) cellsR r
noncomputable def orE (r : Option Er) : List C := Option.rec [] cellsE r
/-- pairs of cells, what is known, rows that are new -/
noncomputable def pairs (a : List C) : List C → T Nat → List Nat → T Nat × List Nat := List.rec (fun _ t q => (t, q)) (fun x _ ih b t q => List.rec (t, q) (fun y l _ =>
  Option.rec (ih l t q) (fun r => Option.rec (Option.rec (ih l t q) (fun r' => ih l (t.set r r') (r :: q)) (rowC y)) (fun _ => ih l t q) (t.get r)) (rowC x)) b) a
noncomputable def find (ins : List Er) (m : Mem) (f : Nat) : T Nat × List Nat → T Nat := Nat.rec (fun p => p.1) (fun _ ih p => List.rec p.1 (fun r q _ => ih (pairs (orE (nthF ins r)) (orows (m.S.get (orN (p.1.get r))) (lenF (orE (nthF ins r)))) p.1 q)) p.2) f
noncomputable def places (e : Ent) (args : List W) (m : Mem) : List Nat := mapF (fun i => orN ((find e.ins m (Nat.succ (lenF e.ins)) (pairs (cellsWs e.args) (cellsWs args) .e [])).get i)) (iota (lenF e.ins) 0)
noncomputable def useOk (e : Ent) (l : List Nat) (args : List W) (m : Mem) : Bool :=
  and2 (eqL likeW args (mapF (renW (ren2 l [] (lenF e.ins))) e.args)) (and2 (nodupF l) (rowsOk m.S (ren2 l [] (lenF e.ins)) e.ins l))
noncomputable def useMem (e : Ent) (l : List Nat) (m : Mem) : R1 :=
  .ok (renW (ren2 l (iota (lenF e.outs) m.nx) (lenF e.ins)) e.x) ⟨putsF (mapF (fun r => rowE (renE (ren2 l (iota (lenF e.outs) m.nx) (lenF e.ins)) r)) e.outs) m.S m.nx, m.nx + lenF e.outs, m.lo⟩
noncomputable def useE (e : Ent) (args : List W) (m : Mem) (z : R1) : R1 := Bool.rec z (useMem e (places e args m) m) (useOk e (places e args m) args m)
noncomputable def useL (l : List Ent) : List W → Mem → R1 → R1 := List.rec (fun _ _ z => z) (fun e _ ih args m z => useE e args m (ih args m z)) l
noncomputable def memoO (l : Option (List Ent)) : List W → Mem → R1 → R1 := Option.rec (fun _ _ z => z) useL l
noncomputable def withIdx (e : Ent) (i : List Nat) : Ent := ⟨e.args, e.ins, e.x, e.outs, i⟩
noncomputable def autoIdx (e : Ent) (r : R1) : List Nat := R1.rec [] (fun x m => mapF (fun j => orN ((find (appF e.ins e.outs) m (Nat.succ (lenF e.ins + lenF e.outs)) (pairs (cellsW e.x) (cellsW x) (putsF (iota (lenF e.ins) 0) .e 0) [])).get j)) (iota (lenF e.outs) (lenF e.ins))) r
/-- the run is as is said, the rows' numbers in it are found -/
noncomputable def chkA (e : Ent) (r : R1) : Bool := chkE (withIdx e (autoIdx e r)) r
noncomputable def callM (E : T (List Ent)) (P : Program) (K : KT) (R : Rec) (f : FuncId) (args : List W) (m : Mem) : R1 := memoO (T.get E f) args m (callC P K R f args m)
noncomputable def execM (E : T (List Ent)) (P : Program) (K : KT) (n : Nat) : Rec :=
  Nat.rec ⟨fun _ _ _ _ => .no, fun _ _ _ => .no⟩ (fun _ ih => ⟨fun nt c tm m => codeC c P K ih nt tm m, callM E P K ih⟩) n
end Go.Ex
namespace Go.Ex
theorem and2_iff {a b : Bool} : and2 a b = true ↔ a = true ∧ b = true := by cases a <;> cases b <;> simp [and2]
def unk : VK → Option Value
  | .b x => some (.bool x)
  | .i k n => some (.int k n)
  | .s x => some (.string x)
  | .p => some (.pointer none)
  | .z n c => some (.slice none n c)
  | .nf => some .nilFunc
  | .ni => some .nilIface
  | .f f => some (.func (.func f) #[] #[])
  | .o => none
theorem vk_unk (v : Value) : unk (vk v) = none ∨ unk (vk v) = some v := by
  cases v with
  | bool b => exact .inr rfl
  | int k n => exact .inr rfl
  | string s => exact .inr rfl
  | pointer a => cases a <;> first | exact .inr rfl | exact .inl rfl
  | slice a n c => cases a <;> first | exact .inr rfl | exact .inl rfl
  | nilFunc => exact .inr rfl
  | nilIface => exact .inr rfl
  | func f a b =>
    show unk (fnK f (Bool.rec false b.isEmpty a.isEmpty)) = none ∨ unk (fnK f (Bool.rec false b.isEmpty a.isEmpty)) = _
    cases f with
    | func f =>
      show unk (Bool.rec .o (.f f) (Bool.rec false b.isEmpty a.isEmpty)) = none ∨ unk (Bool.rec .o (.f f) (Bool.rec false b.isEmpty a.isEmpty)) = _
      cases ha : a.isEmpty with
      | false => exact .inl rfl
      | true =>
        show unk (Bool.rec .o (.f f) b.isEmpty) = none ∨ unk (Bool.rec .o (.f f) b.isEmpty) = _
        cases hb : b.isEmpty with
        | false => exact .inl rfl
        | true =>
          rw [Array.isEmpty_iff] at ha hb
          subst ha hb
          exact .inr rfl
    | _ => exact .inl rfl
  | _ => exact .inl rfl
theorem sameB_iff {a b : Bool} (h : sameB a b = true) : a = b := by cases a <;> cases b <;> first | rfl | cases h
theorem kid_inj {k k' : IntKind} (h : Nat.beq (kid k) (kid k') = true) : k = k' := by rw [kid_eq] at h; exact eq_of_beq h
theorem eqZ_iff {a b : Int} (h : eqZ a b = true) : a = b := by rw [eqZ_eq] at h; exact eq_of_beq h
theorem nbeq {a b : Nat} (h : Nat.beq a b = true) : a = b := Nat.eq_of_beq_eq_true h
theorem brf_iff {a b : Bool} : (Bool.rec false b a : Bool) = true ↔ a = true ∧ b = true := by cases a <;> cases b <;> simp
theorem eqVK_iff {a b : VK} (h : eqVK a b = true) : a = b ∧ unk a ≠ none := by
  cases a with
  | b x => cases b <;> first | (cases sameB_iff h; exact ⟨rfl, fun e => by cases e⟩) | cases h
  | i k n => cases b <;> first | (obtain ⟨h1, h2⟩ := brf_iff.1 h; cases kid_inj h1; cases eqZ_iff h2; exact ⟨rfl, fun e => by cases e⟩) | cases h
  | s x => cases b <;> first | (cases of_decide_eq_true h; exact ⟨rfl, fun e => by cases e⟩) | cases h
  | z n c => cases b <;> first | (obtain ⟨h1, h2⟩ := brf_iff.1 h; cases nbeq h1; cases nbeq h2; exact ⟨rfl, fun e => by cases e⟩) | cases h
  | f f => cases b <;> first | (cases nbeq h; exact ⟨rfl, fun e => by cases e⟩) | cases h
  | p => cases b <;> first | exact ⟨rfl, fun e => by cases e⟩ | cases h
  | nf => cases b <;> first | exact ⟨rfl, fun e => by cases e⟩ | cases h
  | ni => cases b <;> first | exact ⟨rfl, fun e => by cases e⟩ | cases h
  | o => cases h
theorem eqO_iff {a b : Option Nat} (h : eqO a b = true) : a = b := by
  cases a <;> cases b <;> first | rfl | cases h | (cases nbeq h; rfl)
theorem eqC_iff {a b : C} (h : eqC a b = true) : a = b := by
  cases a with
  | raw v => cases b with
    | raw w =>
      have h' : eqVK (vk v) (vk w) = true := h
      obtain ⟨h1, h2⟩ := eqVK_iff h'
      rcases vk_unk v with h3 | h3
      · exact absurd h3 h2
      · rcases vk_unk w with h4 | h4
        · rw [← h1] at h4; exact absurd h4 h2
        · rw [h1, h4] at h3; cases h3; rfl
    | _ => cases h
  | ptr r o => cases b <;> first | (obtain ⟨h1, h2⟩ := and2_iff.1 h; cases nbeq h1; cases nbeq h2; rfl) | cases h
  | sl r o n z c => cases b <;> first | (obtain ⟨h1, h2⟩ := and2_iff.1 h; obtain ⟨h2, h3⟩ := and2_iff.1 h2; obtain ⟨h3, h4⟩ := and2_iff.1 h3; obtain ⟨h4, h5⟩ := and2_iff.1 h4; cases nbeq h1; cases nbeq h2; cases nbeq h3; cases nbeq h4; cases eqO_iff h5; rfl) | cases h
  | em r p o z => cases b <;> first | (obtain ⟨h1, h2⟩ := and2_iff.1 h; obtain ⟨h2, h3⟩ := and2_iff.1 h2; obtain ⟨h3, h4⟩ := and2_iff.1 h3; cases nbeq h1; cases nbeq h2; cases nbeq h3; cases nbeq h4; rfl) | cases h
  | clo r => cases b <;> first | (cases nbeq h; rfl) | cases h
  | ifc t r => cases b <;> first | (obtain ⟨h1, h2⟩ := and2_iff.1 h; cases nbeq h1; cases nbeq h2; rfl) | cases h
  | mp r => cases b <;> first | (cases nbeq h; rfl) | cases h
theorem eqL_iff {α : Type} {p : α → α → Bool} (hp : ∀ x y, p x y = true → x = y) : ∀ {a b : List α}, eqL p a b = true → a = b
  | [], [], _ => rfl
  | [], _ :: _, h => by cases h
  | _ :: _, [], h => by cases h
  | x :: a, y :: b, h => by
    obtain ⟨h1, h2⟩ := brf_iff.1 (show (Bool.rec false (eqL p a b) (p x y) : Bool) = true from h)
    rw [hp x y h1, eqL_iff hp h2]
theorem eqV_iff {a b : V} (h : eqV a b = true) : a = b := by
  cases a <;> cases b <;> first | cases h | skip
  · rw [eqC_iff h]
  · rw [eqL_iff (fun _ _ h => eqC_iff h) h]
theorem likeW_iff {a b : W} (h : likeW a b = true) : a = b := by
  cases a <;> cases b <;> first | cases h | skip
  · rw [eqV_iff h]
  · rw [eqL_iff (fun _ _ h => eqV_iff h) h]
theorem likeWs_iff {a b : List W} (h : eqL likeW a b = true) : a = b := eqL_iff (fun _ _ h => likeW_iff h) h
theorem mapF_eq {α β : Type} (f : α → β) (l : List α) : mapF f l = l.map f := by
  induction l with
  | nil => rfl
  | cons x l ih => rw [List.map_cons, ← ih]; rfl
-- numbers of rows, seen through others
def Env.pull (τ : Env) (ρ : Nat → Nat) : Env := ⟨fun q => τ.b (ρ q), fun q => τ.o (ρ q), fun q => τ.k (ρ q), fun q => τ.v (ρ q)⟩
theorem real_renC (τ : Env) (ρ : Nat → Nat) (c : C) : realC τ (renC ρ c) = realC (τ.pull ρ) c := by
  cases c with
  | sl r o n z c => cases c <;> rfl
  | _ => rfl
theorem real_renCs (τ : Env) (ρ : Nat → Nat) (l : List C) : (mapF (renC ρ) l).map (realC τ) = l.map (realC (τ.pull ρ)) := by
  rw [mapF_eq, List.map_map]; exact List.map_congr_left fun c _ => real_renC τ ρ c
theorem real_renV (τ : Env) (ρ : Nat → Nat) (v : V) : realV τ (renV ρ v) = realV (τ.pull ρ) v := by
  cases v with
  | c c => exact real_renC τ ρ c
  | a l => show Value.agg ((mapF (renC ρ) l).map (realC τ)).toArray = Value.agg (l.map (realC (τ.pull ρ))).toArray; rw [real_renCs]
theorem real_renW (τ : Env) (ρ : Nat → Nat) (w : W) : realW τ (renW ρ w) = realW (τ.pull ρ) w := by
  cases w with
  | v v => exact real_renV τ ρ v
  | t l =>
    show Value.tuple ((mapF (renV ρ) l).map (realV τ)).toArray = Value.tuple (l.map (realV (τ.pull ρ))).toArray
    rw [mapF_eq, List.map_map]; congr 2; exact List.map_congr_left fun c _ => real_renV τ ρ c
theorem real_renWs (τ : Env) (ρ : Nat → Nat) (l : List W) : (mapF (renW ρ) l).map (realW τ) = l.map (realW (τ.pull ρ)) := by
  rw [mapF_eq, List.map_map]; exact List.map_congr_left fun c _ => real_renW τ ρ c
section
variable {B : Holes} {N n : Nat} {ρ : Nat → Nat} (hρ : ∀ q, q < N → @Lt B (ρ q) n)
theorem lt_renC (hρ : ∀ q, q < N → @Lt B (ρ q) n) {c : C} (h : ltCF c N = true) : @C.lt B n (renC ρ c) := by
  cases c with
  | raw v => trivial
  | ptr r o => exact hρ r (by simpa [ltCF, Nat.blt_eq] using h)
  | sl r o m z c => exact hρ r (by simpa [ltCF, Nat.blt_eq] using h)
  | em r p o z => exact hρ r (by simpa [ltCF, Nat.blt_eq] using h)
  | clo r => exact hρ r (by simpa [ltCF, Nat.blt_eq] using h)
  | ifc t r => exact hρ r (by simpa [ltCF, Nat.blt_eq] using h)
  | mp r => exact hρ r (by simpa [ltCF, Nat.blt_eq] using h)
theorem lt_renV (hρ : ∀ q, q < N → @Lt B (ρ q) n) {v : V} (h : ltVF v N = true) : @V.lt B n (renV ρ v) := by
  cases v with
  | c c => exact lt_renC hρ h
  | a l =>
    intro x hx
    have hx' : x ∈ mapF (renC ρ) l := hx
    rw [mapF_eq, List.mem_map] at hx'
    obtain ⟨c, hc, rfl⟩ := hx'
    have h' : allF (fun c => ltCF c N) l = true := h
    rw [allF_eq, List.all_eq_true] at h'
    exact lt_renC hρ (h' c hc)
theorem lt_renW (hρ : ∀ q, q < N → @Lt B (ρ q) n) {w : W} (h : ltWF w N = true) : @W.lt B n (renW ρ w) := by
  cases w with
  | v v => exact lt_renV hρ h
  | t l =>
    intro x hx
    have hx' : x ∈ mapF (renV ρ) l := hx
    rw [mapF_eq, List.mem_map] at hx'
    obtain ⟨c, hc, rfl⟩ := hx'
    have h' : allF (fun c => ltVF c N) l = true := h
    rw [allF_eq, List.all_eq_true] at h'
    exact lt_renV hρ (h' c hc)
end
theorem mapF_id {α : Type} {f : α → α} (hf : ∀ x, f x = x) (l : List α) : mapF f l = l := by
  rw [mapF_eq]; conv => rhs; rw [← List.map_id l]
  exact List.map_congr_left fun x _ => hf x
theorem renC_id (c : C) : renC (fun q => q) c = c := by cases c <;> rfl
theorem renV_id (v : V) : renV (fun q => q) v = v := by
  cases v with
  | c c => show V.c _ = _; rw [renC_id]
  | a l => show V.a _ = _; rw [mapF_id renC_id]
theorem renW_id (w : W) : renW (fun q => q) w = w := by
  cases w with
  | v v => show W.v _ = _; rw [renV_id]
  | t l => show W.t _ = _; rw [mapF_id renV_id]
theorem renE_id (r : Er) : renE (fun q => q) r = r := by
  cases r with
  | cells e l => show Er.cells e _ = _; rw [mapF_id renC_id]
  | fn f a b => show Er.fn f _ _ = _; rw [mapF_id renW_id, mapF_id renW_id]
  | val x => show Er.val _ = _; rw [renV_id]
  | gen e k g => rfl
-- agreement below a number
section
variable {N : Nat} {υ υ' : Env} (hag : @Agree noHoles N υ υ')
theorem ltC_nh {c : C} (h : ltCF c N = true) : @C.lt noHoles N c := by
  have := @lt_renC noHoles N N (fun q => q) (fun q hq => @Lt.mk noHoles _ _ hq (fun e => e)) c h
  rwa [renC_id] at this
theorem ltV_nh {v : V} (h : ltVF v N = true) : @V.lt noHoles N v := by
  have := @lt_renV noHoles N N (fun q => q) (fun q hq => @Lt.mk noHoles _ _ hq (fun e => e)) v h
  rwa [renV_id] at this
theorem ltW_nh {w : W} (h : ltWF w N = true) : @W.lt noHoles N w := by
  have := @lt_renW noHoles N N (fun q => q) (fun q hq => @Lt.mk noHoles _ _ hq (fun e => e)) w h
  rwa [renW_id] at this
end
theorem eqT_iff {cs : T C} : ∀ {l : List C} {i : Nat}, eqT cs l i = true → ∀ j c, l[j]? = some c → cs.get (i + j) = some c
  | [], i, _, j, c, hc => by simp at hc
  | x :: l, i, h, j, c, hc => by
    have h' : (Option.rec false (fun y => Bool.rec false (eqT cs l (i + 1)) (eqC y x)) (cs.get i) : Bool) = true := h
    cases hg : cs.get i with
    | none => rw [hg] at h'; cases h'
    | some y =>
      rw [hg] at h'
      obtain ⟨h1, h2⟩ := brf_iff.1 h'
      cases j with
      | zero => simp at hc; subst hc; rw [Nat.add_zero, hg, eqC_iff h1]
      | succ j => have := eqT_iff h2 j c (by simpa using hc); rwa [show i + 1 + j = i + (j + 1) by omega] at this
theorem rowE_blk {r : Row} {s : Er} (h : eqR r s = true) : r.blk = (rowE s).blk ∧ r.isLoop = false := by
  cases r <;> cases s <;> first | exact ⟨rfl, rfl⟩ | cases h
/-- the numbers n and i stand for one thing -/
structure Alike (τ : Env) (i : Nat) (υ : Env) (q : Nat) : Prop where
  b : τ.b i = υ.b q
  o : τ.o i = υ.o q
  k : τ.k i = υ.k q
  v : τ.v i = υ.v q
/-- a row that begins as one does, elsewhere -/
theorem row_move {A B : Holes} {τ υ : Env} {n n' : Nat} {w : World} {i q N : Nat} {r : Row} {s : Er} {ρ ρ' : Nat → Nat} (h : @RowOk A υ n w q r) (he : eqR r (renE ρ' s) = true) (al : Alike τ i υ q)
    (hs : ltR N s = true) (hag : @Agree noHoles N (υ.pull ρ') (τ.pull ρ)) (hρ : ∀ q, q < N → @Lt B (ρ q) n') : @RowOk B τ n' w i (rowE (renE ρ s)) := by
  cases s with
  | cells e l =>
    cases r with
    | cells e' k cs =>
      obtain ⟨h1, h2⟩ := and2_iff.1 (show and2 (Nat.beq e' e) (and2 (Nat.ble (lenF (mapF (renC ρ') l)) k) (eqT cs (mapF (renC ρ') l) 0)) = true from he)
      obtain ⟨h2, h3⟩ := and2_iff.1 h2
      cases nbeq h1
      rw [lenF_eq, mapF_eq, List.length_map] at h2
      have h2 := Nat.le_of_ble_eq_true h2
      obtain ⟨arr, a1, a2, a3, a4⟩ := h
      have hs' : allF (fun c => ltCF c N) l = true := hs
      rw [allF_eq, List.all_eq_true] at hs'
      show ∃ arr, w.heap[τ.b i]? = some (.cells arr e (0, 0)) ∧ arr.size = τ.k i ∧ τ.o i + lenF (mapF (renC ρ) l) ≤ arr.size ∧ ∀ j, j < lenF (mapF (renC ρ) l) → ∃ c, (putsF (mapF (renC ρ) l) .e 0).get j = some c ∧ @C.lt B n' c ∧ arr[τ.o i + j]? = some (realC τ c)
      rw [al.b, al.k, al.o, lenF_eq, mapF_eq, List.length_map, putsF_eq]
      refine ⟨arr, a1, a2, by omega, fun j hj => ?_⟩
      have hl : l[j]? = some l[j] := List.getElem?_eq_getElem hj
      refine ⟨renC ρ l[j], ?_, lt_renC hρ (hs' _ (List.getElem_mem hj)), ?_⟩
      · rw [T.get_puts, if_pos (by simp; omega), Nat.sub_zero, List.getElem?_map, hl]; rfl
      · obtain ⟨c, c1, c2, c3⟩ := a4 j (by omega)
        have hc := eqT_iff h3 j (renC ρ' l[j]) (by rw [mapF_eq, List.getElem?_map, hl]; rfl)
        rw [Nat.zero_add, c1] at hc
        cases hc
        rw [c3, real_renC, real_renC]
        exact congrArg some (@Agree.realC noHoles _ _ _ hag _ (ltC_nh (hs' _ (List.getElem_mem hj)))).symm
    | _ => cases he
  | fn g a b =>
    cases r with
    | fn f first caps =>
      obtain ⟨h1, h2⟩ := and2_iff.1 (show and2 (fnEq f g) (and2 (eqL likeW first (mapF (renW ρ') a)) (eqL likeW caps (mapF (renW ρ') b))) = true from he)
      obtain ⟨h2, h3⟩ := and2_iff.1 h2
      have h2 := likeWs_iff h2
      have h3 := likeWs_iff h3
      subst h2 h3
      have hf : f = .func g := by cases f <;> first | (cases nbeq h1; rfl) | cases h1
      subst hf
      obtain ⟨k1, k2, k3⟩ := h
      obtain ⟨s1, s2⟩ := and2_iff.1 (show and2 (allF (fun w => ltWF w N) a) (allF (fun w => ltWF w N) b) = true from hs)
      rw [allF_eq, List.all_eq_true] at s1 s2
      have key : ∀ l : List W, (∀ x ∈ l, ltWF x N = true) → (mapF (renW ρ) l).map (realW τ) = (mapF (renW ρ') l).map (realW υ) := fun l hl => by
        rw [real_renWs, real_renWs]
        exact @Agree.mapW noHoles _ _ _ hag l fun x hx => ltW_nh (hl x hx)
      have ltk : ∀ l : List W, (∀ x ∈ l, ltWF x N = true) → ∀ x ∈ mapF (renW ρ) l, @W.lt B n' x := fun l hl x hx => by
        rw [mapF_eq, List.mem_map] at hx
        obtain ⟨c, hc, rfl⟩ := hx
        exact lt_renW hρ (hl c hc)
      refine ⟨?_, ltk a s1, ltk b s2⟩
      rw [al.v, k1, key a s1, key b s2]
    | _ => cases he
  | val x =>
    cases r with
    | val y =>
      have h1 : y = renV ρ' x := eqV_iff he
      subst h1
      refine ⟨?_, lt_renV hρ hs⟩
      rw [al.v, h.1, real_renV, real_renV]
      exact (@Agree.realV noHoles _ _ _ hag _ (ltV_nh hs)).symm
    | _ => cases he
  | gen e k' g =>
    cases r with
    | cells e' k cs =>
      obtain ⟨h1, h2⟩ := and2_iff.1 (show and2 (Nat.beq e' e) (and2 (Nat.ble k' k) (allR (eqGn cs g) k' (deep k') 0)) = true from he)
      obtain ⟨h2, h3⟩ := and2_iff.1 h2
      cases nbeq h1
      have h2 := Nat.le_of_ble_eq_true h2
      obtain ⟨arr, a1, a2, a3, a4⟩ := h
      show ∃ arr, w.heap[τ.b i]? = some (.cells arr e (0, 0)) ∧ arr.size = τ.k i ∧ τ.o i + k' ≤ arr.size ∧ ∀ j, j < k' → ∃ c, (genT (fun i => some (.raw (g i))) (deep k') 1 0).get j = some c ∧ @C.lt B n' c ∧ arr[τ.o i + j]? = some (realC τ c)
      rw [al.b, al.k, al.o]
      refine ⟨arr, a1, a2, by omega, fun j hj => ?_⟩
      refine ⟨.raw (g j), ?_, trivial, ?_⟩
      · rw [genT_get _ _ 1 0 j (by have := deep_lt k'; omega), Nat.one_mul, Nat.add_zero]
      · obtain ⟨c, c1, c2, c3⟩ := a4 j (by omega)
        have hc : (Option.rec false (fun y => eqC y (.raw (g j))) (cs.get j) : Bool) = true := allR_ok _ _ _ _ h3 j (Nat.zero_le _) (by have := deep_lt k'; omega) hj
        rw [c1] at hc
        have hc' : eqC c (.raw (g j)) = true := hc
        rw [eqC_iff hc'] at c3
        exact c3
    | _ => cases he
theorem rowsOk_len {S : T Row} {ρ : Nat → Nat} : ∀ {l : List Er} {n : List Nat}, rowsOk S ρ l n = true → n.length = l.length
  | [], [], _ => rfl
  | [], _ :: _, h => by cases h
  | _ :: _, [], h => by cases h
  | r :: l, i :: n, h => by
    obtain ⟨_, h2⟩ := and2_iff.1 (show and2 (eqOR (S.get i) (renE ρ r)) (rowsOk S ρ l n) = true from h)
    rw [List.length_cons, List.length_cons, rowsOk_len h2]
theorem rowsOk_get {S : T Row} {ρ : Nat → Nat} : ∀ {l : List Er} {n : List Nat}, rowsOk S ρ l n = true → ∀ (j : Nat) (s : Er) (q : Nat), l[j]? = some s → n[j]? = some q → ∃ r, S.get q = some r ∧ eqR r (renE ρ s) = true
  | [], _, _, j, s, q, hs, _ => by simp at hs
  | _ :: _, [], h, _, _, _, _, _ => by cases h
  | r :: l, i :: n, h, j, s, q, hs, hq => by
    obtain ⟨h1, h2⟩ := and2_iff.1 (show and2 (eqOR (S.get i) (renE ρ r)) (rowsOk S ρ l n) = true from h)
    cases j with
    | zero =>
      simp at hs hq
      subst hs hq
      cases hg : S.get i with
      | none => rw [hg] at h1; cases h1
      | some r' => rw [hg] at h1; exact ⟨r', rfl, h1⟩
    | succ j => exact rowsOk_get h2 j s q (by simpa using hs) (by simpa using hq)
theorem nodupF_iff : ∀ {l : List Nat}, nodupF l = true → l.Nodup
  | [], _ => List.nodup_nil
  | x :: l, h => by
    obtain ⟨h1, h2⟩ := and2_iff.1 (show and2 (allF (fun y => Bool.rec true false (Nat.beq x y)) l) (nodupF l) = true from h)
    rw [allF_eq, List.all_eq_true] at h1
    refine List.nodup_cons.2 ⟨fun hm => ?_, nodupF_iff h2⟩
    have := h1 x hm
    rw [Nat.beq_refl] at this
    cases this
theorem iota_get : ∀ (n i j : Nat), j < n → (iota n i)[j]? = some (i + j)
  | n + 1, i, 0, _ => rfl
  | n + 1, i, j + 1, h => by
    show (i :: iota n (i + 1))[j + 1]? = _
    rw [List.getElem?_cons_succ, iota_get n (i + 1) j (by omega)]
    congr 1; omega
theorem ren2_lt {a b : List Nat} {k q : Nat} (h : q < k) : ren2 a b k q = (a[q]?).getD 0 := by
  unfold ren2
  have : Nat.blt q k = true := by rw [Nat.blt_eq]; exact h
  rw [this]
  show orN (nthF a q) = _
  rw [nthF_eq]; cases a[q]? <;> rfl
theorem ren2_ge {a b : List Nat} {k q : Nat} (h : k ≤ q) : ren2 a b k q = (b[q - k]?).getD 0 := by
  unfold ren2
  have : Nat.blt q k = false := by cases hb : Nat.blt q k with | false => rfl | true => rw [Nat.blt_eq] at hb; omega
  rw [this]
  show orN (nthF b (Nat.sub q k)) = _
  rw [nthF_eq]; show orN b[q - k]? = _; cases b[q - k]? <;> rfl
theorem memE_get (l : List Er) (i : Nat) : (memE l).S.get i = (l[i]?).map rowE := by
  show (putsF (mapF rowE l) .e 0).get i = _
  rw [putsF_eq, T.get_puts, T.get_e, mapF_eq, List.length_map]
  split
  · rw [Nat.sub_zero, List.getElem?_map]
  · rename_i h; rw [List.getElem?_eq_none (by omega)]; rfl
end Go.Ex
namespace Go.Ex
section
variable {P : Program} {K : KT} {R : Rec}
theorem ltk {a b q : Nat} (h : a ≤ q) : q = a + (q - a) := by omega
/-- a call that is looked up does what the call does -/
theorem use_ok (hS : ∀ HH : Holes, @SoundCall HH P K R) {f : FuncId} {e : Ent} (hv : chkE e (R.call f e.args (memE e.ins)) = true) [H : Holes] {l : List Nat} {args : List W} {m m' : Mem} {x : W}
    (hu : useOk e l args m = true) (hx : useMem e l m = .ok x m') : CanEnter P f ∧ ∀ F, WF F → ∀ σ w, Rel K σ m w → (∀ a ∈ args, W.lt m.nx a) → ∀ n,
    CallsIn F n P f (args.map (realW σ)).toArray w fun e w' => ∃ τ, e = .returned (realW τ x) ∧ Step K σ m w τ m' w' ∧ W.lt m'.nx x := by
  cases hr : R.call f e.args (memE e.ins) with
  | no => rw [hr] at hv; cases hv
  | ok x1 m1 =>
    rw [hr] at hv
    have hv' : and2 (Nat.ble (lenF e.ins) m1.lo) (and2 (Nat.blt (lenF e.ins) big)
      (and2 (allF (ltR (lenF e.ins)) e.ins) (and2 (allF (fun w => ltWF w (lenF e.ins)) e.args) (and2 (ltWF e.x (lenF e.ins + lenF e.outs)) (and2 (allF (ltR (lenF e.ins + lenF e.outs)) e.outs)
      (and2 (nodupF e.idx) (and2 (allF (fun i => Nat.ble (lenF e.ins) i) e.idx)
      (and2 (likeW x1 (renW (ren2 (iota (lenF e.ins) 0) e.idx (lenF e.ins)) e.x)) (rowsOk m1.S (ren2 (iota (lenF e.ins) 0) e.idx (lenF e.ins)) e.outs e.idx))))))))) = true := hv
    simp only [and2_iff, lenF_eq, allF_eq, List.all_eq_true, Nat.blt_eq, Nat.ble_eq] at hv'
    obtain ⟨v1, v2, v3, v4, v5, v6, v7, v8, v9, v10⟩ := hv'
    have v7 := nodupF_iff v7
    have v9 := likeW_iff v9
    have hu' : and2 (eqL likeW args (mapF (renW (ren2 l [] (lenF e.ins))) e.args)) (and2 (nodupF l) (rowsOk m.S (ren2 l [] (lenF e.ins)) e.ins l)) = true := hu
    simp only [and2_iff, lenF_eq] at hu'
    obtain ⟨u1, u2, u3⟩ := hu'
    have u1 := likeWs_iff u1
    have u2 := nodupF_iff u2
    have ulen := rowsOk_len u3
    have vlen := rowsOk_len v10
    have hx' : (.ok (renW (ren2 l (iota (lenF e.outs) m.nx) (lenF e.ins)) e.x) ⟨putsF (mapF (fun r => rowE (renE (ren2 l (iota (lenF e.outs) m.nx) (lenF e.ins)) r)) e.outs) m.S m.nx, m.nx + lenF e.outs, m.lo⟩ : R1) = .ok x m' := hx
    rw [lenF_eq, lenF_eq] at hx'
    generalize hk : e.ins.length = k at *
    generalize hn : e.outs.length = n at *
    generalize hρl : ren2 l [] k = ρl at *
    generalize hρn : ren2 l (iota n m.nx) k = ρn at *
    generalize hρ1 : ren2 (iota k 0) e.idx k = ρ1 at *
    injection hx' with hx1 hx2
    have hnew : ∀ i, m'.S.get i = if m.nx ≤ i ∧ i < m.nx + n then (e.outs[i - m.nx]?).map (fun r => rowE (renE ρn r)) else m.S.get i := fun i => by
      rw [← hx2]
      show (putsF _ m.S m.nx).get i = _
      rw [putsF_eq, T.get_puts, mapF_eq, List.length_map, hn, List.getElem?_map]
    have hnx : m'.nx = m.nx + n := by rw [← hx2]
    have hlo : m'.lo = m.lo := by rw [← hx2]
    -- the rows that stand for the call's own
    have lget : ∀ q, q < k → ∃ r, l[q]? = some (ρl q) ∧ m.S.get (ρl q) = some r ∧ ∃ s, e.ins[q]? = some s ∧ eqR r (renE ρl s) = true := fun q hq => by
      have h1 : l[q]? = some l[q] := List.getElem?_eq_getElem (by omega)
      have h2 : e.ins[q]? = some e.ins[q] := List.getElem?_eq_getElem (by omega)
      have h3 : ρl q = l[q] := by rw [← hρl, ren2_lt hq, h1]; rfl
      obtain ⟨r, r1, r2⟩ := rowsOk_get u3 q _ _ h2 h1
      exact ⟨r, by rw [h3]; exact h1, by rw [h3]; exact r1, _, h2, r2⟩
    have hnl : ∀ q, q < k → ρn q = ρl q := fun q hq => by rw [← hρn, ← hρl, ren2_lt hq, ren2_lt hq]
    have hn1 : ∀ q, q < k → ρ1 q = q := fun q hq => by rw [← hρ1, ren2_lt hq, iota_get _ _ _ hq]; simp
    have hnn : ∀ j, j < n → ρn (k + j) = m.nx + j := fun j hj => by rw [← hρn, ren2_ge (by omega), show k + j - k = j by omega, iota_get _ _ _ hj]; rfl
    have h1n : ∀ j, j < n → e.idx[j]? = some (ρ1 (k + j)) := fun j hj => by
      have h1 : e.idx[j]? = some e.idx[j] := List.getElem?_eq_getElem (by omega)
      rw [← hρ1, ren2_ge (by omega), show k + j - k = j by omega, h1]; rfl
    have hsnd := hS noHoles f e.args (memE e.ins) x1 m1 hr
    refine ⟨hsnd.1, fun F hF σ w h hal nn => ?_⟩
    have hin : ∀ q, q < k → Lt (ρl q) m.nx := fun q hq => by obtain ⟨r, _, r1, _⟩ := lget q hq; exact h.lt _ r r1
    have hmnx : (memE e.ins).nx = k := by show lenF e.ins = k; rw [lenF_eq, hk]
    -- the call's own memory is a part of this one
    have rel0 : @Rel noHoles K (σ.pull ρl) (memE e.ins) w := by
      refine @Rel.mk noHoles _ _ _ _ (fun i r hi => ?_) (fun i r hi => ?_) (fun i j r s hi hj hri hsj hb => ?_) h.known (fun i r hi hb => ?_) h.low (fun i _ hh => hh)
      · rw [memE_get] at hi
        cases hs : e.ins[i]? with
        | none => rw [hs] at hi; cases hi
        | some s =>
          rw [hs] at hi
          have hik : i < k := by
            rcases Nat.lt_or_ge i k with h | h
            · exact h
            · rw [List.getElem?_eq_none (by omega)] at hs; cases hs
          obtain ⟨r0, q1, q2, s', q3, q4⟩ := lget i hik
          rw [hs] at q3
          cases q3
          cases hi
          have := @row_move H noHoles (σ.pull ρl) σ m.nx (memE e.ins).nx w i (ρl i) k r0 s (fun q => q) ρl (h.row _ _ q2) q4 ⟨rfl, rfl, rfl, rfl⟩ (v3 s (List.mem_of_getElem? hs)) (@Agree.refl noHoles k _) (fun q hq => @Lt.mk noHoles _ _ (by rw [hmnx]; exact hq) (fun e => e))
          rwa [renE_id] at this
      · rw [memE_get] at hi
        refine @Lt.mk noHoles _ _ ?_ (fun e => e)
        rw [hmnx]
        rcases Nat.lt_or_ge i k with h | h
        · exact h
        · rw [List.getElem?_eq_none (by omega)] at hi; cases hi
      · rw [memE_get] at hi hj
        have hik : i < k := by
          rcases Nat.lt_or_ge i k with h | h
          · exact h
          · rw [List.getElem?_eq_none (by omega)] at hi; cases hi
        have hjk : j < k := by
          rcases Nat.lt_or_ge j k with h | h
          · exact h
          · rw [List.getElem?_eq_none (by omega)] at hj; cases hj
        obtain ⟨r0, q1, q2, s1, q3, q4⟩ := lget i hik
        obtain ⟨r1, p1, p2, s2, p3, p4⟩ := lget j hjk
        rw [q3] at hi
        rw [p3] at hj
        cases hi
        cases hj
        have e1 : r0.blk = true := by
          rw [(rowE_blk q4).1]
          have : (rowE (renE ρl s1)).blk = (rowE s1).blk := by cases s1 <;> rfl
          rw [this]; exact hri
        have e2 : r1.blk = true := by
          rw [(rowE_blk p4).1]
          have : (rowE (renE ρl s2)).blk = (rowE s2).blk := by cases s2 <;> rfl
          rw [this]; exact hsj
        have := h.inj _ _ _ _ q2 p2 e1 e2 hb
        rw [this] at q1
        have hli : i < l.length := by omega
        exact (List.getElem?_inj hli u2).1 (q1.trans p1.symm)
      · rw [memE_get] at hi
        have hik : i < k := by
          rcases Nat.lt_or_ge i k with h | h
          · exact h
          · rw [List.getElem?_eq_none (by omega)] at hi; cases hi
        obtain ⟨r0, q1, q2, s1, q3, q4⟩ := lget i hik
        rw [q3] at hi
        cases hi
        refine h.apart _ _ q2 ?_
        rw [(rowE_blk q4).1]
        have : (rowE (renE ρl s1)).blk = (rowE s1).blk := by cases s1 <;> rfl
        rw [this]; exact hb
    have hargs : (args.map (realW σ)) = e.args.map (realW (σ.pull ρl)) := by rw [u1, real_renWs]
    have hc := hsnd.2 F hF (σ.pull ρl) w rel0 (fun a ha => by rw [hmnx]; exact ltW_nh (v4 a ha)) nn
    rw [hargs]
    refine CallsIn.mono hc ?_
    rintro e' w' ⟨τ0, he', k0, _⟩
    have rel1 : @Rel noHoles K τ0 m1 w' := @Step.rel noHoles _ _ _ _ _ _ _ k0
    have agr0 : @Agree noHoles k (σ.pull ρl) τ0 := by have := @Step.agree noHoles _ _ _ _ _ _ _ k0; rwa [hmnx] at this
    have goes0 := @Step.goes noHoles _ _ _ _ _ _ _ k0
    have kept : ∀ b, b < w.heap.size → w'.heap[b]? = w.heap[b]? := fun b hb => @Step.frame noHoles _ _ _ _ _ _ _ k0 b hb fun i r hi _ _ => by
      rw [memE_get] at hi
      rcases Nat.lt_or_ge i k with h | h
      · omega
      · rw [List.getElem?_eq_none (by omega)] at hi; cases hi
    let τ : Env := ⟨fun i => if i < m.nx then σ.b i else τ0.b (ρ1 (k + (i - m.nx))), fun i => if i < m.nx then σ.o i else τ0.o (ρ1 (k + (i - m.nx))), fun i => if i < m.nx then σ.k i else τ0.k (ρ1 (k + (i - m.nx))), fun i => if i < m.nx then σ.v i else τ0.v (ρ1 (k + (i - m.nx)))⟩
    have ag : Agree m.nx σ τ := ⟨fun i hi => if_pos hi.lt, fun i hi => if_pos hi.lt, fun i hi => if_pos hi.lt, fun i hi => if_pos hi.lt⟩
    have tnew : ∀ j, j < n → Alike τ (m.nx + j) τ0 (ρ1 (k + j)) := fun j hj => by
      have e1 : ¬ (m.nx + j < m.nx) := by omega
      have e2 : m.nx + j - m.nx = j := by omega
      exact ⟨by show (if _ then _ else _) = _; rw [if_neg e1, e2], by show (if _ then _ else _) = _; rw [if_neg e1, e2], by show (if _ then _ else _) = _; rw [if_neg e1, e2], by show (if _ then _ else _) = _; rw [if_neg e1, e2]⟩
    have told : ∀ q, q < k → Alike τ (ρn q) τ0 (ρ1 q) := fun q hq => by
      rw [hnl q hq, hn1 q hq]
      have hl := hin q hq
      have hq' : @Lt noHoles q k := @Lt.mk noHoles _ _ hq (fun e => e)
      exact ⟨(ag.b _ hl).trans (@Agree.b noHoles _ _ _ agr0 q hq').symm, (ag.o _ hl).trans (@Agree.o noHoles _ _ _ agr0 q hq').symm, (ag.k _ hl).trans (@Agree.k noHoles _ _ _ agr0 q hq').symm, (ag.v _ hl).trans (@Agree.v noHoles _ _ _ agr0 q hq').symm⟩
    have tall : ∀ q, q < k + n → Alike τ (ρn q) τ0 (ρ1 q) := fun q hq => by
      rcases Nat.lt_or_ge q k with h' | h'
      · exact told q h'
      · have := tnew (q - k) (by omega)
        rw [← hnn (q - k) (by omega), show k + (q - k) = q by omega] at this
        exact this
    have pag : @Agree noHoles (k + n) (τ0.pull ρ1) (τ.pull ρn) := @Agree.mk noHoles _ _ _ (fun i hi => (tall i (@Lt.lt noHoles _ _ hi)).b) (fun i hi => (tall i (@Lt.lt noHoles _ _ hi)).o) (fun i hi => (tall i (@Lt.lt noHoles _ _ hi)).k) (fun i hi => (tall i (@Lt.lt noHoles _ _ hi)).v)
    have ltn : ∀ q, q < k + n → Lt (ρn q) m'.nx := fun q hq => by
      rw [hnx]
      rcases Nat.lt_or_ge q k with h' | h'
      · rw [hnl q h']; exact (hin q h').mono (Nat.le_add_right _ _)
      · have e1 := hnn (q - k) (by omega)
        rw [show k + (q - k) = q by omega] at e1
        rw [e1]
        exact ⟨by omega, h.fresh _ (Nat.le_add_right _ _)⟩
    have isnew : ∀ i r, m.nx ≤ i → m'.S.get i = some r → ∃ s r1, i < m.nx + n ∧ e.outs[i - m.nx]? = some s ∧ r = rowE (renE ρn s) ∧ m1.S.get (ρ1 (k + (i - m.nx))) = some r1 ∧ eqR r1 (renE ρ1 s) = true := fun i r hi hr => by
      rw [hnew] at hr
      split at hr
      · rename_i hc
        cases hs : e.outs[i - m.nx]? with
        | none => rw [hs] at hr; cases hr
        | some s =>
          rw [hs] at hr
          cases hr
          obtain ⟨r1, g1, g2⟩ := rowsOk_get v10 (i - m.nx) s _ hs (h1n (i - m.nx) (by omega))
          exact ⟨s, r1, hc.2, rfl, rfl, g1, g2⟩
      · have := (h.lt i r hr).lt; omega
    have isold : ∀ i r, i < m.nx → m'.S.get i = some r → m.S.get i = some r := fun i r hi hr => by
      rw [hnew, if_neg (by omega)] at hr; exact hr
    have hfar : ∀ i, i < n → w.heap.size ≤ τ0.b (ρ1 (k + i)) ∨ True := fun _ _ => .inr trivial
    have newfar : ∀ i r, m.nx ≤ i → m'.S.get i = some r → r.blk = true → w.heap.size ≤ τ.b i := fun i r hi hr hb => by
      obtain ⟨s, r1, c1, c2, c3, c4, c5⟩ := isnew i r hi hr
      have hj : i - m.nx < n := by omega
      have hb1 : r1.blk = true := by
        rw [(rowE_blk c5).1]
        subst c3
        have : (rowE (renE ρ1 s)).blk = (rowE (renE ρn s)).blk := by cases s <;> rfl
        rw [this]; exact hb
      have hge : (memE e.ins).nx ≤ ρ1 (k + (i - m.nx)) := by
        rw [hmnx]
        have := v8 _ (List.mem_of_getElem? (h1n _ hj))
        exact this
      have hal' := (tnew (i - m.nx) hj).b
      rw [show m.nx + (i - m.nx) = i by omega] at hal'
      rw [hal']
      rcases @Step.new noHoles _ _ _ _ _ _ _ k0 _ r1 hge c4 hb1 with h' | ⟨j, s', j1, _, _, j4⟩
      · exact h'
      · exfalso
        rw [memE_get] at j1
        have : e.ins[j]? = none := List.getElem?_eq_none (by omega)
        rw [this] at j1; cases j1
    refine ⟨τ, ?_, ⟨by omega, ag, ⟨fun i r hr => ?_, fun i r hr => ?_, fun i j r s hi hj hri hsj hb => ?_, @Rel.known noHoles _ _ _ _ rel1, fun i r hi hb => ?_, @Rel.low noHoles _ _ _ _ rel1, fun i hi => h.fresh i (by omega)⟩, goes0, fun b hb _ => kept b hb, fun i r hi hr hb => ⟨r, isold i r hi hr, hb⟩, fun i r hi hr hb => .inl (newfar i r hi hr hb), by omega, fun i r hi hl => ?_⟩, ?_⟩
    · rw [he', v9, ← hx1, real_renW, real_renW]
      exact congrArg _ (@Agree.realW noHoles _ _ _ pag _ (ltW_nh v5)).symm
    · rcases Nat.lt_or_ge i m.nx with hlt | hge
      · have hro := isold i r hlt hr
        exact (h.row i r hro).keep ag (h.lt i r hro) (by omega) fun hb => kept _ ((h.row i r hro).blk_lt hb)
      · obtain ⟨s, r1, c1, c2, c3, c4, c5⟩ := isnew i r hge hr
        subst c3
        have al := tnew (i - m.nx) (by omega)
        rw [show m.nx + (i - m.nx) = i by omega] at al
        exact @row_move noHoles H τ τ0 m1.nx m'.nx w' i _ (k + n) r1 s ρn ρ1 (@Rel.row noHoles _ _ _ _ rel1 _ _ c4) c5 al (v6 s (List.mem_of_getElem? c2)) pag ltn
    · rcases Nat.lt_or_ge i m.nx with hlt | hge
      · exact (h.lt i r (isold i r hlt hr)).mono (by omega)
      · obtain ⟨s, r1, c1, _⟩ := isnew i r hge hr
        exact ⟨by omega, h.fresh i hge⟩
    · have ob : ∀ i r, i < m.nx → m'.S.get i = some r → r.blk = true → τ.b i < w.heap.size := fun i r hi hr hb => by
        have hro := isold i r hi hr
        rw [ag.b i (h.lt i r hro)]
        exact (h.row i r hro).blk_lt hb
      rcases Nat.lt_or_ge i m.nx with hli | hgi
      · rcases Nat.lt_or_ge j m.nx with hlj | hgj
        · have hi' := isold i r hli hi
          have hj' := isold j s hlj hj
          rw [ag.b i (h.lt i r hi'), ag.b j (h.lt j s hj')] at hb
          exact h.inj i j r s hi' hj' hri hsj hb
        · have := ob i r hli hi hri
          have := newfar j s hgj hj hsj
          omega
      · rcases Nat.lt_or_ge j m.nx with hlj | hgj
        · have := ob j s hlj hj hsj
          have := newfar i r hgi hi hri
          omega
        · obtain ⟨s1, r1, a1, a2, a3, a4, a5⟩ := isnew i r hgi hi
          obtain ⟨s2, r2, b1, b2, b3, b4, b5⟩ := isnew j s hgj hj
          have e1 : r1.blk = true := by
            rw [(rowE_blk a5).1]
            subst a3
            have : (rowE (renE ρ1 s1)).blk = (rowE (renE ρn s1)).blk := by cases s1 <;> rfl
            rw [this]; exact hri
          have e2 : r2.blk = true := by
            rw [(rowE_blk b5).1]
            subst b3
            have : (rowE (renE ρ1 s2)).blk = (rowE (renE ρn s2)).blk := by cases s2 <;> rfl
            rw [this]; exact hsj
          have ai := (tnew (i - m.nx) (by omega)).b
          have aj := (tnew (j - m.nx) (by omega)).b
          rw [show m.nx + (i - m.nx) = i by omega] at ai
          rw [show m.nx + (j - m.nx) = j by omega] at aj
          rw [ai, aj] at hb
          have hq := @Rel.inj noHoles _ _ _ _ rel1 _ _ _ _ a4 b4 e1 e2 hb
          have i1 := h1n (i - m.nx) (by omega)
          have i2 := h1n (j - m.nx) (by omega)
          rw [← hq] at i2
          have hli : i - m.nx < e.idx.length := by omega
          have := (List.getElem?_inj hli v7).1 (i1.trans i2.symm)
          omega
    · rcases Nat.lt_or_ge i m.nx with hli | hgi
      · have hi' := isold i r hli hi
        rw [ag.b i (h.lt i r hi')]
        exact h.apart i r hi' hb
      · obtain ⟨s1, r1, a1, a2, a3, a4, a5⟩ := isnew i r hgi hi
        have e1 : r1.blk = true := by
          rw [(rowE_blk a5).1]
          subst a3
          have : (rowE (renE ρ1 s1)).blk = (rowE (renE ρn s1)).blk := by cases s1 <;> rfl
          rw [this]; exact hb
        have ai := (tnew (i - m.nx) (by omega)).b
        rw [show m.nx + (i - m.nx) = i by omega] at ai
        rw [ai]
        exact @Rel.apart noHoles _ _ _ _ rel1 _ _ a4 e1
    · refine ⟨r, ?_, hl⟩
      rw [hnew, if_neg (by have := (h.lt i r hi).lt; omega)]
      exact hi
    · rw [← hx1]
      exact lt_renW ltn v5
end
end Go.Ex
namespace Go.Ex
/-- each call that is looked up was run -/
def Known (P : Program) (K : KT) (E : T (List Ent)) : Prop := ∀ f l, T.get E f = some l → ∀ e ∈ l, ∃ (R : Rec) (i : List Nat), (∀ HH : Holes, @SoundCall HH P K R) ∧ chkE (withIdx e i) (R.call f e.args (memE e.ins)) = true
section
variable {P : Program} {K : KT} {R : Rec} {E : T (List Ent)}
theorem abs_use {e : Ent} {l args : List Nat} {m m' : Mem} {x : W} (h : useMem e l m = .ok x m') : Abs m m' := by
  have h' : (.ok (renW (ren2 l (iota (lenF e.outs) m.nx) (lenF e.ins)) e.x) ⟨putsF (mapF (fun r => rowE (renE (ren2 l (iota (lenF e.outs) m.nx) (lenF e.ins)) r)) e.outs) m.S m.nx, m.nx + lenF e.outs, m.lo⟩ : R1) = .ok x m' := h
  generalize ren2 l (iota (lenF e.outs) m.nx) (lenF e.ins) = ρ at h'
  injection h' with _ h2
  subst h2
  have hg : ∀ i, (putsF (mapF (fun r => rowE (renE ρ r)) e.outs) m.S m.nx).get i = if m.nx ≤ i ∧ i < m.nx + e.outs.length then (e.outs[i - m.nx]?).map (fun r => rowE (renE ρ r)) else m.S.get i := fun i => by
    rw [putsF_eq, T.get_puts, mapF_eq, List.length_map, List.getElem?_map]
  refine ⟨by show m.nx ≤ m.nx + _; omega, Nat.le_refl _, fun r hr _ => ?_, fun b r y hy => ?_⟩
  · show (putsF _ m.S m.nx).get r = _
    rw [hg, if_neg (by omega)]
  · have hy' : (putsF (mapF (fun r => rowE (renE ρ r)) e.outs) m.S m.nx).get r = some y := hy
    show r < m.nx + lenF e.outs
    rw [lenF_eq]
    rw [hg] at hy'
    split at hy'
    · omega
    · have := b r y hy'; omega
theorem useE_case (e : Ent) (args : List W) (m : Mem) (z : R1) : useE e args m z = z ∨ (useOk e (places e args m) args m = true ∧ useE e args m z = useMem e (places e args m) m) := by
  unfold useE
  cases useOk e (places e args m) args m with
  | false => exact .inl rfl
  | true => exact .inr ⟨rfl, rfl⟩
theorem useL_case (l : List Ent) (args : List W) (m : Mem) (z : R1) : useL l args m z = z ∨ ∃ e ∈ l, useOk e (places e args m) args m = true ∧ useL l args m z = useMem e (places e args m) m := by
  induction l with
  | nil => exact .inl rfl
  | cons e l ih =>
    show useE e args m (useL l args m z) = z ∨ _
    rcases useE_case e args m (useL l args m z) with h | ⟨h1, h2⟩
    · rw [h]
      rcases ih with h' | ⟨e', h1, h2, h3⟩
      · exact .inl h'
      · exact .inr ⟨e', List.mem_cons_of_mem _ h1, h2, by show useE e args m (useL l args m z) = _; rw [h]; exact h3⟩
    · exact .inr ⟨e, List.mem_cons_self, h1, h2⟩
theorem callM_case (f : FuncId) (args : List W) (m : Mem) : callM E P K R f args m = callFW P K R f args m ∨ ∃ l e, T.get E f = some l ∧ e ∈ l ∧ useOk e (places e args m) args m = true ∧ callM E P K R f args m = useMem e (places e args m) m := by
  unfold callM
  rw [callC_eq]
  cases hl : T.get E f with
  | none => exact .inl rfl
  | some l =>
    rcases useL_case l args m (callFW P K R f args m) with h | ⟨e, h1, h2, h3⟩
    · exact .inl h
    · exact .inr ⟨l, e, rfl, h1, h2, h3⟩
theorem abs_execM (n : Nat) : AbsRec (execM E P K n) := by
  letI : Holes := noHoles
  induction n with
  | zero => exact ⟨(fun _ _ _ _ _ h => by cases h), (fun _ _ _ _ _ _ _ h => by cases h)⟩
  | succ n ih =>
    refine ⟨fun f args m x m1 h => ?_, fun nt c tm m e tm1 m1 h => ?_⟩
    · have h' : callM E P K (execM E P K n) f args m = .ok x m1 := h
      rcases callM_case (E := E) (P := P) (K := K) (R := execM E P K n) f args m with hc | ⟨l, e, _, _, _, hc⟩
      · rw [hc] at h'; exact abs_callFW ih h'
      · rw [hc] at h'; exact abs_use (args := []) h'
    · have h' : codeC c P K (execM E P K n) nt tm m = .ok e tm1 m1 := h
      rw [codeC_eq] at h'
      exact abs_code ih _ h'
theorem callM_ok (hE : Known P K E) [H : Holes] (hc : SoundCode P K (codeW P K R)) : ∀ f args m x m1, callM E P K R f args m = .ok x m1 → CanEnter P f ∧ ∀ F, WF F → ∀ σ w, Rel K σ m w → (∀ a ∈ args, W.lt m.nx a) → ∀ n,
    CallsIn F n P f (args.map (realW σ)).toArray w fun e w' => ∃ τ, e = .returned (realW τ x) ∧ Step K σ m w τ m1 w' ∧ W.lt m1.nx x := by
  intro f args m x m1 h
  rcases callM_case (E := E) (P := P) (K := K) (R := R) f args m with h' | ⟨l, e, h1, h2, h3, h4⟩
  · rw [h'] at h; exact call_ok hc f args m x m1 h
  · rw [h4] at h
    obtain ⟨R', i, r1, r2⟩ := hE f l h1 e h2
    exact use_ok (e := withIdx e i) r1 r2 h3 h
end
/-- THE EXECUTOR THAT LOOKS UP IS SOUND -/
theorem execM_sound {P : Program} {K : KT} {E : T (List Ent)} (hm : P.follows .mixedOrders = true) (hE : Known P K E) (n : Nat) [H : Holes] : SoundCall P K (execM E P K n) := by
  have key : ∀ n, ∀ HH : Holes, @SoundCall HH P K (execM E P K n) ∧ @SoundCode HH P K (execM E P K n).code ∧ @SoundLoop HH P K (execM E P K n).code := by
    intro n
    induction n with
    | zero => exact fun HH => ⟨(fun _ _ _ _ _ h => by cases h), (fun _ _ _ _ _ _ _ h => by cases h), (fun _ _ _ _ _ _ _ h => by cases h)⟩
    | succ n ih =>
      intro HH
      have hc := @code_ok HH P K (execM E P K n) (ih HH).1 (ih HH).2.1 (ih HH).2.2 (draw_ok hm (abs_execM (E := E) (P := P) (K := K) n) (fun H' => (ih H').1) (fun H' => (ih H').2.1) HH)
      have e1 : (execM E P K (n + 1)).code = codeW P K (execM E P K n) := by
        show (fun nt c tm m => codeC c P K (execM E P K n) nt tm m) = _
        funext nt c tm m; exact codeC_eq P K _ c nt tm m
      rw [e1]
      exact ⟨@callM_ok P K (execM E P K n) E hE HH hc, hc, @loop_ok HH P K (execM E P K n) hc (ih HH).2.2⟩
  exact (key n H).1
/-- what the kernel runs, looking up, says what the program answers -/
theorem saysM {P : Program} {K : KT} {E : T (List Ent)} (hm : P.follows .mixedOrders = true) (hE : Known P K E) {n f : Nat} {m1 : Mem} (h : (execM E P K n).call f [] ⟨.e, 0, big⟩ = .ok (.v (.c (.raw (.bool true)))) m1) {w : World} (hK : ∀ g l, K g = some l → ∀ j v, l[j]? = some v → w.cell? ⟨g, j, none⟩ = some v) (hl : ∀ g l, K g = some l → g < w.heap.size) :
    Calls P f #[] w fun e w' => e = .returned (.bool true) ∧ Goes w w' ∧ ∀ b, b < w.heap.size → w'.heap[b]? = w.heap[b]? := by
  have hs := (@execM_sound P K E hm hE n noHoles) f [] ⟨.e, 0, big⟩ _ m1 h
  have hc := hs.2 Fence.wide ⟨fun _ => trivial, rfl⟩ env0 w (rel_empty hK hl) (fun a ha => by cases ha) 1
  refine CallsIn.calls (CallsIn.mono hc ?_) (fun k d hd => by cases hd)
  rintro e w' ⟨τ, he, k, _⟩
  refine ⟨he, @Step.goes noHoles _ _ _ _ _ _ _ k, fun b hb => @Step.frame noHoles _ _ _ _ _ _ _ k b hb fun i r hi _ _ => ?_⟩
  rw [show (⟨.e, 0, big⟩ : Mem).S.get i = none from T.get_e i] at hi
  cases hi
noncomputable def trueR (r : R1) : Bool := R1.rec false (fun x _ => Option.rec false (fun b => b) (wB x)) r
theorem trueR_iff {r : R1} (h : trueR r = true) : ∃ m, r = .ok (.v (.c (.raw (.bool true)))) m := by
  cases r with
  | no => cases h
  | ok x m =>
    have h' : (Option.rec false (fun b => b) (wB x) : Bool) = true := h
    cases hb : wB x with
    | none => rw [hb] at h'; cases h'
    | some b => rw [hb] at h'; cases h'; exact ⟨m, by rw [wB_some hb]⟩
theorem known_none {P : Program} {K : KT} : Known P K .e := fun f l h => by rw [T.get_e] at h; cases h
/-- one more call is known -/
theorem Known.more {P : Program} {K : KT} {E : T (List Ent)} (hm : P.follows .mixedOrders = true) (h : Known P K E) {f n : Nat} {e : Ent} (hv : chkA e ((execM E P K n).call f e.args (memE e.ins)) = true) : Known P K (E.set f (e :: Option.rec [] (fun l => l) (T.get E f))) := by
  intro g l hl e' he'
  rw [T.get_set] at hl
  split at hl
  · rename_i hg
    subst hg
    cases hl
    rcases List.mem_cons.1 he' with rfl | he'
    · exact ⟨execM E P K n, _, fun HH => @execM_sound P K E hm h n HH, hv⟩
    · cases ho : T.get E g with
      | none => rw [ho] at he'; cases he'
      | some l0 => rw [ho] at he'; exact h g l0 ho e' he'
  · exact h g l hl e' he'
end Go.Ex
