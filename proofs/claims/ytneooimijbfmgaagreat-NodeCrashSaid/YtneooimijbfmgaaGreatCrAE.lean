import Derived.OrdersIn
import Derived.Test.YtneooimijbfmgaaGreatCrAD
set_option linter.unusedVariables false
set_option linter.unusedSimpArgs false
set_option linter.unusedSectionVars false
/- Symbols, and what is known of them. -/
namespace Go.Vc
inductive YRow where
  | int
  | bool
  | str
  | kb (b : Bool)
  | fz (own : Bool) (c j : Nat)
  | fp (own : Bool) (cs : List C)
  | od (e : TypeId) (z : Nat) (own : Bool) (j : Nat)
  | ep (i x z : Nat)
  | ov (i x z : Nat)
  | dead
noncomputable def YRow.odB : YRow → Bool
  | .od .. => true
  | _ => false
/-- other values at one number -/
def Rho.setN (ρ : Rho) (i : Nat) (x : Int) : Rho := ⟨fun j => bif Nat.beq j i then x else ρ.n j, ρ.t, ρ.s, ρ.d⟩
def Rho.setT (ρ : Rho) (i : Nat) (x : Bool) : Rho := ⟨ρ.n, fun j => bif Nat.beq j i then x else ρ.t j, ρ.s, ρ.d⟩
def Rho.setS (ρ : Rho) (i : Nat) (x : ByteArray) : Rho := ⟨ρ.n, ρ.t, fun j => bif Nat.beq j i then x else ρ.s j, ρ.d⟩
def Rho.setD (ρ : Rho) (i : Nat) (x : List (List D)) : Rho := ⟨ρ.n, ρ.t, ρ.s, fun j => bif Nat.beq j i then x else ρ.d j⟩
section
variable {α : Type}
theorem beqIf (j i : Nat) (x y : α) : (bif Nat.beq j i then x else y) = if j = i then x else y := by
  by_cases h : j = i
  · rw [if_pos h, h, Nat.beq_refl]; rfl
  · rw [if_neg h]
    cases hq : Nat.beq j i with
    | true => exact absurd (Nat.eq_of_beq_eq_true hq) h
    | false => rfl
end
/-- the blocks that own data may lie in -/
def Fo (F : Nat → Prop) (B0 : Nat) (own : Bool) (g : Nat) : Prop := F g ∧ (own = true → B0 ≤ g)
/-- a slice that has a place -/
def live (σ : Env) (i : Nat) : Prop := ∃ a n c, σ.v i = .slice a n c ∧ 0 < c
section
variable [Holes]
/-- the elements of an own block -/
def Els (F : Nat → Prop) (w : World) (z : Nat) (arr : Array Value) (l : List (List D)) : Prop :=
  ∀ (q : Nat) (cs : List D), l[q]? = some cs → cs.length = z ∧ ∀ (p : Nat) (d : D), cs[p]? = some d → ∃ v, arr[q * z + p]? = some v ∧ RD F w d v
/-- what a symbol says -/
def YOk (F : Nat → Prop) (B0 : Nat) (σ : Env) (n : Nat) (w : World) (i : Nat) : YRow → Prop
  | .int | .bool | .str | .dead => True
  | .kb b => σ.r.t i = b
  | .fz own c j => Lt j n ∧ RD (Fo F B0 own) w (.fs (σ.r.d j)) (σ.v i) ∧ (c ≠ 0 → ∃ a k, σ.v i = .slice a k k) ∧ (c = 2 → σ.r.d j = [])
  | .fp own cs => Fo F B0 own (σ.b i) ∧ ∀ (j : Nat) (c : C), cs[j]? = some c → C.lt n c ∧ w.cell? ⟨σ.b i, σ.o i + j, none⟩ = some (realC σ c)
  | .od e z own j => Lt j n ∧ 0 < z ∧ ∃ a c, σ.v i = .slice a (σ.r.d j).length c ∧ ((c = 0 ∧ σ.r.d j = []) ∨
      (a = some ⟨σ.b i, 0, none⟩ ∧ 0 < c ∧ ∃ arr, w.heap[σ.b i]? = some (.cells arr e (0, 0)) ∧ c * z ≤ arr.size ∧ (σ.r.d j).length ≤ c ∧ Els (Fo F B0 own) w z arr (σ.r.d j)))
  | .ep q x z => Lt q n ∧ Lt x n ∧ 0 ≤ σ.r.n x ∧ σ.b i = σ.b q ∧ σ.o i = (σ.r.n x).toNat * z
  | .ov q x z => Lt q n ∧ Lt x n ∧ 0 ≤ σ.r.n x ∧ ∃ a m c a' c', σ.v q = .slice a (m + (σ.r.n x).toNat) c ∧ σ.v i = .slice a' m c' ∧ (m ≠ 0 → a' = some ⟨σ.b q, (σ.r.n x).toNat * z, none⟩)
structure YRel (F F0 : Nat → Prop) (B0 : Nat) (σ : Env) (m : Mem) (Y : T YRow) (w : World) : Prop where
  dom : ∀ g, F g → g < w.heap.size ∧ (∀ i r, m.S.get i = some r → r.blk = true → σ.b i ≠ g) ∧ (F0 g ∨ B0 ≤ g)
  row : ∀ i y, Y.get i = some y → Lt i m.nx ∧ YOk F B0 σ m.nx w i y
  od : ∀ i e z o j, Y.get i = some (.od e z o j) → live σ i → σ.b i < w.heap.size ∧ B0 ≤ σ.b i ∧ ¬ F (σ.b i) ∧ ∀ q r, m.S.get q = some r → r.blk = true → σ.b q ≠ σ.b i
  odi : ∀ i e z o j i' e' z' o' j', Y.get i = some (.od e z o j) → Y.get i' = some (.od e' z' o' j') → live σ i → live σ i' → σ.b i = σ.b i' → i = i'
/-- the values that symbols have -/
def YAg (ρ : Rho) (σ : Env) (i : Nat) : YRow → Prop
  | .int => σ.r.n i = ρ.n i
  | .bool | .kb _ => σ.r.t i = ρ.t i
  | .str => σ.r.s i = ρ.s i
  | .fz _ _ j | .od _ _ _ j => σ.r.d j = ρ.d j
  | _ => True
def SymAg (ρ : Rho) (σ : Env) (Y : T YRow) : Prop := ∀ i y, Y.get i = some y → YAg ρ σ i y
section
variable {K : Nat → Option (List Value)} {F F0 : Nat → Prop} {B0 : Nat} {σ τ : Env} {m m1 : Mem} {Y : T YRow} {w w1 : World} {ρ : Rho} {n n1 i : Nat} {y : YRow}
theorem Els.keep {z : Nat} {arr : Array Value} {l : List (List D)} (hw : ∀ g j v, F g → w.cell? ⟨g, j, none⟩ = some v → w1.cell? ⟨g, j, none⟩ = some v) (h : Els F w z arr l) : Els F w1 z arr l := fun q cs hq => by
  obtain ⟨h1, h2⟩ := h q cs hq
  refine ⟨h1, fun p d hp => ?_⟩
  obtain ⟨v, h3, h4⟩ := h2 p d hp
  exact ⟨v, h3, h4.keep (fun _ h => h) hw⟩
theorem cell_heap {g : Nat} (h : w1.heap[g]? = w.heap[g]?) (j : Nat) : w1.cell? ⟨g, j, none⟩ = w.cell? ⟨g, j, none⟩ := World.cell?_of_block (a := ⟨g, j, none⟩) h
theorem live_agree (ha : Agree n σ τ) (hi : Lt i n) : live τ i ↔ live σ i := by
  unfold live; rw [ha.v i hi]
/-- what a symbol says stays -/
theorem YOk.keep (h : YOk F B0 σ n w i y) (hi : Lt i n) (ha : Agree n σ τ) (hn : n ≤ n1) (hc : ∀ g j v, F g → w.cell? ⟨g, j, none⟩ = some v → w1.cell? ⟨g, j, none⟩ = some v) (ho : y.odB = true → live σ i → w1.heap[σ.b i]? = w.heap[σ.b i]?) : YOk F B0 τ n1 w1 i y := by
  cases y with
  | int => trivial
  | bool => trivial
  | str => trivial
  | dead => trivial
  | kb b => exact (ha.rt i hi).trans h
  | fz own c j =>
    obtain ⟨h1, h2, h3, h4⟩ := h
    refine ⟨h1.mono hn, ?_, fun hc0 => by rw [ha.v i hi]; exact h3 hc0, fun hc2 => by rw [ha.rd j h1]; exact h4 hc2⟩
    rw [ha.rd j h1, ha.v i hi]
    exact RD.keep (fun _ h => h) (fun g j v hg hv => hc g j v hg.1 hv) h2
  | fp own cs =>
    refine ⟨by rw [ha.b i hi]; exact h.1, fun j c hj => ?_⟩
    obtain ⟨h1, h2⟩ := h.2 j c hj
    rw [ha.b i hi, ha.o i hi, ha.realC h1]
    exact ⟨h1.mono hn, hc _ _ _ h.1.1 h2⟩
  | od e z own j =>
    obtain ⟨h1, h2, a, c, h3, h4⟩ := h
    refine ⟨h1.mono hn, h2, a, c, by rw [ha.v i hi, ha.rd j h1]; exact h3, ?_⟩
    rw [ha.rd j h1, ha.b i hi]
    rcases h4 with h4 | ⟨h5, h5', arr, h6, h7, h8, h9⟩
    · exact .inl h4
    · refine .inr ⟨h5, h5', arr, ?_, h7, h8, h9.keep fun g j v hg hv => hc g j v hg.1 hv⟩
      rw [ho rfl ⟨_, _, _, h3, h5'⟩]; exact h6
  | ep q x z =>
    obtain ⟨h1, h2, h3, h4, h5⟩ := h
    exact ⟨h1.mono hn, h2.mono hn, by rw [ha.rn _ h2]; exact h3, by rw [ha.b i hi, ha.b _ h1]; exact h4, by rw [ha.o i hi, ha.rn _ h2]; exact h5⟩
  | ov q x z =>
    obtain ⟨h1, h2, h3, h4⟩ := h
    refine ⟨h1.mono hn, h2.mono hn, by rw [ha.rn _ h2]; exact h3, ?_⟩
    rw [ha.rn _ h2, ha.v q h1, ha.v i hi, ha.b q h1]; exact h4
theorem YRel.step (h : YRel F F0 B0 σ m Y w) (k : Step K σ m w τ m1 w1) : YRel F F0 B0 τ m1 Y w1 := by
  have hfr : ∀ g, g < w.heap.size → (∀ i r, m.S.get i = some r → r.blk = true → σ.b i ≠ g) → w1.heap[g]? = w.heap[g]? := fun g hg hn => k.frame g hg fun i r hr hb he => absurd he (hn i r hr hb)
  have hno : ∀ g, g < w.heap.size → (∀ i r, m.S.get i = some r → r.blk = true → σ.b i ≠ g) → ∀ i r, m1.S.get i = some r → r.blk = true → τ.b i ≠ g := fun g hg hn i r hr hb he => by
    rcases Nat.lt_or_ge i m.nx with hlt | hge
    · obtain ⟨s, hs, hsb⟩ := k.old i r hlt hr hb
      exact hn i s hs hsb (by rw [← k.agree.b i ((k.rel.lt i r hr).low hlt)]; exact he)
    · rcases k.new i r hge hr hb with h1 | ⟨j, s, hs, hsb, hj, _⟩
      · omega
      · exact hn j s hs hsb (hj.trans he)
  refine ⟨fun g hg => ?_, fun i y hi => ?_, fun i e z o j hi hl => ?_, fun i e z o j i' e' z' o' j' hi hi' hl hl' he => ?_⟩
  · obtain ⟨h1, h2, h3⟩ := h.dom g hg
    exact ⟨Nat.lt_of_lt_of_le h1 k.goes.size, hno g h1 h2, h3⟩
  · obtain ⟨h1, h2⟩ := h.row i y hi
    refine ⟨h1.mono k.nx, h2.keep h1 k.agree k.nx (fun g j v hg hv => by rw [cell_heap (hfr g (h.dom g hg).1 (h.dom g hg).2.1)]; exact hv) fun ho hl => ?_⟩
    cases y <;> first | (cases ho; done) | skip
    obtain ⟨h3, _, _, h4⟩ := h.od i _ _ _ _ hi hl
    exact hfr _ h3 h4
  · have hlt := (h.row i _ hi).1
    obtain ⟨h3, h4, h5, h6⟩ := h.od i e z o j hi ((live_agree k.agree hlt).1 hl)
    rw [k.agree.b i hlt]
    exact ⟨Nat.lt_of_lt_of_le h3 k.goes.size, h4, h5, hno _ h3 h6⟩
  · have hlt := (h.row i _ hi).1
    have hlt' := (h.row i' _ hi').1
    rw [k.agree.b i hlt, k.agree.b i' hlt'] at he
    exact h.odi i e z o j i' e' z' o' j' hi hi' ((live_agree k.agree hlt).1 hl) ((live_agree k.agree hlt').1 hl') he
theorem YAg.agree (h : YAg ρ σ i y) (hi : Lt i n) (ha : Agree n σ τ) (hk : YOk F B0 σ n w i y) : YAg ρ τ i y := by
  cases y with
  | int => exact (ha.rn i hi).trans h
  | bool => exact (ha.rt i hi).trans h
  | kb b => exact (ha.rt i hi).trans h
  | str => exact (ha.rs i hi).trans h
  | fz o c j => exact (ha.rd j hk.1).trans h
  | od e z o j => exact (ha.rd j hk.1).trans h
  | _ => trivial
/-- one more symbol -/
theorem YRel.add (h : YRel F F0 B0 σ m Y w) (hy : Lt i m.nx) (ho : y.odB = false) (hk : YOk F B0 σ m.nx w i y) : YRel F F0 B0 σ m (Y.set i y) w := by
  have key : ∀ q x, (Y.set i y).get q = some x → x.odB = true → Y.get q = some x := fun q x hq hx => by
    rw [T.get_set] at hq
    split at hq
    · cases hq; rw [ho] at hx; cases hx
    · exact hq
  refine ⟨h.dom, fun q x hq => ?_, fun q e z o j hq hl => h.od q e z o j (key q _ hq rfl) hl, fun q e z o j q' e' z' o' j' hq hq' => h.odi q e z o j q' e' z' o' j' (key q _ hq rfl) (key q' _ hq' rfl)⟩
  rw [T.get_set] at hq
  split at hq
  · rename_i he; cases hq; subst he; exact ⟨hy, hk⟩
  · exact h.row q x hq
end
end
end Go.Vc

/- Data and their shapes. -/
namespace Go.Vc
/-- kinds of cells that symbols may stand for -/
inductive Kd where
  | int (k : IntKind)
  | bool
  | str
  | sl
  | nl
/-- a datum of a kind -/
inductive DK : Kd → D → Prop
  | int (k : IntKind) (x : Int) : DK (.int k) (.raw (.int k x))
  | bool (x : Bool) : DK .bool (.raw (.bool x))
  | str (x : ByteArray) : DK .str (.raw (.string x))
  | sl (x : List (List D)) : DK .sl (.fs x)
  | nl : DK .nl (.raw (.slice none 0 0))
inductive DKs : List Kd → List D → Prop
  | nil : DKs [] []
  | cons {k : Kd} {d : D} {ks : List Kd} {ds : List D} (h : DK k d) (t : DKs ks ds) : DKs (k :: ks) (d :: ds)
/-- a value's data -/
inductive DV where
  | c (d : D)
  | a (l : List D)
/-- a value's shape: its cells' kinds, whether it is a whole of cells, whether its blocks are new -/
structure RK where
  ks : List Kd
  agg : Bool
  own : Bool
section
variable [Holes]
def RDs (F : Nat → Prop) (w : World) (ds : List D) (vs : List Value) : Prop := vs.length = ds.length ∧ ∀ (j : Nat) (d : D) (u : Value), ds[j]? = some d → vs[j]? = some u → RD F w d u
/-- a value reads as data of a shape -/
inductive RV (F : Nat → Prop) (B0 : Nat) (w : World) : RK → DV → Value → Prop
  | c (k : Kd) (own : Bool) (d : D) (v : Value) (hd : DK k d) (h : RD (Fo F B0 own) w d v) : RV F B0 w ⟨[k], false, own⟩ (.c d) v
  | a (ks : List Kd) (own : Bool) (ds : List D) (vs : List Value) (hd : DKs ks ds) (h : RDs (Fo F B0 own) w ds vs) : RV F B0 w ⟨ks, true, own⟩ (.a ds) (.agg vs.toArray)
inductive RVs (F : Nat → Prop) (B0 : Nat) (w : World) : List RK → List DV → List Value → Prop
  | nil : RVs F B0 w [] [] []
  | cons {r : RK} {d : DV} {v : Value} {rs : List RK} {ds : List DV} {vs : List Value} (h : RV F B0 w r d v) (t : RVs F B0 w rs ds vs) : RVs F B0 w (r :: rs) (d :: ds) (v :: vs)
end
section
variable [Holes]
/-- own data at a value -/
def OdV (F : Nat → Prop) (w : World) (e z : Nat) (l : List (List D)) (g : Nat) (v : Value) : Prop :=
  0 < z ∧ ∃ a c, v = .slice a l.length c ∧ ((c = 0 ∧ l = []) ∨ (a = some ⟨g, 0, none⟩ ∧ 0 < c ∧ ∃ arr, w.heap[g]? = some (.cells arr e (0, 0)) ∧ c * z ≤ arr.size ∧ l.length ≤ c ∧ Els F w z arr l))
/-- a slice that has a place -/
def liveV (v : Value) : Prop := ∃ a n c, v = .slice a n c ∧ 0 < c
/-- where own data is told: by a temporary, by a row that stays, by a cell -/
inductive Pl where
  | tmp
  | row (i : Nat)
  | cel (r j : Nat)
/-- own data that a loop turns: where it is told, its elements' type and size, whether all of it is own -/
structure OdG where
  t : Tmp
  e : Nat
  z : Nat
  own : Bool
  pl : Pl
/-- what it is: the data, the block, the value -/
structure OdX where
  l : List (List D)
  g : Nat
  v : Value
def OdFree (F : Nat → Prop) (B0 : Nat) (σ : Env) (S : T Row) (Y : T YRow) (w : World) (x : OdX) : Prop :=
  liveV x.v → x.g < w.heap.size ∧ B0 ≤ x.g ∧ ¬ F x.g ∧ (∀ q r, S.get q = some r → r.blk = true → σ.b q ≠ x.g) ∧ ∀ i e z o j, Y.get i = some (.od e z o j) → live σ i → σ.b i ≠ x.g
/-- where it is told: by a temporary; or at a number that was there -/
def OdAt (σ : Env) (tmps : Array Value) (o : OdG) (x : OdX) : Prop := match o.pl with
  | .tmp => tmps.getD o.t undef = x.v
  | .row i => σ.v i = x.v ∧ σ.b i = x.g
  | .cel _ _ => True
/-- cells that hold own data, and what they hold -/
noncomputable def ocs : List OdG → List (Nat × Nat)
  | [] => []
  | o :: os => match o.pl with
    | .cel r j => (r, j) :: ocs os
    | _ => ocs os
def celV : List OdG → List OdX → List Value
  | o :: os, x :: xs => match o.pl with
    | .cel _ _ => x.v :: celV os xs
    | _ => celV os xs
  | _, _ => []
inductive OdXs (F : Nat → Prop) (B0 : Nat) (σ : Env) (S : T Row) (Y : T YRow) (w : World) (tmps : Array Value) : List OdG → List OdX → Prop
  | nil : OdXs F B0 σ S Y w tmps [] []
  | cons {o : OdG} {x : OdX} {os : List OdG} {xs : List OdX} (h1 : OdAt σ tmps o x) (h2 : OdV (Fo F B0 o.own) w o.e o.z x.l x.g x.v) (h3 : OdFree F B0 σ S Y w x) (h4 : ∀ y ∈ xs, liveV x.v → liveV y.v → x.g ≠ y.g) (h5 : OdXs F B0 σ S Y w tmps os xs) : OdXs F B0 σ S Y w tmps (o :: os) (x :: xs)
def datX (xs : List OdX) : List DV := xs.map fun x => .c (.fs x.l)
end
end Go.Vc

/- The machine: from one state to the next, as far as nothing is open. -/
namespace Go.Vc
inductive Kt where
  | seq (c : Code)
  | block (id : Nat)
  | loop (c : Code) (h : Option Nat)
  | scope (c : Code)
  | noGoto
  | draw (all : Array Oper) (r : Nat)
inductive Cur where
  | code (c : Code)
  | ops (all : Array Oper) (l : List Oper)
  | exit (e : Exit)
  | draw (all : Array Oper) (r : Nat)
structure St where
  cur : Cur
  ks : List Kt
  tm : Tm
  m : Mem
  Y : T YRow
  nt : Nat
  key : Nat
/-- where a call began, and where the first one did -/
structure Bs where
  wB : World
  F0 : Nat → Prop
  σ0 : Env
  n0 : Nat
  wC : World
  L : Nat → Prop
  σ1 : Env
  n1 : Nat
section
variable [Holes]
/-- the world is what the memory says -/
structure Aw (K : Nat → Option (List Value)) (b : Bs) (m : Mem) (Y : T YRow) (ρ : Rho) (σ : Env) (w : World) : Prop where
  rel : Rel K σ m w
  nx : b.n0 ≤ m.nx
  agree : Agree b.n0 b.σ0 σ
  nx1 : b.n1 ≤ m.nx
  agree1 : Agree b.n1 b.σ1 σ
  base : Goes b.wB b.wC
  goes : Goes b.wC w
  frame : ∀ g, g < b.wB.heap.size → w.heap[g]? = b.wB.heap[g]?
  own : ∀ i r, m.S.get i = some r → r.blk = true → b.wB.heap.size ≤ σ.b i
  y : ∃ F, YRel F b.F0 b.wB.heap.size σ m Y w
  ag : SymAg ρ σ Y
  dfr : ∀ (g : Nat) (q : Option (List Deferred)), b.wC.heap[g]? = some (Obj.deferred q) → w.heap[g]? = some (Obj.deferred q)
  keep : ∀ i, b.L i → ∃ s, m.S.get i = some s ∧ s.isLoop = true
  klow : ∀ g l, K g = some l → g < b.wB.heap.size
structure At (K : Nat → Option (List Value)) (b : Bs) (s : St) (ρ : Rho) (σ : Env) (a : Act) (w : World) : Prop where
  aw : Aw K b s.m s.Y ρ σ w
  tm : TmOk σ s.m.nx a.tmps s.tm
  nt : a.tmps.size = s.nt
  mks : MarksOk b.wC.heap.size a w
/-- the round's loop was there when the call began -/
def RoundB (b : Bs) (F : Fence) : Prop := ∀ g, F.round = some g → ∃ i, b.L i ∧ Lt i b.n0 ∧ b.σ0.b i = g
variable {K : Nat → Option (List Value)} {b : Bs} {s s' : St} {ρ : Rho} {σ τ : Env} {a : Act} {m m1 : Mem} {Y : T YRow} {w w1 : World}
theorem Aw.size (h : Aw K b m Y ρ σ w) : b.wB.heap.size ≤ w.heap.size := Nat.le_trans h.base.size h.goes.size
theorem Aw.step (h : Aw K b m Y ρ σ w) (k : Step K σ m w τ m1 w1) : Aw K b m1 Y ρ τ w1 where
  rel := k.rel
  nx := Nat.le_trans h.nx k.nx
  agree := h.agree.trans h.nx k.agree
  nx1 := Nat.le_trans h.nx1 k.nx
  agree1 := h.agree1.trans h.nx1 k.agree
  base := h.base
  goes := h.goes.trans k.goes
  frame g hg := by
    rw [k.frame g (Nat.lt_of_lt_of_le hg h.size) (fun i r hi hb he => by have := h.own i r hi hb; omega), h.frame g hg]
  own i r hi hb := by
    rcases Nat.lt_or_ge i m.nx with hlt | hge
    · obtain ⟨q, hq, hqb⟩ := k.old i r hlt hi hb
      rw [k.agree.b i (h.rel.lt i q hq)]
      exact h.own i q hq hqb
    · rcases k.new i r hge hi hb with h1 | ⟨j, q, h1, h2, h3, _⟩
      · exact Nat.le_trans h.size h1
      · rw [← h3]; exact h.own j q h1 h2
  y := by
    obtain ⟨F, hF⟩ := h.y
    exact ⟨F, hF.step k⟩
  ag i y hi := by
    obtain ⟨F, hF⟩ := h.y
    exact (h.ag i y hi).agree (hF.row i y hi).1 k.agree (hF.row i y hi).2
  dfr g q hg := k.other h.rel (h.dfr g q hg) (fun _ _ _ => by simp) (fun _ => by simp) (fun _ _ => by simp)
  keep i hi := by
    obtain ⟨s, h1, h2⟩ := h.keep i hi
    exact k.keep i s h1 h2
  klow := h.klow
theorem At.step (h : At K b s ρ σ a w) (k : Step K σ s.m w τ m1 w1) {a' : Act} {tm' : Tm} (ht : TmOk τ m1.nx a'.tmps tm') (hs : a'.tmps.size = s.nt) (hd : a'.defers = a.defers) (cur' : Cur) (ks' : List Kt) :
    At K b ⟨cur', ks', tm', m1, s.Y, s.nt, s.key⟩ ρ τ a' w1 where
  aw := h.aw.step k
  tm := ht
  nt := hs
  mks := by
    obtain ⟨rs, q1, q2, q3⟩ := h.mks.step h.aw.rel k (tmps := a.tmps)
    exact ⟨rs, by rw [hd]; exact q1, q2, q3⟩
theorem At.move (h : At K b s ρ σ a w) (hm : s'.m = s.m) (hY : s'.Y = s.Y) (ht : s'.tm = s.tm) (hn : s'.nt = s.nt) : At K b s' ρ σ a w := by
  obtain ⟨cur, ks, tm, m, Y, nt, key⟩ := s
  obtain ⟨cur', ks', tm', m', Y', nt', key'⟩ := s'
  cases hm; cases hY; cases ht; cases hn
  exact ⟨h.aw, h.tm, h.nt, h.mks⟩
end
/-- a loop's head, as it is told -/
structure LC where
  mB : Mem
  YB : T YRow
  keep : List (Tmp × W)
  gens : List Tmp
  cells : List (Nat × Nat)
  rks : List RK
  ods : List OdG
  nt : Nat
  ρ : Rho
  inv : Rho → List DV → Prop
  mu : Rho → List DV → Nat
  k : Nat
/-- cells told otherwise -/
noncomputable def set1C (S : T Row) (p : Nat × Nat) (c : C) : T Row := match S.get p.1 with
  | some (.cells e k t) => S.set p.1 (.cells e k (t.set p.2 c))
  | _ => S
noncomputable def setsC (S : T Row) : List (Nat × Nat) → List C → T Row
  | p :: l, c :: cs => setsC (set1C S p c) l cs
  | _, _ => S
def mapN (tmps : Array Value) (l : List Tmp) : List Value := l.map fun t => tmps.getD t undef
/-- what is to stay from a loop's head on, below a number at most -/
def Bs.lim (b : Bs) (n : Nat) : Bs := ⟨b.wB, b.F0, b.σ0, b.n0, b.wC, b.L, b.σ1, Nat.min b.n1 n⟩
/-- all rows that a row names have numbers below n -/
def RowLt [Holes] (n : Nat) : Row → Prop
  | .cells _ k cs => ∀ (j : Nat) (c : C), j < k → cs.get j = some c → C.lt n c
  | .fn _ a b => (∀ x ∈ a, W.lt n x) ∧ ∀ x ∈ b, W.lt n x
  | .val x => V.lt n x
  | .loop _ _ _ tm _ _ _ => ∀ t, (tm.get t).lt n
  | _ => True
def YLt [Holes] (n : Nat) : YRow → Prop
  | .fp _ cs => ∀ (j : Nat) (c : C), cs[j]? = some c → C.lt n c
  | .od _ _ _ j => Lt j n
  | .fz _ _ j => Lt j n
  | .ep q x _ => Lt q n ∧ Lt x n
  | .ov q x _ => Lt q n ∧ Lt x n
  | _ => True
/-- what was told at a loop's head is told still -/
structure Link [Holes] (b : Bs) (lc : LC) : Prop where
  nx : lc.mB.nx ≤ b.n1
  n0 : b.n0 ≤ lc.mB.nx
  ag : SymAg lc.ρ b.σ1 lc.YB
  ylt : ∀ i y, lc.YB.get i = some y → Lt i lc.mB.nx ∧ YLt lc.mB.nx y
  rlt : ∀ i r, lc.mB.S.get i = some r → Lt i lc.mB.nx ∧ RowLt lc.mB.nx r
  klt : ∀ p ∈ lc.keep, p.2.lt lc.mB.nx
  loops : ∀ i, b.L i → ∃ s, lc.mB.S.get i = some s ∧ s.isLoop = true
  fresh : ∀ i, lc.mB.nx ≤ i → ¬ Holes.h i
noncomputable def headM (lc : LC) (us : List Value) (xs : List OdX) : Mem := ⟨setsC lc.mB.S (lc.cells ++ ocs lc.ods) ((us ++ celV lc.ods xs).map .raw), lc.mB.nx, lc.mB.lo⟩
/-- a loop's head: what was told at first is so, the invariant holds, and the measure is below -/
def HeadAt [Holes] (K : Nat → Option (List Value)) (b : Bs) (lc : LC) (a : Act) (w : World) : Prop :=
  ∃ (σ : Env) (F : Nat → Prop) (us : List Value) (ds : List DV) (xs : List OdX), us.length = lc.cells.length ∧ Aw K (b.lim lc.mB.nx) (headM lc us xs) lc.YB lc.ρ σ w ∧ YRel F b.F0 b.wB.heap.size σ (headM lc us xs) lc.YB w ∧
    RVs F b.wB.heap.size w lc.rks ds (mapN a.tmps lc.gens ++ us) ∧ (∀ p ∈ lc.keep, a.tmps.getD p.1 undef = realW σ p.2 ∧ p.2.lt lc.mB.nx) ∧ a.tmps.size = lc.nt ∧ MarksOk b.wC.heap.size a w ∧ OdXs F b.wB.heap.size σ (headM lc us xs).S lc.YB w a.tmps lc.ods xs ∧ lc.inv lc.ρ (ds ++ datX xs) ∧ lc.mu lc.ρ (ds ++ datX xs) < lc.k
/-- what is to hold at the end, and at loops' heads -/
structure Qs where
  q : Exit → Act → World → Prop
  Λ : Nat → Act → World → Prop
  np : ∀ c a w, ¬ q (.panic c) a w
structure Post where
  q : Exit → Tm → Mem → T YRow → Rho → Prop
  L : List (Nat × LC)
def QOk [Holes] (K : Nat → Option (List Value)) (b : Bs) (nt : Nat) (Q : Post) (Qw : Qs) : Prop :=
  (∀ e tm m Y ρ' key σ a w, Q.q e tm m Y ρ' → At K b ⟨.exit e, [], tm, m, Y, nt, key⟩ ρ' σ a w → Qw.q e a w) ∧ ∀ p ∈ Q.L, Link b p.2 ∧ ∀ a w, HeadAt K b p.2 a w → Qw.Λ p.1 a w
/-- the rest of a region that draws, in any order -/
def drawAt (F : Fence) (n : Nat) (P : Program) (all : Array Oper) (r : Nat) (Q : Exit → Act → World → Prop) (a : Act) (w : World) : Prop :=
  ∀ (fuel : Nat) (listed : Array Bool), listed.size = all.size → (∀ k, listed.getD k false = decide (k < r)) → all.size ≤ fuel + r → wpAnyIn F n P .any all Q fuel listed a w
/-- what follows -/
def after (F : Fence) (n : Nat) (P : Program) (Q : Qs) : List Kt → Exit → Act → World → Prop
  | [] => Q.q
  | .seq b :: ks => Exit.then (b.wpIn F n P (after F n P Q ks)) (after F n P Q ks)
  | .block id :: ks => Exit.inBlock id (after F n P Q ks)
  | .loop c none :: ks => Exit.then (LoopAt F n P c (after F n P Q ks)) (after F n P Q ks)
  | .loop _ (some j) :: ks => Exit.then (Q.Λ j) (after F n P Q ks)
  | .scope c :: ks => ScopeQ F n P c (after F n P Q ks)
  | .noGoto :: ks => Exit.noGoto (after F n P Q ks)
  | .draw all r :: ks => Exit.then (drawAt F n P all r (after F n P Q ks)) (after F n P Q ks)
theorem after_np (F : Fence) (n : Nat) (P : Program) (Q : Qs) (c : List PanicEntry) (a : Act) (w : World) : ∀ ks, ¬ after F n P Q ks (.panic c) a w
  | [] => Q.np c a w
  | .seq b :: ks => after_np F n P Q c a w ks
  | .block id :: ks => after_np F n P Q c a w ks
  | .loop d none :: ks => after_np F n P Q c a w ks
  | .loop _ (some j) :: ks => after_np F n P Q c a w ks
  | .scope d :: ks => after_np F n P Q c a w ks
  | .noGoto :: ks => after_np F n P Q c a w ks
  | .draw all r :: ks => after_np F n P Q c a w ks
theorem wpIn_monoQ {F : Fence} {n : Nat} {P : Program} {c : Code} {a : Act} {w : World} {Q Q' : Exit → Act → World → Prop} (h : c.wpIn F n P Q' a w) (hq : ∀ e a w, Q' e a w → Q e a w) : c.wpIn F n P Q a w := fun b k cs h1 h2 h3 =>
  let ⟨e, a', w', q, arr⟩ := h b k cs h1 h2 h3
  ⟨e, a', w', hq _ _ _ q, arr⟩
def den (F : Fence) (n : Nat) (P : Program) (Q : Qs) (ks : List Kt) : Cur → Act → World → Prop
  | .code c => c.wpIn F n P (after F n P Q ks)
  | .ops all l => wpListIn F n P all (after F n P Q ks) l
  | .exit e => after F n P Q ks e
  | .draw all r => drawAt F n P all r (after F n P Q ks)
noncomputable def St.to (s : St) (cur : Cur) (ks : List Kt) : St := ⟨cur, ks, s.tm, s.m, s.Y, s.nt, s.key⟩
/-- behind an operation -/
noncomputable def putS (s : St) (all : Array Oper) (o : Oper) (l : List Oper) (r : R1) : Option St := match putR s.nt s.tm o.dst r with
  | .ok tm m => some ⟨.ops all l, s.ks, tm, m, s.Y, s.nt, s.key⟩
  | .no => none
noncomputable def exitS (s : St) (e : Exit) : List Kt → Option St
  | [] => none
  | .seq b :: ks => match e with
    | .normal => some (s.to (.code b) ks)
    | e => some (s.to (.exit e) ks)
  | .block id :: ks => match e with
    | .exit i => some (s.to (.exit (bif Nat.beq i id then .normal else .exit i)) ks)
    | e => some (s.to (.exit e) ks)
  | .loop c h :: ks => match e, h with
    | .normal, none => some (s.to (.code c) (.loop c none :: ks))
    | .normal, some _ => none
    | e, _ => some (s.to (.exit e) ks)
  | .scope c :: ks => match e with
    | .goto l => match findLabel c l with
      | some rest => some (s.to (.code rest) (.noGoto :: ks))
      | none => some (s.to (.exit (.goto l)) ks)
    | e => some (s.to (.exit e) ks)
  | .noGoto :: ks => match e with
    | .goto _ => none
    | e => some (s.to (.exit e) ks)
  | .draw all r :: ks => match e with
    | .normal => some (s.to (.draw all r) ks)
    | e => some (s.to (.exit e) ks)
noncomputable def stepS (P : Program) (K : Nat → Option (List Value)) (s : St) : Option St := match s.cur with
  | .code .skip | .code (.label _) => some (s.to (.exit .normal) s.ks)
  | .code (.exit id) => some (s.to (.exit (.exit id)) s.ks)
  | .code (.goto l) => some (s.to (.exit (.goto l)) s.ks)
  | .code .ret => some (s.to (.exit .ret) s.ks)
  | .code (.seq a b) => some (s.to (.code a) (.seq b :: s.ks))
  | .code (.cond c x y) => match ev s.tm c with
    | .v (.c (.raw (.bool c))) => some (s.to (.code (bif c then x else y)) s.ks)
    | _ => none
  | .code (.block id c) => some (s.to (.code c) (.block id :: s.ks))
  | .code (.loop c) => some (s.to (.code c) (.loop c none :: s.ks))
  | .code (.scope c) => some (s.to (.code c) (.scope c :: s.ks))
  | .code (.region _ ops false) => some (s.to (.ops ops ops.toList) s.ks)
  | .code _ => none
  | .ops _ [] => some (s.to (.exit .normal) s.ks)
  | .ops all (o :: l) => bif openB all s.tm o then none else match wantW all s.tm o with
    | true => putS s all o l (opW P K o.op o.type s.tm s.m)
    | false => putS s all o l (.ok undefW s.m)
  | .exit e => exitS s e s.ks
  | .draw .. => none
/-- FROM A STATE ON, Q HOLDS AT THE END -/
def Sx [H : Holes] (P : Program) (K : Nat → Option (List Value)) (s : St) (ρ : Rho) (Q : Post) : Prop :=
  ∀ (F : Fence), WF F → ∀ (n : Nat) (b : Bs), RoundB b F → ∀ (Qw : Qs), QOk K b s.nt Q Qw →
    ∀ σ a w, At K b s ρ σ a w → den F n P Qw s.ks s.cur a w
/-- an operation does this -/
def OpOk (P : Program) (K : Nat → Option (List Value)) (o : Oper) (tm : Tm) (m : Mem) (x : W) (m1 : Mem) : Prop :=
  ∀ (HH : Holes) (F : Fence), WF F → ∀ (σ : Env) (a : Act) (w : World) (Φ : Value → World → Prop), @Rel HH K σ m w → @TmOk HH σ m.nx a.tmps tm →
    (∀ τ w', @Step HH K σ m w τ m1 w' → @W.lt HH m1.nx x → Φ (realW τ x) w') → Und F P Φ ((execOp a.eval o).run P w)
section
variable [H : Holes] {P : Program} {K : Nat → Option (List Value)} {s s' : St} {ρ : Rho} {Q : Post}
theorem opOk {o : Oper} {tm : Tm} {m m1 : Mem} {x : W} (ho : opW P K o.op o.type tm m = .ok x m1) : OpOk P K o tm m x m1 := fun HH F _ σ a w Φ hR hT hΦ => @op_und HH P K σ m m1 w F Φ o a tm x ho hR hT hΦ
/-- what only turns the road -/
theorem sx_same (hm : s'.m = s.m) (hY : s'.Y = s.Y) (ht : s'.tm = s.tm) (hn : s'.nt = s.nt) (h : ∀ F n Qw a w, den F n P Qw s'.ks s'.cur a w → den F n P Qw s.ks s.cur a w) (k : Sx P K s' ρ Q) : Sx P K s ρ Q := by
  intro F hF n b hB Qw hQ σ a w hA
  exact h F n Qw a w (k F hF n b hB Qw (by rw [hn]; exact hQ) σ a w (hA.move hm hY ht hn))
/-- an operation that is wanted: what it does, and what then -/
theorem sx_und {all : Array Oper} {o : Oper} {l : List Oper} (hc : s.cur = .ops all (o :: l)) (ho : openB all s.tm o = false) (hw : wantW all s.tm o = true) (hnd : ∀ c, o.op ≠ .defer c)
    (h : ∀ (F : Fence), WF F → ∀ (n : Nat) (b : Bs), RoundB b F → ∀ (Qw : Qs), QOk K b s.nt Q Qw →
      ∀ σ a w, At K b s ρ σ a w → Und F P (fun v w' => den F n P Qw s.ks (.ops all l) (a.put o.dst v) w') ((execOp a.eval o).run P w)) : Sx P K s ρ Q := by
  intro F hF n b hB Qw hQ σ a w hA
  rw [hc]
  show wpListIn F n P all (after F n P Qw s.ks) (o :: l) a w
  refine wpListIn_step fun KK hK => ?_
  rw [want_ok hA.tm all o ho, hw]
  refine und_in hF hnd ?_
  have := h F hF n b hB Qw hQ σ a w hA
  revert this
  cases hr : (execOp a.eval o).run P w with
  | halt => exact fun h => h
  | ok x w' =>
    cases x with
    | value v => exact fun h => hK _ _ h
    | skip => exact fun h => hK _ _ h
    | enter f args => exact fun h n' => (h n').mono fun e w2 ⟨v, hv, h2⟩ => ⟨v, hv, hK _ _ h2⟩
    | round q f tmps assign body => exact fun h n' => (h n').mono fun e w2 ⟨v, hv, h2⟩ => ⟨v, hv, hK _ _ h2⟩
    | _ => exact fun h => h
/-- an operation that is known -/
theorem sx_op {all : Array Oper} {o : Oper} {l : List Oper} {x : W} {m1 : Mem} (hc : s.cur = .ops all (o :: l)) (hop : openB all s.tm o = false) (hw : wantW all s.tm o = true) (hnd : ∀ c, o.op ≠ .defer c) (ho : OpOk P K o s.tm s.m x m1)
    (hp : putS s all o l (.ok x m1) = some s') (k : Sx P K s' ρ Q) : Sx P K s ρ Q := by
  refine sx_und hc hop hw hnd fun F hF n b hB Qw hQ σ a w hA => ?_
  unfold putS at hp
  cases hput : putR s.nt s.tm o.dst (.ok x m1) with
  | no => rw [hput] at hp; cases hp
  | ok tm m2 =>
    rw [hput] at hp
    cases hp
    obtain ⟨x', hx, hpk⟩ := putR_ok hput
    cases hx
    refine ho _ F hF σ a w _ hA.aw.rel hA.tm fun τ w' kk hxl => ?_
    exact k F hF n b hB Qw hQ τ _ w' (hA.step kk (hpk τ m1.nx a (hA.tm.agree kk.agree kk.nx) hA.nt hxl) (by rw [put_size]; exact hA.nt) (put_defers _ _ _) _ _)
theorem sx_skip {all : Array Oper} {o : Oper} {l : List Oper} (hc : s.cur = .ops all (o :: l)) (hop : openB all s.tm o = false) (hw : wantW all s.tm o = false) (hp : putS s all o l (.ok undefW s.m) = some s') (k : Sx P K s' ρ Q) : Sx P K s ρ Q := by
  intro F hF n b hB Qw hQ σ a w hA
  rw [hc]
  show wpListIn F n P all (after F n P Qw s.ks) (o :: l) a w
  refine wpListIn_step fun KK hK => ?_
  rw [want_ok hA.tm all o hop, hw]
  unfold putS at hp
  cases hput : putR s.nt s.tm o.dst (.ok undefW s.m) with
  | no => rw [hput] at hp; cases hp
  | ok tm m2 =>
    rw [hput] at hp
    cases hp
    obtain ⟨x', hx, hpk⟩ := putR_ok hput
    cases hx
    refine ⟨fun f _ => hF.fn f, hK _ _ ?_⟩
    exact k F hF n b hB Qw hQ σ _ w (hA.step (Step.refl hA.aw.rel) (hpk σ s.m.nx a hA.tm hA.nt (undefW_lt _)) (by rw [put_size]; exact hA.nt) (put_defers _ _ _) _ _)
end
end Go.Vc

namespace Go.Vc
section
variable [H : Holes] {P : Program} {K : Nat → Option (List Value)} {s s' : St} {ρ : Rho} {Q : Post}
theorem exitS_ok {e : Exit} (hc : s.cur = .exit e) (h : exitS s e s.ks = some s') (k : Sx P K s' ρ Q) : Sx P K s ρ Q := by
  have key : (∃ cur ks, s' = s.to cur ks) ∧ ∀ F n Qw a w, den F n P Qw s'.ks s'.cur a w → after F n P Qw s.ks e a w := by
    revert h
    cases hks : s.ks with
    | nil => intro h; cases h
    | cons x ks =>
      cases x with
      | seq b => cases e <;> (intro h; cases h; exact ⟨⟨_, _, rfl⟩, fun F n Qw a w h => h⟩)
      | block id =>
        cases e with
        | exit i =>
          intro h; cases h
          refine ⟨⟨_, _, rfl⟩, fun F n Qw a w h => ?_⟩
          show Exit.inBlock id (after F n P Qw ks) (.exit i) a w
          cases hi : Nat.beq i id with
          | true =>
            have hi' := Nat.eq_of_beq_eq_true hi
            rw [hi] at h
            simp only [Exit.inBlock, hi', if_true]
            exact h
          | false =>
            have hi' : ¬ i = id := fun e => by rw [e, Nat.beq_refl] at hi; cases hi
            rw [hi] at h
            simp only [Exit.inBlock, hi', if_false]
            exact h
        | _ => intro h; cases h; exact ⟨⟨_, _, rfl⟩, fun F n Qw a w h => h⟩
      | loop c q =>
        cases e with
        | normal =>
          cases q with
          | none => intro h; cases h; exact ⟨⟨_, _, rfl⟩, fun F n Qw a w h => loopAt_step h⟩
          | some j => intro h; cases h
        | _ => cases q <;> (intro h; cases h; exact ⟨⟨_, _, rfl⟩, fun F n Qw a w h => h⟩)
      | scope c =>
        cases e with
        | goto l =>
          intro h
          unfold exitS at h
          simp only at h
          split at h
          · rename_i rest hl
            cases h
            refine ⟨⟨_, _, rfl⟩, fun F n Qw a w h => ?_⟩
            show ScopeQ F n P c (after F n P Qw ks) (.goto l) a w
            simp only [ScopeQ, hl]
            exact h
          · rename_i hl
            cases h
            refine ⟨⟨_, _, rfl⟩, fun F n Qw a w h => ?_⟩
            show ScopeQ F n P c (after F n P Qw ks) (.goto l) a w
            simp only [ScopeQ, hl]
            exact h
        | _ => intro h; cases h; exact ⟨⟨_, _, rfl⟩, fun F n Qw a w h => h⟩
      | noGoto =>
        cases e with
        | goto l => intro h; cases h
        | _ => intro h; cases h; exact ⟨⟨_, _, rfl⟩, fun F n Qw a w h => h⟩
      | draw all r => cases e <;> (intro h; cases h; exact ⟨⟨_, _, rfl⟩, fun F n Qw a w h => h⟩)
  obtain ⟨⟨cur, ks, rfl⟩, key⟩ := key
  refine sx_same (s' := s.to cur ks) rfl rfl rfl rfl (fun F n Qw a w h => ?_) k
  rw [hc]
  exact key F n Qw a w h
/-- one test -/
theorem sx_cond {c : Operand} {x y : Code} (b : Bool) (hc : s.cur = .code (.cond c x y)) (hb : ev s.tm c = .v (.c (.raw (.bool b)))) (k : Sx P K (s.to (.code (bif b then x else y)) s.ks) ρ Q) : Sx P K s ρ Q := by
  intro F hF n bs hB Qw hQ σ a w hA
  rw [hc]
  have hv : a.eval c = .bool b := by rw [(hA.tm.ev a.defers c).1, hb]; rfl
  refine wpIn_cond hv ?_
  have := k F hF n bs hB Qw hQ σ a w (hA.move rfl rfl rfl rfl)
  cases b <;> exact this
theorem sx_by (k : Sx P K s' ρ Q) (hm : s'.m = s.m) (hY : s'.Y = s.Y) (ht : s'.tm = s.tm) (hn : s'.nt = s.nt) (h : ∀ F n Qw a w, den F n P Qw s'.ks s'.cur a w → den F n P Qw s.ks s.cur a w) : Sx P K s ρ Q := sx_same hm hY ht hn h k
theorem sx_step (h : stepS P K s = some s') (k : Sx P K s' ρ Q) : Sx P K s ρ Q := by
  obtain ⟨cur, ks, tm, m, Y, nt, key⟩ := s
  cases cur with
  | exit e => exact exitS_ok rfl h k
  | draw all r => cases h
  | ops all l =>
    cases l with
    | nil => cases h; exact sx_by k rfl rfl rfl rfl (fun F n Qw a w h => h)
    | cons o l =>
      unfold stepS at h
      simp only at h
      rw [cond_eq_ite] at h
      split at h
      · cases h
      rename_i hop
      have hop : openB all tm o = false := by simpa using hop
      split at h
      · rename_i hw
        cases ho : opW P K o.op o.type tm m with
        | no => rw [ho] at h; cases h
        | ok x m1 => rw [ho] at h; exact sx_op rfl hop hw (fun c hc => by rw [hc] at ho; cases ho) (opOk ho) h k
      · rename_i hw
        exact sx_skip rfl hop hw h k
  | code c =>
    cases c with
    | skip => cases h; exact sx_by k rfl rfl rfl rfl (fun F n Qw a w h => wpIn_skip h)
    | label l => cases h; exact sx_by k rfl rfl rfl rfl (fun F n Qw a w h => wpIn_label h)
    | exit id => cases h; exact sx_by k rfl rfl rfl rfl (fun F n Qw a w h => wpIn_exit h)
    | goto l => cases h; exact sx_by k rfl rfl rfl rfl (fun F n Qw a w h => wpIn_goto h)
    | ret => cases h; exact sx_by k rfl rfl rfl rfl (fun F n Qw a w h => wpIn_ret h)
    | seq x y => cases h; exact sx_by k rfl rfl rfl rfl (fun F n Qw a w h => wpIn_seq h)
    | cond c x y =>
      unfold stepS at h
      simp only at h
      split at h
      · rename_i b hb
        cases h
        exact sx_cond b rfl hb k
      · cases h
    | block id x => cases h; exact sx_by k rfl rfl rfl rfl (fun F n Qw a w h => wpIn_block h)
    | loop x => cases h; exact sx_by k rfl rfl rfl rfl (fun F n Qw a w h => wpIn_loopAt (loopAt_step h))
    | scope x => cases h; exact sx_by k rfl rfl rfl rfl (fun F n Qw a w h => wpIn_scopeQ h)
    | region id ops d =>
      cases d with
      | false => cases h; exact sx_by k rfl rfl rfl rfl (fun F n Qw a w h => wpIn_region_list h)
      | true => cases h
    | refuse why => cases h
    | rangeFunc f ps a b => cases h
/-- the end -/
theorem sx_end {e : Exit} (hc : s.cur = .exit e) (hk : s.ks = []) (h : Q.q e s.tm s.m s.Y ρ) : Sx P K s ρ Q := by
  intro F hF n b hB Qw hQ σ a w hA
  rw [hc, hk]
  exact hQ.1 e s.tm s.m s.Y ρ s.key σ a w h (hA.move rfl rfl rfl rfl)
theorem Sx.mono {Q' : Post} (h : Sx P K s ρ Q) (hq : ∀ e tm m Y ρ, Q.q e tm m Y ρ → Q'.q e tm m Y ρ) (hL : Q.L = Q'.L) : Sx P K s ρ Q' := by
  intro F hF n b hB Qw hQ
  exact h F hF n b hB Qw ⟨fun e tm m Y ρ' key σ a w hqq => hQ.1 e tm m Y ρ' key σ a w (hq _ _ _ _ _ hqq), by rw [hL]; exact hQ.2⟩
end
end Go.Vc

/- A function's body: from its walk to its calls; calls that are walked in. -/
namespace Go.Vc
/-- the function that is called, and all its arguments -/
noncomputable def calleeW (m : Mem) (f : W) (args : List W) : Option (FuncId × List W) := match f with
  | .v (.c (.raw (.func (.func f) a b))) => bif a.isEmpty && b.isEmpty then some (f, args) else none
  | .v (.c (.clo i)) => match m.S.get i with
    | some (.fn (.func f) first caps) => some (f, first ++ args ++ caps)
    | _ => none
  | _ => none
theorem callee_run {H : Holes} {K : Nat → Option (List Value)} {P : Program} {σ : Env} {m : Mem} {w : World} {f : W} {args gs : List W} {g : FuncId} (hr : calleeW m f args = some (g, gs)) (h : @Rel H K σ m w) (hl : ∀ y ∈ args, @W.lt H m.nx y) :
    ∃ d, (Deferred.ofValue (realW σ f) (args.map (realW σ)).toArray).run P w = .ok d w ∧ (invoke d.target d.args).run P w = (callFunc g (gs.map (realW σ)).toArray).run P w ∧ ∀ y ∈ gs, @W.lt H m.nx y := by
  unfold calleeW at hr
  split at hr
  · rename_i g' a b
    obtain ⟨he, hr⟩ := cond_some hr
    cases hr
    simp only [Bool.and_eq_true, Array.isEmpty_iff] at he
    obtain ⟨rfl, rfl⟩ := he
    refine ⟨_, rfl, ?_, hl⟩
    show (callFunc g (#[] ++ (args.map (realW σ)).toArray ++ #[])).run P w = _
    simp
  · rename_i i
    split at hr
    · rename_i g' first caps hrow
      cases hr
      obtain ⟨h1, h2, h3⟩ := @Rel.row H _ _ _ _ h i _ hrow
      have hv : realW σ (.v (.c (.clo i))) = .func (.func g) (first.map (realW σ)).toArray (caps.map (realW σ)).toArray := by simp only [realW, realV, realC, h1]
      rw [hv]
      refine ⟨_, rfl, ?_, fun y hy => ?_⟩
      · show (callFunc g ((first.map (realW σ)).toArray ++ (args.map (realW σ)).toArray ++ (caps.map (realW σ)).toArray)).run P w = _
        simp
      · simp only [List.mem_append] at hy
        rcases hy with (hy | hy) | hy
        · exact h2 y hy
        · exact hl y hy
        · exact h3 y hy
    · cases hr
  · cases hr
section
variable [Holes]
variable {P : Program} {K : Nat → Option (List Value)} {σ τ : Env} {m m1 : Mem} {w w1 : World} {F : Fence}
theorem tmpsW_get : ∀ (l : List W) (i : Nat) (t : Tm) (j : Nat), (tmpsW i l t).get j = if i ≤ j ∧ j < i + l.length then (l[j - i]?).getD undefW else t.get j
  | [], i, t, j => by simp only [tmpsW, List.length_nil, Nat.add_zero]; rw [if_neg (by omega)]
  | x :: l, i, t, j => by
    rw [tmpsW, tmpsW_get l (i + 1), Tm.get_set]
    by_cases h : i + 1 ≤ j ∧ j < i + 1 + l.length
    · rw [if_pos h, if_pos (by simp; omega), show j - i = (j - (i + 1)) + 1 by omega, List.getElem?_cons_succ]
    · rw [if_neg h]
      by_cases h1 : i = j
      · subst h1; rw [if_pos rfl, if_pos (by simp)]; simp
      · rw [if_neg h1, if_neg (by simp; omega)]
noncomputable def tm0 : Tm := ⟨[], fun _ => undef⟩
theorem args_ok {args : List W} {n nt : Nat} (hl : ∀ a ∈ args, W.lt n a) (hn : args.length ≤ nt) :
    TmOk σ n ((args.map (realW σ)).toArray ++ Array.replicate (nt - (args.map (realW σ)).toArray.size) undef) (tmpsW 0 args tm0) ∧ ((args.map (realW σ)).toArray ++ Array.replicate (nt - (args.map (realW σ)).toArray.size) undef).size = nt := by
  have hsz : ((args.map (realW σ)).toArray ++ Array.replicate (nt - (args.map (realW σ)).toArray.size) undef).size = nt := by simp; omega
  refine ⟨⟨fun t => ?_, fun t => ?_⟩, hsz⟩
  · rw [tmpsW_get, Array.getD_eq_getD_getElem?]
    by_cases h : t < args.length
    · rw [if_pos (by omega), Array.getElem?_append_left (by simpa using h)]
      simp [h]
    · rw [if_neg (by omega), Array.getElem?_append_right (by simp; omega)]
      show _ = undef
      rw [Array.getElem?_replicate]
      split <;> rfl
  · rw [tmpsW_get]
    split
    · rename_i h
      cases hx : args[t - 0]? with
      | none => exact undefW_lt _
      | some x => exact hl x (List.mem_of_getElem? hx)
    · exact trivial
/-- one result -/
def resS (tmps : Array Value) : ResultVar → Sem Value
  | .tmp t => pure (tmps.getD t undef)
  | .cell a t => do loadVar t (← asAddr (tmps.getD a undef))
theorem ret_ok (h : Rel K σ m w) {tmps : Array Value} {tm : Tm} (hT : TmOk σ m.nx tmps tm) : ∀ (rs : List ResultVar) (l : List V), retW P K m tm rs = some l →
    (rs.mapM (resS tmps)).run P w = .ok (l.map (realV σ)) w ∧ ∀ x ∈ l, V.lt m.nx x
  | [], l, hr => by cases hr; exact ⟨rfl, fun x hx => by cases hx⟩
  | .tmp t :: rs, l, hr => by
    have hr' : (match tm.get t, retW P K m tm rs with | .v x, some l => some (x :: l) | _, _ => none) = some l := hr
    split at hr'
    · rename_i x l' hx hl
      cases hr'
      obtain ⟨h1, h2⟩ := ret_ok h hT rs l' hl
      have hv1 := hT.get t
      have hv2 := hT.lt t
      rw [hx] at hv1 hv2
      refine ⟨?_, fun y hy => ?_⟩
      · have hres : (resS tmps (.tmp t)).run P w = .ok (realV σ x) w := by
          show (pure (tmps.getD t undef) : Sem Value).run P w = _
          rw [hv1]; rfl
        simp only [List.mapM_cons, Sem.run_bind, hres, Sem.run_pure, Result.andThen_ok, h1, List.map_cons]
      · rcases List.mem_cons.1 hy with rfl | hy
        · exact hv2
        · exact h2 y hy
    · cases hr'
  | .cell a t :: rs, l, hr => by
    have hr' : (match loadW P K m t (tm.get a), retW P K m tm rs with | some (.v x), some l => some (x :: l) | _, _ => none) = some l := hr
    split at hr'
    · rename_i x l' hx hl
      cases hr'
      obtain ⟨h1, h2⟩ := ret_ok h hT rs l' hl
      obtain ⟨l1, l2⟩ := load_ok (P := P) h hx (hT.lt a)
      have hv1 : tmps.getD a undef = realW σ (tm.get a) := hT.get a
      refine ⟨?_, fun y hy => ?_⟩
      · rw [← hv1] at l1
        have hla : (resS tmps (.cell a t)).run P w = .ok (realV σ x) w := by
          show (do loadVar t (← asAddr (tmps.getD a undef)) : Sem Value).run P w = .ok (realV σ x) w
          revert l1
          cases tmps.getD a undef with
          | pointer p => cases p <;> intro l1 <;> first | exact l1 | (simp [Instr.loadAt, Instr.sureAddr, stuck] at l1)
          | _ => intro l1; simp [Instr.loadAt, Instr.sureAddr, stuck] at l1
        simp only [List.mapM_cons, Sem.run_bind, hla, Sem.run_pure, Result.andThen_ok, h1, List.map_cons]
      · rcases List.mem_cons.1 hy with rfl | hy
        · exact l2
        · exact h2 y hy
    · cases hr'
theorem results_ok (h : Rel K σ m w) {fn : Func} {tmps : Array Value} {tm : Tm} (hT : TmOk σ m.nx tmps tm) {l : List V} (hr : retW P K m tm fn.results.toList = some l) :
    (results fn tmps).run P w = .ok (realW σ (ret1 l)) w ∧ W.lt m.nx (ret1 l) := by
  obtain ⟨h1, h2⟩ := ret_ok (P := P) h hT fn.results.toList l hr
  constructor
  · have hfun : results fn tmps = (do
        let vs ← fn.results.mapM (resS tmps)
        pure (if h : vs.size = 1 then vs[0] else .tuple vs)) := by
      unfold results
      congr 1
    rw [hfun, Array.mapM_eq_mapM_toList, map_eq_pure_bind]
    simp only [Sem.run_bind, h1, Result.andThen_ok, Sem.run_pure]
    congr 1
    match l with
    | [] => rfl
    | [x] => rfl
    | x :: y :: l => simp [ret1, realW]
  · match l with
    | [] => exact fun x hx => by cases hx
    | [x] => exact h2 x (by simp)
    | x :: y :: l => exact h2
end
section
variable [Holes] {P : Program} {K : Nat → Option (List Value)} {b : Bs} {σ τ : Env} {m m1 : Mem} {Y Y1 : T YRow} {ρ ρ1 : Rho} {w w1 : World} {F : Fence}
theorem aw_mark (k : Aw K b m Y ρ σ w) {g : Nat} {o : Obj} {q : Option (List Deferred)} (hg0 : b.wC.heap.size ≤ g) (hq : w.heap[g]? = some (.deferred q)) : Aw K b m Y ρ σ (w.putObj g o) := by
  have krel := k.rel
  have hne : ∀ i s, m.S.get i = some s → s.blk = true → σ.b i ≠ g := fun i s hs hsb he => by
    have := krel.row i s hs
    cases s with
    | cells e q' cs => obtain ⟨arr, a1, _⟩ := this; rw [he, hq] at a1; cases a1
    | loop st p nt tm ps ca cb => obtain ⟨fn, tmps, df, _, _, _, a4⟩ := this; rw [he, hq] at a4; cases a4
    | map k es c => have this : w.heap[σ.b i]? = _ := this; rw [he, hq] at this; cases this
    | _ => cases hsb
  have hg : Goes w (w.putObj g o) := ⟨rfl, rfl, rfl, by simp [World.putObj]⟩
  have hcell : ∀ (g' j : Nat) (v : Value), w.cell? ⟨g', j, none⟩ = some v → (w.putObj g o).cell? ⟨g', j, none⟩ = some v := fun g' j v h1 => by
    have hgb : g' ≠ g := fun he => by
      subst he
      rw [World.cell?, hq] at h1
      cases h1
    rw [← h1]
    exact cell_heap (World.putObj_heap_other hgb) j
  obtain ⟨G, hG⟩ := k.y
  refine ⟨⟨fun i s hs => (krel.row i s hs).keep (Agree.refl _ _) (krel.lt i s hs) (Nat.le_refl _) (fun hsb => World.putObj_heap_other (hne i s hs hsb)), krel.lt, krel.inj, fun g' l hg' j v hv => hcell g' j v (krel.known g' l hg' j v hv), krel.apart, fun g' l hg' => Nat.lt_of_lt_of_le (krel.low g' l hg') hg.size, krel.fresh⟩,
    k.nx, k.agree, k.nx1, k.agree1, k.base, k.goes.trans hg, fun c hc => ?_, k.own, ⟨G, fun g' hg' => ⟨Nat.lt_of_lt_of_le (hG.dom g' hg').1 hg.size, (hG.dom g' hg').2⟩, fun i y hi => ⟨(hG.row i y hi).1, (hG.row i y hi).2.keep (hG.row i y hi).1 (Agree.refl _ _) (Nat.le_refl _) (fun g' j v _ hv => hcell g' j v hv) fun ho hl => ?_⟩,
      fun i e z o j hi hl => ⟨Nat.lt_of_lt_of_le (hG.od i e z o j hi hl).1 hg.size, (hG.od i e z o j hi hl).2⟩, hG.odi⟩, k.ag, fun c q' hc => ?_, k.keep, k.klow⟩
  · have := k.base.size
    rw [World.putObj_heap_other (by omega)]
    exact k.frame c hc
  · cases y <;> first | (cases ho; done) | skip
    refine World.putObj_heap_other fun he => ?_
    obtain ⟨_, _, a, c, h3, h4⟩ := (hG.row i _ hi).2
    obtain ⟨a', n', c', hl, hl'⟩ := hl
    rcases h4 with ⟨rfl, _⟩ | ⟨_, _, arr, h6, _⟩
    · rw [h3] at hl; cases hl; omega
    · rw [he, hq] at h6; cases h6
  · have := heap_lt hc
    rw [World.putObj_heap_other (by omega)]
    exact k.dfr c q' hc
/-- the marks are taken, the results handed on -/
theorem leave_ok {n : Nat} {fn : Func} {tm : Tm} {l : List V} {Rr : Ending → World → Prop} (hr : retW P K m tm fn.results.toList = some l) {tmps : Array Value}
    (hR : ∀ w', Aw K b m Y ρ σ w' → Rr (.returned (realW σ (ret1 l))) w') : ∀ (rs : List Nat) (w1 : World), Aw K b m Y ρ σ w1 → TmOk σ m.nx tmps tm → rs.Nodup → (∀ r ∈ rs, b.wC.heap.size ≤ r ∧ w1.heap[r]? = some (.deferred (some []))) →
    LeavesInM F n P fn tmps Rr (rs.map fun r => ({ target := .collected r, args := #[] } : Deferred)) .returning w1
  | [], w1, k, hT, _, _ => ⟨_, (results_ok k.rel hT hr).1, hR w1 k⟩
  | r :: rs, w1, k, hT, hn, hm => by
    obtain ⟨h1, h2⟩ := hm r List.mem_cons_self
    refine ⟨by simp, .inl ⟨r, _, rfl, run_takeDeferred (P := P) h2, ?_⟩⟩
    refine leave_ok hr hR rs _ (aw_mark k h1 h2) hT (List.nodup_cons.1 hn).2 (fun r' hr' => ⟨(hm r' (List.mem_cons_of_mem _ hr')).1, ?_⟩)
    rw [World.putObj_heap_other (fun e => (List.nodup_cons.1 hn).1 (by rw [← e]; exact hr'))]
    exact (hm r' (List.mem_cons_of_mem _ hr')).2
/-- a call's beginning -/
def Bs.into (b : Bs) (σ : Env) (m : Mem) (w : World) : Bs := ⟨b.wB, b.F0, σ, m.nx, w, fun i => ∃ s, m.S.get i = some s ∧ s.isLoop = true, σ, 0⟩
theorem Aw.into (h : Aw K b m Y ρ σ w) : Aw K (b.into σ m w) m Y ρ σ w :=
  ⟨h.rel, Nat.le_refl _, Agree.refl _ _, Nat.zero_le _, Agree.refl _ _, h.base.trans h.goes, Goes.refl w, h.frame, h.own, h.y, h.ag, fun _ _ h => h, fun _ h => h, h.klow⟩
/-- back from a call -/
theorem Aw.back (h : Aw K b m Y ρ σ w) (k : Aw K (b.into σ m w) m1 Y1 ρ1 τ w1) : Aw K b m1 Y1 ρ1 τ w1 :=
  ⟨k.rel, Nat.le_trans h.nx k.nx, h.agree.trans h.nx k.agree, Nat.le_trans h.nx1 k.nx, h.agree1.trans h.nx1 k.agree, h.base, h.goes.trans k.goes, k.frame, k.own, k.y, k.ag, fun g q hg => k.dfr g q (h.dfr g q hg), fun i hi => k.keep i (h.keep i hi), k.klow⟩
theorem At.back {s : St} {a a' : Act} (h : At K b s ρ σ a w) (k : Aw K (b.into σ s.m w) m1 Y1 ρ1 τ w1) {tm' : Tm} (ht : TmOk τ m1.nx a'.tmps tm') (hs : a'.tmps.size = s.nt) (hd : a'.defers = a.defers) (cur' : Cur) (ks' : List Kt) :
    At K b ⟨cur', ks', tm', m1, Y1, s.nt, s.key⟩ ρ1 τ a' w1 where
  aw := h.aw.back k
  tm := ht
  nt := hs
  mks := by
    obtain ⟨rs, q1, q2, q3⟩ := h.mks
    exact ⟨rs, by rw [hd]; exact q1, q2, fun r hr => ⟨(q3 r hr).1, k.dfr r _ (q3 r hr).2⟩⟩
end
/-- what a body's end may be -/
def Ends (P : Program) (K : Nat → Option (List Value)) (fn : Func) (R : W → Mem → T YRow → Rho → Prop) : Post := ⟨fun e tm m Y ρ => (e = .normal ∨ e = .ret) ∧ ∃ l, retW P K m tm fn.results.toList = some l ∧ R (ret1 l) m Y ρ, []⟩
noncomputable def startS (c : Code) (nt key : Nat) (args : List W) (m : Mem) (Y : T YRow) : St := ⟨.code c, [], tmpsW 0 args tm0, m, Y, nt, key⟩
/-- FROM A BODY's WALK TO ITS CALLS -/
theorem calls_of_sx [H : Holes] {P : Program} {K : Nat → Option (List Value)} {f : FuncId} {fn : Func} {c : Code} {key : Nat} {args : List W} {m : Mem} {Y : T YRow} {ρ : Rho} {R : W → Mem → T YRow → Rho → Prop} (hf : P.funcs[f]? = some fn) (hbody : fn.body = some c) (hle : args.length ≤ fn.ntmps)
    (hs : Sx P K (startS c fn.ntmps key args m Y) ρ (Ends P K fn R)) {F : Fence} (hF : WF F) (n : Nat) {b : Bs} {σ : Env} {w : World} (hA : Aw K b m Y ρ σ w) (hl : ∀ x ∈ args, W.lt m.nx x) :
    CallsIn F n P f (args.map (realW σ)).toArray w fun e w' => ∃ (τ : Env) (x : W) (m' : Mem) (Y' : T YRow) (ρ' : Rho), R x m' Y' ρ' ∧ e = .returned (realW τ x) ∧ Aw K (b.into σ m w) m' Y' ρ' τ w' ∧ x.lt m'.nx := by
  obtain ⟨hT, hsz⟩ := args_ok (σ := σ) hl hle
  have hFp : WF F.plain := ⟨hF.fn, hF.depth, hF.alive⟩
  have key : CallsIn F.plain n P f (args.map (realW σ)).toArray w fun e w' => ∃ (τ : Env) (x : W) (m' : Mem) (Y' : T YRow) (ρ' : Rho), R x m' Y' ρ' ∧ e = .returned (realW τ x) ∧ Aw K (b.into σ m w) m' Y' ρ' τ w' ∧ x.lt m'.nx := by
    refine callsIn_of_wp_marks hf hbody (hF.fn f) ?_ rfl
    refine wpIn_monoQ (Q' := fun e a w => (e = .normal ∨ e = .ret) ∧ _) (hs F.plain hFp n (b.into σ m w) (fun g hg => by cases hg) ⟨fun e a w => (e = .normal ∨ e = .ret) ∧ _, fun _ _ _ => False, fun c a w h => by rcases h.1 with h | h <;> cases h⟩ ⟨?_, fun p hp => by cases hp⟩ σ _ w ⟨hA.into, hT, hsz, ⟨[], rfl, List.nodup_nil, fun r hr => by cases hr⟩⟩) fun e a w h => h.2
    rintro e tm m' Y' ρ' key' τ a w1 ⟨he, l, hret, hR⟩ hA1
    refine ⟨he, ?_⟩
    obtain ⟨rs, q1, q2, q3⟩ := hA1.mks
    have := leave_ok (F := F.plain) (n := n) (fn := fn) (Rr := fun e w' => ∃ (τ : Env) (x : W) (m' : Mem) (Y' : T YRow) (ρ' : Rho), R x m' Y' ρ' ∧ e = .returned (realW τ x) ∧ Aw K (b.into σ m w) m' Y' ρ' τ w' ∧ x.lt m'.nx) hret (tmps := a.tmps)
      (fun w' k' => ⟨τ, _, m', Y', ρ', hR, rfl, k', (results_ok hA1.aw.rel hA1.tm hret).2⟩) rs w1 hA1.aw hA1.tm q2 q3
    rw [← q1] at this
    rcases he with rfl | rfl <;> exact this
  exact key
section
variable [H : Holes] {P : Program} {K : Nat → Option (List Value)} {s : St} {ρ : Rho} {Q : Post}
/-- a call that is walked in -/
theorem sx_inline {all : Array Oper} {o : Oper} {l : List Oper} {c : Call} {g : Operand} {f : FuncId} {gs : List W} {fn : Func} {body : Code} {key : Nat} (hc : s.cur = .ops all (o :: l)) (hop : openB all s.tm o = false) (hw : wantW all s.tm o = true)
    (ho : o.op = .call c) (hg : c.callee = .value g) (hf : calleeW s.m (ev s.tm g) (c.args.toList.map (ev s.tm)) = some (f, gs)) (hfn : P.funcs[f]? = some fn) (hname : (fn.name == "runtime.NumGoroutine") = false) (hbody : fn.body = some body) (hle : gs.length ≤ fn.ntmps)
    (k : Sx P K (startS body fn.ntmps key gs s.m s.Y) ρ (Ends P K fn fun x m' Y' ρ' => ∃ s', putS ⟨s.cur, s.ks, s.tm, m', Y', s.nt, s.key⟩ all o l (.ok x m') = some s' ∧ Sx P K s' ρ' Q)) : Sx P K s ρ Q := by
  refine sx_und hc hop hw (fun c' hc' => by rw [hc'] at ho; cases ho) fun F hF n b hB Qw hQ σ a w hA => ?_
  unfold execOp
  simp only [ho]
  unfold resolve
  rw [evs_map hA.tm c.args]
  simp only [hg, (hA.tm.ev a.defers g).1]
  obtain ⟨d, h1, h2, h3⟩ := callee_run (P := P) hf hA.aw.rel (evs_lt hA.tm c.args)
  show Und F P _ ((do let d ← Deferred.ofValue (realW σ (ev s.tm g)) ((c.args.toList.map (ev s.tm)).map (realW σ)).toArray; invoke d.target d.args : Sem Next).run P w)
  rw [Sem.run_bind, h1, Result.andThen_ok, h2, callFunc_run ⟨fn, hfn, hname, by rw [hbody]; rfl⟩]
  intro n'
  refine (calls_of_sx hfn hbody hle k hF n' hA.aw h3).mono ?_
  rintro e w' ⟨τ, x, m', Y', ρ', ⟨s', hp, ks⟩, rfl, hAw, hx⟩
  refine ⟨_, rfl, ?_⟩
  unfold putS at hp
  cases hput : putR s.nt s.tm o.dst (.ok x m') with
  | no => rw [hput] at hp; cases hp
  | ok tm m2 =>
    rw [hput] at hp
    cases hp
    obtain ⟨x', hx', hpk⟩ := putR_ok hput
    cases hx'
    exact ks F hF n b hB Qw hQ τ _ w' (hA.back hAw (hpk τ m'.nx a (hA.tm.agree hAw.agree hAw.nx) hA.nt hx) (by rw [put_size]; exact hA.nt) (put_defers _ _ _) _ _)
end
end Go.Vc
