
import Derived.Test.YtneooimijbfmgaaGreatCrAK
set_option linter.unusedVariables false
set_option linter.unusedSimpArgs false
set_option linter.unusedSectionVars false
/- Other holes, other bounds. -/
namespace Go.Vc
/-- a statement that the machine leaves alone -/
structure Ob (p : Prop) : Prop where
  out : p
theorem ob_iff {p : Prop} : Ob p ↔ p := ⟨fun h => h.out, fun h => ⟨h⟩⟩
/-- where the machine stops -/
inductive Stuck {α : Type} (why : Nat) (x : α) : Prop
section
variable {σ τ : Env} {n n1 n2 : Nat} {w w1 : World}
theorem C.lt.move {H1 H2 : Holes} {c : C} (h : @C.lt H1 n1 c) (k : ∀ q, @Lt H1 q n1 → @Lt H2 q n2) : @C.lt H2 n2 c := by
  cases c <;> first | trivial | exact k _ h
theorem V.lt.move {H1 H2 : Holes} {x : V} (h : @V.lt H1 n1 x) (k : ∀ q, @Lt H1 q n1 → @Lt H2 q n2) : @V.lt H2 n2 x := by
  cases x with
  | c x => exact C.lt.move (c := x) h k
  | a cs => exact fun x hx => C.lt.move (h x hx) k
theorem W.lt.move {H1 H2 : Holes} {x : W} (h : @W.lt H1 n1 x) (k : ∀ q, @Lt H1 q n1 → @Lt H2 q n2) : @W.lt H2 n2 x := by
  cases x with
  | v x => exact V.lt.move (x := x) h k
  | t l => exact fun x hx => V.lt.move (h x hx) k
theorem Agree.move {H1 H2 : Holes} (h : @Agree H1 n1 σ τ) (k : ∀ q, @Lt H2 q n2 → @Lt H1 q n1) : @Agree H2 n2 σ τ :=
  @Agree.mk H2 n2 σ τ (fun i hi => @Agree.b H1 _ _ _ h i (k i hi)) (fun i hi => @Agree.o H1 _ _ _ h i (k i hi)) (fun i hi => @Agree.k H1 _ _ _ h i (k i hi)) (fun i hi => @Agree.v H1 _ _ _ h i (k i hi))
    (fun i hi => @Agree.rn H1 _ _ _ h i (k i hi)) (fun i hi => @Agree.rt H1 _ _ _ h i (k i hi)) (fun i hi => @Agree.rs H1 _ _ _ h i (k i hi)) (fun i hi => @Agree.rd H1 _ _ _ h i (k i hi))
theorem TmOk.move {H1 H2 : Holes} {tmps : Array Value} {tm : Tm} (h : @TmOk H1 σ n1 tmps tm) (ag : @Agree H1 n1 σ τ) (k : ∀ q, @Lt H1 q n1 → @Lt H2 q n2) : @TmOk H2 τ n2 tmps tm :=
  let h' := @TmOk.agree H1 σ τ n1 n1 tmps tm h ag (Nat.le_refl _)
  @TmOk.mk H2 τ n2 tmps tm (@TmOk.get H1 _ _ _ _ h') (fun t => W.lt.move (@TmOk.lt H1 _ _ _ _ h' t) k)
theorem RowOk.move {H1 H2 : Holes} {i : Nat} {r : Row} (h : @RowOk H1 σ n1 w i r) (ag : @Agree H1 n1 σ τ) (hi : @Lt H1 i n1) (k : ∀ q, @Lt H1 q n1 → @Lt H2 q n2) (hb : r.blk = true → w1.heap[σ.b i]? = w.heap[σ.b i]?) : @RowOk H2 τ n2 w1 i r := by
  have h' := @RowOk.keep H1 σ τ w w1 n1 n1 i r h ag hi (Nat.le_refl _) hb
  cases r with
  | cells e q cs =>
    obtain ⟨arr, h1, h2, h3, h4⟩ := h'
    refine ⟨arr, h1, h2, h3, fun j hj => ?_⟩
    obtain ⟨c, hc, hl, ha⟩ := h4 j hj
    exact ⟨c, hc, C.lt.move hl k, ha⟩
  | fn f first caps =>
    obtain ⟨h1, h2, h3⟩ := h'
    exact ⟨h1, fun x hx => W.lt.move (h2 x hx) k, fun x hx => W.lt.move (h3 x hx) k⟩
  | val x => exact ⟨h'.1, V.lt.move h'.2 k⟩
  | loop st p nt tm ps a b =>
    obtain ⟨fn, tmps, df, h1, h2, h3, h4⟩ := h'
    exact ⟨fn, tmps, df, h1, h2, TmOk.move h3 (@Agree.refl H1 n1 τ) k, h4⟩
  | dead => trivial
  | map k es c => exact h'
theorem YOk.move {H1 H2 : Holes} {F G : Nat → Prop} {B0 i : Nat} {y : YRow} (h : @YOk H1 F B0 σ n1 w i y) (ag : @Agree H1 n1 σ τ) (hi : @Lt H1 i n1) (k : ∀ q, @Lt H1 q n1 → @Lt H2 q n2) (hG : ∀ g, F g → G g) (hc : ∀ g j v, F g → w.cell? ⟨g, j, none⟩ = some v → w1.cell? ⟨g, j, none⟩ = some v) (ho : y.odB = true → live σ i → w1.heap[σ.b i]? = w.heap[σ.b i]?) : @YOk H2 G B0 τ n2 w1 i y := by
  have h' := @YOk.more H1 F G B0 τ w1 n1 i y hG (@YOk.keep H1 F B0 σ τ w w1 n1 n1 i y h hi ag (Nat.le_refl _) hc ho)
  cases y with
  | int => trivial
  | bool => trivial
  | str => trivial
  | dead => trivial
  | kb b => exact h'
  | fz own c j => exact ⟨k _ h'.1, h'.2⟩
  | fp own cs => exact ⟨h'.1, fun j c hj => ⟨C.lt.move (h'.2 j c hj).1 k, (h'.2 j c hj).2⟩⟩
  | od e z own j => exact ⟨k _ h'.1, h'.2⟩
  | ep q x z => exact ⟨k _ h'.1, k _ h'.2.1, h'.2.2⟩
  | ov q x z => exact ⟨k _ h'.1, k _ h'.2.1, h'.2.2⟩
/-- the named rows and symbols lie below -/
theorem YAg.move {H1 : Holes} {F : Nat → Prop} {B0 i : Nat} {y : YRow} {ρ ρ' : Rho} (h : YAg ρ σ i y) (hk : @YOk H1 F B0 σ n1 w i y) (ag : @Agree H1 n1 σ τ) (hi : @Lt H1 i n1) (hr : ∀ j, j < n1 → ρ'.n j = ρ.n j ∧ ρ'.t j = ρ.t j ∧ ρ'.s j = ρ.s j ∧ ρ'.d j = ρ.d j) : YAg ρ' τ i y := by
  have h' := @YAg.agree H1 F B0 σ τ w ρ n1 i y h hi ag hk
  have hl := @Lt.lt H1 _ _ hi
  cases y with
  | int => exact h'.trans (hr i hl).1.symm
  | bool => exact h'.trans (hr i hl).2.1.symm
  | kb b => exact h'.trans (hr i hl).2.1.symm
  | str => exact h'.trans (hr i hl).2.2.1.symm
  | fz o c j => exact h'.trans (hr j (@Lt.lt H1 _ _ hk.1)).2.2.2.symm
  | od e z o j => exact h'.trans (hr j (@Lt.lt H1 _ _ hk.1)).2.2.2.symm
  | _ => trivial
end
end Go.Vc

/- Regions that draw: operations that only add. What holds when some of them are done. -/
namespace Go.Vc
/-- an operation that only adds: rows and symbols with new numbers, and what it comes to -/
def OpY (P : Program) (K : Nat → Option (List Value)) (o : Oper) (tm : Tm) (V : T Row) (nx : Nat) (U : T YRow) (ρ : Rho) (x : W) (V' : T Row) (nx' : Nat) (U' : T YRow) (ρ' : Rho) : Prop :=
  ∀ (HH : Holes) (F : Fence), WF F → ∀ (b : Bs) (G : Nat → Prop) (σ : Env) (a : Act) (w : World) (Φ : Value → World → Prop), @Aw HH K b ⟨V, nx, nx⟩ U ρ σ w → @YRel HH G b.F0 b.wB.heap.size σ ⟨V, nx, nx⟩ U w → @TmOk HH σ nx a.tmps tm →
    (∀ τ w' G', @Agree HH nx σ τ → Goes w w' → (∀ g, g < w.heap.size → w'.heap[g]? = w.heap[g]?) → (∀ i r, nx ≤ i → V'.get i = some r → r.blk = true → w.heap.size ≤ τ.b i) → @Aw HH K b ⟨V', nx', nx⟩ U' ρ' τ w' →
      @YRel HH G' b.F0 b.wB.heap.size τ ⟨V', nx', nx⟩ U' w' → (∀ g, G g → G' g) → (∀ g, G' g → G g ∨ w.heap.size ≤ g) → @W.lt HH nx' x → Φ (realW τ x) w') → Und F P Φ ((execOp a.eval o).run P w)
/-- j waits for k -/
inductive Wt (ops : Array Oper) : Nat → Nat → Prop
  | one {j : Nat} {o : Oper} {e : Edge} (ho : ops[j]? = some o) (he : e ∈ o.after) (hb : Region.binds .any e = true) : Wt ops j e.on
  | more {j k : Nat} {o : Oper} {e : Edge} (ho : ops[j]? = some o) (he : e ∈ o.after) (hb : Region.binds .any e = true) (t : Wt ops e.on k) : Wt ops j k
/-- the operations of a region, one by one, in the text's order -/
structure RunY (P : Program) (K : Nat → Option (List Value)) (nt : Nat) (ops : Array Oper) (p : Nat) (o : Nat → Oper) (nx : Nat → Nat) (S : T Row) (Y : T YRow) (ρ : Nat → Rho) (tm : Nat → Tm) (did : Nat → Bool) (x : Nat → W) (V V' : Nat → T Row) (U U' : Nat → T YRow) (vis : Nat → Nat → Prop) (tv : Nat → Tm) : Prop where
  op : ∀ k, k < p → ops[k]? = some (o k)
  mono : ∀ k, k < p → nx k ≤ nx (k + 1)
  rho : ∀ k, k < p → RhoEq (nx k) (ρ k) (ρ (k + 1))
  put : ∀ k, k < p → ∀ d, (o k).dst = some d → d < nt ∧ tm (k + 1) = (tm k).set d (x k)
  same : ∀ k, k < p → (o k).dst = none → tm (k + 1) = tm k
  skip : ∀ k, k < p → did k = false → x k = undefW ∧ nx (k + 1) = nx k
  run : ∀ k, k < p → did k = true → OpY P K (o k) (tv k) (V k) (nx k) (U k) (ρ k) (x k) (V' k) (nx (k + 1)) (U' k) (ρ (k + 1))
  seen : ∀ k, k < p → ∀ i, vis k i → i < nx k ∧ (i < nx 0 ∨ ∃ j, j < k ∧ Wt ops k j ∧ nx j ≤ i ∧ i < nx (j + 1))
  subV : ∀ k, k < p → ∀ i r, (V k).get i = some r → vis k i ∧ S.get i = some r
  subU : ∀ k, k < p → ∀ i r, (U k).get i = some r → vis k i ∧ Y.get i = some r
  newV : ∀ k, k < p → did k = true → ∀ i r, nx k ≤ i → i < nx (k + 1) → S.get i = some r → (V' k).get i = some r
  newU : ∀ k, k < p → did k = true → ∀ i r, nx k ≤ i → i < nx (k + 1) → Y.get i = some r → (U' k).get i = some r
  nod : ∀ i y, nx 0 ≤ i → Y.get i = some y → y.odB = false
  nlp : ∀ i r, S.get i = some r → i < nx p
  nly : ∀ i r, Y.get i = some r → i < nx p
section
variable {P : Program} {K : Nat → Option (List Value)} {nt p : Nat} {ops : Array Oper} {o : Nat → Oper} {nx : Nat → Nat} {S : T Row} {Y : T YRow} {ρ : Nat → Rho} {tm : Nat → Tm} {did : Nat → Bool} {x : Nat → W} {V V' : Nat → T Row} {U U' : Nat → T YRow} {vis : Nat → Nat → Prop} {tv : Nat → Tm}
theorem RunY.le (h : RunY P K nt ops p o nx S Y ρ tm did x V V' U U' vis tv) {i : Nat} : ∀ {j : Nat}, i ≤ j → j ≤ p → nx i ≤ nx j
  | 0, hi, _ => by rw [Nat.le_zero.1 hi]; exact Nat.le_refl _
  | j + 1, hi, hj => by
    rcases Nat.lt_or_ge i (j + 1) with hl | hl
    · exact Nat.le_trans (h.le (by omega : i ≤ j) (by omega)) (h.mono j hj)
    · rw [show i = j + 1 by omega]; exact Nat.le_refl _
theorem RhoEq.trans {n n' : Nat} {a b c : Rho} (h : RhoEq n a b) (hn : n ≤ n') (k : RhoEq n' b c) : RhoEq n a c :=
  ⟨fun j hj => (k.rn j (Nat.lt_of_lt_of_le hj hn)).trans (h.rn j hj), fun j hj => (k.rt j (Nat.lt_of_lt_of_le hj hn)).trans (h.rt j hj), fun j hj => (k.rs j (Nat.lt_of_lt_of_le hj hn)).trans (h.rs j hj), fun j hj => (k.rd j (Nat.lt_of_lt_of_le hj hn)).trans (h.rd j hj)⟩
theorem RunY.req (h : RunY P K nt ops p o nx S Y ρ tm did x V V' U U' vis tv) {i : Nat} : ∀ {j : Nat}, i ≤ j → j ≤ p → RhoEq (nx i) (ρ i) (ρ j)
  | 0, hi, _ => by rw [Nat.le_zero.1 hi]; exact RhoEq.refl _ _
  | j + 1, hi, hj => by
    rcases Nat.lt_or_ge i (j + 1) with hl | hl
    · exact (h.req (by omega : i ≤ j) (by omega)).trans (h.le (by omega : i ≤ j) (by omega)) (h.rho j hj)
    · rw [show i = j + 1 by omega]; exact RhoEq.refl _ _
/-- each new number has one operation -/
theorem RunY.uniq (h : RunY P K nt ops p o nx S Y ρ tm did x V V' U U' vis tv) {i k j : Nat} (hk : k < p) (hj : j < p) (h1 : nx k ≤ i) (h2 : i < nx (k + 1)) (h3 : nx j ≤ i) (h4 : i < nx (j + 1)) : k = j := by
  rcases Nat.lt_trichotomy k j with hl | he | hl
  · have := h.le (show k + 1 ≤ j from hl) (by omega); omega
  · exact he
  · have := h.le (show j + 1 ≤ k from hl) (by omega); omega
end
/-- the holes: those before, and the numbers of the undone -/
abbrev holY (H : Holes) (nx : Nat → Nat) (p : Nat) (D : Nat → Bool) : Holes := ⟨fun q => H.h q ∨ ∃ k, k < p ∧ D k = false ∧ nx k ≤ q ∧ q < nx (k + 1)⟩
abbrev belowY (H : Holes) (n : Nat) : Holes := ⟨fun q => q < n ∧ H.h q⟩
/-- temporaries by what is done -/
noncomputable def tmY (o : Nat → Oper) (x : Nat → W) (D : Nat → Bool) (tm0 : Tm) : Nat → Tm
  | 0 => tm0
  | k + 1 => match (o k).dst with
    | some d => bif D k then (tmY o x D tm0 k).set d (x k) else tmY o x D tm0 k
    | none => tmY o x D tm0 k
/-- what holds when D are done -/
structure InvY (H : Holes) (K : Nat → Option (List Value)) (b : Bs) (nt p : Nat) (o : Nat → Oper) (nx : Nat → Nat) (S : T Row) (Y : T YRow) (ρ : Nat → Rho) (tm0 : Tm) (x : Nat → W) (G0 : Nat → Prop) (σ0 : Env) (a0 : Act) (w0 : World) (D : Nat → Bool) (G : Nat → Prop) (σ : Env) (a : Act) (w : World) : Prop where
  ag : @Agree H (nx 0) σ0 σ
  goes : Goes w0 w
  heap : ∀ g, g < w0.heap.size → w.heap[g]? = w0.heap[g]?
  gs : ∀ g, G0 g → G g
  gn : ∀ g, G g → g < w.heap.size ∧ (G0 g ∨ w0.heap.size ≤ g)
  row : ∀ k, k < p → D k = true → ∀ i r, nx k ≤ i → i < nx (k + 1) → S.get i = some r → @RowOk (holY H nx p D) σ (nx (k + 1)) w i r ∧ (r.blk = true → w0.heap.size ≤ σ.b i ∧ ¬ G (σ.b i))
  inj : ∀ i j r s, nx 0 ≤ i → nx 0 ≤ j → @Lt (holY H nx p D) i (nx p) → @Lt (holY H nx p D) j (nx p) → S.get i = some r → S.get j = some s → r.blk = true → s.blk = true → σ.b i = σ.b j → i = j
  y : ∀ k, k < p → D k = true → ∀ i y, nx k ≤ i → i < nx (k + 1) → Y.get i = some y → @YOk (holY H nx p D) G b.wB.heap.size σ (nx (k + 1)) w i y ∧ YAg (ρ p) σ i y
  size : a.tmps.size = nt
  dfr : a.defers = a0.defers
  tget : ∀ t, a.tmps.getD t undef = realW σ ((tmY o x D tm0 p).get t)
  tlt : ∀ t, @W.lt (holY H nx p D) (nx p) ((tmY o x D tm0 p).get t)
end Go.Vc

/- What an operation sees when it may run. -/
namespace Go.Vc
/-- where the region began -/
structure BegY (H : Holes) (K : Nat → Option (List Value)) (b : Bs) (nx : Nat → Nat) (S : T Row) (Y : T YRow) (ρ : Nat → Rho) (m0 : Mem) (Y0 : T YRow) (G0 : Nat → Prop) (σ0 : Env) (w0 : World) : Prop where
  aw : @Aw H K b m0 Y0 (ρ 0) σ0 w0
  y : @YRel H G0 b.F0 b.wB.heap.size σ0 m0 Y0 w0
  hnx : m0.nx = nx 0
  hS : ∀ i, i < nx 0 → S.get i = m0.S.get i
  hY : ∀ i, i < nx 0 → Y.get i = Y0.get i
/-- j may run now -/
structure NowY (ops : Array Oper) (D : Nat → Bool) (j : Nat) : Prop where
  not : D j = false
  wait : ∀ k, Wt ops j k → D k = true
section
variable {H : Holes} {P : Program} {K : Nat → Option (List Value)} {b : Bs} {nt p : Nat} {ops : Array Oper} {o : Nat → Oper} {nx : Nat → Nat} {S : T Row} {Y : T YRow} {ρ : Nat → Rho} {tm : Nat → Tm} {did : Nat → Bool} {x : Nat → W} {V V' : Nat → T Row} {U U' : Nat → T YRow} {vis : Nat → Nat → Prop} {tv : Nat → Tm} {m0 : Mem} {Y0 : T YRow} {G0 G : Nat → Prop} {σ0 σ : Env} {w0 w : World} {a0 a : Act} {D D' : Nat → Bool} {j : Nat} {tm0 : Tm}
/-- old numbers are no holes -/
theorem BegY.out (B : BegY H K b nx S Y ρ m0 Y0 G0 σ0 w0) (h : RunY P K nt ops p o nx S Y ρ tm did x V V' U U' vis tv) {q n : Nat} (hq : @Lt H q (nx 0)) (hn : nx 0 ≤ n) : @Lt (holY H nx p D) q n :=
  @Lt.mk (holY H nx p D) _ _ (Nat.lt_of_lt_of_le (@Lt.lt H _ _ hq) hn) (fun hc => by
    rcases hc with hc | ⟨k, k1, k2, k3, k4⟩
    · exact @Lt.ok H _ _ hq hc
    · have := h.le (Nat.zero_le k) (Nat.le_of_lt k1)
      have := @Lt.lt H _ _ hq
      omega)
theorem BegY.new (B : BegY H K b nx S Y ρ m0 Y0 G0 σ0 w0) (h : RunY P K nt ops p o nx S Y ρ tm did x V V' U U' vis tv) {q k n : Nat} (hk : k < p) (hD : D k = true) (h1 : nx k ≤ q) (h2 : q < nx (k + 1)) (hn : nx (k + 1) ≤ n) : @Lt (holY H nx p D) q n :=
  @Lt.mk (holY H nx p D) _ _ (Nat.lt_of_lt_of_le h2 hn) (fun hc => by
    rcases hc with hc | ⟨i, k1, k2, k3, k4⟩
    · exact @Rel.fresh H _ _ _ _ B.aw.rel q (by rw [B.hnx]; exact Nat.le_trans (h.le (Nat.zero_le k) (Nat.le_of_lt hk)) h1) hc
    · have := h.uniq hk k1 h1 h2 k3 k4
      subst this
      rw [hD] at k2; cases k2)
/-- each number that is no hole is old, or of one that is done -/
theorem BegY.born (B : BegY H K b nx S Y ρ m0 Y0 G0 σ0 w0) (h : RunY P K nt ops p o nx S Y ρ tm did x V V' U U' vis tv) {q : Nat} (hq : @Lt (holY H nx p D) q (nx p)) : q < nx 0 ∨ ∃ k, k < p ∧ D k = true ∧ nx k ≤ q ∧ q < nx (k + 1) := by
  have key : ∀ i, i ≤ p → q < nx i → q < nx 0 ∨ ∃ k, k < p ∧ nx k ≤ q ∧ q < nx (k + 1) := fun i => by
    induction i with
    | zero => exact fun _ hl => .inl hl
    | succ i ih =>
      intro hi hl
      rcases Nat.lt_or_ge q (nx i) with hlt | hge
      · exact ih (by omega) hlt
      · exact .inr ⟨i, hi, hge, hl⟩
  rcases key p (Nat.le_refl _) (@Lt.lt (holY H nx p D) _ _ hq) with h1 | ⟨k, h1, h2, h3⟩
  · exact .inl h1
  · refine .inr ⟨k, h1, ?_, h2, h3⟩
    cases hD : D k with
    | true => rfl
    | false => exact absurd (.inr ⟨k, h1, hD, h2, h3⟩) (@Lt.ok (holY H nx p D) _ _ hq)
section
variable (B : BegY H K b nx S Y ρ m0 Y0 G0 σ0 w0) (h : RunY P K nt ops p o nx S Y ρ tm did x V V' U U' vis tv) (inv : InvY H K b nt p o nx S Y ρ tm0 x G0 σ0 a0 w0 D G σ a w)
include B h inv
/-- old rows -/
theorem InvY.rowOld {i : Nat} {r : Row} (hi : i < nx 0) (hr : S.get i = some r) : @RowOk (holY H nx p D) σ (nx 0) w i r ∧ @Lt (holY H nx p D) i (nx 0) ∧ (r.blk = true → σ.b i = σ0.b i ∧ σ.b i < w0.heap.size) := by
  rw [B.hS i hi] at hr
  have h1 := @Rel.row H _ _ _ _ B.aw.rel i r hr
  have h2 := @Rel.lt H _ _ _ _ B.aw.rel i r hr
  rw [B.hnx] at h1 h2
  refine ⟨RowOk.move h1 inv.ag h2 (fun q hq => B.out h hq (Nat.le_refl _)) (fun hb => inv.heap _ (@RowOk.blk_lt H _ _ _ _ _ h1 hb)), B.out h h2 (Nat.le_refl _), fun hb => ?_⟩
  have := @Agree.b H _ _ _ inv.ag i h2
  exact ⟨this, by rw [this]; exact @RowOk.blk_lt H _ _ _ _ _ h1 hb⟩
/-- old symbols -/
theorem InvY.yOld {i : Nat} {y : YRow} (hi : i < nx 0) (hr : Y.get i = some y) : @YOk (holY H nx p D) G b.wB.heap.size σ (nx 0) w i y ∧ @Lt (holY H nx p D) i (nx 0) ∧ YAg (ρ p) σ i y := by
  rw [B.hY i hi] at hr
  obtain ⟨h2, h1⟩ := @YRel.row H _ _ _ _ _ _ _ B.y i y hr
  have h3 := B.aw.ag i y hr
  rw [B.hnx] at h1 h2
  have hq := h.req (Nat.zero_le p) (Nat.le_refl _)
  refine ⟨YOk.move h1 inv.ag h2 (fun q hq => B.out h hq (Nat.le_refl _)) inv.gs (fun g j v hg hv => ?_) (fun ho hl => ?_), B.out h h2 (Nat.le_refl _), YAg.move h3 h1 inv.ag h2 fun j hj => ⟨hq.rn j hj, hq.rt j hj, hq.rs j hj, hq.rd j hj⟩⟩
  · rw [cell_heap (inv.heap g (B.y.dom g hg).1)]; exact hv
  · cases y <;> first | (cases ho; done) | skip
    exact inv.heap _ (B.y.od i _ _ _ _ hr hl).1
/-- all rows that lie there -/
theorem InvY.rowAll {i n : Nat} {r : Row} (hi : i < nx 0 ∧ nx 0 ≤ n ∨ ∃ k, k < p ∧ D k = true ∧ nx k ≤ i ∧ i < nx (k + 1) ∧ nx (k + 1) ≤ n) (hr : S.get i = some r) : @RowOk (holY H nx p D) σ n w i r ∧ @Lt (holY H nx p D) i n := by
  rcases hi with ⟨h1, h2⟩ | ⟨k, h1, h2, h3, h4, h5⟩
  · obtain ⟨k1, k2, _⟩ := inv.rowOld B h h1 hr
    exact ⟨@RowOk.keep (holY H nx p D) _ _ _ _ _ _ _ _ k1 (@Agree.refl (holY H nx p D) _ _) k2 h2 (fun _ => rfl), @Lt.mono (holY H nx p D) _ _ _ k2 h2⟩
  · have k2 := B.new h h1 h2 h3 h4 (Nat.le_refl _)
    exact ⟨@RowOk.keep (holY H nx p D) _ _ _ _ _ _ _ _ (inv.row k h1 h2 i r h3 h4 hr).1 (@Agree.refl (holY H nx p D) _ _) k2 h5 (fun _ => rfl), @Lt.mono (holY H nx p D) _ _ _ k2 h5⟩
theorem InvY.yAll {i n : Nat} {y : YRow} (hi : i < nx 0 ∧ nx 0 ≤ n ∨ ∃ k, k < p ∧ D k = true ∧ nx k ≤ i ∧ i < nx (k + 1) ∧ nx (k + 1) ≤ n) (hr : Y.get i = some y) : @YOk (holY H nx p D) G b.wB.heap.size σ n w i y ∧ @Lt (holY H nx p D) i n ∧ YAg (ρ p) σ i y := by
  rcases hi with ⟨h1, h2⟩ | ⟨k, h1, h2, h3, h4, h5⟩
  · obtain ⟨k1, k2, k3⟩ := inv.yOld B h h1 hr
    exact ⟨@YOk.keep (holY H nx p D) _ _ _ _ _ _ _ _ _ _ k1 k2 (@Agree.refl (holY H nx p D) _ _) h2 (fun _ _ _ _ hv => hv) (fun _ _ => rfl), @Lt.mono (holY H nx p D) _ _ _ k2 h2, k3⟩
  · have k2 := B.new h h1 h2 h3 h4 (Nat.le_refl _)
    obtain ⟨k1, k3⟩ := inv.y k h1 h2 i y h3 h4 hr
    exact ⟨@YOk.keep (holY H nx p D) _ _ _ _ _ _ _ _ _ _ k1 k2 (@Agree.refl (holY H nx p D) _ _) h5 (fun _ _ _ _ hv => hv) (fun _ _ => rfl), @Lt.mono (holY H nx p D) _ _ _ k2 h5, k3⟩
/-- blocks of rows -/
theorem InvY.blk {i : Nat} {r : Row} (hi : @Lt (holY H nx p D) i (nx p)) (hr : S.get i = some r) (hb : r.blk = true) : b.wB.heap.size ≤ σ.b i ∧ K (σ.b i) = none ∧ ¬ G (σ.b i) ∧ σ.b i < w.heap.size ∧ (∀ q e z oo jj, Y0.get q = some (.od e z oo jj) → live σ0 q → σ0.b q ≠ σ.b i) := by
  rcases B.born h hi with h1 | ⟨k, h1, h2, h3, h4⟩
  · have hr0 := hr
    rw [B.hS i h1] at hr0
    obtain ⟨k1, k2, k3⟩ := inv.rowOld B h h1 hr
    obtain ⟨k4, k5⟩ := k3 hb
    refine ⟨by rw [k4]; exact B.aw.own i r hr0 hb, by rw [k4]; exact @Rel.apart H _ _ _ _ B.aw.rel i r hr0 hb, fun hg => ?_, Nat.lt_of_lt_of_le k5 inv.goes.size, fun q e z oo jj hq hl he => ?_⟩
    · rcases (inv.gn _ hg).2 with h5 | h5
      · exact (B.y.dom _ h5).2.1 i r hr0 hb k4.symm
      · omega
    · exact (B.y.od q e z oo jj hq hl).2.2.2 i r hr0 hb (by rw [he, k4])
  · obtain ⟨k1, k2⟩ := inv.row k h1 h2 i r h3 h4 hr
    obtain ⟨k3, k4⟩ := k2 hb
    refine ⟨Nat.le_trans B.aw.size k3, ?_, k4, @RowOk.blk_lt (holY H nx p D) _ _ _ _ _ k1 hb, fun q e z oo jj hq hl he => ?_⟩
    · cases hK : K (σ.b i) with
      | none => rfl
      | some l => have := @Rel.low H _ _ _ _ B.aw.rel _ _ hK; omega
    · have := (B.y.od q e z oo jj hq hl).1
      omega
theorem InvY.injAll {i i' : Nat} {r s : Row} (hi : @Lt (holY H nx p D) i (nx p)) (hi' : @Lt (holY H nx p D) i' (nx p)) (hr : S.get i = some r) (hs : S.get i' = some s) (hrb : r.blk = true) (hsb : s.blk = true) (he : σ.b i = σ.b i') : i = i' := by
  have key : ∀ {i i' : Nat} {r s : Row}, i < nx 0 → nx 0 ≤ i' → @Lt (holY H nx p D) i' (nx p) → S.get i = some r → S.get i' = some s → r.blk = true → s.blk = true → σ.b i ≠ σ.b i' := fun {i i' r s} h1 h2 h3 hr hs hrb hsb he => by
    have k1 := ((inv.rowOld B h h1 hr).2.2 hrb).2
    rcases B.born h h3 with h4 | ⟨k, h4, h5, h6, h7⟩
    · omega
    · have := ((inv.row k h4 h5 i' s h6 h7 hs).2 hsb).1
      omega
  rcases Nat.lt_or_ge i (nx 0) with h1 | h1 <;> rcases Nat.lt_or_ge i' (nx 0) with h2 | h2
  · have k1 := ((inv.rowOld B h h1 hr).2.2 hrb).1
    have k2 := ((inv.rowOld B h h2 hs).2.2 hsb).1
    rw [B.hS i h1] at hr
    rw [B.hS i' h2] at hs
    exact @Rel.inj H _ _ _ _ B.aw.rel i i' r s hr hs hrb hsb (by rw [← k1, ← k2, he])
  · exact absurd he (key h1 h2 hi' hr hs hrb hsb)
  · exact absurd he.symm (key h2 h1 hi hs hr hsb hrb)
  · exact inv.inj i i' r s h1 h2 hi hi' hr hs hrb hsb he
end
end
end Go.Vc

/- One more operation. -/
namespace Go.Vc
theorem C.lt.both {H1 H2 H3 : Holes} {n1 n2 n3 : Nat} {c : C} (h : @C.lt H1 n1 c) (h' : @C.lt H2 n2 c) (k : ∀ q, @Lt H1 q n1 → @Lt H2 q n2 → @Lt H3 q n3) : @C.lt H3 n3 c := by
  cases c <;> first | trivial | exact k _ h h'
theorem V.lt.both {H1 H2 H3 : Holes} {n1 n2 n3 : Nat} {x : V} (h : @V.lt H1 n1 x) (h' : @V.lt H2 n2 x) (k : ∀ q, @Lt H1 q n1 → @Lt H2 q n2 → @Lt H3 q n3) : @V.lt H3 n3 x := by
  cases x with
  | c x => exact C.lt.both (c := x) h h' k
  | a cs => exact fun x hx => C.lt.both (h x hx) (h' x hx) k
theorem W.lt.both {H1 H2 H3 : Holes} {n1 n2 n3 : Nat} {x : W} (h : @W.lt H1 n1 x) (h' : @W.lt H2 n2 x) (k : ∀ q, @Lt H1 q n1 → @Lt H2 q n2 → @Lt H3 q n3) : @W.lt H3 n3 x := by
  cases x with
  | v x => exact V.lt.both (x := x) h h' k
  | t l => exact fun x hx => V.lt.both (h x hx) (h' x hx) k
theorem agree_zero {HH : Holes} {σ τ : Env} : @Agree HH 0 σ τ :=
  have f : ∀ {i : Nat} {q : Prop}, @Lt HH i 0 → q := fun hi => absurd (@Lt.lt HH _ _ hi) (Nat.not_lt_zero _)
  @Agree.mk HH 0 σ τ (fun _ hi => f hi) (fun _ hi => f hi) (fun _ hi => f hi) (fun _ hi => f hi) (fun _ hi => f hi) (fun _ hi => f hi) (fun _ hi => f hi) (fun _ hi => f hi)
/-- a base of its own -/
def Bs.own (b : Bs) : Bs := ⟨b.wB, b.F0, b.σ0, 0, b.wC, fun _ => False, b.σ1, 0⟩
section
variable {H : Holes} {P : Program} {K : Nat → Option (List Value)} {b : Bs} {nt p : Nat} {ops : Array Oper} {o : Nat → Oper} {nx : Nat → Nat} {S : T Row} {Y : T YRow} {ρ : Nat → Rho} {tm : Nat → Tm} {did : Nat → Bool} {x : Nat → W} {V V' : Nat → T Row} {U U' : Nat → T YRow} {vis : Nat → Nat → Prop} {tv : Nat → Tm} {m0 : Mem} {Y0 : T YRow} {G0 G : Nat → Prop} {σ0 σ : Env} {w0 w : World} {a0 a : Act} {D D' : Nat → Bool} {j : Nat} {tm0 : Tm}
variable (B : BegY H K b nx S Y ρ m0 Y0 G0 σ0 w0) (h : RunY P K nt ops p o nx S Y ρ tm did x V V' U U' vis tv) (inv : InvY H K b nt p o nx S Y ρ tm0 x G0 σ0 a0 w0 D G σ a w)
include B h inv
/-- old own data -/
theorem InvY.odOld {i e z oo jj : Nat} {ow : Bool} (hr : Y.get i = some (.od e z ow jj)) (hl : live σ i) (_hz : oo = 0) : Y0.get i = some (.od e z ow jj) ∧ live σ0 i ∧ σ.b i = σ0.b i ∧ @Lt H i (nx 0) := by
  have hi : i < nx 0 := by
    rcases Nat.lt_or_ge i (nx 0) with h1 | h1
    · exact h1
    · have := h.nod i _ h1 hr; cases this
  rw [B.hY i hi] at hr
  obtain ⟨h2, _⟩ := @YRel.row H _ _ _ _ _ _ _ B.y i _ hr
  rw [B.hnx] at h2
  exact ⟨hr, (@live_agree H _ _ _ _ inv.ag h2).1 hl, @Agree.b H _ _ _ inv.ag i h2, h2⟩
theorem InvY.known : ∀ g l, K g = some l → ∀ j v, l[j]? = some v → w.cell? ⟨g, j, none⟩ = some v := @known_kept H _ _ _ _ _ B.aw.rel (fun g l hg => inv.heap g (@Rel.low H _ _ _ _ B.aw.rel g l hg))
/-- what j sees -/
theorem see_now (hj : j < p) (now : NowY ops D j) : @Aw (belowY (holY H nx p D) (nx j)) K b.own ⟨V j, nx j, nx j⟩ (U j) (ρ j) σ w ∧ @YRel (belowY (holY H nx p D) (nx j)) G b.F0 b.wB.heap.size σ ⟨V j, nx j, nx j⟩ (U j) w := by
  have njp := h.le (Nat.le_of_lt hj) (Nat.le_refl p)
  have n0j := h.le (Nat.zero_le j) (Nat.le_of_lt hj)
  have cv : ∀ q, @Lt (holY H nx p D) q (nx j) → @Lt (belowY (holY H nx p D) (nx j)) q (nx j) := fun q hq => @Lt.mk (belowY (holY H nx p D) (nx j)) _ _ (@Lt.lt (holY H nx p D) _ _ hq) (fun hc => @Lt.ok (holY H nx p D) _ _ hq hc.2)
  have hv : ∀ i, vis j i → i < nx 0 ∧ nx 0 ≤ nx j ∨ ∃ k, k < p ∧ D k = true ∧ nx k ≤ i ∧ i < nx (k + 1) ∧ nx (k + 1) ≤ nx j := fun i hi => by
    obtain ⟨h1, h2 | ⟨k, h2, h3, h4, h5⟩⟩ := h.seen j hj i hi
    · exact .inl ⟨h2, n0j⟩
    · exact .inr ⟨k, by omega, now.wait k h3, h4, h5, h.le (show k + 1 ≤ j from h2) (by omega)⟩
  have rowV : ∀ i r, (V j).get i = some r → @RowOk (holY H nx p D) σ (nx j) w i r ∧ @Lt (holY H nx p D) i (nx j) ∧ S.get i = some r := fun i r hr => by
    obtain ⟨h1, h2⟩ := h.subV j hj i r hr
    obtain ⟨h3, h4⟩ := inv.rowAll B h (hv i h1) h2
    exact ⟨h3, h4, h2⟩
  have yU : ∀ i y, (U j).get i = some y → @YOk (holY H nx p D) G b.wB.heap.size σ (nx j) w i y ∧ @Lt (holY H nx p D) i (nx j) ∧ YAg (ρ p) σ i y ∧ Y.get i = some y := fun i y hr => by
    obtain ⟨h1, h2⟩ := h.subU j hj i y hr
    obtain ⟨h3, h4, h5⟩ := inv.yAll B h (hv i h1) h2
    exact ⟨h3, h4, h5, h2⟩
  have up : ∀ {i}, @Lt (holY H nx p D) i (nx j) → @Lt (holY H nx p D) i (nx p) := fun hq => @Lt.mono (holY H nx p D) _ _ _ hq njp
  have hY : @YRel (belowY (holY H nx p D) (nx j)) G b.F0 b.wB.heap.size σ ⟨V j, nx j, nx j⟩ (U j) w := by
    refine @YRel.mk (belowY (holY H nx p D) (nx j)) _ _ _ _ _ _ _ (fun g hg => ?_) (fun i y hi => ?_) (fun i e z oo jj hi hl => ?_) (fun i e z oo jj i' e' z' oo' jj' hi hi' hl hl' he => ?_)
    · obtain ⟨k1, k2⟩ := inv.gn g hg
      refine ⟨k1, fun i r hr hb he => ?_, ?_⟩
      · obtain ⟨h1, h2, h3⟩ := rowV i r hr
        exact (inv.blk B h (up h2) h3 hb).2.2.1 (he ▸ hg)
      · rcases k2 with k2 | k2
        · exact (B.y.dom g k2).2.2
        · exact .inr (Nat.le_trans B.aw.size k2)
    · obtain ⟨h1, h2, h3, h4⟩ := yU i y hi
      exact ⟨cv i h2, YOk.move h1 (@Agree.refl (holY H nx p D) _ _) h2 cv (fun _ hg => hg) (fun _ _ _ _ hv => hv) (fun _ _ => rfl)⟩
    · obtain ⟨h1, h2, h3, h4⟩ := yU i _ hi
      obtain ⟨k1, k2, k3, k4⟩ := inv.odOld B h h4 hl (rfl : 0 = 0)
      obtain ⟨q1, q2, q3, q4⟩ := B.y.od i _ _ _ _ k1 k2
      rw [k3]
      refine ⟨Nat.lt_of_lt_of_le q1 inv.goes.size, q2, fun hg => ?_, fun q r hr hb he => ?_⟩
      · rcases (inv.gn _ hg).2 with h5 | h5
        · exact q3 h5
        · omega
      · obtain ⟨h5, h6, h7⟩ := rowV q r hr
        exact (inv.blk B h (up h6) h7 hb).2.2.2.2 i _ _ _ _ k1 k2 he.symm
    · obtain ⟨h1, h2, h3, h4⟩ := yU i _ hi
      obtain ⟨k1, k2, k3, k4⟩ := inv.odOld B h h4 hl (rfl : 0 = 0)
      obtain ⟨h1', h2', h3', h4'⟩ := yU i' _ hi'
      obtain ⟨k1', k2', k3', k4'⟩ := inv.odOld B h h4' hl' (rfl : 0 = 0)
      exact B.y.odi i _ _ _ _ i' _ _ _ _ k1 k1' k2 k2' (by rw [← k3, ← k3', he])
  have hR : @Rel (belowY (holY H nx p D) (nx j)) K σ ⟨V j, nx j, nx j⟩ w := by
    refine @Rel.mk (belowY (holY H nx p D) (nx j)) _ _ _ _ (fun i r hr => ?_) (fun i r hr => ?_) (fun i i' r s hr hs hrb hsb he => ?_) (inv.known B h) (fun i r hr hb => ?_) (fun g l hg => Nat.lt_of_lt_of_le (@Rel.low H _ _ _ _ B.aw.rel g l hg) inv.goes.size) (fun i hi hc => ?_)
    · obtain ⟨h1, h2, h3⟩ := rowV i r hr
      exact RowOk.move h1 (@Agree.refl (holY H nx p D) _ _) h2 cv (fun _ => rfl)
    · obtain ⟨h1, h2, h3⟩ := rowV i r hr
      exact cv i h2
    · obtain ⟨h1, h2, h3⟩ := rowV i r hr
      obtain ⟨h1', h2', h3'⟩ := rowV i' s hs
      exact inv.injAll B h (up h2) (up h2') h3 h3' hrb hsb he
    · obtain ⟨h1, h2, h3⟩ := rowV i r hr
      exact (inv.blk B h (up h2) h3 hb).2.1
    · have : nx j ≤ i := hi
      have := hc.1
      omega
  refine ⟨@Aw.mk (belowY (holY H nx p D) (nx j)) _ _ _ _ _ _ _ hR (Nat.zero_le _) agree_zero (Nat.zero_le _) agree_zero B.aw.base (B.aw.goes.trans inv.goes) (fun g hg => ?_) (fun i r hr hb => ?_) ⟨G, hY⟩ (fun i y hi => ?_) (fun g q hg => ?_) (fun i hi => hi.elim) B.aw.klow, hY⟩
  · have hg : g < b.wB.heap.size := hg
    rw [inv.heap g (Nat.lt_of_lt_of_le hg B.aw.size)]
    exact B.aw.frame g hg
  · obtain ⟨h1, h2, h3⟩ := rowV i r hr
    exact (inv.blk B h (up h2) h3 hb).1
  · obtain ⟨h1, h2, h3, h4⟩ := yU i y hi
    have hq := h.req (Nat.le_of_lt hj) (Nat.le_refl p)
    exact YAg.move h3 h1 (@Agree.refl (holY H nx p D) _ _) h2 fun q hq' => ⟨(hq.rn q hq').symm, (hq.rt q hq').symm, (hq.rs q hq').symm, (hq.rd q hq').symm⟩
  · have := B.aw.dfr g q hg
    rw [inv.heap g (heap_lt this)]
    exact this
end
end Go.Vc

/- One more operation was done. -/
namespace Go.Vc
/-- new numbers from the one, the others from the other -/
noncomputable def mixY (σ τ : Env) (a b : Nat) : Env := ⟨fun q => if a ≤ q ∧ q < b then τ.b q else σ.b q, fun q => if a ≤ q ∧ q < b then τ.o q else σ.o q, fun q => if a ≤ q ∧ q < b then τ.k q else σ.k q, fun q => if a ≤ q ∧ q < b then τ.v q else σ.v q,
  ⟨fun q => if a ≤ q ∧ q < b then τ.r.n q else σ.r.n q, fun q => if a ≤ q ∧ q < b then τ.r.t q else σ.r.t q, fun q => if a ≤ q ∧ q < b then τ.r.s q else σ.r.s q, fun q => if a ≤ q ∧ q < b then τ.r.d q else σ.r.d q⟩⟩
theorem mixY_in {H : Holes} {σ τ : Env} {a b : Nat} (h : @Agree H a σ τ) : @Agree H b τ (mixY σ τ a b) := by
  have lo : ∀ {i}, @Lt H i b → ¬ (a ≤ i ∧ i < b) → @Lt H i a := fun {i} hi hn => @Lt.mk H _ _ (by have := @Lt.lt H _ _ hi; omega) (@Lt.ok H _ _ hi)
  refine @Agree.mk H b τ (mixY σ τ a b) ?_ ?_ ?_ ?_ ?_ ?_ ?_ ?_ <;> intro i hi <;> simp only [mixY] <;> split
  · rfl
  · rename_i hn; exact (@Agree.b H _ _ _ h i (lo hi hn)).symm
  · rfl
  · rename_i hn; exact (@Agree.o H _ _ _ h i (lo hi hn)).symm
  · rfl
  · rename_i hn; exact (@Agree.k H _ _ _ h i (lo hi hn)).symm
  · rfl
  · rename_i hn; exact (@Agree.v H _ _ _ h i (lo hi hn)).symm
  · rfl
  · rename_i hn; exact (@Agree.rn H _ _ _ h i (lo hi hn)).symm
  · rfl
  · rename_i hn; exact (@Agree.rt H _ _ _ h i (lo hi hn)).symm
  · rfl
  · rename_i hn; exact (@Agree.rs H _ _ _ h i (lo hi hn)).symm
  · rfl
  · rename_i hn; exact (@Agree.rd H _ _ _ h i (lo hi hn)).symm
theorem mixY_out {H : Holes} {σ τ : Env} {a b n : Nat} (h : ∀ q, @Lt H q n → ¬ (a ≤ q ∧ q < b)) : @Agree H n σ (mixY σ τ a b) :=
  @Agree.mk H n σ (mixY σ τ a b) (fun i hi => if_neg (h i hi)) (fun i hi => if_neg (h i hi)) (fun i hi => if_neg (h i hi)) (fun i hi => if_neg (h i hi)) (fun i hi => if_neg (h i hi)) (fun i hi => if_neg (h i hi)) (fun i hi => if_neg (h i hi)) (fun i hi => if_neg (h i hi))
section
variable {H : Holes} {P : Program} {K : Nat → Option (List Value)} {b : Bs} {nt p : Nat} {ops : Array Oper} {o : Nat → Oper} {nx : Nat → Nat} {S : T Row} {Y : T YRow} {ρ : Nat → Rho} {tm : Nat → Tm} {did : Nat → Bool} {x : Nat → W} {V V' : Nat → T Row} {U U' : Nat → T YRow} {vis : Nat → Nat → Prop} {tv : Nat → Tm} {m0 : Mem} {Y0 : T YRow} {G0 G G1 : Nat → Prop} {σ0 σ τ : Env} {w0 w w' : World} {a0 a : Act} {D D' : Nat → Bool} {j : Nat} {tm0 : Tm}
variable (B : BegY H K b nx S Y ρ m0 Y0 G0 σ0 w0) (h : RunY P K nt ops p o nx S Y ρ tm did x V V' U U' vis tv) (inv : InvY H K b nt p o nx S Y ρ tm0 x G0 σ0 a0 w0 D G σ a w)
include B h inv
theorem inv_did (hj : j < p) (hnot : D j = false) (hd : did j = true) (hD' : ∀ k, k < p → D' k = (D k || decide (k = j))) (hput : ∀ d, (o j).dst = some d → d < nt) (htm : ∀ t, (tmY o x D' tm0 p).get t = if (o j).dst = some t then x j else (tmY o x D tm0 p).get t)
    (hag : @Agree (belowY (holY H nx p D) (nx j)) (nx j) σ τ) (hg : Goes w w') (hk : ∀ g, g < w.heap.size → w'.heap[g]? = w.heap[g]?) (hnew : ∀ i r, nx j ≤ i → (V' j).get i = some r → r.blk = true → w.heap.size ≤ τ.b i)
    (hA : @Aw (belowY (holY H nx p D) (nx j)) K b.own ⟨V' j, nx (j + 1), nx j⟩ (U' j) (ρ (j + 1)) τ w') (hY : @YRel (belowY (holY H nx p D) (nx j)) G1 b.F0 b.wB.heap.size τ ⟨V' j, nx (j + 1), nx j⟩ (U' j) w') (hG1 : ∀ g, G g → G1 g) (hG2 : ∀ g, G1 g → G g ∨ w.heap.size ≤ g)
    (hx : @W.lt (belowY (holY H nx p D) (nx j)) (nx (j + 1)) (x j)) : InvY H K b nt p o nx S Y ρ tm0 x G0 σ0 a0 w0 D' G1 (mixY σ τ (nx j) (nx (j + 1))) (a.put (o j).dst (realW τ (x j))) w' := by
  have hRel := @Aw.rel (belowY (holY H nx p D) (nx j)) _ _ _ _ _ _ _ hA
  have hSA := @Aw.ag (belowY (holY H nx p D) (nx j)) _ _ _ _ _ _ _ hA
  have n0j := h.le (Nat.zero_le j) (Nat.le_of_lt hj)
  have njj := h.mono j hj
  have njp := h.le (show j + 1 ≤ p from hj) (Nat.le_refl p)
  have hDj : D' j = true := by rw [hD' j hj]; simp
  have dd : ∀ {k}, k < p → D' k = true → k ≠ j → D k = true := fun {k} hk1 hk2 hne => by rw [hD' k hk1] at hk2; simpa [hne] using hk2
  have sub : ∀ {q}, ¬ (holY H nx p D).h q → ¬ (holY H nx p D').h q := fun {q} hq hc => hq (by
    rcases hc with hc | ⟨i, h1, h2, h3⟩
    · exact .inl hc
    · refine .inr ⟨i, h1, ?_, h3⟩
      rw [hD' i h1] at h2
      cases hDi : D i with
      | false => rfl
      | true => rw [hDi] at h2; cases h2)
  have shrink : ∀ {q n}, @Lt (holY H nx p D) q n → @Lt (holY H nx p D') q n := fun {q n} hq => @Lt.mk (holY H nx p D') _ _ (@Lt.lt (holY H nx p D) _ _ hq) (sub (@Lt.ok (holY H nx p D) _ _ hq))
  have grow : ∀ q, @Lt (belowY (holY H nx p D) (nx j)) q (nx (j + 1)) → @Lt (holY H nx p D') q (nx (j + 1)) := fun q hq => by
    have hl := @Lt.lt (belowY (holY H nx p D) (nx j)) _ _ hq
    rcases Nat.lt_or_ge q (nx j) with h1 | h1
    · exact @Lt.mk (holY H nx p D') _ _ hl (sub fun hc => @Lt.ok (belowY (holY H nx p D) (nx j)) _ _ hq ⟨h1, hc⟩)
    · exact B.new h hj hDj h1 hl (Nat.le_refl _)
  have mi : @Agree (belowY (holY H nx p D) (nx j)) (nx (j + 1)) τ (mixY σ τ (nx j) (nx (j + 1))) := mixY_in hag
  have mo : ∀ n, @Agree (holY H nx p D) n σ (mixY σ τ (nx j) (nx (j + 1))) := fun n => mixY_out fun q hq hc => @Lt.ok (holY H nx p D) _ _ hq (.inr ⟨j, hj, hnot, hc⟩)
  have mb : ∀ {i}, nx j ≤ i → i < nx (j + 1) → (mixY σ τ (nx j) (nx (j + 1))).b i = τ.b i := fun h1 h2 => if_pos ⟨h1, h2⟩
  have ws := Nat.le_trans inv.goes.size hg.size
  -- the others' rows
  have oth : ∀ {k i r}, k < p → D k = true → nx k ≤ i → i < nx (k + 1) → S.get i = some r → r.blk = true → (mixY σ τ (nx j) (nx (j + 1))).b i = σ.b i ∧ w0.heap.size ≤ σ.b i ∧ σ.b i < w.heap.size ∧ ¬ G (σ.b i) := fun {k i r} hk1 hk2 h1 h2 hr hb => by
    obtain ⟨k1, k2⟩ := inv.row k hk1 hk2 i r h1 h2 hr
    obtain ⟨k3, k4⟩ := k2 hb
    exact ⟨@Agree.b (holY H nx p D) _ _ _ (mo (nx (k + 1))) i (B.new h hk1 hk2 h1 h2 (Nat.le_refl _)), k3, @RowOk.blk_lt (holY H nx p D) _ _ _ _ _ k1 hb, k4⟩
  have mine : ∀ {i r}, nx j ≤ i → i < nx (j + 1) → S.get i = some r → r.blk = true → (mixY σ τ (nx j) (nx (j + 1))).b i = τ.b i ∧ w.heap.size ≤ τ.b i ∧ ¬ G1 (τ.b i) := fun {i r} h1 h2 hr hb => by
    have hr' := h.newV j hj hd i r h1 h2 hr
    exact ⟨mb h1 h2, hnew i r h1 hr' hb, fun hc => (@YRel.dom (belowY (holY H nx p D) (nx j)) _ _ _ _ _ _ _ hY _ hc).2.1 i r hr' hb rfl⟩
  refine ⟨?_, inv.goes.trans hg, fun g hg0 => by rw [hk g (Nat.lt_of_lt_of_le hg0 inv.goes.size), inv.heap g hg0], fun g hg0 => hG1 g (inv.gs g hg0), fun g hgg => ⟨(@YRel.dom (belowY (holY H nx p D) (nx j)) _ _ _ _ _ _ _ hY _ hgg).1, ?_⟩, fun k hk1 hk2 i r h1 h2 hr => ?_, fun i i' r s hi hi' hl hl' hr hs hrb hsb he => ?_, fun k hk1 hk2 i y h1 h2 hr => ?_, by rw [put_size]; exact inv.size, by rw [put_defers]; exact inv.dfr, fun t => ?_, fun t => ?_⟩
  · refine Agree.move (H1 := H) (@Agree.trans H _ _ _ _ _ inv.ag (Nat.le_refl _) (mixY_out fun q hq hc => ?_)) fun q hq => hq
    have := @Lt.lt H _ _ hq
    omega
  · rcases hG2 g hgg with h1 | h1
    · exact (inv.gn g h1).2
    · exact .inr (Nat.le_trans inv.goes.size h1)
  · by_cases hkj : k = j
    · subst hkj
      have hr' := h.newV k hj hd i r h1 h2 hr
      have k1 := @Rel.row (belowY (holY H nx p D) (nx k)) _ _ _ _ hRel i r hr'
      have k2 := @Rel.lt (belowY (holY H nx p D) (nx k)) _ _ _ _ hRel i r hr'
      refine ⟨RowOk.move k1 mi k2 grow (fun _ => rfl), fun hb => ?_⟩
      obtain ⟨q1, q2, q3⟩ := mine h1 h2 hr hb
      rw [q1]
      exact ⟨Nat.le_trans inv.goes.size q2, q3⟩
    · have hDk := dd hk1 hk2 hkj
      have k1 := (inv.row k hk1 hDk i r h1 h2 hr).1
      refine ⟨RowOk.move k1 (mo _) (B.new h hk1 hDk h1 h2 (Nat.le_refl _)) (fun q hq => shrink hq) (fun hb => hk _ (@RowOk.blk_lt (holY H nx p D) _ _ _ _ _ k1 hb)), fun hb => ?_⟩
      obtain ⟨q1, q2, q3, q4⟩ := oth hk1 hDk h1 h2 hr hb
      rw [q1]
      refine ⟨q2, fun hc => ?_⟩
      rcases hG2 _ hc with h5 | h5
      · exact q4 h5
      · omega
  · have old : ∀ {i : Nat}, nx 0 ≤ i → @Lt (holY H nx p D') i (nx p) → ∃ k, k < p ∧ D' k = true ∧ nx k ≤ i ∧ i < nx (k + 1) := fun {i} h1 h2 => by
      rcases B.born h h2 with h3 | h3
      · omega
      · exact h3
    obtain ⟨k, k1, k2, k3, k4⟩ := old hi hl
    obtain ⟨k', k1', k2', k3', k4'⟩ := old hi' hl'
    by_cases hkj : k = j <;> by_cases hkj' : k' = j
    · subst hkj hkj'
      have hr' := h.newV k' hj hd i r k3 k4 hr
      have hs' := h.newV k' hj hd i' s k3' k4' hs
      exact @Rel.inj (belowY (holY H nx p D) (nx k')) _ _ _ _ hRel i i' r s hr' hs' hrb hsb (by rw [mb k3 k4, mb k3' k4'] at he; exact he)
    · subst hkj
      obtain ⟨q1, q2, q3⟩ := mine k3 k4 hr hrb
      obtain ⟨p1, p2, p3, p4⟩ := oth k1' (dd k1' k2' hkj') k3' k4' hs hsb
      omega
    · subst hkj'
      obtain ⟨q1, q2, q3⟩ := mine k3' k4' hs hsb
      obtain ⟨p1, p2, p3, p4⟩ := oth k1 (dd k1 k2 hkj) k3 k4 hr hrb
      omega
    · obtain ⟨p1, p2, p3, p4⟩ := oth k1 (dd k1 k2 hkj) k3 k4 hr hrb
      obtain ⟨q1, q2, q3, q4⟩ := oth k1' (dd k1' k2' hkj') k3' k4' hs hsb
      exact inv.inj i i' r s hi hi' (B.new h k1 (dd k1 k2 hkj) k3 k4 (h.le (show k + 1 ≤ p from k1) (Nat.le_refl _))) (B.new h k1' (dd k1' k2' hkj') k3' k4' (h.le (show k' + 1 ≤ p from k1') (Nat.le_refl _))) hr hs hrb hsb (by omega)
  · by_cases hkj : k = j
    · subst hkj
      have hr' := h.newU k hj hd i y h1 h2 hr
      obtain ⟨k2, k1⟩ := @YRel.row (belowY (holY H nx p D) (nx k)) _ _ _ _ _ _ _ hY i y hr'
      have hq := h.req (show k + 1 ≤ p from hj) (Nat.le_refl p)
      exact ⟨YOk.move k1 mi k2 grow (fun _ hg => hg) (fun _ _ _ _ hv => hv) (fun _ _ => rfl), YAg.move (hSA i y hr') k1 mi k2 fun q hq' => ⟨hq.rn q hq', hq.rt q hq', hq.rs q hq', hq.rd q hq'⟩⟩
    · have hDk := dd hk1 hk2 hkj
      obtain ⟨k1, k2⟩ := inv.y k hk1 hDk i y h1 h2 hr
      have k3 := B.new h hk1 hDk h1 h2 (Nat.le_refl (nx (k + 1)))
      refine ⟨YOk.move k1 (mo _) k3 (fun q hq => shrink hq) hG1 (fun g q v hg hv => ?_) (fun ho _ => ?_), YAg.move k2 k1 (mo _) k3 fun q hq' => ⟨rfl, rfl, rfl, rfl⟩⟩
      · rw [cell_heap (hk g (inv.gn g hg).1)]; exact hv
      · have := h.nod i y (Nat.le_trans (h.le (Nat.zero_le k) (Nat.le_of_lt hk1)) h1) hr
        rw [this] at ho; cases ho
  · rw [htm t]
    have hget := inv.tget t
    by_cases hw : (o j).dst = some t
    · rw [if_pos hw, hw]
      have := hput t hw
      show (a.tmps.setIfInBounds t _).getD t undef = _
      rw [Array.getD_eq_getD_getElem?, Array.getElem?_setIfInBounds]
      simp only [if_true, inv.size, this]
      rw [Option.getD_some, @Agree.realW (belowY (holY H nx p D) (nx j)) _ _ _ mi _ hx]
    · rw [if_neg hw, @Agree.realW (holY H nx p D) _ _ _ (mo (nx p)) _ (inv.tlt t), ← hget]
      cases hdst : (o j).dst with
      | none => rfl
      | some d =>
        show (a.tmps.setIfInBounds d _).getD t undef = _
        rw [Array.getD_eq_getD_getElem?, Array.getElem?_setIfInBounds, if_neg (fun he => hw (by rw [hdst, he])), ← Array.getD_eq_getD_getElem?]
  · rw [htm t]
    split
    · exact W.lt.move hx fun q hq => @Lt.mono (holY H nx p D') _ _ _ (grow q hq) njp
    · exact W.lt.move (inv.tlt t) fun q hq => shrink hq
end
end Go.Vc

/- Skipped; the first; the last; temporaries. -/
namespace Go.Vc
section
variable {H : Holes} {P : Program} {K : Nat → Option (List Value)} {b : Bs} {nt p : Nat} {ops : Array Oper} {o : Nat → Oper} {nx : Nat → Nat} {S : T Row} {Y : T YRow} {ρ : Nat → Rho} {tm : Nat → Tm} {did : Nat → Bool} {x : Nat → W} {V V' : Nat → T Row} {U U' : Nat → T YRow} {vis : Nat → Nat → Prop} {tv : Nat → Tm} {m0 : Mem} {Y0 : T YRow} {G0 G : Nat → Prop} {σ0 σ : Env} {w0 w : World} {a0 a : Act} {D D' : Nat → Bool} {j : Nat} {tm0 : Tm}
theorem inv_skip (h : RunY P K nt ops p o nx S Y ρ tm did x V V' U U' vis tv) (inv : InvY H K b nt p o nx S Y ρ tm0 x G0 σ0 a0 w0 D G σ a w) (hj : j < p) (hd : did j = false) (hD' : ∀ k, k < p → D' k = (D k || decide (k = j))) (hput : ∀ d, (o j).dst = some d → d < nt) (htm : ∀ t, (tmY o x D' tm0 p).get t = if (o j).dst = some t then x j else (tmY o x D tm0 p).get t) :
    InvY H K b nt p o nx S Y ρ tm0 x G0 σ0 a0 w0 D' G σ (a.put (o j).dst undef) w := by
  obtain ⟨hxu, hnx⟩ := h.skip j hj hd
  have dd : ∀ {k i}, k < p → D' k = true → nx k ≤ i → i < nx (k + 1) → D k = true := fun {k i} hk1 hk2 h1 h2 => by
    rw [hD' k hk1] at hk2
    by_cases hne : k = j
    · subst hne; omega
    · simpa [hne] using hk2
  have shrink : ∀ {q n}, @Lt (holY H nx p D) q n → @Lt (holY H nx p D') q n := fun {q n} hq => @Lt.mk (holY H nx p D') _ _ (@Lt.lt (holY H nx p D) _ _ hq) (fun hc => @Lt.ok (holY H nx p D) _ _ hq (by
    rcases hc with hc | ⟨i, h1, h2, h3⟩
    · exact .inl hc
    · refine .inr ⟨i, h1, ?_, h3⟩
      rw [hD' i h1] at h2
      cases hDi : D i with
      | false => rfl
      | true => rw [hDi] at h2; cases h2))
  have back : ∀ {q n}, @Lt (holY H nx p D') q n → @Lt (holY H nx p D) q n := fun {q n} hq => @Lt.mk (holY H nx p D) _ _ (@Lt.lt (holY H nx p D') _ _ hq) (fun hc => @Lt.ok (holY H nx p D') _ _ hq (by
    rcases hc with hc | ⟨i, h1, h2, h3⟩
    · exact .inl hc
    · refine .inr ⟨i, h1, ?_, h3⟩
      rw [hD' i h1, h2]
      by_cases hne : i = j
      · subst hne; omega
      · simp [hne]))
  have lt' : ∀ {k i}, k < p → D k = true → nx k ≤ i → i < nx (k + 1) → ∀ y, @YOk (holY H nx p D) G b.wB.heap.size σ (nx (k + 1)) w i y → @YOk (holY H nx p D') G b.wB.heap.size σ (nx (k + 1)) w i y := fun {k i} hk1 hk2 h1 h2 y hy => by
    cases y with
    | int => trivial
    | bool => trivial
    | str => trivial
    | dead => trivial
    | kb b => exact hy
    | fz own c q => exact ⟨shrink hy.1, hy.2⟩
    | fp own cs => exact ⟨hy.1, fun q c hq => ⟨C.lt.move (hy.2 q c hq).1 fun _ h => shrink h, (hy.2 q c hq).2⟩⟩
    | od e z own q => exact ⟨shrink hy.1, hy.2⟩
    | ep a x z => exact ⟨shrink hy.1, shrink hy.2.1, hy.2.2⟩
    | ov a x z => exact ⟨shrink hy.1, shrink hy.2.1, hy.2.2⟩
  have rw' : ∀ {k i r}, @RowOk (holY H nx p D) σ (nx (k + 1)) w i r → @RowOk (holY H nx p D') σ (nx (k + 1)) w i r := fun {k i r} hr => by
    cases r with
    | cells e q cs =>
      obtain ⟨arr, h1, h2, h3, h4⟩ := hr
      refine ⟨arr, h1, h2, h3, fun j hj => ?_⟩
      obtain ⟨c, hc, hl, ha⟩ := h4 j hj
      exact ⟨c, hc, C.lt.move hl fun _ h => shrink h, ha⟩
    | fn f first caps =>
      obtain ⟨h1, h2, h3⟩ := hr
      exact ⟨h1, fun x hx => W.lt.move (h2 x hx) fun _ h => shrink h, fun x hx => W.lt.move (h3 x hx) fun _ h => shrink h⟩
    | val x => exact ⟨hr.1, _root_.Go.Vc.V.lt.move hr.2 fun _ h => shrink h⟩
    | loop st p nt tm ps a b =>
      obtain ⟨fn, tmps, df, h1, h2, h3, h4⟩ := hr
      exact ⟨fn, tmps, df, h1, h2, TmOk.move h3 (@Agree.refl (holY H nx _ D) _ _) fun _ h => shrink h, h4⟩
    | dead => trivial
    | map k es c => exact hr
  refine ⟨inv.ag, inv.goes, inv.heap, inv.gs, inv.gn, fun k hk1 hk2 i r h1 h2 hr => ?_, fun i i' r s hi hi' hl hl' => inv.inj i i' r s hi hi' (back hl) (back hl'), fun k hk1 hk2 i y h1 h2 hr => ?_, by rw [put_size]; exact inv.size, by rw [put_defers]; exact inv.dfr, fun t => ?_, fun t => ?_⟩
  · obtain ⟨k1, k2⟩ := inv.row k hk1 (dd hk1 hk2 h1 h2) i r h1 h2 hr
    exact ⟨rw' k1, k2⟩
  · obtain ⟨k1, k2⟩ := inv.y k hk1 (dd hk1 hk2 h1 h2) i y h1 h2 hr
    exact ⟨lt' hk1 (dd hk1 hk2 h1 h2) h1 h2 y k1, k2⟩
  · rw [htm t]
    by_cases hw : (o j).dst = some t
    · rw [if_pos hw, hw, hxu]
      have := hput t hw
      show (a.tmps.setIfInBounds t _).getD t undef = _
      rw [Array.getD_eq_getD_getElem?, Array.getElem?_setIfInBounds]
      simp only [if_true, inv.size, this]
      rfl
    · rw [if_neg hw, ← inv.tget t]
      cases hdst : (o j).dst with
      | none => rfl
      | some d =>
        show (a.tmps.setIfInBounds d _).getD t undef = _
        rw [Array.getD_eq_getD_getElem?, Array.getElem?_setIfInBounds, if_neg (fun he => hw (by rw [hdst, he])), ← Array.getD_eq_getD_getElem?]
  · rw [htm t]
    split
    · rw [hxu]; exact @undefW_lt (holY H nx p D') _
    · exact W.lt.move (inv.tlt t) fun q hq => shrink hq
theorem tmY_none : ∀ (n : Nat), (∀ k, k < n → D k = false) → tmY o x D tm0 n = tm0
  | 0, _ => rfl
  | n + 1, h => by
    unfold tmY
    rw [h n (Nat.lt_succ_self _), tmY_none n fun k hk => h k (Nat.lt_succ_of_lt hk)]
    split <;> rfl
theorem tmY_all (h : RunY P K nt ops p o nx S Y ρ tm did x V V' U U' vis tv) (h0 : tm 0 = tm0) : ∀ (n : Nat), n ≤ p → (∀ k, k < n → D k = true) → tmY o x D tm0 n = tm n
  | 0, _, _ => h0.symm
  | n + 1, hn, hD => by
    unfold tmY
    rw [hD n (Nat.lt_succ_self _), tmY_all h h0 n (by omega) fun k hk => hD k (Nat.lt_succ_of_lt hk)]
    split
    · rename_i d hd; exact (h.put n hn d hd).2.symm
    · rename_i hd; exact (h.same n hn hd).symm
theorem inv_start (B : BegY H K b nx S Y ρ m0 Y0 G0 σ0 w0) (h : RunY P K nt ops p o nx S Y ρ tm did x V V' U U' vis tv) (hD : ∀ k, k < p → D k = false) (hT : @TmOk H σ0 (nx 0) a.tmps tm0) (hs : a.tmps.size = nt) : InvY H K b nt p o nx S Y ρ tm0 x G0 σ0 a w0 D G0 σ0 a w0 := by
  have hn : ∀ {k : Nat} {q : Prop}, k < p → D k = true → q := fun {k q} h1 h2 => by rw [hD k h1] at h2; cases h2
  refine ⟨@Agree.refl H _ _, ⟨rfl, rfl, rfl, Nat.le_refl _⟩, fun _ _ => rfl, fun _ h => h, fun g hg => ⟨(B.y.dom g hg).1, .inl hg⟩, fun k hk1 hk2 => hn hk1 hk2, fun i i' r s hi hi' hl hl' => ?_, fun k hk1 hk2 => hn hk1 hk2, hs, rfl, fun t => ?_, fun t => ?_⟩
  · rcases B.born h hl with h1 | ⟨k, h1, h2, _⟩
    · omega
    · exact hn h1 h2
  · rw [tmY_none p hD]; exact @TmOk.get H _ _ _ _ hT t
  · rw [tmY_none p hD]
    exact W.lt.move (@TmOk.lt H _ _ _ _ hT t) fun q hq => B.out h hq (h.le (Nat.zero_le p) (Nat.le_refl p))
theorem inv_end (B : BegY H K b nx S Y ρ m0 Y0 G0 σ0 w0) (h : RunY P K nt ops p o nx S Y ρ tm did x V V' U U' vis tv) (h0 : tm 0 = tm0) (inv : InvY H K b nt p o nx S Y ρ tm0 x G0 σ0 a0 w0 D G σ a w) (hD : ∀ k, k < p → D k = true) {lo : Nat} :
    @Aw H K b ⟨S, nx p, lo⟩ Y (ρ p) σ w ∧ @TmOk H σ (nx p) a.tmps (tm p) := by
  have n0p := h.le (Nat.zero_le p) (Nat.le_refl p)
  have cv : ∀ {q n}, @Lt (holY H nx p D) q n → @Lt H q n := fun {q n} hq => @Lt.mk H _ _ (@Lt.lt (holY H nx p D) _ _ hq) (fun hc => @Lt.ok (holY H nx p D) _ _ hq (.inl hc))
  have old : ∀ i, i < nx p → i < nx 0 ∧ nx 0 ≤ nx p ∨ ∃ k, k < p ∧ D k = true ∧ nx k ≤ i ∧ i < nx (k + 1) ∧ nx (k + 1) ≤ nx p := fun i hi => by
    have key : ∀ n, n ≤ p → i < nx n → i < nx 0 ∨ ∃ k, k < p ∧ nx k ≤ i ∧ i < nx (k + 1) := fun n => by
      induction n with
      | zero => exact fun _ hl => .inl hl
      | succ n ih =>
        intro hn hl
        rcases Nat.lt_or_ge i (nx n) with hlt | hge
        · exact ih (by omega) hlt
        · exact .inr ⟨n, hn, hge, hl⟩
    rcases key p (Nat.le_refl p) hi with h1 | ⟨k, h1, h2, h3⟩
    · exact .inl ⟨h1, n0p⟩
    · exact .inr ⟨k, h1, hD k h1, h2, h3, h.le (show k + 1 ≤ p from h1) (Nat.le_refl p)⟩
  have rowS : ∀ i r, S.get i = some r → @RowOk (holY H nx p D) σ (nx p) w i r ∧ @Lt (holY H nx p D) i (nx p) := fun i r hr => inv.rowAll B h (old i (h.nlp i r hr)) hr
  have yS : ∀ i y, Y.get i = some y → @YOk (holY H nx p D) G b.wB.heap.size σ (nx p) w i y ∧ @Lt (holY H nx p D) i (nx p) ∧ YAg (ρ p) σ i y := fun i y hr => inv.yAll B h (old i (h.nly i y hr)) hr
  have hYr : @YRel H G b.F0 b.wB.heap.size σ ⟨S, nx p, lo⟩ Y w := by
    refine @YRel.mk H _ _ _ _ _ _ _ (fun g hg => ?_) (fun i y hi => ?_) (fun i e z oo jj hi hl => ?_) (fun i e z oo jj i' e' z' oo' jj' hi hi' hl hl' he => ?_)
    · obtain ⟨k1, k2⟩ := inv.gn g hg
      refine ⟨k1, fun i r hr hb he => (inv.blk B h (rowS i r hr).2 hr hb).2.2.1 (he ▸ hg), ?_⟩
      rcases k2 with k2 | k2
      · exact (B.y.dom g k2).2.2
      · exact .inr (Nat.le_trans B.aw.size k2)
    · obtain ⟨h1, h2, h3⟩ := yS i y hi
      exact ⟨cv h2, YOk.move h1 (@Agree.refl (holY H nx p D) _ _) h2 (fun _ h => cv h) (fun _ hg => hg) (fun _ _ _ _ hv => hv) (fun _ _ => rfl)⟩
    · obtain ⟨k1, k2, k3, k4⟩ := inv.odOld B h hi hl (rfl : 0 = 0)
      obtain ⟨q1, q2, q3, q4⟩ := B.y.od i _ _ _ _ k1 k2
      rw [k3]
      refine ⟨Nat.lt_of_lt_of_le q1 inv.goes.size, q2, fun hg => ?_, fun q r hr hb he => (inv.blk B h (rowS q r hr).2 hr hb).2.2.2.2 i _ _ _ _ k1 k2 he.symm⟩
      rcases (inv.gn _ hg).2 with h5 | h5
      · exact q3 h5
      · omega
    · obtain ⟨k1, k2, k3, k4⟩ := inv.odOld B h hi hl (rfl : 0 = 0)
      obtain ⟨k1', k2', k3', k4'⟩ := inv.odOld B h hi' hl' (rfl : 0 = 0)
      exact B.y.odi i _ _ _ _ i' _ _ _ _ k1 k1' k2 k2' (by rw [← k3, ← k3', he])
  have hR : @Rel H K σ ⟨S, nx p, lo⟩ w := by
    refine @Rel.mk H _ _ _ _ (fun i r hr => ?_) (fun i r hr => cv (rowS i r hr).2) (fun i i' r s hr hs hrb hsb he => inv.injAll B h (rowS i r hr).2 (rowS i' s hs).2 hr hs hrb hsb he) (inv.known B h) (fun i r hr hb => (inv.blk B h (rowS i r hr).2 hr hb).2.1) (fun g l hg => Nat.lt_of_lt_of_le (@Rel.low H _ _ _ _ B.aw.rel g l hg) inv.goes.size) (fun i hi => ?_)
    · exact RowOk.move (rowS i r hr).1 (@Agree.refl (holY H nx p D) _ _) (rowS i r hr).2 (fun _ h => cv h) (fun _ => rfl)
    · exact @Rel.fresh H _ _ _ _ B.aw.rel i (by rw [B.hnx]; exact Nat.le_trans n0p hi)
  have hn0 := B.aw.nx
  have hn1 := B.aw.nx1
  rw [B.hnx] at hn0 hn1
  refine ⟨@Aw.mk H _ _ _ _ _ _ _ hR (Nat.le_trans hn0 n0p) (@Agree.trans H _ _ _ _ _ B.aw.agree hn0 inv.ag) (Nat.le_trans hn1 n0p) (@Agree.trans H _ _ _ _ _ B.aw.agree1 hn1 inv.ag) B.aw.base (B.aw.goes.trans inv.goes) (fun g hg => ?_) (fun i r hr hb => (inv.blk B h (rowS i r hr).2 hr hb).1) ⟨G, hYr⟩ (fun i y hi => (yS i y hi).2.2) (fun g q hg => ?_) (fun i hi => ?_) B.aw.klow, @TmOk.mk H _ _ _ _ (fun t => ?_) (fun t => ?_)⟩
  · rw [inv.heap g (Nat.lt_of_lt_of_le hg B.aw.size)]
    exact B.aw.frame g hg
  · have := B.aw.dfr g q hg
    rw [inv.heap g (heap_lt this)]
    exact this
  · obtain ⟨s, h1, h2⟩ := B.aw.keep i hi
    have := @Lt.lt H _ _ (@Rel.lt H _ _ _ _ B.aw.rel i s h1)
    rw [B.hnx] at this
    exact ⟨s, by show S.get i = _; rw [B.hS i this]; exact h1, h2⟩
  · rw [← tmY_all h h0 p (Nat.le_refl p) hD]; exact inv.tget t
  · rw [← tmY_all h h0 p (Nat.le_refl p) hD]
    exact W.lt.move (inv.tlt t) fun q hq => cv hq
end
end Go.Vc
