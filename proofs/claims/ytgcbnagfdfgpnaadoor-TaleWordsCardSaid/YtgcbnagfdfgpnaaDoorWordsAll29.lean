/- Small laws for walks that a program prints (walk.py). -/
import Derived.Test.YtgcbnagfdfgpnaaDoorFlowG
import Derived.Test.YtgcbnagfdfgpnaaDoorWordsAll28
import Derived.ScopeJumps
namespace Go.Hx
open Go Go.RowKit
section
variable {P : Program} {Fi : Fence} {n m : Nat} {R : Ending → World → Prop} {Q : Exit → Act → World → Prop} {c : Code} {a : Act} {w : World} {f : FuncId} {args : Array Value} {ops : Array Oper} {o : Oper} {rest : List Oper}
/-- the world gets a name -/
theorem calls_nm (h : ∀ W, W = w → Calls P f args W R) : Calls P f args w R := h w rfl
theorem callsIn_nm (h : ∀ W, W = w → CallsIn Fi n P f args W R) : CallsIn Fi n P f args w R := h w rfl
theorem wp_nm (h : ∀ W, W = w → c.wp P Q a W) : c.wp P Q a w := h w rfl
theorem wpIn_nm (h : ∀ W, W = w → c.wpIn Fi n P Q a W) : c.wpIn Fi n P Q a w := h w rfl
theorem ld {g t : Nat} {cs : List Value} (hB : Blk w g t cs) (off : Nat) (vs : List Value) (ty : TypeId) (x : Operand) (ho : o.op = .load ty x) (hw : Region.wanted o (yielded ops a.tmps) = true) (hx : a.eval x = .pointer (some ⟨g, off, none⟩)) (hv : (cs.drop off).take vs.length = vs) (hT : AggTy P ty vs.length)
    (h : wpList P ops Q rest (a.put o.dst (.agg vs.toArray)) w) : wpList P ops Q (o :: rest) a w :=
  wpl_load ty x ho hw g off vs hx hT (by rw [← hv]; exact hB.part off vs.length) h
theorem st {g t : Nat} {cs : List Value} (hB : Blk w g t cs) (off : Nat) (vs : List Value) (ty : TypeId) (x y : Operand) (ho : o.op = .store ty x y) (hw : Region.wanted o (yielded ops a.tmps) = true) (hx : a.eval x = .pointer (some ⟨g, off, none⟩)) (hy : a.eval y = .agg vs.toArray) (h1 : vs.all (·.oneCell') = true) (hfit : off + vs.length ≤ cs.length) (hT : AggTy P ty vs.length)
    (h : ∀ w', Blk w' g t (cs.take off ++ vs ++ cs.drop (off + vs.length)) → Only w w' g → wpList P ops Q rest (a.put o.dst undef) w') : wpList P ops Q (o :: rest) a w :=
  wpl_store ty x y ho hw g off t cs vs hx hy hT hB hfit h1 h
theorem Shape.of_only {w w' : World} {g t : Nat} {cs cs' : List Value} (hB : Blk w g t cs) (hO : Only w w' g) (hR : Blk w' g t cs') (hl : cs'.length = cs.length) : Shape (fun e => e = t) g w w' :=
  Shape.only (T := fun e => e = t) (Shape.refl _ _ _) hB hO hR hl rfl (Nat.le_refl _)
theorem Own.only {α : Type} {w w' : World} {base e size g t : Nat} {enc : α → List Value} {v : Value} {l : List α} {cs cs' : List Value} (h : Go.Hx.Own w base e size enc v l) (hB : Blk w g t cs) (hO : Only w w' g) (hR : Blk w' g t cs') (hl : cs'.length = cs.length) (ht : ¬ e = t) : Go.Hx.Own w' base e size enc v l :=
  Own.shape h (Shape.of_only hB hO hR hl) ht
theorem XDyad.mine.only {w w' : World} {B g t : Nat} {x : XDyad} {cs cs' : List Value} (h : x.mine w B) (hB : Blk w g t cs) (hO : Only w w' g) (hR : Blk w' g t cs') (hl : cs'.length = cs.length) (ht : ¬ 33 = t) : x.mine w' B :=
  h.shape (Shape.of_only hB hO hR hl) ht
theorem XMass.mine.only {w w' : World} {B g t : Nat} {x : XMass} {cs cs' : List Value} (h : x.mine w B) (hB : Blk w g t cs) (hO : Only w w' g) (hR : Blk w' g t cs') (hl : cs'.length = cs.length) (ht : ¬ 33 = t) : x.mine w' B :=
  h.shape (Shape.of_only hB hO hR hl) ht
theorem Only.set (w : World) (b j : Nat) (u : Value) : Only w (w.setCell ⟨b, j, none⟩ u) b :=
  have h := (Below.refl 0 w).setCell (p := ⟨b, j, none⟩) (Nat.zero_le _) u
  ⟨h.os, h.tape, h.output, by simp, fun k hb => Below.heap_setCell w ⟨b, j, none⟩ u k hb⟩
theorem Blk.at {g t : Nat} {cs : List Value} (hB : Blk w g t cs) {off n : Nat} {vs : List Value} (h : (cs.drop off).take n = vs) : RowAt w g off vs := by rw [← h]; exact hB.part off n
theorem stIn {g t : Nat} {cs : List Value} (hop : Open Fi) (hB : Blk w g t cs) (off : Nat) (vs : List Value) (ty : TypeId) (x y : Operand) (ho : o.op = .store ty x y) (hw : Region.wanted o (yielded ops a.tmps) = true) (hx : a.eval x = .pointer (some ⟨g, off, none⟩)) (hy : a.eval y = .agg vs.toArray) (h1 : vs.all (·.oneCell') = true) (hfit : off + vs.length ≤ cs.length) (hT : AggTy P ty vs.length)
    (h : ∀ w', Blk w' g t (cs.take off ++ vs ++ cs.drop (off + vs.length)) → Only w w' g → wpListIn Fi n P ops Q rest (a.put o.dst undef) w') : wpListIn Fi n P ops Q (o :: rest) a w :=
  wplIn_store hop ty x y ho hw g off t cs vs hx hy hT hB hfit h1 h
theorem jump_ret {l : Nat} {J : Act → World → Prop} (h : Q .ret a w) : Exit.jump l J Q .ret a w := h
theorem wp_scope_fwd {c rest : Code} (l : Nat) (hf : findLabel c l = some rest) (h : c.wp P (Exit.jump l (fun a' w' => rest.wp P (Exit.jump l (fun _ _ => False) Q) a' w') Q) a w) : (Code.scope c).wp P Q a w :=
  wp_scope_jumps l _ (fun _ _ => 0) hf h fun a w hJ => wp_mono hJ fun e a w hq => by cases e <;> first | exact hq | exact hq.2.elim
/-- the kinds of operations, by their places -/
def chK (W0 : World) (s l e : List Nat) (f : List (Nat × TypeId × List Value)) (i : Nat) : FG.Kind :=
  if i ∈ s then .seq else if i ∈ l then .last else if i ∈ e then .early (Ext W0) else match f.lookup i with | some (t, cs) => .fresh W0.heap.size t cs | none => .det
theorem chK_early {W0 W : World} {s l e : List Nat} {f : List (Nat × TypeId × List Value)} (hW : Ext W0 W) : ∀ k E, chK W0 s l e f k = .early E → E W ∧ FG.Keeps Ext E := fun k E h => by
  unfold chK at h
  split at h
  · cases h
  · split at h
    · cases h
    · split at h
      · cases h; exact ⟨hW, fun _ _ h k => h.trans k⟩
      · split at h <;> cases h
theorem eqDyad {v0 : Bool} {v1 : Option Addr} {v2 v3 : Nat} {v4 : Int} {r : XDyad} (h : Value.agg #[.bool v0, .slice v1 v2 v3, .int .i64 v4] = .agg #[.bool r.neg, .slice r.limbs.A r.limbs.l.length r.limbs.c, .int .i64 r.exp]) : v0 = r.neg ∧ v1 = r.limbs.A ∧ v2 = r.limbs.l.length ∧ v3 = r.limbs.c ∧ v4 = r.exp := by simpa [and_assoc] using h
theorem eqMass {v0 : Bool} {v1 : Option Addr} {v2 v3 : Nat} {v4 : Int} {v5 : Bool} {v6 : Option Addr} {v7 v8 : Nat} {v9 : Int} {v10 : Bool} {v11 : Option Addr} {v12 v13 : Nat} {v14 : Int} {v15 : Bool} {v16 : Option Addr} {v17 v18 : Nat} {v19 : Int} {r : XMass} (h : Value.agg #[.bool v0, .slice v1 v2 v3, .int .i64 v4, .bool v5, .slice v6 v7 v8, .int .i64 v9, .bool v10, .slice v11 v12 v13, .int .i64 v14, .bool v15, .slice v16 v17 v18, .int .i64 v19] = .agg #[.bool r.s.neg, .slice r.s.limbs.A r.s.limbs.l.length r.s.limbs.c, .int .i64 r.s.exp, .bool r.w.neg, .slice r.w.limbs.A r.w.limbs.l.length r.w.limbs.c, .int .i64 r.w.exp, .bool r.c.neg, .slice r.c.limbs.A r.c.limbs.l.length r.c.limbs.c, .int .i64 r.c.exp, .bool r.a.neg, .slice r.a.limbs.A r.a.limbs.l.length r.a.limbs.c, .int .i64 r.a.exp]) : v0 = r.s.neg ∧ v1 = r.s.limbs.A ∧ v2 = r.s.limbs.l.length ∧ v3 = r.s.limbs.c ∧ v4 = r.s.exp ∧ v5 = r.w.neg ∧ v6 = r.w.limbs.A ∧ v7 = r.w.limbs.l.length ∧ v8 = r.w.limbs.c ∧ v9 = r.w.exp ∧ v10 = r.c.neg ∧ v11 = r.c.limbs.A ∧ v12 = r.c.limbs.l.length ∧ v13 = r.c.limbs.c ∧ v14 = r.c.exp ∧ v15 = r.a.neg ∧ v16 = r.a.limbs.A ∧ v17 = r.a.limbs.l.length ∧ v18 = r.a.limbs.c ∧ v19 = r.a.exp := by simpa [and_assoc] using h
theorem XMass.zero_mine (w : World) (B : Nat) : XMass.zero.mine w B := ⟨⟨Own.nil _ _ _ _ _⟩, ⟨Own.nil _ _ _ _ _⟩, ⟨Own.nil _ _ _ _ _⟩, ⟨Own.nil _ _ _ _ _⟩⟩
theorem XDyad.zero_mine (w : World) (B : Nat) : XDyad.zero.mine w B := ⟨Own.nil _ _ _ _ _⟩
end
end Go.Hx
