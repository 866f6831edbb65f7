/- A whole struct stored as the last effect of a region that draws its order. -/
import Derived.Test.YtgcbnagfdfgpnaaDoorFlow
namespace Go.Hx
open Go Go.RowKit
section
variable {Fi : Fence} {P : Program} {ops : Array Oper} {ch : Nat → Kind} {R : World → World → Prop} {Lq : Act → (World → Prop) → (World → Prop) → Prop} {o : Oper} {rest : List Oper} {k : Nat} {a : Act} {C J F : World → Prop}
theorem ftext_store (ty : TypeId) (x y : Operand) (J' : World → Prop) (ho : o.op = .store ty x y) (hu : ch k = .last) (hw : Region.wanted o (yielded ops a.tmps) = true)
    (hv : ∀ w, C w → J w → F w → ∃ g t cs vs, a.eval x = .pointer (some ⟨g, 0, none⟩) ∧ a.eval y = .agg vs.toArray ∧ AggTy P ty vs.length ∧ Blk w g t cs ∧ vs.length = cs.length ∧ vs.all (·.oneCell') = true ∧ ∀ w', Blk w' g t vs → Only w w' g → C w' ∧ J' w')
    (h : ∀ K : Act → Prop, (∀ a, wpTextW Fi P ops C R ch Lq rest (k + 1) a J' (fun _ => True) → K a) → K (a.put o.dst undef)) : wpTextW Fi P ops C R ch Lq (o :: rest) k a J F := by
  refine ftext_last (fun v => v = undef) (fun _ W => J' W) hu hw ⟨_, rfl⟩ (fun w hC hJ hF Φ hΦ => ?_) (fun v hv => by subst hv; exact h)
  obtain ⟨g, t, cs, vs, hx, hy, hT, hB, hl, h1, hk⟩ := hv w hC hJ hF
  have hr := run_storeVar_at (P := P) (off := 0) hT hB (by omega) h1
  unfold execOp
  simp only [ho, hx, hy, Instr.storeAt, Instr.sureAddr, Sem.run_bind, Sem.run_pure, Result.andThen_ok, hr, undIn]
  have hB' : Blk (w.setRow g (cs.take 0 ++ vs ++ cs.drop (0 + vs.length)).toArray) g t vs := by
    unfold Blk
    rw [setRow_heap w g cs.toArray _ t (0, 0) hB]
    simp [hl]
  obtain ⟨hC', hJ'⟩ := hk _ hB' ⟨rfl, rfl, rfl, by simp [World.setRow], fun k hk => setRow_other w g k _ hk⟩
  exact hΦ _ _ rfl hC' hJ'
theorem wplIn_assign {n : Nat} {Q : Exit → Act → World → Prop} {w : World} (hop : Open Fi) (x : Operand) (ho : o.op = .assign x) (hw : Region.wanted o (yielded ops a.tmps) = true)
    (h : wpListIn Fi n P ops Q rest (a.put o.dst (a.eval x)) w) : wpListIn Fi n P ops Q (o :: rest) a w := by
  refine wpListIn_step fun K hK => ?_
  rw [if_pos hw]
  have hsem : o.semAt Fi.round a.eval = execOp a.eval o := Oper.semAt_eq _ _ _ (fun c => by rw [ho]; intro h; cases h)
  unfold Oper.wpIn
  refine ⟨fun f _ => hop.fn f, ?_⟩
  rw [hsem]
  unfold execOp
  simp only [ho]
  exact hK _ _ h
end
end Go.Hx
