/- The program's numbers under way: sums and differences. Printed by gen_add.py. -/
import Derived.Test.YtgcbnagfdfgpnaaDoorWordsAll8
import Derived.WalkMore
import Derived.ScopeJumps
namespace Go.Hx
open Go.RowKit
structure SumSt (w wr : World) (g gx : Nat) (s : Bool) (v1 v2 : Value) (o m : List Nat) : Prop where
  blk : Blk wr g 139 (Value.bool s :: v1 :: v2 :: W32 o)
  xblk : Blk wr gx 136 (W32 m)
  below : Below g w wr
theorem borrow_ex {p q c : Nat} (hp : p < B32) (hq : q < B32) (hc : c ≤ 1) : ∃ t s, (if p < q + c then 1 else 0) = t ∧ s < B32 ∧ s + q + c = p + B32 * t ∧ t ≤ 1 := by
  have hp' : p < 4294967296 := hp
  have hq' : q < 4294967296 := hq
  by_cases h : p < q + c
  · exact ⟨1, p + 4294967296 - q - c, if_pos h, (show p + 4294967296 - q - c < 4294967296 by omega), (show p + 4294967296 - q - c + q + c = p + 4294967296 * 1 by omega), by omega⟩
  · exact ⟨0, p - q - c, if_neg h, (show p - q - c < 4294967296 by omega), (show p - q - c + q + c = p + 4294967296 * 0 by omega), by omega⟩
theorem jump_normal {l : Nat} {J : Act → World → Prop} {Q : Exit → Act → World → Prop} {a : Act} {w : World} (h : Q .normal a w) : Exit.jump l J Q .normal a w := h
theorem below_only {w w' : World} {g B : Nat} (h : Only w w' g) (hB : B ≤ g) : Below B w w' := ⟨h.os, h.tape, h.output, by rw [h.size]; exact Nat.le_refl _, fun k hk => h.block k (by omega)⟩
theorem Below.drewN {B : Nat} (w : World) (n : Nat) : Below B w (w.drewN n) := ⟨rfl, rfl, rfl, Nat.le_refl _, fun _ _ => rfl⟩
section
variable {P : Program} {ops : Array Oper} {o : Oper} {a : Act} {w : World} {K : Act → World → Prop} {Q : Exit → Act → World → Prop} {E : Prop}
theorem step_load (ty : TypeId) (x : Operand) (ho : o.op = .load ty x) (hw : Region.wanted o (yielded ops a.tmps) = true) (b off : Nat) (cs : List Value) (hx : a.eval x = .pointer (some ⟨b, off, none⟩)) (hT : AggTy P ty cs.length)
    (hrow : RowAt w b off cs) (h : K (a.put o.dst (.agg cs.toArray)) w) : if Region.wanted o (yielded ops a.tmps) = true then Oper.wp P o a w K Q else E := by
  rw [if_pos hw]
  unfold Oper.wp execOp
  simp only [ho, hx, Instr.loadAt, Instr.sureAddr, Sem.run_bind, Sem.run_pure, Result.andThen_ok, run_loadVar_at hrow hT]
  exact h
theorem step_store (ty : TypeId) (x y : Operand) (ho : o.op = .store ty x y) (hw : Region.wanted o (yielded ops a.tmps) = true) (g off : Nat) (t : TypeId) (cs vs : List Value) (hx : a.eval x = .pointer (some ⟨g, off, none⟩)) (hy : a.eval y = .agg vs.toArray) (hT : AggTy P ty vs.length)
    (hB : Blk w g t cs) (hfit : off + vs.length ≤ cs.length) (h1 : vs.all (·.oneCell') = true)
    (h : ∀ w', Blk w' g t (cs.take off ++ vs ++ cs.drop (off + vs.length)) → Only w w' g → K (a.put o.dst undef) w') : if Region.wanted o (yielded ops a.tmps) = true then Oper.wp P o a w K Q else E := by
  rw [if_pos hw]
  unfold Oper.wp execOp
  simp only [ho, hx, hy, Instr.storeAt, Instr.sureAddr, Sem.run_bind, Sem.run_pure, Result.andThen_ok, run_storeVar_at hT hB hfit h1]
  refine h _ ?_ ⟨rfl, rfl, rfl, by simp [World.setRow], fun k hk => setRow_other w g k _ hk⟩
  unfold Blk
  rw [setRow_heap w g cs.toArray _ t (0, 0) hB]
end
end Go.Hx
namespace Go.Proofs.YtgcbnagfdfgpnaaDoor
open Go.RowKit Go.Hx
attribute [local go_sem] detUpon undIn
set_option maxRecDepth 100000 in
set_option maxHeartbeats 4000000 in
theorem sum_add (g : Nat) (s t : Bool) (v1 v2 : Value) (l m : List Nat) (w : World) (hB : Blk w g 139 (Value.bool s :: v1 :: v2 :: W32 l)) (hl : l.length = 74) (hm : m.length = 74) (bl : Limbs l) (bm : Limbs m) (hb : val B32 l + val B32 m < B32 ^ 74) :
    Calls Tryd.prog 70 #[.pointer (some ⟨g, 0, none⟩), .bool t, .agg (W32 m).toArray] w fun e w' => ∃ o : List Nat, e = .returned (.tuple #[]) ∧ Blk w' g 139 (Value.bool (plusS s (val B32 l) t (val B32 m)).1 :: v1 :: v2 :: W32 o) ∧ o.length = 74 ∧ Limbs o ∧ val B32 o = (plusS s (val B32 l) t (val B32 m)).2 ∧ Below g w w' := by
  have HLL := Lib.hid hl
  have HML := Lib.hid hm
  have HLB := Lib.hid bl
  have HMB := Lib.hid bm
  have HBD := Lib.hid hb
  have HB := Lib.hid hB
  obtain ⟨gx, hgx⟩ : ∃ n, n = w.heap.size := ⟨_, rfl⟩
  have HNE : Hid (gx ≠ g) := Lib.hid (by have := hB.lt; omega)
  have HS0 : Hid (SumSt w (w.alloc (.cells (W32 m).toArray 136)) g gx s v1 v2 l m) := Lib.hid ⟨hB.alloc _, Blk.new hgx, (Below.refl _ _).alloc (by have := hB.lt; omega) _⟩
  have HGX := Lib.hid hgx
  have HGL : Hid (g < gx) := Lib.hid (by have := hB.lt; omega)
  clear hl hm bl bm hb hB hgx
  go_enter Tryd.func70, Tryd.ntmps70
  have hcs : (w.alloc (.cells (W32 m).toArray 136)).cell? ⟨g, 0, none⟩ = some (.bool s) := HS0.out.blk.cell 0
  by_cases hst : t = s
  · have d0 : (t == s) = true := by rw [hst]; simp
    have HPS : Hid (plusS s (val B32 l) t (val B32 m) = (s, val B32 l + val B32 m)) := Lib.hid (by unfold plusS; rw [if_pos hst.symm])
    clear hst
    go_wp2
    go_step3
    go_wp2_with fail
    rw [← HGX.out]
    obtain ⟨W1, hW1⟩ : ∃ W, W = w.alloc (.cells (W32 m).toArray 136) := ⟨_, rfl⟩
    rw [← hW1] at HS0 ⊢
    clear hW1 hcs
    go_loopw [6, 16] (fun c i wr => ∃ (k cc : Nat), ∃ o, k ≤ 74 ∧ i = .int .i64 k ∧ c = .int .u32 cc ∧ Hid (SumI l m k cc o) ∧ Hid (SumSt w wr g gx s v1 v2 o m)) (fun _ i _ => 74 - (intOf i).toNat)
    case atStart => exact ⟨0, 0, l, by omega, rfl, rfl, Lib.hid (SumI.begin HLL.out HLB.out), HS0⟩
    case round =>
      obtain ⟨k, cc, o, hk, rfl, rfl, HI, HS⟩ := hrel
      by_cases hlt : k < 74
      · have hki : (k : Int) < 74 := by omega
        obtain ⟨p, hp⟩ : ∃ p, l[k]?.getD 0 = p := ⟨_, rfl⟩
        obtain ⟨q, hq⟩ : ∃ q, m[k]?.getD 0 = q := ⟨_, rfl⟩
        have HP0 : Hid ((Value.bool s :: v1 :: v2 :: W32 o)[k + 3]? = some (.int .u32 p)) := Lib.hid (by
          have h1 := HI.out.rest k (Nat.le_refl _)
          rw [hp] at h1
          show (W32 o)[k]? = _
          have hlt' : k < o.length := by rw [HI.out.len]; exact hlt
          rw [List.getElem?_eq_getElem hlt'] at h1
          exact W32.get (by rw [List.getElem?_eq_getElem hlt']; exact congrArg some h1))
        have HQ0 : Hid ((W32 m)[k]? = some (.int .u32 q)) := Lib.hid (by
          have hlt' : k < m.length := by rw [HML.out]; exact hlt
          rw [List.getElem?_eq_getElem hlt'] at hq
          exact W32.get (by rw [List.getElem?_eq_getElem hlt']; exact congrArg some hq))
        have HPL : Hid (p < B32 ∧ q < B32 ∧ cc ≤ 1) := Lib.hid ⟨by rw [← hp]; exact HLB.out.get k, by rw [← hq]; exact HMB.out.get k, HI.out.carry⟩
        obtain ⟨s2, hs2⟩ : ∃ n, (p + q + cc) % B32 = n := ⟨_, rfl⟩
        obtain ⟨t2, ht2⟩ : ∃ n, (p + q + cc) / B32 = n := ⟨_, rfl⟩
        have HNX := And.intro hs2 ht2
        have HST := Lib.hid HNX
        clear hs2 ht2
        have HI2 := Lib.hid (HI.out.next HMB.out hp hq hlt HST.out.1 HST.out.2)
        clear hp hq HNX
        go_wp2_with fail
        obtain ⟨WX, hWX⟩ : ∃ W0, W0 = wr := ⟨_, rfl⟩
        have hB0 : Blk WX g 139 (Value.bool s :: v1 :: v2 :: W32 o) := by rw [hWX]; exact HS.out.blk
        have hC0 : Below g WX WX.drew ∧ Blk WX.drew gx 136 (W32 m) := ⟨(Below.refl _ _).drew, by rw [hWX]; exact HS.out.xblk.drew⟩
        have hBel : Below g w WX := by rw [hWX]; exact HS.out.below
        rw [← hWX]
        clear hWX
        have HGB : Hid (∀ W : World, Below g WX W ∧ Blk W gx 136 (W32 m) → W.cell? ⟨gx, k, none⟩ = some (.int .u32 q)) := Lib.hid fun W hW => by rw [hW.2.cell k]; exact HQ0.out
        have HPC : Hid (∀ W : World, Blk W g 139 (Value.bool s :: v1 :: v2 :: W32 o) → W.cell? ⟨g, 3 + k, none⟩ = some (.int .u32 p)) := Lib.hid fun W hW => by rw [hW.cell (3 + k), Nat.add_comm 3 k]; exact HP0.out
        refine wp_region_flowTail 20 (fun W => Below g WX W ∧ Blk W gx 136 (W32 m)) (fun W => Blk W g 139 (Value.bool s :: v1 :: v2 :: W32 o)) Ext (fun i => if i = 7 then .row (fun v => v = .int .u32 p) (fun _ W => Blk W g 139 (Value.bool s :: v1 :: v2 :: W32 o)) else if i = 12 then .row (fun v => v = .tuple #[.int .u32 s2, .int .u32 t2]) (fun _ W => Blk W g 139 (Value.bool s :: v1 :: v2 :: W32 o)) else if i = 19 then .last else .det) [7, 12] (by kernel_rfl) (by kernel_rfl) (by kernel_rfl) hC0 hB0.drew (fun w1 w2 h1 h2 => h1.ext h2) ?_
        iterate 7 (refine ftext_det rfl rfl ?_; apply Exists.intro; refine ⟨fun w hC => ?_, fun K hK => ?_⟩; (first | (go_simp; exact rfl) | (go_simp; exact ⟨rfl, rfl⟩) | (have hcq : w.cell? ⟨gx, k, none⟩ = some (.int .u32 q) := HGB.out _ hC; go_simp; first | exact rfl | exact ⟨rfl, rfl⟩)); go_simp; refine hK _ ?_; clear hK K)
        refine ftext_row _ _ rfl rfl ⟨_, rfl⟩ (fun v w1 w2 h1 h2 => h1.ext h2) (fun w1 hC hJ Φ hΦ => ?_) (fun v hv K hK => ?_)
        · have hcp : w1.cell? ⟨g, 3 + k, none⟩ = some (.int .u32 p) := HPC.out _ hJ
          go_simp
          exact hΦ _ _ rfl hC (Ext.refl _) hJ
        subst hv
        go_simp; refine hK _ ?_; clear hK K
        iterate 4 (refine ftext_det rfl rfl ?_; apply Exists.intro; refine ⟨fun w hC => ?_, fun K hK => ?_⟩; (first | (go_simp; exact rfl) | (go_simp; exact ⟨rfl, rfl⟩) | (have hcq : w.cell? ⟨gx, k, none⟩ = some (.int .u32 q) := HGB.out _ hC; go_simp; first | exact rfl | exact ⟨rfl, rfl⟩)); go_simp; refine hK _ ?_; clear hK K)
        refine ftext_row _ _ rfl rfl ⟨_, rfl⟩ (fun v w1 w2 h1 h2 => h1.ext h2) (fun w1 hC hJ Φ hΦ => ?_) (fun v hv K hK => ?_)
        · go_simp
          refine (bits_Add32 p q cc s2 t2 _ HPL.out.1 HPL.out.2.1 HPL.out.2.2 HST.out.1 HST.out.2).mono ?_
          rintro e w2 ⟨rfl, rfl⟩
          exact ⟨_, rfl, hΦ _ _ rfl hC (Ext.refl _) hJ⟩
        subst hv
        go_simp; refine hK _ ?_; clear hK K
        iterate 6 (refine ftext_det rfl rfl ?_; apply Exists.intro; refine ⟨fun w hC => ?_, fun K hK => ?_⟩; (first | (go_simp; exact rfl) | (go_simp; exact ⟨rfl, rfl⟩) | (have hcq : w.cell? ⟨gx, k, none⟩ = some (.int .u32 q) := HGB.out _ hC; go_simp; first | exact rfl | exact ⟨rfl, rfl⟩)); go_simp; refine hK _ ?_; clear hK K)
        refine ftext_last (fun v => v = undef) (fun _ W => Blk W g 139 (Value.bool s :: v1 :: v2 :: W32 (o.set k s2))) rfl rfl ⟨_, rfl⟩ (fun w1 hC hJ _ Φ hΦ => ?_) (fun v hv K hK => ?_)
        · have hcp : w1.cell? ⟨g, 3 + k, none⟩ = some (.int .u32 p) := HPC.out _ hJ
          have hfp : w1.frozen? ⟨g, 3 + k, none⟩ = false := hJ.free (3 + k)
          have hset : Blk (w1.setCell ⟨g, 3 + k, none⟩ (.int .u32 s2)) g 139 (Value.bool s :: v1 :: v2 :: W32 (o.set k s2)) := by
            have := hJ.set (3 + k) (.int .u32 s2)
            rw [← W32.set]
            rwa [Nat.add_comm 3 k] at this ⊢
          have HF := Lib.hid hset
          clear hset
          go_simp
          exact hΦ _ _ rfl ⟨hC.1.setCell (Nat.le_refl g) _, hC.2.far (by have := HNE.out; exact this) _⟩ HF.out
        subst hv
        go_simp; refine hK _ ?_; clear hK K
        refine ftext_nil ?_
        rintro w1 hC hBn _
        have HS2 : Hid (SumSt w w1 g gx s v1 v2 (o.set k s2) m) := Lib.hid ⟨hBn, hC.2, hBel.trans hC.1⟩
        clear hC hBn hBel
        simp only [List.drop_succ_cons, List.drop_zero]
        refine wplIn_assign Open.wide _ rfl rfl ?_
        refine wpListIn_nil ?_
        go_wp2_with fail
        go_roundw
        case rel => exact ⟨k + 1, t2, _, by omega, by go_num, rfl, HI2, HS2⟩
        case measure => simp [intOf]; omega
      · have hk74 : k = 74 := by omega
        subst hk74
        have HD := Lib.hid (HI.out.done HLL.out HML.out HBD.out)
        go_wp2_with fail
        rw [Exit.noGoto_ret]
        refine bodyPost_ret (results_none rfl _ _ _) rfl ⟨o, rfl, by rw [HPS.out]; exact HS.out.blk, HI.out.len, HI.out.limbs, by rw [HPS.out]; exact HD.out, HS.out.below⟩
  · have d0 : (t == s) = false := by simpa using hst
    go_wp2
    refine wp_scope_jumps 0 (fun a' w' => a' = { tmps := #[.pointer (some ⟨g, 0, none⟩), .bool t, .agg (W32 m).toArray, undef, undef, .pointer (some ⟨gx, 0, none⟩), .int .u32 0, undef, undef, .bool t, .pointer (some ⟨g, 0, none⟩), .pointer (some ⟨g, 0, none⟩), .pointer (some ⟨g, 0, none⟩), .pointer (some ⟨g, 0, none⟩), .bool s, .bool true, undef, undef, undef, undef, undef, undef, undef, undef, undef, undef, undef, undef, undef, undef, undef, undef, undef, undef, undef, undef, undef, undef, undef, undef, undef, undef, undef, undef, undef, undef, undef, undef, undef, undef, undef, undef, undef, undef, undef, undef, undef, undef, undef, undef, undef, undef, undef, undef, undef, undef, undef, undef, undef, undef, undef, undef, undef, undef, undef, undef, undef, undef, undef], defers := [] } ∧ w' = w.alloc (.cells (W32 m).toArray 136)) (fun _ _ => 0) rfl ?_ ?_
    · go_wp2_with fail
      go_step3
      rw [← HGX.out]
      exact ⟨rfl, rfl, rfl⟩
    rintro _ _ ⟨rfl, rfl⟩
    obtain ⟨W1, hW1⟩ : ∃ W, W = w.alloc (.cells (W32 m).toArray 136) := ⟨_, rfl⟩
    rw [← hW1] at HS0 ⊢
    clear hW1 hcs d0
    go_wp2_with fail
    refine (wide_below g 3 gx 0 l m W1 HLL.out HML.out (fun j u hu => by rw [HS0.out.blk.cell (3 + j), Nat.add_comm 3 j]; exact hu) HS0.out.xblk.row HLB.out HMB.out).mono ?_
    rintro e w2 ⟨rfl, jj, rfl⟩
    have HS1 : Hid (SumSt w (W1.drewN jj) g gx s v1 v2 l m) := Lib.hid ⟨HS0.out.blk.drewN _, HS0.out.xblk.drewN _, HS0.out.below.trans (Below.drewN _ _)⟩
    obtain ⟨W2, hW2⟩ : ∃ W, W = W1.drewN jj := ⟨_, rfl⟩
    rw [← hW2] at HS1 ⊢
    clear hW2 HS0
    by_cases hlm : val B32 l < val B32 m
    · have d1 : decide (val B32 l < val B32 m) = true := decide_eq_true hlm
      have HPS : Hid (plusS s (val B32 l) t (val B32 m) = (t, val B32 m - val B32 l)) := Lib.hid (by unfold plusS; rw [if_neg (fun h => hst h.symm), if_neg (by omega)])
      have HLE : Hid (val B32 l ≤ val B32 m) := Lib.hid (by omega)
      clear hlm hst
      go_wp2_with fail
      refine wp_region_any (by kernel_rfl) ?_
      change wpAny _ _ _ _ _ _ _ (World.drew _)
      obtain ⟨W3, hW3⟩ : ∃ W, W = W2.drew := ⟨_, rfl⟩
      rw [← hW3]
      have HB3 : Hid (Blk W3 g 139 (Value.bool s :: v1 :: v2 :: W32 l)) := Lib.hid (by rw [hW3]; exact HS1.out.blk.drew)
      have HX3 : Hid (Blk W3 gx 136 (W32 m)) := Lib.hid (by rw [hW3]; exact HS1.out.xblk.drew)
      have HW3 : Hid (Below g w W3) := Lib.hid (by rw [hW3]; exact HS1.out.below.drew)
      clear hW3 HS1
      refine wpAny_take (i := 0) (v := (.pointer (some ⟨g, 0, none⟩))) rfl (by kernel_rfl) (by kernel_rfl) (by kernel_rfl) (fun _ _ _ h => h) (Or.inl ⟨by rfl, ?_⟩) ?_
      · intro w0
        (go_simp)
      (go_simp)
      refine wpAny_take (i := 1) (v := (.pointer (some ⟨g, 0, none⟩))) rfl (by kernel_rfl) (by kernel_rfl) (by kernel_rfl) (fun _ _ _ h => h) (Or.inl ⟨by rfl, ?_⟩) ?_
      · intro w0
        (go_simp)
      (go_simp)
      refine wpAny_take (i := 3) (v := (.pointer (some ⟨g, 0, none⟩))) rfl (by kernel_rfl) (by kernel_rfl) (by kernel_rfl) (fun _ _ _ h => h) (Or.inl ⟨by rfl, ?_⟩) ?_
      · intro w0
        (go_simp)
      (go_simp)
      refine wpAny_take (i := 4) (v := (.pointer (some ⟨g, 0, none⟩))) rfl (by kernel_rfl) (by kernel_rfl) (by kernel_rfl) (fun _ _ _ h => h) (Or.inl ⟨by rfl, ?_⟩) ?_
      · intro w0
        (go_simp)
      (go_simp)
      refine wpAny_take (i := 5) (v := (.pointer (some ⟨g, 3, none⟩))) rfl (by kernel_rfl) (by kernel_rfl) (by kernel_rfl) (fun _ _ _ h => h) (Or.inl ⟨by rfl, ?_⟩) ?_
      · intro w0
        (go_simp)
      (go_simp)
      refine wpAny_take (i := 7) (v := (.bool t)) rfl (by kernel_rfl) (by kernel_rfl) (by kernel_rfl) (fun _ _ _ h => h) (Or.inl ⟨by rfl, ?_⟩) ?_
      · intro w0
        (go_simp)
      (go_simp)
      refine wpAny_ready (rs := [2, 6]) (by kernel_rfl) (by simp) ?_
      refine AllReady.cons (i := 2) (o := ?_) ?_ (fun K hK => ?_) ?_
      rotate_left
      · simp only [List.getElem?_toArray, List.getElem?_cons_succ, List.getElem?_cons_zero]
        with_reducible rfl
      rotate_left
      refine AllReady.cons (i := 6) (o := ?_) ?_ (fun K hK => ?_) ?_
      rotate_left
      · simp only [List.getElem?_toArray, List.getElem?_cons_succ, List.getElem?_cons_zero]
        with_reducible rfl
      rotate_left
      · exact AllReady.nil
      · refine step_load 136 (.tmp 5) rfl rfl gx 0 (W32 m) rfl (show AggTy Tryd.prog 136 (W32 m).length by rw [W32.len, HML.out]; exact aggWide) HX3.out.row ?_
        go_simp
        refine hK _ _ ?_
        clear hK K
        refine wpAny_ready (rs := [6]) (by kernel_rfl) (by simp) ?_
        refine AllReady.cons (i := 6) (o := ?_) ?_ (fun K hK => ?_) ?_
        rotate_left
        · simp only [List.getElem?_toArray, List.getElem?_cons_succ, List.getElem?_cons_zero]
          with_reducible rfl
        rotate_left
        · exact AllReady.nil
        refine step_load 136 (.tmp 48) rfl rfl g 3 (W32 l) rfl (show AggTy Tryd.prog 136 (W32 l).length by rw [W32.len, HLL.out]; exact aggWide) (fun j u hu => by rw [HB3.out.cell (3 + j), Nat.add_comm 3 j]; exact hu) ?_
        go_simp
        refine hK _ _ ?_
        clear hK K
        refine wpAny_take (i := 8) (v := (.pointer (some ⟨g, 0, none⟩))) rfl (by kernel_rfl) (by kernel_rfl) (by kernel_rfl) (fun _ _ _ h => h) (Or.inl ⟨by rfl, ?_⟩) ?_
        · intro w0
          (go_simp)
        (go_simp)
        refine wpAny_take (i := 9) (v := (.pointer (some ⟨g, 3, none⟩))) rfl (by kernel_rfl) (by kernel_rfl) (by kernel_rfl) (fun _ _ _ h => h) (Or.inl ⟨by rfl, ?_⟩) ?_
        · intro w0
          (go_simp)
        (go_simp)
        refine wpAny_ready (rs := [10]) (by kernel_rfl) (by simp) ?_
        refine AllReady.cons (i := 10) (o := ?_) ?_ (fun K hK => ?_) ?_
        rotate_left
        · simp only [List.getElem?_toArray, List.getElem?_cons_succ, List.getElem?_cons_zero]
          with_reducible rfl
        rotate_left
        · exact AllReady.nil
        refine step_store 136 (.tmp 52) (.tmp 45) rfl rfl g 3 139 (Value.bool s :: v1 :: v2 :: W32 l) (W32 m) rfl rfl (show AggTy Tryd.prog 136 (W32 m).length by rw [W32.len, HML.out]; exact aggWide) HB3.out (by rw [W32.len, HML.out]; show 3 + 74 ≤ (W32 l).length + 1 + 1 + 1; rw [W32.len, HLL.out]; omega) (W32.one m) (fun W4 BR4 hO4 => ?_)
        have HB4 : Hid (Blk W4 g 139 (Value.bool s :: v1 :: v2 :: W32 m)) := Lib.hid (by
          have e : ((Value.bool s :: v1 :: v2 :: W32 l)).take 3 ++ W32 m ++ ((Value.bool s :: v1 :: v2 :: W32 l)).drop (3 + (W32 m).length) = (Value.bool s :: v1 :: v2 :: W32 m) := by
            rw [List.drop_eq_nil_of_le (by rw [W32.len, HML.out]; show (W32 l).length + 1 + 1 + 1 ≤ 3 + 74; rw [W32.len, HLL.out]; omega), List.append_nil]
            rfl
          rw [← e]; exact BR4)
        have HX4 : Hid (Blk W4 gx 136 (W32 m)) := Lib.hid (HX3.out.only hO4 HNE.out)
        have HE4 : Hid (Below g w W4) := Lib.hid (HW3.out.trans (below_only hO4 (Nat.le_refl g)))
        clear BR4 hO4
        go_simp
        refine hK _ _ ?_
        clear hK K
        refine wpAny_ready (rs := [11]) (by kernel_rfl) (by simp) ?_
        refine AllReady.cons (i := 11) (o := ?_) ?_ (fun K hK => ?_) ?_
        rotate_left
        · simp only [List.getElem?_toArray, List.getElem?_cons_succ, List.getElem?_cons_zero]
          with_reducible rfl
        rotate_left
        · exact AllReady.nil
        refine step_store 136 (.tmp 5) (.tmp 49) rfl rfl gx 0 136 (W32 m) (W32 l) rfl rfl (show AggTy Tryd.prog 136 (W32 l).length by rw [W32.len, HLL.out]; exact aggWide) HX4.out (by rw [W32.len, W32.len, HML.out, HLL.out]; omega) (W32.one l) (fun W5 BR5 hO5 => ?_)
        have HX5 : Hid (Blk W5 gx 136 (W32 l)) := Lib.hid (by
          have e : (W32 m).take 0 ++ W32 l ++ (W32 m).drop (0 + (W32 l).length) = W32 l := by
            rw [List.drop_eq_nil_of_le (by rw [W32.len, W32.len, HML.out, HLL.out]; omega)]; simp
          rw [← e]; exact BR5)
        have HB5 : Hid (Blk W5 g 139 (Value.bool s :: v1 :: v2 :: W32 m)) := Lib.hid (HB4.out.only hO5 (Ne.symm HNE.out))
        have HE5 : Hid (Below g w W5) := Lib.hid (HE4.out.trans (below_only hO5 (by have := HGL.out; omega)))
        clear BR5 hO5
        go_simp
        refine hK _ _ ?_
        clear hK K
        have hc5 : W5.cell? ⟨g, 0, none⟩ = some (.bool s) := HB5.out.cell 0
        have hf5 : W5.frozen? ⟨g, 0, none⟩ = false := HB5.out.free 0
        refine wpAny_take (i := 12) (v := (.pointer (some ⟨g, 0, none⟩))) rfl (by kernel_rfl) (by kernel_rfl) (by kernel_rfl) (fun _ _ _ h => h) (Or.inl ⟨by rfl, ?_⟩) ?_
        · intro w0
          (go_simp)
        (go_simp)
        refine wpAny_take (i := 13) (v := (.pointer (some ⟨g, 0, none⟩))) rfl (by kernel_rfl) (by kernel_rfl) (by kernel_rfl) (fun _ _ _ h => h) (Or.inl ⟨by rfl, ?_⟩) ?_
        · intro w0
          (go_simp)
        (go_simp)
        refine wpAny_take (i := 14) (v := (.pointer (some ⟨g, 0, none⟩))) rfl (by kernel_rfl) (by kernel_rfl) (by kernel_rfl) (fun _ _ _ h => h) (Or.inl ⟨by rfl, ?_⟩) ?_
        · intro w0
          (go_simp)
        (go_simp)
        refine wpAny_ready (rs := [15]) (by kernel_rfl) (by simp) ?_
        refine AllReady.cons (i := 15) (o := ?_) ?_ (fun K hK => ?_) ?_
        rotate_left
        · simp only [List.getElem?_toArray, List.getElem?_cons_succ, List.getElem?_cons_zero]
          with_reducible rfl
        rotate_left
        · exact AllReady.nil
        go_simp
        refine hK _ _ ?_
        clear hK K
        refine wpAny_done (by kernel_rfl) ?_ _
        have HS9 : Hid (SumSt w (W5.setCell ⟨g, 0, none⟩ (.bool t)) g gx t v1 v2 m l) := Lib.hid ⟨HB5.out.set 0 _, HX5.out.far HNE.out _, HE5.out.setCell (Nat.le_refl g) _⟩
        obtain ⟨W6, hW6⟩ : ∃ W, W = W5.setCell ⟨g, 0, none⟩ (.bool t) := ⟨_, rfl⟩
        rw [← hW6] at HS9 ⊢
        clear hW6 hc5 hf5
        go_wp2_with fail
        go_loopw [6, 56] (fun c i wr => ∃ (k cc : Nat), ∃ o, k ≤ 74 ∧ i = .int .i64 k ∧ c = .int .u32 cc ∧ Hid (SubI m l k cc o) ∧ Hid (SumSt w wr g gx t v1 v2 o l)) (fun _ i _ => 74 - (intOf i).toNat)
        case atStart => exact ⟨0, 0, m, by omega, rfl, rfl, Lib.hid (SubI.begin HML.out HMB.out), HS9⟩
        case round =>
          obtain ⟨k, cc, o, hk, rfl, rfl, HI, HS⟩ := hrel
          by_cases hlt : k < 74
          · have hki : (k : Int) < 74 := by omega
            obtain ⟨p, hp⟩ : ∃ p, m[k]?.getD 0 = p := ⟨_, rfl⟩
            obtain ⟨q, hq⟩ : ∃ q, l[k]?.getD 0 = q := ⟨_, rfl⟩
            have HP0 : Hid ((Value.bool t :: v1 :: v2 :: W32 o)[k + 3]? = some (.int .u32 p)) := Lib.hid (by
              have h1 := HI.out.rest k (Nat.le_refl _)
              rw [hp] at h1
              show (W32 o)[k]? = _
              have hlt' : k < o.length := by rw [HI.out.len]; exact hlt
              rw [List.getElem?_eq_getElem hlt'] at h1
              exact W32.get (by rw [List.getElem?_eq_getElem hlt']; exact congrArg some h1))
            have HQ0 : Hid ((W32 l)[k]? = some (.int .u32 q)) := Lib.hid (by
              have hlt' : k < l.length := by rw [HLL.out]; exact hlt
              rw [List.getElem?_eq_getElem hlt'] at hq
              exact W32.get (by rw [List.getElem?_eq_getElem hlt']; exact congrArg some hq))
            have HPL : Hid (p < B32 ∧ q < B32 ∧ cc ≤ 1) := Lib.hid ⟨by rw [← hp]; exact HMB.out.get k, by rw [← hq]; exact HLB.out.get k, HI.out.carry⟩
            obtain ⟨t2, s2, ht2, hs2, hst2, ht1⟩ := borrow_ex HPL.out.1 HPL.out.2.1 HPL.out.2.2
            have HNX := True.intro
            have HST := Lib.hid (And.intro ht2 (And.intro hs2 (And.intro hst2 ht1)))
            clear ht2 hs2 hst2 ht1
            have HI2 := Lib.hid (HI.out.next hp hq hlt HST.out.2.1 HST.out.2.2.2 HST.out.2.2.1)
            clear hp hq HNX
            go_wp2_with fail
            obtain ⟨WX, hWX⟩ : ∃ W0, W0 = wr := ⟨_, rfl⟩
            have hB0 : Blk WX g 139 (Value.bool t :: v1 :: v2 :: W32 o) := by rw [hWX]; exact HS.out.blk
            have hC0 : Below g WX WX.drew ∧ Blk WX.drew gx 136 (W32 l) := ⟨(Below.refl _ _).drew, by rw [hWX]; exact HS.out.xblk.drew⟩
            have hBel : Below g w WX := by rw [hWX]; exact HS.out.below
            rw [← hWX]
            clear hWX
            have HGB : Hid (∀ W : World, Below g WX W ∧ Blk W gx 136 (W32 l) → W.cell? ⟨gx, k, none⟩ = some (.int .u32 q)) := Lib.hid fun W hW => by rw [hW.2.cell k]; exact HQ0.out
            have HPC : Hid (∀ W : World, Blk W g 139 (Value.bool t :: v1 :: v2 :: W32 o) → W.cell? ⟨g, 3 + k, none⟩ = some (.int .u32 p)) := Lib.hid fun W hW => by rw [hW.cell (3 + k), Nat.add_comm 3 k]; exact HP0.out
            refine wp_region_flowTail 20 (fun W => Below g WX W ∧ Blk W gx 136 (W32 l)) (fun W => Blk W g 139 (Value.bool t :: v1 :: v2 :: W32 o)) Ext (fun i => if i = 7 then .row (fun v => v = .int .u32 p) (fun _ W => Blk W g 139 (Value.bool t :: v1 :: v2 :: W32 o)) else if i = 12 then .row (fun v => v = .tuple #[.int .u32 s2, .int .u32 t2]) (fun _ W => Blk W g 139 (Value.bool t :: v1 :: v2 :: W32 o)) else if i = 19 then .last else .det) [7, 12] (by kernel_rfl) (by kernel_rfl) (by kernel_rfl) hC0 hB0.drew (fun w1 w2 h1 h2 => h1.ext h2) ?_
            iterate 7 (refine ftext_det rfl rfl ?_; apply Exists.intro; refine ⟨fun w hC => ?_, fun K hK => ?_⟩; (first | (go_simp; exact rfl) | (go_simp; exact ⟨rfl, rfl⟩) | (have hcq : w.cell? ⟨gx, k, none⟩ = some (.int .u32 q) := HGB.out _ hC; go_simp; first | exact rfl | exact ⟨rfl, rfl⟩)); go_simp; refine hK _ ?_; clear hK K)
            refine ftext_row _ _ rfl rfl ⟨_, rfl⟩ (fun v w1 w2 h1 h2 => h1.ext h2) (fun w1 hC hJ Φ hΦ => ?_) (fun v hv K hK => ?_)
            · have hcp : w1.cell? ⟨g, 3 + k, none⟩ = some (.int .u32 p) := HPC.out _ hJ
              go_simp
              exact hΦ _ _ rfl hC (Ext.refl _) hJ
            subst hv
            go_simp; refine hK _ ?_; clear hK K
            iterate 4 (refine ftext_det rfl rfl ?_; apply Exists.intro; refine ⟨fun w hC => ?_, fun K hK => ?_⟩; (first | (go_simp; exact rfl) | (go_simp; exact ⟨rfl, rfl⟩) | (have hcq : w.cell? ⟨gx, k, none⟩ = some (.int .u32 q) := HGB.out _ hC; go_simp; first | exact rfl | exact ⟨rfl, rfl⟩)); go_simp; refine hK _ ?_; clear hK K)
            refine ftext_row _ _ rfl rfl ⟨_, rfl⟩ (fun v w1 w2 h1 h2 => h1.ext h2) (fun w1 hC hJ Φ hΦ => ?_) (fun v hv K hK => ?_)
            · go_simp
              refine (bits_Sub32 p q cc s2 t2 _ HPL.out.1 HPL.out.2.1 HPL.out.2.2 HST.out.1 HST.out.2.1 HST.out.2.2.1).mono ?_
              rintro e w2 ⟨rfl, rfl⟩
              exact ⟨_, rfl, hΦ _ _ rfl hC (Ext.refl _) hJ⟩
            subst hv
            go_simp; refine hK _ ?_; clear hK K
            iterate 6 (refine ftext_det rfl rfl ?_; apply Exists.intro; refine ⟨fun w hC => ?_, fun K hK => ?_⟩; (first | (go_simp; exact rfl) | (go_simp; exact ⟨rfl, rfl⟩) | (have hcq : w.cell? ⟨gx, k, none⟩ = some (.int .u32 q) := HGB.out _ hC; go_simp; first | exact rfl | exact ⟨rfl, rfl⟩)); go_simp; refine hK _ ?_; clear hK K)
            refine ftext_last (fun v => v = undef) (fun _ W => Blk W g 139 (Value.bool t :: v1 :: v2 :: W32 (o.set k s2))) rfl rfl ⟨_, rfl⟩ (fun w1 hC hJ _ Φ hΦ => ?_) (fun v hv K hK => ?_)
            · have hcp : w1.cell? ⟨g, 3 + k, none⟩ = some (.int .u32 p) := HPC.out _ hJ
              have hfp : w1.frozen? ⟨g, 3 + k, none⟩ = false := hJ.free (3 + k)
              have hset : Blk (w1.setCell ⟨g, 3 + k, none⟩ (.int .u32 s2)) g 139 (Value.bool t :: v1 :: v2 :: W32 (o.set k s2)) := by
                have := hJ.set (3 + k) (.int .u32 s2)
                rw [← W32.set]
                rwa [Nat.add_comm 3 k] at this ⊢
              have HF := Lib.hid hset
              clear hset
              go_simp
              exact hΦ _ _ rfl ⟨hC.1.setCell (Nat.le_refl g) _, hC.2.far (by have := HNE.out; exact this) _⟩ HF.out
            subst hv
            go_simp; refine hK _ ?_; clear hK K
            refine ftext_nil ?_
            rintro w1 hC hBn _
            have HS2 : Hid (SumSt w w1 g gx t v1 v2 (o.set k s2) l) := Lib.hid ⟨hBn, hC.2, hBel.trans hC.1⟩
            clear hC hBn hBel
            simp only [List.drop_succ_cons, List.drop_zero]
            refine wplIn_assign Open.wide _ rfl rfl ?_
            refine wpListIn_nil ?_
            go_wp2_with fail
            go_roundw
            case rel => exact ⟨k + 1, t2, _, by omega, by go_num, rfl, HI2, HS2⟩
            case measure => simp [intOf]; omega
          · have hk74 : k = 74 := by omega
            subst hk74
            have HD := Lib.hid (HI.out.done HML.out HLL.out HLE.out)
            go_wp2_with fail
            refine jump_normal ?_
            refine bodyPost_end (results_none rfl _ _ _) rfl ⟨o, rfl, by rw [HPS.out]; exact HS.out.blk, HI.out.len, HI.out.limbs, by rw [HPS.out]; exact HD.out, HS.out.below⟩
      · refine step_load 136 (.tmp 48) rfl rfl g 3 (W32 l) rfl (show AggTy Tryd.prog 136 (W32 l).length by rw [W32.len, HLL.out]; exact aggWide) (fun j u hu => by rw [HB3.out.cell (3 + j), Nat.add_comm 3 j]; exact hu) ?_
        go_simp
        refine hK _ _ ?_
        clear hK K
        refine wpAny_ready (rs := [2]) (by kernel_rfl) (by simp) ?_
        refine AllReady.cons (i := 2) (o := ?_) ?_ (fun K hK => ?_) ?_
        rotate_left
        · simp only [List.getElem?_toArray, List.getElem?_cons_succ, List.getElem?_cons_zero]
          with_reducible rfl
        rotate_left
        · exact AllReady.nil
        refine step_load 136 (.tmp 5) rfl rfl gx 0 (W32 m) rfl (show AggTy Tryd.prog 136 (W32 m).length by rw [W32.len, HML.out]; exact aggWide) HX3.out.row ?_
        go_simp
        refine hK _ _ ?_
        clear hK K
        refine wpAny_take (i := 8) (v := (.pointer (some ⟨g, 0, none⟩))) rfl (by kernel_rfl) (by kernel_rfl) (by kernel_rfl) (fun _ _ _ h => h) (Or.inl ⟨by rfl, ?_⟩) ?_
        · intro w0
          (go_simp)
        (go_simp)
        refine wpAny_take (i := 9) (v := (.pointer (some ⟨g, 3, none⟩))) rfl (by kernel_rfl) (by kernel_rfl) (by kernel_rfl) (fun _ _ _ h => h) (Or.inl ⟨by rfl, ?_⟩) ?_
        · intro w0
          (go_simp)
        (go_simp)
        refine wpAny_ready (rs := [10]) (by kernel_rfl) (by simp) ?_
        refine AllReady.cons (i := 10) (o := ?_) ?_ (fun K hK => ?_) ?_
        rotate_left
        · simp only [List.getElem?_toArray, List.getElem?_cons_succ, List.getElem?_cons_zero]
          with_reducible rfl
        rotate_left
        · exact AllReady.nil
        refine step_store 136 (.tmp 52) (.tmp 45) rfl rfl g 3 139 (Value.bool s :: v1 :: v2 :: W32 l) (W32 m) rfl rfl (show AggTy Tryd.prog 136 (W32 m).length by rw [W32.len, HML.out]; exact aggWide) HB3.out (by rw [W32.len, HML.out]; show 3 + 74 ≤ (W32 l).length + 1 + 1 + 1; rw [W32.len, HLL.out]; omega) (W32.one m) (fun W4 BR4 hO4 => ?_)
        have HB4 : Hid (Blk W4 g 139 (Value.bool s :: v1 :: v2 :: W32 m)) := Lib.hid (by
          have e : ((Value.bool s :: v1 :: v2 :: W32 l)).take 3 ++ W32 m ++ ((Value.bool s :: v1 :: v2 :: W32 l)).drop (3 + (W32 m).length) = (Value.bool s :: v1 :: v2 :: W32 m) := by
            rw [List.drop_eq_nil_of_le (by rw [W32.len, HML.out]; show (W32 l).length + 1 + 1 + 1 ≤ 3 + 74; rw [W32.len, HLL.out]; omega), List.append_nil]
            rfl
          rw [← e]; exact BR4)
        have HX4 : Hid (Blk W4 gx 136 (W32 m)) := Lib.hid (HX3.out.only hO4 HNE.out)
        have HE4 : Hid (Below g w W4) := Lib.hid (HW3.out.trans (below_only hO4 (Nat.le_refl g)))
        clear BR4 hO4
        go_simp
        refine hK _ _ ?_
        clear hK K
        refine wpAny_ready (rs := [11]) (by kernel_rfl) (by simp) ?_
        refine AllReady.cons (i := 11) (o := ?_) ?_ (fun K hK => ?_) ?_
        rotate_left
        · simp only [List.getElem?_toArray, List.getElem?_cons_succ, List.getElem?_cons_zero]
          with_reducible rfl
        rotate_left
        · exact AllReady.nil
        refine step_store 136 (.tmp 5) (.tmp 49) rfl rfl gx 0 136 (W32 m) (W32 l) rfl rfl (show AggTy Tryd.prog 136 (W32 l).length by rw [W32.len, HLL.out]; exact aggWide) HX4.out (by rw [W32.len, W32.len, HML.out, HLL.out]; omega) (W32.one l) (fun W5 BR5 hO5 => ?_)
        have HX5 : Hid (Blk W5 gx 136 (W32 l)) := Lib.hid (by
          have e : (W32 m).take 0 ++ W32 l ++ (W32 m).drop (0 + (W32 l).length) = W32 l := by
            rw [List.drop_eq_nil_of_le (by rw [W32.len, W32.len, HML.out, HLL.out]; omega)]; simp
          rw [← e]; exact BR5)
        have HB5 : Hid (Blk W5 g 139 (Value.bool s :: v1 :: v2 :: W32 m)) := Lib.hid (HB4.out.only hO5 (Ne.symm HNE.out))
        have HE5 : Hid (Below g w W5) := Lib.hid (HE4.out.trans (below_only hO5 (by have := HGL.out; omega)))
        clear BR5 hO5
        go_simp
        refine hK _ _ ?_
        clear hK K
        have hc5 : W5.cell? ⟨g, 0, none⟩ = some (.bool s) := HB5.out.cell 0
        have hf5 : W5.frozen? ⟨g, 0, none⟩ = false := HB5.out.free 0
        refine wpAny_take (i := 12) (v := (.pointer (some ⟨g, 0, none⟩))) rfl (by kernel_rfl) (by kernel_rfl) (by kernel_rfl) (fun _ _ _ h => h) (Or.inl ⟨by rfl, ?_⟩) ?_
        · intro w0
          (go_simp)
        (go_simp)
        refine wpAny_take (i := 13) (v := (.pointer (some ⟨g, 0, none⟩))) rfl (by kernel_rfl) (by kernel_rfl) (by kernel_rfl) (fun _ _ _ h => h) (Or.inl ⟨by rfl, ?_⟩) ?_
        · intro w0
          (go_simp)
        (go_simp)
        refine wpAny_take (i := 14) (v := (.pointer (some ⟨g, 0, none⟩))) rfl (by kernel_rfl) (by kernel_rfl) (by kernel_rfl) (fun _ _ _ h => h) (Or.inl ⟨by rfl, ?_⟩) ?_
        · intro w0
          (go_simp)
        (go_simp)
        refine wpAny_ready (rs := [15]) (by kernel_rfl) (by simp) ?_
        refine AllReady.cons (i := 15) (o := ?_) ?_ (fun K hK => ?_) ?_
        rotate_left
        · simp only [List.getElem?_toArray, List.getElem?_cons_succ, List.getElem?_cons_zero]
          with_reducible rfl
        rotate_left
        · exact AllReady.nil
        go_simp
        refine hK _ _ ?_
        clear hK K
        refine wpAny_done (by kernel_rfl) ?_ _
        have HS9 : Hid (SumSt w (W5.setCell ⟨g, 0, none⟩ (.bool t)) g gx t v1 v2 m l) := Lib.hid ⟨HB5.out.set 0 _, HX5.out.far HNE.out _, HE5.out.setCell (Nat.le_refl g) _⟩
        obtain ⟨W6, hW6⟩ : ∃ W, W = W5.setCell ⟨g, 0, none⟩ (.bool t) := ⟨_, rfl⟩
        rw [← hW6] at HS9 ⊢
        clear hW6 hc5 hf5
        go_wp2_with fail
        go_loopw [6, 56] (fun c i wr => ∃ (k cc : Nat), ∃ o, k ≤ 74 ∧ i = .int .i64 k ∧ c = .int .u32 cc ∧ Hid (SubI m l k cc o) ∧ Hid (SumSt w wr g gx t v1 v2 o l)) (fun _ i _ => 74 - (intOf i).toNat)
        case atStart => exact ⟨0, 0, m, by omega, rfl, rfl, Lib.hid (SubI.begin HML.out HMB.out), HS9⟩
        case round =>
          obtain ⟨k, cc, o, hk, rfl, rfl, HI, HS⟩ := hrel
          by_cases hlt : k < 74
          · have hki : (k : Int) < 74 := by omega
            obtain ⟨p, hp⟩ : ∃ p, m[k]?.getD 0 = p := ⟨_, rfl⟩
            obtain ⟨q, hq⟩ : ∃ q, l[k]?.getD 0 = q := ⟨_, rfl⟩
            have HP0 : Hid ((Value.bool t :: v1 :: v2 :: W32 o)[k + 3]? = some (.int .u32 p)) := Lib.hid (by
              have h1 := HI.out.rest k (Nat.le_refl _)
              rw [hp] at h1
              show (W32 o)[k]? = _
              have hlt' : k < o.length := by rw [HI.out.len]; exact hlt
              rw [List.getElem?_eq_getElem hlt'] at h1
              exact W32.get (by rw [List.getElem?_eq_getElem hlt']; exact congrArg some h1))
            have HQ0 : Hid ((W32 l)[k]? = some (.int .u32 q)) := Lib.hid (by
              have hlt' : k < l.length := by rw [HLL.out]; exact hlt
              rw [List.getElem?_eq_getElem hlt'] at hq
              exact W32.get (by rw [List.getElem?_eq_getElem hlt']; exact congrArg some hq))
            have HPL : Hid (p < B32 ∧ q < B32 ∧ cc ≤ 1) := Lib.hid ⟨by rw [← hp]; exact HMB.out.get k, by rw [← hq]; exact HLB.out.get k, HI.out.carry⟩
            obtain ⟨t2, s2, ht2, hs2, hst2, ht1⟩ := borrow_ex HPL.out.1 HPL.out.2.1 HPL.out.2.2
            have HNX := True.intro
            have HST := Lib.hid (And.intro ht2 (And.intro hs2 (And.intro hst2 ht1)))
            clear ht2 hs2 hst2 ht1
            have HI2 := Lib.hid (HI.out.next hp hq hlt HST.out.2.1 HST.out.2.2.2 HST.out.2.2.1)
            clear hp hq HNX
            go_wp2_with fail
            obtain ⟨WX, hWX⟩ : ∃ W0, W0 = wr := ⟨_, rfl⟩
            have hB0 : Blk WX g 139 (Value.bool t :: v1 :: v2 :: W32 o) := by rw [hWX]; exact HS.out.blk
            have hC0 : Below g WX WX.drew ∧ Blk WX.drew gx 136 (W32 l) := ⟨(Below.refl _ _).drew, by rw [hWX]; exact HS.out.xblk.drew⟩
            have hBel : Below g w WX := by rw [hWX]; exact HS.out.below
            rw [← hWX]
            clear hWX
            have HGB : Hid (∀ W : World, Below g WX W ∧ Blk W gx 136 (W32 l) → W.cell? ⟨gx, k, none⟩ = some (.int .u32 q)) := Lib.hid fun W hW => by rw [hW.2.cell k]; exact HQ0.out
            have HPC : Hid (∀ W : World, Blk W g 139 (Value.bool t :: v1 :: v2 :: W32 o) → W.cell? ⟨g, 3 + k, none⟩ = some (.int .u32 p)) := Lib.hid fun W hW => by rw [hW.cell (3 + k), Nat.add_comm 3 k]; exact HP0.out
            refine wp_region_flowTail 20 (fun W => Below g WX W ∧ Blk W gx 136 (W32 l)) (fun W => Blk W g 139 (Value.bool t :: v1 :: v2 :: W32 o)) Ext (fun i => if i = 7 then .row (fun v => v = .int .u32 p) (fun _ W => Blk W g 139 (Value.bool t :: v1 :: v2 :: W32 o)) else if i = 12 then .row (fun v => v = .tuple #[.int .u32 s2, .int .u32 t2]) (fun _ W => Blk W g 139 (Value.bool t :: v1 :: v2 :: W32 o)) else if i = 19 then .last else .det) [7, 12] (by kernel_rfl) (by kernel_rfl) (by kernel_rfl) hC0 hB0.drew (fun w1 w2 h1 h2 => h1.ext h2) ?_
            iterate 7 (refine ftext_det rfl rfl ?_; apply Exists.intro; refine ⟨fun w hC => ?_, fun K hK => ?_⟩; (first | (go_simp; exact rfl) | (go_simp; exact ⟨rfl, rfl⟩) | (have hcq : w.cell? ⟨gx, k, none⟩ = some (.int .u32 q) := HGB.out _ hC; go_simp; first | exact rfl | exact ⟨rfl, rfl⟩)); go_simp; refine hK _ ?_; clear hK K)
            refine ftext_row _ _ rfl rfl ⟨_, rfl⟩ (fun v w1 w2 h1 h2 => h1.ext h2) (fun w1 hC hJ Φ hΦ => ?_) (fun v hv K hK => ?_)
            · have hcp : w1.cell? ⟨g, 3 + k, none⟩ = some (.int .u32 p) := HPC.out _ hJ
              go_simp
              exact hΦ _ _ rfl hC (Ext.refl _) hJ
            subst hv
            go_simp; refine hK _ ?_; clear hK K
            iterate 4 (refine ftext_det rfl rfl ?_; apply Exists.intro; refine ⟨fun w hC => ?_, fun K hK => ?_⟩; (first | (go_simp; exact rfl) | (go_simp; exact ⟨rfl, rfl⟩) | (have hcq : w.cell? ⟨gx, k, none⟩ = some (.int .u32 q) := HGB.out _ hC; go_simp; first | exact rfl | exact ⟨rfl, rfl⟩)); go_simp; refine hK _ ?_; clear hK K)
            refine ftext_row _ _ rfl rfl ⟨_, rfl⟩ (fun v w1 w2 h1 h2 => h1.ext h2) (fun w1 hC hJ Φ hΦ => ?_) (fun v hv K hK => ?_)
            · go_simp
              refine (bits_Sub32 p q cc s2 t2 _ HPL.out.1 HPL.out.2.1 HPL.out.2.2 HST.out.1 HST.out.2.1 HST.out.2.2.1).mono ?_
              rintro e w2 ⟨rfl, rfl⟩
              exact ⟨_, rfl, hΦ _ _ rfl hC (Ext.refl _) hJ⟩
            subst hv
            go_simp; refine hK _ ?_; clear hK K
            iterate 6 (refine ftext_det rfl rfl ?_; apply Exists.intro; refine ⟨fun w hC => ?_, fun K hK => ?_⟩; (first | (go_simp; exact rfl) | (go_simp; exact ⟨rfl, rfl⟩) | (have hcq : w.cell? ⟨gx, k, none⟩ = some (.int .u32 q) := HGB.out _ hC; go_simp; first | exact rfl | exact ⟨rfl, rfl⟩)); go_simp; refine hK _ ?_; clear hK K)
            refine ftext_last (fun v => v = undef) (fun _ W => Blk W g 139 (Value.bool t :: v1 :: v2 :: W32 (o.set k s2))) rfl rfl ⟨_, rfl⟩ (fun w1 hC hJ _ Φ hΦ => ?_) (fun v hv K hK => ?_)
            · have hcp : w1.cell? ⟨g, 3 + k, none⟩ = some (.int .u32 p) := HPC.out _ hJ
              have hfp : w1.frozen? ⟨g, 3 + k, none⟩ = false := hJ.free (3 + k)
              have hset : Blk (w1.setCell ⟨g, 3 + k, none⟩ (.int .u32 s2)) g 139 (Value.bool t :: v1 :: v2 :: W32 (o.set k s2)) := by
                have := hJ.set (3 + k) (.int .u32 s2)
                rw [← W32.set]
                rwa [Nat.add_comm 3 k] at this ⊢
              have HF := Lib.hid hset
              clear hset
              go_simp
              exact hΦ _ _ rfl ⟨hC.1.setCell (Nat.le_refl g) _, hC.2.far (by have := HNE.out; exact this) _⟩ HF.out
            subst hv
            go_simp; refine hK _ ?_; clear hK K
            refine ftext_nil ?_
            rintro w1 hC hBn _
            have HS2 : Hid (SumSt w w1 g gx t v1 v2 (o.set k s2) l) := Lib.hid ⟨hBn, hC.2, hBel.trans hC.1⟩
            clear hC hBn hBel
            simp only [List.drop_succ_cons, List.drop_zero]
            refine wplIn_assign Open.wide _ rfl rfl ?_
            refine wpListIn_nil ?_
            go_wp2_with fail
            go_roundw
            case rel => exact ⟨k + 1, t2, _, by omega, by go_num, rfl, HI2, HS2⟩
            case measure => simp [intOf]; omega
          · have hk74 : k = 74 := by omega
            subst hk74
            have HD := Lib.hid (HI.out.done HML.out HLL.out HLE.out)
            go_wp2_with fail
            refine jump_normal ?_
            refine bodyPost_end (results_none rfl _ _ _) rfl ⟨o, rfl, by rw [HPS.out]; exact HS.out.blk, HI.out.len, HI.out.limbs, by rw [HPS.out]; exact HD.out, HS.out.below⟩
    · have d1 : decide (val B32 l < val B32 m) = false := decide_eq_false hlm
      have HPS : Hid (plusS s (val B32 l) t (val B32 m) = (s, val B32 l - val B32 m)) := Lib.hid (by unfold plusS; rw [if_neg (fun h => hst h.symm), if_pos (by omega)])
      have HLE : Hid (val B32 m ≤ val B32 l) := Lib.hid (by omega)
      clear hlm hst
      go_wp2_with fail
      go_loopw [6, 56] (fun c i wr => ∃ (k cc : Nat), ∃ o, k ≤ 74 ∧ i = .int .i64 k ∧ c = .int .u32 cc ∧ Hid (SubI l m k cc o) ∧ Hid (SumSt w wr g gx s v1 v2 o m)) (fun _ i _ => 74 - (intOf i).toNat)
      case atStart => exact ⟨0, 0, l, by omega, rfl, rfl, Lib.hid (SubI.begin HLL.out HLB.out), HS1⟩
      case round =>
        obtain ⟨k, cc, o, hk, rfl, rfl, HI, HS⟩ := hrel
        by_cases hlt : k < 74
        · have hki : (k : Int) < 74 := by omega
          obtain ⟨p, hp⟩ : ∃ p, l[k]?.getD 0 = p := ⟨_, rfl⟩
          obtain ⟨q, hq⟩ : ∃ q, m[k]?.getD 0 = q := ⟨_, rfl⟩
          have HP0 : Hid ((Value.bool s :: v1 :: v2 :: W32 o)[k + 3]? = some (.int .u32 p)) := Lib.hid (by
            have h1 := HI.out.rest k (Nat.le_refl _)
            rw [hp] at h1
            show (W32 o)[k]? = _
            have hlt' : k < o.length := by rw [HI.out.len]; exact hlt
            rw [List.getElem?_eq_getElem hlt'] at h1
            exact W32.get (by rw [List.getElem?_eq_getElem hlt']; exact congrArg some h1))
          have HQ0 : Hid ((W32 m)[k]? = some (.int .u32 q)) := Lib.hid (by
            have hlt' : k < m.length := by rw [HML.out]; exact hlt
            rw [List.getElem?_eq_getElem hlt'] at hq
            exact W32.get (by rw [List.getElem?_eq_getElem hlt']; exact congrArg some hq))
          have HPL : Hid (p < B32 ∧ q < B32 ∧ cc ≤ 1) := Lib.hid ⟨by rw [← hp]; exact HLB.out.get k, by rw [← hq]; exact HMB.out.get k, HI.out.carry⟩
          obtain ⟨t2, s2, ht2, hs2, hst2, ht1⟩ := borrow_ex HPL.out.1 HPL.out.2.1 HPL.out.2.2
          have HNX := True.intro
          have HST := Lib.hid (And.intro ht2 (And.intro hs2 (And.intro hst2 ht1)))
          clear ht2 hs2 hst2 ht1
          have HI2 := Lib.hid (HI.out.next hp hq hlt HST.out.2.1 HST.out.2.2.2 HST.out.2.2.1)
          clear hp hq HNX
          go_wp2_with fail
          obtain ⟨WX, hWX⟩ : ∃ W0, W0 = wr := ⟨_, rfl⟩
          have hB0 : Blk WX g 139 (Value.bool s :: v1 :: v2 :: W32 o) := by rw [hWX]; exact HS.out.blk
          have hC0 : Below g WX WX.drew ∧ Blk WX.drew gx 136 (W32 m) := ⟨(Below.refl _ _).drew, by rw [hWX]; exact HS.out.xblk.drew⟩
          have hBel : Below g w WX := by rw [hWX]; exact HS.out.below
          rw [← hWX]
          clear hWX
          have HGB : Hid (∀ W : World, Below g WX W ∧ Blk W gx 136 (W32 m) → W.cell? ⟨gx, k, none⟩ = some (.int .u32 q)) := Lib.hid fun W hW => by rw [hW.2.cell k]; exact HQ0.out
          have HPC : Hid (∀ W : World, Blk W g 139 (Value.bool s :: v1 :: v2 :: W32 o) → W.cell? ⟨g, 3 + k, none⟩ = some (.int .u32 p)) := Lib.hid fun W hW => by rw [hW.cell (3 + k), Nat.add_comm 3 k]; exact HP0.out
          refine wp_region_flowTail 20 (fun W => Below g WX W ∧ Blk W gx 136 (W32 m)) (fun W => Blk W g 139 (Value.bool s :: v1 :: v2 :: W32 o)) Ext (fun i => if i = 7 then .row (fun v => v = .int .u32 p) (fun _ W => Blk W g 139 (Value.bool s :: v1 :: v2 :: W32 o)) else if i = 12 then .row (fun v => v = .tuple #[.int .u32 s2, .int .u32 t2]) (fun _ W => Blk W g 139 (Value.bool s :: v1 :: v2 :: W32 o)) else if i = 19 then .last else .det) [7, 12] (by kernel_rfl) (by kernel_rfl) (by kernel_rfl) hC0 hB0.drew (fun w1 w2 h1 h2 => h1.ext h2) ?_
          iterate 7 (refine ftext_det rfl rfl ?_; apply Exists.intro; refine ⟨fun w hC => ?_, fun K hK => ?_⟩; (first | (go_simp; exact rfl) | (go_simp; exact ⟨rfl, rfl⟩) | (have hcq : w.cell? ⟨gx, k, none⟩ = some (.int .u32 q) := HGB.out _ hC; go_simp; first | exact rfl | exact ⟨rfl, rfl⟩)); go_simp; refine hK _ ?_; clear hK K)
          refine ftext_row _ _ rfl rfl ⟨_, rfl⟩ (fun v w1 w2 h1 h2 => h1.ext h2) (fun w1 hC hJ Φ hΦ => ?_) (fun v hv K hK => ?_)
          · have hcp : w1.cell? ⟨g, 3 + k, none⟩ = some (.int .u32 p) := HPC.out _ hJ
            go_simp
            exact hΦ _ _ rfl hC (Ext.refl _) hJ
          subst hv
          go_simp; refine hK _ ?_; clear hK K
          iterate 4 (refine ftext_det rfl rfl ?_; apply Exists.intro; refine ⟨fun w hC => ?_, fun K hK => ?_⟩; (first | (go_simp; exact rfl) | (go_simp; exact ⟨rfl, rfl⟩) | (have hcq : w.cell? ⟨gx, k, none⟩ = some (.int .u32 q) := HGB.out _ hC; go_simp; first | exact rfl | exact ⟨rfl, rfl⟩)); go_simp; refine hK _ ?_; clear hK K)
          refine ftext_row _ _ rfl rfl ⟨_, rfl⟩ (fun v w1 w2 h1 h2 => h1.ext h2) (fun w1 hC hJ Φ hΦ => ?_) (fun v hv K hK => ?_)
          · go_simp
            refine (bits_Sub32 p q cc s2 t2 _ HPL.out.1 HPL.out.2.1 HPL.out.2.2 HST.out.1 HST.out.2.1 HST.out.2.2.1).mono ?_
            rintro e w2 ⟨rfl, rfl⟩
            exact ⟨_, rfl, hΦ _ _ rfl hC (Ext.refl _) hJ⟩
          subst hv
          go_simp; refine hK _ ?_; clear hK K
          iterate 6 (refine ftext_det rfl rfl ?_; apply Exists.intro; refine ⟨fun w hC => ?_, fun K hK => ?_⟩; (first | (go_simp; exact rfl) | (go_simp; exact ⟨rfl, rfl⟩) | (have hcq : w.cell? ⟨gx, k, none⟩ = some (.int .u32 q) := HGB.out _ hC; go_simp; first | exact rfl | exact ⟨rfl, rfl⟩)); go_simp; refine hK _ ?_; clear hK K)
          refine ftext_last (fun v => v = undef) (fun _ W => Blk W g 139 (Value.bool s :: v1 :: v2 :: W32 (o.set k s2))) rfl rfl ⟨_, rfl⟩ (fun w1 hC hJ _ Φ hΦ => ?_) (fun v hv K hK => ?_)
          · have hcp : w1.cell? ⟨g, 3 + k, none⟩ = some (.int .u32 p) := HPC.out _ hJ
            have hfp : w1.frozen? ⟨g, 3 + k, none⟩ = false := hJ.free (3 + k)
            have hset : Blk (w1.setCell ⟨g, 3 + k, none⟩ (.int .u32 s2)) g 139 (Value.bool s :: v1 :: v2 :: W32 (o.set k s2)) := by
              have := hJ.set (3 + k) (.int .u32 s2)
              rw [← W32.set]
              rwa [Nat.add_comm 3 k] at this ⊢
            have HF := Lib.hid hset
            clear hset
            go_simp
            exact hΦ _ _ rfl ⟨hC.1.setCell (Nat.le_refl g) _, hC.2.far (by have := HNE.out; exact this) _⟩ HF.out
          subst hv
          go_simp; refine hK _ ?_; clear hK K
          refine ftext_nil ?_
          rintro w1 hC hBn _
          have HS2 : Hid (SumSt w w1 g gx s v1 v2 (o.set k s2) m) := Lib.hid ⟨hBn, hC.2, hBel.trans hC.1⟩
          clear hC hBn hBel
          simp only [List.drop_succ_cons, List.drop_zero]
          refine wplIn_assign Open.wide _ rfl rfl ?_
          refine wpListIn_nil ?_
          go_wp2_with fail
          go_roundw
          case rel => exact ⟨k + 1, t2, _, by omega, by go_num, rfl, HI2, HS2⟩
          case measure => simp [intOf]; omega
        · have hk74 : k = 74 := by omega
          subst hk74
          have HD := Lib.hid (HI.out.done HLL.out HML.out HLE.out)
          go_wp2_with fail
          refine jump_normal ?_
          refine bodyPost_end (results_none rfl _ _ _) rfl ⟨o, rfl, by rw [HPS.out]; exact HS.out.blk, HI.out.len, HI.out.limbs, by rw [HPS.out]; exact HD.out, HS.out.below⟩
end Go.Proofs.YtgcbnagfdfgpnaaDoor
