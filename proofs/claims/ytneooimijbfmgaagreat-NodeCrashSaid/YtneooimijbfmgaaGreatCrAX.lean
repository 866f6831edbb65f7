import Derived.Test.YtneooimijbfmgaaGreatProg
import Derived.KernelRfl
import Derived.Test.YtneooimijbfmgaaGreatCrAS
import Derived.Test.YtneooimijbfmgaaGreatCrAT
import Derived.Test.YtneooimijbfmgaaGreatCrAU
import Derived.Test.YtneooimijbfmgaaGreatCrAV
import Derived.Test.YtneooimijbfmgaaGreatCrAW
set_option linter.unusedVariables false
set_option linter.unusedSimpArgs false
set_option linter.unusedSectionVars false
namespace Go.Vc
open Classical
noncomputable def t_tags : ConT := ⟨[kn, kn], [kl, kn], fun aa => 0 ≤ ni aa 0 ∧ ni aa 0 ≤ 65535 ∧ 0 ≤ ni aa 1 ∧ ni aa 1 ≤ 7, fun aa rs => ∃ l, rs = [vl l, vn 0] ∧ LSh [s32] l ∧ p_tags (ni aa 0) (ni aa 1) l⟩
noncomputable def V_tags : Prop := ∀ (x0 x1 : Int), Ob ((0 : Int) ≤ x0 ∧ x0 ≤ (65535 : Int) ∧ (0 : Int) ≤ x1 ∧ x1 ≤ (7 : Int)) → ∀ (R : List DV → Prop), Ob (∀ (res : List DV), (∃ l, res = [vl l, vn (0 : Int)] ∧ LSh [s32] l ∧ p_tags x0 x1 l) → R res) → (x0 < (0 : Int) → Ob (R [vl [], vn (2 : Int)])) ∧ (¬x0 < (0 : Int) → (x0 > (65535 : Int) → Ob (R [vl [], vn (2 : Int)])) ∧ (¬x0 > (65535 : Int) → (x1 < (0 : Int) → Ob (R [vl [], vn (2 : Int)])) ∧ (¬x1 < (0 : Int) → (x1 ≥ (8 : Int) → Ob (R [vl [], vn (2 : Int)])) ∧ (¬x1 ≥ (8 : Int) → Ob ((0 : Int) ≤ (0 : Int) ∧ (0 : Int) ≤ (4 : Int) ∧ tgU x0 x1 [] (0 : Int)) ∧ ∀ (g3 : Nat → Value) (x4 : Int) (l5 : List (List D)), Ob ((0 : Int) ≤ x4 ∧ x4 ≤ (4 : Int) ∧ tgU x0 x1 l5 x4) → (x4 < (4 : Int) → ∀ (x6 : Int), x6 = w64 (x0 * (8 : Int)) → ∀ (x7 : Int), x7 = w64 (x6 + x1) → ∀ (x8 : Int), x8 = w64 (x7 * (4 : Int)) → ∀ (x9 : Int), x9 = w64 (x8 + x4) → ∀ (x10 : Int), x10 = IntKind.wrap IntKind.u32 x9 → Ob True ∧ ∀ (x11 : Int), Ob ([v32 x11] = [v32 (stir x10)]) → Ob (List.length l5 + List.length [[d32 x11]] ≤ (1048576 : Nat)) ∧ ∀ (l12 : List (List D)), l12 = l5 ++ [[d32 x11]] → ∀ (x13 : Int), x13 = w64 (x4 + (1 : Int)) → Ob ((0 : Int) ≤ x13 ∧ x13 ≤ (4 : Int) ∧ tgU x0 x1 l12 x13) ∧ Ob ((4 : Nat) - Int.toNat x13 < (4 : Nat) - Int.toNat x4)) ∧ (¬x4 < (4 : Int) → ∀ (x14 : Int), x14 = (↑(List.length l5) : Int) → ∀ (x15 : Int), x15 = IntKind.wrap IntKind.u64 x14 → Ob ((0 : Int) ≤ x15 ∧ x15 < (16 : Int)) ∧ ∀ (x16 : Int), Ob (∃ x, [vn x16] = [vn x]) → ∀ (x17 : Int), x17 = w64 (x14 - (0 : Int)) → Ob (x17 ≤ (12 : Int)) ∧ Ob ((1 : Int) ≤ w64 ((0 : Int) + (1 : Int)) ∧ w64 ((0 : Int) + (1 : Int)) ≤ (4 : Int) ∧ tgI x0 x1 l5 (w64 ((0 : Int) + (1 : Int)))) ∧ ∀ (g18 : Nat → Value) (x19 : Int) (l20 : List (List D)), Ob ((1 : Int) ≤ x19 ∧ x19 ≤ (4 : Int) ∧ tgI x0 x1 l20 x19) → (x19 < x14 → Ob ((0 : Int) ≤ x19 ∧ x19 ≤ x19 ∧ tgJ x0 x1 l20 x19 x19) ∧ ∀ (g21 : Nat → Value) (x22 : Int) (l23 : List (List D)), Ob ((0 : Int) ≤ x22 ∧ x22 ≤ x19 ∧ tgJ x0 x1 l23 x19 x22) → (x22 > (0 : Int) → Ob ((0 : Int) ≤ x22 ∧ x22 < (↑(List.length l23) : Int)) ∧ ∀ (x24 : Int), x24 = x22 → Ob ((0 : Int) ≤ x24 ∧ x24 < (↑(List.length l23) : Int)) ∧ Ob (Shp [Kd.int IntKind.u32] l23) ∧ ∀ (x25 : Int), Ob (l23[Int.toNat x24]? = some [d32 x25]) → ∀ (x26 : Int), x26 = w64 (x22 - (1 : Int)) → Ob ((0 : Int) ≤ x26 ∧ x26 < (↑(List.length l23) : Int)) ∧ ∀ (x27 : Int), x27 = x26 → Ob ((0 : Int) ≤ x27 ∧ x27 < (↑(List.length l23) : Int)) ∧ Ob (Shp [Kd.int IntKind.u32] l23) ∧ ∀ (x28 : Int), Ob (l23[Int.toNat x27]? = some [d32 x28]) → Ob True ∧ ∀ (b29 : Bool), Ob ([vb b29] = [vb (decide (x25 < x28))]) → (b29 = true → ∀ (x30 : Int), x30 = w64 (x22 - (1 : Int)) → ∀ (x31 : Int), x31 = w64 (x22 - (1 : Int)) → Ob ((0 : Int) ≤ x31 ∧ x31 < (↑(List.length l23) : Int)) ∧ ∀ (x32 : Int), x32 = x31 → Ob ((0 : Int) ≤ x32 ∧ x32 < (↑(List.length l23) : Int)) ∧ Ob (Shp [Kd.int IntKind.u32] l23) ∧ ∀ (x33 : Int), Ob (l23[Int.toNat x32]? = some [d32 x33]) → Ob ((0 : Int) ≤ x22 ∧ x22 < (↑(List.length l23) : Int)) ∧ ∀ (x34 : Int), x34 = x22 → Ob ((0 : Int) ≤ x34 ∧ x34 < (↑(List.length l23) : Int)) ∧ Ob (Shp [Kd.int IntKind.u32] l23) ∧ ∀ (x35 : Int), Ob (l23[Int.toNat x34]? = some [d32 x35]) → Ob ((0 : Int) ≤ x22 ∧ x22 < (↑(List.length l23) : Int)) ∧ ∀ (x36 : Int), x36 = x22 → Ob ((0 : Int) ≤ x36 ∧ x36 < (↑(List.length l23) : Int)) ∧ ∀ (l37 : List (List D)), l37 = List.set l23 (Int.toNat x36) [d32 x33] → Ob ((0 : Int) ≤ x30 ∧ x30 < (↑(List.length l37) : Int)) ∧ ∀ (x38 : Int), x38 = x30 → Ob ((0 : Int) ≤ x38 ∧ x38 < (↑(List.length l37) : Int)) ∧ ∀ (l39 : List (List D)), l39 = List.set l37 (Int.toNat x38) [d32 x35] → ∀ (x40 : Int), x40 = w64 (x22 - (1 : Int)) → Ob ((0 : Int) ≤ x40 ∧ x40 ≤ x19 ∧ tgJ x0 x1 l39 x19 x40) ∧ Ob (Int.toNat x40 < Int.toNat x22)) ∧ (b29 = false → ∀ (x41 : Int), x41 = w64 (x19 + (1 : Int)) → Ob ((1 : Int) ≤ x41 ∧ x41 ≤ (4 : Int) ∧ tgI x0 x1 l23 x41) ∧ Ob ((4 : Nat) - Int.toNat x41 < (4 : Nat) - Int.toNat x19))) ∧ (¬x22 > (0 : Int) → ∀ (x42 : Int), x42 = w64 (x19 + (1 : Int)) → Ob ((1 : Int) ≤ x42 ∧ x42 ≤ (4 : Int) ∧ tgI x0 x1 l23 x42) ∧ Ob ((4 : Nat) - Int.toNat x42 < (4 : Nat) - Int.toNat x19))) ∧ (¬x19 < x14 → Ob (R [vl l20, vn (0 : Int)])))))))
set_option maxRecDepth 100000 in
theorem vcEq_tags : vcFn Go.Proofs.Tryz.prog k0 (cxf [(263, t_stir), (313, t_less32), (295, t_lenU)] [(204000, 0, some ⟨[1, 0], [21], [], [kn], [⟨4, 154, 1, true, .tmp⟩], fun ρ ds => 0 ≤ ni ds 0 ∧ ni ds 0 ≤ 4 ∧ tgU (ρ.n 0) (ρ.n 1) (li ds 1) (ni ds 0), fun ρ ds => 4 - (ni ds 0).toNat⟩), (204001488041922128, 0, none), (204002100046386254073412, 0, some ⟨[0, 1, 2], [6], [], [kn], [⟨0, 154, 1, true, .row 4⟩], fun ρ ds => 1 ≤ ni ds 0 ∧ ni ds 0 ≤ 4 ∧ tgI (ρ.n 0) (ρ.n 1) (li ds 1) (ni ds 0), fun ρ ds => 4 - (ni ds 0).toNat⟩), (204002100046386254073412, 2, some ⟨[0, 1, 2, 6], [7], [], [kn], [⟨0, 154, 1, true, .row 4⟩], fun ρ ds => 0 ≤ ni ds 0 ∧ ni ds 0 ≤ ρ.n 9 ∧ tgJ (ρ.n 0) (ρ.n 1) (li ds 1) (ρ.n 9) (ni ds 0), fun ρ ds => (ni ds 0).toNat⟩)] [(204001488041922128, 24, true)] [(263, f_stir), (313, f_less32)]) 3000 204 Go.Proofs.Tryz.f204 (bodyOf Go.Proofs.Tryz.f204) t_tags = V_tags := by kernel_rfl
set_option maxHeartbeats 4000000 in
set_option maxRecDepth 20000 in
theorem vcPf_tags : V_tags := by
  delta V_tags
  simp only [ob_iff, and_imp, forall_exists_index, true_and, and_true, List.cons.injEq, DV.c.injEq, DV.a.injEq, D.raw.injEq, D.fs.injEq, Value.bool.injEq, Value.int.injEq]
  intro x0 x1 h1 h2 h3 h4 R hR
  repeat' first | assumption | exact DShs.tail (DSh_nth (by assumption) (by assumption)) | exact shp32 (by assumption) | exact shp64 (by assumption) | exact shp2 (by assumption) | exact shpF (by assumption) | with_reducible intro _ | with_reducible apply And.intro
  all_goals (try subst_vars)
  all_goals (try simp (disch := omega) only [w64_id] at *)
  all_goals first
    | omega
    | assumption
    | exact tgU.zero
    | exact tgU.suc (by assumption) (by omega)
    | (have q := tgU.len (by assumption); simp only [List.length_cons, List.length_nil]; omega)
    | (have q := tgU.len (by assumption); have q2 := u64_len (show _ ≤ 8 by omega); omega)
    | exact (u64_len (by have q := tgU.len (by assumption); omega)).1
    | exact (u64_len (by have q := tgU.len (by assumption); omega)).2
    | exact tgU.fin (by assumption) (by omega)
    | exact tgI.into (by assumption)
    | exact tgJ.shp (by assumption)
    | (have q := tgJ.len (by assumption); have q2 := tgU.len (by assumption); omega)
    | (have q := tgJ.len (by assumption); have q2 := tgU.len (by assumption); simp only [List.length_set]; omega)
    | (have q := tgU.len (by assumption); rw [w64_id (by omega) (by omega)]; omega)
    | exact tgJ.step (by assumption) (by assumption) (by omega) (by omega) (by have q := tgU.len (by assumption); omega) (by assumption) (by assumption) (by assumption) (by assumption)
    | exact tgJ.stop (by assumption) (by assumption) (by omega) (by assumption) (by assumption)
    | exact tgJ.out (by assumption) (by omega) (Or.inl (by omega))
    | exact hR _ _ rfl (tgI.sh (by assumption)).1 (tgI.sh (by assumption)).2 (tgI.fin' (by assumption) (by have q := tgU.len (by assumption); omega))
    | trace_state

theorem con_tags : Con Go.Proofs.Tryz.prog k0 204 t_tags :=
  con_of (cxf_ok mixOk (fun p hp => by
    simp only [List.mem_cons, List.not_mem_nil, or_false] at hp
    rcases hp with rfl | rfl | rfl
    · exact con_stir
    · exact con_less32
    · exact con_lenU) (fun p hp => by
    simp only [List.mem_cons, List.not_mem_nil, or_false] at hp
    rcases hp with rfl | rfl
    · intro t ht; cases ht; exact fn_stir
    · intro t ht; cases ht; exact fn_less32)) Go.Proofs.Tryz.func204 rfl rfl rfl rfl vcEq_tags vcPf_tags
end Go.Vc

namespace Go.Vc
open Classical
noncomputable def t_nodeSeedE : ConT := ⟨[rkS nodeS, kb], [rkS nodeS, kn], fun aa => DShs nodeS (ai aa 0) ∧ (gL (ai aa 0) 30).length = 0 ∧ (gL (ai aa 0) 31).length = 0, fun aa rs => ∃ x d, rs = [.a d, vn x] ∧ o_seed (ai aa 0) (bi aa 1) d x⟩
noncomputable def V_nodeSeedE : Prop := ∀ (x0 x1 : Int) (b2 : Bool) (x3 x4 x5 x6 x7 : Int) (b8 : Bool) (l9 : List (List D)) (x10 : Int) (b11 : Bool) (l12 : List (List D)) (x13 : Int) (b14 : Bool) (l15 : List (List D)) (x16 : Int) (b17 : Bool) (l18 : List (List D)) (x19 : Int) (b20 : Bool) (x21 x22 : Int) (l23 : List (List D)) (b24 : Bool) (x25 x26 : Int) (l27 : List (List D)) (x28 x29 : Int) (l30 l31 l32 : List (List D)) (b33 : Bool), Ob (DShs nodeS [dn x0, dn x1, db b2, dn x3, dn x4, dn x5, dn x6, dn x7, db b8, D.fs l9, dn x10, db b11, D.fs l12, dn x13, db b14, D.fs l15, dn x16, db b17, D.fs l18, dn x19, db b20, dn x21, dn x22, D.fs l23, db b24, dn x25, dn x26, D.fs l27, dn x28, dn x29, D.fs l30, D.fs l31, D.fs l32] ∧ List.length l30 = (0 : Nat) ∧ List.length l31 = (0 : Nat)) → ∀ (R : List DV → Prop), Ob (∀ (res : List DV), (∃ x d, res = [DV.a d, vn x] ∧ o_seed [dn x0, dn x1, db b2, dn x3, dn x4, dn x5, dn x6, dn x7, db b8, D.fs l9, dn x10, db b11, D.fs l12, dn x13, db b14, D.fs l15, dn x16, db b17, D.fs l18, dn x19, db b20, dn x21, dn x22, D.fs l23, db b24, dn x25, dn x26, D.fs l27, dn x28, dn x29, D.fs l30, D.fs l31, D.fs l32] b33 d x) → R res) → Ob (DShs nodeS [dn x0, dn x1, db b2, dn x3, dn x4, dn x5, dn x6, dn x7, db b8, D.fs l9, dn x10, db b11, D.fs l12, dn x13, db b14, D.fs l15, dn x16, db b17, D.fs l18, dn x19, db b20, dn x21, dn x22, D.fs l23, db b24, dn x25, dn x26, D.fs l27, dn x28, dn x29, D.fs l30, D.fs l31, D.fs l32] ∧ List.length l30 = (0 : Nat)) ∧ ∀ (x35 : Int), Ob (∃ x, [vn x35] = [vn x] ∧ (x = (0 : Int) ↔ p_nodeW [dn x0, dn x1, db b2, dn x3, dn x4, dn x5, dn x6, dn x7, db b8, D.fs l9, dn x10, db b11, D.fs l12, dn x13, db b14, D.fs l15, dn x16, db b17, D.fs l18, dn x19, db b20, dn x21, dn x22, D.fs l23, db b24, dn x25, dn x26, D.fs l27, dn x28, dn x29, D.fs l30, D.fs l31, D.fs l32])) → (x35 ≠ (0 : Int) → (x35 ≠ (0 : Int) → Ob (R [DV.a [dn (0 : Int), dn (0 : Int), db false, dn (0 : Int), dn (0 : Int), dn (0 : Int), dn (0 : Int), dn (0 : Int), db false, D.fs [], dn (0 : Int), db false, D.fs [], dn (0 : Int), db false, D.fs [], dn (0 : Int), db false, D.fs [], dn (0 : Int), db false, dn (0 : Int), dn (0 : Int), D.fs [], db false, dn (0 : Int), dn (0 : Int), D.fs [], dn (0 : Int), dn (0 : Int), D.fs [], D.fs [], D.fs []], vn x35])) ∧ (¬x35 ≠ (0 : Int) → Ob False)) ∧ (¬x35 ≠ (0 : Int) → (b2 = false → Ob (R [DV.a [dn (0 : Int), dn (0 : Int), db false, dn (0 : Int), dn (0 : Int), dn (0 : Int), dn (0 : Int), dn (0 : Int), db false, D.fs [], dn (0 : Int), db false, D.fs [], dn (0 : Int), db false, D.fs [], dn (0 : Int), db false, D.fs [], dn (0 : Int), db false, dn (0 : Int), dn (0 : Int), D.fs [], db false, dn (0 : Int), dn (0 : Int), D.fs [], dn (0 : Int), dn (0 : Int), D.fs [], D.fs [], D.fs []], vn (14 : Int)])) ∧ (¬b2 = false → Ob (DShs partS [db b8, D.fs l9, dn x10, db b11, D.fs l12, dn x13, db b14, D.fs l15, dn x16, db b17, D.fs l18, dn x19, db b20, dn x21, dn x22, D.fs l23] ∧ List.length l9 ≤ (1048576 : Nat) ∧ List.length l12 ≤ (1048576 : Nat) ∧ List.length l15 ≤ (1048576 : Nat) ∧ List.length l18 ≤ (1048576 : Nat) ∧ List.length l23 ≤ (1048576 : Nat)) ∧ ∀ (b36 : Bool) (l37 : List (List D)) (x38 : Int) (b39 : Bool) (l40 : List (List D)) (x41 : Int) (b42 : Bool) (l43 : List (List D)) (x44 : Int) (b45 : Bool) (l46 : List (List D)) (x47 : Int) (b48 : Bool) (x49 x50 : Int) (l51 : List (List D)), Ob ([DV.a [db b36, D.fs l37, dn x38, db b39, D.fs l40, dn x41, db b42, D.fs l43, dn x44, db b45, D.fs l46, dn x47, db b48, dn x49, dn x50, D.fs l51]] = [DV.a [db b8, D.fs l9, dn x10, db b11, D.fs l12, dn x13, db b14, D.fs l15, dn x16, db b17, D.fs l18, dn x19, db b20, dn x21, dn x22, D.fs l23]]) → Ob (LSh [s64] l27 ∧ List.length l27 ≤ (1048576 : Nat)) ∧ ∀ (l52 : List (List D)), Ob ([vl l52] = [vl l27]) → Ob (DShs cacheS [dn x28, dn x29, D.fs l30] ∧ List.length l30 ≤ (1048576 : Nat)) ∧ ∀ (x53 x54 : Int) (l55 : List (List D)), Ob ([DV.a [dn x53, dn x54, D.fs l55]] = [DV.a [dn x28, dn x29, D.fs l30]]) → (l31 = [] → Ob (LSh pairS l32 ∧ List.length l32 ≤ (1048576 : Nat)) ∧ ∀ (l56 : List (List D)), Ob ([vl l56] = [vl l32]) → (x6 ≥ x7 → Ob (DShs partS [db b36, D.fs l37, dn x38, db b39, D.fs l40, dn x41, db b42, D.fs l43, dn x44, db b45, D.fs l46, dn x47, db b48, dn x49, dn x50, D.fs l51] ∧ DShs partS [db false, D.fs [], dn (0 : Int), db false, D.fs [], dn (0 : Int), db false, D.fs [], dn (0 : Int), db false, D.fs [], dn (0 : Int), db false, dn (0 : Int), dn (0 : Int), D.fs []]) ∧ ∀ (b57 : Bool), Ob ([vb b57] = [vb (decide ([db b36, D.fs l37, dn x38, db b39, D.fs l40, dn x41, db b42, D.fs l43, dn x44, db b45, D.fs l46, dn x47, db b48, dn x49, dn x50, D.fs l51] = [db false, D.fs [], dn (0 : Int), db false, D.fs [], dn (0 : Int), db false, D.fs [], dn (0 : Int), db false, D.fs [], dn (0 : Int), db false, dn (0 : Int), dn (0 : Int), D.fs []]))]) → (b57 = false → Ob (R [DV.a [dn (0 : Int), dn (0 : Int), db false, dn (0 : Int), dn (0 : Int), dn (0 : Int), dn (0 : Int), dn (0 : Int), db false, D.fs [], dn (0 : Int), db false, D.fs [], dn (0 : Int), db false, D.fs [], dn (0 : Int), db false, D.fs [], dn (0 : Int), db false, dn (0 : Int), dn (0 : Int), D.fs [], db false, dn (0 : Int), dn (0 : Int), D.fs [], dn (0 : Int), dn (0 : Int), D.fs [], D.fs [], D.fs []], vn (12 : Int)])) ∧ (¬b57 = false → Ob (inV x1) ∧ ∀ (b58 : Bool) (l59 : List (List D)) (x60 : Int) (b61 : Bool) (l62 : List (List D)) (x63 : Int) (b64 : Bool) (l65 : List (List D)) (x66 : Int) (b67 : Bool) (l68 : List (List D)) (x69 x70 : Int), Ob ([DV.a [db b58, D.fs l59, dn x60, db b61, D.fs l62, dn x63, db b64, D.fs l65, dn x66, db b67, D.fs l68, dn x69], vn x70] = [DV.a [db (decide (x1 < (0 : Int))), D.fs (if x1 = (0 : Int) then [] else [[d32 (↑(Int.natAbs x1) : Int)]]), dn (0 : Int), db false, D.fs [[d32 (1 : Int)]], dn (0 : Int), db false, D.fs (if b33 = true then [[d32 (1 : Int)]] else []), dn (0 : Int), db (decide (x1 < (0 : Int))), D.fs (if x1 = (0 : Int) then [] else [[d32 (↑(Int.natAbs x1) : Int)]]), dn (0 : Int)], vn (0 : Int)]) → Ob (inV x1) ∧ ∀ (b71 : Bool) (x72 x73 x74 : Int), Ob ([DV.a [db b71, dn x72, dn x73], vn x74] = [DV.a [db true, dn x1, dn x1], vn (0 : Int)]) → Ob ((0 : Int) ≤ x6 ∧ x6 ≤ (65535 : Int) ∧ (0 : Int) ≤ x0 ∧ x0 ≤ (7 : Int)) ∧ ∀ (l75 : List (List D)) (x76 : Int), Ob (∃ l, [vl l75, vn x76] = [vl l, vn (0 : Int)] ∧ LSh [s32] l ∧ p_tags x6 x0 l) → Ob (R [DV.a [dn x0, dn x1, db b2, dn x3, dn x4, dn x5, dn x6, dn x7, db b58, D.fs l59, dn x60, db b61, D.fs l62, dn x63, db b64, D.fs l65, dn x66, db b67, D.fs l68, dn x69, db b71, dn x72, dn x73, D.fs l75, db b24, dn x25, dn x26, D.fs l52, dn x53, dn x54, D.fs l55, D.fs [], D.fs l56], vn (0 : Int)]))) ∧ (¬x6 ≥ x7 → Ob (R [DV.a [dn (0 : Int), dn (0 : Int), db false, dn (0 : Int), dn (0 : Int), dn (0 : Int), dn (0 : Int), dn (0 : Int), db false, D.fs [], dn (0 : Int), db false, D.fs [], dn (0 : Int), db false, D.fs [], dn (0 : Int), db false, D.fs [], dn (0 : Int), db false, dn (0 : Int), dn (0 : Int), D.fs [], db false, dn (0 : Int), dn (0 : Int), D.fs [], dn (0 : Int), dn (0 : Int), D.fs [], D.fs [], D.fs []], vn (6 : Int)]))) ∧ Ob (Rect (17) l31 ∧ List.length ([] : List (List D)) + List.length l31 ≤ (1048576 : Nat)) ∧ ∀ (l77 : List (List D)), l77 = [] ++ l31 → ∀ (x78 : Int), x78 = (↑(List.length l77) : Int) → Ob ¬(0 : Int) < x78 ∧ Ob (LSh pairS l32 ∧ List.length l32 ≤ (1048576 : Nat)) ∧ ∀ (l79 : List (List D)), Ob ([vl l79] = [vl l32]) → (x6 ≥ x7 → Ob (DShs partS [db b36, D.fs l37, dn x38, db b39, D.fs l40, dn x41, db b42, D.fs l43, dn x44, db b45, D.fs l46, dn x47, db b48, dn x49, dn x50, D.fs l51] ∧ DShs partS [db false, D.fs [], dn (0 : Int), db false, D.fs [], dn (0 : Int), db false, D.fs [], dn (0 : Int), db false, D.fs [], dn (0 : Int), db false, dn (0 : Int), dn (0 : Int), D.fs []]) ∧ ∀ (b80 : Bool), Ob ([vb b80] = [vb (decide ([db b36, D.fs l37, dn x38, db b39, D.fs l40, dn x41, db b42, D.fs l43, dn x44, db b45, D.fs l46, dn x47, db b48, dn x49, dn x50, D.fs l51] = [db false, D.fs [], dn (0 : Int), db false, D.fs [], dn (0 : Int), db false, D.fs [], dn (0 : Int), db false, D.fs [], dn (0 : Int), db false, dn (0 : Int), dn (0 : Int), D.fs []]))]) → (b80 = false → Ob (R [DV.a [dn (0 : Int), dn (0 : Int), db false, dn (0 : Int), dn (0 : Int), dn (0 : Int), dn (0 : Int), dn (0 : Int), db false, D.fs [], dn (0 : Int), db false, D.fs [], dn (0 : Int), db false, D.fs [], dn (0 : Int), db false, D.fs [], dn (0 : Int), db false, dn (0 : Int), dn (0 : Int), D.fs [], db false, dn (0 : Int), dn (0 : Int), D.fs [], dn (0 : Int), dn (0 : Int), D.fs [], D.fs [], D.fs []], vn (12 : Int)])) ∧ (¬b80 = false → Ob (inV x1) ∧ ∀ (b81 : Bool) (l82 : List (List D)) (x83 : Int) (b84 : Bool) (l85 : List (List D)) (x86 : Int) (b87 : Bool) (l88 : List (List D)) (x89 : Int) (b90 : Bool) (l91 : List (List D)) (x92 x93 : Int), Ob ([DV.a [db b81, D.fs l82, dn x83, db b84, D.fs l85, dn x86, db b87, D.fs l88, dn x89, db b90, D.fs l91, dn x92], vn x93] = [DV.a [db (decide (x1 < (0 : Int))), D.fs (if x1 = (0 : Int) then [] else [[d32 (↑(Int.natAbs x1) : Int)]]), dn (0 : Int), db false, D.fs [[d32 (1 : Int)]], dn (0 : Int), db false, D.fs (if b33 = true then [[d32 (1 : Int)]] else []), dn (0 : Int), db (decide (x1 < (0 : Int))), D.fs (if x1 = (0 : Int) then [] else [[d32 (↑(Int.natAbs x1) : Int)]]), dn (0 : Int)], vn (0 : Int)]) → Ob (inV x1) ∧ ∀ (b94 : Bool) (x95 x96 x97 : Int), Ob ([DV.a [db b94, dn x95, dn x96], vn x97] = [DV.a [db true, dn x1, dn x1], vn (0 : Int)]) → Ob ((0 : Int) ≤ x6 ∧ x6 ≤ (65535 : Int) ∧ (0 : Int) ≤ x0 ∧ x0 ≤ (7 : Int)) ∧ ∀ (l98 : List (List D)) (x99 : Int), Ob (∃ l, [vl l98, vn x99] = [vl l, vn (0 : Int)] ∧ LSh [s32] l ∧ p_tags x6 x0 l) → Ob (R [DV.a [dn x0, dn x1, db b2, dn x3, dn x4, dn x5, dn x6, dn x7, db b81, D.fs l82, dn x83, db b84, D.fs l85, dn x86, db b87, D.fs l88, dn x89, db b90, D.fs l91, dn x92, db b94, dn x95, dn x96, D.fs l98, db b24, dn x25, dn x26, D.fs l52, dn x53, dn x54, D.fs l55, D.fs l77, D.fs l79], vn (0 : Int)]))) ∧ (¬x6 ≥ x7 → Ob (R [DV.a [dn (0 : Int), dn (0 : Int), db false, dn (0 : Int), dn (0 : Int), dn (0 : Int), dn (0 : Int), dn (0 : Int), db false, D.fs [], dn (0 : Int), db false, D.fs [], dn (0 : Int), db false, D.fs [], dn (0 : Int), db false, D.fs [], dn (0 : Int), db false, dn (0 : Int), dn (0 : Int), D.fs [], db false, dn (0 : Int), dn (0 : Int), D.fs [], dn (0 : Int), dn (0 : Int), D.fs [], D.fs [], D.fs []], vn (6 : Int)]))))
set_option maxRecDepth 100000 in
theorem vcEq_nodeSeedE : vcFn Go.Proofs.Tryz.prog k0 (cxf [(40, t_nodeCheckE), (222, t_clone32), (153, t_cloneI), (156, t_cloneTi), (231, t_cloneDe), (234, t_dyTwin), (159, t_massTwin), (137, t_partTwin), (154, t_cacheTwin), (28, t_partSame), (202, t_massSeed), (203, t_edgeOf), (204, t_tags)] [(35000519013844120831393230450, 0, none)] [(35000519013844120831393230450, 11, false)] [(222, f_clone32), (153, f_cloneI), (156, f_cloneTi), (231, f_cloneDe), (234, f_dyTwin), (159, f_massTwin), (137, f_partTwin), (154, f_cacheTwin), (28, f_partSame), (202, f_massSeed), (203, f_edgeOf)]) 3000 35 Go.Proofs.Tryz.f35 (bodyOf Go.Proofs.Tryz.f35) t_nodeSeedE = V_nodeSeedE := by kernel_rfl
set_option maxHeartbeats 4000000 in
set_option maxRecDepth 20000 in
theorem vcPf_nodeSeedE : V_nodeSeedE := by
  delta V_nodeSeedE
  simp only [ob_iff, and_imp, forall_exists_index, true_and, and_true, List.cons.injEq, DV.c.injEq, DV.a.injEq, D.raw.injEq, D.fs.injEq, Value.bool.injEq, Value.int.injEq]
  intro x0 x1 b2 x3 x4 x5 x6 x7 b8 l9 x10 b11 l12 x13 b14 l15 x16 b17 l18 x19 b20 x21 x22 l23 b24 x25 x26 l27 x28 x29 l30 l31 l32 b33 hsh hl0 hl1 R hR
  obtain rfl := List.length_eq_zero_iff.1 hl0
  obtain rfl := List.length_eq_zero_iff.1 hl1
  obtain ⟨hs1, hs2, hs3, hs4, hs5, hs6⟩ := node_sh hsh
  repeat' first | assumption | exact DShs.tail (DSh_nth (by assumption) (by assumption)) | exact shp32 (by assumption) | exact shp64 (by assumption) | exact shp2 (by assumption) | exact shpF (by assumption) | with_reducible intro _ | with_reducible apply And.intro
  all_goals (try (
    have hb : ¬ b2 = false := (by assumption)
    have hp := (‹(_ : Int) = 0 ↔ p_nodeW _›).1 (by omega)
    obtain ⟨q1, q2, q3, q4, q5, q6, q7, q8, q9, q10⟩ := node_lims hb hp
    obtain ⟨f1, f2, f3, f4⟩ := node_f hp
    obtain ⟨k1, k2, k3, k4, k5, k6, k7, k8, k9, k10, k11, k12, k13, k14, k15⟩ := f4 (by simpa using hb)
    obtain ⟨c1, c2, c3, c4, c5, c6, c7, c8, c9, c10⟩ := clock_b k3))
  all_goals first
    | assumption
    | omega
    | exact ls_nil
    | (clear hR hsh; subst_vars; exact hs2)
    | (clear hR hsh; subst_vars; simp; done)
    | exact hs3.1
    | exact hs3.2
    | exact hs6.1
    | exact hs6.2
    | exact ⟨k1, k2⟩
    | exact fun cs hc => by cases hc
    | (simp [dshs_cons, dsh_bool, dsh_sl, dsh_int, dshs_nil, ls_nil, rng64, LSh]; done)
    | (refine hR _ _ _ rfl (o_seed.no (by omega) fun hp => ?_)
       first
         | (have e := (‹(_ : Int) = 0 ↔ p_nodeW _›).2 hp.1; omega)
         | (have e : b2 = true := hp.2.1; simp_all; done)
         | (have e : x7 ≤ x6 := hp.2.2.1; omega)
         | (have e : ([db b8, D.fs l9, dn x10, db b11, D.fs l12, dn x13, db b14, D.fs l15, dn x16, db b17, D.fs l18, dn x19, db b20, dn x21, dn x22, D.fs l23] : List D) = zPart := hp.2.2.2
            simp only [zPart, List.cons.injEq, D.raw.injEq, D.fs.injEq, Value.int.injEq, Value.bool.injEq, true_and, and_true] at e
            clear hsh hs1 hs2 hs3 hs4 hs5 hs6 f3 f4 k5 hp hR
            subst_vars
            exact (of_decide_eq_false (by assumption)) e))
    | (clear hsh hs1 hs2 hs3 hs4 hs5 hs6 f4
       subst_vars
       exact hR _ _ _ rfl (by
         unfold o_seed
         exact ⟨fun _ => ⟨hp, _, ⟨by assumption, by assumption⟩, by assumption, rfl⟩, fun _ => rfl⟩))
    | skip

theorem con_nodeSeedE : Con Go.Proofs.Tryz.prog k0 35 t_nodeSeedE :=
  con_of (cxf_ok mixOk (fun p hp => by
    simp only [List.mem_cons, List.not_mem_nil, or_false] at hp
    rcases hp with rfl | rfl | rfl | rfl | rfl | rfl | rfl | rfl | rfl | rfl | rfl | rfl | rfl
    · exact con_nodeCheckE
    · exact con_clone32
    · exact con_cloneI
    · exact con_cloneTi
    · exact con_cloneDe
    · exact con_dyTwin
    · exact con_massTwin
    · exact con_partTwin
    · exact con_cacheTwin
    · exact con_partSame
    · exact con_massSeed
    · exact con_edgeOf
    · exact con_tags) (fun p hp => by
    simp only [List.mem_cons, List.not_mem_nil, or_false] at hp
    rcases hp with rfl | rfl | rfl | rfl | rfl | rfl | rfl | rfl | rfl | rfl | rfl
    · intro t ht; cases ht; exact fn_clone32
    · intro t ht; cases ht; exact fn_cloneI
    · intro t ht; cases ht; exact fn_cloneTi
    · intro t ht; cases ht; exact fn_cloneDe
    · intro t ht; cases ht; exact fn_dyTwin
    · intro t ht; cases ht; exact fn_massTwin
    · intro t ht; cases ht; exact fn_partTwin
    · intro t ht; cases ht; exact fn_cacheTwin
    · intro t ht; cases ht; exact fn_partSame
    · intro t ht; cases ht; exact fn_massSeed
    · intro t ht; cases ht; exact fn_edgeOf)) Go.Proofs.Tryz.func35 rfl rfl rfl rfl vcEq_nodeSeedE vcPf_nodeSeedE
end Go.Vc

namespace Go.Vc
open Classical
noncomputable def f_epochTick (aa : List DV) : List DV := m_etick (ai aa 0)
noncomputable def t_epochTick : ConT := ⟨[rkS clockS], [rkS clockS, kb, kn], fun aa => DShs clockS (ai aa 0), fun aa rs => rs = f_epochTick aa⟩
theorem fn_epochTick : ∀ aa, t_epochTick.pre aa → ∀ rs, t_epochTick.post aa rs → rs = f_epochTick aa := fun _ _ _ h => h
noncomputable def V_epochTick : Prop := ∀ (x0 x1 x2 x3 x4 : Int), Ob (DShs clockS [dn x0, dn x1, dn x2, dn x3, dn x4]) → ∀ (R : List DV → Prop), Ob (∀ (res : List DV), res = m_etick [dn x0, dn x1, dn x2, dn x3, dn x4] → R res) → Ob (DShs clockS [dn x0, dn x1, dn x2, dn x3, dn x4]) ∧ ∀ (x6 : Int), Ob ([vn x6] = [vn (if p_clock [dn x0, dn x1, dn x2, dn x3, dn x4] then (0 : Int) else (8 : Int))]) → (x6 ≠ (0 : Int) → Ob (R [DV.a [dn (0 : Int), dn (0 : Int), dn (0 : Int), dn (0 : Int), dn (0 : Int)], vb false, vn x6])) ∧ (¬x6 ≠ (0 : Int) → (x1 = (2147483647 : Int) → Ob (R [DV.a [dn (0 : Int), dn (0 : Int), dn (0 : Int), dn (0 : Int), dn (0 : Int)], vb false, vn (10 : Int)])) ∧ (¬x1 = (2147483647 : Int) → ∀ (x7 : Int), x7 = w64 (x1 + (1 : Int)) → ∀ (x8 : Int), x8 = w64 (x7 - x2) → (x8 ≥ x0 → (x3 < (65535 : Int) → ∀ (x9 : Int), x9 = w64 (x3 + (1 : Int)) → Ob (R [DV.a [dn x0, dn x7, dn x7, dn x9, dn x4], vb true, vn (0 : Int)])) ∧ (¬x3 < (65535 : Int) → Ob (R [DV.a [dn x0, dn x7, dn x2, dn x3, dn x4], vb false, vn (0 : Int)]))) ∧ (¬x8 ≥ x0 → Ob (R [DV.a [dn x0, dn x7, dn x2, dn x3, dn x4], vb false, vn (0 : Int)]))))
set_option maxRecDepth 100000 in
theorem vcEq_epochTick : vcFn Go.Proofs.Tryz.prog k0 (cxf [(109, t_epochCheck)] [] [] [(109, f_epochCheck)]) 3000 110 Go.Proofs.Tryz.f110 (bodyOf Go.Proofs.Tryz.f110) t_epochTick = V_epochTick := by kernel_rfl
set_option maxHeartbeats 4000000 in
set_option maxRecDepth 20000 in
theorem vcPf_epochTick : V_epochTick := by
  delta V_epochTick
  simp only [ob_iff, and_imp, forall_exists_index, true_and, and_true, List.cons.injEq, DV.c.injEq, DV.a.injEq, D.raw.injEq, D.fs.injEq, Value.bool.injEq, Value.int.injEq]
  intro x0 x1 x2 x3 x4 hs R hR
  repeat' first | assumption | exact DShs.tail (DSh_nth (by assumption) (by assumption)) | exact shp32 (by assumption) | exact shp64 (by assumption) | exact shp2 (by assumption) | exact shpF (by assumption) | with_reducible intro _ | with_reducible apply And.intro
  all_goals first
    | assumption
    | (refine hR _ ?_
       by_cases hc : p_clock [dn x0, dn x1, dn x2, dn x3, dn x4]
       · have hb := clock_b hc
         try rw [if_pos hc] at *
         subst_vars
         try simp (disch := omega) only [w64_id] at *
         first
           | (exfalso; omega)
           | exact (etick_max hc (by omega)).symm
           | exact (etick_turn hc (by omega) (by omega) (by omega)).symm
           | exact (etick_stay hc (by omega) (by omega)).symm
       · rw [if_neg hc] at *
         subst_vars
         first
           | (exfalso; omega)
           | exact (etick_no hc).symm)

theorem con_epochTick : Con Go.Proofs.Tryz.prog k0 110 t_epochTick :=
  con_of (cxf_ok mixOk (fun p hp => by
    simp only [List.mem_cons, List.not_mem_nil, or_false] at hp
    subst hp
    exact con_epochCheck) (fun p hp => by
    simp only [List.mem_cons, List.not_mem_nil, or_false] at hp
    subst hp
    · intro t ht; cases ht; exact fn_epochCheck)) Go.Proofs.Tryz.func110 rfl rfl rfl rfl vcEq_epochTick vcPf_epochTick
end Go.Vc

namespace Go.Vc
open Classical
noncomputable def f_timerDueE (aa : List DV) : List DV := [vl [], vl [], vn 0]
noncomputable def t_timerDueE : ConT := ⟨[kl, kn], [⟨[.sl], false, true⟩, ⟨[.sl], false, true⟩, kn], fun aa => (li aa 0).length = 0 ∧ 0 ≤ ni aa 1 ∧ ni aa 1 ≤ 2147483647, fun aa rs => rs = f_timerDueE aa⟩
theorem fn_timerDueE : ∀ aa, t_timerDueE.pre aa → ∀ rs, t_timerDueE.post aa rs → rs = f_timerDueE aa := fun _ _ _ h => h
noncomputable def V_timerDueE : Prop := ∀ (l0 : List (List D)) (x1 : Int), Ob (List.length l0 = (0 : Nat) ∧ (0 : Int) ≤ x1 ∧ x1 ≤ (2147483647 : Int)) → ∀ (R : List DV → Prop), Ob (∀ (res : List DV), res = [vl [], vl [], vn (0 : Int)] → R res) → Ob (LSh pairS l0) ∧ ∀ (x3 : Int), Ob ([vn x3] = [vn (e_timer l0)]) → (x3 ≠ (0 : Int) → Ob (R [vl [], vl [], vn x3])) ∧ (¬x3 ≠ (0 : Int) → (x1 < (0 : Int) → Ob (R [vl [], vl [], vn (2 : Int)])) ∧ (¬x1 < (0 : Int) → (x1 > (2147483647 : Int) → Ob (R [vl [], vl [], vn (2 : Int)])) ∧ (¬x1 > (2147483647 : Int) → ∀ (x4 : Int), x4 = (↑(List.length l0) : Int) → Ob ¬(0 : Int) < x4 ∧ Ob (R [vl [], vl [], vn (0 : Int)]))))
set_option maxRecDepth 100000 in
theorem vcEq_timerDueE : vcFn Go.Proofs.Tryz.prog k0 (cxf [(215, t_timerCheck)] [] [(192000827023, 14, false)] [(215, f_timerCheck)]).un 3000 192 Go.Proofs.Tryz.f192 (bodyOf Go.Proofs.Tryz.f192) t_timerDueE = V_timerDueE := by kernel_rfl
set_option maxHeartbeats 4000000 in
set_option maxRecDepth 20000 in
theorem vcPf_timerDueE : V_timerDueE := by
  delta V_timerDueE
  simp only [ob_iff, and_imp, forall_exists_index, true_and, and_true, List.cons.injEq, DV.c.injEq, DV.a.injEq, D.raw.injEq, D.fs.injEq, Value.bool.injEq, Value.int.injEq]
  intro l0 x1 h1 h2 h3 R hR
  obtain rfl := List.length_eq_zero_iff.1 h1
  have hn := e_timer_nil
  repeat' first | assumption | exact DShs.tail (DSh_nth (by assumption) (by assumption)) | exact shp32 (by assumption) | exact shp64 (by assumption) | exact shp2 (by assumption) | exact shpF (by assumption) | with_reducible intro _ | with_reducible apply And.intro
  all_goals first
    | assumption
    | omega
    | (exact ls_nil)
    | (exact ⟨by simp, ls_nil⟩)
    | ((exfalso; omega))
    | ((refine hR _ ?_; simp))
    | ((simp at *; omega))

theorem con_timerDueE : Con Go.Proofs.Tryz.prog k0 192 t_timerDueE :=
  con_of (Cx.un_ok (cxf_ok mixOk (fun p hp => by
    simp only [List.mem_cons, List.not_mem_nil, or_false] at hp
    subst hp
    exact con_timerCheck) (fun p hp => by
    simp only [List.mem_cons, List.not_mem_nil, or_false] at hp
    subst hp
    · intro t ht; cases ht; exact fn_timerCheck))) Go.Proofs.Tryz.func192 rfl rfl rfl rfl vcEq_timerDueE vcPf_timerDueE
end Go.Vc

namespace Go.Vc
open Classical
noncomputable def f_freezeE (aa : List DV) : List DV := if 0 ≤ ni aa 1 ∧ ni aa 1 ≤ 65535 then (if p_part (ai aa 2) then [vl [dn (ni aa 1) :: ai aa 2], vn 0] else [vl [], vn 8]) else [vl [], vn 2]
noncomputable def t_freezeE : ConT := ⟨[kl, kn, rkS partS], [kl, kn], fun aa => LSh frozS (li aa 0) ∧ (li aa 0).length = 0 ∧ DShs partS (ai aa 2), fun aa rs => rs = f_freezeE aa⟩
theorem fn_freezeE : ∀ aa, t_freezeE.pre aa → ∀ rs, t_freezeE.post aa rs → rs = f_freezeE aa := fun _ _ _ h => h
noncomputable def V_freezeE : Prop := ∀ (l0 : List (List D)) (x1 : Int) (b2 : Bool) (l3 : List (List D)) (x4 : Int) (b5 : Bool) (l6 : List (List D)) (x7 : Int) (b8 : Bool) (l9 : List (List D)) (x10 : Int) (b11 : Bool) (l12 : List (List D)) (x13 : Int) (b14 : Bool) (x15 x16 : Int) (l17 : List (List D)), Ob (LSh frozS l0 ∧ List.length l0 = (0 : Nat) ∧ DShs partS [db b2, D.fs l3, dn x4, db b5, D.fs l6, dn x7, db b8, D.fs l9, dn x10, db b11, D.fs l12, dn x13, db b14, dn x15, dn x16, D.fs l17]) → ∀ (R : List DV → Prop), Ob (∀ (res : List DV), (res = if (0 : Int) ≤ x1 ∧ x1 ≤ (65535 : Int) then if p_part [db b2, D.fs l3, dn x4, db b5, D.fs l6, dn x7, db b8, D.fs l9, dn x10, db b11, D.fs l12, dn x13, db b14, dn x15, dn x16, D.fs l17] then [vl [[dn x1, db b2, D.fs l3, dn x4, db b5, D.fs l6, dn x7, db b8, D.fs l9, dn x10, db b11, D.fs l12, dn x13, db b14, dn x15, dn x16, D.fs l17]], vn (0 : Int)] else [vl [], vn (8 : Int)] else [vl [], vn (2 : Int)]) → R res) → Ob (LSh frozS l0) ∧ ∀ (x19 : Int), Ob ([vn x19] = [vn (e_past l0)]) → (x19 ≠ (0 : Int) → (x19 ≠ (0 : Int) → Ob (R [vl [], vn x19])) ∧ (¬x19 ≠ (0 : Int) → Ob (DShs partS [db b2, D.fs l3, dn x4, db b5, D.fs l6, dn x7, db b8, D.fs l9, dn x10, db b11, D.fs l12, dn x13, db b14, dn x15, dn x16, D.fs l17]) ∧ ∀ (x20 : Int), Ob ([vn x20] = [vn (if p_part [db b2, D.fs l3, dn x4, db b5, D.fs l6, dn x7, db b8, D.fs l9, dn x10, db b11, D.fs l12, dn x13, db b14, dn x15, dn x16, D.fs l17] then (0 : Int) else (8 : Int))]) → (x20 ≠ (0 : Int) → Ob (R [vl [], vn (8 : Int)])) ∧ (¬x20 ≠ (0 : Int) → ∀ (x21 : Int), x21 = (↑(List.length l0) : Int) → ((0 : Int) < x21 → Ob (R [vl [], vn (12 : Int)])) ∧ (¬(0 : Int) < x21 → (l0 = [] → Ob (DShs partS [db b2, D.fs l3, dn x4, db b5, D.fs l6, dn x7, db b8, D.fs l9, dn x10, db b11, D.fs l12, dn x13, db b14, dn x15, dn x16, D.fs l17] ∧ List.length l3 ≤ (1048576 : Nat) ∧ List.length l6 ≤ (1048576 : Nat) ∧ List.length l9 ≤ (1048576 : Nat) ∧ List.length l12 ≤ (1048576 : Nat) ∧ List.length l17 ≤ (1048576 : Nat)) ∧ ∀ (b22 : Bool) (l23 : List (List D)) (x24 : Int) (b25 : Bool) (l26 : List (List D)) (x27 : Int) (b28 : Bool) (l29 : List (List D)) (x30 : Int) (b31 : Bool) (l32 : List (List D)) (x33 : Int) (b34 : Bool) (x35 x36 : Int) (l37 : List (List D)), Ob ([DV.a [db b22, D.fs l23, dn x24, db b25, D.fs l26, dn x27, db b28, D.fs l29, dn x30, db b31, D.fs l32, dn x33, db b34, dn x35, dn x36, D.fs l37]] = [DV.a [db b2, D.fs l3, dn x4, db b5, D.fs l6, dn x7, db b8, D.fs l9, dn x10, db b11, D.fs l12, dn x13, db b14, dn x15, dn x16, D.fs l17]]) → ∀ (l38 : List (List D)), l38 = [[dn x1, db b22, D.fs l23, dn x24, db b25, D.fs l26, dn x27, db b28, D.fs l29, dn x30, db b31, D.fs l32, dn x33, db b34, dn x35, dn x36, D.fs l37]] → Ob (R [vl l38, vn (0 : Int)])) ∧ Ob (Rect (17) l0 ∧ List.length ([] : List (List D)) + List.length l0 ≤ (1048576 : Nat)) ∧ ∀ (l39 : List (List D)), l39 = [] ++ l0 → ∀ (x40 : Int), x40 = (↑(List.length l39) : Int) → Ob ¬(0 : Int) < x40 ∧ Ob (DShs partS [db b2, D.fs l3, dn x4, db b5, D.fs l6, dn x7, db b8, D.fs l9, dn x10, db b11, D.fs l12, dn x13, db b14, dn x15, dn x16, D.fs l17] ∧ List.length l3 ≤ (1048576 : Nat) ∧ List.length l6 ≤ (1048576 : Nat) ∧ List.length l9 ≤ (1048576 : Nat) ∧ List.length l12 ≤ (1048576 : Nat) ∧ List.length l17 ≤ (1048576 : Nat)) ∧ ∀ (b41 : Bool) (l42 : List (List D)) (x43 : Int) (b44 : Bool) (l45 : List (List D)) (x46 : Int) (b47 : Bool) (l48 : List (List D)) (x49 : Int) (b50 : Bool) (l51 : List (List D)) (x52 : Int) (b53 : Bool) (x54 x55 : Int) (l56 : List (List D)), Ob ([DV.a [db b41, D.fs l42, dn x43, db b44, D.fs l45, dn x46, db b47, D.fs l48, dn x49, db b50, D.fs l51, dn x52, db b53, dn x54, dn x55, D.fs l56]] = [DV.a [db b2, D.fs l3, dn x4, db b5, D.fs l6, dn x7, db b8, D.fs l9, dn x10, db b11, D.fs l12, dn x13, db b14, dn x15, dn x16, D.fs l17]]) → Ob (List.length l39 + List.length [[dn x1, db b41, D.fs l42, dn x43, db b44, D.fs l45, dn x46, db b47, D.fs l48, dn x49, db b50, D.fs l51, dn x52, db b53, dn x54, dn x55, D.fs l56]] ≤ (1048576 : Nat)) ∧ ∀ (l57 : List (List D)), l57 = l39 ++ [[dn x1, db b41, D.fs l42, dn x43, db b44, D.fs l45, dn x46, db b47, D.fs l48, dn x49, db b50, D.fs l51, dn x52, db b53, dn x54, dn x55, D.fs l56]] → Ob (R [vl l57, vn (0 : Int)]))))) ∧ (¬x19 ≠ (0 : Int) → (x1 < (0 : Int) → Ob (R [vl [], vn (2 : Int)])) ∧ (¬x1 < (0 : Int) → (x1 > (65535 : Int) → Ob (R [vl [], vn (2 : Int)])) ∧ (¬x1 > (65535 : Int) → ∀ (x58 : Int), x58 = (↑(List.length l0) : Int) → Ob ¬(0 : Int) < x58 ∧ Ob (DShs partS [db b2, D.fs l3, dn x4, db b5, D.fs l6, dn x7, db b8, D.fs l9, dn x10, db b11, D.fs l12, dn x13, db b14, dn x15, dn x16, D.fs l17]) ∧ ∀ (x59 : Int), Ob ([vn x59] = [vn (if p_part [db b2, D.fs l3, dn x4, db b5, D.fs l6, dn x7, db b8, D.fs l9, dn x10, db b11, D.fs l12, dn x13, db b14, dn x15, dn x16, D.fs l17] then (0 : Int) else (8 : Int))]) → (x59 ≠ (0 : Int) → Ob (R [vl [], vn (8 : Int)])) ∧ (¬x59 ≠ (0 : Int) → ∀ (x60 : Int), x60 = (↑(List.length l0) : Int) → ((0 : Int) < x60 → Ob (R [vl [], vn (12 : Int)])) ∧ (¬(0 : Int) < x60 → (l0 = [] → Ob (DShs partS [db b2, D.fs l3, dn x4, db b5, D.fs l6, dn x7, db b8, D.fs l9, dn x10, db b11, D.fs l12, dn x13, db b14, dn x15, dn x16, D.fs l17] ∧ List.length l3 ≤ (1048576 : Nat) ∧ List.length l6 ≤ (1048576 : Nat) ∧ List.length l9 ≤ (1048576 : Nat) ∧ List.length l12 ≤ (1048576 : Nat) ∧ List.length l17 ≤ (1048576 : Nat)) ∧ ∀ (b61 : Bool) (l62 : List (List D)) (x63 : Int) (b64 : Bool) (l65 : List (List D)) (x66 : Int) (b67 : Bool) (l68 : List (List D)) (x69 : Int) (b70 : Bool) (l71 : List (List D)) (x72 : Int) (b73 : Bool) (x74 x75 : Int) (l76 : List (List D)), Ob ([DV.a [db b61, D.fs l62, dn x63, db b64, D.fs l65, dn x66, db b67, D.fs l68, dn x69, db b70, D.fs l71, dn x72, db b73, dn x74, dn x75, D.fs l76]] = [DV.a [db b2, D.fs l3, dn x4, db b5, D.fs l6, dn x7, db b8, D.fs l9, dn x10, db b11, D.fs l12, dn x13, db b14, dn x15, dn x16, D.fs l17]]) → ∀ (l77 : List (List D)), l77 = [[dn x1, db b61, D.fs l62, dn x63, db b64, D.fs l65, dn x66, db b67, D.fs l68, dn x69, db b70, D.fs l71, dn x72, db b73, dn x74, dn x75, D.fs l76]] → Ob (R [vl l77, vn (0 : Int)])) ∧ Ob (Rect (17) l0 ∧ List.length ([] : List (List D)) + List.length l0 ≤ (1048576 : Nat)) ∧ ∀ (l78 : List (List D)), l78 = [] ++ l0 → ∀ (x79 : Int), x79 = (↑(List.length l78) : Int) → Ob ¬(0 : Int) < x79 ∧ Ob (DShs partS [db b2, D.fs l3, dn x4, db b5, D.fs l6, dn x7, db b8, D.fs l9, dn x10, db b11, D.fs l12, dn x13, db b14, dn x15, dn x16, D.fs l17] ∧ List.length l3 ≤ (1048576 : Nat) ∧ List.length l6 ≤ (1048576 : Nat) ∧ List.length l9 ≤ (1048576 : Nat) ∧ List.length l12 ≤ (1048576 : Nat) ∧ List.length l17 ≤ (1048576 : Nat)) ∧ ∀ (b80 : Bool) (l81 : List (List D)) (x82 : Int) (b83 : Bool) (l84 : List (List D)) (x85 : Int) (b86 : Bool) (l87 : List (List D)) (x88 : Int) (b89 : Bool) (l90 : List (List D)) (x91 : Int) (b92 : Bool) (x93 x94 : Int) (l95 : List (List D)), Ob ([DV.a [db b80, D.fs l81, dn x82, db b83, D.fs l84, dn x85, db b86, D.fs l87, dn x88, db b89, D.fs l90, dn x91, db b92, dn x93, dn x94, D.fs l95]] = [DV.a [db b2, D.fs l3, dn x4, db b5, D.fs l6, dn x7, db b8, D.fs l9, dn x10, db b11, D.fs l12, dn x13, db b14, dn x15, dn x16, D.fs l17]]) → Ob (List.length l78 + List.length [[dn x1, db b80, D.fs l81, dn x82, db b83, D.fs l84, dn x85, db b86, D.fs l87, dn x88, db b89, D.fs l90, dn x91, db b92, dn x93, dn x94, D.fs l95]] ≤ (1048576 : Nat)) ∧ ∀ (l96 : List (List D)), l96 = l78 ++ [[dn x1, db b80, D.fs l81, dn x82, db b83, D.fs l84, dn x85, db b86, D.fs l87, dn x88, db b89, D.fs l90, dn x91, db b92, dn x93, dn x94, D.fs l95]] → Ob (R [vl l96, vn (0 : Int)]))))))
set_option maxRecDepth 100000 in
theorem vcEq_freezeE : vcFn Go.Proofs.Tryz.prog k0 (cxf [(218, t_pastCheck), (210, t_partCheck), (222, t_clone32), (153, t_cloneI), (156, t_cloneTi), (231, t_cloneDe), (234, t_dyTwin), (159, t_massTwin), (137, t_partTwin), (154, t_cacheTwin)] [(191001146001874034, 0, none), (191001282016347063, 0, none)] [(191001146001874034, 11, false), (191001282016347063, 15, false)] [(218, f_pastCheck), (210, f_partCheck), (222, f_clone32), (153, f_cloneI), (156, f_cloneTi), (231, f_cloneDe), (234, f_dyTwin), (159, f_massTwin), (137, f_partTwin), (154, f_cacheTwin)]) 3000 191 Go.Proofs.Tryz.f191 (bodyOf Go.Proofs.Tryz.f191) t_freezeE = V_freezeE := by kernel_rfl
set_option maxHeartbeats 4000000 in
set_option maxRecDepth 20000 in
theorem vcPf_freezeE : V_freezeE := by
  delta V_freezeE
  simp only [ob_iff, and_imp, forall_exists_index, true_and, and_true, List.cons.injEq, DV.c.injEq, DV.a.injEq, D.raw.injEq, D.fs.injEq, Value.bool.injEq, Value.int.injEq]
  intro l0 x1 b2 l3 x4 b5 l6 x7 b8 l9 x10 b11 l12 x13 b14 x15 x16 l17 h1 h2 h3 h4 R hR
  obtain rfl := List.length_eq_zero_iff.1 h3
  repeat' first | assumption | exact DShs.tail (DSh_nth (by assumption) (by assumption)) | exact shp32 (by assumption) | exact shp64 (by assumption) | exact shp2 (by assumption) | exact shpF (by assumption) | with_reducible intro _ | with_reducible apply And.intro
  all_goals (try (have hp : p_part [db b2, D.fs l3, dn x4, db b5, D.fs l6, dn x7, db b8, D.fs l9, dn x10, db b11, D.fs l12, dn x13, db b14, dn x15, dn x16, D.fs l17] := not_if8' (by assumption) (by assumption); obtain ⟨q1, q2, q3, q4, q5⟩ := part_lims hp))
  all_goals (try subst_vars)
  all_goals (try simp only [List.length_nil, List.nil_append, List.append_nil, List.length_append] at *)
  all_goals first
    | assumption
    | omega
    | exact ls_nil
    | exact shp_nil
    | exact fun cs hc => by cases hc
    | exact set_part (by assumption) rfl
    | (refine hR _ ?_; rw [if_pos (by omega), if_pos (not_if8 (by assumption))]; done)
    | (refine hR _ ?_; rw [if_neg (by omega)]; done)
    | (refine hR _ ?_; rw [if_pos (by omega), if_neg (if8 (by assumption))]; done)
    | (exfalso; exact absurd e_past_nil (by assumption))
    | (exfalso; exact ‹¬ e_past [] = 0› e_past_nil)
    | (exfalso; simp [e_past_nil] at *; done)
    | (simp [e_past_nil] at *; done)
    | skip

theorem con_freezeE : Con Go.Proofs.Tryz.prog k0 191 t_freezeE :=
  con_of (cxf_ok mixOk (fun p hp => by
    simp only [List.mem_cons, List.not_mem_nil, or_false] at hp
    rcases hp with rfl | rfl | rfl | rfl | rfl | rfl | rfl | rfl | rfl | rfl
    · exact con_pastCheck
    · exact con_partCheck
    · exact con_clone32
    · exact con_cloneI
    · exact con_cloneTi
    · exact con_cloneDe
    · exact con_dyTwin
    · exact con_massTwin
    · exact con_partTwin
    · exact con_cacheTwin) (fun p hp => by
    simp only [List.mem_cons, List.not_mem_nil, or_false] at hp
    rcases hp with rfl | rfl | rfl | rfl | rfl | rfl | rfl | rfl | rfl | rfl
    · intro t ht; cases ht; exact fn_pastCheck
    · intro t ht; cases ht; exact fn_partCheck
    · intro t ht; cases ht; exact fn_clone32
    · intro t ht; cases ht; exact fn_cloneI
    · intro t ht; cases ht; exact fn_cloneTi
    · intro t ht; cases ht; exact fn_cloneDe
    · intro t ht; cases ht; exact fn_dyTwin
    · intro t ht; cases ht; exact fn_massTwin
    · intro t ht; cases ht; exact fn_partTwin
    · intro t ht; cases ht; exact fn_cacheTwin)) Go.Proofs.Tryz.func191 rfl rfl rfl rfl vcEq_freezeE vcPf_freezeE
end Go.Vc
