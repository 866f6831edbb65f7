import Derived.Test.YtneooimijbfmgaaGreatProg
import Derived.KernelRfl
import Derived.Test.YtneooimijbfmgaaGreatCrAS
import Derived.Test.YtneooimijbfmgaaGreatCrAT
set_option linter.unusedVariables false
set_option linter.unusedSimpArgs false
set_option linter.unusedSectionVars false
namespace Go.Vc
open Classical
noncomputable def f_eqDe (aa : List DV) : List DV := [vb (decide (li aa 0 = li aa 1))]
noncomputable def t_eqDe : ConT := ⟨[kl, kl], [kb], fun aa => LSh pairS (li aa 0) ∧ LSh pairS (li aa 1), fun aa rs => rs = f_eqDe aa⟩
theorem fn_eqDe : ∀ aa, t_eqDe.pre aa → ∀ rs, t_eqDe.post aa rs → rs = f_eqDe aa := fun _ _ _ h => h
noncomputable def V_eqDe : Prop := ∀ (l0 l1 : List (List D)), Ob (LSh pairS l0 ∧ LSh pairS l1) → ∀ (R : List DV → Prop), Ob (∀ (res : List DV), res = [vb (decide (l0 = l1))] → R res) → ∀ (x3 : Int), x3 = (↑(List.length l0) : Int) → ∀ (x4 : Int), x4 = (↑(List.length l1) : Int) → (x3 ≠ x4 → Ob (R [vb false])) ∧ (¬x3 ≠ x4 → ∀ (x5 : Int), x5 = (↑(List.length l0) : Int) → Ob ((0 : Int) ≤ (0 : Int) ∧ List.length l0 = List.length l1 ∧ (0 : Int) ≤ (↑(List.length l0) : Int) ∧ List.take (Int.toNat (0 : Int)) l0 = List.take (Int.toNat (0 : Int)) l1) ∧ ∀ (g6 : Nat → Value) (x7 : Int), Ob ((0 : Int) ≤ x7 ∧ List.length l0 = List.length l1 ∧ x7 ≤ (↑(List.length l0) : Int) ∧ List.take (Int.toNat x7) l0 = List.take (Int.toNat x7) l1) → (x7 < x5 → Ob ((0 : Int) ≤ x7 ∧ x7 < (↑(List.length l0) : Int)) ∧ Ob (Shp [Kd.int IntKind.i64, Kd.int IntKind.i64] l0) ∧ ∀ (x8 x9 : Int), Ob (l0[Int.toNat x7]? = some [dn x8, dn x9]) → Ob ((0 : Int) ≤ x7 ∧ x7 < (↑(List.length l1) : Int)) ∧ Ob (Shp [Kd.int IntKind.i64, Kd.int IntKind.i64] l1) ∧ ∀ (x10 x11 : Int), Ob (l1[Int.toNat x7]? = some [dn x10, dn x11]) → (¬(x8 = x10 ∧ x9 = x11) → Ob (R [vb false])) ∧ (¬¬(x8 = x10 ∧ x9 = x11) → ∀ (x12 : Int), x12 = w64 (x7 + (1 : Int)) → Ob ((0 : Int) ≤ x12 ∧ List.length l0 = List.length l1 ∧ x12 ≤ (↑(List.length l0) : Int) ∧ List.take (Int.toNat x12) l0 = List.take (Int.toNat x12) l1) ∧ Ob (List.length l0 - Int.toNat x12 < List.length l0 - Int.toNat x7))) ∧ (¬x7 < x5 → Ob (R [vb true])))
set_option maxRecDepth 100000 in
theorem vcEq_eqDe : vcFn Go.Proofs.Tryz.prog k0 (cxf [] [(249000, 0, some ⟨[1, 0, 12], [13], [], [kn], [], fun ρ ds => 0 ≤ ni ds 0 ∧ (ρ.d 0).length = (ρ.d 1).length ∧ ni ds 0 ≤ (ρ.d 0).length ∧ (ρ.d 0).take (ni ds 0).toNat = (ρ.d 1).take (ni ds 0).toNat, fun ρ ds => (ρ.d 0).length - (ni ds 0).toNat⟩)] [] []) 3000 249 Go.Proofs.Tryz.f249 (bodyOf Go.Proofs.Tryz.f249) t_eqDe = V_eqDe := by kernel_rfl
set_option maxHeartbeats 4000000 in
set_option maxRecDepth 20000 in
theorem vcPf_eqDe : V_eqDe := by
  delta V_eqDe
  simp only [ob_iff, and_imp, List.cons_append, List.nil_append, dshs_cons, dshs_nil, dsh_int, dsh_bool, dsh_sl, rng64, rng32, true_and, and_true, List.cons.injEq, DV.c.injEq, DV.a.injEq, D.raw.injEq, D.fs.injEq, Value.bool.injEq, Value.int.injEq]
  repeat' first | assumption | exact DShs.tail (DSh_nth (by assumption) (by assumption)) | exact shp32 (by assumption) | exact shp64 (by assumption) | exact shp2 (by assumption) | exact shpF (by assumption) | with_reducible intro _ | with_reducible apply And.intro
  all_goals (try (have e := w64_succ ‹_ = w64 (_ + 1)› (by omega) (by omega); subst e))
  all_goals first
    | omega
    | (apply ‹∀ res : List DV, _ = _ → _›; simp; grind [getE_ne, take_all])
    | (rw [take_succ (by omega) (by assumption), take_succ (by omega) (by assumption)]; grind)
    | grind
theorem con_eqDe : Con Go.Proofs.Tryz.prog k0 249 t_eqDe :=
  con_of (cxf_ok mixOk (fun p hp => by cases hp) (fun p hp => by cases hp)) Go.Proofs.Tryz.func249 rfl rfl rfl rfl vcEq_eqDe vcPf_eqDe
end Go.Vc

namespace Go.Vc
open Classical
noncomputable def f_descSame (aa : List DV) : List DV := [vb (decide (li aa 0 = li aa 1))]
noncomputable def t_descSame : ConT := ⟨[kl, kl], [kb], fun aa => LSh pairS (li aa 0) ∧ LSh pairS (li aa 1), fun aa rs => rs = f_descSame aa⟩
theorem fn_descSame : ∀ aa, t_descSame.pre aa → ∀ rs, t_descSame.post aa rs → rs = f_descSame aa := fun _ _ _ h => h
noncomputable def V_descSame : Prop := ∀ (l0 l1 : List (List D)), Ob (LSh pairS l0 ∧ LSh pairS l1) → ∀ (R : List DV → Prop), Ob (∀ (res : List DV), res = [vb (decide (l0 = l1))] → R res) → Ob (LSh pairS l0 ∧ LSh pairS l1) ∧ ∀ (b3 : Bool), Ob ([vb b3] = [vb (decide (l0 = l1))]) → Ob (R [vb b3])
set_option maxRecDepth 100000 in
theorem vcEq_descSame : vcFn Go.Proofs.Tryz.prog k0 (cxf [(249, t_eqDe)] [] [] [(249, f_eqDe)]) 3000 188 Go.Proofs.Tryz.f188 (bodyOf Go.Proofs.Tryz.f188) t_descSame = V_descSame := by kernel_rfl
set_option maxHeartbeats 4000000 in
set_option maxRecDepth 20000 in
theorem vcPf_descSame : V_descSame := by
  delta V_descSame
  simp only [ob_iff, and_imp, List.cons_append, List.nil_append, dshs_cons, dshs_nil, dsh_int, dsh_bool, dsh_sl, rng64, rng32, true_and, and_true, List.cons.injEq, DV.c.injEq, DV.a.injEq, D.raw.injEq, D.fs.injEq, Value.bool.injEq, Value.int.injEq]
  repeat' first | assumption | exact DShs.tail (DSh_nth (by assumption) (by assumption)) | exact shp32 (by assumption) | exact shp64 (by assumption) | exact shp2 (by assumption) | exact shpF (by assumption) | with_reducible intro _ | with_reducible apply And.intro
  all_goals first
    | assumption
    | omega
    | (apply ‹∀ res : List DV, _ = _ → _›; simp_all)
    | grind
theorem con_descSame : Con Go.Proofs.Tryz.prog k0 188 t_descSame :=
  con_of (cxf_ok mixOk (fun p hp => by
    simp only [List.mem_cons, List.not_mem_nil, or_false] at hp
    subst hp
    exact con_eqDe) (fun p hp => by
    simp only [List.mem_cons, List.not_mem_nil, or_false] at hp
    subst hp
    · intro t ht; cases ht; exact fn_eqDe)) Go.Proofs.Tryz.func188 rfl rfl rfl rfl vcEq_descSame vcPf_descSame
end Go.Vc

namespace Go.Vc
open Classical
noncomputable def f_descCheck (aa : List DV) : List DV := [vn (e_desc (li aa 0))]
noncomputable def t_descCheck : ConT := ⟨[kl], [kn], fun aa => LSh pairS (li aa 0), fun aa rs => rs = f_descCheck aa⟩
theorem fn_descCheck : ∀ aa, t_descCheck.pre aa → ∀ rs, t_descCheck.post aa rs → rs = f_descCheck aa := fun _ _ _ h => h
noncomputable def V_descCheck : Prop := ∀ (l0 : List (List D)), Ob (LSh pairS l0) → ∀ (R : List DV → Prop), Ob (∀ (res : List DV), res = [vn (e_desc l0)] → R res) → ∀ (x2 : Int), x2 = (↑(List.length l0) : Int) → (x2 > (64 : Int) → Ob (R [vn (4 : Int)])) ∧ (¬x2 > (64 : Int) → ∀ (x3 : Int), x3 = (↑(List.length l0) : Int) → Ob ((0 : Int) ≤ (0 : Int) ∧ upto (at_desc l0) (0 : Int)) ∧ ∀ (g4 : Nat → Value) (x5 : Int), Ob ((0 : Int) ≤ x5 ∧ upto (at_desc l0) x5) → (x5 < x3 → Ob ((0 : Int) ≤ x5 ∧ x5 < (↑(List.length l0) : Int)) ∧ Ob (Shp [Kd.int IntKind.i64, Kd.int IntKind.i64] l0) ∧ ∀ (x6 x7 : Int), Ob (l0[Int.toNat x5]? = some [dn x6, dn x7]) → (x6 ≥ (0 : Int) → (x6 < (8 : Int) → (x7 ≥ (0 : Int) → (x7 ≤ (2147483647 : Int) → ∀ (x8 : Int), x8 = w64 (x5 + (1 : Int)) → Ob ((0 : Int) ≤ x8 ∧ upto (at_desc l0) x8) ∧ Ob (List.length l0 - Int.toNat x8 < List.length l0 - Int.toNat x5)) ∧ (¬x7 ≤ (2147483647 : Int) → (x5 ≥ (0 : Int) → Ob (R [vn (8 : Int)])) ∧ (¬x5 ≥ (0 : Int) → Ob (R [vn (0 : Int)])))) ∧ (¬x7 ≥ (0 : Int) → (x5 ≥ (0 : Int) → Ob (R [vn (8 : Int)])) ∧ (¬x5 ≥ (0 : Int) → Ob (R [vn (0 : Int)])))) ∧ (¬x6 < (8 : Int) → (x5 ≥ (0 : Int) → Ob (R [vn (8 : Int)])) ∧ (¬x5 ≥ (0 : Int) → Ob (R [vn (0 : Int)])))) ∧ (¬x6 ≥ (0 : Int) → (x5 ≥ (0 : Int) → Ob (R [vn (8 : Int)])) ∧ (¬x5 ≥ (0 : Int) → Ob (R [vn (0 : Int)])))) ∧ (¬x5 < x3 → Ob (R [vn (0 : Int)])))
set_option maxRecDepth 100000 in
theorem vcEq_descCheck : vcFn Go.Proofs.Tryz.prog k0 (cxf [] [(242001731011314032, 0, some ⟨[0, 1, 7], [8], [], [kn], [], fun ρ ds => 0 ≤ ni ds 0 ∧ upto (at_desc (ρ.d 0)) (ni ds 0), fun ρ ds => (ρ.d 0).length - (ni ds 0).toNat⟩)] [] []) 3000 242 Go.Proofs.Tryz.f242 (bodyOf Go.Proofs.Tryz.f242) t_descCheck = V_descCheck := by kernel_rfl
set_option maxHeartbeats 4000000 in
set_option maxRecDepth 20000 in
theorem vcPf_descCheck : V_descCheck := by
  delta V_descCheck
  simp only [ob_iff, and_imp, List.cons_append, List.nil_append, dshs_cons, dshs_nil, dsh_int, dsh_bool, dsh_sl, rng64, rng32, true_and, and_true, List.cons.injEq, DV.c.injEq, DV.a.injEq, D.raw.injEq, D.fs.injEq, Value.bool.injEq, Value.int.injEq]
  repeat' first | assumption | exact DShs.tail (DSh_nth (by assumption) (by assumption)) | exact shp32 (by assumption) | exact shp64 (by assumption) | exact shp2 (by assumption) | exact shpF (by assumption) | with_reducible intro _ | with_reducible apply And.intro
  all_goals (try (have e := w64_succ ‹_ = w64 (_ + 1)› (by omega) (by omega); subst e))
  all_goals first
    | assumption
    | omega
    | (exact fun i hi => by omega)
    | (apply ‹∀ res : List DV, _ = _ → _›; simp only [e_desc]; rw [if_pos (by omega)])
    | (apply ‹∀ res : List DV, _ = _ → _›; simp only [e_desc]; rw [if_neg (by omega), if_neg (upto_not (at_desc_no (by assumption) (by omega)) (by omega) (by omega))])
    | (apply ‹∀ res : List DV, _ = _ → _›; simp only [e_desc]; rw [if_neg (by omega), if_pos (upto_end (by assumption) (by omega))])
    | (rw [upto_succ (by omega)]; exact ⟨by assumption, at_desc_yes (by assumption) (by omega)⟩)

theorem con_descCheck : Con Go.Proofs.Tryz.prog k0 242 t_descCheck :=
  con_of (cxf_ok mixOk (fun p hp => by cases hp) (fun p hp => by cases hp)) Go.Proofs.Tryz.func242 rfl rfl rfl rfl vcEq_descCheck vcPf_descCheck
end Go.Vc

namespace Go.Vc
open Classical
noncomputable def t_lenU : ConT := ⟨[⟨[.int .u64], false, false⟩], [kn], fun aa => 0 ≤ ni aa 0 ∧ ni aa 0 < 16, fun aa rs => ∃ x, rs = [vn x]⟩
noncomputable def V_lenU : Prop := ∀ (x0 : Int), Ob ((0 : Int) ≤ x0 ∧ x0 < (16 : Int)) → ∀ (R : List DV → Prop), Ob (∀ (res : List DV), (∃ x, res = [vn x]) → R res) → Ob ¬x0 ≥ (4294967296 : Int) ∧ Ob ¬x0 ≥ (65536 : Int) ∧ Ob ¬x0 ≥ (256 : Int) ∧ ∀ (x2 : Int), x2 = IntKind.wrap IntKind.u8 x0 → Ob ((0 : Int) ≤ x2 ∧ x2 < (↑(16 : Nat) : Int)) ∧ (((((((((((((((True ∧ (Ob (x2 = Int.ofNat (0)) → Ob (R [vn (w64 ((0 : Int) + IntKind.wrap IntKind.i64 (↑(0) : Int)))]))) ∧ (Ob (x2 = Int.ofNat (1)) → Ob (R [vn (w64 ((0 : Int) + IntKind.wrap IntKind.i64 (↑(1) : Int)))]))) ∧ (Ob (x2 = Int.ofNat (2)) → Ob (R [vn (w64 ((0 : Int) + IntKind.wrap IntKind.i64 (↑(2) : Int)))]))) ∧ (Ob (x2 = Int.ofNat (3)) → Ob (R [vn (w64 ((0 : Int) + IntKind.wrap IntKind.i64 (↑(2) : Int)))]))) ∧ (Ob (x2 = Int.ofNat (4)) → Ob (R [vn (w64 ((0 : Int) + IntKind.wrap IntKind.i64 (↑(3) : Int)))]))) ∧ (Ob (x2 = Int.ofNat (5)) → Ob (R [vn (w64 ((0 : Int) + IntKind.wrap IntKind.i64 (↑(3) : Int)))]))) ∧ (Ob (x2 = Int.ofNat (6)) → Ob (R [vn (w64 ((0 : Int) + IntKind.wrap IntKind.i64 (↑(3) : Int)))]))) ∧ (Ob (x2 = Int.ofNat (7)) → Ob (R [vn (w64 ((0 : Int) + IntKind.wrap IntKind.i64 (↑(3) : Int)))]))) ∧ (Ob (x2 = Int.ofNat (8)) → Ob (R [vn (w64 ((0 : Int) + IntKind.wrap IntKind.i64 (↑(4) : Int)))]))) ∧ (Ob (x2 = Int.ofNat (9)) → Ob (R [vn (w64 ((0 : Int) + IntKind.wrap IntKind.i64 (↑(4) : Int)))]))) ∧ (Ob (x2 = Int.ofNat (10)) → Ob (R [vn (w64 ((0 : Int) + IntKind.wrap IntKind.i64 (↑(4) : Int)))]))) ∧ (Ob (x2 = Int.ofNat (11)) → Ob (R [vn (w64 ((0 : Int) + IntKind.wrap IntKind.i64 (↑(4) : Int)))]))) ∧ (Ob (x2 = Int.ofNat (12)) → Ob (R [vn (w64 ((0 : Int) + IntKind.wrap IntKind.i64 (↑(4) : Int)))]))) ∧ (Ob (x2 = Int.ofNat (13)) → Ob (R [vn (w64 ((0 : Int) + IntKind.wrap IntKind.i64 (↑(4) : Int)))]))) ∧ (Ob (x2 = Int.ofNat (14)) → Ob (R [vn (w64 ((0 : Int) + IntKind.wrap IntKind.i64 (↑(4) : Int)))]))) ∧ (Ob (x2 = Int.ofNat (15)) → Ob (R [vn (w64 ((0 : Int) + IntKind.wrap IntKind.i64 (↑(4) : Int)))]))
set_option maxRecDepth 100000 in
theorem vcEq_lenU : vcFn Go.Proofs.Tryz.prog k0 (cxf [] [] [(295001202008, 5, false), (295001202008, 9, false), (295001202008, 15, false)] []) 3000 295 Go.Proofs.Tryz.f295 (bodyOf Go.Proofs.Tryz.f295) t_lenU = V_lenU := by kernel_rfl
set_option maxHeartbeats 4000000 in
set_option maxRecDepth 20000 in
theorem vcPf_lenU : V_lenU := by
  delta V_lenU
  simp only [ob_iff, and_imp, List.cons_append, List.nil_append, dshs_cons, dshs_nil, dsh_int, dsh_bool, dsh_sl, rng64, rng32, true_and, and_true, List.cons.injEq, DV.c.injEq, DV.a.injEq, D.raw.injEq, D.fs.injEq, Value.bool.injEq, Value.int.injEq]
  repeat' first | assumption | exact DShs.tail (DSh_nth (by assumption) (by assumption)) | exact shp32 (by assumption) | exact shp64 (by assumption) | exact shp2 (by assumption) | exact shpF (by assumption) | with_reducible intro _ | with_reducible apply And.intro
  all_goals (try (have z := w8_id (by assumption) (by omega) (by omega); skip))
  all_goals first
    | assumption
    | omega
    | (apply ‹∀ res : List DV, (∃ x : Int, _) → _›; exact ⟨_, rfl⟩)

theorem con_lenU : Con Go.Proofs.Tryz.prog k0 295 t_lenU :=
  con_of (cxf_ok mixOk (fun p hp => by cases hp) (fun p hp => by cases hp)) Go.Proofs.Tryz.func295 rfl rfl rfl rfl vcEq_lenU vcPf_lenU
end Go.Vc

namespace Go.Vc
open Classical
noncomputable def f_cmpI (aa : List DV) : List DV := [vn (cmpI (ni aa 0) (ni aa 1))]
noncomputable def t_cmpI : ConT := ⟨[kn, kn], [kn], fun aa => True, fun aa rs => rs = f_cmpI aa⟩
theorem fn_cmpI : ∀ aa, t_cmpI.pre aa → ∀ rs, t_cmpI.post aa rs → rs = f_cmpI aa := fun _ _ _ h => h
noncomputable def V_cmpI : Prop := ∀ (x0 x1 : Int), Ob True → ∀ (R : List DV → Prop), Ob (∀ (res : List DV), res = [vn (cmpI x0 x1)] → R res) → (x0 ≠ x0 → (x1 ≠ x1 → Ob (R [vn (0 : Int)])) ∧ (¬x1 ≠ x1 → Ob (R [vn (-1 : Int)]))) ∧ (¬x0 ≠ x0 → (x1 ≠ x1 → Ob (R [vn (1 : Int)])) ∧ (¬x1 ≠ x1 → (x0 < x1 → Ob (R [vn (-1 : Int)])) ∧ (¬x0 < x1 → (x0 > x1 → Ob (R [vn (1 : Int)])) ∧ (¬x0 > x1 → Ob (R [vn (0 : Int)])))))
set_option maxRecDepth 100000 in
theorem vcEq_cmpI : vcFn Go.Proofs.Tryz.prog k0 (cxf [] [] [] []) 3000 331 Go.Proofs.Tryz.f331 (bodyOf Go.Proofs.Tryz.f331) t_cmpI = V_cmpI := by kernel_rfl
set_option maxHeartbeats 4000000 in
set_option maxRecDepth 20000 in
theorem vcPf_cmpI : V_cmpI := by
  delta V_cmpI
  simp only [ob_iff, and_imp, List.cons_append, List.nil_append, dshs_cons, dshs_nil, dsh_int, dsh_bool, dsh_sl, rng64, rng32, true_and, and_true, List.cons.injEq, DV.c.injEq, DV.a.injEq, D.raw.injEq, D.fs.injEq, Value.bool.injEq, Value.int.injEq]
  repeat' first | assumption | exact DShs.tail (DSh_nth (by assumption) (by assumption)) | exact shp32 (by assumption) | exact shp64 (by assumption) | exact shp2 (by assumption) | exact shpF (by assumption) | with_reducible intro _ | with_reducible apply And.intro
  all_goals first
    | assumption
    | omega
    | (apply ‹∀ res : List DV, _ = _ → _›; simp [cmpI]; omega)
    | (apply ‹∀ res : List DV, _ = _ → _›; simp [cmpI]; grind)
    | (grind)

theorem con_cmpI : Con Go.Proofs.Tryz.prog k0 331 t_cmpI :=
  con_of (cxf_ok mixOk (fun p hp => by cases hp) (fun p hp => by cases hp)) Go.Proofs.Tryz.func331 rfl rfl rfl rfl vcEq_cmpI vcPf_cmpI
end Go.Vc

namespace Go.Vc
open Classical
noncomputable def t_best : ConT := ⟨[kl], [kl, kn], fun aa => LSh pairS (li aa 0) ∧ (li aa 0).length ≤ 12, fun aa rs => ∃ l x, rs = [vl l, vn x] ∧ LSh pairS l ∧ l.length ≤ 12 ∧ l.length ≤ (li aa 0).length ∧ x = e_desc (li aa 0)⟩
noncomputable def V_best : Prop := ∀ (l0 : List (List D)), Ob (LSh pairS l0 ∧ List.length l0 ≤ (12 : Nat)) → ∀ (R : List DV → Prop), Ob (∀ (res : List DV), (∃ l x, res = [vl l, vn x] ∧ LSh pairS l ∧ List.length l ≤ (12 : Nat) ∧ List.length l ≤ List.length l0 ∧ x = e_desc l0) → R res) → Ob (LSh pairS l0) ∧ ∀ (x2 : Int), Ob ([vn x2] = [vn (e_desc l0)]) → (x2 ≠ (0 : Int) → (x2 ≠ (0 : Int) → Ob (R [vl [], vn x2])) ∧ (¬x2 ≠ (0 : Int) → Ob (R [vl [], vn (0 : Int)]))) ∧ (¬x2 ≠ (0 : Int) → (l0 = [] → Ob ((0 : Int) ≤ IntKind.wrap IntKind.u64 (↑(0 : Nat) : Int) ∧ IntKind.wrap IntKind.u64 (↑(0 : Nat) : Int) < (16 : Int)) ∧ ∀ (x3 : Int), Ob (∃ x, [vn x3] = [vn x]) → Ob (R [vl [], vn (0 : Int)])) ∧ Ob (Shp [Kd.int IntKind.i64, Kd.int IntKind.i64] l0 ∧ List.length ([] : List (List D)) + List.length l0 ≤ (1048576 : Nat)) ∧ ∀ (l4 : List (List D)), l4 = [] ++ l0 → ∀ (x5 : Int), x5 = (↑(List.length l4) : Int) → ∀ (x6 : Int), x6 = IntKind.wrap IntKind.u64 x5 → Ob ((0 : Int) ≤ x6 ∧ x6 < (16 : Int)) ∧ ∀ (x7 : Int), Ob (∃ x, [vn x7] = [vn x]) → ∀ (x8 : Int), x8 = w64 (x5 - (0 : Int)) → Ob (x8 ≤ (12 : Int)) ∧ Ob ((1 : Int) ≤ w64 ((0 : Int) + (1 : Int)) ∧ List.length l4 = List.length l4 ∧ okD l4) ∧ ∀ (g9 : Nat → Value) (x10 : Int) (l11 : List (List D)), Ob ((1 : Int) ≤ x10 ∧ List.length l11 = List.length l4 ∧ okD l11) → (x10 < x5 → Ob ((0 : Int) ≤ x10 ∧ x10 < (↑(List.length l4) : Int) ∧ List.length l11 = List.length l4 ∧ okD l11) ∧ ∀ (g12 : Nat → Value) (x13 : Int) (l14 : List (List D)), Ob ((0 : Int) ≤ x13 ∧ x13 < (↑(List.length l4) : Int) ∧ List.length l14 = List.length l4 ∧ okD l14) → (x13 > (0 : Int) → Ob ((0 : Int) ≤ x13 ∧ x13 < (↑(List.length l14) : Int)) ∧ ∀ (x15 : Int), x15 = x13 → Ob ((0 : Int) ≤ x15 ∧ x15 < (↑(List.length l14) : Int)) ∧ Ob (Shp [Kd.int IntKind.i64, Kd.int IntKind.i64] l14) ∧ ∀ (x16 x17 : Int), Ob (l14[Int.toNat x15]? = some [dn x16, dn x17]) → ∀ (x18 : Int), x18 = w64 (x13 - (1 : Int)) → Ob ((0 : Int) ≤ x18 ∧ x18 < (↑(List.length l14) : Int)) ∧ ∀ (x19 : Int), x19 = x18 → Ob ((0 : Int) ≤ x19 ∧ x19 < (↑(List.length l14) : Int)) ∧ Ob (Shp [Kd.int IntKind.i64, Kd.int IntKind.i64] l14) ∧ ∀ (x20 x21 : Int), Ob (l14[Int.toNat x19]? = some [dn x20, dn x21]) → Ob True ∧ ∀ (x22 : Int), Ob ([vn x22] = [vn (cmpI x21 x17)]) → Ob True ∧ ∀ (x23 : Int), Ob ([vn x23] = [vn (cmpI x16 x20)]) → (x22 ≠ (0 : Int) → (x22 < (0 : Int) → ∀ (x24 : Int), x24 = w64 (x13 - (1 : Int)) → ∀ (x25 : Int), x25 = w64 (x13 - (1 : Int)) → Ob ((0 : Int) ≤ x25 ∧ x25 < (↑(List.length l14) : Int)) ∧ ∀ (x26 : Int), x26 = x25 → Ob ((0 : Int) ≤ x26 ∧ x26 < (↑(List.length l14) : Int)) ∧ Ob (Shp [Kd.int IntKind.i64, Kd.int IntKind.i64] l14) ∧ ∀ (x27 x28 : Int), Ob (l14[Int.toNat x26]? = some [dn x27, dn x28]) → Ob ((0 : Int) ≤ x13 ∧ x13 < (↑(List.length l14) : Int)) ∧ ∀ (x29 : Int), x29 = x13 → Ob ((0 : Int) ≤ x29 ∧ x29 < (↑(List.length l14) : Int)) ∧ Ob (Shp [Kd.int IntKind.i64, Kd.int IntKind.i64] l14) ∧ ∀ (x30 x31 : Int), Ob (l14[Int.toNat x29]? = some [dn x30, dn x31]) → Ob ((0 : Int) ≤ x13 ∧ x13 < (↑(List.length l14) : Int)) ∧ ∀ (x32 : Int), x32 = x13 → Ob ((0 : Int) ≤ x32 ∧ x32 < (↑(List.length l14) : Int)) ∧ ∀ (l33 : List (List D)), l33 = List.set l14 (Int.toNat x32) [dn x27, dn x28] → Ob ((0 : Int) ≤ x24 ∧ x24 < (↑(List.length l33) : Int)) ∧ ∀ (x34 : Int), x34 = x24 → Ob ((0 : Int) ≤ x34 ∧ x34 < (↑(List.length l33) : Int)) ∧ ∀ (l35 : List (List D)), l35 = List.set l33 (Int.toNat x34) [dn x30, dn x31] → ∀ (x36 : Int), x36 = w64 (x13 - (1 : Int)) → Ob ((0 : Int) ≤ x36 ∧ x36 < (↑(List.length l4) : Int) ∧ List.length l35 = List.length l4 ∧ okD l35) ∧ Ob (Int.toNat x36 < Int.toNat x13)) ∧ (¬x22 < (0 : Int) → ∀ (x37 : Int), x37 = w64 (x10 + (1 : Int)) → Ob ((1 : Int) ≤ x37 ∧ List.length l14 = List.length l4 ∧ okD l14) ∧ Ob (List.length l4 - Int.toNat x37 < List.length l4 - Int.toNat x10))) ∧ (¬x22 ≠ (0 : Int) → (x23 ≠ (0 : Int) → (x23 < (0 : Int) → ∀ (x38 : Int), x38 = w64 (x13 - (1 : Int)) → ∀ (x39 : Int), x39 = w64 (x13 - (1 : Int)) → Ob ((0 : Int) ≤ x39 ∧ x39 < (↑(List.length l14) : Int)) ∧ ∀ (x40 : Int), x40 = x39 → Ob ((0 : Int) ≤ x40 ∧ x40 < (↑(List.length l14) : Int)) ∧ Ob (Shp [Kd.int IntKind.i64, Kd.int IntKind.i64] l14) ∧ ∀ (x41 x42 : Int), Ob (l14[Int.toNat x40]? = some [dn x41, dn x42]) → Ob ((0 : Int) ≤ x13 ∧ x13 < (↑(List.length l14) : Int)) ∧ ∀ (x43 : Int), x43 = x13 → Ob ((0 : Int) ≤ x43 ∧ x43 < (↑(List.length l14) : Int)) ∧ Ob (Shp [Kd.int IntKind.i64, Kd.int IntKind.i64] l14) ∧ ∀ (x44 x45 : Int), Ob (l14[Int.toNat x43]? = some [dn x44, dn x45]) → Ob ((0 : Int) ≤ x13 ∧ x13 < (↑(List.length l14) : Int)) ∧ ∀ (x46 : Int), x46 = x13 → Ob ((0 : Int) ≤ x46 ∧ x46 < (↑(List.length l14) : Int)) ∧ ∀ (l47 : List (List D)), l47 = List.set l14 (Int.toNat x46) [dn x41, dn x42] → Ob ((0 : Int) ≤ x38 ∧ x38 < (↑(List.length l47) : Int)) ∧ ∀ (x48 : Int), x48 = x38 → Ob ((0 : Int) ≤ x48 ∧ x48 < (↑(List.length l47) : Int)) ∧ ∀ (l49 : List (List D)), l49 = List.set l47 (Int.toNat x48) [dn x44, dn x45] → ∀ (x50 : Int), x50 = w64 (x13 - (1 : Int)) → Ob ((0 : Int) ≤ x50 ∧ x50 < (↑(List.length l4) : Int) ∧ List.length l49 = List.length l4 ∧ okD l49) ∧ Ob (Int.toNat x50 < Int.toNat x13)) ∧ (¬x23 < (0 : Int) → ∀ (x51 : Int), x51 = w64 (x10 + (1 : Int)) → Ob ((1 : Int) ≤ x51 ∧ List.length l14 = List.length l4 ∧ okD l14) ∧ Ob (List.length l4 - Int.toNat x51 < List.length l4 - Int.toNat x10))) ∧ (¬x23 ≠ (0 : Int) → ∀ (x52 : Int), x52 = w64 (x10 + (1 : Int)) → Ob ((1 : Int) ≤ x52 ∧ List.length l14 = List.length l4 ∧ okD l14) ∧ Ob (List.length l4 - Int.toNat x52 < List.length l4 - Int.toNat x10)))) ∧ (¬x13 > (0 : Int) → ∀ (x53 : Int), x53 = w64 (x10 + (1 : Int)) → Ob ((1 : Int) ≤ x53 ∧ List.length l14 = List.length l4 ∧ okD l14) ∧ Ob (List.length l4 - Int.toNat x53 < List.length l4 - Int.toNat x10))) ∧ (¬x10 < x5 → ∀ (x54 : Int), x54 = (↑(List.length l11) : Int) → Ob ((0 : Int) ≤ (0 : Int)) ∧ ∀ (g55 : Nat → Value) (x56 : Int) (b57 b58 b59 b60 b61 b62 b63 b64 : Bool), Ob ((0 : Int) ≤ x56) → (x56 < x54 → Ob ((0 : Int) ≤ x56 ∧ x56 < (↑(List.length l11) : Int)) ∧ ∀ (x65 : Int), x65 = x56 → Ob ((0 : Int) ≤ x65 ∧ x65 < (↑(List.length l11) : Int)) ∧ Ob (Shp [Kd.int IntKind.i64, Kd.int IntKind.i64] l11) ∧ ∀ (x66 x67 : Int), Ob (l11[Int.toNat x65]? = some [dn x66, dn x67]) → (Ob ((0 : Int) ≤ x66 ∧ x66 < (↑(8 : Nat) : Int)) ∧ (((((((True ∧ (Ob (x66 = Int.ofNat (0)) → Ob True ∧ Ob ((0 : Nat) < (1 : Nat)))) ∧ (Ob (x66 = Int.ofNat (1)) → Ob True ∧ Ob ((0 : Nat) < (1 : Nat)))) ∧ (Ob (x66 = Int.ofNat (2)) → Ob True ∧ Ob ((0 : Nat) < (1 : Nat)))) ∧ (Ob (x66 = Int.ofNat (3)) → Ob True ∧ Ob ((0 : Nat) < (1 : Nat)))) ∧ (Ob (x66 = Int.ofNat (4)) → Ob True ∧ Ob ((0 : Nat) < (1 : Nat)))) ∧ (Ob (x66 = Int.ofNat (5)) → Ob True ∧ Ob ((0 : Nat) < (1 : Nat)))) ∧ (Ob (x66 = Int.ofNat (6)) → Ob True ∧ Ob ((0 : Nat) < (1 : Nat)))) ∧ (Ob (x66 = Int.ofNat (7)) → Ob True ∧ Ob ((0 : Nat) < (1 : Nat)))) ∧ ∀ (g68 : Nat → Value) (b69 : Bool), Ob True → (Ob ((0 : Int) ≤ x66 ∧ x66 < (↑(8 : Nat) : Int)) ∧ (((((((True ∧ (Ob (x66 = Int.ofNat (0)) → Ob True ∧ Ob ((0 : Nat) < (1 : Nat)))) ∧ (Ob (x66 = Int.ofNat (1)) → Ob True ∧ Ob ((0 : Nat) < (1 : Nat)))) ∧ (Ob (x66 = Int.ofNat (2)) → Ob True ∧ Ob ((0 : Nat) < (1 : Nat)))) ∧ (Ob (x66 = Int.ofNat (3)) → Ob True ∧ Ob ((0 : Nat) < (1 : Nat)))) ∧ (Ob (x66 = Int.ofNat (4)) → Ob True ∧ Ob ((0 : Nat) < (1 : Nat)))) ∧ (Ob (x66 = Int.ofNat (5)) → Ob True ∧ Ob ((0 : Nat) < (1 : Nat)))) ∧ (Ob (x66 = Int.ofNat (6)) → Ob True ∧ Ob ((0 : Nat) < (1 : Nat)))) ∧ (Ob (x66 = Int.ofNat (7)) → Ob True ∧ Ob ((0 : Nat) < (1 : Nat)))) ∧ ∀ (g70 : Nat → Value) (b71 b72 b73 b74 b75 b76 b77 b78 : Bool), Ob True → (b69 = true → (x56 = (-1 : Int) → Ob (R [vl l11, vn (0 : Int)])) ∧ (¬x56 = (-1 : Int) → ∀ (x79 : Int), x79 = w64 (x56 + (1 : Int)) → Ob ((0 : Int) ≤ x56 ∧ x56 < x79 ∧ x79 ≤ (↑(List.length l11) : Int) ∧ List.length l11 = List.length l11 ∧ okD l11) ∧ ∀ (g80 : Nat → Value) (x81 x82 : Int) (b83 b84 b85 b86 b87 b88 b89 b90 : Bool) (l91 : List (List D)), Ob ((0 : Int) ≤ x82 ∧ x82 < x81 ∧ x81 ≤ (↑(List.length l11) : Int) ∧ List.length l91 = List.length l11 ∧ okD l91) → ∀ (x92 : Int), x92 = (↑(List.length l91) : Int) → (x81 < x92 → Ob ((0 : Int) ≤ x81 ∧ x81 < (↑(List.length l91) : Int)) ∧ ∀ (x93 : Int), x93 = x81 → Ob ((0 : Int) ≤ x93 ∧ x93 < (↑(List.length l91) : Int)) ∧ Ob (Shp [Kd.int IntKind.i64, Kd.int IntKind.i64] l91) ∧ ∀ (x94 x95 : Int), Ob (l91[Int.toNat x93]? = some [dn x94, dn x95]) → (Ob ((0 : Int) ≤ x94 ∧ x94 < (↑(8 : Nat) : Int)) ∧ (((((((True ∧ (Ob (x94 = Int.ofNat (0)) → Ob True ∧ Ob ((0 : Nat) < (1 : Nat)))) ∧ (Ob (x94 = Int.ofNat (1)) → Ob True ∧ Ob ((0 : Nat) < (1 : Nat)))) ∧ (Ob (x94 = Int.ofNat (2)) → Ob True ∧ Ob ((0 : Nat) < (1 : Nat)))) ∧ (Ob (x94 = Int.ofNat (3)) → Ob True ∧ Ob ((0 : Nat) < (1 : Nat)))) ∧ (Ob (x94 = Int.ofNat (4)) → Ob True ∧ Ob ((0 : Nat) < (1 : Nat)))) ∧ (Ob (x94 = Int.ofNat (5)) → Ob True ∧ Ob ((0 : Nat) < (1 : Nat)))) ∧ (Ob (x94 = Int.ofNat (6)) → Ob True ∧ Ob ((0 : Nat) < (1 : Nat)))) ∧ (Ob (x94 = Int.ofNat (7)) → Ob True ∧ Ob ((0 : Nat) < (1 : Nat)))) ∧ ∀ (g96 : Nat → Value) (b97 : Bool), Ob True → (Ob ((0 : Int) ≤ x94 ∧ x94 < (↑(8 : Nat) : Int)) ∧ (((((((True ∧ (Ob (x94 = Int.ofNat (0)) → Ob True ∧ Ob ((0 : Nat) < (1 : Nat)))) ∧ (Ob (x94 = Int.ofNat (1)) → Ob True ∧ Ob ((0 : Nat) < (1 : Nat)))) ∧ (Ob (x94 = Int.ofNat (2)) → Ob True ∧ Ob ((0 : Nat) < (1 : Nat)))) ∧ (Ob (x94 = Int.ofNat (3)) → Ob True ∧ Ob ((0 : Nat) < (1 : Nat)))) ∧ (Ob (x94 = Int.ofNat (4)) → Ob True ∧ Ob ((0 : Nat) < (1 : Nat)))) ∧ (Ob (x94 = Int.ofNat (5)) → Ob True ∧ Ob ((0 : Nat) < (1 : Nat)))) ∧ (Ob (x94 = Int.ofNat (6)) → Ob True ∧ Ob ((0 : Nat) < (1 : Nat)))) ∧ (Ob (x94 = Int.ofNat (7)) → Ob True ∧ Ob ((0 : Nat) < (1 : Nat)))) ∧ ∀ (g98 : Nat → Value) (b99 b100 b101 b102 b103 b104 b105 b106 : Bool), Ob True → (b97 = false → Ob ((0 : Int) ≤ x82 ∧ x82 < (↑(List.length l91) : Int)) ∧ ∀ (x107 : Int), x107 = x82 → Ob ((0 : Int) ≤ x107 ∧ x107 < (↑(List.length l91) : Int)) ∧ ∀ (l108 : List (List D)), l108 = List.set l91 (Int.toNat x107) [dn x94, dn x95] → ∀ (x109 : Int), x109 = w64 (x82 + (1 : Int)) → ∀ (x110 : Int), x110 = w64 (x81 + (1 : Int)) → Ob ((0 : Int) ≤ x109 ∧ x109 < x110 ∧ x110 ≤ (↑(List.length l11) : Int) ∧ List.length l108 = List.length l11 ∧ okD l108) ∧ Ob (List.length l11 - Int.toNat x110 < List.length l11 - Int.toNat x81)) ∧ (¬b97 = false → ∀ (x111 : Int), x111 = w64 (x81 + (1 : Int)) → Ob ((0 : Int) ≤ x82 ∧ x82 < x111 ∧ x111 ≤ (↑(List.length l11) : Int) ∧ List.length l91 = List.length l11 ∧ okD l91) ∧ Ob (List.length l11 - Int.toNat x111 < List.length l11 - Int.toNat x81))) ∧ (¬x81 < x92 → Ob ((0 : Int) ≤ x82 ∧ x82 ≤ (↑(List.length l91) : Int)) ∧ ∀ (x112 : Int), x112 = x82 → ∀ (l113 : List (List D)), l113 = List.take (Int.toNat x112) l91 ++ List.replicate (List.length l91 - Int.toNat x112) [dn (0 : Int), dn (0 : Int)] → Ob ((0 : Int) ≤ x82 ∧ x82 ≤ (↑(List.length l113) : Int)) ∧ ∀ (l114 : List (List D)), l114 = List.take (Int.toNat x82) l113 → Ob (R [vl l114, vn (0 : Int)])))) ∧ (b69 = false → ∀ (x115 : Int), x115 = w64 (x56 + (1 : Int)) → Ob ((0 : Int) ≤ x115) ∧ Ob (List.length l11 - Int.toNat x115 < List.length l11 - Int.toNat x56))) ∧ (¬x56 < x54 → Ob (R [vl l11, vn (0 : Int)]))))
set_option maxRecDepth 100000 in
theorem vcEq_best : vcFn Go.Proofs.Tryz.prog k0 (cxf [(242, t_descCheck), (295, t_lenU), (331, t_cmpI)] [(270002727019391086249149, 0, none), (270003537027572144422408080478, 0, some ⟨[0, 3, 1, 2], [8], [], [kn], [⟨0, 118, 2, false, .row 4⟩], fun ρ ds => 1 ≤ ni ds 0 ∧ (li ds 1).length = (ρ.d 3).length ∧ okD (li ds 1), fun ρ ds => (ρ.d 3).length - (ni ds 0).toNat⟩), (270003537027572144422408080478, 2, some ⟨[0, 3, 1, 2, 8], [9], [], [kn], [⟨0, 118, 2, false, .row 4⟩], fun ρ ds => 0 ≤ ni ds 0 ∧ ni ds 0 < (ρ.d 3).length ∧ (li ds 1).length = (ρ.d 3).length ∧ okD (li ds 1), fun ρ ds => (ni ds 0).toNat⟩), (270005967066695495361547829794897254819134346244, 0, none), (270002701027215129924212, 500001, some ⟨[1, 2], [4], [], [kb], [], fun ρ ds => True, fun ρ ds => 0⟩), (270002701027215129924212, 500002, some ⟨[1, 2, 4], [], [(11, 0), (11, 1), (11, 2), (11, 3), (11, 4), (11, 5), (11, 6), (11, 7)], [kb, kb, kb, kb, kb, kb, kb, kb], [], fun ρ ds => True, fun ρ ds => 0⟩), (270001891021541083, 500001, some ⟨[1, 2], [4], [], [kb], [], fun ρ ds => True, fun ρ ds => 0⟩), (270001891021541083, 500002, some ⟨[1, 2, 4], [], [(11, 0), (11, 1), (11, 2), (11, 3), (11, 4), (11, 5), (11, 6), (11, 7)], [kb, kb, kb, kb, kb, kb, kb, kb], [], fun ρ ds => True, fun ρ ds => 0⟩), (270001891021542065, 0, some ⟨[0, 1, 7], [8], [(11, 0), (11, 1), (11, 2), (11, 3), (11, 4), (11, 5), (11, 6), (11, 7)], [kn, kb, kb, kb, kb, kb, kb, kb, kb], [], fun ρ ds => 0 ≤ ni ds 0, fun ρ ds => (ρ.d 10).length - (ni ds 0).toNat⟩), (270001081018, 0, some ⟨[0, 1], [6, 5], [(11, 0), (11, 1), (11, 2), (11, 3), (11, 4), (11, 5), (11, 6), (11, 7)], [kn, kn, kb, kb, kb, kb, kb, kb, kb, kb], [⟨0, 118, 2, false, .row 4⟩], fun ρ ds => 0 ≤ ni ds 1 ∧ ni ds 1 < ni ds 0 ∧ ni ds 0 ≤ (ρ.d 10).length ∧ (li ds 10).length = (ρ.d 10).length ∧ okD (li ds 10), fun ρ ds => (ρ.d 10).length - (ni ds 0).toNat⟩)] [(270002727019391086249149, 26, true)] [(242, f_descCheck), (331, f_cmpI)]) 3000 270 Go.Proofs.Tryz.f270 (bodyOf Go.Proofs.Tryz.f270) t_best = V_best := by kernel_rfl
set_option maxHeartbeats 4000000 in
set_option maxRecDepth 20000 in
theorem vcPf_best : V_best := by
  delta V_best
  simp only [ob_iff, and_imp, List.cons_append, List.nil_append, dshs_cons, dshs_nil, dsh_int, dsh_bool, dsh_sl, rng64, rng32, true_and, and_true, List.cons.injEq, DV.c.injEq, DV.a.injEq, D.raw.injEq, D.fs.injEq, Value.bool.injEq, Value.int.injEq]
  repeat' first | assumption | exact DShs.tail (DSh_nth (by assumption) (by assumption)) | exact shp32 (by assumption) | exact shp64 (by assumption) | exact shp2 (by assumption) | exact shpF (by assumption) | with_reducible intro _ | with_reducible apply And.intro
  all_goals (try subst_vars)
  all_goals (try simp (disch := omega) only [w64_id, wu64, Int.sub_zero, Int.zero_add, List.length_set] at *)
  all_goals first
    | assumption
    | omega
    | trivial
    | exact LS.rect (by assumption)
    | exact okD.shp (by assumption)
    | exact okD_of rfl (by omega) (by assumption) (by omega)
    | (have z := okD_nth (by assumption) (by assumption); omega)
    | exact okD_set (okD_set (by assumption) (okE_iff.2 (okD_nth (by assumption) (by assumption)))) (okE_iff.2 (okD_nth (by assumption) (by assumption)))
    | (refine ⟨?_, ?_, ?_, okD_set (okD_set (by assumption) (okE_iff.2 (okD_nth (by assumption) (by assumption)))) (okE_iff.2 (okD_nth (by assumption) (by assumption)))⟩ <;> first | omega | (simp; omega))
    | (apply ‹∀ res : List DV, (∃ (l : List (List D)) (x : Int), _) → _›; exact ⟨_, _, rfl, ⟨by first | omega | (simp; try omega), by first | exact ls_nil | exact okD.ls (by assumption)⟩, by first | omega | (simp; try omega), by first | omega | (simp; try omega), by first | rfl | omega⟩)
    | exact okD_set (by assumption) (okE_iff.2 (okD_nth (by assumption) (by assumption)))
    | (apply ‹∀ res : List DV, (∃ (l : List (List D)) (x : Int), _) → _›; refine ⟨_, _, rfl, ⟨?_, And.left (okD_clr (by assumption) (by omega))⟩, ?_, ?_, by first | rfl | omega⟩ <;> exact Nat.le_trans (And.right (okD_clr (by assumption) (by omega))) (by omega))
    | grind

theorem con_best : Con Go.Proofs.Tryz.prog k0 270 t_best :=
  con_of (cxf_ok mixOk (fun p hp => by
    simp only [List.mem_cons, List.not_mem_nil, or_false] at hp
    rcases hp with rfl | rfl | rfl
    · exact con_descCheck
    · exact con_lenU
    · exact con_cmpI) (fun p hp => by
    simp only [List.mem_cons, List.not_mem_nil, or_false] at hp
    rcases hp with rfl | rfl
    · intro t ht; cases ht; exact fn_descCheck
    · intro t ht; cases ht; exact fn_cmpI)) Go.Proofs.Tryz.func270 rfl rfl rfl rfl vcEq_best vcPf_best
end Go.Vc

namespace Go.Vc
open Classical
noncomputable def t_cacheCheckE : ConT := ⟨[rkS cacheS], [kn], fun aa => DShs cacheS (ai aa 0) ∧ (gL (ai aa 0) 2).length = 0, fun aa rs => ∃ x, rs = [vn x] ∧ (x = 0 ↔ 0 ≤ gI (ai aa 0) 0 ∧ gI (ai aa 0) 0 ≤ 7 ∧ 1 ≤ gI (ai aa 0) 1 ∧ gI (ai aa 0) 1 ≤ 6)⟩
noncomputable def V_cacheCheckE : Prop := ∀ (x0 x1 : Int) (l2 : List (List D)), Ob (DShs cacheS [dn x0, dn x1, D.fs l2] ∧ List.length l2 = (0 : Nat)) → ∀ (R : List DV → Prop), Ob (∀ (res : List DV), (∃ x, res = [vn x] ∧ (x = (0 : Int) ↔ (0 : Int) ≤ x0 ∧ x0 ≤ (7 : Int) ∧ (1 : Int) ≤ x1 ∧ x1 ≤ (6 : Int))) → R res) → (x0 < (0 : Int) → Ob (R [vn (8 : Int)])) ∧ (¬x0 < (0 : Int) → (x0 ≥ (8 : Int) → Ob (R [vn (8 : Int)])) ∧ (¬x0 ≥ (8 : Int) → (x1 < (1 : Int) → Ob (R [vn (8 : Int)])) ∧ (¬x1 < (1 : Int) → (x1 > (6 : Int) → Ob (R [vn (8 : Int)])) ∧ (¬x1 > (6 : Int) → ∀ (x4 : Int), x4 = (↑(List.length l2) : Int) → (x4 > x1 → Ob (R [vn (8 : Int)])) ∧ (¬x4 > x1 → ∀ (x5 : Int), x5 = (↑(List.length l2) : Int) → ∀ (x6 : Int), x6 = w64 ((0 : Int) + x5) → Ob ¬x6 < (0 : Int) ∧ Ob ¬x6 < (0 : Int) ∧ ∀ (x7 : Int), x7 = w64 (x6 - w64 ((↑(0 : Nat) : Int) - (↑(0 : Nat) : Int))) → Ob ¬x7 > (0 : Int) ∧ Ob (Shp [Kd.int IntKind.i64, Kd.int IntKind.i64] l2 ∧ List.length ([] : List (List D)) + List.length l2 ≤ (1048576 : Nat)) ∧ ∀ (l8 : List (List D)), l8 = [] ++ l2 → ∀ (x9 : Int), x9 = (↑(List.length l8) : Int) → Ob ¬(0 : Int) < x9 ∧ Ob (LSh pairS l8 ∧ List.length l8 ≤ (12 : Nat)) ∧ ∀ (l10 : List (List D)) (x11 : Int), Ob (∃ l x, [vl l10, vn x11] = [vl l, vn x] ∧ LSh pairS l ∧ List.length l ≤ (12 : Nat) ∧ List.length l ≤ List.length l8 ∧ x = e_desc l8) → (x11 ≠ (0 : Int) → Ob (R [vn (8 : Int)])) ∧ (¬x11 ≠ (0 : Int) → Ob (LSh pairS l10 ∧ LSh pairS l2) ∧ ∀ (b12 : Bool), Ob ([vb b12] = [vb (decide (l10 = l2))]) → (b12 = false → Ob (R [vn (8 : Int)])) ∧ (¬b12 = false → Ob (R [vn (0 : Int)]))))))))
set_option maxRecDepth 100000 in
theorem vcEq_cacheCheckE : vcFn Go.Proofs.Tryz.prog k0 (cxf [(188, t_descSame), (270, t_best)] [(142001078034228104, 0, none), (142001078034228104, 2, none), (142001504037461208980329, 0, none)] [(142001078034228104, 21, false), (142001504037462206984337, 7, false), (142001504037462206984337, 17, false), (142001504037461208980329, 10, false)] [(188, f_descSame)]) 3000 142 Go.Proofs.Tryz.f142 (bodyOf Go.Proofs.Tryz.f142) t_cacheCheckE = V_cacheCheckE := by kernel_rfl
set_option maxHeartbeats 4000000 in
set_option maxRecDepth 20000 in
theorem vcPf_cacheCheckE : V_cacheCheckE := by
  delta V_cacheCheckE
  simp only [ob_iff, and_imp, forall_exists_index, true_and, and_true, List.cons.injEq, DV.c.injEq, DV.a.injEq, D.raw.injEq, D.fs.injEq, Value.bool.injEq, Value.int.injEq]
  intro x0 x1 l2 hs h0 R hR
  obtain rfl := List.length_eq_zero_iff.1 h0
  repeat' first | assumption | exact DShs.tail (DSh_nth (by assumption) (by assumption)) | exact shp32 (by assumption) | exact shp64 (by assumption) | exact shp2 (by assumption) | exact shpF (by assumption) | with_reducible intro _ | with_reducible apply And.intro
  all_goals (try (have hl := nil_of (by assumption); subst hl))
  all_goals (try subst_vars)
  all_goals (try simp only [List.length_nil, List.length_append, List.length_replicate, e_desc_nil, Nat.add_zero, Nat.zero_add, Int.ofNat_zero, List.append_nil, List.nil_append] at *)
  all_goals (try simp (disch := omega) only [w64_id] at *)
  all_goals first
    | exact ls_nil
    | exact shp_nil
    | omega
    | (exfalso; have hl := nil_of0 (by assumption); subst hl; simp at *; done)
    | (refine hR _ _ rfl ⟨fun h => by omega, fun h => by omega⟩)
    | (simp at *; done)
    | (simp at *; omega)
    | skip

theorem con_cacheCheckE : Con Go.Proofs.Tryz.prog k0 142 t_cacheCheckE :=
  con_of (cxf_ok mixOk (fun p hp => by
    simp only [List.mem_cons, List.not_mem_nil, or_false] at hp
    rcases hp with rfl | rfl
    · exact con_descSame
    · exact con_best) (fun p hp => by
    simp only [List.mem_cons, List.not_mem_nil, or_false] at hp
    subst hp
    · intro t ht; cases ht; exact fn_descSame)) Go.Proofs.Tryz.func142 rfl rfl rfl rfl vcEq_cacheCheckE vcPf_cacheCheckE
end Go.Vc

namespace Go.Vc
open Classical
noncomputable def f_limbCheck (aa : List DV) : List DV := [vn (if p_limb (li aa 0) then 0 else 8)]
noncomputable def t_limbCheck : ConT := ⟨[kl], [kn], fun aa => LSh [s32] (li aa 0), fun aa rs => rs = f_limbCheck aa⟩
theorem fn_limbCheck : ∀ aa, t_limbCheck.pre aa → ∀ rs, t_limbCheck.post aa rs → rs = f_limbCheck aa := fun _ _ _ h => h
noncomputable def V_limbCheck : Prop := ∀ (l0 : List (List D)), Ob (LSh [s32] l0) → ∀ (R : List DV → Prop), Ob (∀ (res : List DV), res = [vn (if p_limb l0 then (0 : Int) else (8 : Int))] → R res) → ∀ (x2 : Int), x2 = (↑(List.length l0) : Int) → (x2 > (40 : Int) → Ob (R [vn (8 : Int)])) ∧ (¬x2 > (40 : Int) → ∀ (x3 : Int), x3 = (↑(List.length l0) : Int) → (x3 > (0 : Int) → ∀ (x4 : Int), x4 = (↑(List.length l0) : Int) → ∀ (x5 : Int), x5 = w64 (x4 - (1 : Int)) → Ob ((0 : Int) ≤ x5 ∧ x5 < (↑(List.length l0) : Int)) ∧ Ob (Shp [Kd.int IntKind.u32] l0) ∧ ∀ (x6 : Int), Ob (l0[Int.toNat x5]? = some [d32 x6]) → (x6 = (0 : Int) → Ob (R [vn (8 : Int)])) ∧ (¬x6 = (0 : Int) → Ob (R [vn (0 : Int)]))) ∧ (¬x3 > (0 : Int) → Ob (R [vn (0 : Int)])))
set_option maxRecDepth 100000 in
theorem vcEq_limbCheck : vcFn Go.Proofs.Tryz.prog k0 (cxf [] [] [] []) 3000 276 Go.Proofs.Tryz.f276 (bodyOf Go.Proofs.Tryz.f276) t_limbCheck = V_limbCheck := by kernel_rfl
set_option maxHeartbeats 4000000 in
set_option maxRecDepth 20000 in
theorem vcPf_limbCheck : V_limbCheck := by
  delta V_limbCheck
  simp only [ob_iff, and_imp, List.cons_append, List.nil_append, dshs_cons, dshs_nil, dsh_int, dsh_bool, dsh_sl, rng64, rng32, true_and, and_true, List.cons.injEq, DV.c.injEq, DV.a.injEq, D.raw.injEq, D.fs.injEq, Value.bool.injEq, Value.int.injEq]
  repeat' first | assumption | exact DShs.tail (DSh_nth (by assumption) (by assumption)) | exact shp32 (by assumption) | exact shp64 (by assumption) | exact shp2 (by assumption) | exact shpF (by assumption) | with_reducible intro _ | with_reducible apply And.intro
  all_goals (try (have e := w64_pred ‹_ = w64 (_ - 1)› (by omega) (by omega); subst e))
  all_goals first
    | assumption
    | omega
    | (have z := last_nth (by assumption) (by omega) (by assumption); apply ‹∀ res : List DV, _ = _ → _›; simp [p_limb]; grind)
    | (apply ‹∀ res : List DV, _ = _ → _›; simp [p_limb]; grind)

theorem con_limbCheck : Con Go.Proofs.Tryz.prog k0 276 t_limbCheck :=
  con_of (cxf_ok mixOk (fun p hp => by cases hp) (fun p hp => by cases hp)) Go.Proofs.Tryz.func276 rfl rfl rfl rfl vcEq_limbCheck vcPf_limbCheck
end Go.Vc

namespace Go.Vc
open Classical
noncomputable def f_dyCheck (aa : List DV) : List DV := [vn (if p_dy (ai aa 0) then 0 else 8)]
noncomputable def t_dyCheck : ConT := ⟨[rkS dyS], [kn], fun aa => DShs dyS (ai aa 0), fun aa rs => rs = f_dyCheck aa⟩
theorem fn_dyCheck : ∀ aa, t_dyCheck.pre aa → ∀ rs, t_dyCheck.post aa rs → rs = f_dyCheck aa := fun _ _ _ h => h
noncomputable def V_dyCheck : Prop := ∀ (b0 : Bool) (l1 : List (List D)) (x2 : Int), Ob (DShs dyS [db b0, D.fs l1, dn x2]) → ∀ (R : List DV → Prop), Ob (∀ (res : List DV), res = [vn (if p_dy [db b0, D.fs l1, dn x2] then (0 : Int) else (8 : Int))] → R res) → ∀ (x4 : Int), x4 = (↑(List.length l1) : Int) → (x4 = (0 : Int) → Ob (LSh [s32] l1) ∧ ∀ (x5 : Int), Ob ([vn x5] = [vn (if p_limb l1 then (0 : Int) else (8 : Int))]) → (x5 ≠ (0 : Int) → Ob (R [vn (8 : Int)])) ∧ (¬x5 ≠ (0 : Int) → (x2 < (0 : Int) → Ob (R [vn (8 : Int)])) ∧ (¬x2 < (0 : Int) → (x2 > (1024 : Int) → Ob (R [vn (8 : Int)])) ∧ (¬x2 > (1024 : Int) → (x2 ≠ (0 : Int) → Ob (R [vn (8 : Int)])) ∧ (¬x2 ≠ (0 : Int) → (b0 = true → Ob (R [vn (8 : Int)])) ∧ (b0 = false → Ob (R [vn (0 : Int)]))))))) ∧ (¬x4 = (0 : Int) → Ob (LSh [s32] l1) ∧ ∀ (x6 : Int), Ob ([vn x6] = [vn (if p_limb l1 then (0 : Int) else (8 : Int))]) → (x6 ≠ (0 : Int) → Ob (R [vn (8 : Int)])) ∧ (¬x6 ≠ (0 : Int) → (x2 < (0 : Int) → Ob (R [vn (8 : Int)])) ∧ (¬x2 < (0 : Int) → (x2 > (1024 : Int) → Ob (R [vn (8 : Int)])) ∧ (¬x2 > (1024 : Int) → (x2 > (0 : Int) → Ob ((0 : Int) ≤ (0 : Int) ∧ (0 : Int) < (↑(List.length l1) : Int)) ∧ Ob (Shp [Kd.int IntKind.u32] l1) ∧ ∀ (x7 : Int), Ob (l1[Int.toNat (0 : Int)]? = some [d32 x7]) → Ob ((2 : Int) ≠ (0 : Int)) ∧ ∀ (x8 : Int), x8 = Int.tmod x7 (2 : Int) → (x8 = (0 : Int) → Ob (R [vn (8 : Int)])) ∧ (¬x8 = (0 : Int) → Ob (R [vn (0 : Int)]))) ∧ (¬x2 > (0 : Int) → Ob (R [vn (0 : Int)]))))))
set_option maxRecDepth 100000 in
theorem vcEq_dyCheck : vcFn Go.Proofs.Tryz.prog k0 (cxf [(276, t_limbCheck)] [] [] [(276, f_limbCheck)]) 3000 236 Go.Proofs.Tryz.f236 (bodyOf Go.Proofs.Tryz.f236) t_dyCheck = V_dyCheck := by kernel_rfl
set_option maxHeartbeats 4000000 in
set_option maxRecDepth 20000 in
theorem vcPf_dyCheck : V_dyCheck := by
  delta V_dyCheck
  simp only [ob_iff, and_imp, List.cons_append, List.nil_append, dshs_cons, dshs_nil, dsh_int, dsh_bool, dsh_sl, rng64, rng32, true_and, and_true, List.cons.injEq, DV.c.injEq, DV.a.injEq, D.raw.injEq, D.fs.injEq, Value.bool.injEq, Value.int.injEq]
  repeat' first | assumption | exact DShs.tail (DSh_nth (by assumption) (by assumption)) | exact shp32 (by assumption) | exact shp64 (by assumption) | exact shp2 (by assumption) | exact shpF (by assumption) | with_reducible intro _ | with_reducible apply And.intro
  all_goals (try (have z := nth_z (by assumption); skip))
  all_goals first
    | assumption
    | omega
    | (apply ‹∀ res : List DV, _ = _ → _›; simp [p_dy, gB, gI, gL, -List.length_eq_zero_iff]; grind)

theorem con_dyCheck : Con Go.Proofs.Tryz.prog k0 236 t_dyCheck :=
  con_of (cxf_ok mixOk (fun p hp => by
    simp only [List.mem_cons, List.not_mem_nil, or_false] at hp
    subst hp
    exact con_limbCheck) (fun p hp => by
    simp only [List.mem_cons, List.not_mem_nil, or_false] at hp
    subst hp
    · intro t ht; cases ht; exact fn_limbCheck)) Go.Proofs.Tryz.func236 rfl rfl rfl rfl vcEq_dyCheck vcPf_dyCheck
end Go.Vc

namespace Go.Vc
open Classical
noncomputable def f_massCheck (aa : List DV) : List DV := [vn (if p_mass (ai aa 0) then 0 else 8)]
noncomputable def t_massCheck : ConT := ⟨[rkS massS], [kn], fun aa => DShs massS (ai aa 0), fun aa rs => rs = f_massCheck aa⟩
theorem fn_massCheck : ∀ aa, t_massCheck.pre aa → ∀ rs, t_massCheck.post aa rs → rs = f_massCheck aa := fun _ _ _ h => h
noncomputable def V_massCheck : Prop := ∀ (b0 : Bool) (l1 : List (List D)) (x2 : Int) (b3 : Bool) (l4 : List (List D)) (x5 : Int) (b6 : Bool) (l7 : List (List D)) (x8 : Int) (b9 : Bool) (l10 : List (List D)) (x11 : Int), Ob (DShs massS [db b0, D.fs l1, dn x2, db b3, D.fs l4, dn x5, db b6, D.fs l7, dn x8, db b9, D.fs l10, dn x11]) → ∀ (R : List DV → Prop), Ob (∀ (res : List DV), res = [vn (if p_mass [db b0, D.fs l1, dn x2, db b3, D.fs l4, dn x5, db b6, D.fs l7, dn x8, db b9, D.fs l10, dn x11] then (0 : Int) else (8 : Int))] → R res) → Ob (DShs dyS [db b0, D.fs l1, dn x2]) ∧ ∀ (x13 : Int), Ob ([vn x13] = [vn (if p_dy [db b0, D.fs l1, dn x2] then (0 : Int) else (8 : Int))]) → (x13 ≠ (0 : Int) → Ob (R [vn x13])) ∧ (¬x13 ≠ (0 : Int) → Ob (DShs dyS [db b3, D.fs l4, dn x5]) ∧ ∀ (x14 : Int), Ob ([vn x14] = [vn (if p_dy [db b3, D.fs l4, dn x5] then (0 : Int) else (8 : Int))]) → (x14 ≠ (0 : Int) → Ob (R [vn x14])) ∧ (¬x14 ≠ (0 : Int) → Ob (DShs dyS [db b6, D.fs l7, dn x8]) ∧ ∀ (x15 : Int), Ob ([vn x15] = [vn (if p_dy [db b6, D.fs l7, dn x8] then (0 : Int) else (8 : Int))]) → (x15 ≠ (0 : Int) → Ob (R [vn x15])) ∧ (¬x15 ≠ (0 : Int) → Ob (DShs dyS [db b9, D.fs l10, dn x11]) ∧ ∀ (x16 : Int), Ob ([vn x16] = [vn (if p_dy [db b9, D.fs l10, dn x11] then (0 : Int) else (8 : Int))]) → (x16 ≠ (0 : Int) → Ob (R [vn x16])) ∧ (¬x16 ≠ (0 : Int) → Ob (R [vn (0 : Int)])))))
set_option maxRecDepth 100000 in
theorem vcEq_massCheck : vcFn Go.Proofs.Tryz.prog k0 (cxf [(236, t_dyCheck)] [] [] [(236, f_dyCheck)]) 3000 171 Go.Proofs.Tryz.f171 (bodyOf Go.Proofs.Tryz.f171) t_massCheck = V_massCheck := by kernel_rfl
set_option maxHeartbeats 4000000 in
set_option maxRecDepth 20000 in
theorem vcPf_massCheck : V_massCheck := by
  delta V_massCheck
  simp only [ob_iff, and_imp, List.cons_append, List.nil_append, dshs_cons, dshs_nil, dsh_int, dsh_bool, dsh_sl, rng64, rng32, true_and, and_true, List.cons.injEq, DV.c.injEq, DV.a.injEq, D.raw.injEq, D.fs.injEq, Value.bool.injEq, Value.int.injEq]
  repeat' first | assumption | exact DShs.tail (DSh_nth (by assumption) (by assumption)) | exact shp32 (by assumption) | exact shp64 (by assumption) | exact shp2 (by assumption) | exact shpF (by assumption) | with_reducible intro _ | with_reducible apply And.intro
  all_goals first
    | assumption
    | omega
    | (apply ‹∀ res : List DV, _ = _ → _›; simp_all [p_mass, sub3]; try grind)

theorem con_massCheck : Con Go.Proofs.Tryz.prog k0 171 t_massCheck :=
  con_of (cxf_ok mixOk (fun p hp => by
    simp only [List.mem_cons, List.not_mem_nil, or_false] at hp
    subst hp
    exact con_dyCheck) (fun p hp => by
    simp only [List.mem_cons, List.not_mem_nil, or_false] at hp
    subst hp
    · intro t ht; cases ht; exact fn_dyCheck)) Go.Proofs.Tryz.func171 rfl rfl rfl rfl vcEq_massCheck vcPf_massCheck
end Go.Vc

namespace Go.Vc
open Classical
noncomputable def f_pushCheck (aa : List DV) : List DV := [vn (if p_push (ai aa 0) then 0 else 8)]
noncomputable def t_pushCheck : ConT := ⟨[rkS massS], [kn], fun aa => DShs massS (ai aa 0), fun aa rs => rs = f_pushCheck aa⟩
theorem fn_pushCheck : ∀ aa, t_pushCheck.pre aa → ∀ rs, t_pushCheck.post aa rs → rs = f_pushCheck aa := fun _ _ _ h => h
noncomputable def V_pushCheck : Prop := ∀ (b0 : Bool) (l1 : List (List D)) (x2 : Int) (b3 : Bool) (l4 : List (List D)) (x5 : Int) (b6 : Bool) (l7 : List (List D)) (x8 : Int) (b9 : Bool) (l10 : List (List D)) (x11 : Int), Ob (DShs massS [db b0, D.fs l1, dn x2, db b3, D.fs l4, dn x5, db b6, D.fs l7, dn x8, db b9, D.fs l10, dn x11]) → ∀ (R : List DV → Prop), Ob (∀ (res : List DV), res = [vn (if p_push [db b0, D.fs l1, dn x2, db b3, D.fs l4, dn x5, db b6, D.fs l7, dn x8, db b9, D.fs l10, dn x11] then (0 : Int) else (8 : Int))] → R res) → Ob (DShs massS [db b0, D.fs l1, dn x2, db b3, D.fs l4, dn x5, db b6, D.fs l7, dn x8, db b9, D.fs l10, dn x11]) ∧ ∀ (x13 : Int), Ob ([vn x13] = [vn (if p_mass [db b0, D.fs l1, dn x2, db b3, D.fs l4, dn x5, db b6, D.fs l7, dn x8, db b9, D.fs l10, dn x11] then (0 : Int) else (8 : Int))]) → (x13 ≠ (0 : Int) → Ob (R [vn (8 : Int)])) ∧ (¬x13 ≠ (0 : Int) → (b3 = true → Ob (R [vn (8 : Int)])) ∧ (b3 = false → ∀ (x14 : Int), x14 = (↑(List.length l4) : Int) → (x14 = (0 : Int) → ∀ (x15 : Int), x15 = (↑(List.length l1) : Int) → (x15 = (0 : Int) → Ob (R [vn (0 : Int)])) ∧ (¬x15 = (0 : Int) → Ob (R [vn (8 : Int)]))) ∧ (¬x14 = (0 : Int) → Ob (R [vn (0 : Int)]))))
set_option maxRecDepth 100000 in
theorem vcEq_pushCheck : vcFn Go.Proofs.Tryz.prog k0 (cxf [(171, t_massCheck)] [(265001091006, 0, none)] [] [(171, f_massCheck)]) 3000 265 Go.Proofs.Tryz.f265 (bodyOf Go.Proofs.Tryz.f265) t_pushCheck = V_pushCheck := by kernel_rfl
set_option maxHeartbeats 4000000 in
set_option maxRecDepth 20000 in
theorem vcPf_pushCheck : V_pushCheck := by
  delta V_pushCheck
  simp only [ob_iff, and_imp, List.cons_append, List.nil_append, dshs_cons, dshs_nil, dsh_int, dsh_bool, dsh_sl, rng64, rng32, true_and, and_true, List.cons.injEq, DV.c.injEq, DV.a.injEq, D.raw.injEq, D.fs.injEq, Value.bool.injEq, Value.int.injEq]
  repeat' first | assumption | exact DShs.tail (DSh_nth (by assumption) (by assumption)) | exact shp32 (by assumption) | exact shp64 (by assumption) | exact shp2 (by assumption) | exact shpF (by assumption) | with_reducible intro _ | with_reducible apply And.intro
  all_goals first
    | assumption
    | omega
    | (apply ‹∀ res : List DV, _ = _ → _›; simp [p_push, gB, gL, -List.length_eq_zero_iff] <;> grind)

theorem con_pushCheck : Con Go.Proofs.Tryz.prog k0 265 t_pushCheck :=
  con_of (cxf_ok mixOk (fun p hp => by
    simp only [List.mem_cons, List.not_mem_nil, or_false] at hp
    subst hp
    exact con_massCheck) (fun p hp => by
    simp only [List.mem_cons, List.not_mem_nil, or_false] at hp
    subst hp
    · intro t ht; cases ht; exact fn_massCheck)) Go.Proofs.Tryz.func265 rfl rfl rfl rfl vcEq_pushCheck vcPf_pushCheck
end Go.Vc

namespace Go.Vc
open Classical
noncomputable def f_edgeCheck (aa : List DV) : List DV := [vn (if p_edge (ai aa 0) then 0 else 8)]
noncomputable def t_edgeCheck : ConT := ⟨[rkS edgeS], [kn], fun aa => DShs edgeS (ai aa 0), fun aa rs => rs = f_edgeCheck aa⟩
theorem fn_edgeCheck : ∀ aa, t_edgeCheck.pre aa → ∀ rs, t_edgeCheck.post aa rs → rs = f_edgeCheck aa := fun _ _ _ h => h
noncomputable def V_edgeCheck : Prop := ∀ (b0 : Bool) (x1 x2 : Int), Ob (DShs edgeS [db b0, dn x1, dn x2]) → ∀ (R : List DV → Prop), Ob (∀ (res : List DV), res = [vn (if p_edge [db b0, dn x1, dn x2] then (0 : Int) else (8 : Int))] → R res) → (b0 = true → (x1 ≥ (-2147483647 : Int) → (x1 ≤ (2147483647 : Int) → (x2 ≥ (-2147483647 : Int) → (x2 ≤ (2147483647 : Int) → (x1 > x2 → Ob (R [vn (8 : Int)])) ∧ (¬x1 > x2 → (true = false → (¬(true = false ∧ x1 = (0 : Int) ∧ x2 = (0 : Int)) → Ob (R [vn (8 : Int)])) ∧ (¬¬(true = false ∧ x1 = (0 : Int) ∧ x2 = (0 : Int)) → Ob (R [vn (0 : Int)]))) ∧ (¬true = false → Ob (R [vn (0 : Int)])))) ∧ (¬x2 ≤ (2147483647 : Int) → Ob (R [vn (8 : Int)]))) ∧ (¬x2 ≥ (-2147483647 : Int) → Ob (R [vn (8 : Int)]))) ∧ (¬x1 ≤ (2147483647 : Int) → Ob (R [vn (8 : Int)]))) ∧ (¬x1 ≥ (-2147483647 : Int) → Ob (R [vn (8 : Int)]))) ∧ (b0 = false → (false = false → (¬(false = false ∧ x1 = (0 : Int) ∧ x2 = (0 : Int)) → Ob (R [vn (8 : Int)])) ∧ (¬¬(false = false ∧ x1 = (0 : Int) ∧ x2 = (0 : Int)) → Ob (R [vn (0 : Int)]))) ∧ (¬false = false → Ob (R [vn (0 : Int)])))
set_option maxRecDepth 100000 in
theorem vcEq_edgeCheck : vcFn Go.Proofs.Tryz.prog k0 (cxf [] [] [] []) 3000 266 Go.Proofs.Tryz.f266 (bodyOf Go.Proofs.Tryz.f266) t_edgeCheck = V_edgeCheck := by kernel_rfl
set_option maxHeartbeats 4000000 in
set_option maxRecDepth 20000 in
theorem vcPf_edgeCheck : V_edgeCheck := by
  delta V_edgeCheck
  simp only [ob_iff, and_imp, List.cons_append, List.nil_append, dshs_cons, dshs_nil, dsh_int, dsh_bool, dsh_sl, rng64, rng32, true_and, and_true, List.cons.injEq, DV.c.injEq, DV.a.injEq, D.raw.injEq, D.fs.injEq, Value.bool.injEq, Value.int.injEq]
  repeat' first | assumption | exact DShs.tail (DSh_nth (by assumption) (by assumption)) | exact shp32 (by assumption) | exact shp64 (by assumption) | exact shp2 (by assumption) | exact shpF (by assumption) | with_reducible intro _ | with_reducible apply And.intro
  all_goals first
    | assumption
    | omega
    | (apply ‹∀ res : List DV, _ = _ → _›; simp_all [p_edge, inV, gB, gI]; try omega)

theorem con_edgeCheck : Con Go.Proofs.Tryz.prog k0 266 t_edgeCheck :=
  con_of (cxf_ok mixOk (fun p hp => by cases hp) (fun p hp => by cases hp)) Go.Proofs.Tryz.func266 rfl rfl rfl rfl vcEq_edgeCheck vcPf_edgeCheck
end Go.Vc

namespace Go.Vc
open Classical
noncomputable def f_leastCheck (aa : List DV) : List DV := [vn (e_least (li aa 0))]
noncomputable def t_leastCheck : ConT := ⟨[kl], [kn], fun aa => LSh [s32] (li aa 0), fun aa rs => rs = f_leastCheck aa⟩
theorem fn_leastCheck : ∀ aa, t_leastCheck.pre aa → ∀ rs, t_leastCheck.post aa rs → rs = f_leastCheck aa := fun _ _ _ h => h
noncomputable def V_leastCheck : Prop := ∀ (l0 : List (List D)), Ob (LSh [s32] l0) → ∀ (R : List DV → Prop), Ob (∀ (res : List DV), res = [vn (e_least l0)] → R res) → ∀ (x2 : Int), x2 = (↑(List.length l0) : Int) → (x2 > (8 : Int) → Ob (R [vn (4 : Int)])) ∧ (¬x2 > (8 : Int) → Ob ((1 : Int) ≤ (1 : Int) ∧ upto (at_least l0) (1 : Int)) ∧ ∀ (g3 : Nat → Value) (x4 : Int), Ob ((1 : Int) ≤ x4 ∧ upto (at_least l0) x4) → ∀ (x5 : Int), x5 = (↑(List.length l0) : Int) → (x4 < x5 → Ob ((0 : Int) ≤ x4 ∧ x4 < (↑(List.length l0) : Int)) ∧ Ob (Shp [Kd.int IntKind.u32] l0) ∧ ∀ (x6 : Int), Ob (l0[Int.toNat x4]? = some [d32 x6]) → ∀ (x7 : Int), x7 = w64 (x4 - (1 : Int)) → Ob ((0 : Int) ≤ x7 ∧ x7 < (↑(List.length l0) : Int)) ∧ Ob (Shp [Kd.int IntKind.u32] l0) ∧ ∀ (x8 : Int), Ob (l0[Int.toNat x7]? = some [d32 x8]) → (x6 ≤ x8 → Ob (R [vn (8 : Int)])) ∧ (¬x6 ≤ x8 → ∀ (x9 : Int), x9 = w64 (x4 + (1 : Int)) → Ob ((1 : Int) ≤ x9 ∧ upto (at_least l0) x9) ∧ Ob (List.length l0 - Int.toNat x9 < List.length l0 - Int.toNat x4))) ∧ (¬x4 < x5 → Ob (R [vn (0 : Int)])))
set_option maxRecDepth 100000 in
theorem vcEq_leastCheck : vcFn Go.Proofs.Tryz.prog k0 (cxf [] [(267000, 0, some ⟨[0], [3], [], [kn], [], fun ρ ds => 1 ≤ ni ds 0 ∧ upto (at_least (ρ.d 0)) (ni ds 0), fun ρ ds => (ρ.d 0).length - (ni ds 0).toNat⟩)] [] []) 3000 267 Go.Proofs.Tryz.f267 (bodyOf Go.Proofs.Tryz.f267) t_leastCheck = V_leastCheck := by kernel_rfl
set_option maxHeartbeats 4000000 in
set_option maxRecDepth 20000 in
theorem vcPf_leastCheck : V_leastCheck := by
  delta V_leastCheck
  simp only [ob_iff, and_imp, List.cons_append, List.nil_append, dshs_cons, dshs_nil, dsh_int, dsh_bool, dsh_sl, rng64, rng32, true_and, and_true, List.cons.injEq, DV.c.injEq, DV.a.injEq, D.raw.injEq, D.fs.injEq, Value.bool.injEq, Value.int.injEq]
  repeat' first | assumption | exact DShs.tail (DSh_nth (by assumption) (by assumption)) | exact shp32 (by assumption) | exact shp64 (by assumption) | exact shp2 (by assumption) | exact shpF (by assumption) | with_reducible intro _ | with_reducible apply And.intro
  all_goals (try (have e := w64_pred ‹_ = w64 (_ - 1)› (by omega) (by omega); subst e))
  all_goals (try (have e := w64_succ ‹_ = w64 (_ + 1)› (by omega) (by omega); subst e))
  all_goals first
    | assumption
    | omega
    | (exact fun i hi h0 => by omega)
    | (apply ‹∀ res : List DV, _ = _ → _›; simp only [e_least]; rw [if_pos (by omega)])
    | (apply ‹∀ res : List DV, _ = _ → _›; simp only [e_least]; rw [if_neg (by omega), if_neg (upto_not (at_least_no (by assumption) (by assumption) (by omega) (by omega)) (by omega) (by omega))])
    | (apply ‹∀ res : List DV, _ = _ → _›; simp only [e_least]; rw [if_neg (by omega), if_pos (upto_end (by assumption) (by omega))])
    | (rw [upto_succ (by omega)]; exact ⟨by assumption, at_least_yes (by assumption) (by assumption) (by omega)⟩)

theorem con_leastCheck : Con Go.Proofs.Tryz.prog k0 267 t_leastCheck :=
  con_of (cxf_ok mixOk (fun p hp => by cases hp) (fun p hp => by cases hp)) Go.Proofs.Tryz.func267 rfl rfl rfl rfl vcEq_leastCheck vcPf_leastCheck
end Go.Vc

namespace Go.Vc
open Classical
noncomputable def f_partCheck (aa : List DV) : List DV := [vn (if p_part (ai aa 0) then 0 else 8)]
noncomputable def t_partCheck : ConT := ⟨[rkS partS], [kn], fun aa => DShs partS (ai aa 0), fun aa rs => rs = f_partCheck aa⟩
theorem fn_partCheck : ∀ aa, t_partCheck.pre aa → ∀ rs, t_partCheck.post aa rs → rs = f_partCheck aa := fun _ _ _ h => h
noncomputable def V_partCheck : Prop := ∀ (b0 : Bool) (l1 : List (List D)) (x2 : Int) (b3 : Bool) (l4 : List (List D)) (x5 : Int) (b6 : Bool) (l7 : List (List D)) (x8 : Int) (b9 : Bool) (l10 : List (List D)) (x11 : Int) (b12 : Bool) (x13 x14 : Int) (l15 : List (List D)), Ob (DShs partS [db b0, D.fs l1, dn x2, db b3, D.fs l4, dn x5, db b6, D.fs l7, dn x8, db b9, D.fs l10, dn x11, db b12, dn x13, dn x14, D.fs l15]) → ∀ (R : List DV → Prop), Ob (∀ (res : List DV), res = [vn (if p_part [db b0, D.fs l1, dn x2, db b3, D.fs l4, dn x5, db b6, D.fs l7, dn x8, db b9, D.fs l10, dn x11, db b12, dn x13, dn x14, D.fs l15] then (0 : Int) else (8 : Int))] → R res) → Ob (DShs massS [db b0, D.fs l1, dn x2, db b3, D.fs l4, dn x5, db b6, D.fs l7, dn x8, db b9, D.fs l10, dn x11]) ∧ ∀ (x17 : Int), Ob ([vn x17] = [vn (if p_push [db b0, D.fs l1, dn x2, db b3, D.fs l4, dn x5, db b6, D.fs l7, dn x8, db b9, D.fs l10, dn x11] then (0 : Int) else (8 : Int))]) → (x17 ≠ (0 : Int) → Ob (R [vn (8 : Int)])) ∧ (¬x17 ≠ (0 : Int) → Ob (DShs edgeS [db b12, dn x13, dn x14]) ∧ ∀ (x18 : Int), Ob ([vn x18] = [vn (if p_edge [db b12, dn x13, dn x14] then (0 : Int) else (8 : Int))]) → (x18 ≠ (0 : Int) → Ob (R [vn (8 : Int)])) ∧ (¬x18 ≠ (0 : Int) → Ob (LSh [s32] l15) ∧ ∀ (x19 : Int), Ob ([vn x19] = [vn (e_least l15)]) → (x19 ≠ (0 : Int) → Ob (R [vn (8 : Int)])) ∧ (¬x19 ≠ (0 : Int) → Ob (R [vn (0 : Int)]))))
set_option maxRecDepth 100000 in
theorem vcEq_partCheck : vcFn Go.Proofs.Tryz.prog k0 (cxf [(265, t_pushCheck), (266, t_edgeCheck), (267, t_leastCheck)] [] [] [(265, f_pushCheck), (266, f_edgeCheck), (267, f_leastCheck)]) 3000 210 Go.Proofs.Tryz.f210 (bodyOf Go.Proofs.Tryz.f210) t_partCheck = V_partCheck := by kernel_rfl
set_option maxHeartbeats 4000000 in
set_option maxRecDepth 20000 in
theorem vcPf_partCheck : V_partCheck := by
  delta V_partCheck
  simp only [ob_iff, and_imp, List.cons_append, List.nil_append, dshs_cons, dshs_nil, dsh_int, dsh_bool, dsh_sl, rng64, rng32, true_and, and_true, List.cons.injEq, DV.c.injEq, DV.a.injEq, D.raw.injEq, D.fs.injEq, Value.bool.injEq, Value.int.injEq]
  repeat' first | assumption | exact DShs.tail (DSh_nth (by assumption) (by assumption)) | exact shp32 (by assumption) | exact shp64 (by assumption) | exact shp2 (by assumption) | exact shpF (by assumption) | with_reducible intro _ | with_reducible apply And.intro
  all_goals first
    | assumption
    | omega
    | (apply ‹∀ res : List DV, _ = _ → _›; simp [p_part, gL, sub3, -List.length_eq_zero_iff] <;> grind)

theorem con_partCheck : Con Go.Proofs.Tryz.prog k0 210 t_partCheck :=
  con_of (cxf_ok mixOk (fun p hp => by
    simp only [List.mem_cons, List.not_mem_nil, or_false] at hp
    rcases hp with rfl | rfl | rfl
    · exact con_pushCheck
    · exact con_edgeCheck
    · exact con_leastCheck) (fun p hp => by
    simp only [List.mem_cons, List.not_mem_nil, or_false] at hp
    rcases hp with rfl | rfl | rfl
    · intro t ht; cases ht; exact fn_pushCheck
    · intro t ht; cases ht; exact fn_edgeCheck
    · intro t ht; cases ht; exact fn_leastCheck)) Go.Proofs.Tryz.func210 rfl rfl rfl rfl vcEq_partCheck vcPf_partCheck
end Go.Vc
