import Derived.Test.YtneooimijbfmgaaGreatProg
import Derived.KernelRfl
import Derived.Test.YtneooimijbfmgaaGreatStAR
import Derived.Test.YtneooimijbfmgaaGreatStAV
set_option linter.unusedVariables false
set_option linter.unusedSimpArgs false
set_option linter.unusedSectionVars false
noncomputable section
namespace Go.Vc
open Classical
def f_massCheck (aa:List DV):List DV:=[vn (if p_mass (ai aa 0) then 0 else 8)]
def t_massCheck:ConT:=⟨[rkS massS],[kn],fun aa=>DShs massS (ai aa 0),fun aa rs=>rs=f_massCheck aa⟩
theorem fn_massCheck:∀ aa,t_massCheck.pre aa→∀ rs,t_massCheck.post aa rs→rs=f_massCheck aa:=fun _ _ _ h=>h
def V_massCheck:Prop:=∀ (b0:Bool) (l1:LL) (x2:Int) (b3:Bool) (l4:LL) (x5:Int) (b6:Bool) (l7:LL) (x8:Int) (b9:Bool) (l10:LL) (x11:Int),Ob (DShs massS [db b0,D.fs l1,dn x2,db b3,D.fs l4,dn x5,db b6,D.fs l7,dn x8,db b9,D.fs l10,dn x11])→∀ (R:List DV→Prop),Ob (∀ (res:List DV),res=[vn (if p_mass [db b0,D.fs l1,dn x2,db b3,D.fs l4,dn x5,db b6,D.fs l7,dn x8,db b9,D.fs l10,dn x11] then (0:Int) else (8:Int))]→R res)→Ob (DShs dyS [db b0,D.fs l1,dn x2])∧∀ (x13:Int),Ob ([vn x13]=[vn (if p_dy [db b0,D.fs l1,dn x2] then (0:Int) else (8:Int))])→(x13≠(0:Int)→Ob (R [vn x13]))∧(¬x13≠(0:Int)→Ob (DShs dyS [db b3,D.fs l4,dn x5])∧∀ (x14:Int),Ob ([vn x14]=[vn (if p_dy [db b3,D.fs l4,dn x5] then (0:Int) else (8:Int))])→(x14≠(0:Int)→Ob (R [vn x14]))∧(¬x14≠(0:Int)→Ob (DShs dyS [db b6,D.fs l7,dn x8])∧∀ (x15:Int),Ob ([vn x15]=[vn (if p_dy [db b6,D.fs l7,dn x8] then (0:Int) else (8:Int))])→(x15≠(0:Int)→Ob (R [vn x15]))∧(¬x15≠(0:Int)→Ob (DShs dyS [db b9,D.fs l10,dn x11])∧∀ (x16:Int),Ob ([vn x16]=[vn (if p_dy [db b9,D.fs l10,dn x11] then (0:Int) else (8:Int))])→(x16≠(0:Int)→Ob (R [vn x16]))∧(¬x16≠(0:Int)→Ob (R [vn (0:Int)])))))
set_option maxRecDepth 100000 in
theorem vcEq_massCheck:vcFn Go.Proofs.Tryz.prog k0 (cxf [(236,t_dyCheck)] [] [] [(236,f_dyCheck)]) 3000 171 Go.Proofs.Tryz.f171 (bodyOf Go.Proofs.Tryz.f171) t_massCheck=V_massCheck:=by kernel_rfl
set_option maxHeartbeats 4000000 in
set_option maxRecDepth 20000 in
theorem vcPf_massCheck:V_massCheck:=by
  delta V_massCheck
  simp only [ob_iff,and_imp,List.cons_append,List.nil_append,dshs_cons,dshs_nil,dsh_int,dsh_bool,dsh_sl,rng64,rng32,true_and,and_true,List.cons.injEq,DV.c.injEq,DV.a.injEq,D.raw.injEq,D.fs.injEq,Value.bool.injEq,Value.int.injEq]
  repeat' first | assumption | exact DShs.tail (DSh_nth (by assumption) (by assumption)) | exact shp32 (by assumption) | exact shp64 (by assumption) | exact shp2 (by assumption) | exact shpF (by assumption) | with_reducible intro _ | with_reducible apply And.intro
  all_goals first
    | assumption
    | omega
    | (apply ‹∀ res:List DV,_=_→_›;simp_all [p_mass,sub3];try grind)
theorem con_massCheck:Con Go.Proofs.Tryz.prog k0 171 t_massCheck :=
  con_of (cxf_ok mixOk (fun p hp=>by
    simp only [List.mem_cons,List.not_mem_nil,or_false] at hp
    subst hp
    exact con_dyCheck) (fun p hp=>by
    simp only [List.mem_cons,List.not_mem_nil,or_false] at hp
    subst hp
    · intro t ht;cases ht;exact fn_dyCheck)) Go.Proofs.Tryz.func171 rfl rfl rfl rfl vcEq_massCheck vcPf_massCheck
end Go.Vc

namespace Go.Vc
open Classical
def f_pushCheck (aa:List DV):List DV:=[vn (if p_push (ai aa 0) then 0 else 8)]
def t_pushCheck:ConT:=⟨[rkS massS],[kn],fun aa=>DShs massS (ai aa 0),fun aa rs=>rs=f_pushCheck aa⟩
theorem fn_pushCheck:∀ aa,t_pushCheck.pre aa→∀ rs,t_pushCheck.post aa rs→rs=f_pushCheck aa:=fun _ _ _ h=>h
def V_pushCheck:Prop:=∀ (b0:Bool) (l1:LL) (x2:Int) (b3:Bool) (l4:LL) (x5:Int) (b6:Bool) (l7:LL) (x8:Int) (b9:Bool) (l10:LL) (x11:Int),Ob (DShs massS [db b0,D.fs l1,dn x2,db b3,D.fs l4,dn x5,db b6,D.fs l7,dn x8,db b9,D.fs l10,dn x11])→∀ (R:List DV→Prop),Ob (∀ (res:List DV),res=[vn (if p_push [db b0,D.fs l1,dn x2,db b3,D.fs l4,dn x5,db b6,D.fs l7,dn x8,db b9,D.fs l10,dn x11] then (0:Int) else (8:Int))]→R res)→Ob (DShs massS [db b0,D.fs l1,dn x2,db b3,D.fs l4,dn x5,db b6,D.fs l7,dn x8,db b9,D.fs l10,dn x11])∧∀ (x13:Int),Ob ([vn x13]=[vn (if p_mass [db b0,D.fs l1,dn x2,db b3,D.fs l4,dn x5,db b6,D.fs l7,dn x8,db b9,D.fs l10,dn x11] then (0:Int) else (8:Int))])→(x13≠(0:Int)→Ob (R [vn (8:Int)]))∧(¬x13≠(0:Int)→(b3=true→Ob (R [vn (8:Int)]))∧(b3=false→∀ (x14:Int),x14=(↑(List.length l4):Int)→(x14=(0:Int)→∀ (x15:Int),x15=(↑(List.length l1):Int)→(x15=(0:Int)→Ob (R [vn (0:Int)]))∧(¬x15=(0:Int)→Ob (R [vn (8:Int)])))∧(¬x14=(0:Int)→Ob (R [vn (0:Int)]))))
set_option maxRecDepth 100000 in
theorem vcEq_pushCheck:vcFn Go.Proofs.Tryz.prog k0 (cxf [(171,t_massCheck)] [(265001091006,0,none)] [] [(171,f_massCheck)]) 3000 265 Go.Proofs.Tryz.f265 (bodyOf Go.Proofs.Tryz.f265) t_pushCheck=V_pushCheck:=by kernel_rfl
set_option maxHeartbeats 4000000 in
set_option maxRecDepth 20000 in
theorem vcPf_pushCheck:V_pushCheck:=by
  delta V_pushCheck
  simp only [ob_iff,and_imp,List.cons_append,List.nil_append,dshs_cons,dshs_nil,dsh_int,dsh_bool,dsh_sl,rng64,rng32,true_and,and_true,List.cons.injEq,DV.c.injEq,DV.a.injEq,D.raw.injEq,D.fs.injEq,Value.bool.injEq,Value.int.injEq]
  repeat' first | assumption | exact DShs.tail (DSh_nth (by assumption) (by assumption)) | exact shp32 (by assumption) | exact shp64 (by assumption) | exact shp2 (by assumption) | exact shpF (by assumption) | with_reducible intro _ | with_reducible apply And.intro
  all_goals first
    | assumption
    | omega
    | (apply ‹∀ res:List DV,_=_→_›;simp [p_push,gB,gL,-List.length_eq_zero_iff] <;> grind)
theorem con_pushCheck:Con Go.Proofs.Tryz.prog k0 265 t_pushCheck :=
  con_of (cxf_ok mixOk (fun p hp=>by
    simp only [List.mem_cons,List.not_mem_nil,or_false] at hp
    subst hp
    exact con_massCheck) (fun p hp=>by
    simp only [List.mem_cons,List.not_mem_nil,or_false] at hp
    subst hp
    · intro t ht;cases ht;exact fn_massCheck)) Go.Proofs.Tryz.func265 rfl rfl rfl rfl vcEq_pushCheck vcPf_pushCheck
end Go.Vc

namespace Go.Vc
open Classical
def f_edgeCheck (aa:List DV):List DV:=[vn (if p_edge (ai aa 0) then 0 else 8)]
def t_edgeCheck:ConT:=⟨[rkS edgeS],[kn],fun aa=>DShs edgeS (ai aa 0),fun aa rs=>rs=f_edgeCheck aa⟩
theorem fn_edgeCheck:∀ aa,t_edgeCheck.pre aa→∀ rs,t_edgeCheck.post aa rs→rs=f_edgeCheck aa:=fun _ _ _ h=>h
def V_edgeCheck:Prop:=∀ (b0:Bool) (x1 x2:Int),Ob (DShs edgeS [db b0,dn x1,dn x2])→∀ (R:List DV→Prop),Ob (∀ (res:List DV),res=[vn (if p_edge [db b0,dn x1,dn x2] then (0:Int) else (8:Int))]→R res)→(b0=true→(x1≥(-2147483647:Int)→(x1≤(2147483647:Int)→(x2≥(-2147483647:Int)→(x2≤(2147483647:Int)→(x1>x2→Ob (R [vn (8:Int)]))∧(¬x1>x2→(true=false→(¬(true=false∧x1=(0:Int)∧x2=(0:Int))→Ob (R [vn (8:Int)]))∧(¬¬(true=false∧x1=(0:Int)∧x2=(0:Int))→Ob (R [vn (0:Int)])))∧(¬true=false→Ob (R [vn (0:Int)]))))∧(¬x2≤(2147483647:Int)→Ob (R [vn (8:Int)])))∧(¬x2≥(-2147483647:Int)→Ob (R [vn (8:Int)])))∧(¬x1≤(2147483647:Int)→Ob (R [vn (8:Int)])))∧(¬x1≥(-2147483647:Int)→Ob (R [vn (8:Int)])))∧(b0=false→(false=false→(¬(false=false∧x1=(0:Int)∧x2=(0:Int))→Ob (R [vn (8:Int)]))∧(¬¬(false=false∧x1=(0:Int)∧x2=(0:Int))→Ob (R [vn (0:Int)])))∧(¬false=false→Ob (R [vn (0:Int)])))
set_option maxRecDepth 100000 in
theorem vcEq_edgeCheck:vcFn Go.Proofs.Tryz.prog k0 (cxf [] [] [] []) 3000 266 Go.Proofs.Tryz.f266 (bodyOf Go.Proofs.Tryz.f266) t_edgeCheck=V_edgeCheck:=by kernel_rfl
set_option maxHeartbeats 4000000 in
set_option maxRecDepth 20000 in
theorem vcPf_edgeCheck:V_edgeCheck:=by
  delta V_edgeCheck
  simp only [ob_iff,and_imp,List.cons_append,List.nil_append,dshs_cons,dshs_nil,dsh_int,dsh_bool,dsh_sl,rng64,rng32,true_and,and_true,List.cons.injEq,DV.c.injEq,DV.a.injEq,D.raw.injEq,D.fs.injEq,Value.bool.injEq,Value.int.injEq]
  repeat' first | assumption | exact DShs.tail (DSh_nth (by assumption) (by assumption)) | exact shp32 (by assumption) | exact shp64 (by assumption) | exact shp2 (by assumption) | exact shpF (by assumption) | with_reducible intro _ | with_reducible apply And.intro
  all_goals first
    | assumption
    | omega
    | (apply ‹∀ res:List DV,_=_→_›;simp_all [p_edge,inV,gB,gI];try omega)
theorem con_edgeCheck:Con Go.Proofs.Tryz.prog k0 266 t_edgeCheck :=
  con_of (cxf_ok mixOk (fun p hp=>by cases hp) (fun p hp=>by cases hp)) Go.Proofs.Tryz.func266 rfl rfl rfl rfl vcEq_edgeCheck vcPf_edgeCheck
end Go.Vc

namespace Go.Vc
open Classical
def f_leastCheck (aa:List DV):List DV:=[vn (e_least (li aa 0))]
def t_leastCheck:ConT:=⟨[kl],[kn],fun aa=>LSh [s32] (li aa 0),fun aa rs=>rs=f_leastCheck aa⟩
theorem fn_leastCheck:∀ aa,t_leastCheck.pre aa→∀ rs,t_leastCheck.post aa rs→rs=f_leastCheck aa:=fun _ _ _ h=>h
def V_leastCheck:Prop:=∀ (l0:LL),Ob (LSh [s32] l0)→∀ (R:List DV→Prop),Ob (∀ (res:List DV),res=[vn (e_least l0)]→R res)→∀ (x2:Int),x2=(↑(List.length l0):Int)→(x2>(8:Int)→Ob (R [vn (4:Int)]))∧(¬x2>(8:Int)→Ob ((1:Int)≤(1:Int)∧upto (at_least l0) (1:Int))∧∀ (g3:Nat→Value) (x4:Int),Ob ((1:Int)≤x4∧upto (at_least l0) x4)→∀ (x5:Int),x5=(↑(List.length l0):Int)→(x4<x5→Ob ((0:Int)≤x4∧x4<(↑(List.length l0):Int))∧Ob (Shp [Kd.int IntKind.u32] l0)∧∀ (x6:Int),Ob (l0[Int.toNat x4]?=some [d32 x6])→∀ (x7:Int),x7=w64 (x4-(1:Int))→Ob ((0:Int)≤x7∧x7<(↑(List.length l0):Int))∧Ob (Shp [Kd.int IntKind.u32] l0)∧∀ (x8:Int),Ob (l0[Int.toNat x7]?=some [d32 x8])→(x6≤x8→Ob (R [vn (8:Int)]))∧(¬x6≤x8→∀ (x9:Int),x9=w64 (x4+(1:Int))→Ob ((1:Int)≤x9∧upto (at_least l0) x9)∧Ob (List.length l0-Int.toNat x9<List.length l0-Int.toNat x4)))∧(¬x4<x5→Ob (R [vn (0:Int)])))
set_option maxRecDepth 100000 in
theorem vcEq_leastCheck:vcFn Go.Proofs.Tryz.prog k0 (cxf [] [(267000,0,some ⟨[0],[3],[],[kn],[],fun ρ ds=>1≤ni ds 0∧upto (at_least (ρ.d 0)) (ni ds 0),fun ρ ds=>(ρ.d 0).length-(ni ds 0).toNat,none⟩)] [] []) 3000 267 Go.Proofs.Tryz.f267 (bodyOf Go.Proofs.Tryz.f267) t_leastCheck=V_leastCheck:=by kernel_rfl
set_option maxHeartbeats 4000000 in
set_option maxRecDepth 20000 in
theorem vcPf_leastCheck:V_leastCheck:=by
  delta V_leastCheck
  simp only [ob_iff,and_imp,List.cons_append,List.nil_append,dshs_cons,dshs_nil,dsh_int,dsh_bool,dsh_sl,rng64,rng32,true_and,and_true,List.cons.injEq,DV.c.injEq,DV.a.injEq,D.raw.injEq,D.fs.injEq,Value.bool.injEq,Value.int.injEq]
  repeat' first | assumption | exact DShs.tail (DSh_nth (by assumption) (by assumption)) | exact shp32 (by assumption) | exact shp64 (by assumption) | exact shp2 (by assumption) | exact shpF (by assumption) | with_reducible intro _ | with_reducible apply And.intro
  all_goals (try (have e:=w64_pred ‹_=w64 (_-1)› (by omega) (by omega);subst e))
  all_goals (try (have e:=w64_succ ‹_=w64 (_+1)› (by omega) (by omega);subst e))
  all_goals first
    | assumption
    | omega
    | (exact fun i hi h0=>by omega)
    | (apply ‹∀ res:List DV,_=_→_›;simp only [e_least];rw [if_pos (by omega)])
    | (apply ‹∀ res:List DV,_=_→_›;simp only [e_least];rw [if_neg (by omega),if_neg (upto_not (at_least_no (by assumption) (by assumption) (by omega) (by omega)) (by omega) (by omega))])
    | (apply ‹∀ res:List DV,_=_→_›;simp only [e_least];rw [if_neg (by omega),if_pos (upto_end (by assumption) (by omega))])
    | (rw [upto_succ (by omega)];exact ⟨by assumption,at_least_yes (by assumption) (by assumption) (by omega)⟩)
theorem con_leastCheck:Con Go.Proofs.Tryz.prog k0 267 t_leastCheck :=
  con_of (cxf_ok mixOk (fun p hp=>by cases hp) (fun p hp=>by cases hp)) Go.Proofs.Tryz.func267 rfl rfl rfl rfl vcEq_leastCheck vcPf_leastCheck
end Go.Vc

namespace Go.Vc
open Classical
def f_partCheck (aa:List DV):List DV:=[vn (if p_part (ai aa 0) then 0 else 8)]
def t_partCheck:ConT:=⟨[rkS partS],[kn],fun aa=>DShs partS (ai aa 0),fun aa rs=>rs=f_partCheck aa⟩
theorem fn_partCheck:∀ aa,t_partCheck.pre aa→∀ rs,t_partCheck.post aa rs→rs=f_partCheck aa:=fun _ _ _ h=>h
def V_partCheck:Prop:=∀ (b0:Bool) (l1:LL) (x2:Int) (b3:Bool) (l4:LL) (x5:Int) (b6:Bool) (l7:LL) (x8:Int) (b9:Bool) (l10:LL) (x11:Int) (b12:Bool) (x13 x14:Int) (l15:LL),Ob (DShs partS [db b0,D.fs l1,dn x2,db b3,D.fs l4,dn x5,db b6,D.fs l7,dn x8,db b9,D.fs l10,dn x11,db b12,dn x13,dn x14,D.fs l15])→∀ (R:List DV→Prop),Ob (∀ (res:List DV),res=[vn (if p_part [db b0,D.fs l1,dn x2,db b3,D.fs l4,dn x5,db b6,D.fs l7,dn x8,db b9,D.fs l10,dn x11,db b12,dn x13,dn x14,D.fs l15] then (0:Int) else (8:Int))]→R res)→Ob (DShs massS [db b0,D.fs l1,dn x2,db b3,D.fs l4,dn x5,db b6,D.fs l7,dn x8,db b9,D.fs l10,dn x11])∧∀ (x17:Int),Ob ([vn x17]=[vn (if p_push [db b0,D.fs l1,dn x2,db b3,D.fs l4,dn x5,db b6,D.fs l7,dn x8,db b9,D.fs l10,dn x11] then (0:Int) else (8:Int))])→(x17≠(0:Int)→Ob (R [vn (8:Int)]))∧(¬x17≠(0:Int)→Ob (DShs edgeS [db b12,dn x13,dn x14])∧∀ (x18:Int),Ob ([vn x18]=[vn (if p_edge [db b12,dn x13,dn x14] then (0:Int) else (8:Int))])→(x18≠(0:Int)→Ob (R [vn (8:Int)]))∧(¬x18≠(0:Int)→Ob (LSh [s32] l15)∧∀ (x19:Int),Ob ([vn x19]=[vn (e_least l15)])→(x19≠(0:Int)→Ob (R [vn (8:Int)]))∧(¬x19≠(0:Int)→Ob (R [vn (0:Int)]))))
set_option maxRecDepth 100000 in
theorem vcEq_partCheck:vcFn Go.Proofs.Tryz.prog k0 (cxf [(265,t_pushCheck),(266,t_edgeCheck),(267,t_leastCheck)] [] [] [(265,f_pushCheck),(266,f_edgeCheck),(267,f_leastCheck)]) 3000 210 Go.Proofs.Tryz.f210 (bodyOf Go.Proofs.Tryz.f210) t_partCheck=V_partCheck:=by kernel_rfl
set_option maxHeartbeats 4000000 in
set_option maxRecDepth 20000 in
theorem vcPf_partCheck:V_partCheck:=by
  delta V_partCheck
  simp only [ob_iff,and_imp,List.cons_append,List.nil_append,dshs_cons,dshs_nil,dsh_int,dsh_bool,dsh_sl,rng64,rng32,true_and,and_true,List.cons.injEq,DV.c.injEq,DV.a.injEq,D.raw.injEq,D.fs.injEq,Value.bool.injEq,Value.int.injEq]
  repeat' first | assumption | exact DShs.tail (DSh_nth (by assumption) (by assumption)) | exact shp32 (by assumption) | exact shp64 (by assumption) | exact shp2 (by assumption) | exact shpF (by assumption) | with_reducible intro _ | with_reducible apply And.intro
  all_goals first
    | assumption
    | omega
    | (apply ‹∀ res:List DV,_=_→_›;simp [p_part,gL,sub3,-List.length_eq_zero_iff] <;> grind)
theorem con_partCheck:Con Go.Proofs.Tryz.prog k0 210 t_partCheck :=
  con_of (cxf_ok mixOk (fun p hp=>by
    simp only [List.mem_cons,List.not_mem_nil,or_false] at hp
    rcases hp with rfl | rfl | rfl
    · exact con_pushCheck
    · exact con_edgeCheck
    · exact con_leastCheck) (fun p hp=>by
    simp only [List.mem_cons,List.not_mem_nil,or_false] at hp
    rcases hp with rfl | rfl | rfl
    · intro t ht;cases ht;exact fn_pushCheck
    · intro t ht;cases ht;exact fn_edgeCheck
    · intro t ht;cases ht;exact fn_leastCheck)) Go.Proofs.Tryz.func210 rfl rfl rfl rfl vcEq_partCheck vcPf_partCheck
end Go.Vc

namespace Go.Vc
open Classical
def f_pastCheck (aa:List DV):List DV:=[vn (e_past (li aa 0))]
def t_pastCheck:ConT:=⟨[kl],[kn],fun aa=>LSh frozS (li aa 0),fun aa rs=>rs=f_pastCheck aa⟩
theorem fn_pastCheck:∀ aa,t_pastCheck.pre aa→∀ rs,t_pastCheck.post aa rs→rs=f_pastCheck aa:=fun _ _ _ h=>h
def V_pastCheck:Prop:=∀ (l0:LL),Ob (LSh frozS l0)→∀ (R:List DV→Prop),Ob (∀ (res:List DV),res=[vn (e_past l0)]→R res)→∀ (x2:Int),x2=(↑(List.length l0):Int)→(x2>(1024:Int)→Ob (R [vn (4:Int)]))∧(¬x2>(1024:Int)→∀ (x3:Int),x3=(↑(List.length l0):Int)→Ob ((0:Int)≤(0:Int)∧(-1:Int)=prv l0 (Int.toNat (0:Int))∧upto (at_past l0) (0:Int))∧∀ (g4:Nat→Value) (x5 x6:Int),Ob ((0:Int)≤x5∧x6=prv l0 (Int.toNat x5)∧upto (at_past l0) x5)→(x5<x3→Ob ((0:Int)≤x5∧x5<(↑(List.length l0):Int))∧Ob (Shp [Kd.int IntKind.i64,Kd.bool,Kd.sl,Kd.int IntKind.i64,Kd.bool,Kd.sl,Kd.int IntKind.i64,Kd.bool,Kd.sl,Kd.int IntKind.i64,Kd.bool,Kd.sl,Kd.int IntKind.i64,Kd.bool,Kd.int IntKind.i64,Kd.int IntKind.i64,Kd.sl] l0)∧∀ (x7:Int) (b8:Bool) (l9:LL) (x10:Int) (b11:Bool) (l12:LL) (x13:Int) (b14:Bool) (l15:LL) (x16:Int) (b17:Bool) (l18:LL) (x19:Int) (b20:Bool) (x21 x22:Int) (l23:LL),Ob (l0[Int.toNat x5]?=some [dn x7,db b8,D.fs l9,dn x10,db b11,D.fs l12,dn x13,db b14,D.fs l15,dn x16,db b17,D.fs l18,dn x19,db b20,dn x21,dn x22,D.fs l23])→(x7≤x6→Ob (R [vn (8:Int)]))∧(¬x7≤x6→(x7>(65535:Int)→Ob (R [vn (8:Int)]))∧(¬x7>(65535:Int)→Ob (DShs partS [db b8,D.fs l9,dn x10,db b11,D.fs l12,dn x13,db b14,D.fs l15,dn x16,db b17,D.fs l18,dn x19,db b20,dn x21,dn x22,D.fs l23])∧∀ (x24:Int),Ob ([vn x24]=[vn (if p_part [db b8,D.fs l9,dn x10,db b11,D.fs l12,dn x13,db b14,D.fs l15,dn x16,db b17,D.fs l18,dn x19,db b20,dn x21,dn x22,D.fs l23] then (0:Int) else (8:Int))])→(x24≠(0:Int)→Ob (R [vn (8:Int)]))∧(¬x24≠(0:Int)→∀ (x25:Int),x25=w64 (x5+(1:Int))→Ob ((0:Int)≤x25∧x7=prv l0 (Int.toNat x25)∧upto (at_past l0) x25)∧Ob (List.length l0-Int.toNat x25<List.length l0-Int.toNat x5)))))∧(¬x5<x3→Ob (R [vn (0:Int)])))
set_option maxRecDepth 100000 in
theorem vcEq_pastCheck:vcFn Go.Proofs.Tryz.prog k0 (cxf [(210,t_partCheck)] [(218000,0,some ⟨[9,10],[11,3],[],[kn,kn],[],fun ρ ds=>0≤ni ds 0∧ni ds 1=prv (ρ.d 0) (ni ds 0).toNat∧upto (at_past (ρ.d 0)) (ni ds 0),fun ρ ds=>(ρ.d 0).length-(ni ds 0).toNat,none⟩)] [] [(210,f_partCheck)]) 3000 218 Go.Proofs.Tryz.f218 (bodyOf Go.Proofs.Tryz.f218) t_pastCheck=V_pastCheck:=by kernel_rfl
set_option maxHeartbeats 4000000 in
set_option maxRecDepth 20000 in
theorem vcPf_pastCheck:V_pastCheck:=by
  delta V_pastCheck
  simp only [ob_iff,and_imp,true_and,and_true,List.cons.injEq,DV.c.injEq,DV.a.injEq,D.raw.injEq,D.fs.injEq,Value.bool.injEq,Value.int.injEq]
  repeat' first | assumption | exact DShs.tail (DSh_nth (by assumption) (by assumption)) | exact shp32 (by assumption) | exact shp64 (by assumption) | exact shp2 (by assumption) | exact shpF (by assumption) | with_reducible intro _ | with_reducible apply And.intro
  all_goals (try (have e:=w64_succ ‹_=w64 (_+1)› (by omega) (by omega);subst e))
  all_goals first
    | assumption
    | omega
    | (exact fun i hi=>by omega)
    | (apply ‹∀ res:List DV,_=_→_›;simp only [e_past];rw [if_pos (by omega)])
    | (apply ‹∀ res:List DV,_=_→_›;simp only [e_past];rw [if_neg (by omega),if_neg (upto_not (at_past_no (by assumption) (by assumption) (by omega) (by assumption)) (by omega) (by omega))])
    | (apply ‹∀ res:List DV,_=_→_›;simp only [e_past];rw [if_neg (by omega),if_neg (upto_not (at_past_no1 (by assumption) (by assumption) (by omega) (by omega)) (by omega) (by omega))])
    | (apply ‹∀ res:List DV,_=_→_›;simp only [e_past];rw [if_neg (by omega),if_pos (upto_end (by assumption) (by omega))])
    | (rw [upto_succ (by omega)];exact ⟨by assumption,at_past_yes (by assumption) (by assumption) (by assumption) (by omega) (by omega) (by assumption)⟩)
    | (exact prv_succ (by assumption) (by omega))
    | (rfl)
theorem con_pastCheck:Con Go.Proofs.Tryz.prog k0 218 t_pastCheck :=
  con_of (cxf_ok mixOk (fun p hp=>by
    simp only [List.mem_cons,List.not_mem_nil,or_false] at hp
    subst hp
    exact con_partCheck) (fun p hp=>by
    simp only [List.mem_cons,List.not_mem_nil,or_false] at hp
    subst hp
    · intro t ht;cases ht;exact fn_partCheck)) Go.Proofs.Tryz.func218 rfl rfl rfl rfl vcEq_pastCheck vcPf_pastCheck
end Go.Vc

namespace Go.Vc
open Classical
def f_seenCheck (aa:List DV):List DV:=[vn (e_seen (li aa 0))]
def t_seenCheck:ConT:=⟨[kl],[kn],fun aa=>LSh [s64] (li aa 0),fun aa rs=>rs=f_seenCheck aa⟩
theorem fn_seenCheck:∀ aa,t_seenCheck.pre aa→∀ rs,t_seenCheck.post aa rs→rs=f_seenCheck aa:=fun _ _ _ h=>h
def V_seenCheck:Prop:=∀ (l0:LL),Ob (LSh [s64] l0)→∀ (R:List DV→Prop),Ob (∀ (res:List DV),res=[vn (e_seen l0)]→R res)→∀ (x2:Int),x2=(↑(List.length l0):Int)→(x2>(4096:Int)→Ob (R [vn (4:Int)]))∧(¬x2>(4096:Int)→∀ (x3:Int),x3=(↑(List.length l0):Int)→Ob ((0:Int)≤(0:Int)∧(-1:Int)=prv l0 (Int.toNat (0:Int))∧upto (at_seen l0) (0:Int))∧∀ (g4:Nat→Value) (x5 x6:Int),Ob ((0:Int)≤x5∧x6=prv l0 (Int.toNat x5)∧upto (at_seen l0) x5)→(x5<x3→Ob ((0:Int)≤x5∧x5<(↑(List.length l0):Int))∧Ob (Shp [Kd.int IntKind.i64] l0)∧∀ (x7:Int),Ob (l0[Int.toNat x5]?=some [dn x7])→(x7≤x6→Ob (R [vn (8:Int)]))∧(¬x7≤x6→(x7>(1048575:Int)→Ob (R [vn (8:Int)]))∧(¬x7>(1048575:Int)→∀ (x8:Int),x8=w64 (x5+(1:Int))→Ob ((0:Int)≤x8∧x7=prv l0 (Int.toNat x8)∧upto (at_seen l0) x8)∧Ob (List.length l0-Int.toNat x8<List.length l0-Int.toNat x5))))∧(¬x5<x3→Ob (R [vn (0:Int)])))
set_option maxRecDepth 100000 in
theorem vcEq_seenCheck:vcFn Go.Proofs.Tryz.prog k0 (cxf [] [(214000,0,some ⟨[9,10],[11,3],[],[kn,kn],[],fun ρ ds=>0≤ni ds 0∧ni ds 1=prv (ρ.d 0) (ni ds 0).toNat∧upto (at_seen (ρ.d 0)) (ni ds 0),fun ρ ds=>(ρ.d 0).length-(ni ds 0).toNat,none⟩)] [] []) 3000 214 Go.Proofs.Tryz.f214 (bodyOf Go.Proofs.Tryz.f214) t_seenCheck=V_seenCheck:=by kernel_rfl
set_option maxHeartbeats 4000000 in
set_option maxRecDepth 20000 in
theorem vcPf_seenCheck:V_seenCheck:=by
  delta V_seenCheck
  simp only [ob_iff,and_imp,List.cons_append,List.nil_append,dshs_cons,dshs_nil,dsh_int,dsh_bool,dsh_sl,rng64,rng32,true_and,and_true,List.cons.injEq,DV.c.injEq,DV.a.injEq,D.raw.injEq,D.fs.injEq,Value.bool.injEq,Value.int.injEq]
  repeat' first | assumption | exact DShs.tail (DSh_nth (by assumption) (by assumption)) | exact shp32 (by assumption) | exact shp64 (by assumption) | exact shp2 (by assumption) | exact shpF (by assumption) | with_reducible intro _ | with_reducible apply And.intro
  all_goals (try (have e:=w64_succ ‹_=w64 (_+1)› (by omega) (by omega);subst e))
  all_goals first
    | assumption
    | omega
    | (exact fun i hi=>by omega)
    | (apply ‹∀ res:List DV,_=_→_›;simp only [e_seen];rw [if_pos (by omega)])
    | (apply ‹∀ res:List DV,_=_→_›;simp only [e_seen];rw [if_neg (by omega),if_neg (upto_not (at_seen_no (by assumption) (by assumption) (by omega) (by omega)) (by omega) (by omega))])
    | (apply ‹∀ res:List DV,_=_→_›;simp only [e_seen];rw [if_neg (by omega),if_pos (upto_end (by assumption) (by omega))])
    | (rw [upto_succ (by omega)];exact ⟨by assumption,at_seen_yes (by assumption) (by assumption) (by omega) (by omega)⟩)
    | (exact prv_succ (by assumption) (by omega))
    | (rfl)
theorem con_seenCheck:Con Go.Proofs.Tryz.prog k0 214 t_seenCheck :=
  con_of (cxf_ok mixOk (fun p hp=>by cases hp) (fun p hp=>by cases hp)) Go.Proofs.Tryz.func214 rfl rfl rfl rfl vcEq_seenCheck vcPf_seenCheck
end Go.Vc

namespace Go.Vc
open Classical
def f_timerCheck (aa:List DV):List DV:=[vn (e_timer (li aa 0))]
def t_timerCheck:ConT:=⟨[kl],[kn],fun aa=>LSh pairS (li aa 0),fun aa rs=>rs=f_timerCheck aa⟩
theorem fn_timerCheck:∀ aa,t_timerCheck.pre aa→∀ rs,t_timerCheck.post aa rs→rs=f_timerCheck aa:=fun _ _ _ h=>h
def V_timerCheck:Prop:=∀ (l0:LL),Ob (LSh pairS l0)→∀ (R:List DV→Prop),Ob (∀ (res:List DV),res=[vn (e_timer l0)]→R res)→∀ (x2:Int),x2=(↑(List.length l0):Int)→(x2>(1024:Int)→Ob (R [vn (4:Int)]))∧(¬x2>(1024:Int)→∀ (x3:Int),x3=(↑(List.length l0):Int)→Ob ((0:Int)≤(0:Int)∧upto (at_timer l0) (0:Int))∧∀ (g4:Nat→Value) (x5:Int),Ob ((0:Int)≤x5∧upto (at_timer l0) x5)→(x5<x3→Ob ((0:Int)≤x5∧x5<(↑(List.length l0):Int))∧Ob (Shp [Kd.int IntKind.i64,Kd.int IntKind.i64] l0)∧∀ (x6 x7:Int),Ob (l0[Int.toNat x5]?=some [dn x6,dn x7])→(x6≥(0:Int)→(x6≤(2147483647:Int)→(x7≥(0:Int)→(x7≤(1048575:Int)→(x5>(0:Int)→∀ (x8:Int),x8=w64 (x5-(1:Int))→Ob ((0:Int)≤x8∧x8<(↑(List.length l0):Int))∧Ob (Shp [Kd.int IntKind.i64,Kd.int IntKind.i64] l0)∧∀ (x9 x10:Int),Ob (l0[Int.toNat x8]?=some [dn x9,dn x10])→(x9<x6→∀ (x11:Int),x11=w64 (x5+(1:Int))→Ob ((0:Int)≤x11∧upto (at_timer l0) x11)∧Ob (List.length l0-Int.toNat x11<List.length l0-Int.toNat x5))∧(¬x9<x6→(x9=x6→(x10<x7→∀ (x12:Int),x12=w64 (x5+(1:Int))→Ob ((0:Int)≤x12∧upto (at_timer l0) x12)∧Ob (List.length l0-Int.toNat x12<List.length l0-Int.toNat x5))∧(¬x10<x7→Ob (R [vn (8:Int)])))∧(¬x9=x6→Ob (R [vn (8:Int)]))))∧(¬x5>(0:Int)→∀ (x13:Int),x13=w64 (x5+(1:Int))→Ob ((0:Int)≤x13∧upto (at_timer l0) x13)∧Ob (List.length l0-Int.toNat x13<List.length l0-Int.toNat x5)))∧(¬x7≤(1048575:Int)→Ob (R [vn (8:Int)])))∧(¬x7≥(0:Int)→Ob (R [vn (8:Int)])))∧(¬x6≤(2147483647:Int)→Ob (R [vn (8:Int)])))∧(¬x6≥(0:Int)→Ob (R [vn (8:Int)])))∧(¬x5<x3→Ob (R [vn (0:Int)])))
set_option maxRecDepth 100000 in
theorem vcEq_timerCheck:vcFn Go.Proofs.Tryz.prog k0 (cxf [] [(215000,0,some ⟨[0,8,9],[10],[],[kn],[],fun ρ ds=>0≤ni ds 0∧upto (at_timer (ρ.d 0)) (ni ds 0),fun ρ ds=>(ρ.d 0).length-(ni ds 0).toNat,none⟩)] [] []) 3000 215 Go.Proofs.Tryz.f215 (bodyOf Go.Proofs.Tryz.f215) t_timerCheck=V_timerCheck:=by kernel_rfl
set_option maxHeartbeats 4000000 in
set_option maxRecDepth 20000 in
theorem vcPf_timerCheck:V_timerCheck:=by
  delta V_timerCheck
  simp only [ob_iff,and_imp,List.cons_append,List.nil_append,dshs_cons,dshs_nil,dsh_int,dsh_bool,dsh_sl,rng64,rng32,true_and,and_true,List.cons.injEq,DV.c.injEq,DV.a.injEq,D.raw.injEq,D.fs.injEq,Value.bool.injEq,Value.int.injEq]
  repeat' first | assumption | exact DShs.tail (DSh_nth (by assumption) (by assumption)) | exact shp32 (by assumption) | exact shp64 (by assumption) | exact shp2 (by assumption) | exact shpF (by assumption) | with_reducible intro _ | with_reducible apply And.intro
  all_goals (try (have e:=w64_pred ‹_=w64 (_-1)› (by omega) (by omega);subst e))
  all_goals (try (have e:=w64_succ ‹_=w64 (_+1)› (by omega) (by omega);subst e))
  all_goals first
    | assumption
    | omega
    | (exact fun i hi=>by omega)
    | (apply ‹∀ res:List DV,_=_→_›;simp only [e_timer];rw [if_pos (by omega)])
    | (apply ‹∀ res:List DV,_=_→_›;simp only [e_timer];rw [if_neg (by omega),if_neg (upto_not (at_timer_no1 (by assumption) (by omega)) (by omega) (by omega))])
    | (apply ‹∀ res:List DV,_=_→_›;simp only [e_timer];rw [if_neg (by omega),if_neg (upto_not (at_timer_no2 (by assumption) (by assumption) (by omega) (by omega)) (by omega) (by omega))])
    | (apply ‹∀ res:List DV,_=_→_›;simp only [e_timer];rw [if_neg (by omega),if_pos (upto_end (by assumption) (by omega))])
    | (rw [upto_succ (by omega)];exact ⟨by assumption,at_timer_yes0 (by assumption) (by omega) (by omega)⟩)
    | (rw [upto_succ (by omega)];exact ⟨by assumption,at_timer_yes (by assumption) (by assumption) (by omega) (by omega)⟩)
theorem con_timerCheck:Con Go.Proofs.Tryz.prog k0 215 t_timerCheck :=
  con_of (cxf_ok mixOk (fun p hp=>by cases hp) (fun p hp=>by cases hp)) Go.Proofs.Tryz.func215 rfl rfl rfl rfl vcEq_timerCheck vcPf_timerCheck
end Go.Vc

namespace Go.Vc
open Classical
def f_eq32 (aa:List DV):List DV:=[vb (decide (li aa 0=li aa 1))]
def t_eq32:ConT:=⟨[kl,kl],[kb],fun aa=>LSh [s32] (li aa 0)∧LSh [s32] (li aa 1),fun aa rs=>rs=f_eq32 aa⟩
theorem fn_eq32:∀ aa,t_eq32.pre aa→∀ rs,t_eq32.post aa rs→rs=f_eq32 aa:=fun _ _ _ h=>h
def V_eq32:Prop:=∀ (l0 l1:LL),Ob (LSh [s32] l0∧LSh [s32] l1)→∀ (R:List DV→Prop),Ob (∀ (res:List DV),res=[vb (decide (l0=l1))]→R res)→∀ (x3:Int),x3=(↑(List.length l0):Int)→∀ (x4:Int),x4=(↑(List.length l1):Int)→(x3≠x4→Ob (R [vb false]))∧(¬x3≠x4→∀ (x5:Int),x5=(↑(List.length l0):Int)→Ob ((0:Int)≤(0:Int)∧List.length l0=List.length l1∧(0:Int)≤(↑(List.length l0):Int)∧List.take (Int.toNat (0:Int)) l0=List.take (Int.toNat (0:Int)) l1)∧∀ (g6:Nat→Value) (x7:Int),Ob ((0:Int)≤x7∧List.length l0=List.length l1∧x7≤(↑(List.length l0):Int)∧List.take (Int.toNat x7) l0=List.take (Int.toNat x7) l1)→(x7<x5→Ob ((0:Int)≤x7∧x7<(↑(List.length l0):Int))∧Ob (Shp [Kd.int IntKind.u32] l0)∧∀ (x8:Int),Ob (l0[Int.toNat x7]?=some [d32 x8])→Ob ((0:Int)≤x7∧x7<(↑(List.length l1):Int))∧Ob (Shp [Kd.int IntKind.u32] l1)∧∀ (x9:Int),Ob (l1[Int.toNat x7]?=some [d32 x9])→(x8≠x9→Ob (R [vb false]))∧(¬x8≠x9→∀ (x10:Int),x10=w64 (x7+(1:Int))→Ob ((0:Int)≤x10∧List.length l0=List.length l1∧x10≤(↑(List.length l0):Int)∧List.take (Int.toNat x10) l0=List.take (Int.toNat x10) l1)∧Ob (List.length l0-Int.toNat x10<List.length l0-Int.toNat x7)))∧(¬x7<x5→Ob (R [vb true])))
set_option maxRecDepth 100000 in
theorem vcEq_eq32:vcFn Go.Proofs.Tryz.prog k0 (cxf [] [(106000,0,some ⟨[1,0,12],[13],[],[kn],[],fun ρ ds=>0≤ni ds 0∧(ρ.d 0).length=(ρ.d 1).length∧ni ds 0≤(ρ.d 0).length∧(ρ.d 0).take (ni ds 0).toNat=(ρ.d 1).take (ni ds 0).toNat,fun ρ ds=>(ρ.d 0).length-(ni ds 0).toNat,none⟩)] [] []) 3000 106 Go.Proofs.Tryz.f106 (bodyOf Go.Proofs.Tryz.f106) t_eq32=V_eq32:=by kernel_rfl
set_option maxHeartbeats 4000000 in
set_option maxRecDepth 20000 in
theorem vcPf_eq32:V_eq32:=by
  delta V_eq32
  simp only [ob_iff,and_imp,List.cons_append,List.nil_append,dshs_cons,dshs_nil,dsh_int,dsh_bool,dsh_sl,rng64,rng32,true_and,and_true,List.cons.injEq,DV.c.injEq,DV.a.injEq,D.raw.injEq,D.fs.injEq,Value.bool.injEq,Value.int.injEq]
  repeat' first | assumption | exact DShs.tail (DSh_nth (by assumption) (by assumption)) | exact shp32 (by assumption) | exact shp64 (by assumption) | exact shp2 (by assumption) | exact shpF (by assumption) | with_reducible intro _ | with_reducible apply And.intro
  all_goals (try (have e:=w64_succ ‹_=w64 (_+1)› (by omega) (by omega);subst e))
  all_goals first
    | omega
    | (apply ‹∀ res:List DV,_=_→_›;simp;grind [getE_ne,take_all])
    | (rw [take_succ (by omega) (by assumption),take_succ (by omega) (by assumption)];grind)
    | grind
theorem con_eq32:Con Go.Proofs.Tryz.prog k0 106 t_eq32 :=
  con_of (cxf_ok mixOk (fun p hp=>by cases hp) (fun p hp=>by cases hp)) Go.Proofs.Tryz.func106 rfl rfl rfl rfl vcEq_eq32 vcPf_eq32
end Go.Vc

namespace Go.Vc
open Classical
def f_limbSame (aa:List DV):List DV:=[vb (decide (li aa 0=li aa 1))]
def t_limbSame:ConT:=⟨[kl,kl],[kb],fun aa=>LSh [s32] (li aa 0)∧LSh [s32] (li aa 1),fun aa rs=>rs=f_limbSame aa⟩
theorem fn_limbSame:∀ aa,t_limbSame.pre aa→∀ rs,t_limbSame.post aa rs→rs=f_limbSame aa:=fun _ _ _ h=>h
def V_limbSame:Prop:=∀ (l0 l1:LL),Ob (LSh [s32] l0∧LSh [s32] l1)→∀ (R:List DV→Prop),Ob (∀ (res:List DV),res=[vb (decide (l0=l1))]→R res)→Ob (LSh [s32] l0∧LSh [s32] l1)∧∀ (b3:Bool),Ob ([vb b3]=[vb (decide (l0=l1))])→Ob (R [vb b3])
set_option maxRecDepth 100000 in
theorem vcEq_limbSame:vcFn Go.Proofs.Tryz.prog k0 (cxf [(106,t_eq32)] [] [] [(106,f_eq32)]) 3000 138 Go.Proofs.Tryz.f138 (bodyOf Go.Proofs.Tryz.f138) t_limbSame=V_limbSame:=by kernel_rfl
set_option maxHeartbeats 4000000 in
set_option maxRecDepth 20000 in
theorem vcPf_limbSame:V_limbSame:=by
  delta V_limbSame
  simp only [ob_iff,and_imp,List.cons_append,List.nil_append,dshs_cons,dshs_nil,dsh_int,dsh_bool,dsh_sl,rng64,rng32,true_and,and_true,List.cons.injEq,DV.c.injEq,DV.a.injEq,D.raw.injEq,D.fs.injEq,Value.bool.injEq,Value.int.injEq]
  repeat' first | assumption | exact DShs.tail (DSh_nth (by assumption) (by assumption)) | exact shp32 (by assumption) | exact shp64 (by assumption) | exact shp2 (by assumption) | exact shpF (by assumption) | with_reducible intro _ | with_reducible apply And.intro
  all_goals first
    | assumption
    | omega
    | (apply ‹∀ res:List DV,_=_→_›;simp_all)
    | grind
theorem con_limbSame:Con Go.Proofs.Tryz.prog k0 138 t_limbSame :=
  con_of (cxf_ok mixOk (fun p hp=>by
    simp only [List.mem_cons,List.not_mem_nil,or_false] at hp
    subst hp
    exact con_eq32) (fun p hp=>by
    simp only [List.mem_cons,List.not_mem_nil,or_false] at hp
    subst hp
    · intro t ht;cases ht;exact fn_eq32)) Go.Proofs.Tryz.func138 rfl rfl rfl rfl vcEq_limbSame vcPf_limbSame
end Go.Vc

namespace Go.Vc
open Classical
def f_dySame (aa:List DV):List DV:=[vb (decide (ai aa 0=ai aa 1))]
def t_dySame:ConT:=⟨[rkS dyS,rkS dyS],[kb],fun aa=>DShs dyS (ai aa 0)∧DShs dyS (ai aa 1),fun aa rs=>rs=f_dySame aa⟩
theorem fn_dySame:∀ aa,t_dySame.pre aa→∀ rs,t_dySame.post aa rs→rs=f_dySame aa:=fun _ _ _ h=>h
def V_dySame:Prop:=∀ (b0:Bool) (l1:LL) (x2:Int) (b3:Bool) (l4:LL) (x5:Int),Ob (DShs dyS [db b0,D.fs l1,dn x2]∧DShs dyS [db b3,D.fs l4,dn x5])→∀ (R:List DV→Prop),Ob (∀ (res:List DV),res=[vb (decide ([db b0,D.fs l1,dn x2]=[db b3,D.fs l4,dn x5]))]→R res)→(b0=b3→(x2=x5→Ob (LSh [s32] l1∧LSh [s32] l4)∧∀ (b7:Bool),Ob ([vb b7]=[vb (decide (l1=l4))])→Ob (R [vb b7]))∧(¬x2=x5→Ob (R [vb false])))∧(¬b0=b3→Ob (R [vb false]))
set_option maxRecDepth 100000 in
theorem vcEq_dySame:vcFn Go.Proofs.Tryz.prog k0 (cxf [(138,t_limbSame)] [] [] [(138,f_limbSame)]) 3000 44 Go.Proofs.Tryz.f44 (bodyOf Go.Proofs.Tryz.f44) t_dySame=V_dySame:=by kernel_rfl
set_option maxHeartbeats 4000000 in
set_option maxRecDepth 20000 in
theorem vcPf_dySame:V_dySame:=by
  delta V_dySame
  simp only [ob_iff,and_imp,List.cons_append,List.nil_append,dshs_cons,dshs_nil,dsh_int,dsh_bool,dsh_sl,rng64,rng32,true_and,and_true,List.cons.injEq,DV.c.injEq,DV.a.injEq,D.raw.injEq,D.fs.injEq,Value.bool.injEq,Value.int.injEq]
  repeat' first | assumption | exact DShs.tail (DSh_nth (by assumption) (by assumption)) | exact shp32 (by assumption) | exact shp64 (by assumption) | exact shp2 (by assumption) | exact shpF (by assumption) | with_reducible intro _ | with_reducible apply And.intro
  all_goals first
    | assumption
    | omega
    | (apply ‹∀ res:List DV,_=_→_›;simp_all)
    | grind
theorem con_dySame:Con Go.Proofs.Tryz.prog k0 44 t_dySame :=
  con_of (cxf_ok mixOk (fun p hp=>by
    simp only [List.mem_cons,List.not_mem_nil,or_false] at hp
    subst hp
    exact con_limbSame) (fun p hp=>by
    simp only [List.mem_cons,List.not_mem_nil,or_false] at hp
    subst hp
    · intro t ht;cases ht;exact fn_limbSame)) Go.Proofs.Tryz.func44 rfl rfl rfl rfl vcEq_dySame vcPf_dySame
end Go.Vc

namespace Go.Vc
open Classical
def f_massSame (aa:List DV):List DV:=[vb (decide (ai aa 0=ai aa 1))]
def t_massSame:ConT:=⟨[rkS massS,rkS massS],[kb],fun aa=>DShs massS (ai aa 0)∧DShs massS (ai aa 1),fun aa rs=>rs=f_massSame aa⟩
theorem fn_massSame:∀ aa,t_massSame.pre aa→∀ rs,t_massSame.post aa rs→rs=f_massSame aa:=fun _ _ _ h=>h
def V_massSame:Prop:=∀ (b0:Bool) (l1:LL) (x2:Int) (b3:Bool) (l4:LL) (x5:Int) (b6:Bool) (l7:LL) (x8:Int) (b9:Bool) (l10:LL) (x11:Int) (b12:Bool) (l13:LL) (x14:Int) (b15:Bool) (l16:LL) (x17:Int) (b18:Bool) (l19:LL) (x20:Int) (b21:Bool) (l22:LL) (x23:Int),Ob (DShs massS [db b0,D.fs l1,dn x2,db b3,D.fs l4,dn x5,db b6,D.fs l7,dn x8,db b9,D.fs l10,dn x11]∧DShs massS [db b12,D.fs l13,dn x14,db b15,D.fs l16,dn x17,db b18,D.fs l19,dn x20,db b21,D.fs l22,dn x23])→∀ (R:List DV→Prop),Ob (∀ (res:List DV),res=[vb (decide ([db b0,D.fs l1,dn x2,db b3,D.fs l4,dn x5,db b6,D.fs l7,dn x8,db b9,D.fs l10,dn x11]=[db b12,D.fs l13,dn x14,db b15,D.fs l16,dn x17,db b18,D.fs l19,dn x20,db b21,D.fs l22,dn x23]))]→R res)→Ob (DShs dyS [db b0,D.fs l1,dn x2]∧DShs dyS [db b12,D.fs l13,dn x14])∧∀ (b25:Bool),Ob ([vb b25]=[vb (decide ([db b0,D.fs l1,dn x2]=[db b12,D.fs l13,dn x14]))])→(b25=false→Ob (R [vb false]))∧(¬b25=false→Ob (DShs dyS [db b3,D.fs l4,dn x5]∧DShs dyS [db b15,D.fs l16,dn x17])∧∀ (b26:Bool),Ob ([vb b26]=[vb (decide ([db b3,D.fs l4,dn x5]=[db b15,D.fs l16,dn x17]))])→(b26=false→Ob (R [vb false]))∧(¬b26=false→Ob (DShs dyS [db b6,D.fs l7,dn x8]∧DShs dyS [db b18,D.fs l19,dn x20])∧∀ (b27:Bool),Ob ([vb b27]=[vb (decide ([db b6,D.fs l7,dn x8]=[db b18,D.fs l19,dn x20]))])→(b27=false→Ob (R [vb false]))∧(¬b27=false→Ob (DShs dyS [db b9,D.fs l10,dn x11]∧DShs dyS [db b21,D.fs l22,dn x23])∧∀ (b28:Bool),Ob ([vb b28]=[vb (decide ([db b9,D.fs l10,dn x11]=[db b21,D.fs l22,dn x23]))])→(b28=false→Ob (R [vb false]))∧(¬b28=false→Ob (R [vb true])))))
set_option maxRecDepth 100000 in
theorem vcEq_massSame:vcFn Go.Proofs.Tryz.prog k0 (cxf [(44,t_dySame)] [] [] [(44,f_dySame)]) 3000 96 Go.Proofs.Tryz.f96 (bodyOf Go.Proofs.Tryz.f96) t_massSame=V_massSame:=by kernel_rfl
set_option maxHeartbeats 4000000 in
set_option maxRecDepth 20000 in
theorem vcPf_massSame:V_massSame:=by
  delta V_massSame
  simp only [ob_iff,and_imp,List.cons_append,List.nil_append,dshs_cons,dshs_nil,dsh_int,dsh_bool,dsh_sl,rng64,rng32,true_and,and_true,List.cons.injEq,DV.c.injEq,DV.a.injEq,D.raw.injEq,D.fs.injEq,Value.bool.injEq,Value.int.injEq]
  repeat' first | assumption | exact DShs.tail (DSh_nth (by assumption) (by assumption)) | exact shp32 (by assumption) | exact shp64 (by assumption) | exact shp2 (by assumption) | exact shpF (by assumption) | with_reducible intro _ | with_reducible apply And.intro
  all_goals first
    | assumption
    | omega
    | (apply ‹∀ res:List DV,_=_→_›;simp_all)
    | grind
theorem con_massSame:Con Go.Proofs.Tryz.prog k0 96 t_massSame :=
  con_of (cxf_ok mixOk (fun p hp=>by
    simp only [List.mem_cons,List.not_mem_nil,or_false] at hp
    subst hp
    exact con_dySame) (fun p hp=>by
    simp only [List.mem_cons,List.not_mem_nil,or_false] at hp
    subst hp
    · intro t ht;cases ht;exact fn_dySame)) Go.Proofs.Tryz.func96 rfl rfl rfl rfl vcEq_massSame vcPf_massSame
end Go.Vc

namespace Go.Vc
open Classical
def f_partSame (aa:List DV):List DV:=[vb (decide (ai aa 0=ai aa 1))]
def t_partSame:ConT:=⟨[rkS partS,rkS partS],[kb],fun aa=>DShs partS (ai aa 0)∧DShs partS (ai aa 1),fun aa rs=>rs=f_partSame aa⟩
theorem fn_partSame:∀ aa,t_partSame.pre aa→∀ rs,t_partSame.post aa rs→rs=f_partSame aa:=fun _ _ _ h=>h
def V_partSame:Prop:=∀ (b0:Bool) (l1:LL) (x2:Int) (b3:Bool) (l4:LL) (x5:Int) (b6:Bool) (l7:LL) (x8:Int) (b9:Bool) (l10:LL) (x11:Int) (b12:Bool) (x13 x14:Int) (l15:LL) (b16:Bool) (l17:LL) (x18:Int) (b19:Bool) (l20:LL) (x21:Int) (b22:Bool) (l23:LL) (x24:Int) (b25:Bool) (l26:LL) (x27:Int) (b28:Bool) (x29 x30:Int) (l31:LL),Ob (DShs partS [db b0,D.fs l1,dn x2,db b3,D.fs l4,dn x5,db b6,D.fs l7,dn x8,db b9,D.fs l10,dn x11,db b12,dn x13,dn x14,D.fs l15]∧DShs partS [db b16,D.fs l17,dn x18,db b19,D.fs l20,dn x21,db b22,D.fs l23,dn x24,db b25,D.fs l26,dn x27,db b28,dn x29,dn x30,D.fs l31])→∀ (R:List DV→Prop),Ob (∀ (res:List DV),res=[vb (decide ([db b0,D.fs l1,dn x2,db b3,D.fs l4,dn x5,db b6,D.fs l7,dn x8,db b9,D.fs l10,dn x11,db b12,dn x13,dn x14,D.fs l15]=[db b16,D.fs l17,dn x18,db b19,D.fs l20,dn x21,db b22,D.fs l23,dn x24,db b25,D.fs l26,dn x27,db b28,dn x29,dn x30,D.fs l31]))]→R res)→Ob (DShs massS [db b0,D.fs l1,dn x2,db b3,D.fs l4,dn x5,db b6,D.fs l7,dn x8,db b9,D.fs l10,dn x11]∧DShs massS [db b16,D.fs l17,dn x18,db b19,D.fs l20,dn x21,db b22,D.fs l23,dn x24,db b25,D.fs l26,dn x27])∧∀ (b33:Bool),Ob ([vb b33]=[vb (decide ([db b0,D.fs l1,dn x2,db b3,D.fs l4,dn x5,db b6,D.fs l7,dn x8,db b9,D.fs l10,dn x11]=[db b16,D.fs l17,dn x18,db b19,D.fs l20,dn x21,db b22,D.fs l23,dn x24,db b25,D.fs l26,dn x27]))])→(b33=true→(b12=b28∧x13=x29∧x14=x30→Ob (LSh [s32] l15∧LSh [s32] l31)∧∀ (b34:Bool),Ob ([vb b34]=[vb (decide (l15=l31))])→Ob (R [vb b34]))∧(¬(b12=b28∧x13=x29∧x14=x30)→Ob (R [vb false])))∧(b33=false→Ob (R [vb false]))
set_option maxRecDepth 100000 in
theorem vcEq_partSame:vcFn Go.Proofs.Tryz.prog k0 (cxf [(96,t_massSame),(106,t_eq32)] [] [] [(96,f_massSame),(106,f_eq32)]) 3000 28 Go.Proofs.Tryz.f28 (bodyOf Go.Proofs.Tryz.f28) t_partSame=V_partSame:=by kernel_rfl
set_option maxHeartbeats 4000000 in
set_option maxRecDepth 20000 in
theorem vcPf_partSame:V_partSame:=by
  delta V_partSame
  simp only [ob_iff,and_imp,List.cons_append,List.nil_append,dshs_cons,dshs_nil,dsh_int,dsh_bool,dsh_sl,rng64,rng32,true_and,and_true,List.cons.injEq,DV.c.injEq,DV.a.injEq,D.raw.injEq,D.fs.injEq,Value.bool.injEq,Value.int.injEq]
  repeat' first | assumption | exact DShs.tail (DSh_nth (by assumption) (by assumption)) | exact shp32 (by assumption) | exact shp64 (by assumption) | exact shp2 (by assumption) | exact shpF (by assumption) | with_reducible intro _ | with_reducible apply And.intro
  all_goals first
    | assumption
    | omega
    | (apply ‹∀ res:List DV,_=_→_›;simp_all)
    | grind
theorem con_partSame:Con Go.Proofs.Tryz.prog k0 28 t_partSame :=
  con_of (cxf_ok mixOk (fun p hp=>by
    simp only [List.mem_cons,List.not_mem_nil,or_false] at hp
    rcases hp with rfl | rfl
    · exact con_massSame
    · exact con_eq32) (fun p hp=>by
    simp only [List.mem_cons,List.not_mem_nil,or_false] at hp
    rcases hp with rfl | rfl
    · intro t ht;cases ht;exact fn_massSame
    · intro t ht;cases ht;exact fn_eq32)) Go.Proofs.Tryz.func28 rfl rfl rfl rfl vcEq_partSame vcPf_partSame
end Go.Vc

namespace Go.Vc
open Classical
def f_pastSame (aa:List DV):List DV:=[vb (decide (li aa 0=li aa 1))]
def t_pastSame:ConT:=⟨[kl,kl],[kb],fun aa=>LSh frozS (li aa 0)∧LSh frozS (li aa 1),fun aa rs=>rs=f_pastSame aa⟩
theorem fn_pastSame:∀ aa,t_pastSame.pre aa→∀ rs,t_pastSame.post aa rs→rs=f_pastSame aa:=fun _ _ _ h=>h
def V_pastSame:Prop:=∀ (l0 l1:LL),Ob (LSh frozS l0∧LSh frozS l1)→∀ (R:List DV→Prop),Ob (∀ (res:List DV),res=[vb (decide (l0=l1))]→R res)→∀ (x3:Int),x3=(↑(List.length l0):Int)→∀ (x4:Int),x4=(↑(List.length l1):Int)→(x3≠x4→Ob (R [vb false]))∧(¬x3≠x4→∀ (x5:Int),x5=(↑(List.length l0):Int)→Ob ((0:Int)≤(0:Int)∧List.length l0=List.length l1∧(0:Int)≤(↑(List.length l0):Int)∧List.take (Int.toNat (0:Int)) l0=List.take (Int.toNat (0:Int)) l1)∧∀ (g6:Nat→Value) (x7:Int),Ob ((0:Int)≤x7∧List.length l0=List.length l1∧x7≤(↑(List.length l0):Int)∧List.take (Int.toNat x7) l0=List.take (Int.toNat x7) l1)→(x7<x5→Ob ((0:Int)≤x7∧x7<(↑(List.length l0):Int))∧Ob (Shp [Kd.int IntKind.i64,Kd.bool,Kd.sl,Kd.int IntKind.i64,Kd.bool,Kd.sl,Kd.int IntKind.i64,Kd.bool,Kd.sl,Kd.int IntKind.i64,Kd.bool,Kd.sl,Kd.int IntKind.i64,Kd.bool,Kd.int IntKind.i64,Kd.int IntKind.i64,Kd.sl] l0)∧∀ (x8:Int) (b9:Bool) (l10:LL) (x11:Int) (b12:Bool) (l13:LL) (x14:Int) (b15:Bool) (l16:LL) (x17:Int) (b18:Bool) (l19:LL) (x20:Int) (b21:Bool) (x22 x23:Int) (l24:LL),Ob (l0[Int.toNat x7]?=some [dn x8,db b9,D.fs l10,dn x11,db b12,D.fs l13,dn x14,db b15,D.fs l16,dn x17,db b18,D.fs l19,dn x20,db b21,dn x22,dn x23,D.fs l24])→Ob ((0:Int)≤x7∧x7<(↑(List.length l1):Int))∧Ob (Shp [Kd.int IntKind.i64,Kd.bool,Kd.sl,Kd.int IntKind.i64,Kd.bool,Kd.sl,Kd.int IntKind.i64,Kd.bool,Kd.sl,Kd.int IntKind.i64,Kd.bool,Kd.sl,Kd.int IntKind.i64,Kd.bool,Kd.int IntKind.i64,Kd.int IntKind.i64,Kd.sl] l1)∧∀ (x25:Int) (b26:Bool) (l27:LL) (x28:Int) (b29:Bool) (l30:LL) (x31:Int) (b32:Bool) (l33:LL) (x34:Int) (b35:Bool) (l36:LL) (x37:Int) (b38:Bool) (x39 x40:Int) (l41:LL),Ob (l1[Int.toNat x7]?=some [dn x25,db b26,D.fs l27,dn x28,db b29,D.fs l30,dn x31,db b32,D.fs l33,dn x34,db b35,D.fs l36,dn x37,db b38,dn x39,dn x40,D.fs l41])→(x8=x25→Ob (DShs partS [db b9,D.fs l10,dn x11,db b12,D.fs l13,dn x14,db b15,D.fs l16,dn x17,db b18,D.fs l19,dn x20,db b21,dn x22,dn x23,D.fs l24]∧DShs partS [db b26,D.fs l27,dn x28,db b29,D.fs l30,dn x31,db b32,D.fs l33,dn x34,db b35,D.fs l36,dn x37,db b38,dn x39,dn x40,D.fs l41])∧∀ (b42:Bool),Ob ([vb b42]=[vb (decide ([db b9,D.fs l10,dn x11,db b12,D.fs l13,dn x14,db b15,D.fs l16,dn x17,db b18,D.fs l19,dn x20,db b21,dn x22,dn x23,D.fs l24]=[db b26,D.fs l27,dn x28,db b29,D.fs l30,dn x31,db b32,D.fs l33,dn x34,db b35,D.fs l36,dn x37,db b38,dn x39,dn x40,D.fs l41]))])→(b42=false→Ob (R [vb false]))∧(¬b42=false→∀ (x43:Int),x43=w64 (x7+(1:Int))→Ob ((0:Int)≤x43∧List.length l0=List.length l1∧x43≤(↑(List.length l0):Int)∧List.take (Int.toNat x43) l0=List.take (Int.toNat x43) l1)∧Ob (List.length l0-Int.toNat x43<List.length l0-Int.toNat x7)))∧(¬x8=x25→Ob (R [vb false])))∧(¬x7<x5→Ob (R [vb true])))
set_option maxRecDepth 100000 in
theorem vcEq_pastSame:vcFn Go.Proofs.Tryz.prog k0 (cxf [(28,t_partSame)] [(27000185008,0,some ⟨[2,1,15,16],[17],[],[kn],[],fun ρ ds=>0≤ni ds 0∧(ρ.d 0).length=(ρ.d 1).length∧ni ds 0≤(ρ.d 0).length∧(ρ.d 0).take (ni ds 0).toNat=(ρ.d 1).take (ni ds 0).toNat,fun ρ ds=>(ρ.d 0).length-(ni ds 0).toNat,none⟩)] [] [(28,f_partSame)]) 3000 27 Go.Proofs.Tryz.f27 (bodyOf Go.Proofs.Tryz.f27) t_pastSame=V_pastSame:=by kernel_rfl
set_option maxHeartbeats 4000000 in
set_option maxRecDepth 20000 in
theorem vcPf_pastSame:V_pastSame:=by
  delta V_pastSame
  simp only [ob_iff,and_imp,true_and,and_true,List.cons.injEq,DV.c.injEq,DV.a.injEq,D.raw.injEq,D.fs.injEq,Value.bool.injEq,Value.int.injEq]
  repeat' first | assumption | exact DShs.tail (DSh_nth (by assumption) (by assumption)) | exact shp32 (by assumption) | exact shp64 (by assumption) | exact shp2 (by assumption) | exact shpF (by assumption) | with_reducible intro _ | with_reducible apply And.intro
  all_goals (try (have e:=w64_succ ‹_=w64 (_+1)› (by omega) (by omega);subst e))
  all_goals first
    | assumption
    | omega
    | (exact DShs.tail (DSh_nth (by assumption) (by assumption)))
    | (apply ‹∀ res:List DV,_=_→_›;simp;grind [getE_ne,take_all])
    | (rw [take_succ (by omega) (by assumption),take_succ (by omega) (by assumption)];grind)
    | (grind)
theorem con_pastSame:Con Go.Proofs.Tryz.prog k0 27 t_pastSame :=
  con_of (cxf_ok mixOk (fun p hp=>by
    simp only [List.mem_cons,List.not_mem_nil,or_false] at hp
    subst hp
    exact con_partSame) (fun p hp=>by
    simp only [List.mem_cons,List.not_mem_nil,or_false] at hp
    subst hp
    · intro t ht;cases ht;exact fn_partSame)) Go.Proofs.Tryz.func27 rfl rfl rfl rfl vcEq_pastSame vcPf_pastSame
end Go.Vc

namespace Go.Vc
open Classical
def f_cacheSame (aa:List DV):List DV:=[vb (decide (ai aa 0=ai aa 1))]
def t_cacheSame:ConT:=⟨[rkS cacheS,rkS cacheS],[kb],fun aa=>DShs cacheS (ai aa 0)∧DShs cacheS (ai aa 1),fun aa rs=>rs=f_cacheSame aa⟩
theorem fn_cacheSame:∀ aa,t_cacheSame.pre aa→∀ rs,t_cacheSame.post aa rs→rs=f_cacheSame aa:=fun _ _ _ h=>h
def V_cacheSame:Prop:=∀ (x0 x1:Int) (l2:LL) (x3 x4:Int) (l5:LL),Ob (DShs cacheS [dn x0,dn x1,D.fs l2]∧DShs cacheS [dn x3,dn x4,D.fs l5])→∀ (R:List DV→Prop),Ob (∀ (res:List DV),res=[vb (decide ([dn x0,dn x1,D.fs l2]=[dn x3,dn x4,D.fs l5]))]→R res)→(x0=x3→(x1=x4→Ob (LSh pairS l2∧LSh pairS l5)∧∀ (b7:Bool),Ob ([vb b7]=[vb (decide (l2=l5))])→Ob (R [vb b7]))∧(¬x1=x4→Ob (R [vb false])))∧(¬x0=x3→Ob (R [vb false]))
set_option maxRecDepth 100000 in
theorem vcEq_cacheSame:vcFn Go.Proofs.Tryz.prog k0 (cxf [(188,t_descSame)] [] [] [(188,f_descSame)]) 3000 102 Go.Proofs.Tryz.f102 (bodyOf Go.Proofs.Tryz.f102) t_cacheSame=V_cacheSame:=by kernel_rfl
set_option maxHeartbeats 4000000 in
set_option maxRecDepth 20000 in
theorem vcPf_cacheSame:V_cacheSame:=by
  delta V_cacheSame
  simp only [ob_iff,and_imp,List.cons_append,List.nil_append,dshs_cons,dshs_nil,dsh_int,dsh_bool,dsh_sl,rng64,rng32,true_and,and_true,List.cons.injEq,DV.c.injEq,DV.a.injEq,D.raw.injEq,D.fs.injEq,Value.bool.injEq,Value.int.injEq]
  repeat' first | assumption | exact DShs.tail (DSh_nth (by assumption) (by assumption)) | exact shp32 (by assumption) | exact shp64 (by assumption) | exact shp2 (by assumption) | exact shpF (by assumption) | with_reducible intro _ | with_reducible apply And.intro
  all_goals first
    | assumption
    | omega
    | (apply ‹∀ res:List DV,_=_→_›;simp_all)
    | grind
theorem con_cacheSame:Con Go.Proofs.Tryz.prog k0 102 t_cacheSame :=
  con_of (cxf_ok mixOk (fun p hp=>by
    simp only [List.mem_cons,List.not_mem_nil,or_false] at hp
    subst hp
    exact con_descSame) (fun p hp=>by
    simp only [List.mem_cons,List.not_mem_nil,or_false] at hp
    subst hp
    · intro t ht;cases ht;exact fn_descSame)) Go.Proofs.Tryz.func102 rfl rfl rfl rfl vcEq_cacheSame vcPf_cacheSame
end Go.Vc

namespace Go.Vc
open Classical
def f_eqI (aa:List DV):List DV:=[vb (decide (li aa 0=li aa 1))]
def t_eqI:ConT:=⟨[kl,kl],[kb],fun aa=>LSh [s64] (li aa 0)∧LSh [s64] (li aa 1),fun aa rs=>rs=f_eqI aa⟩
theorem fn_eqI:∀ aa,t_eqI.pre aa→∀ rs,t_eqI.post aa rs→rs=f_eqI aa:=fun _ _ _ h=>h
def V_eqI:Prop:=∀ (l0 l1:LL),Ob (LSh [s64] l0∧LSh [s64] l1)→∀ (R:List DV→Prop),Ob (∀ (res:List DV),res=[vb (decide (l0=l1))]→R res)→∀ (x3:Int),x3=(↑(List.length l0):Int)→∀ (x4:Int),x4=(↑(List.length l1):Int)→(x3≠x4→Ob (R [vb false]))∧(¬x3≠x4→∀ (x5:Int),x5=(↑(List.length l0):Int)→Ob ((0:Int)≤(0:Int)∧List.length l0=List.length l1∧(0:Int)≤(↑(List.length l0):Int)∧List.take (Int.toNat (0:Int)) l0=List.take (Int.toNat (0:Int)) l1)∧∀ (g6:Nat→Value) (x7:Int),Ob ((0:Int)≤x7∧List.length l0=List.length l1∧x7≤(↑(List.length l0):Int)∧List.take (Int.toNat x7) l0=List.take (Int.toNat x7) l1)→(x7<x5→Ob ((0:Int)≤x7∧x7<(↑(List.length l0):Int))∧Ob (Shp [Kd.int IntKind.i64] l0)∧∀ (x8:Int),Ob (l0[Int.toNat x7]?=some [dn x8])→Ob ((0:Int)≤x7∧x7<(↑(List.length l1):Int))∧Ob (Shp [Kd.int IntKind.i64] l1)∧∀ (x9:Int),Ob (l1[Int.toNat x7]?=some [dn x9])→(x8≠x9→Ob (R [vb false]))∧(¬x8≠x9→∀ (x10:Int),x10=w64 (x7+(1:Int))→Ob ((0:Int)≤x10∧List.length l0=List.length l1∧x10≤(↑(List.length l0):Int)∧List.take (Int.toNat x10) l0=List.take (Int.toNat x10) l1)∧Ob (List.length l0-Int.toNat x10<List.length l0-Int.toNat x7)))∧(¬x7<x5→Ob (R [vb true])))
set_option maxRecDepth 100000 in
theorem vcEq_eqI:vcFn Go.Proofs.Tryz.prog k0 (cxf [] [(101000,0,some ⟨[1,0,12],[13],[],[kn],[],fun ρ ds=>0≤ni ds 0∧(ρ.d 0).length=(ρ.d 1).length∧ni ds 0≤(ρ.d 0).length∧(ρ.d 0).take (ni ds 0).toNat=(ρ.d 1).take (ni ds 0).toNat,fun ρ ds=>(ρ.d 0).length-(ni ds 0).toNat,none⟩)] [] []) 3000 101 Go.Proofs.Tryz.f101 (bodyOf Go.Proofs.Tryz.f101) t_eqI=V_eqI:=by kernel_rfl
set_option maxHeartbeats 4000000 in
set_option maxRecDepth 20000 in
theorem vcPf_eqI:V_eqI:=by
  delta V_eqI
  simp only [ob_iff,and_imp,List.cons_append,List.nil_append,dshs_cons,dshs_nil,dsh_int,dsh_bool,dsh_sl,rng64,rng32,true_and,and_true,List.cons.injEq,DV.c.injEq,DV.a.injEq,D.raw.injEq,D.fs.injEq,Value.bool.injEq,Value.int.injEq]
  repeat' first | assumption | exact DShs.tail (DSh_nth (by assumption) (by assumption)) | exact shp32 (by assumption) | exact shp64 (by assumption) | exact shp2 (by assumption) | exact shpF (by assumption) | with_reducible intro _ | with_reducible apply And.intro
  all_goals (try (have e:=w64_succ ‹_=w64 (_+1)› (by omega) (by omega);subst e))
  all_goals first
    | omega
    | (apply ‹∀ res:List DV,_=_→_›;simp;grind [getE_ne,take_all])
    | (rw [take_succ (by omega) (by assumption),take_succ (by omega) (by assumption)];grind)
    | grind
theorem con_eqI:Con Go.Proofs.Tryz.prog k0 101 t_eqI :=
  con_of (cxf_ok mixOk (fun p hp=>by cases hp) (fun p hp=>by cases hp)) Go.Proofs.Tryz.func101 rfl rfl rfl rfl vcEq_eqI vcPf_eqI
end Go.Vc

namespace Go.Vc
open Classical
def f_eqTi (aa:List DV):List DV:=[vb (decide (li aa 0=li aa 1))]
def t_eqTi:ConT:=⟨[kl,kl],[kb],fun aa=>LSh pairS (li aa 0)∧LSh pairS (li aa 1),fun aa rs=>rs=f_eqTi aa⟩
theorem fn_eqTi:∀ aa,t_eqTi.pre aa→∀ rs,t_eqTi.post aa rs→rs=f_eqTi aa:=fun _ _ _ h=>h
def V_eqTi:Prop:=∀ (l0 l1:LL),Ob (LSh pairS l0∧LSh pairS l1)→∀ (R:List DV→Prop),Ob (∀ (res:List DV),res=[vb (decide (l0=l1))]→R res)→∀ (x3:Int),x3=(↑(List.length l0):Int)→∀ (x4:Int),x4=(↑(List.length l1):Int)→(x3≠x4→Ob (R [vb false]))∧(¬x3≠x4→∀ (x5:Int),x5=(↑(List.length l0):Int)→Ob ((0:Int)≤(0:Int)∧List.length l0=List.length l1∧(0:Int)≤(↑(List.length l0):Int)∧List.take (Int.toNat (0:Int)) l0=List.take (Int.toNat (0:Int)) l1)∧∀ (g6:Nat→Value) (x7:Int),Ob ((0:Int)≤x7∧List.length l0=List.length l1∧x7≤(↑(List.length l0):Int)∧List.take (Int.toNat x7) l0=List.take (Int.toNat x7) l1)→(x7<x5→Ob ((0:Int)≤x7∧x7<(↑(List.length l0):Int))∧Ob (Shp [Kd.int IntKind.i64,Kd.int IntKind.i64] l0)∧∀ (x8 x9:Int),Ob (l0[Int.toNat x7]?=some [dn x8,dn x9])→Ob ((0:Int)≤x7∧x7<(↑(List.length l1):Int))∧Ob (Shp [Kd.int IntKind.i64,Kd.int IntKind.i64] l1)∧∀ (x10 x11:Int),Ob (l1[Int.toNat x7]?=some [dn x10,dn x11])→(¬(x8=x10∧x9=x11)→Ob (R [vb false]))∧(¬¬(x8=x10∧x9=x11)→∀ (x12:Int),x12=w64 (x7+(1:Int))→Ob ((0:Int)≤x12∧List.length l0=List.length l1∧x12≤(↑(List.length l0):Int)∧List.take (Int.toNat x12) l0=List.take (Int.toNat x12) l1)∧Ob (List.length l0-Int.toNat x12<List.length l0-Int.toNat x7)))∧(¬x7<x5→Ob (R [vb true])))
set_option maxRecDepth 100000 in
theorem vcEq_eqTi:vcFn Go.Proofs.Tryz.prog k0 (cxf [] [(103000,0,some ⟨[1,0,12],[13],[],[kn],[],fun ρ ds=>0≤ni ds 0∧(ρ.d 0).length=(ρ.d 1).length∧ni ds 0≤(ρ.d 0).length∧(ρ.d 0).take (ni ds 0).toNat=(ρ.d 1).take (ni ds 0).toNat,fun ρ ds=>(ρ.d 0).length-(ni ds 0).toNat,none⟩)] [] []) 3000 103 Go.Proofs.Tryz.f103 (bodyOf Go.Proofs.Tryz.f103) t_eqTi=V_eqTi:=by kernel_rfl
set_option maxHeartbeats 4000000 in
set_option maxRecDepth 20000 in
theorem vcPf_eqTi:V_eqTi:=by
  delta V_eqTi
  simp only [ob_iff,and_imp,List.cons_append,List.nil_append,dshs_cons,dshs_nil,dsh_int,dsh_bool,dsh_sl,rng64,rng32,true_and,and_true,List.cons.injEq,DV.c.injEq,DV.a.injEq,D.raw.injEq,D.fs.injEq,Value.bool.injEq,Value.int.injEq]
  repeat' first | assumption | exact DShs.tail (DSh_nth (by assumption) (by assumption)) | exact shp32 (by assumption) | exact shp64 (by assumption) | exact shp2 (by assumption) | exact shpF (by assumption) | with_reducible intro _ | with_reducible apply And.intro
  all_goals (try (have e:=w64_succ ‹_=w64 (_+1)› (by omega) (by omega);subst e))
  all_goals first
    | omega
    | (apply ‹∀ res:List DV,_=_→_›;simp;grind [getE_ne,take_all])
    | (rw [take_succ (by omega) (by assumption),take_succ (by omega) (by assumption)];grind)
    | grind
theorem con_eqTi:Con Go.Proofs.Tryz.prog k0 103 t_eqTi :=
  con_of (cxf_ok mixOk (fun p hp=>by cases hp) (fun p hp=>by cases hp)) Go.Proofs.Tryz.func103 rfl rfl rfl rfl vcEq_eqTi vcPf_eqTi
end Go.Vc
