import Derived.Test.YtneooimijbfmgaaGreatProg
import Derived.KernelRfl
import Derived.Test.YtneooimijbfmgaaGreatWbAR
import Derived.Test.YtneooimijbfmgaaGreatWbAT
import Derived.Test.YtneooimijbfmgaaGreatWbAX
import Derived.Test.YtneooimijbfmgaaGreatWbAY
set_option linter.unusedVariables false
set_option linter.unusedSimpArgs false
set_option linter.unusedSectionVars false
noncomputable section
namespace Go.Vc
open Classical
def f_rNodeNew (aa:List DV):List DV:=[.a (newC (ni aa 0) (ni aa 1) (ni aa 2) (ai aa 3)),vn 0]
def t_rNodeNew:ConT:=⟨[kn,kn,kn,rkS clockS],[rkS nodeS,kn],fun aa=>DShs clockS (ai aa 3)∧p_new (ni aa 0) (ni aa 1) (ni aa 2) (ai aa 3),fun aa rs=>rs=f_rNodeNew aa⟩
theorem fn_rNodeNew:∀ aa,t_rNodeNew.pre aa→∀ rs,t_rNodeNew.post aa rs→rs=f_rNodeNew aa:=fun _ _ _ h=>h
def V_rNodeNew:Prop:=∀ (x0 x1 x2 x3 x4 x5 x6 x7:Int),Ob (DShs clockS [dn x3,dn x4,dn x5,dn x6,dn x7]∧p_new x0 x1 x2 [dn x3,dn x4,dn x5,dn x6,dn x7])→∀ (R:List DV→Prop),Ob (∀ (res:List DV),res=[DV.a [dn x0,dn x1,db true,dn x3,dn x4,dn x5,dn x6,dn x7,db false,D.fs [],dn (0:Int),db false,D.fs [],dn (0:Int),db false,D.fs [],dn (0:Int),db false,D.fs [],dn (0:Int),db false,dn (0:Int),dn (0:Int),D.fs [],db false,dn (0:Int),dn (0:Int),D.fs [],dn x0,dn x2,D.fs [],D.fs [],D.fs []],vn (0:Int)]→R res)→(x0<(0:Int)→Ob (R [DV.a [dn (0:Int),dn (0:Int),db false,dn (0:Int),dn (0:Int),dn (0:Int),dn (0:Int),dn (0:Int),db false,D.fs [],dn (0:Int),db false,D.fs [],dn (0:Int),db false,D.fs [],dn (0:Int),db false,D.fs [],dn (0:Int),db false,dn (0:Int),dn (0:Int),D.fs [],db false,dn (0:Int),dn (0:Int),D.fs [],dn (0:Int),dn (0:Int),D.fs [],D.fs [],D.fs []],vn (2:Int)]))∧(¬x0<(0:Int)→(x0≥(8:Int)→Ob (R [DV.a [dn (0:Int),dn (0:Int),db false,dn (0:Int),dn (0:Int),dn (0:Int),dn (0:Int),dn (0:Int),db false,D.fs [],dn (0:Int),db false,D.fs [],dn (0:Int),db false,D.fs [],dn (0:Int),db false,D.fs [],dn (0:Int),db false,dn (0:Int),dn (0:Int),D.fs [],db false,dn (0:Int),dn (0:Int),D.fs [],dn (0:Int),dn (0:Int),D.fs [],D.fs [],D.fs []],vn (2:Int)]))∧(¬x0≥(8:Int)→(x1≥(-2147483647:Int)→(x1≤(2147483647:Int)→(x2<(1:Int)→Ob (R [DV.a [dn (0:Int),dn (0:Int),db false,dn (0:Int),dn (0:Int),dn (0:Int),dn (0:Int),dn (0:Int),db false,D.fs [],dn (0:Int),db false,D.fs [],dn (0:Int),db false,D.fs [],dn (0:Int),db false,D.fs [],dn (0:Int),db false,dn (0:Int),dn (0:Int),D.fs [],db false,dn (0:Int),dn (0:Int),D.fs [],dn (0:Int),dn (0:Int),D.fs [],D.fs [],D.fs []],vn (2:Int)]))∧(¬x2<(1:Int)→(x2>(6:Int)→Ob (R [DV.a [dn (0:Int),dn (0:Int),db false,dn (0:Int),dn (0:Int),dn (0:Int),dn (0:Int),dn (0:Int),db false,D.fs [],dn (0:Int),db false,D.fs [],dn (0:Int),db false,D.fs [],dn (0:Int),db false,D.fs [],dn (0:Int),db false,dn (0:Int),dn (0:Int),D.fs [],db false,dn (0:Int),dn (0:Int),D.fs [],dn (0:Int),dn (0:Int),D.fs [],D.fs [],D.fs []],vn (2:Int)]))∧(¬x2>(6:Int)→(x3<(1:Int)→Ob (R [DV.a [dn (0:Int),dn (0:Int),db false,dn (0:Int),dn (0:Int),dn (0:Int),dn (0:Int),dn (0:Int),db false,D.fs [],dn (0:Int),db false,D.fs [],dn (0:Int),db false,D.fs [],dn (0:Int),db false,D.fs [],dn (0:Int),db false,dn (0:Int),dn (0:Int),D.fs [],db false,dn (0:Int),dn (0:Int),D.fs [],dn (0:Int),dn (0:Int),D.fs [],D.fs [],D.fs []],vn (2:Int)]))∧(¬x3<(1:Int)→(x3>(64:Int)→Ob (R [DV.a [dn (0:Int),dn (0:Int),db false,dn (0:Int),dn (0:Int),dn (0:Int),dn (0:Int),dn (0:Int),db false,D.fs [],dn (0:Int),db false,D.fs [],dn (0:Int),db false,D.fs [],dn (0:Int),db false,D.fs [],dn (0:Int),db false,dn (0:Int),dn (0:Int),D.fs [],db false,dn (0:Int),dn (0:Int),D.fs [],dn (0:Int),dn (0:Int),D.fs [],D.fs [],D.fs []],vn (2:Int)]))∧(¬x3>(64:Int)→(x4<(0:Int)→Ob (R [DV.a [dn (0:Int),dn (0:Int),db false,dn (0:Int),dn (0:Int),dn (0:Int),dn (0:Int),dn (0:Int),db false,D.fs [],dn (0:Int),db false,D.fs [],dn (0:Int),db false,D.fs [],dn (0:Int),db false,D.fs [],dn (0:Int),db false,dn (0:Int),dn (0:Int),D.fs [],db false,dn (0:Int),dn (0:Int),D.fs [],dn (0:Int),dn (0:Int),D.fs [],D.fs [],D.fs []],vn (2:Int)]))∧(¬x4<(0:Int)→(x4>(2147483647:Int)→Ob (R [DV.a [dn (0:Int),dn (0:Int),db false,dn (0:Int),dn (0:Int),dn (0:Int),dn (0:Int),dn (0:Int),db false,D.fs [],dn (0:Int),db false,D.fs [],dn (0:Int),db false,D.fs [],dn (0:Int),db false,D.fs [],dn (0:Int),db false,dn (0:Int),dn (0:Int),D.fs [],db false,dn (0:Int),dn (0:Int),D.fs [],dn (0:Int),dn (0:Int),D.fs [],D.fs [],D.fs []],vn (2:Int)]))∧(¬x4>(2147483647:Int)→(x5<(0:Int)→Ob (R [DV.a [dn (0:Int),dn (0:Int),db false,dn (0:Int),dn (0:Int),dn (0:Int),dn (0:Int),dn (0:Int),db false,D.fs [],dn (0:Int),db false,D.fs [],dn (0:Int),db false,D.fs [],dn (0:Int),db false,D.fs [],dn (0:Int),db false,dn (0:Int),dn (0:Int),D.fs [],db false,dn (0:Int),dn (0:Int),D.fs [],dn (0:Int),dn (0:Int),D.fs [],D.fs [],D.fs []],vn (2:Int)]))∧(¬x5<(0:Int)→(x5>x4→Ob (R [DV.a [dn (0:Int),dn (0:Int),db false,dn (0:Int),dn (0:Int),dn (0:Int),dn (0:Int),dn (0:Int),db false,D.fs [],dn (0:Int),db false,D.fs [],dn (0:Int),db false,D.fs [],dn (0:Int),db false,D.fs [],dn (0:Int),db false,dn (0:Int),dn (0:Int),D.fs [],db false,dn (0:Int),dn (0:Int),D.fs [],dn (0:Int),dn (0:Int),D.fs [],D.fs [],D.fs []],vn (2:Int)]))∧(¬x5>x4→(x6<(0:Int)→Ob (R [DV.a [dn (0:Int),dn (0:Int),db false,dn (0:Int),dn (0:Int),dn (0:Int),dn (0:Int),dn (0:Int),db false,D.fs [],dn (0:Int),db false,D.fs [],dn (0:Int),db false,D.fs [],dn (0:Int),db false,D.fs [],dn (0:Int),db false,dn (0:Int),dn (0:Int),D.fs [],db false,dn (0:Int),dn (0:Int),D.fs [],dn (0:Int),dn (0:Int),D.fs [],D.fs [],D.fs []],vn (2:Int)]))∧(¬x6<(0:Int)→(x6>(65535:Int)→Ob (R [DV.a [dn (0:Int),dn (0:Int),db false,dn (0:Int),dn (0:Int),dn (0:Int),dn (0:Int),dn (0:Int),db false,D.fs [],dn (0:Int),db false,D.fs [],dn (0:Int),db false,D.fs [],dn (0:Int),db false,D.fs [],dn (0:Int),db false,dn (0:Int),dn (0:Int),D.fs [],db false,dn (0:Int),dn (0:Int),D.fs [],dn (0:Int),dn (0:Int),D.fs [],D.fs [],D.fs []],vn (2:Int)]))∧(¬x6>(65535:Int)→(x7<(0:Int)→Ob (R [DV.a [dn (0:Int),dn (0:Int),db false,dn (0:Int),dn (0:Int),dn (0:Int),dn (0:Int),dn (0:Int),db false,D.fs [],dn (0:Int),db false,D.fs [],dn (0:Int),db false,D.fs [],dn (0:Int),db false,D.fs [],dn (0:Int),db false,dn (0:Int),dn (0:Int),D.fs [],db false,dn (0:Int),dn (0:Int),D.fs [],dn (0:Int),dn (0:Int),D.fs [],D.fs [],D.fs []],vn (2:Int)]))∧(¬x7<(0:Int)→(x7>(65536:Int)→Ob (R [DV.a [dn (0:Int),dn (0:Int),db false,dn (0:Int),dn (0:Int),dn (0:Int),dn (0:Int),dn (0:Int),db false,D.fs [],dn (0:Int),db false,D.fs [],dn (0:Int),db false,D.fs [],dn (0:Int),db false,D.fs [],dn (0:Int),db false,dn (0:Int),dn (0:Int),D.fs [],db false,dn (0:Int),dn (0:Int),D.fs [],dn (0:Int),dn (0:Int),D.fs [],D.fs [],D.fs []],vn (2:Int)]))∧(¬x7>(65536:Int)→∀ (x9:Int),x9=w64 (x4-x5)→(x9<x3→Ob (R [DV.a [dn x0,dn x1,db true,dn x3,dn x4,dn x5,dn x6,dn x7,db false,D.fs [],dn (0:Int),db false,D.fs [],dn (0:Int),db false,D.fs [],dn (0:Int),db false,D.fs [],dn (0:Int),db false,dn (0:Int),dn (0:Int),D.fs [],db false,dn (0:Int),dn (0:Int),D.fs [],dn x0,dn x2,D.fs [],D.fs [],D.fs []],vn (0:Int)]))∧(¬x9<x3→(x6=(65535:Int)→Ob (R [DV.a [dn x0,dn x1,db true,dn x3,dn x4,dn x5,dn x6,dn x7,db false,D.fs [],dn (0:Int),db false,D.fs [],dn (0:Int),db false,D.fs [],dn (0:Int),db false,D.fs [],dn (0:Int),db false,dn (0:Int),dn (0:Int),D.fs [],db false,dn (0:Int),dn (0:Int),D.fs [],dn x0,dn x2,D.fs [],D.fs [],D.fs []],vn (0:Int)]))∧(¬x6=(65535:Int)→Ob (R [DV.a [dn (0:Int),dn (0:Int),db false,dn (0:Int),dn (0:Int),dn (0:Int),dn (0:Int),dn (0:Int),db false,D.fs [],dn (0:Int),db false,D.fs [],dn (0:Int),db false,D.fs [],dn (0:Int),db false,D.fs [],dn (0:Int),db false,dn (0:Int),dn (0:Int),D.fs [],db false,dn (0:Int),dn (0:Int),D.fs [],dn (0:Int),dn (0:Int),D.fs [],D.fs [],D.fs []],vn (2:Int)]))))))))))))))))∧(¬x1≤(2147483647:Int)→Ob (R [DV.a [dn (0:Int),dn (0:Int),db false,dn (0:Int),dn (0:Int),dn (0:Int),dn (0:Int),dn (0:Int),db false,D.fs [],dn (0:Int),db false,D.fs [],dn (0:Int),db false,D.fs [],dn (0:Int),db false,D.fs [],dn (0:Int),db false,dn (0:Int),dn (0:Int),D.fs [],db false,dn (0:Int),dn (0:Int),D.fs [],dn (0:Int),dn (0:Int),D.fs [],D.fs [],D.fs []],vn (2:Int)])))∧(¬x1≥(-2147483647:Int)→Ob (R [DV.a [dn (0:Int),dn (0:Int),db false,dn (0:Int),dn (0:Int),dn (0:Int),dn (0:Int),dn (0:Int),db false,D.fs [],dn (0:Int),db false,D.fs [],dn (0:Int),db false,D.fs [],dn (0:Int),db false,D.fs [],dn (0:Int),db false,dn (0:Int),dn (0:Int),D.fs [],db false,dn (0:Int),dn (0:Int),D.fs [],dn (0:Int),dn (0:Int),D.fs [],D.fs [],D.fs []],vn (2:Int)]))))
set_option maxRecDepth 100000 in
theorem vcEq_rNodeNew:vcFn Go.Proofs.Tryz.prog k0 (cxf [] [] [] []) 3000 91 Go.Proofs.Tryz.f91 (bodyOf Go.Proofs.Tryz.f91) t_rNodeNew=V_rNodeNew:=by kernel_rfl
set_option maxHeartbeats 4000000 in
set_option maxRecDepth 20000 in
theorem vcPf_rNodeNew:V_rNodeNew:=by
  delta V_rNodeNew
  simp only [ob_iff,and_imp,forall_exists_index,true_and,and_true,List.cons.injEq,DV.c.injEq,DV.a.injEq,D.raw.injEq,D.fs.injEq,Value.bool.injEq,Value.int.injEq]
  intro x0 x1 x2 x3 x4 x5 x6 x7 hs hp R hR
  obtain ⟨g1,g2,g3,g4,⟨g5,g6⟩,hc⟩:=hp
  obtain ⟨c0,c1,c2,c3,c4,c5,c6,c7,c8,c9⟩:=hc
  replace c0:1≤x3:=c0
  replace c1:x3≤64:=c1
  replace c2:0≤x5:=c2
  replace c3:x5≤x4:=c3
  replace c4:x4≤2147483647:=c4
  replace c5:0≤x6:=c5
  replace c6:x6≤65535:=c6
  replace c7:0≤x7:=c7
  replace c8:x7≤65536:=c8
  replace c9:x4-x5≥x3→x6=65535:=c9
  repeat' first | assumption | exact DShs.tail (DSh_nth (by assumption) (by assumption)) | exact shp32 (by assumption) | exact shp64 (by assumption) | exact shp2 (by assumption) | exact shpF (by assumption) | with_reducible intro _ | with_reducible apply And.intro
  all_goals (try (have e:=w64_id' ‹_=w64 (_-_)› (by omega) (by omega);subst e))
  all_goals first
    | assumption
    | omega
    | (exfalso;omega)
    | (refine hR _ ?_;rfl)
    | skip
theorem con_rNodeNew:Con Go.Proofs.Tryz.prog k0 91 t_rNodeNew :=
  con_of (cxf_ok mixOk (fun p hp=>by cases hp) (fun p hp=>by cases hp)) Go.Proofs.Tryz.func91 rfl rfl rfl rfl vcEq_rNodeNew vcPf_rNodeNew
end Go.Vc

namespace Go.Vc
open Classical
def f_rDown (aa:List DV):List DV:=[.a (downC (ni aa 0))]
def t_rDown:ConT:=⟨[kn],[rkS nodeS],fun aa=>True,fun aa rs=>rs=f_rDown aa⟩
theorem fn_rDown:∀ aa,t_rDown.pre aa→∀ rs,t_rDown.post aa rs→rs=f_rDown aa:=fun _ _ _ h=>h
def V_rDown:Prop:=∀ (x0:Int),Ob True→∀ (R:List DV→Prop),Ob (∀ (res:List DV),res=[DV.a [dn x0,dn (0:Int),db false,dn (0:Int),dn (0:Int),dn (0:Int),dn (0:Int),dn (0:Int),db false,D.fs [],dn (0:Int),db false,D.fs [],dn (0:Int),db false,D.fs [],dn (0:Int),db false,D.fs [],dn (0:Int),db false,dn (0:Int),dn (0:Int),D.fs [],db false,dn (0:Int),dn (0:Int),D.fs [],dn (0:Int),dn (0:Int),D.fs [],D.fs [],D.fs []]]→R res)→Ob (R [DV.a [dn x0,dn (0:Int),db false,dn (0:Int),dn (0:Int),dn (0:Int),dn (0:Int),dn (0:Int),db false,D.fs [],dn (0:Int),db false,D.fs [],dn (0:Int),db false,D.fs [],dn (0:Int),db false,D.fs [],dn (0:Int),db false,dn (0:Int),dn (0:Int),D.fs [],db false,dn (0:Int),dn (0:Int),D.fs [],dn (0:Int),dn (0:Int),D.fs [],D.fs [],D.fs []]])
set_option maxRecDepth 100000 in
theorem vcEq_rDown:vcFn Go.Proofs.Tryz.prog k0 (cxf [] [] [] []) 3000 90 Go.Proofs.Tryz.f90 (bodyOf Go.Proofs.Tryz.f90) t_rDown=V_rDown:=by kernel_rfl
set_option maxHeartbeats 4000000 in
set_option maxRecDepth 20000 in
theorem vcPf_rDown:V_rDown:=by
  delta V_rDown
  simp only [ob_iff,and_imp,forall_exists_index,true_and,and_true,List.cons.injEq,DV.c.injEq,DV.a.injEq,D.raw.injEq,D.fs.injEq,Value.bool.injEq,Value.int.injEq]
  repeat' first | assumption | exact DShs.tail (DSh_nth (by assumption) (by assumption)) | exact shp32 (by assumption) | exact shp64 (by assumption) | exact shp2 (by assumption) | exact shpF (by assumption) | with_reducible intro _ | with_reducible apply And.intro
  all_goals first
    | assumption
    | omega
    | ((have hR:=‹∀ res:List DV,_=_→_›;refine hR _ ?_;rfl))
theorem con_rDown:Con Go.Proofs.Tryz.prog k0 90 t_rDown :=
  con_of (cxf_ok mixOk (fun p hp=>by cases hp) (fun p hp=>by cases hp)) Go.Proofs.Tryz.func90 rfl rfl rfl rfl vcEq_rDown vcPf_rDown
end Go.Vc

namespace Go.Vc
open Classical
def f_rDyTwin (aa:List DV):List DV:=[.a (ai aa 0)]
def t_rDyTwin:ConT:=⟨[rkS dyS],[⟨(dyS).map Sh.kd,true,true⟩],fun aa=>DShs dyS (ai aa 0)∧(gL (ai aa 0) 1).length≤1048576,fun aa rs=>rs=f_rDyTwin aa⟩
theorem fn_rDyTwin:∀ aa,t_rDyTwin.pre aa→∀ rs,t_rDyTwin.post aa rs→rs=f_rDyTwin aa:=fun _ _ _ h=>h
def V_rDyTwin:Prop:=∀ (b0:Bool) (l1:LL) (x2:Int),Ob (DShs dyS [db b0,D.fs l1,dn x2]∧List.length l1≤(1048576:Nat))→∀ (R:List DV→Prop),Ob (∀ (res:List DV),res=[DV.a [db b0,D.fs l1,dn x2]]→R res)→Ob (Shp [Kd.int IntKind.u32] l1∧List.length ([]:LL)+List.length l1≤(1048576:Nat))∧∀ (l4:LL),l4=[]++l1→Ob (R [DV.a [db b0,D.fs l4,dn x2]])
set_option maxRecDepth 100000 in
theorem vcEq_rDyTwin:vcFn Go.Proofs.Tryz.prog k0 (cxf [] [] [] []) 3000 225 Go.Proofs.Tryz.f225 (bodyOf Go.Proofs.Tryz.f225) t_rDyTwin=V_rDyTwin:=by kernel_rfl
set_option maxHeartbeats 4000000 in
set_option maxRecDepth 20000 in
theorem vcPf_rDyTwin:V_rDyTwin:=by
  delta V_rDyTwin
  simp only [ob_iff,and_imp,forall_exists_index,List.cons_append,List.nil_append,dshs_cons,dshs_nil,dsh_int,dsh_bool,dsh_sl,rng64,rng32,true_and,and_true,List.cons.injEq,DV.c.injEq,DV.a.injEq,D.raw.injEq,D.fs.injEq,Value.bool.injEq,Value.int.injEq]
  repeat' first | assumption | exact DShs.tail (DSh_nth (by assumption) (by assumption)) | exact shp32 (by assumption) | exact shp64 (by assumption) | exact shp2 (by assumption) | exact shpF (by assumption) | with_reducible intro _ | with_reducible apply And.intro
  all_goals (try subst_vars)
  all_goals (try simp (disch:=omega) only [w64_id,wu64,Int.sub_zero,Int.zero_add,List.length_set] at *)
  all_goals first
    | trivial
    | assumption
    | omega
    | (simp only [List.length_nil,Nat.add_zero] at *;omega)
    | (have hR:=‹∀ res:List DV,_=_→_›;refine hR _ ?_;simp;done)
    | exact LS.shp (by assumption)
    | exact LS.rect (by assumption)
    | grind
theorem con_rDyTwin:Con Go.Proofs.Tryz.prog k0 225 t_rDyTwin :=
  con_of (cxf_ok mixOk (fun p hp=>by cases hp) (fun p hp=>by cases hp)) Go.Proofs.Tryz.func225 rfl rfl rfl rfl vcEq_rDyTwin vcPf_rDyTwin
end Go.Vc

namespace Go.Vc
open Classical
def f_rMassTwin (aa:List DV):List DV:=[.a (ai aa 0)]
def t_rMassTwin:ConT:=⟨[rkS massS],[⟨(massS).map Sh.kd,true,true⟩],fun aa=>DShs massS (ai aa 0)∧(gL (ai aa 0) 1).length≤1048576∧(gL (ai aa 0) 4).length≤1048576∧(gL (ai aa 0) 7).length≤1048576∧(gL (ai aa 0) 10).length≤1048576,fun aa rs=>rs=f_rMassTwin aa⟩
theorem fn_rMassTwin:∀ aa,t_rMassTwin.pre aa→∀ rs,t_rMassTwin.post aa rs→rs=f_rMassTwin aa:=fun _ _ _ h=>h
def V_rMassTwin:Prop:=∀ (b0:Bool) (l1:LL) (x2:Int) (b3:Bool) (l4:LL) (x5:Int) (b6:Bool) (l7:LL) (x8:Int) (b9:Bool) (l10:LL) (x11:Int),Ob (DShs massS [db b0,D.fs l1,dn x2,db b3,D.fs l4,dn x5,db b6,D.fs l7,dn x8,db b9,D.fs l10,dn x11]∧List.length l1≤(1048576:Nat)∧List.length l4≤(1048576:Nat)∧List.length l7≤(1048576:Nat)∧List.length l10≤(1048576:Nat))→∀ (R:List DV→Prop),Ob (∀ (res:List DV),res=[DV.a [db b0,D.fs l1,dn x2,db b3,D.fs l4,dn x5,db b6,D.fs l7,dn x8,db b9,D.fs l10,dn x11]]→R res)→Ob (DShs dyS [db b0,D.fs l1,dn x2]∧List.length l1≤(1048576:Nat))∧∀ (b13:Bool) (l14:LL) (x15:Int),Ob ([DV.a [db b13,D.fs l14,dn x15]]=[DV.a [db b0,D.fs l1,dn x2]])→Ob (DShs dyS [db b3,D.fs l4,dn x5]∧List.length l4≤(1048576:Nat))∧∀ (b16:Bool) (l17:LL) (x18:Int),Ob ([DV.a [db b16,D.fs l17,dn x18]]=[DV.a [db b3,D.fs l4,dn x5]])→Ob (DShs dyS [db b6,D.fs l7,dn x8]∧List.length l7≤(1048576:Nat))∧∀ (b19:Bool) (l20:LL) (x21:Int),Ob ([DV.a [db b19,D.fs l20,dn x21]]=[DV.a [db b6,D.fs l7,dn x8]])→Ob (DShs dyS [db b9,D.fs l10,dn x11]∧List.length l10≤(1048576:Nat))∧∀ (b22:Bool) (l23:LL) (x24:Int),Ob ([DV.a [db b22,D.fs l23,dn x24]]=[DV.a [db b9,D.fs l10,dn x11]])→Ob (R [DV.a [db b13,D.fs l14,dn x15,db b16,D.fs l17,dn x18,db b19,D.fs l20,dn x21,db b22,D.fs l23,dn x24]])
set_option maxRecDepth 100000 in
theorem vcEq_rMassTwin:vcFn Go.Proofs.Tryz.prog k0 (cxf [(225,t_rDyTwin)] [] [] [(225,f_rDyTwin)]) 3000 141 Go.Proofs.Tryz.f141 (bodyOf Go.Proofs.Tryz.f141) t_rMassTwin=V_rMassTwin:=by kernel_rfl
set_option maxHeartbeats 4000000 in
set_option maxRecDepth 20000 in
theorem vcPf_rMassTwin:V_rMassTwin:=by
  delta V_rMassTwin
  simp only [ob_iff,and_imp,forall_exists_index,List.cons_append,List.nil_append,dshs_cons,dshs_nil,dsh_int,dsh_bool,dsh_sl,rng64,rng32,true_and,and_true,List.cons.injEq,DV.c.injEq,DV.a.injEq,D.raw.injEq,D.fs.injEq,Value.bool.injEq,Value.int.injEq]
  repeat' first | assumption | exact DShs.tail (DSh_nth (by assumption) (by assumption)) | exact shp32 (by assumption) | exact shp64 (by assumption) | exact shp2 (by assumption) | exact shpF (by assumption) | with_reducible intro _ | with_reducible apply And.intro
  all_goals (try subst_vars)
  all_goals (try simp (disch:=omega) only [w64_id,wu64,Int.sub_zero,Int.zero_add,List.length_set] at *)
  all_goals first
    | trivial
    | assumption
    | omega
    | (simp only [List.length_nil,Nat.add_zero] at *;omega)
    | (have hR:=‹∀ res:List DV,_=_→_›;refine hR _ ?_;simp;done)
    | exact LS.shp (by assumption)
    | exact LS.rect (by assumption)
    | grind
theorem con_rMassTwin:Con Go.Proofs.Tryz.prog k0 141 t_rMassTwin :=
  con_of (cxf_ok mixOk (fun p hp=>by
    simp only [List.mem_cons,List.not_mem_nil,or_false] at hp
    subst hp
    exact con_rDyTwin) (fun p hp=>by
    simp only [List.mem_cons,List.not_mem_nil,or_false] at hp
    subst hp
    · intro t ht;cases ht;exact fn_rDyTwin)) Go.Proofs.Tryz.func141 rfl rfl rfl rfl vcEq_rMassTwin vcPf_rMassTwin
end Go.Vc

namespace Go.Vc
open Classical
def f_rPartTwin (aa:List DV):List DV:=[.a (ai aa 0)]
def t_rPartTwin:ConT:=⟨[rkS partS],[⟨(partS).map Sh.kd,true,true⟩],fun aa=>DShs partS (ai aa 0)∧(gL (ai aa 0) 1).length≤1048576∧(gL (ai aa 0) 4).length≤1048576∧(gL (ai aa 0) 7).length≤1048576∧(gL (ai aa 0) 10).length≤1048576∧(gL (ai aa 0) 15).length≤1048576,fun aa rs=>rs=f_rPartTwin aa⟩
theorem fn_rPartTwin:∀ aa,t_rPartTwin.pre aa→∀ rs,t_rPartTwin.post aa rs→rs=f_rPartTwin aa:=fun _ _ _ h=>h
def V_rPartTwin:Prop:=∀ (b0:Bool) (l1:LL) (x2:Int) (b3:Bool) (l4:LL) (x5:Int) (b6:Bool) (l7:LL) (x8:Int) (b9:Bool) (l10:LL) (x11:Int) (b12:Bool) (x13 x14:Int) (l15:LL),Ob (DShs partS [db b0,D.fs l1,dn x2,db b3,D.fs l4,dn x5,db b6,D.fs l7,dn x8,db b9,D.fs l10,dn x11,db b12,dn x13,dn x14,D.fs l15]∧List.length l1≤(1048576:Nat)∧List.length l4≤(1048576:Nat)∧List.length l7≤(1048576:Nat)∧List.length l10≤(1048576:Nat)∧List.length l15≤(1048576:Nat))→∀ (R:List DV→Prop),Ob (∀ (res:List DV),res=[DV.a [db b0,D.fs l1,dn x2,db b3,D.fs l4,dn x5,db b6,D.fs l7,dn x8,db b9,D.fs l10,dn x11,db b12,dn x13,dn x14,D.fs l15]]→R res)→Ob (DShs massS [db b0,D.fs l1,dn x2,db b3,D.fs l4,dn x5,db b6,D.fs l7,dn x8,db b9,D.fs l10,dn x11]∧List.length l1≤(1048576:Nat)∧List.length l4≤(1048576:Nat)∧List.length l7≤(1048576:Nat)∧List.length l10≤(1048576:Nat))∧∀ (b17:Bool) (l18:LL) (x19:Int) (b20:Bool) (l21:LL) (x22:Int) (b23:Bool) (l24:LL) (x25:Int) (b26:Bool) (l27:LL) (x28:Int),Ob ([DV.a [db b17,D.fs l18,dn x19,db b20,D.fs l21,dn x22,db b23,D.fs l24,dn x25,db b26,D.fs l27,dn x28]]=[DV.a [db b0,D.fs l1,dn x2,db b3,D.fs l4,dn x5,db b6,D.fs l7,dn x8,db b9,D.fs l10,dn x11]])→Ob (Shp [Kd.int IntKind.u32] l15∧List.length ([]:LL)+List.length l15≤(1048576:Nat))∧∀ (l29:LL),l29=[]++l15→Ob (R [DV.a [db b17,D.fs l18,dn x19,db b20,D.fs l21,dn x22,db b23,D.fs l24,dn x25,db b26,D.fs l27,dn x28,db b12,dn x13,dn x14,D.fs l29]])
set_option maxRecDepth 100000 in
theorem vcEq_rPartTwin:vcFn Go.Proofs.Tryz.prog k0 (cxf [(141,t_rMassTwin)] [] [] [(141,f_rMassTwin)]) 3000 115 Go.Proofs.Tryz.f115 (bodyOf Go.Proofs.Tryz.f115) t_rPartTwin=V_rPartTwin:=by kernel_rfl
set_option maxHeartbeats 4000000 in
set_option maxRecDepth 20000 in
theorem vcPf_rPartTwin:V_rPartTwin:=by
  delta V_rPartTwin
  simp only [ob_iff,and_imp,forall_exists_index,List.cons_append,List.nil_append,dshs_cons,dshs_nil,dsh_int,dsh_bool,dsh_sl,rng64,rng32,true_and,and_true,List.cons.injEq,DV.c.injEq,DV.a.injEq,D.raw.injEq,D.fs.injEq,Value.bool.injEq,Value.int.injEq]
  repeat' first | assumption | exact DShs.tail (DSh_nth (by assumption) (by assumption)) | exact shp32 (by assumption) | exact shp64 (by assumption) | exact shp2 (by assumption) | exact shpF (by assumption) | with_reducible intro _ | with_reducible apply And.intro
  all_goals (try subst_vars)
  all_goals (try simp (disch:=omega) only [w64_id,wu64,Int.sub_zero,Int.zero_add,List.length_set] at *)
  all_goals first
    | trivial
    | assumption
    | omega
    | (simp only [List.length_nil,Nat.add_zero] at *;omega)
    | (have hR:=‹∀ res:List DV,_=_→_›;refine hR _ ?_;simp;done)
    | exact LS.shp (by assumption)
    | exact LS.rect (by assumption)
    | grind
theorem con_rPartTwin:Con Go.Proofs.Tryz.prog k0 115 t_rPartTwin :=
  con_of (cxf_ok mixOk (fun p hp=>by
    simp only [List.mem_cons,List.not_mem_nil,or_false] at hp
    subst hp
    exact con_rMassTwin) (fun p hp=>by
    simp only [List.mem_cons,List.not_mem_nil,or_false] at hp
    subst hp
    · intro t ht;cases ht;exact fn_rMassTwin)) Go.Proofs.Tryz.func115 rfl rfl rfl rfl vcEq_rPartTwin vcPf_rPartTwin
end Go.Vc

namespace Go.Vc
open Classical
def f_rCacheTwin (aa:List DV):List DV:=[.a (ai aa 0)]
def t_rCacheTwin:ConT:=⟨[rkS cacheS],[⟨(cacheS).map Sh.kd,true,true⟩],fun aa=>DShs cacheS (ai aa 0)∧(gL (ai aa 0) 2).length≤1048576,fun aa rs=>rs=f_rCacheTwin aa⟩
theorem fn_rCacheTwin:∀ aa,t_rCacheTwin.pre aa→∀ rs,t_rCacheTwin.post aa rs→rs=f_rCacheTwin aa:=fun _ _ _ h=>h
def V_rCacheTwin:Prop:=∀ (x0 x1:Int) (l2:LL),Ob (DShs cacheS [dn x0,dn x1,D.fs l2]∧List.length l2≤(1048576:Nat))→∀ (R:List DV→Prop),Ob (∀ (res:List DV),res=[DV.a [dn x0,dn x1,D.fs l2]]→R res)→Ob (Shp [Kd.int IntKind.i64,Kd.int IntKind.i64] l2∧List.length ([]:LL)+List.length l2≤(1048576:Nat))∧∀ (l4:LL),l4=[]++l2→Ob (R [DV.a [dn x0,dn x1,D.fs l4]])
set_option maxRecDepth 100000 in
theorem vcEq_rCacheTwin:vcFn Go.Proofs.Tryz.prog k0 (cxf [] [] [] []) 3000 116 Go.Proofs.Tryz.f116 (bodyOf Go.Proofs.Tryz.f116) t_rCacheTwin=V_rCacheTwin:=by kernel_rfl
set_option maxHeartbeats 4000000 in
set_option maxRecDepth 20000 in
theorem vcPf_rCacheTwin:V_rCacheTwin:=by
  delta V_rCacheTwin
  simp only [ob_iff,and_imp,forall_exists_index,List.cons_append,List.nil_append,dshs_cons,dshs_nil,dsh_int,dsh_bool,dsh_sl,rng64,rng32,true_and,and_true,List.cons.injEq,DV.c.injEq,DV.a.injEq,D.raw.injEq,D.fs.injEq,Value.bool.injEq,Value.int.injEq]
  repeat' first | assumption | exact DShs.tail (DSh_nth (by assumption) (by assumption)) | exact shp32 (by assumption) | exact shp64 (by assumption) | exact shp2 (by assumption) | exact shpF (by assumption) | with_reducible intro _ | with_reducible apply And.intro
  all_goals (try subst_vars)
  all_goals (try simp (disch:=omega) only [w64_id,wu64,Int.sub_zero,Int.zero_add,List.length_set] at *)
  all_goals first
    | trivial
    | assumption
    | omega
    | (simp only [List.length_nil,Nat.add_zero] at *;omega)
    | (have hR:=‹∀ res:List DV,_=_→_›;refine hR _ ?_;simp;done)
    | exact LS.shp (by assumption)
    | exact LS.rect (by assumption)
    | grind
theorem con_rCacheTwin:Con Go.Proofs.Tryz.prog k0 116 t_rCacheTwin :=
  con_of (cxf_ok mixOk (fun p hp=>by cases hp) (fun p hp=>by cases hp)) Go.Proofs.Tryz.func116 rfl rfl rfl rfl vcEq_rCacheTwin vcPf_rCacheTwin
end Go.Vc

namespace Go.Vc
open Classical
def f_rPastTwin (aa:List DV):List DV:=[vl (li aa 0)]
def t_rPastTwin:ConT:=⟨[kl],[kl],fun aa=>LSh frozS (li aa 0)∧limF (li aa 0),fun aa rs=>rs=f_rPastTwin aa⟩
theorem fn_rPastTwin:∀ aa,t_rPastTwin.pre aa→∀ rs,t_rPastTwin.post aa rs→rs=f_rPastTwin aa:=fun _ _ _ h=>h
def V_rPastTwin:Prop:=∀ (l0:LL),Ob (LSh frozS l0∧limF l0)→∀ (R:List DV→Prop),Ob (∀ (res:List DV),res=[vl l0]→R res)→Ob ((0:Int)≤(0:Int)∧(0:Int)≤(↑(List.length l0):Int)∧[]=List.take (Int.toNat (0:Int)) l0)∧∀ (g2:Nat→Value) (x3:Int) (l4:LL),Ob ((0:Int)≤x3∧x3≤(↑(List.length l0):Int)∧l4=List.take (Int.toNat x3) l0)→∀ (x5:Int),x5=(↑(List.length l0):Int)→(x3<x5→Ob ((0:Int)≤x3∧x3<(↑(List.length l0):Int))∧Ob (Shp [Kd.int IntKind.i64,Kd.bool,Kd.sl,Kd.int IntKind.i64,Kd.bool,Kd.sl,Kd.int IntKind.i64,Kd.bool,Kd.sl,Kd.int IntKind.i64,Kd.bool,Kd.sl,Kd.int IntKind.i64,Kd.bool,Kd.int IntKind.i64,Kd.int IntKind.i64,Kd.sl] l0)∧∀ (x6:Int) (b7:Bool) (l8:LL) (x9:Int) (b10:Bool) (l11:LL) (x12:Int) (b13:Bool) (l14:LL) (x15:Int) (b16:Bool) (l17:LL) (x18:Int) (b19:Bool) (x20 x21:Int) (l22:LL),Ob (l0[Int.toNat x3]?=some [dn x6,db b7,D.fs l8,dn x9,db b10,D.fs l11,dn x12,db b13,D.fs l14,dn x15,db b16,D.fs l17,dn x18,db b19,dn x20,dn x21,D.fs l22])→Ob ((0:Int)≤x3∧x3<(↑(List.length l0):Int))∧Ob (Shp [Kd.int IntKind.i64,Kd.bool,Kd.sl,Kd.int IntKind.i64,Kd.bool,Kd.sl,Kd.int IntKind.i64,Kd.bool,Kd.sl,Kd.int IntKind.i64,Kd.bool,Kd.sl,Kd.int IntKind.i64,Kd.bool,Kd.int IntKind.i64,Kd.int IntKind.i64,Kd.sl] l0)∧∀ (x23:Int) (b24:Bool) (l25:LL) (x26:Int) (b27:Bool) (l28:LL) (x29:Int) (b30:Bool) (l31:LL) (x32:Int) (b33:Bool) (l34:LL) (x35:Int) (b36:Bool) (x37 x38:Int) (l39:LL),Ob (l0[Int.toNat x3]?=some [dn x23,db b24,D.fs l25,dn x26,db b27,D.fs l28,dn x29,db b30,D.fs l31,dn x32,db b33,D.fs l34,dn x35,db b36,dn x37,dn x38,D.fs l39])→Ob (DShs partS [db b24,D.fs l25,dn x26,db b27,D.fs l28,dn x29,db b30,D.fs l31,dn x32,db b33,D.fs l34,dn x35,db b36,dn x37,dn x38,D.fs l39]∧List.length l25≤(1048576:Nat)∧List.length l28≤(1048576:Nat)∧List.length l31≤(1048576:Nat)∧List.length l34≤(1048576:Nat)∧List.length l39≤(1048576:Nat))∧Ob (List.length l4+List.length [[dn x6,db b24,D.fs l25,dn x26,db b27,D.fs l28,dn x29,db b30,D.fs l31,dn x32,db b33,D.fs l34,dn x35,db b36,dn x37,dn x38,D.fs l39]]≤(1048576:Nat))∧∀ (l40:LL),l40=l4++[[dn x6,db b24,D.fs l25,dn x26,db b27,D.fs l28,dn x29,db b30,D.fs l31,dn x32,db b33,D.fs l34,dn x35,db b36,dn x37,dn x38,D.fs l39]]→∀ (x41:Int),x41=w64 (x3+(1:Int))→Ob ((0:Int)≤x41∧x41≤(↑(List.length l0):Int)∧l40=List.take (Int.toNat x41) l0)∧Ob (List.length l0-Int.toNat x41<List.length l0-Int.toNat x3))∧(¬x3<x5→Ob (R [vl l4]))
set_option maxRecDepth 100000 in
theorem vcEq_rPastTwin:vcFn Go.Proofs.Tryz.prog k0 (cxf [(115,t_rPartTwin)] [(117000,0,some ⟨[0],[4],[],[kn],[⟨3,79,17,true, .tmp⟩],fun ρ ds=>0≤ni ds 0∧ni ds 0≤(ρ.d 0).length∧li ds 1=(ρ.d 0).take (ni ds 0).toNat,fun ρ ds=>(ρ.d 0).length-(ni ds 0).toNat,none⟩)] [] [(115,f_rPartTwin)]) 3000 117 Go.Proofs.Tryz.f117 (bodyOf Go.Proofs.Tryz.f117) t_rPastTwin=V_rPastTwin:=by kernel_rfl
set_option maxHeartbeats 4000000 in
set_option maxRecDepth 20000 in
theorem vcPf_rPastTwin:V_rPastTwin:=by
  delta V_rPastTwin
  simp only [ob_iff,and_imp,true_and,and_true,List.cons.injEq,DV.c.injEq,DV.a.injEq,D.raw.injEq,D.fs.injEq,Value.bool.injEq,Value.int.injEq]
  intro l0 hl hs hL R hR
  repeat' first | assumption | exact DShs.tail (DSh_nth (by assumption) (by assumption)) | exact shp32 (by assumption) | exact shp64 (by assumption) | exact shp2 (by assumption) | exact shpF (by assumption) | with_reducible intro _ | with_reducible apply And.intro
  all_goals (try (have e:=w64_succ ‹_=w64 (_+1)› (by omega) (by omega);subst e))
  all_goals (try (have hq:=limF.at (by assumption) (by assumption);obtain ⟨q1,q2,q3,q4,q5⟩:=hq))
  all_goals first
    | assumption
    | omega
    | exact DShs.tail (DSh_nth (by assumption) (by assumption))
    | exact shpF (by assumption)
    | (refine hR _ ?_;subst_vars;rw [List.take_of_length_le (by omega)];done)
    | rfl
    | (rw [take_succ (by omega) (by assumption)];grind)
    | (have hl1:=hL.1;subst_vars;simp only [List.length_take,List.length_append,List.length_cons,List.length_nil] at *;omega)
    | skip
theorem con_rPastTwin:Con Go.Proofs.Tryz.prog k0 117 t_rPastTwin :=
  con_of (cxf_ok mixOk (fun p hp=>by
    simp only [List.mem_cons,List.not_mem_nil,or_false] at hp
    subst hp
    exact con_rPartTwin) (fun p hp=>by
    simp only [List.mem_cons,List.not_mem_nil,or_false] at hp
    subst hp
    · intro t ht;cases ht;exact fn_rPartTwin)) Go.Proofs.Tryz.func117 rfl rfl rfl rfl vcEq_rPastTwin vcPf_rPastTwin
end Go.Vc

namespace Go.Vc
open Classical
def f_rNodeTwin (aa:List DV):List DV:=[.a (ai aa 0)]
def t_rNodeTwin:ConT:=⟨[rkS nodeS],[rkS nodeS],fun aa=>DShs nodeS (ai aa 0)∧limN (ai aa 0),fun aa rs=>rs=f_rNodeTwin aa⟩
theorem fn_rNodeTwin:∀ aa,t_rNodeTwin.pre aa→∀ rs,t_rNodeTwin.post aa rs→rs=f_rNodeTwin aa:=fun _ _ _ h=>h
def V_rNodeTwin:Prop:=∀ (x0 x1:Int) (b2:Bool) (x3 x4 x5 x6 x7:Int) (b8:Bool) (l9:LL) (x10:Int) (b11:Bool) (l12:LL) (x13:Int) (b14:Bool) (l15:LL) (x16:Int) (b17:Bool) (l18:LL) (x19:Int) (b20:Bool) (x21 x22:Int) (l23:LL) (b24:Bool) (x25 x26:Int) (l27:LL) (x28 x29:Int) (l30 l31 l32:LL),Ob (DShs nodeS [dn x0,dn x1,db b2,dn x3,dn x4,dn x5,dn x6,dn x7,db b8,D.fs l9,dn x10,db b11,D.fs l12,dn x13,db b14,D.fs l15,dn x16,db b17,D.fs l18,dn x19,db b20,dn x21,dn x22,D.fs l23,db b24,dn x25,dn x26,D.fs l27,dn x28,dn x29,D.fs l30,D.fs l31,D.fs l32]∧limN [dn x0,dn x1,db b2,dn x3,dn x4,dn x5,dn x6,dn x7,db b8,D.fs l9,dn x10,db b11,D.fs l12,dn x13,db b14,D.fs l15,dn x16,db b17,D.fs l18,dn x19,db b20,dn x21,dn x22,D.fs l23,db b24,dn x25,dn x26,D.fs l27,dn x28,dn x29,D.fs l30,D.fs l31,D.fs l32])→∀ (R:List DV→Prop),Ob (∀ (res:List DV),res=[DV.a [dn x0,dn x1,db b2,dn x3,dn x4,dn x5,dn x6,dn x7,db b8,D.fs l9,dn x10,db b11,D.fs l12,dn x13,db b14,D.fs l15,dn x16,db b17,D.fs l18,dn x19,db b20,dn x21,dn x22,D.fs l23,db b24,dn x25,dn x26,D.fs l27,dn x28,dn x29,D.fs l30,D.fs l31,D.fs l32]]→R res)→Ob (DShs partS [db b8,D.fs l9,dn x10,db b11,D.fs l12,dn x13,db b14,D.fs l15,dn x16,db b17,D.fs l18,dn x19,db b20,dn x21,dn x22,D.fs l23]∧List.length l9≤(1048576:Nat)∧List.length l12≤(1048576:Nat)∧List.length l15≤(1048576:Nat)∧List.length l18≤(1048576:Nat)∧List.length l23≤(1048576:Nat))∧∀ (b34:Bool) (l35:LL) (x36:Int) (b37:Bool) (l38:LL) (x39:Int) (b40:Bool) (l41:LL) (x42:Int) (b43:Bool) (l44:LL) (x45:Int) (b46:Bool) (x47 x48:Int) (l49:LL),Ob ([DV.a [db b34,D.fs l35,dn x36,db b37,D.fs l38,dn x39,db b40,D.fs l41,dn x42,db b43,D.fs l44,dn x45,db b46,dn x47,dn x48,D.fs l49]]=[DV.a [db b8,D.fs l9,dn x10,db b11,D.fs l12,dn x13,db b14,D.fs l15,dn x16,db b17,D.fs l18,dn x19,db b20,dn x21,dn x22,D.fs l23]])→Ob (Shp [Kd.int IntKind.i64] l27∧List.length ([]:LL)+List.length l27≤(1048576:Nat))∧∀ (l50:LL),l50=[]++l27→Ob (DShs cacheS [dn x28,dn x29,D.fs l30]∧List.length l30≤(1048576:Nat))∧∀ (x51 x52:Int) (l53:LL),Ob ([DV.a [dn x51,dn x52,D.fs l53]]=[DV.a [dn x28,dn x29,D.fs l30]])→Ob (LSh frozS l31∧limF l31)∧∀ (l54:LL),Ob ([vl l54]=[vl l31])→Ob (Shp [Kd.int IntKind.i64,Kd.int IntKind.i64] l32∧List.length ([]:LL)+List.length l32≤(1048576:Nat))∧∀ (l55:LL),l55=[]++l32→Ob (R [DV.a [dn x0,dn x1,db b2,dn x3,dn x4,dn x5,dn x6,dn x7,db b34,D.fs l35,dn x36,db b37,D.fs l38,dn x39,db b40,D.fs l41,dn x42,db b43,D.fs l44,dn x45,db b46,dn x47,dn x48,D.fs l49,db b24,dn x25,dn x26,D.fs l50,dn x51,dn x52,D.fs l53,D.fs l54,D.fs l55]])
set_option maxRecDepth 100000 in
theorem vcEq_rNodeTwin:vcFn Go.Proofs.Tryz.prog k0 (cxf [(115,t_rPartTwin),(116,t_rCacheTwin),(117,t_rPastTwin)] [] [] [(115,f_rPartTwin),(116,f_rCacheTwin),(117,f_rPastTwin)]) 3000 31 Go.Proofs.Tryz.f31 (bodyOf Go.Proofs.Tryz.f31) t_rNodeTwin=V_rNodeTwin:=by kernel_rfl
set_option maxHeartbeats 4000000 in
set_option maxRecDepth 20000 in
theorem vcPf_rNodeTwin:V_rNodeTwin:=by
  delta V_rNodeTwin
  simp only [ob_iff,and_imp,forall_exists_index,true_and,and_true,List.cons.injEq,DV.c.injEq,DV.a.injEq,D.raw.injEq,D.fs.injEq,Value.bool.injEq,Value.int.injEq]
  intro x0 x1 b2 x3 x4 x5 x6 x7 b8 l9 x10 b11 l12 x13 b14 l15 x16 b17 l18 x19 b20 x21 x22 l23 b24 x25 x26 l27 x28 x29 l30 l31 l32 hs hL R hR
  obtain ⟨h1,h2,h3,h4,h5,h6⟩:=node_sh hs
  obtain ⟨⟨q1,q2,q3,q4,q5⟩,q6,q7,q8,q9⟩:=hL.of
  repeat' first | assumption | exact DShs.tail (DSh_nth (by assumption) (by assumption)) | exact shp32 (by assumption) | exact shp64 (by assumption) | exact shp2 (by assumption) | exact shpF (by assumption) | with_reducible intro _ | with_reducible apply And.intro
  all_goals first
    | assumption
    | omega
    | exact h5.1
    | exact h5.2
    | exact h3.1
    | exact h3.2
    | exact h6.1
    | exact h6.2
    | exact LS.shp h3.2
    | exact LS.shp h6.2
    | exact LS.rect (by assumption)
    | exact LS.rect h3.2
    | exact LS.rect h6.2
    | (simp only [List.length_nil,Nat.add_zero] at *;omega)
    | (refine hR _ ?_;subst_vars;simp;done)
    | skip
theorem con_rNodeTwin:Con Go.Proofs.Tryz.prog k0 31 t_rNodeTwin :=
  con_of (cxf_ok mixOk (fun p hp=>by
    simp only [List.mem_cons,List.not_mem_nil,or_false] at hp
    rcases hp with rfl | rfl | rfl
    · exact con_rPartTwin
    · exact con_rCacheTwin
    · exact con_rPastTwin) (fun p hp=>by
    simp only [List.mem_cons,List.not_mem_nil,or_false] at hp
    rcases hp with rfl | rfl | rfl
    · intro t ht;cases ht;exact fn_rPartTwin
    · intro t ht;cases ht;exact fn_rCacheTwin
    · intro t ht;cases ht;exact fn_rPastTwin)) Go.Proofs.Tryz.func31 rfl rfl rfl rfl vcEq_rNodeTwin vcPf_rNodeTwin
end Go.Vc

namespace Go.Vc
open Classical
def f_rWorldTwin (aa:List DV):List DV:=[.a (ai aa 0)]
def t_rWorldTwin:ConT:=⟨[rkS worldS0],[rkS worldS0],fun aa=>DShs worldS0 (ai aa 0)∧wLim (ai aa 0),fun aa rs=>rs=f_rWorldTwin aa⟩
theorem fn_rWorldTwin:∀ aa,t_rWorldTwin.pre aa→∀ rs,t_rWorldTwin.post aa rs→rs=f_rWorldTwin aa:=fun _ _ _ h=>h
def V_rWorldTwin:Prop:=∀ (x0 x1 x2 x3:Int) (l4 l5 l6 l7 l8:LL) (x9:Int),Ob (DShs worldS0 [dn x0,dn x1,dn x2,dn x3,D.fs l4,D.fs l5,D.fs l6,D.fs l7,D.fs l8,dn x9]∧wLim [dn x0,dn x1,dn x2,dn x3,D.fs l4,D.fs l5,D.fs l6,D.fs l7,D.fs l8,dn x9])→∀ (R:List DV→Prop),Ob (∀ (res:List DV),res=[DV.a [dn x0,dn x1,dn x2,dn x3,D.fs l4,D.fs l5,D.fs l6,D.fs l7,D.fs l8,dn x9]]→R res)→Ob ((0:Int)≤(0:Int)∧(0:Int)≤(↑(List.length l4):Int)∧[]=List.take (Int.toNat (0:Int)) l4)∧∀ (g11:Nat→Value) (x12:Int) (l13:LL),Ob ((0:Int)≤x12∧x12≤(↑(List.length l4):Int)∧l13=List.take (Int.toNat x12) l4)→∀ (x14:Int),x14=(↑(List.length l4):Int)→(x12<x14→Ob ((0:Int)≤x12∧x12<(↑(List.length l4):Int))∧Ob (Shp [Kd.int IntKind.i64,Kd.int IntKind.i64,Kd.bool,Kd.int IntKind.i64,Kd.int IntKind.i64,Kd.int IntKind.i64,Kd.int IntKind.i64,Kd.int IntKind.i64,Kd.bool,Kd.sl,Kd.int IntKind.i64,Kd.bool,Kd.sl,Kd.int IntKind.i64,Kd.bool,Kd.sl,Kd.int IntKind.i64,Kd.bool,Kd.sl,Kd.int IntKind.i64,Kd.bool,Kd.int IntKind.i64,Kd.int IntKind.i64,Kd.sl,Kd.bool,Kd.int IntKind.i64,Kd.int IntKind.i64,Kd.sl,Kd.int IntKind.i64,Kd.int IntKind.i64,Kd.sl,Kd.sl,Kd.sl] l4)∧∀ (x15 x16:Int) (b17:Bool) (x18 x19 x20 x21 x22:Int) (b23:Bool) (l24:LL) (x25:Int) (b26:Bool) (l27:LL) (x28:Int) (b29:Bool) (l30:LL) (x31:Int) (b32:Bool) (l33:LL) (x34:Int) (b35:Bool) (x36 x37:Int) (l38:LL) (b39:Bool) (x40 x41:Int) (l42:LL) (x43 x44:Int) (l45 l46 l47:LL),Ob (l4[Int.toNat x12]?=some [dn x15,dn x16,db b17,dn x18,dn x19,dn x20,dn x21,dn x22,db b23,D.fs l24,dn x25,db b26,D.fs l27,dn x28,db b29,D.fs l30,dn x31,db b32,D.fs l33,dn x34,db b35,dn x36,dn x37,D.fs l38,db b39,dn x40,dn x41,D.fs l42,dn x43,dn x44,D.fs l45,D.fs l46,D.fs l47])→Ob (DShs nodeS [dn x15,dn x16,db b17,dn x18,dn x19,dn x20,dn x21,dn x22,db b23,D.fs l24,dn x25,db b26,D.fs l27,dn x28,db b29,D.fs l30,dn x31,db b32,D.fs l33,dn x34,db b35,dn x36,dn x37,D.fs l38,db b39,dn x40,dn x41,D.fs l42,dn x43,dn x44,D.fs l45,D.fs l46,D.fs l47]∧limN [dn x15,dn x16,db b17,dn x18,dn x19,dn x20,dn x21,dn x22,db b23,D.fs l24,dn x25,db b26,D.fs l27,dn x28,db b29,D.fs l30,dn x31,db b32,D.fs l33,dn x34,db b35,dn x36,dn x37,D.fs l38,db b39,dn x40,dn x41,D.fs l42,dn x43,dn x44,D.fs l45,D.fs l46,D.fs l47])∧∀ (x48 x49:Int) (b50:Bool) (x51 x52 x53 x54 x55:Int) (b56:Bool) (l57:LL) (x58:Int) (b59:Bool) (l60:LL) (x61:Int) (b62:Bool) (l63:LL) (x64:Int) (b65:Bool) (l66:LL) (x67:Int) (b68:Bool) (x69 x70:Int) (l71:LL) (b72:Bool) (x73 x74:Int) (l75:LL) (x76 x77:Int) (l78 l79 l80:LL),Ob ([DV.a [dn x48,dn x49,db b50,dn x51,dn x52,dn x53,dn x54,dn x55,db b56,D.fs l57,dn x58,db b59,D.fs l60,dn x61,db b62,D.fs l63,dn x64,db b65,D.fs l66,dn x67,db b68,dn x69,dn x70,D.fs l71,db b72,dn x73,dn x74,D.fs l75,dn x76,dn x77,D.fs l78,D.fs l79,D.fs l80]]=[DV.a [dn x15,dn x16,db b17,dn x18,dn x19,dn x20,dn x21,dn x22,db b23,D.fs l24,dn x25,db b26,D.fs l27,dn x28,db b29,D.fs l30,dn x31,db b32,D.fs l33,dn x34,db b35,dn x36,dn x37,D.fs l38,db b39,dn x40,dn x41,D.fs l42,dn x43,dn x44,D.fs l45,D.fs l46,D.fs l47]])→Ob (List.length l13+List.length [[dn x48,dn x49,db b50,dn x51,dn x52,dn x53,dn x54,dn x55,db b56,D.fs l57,dn x58,db b59,D.fs l60,dn x61,db b62,D.fs l63,dn x64,db b65,D.fs l66,dn x67,db b68,dn x69,dn x70,D.fs l71,db b72,dn x73,dn x74,D.fs l75,dn x76,dn x77,D.fs l78,D.fs l79,D.fs l80]]≤(1048576:Nat))∧∀ (l81:LL),l81=l13++[[dn x48,dn x49,db b50,dn x51,dn x52,dn x53,dn x54,dn x55,db b56,D.fs l57,dn x58,db b59,D.fs l60,dn x61,db b62,D.fs l63,dn x64,db b65,D.fs l66,dn x67,db b68,dn x69,dn x70,D.fs l71,db b72,dn x73,dn x74,D.fs l75,dn x76,dn x77,D.fs l78,D.fs l79,D.fs l80]]→∀ (x82:Int),x82=w64 (x12+(1:Int))→Ob ((0:Int)≤x82∧x82≤(↑(List.length l4):Int)∧l81=List.take (Int.toNat x82) l4)∧Ob (List.length l4-Int.toNat x82<List.length l4-Int.toNat x12))∧(¬x12<x14→∀ (x83:Int),x83=(↑(List.length l5):Int)→Ob ¬(0:Int)<x83∧∀ (x84:Int),x84=(↑(List.length l6):Int)→Ob ¬(0:Int)<x84∧∀ (x85:Int),x85=(↑(List.length l7):Int)→Ob ¬(0:Int)<x85∧Ob (Shp [Kd.int IntKind.i64,Kd.int IntKind.i64,Kd.int IntKind.i64] l8∧List.length ([]:LL)+List.length l8≤(1048576:Nat))∧∀ (l86:LL),l86=[]++l8→Ob (R [DV.a [dn x0,dn x1,dn x2,dn x3,D.fs l13,D.fs [],D.fs [],D.fs [],D.fs l86,dn x9]]))
set_option maxRecDepth 100000 in
theorem vcEq_rWorldTwin:vcFn Go.Proofs.Tryz.prog k0 (cxf [(31,t_rNodeTwin)] [(11000,0,some ⟨[1,2],[4],[],[kn],[⟨3,71,33,false, .tmp⟩],fun ρ ds=>0≤ni ds 0∧ni ds 0≤(ρ.d 4).length∧li ds 1=(ρ.d 4).take (ni ds 0).toNat,fun ρ ds=>(ρ.d 4).length-(ni ds 0).toNat,none⟩),(11000082026,0,none),(11000083030,0,none),(11000084034,0,none)] [(11000082026,10,false),(11000083030,10,false),(11000084034,10,false)] [(31,f_rNodeTwin)]) 3000 11 Go.Proofs.Tryz.f11 (bodyOf Go.Proofs.Tryz.f11) t_rWorldTwin=V_rWorldTwin:=by kernel_rfl
set_option maxHeartbeats 4000000 in
set_option maxRecDepth 20000 in
theorem vcPf_rWorldTwin:V_rWorldTwin:=by
  delta V_rWorldTwin
  simp only [ob_iff,and_imp,forall_exists_index,true_and,and_true,List.cons.injEq,DV.c.injEq,DV.a.injEq,D.raw.injEq,D.fs.injEq,Value.bool.injEq,Value.int.injEq]
  intro x0 x1 x2 x3 l4 l5 l6 l7 l8 x9 hs hL R hR
  obtain ⟨⟨hL1,hL2⟩,hL5,hL6,hL7,hL8⟩:=hL
  simp only [dshs_cons,dshs_nil,dsh_int,dsh_sl,rng64,true_and,and_true] at hs
  obtain ⟨k0,k1,k2,k3,⟨k4,k5⟩,⟨k6,k7⟩,⟨k8,k9⟩,⟨k10,k11⟩,⟨k12,k13⟩,k14⟩:=hs
  replace hL1:l4.length≤8:=hL1
  replace hL5:l5.length=0:=hL5
  replace hL6:l6.length=0:=hL6
  replace hL7:l7.length=0:=hL7
  replace hL8:l8.length≤20:=hL8
  obtain rfl:=List.length_eq_zero_iff.1 hL5
  obtain rfl:=List.length_eq_zero_iff.1 hL6
  obtain rfl:=List.length_eq_zero_iff.1 hL7
  repeat' first | assumption | exact DShs.tail (DSh_nth (by assumption) (by assumption)) | exact shp32 (by assumption) | exact shp64 (by assumption) | exact shp2 (by assumption) | exact shpF (by assumption) | with_reducible intro _ | with_reducible apply And.intro
  all_goals (try (have e:=w64_succ ‹_=w64 (_+1)› (by omega) (by omega);subst e))
  all_goals first
    | assumption
    | omega
    | exact shpN (by assumption)
    | exact shpS (by assumption)
    | exact LS.rect (by assumption)
    | exact DSh_nth (by assumption) (by assumption)
    | exact hL2 _ (List.mem_of_getElem? (by assumption))
    | rfl
    | (simp only [List.length_nil,Nat.add_zero] at *;omega)
    | (refine hR _ ?_;subst_vars;rw [List.take_of_length_le (by omega)];done)
    | (refine hR _ ?_;subst_vars;simp only [List.nil_append];rw [List.take_of_length_le (by omega)];done)
    | (rw [take_succ (by omega) (by assumption)];grind)
    | (subst_vars;simp only [List.length_take,List.length_append,List.length_cons,List.length_nil] at *;omega)
    | skip
theorem con_rWorldTwin:Con Go.Proofs.Tryz.prog k0 11 t_rWorldTwin :=
  con_of (cxf_ok mixOk (fun p hp=>by
    simp only [List.mem_cons,List.not_mem_nil,or_false] at hp
    subst hp
    exact con_rNodeTwin) (fun p hp=>by
    simp only [List.mem_cons,List.not_mem_nil,or_false] at hp
    subst hp
    · intro t ht;cases ht;exact fn_rNodeTwin)) Go.Proofs.Tryz.func11 rfl rfl rfl rfl vcEq_rWorldTwin vcPf_rWorldTwin
end Go.Vc

namespace Go.Vc
open Classical
def f_rWorldNew (aa:List DV):List DV:=m_world (gI (ai aa 0) 0) (gI (ai aa 0) 1) (gI (ai aa 0) 2) (gI (ai aa 0) 3) (li aa 1)
def t_rWorldNew:ConT:=⟨[rkS [s64,s64,s64,s64],kl],[rkS worldS0,kn],fun aa=>DShs [s64,s64,s64,s64] (ai aa 0)∧LSh [s64] (li aa 1)∧(li aa 1).length≤20,fun aa rs=>rs=f_rWorldNew aa⟩
theorem fn_rWorldNew:∀ aa,t_rWorldNew.pre aa→∀ rs,t_rWorldNew.post aa rs→rs=f_rWorldNew aa:=fun _ _ _ h=>h
def V_rWorldNew:Prop:=∀ (x0 x1 x2 x3:Int) (l4:LL),Ob (DShs [s64,s64,s64,s64] [dn x0,dn x1,dn x2,dn x3]∧LSh [s64] l4∧List.length l4≤(20:Nat))→∀ (R:List DV→Prop),Ob (∀ (res:List DV),res=m_world x0 x1 x2 x3 l4→R res)→(x0≥(1:Int)→(x0≤(8:Int)→(x1≥(1:Int)→(x1≤(64:Int)→(x2≥(1:Int)→(x2≤(64:Int)→(x3≥(1:Int)→(x3≤(6:Int)→∀ (x6:Int),x6=(↑(List.length l4):Int)→(x6>x0→Ob (R [DV.a [dn (0:Int),dn (0:Int),dn (0:Int),dn (0:Int),D.fs [],D.fs [],D.fs [],D.fs [],D.fs [],dn (0:Int)],vn (2:Int)]))∧(¬x6>x0→Ob ((0:Int)≤(0:Int)∧upto (at_val l4) (0:Int))∧∀ (g7:Nat→Value) (x8:Int),Ob ((0:Int)≤x8∧upto (at_val l4) x8)→∀ (x9:Int),x9=(↑(List.length l4):Int)→(x8<x9→Ob ((0:Int)≤x8∧x8<(↑(List.length l4):Int))∧Ob (Shp [Kd.int IntKind.i64] l4)∧∀ (x10:Int),Ob (l4[Int.toNat x8]?=some [dn x10])→(x10≥(-2147483647:Int)→(x10≤(2147483647:Int)→∀ (x11:Int),x11=w64 (x8+(1:Int))→Ob ((0:Int)≤x11∧upto (at_val l4) x11)∧Ob (List.length l4-Int.toNat x11<List.length l4-Int.toNat x8))∧(¬x10≤(2147483647:Int)→Ob (R [DV.a [dn (0:Int),dn (0:Int),dn (0:Int),dn (0:Int),D.fs [],D.fs [],D.fs [],D.fs [],D.fs [],dn (0:Int)],vn (2:Int)])))∧(¬x10≥(-2147483647:Int)→Ob (R [DV.a [dn (0:Int),dn (0:Int),dn (0:Int),dn (0:Int),D.fs [],D.fs [],D.fs [],D.fs [],D.fs [],dn (0:Int)],vn (2:Int)])))∧(¬x8<x9→Ob ((0:Int)≤(0:Int)∧(0:Int)≤x0∧([]:LL)=[]∧([]:LL)=[])∧∀ (g12:Nat→Value) (x13:Int) (l14 l15:LL),Ob ((0:Int)≤x13∧x13≤x0∧l14=nodesL x1 x3 l4 (↑(List.length l4):Int) x13∧l15=seedsL l4 (min x13 (↑(List.length l4):Int)))→(x13<x0→∀ (x16:Int),x16=(↑(List.length l4):Int)→(x13≥x16→Ob True∧Ob (List.length l14+List.length [[dn x13,dn (0:Int),db false,dn (0:Int),dn (0:Int),dn (0:Int),dn (0:Int),dn (0:Int),db false,D.fs [],dn (0:Int),db false,D.fs [],dn (0:Int),db false,D.fs [],dn (0:Int),db false,D.fs [],dn (0:Int),db false,dn (0:Int),dn (0:Int),D.fs [],db false,dn (0:Int),dn (0:Int),D.fs [],dn (0:Int),dn (0:Int),D.fs [],D.fs [],D.fs []]]≤(1048576:Nat))∧∀ (l17:LL),l17=l14++[[dn x13,dn (0:Int),db false,dn (0:Int),dn (0:Int),dn (0:Int),dn (0:Int),dn (0:Int),db false,D.fs [],dn (0:Int),db false,D.fs [],dn (0:Int),db false,D.fs [],dn (0:Int),db false,D.fs [],dn (0:Int),db false,dn (0:Int),dn (0:Int),D.fs [],db false,dn (0:Int),dn (0:Int),D.fs [],dn (0:Int),dn (0:Int),D.fs [],D.fs [],D.fs []]]→∀ (x18:Int),x18=w64 (x13+(1:Int))→Ob ((0:Int)≤x18∧x18≤x0∧l17=nodesL x1 x3 l4 (↑(List.length l4):Int) x18∧l15=seedsL l4 (min x18 (↑(List.length l4):Int)))∧Ob (Int.toNat (x0-x18)<Int.toNat (x0-x13)))∧(¬x13≥x16→Ob ((0:Int)≤x13∧x13<(↑(List.length l4):Int))∧Ob (Shp [Kd.int IntKind.i64] l4)∧∀ (x19:Int),Ob (l4[Int.toNat x13]?=some [dn x19])→Ob (DShs clockS [dn x1,dn (0:Int),dn (0:Int),dn (0:Int),dn (0:Int)]∧p_new x13 x19 x3 [dn x1,dn (0:Int),dn (0:Int),dn (0:Int),dn (0:Int)])∧∀ (x20:Int),x20=(↑(List.length l4):Int)→Ob ((0:Int)≤x20∧x20≤(1000:Int)∧(0:Int)≤x13)∧Ob (DShs cacheS [dn x13,dn x3,D.fs []]∧LSh pairS (fltD x13 (knownL x20))∧List.length ([]:LL)+List.length (fltD x13 (knownL x20))≤(1000000:Nat)∧(0:Int)≤x3)∧∀ (x21 x22:Int) (l23:LL),Ob ([DV.a [dn x21,dn x22,D.fs l23]]=[DV.a [dn x13,dn x3,D.fs (List.take (Int.toNat x3) (bestL (fltD x13 ([]++fltD x13 (knownL x20)))))]])→(x13=(0:Int)→Ob (inV x19∧((0:Int)≤(0:Int)∧(0:Int)≤(65535:Int))∧(0:Int)≤x13∧x13≤(7:Int))∧∀ (b24:Bool) (l25:LL) (x26:Int) (b27:Bool) (l28:LL) (x29:Int) (b30:Bool) (l31:LL) (x32:Int) (b33:Bool) (l34:LL) (x35:Int) (b36:Bool) (x37 x38:Int) (l39:LL),Ob ([DV.a [db b24,D.fs l25,dn x26,db b27,D.fs l28,dn x29,db b30,D.fs l31,dn x32,db b33,D.fs l34,dn x35,db b36,dn x37,dn x38,D.fs l39]]=[DV.a [db (decide (x19<(0:Int))),D.fs (if x19=(0:Int) then [] else [[d32 (↑(Int.natAbs x19):Int)]]),dn (0:Int),db false,D.fs [[d32 (1:Int)]],dn (0:Int),db false,D.fs [[d32 (1:Int)]],dn (0:Int),db (decide (x19<(0:Int))),D.fs (if x19=(0:Int) then [] else [[d32 (↑(Int.natAbs x19):Int)]]),dn (0:Int),db true,dn x19,dn x19,D.fs (tagsL (0:Int) x13)]])→Ob (List.length l14+List.length [[dn x13,dn x19,db true,dn x1,dn (0:Int),dn (0:Int),dn (0:Int),dn (0:Int),db b24,D.fs l25,dn x26,db b27,D.fs l28,dn x29,db b30,D.fs l31,dn x32,db b33,D.fs l34,dn x35,db b36,dn x37,dn x38,D.fs l39,db false,dn (0:Int),dn (0:Int),D.fs [],dn x21,dn x22,D.fs l23,D.fs [],D.fs []]]≤(1048576:Nat))∧∀ (l40:LL),l40=l14++[[dn x13,dn x19,db true,dn x1,dn (0:Int),dn (0:Int),dn (0:Int),dn (0:Int),db b24,D.fs l25,dn x26,db b27,D.fs l28,dn x29,db b30,D.fs l31,dn x32,db b33,D.fs l34,dn x35,db b36,dn x37,dn x38,D.fs l39,db false,dn (0:Int),dn (0:Int),D.fs [],dn x21,dn x22,D.fs l23,D.fs [],D.fs []]]→Ob ((0:Int)≤x13∧x13<(↑(List.length l4):Int))∧Ob (Shp [Kd.int IntKind.i64] l4)∧∀ (x41:Int),Ob (l4[Int.toNat x13]?=some [dn x41])→Ob (List.length l15+List.length [[dn (0:Int),dn x13,dn x41]]≤(1048576:Nat))∧∀ (l42:LL),l42=l15++[[dn (0:Int),dn x13,dn x41]]→∀ (x43:Int),x43=w64 (x13+(1:Int))→Ob ((0:Int)≤x43∧x43≤x0∧l40=nodesL x1 x3 l4 (↑(List.length l4):Int) x43∧l42=seedsL l4 (min x43 (↑(List.length l4):Int)))∧Ob (Int.toNat (x0-x43)<Int.toNat (x0-x13)))∧(¬x13=(0:Int)→Ob (inV x19∧((0:Int)≤(0:Int)∧(0:Int)≤(65535:Int))∧(0:Int)≤x13∧x13≤(7:Int))∧∀ (b44:Bool) (l45:LL) (x46:Int) (b47:Bool) (l48:LL) (x49:Int) (b50:Bool) (l51:LL) (x52:Int) (b53:Bool) (l54:LL) (x55:Int) (b56:Bool) (x57 x58:Int) (l59:LL),Ob ([DV.a [db b44,D.fs l45,dn x46,db b47,D.fs l48,dn x49,db b50,D.fs l51,dn x52,db b53,D.fs l54,dn x55,db b56,dn x57,dn x58,D.fs l59]]=[DV.a [db (decide (x19<(0:Int))),D.fs (if x19=(0:Int) then [] else [[d32 (↑(Int.natAbs x19):Int)]]),dn (0:Int),db false,D.fs [[d32 (1:Int)]],dn (0:Int),db false,D.fs [],dn (0:Int),db (decide (x19<(0:Int))),D.fs (if x19=(0:Int) then [] else [[d32 (↑(Int.natAbs x19):Int)]]),dn (0:Int),db true,dn x19,dn x19,D.fs (tagsL (0:Int) x13)]])→Ob (List.length l14+List.length [[dn x13,dn x19,db true,dn x1,dn (0:Int),dn (0:Int),dn (0:Int),dn (0:Int),db b44,D.fs l45,dn x46,db b47,D.fs l48,dn x49,db b50,D.fs l51,dn x52,db b53,D.fs l54,dn x55,db b56,dn x57,dn x58,D.fs l59,db false,dn (0:Int),dn (0:Int),D.fs [],dn x21,dn x22,D.fs l23,D.fs [],D.fs []]]≤(1048576:Nat))∧∀ (l60:LL),l60=l14++[[dn x13,dn x19,db true,dn x1,dn (0:Int),dn (0:Int),dn (0:Int),dn (0:Int),db b44,D.fs l45,dn x46,db b47,D.fs l48,dn x49,db b50,D.fs l51,dn x52,db b53,D.fs l54,dn x55,db b56,dn x57,dn x58,D.fs l59,db false,dn (0:Int),dn (0:Int),D.fs [],dn x21,dn x22,D.fs l23,D.fs [],D.fs []]]→Ob ((0:Int)≤x13∧x13<(↑(List.length l4):Int))∧Ob (Shp [Kd.int IntKind.i64] l4)∧∀ (x61:Int),Ob (l4[Int.toNat x13]?=some [dn x61])→Ob (List.length l15+List.length [[dn (0:Int),dn x13,dn x61]]≤(1048576:Nat))∧∀ (l62:LL),l62=l15++[[dn (0:Int),dn x13,dn x61]]→∀ (x63:Int),x63=w64 (x13+(1:Int))→Ob ((0:Int)≤x63∧x63≤x0∧l60=nodesL x1 x3 l4 (↑(List.length l4):Int) x63∧l62=seedsL l4 (min x63 (↑(List.length l4):Int)))∧Ob (Int.toNat (x0-x63)<Int.toNat (x0-x13)))))∧(¬x13<x0→Ob (DShs worldS0 [dn x0,dn x1,dn x2,dn x3,D.fs l14,D.fs [],D.fs [],D.fs [],D.fs l15,dn (0:Int)]∧wLim [dn x0,dn x1,dn x2,dn x3,D.fs l14,D.fs [],D.fs [],D.fs [],D.fs l15,dn (0:Int)])∧∀ (x64 x65 x66 x67:Int) (l68 l69 l70 l71 l72:LL) (x73:Int),Ob ([DV.a [dn x64,dn x65,dn x66,dn x67,D.fs l68,D.fs l69,D.fs l70,D.fs l71,D.fs l72,dn x73]]=[DV.a [dn x0,dn x1,dn x2,dn x3,D.fs l14,D.fs [],D.fs [],D.fs [],D.fs l15,dn (0:Int)]])→Ob (R [DV.a [dn x64,dn x65,dn x66,dn x67,D.fs l68,D.fs l69,D.fs l70,D.fs l71,D.fs l72,dn x73],vn (0:Int)])))))∧(¬x3≤(6:Int)→Ob (R [DV.a [dn (0:Int),dn (0:Int),dn (0:Int),dn (0:Int),D.fs [],D.fs [],D.fs [],D.fs [],D.fs [],dn (0:Int)],vn (2:Int)])))∧(¬x3≥(1:Int)→Ob (R [DV.a [dn (0:Int),dn (0:Int),dn (0:Int),dn (0:Int),D.fs [],D.fs [],D.fs [],D.fs [],D.fs [],dn (0:Int)],vn (2:Int)])))∧(¬x2≤(64:Int)→Ob (R [DV.a [dn (0:Int),dn (0:Int),dn (0:Int),dn (0:Int),D.fs [],D.fs [],D.fs [],D.fs [],D.fs [],dn (0:Int)],vn (2:Int)])))∧(¬x2≥(1:Int)→Ob (R [DV.a [dn (0:Int),dn (0:Int),dn (0:Int),dn (0:Int),D.fs [],D.fs [],D.fs [],D.fs [],D.fs [],dn (0:Int)],vn (2:Int)])))∧(¬x1≤(64:Int)→Ob (R [DV.a [dn (0:Int),dn (0:Int),dn (0:Int),dn (0:Int),D.fs [],D.fs [],D.fs [],D.fs [],D.fs [],dn (0:Int)],vn (2:Int)])))∧(¬x1≥(1:Int)→Ob (R [DV.a [dn (0:Int),dn (0:Int),dn (0:Int),dn (0:Int),D.fs [],D.fs [],D.fs [],D.fs [],D.fs [],dn (0:Int)],vn (2:Int)])))∧(¬x0≤(8:Int)→Ob (R [DV.a [dn (0:Int),dn (0:Int),dn (0:Int),dn (0:Int),D.fs [],D.fs [],D.fs [],D.fs [],D.fs [],dn (0:Int)],vn (2:Int)])))∧(¬x0≥(1:Int)→Ob (R [DV.a [dn (0:Int),dn (0:Int),dn (0:Int),dn (0:Int),D.fs [],D.fs [],D.fs [],D.fs [],D.fs [],dn (0:Int)],vn (2:Int)]))
set_option maxRecDepth 100000 in
theorem vcEq_rWorldNew:vcFn Go.Proofs.Tryz.prog k0 (cxf [(93,t_rOthers),(92,t_rTaken),(94,t_rPartSeed),(91,t_rNodeNew),(90,t_rDown),(11,t_rWorldTwin)] [(22000,300014,some ⟨[],[15,13],[],[],[],fun _ _=>True,fun _ _=>0,none⟩),(22000,2,some ⟨[7,1,2,4],[8],[],[kn],[⟨0,71,33,false, .cel 11 4⟩,⟨0,134,3,true, .cel 11 8⟩],fun ρ ds=>0≤ni ds 0∧ni ds 0≤ρ.n 0∧li ds 1=nodesL (ρ.n 1) (ρ.n 3) (ρ.d 4) (ρ.d 4).length (ni ds 0)∧li ds 2=seedsL (ρ.d 4) (min (ni ds 0) (ρ.d 4).length),fun ρ ds=>(ρ.n 0-ni ds 0).toNat,none⟩),(22000,0,some ⟨[1,2,4,5],[6],[],[kn],[],fun ρ ds=>0≤ni ds 0∧upto (at_val (ρ.d 4)) (ni ds 0),fun ρ ds=>(ρ.d 4).length-(ni ds 0).toNat,none⟩)] [] [(93,f_rOthers),(92,f_rTaken),(94,f_rPartSeed),(91,f_rNodeNew),(90,f_rDown),(11,f_rWorldTwin)]) 3000 22 Go.Proofs.Tryz.f22 (bodyOf Go.Proofs.Tryz.f22) t_rWorldNew=V_rWorldNew:=by kernel_rfl
set_option maxHeartbeats 4000000 in
set_option maxRecDepth 20000 in
theorem vcPf_rWorldNew:V_rWorldNew:=by
  delta V_rWorldNew
  simp only [ob_iff,and_imp,forall_exists_index,true_and,and_true,List.cons.injEq,DV.c.injEq,DV.a.injEq,D.raw.injEq,D.fs.injEq,Value.bool.injEq,Value.int.injEq]
  intro x0 x1 x2 x3 l4 hs hl hlS h20 R hR
  have hs2:=hs
  simp only [dshs_cons,dshs_nil,dsh_int,rng64,and_true] at hs2
  obtain ⟨s0,s1,s2,s3⟩:=hs2
  repeat' first | assumption | exact DShs.tail (DSh_nth (by assumption) (by assumption)) | exact shp32 (by assumption) | exact shp64 (by assumption) | exact shp2 (by assumption) | exact shpF (by assumption) | with_reducible intro _ | with_reducible apply And.intro
  all_goals (try (have hok:okW x0 x1 x2 x3 l4:=⟨⟨by omega,by omega,by omega,by omega,by omega,by omega,by omega,by omega⟩,by omega,upto_end ‹upto (at_val l4) _› (by omega)⟩))
  all_goals (try (have q1:=wn_nl ‹_=nodesL _ _ _ _ _› (by assumption)))
  all_goals (try (have q2:=wn_sl ‹_=seedsL _ _› (by omega)))
  all_goals (try (have e:=w64_succ ‹_=w64 (_+1)› (by omega) (by omega);subst e))
  all_goals (try (have hall:=fun (i v:Int) (h0:0≤i) (hk:l4[i.toNat]?=some [dn v])=>wn_val hk hok h0))
  all_goals (try (have hpb:=(hall _ _ (by assumption) (by assumption)).1;have hpc:=hpb;obtain ⟨p1,p2,p3,p4,p5,p6,p7,p8⟩:=hpc))
  all_goals first
    | trivial
    | assumption
    | omega
    | (exfalso;omega)
    | exact upto_zero _
    | exact shp64 hlS
    | exact hR _ (wn_no fun h=>by (first | exact okW_no (by assumption) (by assumption) (by omega) h | (obtain ⟨⟨a1,a2,a3,a4,a5,a6,a7,a8⟩,a9,a10⟩:=h;omega)))
    | exact (upto_succ (by omega)).2 ⟨by assumption,at_val_yes (by assumption) (by omega) (by omega)⟩
    | exact wn_shc (by omega) (by omega)
    | exact wn_new hpb
    | exact p5
    | exact wn_shk (by omega) (by omega) (by omega) (by omega)
    | exact rw_down (by assumption) (by assumption) (by assumption) (by omega)
    | exact rw_seed0 (by assumption) (by omega)
    | exact rw_seed (by assumption) (by assumption) (hall _ _ (by assumption) (by assumption)).2.1 (by assumption) (by omega)
    | exact oth_ls (by omega)
    | exact oth_le (by omega) (by omega)
    | exact oth_le0 (by omega) (by omega)
    | (have z:=oth_ln (own:=0) (k:=0) (by omega);simp only [List.length_cons,List.length_nil];omega)
    | exact (rw_sh (by assumption) (by assumption) hok (by omega) (by omega) s2).1
    | exact (rw_sh (by assumption) (by assumption) hok (by omega) (by omega) s2).2
    | (subst_vars;exact hR _ (rw_end (by first | assumption | rfl) (by first | assumption | rfl) hok (by omega) (by omega)))
    | (subst_vars;first | exact rw_fin true (decide_eq_true rfl).symm (hall _ _ (by assumption) (by assumption)).2.1 (by omega) (by omega) | exact rw_fin false (decide_eq_false (by assumption)).symm (hall _ _ (by assumption) (by assumption)).2.1 (by omega) (by omega))
    | skip
theorem con_rWorldNew:Con Go.Proofs.Tryz.prog k0 22 t_rWorldNew :=
  con_of (cxf_ok mixOk (fun p hp=>by
    simp only [List.mem_cons,List.not_mem_nil,or_false] at hp
    rcases hp with rfl | rfl | rfl | rfl | rfl | rfl
    · exact con_rOthers
    · exact con_rTaken
    · exact con_rPartSeed
    · exact con_rNodeNew
    · exact con_rDown
    · exact con_rWorldTwin) (fun p hp=>by
    simp only [List.mem_cons,List.not_mem_nil,or_false] at hp
    rcases hp with rfl | rfl | rfl | rfl | rfl | rfl
    · intro t ht;cases ht;exact fn_rOthers
    · intro t ht;cases ht;exact fn_rTaken
    · intro t ht;cases ht;exact fn_rPartSeed
    · intro t ht;cases ht;exact fn_rNodeNew
    · intro t ht;cases ht;exact fn_rDown
    · intro t ht;cases ht;exact fn_rWorldTwin)) Go.Proofs.Tryz.func22 rfl rfl rfl rfl vcEq_rWorldNew vcPf_rWorldNew
end Go.Vc

namespace Go.Vc
open Classical
def f_qLimb (aa:List DV):List DV:=[vb true]
def t_qLimb:ConT:=⟨[kl,kl],[kb],fun aa=>LSh [s32] (li aa 0)∧eqQ (li aa 0) (li aa 1),fun aa rs=>rs=f_qLimb aa⟩
theorem fn_qLimb:∀ aa,t_qLimb.pre aa→∀ rs,t_qLimb.post aa rs→rs=f_qLimb aa:=fun _ _ _ h=>h
def V_qLimb:Prop:=∀ (l0 l1:LL),Ob (LSh [s32] l0∧eqQ l0 l1)→∀ (R:List DV→Prop),Ob (∀ (res:List DV),res=[vb true]→R res)→∀ (x3:Int),x3=(↑(List.length l0):Int)→∀ (x4:Int),x4=(↑(List.length l1):Int)→(x3≠x4→Ob (R [vb false]))∧(¬x3≠x4→Ob ((0:Int)≤(0:Int)∧(0:Int)≤(↑(List.length l0):Int))∧∀ (g5:Nat→Value) (x6:Int),Ob ((0:Int)≤x6∧x6≤(↑(List.length l0):Int))→∀ (x7:Int),x7=(↑(List.length l0):Int)→(x6<x7→Ob ((0:Int)≤x6∧x6<(↑(List.length l0):Int))∧Ob (Shp [Kd.int IntKind.u32] l0)∧∀ (x8:Int),Ob (l0[Int.toNat x6]?=some [d32 x8])→Ob ((0:Int)≤x6∧x6<(↑(List.length l1):Int))∧Ob (Shp [Kd.int IntKind.u32] l1)∧∀ (x9:Int),Ob (l1[Int.toNat x6]?=some [d32 x9])→(x8≠x9→Ob (R [vb false]))∧(¬x8≠x9→∀ (x10:Int),x10=w64 (x6+(1:Int))→Ob ((0:Int)≤x10∧x10≤(↑(List.length l0):Int))∧Ob (List.length l0-Int.toNat x10<List.length l0-Int.toNat x6)))∧(¬x6<x7→Ob (R [vb true])))
set_option maxRecDepth 100000 in
theorem vcEq_qLimb:vcFn Go.Proofs.Tryz.prog k0 (cxf [] [(275000,0,some ⟨[0,1],[5],[],[kn],[],fun ρ ds=>0≤ni ds 0∧ni ds 0≤(ρ.d 0).length,fun ρ ds=>(ρ.d 0).length-(ni ds 0).toNat,none⟩)] [] []) 3000 275 Go.Proofs.Tryz.f275 (bodyOf Go.Proofs.Tryz.f275) t_qLimb=V_qLimb:=by kernel_rfl
set_option maxHeartbeats 4000000 in
set_option maxRecDepth 20000 in
theorem vcPf_qLimb:V_qLimb:=by
  delta V_qLimb
  simp only [ob_iff,and_imp,forall_exists_index,true_and,and_true,List.cons.injEq,DV.c.injEq,DV.a.injEq,D.raw.injEq,D.fs.injEq,Value.bool.injEq,Value.int.injEq]
  intro l0 l1 hl hs he R hR
  have he:l0=l1:=he
  subst he
  repeat' first | assumption | exact DShs.tail (DSh_nth (by assumption) (by assumption)) | exact shp32 (by assumption) | exact shp64 (by assumption) | exact shp2 (by assumption) | exact shpF (by assumption) | with_reducible intro _ | with_reducible apply And.intro
  all_goals (try (have e:=w64_succ ‹_=w64 (_+1)› (by omega) (by omega);subst e))
  all_goals first
    | assumption
    | omega
    | exact shp32 hs
    | exact hR _ rfl
    | exact DSh_nth (by assumption) (by assumption)
    | exact eqD_at (by assumption) (by assumption)
    | exact eqD_tl (by assumption) (by assumption)
    | exact DShs.tail (DSh_nth (by assumption) (by assumption))
    | exact vb_no ‹_=[vb true]› ‹_=false›
    | (exfalso;omega)
    | grind
    | skip
theorem con_qLimb:Con Go.Proofs.Tryz.prog k0 275 t_qLimb :=
  con_of (cxf_ok mixOk (fun p hp=>by cases hp) (fun p hp=>by cases hp)) Go.Proofs.Tryz.func275 rfl rfl rfl rfl vcEq_qLimb vcPf_qLimb
end Go.Vc
