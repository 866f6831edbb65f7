import Derived.Test.YtneooimijbfmgaaGreatProg
import Derived.KernelRfl
import Derived.Test.YtneooimijbfmgaaGreatWbAR
import Derived.Test.YtneooimijbfmgaaGreatWbAS
import Derived.Test.YtneooimijbfmgaaGreatWbAT
set_option linter.unusedVariables false
set_option linter.unusedSimpArgs false
set_option linter.unusedSectionVars false
noncomputable section
namespace Go.Vc
open Classical
def f_nodeNew (aa:List DV):List DV:=m_new (ni aa 0) (ni aa 1) (ni aa 2) (ai aa 3)
def t_nodeNew:ConT:=⟨[kn,kn,kn,rkS clockS],[rkS nodeS,kn],fun aa=>DShs clockS (ai aa 3),fun aa rs=>rs=f_nodeNew aa⟩
def V_nodeNew:Prop:=∀ (x0 x1 x2 x3 x4 x5 x6 x7:Int),Ob (DShs clockS [dn x3,dn x4,dn x5,dn x6,dn x7])→∀ (R:List DV→Prop),Ob (∀ (res:List DV),res=m_new x0 x1 x2 [dn x3,dn x4,dn x5,dn x6,dn x7]→R res)→(x0<(0:Int)→Ob (R [DV.a [dn (0:Int),dn (0:Int),db false,dn (0:Int),dn (0:Int),dn (0:Int),dn (0:Int),dn (0:Int),db false,D.fs [],dn (0:Int),db false,D.fs [],dn (0:Int),db false,D.fs [],dn (0:Int),db false,D.fs [],dn (0:Int),db false,dn (0:Int),dn (0:Int),D.fs [],db false,dn (0:Int),dn (0:Int),D.fs [],dn (0:Int),dn (0:Int),D.fs [],D.fs [],D.fs []],vn (2:Int)]))∧(¬x0<(0:Int)→(x0≥(8:Int)→Ob (R [DV.a [dn (0:Int),dn (0:Int),db false,dn (0:Int),dn (0:Int),dn (0:Int),dn (0:Int),dn (0:Int),db false,D.fs [],dn (0:Int),db false,D.fs [],dn (0:Int),db false,D.fs [],dn (0:Int),db false,D.fs [],dn (0:Int),db false,dn (0:Int),dn (0:Int),D.fs [],db false,dn (0:Int),dn (0:Int),D.fs [],dn (0:Int),dn (0:Int),D.fs [],D.fs [],D.fs []],vn (2:Int)]))∧(¬x0≥(8:Int)→(x2<(1:Int)→Ob (R [DV.a [dn (0:Int),dn (0:Int),db false,dn (0:Int),dn (0:Int),dn (0:Int),dn (0:Int),dn (0:Int),db false,D.fs [],dn (0:Int),db false,D.fs [],dn (0:Int),db false,D.fs [],dn (0:Int),db false,D.fs [],dn (0:Int),db false,dn (0:Int),dn (0:Int),D.fs [],db false,dn (0:Int),dn (0:Int),D.fs [],dn (0:Int),dn (0:Int),D.fs [],D.fs [],D.fs []],vn (2:Int)]))∧(¬x2<(1:Int)→(x2>(6:Int)→Ob (R [DV.a [dn (0:Int),dn (0:Int),db false,dn (0:Int),dn (0:Int),dn (0:Int),dn (0:Int),dn (0:Int),db false,D.fs [],dn (0:Int),db false,D.fs [],dn (0:Int),db false,D.fs [],dn (0:Int),db false,D.fs [],dn (0:Int),db false,dn (0:Int),dn (0:Int),D.fs [],db false,dn (0:Int),dn (0:Int),D.fs [],dn (0:Int),dn (0:Int),D.fs [],D.fs [],D.fs []],vn (2:Int)]))∧(¬x2>(6:Int)→(x1≥(-2147483647:Int)→(x1≤(2147483647:Int)→Ob (DShs clockS [dn x3,dn x4,dn x5,dn x6,dn x7])∧∀ (x9:Int),Ob ([vn x9]=[vn (if p_clock [dn x3,dn x4,dn x5,dn x6,dn x7] then (0:Int) else (8:Int))])→(x9≠(0:Int)→Ob (R [DV.a [dn (0:Int),dn (0:Int),db false,dn (0:Int),dn (0:Int),dn (0:Int),dn (0:Int),dn (0:Int),db false,D.fs [],dn (0:Int),db false,D.fs [],dn (0:Int),db false,D.fs [],dn (0:Int),db false,D.fs [],dn (0:Int),db false,dn (0:Int),dn (0:Int),D.fs [],db false,dn (0:Int),dn (0:Int),D.fs [],dn (0:Int),dn (0:Int),D.fs [],D.fs [],D.fs []],vn (2:Int)]))∧(¬x9≠(0:Int)→Ob (R [DV.a [dn x0,dn x1,db true,dn x3,dn x4,dn x5,dn x6,dn x7,db false,D.fs [],dn (0:Int),db false,D.fs [],dn (0:Int),db false,D.fs [],dn (0:Int),db false,D.fs [],dn (0:Int),db false,dn (0:Int),dn (0:Int),D.fs [],db false,dn (0:Int),dn (0:Int),D.fs [],dn x0,dn x2,D.fs [],D.fs [],D.fs []],vn (0:Int)])))∧(¬x1≤(2147483647:Int)→Ob (R [DV.a [dn (0:Int),dn (0:Int),db false,dn (0:Int),dn (0:Int),dn (0:Int),dn (0:Int),dn (0:Int),db false,D.fs [],dn (0:Int),db false,D.fs [],dn (0:Int),db false,D.fs [],dn (0:Int),db false,D.fs [],dn (0:Int),db false,dn (0:Int),dn (0:Int),D.fs [],db false,dn (0:Int),dn (0:Int),D.fs [],dn (0:Int),dn (0:Int),D.fs [],D.fs [],D.fs []],vn (2:Int)])))∧(¬x1≥(-2147483647:Int)→Ob (R [DV.a [dn (0:Int),dn (0:Int),db false,dn (0:Int),dn (0:Int),dn (0:Int),dn (0:Int),dn (0:Int),db false,D.fs [],dn (0:Int),db false,D.fs [],dn (0:Int),db false,D.fs [],dn (0:Int),db false,D.fs [],dn (0:Int),db false,dn (0:Int),dn (0:Int),D.fs [],db false,dn (0:Int),dn (0:Int),D.fs [],dn (0:Int),dn (0:Int),D.fs [],D.fs [],D.fs []],vn (2:Int)]))))))
set_option maxRecDepth 100000 in
theorem vcEq_nodeNew:vcFn Go.Proofs.Tryz.prog k0 (cxf [(109,t_epochCheck)] [] [] [(109,f_epochCheck)]) 3000 29 Go.Proofs.Tryz.f29 (bodyOf Go.Proofs.Tryz.f29) t_nodeNew=V_nodeNew:=by kernel_rfl
set_option maxHeartbeats 4000000 in
set_option maxRecDepth 20000 in
theorem vcPf_nodeNew:V_nodeNew:=by
  delta V_nodeNew
  simp only [ob_iff,and_imp,forall_exists_index,true_and,and_true,List.cons.injEq,DV.c.injEq,DV.a.injEq,D.raw.injEq,D.fs.injEq,Value.bool.injEq,Value.int.injEq]
  intro x0 x1 x2 x3 x4 x5 x6 x7 hs R hR
  repeat' first | assumption | exact DShs.tail (DSh_nth (by assumption) (by assumption)) | exact shp32 (by assumption) | exact shp64 (by assumption) | exact shp2 (by assumption) | exact shpF (by assumption) | with_reducible intro _ | with_reducible apply And.intro
  all_goals first
    | (refine hR _ (Eq.symm (new_yes ?_))
       refine ⟨by omega,by omega,by omega,by omega,⟨by omega,by omega⟩,?_⟩
       exact not_if8' (by assumption) (by assumption))
    | (refine hR _ (new_no fun hp=>?_).symm
       obtain ⟨h1,h2,h3,h4,⟨h5,h6⟩,h7⟩:=hp
       first
         | omega
         | exact if8' (by assumption) (by assumption) h7)
theorem con_nodeNew:Con Go.Proofs.Tryz.prog k0 29 t_nodeNew :=
  con_of (cxf_ok mixOk (fun p hp=>by
    simp only [List.mem_cons,List.not_mem_nil,or_false] at hp
    subst hp
    exact con_epochCheck) (fun p hp=>by
    simp only [List.mem_cons,List.not_mem_nil,or_false] at hp
    subst hp
    · intro t ht;cases ht;exact fn_epochCheck)) Go.Proofs.Tryz.func29 rfl rfl rfl rfl vcEq_nodeNew vcPf_nodeNew
end Go.Vc

namespace Go.Vc
open Classical
theorem Con.imp {P:Program} {K:Nat→Option (List Value)} {f:FuncId} {a r:List RK} {p p':List DV→Prop} {q q':List DV→List DV→Prop} (h:Con P K f ⟨a,r,p,q⟩) (hp:∀ aa,p' aa→p aa) (hq:∀ aa rs,p' aa→q aa rs→q' aa rs):Con P K f ⟨a,r,p',q'⟩ :=
  ⟨h.1,fun F hF n G w aa us h3 h4 h5 hp'=>(h.2 F hF n G w aa us h3 h4 h5 (hp aa hp')).mono fun e w' ⟨res,us,G',h6,h7⟩=>⟨res,us,G',hq aa res hp' h6,h7⟩⟩
def f_nodeNewY (aa:List DV):List DV:=[.a (newC (ni aa 0) (ni aa 1) (ni aa 2) (ai aa 3)),vn 0]
def t_nodeNewY:ConT:=⟨t_nodeNew.args,t_nodeNew.res,fun aa=>DShs clockS (ai aa 3)∧p_new (ni aa 0) (ni aa 1) (ni aa 2) (ai aa 3),fun aa rs=>rs=f_nodeNewY aa⟩
theorem fn_nodeNewY:∀ aa,t_nodeNewY.pre aa→∀ rs,t_nodeNewY.post aa rs→rs=f_nodeNewY aa:=fun _ _ _ h=>h
theorem con_nodeNewY:Con Go.Proofs.Tryz.prog k0 29 t_nodeNewY :=
  Con.imp con_nodeNew (fun _ h=>h.1) fun aa rs h1 h2=>(show rs=m_new _ _ _ _ from h2).trans (new_yes h1.2)
end Go.Vc

namespace Go.Vc
open Classical
def f_eqDe (aa:List DV):List DV:=[vb (decide (li aa 0=li aa 1))]
def t_eqDe:ConT:=⟨[kl,kl],[kb],fun aa=>LSh pairS (li aa 0)∧LSh pairS (li aa 1),fun aa rs=>rs=f_eqDe aa⟩
theorem fn_eqDe:∀ aa,t_eqDe.pre aa→∀ rs,t_eqDe.post aa rs→rs=f_eqDe aa:=fun _ _ _ h=>h
def V_eqDe:Prop:=∀ (l0 l1:LL),Ob (LSh pairS l0∧LSh pairS l1)→∀ (R:List DV→Prop),Ob (∀ (res:List DV),res=[vb (decide (l0=l1))]→R res)→∀ (x3:Int),x3=(↑(List.length l0):Int)→∀ (x4:Int),x4=(↑(List.length l1):Int)→(x3≠x4→Ob (R [vb false]))∧(¬x3≠x4→∀ (x5:Int),x5=(↑(List.length l0):Int)→Ob ((0:Int)≤(0:Int)∧List.length l0=List.length l1∧(0:Int)≤(↑(List.length l0):Int)∧List.take (Int.toNat (0:Int)) l0=List.take (Int.toNat (0:Int)) l1)∧∀ (g6:Nat→Value) (x7:Int),Ob ((0:Int)≤x7∧List.length l0=List.length l1∧x7≤(↑(List.length l0):Int)∧List.take (Int.toNat x7) l0=List.take (Int.toNat x7) l1)→(x7<x5→Ob ((0:Int)≤x7∧x7<(↑(List.length l0):Int))∧Ob (Shp [Kd.int IntKind.i64,Kd.int IntKind.i64] l0)∧∀ (x8 x9:Int),Ob (l0[Int.toNat x7]?=some [dn x8,dn x9])→Ob ((0:Int)≤x7∧x7<(↑(List.length l1):Int))∧Ob (Shp [Kd.int IntKind.i64,Kd.int IntKind.i64] l1)∧∀ (x10 x11:Int),Ob (l1[Int.toNat x7]?=some [dn x10,dn x11])→(¬(x8=x10∧x9=x11)→Ob (R [vb false]))∧(¬¬(x8=x10∧x9=x11)→∀ (x12:Int),x12=w64 (x7+(1:Int))→Ob ((0:Int)≤x12∧List.length l0=List.length l1∧x12≤(↑(List.length l0):Int)∧List.take (Int.toNat x12) l0=List.take (Int.toNat x12) l1)∧Ob (List.length l0-Int.toNat x12<List.length l0-Int.toNat x7)))∧(¬x7<x5→Ob (R [vb true])))
set_option maxRecDepth 100000 in
theorem vcEq_eqDe:vcFn Go.Proofs.Tryz.prog k0 (cxf [] [(249000,0,some ⟨[1,0,12],[13],[],[kn],[],fun ρ ds=>0≤ni ds 0∧(ρ.d 0).length=(ρ.d 1).length∧ni ds 0≤(ρ.d 0).length∧(ρ.d 0).take (ni ds 0).toNat=(ρ.d 1).take (ni ds 0).toNat,fun ρ ds=>(ρ.d 0).length-(ni ds 0).toNat,none⟩)] [] []) 3000 249 Go.Proofs.Tryz.f249 (bodyOf Go.Proofs.Tryz.f249) t_eqDe=V_eqDe:=by kernel_rfl
set_option maxHeartbeats 4000000 in
set_option maxRecDepth 20000 in
theorem vcPf_eqDe:V_eqDe:=by
  delta V_eqDe
  simp only [ob_iff,and_imp,List.cons_append,List.nil_append,dshs_cons,dshs_nil,dsh_int,dsh_bool,dsh_sl,rng64,rng32,true_and,and_true,List.cons.injEq,DV.c.injEq,DV.a.injEq,D.raw.injEq,D.fs.injEq,Value.bool.injEq,Value.int.injEq]
  repeat' first | assumption | exact DShs.tail (DSh_nth (by assumption) (by assumption)) | exact shp32 (by assumption) | exact shp64 (by assumption) | exact shp2 (by assumption) | exact shpF (by assumption) | with_reducible intro _ | with_reducible apply And.intro
  all_goals (try (have e:=w64_succ ‹_=w64 (_+1)› (by omega) (by omega);subst e))
  all_goals first
    | omega
    | (apply ‹∀ res:List DV,_=_→_›;simp;grind [getE_ne,take_all])
    | (rw [take_succ (by omega) (by assumption),take_succ (by omega) (by assumption)];grind)
    | grind
theorem con_eqDe:Con Go.Proofs.Tryz.prog k0 249 t_eqDe :=
  con_of (cxf_ok mixOk (fun p hp=>by cases hp) (fun p hp=>by cases hp)) Go.Proofs.Tryz.func249 rfl rfl rfl rfl vcEq_eqDe vcPf_eqDe
end Go.Vc

namespace Go.Vc
open Classical
def f_descSame (aa:List DV):List DV:=[vb (decide (li aa 0=li aa 1))]
def t_descSame:ConT:=⟨[kl,kl],[kb],fun aa=>LSh pairS (li aa 0)∧LSh pairS (li aa 1),fun aa rs=>rs=f_descSame aa⟩
theorem fn_descSame:∀ aa,t_descSame.pre aa→∀ rs,t_descSame.post aa rs→rs=f_descSame aa:=fun _ _ _ h=>h
def V_descSame:Prop:=∀ (l0 l1:LL),Ob (LSh pairS l0∧LSh pairS l1)→∀ (R:List DV→Prop),Ob (∀ (res:List DV),res=[vb (decide (l0=l1))]→R res)→Ob (LSh pairS l0∧LSh pairS l1)∧∀ (b3:Bool),Ob ([vb b3]=[vb (decide (l0=l1))])→Ob (R [vb b3])
set_option maxRecDepth 100000 in
theorem vcEq_descSame:vcFn Go.Proofs.Tryz.prog k0 (cxf [(249,t_eqDe)] [] [] [(249,f_eqDe)]) 3000 188 Go.Proofs.Tryz.f188 (bodyOf Go.Proofs.Tryz.f188) t_descSame=V_descSame:=by kernel_rfl
set_option maxHeartbeats 4000000 in
set_option maxRecDepth 20000 in
theorem vcPf_descSame:V_descSame:=by
  delta V_descSame
  simp only [ob_iff,and_imp,List.cons_append,List.nil_append,dshs_cons,dshs_nil,dsh_int,dsh_bool,dsh_sl,rng64,rng32,true_and,and_true,List.cons.injEq,DV.c.injEq,DV.a.injEq,D.raw.injEq,D.fs.injEq,Value.bool.injEq,Value.int.injEq]
  repeat' first | assumption | exact DShs.tail (DSh_nth (by assumption) (by assumption)) | exact shp32 (by assumption) | exact shp64 (by assumption) | exact shp2 (by assumption) | exact shpF (by assumption) | with_reducible intro _ | with_reducible apply And.intro
  all_goals first
    | assumption
    | omega
    | (apply ‹∀ res:List DV,_=_→_›;simp_all)
    | grind
theorem con_descSame:Con Go.Proofs.Tryz.prog k0 188 t_descSame :=
  con_of (cxf_ok mixOk (fun p hp=>by
    simp only [List.mem_cons,List.not_mem_nil,or_false] at hp
    subst hp
    exact con_eqDe) (fun p hp=>by
    simp only [List.mem_cons,List.not_mem_nil,or_false] at hp
    subst hp
    · intro t ht;cases ht;exact fn_eqDe)) Go.Proofs.Tryz.func188 rfl rfl rfl rfl vcEq_descSame vcPf_descSame
end Go.Vc

namespace Go.Vc
open Classical
def f_descCheck (aa:List DV):List DV:=[vn (e_desc (li aa 0))]
def t_descCheck:ConT:=⟨[kl],[kn],fun aa=>LSh pairS (li aa 0),fun aa rs=>rs=f_descCheck aa⟩
theorem fn_descCheck:∀ aa,t_descCheck.pre aa→∀ rs,t_descCheck.post aa rs→rs=f_descCheck aa:=fun _ _ _ h=>h
def V_descCheck:Prop:=∀ (l0:LL),Ob (LSh pairS l0)→∀ (R:List DV→Prop),Ob (∀ (res:List DV),res=[vn (e_desc l0)]→R res)→∀ (x2:Int),x2=(↑(List.length l0):Int)→(x2>(64:Int)→Ob (R [vn (4:Int)]))∧(¬x2>(64:Int)→∀ (x3:Int),x3=(↑(List.length l0):Int)→Ob ((0:Int)≤(0:Int)∧upto (at_desc l0) (0:Int))∧∀ (g4:Nat→Value) (x5:Int),Ob ((0:Int)≤x5∧upto (at_desc l0) x5)→(x5<x3→Ob ((0:Int)≤x5∧x5<(↑(List.length l0):Int))∧Ob (Shp [Kd.int IntKind.i64,Kd.int IntKind.i64] l0)∧∀ (x6 x7:Int),Ob (l0[Int.toNat x5]?=some [dn x6,dn x7])→(x6≥(0:Int)→(x6<(8:Int)→(x7≥(0:Int)→(x7≤(2147483647:Int)→∀ (x8:Int),x8=w64 (x5+(1:Int))→Ob ((0:Int)≤x8∧upto (at_desc l0) x8)∧Ob (List.length l0-Int.toNat x8<List.length l0-Int.toNat x5))∧(¬x7≤(2147483647:Int)→(x5≥(0:Int)→Ob (R [vn (8:Int)]))∧(¬x5≥(0:Int)→Ob (R [vn (0:Int)]))))∧(¬x7≥(0:Int)→(x5≥(0:Int)→Ob (R [vn (8:Int)]))∧(¬x5≥(0:Int)→Ob (R [vn (0:Int)]))))∧(¬x6<(8:Int)→(x5≥(0:Int)→Ob (R [vn (8:Int)]))∧(¬x5≥(0:Int)→Ob (R [vn (0:Int)]))))∧(¬x6≥(0:Int)→(x5≥(0:Int)→Ob (R [vn (8:Int)]))∧(¬x5≥(0:Int)→Ob (R [vn (0:Int)]))))∧(¬x5<x3→Ob (R [vn (0:Int)])))
set_option maxRecDepth 100000 in
theorem vcEq_descCheck:vcFn Go.Proofs.Tryz.prog k0 (cxf [] [(242001731011314032,0,some ⟨[0,1,7],[8],[],[kn],[],fun ρ ds=>0≤ni ds 0∧upto (at_desc (ρ.d 0)) (ni ds 0),fun ρ ds=>(ρ.d 0).length-(ni ds 0).toNat,none⟩)] [] []) 3000 242 Go.Proofs.Tryz.f242 (bodyOf Go.Proofs.Tryz.f242) t_descCheck=V_descCheck:=by kernel_rfl
set_option maxHeartbeats 4000000 in
set_option maxRecDepth 20000 in
theorem vcPf_descCheck:V_descCheck:=by
  delta V_descCheck
  simp only [ob_iff,and_imp,List.cons_append,List.nil_append,dshs_cons,dshs_nil,dsh_int,dsh_bool,dsh_sl,rng64,rng32,true_and,and_true,List.cons.injEq,DV.c.injEq,DV.a.injEq,D.raw.injEq,D.fs.injEq,Value.bool.injEq,Value.int.injEq]
  repeat' first | assumption | exact DShs.tail (DSh_nth (by assumption) (by assumption)) | exact shp32 (by assumption) | exact shp64 (by assumption) | exact shp2 (by assumption) | exact shpF (by assumption) | with_reducible intro _ | with_reducible apply And.intro
  all_goals (try (have e:=w64_succ ‹_=w64 (_+1)› (by omega) (by omega);subst e))
  all_goals first
    | assumption
    | omega
    | (exact fun i hi=>by omega)
    | (apply ‹∀ res:List DV,_=_→_›;simp only [e_desc];rw [if_pos (by omega)])
    | (apply ‹∀ res:List DV,_=_→_›;simp only [e_desc];rw [if_neg (by omega),if_neg (upto_not (at_desc_no (by assumption) (by omega)) (by omega) (by omega))])
    | (apply ‹∀ res:List DV,_=_→_›;simp only [e_desc];rw [if_neg (by omega),if_pos (upto_end (by assumption) (by omega))])
    | (rw [upto_succ (by omega)];exact ⟨by assumption,at_desc_yes (by assumption) (by omega)⟩)
theorem con_descCheck:Con Go.Proofs.Tryz.prog k0 242 t_descCheck :=
  con_of (cxf_ok mixOk (fun p hp=>by cases hp) (fun p hp=>by cases hp)) Go.Proofs.Tryz.func242 rfl rfl rfl rfl vcEq_descCheck vcPf_descCheck
end Go.Vc

namespace Go.Vc
open Classical
def t_lenU:ConT:=⟨[⟨[.int .u64],false,false⟩],[kn],fun aa=>0≤ni aa 0∧ni aa 0<16,fun aa rs=>∃ x,rs=[vn x]⟩
def V_lenU:Prop:=∀ (x0:Int),Ob ((0:Int)≤x0∧x0<(16:Int))→∀ (R:List DV→Prop),Ob (∀ (res:List DV),(∃ x,res=[vn x])→R res)→Ob ¬x0≥(4294967296:Int)∧Ob ¬x0≥(65536:Int)∧Ob ¬x0≥(256:Int)∧∀ (x2:Int),x2=IntKind.wrap IntKind.u8 x0→Ob ((0:Int)≤x2∧x2<(↑(16:Nat):Int))∧(((((((((((((((True∧(Ob (x2=Int.ofNat (0))→Ob (R [vn (w64 ((0:Int)+IntKind.wrap IntKind.i64 (↑(0):Int)))])))∧(Ob (x2=Int.ofNat (1))→Ob (R [vn (w64 ((0:Int)+IntKind.wrap IntKind.i64 (↑(1):Int)))])))∧(Ob (x2=Int.ofNat (2))→Ob (R [vn (w64 ((0:Int)+IntKind.wrap IntKind.i64 (↑(2):Int)))])))∧(Ob (x2=Int.ofNat (3))→Ob (R [vn (w64 ((0:Int)+IntKind.wrap IntKind.i64 (↑(2):Int)))])))∧(Ob (x2=Int.ofNat (4))→Ob (R [vn (w64 ((0:Int)+IntKind.wrap IntKind.i64 (↑(3):Int)))])))∧(Ob (x2=Int.ofNat (5))→Ob (R [vn (w64 ((0:Int)+IntKind.wrap IntKind.i64 (↑(3):Int)))])))∧(Ob (x2=Int.ofNat (6))→Ob (R [vn (w64 ((0:Int)+IntKind.wrap IntKind.i64 (↑(3):Int)))])))∧(Ob (x2=Int.ofNat (7))→Ob (R [vn (w64 ((0:Int)+IntKind.wrap IntKind.i64 (↑(3):Int)))])))∧(Ob (x2=Int.ofNat (8))→Ob (R [vn (w64 ((0:Int)+IntKind.wrap IntKind.i64 (↑(4):Int)))])))∧(Ob (x2=Int.ofNat (9))→Ob (R [vn (w64 ((0:Int)+IntKind.wrap IntKind.i64 (↑(4):Int)))])))∧(Ob (x2=Int.ofNat (10))→Ob (R [vn (w64 ((0:Int)+IntKind.wrap IntKind.i64 (↑(4):Int)))])))∧(Ob (x2=Int.ofNat (11))→Ob (R [vn (w64 ((0:Int)+IntKind.wrap IntKind.i64 (↑(4):Int)))])))∧(Ob (x2=Int.ofNat (12))→Ob (R [vn (w64 ((0:Int)+IntKind.wrap IntKind.i64 (↑(4):Int)))])))∧(Ob (x2=Int.ofNat (13))→Ob (R [vn (w64 ((0:Int)+IntKind.wrap IntKind.i64 (↑(4):Int)))])))∧(Ob (x2=Int.ofNat (14))→Ob (R [vn (w64 ((0:Int)+IntKind.wrap IntKind.i64 (↑(4):Int)))])))∧(Ob (x2=Int.ofNat (15))→Ob (R [vn (w64 ((0:Int)+IntKind.wrap IntKind.i64 (↑(4):Int)))]))
set_option maxRecDepth 100000 in
theorem vcEq_lenU:vcFn Go.Proofs.Tryz.prog k0 (cxf [] [] [(295001202008,5,false),(295001202008,9,false),(295001202008,15,false)] []) 3000 295 Go.Proofs.Tryz.f295 (bodyOf Go.Proofs.Tryz.f295) t_lenU=V_lenU:=by kernel_rfl
set_option maxHeartbeats 4000000 in
set_option maxRecDepth 20000 in
theorem vcPf_lenU:V_lenU:=by
  delta V_lenU
  simp only [ob_iff,and_imp,List.cons_append,List.nil_append,dshs_cons,dshs_nil,dsh_int,dsh_bool,dsh_sl,rng64,rng32,true_and,and_true,List.cons.injEq,DV.c.injEq,DV.a.injEq,D.raw.injEq,D.fs.injEq,Value.bool.injEq,Value.int.injEq]
  repeat' first | assumption | exact DShs.tail (DSh_nth (by assumption) (by assumption)) | exact shp32 (by assumption) | exact shp64 (by assumption) | exact shp2 (by assumption) | exact shpF (by assumption) | with_reducible intro _ | with_reducible apply And.intro
  all_goals (try (have z:=w8_id (by assumption) (by omega) (by omega);skip))
  all_goals first
    | assumption
    | omega
    | (apply ‹∀ res:List DV,(∃ x:Int,_)→_›;exact ⟨_,rfl⟩)
theorem con_lenU:Con Go.Proofs.Tryz.prog k0 295 t_lenU :=
  con_of (cxf_ok mixOk (fun p hp=>by cases hp) (fun p hp=>by cases hp)) Go.Proofs.Tryz.func295 rfl rfl rfl rfl vcEq_lenU vcPf_lenU
end Go.Vc

namespace Go.Vc
open Classical
def f_cmpI (aa:List DV):List DV:=[vn (cmpI (ni aa 0) (ni aa 1))]
def t_cmpI:ConT:=⟨[kn,kn],[kn],fun aa=>True,fun aa rs=>rs=f_cmpI aa⟩
theorem fn_cmpI:∀ aa,t_cmpI.pre aa→∀ rs,t_cmpI.post aa rs→rs=f_cmpI aa:=fun _ _ _ h=>h
def V_cmpI:Prop:=∀ (x0 x1:Int),Ob True→∀ (R:List DV→Prop),Ob (∀ (res:List DV),res=[vn (cmpI x0 x1)]→R res)→(x0≠x0→(x1≠x1→Ob (R [vn (0:Int)]))∧(¬x1≠x1→Ob (R [vn (-1:Int)])))∧(¬x0≠x0→(x1≠x1→Ob (R [vn (1:Int)]))∧(¬x1≠x1→(x0<x1→Ob (R [vn (-1:Int)]))∧(¬x0<x1→(x0>x1→Ob (R [vn (1:Int)]))∧(¬x0>x1→Ob (R [vn (0:Int)])))))
set_option maxRecDepth 100000 in
theorem vcEq_cmpI:vcFn Go.Proofs.Tryz.prog k0 (cxf [] [] [] []) 3000 331 Go.Proofs.Tryz.f331 (bodyOf Go.Proofs.Tryz.f331) t_cmpI=V_cmpI:=by kernel_rfl
set_option maxHeartbeats 4000000 in
set_option maxRecDepth 20000 in
theorem vcPf_cmpI:V_cmpI:=by
  delta V_cmpI
  simp only [ob_iff,and_imp,List.cons_append,List.nil_append,dshs_cons,dshs_nil,dsh_int,dsh_bool,dsh_sl,rng64,rng32,true_and,and_true,List.cons.injEq,DV.c.injEq,DV.a.injEq,D.raw.injEq,D.fs.injEq,Value.bool.injEq,Value.int.injEq]
  repeat' first | assumption | exact DShs.tail (DSh_nth (by assumption) (by assumption)) | exact shp32 (by assumption) | exact shp64 (by assumption) | exact shp2 (by assumption) | exact shpF (by assumption) | with_reducible intro _ | with_reducible apply And.intro
  all_goals first
    | assumption
    | omega
    | (apply ‹∀ res:List DV,_=_→_›;simp [cmpI];omega)
    | (apply ‹∀ res:List DV,_=_→_›;simp [cmpI];grind)
    | (grind)
theorem con_cmpI:Con Go.Proofs.Tryz.prog k0 331 t_cmpI :=
  con_of (cxf_ok mixOk (fun p hp=>by cases hp) (fun p hp=>by cases hp)) Go.Proofs.Tryz.func331 rfl rfl rfl rfl vcEq_cmpI vcPf_cmpI
end Go.Vc

namespace Go.Vc
open Classical
def f_bestF (aa:List DV):List DV:=m_best (li aa 0)
def t_bestF:ConT:=⟨[kl],[kl,kn],fun aa=>LSh pairS (li aa 0)∧(li aa 0).length≤12,fun aa rs=>rs=f_bestF aa⟩
theorem fn_bestF:∀ aa,t_bestF.pre aa→∀ rs,t_bestF.post aa rs→rs=f_bestF aa:=fun _ _ _ h=>h
def V_bestF:Prop:=∀ (l0:LL),Ob (LSh pairS l0∧List.length l0≤(12:Nat))→∀ (R:List DV→Prop),Ob (∀ (res:List DV),res=m_best l0→R res)→Ob (LSh pairS l0)∧∀ (x2:Int),Ob ([vn x2]=[vn (e_desc l0)])→(x2≠(0:Int)→(x2≠(0:Int)→Ob (R [vl [],vn x2]))∧(¬x2≠(0:Int)→Ob (R [vl [],vn (0:Int)])))∧(¬x2≠(0:Int)→(l0=[]→Ob ((0:Int)≤IntKind.wrap IntKind.u64 (↑(0:Nat):Int)∧IntKind.wrap IntKind.u64 (↑(0:Nat):Int)<(16:Int))∧∀ (x3:Int),Ob (∃ x,[vn x3]=[vn x])→Ob (R [vl [],vn (0:Int)]))∧Ob (Shp [Kd.int IntKind.i64,Kd.int IntKind.i64] l0∧List.length ([]:LL)+List.length l0≤(1048576:Nat))∧∀ (l4:LL),l4=[]++l0→∀ (x5:Int),x5=(↑(List.length l4):Int)→∀ (x6:Int),x6=IntKind.wrap IntKind.u64 x5→Ob ((0:Int)≤x6∧x6<(16:Int))∧∀ (x7:Int),Ob (∃ x,[vn x7]=[vn x])→∀ (x8:Int),x8=w64 (x5-(0:Int))→Ob (x8≤(12:Int))∧Ob ((1:Int)≤w64 ((0:Int)+(1:Int))∧insI l4 l4 (w64 ((0:Int)+(1:Int))))∧∀ (g9:Nat→Value) (x10:Int) (l11:LL),Ob ((1:Int)≤x10∧insI l4 l11 x10)→(x10<x5→Ob ((0:Int)≤x10∧x10≤x10∧insJ l4 l11 x10 x10)∧∀ (g12:Nat→Value) (x13:Int) (l14:LL),Ob ((0:Int)≤x13∧x13≤x10∧insJ l4 l14 x10 x13)→(x13>(0:Int)→Ob ((0:Int)≤x13∧x13<(↑(List.length l14):Int))∧∀ (x15:Int),x15=x13→Ob ((0:Int)≤x15∧x15<(↑(List.length l14):Int))∧Ob (Shp [Kd.int IntKind.i64,Kd.int IntKind.i64] l14)∧∀ (x16 x17:Int),Ob (l14[Int.toNat x15]?=some [dn x16,dn x17])→∀ (x18:Int),x18=w64 (x13-(1:Int))→Ob ((0:Int)≤x18∧x18<(↑(List.length l14):Int))∧∀ (x19:Int),x19=x18→Ob ((0:Int)≤x19∧x19<(↑(List.length l14):Int))∧Ob (Shp [Kd.int IntKind.i64,Kd.int IntKind.i64] l14)∧∀ (x20 x21:Int),Ob (l14[Int.toNat x19]?=some [dn x20,dn x21])→Ob True∧∀ (x22:Int),Ob ([vn x22]=[vn (cmpI x21 x17)])→Ob True∧∀ (x23:Int),Ob ([vn x23]=[vn (cmpI x16 x20)])→(x22≠(0:Int)→(x22<(0:Int)→∀ (x24:Int),x24=w64 (x13-(1:Int))→∀ (x25:Int),x25=w64 (x13-(1:Int))→Ob ((0:Int)≤x25∧x25<(↑(List.length l14):Int))∧∀ (x26:Int),x26=x25→Ob ((0:Int)≤x26∧x26<(↑(List.length l14):Int))∧Ob (Shp [Kd.int IntKind.i64,Kd.int IntKind.i64] l14)∧∀ (x27 x28:Int),Ob (l14[Int.toNat x26]?=some [dn x27,dn x28])→Ob ((0:Int)≤x13∧x13<(↑(List.length l14):Int))∧∀ (x29:Int),x29=x13→Ob ((0:Int)≤x29∧x29<(↑(List.length l14):Int))∧Ob (Shp [Kd.int IntKind.i64,Kd.int IntKind.i64] l14)∧∀ (x30 x31:Int),Ob (l14[Int.toNat x29]?=some [dn x30,dn x31])→Ob ((0:Int)≤x13∧x13<(↑(List.length l14):Int))∧∀ (x32:Int),x32=x13→Ob ((0:Int)≤x32∧x32<(↑(List.length l14):Int))∧∀ (l33:LL),l33=List.set l14 (Int.toNat x32) [dn x27,dn x28]→Ob ((0:Int)≤x24∧x24<(↑(List.length l33):Int))∧∀ (x34:Int),x34=x24→Ob ((0:Int)≤x34∧x34<(↑(List.length l33):Int))∧∀ (l35:LL),l35=List.set l33 (Int.toNat x34) [dn x30,dn x31]→∀ (x36:Int),x36=w64 (x13-(1:Int))→Ob ((0:Int)≤x36∧x36≤x10∧insJ l4 l35 x10 x36)∧Ob (Int.toNat x36<Int.toNat x13))∧(¬x22<(0:Int)→∀ (x37:Int),x37=w64 (x10+(1:Int))→Ob ((1:Int)≤x37∧insI l4 l14 x37)∧Ob (List.length l4-Int.toNat x37<List.length l4-Int.toNat x10)))∧(¬x22≠(0:Int)→(x23≠(0:Int)→(x23<(0:Int)→∀ (x38:Int),x38=w64 (x13-(1:Int))→∀ (x39:Int),x39=w64 (x13-(1:Int))→Ob ((0:Int)≤x39∧x39<(↑(List.length l14):Int))∧∀ (x40:Int),x40=x39→Ob ((0:Int)≤x40∧x40<(↑(List.length l14):Int))∧Ob (Shp [Kd.int IntKind.i64,Kd.int IntKind.i64] l14)∧∀ (x41 x42:Int),Ob (l14[Int.toNat x40]?=some [dn x41,dn x42])→Ob ((0:Int)≤x13∧x13<(↑(List.length l14):Int))∧∀ (x43:Int),x43=x13→Ob ((0:Int)≤x43∧x43<(↑(List.length l14):Int))∧Ob (Shp [Kd.int IntKind.i64,Kd.int IntKind.i64] l14)∧∀ (x44 x45:Int),Ob (l14[Int.toNat x43]?=some [dn x44,dn x45])→Ob ((0:Int)≤x13∧x13<(↑(List.length l14):Int))∧∀ (x46:Int),x46=x13→Ob ((0:Int)≤x46∧x46<(↑(List.length l14):Int))∧∀ (l47:LL),l47=List.set l14 (Int.toNat x46) [dn x41,dn x42]→Ob ((0:Int)≤x38∧x38<(↑(List.length l47):Int))∧∀ (x48:Int),x48=x38→Ob ((0:Int)≤x48∧x48<(↑(List.length l47):Int))∧∀ (l49:LL),l49=List.set l47 (Int.toNat x48) [dn x44,dn x45]→∀ (x50:Int),x50=w64 (x13-(1:Int))→Ob ((0:Int)≤x50∧x50≤x10∧insJ l4 l49 x10 x50)∧Ob (Int.toNat x50<Int.toNat x13))∧(¬x23<(0:Int)→∀ (x51:Int),x51=w64 (x10+(1:Int))→Ob ((1:Int)≤x51∧insI l4 l14 x51)∧Ob (List.length l4-Int.toNat x51<List.length l4-Int.toNat x10)))∧(¬x23≠(0:Int)→∀ (x52:Int),x52=w64 (x10+(1:Int))→Ob ((1:Int)≤x52∧insI l4 l14 x52)∧Ob (List.length l4-Int.toNat x52<List.length l4-Int.toNat x10))))∧(¬x13>(0:Int)→∀ (x53:Int),x53=w64 (x10+(1:Int))→Ob ((1:Int)≤x53∧insI l4 l14 x53)∧Ob (List.length l4-Int.toNat x53<List.length l4-Int.toNat x10)))∧(¬x10<x5→∀ (x54:Int),x54=(↑(List.length l11):Int)→Ob ((0:Int)≤(0:Int)∧upto (fstD l11) (0:Int)∧thA l11 (0:Int) [vn (0:Int),vb false,vb false,vb false,vb false,vb false,vb false,vb false,vb false] (1:Nat))∧∀ (g55:Nat→Value) (x56:Int) (b57 b58 b59 b60 b61 b62 b63 b64:Bool),Ob ((0:Int)≤x56∧upto (fstD l11) x56∧thA l11 x56 [vn x56,vb b57,vb b58,vb b59,vb b60,vb b61,vb b62,vb b63,vb b64] (1:Nat))→(x56<x54→Ob ((0:Int)≤x56∧x56<(↑(List.length l11):Int))∧∀ (x65:Int),x65=x56→Ob ((0:Int)≤x65∧x65<(↑(List.length l11):Int))∧Ob (Shp [Kd.int IntKind.i64,Kd.int IntKind.i64] l11)∧∀ (x66 x67:Int),Ob (l11[Int.toNat x65]?=some [dn x66,dn x67])→(Ob ((0:Int)≤x66∧x66<(↑(8:Nat):Int))∧(((((((True∧(Ob (x66=Int.ofNat (0))→Ob (wasA l11 x56 x66 b57)∧Ob ((0:Nat)<(1:Nat))))∧(Ob (x66=Int.ofNat (1))→Ob (wasA l11 x56 x66 b58)∧Ob ((0:Nat)<(1:Nat))))∧(Ob (x66=Int.ofNat (2))→Ob (wasA l11 x56 x66 b59)∧Ob ((0:Nat)<(1:Nat))))∧(Ob (x66=Int.ofNat (3))→Ob (wasA l11 x56 x66 b60)∧Ob ((0:Nat)<(1:Nat))))∧(Ob (x66=Int.ofNat (4))→Ob (wasA l11 x56 x66 b61)∧Ob ((0:Nat)<(1:Nat))))∧(Ob (x66=Int.ofNat (5))→Ob (wasA l11 x56 x66 b62)∧Ob ((0:Nat)<(1:Nat))))∧(Ob (x66=Int.ofNat (6))→Ob (wasA l11 x56 x66 b63)∧Ob ((0:Nat)<(1:Nat))))∧(Ob (x66=Int.ofNat (7))→Ob (wasA l11 x56 x66 b64)∧Ob ((0:Nat)<(1:Nat))))∧∀ (g68:Nat→Value) (b69:Bool),Ob (wasA l11 x56 x66 b69)→(Ob ((0:Int)≤x66∧x66<(↑(8:Nat):Int))∧(((((((True∧(Ob (x66=Int.ofNat (0))→Ob (thA l11 (x56+(1:Int)) [vb true,vb b58,vb b59,vb b60,vb b61,vb b62,vb b63,vb b64] (0:Nat))∧Ob ((0:Nat)<(1:Nat))))∧(Ob (x66=Int.ofNat (1))→Ob (thA l11 (x56+(1:Int)) [vb b57,vb true,vb b59,vb b60,vb b61,vb b62,vb b63,vb b64] (0:Nat))∧Ob ((0:Nat)<(1:Nat))))∧(Ob (x66=Int.ofNat (2))→Ob (thA l11 (x56+(1:Int)) [vb b57,vb b58,vb true,vb b60,vb b61,vb b62,vb b63,vb b64] (0:Nat))∧Ob ((0:Nat)<(1:Nat))))∧(Ob (x66=Int.ofNat (3))→Ob (thA l11 (x56+(1:Int)) [vb b57,vb b58,vb b59,vb true,vb b61,vb b62,vb b63,vb b64] (0:Nat))∧Ob ((0:Nat)<(1:Nat))))∧(Ob (x66=Int.ofNat (4))→Ob (thA l11 (x56+(1:Int)) [vb b57,vb b58,vb b59,vb b60,vb true,vb b62,vb b63,vb b64] (0:Nat))∧Ob ((0:Nat)<(1:Nat))))∧(Ob (x66=Int.ofNat (5))→Ob (thA l11 (x56+(1:Int)) [vb b57,vb b58,vb b59,vb b60,vb b61,vb true,vb b63,vb b64] (0:Nat))∧Ob ((0:Nat)<(1:Nat))))∧(Ob (x66=Int.ofNat (6))→Ob (thA l11 (x56+(1:Int)) [vb b57,vb b58,vb b59,vb b60,vb b61,vb b62,vb true,vb b64] (0:Nat))∧Ob ((0:Nat)<(1:Nat))))∧(Ob (x66=Int.ofNat (7))→Ob (thA l11 (x56+(1:Int)) [vb b57,vb b58,vb b59,vb b60,vb b61,vb b62,vb b63,vb true] (0:Nat))∧Ob ((0:Nat)<(1:Nat))))∧∀ (g70:Nat→Value) (b71 b72 b73 b74 b75 b76 b77 b78:Bool),Ob (thA l11 (x56+(1:Int)) [vb b71,vb b72,vb b73,vb b74,vb b75,vb b76,vb b77,vb b78] (0:Nat))→(b69=true→(x56=(-1:Int)→Ob (R [vl l11,vn (0:Int)]))∧(¬x56=(-1:Int)→∀ (x79:Int),x79=w64 (x56+(1:Int))→Ob (delI (fstD l11) l11 l11 x56 x79∧thA l11 x79 [vn x79,vn x56,vb b71,vb b72,vb b73,vb b74,vb b75,vb b76,vb b77,vb b78,vl l11] (2:Nat))∧∀ (g80:Nat→Value) (x81 x82:Int) (b83 b84 b85 b86 b87 b88 b89 b90:Bool) (l91:LL),Ob (delI (fstD l11) l11 l91 x82 x81∧thA l11 x81 [vn x81,vn x82,vb b83,vb b84,vb b85,vb b86,vb b87,vb b88,vb b89,vb b90,vl l91] (2:Nat))→∀ (x92:Int),x92=(↑(List.length l91):Int)→(x81<x92→Ob ((0:Int)≤x81∧x81<(↑(List.length l91):Int))∧∀ (x93:Int),x93=x81→Ob ((0:Int)≤x93∧x93<(↑(List.length l91):Int))∧Ob (Shp [Kd.int IntKind.i64,Kd.int IntKind.i64] l91)∧∀ (x94 x95:Int),Ob (l91[Int.toNat x93]?=some [dn x94,dn x95])→(Ob ((0:Int)≤x94∧x94<(↑(8:Nat):Int))∧(((((((True∧(Ob (x94=Int.ofNat (0))→Ob (wasA l11 x81 x94 b83)∧Ob ((0:Nat)<(1:Nat))))∧(Ob (x94=Int.ofNat (1))→Ob (wasA l11 x81 x94 b84)∧Ob ((0:Nat)<(1:Nat))))∧(Ob (x94=Int.ofNat (2))→Ob (wasA l11 x81 x94 b85)∧Ob ((0:Nat)<(1:Nat))))∧(Ob (x94=Int.ofNat (3))→Ob (wasA l11 x81 x94 b86)∧Ob ((0:Nat)<(1:Nat))))∧(Ob (x94=Int.ofNat (4))→Ob (wasA l11 x81 x94 b87)∧Ob ((0:Nat)<(1:Nat))))∧(Ob (x94=Int.ofNat (5))→Ob (wasA l11 x81 x94 b88)∧Ob ((0:Nat)<(1:Nat))))∧(Ob (x94=Int.ofNat (6))→Ob (wasA l11 x81 x94 b89)∧Ob ((0:Nat)<(1:Nat))))∧(Ob (x94=Int.ofNat (7))→Ob (wasA l11 x81 x94 b90)∧Ob ((0:Nat)<(1:Nat))))∧∀ (g96:Nat→Value) (b97:Bool),Ob (wasA l11 x81 x94 b97)→(Ob ((0:Int)≤x94∧x94<(↑(8:Nat):Int))∧(((((((True∧(Ob (x94=Int.ofNat (0))→Ob (thA l11 (x81+(1:Int)) [vb true,vb b84,vb b85,vb b86,vb b87,vb b88,vb b89,vb b90] (0:Nat))∧Ob ((0:Nat)<(1:Nat))))∧(Ob (x94=Int.ofNat (1))→Ob (thA l11 (x81+(1:Int)) [vb b83,vb true,vb b85,vb b86,vb b87,vb b88,vb b89,vb b90] (0:Nat))∧Ob ((0:Nat)<(1:Nat))))∧(Ob (x94=Int.ofNat (2))→Ob (thA l11 (x81+(1:Int)) [vb b83,vb b84,vb true,vb b86,vb b87,vb b88,vb b89,vb b90] (0:Nat))∧Ob ((0:Nat)<(1:Nat))))∧(Ob (x94=Int.ofNat (3))→Ob (thA l11 (x81+(1:Int)) [vb b83,vb b84,vb b85,vb true,vb b87,vb b88,vb b89,vb b90] (0:Nat))∧Ob ((0:Nat)<(1:Nat))))∧(Ob (x94=Int.ofNat (4))→Ob (thA l11 (x81+(1:Int)) [vb b83,vb b84,vb b85,vb b86,vb true,vb b88,vb b89,vb b90] (0:Nat))∧Ob ((0:Nat)<(1:Nat))))∧(Ob (x94=Int.ofNat (5))→Ob (thA l11 (x81+(1:Int)) [vb b83,vb b84,vb b85,vb b86,vb b87,vb true,vb b89,vb b90] (0:Nat))∧Ob ((0:Nat)<(1:Nat))))∧(Ob (x94=Int.ofNat (6))→Ob (thA l11 (x81+(1:Int)) [vb b83,vb b84,vb b85,vb b86,vb b87,vb b88,vb true,vb b90] (0:Nat))∧Ob ((0:Nat)<(1:Nat))))∧(Ob (x94=Int.ofNat (7))→Ob (thA l11 (x81+(1:Int)) [vb b83,vb b84,vb b85,vb b86,vb b87,vb b88,vb b89,vb true] (0:Nat))∧Ob ((0:Nat)<(1:Nat))))∧∀ (g98:Nat→Value) (b99 b100 b101 b102 b103 b104 b105 b106:Bool),Ob (thA l11 (x81+(1:Int)) [vb b99,vb b100,vb b101,vb b102,vb b103,vb b104,vb b105,vb b106] (0:Nat))→(b97=false→Ob ((0:Int)≤x82∧x82<(↑(List.length l91):Int))∧∀ (x107:Int),x107=x82→Ob ((0:Int)≤x107∧x107<(↑(List.length l91):Int))∧∀ (l108:LL),l108=List.set l91 (Int.toNat x107) [dn x94,dn x95]→∀ (x109:Int),x109=w64 (x82+(1:Int))→∀ (x110:Int),x110=w64 (x81+(1:Int))→Ob (delI (fstD l11) l11 l108 x109 x110∧thA l11 x110 [vn x110,vn x109,vb b99,vb b100,vb b101,vb b102,vb b103,vb b104,vb b105,vb b106,vl l108] (2:Nat))∧Ob (List.length l11-Int.toNat x110<List.length l11-Int.toNat x81))∧(¬b97=false→∀ (x111:Int),x111=w64 (x81+(1:Int))→Ob (delI (fstD l11) l11 l91 x82 x111∧thA l11 x111 [vn x111,vn x82,vb b99,vb b100,vb b101,vb b102,vb b103,vb b104,vb b105,vb b106,vl l91] (2:Nat))∧Ob (List.length l11-Int.toNat x111<List.length l11-Int.toNat x81)))∧(¬x81<x92→Ob ((0:Int)≤x82∧x82≤(↑(List.length l91):Int))∧∀ (x112:Int),x112=x82→∀ (l113:LL),l113=List.take (Int.toNat x112) l91++List.replicate (List.length l91-Int.toNat x112) [dn (0:Int),dn (0:Int)]→Ob ((0:Int)≤x82∧x82≤(↑(List.length l113):Int))∧∀ (l114:LL),l114=List.take (Int.toNat x82) l113→Ob (R [vl l114,vn (0:Int)]))))∧(b69=false→∀ (x115:Int),x115=w64 (x56+(1:Int))→Ob ((0:Int)≤x115∧upto (fstD l11) x115∧thA l11 x115 [vn x115,vb b71,vb b72,vb b73,vb b74,vb b75,vb b76,vb b77,vb b78] (1:Nat))∧Ob (List.length l11-Int.toNat x115<List.length l11-Int.toNat x56)))∧(¬x56<x54→Ob (R [vl l11,vn (0:Int)]))))
set_option maxRecDepth 100000 in
theorem vcEq_bestF:vcFn Go.Proofs.Tryz.prog k0 (cxf [(242,t_descCheck),(295,t_lenU),(331,t_cmpI)] [(270002727019391086249149,0,none),(270003537027572144422408080478,0,some ⟨[0,3,1,2],[8],[],[kn],[⟨0,118,2,false, .row 4⟩],fun ρ ds=>1≤ni ds 0∧insI (ρ.d 3) (li ds 1) (ni ds 0),fun ρ ds=>(ρ.d 3).length-(ni ds 0).toNat,none⟩),(270003537027572144422408080478,2,some ⟨[0,3,1,2,8],[9],[],[kn],[⟨0,118,2,false, .row 4⟩],fun ρ ds=>0≤ni ds 0∧ni ds 0≤ρ.n 9∧insJ (ρ.d 3) (li ds 1) (ρ.n 9) (ni ds 0),fun ρ ds=>(ni ds 0).toNat,none⟩),(270005967066695495361547829794897254819134346244,0,none),(270002701027215129924212,500001,some ⟨[1,2],[4],[],[kb],[],fun ρ ds=>wasA (ρ.d 10) (ρ.n 14) (ρ.n 25) (bi ds 0),fun ρ ds=>0,none⟩),(270002701027215129924212,500002,some ⟨[1,2,4],[],[(11,0),(11,1),(11,2),(11,3),(11,4),(11,5),(11,6),(11,7)],[kb,kb,kb,kb,kb,kb,kb,kb],[],fun ρ ds=>thA (ρ.d 10) (ρ.n 14+1) ds 0,fun ρ ds=>0,none⟩),(270001891021541083,500001,some ⟨[1,2],[4],[],[kb],[],fun ρ ds=>wasA (ρ.d 10) (ρ.n 38) (ρ.n 52) (bi ds 0),fun ρ ds=>0,none⟩),(270001891021541083,500002,some ⟨[1,2,4],[],[(11,0),(11,1),(11,2),(11,3),(11,4),(11,5),(11,6),(11,7)],[kb,kb,kb,kb,kb,kb,kb,kb],[],fun ρ ds=>thA (ρ.d 10) (ρ.n 38+1) ds 0,fun ρ ds=>0,none⟩),(270001891021542065,0,some ⟨[0,1,7],[8],[(11,0),(11,1),(11,2),(11,3),(11,4),(11,5),(11,6),(11,7)],[kn,kb,kb,kb,kb,kb,kb,kb,kb],[],fun ρ ds=>0≤ni ds 0∧upto (fstD (ρ.d 10)) (ni ds 0)∧thA (ρ.d 10) (ni ds 0) ds 1,fun ρ ds=>(ρ.d 10).length-(ni ds 0).toNat,none⟩),(270001081018,0,some ⟨[0,1],[6,5],[(11,0),(11,1),(11,2),(11,3),(11,4),(11,5),(11,6),(11,7)],[kn,kn,kb,kb,kb,kb,kb,kb,kb,kb],[⟨0,118,2,false, .row 4⟩],fun ρ ds=>delI (fstD (ρ.d 10)) (ρ.d 10) (li ds 10) (ni ds 1) (ni ds 0)∧thA (ρ.d 10) (ni ds 0) ds 2,fun ρ ds=>(ρ.d 10).length-(ni ds 0).toNat,none⟩)] [(270002727019391086249149,26,true)] [(242,f_descCheck),(331,f_cmpI)]) 3000 270 Go.Proofs.Tryz.f270 (bodyOf Go.Proofs.Tryz.f270) t_bestF=V_bestF:=by kernel_rfl
set_option maxHeartbeats 4000000 in
set_option maxRecDepth 20000 in
theorem vcPf_bestF:V_bestF:=by
  delta V_bestF
  simp only [ob_iff,and_imp,forall_exists_index,true_and,and_true,List.cons.injEq,DV.c.injEq,DV.a.injEq,D.raw.injEq,D.fs.injEq,Value.bool.injEq,Value.int.injEq]
  intro l0 h1 h2 h3 R hR
  repeat' first | assumption | exact DShs.tail (DSh_nth (by assumption) (by assumption)) | exact shp32 (by assumption) | exact shp64 (by assumption) | exact shp2 (by assumption) | exact shpF (by assumption) | with_reducible intro _ | with_reducible apply And.intro
  all_goals (try (have h0:e_desc l0=0:=by (have e:=‹_=e_desc l0›;rw [←e];exact Decidable.not_not.1 (by assumption))))
  all_goals (try (have ho:=okD_of rfl h0 h2 h1))
  all_goals (try subst_vars)
  all_goals (try simp only [List.nil_append] at *)
  all_goals (try (have z1:=insI.len (by assumption)))
  all_goals (try (have z2:=insJ.len (by assumption)))
  all_goals (try (have z3:=delI.b (by assumption)))
  all_goals (try simp only [List.length_set,List.length_append,List.length_cons,List.length_nil,List.length_take,List.length_replicate] at *)
  all_goals (try simp (disch:=omega) only [w64_id,wu64,Int.sub_zero,Int.zero_add] at *)
  all_goals first
    | assumption
    | omega
    | (exfalso;omega)
    | trivial
    | exact shp2 h2
    | exact okD.shp (insI.ok (by assumption) ho)
    | exact okD.shp (delI.ok (by assumption) (insI.ok (by assumption) ho))
    | exact shp2 (insJ.ls (by assumption) h2)
    | exact shp2 (insI.ls (by assumption) h2)
    | (have z:=okD_nth (by assumption) (insI.ok (by assumption) ho);omega)
    | (have z:=okD_nth (by assumption) (delI.ok (by assumption) (insI.ok (by assumption) ho));omega)
    | exact insI.zero _
    | exact insI.into (by assumption)
    | exact insJ.step1 (by assumption) ‹cmpI _ _<0› (by omega) (by omega) (by assumption) (by assumption) (by assumption) (by assumption)
    | exact insJ.step2 (by assumption) ‹¬cmpI _ _≠0› ‹cmpI _ _<0› (by omega) (by omega) (by assumption) (by assumption) (by assumption) (by assumption)
    | exact insJ.out' (by assumption) (by omega) (by assumption) (by assumption) (by omega)
    | exact insJ.out0 (by assumption) (by omega)
    | exact upto_zero _
    | exact thA.zero (lt8 rfl rfl rfl rfl rfl rfl rfl rfl)
    | exact thA.mv (by assumption) (by exact lt8 rfl rfl rfl rfl rfl rfl rfl rfl)
    | exact upto_fst (by assumption) (by omega) (by assumption) (by assumption)
    | exact delI.zero (by omega) (by omega) (fun k hk=>‹upto (fstD _) _› k hk) (fst_no (by assumption) (by assumption)) (by omega)
    | exact delI.keep (by assumption) (by omega) (by assumption) (fst_yes (by assumption) (delI.at' (by assumption) (by assumption))) (by omega) (by omega)
    | exact delI.skip (by assumption) (by omega) (fst_no' (by assumption) (by assumption) (delI.at' (by assumption) (by assumption))) (by omega)
    | exact thA.was (by assumption) 0 (by decide) rfl
    | exact thA.was (by assumption) 1 (by decide) rfl
    | exact thA.was (by assumption) 2 (by decide) rfl
    | exact thA.was (by assumption) 3 (by decide) rfl
    | exact thA.was (by assumption) 4 (by decide) rfl
    | exact thA.was (by assumption) 5 (by decide) rfl
    | exact thA.was (by assumption) 6 (by decide) rfl
    | exact thA.was (by assumption) 7 (by decide) rfl
    | exact thA.set (by assumption) 0 (by first | assumption | exact delI.at' (by assumption) (by assumption)) (by omega) (by omega) (lt8 (by first | exact fun _=>rfl | exact fun h=>absurd rfl h) (by first | exact fun _=>rfl | exact fun h=>absurd rfl h) (by first | exact fun _=>rfl | exact fun h=>absurd rfl h) (by first | exact fun _=>rfl | exact fun h=>absurd rfl h) (by first | exact fun _=>rfl | exact fun h=>absurd rfl h) (by first | exact fun _=>rfl | exact fun h=>absurd rfl h) (by first | exact fun _=>rfl | exact fun h=>absurd rfl h) (by first | exact fun _=>rfl | exact fun h=>absurd rfl h)) rfl
    | exact thA.set (by assumption) 1 (by first | assumption | exact delI.at' (by assumption) (by assumption)) (by omega) (by omega) (lt8 (by first | exact fun _=>rfl | exact fun h=>absurd rfl h) (by first | exact fun _=>rfl | exact fun h=>absurd rfl h) (by first | exact fun _=>rfl | exact fun h=>absurd rfl h) (by first | exact fun _=>rfl | exact fun h=>absurd rfl h) (by first | exact fun _=>rfl | exact fun h=>absurd rfl h) (by first | exact fun _=>rfl | exact fun h=>absurd rfl h) (by first | exact fun _=>rfl | exact fun h=>absurd rfl h) (by first | exact fun _=>rfl | exact fun h=>absurd rfl h)) rfl
    | exact thA.set (by assumption) 2 (by first | assumption | exact delI.at' (by assumption) (by assumption)) (by omega) (by omega) (lt8 (by first | exact fun _=>rfl | exact fun h=>absurd rfl h) (by first | exact fun _=>rfl | exact fun h=>absurd rfl h) (by first | exact fun _=>rfl | exact fun h=>absurd rfl h) (by first | exact fun _=>rfl | exact fun h=>absurd rfl h) (by first | exact fun _=>rfl | exact fun h=>absurd rfl h) (by first | exact fun _=>rfl | exact fun h=>absurd rfl h) (by first | exact fun _=>rfl | exact fun h=>absurd rfl h) (by first | exact fun _=>rfl | exact fun h=>absurd rfl h)) rfl
    | exact thA.set (by assumption) 3 (by first | assumption | exact delI.at' (by assumption) (by assumption)) (by omega) (by omega) (lt8 (by first | exact fun _=>rfl | exact fun h=>absurd rfl h) (by first | exact fun _=>rfl | exact fun h=>absurd rfl h) (by first | exact fun _=>rfl | exact fun h=>absurd rfl h) (by first | exact fun _=>rfl | exact fun h=>absurd rfl h) (by first | exact fun _=>rfl | exact fun h=>absurd rfl h) (by first | exact fun _=>rfl | exact fun h=>absurd rfl h) (by first | exact fun _=>rfl | exact fun h=>absurd rfl h) (by first | exact fun _=>rfl | exact fun h=>absurd rfl h)) rfl
    | exact thA.set (by assumption) 4 (by first | assumption | exact delI.at' (by assumption) (by assumption)) (by omega) (by omega) (lt8 (by first | exact fun _=>rfl | exact fun h=>absurd rfl h) (by first | exact fun _=>rfl | exact fun h=>absurd rfl h) (by first | exact fun _=>rfl | exact fun h=>absurd rfl h) (by first | exact fun _=>rfl | exact fun h=>absurd rfl h) (by first | exact fun _=>rfl | exact fun h=>absurd rfl h) (by first | exact fun _=>rfl | exact fun h=>absurd rfl h) (by first | exact fun _=>rfl | exact fun h=>absurd rfl h) (by first | exact fun _=>rfl | exact fun h=>absurd rfl h)) rfl
    | exact thA.set (by assumption) 5 (by first | assumption | exact delI.at' (by assumption) (by assumption)) (by omega) (by omega) (lt8 (by first | exact fun _=>rfl | exact fun h=>absurd rfl h) (by first | exact fun _=>rfl | exact fun h=>absurd rfl h) (by first | exact fun _=>rfl | exact fun h=>absurd rfl h) (by first | exact fun _=>rfl | exact fun h=>absurd rfl h) (by first | exact fun _=>rfl | exact fun h=>absurd rfl h) (by first | exact fun _=>rfl | exact fun h=>absurd rfl h) (by first | exact fun _=>rfl | exact fun h=>absurd rfl h) (by first | exact fun _=>rfl | exact fun h=>absurd rfl h)) rfl
    | exact thA.set (by assumption) 6 (by first | assumption | exact delI.at' (by assumption) (by assumption)) (by omega) (by omega) (lt8 (by first | exact fun _=>rfl | exact fun h=>absurd rfl h) (by first | exact fun _=>rfl | exact fun h=>absurd rfl h) (by first | exact fun _=>rfl | exact fun h=>absurd rfl h) (by first | exact fun _=>rfl | exact fun h=>absurd rfl h) (by first | exact fun _=>rfl | exact fun h=>absurd rfl h) (by first | exact fun _=>rfl | exact fun h=>absurd rfl h) (by first | exact fun _=>rfl | exact fun h=>absurd rfl h) (by first | exact fun _=>rfl | exact fun h=>absurd rfl h)) rfl
    | exact thA.set (by assumption) 7 (by first | assumption | exact delI.at' (by assumption) (by assumption)) (by omega) (by omega) (lt8 (by first | exact fun _=>rfl | exact fun h=>absurd rfl h) (by first | exact fun _=>rfl | exact fun h=>absurd rfl h) (by first | exact fun _=>rfl | exact fun h=>absurd rfl h) (by first | exact fun _=>rfl | exact fun h=>absurd rfl h) (by first | exact fun _=>rfl | exact fun h=>absurd rfl h) (by first | exact fun _=>rfl | exact fun h=>absurd rfl h) (by first | exact fun _=>rfl | exact fun h=>absurd rfl h) (by first | exact fun _=>rfl | exact fun h=>absurd rfl h)) rfl
    | exact hR _ (best_e rfl (by assumption))
    | exact hR _ (best_ok h0 (bestL_all (by assumption) h2 (by omega) (by assumption) (by omega)))
    | exact hR _ (best_ok h0 (bestL_some (by assumption) h2 (by omega) (by assumption) (by omega)))
    | exact hR _ (best_ok h0 best_nil.symm)
    | skip
theorem con_bestF:Con Go.Proofs.Tryz.prog k0 270 t_bestF :=
  con_of (cxf_ok mixOk (fun p hp=>by
    simp only [List.mem_cons,List.not_mem_nil,or_false] at hp
    rcases hp with rfl | rfl | rfl
    · exact con_descCheck
    · exact con_lenU
    · exact con_cmpI) (fun p hp=>by
    simp only [List.mem_cons,List.not_mem_nil,or_false] at hp
    rcases hp with rfl | rfl
    · intro t ht;cases ht;exact fn_descCheck
    · intro t ht;cases ht;exact fn_cmpI)) Go.Proofs.Tryz.func270 rfl rfl rfl rfl vcEq_bestF vcPf_bestF
end Go.Vc

namespace Go.Vc
open Classical
def f_cacheCheckFA (aa:List DV):List DV:=[vn (if p_cacheB (ai aa 0) then 0 else 8)]
def t_cacheCheckFA:ConT:=⟨[rkS cacheS],[kn],fun aa=>DShs cacheS (ai aa 0)∧0<(gL (ai aa 0) 2).length,fun aa rs=>rs=f_cacheCheckFA aa⟩
def V_cacheCheckFA:Prop:=∀ (x0 x1:Int) (l2:LL),Ob (DShs cacheS [dn x0,dn x1,D.fs l2]∧(0:Nat)<List.length l2)→∀ (R:List DV→Prop),Ob (∀ (res:List DV),res=[vn (if p_cacheB [dn x0,dn x1,D.fs l2] then (0:Int) else (8:Int))]→R res)→(x0<(0:Int)→Ob (R [vn (8:Int)]))∧(¬x0<(0:Int)→(x0≥(8:Int)→Ob (R [vn (8:Int)]))∧(¬x0≥(8:Int)→(x1<(1:Int)→Ob (R [vn (8:Int)]))∧(¬x1<(1:Int)→(x1>(6:Int)→Ob (R [vn (8:Int)]))∧(¬x1>(6:Int)→∀ (x4:Int),x4=(↑(List.length l2):Int)→(x4>x1→Ob (R [vn (8:Int)]))∧(¬x4>x1→∀ (x5:Int),x5=(↑(List.length l2):Int)→∀ (x6:Int),x6=w64 ((0:Int)+x5)→Ob ¬x6<(0:Int)∧Ob ¬x6<(0:Int)∧∀ (x7:Int),x7=w64 (x6-w64 ((↑(0:Nat):Int)-(↑(0:Nat):Int)))→Ob (x7>(0:Int))∧Ob ((0:Int)<x7∧x7≤(65536:Int))∧∀ (l8:LL),l8=List.replicate (Int.toNat x7) [dn (0:Int),dn (0:Int)]→Ob ((0:Int)≤(↑(0:Nat):Int)∧(↑(0:Nat):Int)≤(↑(List.length l8):Int))∧∀ (l9:LL),l9=List.take (Int.toNat (↑(0:Nat):Int)) l8→Ob (Shp [Kd.int IntKind.i64,Kd.int IntKind.i64] l2∧List.length l9+List.length l2≤(1048576:Nat))∧∀ (l10:LL),l10=l9++l2→∀ (x11:Int),x11=(↑(List.length l10):Int)→Ob ((0:Int)≤(0:Int)∧upto (othD x0 l10) (0:Int))∧∀ (g12:Nat→Value) (x13:Int),Ob ((0:Int)≤x13∧upto (othD x0 l10) x13)→(x13<x11→Ob ((0:Int)≤x13∧x13<(↑(List.length l10):Int))∧∀ (x14:Int),x14=x13→Ob ((0:Int)≤x14∧x14<(↑(List.length l10):Int))∧Ob (Shp [Kd.int IntKind.i64,Kd.int IntKind.i64] l10)∧∀ (x15 x16:Int),Ob (l10[Int.toNat x14]?=some [dn x15,dn x16])→(x15=x0→(x13=(-1:Int)→Ob (LSh pairS l10∧List.length l10≤(12:Nat))∧∀ (l17:LL) (x18:Int),Ob ([vl l17,vn x18]=m_best l10)→(x18≠(0:Int)→Ob (R [vn (8:Int)]))∧(¬x18≠(0:Int)→Ob (LSh pairS l17∧LSh pairS l2)∧∀ (b19:Bool),Ob ([vb b19]=[vb (decide (l17=l2))])→(b19=false→Ob (R [vn (8:Int)]))∧(¬b19=false→Ob (R [vn (0:Int)]))))∧(¬x13=(-1:Int)→∀ (x20:Int),x20=w64 (x13+(1:Int))→Ob (delI (othD x0 l10) l10 l10 x13 x20)∧∀ (g21:Nat→Value) (x22 x23:Int) (l24:LL),Ob (delI (othD x0 l10) l10 l24 x23 x22)→∀ (x25:Int),x25=(↑(List.length l24):Int)→(x22<x25→Ob ((0:Int)≤x22∧x22<(↑(List.length l24):Int))∧∀ (x26:Int),x26=x22→Ob ((0:Int)≤x26∧x26<(↑(List.length l24):Int))∧Ob (Shp [Kd.int IntKind.i64,Kd.int IntKind.i64] l24)∧∀ (x27 x28:Int),Ob (l24[Int.toNat x26]?=some [dn x27,dn x28])→(x27=x0→∀ (x29:Int),x29=w64 (x22+(1:Int))→Ob (delI (othD x0 l10) l10 l24 x23 x29)∧Ob (List.length l10-Int.toNat x29<List.length l10-Int.toNat x22))∧(¬x27=x0→Ob ((0:Int)≤x23∧x23<(↑(List.length l24):Int))∧∀ (x30:Int),x30=x23→Ob ((0:Int)≤x30∧x30<(↑(List.length l24):Int))∧∀ (l31:LL),l31=List.set l24 (Int.toNat x30) [dn x27,dn x28]→∀ (x32:Int),x32=w64 (x23+(1:Int))→∀ (x33:Int),x33=w64 (x22+(1:Int))→Ob (delI (othD x0 l10) l10 l31 x32 x33)∧Ob (List.length l10-Int.toNat x33<List.length l10-Int.toNat x22)))∧(¬x22<x25→Ob ((0:Int)≤x23∧x23≤(↑(List.length l24):Int))∧∀ (x34:Int),x34=x23→∀ (l35:LL),l35=List.take (Int.toNat x34) l24++List.replicate (List.length l24-Int.toNat x34) [dn (0:Int),dn (0:Int)]→Ob ((0:Int)≤x23∧x23≤(↑(List.length l35):Int))∧∀ (l36:LL),l36=List.take (Int.toNat x23) l35→Ob (LSh pairS l36∧List.length l36≤(12:Nat))∧∀ (l37:LL) (x38:Int),Ob ([vl l37,vn x38]=m_best l36)→(x38≠(0:Int)→Ob (R [vn (8:Int)]))∧(¬x38≠(0:Int)→Ob (LSh pairS l37∧LSh pairS l2)∧∀ (b39:Bool),Ob ([vb b39]=[vb (decide (l37=l2))])→(b39=false→Ob (R [vn (8:Int)]))∧(¬b39=false→Ob (R [vn (0:Int)]))))))∧(¬x15=x0→∀ (x40:Int),x40=w64 (x13+(1:Int))→Ob ((0:Int)≤x40∧upto (othD x0 l10) x40)∧Ob (List.length l10-Int.toNat x40<List.length l10-Int.toNat x13)))∧(¬x13<x11→Ob (LSh pairS l10∧List.length l10≤(12:Nat))∧∀ (l41:LL) (x42:Int),Ob ([vl l41,vn x42]=m_best l10)→(x42≠(0:Int)→Ob (R [vn (8:Int)]))∧(¬x42≠(0:Int)→Ob (LSh pairS l41∧LSh pairS l2)∧∀ (b43:Bool),Ob ([vb b43]=[vb (decide (l41=l2))])→(b43=false→Ob (R [vn (8:Int)]))∧(¬b43=false→Ob (R [vn (0:Int)])))))))))
set_option maxRecDepth 100000 in
theorem vcEq_cacheCheckFA:vcFn Go.Proofs.Tryz.prog k0 (cxf [(188,t_descSame),(270,t_bestF)] [(142001078034228104,0,none),(142001078034228104,2,none),(142001504037461208980329,0,some ⟨[0,1,7],[8],[],[kn],[],fun ρ ds=>0≤ni ds 0∧upto (othD (ρ.n 0) (ρ.d 16)) (ni ds 0),fun ρ ds=>(ρ.d 16).length-(ni ds 0).toNat,none⟩),(142001078034227106,0,some ⟨[0,1],[6,5],[],[kn,kn],[⟨0,118,2,false, .row 17⟩],fun ρ ds=>delI (othD (ρ.n 0) (ρ.d 16)) (ρ.d 16) (li ds 2) (ni ds 1) (ni ds 0),fun ρ ds=>(ρ.d 16).length-(ni ds 0).toNat,none⟩)] [(142001078034228104,21,false),(142001504037462206984337,7,false),(142001504037462206984337,17,true)] [(188,f_descSame),(270,f_bestF)]) 3000 142 Go.Proofs.Tryz.f142 (bodyOf Go.Proofs.Tryz.f142) t_cacheCheckFA=V_cacheCheckFA:=by kernel_rfl
set_option maxHeartbeats 4000000 in
set_option maxRecDepth 20000 in
theorem vcPf_cacheCheckFA:V_cacheCheckFA:=by
  delta V_cacheCheckFA
  simp only [ob_iff,and_imp,forall_exists_index,true_and,and_true,List.cons.injEq,DV.c.injEq,DV.a.injEq,D.raw.injEq,D.fs.injEq,Value.bool.injEq,Value.int.injEq]
  intro x0 x1 l2 h0 hl R hR
  have hn:=(dsh_sl.1 (dshs_cons.1 (dshs_cons.1 (dshs_cons.1 h0).2).2).1).1
  have hs:=(dsh_sl.1 (dshs_cons.1 (dshs_cons.1 (dshs_cons.1 h0).2).2).1).2
  repeat' first | assumption | exact DShs.tail (DSh_nth (by assumption) (by assumption)) | exact shp32 (by assumption) | exact shp64 (by assumption) | exact shp2 (by assumption) | exact shpF (by assumption) | with_reducible intro _ | with_reducible apply And.intro
  all_goals (try subst_vars)
  all_goals (try simp only [Int.toNat_natCast,List.take_zero,List.nil_append] at *)
  all_goals (try (have z3:=delI.b (by assumption)))
  all_goals (try simp only [List.length_set,List.length_append,List.length_cons,List.length_nil,List.length_take,List.length_replicate] at *)
  all_goals (try simp (disch:=omega) only [w64_id,Int.sub_zero,Int.zero_add] at *)
  all_goals first
    | assumption
    | omega
    | (exfalso;omega)
    | exact shp2 hs
    | exact shp2 (delI.ls (by assumption) hs)
    | exact ⟨⟨hn,hs⟩,by omega⟩
    | exact upto_zero _
    | exact (upto_succ (by omega)).2 ⟨by assumption,othD_yes (by assumption) (by assumption)⟩
    | exact delI.zero (by omega) (by omega) (fun k hk=>‹upto (othD _ _) _› k hk) (othD_no (by assumption) rfl) (by omega)
    | exact delI.keep (by assumption) (by omega) (by assumption) (othD_yes (delI.at' (by assumption) (by assumption)) (by assumption)) (by omega) (by omega)
    | exact delI.skip (by assumption) (by omega) (othD_no (delI.at' (by assumption) (by assumption)) rfl) (by omega)
    | (rw [flt_some (by assumption) (by omega)];exact flt_ls hs)
    | exact (best_ls (flt_all (by assumption) (by omega)).symm (by assumption) hn hs).1
    | exact (best_ls (flt_some (by assumption) (by omega)) (by assumption) hn hs).1
    | exact (best_ls (flt_all (by assumption) (by omega)).symm (by assumption) hn hs).2
    | exact (best_ls (flt_some (by assumption) (by omega)) (by assumption) hn hs).2
    | exact hR _ (cc_no (cb_arg (by omega)))
    | exact hR _ (cc_no (cb_best (flt_all (by assumption) (by omega)).symm (by assumption) (by assumption)))
    | exact hR _ (cc_no (cb_best (flt_some (by assumption) (by omega)) (by assumption) (by assumption)))
    | exact hR _ (cc_no (cb_same (flt_all (by assumption) (by omega)).symm (by assumption) (Decidable.not_not.1 (by assumption)) (by assumption)))
    | exact hR _ (cc_no (cb_same (flt_some (by assumption) (by omega)) (by assumption) (Decidable.not_not.1 (by assumption)) (by assumption)))
    | exact hR _ (cc_yes (cb_ok (by omega) (flt_all (by assumption) (by omega)).symm (by assumption) (Decidable.not_not.1 (by assumption)) (by assumption)))
    | exact hR _ (cc_yes (cb_ok (by omega) (flt_some (by assumption) (by omega)) (by assumption) (Decidable.not_not.1 (by assumption)) (by assumption)))
    | skip
theorem con_cacheCheckFA:Con Go.Proofs.Tryz.prog k0 142 t_cacheCheckFA :=
  con_of (cxf_ok mixOk (fun p hp=>by
    simp only [List.mem_cons,List.not_mem_nil,or_false] at hp
    rcases hp with rfl | rfl
    · exact con_descSame
    · exact con_bestF) (fun p hp=>by
    simp only [List.mem_cons,List.not_mem_nil,or_false] at hp
    rcases hp with rfl | rfl
    · intro t ht;cases ht;exact fn_descSame
    · intro t ht;cases ht;exact fn_bestF)) Go.Proofs.Tryz.func142 rfl rfl rfl rfl vcEq_cacheCheckFA vcPf_cacheCheckFA
end Go.Vc

namespace Go.Vc
open Classical
def f_cacheCheckFB (aa:List DV):List DV:=[vn (if p_cacheB (ai aa 0) then 0 else 8)]
def t_cacheCheckFB:ConT:=⟨[rkS cacheS],[kn],fun aa=>DShs cacheS (ai aa 0)∧(gL (ai aa 0) 2).length=0,fun aa rs=>rs=f_cacheCheckFB aa⟩
def V_cacheCheckFB:Prop:=∀ (x0 x1:Int) (l2:LL),Ob (DShs cacheS [dn x0,dn x1,D.fs l2]∧List.length l2=(0:Nat))→∀ (R:List DV→Prop),Ob (∀ (res:List DV),res=[vn (if p_cacheB [dn x0,dn x1,D.fs l2] then (0:Int) else (8:Int))]→R res)→(x0<(0:Int)→Ob (R [vn (8:Int)]))∧(¬x0<(0:Int)→(x0≥(8:Int)→Ob (R [vn (8:Int)]))∧(¬x0≥(8:Int)→(x1<(1:Int)→Ob (R [vn (8:Int)]))∧(¬x1<(1:Int)→(x1>(6:Int)→Ob (R [vn (8:Int)]))∧(¬x1>(6:Int)→∀ (x4:Int),x4=(↑(List.length l2):Int)→(x4>x1→Ob (R [vn (8:Int)]))∧(¬x4>x1→∀ (x5:Int),x5=(↑(List.length l2):Int)→∀ (x6:Int),x6=w64 ((0:Int)+x5)→Ob ¬x6<(0:Int)∧Ob ¬x6<(0:Int)∧∀ (x7:Int),x7=w64 (x6-w64 ((↑(0:Nat):Int)-(↑(0:Nat):Int)))→Ob ¬x7>(0:Int)∧Ob (Shp [Kd.int IntKind.i64,Kd.int IntKind.i64] l2∧List.length ([]:LL)+List.length l2≤(1048576:Nat))∧∀ (l8:LL),l8=[]++l2→∀ (x9:Int),x9=(↑(List.length l8):Int)→Ob ¬(0:Int)<x9∧Ob (LSh pairS l8∧List.length l8≤(12:Nat))∧∀ (l10:LL) (x11:Int),Ob ([vl l10,vn x11]=m_best l8)→(x11≠(0:Int)→Ob (R [vn (8:Int)]))∧(¬x11≠(0:Int)→Ob (LSh pairS l10∧LSh pairS l2)∧∀ (b12:Bool),Ob ([vb b12]=[vb (decide (l10=l2))])→(b12=false→Ob (R [vn (8:Int)]))∧(¬b12=false→Ob (R [vn (0:Int)]))))))))
set_option maxRecDepth 100000 in
theorem vcEq_cacheCheckFB:vcFn Go.Proofs.Tryz.prog k0 (cxf [(188,t_descSame),(270,t_bestF)] [(142001078034228104,0,none),(142001078034228104,2,none),(142001504037461208980329,0,none)] [(142001078034228104,21,false),(142001504037462206984337,7,false),(142001504037462206984337,17,false),(142001504037461208980329,10,false)] [(188,f_descSame),(270,f_bestF)]) 3000 142 Go.Proofs.Tryz.f142 (bodyOf Go.Proofs.Tryz.f142) t_cacheCheckFB=V_cacheCheckFB:=by kernel_rfl
set_option maxHeartbeats 4000000 in
set_option maxRecDepth 20000 in
theorem vcPf_cacheCheckFB:V_cacheCheckFB:=by
  delta V_cacheCheckFB
  simp only [ob_iff,and_imp,forall_exists_index,true_and,and_true,List.cons.injEq,DV.c.injEq,DV.a.injEq,D.raw.injEq,D.fs.injEq,Value.bool.injEq,Value.int.injEq]
  intro x0 x1 l2 h0 hl R hR
  obtain rfl:=List.length_eq_zero_iff.1 hl
  have hn:([]:LL).length≤9223372036854775807:=by simp
  have hs:LS pairS []:=ls_nil
  repeat' first | assumption | exact DShs.tail (DSh_nth (by assumption) (by assumption)) | exact shp32 (by assumption) | exact shp64 (by assumption) | exact shp2 (by assumption) | exact shpF (by assumption) | with_reducible intro _ | with_reducible apply And.intro
  all_goals (try (have hl:=nil_of (by assumption);subst hl))
  all_goals (try subst_vars)
  all_goals (try simp only [Int.toNat_natCast,List.take_zero,List.nil_append] at *)
  all_goals (try (have z3:=delI.b (by assumption)))
  all_goals (try simp only [List.length_set,List.length_append,List.length_cons,List.length_nil,List.length_take,List.length_replicate] at *)
  all_goals (try simp (disch:=omega) only [w64_id,Int.sub_zero,Int.zero_add] at *)
  all_goals first
    | assumption
    | omega
    | (exfalso;omega)
    | exact shp2 hs
    | exact shp2 (delI.ls (by assumption) hs)
    | exact ⟨⟨hn,hs⟩,by omega⟩
    | exact upto_zero _
    | exact (upto_succ (by omega)).2 ⟨by assumption,othD_yes (by assumption) (by assumption)⟩
    | exact delI.zero (by omega) (by omega) (fun k hk=>‹upto (othD _ _) _› k hk) (othD_no (by assumption) rfl) (by omega)
    | exact delI.keep (by assumption) (by omega) (by assumption) (othD_yes (delI.at' (by assumption) (by assumption)) (by assumption)) (by omega) (by omega)
    | exact delI.skip (by assumption) (by omega) (othD_no (delI.at' (by assumption) (by assumption)) rfl) (by omega)
    | (rw [flt_some (by assumption) (by omega)];exact flt_ls hs)
    | exact (best_ls (flt_all (by assumption) (by omega)).symm (by assumption) hn hs).1
    | exact (best_ls (flt_some (by assumption) (by omega)) (by assumption) hn hs).1
    | exact (best_ls (flt_all (by assumption) (by omega)).symm (by assumption) hn hs).2
    | exact (best_ls (flt_some (by assumption) (by omega)) (by assumption) hn hs).2
    | exact hR _ (cc_no (cb_arg (by omega)))
    | exact hR _ (cc_no (cb_best (flt_all (by assumption) (by omega)).symm (by assumption) (by assumption)))
    | exact hR _ (cc_no (cb_best (flt_some (by assumption) (by omega)) (by assumption) (by assumption)))
    | exact hR _ (cc_no (cb_same (flt_all (by assumption) (by omega)).symm (by assumption) (Decidable.not_not.1 (by assumption)) (by assumption)))
    | exact hR _ (cc_no (cb_same (flt_some (by assumption) (by omega)) (by assumption) (Decidable.not_not.1 (by assumption)) (by assumption)))
    | exact hR _ (cc_yes (cb_ok (by omega) (flt_all (by assumption) (by omega)).symm (by assumption) (Decidable.not_not.1 (by assumption)) (by assumption)))
    | exact hR _ (cc_yes (cb_ok (by omega) (flt_some (by assumption) (by omega)) (by assumption) (Decidable.not_not.1 (by assumption)) (by assumption)))
    | (exfalso;simp at *;done)
    | exact shp_nil
    | (simp;done)
    | (simp;omega)
    | exact (best_ls (flt_nil (own:=0)).symm (by assumption) hn hs).1
    | exact (best_ls (flt_nil (own:=0)).symm (by assumption) hn hs).2
    | exact hR _ (cc_no (cb_best flt_nil.symm (by assumption) (by assumption)))
    | exact hR _ (cc_no (cb_same flt_nil.symm (by assumption) (Decidable.not_not.1 (by assumption)) (by assumption)))
    | exact hR _ (cc_yes (cb_ok (by simp;omega) flt_nil.symm (by assumption) (Decidable.not_not.1 (by assumption)) (by assumption)))
    | skip
theorem con_cacheCheckFB:Con Go.Proofs.Tryz.prog k0 142 t_cacheCheckFB :=
  con_of (cxf_ok mixOk (fun p hp=>by
    simp only [List.mem_cons,List.not_mem_nil,or_false] at hp
    rcases hp with rfl | rfl
    · exact con_descSame
    · exact con_bestF) (fun p hp=>by
    simp only [List.mem_cons,List.not_mem_nil,or_false] at hp
    rcases hp with rfl | rfl
    · intro t ht;cases ht;exact fn_descSame
    · intro t ht;cases ht;exact fn_bestF)) Go.Proofs.Tryz.func142 rfl rfl rfl rfl vcEq_cacheCheckFB vcPf_cacheCheckFB
end Go.Vc

namespace Go.Vc
open Classical
theorem Con.or {P:Program} {K:Nat→Option (List Value)} {f:FuncId} {a r:List RK} {p p1 p2:List DV→Prop} {q:List DV→List DV→Prop} (h1:Con P K f ⟨a,r,p1,q⟩) (h2:Con P K f ⟨a,r,p2,q⟩) (h:∀ aa,p aa→p1 aa∨p2 aa):Con P K f ⟨a,r,p,q⟩ :=
  ⟨h1.1,fun F hF n G w aa us h3 h4 h5 hp=>(h aa hp).elim (fun hq=>h1.2 F hF n G w aa us h3 h4 h5 hq) fun hq=>h2.2 F hF n G w aa us h3 h4 h5 hq⟩
def f_cacheCheckF:List DV→List DV:=f_cacheCheckFA
def t_cacheCheckF:ConT:=⟨t_cacheCheckFA.args,t_cacheCheckFA.res,fun aa=>DShs cacheS (ai aa 0),t_cacheCheckFA.post⟩
theorem fn_cacheCheckF:∀ aa,t_cacheCheckF.pre aa→∀ rs,t_cacheCheckF.post aa rs→rs=f_cacheCheckF aa:=fun _ _ _ h=>h
theorem con_cacheCheckF:Con Go.Proofs.Tryz.prog k0 142 t_cacheCheckF :=
  Con.or con_cacheCheckFA con_cacheCheckFB fun aa h=>(Nat.eq_zero_or_pos (gL (ai aa 0) 2).length).elim (fun h0=>.inr ⟨h,h0⟩) fun h0=>.inl ⟨h,h0⟩
end Go.Vc
