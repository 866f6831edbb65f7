import Derived.Test.YtneooimijbfmgaaGreatProg
import Derived.KernelRfl
import Derived.Test.YtneooimijbfmgaaGreatWbAR
import Derived.Test.YtneooimijbfmgaaGreatWbAS
import Derived.Test.YtneooimijbfmgaaGreatWbAT
import Derived.Test.YtneooimijbfmgaaGreatWbAU
import Derived.Test.YtneooimijbfmgaaGreatWbAV
import Derived.Test.YtneooimijbfmgaaGreatWbAW
set_option linter.unusedVariables false
set_option linter.unusedSimpArgs false
set_option linter.unusedSectionVars false
noncomputable section
namespace Go.Vc
open Classical
def f_dyOf (aa:List DV):List DV:=[.a (dyOf (ni aa 0))]
def t_dyOf:ConT:=⟨[kn],[⟨(dyS).map Sh.kd,true,true⟩],fun aa=>inV (ni aa 0),fun aa rs=>rs=f_dyOf aa⟩
theorem fn_dyOf:∀ aa,t_dyOf.pre aa→∀ rs,t_dyOf.post aa rs→rs=f_dyOf aa:=fun _ _ _ h=>h
def V_dyOf:Prop:=∀ (x0:Int),Ob (inV x0)→∀ (R:List DV→Prop),Ob (∀ (res:List DV),res=[DV.a [db (decide (x0<(0:Int))),D.fs (if x0=(0:Int) then [] else [[d32 (↑(Int.natAbs x0):Int)]]),dn (0:Int)]]→R res)→(x0<(0:Int)→∀ (x2:Int),x2=IntKind.wrap IntKind.u64 x0→∀ (x3:Int),x3=IntKind.wrap IntKind.u32 x2→Ob ((0:Int)≤(32:Int))∧∀ (x4:Int),x4=Int.fdiv x2 ((2:Int) ^ min (Int.toNat (32:Int)) (IntKind.bits IntKind.u64))→∀ (x5:Int),x5=IntKind.wrap IntKind.u32 x4→(x5=(0:Int)→(x3=(0:Int)→∀ (x6:Int),x6=IntKind.wrap IntKind.u64 x0→∀ (x7:Int),x7=IntKind.wrap IntKind.u64 ((0:Int)-x6)→∀ (x8:Int),x8=IntKind.wrap IntKind.u32 x7→Ob ((0:Int)≤(32:Int))∧∀ (x9:Int),x9=Int.fdiv x7 ((2:Int) ^ min (Int.toNat (32:Int)) (IntKind.bits IntKind.u64))→∀ (x10:Int),x10=IntKind.wrap IntKind.u32 x9→(x10=(0:Int)→(x8=(0:Int)→Ob (R [DV.a [db true,D.fs [],dn (0:Int)]]))∧(¬x8=(0:Int)→∀ (l11:LL),l11=[[d32 x8]]→Ob (R [DV.a [db true,D.fs l11,dn (0:Int)]])))∧(¬x10=(0:Int)→∀ (l12:LL),l12=[[d32 x8],[d32 x10]]→Ob (R [DV.a [db true,D.fs l12,dn (0:Int)]])))∧(¬x3=(0:Int)→∀ (x13:Int),x13=IntKind.wrap IntKind.u64 x0→∀ (x14:Int),x14=IntKind.wrap IntKind.u64 ((0:Int)-x13)→∀ (x15:Int),x15=IntKind.wrap IntKind.u32 x14→Ob ((0:Int)≤(32:Int))∧∀ (x16:Int),x16=Int.fdiv x14 ((2:Int) ^ min (Int.toNat (32:Int)) (IntKind.bits IntKind.u64))→∀ (x17:Int),x17=IntKind.wrap IntKind.u32 x16→(x17=(0:Int)→(x15=(0:Int)→Ob (R [DV.a [db true,D.fs [],dn (0:Int)]]))∧(¬x15=(0:Int)→∀ (l18:LL),l18=[[d32 x15]]→Ob (R [DV.a [db true,D.fs l18,dn (0:Int)]])))∧(¬x17=(0:Int)→∀ (l19:LL),l19=[[d32 x15],[d32 x17]]→Ob (R [DV.a [db true,D.fs l19,dn (0:Int)]]))))∧(¬x5=(0:Int)→∀ (x20:Int),x20=IntKind.wrap IntKind.u64 x0→∀ (x21:Int),x21=IntKind.wrap IntKind.u64 ((0:Int)-x20)→∀ (x22:Int),x22=IntKind.wrap IntKind.u32 x21→Ob ((0:Int)≤(32:Int))∧∀ (x23:Int),x23=Int.fdiv x21 ((2:Int) ^ min (Int.toNat (32:Int)) (IntKind.bits IntKind.u64))→∀ (x24:Int),x24=IntKind.wrap IntKind.u32 x23→(x24=(0:Int)→(x22=(0:Int)→Ob (R [DV.a [db true,D.fs [],dn (0:Int)]]))∧(¬x22=(0:Int)→∀ (l25:LL),l25=[[d32 x22]]→Ob (R [DV.a [db true,D.fs l25,dn (0:Int)]])))∧(¬x24=(0:Int)→∀ (l26:LL),l26=[[d32 x22],[d32 x24]]→Ob (R [DV.a [db true,D.fs l26,dn (0:Int)]]))))∧(¬x0<(0:Int)→∀ (x27:Int),x27=IntKind.wrap IntKind.u64 x0→∀ (x28:Int),x28=IntKind.wrap IntKind.u32 x27→Ob ((0:Int)≤(32:Int))∧∀ (x29:Int),x29=Int.fdiv x27 ((2:Int) ^ min (Int.toNat (32:Int)) (IntKind.bits IntKind.u64))→∀ (x30:Int),x30=IntKind.wrap IntKind.u32 x29→(x30=(0:Int)→(x28=(0:Int)→Ob (R [DV.a [db false,D.fs [],dn (0:Int)]]))∧(¬x28=(0:Int)→∀ (l31:LL),l31=[[d32 x28]]→Ob (R [DV.a [db false,D.fs l31,dn (0:Int)]])))∧(¬x30=(0:Int)→∀ (l32:LL),l32=[[d32 x28],[d32 x30]]→Ob (R [DV.a [db false,D.fs l32,dn (0:Int)]])))
set_option maxRecDepth 100000 in
theorem vcEq_dyOf:vcFn Go.Proofs.Tryz.prog k0 (cxf [] [] [] []).un 3000 45 Go.Proofs.Tryz.f45 (bodyOf Go.Proofs.Tryz.f45) t_dyOf=V_dyOf:=by kernel_rfl
set_option maxHeartbeats 4000000 in
set_option maxRecDepth 20000 in
theorem vcPf_dyOf:V_dyOf:=by
  delta V_dyOf
  simp only [ob_iff,and_imp,forall_exists_index,true_and,and_true,List.cons.injEq,DV.c.injEq,DV.a.injEq,D.raw.injEq,D.fs.injEq,Value.bool.injEq,Value.int.injEq]
  intro x0 hv R hR
  obtain ⟨hv1,hv2⟩:=hv
  repeat' first | assumption | exact DShs.tail (DSh_nth (by assumption) (by assumption)) | exact shp32 (by assumption) | exact shp64 (by assumption) | exact shp2 (by assumption) | exact shpF (by assumption) | with_reducible intro _ | with_reducible apply And.intro
  all_goals first
    | omega
    | (have hp:(2:Int) ^ min (Int.toNat (32:Int)) (IntKind.bits IntKind.u64)=4294967296:=by decide
       have hq:∀ x:Int,Int.fdiv x 4294967296=x / 4294967296:=fun x=>Int.fdiv_eq_ediv_of_nonneg x (by decide)
       refine hR _ ?_
       simp only [hp,hq] at *
       clear hp hq
       simp only [IntKind.wrap,IntKind.bits,IntKind.signed] at *
       simp at *
       subst_vars
       first
         | (exfalso;omega)
         | omega
         | (simp;omega)
         | (split <;> first | (exfalso;omega) | (simp;omega)))
theorem con_dyOf:Con Go.Proofs.Tryz.prog k0 45 t_dyOf :=
  con_of (Cx.un_ok (cxf_ok mixOk (fun p hp=>by cases hp) (fun p hp=>by cases hp))) Go.Proofs.Tryz.func45 rfl rfl rfl rfl vcEq_dyOf vcPf_dyOf
end Go.Vc

namespace Go.Vc
open Classical
def f_massSeed (aa:List DV):List DV:=[.a (massOf (ni aa 0) (bi aa 1)),vn 0]
def t_massSeed:ConT:=⟨[kn,kb],[⟨(massS).map Sh.kd,true,true⟩,kn],fun aa=>inV (ni aa 0),fun aa rs=>rs=f_massSeed aa⟩
theorem fn_massSeed:∀ aa,t_massSeed.pre aa→∀ rs,t_massSeed.post aa rs→rs=f_massSeed aa:=fun _ _ _ h=>h
def V_massSeed:Prop:=∀ (x0:Int) (b1:Bool),Ob (inV x0)→∀ (R:List DV→Prop),Ob (∀ (res:List DV),res=[DV.a [db (decide (x0<(0:Int))),D.fs (if x0=(0:Int) then [] else [[d32 (↑(Int.natAbs x0):Int)]]),dn (0:Int),db false,D.fs [[d32 (1:Int)]],dn (0:Int),db false,D.fs (if b1=true then [[d32 (1:Int)]] else []),dn (0:Int),db (decide (x0<(0:Int))),D.fs (if x0=(0:Int) then [] else [[d32 (↑(Int.natAbs x0):Int)]]),dn (0:Int)],vn (0:Int)]→R res)→(x0<(-2147483647:Int)→Ob (R [DV.a [db false,D.fs [],dn (0:Int),db false,D.fs [],dn (0:Int),db false,D.fs [],dn (0:Int),db false,D.fs [],dn (0:Int)],vn (2:Int)]))∧(¬x0<(-2147483647:Int)→(x0>(2147483647:Int)→Ob (R [DV.a [db false,D.fs [],dn (0:Int),db false,D.fs [],dn (0:Int),db false,D.fs [],dn (0:Int),db false,D.fs [],dn (0:Int)],vn (2:Int)]))∧(¬x0>(2147483647:Int)→Ob (inV x0)∧∀ (b3:Bool) (l4:LL) (x5:Int),Ob ([DV.a [db b3,D.fs l4,dn x5]]=[DV.a [db (decide (x0<(0:Int))),D.fs (if x0=(0:Int) then [] else [[d32 (↑(Int.natAbs x0):Int)]]),dn (0:Int)]])→Ob (inV (1:Int))∧∀ (b6:Bool) (l7:LL) (x8:Int),Ob ([DV.a [db b6,D.fs l7,dn x8]]=[DV.a [db (decide ((1:Int)<(0:Int))),D.fs [[d32 (↑(Int.natAbs (1:Int)):Int)]],dn (0:Int)]])→Ob (inV x0)∧∀ (b9:Bool) (l10:LL) (x11:Int),Ob ([DV.a [db b9,D.fs l10,dn x11]]=[DV.a [db (decide (x0<(0:Int))),D.fs (if x0=(0:Int) then [] else [[d32 (↑(Int.natAbs x0):Int)]]),dn (0:Int)]])→(b1=true→Ob (inV (1:Int))∧∀ (b12:Bool) (l13:LL) (x14:Int),Ob ([DV.a [db b12,D.fs l13,dn x14]]=[DV.a [db (decide ((1:Int)<(0:Int))),D.fs [[d32 (↑(Int.natAbs (1:Int)):Int)]],dn (0:Int)]])→Ob (R [DV.a [db b3,D.fs l4,dn x5,db b6,D.fs l7,dn x8,db b12,D.fs l13,dn x14,db b9,D.fs l10,dn x11],vn (0:Int)]))∧(b1=false→Ob (R [DV.a [db b3,D.fs l4,dn x5,db b6,D.fs l7,dn x8,db false,D.fs [],dn (0:Int),db b9,D.fs l10,dn x11],vn (0:Int)]))))
set_option maxRecDepth 100000 in
theorem vcEq_massSeed:vcFn Go.Proofs.Tryz.prog k0 (cxf [(45,t_dyOf)] [] [] [(45,f_dyOf)]).un 3000 202 Go.Proofs.Tryz.f202 (bodyOf Go.Proofs.Tryz.f202) t_massSeed=V_massSeed:=by kernel_rfl
set_option maxHeartbeats 4000000 in
set_option maxRecDepth 20000 in
theorem vcPf_massSeed:V_massSeed:=by
  delta V_massSeed
  simp only [ob_iff,and_imp,forall_exists_index,true_and,and_true,List.cons.injEq,DV.c.injEq,DV.a.injEq,D.raw.injEq,D.fs.injEq,Value.bool.injEq,Value.int.injEq]
  intro x0 b1 hv R hR
  have hv0:=hv
  obtain ⟨hv1,hv2⟩:=hv
  repeat' first | assumption | exact DShs.tail (DSh_nth (by assumption) (by assumption)) | exact shp32 (by assumption) | exact shp64 (by assumption) | exact shp2 (by assumption) | exact shpF (by assumption) | with_reducible intro _ | with_reducible apply And.intro
  all_goals first
    | assumption
    | omega
    | (exact ⟨by omega,by omega⟩)
    | ((refine hR _ ?_;subst_vars;simp [massOf]))
theorem con_massSeed:Con Go.Proofs.Tryz.prog k0 202 t_massSeed :=
  con_of (Cx.un_ok (cxf_ok mixOk (fun p hp=>by
    simp only [List.mem_cons,List.not_mem_nil,or_false] at hp
    subst hp
    exact con_dyOf) (fun p hp=>by
    simp only [List.mem_cons,List.not_mem_nil,or_false] at hp
    subst hp
    · intro t ht;cases ht;exact fn_dyOf))) Go.Proofs.Tryz.func202 rfl rfl rfl rfl vcEq_massSeed vcPf_massSeed
end Go.Vc

namespace Go.Vc
open Classical
def f_edgeOf (aa:List DV):List DV:=[.a [db true,dn (ni aa 0),dn (ni aa 0)],vn 0]
def t_edgeOf:ConT:=⟨[kn],[rkS edgeS,kn],fun aa=>inV (ni aa 0),fun aa rs=>rs=f_edgeOf aa⟩
theorem fn_edgeOf:∀ aa,t_edgeOf.pre aa→∀ rs,t_edgeOf.post aa rs→rs=f_edgeOf aa:=fun _ _ _ h=>h
def V_edgeOf:Prop:=∀ (x0:Int),Ob (inV x0)→∀ (R:List DV→Prop),Ob (∀ (res:List DV),res=[DV.a [db true,dn x0,dn x0],vn (0:Int)]→R res)→(x0≥(-2147483647:Int)→(x0≤(2147483647:Int)→∀ (x2:Int),x2=min x0 x0→∀ (x3:Int),x3=max x0 x0→Ob (R [DV.a [db true,dn x2,dn x3],vn (0:Int)]))∧(¬x0≤(2147483647:Int)→Ob (R [DV.a [db false,dn (0:Int),dn (0:Int)],vn (2:Int)])))∧(¬x0≥(-2147483647:Int)→Ob (R [DV.a [db false,dn (0:Int),dn (0:Int)],vn (2:Int)]))
set_option maxRecDepth 100000 in
theorem vcEq_edgeOf:vcFn Go.Proofs.Tryz.prog k0 (cxf [] [] [] []).un 3000 203 Go.Proofs.Tryz.f203 (bodyOf Go.Proofs.Tryz.f203) t_edgeOf=V_edgeOf:=by kernel_rfl
set_option maxHeartbeats 4000000 in
set_option maxRecDepth 20000 in
theorem vcPf_edgeOf:V_edgeOf:=by
  delta V_edgeOf
  simp only [ob_iff,and_imp,forall_exists_index,true_and,and_true,List.cons.injEq,DV.c.injEq,DV.a.injEq,D.raw.injEq,D.fs.injEq,Value.bool.injEq,Value.int.injEq]
  intro x0 hv R hR
  obtain ⟨hv1,hv2⟩:=hv
  repeat' first | assumption | exact DShs.tail (DSh_nth (by assumption) (by assumption)) | exact shp32 (by assumption) | exact shp64 (by assumption) | exact shp2 (by assumption) | exact shpF (by assumption) | with_reducible intro _ | with_reducible apply And.intro
  all_goals first
    | assumption
    | omega
    | ((refine hR _ ?_;subst_vars;simp))
theorem con_edgeOf:Con Go.Proofs.Tryz.prog k0 203 t_edgeOf :=
  con_of (Cx.un_ok (cxf_ok mixOk (fun p hp=>by cases hp) (fun p hp=>by cases hp))) Go.Proofs.Tryz.func203 rfl rfl rfl rfl vcEq_edgeOf vcPf_edgeOf
end Go.Vc

namespace Go.Vc
open Classical
def f_stir (aa:List DV):List DV:=[v32 (stir (ni aa 0))]
def t_stir:ConT:=⟨[⟨[.int .u32],false,false⟩],[⟨[.int .u32],false,false⟩],fun aa=>True,fun aa rs=>rs=f_stir aa⟩
theorem fn_stir:∀ aa,t_stir.pre aa→∀ rs,t_stir.post aa rs→rs=f_stir aa:=fun _ _ _ h=>h
def V_stir:Prop:=∀ (x0:Int),Ob True→∀ (R:List DV→Prop),Ob (∀ (res:List DV),res=[v32 (stir x0)]→R res)→∀ (x2:Int),x2=IntKind.wrap IntKind.u32 (x0*(2654435769:Int))→Ob ((0:Int)≤(15:Int))∧∀ (x3:Int),x3=Int.fdiv x2 ((2:Int) ^ min (Int.toNat (15:Int)) (IntKind.bits IntKind.u32))→∀ (x4:Int),x4=bXor IntKind.u32 x2 x3→∀ (x5:Int),x5=IntKind.wrap IntKind.u32 (x4*(2654435769:Int))→Ob ((0:Int)≤(13:Int))∧∀ (x6:Int),x6=Int.fdiv x5 ((2:Int) ^ min (Int.toNat (13:Int)) (IntKind.bits IntKind.u32))→∀ (x7:Int),x7=bXor IntKind.u32 x5 x6→∀ (x8:Int),x8=IntKind.wrap IntKind.u32 (x7*(2654435769:Int))→Ob ((0:Int)≤(16:Int))∧∀ (x9:Int),x9=Int.fdiv x8 ((2:Int) ^ min (Int.toNat (16:Int)) (IntKind.bits IntKind.u32))→∀ (x10:Int),x10=bXor IntKind.u32 x8 x9→Ob (R [v32 x10])
set_option maxRecDepth 100000 in
theorem vcEq_stir:vcFn Go.Proofs.Tryz.prog k0 (cxf [] [] [] []).un 3000 263 Go.Proofs.Tryz.f263 (bodyOf Go.Proofs.Tryz.f263) t_stir=V_stir:=by kernel_rfl
set_option maxHeartbeats 4000000 in
set_option maxRecDepth 20000 in
theorem vcPf_stir:V_stir:=by
  delta V_stir
  simp only [ob_iff,and_imp,forall_exists_index,true_and,and_true,List.cons.injEq,DV.c.injEq,DV.a.injEq,D.raw.injEq,D.fs.injEq,Value.bool.injEq,Value.int.injEq]
  repeat' first | assumption | exact DShs.tail (DSh_nth (by assumption) (by assumption)) | exact shp32 (by assumption) | exact shp64 (by assumption) | exact shp2 (by assumption) | exact shpF (by assumption) | with_reducible intro _ | with_reducible apply And.intro
  all_goals first
    | assumption
    | omega
    | ((have hR:=‹∀ res:List DV,_=_→_›;refine hR _ ?_;subst_vars;rfl))
theorem con_stir:Con Go.Proofs.Tryz.prog k0 263 t_stir :=
  con_of (Cx.un_ok (cxf_ok mixOk (fun p hp=>by cases hp) (fun p hp=>by cases hp))) Go.Proofs.Tryz.func263 rfl rfl rfl rfl vcEq_stir vcPf_stir
end Go.Vc

namespace Go.Vc
open Classical
def f_less32 (aa:List DV):List DV:=[vb (decide (ni aa 0<ni aa 1))]
def t_less32:ConT:=⟨[⟨[.int .u32],false,false⟩,⟨[.int .u32],false,false⟩],[kb],fun aa=>True,fun aa rs=>rs=f_less32 aa⟩
theorem fn_less32:∀ aa,t_less32.pre aa→∀ rs,t_less32.post aa rs→rs=f_less32 aa:=fun _ _ _ h=>h
def V_less32:Prop:=∀ (x0 x1:Int),Ob True→∀ (R:List DV→Prop),Ob (∀ (res:List DV),res=[vb (decide (x0<x1))]→R res)→(x0≠x0→(x1≠x1→(x0<x1→Ob (R [vb true]))∧(¬x0<x1→Ob (R [vb false])))∧(¬x1≠x1→Ob (R [vb true])))∧(¬x0≠x0→(x0<x1→Ob (R [vb true]))∧(¬x0<x1→Ob (R [vb false])))
set_option maxRecDepth 100000 in
theorem vcEq_less32:vcFn Go.Proofs.Tryz.prog k0 (cxf [] [] [] []) 3000 313 Go.Proofs.Tryz.f313 (bodyOf Go.Proofs.Tryz.f313) t_less32=V_less32:=by kernel_rfl
set_option maxHeartbeats 4000000 in
set_option maxRecDepth 20000 in
theorem vcPf_less32:V_less32:=by
  delta V_less32
  simp only [ob_iff,and_imp,forall_exists_index,true_and,and_true,List.cons.injEq,DV.c.injEq,DV.a.injEq,D.raw.injEq,D.fs.injEq,Value.bool.injEq,Value.int.injEq]
  repeat' first | assumption | exact DShs.tail (DSh_nth (by assumption) (by assumption)) | exact shp32 (by assumption) | exact shp64 (by assumption) | exact shp2 (by assumption) | exact shpF (by assumption) | with_reducible intro _ | with_reducible apply And.intro
  all_goals first
    | assumption
    | omega
    | ((have hR:=‹∀ res:List DV,_=_→_›;refine hR _ ?_;simp;omega))
    | ((have hR:=‹∀ res:List DV,_=_→_›;refine hR _ ?_;simp [*]))
theorem con_less32:Con Go.Proofs.Tryz.prog k0 313 t_less32 :=
  con_of (cxf_ok mixOk (fun p hp=>by cases hp) (fun p hp=>by cases hp)) Go.Proofs.Tryz.func313 rfl rfl rfl rfl vcEq_less32 vcPf_less32
end Go.Vc

namespace Go.Vc
open Classical
def t_tags:ConT:=⟨[kn,kn],[kl,kn],fun aa=>0≤ni aa 0∧ni aa 0≤65535∧0≤ni aa 1∧ni aa 1≤7,fun aa rs=>∃ l,rs=[vl l,vn 0]∧LSh [s32] l∧p_tags (ni aa 0) (ni aa 1) l⟩
def V_tags:Prop:=∀ (x0 x1:Int),Ob ((0:Int)≤x0∧x0≤(65535:Int)∧(0:Int)≤x1∧x1≤(7:Int))→∀ (R:List DV→Prop),Ob (∀ (res:List DV),(∃ l,res=[vl l,vn (0:Int)]∧LSh [s32] l∧p_tags x0 x1 l)→R res)→(x0<(0:Int)→Ob (R [vl [],vn (2:Int)]))∧(¬x0<(0:Int)→(x0>(65535:Int)→Ob (R [vl [],vn (2:Int)]))∧(¬x0>(65535:Int)→(x1<(0:Int)→Ob (R [vl [],vn (2:Int)]))∧(¬x1<(0:Int)→(x1≥(8:Int)→Ob (R [vl [],vn (2:Int)]))∧(¬x1≥(8:Int)→Ob ((0:Int)≤(0:Int)∧(0:Int)≤(4:Int)∧tgU x0 x1 [] (0:Int))∧∀ (g3:Nat→Value) (x4:Int) (l5:LL),Ob ((0:Int)≤x4∧x4≤(4:Int)∧tgU x0 x1 l5 x4)→(x4<(4:Int)→∀ (x6:Int),x6=w64 (x0*(8:Int))→∀ (x7:Int),x7=w64 (x6+x1)→∀ (x8:Int),x8=w64 (x7*(4:Int))→∀ (x9:Int),x9=w64 (x8+x4)→∀ (x10:Int),x10=IntKind.wrap IntKind.u32 x9→Ob True∧∀ (x11:Int),Ob ([v32 x11]=[v32 (stir x10)])→Ob (List.length l5+List.length [[d32 x11]]≤(1048576:Nat))∧∀ (l12:LL),l12=l5++[[d32 x11]]→∀ (x13:Int),x13=w64 (x4+(1:Int))→Ob ((0:Int)≤x13∧x13≤(4:Int)∧tgU x0 x1 l12 x13)∧Ob ((4:Nat)-Int.toNat x13<(4:Nat)-Int.toNat x4))∧(¬x4<(4:Int)→∀ (x14:Int),x14=(↑(List.length l5):Int)→∀ (x15:Int),x15=IntKind.wrap IntKind.u64 x14→Ob ((0:Int)≤x15∧x15<(16:Int))∧∀ (x16:Int),Ob (∃ x,[vn x16]=[vn x])→∀ (x17:Int),x17=w64 (x14-(0:Int))→Ob (x17≤(12:Int))∧Ob ((1:Int)≤w64 ((0:Int)+(1:Int))∧w64 ((0:Int)+(1:Int))≤(4:Int)∧tgI x0 x1 l5 (w64 ((0:Int)+(1:Int))))∧∀ (g18:Nat→Value) (x19:Int) (l20:LL),Ob ((1:Int)≤x19∧x19≤(4:Int)∧tgI x0 x1 l20 x19)→(x19<x14→Ob ((0:Int)≤x19∧x19≤x19∧tgJ x0 x1 l20 x19 x19)∧∀ (g21:Nat→Value) (x22:Int) (l23:LL),Ob ((0:Int)≤x22∧x22≤x19∧tgJ x0 x1 l23 x19 x22)→(x22>(0:Int)→Ob ((0:Int)≤x22∧x22<(↑(List.length l23):Int))∧∀ (x24:Int),x24=x22→Ob ((0:Int)≤x24∧x24<(↑(List.length l23):Int))∧Ob (Shp [Kd.int IntKind.u32] l23)∧∀ (x25:Int),Ob (l23[Int.toNat x24]?=some [d32 x25])→∀ (x26:Int),x26=w64 (x22-(1:Int))→Ob ((0:Int)≤x26∧x26<(↑(List.length l23):Int))∧∀ (x27:Int),x27=x26→Ob ((0:Int)≤x27∧x27<(↑(List.length l23):Int))∧Ob (Shp [Kd.int IntKind.u32] l23)∧∀ (x28:Int),Ob (l23[Int.toNat x27]?=some [d32 x28])→Ob True∧∀ (b29:Bool),Ob ([vb b29]=[vb (decide (x25<x28))])→(b29=true→∀ (x30:Int),x30=w64 (x22-(1:Int))→∀ (x31:Int),x31=w64 (x22-(1:Int))→Ob ((0:Int)≤x31∧x31<(↑(List.length l23):Int))∧∀ (x32:Int),x32=x31→Ob ((0:Int)≤x32∧x32<(↑(List.length l23):Int))∧Ob (Shp [Kd.int IntKind.u32] l23)∧∀ (x33:Int),Ob (l23[Int.toNat x32]?=some [d32 x33])→Ob ((0:Int)≤x22∧x22<(↑(List.length l23):Int))∧∀ (x34:Int),x34=x22→Ob ((0:Int)≤x34∧x34<(↑(List.length l23):Int))∧Ob (Shp [Kd.int IntKind.u32] l23)∧∀ (x35:Int),Ob (l23[Int.toNat x34]?=some [d32 x35])→Ob ((0:Int)≤x22∧x22<(↑(List.length l23):Int))∧∀ (x36:Int),x36=x22→Ob ((0:Int)≤x36∧x36<(↑(List.length l23):Int))∧∀ (l37:LL),l37=List.set l23 (Int.toNat x36) [d32 x33]→Ob ((0:Int)≤x30∧x30<(↑(List.length l37):Int))∧∀ (x38:Int),x38=x30→Ob ((0:Int)≤x38∧x38<(↑(List.length l37):Int))∧∀ (l39:LL),l39=List.set l37 (Int.toNat x38) [d32 x35]→∀ (x40:Int),x40=w64 (x22-(1:Int))→Ob ((0:Int)≤x40∧x40≤x19∧tgJ x0 x1 l39 x19 x40)∧Ob (Int.toNat x40<Int.toNat x22))∧(b29=false→∀ (x41:Int),x41=w64 (x19+(1:Int))→Ob ((1:Int)≤x41∧x41≤(4:Int)∧tgI x0 x1 l23 x41)∧Ob ((4:Nat)-Int.toNat x41<(4:Nat)-Int.toNat x19)))∧(¬x22>(0:Int)→∀ (x42:Int),x42=w64 (x19+(1:Int))→Ob ((1:Int)≤x42∧x42≤(4:Int)∧tgI x0 x1 l23 x42)∧Ob ((4:Nat)-Int.toNat x42<(4:Nat)-Int.toNat x19)))∧(¬x19<x14→Ob (R [vl l20,vn (0:Int)])))))))
set_option maxRecDepth 100000 in
theorem vcEq_tags:vcFn Go.Proofs.Tryz.prog k0 (cxf [(263,t_stir),(313,t_less32),(295,t_lenU)] [(204000,0,some ⟨[1,0],[21],[],[kn],[⟨4,154,1,true, .tmp⟩],fun ρ ds=>0≤ni ds 0∧ni ds 0≤4∧tgU (ρ.n 0) (ρ.n 1) (li ds 1) (ni ds 0),fun ρ ds=>4-(ni ds 0).toNat,none⟩),(204001488041922128,0,none),(204002100046386254073412,0,some ⟨[0,1,2],[6],[],[kn],[⟨0,154,1,true, .row 4⟩],fun ρ ds=>1≤ni ds 0∧ni ds 0≤4∧tgI (ρ.n 0) (ρ.n 1) (li ds 1) (ni ds 0),fun ρ ds=>4-(ni ds 0).toNat,none⟩),(204002100046386254073412,2,some ⟨[0,1,2,6],[7],[],[kn],[⟨0,154,1,true, .row 4⟩],fun ρ ds=>0≤ni ds 0∧ni ds 0≤ρ.n 9∧tgJ (ρ.n 0) (ρ.n 1) (li ds 1) (ρ.n 9) (ni ds 0),fun ρ ds=>(ni ds 0).toNat,none⟩)] [(204001488041922128,24,true)] [(263,f_stir),(313,f_less32)]) 3000 204 Go.Proofs.Tryz.f204 (bodyOf Go.Proofs.Tryz.f204) t_tags=V_tags:=by kernel_rfl
set_option maxHeartbeats 4000000 in
set_option maxRecDepth 20000 in
theorem vcPf_tags:V_tags:=by
  delta V_tags
  simp only [ob_iff,and_imp,forall_exists_index,true_and,and_true,List.cons.injEq,DV.c.injEq,DV.a.injEq,D.raw.injEq,D.fs.injEq,Value.bool.injEq,Value.int.injEq]
  intro x0 x1 h1 h2 h3 h4 R hR
  repeat' first | assumption | exact DShs.tail (DSh_nth (by assumption) (by assumption)) | exact shp32 (by assumption) | exact shp64 (by assumption) | exact shp2 (by assumption) | exact shpF (by assumption) | with_reducible intro _ | with_reducible apply And.intro
  all_goals (try subst_vars)
  all_goals (try simp (disch:=omega) only [w64_id] at *)
  all_goals first
    | omega
    | assumption
    | exact tgU.zero
    | exact tgU.suc (by assumption) (by omega)
    | (have q:=tgU.len (by assumption);simp only [List.length_cons,List.length_nil];omega)
    | (have q:=tgU.len (by assumption);have q2:=u64_len (show _≤8 by omega);omega)
    | exact (u64_len (by have q:=tgU.len (by assumption);omega)).1
    | exact (u64_len (by have q:=tgU.len (by assumption);omega)).2
    | exact tgU.fin (by assumption) (by omega)
    | exact tgI.into (by assumption)
    | exact tgJ.shp (by assumption)
    | (have q:=tgJ.len (by assumption);have q2:=tgU.len (by assumption);omega)
    | (have q:=tgJ.len (by assumption);have q2:=tgU.len (by assumption);simp only [List.length_set];omega)
    | (have q:=tgU.len (by assumption);rw [w64_id (by omega) (by omega)];omega)
    | exact tgJ.step (by assumption) (by assumption) (by omega) (by omega) (by have q:=tgU.len (by assumption);omega) (by assumption) (by assumption) (by assumption) (by assumption)
    | exact tgJ.stop (by assumption) (by assumption) (by omega) (by assumption) (by assumption)
    | exact tgJ.out (by assumption) (by omega) (Or.inl (by omega))
    | exact hR _ _ rfl (tgI.sh (by assumption)).1 (tgI.sh (by assumption)).2 (tgI.fin' (by assumption) (by have q:=tgU.len (by assumption);omega))
    | trace_state
theorem con_tags:Con Go.Proofs.Tryz.prog k0 204 t_tags :=
  con_of (cxf_ok mixOk (fun p hp=>by
    simp only [List.mem_cons,List.not_mem_nil,or_false] at hp
    rcases hp with rfl | rfl | rfl
    · exact con_stir
    · exact con_less32
    · exact con_lenU) (fun p hp=>by
    simp only [List.mem_cons,List.not_mem_nil,or_false] at hp
    rcases hp with rfl | rfl
    · intro t ht;cases ht;exact fn_stir
    · intro t ht;cases ht;exact fn_less32)) Go.Proofs.Tryz.func204 rfl rfl rfl rfl vcEq_tags vcPf_tags
end Go.Vc

namespace Go.Vc
open Classical
def f_nodeSeedF (aa:List DV):List DV:=m_seed (ai aa 0) (bi aa 1)
def t_nodeSeedF:ConT:=⟨[rkS nodeS,kb],[rkS nodeS,kn],fun aa=>DShs nodeS (ai aa 0),fun aa rs=>rs=f_nodeSeedF aa⟩
theorem fn_nodeSeedF:∀ aa,t_nodeSeedF.pre aa→∀ rs,t_nodeSeedF.post aa rs→rs=f_nodeSeedF aa:=fun _ _ _ h=>h
def V_nodeSeedF:Prop:=∀ (x0 x1:Int) (b2:Bool) (x3 x4 x5 x6 x7:Int) (b8:Bool) (l9:LL) (x10:Int) (b11:Bool) (l12:LL) (x13:Int) (b14:Bool) (l15:LL) (x16:Int) (b17:Bool) (l18:LL) (x19:Int) (b20:Bool) (x21 x22:Int) (l23:LL) (b24:Bool) (x25 x26:Int) (l27:LL) (x28 x29:Int) (l30 l31 l32:LL) (b33:Bool),Ob (DShs nodeS [dn x0,dn x1,db b2,dn x3,dn x4,dn x5,dn x6,dn x7,db b8,D.fs l9,dn x10,db b11,D.fs l12,dn x13,db b14,D.fs l15,dn x16,db b17,D.fs l18,dn x19,db b20,dn x21,dn x22,D.fs l23,db b24,dn x25,dn x26,D.fs l27,dn x28,dn x29,D.fs l30,D.fs l31,D.fs l32])→∀ (R:List DV→Prop),Ob (∀ (res:List DV),res=m_seed [dn x0,dn x1,db b2,dn x3,dn x4,dn x5,dn x6,dn x7,db b8,D.fs l9,dn x10,db b11,D.fs l12,dn x13,db b14,D.fs l15,dn x16,db b17,D.fs l18,dn x19,db b20,dn x21,dn x22,D.fs l23,db b24,dn x25,dn x26,D.fs l27,dn x28,dn x29,D.fs l30,D.fs l31,D.fs l32] b33→R res)→Ob (DShs nodeS [dn x0,dn x1,db b2,dn x3,dn x4,dn x5,dn x6,dn x7,db b8,D.fs l9,dn x10,db b11,D.fs l12,dn x13,db b14,D.fs l15,dn x16,db b17,D.fs l18,dn x19,db b20,dn x21,dn x22,D.fs l23,db b24,dn x25,dn x26,D.fs l27,dn x28,dn x29,D.fs l30,D.fs l31,D.fs l32])∧∀ (x35:Int),Ob ([vn x35]=[vn (if p_node [dn x0,dn x1,db b2,dn x3,dn x4,dn x5,dn x6,dn x7,db b8,D.fs l9,dn x10,db b11,D.fs l12,dn x13,db b14,D.fs l15,dn x16,db b17,D.fs l18,dn x19,db b20,dn x21,dn x22,D.fs l23,db b24,dn x25,dn x26,D.fs l27,dn x28,dn x29,D.fs l30,D.fs l31,D.fs l32] then (0:Int) else (8:Int))])→(x35≠(0:Int)→(x35≠(0:Int)→Ob (R [DV.a [dn (0:Int),dn (0:Int),db false,dn (0:Int),dn (0:Int),dn (0:Int),dn (0:Int),dn (0:Int),db false,D.fs [],dn (0:Int),db false,D.fs [],dn (0:Int),db false,D.fs [],dn (0:Int),db false,D.fs [],dn (0:Int),db false,dn (0:Int),dn (0:Int),D.fs [],db false,dn (0:Int),dn (0:Int),D.fs [],dn (0:Int),dn (0:Int),D.fs [],D.fs [],D.fs []],vn x35]))∧(¬x35≠(0:Int)→Ob False))∧(¬x35≠(0:Int)→(b2=false→Ob (R [DV.a [dn (0:Int),dn (0:Int),db false,dn (0:Int),dn (0:Int),dn (0:Int),dn (0:Int),dn (0:Int),db false,D.fs [],dn (0:Int),db false,D.fs [],dn (0:Int),db false,D.fs [],dn (0:Int),db false,D.fs [],dn (0:Int),db false,dn (0:Int),dn (0:Int),D.fs [],db false,dn (0:Int),dn (0:Int),D.fs [],dn (0:Int),dn (0:Int),D.fs [],D.fs [],D.fs []],vn (14:Int)]))∧(¬b2=false→Ob (DShs partS [db b8,D.fs l9,dn x10,db b11,D.fs l12,dn x13,db b14,D.fs l15,dn x16,db b17,D.fs l18,dn x19,db b20,dn x21,dn x22,D.fs l23]∧List.length l9≤(1048576:Nat)∧List.length l12≤(1048576:Nat)∧List.length l15≤(1048576:Nat)∧List.length l18≤(1048576:Nat)∧List.length l23≤(1048576:Nat))∧∀ (b36:Bool) (l37:LL) (x38:Int) (b39:Bool) (l40:LL) (x41:Int) (b42:Bool) (l43:LL) (x44:Int) (b45:Bool) (l46:LL) (x47:Int) (b48:Bool) (x49 x50:Int) (l51:LL),Ob ([DV.a [db b36,D.fs l37,dn x38,db b39,D.fs l40,dn x41,db b42,D.fs l43,dn x44,db b45,D.fs l46,dn x47,db b48,dn x49,dn x50,D.fs l51]]=[DV.a [db b8,D.fs l9,dn x10,db b11,D.fs l12,dn x13,db b14,D.fs l15,dn x16,db b17,D.fs l18,dn x19,db b20,dn x21,dn x22,D.fs l23]])→Ob (LSh [s64] l27∧List.length l27≤(1048576:Nat))∧∀ (l52:LL),Ob ([vl l52]=[vl l27])→Ob (DShs cacheS [dn x28,dn x29,D.fs l30]∧List.length l30≤(1048576:Nat))∧∀ (x53 x54:Int) (l55:LL),Ob ([DV.a [dn x53,dn x54,D.fs l55]]=[DV.a [dn x28,dn x29,D.fs l30]])→Ob (LSh frozS l31∧e_past l31=(0:Int))∧∀ (l56:LL),Ob ([vl l56]=[vl l31])→Ob (LSh pairS l32∧List.length l32≤(1048576:Nat))∧∀ (l57:LL),Ob ([vl l57]=[vl l32])→(x6≥x7→Ob (DShs partS [db b36,D.fs l37,dn x38,db b39,D.fs l40,dn x41,db b42,D.fs l43,dn x44,db b45,D.fs l46,dn x47,db b48,dn x49,dn x50,D.fs l51]∧DShs partS [db false,D.fs [],dn (0:Int),db false,D.fs [],dn (0:Int),db false,D.fs [],dn (0:Int),db false,D.fs [],dn (0:Int),db false,dn (0:Int),dn (0:Int),D.fs []])∧∀ (b58:Bool),Ob ([vb b58]=[vb (decide ([db b36,D.fs l37,dn x38,db b39,D.fs l40,dn x41,db b42,D.fs l43,dn x44,db b45,D.fs l46,dn x47,db b48,dn x49,dn x50,D.fs l51]=[db false,D.fs [],dn (0:Int),db false,D.fs [],dn (0:Int),db false,D.fs [],dn (0:Int),db false,D.fs [],dn (0:Int),db false,dn (0:Int),dn (0:Int),D.fs []]))])→(b58=false→Ob (R [DV.a [dn (0:Int),dn (0:Int),db false,dn (0:Int),dn (0:Int),dn (0:Int),dn (0:Int),dn (0:Int),db false,D.fs [],dn (0:Int),db false,D.fs [],dn (0:Int),db false,D.fs [],dn (0:Int),db false,D.fs [],dn (0:Int),db false,dn (0:Int),dn (0:Int),D.fs [],db false,dn (0:Int),dn (0:Int),D.fs [],dn (0:Int),dn (0:Int),D.fs [],D.fs [],D.fs []],vn (12:Int)]))∧(¬b58=false→Ob (inV x1)∧∀ (b59:Bool) (l60:LL) (x61:Int) (b62:Bool) (l63:LL) (x64:Int) (b65:Bool) (l66:LL) (x67:Int) (b68:Bool) (l69:LL) (x70 x71:Int),Ob ([DV.a [db b59,D.fs l60,dn x61,db b62,D.fs l63,dn x64,db b65,D.fs l66,dn x67,db b68,D.fs l69,dn x70],vn x71]=[DV.a [db (decide (x1<(0:Int))),D.fs (if x1=(0:Int) then [] else [[d32 (↑(Int.natAbs x1):Int)]]),dn (0:Int),db false,D.fs [[d32 (1:Int)]],dn (0:Int),db false,D.fs (if b33=true then [[d32 (1:Int)]] else []),dn (0:Int),db (decide (x1<(0:Int))),D.fs (if x1=(0:Int) then [] else [[d32 (↑(Int.natAbs x1):Int)]]),dn (0:Int)],vn (0:Int)])→Ob (inV x1)∧∀ (b72:Bool) (x73 x74 x75:Int),Ob ([DV.a [db b72,dn x73,dn x74],vn x75]=[DV.a [db true,dn x1,dn x1],vn (0:Int)])→Ob ((0:Int)≤x6∧x6≤(65535:Int)∧(0:Int)≤x0∧x0≤(7:Int))∧∀ (l76:LL) (x77:Int),Ob (∃ l,[vl l76,vn x77]=[vl l,vn (0:Int)]∧LSh [s32] l∧p_tags x6 x0 l)→Ob (R [DV.a [dn x0,dn x1,db b2,dn x3,dn x4,dn x5,dn x6,dn x7,db b59,D.fs l60,dn x61,db b62,D.fs l63,dn x64,db b65,D.fs l66,dn x67,db b68,D.fs l69,dn x70,db b72,dn x73,dn x74,D.fs l76,db b24,dn x25,dn x26,D.fs l52,dn x53,dn x54,D.fs l55,D.fs l56,D.fs l57],vn (0:Int)])))∧(¬x6≥x7→Ob (R [DV.a [dn (0:Int),dn (0:Int),db false,dn (0:Int),dn (0:Int),dn (0:Int),dn (0:Int),dn (0:Int),db false,D.fs [],dn (0:Int),db false,D.fs [],dn (0:Int),db false,D.fs [],dn (0:Int),db false,D.fs [],dn (0:Int),db false,dn (0:Int),dn (0:Int),D.fs [],db false,dn (0:Int),dn (0:Int),D.fs [],dn (0:Int),dn (0:Int),D.fs [],D.fs [],D.fs []],vn (6:Int)]))))
set_option maxRecDepth 100000 in
theorem vcEq_nodeSeedF:vcFn Go.Proofs.Tryz.prog k0 (cxf [(40,t_nodeCheckF),(222,t_clone32),(153,t_cloneI),(156,t_cloneTi),(231,t_cloneDe),(234,t_dyTwin),(159,t_massTwin),(137,t_partTwin),(154,t_cacheTwin),(155,t_pastTwin),(28,t_partSame),(202,t_massSeed),(203,t_edgeOf),(204,t_tags)] [] [] [(40,f_nodeCheckF),(222,f_clone32),(153,f_cloneI),(156,f_cloneTi),(231,f_cloneDe),(234,f_dyTwin),(159,f_massTwin),(137,f_partTwin),(154,f_cacheTwin),(155,f_pastTwin),(28,f_partSame),(202,f_massSeed),(203,f_edgeOf)]) 3000 35 Go.Proofs.Tryz.f35 (bodyOf Go.Proofs.Tryz.f35) t_nodeSeedF=V_nodeSeedF:=by kernel_rfl
set_option maxHeartbeats 4000000 in
set_option maxRecDepth 20000 in
theorem vcPf_nodeSeedF:V_nodeSeedF:=by
  delta V_nodeSeedF
  simp (config:={ maxSteps:=4000000 }) only [ob_iff,and_imp,forall_exists_index,true_and,and_true,List.cons.injEq,DV.c.injEq,DV.a.injEq,D.raw.injEq,D.fs.injEq,Value.bool.injEq,Value.int.injEq]
  intro x0 x1 b2 x3 x4 x5 x6 x7 b8 l9 x10 b11 l12 x13 b14 l15 x16 b17 l18 x19 b20 x21 x22 l23 b24 x25 x26 l27 x28 x29 l30 l31 l32 b33 hsh R hR
  obtain ⟨hs1,hs2,hs3,hs4,hs5,hs6⟩:=node_sh hsh
  repeat' first | assumption | exact DShs.tail (DSh_nth (by assumption) (by assumption)) | exact shp32 (by assumption) | exact shp64 (by assumption) | exact shp2 (by assumption) | exact shpF (by assumption) | with_reducible intro _ | with_reducible apply And.intro
  all_goals (try (
    have hb:¬b2=false:=(by assumption)
    have hp:=not_if8' (p:=p_node _) (by assumption) (by assumption)
    obtain ⟨q1,q2,q3,q4,q5,q6,q7,q8,q9,q10⟩:=node_lims hb hp.1
    obtain ⟨f1,f2,f3,f4⟩:=node_f hp.1
    obtain ⟨k1,k2,k3,k4,k5,k6,k7,k8,k9,k10,k11,k12,k13,k14,k15⟩:=f4 (by simpa using hb)
    obtain ⟨c1,c2,c3,c4,c5,c6,c7,c8,c9,c10⟩:=clock_b k3))
  all_goals (try have hb:=bnot hb)
  all_goals (try subst_vars)
  all_goals first
    | assumption
    | omega
    | exact hs6.2
    | exact hs5.2
    | exact shpF hs5.2
    | exact ⟨k1,k2⟩
    | (simp [dshs_cons,dsh_bool,dsh_sl,dsh_int,dshs_nil,ls_nil,rng64,LSh];done)
    | exact hR _ (seed_noE (by assumption))
    | exact hR _ (seed_down (not_if8' (p:=p_node _) rfl (by assumption)) rfl)
    | exact hR _ (seed_none hp rfl (by assumption))
    | exact hR _ (seed_none hp rfl (fun hh=>by have hh2:=hh;change _≤_ at hh2;omega))
    | exact hR _ (seed_again hp rfl (show x7≤x6 by omega) (fun e=>absurd (zpart_iff.1 e) (of_decide_eq_false (by assumption))))
    | (have ht:=‹p_tags _ _ _›;have z:=seedL_ok (f:=b33) (hl:=ht) ⟨by assumption,by assumption⟩ hp (by omega) (zpart_iff.2 (bdec (by assumption)));exact hR _ z)
    | skip
theorem con_nodeSeedF:Con Go.Proofs.Tryz.prog k0 35 t_nodeSeedF :=
  con_of (cxf_ok mixOk (fun p hp=>by
    simp only [List.mem_cons,List.not_mem_nil,or_false] at hp
    rcases hp with rfl | rfl | rfl | rfl | rfl | rfl | rfl | rfl | rfl | rfl | rfl | rfl | rfl | rfl
    · exact con_nodeCheckF
    · exact con_clone32
    · exact con_cloneI
    · exact con_cloneTi
    · exact con_cloneDe
    · exact con_dyTwin
    · exact con_massTwin
    · exact con_partTwin
    · exact con_cacheTwin
    · exact con_pastTwin
    · exact con_partSame
    · exact con_massSeed
    · exact con_edgeOf
    · exact con_tags) (fun p hp=>by
    simp only [List.mem_cons,List.not_mem_nil,or_false] at hp
    rcases hp with rfl | rfl | rfl | rfl | rfl | rfl | rfl | rfl | rfl | rfl | rfl | rfl | rfl
    · intro t ht;cases ht;exact fn_nodeCheckF
    · intro t ht;cases ht;exact fn_clone32
    · intro t ht;cases ht;exact fn_cloneI
    · intro t ht;cases ht;exact fn_cloneTi
    · intro t ht;cases ht;exact fn_cloneDe
    · intro t ht;cases ht;exact fn_dyTwin
    · intro t ht;cases ht;exact fn_massTwin
    · intro t ht;cases ht;exact fn_partTwin
    · intro t ht;cases ht;exact fn_cacheTwin
    · intro t ht;cases ht;exact fn_pastTwin
    · intro t ht;cases ht;exact fn_partSame
    · intro t ht;cases ht;exact fn_massSeed
    · intro t ht;cases ht;exact fn_edgeOf)) Go.Proofs.Tryz.func35 rfl rfl rfl rfl vcEq_nodeSeedF vcPf_nodeSeedF
end Go.Vc

namespace Go.Vc
open Classical
def f_worldNew (aa:List DV):List DV:=m_world (gI (ai aa 0) 0) (gI (ai aa 0) 1) (gI (ai aa 0) 2) (gI (ai aa 0) 3) (li aa 1)
def t_worldNew:ConT:=⟨[rkS [s64,s64,s64,s64],kl],[⟨[.int .i64, .int .i64, .int .i64, .int .i64, .sl, .sl, .sl, .sl, .sl, .int .i64],true,false⟩,kn],fun aa=>DShs [s64,s64,s64,s64] (ai aa 0)∧LSh [s64] (li aa 1)∧(li aa 1).length≤20,fun aa rs=>rs=f_worldNew aa⟩
theorem fn_worldNew:∀ aa,t_worldNew.pre aa→∀ rs,t_worldNew.post aa rs→rs=f_worldNew aa:=fun _ _ _ h=>h
def V_worldNew:Prop:=∀ (x0 x1 x2 x3:Int) (l4:LL),Ob (DShs [s64,s64,s64,s64] [dn x0,dn x1,dn x2,dn x3]∧LSh [s64] l4∧List.length l4≤(20:Nat))→∀ (R:List DV→Prop),Ob (∀ (res:List DV),res=m_world x0 x1 x2 x3 l4→R res)→((x0≥(1:Int)→(x0≤(8:Int)→(x1≥(1:Int)→(x1≤(64:Int)→(x2≥(1:Int)→(x2≤(64:Int)→(x3≥(1:Int)→(x3≤(6:Int)→∀ (x6:Int),x6=(↑(List.length l4):Int)→(x6>x0→Ob (true=false↔okW x0 x1 x2 x3 l4)∧Ob ((0:Nat)<(1:Nat)))∧(¬x6>x0→∀ (x7:Int),x7=(↑(List.length l4):Int)→Ob ((0:Int)≤(0:Int)∧upto (at_val l4) (0:Int))∧∀ (g8:Nat→Value) (x9:Int),Ob ((0:Int)≤x9∧upto (at_val l4) x9)→(x9<x7→Ob ((0:Int)≤x9∧x9<(↑(List.length l4):Int))∧Ob (Shp [Kd.int IntKind.i64] l4)∧∀ (x10:Int),Ob (l4[Int.toNat x9]?=some [dn x10])→(x10≥(-2147483647:Int)→(x10≤(2147483647:Int)→∀ (x11:Int),x11=w64 (x9+(1:Int))→Ob ((0:Int)≤x11∧upto (at_val l4) x11)∧Ob (List.length l4-Int.toNat x11<List.length l4-Int.toNat x9))∧(¬x10≤(2147483647:Int)→(x9≥(0:Int)→Ob (true=false↔okW x0 x1 x2 x3 l4)∧Ob ((0:Nat)<(1:Nat)))∧(¬x9≥(0:Int)→Ob (false=false↔okW x0 x1 x2 x3 l4)∧Ob ((0:Nat)<(1:Nat)))))∧(¬x10≥(-2147483647:Int)→(x9≥(0:Int)→Ob (true=false↔okW x0 x1 x2 x3 l4)∧Ob ((0:Nat)<(1:Nat)))∧(¬x9≥(0:Int)→Ob (false=false↔okW x0 x1 x2 x3 l4)∧Ob ((0:Nat)<(1:Nat)))))∧(¬x9<x7→Ob (decide ((-1:Int)≥(0:Int))=false↔okW x0 x1 x2 x3 l4)∧Ob ((0:Nat)<(1:Nat)))))∧(¬x3≤(6:Int)→Ob (true=false↔okW x0 x1 x2 x3 l4)∧Ob ((0:Nat)<(1:Nat))))∧(¬x3≥(1:Int)→Ob (true=false↔okW x0 x1 x2 x3 l4)∧Ob ((0:Nat)<(1:Nat))))∧(¬x2≤(64:Int)→Ob (true=false↔okW x0 x1 x2 x3 l4)∧Ob ((0:Nat)<(1:Nat))))∧(¬x2≥(1:Int)→Ob (true=false↔okW x0 x1 x2 x3 l4)∧Ob ((0:Nat)<(1:Nat))))∧(¬x1≤(64:Int)→Ob (true=false↔okW x0 x1 x2 x3 l4)∧Ob ((0:Nat)<(1:Nat))))∧(¬x1≥(1:Int)→Ob (true=false↔okW x0 x1 x2 x3 l4)∧Ob ((0:Nat)<(1:Nat))))∧(¬x0≤(8:Int)→Ob (true=false↔okW x0 x1 x2 x3 l4)∧Ob ((0:Nat)<(1:Nat))))∧(¬x0≥(1:Int)→Ob (true=false↔okW x0 x1 x2 x3 l4)∧Ob ((0:Nat)<(1:Nat))))∧∀ (g12:Nat→Value) (b13:Bool),Ob (b13=false↔okW x0 x1 x2 x3 l4)→(b13=true→Ob (R [DV.a [dn (0:Int),dn (0:Int),dn (0:Int),dn (0:Int),D.fs [],D.fs [],D.fs [],D.fs [],D.fs [],dn (0:Int)],vn (2:Int)]))∧(b13=false→∀ (x14:Int),x14=(↑(List.length l4):Int)→Ob ((0:Int)≤(0:Int)∧(0:Int)≤(↑(List.length l4):Int)∧([]:LL)=[])∧∀ (g15:Nat→Value) (x16:Int) (l17:LL),Ob ((0:Int)≤x16∧x16≤(↑(List.length l4):Int)∧l17=knownL x16)→(x16<x14→Ob (List.length l17+List.length [[dn x16,dn (0:Int)]]≤(1048576:Nat))∧∀ (l18:LL),l18=l17++[[dn x16,dn (0:Int)]]→∀ (x19:Int),x19=w64 (x16+(1:Int))→Ob ((0:Int)≤x19∧x19≤(↑(List.length l4):Int)∧l18=knownL x19)∧Ob (List.length l4-Int.toNat x19<List.length l4-Int.toNat x16))∧(¬x16<x14→Ob ((0:Int)≤(0:Int)∧(0:Int)≤x0∧l17=knownL (↑(List.length l4):Int)∧([]:LL)=[])∧∀ (g20:Nat→Value) (x21:Int) (l22 l23:LL),Ob ((0:Int)≤x21∧x21≤x0∧l22=knownL (↑(List.length l4):Int)∧l23=downsL x21)→(x21<x0→Ob (List.length l23+List.length [[dn x21,dn (0:Int),db false,dn (0:Int),dn (0:Int),dn (0:Int),dn (0:Int),dn (0:Int),db false,D.fs [],dn (0:Int),db false,D.fs [],dn (0:Int),db false,D.fs [],dn (0:Int),db false,D.fs [],dn (0:Int),db false,dn (0:Int),dn (0:Int),D.fs [],db false,dn (0:Int),dn (0:Int),D.fs [],dn (0:Int),dn (0:Int),D.fs [],D.fs [],D.fs []]]≤(1048576:Nat))∧∀ (l24:LL),l24=l23++[[dn x21,dn (0:Int),db false,dn (0:Int),dn (0:Int),dn (0:Int),dn (0:Int),dn (0:Int),db false,D.fs [],dn (0:Int),db false,D.fs [],dn (0:Int),db false,D.fs [],dn (0:Int),db false,D.fs [],dn (0:Int),db false,dn (0:Int),dn (0:Int),D.fs [],db false,dn (0:Int),dn (0:Int),D.fs [],dn (0:Int),dn (0:Int),D.fs [],D.fs [],D.fs []]]→∀ (x25:Int),x25=w64 (x21+(1:Int))→Ob ((0:Int)≤x25∧x25≤x0∧l22=knownL (↑(List.length l4):Int)∧l24=downsL x25)∧Ob (Int.toNat (x0-x25)<Int.toNat (x0-x21)))∧(¬x21<x0→∀ (x26:Int),x26=(↑(List.length l4):Int)→Ob ((0:Int)≤(0:Int)∧(0:Int)≤(↑(List.length l4):Int)∧l22=knownL (↑(List.length l4):Int)∧l23=nodesL x1 x3 l4 (0:Int) x0∧([]:LL)=[])∧∀ (g27:Nat→Value) (x28:Int) (l29 l30 l31:LL),Ob ((0:Int)≤x28∧x28≤(↑(List.length l4):Int)∧l29=knownL (↑(List.length l4):Int)∧l30=nodesL x1 x3 l4 x28 x0∧l31=seedsL l4 x28)→(x28<x26→Ob ((0:Int)≤x28∧x28<(↑(List.length l4):Int))∧Ob (Shp [Kd.int IntKind.i64] l4)∧∀ (x32:Int),Ob (l4[Int.toNat x28]?=some [dn x32])→Ob (DShs clockS [dn x1,dn (0:Int),dn (0:Int),dn (0:Int),dn (0:Int)]∧p_new x28 x32 x3 [dn x1,dn (0:Int),dn (0:Int),dn (0:Int),dn (0:Int)])∧((0:Int)≠(0:Int)→((0:Int)≠(0:Int)→Ob (R [DV.a [dn (0:Int),dn (0:Int),dn (0:Int),dn (0:Int),D.fs [],D.fs [],D.fs [],D.fs [],D.fs [],dn (0:Int)],vn (0:Int)]))∧(¬(0:Int)≠(0:Int)→∀ (x33:Int),x33=w64 (x28+(1:Int))→Ob ((0:Int)≤x33∧x33≤(↑(List.length l4):Int)∧l29=knownL (↑(List.length l4):Int)∧l30=nodesL x1 x3 l4 x33 x0∧l31=seedsL l4 x33)∧Ob (List.length l4-Int.toNat x33<List.length l4-Int.toNat x28)))∧(¬(0:Int)≠(0:Int)→Ob (DShs cacheS [dn x28,dn x3,D.fs []]∧List.length ([]:LL)=(0:Nat)∧LSh pairS l29∧(0:Nat)<List.length l29∧List.length l29≤(12:Nat)∧p_cacheB [dn x28,dn x3,D.fs []]∧e_desc l29=(0:Int))∧∀ (x34 x35:Int) (l36:LL) (x37:Int),Ob ([DV.a [dn x34,dn x35,D.fs l36],vn x37]=m_mergeE [dn x28,dn x3,D.fs []] l29)→(x37≠(0:Int)→(x37≠(0:Int)→Ob (R [DV.a [dn (0:Int),dn (0:Int),dn (0:Int),dn (0:Int),D.fs [],D.fs [],D.fs [],D.fs [],D.fs [],dn (0:Int)],vn x37]))∧(¬x37≠(0:Int)→∀ (x38:Int),x38=w64 (x28+(1:Int))→Ob ((0:Int)≤x38∧x38≤(↑(List.length l4):Int)∧l29=knownL (↑(List.length l4):Int)∧l30=nodesL x1 x3 l4 x38 x0∧l31=seedsL l4 x38)∧Ob (List.length l4-Int.toNat x38<List.length l4-Int.toNat x28)))∧(¬x37≠(0:Int)→Ob (DShs clockS [dn x1,dn (0:Int),dn (0:Int),dn (0:Int),dn (0:Int)])∧∀ (b39:Bool) (x40:Int),Ob ([vb b39,vn x40]=[vb (decide (p_clock [dn x1,dn (0:Int),dn (0:Int),dn (0:Int),dn (0:Int)]∧(0:Int)≤(0:Int))),vn (if p_clock [dn x1,dn (0:Int),dn (0:Int),dn (0:Int),dn (0:Int)] then (0:Int) else (8:Int))])→(b39=true→∀ (x41:Int),x41=(↑(List.length l31):Int)→Ob ((0:Int)≤(0:Int)∧upto (at_sd l31) (0:Int))∧∀ (g42:Nat→Value) (x43:Int),Ob ((0:Int)≤x43∧upto (at_sd l31) x43)→(x43<x41→Ob ((0:Int)≤x43∧x43<(↑(List.length l31):Int))∧∀ (x44:Int),x44=x43→Ob ((0:Int)≤x44∧x44<(↑(List.length l31):Int))∧Ob (Shp [Kd.int IntKind.i64,Kd.int IntKind.i64,Kd.int IntKind.i64] l31)∧∀ (x45 x46 x47:Int),Ob (l31[Int.toNat x44]?=some [dn x45,dn x46,dn x47])→(x45=(0:Int)→(x43≥(0:Int)→Ob (DShs nodeS [dn x28,dn x32,db true,dn x1,dn (0:Int),dn (0:Int),dn (0:Int),dn (0:Int),db false,D.fs [],dn (0:Int),db false,D.fs [],dn (0:Int),db false,D.fs [],dn (0:Int),db false,D.fs [],dn (0:Int),db false,dn (0:Int),dn (0:Int),D.fs [],db false,dn (0:Int),dn (0:Int),D.fs [],dn x34,dn x35,D.fs l36,D.fs [],D.fs []])∧∀ (x48 x49:Int) (b50:Bool) (x51 x52 x53 x54 x55:Int) (b56:Bool) (l57:LL) (x58:Int) (b59:Bool) (l60:LL) (x61:Int) (b62:Bool) (l63:LL) (x64:Int) (b65:Bool) (l66:LL) (x67:Int) (b68:Bool) (x69 x70:Int) (l71:LL) (b72:Bool) (x73 x74:Int) (l75:LL) (x76 x77:Int) (l78 l79 l80:LL) (x81:Int),Ob ([DV.a [dn x48,dn x49,db b50,dn x51,dn x52,dn x53,dn x54,dn x55,db b56,D.fs l57,dn x58,db b59,D.fs l60,dn x61,db b62,D.fs l63,dn x64,db b65,D.fs l66,dn x67,db b68,dn x69,dn x70,D.fs l71,db b72,dn x73,dn x74,D.fs l75,dn x76,dn x77,D.fs l78,D.fs l79,D.fs l80],vn x81]=m_seed [dn x28,dn x32,db true,dn x1,dn (0:Int),dn (0:Int),dn (0:Int),dn (0:Int),db false,D.fs [],dn (0:Int),db false,D.fs [],dn (0:Int),db false,D.fs [],dn (0:Int),db false,D.fs [],dn (0:Int),db false,dn (0:Int),dn (0:Int),D.fs [],db false,dn (0:Int),dn (0:Int),D.fs [],dn x34,dn x35,D.fs l36,D.fs [],D.fs []] !true)→Ob ((0:Int)≤x48∧x48<(↑(List.length l30):Int))∧∀ (x82:Int),x82=x48→Ob ((0:Int)≤x82∧x82<(↑(List.length l30):Int))∧∀ (l83:LL),l83=List.set l30 (Int.toNat x82) [dn x48,dn x49,db b50,dn x51,dn x52,dn x53,dn x54,dn x55,db b56,D.fs l57,dn x58,db b59,D.fs l60,dn x61,db b62,D.fs l63,dn x64,db b65,D.fs l66,dn x67,db b68,dn x69,dn x70,D.fs l71,db b72,dn x73,dn x74,D.fs l75,dn x76,dn x77,D.fs l78,D.fs l79,D.fs l80]→(x54≥x55→Ob (List.length l31+List.length [[dn x54,dn x48,dn x49]]≤(1048576:Nat))∧∀ (l84:LL),l84=l31++[[dn x54,dn x48,dn x49]]→(x81≠(0:Int)→Ob (R [DV.a [dn (0:Int),dn (0:Int),dn (0:Int),dn (0:Int),D.fs [],D.fs [],D.fs [],D.fs [],D.fs [],dn (0:Int)],vn x81]))∧(¬x81≠(0:Int)→∀ (x85:Int),x85=w64 (x28+(1:Int))→Ob ((0:Int)≤x85∧x85≤(↑(List.length l4):Int)∧l29=knownL (↑(List.length l4):Int)∧l83=nodesL x1 x3 l4 x85 x0∧l84=seedsL l4 x85)∧Ob (List.length l4-Int.toNat x85<List.length l4-Int.toNat x28)))∧(¬x54≥x55→(x81≠(0:Int)→Ob (R [DV.a [dn (0:Int),dn (0:Int),dn (0:Int),dn (0:Int),D.fs [],D.fs [],D.fs [],D.fs [],D.fs [],dn (0:Int)],vn x81]))∧(¬x81≠(0:Int)→∀ (x86:Int),x86=w64 (x28+(1:Int))→Ob ((0:Int)≤x86∧x86≤(↑(List.length l4):Int)∧l29=knownL (↑(List.length l4):Int)∧l83=nodesL x1 x3 l4 x86 x0∧l31=seedsL l4 x86)∧Ob (List.length l4-Int.toNat x86<List.length l4-Int.toNat x28))))∧(¬x43≥(0:Int)→Ob (DShs nodeS [dn x28,dn x32,db true,dn x1,dn (0:Int),dn (0:Int),dn (0:Int),dn (0:Int),db false,D.fs [],dn (0:Int),db false,D.fs [],dn (0:Int),db false,D.fs [],dn (0:Int),db false,D.fs [],dn (0:Int),db false,dn (0:Int),dn (0:Int),D.fs [],db false,dn (0:Int),dn (0:Int),D.fs [],dn x34,dn x35,D.fs l36,D.fs [],D.fs []])∧∀ (x87 x88:Int) (b89:Bool) (x90 x91 x92 x93 x94:Int) (b95:Bool) (l96:LL) (x97:Int) (b98:Bool) (l99:LL) (x100:Int) (b101:Bool) (l102:LL) (x103:Int) (b104:Bool) (l105:LL) (x106:Int) (b107:Bool) (x108 x109:Int) (l110:LL) (b111:Bool) (x112 x113:Int) (l114:LL) (x115 x116:Int) (l117 l118 l119:LL) (x120:Int),Ob ([DV.a [dn x87,dn x88,db b89,dn x90,dn x91,dn x92,dn x93,dn x94,db b95,D.fs l96,dn x97,db b98,D.fs l99,dn x100,db b101,D.fs l102,dn x103,db b104,D.fs l105,dn x106,db b107,dn x108,dn x109,D.fs l110,db b111,dn x112,dn x113,D.fs l114,dn x115,dn x116,D.fs l117,D.fs l118,D.fs l119],vn x120]=m_seed [dn x28,dn x32,db true,dn x1,dn (0:Int),dn (0:Int),dn (0:Int),dn (0:Int),db false,D.fs [],dn (0:Int),db false,D.fs [],dn (0:Int),db false,D.fs [],dn (0:Int),db false,D.fs [],dn (0:Int),db false,dn (0:Int),dn (0:Int),D.fs [],db false,dn (0:Int),dn (0:Int),D.fs [],dn x34,dn x35,D.fs l36,D.fs [],D.fs []] !false)→Ob ((0:Int)≤x87∧x87<(↑(List.length l30):Int))∧∀ (x121:Int),x121=x87→Ob ((0:Int)≤x121∧x121<(↑(List.length l30):Int))∧∀ (l122:LL),l122=List.set l30 (Int.toNat x121) [dn x87,dn x88,db b89,dn x90,dn x91,dn x92,dn x93,dn x94,db b95,D.fs l96,dn x97,db b98,D.fs l99,dn x100,db b101,D.fs l102,dn x103,db b104,D.fs l105,dn x106,db b107,dn x108,dn x109,D.fs l110,db b111,dn x112,dn x113,D.fs l114,dn x115,dn x116,D.fs l117,D.fs l118,D.fs l119]→(x93≥x94→Ob (List.length l31+List.length [[dn x93,dn x87,dn x88]]≤(1048576:Nat))∧∀ (l123:LL),l123=l31++[[dn x93,dn x87,dn x88]]→(x120≠(0:Int)→Ob (R [DV.a [dn (0:Int),dn (0:Int),dn (0:Int),dn (0:Int),D.fs [],D.fs [],D.fs [],D.fs [],D.fs [],dn (0:Int)],vn x120]))∧(¬x120≠(0:Int)→∀ (x124:Int),x124=w64 (x28+(1:Int))→Ob ((0:Int)≤x124∧x124≤(↑(List.length l4):Int)∧l29=knownL (↑(List.length l4):Int)∧l122=nodesL x1 x3 l4 x124 x0∧l123=seedsL l4 x124)∧Ob (List.length l4-Int.toNat x124<List.length l4-Int.toNat x28)))∧(¬x93≥x94→(x120≠(0:Int)→Ob (R [DV.a [dn (0:Int),dn (0:Int),dn (0:Int),dn (0:Int),D.fs [],D.fs [],D.fs [],D.fs [],D.fs [],dn (0:Int)],vn x120]))∧(¬x120≠(0:Int)→∀ (x125:Int),x125=w64 (x28+(1:Int))→Ob ((0:Int)≤x125∧x125≤(↑(List.length l4):Int)∧l29=knownL (↑(List.length l4):Int)∧l122=nodesL x1 x3 l4 x125 x0∧l31=seedsL l4 x125)∧Ob (List.length l4-Int.toNat x125<List.length l4-Int.toNat x28)))))∧(¬x45=(0:Int)→∀ (x126:Int),x126=w64 (x43+(1:Int))→Ob ((0:Int)≤x126∧upto (at_sd l31) x126)∧Ob (List.length l31-Int.toNat x126<List.length l31-Int.toNat x43)))∧(¬x43<x41→Ob (DShs nodeS [dn x28,dn x32,db true,dn x1,dn (0:Int),dn (0:Int),dn (0:Int),dn (0:Int),db false,D.fs [],dn (0:Int),db false,D.fs [],dn (0:Int),db false,D.fs [],dn (0:Int),db false,D.fs [],dn (0:Int),db false,dn (0:Int),dn (0:Int),D.fs [],db false,dn (0:Int),dn (0:Int),D.fs [],dn x34,dn x35,D.fs l36,D.fs [],D.fs []])∧∀ (x127 x128:Int) (b129:Bool) (x130 x131 x132 x133 x134:Int) (b135:Bool) (l136:LL) (x137:Int) (b138:Bool) (l139:LL) (x140:Int) (b141:Bool) (l142:LL) (x143:Int) (b144:Bool) (l145:LL) (x146:Int) (b147:Bool) (x148 x149:Int) (l150:LL) (b151:Bool) (x152 x153:Int) (l154:LL) (x155 x156:Int) (l157 l158 l159:LL) (x160:Int),Ob ([DV.a [dn x127,dn x128,db b129,dn x130,dn x131,dn x132,dn x133,dn x134,db b135,D.fs l136,dn x137,db b138,D.fs l139,dn x140,db b141,D.fs l142,dn x143,db b144,D.fs l145,dn x146,db b147,dn x148,dn x149,D.fs l150,db b151,dn x152,dn x153,D.fs l154,dn x155,dn x156,D.fs l157,D.fs l158,D.fs l159],vn x160]=m_seed [dn x28,dn x32,db true,dn x1,dn (0:Int),dn (0:Int),dn (0:Int),dn (0:Int),db false,D.fs [],dn (0:Int),db false,D.fs [],dn (0:Int),db false,D.fs [],dn (0:Int),db false,D.fs [],dn (0:Int),db false,dn (0:Int),dn (0:Int),D.fs [],db false,dn (0:Int),dn (0:Int),D.fs [],dn x34,dn x35,D.fs l36,D.fs [],D.fs []] !decide ((-1:Int)≥(0:Int)))→Ob ((0:Int)≤x127∧x127<(↑(List.length l30):Int))∧∀ (x161:Int),x161=x127→Ob ((0:Int)≤x161∧x161<(↑(List.length l30):Int))∧∀ (l162:LL),l162=List.set l30 (Int.toNat x161) [dn x127,dn x128,db b129,dn x130,dn x131,dn x132,dn x133,dn x134,db b135,D.fs l136,dn x137,db b138,D.fs l139,dn x140,db b141,D.fs l142,dn x143,db b144,D.fs l145,dn x146,db b147,dn x148,dn x149,D.fs l150,db b151,dn x152,dn x153,D.fs l154,dn x155,dn x156,D.fs l157,D.fs l158,D.fs l159]→(x133≥x134→Ob (List.length l31+List.length [[dn x133,dn x127,dn x128]]≤(1048576:Nat))∧∀ (l163:LL),l163=l31++[[dn x133,dn x127,dn x128]]→(x160≠(0:Int)→Ob (R [DV.a [dn (0:Int),dn (0:Int),dn (0:Int),dn (0:Int),D.fs [],D.fs [],D.fs [],D.fs [],D.fs [],dn (0:Int)],vn x160]))∧(¬x160≠(0:Int)→∀ (x164:Int),x164=w64 (x28+(1:Int))→Ob ((0:Int)≤x164∧x164≤(↑(List.length l4):Int)∧l29=knownL (↑(List.length l4):Int)∧l162=nodesL x1 x3 l4 x164 x0∧l163=seedsL l4 x164)∧Ob (List.length l4-Int.toNat x164<List.length l4-Int.toNat x28)))∧(¬x133≥x134→(x160≠(0:Int)→Ob (R [DV.a [dn (0:Int),dn (0:Int),dn (0:Int),dn (0:Int),D.fs [],D.fs [],D.fs [],D.fs [],D.fs [],dn (0:Int)],vn x160]))∧(¬x160≠(0:Int)→∀ (x165:Int),x165=w64 (x28+(1:Int))→Ob ((0:Int)≤x165∧x165≤(↑(List.length l4):Int)∧l29=knownL (↑(List.length l4):Int)∧l162=nodesL x1 x3 l4 x165 x0∧l31=seedsL l4 x165)∧Ob (List.length l4-Int.toNat x165<List.length l4-Int.toNat x28)))))∧(b39=false→Ob ((0:Int)≤x28∧x28<(↑(List.length l30):Int))∧∀ (x166:Int),x166=x28→Ob ((0:Int)≤x166∧x166<(↑(List.length l30):Int))∧∀ (l167:LL),l167=List.set l30 (Int.toNat x166) [dn x28,dn x32,db true,dn x1,dn (0:Int),dn (0:Int),dn (0:Int),dn (0:Int),db false,D.fs [],dn (0:Int),db false,D.fs [],dn (0:Int),db false,D.fs [],dn (0:Int),db false,D.fs [],dn (0:Int),db false,dn (0:Int),dn (0:Int),D.fs [],db false,dn (0:Int),dn (0:Int),D.fs [],dn x34,dn x35,D.fs l36,D.fs [],D.fs []]→(x40≠(0:Int)→Ob (R [DV.a [dn (0:Int),dn (0:Int),dn (0:Int),dn (0:Int),D.fs [],D.fs [],D.fs [],D.fs [],D.fs [],dn (0:Int)],vn x40]))∧(¬x40≠(0:Int)→∀ (x168:Int),x168=w64 (x28+(1:Int))→Ob ((0:Int)≤x168∧x168≤(↑(List.length l4):Int)∧l29=knownL (↑(List.length l4):Int)∧l167=nodesL x1 x3 l4 x168 x0∧l31=seedsL l4 x168)∧Ob (List.length l4-Int.toNat x168<List.length l4-Int.toNat x28))))))∧(¬x28<x26→Ob (R [DV.a [dn x0,dn x1,dn x2,dn x3,D.fs l30,D.fs [],D.fs [],D.fs [],D.fs l31,dn (0:Int)],vn (0:Int)])))))
set_option maxRecDepth 100000 in
theorem vcEq_worldNew:vcFn Go.Proofs.Tryz.prog k0 (cxf [(29,t_nodeNewY),(177,t_mergeE),(178,t_epochIn),(35,t_nodeSeedF)] [(21000150077,300001,some ⟨[],[14,12],[],[],[],fun _ _=>True,fun _ _=>0,none⟩),(21000150077,300009,some ⟨[1,2,3,4,0,5,6,7,8,9,10],[],[],[],[],fun _ _=>True,fun _ _=>0,none⟩),(21000,500001,some ⟨[1,2,4,5],[26],[],[kb],[],fun ρ ds=>(bi ds 0=false↔okW (ρ.n 0) (ρ.n 1) (ρ.n 2) (ρ.n 3) (ρ.d 4)),fun ρ ds=>0,none⟩),(21000210026617086,0,some ⟨[0,1,7],[8],[],[kn],[],fun ρ ds=>0≤ni ds 0∧upto (at_val (ρ.d 4)) (ni ds 0),fun ρ ds=>(ρ.d 4).length-(ni ds 0).toNat,none⟩),(21000,0,some ⟨[33,32,6,1,2,4,5],[34],[],[kn],[⟨7,118,2,true, .tmp⟩],fun ρ ds=>0≤ni ds 0∧ni ds 0≤(ρ.d 4).length∧li ds 1=knownL (ni ds 0),fun ρ ds=>((ρ.d 4).length-(ni ds 0).toNat),none⟩),(21000,2,some ⟨[6,4,2,1,44],[45],[],[kn],[⟨7,118,2,true, .tmp⟩,⟨0,71,33,false, .cel 8 4⟩],fun ρ ds=>0≤ni ds 0∧ni ds 0≤ρ.n 0∧li ds 1=knownL (ρ.d 4).length∧li ds 2=downsL (ni ds 0),fun ρ ds=>(ρ.n 0-ni ds 0).toNat,none⟩),(21000,4,some ⟨[4,2,6,62,63],[64,7],[],[kn,kl],[⟨0,71,33,false, .cel 8 4⟩,⟨0,134,3,true, .cel 8 8⟩],fun ρ ds=>0≤ni ds 0∧ni ds 0≤(ρ.d 4).length∧li ds 1=knownL (ρ.d 4).length∧li ds 2=nodesL (ρ.n 1) (ρ.n 3) (ρ.d 4) (ni ds 0) (ρ.n 0)∧li ds 3=seedsL (ρ.d 4) (ni ds 0),fun ρ ds=>((ρ.d 4).length-(ni ds 0).toNat),none⟩),(21000402079934934551230058660159758,0,some ⟨[0,1,7],[8],[],[kn],[],fun ρ ds=>0≤ni ds 0∧upto (at_sd (ρ.d 23)) (ni ds 0),fun ρ ds=>(ρ.d 23).length-(ni ds 0).toNat,none⟩)] [] [(29,f_nodeNewY),(177,f_mergeE),(178,f_epochIn),(35,f_nodeSeedF)]) 3000 21 Go.Proofs.Tryz.f21 (bodyOf Go.Proofs.Tryz.f21) t_worldNew=V_worldNew:=by kernel_rfl
set_option maxHeartbeats 4000000 in
set_option maxRecDepth 20000 in
theorem vcPf_worldNew:V_worldNew:=by
  delta V_worldNew
  simp only [ob_iff,and_imp,forall_exists_index,true_and,and_true,List.cons.injEq,DV.c.injEq,DV.a.injEq,D.raw.injEq,D.fs.injEq,Value.bool.injEq,Value.int.injEq]
  intro x0 x1 x2 x3 l4 hs hl hlS h20 R hR
  repeat' first | assumption | exact DShs.tail (DSh_nth (by assumption) (by assumption)) | exact shp32 (by assumption) | exact shp64 (by assumption) | exact shp2 (by assumption) | exact shpF (by assumption) | with_reducible intro _ | with_reducible apply And.intro
  all_goals (try (have hok:=(‹_=false↔okW _ _ _ _ _›).1 (by assumption)))
  all_goals (try (have hok':=hok;obtain ⟨⟨a1,a2,a3,a4,a5,a6,a7,a8⟩,a9,a10⟩:=hok'))
  all_goals (try (have q1:=wn_nl ‹_=nodesL _ _ _ _ _› (by omega)))
  all_goals (try (have q2:=wn_sl ‹_=seedsL _ _› (by assumption)))
  all_goals (try (have q3:=wn_kl ‹_=knownL _› (by first | assumption | omega)))
  all_goals (try (have q4:=wn_dl ‹_=downsL _› (by assumption)))
  all_goals (try (have e:=w64_succ ‹_=w64 (_+1)› (by omega) (by omega);subst e))
  all_goals (try (have hv:=wn_val ‹l4[_]?=some [dn _]› hok (by assumption);obtain ⟨hpb,hve,hlt⟩:=hv))
  all_goals (try (have hm:=wn_merge hpb (by assumption) ‹_=m_mergeE _ _›;obtain ⟨e1,e2,e3,e4⟩:=hm;subst e1 e2 e3 e4))
  all_goals (try (first | (have hin:=wn_in hpb (by assumption) (by assumption);obtain ⟨i1,i2⟩:=hin;subst i1 i2) | (have hin:=wn_in' hpb (by assumption) (by assumption);obtain ⟨i1,i2⟩:=hin;subst i1 i2)))
  all_goals (try (have hsd:=wn_seed hpb ‹_=m_seed _ _› (by first | exact wn_later ‹_=seedsL _ _› (by assumption) (by assumption) (by assumption) | exact wn_first ‹_=seedsL _ _› (by assumption) (by omega) (by assumption));obtain ⟨s1,s2,s3,s4,s5,s6⟩:=hsd))
  all_goals first
    | assumption
    | omega
    | (exfalso;omega)
    | contradiction
    | exact upto_zero _
    | rfl
    | (refine ⟨fun h=>(by cases h),fun h=>?_⟩;first | (exfalso;exact okW_no (by assumption) (by assumption) (by omega) h) | (exfalso;obtain ⟨⟨a1,a2,a3,a4,a5,a6,a7,a8⟩,a9,a10⟩:=h;omega))
    | exact ⟨fun _=>⟨⟨by omega,by omega,by omega,by omega,by omega,by omega,by omega,by omega⟩,by omega,upto_end (by assumption) (by omega)⟩,fun _=>rfl⟩
    | exact hR _ (wn_no fun h=>bno1 ((‹_=false↔okW _ _ _ _ _›).2 h) (by assumption))
    | exact (upto_succ (by omega)).2 ⟨by assumption,at_val_yes (by assumption) (by omega) (by omega)⟩
    | exact (upto_succ (by omega)).2 ⟨by assumption,at_sd_yes (by assumption) (by assumption) (by assumption)⟩
    | exact known_step (by assumption) (by assumption) (by assumption)
    | exact known_eq (by assumption) (by omega)
    | exact down_step (by assumption) (by assumption) (by assumption)
    | exact nodes_start (by assumption) (by omega)
    | exact node_step (by assumption) (by assumption) s6 hve (by omega) (by omega) (by omega)
    | exact seed_step (by assumption) (by assumption) s3 s1 s2 hve (by omega)
    | exact wn_shc (by omega) (by omega)
    | exact wn_shk (by omega) (by omega) (by omega) (by omega)
    | exact wn_new hpb
    | exact wn_shn hpb
    | exact cb_nil ⟨by omega,by omega⟩ ⟨by omega,by omega⟩
    | exact known_ls' (by assumption) (by omega)
    | exact known_desc' (by assumption) (by omega)
    | exact seeds_shp (by assumption) hok (by omega)
    | exact shp64 hlS
    | exact hR _ (wn_end (by assumption) (by assumption) hok (by omega) (by omega))
    | (simp only [List.length_cons,List.length_nil];omega)
    | skip
theorem con_worldNew:Con Go.Proofs.Tryz.prog k0 21 t_worldNew :=
  con_of (cxf_ok mixOk (fun p hp=>by
    simp only [List.mem_cons,List.not_mem_nil,or_false] at hp
    rcases hp with rfl | rfl | rfl | rfl
    · exact con_nodeNewY
    · exact con_mergeE
    · exact con_epochIn
    · exact con_nodeSeedF) (fun p hp=>by
    simp only [List.mem_cons,List.not_mem_nil,or_false] at hp
    rcases hp with rfl | rfl | rfl | rfl
    · intro t ht;cases ht;exact fn_nodeNewY
    · intro t ht;cases ht;exact fn_mergeE
    · intro t ht;cases ht;exact fn_epochIn
    · intro t ht;cases ht;exact fn_nodeSeedF)) Go.Proofs.Tryz.func21 rfl rfl rfl rfl vcEq_worldNew vcPf_worldNew
end Go.Vc

namespace Go.Vc
open Classical
def f_rOthers (aa:List DV):List DV:=[vl (fltD (ni aa 1) (knownL (ni aa 0)))]
def t_rOthers:ConT:=⟨[kn,kn],[kl],fun aa=>0≤ni aa 0∧ni aa 0≤1000∧0≤ni aa 1,fun aa rs=>rs=f_rOthers aa⟩
theorem fn_rOthers:∀ aa,t_rOthers.pre aa→∀ rs,t_rOthers.post aa rs→rs=f_rOthers aa:=fun _ _ _ h=>h
def V_rOthers:Prop:=∀ (x0 x1:Int),Ob ((0:Int)≤x0∧x0≤(1000:Int)∧(0:Int)≤x1)→∀ (R:List DV→Prop),Ob (∀ (res:List DV),res=[vl (fltD x1 (knownL x0))]→R res)→Ob ((0:Int)≤(0:Int)∧(0:Int)≤x0∧([]:LL)=[])∧∀ (g3:Nat→Value) (x4:Int) (l5:LL),Ob ((0:Int)≤x4∧x4≤x0∧l5=fltD x1 (knownL x4))→(x4<x0→(x4≠x1→Ob (List.length l5+List.length [[dn x4,dn (0:Int)]]≤(1048576:Nat))∧∀ (l6:LL),l6=l5++[[dn x4,dn (0:Int)]]→∀ (x7:Int),x7=w64 (x4+(1:Int))→Ob ((0:Int)≤x7∧x7≤x0∧l6=fltD x1 (knownL x7))∧Ob (Int.toNat (x0-x7)<Int.toNat (x0-x4)))∧(¬x4≠x1→∀ (x8:Int),x8=w64 (x4+(1:Int))→Ob ((0:Int)≤x8∧x8≤x0∧l5=fltD x1 (knownL x8))∧Ob (Int.toNat (x0-x8)<Int.toNat (x0-x4))))∧(¬x4<x0→Ob (R [vl l5]))
set_option maxRecDepth 100000 in
theorem vcEq_rOthers:vcFn Go.Proofs.Tryz.prog k0 (cxf [] [(93000,0,some ⟨[0,1],[6],[],[kn],[⟨5,118,2,true, .tmp⟩],fun ρ ds=>0≤ni ds 0∧ni ds 0≤ρ.n 0∧li ds 1=fltD (ρ.n 1) (knownL (ni ds 0)),fun ρ ds=>(ρ.n 0-ni ds 0).toNat,none⟩)] [] []) 3000 93 Go.Proofs.Tryz.f93 (bodyOf Go.Proofs.Tryz.f93) t_rOthers=V_rOthers:=by kernel_rfl
set_option maxHeartbeats 4000000 in
set_option maxRecDepth 20000 in
theorem vcPf_rOthers:V_rOthers:=by
  delta V_rOthers
  simp only [ob_iff,and_imp,forall_exists_index,true_and,and_true,List.cons.injEq,DV.c.injEq,DV.a.injEq,D.raw.injEq,D.fs.injEq,Value.bool.injEq,Value.int.injEq]
  intro x0 x1 h0 h1 h2 R hR
  repeat' first | assumption | exact DShs.tail (DSh_nth (by assumption) (by assumption)) | exact shp32 (by assumption) | exact shp64 (by assumption) | exact shp2 (by assumption) | exact shpF (by assumption) | with_reducible intro _ | with_reducible apply And.intro
  all_goals (try (have e:=w64_succ ‹_=w64 (_+1)› (by omega) (by omega);subst e))
  all_goals first
    | assumption
    | omega
    | exact shp2 (by assumption)
    | exact LS.rect (by assumption)
    | exact hR _ (oth_fin (by assumption) (by omega))
    | rfl
    | exact oth_step (by assumption) (by assumption) (by assumption) (by assumption)
    | exact oth_skip (by assumption) (by assumption) (by assumption)
    | (have:=flt_klen ‹_=fltD _ (knownL _)›;simp only [List.length_cons,List.length_nil];omega)
    | skip
theorem con_rOthers:Con Go.Proofs.Tryz.prog k0 93 t_rOthers :=
  con_of (cxf_ok mixOk (fun p hp=>by cases hp) (fun p hp=>by cases hp)) Go.Proofs.Tryz.func93 rfl rfl rfl rfl vcEq_rOthers vcPf_rOthers
end Go.Vc
