import Derived.Test.YtneooimijbfmgaaGreatProg
import Derived.KernelRfl
import Derived.Test.YtneooimijbfmgaaGreatWbAR
import Derived.Test.YtneooimijbfmgaaGreatWbAT
import Derived.Test.YtneooimijbfmgaaGreatWbAX
import Derived.Test.YtneooimijbfmgaaGreatWbAZ
set_option linter.unusedVariables false
set_option linter.unusedSimpArgs false
set_option linter.unusedSectionVars false
noncomputable section
namespace Go.Vc
open Classical
def f_qDy (aa:List DV):List DV:=[vb true]
def t_qDy:ConT:=⟨[rkS dyS,rkS dyS],[kb],fun aa=>DShs dyS (ai aa 0)∧eqD (ai aa 0) (ai aa 1),fun aa rs=>rs=f_qDy aa⟩
theorem fn_qDy:∀ aa,t_qDy.pre aa→∀ rs,t_qDy.post aa rs→rs=f_qDy aa:=fun _ _ _ h=>h
def V_qDy:Prop:=∀ (b0:Bool) (l1:LL) (x2:Int) (b3:Bool) (l4:LL) (x5:Int),Ob (DShs dyS [db b0,D.fs l1,dn x2]∧eqD [db b0,D.fs l1,dn x2] [db b3,D.fs l4,dn x5])→∀ (R:List DV→Prop),Ob (∀ (res:List DV),res=[vb true]→R res)→(b0=b3→(x2=x5→Ob (LSh [s32] l1∧eqQ l1 l4)∧∀ (b7:Bool),Ob ([vb b7]=[vb true])→Ob (R [vb b7]))∧(¬x2=x5→Ob (R [vb false])))∧(¬b0=b3→Ob (R [vb false]))
set_option maxRecDepth 100000 in
theorem vcEq_qDy:vcFn Go.Proofs.Tryz.prog k0 (cxf [(275,t_qLimb)] [] [] [(275,f_qLimb)]) 3000 230 Go.Proofs.Tryz.f230 (bodyOf Go.Proofs.Tryz.f230) t_qDy=V_qDy:=by kernel_rfl
set_option maxHeartbeats 4000000 in
set_option maxRecDepth 20000 in
theorem vcPf_qDy:V_qDy:=by
  delta V_qDy
  simp only [ob_iff,and_imp,forall_exists_index,true_and,and_true,List.cons.injEq,DV.c.injEq,DV.a.injEq,D.raw.injEq,D.fs.injEq,Value.bool.injEq,Value.int.injEq]
  intro a0 a1 a2 b0 b1 b2 hs he R hR
  have he:_=_:=he
  simp only [List.cons.injEq,D.raw.injEq,D.fs.injEq,Value.bool.injEq,Value.int.injEq,and_true,true_and] at he
  obtain ⟨rfl,rfl,rfl⟩:=he
  repeat' first | assumption | exact DShs.tail (DSh_nth (by assumption) (by assumption)) | exact shp32 (by assumption) | exact shp64 (by assumption) | exact shp2 (by assumption) | exact shpF (by assumption) | with_reducible intro _ | with_reducible apply And.intro
  all_goals first
    | assumption
    | exact hR _ rfl
    | exact eqD_rf _
    | exact eqQ_rf _
    | (exfalso;exact ‹¬_=_› rfl)
    | (exfalso;exact absurd rfl ‹_≠_›)
    | exact vb_no ‹_=[vb true]› ‹_=false›
    | (subst_vars;exact hR _ rfl)
    | (exfalso;exact bno1 ‹_=false› ‹_=true›)
    | (exfalso;simp_all;done)
    | (simp only [dshs_cons,dshs_nil,dsh_int,dsh_bool,dsh_sl,rng64,true_and,and_true] at *;simp_all;done)
    | skip
theorem con_qDy:Con Go.Proofs.Tryz.prog k0 230 t_qDy :=
  con_of (cxf_ok mixOk (fun p hp=>by
    simp only [List.mem_cons,List.not_mem_nil,or_false] at hp
    subst hp
    exact con_qLimb) (fun p hp=>by
    simp only [List.mem_cons,List.not_mem_nil,or_false] at hp
    subst hp
    · intro t ht;cases ht;exact fn_qLimb)) Go.Proofs.Tryz.func230 rfl rfl rfl rfl vcEq_qDy vcPf_qDy
end Go.Vc

namespace Go.Vc
open Classical
def f_qMass (aa:List DV):List DV:=[vb true]
def t_qMass:ConT:=⟨[rkS massS,rkS massS],[kb],fun aa=>DShs massS (ai aa 0)∧eqD (ai aa 0) (ai aa 1),fun aa rs=>rs=f_qMass aa⟩
theorem fn_qMass:∀ aa,t_qMass.pre aa→∀ rs,t_qMass.post aa rs→rs=f_qMass aa:=fun _ _ _ h=>h
def V_qMass:Prop:=∀ (b0:Bool) (l1:LL) (x2:Int) (b3:Bool) (l4:LL) (x5:Int) (b6:Bool) (l7:LL) (x8:Int) (b9:Bool) (l10:LL) (x11:Int) (b12:Bool) (l13:LL) (x14:Int) (b15:Bool) (l16:LL) (x17:Int) (b18:Bool) (l19:LL) (x20:Int) (b21:Bool) (l22:LL) (x23:Int),Ob (DShs massS [db b0,D.fs l1,dn x2,db b3,D.fs l4,dn x5,db b6,D.fs l7,dn x8,db b9,D.fs l10,dn x11]∧eqD [db b0,D.fs l1,dn x2,db b3,D.fs l4,dn x5,db b6,D.fs l7,dn x8,db b9,D.fs l10,dn x11] [db b12,D.fs l13,dn x14,db b15,D.fs l16,dn x17,db b18,D.fs l19,dn x20,db b21,D.fs l22,dn x23])→∀ (R:List DV→Prop),Ob (∀ (res:List DV),res=[vb true]→R res)→Ob (DShs dyS [db b0,D.fs l1,dn x2]∧eqD [db b0,D.fs l1,dn x2] [db b12,D.fs l13,dn x14])∧∀ (b25:Bool),Ob ([vb b25]=[vb true])→(b25=true→Ob (DShs dyS [db b3,D.fs l4,dn x5]∧eqD [db b3,D.fs l4,dn x5] [db b15,D.fs l16,dn x17])∧∀ (b26:Bool),Ob ([vb b26]=[vb true])→(b26=true→Ob (DShs dyS [db b6,D.fs l7,dn x8]∧eqD [db b6,D.fs l7,dn x8] [db b18,D.fs l19,dn x20])∧∀ (b27:Bool),Ob ([vb b27]=[vb true])→(b27=true→Ob (DShs dyS [db b9,D.fs l10,dn x11]∧eqD [db b9,D.fs l10,dn x11] [db b21,D.fs l22,dn x23])∧∀ (b28:Bool),Ob ([vb b28]=[vb true])→Ob (R [vb b28]))∧(b27=false→Ob (R [vb false])))∧(b26=false→Ob (R [vb false])))∧(b25=false→Ob (R [vb false]))
set_option maxRecDepth 100000 in
theorem vcEq_qMass:vcFn Go.Proofs.Tryz.prog k0 (cxf [(230,t_qDy)] [] [] [(230,f_qDy)]) 3000 152 Go.Proofs.Tryz.f152 (bodyOf Go.Proofs.Tryz.f152) t_qMass=V_qMass:=by kernel_rfl
set_option maxHeartbeats 4000000 in
set_option maxRecDepth 20000 in
theorem vcPf_qMass:V_qMass:=by
  delta V_qMass
  simp only [ob_iff,and_imp,forall_exists_index,true_and,and_true,List.cons.injEq,DV.c.injEq,DV.a.injEq,D.raw.injEq,D.fs.injEq,Value.bool.injEq,Value.int.injEq]
  intro a0 a1 a2 a3 a4 a5 a6 a7 a8 a9 a10 a11 b0 b1 b2 b3 b4 b5 b6 b7 b8 b9 b10 b11 hs he R hR
  have he:_=_:=he
  simp only [List.cons.injEq,D.raw.injEq,D.fs.injEq,Value.bool.injEq,Value.int.injEq,and_true,true_and] at he
  obtain ⟨rfl,rfl,rfl,rfl,rfl,rfl,rfl,rfl,rfl,rfl,rfl,rfl⟩:=he
  repeat' first | assumption | exact DShs.tail (DSh_nth (by assumption) (by assumption)) | exact shp32 (by assumption) | exact shp64 (by assumption) | exact shp2 (by assumption) | exact shpF (by assumption) | with_reducible intro _ | with_reducible apply And.intro
  all_goals first
    | assumption
    | exact hR _ rfl
    | exact eqD_rf _
    | exact eqQ_rf _
    | (exfalso;exact ‹¬_=_› rfl)
    | (exfalso;exact absurd rfl ‹_≠_›)
    | exact vb_no ‹_=[vb true]› ‹_=false›
    | (subst_vars;exact hR _ rfl)
    | (exfalso;exact bno1 ‹_=false› ‹_=true›)
    | (exfalso;simp_all;done)
    | (simp only [dshs_cons,dshs_nil,dsh_int,dsh_bool,dsh_sl,rng64,true_and,and_true] at *;simp_all;done)
    | skip
theorem con_qMass:Con Go.Proofs.Tryz.prog k0 152 t_qMass :=
  con_of (cxf_ok mixOk (fun p hp=>by
    simp only [List.mem_cons,List.not_mem_nil,or_false] at hp
    subst hp
    exact con_qDy) (fun p hp=>by
    simp only [List.mem_cons,List.not_mem_nil,or_false] at hp
    subst hp
    · intro t ht;cases ht;exact fn_qDy)) Go.Proofs.Tryz.func152 rfl rfl rfl rfl vcEq_qMass vcPf_qMass
end Go.Vc

namespace Go.Vc
open Classical
def f_qTags (aa:List DV):List DV:=[vb true]
def t_qTags:ConT:=⟨[kl,kl],[kb],fun aa=>LSh [s32] (li aa 0)∧eqQ (li aa 0) (li aa 1),fun aa rs=>rs=f_qTags aa⟩
theorem fn_qTags:∀ aa,t_qTags.pre aa→∀ rs,t_qTags.post aa rs→rs=f_qTags aa:=fun _ _ _ h=>h
def V_qTags:Prop:=∀ (l0 l1:LL),Ob (LSh [s32] l0∧eqQ l0 l1)→∀ (R:List DV→Prop),Ob (∀ (res:List DV),res=[vb true]→R res)→∀ (x3:Int),x3=(↑(List.length l0):Int)→∀ (x4:Int),x4=(↑(List.length l1):Int)→(x3≠x4→Ob (R [vb false]))∧(¬x3≠x4→Ob ((0:Int)≤(0:Int)∧(0:Int)≤(↑(List.length l0):Int))∧∀ (g5:Nat→Value) (x6:Int),Ob ((0:Int)≤x6∧x6≤(↑(List.length l0):Int))→∀ (x7:Int),x7=(↑(List.length l0):Int)→(x6<x7→Ob ((0:Int)≤x6∧x6<(↑(List.length l0):Int))∧Ob (Shp [Kd.int IntKind.u32] l0)∧∀ (x8:Int),Ob (l0[Int.toNat x6]?=some [d32 x8])→Ob ((0:Int)≤x6∧x6<(↑(List.length l1):Int))∧Ob (Shp [Kd.int IntKind.u32] l1)∧∀ (x9:Int),Ob (l1[Int.toNat x6]?=some [d32 x9])→(x8≠x9→Ob (R [vb false]))∧(¬x8≠x9→∀ (x10:Int),x10=w64 (x6+(1:Int))→Ob ((0:Int)≤x10∧x10≤(↑(List.length l0):Int))∧Ob (List.length l0-Int.toNat x10<List.length l0-Int.toNat x6)))∧(¬x6<x7→Ob (R [vb true])))
set_option maxRecDepth 100000 in
theorem vcEq_qTags:vcFn Go.Proofs.Tryz.prog k0 (cxf [] [(205000,0,some ⟨[0,1],[5],[],[kn],[],fun ρ ds=>0≤ni ds 0∧ni ds 0≤(ρ.d 0).length,fun ρ ds=>(ρ.d 0).length-(ni ds 0).toNat,none⟩)] [] []) 3000 205 Go.Proofs.Tryz.f205 (bodyOf Go.Proofs.Tryz.f205) t_qTags=V_qTags:=by kernel_rfl
set_option maxHeartbeats 4000000 in
set_option maxRecDepth 20000 in
theorem vcPf_qTags:V_qTags:=by
  delta V_qTags
  simp only [ob_iff,and_imp,forall_exists_index,true_and,and_true,List.cons.injEq,DV.c.injEq,DV.a.injEq,D.raw.injEq,D.fs.injEq,Value.bool.injEq,Value.int.injEq]
  intro l0 l1 hl hs he R hR
  have he:l0=l1:=he
  subst he
  repeat' first | assumption | exact DShs.tail (DSh_nth (by assumption) (by assumption)) | exact shp32 (by assumption) | exact shp64 (by assumption) | exact shp2 (by assumption) | exact shpF (by assumption) | with_reducible intro _ | with_reducible apply And.intro
  all_goals (try (have e:=w64_succ ‹_=w64 (_+1)› (by omega) (by omega);subst e))
  all_goals first
    | assumption
    | omega
    | exact shp32 hs
    | exact hR _ rfl
    | exact DSh_nth (by assumption) (by assumption)
    | exact eqD_at (by assumption) (by assumption)
    | exact eqD_tl (by assumption) (by assumption)
    | exact DShs.tail (DSh_nth (by assumption) (by assumption))
    | exact vb_no ‹_=[vb true]› ‹_=false›
    | (exfalso;omega)
    | grind
    | skip
theorem con_qTags:Con Go.Proofs.Tryz.prog k0 205 t_qTags :=
  con_of (cxf_ok mixOk (fun p hp=>by cases hp) (fun p hp=>by cases hp)) Go.Proofs.Tryz.func205 rfl rfl rfl rfl vcEq_qTags vcPf_qTags
end Go.Vc

namespace Go.Vc
open Classical
def f_qPart (aa:List DV):List DV:=[vb true]
def t_qPart:ConT:=⟨[rkS partS,rkS partS],[kb],fun aa=>DShs partS (ai aa 0)∧eqD (ai aa 0) (ai aa 1),fun aa rs=>rs=f_qPart aa⟩
theorem fn_qPart:∀ aa,t_qPart.pre aa→∀ rs,t_qPart.post aa rs→rs=f_qPart aa:=fun _ _ _ h=>h
def V_qPart:Prop:=∀ (b0:Bool) (l1:LL) (x2:Int) (b3:Bool) (l4:LL) (x5:Int) (b6:Bool) (l7:LL) (x8:Int) (b9:Bool) (l10:LL) (x11:Int) (b12:Bool) (x13 x14:Int) (l15:LL) (b16:Bool) (l17:LL) (x18:Int) (b19:Bool) (l20:LL) (x21:Int) (b22:Bool) (l23:LL) (x24:Int) (b25:Bool) (l26:LL) (x27:Int) (b28:Bool) (x29 x30:Int) (l31:LL),Ob (DShs partS [db b0,D.fs l1,dn x2,db b3,D.fs l4,dn x5,db b6,D.fs l7,dn x8,db b9,D.fs l10,dn x11,db b12,dn x13,dn x14,D.fs l15]∧eqD [db b0,D.fs l1,dn x2,db b3,D.fs l4,dn x5,db b6,D.fs l7,dn x8,db b9,D.fs l10,dn x11,db b12,dn x13,dn x14,D.fs l15] [db b16,D.fs l17,dn x18,db b19,D.fs l20,dn x21,db b22,D.fs l23,dn x24,db b25,D.fs l26,dn x27,db b28,dn x29,dn x30,D.fs l31])→∀ (R:List DV→Prop),Ob (∀ (res:List DV),res=[vb true]→R res)→Ob (DShs massS [db b0,D.fs l1,dn x2,db b3,D.fs l4,dn x5,db b6,D.fs l7,dn x8,db b9,D.fs l10,dn x11]∧eqD [db b0,D.fs l1,dn x2,db b3,D.fs l4,dn x5,db b6,D.fs l7,dn x8,db b9,D.fs l10,dn x11] [db b16,D.fs l17,dn x18,db b19,D.fs l20,dn x21,db b22,D.fs l23,dn x24,db b25,D.fs l26,dn x27])∧∀ (b33:Bool),Ob ([vb b33]=[vb true])→(b33=true→(b12=b28∧x13=x29∧x14=x30→Ob (LSh [s32] l15∧eqQ l15 l31)∧∀ (b34:Bool),Ob ([vb b34]=[vb true])→Ob (R [vb b34]))∧(¬(b12=b28∧x13=x29∧x14=x30)→Ob (R [vb false])))∧(b33=false→Ob (R [vb false]))
set_option maxRecDepth 100000 in
theorem vcEq_qPart:vcFn Go.Proofs.Tryz.prog k0 (cxf [(152,t_qMass),(205,t_qTags)] [] [] [(152,f_qMass),(205,f_qTags)]) 3000 128 Go.Proofs.Tryz.f128 (bodyOf Go.Proofs.Tryz.f128) t_qPart=V_qPart:=by kernel_rfl
set_option maxHeartbeats 4000000 in
set_option maxRecDepth 20000 in
theorem vcPf_qPart:V_qPart:=by
  delta V_qPart
  simp only [ob_iff,and_imp,forall_exists_index,true_and,and_true,List.cons.injEq,DV.c.injEq,DV.a.injEq,D.raw.injEq,D.fs.injEq,Value.bool.injEq,Value.int.injEq]
  intro a0 a1 a2 a3 a4 a5 a6 a7 a8 a9 a10 a11 a12 a13 a14 a15 b0 b1 b2 b3 b4 b5 b6 b7 b8 b9 b10 b11 b12 b13 b14 b15 hs he R hR
  have he:_=_:=he
  simp only [List.cons.injEq,D.raw.injEq,D.fs.injEq,Value.bool.injEq,Value.int.injEq,and_true,true_and] at he
  obtain ⟨rfl,rfl,rfl,rfl,rfl,rfl,rfl,rfl,rfl,rfl,rfl,rfl,rfl,rfl,rfl,rfl⟩:=he
  repeat' first | assumption | exact DShs.tail (DSh_nth (by assumption) (by assumption)) | exact shp32 (by assumption) | exact shp64 (by assumption) | exact shp2 (by assumption) | exact shpF (by assumption) | with_reducible intro _ | with_reducible apply And.intro
  all_goals first
    | assumption
    | exact hR _ rfl
    | exact eqD_rf _
    | exact eqQ_rf _
    | (exfalso;exact ‹¬_=_› rfl)
    | (exfalso;exact absurd rfl ‹_≠_›)
    | exact vb_no ‹_=[vb true]› ‹_=false›
    | (subst_vars;exact hR _ rfl)
    | (exfalso;exact bno1 ‹_=false› ‹_=true›)
    | (exfalso;simp_all;done)
    | (simp only [dshs_cons,dshs_nil,dsh_int,dsh_bool,dsh_sl,rng64,true_and,and_true] at *;simp_all;done)
    | skip
theorem con_qPart:Con Go.Proofs.Tryz.prog k0 128 t_qPart :=
  con_of (cxf_ok mixOk (fun p hp=>by
    simp only [List.mem_cons,List.not_mem_nil,or_false] at hp
    rcases hp with rfl | rfl
    · exact con_qMass
    · exact con_qTags) (fun p hp=>by
    simp only [List.mem_cons,List.not_mem_nil,or_false] at hp
    rcases hp with rfl | rfl
    · intro t ht;cases ht;exact fn_qMass
    · intro t ht;cases ht;exact fn_qTags)) Go.Proofs.Tryz.func128 rfl rfl rfl rfl vcEq_qPart vcPf_qPart
end Go.Vc

namespace Go.Vc
open Classical
def f_qInts (aa:List DV):List DV:=[vb true]
def t_qInts:ConT:=⟨[kl,kl],[kb],fun aa=>LSh [s64] (li aa 0)∧eqQ (li aa 0) (li aa 1),fun aa rs=>rs=f_qInts aa⟩
theorem fn_qInts:∀ aa,t_qInts.pre aa→∀ rs,t_qInts.post aa rs→rs=f_qInts aa:=fun _ _ _ h=>h
def V_qInts:Prop:=∀ (l0 l1:LL),Ob (LSh [s64] l0∧eqQ l0 l1)→∀ (R:List DV→Prop),Ob (∀ (res:List DV),res=[vb true]→R res)→∀ (x3:Int),x3=(↑(List.length l0):Int)→∀ (x4:Int),x4=(↑(List.length l1):Int)→(x3≠x4→Ob (R [vb false]))∧(¬x3≠x4→Ob ((0:Int)≤(0:Int)∧(0:Int)≤(↑(List.length l0):Int))∧∀ (g5:Nat→Value) (x6:Int),Ob ((0:Int)≤x6∧x6≤(↑(List.length l0):Int))→∀ (x7:Int),x7=(↑(List.length l0):Int)→(x6<x7→Ob ((0:Int)≤x6∧x6<(↑(List.length l0):Int))∧Ob (Shp [Kd.int IntKind.i64] l0)∧∀ (x8:Int),Ob (l0[Int.toNat x6]?=some [dn x8])→Ob ((0:Int)≤x6∧x6<(↑(List.length l1):Int))∧Ob (Shp [Kd.int IntKind.i64] l1)∧∀ (x9:Int),Ob (l1[Int.toNat x6]?=some [dn x9])→(x8≠x9→Ob (R [vb false]))∧(¬x8≠x9→∀ (x10:Int),x10=w64 (x6+(1:Int))→Ob ((0:Int)≤x10∧x10≤(↑(List.length l0):Int))∧Ob (List.length l0-Int.toNat x10<List.length l0-Int.toNat x6)))∧(¬x6<x7→Ob (R [vb true])))
set_option maxRecDepth 100000 in
theorem vcEq_qInts:vcFn Go.Proofs.Tryz.prog k0 (cxf [] [(129000,0,some ⟨[0,1],[5],[],[kn],[],fun ρ ds=>0≤ni ds 0∧ni ds 0≤(ρ.d 0).length,fun ρ ds=>(ρ.d 0).length-(ni ds 0).toNat,none⟩)] [] []) 3000 129 Go.Proofs.Tryz.f129 (bodyOf Go.Proofs.Tryz.f129) t_qInts=V_qInts:=by kernel_rfl
set_option maxHeartbeats 4000000 in
set_option maxRecDepth 20000 in
theorem vcPf_qInts:V_qInts:=by
  delta V_qInts
  simp only [ob_iff,and_imp,forall_exists_index,true_and,and_true,List.cons.injEq,DV.c.injEq,DV.a.injEq,D.raw.injEq,D.fs.injEq,Value.bool.injEq,Value.int.injEq]
  intro l0 l1 hl hs he R hR
  have he:l0=l1:=he
  subst he
  repeat' first | assumption | exact DShs.tail (DSh_nth (by assumption) (by assumption)) | exact shp32 (by assumption) | exact shp64 (by assumption) | exact shp2 (by assumption) | exact shpF (by assumption) | with_reducible intro _ | with_reducible apply And.intro
  all_goals (try (have e:=w64_succ ‹_=w64 (_+1)› (by omega) (by omega);subst e))
  all_goals first
    | assumption
    | omega
    | exact shp64 hs
    | exact hR _ rfl
    | exact DSh_nth (by assumption) (by assumption)
    | exact eqD_at (by assumption) (by assumption)
    | exact eqD_tl (by assumption) (by assumption)
    | exact DShs.tail (DSh_nth (by assumption) (by assumption))
    | exact vb_no ‹_=[vb true]› ‹_=false›
    | (exfalso;omega)
    | grind
    | skip
theorem con_qInts:Con Go.Proofs.Tryz.prog k0 129 t_qInts :=
  con_of (cxf_ok mixOk (fun p hp=>by cases hp) (fun p hp=>by cases hp)) Go.Proofs.Tryz.func129 rfl rfl rfl rfl vcEq_qInts vcPf_qInts
end Go.Vc

namespace Go.Vc
open Classical
def f_qDesc (aa:List DV):List DV:=[vb true]
def t_qDesc:ConT:=⟨[kl,kl],[kb],fun aa=>LSh pairS (li aa 0)∧eqQ (li aa 0) (li aa 1),fun aa rs=>rs=f_qDesc aa⟩
theorem fn_qDesc:∀ aa,t_qDesc.pre aa→∀ rs,t_qDesc.post aa rs→rs=f_qDesc aa:=fun _ _ _ h=>h
def V_qDesc:Prop:=∀ (l0 l1:LL),Ob (LSh pairS l0∧eqQ l0 l1)→∀ (R:List DV→Prop),Ob (∀ (res:List DV),res=[vb true]→R res)→∀ (x3:Int),x3=(↑(List.length l0):Int)→∀ (x4:Int),x4=(↑(List.length l1):Int)→(x3≠x4→Ob (R [vb false]))∧(¬x3≠x4→Ob ((0:Int)≤(0:Int)∧(0:Int)≤(↑(List.length l0):Int))∧∀ (g5:Nat→Value) (x6:Int),Ob ((0:Int)≤x6∧x6≤(↑(List.length l0):Int))→∀ (x7:Int),x7=(↑(List.length l0):Int)→(x6<x7→Ob ((0:Int)≤x6∧x6<(↑(List.length l0):Int))∧Ob (Shp [Kd.int IntKind.i64,Kd.int IntKind.i64] l0)∧∀ (x8 x9:Int),Ob (l0[Int.toNat x6]?=some [dn x8,dn x9])→Ob ((0:Int)≤x6∧x6<(↑(List.length l1):Int))∧Ob (Shp [Kd.int IntKind.i64,Kd.int IntKind.i64] l1)∧∀ (x10 x11:Int),Ob (l1[Int.toNat x6]?=some [dn x10,dn x11])→(¬(x8=x10∧x9=x11)→Ob (R [vb false]))∧(¬¬(x8=x10∧x9=x11)→∀ (x12:Int),x12=w64 (x6+(1:Int))→Ob ((0:Int)≤x12∧x12≤(↑(List.length l0):Int))∧Ob (List.length l0-Int.toNat x12<List.length l0-Int.toNat x6)))∧(¬x6<x7→Ob (R [vb true])))
set_option maxRecDepth 100000 in
theorem vcEq_qDesc:vcFn Go.Proofs.Tryz.prog k0 (cxf [] [(206000,0,some ⟨[0,1],[5],[],[kn],[],fun ρ ds=>0≤ni ds 0∧ni ds 0≤(ρ.d 0).length,fun ρ ds=>(ρ.d 0).length-(ni ds 0).toNat,none⟩)] [] []) 3000 206 Go.Proofs.Tryz.f206 (bodyOf Go.Proofs.Tryz.f206) t_qDesc=V_qDesc:=by kernel_rfl
set_option maxHeartbeats 4000000 in
set_option maxRecDepth 20000 in
theorem vcPf_qDesc:V_qDesc:=by
  delta V_qDesc
  simp only [ob_iff,and_imp,forall_exists_index,true_and,and_true,List.cons.injEq,DV.c.injEq,DV.a.injEq,D.raw.injEq,D.fs.injEq,Value.bool.injEq,Value.int.injEq]
  intro l0 l1 hl hs he R hR
  have he:l0=l1:=he
  subst he
  repeat' first | assumption | exact DShs.tail (DSh_nth (by assumption) (by assumption)) | exact shp32 (by assumption) | exact shp64 (by assumption) | exact shp2 (by assumption) | exact shpF (by assumption) | with_reducible intro _ | with_reducible apply And.intro
  all_goals (try (have e:=w64_succ ‹_=w64 (_+1)› (by omega) (by omega);subst e))
  all_goals first
    | assumption
    | omega
    | exact shp2 hs
    | exact hR _ rfl
    | exact DSh_nth (by assumption) (by assumption)
    | exact eqD_at (by assumption) (by assumption)
    | exact eqD_tl (by assumption) (by assumption)
    | exact DShs.tail (DSh_nth (by assumption) (by assumption))
    | exact vb_no ‹_=[vb true]› ‹_=false›
    | (exfalso;omega)
    | grind
    | skip
theorem con_qDesc:Con Go.Proofs.Tryz.prog k0 206 t_qDesc :=
  con_of (cxf_ok mixOk (fun p hp=>by cases hp) (fun p hp=>by cases hp)) Go.Proofs.Tryz.func206 rfl rfl rfl rfl vcEq_qDesc vcPf_qDesc
end Go.Vc

namespace Go.Vc
open Classical
def f_qCache (aa:List DV):List DV:=[vb true]
def t_qCache:ConT:=⟨[rkS cacheS,rkS cacheS],[kb],fun aa=>DShs cacheS (ai aa 0)∧eqD (ai aa 0) (ai aa 1),fun aa rs=>rs=f_qCache aa⟩
theorem fn_qCache:∀ aa,t_qCache.pre aa→∀ rs,t_qCache.post aa rs→rs=f_qCache aa:=fun _ _ _ h=>h
def V_qCache:Prop:=∀ (x0 x1:Int) (l2:LL) (x3 x4:Int) (l5:LL),Ob (DShs cacheS [dn x0,dn x1,D.fs l2]∧eqD [dn x0,dn x1,D.fs l2] [dn x3,dn x4,D.fs l5])→∀ (R:List DV→Prop),Ob (∀ (res:List DV),res=[vb true]→R res)→(x0=x3→(x1=x4→Ob (LSh pairS l2∧eqQ l2 l5)∧∀ (b7:Bool),Ob ([vb b7]=[vb true])→Ob (R [vb b7]))∧(¬x1=x4→Ob (R [vb false])))∧(¬x0=x3→Ob (R [vb false]))
set_option maxRecDepth 100000 in
theorem vcEq_qCache:vcFn Go.Proofs.Tryz.prog k0 (cxf [(206,t_qDesc)] [] [] [(206,f_qDesc)]) 3000 130 Go.Proofs.Tryz.f130 (bodyOf Go.Proofs.Tryz.f130) t_qCache=V_qCache:=by kernel_rfl
set_option maxHeartbeats 4000000 in
set_option maxRecDepth 20000 in
theorem vcPf_qCache:V_qCache:=by
  delta V_qCache
  simp only [ob_iff,and_imp,forall_exists_index,true_and,and_true,List.cons.injEq,DV.c.injEq,DV.a.injEq,D.raw.injEq,D.fs.injEq,Value.bool.injEq,Value.int.injEq]
  intro a0 a1 a2 b0 b1 b2 hs he R hR
  have he:_=_:=he
  simp only [List.cons.injEq,D.raw.injEq,D.fs.injEq,Value.bool.injEq,Value.int.injEq,and_true,true_and] at he
  obtain ⟨rfl,rfl,rfl⟩:=he
  repeat' first | assumption | exact DShs.tail (DSh_nth (by assumption) (by assumption)) | exact shp32 (by assumption) | exact shp64 (by assumption) | exact shp2 (by assumption) | exact shpF (by assumption) | with_reducible intro _ | with_reducible apply And.intro
  all_goals first
    | assumption
    | exact hR _ rfl
    | exact eqD_rf _
    | exact eqQ_rf _
    | (exfalso;exact ‹¬_=_› rfl)
    | (exfalso;exact absurd rfl ‹_≠_›)
    | exact vb_no ‹_=[vb true]› ‹_=false›
    | (subst_vars;exact hR _ rfl)
    | (exfalso;exact bno1 ‹_=false› ‹_=true›)
    | (exfalso;simp_all;done)
    | (simp only [dshs_cons,dshs_nil,dsh_int,dsh_bool,dsh_sl,rng64,true_and,and_true] at *;simp_all;done)
    | skip
theorem con_qCache:Con Go.Proofs.Tryz.prog k0 130 t_qCache :=
  con_of (cxf_ok mixOk (fun p hp=>by
    simp only [List.mem_cons,List.not_mem_nil,or_false] at hp
    subst hp
    exact con_qDesc) (fun p hp=>by
    simp only [List.mem_cons,List.not_mem_nil,or_false] at hp
    subst hp
    · intro t ht;cases ht;exact fn_qDesc)) Go.Proofs.Tryz.func130 rfl rfl rfl rfl vcEq_qCache vcPf_qCache
end Go.Vc

namespace Go.Vc
open Classical
def f_qPast (aa:List DV):List DV:=[vb true]
def t_qPast:ConT:=⟨[kl,kl],[kb],fun aa=>LSh frozS (li aa 0)∧eqQ (li aa 0) (li aa 1),fun aa rs=>rs=f_qPast aa⟩
theorem fn_qPast:∀ aa,t_qPast.pre aa→∀ rs,t_qPast.post aa rs→rs=f_qPast aa:=fun _ _ _ h=>h
def V_qPast:Prop:=∀ (l0 l1:LL),Ob (LSh frozS l0∧eqQ l0 l1)→∀ (R:List DV→Prop),Ob (∀ (res:List DV),res=[vb true]→R res)→∀ (x3:Int),x3=(↑(List.length l0):Int)→∀ (x4:Int),x4=(↑(List.length l1):Int)→(x3≠x4→Ob (R [vb false]))∧(¬x3≠x4→Ob ((0:Int)≤(0:Int)∧(0:Int)≤(↑(List.length l0):Int))∧∀ (g5:Nat→Value) (x6:Int),Ob ((0:Int)≤x6∧x6≤(↑(List.length l0):Int))→∀ (x7:Int),x7=(↑(List.length l0):Int)→(x6<x7→Ob ((0:Int)≤x6∧x6<(↑(List.length l0):Int))∧Ob (Shp [Kd.int IntKind.i64,Kd.bool,Kd.sl,Kd.int IntKind.i64,Kd.bool,Kd.sl,Kd.int IntKind.i64,Kd.bool,Kd.sl,Kd.int IntKind.i64,Kd.bool,Kd.sl,Kd.int IntKind.i64,Kd.bool,Kd.int IntKind.i64,Kd.int IntKind.i64,Kd.sl] l0)∧∀ (x8:Int) (b9:Bool) (l10:LL) (x11:Int) (b12:Bool) (l13:LL) (x14:Int) (b15:Bool) (l16:LL) (x17:Int) (b18:Bool) (l19:LL) (x20:Int) (b21:Bool) (x22 x23:Int) (l24:LL),Ob (l0[Int.toNat x6]?=some [dn x8,db b9,D.fs l10,dn x11,db b12,D.fs l13,dn x14,db b15,D.fs l16,dn x17,db b18,D.fs l19,dn x20,db b21,dn x22,dn x23,D.fs l24])→Ob ((0:Int)≤x6∧x6<(↑(List.length l1):Int))∧Ob (Shp [Kd.int IntKind.i64,Kd.bool,Kd.sl,Kd.int IntKind.i64,Kd.bool,Kd.sl,Kd.int IntKind.i64,Kd.bool,Kd.sl,Kd.int IntKind.i64,Kd.bool,Kd.sl,Kd.int IntKind.i64,Kd.bool,Kd.int IntKind.i64,Kd.int IntKind.i64,Kd.sl] l1)∧∀ (x25:Int) (b26:Bool) (l27:LL) (x28:Int) (b29:Bool) (l30:LL) (x31:Int) (b32:Bool) (l33:LL) (x34:Int) (b35:Bool) (l36:LL) (x37:Int) (b38:Bool) (x39 x40:Int) (l41:LL),Ob (l1[Int.toNat x6]?=some [dn x25,db b26,D.fs l27,dn x28,db b29,D.fs l30,dn x31,db b32,D.fs l33,dn x34,db b35,D.fs l36,dn x37,db b38,dn x39,dn x40,D.fs l41])→(x8≠x25→Ob (R [vb false]))∧(¬x8≠x25→Ob ((0:Int)≤x6∧x6<(↑(List.length l0):Int))∧Ob (Shp [Kd.int IntKind.i64,Kd.bool,Kd.sl,Kd.int IntKind.i64,Kd.bool,Kd.sl,Kd.int IntKind.i64,Kd.bool,Kd.sl,Kd.int IntKind.i64,Kd.bool,Kd.sl,Kd.int IntKind.i64,Kd.bool,Kd.int IntKind.i64,Kd.int IntKind.i64,Kd.sl] l0)∧∀ (x42:Int) (b43:Bool) (l44:LL) (x45:Int) (b46:Bool) (l47:LL) (x48:Int) (b49:Bool) (l50:LL) (x51:Int) (b52:Bool) (l53:LL) (x54:Int) (b55:Bool) (x56 x57:Int) (l58:LL),Ob (l0[Int.toNat x6]?=some [dn x42,db b43,D.fs l44,dn x45,db b46,D.fs l47,dn x48,db b49,D.fs l50,dn x51,db b52,D.fs l53,dn x54,db b55,dn x56,dn x57,D.fs l58])→Ob ((0:Int)≤x6∧x6<(↑(List.length l1):Int))∧Ob (Shp [Kd.int IntKind.i64,Kd.bool,Kd.sl,Kd.int IntKind.i64,Kd.bool,Kd.sl,Kd.int IntKind.i64,Kd.bool,Kd.sl,Kd.int IntKind.i64,Kd.bool,Kd.sl,Kd.int IntKind.i64,Kd.bool,Kd.int IntKind.i64,Kd.int IntKind.i64,Kd.sl] l1)∧∀ (x59:Int) (b60:Bool) (l61:LL) (x62:Int) (b63:Bool) (l64:LL) (x65:Int) (b66:Bool) (l67:LL) (x68:Int) (b69:Bool) (l70:LL) (x71:Int) (b72:Bool) (x73 x74:Int) (l75:LL),Ob (l1[Int.toNat x6]?=some [dn x59,db b60,D.fs l61,dn x62,db b63,D.fs l64,dn x65,db b66,D.fs l67,dn x68,db b69,D.fs l70,dn x71,db b72,dn x73,dn x74,D.fs l75])→Ob (DShs partS [db b43,D.fs l44,dn x45,db b46,D.fs l47,dn x48,db b49,D.fs l50,dn x51,db b52,D.fs l53,dn x54,db b55,dn x56,dn x57,D.fs l58]∧eqD [db b43,D.fs l44,dn x45,db b46,D.fs l47,dn x48,db b49,D.fs l50,dn x51,db b52,D.fs l53,dn x54,db b55,dn x56,dn x57,D.fs l58] [db b60,D.fs l61,dn x62,db b63,D.fs l64,dn x65,db b66,D.fs l67,dn x68,db b69,D.fs l70,dn x71,db b72,dn x73,dn x74,D.fs l75])∧∀ (b76:Bool),Ob ([vb b76]=[vb true])→(b76=false→Ob (R [vb false]))∧(¬b76=false→∀ (x77:Int),x77=w64 (x6+(1:Int))→Ob ((0:Int)≤x77∧x77≤(↑(List.length l0):Int))∧Ob (List.length l0-Int.toNat x77<List.length l0-Int.toNat x6))))∧(¬x6<x7→Ob (R [vb true])))
set_option maxRecDepth 100000 in
theorem vcEq_qPast:vcFn Go.Proofs.Tryz.prog k0 (cxf [(128,t_qPart)] [(39000,0,some ⟨[0,1],[5],[],[kn],[],fun ρ ds=>0≤ni ds 0∧ni ds 0≤(ρ.d 0).length,fun ρ ds=>(ρ.d 0).length-(ni ds 0).toNat,none⟩)] [] [(128,f_qPart)]) 3000 39 Go.Proofs.Tryz.f39 (bodyOf Go.Proofs.Tryz.f39) t_qPast=V_qPast:=by kernel_rfl
set_option maxHeartbeats 4000000 in
set_option maxRecDepth 20000 in
theorem vcPf_qPast:V_qPast:=by
  delta V_qPast
  simp only [ob_iff,and_imp,forall_exists_index,true_and,and_true,List.cons.injEq,DV.c.injEq,DV.a.injEq,D.raw.injEq,D.fs.injEq,Value.bool.injEq,Value.int.injEq]
  intro l0 l1 hl hs he R hR
  have he:l0=l1:=he
  subst he
  repeat' first | assumption | exact DShs.tail (DSh_nth (by assumption) (by assumption)) | exact shp32 (by assumption) | exact shp64 (by assumption) | exact shp2 (by assumption) | exact shpF (by assumption) | with_reducible intro _ | with_reducible apply And.intro
  all_goals (try (have e:=w64_succ ‹_=w64 (_+1)› (by omega) (by omega);subst e))
  all_goals first
    | assumption
    | omega
    | exact shpF hs
    | exact hR _ rfl
    | exact DSh_nth (by assumption) (by assumption)
    | exact eqD_at (by assumption) (by assumption)
    | exact eqD_tl (by assumption) (by assumption)
    | exact DShs.tail (DSh_nth (by assumption) (by assumption))
    | exact vb_no ‹_=[vb true]› ‹_=false›
    | (exfalso;omega)
    | grind
    | skip
theorem con_qPast:Con Go.Proofs.Tryz.prog k0 39 t_qPast :=
  con_of (cxf_ok mixOk (fun p hp=>by
    simp only [List.mem_cons,List.not_mem_nil,or_false] at hp
    subst hp
    exact con_qPart) (fun p hp=>by
    simp only [List.mem_cons,List.not_mem_nil,or_false] at hp
    subst hp
    · intro t ht;cases ht;exact fn_qPart)) Go.Proofs.Tryz.func39 rfl rfl rfl rfl vcEq_qPast vcPf_qPast
end Go.Vc

namespace Go.Vc
open Classical
def f_qTimer (aa:List DV):List DV:=[vb true]
def t_qTimer:ConT:=⟨[kl,kl],[kb],fun aa=>LSh pairS (li aa 0)∧eqQ (li aa 0) (li aa 1),fun aa rs=>rs=f_qTimer aa⟩
theorem fn_qTimer:∀ aa,t_qTimer.pre aa→∀ rs,t_qTimer.post aa rs→rs=f_qTimer aa:=fun _ _ _ h=>h
def V_qTimer:Prop:=∀ (l0 l1:LL),Ob (LSh pairS l0∧eqQ l0 l1)→∀ (R:List DV→Prop),Ob (∀ (res:List DV),res=[vb true]→R res)→∀ (x3:Int),x3=(↑(List.length l0):Int)→∀ (x4:Int),x4=(↑(List.length l1):Int)→(x3≠x4→Ob (R [vb false]))∧(¬x3≠x4→Ob ((0:Int)≤(0:Int)∧(0:Int)≤(↑(List.length l0):Int))∧∀ (g5:Nat→Value) (x6:Int),Ob ((0:Int)≤x6∧x6≤(↑(List.length l0):Int))→∀ (x7:Int),x7=(↑(List.length l0):Int)→(x6<x7→Ob ((0:Int)≤x6∧x6<(↑(List.length l0):Int))∧Ob (Shp [Kd.int IntKind.i64,Kd.int IntKind.i64] l0)∧∀ (x8 x9:Int),Ob (l0[Int.toNat x6]?=some [dn x8,dn x9])→Ob ((0:Int)≤x6∧x6<(↑(List.length l1):Int))∧Ob (Shp [Kd.int IntKind.i64,Kd.int IntKind.i64] l1)∧∀ (x10 x11:Int),Ob (l1[Int.toNat x6]?=some [dn x10,dn x11])→(x8≠x10→Ob (R [vb false]))∧(¬x8≠x10→Ob ((0:Int)≤x6∧x6<(↑(List.length l0):Int))∧Ob (Shp [Kd.int IntKind.i64,Kd.int IntKind.i64] l0)∧∀ (x12 x13:Int),Ob (l0[Int.toNat x6]?=some [dn x12,dn x13])→Ob ((0:Int)≤x6∧x6<(↑(List.length l1):Int))∧Ob (Shp [Kd.int IntKind.i64,Kd.int IntKind.i64] l1)∧∀ (x14 x15:Int),Ob (l1[Int.toNat x6]?=some [dn x14,dn x15])→(x13≠x15→Ob (R [vb false]))∧(¬x13≠x15→∀ (x16:Int),x16=w64 (x6+(1:Int))→Ob ((0:Int)≤x16∧x16≤(↑(List.length l0):Int))∧Ob (List.length l0-Int.toNat x16<List.length l0-Int.toNat x6))))∧(¬x6<x7→Ob (R [vb true])))
set_option maxRecDepth 100000 in
theorem vcEq_qTimer:vcFn Go.Proofs.Tryz.prog k0 (cxf [] [(131000,0,some ⟨[0,1],[5],[],[kn],[],fun ρ ds=>0≤ni ds 0∧ni ds 0≤(ρ.d 0).length,fun ρ ds=>(ρ.d 0).length-(ni ds 0).toNat,none⟩)] [] []) 3000 131 Go.Proofs.Tryz.f131 (bodyOf Go.Proofs.Tryz.f131) t_qTimer=V_qTimer:=by kernel_rfl
set_option maxHeartbeats 4000000 in
set_option maxRecDepth 20000 in
theorem vcPf_qTimer:V_qTimer:=by
  delta V_qTimer
  simp only [ob_iff,and_imp,forall_exists_index,true_and,and_true,List.cons.injEq,DV.c.injEq,DV.a.injEq,D.raw.injEq,D.fs.injEq,Value.bool.injEq,Value.int.injEq]
  intro l0 l1 hl hs he R hR
  have he:l0=l1:=he
  subst he
  repeat' first | assumption | exact DShs.tail (DSh_nth (by assumption) (by assumption)) | exact shp32 (by assumption) | exact shp64 (by assumption) | exact shp2 (by assumption) | exact shpF (by assumption) | with_reducible intro _ | with_reducible apply And.intro
  all_goals (try (have e:=w64_succ ‹_=w64 (_+1)› (by omega) (by omega);subst e))
  all_goals first
    | assumption
    | omega
    | exact shp2 hs
    | exact hR _ rfl
    | exact DSh_nth (by assumption) (by assumption)
    | exact eqD_at (by assumption) (by assumption)
    | exact eqD_tl (by assumption) (by assumption)
    | exact DShs.tail (DSh_nth (by assumption) (by assumption))
    | exact vb_no ‹_=[vb true]› ‹_=false›
    | (exfalso;omega)
    | grind
    | skip
theorem con_qTimer:Con Go.Proofs.Tryz.prog k0 131 t_qTimer :=
  con_of (cxf_ok mixOk (fun p hp=>by cases hp) (fun p hp=>by cases hp)) Go.Proofs.Tryz.func131 rfl rfl rfl rfl vcEq_qTimer vcPf_qTimer
end Go.Vc

namespace Go.Vc
open Classical
def f_qNode (aa:List DV):List DV:=[vb true]
def t_qNode:ConT:=⟨[rkS nodeS,rkS nodeS],[kb],fun aa=>DShs nodeS (ai aa 0)∧eqD (ai aa 0) (ai aa 1),fun aa rs=>rs=f_qNode aa⟩
theorem fn_qNode:∀ aa,t_qNode.pre aa→∀ rs,t_qNode.post aa rs→rs=f_qNode aa:=fun _ _ _ h=>h
def V_qNode:Prop:=∀ (x0 x1:Int) (b2:Bool) (x3 x4 x5 x6 x7:Int) (b8:Bool) (l9:LL) (x10:Int) (b11:Bool) (l12:LL) (x13:Int) (b14:Bool) (l15:LL) (x16:Int) (b17:Bool) (l18:LL) (x19:Int) (b20:Bool) (x21 x22:Int) (l23:LL) (b24:Bool) (x25 x26:Int) (l27:LL) (x28 x29:Int) (l30 l31 l32:LL) (x33 x34:Int) (b35:Bool) (x36 x37 x38 x39 x40:Int) (b41:Bool) (l42:LL) (x43:Int) (b44:Bool) (l45:LL) (x46:Int) (b47:Bool) (l48:LL) (x49:Int) (b50:Bool) (l51:LL) (x52:Int) (b53:Bool) (x54 x55:Int) (l56:LL) (b57:Bool) (x58 x59:Int) (l60:LL) (x61 x62:Int) (l63 l64 l65:LL),Ob (DShs nodeS [dn x0,dn x1,db b2,dn x3,dn x4,dn x5,dn x6,dn x7,db b8,D.fs l9,dn x10,db b11,D.fs l12,dn x13,db b14,D.fs l15,dn x16,db b17,D.fs l18,dn x19,db b20,dn x21,dn x22,D.fs l23,db b24,dn x25,dn x26,D.fs l27,dn x28,dn x29,D.fs l30,D.fs l31,D.fs l32]∧eqD [dn x0,dn x1,db b2,dn x3,dn x4,dn x5,dn x6,dn x7,db b8,D.fs l9,dn x10,db b11,D.fs l12,dn x13,db b14,D.fs l15,dn x16,db b17,D.fs l18,dn x19,db b20,dn x21,dn x22,D.fs l23,db b24,dn x25,dn x26,D.fs l27,dn x28,dn x29,D.fs l30,D.fs l31,D.fs l32] [dn x33,dn x34,db b35,dn x36,dn x37,dn x38,dn x39,dn x40,db b41,D.fs l42,dn x43,db b44,D.fs l45,dn x46,db b47,D.fs l48,dn x49,db b50,D.fs l51,dn x52,db b53,dn x54,dn x55,D.fs l56,db b57,dn x58,dn x59,D.fs l60,dn x61,dn x62,D.fs l63,D.fs l64,D.fs l65])→∀ (R:List DV→Prop),Ob (∀ (res:List DV),res=[vb true]→R res)→(x0≠x33→Ob (R [vb false]))∧(¬x0≠x33→(x1≠x34→Ob (R [vb false]))∧(¬x1≠x34→(b2≠b35→Ob (R [vb false]))∧(¬b2≠b35→(¬(x3=x36∧x4=x37∧x5=x38∧x6=x39∧x7=x40)→Ob (R [vb false]))∧(¬¬(x3=x36∧x4=x37∧x5=x38∧x6=x39∧x7=x40)→(¬(b24=b57∧x25=x58∧x26=x59)→Ob (R [vb false]))∧(¬¬(b24=b57∧x25=x58∧x26=x59)→Ob (DShs partS [db b8,D.fs l9,dn x10,db b11,D.fs l12,dn x13,db b14,D.fs l15,dn x16,db b17,D.fs l18,dn x19,db b20,dn x21,dn x22,D.fs l23]∧eqD [db b8,D.fs l9,dn x10,db b11,D.fs l12,dn x13,db b14,D.fs l15,dn x16,db b17,D.fs l18,dn x19,db b20,dn x21,dn x22,D.fs l23] [db b41,D.fs l42,dn x43,db b44,D.fs l45,dn x46,db b47,D.fs l48,dn x49,db b50,D.fs l51,dn x52,db b53,dn x54,dn x55,D.fs l56])∧∀ (b67:Bool),Ob ([vb b67]=[vb true])→(b67=true→Ob (LSh [s64] l27∧eqQ l27 l60)∧∀ (b68:Bool),Ob ([vb b68]=[vb true])→(b68=true→Ob (DShs cacheS [dn x28,dn x29,D.fs l30]∧eqD [dn x28,dn x29,D.fs l30] [dn x61,dn x62,D.fs l63])∧∀ (b69:Bool),Ob ([vb b69]=[vb true])→(b69=true→Ob (LSh frozS l31∧eqQ l31 l64)∧∀ (b70:Bool),Ob ([vb b70]=[vb true])→(b70=true→Ob (LSh pairS l32∧eqQ l32 l65)∧∀ (b71:Bool),Ob ([vb b71]=[vb true])→Ob (R [vb b71]))∧(b70=false→Ob (R [vb false])))∧(b69=false→Ob (R [vb false])))∧(b68=false→Ob (R [vb false])))∧(b67=false→Ob (R [vb false])))))))
set_option maxRecDepth 100000 in
theorem vcEq_qNode:vcFn Go.Proofs.Tryz.prog k0 (cxf [(128,t_qPart),(129,t_qInts),(130,t_qCache),(39,t_qPast),(131,t_qTimer)] [] [] [(128,f_qPart),(129,f_qInts),(130,f_qCache),(39,f_qPast),(131,f_qTimer)]) 3000 38 Go.Proofs.Tryz.f38 (bodyOf Go.Proofs.Tryz.f38) t_qNode=V_qNode:=by kernel_rfl
set_option maxHeartbeats 4000000 in
set_option maxRecDepth 20000 in
theorem vcPf_qNode:V_qNode:=by
  delta V_qNode
  simp only [ob_iff,and_imp,forall_exists_index,true_and,and_true,List.cons.injEq,DV.c.injEq,DV.a.injEq,D.raw.injEq,D.fs.injEq,Value.bool.injEq,Value.int.injEq]
  intro a0 a1 a2 a3 a4 a5 a6 a7 a8 a9 a10 a11 a12 a13 a14 a15 a16 a17 a18 a19 a20 a21 a22 a23 a24 a25 a26 a27 a28 a29 a30 a31 a32 b0 b1 b2 b3 b4 b5 b6 b7 b8 b9 b10 b11 b12 b13 b14 b15 b16 b17 b18 b19 b20 b21 b22 b23 b24 b25 b26 b27 b28 b29 b30 b31 b32 hs he R hR
  have he:_=_:=he
  simp only [List.cons.injEq,D.raw.injEq,D.fs.injEq,Value.bool.injEq,Value.int.injEq,and_true,true_and] at he
  obtain ⟨rfl,rfl,rfl,rfl,rfl,rfl,rfl,rfl,rfl,rfl,rfl,rfl,rfl,rfl,rfl,rfl,rfl,rfl,rfl,rfl,rfl,rfl,rfl,rfl,rfl,rfl,rfl,rfl,rfl,rfl,rfl,rfl,rfl⟩:=he
  repeat' first | assumption | exact DShs.tail (DSh_nth (by assumption) (by assumption)) | exact shp32 (by assumption) | exact shp64 (by assumption) | exact shp2 (by assumption) | exact shpF (by assumption) | with_reducible intro _ | with_reducible apply And.intro
  all_goals first
    | assumption
    | exact hR _ rfl
    | exact eqD_rf _
    | exact eqQ_rf _
    | (exfalso;exact ‹¬_=_› rfl)
    | (exfalso;exact absurd rfl ‹_≠_›)
    | exact vb_no ‹_=[vb true]› ‹_=false›
    | (subst_vars;exact hR _ rfl)
    | (exfalso;exact bno1 ‹_=false› ‹_=true›)
    | (exfalso;simp_all;done)
    | (simp only [dshs_cons,dshs_nil,dsh_int,dsh_bool,dsh_sl,rng64,true_and,and_true] at *;simp_all;done)
    | skip
theorem con_qNode:Con Go.Proofs.Tryz.prog k0 38 t_qNode :=
  con_of (cxf_ok mixOk (fun p hp=>by
    simp only [List.mem_cons,List.not_mem_nil,or_false] at hp
    rcases hp with rfl | rfl | rfl | rfl | rfl
    · exact con_qPart
    · exact con_qInts
    · exact con_qCache
    · exact con_qPast
    · exact con_qTimer) (fun p hp=>by
    simp only [List.mem_cons,List.not_mem_nil,or_false] at hp
    rcases hp with rfl | rfl | rfl | rfl | rfl
    · intro t ht;cases ht;exact fn_qPart
    · intro t ht;cases ht;exact fn_qInts
    · intro t ht;cases ht;exact fn_qCache
    · intro t ht;cases ht;exact fn_qPast
    · intro t ht;cases ht;exact fn_qTimer)) Go.Proofs.Tryz.func38 rfl rfl rfl rfl vcEq_qNode vcPf_qNode
end Go.Vc

namespace Go.Vc
open Classical
def f_qNodes (aa:List DV):List DV:=[vb true]
def t_qNodes:ConT:=⟨[kl,kl],[kb],fun aa=>LSh nodeS (li aa 0)∧eqQ (li aa 0) (li aa 1),fun aa rs=>rs=f_qNodes aa⟩
theorem fn_qNodes:∀ aa,t_qNodes.pre aa→∀ rs,t_qNodes.post aa rs→rs=f_qNodes aa:=fun _ _ _ h=>h
def V_qNodes:Prop:=∀ (l0 l1:LL),Ob (LSh nodeS l0∧eqQ l0 l1)→∀ (R:List DV→Prop),Ob (∀ (res:List DV),res=[vb true]→R res)→∀ (x3:Int),x3=(↑(List.length l0):Int)→∀ (x4:Int),x4=(↑(List.length l1):Int)→(x3≠x4→Ob (R [vb false]))∧(¬x3≠x4→Ob ((0:Int)≤(0:Int)∧(0:Int)≤(↑(List.length l0):Int))∧∀ (g5:Nat→Value) (x6:Int),Ob ((0:Int)≤x6∧x6≤(↑(List.length l0):Int))→∀ (x7:Int),x7=(↑(List.length l0):Int)→(x6<x7→Ob ((0:Int)≤x6∧x6<(↑(List.length l0):Int))∧Ob (Shp [Kd.int IntKind.i64,Kd.int IntKind.i64,Kd.bool,Kd.int IntKind.i64,Kd.int IntKind.i64,Kd.int IntKind.i64,Kd.int IntKind.i64,Kd.int IntKind.i64,Kd.bool,Kd.sl,Kd.int IntKind.i64,Kd.bool,Kd.sl,Kd.int IntKind.i64,Kd.bool,Kd.sl,Kd.int IntKind.i64,Kd.bool,Kd.sl,Kd.int IntKind.i64,Kd.bool,Kd.int IntKind.i64,Kd.int IntKind.i64,Kd.sl,Kd.bool,Kd.int IntKind.i64,Kd.int IntKind.i64,Kd.sl,Kd.int IntKind.i64,Kd.int IntKind.i64,Kd.sl,Kd.sl,Kd.sl] l0)∧∀ (x8 x9:Int) (b10:Bool) (x11 x12 x13 x14 x15:Int) (b16:Bool) (l17:LL) (x18:Int) (b19:Bool) (l20:LL) (x21:Int) (b22:Bool) (l23:LL) (x24:Int) (b25:Bool) (l26:LL) (x27:Int) (b28:Bool) (x29 x30:Int) (l31:LL) (b32:Bool) (x33 x34:Int) (l35:LL) (x36 x37:Int) (l38 l39 l40:LL),Ob (l0[Int.toNat x6]?=some [dn x8,dn x9,db b10,dn x11,dn x12,dn x13,dn x14,dn x15,db b16,D.fs l17,dn x18,db b19,D.fs l20,dn x21,db b22,D.fs l23,dn x24,db b25,D.fs l26,dn x27,db b28,dn x29,dn x30,D.fs l31,db b32,dn x33,dn x34,D.fs l35,dn x36,dn x37,D.fs l38,D.fs l39,D.fs l40])→Ob ((0:Int)≤x6∧x6<(↑(List.length l1):Int))∧Ob (Shp [Kd.int IntKind.i64,Kd.int IntKind.i64,Kd.bool,Kd.int IntKind.i64,Kd.int IntKind.i64,Kd.int IntKind.i64,Kd.int IntKind.i64,Kd.int IntKind.i64,Kd.bool,Kd.sl,Kd.int IntKind.i64,Kd.bool,Kd.sl,Kd.int IntKind.i64,Kd.bool,Kd.sl,Kd.int IntKind.i64,Kd.bool,Kd.sl,Kd.int IntKind.i64,Kd.bool,Kd.int IntKind.i64,Kd.int IntKind.i64,Kd.sl,Kd.bool,Kd.int IntKind.i64,Kd.int IntKind.i64,Kd.sl,Kd.int IntKind.i64,Kd.int IntKind.i64,Kd.sl,Kd.sl,Kd.sl] l1)∧∀ (x41 x42:Int) (b43:Bool) (x44 x45 x46 x47 x48:Int) (b49:Bool) (l50:LL) (x51:Int) (b52:Bool) (l53:LL) (x54:Int) (b55:Bool) (l56:LL) (x57:Int) (b58:Bool) (l59:LL) (x60:Int) (b61:Bool) (x62 x63:Int) (l64:LL) (b65:Bool) (x66 x67:Int) (l68:LL) (x69 x70:Int) (l71 l72 l73:LL),Ob (l1[Int.toNat x6]?=some [dn x41,dn x42,db b43,dn x44,dn x45,dn x46,dn x47,dn x48,db b49,D.fs l50,dn x51,db b52,D.fs l53,dn x54,db b55,D.fs l56,dn x57,db b58,D.fs l59,dn x60,db b61,dn x62,dn x63,D.fs l64,db b65,dn x66,dn x67,D.fs l68,dn x69,dn x70,D.fs l71,D.fs l72,D.fs l73])→Ob (DShs nodeS [dn x8,dn x9,db b10,dn x11,dn x12,dn x13,dn x14,dn x15,db b16,D.fs l17,dn x18,db b19,D.fs l20,dn x21,db b22,D.fs l23,dn x24,db b25,D.fs l26,dn x27,db b28,dn x29,dn x30,D.fs l31,db b32,dn x33,dn x34,D.fs l35,dn x36,dn x37,D.fs l38,D.fs l39,D.fs l40]∧eqD [dn x8,dn x9,db b10,dn x11,dn x12,dn x13,dn x14,dn x15,db b16,D.fs l17,dn x18,db b19,D.fs l20,dn x21,db b22,D.fs l23,dn x24,db b25,D.fs l26,dn x27,db b28,dn x29,dn x30,D.fs l31,db b32,dn x33,dn x34,D.fs l35,dn x36,dn x37,D.fs l38,D.fs l39,D.fs l40] [dn x41,dn x42,db b43,dn x44,dn x45,dn x46,dn x47,dn x48,db b49,D.fs l50,dn x51,db b52,D.fs l53,dn x54,db b55,D.fs l56,dn x57,db b58,D.fs l59,dn x60,db b61,dn x62,dn x63,D.fs l64,db b65,dn x66,dn x67,D.fs l68,dn x69,dn x70,D.fs l71,D.fs l72,D.fs l73])∧∀ (b74:Bool),Ob ([vb b74]=[vb true])→(b74=false→Ob (R [vb false]))∧(¬b74=false→∀ (x75:Int),x75=w64 (x6+(1:Int))→Ob ((0:Int)≤x75∧x75≤(↑(List.length l0):Int))∧Ob (List.length l0-Int.toNat x75<List.length l0-Int.toNat x6)))∧(¬x6<x7→Ob (R [vb true])))
set_option maxRecDepth 100000 in
theorem vcEq_qNodes:vcFn Go.Proofs.Tryz.prog k0 (cxf [(38,t_qNode)] [(57000,0,some ⟨[0,1],[5],[],[kn],[],fun ρ ds=>0≤ni ds 0∧ni ds 0≤(ρ.d 0).length,fun ρ ds=>(ρ.d 0).length-(ni ds 0).toNat,none⟩)] [] [(38,f_qNode)]) 3000 57 Go.Proofs.Tryz.f57 (bodyOf Go.Proofs.Tryz.f57) t_qNodes=V_qNodes:=by kernel_rfl
set_option maxHeartbeats 4000000 in
set_option maxRecDepth 20000 in
theorem vcPf_qNodes:V_qNodes:=by
  delta V_qNodes
  simp only [ob_iff,and_imp,forall_exists_index,true_and,and_true,List.cons.injEq,DV.c.injEq,DV.a.injEq,D.raw.injEq,D.fs.injEq,Value.bool.injEq,Value.int.injEq]
  intro l0 l1 hl hs he R hR
  have he:l0=l1:=he
  subst he
  repeat' first | assumption | exact DShs.tail (DSh_nth (by assumption) (by assumption)) | exact shp32 (by assumption) | exact shp64 (by assumption) | exact shp2 (by assumption) | exact shpF (by assumption) | with_reducible intro _ | with_reducible apply And.intro
  all_goals (try (have e:=w64_succ ‹_=w64 (_+1)› (by omega) (by omega);subst e))
  all_goals first
    | assumption
    | omega
    | exact shpN hs
    | exact hR _ rfl
    | exact DSh_nth (by assumption) (by assumption)
    | exact eqD_at (by assumption) (by assumption)
    | exact eqD_tl (by assumption) (by assumption)
    | exact DShs.tail (DSh_nth (by assumption) (by assumption))
    | exact vb_no ‹_=[vb true]› ‹_=false›
    | (exfalso;omega)
    | grind
    | skip
theorem con_qNodes:Con Go.Proofs.Tryz.prog k0 57 t_qNodes :=
  con_of (cxf_ok mixOk (fun p hp=>by
    simp only [List.mem_cons,List.not_mem_nil,or_false] at hp
    subst hp
    exact con_qNode) (fun p hp=>by
    simp only [List.mem_cons,List.not_mem_nil,or_false] at hp
    subst hp
    · intro t ht;cases ht;exact fn_qNode)) Go.Proofs.Tryz.func57 rfl rfl rfl rfl vcEq_qNodes vcPf_qNodes
end Go.Vc

namespace Go.Vc
open Classical
def f_qSeeds (aa:List DV):List DV:=[vb true]
def t_qSeeds:ConT:=⟨[kl,kl],[kb],fun aa=>LSh [s64,s64,s64] (li aa 0)∧eqQ (li aa 0) (li aa 1),fun aa rs=>rs=f_qSeeds aa⟩
theorem fn_qSeeds:∀ aa,t_qSeeds.pre aa→∀ rs,t_qSeeds.post aa rs→rs=f_qSeeds aa:=fun _ _ _ h=>h
def V_qSeeds:Prop:=∀ (l0 l1:LL),Ob (LSh [s64,s64,s64] l0∧eqQ l0 l1)→∀ (R:List DV→Prop),Ob (∀ (res:List DV),res=[vb true]→R res)→∀ (x3:Int),x3=(↑(List.length l0):Int)→∀ (x4:Int),x4=(↑(List.length l1):Int)→(x3≠x4→Ob (R [vb false]))∧(¬x3≠x4→Ob ((0:Int)≤(0:Int)∧(0:Int)≤(↑(List.length l0):Int))∧∀ (g5:Nat→Value) (x6:Int),Ob ((0:Int)≤x6∧x6≤(↑(List.length l0):Int))→∀ (x7:Int),x7=(↑(List.length l0):Int)→(x6<x7→Ob ((0:Int)≤x6∧x6<(↑(List.length l0):Int))∧Ob (Shp [Kd.int IntKind.i64,Kd.int IntKind.i64,Kd.int IntKind.i64] l0)∧∀ (x8 x9 x10:Int),Ob (l0[Int.toNat x6]?=some [dn x8,dn x9,dn x10])→Ob ((0:Int)≤x6∧x6<(↑(List.length l1):Int))∧Ob (Shp [Kd.int IntKind.i64,Kd.int IntKind.i64,Kd.int IntKind.i64] l1)∧∀ (x11 x12 x13:Int),Ob (l1[Int.toNat x6]?=some [dn x11,dn x12,dn x13])→(¬(x8=x11∧x9=x12∧x10=x13)→Ob (R [vb false]))∧(¬¬(x8=x11∧x9=x12∧x10=x13)→∀ (x14:Int),x14=w64 (x6+(1:Int))→Ob ((0:Int)≤x14∧x14≤(↑(List.length l0):Int))∧Ob (List.length l0-Int.toNat x14<List.length l0-Int.toNat x6)))∧(¬x6<x7→Ob (R [vb true])))
set_option maxRecDepth 100000 in
theorem vcEq_qSeeds:vcFn Go.Proofs.Tryz.prog k0 (cxf [] [(61000,0,some ⟨[0,1],[5],[],[kn],[],fun ρ ds=>0≤ni ds 0∧ni ds 0≤(ρ.d 0).length,fun ρ ds=>(ρ.d 0).length-(ni ds 0).toNat,none⟩)] [] []) 3000 61 Go.Proofs.Tryz.f61 (bodyOf Go.Proofs.Tryz.f61) t_qSeeds=V_qSeeds:=by kernel_rfl
set_option maxHeartbeats 4000000 in
set_option maxRecDepth 20000 in
theorem vcPf_qSeeds:V_qSeeds:=by
  delta V_qSeeds
  simp only [ob_iff,and_imp,forall_exists_index,true_and,and_true,List.cons.injEq,DV.c.injEq,DV.a.injEq,D.raw.injEq,D.fs.injEq,Value.bool.injEq,Value.int.injEq]
  intro l0 l1 hl hs he R hR
  have he:l0=l1:=he
  subst he
  repeat' first | assumption | exact DShs.tail (DSh_nth (by assumption) (by assumption)) | exact shp32 (by assumption) | exact shp64 (by assumption) | exact shp2 (by assumption) | exact shpF (by assumption) | with_reducible intro _ | with_reducible apply And.intro
  all_goals (try (have e:=w64_succ ‹_=w64 (_+1)› (by omega) (by omega);subst e))
  all_goals first
    | assumption
    | omega
    | exact shpS hs
    | exact hR _ rfl
    | exact DSh_nth (by assumption) (by assumption)
    | exact eqD_at (by assumption) (by assumption)
    | exact eqD_tl (by assumption) (by assumption)
    | exact DShs.tail (DSh_nth (by assumption) (by assumption))
    | exact vb_no ‹_=[vb true]› ‹_=false›
    | (exfalso;omega)
    | grind
    | skip
theorem con_qSeeds:Con Go.Proofs.Tryz.prog k0 61 t_qSeeds :=
  con_of (cxf_ok mixOk (fun p hp=>by cases hp) (fun p hp=>by cases hp)) Go.Proofs.Tryz.func61 rfl rfl rfl rfl vcEq_qSeeds vcPf_qSeeds
end Go.Vc

namespace Go.Vc
open Classical
def f_qWorld (aa:List DV):List DV:=[vb true]
def t_qWorld:ConT:=⟨[rkS worldS0,rkS worldS0],[kb],fun aa=>DShs worldS0 (ai aa 0)∧eqD (ai aa 0) (ai aa 1)∧wLim (ai aa 0),fun aa rs=>rs=f_qWorld aa⟩
theorem fn_qWorld:∀ aa,t_qWorld.pre aa→∀ rs,t_qWorld.post aa rs→rs=f_qWorld aa:=fun _ _ _ h=>h
def V_qWorld:Prop:=∀ (x0 x1 x2 x3:Int) (l4 l5 l6 l7 l8:LL) (x9 x10 x11 x12 x13:Int) (l14 l15 l16 l17 l18:LL) (x19:Int),Ob (DShs worldS0 [dn x0,dn x1,dn x2,dn x3,D.fs l4,D.fs l5,D.fs l6,D.fs l7,D.fs l8,dn x9]∧eqD [dn x0,dn x1,dn x2,dn x3,D.fs l4,D.fs l5,D.fs l6,D.fs l7,D.fs l8,dn x9] [dn x10,dn x11,dn x12,dn x13,D.fs l14,D.fs l15,D.fs l16,D.fs l17,D.fs l18,dn x19]∧wLim [dn x0,dn x1,dn x2,dn x3,D.fs l4,D.fs l5,D.fs l6,D.fs l7,D.fs l8,dn x9])→∀ (R:List DV→Prop),Ob (∀ (res:List DV),res=[vb true]→R res)→(x0=x10∧x1=x11∧x2=x12∧x3=x13→Ob (LSh nodeS l4∧eqQ l4 l14)∧∀ (b21:Bool),Ob ([vb b21]=[vb true])→(b21=true→∀ (x22:Int),x22=(↑(List.length l5):Int)→∀ (x23:Int),x23=(↑(List.length l15):Int)→(x22≠x23→Ob (R [vb false]))∧(¬x22≠x23→∀ (x24:Int),x24=(↑(List.length l5):Int)→Ob ¬(0:Int)<x24∧∀ (x25:Int),x25=(↑(List.length l6):Int)→∀ (x26:Int),x26=(↑(List.length l16):Int)→(x25≠x26→Ob (R [vb false]))∧(¬x25≠x26→∀ (x27:Int),x27=(↑(List.length l6):Int)→Ob ¬(0:Int)<x27∧∀ (x28:Int),x28=(↑(List.length l7):Int)→∀ (x29:Int),x29=(↑(List.length l17):Int)→(x28≠x29→Ob (R [vb false]))∧(¬x28≠x29→∀ (x30:Int),x30=(↑(List.length l7):Int)→Ob ¬(0:Int)<x30∧Ob (LSh [s64,s64,s64] l8∧eqQ l8 l18)∧∀ (b31:Bool),Ob ([vb b31]=[vb true])→(b31=true→(x9=x19→Ob (R [vb true]))∧(¬x9=x19→Ob (R [vb false])))∧(b31=false→Ob (R [vb false]))))))∧(b21=false→Ob (R [vb false])))∧(¬(x0=x10∧x1=x11∧x2=x12∧x3=x13)→Ob (R [vb false]))
set_option maxRecDepth 100000 in
theorem vcEq_qWorld:vcFn Go.Proofs.Tryz.prog k0 (cxf [(57,t_qNodes),(61,t_qSeeds)] [(15000103023,0,none),(15000104030,0,none),(15000105037,0,none)] [(15000103023,15,false),(15000104030,15,false),(15000105037,15,false)] [(57,f_qNodes),(61,f_qSeeds)]) 3000 15 Go.Proofs.Tryz.f15 (bodyOf Go.Proofs.Tryz.f15) t_qWorld=V_qWorld:=by kernel_rfl
set_option maxHeartbeats 4000000 in
set_option maxRecDepth 20000 in
theorem vcPf_qWorld:V_qWorld:=by
  delta V_qWorld
  simp only [ob_iff,and_imp,forall_exists_index,true_and,and_true,List.cons.injEq,DV.c.injEq,DV.a.injEq,D.raw.injEq,D.fs.injEq,Value.bool.injEq,Value.int.injEq]
  intro a0 a1 a2 a3 a4 a5 a6 a7 a8 a9 b0 b1 b2 b3 b4 b5 b6 b7 b8 b9 hs he hL R hR
  have he:_=_:=he
  simp only [List.cons.injEq,D.raw.injEq,D.fs.injEq,Value.bool.injEq,Value.int.injEq,and_true,true_and] at he
  obtain ⟨rfl,rfl,rfl,rfl,rfl,rfl,rfl,rfl,rfl,rfl⟩:=he
  obtain ⟨⟨hL1,hL2⟩,hL5,hL6,hL7,hL8⟩:=hL
  replace hL5:a5.length=0:=hL5
  replace hL6:a6.length=0:=hL6
  replace hL7:a7.length=0:=hL7
  obtain rfl:=List.length_eq_zero_iff.1 hL5
  obtain rfl:=List.length_eq_zero_iff.1 hL6
  obtain rfl:=List.length_eq_zero_iff.1 hL7
  repeat' first | assumption | exact DShs.tail (DSh_nth (by assumption) (by assumption)) | exact shp32 (by assumption) | exact shp64 (by assumption) | exact shp2 (by assumption) | exact shpF (by assumption) | with_reducible intro _ | with_reducible apply And.intro
  all_goals first
    | assumption
    | exact hR _ rfl
    | exact eqD_rf _
    | exact eqQ_rf _
    | (exfalso;exact ‹¬_=_› rfl)
    | (exfalso;exact absurd rfl ‹_≠_›)
    | exact vb_no ‹_=[vb true]› ‹_=false›
    | (subst_vars;exact hR _ rfl)
    | (exfalso;exact bno1 ‹_=false› ‹_=true›)
    | (exfalso;simp_all;done)
    | (simp only [dshs_cons,dshs_nil,dsh_int,dsh_bool,dsh_sl,rng64,true_and,and_true] at *;simp_all;done)
    | skip
theorem con_qWorld:Con Go.Proofs.Tryz.prog k0 15 t_qWorld :=
  con_of (cxf_ok mixOk (fun p hp=>by
    simp only [List.mem_cons,List.not_mem_nil,or_false] at hp
    rcases hp with rfl | rfl
    · exact con_qNodes
    · exact con_qSeeds) (fun p hp=>by
    simp only [List.mem_cons,List.not_mem_nil,or_false] at hp
    rcases hp with rfl | rfl
    · intro t ht;cases ht;exact fn_qNodes
    · intro t ht;cases ht;exact fn_qSeeds)) Go.Proofs.Tryz.func15 rfl rfl rfl rfl vcEq_qWorld vcPf_qWorld
end Go.Vc

namespace Go.Vc
open Classical
def f_lawBegins (aa:List DV):List DV:=[vb true]
def t_lawBegins:ConT:=⟨[rkS [s64,s64,s64,s64],kl],[kb],fun aa=>DShs [s64,s64,s64,s64] (ai aa 0)∧LSh [s64] (li aa 1),fun aa rs=>rs=f_lawBegins aa⟩
def V_lawBegins:Prop:=∀ (x0 x1 x2 x3:Int) (l4:LL),Ob (DShs [s64,s64,s64,s64] [dn x0,dn x1,dn x2,dn x3]∧LSh [s64] l4)→∀ (R:List DV→Prop),Ob (∀ (res:List DV),res=[vb true]→R res)→∀ (x6:Int),x6=(↑(List.length l4):Int)→(x6>(20:Int)→Ob (R [vb true]))∧(¬x6>(20:Int)→Ob (Shp [Kd.int IntKind.i64] l4∧List.length ([]:LL)+List.length l4≤(1048576:Nat))∧∀ (l7:LL),l7=[]++l4→Ob (DShs [s64,s64,s64,s64] [dn x0,dn x1,dn x2,dn x3]∧LSh [s64] l7∧List.length l7≤(20:Nat))∧∀ (x8 x9 x10 x11:Int) (l12 l13 l14 l15 l16:LL) (x17 x18:Int),Ob ([DV.a [dn x8,dn x9,dn x10,dn x11,D.fs l12,D.fs l13,D.fs l14,D.fs l15,D.fs l16,dn x17],vn x18]=m_world x0 x1 x2 x3 l7)→Ob (DShs [s64,s64,s64,s64] [dn x0,dn x1,dn x2,dn x3]∧LSh [s64] l4∧List.length l4≤(20:Nat))∧∀ (x19 x20 x21 x22:Int) (l23 l24 l25 l26 l27:LL) (x28 x29:Int),Ob ([DV.a [dn x19,dn x20,dn x21,dn x22,D.fs l23,D.fs l24,D.fs l25,D.fs l26,D.fs l27,dn x28],vn x29]=m_world x0 x1 x2 x3 l4)→Ob (DShs worldS0 [dn x8,dn x9,dn x10,dn x11,D.fs l12,D.fs l13,D.fs l14,D.fs l15,D.fs l16,dn x17]∧eqD [dn x8,dn x9,dn x10,dn x11,D.fs l12,D.fs l13,D.fs l14,D.fs l15,D.fs l16,dn x17] [dn x19,dn x20,dn x21,dn x22,D.fs l23,D.fs l24,D.fs l25,D.fs l26,D.fs l27,dn x28]∧wLim [dn x8,dn x9,dn x10,dn x11,D.fs l12,D.fs l13,D.fs l14,D.fs l15,D.fs l16,dn x17])∧∀ (b30:Bool),Ob ([vb b30]=[vb true])→(b30=true→(x18=x29→Ob ((0:Int)≤(0:Int)∧(0:Int)≤(↑(List.length l4):Int))∧∀ (g31:Nat→Value) (x32:Int),Ob ((0:Int)≤x32∧x32≤(↑(List.length l4):Int))→∀ (x33:Int),x33=(↑(List.length l4):Int)→(x32<x33→Ob ((0:Int)≤x32∧x32<(↑(List.length l7):Int))∧Ob (Shp [Kd.int IntKind.i64] l7)∧∀ (x34:Int),Ob (l7[Int.toNat x32]?=some [dn x34])→Ob ((0:Int)≤x32∧x32<(↑(List.length l4):Int))∧Ob (Shp [Kd.int IntKind.i64] l4)∧∀ (x35:Int),Ob (l4[Int.toNat x32]?=some [dn x35])→(x34≠x35→Ob (R [vb false]))∧(¬x34≠x35→∀ (x36:Int),x36=w64 (x32+(1:Int))→Ob ((0:Int)≤x36∧x36≤(↑(List.length l4):Int))∧Ob (List.length l4-Int.toNat x36<List.length l4-Int.toNat x32)))∧(¬x32<x33→Ob (R [vb true])))∧(¬x18=x29→Ob ((0:Int)≤(0:Int)∧(0:Int)≤(↑(List.length l4):Int))∧∀ (g37:Nat→Value) (x38:Int),Ob ((0:Int)≤x38∧x38≤(↑(List.length l4):Int))→∀ (x39:Int),x39=(↑(List.length l4):Int)→(x38<x39→Ob ((0:Int)≤x38∧x38<(↑(List.length l7):Int))∧Ob (Shp [Kd.int IntKind.i64] l7)∧∀ (x40:Int),Ob (l7[Int.toNat x38]?=some [dn x40])→Ob ((0:Int)≤x38∧x38<(↑(List.length l4):Int))∧Ob (Shp [Kd.int IntKind.i64] l4)∧∀ (x41:Int),Ob (l4[Int.toNat x38]?=some [dn x41])→(x40≠x41→Ob (R [vb false]))∧(¬x40≠x41→∀ (x42:Int),x42=w64 (x38+(1:Int))→Ob ((0:Int)≤x42∧x42≤(↑(List.length l4):Int))∧Ob (List.length l4-Int.toNat x42<List.length l4-Int.toNat x38)))∧(¬x38<x39→Ob (R [vb false]))))∧(b30=false→Ob ((0:Int)≤(0:Int)∧(0:Int)≤(↑(List.length l4):Int))∧∀ (g43:Nat→Value) (x44:Int),Ob ((0:Int)≤x44∧x44≤(↑(List.length l4):Int))→∀ (x45:Int),x45=(↑(List.length l4):Int)→(x44<x45→Ob ((0:Int)≤x44∧x44<(↑(List.length l7):Int))∧Ob (Shp [Kd.int IntKind.i64] l7)∧∀ (x46:Int),Ob (l7[Int.toNat x44]?=some [dn x46])→Ob ((0:Int)≤x44∧x44<(↑(List.length l4):Int))∧Ob (Shp [Kd.int IntKind.i64] l4)∧∀ (x47:Int),Ob (l4[Int.toNat x44]?=some [dn x47])→(x46≠x47→Ob (R [vb false]))∧(¬x46≠x47→∀ (x48:Int),x48=w64 (x44+(1:Int))→Ob ((0:Int)≤x48∧x48≤(↑(List.length l4):Int))∧Ob (List.length l4-Int.toNat x48<List.length l4-Int.toNat x44)))∧(¬x44<x45→Ob (R [vb false]))))
set_option maxRecDepth 100000 in
theorem vcEq_lawBegins:vcFn Go.Proofs.Tryz.prog k0 (cxf [(21,t_worldNew),(22,t_rWorldNew),(15,t_qWorld)] [(5000,0,some ⟨[1,5,10],[11],[],[kn],[],fun ρ ds=>0≤ni ds 0∧ni ds 0≤(ρ.d 4).length,fun ρ ds=>((ρ.d 4).length-(ni ds 0).toNat),none⟩)] [] [(21,f_worldNew),(22,f_rWorldNew),(15,f_qWorld)]) 3000 5 Go.Proofs.Tryz.f5 (bodyOf Go.Proofs.Tryz.f5) t_lawBegins=V_lawBegins:=by kernel_rfl
set_option maxHeartbeats 4000000 in
set_option maxRecDepth 20000 in
theorem vcPf_lawBegins:V_lawBegins:=by
  delta V_lawBegins
  simp only [ob_iff,and_imp,forall_exists_index,true_and,and_true,List.cons.injEq,DV.c.injEq,DV.a.injEq,D.raw.injEq,D.fs.injEq,Value.bool.injEq,Value.int.injEq]
  intro x0 x1 x2 x3 l4 hs hl hlS R hR
  have hs2:=hs
  simp only [dshs_cons,dshs_nil,dsh_int,rng64,and_true] at hs2
  obtain ⟨s0,s1,s2,s3⟩:=hs2
  repeat' first | assumption | exact DShs.tail (DSh_nth (by assumption) (by assumption)) | exact shp32 (by assumption) | exact shp64 (by assumption) | exact shp2 (by assumption) | exact shpF (by assumption) | with_reducible intro _ | with_reducible apply And.intro
  all_goals (try (have e7:=nil_eq (l2:=l4) (by assumption);subst e7))
  all_goals (try (have e:=w64_succ ‹_=w64 (_+1)› (by omega) (by omega);subst e))
  all_goals first
    | assumption
    | omega
    | exact hR _ rfl
    | exact shp64 hlS
    | exact (mw_sh (by assumption) s2).1
    | exact (mw_sh (by assumption) s2).2
    | exact (mw_eq (by assumption) (by assumption)).1
    | (exfalso;exact bno1 ‹_=false› ‹_=true›)
    | (exfalso;exact ne_no (by assumption) (by assumption) (by assumption))
    | (exfalso;exact ‹¬(_:Int)=_› (mw_eq (by assumption) (by assumption)).2)
    | (simp only [List.length_nil,Nat.zero_add];omega)
    | skip
theorem con_lawBegins:Con Go.Proofs.Tryz.prog k0 5 t_lawBegins :=
  con_of (cxf_ok mixOk (fun p hp=>by
    simp only [List.mem_cons,List.not_mem_nil,or_false] at hp
    rcases hp with rfl | rfl | rfl
    · exact con_worldNew
    · exact con_rWorldNew
    · exact con_qWorld) (fun p hp=>by
    simp only [List.mem_cons,List.not_mem_nil,or_false] at hp
    rcases hp with rfl | rfl | rfl
    · intro t ht;cases ht;exact fn_worldNew
    · intro t ht;cases ht;exact fn_rWorldNew
    · intro t ht;cases ht;exact fn_qWorld)) Go.Proofs.Tryz.func5 rfl rfl rfl rfl vcEq_lawBegins vcPf_lawBegins
end Go.Vc
