import Derived.Test.YtneooimijbfmgaaGreatProg
import Derived.KernelRfl
import Derived.Test.YtneooimijbfmgaaGreatWbAR
import Derived.Test.YtneooimijbfmgaaGreatWbAS
import Derived.Test.YtneooimijbfmgaaGreatWbAT
import Derived.Test.YtneooimijbfmgaaGreatWbAU
import Derived.Test.YtneooimijbfmgaaGreatWbAV
set_option linter.unusedVariables false
set_option linter.unusedSimpArgs false
set_option linter.unusedSectionVars false
noncomputable section
namespace Go.Vc
open Classical
def f_pastSame (aa:List DV):List DV:=[vb (decide (li aa 0=li aa 1))]
def t_pastSame:ConT:=⟨[kl,kl],[kb],fun aa=>LSh frozS (li aa 0)∧LSh frozS (li aa 1),fun aa rs=>rs=f_pastSame aa⟩
theorem fn_pastSame:∀ aa,t_pastSame.pre aa→∀ rs,t_pastSame.post aa rs→rs=f_pastSame aa:=fun _ _ _ h=>h
def V_pastSame:Prop:=∀ (l0 l1:LL),Ob (LSh frozS l0∧LSh frozS l1)→∀ (R:List DV→Prop),Ob (∀ (res:List DV),res=[vb (decide (l0=l1))]→R res)→∀ (x3:Int),x3=(↑(List.length l0):Int)→∀ (x4:Int),x4=(↑(List.length l1):Int)→(x3≠x4→Ob (R [vb false]))∧(¬x3≠x4→∀ (x5:Int),x5=(↑(List.length l0):Int)→Ob ((0:Int)≤(0:Int)∧List.length l0=List.length l1∧(0:Int)≤(↑(List.length l0):Int)∧List.take (Int.toNat (0:Int)) l0=List.take (Int.toNat (0:Int)) l1)∧∀ (g6:Nat→Value) (x7:Int),Ob ((0:Int)≤x7∧List.length l0=List.length l1∧x7≤(↑(List.length l0):Int)∧List.take (Int.toNat x7) l0=List.take (Int.toNat x7) l1)→(x7<x5→Ob ((0:Int)≤x7∧x7<(↑(List.length l0):Int))∧Ob (Shp [Kd.int IntKind.i64,Kd.bool,Kd.sl,Kd.int IntKind.i64,Kd.bool,Kd.sl,Kd.int IntKind.i64,Kd.bool,Kd.sl,Kd.int IntKind.i64,Kd.bool,Kd.sl,Kd.int IntKind.i64,Kd.bool,Kd.int IntKind.i64,Kd.int IntKind.i64,Kd.sl] l0)∧∀ (x8:Int) (b9:Bool) (l10:LL) (x11:Int) (b12:Bool) (l13:LL) (x14:Int) (b15:Bool) (l16:LL) (x17:Int) (b18:Bool) (l19:LL) (x20:Int) (b21:Bool) (x22 x23:Int) (l24:LL),Ob (l0[Int.toNat x7]?=some [dn x8,db b9,D.fs l10,dn x11,db b12,D.fs l13,dn x14,db b15,D.fs l16,dn x17,db b18,D.fs l19,dn x20,db b21,dn x22,dn x23,D.fs l24])→Ob ((0:Int)≤x7∧x7<(↑(List.length l1):Int))∧Ob (Shp [Kd.int IntKind.i64,Kd.bool,Kd.sl,Kd.int IntKind.i64,Kd.bool,Kd.sl,Kd.int IntKind.i64,Kd.bool,Kd.sl,Kd.int IntKind.i64,Kd.bool,Kd.sl,Kd.int IntKind.i64,Kd.bool,Kd.int IntKind.i64,Kd.int IntKind.i64,Kd.sl] l1)∧∀ (x25:Int) (b26:Bool) (l27:LL) (x28:Int) (b29:Bool) (l30:LL) (x31:Int) (b32:Bool) (l33:LL) (x34:Int) (b35:Bool) (l36:LL) (x37:Int) (b38:Bool) (x39 x40:Int) (l41:LL),Ob (l1[Int.toNat x7]?=some [dn x25,db b26,D.fs l27,dn x28,db b29,D.fs l30,dn x31,db b32,D.fs l33,dn x34,db b35,D.fs l36,dn x37,db b38,dn x39,dn x40,D.fs l41])→(x8=x25→Ob (DShs partS [db b9,D.fs l10,dn x11,db b12,D.fs l13,dn x14,db b15,D.fs l16,dn x17,db b18,D.fs l19,dn x20,db b21,dn x22,dn x23,D.fs l24]∧DShs partS [db b26,D.fs l27,dn x28,db b29,D.fs l30,dn x31,db b32,D.fs l33,dn x34,db b35,D.fs l36,dn x37,db b38,dn x39,dn x40,D.fs l41])∧∀ (b42:Bool),Ob ([vb b42]=[vb (decide ([db b9,D.fs l10,dn x11,db b12,D.fs l13,dn x14,db b15,D.fs l16,dn x17,db b18,D.fs l19,dn x20,db b21,dn x22,dn x23,D.fs l24]=[db b26,D.fs l27,dn x28,db b29,D.fs l30,dn x31,db b32,D.fs l33,dn x34,db b35,D.fs l36,dn x37,db b38,dn x39,dn x40,D.fs l41]))])→(b42=false→Ob (R [vb false]))∧(¬b42=false→∀ (x43:Int),x43=w64 (x7+(1:Int))→Ob ((0:Int)≤x43∧List.length l0=List.length l1∧x43≤(↑(List.length l0):Int)∧List.take (Int.toNat x43) l0=List.take (Int.toNat x43) l1)∧Ob (List.length l0-Int.toNat x43<List.length l0-Int.toNat x7)))∧(¬x8=x25→Ob (R [vb false])))∧(¬x7<x5→Ob (R [vb true])))
set_option maxRecDepth 100000 in
theorem vcEq_pastSame:vcFn Go.Proofs.Tryz.prog k0 (cxf [(28,t_partSame)] [(27000185008,0,some ⟨[2,1,15,16],[17],[],[kn],[],fun ρ ds=>0≤ni ds 0∧(ρ.d 0).length=(ρ.d 1).length∧ni ds 0≤(ρ.d 0).length∧(ρ.d 0).take (ni ds 0).toNat=(ρ.d 1).take (ni ds 0).toNat,fun ρ ds=>(ρ.d 0).length-(ni ds 0).toNat,none⟩)] [] [(28,f_partSame)]) 3000 27 Go.Proofs.Tryz.f27 (bodyOf Go.Proofs.Tryz.f27) t_pastSame=V_pastSame:=by kernel_rfl
set_option maxHeartbeats 4000000 in
set_option maxRecDepth 20000 in
theorem vcPf_pastSame:V_pastSame:=by
  delta V_pastSame
  simp only [ob_iff,and_imp,true_and,and_true,List.cons.injEq,DV.c.injEq,DV.a.injEq,D.raw.injEq,D.fs.injEq,Value.bool.injEq,Value.int.injEq]
  repeat' first | assumption | exact DShs.tail (DSh_nth (by assumption) (by assumption)) | exact shp32 (by assumption) | exact shp64 (by assumption) | exact shp2 (by assumption) | exact shpF (by assumption) | with_reducible intro _ | with_reducible apply And.intro
  all_goals (try (have e:=w64_succ ‹_=w64 (_+1)› (by omega) (by omega);subst e))
  all_goals first
    | assumption
    | omega
    | (exact DShs.tail (DSh_nth (by assumption) (by assumption)))
    | (apply ‹∀ res:List DV,_=_→_›;simp;grind [getE_ne,take_all])
    | (rw [take_succ (by omega) (by assumption),take_succ (by omega) (by assumption)];grind)
    | (grind)
theorem con_pastSame:Con Go.Proofs.Tryz.prog k0 27 t_pastSame :=
  con_of (cxf_ok mixOk (fun p hp=>by
    simp only [List.mem_cons,List.not_mem_nil,or_false] at hp
    subst hp
    exact con_partSame) (fun p hp=>by
    simp only [List.mem_cons,List.not_mem_nil,or_false] at hp
    subst hp
    · intro t ht;cases ht;exact fn_partSame)) Go.Proofs.Tryz.func27 rfl rfl rfl rfl vcEq_pastSame vcPf_pastSame
end Go.Vc

namespace Go.Vc
open Classical
def f_cacheSame (aa:List DV):List DV:=[vb (decide (ai aa 0=ai aa 1))]
def t_cacheSame:ConT:=⟨[rkS cacheS,rkS cacheS],[kb],fun aa=>DShs cacheS (ai aa 0)∧DShs cacheS (ai aa 1),fun aa rs=>rs=f_cacheSame aa⟩
theorem fn_cacheSame:∀ aa,t_cacheSame.pre aa→∀ rs,t_cacheSame.post aa rs→rs=f_cacheSame aa:=fun _ _ _ h=>h
def V_cacheSame:Prop:=∀ (x0 x1:Int) (l2:LL) (x3 x4:Int) (l5:LL),Ob (DShs cacheS [dn x0,dn x1,D.fs l2]∧DShs cacheS [dn x3,dn x4,D.fs l5])→∀ (R:List DV→Prop),Ob (∀ (res:List DV),res=[vb (decide ([dn x0,dn x1,D.fs l2]=[dn x3,dn x4,D.fs l5]))]→R res)→(x0=x3→(x1=x4→Ob (LSh pairS l2∧LSh pairS l5)∧∀ (b7:Bool),Ob ([vb b7]=[vb (decide (l2=l5))])→Ob (R [vb b7]))∧(¬x1=x4→Ob (R [vb false])))∧(¬x0=x3→Ob (R [vb false]))
set_option maxRecDepth 100000 in
theorem vcEq_cacheSame:vcFn Go.Proofs.Tryz.prog k0 (cxf [(188,t_descSame)] [] [] [(188,f_descSame)]) 3000 102 Go.Proofs.Tryz.f102 (bodyOf Go.Proofs.Tryz.f102) t_cacheSame=V_cacheSame:=by kernel_rfl
set_option maxHeartbeats 4000000 in
set_option maxRecDepth 20000 in
theorem vcPf_cacheSame:V_cacheSame:=by
  delta V_cacheSame
  simp only [ob_iff,and_imp,List.cons_append,List.nil_append,dshs_cons,dshs_nil,dsh_int,dsh_bool,dsh_sl,rng64,rng32,true_and,and_true,List.cons.injEq,DV.c.injEq,DV.a.injEq,D.raw.injEq,D.fs.injEq,Value.bool.injEq,Value.int.injEq]
  repeat' first | assumption | exact DShs.tail (DSh_nth (by assumption) (by assumption)) | exact shp32 (by assumption) | exact shp64 (by assumption) | exact shp2 (by assumption) | exact shpF (by assumption) | with_reducible intro _ | with_reducible apply And.intro
  all_goals first
    | assumption
    | omega
    | (apply ‹∀ res:List DV,_=_→_›;simp_all)
    | grind
theorem con_cacheSame:Con Go.Proofs.Tryz.prog k0 102 t_cacheSame :=
  con_of (cxf_ok mixOk (fun p hp=>by
    simp only [List.mem_cons,List.not_mem_nil,or_false] at hp
    subst hp
    exact con_descSame) (fun p hp=>by
    simp only [List.mem_cons,List.not_mem_nil,or_false] at hp
    subst hp
    · intro t ht;cases ht;exact fn_descSame)) Go.Proofs.Tryz.func102 rfl rfl rfl rfl vcEq_cacheSame vcPf_cacheSame
end Go.Vc

namespace Go.Vc
open Classical
def f_eqI (aa:List DV):List DV:=[vb (decide (li aa 0=li aa 1))]
def t_eqI:ConT:=⟨[kl,kl],[kb],fun aa=>LSh [s64] (li aa 0)∧LSh [s64] (li aa 1),fun aa rs=>rs=f_eqI aa⟩
theorem fn_eqI:∀ aa,t_eqI.pre aa→∀ rs,t_eqI.post aa rs→rs=f_eqI aa:=fun _ _ _ h=>h
def V_eqI:Prop:=∀ (l0 l1:LL),Ob (LSh [s64] l0∧LSh [s64] l1)→∀ (R:List DV→Prop),Ob (∀ (res:List DV),res=[vb (decide (l0=l1))]→R res)→∀ (x3:Int),x3=(↑(List.length l0):Int)→∀ (x4:Int),x4=(↑(List.length l1):Int)→(x3≠x4→Ob (R [vb false]))∧(¬x3≠x4→∀ (x5:Int),x5=(↑(List.length l0):Int)→Ob ((0:Int)≤(0:Int)∧List.length l0=List.length l1∧(0:Int)≤(↑(List.length l0):Int)∧List.take (Int.toNat (0:Int)) l0=List.take (Int.toNat (0:Int)) l1)∧∀ (g6:Nat→Value) (x7:Int),Ob ((0:Int)≤x7∧List.length l0=List.length l1∧x7≤(↑(List.length l0):Int)∧List.take (Int.toNat x7) l0=List.take (Int.toNat x7) l1)→(x7<x5→Ob ((0:Int)≤x7∧x7<(↑(List.length l0):Int))∧Ob (Shp [Kd.int IntKind.i64] l0)∧∀ (x8:Int),Ob (l0[Int.toNat x7]?=some [dn x8])→Ob ((0:Int)≤x7∧x7<(↑(List.length l1):Int))∧Ob (Shp [Kd.int IntKind.i64] l1)∧∀ (x9:Int),Ob (l1[Int.toNat x7]?=some [dn x9])→(x8≠x9→Ob (R [vb false]))∧(¬x8≠x9→∀ (x10:Int),x10=w64 (x7+(1:Int))→Ob ((0:Int)≤x10∧List.length l0=List.length l1∧x10≤(↑(List.length l0):Int)∧List.take (Int.toNat x10) l0=List.take (Int.toNat x10) l1)∧Ob (List.length l0-Int.toNat x10<List.length l0-Int.toNat x7)))∧(¬x7<x5→Ob (R [vb true])))
set_option maxRecDepth 100000 in
theorem vcEq_eqI:vcFn Go.Proofs.Tryz.prog k0 (cxf [] [(101000,0,some ⟨[1,0,12],[13],[],[kn],[],fun ρ ds=>0≤ni ds 0∧(ρ.d 0).length=(ρ.d 1).length∧ni ds 0≤(ρ.d 0).length∧(ρ.d 0).take (ni ds 0).toNat=(ρ.d 1).take (ni ds 0).toNat,fun ρ ds=>(ρ.d 0).length-(ni ds 0).toNat,none⟩)] [] []) 3000 101 Go.Proofs.Tryz.f101 (bodyOf Go.Proofs.Tryz.f101) t_eqI=V_eqI:=by kernel_rfl
set_option maxHeartbeats 4000000 in
set_option maxRecDepth 20000 in
theorem vcPf_eqI:V_eqI:=by
  delta V_eqI
  simp only [ob_iff,and_imp,List.cons_append,List.nil_append,dshs_cons,dshs_nil,dsh_int,dsh_bool,dsh_sl,rng64,rng32,true_and,and_true,List.cons.injEq,DV.c.injEq,DV.a.injEq,D.raw.injEq,D.fs.injEq,Value.bool.injEq,Value.int.injEq]
  repeat' first | assumption | exact DShs.tail (DSh_nth (by assumption) (by assumption)) | exact shp32 (by assumption) | exact shp64 (by assumption) | exact shp2 (by assumption) | exact shpF (by assumption) | with_reducible intro _ | with_reducible apply And.intro
  all_goals (try (have e:=w64_succ ‹_=w64 (_+1)› (by omega) (by omega);subst e))
  all_goals first
    | omega
    | (apply ‹∀ res:List DV,_=_→_›;simp;grind [getE_ne,take_all])
    | (rw [take_succ (by omega) (by assumption),take_succ (by omega) (by assumption)];grind)
    | grind
theorem con_eqI:Con Go.Proofs.Tryz.prog k0 101 t_eqI :=
  con_of (cxf_ok mixOk (fun p hp=>by cases hp) (fun p hp=>by cases hp)) Go.Proofs.Tryz.func101 rfl rfl rfl rfl vcEq_eqI vcPf_eqI
end Go.Vc

namespace Go.Vc
open Classical
def f_eqTi (aa:List DV):List DV:=[vb (decide (li aa 0=li aa 1))]
def t_eqTi:ConT:=⟨[kl,kl],[kb],fun aa=>LSh pairS (li aa 0)∧LSh pairS (li aa 1),fun aa rs=>rs=f_eqTi aa⟩
theorem fn_eqTi:∀ aa,t_eqTi.pre aa→∀ rs,t_eqTi.post aa rs→rs=f_eqTi aa:=fun _ _ _ h=>h
def V_eqTi:Prop:=∀ (l0 l1:LL),Ob (LSh pairS l0∧LSh pairS l1)→∀ (R:List DV→Prop),Ob (∀ (res:List DV),res=[vb (decide (l0=l1))]→R res)→∀ (x3:Int),x3=(↑(List.length l0):Int)→∀ (x4:Int),x4=(↑(List.length l1):Int)→(x3≠x4→Ob (R [vb false]))∧(¬x3≠x4→∀ (x5:Int),x5=(↑(List.length l0):Int)→Ob ((0:Int)≤(0:Int)∧List.length l0=List.length l1∧(0:Int)≤(↑(List.length l0):Int)∧List.take (Int.toNat (0:Int)) l0=List.take (Int.toNat (0:Int)) l1)∧∀ (g6:Nat→Value) (x7:Int),Ob ((0:Int)≤x7∧List.length l0=List.length l1∧x7≤(↑(List.length l0):Int)∧List.take (Int.toNat x7) l0=List.take (Int.toNat x7) l1)→(x7<x5→Ob ((0:Int)≤x7∧x7<(↑(List.length l0):Int))∧Ob (Shp [Kd.int IntKind.i64,Kd.int IntKind.i64] l0)∧∀ (x8 x9:Int),Ob (l0[Int.toNat x7]?=some [dn x8,dn x9])→Ob ((0:Int)≤x7∧x7<(↑(List.length l1):Int))∧Ob (Shp [Kd.int IntKind.i64,Kd.int IntKind.i64] l1)∧∀ (x10 x11:Int),Ob (l1[Int.toNat x7]?=some [dn x10,dn x11])→(¬(x8=x10∧x9=x11)→Ob (R [vb false]))∧(¬¬(x8=x10∧x9=x11)→∀ (x12:Int),x12=w64 (x7+(1:Int))→Ob ((0:Int)≤x12∧List.length l0=List.length l1∧x12≤(↑(List.length l0):Int)∧List.take (Int.toNat x12) l0=List.take (Int.toNat x12) l1)∧Ob (List.length l0-Int.toNat x12<List.length l0-Int.toNat x7)))∧(¬x7<x5→Ob (R [vb true])))
set_option maxRecDepth 100000 in
theorem vcEq_eqTi:vcFn Go.Proofs.Tryz.prog k0 (cxf [] [(103000,0,some ⟨[1,0,12],[13],[],[kn],[],fun ρ ds=>0≤ni ds 0∧(ρ.d 0).length=(ρ.d 1).length∧ni ds 0≤(ρ.d 0).length∧(ρ.d 0).take (ni ds 0).toNat=(ρ.d 1).take (ni ds 0).toNat,fun ρ ds=>(ρ.d 0).length-(ni ds 0).toNat,none⟩)] [] []) 3000 103 Go.Proofs.Tryz.f103 (bodyOf Go.Proofs.Tryz.f103) t_eqTi=V_eqTi:=by kernel_rfl
set_option maxHeartbeats 4000000 in
set_option maxRecDepth 20000 in
theorem vcPf_eqTi:V_eqTi:=by
  delta V_eqTi
  simp only [ob_iff,and_imp,List.cons_append,List.nil_append,dshs_cons,dshs_nil,dsh_int,dsh_bool,dsh_sl,rng64,rng32,true_and,and_true,List.cons.injEq,DV.c.injEq,DV.a.injEq,D.raw.injEq,D.fs.injEq,Value.bool.injEq,Value.int.injEq]
  repeat' first | assumption | exact DShs.tail (DSh_nth (by assumption) (by assumption)) | exact shp32 (by assumption) | exact shp64 (by assumption) | exact shp2 (by assumption) | exact shpF (by assumption) | with_reducible intro _ | with_reducible apply And.intro
  all_goals (try (have e:=w64_succ ‹_=w64 (_+1)› (by omega) (by omega);subst e))
  all_goals first
    | omega
    | (apply ‹∀ res:List DV,_=_→_›;simp;grind [getE_ne,take_all])
    | (rw [take_succ (by omega) (by assumption),take_succ (by omega) (by assumption)];grind)
    | grind
theorem con_eqTi:Con Go.Proofs.Tryz.prog k0 103 t_eqTi :=
  con_of (cxf_ok mixOk (fun p hp=>by cases hp) (fun p hp=>by cases hp)) Go.Proofs.Tryz.func103 rfl rfl rfl rfl vcEq_eqTi vcPf_eqTi
end Go.Vc

namespace Go.Vc
open Classical
def f_nodeCheckF (aa:List DV):List DV:=[vn (if p_node (ai aa 0) then 0 else 8)]
def t_nodeCheckF:ConT:=⟨[rkS nodeS],[kn],fun aa=>DShs nodeS (ai aa 0),fun aa rs=>rs=f_nodeCheckF aa⟩
theorem fn_nodeCheckF:∀ aa,t_nodeCheckF.pre aa→∀ rs,t_nodeCheckF.post aa rs→rs=f_nodeCheckF aa:=fun _ _ _ h=>h
def V_nodeCheckF:Prop:=∀ (x0 x1:Int) (b2:Bool) (x3 x4 x5 x6 x7:Int) (b8:Bool) (l9:LL) (x10:Int) (b11:Bool) (l12:LL) (x13:Int) (b14:Bool) (l15:LL) (x16:Int) (b17:Bool) (l18:LL) (x19:Int) (b20:Bool) (x21 x22:Int) (l23:LL) (b24:Bool) (x25 x26:Int) (l27:LL) (x28 x29:Int) (l30 l31 l32:LL),Ob (DShs nodeS [dn x0,dn x1,db b2,dn x3,dn x4,dn x5,dn x6,dn x7,db b8,D.fs l9,dn x10,db b11,D.fs l12,dn x13,db b14,D.fs l15,dn x16,db b17,D.fs l18,dn x19,db b20,dn x21,dn x22,D.fs l23,db b24,dn x25,dn x26,D.fs l27,dn x28,dn x29,D.fs l30,D.fs l31,D.fs l32])→∀ (R:List DV→Prop),Ob (∀ (res:List DV),res=[vn (if p_node [dn x0,dn x1,db b2,dn x3,dn x4,dn x5,dn x6,dn x7,db b8,D.fs l9,dn x10,db b11,D.fs l12,dn x13,db b14,D.fs l15,dn x16,db b17,D.fs l18,dn x19,db b20,dn x21,dn x22,D.fs l23,db b24,dn x25,dn x26,D.fs l27,dn x28,dn x29,D.fs l30,D.fs l31,D.fs l32] then (0:Int) else (8:Int))]→R res)→(x0<(0:Int)→(b2=false→Ob (R [vn (8:Int)]))∧(¬b2=false→Ob (R [vn (8:Int)])))∧(¬x0<(0:Int)→(x0≥(8:Int)→(b2=false→Ob (R [vn (8:Int)]))∧(¬b2=false→Ob (R [vn (8:Int)])))∧(¬x0≥(8:Int)→(b2=false→(x0=x0→(x1=(0:Int)→(b2=false→(x3=(0:Int)∧x4=(0:Int)∧x5=(0:Int)∧x6=(0:Int)∧x7=(0:Int)→(b24=false∧x25=(0:Int)∧x26=(0:Int)→Ob (DShs partS [db b8,D.fs l9,dn x10,db b11,D.fs l12,dn x13,db b14,D.fs l15,dn x16,db b17,D.fs l18,dn x19,db b20,dn x21,dn x22,D.fs l23]∧DShs partS [db false,D.fs [],dn (0:Int),db false,D.fs [],dn (0:Int),db false,D.fs [],dn (0:Int),db false,D.fs [],dn (0:Int),db false,dn (0:Int),dn (0:Int),D.fs []])∧∀ (b34:Bool),Ob ([vb b34]=[vb (decide ([db b8,D.fs l9,dn x10,db b11,D.fs l12,dn x13,db b14,D.fs l15,dn x16,db b17,D.fs l18,dn x19,db b20,dn x21,dn x22,D.fs l23]=[db false,D.fs [],dn (0:Int),db false,D.fs [],dn (0:Int),db false,D.fs [],dn (0:Int),db false,D.fs [],dn (0:Int),db false,dn (0:Int),dn (0:Int),D.fs []]))])→(b34=true→Ob (LSh [s64] l27∧LSh [s64] [])∧∀ (b35:Bool),Ob ([vb b35]=[vb (decide (l27=[]))])→(b35=true→Ob (DShs cacheS [dn x28,dn x29,D.fs l30]∧DShs cacheS [dn (0:Int),dn (0:Int),D.fs []])∧∀ (b36:Bool),Ob ([vb b36]=[vb (decide ([dn x28,dn x29,D.fs l30]=[dn (0:Int),dn (0:Int),D.fs []]))])→(b36=true→Ob (LSh frozS l31∧LSh frozS [])∧∀ (b37:Bool),Ob ([vb b37]=[vb (decide (l31=[]))])→(b37=true→Ob (LSh pairS l32∧LSh pairS [])∧∀ (b38:Bool),Ob ([vb b38]=[vb (decide (l32=[]))])→(b38=false→Ob (R [vn (8:Int)]))∧(¬b38=false→Ob (R [vn (0:Int)])))∧(b37=false→Ob (R [vn (8:Int)])))∧(b36=false→Ob (R [vn (8:Int)])))∧(b35=false→Ob (R [vn (8:Int)])))∧(b34=false→Ob (R [vn (8:Int)])))∧(¬(b24=false∧x25=(0:Int)∧x26=(0:Int))→Ob (R [vn (8:Int)])))∧(¬(x3=(0:Int)∧x4=(0:Int)∧x5=(0:Int)∧x6=(0:Int)∧x7=(0:Int))→Ob (R [vn (8:Int)])))∧(¬b2=false→Ob (R [vn (8:Int)])))∧(¬x1=(0:Int)→Ob (R [vn (8:Int)])))∧(¬x0=x0→Ob (R [vn (8:Int)])))∧(¬b2=false→(x1≥(-2147483647:Int)→(x1≤(2147483647:Int)→Ob (DShs clockS [dn x3,dn x4,dn x5,dn x6,dn x7])∧∀ (x39:Int),Ob ([vn x39]=[vn (if p_clock [dn x3,dn x4,dn x5,dn x6,dn x7] then (0:Int) else (8:Int))])→(x39≠(0:Int)→Ob (R [vn (8:Int)]))∧(¬x39≠(0:Int)→Ob (DShs partS [db b8,D.fs l9,dn x10,db b11,D.fs l12,dn x13,db b14,D.fs l15,dn x16,db b17,D.fs l18,dn x19,db b20,dn x21,dn x22,D.fs l23])∧∀ (x40:Int),Ob ([vn x40]=[vn (if p_part [db b8,D.fs l9,dn x10,db b11,D.fs l12,dn x13,db b14,D.fs l15,dn x16,db b17,D.fs l18,dn x19,db b20,dn x21,dn x22,D.fs l23] then (0:Int) else (8:Int))])→(x40≠(0:Int)→Ob (R [vn (8:Int)]))∧(¬x40≠(0:Int)→(x6≥x7→(b24=false→(b24=false∧x25=(0:Int)∧x26=(0:Int)→Ob (LSh [s64] l27)∧∀ (x41:Int),Ob ([vn x41]=[vn (e_seen l27)])→(x41≠(0:Int)→Ob (R [vn (8:Int)]))∧(¬x41≠(0:Int)→Ob (LSh pairS l32)∧∀ (x42:Int),Ob ([vn x42]=[vn (e_timer l32)])→(x42≠(0:Int)→Ob (R [vn (8:Int)]))∧(¬x42≠(0:Int)→Ob (DShs cacheS [dn x28,dn x29,D.fs l30])∧∀ (x43:Int),Ob ([vn x43]=[vn (if p_cacheB [dn x28,dn x29,D.fs l30] then (0:Int) else (8:Int))])→(x43≠(0:Int)→Ob (R [vn (8:Int)]))∧(¬x43≠(0:Int)→(x28≠x0→Ob (R [vn (8:Int)]))∧(¬x28≠x0→Ob (LSh frozS l31)∧∀ (x44:Int),Ob ([vn x44]=[vn (e_past l31)])→(x44≠(0:Int)→Ob (R [vn (8:Int)]))∧(¬x44≠(0:Int)→∀ (x45:Int),x45=(↑(List.length l31):Int)→(x45>(0:Int)→∀ (x46:Int),x46=(↑(List.length l31):Int)→∀ (x47:Int),x47=w64 (x46-(1:Int))→Ob ((0:Int)≤x47∧x47<(↑(List.length l31):Int))∧Ob (Shp [Kd.int IntKind.i64,Kd.bool,Kd.sl,Kd.int IntKind.i64,Kd.bool,Kd.sl,Kd.int IntKind.i64,Kd.bool,Kd.sl,Kd.int IntKind.i64,Kd.bool,Kd.sl,Kd.int IntKind.i64,Kd.bool,Kd.int IntKind.i64,Kd.int IntKind.i64,Kd.sl] l31)∧∀ (x48:Int) (b49:Bool) (l50:LL) (x51:Int) (b52:Bool) (l53:LL) (x54:Int) (b55:Bool) (l56:LL) (x57:Int) (b58:Bool) (l59:LL) (x60:Int) (b61:Bool) (x62 x63:Int) (l64:LL),Ob (l31[Int.toNat x47]?=some [dn x48,db b49,D.fs l50,dn x51,db b52,D.fs l53,dn x54,db b55,D.fs l56,dn x57,db b58,D.fs l59,dn x60,db b61,dn x62,dn x63,D.fs l64])→(x48≥x6→Ob (R [vn (8:Int)]))∧(¬x48≥x6→Ob (R [vn (0:Int)])))∧(¬x45>(0:Int)→Ob (R [vn (0:Int)]))))))))∧(¬(b24=false∧x25=(0:Int)∧x26=(0:Int))→Ob (R [vn (8:Int)])))∧(¬b24=false→(x6≥x7→(x25≥(0:Int)→(x25≤(1048575:Int)→(x26≥(0:Int)→(x26<(8:Int)→(x26≠x0→Ob (LSh [s64] l27)∧∀ (x65:Int),Ob ([vn x65]=[vn (e_seen l27)])→(x65≠(0:Int)→Ob (R [vn (8:Int)]))∧(¬x65≠(0:Int)→Ob (LSh pairS l32)∧∀ (x66:Int),Ob ([vn x66]=[vn (e_timer l32)])→(x66≠(0:Int)→Ob (R [vn (8:Int)]))∧(¬x66≠(0:Int)→Ob (DShs cacheS [dn x28,dn x29,D.fs l30])∧∀ (x67:Int),Ob ([vn x67]=[vn (if p_cacheB [dn x28,dn x29,D.fs l30] then (0:Int) else (8:Int))])→(x67≠(0:Int)→Ob (R [vn (8:Int)]))∧(¬x67≠(0:Int)→(x28≠x0→Ob (R [vn (8:Int)]))∧(¬x28≠x0→Ob (LSh frozS l31)∧∀ (x68:Int),Ob ([vn x68]=[vn (e_past l31)])→(x68≠(0:Int)→Ob (R [vn (8:Int)]))∧(¬x68≠(0:Int)→∀ (x69:Int),x69=(↑(List.length l31):Int)→(x69>(0:Int)→∀ (x70:Int),x70=(↑(List.length l31):Int)→∀ (x71:Int),x71=w64 (x70-(1:Int))→Ob ((0:Int)≤x71∧x71<(↑(List.length l31):Int))∧Ob (Shp [Kd.int IntKind.i64,Kd.bool,Kd.sl,Kd.int IntKind.i64,Kd.bool,Kd.sl,Kd.int IntKind.i64,Kd.bool,Kd.sl,Kd.int IntKind.i64,Kd.bool,Kd.sl,Kd.int IntKind.i64,Kd.bool,Kd.int IntKind.i64,Kd.int IntKind.i64,Kd.sl] l31)∧∀ (x72:Int) (b73:Bool) (l74:LL) (x75:Int) (b76:Bool) (l77:LL) (x78:Int) (b79:Bool) (l80:LL) (x81:Int) (b82:Bool) (l83:LL) (x84:Int) (b85:Bool) (x86 x87:Int) (l88:LL),Ob (l31[Int.toNat x71]?=some [dn x72,db b73,D.fs l74,dn x75,db b76,D.fs l77,dn x78,db b79,D.fs l80,dn x81,db b82,D.fs l83,dn x84,db b85,dn x86,dn x87,D.fs l88])→(x72≥x6→Ob (R [vn (8:Int)]))∧(¬x72≥x6→Ob (R [vn (0:Int)])))∧(¬x69>(0:Int)→Ob (R [vn (0:Int)]))))))))∧(¬x26≠x0→Ob (R [vn (8:Int)])))∧(¬x26<(8:Int)→Ob (R [vn (8:Int)])))∧(¬x26≥(0:Int)→Ob (R [vn (8:Int)])))∧(¬x25≤(1048575:Int)→Ob (R [vn (8:Int)])))∧(¬x25≥(0:Int)→Ob (R [vn (8:Int)])))∧(¬x6≥x7→Ob (R [vn (8:Int)]))))∧(¬x6≥x7→Ob (DShs partS [db b8,D.fs l9,dn x10,db b11,D.fs l12,dn x13,db b14,D.fs l15,dn x16,db b17,D.fs l18,dn x19,db b20,dn x21,dn x22,D.fs l23]∧DShs partS [db false,D.fs [],dn (0:Int),db false,D.fs [],dn (0:Int),db false,D.fs [],dn (0:Int),db false,D.fs [],dn (0:Int),db false,dn (0:Int),dn (0:Int),D.fs []])∧∀ (b89:Bool),Ob ([vb b89]=[vb (decide ([db b8,D.fs l9,dn x10,db b11,D.fs l12,dn x13,db b14,D.fs l15,dn x16,db b17,D.fs l18,dn x19,db b20,dn x21,dn x22,D.fs l23]=[db false,D.fs [],dn (0:Int),db false,D.fs [],dn (0:Int),db false,D.fs [],dn (0:Int),db false,D.fs [],dn (0:Int),db false,dn (0:Int),dn (0:Int),D.fs []]))])→(b89=false→Ob (R [vn (8:Int)]))∧(¬b89=false→(b24=false→(b24=false∧x25=(0:Int)∧x26=(0:Int)→Ob (LSh [s64] l27)∧∀ (x90:Int),Ob ([vn x90]=[vn (e_seen l27)])→(x90≠(0:Int)→Ob (R [vn (8:Int)]))∧(¬x90≠(0:Int)→Ob (LSh pairS l32)∧∀ (x91:Int),Ob ([vn x91]=[vn (e_timer l32)])→(x91≠(0:Int)→Ob (R [vn (8:Int)]))∧(¬x91≠(0:Int)→Ob (DShs cacheS [dn x28,dn x29,D.fs l30])∧∀ (x92:Int),Ob ([vn x92]=[vn (if p_cacheB [dn x28,dn x29,D.fs l30] then (0:Int) else (8:Int))])→(x92≠(0:Int)→Ob (R [vn (8:Int)]))∧(¬x92≠(0:Int)→(x28≠x0→Ob (R [vn (8:Int)]))∧(¬x28≠x0→Ob (LSh frozS l31)∧∀ (x93:Int),Ob ([vn x93]=[vn (e_past l31)])→(x93≠(0:Int)→Ob (R [vn (8:Int)]))∧(¬x93≠(0:Int)→∀ (x94:Int),x94=(↑(List.length l31):Int)→(x94>(0:Int)→∀ (x95:Int),x95=(↑(List.length l31):Int)→∀ (x96:Int),x96=w64 (x95-(1:Int))→Ob ((0:Int)≤x96∧x96<(↑(List.length l31):Int))∧Ob (Shp [Kd.int IntKind.i64,Kd.bool,Kd.sl,Kd.int IntKind.i64,Kd.bool,Kd.sl,Kd.int IntKind.i64,Kd.bool,Kd.sl,Kd.int IntKind.i64,Kd.bool,Kd.sl,Kd.int IntKind.i64,Kd.bool,Kd.int IntKind.i64,Kd.int IntKind.i64,Kd.sl] l31)∧∀ (x97:Int) (b98:Bool) (l99:LL) (x100:Int) (b101:Bool) (l102:LL) (x103:Int) (b104:Bool) (l105:LL) (x106:Int) (b107:Bool) (l108:LL) (x109:Int) (b110:Bool) (x111 x112:Int) (l113:LL),Ob (l31[Int.toNat x96]?=some [dn x97,db b98,D.fs l99,dn x100,db b101,D.fs l102,dn x103,db b104,D.fs l105,dn x106,db b107,D.fs l108,dn x109,db b110,dn x111,dn x112,D.fs l113])→(x97≥x6→Ob (R [vn (8:Int)]))∧(¬x97≥x6→Ob (R [vn (0:Int)])))∧(¬x94>(0:Int)→Ob (R [vn (0:Int)]))))))))∧(¬(b24=false∧x25=(0:Int)∧x26=(0:Int))→Ob (R [vn (8:Int)])))∧(¬b24=false→(x6≥x7→(x25≥(0:Int)→(x25≤(1048575:Int)→(x26≥(0:Int)→(x26<(8:Int)→(x26≠x0→Ob (LSh [s64] l27)∧∀ (x114:Int),Ob ([vn x114]=[vn (e_seen l27)])→(x114≠(0:Int)→Ob (R [vn (8:Int)]))∧(¬x114≠(0:Int)→Ob (LSh pairS l32)∧∀ (x115:Int),Ob ([vn x115]=[vn (e_timer l32)])→(x115≠(0:Int)→Ob (R [vn (8:Int)]))∧(¬x115≠(0:Int)→Ob (DShs cacheS [dn x28,dn x29,D.fs l30])∧∀ (x116:Int),Ob ([vn x116]=[vn (if p_cacheB [dn x28,dn x29,D.fs l30] then (0:Int) else (8:Int))])→(x116≠(0:Int)→Ob (R [vn (8:Int)]))∧(¬x116≠(0:Int)→(x28≠x0→Ob (R [vn (8:Int)]))∧(¬x28≠x0→Ob (LSh frozS l31)∧∀ (x117:Int),Ob ([vn x117]=[vn (e_past l31)])→(x117≠(0:Int)→Ob (R [vn (8:Int)]))∧(¬x117≠(0:Int)→∀ (x118:Int),x118=(↑(List.length l31):Int)→(x118>(0:Int)→∀ (x119:Int),x119=(↑(List.length l31):Int)→∀ (x120:Int),x120=w64 (x119-(1:Int))→Ob ((0:Int)≤x120∧x120<(↑(List.length l31):Int))∧Ob (Shp [Kd.int IntKind.i64,Kd.bool,Kd.sl,Kd.int IntKind.i64,Kd.bool,Kd.sl,Kd.int IntKind.i64,Kd.bool,Kd.sl,Kd.int IntKind.i64,Kd.bool,Kd.sl,Kd.int IntKind.i64,Kd.bool,Kd.int IntKind.i64,Kd.int IntKind.i64,Kd.sl] l31)∧∀ (x121:Int) (b122:Bool) (l123:LL) (x124:Int) (b125:Bool) (l126:LL) (x127:Int) (b128:Bool) (l129:LL) (x130:Int) (b131:Bool) (l132:LL) (x133:Int) (b134:Bool) (x135 x136:Int) (l137:LL),Ob (l31[Int.toNat x120]?=some [dn x121,db b122,D.fs l123,dn x124,db b125,D.fs l126,dn x127,db b128,D.fs l129,dn x130,db b131,D.fs l132,dn x133,db b134,dn x135,dn x136,D.fs l137])→(x121≥x6→Ob (R [vn (8:Int)]))∧(¬x121≥x6→Ob (R [vn (0:Int)])))∧(¬x118>(0:Int)→Ob (R [vn (0:Int)]))))))))∧(¬x26≠x0→Ob (R [vn (8:Int)])))∧(¬x26<(8:Int)→Ob (R [vn (8:Int)])))∧(¬x26≥(0:Int)→Ob (R [vn (8:Int)])))∧(¬x25≤(1048575:Int)→Ob (R [vn (8:Int)])))∧(¬x25≥(0:Int)→Ob (R [vn (8:Int)])))∧(¬x6≥x7→Ob (R [vn (8:Int)]))))))))∧(¬x1≤(2147483647:Int)→Ob (R [vn (8:Int)])))∧(¬x1≥(-2147483647:Int)→Ob (R [vn (8:Int)])))))
set_option maxRecDepth 100000 in
theorem vcEq_nodeCheckF:vcFn Go.Proofs.Tryz.prog k0 (cxf [(142,t_cacheCheckF),(218,t_pastCheck),(210,t_partCheck),(214,t_seenCheck),(215,t_timerCheck),(109,t_epochCheck),(28,t_partSame),(27,t_pastSame),(102,t_cacheSame),(101,t_eqI),(103,t_eqTi)] [(40000372033963107,0,none)] [] [(142,f_cacheCheckF),(218,f_pastCheck),(210,f_partCheck),(214,f_seenCheck),(215,f_timerCheck),(109,f_epochCheck),(28,f_partSame),(27,f_pastSame),(102,f_cacheSame),(101,f_eqI),(103,f_eqTi)]) 3000 40 Go.Proofs.Tryz.f40 (bodyOf Go.Proofs.Tryz.f40) t_nodeCheckF=V_nodeCheckF:=by kernel_rfl
set_option maxHeartbeats 4000000 in
set_option maxRecDepth 20000 in
theorem vcPf_nodeCheckF:V_nodeCheckF:=by
  delta V_nodeCheckF
  simp only [ob_iff,and_imp,forall_exists_index,true_and,and_true,List.cons.injEq,DV.c.injEq,DV.a.injEq,D.raw.injEq,D.fs.injEq,Value.bool.injEq,Value.int.injEq]
  intro x0 x1 b2 x3 x4 x5 x6 x7 b8 l9 x10 b11 l12 x13 b14 l15 x16 b17 l18 x19 b20 x21 x22 l23 b24 x25 x26 l27 x28 x29 l30 l31 l32 hsh R hR
  obtain ⟨hs1,hs2,hs3,hs4,hs5,hs6⟩:=node_sh hsh
  repeat' first | assumption | exact DShs.tail (DSh_nth (by assumption) (by assumption)) | exact shp32 (by assumption) | exact shp64 (by assumption) | exact shp2 (by assumption) | exact shpF (by assumption) | with_reducible intro _ | with_reducible apply And.intro
  all_goals (try (have e:=w64_id' ‹_=w64 (_-_)› (by omega) (by omega);subst e))
  all_goals first
    | exact ls_nil
    | assumption
    | omega
    | exact shpF hs5.2
    | (simp [dshs_cons,dsh_bool,dsh_sl,dsh_int,dshs_nil,ls_nil,rng64,LSh];done)
    | (refine hR _ (nc_no fun hp=>?_)
       obtain ⟨hp,hpc⟩:=hp
       obtain ⟨f1,f2,f3,f4⟩:=node_f hp
       first
         | omega
         | (have hb:b2=false:=by assumption
            obtain ⟨g1,g2,g3,g4,g5,g6,g7,g8,g9,g10,g11,g12,g13,g14,g15,g16,g17,g18,g19,g20,g21,g22,g23,g24,g25,g26,g27,g28,g29,g30,g31⟩:=f3 hb
            clear hR hp f4 f3 hsh hs1 hs2 hs3 hs4 hs5 hs6
            subst_vars
            simp at *
            done)
         | (have hb:b2=true:=by simpa using ‹¬b2=false›
            obtain ⟨g1,g2,g3,g4,g5,g6,g7,g8,g9,g10,g11,g12,g13,g14,g15⟩:=f4 hb
            clear hR hp f4 f3
            first
              | omega
              | exact if8' (by assumption) (by assumption) (hpc hb)
              | (rw [if_pos (by assumption)] at *;omega)
              | (have g5':=g5 (by omega)
                 clear hsh hs1 hs2 hs3 hs4 hs5 hs6
                 simp only [zPart,List.cons.injEq,D.raw.injEq,D.fs.injEq,Value.int.injEq,Value.bool.injEq,true_and,and_true] at g5'
                 obtain ⟨e1,e2,e3,e4,e5,e6,e7,e8,e9,e10,e11,e12,e13,e14,e15,e16⟩:=g5'
                 subst_vars
                 simp at *
                 done)
              | (have g6':=g6 (by assumption);omega)
              | (have hw:b24=false:=by assumption
                 exact absurd (And.intro hw (g6 hw)) ‹¬(b24=false∧_)›)
              | (have g7':=g7 (by simpa using ‹¬b24=false›);omega)
              | (rw [lastC (by assumption) (by assumption) (by omega)] at g12;omega)))
    | skip
  all_goals (refine hR _ (nc_yes ⟨?_,fun hu=>?_⟩))
  all_goals (try (first | exact not_if8' (by assumption) (by assumption) | (exfalso;simp only [gB,List.getElem?_cons_succ,List.getElem?_cons_zero] at hu;first | contradiction | exact bcon hu (by assumption))))
  all_goals (refine ⟨?_,?_,fun hu=>?_,fun hu=>?_⟩)
  all_goals (try (simp only [gI,List.getElem?_cons_zero];omega))
  all_goals (simp only [gB,List.getElem?_cons_succ,List.getElem?_cons_zero] at hu)
  all_goals first
    | contradiction
    | exact bcon hu (by assumption)
    | (clear hR;subst_vars;simp only [decide_eq_true_eq,Bool.not_eq_false] at *;simp [downC,gI, *];done)
    | (refine ⟨up_mk ⟨⟨by omega,by omega⟩,ite0 (by assumption) (by assumption),ite0 (by assumption) (by assumption),fun h=>?_,⟨fun h=>?_,fun h=>?_⟩,by omega,by omega,by omega,by omega,fun h=>?_⟩,?_⟩)
    | skip
  all_goals first
    | omega
    | (exfalso;omega)
    | contradiction
    | exact bcon h (by assumption)
    | exact bcon (by assumption) h
    | (refine ⟨?_,?_,?_,?_,?_,?_⟩ <;> omega)
    | (have z:=not_if8' (p:=p_cacheB _) (by assumption) (by assumption);exact ⟨z.2.2.1,z.2.2.2.1,z.2.2.2.2.1⟩)
    | (have h1:=dec_of' (by assumption) ‹¬_=false›;obtain ⟨e1,e2,e3,e4,e5,e6,e7,e8,e9,e10,e11,e12,e13,e14,e15,e16⟩:=h1;rw [e1,e2,e3,e4,e5,e6,e7,e8,e9,e10,e11,e12,e13,e14,e15,e16];rfl)
    | (rw [lastC (by assumption) (by assumption) (by omega)];omega)
    | (simp only [gI,gL,List.getElem?_cons_succ,List.getElem?_cons_zero,List.length_nil];omega)
    | skip
theorem con_nodeCheckF:Con Go.Proofs.Tryz.prog k0 40 t_nodeCheckF :=
  con_of (cxf_ok mixOk (fun p hp=>by
    simp only [List.mem_cons,List.not_mem_nil,or_false] at hp
    rcases hp with rfl | rfl | rfl | rfl | rfl | rfl | rfl | rfl | rfl | rfl | rfl
    · exact con_cacheCheckF
    · exact con_pastCheck
    · exact con_partCheck
    · exact con_seenCheck
    · exact con_timerCheck
    · exact con_epochCheck
    · exact con_partSame
    · exact con_pastSame
    · exact con_cacheSame
    · exact con_eqI
    · exact con_eqTi) (fun p hp=>by
    simp only [List.mem_cons,List.not_mem_nil,or_false] at hp
    rcases hp with rfl | rfl | rfl | rfl | rfl | rfl | rfl | rfl | rfl | rfl | rfl
    · intro t ht;cases ht;exact fn_cacheCheckF
    · intro t ht;cases ht;exact fn_pastCheck
    · intro t ht;cases ht;exact fn_partCheck
    · intro t ht;cases ht;exact fn_seenCheck
    · intro t ht;cases ht;exact fn_timerCheck
    · intro t ht;cases ht;exact fn_epochCheck
    · intro t ht;cases ht;exact fn_partSame
    · intro t ht;cases ht;exact fn_pastSame
    · intro t ht;cases ht;exact fn_cacheSame
    · intro t ht;cases ht;exact fn_eqI
    · intro t ht;cases ht;exact fn_eqTi)) Go.Proofs.Tryz.func40 rfl rfl rfl rfl vcEq_nodeCheckF vcPf_nodeCheckF
end Go.Vc

namespace Go.Vc
open Classical
def f_clone32 (aa:List DV):List DV:=[vl (li aa 0)]
def t_clone32:ConT:=⟨[kl],[⟨[.sl],false,true⟩],fun aa=>LSh [s32] (li aa 0)∧(li aa 0).length≤1048576,fun aa rs=>rs=f_clone32 aa⟩
theorem fn_clone32:∀ aa,t_clone32.pre aa→∀ rs,t_clone32.post aa rs→rs=f_clone32 aa:=fun _ _ _ h=>h
def V_clone32:Prop:=∀ (l0:LL),Ob (LSh [s32] l0∧List.length l0≤(1048576:Nat))→∀ (R:List DV→Prop),Ob (∀ (res:List DV),res=[vl l0]→R res)→(l0=[]→Ob (R [vl []]))∧Ob (Shp [Kd.int IntKind.u32] l0∧List.length ([]:LL)+List.length l0≤(1048576:Nat))∧∀ (l2:LL),l2=[]++l0→Ob (R [vl l2])
set_option maxRecDepth 100000 in
theorem vcEq_clone32:vcFn Go.Proofs.Tryz.prog k0 (cxf [] [] [] []) 3000 222 Go.Proofs.Tryz.f222 (bodyOf Go.Proofs.Tryz.f222) t_clone32=V_clone32:=by kernel_rfl
set_option maxHeartbeats 4000000 in
set_option maxRecDepth 20000 in
theorem vcPf_clone32:V_clone32:=by
  delta V_clone32
  simp only [ob_iff,and_imp,forall_exists_index,List.cons_append,List.nil_append,dshs_cons,dshs_nil,dsh_int,dsh_bool,dsh_sl,rng64,rng32,true_and,and_true,List.cons.injEq,DV.c.injEq,DV.a.injEq,D.raw.injEq,D.fs.injEq,Value.bool.injEq,Value.int.injEq]
  repeat' first | assumption | exact DShs.tail (DSh_nth (by assumption) (by assumption)) | exact shp32 (by assumption) | exact shp64 (by assumption) | exact shp2 (by assumption) | exact shpF (by assumption) | with_reducible intro _ | with_reducible apply And.intro
  all_goals (try subst_vars)
  all_goals (try simp (disch:=omega) only [w64_id,wu64,Int.sub_zero,Int.zero_add,List.length_set] at *)
  all_goals first
    | assumption
    | omega
    | (trivial)
    | ((have hR:=‹∀ res:List DV,_=_→_›;refine hR _ ?_;simp))
    | (exact LS.shp (by assumption))
    | (exact LS.rect (by assumption))
    | (grind)
theorem con_clone32:Con Go.Proofs.Tryz.prog k0 222 t_clone32 :=
  con_of (cxf_ok mixOk (fun p hp=>by cases hp) (fun p hp=>by cases hp)) Go.Proofs.Tryz.func222 rfl rfl rfl rfl vcEq_clone32 vcPf_clone32
end Go.Vc

namespace Go.Vc
open Classical
def f_cloneI (aa:List DV):List DV:=[vl (li aa 0)]
def t_cloneI:ConT:=⟨[kl],[⟨[.sl],false,true⟩],fun aa=>LSh [s64] (li aa 0)∧(li aa 0).length≤1048576,fun aa rs=>rs=f_cloneI aa⟩
theorem fn_cloneI:∀ aa,t_cloneI.pre aa→∀ rs,t_cloneI.post aa rs→rs=f_cloneI aa:=fun _ _ _ h=>h
def V_cloneI:Prop:=∀ (l0:LL),Ob (LSh [s64] l0∧List.length l0≤(1048576:Nat))→∀ (R:List DV→Prop),Ob (∀ (res:List DV),res=[vl l0]→R res)→(l0=[]→Ob (R [vl []]))∧Ob (Shp [Kd.int IntKind.i64] l0∧List.length ([]:LL)+List.length l0≤(1048576:Nat))∧∀ (l2:LL),l2=[]++l0→Ob (R [vl l2])
set_option maxRecDepth 100000 in
theorem vcEq_cloneI:vcFn Go.Proofs.Tryz.prog k0 (cxf [] [] [] []) 3000 153 Go.Proofs.Tryz.f153 (bodyOf Go.Proofs.Tryz.f153) t_cloneI=V_cloneI:=by kernel_rfl
set_option maxHeartbeats 4000000 in
set_option maxRecDepth 20000 in
theorem vcPf_cloneI:V_cloneI:=by
  delta V_cloneI
  simp only [ob_iff,and_imp,forall_exists_index,List.cons_append,List.nil_append,dshs_cons,dshs_nil,dsh_int,dsh_bool,dsh_sl,rng64,rng32,true_and,and_true,List.cons.injEq,DV.c.injEq,DV.a.injEq,D.raw.injEq,D.fs.injEq,Value.bool.injEq,Value.int.injEq]
  repeat' first | assumption | exact DShs.tail (DSh_nth (by assumption) (by assumption)) | exact shp32 (by assumption) | exact shp64 (by assumption) | exact shp2 (by assumption) | exact shpF (by assumption) | with_reducible intro _ | with_reducible apply And.intro
  all_goals (try subst_vars)
  all_goals (try simp (disch:=omega) only [w64_id,wu64,Int.sub_zero,Int.zero_add,List.length_set] at *)
  all_goals first
    | assumption
    | omega
    | (trivial)
    | ((have hR:=‹∀ res:List DV,_=_→_›;refine hR _ ?_;simp))
    | (exact LS.shp (by assumption))
    | (exact LS.rect (by assumption))
    | (grind)
theorem con_cloneI:Con Go.Proofs.Tryz.prog k0 153 t_cloneI :=
  con_of (cxf_ok mixOk (fun p hp=>by cases hp) (fun p hp=>by cases hp)) Go.Proofs.Tryz.func153 rfl rfl rfl rfl vcEq_cloneI vcPf_cloneI
end Go.Vc

namespace Go.Vc
open Classical
def f_cloneTi (aa:List DV):List DV:=[vl (li aa 0)]
def t_cloneTi:ConT:=⟨[kl],[⟨[.sl],false,true⟩],fun aa=>LSh pairS (li aa 0)∧(li aa 0).length≤1048576,fun aa rs=>rs=f_cloneTi aa⟩
theorem fn_cloneTi:∀ aa,t_cloneTi.pre aa→∀ rs,t_cloneTi.post aa rs→rs=f_cloneTi aa:=fun _ _ _ h=>h
def V_cloneTi:Prop:=∀ (l0:LL),Ob (LSh pairS l0∧List.length l0≤(1048576:Nat))→∀ (R:List DV→Prop),Ob (∀ (res:List DV),res=[vl l0]→R res)→(l0=[]→Ob (R [vl []]))∧Ob (Shp [Kd.int IntKind.i64,Kd.int IntKind.i64] l0∧List.length ([]:LL)+List.length l0≤(1048576:Nat))∧∀ (l2:LL),l2=[]++l0→Ob (R [vl l2])
set_option maxRecDepth 100000 in
theorem vcEq_cloneTi:vcFn Go.Proofs.Tryz.prog k0 (cxf [] [] [] []) 3000 156 Go.Proofs.Tryz.f156 (bodyOf Go.Proofs.Tryz.f156) t_cloneTi=V_cloneTi:=by kernel_rfl
set_option maxHeartbeats 4000000 in
set_option maxRecDepth 20000 in
theorem vcPf_cloneTi:V_cloneTi:=by
  delta V_cloneTi
  simp only [ob_iff,and_imp,forall_exists_index,List.cons_append,List.nil_append,dshs_cons,dshs_nil,dsh_int,dsh_bool,dsh_sl,rng64,rng32,true_and,and_true,List.cons.injEq,DV.c.injEq,DV.a.injEq,D.raw.injEq,D.fs.injEq,Value.bool.injEq,Value.int.injEq]
  repeat' first | assumption | exact DShs.tail (DSh_nth (by assumption) (by assumption)) | exact shp32 (by assumption) | exact shp64 (by assumption) | exact shp2 (by assumption) | exact shpF (by assumption) | with_reducible intro _ | with_reducible apply And.intro
  all_goals (try subst_vars)
  all_goals (try simp (disch:=omega) only [w64_id,wu64,Int.sub_zero,Int.zero_add,List.length_set] at *)
  all_goals first
    | assumption
    | omega
    | (trivial)
    | ((have hR:=‹∀ res:List DV,_=_→_›;refine hR _ ?_;simp))
    | (exact LS.shp (by assumption))
    | (exact LS.rect (by assumption))
    | (grind)
theorem con_cloneTi:Con Go.Proofs.Tryz.prog k0 156 t_cloneTi :=
  con_of (cxf_ok mixOk (fun p hp=>by cases hp) (fun p hp=>by cases hp)) Go.Proofs.Tryz.func156 rfl rfl rfl rfl vcEq_cloneTi vcPf_cloneTi
end Go.Vc

namespace Go.Vc
open Classical
def f_cloneDe (aa:List DV):List DV:=[vl (li aa 0)]
def t_cloneDe:ConT:=⟨[kl],[⟨[.sl],false,true⟩],fun aa=>LSh pairS (li aa 0)∧(li aa 0).length≤1048576,fun aa rs=>rs=f_cloneDe aa⟩
theorem fn_cloneDe:∀ aa,t_cloneDe.pre aa→∀ rs,t_cloneDe.post aa rs→rs=f_cloneDe aa:=fun _ _ _ h=>h
def V_cloneDe:Prop:=∀ (l0:LL),Ob (LSh pairS l0∧List.length l0≤(1048576:Nat))→∀ (R:List DV→Prop),Ob (∀ (res:List DV),res=[vl l0]→R res)→(l0=[]→Ob (R [vl []]))∧Ob (Shp [Kd.int IntKind.i64,Kd.int IntKind.i64] l0∧List.length ([]:LL)+List.length l0≤(1048576:Nat))∧∀ (l2:LL),l2=[]++l0→Ob (R [vl l2])
set_option maxRecDepth 100000 in
theorem vcEq_cloneDe:vcFn Go.Proofs.Tryz.prog k0 (cxf [] [] [] []) 3000 231 Go.Proofs.Tryz.f231 (bodyOf Go.Proofs.Tryz.f231) t_cloneDe=V_cloneDe:=by kernel_rfl
set_option maxHeartbeats 4000000 in
set_option maxRecDepth 20000 in
theorem vcPf_cloneDe:V_cloneDe:=by
  delta V_cloneDe
  simp only [ob_iff,and_imp,forall_exists_index,List.cons_append,List.nil_append,dshs_cons,dshs_nil,dsh_int,dsh_bool,dsh_sl,rng64,rng32,true_and,and_true,List.cons.injEq,DV.c.injEq,DV.a.injEq,D.raw.injEq,D.fs.injEq,Value.bool.injEq,Value.int.injEq]
  repeat' first | assumption | exact DShs.tail (DSh_nth (by assumption) (by assumption)) | exact shp32 (by assumption) | exact shp64 (by assumption) | exact shp2 (by assumption) | exact shpF (by assumption) | with_reducible intro _ | with_reducible apply And.intro
  all_goals (try subst_vars)
  all_goals (try simp (disch:=omega) only [w64_id,wu64,Int.sub_zero,Int.zero_add,List.length_set] at *)
  all_goals first
    | assumption
    | omega
    | (trivial)
    | ((have hR:=‹∀ res:List DV,_=_→_›;refine hR _ ?_;simp))
    | (exact LS.shp (by assumption))
    | (exact LS.rect (by assumption))
    | (grind)
theorem con_cloneDe:Con Go.Proofs.Tryz.prog k0 231 t_cloneDe :=
  con_of (cxf_ok mixOk (fun p hp=>by cases hp) (fun p hp=>by cases hp)) Go.Proofs.Tryz.func231 rfl rfl rfl rfl vcEq_cloneDe vcPf_cloneDe
end Go.Vc

namespace Go.Vc
open Classical
def f_dyTwin (aa:List DV):List DV:=[.a (ai aa 0)]
def t_dyTwin:ConT:=⟨[rkS dyS],[⟨(dyS).map Sh.kd,true,true⟩],fun aa=>DShs dyS (ai aa 0)∧(gL (ai aa 0) 1).length≤1048576,fun aa rs=>rs=f_dyTwin aa⟩
theorem fn_dyTwin:∀ aa,t_dyTwin.pre aa→∀ rs,t_dyTwin.post aa rs→rs=f_dyTwin aa:=fun _ _ _ h=>h
def V_dyTwin:Prop:=∀ (b0:Bool) (l1:LL) (x2:Int),Ob (DShs dyS [db b0,D.fs l1,dn x2]∧List.length l1≤(1048576:Nat))→∀ (R:List DV→Prop),Ob (∀ (res:List DV),res=[DV.a [db b0,D.fs l1,dn x2]]→R res)→Ob (LSh [s32] l1∧List.length l1≤(1048576:Nat))∧∀ (l4:LL),Ob ([vl l4]=[vl l1])→Ob (R [DV.a [db b0,D.fs l4,dn x2]])
set_option maxRecDepth 100000 in
theorem vcEq_dyTwin:vcFn Go.Proofs.Tryz.prog k0 (cxf [(222,t_clone32)] [] [] [(222,f_clone32)]) 3000 234 Go.Proofs.Tryz.f234 (bodyOf Go.Proofs.Tryz.f234) t_dyTwin=V_dyTwin:=by kernel_rfl
set_option maxHeartbeats 4000000 in
set_option maxRecDepth 20000 in
theorem vcPf_dyTwin:V_dyTwin:=by
  delta V_dyTwin
  simp only [ob_iff,and_imp,forall_exists_index,List.cons_append,List.nil_append,dshs_cons,dshs_nil,dsh_int,dsh_bool,dsh_sl,rng64,rng32,true_and,and_true,List.cons.injEq,DV.c.injEq,DV.a.injEq,D.raw.injEq,D.fs.injEq,Value.bool.injEq,Value.int.injEq]
  repeat' first | assumption | exact DShs.tail (DSh_nth (by assumption) (by assumption)) | exact shp32 (by assumption) | exact shp64 (by assumption) | exact shp2 (by assumption) | exact shpF (by assumption) | with_reducible intro _ | with_reducible apply And.intro
  all_goals (try subst_vars)
  all_goals (try simp (disch:=omega) only [w64_id,wu64,Int.sub_zero,Int.zero_add,List.length_set] at *)
  all_goals first
    | assumption
    | omega
    | (trivial)
    | ((have hR:=‹∀ res:List DV,_=_→_›;refine hR _ ?_;simp))
    | (exact LS.shp (by assumption))
    | (exact LS.rect (by assumption))
    | (grind)
theorem con_dyTwin:Con Go.Proofs.Tryz.prog k0 234 t_dyTwin :=
  con_of (cxf_ok mixOk (fun p hp=>by
    simp only [List.mem_cons,List.not_mem_nil,or_false] at hp
    subst hp
    exact con_clone32) (fun p hp=>by
    simp only [List.mem_cons,List.not_mem_nil,or_false] at hp
    subst hp
    · intro t ht;cases ht;exact fn_clone32)) Go.Proofs.Tryz.func234 rfl rfl rfl rfl vcEq_dyTwin vcPf_dyTwin
end Go.Vc

namespace Go.Vc
open Classical
def f_massTwin (aa:List DV):List DV:=[.a (ai aa 0)]
def t_massTwin:ConT:=⟨[rkS massS],[⟨(massS).map Sh.kd,true,true⟩],fun aa=>DShs massS (ai aa 0)∧(gL (ai aa 0) 1).length≤1048576∧(gL (ai aa 0) 4).length≤1048576∧(gL (ai aa 0) 7).length≤1048576∧(gL (ai aa 0) 10).length≤1048576,fun aa rs=>rs=f_massTwin aa⟩
theorem fn_massTwin:∀ aa,t_massTwin.pre aa→∀ rs,t_massTwin.post aa rs→rs=f_massTwin aa:=fun _ _ _ h=>h
def V_massTwin:Prop:=∀ (b0:Bool) (l1:LL) (x2:Int) (b3:Bool) (l4:LL) (x5:Int) (b6:Bool) (l7:LL) (x8:Int) (b9:Bool) (l10:LL) (x11:Int),Ob (DShs massS [db b0,D.fs l1,dn x2,db b3,D.fs l4,dn x5,db b6,D.fs l7,dn x8,db b9,D.fs l10,dn x11]∧List.length l1≤(1048576:Nat)∧List.length l4≤(1048576:Nat)∧List.length l7≤(1048576:Nat)∧List.length l10≤(1048576:Nat))→∀ (R:List DV→Prop),Ob (∀ (res:List DV),res=[DV.a [db b0,D.fs l1,dn x2,db b3,D.fs l4,dn x5,db b6,D.fs l7,dn x8,db b9,D.fs l10,dn x11]]→R res)→Ob (DShs dyS [db b0,D.fs l1,dn x2]∧List.length l1≤(1048576:Nat))∧∀ (b13:Bool) (l14:LL) (x15:Int),Ob ([DV.a [db b13,D.fs l14,dn x15]]=[DV.a [db b0,D.fs l1,dn x2]])→Ob (DShs dyS [db b3,D.fs l4,dn x5]∧List.length l4≤(1048576:Nat))∧∀ (b16:Bool) (l17:LL) (x18:Int),Ob ([DV.a [db b16,D.fs l17,dn x18]]=[DV.a [db b3,D.fs l4,dn x5]])→Ob (DShs dyS [db b6,D.fs l7,dn x8]∧List.length l7≤(1048576:Nat))∧∀ (b19:Bool) (l20:LL) (x21:Int),Ob ([DV.a [db b19,D.fs l20,dn x21]]=[DV.a [db b6,D.fs l7,dn x8]])→Ob (DShs dyS [db b9,D.fs l10,dn x11]∧List.length l10≤(1048576:Nat))∧∀ (b22:Bool) (l23:LL) (x24:Int),Ob ([DV.a [db b22,D.fs l23,dn x24]]=[DV.a [db b9,D.fs l10,dn x11]])→Ob (R [DV.a [db b13,D.fs l14,dn x15,db b16,D.fs l17,dn x18,db b19,D.fs l20,dn x21,db b22,D.fs l23,dn x24]])
set_option maxRecDepth 100000 in
theorem vcEq_massTwin:vcFn Go.Proofs.Tryz.prog k0 (cxf [(234,t_dyTwin)] [] [] [(234,f_dyTwin)]) 3000 159 Go.Proofs.Tryz.f159 (bodyOf Go.Proofs.Tryz.f159) t_massTwin=V_massTwin:=by kernel_rfl
set_option maxHeartbeats 4000000 in
set_option maxRecDepth 20000 in
theorem vcPf_massTwin:V_massTwin:=by
  delta V_massTwin
  simp only [ob_iff,and_imp,forall_exists_index,List.cons_append,List.nil_append,dshs_cons,dshs_nil,dsh_int,dsh_bool,dsh_sl,rng64,rng32,true_and,and_true,List.cons.injEq,DV.c.injEq,DV.a.injEq,D.raw.injEq,D.fs.injEq,Value.bool.injEq,Value.int.injEq]
  repeat' first | assumption | exact DShs.tail (DSh_nth (by assumption) (by assumption)) | exact shp32 (by assumption) | exact shp64 (by assumption) | exact shp2 (by assumption) | exact shpF (by assumption) | with_reducible intro _ | with_reducible apply And.intro
  all_goals (try subst_vars)
  all_goals (try simp (disch:=omega) only [w64_id,wu64,Int.sub_zero,Int.zero_add,List.length_set] at *)
  all_goals first
    | assumption
    | omega
    | (trivial)
    | ((have hR:=‹∀ res:List DV,_=_→_›;refine hR _ ?_;simp))
    | (exact LS.shp (by assumption))
    | (exact LS.rect (by assumption))
    | (grind)
theorem con_massTwin:Con Go.Proofs.Tryz.prog k0 159 t_massTwin :=
  con_of (cxf_ok mixOk (fun p hp=>by
    simp only [List.mem_cons,List.not_mem_nil,or_false] at hp
    subst hp
    exact con_dyTwin) (fun p hp=>by
    simp only [List.mem_cons,List.not_mem_nil,or_false] at hp
    subst hp
    · intro t ht;cases ht;exact fn_dyTwin)) Go.Proofs.Tryz.func159 rfl rfl rfl rfl vcEq_massTwin vcPf_massTwin
end Go.Vc

namespace Go.Vc
open Classical
def f_partTwin (aa:List DV):List DV:=[.a (ai aa 0)]
def t_partTwin:ConT:=⟨[rkS partS],[⟨(partS).map Sh.kd,true,true⟩],fun aa=>DShs partS (ai aa 0)∧(gL (ai aa 0) 1).length≤1048576∧(gL (ai aa 0) 4).length≤1048576∧(gL (ai aa 0) 7).length≤1048576∧(gL (ai aa 0) 10).length≤1048576∧(gL (ai aa 0) 15).length≤1048576,fun aa rs=>rs=f_partTwin aa⟩
theorem fn_partTwin:∀ aa,t_partTwin.pre aa→∀ rs,t_partTwin.post aa rs→rs=f_partTwin aa:=fun _ _ _ h=>h
def V_partTwin:Prop:=∀ (b0:Bool) (l1:LL) (x2:Int) (b3:Bool) (l4:LL) (x5:Int) (b6:Bool) (l7:LL) (x8:Int) (b9:Bool) (l10:LL) (x11:Int) (b12:Bool) (x13 x14:Int) (l15:LL),Ob (DShs partS [db b0,D.fs l1,dn x2,db b3,D.fs l4,dn x5,db b6,D.fs l7,dn x8,db b9,D.fs l10,dn x11,db b12,dn x13,dn x14,D.fs l15]∧List.length l1≤(1048576:Nat)∧List.length l4≤(1048576:Nat)∧List.length l7≤(1048576:Nat)∧List.length l10≤(1048576:Nat)∧List.length l15≤(1048576:Nat))→∀ (R:List DV→Prop),Ob (∀ (res:List DV),res=[DV.a [db b0,D.fs l1,dn x2,db b3,D.fs l4,dn x5,db b6,D.fs l7,dn x8,db b9,D.fs l10,dn x11,db b12,dn x13,dn x14,D.fs l15]]→R res)→Ob (DShs massS [db b0,D.fs l1,dn x2,db b3,D.fs l4,dn x5,db b6,D.fs l7,dn x8,db b9,D.fs l10,dn x11]∧List.length l1≤(1048576:Nat)∧List.length l4≤(1048576:Nat)∧List.length l7≤(1048576:Nat)∧List.length l10≤(1048576:Nat))∧∀ (b17:Bool) (l18:LL) (x19:Int) (b20:Bool) (l21:LL) (x22:Int) (b23:Bool) (l24:LL) (x25:Int) (b26:Bool) (l27:LL) (x28:Int),Ob ([DV.a [db b17,D.fs l18,dn x19,db b20,D.fs l21,dn x22,db b23,D.fs l24,dn x25,db b26,D.fs l27,dn x28]]=[DV.a [db b0,D.fs l1,dn x2,db b3,D.fs l4,dn x5,db b6,D.fs l7,dn x8,db b9,D.fs l10,dn x11]])→Ob (LSh [s32] l15∧List.length l15≤(1048576:Nat))∧∀ (l29:LL),Ob ([vl l29]=[vl l15])→Ob (R [DV.a [db b17,D.fs l18,dn x19,db b20,D.fs l21,dn x22,db b23,D.fs l24,dn x25,db b26,D.fs l27,dn x28,db b12,dn x13,dn x14,D.fs l29]])
set_option maxRecDepth 100000 in
theorem vcEq_partTwin:vcFn Go.Proofs.Tryz.prog k0 (cxf [(159,t_massTwin),(222,t_clone32)] [] [] [(159,f_massTwin),(222,f_clone32)]) 3000 137 Go.Proofs.Tryz.f137 (bodyOf Go.Proofs.Tryz.f137) t_partTwin=V_partTwin:=by kernel_rfl
set_option maxHeartbeats 4000000 in
set_option maxRecDepth 20000 in
theorem vcPf_partTwin:V_partTwin:=by
  delta V_partTwin
  simp only [ob_iff,and_imp,forall_exists_index,List.cons_append,List.nil_append,dshs_cons,dshs_nil,dsh_int,dsh_bool,dsh_sl,rng64,rng32,true_and,and_true,List.cons.injEq,DV.c.injEq,DV.a.injEq,D.raw.injEq,D.fs.injEq,Value.bool.injEq,Value.int.injEq]
  repeat' first | assumption | exact DShs.tail (DSh_nth (by assumption) (by assumption)) | exact shp32 (by assumption) | exact shp64 (by assumption) | exact shp2 (by assumption) | exact shpF (by assumption) | with_reducible intro _ | with_reducible apply And.intro
  all_goals (try subst_vars)
  all_goals (try simp (disch:=omega) only [w64_id,wu64,Int.sub_zero,Int.zero_add,List.length_set] at *)
  all_goals first
    | assumption
    | omega
    | (trivial)
    | ((have hR:=‹∀ res:List DV,_=_→_›;refine hR _ ?_;simp))
    | (exact LS.shp (by assumption))
    | (exact LS.rect (by assumption))
    | (grind)
theorem con_partTwin:Con Go.Proofs.Tryz.prog k0 137 t_partTwin :=
  con_of (cxf_ok mixOk (fun p hp=>by
    simp only [List.mem_cons,List.not_mem_nil,or_false] at hp
    rcases hp with rfl | rfl
    · exact con_massTwin
    · exact con_clone32) (fun p hp=>by
    simp only [List.mem_cons,List.not_mem_nil,or_false] at hp
    rcases hp with rfl | rfl
    · intro t ht;cases ht;exact fn_massTwin
    · intro t ht;cases ht;exact fn_clone32)) Go.Proofs.Tryz.func137 rfl rfl rfl rfl vcEq_partTwin vcPf_partTwin
end Go.Vc

namespace Go.Vc
open Classical
def f_cacheTwin (aa:List DV):List DV:=[.a (ai aa 0)]
def t_cacheTwin:ConT:=⟨[rkS cacheS],[⟨(cacheS).map Sh.kd,true,true⟩],fun aa=>DShs cacheS (ai aa 0)∧(gL (ai aa 0) 2).length≤1048576,fun aa rs=>rs=f_cacheTwin aa⟩
theorem fn_cacheTwin:∀ aa,t_cacheTwin.pre aa→∀ rs,t_cacheTwin.post aa rs→rs=f_cacheTwin aa:=fun _ _ _ h=>h
def V_cacheTwin:Prop:=∀ (x0 x1:Int) (l2:LL),Ob (DShs cacheS [dn x0,dn x1,D.fs l2]∧List.length l2≤(1048576:Nat))→∀ (R:List DV→Prop),Ob (∀ (res:List DV),res=[DV.a [dn x0,dn x1,D.fs l2]]→R res)→Ob (LSh pairS l2∧List.length l2≤(1048576:Nat))∧∀ (l4:LL),Ob ([vl l4]=[vl l2])→Ob (R [DV.a [dn x0,dn x1,D.fs l4]])
set_option maxRecDepth 100000 in
theorem vcEq_cacheTwin:vcFn Go.Proofs.Tryz.prog k0 (cxf [(231,t_cloneDe)] [] [] [(231,f_cloneDe)]) 3000 154 Go.Proofs.Tryz.f154 (bodyOf Go.Proofs.Tryz.f154) t_cacheTwin=V_cacheTwin:=by kernel_rfl
set_option maxHeartbeats 4000000 in
set_option maxRecDepth 20000 in
theorem vcPf_cacheTwin:V_cacheTwin:=by
  delta V_cacheTwin
  simp only [ob_iff,and_imp,forall_exists_index,List.cons_append,List.nil_append,dshs_cons,dshs_nil,dsh_int,dsh_bool,dsh_sl,rng64,rng32,true_and,and_true,List.cons.injEq,DV.c.injEq,DV.a.injEq,D.raw.injEq,D.fs.injEq,Value.bool.injEq,Value.int.injEq]
  repeat' first | assumption | exact DShs.tail (DSh_nth (by assumption) (by assumption)) | exact shp32 (by assumption) | exact shp64 (by assumption) | exact shp2 (by assumption) | exact shpF (by assumption) | with_reducible intro _ | with_reducible apply And.intro
  all_goals (try subst_vars)
  all_goals (try simp (disch:=omega) only [w64_id,wu64,Int.sub_zero,Int.zero_add,List.length_set] at *)
  all_goals first
    | assumption
    | omega
    | (trivial)
    | ((have hR:=‹∀ res:List DV,_=_→_›;refine hR _ ?_;simp))
    | (exact LS.shp (by assumption))
    | (exact LS.rect (by assumption))
    | (grind)
theorem con_cacheTwin:Con Go.Proofs.Tryz.prog k0 154 t_cacheTwin :=
  con_of (cxf_ok mixOk (fun p hp=>by
    simp only [List.mem_cons,List.not_mem_nil,or_false] at hp
    subst hp
    exact con_cloneDe) (fun p hp=>by
    simp only [List.mem_cons,List.not_mem_nil,or_false] at hp
    subst hp
    · intro t ht;cases ht;exact fn_cloneDe)) Go.Proofs.Tryz.func154 rfl rfl rfl rfl vcEq_cacheTwin vcPf_cacheTwin
end Go.Vc

namespace Go.Vc
open Classical
def f_pastTwin (aa:List DV):List DV:=[vl (li aa 0)]
def t_pastTwin:ConT:=⟨[kl],[kl],fun aa=>LSh frozS (li aa 0)∧e_past (li aa 0)=0,fun aa rs=>rs=f_pastTwin aa⟩
theorem fn_pastTwin:∀ aa,t_pastTwin.pre aa→∀ rs,t_pastTwin.post aa rs→rs=f_pastTwin aa:=fun _ _ _ h=>h
def V_pastTwin:Prop:=∀ (l0:LL),Ob (LSh frozS l0∧e_past l0=(0:Int))→∀ (R:List DV→Prop),Ob (∀ (res:List DV),res=[vl l0]→R res)→(l0=[]→Ob (R [vl []]))∧Ob (Rect (17) l0∧List.length ([]:LL)+List.length l0≤(1048576:Nat))∧∀ (l2:LL),l2=[]++l0→∀ (x3:Int),x3=(↑(List.length l2):Int)→Ob ((0:Int)≤(0:Int)∧l2=l2)∧∀ (g4:Nat→Value) (x5:Int) (l6:LL),Ob ((0:Int)≤x5∧l6=l2)→(x5<x3→Ob ((0:Int)≤x5∧x5<(↑(List.length l6):Int))∧∀ (x7:Int),x7=x5→Ob ((0:Int)≤x7∧x7<(↑(List.length l6):Int))∧Ob (Shp [Kd.int IntKind.i64,Kd.bool,Kd.sl,Kd.int IntKind.i64,Kd.bool,Kd.sl,Kd.int IntKind.i64,Kd.bool,Kd.sl,Kd.int IntKind.i64,Kd.bool,Kd.sl,Kd.int IntKind.i64,Kd.bool,Kd.int IntKind.i64,Kd.int IntKind.i64,Kd.sl] l6)∧∀ (x8:Int) (b9:Bool) (l10:LL) (x11:Int) (b12:Bool) (l13:LL) (x14:Int) (b15:Bool) (l16:LL) (x17:Int) (b18:Bool) (l19:LL) (x20:Int) (b21:Bool) (x22 x23:Int) (l24:LL),Ob (l6[Int.toNat x7]?=some [dn x8,db b9,D.fs l10,dn x11,db b12,D.fs l13,dn x14,db b15,D.fs l16,dn x17,db b18,D.fs l19,dn x20,db b21,dn x22,dn x23,D.fs l24])→Ob (DShs partS [db b9,D.fs l10,dn x11,db b12,D.fs l13,dn x14,db b15,D.fs l16,dn x17,db b18,D.fs l19,dn x20,db b21,dn x22,dn x23,D.fs l24]∧List.length l10≤(1048576:Nat)∧List.length l13≤(1048576:Nat)∧List.length l16≤(1048576:Nat)∧List.length l19≤(1048576:Nat)∧List.length l24≤(1048576:Nat))∧∀ (b25:Bool) (l26:LL) (x27:Int) (b28:Bool) (l29:LL) (x30:Int) (b31:Bool) (l32:LL) (x33:Int) (b34:Bool) (l35:LL) (x36:Int) (b37:Bool) (x38 x39:Int) (l40:LL),Ob ([DV.a [db b25,D.fs l26,dn x27,db b28,D.fs l29,dn x30,db b31,D.fs l32,dn x33,db b34,D.fs l35,dn x36,db b37,dn x38,dn x39,D.fs l40]]=[DV.a [db b9,D.fs l10,dn x11,db b12,D.fs l13,dn x14,db b15,D.fs l16,dn x17,db b18,D.fs l19,dn x20,db b21,dn x22,dn x23,D.fs l24]])→Ob ((0:Int)≤x5∧x5<(↑(List.length l6):Int))∧∀ (x41:Int),x41=x5→Ob ((0:Int)≤x41∧x41<(↑(List.length l6):Int))∧∀ (l42:LL),l42=List.set l6 (Int.toNat x41) (putAt (List.getD l6 (Int.toNat x41) []) (1) [db b25,D.fs l26,dn x27,db b28,D.fs l29,dn x30,db b31,D.fs l32,dn x33,db b34,D.fs l35,dn x36,db b37,dn x38,dn x39,D.fs l40])→∀ (x43:Int),x43=w64 (x5+(1:Int))→Ob ((0:Int)≤x43∧l42=l2)∧Ob (List.length l2-Int.toNat x43<List.length l2-Int.toNat x5))∧(¬x5<x3→Ob (R [vl l6]))
set_option maxRecDepth 100000 in
theorem vcEq_pastTwin:vcFn Go.Proofs.Tryz.prog k0 (cxf [(222,t_clone32),(153,t_cloneI),(156,t_cloneTi),(231,t_cloneDe),(234,t_dyTwin),(159,t_massTwin),(137,t_partTwin),(154,t_cacheTwin)] [(155000,0,some ⟨[3,8],[9],[],[kn],[⟨0,79,17,false, .row 3⟩],fun ρ ds=>0≤ni ds 0∧li ds 1=ρ.d 2,fun ρ ds=>(ρ.d 2).length-(ni ds 0).toNat,none⟩)] [] [(222,f_clone32),(153,f_cloneI),(156,f_cloneTi),(231,f_cloneDe),(234,f_dyTwin),(159,f_massTwin),(137,f_partTwin),(154,f_cacheTwin)]) 3000 155 Go.Proofs.Tryz.f155 (bodyOf Go.Proofs.Tryz.f155) t_pastTwin=V_pastTwin:=by kernel_rfl
set_option maxHeartbeats 4000000 in
set_option maxRecDepth 20000 in
theorem vcPf_pastTwin:V_pastTwin:=by
  delta V_pastTwin
  simp only [ob_iff,and_imp,forall_exists_index,true_and,and_true,List.cons.injEq,DV.c.injEq,DV.a.injEq,D.raw.injEq,D.fs.injEq,Value.bool.injEq,Value.int.injEq]
  intro l0 h1 h2 h3 R hR
  have hn:=past_lim h3
  repeat' first | assumption | exact DShs.tail (DSh_nth (by assumption) (by assumption)) | exact shp32 (by assumption) | exact shp64 (by assumption) | exact shp2 (by assumption) | exact shpF (by assumption) | with_reducible intro _ | with_reducible apply And.intro
  all_goals (try subst_vars)
  all_goals (try simp only [List.nil_append,List.length_nil,List.length_cons,List.length_append] at *)
  all_goals first
    | assumption
    | omega
    | exact shpF h2
    | exact LS.rect h2
    | exact set_part (by assumption) rfl
    | exact DShs.tail (DSh_nth (by assumption) h2)
    | (obtain ⟨r1,r2,r3,r4,r5⟩:=past_lims (by assumption) h3;omega)
    | (rw [w64_id (by omega) (by omega)];omega)
    | exact hR _ rfl
    | skip
theorem con_pastTwin:Con Go.Proofs.Tryz.prog k0 155 t_pastTwin :=
  con_of (cxf_ok mixOk (fun p hp=>by
    simp only [List.mem_cons,List.not_mem_nil,or_false] at hp
    rcases hp with rfl | rfl | rfl | rfl | rfl | rfl | rfl | rfl
    · exact con_clone32
    · exact con_cloneI
    · exact con_cloneTi
    · exact con_cloneDe
    · exact con_dyTwin
    · exact con_massTwin
    · exact con_partTwin
    · exact con_cacheTwin) (fun p hp=>by
    simp only [List.mem_cons,List.not_mem_nil,or_false] at hp
    rcases hp with rfl | rfl | rfl | rfl | rfl | rfl | rfl | rfl
    · intro t ht;cases ht;exact fn_clone32
    · intro t ht;cases ht;exact fn_cloneI
    · intro t ht;cases ht;exact fn_cloneTi
    · intro t ht;cases ht;exact fn_cloneDe
    · intro t ht;cases ht;exact fn_dyTwin
    · intro t ht;cases ht;exact fn_massTwin
    · intro t ht;cases ht;exact fn_partTwin
    · intro t ht;cases ht;exact fn_cacheTwin)) Go.Proofs.Tryz.func155 rfl rfl rfl rfl vcEq_pastTwin vcPf_pastTwin
end Go.Vc
