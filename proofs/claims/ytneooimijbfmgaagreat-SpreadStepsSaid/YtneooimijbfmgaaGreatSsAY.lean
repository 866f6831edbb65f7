import Derived.Test.YtneooimijbfmgaaGreatProg
import Derived.KernelRfl
import Derived.Test.YtneooimijbfmgaaGreatSsAS
import Derived.Test.YtneooimijbfmgaaGreatSsAT
import Derived.Test.YtneooimijbfmgaaGreatSsAU
import Derived.Test.YtneooimijbfmgaaGreatSsAW
import Derived.Test.YtneooimijbfmgaaGreatSsAX
set_option linter.unusedVariables false
set_option linter.unusedSimpArgs false
set_option linter.unusedSectionVars false
set_option maxHeartbeats 4000000
set_option maxRecDepth 100000
noncomputable section
namespace Go.Vc
open Classical
def Wg (aa:List DV):List DV:=[vb (decide (ai aa 0=ai aa 1))]
def Ve:ConT:=⟨[rkS massS,rkS massS],[kb],fun aa=>DShs massS (ai aa 0)∧DShs massS (ai aa 1),fun aa rs=>rs=Wg aa⟩
def Mq:Prop:=∀ b0 l1 x2 b3 l4 x5 b6 l7 x8 b9 l10 x11 b12 l13 x14 b15 l16 x17 b18 l19 x20 b21 l22 x23,let N7:=[db b9,D.fs l10,dn x11];let N6:=[db b21,D.fs l22,dn x23];let N5:=[db b18,D.fs l19,dn x20];let N4:=[db b15,D.fs l16,dn x17];let N3:=[db b12,D.fs l13,dn x14];let N1:=[db b0,D.fs l1,dn x2,db b3,D.fs l4,dn x5,db b6,D.fs l7,dn x8,db b9,D.fs l10,dn x11];let N0:=[db b12,D.fs l13,dn x14,db b15,D.fs l16,dn x17,db b18,D.fs l19,dn x20,db b21,D.fs l22,dn x23];Ob (DShs massS N1∧DShs massS N0)→∀ (R:List DV→Prop),let N2:=(R [vb false]);Ob (∀ (res:List DV),res=[vb (decide (N1=N0))]→R res)→Ob (DShs dyS [db b0,D.fs l1,dn x2]∧DShs dyS N3)∧∀ b25,Ob ([vb b25]=[vb (decide ([db b0,D.fs l1,dn x2]=N3))])→(b25=false→Ob N2)∧(¬b25=false→Ob (DShs dyS [db b3,D.fs l4,dn x5]∧DShs dyS N4)∧∀ b26,Ob ([vb b26]=[vb (decide ([db b3,D.fs l4,dn x5]=N4))])→(b26=false→Ob N2)∧(¬b26=false→Ob (DShs dyS [db b6,D.fs l7,dn x8]∧DShs dyS N5)∧∀ b27,Ob ([vb b27]=[vb (decide ([db b6,D.fs l7,dn x8]=N5))])→(b27=false→Ob N2)∧(¬b27=false→Ob (DShs dyS N7∧DShs dyS N6)∧∀ b28,Ob ([vb b28]=[vb (decide (N7=N6))])→(b28=false→Ob N2)∧(¬b28=false→Ob (R [vb true])))))
theorem Xh:Mq:=by
  delta Mq
  simp only [Ac,and_imp,List.cons_append,List.nil_append,Ab,Af,Ai,Ah,Ak,rng64,rng32,true_and,and_true,List.cons.injEq,DV.c.injEq,DV.a.injEq,D.raw.injEq,D.fs.injEq,Value.bool.injEq,Value.int.injEq]
  repeat' first | assumption | exact DShs.tail (Aa (by assumption) (by assumption)) | exact shp32 (by assumption) | exact shp64 (by assumption) | exact shp2 (by assumption) | exact shpF (by assumption) | with_reducible intro _ | with_reducible apply And.intro
  all_goals first
    | assumption
    | omega
    | (apply ‹∀ res:List DV,_=_→_›;simp_all)
    | grind
theorem Acw:Con TP k0 96 Ve:=Ad [(44,Agd)] [] [] [(44,Ahm)] 3000 ⟨Ajv,trivial⟩ ⟨fnq rfl rfl,trivial⟩ Go.Proofs.Tryz.func96 rfl rfl rfl rfl Mq (by kernel_rfl) Xh
end Go.Vc

namespace Go.Vc
open Classical
def Lz (aa:List DV):List DV:=[vb (decide (ai aa 0=ai aa 1))]
def Lo:ConT:=⟨[rkS partS,rkS partS],[kb],fun aa=>DShs partS (ai aa 0)∧DShs partS (ai aa 1),fun aa rs=>rs=Lz aa⟩
def Mp:Prop:=∀ b0 l1 x2 b3 l4 x5 b6 l7 x8 b9 l10 x11 b12 x13 x14 l15 b16 l17 x18 b19 l20 x21 b22 l23 x24 b25 l26 x27 b28 x29 x30 l31,let N3:=[db b0,D.fs l1,dn x2,db b3,D.fs l4,dn x5,db b6,D.fs l7,dn x8,db b9,D.fs l10,dn x11];let N2:=[db b16,D.fs l17,dn x18,db b19,D.fs l20,dn x21,db b22,D.fs l23,dn x24,db b25,D.fs l26,dn x27];let N1:=[db b0,D.fs l1,dn x2,db b3,D.fs l4,dn x5,db b6,D.fs l7,dn x8,db b9,D.fs l10,dn x11,db b12,dn x13,dn x14,D.fs l15];let N0:=[db b16,D.fs l17,dn x18,db b19,D.fs l20,dn x21,db b22,D.fs l23,dn x24,db b25,D.fs l26,dn x27,db b28,dn x29,dn x30,D.fs l31];Ob (DShs partS N1∧DShs partS N0)→∀ (R:List DV→Prop),Ob (∀ (res:List DV),res=[vb (decide (N1=N0))]→R res)→Ob (DShs massS N3∧DShs massS N2)∧∀ b33,Ob ([vb b33]=[vb (decide (N3=N2))])→(b33=true→(b12=b28∧x13=x29∧x14=x30→Ob (LSh [s32] l15∧LSh [s32] l31)∧∀ b34,Ob ([vb b34]=[vb (decide (l15=l31))])→Ob (R [vb b34]))∧(¬(b12=b28∧x13=x29∧x14=x30)→Ob (R [vb false])))∧(b33=false→Ob (R [vb false]))
theorem Xg:Mp:=by
  delta Mp
  simp only [Ac,and_imp,List.cons_append,List.nil_append,Ab,Af,Ai,Ah,Ak,rng64,rng32,true_and,and_true,List.cons.injEq,DV.c.injEq,DV.a.injEq,D.raw.injEq,D.fs.injEq,Value.bool.injEq,Value.int.injEq]
  repeat' first | assumption | exact DShs.tail (Aa (by assumption) (by assumption)) | exact shp32 (by assumption) | exact shp64 (by assumption) | exact shp2 (by assumption) | exact shpF (by assumption) | with_reducible intro _ | with_reducible apply And.intro
  all_goals first
    | assumption
    | omega
    | (apply ‹∀ res:List DV,_=_→_›;simp_all)
    | grind
theorem Oa:Con TP k0 28 Lo:=Ad [(96,Ve),(106,Alk)] [] [] [(96,Wg),(106,Anu)] 3000 ⟨Acw,Aho,trivial⟩ ⟨fnq rfl rfl,fnq rfl rfl,trivial⟩ Go.Proofs.Tryz.func28 rfl rfl rfl rfl Mp (by kernel_rfl) Xg
end Go.Vc

namespace Go.Vc
open Classical
def Wf (aa:List DV):List DV:=[vb (decide (li aa 0=li aa 1))]
def Vd:ConT:=⟨[kl,kl],[kb],fun aa=>LSh frozS (li aa 0)∧LSh frozS (li aa 1),fun aa rs=>rs=Wf aa⟩
def Mo:Prop:=∀ (l0 l1:LL),Ob (LSh frozS l0∧LSh frozS l1)→∀ (R:List DV→Prop),let N2:=(R [vb false]);Ob (∀ (res:List DV),res=[vb (decide (l0=l1))]→R res)→∀ x3:Int,x3=l0.length→∀ x4:Int,x4=l1.length→(x3≠x4→Ob N2)∧(¬x3≠x4→∀ x5:Int,x5=l0.length→Ob ((0:Int)≤(0:Int)∧l0.length=l1.length∧(0:Int)≤(l0.length:Int)∧List.take (Int.toNat (0:Int)) l0=List.take (Int.toNat (0:Int)) l1)∧∀ (g6:NV) (x7:Int),Ob (0≤x7∧l0.length=l1.length∧x7≤l0.length∧List.take (x7.toNat) l0=List.take (x7.toNat) l1)→(x7<x5→Ob (0≤x7∧x7<l0.length)∧Ob (Shp kF l0)∧∀ x8 b9 l10 x11 b12 l13 x14 b15 l16 x17 b18 l19 x20 b21 x22 x23 l24,let N1:=[db b9,D.fs l10,dn x11,db b12,D.fs l13,dn x14,db b15,D.fs l16,dn x17,db b18,D.fs l19,dn x20,db b21,dn x22,dn x23,D.fs l24];Ob (l0[x7.toNat]?=some [dn x8,db b9,D.fs l10,dn x11,db b12,D.fs l13,dn x14,db b15,D.fs l16,dn x17,db b18,D.fs l19,dn x20,db b21,dn x22,dn x23,D.fs l24])→Ob (0≤x7∧x7<l1.length)∧Ob (Shp kF l1)∧∀ x25 b26 l27 x28 b29 l30 x31 b32 l33 x34 b35 l36 x37 b38 x39 x40 l41,let N0:=[db b26,D.fs l27,dn x28,db b29,D.fs l30,dn x31,db b32,D.fs l33,dn x34,db b35,D.fs l36,dn x37,db b38,dn x39,dn x40,D.fs l41];Ob (l1[x7.toNat]?=some [dn x25,db b26,D.fs l27,dn x28,db b29,D.fs l30,dn x31,db b32,D.fs l33,dn x34,db b35,D.fs l36,dn x37,db b38,dn x39,dn x40,D.fs l41])→(x8=x25→Ob (DShs partS N1∧DShs partS N0)∧∀ b42,Ob ([vb b42]=[vb (decide (N1=N0))])→(b42=false→Ob N2)∧(¬b42=false→∀ x43:Int,x43=w64 (x7+1)→Ob (0≤x43∧l0.length=l1.length∧x43≤l0.length∧List.take (x43.toNat) l0=List.take (x43.toNat) l1)∧Ob (l0.length-x43.toNat<l0.length-x7.toNat)))∧(¬x8=x25→Ob N2))∧(¬x7<x5→Ob (R [vb true])))
theorem Xf:Mo:=by
  delta Mo
  simp only [Ac,and_imp,true_and,and_true,List.cons.injEq,DV.c.injEq,DV.a.injEq,D.raw.injEq,D.fs.injEq,Value.bool.injEq,Value.int.injEq]
  repeat' first | assumption | exact DShs.tail (Aa (by assumption) (by assumption)) | exact shp32 (by assumption) | exact shp64 (by assumption) | exact shp2 (by assumption) | exact shpF (by assumption) | with_reducible intro _ | with_reducible apply And.intro
  all_goals (try (have e:=Ae ‹_=w64 (_+1)› (by omega) (by omega);subst e))
  all_goals first
    | assumption
    | omega
    | (exact DShs.tail (Aa (by assumption) (by assumption)))
    | (apply ‹∀ res:List DV,_=_→_›;simp;grind [El,Dc])
    | (rw [Ao (by omega) (by assumption),Ao (by omega) (by assumption)];grind)
    | (grind)
theorem Acv:Con TP k0 27 Vd:=Ad [(28,Lo)] [(27000185008,0,some ⟨[2,1,15,16],[17],[],[kn],[],fun ρ ds=>0≤ni ds 0∧(ρ.d 0).length=(ρ.d 1).length∧ni ds 0≤(ρ.d 0).length∧(ρ.d 0).take (ni ds 0).toNat=(ρ.d 1).take (ni ds 0).toNat,fun ρ ds=>(ρ.d 0).length-(ni ds 0).toNat,none⟩)] [] [(28,Lz)] 3000 ⟨Oa,trivial⟩ ⟨fnq rfl rfl,trivial⟩ Go.Proofs.Tryz.func27 rfl rfl rfl rfl Mo (by kernel_rfl) Xf
end Go.Vc

namespace Go.Vc
open Classical
def Sa (aa:List DV):List DV:=[vb (decide (ai aa 0=ai aa 1))]
def Qi:ConT:=⟨[rkS cacheS,rkS cacheS],[kb],fun aa=>DShs cacheS (ai aa 0)∧DShs cacheS (ai aa 1),fun aa rs=>rs=Sa aa⟩
def Jp:Prop:=∀ x0 x1 l2 x3 x4 l5,Ob (DShs cacheS [dn x0,dn x1,D.fs l2]∧DShs cacheS [dn x3,dn x4,D.fs l5])→∀ (R:List DV→Prop),Ob (∀ (res:List DV),res=[vb (decide ([dn x0,dn x1,D.fs l2]=[dn x3,dn x4,D.fs l5]))]→R res)→(x0=x3→(x1=x4→Ob (LSh pairS l2∧LSh pairS l5)∧∀ b7,Ob ([vb b7]=[vb (decide (l2=l5))])→Ob (R [vb b7]))∧(¬x1=x4→Ob (R [vb false])))∧(¬x0=x3→Ob (R [vb false]))
theorem Uf:Jp:=by
  delta Jp
  simp only [Ac,and_imp,List.cons_append,List.nil_append,Ab,Af,Ai,Ah,Ak,rng64,rng32,true_and,and_true,List.cons.injEq,DV.c.injEq,DV.a.injEq,D.raw.injEq,D.fs.injEq,Value.bool.injEq,Value.int.injEq]
  repeat' first | assumption | exact DShs.tail (Aa (by assumption) (by assumption)) | exact shp32 (by assumption) | exact shp64 (by assumption) | exact shp2 (by assumption) | exact shpF (by assumption) | with_reducible intro _ | with_reducible apply And.intro
  all_goals first
    | assumption
    | omega
    | (apply ‹∀ res:List DV,_=_→_›;simp_all)
    | grind
theorem Zr:Con TP k0 102 Qi:=Ad [(188,Hj)] [] [] [(188,Hr)] 3000 ⟨Gt,trivial⟩ ⟨fnq rfl rfl,trivial⟩ Go.Proofs.Tryz.func102 rfl rfl rfl rfl Jp (by kernel_rfl) Uf
end Go.Vc

namespace Go.Vc
open Classical
def Ax8 (aa:List DV):List DV:=[vb (decide (li aa 0=li aa 1))]
def Awo:ConT:=⟨[kl,kl],[kb],fun aa=>LSh [s64] (li aa 0)∧LSh [s64] (li aa 1),fun aa rs=>rs=Ax8 aa⟩
def Awf:Prop:=∀ (l0 l1:LL),Ob (LSh [s64] l0∧LSh [s64] l1)→∀ (R:List DV→Prop),Ob (∀ (res:List DV),res=[vb (decide (l0=l1))]→R res)→∀ x3:Int,x3=l0.length→∀ x4:Int,x4=l1.length→(x3≠x4→Ob (R [vb false]))∧(¬x3≠x4→∀ x5:Int,x5=l0.length→Ob ((0:Int)≤(0:Int)∧l0.length=l1.length∧(0:Int)≤(l0.length:Int)∧List.take (Int.toNat (0:Int)) l0=List.take (Int.toNat (0:Int)) l1)∧∀ (g6:NV) (x7:Int),Ob (0≤x7∧l0.length=l1.length∧x7≤l0.length∧List.take (x7.toNat) l0=List.take (x7.toNat) l1)→(x7<x5→Ob (0≤x7∧x7<l0.length)∧Ob (Shp kI l0)∧∀ x8,Ob (l0[x7.toNat]?=some [dn x8])→Ob (0≤x7∧x7<l1.length)∧Ob (Shp kI l1)∧∀ x9,Ob (l1[x7.toNat]?=some [dn x9])→(x8≠x9→Ob (R [vb false]))∧(¬x8≠x9→∀ x10:Int,x10=w64 (x7+1)→Ob (0≤x10∧l0.length=l1.length∧x10≤l0.length∧List.take (x10.toNat) l0=List.take (x10.toNat) l1)∧Ob (l0.length-x10.toNat<l0.length-x7.toNat)))∧(¬x7<x5→Ob (R [vb true])))
theorem Apu:Awf:=by
  delta Awf
  simp only [Ac,and_imp,List.cons_append,List.nil_append,Ab,Af,Ai,Ah,Ak,rng64,rng32,true_and,and_true,List.cons.injEq,DV.c.injEq,DV.a.injEq,D.raw.injEq,D.fs.injEq,Value.bool.injEq,Value.int.injEq]
  repeat' first | assumption | exact DShs.tail (Aa (by assumption) (by assumption)) | exact shp32 (by assumption) | exact shp64 (by assumption) | exact shp2 (by assumption) | exact shpF (by assumption) | with_reducible intro _ | with_reducible apply And.intro
  all_goals (try (have e:=Ae ‹_=w64 (_+1)› (by omega) (by omega);subst e))
  all_goals first
    | omega
    | (apply ‹∀ res:List DV,_=_→_›;simp;grind [El,Dc])
    | (rw [Ao (by omega) (by assumption),Ao (by omega) (by assumption)];grind)
    | grind
theorem Av0:Con TP k0 101 Awo:=Ad [] [(101000,0,some ⟨[1,0,12],[13],[],[kn],[],fun ρ ds=>0≤ni ds 0∧(ρ.d 0).length=(ρ.d 1).length∧ni ds 0≤(ρ.d 0).length∧(ρ.d 0).take (ni ds 0).toNat=(ρ.d 1).take (ni ds 0).toNat,fun ρ ds=>(ρ.d 0).length-(ni ds 0).toNat,none⟩)] [] [] 3000 trivial trivial Go.Proofs.Tryz.func101 rfl rfl rfl rfl Awf (by kernel_rfl) Apu
end Go.Vc

namespace Go.Vc
open Classical
def As3 (aa:List DV):List DV:=[vb (decide (li aa 0=li aa 1))]
def Asi:ConT:=⟨[kl,kl],[kb],fun aa=>LSh pairS (li aa 0)∧LSh pairS (li aa 1),fun aa rs=>rs=As3 aa⟩
def Apj:Prop:=∀ (l0 l1:LL),Ob (LSh pairS l0∧LSh pairS l1)→∀ (R:List DV→Prop),Ob (∀ (res:List DV),res=[vb (decide (l0=l1))]→R res)→∀ x3:Int,x3=l0.length→∀ x4:Int,x4=l1.length→(x3≠x4→Ob (R [vb false]))∧(¬x3≠x4→∀ x5:Int,x5=l0.length→Ob ((0:Int)≤(0:Int)∧l0.length=l1.length∧(0:Int)≤(l0.length:Int)∧List.take (Int.toNat (0:Int)) l0=List.take (Int.toNat (0:Int)) l1)∧∀ (g6:NV) (x7:Int),Ob (0≤x7∧l0.length=l1.length∧x7≤l0.length∧List.take (x7.toNat) l0=List.take (x7.toNat) l1)→(x7<x5→Ob (0≤x7∧x7<l0.length)∧Ob (Shp kP l0)∧∀ x8 x9,Ob (l0[x7.toNat]?=some [dn x8,dn x9])→Ob (0≤x7∧x7<l1.length)∧Ob (Shp kP l1)∧∀ x10 x11,Ob (l1[x7.toNat]?=some [dn x10,dn x11])→(¬(x8=x10∧x9=x11)→Ob (R [vb false]))∧(¬¬(x8=x10∧x9=x11)→∀ x12:Int,x12=w64 (x7+1)→Ob (0≤x12∧l0.length=l1.length∧x12≤l0.length∧List.take (x12.toNat) l0=List.take (x12.toNat) l1)∧Ob (l0.length-x12.toNat<l0.length-x7.toNat)))∧(¬x7<x5→Ob (R [vb true])))
theorem Ako:Apj:=by
  delta Apj
  simp only [Ac,and_imp,List.cons_append,List.nil_append,Ab,Af,Ai,Ah,Ak,rng64,rng32,true_and,and_true,List.cons.injEq,DV.c.injEq,DV.a.injEq,D.raw.injEq,D.fs.injEq,Value.bool.injEq,Value.int.injEq]
  repeat' first | assumption | exact DShs.tail (Aa (by assumption) (by assumption)) | exact shp32 (by assumption) | exact shp64 (by assumption) | exact shp2 (by assumption) | exact shpF (by assumption) | with_reducible intro _ | with_reducible apply And.intro
  all_goals (try (have e:=Ae ‹_=w64 (_+1)› (by omega) (by omega);subst e))
  all_goals first
    | omega
    | (apply ‹∀ res:List DV,_=_→_›;simp;grind [El,Dc])
    | (rw [Ao (by omega) (by assumption),Ao (by omega) (by assumption)];grind)
    | grind
theorem Ar4:Con TP k0 103 Asi:=Ad [] [(103000,0,some ⟨[1,0,12],[13],[],[kn],[],fun ρ ds=>0≤ni ds 0∧(ρ.d 0).length=(ρ.d 1).length∧ni ds 0≤(ρ.d 0).length∧(ρ.d 0).take (ni ds 0).toNat=(ρ.d 1).take (ni ds 0).toNat,fun ρ ds=>(ρ.d 0).length-(ni ds 0).toNat,none⟩)] [] [] 3000 trivial trivial Go.Proofs.Tryz.func103 rfl rfl rfl rfl Apj (by kernel_rfl) Ako
end Go.Vc

namespace Go.Vc
open Classical
def Nv (aa:List DV):List DV:=[vn (if Au (ai aa 0) then 0 else 8)]
def Nf:ConT:=⟨[rkS nodeS],[kn],fun aa=>DShs nodeS (ai aa 0),fun aa rs=>rs=Nv aa⟩
def Hd:Prop:=let N1:=[db false,D.fs [],dn 0,db false,D.fs [],dn 0,db false,D.fs [],dn 0,db false,D.fs [],dn 0,db false,dn 0,dn 0,D.fs []];∀ (x0 x1:Int) (b2:Bool) (x3 x4 x5 x6 x7:Int) (b8:Bool) (l9:LL) (x10:Int) (b11:Bool) (l12:LL) (x13:Int) (b14:Bool) (l15:LL) (x16:Int) (b17:Bool) (l18:LL) (x19:Int) (b20:Bool) (x21 x22:Int) (l23:LL) (b24:Bool) (x25 x26:Int) (l27:LL) (x28 x29:Int) (l30 l31 l32:LL),let N22:=(Shp kF l31);let N21:=(Be l31);let N20:=(Bn l27);let N14:=(Bh l32);let N12:=[dn x3,dn x4,dn x5,dn x6,dn x7];let N10:=(LSh frozS l31);let N9:=(LSh pairS l32);let N4:=[dn x28,dn x29,D.fs l30];let N8:=(DShs cacheS N4);let N3:=[vn (if Aq N4 then (0:Int) else (8:Int))];let N2:=[dn x0,dn x1,db b2,dn x3,dn x4,dn x5,dn x6,dn x7,db b8,D.fs l9,dn x10,db b11,D.fs l12,dn x13,db b14,D.fs l15,dn x16,db b17,D.fs l18,dn x19,db b20,dn x21,dn x22,D.fs l23,db b24,dn x25,dn x26,D.fs l27,dn x28,dn x29,D.fs l30,D.fs l31,D.fs l32];let N0:=[db b8,D.fs l9,dn x10,db b11,D.fs l12,dn x13,db b14,D.fs l15,dn x16,db b17,D.fs l18,dn x19,db b20,dn x21,dn x22,D.fs l23];let N13:=(DShs partS N0∧DShs partS N1);Ob (DShs nodeS N2)→∀ (R:List DV→Prop),let N23:=(¬x26<8→Ob (R [vn 8]));let N19:=(b2=false→Ob (R [vn 8]));let N18:=(¬x6≥x7→Ob (R [vn 8]));let N17:=(¬x25≥0→Ob (R [vn 8]));let N16:=(¬x26≥0→Ob (R [vn 8]));let N15:=(¬x26≠x0→Ob (R [vn 8]));let N11:=(¬x25≤1048575→Ob (R [vn 8]));let N7:=(¬b2=false→Ob (R [vn 8]));let N6:=(x28≠x0→Ob (R [vn 8]));let N5:=(¬(b24=false∧x25=0∧x26=0)→Ob (R [vn 8]));Ob (∀ (res:List DV),res=[vn (if Au N2 then (0:Int) else (8:Int))]→R res)→(x0<0→N19∧N7)∧(¬x0<0→(x0≥8→N19∧N7)∧(¬x0≥8→(b2=false→(x0=x0→(x1=0→(b2=false→(x3=0∧x4=0∧x5=0∧x6=0∧x7=0→(b24=false∧x25=0∧x26=0→Ob N13∧∀ b34,Ob ([vb b34]=[vb (decide (N0=N1))])→(b34=true→Ob (LSh [s64] l27∧LSh [s64] [])∧∀ b35,Ob ([vb b35]=[vb (decide (l27=[]))])→(b35=true→Ob (DShs cacheS N4∧DShs cacheS [dn 0,dn 0,D.fs []])∧∀ b36,Ob ([vb b36]=[vb (decide (N4=[dn 0,dn 0,D.fs []]))])→(b36=true→Ob (LSh frozS l31∧LSh frozS [])∧∀ b37,Ob ([vb b37]=[vb (decide (l31=[]))])→(b37=true→Ob (LSh pairS l32∧LSh pairS [])∧∀ b38,Ob ([vb b38]=[vb (decide (l32=[]))])→(b38=false→Ob (R [vn 8]))∧(¬b38=false→Ob (R [vn 0])))∧(b37=false→Ob (R [vn 8])))∧(b36=false→Ob (R [vn 8])))∧(b35=false→Ob (R [vn 8])))∧(b34=false→Ob (R [vn 8])))∧N5)∧(¬(x3=0∧x4=0∧x5=0∧x6=0∧x7=0)→Ob (R [vn 8])))∧N7)∧(¬x1=0→Ob (R [vn 8])))∧(¬x0=x0→Ob (R [vn 8])))∧(¬b2=false→(x1≥-2147483647→(x1≤2147483647→Ob (DShs clockS N12)∧∀ x39,Ob ([vn x39]=[vn (if Dg N12 then (0:Int) else (8:Int))])→(x39≠0→Ob (R [vn 8]))∧(¬x39≠0→Ob (DShs partS N0)∧∀ x40,Ob ([vn x40]=[vn (if Bp N0 then (0:Int) else (8:Int))])→(x40≠0→Ob (R [vn 8]))∧(¬x40≠0→(x6≥x7→(b24=false→(b24=false∧x25=0∧x26=0→Ob (LSh [s64] l27)∧∀ x41,Ob ([vn x41]=[vn N20])→(x41≠0→Ob (R [vn 8]))∧(¬x41≠0→Ob N9∧∀ x42,Ob ([vn x42]=[vn N14])→(x42≠0→Ob (R [vn 8]))∧(¬x42≠0→Ob N8∧∀ x43,Ob ([vn x43]=N3)→(x43≠0→Ob (R [vn 8]))∧(¬x43≠0→N6∧(¬x28≠x0→Ob N10∧∀ x44,Ob ([vn x44]=[vn N21])→(x44≠0→Ob (R [vn 8]))∧(¬x44≠0→∀ x45:Int,x45=l31.length→(x45>0→∀ x46:Int,x46=l31.length→∀ x47:Int,x47=w64 (x46-1)→Ob (0≤x47∧x47<l31.length)∧Ob N22∧∀ x48 b49 l50 x51 b52 l53 x54 b55 l56 x57 b58 l59 x60 b61 x62 x63 l64,Ob (l31[x47.toNat]?=some [dn x48,db b49,D.fs l50,dn x51,db b52,D.fs l53,dn x54,db b55,D.fs l56,dn x57,db b58,D.fs l59,dn x60,db b61,dn x62,dn x63,D.fs l64])→(x48≥x6→Ob (R [vn 8]))∧(¬x48≥x6→Ob (R [vn 0])))∧(¬x45>0→Ob (R [vn 0]))))))))∧N5)∧(¬b24=false→(x6≥x7→(x25≥0→(x25≤1048575→(x26≥0→(x26<8→(x26≠x0→Ob (LSh [s64] l27)∧∀ x65,Ob ([vn x65]=[vn N20])→(x65≠0→Ob (R [vn 8]))∧(¬x65≠0→Ob N9∧∀ x66,Ob ([vn x66]=[vn N14])→(x66≠0→Ob (R [vn 8]))∧(¬x66≠0→Ob N8∧∀ x67,Ob ([vn x67]=N3)→(x67≠0→Ob (R [vn 8]))∧(¬x67≠0→N6∧(¬x28≠x0→Ob N10∧∀ x68,Ob ([vn x68]=[vn N21])→(x68≠0→Ob (R [vn 8]))∧(¬x68≠0→∀ x69:Int,x69=l31.length→(x69>0→∀ x70:Int,x70=l31.length→∀ x71:Int,x71=w64 (x70-1)→Ob (0≤x71∧x71<l31.length)∧Ob N22∧∀ x72 b73 l74 x75 b76 l77 x78 b79 l80 x81 b82 l83 x84 b85 x86 x87 l88,Ob (l31[x71.toNat]?=some [dn x72,db b73,D.fs l74,dn x75,db b76,D.fs l77,dn x78,db b79,D.fs l80,dn x81,db b82,D.fs l83,dn x84,db b85,dn x86,dn x87,D.fs l88])→(x72≥x6→Ob (R [vn 8]))∧(¬x72≥x6→Ob (R [vn 0])))∧(¬x69>0→Ob (R [vn 0]))))))))∧N15)∧N23)∧N16)∧N11)∧N17)∧N18))∧(¬x6≥x7→Ob N13∧∀ b89,Ob ([vb b89]=[vb (decide (N0=N1))])→(b89=false→Ob (R [vn 8]))∧(¬b89=false→(b24=false→(b24=false∧x25=0∧x26=0→Ob (LSh [s64] l27)∧∀ x90,Ob ([vn x90]=[vn N20])→(x90≠0→Ob (R [vn 8]))∧(¬x90≠0→Ob N9∧∀ x91,Ob ([vn x91]=[vn N14])→(x91≠0→Ob (R [vn 8]))∧(¬x91≠0→Ob N8∧∀ x92,Ob ([vn x92]=N3)→(x92≠0→Ob (R [vn 8]))∧(¬x92≠0→N6∧(¬x28≠x0→Ob N10∧∀ x93,Ob ([vn x93]=[vn N21])→(x93≠0→Ob (R [vn 8]))∧(¬x93≠0→∀ x94:Int,x94=l31.length→(x94>0→∀ x95:Int,x95=l31.length→∀ x96:Int,x96=w64 (x95-1)→Ob (0≤x96∧x96<l31.length)∧Ob N22∧∀ x97 b98 l99 x100 b101 l102 x103 b104 l105 x106 b107 l108 x109 b110 x111 x112 l113,Ob (l31[x96.toNat]?=some [dn x97,db b98,D.fs l99,dn x100,db b101,D.fs l102,dn x103,db b104,D.fs l105,dn x106,db b107,D.fs l108,dn x109,db b110,dn x111,dn x112,D.fs l113])→(x97≥x6→Ob (R [vn 8]))∧(¬x97≥x6→Ob (R [vn 0])))∧(¬x94>0→Ob (R [vn 0]))))))))∧N5)∧(¬b24=false→(x6≥x7→(x25≥0→(x25≤1048575→(x26≥0→(x26<8→(x26≠x0→Ob (LSh [s64] l27)∧∀ x114,Ob ([vn x114]=[vn N20])→(x114≠0→Ob (R [vn 8]))∧(¬x114≠0→Ob N9∧∀ x115,Ob ([vn x115]=[vn N14])→(x115≠0→Ob (R [vn 8]))∧(¬x115≠0→Ob N8∧∀ x116,Ob ([vn x116]=N3)→(x116≠0→Ob (R [vn 8]))∧(¬x116≠0→N6∧(¬x28≠x0→Ob N10∧∀ x117,Ob ([vn x117]=[vn N21])→(x117≠0→Ob (R [vn 8]))∧(¬x117≠0→∀ x118:Int,x118=l31.length→(x118>0→∀ x119:Int,x119=l31.length→∀ x120:Int,x120=w64 (x119-1)→Ob (0≤x120∧x120<l31.length)∧Ob N22∧∀ x121 b122 l123 x124 b125 l126 x127 b128 l129 x130 b131 l132 x133 b134 x135 x136 l137,Ob (l31[x120.toNat]?=some [dn x121,db b122,D.fs l123,dn x124,db b125,D.fs l126,dn x127,db b128,D.fs l129,dn x130,db b131,D.fs l132,dn x133,db b134,dn x135,dn x136,D.fs l137])→(x121≥x6→Ob (R [vn 8]))∧(¬x121≥x6→Ob (R [vn 0])))∧(¬x118>0→Ob (R [vn 0]))))))))∧N15)∧N23)∧N16)∧N11)∧N17)∧N18))))))∧(¬x1≤2147483647→Ob (R [vn 8])))∧(¬x1≥-2147483647→Ob (R [vn 8])))))
theorem Pk:Hd:=by
  delta Hd
  simp only [Ac,and_imp,forall_exists_index,true_and,and_true,List.cons.injEq,DV.c.injEq,DV.a.injEq,D.raw.injEq,D.fs.injEq,Value.bool.injEq,Value.int.injEq]
  intro x0 x1 b2 x3 x4 x5 x6 x7 b8 l9 x10 b11 l12 x13 b14 l15 x16 b17 l18 x19 b20 x21 x22 l23 b24 x25 x26 l27 x28 x29 l30 l31 l32 hsh R hR
  obtain ⟨hs1,hs2,hs3,hs4,hs5,hs6⟩:=Dw hsh
  repeat' first | assumption | exact DShs.tail (Aa (by assumption) (by assumption)) | exact shp32 (by assumption) | exact shp64 (by assumption) | exact shp2 (by assumption) | exact shpF (by assumption) | with_reducible intro _ | with_reducible apply And.intro
  all_goals (try (have e:=Fk ‹_=w64 (_-_)› (by omega) (by omega);subst e))
  all_goals first
    | exact Ej
    | assumption
    | omega
    | exact shpF hs5.2
    | (simp [Ab,Ah,Ak,Ai,Af,Ej,rng64,LSh];done)
    | (refine hR _ (Azs fun hp=>?_)
       obtain ⟨hp,hpc⟩:=hp
       obtain ⟨f1,f2,f3,f4⟩:=Axi hp
       first
         | omega
         | (have hb:b2=false:=by assumption
            obtain ⟨g1,g2,g3,g4,g5,g6,g7,g8,g9,g10,g11,g12,g13,g14,g15,g16,g17,g18,g19,g20,g21,g22,g23,g24,g25,g26,g27,g28,g29,g30,g31⟩:=f3 hb
            clear hR hp f4 f3 hsh hs1 hs2 hs3 hs4 hs5 hs6
            subst_vars
            simp at *
            done)
         | (have hb:b2=true:=by simpa using ‹¬b2=false›
            obtain ⟨g1,g2,g3,g4,g5,g6,g7,g8,g9,g10,g11,g12,g13,g14,g15⟩:=f4 hb
            clear hR hp f4 f3
            first
              | omega
              | exact if8' (by assumption) (by assumption) (hpc hb)
              | (rw [if_pos (by assumption)] at *;omega)
              | (have g5':=g5 (by omega)
                 clear hsh hs1 hs2 hs3 hs4 hs5 hs6
                 simp only [zPart,List.cons.injEq,D.raw.injEq,D.fs.injEq,Value.int.injEq,Value.bool.injEq,true_and,and_true] at g5'
                 obtain ⟨e1,e2,e3,e4,e5,e6,e7,e8,e9,e10,e11,e12,e13,e14,e15,e16⟩:=g5'
                 subst_vars
                 simp at *
                 done)
              | (have g6':=g6 (by assumption);omega)
              | (have hw:b24=false:=by assumption
                 exact absurd (And.intro hw (g6 hw)) ‹¬(b24=false∧_)›)
              | (have g7':=g7 (by simpa using ‹¬b24=false›);omega)
              | (rw [lastC (by assumption) (by assumption) (by omega)] at g12;omega)))
    | skip
  all_goals (refine hR _ (Axl ⟨?_,fun hu=>?_⟩))
  all_goals (try (first | exact Agx (by assumption) (by assumption) | (exfalso;simp only [gB,List.getElem?_cons_succ,List.getElem?_cons_zero] at hu;first | contradiction | exact bcon hu (by assumption))))
  all_goals (refine ⟨?_,?_,fun hu=>?_,fun hu=>?_⟩)
  all_goals (try (simp only [gI,List.getElem?_cons_zero];omega))
  all_goals (simp only [gB,List.getElem?_cons_succ,List.getElem?_cons_zero] at hu)
  all_goals first
    | contradiction
    | exact bcon hu (by assumption)
    | (clear hR;subst_vars;simp only [decide_eq_true_eq,Bool.not_eq_false] at *;simp [downC,gI, *];done)
    | (refine ⟨Ay6 ⟨⟨by omega,by omega⟩,ite0 (by assumption) (by assumption),ite0 (by assumption) (by assumption),fun h=>?_,⟨fun h=>?_,fun h=>?_⟩,by omega,by omega,by omega,by omega,fun h=>?_⟩,?_⟩)
    | skip
  all_goals first
    | omega
    | (exfalso;omega)
    | contradiction
    | exact bcon h (by assumption)
    | exact bcon (by assumption) h
    | (refine ⟨?_,?_,?_,?_,?_,?_⟩ <;> omega)
    | (have z:=Agx (p:=Aq _) (by assumption) (by assumption);exact ⟨z.2.2.1,z.2.2.2.1,z.2.2.2.2.1⟩)
    | (have h1:=Avu (by assumption) ‹¬_=false›;obtain ⟨e1,e2,e3,e4,e5,e6,e7,e8,e9,e10,e11,e12,e13,e14,e15,e16⟩:=h1;rw [e1,e2,e3,e4,e5,e6,e7,e8,e9,e10,e11,e12,e13,e14,e15,e16];rfl)
    | (rw [lastC (by assumption) (by assumption) (by omega)];omega)
    | (simp only [gI,gL,List.getElem?_cons_succ,List.getElem?_cons_zero,List.length_nil];omega)
    | skip
theorem Uq:Con TP k0 40 Nf:=Ad [(142,Fq),(218,Qd),(210,Ik),(214,Ps),(215,My),(109,Nh),(28,Lo),(27,Vd),(102,Qi),(101,Awo),(103,Asi)] [(40000372033963107,0,none)] [] [(142,Kv),(218,Rv),(210,Iq),(214,Rj),(215,Np),(109,Nx),(28,Lz),(27,Wf),(102,Sa),(101,Ax8),(103,As3)] 3000 ⟨Gu,Zm,La,Zb,Uk,Us,Oa,Acv,Zr,Av0,Ar4,trivial⟩ ⟨fnq rfl rfl,fnq rfl rfl,fnq rfl rfl,fnq rfl rfl,fnq rfl rfl,fnq rfl rfl,fnq rfl rfl,fnq rfl rfl,fnq rfl rfl,fnq rfl rfl,fnq rfl rfl,trivial⟩ Go.Proofs.Tryz.func40 rfl rfl rfl rfl Hd (by kernel_rfl) Pk
end Go.Vc

namespace Go.Vc
open Classical
def Vz (aa:List DV):List DV:=[vn (mxN (li aa 0) ((li aa 0).length-1))]
def Uw:ConT:=⟨[kl],[kn],fun aa=>LSh [s64] (li aa 0)∧0<(li aa 0).length,fun aa rs=>rs=Vz aa⟩
def Mg:Prop:=∀ (l0:LL),Ob (LSh [s64] l0∧(0:Nat)<l0.length)→∀ (R:List DV→Prop),Ob (∀ (res:List DV),res=[vn (mxN l0 (l0.length-(1:Nat)))]→R res)→∀ x2:Int,x2=l0.length→(x2<1→Ob False)∧(¬x2<1→Ob ((0:Int)≤(0:Int)∧(0:Int)<(l0.length:Int))∧Ob (Shp kI l0)∧∀ x3,Ob (l0[Int.toNat (0:Int)]?=some [dn x3])→Ob ((1:Int)≤(1:Int)∧(1:Int)≤(l0.length:Int)∧x3=mxN l0 (Int.toNat ((1:Int)-(1:Int))))∧∀ (g4:NV) (x5 x6:Int),Ob (1≤x5∧x5≤l0.length∧x6=mxN l0 (Int.toNat (x5-1)))→∀ x7:Int,x7=l0.length→(x5<x7→Ob (0≤x5∧x5<l0.length)∧Ob (Shp kI l0)∧∀ x8,Ob (l0[x5.toNat]?=some [dn x8])→∀ x9:Int,x9=max x6 x8→∀ x10:Int,x10=w64 (x5+1)→Ob (1≤x10∧x10≤l0.length∧x9=mxN l0 (Int.toNat (x10-1)))∧Ob (l0.length-x10.toNat<l0.length-x5.toNat))∧(¬x5<x7→Ob (R [vn x6])))
theorem Wx:Mg:=by
  delta Mg
  simp only [Ac,and_imp,true_and,and_true,List.cons.injEq,DV.c.injEq,DV.a.injEq,D.raw.injEq,D.fs.injEq,Value.bool.injEq,Value.int.injEq]
  repeat' first | assumption | exact DShs.tail (Aa (by assumption) (by assumption)) | exact shp32 (by assumption) | exact shp64 (by assumption) | exact shp2 (by assumption) | exact shpF (by assumption) | with_reducible intro _ | with_reducible apply And.intro
  all_goals (try (have e:=Ae ‹_=w64 (_+1)› (by omega) (by omega);subst e))
  all_goals first
    | assumption
    | omega
    | exact Azx (by assumption)
    | exact shp64 (by assumption)
    | exact Axm (by assumption) (by assumption) (by assumption)
    | (subst_vars;exact Axm (by assumption) rfl (by assumption))
    | (apply ‹∀ res:List DV,_=_→_›;exact congrArg (fun z=>[vn z]) (Azw (by assumption) (by omega) (by omega)))
    | skip
theorem Acn:Con TP k0 239 Uw:=Ad [] [(239000,0,some ⟨[0],[4,3],[],[kn,kn],[],fun ρ ds=>1≤ni ds 0∧ni ds 0≤(ρ.d 0).length∧ni ds 1=mxN (ρ.d 0) (ni ds 0-1).toNat,fun ρ ds=>(ρ.d 0).length-(ni ds 0).toNat,none⟩)] [(239000,3,false)] [] 3000 trivial trivial Go.Proofs.Tryz.func239 rfl rfl rfl rfl Mg (by kernel_rfl) Wx
end Go.Vc

namespace Go.Vc
open Classical
def Anv (aa:List DV):List DV:=[vb (decide (Bb (ai aa 0) (ni aa 1)))]
def All:ConT:=⟨[rkS nodeS,kn],[kb],fun aa=>DShs nodeS (ai aa 0),fun aa rs=>rs=Anv aa⟩
def Afw:Prop:=∀ (x0 x1:Int) (b2:Bool) (x3 x4 x5 x6 x7:Int) (b8:Bool) (l9:LL) (x10:Int) (b11:Bool) (l12:LL) (x13:Int) (b14:Bool) (l15:LL) (x16:Int) (b17:Bool) (l18:LL) (x19:Int) (b20:Bool) (x21 x22:Int) (l23:LL) (b24:Bool) (x25 x26:Int) (l27:LL) (x28 x29:Int) (l30 l31 l32:LL) (x33:Int),let N8:=(l27.length-(1:Nat));let N7:=(Shp kP l32);let N1:=(ltN l32 (1:Nat) x33);let N2:=((0:Int)≤(0:Int)∧upto N1 (0:Int));let N0:=[dn x0,dn x1,db b2,dn x3,dn x4,dn x5,dn x6,dn x7,db b8,D.fs l9,dn x10,db b11,D.fs l12,dn x13,db b14,D.fs l15,dn x16,db b17,D.fs l18,dn x19,db b20,dn x21,dn x22,D.fs l23,db b24,dn x25,dn x26,D.fs l27,dn x28,dn x29,D.fs l30,D.fs l31,D.fs l32];Ob (DShs nodeS N0)→∀ (R:List DV→Prop),let N6:=(x25≥x33→Ob (R [vb false]));let N5:=(R [vb !true]);let N4:=(R [vb !false]);let N3:=(R [vb !decide ((-1:Int)≥(0:Int))]);Ob (∀ (res:List DV),res=[vb (decide (Bb N0 x33))]→R res)→∀ x35:Int,x35=l27.length→(x35>0→Ob (LSh [s64] l27∧(0:Nat)<l27.length)∧(mxN l27 N8≥x33→Ob (R [vb false]))∧(¬mxN l27 N8≥x33→(b24=true→N6∧(¬x25≥x33→∀ x36:Int,x36=l32.length→Ob N2∧∀ (g37:NV) (x38:Int),Ob (0≤x38∧upto N1 x38)→(x38<x36→Ob (0≤x38∧x38<l32.length)∧Ob N7∧∀ x39 x40,Ob (l32[x38.toNat]?=some [dn x39,dn x40])→(x40≥x33→(x38≥0→Ob N5)∧(¬x38≥0→Ob N4))∧(¬x40≥x33→∀ x41:Int,x41=w64 (x38+1)→Ob (0≤x41∧upto N1 x41)∧Ob (l32.length-x41.toNat<l32.length-x38.toNat)))∧(¬x38<x36→Ob N3)))∧(b24=false→∀ x42:Int,x42=l32.length→Ob N2∧∀ (g43:NV) (x44:Int),Ob (0≤x44∧upto N1 x44)→(x44<x42→Ob (0≤x44∧x44<l32.length)∧Ob N7∧∀ x45 x46,Ob (l32[x44.toNat]?=some [dn x45,dn x46])→(x46≥x33→(x44≥0→Ob N5)∧(¬x44≥0→Ob N4))∧(¬x46≥x33→∀ x47:Int,x47=w64 (x44+1)→Ob (0≤x47∧upto N1 x47)∧Ob (l32.length-x47.toNat<l32.length-x44.toNat)))∧(¬x44<x42→Ob N3))))∧(¬x35>0→(b24=true→N6∧(¬x25≥x33→∀ x48:Int,x48=l32.length→Ob N2∧∀ (g49:NV) (x50:Int),Ob (0≤x50∧upto N1 x50)→(x50<x48→Ob (0≤x50∧x50<l32.length)∧Ob N7∧∀ x51 x52,Ob (l32[x50.toNat]?=some [dn x51,dn x52])→(x52≥x33→(x50≥0→Ob N5)∧(¬x50≥0→Ob N4))∧(¬x52≥x33→∀ x53:Int,x53=w64 (x50+1)→Ob (0≤x53∧upto N1 x53)∧Ob (l32.length-x53.toNat<l32.length-x50.toNat)))∧(¬x50<x48→Ob N3)))∧(b24=false→∀ x54:Int,x54=l32.length→Ob N2∧∀ (g55:NV) (x56:Int),Ob (0≤x56∧upto N1 x56)→(x56<x54→Ob (0≤x56∧x56<l32.length)∧Ob N7∧∀ x57 x58,Ob (l32[x56.toNat]?=some [dn x57,dn x58])→(x58≥x33→(x56≥0→Ob N5)∧(¬x56≥0→Ob N4))∧(¬x58≥x33→∀ x59:Int,x59=w64 (x56+1)→Ob (0≤x59∧upto N1 x59)∧Ob (l32.length-x59.toNat<l32.length-x56.toNat)))∧(¬x56<x54→Ob N3)))
theorem Aiq:Afw:=by
  delta Afw
  simp only [Ac,and_imp,List.cons_append,List.nil_append,Ab,Af,Ai,Ah,Ak,rng64,rng32,true_and,and_true,List.cons.injEq,DV.c.injEq,DV.a.injEq,D.raw.injEq,D.fs.injEq,Value.bool.injEq,Value.int.injEq]
  repeat' first | assumption | exact DShs.tail (Aa (by assumption) (by assumption)) | exact shp32 (by assumption) | exact shp64 (by assumption) | exact shp2 (by assumption) | exact shpF (by assumption) | with_reducible intro _ | with_reducible apply And.intro
  all_goals (try (have e:=Ae ‹_=w64 (_+1)› (by omega) (by omega);subst e))
  all_goals (try (have e:=Fk ‹_=w64 (_-1)› (by omega) (by omega);subst e))
  all_goals first
    | assumption
    | (exact fun i hi=>by omega)
    | omega
    | exact shp64 (by assumption)
    | exact shp2 (by assumption)
    | (rw [Ag (by omega)];exact ⟨by assumption,(A0e (by assumption)).2 (by omega)⟩)
    | (apply ‹∀ res:List DV,_=_→_›;exact Ayh (by assumption) (by assumption))
    | (apply ‹∀ res:List DV,_=_→_›;exact As7 (l:=gL _ 27) (by assumption) (by omega) (by assumption) (by assumption) (by assumption) rfl)
    | (apply ‹∀ res:List DV,_=_→_›;exact Ayk (by assumption) (by assumption) (by assumption) (by assumption) (by assumption))
    | (apply ‹∀ res:List DV,_=_→_›;exact Aru (by assumption) (by omega) (by assumption) (by assumption) (by assumption) (Awj (by assumption)))
    | (apply ‹∀ res:List DV,_=_→_›;exact Aru (by assumption) (by omega) (by assumption) (by assumption) (by assumption) (Akk (by assumption)))
    | (apply ‹∀ res:List DV,_=_→_›;exact Arv (by assumption) (by omega) (by assumption) (by assumption) (by assumption) (by assumption) (by assumption) (by assumption) (Awj (by assumption)))
    | (apply ‹∀ res:List DV,_=_→_›;exact Arv (by assumption) (by omega) (by assumption) (by assumption) (by assumption) (by assumption) (by assumption) (by assumption) (Akk (by assumption)))
    | (apply ‹∀ res:List DV,_=_→_›;exact A0g (by assumption) (by omega) rfl (by assumption))
    | (apply ‹∀ res:List DV,_=_→_›;exact Ayl (by assumption) (by omega) rfl (by assumption) (by assumption) (by assumption) (by assumption) (Awj (by assumption)))
    | (apply ‹∀ res:List DV,_=_→_›;exact Ayl (by assumption) (by omega) rfl (by assumption) (by assumption) (by assumption) (by assumption) (Akk (by assumption)))
    | skip
theorem Aov:Con TP k0 174 All:=Ad [(239,Uw)] [(174001284034564104,0,some ⟨[0,1,7],[8],[],[kn],[],fun ρ ds=>0≤ni ds 0∧upto (ltN (ρ.d 32) 1 (ρ.n 33)) (ni ds 0),fun ρ ds=>(ρ.d 32).length-(ni ds 0).toNat,none⟩)] [] [(239,Vz)] 3000 ⟨Acn,trivial⟩ ⟨fnq rfl rfl,trivial⟩ Go.Proofs.Tryz.func174 rfl rfl rfl rfl Afw (by kernel_rfl) Aiq
end Go.Vc

namespace Go.Vc
open Classical
def As2 (aa:List DV):List DV:=[vb (decide (Er (ai aa 0) (ni aa 1) (ai aa 2)))]
def Ash:ConT:=⟨[rkS worldS,kn,rkS nodeS],[kb],fun aa=>DShs worldS (ai aa 0)∧DShs nodeS (ai aa 2),fun aa rs=>rs=As2 aa⟩
def Api:Prop:=∀ (x0 x1 x2 x3:Int) (l4 l5 l6 l7 l8:LL) (x9 x10 x11 x12:Int) (b13:Bool) (x14 x15 x16 x17 x18:Int) (b19:Bool) (l20:LL) (x21:Int) (b22:Bool) (l23:LL) (x24:Int) (b25:Bool) (l26:LL) (x27:Int) (b28:Bool) (l29:LL) (x30:Int) (b31:Bool) (x32 x33:Int) (l34:LL) (b35:Bool) (x36 x37:Int) (l38:LL) (x39 x40:Int) (l41 l42 l43:LL),let N1:=[dn x0,dn x1,dn x2,dn x3,D.fs l4,D.fs l5,D.fs l6,D.fs l7,D.fs l8,dn x9];let N0:=[dn x11,dn x12,db b13,dn x14,dn x15,dn x16,dn x17,dn x18,db b19,D.fs l20,dn x21,db b22,D.fs l23,dn x24,db b25,D.fs l26,dn x27,db b28,D.fs l29,dn x30,db b31,dn x32,dn x33,D.fs l34,db b35,dn x36,dn x37,D.fs l38,dn x39,dn x40,D.fs l41,D.fs l42,D.fs l43];Ob (DShs worldS N1∧DShs nodeS N0)→∀ (R:List DV→Prop),let N2:=(R [vb false]);Ob (∀ (res:List DV),res=[vb (decide (Er N1 x10 N0))]→R res)→Ob (DShs nodeS N0)∧∀ x45,Ob ([vn x45]=[vn (if Au N0 then (0:Int) else (8:Int))])→(x45≠0→Ob N2)∧(¬x45≠0→(x11≠x10→Ob N2)∧(¬x11≠x10→Ob (DShs nodeS N0)∧∀ b46,Ob ([vb b46]=[vb (decide (Bb N0 x9))])→(b46=false→Ob N2)∧(¬b46=false→(b13=false→Ob (R [vb true]))∧(¬b13=false→(x14=x1→(x40=x3→Ob (R [vb true]))∧(¬x40=x3→Ob N2))∧(¬x14=x1→Ob N2)))))
theorem Akn:Api:=by
  delta Api
  simp only [Ac,and_imp,List.cons_append,List.nil_append,rng64,rng32,true_and,and_true,List.cons.injEq,DV.c.injEq,DV.a.injEq,D.raw.injEq,D.fs.injEq,Value.bool.injEq,Value.int.injEq]
  repeat' first | assumption | exact DShs.tail (Aa (by assumption) (by assumption)) | exact shp32 (by assumption) | exact shp64 (by assumption) | exact shp2 (by assumption) | exact shpF (by assumption) | with_reducible intro _ | with_reducible apply And.intro
  all_goals first
    | assumption
    | omega
    | (apply ‹∀ res:List DV,_=_→_›;exact A0a (by assumption) (by assumption))
    | (apply ‹∀ res:List DV,_=_→_›;exact Az9 (by assumption))
    | (apply ‹∀ res:List DV,_=_→_›;exact Az8 (by assumption) (by assumption))
    | (apply ‹∀ res:List DV,_=_→_›;exact Az7 (by assumption) (by assumption))
    | (apply ‹∀ res:List DV,_=_→_›;exact Az6 (by assumption) (by assumption))
    | (apply ‹∀ res:List DV,_=_→_›;exact A00 (by assumption) (by assumption) (by assumption) (by assumption) (by assumption) (Ay5 (by assumption)))
    | (apply ‹∀ res:List DV,_=_→_›;exact A00 (by assumption) (by assumption) (by assumption) (by assumption) (by assumption) (fun _=>⟨by assumption,by assumption⟩))
    | skip
theorem Ar3:Con TP k0 80 Ash:=Ad [(40,Nf),(174,All)] [] [] [(40,Nv),(174,Anv)] 3000 ⟨Uq,Aov,trivial⟩ ⟨fnq rfl rfl,fnq rfl rfl,trivial⟩ Go.Proofs.Tryz.func80 rfl rfl rfl rfl Api (by kernel_rfl) Akn
end Go.Vc

namespace Go.Vc
open Classical
def Rx (aa:List DV):List DV:=if Bg (li aa 0)=0 then [vn (cntC (li aa 0) (ni aa 1) (li aa 0).length),vn 0] else [vn 0,vn (Bg (li aa 0))]
def Qf:ConT:=⟨[kl,kn],[kn,kn],fun aa=>LSh copyS (li aa 0),fun aa rs=>rs=Rx aa⟩
def Jm:Prop:=∀ (l0:LL) (x1:Int),Ob (LSh copyS l0)→∀ (R:List DV→Prop),Ob (∀ (res:List DV),(res=if Bg l0=(0:Int) then [vn (cntC l0 x1 (l0.length)),vn 0] else [vn 0,vn (Bg l0)])→R res)→Ob (LSh copyS l0)∧∀ x3,Ob ([vn x3]=[vn (Bg l0)])→(x3≠0→Ob (R [vn 0,vn x3]))∧(¬x3≠0→∀ x4:Int,x4=l0.length→Ob ((0:Int)≤(0:Int)∧(0:Int)≤(l0.length:Int)∧(0:Int)=cntC l0 x1 (Int.toNat (0:Int)))∧∀ (g5:NV) (x6 x7:Int),Ob (0≤x6∧x6≤l0.length∧x7=cntC l0 x1 (x6.toNat))→(x6<x4→Ob (0≤x6∧x6<l0.length)∧Ob (Shp kC l0)∧∀ x8 x9 l10 b11,Ob (l0[x6.toNat]?=some [dn x8,dn x9,D.fs l10,db b11])→(x8=x1→∀ x12:Int,x12=w64 (x7+1)→∀ x13:Int,x13=w64 (x6+1)→Ob (0≤x13∧x13≤l0.length∧x12=cntC l0 x1 (x13.toNat))∧Ob (l0.length-x13.toNat<l0.length-x6.toNat))∧(¬x8=x1→∀ x14:Int,x14=w64 (x6+1)→Ob (0≤x14∧x14≤l0.length∧x7=cntC l0 x1 (x14.toNat))∧Ob (l0.length-x14.toNat<l0.length-x6.toNat)))∧(¬x6<x4→Ob (R [vn x7,vn 0])))
theorem Uc:Jm:=by
  delta Jm
  simp only [Ac,and_imp,true_and,and_true,List.cons.injEq,DV.c.injEq,DV.a.injEq,D.raw.injEq,D.fs.injEq,Value.bool.injEq,Value.int.injEq]
  repeat' first | assumption | exact DShs.tail (Aa (by assumption) (by assumption)) | exact shp32 (by assumption) | exact shp64 (by assumption) | exact shp2 (by assumption) | exact shpF (by assumption) | with_reducible intro _ | with_reducible apply And.intro
  all_goals (try (have e:=Ae ‹_=w64 (_+1)› (by omega) (by omega);subst e))
  all_goals (try (obtain rfl:=‹_=Bg _›))
  all_goals first
    | assumption
    | omega
    | exact As9
    | exact shpCo (by assumption)
    | exact Ahq (by assumption) (by assumption) (by assumption) (by omega) (by omega) (by assumption) (by assumption)
    | exact Aox (by assumption) (by assumption) (by assumption) (by assumption)
    | (apply ‹∀ res:List DV,_=_→_›;rw [if_neg (by assumption)])
    | (apply ‹∀ res:List DV,_=_→_›;rw [if_pos (by omega)];exact congrArg (fun z=>[vn z,vn 0]) (Ahr (by assumption) (by assumption) (by omega) (by omega)))
    | skip
theorem Zo:Con TP k0 83 Qf:=Ad [(77,Gk)] [(83000,0,some ⟨[1,14,15],[16,4],[],[kn,kn],[],fun ρ ds=>0≤ni ds 0∧ni ds 0≤(ρ.d 0).length∧ni ds 1=cntC (ρ.d 0) (ρ.n 1) (ni ds 0).toNat,fun ρ ds=>(ρ.d 0).length-(ni ds 0).toNat,none⟩)] [] [(77,Gq)] 3000 ⟨Ii,trivial⟩ ⟨fnq rfl rfl,trivial⟩ Go.Proofs.Tryz.func83 rfl rfl rfl rfl Jm (by kernel_rfl) Uc
end Go.Vc

namespace Go.Vc
open Classical
def No (aa:List DV):List DV:=[vn (if Ap (ai aa 0) then 0 else 8)]
def Mx:ConT:=⟨[rkS worldS],[kn],fun aa=>DShs worldS (ai aa 0),fun aa rs=>rs=No aa⟩
def Gw:Prop:=let N1:=((0:Nat)<(1:Nat));∀ (x0 x1 x2 x3:Int) (l4 l5 l6 l7 l8:LL) (x9:Int),let N10:=(LSh copyS l5);let N9:=(Ds x0 l8);let N8:=(ltN l5 (0:Nat) x9);let N0:=[dn x0,dn x1,dn x2,dn x3,D.fs l4,D.fs l5,D.fs l6,D.fs l7,D.fs l8,dn x9];let N7:=(true=false↔okB N0);let N6:=((0:Int)≤(0:Int)∧upto (Ga N0) (0:Int));let N3:=(true=false↔okA N0);Ob (DShs worldS N0)→∀ (R:List DV→Prop),Ob (∀ (res:List DV),res=[vn (if Ap N0 then (0:Int) else (8:Int))]→R res)→((x0≥1→(x0≤8→(x1≥1→(x1≤64→(x2≥1→(x2≤64→(x3≥1→(x3≤6→∀ x11:Int,x11=l4.length→(x11≠x0→Ob N3∧Ob N1)∧(¬x11≠x0→(x9≥0→(x9≤1048575→∀ x12:Int,x12=l8.length→(x12>1024→Ob N3∧Ob N1)∧(¬x12>1024→∀ x13:Int,x13=l8.length→Ob ((0:Int)≤(0:Int)∧upto N9 (0:Int))∧∀ (g14:NV) (x15:Int),let N5:=(x15≥0→Ob N3∧Ob N1);let N4:=(¬x15≥0→Ob (false=false↔okA N0)∧Ob N1);Ob (0≤x15∧upto N9 x15)→(x15<x13→Ob (0≤x15∧x15<l8.length)∧Ob (Shp kS l8)∧∀ x16 x17 x18,Ob (l8[x15.toNat]?=some [dn x16,dn x17,dn x18])→(x16≥0→(x16≤65535→∀ x19:Int,x19=w64 (x0-1)→(x17≥0→(x17≤x19→(x18≥-2147483647→(x18≤2147483647→∀ x20:Int,x20=w64 (x15+1)→Ob (0≤x20∧upto N9 x20)∧Ob (l8.length-x20.toNat<l8.length-x15.toNat))∧(¬x18≤2147483647→N5∧N4))∧(¬x18≥-2147483647→N5∧N4))∧(¬x17≤x19→N5∧N4))∧(¬x17≥0→N5∧N4))∧(¬x16≤65535→N5∧N4))∧(¬x16≥0→N5∧N4))∧(¬x15<x13→Ob (decide ((-1:Int)≥(0:Int))=false↔okA N0)∧Ob N1)))∧(¬x9≤1048575→Ob N3∧Ob N1))∧(¬x9≥0→Ob N3∧Ob N1)))∧(¬x3≤6→Ob N3∧Ob N1))∧(¬x3≥1→Ob N3∧Ob N1))∧(¬x2≤64→Ob N3∧Ob N1))∧(¬x2≥1→Ob N3∧Ob N1))∧(¬x1≤64→Ob N3∧Ob N1))∧(¬x1≥1→Ob N3∧Ob N1))∧(¬x0≤8→Ob N3∧Ob N1))∧(¬x0≥1→Ob N3∧Ob N1))∧∀ (g21:NV) (b22:Bool),Ob (b22=false↔okA N0)→(b22=true→Ob (R [vn 8]))∧(b22=false→(Ob N10∧∀ x23,Ob ([vn x23]=[vn (Bg l5)])→(x23≠0→Ob N7∧Ob N1)∧(¬x23≠0→Ob (LSh loadS l6)∧∀ x24,Ob ([vn x24]=[vn (Dq l6)])→(x24≠0→Ob N7∧Ob N1)∧(¬x24≠0→Ob (LSh entryS l7)∧∀ x25,Ob ([vn x25]=[vn (Ci l7)])→(x25≠0→Ob N7∧Ob N1)∧(¬x25≠0→Ob (false=false↔okB N0)∧Ob N1))))∧∀ (g26:NV) (b27:Bool),Ob (b27=false↔okB N0)→(b27=true→Ob (R [vn 8]))∧(b27=false→∀ x28:Int,x28=l4.length→Ob ((0:Int)≤(0:Int)∧upto (Ck N0) (0:Int))∧∀ (g29:NV) (x30:Int),Ob (0≤x30∧upto (Ck N0) x30)→(x30<x28→Ob (0≤x30∧x30<l4.length)∧Ob (Shp kN l4)∧∀ x31 x32 b33 x34 x35 x36 x37 x38 b39 l40 x41 b42 l43 x44 b45 l46 x47 b48 l49 x50 b51 x52 x53 l54 b55 x56 x57 l58 x59 x60 l61 l62 l63,let N2:=[dn x31,dn x32,db b33,dn x34,dn x35,dn x36,dn x37,dn x38,db b39,D.fs l40,dn x41,db b42,D.fs l43,dn x44,db b45,D.fs l46,dn x47,db b48,D.fs l49,dn x50,db b51,dn x52,dn x53,D.fs l54,db b55,dn x56,dn x57,D.fs l58,dn x59,dn x60,D.fs l61,D.fs l62,D.fs l63];Ob (l4[x30.toNat]?=some N2)→Ob (DShs worldS N0∧DShs nodeS N2)∧∀ b64,Ob ([vb b64]=[vb (decide (Er N0 x30 N2))])→(b64=false→Ob (R [vn 8]))∧(¬b64=false→∀ x65:Int,x65=w64 (x30+1)→Ob (0≤x65∧upto (Ck N0) x65)∧Ob (l4.length-x65.toNat<l4.length-x30.toNat)))∧(¬x30<x28→∀ x66:Int,x66=l5.length→Ob ((0:Int)≤(0:Int)∧upto N8 (0:Int))∧∀ (g67:NV) (x68:Int),Ob (0≤x68∧upto N8 x68)→(x68<x66→Ob (0≤x68∧x68<l5.length)∧Ob (Shp kC l5)∧∀ x69 x70 l71 b72,Ob (l5[x68.toNat]?=some [dn x69,dn x70,D.fs l71,db b72])→(x69≥x9→(x68≥0→Ob (R [vn 8]))∧(¬x68≥0→∀ x73:Int,x73=l6.length→Ob N6∧∀ (g74:NV) (x75:Int),Ob (0≤x75∧upto (Ga N0) x75)→(x75<x73→Ob (0≤x75∧x75<l6.length)∧Ob (Shp kL l6)∧∀ x76 x77 x78 b79 l80 x81 b82 l83 x84 b85 l86 x87 b88 l89 x90,Ob (l6[x75.toNat]?=some [dn x76,dn x77,dn x78,db b79,D.fs l80,dn x81,db b82,D.fs l83,dn x84,db b85,D.fs l86,dn x87,db b88,D.fs l89,dn x90])→Ob N10∧∀ x91 x92,Ob ([vn x91,vn x92]=if Bg l5=(0:Int) then [vn (cntC l5 x76 (l5.length)),vn 0] else [vn 0,vn (Bg l5)])→(x76≥x9→Ob (R [vn 8]))∧(¬x76≥x9→(x91≠x78→Ob (R [vn 8]))∧(¬x91≠x78→∀ x93:Int,x93=w64 (x75+1)→Ob (0≤x93∧upto (Ga N0) x93)∧Ob (l6.length-x93.toNat<l6.length-x75.toNat))))∧(¬x75<x73→Ob (R [vn 0]))))∧(¬x69≥x9→∀ x94:Int,x94=w64 (x68+1)→Ob (0≤x94∧upto N8 x94)∧Ob (l5.length-x94.toNat<l5.length-x68.toNat)))∧(¬x68<x66→∀ x95:Int,x95=l6.length→Ob N6∧∀ (g96:NV) (x97:Int),Ob (0≤x97∧upto (Ga N0) x97)→(x97<x95→Ob (0≤x97∧x97<l6.length)∧Ob (Shp kL l6)∧∀ x98 x99 x100 b101 l102 x103 b104 l105 x106 b107 l108 x109 b110 l111 x112,Ob (l6[x97.toNat]?=some [dn x98,dn x99,dn x100,db b101,D.fs l102,dn x103,db b104,D.fs l105,dn x106,db b107,D.fs l108,dn x109,db b110,D.fs l111,dn x112])→Ob N10∧∀ x113 x114,Ob ([vn x113,vn x114]=if Bg l5=(0:Int) then [vn (cntC l5 x98 (l5.length)),vn 0] else [vn 0,vn (Bg l5)])→(x98≥x9→Ob (R [vn 8]))∧(¬x98≥x9→(x113≠x100→Ob (R [vn 8]))∧(¬x113≠x100→∀ x115:Int,x115=w64 (x97+1)→Ob (0≤x115∧upto (Ga N0) x115)∧Ob (l6.length-x115.toNat<l6.length-x97.toNat))))∧(¬x97<x95→Ob (R [vn 0]))))))
theorem Pd:Gw:=by
  delta Gw
  simp only [Ac,and_imp,forall_exists_index,true_and,and_true,List.cons.injEq,DV.c.injEq,DV.a.injEq,D.raw.injEq,D.fs.injEq,Value.bool.injEq,Value.int.injEq]
  intro x0 x1 x2 x3 l4 l5 l6 l7 l8 x9 hs R hR
  have hs2:=hs
  simp only [Ab,Af,Ai,Ak,rng64,true_and,and_true] at hs2
  obtain ⟨k0,k1,k2,k3,⟨k4,k5⟩,⟨k6,k7⟩,⟨k8,k9⟩,⟨k10,k11⟩,⟨k12,k13⟩,k14⟩:=hs2
  repeat' first | assumption | exact DShs.tail (Aa (by assumption) (by assumption)) | exact shp32 (by assumption) | exact shp64 (by assumption) | exact shp2 (by assumption) | exact shpF (by assumption) | with_reducible intro _ | with_reducible apply And.intro
  all_goals (try (have e:=Ae ‹_=w64 (_+1)› (by omega) (by omega);subst e))
  all_goals first
    | assumption
    | (exact fun i hi=>by omega)
    | omega
    | exact Aa (by assumption) (by assumption)
    | exact shpS (by assumption)
    | exact Gi (A1u (by assumption))
    | exact Gi (A1t (by assumption))
    | exact Gi (A1s (by assumption))
    | exact Gi (A1r (by assumption))
    | exact Gi (A1q (by assumption))
    | exact Gi (A1p (by assumption))
    | exact Gi (A1o (by assumption))
    | exact Gi (A1n (by assumption))
    | exact Gi (A1m (by assumption) (by assumption))
    | exact Gi (Azu (by assumption))
    | exact Gi (Azt (by assumption))
    | exact Gi (Azv (by assumption) (by assumption))
    | exact Gi (Ai8 (A1a (by assumption) (by assumption)) (by assumption) (by assumption) (by assumption))
    | exact Gi (Ai8 (A09 (by assumption) (by assumption)) (by assumption) (by assumption) (by assumption))
    | exact Gi (Ai8 (A08 (by assumption) (by assumption)) (by assumption) (by assumption) (by assumption))
    | exact Gi (Ai8 (A07 (by assumption) (by assumption) (by assumption) (by assumption) (by assumption)) (by assumption) (by assumption) (by assumption))
    | exact Gi (Ai8 (A06 (by assumption) (by assumption)) (by assumption) (by assumption) (by assumption))
    | exact Gi (Ai8 (A05 (by assumption) (by assumption)) (by assumption) (by assumption) (by assumption))
    | (rw [Ag (by omega)];exact ⟨by assumption,A04 (by assumption) (by assumption) (by assumption) (by assumption) (by assumption) (by assumption) (by assumption) (by assumption) (by assumption) (by assumption)⟩)
    | exact Axu (Azm (by assumption) (by assumption) (by assumption) (by assumption) (by assumption) (by assumption) (by assumption) (by assumption) (by assumption) (by assumption) (by assumption) (by assumption) (by assumption) (by assumption) (by assumption) (by assumption) (by assumption))
    | exact Ave (A1l (by assumption) (by assumption))
    | exact Ave (A1k (by assumption) (by assumption))
    | exact Ave (A1j (by assumption) (by assumption))
    | exact jB_yes (Abw (by assumption) (by assumption) (by assumption) (by assumption) (by assumption) (by assumption))
    | exact A1w (Abw (by assumption) (by assumption) (by assumption) (by assumption) (by assumption) (by assumption))
    | exact hR _ (At8 Az (Az1 (by assumption) (Az4 (by assumption) (by assumption)) (by assumption) (by assumption)) (by assumption) (by assumption) (by assumption))
    | (rw [Ag (by omega)];exact ⟨by assumption,Az0 (by assumption) (Az4 (by assumption) (by assumption)) (by assumption) (by assumption) (by assumption)⟩)
    | exact shpNo (by assumption)
    | exact shpCo (by assumption)
    | exact shpLo (by assumption)
    | (rw [Ag (by omega)];exact ⟨by assumption,As0 (by assumption) (by assumption) ‹_=decide (Au _)› (by assumption) (by assumption) (by assumption) (by assumption) (by assumption)⟩)
    | (rw [Ag (by omega)];exact ⟨by assumption,Asz (by assumption) (by assumption) ‹_=decide (Au _)› (by assumption) (by assumption) (by assumption) (by assumption) (by assumption) (by assumption)⟩)
    | (rw [Ag (by omega)];exact ⟨by assumption,Asy (by assumption) (by assumption) (by assumption) (by assumption)⟩)
    | (rw [Ag (by omega)];exact ⟨by assumption,Axq (by assumption) (by assumption)⟩)
    | (rw [Ag (by omega)];exact ⟨by assumption,Azz (by assumption) (by assumption) (by assumption) (by assumption) (by assumption)⟩)
    | (have z:=Abx ‹_=decide (Au _)› (by assumption);exact z)
    | exact hR _ (Aui Az (by assumption))
    | exact hR _ (Auh Az (by assumption))
    | exact hR _ (Aug Az (by assumption))
    | exact hR _ (Auf Az (by assumption))
    | exact hR _ (Aue Az (by assumption))
    | exact hR _ (Aud Az (by assumption))
    | exact hR _ (Auc Az (by assumption))
    | exact hR _ (Aub Az (by assumption))
    | exact hR _ (Aua Az (by assumption))
    | exact hR _ (At9 Az (by assumption))
    | exact hR _ (Azh Az (by assumption) (by assumption))
    | exact hR _ (Azg Az (decN ‹_=decide (Kh _)› (by assumption)))
    | exact hR _ (Azf Az (by assumption) (by assumption))
    | exact hR _ (Aze Az (by assumption) (by assumption))
    | exact hR _ (Azd Az (by assumption) (by assumption))
    | exact hR _ (Azb Az (by assumption) (by assumption))
    | exact hR _ (Aza Az (by assumption) (by assumption))
    | exact hR _ (Aal Az (Anb (by assumption) (by assumption) ‹_=decide (Au _)› (by assumption)) (by assumption) (by assumption) (by assumption))
    | exact hR _ (Aal Az (Ana (by assumption) (by assumption) (by assumption)) (by assumption) (by assumption) (by assumption))
    | exact hR _ (Aal Az (Am9 (by assumption) (by assumption) (by assumption) (by assumption)) (by assumption) (by assumption) (by assumption))
    | exact hR _ (Aal Az (Am8 (by assumption) (by assumption) (by assumption) (by assumption)) (by assumption) (by assumption) (by assumption))
    | exact hR _ (Aal Az (Am7 (by assumption) (by assumption) (by assumption) (by assumption)) (by assumption) (by assumption) (by assumption))
    | exact hR _ (Aal Az (Am6 (by assumption) (by assumption) (by assumption) (by assumption)) (by assumption) (by assumption) (by assumption))
    | exact hR _ (Azc Az (Au6 (by assumption) (by assumption)) (by assumption) (by assumption) (by assumption))
    | exact hR _ (At8 Az (Au8 (by assumption) (by assumption)) (by assumption) (by assumption) (by assumption))
    | exact hR _ (At8 Az (Arf (by assumption) (by assumption) (by assumption)) (by assumption) (by assumption) (by assumption))
    | exact hR _ (Akg Az (by assumption) (by assumption) (by assumption) (by assumption) (by assumption) (by assumption) (by assumption) (by assumption) (by assumption) (by assumption) (by assumption))
    | exact hR _ (Akg Az (by assumption) (Abw (by assumption) (by assumption) (by assumption) (by assumption) (by assumption) (by assumption)) (by assumption) (by assumption) (by assumption) (by assumption) (by assumption) (by assumption) (by assumption) (by assumption) (by assumption))
    | exact hR _ (Akg Az (Ai3 (by assumption) (by assumption) (by assumption) (by assumption) (by assumption) (by assumption) (by assumption) (by assumption) (by assumption) (by assumption) (by assumption) (by assumption) (by assumption) (by assumption)) (by assumption) (by assumption) (by assumption) (by assumption) (by assumption) (by assumption) (by assumption) (by assumption) (by assumption) (by assumption))
    | exact hR _ (Akg Az (Ai3 (by assumption) (by assumption) (by assumption) (by assumption) (by assumption) (by assumption) (by assumption) (by assumption) (by assumption) (by assumption) (by assumption) (by assumption) (by assumption) (by assumption)) (Abw (by assumption) (by assumption) (by assumption) (by assumption) (by assumption) (by assumption)) (by assumption) (by assumption) (by assumption) (by assumption) (by assumption) (by assumption) (by assumption) (by assumption) (by assumption))
    | exact hR _ (Aui Az (by assumption))
    | exact hR _ (Auh Az (by assumption))
    | exact hR _ (Aug Az (by assumption))
    | exact hR _ (Auf Az (by assumption))
    | exact hR _ (Aue Az (by assumption))
    | exact hR _ (Aud Az (by assumption))
    | exact hR _ (Auc Az (by assumption))
    | exact hR _ (Aub Az (by assumption))
    | exact hR _ (Aua Az (by assumption))
    | exact hR _ (At9 Az (by assumption))
    | exact hR _ (Azh Az (by assumption) (by assumption))
    | exact hR _ (Azg Az (decN ‹_=decide (Kh _)› (by assumption)))
    | exact hR _ (Azf Az (by assumption) (by assumption))
    | exact hR _ (Aze Az (by assumption) (by assumption))
    | exact hR _ (Azd Az (by assumption) (by assumption))
    | exact hR _ (Azb Az (by assumption) (by assumption))
    | exact hR _ (Aza Az (by assumption) (by assumption))
    | exact hR _ (Aal Az (Anb (by assumption) (by assumption) ‹_=decide (Au _)› (by assumption)) (by assumption) (by assumption) (by assumption))
    | exact hR _ (Aal Az (Ana (by assumption) (by assumption) (by assumption)) (by assumption) (by assumption) (by assumption))
    | exact hR _ (Aal Az (Am9 (by assumption) (by assumption) (by assumption) (by assumption)) (by assumption) (by assumption) (by assumption))
    | exact hR _ (Aal Az (Am8 (by assumption) (by assumption) (by assumption) (by assumption)) (by assumption) (by assumption) (by assumption))
    | exact hR _ (Aal Az (Am7 (by assumption) (by assumption) (by assumption) (by assumption)) (by assumption) (by assumption) (by assumption))
    | exact hR _ (Aal Az (Am6 (by assumption) (by assumption) (by assumption) (by assumption)) (by assumption) (by assumption) (by assumption))
    | exact hR _ (Azc Az (Au6 (by assumption) (by assumption)) (by assumption) (by assumption) (by assumption))
    | exact hR _ (At8 Az (Au8 (by assumption) (by assumption)) (by assumption) (by assumption) (by assumption))
    | exact hR _ (At8 Az (Arf (by assumption) (by assumption) (by assumption)) (by assumption) (by assumption) (by assumption))
    | exact hR _ (Akg Az (A1v (by assumption) (by assumption)) (Az4 (by assumption) (by assumption)) (by assumption) (by assumption) (by assumption) (by assumption) (by assumption) (by assumption) (by assumption) (by assumption) (by assumption))
    | exact hR _ (Akg Az (by assumption) (Abw (by assumption) (by assumption) (by assumption) (by assumption) (by assumption) (by assumption)) (by assumption) (by assumption) (by assumption) (by assumption) (by assumption) (by assumption) (by assumption) (by assumption) (by assumption))
    | exact hR _ (Akg Az (Ai3 (by assumption) (by assumption) (by assumption) (by assumption) (by assumption) (by assumption) (by assumption) (by assumption) (by assumption) (by assumption) (by assumption) (by assumption) (by assumption) (by assumption)) (by assumption) (by assumption) (by assumption) (by assumption) (by assumption) (by assumption) (by assumption) (by assumption) (by assumption) (by assumption))
    | exact hR _ (Akg Az (Ai3 (by assumption) (by assumption) (by assumption) (by assumption) (by assumption) (by assumption) (by assumption) (by assumption) (by assumption) (by assumption) (by assumption) (by assumption) (by assumption) (by assumption)) (Abw (by assumption) (by assumption) (by assumption) (by assumption) (by assumption) (by assumption)) (by assumption) (by assumption) (by assumption) (by assumption) (by assumption) (by assumption) (by assumption) (by assumption) (by assumption))
    | skip
theorem Uj:Con TP k0 18 Mx:=Ad [(77,Gk),(78,Jw),(79,Jv),(80,Ash),(83,Qf)] [(18000,310000,none),(18000,500001,some ⟨[1,2],[42],[],[kb],[],fun ρ ds=>(bi ds 0=false↔okA [dn (ρ.n 0),dn (ρ.n 1),dn (ρ.n 2),dn (ρ.n 3), .fs (ρ.d 4), .fs (ρ.d 5), .fs (ρ.d 6), .fs (ρ.d 7), .fs (ρ.d 8),dn (ρ.n 9)]),fun ρ ds=>0,none⟩),(18000,500003,some ⟨[1,2],[58],[],[kb],[],fun ρ ds=>(bi ds 0=false↔okB [dn (ρ.n 0),dn (ρ.n 1),dn (ρ.n 2),dn (ρ.n 3), .fs (ρ.d 4), .fs (ρ.d 5), .fs (ρ.d 6), .fs (ρ.d 7), .fs (ρ.d 8),dn (ρ.n 9)]),fun ρ ds=>0,none⟩),(18000,300001,some ⟨[0,1,2,3,4,5,6,7,8,9,10,11,12,13,14,15,16,17,18,19,20,21,22,23,24,25,28,29,30,31,26,27,32,33],[],[],[],[],fun _ _=>True,fun _ _=>0,none⟩),(18000183042554134,0,some ⟨[0,1,7],[8],[],[kn],[],fun ρ ds=>0≤ni ds 0∧upto (Ds (ρ.n 0) (ρ.d 8)) (ni ds 0),fun ρ ds=>(ρ.d 8).length-(ni ds 0).toNat,none⟩),(18000,0,some ⟨[1,60,61],[62],[],[kn],[],fun ρ ds=>0≤ni ds 0∧upto (Ck [dn (ρ.n 0),dn (ρ.n 1),dn (ρ.n 2),dn (ρ.n 3), .fs (ρ.d 4), .fs (ρ.d 5), .fs (ρ.d 6), .fs (ρ.d 7), .fs (ρ.d 8),dn (ρ.n 9)]) (ni ds 0),fun ρ ds=>(ρ.d 4).length-(ni ds 0).toNat,none⟩),(18000189077580239,0,some ⟨[0,1,7],[8],[],[kn],[],fun ρ ds=>0≤ni ds 0∧upto (ltN (ρ.d 5) 0 (ρ.n 9)) (ni ds 0),fun ρ ds=>(ρ.d 5).length-(ni ds 0).toNat,none⟩),(18000,2,some ⟨[1,78,79],[80],[],[kn],[],fun ρ ds=>0≤ni ds 0∧upto (Ga [dn (ρ.n 0),dn (ρ.n 1),dn (ρ.n 2),dn (ρ.n 3), .fs (ρ.d 4), .fs (ρ.d 5), .fs (ρ.d 6), .fs (ρ.d 7), .fs (ρ.d 8),dn (ρ.n 9)]) (ni ds 0),fun ρ ds=>(ρ.d 6).length-(ni ds 0).toNat,none⟩)] [] [(77,Gq),(78,Ku),(79,Ks),(80,As2),(83,Rx)] 3000 ⟨Ii,So,Sn,Ar3,Zo,trivial⟩ ⟨fnq rfl rfl,fnq rfl rfl,fnq rfl rfl,fnq rfl rfl,fnq rfl rfl,trivial⟩ Go.Proofs.Tryz.func18 rfl rfl rfl rfl Gw (by kernel_rfl) Pd
end Go.Vc
