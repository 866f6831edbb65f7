import Derived.Test.YtneooimijbfmgaaGreatProg
import Derived.KernelRfl
import Derived.Test.YtneooimijbfmgaaGreatSsAS
import Derived.Test.YtneooimijbfmgaaGreatSsAU
import Derived.Test.YtneooimijbfmgaaGreatSsAV
import Derived.Test.YtneooimijbfmgaaGreatSsAW
import Derived.Test.YtneooimijbfmgaaGreatSsAZ
import Derived.Test.YtneooimijbfmgaaGreatSsBB
set_option linter.unusedVariables false
set_option linter.unusedSimpArgs false
set_option linter.unusedSectionVars false
set_option maxHeartbeats 4000000
set_option maxRecDepth 100000
noncomputable section
namespace Go.Vc
open Classical
def Ani (aa:List DV):List DV:=[vb true]
def Ak9:ConT:=⟨[rkS nodeS,rkS nodeS],[kb],fun aa=>DShs nodeS (ai aa 0)∧eqD (ai aa 0) (ai aa 1),fun aa rs=>rs=Ani aa⟩
def Afi:Prop:=∀ (x0 x1:Int) (b2:Bool) (x3 x4 x5 x6 x7:Int) (b8:Bool) (l9:LL) (x10:Int) (b11:Bool) (l12:LL) (x13:Int) (b14:Bool) (l15:LL) (x16:Int) (b17:Bool) (l18:LL) (x19:Int) (b20:Bool) (x21 x22:Int) (l23:LL) (b24:Bool) (x25 x26:Int) (l27:LL) (x28 x29:Int) (l30 l31 l32:LL) (x33 x34:Int) (b35:Bool) (x36 x37 x38 x39 x40:Int) (b41:Bool) (l42:LL) (x43:Int) (b44:Bool) (l45:LL) (x46:Int) (b47:Bool) (l48:LL) (x49:Int) (b50:Bool) (l51:LL) (x52:Int) (b53:Bool) (x54 x55:Int) (l56:LL) (b57:Bool) (x58 x59:Int) (l60:LL) (x61 x62:Int) (l63 l64 l65:LL),let N5:=[dn x28,dn x29,D.fs l30];let N4:=(b24=b57∧x25=x58∧x26=x59);let N3:=(x3=x36∧x4=x37∧x5=x38∧x6=x39∧x7=x40);let N1:=[db b8,D.fs l9,dn x10,db b11,D.fs l12,dn x13,db b14,D.fs l15,dn x16,db b17,D.fs l18,dn x19,db b20,dn x21,dn x22,D.fs l23];let N0:=[dn x0,dn x1,db b2,dn x3,dn x4,dn x5,dn x6,dn x7,db b8,D.fs l9,dn x10,db b11,D.fs l12,dn x13,db b14,D.fs l15,dn x16,db b17,D.fs l18,dn x19,db b20,dn x21,dn x22,D.fs l23,db b24,dn x25,dn x26,D.fs l27,dn x28,dn x29,D.fs l30,D.fs l31,D.fs l32];Ob (DShs nodeS N0∧eqD N0 [dn x33,dn x34,db b35,dn x36,dn x37,dn x38,dn x39,dn x40,db b41,D.fs l42,dn x43,db b44,D.fs l45,dn x46,db b47,D.fs l48,dn x49,db b50,D.fs l51,dn x52,db b53,dn x54,dn x55,D.fs l56,db b57,dn x58,dn x59,D.fs l60,dn x61,dn x62,D.fs l63,D.fs l64,D.fs l65])→∀ (R:List DV→Prop),let N2:=(R [vb false]);Ob (∀ (res:List DV),res=[vb true]→R res)→(x0≠x33→Ob N2)∧(¬x0≠x33→(x1≠x34→Ob N2)∧(¬x1≠x34→(b2≠b35→Ob N2)∧(¬b2≠b35→(¬N3→Ob N2)∧(¬¬N3→(¬N4→Ob N2)∧(¬¬N4→Ob (DShs partS N1∧eqD N1 [db b41,D.fs l42,dn x43,db b44,D.fs l45,dn x46,db b47,D.fs l48,dn x49,db b50,D.fs l51,dn x52,db b53,dn x54,dn x55,D.fs l56])∧∀ b67,Ob ([vb b67]=[vb true])→(b67=true→Ob (LSh [s64] l27∧eqQ l27 l60)∧∀ b68,Ob ([vb b68]=[vb true])→(b68=true→Ob (DShs cacheS N5∧eqD N5 [dn x61,dn x62,D.fs l63])∧∀ b69,Ob ([vb b69]=[vb true])→(b69=true→Ob (LSh frozS l31∧eqQ l31 l64)∧∀ b70,Ob ([vb b70]=[vb true])→(b70=true→Ob (LSh pairS l32∧eqQ l32 l65)∧∀ b71,Ob ([vb b71]=[vb true])→Ob (R [vb b71]))∧(b70=false→Ob N2))∧(b69=false→Ob N2))∧(b68=false→Ob N2))∧(b67=false→Ob N2))))))
theorem Aic:Afi:=by
  delta Afi
  simp only [Ac,and_imp,forall_exists_index,true_and,and_true,List.cons.injEq,DV.c.injEq,DV.a.injEq,D.raw.injEq,D.fs.injEq,Value.bool.injEq,Value.int.injEq]
  intro a0 a1 a2 a3 a4 a5 a6 a7 a8 a9 a10 a11 a12 a13 a14 a15 a16 a17 a18 a19 a20 a21 a22 a23 a24 a25 a26 a27 a28 a29 a30 a31 a32 b0 b1 b2 b3 b4 b5 b6 b7 b8 b9 b10 b11 b12 b13 b14 b15 b16 b17 b18 b19 b20 b21 b22 b23 b24 b25 b26 b27 b28 b29 b30 b31 b32 hs he R hR
  have he:_=_:=he
  simp only [List.cons.injEq,D.raw.injEq,D.fs.injEq,Value.bool.injEq,Value.int.injEq,and_true,true_and] at he
  obtain ⟨rfl,rfl,rfl,rfl,rfl,rfl,rfl,rfl,rfl,rfl,rfl,rfl,rfl,rfl,rfl,rfl,rfl,rfl,rfl,rfl,rfl,rfl,rfl,rfl,rfl,rfl,rfl,rfl,rfl,rfl,rfl,rfl,rfl⟩:=he
  repeat' first | assumption | exact DShs.tail (Aa (by assumption) (by assumption)) | exact shp32 (by assumption) | exact shp64 (by assumption) | exact shp2 (by assumption) | exact shpF (by assumption) | with_reducible intro _ | with_reducible apply And.intro
  all_goals first
    | assumption
    | exact hR _ rfl
    | exact Kw _
    | exact Sc _
    | (exfalso;exact ‹¬_=_› rfl)
    | (exfalso;exact absurd rfl ‹_≠_›)
    | exact vb_no ‹_=[vb true]› ‹_=false›
    | (subst_vars;exact hR _ rfl)
    | (exfalso;exact bno1 ‹_=false› ‹_=true›)
    | (exfalso;simp_all;done)
    | (simp only [Ab,Af,Ai,Ah,Ak,rng64,true_and,and_true] at *;simp_all;done)
    | skip
theorem Aoi:Con TP k0 38 Ak9:=Ad [(128,Adl),(129,Alb),(130,Aga),(39,Ak8),(131,Af5)] [] [] [(128,Aeg),(129,Ank),(130,Ahj),(39,Anh),(131,Ahe)] 3000 ⟨Acs,Aok,Ajs,Aoh,Ajn,trivial⟩ ⟨fnq rfl rfl,fnq rfl rfl,fnq rfl rfl,fnq rfl rfl,fnq rfl rfl,trivial⟩ Go.Proofs.Tryz.func38 rfl rfl rfl rfl Afi (by kernel_rfl) Aic
end Go.Vc

namespace Go.Vc
open Classical
def Ahh (aa:List DV):List DV:=[vb true]
def Af8:ConT:=⟨[kl,kl],[kb],fun aa=>LSh nodeS (li aa 0)∧eqQ (li aa 0) (li aa 1),fun aa rs=>rs=Ahh aa⟩
def Aaf:Prop:=∀ (l0 l1:LL),Ob (LSh nodeS l0∧eqQ l0 l1)→∀ (R:List DV→Prop),Ob (∀ (res:List DV),res=[vb true]→R res)→∀ x3:Int,x3=l0.length→∀ x4:Int,x4=l1.length→(x3≠x4→Ob (R [vb false]))∧(¬x3≠x4→Ob ((0:Int)≤(0:Int)∧(0:Int)≤(l0.length:Int))∧∀ (g5:NV) (x6:Int),Ob (0≤x6∧x6≤l0.length)→∀ x7:Int,x7=l0.length→(x6<x7→Ob (0≤x6∧x6<l0.length)∧Ob (Shp kN l0)∧∀ x8 x9 b10 x11 x12 x13 x14 x15 b16 l17 x18 b19 l20 x21 b22 l23 x24 b25 l26 x27 b28 x29 x30 l31 b32 x33 x34 l35 x36 x37 l38 l39 l40,let N0:=[dn x8,dn x9,db b10,dn x11,dn x12,dn x13,dn x14,dn x15,db b16,D.fs l17,dn x18,db b19,D.fs l20,dn x21,db b22,D.fs l23,dn x24,db b25,D.fs l26,dn x27,db b28,dn x29,dn x30,D.fs l31,db b32,dn x33,dn x34,D.fs l35,dn x36,dn x37,D.fs l38,D.fs l39,D.fs l40];Ob (l0[x6.toNat]?=some N0)→Ob (0≤x6∧x6<l1.length)∧Ob (Shp kN l1)∧∀ x41 x42 b43 x44 x45 x46 x47 x48 b49 l50 x51 b52 l53 x54 b55 l56 x57 b58 l59 x60 b61 x62 x63 l64 b65 x66 x67 l68 x69 x70 l71 l72 l73,let N1:=[dn x41,dn x42,db b43,dn x44,dn x45,dn x46,dn x47,dn x48,db b49,D.fs l50,dn x51,db b52,D.fs l53,dn x54,db b55,D.fs l56,dn x57,db b58,D.fs l59,dn x60,db b61,dn x62,dn x63,D.fs l64,db b65,dn x66,dn x67,D.fs l68,dn x69,dn x70,D.fs l71,D.fs l72,D.fs l73];Ob (l1[x6.toNat]?=some N1)→Ob (DShs nodeS N0∧eqD N0 N1)∧∀ b74,Ob ([vb b74]=[vb true])→(b74=false→Ob (R [vb false]))∧(¬b74=false→∀ x75:Int,x75=w64 (x6+1)→Ob (0≤x75∧x75≤l0.length)∧Ob (l0.length-x75.toNat<l0.length-x6.toNat)))∧(¬x6<x7→Ob (R [vb true])))
theorem Add:Aaf:=by
  delta Aaf
  simp only [Ac,and_imp,forall_exists_index,true_and,and_true,List.cons.injEq,DV.c.injEq,DV.a.injEq,D.raw.injEq,D.fs.injEq,Value.bool.injEq,Value.int.injEq]
  intro l0 l1 hl hs he R hR
  have he:l0=l1:=he
  subst he
  repeat' first | assumption | exact DShs.tail (Aa (by assumption) (by assumption)) | exact shp32 (by assumption) | exact shp64 (by assumption) | exact shp2 (by assumption) | exact shpF (by assumption) | with_reducible intro _ | with_reducible apply And.intro
  all_goals (try (have e:=Ae ‹_=w64 (_+1)› (by omega) (by omega);subst e))
  all_goals first
    | assumption
    | omega
    | exact shpN hs
    | exact hR _ rfl
    | exact Aa (by assumption) (by assumption)
    | exact Ig (by assumption) (by assumption)
    | exact If (by assumption) (by assumption)
    | exact DShs.tail (Aa (by assumption) (by assumption))
    | exact vb_no ‹_=[vb true]› ‹_=false›
    | (exfalso;omega)
    | grind
    | skip
theorem Ajq:Con TP k0 57 Af8:=Ad [(38,Ak9)] [(57000,0,some ⟨[0,1],[5],[],[kn],[],fun ρ ds=>0≤ni ds 0∧ni ds 0≤(ρ.d 0).length,fun ρ ds=>(ρ.d 0).length-(ni ds 0).toNat,none⟩)] [] [(38,Ani)] 3000 ⟨Aoi,trivial⟩ ⟨fnq rfl rfl,trivial⟩ Go.Proofs.Tryz.func57 rfl rfl rfl rfl Aaf (by kernel_rfl) Add
end Go.Vc

namespace Go.Vc
open Classical
def Ahg (aa:List DV):List DV:=[vb true]
def Af7:ConT:=⟨[kl,kl],[kb],fun aa=>LSh [s64,s64,s64] (li aa 0)∧eqQ (li aa 0) (li aa 1),fun aa rs=>rs=Ahg aa⟩
def Aae:Prop:=∀ (l0 l1:LL),Ob (LSh [s64,s64,s64] l0∧eqQ l0 l1)→∀ (R:List DV→Prop),Ob (∀ (res:List DV),res=[vb true]→R res)→∀ x3:Int,x3=l0.length→∀ x4:Int,x4=l1.length→(x3≠x4→Ob (R [vb false]))∧(¬x3≠x4→Ob ((0:Int)≤(0:Int)∧(0:Int)≤(l0.length:Int))∧∀ (g5:NV) (x6:Int),Ob (0≤x6∧x6≤l0.length)→∀ x7:Int,x7=l0.length→(x6<x7→Ob (0≤x6∧x6<l0.length)∧Ob (Shp kS l0)∧∀ x8 x9 x10,Ob (l0[x6.toNat]?=some [dn x8,dn x9,dn x10])→Ob (0≤x6∧x6<l1.length)∧Ob (Shp kS l1)∧∀ (x11 x12 x13:Int),let N0:=(x8=x11∧x9=x12∧x10=x13);Ob (l1[x6.toNat]?=some [dn x11,dn x12,dn x13])→(¬N0→Ob (R [vb false]))∧(¬¬N0→∀ x14:Int,x14=w64 (x6+1)→Ob (0≤x14∧x14≤l0.length)∧Ob (l0.length-x14.toNat<l0.length-x6.toNat)))∧(¬x6<x7→Ob (R [vb true])))
theorem Adc:Aae:=by
  delta Aae
  simp only [Ac,and_imp,forall_exists_index,true_and,and_true,List.cons.injEq,DV.c.injEq,DV.a.injEq,D.raw.injEq,D.fs.injEq,Value.bool.injEq,Value.int.injEq]
  intro l0 l1 hl hs he R hR
  have he:l0=l1:=he
  subst he
  repeat' first | assumption | exact DShs.tail (Aa (by assumption) (by assumption)) | exact shp32 (by assumption) | exact shp64 (by assumption) | exact shp2 (by assumption) | exact shpF (by assumption) | with_reducible intro _ | with_reducible apply And.intro
  all_goals (try (have e:=Ae ‹_=w64 (_+1)› (by omega) (by omega);subst e))
  all_goals first
    | assumption
    | omega
    | exact shpS hs
    | exact hR _ rfl
    | exact Aa (by assumption) (by assumption)
    | exact Ig (by assumption) (by assumption)
    | exact If (by assumption) (by assumption)
    | exact DShs.tail (Aa (by assumption) (by assumption))
    | exact vb_no ‹_=[vb true]› ‹_=false›
    | (exfalso;omega)
    | grind
    | skip
theorem Ajp:Con TP k0 61 Af7:=Ad [] [(61000,0,some ⟨[0,1],[5],[],[kn],[],fun ρ ds=>0≤ni ds 0∧ni ds 0≤(ρ.d 0).length,fun ρ ds=>(ρ.d 0).length-(ni ds 0).toNat,none⟩)] [] [] 3000 trivial trivial Go.Proofs.Tryz.func61 rfl rfl rfl rfl Aae (by kernel_rfl) Adc
end Go.Vc

namespace Go.Vc
open Classical
def Anm (aa:List DV):List DV:=[vb true]
def Ald:ConT:=⟨[rkS copyS,rkS copyS],[kb],fun aa=>DShs copyS (ai aa 0)∧eqD (ai aa 0) (ai aa 1),fun aa rs=>rs=Anm aa⟩
def Afn:Prop:=∀ x0 x1 l2 b3 x4 x5 l6 b7,let N1:=[dn x0,dn x1,D.fs l2,db b3];Ob (DShs copyS N1∧eqD N1 [dn x4,dn x5,D.fs l6,db b7])→∀ (R:List DV→Prop),let N0:=(R [vb false]);Ob (∀ (res:List DV),res=[vb true]→R res)→(x0=x4→(x1=x5→Ob (∀ (cs:List D),cs∈l2→DKs [Kd.int IntKind.u8] cs)∧∀ (s9:ByteArray),s9=strL l2→Ob (∀ (cs:List D),cs∈l6→DKs [Kd.int IntKind.u8] cs)∧∀ (s10:ByteArray),s10=strL l6→(s9=s10→(b3=b7→Ob (R [vb true]))∧(¬b3=b7→Ob N0))∧(¬s9=s10→Ob N0))∧(¬x1=x5→Ob N0))∧(¬x0=x4→Ob N0)
theorem Aih:Afn:=by
  delta Afn
  simp only [Ac,and_imp,forall_exists_index,true_and,and_true,List.cons.injEq,DV.c.injEq,DV.a.injEq,D.raw.injEq,D.fs.injEq,Value.bool.injEq,Value.int.injEq]
  intro x0 x1 l2 b3 a0 a1 a2 a3 hs he R hR
  have e:=he
  simp only [eqD,List.cons.injEq,D.raw.injEq,D.fs.injEq,Value.int.injEq,Value.bool.injEq,and_true,true_and] at e
  obtain ⟨rfl,rfl,rfl,rfl⟩:=e
  have hq:=(Ayr hs).1
  repeat' first | assumption | exact DShs.tail (Aa (by assumption) (by assumption)) | exact shp32 (by assumption) | exact shp64 (by assumption) | exact shp2 (by assumption) | exact shpF (by assumption) | with_reducible intro _ | with_reducible apply And.intro
  all_goals (try subst_vars)
  all_goals first
    | assumption
    | exact hR _ rfl
    | exact hq
    | (exfalso;exact ‹¬_=_› rfl)
    | (exfalso;exact absurd rfl ‹_≠_›)
    | (exact hR _ (by simp))
    | skip
theorem Aom:Con TP k0 150 Ald:=Ad [] [] [] [] 3000 trivial trivial Go.Proofs.Tryz.func150 rfl rfl rfl rfl Afn (by kernel_rfl) Aih
end Go.Vc

namespace Go.Vc
open Classical
def Acf (aa:List DV):List DV:=[vb true]
def Aa6:ConT:=⟨[kl,kl],[kb],fun aa=>LSh copyS (li aa 0)∧eqQ (li aa 0) (li aa 1),fun aa rs=>rs=Acf aa⟩
def Th:Prop:=∀ (l0 l1:LL),Ob (LSh copyS l0∧eqQ l0 l1)→∀ (R:List DV→Prop),Ob (∀ (res:List DV),res=[vb true]→R res)→∀ x3:Int,x3=l0.length→∀ x4:Int,x4=l1.length→(x3≠x4→Ob (R [vb false]))∧(¬x3≠x4→Ob ((0:Int)≤(0:Int)∧(0:Int)≤(l0.length:Int))∧∀ (g5:NV) (x6:Int),Ob (0≤x6∧x6≤l0.length)→∀ x7:Int,x7=l0.length→(x6<x7→Ob (0≤x6∧x6<l0.length)∧Ob (Shp kC l0)∧∀ x8 x9 l10 b11,let N0:=[dn x8,dn x9,D.fs l10,db b11];Ob (l0[x6.toNat]?=some N0)→Ob (0≤x6∧x6<l1.length)∧Ob (Shp kC l1)∧∀ x12 x13 l14 b15,let N1:=[dn x12,dn x13,D.fs l14,db b15];Ob (l1[x6.toNat]?=some N1)→Ob (DShs copyS N0∧eqD N0 N1)∧∀ b16,Ob ([vb b16]=[vb true])→(b16=false→Ob (R [vb false]))∧(¬b16=false→∀ x17:Int,x17=w64 (x6+1)→Ob (0≤x17∧x17≤l0.length)∧Ob (l0.length-x17.toNat<l0.length-x6.toNat)))∧(¬x6<x7→Ob (R [vb true])))
theorem Aat:Th:=by
  delta Th
  simp only [Ac,and_imp,forall_exists_index,true_and,and_true,List.cons.injEq,DV.c.injEq,DV.a.injEq,D.raw.injEq,D.fs.injEq,Value.bool.injEq,Value.int.injEq]
  intro l0 l1 hl hs he R hR
  have he:l0=l1:=he
  subst he
  repeat' first | assumption | exact DShs.tail (Aa (by assumption) (by assumption)) | exact shp32 (by assumption) | exact shp64 (by assumption) | exact shp2 (by assumption) | exact shpF (by assumption) | with_reducible intro _ | with_reducible apply And.intro
  all_goals (try (have e:=Ae ‹_=w64 (_+1)› (by omega) (by omega);subst e))
  all_goals first
    | assumption
    | omega
    | exact shpCo (by assumption)
    | exact hR _ rfl
    | exact Aa (by assumption) (by assumption)
    | exact Ig (by assumption) (by assumption)
    | exact If (by assumption) (by assumption)
    | exact DShs.tail (Aa (by assumption) (by assumption))
    | exact vb_no ‹_=[vb true]› ‹_=false›
    | (exfalso;omega)
    | grind
    | skip
theorem Aeu:Con TP k0 58 Aa6:=Ad [(150,Ald)] [(58000,0,some ⟨[0,1],[5],[],[kn],[],fun ρ ds=>0≤ni ds 0∧ni ds 0≤(ρ.d 0).length,fun ρ ds=>(ρ.d 0).length-(ni ds 0).toNat,none⟩)] [] [(150,Anm)] 3000 ⟨Aom,trivial⟩ ⟨fnq rfl rfl,trivial⟩ Go.Proofs.Tryz.func58 rfl rfl rfl rfl Th (by kernel_rfl) Aat
end Go.Vc

namespace Go.Vc
open Classical
def Ahi (aa:List DV):List DV:=[vb true]
def Af9:ConT:=⟨[kl,kl],[kb],fun aa=>LSh loadS (li aa 0)∧eqQ (li aa 0) (li aa 1),fun aa rs=>rs=Ahi aa⟩
def Aag:Prop:=∀ (l0 l1:LL),Ob (LSh loadS l0∧eqQ l0 l1)→∀ (R:List DV→Prop),let N1:=(R [vb false]);Ob (∀ (res:List DV),res=[vb true]→R res)→∀ x3:Int,x3=l0.length→∀ x4:Int,x4=l1.length→(x3≠x4→Ob N1)∧(¬x3≠x4→Ob ((0:Int)≤(0:Int)∧(0:Int)≤(l0.length:Int))∧∀ (g5:NV) (x6:Int),Ob (0≤x6∧x6≤l0.length)→∀ x7:Int,x7=l0.length→(x6<x7→Ob (0≤x6∧x6<l0.length)∧Ob (Shp kL l0)∧∀ x8 x9 x10 b11 l12 x13 b14 l15 x16 b17 l18 x19 b20 l21 x22,let N0:=[db b11,D.fs l12,dn x13,db b14,D.fs l15,dn x16,db b17,D.fs l18,dn x19,db b20,D.fs l21,dn x22];Ob (l0[x6.toNat]?=some [dn x8,dn x9,dn x10,db b11,D.fs l12,dn x13,db b14,D.fs l15,dn x16,db b17,D.fs l18,dn x19,db b20,D.fs l21,dn x22])→Ob (0≤x6∧x6<l1.length)∧Ob (Shp kL l1)∧∀ x23 x24 x25 b26 l27 x28 b29 l30 x31 b32 l33 x34 b35 l36 x37,Ob (l1[x6.toNat]?=some [dn x23,dn x24,dn x25,db b26,D.fs l27,dn x28,db b29,D.fs l30,dn x31,db b32,D.fs l33,dn x34,db b35,D.fs l36,dn x37])→(x8=x23→(x9=x24→(x10=x25→Ob (DShs massS N0∧eqD N0 [db b26,D.fs l27,dn x28,db b29,D.fs l30,dn x31,db b32,D.fs l33,dn x34,db b35,D.fs l36,dn x37])∧∀ b38,Ob ([vb b38]=[vb true])→(b38=false→Ob N1)∧(¬b38=false→∀ x39:Int,x39=w64 (x6+1)→Ob (0≤x39∧x39≤l0.length)∧Ob (l0.length-x39.toNat<l0.length-x6.toNat)))∧(¬x10=x25→Ob N1))∧(¬x9=x24→Ob N1))∧(¬x8=x23→Ob N1))∧(¬x6<x7→Ob (R [vb true])))
theorem Ade:Aag:=by
  delta Aag
  simp only [Ac,and_imp,forall_exists_index,true_and,and_true,List.cons.injEq,DV.c.injEq,DV.a.injEq,D.raw.injEq,D.fs.injEq,Value.bool.injEq,Value.int.injEq]
  intro l0 l1 hl hs he R hR
  have he:l0=l1:=he
  subst he
  repeat' first | assumption | exact DShs.tail (Aa (by assumption) (by assumption)) | exact shp32 (by assumption) | exact shp64 (by assumption) | exact shp2 (by assumption) | exact shpF (by assumption) | with_reducible intro _ | with_reducible apply And.intro
  all_goals (try (rename l0[(_:Nat)]?=some (_::_)=>hB;revert hB;rename l0[(_:Nat)]?=some (_::_)=>hA;intro hB;have e:=Option.some.inj (hA.symm.trans hB);clear hB;simp only [List.cons.injEq,DV.c.injEq,DV.a.injEq,D.raw.injEq,D.fs.injEq,Value.bool.injEq,Value.int.injEq,true_and,and_true] at e;obtain ⟨rfl,rfl,rfl,rfl,rfl,rfl,rfl,rfl,rfl,rfl,rfl,rfl,rfl,rfl,rfl⟩:=e))
  all_goals (try (rename l0[(_:Nat)]?=some (_::_)=>hB;revert hB;rename l0[(_:Nat)]?=some (_::_)=>hA;intro hB;have e:=Option.some.inj (hA.symm.trans hB);clear hB;simp only [List.cons.injEq,DV.c.injEq,DV.a.injEq,D.raw.injEq,D.fs.injEq,Value.bool.injEq,Value.int.injEq,true_and,and_true] at e;obtain ⟨rfl,rfl,rfl,rfl,rfl,rfl,rfl,rfl,rfl,rfl,rfl,rfl,rfl,rfl,rfl⟩:=e))
  all_goals (try (rename l0[(_:Nat)]?=some (_::_)=>hB;revert hB;rename l0[(_:Nat)]?=some (_::_)=>hA;intro hB;have e:=Option.some.inj (hA.symm.trans hB);clear hB;simp only [List.cons.injEq,DV.c.injEq,DV.a.injEq,D.raw.injEq,D.fs.injEq,Value.bool.injEq,Value.int.injEq,true_and,and_true] at e;obtain ⟨rfl,rfl,rfl,rfl,rfl,rfl,rfl,rfl,rfl,rfl,rfl,rfl,rfl,rfl,rfl⟩:=e))
  all_goals (try (have e:=Ae ‹_=w64 (_+1)› (by omega) (by omega);subst e))
  all_goals first
    | assumption
    | omega
    | exact shpLo (by assumption)
    | exact hR _ rfl
    | exact Kw _
    | exact DShs.tail (DShs.tail (DShs.tail ((Aa (by assumption) (by assumption)))))
    | exact vb_no ‹_=[vb true]› ‹_=false›
    | (exfalso;omega)
    | (exfalso;exact ‹¬_=_› rfl)
    | (exfalso;exact absurd rfl ‹_≠_›)
    | grind
    | skip
theorem Ajr:Con TP k0 59 Af9:=Ad [(152,Xo)] [(59000,0,some ⟨[0,1],[5],[],[kn],[],fun ρ ds=>0≤ni ds 0∧ni ds 0≤(ρ.d 0).length,fun ρ ds=>(ρ.d 0).length-(ni ds 0).toNat,none⟩)] [] [(152,Yx)] 3000 ⟨Sl,trivial⟩ ⟨fnq rfl rfl,trivial⟩ Go.Proofs.Tryz.func59 rfl rfl rfl rfl Aag (by kernel_rfl) Ade
end Go.Vc

namespace Go.Vc
open Classical
def We (aa:List DV):List DV:=[vb true]
def Vb:ConT:=⟨[kl,kl],[kb],fun aa=>LSh entryS (li aa 0)∧eqQ (li aa 0) (li aa 1),fun aa rs=>rs=We aa⟩
def Mn:Prop:=∀ (l0 l1:LL),Ob (LSh entryS l0∧eqQ l0 l1)→∀ (R:List DV→Prop),let N3:=(R [vb false]);Ob (∀ (res:List DV),res=[vb true]→R res)→∀ x3:Int,x3=l0.length→∀ x4:Int,x4=l1.length→(x3≠x4→Ob N3)∧(¬x3≠x4→Ob ((0:Int)≤(0:Int)∧(0:Int)≤(l0.length:Int))∧∀ (g5:NV) (x6:Int),let N2:=(0≤x6∧x6<l1.length);let N1:=(0≤x6∧x6<l0.length);Ob (0≤x6∧x6≤l0.length)→∀ x7:Int,x7=l0.length→(x6<x7→Ob N1∧Ob (Shp kE l0)∧∀ x8 x9 b10 l11 x12 b13 l14 x15 b16 l17 x18 b19 l20 x21,Ob (l0[x6.toNat]?=some [dn x8,d8 x9,db b10,D.fs l11,dn x12,db b13,D.fs l14,dn x15,db b16,D.fs l17,dn x18,db b19,D.fs l20,dn x21])→Ob N2∧Ob (Shp kE l1)∧∀ x22 x23 b24 l25 x26 b27 l28 x29 b30 l31 x32 b33 l34 x35,Ob (l1[x6.toNat]?=some [dn x22,d8 x23,db b24,D.fs l25,dn x26,db b27,D.fs l28,dn x29,db b30,D.fs l31,dn x32,db b33,D.fs l34,dn x35])→(x8≠x22→Ob N3)∧(¬x8≠x22→Ob N1∧Ob (Shp kE l0)∧∀ x36 x37 b38 l39 x40 b41 l42 x43 b44 l45 x46 b47 l48 x49,Ob (l0[x6.toNat]?=some [dn x36,d8 x37,db b38,D.fs l39,dn x40,db b41,D.fs l42,dn x43,db b44,D.fs l45,dn x46,db b47,D.fs l48,dn x49])→Ob N2∧Ob (Shp kE l1)∧∀ x50 x51 b52 l53 x54 b55 l56 x57 b58 l59 x60 b61 l62 x63,Ob (l1[x6.toNat]?=some [dn x50,d8 x51,db b52,D.fs l53,dn x54,db b55,D.fs l56,dn x57,db b58,D.fs l59,dn x60,db b61,D.fs l62,dn x63])→(x37≠x51→Ob N3)∧(¬x37≠x51→Ob N1∧Ob (Shp kE l0)∧∀ x64 x65 b66 l67 x68 b69 l70 x71 b72 l73 x74 b75 l76 x77,let N0:=[db b66,D.fs l67,dn x68,db b69,D.fs l70,dn x71,db b72,D.fs l73,dn x74,db b75,D.fs l76,dn x77];Ob (l0[x6.toNat]?=some [dn x64,d8 x65,db b66,D.fs l67,dn x68,db b69,D.fs l70,dn x71,db b72,D.fs l73,dn x74,db b75,D.fs l76,dn x77])→Ob N2∧Ob (Shp kE l1)∧∀ x78 x79 b80 l81 x82 b83 l84 x85 b86 l87 x88 b89 l90 x91,Ob (l1[x6.toNat]?=some [dn x78,d8 x79,db b80,D.fs l81,dn x82,db b83,D.fs l84,dn x85,db b86,D.fs l87,dn x88,db b89,D.fs l90,dn x91])→Ob (DShs massS N0∧eqD N0 [db b80,D.fs l81,dn x82,db b83,D.fs l84,dn x85,db b86,D.fs l87,dn x88,db b89,D.fs l90,dn x91])∧∀ b92,Ob ([vb b92]=[vb true])→(b92=false→Ob N3)∧(¬b92=false→∀ x93:Int,x93=w64 (x6+1)→Ob (0≤x93∧x93≤l0.length)∧Ob (l0.length-x93.toNat<l0.length-x6.toNat)))))∧(¬x6<x7→Ob (R [vb true])))
theorem Xe:Mn:=by
  delta Mn
  simp only [Ac,and_imp,forall_exists_index,true_and,and_true,List.cons.injEq,DV.c.injEq,DV.a.injEq,D.raw.injEq,D.fs.injEq,Value.bool.injEq,Value.int.injEq]
  intro l0 l1 hl hs he R hR
  have he:l0=l1:=he
  subst he
  repeat' first | assumption | exact DShs.tail (Aa (by assumption) (by assumption)) | exact shp32 (by assumption) | exact shp64 (by assumption) | exact shp2 (by assumption) | exact shpF (by assumption) | with_reducible intro _ | with_reducible apply And.intro
  all_goals (try (rename l0[(_:Nat)]?=some (_::_)=>hB;revert hB;rename l0[(_:Nat)]?=some (_::_)=>hA;intro hB;have e:=Option.some.inj (hA.symm.trans hB);clear hB;simp only [List.cons.injEq,DV.c.injEq,DV.a.injEq,D.raw.injEq,D.fs.injEq,Value.bool.injEq,Value.int.injEq,true_and,and_true] at e;obtain ⟨rfl,rfl,rfl,rfl,rfl,rfl,rfl,rfl,rfl,rfl,rfl,rfl,rfl,rfl⟩:=e))
  all_goals (try (rename l0[(_:Nat)]?=some (_::_)=>hB;revert hB;rename l0[(_:Nat)]?=some (_::_)=>hA;intro hB;have e:=Option.some.inj (hA.symm.trans hB);clear hB;simp only [List.cons.injEq,DV.c.injEq,DV.a.injEq,D.raw.injEq,D.fs.injEq,Value.bool.injEq,Value.int.injEq,true_and,and_true] at e;obtain ⟨rfl,rfl,rfl,rfl,rfl,rfl,rfl,rfl,rfl,rfl,rfl,rfl,rfl,rfl⟩:=e))
  all_goals (try (rename l0[(_:Nat)]?=some (_::_)=>hB;revert hB;rename l0[(_:Nat)]?=some (_::_)=>hA;intro hB;have e:=Option.some.inj (hA.symm.trans hB);clear hB;simp only [List.cons.injEq,DV.c.injEq,DV.a.injEq,D.raw.injEq,D.fs.injEq,Value.bool.injEq,Value.int.injEq,true_and,and_true] at e;obtain ⟨rfl,rfl,rfl,rfl,rfl,rfl,rfl,rfl,rfl,rfl,rfl,rfl,rfl,rfl⟩:=e))
  all_goals (try (have e:=Ae ‹_=w64 (_+1)› (by omega) (by omega);subst e))
  all_goals first
    | assumption
    | omega
    | exact shpEn (by assumption)
    | exact hR _ rfl
    | exact Kw _
    | exact DShs.tail (DShs.tail ((Aa (by assumption) (by assumption))))
    | exact vb_no ‹_=[vb true]› ‹_=false›
    | (exfalso;omega)
    | (exfalso;exact ‹¬_=_› rfl)
    | (exfalso;exact absurd rfl ‹_≠_›)
    | grind
    | skip
theorem Acu:Con TP k0 60 Vb:=Ad [(152,Xo)] [(60000,0,some ⟨[0,1],[5],[],[kn],[],fun ρ ds=>0≤ni ds 0∧ni ds 0≤(ρ.d 0).length,fun ρ ds=>(ρ.d 0).length-(ni ds 0).toNat,none⟩)] [] [(152,Yx)] 3000 ⟨Sl,trivial⟩ ⟨fnq rfl rfl,trivial⟩ Go.Proofs.Tryz.func60 rfl rfl rfl rfl Mn (by kernel_rfl) Xe
end Go.Vc

namespace Go.Vc
open Classical
def Ace (aa:List DV):List DV:=[vb true]
def Aa5:ConT:=⟨[rkS worldS,rkS worldS],[kb],fun aa=>DShs worldS (ai aa 0)∧eqD (ai aa 0) (ai aa 1),fun aa rs=>rs=Ace aa⟩
def Tg:Prop:=∀ x0 x1 x2 x3 l4 l5 l6 l7 l8 x9 x10 x11 x12 x13 l14 l15 l16 l17 l18 x19,let N0:=[dn x0,dn x1,dn x2,dn x3,D.fs l4,D.fs l5,D.fs l6,D.fs l7,D.fs l8,dn x9];Ob (DShs worldS N0∧eqD N0 [dn x10,dn x11,dn x12,dn x13,D.fs l14,D.fs l15,D.fs l16,D.fs l17,D.fs l18,dn x19])→∀ (R:List DV→Prop),let N1:=(R [vb false]);Ob (∀ (res:List DV),res=[vb true]→R res)→(x0=x10∧x1=x11∧x2=x12∧x3=x13→Ob (LSh nodeS l4∧eqQ l4 l14)∧∀ b21,Ob ([vb b21]=[vb true])→(b21=true→Ob (LSh copyS l5∧eqQ l5 l15)∧∀ b22,Ob ([vb b22]=[vb true])→(b22=true→Ob (LSh loadS l6∧eqQ l6 l16)∧∀ b23,Ob ([vb b23]=[vb true])→(b23=true→Ob (LSh entryS l7∧eqQ l7 l17)∧∀ b24,Ob ([vb b24]=[vb true])→(b24=true→Ob (LSh [s64,s64,s64] l8∧eqQ l8 l18)∧∀ b25,Ob ([vb b25]=[vb true])→(b25=true→(x9=x19→Ob (R [vb true]))∧(¬x9=x19→Ob N1))∧(b25=false→Ob N1))∧(b24=false→Ob N1))∧(b23=false→Ob N1))∧(b22=false→Ob N1))∧(b21=false→Ob N1))∧(¬(x0=x10∧x1=x11∧x2=x12∧x3=x13)→Ob N1)
theorem Aas:Tg:=by
  delta Tg
  simp only [Ac,and_imp,forall_exists_index,true_and,and_true,List.cons.injEq,DV.c.injEq,DV.a.injEq,D.raw.injEq,D.fs.injEq,Value.bool.injEq,Value.int.injEq]
  intro a0 a1 a2 a3 a4 a5 a6 a7 a8 a9 b0 b1 b2 b3 b4 b5 b6 b7 b8 b9 hs he R hR
  have he:_=_:=he
  simp only [List.cons.injEq,D.raw.injEq,D.fs.injEq,Value.bool.injEq,Value.int.injEq,and_true,true_and] at he
  obtain ⟨rfl,rfl,rfl,rfl,rfl,rfl,rfl,rfl,rfl,rfl⟩:=he
  repeat' first | assumption | exact DShs.tail (Aa (by assumption) (by assumption)) | exact shp32 (by assumption) | exact shp64 (by assumption) | exact shp2 (by assumption) | exact shpF (by assumption) | with_reducible intro _ | with_reducible apply And.intro
  all_goals first
    | assumption
    | exact hR _ rfl
    | exact Kw _
    | exact Sc _
    | (exfalso;exact ‹¬_=_› rfl)
    | (exfalso;exact absurd rfl ‹_≠_›)
    | exact vb_no ‹_=[vb true]› ‹_=false›
    | (subst_vars;exact hR _ rfl)
    | (exfalso;exact bno1 ‹_=false› ‹_=true›)
    | (exfalso;simp_all;done)
    | (simp only [Ab,Af,Ai,Ah,Ak,rng64,true_and,and_true] at *;simp_all;done)
    | skip
theorem Aet:Con TP k0 15 Aa5:=Ad [(57,Af8),(61,Af7),(58,Aa6),(59,Af9),(60,Vb)] [] [] [(57,Ahh),(61,Ahg),(58,Acf),(59,Ahi),(60,We)] 3000 ⟨Ajq,Ajp,Aeu,Ajr,Acu,trivial⟩ ⟨fnq rfl rfl,fnq rfl rfl,fnq rfl rfl,fnq rfl rfl,fnq rfl rfl,trivial⟩ Go.Proofs.Tryz.func15 rfl rfl rfl rfl Tg (by kernel_rfl) Aas
end Go.Vc

namespace Go.Vc
open Classical
def Ajg (aa:List DV):List DV:=[vb true]
def t_lawSteps:ConT:=⟨[rkS worldS,kl],[kb],fun aa=>DShs worldS (ai aa 0)∧LSh pairS (li aa 1),fun aa rs=>rs=Ajg aa⟩
def Mt:Prop:=∀ (x0 x1 x2 x3:Int) (l4 l5 l6 l7 l8:LL) (x9:Int) (l10:LL),let N0:=[dn x0,dn x1,dn x2,dn x3,D.fs l4,D.fs l5,D.fs l6,D.fs l7,D.fs l8,dn x9];let N2:=(DShs worldS N0∧LSh pairS l10);Ob N2→∀ (R:List DV→Prop),Ob (∀ (res:List DV),res=[vb true]→R res)→Ob (DShs worldS N0)∧∀ b12,Ob (∃ b,[vb b12]=[vb b]∧(b=false→wLimF N0))→(b12=true→Ob (R [vb true]))∧(b12=false→∀ x13:Int,x13=l10.length→(x13>100→Ob (R [vb true]))∧(¬x13>100→Ob (DShs worldS N0∧wLimF N0)∧∀ x14 x15 x16 x17 l18 l19 l20 l21 l22 x23,let N1:=[dn x14,dn x15,dn x16,dn x17,D.fs l18,D.fs l19,D.fs l20,D.fs l21,D.fs l22,dn x23];Ob ([DV.a N1]=[DV.a N0])→Ob (DShs worldS N1∧LSh pairS l10)∧∀ l24 x25,Ob ([vl l24,vn x25]=Bm N1 l10)→Ob N2∧∀ l26 x27,Ob ([vl l26,vn x27]=Bm N0 l10)→Ob (LSh [Sh.int IntKind.u8,s64,s64,s64,Sh.int IntKind.u64] l24∧eqQ l24 l26)∧∀ b28,Ob ([vb b28]=[vb true])→(b28=true→(x25=x27→Ob (DShs worldS N1∧eqD N1 N0)∧∀ b29,Ob ([vb b29]=[vb true])→Ob (R [vb b29]))∧(¬x25=x27→Ob (R [vb false])))∧(b28=false→Ob (R [vb false]))))
theorem Xk:Mt:=by
  delta Mt
  simp only [Ac,and_imp,forall_exists_index,true_and,and_true,List.cons.injEq,DV.c.injEq,DV.a.injEq,D.raw.injEq,D.fs.injEq,Value.bool.injEq,Value.int.injEq]
  intro x0 x1 x2 x3 l4 l5 l6 l7 l8 x9 l10 hs hn hm R hR
  have hs2:=hs
  simp only [Ab,Af,Ai,Ak,rng64,true_and,and_true] at hs2
  have hw:LS nodeS (gL [dn x0,dn x1,dn x2,dn x3,D.fs l4,D.fs l5,D.fs l6,D.fs l7,D.fs l8,dn x9] 4):=hs2.2.2.2.2.1.2
  repeat' first | assumption | exact DShs.tail (Aa (by assumption) (by assumption)) | exact shp32 (by assumption) | exact shp64 (by assumption) | exact shp2 (by assumption) | exact shpF (by assumption) | with_reducible intro _ | with_reducible apply And.intro
  all_goals (try subst_vars)
  all_goals first
    | assumption
    | exact hR _ rfl
    | exact Kw _
    | exact ‹false=false→_› rfl
    | exact (Axo (by assumption) hm hw).1
    | exact (Axo (by assumption) hm hw).2
    | exact (Axp ‹[vl _,vn _]=Bm _ _› (by assumption)).1
    | exact Sc _
    | (exfalso;exact Bool.noConfusion ‹true=false›)
    | (exfalso;exact ‹¬(_:Int)=_› (Axp (by assumption) (by assumption)).2)
    | skip
theorem Acz:Con TP k0 3 t_lawSteps:=Ad [(10,Ak1),(11,Jr),(12,Aa0),(13,Af1),(14,Af6),(15,Aa5)] [] [] [(11,Ko),(12,Ab9),(13,Aha),(14,Ahf),(15,Ace)] 3000 ⟨Aoa,Sg,Aeo,Ajj,Ajo,Aet,trivial⟩ ⟨fnq rfl rfl,fnq rfl rfl,fnq rfl rfl,fnq rfl rfl,fnq rfl rfl,trivial⟩ Go.Proofs.Tryz.func3 rfl rfl rfl rfl Mt (by kernel_rfl) Xk
end Go.Vc
