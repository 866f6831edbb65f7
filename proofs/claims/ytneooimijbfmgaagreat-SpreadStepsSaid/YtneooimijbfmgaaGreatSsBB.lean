import Derived.Test.YtneooimijbfmgaaGreatProg
import Derived.KernelRfl
import Derived.Test.YtneooimijbfmgaaGreatSsAS
import Derived.Test.YtneooimijbfmgaaGreatSsAU
import Derived.Test.YtneooimijbfmgaaGreatSsAV
import Derived.Test.YtneooimijbfmgaaGreatSsAZ
import Derived.Test.YtneooimijbfmgaaGreatSsBA
set_option linter.unusedVariables false
set_option linter.unusedSimpArgs false
set_option linter.unusedSectionVars false
set_option maxHeartbeats 4000000
set_option maxRecDepth 100000
noncomputable section
namespace Go.Vc
open Classical
def Ahd (aa:List DV):List DV:=[vb (decide (Bb (ai aa 0) (ni aa 1)))]
def Af4:ConT:=⟨[rkS nodeS,kn],[kb],fun aa=>DShs nodeS (ai aa 0)∧Bn (gL (ai aa 0) 27)=0,fun aa rs=>rs=Ahd aa⟩
def Aab:Prop:=∀ (x0 x1:Int) (b2:Bool) (x3 x4 x5 x6 x7:Int) (b8:Bool) (l9:LL) (x10:Int) (b11:Bool) (l12:LL) (x13:Int) (b14:Bool) (l15:LL) (x16:Int) (b17:Bool) (l18:LL) (x19:Int) (b20:Bool) (x21 x22:Int) (l23:LL) (b24:Bool) (x25 x26:Int) (l27:LL) (x28 x29:Int) (l30 l31 l32:LL) (x33:Int),let N5:=(Shp kP l32);let N1:=(ltN l32 (1:Nat) x33);let N2:=((0:Int)≤(0:Int)∧upto N1 (0:Int));let N0:=[dn x0,dn x1,db b2,dn x3,dn x4,dn x5,dn x6,dn x7,db b8,D.fs l9,dn x10,db b11,D.fs l12,dn x13,db b14,D.fs l15,dn x16,db b17,D.fs l18,dn x19,db b20,dn x21,dn x22,D.fs l23,db b24,dn x25,dn x26,D.fs l27,dn x28,dn x29,D.fs l30,D.fs l31,D.fs l32];Ob (DShs nodeS N0∧Bn l27=(0:Int))→∀ (R:List DV→Prop),let N4:=(R [vb true]);let N3:=(R [vb false]);Ob (∀ (res:List DV),res=[vb (decide (Bb N0 x33))]→R res)→∀ x35:Int,x35=l27.length→(x35>0→∀ x36:Int,x36=l27.length→∀ x37:Int,x37=w64 (x36-1)→Ob (0≤x37∧x37<l27.length)∧Ob (Shp kI l27)∧∀ x38,Ob (l27[x37.toNat]?=some [dn x38])→(x38≥x33→Ob N3)∧(¬x38≥x33→(b24=true→(x25≥x33→Ob N3)∧(¬x25≥x33→Ob N2∧∀ (g39:NV) (x40:Int),Ob (0≤x40∧upto N1 x40)→∀ x41:Int,x41=l32.length→(x40<x41→Ob (0≤x40∧x40<l32.length)∧Ob N5∧∀ x42 x43,Ob (l32[x40.toNat]?=some [dn x42,dn x43])→(x43≥x33→Ob N3)∧(¬x43≥x33→∀ x44:Int,x44=w64 (x40+1)→Ob (0≤x44∧upto N1 x44)∧Ob (l32.length-x44.toNat<l32.length-x40.toNat)))∧(¬x40<x41→Ob N4)))∧(b24=false→Ob N2∧∀ (g45:NV) (x46:Int),Ob (0≤x46∧upto N1 x46)→∀ x47:Int,x47=l32.length→(x46<x47→Ob (0≤x46∧x46<l32.length)∧Ob N5∧∀ x48 x49,Ob (l32[x46.toNat]?=some [dn x48,dn x49])→(x49≥x33→Ob N3)∧(¬x49≥x33→∀ x50:Int,x50=w64 (x46+1)→Ob (0≤x50∧upto N1 x50)∧Ob (l32.length-x50.toNat<l32.length-x46.toNat)))∧(¬x46<x47→Ob N4))))∧(¬x35>0→(b24=true→(x25≥x33→Ob N3)∧(¬x25≥x33→Ob N2∧∀ (g51:NV) (x52:Int),Ob (0≤x52∧upto N1 x52)→∀ x53:Int,x53=l32.length→(x52<x53→Ob (0≤x52∧x52<l32.length)∧Ob N5∧∀ x54 x55,Ob (l32[x52.toNat]?=some [dn x54,dn x55])→(x55≥x33→Ob N3)∧(¬x55≥x33→∀ x56:Int,x56=w64 (x52+1)→Ob (0≤x56∧upto N1 x56)∧Ob (l32.length-x56.toNat<l32.length-x52.toNat)))∧(¬x52<x53→Ob N4)))∧(b24=false→Ob N2∧∀ (g57:NV) (x58:Int),Ob (0≤x58∧upto N1 x58)→∀ x59:Int,x59=l32.length→(x58<x59→Ob (0≤x58∧x58<l32.length)∧Ob N5∧∀ x60 x61,Ob (l32[x58.toNat]?=some [dn x60,dn x61])→(x61≥x33→Ob N3)∧(¬x61≥x33→∀ x62:Int,x62=w64 (x58+1)→Ob (0≤x62∧upto N1 x62)∧Ob (l32.length-x62.toNat<l32.length-x58.toNat)))∧(¬x58<x59→Ob N4)))
theorem Ac9:Aab:=by
  delta Aab
  simp only [Ac,and_imp,List.cons_append,List.nil_append,Ab,Af,Ai,Ah,Ak,rng64,rng32,true_and,and_true,List.cons.injEq,DV.c.injEq,DV.a.injEq,D.raw.injEq,D.fs.injEq,Value.bool.injEq,Value.int.injEq]
  repeat' first | assumption | exact DShs.tail (Aa (by assumption) (by assumption)) | exact shp32 (by assumption) | exact shp64 (by assumption) | exact shp2 (by assumption) | exact shpF (by assumption) | with_reducible intro _ | with_reducible apply And.intro
  all_goals (try (have e:=Ae ‹_=w64 (_+1)› (by omega) (by omega);subst e))
  all_goals (try (have e:=Fk ‹_=w64 (_-1)› (by omega) (by omega);subst e))
  all_goals first
    | assumption
    | (exact fun i hi=>by omega)
    | omega
    | exact shp64 (by assumption)
    | exact shp2 (by assumption)
    | (rw [Ag (by omega)];exact ⟨by assumption,(A0e (by assumption)).2 (by omega)⟩)
    | (apply ‹∀ res:List DV,_=_→_›;exact Ayh (by assumption) (by assumption))
    | (apply ‹∀ res:List DV,_=_→_›;exact As7 (l:=gL _ 27) (by assumption) (by omega) (by assumption) (by assumption) (by assumption) rfl)
    | (apply ‹∀ res:List DV,_=_→_›;exact Ayk (by assumption) (by assumption) (by assumption) (by assumption) (by assumption))
    | (apply ‹∀ res:List DV,_=_→_›;exact Aru (by assumption) (by omega) (by assumption) (by assumption) (by assumption) (Awj (by assumption)))
    | (apply ‹∀ res:List DV,_=_→_›;exact Aru (by assumption) (by omega) (by assumption) (by assumption) (by assumption) (Akk (by assumption)))
    | (apply ‹∀ res:List DV,_=_→_›;exact Arv (by assumption) (by omega) (by assumption) (by assumption) (by assumption) (by assumption) (by assumption) (by assumption) (Awj (by assumption)))
    | (apply ‹∀ res:List DV,_=_→_›;exact Arv (by assumption) (by omega) (by assumption) (by assumption) (by assumption) (by assumption) (by assumption) (by assumption) (Akk (by assumption)))
    | skip
theorem Ajm:Con TP k0 229 Af4:=Ad [] [(229000,0,some ⟨[1,2],[5],[],[kn],[],fun ρ ds=>0≤ni ds 0∧upto (ltN (ρ.d 32) 1 (ρ.n 33)) (ni ds 0),fun ρ ds=>(ρ.d 32).length-(ni ds 0).toNat,none⟩)] [] [] 3000 trivial trivial Go.Proofs.Tryz.func229 rfl rfl rfl rfl Aab (by kernel_rfl) Ac9
end Go.Vc

namespace Go.Vc
open Classical
def Kq (aa:List DV):List DV:=[vn (cntC (li aa 0) (ni aa 1) (li aa 0).length)]
def Jt:ConT:=⟨[kl,kn],[kn],fun aa=>LSh copyS (li aa 0),fun aa rs=>rs=Kq aa⟩
def Ge:Prop:=∀ (l0:LL) (x1:Int),Ob (LSh copyS l0)→∀ (R:List DV→Prop),Ob (∀ (res:List DV),res=[vn (cntC l0 x1 (l0.length))]→R res)→Ob ((0:Int)≤(0:Int)∧(0:Int)≤(l0.length:Int)∧(0:Int)=cntC l0 x1 (Int.toNat (0:Int)))∧∀ (g3:NV) (x4 x5:Int),Ob (0≤x4∧x4≤l0.length∧x5=cntC l0 x1 (x4.toNat))→∀ x6:Int,x6=l0.length→(x4<x6→Ob (0≤x4∧x4<l0.length)∧Ob (Shp kC l0)∧∀ x7 x8 l9 b10,Ob (l0[x4.toNat]?=some [dn x7,dn x8,D.fs l9,db b10])→(x7=x1→∀ x11:Int,x11=w64 (x5+1)→∀ x12:Int,x12=w64 (x4+1)→Ob (0≤x12∧x12≤l0.length∧x11=cntC l0 x1 (x12.toNat))∧Ob (l0.length-x12.toNat<l0.length-x4.toNat))∧(¬x7=x1→∀ x13:Int,x13=w64 (x4+1)→Ob (0≤x13∧x13≤l0.length∧x5=cntC l0 x1 (x13.toNat))∧Ob (l0.length-x13.toNat<l0.length-x4.toNat)))∧(¬x4<x6→Ob (R [vn x5]))
theorem Oi:Ge:=by
  delta Ge
  simp only [Ac,and_imp,true_and,and_true,List.cons.injEq,DV.c.injEq,DV.a.injEq,D.raw.injEq,D.fs.injEq,Value.bool.injEq,Value.int.injEq]
  repeat' first | assumption | exact DShs.tail (Aa (by assumption) (by assumption)) | exact shp32 (by assumption) | exact shp64 (by assumption) | exact shp2 (by assumption) | exact shpF (by assumption) | with_reducible intro _ | with_reducible apply And.intro
  all_goals (try (have e:=Ae ‹_=w64 (_+1)› (by omega) (by omega);subst e))
  all_goals first
    | assumption
    | omega
    | exact As9
    | exact shpCo (by assumption)
    | exact Ahq (by assumption) (by assumption) (by assumption) (by omega) (by omega) (by assumption) (by assumption)
    | exact Aox (by assumption) (by assumption) (by assumption) (by assumption)
    | (apply ‹∀ res:List DV,_=_→_›;exact congrArg (fun z=>[vn z]) (Ahr (by assumption) (by assumption) (by omega) (by omega)))
    | skip
theorem Sj:Con TP k0 149 Jt:=Ad [] [(149000,0,some ⟨[0,1],[6,5],[],[kn,kn],[],fun ρ ds=>0≤ni ds 0∧ni ds 0≤(ρ.d 0).length∧ni ds 1=cntC (ρ.d 0) (ρ.n 1) (ni ds 0).toNat,fun ρ ds=>(ρ.d 0).length-(ni ds 0).toNat,none⟩)] [] [] 3000 trivial trivial Go.Proofs.Tryz.func149 rfl rfl rfl rfl Ge (by kernel_rfl) Oi
end Go.Vc

namespace Go.Vc
open Classical
def Rk (aa:List DV):List DV:=[vb (decide (Ap (ai aa 0)))]
def Pt:ConT:=⟨[rkS worldS],[kb],fun aa=>DShs worldS (ai aa 0),fun aa rs=>rs=Rk aa⟩
def Iw:Prop:=∀ (x0 x1 x2 x3:Int) (l4 l5 l6 l7 l8:LL) (x9:Int),let N4:=(ltN l5 (0:Nat) x9);let N1:=[dn x0,dn x1,dn x2,dn x3,D.fs l4,D.fs l5,D.fs l6,D.fs l7,D.fs l8,dn x9];Ob (DShs worldS N1)→∀ (R:List DV→Prop),let N2:=(R [vb false]);Ob (∀ (res:List DV),res=[vb (decide (Ap N1))]→R res)→(x0≥1→(x0≤8→(x1≥1→(x1≤64→(x2≥1→(x2≤64→(x3≥1→(x3≤6→∀ x11:Int,x11=l4.length→(x11≠x0→Ob N2)∧(¬x11≠x0→(x9<0→Ob N2)∧(¬x9<0→(x9>1048575→Ob N2)∧(¬x9>1048575→Ob (DShs worldS N1)∧∀ b12,Ob ([vb b12]=[vb (decide (Kh N1))])→(b12=false→Ob N2)∧(¬b12=false→Ob (LSh copyS l5)∧∀ x13,Ob ([vn x13]=[vn (Bg l5)])→(x13≠0→Ob N2)∧(¬x13≠0→Ob (LSh loadS l6)∧∀ x14,Ob ([vn x14]=[vn (Dq l6)])→(x14≠0→Ob N2)∧(¬x14≠0→Ob (LSh entryS l7)∧∀ x15,Ob ([vn x15]=[vn (Ci l7)])→(x15≠0→Ob N2)∧(¬x15≠0→Ob ((0:Int)≤(0:Int)∧upto (Ck N1) (0:Int))∧∀ (g16:NV) (x17:Int),Ob (0≤x17∧upto (Ck N1) x17)→∀ x18:Int,x18=l4.length→(x17<x18→Ob (0≤x17∧x17<l4.length)∧Ob (Shp kN l4)∧∀ x19 x20 b21 x22 x23 x24 x25 x26 b27 l28 x29 b30 l31 x32 b33 l34 x35 b36 l37 x38 b39 x40 x41 l42 b43 x44 x45 l46 x47 x48 l49 l50 l51,let N0:=[dn x19,dn x20,db b21,dn x22,dn x23,dn x24,dn x25,dn x26,db b27,D.fs l28,dn x29,db b30,D.fs l31,dn x32,db b33,D.fs l34,dn x35,db b36,D.fs l37,dn x38,db b39,dn x40,dn x41,D.fs l42,db b43,dn x44,dn x45,D.fs l46,dn x47,dn x48,D.fs l49,D.fs l50,D.fs l51];Ob (l4[x17.toNat]?=some N0)→Ob (DShs nodeS N0)∧∀ b52,Ob ([vb b52]=[vb (decide (Au N0))])→(b52=false→Ob N2)∧(¬b52=false→(x19≠x17→Ob N2)∧(¬x19≠x17→Ob (DShs nodeS N0∧Bn l46=(0:Int))∧∀ b53,Ob ([vb b53]=[vb (decide (Bb N0 x9))])→(b53=false→Ob N2)∧(¬b53=false→(b21=false→∀ x54:Int,x54=w64 (x17+1)→Ob (0≤x54∧upto (Ck N1) x54)∧Ob (l4.length-x54.toNat<l4.length-x17.toNat))∧(¬b21=false→(x22=x1→(x48=x3→∀ x55:Int,x55=w64 (x17+1)→Ob (0≤x55∧upto (Ck N1) x55)∧Ob (l4.length-x55.toNat<l4.length-x17.toNat))∧(¬x48=x3→Ob N2))∧(¬x22=x1→Ob N2))))))∧(¬x17<x18→Ob ((0:Int)≤(0:Int)∧upto N4 (0:Int))∧∀ (g56:NV) (x57:Int),Ob (0≤x57∧upto N4 x57)→∀ x58:Int,x58=l5.length→(x57<x58→Ob (0≤x57∧x57<l5.length)∧Ob (Shp kC l5)∧∀ x59 x60 l61 b62,Ob (l5[x57.toNat]?=some [dn x59,dn x60,D.fs l61,db b62])→(x59≥x9→Ob N2)∧(¬x59≥x9→∀ x63:Int,x63=w64 (x57+1)→Ob (0≤x63∧upto N4 x63)∧Ob (l5.length-x63.toNat<l5.length-x57.toNat)))∧(¬x57<x58→Ob ((0:Int)≤(0:Int)∧upto (Ga N1) (0:Int))∧∀ (g64:NV) (x65:Int),let N3:=(0≤x65∧x65<l6.length);Ob (0≤x65∧upto (Ga N1) x65)→∀ x66:Int,x66=l6.length→(x65<x66→Ob N3∧Ob (Shp kL l6)∧∀ x67 x68 x69 b70 l71 x72 b73 l74 x75 b76 l77 x78 b79 l80 x81,Ob (l6[x65.toNat]?=some [dn x67,dn x68,dn x69,db b70,D.fs l71,dn x72,db b73,D.fs l74,dn x75,db b76,D.fs l77,dn x78,db b79,D.fs l80,dn x81])→(x67≥x9→Ob N2)∧(¬x67≥x9→Ob N3∧Ob (Shp kL l6)∧∀ x82 x83 x84 b85 l86 x87 b88 l89 x90 b91 l92 x93 b94 l95 x96,Ob (l6[x65.toNat]?=some [dn x82,dn x83,dn x84,db b85,D.fs l86,dn x87,db b88,D.fs l89,dn x90,db b91,D.fs l92,dn x93,db b94,D.fs l95,dn x96])→Ob N3∧Ob (Shp kL l6)∧∀ x97 x98 x99 b100 l101 x102 b103 l104 x105 b106 l107 x108 b109 l110 x111,Ob (l6[x65.toNat]?=some [dn x97,dn x98,dn x99,db b100,D.fs l101,dn x102,db b103,D.fs l104,dn x105,db b106,D.fs l107,dn x108,db b109,D.fs l110,dn x111])→Ob (LSh copyS l5)∧(x84≠cntC l5 x97 (l5.length)→Ob N2)∧(¬x84≠cntC l5 x97 (l5.length)→∀ x112:Int,x112=w64 (x65+1)→Ob (0≤x112∧upto (Ga N1) x112)∧Ob (l6.length-x112.toNat<l6.length-x65.toNat))))∧(¬x65<x66→Ob (R [vb true]))))))))))))∧(¬x3≤6→Ob N2))∧(¬x3≥1→Ob N2))∧(¬x2≤64→Ob N2))∧(¬x2≥1→Ob N2))∧(¬x1≤64→Ob N2))∧(¬x1≥1→Ob N2))∧(¬x0≤8→Ob N2))∧(¬x0≥1→Ob N2)
theorem Tl:Iw:=by
  delta Iw
  simp only [Ac,and_imp,forall_exists_index,true_and,and_true,List.cons.injEq,DV.c.injEq,DV.a.injEq,D.raw.injEq,D.fs.injEq,Value.bool.injEq,Value.int.injEq]
  intro x0 x1 x2 x3 l4 l5 l6 l7 l8 x9 hs R hR
  have hs2:=hs
  simp only [Ab,Af,Ai,Ak,rng64,true_and,and_true] at hs2
  obtain ⟨k0,k1,k2,k3,⟨k4,k5⟩,⟨k6,k7⟩,⟨k8,k9⟩,⟨k10,k11⟩,⟨k12,k13⟩,k14⟩:=hs2
  repeat' first | assumption | exact DShs.tail (Aa (by assumption) (by assumption)) | exact shp32 (by assumption) | exact shp64 (by assumption) | exact shp2 (by assumption) | exact shpF (by assumption) | with_reducible intro _ | with_reducible apply And.intro
  all_goals (try (have e:=Ae ‹_=w64 (_+1)› (by omega) (by omega);subst e))
  all_goals first
    | assumption
    | (exact fun i hi=>by omega)
    | omega
    | exact Aa (by assumption) (by assumption)
    | exact shpNo (by assumption)
    | exact shpCo (by assumption)
    | exact shpLo (by assumption)
    | (rw [Ag (by omega)];exact ⟨by assumption,As0 (by assumption) (by assumption) ‹_=decide (Au _)› (by assumption) (by assumption) (by assumption) (by assumption) (by assumption)⟩)
    | (rw [Ag (by omega)];exact ⟨by assumption,Asz (by assumption) (by assumption) ‹_=decide (Au _)› (by assumption) (by assumption) (by assumption) (by assumption) (by assumption) (by assumption)⟩)
    | (rw [Ag (by omega)];exact ⟨by assumption,Asy (by assumption) (by assumption) (by assumption) (by assumption)⟩)
    | (rw [Ag (by omega)];exact ⟨by assumption,Axq (by assumption) (by assumption)⟩)
    | (rw [Ag (by omega)];exact ⟨by assumption,Azz (by assumption) (by assumption) (by assumption) (by assumption) (by assumption)⟩)
    | (have z:=Abx ‹_=decide (Au _)› (by assumption);exact z)
    | exact hR _ (Aui Db (by assumption))
    | exact hR _ (Auh Db (by assumption))
    | exact hR _ (Aug Db (by assumption))
    | exact hR _ (Auf Db (by assumption))
    | exact hR _ (Aue Db (by assumption))
    | exact hR _ (Aud Db (by assumption))
    | exact hR _ (Auc Db (by assumption))
    | exact hR _ (Aub Db (by assumption))
    | exact hR _ (Aua Db (by assumption))
    | exact hR _ (At9 Db (by assumption))
    | exact hR _ (Azh Db (by assumption) (by assumption))
    | exact hR _ (Azg Db (decN ‹_=decide (Kh _)› (by assumption)))
    | exact hR _ (Azf Db (by assumption) (by assumption))
    | exact hR _ (Aze Db (by assumption) (by assumption))
    | exact hR _ (Azd Db (by assumption) (by assumption))
    | exact hR _ (Azb Db (by assumption) (by assumption))
    | exact hR _ (Aza Db (by assumption) (by assumption))
    | exact hR _ (Aal Db (Anb (by assumption) (by assumption) ‹_=decide (Au _)› (by assumption)) (by assumption) (by assumption) (by assumption))
    | exact hR _ (Aal Db (Ana (by assumption) (by assumption) (by assumption)) (by assumption) (by assumption) (by assumption))
    | exact hR _ (Aal Db (Am9 (by assumption) (by assumption) (by assumption) (by assumption)) (by assumption) (by assumption) (by assumption))
    | exact hR _ (Aal Db (Am8 (by assumption) (by assumption) (by assumption) (by assumption)) (by assumption) (by assumption) (by assumption))
    | exact hR _ (Aal Db (Am7 (by assumption) (by assumption) (by assumption) (by assumption)) (by assumption) (by assumption) (by assumption))
    | exact hR _ (Aal Db (Am6 (by assumption) (by assumption) (by assumption) (by assumption)) (by assumption) (by assumption) (by assumption))
    | exact hR _ (Azc Db (Au6 (by assumption) (by assumption)) (by assumption) (by assumption) (by assumption))
    | exact hR _ (At8 Db (Au8 (by assumption) (by assumption)) (by assumption) (by assumption) (by assumption))
    | exact hR _ (At8 Db (Arf (by assumption) (by assumption) (by assumption)) (by assumption) (by assumption) (by assumption))
    | exact hR _ (Akg Db (by assumption) (by assumption) (by assumption) (by assumption) (by assumption) (by assumption) (by assumption) (by assumption) (by assumption) (by assumption) (by assumption))
    | exact hR _ (Akg Db (by assumption) (Abw (by assumption) (by assumption) (by assumption) (by assumption) (by assumption) (by assumption)) (by assumption) (by assumption) (by assumption) (by assumption) (by assumption) (by assumption) (by assumption) (by assumption) (by assumption))
    | exact hR _ (Akg Db (Ai3 (by assumption) (by assumption) (by assumption) (by assumption) (by assumption) (by assumption) (by assumption) (by assumption) (by assumption) (by assumption) (by assumption) (by assumption) (by assumption) (by assumption)) (by assumption) (by assumption) (by assumption) (by assumption) (by assumption) (by assumption) (by assumption) (by assumption) (by assumption) (by assumption))
    | exact hR _ (Akg Db (Ai3 (by assumption) (by assumption) (by assumption) (by assumption) (by assumption) (by assumption) (by assumption) (by assumption) (by assumption) (by assumption) (by assumption) (by assumption) (by assumption) (by assumption)) (Abw (by assumption) (by assumption) (by assumption) (by assumption) (by assumption) (by assumption)) (by assumption) (by assumption) (by assumption) (by assumption) (by assumption) (by assumption) (by assumption) (by assumption) (by assumption))
    | skip
theorem Zc:Con TP k0 54 Pt:=Ad [(144,Pw),(145,Ju),(146,Hy),(147,Hx),(118,Uy),(229,Af4),(149,Jt)] [(54000,0,some ⟨[1],[3],[],[kn],[],fun ρ ds=>0≤ni ds 0∧upto (Ck [dn (ρ.n 0),dn (ρ.n 1),dn (ρ.n 2),dn (ρ.n 3), .fs (ρ.d 4), .fs (ρ.d 5), .fs (ρ.d 6), .fs (ρ.d 7), .fs (ρ.d 8),dn (ρ.n 9)]) (ni ds 0),fun ρ ds=>(ρ.d 4).length-(ni ds 0).toNat,none⟩),(54000,2,some ⟨[1],[4],[],[kn],[],fun ρ ds=>0≤ni ds 0∧upto (ltN (ρ.d 5) 0 (ρ.n 9)) (ni ds 0),fun ρ ds=>(ρ.d 5).length-(ni ds 0).toNat,none⟩),(54000,4,some ⟨[1],[5],[],[kn],[],fun ρ ds=>0≤ni ds 0∧upto (Ga [dn (ρ.n 0),dn (ρ.n 1),dn (ρ.n 2),dn (ρ.n 3), .fs (ρ.d 4), .fs (ρ.d 5), .fs (ρ.d 6), .fs (ρ.d 7), .fs (ρ.d 8),dn (ρ.n 9)]) (ni ds 0),fun ρ ds=>(ρ.d 6).length-(ni ds 0).toNat,none⟩)] [] [(144,Rn),(145,Kr),(146,Ic),(147,Ib),(118,Wb),(229,Ahd),(149,Kq)] 3000 ⟨Zf,Sk,Oo,On,Acp,Ajm,Sj,trivial⟩ ⟨fnq rfl rfl,fnq rfl rfl,fnq rfl rfl,fnq rfl rfl,fnq rfl rfl,fnq rfl rfl,fnq rfl rfl,trivial⟩ Go.Proofs.Tryz.func54 rfl rfl rfl rfl Iw (by kernel_rfl) Tl
end Go.Vc

namespace Go.Vc
open Classical
def Wa (aa:List DV):List DV:=[vn (Bo (ni aa 0) (li aa 1))]
def Ux:ConT:=⟨[kn,kl],[kn],fun aa=>LSh pairS (li aa 1),fun aa rs=>rs=Wa aa⟩
def Mh:Prop:=∀ (x0:Int) (l1:LL),Ob (LSh pairS l1)→∀ (R:List DV→Prop),Ob (∀ (res:List DV),res=[vn (Bo x0 l1)]→R res)→(x0<2→Ob (R [vn 2]))∧(¬x0<2→(x0>8→Ob (R [vn 2]))∧(¬x0>8→∀ x3:Int,x3=l1.length→(x3>64→Ob (R [vn 4]))∧(¬x3>64→Ob ((0:Int)≤(0:Int)∧upto (Mf x0 l1) (0:Int))∧∀ (g4:NV) (x5:Int),let N0:=(0≤x5∧x5<l1.length);Ob (0≤x5∧upto (Mf x0 l1) x5)→∀ x6:Int,x6=l1.length→(x5<x6→Ob N0∧Ob (Shp kP l1)∧∀ x7 x8,Ob (l1[x5.toNat]?=some [dn x7,dn x8])→(x7<0→Ob (R [vn 2]))∧(¬x7<0→Ob N0∧Ob (Shp kP l1)∧∀ x9 x10,Ob (l1[x5.toNat]?=some [dn x9,dn x10])→(x9≥x0→Ob (R [vn 2]))∧(¬x9≥x0→Ob N0∧Ob (Shp kP l1)∧∀ x11 x12,Ob (l1[x5.toNat]?=some [dn x11,dn x12])→(x12<0→Ob (R [vn 2]))∧(¬x12<0→Ob N0∧Ob (Shp kP l1)∧∀ x13 x14,Ob (l1[x5.toNat]?=some [dn x13,dn x14])→(x14≥x0→Ob (R [vn 2]))∧(¬x14≥x0→Ob N0∧Ob (Shp kP l1)∧∀ x15 x16,Ob (l1[x5.toNat]?=some [dn x15,dn x16])→Ob N0∧Ob (Shp kP l1)∧∀ x17 x18,Ob (l1[x5.toNat]?=some [dn x17,dn x18])→(x15=x18→Ob (R [vn 2]))∧(¬x15=x18→∀ x19:Int,x19=w64 (x5+1)→Ob (0≤x19∧upto (Mf x0 l1) x19)∧Ob (l1.length-x19.toNat<l1.length-x5.toNat)))))))∧(¬x5<x6→Ob (R [vn 0])))))
theorem Wy:Mh:=by
  delta Mh
  simp only [Ac,and_imp,true_and,and_true,List.cons.injEq,DV.c.injEq,DV.a.injEq,D.raw.injEq,D.fs.injEq,Value.bool.injEq,Value.int.injEq]
  repeat' first | assumption | exact DShs.tail (Aa (by assumption) (by assumption)) | exact shp32 (by assumption) | exact shp64 (by assumption) | exact shp2 (by assumption) | exact shpF (by assumption) | with_reducible intro _ | with_reducible apply And.intro
  all_goals (try (have e:=Ae ‹_=w64 (_+1)› (by omega) (by omega);subst e))
  all_goals first
    | assumption
    | (exact fun i hi=>by omega)
    | omega
    | exact shp2 (by assumption)
    | (rw [Ag (by omega)];exact ⟨by assumption,(Dd (by assumption)).2 ⟨by omega,by omega,by omega,by omega,by omega⟩⟩)
    | (rw [Ag (by omega)];exact ⟨by assumption,(Dd (by assumption)).2 (by grind)⟩)
    | (apply ‹∀ res:List DV,_=_→_›;rw [A0u (by omega)])
    | (apply ‹∀ res:List DV,_=_→_›;rw [A0t (k:=0) (by omega) (by omega)])
    | (apply ‹∀ res:List DV,_=_→_›;rw [Ay1 (by omega) (by omega) (fun hh=>by have:=(Dd (by assumption)).1 hh;omega) (by assumption) (by omega)])
    | (apply ‹∀ res:List DV,_=_→_›;rw [A0s (by omega) (by omega) (by assumption) (by omega)])
    | (apply ‹∀ res:List DV,_=_→_›;rw [Ay1 (by omega) (by omega) (fun hh=>by have:=(Dd (by assumption)).1 hh;grind) (by assumption) (by omega)])
    | skip
theorem Aco:Con TP k0 55 Ux:=Ad [] [(55000,0,some ⟨[0,1],[5],[],[kn],[],fun ρ ds=>0≤ni ds 0∧upto (Mf (ρ.n 0) (ρ.d 1)) (ni ds 0),fun ρ ds=>(ρ.d 1).length-(ni ds 0).toNat,none⟩)] [] [] 3000 trivial trivial Go.Proofs.Tryz.func55 rfl rfl rfl rfl Mh (by kernel_rfl) Wy
end Go.Vc

namespace Go.Vc
open Classical
def Ahb (aa:List DV):List DV:=[vn (plN (li aa 0) (ni aa 1) (li aa 0).length)]
def Af2:ConT:=⟨[kl,kn],[kn],fun aa=>LSh pairS (li aa 0),fun aa rs=>rs=Ahb aa⟩
def Zz:Prop:=∀ (l0:LL) (x1:Int),Ob (LSh pairS l0)→∀ (R:List DV→Prop),Ob (∀ (res:List DV),res=[vn (plN l0 x1 (l0.length))]→R res)→Ob ((0:Int)≤(0:Int)∧(0:Int)≤(l0.length:Int)∧plN l0 x1 (Int.toNat (0:Int))=(-1:Int))∧∀ (g3:NV) (x4:Int),Ob (0≤x4∧x4≤l0.length∧plN l0 x1 (x4.toNat)=(-1:Int))→∀ x5:Int,x5=l0.length→(x4<x5→Ob (0≤x4∧x4<l0.length)∧Ob (Shp kP l0)∧∀ x6 x7,Ob (l0[x4.toNat]?=some [dn x6,dn x7])→(x6=x1→Ob (R [vn x4]))∧(¬x6=x1→∀ x8:Int,x8=w64 (x4+1)→Ob (0≤x8∧x8≤l0.length∧plN l0 x1 (x8.toNat)=(-1:Int))∧Ob (l0.length-x8.toNat<l0.length-x4.toNat)))∧(¬x4<x5→Ob (R [vn (-1)]))
theorem Ac7:Zz:=by
  delta Zz
  simp only [Ac,and_imp,true_and,and_true,List.cons.injEq,DV.c.injEq,DV.a.injEq,D.raw.injEq,D.fs.injEq,Value.bool.injEq,Value.int.injEq]
  repeat' first | assumption | exact DShs.tail (Aa (by assumption) (by assumption)) | exact shp32 (by assumption) | exact shp64 (by assumption) | exact shp2 (by assumption) | exact shpF (by assumption) | with_reducible intro _ | with_reducible apply And.intro
  all_goals (try (have e:=Ae ‹_=w64 (_+1)› (by omega) (by omega);subst e))
  all_goals first
    | assumption
    | rfl
    | omega
    | exact shp2 (by assumption)
    | exact Aw7 (by assumption) (by assumption) (by assumption) (by assumption)
    | (apply ‹∀ res:List DV,_=_→_›;exact Aul (by assumption) (by assumption) (by assumption) (by omega) (by assumption))
    | (apply ‹∀ res:List DV,_=_→_›;exact Aum (by assumption) (by assumption) (by assumption) (by assumption) (by assumption))
    | skip
theorem Ajk:Con TP k0 56 Af2:=Ad [] [(56000,0,some ⟨[0,1],[5],[],[kn],[],fun ρ ds=>0≤ni ds 0∧ni ds 0≤(ρ.d 0).length∧plN (ρ.d 0) (ρ.n 1) (ni ds 0).toNat = -1,fun ρ ds=>(ρ.d 0).length-(ni ds 0).toNat,none⟩)] [] [] 3000 trivial trivial Go.Proofs.Tryz.func56 rfl rfl rfl rfl Zz (by kernel_rfl) Ac7
end Go.Vc

namespace Go.Vc
open Classical
def Aha (aa:List DV):List DV:=Bm (ai aa 0) (li aa 1)
def Af1:ConT:=⟨[rkS worldS,kl],[kl,kn],fun aa=>DShs worldS (ai aa 0)∧LSh pairS (li aa 1),fun aa rs=>rs=Aha aa⟩
def Zy:Prop:=let N3:=[d8 6,dn 0,dn 0,dn 0,d64 0];∀ (x0 x1 x2 x3:Int) (l4 l5 l6 l7 l8:LL) (x9:Int) (l10:LL),let N0:=[dn x0,dn x1,dn x2,dn x3,D.fs l4,D.fs l5,D.fs l6,D.fs l7,D.fs l8,dn x9];let N4:=(Me N0 l10);Ob (DShs worldS N0∧LSh pairS l10)→∀ (R:List DV→Prop),Ob (∀ (res:List DV),res=Bm N0 l10→R res)→Ob (DShs worldS N0)∧∀ b12,Ob ([vb b12]=[vb (decide (Ap N0))])→(b12=false→Ob (R [vl [],vn 8]))∧(¬b12=false→∀ x13:Int,x13=l4.length→Ob (LSh pairS l10)∧∀ x14,Ob ([vn x14]=[vn (Bo x13 l10)])→(x14≠0→Ob (R [vl [],vn x14]))∧(¬x14≠0→∀ x15:Int,x15=l5.length→(x15>0→Ob (R [vl [],vn 13]))∧(¬x15>0→Ob ((0:Int)≤(0:Int)∧(0:Int)≤(l10.length:Int)∧([]:LL)=[]∧upto N4 (0:Int))∧∀ (g16:NV) (x17:Int) (l18:LL),let N2:=(0≤x17∧x17<l10.length);Ob (0≤x17∧x17≤l10.length∧l18=stL N0 l10 (x17.toNat)∧upto N4 x17)→∀ x19:Int,x19=l10.length→(x17<x19→Ob N2∧Ob (Shp kP l10)∧∀ x20 x21,Ob (l10[x17.toNat]?=some [dn x20,dn x21])→Ob (0≤x20∧x20<l4.length)∧Ob (Shp kN l4)∧∀ x22 x23 b24 x25 x26 x27 x28 x29 b30 l31 x32 b33 l34 x35 b36 l37 x38 b39 l40 x41 b42 x43 x44 l45 b46 x47 x48 l49 x50 x51 l52 l53 l54,Ob (l4[x20.toNat]?=some [dn x22,dn x23,db b24,dn x25,dn x26,dn x27,dn x28,dn x29,db b30,D.fs l31,dn x32,db b33,D.fs l34,dn x35,db b36,D.fs l37,dn x38,db b39,D.fs l40,dn x41,db b42,dn x43,dn x44,D.fs l45,db b46,dn x47,dn x48,D.fs l49,dn x50,dn x51,D.fs l52,D.fs l53,D.fs l54])→Ob N2∧Ob (Shp kP l10)∧∀ x55 x56,Ob (l10[x17.toNat]?=some [dn x55,dn x56])→Ob (LSh pairS l52)∧∀ x57,Ob ([vn x57]=[vn (plN l52 x56 (l52.length))])→(x57<0→Ob (R [vl [],vn 6]))∧(¬x57<0→Ob N2∧Ob (Shp kP l10)∧∀ x58 x59,Ob (l10[x17.toNat]?=some [dn x58,dn x59])→∀ x60,let N1:=[[d8 3,dn x58,dn 0,dn 0,d64 x60],N3,N3];x60=IntKind.wrap IntKind.u64 x57→Ob (l18.length+List.length N1≤(1048576:Nat))∧∀ (l61:LL),l61=l18++N1→∀ x62:Int,x62=w64 (x17+1)→Ob (0≤x62∧x62≤l10.length∧l61=stL N0 l10 (x62.toNat)∧upto N4 x62)∧Ob (l10.length-x62.toNat<l10.length-x17.toNat)))∧(¬x17<x19→Ob (R [vl l18,vn 0])))))
theorem Ac6:Zy:=by
  delta Zy
  simp only [Ac,and_imp,forall_exists_index,true_and,and_true,List.cons.injEq,DV.c.injEq,DV.a.injEq,D.raw.injEq,D.fs.injEq,Value.bool.injEq,Value.int.injEq]
  intro x0 x1 x2 x3 l4 l5 l6 l7 l8 x9 l10 hs hn10 hs10 R hR
  have hs2:=hs
  simp only [Ab,Af,Ai,Ak,rng64,true_and,and_true] at hs2
  obtain ⟨k0,k1,k2,k3,⟨k4,k5⟩,⟨k6,k7⟩,⟨k8,k9⟩,⟨k10,k11⟩,⟨k12,k13⟩,k14⟩:=hs2
  repeat' first | assumption | exact DShs.tail (Aa (by assumption) (by assumption)) | exact shp32 (by assumption) | exact shp64 (by assumption) | exact shp2 (by assumption) | exact shpF (by assumption) | with_reducible intro _ | with_reducible apply And.intro
  all_goals (try (rename l10[(_:Nat)]?=some [dn _,dn _]=>hB;revert hB;rename l10[(_:Nat)]?=some [dn _,dn _]=>hA;intro hB;have e:=Option.some.inj (hA.symm.trans hB);clear hB;simp only [List.cons.injEq,DV.c.injEq,DV.a.injEq,D.raw.injEq,D.fs.injEq,Value.bool.injEq,Value.int.injEq,true_and,and_true] at e;obtain ⟨rfl,rfl⟩:=e))
  all_goals (try (rename l10[(_:Nat)]?=some [dn _,dn _]=>hB;revert hB;rename l10[(_:Nat)]?=some [dn _,dn _]=>hA;intro hB;have e:=Option.some.inj (hA.symm.trans hB);clear hB;simp only [List.cons.injEq,DV.c.injEq,DV.a.injEq,D.raw.injEq,D.fs.injEq,Value.bool.injEq,Value.int.injEq,true_and,and_true] at e;obtain ⟨rfl,rfl⟩:=e))
  all_goals (try (have hw:=decY ‹_=decide (Ap _)› (by assumption)))
  all_goals (try (have hz:=(Ak.1 (Ab.1 (Ab.1 (Ab.1 (Dw (Aa ‹l4[(_:Nat)]?=some (dn _::dn _::db _::_)› k5)).2.2.2.1).2).2).1);obtain ⟨hz1,hz2⟩:=hz))
  all_goals (try (have hmt:=Ai9 (by assumption) (by assumption) (by assumption);obtain ⟨hm1,hm2,hm3⟩:=hmt))
  all_goals (try (have e:=Ae ‹_=w64 (_+1)› (by omega) (by omega);subst e))
  all_goals first
    | assumption
    | (exact fun i hi=>by omega)
    | omega
    | rfl
    | exact shp2 (by assumption)
    | exact shpN (by assumption)
    | (have z:=Ai9 (by assumption) (by assumption) (by assumption);omega)
    | exact Ayn
    | exact shp2 hz2
    | (have z:=(Dw (Aa (by assumption) k5)).2.2.2.1;exact z)
    | (have z:=(Dw (Aa (by assumption) k5)).2.2.2.1;exact (Ak.1 (Ab.1 (Ab.1 (Ab.1 z).2).2).1).1)
    | (have z:=(Dw (Aa (by assumption) k5)).2.2.2.1;exact (Ak.1 (Ab.1 (Ab.1 (Ab.1 z).2).2).1).2)
    | (have z:=Ai9 (by assumption) (by assumption) (by assumption);have z2:=congrArg List.length ‹_=stL _ _ _›;rw [Adq] at z2;simp only [List.length_cons,List.length_nil];omega)
    | exact hR _ (A0z (by assumption) (by assumption))
    | exact hR _ (A0y (by assumption) (by assumption))
    | exact hR _ (A0x hw (by assumption) (by assumption) (by assumption))
    | exact hR _ (A0w hw (by assumption) (by assumption) (by assumption) (by assumption) (by assumption))
    | exact hR _ (Azy hw (by assumption) (by assumption) (by assumption) (by assumption) (by assumption) (by assumption) (by assumption) (by assumption) (by assumption) (by assumption))
    | exact hR _ (A0v hw (by assumption) (by assumption) (by assumption) (by assumption) (by assumption) (Azi (by assumption) (by assumption) (by assumption) (by assumption)) (by assumption))
    | exact Age (by assumption) (by assumption) (by assumption) (Asn (by assumption) (by assumption) (by assumption) (by assumption) (by assumption) (by assumption)).1 (by assumption)
    | (rw [Ag (by omega)];exact ⟨by assumption,(Asn (by assumption) (by assumption) (by assumption) (by assumption) (by assumption) (by assumption)).2⟩)
    | skip
theorem Ajj:Con TP k0 13 Af1:=Ad [(54,Pt),(55,Ux),(56,Af2)] [(13000,0,some ⟨[1,2],[8],[],[kn],[⟨7,123,5,true, .tmp⟩],fun ρ ds=>0≤ni ds 0∧ni ds 0≤(ρ.d 10).length∧li ds 1=stL [dn (ρ.n 0),dn (ρ.n 1),dn (ρ.n 2),dn (ρ.n 3), .fs (ρ.d 4), .fs (ρ.d 5), .fs (ρ.d 6), .fs (ρ.d 7), .fs (ρ.d 8),dn (ρ.n 9)] (ρ.d 10) (ni ds 0).toNat∧upto (Me [dn (ρ.n 0),dn (ρ.n 1),dn (ρ.n 2),dn (ρ.n 3), .fs (ρ.d 4), .fs (ρ.d 5), .fs (ρ.d 6), .fs (ρ.d 7), .fs (ρ.d 8),dn (ρ.n 9)] (ρ.d 10)) (ni ds 0),fun ρ ds=>(ρ.d 10).length-(ni ds 0).toNat,none⟩)] [] [(54,Rk),(55,Wa),(56,Ahb)] 3000 ⟨Zc,Aco,Ajk,trivial⟩ ⟨fnq rfl rfl,fnq rfl rfl,fnq rfl rfl,trivial⟩ Go.Proofs.Tryz.func13 rfl rfl rfl rfl Zy (by kernel_rfl) Ac6
end Go.Vc

namespace Go.Vc
open Classical
def Ahf (aa:List DV):List DV:=[vb true]
def Af6:ConT:=⟨[kl,kl],[kb],fun aa=>LSh [.int .u8,s64,s64,s64, .int .u64] (li aa 0)∧eqQ (li aa 0) (li aa 1),fun aa rs=>rs=Ahf aa⟩
def Aad:Prop:=let N0:=[Kd.int IntKind.u8,Kd.int IntKind.i64,Kd.int IntKind.i64,Kd.int IntKind.i64,Kd.int IntKind.u64];∀ (l0 l1:LL),Ob (LSh [Sh.int IntKind.u8,s64,s64,s64,Sh.int IntKind.u64] l0∧eqQ l0 l1)→∀ (R:List DV→Prop),Ob (∀ (res:List DV),res=[vb true]→R res)→∀ x3:Int,x3=l0.length→∀ x4:Int,x4=l1.length→(x3≠x4→Ob (R [vb false]))∧(¬x3≠x4→Ob ((0:Int)≤(0:Int)∧(0:Int)≤(l0.length:Int))∧∀ (g5:NV) (x6:Int),Ob (0≤x6∧x6≤l0.length)→∀ x7:Int,x7=l0.length→(x6<x7→Ob (0≤x6∧x6<l0.length)∧Ob (Shp N0 l0)∧∀ x8 x9 x10 x11 x12,Ob (l0[x6.toNat]?=some [d8 x8,dn x9,dn x10,dn x11,d64 x12])→Ob (0≤x6∧x6<l1.length)∧Ob (Shp N0 l1)∧∀ (x13 x14 x15 x16 x17:Int),let N1:=(x8=x13∧x9=x14∧x10=x15∧x11=x16∧x12=x17);Ob (l1[x6.toNat]?=some [d8 x13,dn x14,dn x15,dn x16,d64 x17])→(¬N1→Ob (R [vb false]))∧(¬¬N1→∀ x18:Int,x18=w64 (x6+1)→Ob (0≤x18∧x18≤l0.length)∧Ob (l0.length-x18.toNat<l0.length-x6.toNat)))∧(¬x6<x7→Ob (R [vb true])))
theorem Adb:Aad:=by
  delta Aad
  simp only [Ac,and_imp,forall_exists_index,true_and,and_true,List.cons.injEq,DV.c.injEq,DV.a.injEq,D.raw.injEq,D.fs.injEq,Value.bool.injEq,Value.int.injEq]
  intro l0 l1 hl hs he R hR
  have he:l0=l1:=he
  subst he
  repeat' first | assumption | exact DShs.tail (Aa (by assumption) (by assumption)) | exact shp32 (by assumption) | exact shp64 (by assumption) | exact shp2 (by assumption) | exact shpF (by assumption) | with_reducible intro _ | with_reducible apply And.intro
  all_goals (try (have e:=Ae ‹_=w64 (_+1)› (by omega) (by omega);subst e))
  all_goals first
    | assumption
    | omega
    | exact DSh.shp hs
    | exact hR _ rfl
    | exact Aa (by assumption) (by assumption)
    | exact Ig (by assumption) (by assumption)
    | exact If (by assumption) (by assumption)
    | exact DShs.tail (Aa (by assumption) (by assumption))
    | exact vb_no ‹_=[vb true]› ‹_=false›
    | (exfalso;omega)
    | grind
    | skip
theorem Ajo:Con TP k0 14 Af6:=Ad [] [(14000,0,some ⟨[0,1],[5],[],[kn],[],fun ρ ds=>0≤ni ds 0∧ni ds 0≤(ρ.d 0).length,fun ρ ds=>(ρ.d 0).length-(ni ds 0).toNat,none⟩)] [] [] 3000 trivial trivial Go.Proofs.Tryz.func14 rfl rfl rfl rfl Aad (by kernel_rfl) Adb
end Go.Vc

namespace Go.Vc
open Classical
def Anj (aa:List DV):List DV:=[vb true]
def Ala:ConT:=⟨[kl,kl],[kb],fun aa=>LSh [s32] (li aa 0)∧eqQ (li aa 0) (li aa 1),fun aa rs=>rs=Anj aa⟩
def Afk:Prop:=∀ (l0 l1:LL),Ob (LSh [s32] l0∧eqQ l0 l1)→∀ (R:List DV→Prop),Ob (∀ (res:List DV),res=[vb true]→R res)→∀ x3:Int,x3=l0.length→∀ x4:Int,x4=l1.length→(x3≠x4→Ob (R [vb false]))∧(¬x3≠x4→Ob ((0:Int)≤(0:Int)∧(0:Int)≤(l0.length:Int))∧∀ (g5:NV) (x6:Int),Ob (0≤x6∧x6≤l0.length)→∀ x7:Int,x7=l0.length→(x6<x7→Ob (0≤x6∧x6<l0.length)∧Ob (Shp kU l0)∧∀ x8,Ob (l0[x6.toNat]?=some [d32 x8])→Ob (0≤x6∧x6<l1.length)∧Ob (Shp kU l1)∧∀ x9,Ob (l1[x6.toNat]?=some [d32 x9])→(x8≠x9→Ob (R [vb false]))∧(¬x8≠x9→∀ x10:Int,x10=w64 (x6+1)→Ob (0≤x10∧x10≤l0.length)∧Ob (l0.length-x10.toNat<l0.length-x6.toNat)))∧(¬x6<x7→Ob (R [vb true])))
theorem Aie:Afk:=by
  delta Afk
  simp only [Ac,and_imp,forall_exists_index,true_and,and_true,List.cons.injEq,DV.c.injEq,DV.a.injEq,D.raw.injEq,D.fs.injEq,Value.bool.injEq,Value.int.injEq]
  intro l0 l1 hl hs he R hR
  have he:l0=l1:=he
  subst he
  repeat' first | assumption | exact DShs.tail (Aa (by assumption) (by assumption)) | exact shp32 (by assumption) | exact shp64 (by assumption) | exact shp2 (by assumption) | exact shpF (by assumption) | with_reducible intro _ | with_reducible apply And.intro
  all_goals (try (have e:=Ae ‹_=w64 (_+1)› (by omega) (by omega);subst e))
  all_goals first
    | assumption
    | omega
    | exact shp32 hs
    | exact hR _ rfl
    | exact Aa (by assumption) (by assumption)
    | exact Ig (by assumption) (by assumption)
    | exact If (by assumption) (by assumption)
    | exact DShs.tail (Aa (by assumption) (by assumption))
    | exact vb_no ‹_=[vb true]› ‹_=false›
    | (exfalso;omega)
    | grind
    | skip
theorem Aoj:Con TP k0 275 Ala:=Ad [] [(275000,0,some ⟨[0,1],[5],[],[kn],[],fun ρ ds=>0≤ni ds 0∧ni ds 0≤(ρ.d 0).length,fun ρ ds=>(ρ.d 0).length-(ni ds 0).toNat,none⟩)] [] [] 3000 trivial trivial Go.Proofs.Tryz.func275 rfl rfl rfl rfl Afk (by kernel_rfl) Aie
end Go.Vc

namespace Go.Vc
open Classical
def Ax6 (aa:List DV):List DV:=[vb true]
def Awm:ConT:=⟨[rkS dyS,rkS dyS],[kb],fun aa=>DShs dyS (ai aa 0)∧eqD (ai aa 0) (ai aa 1),fun aa rs=>rs=Ax6 aa⟩
def Awd:Prop:=∀ b0 l1 x2 b3 l4 x5,Ob (DShs dyS [db b0,D.fs l1,dn x2]∧eqD [db b0,D.fs l1,dn x2] [db b3,D.fs l4,dn x5])→∀ (R:List DV→Prop),Ob (∀ (res:List DV),res=[vb true]→R res)→(b0=b3→(x2=x5→Ob (LSh [s32] l1∧eqQ l1 l4)∧∀ b7,Ob ([vb b7]=[vb true])→Ob (R [vb b7]))∧(¬x2=x5→Ob (R [vb false])))∧(¬b0=b3→Ob (R [vb false]))
theorem Aps:Awd:=by
  delta Awd
  simp only [Ac,and_imp,forall_exists_index,true_and,and_true,List.cons.injEq,DV.c.injEq,DV.a.injEq,D.raw.injEq,D.fs.injEq,Value.bool.injEq,Value.int.injEq]
  intro a0 a1 a2 b0 b1 b2 hs he R hR
  have he:_=_:=he
  simp only [List.cons.injEq,D.raw.injEq,D.fs.injEq,Value.bool.injEq,Value.int.injEq,and_true,true_and] at he
  obtain ⟨rfl,rfl,rfl⟩:=he
  repeat' first | assumption | exact DShs.tail (Aa (by assumption) (by assumption)) | exact shp32 (by assumption) | exact shp64 (by assumption) | exact shp2 (by assumption) | exact shpF (by assumption) | with_reducible intro _ | with_reducible apply And.intro
  all_goals first
    | assumption
    | exact hR _ rfl
    | exact Kw _
    | exact Sc _
    | (exfalso;exact ‹¬_=_› rfl)
    | (exfalso;exact absurd rfl ‹_≠_›)
    | exact vb_no ‹_=[vb true]› ‹_=false›
    | (subst_vars;exact hR _ rfl)
    | (exfalso;exact bno1 ‹_=false› ‹_=true›)
    | (exfalso;simp_all;done)
    | (simp only [Ab,Af,Ai,Ah,Ak,rng64,true_and,and_true] at *;simp_all;done)
    | skip
theorem Avy:Con TP k0 230 Awm:=Ad [(275,Ala)] [] [] [(275,Anj)] 3000 ⟨Aoj,trivial⟩ ⟨fnq rfl rfl,trivial⟩ Go.Proofs.Tryz.func230 rfl rfl rfl rfl Awd (by kernel_rfl) Aps
end Go.Vc

namespace Go.Vc
open Classical
def Yx (aa:List DV):List DV:=[vb true]
def Xo:ConT:=⟨[rkS massS,rkS massS],[kb],fun aa=>DShs massS (ai aa 0)∧eqD (ai aa 0) (ai aa 1),fun aa rs=>rs=Yx aa⟩
def Afj:Prop:=∀ b0 l1 x2 b3 l4 x5 b6 l7 x8 b9 l10 x11 b12 l13 x14 b15 l16 x17 b18 l19 x20 b21 l22 x23,let N1:=[db b9,D.fs l10,dn x11];let N0:=[db b0,D.fs l1,dn x2,db b3,D.fs l4,dn x5,db b6,D.fs l7,dn x8,db b9,D.fs l10,dn x11];Ob (DShs massS N0∧eqD N0 [db b12,D.fs l13,dn x14,db b15,D.fs l16,dn x17,db b18,D.fs l19,dn x20,db b21,D.fs l22,dn x23])→∀ (R:List DV→Prop),let N2:=(R [vb false]);Ob (∀ (res:List DV),res=[vb true]→R res)→Ob (DShs dyS [db b0,D.fs l1,dn x2]∧eqD [db b0,D.fs l1,dn x2] [db b12,D.fs l13,dn x14])∧∀ b25,Ob ([vb b25]=[vb true])→(b25=true→Ob (DShs dyS [db b3,D.fs l4,dn x5]∧eqD [db b3,D.fs l4,dn x5] [db b15,D.fs l16,dn x17])∧∀ b26,Ob ([vb b26]=[vb true])→(b26=true→Ob (DShs dyS [db b6,D.fs l7,dn x8]∧eqD [db b6,D.fs l7,dn x8] [db b18,D.fs l19,dn x20])∧∀ b27,Ob ([vb b27]=[vb true])→(b27=true→Ob (DShs dyS N1∧eqD N1 [db b21,D.fs l22,dn x23])∧∀ b28,Ob ([vb b28]=[vb true])→Ob (R [vb b28]))∧(b27=false→Ob N2))∧(b26=false→Ob N2))∧(b25=false→Ob N2)
theorem Aid:Afj:=by
  delta Afj
  simp only [Ac,and_imp,forall_exists_index,true_and,and_true,List.cons.injEq,DV.c.injEq,DV.a.injEq,D.raw.injEq,D.fs.injEq,Value.bool.injEq,Value.int.injEq]
  intro a0 a1 a2 a3 a4 a5 a6 a7 a8 a9 a10 a11 b0 b1 b2 b3 b4 b5 b6 b7 b8 b9 b10 b11 hs he R hR
  have he:_=_:=he
  simp only [List.cons.injEq,D.raw.injEq,D.fs.injEq,Value.bool.injEq,Value.int.injEq,and_true,true_and] at he
  obtain ⟨rfl,rfl,rfl,rfl,rfl,rfl,rfl,rfl,rfl,rfl,rfl,rfl⟩:=he
  repeat' first | assumption | exact DShs.tail (Aa (by assumption) (by assumption)) | exact shp32 (by assumption) | exact shp64 (by assumption) | exact shp2 (by assumption) | exact shpF (by assumption) | with_reducible intro _ | with_reducible apply And.intro
  all_goals first
    | assumption
    | exact hR _ rfl
    | exact Kw _
    | exact Sc _
    | (exfalso;exact ‹¬_=_› rfl)
    | (exfalso;exact absurd rfl ‹_≠_›)
    | exact vb_no ‹_=[vb true]› ‹_=false›
    | (subst_vars;exact hR _ rfl)
    | (exfalso;exact bno1 ‹_=false› ‹_=true›)
    | (exfalso;simp_all;done)
    | (simp only [Ab,Af,Ai,Ah,Ak,rng64,true_and,and_true] at *;simp_all;done)
    | skip
theorem Sl:Con TP k0 152 Xo:=Ad [(230,Awm)] [] [] [(230,Ax6)] 3000 ⟨Avy,trivial⟩ ⟨fnq rfl rfl,trivial⟩ Go.Proofs.Tryz.func152 rfl rfl rfl rfl Afj (by kernel_rfl) Aid
end Go.Vc

namespace Go.Vc
open Classical
def Ang (aa:List DV):List DV:=[vb true]
def Ak7:ConT:=⟨[kl,kl],[kb],fun aa=>LSh [s32] (li aa 0)∧eqQ (li aa 0) (li aa 1),fun aa rs=>rs=Ang aa⟩
def Aff:Prop:=∀ (l0 l1:LL),Ob (LSh [s32] l0∧eqQ l0 l1)→∀ (R:List DV→Prop),Ob (∀ (res:List DV),res=[vb true]→R res)→∀ x3:Int,x3=l0.length→∀ x4:Int,x4=l1.length→(x3≠x4→Ob (R [vb false]))∧(¬x3≠x4→Ob ((0:Int)≤(0:Int)∧(0:Int)≤(l0.length:Int))∧∀ (g5:NV) (x6:Int),Ob (0≤x6∧x6≤l0.length)→∀ x7:Int,x7=l0.length→(x6<x7→Ob (0≤x6∧x6<l0.length)∧Ob (Shp kU l0)∧∀ x8,Ob (l0[x6.toNat]?=some [d32 x8])→Ob (0≤x6∧x6<l1.length)∧Ob (Shp kU l1)∧∀ x9,Ob (l1[x6.toNat]?=some [d32 x9])→(x8≠x9→Ob (R [vb false]))∧(¬x8≠x9→∀ x10:Int,x10=w64 (x6+1)→Ob (0≤x10∧x10≤l0.length)∧Ob (l0.length-x10.toNat<l0.length-x6.toNat)))∧(¬x6<x7→Ob (R [vb true])))
theorem Ah9:Aff:=by
  delta Aff
  simp only [Ac,and_imp,forall_exists_index,true_and,and_true,List.cons.injEq,DV.c.injEq,DV.a.injEq,D.raw.injEq,D.fs.injEq,Value.bool.injEq,Value.int.injEq]
  intro l0 l1 hl hs he R hR
  have he:l0=l1:=he
  subst he
  repeat' first | assumption | exact DShs.tail (Aa (by assumption) (by assumption)) | exact shp32 (by assumption) | exact shp64 (by assumption) | exact shp2 (by assumption) | exact shpF (by assumption) | with_reducible intro _ | with_reducible apply And.intro
  all_goals (try (have e:=Ae ‹_=w64 (_+1)› (by omega) (by omega);subst e))
  all_goals first
    | assumption
    | omega
    | exact shp32 hs
    | exact hR _ rfl
    | exact Aa (by assumption) (by assumption)
    | exact Ig (by assumption) (by assumption)
    | exact If (by assumption) (by assumption)
    | exact DShs.tail (Aa (by assumption) (by assumption))
    | exact vb_no ‹_=[vb true]› ‹_=false›
    | (exfalso;omega)
    | grind
    | skip
theorem Aog:Con TP k0 205 Ak7:=Ad [] [(205000,0,some ⟨[0,1],[5],[],[kn],[],fun ρ ds=>0≤ni ds 0∧ni ds 0≤(ρ.d 0).length,fun ρ ds=>(ρ.d 0).length-(ni ds 0).toNat,none⟩)] [] [] 3000 trivial trivial Go.Proofs.Tryz.func205 rfl rfl rfl rfl Aff (by kernel_rfl) Ah9
end Go.Vc

namespace Go.Vc
open Classical
def Aeg (aa:List DV):List DV:=[vb true]
def Adl:ConT:=⟨[rkS partS,rkS partS],[kb],fun aa=>DShs partS (ai aa 0)∧eqD (ai aa 0) (ai aa 1),fun aa rs=>rs=Aeg aa⟩
def Afh:Prop:=∀ b0 l1 x2 b3 l4 x5 b6 l7 x8 b9 l10 x11 b12 x13 x14 l15 b16 l17 x18 b19 l20 x21 b22 l23 x24 b25 l26 x27 b28 x29 x30 l31,let N1:=[db b0,D.fs l1,dn x2,db b3,D.fs l4,dn x5,db b6,D.fs l7,dn x8,db b9,D.fs l10,dn x11];let N0:=[db b0,D.fs l1,dn x2,db b3,D.fs l4,dn x5,db b6,D.fs l7,dn x8,db b9,D.fs l10,dn x11,db b12,dn x13,dn x14,D.fs l15];Ob (DShs partS N0∧eqD N0 [db b16,D.fs l17,dn x18,db b19,D.fs l20,dn x21,db b22,D.fs l23,dn x24,db b25,D.fs l26,dn x27,db b28,dn x29,dn x30,D.fs l31])→∀ (R:List DV→Prop),Ob (∀ (res:List DV),res=[vb true]→R res)→Ob (DShs massS N1∧eqD N1 [db b16,D.fs l17,dn x18,db b19,D.fs l20,dn x21,db b22,D.fs l23,dn x24,db b25,D.fs l26,dn x27])∧∀ b33,Ob ([vb b33]=[vb true])→(b33=true→(b12=b28∧x13=x29∧x14=x30→Ob (LSh [s32] l15∧eqQ l15 l31)∧∀ b34,Ob ([vb b34]=[vb true])→Ob (R [vb b34]))∧(¬(b12=b28∧x13=x29∧x14=x30)→Ob (R [vb false])))∧(b33=false→Ob (R [vb false]))
theorem Aib:Afh:=by
  delta Afh
  simp only [Ac,and_imp,forall_exists_index,true_and,and_true,List.cons.injEq,DV.c.injEq,DV.a.injEq,D.raw.injEq,D.fs.injEq,Value.bool.injEq,Value.int.injEq]
  intro a0 a1 a2 a3 a4 a5 a6 a7 a8 a9 a10 a11 a12 a13 a14 a15 b0 b1 b2 b3 b4 b5 b6 b7 b8 b9 b10 b11 b12 b13 b14 b15 hs he R hR
  have he:_=_:=he
  simp only [List.cons.injEq,D.raw.injEq,D.fs.injEq,Value.bool.injEq,Value.int.injEq,and_true,true_and] at he
  obtain ⟨rfl,rfl,rfl,rfl,rfl,rfl,rfl,rfl,rfl,rfl,rfl,rfl,rfl,rfl,rfl,rfl⟩:=he
  repeat' first | assumption | exact DShs.tail (Aa (by assumption) (by assumption)) | exact shp32 (by assumption) | exact shp64 (by assumption) | exact shp2 (by assumption) | exact shpF (by assumption) | with_reducible intro _ | with_reducible apply And.intro
  all_goals first
    | assumption
    | exact hR _ rfl
    | exact Kw _
    | exact Sc _
    | (exfalso;exact ‹¬_=_› rfl)
    | (exfalso;exact absurd rfl ‹_≠_›)
    | exact vb_no ‹_=[vb true]› ‹_=false›
    | (subst_vars;exact hR _ rfl)
    | (exfalso;exact bno1 ‹_=false› ‹_=true›)
    | (exfalso;simp_all;done)
    | (simp only [Ab,Af,Ai,Ah,Ak,rng64,true_and,and_true] at *;simp_all;done)
    | skip
theorem Acs:Con TP k0 128 Adl:=Ad [(152,Xo),(205,Ak7)] [] [] [(152,Yx),(205,Ang)] 3000 ⟨Sl,Aog,trivial⟩ ⟨fnq rfl rfl,fnq rfl rfl,trivial⟩ Go.Proofs.Tryz.func128 rfl rfl rfl rfl Afh (by kernel_rfl) Aib
end Go.Vc

namespace Go.Vc
open Classical
def Ank (aa:List DV):List DV:=[vb true]
def Alb:ConT:=⟨[kl,kl],[kb],fun aa=>LSh [s64] (li aa 0)∧eqQ (li aa 0) (li aa 1),fun aa rs=>rs=Ank aa⟩
def Afl:Prop:=∀ (l0 l1:LL),Ob (LSh [s64] l0∧eqQ l0 l1)→∀ (R:List DV→Prop),Ob (∀ (res:List DV),res=[vb true]→R res)→∀ x3:Int,x3=l0.length→∀ x4:Int,x4=l1.length→(x3≠x4→Ob (R [vb false]))∧(¬x3≠x4→Ob ((0:Int)≤(0:Int)∧(0:Int)≤(l0.length:Int))∧∀ (g5:NV) (x6:Int),Ob (0≤x6∧x6≤l0.length)→∀ x7:Int,x7=l0.length→(x6<x7→Ob (0≤x6∧x6<l0.length)∧Ob (Shp kI l0)∧∀ x8,Ob (l0[x6.toNat]?=some [dn x8])→Ob (0≤x6∧x6<l1.length)∧Ob (Shp kI l1)∧∀ x9,Ob (l1[x6.toNat]?=some [dn x9])→(x8≠x9→Ob (R [vb false]))∧(¬x8≠x9→∀ x10:Int,x10=w64 (x6+1)→Ob (0≤x10∧x10≤l0.length)∧Ob (l0.length-x10.toNat<l0.length-x6.toNat)))∧(¬x6<x7→Ob (R [vb true])))
theorem Aif:Afl:=by
  delta Afl
  simp only [Ac,and_imp,forall_exists_index,true_and,and_true,List.cons.injEq,DV.c.injEq,DV.a.injEq,D.raw.injEq,D.fs.injEq,Value.bool.injEq,Value.int.injEq]
  intro l0 l1 hl hs he R hR
  have he:l0=l1:=he
  subst he
  repeat' first | assumption | exact DShs.tail (Aa (by assumption) (by assumption)) | exact shp32 (by assumption) | exact shp64 (by assumption) | exact shp2 (by assumption) | exact shpF (by assumption) | with_reducible intro _ | with_reducible apply And.intro
  all_goals (try (have e:=Ae ‹_=w64 (_+1)› (by omega) (by omega);subst e))
  all_goals first
    | assumption
    | omega
    | exact shp64 hs
    | exact hR _ rfl
    | exact Aa (by assumption) (by assumption)
    | exact Ig (by assumption) (by assumption)
    | exact If (by assumption) (by assumption)
    | exact DShs.tail (Aa (by assumption) (by assumption))
    | exact vb_no ‹_=[vb true]› ‹_=false›
    | (exfalso;omega)
    | grind
    | skip
theorem Aok:Con TP k0 129 Alb:=Ad [] [(129000,0,some ⟨[0,1],[5],[],[kn],[],fun ρ ds=>0≤ni ds 0∧ni ds 0≤(ρ.d 0).length,fun ρ ds=>(ρ.d 0).length-(ni ds 0).toNat,none⟩)] [] [] 3000 trivial trivial Go.Proofs.Tryz.func129 rfl rfl rfl rfl Afl (by kernel_rfl) Aif
end Go.Vc

namespace Go.Vc
open Classical
def Anl (aa:List DV):List DV:=[vb true]
def Alc:ConT:=⟨[kl,kl],[kb],fun aa=>LSh pairS (li aa 0)∧eqQ (li aa 0) (li aa 1),fun aa rs=>rs=Anl aa⟩
def Afm:Prop:=∀ (l0 l1:LL),Ob (LSh pairS l0∧eqQ l0 l1)→∀ (R:List DV→Prop),Ob (∀ (res:List DV),res=[vb true]→R res)→∀ x3:Int,x3=l0.length→∀ x4:Int,x4=l1.length→(x3≠x4→Ob (R [vb false]))∧(¬x3≠x4→Ob ((0:Int)≤(0:Int)∧(0:Int)≤(l0.length:Int))∧∀ (g5:NV) (x6:Int),Ob (0≤x6∧x6≤l0.length)→∀ x7:Int,x7=l0.length→(x6<x7→Ob (0≤x6∧x6<l0.length)∧Ob (Shp kP l0)∧∀ x8 x9,Ob (l0[x6.toNat]?=some [dn x8,dn x9])→Ob (0≤x6∧x6<l1.length)∧Ob (Shp kP l1)∧∀ x10 x11,Ob (l1[x6.toNat]?=some [dn x10,dn x11])→(¬(x8=x10∧x9=x11)→Ob (R [vb false]))∧(¬¬(x8=x10∧x9=x11)→∀ x12:Int,x12=w64 (x6+1)→Ob (0≤x12∧x12≤l0.length)∧Ob (l0.length-x12.toNat<l0.length-x6.toNat)))∧(¬x6<x7→Ob (R [vb true])))
theorem Aig:Afm:=by
  delta Afm
  simp only [Ac,and_imp,forall_exists_index,true_and,and_true,List.cons.injEq,DV.c.injEq,DV.a.injEq,D.raw.injEq,D.fs.injEq,Value.bool.injEq,Value.int.injEq]
  intro l0 l1 hl hs he R hR
  have he:l0=l1:=he
  subst he
  repeat' first | assumption | exact DShs.tail (Aa (by assumption) (by assumption)) | exact shp32 (by assumption) | exact shp64 (by assumption) | exact shp2 (by assumption) | exact shpF (by assumption) | with_reducible intro _ | with_reducible apply And.intro
  all_goals (try (have e:=Ae ‹_=w64 (_+1)› (by omega) (by omega);subst e))
  all_goals first
    | assumption
    | omega
    | exact shp2 hs
    | exact hR _ rfl
    | exact Aa (by assumption) (by assumption)
    | exact Ig (by assumption) (by assumption)
    | exact If (by assumption) (by assumption)
    | exact DShs.tail (Aa (by assumption) (by assumption))
    | exact vb_no ‹_=[vb true]› ‹_=false›
    | (exfalso;omega)
    | grind
    | skip
theorem Aol:Con TP k0 206 Alc:=Ad [] [(206000,0,some ⟨[0,1],[5],[],[kn],[],fun ρ ds=>0≤ni ds 0∧ni ds 0≤(ρ.d 0).length,fun ρ ds=>(ρ.d 0).length-(ni ds 0).toNat,none⟩)] [] [] 3000 trivial trivial Go.Proofs.Tryz.func206 rfl rfl rfl rfl Afm (by kernel_rfl) Aig
end Go.Vc

namespace Go.Vc
open Classical
def Ahj (aa:List DV):List DV:=[vb true]
def Aga:ConT:=⟨[rkS cacheS,rkS cacheS],[kb],fun aa=>DShs cacheS (ai aa 0)∧eqD (ai aa 0) (ai aa 1),fun aa rs=>rs=Ahj aa⟩
def Aah:Prop:=∀ x0 x1 l2 x3 x4 l5,Ob (DShs cacheS [dn x0,dn x1,D.fs l2]∧eqD [dn x0,dn x1,D.fs l2] [dn x3,dn x4,D.fs l5])→∀ (R:List DV→Prop),Ob (∀ (res:List DV),res=[vb true]→R res)→(x0=x3→(x1=x4→Ob (LSh pairS l2∧eqQ l2 l5)∧∀ b7,Ob ([vb b7]=[vb true])→Ob (R [vb b7]))∧(¬x1=x4→Ob (R [vb false])))∧(¬x0=x3→Ob (R [vb false]))
theorem Adf:Aah:=by
  delta Aah
  simp only [Ac,and_imp,forall_exists_index,true_and,and_true,List.cons.injEq,DV.c.injEq,DV.a.injEq,D.raw.injEq,D.fs.injEq,Value.bool.injEq,Value.int.injEq]
  intro a0 a1 a2 b0 b1 b2 hs he R hR
  have he:_=_:=he
  simp only [List.cons.injEq,D.raw.injEq,D.fs.injEq,Value.bool.injEq,Value.int.injEq,and_true,true_and] at he
  obtain ⟨rfl,rfl,rfl⟩:=he
  repeat' first | assumption | exact DShs.tail (Aa (by assumption) (by assumption)) | exact shp32 (by assumption) | exact shp64 (by assumption) | exact shp2 (by assumption) | exact shpF (by assumption) | with_reducible intro _ | with_reducible apply And.intro
  all_goals first
    | assumption
    | exact hR _ rfl
    | exact Kw _
    | exact Sc _
    | (exfalso;exact ‹¬_=_› rfl)
    | (exfalso;exact absurd rfl ‹_≠_›)
    | exact vb_no ‹_=[vb true]› ‹_=false›
    | (subst_vars;exact hR _ rfl)
    | (exfalso;exact bno1 ‹_=false› ‹_=true›)
    | (exfalso;simp_all;done)
    | (simp only [Ab,Af,Ai,Ah,Ak,rng64,true_and,and_true] at *;simp_all;done)
    | skip
theorem Ajs:Con TP k0 130 Aga:=Ad [(206,Alc)] [] [] [(206,Anl)] 3000 ⟨Aol,trivial⟩ ⟨fnq rfl rfl,trivial⟩ Go.Proofs.Tryz.func130 rfl rfl rfl rfl Aah (by kernel_rfl) Adf
end Go.Vc

namespace Go.Vc
open Classical
def Anh (aa:List DV):List DV:=[vb true]
def Ak8:ConT:=⟨[kl,kl],[kb],fun aa=>LSh frozS (li aa 0)∧eqQ (li aa 0) (li aa 1),fun aa rs=>rs=Anh aa⟩
def Afg:Prop:=∀ (l0 l1:LL),Ob (LSh frozS l0∧eqQ l0 l1)→∀ (R:List DV→Prop),let N3:=(R [vb false]);Ob (∀ (res:List DV),res=[vb true]→R res)→∀ x3:Int,x3=l0.length→∀ x4:Int,x4=l1.length→(x3≠x4→Ob N3)∧(¬x3≠x4→Ob ((0:Int)≤(0:Int)∧(0:Int)≤(l0.length:Int))∧∀ (g5:NV) (x6:Int),let N2:=(0≤x6∧x6<l1.length);let N1:=(0≤x6∧x6<l0.length);Ob (0≤x6∧x6≤l0.length)→∀ x7:Int,x7=l0.length→(x6<x7→Ob N1∧Ob (Shp kF l0)∧∀ x8 b9 l10 x11 b12 l13 x14 b15 l16 x17 b18 l19 x20 b21 x22 x23 l24,Ob (l0[x6.toNat]?=some [dn x8,db b9,D.fs l10,dn x11,db b12,D.fs l13,dn x14,db b15,D.fs l16,dn x17,db b18,D.fs l19,dn x20,db b21,dn x22,dn x23,D.fs l24])→Ob N2∧Ob (Shp kF l1)∧∀ x25 b26 l27 x28 b29 l30 x31 b32 l33 x34 b35 l36 x37 b38 x39 x40 l41,Ob (l1[x6.toNat]?=some [dn x25,db b26,D.fs l27,dn x28,db b29,D.fs l30,dn x31,db b32,D.fs l33,dn x34,db b35,D.fs l36,dn x37,db b38,dn x39,dn x40,D.fs l41])→(x8≠x25→Ob N3)∧(¬x8≠x25→Ob N1∧Ob (Shp kF l0)∧∀ x42 b43 l44 x45 b46 l47 x48 b49 l50 x51 b52 l53 x54 b55 x56 x57 l58,let N0:=[db b43,D.fs l44,dn x45,db b46,D.fs l47,dn x48,db b49,D.fs l50,dn x51,db b52,D.fs l53,dn x54,db b55,dn x56,dn x57,D.fs l58];Ob (l0[x6.toNat]?=some [dn x42,db b43,D.fs l44,dn x45,db b46,D.fs l47,dn x48,db b49,D.fs l50,dn x51,db b52,D.fs l53,dn x54,db b55,dn x56,dn x57,D.fs l58])→Ob N2∧Ob (Shp kF l1)∧∀ x59 b60 l61 x62 b63 l64 x65 b66 l67 x68 b69 l70 x71 b72 x73 x74 l75,Ob (l1[x6.toNat]?=some [dn x59,db b60,D.fs l61,dn x62,db b63,D.fs l64,dn x65,db b66,D.fs l67,dn x68,db b69,D.fs l70,dn x71,db b72,dn x73,dn x74,D.fs l75])→Ob (DShs partS N0∧eqD N0 [db b60,D.fs l61,dn x62,db b63,D.fs l64,dn x65,db b66,D.fs l67,dn x68,db b69,D.fs l70,dn x71,db b72,dn x73,dn x74,D.fs l75])∧∀ b76,Ob ([vb b76]=[vb true])→(b76=false→Ob N3)∧(¬b76=false→∀ x77:Int,x77=w64 (x6+1)→Ob (0≤x77∧x77≤l0.length)∧Ob (l0.length-x77.toNat<l0.length-x6.toNat))))∧(¬x6<x7→Ob (R [vb true])))
theorem Aia:Afg:=by
  delta Afg
  simp only [Ac,and_imp,forall_exists_index,true_and,and_true,List.cons.injEq,DV.c.injEq,DV.a.injEq,D.raw.injEq,D.fs.injEq,Value.bool.injEq,Value.int.injEq]
  intro l0 l1 hl hs he R hR
  have he:l0=l1:=he
  subst he
  repeat' first | assumption | exact DShs.tail (Aa (by assumption) (by assumption)) | exact shp32 (by assumption) | exact shp64 (by assumption) | exact shp2 (by assumption) | exact shpF (by assumption) | with_reducible intro _ | with_reducible apply And.intro
  all_goals (try (have e:=Ae ‹_=w64 (_+1)› (by omega) (by omega);subst e))
  all_goals first
    | assumption
    | omega
    | exact shpF hs
    | exact hR _ rfl
    | exact Aa (by assumption) (by assumption)
    | exact Ig (by assumption) (by assumption)
    | exact If (by assumption) (by assumption)
    | exact DShs.tail (Aa (by assumption) (by assumption))
    | exact vb_no ‹_=[vb true]› ‹_=false›
    | (exfalso;omega)
    | grind
    | skip
theorem Aoh:Con TP k0 39 Ak8:=Ad [(128,Adl)] [(39000,0,some ⟨[0,1],[5],[],[kn],[],fun ρ ds=>0≤ni ds 0∧ni ds 0≤(ρ.d 0).length,fun ρ ds=>(ρ.d 0).length-(ni ds 0).toNat,none⟩)] [] [(128,Aeg)] 3000 ⟨Acs,trivial⟩ ⟨fnq rfl rfl,trivial⟩ Go.Proofs.Tryz.func39 rfl rfl rfl rfl Afg (by kernel_rfl) Aia
end Go.Vc

namespace Go.Vc
open Classical
def Ahe (aa:List DV):List DV:=[vb true]
def Af5:ConT:=⟨[kl,kl],[kb],fun aa=>LSh pairS (li aa 0)∧eqQ (li aa 0) (li aa 1),fun aa rs=>rs=Ahe aa⟩
def Aac:Prop:=∀ (l0 l1:LL),Ob (LSh pairS l0∧eqQ l0 l1)→∀ (R:List DV→Prop),let N2:=(R [vb false]);Ob (∀ (res:List DV),res=[vb true]→R res)→∀ x3:Int,x3=l0.length→∀ x4:Int,x4=l1.length→(x3≠x4→Ob N2)∧(¬x3≠x4→Ob ((0:Int)≤(0:Int)∧(0:Int)≤(l0.length:Int))∧∀ (g5:NV) (x6:Int),let N1:=(0≤x6∧x6<l1.length);let N0:=(0≤x6∧x6<l0.length);Ob (0≤x6∧x6≤l0.length)→∀ x7:Int,x7=l0.length→(x6<x7→Ob N0∧Ob (Shp kP l0)∧∀ x8 x9,Ob (l0[x6.toNat]?=some [dn x8,dn x9])→Ob N1∧Ob (Shp kP l1)∧∀ x10 x11,Ob (l1[x6.toNat]?=some [dn x10,dn x11])→(x8≠x10→Ob N2)∧(¬x8≠x10→Ob N0∧Ob (Shp kP l0)∧∀ x12 x13,Ob (l0[x6.toNat]?=some [dn x12,dn x13])→Ob N1∧Ob (Shp kP l1)∧∀ x14 x15,Ob (l1[x6.toNat]?=some [dn x14,dn x15])→(x13≠x15→Ob N2)∧(¬x13≠x15→∀ x16:Int,x16=w64 (x6+1)→Ob (0≤x16∧x16≤l0.length)∧Ob (l0.length-x16.toNat<l0.length-x6.toNat))))∧(¬x6<x7→Ob (R [vb true])))
theorem Ada:Aac:=by
  delta Aac
  simp only [Ac,and_imp,forall_exists_index,true_and,and_true,List.cons.injEq,DV.c.injEq,DV.a.injEq,D.raw.injEq,D.fs.injEq,Value.bool.injEq,Value.int.injEq]
  intro l0 l1 hl hs he R hR
  have he:l0=l1:=he
  subst he
  repeat' first | assumption | exact DShs.tail (Aa (by assumption) (by assumption)) | exact shp32 (by assumption) | exact shp64 (by assumption) | exact shp2 (by assumption) | exact shpF (by assumption) | with_reducible intro _ | with_reducible apply And.intro
  all_goals (try (have e:=Ae ‹_=w64 (_+1)› (by omega) (by omega);subst e))
  all_goals first
    | assumption
    | omega
    | exact shp2 hs
    | exact hR _ rfl
    | exact Aa (by assumption) (by assumption)
    | exact Ig (by assumption) (by assumption)
    | exact If (by assumption) (by assumption)
    | exact DShs.tail (Aa (by assumption) (by assumption))
    | exact vb_no ‹_=[vb true]› ‹_=false›
    | (exfalso;omega)
    | grind
    | skip
theorem Ajn:Con TP k0 131 Af5:=Ad [] [(131000,0,some ⟨[0,1],[5],[],[kn],[],fun ρ ds=>0≤ni ds 0∧ni ds 0≤(ρ.d 0).length,fun ρ ds=>(ρ.d 0).length-(ni ds 0).toNat,none⟩)] [] [] 3000 trivial trivial Go.Proofs.Tryz.func131 rfl rfl rfl rfl Aac (by kernel_rfl) Ada
end Go.Vc
