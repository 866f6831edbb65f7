import Derived.Test.YtneooimijbfmgaaGreatProg
import Derived.KernelRfl
import Derived.Test.YtneooimijbfmgaaGreatSsAS
import Derived.Test.YtneooimijbfmgaaGreatSsAU
import Derived.Test.YtneooimijbfmgaaGreatSsAV
import Derived.Test.YtneooimijbfmgaaGreatSsAX
import Derived.Test.YtneooimijbfmgaaGreatSsAY
set_option linter.unusedVariables false
set_option linter.unusedSimpArgs false
set_option linter.unusedSectionVars false
set_option maxHeartbeats 4000000
set_option maxRecDepth 100000
noncomputable section
namespace Go.Vc
open Classical
def Aca (aa:List DV):List DV:=[vn (Bo (ni aa 0) (li aa 1))]
def Aa1:ConT:=⟨[kn,kl],[kn],fun aa=>LSh pairS (li aa 1),fun aa rs=>rs=Aca aa⟩
def Tc:Prop:=∀ (x0:Int) (l1:LL),Ob (LSh pairS l1)→∀ (R:List DV→Prop),Ob (∀ (res:List DV),res=[vn (Bo x0 l1)]→R res)→(x0<2→Ob (R [vn 2]))∧(¬x0<2→(x0>8→Ob (R [vn 2]))∧(¬x0>8→∀ x3:Int,x3=l1.length→(x3>64→Ob (R [vn 4]))∧(¬x3>64→∀ x4:Int,x4=l1.length→Ob ((0:Int)≤(0:Int)∧upto (Mf x0 l1) (0:Int))∧∀ (g5:NV) (x6:Int),Ob (0≤x6∧upto (Mf x0 l1) x6)→(x6<x4→Ob (0≤x6∧x6<l1.length)∧Ob (Shp kP l1)∧∀ x7 x8,Ob (l1[x6.toNat]?=some [dn x7,dn x8])→∀ x9:Int,x9=min x7 x8→(x9<0→Ob (R [vn 2]))∧(¬x9<0→∀ x10:Int,x10=max x7 x8→(x10≥x0→Ob (R [vn 2]))∧(¬x10≥x0→(x7=x8→Ob (R [vn 2]))∧(¬x7=x8→∀ x11:Int,x11=w64 (x6+1)→Ob (0≤x11∧upto (Mf x0 l1) x11)∧Ob (l1.length-x11.toNat<l1.length-x6.toNat)))))∧(¬x6<x4→Ob (R [vn 0])))))
theorem Aao:Tc:=by
  delta Tc
  simp only [Ac,and_imp,true_and,and_true,List.cons.injEq,DV.c.injEq,DV.a.injEq,D.raw.injEq,D.fs.injEq,Value.bool.injEq,Value.int.injEq]
  repeat' first | assumption | exact DShs.tail (Aa (by assumption) (by assumption)) | exact shp32 (by assumption) | exact shp64 (by assumption) | exact shp2 (by assumption) | exact shpF (by assumption) | with_reducible intro _ | with_reducible apply And.intro
  all_goals (try (have e:=Ae ‹_=w64 (_+1)› (by omega) (by omega);subst e))
  all_goals first
    | assumption
    | (exact fun i hi=>by omega)
    | omega
    | exact shp2 (by assumption)
    | (rw [Ag (by omega)];exact ⟨by assumption,(Dd (by assumption)).2 ⟨by omega,by omega,by omega,by omega,by omega⟩⟩)
    | (rw [Ag (by omega)];exact ⟨by assumption,(Dd (by assumption)).2 (by grind)⟩)
    | (apply ‹∀ res:List DV,_=_→_›;rw [A0u (by omega)])
    | (apply ‹∀ res:List DV,_=_→_›;rw [A0t (k:=0) (by omega) (by omega)])
    | (apply ‹∀ res:List DV,_=_→_›;rw [Ay1 (by omega) (by omega) (fun hh=>by have:=(Dd (by assumption)).1 hh;omega) (by assumption) (by omega)])
    | (apply ‹∀ res:List DV,_=_→_›;rw [A0s (by omega) (by omega) (by assumption) (by omega)])
    | (apply ‹∀ res:List DV,_=_→_›;rw [Ay1 (by omega) (by omega) (fun hh=>by have:=(Dd (by assumption)).1 hh;grind) (by assumption) (by omega)])
    | skip
theorem Aep:Con TP k0 52 Aa1:=Ad [] [(52000,0,some ⟨[0,16,17],[18],[],[kn],[],fun ρ ds=>0≤ni ds 0∧upto (Mf (ρ.n 0) (ρ.d 1)) (ni ds 0),fun ρ ds=>(ρ.d 1).length-(ni ds 0).toNat,none⟩)] [] [] 3000 trivial trivial Go.Proofs.Tryz.func52 rfl rfl rfl rfl Tc (by kernel_rfl) Aao
end Go.Vc

namespace Go.Vc
open Classical
def Ach (aa:List DV):List DV:=Kk (gL (ai aa 0) 2) (li aa 1)
def Aa8:ConT:=⟨[rkS cacheS,kl],[kl,kn],fun aa=>DShs cacheS (ai aa 0)∧Aq (ai aa 0)∧LSh pairS (li aa 1)∧(li aa 1).length=1,fun aa rs=>rs=Ach aa⟩
def Tj:Prop:=∀ (x0 x1:Int) (l2 l3:LL),Ob (DShs cacheS [dn x0,dn x1,D.fs l2]∧Aq [dn x0,dn x1,D.fs l2]∧LSh pairS l3∧l3.length=1)→∀ (R:List DV→Prop),Ob (∀ (res:List DV),res=Kk l2 l3→R res)→Ob (DShs cacheS [dn x0,dn x1,D.fs l2])∧∀ x5,Ob ([vn x5]=[vn (if Aq [dn x0,dn x1,D.fs l2] then (0:Int) else (8:Int))])→(x5≠0→Ob (R [vl [],vn x5]))∧(¬x5≠0→∀ x6:Int,x6=l3.length→Ob (drI l2 l3 (0:Int) l2 [])∧∀ (g7:NV) (x8:Int) (l9 l10:LL),Ob (drI l2 l3 x8 l9 l10)→(x8<x6→Ob (0≤x8∧x8<l3.length)∧Ob (Shp kP l3)∧∀ x11 x12,Ob (l3[x8.toNat]?=some [dn x11,dn x12])→∀ x13:Int,x13=l9.length→Ob ((0:Int)≤(0:Int)∧(0:Int)≤(l9.length:Int)∧plE l9 [dn x11,dn x12] (Int.toNat (0:Int))=(-1:Int))∧∀ (g14:NV) (x15:Int),Ob (0≤x15∧x15≤l9.length∧plE l9 [dn x11,dn x12] (x15.toNat)=(-1:Int))→(x15<x13→Ob (0≤x15∧x15<l9.length)∧Ob (Shp kP l9)∧∀ x16 x17,Ob (l9[x15.toNat]?=some [dn x16,dn x17])→(x16=x11∧x17=x12→∀ x18:Int,x18=IntKind.wrap IntKind.u64 x15→Ob (l10.length+List.length [[d64 x18]]≤(1048576:Nat))∧∀ (l19:LL),l19=l10++[[d64 x18]]→Ob ((0:Int)≤(0:Int)∧0≤x15∧x15≤x15∧x15≤l9.length∧Rect (2) l9)∧∀ (l20:LL),l20=List.take (x15.toNat-Int.toNat (0:Int)) (List.drop (Int.toNat (0:Int)) l9)→∀ x21:Int,x21=w64 (x15+1)→Ob (0≤x21∧x21≤l9.length∧(l9.length:Int)≤(l9.length:Int)∧(l9.length:Int)≤(l9.length:Int)∧Rect (2) l9)∧∀ (l22:LL),l22=List.take (Int.toNat (l9.length:Int)-x21.toNat) (List.drop (x21.toNat) l9)→Ob (Shp kP l20∧Shp kP l22∧l20.length+l22.length≤1048576)∧(Ob (l22.length=0)→∀ x23:Int,x23=w64 (x8+1)→Ob (drI l2 l3 x23 l20 l19)∧Ob ((1:Nat)-x23.toNat<(1:Nat)-x8.toNat))∧(Ob ((0:Nat)<l22.length)→∀ (l24:LL),l24=l20++l22→∀ x25:Int,x25=w64 (x8+1)→Ob (drI l2 l3 x25 l24 l19)∧Ob ((1:Nat)-x25.toNat<(1:Nat)-x8.toNat)))∧(¬(x16=x11∧x17=x12)→∀ x26:Int,x26=w64 (x15+1)→Ob (0≤x26∧x26≤l9.length∧plE l9 [dn x11,dn x12] (x26.toNat)=(-1:Int))∧Ob (l9.length-x26.toNat<l9.length-x15.toNat)))∧(¬x15<x13→Ob (R [vl [],vn 6])))∧(¬x8<x6→Ob (R [vl l10,vn 0])))
theorem Aav:Tj:=by
  delta Tj
  simp only [Ac,and_imp,forall_exists_index,true_and,and_true,List.cons.injEq,DV.c.injEq,DV.a.injEq,D.raw.injEq,D.fs.injEq,Value.bool.injEq,Value.int.injEq]
  intro x0 x1 l2 l3 hs hp hn3 hs3 h1 R hR
  have hs2:=(Ak.1 (Ab.1 (Ab.1 (Ab.1 hs).2).2).1).2
  have hl6:=Aw9 hp
  repeat' first | assumption | exact DShs.tail (Aa (by assumption) (by assumption)) | exact shp32 (by assumption) | exact shp64 (by assumption) | exact shp2 (by assumption) | exact shpF (by assumption) | with_reducible intro _ | with_reducible apply And.intro
  all_goals (try (have q:=Avs (by assumption) (by assumption) (by assumption) h1;obtain ⟨q1,q2,q3⟩:=q;subst q2 q3))
  all_goals (try (have e:=Ae ‹_=w64 (_+1)› (by omega) (by omega);subst e))
  all_goals (try (have q4:=congrArg List.length ‹_=List.take (Int.toNat _-Int.toNat (0:Int)) _›;rw [List.length_take] at q4))
  all_goals (try (have q5:=congrArg List.length ‹_=List.take (Int.toNat (List.length _:Int)-_) _›;rw [List.length_take,List.length_drop] at q5))
  all_goals first
    | assumption
    | omega
    | (exfalso;exact Azk (by assumption) hp (by assumption))
    | exact A0j
    | rfl
    | exact shp2 (by assumption)
    | exact shp2 (Akz (by assumption) (by assumption))
    | exact LS.rect (by assumption)
    | exact Aw8 (by assumption) (by assumption) (by assumption) (fun h=>by cases h;simp at *)
    | exact A0i (by assumption) (by assumption) (by assumption) (by assumption) (by assumption) (by assumption) (by assumption) (by assumption) (by omega) (by assumption) (by omega)
    | exact hR _ (Aym (by assumption) (by assumption) (by assumption) h1)
    | exact hR _ (A0h (by assumption) (by assumption) (by assumption) (by assumption) (by assumption) (by assumption))
    | (simp only [List.length_nil,List.length_cons];omega)
    | skip
theorem Aew:Con TP k0 53 Aa8:=Ad [(142,Fq)] [(53000,0,some ⟨[19,20],[21,7],[],[kn,kl],[⟨4,121,1,true, .tmp⟩],fun ρ ds=>drI (ρ.d 2) (ρ.d 3) (ni ds 0) (li ds 1) (li ds 2),fun ρ ds=>1-(ni ds 0).toNat,none⟩),(53000,2,some ⟨[19,20,21,25,26,4,7,9],[27],[],[kn],[],fun ρ ds=>0≤ni ds 0∧ni ds 0≤(ρ.d 8).length∧plE (ρ.d 8) [dn (ρ.n 11),dn (ρ.n 12)] (ni ds 0).toNat = -1,fun ρ ds=>(ρ.d 8).length-(ni ds 0).toNat,none⟩)] [] [(142,Kv)] 3000 ⟨Gu,trivial⟩ ⟨fnq rfl rfl,trivial⟩ Go.Proofs.Tryz.func53 rfl rfl rfl rfl Tj (by kernel_rfl) Aav
end Go.Vc

namespace Go.Vc
open Classical
def Ab9 (aa:List DV):List DV:=Bm (ai aa 0) (li aa 1)
def Aa0:ConT:=⟨[rkS worldS,kl],[kl,kn],fun aa=>DShs worldS (ai aa 0)∧LSh pairS (li aa 1),fun aa rs=>rs=Ab9 aa⟩
def Tb:Prop:=let N3:=[d8 6,dn 0,dn 0,dn 0,d64 0];∀ (x0 x1 x2 x3:Int) (l4 l5 l6 l7 l8:LL) (x9:Int) (l10:LL),let N0:=[dn x0,dn x1,dn x2,dn x3,D.fs l4,D.fs l5,D.fs l6,D.fs l7,D.fs l8,dn x9];let N5:=(Me N0 l10);Ob (DShs worldS N0∧LSh pairS l10)→∀ (R:List DV→Prop),Ob (∀ (res:List DV),res=Bm N0 l10→R res)→Ob (DShs worldS N0)∧∀ x12,Ob ([vn x12]=[vn (if Ap N0 then (0:Int) else (8:Int))])→(x12≠0→Ob (R [vl [],vn x12]))∧(¬x12≠0→∀ x13:Int,x13=l4.length→Ob (LSh pairS l10)∧∀ x14,Ob ([vn x14]=[vn (Bo x13 l10)])→(x14≠0→Ob (R [vl [],vn x14]))∧(¬x14≠0→∀ x15:Int,x15=l5.length→(x15>0→Ob (R [vl [],vn 13]))∧(¬x15>0→∀ x16:Int,x16=l10.length→Ob ((0:Int)≤(0:Int)∧(0:Int)≤(l10.length:Int)∧(0:Int)=(0:Int)∧([]:LL)=[]∧upto N5 (0:Int))∧∀ (g17:NV) (x18 x19:Int) (l20:LL),Ob (0≤x18∧x18≤l10.length∧x19=0∧l20=stL N0 l10 (x18.toNat)∧upto N5 x18)→(x18<x16→Ob (0≤x18∧x18<l10.length)∧Ob (Shp kP l10)∧∀ (x21 x22:Int),let N2:=(0≤x21∧x21<l4.length);Ob (l10[x18.toNat]?=some [dn x21,dn x22])→Ob N2∧Ob (Shp kN l4)∧∀ x23 x24 b25 x26 x27 x28 x29 x30 b31 l32 x33 b34 l35 x36 b37 l38 x39 b40 l41 x42 b43 x44 x45 l46 b47 x48 x49 l50 x51 x52 l53 l54 l55,Ob (l4[x21.toNat]?=some [dn x23,dn x24,db b25,dn x26,dn x27,dn x28,dn x29,dn x30,db b31,D.fs l32,dn x33,db b34,D.fs l35,dn x36,db b37,D.fs l38,dn x39,db b40,D.fs l41,dn x42,db b43,dn x44,dn x45,D.fs l46,db b47,dn x48,dn x49,D.fs l50,dn x51,dn x52,D.fs l53,D.fs l54,D.fs l55])→∀ x56:Int,x56=l53.length→Ob ((0:Int)≤(0:Int)∧(0:Int)≤(l53.length:Int)∧x19=0∧drS l53 x22 (0:Int) [])∧∀ (g57:NV) (x58:Int) (l59:LL) (x60:Int),Ob (0≤x58∧x58≤l53.length∧x60=0∧drS l53 x22 x58 l59)→(x58<x56→Ob (0≤x58∧x58<l53.length)∧Ob (Shp kP l53)∧∀ x61 x62,Ob (l53[x58.toNat]?=some [dn x61,dn x62])→(x61=x22→Ob N2∧Ob (Shp kN l4)∧∀ x63 x64 b65 x66 x67 x68 x69 x70 b71 l72 x73 b74 l75 x76 b77 l78 x79 b80 l81 x82 b83 x84 x85 l86 b87 x88 x89 l90 x91 x92 l93 l94 l95,let N4:=[dn x91,dn x92,D.fs l93];Ob (l4[x21.toNat]?=some [dn x63,dn x64,db b65,dn x66,dn x67,dn x68,dn x69,dn x70,db b71,D.fs l72,dn x73,db b74,D.fs l75,dn x76,db b77,D.fs l78,dn x79,db b80,D.fs l81,dn x82,db b83,dn x84,dn x85,D.fs l86,db b87,dn x88,dn x89,D.fs l90,dn x91,dn x92,D.fs l93,D.fs l94,D.fs l95])→∀ (l96:LL),l96=[[dn x61,dn x62]]→Ob (DShs cacheS N4∧Aq N4∧LSh pairS l96∧l96.length=1)∧∀ l97 x98,Ob ([vl l97,vn x98]=Kk l93 l96)→∀ x99:Int,x99=w64 (x58+1)→Ob (0≤x99∧x99≤l53.length∧x98=0∧drS l53 x22 x99 l97)∧Ob (l53.length-x99.toNat<l53.length-x58.toNat))∧(¬x61=x22→∀ x100:Int,x100=w64 (x58+1)→Ob (0≤x100∧x100≤l53.length∧x60=0∧drS l53 x22 x100 l59)∧Ob (l53.length-x100.toNat<l53.length-x58.toNat)))∧(¬x58<x56→(x60≠0→Ob (R [vl [],vn 6]))∧(¬x60≠0→∀ x101:Int,x101=l59.length→(x101=0→Ob (R [vl [],vn 6]))∧(¬x101=0→Ob ((0:Int)≤(0:Int)∧(0:Int)<(l59.length:Int))∧Ob (Shp [Kd.int IntKind.u64] l59)∧∀ x102,let N1:=[[d8 3,dn x21,dn 0,dn 0,d64 x102],N3,N3];Ob (l59[Int.toNat (0:Int)]?=some [d64 x102])→Ob (l20.length+List.length N1≤(1048576:Nat))∧∀ (l103:LL),l103=l20++N1→∀ x104:Int,x104=w64 (x18+1)→Ob (0≤x104∧x104≤l10.length∧x60=0∧l103=stL N0 l10 (x104.toNat)∧upto N5 x104)∧Ob (l10.length-x104.toNat<l10.length-x18.toNat)))))∧(¬x18<x16→Ob (R [vl l20,vn 0])))))
theorem Aan:Tb:=by
  delta Tb
  simp only [Ac,and_imp,forall_exists_index,true_and,and_true,List.cons.injEq,DV.c.injEq,DV.a.injEq,D.raw.injEq,D.fs.injEq,Value.bool.injEq,Value.int.injEq]
  intro x0 x1 x2 x3 l4 l5 l6 l7 l8 x9 l10 hs hn10 hs10 R hR
  have hs2:=hs
  simp only [Ab,Af,Ai,Ak,rng64,true_and,and_true] at hs2
  obtain ⟨k0,k1,k2,k3,⟨k4,k5⟩,⟨k6,k7⟩,⟨k8,k9⟩,⟨k10,k11⟩,⟨k12,k13⟩,k14⟩:=hs2
  repeat' first | assumption | exact DShs.tail (Aa (by assumption) (by assumption)) | exact shp32 (by assumption) | exact shp64 (by assumption) | exact shp2 (by assumption) | exact shpF (by assumption) | with_reducible intro _ | with_reducible apply And.intro
  all_goals (try (rename l4[(_:Nat)]?=some (dn _::dn _::db _::_)=>hB;revert hB;rename l4[(_:Nat)]?=some (dn _::dn _::db _::_)=>hA;intro hB;have e:=Option.some.inj (hA.symm.trans hB);clear hB;simp only [List.cons.injEq,DV.c.injEq,DV.a.injEq,D.raw.injEq,D.fs.injEq,Value.bool.injEq,Value.int.injEq,true_and,and_true] at e;obtain ⟨rfl,rfl,rfl,rfl,rfl,rfl,rfl,rfl,rfl,rfl,rfl,rfl,rfl,rfl,rfl,rfl,rfl,rfl,rfl,rfl,rfl,rfl,rfl,rfl,rfl,rfl,rfl,rfl,rfl,rfl,rfl,rfl,rfl⟩:=e))
  all_goals (try (have hw:=Awi ‹(_:Int)=if Ap _ then 0 else 8› (by assumption)))
  all_goals (try (have hz:=(Ak.1 (Ab.1 (Ab.1 (Ab.1 (Dw (Aa ‹l4[(_:Nat)]?=some (dn _::dn _::db _::_)› k5)).2.2.2.1).2).2).1);obtain ⟨hz1,hz2⟩:=hz))
  all_goals (try (have hmt:=Ai9 (by assumption) (by assumption) (by assumption);obtain ⟨hm1,hm2,hm3⟩:=hmt))
  all_goals (try (have e:=Ae ‹_=w64 (_+1)› (by omega) (by omega);subst e))
  all_goals first
    | assumption
    | (exact fun i hi=>by omega)
    | omega
    | rfl
    | exact shp2 (by assumption)
    | exact shpN (by assumption)
    | (have z:=Ai9 (by assumption) (by assumption) (by assumption);omega)
    | exact Ayn
    | exact shp2 hz2
    | (have z:=(Dw (Aa (by assumption) k5)).2.2.2.1;exact z)
    | (have z:=(Dw (Aa (by assumption) k5)).2.2.2.1;exact (Ak.1 (Ab.1 (Ab.1 (Ab.1 z).2).2).1).1)
    | (have z:=(Dw (Aa (by assumption) k5)).2.2.2.1;exact (Ak.1 (Ab.1 (Ab.1 (Ab.1 z).2).2).1).2)
    | (have z:=Ai9 (by assumption) (by assumption) (by assumption);have z2:=congrArg List.length ‹_=stL _ _ _›;rw [Adq] at z2;simp only [List.length_cons,List.length_nil];omega)
    | exact hR _ (A0z (by assumption) (by assumption))
    | exact hR _ (A0y (by assumption) (by assumption))
    | exact hR _ (A0x hw (by assumption) (by assumption) (by assumption))
    | exact hR _ (A0w hw (by assumption) (by assumption) (by assumption) (by assumption) (by assumption))
    | exact hR _ (Azy hw (by assumption) (by assumption) (by assumption) (by assumption) (by assumption) (by assumption) (by assumption) (by assumption) (by assumption) (by assumption))
    | exact hR _ (A0v hw (by assumption) (by assumption) (by assumption) (by assumption) (by assumption) (Azj (by assumption) (by assumption) (by assumption) (by assumption) (by assumption) (by assumption) (by assumption) (by assumption)) (by assumption))
    | exact hR _ (Azy hw (by assumption) (by assumption) (by assumption) (by assumption) (by assumption) (by assumption) (by assumption) (by assumption) (by assumption) (by assumption))
    | exact Age (by assumption) (by assumption) (by assumption) (Aso (by assumption) (by assumption) (by assumption) (by assumption) (by assumption) (by assumption) (by assumption)).1 (by assumption)
    | (rw [Ag (by omega)];exact ⟨by assumption,(Aso (by assumption) (by assumption) (by assumption) (by assumption) (by assumption) (by assumption) (by assumption)).2⟩)
    | exact Arx (by assumption) (by assumption) (by assumption) (by assumption)
    | (have hcb:=Apo hw (by assumption) hm1 (by assumption);first | exact hcb | exact (An5 (by assumption) (by assumption) (by assumption) (by assumption) (by assumption) (by assumption) (Asv hcb)).1 | exact (An5 (by assumption) (by assumption) (by assumption) (by assumption) (by assumption) (by assumption) (Asv hcb)).2)
    | exact Avr (by assumption)
    | exact Axc (by assumption) (by assumption) hz2
    | exact Aux (by assumption)
    | exact Axd (by assumption)
    | skip
theorem Aeo:Con TP k0 12 Aa0:=Ad [(18,Mx),(52,Aa1),(53,Aa8)] [(12000,0,some ⟨[2,30,31],[32,5],[],[kn,kn],[⟨4,123,5,true, .tmp⟩],fun ρ ds=>0≤ni ds 0∧ni ds 0≤(ρ.d 10).length∧ni ds 1=0∧li ds 2=stL [dn (ρ.n 0),dn (ρ.n 1),dn (ρ.n 2),dn (ρ.n 3), .fs (ρ.d 4), .fs (ρ.d 5), .fs (ρ.d 6), .fs (ρ.d 7), .fs (ρ.d 8),dn (ρ.n 9)] (ρ.d 10) (ni ds 0).toNat∧upto (Me [dn (ρ.n 0),dn (ρ.n 1),dn (ρ.n 2),dn (ρ.n 3), .fs (ρ.d 4), .fs (ρ.d 5), .fs (ρ.d 6), .fs (ρ.d 7), .fs (ρ.d 8),dn (ρ.n 9)] (ρ.d 10)) (ni ds 0),fun ρ ds=>(ρ.d 10).length-(ni ds 0).toNat,none⟩),(12000,2,some ⟨[2,30,31,32,9,43,44,4],[45,10,5],[],[kn,kl,kn],[],fun ρ ds=>0≤ni ds 0∧ni ds 0≤(ρ.d 55).length∧ni ds 2=0∧drS (ρ.d 55) (ρ.n 22) (ni ds 0) (li ds 1),fun ρ ds=>(ρ.d 55).length-(ni ds 0).toNat,none⟩)] [] [(18,No),(52,Aca),(53,Ach)] 3000 ⟨Uj,Aep,Aew,trivial⟩ ⟨fnq rfl rfl,fnq rfl rfl,fnq rfl rfl,trivial⟩ Go.Proofs.Tryz.func12 rfl rfl rfl rfl Tb (by kernel_rfl) Aan
end Go.Vc

namespace Go.Vc
open Classical
def Rn (aa:List DV):List DV:=[vb (decide (Kh (ai aa 0)))]
def Pw:ConT:=⟨[rkS worldS],[kb],fun aa=>DShs worldS (ai aa 0),fun aa rs=>rs=Rn aa⟩
def Ja:Prop:=∀ (x0 x1 x2 x3:Int) (l4 l5 l6 l7 l8:LL) (x9:Int),let N2:=(Ds x0 l8);let N0:=[dn x0,dn x1,dn x2,dn x3,D.fs l4,D.fs l5,D.fs l6,D.fs l7,D.fs l8,dn x9];Ob (DShs worldS N0)→∀ (R:List DV→Prop),let N1:=(R [vb false]);Ob (∀ (res:List DV),res=[vb (decide (Kh N0))]→R res)→∀ x11:Int,x11=l8.length→(x11>1024→Ob N1)∧(¬x11>1024→Ob ((0:Int)≤(0:Int)∧upto N2 (0:Int))∧∀ (g12:NV) (x13:Int),Ob (0≤x13∧upto N2 x13)→∀ x14:Int,x14=l8.length→(x13<x14→Ob (0≤x13∧x13<l8.length)∧Ob (Shp kS l8)∧∀ x15 x16 x17,Ob (l8[x13.toNat]?=some [dn x15,dn x16,dn x17])→(x15<0→Ob N1)∧(¬x15<0→(x15>65535→Ob N1)∧(¬x15>65535→(x16<0→Ob N1)∧(¬x16<0→(x16≥x0→Ob N1)∧(¬x16≥x0→(x17≥-2147483647→(x17≤2147483647→∀ x18:Int,x18=w64 (x13+1)→Ob (0≤x18∧upto N2 x18)∧Ob (l8.length-x18.toNat<l8.length-x13.toNat))∧(¬x17≤2147483647→Ob N1))∧(¬x17≥-2147483647→Ob N1))))))∧(¬x13<x14→Ob (R [vb true])))
theorem Tq:Ja:=by
  delta Ja
  simp only [Ac,and_imp,List.cons_append,List.nil_append,Ab,Af,Ai,Ah,Ak,rng64,rng32,true_and,and_true,List.cons.injEq,DV.c.injEq,DV.a.injEq,D.raw.injEq,D.fs.injEq,Value.bool.injEq,Value.int.injEq]
  repeat' first | assumption | exact DShs.tail (Aa (by assumption) (by assumption)) | exact shp32 (by assumption) | exact shp64 (by assumption) | exact shp2 (by assumption) | exact shpF (by assumption) | with_reducible intro _ | with_reducible apply And.intro
  all_goals (try (have e:=Ae ‹_=w64 (_+1)› (by omega) (by omega);subst e))
  all_goals first
    | assumption
    | (exact fun i hi=>by omega)
    | omega
    | exact shpS (by assumption)
    | (rw [Ag (by omega)];exact ⟨by assumption,(Cp (by assumption)).2 ⟨by omega,by omega,by omega,by omega,by omega,by omega⟩⟩)
    | (apply ‹∀ res:List DV,_=_→_›;exact Ay8 (by assumption) (by assumption))
    | (apply ‹∀ res:List DV,_=_→_›;exact Ay7 (by assumption) (fun hh=>by have h1:=hh.1;have h2:=hh.2.1;have h3:=hh.2.2.1;have h4:=hh.2.2.2.1;have h5:=hh.2.2.2.2.1;have h6:=hh.2.2.2.2.2;simp only [gI] at h4;first | omega | (simp at h4;omega)) (by assumption) (by assumption) (by assumption))
    | (apply ‹∀ res:List DV,_=_→_›;exact A03 (by assumption) (by omega) (by assumption) (by assumption))
    | skip
theorem Zf:Con TP k0 144 Pw:=Ad [] [(144000,0,some ⟨[1],[3],[],[kn],[],fun ρ ds=>0≤ni ds 0∧upto (Ds (ρ.n 0) (ρ.d 8)) (ni ds 0),fun ρ ds=>(ρ.d 8).length-(ni ds 0).toNat,none⟩)] [] [] 3000 trivial trivial Go.Proofs.Tryz.func144 rfl rfl rfl rfl Ja (by kernel_rfl) Tq
end Go.Vc

namespace Go.Vc
open Classical
def Kr (aa:List DV):List DV:=[vn (Bg (li aa 0))]
def Ju:ConT:=⟨[kl],[kn],fun aa=>LSh copyS (li aa 0),fun aa rs=>rs=Kr aa⟩
def Gf:Prop:=∀ (l0:LL),Ob (LSh copyS l0)→∀ (R:List DV→Prop),Ob (∀ (res:List DV),res=[vn (Bg l0)]→R res)→∀ x2:Int,x2=l0.length→(x2>16→Ob (R [vn 4]))∧(¬x2>16→Ob ((0:Int)≤(0:Int)∧upto (Di l0) (0:Int))∧∀ (g3:NV) (x4:Int),Ob (0≤x4∧upto (Di l0) x4)→∀ x5:Int,x5=l0.length→(x4<x5→Ob (0≤x4∧x4<l0.length)∧Ob (Shp kC l0)∧∀ x6 x7 l8 b9,Ob (l0[x4.toNat]?=some [dn x6,dn x7,D.fs l8,db b9])→(x6≥0→(x6≤1048575→(x7≥0→(x7<8→∀ x10:Int,x10=l8.length→(x10≥1→∀ x11:Int,x11=l8.length→(x11≤4105→∀ x12:Int,x12=w64 (x4+1)→Ob (0≤x12∧upto (Di l0) x12)∧Ob (l0.length-x12.toNat<l0.length-x4.toNat))∧(¬x11≤4105→Ob (R [vn 8])))∧(¬x10≥1→Ob (R [vn 8])))∧(¬x7<8→Ob (R [vn 8])))∧(¬x7≥0→Ob (R [vn 8])))∧(¬x6≤1048575→Ob (R [vn 8])))∧(¬x6≥0→Ob (R [vn 8])))∧(¬x4<x5→Ob (R [vn 0])))
theorem Oj:Gf:=by
  delta Gf
  simp only [Ac,and_imp,true_and,and_true,List.cons.injEq,DV.c.injEq,DV.a.injEq,D.raw.injEq,D.fs.injEq,Value.bool.injEq,Value.int.injEq]
  repeat' first | assumption | exact DShs.tail (Aa (by assumption) (by assumption)) | exact shp32 (by assumption) | exact shp64 (by assumption) | exact shp2 (by assumption) | exact shpF (by assumption) | with_reducible intro _ | with_reducible apply And.intro
  all_goals (try (have e:=Ae ‹_=w64 (_+1)› (by omega) (by omega);subst e))
  all_goals first
    | assumption
    | (exact fun i hi=>by omega)
    | rfl
    | omega
    | exact shpCo (by assumption)
    | (rw [Ag (by omega)];exact ⟨by assumption,(Gb (by assumption)).2 ⟨by omega,by omega,by omega,by omega,by omega,by omega⟩⟩)
    | (apply ‹∀ res:List DV,_=_→_›;simp only [Bg];rw [if_pos (by omega)])
    | (apply ‹∀ res:List DV,_=_→_›;rw [Acl (by omega) (fun hh=>by have:=(Gb (by assumption)).1 hh;omega) (by assumption) (by omega)])
    | (apply ‹∀ res:List DV,_=_→_›;rw [Ack (by omega) (by assumption) (by omega)])
    | skip
theorem Sk:Con TP k0 145 Ju:=Ad [] [(145000,0,some ⟨[0],[3],[],[kn],[],fun ρ ds=>0≤ni ds 0∧upto (Di (ρ.d 0)) (ni ds 0),fun ρ ds=>(ρ.d 0).length-(ni ds 0).toNat,none⟩)] [] [] 3000 trivial trivial Go.Proofs.Tryz.func145 rfl rfl rfl rfl Gf (by kernel_rfl) Oj
end Go.Vc

namespace Go.Vc
open Classical
def Wd (aa:List DV):List DV:=[vb (decide (Gn (li aa 0)))]
def Va:ConT:=⟨[kl],[kb],fun aa=>LSh [s32] (li aa 0),fun aa rs=>rs=Wd aa⟩
def Mm:Prop:=∀ (l0:LL),Ob (LSh [s32] l0)→∀ (R:List DV→Prop),Ob (∀ (res:List DV),res=[vb (decide (Gn l0))]→R res)→∀ x2:Int,x2=l0.length→(x2≤40→∀ x3:Int,x3=l0.length→(x3=0→Ob (R [vb true]))∧(¬x3=0→∀ x4:Int,x4=l0.length→∀ x5:Int,x5=w64 (x4-1)→Ob (0≤x5∧x5<l0.length)∧Ob (Shp kU l0)∧∀ x6,Ob (l0[x5.toNat]?=some [d32 x6])→(x6≠0→Ob (R [vb true]))∧(¬x6≠0→Ob (R [vb false]))))∧(¬x2≤40→Ob (R [vb false]))
theorem Xd:Mm:=by
  delta Mm
  simp only [Ac,and_imp,true_and,and_true,List.cons.injEq,DV.c.injEq,DV.a.injEq,D.raw.injEq,D.fs.injEq,Value.bool.injEq,Value.int.injEq]
  repeat' first | assumption | exact DShs.tail (Aa (by assumption) (by assumption)) | exact shp32 (by assumption) | exact shp64 (by assumption) | exact shp2 (by assumption) | exact shpF (by assumption) | with_reducible intro _ | with_reducible apply And.intro
  all_goals (try (have e:=En ‹_=w64 (_-1)› (by omega) (by omega);subst e))
  all_goals first
    | assumption
    | omega
    | (have z:=Yr (by assumption) (by omega) (by assumption);apply ‹∀ res:List DV,_=_→_›;simp [Gn];grind)
    | (apply ‹∀ res:List DV,_=_→_›;simp [Gn];grind)
    | skip
theorem Acr:Con TP k0 301 Va:=Ad [] [] [] [] 3000 trivial trivial Go.Proofs.Tryz.func301 rfl rfl rfl rfl Mm (by kernel_rfl) Xd
end Go.Vc

namespace Go.Vc
open Classical
def Ahc (aa:List DV):List DV:=[vb (decide (Aam (ai aa 0)))]
def Af3:ConT:=⟨[rkS dyS],[kb],fun aa=>DShs dyS (ai aa 0),fun aa rs=>rs=Ahc aa⟩
def Aaa:Prop:=∀ b0 l1 x2,Ob (DShs dyS [db b0,D.fs l1,dn x2])→∀ (R:List DV→Prop),let N0:=(R [vb false]);Ob (∀ (res:List DV),res=[vb (decide (Aam [db b0,D.fs l1,dn x2]))]→R res)→Ob (LSh [s32] l1)∧∀ b4,Ob ([vb b4]=[vb (decide (Gn l1))])→(b4=false→Ob N0)∧(¬b4=false→(x2<0→Ob N0)∧(¬x2<0→(x2>1024→Ob N0)∧(¬x2>1024→∀ x5:Int,x5=l1.length→(x5=0→(x2=0→(b0=false→Ob (R [vb true]))∧(¬b0=false→Ob N0))∧(¬x2=0→Ob N0))∧(¬x5=0→(x2=0→Ob (R [vb true]))∧(¬x2=0→Ob ((0:Int)≤(0:Int)∧(0:Int)<(l1.length:Int))∧Ob (Shp kU l1)∧∀ x6,Ob (l1[Int.toNat (0:Int)]?=some [d32 x6])→Ob ((2:Int)≠(0:Int))∧∀ x7:Int,x7=Int.tmod x6 (2:Int)→(x7=1→Ob (R [vb true]))∧(¬x7=1→Ob N0))))))
theorem Ac8:Aaa:=by
  delta Aaa
  simp only [Ac,and_imp,List.cons_append,List.nil_append,Ab,Af,Ai,Ah,Ak,rng64,rng32,true_and,and_true,List.cons.injEq,DV.c.injEq,DV.a.injEq,D.raw.injEq,D.fs.injEq,Value.bool.injEq,Value.int.injEq]
  repeat' first | assumption | exact DShs.tail (Aa (by assumption) (by assumption)) | exact shp32 (by assumption) | exact shp64 (by assumption) | exact shp2 (by assumption) | exact shpF (by assumption) | with_reducible intro _ | with_reducible apply And.intro
  all_goals (try (have z:=Axh (by assumption);skip))
  all_goals (try (have z2:=Atg (by assumption) (by assumption) (by assumption) (by assumption)))
  all_goals first
    | assumption
    | omega
    | (apply ‹∀ res:List DV,_=_→_›;simp [Aam,gB,gI,gL,-List.length_eq_zero_iff];grind)
    | skip
theorem Ajl:Con TP k0 274 Af3:=Ad [(301,Va)] [] [] [(301,Wd)] 3000 ⟨Acr,trivial⟩ ⟨fnq rfl rfl,trivial⟩ Go.Proofs.Tryz.func274 rfl rfl rfl rfl Aaa (by kernel_rfl) Ac8
end Go.Vc

namespace Go.Vc
open Classical
def Hq (aa:List DV):List DV:=[vb (decide (Bl (ai aa 0)))]
def Hi:ConT:=⟨[rkS massS],[kb],fun aa=>DShs massS (ai aa 0),fun aa rs=>rs=Hq aa⟩
def Ml:Prop:=∀ b0 l1 x2 b3 l4 x5 b6 l7 x8 b9 l10 x11,let N1:=[db b9,D.fs l10,dn x11];let N0:=[db b0,D.fs l1,dn x2,db b3,D.fs l4,dn x5,db b6,D.fs l7,dn x8,db b9,D.fs l10,dn x11];Ob (DShs massS N0)→∀ (R:List DV→Prop),let N2:=(R [vb false]);Ob (∀ (res:List DV),res=[vb (decide (Bl N0))]→R res)→Ob (DShs dyS [db b0,D.fs l1,dn x2])∧∀ b13,Ob ([vb b13]=[vb (decide (Aam [db b0,D.fs l1,dn x2]))])→(b13=true→Ob (DShs dyS [db b3,D.fs l4,dn x5])∧∀ b14,Ob ([vb b14]=[vb (decide (Aam [db b3,D.fs l4,dn x5]))])→(b14=true→Ob (DShs dyS [db b6,D.fs l7,dn x8])∧∀ b15,Ob ([vb b15]=[vb (decide (Aam [db b6,D.fs l7,dn x8]))])→(b15=true→Ob (DShs dyS N1)∧∀ b16,Ob ([vb b16]=[vb (decide (Aam N1))])→Ob (R [vb b16]))∧(b15=false→Ob N2))∧(b14=false→Ob N2))∧(b13=false→Ob N2)
theorem Xc:Ml:=by
  delta Ml
  simp only [Ac,and_imp,List.cons_append,List.nil_append,Ab,Af,Ai,Ah,Ak,rng64,rng32,true_and,and_true,List.cons.injEq,DV.c.injEq,DV.a.injEq,D.raw.injEq,D.fs.injEq,Value.bool.injEq,Value.int.injEq]
  repeat' first | assumption | exact DShs.tail (Aa (by assumption) (by assumption)) | exact shp32 (by assumption) | exact shp64 (by assumption) | exact shp2 (by assumption) | exact shpF (by assumption) | with_reducible intro _ | with_reducible apply And.intro
  all_goals first
    | assumption
    | omega
    | (apply ‹∀ res:List DV,_=_→_›;simp_all [Bl,sub3];try grind)
theorem Gs:Con TP k0 228 Hi:=Ad [(274,Af3)] [] [] [(274,Ahc)] 3000 ⟨Ajl,trivial⟩ ⟨fnq rfl rfl,trivial⟩ Go.Proofs.Tryz.func228 rfl rfl rfl rfl Ml (by kernel_rfl) Xc
end Go.Vc

namespace Go.Vc
open Classical
def Ic (aa:List DV):List DV:=[vn (Dq (li aa 0))]
def Hy:ConT:=⟨[kl],[kn],fun aa=>LSh loadS (li aa 0),fun aa rs=>rs=Ic aa⟩
def Ez:Prop:=∀ (l0:LL),let N1:=(Ca l0);Ob (LSh loadS l0)→∀ (R:List DV→Prop),Ob (∀ (res:List DV),res=[vn (Dq l0)]→R res)→∀ x2:Int,x2=l0.length→(x2>16→Ob (R [vn 4]))∧(¬x2>16→Ob ((0:Int)≤(0:Int)∧upto N1 (0:Int))∧∀ (g3:NV) (x4:Int),Ob (0≤x4∧upto N1 x4)→∀ x5:Int,x5=l0.length→(x4<x5→Ob (0≤x4∧x4<l0.length)∧Ob (Shp kL l0)∧∀ x6 x7 x8 b9 l10 x11 b12 l13 x14 b15 l16 x17 b18 l19 x20,let N0:=[db b9,D.fs l10,dn x11,db b12,D.fs l13,dn x14,db b15,D.fs l16,dn x17,db b18,D.fs l19,dn x20];Ob (l0[x4.toNat]?=some [dn x6,dn x7,dn x8,db b9,D.fs l10,dn x11,db b12,D.fs l13,dn x14,db b15,D.fs l16,dn x17,db b18,D.fs l19,dn x20])→(x6<0→Ob (R [vn 8]))∧(¬x6<0→(x6>1048575→Ob (R [vn 8]))∧(¬x6>1048575→(x7<0→Ob (R [vn 8]))∧(¬x7<0→(x7>65535→Ob (R [vn 8]))∧(¬x7>65535→(x8<1→Ob (R [vn 8]))∧(¬x8<1→(x8>16→Ob (R [vn 8]))∧(¬x8>16→Ob (DShs massS N0)∧∀ b21,Ob ([vb b21]=[vb (decide (Bl N0))])→(b21=false→Ob (R [vn 8]))∧(¬b21=false→(x4>0→∀ x22:Int,x22=w64 (x4-1)→Ob (0≤x22∧x22<l0.length)∧Ob (Shp kL l0)∧∀ x23 x24 x25 b26 l27 x28 b29 l30 x31 b32 l33 x34 b35 l36 x37,Ob (l0[x22.toNat]?=some [dn x23,dn x24,dn x25,db b26,D.fs l27,dn x28,db b29,D.fs l30,dn x31,db b32,D.fs l33,dn x34,db b35,D.fs l36,dn x37])→(x6≤x23→Ob (R [vn 8]))∧(¬x6≤x23→∀ x38:Int,x38=w64 (x4+1)→Ob (0≤x38∧upto N1 x38)∧Ob (l0.length-x38.toNat<l0.length-x4.toNat)))∧(¬x4>0→∀ x39:Int,x39=w64 (x4+1)→Ob (0≤x39∧upto N1 x39)∧Ob (l0.length-x39.toNat<l0.length-x4.toNat))))))))))∧(¬x4<x5→Ob (R [vn 0])))
theorem Lk:Ez:=by
  delta Ez
  simp only [Ac,and_imp,true_and,and_true,List.cons.injEq,DV.c.injEq,DV.a.injEq,D.raw.injEq,D.fs.injEq,Value.bool.injEq,Value.int.injEq]
  repeat' first | assumption | exact DShs.tail (Aa (by assumption) (by assumption)) | exact shp32 (by assumption) | exact shp64 (by assumption) | exact shp2 (by assumption) | exact shpF (by assumption) | with_reducible intro _ | with_reducible apply And.intro
  all_goals (try (have e:=Ae ‹_=w64 (_+1)› (by omega) (by omega);subst e))
  all_goals (try (have e:=En ‹_=w64 (_-1)› (by omega) (by omega);subst e))
  all_goals first
    | assumption
    | (exact fun i hi=>by omega)
    | omega
    | exact shpLo (by assumption)
    | exact DShs.tail (DShs.tail (DShs.tail (Aa (by assumption) (by assumption))))
    | (rw [Ag (by omega)];exact ⟨by assumption,Wp ‹_=some (_::_::_::_)› ‹_=decide (Bl _)› (by assumption) (Vm (by assumption) (by assumption)) (by omega) (by omega) (by omega) (by omega) (by omega) (by omega)⟩)
    | (rw [Ag (by omega)];exact ⟨by assumption,Wp (by assumption) (by assumption) (by assumption) (Auj (by assumption)) (by omega) (by omega) (by omega) (by omega) (by omega) (by omega)⟩)
    | (apply ‹∀ res:List DV,_=_→_›;simp only [Dq];rw [if_pos (by omega)])
    | (apply ‹∀ res:List DV,_=_→_›;rw [Gr (n:=(List.length _:Nat)) (by omega) (Akd (by assumption) (by assumption) (by assumption) (by omega)) (by omega) (by omega) rfl])
    | (apply ‹∀ res:List DV,_=_→_›;rw [Gr (n:=(List.length _:Nat)) (by omega) (Akb (by assumption) (by assumption) (by assumption)) (by omega) (by omega) rfl])
    | (apply ‹∀ res:List DV,_=_→_›;rw [Gr (n:=(List.length _:Nat)) (by omega) (Akc (by assumption) (by assumption) (by assumption) (by assumption)) (by omega) (by omega) rfl])
    | (apply ‹∀ res:List DV,_=_→_›;rw [Acj (by omega) (by assumption) (by assumption) (by assumption)])
    | skip
theorem Oo:Con TP k0 146 Hy:=Ad [(228,Hi)] [(146000,0,some ⟨[0],[3],[],[kn],[],fun ρ ds=>0≤ni ds 0∧upto (Ca (ρ.d 0)) (ni ds 0),fun ρ ds=>(ρ.d 0).length-(ni ds 0).toNat,none⟩)] [] [(228,Hq)] 3000 ⟨Gs,trivial⟩ ⟨fnq rfl rfl,trivial⟩ Go.Proofs.Tryz.func146 rfl rfl rfl rfl Ez (by kernel_rfl) Lk
end Go.Vc

namespace Go.Vc
open Classical
def Ib (aa:List DV):List DV:=[vn (Ci (li aa 0))]
def Hx:ConT:=⟨[kl],[kn],fun aa=>LSh entryS (li aa 0),fun aa rs=>rs=Ib aa⟩
def Ey:Prop:=∀ (l0:LL),Ob (LSh entryS l0)→∀ (R:List DV→Prop),Ob (∀ (res:List DV),res=[vn (Ci l0)]→R res)→∀ x2:Int,x2=l0.length→(x2>8192→Ob (R [vn 4]))∧(¬x2>8192→Ob ((0:Int)≤(0:Int)∧upto (Bj l0) (0:Int))∧∀ (g3:NV) (x4:Int),let N0:=(0≤x4∧x4<l0.length);Ob (0≤x4∧upto (Bj l0) x4)→∀ x5:Int,x5=l0.length→(x4<x5→Ob N0∧Ob (Shp kE l0)∧∀ x6 x7 b8 l9 x10 b11 l12 x13 b14 l15 x16 b17 l18 x19,Ob (l0[x4.toNat]?=some [dn x6,d8 x7,db b8,D.fs l9,dn x10,db b11,D.fs l12,dn x13,db b14,D.fs l15,dn x16,db b17,D.fs l18,dn x19])→(x6<0→Ob (R [vn 8]))∧(¬x6<0→Ob N0∧Ob (Shp kE l0)∧∀ x20 x21 b22 l23 x24 b25 l26 x27 b28 l29 x30 b31 l32 x33,Ob (l0[x4.toNat]?=some [dn x20,d8 x21,db b22,D.fs l23,dn x24,db b25,D.fs l26,dn x27,db b28,D.fs l29,dn x30,db b31,D.fs l32,dn x33])→(x20>65535→Ob (R [vn 8]))∧(¬x20>65535→Ob N0∧Ob (Shp kE l0)∧∀ x34 x35 b36 l37 x38 b39 l40 x41 b42 l43 x44 b45 l46 x47,Ob (l0[x4.toNat]?=some [dn x34,d8 x35,db b36,D.fs l37,dn x38,db b39,D.fs l40,dn x41,db b42,D.fs l43,dn x44,db b45,D.fs l46,dn x47])→(x35<1→Ob (R [vn 8]))∧(¬x35<1→Ob N0∧Ob (Shp kE l0)∧∀ x48 x49 b50 l51 x52 b53 l54 x55 b56 l57 x58 b59 l60 x61,Ob (l0[x4.toNat]?=some [dn x48,d8 x49,db b50,D.fs l51,dn x52,db b53,D.fs l54,dn x55,db b56,D.fs l57,dn x58,db b59,D.fs l60,dn x61])→(x49>6→Ob (R [vn 8]))∧(¬x49>6→Ob N0∧Ob (Shp kE l0)∧∀ x62 x63 b64 l65 x66 b67 l68 x69 b70 l71 x72 b73 l74 x75,let N1:=[db b64,D.fs l65,dn x66,db b67,D.fs l68,dn x69,db b70,D.fs l71,dn x72,db b73,D.fs l74,dn x75];Ob (l0[x4.toNat]?=some [dn x62,d8 x63,db b64,D.fs l65,dn x66,db b67,D.fs l68,dn x69,db b70,D.fs l71,dn x72,db b73,D.fs l74,dn x75])→Ob (DShs massS N1)∧∀ b76,Ob ([vb b76]=[vb (decide (Bl N1))])→(b76=false→Ob (R [vn 8]))∧(¬b76=false→∀ x77:Int,x77=w64 (x4+1)→Ob (0≤x77∧upto (Bj l0) x77)∧Ob (l0.length-x77.toNat<l0.length-x4.toNat)))))))∧(¬x4<x5→Ob (R [vn 0])))
theorem Lj:Ey:=by
  delta Ey
  simp only [Ac,and_imp,true_and,and_true,List.cons.injEq,DV.c.injEq,DV.a.injEq,D.raw.injEq,D.fs.injEq,Value.bool.injEq,Value.int.injEq]
  repeat' first | assumption | exact DShs.tail (Aa (by assumption) (by assumption)) | exact shp32 (by assumption) | exact shp64 (by assumption) | exact shp2 (by assumption) | exact shpF (by assumption) | with_reducible intro _ | with_reducible apply And.intro
  all_goals (try (have e:=Ae ‹_=w64 (_+1)› (by omega) (by omega);subst e))
  all_goals first
    | assumption
    | (exact fun i hi=>by omega)
    | omega
    | exact shpEn (by assumption)
    | exact DShs.tail (DShs.tail (Aa (by assumption) (by assumption)))
    | (rw [Ag (by omega)];exact ⟨by assumption,Ae2 ‹_=some (_::_::_)› ‹_=decide (Bl _)› (by assumption) (by grind)⟩)
    | (apply ‹∀ res:List DV,_=_→_›;simp only [Ci];rw [if_pos (by omega)])
    | (apply ‹∀ res:List DV,_=_→_›;rw [Fh (by omega) (Sw (by assumption) (by omega)) (by assumption) (by omega)])
    | (apply ‹∀ res:List DV,_=_→_›;rw [Fh (by omega) (Ae5 (by assumption) (by assumption) (by assumption)) (by assumption) (by omega)])
    | (apply ‹∀ res:List DV,_=_→_›;rw [Wk (by omega) (by assumption) (by omega)])
    | skip
theorem On:Con TP k0 147 Hx:=Ad [(228,Hi)] [(147000,0,some ⟨[0],[3],[],[kn],[],fun ρ ds=>0≤ni ds 0∧upto (Bj (ρ.d 0)) (ni ds 0),fun ρ ds=>(ρ.d 0).length-(ni ds 0).toNat,none⟩)] [] [(228,Hq)] 3000 ⟨Gs,trivial⟩ ⟨fnq rfl rfl,trivial⟩ Go.Proofs.Tryz.func147 rfl rfl rfl rfl Ey (by kernel_rfl) Lj
end Go.Vc

namespace Go.Vc
open Classical
def Rs (aa:List DV):List DV:=[vb (decide (Dg (ai aa 0)))]
def Qa:ConT:=⟨[rkS clockS],[kb],fun aa=>DShs clockS (ai aa 0),fun aa rs=>rs=Rs aa⟩
def Jf:Prop:=∀ x0 x1 x2 x3 x4,let N1:=[dn x0,dn x1,dn x2,dn x3,dn x4];Ob (DShs clockS N1)→∀ (R:List DV→Prop),let N0:=(R [vb false]);Ob (∀ (res:List DV),res=[vb (decide (Dg N1))]→R res)→(x0<1→Ob N0)∧(¬x0<1→(x0>64→Ob N0)∧(¬x0>64→(x1<0→Ob N0)∧(¬x1<0→(x1>2147483647→Ob N0)∧(¬x1>2147483647→(x2<0→Ob N0)∧(¬x2<0→(x2>x1→Ob N0)∧(¬x2>x1→(x3<0→Ob N0)∧(¬x3<0→(x3>65535→Ob N0)∧(¬x3>65535→(x4<0→Ob N0)∧(¬x4<0→(x4>65536→Ob N0)∧(¬x4>65536→∀ x6:Int,x6=w64 (x1-x2)→(x6<x0→Ob (R [vb true]))∧(¬x6<x0→(x3=65535→Ob (R [vb true]))∧(¬x3=65535→Ob N0))))))))))))
theorem Tv:Jf:=by
  delta Jf
  simp only [Ac,and_imp,List.cons_append,List.nil_append,Ab,Af,Ai,Ah,Ak,rng64,rng32,true_and,and_true,List.cons.injEq,DV.c.injEq,DV.a.injEq,D.raw.injEq,D.fs.injEq,Value.bool.injEq,Value.int.injEq]
  repeat' first | assumption | exact DShs.tail (Aa (by assumption) (by assumption)) | exact shp32 (by assumption) | exact shp64 (by assumption) | exact shp2 (by assumption) | exact shpF (by assumption) | with_reducible intro _ | with_reducible apply And.intro
  all_goals (try (have e:=Fk ‹_=w64 (_-_)› (by omega) (by omega);subst e))
  all_goals first
    | assumption
    | omega
    | (apply ‹∀ res:List DV,_=_→_›;simp [Dg,gI];try omega)
theorem Zj:Con TP k0 181 Qa:=Ad [] [] [] [] 3000 trivial trivial Go.Proofs.Tryz.func181 rfl rfl rfl rfl Jf (by kernel_rfl) Tv
end Go.Vc

namespace Go.Vc
open Classical
def Rp (aa:List DV):List DV:=[vb (decide (Cc (li aa 0)=0))]
def Py:ConT:=⟨[kl],[kb],fun aa=>LSh [s32] (li aa 0),fun aa rs=>rs=Rp aa⟩
def Jd:Prop:=∀ (l0:LL),Ob (LSh [s32] l0)→∀ (R:List DV→Prop),Ob (∀ (res:List DV),res=[vb (decide (Cc l0=(0:Int)))]→R res)→Ob ((1:Int)≤(1:Int)∧upto (Cq l0) (1:Int))∧∀ (g2:NV) (x3:Int),Ob (1≤x3∧upto (Cq l0) x3)→∀ x4:Int,x4=l0.length→(x3<x4→Ob (0≤x3∧x3<l0.length)∧Ob (Shp kU l0)∧∀ x5,Ob (l0[x3.toNat]?=some [d32 x5])→∀ x6:Int,x6=w64 (x3-1)→Ob (0≤x6∧x6<l0.length)∧Ob (Shp kU l0)∧∀ x7,Ob (l0[x6.toNat]?=some [d32 x7])→(x5≤x7→Ob (R [vb false]))∧(¬x5≤x7→∀ x8:Int,x8=w64 (x3+1)→Ob (1≤x8∧upto (Cq l0) x8)∧Ob (l0.length-x8.toNat<l0.length-x3.toNat)))∧(¬x3<x4→∀ x9:Int,x9=l0.length→(x9≤8→Ob (R [vb true]))∧(¬x9≤8→Ob (R [vb false])))
theorem Tt:Jd:=by
  delta Jd
  simp only [Ac,and_imp,true_and,and_true,List.cons.injEq,DV.c.injEq,DV.a.injEq,D.raw.injEq,D.fs.injEq,Value.bool.injEq,Value.int.injEq]
  repeat' first | assumption | exact DShs.tail (Aa (by assumption) (by assumption)) | exact shp32 (by assumption) | exact shp64 (by assumption) | exact shp2 (by assumption) | exact shpF (by assumption) | with_reducible intro _ | with_reducible apply And.intro
  all_goals (try (have e:=Ae ‹_=w64 (_+1)› (by omega) (by omega);subst e))
  all_goals (try (have e:=Fk ‹_=w64 (_-1)› (by omega) (by omega);subst e))
  all_goals first
    | assumption
    | (exact fun i hi h0=>by omega)
    | omega
    | exact shp32 (by assumption)
    | (rw [Ag (by omega)];exact ⟨by assumption,Of (by assumption) (by assumption) (by omega)⟩)
    | (apply ‹∀ res:List DV,_=_→_›;exact Arg (by assumption) (Sv (by assumption) (by assumption) (by omega) (by omega)) (by omega) (by assumption))
    | (apply ‹∀ res:List DV,_=_→_›;exact Avb (by assumption) (by assumption) (by assumption) (by assumption) (by assumption))
    | (apply ‹∀ res:List DV,_=_→_›;exact Avc (by assumption) (by assumption))
    | (apply ‹∀ res:List DV,_=_→_›;exact least_ok (by assumption) (by assumption) (by omega) (by assumption))
    | skip
theorem Zh:Con TP k0 256 Py:=Ad [] [(256000,0,some ⟨[0],[3],[],[kn],[],fun ρ ds=>1≤ni ds 0∧upto (Cq (ρ.d 0)) (ni ds 0),fun ρ ds=>(ρ.d 0).length-(ni ds 0).toNat,none⟩)] [] [] 3000 trivial trivial Go.Proofs.Tryz.func256 rfl rfl rfl rfl Jd (by kernel_rfl) Tt
end Go.Vc

namespace Go.Vc
open Classical
def Ly (aa:List DV):List DV:=[vb (decide (Bp (ai aa 0)))]
def Ln:ConT:=⟨[rkS partS],[kb],fun aa=>DShs partS (ai aa 0),fun aa rs=>rs=Ly aa⟩
def Mi:Prop:=∀ (b0:Bool) (l1:LL) (x2:Int) (b3:Bool) (l4:LL) (x5:Int) (b6:Bool) (l7:LL) (x8:Int) (b9:Bool) (l10:LL) (x11:Int) (b12:Bool) (x13 x14:Int) (l15:LL),let N3:=[db b0,D.fs l1,dn x2,db b3,D.fs l4,dn x5,db b6,D.fs l7,dn x8,db b9,D.fs l10,dn x11];let N2:=[vb (decide (Cc l15=(0:Int)))];let N1:=[db b0,D.fs l1,dn x2,db b3,D.fs l4,dn x5,db b6,D.fs l7,dn x8,db b9,D.fs l10,dn x11,db b12,dn x13,dn x14,D.fs l15];Ob (DShs partS N1)→∀ (R:List DV→Prop),let N0:=(R [vb false]);let N8:=(¬x13≤x14→Ob N0);let N7:=(¬x13≤2147483647→Ob N0);let N6:=(¬x14≤2147483647→Ob N0);let N5:=(¬x13≥-2147483647→Ob N0);let N4:=(¬x14≥-2147483647→Ob N0);Ob (∀ (res:List DV),res=[vb (decide (Bp N1))]→R res)→Ob (DShs massS N3)∧∀ b17,Ob ([vb b17]=[vb (decide (Bl N3))])→(b17=true→(b3=false→∀ x18:Int,x18=l4.length→(x18=0→∀ x19:Int,x19=l1.length→(x19=0→(b12=false→(x13=0→(x14=0→Ob (LSh [s32] l15)∧∀ b20,Ob ([vb b20]=N2)→Ob (R [vb b20]))∧(¬x14=0→Ob N0))∧(¬x13=0→Ob N0))∧(¬b12=false→(x13≥-2147483647→(x13≤2147483647→(x14≥-2147483647→(x14≤2147483647→(x13≤x14→Ob (LSh [s32] l15)∧∀ b21,Ob ([vb b21]=N2)→Ob (R [vb b21]))∧N8)∧N6)∧N4)∧N7)∧N5))∧(¬x19=0→Ob N0))∧(¬x18=0→(b12=false→(x13=0→(x14=0→Ob (LSh [s32] l15)∧∀ b22,Ob ([vb b22]=N2)→Ob (R [vb b22]))∧(¬x14=0→Ob N0))∧(¬x13=0→Ob N0))∧(¬b12=false→(x13≥-2147483647→(x13≤2147483647→(x14≥-2147483647→(x14≤2147483647→(x13≤x14→Ob (LSh [s32] l15)∧∀ b23,Ob ([vb b23]=N2)→Ob (R [vb b23]))∧N8)∧N6)∧N4)∧N7)∧N5)))∧(¬b3=false→Ob N0))∧(b17=false→Ob N0)
theorem Wz:Mi:=by
  delta Mi
  simp only [Ac,and_imp,List.cons_append,List.nil_append,Ab,Af,Ai,Ah,Ak,rng64,rng32,true_and,and_true,List.cons.injEq,DV.c.injEq,DV.a.injEq,D.raw.injEq,D.fs.injEq,Value.bool.injEq,Value.int.injEq]
  repeat' first | assumption | exact DShs.tail (Aa (by assumption) (by assumption)) | exact shp32 (by assumption) | exact shp64 (by assumption) | exact shp2 (by assumption) | exact shpF (by assumption) | with_reducible intro _ | with_reducible apply And.intro
  all_goals first
    | assumption
    | omega
    | (apply ‹∀ res:List DV,_=_→_›;simp_all [Bp,Vo,Vp,inV,sub3,gB,gI,gL,-List.length_eq_zero_iff];try grind)
theorem Nz:Con TP k0 193 Ln:=Ad [(228,Hi),(256,Py)] [] [] [(228,Hq),(256,Rp)] 3000 ⟨Gs,Zh,trivial⟩ ⟨fnq rfl rfl,fnq rfl rfl,trivial⟩ Go.Proofs.Tryz.func193 rfl rfl rfl rfl Mi (by kernel_rfl) Wz
end Go.Vc

namespace Go.Vc
open Classical
def Anr (aa:List DV):List DV:=[vb (decide (li aa 0=li aa 1))]
def Ali:ConT:=⟨[kl,kl],[kb],fun aa=>LSh [s32] (li aa 0)∧LSh [s32] (li aa 1),fun aa rs=>rs=Anr aa⟩
def Aft:Prop:=∀ (l0 l1:LL),Ob (LSh [s32] l0∧LSh [s32] l1)→∀ (R:List DV→Prop),Ob (∀ (res:List DV),res=[vb (decide (l0=l1))]→R res)→∀ x3:Int,x3=l0.length→∀ x4:Int,x4=l1.length→(x3≠x4→Ob (R [vb false]))∧(¬x3≠x4→Ob ((0:Int)≤(0:Int)∧l0.length=l1.length∧(0:Int)≤(l0.length:Int)∧List.take (Int.toNat (0:Int)) l0=List.take (Int.toNat (0:Int)) l1)∧∀ (g5:NV) (x6:Int),Ob (0≤x6∧l0.length=l1.length∧x6≤l0.length∧List.take (x6.toNat) l0=List.take (x6.toNat) l1)→∀ x7:Int,x7=l0.length→(x6<x7→Ob (0≤x6∧x6<l0.length)∧Ob (Shp kU l0)∧∀ x8,Ob (l0[x6.toNat]?=some [d32 x8])→Ob (0≤x6∧x6<l1.length)∧Ob (Shp kU l1)∧∀ x9,Ob (l1[x6.toNat]?=some [d32 x9])→(x8≠x9→Ob (R [vb false]))∧(¬x8≠x9→∀ x10:Int,x10=w64 (x6+1)→Ob (0≤x10∧l0.length=l1.length∧x10≤l0.length∧List.take (x10.toNat) l0=List.take (x10.toNat) l1)∧Ob (l0.length-x10.toNat<l0.length-x6.toNat)))∧(¬x6<x7→Ob (R [vb true])))
theorem Ain:Aft:=by
  delta Aft
  simp only [Ac,and_imp,true_and,and_true,List.cons.injEq,DV.c.injEq,DV.a.injEq,D.raw.injEq,D.fs.injEq,Value.bool.injEq,Value.int.injEq]
  repeat' first | assumption | exact DShs.tail (Aa (by assumption) (by assumption)) | exact shp32 (by assumption) | exact shp64 (by assumption) | exact shp2 (by assumption) | exact shpF (by assumption) | with_reducible intro _ | with_reducible apply And.intro
  all_goals (try (have e:=Ae ‹_=w64 (_+1)› (by omega) (by omega);subst e))
  all_goals first
    | assumption
    | omega
    | exact shp32 (by assumption)
    | exact Aa (by assumption) (by assumption)
    | exact DShs.tail (Aa (by assumption) (by assumption))
    | (apply ‹∀ res:List DV,_=_→_›;simp;grind [El,Dc])
    | (rw [Ao (by omega) (by assumption),Ao (by omega) (by assumption)];grind)
    | grind
    | skip
theorem Aot:Con TP k0 275 Ali:=Ad [] [(275000,0,some ⟨[0,1],[5],[],[kn],[],fun ρ ds=>0≤ni ds 0∧(ρ.d 0).length=(ρ.d 1).length∧ni ds 0≤(ρ.d 0).length∧(ρ.d 0).take (ni ds 0).toNat=(ρ.d 1).take (ni ds 0).toNat,fun ρ ds=>(ρ.d 0).length-(ni ds 0).toNat,none⟩)] [] [] 3000 trivial trivial Go.Proofs.Tryz.func275 rfl rfl rfl rfl Aft (by kernel_rfl) Ain
end Go.Vc

namespace Go.Vc
open Classical
def Ax7 (aa:List DV):List DV:=[vb (decide (ai aa 0=ai aa 1))]
def Awn:ConT:=⟨[rkS dyS,rkS dyS],[kb],fun aa=>DShs dyS (ai aa 0)∧DShs dyS (ai aa 1),fun aa rs=>rs=Ax7 aa⟩
def Awe:Prop:=∀ b0 l1 x2 b3 l4 x5,Ob (DShs dyS [db b0,D.fs l1,dn x2]∧DShs dyS [db b3,D.fs l4,dn x5])→∀ (R:List DV→Prop),Ob (∀ (res:List DV),res=[vb (decide ([db b0,D.fs l1,dn x2]=[db b3,D.fs l4,dn x5]))]→R res)→(b0=b3→(x2=x5→Ob (LSh [s32] l1∧LSh [s32] l4)∧∀ b7,Ob ([vb b7]=[vb (decide (l1=l4))])→Ob (R [vb b7]))∧(¬x2=x5→Ob (R [vb false])))∧(¬b0=b3→Ob (R [vb false]))
theorem Apt:Awe:=by
  delta Awe
  simp only [Ac,and_imp,List.cons_append,List.nil_append,Ab,Af,Ai,Ah,Ak,rng64,rng32,true_and,and_true,List.cons.injEq,DV.c.injEq,DV.a.injEq,D.raw.injEq,D.fs.injEq,Value.bool.injEq,Value.int.injEq]
  repeat' first | assumption | exact DShs.tail (Aa (by assumption) (by assumption)) | exact shp32 (by assumption) | exact shp64 (by assumption) | exact shp2 (by assumption) | exact shpF (by assumption) | with_reducible intro _ | with_reducible apply And.intro
  all_goals first
    | assumption
    | omega
    | (apply ‹∀ res:List DV,_=_→_›;simp_all)
    | grind
theorem Avz:Con TP k0 230 Awn:=Ad [(275,Ali)] [] [] [(275,Anr)] 3000 ⟨Aot,trivial⟩ ⟨fnq rfl rfl,trivial⟩ Go.Proofs.Tryz.func230 rfl rfl rfl rfl Awe (by kernel_rfl) Apt
end Go.Vc

namespace Go.Vc
open Classical
def Anq (aa:List DV):List DV:=[vb (decide (ai aa 0=ai aa 1))]
def Alh:ConT:=⟨[rkS massS,rkS massS],[kb],fun aa=>DShs massS (ai aa 0)∧DShs massS (ai aa 1),fun aa rs=>rs=Anq aa⟩
def Afs:Prop:=∀ b0 l1 x2 b3 l4 x5 b6 l7 x8 b9 l10 x11 b12 l13 x14 b15 l16 x17 b18 l19 x20 b21 l22 x23,let N6:=[db b9,D.fs l10,dn x11];let N5:=[db b21,D.fs l22,dn x23];let N4:=[db b18,D.fs l19,dn x20];let N3:=[db b15,D.fs l16,dn x17];let N2:=[db b12,D.fs l13,dn x14];let N1:=[db b0,D.fs l1,dn x2,db b3,D.fs l4,dn x5,db b6,D.fs l7,dn x8,db b9,D.fs l10,dn x11];let N0:=[db b12,D.fs l13,dn x14,db b15,D.fs l16,dn x17,db b18,D.fs l19,dn x20,db b21,D.fs l22,dn x23];Ob (DShs massS N1∧DShs massS N0)→∀ (R:List DV→Prop),let N7:=(R [vb false]);Ob (∀ (res:List DV),res=[vb (decide (N1=N0))]→R res)→Ob (DShs dyS [db b0,D.fs l1,dn x2]∧DShs dyS N2)∧∀ b25,Ob ([vb b25]=[vb (decide ([db b0,D.fs l1,dn x2]=N2))])→(b25=true→Ob (DShs dyS [db b3,D.fs l4,dn x5]∧DShs dyS N3)∧∀ b26,Ob ([vb b26]=[vb (decide ([db b3,D.fs l4,dn x5]=N3))])→(b26=true→Ob (DShs dyS [db b6,D.fs l7,dn x8]∧DShs dyS N4)∧∀ b27,Ob ([vb b27]=[vb (decide ([db b6,D.fs l7,dn x8]=N4))])→(b27=true→Ob (DShs dyS N6∧DShs dyS N5)∧∀ b28,Ob ([vb b28]=[vb (decide (N6=N5))])→Ob (R [vb b28]))∧(b27=false→Ob N7))∧(b26=false→Ob N7))∧(b25=false→Ob N7)
theorem Aim:Afs:=by
  delta Afs
  simp only [Ac,and_imp,List.cons_append,List.nil_append,Ab,Af,Ai,Ah,Ak,rng64,rng32,true_and,and_true,List.cons.injEq,DV.c.injEq,DV.a.injEq,D.raw.injEq,D.fs.injEq,Value.bool.injEq,Value.int.injEq]
  repeat' first | assumption | exact DShs.tail (Aa (by assumption) (by assumption)) | exact shp32 (by assumption) | exact shp64 (by assumption) | exact shp2 (by assumption) | exact shpF (by assumption) | with_reducible intro _ | with_reducible apply And.intro
  all_goals first
    | assumption
    | omega
    | (apply ‹∀ res:List DV,_=_→_›;simp_all)
    | grind
theorem Aos:Con TP k0 152 Alh:=Ad [(230,Awn)] [] [] [(230,Ax7)] 3000 ⟨Avz,trivial⟩ ⟨fnq rfl rfl,trivial⟩ Go.Proofs.Tryz.func152 rfl rfl rfl rfl Afs (by kernel_rfl) Aim
end Go.Vc

namespace Go.Vc
open Classical
def Ann (aa:List DV):List DV:=[vb (decide (li aa 0=li aa 1))]
def Ale:ConT:=⟨[kl,kl],[kb],fun aa=>LSh [s32] (li aa 0)∧LSh [s32] (li aa 1),fun aa rs=>rs=Ann aa⟩
def Afo:Prop:=∀ (l0 l1:LL),Ob (LSh [s32] l0∧LSh [s32] l1)→∀ (R:List DV→Prop),Ob (∀ (res:List DV),res=[vb (decide (l0=l1))]→R res)→∀ x3:Int,x3=l0.length→∀ x4:Int,x4=l1.length→(x3≠x4→Ob (R [vb false]))∧(¬x3≠x4→Ob ((0:Int)≤(0:Int)∧l0.length=l1.length∧(0:Int)≤(l0.length:Int)∧List.take (Int.toNat (0:Int)) l0=List.take (Int.toNat (0:Int)) l1)∧∀ (g5:NV) (x6:Int),Ob (0≤x6∧l0.length=l1.length∧x6≤l0.length∧List.take (x6.toNat) l0=List.take (x6.toNat) l1)→∀ x7:Int,x7=l0.length→(x6<x7→Ob (0≤x6∧x6<l0.length)∧Ob (Shp kU l0)∧∀ x8,Ob (l0[x6.toNat]?=some [d32 x8])→Ob (0≤x6∧x6<l1.length)∧Ob (Shp kU l1)∧∀ x9,Ob (l1[x6.toNat]?=some [d32 x9])→(x8≠x9→Ob (R [vb false]))∧(¬x8≠x9→∀ x10:Int,x10=w64 (x6+1)→Ob (0≤x10∧l0.length=l1.length∧x10≤l0.length∧List.take (x10.toNat) l0=List.take (x10.toNat) l1)∧Ob (l0.length-x10.toNat<l0.length-x6.toNat)))∧(¬x6<x7→Ob (R [vb true])))
theorem Aii:Afo:=by
  delta Afo
  simp only [Ac,and_imp,true_and,and_true,List.cons.injEq,DV.c.injEq,DV.a.injEq,D.raw.injEq,D.fs.injEq,Value.bool.injEq,Value.int.injEq]
  repeat' first | assumption | exact DShs.tail (Aa (by assumption) (by assumption)) | exact shp32 (by assumption) | exact shp64 (by assumption) | exact shp2 (by assumption) | exact shpF (by assumption) | with_reducible intro _ | with_reducible apply And.intro
  all_goals (try (have e:=Ae ‹_=w64 (_+1)› (by omega) (by omega);subst e))
  all_goals first
    | assumption
    | omega
    | exact shp32 (by assumption)
    | exact Aa (by assumption) (by assumption)
    | exact DShs.tail (Aa (by assumption) (by assumption))
    | (apply ‹∀ res:List DV,_=_→_›;simp;grind [El,Dc])
    | (rw [Ao (by omega) (by assumption),Ao (by omega) (by assumption)];grind)
    | grind
    | skip
theorem Aop:Con TP k0 205 Ale:=Ad [] [(205000,0,some ⟨[0,1],[5],[],[kn],[],fun ρ ds=>0≤ni ds 0∧(ρ.d 0).length=(ρ.d 1).length∧ni ds 0≤(ρ.d 0).length∧(ρ.d 0).take (ni ds 0).toNat=(ρ.d 1).take (ni ds 0).toNat,fun ρ ds=>(ρ.d 0).length-(ni ds 0).toNat,none⟩)] [] [] 3000 trivial trivial Go.Proofs.Tryz.func205 rfl rfl rfl rfl Afo (by kernel_rfl) Aii
end Go.Vc

namespace Go.Vc
open Classical
def Yy (aa:List DV):List DV:=[vb (decide (eqD (ai aa 0) (ai aa 1)))]
def Xp:ConT:=⟨[rkS partS,rkS partS],[kb],fun aa=>DShs partS (ai aa 0)∧DShs partS (ai aa 1),fun aa rs=>rs=Yy aa⟩
def Afq:Prop:=∀ b0 l1 x2 b3 l4 x5 b6 l7 x8 b9 l10 x11 b12 x13 x14 l15 b16 l17 x18 b19 l20 x21 b22 l23 x24 b25 l26 x27 b28 x29 x30 l31,let N3:=[db b0,D.fs l1,dn x2,db b3,D.fs l4,dn x5,db b6,D.fs l7,dn x8,db b9,D.fs l10,dn x11];let N2:=[db b16,D.fs l17,dn x18,db b19,D.fs l20,dn x21,db b22,D.fs l23,dn x24,db b25,D.fs l26,dn x27];let N1:=[db b0,D.fs l1,dn x2,db b3,D.fs l4,dn x5,db b6,D.fs l7,dn x8,db b9,D.fs l10,dn x11,db b12,dn x13,dn x14,D.fs l15];let N0:=[db b16,D.fs l17,dn x18,db b19,D.fs l20,dn x21,db b22,D.fs l23,dn x24,db b25,D.fs l26,dn x27,db b28,dn x29,dn x30,D.fs l31];Ob (DShs partS N1∧DShs partS N0)→∀ (R:List DV→Prop),Ob (∀ (res:List DV),res=[vb (decide (eqD N1 N0))]→R res)→Ob (DShs massS N3∧DShs massS N2)∧∀ b33,Ob ([vb b33]=[vb (decide (N3=N2))])→(b33=true→(b12=b28∧x13=x29∧x14=x30→Ob (LSh [s32] l15∧LSh [s32] l31)∧∀ b34,Ob ([vb b34]=[vb (decide (l15=l31))])→Ob (R [vb b34]))∧(¬(b12=b28∧x13=x29∧x14=x30)→Ob (R [vb false])))∧(b33=false→Ob (R [vb false]))
theorem Aik:Afq:=by
  delta Afq
  simp only [Ac,and_imp,List.cons_append,List.nil_append,Ab,Af,Ai,Ah,Ak,rng64,rng32,true_and,and_true,List.cons.injEq,DV.c.injEq,DV.a.injEq,D.raw.injEq,D.fs.injEq,Value.bool.injEq,Value.int.injEq]
  repeat' first | assumption | exact DShs.tail (Aa (by assumption) (by assumption)) | exact shp32 (by assumption) | exact shp64 (by assumption) | exact shp2 (by assumption) | exact shpF (by assumption) | with_reducible intro _ | with_reducible apply And.intro
  all_goals first
    | assumption
    | omega
    | (apply ‹∀ res:List DV,_=_→_›;simp_all [eqD])
    | grind
theorem Sp:Con TP k0 128 Xp:=Ad [(152,Alh),(205,Ale)] [] [] [(152,Anq),(205,Ann)] 3000 ⟨Aos,Aop,trivial⟩ ⟨fnq rfl rfl,fnq rfl rfl,trivial⟩ Go.Proofs.Tryz.func128 rfl rfl rfl rfl Afq (by kernel_rfl) Aik
end Go.Vc

namespace Go.Vc
open Classical
def Nq (aa:List DV):List DV:=[vn (Bn (li aa 0))]
def Mz:ConT:=⟨[kl],[kn],fun aa=>LSh [s64] (li aa 0),fun aa rs=>rs=Nq aa⟩
def Gy:Prop:=∀ (l0:LL),let N0:=(Bx l0);Ob (LSh [s64] l0)→∀ (R:List DV→Prop),Ob (∀ (res:List DV),res=[vn (Bn l0)]→R res)→∀ x2:Int,x2=l0.length→(x2>4096→Ob (R [vn 4]))∧(¬x2>4096→Ob ((0:Int)≤(0:Int)∧upto N0 (0:Int))∧∀ (g3:NV) (x4:Int),let N1:=(0≤x4∧x4<l0.length);Ob (0≤x4∧upto N0 x4)→∀ x5:Int,x5=l0.length→(x4<x5→Ob N1∧Ob (Shp kI l0)∧∀ x6,Ob (l0[x4.toNat]?=some [dn x6])→(x6≥0→(x6≤1048575→(x4>0→Ob N1∧Ob (Shp kI l0)∧∀ x7,Ob (l0[x4.toNat]?=some [dn x7])→∀ x8:Int,x8=w64 (x4-1)→Ob (0≤x8∧x8<l0.length)∧Ob (Shp kI l0)∧∀ x9,Ob (l0[x8.toNat]?=some [dn x9])→(x7≤x9→Ob (R [vn 8]))∧(¬x7≤x9→∀ x10:Int,x10=w64 (x4+1)→Ob (0≤x10∧upto N0 x10)∧Ob (l0.length-x10.toNat<l0.length-x4.toNat)))∧(¬x4>0→∀ x11:Int,x11=w64 (x4+1)→Ob (0≤x11∧upto N0 x11)∧Ob (l0.length-x11.toNat<l0.length-x4.toNat)))∧(¬x6≤1048575→Ob (R [vn 8])))∧(¬x6≥0→Ob (R [vn 8])))∧(¬x4<x5→Ob (R [vn 0])))
theorem Pf:Gy:=by
  delta Gy
  simp only [Ac,and_imp,true_and,and_true,List.cons.injEq,DV.c.injEq,DV.a.injEq,D.raw.injEq,D.fs.injEq,Value.bool.injEq,Value.int.injEq]
  repeat' first | assumption | exact DShs.tail (Aa (by assumption) (by assumption)) | exact shp32 (by assumption) | exact shp64 (by assumption) | exact shp2 (by assumption) | exact shpF (by assumption) | with_reducible intro _ | with_reducible apply And.intro
  all_goals (try (have e:=Ae ‹_=w64 (_+1)› (by omega) (by omega);subst e))
  all_goals (try (have e:=En ‹_=w64 (_-1)› (by omega) (by omega);subst e))
  all_goals first
    | assumption
    | (exact fun i hi=>by omega)
    | omega
    | exact shp64 (by assumption)
    | (rw [Ag (by omega)];exact ⟨by assumption,Aj2 (by assumption) (by assumption) (by assumption) (by assumption) (by assumption) (by assumption)⟩)
    | (rw [Ag (by omega)];exact ⟨by assumption,Aj1 (by assumption) (by assumption) (by omega) (by omega)⟩)
    | (apply ‹∀ res:List DV,_=_→_›;simp only [Bn];rw [if_pos (by omega)])
    | (apply ‹∀ res:List DV,_=_→_›;rw [Aci (by assumption) (by omega) (Aj4 (by assumption) (by omega) (by assumption) (by omega)) (by omega) (by assumption)])
    | (apply ‹∀ res:List DV,_=_→_›;rw [Aci (by assumption) (by omega) (Aj3 (by assumption) (by assumption) (by assumption) (by omega)) (by omega) (by assumption)])
    | (apply ‹∀ res:List DV,_=_→_›;rw [An1 (by assumption) (by omega) (by assumption) (by omega)])
    | skip
theorem Ul:Con TP k0 195 Mz:=Ad [] [(195000,0,some ⟨[0],[3],[],[kn],[],fun ρ ds=>0≤ni ds 0∧upto (Bx (ρ.d 0)) (ni ds 0),fun ρ ds=>(ρ.d 0).length-(ni ds 0).toNat,none⟩)] [] [] 3000 trivial trivial Go.Proofs.Tryz.func195 rfl rfl rfl rfl Gy (by kernel_rfl) Pf
end Go.Vc
