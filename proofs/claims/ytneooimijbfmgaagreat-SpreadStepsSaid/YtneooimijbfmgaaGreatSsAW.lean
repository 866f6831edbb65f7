import Derived.Test.YtneooimijbfmgaaGreatProg
import Derived.KernelRfl
import Derived.Test.YtneooimijbfmgaaGreatSsAS
import Derived.Test.YtneooimijbfmgaaGreatSsAU
import Derived.Test.YtneooimijbfmgaaGreatSsAV
set_option linter.unusedVariables false
set_option linter.unusedSimpArgs false
set_option linter.unusedSectionVars false
set_option maxHeartbeats 4000000
set_option maxRecDepth 100000
noncomputable section
namespace Go.Vc
open Classical
def Rq (aa:List DV):List DV:=[vl (li aa 0)]
def Pz:ConT:=⟨[kl],[kl],fun aa=>LSh copyS (li aa 0)∧limCo (li aa 0),fun aa rs=>rs=Rq aa⟩
def Je:Prop:=∀ (l0:LL),Ob (LSh copyS l0∧limCo l0)→∀ (R:List DV→Prop),Ob (∀ (res:List DV),res=[vl l0]→R res)→Ob ((0:Int)≤(0:Int)∧(0:Int)≤(l0.length:Int)∧[]=List.take (Int.toNat (0:Int)) l0)∧∀ (g2:NV) (x3:Int) (l4:LL),Ob (0≤x3∧x3≤l0.length∧l4=List.take (x3.toNat) l0)→∀ x5:Int,x5=l0.length→(x3<x5→Ob (0≤x3∧x3<l0.length)∧Ob (Shp kC l0)∧∀ x6 x7 l8 b9,Ob (l0[x3.toNat]?=some [dn x6,dn x7,D.fs l8,db b9])→Ob (Shp [Kd.int IntKind.u8] l8∧List.length ([]:LL)+l8.length≤1048576)∧∀ l10,let N0:=[[dn x6,dn x7,D.fs l10,db b9]];l10=[]++l8→Ob (l4.length+List.length N0≤(1048576:Nat))∧∀ (l11:LL),l11=l4++N0→∀ x12:Int,x12=w64 (x3+1)→Ob (0≤x12∧x12≤l0.length∧l11=List.take (x12.toNat) l0)∧Ob (l0.length-x12.toNat<l0.length-x3.toNat))∧(¬x3<x5→Ob (R [vl l4]))
theorem Tu:Je:=by
  delta Je
  simp only [Ac,and_imp,forall_exists_index,true_and,and_true,List.cons.injEq,DV.c.injEq,DV.a.injEq,D.raw.injEq,D.fs.injEq,Value.bool.injEq,Value.int.injEq]
  intro l0 hl hs hL R hR
  repeat' first | assumption | exact DShs.tail (Aa (by assumption) (by assumption)) | exact shp32 (by assumption) | exact shp64 (by assumption) | exact shp2 (by assumption) | exact shpF (by assumption) | with_reducible intro _ | with_reducible apply And.intro
  all_goals (try (have e:=Ae ‹_=w64 (_+1)› (by omega) (by omega);subst e))
  all_goals (try (have hq:=limCo.at hL (by assumption)))
  all_goals first
    | assumption
    | omega
    | exact (Ayr (Aa (by assumption) (by assumption))).1
    | exact shpCo (by assumption)
    | exact hq
    | (simp only [List.length_nil,Nat.zero_add];exact hq)
    | exact LS.shp (by assumption)
    | exact LS.rect (by assumption)
    | (refine hR _ ?_;subst_vars;rw [List.take_of_length_le (by omega)];done)
    | rfl
    | (subst_vars;rw [Ao (by omega) (by assumption)];simp;done)
    | (rw [Ao (by omega) (by assumption)];grind)
    | (have hl1:=hL.1;subst_vars;simp only [List.length_take,List.length_append,List.length_cons,List.length_nil,Nat.zero_add] at *;omega)
    | skip
theorem Zi:Con TP k0 49 Pz:=Ad [] [(49000,0,some ⟨[0],[4],[],[kn],[⟨3,148,4,true, .tmp⟩],fun ρ ds=>0≤ni ds 0∧ni ds 0≤(ρ.d 0).length∧li ds 1=(ρ.d 0).take (ni ds 0).toNat,fun ρ ds=>(ρ.d 0).length-(ni ds 0).toNat,none⟩)] [] [] 3000 trivial trivial Go.Proofs.Tryz.func49 rfl rfl rfl rfl Je (by kernel_rfl) Tu
end Go.Vc

namespace Go.Vc
open Classical
def Ro (aa:List DV):List DV:=[vl (li aa 0)]
def Px:ConT:=⟨[kl],[kl],fun aa=>LSh loadS (li aa 0)∧limLo (li aa 0),fun aa rs=>rs=Ro aa⟩
def Jc:Prop:=∀ (l0:LL),Ob (LSh loadS l0∧limLo l0)→∀ (R:List DV→Prop),Ob (∀ (res:List DV),res=[vl l0]→R res)→Ob ((0:Int)≤(0:Int)∧(0:Int)≤(l0.length:Int)∧[]=List.take (Int.toNat (0:Int)) l0)∧∀ (g2:NV) (x3:Int) (l4:LL),Ob (0≤x3∧x3≤l0.length∧l4=List.take (x3.toNat) l0)→∀ x5:Int,x5=l0.length→(x3<x5→Ob (0≤x3∧x3<l0.length)∧Ob (Shp kL l0)∧∀ x6 x7 x8 b9 l10 x11 b12 l13 x14 b15 l16 x17 b18 l19 x20,let N1:=[db b9,D.fs l10,dn x11,db b12,D.fs l13,dn x14,db b15,D.fs l16,dn x17,db b18,D.fs l19,dn x20];Ob (l0[x3.toNat]?=some [dn x6,dn x7,dn x8,db b9,D.fs l10,dn x11,db b12,D.fs l13,dn x14,db b15,D.fs l16,dn x17,db b18,D.fs l19,dn x20])→Ob (DShs massS N1∧l10.length≤1048576∧l13.length≤1048576∧l16.length≤1048576∧l19.length≤1048576)∧∀ b21 l22 x23 b24 l25 x26 b27 l28 x29 b30 l31 x32,let N0:=[[dn x6,dn x7,dn x8,db b21,D.fs l22,dn x23,db b24,D.fs l25,dn x26,db b27,D.fs l28,dn x29,db b30,D.fs l31,dn x32]];Ob ([DV.a [db b21,D.fs l22,dn x23,db b24,D.fs l25,dn x26,db b27,D.fs l28,dn x29,db b30,D.fs l31,dn x32]]=[DV.a N1])→Ob (l4.length+List.length N0≤(1048576:Nat))∧∀ (l33:LL),l33=l4++N0→∀ x34:Int,x34=w64 (x3+1)→Ob (0≤x34∧x34≤l0.length∧l33=List.take (x34.toNat) l0)∧Ob (l0.length-x34.toNat<l0.length-x3.toNat))∧(¬x3<x5→Ob (R [vl l4]))
theorem Ts:Jc:=by
  delta Jc
  simp only [Ac,and_imp,forall_exists_index,true_and,and_true,List.cons.injEq,DV.c.injEq,DV.a.injEq,D.raw.injEq,D.fs.injEq,Value.bool.injEq,Value.int.injEq]
  intro l0 hl hs hL R hR
  repeat' first | assumption | exact DShs.tail (Aa (by assumption) (by assumption)) | exact shp32 (by assumption) | exact shp64 (by assumption) | exact shp2 (by assumption) | exact shpF (by assumption) | with_reducible intro _ | with_reducible apply And.intro
  all_goals (try (have e:=Ae ‹_=w64 (_+1)› (by omega) (by omega);subst e))
  all_goals (try (have hq:=limLo.at hL (by assumption)))
  all_goals (try (obtain ⟨q1,q2,q3,q4⟩:=hq))
  all_goals first
    | assumption
    | omega
    | exact DShs.tail (DShs.tail (DShs.tail (Aa (by assumption) (by assumption))))
    | exact shpLo (by assumption)
    | exact hq
    | (simp only [List.length_nil,Nat.zero_add];exact hq)
    | exact LS.shp (by assumption)
    | exact LS.rect (by assumption)
    | (refine hR _ ?_;subst_vars;rw [List.take_of_length_le (by omega)];done)
    | rfl
    | (subst_vars;rw [Ao (by omega) (by assumption)];simp;done)
    | (rw [Ao (by omega) (by assumption)];grind)
    | (have hl1:=hL.1;subst_vars;simp only [List.length_take,List.length_append,List.length_cons,List.length_nil,Nat.zero_add] at *;omega)
    | skip
theorem Zg:Con TP k0 50 Px:=Ad [(141,Fm)] [(50000,0,some ⟨[0],[4],[],[kn],[⟨3,151,15,true, .tmp⟩],fun ρ ds=>0≤ni ds 0∧ni ds 0≤(ρ.d 0).length∧li ds 1=(ρ.d 0).take (ni ds 0).toNat,fun ρ ds=>(ρ.d 0).length-(ni ds 0).toNat,none⟩)] [] [(141,Fu)] 3000 ⟨Fx,trivial⟩ ⟨fnq rfl rfl,trivial⟩ Go.Proofs.Tryz.func50 rfl rfl rfl rfl Jc (by kernel_rfl) Ts
end Go.Vc

namespace Go.Vc
open Classical
def Ns (aa:List DV):List DV:=[vl (li aa 0)]
def Nb:ConT:=⟨[kl],[kl],fun aa=>LSh entryS (li aa 0)∧limEn (li aa 0),fun aa rs=>rs=Ns aa⟩
def Ha:Prop:=∀ (l0:LL),Ob (LSh entryS l0∧limEn l0)→∀ (R:List DV→Prop),Ob (∀ (res:List DV),res=[vl l0]→R res)→Ob ((0:Int)≤(0:Int)∧(0:Int)≤(l0.length:Int)∧[]=List.take (Int.toNat (0:Int)) l0)∧∀ (g2:NV) (x3:Int) (l4:LL),Ob (0≤x3∧x3≤l0.length∧l4=List.take (x3.toNat) l0)→∀ x5:Int,x5=l0.length→(x3<x5→Ob (0≤x3∧x3<l0.length)∧Ob (Shp kE l0)∧∀ x6 x7 b8 l9 x10 b11 l12 x13 b14 l15 x16 b17 l18 x19,let N1:=[db b8,D.fs l9,dn x10,db b11,D.fs l12,dn x13,db b14,D.fs l15,dn x16,db b17,D.fs l18,dn x19];Ob (l0[x3.toNat]?=some [dn x6,d8 x7,db b8,D.fs l9,dn x10,db b11,D.fs l12,dn x13,db b14,D.fs l15,dn x16,db b17,D.fs l18,dn x19])→Ob (DShs massS N1∧l9.length≤1048576∧l12.length≤1048576∧l15.length≤1048576∧l18.length≤1048576)∧∀ b20 l21 x22 b23 l24 x25 b26 l27 x28 b29 l30 x31,let N0:=[[dn x6,d8 x7,db b20,D.fs l21,dn x22,db b23,D.fs l24,dn x25,db b26,D.fs l27,dn x28,db b29,D.fs l30,dn x31]];Ob ([DV.a [db b20,D.fs l21,dn x22,db b23,D.fs l24,dn x25,db b26,D.fs l27,dn x28,db b29,D.fs l30,dn x31]]=[DV.a N1])→Ob (l4.length+List.length N0≤(1048576:Nat))∧∀ (l32:LL),l32=l4++N0→∀ x33:Int,x33=w64 (x3+1)→Ob (0≤x33∧x33≤l0.length∧l32=List.take (x33.toNat) l0)∧Ob (l0.length-x33.toNat<l0.length-x3.toNat))∧(¬x3<x5→Ob (R [vl l4]))
theorem Ph:Ha:=by
  delta Ha
  simp only [Ac,and_imp,forall_exists_index,true_and,and_true,List.cons.injEq,DV.c.injEq,DV.a.injEq,D.raw.injEq,D.fs.injEq,Value.bool.injEq,Value.int.injEq]
  intro l0 hl hs hL R hR
  repeat' first | assumption | exact DShs.tail (Aa (by assumption) (by assumption)) | exact shp32 (by assumption) | exact shp64 (by assumption) | exact shp2 (by assumption) | exact shpF (by assumption) | with_reducible intro _ | with_reducible apply And.intro
  all_goals (try (have e:=Ae ‹_=w64 (_+1)› (by omega) (by omega);subst e))
  all_goals (try (have hq:=limEn.at hL (by assumption)))
  all_goals (try (obtain ⟨q1,q2,q3,q4⟩:=hq))
  all_goals first
    | assumption
    | omega
    | exact DShs.tail (DShs.tail (Aa (by assumption) (by assumption)))
    | exact shpEn (by assumption)
    | exact hq
    | (simp only [List.length_nil,Nat.zero_add];exact hq)
    | exact LS.shp (by assumption)
    | exact LS.rect (by assumption)
    | (refine hR _ ?_;subst_vars;rw [List.take_of_length_le (by omega)];done)
    | rfl
    | (subst_vars;rw [Ao (by omega) (by assumption)];simp;done)
    | (rw [Ao (by omega) (by assumption)];grind)
    | (have hl1:=hL.1;subst_vars;simp only [List.length_take,List.length_append,List.length_cons,List.length_nil,Nat.zero_add] at *;omega)
    | skip
theorem Un:Con TP k0 51 Nb:=Ad [(141,Fm)] [(51000,0,some ⟨[0],[4],[],[kn],[⟨3,156,14,true, .tmp⟩],fun ρ ds=>0≤ni ds 0∧ni ds 0≤(ρ.d 0).length∧li ds 1=(ρ.d 0).take (ni ds 0).toNat,fun ρ ds=>(ρ.d 0).length-(ni ds 0).toNat,none⟩)] [] [(141,Fu)] 3000 ⟨Fx,trivial⟩ ⟨fnq rfl rfl,trivial⟩ Go.Proofs.Tryz.func51 rfl rfl rfl rfl Ha (by kernel_rfl) Ph
end Go.Vc

namespace Go.Vc
open Classical
def Ko (aa:List DV):List DV:=[.a (ai aa 0)]
def Jr:ConT:=⟨[rkS worldS],[rkS worldS],fun aa=>DShs worldS (ai aa 0)∧wLimF (ai aa 0),fun aa rs=>rs=Ko aa⟩
def Gc:Prop:=∀ x0 x1 x2 x3 l4 l5 l6 l7 l8 x9,let N2:=[dn x0,dn x1,dn x2,dn x3,D.fs l4,D.fs l5,D.fs l6,D.fs l7,D.fs l8,dn x9];Ob (DShs worldS N2∧wLimF N2)→∀ (R:List DV→Prop),Ob (∀ (res:List DV),res=[DV.a N2]→R res)→Ob ((0:Int)≤(0:Int)∧(0:Int)≤(l4.length:Int)∧[]=List.take (Int.toNat (0:Int)) l4)∧∀ (g11:NV) (x12:Int) (l13:LL),Ob (0≤x12∧x12≤l4.length∧l13=List.take (x12.toNat) l4)→∀ x14:Int,x14=l4.length→(x12<x14→Ob (0≤x12∧x12<l4.length)∧Ob (Shp kN l4)∧∀ x15 x16 b17 x18 x19 x20 x21 x22 b23 l24 x25 b26 l27 x28 b29 l30 x31 b32 l33 x34 b35 x36 x37 l38 b39 x40 x41 l42 x43 x44 l45 l46 l47,let N0:=[dn x15,dn x16,db b17,dn x18,dn x19,dn x20,dn x21,dn x22,db b23,D.fs l24,dn x25,db b26,D.fs l27,dn x28,db b29,D.fs l30,dn x31,db b32,D.fs l33,dn x34,db b35,dn x36,dn x37,D.fs l38,db b39,dn x40,dn x41,D.fs l42,dn x43,dn x44,D.fs l45,D.fs l46,D.fs l47];Ob (l4[x12.toNat]?=some N0)→Ob (DShs nodeS N0∧limN N0)∧∀ x48 x49 b50 x51 x52 x53 x54 x55 b56 l57 x58 b59 l60 x61 b62 l63 x64 b65 l66 x67 b68 x69 x70 l71 b72 x73 x74 l75 x76 x77 l78 l79 l80,let N1:=[dn x48,dn x49,db b50,dn x51,dn x52,dn x53,dn x54,dn x55,db b56,D.fs l57,dn x58,db b59,D.fs l60,dn x61,db b62,D.fs l63,dn x64,db b65,D.fs l66,dn x67,db b68,dn x69,dn x70,D.fs l71,db b72,dn x73,dn x74,D.fs l75,dn x76,dn x77,D.fs l78,D.fs l79,D.fs l80];Ob ([DV.a N1]=[DV.a N0])→Ob (l13.length+List.length [N1]≤(1048576:Nat))∧∀ (l81:LL),l81=l13++[N1]→∀ x82:Int,x82=w64 (x12+1)→Ob (0≤x82∧x82≤l4.length∧l81=List.take (x82.toNat) l4)∧Ob (l4.length-x82.toNat<l4.length-x12.toNat))∧(¬x12<x14→Ob (LSh copyS l5∧limCo l5)∧∀ l83,Ob ([vl l83]=[vl l5])→Ob (LSh loadS l6∧limLo l6)∧∀ l84,Ob ([vl l84]=[vl l6])→Ob (LSh entryS l7∧limEn l7)∧∀ l85,Ob ([vl l85]=[vl l7])→Ob (Shp kS l8∧List.length ([]:LL)+l8.length≤1048576)∧∀ (l86:LL),l86=[]++l8→Ob (R [DV.a [dn x0,dn x1,dn x2,dn x3,D.fs l13,D.fs l83,D.fs l84,D.fs l85,D.fs l86,dn x9]]))
theorem Og:Gc:=by
  delta Gc
  simp only [Ac,and_imp,forall_exists_index,true_and,and_true,List.cons.injEq,DV.c.injEq,DV.a.injEq,D.raw.injEq,D.fs.injEq,Value.bool.injEq,Value.int.injEq]
  intro x0 x1 x2 x3 l4 l5 l6 l7 l8 x9 hs hL R hR
  obtain ⟨⟨hL1,hL2⟩,hL5,hL6,hL7,hL8⟩:=hL
  simp only [Ab,Af,Ai,Ak,rng64,true_and,and_true] at hs
  obtain ⟨k0,k1,k2,k3,⟨k4,k5⟩,⟨k6,k7⟩,⟨k8,k9⟩,⟨k10,k11⟩,⟨k12,k13⟩,k14⟩:=hs
  repeat' first | assumption | exact DShs.tail (Aa (by assumption) (by assumption)) | exact shp32 (by assumption) | exact shp64 (by assumption) | exact shp2 (by assumption) | exact shpF (by assumption) | with_reducible intro _ | with_reducible apply And.intro
  all_goals (try (have e:=Ae ‹_=w64 (_+1)› (by omega) (by omega);subst e))
  all_goals first
    | assumption
    | omega
    | exact shpN (by assumption)
    | exact shpS (by assumption)
    | exact LS.rect (by assumption)
    | exact Aa (by assumption) (by assumption)
    | exact hL2 _ (List.mem_of_getElem? (by assumption))
    | rfl
    | (refine hR _ ?_;subst_vars;rw [List.take_of_length_le (by omega)];simp;done)
    | (rw [Ao (by omega) (by assumption)];grind)
    | (simp only [List.length_nil,Nat.zero_add];assumption)
    | (have hl1:l4.length≤1048576:=hL1;subst_vars;simp only [List.length_take,List.length_append,List.length_cons,List.length_nil,Nat.zero_add] at *;omega)
    | skip
theorem Sg:Con TP k0 11 Jr:=Ad [(31,Pv),(49,Pz),(50,Px),(51,Nb)] [(11000,0,some ⟨[1,2],[4],[],[kn],[⟨3,71,33,false, .tmp⟩],fun ρ ds=>0≤ni ds 0∧ni ds 0≤(ρ.d 4).length∧li ds 1=(ρ.d 4).take (ni ds 0).toNat,fun ρ ds=>(ρ.d 4).length-(ni ds 0).toNat,none⟩)] [] [(31,Rm),(49,Rq),(50,Ro),(51,Ns)] 3000 ⟨Ze,Zi,Zg,Un,trivial⟩ ⟨fnq rfl rfl,fnq rfl rfl,fnq rfl rfl,fnq rfl rfl,trivial⟩ Go.Proofs.Tryz.func11 rfl rfl rfl rfl Gc (by kernel_rfl) Og
end Go.Vc

namespace Go.Vc
open Classical
def Gq (aa:List DV):List DV:=[vn (Bg (li aa 0))]
def Gk:ConT:=⟨[kl],[kn],fun aa=>LSh copyS (li aa 0),fun aa rs=>rs=Gq aa⟩
def Hf:Prop:=∀ (l0:LL),Ob (LSh copyS l0)→∀ (R:List DV→Prop),Ob (∀ (res:List DV),res=[vn (Bg l0)]→R res)→∀ x2:Int,x2=l0.length→(x2>16→Ob (R [vn 4]))∧(¬x2>16→∀ x3:Int,x3=l0.length→Ob ((0:Int)≤(0:Int)∧upto (Di l0) (0:Int))∧∀ (g4:NV) (x5:Int),let N1:=(x5≥0→Ob (R [vn 8]));let N0:=(¬x5≥0→Ob (R [vn 0]));Ob (0≤x5∧upto (Di l0) x5)→(x5<x3→Ob (0≤x5∧x5<l0.length)∧Ob (Shp kC l0)∧∀ x6 x7 l8 b9,Ob (l0[x5.toNat]?=some [dn x6,dn x7,D.fs l8,db b9])→(x6≥0→(x6≤1048575→(x7≥0→(x7<8→∀ x10:Int,x10=l8.length→(x10>0→∀ x11:Int,x11=l8.length→(x11≤4105→∀ x12:Int,x12=w64 (x5+1)→Ob (0≤x12∧upto (Di l0) x12)∧Ob (l0.length-x12.toNat<l0.length-x5.toNat))∧(¬x11≤4105→N1∧N0))∧(¬x10>0→N1∧N0))∧(¬x7<8→N1∧N0))∧(¬x7≥0→N1∧N0))∧(¬x6≤1048575→N1∧N0))∧(¬x6≥0→N1∧N0))∧(¬x5<x3→Ob (R [vn 0])))
theorem Pn:Hf:=by
  delta Hf
  simp only [Ac,and_imp,true_and,and_true,List.cons.injEq,DV.c.injEq,DV.a.injEq,D.raw.injEq,D.fs.injEq,Value.bool.injEq,Value.int.injEq]
  repeat' first | assumption | exact DShs.tail (Aa (by assumption) (by assumption)) | exact shp32 (by assumption) | exact shp64 (by assumption) | exact shp2 (by assumption) | exact shpF (by assumption) | with_reducible intro _ | with_reducible apply And.intro
  all_goals (try (have e:=Ae ‹_=w64 (_+1)› (by omega) (by omega);subst e))
  all_goals first
    | assumption
    | (exact fun i hi=>by omega)
    | rfl
    | omega
    | exact shpCo (by assumption)
    | (rw [Ag (by omega)];exact ⟨by assumption,(Gb (by assumption)).2 ⟨by omega,by omega,by omega,by omega,by omega,by omega⟩⟩)
    | (apply ‹∀ res:List DV,_=_→_›;simp only [Bg];rw [if_pos (by omega)])
    | (apply ‹∀ res:List DV,_=_→_›;rw [Acl (by omega) (fun hh=>by have:=(Gb (by assumption)).1 hh;omega) (by assumption) (by omega)])
    | (apply ‹∀ res:List DV,_=_→_›;rw [Ack (by omega) (by assumption) (by omega)])
    | skip
theorem Ii:Con TP k0 77 Gk:=Ad [] [(77000543009111032,0,some ⟨[0,1,7],[8],[],[kn],[],fun ρ ds=>0≤ni ds 0∧upto (Di (ρ.d 0)) (ni ds 0),fun ρ ds=>(ρ.d 0).length-(ni ds 0).toNat,none⟩)] [] [] 3000 trivial trivial Go.Proofs.Tryz.func77 rfl rfl rfl rfl Hf (by kernel_rfl) Pn
end Go.Vc

namespace Go.Vc
open Classical
def Rw (aa:List DV):List DV:=[vn (if Gn (li aa 0) then 0 else 8)]
def Qe:ConT:=⟨[kl],[kn],fun aa=>LSh [s32] (li aa 0),fun aa rs=>rs=Rw aa⟩
def Jl:Prop:=∀ (l0:LL),Ob (LSh [s32] l0)→∀ (R:List DV→Prop),Ob (∀ (res:List DV),res=[vn (if Gn l0 then (0:Int) else (8:Int))]→R res)→∀ x2:Int,x2=l0.length→(x2>40→Ob (R [vn 8]))∧(¬x2>40→∀ x3:Int,x3=l0.length→(x3>0→∀ x4:Int,x4=l0.length→∀ x5:Int,x5=w64 (x4-1)→Ob (0≤x5∧x5<l0.length)∧Ob (Shp kU l0)∧∀ x6,Ob (l0[x5.toNat]?=some [d32 x6])→(x6=0→Ob (R [vn 8]))∧(¬x6=0→Ob (R [vn 0])))∧(¬x3>0→Ob (R [vn 0])))
theorem Ub:Jl:=by
  delta Jl
  simp only [Ac,and_imp,List.cons_append,List.nil_append,Ab,Af,Ai,Ah,Ak,rng64,rng32,true_and,and_true,List.cons.injEq,DV.c.injEq,DV.a.injEq,D.raw.injEq,D.fs.injEq,Value.bool.injEq,Value.int.injEq]
  repeat' first | assumption | exact DShs.tail (Aa (by assumption) (by assumption)) | exact shp32 (by assumption) | exact shp64 (by assumption) | exact shp2 (by assumption) | exact shpF (by assumption) | with_reducible intro _ | with_reducible apply And.intro
  all_goals (try (have e:=En ‹_=w64 (_-1)› (by omega) (by omega);subst e))
  all_goals first
    | assumption
    | omega
    | (have z:=Yr (by assumption) (by omega) (by assumption);apply ‹∀ res:List DV,_=_→_›;simp [Gn];grind)
    | (apply ‹∀ res:List DV,_=_→_›;simp [Gn];grind)
theorem Zn:Con TP k0 276 Qe:=Ad [] [] [] [] 3000 trivial trivial Go.Proofs.Tryz.func276 rfl rfl rfl rfl Jl (by kernel_rfl) Ub
end Go.Vc

namespace Go.Vc
open Classical
def Acg (aa:List DV):List DV:=[vn (if Aam (ai aa 0) then 0 else 8)]
def Aa7:ConT:=⟨[rkS dyS],[kn],fun aa=>DShs dyS (ai aa 0),fun aa rs=>rs=Acg aa⟩
def Ti:Prop:=∀ (b0:Bool) (l1:LL) (x2:Int),let N0:=[vn (if Gn l1 then (0:Int) else (8:Int))];Ob (DShs dyS [db b0,D.fs l1,dn x2])→∀ (R:List DV→Prop),let N2:=(x2<0→Ob (R [vn 8]));let N1:=(x2>1024→Ob (R [vn 8]));Ob (∀ (res:List DV),res=[vn (if Aam [db b0,D.fs l1,dn x2] then (0:Int) else (8:Int))]→R res)→∀ x4:Int,x4=l1.length→(x4=0→Ob (LSh [s32] l1)∧∀ x5,Ob ([vn x5]=N0)→(x5≠0→Ob (R [vn 8]))∧(¬x5≠0→N2∧(¬x2<0→N1∧(¬x2>1024→(x2≠0→Ob (R [vn 8]))∧(¬x2≠0→(b0=true→Ob (R [vn 8]))∧(b0=false→Ob (R [vn 0])))))))∧(¬x4=0→Ob (LSh [s32] l1)∧∀ x6,Ob ([vn x6]=N0)→(x6≠0→Ob (R [vn 8]))∧(¬x6≠0→N2∧(¬x2<0→N1∧(¬x2>1024→(x2>0→Ob ((0:Int)≤(0:Int)∧(0:Int)<(l1.length:Int))∧Ob (Shp kU l1)∧∀ x7,Ob (l1[Int.toNat (0:Int)]?=some [d32 x7])→Ob ((2:Int)≠(0:Int))∧∀ x8:Int,x8=Int.tmod x7 (2:Int)→(x8=0→Ob (R [vn 8]))∧(¬x8=0→Ob (R [vn 0])))∧(¬x2>0→Ob (R [vn 0]))))))
theorem Aau:Ti:=by
  delta Ti
  simp only [Ac,and_imp,List.cons_append,List.nil_append,Ab,Af,Ai,Ah,Ak,rng64,rng32,true_and,and_true,List.cons.injEq,DV.c.injEq,DV.a.injEq,D.raw.injEq,D.fs.injEq,Value.bool.injEq,Value.int.injEq]
  repeat' first | assumption | exact DShs.tail (Aa (by assumption) (by assumption)) | exact shp32 (by assumption) | exact shp64 (by assumption) | exact shp2 (by assumption) | exact shpF (by assumption) | with_reducible intro _ | with_reducible apply And.intro
  all_goals (try (have z:=Axh (by assumption);skip))
  all_goals first
    | assumption
    | omega
    | (apply ‹∀ res:List DV,_=_→_›;simp [Aam,gB,gI,gL,-List.length_eq_zero_iff];grind)
theorem Aev:Con TP k0 236 Aa7:=Ad [(276,Qe)] [] [] [(276,Rw)] 3000 ⟨Zn,trivial⟩ ⟨fnq rfl rfl,trivial⟩ Go.Proofs.Tryz.func236 rfl rfl rfl rfl Ti (by kernel_rfl) Aau
end Go.Vc

namespace Go.Vc
open Classical
def Fv (aa:List DV):List DV:=[vn (if Bl (ai aa 0) then 0 else 8)]
def Fp:ConT:=⟨[rkS massS],[kn],fun aa=>DShs massS (ai aa 0),fun aa rs=>rs=Fv aa⟩
def Jk:Prop:=∀ b0 l1 x2 b3 l4 x5 b6 l7 x8 b9 l10 x11,let N1:=[db b9,D.fs l10,dn x11];let N0:=[db b0,D.fs l1,dn x2,db b3,D.fs l4,dn x5,db b6,D.fs l7,dn x8,db b9,D.fs l10,dn x11];Ob (DShs massS N0)→∀ (R:List DV→Prop),Ob (∀ (res:List DV),res=[vn (if Bl N0 then (0:Int) else (8:Int))]→R res)→Ob (DShs dyS [db b0,D.fs l1,dn x2])∧∀ x13,Ob ([vn x13]=[vn (if Aam [db b0,D.fs l1,dn x2] then (0:Int) else (8:Int))])→(x13≠0→Ob (R [vn x13]))∧(¬x13≠0→Ob (DShs dyS [db b3,D.fs l4,dn x5])∧∀ x14,Ob ([vn x14]=[vn (if Aam [db b3,D.fs l4,dn x5] then (0:Int) else (8:Int))])→(x14≠0→Ob (R [vn x14]))∧(¬x14≠0→Ob (DShs dyS [db b6,D.fs l7,dn x8])∧∀ x15,Ob ([vn x15]=[vn (if Aam [db b6,D.fs l7,dn x8] then (0:Int) else (8:Int))])→(x15≠0→Ob (R [vn x15]))∧(¬x15≠0→Ob (DShs dyS N1)∧∀ x16,Ob ([vn x16]=[vn (if Aam N1 then (0:Int) else (8:Int))])→(x16≠0→Ob (R [vn x16]))∧(¬x16≠0→Ob (R [vn 0])))))
theorem Ua:Jk:=by
  delta Jk
  simp only [Ac,and_imp,List.cons_append,List.nil_append,Ab,Af,Ai,Ah,Ak,rng64,rng32,true_and,and_true,List.cons.injEq,DV.c.injEq,DV.a.injEq,D.raw.injEq,D.fs.injEq,Value.bool.injEq,Value.int.injEq]
  repeat' first | assumption | exact DShs.tail (Aa (by assumption) (by assumption)) | exact shp32 (by assumption) | exact shp64 (by assumption) | exact shp2 (by assumption) | exact shpF (by assumption) | with_reducible intro _ | with_reducible apply And.intro
  all_goals first
    | assumption
    | omega
    | (apply ‹∀ res:List DV,_=_→_›;simp_all [Bl,sub3];try grind)
theorem Fy:Con TP k0 171 Fp:=Ad [(236,Aa7)] [] [] [(236,Acg)] 3000 ⟨Aev,trivial⟩ ⟨fnq rfl rfl,trivial⟩ Go.Proofs.Tryz.func171 rfl rfl rfl rfl Jk (by kernel_rfl) Ua
end Go.Vc

namespace Go.Vc
open Classical
def Ku (aa:List DV):List DV:=[vn (Dq (li aa 0))]
def Jw:ConT:=⟨[kl],[kn],fun aa=>LSh loadS (li aa 0),fun aa rs=>rs=Ku aa⟩
def Gh:Prop:=∀ (l0:LL),Ob (LSh loadS l0)→∀ (R:List DV→Prop),Ob (∀ (res:List DV),res=[vn (Dq l0)]→R res)→∀ x2:Int,x2=l0.length→(x2>16→Ob (R [vn 4]))∧(¬x2>16→∀ x3:Int,x3=l0.length→Ob ((0:Int)≤(0:Int)∧(-1:Int)=prv l0 (Int.toNat (0:Int))∧upto (Ca l0) (0:Int))∧∀ (g4:NV) (x5 x6:Int),Ob (0≤x5∧x6=prv l0 (x5.toNat)∧upto (Ca l0) x5)→(x5<x3→Ob (0≤x5∧x5<l0.length)∧Ob (Shp kL l0)∧∀ x7 x8 x9 b10 l11 x12 b13 l14 x15 b16 l17 x18 b19 l20 x21,let N0:=[db b10,D.fs l11,dn x12,db b13,D.fs l14,dn x15,db b16,D.fs l17,dn x18,db b19,D.fs l20,dn x21];Ob (l0[x5.toNat]?=some [dn x7,dn x8,dn x9,db b10,D.fs l11,dn x12,db b13,D.fs l14,dn x15,db b16,D.fs l17,dn x18,db b19,D.fs l20,dn x21])→(x7≤x6→Ob (R [vn 8]))∧(¬x7≤x6→(x7>1048575→Ob (R [vn 8]))∧(¬x7>1048575→(x8<0→Ob (R [vn 8]))∧(¬x8<0→(x8>65535→Ob (R [vn 8]))∧(¬x8>65535→(x9<1→Ob (R [vn 8]))∧(¬x9<1→(x9>16→Ob (R [vn 8]))∧(¬x9>16→Ob (DShs massS N0)∧∀ x22,Ob ([vn x22]=[vn (if Bl N0 then (0:Int) else (8:Int))])→(x22≠0→Ob (R [vn 8]))∧(¬x22≠0→∀ x23:Int,x23=w64 (x5+1)→Ob (0≤x23∧x7=prv l0 (x23.toNat)∧upto (Ca l0) x23)∧Ob (l0.length-x23.toNat<l0.length-x5.toNat)))))))))∧(¬x5<x3→Ob (R [vn 0])))
theorem Ol:Gh:=by
  delta Gh
  simp only [Ac,and_imp,true_and,and_true,List.cons.injEq,DV.c.injEq,DV.a.injEq,D.raw.injEq,D.fs.injEq,Value.bool.injEq,Value.int.injEq]
  repeat' first | assumption | exact DShs.tail (Aa (by assumption) (by assumption)) | exact shp32 (by assumption) | exact shp64 (by assumption) | exact shp2 (by assumption) | exact shpF (by assumption) | with_reducible intro _ | with_reducible apply And.intro
  all_goals (try (have e:=Ae ‹_=w64 (_+1)› (by omega) (by omega);subst e))
  all_goals first
    | assumption
    | (exact fun i hi=>by omega)
    | rfl
    | omega
    | exact Ye (by assumption) (by omega)
    | exact shpLo (by assumption)
    | exact DShs.tail (DShs.tail (DShs.tail (Aa (by assumption) (by assumption))))
    | (rw [Ag (by omega)];exact ⟨by assumption,Ae0 (by assumption) (by assumption) (by assumption) (by omega) (by omega) (by omega) (by omega) (by omega) (by omega) (by assumption)⟩)
    | (apply ‹∀ res:List DV,_=_→_›;simp only [Dq];rw [if_pos (by omega)])
    | (apply ‹∀ res:List DV,_=_→_›;rw [Gr (by omega) (Iu (by assumption) (by assumption) (by omega)) (by omega) (by assumption) (by assumption)])
    | (apply ‹∀ res:List DV,_=_→_›;rw [Gr (by omega) (Ake (by assumption) (by assumption) (by assumption)) (by omega) (by assumption) (by assumption)])
    | (apply ‹∀ res:List DV,_=_→_›;rw [Acj (by omega) (by assumption) (by assumption) (by assumption)])
    | skip
theorem So:Con TP k0 78 Jw:=Ad [(171,Fp)] [(78000,0,some ⟨[9,10],[11,3],[],[kn,kn],[],fun ρ ds=>0≤ni ds 0∧ni ds 1=prv (ρ.d 0) (ni ds 0).toNat∧upto (Ca (ρ.d 0)) (ni ds 0),fun ρ ds=>(ρ.d 0).length-(ni ds 0).toNat,none⟩)] [] [(171,Fv)] 3000 ⟨Fy,trivial⟩ ⟨fnq rfl rfl,trivial⟩ Go.Proofs.Tryz.func78 rfl rfl rfl rfl Gh (by kernel_rfl) Ol
end Go.Vc

namespace Go.Vc
open Classical
def Wi (aa:List DV):List DV:=[vb (decide (1≤ni aa 0∧ni aa 0≤6))]
def Vg:ConT:=⟨[⟨[.int .u8],false,false⟩],[kb],fun aa=>True,fun aa rs=>rs=Wi aa⟩
def Ms:Prop:=let N1:=(IntKind.wrap IntKind.i64 ((0:Int)+(1:Int))+(1:Int));let N0:=(IntKind.wrap IntKind.i64 N1+(1:Int));let N2:=(IntKind.wrap IntKind.i64 N0+(1:Int));∀ (x0:Int),Ob True→∀ (R:List DV→Prop),Ob (∀ (res:List DV),res=[vb (decide (1≤x0∧x0≤6))]→R res)→(x0=1→Ob (R [vb (decide ((0:Int)≥(0:Int)))]))∧(¬x0=1→(x0=2→Ob (R [vb (decide (w64 ((0:Int)+(1:Int))≥(0:Int)))]))∧(¬x0=2→(x0=3→Ob (R [vb (decide (w64 N1≥(0:Int)))]))∧(¬x0=3→(x0=4→Ob (R [vb (decide (w64 N0≥(0:Int)))]))∧(¬x0=4→(x0=5→Ob (R [vb (decide (w64 N2≥(0:Int)))]))∧(¬x0=5→(x0=6→Ob (R [vb (decide (w64 (IntKind.wrap IntKind.i64 N2+(1:Int))≥(0:Int)))]))∧(¬x0=6→Ob (R [vb (decide ((-1:Int)≥(0:Int)))])))))))
theorem Xj:Ms:=by
  delta Ms
  simp only [Ac,and_imp,true_and,and_true,List.cons.injEq,DV.c.injEq,DV.a.injEq,D.raw.injEq,D.fs.injEq,Value.bool.injEq,Value.int.injEq]
  repeat' first | assumption | exact DShs.tail (Aa (by assumption) (by assumption)) | exact shp32 (by assumption) | exact shp64 (by assumption) | exact shp2 (by assumption) | exact shpF (by assumption) | with_reducible intro _ | with_reducible apply And.intro
  all_goals first
    | assumption
    | omega
    | (apply ‹∀ res:List DV,_=_→_›;exact congrArg (fun z=>[vb z]) (decide_eq_true (show _∧_ by omega)).symm)
    | (apply ‹∀ res:List DV,_=_→_›;exact congrArg (fun z=>[vb z]) (decide_eq_false (show ¬(_∧_) by omega)).symm)
theorem Acy:Con TP k0 173 Vg:=Ad [] [(173001276010548032,0,none)] [] [] 3000 trivial trivial Go.Proofs.Tryz.func173 rfl rfl rfl rfl Ms (by kernel_rfl) Xj
end Go.Vc

namespace Go.Vc
open Classical
def Ks (aa:List DV):List DV:=[vn (Ci (li aa 0))]
def Jv:ConT:=⟨[kl],[kn],fun aa=>LSh entryS (li aa 0),fun aa rs=>rs=Ks aa⟩
def Gg:Prop:=∀ (l0:LL),Ob (LSh entryS l0)→∀ (R:List DV→Prop),Ob (∀ (res:List DV),res=[vn (Ci l0)]→R res)→∀ x2:Int,x2=l0.length→(x2>8192→Ob (R [vn 4]))∧(¬x2>8192→∀ x3:Int,x3=l0.length→Ob ((0:Int)≤(0:Int)∧upto (Bj l0) (0:Int))∧∀ (g4:NV) (x5:Int),Ob (0≤x5∧upto (Bj l0) x5)→(x5<x3→Ob (0≤x5∧x5<l0.length)∧Ob (Shp kE l0)∧∀ x6 x7 b8 l9 x10 b11 l12 x13 b14 l15 x16 b17 l18 x19,let N0:=[db b8,D.fs l9,dn x10,db b11,D.fs l12,dn x13,db b14,D.fs l15,dn x16,db b17,D.fs l18,dn x19];Ob (l0[x5.toNat]?=some [dn x6,d8 x7,db b8,D.fs l9,dn x10,db b11,D.fs l12,dn x13,db b14,D.fs l15,dn x16,db b17,D.fs l18,dn x19])→(x6≥0→(x6≤65535→Ob True∧∀ b20,Ob ([vb b20]=[vb (decide (1≤x7∧x7≤6))])→(b20=false→Ob (R [vn 8]))∧(¬b20=false→Ob (DShs massS N0)∧∀ x21,Ob ([vn x21]=[vn (if Bl N0 then (0:Int) else (8:Int))])→(x21≠0→Ob (R [vn 8]))∧(¬x21≠0→∀ x22:Int,x22=w64 (x5+1)→Ob (0≤x22∧upto (Bj l0) x22)∧Ob (l0.length-x22.toNat<l0.length-x5.toNat))))∧(¬x6≤65535→Ob (R [vn 8])))∧(¬x6≥0→Ob (R [vn 8])))∧(¬x5<x3→Ob (R [vn 0])))
theorem Ok:Gg:=by
  delta Gg
  simp only [Ac,and_imp,true_and,and_true,List.cons.injEq,DV.c.injEq,DV.a.injEq,D.raw.injEq,D.fs.injEq,Value.bool.injEq,Value.int.injEq]
  repeat' first | assumption | exact DShs.tail (Aa (by assumption) (by assumption)) | exact shp32 (by assumption) | exact shp64 (by assumption) | exact shp2 (by assumption) | exact shpF (by assumption) | with_reducible intro _ | with_reducible apply And.intro
  all_goals (try (have e:=Ae ‹_=w64 (_+1)› (by omega) (by omega);subst e))
  all_goals first
    | assumption
    | (exact fun i hi=>by omega)
    | omega
    | exact shpEn (by assumption)
    | exact DShs.tail (DShs.tail (Aa (by assumption) (by assumption)))
    | (rw [Ag (by omega)];exact ⟨by assumption,Ae1 (by assumption) (by assumption) (by assumption) (by assumption) (by assumption) (by omega)⟩)
    | (apply ‹∀ res:List DV,_=_→_›;simp only [Ci];rw [if_pos (by omega)])
    | (apply ‹∀ res:List DV,_=_→_›;rw [Fh (by omega) (Sw (by assumption) (by omega)) (by assumption) (by omega)])
    | (apply ‹∀ res:List DV,_=_→_›;rw [Fh (by omega) (Ae4 (by assumption) (by assumption) (by assumption)) (by assumption) (by omega)])
    | (apply ‹∀ res:List DV,_=_→_›;rw [Fh (by omega) (Ae3 (by assumption) (by assumption) (by assumption)) (by assumption) (by omega)])
    | (apply ‹∀ res:List DV,_=_→_›;rw [Wk (by omega) (by assumption) (by omega)])
    | skip
theorem Sn:Con TP k0 79 Jv:=Ad [(171,Fp),(173,Vg)] [(79000,0,some ⟨[8,9],[10],[],[kn],[],fun ρ ds=>0≤ni ds 0∧upto (Bj (ρ.d 0)) (ni ds 0),fun ρ ds=>(ρ.d 0).length-(ni ds 0).toNat,none⟩)] [] [(171,Fv),(173,Wi)] 3000 ⟨Fy,Acy,trivial⟩ ⟨fnq rfl rfl,fnq rfl rfl,trivial⟩ Go.Proofs.Tryz.func79 rfl rfl rfl rfl Gg (by kernel_rfl) Ok
end Go.Vc

namespace Go.Vc
open Classical
def As4 (aa:List DV):List DV:=[vb (decide (li aa 0=li aa 1))]
def Asj:ConT:=⟨[kl,kl],[kb],fun aa=>LSh pairS (li aa 0)∧LSh pairS (li aa 1),fun aa rs=>rs=As4 aa⟩
def Apk:Prop:=∀ (l0 l1:LL),Ob (LSh pairS l0∧LSh pairS l1)→∀ (R:List DV→Prop),Ob (∀ (res:List DV),res=[vb (decide (l0=l1))]→R res)→∀ x3:Int,x3=l0.length→∀ x4:Int,x4=l1.length→(x3≠x4→Ob (R [vb false]))∧(¬x3≠x4→∀ x5:Int,x5=l0.length→Ob ((0:Int)≤(0:Int)∧l0.length=l1.length∧(0:Int)≤(l0.length:Int)∧List.take (Int.toNat (0:Int)) l0=List.take (Int.toNat (0:Int)) l1)∧∀ (g6:NV) (x7:Int),Ob (0≤x7∧l0.length=l1.length∧x7≤l0.length∧List.take (x7.toNat) l0=List.take (x7.toNat) l1)→(x7<x5→Ob (0≤x7∧x7<l0.length)∧Ob (Shp kP l0)∧∀ x8 x9,Ob (l0[x7.toNat]?=some [dn x8,dn x9])→Ob (0≤x7∧x7<l1.length)∧Ob (Shp kP l1)∧∀ x10 x11,Ob (l1[x7.toNat]?=some [dn x10,dn x11])→(¬(x8=x10∧x9=x11)→Ob (R [vb false]))∧(¬¬(x8=x10∧x9=x11)→∀ x12:Int,x12=w64 (x7+1)→Ob (0≤x12∧l0.length=l1.length∧x12≤l0.length∧List.take (x12.toNat) l0=List.take (x12.toNat) l1)∧Ob (l0.length-x12.toNat<l0.length-x7.toNat)))∧(¬x7<x5→Ob (R [vb true])))
theorem Akp:Apk:=by
  delta Apk
  simp only [Ac,and_imp,List.cons_append,List.nil_append,Ab,Af,Ai,Ah,Ak,rng64,rng32,true_and,and_true,List.cons.injEq,DV.c.injEq,DV.a.injEq,D.raw.injEq,D.fs.injEq,Value.bool.injEq,Value.int.injEq]
  repeat' first | assumption | exact DShs.tail (Aa (by assumption) (by assumption)) | exact shp32 (by assumption) | exact shp64 (by assumption) | exact shp2 (by assumption) | exact shpF (by assumption) | with_reducible intro _ | with_reducible apply And.intro
  all_goals (try (have e:=Ae ‹_=w64 (_+1)› (by omega) (by omega);subst e))
  all_goals first
    | omega
    | (apply ‹∀ res:List DV,_=_→_›;simp;grind [El,Dc])
    | (rw [Ao (by omega) (by assumption),Ao (by omega) (by assumption)];grind)
    | grind
theorem Ar5:Con TP k0 249 Asj:=Ad [] [(249000,0,some ⟨[1,0,12],[13],[],[kn],[],fun ρ ds=>0≤ni ds 0∧(ρ.d 0).length=(ρ.d 1).length∧ni ds 0≤(ρ.d 0).length∧(ρ.d 0).take (ni ds 0).toNat=(ρ.d 1).take (ni ds 0).toNat,fun ρ ds=>(ρ.d 0).length-(ni ds 0).toNat,none⟩)] [] [] 3000 trivial trivial Go.Proofs.Tryz.func249 rfl rfl rfl rfl Apk (by kernel_rfl) Akp
end Go.Vc

namespace Go.Vc
open Classical
def Hr (aa:List DV):List DV:=[vb (decide (li aa 0=li aa 1))]
def Hj:ConT:=⟨[kl,kl],[kb],fun aa=>LSh pairS (li aa 0)∧LSh pairS (li aa 1),fun aa rs=>rs=Hr aa⟩
def Mu:Prop:=∀ (l0 l1:LL),let N0:=(LSh pairS l0∧LSh pairS l1);Ob N0→∀ (R:List DV→Prop),Ob (∀ (res:List DV),res=[vb (decide (l0=l1))]→R res)→Ob N0∧∀ b3,Ob ([vb b3]=[vb (decide (l0=l1))])→Ob (R [vb b3])
theorem Xl:Mu:=by
  delta Mu
  simp only [Ac,and_imp,List.cons_append,List.nil_append,Ab,Af,Ai,Ah,Ak,rng64,rng32,true_and,and_true,List.cons.injEq,DV.c.injEq,DV.a.injEq,D.raw.injEq,D.fs.injEq,Value.bool.injEq,Value.int.injEq]
  repeat' first | assumption | exact DShs.tail (Aa (by assumption) (by assumption)) | exact shp32 (by assumption) | exact shp64 (by assumption) | exact shp2 (by assumption) | exact shpF (by assumption) | with_reducible intro _ | with_reducible apply And.intro
  all_goals first
    | assumption
    | omega
    | (apply ‹∀ res:List DV,_=_→_›;simp_all)
    | grind
theorem Gt:Con TP k0 188 Hj:=Ad [(249,Asj)] [] [] [(249,As4)] 3000 ⟨Ar5,trivial⟩ ⟨fnq rfl rfl,trivial⟩ Go.Proofs.Tryz.func188 rfl rfl rfl rfl Mu (by kernel_rfl) Xl
end Go.Vc

namespace Go.Vc
open Classical
def Rz (aa:List DV):List DV:=[vn (Bk (li aa 0))]
def Qh:ConT:=⟨[kl],[kn],fun aa=>LSh pairS (li aa 0),fun aa rs=>rs=Rz aa⟩
def Jo:Prop:=∀ (l0:LL),Ob (LSh pairS l0)→∀ (R:List DV→Prop),Ob (∀ (res:List DV),res=[vn (Bk l0)]→R res)→∀ x2:Int,x2=l0.length→(x2>64→Ob (R [vn 4]))∧(¬x2>64→∀ x3:Int,x3=l0.length→Ob ((0:Int)≤(0:Int)∧upto (Cd l0) (0:Int))∧∀ (g4:NV) (x5:Int),let N1:=(x5≥0→Ob (R [vn 8]));let N0:=(¬x5≥0→Ob (R [vn 0]));Ob (0≤x5∧upto (Cd l0) x5)→(x5<x3→Ob (0≤x5∧x5<l0.length)∧Ob (Shp kP l0)∧∀ x6 x7,Ob (l0[x5.toNat]?=some [dn x6,dn x7])→(x6≥0→(x6<8→(x7≥0→(x7≤2147483647→∀ x8:Int,x8=w64 (x5+1)→Ob (0≤x8∧upto (Cd l0) x8)∧Ob (l0.length-x8.toNat<l0.length-x5.toNat))∧(¬x7≤2147483647→N1∧N0))∧(¬x7≥0→N1∧N0))∧(¬x6<8→N1∧N0))∧(¬x6≥0→N1∧N0))∧(¬x5<x3→Ob (R [vn 0])))
theorem Ue:Jo:=by
  delta Jo
  simp only [Ac,and_imp,List.cons_append,List.nil_append,Ab,Af,Ai,Ah,Ak,rng64,rng32,true_and,and_true,List.cons.injEq,DV.c.injEq,DV.a.injEq,D.raw.injEq,D.fs.injEq,Value.bool.injEq,Value.int.injEq]
  repeat' first | assumption | exact DShs.tail (Aa (by assumption) (by assumption)) | exact shp32 (by assumption) | exact shp64 (by assumption) | exact shp2 (by assumption) | exact shpF (by assumption) | with_reducible intro _ | with_reducible apply And.intro
  all_goals (try (have e:=Ae ‹_=w64 (_+1)› (by omega) (by omega);subst e))
  all_goals first
    | assumption
    | omega
    | (exact fun i hi=>by omega)
    | (apply ‹∀ res:List DV,_=_→_›;simp only [Bk];rw [if_pos (by omega)])
    | (apply ‹∀ res:List DV,_=_→_›;simp only [Bk];rw [if_neg (by omega),if_neg (Bc (Wq (by assumption) (by omega)) (by omega) (by omega))])
    | (apply ‹∀ res:List DV,_=_→_›;simp only [Bk];rw [if_neg (by omega),if_pos (Ba (by assumption) (by omega))])
    | (rw [Ag (by omega)];exact ⟨by assumption,Sy (by assumption) (by omega)⟩)
theorem Zq:Con TP k0 242 Qh:=Ad [] [(242001731011314032,0,some ⟨[0,1,7],[8],[],[kn],[],fun ρ ds=>0≤ni ds 0∧upto (Cd (ρ.d 0)) (ni ds 0),fun ρ ds=>(ρ.d 0).length-(ni ds 0).toNat,none⟩)] [] [] 3000 trivial trivial Go.Proofs.Tryz.func242 rfl rfl rfl rfl Jo (by kernel_rfl) Ue
end Go.Vc

namespace Go.Vc
open Classical
def Asg:ConT:=⟨[⟨[.int .u64],false,false⟩],[kn],fun aa=>0≤ni aa 0∧ni aa 0<16,fun aa rs=>∃ x,rs=[vn x]⟩
def Aph:Prop:=∀ (x0:Int),Ob (0≤x0∧x0<16)→∀ (R:List DV→Prop),let N2:=(R [vn (w64 ((0:Int)+IntKind.wrap IntKind.i64 (↑(2):Int)))]);let N1:=(R [vn (w64 ((0:Int)+IntKind.wrap IntKind.i64 (↑(3):Int)))]);let N0:=(R [vn (w64 ((0:Int)+IntKind.wrap IntKind.i64 (↑(4):Int)))]);Ob (∀ (res:List DV),(∃ x,res=[vn x])→R res)→Ob ¬x0≥4294967296∧Ob ¬x0≥65536∧Ob ¬x0≥256∧∀ x2:Int,x2=IntKind.wrap IntKind.u8 x0→Ob (0≤x2∧x2<(↑(16:Nat):Int))∧(((((((((((((((True∧(Ob (x2=Int.ofNat (0))→Ob (R [vn (w64 ((0:Int)+IntKind.wrap IntKind.i64 (↑(0):Int)))])))∧(Ob (x2=Int.ofNat (1))→Ob (R [vn (w64 ((0:Int)+IntKind.wrap IntKind.i64 (↑(1):Int)))])))∧(Ob (x2=Int.ofNat (2))→Ob N2))∧(Ob (x2=Int.ofNat (3))→Ob N2))∧(Ob (x2=Int.ofNat (4))→Ob N1))∧(Ob (x2=Int.ofNat (5))→Ob N1))∧(Ob (x2=Int.ofNat (6))→Ob N1))∧(Ob (x2=Int.ofNat (7))→Ob N1))∧(Ob (x2=Int.ofNat (8))→Ob N0))∧(Ob (x2=Int.ofNat (9))→Ob N0))∧(Ob (x2=Int.ofNat (10))→Ob N0))∧(Ob (x2=Int.ofNat (11))→Ob N0))∧(Ob (x2=Int.ofNat (12))→Ob N0))∧(Ob (x2=Int.ofNat (13))→Ob N0))∧(Ob (x2=Int.ofNat (14))→Ob N0))∧(Ob (x2=Int.ofNat (15))→Ob N0)
theorem Akm:Aph:=by
  delta Aph
  simp only [Ac,and_imp,List.cons_append,List.nil_append,Ab,Af,Ai,Ah,Ak,rng64,rng32,true_and,and_true,List.cons.injEq,DV.c.injEq,DV.a.injEq,D.raw.injEq,D.fs.injEq,Value.bool.injEq,Value.int.injEq]
  repeat' first | assumption | exact DShs.tail (Aa (by assumption) (by assumption)) | exact shp32 (by assumption) | exact shp64 (by assumption) | exact shp2 (by assumption) | exact shpF (by assumption) | with_reducible intro _ | with_reducible apply And.intro
  all_goals (try (have z:=Ay4 (by assumption) (by omega) (by omega);skip))
  all_goals first
    | assumption
    | omega
    | (apply ‹∀ res:List DV,(∃ x:Int,_)→_›;exact ⟨_,rfl⟩)
theorem Ar2:Con TP k0 295 Asg:=Ad [] [] [(295001202008,5,false),(295001202008,9,false),(295001202008,15,false)] [] 3000 trivial trivial Go.Proofs.Tryz.func295 rfl rfl rfl rfl Aph (by kernel_rfl) Akm
end Go.Vc

namespace Go.Vc
open Classical
def As5 (aa:List DV):List DV:=[vn (cmpI (ni aa 0) (ni aa 1))]
def Ask:ConT:=⟨[kn,kn],[kn],fun aa=>True,fun aa rs=>rs=As5 aa⟩
def Apm:Prop:=∀ (x0 x1:Int),Ob True→∀ (R:List DV→Prop),Ob (∀ (res:List DV),res=[vn (cmpI x0 x1)]→R res)→(x0≠x0→(x1≠x1→Ob (R [vn 0]))∧(¬x1≠x1→Ob (R [vn (-1)])))∧(¬x0≠x0→(x1≠x1→Ob (R [vn 1]))∧(¬x1≠x1→(x0<x1→Ob (R [vn (-1)]))∧(¬x0<x1→(x0>x1→Ob (R [vn 1]))∧(¬x0>x1→Ob (R [vn 0])))))
theorem Akr:Apm:=by
  delta Apm
  simp only [Ac,and_imp,List.cons_append,List.nil_append,Ab,Af,Ai,Ah,Ak,rng64,rng32,true_and,and_true,List.cons.injEq,DV.c.injEq,DV.a.injEq,D.raw.injEq,D.fs.injEq,Value.bool.injEq,Value.int.injEq]
  repeat' first | assumption | exact DShs.tail (Aa (by assumption) (by assumption)) | exact shp32 (by assumption) | exact shp64 (by assumption) | exact shp2 (by assumption) | exact shpF (by assumption) | with_reducible intro _ | with_reducible apply And.intro
  all_goals first
    | assumption
    | omega
    | (apply ‹∀ res:List DV,_=_→_›;simp [cmpI];omega)
    | (apply ‹∀ res:List DV,_=_→_›;simp [cmpI];grind)
    | (grind)
theorem Ar6:Con TP k0 331 Ask:=Ad [] [] [] [] 3000 trivial trivial Go.Proofs.Tryz.func331 rfl rfl rfl rfl Apm (by kernel_rfl) Akr
end Go.Vc
