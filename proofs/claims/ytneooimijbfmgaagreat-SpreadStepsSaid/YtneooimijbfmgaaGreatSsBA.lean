import Derived.Test.YtneooimijbfmgaaGreatProg
import Derived.KernelRfl
import Derived.Test.YtneooimijbfmgaaGreatSsAS
import Derived.Test.YtneooimijbfmgaaGreatSsAT
import Derived.Test.YtneooimijbfmgaaGreatSsAU
import Derived.Test.YtneooimijbfmgaaGreatSsAZ
set_option linter.unusedVariables false
set_option linter.unusedSimpArgs false
set_option linter.unusedSectionVars false
set_option maxHeartbeats 4000000
set_option maxRecDepth 100000
noncomputable section
namespace Go.Vc
open Classical
def Nt (aa:List DV):List DV:=[vn (Bk (li aa 0))]
def Nc:ConT:=⟨[kl],[kn],fun aa=>LSh pairS (li aa 0),fun aa rs=>rs=Nt aa⟩
def Hb:Prop:=∀ (l0:LL),Ob (LSh pairS l0)→∀ (R:List DV→Prop),Ob (∀ (res:List DV),res=[vn (Bk l0)]→R res)→∀ x2:Int,x2=l0.length→(x2>64→Ob (R [vn 4]))∧(¬x2>64→Ob ((0:Int)≤(0:Int)∧upto (Cd l0) (0:Int))∧∀ (g3:NV) (x4:Int),Ob (0≤x4∧upto (Cd l0) x4)→∀ x5:Int,x5=l0.length→(x4<x5→Ob (0≤x4∧x4<l0.length)∧Ob (Shp kP l0)∧∀ x6 x7,Ob (l0[x4.toNat]?=some [dn x6,dn x7])→(x6≥0→(x6<8→(x7≥0→(x7≤2147483647→∀ x8:Int,x8=w64 (x4+1)→Ob (0≤x8∧upto (Cd l0) x8)∧Ob (l0.length-x8.toNat<l0.length-x4.toNat))∧(¬x7≤2147483647→Ob (R [vn 8])))∧(¬x7≥0→Ob (R [vn 8])))∧(¬x6<8→Ob (R [vn 8])))∧(¬x6≥0→Ob (R [vn 8])))∧(¬x4<x5→Ob (R [vn 0])))
theorem Pi:Hb:=by
  delta Hb
  simp only [Ac,and_imp,true_and,and_true,List.cons.injEq,DV.c.injEq,DV.a.injEq,D.raw.injEq,D.fs.injEq,Value.bool.injEq,Value.int.injEq]
  repeat' first | assumption | exact DShs.tail (Aa (by assumption) (by assumption)) | exact shp32 (by assumption) | exact shp64 (by assumption) | exact shp2 (by assumption) | exact shpF (by assumption) | with_reducible intro _ | with_reducible apply And.intro
  all_goals (try (have e:=Ae ‹_=w64 (_+1)› (by omega) (by omega);subst e))
  all_goals first
    | assumption
    | (exact fun i hi=>by omega)
    | omega
    | exact shp2 (by assumption)
    | (rw [Ag (by omega)];exact ⟨by assumption,Sy (by assumption) (by omega)⟩)
    | (apply ‹∀ res:List DV,_=_→_›;simp only [Bk];rw [if_pos (by omega)])
    | (apply ‹∀ res:List DV,_=_→_›;rw [An4 (by assumption) (by omega) (Wq (by assumption) (by omega)) (by omega) (by assumption)])
    | (apply ‹∀ res:List DV,_=_→_›;rw [An3 (by assumption) (by omega) (by assumption) (by omega)])
    | skip
theorem Uo:Con TP k0 259 Nc:=Ad [] [(259000,0,some ⟨[0],[3],[],[kn],[],fun ρ ds=>0≤ni ds 0∧upto (Cd (ρ.d 0)) (ni ds 0),fun ρ ds=>(ρ.d 0).length-(ni ds 0).toNat,none⟩)] [] [] 3000 trivial trivial Go.Proofs.Tryz.func259 rfl rfl rfl rfl Hb (by kernel_rfl) Pi
end Go.Vc

namespace Go.Vc
open Classical
def Ane (aa:List DV):List DV:=[vl (fltD (ni aa 1) (li aa 0))]
def Ak0:ConT:=⟨[kl,kn],[kl],fun aa=>LSh pairS (li aa 0)∧(li aa 0).length≤1000000,fun aa rs=>rs=Ane aa⟩
def Ae8:Prop:=∀ (l0:LL) (x1:Int),Ob (LSh pairS l0∧l0.length≤1000000)→∀ (R:List DV→Prop),Ob (∀ (res:List DV),res=[vl (fltD x1 l0)]→R res)→Ob ((0:Int)≤(0:Int)∧(0:Int)≤(l0.length:Int)∧fltI x1 l0 [] (0:Int))∧∀ (g3:NV) (x4:Int) (l5:LL),let N0:=(0≤x4∧x4<l0.length);Ob (0≤x4∧x4≤l0.length∧fltI x1 l0 l5 x4)→∀ x6:Int,x6=l0.length→(x4<x6→Ob N0∧Ob (Shp kP l0)∧∀ x7 x8,Ob (l0[x4.toNat]?=some [dn x7,dn x8])→(x7≠x1→Ob N0∧Ob (Shp kP l0)∧∀ x9 x10,Ob (l0[x4.toNat]?=some [dn x9,dn x10])→Ob (l5.length+List.length [[dn x9,dn x10]]≤(1048576:Nat))∧∀ (l11:LL),l11=l5++[[dn x9,dn x10]]→∀ x12:Int,x12=w64 (x4+1)→Ob (0≤x12∧x12≤l0.length∧fltI x1 l0 l11 x12)∧Ob (l0.length-x12.toNat<l0.length-x4.toNat))∧(¬x7≠x1→∀ x13:Int,x13=w64 (x4+1)→Ob (0≤x13∧x13≤l0.length∧fltI x1 l0 l5 x13)∧Ob (l0.length-x13.toNat<l0.length-x4.toNat)))∧(¬x4<x6→Ob (R [vl l5]))
theorem Ah2:Ae8:=by
  delta Ae8
  simp only [Ac,and_imp,forall_exists_index,true_and,and_true,List.cons.injEq,DV.c.injEq,DV.a.injEq,D.raw.injEq,D.fs.injEq,Value.bool.injEq,Value.int.injEq]
  intro l0 x1 hl hs h20 R hR
  repeat' first | assumption | exact DShs.tail (Aa (by assumption) (by assumption)) | exact shp32 (by assumption) | exact shp64 (by assumption) | exact shp2 (by assumption) | exact shpF (by assumption) | with_reducible intro _ | with_reducible apply And.intro
  all_goals (try (have q1:=(‹fltI _ l0 _ _›).len))
  all_goals (try (have e:=Ae ‹_=w64 (_+1)› (by omega) (by omega);subst e))
  all_goals first
    | assumption
    | omega
    | exact shp2 (by assumption)
    | exact LS.rect (by assumption)
    | exact fltI.zero
    | exact hR _ (Avn (by assumption) (by omega) (by omega))
    | exact Avm (by assumption) (by assumption) (by assumption) (by assumption) (by assumption) (by assumption)
    | exact (‹fltI _ l0 _ _›).no (by assumption) (by assumption) (by omega)
    | (simp only [List.length_append,List.length_cons,List.length_nil] at *;omega)
    | skip
theorem An9:Con TP k0 184 Ak0:=Ad [] [(184000,0,some ⟨[0,1],[6],[],[kn],[⟨5,118,2,true, .tmp⟩],fun ρ ds=>0≤ni ds 0∧ni ds 0≤(ρ.d 0).length∧fltI (ρ.n 1) (ρ.d 0) (li ds 1) (ni ds 0),fun ρ ds=>((ρ.d 0).length-(ni ds 0).toNat),none⟩)] [] [] 3000 trivial trivial Go.Proofs.Tryz.func184 rfl rfl rfl rfl Ae8 (by kernel_rfl) Ah2
end Go.Vc

namespace Go.Vc
open Classical
def Acb (aa:List DV):List DV:=[vl (srtD (li aa 0))]
def Aa2:ConT:=⟨[kl],[kl],fun aa=>LSh pairS (li aa 0)∧(li aa 0).length≤1000000,fun aa rs=>rs=Acb aa⟩
def Td:Prop:=∀ (l0:LL),Ob (LSh pairS l0∧l0.length≤1000000)→∀ (R:List DV→Prop),Ob (∀ (res:List DV),res=[vl (srtD l0)]→R res)→Ob ((0:Int)≤(0:Int)∧(0:Int)≤(l0.length:Int)∧srtI l0 [] (0:Int))∧∀ (g2:NV) (x3:Int) (l4:LL),let N4:=(List.drop (Int.toNat (0:Int)) l4);let N2:=(0≤x3∧x3<l0.length);Ob (0≤x3∧x3≤l0.length∧srtI l0 l4 x3)→∀ x5:Int,x5=l0.length→(x3<x5→Ob ((0:Int)≤(0:Int)∧(0:Int)≤(l4.length:Int)∧srtK l0 l4 x3 (0:Int))∧∀ (g6:NV) (x7:Int),let N6:=(List.drop (x7.toNat) l4);let N5:=(x7.toNat-Int.toNat (0:Int));let N3:=(Int.toNat (l4.length:Int)-x7.toNat);let N1:=((0:Int)≤(0:Int)∧0≤x7∧x7≤l4.length∧(l4.length:Int)≤(l4.length:Int)∧Rect (2) l4);let N0:=(0≤x7∧x7≤l4.length∧(l4.length:Int)≤(l4.length:Int)∧(l4.length:Int)≤(l4.length:Int)∧Rect (2) l4);Ob (0≤x7∧x7≤l4.length∧srtK l0 l4 x3 x7)→∀ x8:Int,x8=l4.length→(x7<x8→Ob N2∧Ob (Shp kP l0)∧∀ x9 x10,Ob (l0[x3.toNat]?=some [dn x9,dn x10])→Ob (0≤x7∧x7<l4.length)∧Ob (Shp kP l4)∧∀ x11 x12,Ob (l4[x7.toNat]?=some [dn x11,dn x12])→(x10>x12→Ob N1∧∀ (l13:LL),l13=List.take N5 N4→Ob (Shp kP l13∧l13.length≤1048576)∧∀ (l14:LL),l14=l13→Ob N2∧Ob (Shp kP l0)∧∀ x15 x16,Ob (l0[x3.toNat]?=some [dn x15,dn x16])→Ob N0∧∀ (l17:LL),l17=List.take N3 N6→Ob (l14.length+List.length [[dn x15,dn x16]]≤(1048576:Nat))∧∀ (l18:LL),l18=l14++[[dn x15,dn x16]]→Ob (Shp kP l17∧l18.length+l17.length≤1048576)∧∀ (l19:LL),l19=l18++l17→∀ x20:Int,x20=w64 (x3+1)→Ob (0≤x20∧x20≤l0.length∧srtI l0 l19 x20)∧Ob (l0.length-x20.toNat<l0.length-x3.toNat))∧(¬x10>x12→(x10=x12→(x9<x11→Ob N1∧∀ (l21:LL),l21=List.take N5 N4→Ob (Shp kP l21∧l21.length≤1048576)∧∀ (l22:LL),l22=l21→Ob N2∧Ob (Shp kP l0)∧∀ x23 x24,Ob (l0[x3.toNat]?=some [dn x23,dn x24])→Ob N0∧∀ (l25:LL),l25=List.take N3 N6→Ob (l22.length+List.length [[dn x23,dn x24]]≤(1048576:Nat))∧∀ (l26:LL),l26=l22++[[dn x23,dn x24]]→Ob (Shp kP l25∧l26.length+l25.length≤1048576)∧∀ (l27:LL),l27=l26++l25→∀ x28:Int,x28=w64 (x3+1)→Ob (0≤x28∧x28≤l0.length∧srtI l0 l27 x28)∧Ob (l0.length-x28.toNat<l0.length-x3.toNat))∧(¬x9<x11→∀ x29:Int,x29=w64 (x7+1)→Ob (0≤x29∧x29≤l4.length∧srtK l0 l4 x3 x29)∧Ob (l4.length-x29.toNat<l4.length-x7.toNat)))∧(¬x10=x12→∀ x30:Int,x30=w64 (x7+1)→Ob (0≤x30∧x30≤l4.length∧srtK l0 l4 x3 x30)∧Ob (l4.length-x30.toNat<l4.length-x7.toNat))))∧(¬x7<x8→Ob N1∧∀ (l31:LL),l31=List.take N5 N4→Ob (Shp kP l31∧l31.length≤1048576)∧∀ (l32:LL),l32=l31→Ob N2∧Ob (Shp kP l0)∧∀ x33 x34,Ob (l0[x3.toNat]?=some [dn x33,dn x34])→Ob N0∧∀ (l35:LL),l35=List.take N3 N6→Ob (l32.length+List.length [[dn x33,dn x34]]≤(1048576:Nat))∧∀ (l36:LL),l36=l32++[[dn x33,dn x34]]→Ob (Shp kP l35∧l36.length+l35.length≤1048576)∧∀ (l37:LL),l37=l36++l35→∀ x38:Int,x38=w64 (x3+1)→Ob (0≤x38∧x38≤l0.length∧srtI l0 l37 x38)∧Ob (l0.length-x38.toNat<l0.length-x3.toNat)))∧(¬x3<x5→Ob (R [vl l4]))
theorem Aap:Td:=by
  delta Td
  simp only [Ac,and_imp,forall_exists_index,true_and,and_true,List.cons.injEq,DV.c.injEq,DV.a.injEq,D.raw.injEq,D.fs.injEq,Value.bool.injEq,Value.int.injEq]
  intro l0 hl hs h20 R hR
  repeat' first | assumption | exact DShs.tail (Aa (by assumption) (by assumption)) | exact shp32 (by assumption) | exact shp64 (by assumption) | exact shp2 (by assumption) | exact shpF (by assumption) | with_reducible intro _ | with_reducible apply And.intro
  all_goals (try (have q1:=(‹srtI l0 _ _›).len))
  all_goals (try (have q2:=(‹srtI l0 _ _›).ls hs))
  all_goals (try (have e:=Ae ‹_=w64 (_+1)› (by omega) (by omega);subst e))
  all_goals (try (have q3:=Aaz ‹_=List.take _ (List.drop (Int.toNat 0) _)›))
  all_goals (try (have q4:=Aaz (b:=Int.toNat _) (a:=Int.toNat ((List.length _:Nat):Int)-_) (by assumption)))
  all_goals first
    | assumption
    | omega
    | exact shp2 (by assumption)
    | exact LS.rect (by assumption)
    | exact srtI.zero
    | exact srtK.zero
    | exact srtK.step (by assumption) ‹l0[_]?=some _› (by assumption) (by assumption) (by omega)
    | exact hR _ (Atz (by assumption) (by omega))
    | exact shp2 (Akz (by assumption) (by assumption))
    | exact Aw3 (Adr (by assumption) (by assumption) (by assumption) (by assumption) (by assumption)) (by assumption) (by assumption) hs ‹(_:Int)>_› (by assumption) (by assumption) (by assumption) (by assumption)
    | exact Aw4 (Adr (by assumption) (by assumption) (by assumption) (by assumption) (by assumption)) (by assumption) (by assumption) hs (by assumption) (by assumption) (by assumption) (by assumption) (by assumption) (by assumption)
    | exact Aqi (Adr (by assumption) (by assumption) (by assumption) (by assumption) (by assumption)) (by assumption) (by assumption) hs (by assumption) (by assumption) (by omega) (by assumption)
    | (subst_vars;simp only [List.length_take,List.length_drop,List.length_append,List.length_cons,List.length_nil] at *;omega)
    | skip
theorem Aeq:Con TP k0 183 Aa2:=Ad [] [(183000,300008,some ⟨[0,1,2,3,4,5,6,7,8,9,11,12,13,10,14,15],[10,11,10,12,10,13],[],[],[],fun _ _=>True,fun _ _=>0,none⟩),(183000,0,some ⟨[0],[4,3],[],[kn,kl],[],fun ρ ds=>0≤ni ds 0∧ni ds 0≤(ρ.d 0).length∧srtI (ρ.d 0) (li ds 1) (ni ds 0),fun ρ ds=>((ρ.d 0).length-(ni ds 0).toNat),none⟩),(183000,2,some ⟨[0,3,4],[5],[],[kn],[],fun ρ ds=>0≤ni ds 0∧ni ds 0≤(ρ.d 2).length∧srtK (ρ.d 0) (ρ.d 2) (ρ.n 1) (ni ds 0),fun ρ ds=>((ρ.d 2).length-(ni ds 0).toNat),none⟩)] [] [] 3000 trivial trivial Go.Proofs.Tryz.func183 rfl rfl rfl rfl Td (by kernel_rfl) Aap
end Go.Vc

namespace Go.Vc
open Classical
def Acc (aa:List DV):List DV:=[vl (kpL (fstD (li aa 0)) (li aa 0) (li aa 0).length)]
def Aa3:ConT:=⟨[kl],[kl],fun aa=>LSh pairS (li aa 0)∧(li aa 0).length≤1000000,fun aa rs=>rs=Acc aa⟩
def Te:Prop:=∀ (l0:LL),Ob (LSh pairS l0∧l0.length≤1000000)→∀ (R:List DV→Prop),Ob (∀ (res:List DV),res=[vl (kpL (fstD l0) l0 (l0.length))]→R res)→Ob ((0:Int)≤(0:Int)∧(0:Int)≤(l0.length:Int)∧fstI l0 [] (0:Int))∧∀ (g2:NV) (x3:Int) (l4:LL),let N0:=(0≤x3∧x3<l0.length);Ob (0≤x3∧x3≤l0.length∧fstI l0 l4 x3)→∀ x5:Int,x5=l0.length→(x3<x5→Ob ((0:Int)≤(0:Int)∧0≤x3∧wasK l0 (0:Int) x3 false)∧∀ (g6:NV) (x7:Int) (b8:Bool),Ob (0≤x7∧x7≤x3∧wasK l0 x7 x3 b8)→(x7<x3→(b8=true→∀ x9:Int,x9=w64 (x7+1)→Ob (0≤x9∧x9≤x3∧wasK l0 x9 x3 true)∧Ob (x3.toNat-x9.toNat<x3.toNat-x7.toNat))∧(b8=false→Ob (0≤x7∧x7<l0.length)∧Ob (Shp kP l0)∧∀ x10 x11,Ob (l0[x7.toNat]?=some [dn x10,dn x11])→Ob N0∧Ob (Shp kP l0)∧∀ x12 x13,Ob (l0[x3.toNat]?=some [dn x12,dn x13])→(x10=x12→∀ x14:Int,x14=w64 (x7+1)→Ob (0≤x14∧x14≤x3∧wasK l0 x14 x3 true)∧Ob (x3.toNat-x14.toNat<x3.toNat-x7.toNat))∧(¬x10=x12→∀ x15:Int,x15=w64 (x7+1)→Ob (0≤x15∧x15≤x3∧wasK l0 x15 x3 false)∧Ob (x3.toNat-x15.toNat<x3.toNat-x7.toNat))))∧(¬x7<x3→(b8=false→Ob N0∧Ob (Shp kP l0)∧∀ x16 x17,Ob (l0[x3.toNat]?=some [dn x16,dn x17])→Ob (l4.length+List.length [[dn x16,dn x17]]≤(1048576:Nat))∧∀ (l18:LL),l18=l4++[[dn x16,dn x17]]→∀ x19:Int,x19=w64 (x3+1)→Ob (0≤x19∧x19≤l0.length∧fstI l0 l18 x19)∧Ob (l0.length-x19.toNat<l0.length-x3.toNat))∧(¬b8=false→∀ x20:Int,x20=w64 (x3+1)→Ob (0≤x20∧x20≤l0.length∧fstI l0 l4 x20)∧Ob (l0.length-x20.toNat<l0.length-x3.toNat))))∧(¬x3<x5→Ob (R [vl l4]))
theorem Aaq:Te:=by
  delta Te
  simp only [Ac,and_imp,forall_exists_index,true_and,and_true,List.cons.injEq,DV.c.injEq,DV.a.injEq,D.raw.injEq,D.fs.injEq,Value.bool.injEq,Value.int.injEq]
  intro l0 hl hs h20 R hR
  repeat' first | assumption | exact DShs.tail (Aa (by assumption) (by assumption)) | exact shp32 (by assumption) | exact shp64 (by assumption) | exact shp2 (by assumption) | exact shpF (by assumption) | with_reducible intro _ | with_reducible apply And.intro
  all_goals (try (have q1:=(‹fstI l0 _ _›).len))
  all_goals (try (have e:=Ae ‹_=w64 (_+1)› (by omega) (by omega);subst e))
  all_goals first
    | assumption
    | omega
    | exact shp2 (by assumption)
    | exact LS.rect (by assumption)
    | exact fstI.zero
    | exact wasK.zero
    | exact hR _ (Avk (by assumption) (by omega) (by omega))
    | exact wasK.old (by assumption) (by assumption) (by assumption)
    | exact wasK.hit (by assumption) (by assumption) (by assumption) (by assumption)
    | exact wasK.miss (by assumption) (by assumption) (by assumption) (by assumption) (by assumption) (by assumption)
    | exact Avj (by assumption) (by assumption) (by assumption) (by assumption) (by omega) (by omega) (by assumption)
    | exact Arm (by assumption) (by assumption) (by assumption) (by omega) (by omega)
    | (simp only [List.length_append,List.length_cons,List.length_nil] at *;omega)
    | skip
theorem Aer:Con TP k0 182 Aa3:=Ad [] [(182000,0,some ⟨[0],[4],[],[kn],[⟨3,118,2,true, .tmp⟩],fun ρ ds=>0≤ni ds 0∧ni ds 0≤(ρ.d 0).length∧fstI (ρ.d 0) (li ds 1) (ni ds 0),fun ρ ds=>((ρ.d 0).length-(ni ds 0).toNat),none⟩),(182000,2,some ⟨[0,3,4],[6,5],[],[kn,kb],[],fun ρ ds=>0≤ni ds 0∧ni ds 0≤ρ.n 1∧wasK (ρ.d 0) (ni ds 0) (ρ.n 1) (bi ds 1),fun ρ ds=>((ρ.n 1).toNat-(ni ds 0).toNat),none⟩)] [] [] 3000 trivial trivial Go.Proofs.Tryz.func182 rfl rfl rfl rfl Te (by kernel_rfl) Aaq
end Go.Vc

namespace Go.Vc
open Classical
def Aeh (aa:List DV):List DV:=[vb (decide (li aa 0=li aa 1))]
def Adm:ConT:=⟨[kl,kl],[kb],fun aa=>LSh pairS (li aa 0)∧LSh pairS (li aa 1),fun aa rs=>rs=Aeh aa⟩
def Afv:Prop:=∀ (l0 l1:LL),Ob (LSh pairS l0∧LSh pairS l1)→∀ (R:List DV→Prop),Ob (∀ (res:List DV),res=[vb (decide (l0=l1))]→R res)→∀ x3:Int,x3=l0.length→∀ x4:Int,x4=l1.length→(x3≠x4→Ob (R [vb false]))∧(¬x3≠x4→Ob ((0:Int)≤(0:Int)∧l0.length=l1.length∧(0:Int)≤(l0.length:Int)∧List.take (Int.toNat (0:Int)) l0=List.take (Int.toNat (0:Int)) l1)∧∀ (g5:NV) (x6:Int),Ob (0≤x6∧l0.length=l1.length∧x6≤l0.length∧List.take (x6.toNat) l0=List.take (x6.toNat) l1)→∀ x7:Int,x7=l0.length→(x6<x7→Ob (0≤x6∧x6<l0.length)∧Ob (Shp kP l0)∧∀ x8 x9,Ob (l0[x6.toNat]?=some [dn x8,dn x9])→Ob (0≤x6∧x6<l1.length)∧Ob (Shp kP l1)∧∀ x10 x11,Ob (l1[x6.toNat]?=some [dn x10,dn x11])→(¬(x8=x10∧x9=x11)→Ob (R [vb false]))∧(¬¬(x8=x10∧x9=x11)→∀ x12:Int,x12=w64 (x6+1)→Ob (0≤x12∧l0.length=l1.length∧x12≤l0.length∧List.take (x12.toNat) l0=List.take (x12.toNat) l1)∧Ob (l0.length-x12.toNat<l0.length-x6.toNat)))∧(¬x6<x7→Ob (R [vb true])))
theorem Aip:Afv:=by
  delta Afv
  simp only [Ac,and_imp,true_and,and_true,List.cons.injEq,DV.c.injEq,DV.a.injEq,D.raw.injEq,D.fs.injEq,Value.bool.injEq,Value.int.injEq]
  repeat' first | assumption | exact DShs.tail (Aa (by assumption) (by assumption)) | exact shp32 (by assumption) | exact shp64 (by assumption) | exact shp2 (by assumption) | exact shpF (by assumption) | with_reducible intro _ | with_reducible apply And.intro
  all_goals (try (have e:=Ae ‹_=w64 (_+1)› (by omega) (by omega);subst e))
  all_goals first
    | assumption
    | omega
    | exact shp2 (by assumption)
    | exact Aa (by assumption) (by assumption)
    | exact DShs.tail (Aa (by assumption) (by assumption))
    | (apply ‹∀ res:List DV,_=_→_›;simp;grind [El,Dc])
    | (rw [Ao (by omega) (by assumption),Ao (by omega) (by assumption)];grind)
    | grind
    | skip
theorem Ac0:Con TP k0 206 Adm:=Ad [] [(206000,0,some ⟨[0,1],[5],[],[kn],[],fun ρ ds=>0≤ni ds 0∧(ρ.d 0).length=(ρ.d 1).length∧ni ds 0≤(ρ.d 0).length∧(ρ.d 0).take (ni ds 0).toNat=(ρ.d 1).take (ni ds 0).toNat,fun ρ ds=>(ρ.d 0).length-(ni ds 0).toNat,none⟩)] [] [] 3000 trivial trivial Go.Proofs.Tryz.func206 rfl rfl rfl rfl Afv (by kernel_rfl) Aip
end Go.Vc

namespace Go.Vc
open Classical
def Rt (aa:List DV):List DV:=[vb (decide (Aq (ai aa 0)))]
def Qb:ConT:=⟨[rkS cacheS],[kb],fun aa=>DShs cacheS (ai aa 0),fun aa rs=>rs=Rt aa⟩
def Jg:Prop:=∀ (x0 x1:Int) (l2:LL),let N0:=(srtD (fltD x0 l2));Ob (DShs cacheS [dn x0,dn x1,D.fs l2])→∀ (R:List DV→Prop),let N1:=(R [vb false]);Ob (∀ (res:List DV),res=[vb (decide (Aq [dn x0,dn x1,D.fs l2]))]→R res)→(x0<0→Ob N1)∧(¬x0<0→(x0≥8→Ob N1)∧(¬x0≥8→(x1<1→Ob N1)∧(¬x1<1→(x1>6→Ob N1)∧(¬x1>6→∀ x4:Int,x4=l2.length→(x4>x1→Ob N1)∧(¬x4>x1→Ob (LSh pairS l2)∧∀ x5,Ob ([vn x5]=[vn (Bk l2)])→(x5≠0→Ob N1)∧(¬x5≠0→Ob (LSh pairS l2∧l2.length≤1000000)∧Ob (LSh pairS (fltD x0 l2)∧List.length (fltD x0 l2)≤(1000000:Nat))∧Ob (LSh pairS N0∧List.length N0≤(1000000:Nat))∧Ob (LSh pairS l2∧LSh pairS (kpL (fstD N0) N0 (List.length N0)))∧∀ b6,Ob ([vb b6]=[vb (decide (l2=kpL (fstD N0) N0 (List.length N0)))])→Ob (R [vb b6])))))))
theorem Tw:Jg:=by
  delta Jg
  simp only [Ac,and_imp,forall_exists_index,true_and,and_true,List.cons.injEq,DV.c.injEq,DV.a.injEq,D.raw.injEq,D.fs.injEq,Value.bool.injEq,Value.int.injEq]
  intro x0 x1 l2 h0 R hR
  have hn:=(Ak.1 (Ab.1 (Ab.1 (Ab.1 h0).2).2).1).1
  have hs:=(Ak.1 (Ab.1 (Ab.1 (Ab.1 h0).2).2).1).2
  repeat' first | assumption | exact DShs.tail (Aa (by assumption) (by assumption)) | exact shp32 (by assumption) | exact shp64 (by assumption) | exact shp2 (by assumption) | exact shpF (by assumption) | with_reducible intro _ | with_reducible apply And.intro
  all_goals first
    | assumption
    | omega
    | exact hR _ (A1z (by omega))
    | exact hR _ (A1y (by assumption) (by assumption))
    | exact hR _ (A02 (by omega) (by assumption) (by assumption) rfl rfl rfl (by assumption))
    | exact hR _ (A02 (by omega) (by assumption) (by assumption) rfl rfl rfl rfl)
    | exact Ab6 hs
    | exact srtD.ls (Ab6 hs)
    | exact A0o hn
    | exact A0l hn
    | exact A0n (by assumption) (by assumption) (by assumption) (by omega)
    | exact A0k (by assumption) (by assumption) (by assumption) (by omega)
    | exact A01 hn
    | exact A0m hs
    | skip
theorem Zk:Con TP k0 196 Qb:=Ad [(259,Nc),(184,Ak0),(183,Aa2),(182,Aa3),(206,Adm)] [] [] [(259,Nt),(184,Ane),(183,Acb),(182,Acc),(206,Aeh)] 3000 ⟨Uo,An9,Aeq,Aer,Ac0,trivial⟩ ⟨fnq rfl rfl,fnq rfl rfl,fnq rfl rfl,fnq rfl rfl,fnq rfl rfl,trivial⟩ Go.Proofs.Tryz.func196 rfl rfl rfl rfl Jg (by kernel_rfl) Tw
end Go.Vc

namespace Go.Vc
open Classical
def Kp (aa:List DV):List DV:=[vn (Bh (li aa 0))]
def Js:ConT:=⟨[kl],[kn],fun aa=>LSh pairS (li aa 0),fun aa rs=>rs=Kp aa⟩
def Gd:Prop:=∀ (l0:LL),let N0:=(Ct l0);Ob (LSh pairS l0)→∀ (R:List DV→Prop),Ob (∀ (res:List DV),res=[vn (Bh l0)]→R res)→∀ x2:Int,x2=l0.length→(x2>1024→Ob (R [vn 4]))∧(¬x2>1024→Ob ((0:Int)≤(0:Int)∧upto N0 (0:Int))∧∀ (g3:NV) (x4:Int),let N1:=(0≤x4∧x4<l0.length);Ob (0≤x4∧upto N0 x4)→∀ x5:Int,x5=l0.length→(x4<x5→Ob N1∧Ob (Shp kP l0)∧∀ x6 x7,Ob (l0[x4.toNat]?=some [dn x6,dn x7])→(x6≥0→(x6≤2147483647→(x7≥0→(x7≤1048575→(x4>0→∀ x8:Int,x8=w64 (x4-1)→Ob (0≤x8∧x8<l0.length)∧Ob (Shp kP l0)∧∀ x9 x10,Ob (l0[x8.toNat]?=some [dn x9,dn x10])→Ob N1∧Ob (Shp kP l0)∧∀ x11 x12,Ob (l0[x4.toNat]?=some [dn x11,dn x12])→(x9<x11→∀ x13:Int,x13=w64 (x4+1)→Ob (0≤x13∧upto N0 x13)∧Ob (l0.length-x13.toNat<l0.length-x4.toNat))∧(¬x9<x11→(x9=x11→(x10<x12→∀ x14:Int,x14=w64 (x4+1)→Ob (0≤x14∧upto N0 x14)∧Ob (l0.length-x14.toNat<l0.length-x4.toNat))∧(¬x10<x12→Ob (R [vn 8])))∧(¬x9=x11→Ob (R [vn 8]))))∧(¬x4>0→∀ x15:Int,x15=w64 (x4+1)→Ob (0≤x15∧upto N0 x15)∧Ob (l0.length-x15.toNat<l0.length-x4.toNat)))∧(¬x7≤1048575→Ob (R [vn 8])))∧(¬x7≥0→Ob (R [vn 8])))∧(¬x6≤2147483647→Ob (R [vn 8])))∧(¬x6≥0→Ob (R [vn 8])))∧(¬x4<x5→Ob (R [vn 0])))
theorem Oh:Gd:=by
  delta Gd
  simp only [Ac,and_imp,true_and,and_true,List.cons.injEq,DV.c.injEq,DV.a.injEq,D.raw.injEq,D.fs.injEq,Value.bool.injEq,Value.int.injEq]
  repeat' first | assumption | exact DShs.tail (Aa (by assumption) (by assumption)) | exact shp32 (by assumption) | exact shp64 (by assumption) | exact shp2 (by assumption) | exact shpF (by assumption) | with_reducible intro _ | with_reducible apply And.intro
  all_goals (try (have e:=Ae ‹_=w64 (_+1)› (by omega) (by omega);subst e))
  all_goals (try (have e:=En ‹_=w64 (_-1)› (by omega) (by omega);subst e))
  all_goals first
    | assumption
    | (exact fun i hi=>by omega)
    | omega
    | exact shp2 (by assumption)
    | (rw [Ag (by omega)];exact ⟨by assumption,Aj0 (by assumption) (by assumption) (by omega) (by assumption) (by assumption) (by assumption) (by assumption) (by assumption)⟩)
    | (rw [Ag (by omega)];exact ⟨by assumption,Le (by assumption) (by omega) (by omega)⟩)
    | (apply ‹∀ res:List DV,_=_→_›;simp only [Bh];rw [if_pos (by omega)])
    | (apply ‹∀ res:List DV,_=_→_›;rw [Wj (by assumption) (by omega) (Oe (by assumption) (by omega)) (by omega) (by assumption)])
    | (apply ‹∀ res:List DV,_=_→_›;rw [Wj (by assumption) (by omega) (Od (by assumption) (by assumption) (by omega) (by omega)) (by omega) (by assumption)])
    | (apply ‹∀ res:List DV,_=_→_›;rw [Ajh (by assumption) (by omega) (by assumption) (by omega)])
    | skip
theorem Si:Con TP k0 197 Js:=Ad [] [(197000,0,some ⟨[0],[3],[],[kn],[],fun ρ ds=>0≤ni ds 0∧upto (Ct (ρ.d 0)) (ni ds 0),fun ρ ds=>(ρ.d 0).length-(ni ds 0).toNat,none⟩)] [] [] 3000 trivial trivial Go.Proofs.Tryz.func197 rfl rfl rfl rfl Gd (by kernel_rfl) Oh
end Go.Vc

namespace Go.Vc
open Classical
def Nr (aa:List DV):List DV:=[vn (Be (li aa 0))]
def Na:ConT:=⟨[kl],[kn],fun aa=>LSh frozS (li aa 0),fun aa rs=>rs=Nr aa⟩
def Gz:Prop:=∀ (l0:LL),let N2:=(Bq l0);Ob (LSh frozS l0)→∀ (R:List DV→Prop),Ob (∀ (res:List DV),res=[vn (Be l0)]→R res)→∀ x2:Int,x2=l0.length→(x2>1024→Ob (R [vn 4]))∧(¬x2>1024→Ob ((0:Int)≤(0:Int)∧upto N2 (0:Int))∧∀ (g3:NV) (x4:Int),let N1:=(0≤x4∧x4<l0.length);Ob (0≤x4∧upto N2 x4)→∀ x5:Int,x5=l0.length→(x4<x5→Ob N1∧Ob (Shp kF l0)∧∀ x6 b7 l8 x9 b10 l11 x12 b13 l14 x15 b16 l17 x18 b19 x20 x21 l22,Ob (l0[x4.toNat]?=some [dn x6,db b7,D.fs l8,dn x9,db b10,D.fs l11,dn x12,db b13,D.fs l14,dn x15,db b16,D.fs l17,dn x18,db b19,dn x20,dn x21,D.fs l22])→(x6<0→Ob (R [vn 8]))∧(¬x6<0→Ob N1∧Ob (Shp kF l0)∧∀ x23 b24 l25 x26 b27 l28 x29 b30 l31 x32 b33 l34 x35 b36 x37 x38 l39,Ob (l0[x4.toNat]?=some [dn x23,db b24,D.fs l25,dn x26,db b27,D.fs l28,dn x29,db b30,D.fs l31,dn x32,db b33,D.fs l34,dn x35,db b36,dn x37,dn x38,D.fs l39])→(x23>65535→Ob (R [vn 8]))∧(¬x23>65535→Ob N1∧Ob (Shp kF l0)∧∀ x40 b41 l42 x43 b44 l45 x46 b47 l48 x49 b50 l51 x52 b53 x54 x55 l56,let N0:=[db b41,D.fs l42,dn x43,db b44,D.fs l45,dn x46,db b47,D.fs l48,dn x49,db b50,D.fs l51,dn x52,db b53,dn x54,dn x55,D.fs l56];Ob (l0[x4.toNat]?=some [dn x40,db b41,D.fs l42,dn x43,db b44,D.fs l45,dn x46,db b47,D.fs l48,dn x49,db b50,D.fs l51,dn x52,db b53,dn x54,dn x55,D.fs l56])→Ob (DShs partS N0)∧∀ b57,Ob ([vb b57]=[vb (decide (Bp N0))])→(b57=false→Ob (R [vn 8]))∧(¬b57=false→(x4>0→Ob N1∧Ob (Shp kF l0)∧∀ x58 b59 l60 x61 b62 l63 x64 b65 l66 x67 b68 l69 x70 b71 x72 x73 l74,Ob (l0[x4.toNat]?=some [dn x58,db b59,D.fs l60,dn x61,db b62,D.fs l63,dn x64,db b65,D.fs l66,dn x67,db b68,D.fs l69,dn x70,db b71,dn x72,dn x73,D.fs l74])→∀ x75:Int,x75=w64 (x4-1)→Ob (0≤x75∧x75<l0.length)∧Ob (Shp kF l0)∧∀ x76 b77 l78 x79 b80 l81 x82 b83 l84 x85 b86 l87 x88 b89 x90 x91 l92,Ob (l0[x75.toNat]?=some [dn x76,db b77,D.fs l78,dn x79,db b80,D.fs l81,dn x82,db b83,D.fs l84,dn x85,db b86,D.fs l87,dn x88,db b89,dn x90,dn x91,D.fs l92])→(x58≤x76→Ob (R [vn 8]))∧(¬x58≤x76→∀ x93:Int,x93=w64 (x4+1)→Ob (0≤x93∧upto N2 x93)∧Ob (l0.length-x93.toNat<l0.length-x4.toNat)))∧(¬x4>0→∀ x94:Int,x94=w64 (x4+1)→Ob (0≤x94∧upto N2 x94)∧Ob (l0.length-x94.toNat<l0.length-x4.toNat))))))∧(¬x4<x5→Ob (R [vn 0])))
theorem Pg:Gz:=by
  delta Gz
  simp only [Ac,and_imp,true_and,and_true,List.cons.injEq,DV.c.injEq,DV.a.injEq,D.raw.injEq,D.fs.injEq,Value.bool.injEq,Value.int.injEq]
  repeat' first | assumption | exact DShs.tail (Aa (by assumption) (by assumption)) | exact shp32 (by assumption) | exact shp64 (by assumption) | exact shp2 (by assumption) | exact shpF (by assumption) | with_reducible intro _ | with_reducible apply And.intro
  all_goals (try (have e:=Ae ‹_=w64 (_+1)› (by omega) (by omega);subst e))
  all_goals (try (have e:=En ‹_=w64 (_-1)› (by omega) (by omega);subst e))
  all_goals first
    | assumption
    | (exact fun i hi=>by omega)
    | omega
    | exact shpF (by assumption)
    | exact DShs.tail (Aa (by assumption) (by assumption))
    | (rw [Ag (by omega)];exact ⟨by assumption,Aj5 ‹_=decide (Bp _)› (by assumption) (by assumption) (by assumption) (by assumption) (by assumption) (by assumption) (by assumption) (by assumption)⟩)
    | (rw [Ag (by omega)];exact ⟨by assumption,Aj6 ‹_=decide (Bp _)› (by assumption) (by assumption) (by assumption) (by assumption) (by assumption) (by assumption) (by assumption)⟩)
    | (apply ‹∀ res:List DV,_=_→_›;simp only [Be];rw [if_pos (by omega)])
    | (apply ‹∀ res:List DV,_=_→_›;rw [Se (by assumption) (by omega) (Aj9 (by assumption) (by omega) (by assumption) (by omega)) (by omega) (by assumption)])
    | (apply ‹∀ res:List DV,_=_→_›;rw [Se (by assumption) (by omega) (Aj7 (by assumption) ‹_=decide (Bp _)› (by assumption)) (by omega) (by assumption)])
    | (apply ‹∀ res:List DV,_=_→_›;rw [Se (by assumption) (by omega) (Aj8 (by assumption) (by assumption) (by assumption) (by omega)) (by omega) (by assumption)])
    | (apply ‹∀ res:List DV,_=_→_›;rw [An2 (by assumption) (by omega) (by assumption) (by omega)])
    | skip
theorem Um:Con TP k0 198 Na:=Ad [(193,Ln)] [(198000,0,some ⟨[0],[3],[],[kn],[],fun ρ ds=>0≤ni ds 0∧upto (Bq (ρ.d 0)) (ni ds 0),fun ρ ds=>(ρ.d 0).length-(ni ds 0).toNat,none⟩)] [] [(193,Ly)] 3000 ⟨Nz,trivial⟩ ⟨fnq rfl rfl,trivial⟩ Go.Proofs.Tryz.func198 rfl rfl rfl rfl Gz (by kernel_rfl) Pg
end Go.Vc

namespace Go.Vc
open Classical
def Ant (aa:List DV):List DV:=[vb (decide (li aa 0=li aa 1))]
def Alj:ConT:=⟨[kl,kl],[kb],fun aa=>LSh [s64] (li aa 0)∧LSh [s64] (li aa 1),fun aa rs=>rs=Ant aa⟩
def Afu:Prop:=∀ (l0 l1:LL),Ob (LSh [s64] l0∧LSh [s64] l1)→∀ (R:List DV→Prop),Ob (∀ (res:List DV),res=[vb (decide (l0=l1))]→R res)→∀ x3:Int,x3=l0.length→∀ x4:Int,x4=l1.length→(x3≠x4→Ob (R [vb false]))∧(¬x3≠x4→Ob ((0:Int)≤(0:Int)∧l0.length=l1.length∧(0:Int)≤(l0.length:Int)∧List.take (Int.toNat (0:Int)) l0=List.take (Int.toNat (0:Int)) l1)∧∀ (g5:NV) (x6:Int),Ob (0≤x6∧l0.length=l1.length∧x6≤l0.length∧List.take (x6.toNat) l0=List.take (x6.toNat) l1)→∀ x7:Int,x7=l0.length→(x6<x7→Ob (0≤x6∧x6<l0.length)∧Ob (Shp kI l0)∧∀ x8,Ob (l0[x6.toNat]?=some [dn x8])→Ob (0≤x6∧x6<l1.length)∧Ob (Shp kI l1)∧∀ x9,Ob (l1[x6.toNat]?=some [dn x9])→(x8≠x9→Ob (R [vb false]))∧(¬x8≠x9→∀ x10:Int,x10=w64 (x6+1)→Ob (0≤x10∧l0.length=l1.length∧x10≤l0.length∧List.take (x10.toNat) l0=List.take (x10.toNat) l1)∧Ob (l0.length-x10.toNat<l0.length-x6.toNat)))∧(¬x6<x7→Ob (R [vb true])))
theorem Aio:Afu:=by
  delta Afu
  simp only [Ac,and_imp,true_and,and_true,List.cons.injEq,DV.c.injEq,DV.a.injEq,D.raw.injEq,D.fs.injEq,Value.bool.injEq,Value.int.injEq]
  repeat' first | assumption | exact DShs.tail (Aa (by assumption) (by assumption)) | exact shp32 (by assumption) | exact shp64 (by assumption) | exact shp2 (by assumption) | exact shpF (by assumption) | with_reducible intro _ | with_reducible apply And.intro
  all_goals (try (have e:=Ae ‹_=w64 (_+1)› (by omega) (by omega);subst e))
  all_goals first
    | assumption
    | omega
    | exact shp64 (by assumption)
    | exact Aa (by assumption) (by assumption)
    | exact DShs.tail (Aa (by assumption) (by assumption))
    | (apply ‹∀ res:List DV,_=_→_›;simp;grind [El,Dc])
    | (rw [Ao (by omega) (by assumption),Ao (by omega) (by assumption)];grind)
    | grind
    | skip
theorem Aou:Con TP k0 129 Alj:=Ad [] [(129000,0,some ⟨[0,1],[5],[],[kn],[],fun ρ ds=>0≤ni ds 0∧(ρ.d 0).length=(ρ.d 1).length∧ni ds 0≤(ρ.d 0).length∧(ρ.d 0).take (ni ds 0).toNat=(ρ.d 1).take (ni ds 0).toNat,fun ρ ds=>(ρ.d 0).length-(ni ds 0).toNat,none⟩)] [] [] 3000 trivial trivial Go.Proofs.Tryz.func129 rfl rfl rfl rfl Afu (by kernel_rfl) Aio
end Go.Vc

namespace Go.Vc
open Classical
def Ahl (aa:List DV):List DV:=[vb (decide (ai aa 0=ai aa 1))]
def Agc:ConT:=⟨[rkS cacheS,rkS cacheS],[kb],fun aa=>DShs cacheS (ai aa 0)∧DShs cacheS (ai aa 1),fun aa rs=>rs=Ahl aa⟩
def Aaj:Prop:=∀ x0 x1 l2 x3 x4 l5,Ob (DShs cacheS [dn x0,dn x1,D.fs l2]∧DShs cacheS [dn x3,dn x4,D.fs l5])→∀ (R:List DV→Prop),Ob (∀ (res:List DV),res=[vb (decide ([dn x0,dn x1,D.fs l2]=[dn x3,dn x4,D.fs l5]))]→R res)→(x0=x3→(x1=x4→Ob (LSh pairS l2∧LSh pairS l5)∧∀ b7,Ob ([vb b7]=[vb (decide (l2=l5))])→Ob (R [vb b7]))∧(¬x1=x4→Ob (R [vb false])))∧(¬x0=x3→Ob (R [vb false]))
theorem Adh:Aaj:=by
  delta Aaj
  simp only [Ac,and_imp,List.cons_append,List.nil_append,Ab,Af,Ai,Ah,Ak,rng64,rng32,true_and,and_true,List.cons.injEq,DV.c.injEq,DV.a.injEq,D.raw.injEq,D.fs.injEq,Value.bool.injEq,Value.int.injEq]
  repeat' first | assumption | exact DShs.tail (Aa (by assumption) (by assumption)) | exact shp32 (by assumption) | exact shp64 (by assumption) | exact shp2 (by assumption) | exact shpF (by assumption) | with_reducible intro _ | with_reducible apply And.intro
  all_goals first
    | assumption
    | omega
    | (apply ‹∀ res:List DV,_=_→_›;simp_all)
    | grind
theorem Aju:Con TP k0 130 Agc:=Ad [(206,Adm)] [] [] [(206,Aeh)] 3000 ⟨Ac0,trivial⟩ ⟨fnq rfl rfl,trivial⟩ Go.Proofs.Tryz.func130 rfl rfl rfl rfl Aaj (by kernel_rfl) Adh
end Go.Vc

namespace Go.Vc
open Classical
def Ano (aa:List DV):List DV:=[vb (decide (li aa 0=li aa 1))]
def Alf:ConT:=⟨[kl,kl],[kb],fun aa=>LSh frozS (li aa 0)∧LSh frozS (li aa 1),fun aa rs=>rs=Ano aa⟩
def Afp:Prop:=∀ (l0 l1:LL),Ob (LSh frozS l0∧LSh frozS l1)→∀ (R:List DV→Prop),let N4:=(R [vb false]);Ob (∀ (res:List DV),res=[vb (decide (l0=l1))]→R res)→∀ x3:Int,x3=l0.length→∀ x4:Int,x4=l1.length→(x3≠x4→Ob N4)∧(¬x3≠x4→Ob ((0:Int)≤(0:Int)∧l0.length=l1.length∧(0:Int)≤(l0.length:Int)∧List.take (Int.toNat (0:Int)) l0=List.take (Int.toNat (0:Int)) l1)∧∀ (g5:NV) (x6:Int),let N3:=(0≤x6∧x6<l1.length);let N2:=(0≤x6∧x6<l0.length);Ob (0≤x6∧l0.length=l1.length∧x6≤l0.length∧List.take (x6.toNat) l0=List.take (x6.toNat) l1)→∀ x7:Int,x7=l0.length→(x6<x7→Ob N2∧Ob (Shp kF l0)∧∀ x8 b9 l10 x11 b12 l13 x14 b15 l16 x17 b18 l19 x20 b21 x22 x23 l24,Ob (l0[x6.toNat]?=some [dn x8,db b9,D.fs l10,dn x11,db b12,D.fs l13,dn x14,db b15,D.fs l16,dn x17,db b18,D.fs l19,dn x20,db b21,dn x22,dn x23,D.fs l24])→Ob N3∧Ob (Shp kF l1)∧∀ x25 b26 l27 x28 b29 l30 x31 b32 l33 x34 b35 l36 x37 b38 x39 x40 l41,Ob (l1[x6.toNat]?=some [dn x25,db b26,D.fs l27,dn x28,db b29,D.fs l30,dn x31,db b32,D.fs l33,dn x34,db b35,D.fs l36,dn x37,db b38,dn x39,dn x40,D.fs l41])→(x8≠x25→Ob N4)∧(¬x8≠x25→Ob N2∧Ob (Shp kF l0)∧∀ x42 b43 l44 x45 b46 l47 x48 b49 l50 x51 b52 l53 x54 b55 x56 x57 l58,let N0:=[db b43,D.fs l44,dn x45,db b46,D.fs l47,dn x48,db b49,D.fs l50,dn x51,db b52,D.fs l53,dn x54,db b55,dn x56,dn x57,D.fs l58];Ob (l0[x6.toNat]?=some [dn x42,db b43,D.fs l44,dn x45,db b46,D.fs l47,dn x48,db b49,D.fs l50,dn x51,db b52,D.fs l53,dn x54,db b55,dn x56,dn x57,D.fs l58])→Ob N3∧Ob (Shp kF l1)∧∀ x59 b60 l61 x62 b63 l64 x65 b66 l67 x68 b69 l70 x71 b72 x73 x74 l75,let N1:=[db b60,D.fs l61,dn x62,db b63,D.fs l64,dn x65,db b66,D.fs l67,dn x68,db b69,D.fs l70,dn x71,db b72,dn x73,dn x74,D.fs l75];Ob (l1[x6.toNat]?=some [dn x59,db b60,D.fs l61,dn x62,db b63,D.fs l64,dn x65,db b66,D.fs l67,dn x68,db b69,D.fs l70,dn x71,db b72,dn x73,dn x74,D.fs l75])→Ob (DShs partS N0∧DShs partS N1)∧∀ b76,Ob ([vb b76]=[vb (decide (eqD N0 N1))])→(b76=false→Ob N4)∧(¬b76=false→∀ x77:Int,x77=w64 (x6+1)→Ob (0≤x77∧l0.length=l1.length∧x77≤l0.length∧List.take (x77.toNat) l0=List.take (x77.toNat) l1)∧Ob (l0.length-x77.toNat<l0.length-x6.toNat))))∧(¬x6<x7→Ob (R [vb true])))
theorem Aij:Afp:=by
  delta Afp
  simp only [Ac,and_imp,true_and,and_true,List.cons.injEq,DV.c.injEq,DV.a.injEq,D.raw.injEq,D.fs.injEq,Value.bool.injEq,Value.int.injEq]
  repeat' first | assumption | exact DShs.tail (Aa (by assumption) (by assumption)) | exact shp32 (by assumption) | exact shp64 (by assumption) | exact shp2 (by assumption) | exact shpF (by assumption) | with_reducible intro _ | with_reducible apply And.intro
  all_goals (try (have e:=Ae ‹_=w64 (_+1)› (by omega) (by omega);subst e))
  all_goals (try simp only [eqD] at *)
  all_goals first
    | assumption
    | omega
    | exact shpF (by assumption)
    | exact Aa (by assumption) (by assumption)
    | exact DShs.tail (Aa (by assumption) (by assumption))
    | (apply ‹∀ res:List DV,_=_→_›;simp;grind [El,Dc])
    | (rw [Ao (by omega) (by assumption),Ao (by omega) (by assumption)];grind)
    | grind
    | skip
theorem Aoq:Con TP k0 39 Alf:=Ad [(128,Xp)] [(39000,0,some ⟨[0,1],[5],[],[kn],[],fun ρ ds=>0≤ni ds 0∧(ρ.d 0).length=(ρ.d 1).length∧ni ds 0≤(ρ.d 0).length∧(ρ.d 0).take (ni ds 0).toNat=(ρ.d 1).take (ni ds 0).toNat,fun ρ ds=>(ρ.d 0).length-(ni ds 0).toNat,none⟩)] [] [(128,Yy)] 3000 ⟨Sp,trivial⟩ ⟨fnq rfl rfl,trivial⟩ Go.Proofs.Tryz.func39 rfl rfl rfl rfl Afp (by kernel_rfl) Aij
end Go.Vc

namespace Go.Vc
open Classical
def Ahk (aa:List DV):List DV:=[vb (decide (li aa 0=li aa 1))]
def Agb:ConT:=⟨[kl,kl],[kb],fun aa=>LSh pairS (li aa 0)∧LSh pairS (li aa 1),fun aa rs=>rs=Ahk aa⟩
def Aai:Prop:=∀ (l0 l1:LL),Ob (LSh pairS l0∧LSh pairS l1)→∀ (R:List DV→Prop),let N2:=(R [vb false]);Ob (∀ (res:List DV),res=[vb (decide (l0=l1))]→R res)→∀ x3:Int,x3=l0.length→∀ x4:Int,x4=l1.length→(x3≠x4→Ob N2)∧(¬x3≠x4→Ob ((0:Int)≤(0:Int)∧l0.length=l1.length∧(0:Int)≤(l0.length:Int)∧List.take (Int.toNat (0:Int)) l0=List.take (Int.toNat (0:Int)) l1)∧∀ (g5:NV) (x6:Int),let N1:=(0≤x6∧x6<l1.length);let N0:=(0≤x6∧x6<l0.length);Ob (0≤x6∧l0.length=l1.length∧x6≤l0.length∧List.take (x6.toNat) l0=List.take (x6.toNat) l1)→∀ x7:Int,x7=l0.length→(x6<x7→Ob N0∧Ob (Shp kP l0)∧∀ x8 x9,Ob (l0[x6.toNat]?=some [dn x8,dn x9])→Ob N1∧Ob (Shp kP l1)∧∀ x10 x11,Ob (l1[x6.toNat]?=some [dn x10,dn x11])→(x8≠x10→Ob N2)∧(¬x8≠x10→Ob N0∧Ob (Shp kP l0)∧∀ x12 x13,Ob (l0[x6.toNat]?=some [dn x12,dn x13])→Ob N1∧Ob (Shp kP l1)∧∀ x14 x15,Ob (l1[x6.toNat]?=some [dn x14,dn x15])→(x13≠x15→Ob N2)∧(¬x13≠x15→∀ x16:Int,x16=w64 (x6+1)→Ob (0≤x16∧l0.length=l1.length∧x16≤l0.length∧List.take (x16.toNat) l0=List.take (x16.toNat) l1)∧Ob (l0.length-x16.toNat<l0.length-x6.toNat))))∧(¬x6<x7→Ob (R [vb true])))
theorem Adg:Aai:=by
  delta Aai
  simp only [Ac,and_imp,true_and,and_true,List.cons.injEq,DV.c.injEq,DV.a.injEq,D.raw.injEq,D.fs.injEq,Value.bool.injEq,Value.int.injEq]
  repeat' first | assumption | exact DShs.tail (Aa (by assumption) (by assumption)) | exact shp32 (by assumption) | exact shp64 (by assumption) | exact shp2 (by assumption) | exact shpF (by assumption) | with_reducible intro _ | with_reducible apply And.intro
  all_goals (try (have e:=Ae ‹_=w64 (_+1)› (by omega) (by omega);subst e))
  all_goals first
    | assumption
    | omega
    | exact shp2 (by assumption)
    | exact Aa (by assumption) (by assumption)
    | exact DShs.tail (Aa (by assumption) (by assumption))
    | (apply ‹∀ res:List DV,_=_→_›;simp;grind [El,Dc])
    | (rw [Ao (by omega) (by assumption),Ao (by omega) (by assumption)];grind)
    | grind
    | skip
theorem Ajt:Con TP k0 131 Agb:=Ad [] [(131000,0,some ⟨[0,1],[5],[],[kn],[],fun ρ ds=>0≤ni ds 0∧(ρ.d 0).length=(ρ.d 1).length∧ni ds 0≤(ρ.d 0).length∧(ρ.d 0).take (ni ds 0).toNat=(ρ.d 1).take (ni ds 0).toNat,fun ρ ds=>(ρ.d 0).length-(ni ds 0).toNat,none⟩)] [] [] 3000 trivial trivial Go.Proofs.Tryz.func131 rfl rfl rfl rfl Aai (by kernel_rfl) Adg
end Go.Vc

namespace Go.Vc
open Classical
def Anp (aa:List DV):List DV:=[vb (decide (eqD (ai aa 0) (ai aa 1)))]
def Alg:ConT:=⟨[rkS nodeS,rkS nodeS],[kb],fun aa=>DShs nodeS (ai aa 0)∧DShs nodeS (ai aa 1),fun aa rs=>rs=Anp aa⟩
def Afr:Prop:=∀ (x0 x1:Int) (b2:Bool) (x3 x4 x5 x6 x7:Int) (b8:Bool) (l9:LL) (x10:Int) (b11:Bool) (l12:LL) (x13:Int) (b14:Bool) (l15:LL) (x16:Int) (b17:Bool) (l18:LL) (x19:Int) (b20:Bool) (x21 x22:Int) (l23:LL) (b24:Bool) (x25 x26:Int) (l27:LL) (x28 x29:Int) (l30 l31 l32:LL) (x33 x34:Int) (b35:Bool) (x36 x37 x38 x39 x40:Int) (b41:Bool) (l42:LL) (x43:Int) (b44:Bool) (l45:LL) (x46:Int) (b47:Bool) (l48:LL) (x49:Int) (b50:Bool) (l51:LL) (x52:Int) (b53:Bool) (x54 x55:Int) (l56:LL) (b57:Bool) (x58 x59:Int) (l60:LL) (x61 x62:Int) (l63 l64 l65:LL),let N8:=[dn x61,dn x62,D.fs l63];let N7:=[dn x28,dn x29,D.fs l30];let N6:=(b24=b57∧x25=x58∧x26=x59);let N5:=(x3=x36∧x4=x37∧x5=x38∧x6=x39∧x7=x40);let N3:=[db b8,D.fs l9,dn x10,db b11,D.fs l12,dn x13,db b14,D.fs l15,dn x16,db b17,D.fs l18,dn x19,db b20,dn x21,dn x22,D.fs l23];let N2:=[db b41,D.fs l42,dn x43,db b44,D.fs l45,dn x46,db b47,D.fs l48,dn x49,db b50,D.fs l51,dn x52,db b53,dn x54,dn x55,D.fs l56];let N1:=[dn x0,dn x1,db b2,dn x3,dn x4,dn x5,dn x6,dn x7,db b8,D.fs l9,dn x10,db b11,D.fs l12,dn x13,db b14,D.fs l15,dn x16,db b17,D.fs l18,dn x19,db b20,dn x21,dn x22,D.fs l23,db b24,dn x25,dn x26,D.fs l27,dn x28,dn x29,D.fs l30,D.fs l31,D.fs l32];let N0:=[dn x33,dn x34,db b35,dn x36,dn x37,dn x38,dn x39,dn x40,db b41,D.fs l42,dn x43,db b44,D.fs l45,dn x46,db b47,D.fs l48,dn x49,db b50,D.fs l51,dn x52,db b53,dn x54,dn x55,D.fs l56,db b57,dn x58,dn x59,D.fs l60,dn x61,dn x62,D.fs l63,D.fs l64,D.fs l65];Ob (DShs nodeS N1∧DShs nodeS N0)→∀ (R:List DV→Prop),let N4:=(R [vb false]);Ob (∀ (res:List DV),res=[vb (decide (eqD N1 N0))]→R res)→(x0≠x33→Ob N4)∧(¬x0≠x33→(x1≠x34→Ob N4)∧(¬x1≠x34→(b2≠b35→Ob N4)∧(¬b2≠b35→(¬N5→Ob N4)∧(¬¬N5→(¬N6→Ob N4)∧(¬¬N6→Ob (DShs partS N3∧DShs partS N2)∧∀ b67,Ob ([vb b67]=[vb (decide (eqD N3 N2))])→(b67=true→Ob (LSh [s64] l27∧LSh [s64] l60)∧∀ b68,Ob ([vb b68]=[vb (decide (l27=l60))])→(b68=true→Ob (DShs cacheS N7∧DShs cacheS N8)∧∀ b69,Ob ([vb b69]=[vb (decide (N7=N8))])→(b69=true→Ob (LSh frozS l31∧LSh frozS l64)∧∀ b70,Ob ([vb b70]=[vb (decide (l31=l64))])→(b70=true→Ob (LSh pairS l32∧LSh pairS l65)∧∀ b71,Ob ([vb b71]=[vb (decide (l32=l65))])→Ob (R [vb b71]))∧(b70=false→Ob N4))∧(b69=false→Ob N4))∧(b68=false→Ob N4))∧(b67=false→Ob N4))))))
theorem Ail:Afr:=by
  delta Afr
  simp only [Ac,and_imp,List.cons_append,List.nil_append,Ab,Af,Ai,Ah,Ak,rng64,rng32,true_and,and_true,List.cons.injEq,DV.c.injEq,DV.a.injEq,D.raw.injEq,D.fs.injEq,Value.bool.injEq,Value.int.injEq]
  repeat' first | assumption | exact DShs.tail (Aa (by assumption) (by assumption)) | exact shp32 (by assumption) | exact shp64 (by assumption) | exact shp2 (by assumption) | exact shpF (by assumption) | with_reducible intro _ | with_reducible apply And.intro
  all_goals first
    | assumption
    | omega
    | (apply ‹∀ res:List DV,_=_→_›;simp_all [eqD])
    | grind
theorem Aor:Con TP k0 38 Alg:=Ad [(128,Xp),(129,Alj),(130,Agc),(39,Alf),(131,Agb)] [] [] [(128,Yy),(129,Ant),(130,Ahl),(39,Ano),(131,Ahk)] 3000 ⟨Sp,Aou,Aju,Aoq,Ajt,trivial⟩ ⟨fnq rfl rfl,fnq rfl rfl,fnq rfl rfl,fnq rfl rfl,fnq rfl rfl,trivial⟩ Go.Proofs.Tryz.func38 rfl rfl rfl rfl Afr (by kernel_rfl) Ail
end Go.Vc

namespace Go.Vc
open Classical
def Anf (aa:List DV):List DV:=[.a (downC (ni aa 0))]
def Ak6:ConT:=⟨[kn],[rkS nodeS],fun aa=>True,fun aa rs=>rs=Anf aa⟩
def Afe:Prop:=∀ x0,let N0:=[DV.a [dn x0,dn 0,db false,dn 0,dn 0,dn 0,dn 0,dn 0,db false,D.fs [],dn 0,db false,D.fs [],dn 0,db false,D.fs [],dn 0,db false,D.fs [],dn 0,db false,dn 0,dn 0,D.fs [],db false,dn 0,dn 0,D.fs [],dn 0,dn 0,D.fs [],D.fs [],D.fs []]];Ob True→∀ (R:List DV→Prop),Ob (∀ (res:List DV),res=N0→R res)→Ob (R N0)
theorem Ah8:Afe:=by
  delta Afe
  simp only [Ac,and_imp,forall_exists_index,true_and,and_true,List.cons.injEq,DV.c.injEq,DV.a.injEq,D.raw.injEq,D.fs.injEq,Value.bool.injEq,Value.int.injEq]
  repeat' first | assumption | exact DShs.tail (Aa (by assumption) (by assumption)) | exact shp32 (by assumption) | exact shp64 (by assumption) | exact shp2 (by assumption) | exact shpF (by assumption) | with_reducible intro _ | with_reducible apply And.intro
  all_goals first
    | assumption
    | omega
    | ((have hR:=‹∀ res:List DV,_=_→_›;refine hR _ ?_;rfl))
theorem Aof:Con TP k0 90 Ak6:=Ad [] [] [] [] 3000 trivial trivial Go.Proofs.Tryz.func90 rfl rfl rfl rfl Afe (by kernel_rfl) Ah8
end Go.Vc

namespace Go.Vc
open Classical
def Wc (aa:List DV):List DV:=[vb (decide (Kg (ai aa 0)))]
def Uz:ConT:=⟨[rkS nodeS],[kb],fun aa=>DShs nodeS (ai aa 0),fun aa rs=>rs=Wc aa⟩
def Mk:Prop:=∀ x0 x1 b2 x3 x4 x5 x6 x7 b8 l9 x10 b11 l12 x13 b14 l15 x16 b17 l18 x19 b20 x21 x22 l23 b24 x25 x26 l27 x28 x29 l30 l31 l32,let N0:=[dn x0,dn x1,db b2,dn x3,dn x4,dn x5,dn x6,dn x7,db b8,D.fs l9,dn x10,db b11,D.fs l12,dn x13,db b14,D.fs l15,dn x16,db b17,D.fs l18,dn x19,db b20,dn x21,dn x22,D.fs l23,db b24,dn x25,dn x26,D.fs l27,dn x28,dn x29,D.fs l30,D.fs l31,D.fs l32];Ob (DShs nodeS N0)→∀ (R:List DV→Prop),let N1:=(R [vb false]);Ob (∀ (res:List DV),res=[vb (decide (Kg N0))]→R res)→(b24=false→(x25=0→(x26=0→Ob (R [vb true]))∧(¬x26=0→Ob N1))∧(¬x25=0→Ob N1))∧(¬b24=false→(x25≥0→(x25≤1048575→(x26≥0→(x26<8→(x26≠x0→(x6≥x7→Ob (R [vb true]))∧(¬x6≥x7→Ob N1))∧(¬x26≠x0→Ob N1))∧(¬x26<8→Ob N1))∧(¬x26≥0→Ob N1))∧(¬x25≤1048575→Ob N1))∧(¬x25≥0→Ob N1))
theorem Xb:Mk:=by
  delta Mk
  simp only [Ac,and_imp,forall_exists_index,true_and,and_true,List.cons.injEq,DV.c.injEq,DV.a.injEq,D.raw.injEq,D.fs.injEq,Value.bool.injEq,Value.int.injEq]
  intro x0 x1 b2 x3 x4 x5 x6 x7 b8 l9 x10 b11 l12 x13 b14 l15 x16 b17 l18 x19 b20 x21 x22 l23 b24 x25 x26 l27 x28 x29 l30 l31 l32 hs R hR
  repeat' first | assumption | exact DShs.tail (Aa (by assumption) (by assumption)) | exact shp32 (by assumption) | exact shp64 (by assumption) | exact shp2 (by assumption) | exact shpF (by assumption) | with_reducible intro _ | with_reducible apply And.intro
  all_goals first
    | assumption
    | omega
    | (refine hR _ ?_;simp [Kg,takesC,gB,gI];omega)
    | (refine hR _ ?_;simp_all [Kg,takesC,gB,gI];done)
    | (refine hR _ ?_;simp_all [Kg,takesC,gB,gI];omega)
    | skip
theorem Acq:Con TP k0 194 Uz:=Ad [] [] [] [] 3000 trivial trivial Go.Proofs.Tryz.func194 rfl rfl rfl rfl Mk (by kernel_rfl) Xb
end Go.Vc

namespace Go.Vc
open Classical
def Wb (aa:List DV):List DV:=[vb (decide (Au (ai aa 0)))]
def Uy:ConT:=⟨[rkS nodeS],[kb],fun aa=>DShs nodeS (ai aa 0),fun aa rs=>rs=Wb aa⟩
def Mj:Prop:=let N4:=[db false,D.fs [],dn 0,db false,D.fs [],dn 0,db false,D.fs [],dn 0,db false,D.fs [],dn 0,db false,dn 0,dn 0,D.fs []];∀ x0 x1 b2 x3 x4 x5 x6 x7 b8 l9 x10 b11 l12 x13 b14 l15 x16 b17 l18 x19 b20 x21 x22 l23 b24 x25 x26 l27 x28 x29 l30 l31 l32,let N6:=[dn x3,dn x4,dn x5,dn x6,dn x7];let N5:=[dn x28,dn x29,D.fs l30];let N9:=[vb (decide (Aq N5))];let N2:=[dn x0,dn 0,db false,dn 0,dn 0,dn 0,dn 0,dn 0,db false,D.fs [],dn 0,db false,D.fs [],dn 0,db false,D.fs [],dn 0,db false,D.fs [],dn 0,db false,dn 0,dn 0,D.fs [],db false,dn 0,dn 0,D.fs [],dn 0,dn 0,D.fs [],D.fs [],D.fs []];let N1:=[db b8,D.fs l9,dn x10,db b11,D.fs l12,dn x13,db b14,D.fs l15,dn x16,db b17,D.fs l18,dn x19,db b20,dn x21,dn x22,D.fs l23];let N0:=[dn x0,dn x1,db b2,dn x3,dn x4,dn x5,dn x6,dn x7,db b8,D.fs l9,dn x10,db b11,D.fs l12,dn x13,db b14,D.fs l15,dn x16,db b17,D.fs l18,dn x19,db b20,dn x21,dn x22,D.fs l23,db b24,dn x25,dn x26,D.fs l27,dn x28,dn x29,D.fs l30,D.fs l31,D.fs l32];let N10:=[vb (decide (Kg N0))];let N8:=(DShs nodeS N0);Ob N8→∀ (R:List DV→Prop),let N7:=(R [vb true]);let N3:=(R [vb false]);Ob (∀ (res:List DV),res=[vb (decide (Au N0))]→R res)→(x0<0→Ob N3)∧(¬x0<0→(x0≥8→Ob N3)∧(¬x0≥8→(b2=false→Ob True∧Ob (DShs nodeS N0∧DShs nodeS N2)∧∀ b34,Ob ([vb b34]=[vb (decide (eqD N0 N2))])→Ob (R [vb b34]))∧(¬b2=false→(x1≥-2147483647→(x1≤2147483647→Ob (DShs clockS N6)∧∀ b35,Ob ([vb b35]=[vb (decide (Dg N6))])→(b35=false→Ob N3)∧(¬b35=false→Ob (DShs partS N1)∧∀ b36,Ob ([vb b36]=[vb (decide (Bp N1))])→(b36=false→Ob N3)∧(¬b36=false→(x6≥x7→Ob N8∧∀ b37,Ob ([vb b37]=N10)→(b37=false→Ob N3)∧(¬b37=false→Ob (LSh [s64] l27)∧∀ x38,Ob ([vn x38]=[vn (Bn l27)])→(x38≠0→Ob N3)∧(¬x38≠0→Ob (DShs cacheS N5)∧∀ b39,Ob ([vb b39]=N9)→(b39=false→Ob N3)∧(¬b39=false→(x28≠x0→Ob N3)∧(¬x28≠x0→Ob (LSh pairS l32)∧∀ x40,Ob ([vn x40]=[vn (Bh l32)])→(x40≠0→Ob N3)∧(¬x40≠0→Ob (LSh frozS l31)∧∀ x41,Ob ([vn x41]=[vn (Be l31)])→(x41≠0→Ob N3)∧(¬x41≠0→∀ x42:Int,x42=l31.length→(x42=0→Ob N7)∧(¬x42=0→∀ x43:Int,x43=l31.length→∀ x44:Int,x44=w64 (x43-1)→Ob (0≤x44∧x44<l31.length)∧Ob (Shp kF l31)∧∀ x45 b46 l47 x48 b49 l50 x51 b52 l53 x54 b55 l56 x57 b58 x59 x60 l61,Ob (l31[x44.toNat]?=some [dn x45,db b46,D.fs l47,dn x48,db b49,D.fs l50,dn x51,db b52,D.fs l53,dn x54,db b55,D.fs l56,dn x57,db b58,dn x59,dn x60,D.fs l61])→(x45<x6→Ob N7)∧(¬x45<x6→Ob N3)))))))))∧(¬x6≥x7→Ob (DShs partS N1∧DShs partS N4)∧∀ b62,Ob ([vb b62]=[vb (decide (eqD N1 N4))])→(b62=false→Ob N3)∧(¬b62=false→Ob N8∧∀ b63,Ob ([vb b63]=N10)→(b63=false→Ob N3)∧(¬b63=false→Ob (LSh [s64] l27)∧∀ x64,Ob ([vn x64]=[vn (Bn l27)])→(x64≠0→Ob N3)∧(¬x64≠0→Ob (DShs cacheS N5)∧∀ b65,Ob ([vb b65]=N9)→(b65=false→Ob N3)∧(¬b65=false→(x28≠x0→Ob N3)∧(¬x28≠x0→Ob (LSh pairS l32)∧∀ x66,Ob ([vn x66]=[vn (Bh l32)])→(x66≠0→Ob N3)∧(¬x66≠0→Ob (LSh frozS l31)∧∀ x67,Ob ([vn x67]=[vn (Be l31)])→(x67≠0→Ob N3)∧(¬x67≠0→∀ x68:Int,x68=l31.length→(x68=0→Ob N7)∧(¬x68=0→∀ x69:Int,x69=l31.length→∀ x70:Int,x70=w64 (x69-1)→Ob (0≤x70∧x70<l31.length)∧Ob (Shp kF l31)∧∀ x71 b72 l73 x74 b75 l76 x77 b78 l79 x80 b81 l82 x83 b84 x85 x86 l87,Ob (l31[x70.toNat]?=some [dn x71,db b72,D.fs l73,dn x74,db b75,D.fs l76,dn x77,db b78,D.fs l79,dn x80,db b81,D.fs l82,dn x83,db b84,dn x85,dn x86,D.fs l87])→(x71<x6→Ob N7)∧(¬x71<x6→Ob N3)))))))))))))∧(¬x1≤2147483647→Ob N3))∧(¬x1≥-2147483647→Ob N3))))
theorem Xa:Mj:=by
  delta Mj
  simp only [Ac,and_imp,forall_exists_index,true_and,and_true,List.cons.injEq,DV.c.injEq,DV.a.injEq,D.raw.injEq,D.fs.injEq,Value.bool.injEq,Value.int.injEq]
  intro x0 x1 b2 x3 x4 x5 x6 x7 b8 l9 x10 b11 l12 x13 b14 l15 x16 b17 l18 x19 b20 x21 x22 l23 b24 x25 x26 l27 x28 x29 l30 l31 l32 hs R hR
  have hs2:=hs
  simp only [Ab,Af,Ai,Ah,Ak,rng64,rng32,true_and,and_true] at hs2
  obtain ⟨h1,h2,h3,h4,h5,h6⟩:=Dw hs
  repeat' first | assumption | exact DShs.tail (Aa (by assumption) (by assumption)) | exact shp32 (by assumption) | exact shp64 (by assumption) | exact shp2 (by assumption) | exact shpF (by assumption) | with_reducible intro _ | with_reducible apply And.intro
  all_goals (try (have e:=Fk ‹_=w64 (_-1)› (by omega) (by omega);subst e))
  all_goals first
    | assumption
    | omega
    | exact h3.1
    | exact h3.2
    | exact h5.1
    | exact h5.2
    | exact h6.1
    | exact h6.2
    | exact shpF h5.2
    | exact (Avt (by omega) (by omega)).1
    | exact Ay2
    | exact hR _ (Azq (by assumption))
    | exact hR _ (Axj (by assumption))
    | exact hR _ (Axk (by assumption) (by assumption) (by assumption) (by assumption))
    | exact hR _ (Axk (by assumption) (by assumption) (by assumption) rfl)
    | exact hR _ (Azo (by assumption) (by assumption))
    | exact hR _ (Azn (by assumption) (by assumption))
    | exact hR _ (Azr (by assumption) (by assumption) (by assumption))
    | exact hR _ (Azp (by assumption) (by assumption) (by assumption))
    | exact hR _ (A1b (by assumption) (by assumption) (by assumption) (by assumption))
    | exact hR _ (A1c (by assumption) (by assumption) (by assumption))
    | exact hR _ (A1e (by assumption) (by assumption) (by assumption))
    | exact hR _ (A1d (by assumption) (by assumption) (by assumption))
    | exact hR _ (A1g (by assumption) (by assumption))
    | exact hR _ (A1f (by assumption) (by assumption) (by assumption))
    | exact hR _ (A1i (by assumption) (by assumption) (by assumption))
    | exact hR _ (A1h (by assumption) (by assumption) (by assumption) (by assumption) (by assumption) (by assumption))
    | exact hR _ (Ay0 (by assumption) (Axr (by assumption) (by assumption)) (by assumption) (by assumption) (by assumption) (by assumption) (by assumption) (by assumption) (by assumption) (by assumption) (.inl (by assumption)) (by assumption) (by assumption) (by assumption) (by assumption) (by assumption) (by assumption) (by assumption) (by assumption) (by assumption) (by assumption) (by assumption))
    | exact hR _ (Ay0 (by assumption) (Axr (by assumption) (by assumption)) (by assumption) (by assumption) (by assumption) (by assumption) (by assumption) (by assumption) (by assumption) (by assumption) (Awl (by assumption) (by assumption)) (by assumption) (by assumption) (by assumption) (by assumption) (by assumption) (by assumption) (by assumption) (by assumption) (by assumption) (by assumption) (by assumption))
    | exact hR _ (Ay0 (by assumption) (Axs (by assumption) (by assumption) (by assumption)) (by assumption) (by assumption) (by assumption) (by assumption) (by assumption) (by assumption) (by assumption) (by assumption) (.inl (by assumption)) (by assumption) (by assumption) (by assumption) (by assumption) (by assumption) (by assumption) (by assumption) (by assumption) (by assumption) (by assumption) (by assumption))
    | exact hR _ (Ay0 (by assumption) (Axs (by assumption) (by assumption) (by assumption)) (by assumption) (by assumption) (by assumption) (by assumption) (by assumption) (by assumption) (by assumption) (by assumption) (Awl (by assumption) (by assumption)) (by assumption) (by assumption) (by assumption) (by assumption) (by assumption) (by assumption) (by assumption) (by assumption) (by assumption) (by assumption) (by assumption))
    | skip
theorem Acp:Con TP k0 118 Uy:=Ad [(181,Qa),(193,Ln),(128,Xp),(195,Mz),(196,Qb),(197,Js),(198,Na),(38,Alg),(90,Ak6),(194,Uz)] [] [] [(181,Rs),(193,Ly),(128,Yy),(195,Nq),(196,Rt),(197,Kp),(198,Nr),(38,Anp),(90,Anf),(194,Wc)] 3000 ⟨Zj,Nz,Sp,Ul,Zk,Si,Um,Aor,Aof,Acq,trivial⟩ ⟨fnq rfl rfl,fnq rfl rfl,fnq rfl rfl,fnq rfl rfl,fnq rfl rfl,fnq rfl rfl,fnq rfl rfl,fnq rfl rfl,fnq rfl rfl,fnq rfl rfl,trivial⟩ Go.Proofs.Tryz.func118 rfl rfl rfl rfl Mj (by kernel_rfl) Xa
end Go.Vc
