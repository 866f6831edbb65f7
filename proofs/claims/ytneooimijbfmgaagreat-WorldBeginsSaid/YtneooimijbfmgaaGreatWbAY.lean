import Derived.Test.YtneooimijbfmgaaGreatProg
import Derived.KernelRfl
import Derived.Test.YtneooimijbfmgaaGreatWbAR
import Derived.Test.YtneooimijbfmgaaGreatWbAT
set_option linter.unusedVariables false
set_option linter.unusedSimpArgs false
set_option linter.unusedSectionVars false
noncomputable section
namespace Go.Vc
open Classical
def f_rOthF (aa:List DV):List DV:=[vl (fltD (ni aa 1) (li aa 0))]
def t_rOthF:ConT:=⟨[kl,kn],[kl],fun aa=>LSh pairS (li aa 0)∧(li aa 0).length≤1000000,fun aa rs=>rs=f_rOthF aa⟩
theorem fn_rOthF:∀ aa,t_rOthF.pre aa→∀ rs,t_rOthF.post aa rs→rs=f_rOthF aa:=fun _ _ _ h=>h
def V_rOthF:Prop:=∀ (l0:LL) (x1:Int),Ob (LSh pairS l0∧List.length l0≤(1000000:Nat))→∀ (R:List DV→Prop),Ob (∀ (res:List DV),res=[vl (fltD x1 l0)]→R res)→Ob ((0:Int)≤(0:Int)∧(0:Int)≤(↑(List.length l0):Int)∧fltI x1 l0 [] (0:Int))∧∀ (g3:Nat→Value) (x4:Int) (l5:LL),Ob ((0:Int)≤x4∧x4≤(↑(List.length l0):Int)∧fltI x1 l0 l5 x4)→∀ (x6:Int),x6=(↑(List.length l0):Int)→(x4<x6→Ob ((0:Int)≤x4∧x4<(↑(List.length l0):Int))∧Ob (Shp [Kd.int IntKind.i64,Kd.int IntKind.i64] l0)∧∀ (x7 x8:Int),Ob (l0[Int.toNat x4]?=some [dn x7,dn x8])→(x7≠x1→Ob ((0:Int)≤x4∧x4<(↑(List.length l0):Int))∧Ob (Shp [Kd.int IntKind.i64,Kd.int IntKind.i64] l0)∧∀ (x9 x10:Int),Ob (l0[Int.toNat x4]?=some [dn x9,dn x10])→Ob (List.length l5+List.length [[dn x9,dn x10]]≤(1048576:Nat))∧∀ (l11:LL),l11=l5++[[dn x9,dn x10]]→∀ (x12:Int),x12=w64 (x4+(1:Int))→Ob ((0:Int)≤x12∧x12≤(↑(List.length l0):Int)∧fltI x1 l0 l11 x12)∧Ob (List.length l0-Int.toNat x12<List.length l0-Int.toNat x4))∧(¬x7≠x1→∀ (x13:Int),x13=w64 (x4+(1:Int))→Ob ((0:Int)≤x13∧x13≤(↑(List.length l0):Int)∧fltI x1 l0 l5 x13)∧Ob (List.length l0-Int.toNat x13<List.length l0-Int.toNat x4)))∧(¬x4<x6→Ob (R [vl l5]))
set_option maxRecDepth 100000 in
theorem vcEq_rOthF:vcFn Go.Proofs.Tryz.prog k0 (cxf [] [(184000,0,some ⟨[0,1],[6],[],[kn],[⟨5,118,2,true, .tmp⟩],fun ρ ds=>0≤ni ds 0∧ni ds 0≤(ρ.d 0).length∧fltI (ρ.n 1) (ρ.d 0) (li ds 1) (ni ds 0),fun ρ ds=>((ρ.d 0).length-(ni ds 0).toNat),none⟩)] [] []) 3000 184 Go.Proofs.Tryz.f184 (bodyOf Go.Proofs.Tryz.f184) t_rOthF=V_rOthF:=by kernel_rfl
set_option maxHeartbeats 4000000 in
set_option maxRecDepth 20000 in
theorem vcPf_rOthF:V_rOthF:=by
  delta V_rOthF
  simp only [ob_iff,and_imp,forall_exists_index,true_and,and_true,List.cons.injEq,DV.c.injEq,DV.a.injEq,D.raw.injEq,D.fs.injEq,Value.bool.injEq,Value.int.injEq]
  intro l0 x1 hl hs h20 R hR
  repeat' first | assumption | exact DShs.tail (DSh_nth (by assumption) (by assumption)) | exact shp32 (by assumption) | exact shp64 (by assumption) | exact shp2 (by assumption) | exact shpF (by assumption) | with_reducible intro _ | with_reducible apply And.intro
  all_goals (try (have q1:=(‹fltI _ l0 _ _›).len))
  all_goals (try (have e:=w64_succ ‹_=w64 (_+1)› (by omega) (by omega);subst e))
  all_goals first
    | assumption
    | omega
    | exact shp2 (by assumption)
    | exact LS.rect (by assumption)
    | exact fltI.zero
    | exact hR _ (flt_fin (by assumption) (by omega) (by omega))
    | exact flt_put (by assumption) (by assumption) (by assumption) (by assumption) (by assumption) (by assumption)
    | exact (‹fltI _ l0 _ _›).no (by assumption) (by assumption) (by omega)
    | (simp only [List.length_append,List.length_cons,List.length_nil] at *;omega)
    | skip
theorem con_rOthF:Con Go.Proofs.Tryz.prog k0 184 t_rOthF :=
  con_of (cxf_ok mixOk (fun p hp=>by cases hp) (fun p hp=>by cases hp)) Go.Proofs.Tryz.func184 rfl rfl rfl rfl vcEq_rOthF vcPf_rOthF
end Go.Vc

namespace Go.Vc
open Classical
def f_rSorted (aa:List DV):List DV:=[vl (srtD (li aa 0))]
def t_rSorted:ConT:=⟨[kl],[kl],fun aa=>LSh pairS (li aa 0)∧(li aa 0).length≤1000000,fun aa rs=>rs=f_rSorted aa⟩
theorem fn_rSorted:∀ aa,t_rSorted.pre aa→∀ rs,t_rSorted.post aa rs→rs=f_rSorted aa:=fun _ _ _ h=>h
def V_rSorted:Prop:=∀ (l0:LL),Ob (LSh pairS l0∧List.length l0≤(1000000:Nat))→∀ (R:List DV→Prop),Ob (∀ (res:List DV),res=[vl (srtD l0)]→R res)→Ob ((0:Int)≤(0:Int)∧(0:Int)≤(↑(List.length l0):Int)∧srtI l0 [] (0:Int))∧∀ (g2:Nat→Value) (x3:Int) (l4:LL),Ob ((0:Int)≤x3∧x3≤(↑(List.length l0):Int)∧srtI l0 l4 x3)→∀ (x5:Int),x5=(↑(List.length l0):Int)→(x3<x5→Ob ((0:Int)≤(0:Int)∧(0:Int)≤(↑(List.length l4):Int)∧srtK l0 l4 x3 (0:Int))∧∀ (g6:Nat→Value) (x7:Int),Ob ((0:Int)≤x7∧x7≤(↑(List.length l4):Int)∧srtK l0 l4 x3 x7)→∀ (x8:Int),x8=(↑(List.length l4):Int)→(x7<x8→Ob ((0:Int)≤x3∧x3<(↑(List.length l0):Int))∧Ob (Shp [Kd.int IntKind.i64,Kd.int IntKind.i64] l0)∧∀ (x9 x10:Int),Ob (l0[Int.toNat x3]?=some [dn x9,dn x10])→Ob ((0:Int)≤x7∧x7<(↑(List.length l4):Int))∧Ob (Shp [Kd.int IntKind.i64,Kd.int IntKind.i64] l4)∧∀ (x11 x12:Int),Ob (l4[Int.toNat x7]?=some [dn x11,dn x12])→(x10>x12→Ob ((0:Int)≤(0:Int)∧(0:Int)≤x7∧x7≤(↑(List.length l4):Int)∧(↑(List.length l4):Int)≤(↑(List.length l4):Int)∧Rect (2) l4)∧∀ (l13:LL),l13=List.take (Int.toNat x7-Int.toNat (0:Int)) (List.drop (Int.toNat (0:Int)) l4)→Ob (Shp [Kd.int IntKind.i64,Kd.int IntKind.i64] l13∧List.length l13≤(1048576:Nat))∧∀ (l14:LL),l14=l13→Ob ((0:Int)≤x3∧x3<(↑(List.length l0):Int))∧Ob (Shp [Kd.int IntKind.i64,Kd.int IntKind.i64] l0)∧∀ (x15 x16:Int),Ob (l0[Int.toNat x3]?=some [dn x15,dn x16])→Ob ((0:Int)≤x7∧x7≤(↑(List.length l4):Int)∧(↑(List.length l4):Int)≤(↑(List.length l4):Int)∧(↑(List.length l4):Int)≤(↑(List.length l4):Int)∧Rect (2) l4)∧∀ (l17:LL),l17=List.take (Int.toNat (↑(List.length l4):Int)-Int.toNat x7) (List.drop (Int.toNat x7) l4)→Ob (List.length l14+List.length [[dn x15,dn x16]]≤(1048576:Nat))∧∀ (l18:LL),l18=l14++[[dn x15,dn x16]]→Ob (Shp [Kd.int IntKind.i64,Kd.int IntKind.i64] l17∧List.length l18+List.length l17≤(1048576:Nat))∧∀ (l19:LL),l19=l18++l17→∀ (x20:Int),x20=w64 (x3+(1:Int))→Ob ((0:Int)≤x20∧x20≤(↑(List.length l0):Int)∧srtI l0 l19 x20)∧Ob (List.length l0-Int.toNat x20<List.length l0-Int.toNat x3))∧(¬x10>x12→(x10=x12→(x9<x11→Ob ((0:Int)≤(0:Int)∧(0:Int)≤x7∧x7≤(↑(List.length l4):Int)∧(↑(List.length l4):Int)≤(↑(List.length l4):Int)∧Rect (2) l4)∧∀ (l21:LL),l21=List.take (Int.toNat x7-Int.toNat (0:Int)) (List.drop (Int.toNat (0:Int)) l4)→Ob (Shp [Kd.int IntKind.i64,Kd.int IntKind.i64] l21∧List.length l21≤(1048576:Nat))∧∀ (l22:LL),l22=l21→Ob ((0:Int)≤x3∧x3<(↑(List.length l0):Int))∧Ob (Shp [Kd.int IntKind.i64,Kd.int IntKind.i64] l0)∧∀ (x23 x24:Int),Ob (l0[Int.toNat x3]?=some [dn x23,dn x24])→Ob ((0:Int)≤x7∧x7≤(↑(List.length l4):Int)∧(↑(List.length l4):Int)≤(↑(List.length l4):Int)∧(↑(List.length l4):Int)≤(↑(List.length l4):Int)∧Rect (2) l4)∧∀ (l25:LL),l25=List.take (Int.toNat (↑(List.length l4):Int)-Int.toNat x7) (List.drop (Int.toNat x7) l4)→Ob (List.length l22+List.length [[dn x23,dn x24]]≤(1048576:Nat))∧∀ (l26:LL),l26=l22++[[dn x23,dn x24]]→Ob (Shp [Kd.int IntKind.i64,Kd.int IntKind.i64] l25∧List.length l26+List.length l25≤(1048576:Nat))∧∀ (l27:LL),l27=l26++l25→∀ (x28:Int),x28=w64 (x3+(1:Int))→Ob ((0:Int)≤x28∧x28≤(↑(List.length l0):Int)∧srtI l0 l27 x28)∧Ob (List.length l0-Int.toNat x28<List.length l0-Int.toNat x3))∧(¬x9<x11→∀ (x29:Int),x29=w64 (x7+(1:Int))→Ob ((0:Int)≤x29∧x29≤(↑(List.length l4):Int)∧srtK l0 l4 x3 x29)∧Ob (List.length l4-Int.toNat x29<List.length l4-Int.toNat x7)))∧(¬x10=x12→∀ (x30:Int),x30=w64 (x7+(1:Int))→Ob ((0:Int)≤x30∧x30≤(↑(List.length l4):Int)∧srtK l0 l4 x3 x30)∧Ob (List.length l4-Int.toNat x30<List.length l4-Int.toNat x7))))∧(¬x7<x8→Ob ((0:Int)≤(0:Int)∧(0:Int)≤x7∧x7≤(↑(List.length l4):Int)∧(↑(List.length l4):Int)≤(↑(List.length l4):Int)∧Rect (2) l4)∧∀ (l31:LL),l31=List.take (Int.toNat x7-Int.toNat (0:Int)) (List.drop (Int.toNat (0:Int)) l4)→Ob (Shp [Kd.int IntKind.i64,Kd.int IntKind.i64] l31∧List.length l31≤(1048576:Nat))∧∀ (l32:LL),l32=l31→Ob ((0:Int)≤x3∧x3<(↑(List.length l0):Int))∧Ob (Shp [Kd.int IntKind.i64,Kd.int IntKind.i64] l0)∧∀ (x33 x34:Int),Ob (l0[Int.toNat x3]?=some [dn x33,dn x34])→Ob ((0:Int)≤x7∧x7≤(↑(List.length l4):Int)∧(↑(List.length l4):Int)≤(↑(List.length l4):Int)∧(↑(List.length l4):Int)≤(↑(List.length l4):Int)∧Rect (2) l4)∧∀ (l35:LL),l35=List.take (Int.toNat (↑(List.length l4):Int)-Int.toNat x7) (List.drop (Int.toNat x7) l4)→Ob (List.length l32+List.length [[dn x33,dn x34]]≤(1048576:Nat))∧∀ (l36:LL),l36=l32++[[dn x33,dn x34]]→Ob (Shp [Kd.int IntKind.i64,Kd.int IntKind.i64] l35∧List.length l36+List.length l35≤(1048576:Nat))∧∀ (l37:LL),l37=l36++l35→∀ (x38:Int),x38=w64 (x3+(1:Int))→Ob ((0:Int)≤x38∧x38≤(↑(List.length l0):Int)∧srtI l0 l37 x38)∧Ob (List.length l0-Int.toNat x38<List.length l0-Int.toNat x3)))∧(¬x3<x5→Ob (R [vl l4]))
set_option maxRecDepth 100000 in
theorem vcEq_rSorted:vcFn Go.Proofs.Tryz.prog k0 (cxf [] [(183000,300008,some ⟨[0,1,2,3,4,5,6,7,8,9,11,12,13,10,14,15],[10,11,10,12,10,13],[],[],[],fun _ _=>True,fun _ _=>0,none⟩),(183000,0,some ⟨[0],[4,3],[],[kn,kl],[],fun ρ ds=>0≤ni ds 0∧ni ds 0≤(ρ.d 0).length∧srtI (ρ.d 0) (li ds 1) (ni ds 0),fun ρ ds=>((ρ.d 0).length-(ni ds 0).toNat),none⟩),(183000,2,some ⟨[0,3,4],[5],[],[kn],[],fun ρ ds=>0≤ni ds 0∧ni ds 0≤(ρ.d 2).length∧srtK (ρ.d 0) (ρ.d 2) (ρ.n 1) (ni ds 0),fun ρ ds=>((ρ.d 2).length-(ni ds 0).toNat),none⟩)] [] []) 3000 183 Go.Proofs.Tryz.f183 (bodyOf Go.Proofs.Tryz.f183) t_rSorted=V_rSorted:=by kernel_rfl
set_option maxHeartbeats 4000000 in
set_option maxRecDepth 20000 in
theorem vcPf_rSorted:V_rSorted:=by
  delta V_rSorted
  simp only [ob_iff,and_imp,forall_exists_index,true_and,and_true,List.cons.injEq,DV.c.injEq,DV.a.injEq,D.raw.injEq,D.fs.injEq,Value.bool.injEq,Value.int.injEq]
  intro l0 hl hs h20 R hR
  repeat' first | assumption | exact DShs.tail (DSh_nth (by assumption) (by assumption)) | exact shp32 (by assumption) | exact shp64 (by assumption) | exact shp2 (by assumption) | exact shpF (by assumption) | with_reducible intro _ | with_reducible apply And.intro
  all_goals (try (have q1:=(‹srtI l0 _ _›).len))
  all_goals (try (have q2:=(‹srtI l0 _ _›).ls hs))
  all_goals (try (have e:=w64_succ ‹_=w64 (_+1)› (by omega) (by omega);subst e))
  all_goals (try (have q3:=take_len2 ‹_=List.take _ (List.drop (Int.toNat 0) _)›))
  all_goals (try (have q4:=take_len2 (b:=Int.toNat _) (a:=Int.toNat ((List.length _:Nat):Int)-_) (by assumption)))
  all_goals first
    | assumption
    | omega
    | exact shp2 (by assumption)
    | exact LS.rect (by assumption)
    | exact srtI.zero
    | exact srtK.zero
    | exact srtK.step (by assumption) ‹l0[_]?=some _› (by assumption) (by assumption) (by omega)
    | exact hR _ (srt_fin (by assumption) (by omega))
    | exact shp2 (take_ls (by assumption) (by assumption))
    | exact srt_gt (srt_cat (by assumption) (by assumption) (by assumption) (by assumption) (by assumption)) (by assumption) (by assumption) hs ‹(_:Int)>_› (by assumption) (by assumption) (by assumption) (by assumption)
    | exact srt_eq (srt_cat (by assumption) (by assumption) (by assumption) (by assumption) (by assumption)) (by assumption) (by assumption) hs (by assumption) (by assumption) (by assumption) (by assumption) (by assumption) (by assumption)
    | exact srt_put1 (srt_cat (by assumption) (by assumption) (by assumption) (by assumption) (by assumption)) (by assumption) (by assumption) hs (by assumption) (by assumption) (by omega) (by assumption)
    | (subst_vars;simp only [List.length_take,List.length_drop,List.length_append,List.length_cons,List.length_nil] at *;omega)
    | skip
theorem con_rSorted:Con Go.Proofs.Tryz.prog k0 183 t_rSorted :=
  con_of (cxf_ok mixOk (fun p hp=>by cases hp) (fun p hp=>by cases hp)) Go.Proofs.Tryz.func183 rfl rfl rfl rfl vcEq_rSorted vcPf_rSorted
end Go.Vc

namespace Go.Vc
open Classical
def f_rFirsts (aa:List DV):List DV:=[vl (kpL (fstD (li aa 0)) (li aa 0) (li aa 0).length)]
def t_rFirsts:ConT:=⟨[kl],[kl],fun aa=>LSh pairS (li aa 0)∧(li aa 0).length≤1000000,fun aa rs=>rs=f_rFirsts aa⟩
theorem fn_rFirsts:∀ aa,t_rFirsts.pre aa→∀ rs,t_rFirsts.post aa rs→rs=f_rFirsts aa:=fun _ _ _ h=>h
def V_rFirsts:Prop:=∀ (l0:LL),Ob (LSh pairS l0∧List.length l0≤(1000000:Nat))→∀ (R:List DV→Prop),Ob (∀ (res:List DV),res=[vl (kpL (fstD l0) l0 (List.length l0))]→R res)→Ob ((0:Int)≤(0:Int)∧(0:Int)≤(↑(List.length l0):Int)∧fstI l0 [] (0:Int))∧∀ (g2:Nat→Value) (x3:Int) (l4:LL),Ob ((0:Int)≤x3∧x3≤(↑(List.length l0):Int)∧fstI l0 l4 x3)→∀ (x5:Int),x5=(↑(List.length l0):Int)→(x3<x5→Ob ((0:Int)≤(0:Int)∧(0:Int)≤x3∧wasK l0 (0:Int) x3 false)∧∀ (g6:Nat→Value) (x7:Int) (b8:Bool),Ob ((0:Int)≤x7∧x7≤x3∧wasK l0 x7 x3 b8)→(x7<x3→(b8=true→∀ (x9:Int),x9=w64 (x7+(1:Int))→Ob ((0:Int)≤x9∧x9≤x3∧wasK l0 x9 x3 true)∧Ob (Int.toNat x3-Int.toNat x9<Int.toNat x3-Int.toNat x7))∧(b8=false→Ob ((0:Int)≤x7∧x7<(↑(List.length l0):Int))∧Ob (Shp [Kd.int IntKind.i64,Kd.int IntKind.i64] l0)∧∀ (x10 x11:Int),Ob (l0[Int.toNat x7]?=some [dn x10,dn x11])→Ob ((0:Int)≤x3∧x3<(↑(List.length l0):Int))∧Ob (Shp [Kd.int IntKind.i64,Kd.int IntKind.i64] l0)∧∀ (x12 x13:Int),Ob (l0[Int.toNat x3]?=some [dn x12,dn x13])→(x10=x12→∀ (x14:Int),x14=w64 (x7+(1:Int))→Ob ((0:Int)≤x14∧x14≤x3∧wasK l0 x14 x3 true)∧Ob (Int.toNat x3-Int.toNat x14<Int.toNat x3-Int.toNat x7))∧(¬x10=x12→∀ (x15:Int),x15=w64 (x7+(1:Int))→Ob ((0:Int)≤x15∧x15≤x3∧wasK l0 x15 x3 false)∧Ob (Int.toNat x3-Int.toNat x15<Int.toNat x3-Int.toNat x7))))∧(¬x7<x3→(b8=false→Ob ((0:Int)≤x3∧x3<(↑(List.length l0):Int))∧Ob (Shp [Kd.int IntKind.i64,Kd.int IntKind.i64] l0)∧∀ (x16 x17:Int),Ob (l0[Int.toNat x3]?=some [dn x16,dn x17])→Ob (List.length l4+List.length [[dn x16,dn x17]]≤(1048576:Nat))∧∀ (l18:LL),l18=l4++[[dn x16,dn x17]]→∀ (x19:Int),x19=w64 (x3+(1:Int))→Ob ((0:Int)≤x19∧x19≤(↑(List.length l0):Int)∧fstI l0 l18 x19)∧Ob (List.length l0-Int.toNat x19<List.length l0-Int.toNat x3))∧(¬b8=false→∀ (x20:Int),x20=w64 (x3+(1:Int))→Ob ((0:Int)≤x20∧x20≤(↑(List.length l0):Int)∧fstI l0 l4 x20)∧Ob (List.length l0-Int.toNat x20<List.length l0-Int.toNat x3))))∧(¬x3<x5→Ob (R [vl l4]))
set_option maxRecDepth 100000 in
theorem vcEq_rFirsts:vcFn Go.Proofs.Tryz.prog k0 (cxf [] [(182000,0,some ⟨[0],[4],[],[kn],[⟨3,118,2,true, .tmp⟩],fun ρ ds=>0≤ni ds 0∧ni ds 0≤(ρ.d 0).length∧fstI (ρ.d 0) (li ds 1) (ni ds 0),fun ρ ds=>((ρ.d 0).length-(ni ds 0).toNat),none⟩),(182000,2,some ⟨[0,3,4],[6,5],[],[kn,kb],[],fun ρ ds=>0≤ni ds 0∧ni ds 0≤ρ.n 1∧wasK (ρ.d 0) (ni ds 0) (ρ.n 1) (bi ds 1),fun ρ ds=>((ρ.n 1).toNat-(ni ds 0).toNat),none⟩)] [] []) 3000 182 Go.Proofs.Tryz.f182 (bodyOf Go.Proofs.Tryz.f182) t_rFirsts=V_rFirsts:=by kernel_rfl
set_option maxHeartbeats 4000000 in
set_option maxRecDepth 20000 in
theorem vcPf_rFirsts:V_rFirsts:=by
  delta V_rFirsts
  simp only [ob_iff,and_imp,forall_exists_index,true_and,and_true,List.cons.injEq,DV.c.injEq,DV.a.injEq,D.raw.injEq,D.fs.injEq,Value.bool.injEq,Value.int.injEq]
  intro l0 hl hs h20 R hR
  repeat' first | assumption | exact DShs.tail (DSh_nth (by assumption) (by assumption)) | exact shp32 (by assumption) | exact shp64 (by assumption) | exact shp2 (by assumption) | exact shpF (by assumption) | with_reducible intro _ | with_reducible apply And.intro
  all_goals (try (have q1:=(‹fstI l0 _ _›).len))
  all_goals (try (have e:=w64_succ ‹_=w64 (_+1)› (by omega) (by omega);subst e))
  all_goals first
    | assumption
    | omega
    | exact shp2 (by assumption)
    | exact LS.rect (by assumption)
    | exact fstI.zero
    | exact wasK.zero
    | exact hR _ (fst_fin (by assumption) (by omega) (by omega))
    | exact wasK.old (by assumption) (by assumption) (by assumption)
    | exact wasK.hit (by assumption) (by assumption) (by assumption) (by assumption)
    | exact wasK.miss (by assumption) (by assumption) (by assumption) (by assumption) (by assumption) (by assumption)
    | exact fst_put (by assumption) (by assumption) (by assumption) (by assumption) (by omega) (by omega) (by assumption)
    | exact fst_skip (by assumption) (by assumption) (by assumption) (by omega) (by omega)
    | (simp only [List.length_append,List.length_cons,List.length_nil] at *;omega)
    | skip
theorem con_rFirsts:Con Go.Proofs.Tryz.prog k0 182 t_rFirsts :=
  con_of (cxf_ok mixOk (fun p hp=>by cases hp) (fun p hp=>by cases hp)) Go.Proofs.Tryz.func182 rfl rfl rfl rfl vcEq_rFirsts vcPf_rFirsts
end Go.Vc

namespace Go.Vc
open Classical
def f_rTaken (aa:List DV):List DV:=[.a [dn (gI (ai aa 0) 0),dn (gI (ai aa 0) 1), .fs ((bestL (fltD (gI (ai aa 0) 0) (gL (ai aa 0) 2++li aa 1))).take (gI (ai aa 0) 1).toNat)]]
def t_rTaken:ConT:=⟨[rkS cacheS,kl],[rkS cacheS],fun aa=>DShs cacheS (ai aa 0)∧LSh pairS (li aa 1)∧(gL (ai aa 0) 2).length+(li aa 1).length≤1000000∧0≤gI (ai aa 0) 1,fun aa rs=>rs=f_rTaken aa⟩
theorem fn_rTaken:∀ aa,t_rTaken.pre aa→∀ rs,t_rTaken.post aa rs→rs=f_rTaken aa:=fun _ _ _ h=>h
def V_rTaken:Prop:=∀ (x0 x1:Int) (l2 l3:LL),Ob (DShs cacheS [dn x0,dn x1,D.fs l2]∧LSh pairS l3∧List.length l2+List.length l3≤(1000000:Nat)∧(0:Int)≤x1)→∀ (R:List DV→Prop),Ob (∀ (res:List DV),res=[DV.a [dn x0,dn x1,D.fs (List.take (Int.toNat x1) (bestL (fltD x0 (l2++l3))))]]→R res)→Ob (Shp [Kd.int IntKind.i64,Kd.int IntKind.i64] l2∧List.length ([]:LL)+List.length l2≤(1048576:Nat))∧∀ (l5:LL),l5=[]++l2→Ob (Shp [Kd.int IntKind.i64,Kd.int IntKind.i64] l3∧List.length l5+List.length l3≤(1048576:Nat))∧∀ (l6:LL),l6=l5++l3→Ob (LSh pairS l6∧List.length l6≤(1000000:Nat))∧∀ (l7:LL),Ob ([vl l7]=[vl (fltD x0 l6)])→Ob (LSh pairS l7∧List.length l7≤(1000000:Nat))∧∀ (l8:LL),Ob ([vl l8]=[vl (srtD l7)])→Ob (LSh pairS l8∧List.length l8≤(1000000:Nat))∧∀ (l9:LL),Ob ([vl l9]=[vl (kpL (fstD l8) l8 (List.length l8))])→∀ (x10:Int),x10=(↑(List.length l9):Int)→∀ (x11:Int),x11=min x10 x1→Ob ((0:Int)≤(0:Int)∧(0:Int)≤x11∧x11≤(↑(List.length l9):Int)∧(↑(List.length l9):Int)≤(↑(List.length l9):Int)∧Rect (2) l9)∧∀ (l12:LL),l12=List.take (Int.toNat x11-Int.toNat (0:Int)) (List.drop (Int.toNat (0:Int)) l9)→Ob (R [DV.a [dn x0,dn x1,D.fs l12]])
set_option maxRecDepth 100000 in
theorem vcEq_rTaken:vcFn Go.Proofs.Tryz.prog k0 (cxf [(184,t_rOthF),(183,t_rSorted),(182,t_rFirsts)] [] [] [(184,f_rOthF),(183,f_rSorted),(182,f_rFirsts)]) 3000 92 Go.Proofs.Tryz.f92 (bodyOf Go.Proofs.Tryz.f92) t_rTaken=V_rTaken:=by kernel_rfl
set_option maxHeartbeats 4000000 in
set_option maxRecDepth 20000 in
theorem vcPf_rTaken:V_rTaken:=by
  delta V_rTaken
  simp only [ob_iff,and_imp,forall_exists_index,true_and,and_true,List.cons.injEq,DV.c.injEq,DV.a.injEq,D.raw.injEq,D.fs.injEq,Value.bool.injEq,Value.int.injEq]
  intro x0 x1 l2 l3 hs hl hs3 h20 hx R hR
  simp only [dshs_cons,dshs_nil,dsh_int,dsh_sl,rng64,true_and,and_true] at hs
  obtain ⟨k0,k1,k2,k3⟩:=hs
  repeat' first | assumption | exact DShs.tail (DSh_nth (by assumption) (by assumption)) | exact shp32 (by assumption) | exact shp64 (by assumption) | exact shp2 (by assumption) | exact shpF (by assumption) | with_reducible intro _ | with_reducible apply And.intro
  all_goals (try (have q1:=cat2 (l3:=l3) (l2:=l2) (by assumption) (by assumption);have q2:LS pairS (l2++l3):=ls_app k3 hs3 (by omega);rw [←q1] at q2;have q3:=congrArg List.length q1;rw [List.length_append] at q3))
  all_goals (try (have q4:=flt_len' ‹_=fltD _ _›;have q5:=flt_ls' ‹_=fltD _ _› q2))
  all_goals (try (have q6:=srt_len ‹_=srtD _›;have q7:=srt_ls' ‹_=srtD _› q5))
  all_goals (try (have q8:=best_of ‹_=srtD _› (by assumption);have q9:=best_ls2 q8 q5))
  all_goals first
    | assumption
    | omega
    | exact shp2 (by assumption)
    | exact LS.rect (by assumption)
    | (simp only [List.length_nil,Nat.zero_add];omega)
    | (have z:=nil_app (l2:=l2) (by assumption);omega)
    | (have z:=take_min (by assumption) (by assumption) ‹_=List.take _ _›;refine hR _ ?_;rw [z,q8,taken_eq (by assumption) q1];done)
    | skip
theorem con_rTaken:Con Go.Proofs.Tryz.prog k0 92 t_rTaken :=
  con_of (cxf_ok mixOk (fun p hp=>by
    simp only [List.mem_cons,List.not_mem_nil,or_false] at hp
    rcases hp with rfl | rfl | rfl
    · exact con_rOthF
    · exact con_rSorted
    · exact con_rFirsts) (fun p hp=>by
    simp only [List.mem_cons,List.not_mem_nil,or_false] at hp
    rcases hp with rfl | rfl | rfl
    · intro t ht;cases ht;exact fn_rOthF
    · intro t ht;cases ht;exact fn_rSorted
    · intro t ht;cases ht;exact fn_rFirsts)) Go.Proofs.Tryz.func92 rfl rfl rfl rfl vcEq_rTaken vcPf_rTaken
end Go.Vc

namespace Go.Vc
open Classical
def f_rCut (aa:List DV):List DV:=[vl (li aa 0)]
def t_rCut:ConT:=⟨[kl],[kl],fun aa=>LSh [s8] (li aa 0)∧bitsP (li aa 0)∧(li aa 0).length≤32,fun aa rs=>rs=f_rCut aa⟩
theorem fn_rCut:∀ aa,t_rCut.pre aa→∀ rs,t_rCut.post aa rs→rs=f_rCut aa:=fun _ _ _ h=>h
def V_rCut:Prop:=∀ (l0:LL),Ob (LSh [s8] l0∧bitsP l0∧List.length l0≤(32:Nat))→∀ (R:List DV→Prop),Ob (∀ (res:List DV),res=[vl l0]→R res)→∀ (x2:Int),x2=(↑(List.length l0):Int)→Ob ((0:Int)≤x2∧x2=(↑(List.length l0):Int))∧∀ (g3:Nat→Value) (x4:Int),Ob ((0:Int)≤x4∧x4=(↑(List.length l0):Int))→(x4>(0:Int)→∀ (x5:Int),x5=w64 (x4-(1:Int))→Ob ((0:Int)≤x5∧x5<(↑(List.length l0):Int))∧Ob (Shp [Kd.int IntKind.u8] l0)∧∀ (x6:Int),Ob (l0[Int.toNat x5]?=some [d8 x6])→(x6=(0:Int)→∀ (x7:Int),x7=w64 (x4-(1:Int))→Ob ((0:Int)≤x7∧x7=(↑(List.length l0):Int))∧Ob (Int.toNat x7<Int.toNat x4))∧(¬x6=(0:Int)→Ob ((0:Int)≤(0:Int)∧(0:Int)≤x4∧x4≤(↑(List.length l0):Int)∧(↑(List.length l0):Int)≤(↑(List.length l0):Int)∧Rect (1) l0)∧∀ (l8:LL),l8=List.take (Int.toNat x4-Int.toNat (0:Int)) (List.drop (Int.toNat (0:Int)) l0)→Ob (R [vl l8])))∧(¬x4>(0:Int)→Ob ((0:Int)≤(0:Int)∧(0:Int)≤x4∧x4≤(↑(List.length l0):Int)∧(↑(List.length l0):Int)≤(↑(List.length l0):Int)∧Rect (1) l0)∧∀ (l9:LL),l9=List.take (Int.toNat x4-Int.toNat (0:Int)) (List.drop (Int.toNat (0:Int)) l0)→Ob (R [vl l9]))
set_option maxRecDepth 100000 in
theorem vcEq_rCut:vcFn Go.Proofs.Tryz.prog k0 (cxf [] [(322000,0,some ⟨[0],[3],[],[kn],[],fun ρ ds=>0≤ni ds 0∧ni ds 0=(ρ.d 0).length,fun ρ ds=>(ni ds 0).toNat,none⟩)] [] []) 3000 322 Go.Proofs.Tryz.f322 (bodyOf Go.Proofs.Tryz.f322) t_rCut=V_rCut:=by kernel_rfl
set_option maxHeartbeats 4000000 in
set_option maxRecDepth 20000 in
theorem vcPf_rCut:V_rCut:=by
  delta V_rCut
  simp only [ob_iff,and_imp,forall_exists_index,true_and,and_true,List.cons.injEq,DV.c.injEq,DV.a.injEq,D.raw.injEq,D.fs.injEq,Value.bool.injEq,Value.int.injEq]
  intro l0 hl hs hb h32 R hR
  repeat' first | assumption | exact DShs.tail (DSh_nth (by assumption) (by assumption)) | exact shp32 (by assumption) | exact shp64 (by assumption) | exact shp2 (by assumption) | exact shpF (by assumption) | with_reducible intro _ | with_reducible apply And.intro
  all_goals (try (have e:=w64_pred ‹_=w64 (_-1)› (by omega) (by omega);subst e))
  all_goals first
    | assumption
    | omega
    | exact shp8 hs
    | exact LS.rect hs
    | (exfalso;exact cut_no hb (by assumption) (by assumption) (by omega) (by omega))
    | exact hR _ (cut_fin (by assumption) (by omega))
    | skip
theorem con_rCut:Con Go.Proofs.Tryz.prog k0 322 t_rCut :=
  con_of (cxf_ok mixOk (fun p hp=>by cases hp) (fun p hp=>by cases hp)) Go.Proofs.Tryz.func322 rfl rfl rfl rfl vcEq_rCut vcPf_rCut
end Go.Vc

namespace Go.Vc
open Classical
def f_rLimbs (aa:List DV):List DV:=[vl (if bval (li aa 0)=0 then [] else [[d32 (bval (li aa 0))]])]
def t_rLimbs:ConT:=⟨[kl],[kl],fun aa=>LSh [s8] (li aa 0)∧bitsP (li aa 0)∧(li aa 0).length≤32,fun aa rs=>rs=f_rLimbs aa⟩
theorem fn_rLimbs:∀ aa,t_rLimbs.pre aa→∀ rs,t_rLimbs.post aa rs→rs=f_rLimbs aa:=fun _ _ _ h=>h
def V_rLimbs:Prop:=∀ (l0:LL),Ob (LSh [s8] l0∧bitsP l0∧List.length l0≤(32:Nat))→∀ (R:List DV→Prop),Ob (∀ (res:List DV),res=[vl (if bval l0=(0:Int) then [] else [[d32 (bval l0)]])]→R res)→Ob (LSh [s8] l0∧bitsP l0∧List.length l0≤(32:Nat))∧∀ (l2:LL),Ob ([vl l2]=[vl l0])→Ob (limbI l2 (0:Int) [])∧∀ (g3:Nat→Value) (x4:Int) (l5:LL),Ob (limbI l2 x4 l5)→∀ (x6:Int),x6=(↑(List.length l2):Int)→(x4<x6→∀ (x7:Int),x7=(↑(List.length l2):Int)→∀ (x8:Int),x8=w64 (x4+(32:Int))→∀ (x9:Int),x9=min x7 x8→∀ (x10:Int),x10=w64 (x9-(1:Int))→Ob (limbJ l2 x10 (0:Int))∧∀ (g11:Nat→Value) (x12 x13:Int),Ob (limbJ l2 x12 x13)→(x12≥x4→∀ (x14:Int),x14=IntKind.wrap IntKind.u32 ((2:Int)*x13)→Ob ((0:Int)≤x12∧x12<(↑(List.length l2):Int))∧Ob (Shp [Kd.int IntKind.u8] l2)∧∀ (x15:Int),Ob (l2[Int.toNat x12]?=some [d8 x15])→∀ (x16:Int),x16=IntKind.wrap IntKind.u32 x15→∀ (x17:Int),x17=IntKind.wrap IntKind.u32 (x14+x16)→∀ (x18:Int),x18=w64 (x12-(1:Int))→Ob (limbJ l2 x18 x17)∧Ob (Int.toNat (x18+(1:Int))<Int.toNat (x12+(1:Int))))∧(¬x12≥x4→Ob (List.length l5+List.length [[d32 x13]]≤(1048576:Nat))∧∀ (l19:LL),l19=l5++[[d32 x13]]→∀ (x20:Int),x20=w64 (x4+(32:Int))→Ob (limbI l2 x20 l19)∧Ob (Int.toNat ((32:Int)-x20)<Int.toNat ((32:Int)-x4))))∧(¬x4<x6→Ob (R [vl l5]))
set_option maxRecDepth 100000 in
theorem vcEq_rLimbs:vcFn Go.Proofs.Tryz.prog k0 (cxf [(322,t_rCut)] [(302000,0,some ⟨[0],[4],[],[kn],[⟨3,154,1,true, .tmp⟩],fun ρ ds=>limbI (ρ.d 1) (ni ds 0) (li ds 1),fun ρ ds=>(32-ni ds 0).toNat,none⟩),(302000,2,some ⟨[0,3,4],[6,5],[],[kn,⟨[.int .u32],false,false⟩],[],fun ρ ds=>limbJ (ρ.d 1) (ni ds 0) (ni ds 1),fun ρ ds=>(ni ds 0+1).toNat,none⟩)] [] [(322,f_rCut)]) 3000 302 Go.Proofs.Tryz.f302 (bodyOf Go.Proofs.Tryz.f302) t_rLimbs=V_rLimbs:=by kernel_rfl
set_option maxHeartbeats 4000000 in
set_option maxRecDepth 20000 in
theorem vcPf_rLimbs:V_rLimbs:=by
  delta V_rLimbs
  simp only [ob_iff,and_imp,forall_exists_index,true_and,and_true,List.cons.injEq,DV.c.injEq,DV.a.injEq,D.raw.injEq,D.fs.injEq,Value.bool.injEq,Value.int.injEq]
  intro l0 hl hs hb h32 R hR
  repeat' first | assumption | exact DShs.tail (DSh_nth (by assumption) (by assumption)) | exact shp32 (by assumption) | exact shp64 (by assumption) | exact shp2 (by assumption) | exact shpF (by assumption) | with_reducible intro _ | with_reducible apply And.intro
  all_goals (try (have e:=(‹_=l0›).symm;subst e))
  all_goals (try (have q0:=limb0 (by assumption) (by assumption) (by assumption) h32;obtain ⟨z1,z2⟩:=q0))
  all_goals (try (have q3:=(‹limbJ l0 _ _›).1;have q4:=(‹limbJ l0 _ _›).2.1))
  all_goals (try (have e18:=w64_pred ‹_=w64 (_-1)› (by omega) (by omega)))
  all_goals (try (have q1:=limbJ.start (l:=l0) (by assumption) ‹_=w64 (_+32)› (by assumption) (by assumption) z1 (by omega) h32;have q2:=q1.1))
  all_goals (try (have q5:=limbJ.step (j:=_) (by assumption) (‹limbJ l0 _ _›) (by assumption) (by assumption) (by assumption) hb h32 (by omega) (by assumption);have q6:=q5.1))
  all_goals first
    | assumption
    | omega
    | exact shp8 hs
    | exact limbI.zero
    | exact limbI.next (by assumption) (by assumption) ‹limbJ l0 _ _› z1 z2 (by assumption) (by omega)
    | exact hR _ ((‹limbI l0 _ _›).fin (by omega) hb)
    | (rw [z2];simp;done)
    | (have e:_=w64 (_-1):=(by assumption);rw [w64_id (by omega) (by omega)] at e;omega)
    | (have e:_=w64 (_+32):=(by assumption);rw [w64_id (by omega) (by omega)] at e;omega)
    | skip
theorem con_rLimbs:Con Go.Proofs.Tryz.prog k0 302 t_rLimbs :=
  con_of (cxf_ok mixOk (fun p hp=>by
    simp only [List.mem_cons,List.not_mem_nil,or_false] at hp
    subst hp
    exact con_rCut) (fun p hp=>by
    simp only [List.mem_cons,List.not_mem_nil,or_false] at hp
    subst hp
    · intro t ht;cases ht;exact fn_rCut)) Go.Proofs.Tryz.func302 rfl rfl rfl rfl vcEq_rLimbs vcPf_rLimbs
end Go.Vc

namespace Go.Vc
open Classical
def f_rLimbOf (aa:List DV):List DV:=[vl (if ni aa 0=0 then [] else [[d32 (ni aa 0)]])]
def t_rLimbOf:ConT:=⟨[⟨[.int .u64],false,false⟩],[kl],fun aa=>0≤ni aa 0∧ni aa 0≤4294967295,fun aa rs=>rs=f_rLimbOf aa⟩
theorem fn_rLimbOf:∀ aa,t_rLimbOf.pre aa→∀ rs,t_rLimbOf.post aa rs→rs=f_rLimbOf aa:=fun _ _ _ h=>h
def V_rLimbOf:Prop:=∀ (x0:Int),Ob ((0:Int)≤x0∧x0≤(4294967295:Int))→∀ (R:List DV→Prop),Ob (∀ (res:List DV),res=[vl (if x0=(0:Int) then [] else [[d32 x0]])]→R res)→Ob (bitI x0 x0 []∧List.length ([]:LL)≤(32:Nat))∧∀ (g2:Nat→Value) (x3:Int) (l4:LL),Ob (bitI x3 x0 l4∧List.length l4≤(32:Nat))→(x3>(0:Int)→Ob ((2:Int)≠(0:Int))∧∀ (x5:Int),x5=Int.tmod x3 (2:Int)→∀ (x6:Int),x6=IntKind.wrap IntKind.u8 x5→Ob (List.length l4+List.length [[d8 x6]]≤(1048576:Nat))∧∀ (l7:LL),l7=l4++[[d8 x6]]→Ob ((2:Int)≠(0:Int))∧∀ (x8:Int),x8=IntKind.wrap IntKind.u64 (Int.tdiv x3 (2:Int))→Ob (bitI x8 x0 l7∧List.length l7≤(32:Nat))∧Ob (Int.toNat x8<Int.toNat x3))∧(¬x3>(0:Int)→Ob (LSh [s8] l4∧bitsP l4∧List.length l4≤(32:Nat))∧∀ (l9:LL),Ob ([vl l9]=[vl (if bval l4=(0:Int) then [] else [[d32 (bval l4)]])])→Ob (R [vl l9]))
set_option maxRecDepth 100000 in
theorem vcEq_rLimbOf:vcFn Go.Proofs.Tryz.prog k0 (cxf [(302,t_rLimbs)] [(282000,0,some ⟨[],[0],[],[⟨[.int .u64],false,false⟩],[⟨3,5,1,true, .tmp⟩],fun ρ ds=>bitI (ni ds 0) (ρ.n 0) (li ds 1)∧(li ds 1).length≤32,fun ρ ds=>(ni ds 0).toNat,none⟩)] [] [(302,f_rLimbs)]) 3000 282 Go.Proofs.Tryz.f282 (bodyOf Go.Proofs.Tryz.f282) t_rLimbOf=V_rLimbOf:=by kernel_rfl
set_option maxHeartbeats 4000000 in
set_option maxRecDepth 20000 in
theorem vcPf_rLimbOf:V_rLimbOf:=by
  delta V_rLimbOf
  simp only [ob_iff,and_imp,forall_exists_index,true_and,and_true,List.cons.injEq,DV.c.injEq,DV.a.injEq,D.raw.injEq,D.fs.injEq,Value.bool.injEq,Value.int.injEq]
  intro x0 h0 h1 R hR
  repeat' first | assumption | exact DShs.tail (DSh_nth (by assumption) (by assumption)) | exact shp32 (by assumption) | exact shp64 (by assumption) | exact shp2 (by assumption) | exact shpF (by assumption) | with_reducible intro _ | with_reducible apply And.intro
  all_goals (try (have q1:=(‹bitI _ x0 _›).1;have q2:=(‹bitI _ x0 _›).le))
  all_goals (try (have q3:=(‹bitI _ x0 _›).len (by assumption) h1))
  all_goals (try (have q4:=app_len (by assumption)))
  all_goals (try (have q5:=bit_num (by assumption) (by assumption) q1))
  all_goals (try (have q6:=bit_div (by assumption) q1 (by omega)))
  all_goals (try (have q7:=(‹bitI _ x0 _›).fin (by assumption)))
  all_goals first
    | assumption
    | omega
    | exact bitI.zero h0
    | exact (‹bitI _ x0 _›).step (by assumption) (by assumption) q5 q6
    | exact q7.1
    | exact bits_ls q7.1 (by omega)
    | exact hR _ (bits_fin (by assumption) (by assumption) (by assumption))
    | (simp;done)
    | (simp only [List.length_cons,List.length_nil];omega)
    | skip
theorem con_rLimbOf:Con Go.Proofs.Tryz.prog k0 282 t_rLimbOf :=
  con_of (cxf_ok mixOk (fun p hp=>by
    simp only [List.mem_cons,List.not_mem_nil,or_false] at hp
    subst hp
    exact con_rLimbs) (fun p hp=>by
    simp only [List.mem_cons,List.not_mem_nil,or_false] at hp
    subst hp
    · intro t ht;cases ht;exact fn_rLimbs)) Go.Proofs.Tryz.func282 rfl rfl rfl rfl vcEq_rLimbOf vcPf_rLimbOf
end Go.Vc

namespace Go.Vc
open Classical
def f_rDyOf (aa:List DV):List DV:=[.a (dyOf (ni aa 0))]
def t_rDyOf:ConT:=⟨[kn],[rkS dyS],fun aa=>inV (ni aa 0),fun aa rs=>rs=f_rDyOf aa⟩
theorem fn_rDyOf:∀ aa,t_rDyOf.pre aa→∀ rs,t_rDyOf.post aa rs→rs=f_rDyOf aa:=fun _ _ _ h=>h
def V_rDyOf:Prop:=∀ (x0:Int),Ob (inV x0)→∀ (R:List DV→Prop),Ob (∀ (res:List DV),res=[DV.a [db (decide (x0<(0:Int))),D.fs (if x0=(0:Int) then [] else [[d32 (↑(Int.natAbs x0):Int)]]),dn (0:Int)]]→R res)→(x0<(0:Int)→∀ (x2:Int),x2=w64 (x0+(1:Int))→∀ (x3:Int),x3=w64 ((0:Int)-x2)→∀ (x4:Int),x4=IntKind.wrap IntKind.u64 x3→∀ (x5:Int),x5=IntKind.wrap IntKind.u64 (x4+(1:Int))→Ob ((0:Int)≤x5∧x5≤(4294967295:Int))∧∀ (l6:LL),Ob ([vl l6]=[vl (if x5=(0:Int) then [] else [[d32 x5]])])→Ob (R [DV.a [db true,D.fs l6,dn (0:Int)]]))∧(¬x0<(0:Int)→∀ (x7:Int),x7=IntKind.wrap IntKind.u64 x0→Ob ((0:Int)≤x7∧x7≤(4294967295:Int))∧∀ (l8:LL),Ob ([vl l8]=[vl (if x7=(0:Int) then [] else [[d32 x7]])])→Ob (R [DV.a [db false,D.fs l8,dn (0:Int)]]))
set_option maxRecDepth 100000 in
theorem vcEq_rDyOf:vcFn Go.Proofs.Tryz.prog k0 (cxf [(282,t_rLimbOf)] [] [] [(282,f_rLimbOf)]) 3000 245 Go.Proofs.Tryz.f245 (bodyOf Go.Proofs.Tryz.f245) t_rDyOf=V_rDyOf:=by kernel_rfl
set_option maxHeartbeats 4000000 in
set_option maxRecDepth 20000 in
theorem vcPf_rDyOf:V_rDyOf:=by
  delta V_rDyOf
  simp only [ob_iff,and_imp,forall_exists_index,true_and,and_true,List.cons.injEq,DV.c.injEq,DV.a.injEq,D.raw.injEq,D.fs.injEq,Value.bool.injEq,Value.int.injEq]
  intro x0 h0 R hR
  repeat' first | assumption | exact DShs.tail (DSh_nth (by assumption) (by assumption)) | exact shp32 (by assumption) | exact shp64 (by assumption) | exact shp2 (by assumption) | exact shpF (by assumption) | with_reducible intro _ | with_reducible apply And.intro
  all_goals (try (have q1:=dyr_neg (by assumption) (by assumption) (by assumption) (by assumption) (by assumption) h0))
  all_goals (try (have q2:=dyr_pos (by assumption) (by assumption) h0))
  all_goals (try (have hv:=h0;obtain ⟨v1,v2⟩:=hv))
  all_goals first
    | assumption
    | omega
    | exact hR _ (dyr_n (by assumption) q1 (by assumption))
    | exact hR _ (dyr_p (by assumption) q2 (by assumption))
    | skip
theorem con_rDyOf:Con Go.Proofs.Tryz.prog k0 245 t_rDyOf :=
  con_of (cxf_ok mixOk (fun p hp=>by
    simp only [List.mem_cons,List.not_mem_nil,or_false] at hp
    subst hp
    exact con_rLimbOf) (fun p hp=>by
    simp only [List.mem_cons,List.not_mem_nil,or_false] at hp
    subst hp
    · intro t ht;cases ht;exact fn_rLimbOf)) Go.Proofs.Tryz.func245 rfl rfl rfl rfl vcEq_rDyOf vcPf_rDyOf
end Go.Vc

namespace Go.Vc
open Classical
def f_rMassSeed (aa:List DV):List DV:=[.a (massOf (ni aa 0) (bi aa 1))]
def t_rMassSeed:ConT:=⟨[kn,kb],[rkS massS],fun aa=>inV (ni aa 0),fun aa rs=>rs=f_rMassSeed aa⟩
theorem fn_rMassSeed:∀ aa,t_rMassSeed.pre aa→∀ rs,t_rMassSeed.post aa rs→rs=f_rMassSeed aa:=fun _ _ _ h=>h
def V_rMassSeed:Prop:=∀ (x0:Int) (b1:Bool),Ob (inV x0)→∀ (R:List DV→Prop),Ob (∀ (res:List DV),res=[DV.a [db (decide (x0<(0:Int))),D.fs (if x0=(0:Int) then [] else [[d32 (↑(Int.natAbs x0):Int)]]),dn (0:Int),db false,D.fs [[d32 (1:Int)]],dn (0:Int),db false,D.fs (if b1=true then [[d32 (1:Int)]] else []),dn (0:Int),db (decide (x0<(0:Int))),D.fs (if x0=(0:Int) then [] else [[d32 (↑(Int.natAbs x0):Int)]]),dn (0:Int)]]→R res)→Ob (inV x0)∧∀ (b3:Bool) (l4:LL) (x5:Int),Ob ([DV.a [db b3,D.fs l4,dn x5]]=[DV.a [db (decide (x0<(0:Int))),D.fs (if x0=(0:Int) then [] else [[d32 (↑(Int.natAbs x0):Int)]]),dn (0:Int)]])→Ob (inV (1:Int))∧∀ (b6:Bool) (l7:LL) (x8:Int),Ob ([DV.a [db b6,D.fs l7,dn x8]]=[DV.a [db (decide ((1:Int)<(0:Int))),D.fs [[d32 (↑(Int.natAbs (1:Int)):Int)]],dn (0:Int)]])→Ob (inV x0)∧∀ (b9:Bool) (l10:LL) (x11:Int),Ob ([DV.a [db b9,D.fs l10,dn x11]]=[DV.a [db (decide (x0<(0:Int))),D.fs (if x0=(0:Int) then [] else [[d32 (↑(Int.natAbs x0):Int)]]),dn (0:Int)]])→(b1=true→Ob (inV (1:Int))∧∀ (b12:Bool) (l13:LL) (x14:Int),Ob ([DV.a [db b12,D.fs l13,dn x14]]=[DV.a [db (decide ((1:Int)<(0:Int))),D.fs [[d32 (↑(Int.natAbs (1:Int)):Int)]],dn (0:Int)]])→Ob (R [DV.a [db b3,D.fs l4,dn x5,db b6,D.fs l7,dn x8,db b12,D.fs l13,dn x14,db b9,D.fs l10,dn x11]]))∧(b1=false→Ob (R [DV.a [db b3,D.fs l4,dn x5,db b6,D.fs l7,dn x8,db false,D.fs [],dn (0:Int),db b9,D.fs l10,dn x11]]))
set_option maxRecDepth 100000 in
theorem vcEq_rMassSeed:vcFn Go.Proofs.Tryz.prog k0 (cxf [(245,t_rDyOf)] [] [] [(245,f_rDyOf)]) 3000 185 Go.Proofs.Tryz.f185 (bodyOf Go.Proofs.Tryz.f185) t_rMassSeed=V_rMassSeed:=by kernel_rfl
set_option maxHeartbeats 4000000 in
set_option maxRecDepth 20000 in
theorem vcPf_rMassSeed:V_rMassSeed:=by
  delta V_rMassSeed
  simp only [ob_iff,and_imp,forall_exists_index,true_and,and_true,List.cons.injEq,DV.c.injEq,DV.a.injEq,D.raw.injEq,D.fs.injEq,Value.bool.injEq,Value.int.injEq]
  intro x0 b1 h0 R hR
  repeat' first | assumption | exact DShs.tail (DSh_nth (by assumption) (by assumption)) | exact shp32 (by assumption) | exact shp64 (by assumption) | exact shp2 (by assumption) | exact shpF (by assumption) | with_reducible intro _ | with_reducible apply And.intro
  all_goals first
    | assumption
    | exact inv1
    | (refine hR _ ?_;subst_vars;simp_all [massOf,dyOf];done)
    | skip
theorem con_rMassSeed:Con Go.Proofs.Tryz.prog k0 185 t_rMassSeed :=
  con_of (cxf_ok mixOk (fun p hp=>by
    simp only [List.mem_cons,List.not_mem_nil,or_false] at hp
    subst hp
    exact con_rDyOf) (fun p hp=>by
    simp only [List.mem_cons,List.not_mem_nil,or_false] at hp
    subst hp
    · intro t ht;cases ht;exact fn_rDyOf)) Go.Proofs.Tryz.func185 rfl rfl rfl rfl vcEq_rMassSeed vcPf_rMassSeed
end Go.Vc

namespace Go.Vc
open Classical
def f_rStir (aa:List DV):List DV:=[v32 (stir (ni aa 0))]
def t_rStir:ConT:=⟨[⟨[.int .u32],false,false⟩],[⟨[.int .u32],false,false⟩],fun aa=>True,fun aa rs=>rs=f_rStir aa⟩
theorem fn_rStir:∀ aa,t_rStir.pre aa→∀ rs,t_rStir.post aa rs→rs=f_rStir aa:=fun _ _ _ h=>h
def V_rStir:Prop:=∀ (x0:Int),Ob True→∀ (R:List DV→Prop),Ob (∀ (res:List DV),res=[v32 (stir x0)]→R res)→∀ (x2:Int),x2=IntKind.wrap IntKind.u32 (x0*(2654435769:Int))→Ob ((0:Int)≤(15:Int))∧∀ (x3:Int),x3=Int.fdiv x2 ((2:Int) ^ min (Int.toNat (15:Int)) (IntKind.bits IntKind.u32))→∀ (x4:Int),x4=bXor IntKind.u32 x2 x3→∀ (x5:Int),x5=IntKind.wrap IntKind.u32 (x4*(2654435769:Int))→Ob ((0:Int)≤(13:Int))∧∀ (x6:Int),x6=Int.fdiv x5 ((2:Int) ^ min (Int.toNat (13:Int)) (IntKind.bits IntKind.u32))→∀ (x7:Int),x7=bXor IntKind.u32 x5 x6→∀ (x8:Int),x8=IntKind.wrap IntKind.u32 (x7*(2654435769:Int))→Ob ((0:Int)≤(16:Int))∧∀ (x9:Int),x9=Int.fdiv x8 ((2:Int) ^ min (Int.toNat (16:Int)) (IntKind.bits IntKind.u32))→∀ (x10:Int),x10=bXor IntKind.u32 x8 x9→Ob (R [v32 x10])
set_option maxRecDepth 100000 in
theorem vcEq_rStir:vcFn Go.Proofs.Tryz.prog k0 (cxf [] [] [] []).un 3000 247 Go.Proofs.Tryz.f247 (bodyOf Go.Proofs.Tryz.f247) t_rStir=V_rStir:=by kernel_rfl
set_option maxHeartbeats 4000000 in
set_option maxRecDepth 20000 in
theorem vcPf_rStir:V_rStir:=by
  delta V_rStir
  simp only [ob_iff,and_imp,forall_exists_index,true_and,and_true,List.cons.injEq,DV.c.injEq,DV.a.injEq,D.raw.injEq,D.fs.injEq,Value.bool.injEq,Value.int.injEq]
  repeat' first | assumption | exact DShs.tail (DSh_nth (by assumption) (by assumption)) | exact shp32 (by assumption) | exact shp64 (by assumption) | exact shp2 (by assumption) | exact shpF (by assumption) | with_reducible intro _ | with_reducible apply And.intro
  all_goals first
    | assumption
    | omega
    | ((have hR:=‹∀ res:List DV,_=_→_›;refine hR _ ?_;subst_vars;rfl))
theorem con_rStir:Con Go.Proofs.Tryz.prog k0 247 t_rStir :=
  con_of (Cx.un_ok (cxf_ok mixOk (fun p hp=>by cases hp) (fun p hp=>by cases hp))) Go.Proofs.Tryz.func247 rfl rfl rfl rfl vcEq_rStir vcPf_rStir
end Go.Vc

namespace Go.Vc
open Classical
def t_rWith:ConT:=⟨[kl,⟨[.int .u32],false,false⟩],[kl],fun aa=>LSh [s32] (li aa 0)∧(li aa 0).length≤1000∧(∀ x:Nat,x<(li aa 0).length→nth (li aa 0) x 0≠ni aa 1)∧0≤ni aa 1∧ni aa 1≤4294967295,fun aa rs=>∃ r,rs=[vl r]∧withP (li aa 0) (ni aa 1) r⟩
def V_rWith:Prop:=∀ (l0:LL) (x1:Int),Ob (LSh [s32] l0∧List.length l0≤(1000:Nat)∧(∀ (x:Nat),x<List.length l0→nth l0 x (0:Nat)≠x1)∧(0:Int)≤x1∧x1≤(4294967295:Int))→∀ (R:List DV→Prop),Ob (∀ (res:List DV),(∃ r,res=[vl r]∧withP l0 x1 r)→R res)→Ob ((0:Int)≤(0:Int)∧(0:Int)≤(↑(List.length l0):Int)∧withI l0 x1 [] (0:Int) false)∧∀ (g3:Nat→Value) (x4:Int) (b5:Bool) (l6:LL),Ob ((0:Int)≤x4∧x4≤(↑(List.length l0):Int)∧withI l0 x1 l6 x4 b5)→∀ (x7:Int),x7=(↑(List.length l0):Int)→(x4<x7→(b5=false→Ob ((0:Int)≤x4∧x4<(↑(List.length l0):Int))∧Ob (Shp [Kd.int IntKind.u32] l0)∧∀ (x8:Int),Ob (l0[Int.toNat x4]?=some [d32 x8])→(x8≥x1→Ob ((0:Int)≤x4∧x4<(↑(List.length l0):Int))∧Ob (Shp [Kd.int IntKind.u32] l0)∧∀ (x9:Int),Ob (l0[Int.toNat x4]?=some [d32 x9])→(x9>x1→Ob (List.length l6+List.length [[d32 x1]]≤(1048576:Nat))∧∀ (l10:LL),l10=l6++[[d32 x1]]→Ob ((0:Int)≤x4∧x4<(↑(List.length l0):Int))∧Ob (Shp [Kd.int IntKind.u32] l0)∧∀ (x11:Int),Ob (l0[Int.toNat x4]?=some [d32 x11])→Ob (List.length l10+List.length [[d32 x11]]≤(1048576:Nat))∧∀ (l12:LL),l12=l10++[[d32 x11]]→∀ (x13:Int),x13=w64 (x4+(1:Int))→Ob ((0:Int)≤x13∧x13≤(↑(List.length l0):Int)∧withI l0 x1 l12 x13 true)∧Ob (List.length l0-Int.toNat x13<List.length l0-Int.toNat x4))∧(¬x9>x1→Ob ((0:Int)≤x4∧x4<(↑(List.length l0):Int))∧Ob (Shp [Kd.int IntKind.u32] l0)∧∀ (x14:Int),Ob (l0[Int.toNat x4]?=some [d32 x14])→Ob (List.length l6+List.length [[d32 x14]]≤(1048576:Nat))∧∀ (l15:LL),l15=l6++[[d32 x14]]→∀ (x16:Int),x16=w64 (x4+(1:Int))→Ob ((0:Int)≤x16∧x16≤(↑(List.length l0):Int)∧withI l0 x1 l15 x16 true)∧Ob (List.length l0-Int.toNat x16<List.length l0-Int.toNat x4)))∧(¬x8≥x1→Ob ((0:Int)≤x4∧x4<(↑(List.length l0):Int))∧Ob (Shp [Kd.int IntKind.u32] l0)∧∀ (x17:Int),Ob (l0[Int.toNat x4]?=some [d32 x17])→Ob (List.length l6+List.length [[d32 x17]]≤(1048576:Nat))∧∀ (l18:LL),l18=l6++[[d32 x17]]→∀ (x19:Int),x19=w64 (x4+(1:Int))→Ob ((0:Int)≤x19∧x19≤(↑(List.length l0):Int)∧withI l0 x1 l18 x19 b5)∧Ob (List.length l0-Int.toNat x19<List.length l0-Int.toNat x4)))∧(¬b5=false→Ob ((0:Int)≤x4∧x4<(↑(List.length l0):Int))∧Ob (Shp [Kd.int IntKind.u32] l0)∧∀ (x20:Int),Ob (l0[Int.toNat x4]?=some [d32 x20])→Ob (List.length l6+List.length [[d32 x20]]≤(1048576:Nat))∧∀ (l21:LL),l21=l6++[[d32 x20]]→∀ (x22:Int),x22=w64 (x4+(1:Int))→Ob ((0:Int)≤x22∧x22≤(↑(List.length l0):Int)∧withI l0 x1 l21 x22 b5)∧Ob (List.length l0-Int.toNat x22<List.length l0-Int.toNat x4)))∧(¬x4<x7→(b5=false→Ob (List.length l6+List.length [[d32 x1]]≤(1048576:Nat))∧∀ (l23:LL),l23=l6++[[d32 x1]]→Ob (R [vl l23]))∧(¬b5=false→Ob (R [vl l6])))
set_option maxRecDepth 100000 in
theorem vcEq_rWith:vcFn Go.Proofs.Tryz.prog k0 (cxf [] [(246000,0,some ⟨[0,1],[7,6],[],[kn,kb],[⟨5,154,1,true, .tmp⟩],fun ρ ds=>0≤ni ds 0∧ni ds 0≤(ρ.d 0).length∧withI (ρ.d 0) (ρ.n 1) (li ds 2) (ni ds 0) (bi ds 1),fun ρ ds=>((ρ.d 0).length-(ni ds 0).toNat),none⟩)] [] []) 3000 246 Go.Proofs.Tryz.f246 (bodyOf Go.Proofs.Tryz.f246) t_rWith=V_rWith:=by kernel_rfl
set_option maxHeartbeats 4000000 in
set_option maxRecDepth 20000 in
theorem vcPf_rWith:V_rWith:=by
  delta V_rWith
  simp only [ob_iff,and_imp,forall_exists_index,true_and,and_true,List.cons.injEq,DV.c.injEq,DV.a.injEq,D.raw.injEq,D.fs.injEq,Value.bool.injEq,Value.int.injEq]
  intro l0 x1 hl hs h20 hne hx0 hx1 R hR
  repeat' first | assumption | exact DShs.tail (DSh_nth (by assumption) (by assumption)) | exact shp32 (by assumption) | exact shp64 (by assumption) | exact shp2 (by assumption) | exact shpF (by assumption) | with_reducible intro _ | with_reducible apply And.intro
  all_goals (try (have q1:=(‹withI l0 _ _ _ _›).len))
  all_goals (try (have e:=w64_succ ‹_=w64 (_+1)› (by omega) (by omega);subst e))
  all_goals first
    | assumption
    | omega
    | exact shp32 hs
    | exact withI.zero
    | (exfalso;exact with_no hne (by assumption) (by assumption) (by assumption) (by assumption))
    | exact withI.put (by assumption) (by assumption) (by assumption) (by assumption) (by assumption) (by assumption) (by assumption) (by assumption)
    | exact withI.old (by assumption) (by assumption) (by assumption) (by assumption) (by assumption)
    | exact withI.less (by assumption) (by assumption) (by assumption) (by assumption) (by assumption) (by assumption) (by assumption)
    | exact hR _ _ rfl (withI.fin0 (by assumption) (by assumption) (by assumption) (by omega) (by omega))
    | exact hR _ _ rfl (withI.fin1 (by assumption) (by assumption) (by omega) (by omega))
    | (have z:=congrArg List.length ‹_=_++[[d32 x1]]›;simp only [List.length_append,List.length_cons,List.length_nil] at *;omega)
    | (simp only [List.length_append,List.length_cons,List.length_nil] at *;omega)
    | (subst_vars;simp only [List.length_append,List.length_cons,List.length_nil] at *;omega)
    | skip
theorem con_rWith:Con Go.Proofs.Tryz.prog k0 246 t_rWith :=
  con_of (cxf_ok mixOk (fun p hp=>by cases hp) (fun p hp=>by cases hp)) Go.Proofs.Tryz.func246 rfl rfl rfl rfl vcEq_rWith vcPf_rWith
end Go.Vc

namespace Go.Vc
open Classical
def f_rTagsOf (aa:List DV):List DV:=[vl (tagsL (ni aa 0) (ni aa 1))]
def t_rTagsOf:ConT:=⟨[kn,kn],[kl],fun aa=>0≤ni aa 0∧ni aa 0≤65535∧0≤ni aa 1∧ni aa 1≤7,fun aa rs=>rs=f_rTagsOf aa⟩
theorem fn_rTagsOf:∀ aa,t_rTagsOf.pre aa→∀ rs,t_rTagsOf.post aa rs→rs=f_rTagsOf aa:=fun _ _ _ h=>h
def V_rTagsOf:Prop:=∀ (x0 x1:Int),Ob ((0:Int)≤x0∧x0≤(65535:Int)∧(0:Int)≤x1∧x1≤(7:Int))→∀ (R:List DV→Prop),Ob (∀ (res:List DV),res=[vl (tagsL x0 x1)]→R res)→Ob ((0:Int)≤(0:Int)∧(0:Int)≤(4:Int)∧ofI x0 x1 [] (0:Int))∧∀ (g3:Nat→Value) (x4:Int) (l5:LL),Ob ((0:Int)≤x4∧x4≤(4:Int)∧ofI x0 x1 l5 x4)→(x4<(4:Int)→∀ (x6:Int),x6=w64 ((32:Int)*x0)→∀ (x7:Int),x7=w64 ((4:Int)*x1)→∀ (x8:Int),x8=w64 (x6+x7)→∀ (x9:Int),x9=w64 (x8+x4)→∀ (x10:Int),x10=IntKind.wrap IntKind.u32 x9→Ob True∧∀ (x11:Int),Ob ([v32 x11]=[v32 (stir x10)])→Ob (LSh [s32] l5∧List.length l5≤(1000:Nat)∧(∀ (x:Nat),x<List.length l5→nth l5 x (0:Nat)≠x11)∧(0:Int)≤x11∧x11≤(4294967295:Int))∧∀ (l12:LL),Ob (∃ r,[vl l12]=[vl r]∧withP l5 x11 r)→∀ (x13:Int),x13=w64 (x4+(1:Int))→Ob ((0:Int)≤x13∧x13≤(4:Int)∧ofI x0 x1 l12 x13)∧Ob (Int.toNat ((4:Int)-x13)<Int.toNat ((4:Int)-x4)))∧(¬x4<(4:Int)→Ob (R [vl l5]))
set_option maxRecDepth 100000 in
theorem vcEq_rTagsOf:vcFn Go.Proofs.Tryz.prog k0 (cxf [(247,t_rStir),(246,t_rWith)] [(186000,0,some ⟨[0,1],[6,5],[],[kn,kl],[],fun ρ ds=>0≤ni ds 0∧ni ds 0≤4∧ofI (ρ.n 0) (ρ.n 1) (li ds 1) (ni ds 0),fun ρ ds=>(4-ni ds 0).toNat,none⟩)] [] [(247,f_rStir)]) 3000 186 Go.Proofs.Tryz.f186 (bodyOf Go.Proofs.Tryz.f186) t_rTagsOf=V_rTagsOf:=by kernel_rfl
set_option maxHeartbeats 4000000 in
set_option maxRecDepth 20000 in
theorem vcPf_rTagsOf:V_rTagsOf:=by
  delta V_rTagsOf
  simp only [ob_iff,and_imp,forall_exists_index,true_and,and_true,List.cons.injEq,DV.c.injEq,DV.a.injEq,D.raw.injEq,D.fs.injEq,Value.bool.injEq,Value.int.injEq]
  intro x0 x1 h0 h1 h2 h3 R hR
  repeat' first | assumption | exact DShs.tail (DSh_nth (by assumption) (by assumption)) | exact shp32 (by assumption) | exact shp64 (by assumption) | exact shp2 (by assumption) | exact shpF (by assumption) | with_reducible intro _ | with_reducible apply And.intro
  all_goals (try (have q1:=(‹ofI x0 x1 _ _›).1;have q2:=(‹ofI x0 x1 _ _›).2.1))
  all_goals (try (have e:=w64_succ ‹_=w64 (_+1)› (by omega) (by omega);subst e))
  all_goals (try (have q3:=of_tag (e:=x0) (n:=x1) (by assumption) (by assumption) (by assumption) (by assumption) (by assumption) (by assumption) ⟨h0,h1⟩ ⟨h2,h3⟩ (by assumption) (by assumption);have q4:=of_rng q3))
  all_goals first
    | trivial
    | assumption
    | omega
    | exact ofI.zero
    | exact (‹ofI x0 x1 _ _›).ne' q3 ⟨h0,h1⟩ ⟨h2,h3⟩ (by assumption) (by assumption) _ (by assumption)
    | exact (‹ofI x0 x1 _ _›).step' q3 ‹withP _ _ _› (by assumption) (by assumption) (by assumption)
    | exact hR _ ((‹ofI x0 x1 _ _›).fin (by omega))
    | skip
theorem con_rTagsOf:Con Go.Proofs.Tryz.prog k0 186 t_rTagsOf :=
  con_of (cxf_ok mixOk (fun p hp=>by
    simp only [List.mem_cons,List.not_mem_nil,or_false] at hp
    rcases hp with rfl | rfl
    · exact con_rStir
    · exact con_rWith) (fun p hp=>by
    simp only [List.mem_cons,List.not_mem_nil,or_false] at hp
    subst hp
    · intro t ht;cases ht;exact fn_rStir)) Go.Proofs.Tryz.func186 rfl rfl rfl rfl vcEq_rTagsOf vcPf_rTagsOf
end Go.Vc

namespace Go.Vc
open Classical
def f_rPartSeed (aa:List DV):List DV:=[.a (begC (gI (ai aa 0) 1) (bi aa 1) (gI (ai aa 0) 6) (gI (ai aa 0) 0))]
def t_rPartSeed:ConT:=⟨[rkS nodeS,kb],[rkS partS],fun aa=>inV (gI (ai aa 0) 1)∧(0≤gI (ai aa 0) 6∧gI (ai aa 0) 6≤65535)∧0≤gI (ai aa 0) 0∧gI (ai aa 0) 0≤7,fun aa rs=>rs=f_rPartSeed aa⟩
theorem fn_rPartSeed:∀ aa,t_rPartSeed.pre aa→∀ rs,t_rPartSeed.post aa rs→rs=f_rPartSeed aa:=fun _ _ _ h=>h
def V_rPartSeed:Prop:=∀ (x0 x1:Int) (b2:Bool) (x3 x4 x5 x6 x7:Int) (b8:Bool) (l9:LL) (x10:Int) (b11:Bool) (l12:LL) (x13:Int) (b14:Bool) (l15:LL) (x16:Int) (b17:Bool) (l18:LL) (x19:Int) (b20:Bool) (x21 x22:Int) (l23:LL) (b24:Bool) (x25 x26:Int) (l27:LL) (x28 x29:Int) (l30 l31 l32:LL) (b33:Bool),Ob (inV x1∧((0:Int)≤x6∧x6≤(65535:Int))∧(0:Int)≤x0∧x0≤(7:Int))→∀ (R:List DV→Prop),Ob (∀ (res:List DV),res=[DV.a [db (decide (x1<(0:Int))),D.fs (if x1=(0:Int) then [] else [[d32 (↑(Int.natAbs x1):Int)]]),dn (0:Int),db false,D.fs [[d32 (1:Int)]],dn (0:Int),db false,D.fs (if b33=true then [[d32 (1:Int)]] else []),dn (0:Int),db (decide (x1<(0:Int))),D.fs (if x1=(0:Int) then [] else [[d32 (↑(Int.natAbs x1):Int)]]),dn (0:Int),db true,dn x1,dn x1,D.fs (tagsL x6 x0)]]→R res)→Ob (inV x1)∧∀ (b35:Bool) (l36:LL) (x37:Int) (b38:Bool) (l39:LL) (x40:Int) (b41:Bool) (l42:LL) (x43:Int) (b44:Bool) (l45:LL) (x46:Int),Ob ([DV.a [db b35,D.fs l36,dn x37,db b38,D.fs l39,dn x40,db b41,D.fs l42,dn x43,db b44,D.fs l45,dn x46]]=[DV.a [db (decide (x1<(0:Int))),D.fs (if x1=(0:Int) then [] else [[d32 (↑(Int.natAbs x1):Int)]]),dn (0:Int),db false,D.fs [[d32 (1:Int)]],dn (0:Int),db false,D.fs (if b33=true then [[d32 (1:Int)]] else []),dn (0:Int),db (decide (x1<(0:Int))),D.fs (if x1=(0:Int) then [] else [[d32 (↑(Int.natAbs x1):Int)]]),dn (0:Int)]])→Ob ((0:Int)≤x6∧x6≤(65535:Int)∧(0:Int)≤x0∧x0≤(7:Int))∧Ob (R [DV.a [db b35,D.fs l36,dn x37,db b38,D.fs l39,dn x40,db b41,D.fs l42,dn x43,db b44,D.fs l45,dn x46,db true,dn x1,dn x1,D.fs (tagsL x6 x0)]])
set_option maxRecDepth 100000 in
theorem vcEq_rPartSeed:vcFn Go.Proofs.Tryz.prog k0 (cxf [(185,t_rMassSeed),(186,t_rTagsOf)] [] [] [(185,f_rMassSeed),(186,f_rTagsOf)]) 3000 94 Go.Proofs.Tryz.f94 (bodyOf Go.Proofs.Tryz.f94) t_rPartSeed=V_rPartSeed:=by kernel_rfl
set_option maxHeartbeats 4000000 in
set_option maxRecDepth 20000 in
theorem vcPf_rPartSeed:V_rPartSeed:=by
  delta V_rPartSeed
  simp only [ob_iff,and_imp,forall_exists_index,true_and,and_true,List.cons.injEq,DV.c.injEq,DV.a.injEq,D.raw.injEq,D.fs.injEq,Value.bool.injEq,Value.int.injEq]
  intro x0 x1 b2 x3 x4 x5 x6 x7 b8 l9 x10 b11 l12 x13 b14 l15 x16 b17 l18 x19 b20 x21 x22 l23 b24 x25 x26 l27 x28 x29 l30 l31 l32 b33 h0 h1 h2 h3 h4 R hR
  repeat' first | assumption | exact DShs.tail (DSh_nth (by assumption) (by assumption)) | exact shp32 (by assumption) | exact shp64 (by assumption) | exact shp2 (by assumption) | exact shpF (by assumption) | with_reducible intro _ | with_reducible apply And.intro
  all_goals first
    | assumption
    | omega
    | (refine hR _ ?_;subst_vars;rfl)
    | (refine hR _ ?_;subst_vars;simp_all [begC,massOf];done)
    | skip
theorem con_rPartSeed:Con Go.Proofs.Tryz.prog k0 94 t_rPartSeed :=
  con_of (cxf_ok mixOk (fun p hp=>by
    simp only [List.mem_cons,List.not_mem_nil,or_false] at hp
    rcases hp with rfl | rfl
    · exact con_rMassSeed
    · exact con_rTagsOf) (fun p hp=>by
    simp only [List.mem_cons,List.not_mem_nil,or_false] at hp
    rcases hp with rfl | rfl
    · intro t ht;cases ht;exact fn_rMassSeed
    · intro t ht;cases ht;exact fn_rTagsOf)) Go.Proofs.Tryz.func94 rfl rfl rfl rfl vcEq_rPartSeed vcPf_rPartSeed
end Go.Vc
