import Derived.Test.YtneooimijbfmgaaGreatProg
import Derived.KernelRfl
import Derived.Test.YtneooimijbfmgaaGreatWbAR
import Derived.Test.YtneooimijbfmgaaGreatWbAS
import Derived.Test.YtneooimijbfmgaaGreatWbAT
import Derived.Test.YtneooimijbfmgaaGreatWbAU
set_option linter.unusedVariables false
set_option linter.unusedSimpArgs false
set_option linter.unusedSectionVars false
noncomputable section
namespace Go.Vc
open Classical
def f_mergeE (aa:List DV):List DV:=m_mergeE (ai aa 0) (li aa 1)
def t_mergeE:ConT:=⟨[rkS cacheS,kl],[rkS cacheS,kn],fun aa=>DShs cacheS (ai aa 0)∧(gL (ai aa 0) 2).length=0∧LSh pairS (li aa 1)∧0<(li aa 1).length∧(li aa 1).length≤12∧p_cacheB (ai aa 0)∧e_desc (li aa 1)=0,fun aa rs=>rs=f_mergeE aa⟩
theorem fn_mergeE:∀ aa,t_mergeE.pre aa→∀ rs,t_mergeE.post aa rs→rs=f_mergeE aa:=fun _ _ _ h=>h
def V_mergeE:Prop:=∀ (x0 x1:Int) (l2 l3:LL),Ob (DShs cacheS [dn x0,dn x1,D.fs l2]∧List.length l2=(0:Nat)∧LSh pairS l3∧(0:Nat)<List.length l3∧List.length l3≤(12:Nat)∧p_cacheB [dn x0,dn x1,D.fs l2]∧e_desc l3=(0:Int))→∀ (R:List DV→Prop),Ob (∀ (res:List DV),res=m_mergeE [dn x0,dn x1,D.fs l2] l3→R res)→Ob (DShs cacheS [dn x0,dn x1,D.fs l2])∧∀ (x5:Int),Ob ([vn x5]=[vn (if p_cacheB [dn x0,dn x1,D.fs l2] then (0:Int) else (8:Int))])→Ob (x5=(0:Int))∧Ob (LSh pairS l3)∧∀ (x6:Int),Ob ([vn x6]=[vn (e_desc l3)])→Ob (x6=(0:Int))∧∀ (x7:Int),x7=(↑(List.length l2):Int)→∀ (x8:Int),x8=(↑(List.length l3):Int)→∀ (x9:Int),x9=w64 (x7+x8)→Ob ¬x9>(64:Int)∧Ob ¬x6≠(0:Int)∧∀ (x10:Int),x10=(↑(List.length l2):Int)→∀ (x11:Int),x11=w64 ((0:Int)+x10)→Ob ¬x11<(0:Int)∧∀ (x12:Int),x12=(↑(List.length l3):Int)→∀ (x13:Int),x13=w64 (x11+x12)→Ob ¬x13<(0:Int)∧Ob ¬x13<(0:Int)∧∀ (x14:Int),x14=w64 (x13-w64 ((↑(0:Nat):Int)-(↑(0:Nat):Int)))→Ob (x14>(0:Int))∧Ob ((0:Int)<x14∧x14≤(65536:Int))∧∀ (l15:LL),l15=List.replicate (Int.toNat x14) [dn (0:Int),dn (0:Int)]→Ob ((0:Int)≤(↑(0:Nat):Int)∧(↑(0:Nat):Int)≤(↑(List.length l15):Int))∧∀ (l16:LL),l16=List.take (Int.toNat (↑(0:Nat):Int)) l15→Ob (Shp [Kd.int IntKind.i64,Kd.int IntKind.i64] l2∧List.length l16+List.length l2≤(1048576:Nat))∧∀ (l17:LL),l17=l16++l2→Ob (Shp [Kd.int IntKind.i64,Kd.int IntKind.i64] l3∧List.length l17+List.length l3≤(1048576:Nat))∧∀ (l18:LL),l18=l17++l3→∀ (x19:Int),x19=(↑(List.length l18):Int)→Ob ((0:Int)≤(0:Int)∧upto (othD x0 l18) (0:Int))∧∀ (g20:Nat→Value) (x21:Int),Ob ((0:Int)≤x21∧upto (othD x0 l18) x21)→(x21<x19→Ob ((0:Int)≤x21∧x21<(↑(List.length l18):Int))∧∀ (x22:Int),x22=x21→Ob ((0:Int)≤x22∧x22<(↑(List.length l18):Int))∧Ob (Shp [Kd.int IntKind.i64,Kd.int IntKind.i64] l18)∧∀ (x23 x24:Int),Ob (l18[Int.toNat x22]?=some [dn x23,dn x24])→(x23=x0→(x21=(-1:Int)→Ob (LSh pairS l18∧List.length l18≤(12:Nat))∧∀ (l25:LL) (x26:Int),Ob ([vl l25,vn x26]=m_best l18)→∀ (x27:Int),x27=(↑(List.length l25):Int)→∀ (x28:Int),x28=min x27 x1→Ob ((0:Int)≤(0:Int)∧(0:Int)≤x28∧x28≤(↑(List.length l25):Int)∧(↑(List.length l25):Int)≤(↑(List.length l25):Int)∧Rect (2) l25)∧∀ (l29:LL),l29=List.take (Int.toNat x28-Int.toNat (0:Int)) (List.drop (Int.toNat (0:Int)) l25)→Ob (R [DV.a [dn x0,dn x1,D.fs l29],vn (0:Int)]))∧(¬x21=(-1:Int)→∀ (x30:Int),x30=w64 (x21+(1:Int))→Ob (delI (othD x0 l18) l18 l18 x21 x30)∧∀ (g31:Nat→Value) (x32 x33:Int) (l34:LL),Ob (delI (othD x0 l18) l18 l34 x33 x32)→∀ (x35:Int),x35=(↑(List.length l34):Int)→(x32<x35→Ob ((0:Int)≤x32∧x32<(↑(List.length l34):Int))∧∀ (x36:Int),x36=x32→Ob ((0:Int)≤x36∧x36<(↑(List.length l34):Int))∧Ob (Shp [Kd.int IntKind.i64,Kd.int IntKind.i64] l34)∧∀ (x37 x38:Int),Ob (l34[Int.toNat x36]?=some [dn x37,dn x38])→(x37=x0→∀ (x39:Int),x39=w64 (x32+(1:Int))→Ob (delI (othD x0 l18) l18 l34 x33 x39)∧Ob (List.length l18-Int.toNat x39<List.length l18-Int.toNat x32))∧(¬x37=x0→Ob ((0:Int)≤x33∧x33<(↑(List.length l34):Int))∧∀ (x40:Int),x40=x33→Ob ((0:Int)≤x40∧x40<(↑(List.length l34):Int))∧∀ (l41:LL),l41=List.set l34 (Int.toNat x40) [dn x37,dn x38]→∀ (x42:Int),x42=w64 (x33+(1:Int))→∀ (x43:Int),x43=w64 (x32+(1:Int))→Ob (delI (othD x0 l18) l18 l41 x42 x43)∧Ob (List.length l18-Int.toNat x43<List.length l18-Int.toNat x32)))∧(¬x32<x35→Ob ((0:Int)≤x33∧x33≤(↑(List.length l34):Int))∧∀ (x44:Int),x44=x33→∀ (l45:LL),l45=List.take (Int.toNat x44) l34++List.replicate (List.length l34-Int.toNat x44) [dn (0:Int),dn (0:Int)]→Ob ((0:Int)≤x33∧x33≤(↑(List.length l45):Int))∧∀ (l46:LL),l46=List.take (Int.toNat x33) l45→Ob (LSh pairS l46∧List.length l46≤(12:Nat))∧∀ (l47:LL) (x48:Int),Ob ([vl l47,vn x48]=m_best l46)→∀ (x49:Int),x49=(↑(List.length l47):Int)→∀ (x50:Int),x50=min x49 x1→Ob ((0:Int)≤(0:Int)∧(0:Int)≤x50∧x50≤(↑(List.length l47):Int)∧(↑(List.length l47):Int)≤(↑(List.length l47):Int)∧Rect (2) l47)∧∀ (l51:LL),l51=List.take (Int.toNat x50-Int.toNat (0:Int)) (List.drop (Int.toNat (0:Int)) l47)→Ob (R [DV.a [dn x0,dn x1,D.fs l51],vn (0:Int)]))))∧(¬x23=x0→∀ (x52:Int),x52=w64 (x21+(1:Int))→Ob ((0:Int)≤x52∧upto (othD x0 l18) x52)∧Ob (List.length l18-Int.toNat x52<List.length l18-Int.toNat x21)))∧(¬x21<x19→Ob (LSh pairS l18∧List.length l18≤(12:Nat))∧∀ (l53:LL) (x54:Int),Ob ([vl l53,vn x54]=m_best l18)→∀ (x55:Int),x55=(↑(List.length l53):Int)→∀ (x56:Int),x56=min x55 x1→Ob ((0:Int)≤(0:Int)∧(0:Int)≤x56∧x56≤(↑(List.length l53):Int)∧(↑(List.length l53):Int)≤(↑(List.length l53):Int)∧Rect (2) l53)∧∀ (l57:LL),l57=List.take (Int.toNat x56-Int.toNat (0:Int)) (List.drop (Int.toNat (0:Int)) l53)→Ob (R [DV.a [dn x0,dn x1,D.fs l57],vn (0:Int)]))
set_option maxRecDepth 100000 in
theorem vcEq_mergeE:vcFn Go.Proofs.Tryz.prog k0 (cxf [(142,t_cacheCheckF),(242,t_descCheck),(270,t_bestF)] [(177001288040543122,0,none),(177001288040543122,2,none),(177001819044406245925383,0,some ⟨[0,1,7],[8],[],[kn],[],fun ρ ds=>0≤ni ds 0∧upto (othD (ρ.n 0) (ρ.d 25)) (ni ds 0),fun ρ ds=>(ρ.d 25).length-(ni ds 0).toNat,none⟩),(177001288040542124,0,some ⟨[0,1],[6,5],[],[kn,kn],[⟨0,118,2,false, .row 26⟩],fun ρ ds=>delI (othD (ρ.n 0) (ρ.d 25)) (ρ.d 25) (li ds 2) (ni ds 1) (ni ds 0),fun ρ ds=>(ρ.d 25).length-(ni ds 0).toNat,none⟩)] [(177000,12,true),(177000,16,true),(177000,17,true),(177000,24,false),(177000,25,false),(177000,27,false),(177001288040543122,21,false),(177001819044407243929391,7,false),(177001819044407243929391,17,true)] [(142,f_cacheCheckF),(242,f_descCheck),(270,f_bestF)]) 3000 177 Go.Proofs.Tryz.f177 (bodyOf Go.Proofs.Tryz.f177) t_mergeE=V_mergeE:=by kernel_rfl
set_option maxHeartbeats 4000000 in
set_option maxRecDepth 20000 in
theorem vcPf_mergeE:V_mergeE:=by
  delta V_mergeE
  simp only [ob_iff,and_imp,forall_exists_index,true_and,and_true,List.cons.injEq,DV.c.injEq,DV.a.injEq,D.raw.injEq,D.fs.injEq,Value.bool.injEq,Value.int.injEq]
  intro x0 x1 l2 l3 h0 hl hn hs hp1 hp2 hp3 hp4 R hR
  obtain rfl:=List.length_eq_zero_iff.1 hl
  have hb1:1≤x1:=hp3.2.2.1
  repeat' first | assumption | exact DShs.tail (DSh_nth (by assumption) (by assumption)) | exact shp32 (by assumption) | exact shp64 (by assumption) | exact shp2 (by assumption) | exact shpF (by assumption) | with_reducible intro _ | with_reducible apply And.intro
  all_goals (try subst_vars)
  all_goals (try simp only [Int.toNat_natCast,List.take_zero,List.nil_append] at *)
  all_goals (try (have z3:=delI.b (by assumption)))
  all_goals (try simp only [List.length_set,List.length_append,List.length_cons,List.length_nil,List.length_take,List.length_replicate] at *)
  all_goals (try simp (disch:=omega) only [w64_id,Int.sub_zero,Int.zero_add] at *)
  all_goals first
    | assumption
    | omega
    | (exfalso;omega)
    | exact shp2 hs
    | exact shp_nil
    | exact ls_nil
    | (rw [‹_=ite _ _ _›,if_pos hp3];done)
    | (rw [if_pos hp3];done)
    | (exfalso;exact absurd hp4 (by assumption))
    | exact hp4
    | exact shp2 (delI.ls (by assumption) hs)
    | exact upto_zero _
    | exact (upto_succ (by omega)).2 ⟨by assumption,othD_yes (by assumption) (by assumption)⟩
    | exact delI.zero (by omega) (by omega) (fun k hk=>‹upto (othD _ _) _› k hk) (othD_no (by assumption) rfl) (by omega)
    | exact delI.keep (by assumption) (by omega) (by assumption) (othD_yes (delI.at' (by assumption) (by assumption)) (by assumption)) (by omega) (by omega)
    | exact delI.skip (by assumption) (by omega) (othD_no (delI.at' (by assumption) (by assumption)) rfl) (by omega)
    | (rw [flt_some (by assumption) (by omega)];exact flt_ls hs)
    | (rw [flt_some (by assumption) (by omega)];have:=flt_len (own:=x0) (l:=l3);omega)
    | exact LS.rect (best_ls (flt_all (by assumption) (by omega)).symm (by assumption) hn hs).2
    | exact LS.rect (best_ls (flt_some (by assumption) (by omega)) (by assumption) hn hs).2
    | exact hR _ (merge_fin (flt_all (by assumption) (by omega)).symm (by assumption) hp3 hp4)
    | exact hR _ (merge_fin (flt_some (by assumption) (by omega)) (by assumption) hp3 hp4)
    | skip
theorem con_mergeE:Con Go.Proofs.Tryz.prog k0 177 t_mergeE :=
  con_of (cxf_ok mixOk (fun p hp=>by
    simp only [List.mem_cons,List.not_mem_nil,or_false] at hp
    rcases hp with rfl | rfl | rfl
    · exact con_cacheCheckF
    · exact con_descCheck
    · exact con_bestF) (fun p hp=>by
    simp only [List.mem_cons,List.not_mem_nil,or_false] at hp
    rcases hp with rfl | rfl | rfl
    · intro t ht;cases ht;exact fn_cacheCheckF
    · intro t ht;cases ht;exact fn_descCheck
    · intro t ht;cases ht;exact fn_bestF)) Go.Proofs.Tryz.func177 rfl rfl rfl rfl vcEq_mergeE vcPf_mergeE
end Go.Vc

namespace Go.Vc
open Classical
def f_epochIn (aa:List DV):List DV:=[vb (decide (p_clock (ai aa 0)∧gI (ai aa 0) 4≤gI (ai aa 0) 3)),vn (if p_clock (ai aa 0) then 0 else 8)]
def t_epochIn:ConT:=⟨[rkS clockS],[kb,kn],fun aa=>DShs clockS (ai aa 0),fun aa rs=>rs=f_epochIn aa⟩
theorem fn_epochIn:∀ aa,t_epochIn.pre aa→∀ rs,t_epochIn.post aa rs→rs=f_epochIn aa:=fun _ _ _ h=>h
def V_epochIn:Prop:=∀ (x0 x1 x2 x3 x4:Int),Ob (DShs clockS [dn x0,dn x1,dn x2,dn x3,dn x4])→∀ (R:List DV→Prop),Ob (∀ (res:List DV),res=[vb (decide (p_clock [dn x0,dn x1,dn x2,dn x3,dn x4]∧x4≤x3)),vn (if p_clock [dn x0,dn x1,dn x2,dn x3,dn x4] then (0:Int) else (8:Int))]→R res)→Ob (DShs clockS [dn x0,dn x1,dn x2,dn x3,dn x4])∧∀ (x6:Int),Ob ([vn x6]=[vn (if p_clock [dn x0,dn x1,dn x2,dn x3,dn x4] then (0:Int) else (8:Int))])→(x6=(0:Int)→(x3≥x4→Ob (R [vb true,vn x6]))∧(¬x3≥x4→Ob (R [vb false,vn x6])))∧(¬x6=(0:Int)→Ob (R [vb false,vn x6]))
set_option maxRecDepth 100000 in
theorem vcEq_epochIn:vcFn Go.Proofs.Tryz.prog k0 (cxf [(109,t_epochCheck)] [] [] [(109,f_epochCheck)]) 3000 178 Go.Proofs.Tryz.f178 (bodyOf Go.Proofs.Tryz.f178) t_epochIn=V_epochIn:=by kernel_rfl
set_option maxHeartbeats 4000000 in
set_option maxRecDepth 20000 in
theorem vcPf_epochIn:V_epochIn:=by
  delta V_epochIn
  simp only [ob_iff,and_imp,forall_exists_index,true_and,and_true,List.cons.injEq,DV.c.injEq,DV.a.injEq,D.raw.injEq,D.fs.injEq,Value.bool.injEq,Value.int.injEq]
  intro x0 x1 x2 x3 x4 hs R hR
  repeat' first | assumption | exact DShs.tail (DSh_nth (by assumption) (by assumption)) | exact shp32 (by assumption) | exact shp64 (by assumption) | exact shp2 (by assumption) | exact shpF (by assumption) | with_reducible intro _ | with_reducible apply And.intro
  all_goals first
    | assumption
    | (refine hR _ ?_
       by_cases hc:p_clock [dn x0,dn x1,dn x2,dn x3,dn x4]
       · rw [if_pos hc] at *
         subst_vars
         first
           | (exfalso;omega)
           | (rw [decide_eq_true (show p_clock [dn x0,dn x1,dn x2,dn x3,dn x4]∧x4≤x3 from ⟨hc,by omega⟩)];done)
           | (rw [decide_eq_false (show ¬(p_clock [dn x0,dn x1,dn x2,dn x3,dn x4]∧x4≤x3) from fun h=>by have:=h.2;omega)];done)
       · rw [if_neg hc] at *
         subst_vars
         first
           | (exfalso;omega)
           | (rw [decide_eq_false (show ¬(p_clock [dn x0,dn x1,dn x2,dn x3,dn x4]∧x4≤x3) from fun h=>hc h.1)];done))
theorem con_epochIn:Con Go.Proofs.Tryz.prog k0 178 t_epochIn :=
  con_of (cxf_ok mixOk (fun p hp=>by
    simp only [List.mem_cons,List.not_mem_nil,or_false] at hp
    subst hp
    exact con_epochCheck) (fun p hp=>by
    simp only [List.mem_cons,List.not_mem_nil,or_false] at hp
    subst hp
    · intro t ht;cases ht;exact fn_epochCheck)) Go.Proofs.Tryz.func178 rfl rfl rfl rfl vcEq_epochIn vcPf_epochIn
end Go.Vc

namespace Go.Vc
open Classical
def f_limbCheck (aa:List DV):List DV:=[vn (if p_limb (li aa 0) then 0 else 8)]
def t_limbCheck:ConT:=⟨[kl],[kn],fun aa=>LSh [s32] (li aa 0),fun aa rs=>rs=f_limbCheck aa⟩
theorem fn_limbCheck:∀ aa,t_limbCheck.pre aa→∀ rs,t_limbCheck.post aa rs→rs=f_limbCheck aa:=fun _ _ _ h=>h
def V_limbCheck:Prop:=∀ (l0:LL),Ob (LSh [s32] l0)→∀ (R:List DV→Prop),Ob (∀ (res:List DV),res=[vn (if p_limb l0 then (0:Int) else (8:Int))]→R res)→∀ (x2:Int),x2=(↑(List.length l0):Int)→(x2>(40:Int)→Ob (R [vn (8:Int)]))∧(¬x2>(40:Int)→∀ (x3:Int),x3=(↑(List.length l0):Int)→(x3>(0:Int)→∀ (x4:Int),x4=(↑(List.length l0):Int)→∀ (x5:Int),x5=w64 (x4-(1:Int))→Ob ((0:Int)≤x5∧x5<(↑(List.length l0):Int))∧Ob (Shp [Kd.int IntKind.u32] l0)∧∀ (x6:Int),Ob (l0[Int.toNat x5]?=some [d32 x6])→(x6=(0:Int)→Ob (R [vn (8:Int)]))∧(¬x6=(0:Int)→Ob (R [vn (0:Int)])))∧(¬x3>(0:Int)→Ob (R [vn (0:Int)])))
set_option maxRecDepth 100000 in
theorem vcEq_limbCheck:vcFn Go.Proofs.Tryz.prog k0 (cxf [] [] [] []) 3000 276 Go.Proofs.Tryz.f276 (bodyOf Go.Proofs.Tryz.f276) t_limbCheck=V_limbCheck:=by kernel_rfl
set_option maxHeartbeats 4000000 in
set_option maxRecDepth 20000 in
theorem vcPf_limbCheck:V_limbCheck:=by
  delta V_limbCheck
  simp only [ob_iff,and_imp,List.cons_append,List.nil_append,dshs_cons,dshs_nil,dsh_int,dsh_bool,dsh_sl,rng64,rng32,true_and,and_true,List.cons.injEq,DV.c.injEq,DV.a.injEq,D.raw.injEq,D.fs.injEq,Value.bool.injEq,Value.int.injEq]
  repeat' first | assumption | exact DShs.tail (DSh_nth (by assumption) (by assumption)) | exact shp32 (by assumption) | exact shp64 (by assumption) | exact shp2 (by assumption) | exact shpF (by assumption) | with_reducible intro _ | with_reducible apply And.intro
  all_goals (try (have e:=w64_pred ‹_=w64 (_-1)› (by omega) (by omega);subst e))
  all_goals first
    | assumption
    | omega
    | (have z:=last_nth (by assumption) (by omega) (by assumption);apply ‹∀ res:List DV,_=_→_›;simp [p_limb];grind)
    | (apply ‹∀ res:List DV,_=_→_›;simp [p_limb];grind)
theorem con_limbCheck:Con Go.Proofs.Tryz.prog k0 276 t_limbCheck :=
  con_of (cxf_ok mixOk (fun p hp=>by cases hp) (fun p hp=>by cases hp)) Go.Proofs.Tryz.func276 rfl rfl rfl rfl vcEq_limbCheck vcPf_limbCheck
end Go.Vc

namespace Go.Vc
open Classical
def f_dyCheck (aa:List DV):List DV:=[vn (if p_dy (ai aa 0) then 0 else 8)]
def t_dyCheck:ConT:=⟨[rkS dyS],[kn],fun aa=>DShs dyS (ai aa 0),fun aa rs=>rs=f_dyCheck aa⟩
theorem fn_dyCheck:∀ aa,t_dyCheck.pre aa→∀ rs,t_dyCheck.post aa rs→rs=f_dyCheck aa:=fun _ _ _ h=>h
def V_dyCheck:Prop:=∀ (b0:Bool) (l1:LL) (x2:Int),Ob (DShs dyS [db b0,D.fs l1,dn x2])→∀ (R:List DV→Prop),Ob (∀ (res:List DV),res=[vn (if p_dy [db b0,D.fs l1,dn x2] then (0:Int) else (8:Int))]→R res)→∀ (x4:Int),x4=(↑(List.length l1):Int)→(x4=(0:Int)→Ob (LSh [s32] l1)∧∀ (x5:Int),Ob ([vn x5]=[vn (if p_limb l1 then (0:Int) else (8:Int))])→(x5≠(0:Int)→Ob (R [vn (8:Int)]))∧(¬x5≠(0:Int)→(x2<(0:Int)→Ob (R [vn (8:Int)]))∧(¬x2<(0:Int)→(x2>(1024:Int)→Ob (R [vn (8:Int)]))∧(¬x2>(1024:Int)→(x2≠(0:Int)→Ob (R [vn (8:Int)]))∧(¬x2≠(0:Int)→(b0=true→Ob (R [vn (8:Int)]))∧(b0=false→Ob (R [vn (0:Int)])))))))∧(¬x4=(0:Int)→Ob (LSh [s32] l1)∧∀ (x6:Int),Ob ([vn x6]=[vn (if p_limb l1 then (0:Int) else (8:Int))])→(x6≠(0:Int)→Ob (R [vn (8:Int)]))∧(¬x6≠(0:Int)→(x2<(0:Int)→Ob (R [vn (8:Int)]))∧(¬x2<(0:Int)→(x2>(1024:Int)→Ob (R [vn (8:Int)]))∧(¬x2>(1024:Int)→(x2>(0:Int)→Ob ((0:Int)≤(0:Int)∧(0:Int)<(↑(List.length l1):Int))∧Ob (Shp [Kd.int IntKind.u32] l1)∧∀ (x7:Int),Ob (l1[Int.toNat (0:Int)]?=some [d32 x7])→Ob ((2:Int)≠(0:Int))∧∀ (x8:Int),x8=Int.tmod x7 (2:Int)→(x8=(0:Int)→Ob (R [vn (8:Int)]))∧(¬x8=(0:Int)→Ob (R [vn (0:Int)])))∧(¬x2>(0:Int)→Ob (R [vn (0:Int)]))))))
set_option maxRecDepth 100000 in
theorem vcEq_dyCheck:vcFn Go.Proofs.Tryz.prog k0 (cxf [(276,t_limbCheck)] [] [] [(276,f_limbCheck)]) 3000 236 Go.Proofs.Tryz.f236 (bodyOf Go.Proofs.Tryz.f236) t_dyCheck=V_dyCheck:=by kernel_rfl
set_option maxHeartbeats 4000000 in
set_option maxRecDepth 20000 in
theorem vcPf_dyCheck:V_dyCheck:=by
  delta V_dyCheck
  simp only [ob_iff,and_imp,List.cons_append,List.nil_append,dshs_cons,dshs_nil,dsh_int,dsh_bool,dsh_sl,rng64,rng32,true_and,and_true,List.cons.injEq,DV.c.injEq,DV.a.injEq,D.raw.injEq,D.fs.injEq,Value.bool.injEq,Value.int.injEq]
  repeat' first | assumption | exact DShs.tail (DSh_nth (by assumption) (by assumption)) | exact shp32 (by assumption) | exact shp64 (by assumption) | exact shp2 (by assumption) | exact shpF (by assumption) | with_reducible intro _ | with_reducible apply And.intro
  all_goals (try (have z:=nth_z (by assumption);skip))
  all_goals first
    | assumption
    | omega
    | (apply ‹∀ res:List DV,_=_→_›;simp [p_dy,gB,gI,gL,-List.length_eq_zero_iff];grind)
theorem con_dyCheck:Con Go.Proofs.Tryz.prog k0 236 t_dyCheck :=
  con_of (cxf_ok mixOk (fun p hp=>by
    simp only [List.mem_cons,List.not_mem_nil,or_false] at hp
    subst hp
    exact con_limbCheck) (fun p hp=>by
    simp only [List.mem_cons,List.not_mem_nil,or_false] at hp
    subst hp
    · intro t ht;cases ht;exact fn_limbCheck)) Go.Proofs.Tryz.func236 rfl rfl rfl rfl vcEq_dyCheck vcPf_dyCheck
end Go.Vc

namespace Go.Vc
open Classical
def f_massCheck (aa:List DV):List DV:=[vn (if p_mass (ai aa 0) then 0 else 8)]
def t_massCheck:ConT:=⟨[rkS massS],[kn],fun aa=>DShs massS (ai aa 0),fun aa rs=>rs=f_massCheck aa⟩
theorem fn_massCheck:∀ aa,t_massCheck.pre aa→∀ rs,t_massCheck.post aa rs→rs=f_massCheck aa:=fun _ _ _ h=>h
def V_massCheck:Prop:=∀ (b0:Bool) (l1:LL) (x2:Int) (b3:Bool) (l4:LL) (x5:Int) (b6:Bool) (l7:LL) (x8:Int) (b9:Bool) (l10:LL) (x11:Int),Ob (DShs massS [db b0,D.fs l1,dn x2,db b3,D.fs l4,dn x5,db b6,D.fs l7,dn x8,db b9,D.fs l10,dn x11])→∀ (R:List DV→Prop),Ob (∀ (res:List DV),res=[vn (if p_mass [db b0,D.fs l1,dn x2,db b3,D.fs l4,dn x5,db b6,D.fs l7,dn x8,db b9,D.fs l10,dn x11] then (0:Int) else (8:Int))]→R res)→Ob (DShs dyS [db b0,D.fs l1,dn x2])∧∀ (x13:Int),Ob ([vn x13]=[vn (if p_dy [db b0,D.fs l1,dn x2] then (0:Int) else (8:Int))])→(x13≠(0:Int)→Ob (R [vn x13]))∧(¬x13≠(0:Int)→Ob (DShs dyS [db b3,D.fs l4,dn x5])∧∀ (x14:Int),Ob ([vn x14]=[vn (if p_dy [db b3,D.fs l4,dn x5] then (0:Int) else (8:Int))])→(x14≠(0:Int)→Ob (R [vn x14]))∧(¬x14≠(0:Int)→Ob (DShs dyS [db b6,D.fs l7,dn x8])∧∀ (x15:Int),Ob ([vn x15]=[vn (if p_dy [db b6,D.fs l7,dn x8] then (0:Int) else (8:Int))])→(x15≠(0:Int)→Ob (R [vn x15]))∧(¬x15≠(0:Int)→Ob (DShs dyS [db b9,D.fs l10,dn x11])∧∀ (x16:Int),Ob ([vn x16]=[vn (if p_dy [db b9,D.fs l10,dn x11] then (0:Int) else (8:Int))])→(x16≠(0:Int)→Ob (R [vn x16]))∧(¬x16≠(0:Int)→Ob (R [vn (0:Int)])))))
set_option maxRecDepth 100000 in
theorem vcEq_massCheck:vcFn Go.Proofs.Tryz.prog k0 (cxf [(236,t_dyCheck)] [] [] [(236,f_dyCheck)]) 3000 171 Go.Proofs.Tryz.f171 (bodyOf Go.Proofs.Tryz.f171) t_massCheck=V_massCheck:=by kernel_rfl
set_option maxHeartbeats 4000000 in
set_option maxRecDepth 20000 in
theorem vcPf_massCheck:V_massCheck:=by
  delta V_massCheck
  simp only [ob_iff,and_imp,List.cons_append,List.nil_append,dshs_cons,dshs_nil,dsh_int,dsh_bool,dsh_sl,rng64,rng32,true_and,and_true,List.cons.injEq,DV.c.injEq,DV.a.injEq,D.raw.injEq,D.fs.injEq,Value.bool.injEq,Value.int.injEq]
  repeat' first | assumption | exact DShs.tail (DSh_nth (by assumption) (by assumption)) | exact shp32 (by assumption) | exact shp64 (by assumption) | exact shp2 (by assumption) | exact shpF (by assumption) | with_reducible intro _ | with_reducible apply And.intro
  all_goals first
    | assumption
    | omega
    | (apply ‹∀ res:List DV,_=_→_›;simp_all [p_mass,sub3];try grind)
theorem con_massCheck:Con Go.Proofs.Tryz.prog k0 171 t_massCheck :=
  con_of (cxf_ok mixOk (fun p hp=>by
    simp only [List.mem_cons,List.not_mem_nil,or_false] at hp
    subst hp
    exact con_dyCheck) (fun p hp=>by
    simp only [List.mem_cons,List.not_mem_nil,or_false] at hp
    subst hp
    · intro t ht;cases ht;exact fn_dyCheck)) Go.Proofs.Tryz.func171 rfl rfl rfl rfl vcEq_massCheck vcPf_massCheck
end Go.Vc

namespace Go.Vc
open Classical
def f_pushCheck (aa:List DV):List DV:=[vn (if p_push (ai aa 0) then 0 else 8)]
def t_pushCheck:ConT:=⟨[rkS massS],[kn],fun aa=>DShs massS (ai aa 0),fun aa rs=>rs=f_pushCheck aa⟩
theorem fn_pushCheck:∀ aa,t_pushCheck.pre aa→∀ rs,t_pushCheck.post aa rs→rs=f_pushCheck aa:=fun _ _ _ h=>h
def V_pushCheck:Prop:=∀ (b0:Bool) (l1:LL) (x2:Int) (b3:Bool) (l4:LL) (x5:Int) (b6:Bool) (l7:LL) (x8:Int) (b9:Bool) (l10:LL) (x11:Int),Ob (DShs massS [db b0,D.fs l1,dn x2,db b3,D.fs l4,dn x5,db b6,D.fs l7,dn x8,db b9,D.fs l10,dn x11])→∀ (R:List DV→Prop),Ob (∀ (res:List DV),res=[vn (if p_push [db b0,D.fs l1,dn x2,db b3,D.fs l4,dn x5,db b6,D.fs l7,dn x8,db b9,D.fs l10,dn x11] then (0:Int) else (8:Int))]→R res)→Ob (DShs massS [db b0,D.fs l1,dn x2,db b3,D.fs l4,dn x5,db b6,D.fs l7,dn x8,db b9,D.fs l10,dn x11])∧∀ (x13:Int),Ob ([vn x13]=[vn (if p_mass [db b0,D.fs l1,dn x2,db b3,D.fs l4,dn x5,db b6,D.fs l7,dn x8,db b9,D.fs l10,dn x11] then (0:Int) else (8:Int))])→(x13≠(0:Int)→Ob (R [vn (8:Int)]))∧(¬x13≠(0:Int)→(b3=true→Ob (R [vn (8:Int)]))∧(b3=false→∀ (x14:Int),x14=(↑(List.length l4):Int)→(x14=(0:Int)→∀ (x15:Int),x15=(↑(List.length l1):Int)→(x15=(0:Int)→Ob (R [vn (0:Int)]))∧(¬x15=(0:Int)→Ob (R [vn (8:Int)])))∧(¬x14=(0:Int)→Ob (R [vn (0:Int)]))))
set_option maxRecDepth 100000 in
theorem vcEq_pushCheck:vcFn Go.Proofs.Tryz.prog k0 (cxf [(171,t_massCheck)] [(265001091006,0,none)] [] [(171,f_massCheck)]) 3000 265 Go.Proofs.Tryz.f265 (bodyOf Go.Proofs.Tryz.f265) t_pushCheck=V_pushCheck:=by kernel_rfl
set_option maxHeartbeats 4000000 in
set_option maxRecDepth 20000 in
theorem vcPf_pushCheck:V_pushCheck:=by
  delta V_pushCheck
  simp only [ob_iff,and_imp,List.cons_append,List.nil_append,dshs_cons,dshs_nil,dsh_int,dsh_bool,dsh_sl,rng64,rng32,true_and,and_true,List.cons.injEq,DV.c.injEq,DV.a.injEq,D.raw.injEq,D.fs.injEq,Value.bool.injEq,Value.int.injEq]
  repeat' first | assumption | exact DShs.tail (DSh_nth (by assumption) (by assumption)) | exact shp32 (by assumption) | exact shp64 (by assumption) | exact shp2 (by assumption) | exact shpF (by assumption) | with_reducible intro _ | with_reducible apply And.intro
  all_goals first
    | assumption
    | omega
    | (apply ‹∀ res:List DV,_=_→_›;simp [p_push,gB,gL,-List.length_eq_zero_iff] <;> grind)
theorem con_pushCheck:Con Go.Proofs.Tryz.prog k0 265 t_pushCheck :=
  con_of (cxf_ok mixOk (fun p hp=>by
    simp only [List.mem_cons,List.not_mem_nil,or_false] at hp
    subst hp
    exact con_massCheck) (fun p hp=>by
    simp only [List.mem_cons,List.not_mem_nil,or_false] at hp
    subst hp
    · intro t ht;cases ht;exact fn_massCheck)) Go.Proofs.Tryz.func265 rfl rfl rfl rfl vcEq_pushCheck vcPf_pushCheck
end Go.Vc

namespace Go.Vc
open Classical
def f_edgeCheck (aa:List DV):List DV:=[vn (if p_edge (ai aa 0) then 0 else 8)]
def t_edgeCheck:ConT:=⟨[rkS edgeS],[kn],fun aa=>DShs edgeS (ai aa 0),fun aa rs=>rs=f_edgeCheck aa⟩
theorem fn_edgeCheck:∀ aa,t_edgeCheck.pre aa→∀ rs,t_edgeCheck.post aa rs→rs=f_edgeCheck aa:=fun _ _ _ h=>h
def V_edgeCheck:Prop:=∀ (b0:Bool) (x1 x2:Int),Ob (DShs edgeS [db b0,dn x1,dn x2])→∀ (R:List DV→Prop),Ob (∀ (res:List DV),res=[vn (if p_edge [db b0,dn x1,dn x2] then (0:Int) else (8:Int))]→R res)→(b0=true→(x1≥(-2147483647:Int)→(x1≤(2147483647:Int)→(x2≥(-2147483647:Int)→(x2≤(2147483647:Int)→(x1>x2→Ob (R [vn (8:Int)]))∧(¬x1>x2→(true=false→(¬(true=false∧x1=(0:Int)∧x2=(0:Int))→Ob (R [vn (8:Int)]))∧(¬¬(true=false∧x1=(0:Int)∧x2=(0:Int))→Ob (R [vn (0:Int)])))∧(¬true=false→Ob (R [vn (0:Int)]))))∧(¬x2≤(2147483647:Int)→Ob (R [vn (8:Int)])))∧(¬x2≥(-2147483647:Int)→Ob (R [vn (8:Int)])))∧(¬x1≤(2147483647:Int)→Ob (R [vn (8:Int)])))∧(¬x1≥(-2147483647:Int)→Ob (R [vn (8:Int)])))∧(b0=false→(false=false→(¬(false=false∧x1=(0:Int)∧x2=(0:Int))→Ob (R [vn (8:Int)]))∧(¬¬(false=false∧x1=(0:Int)∧x2=(0:Int))→Ob (R [vn (0:Int)])))∧(¬false=false→Ob (R [vn (0:Int)])))
set_option maxRecDepth 100000 in
theorem vcEq_edgeCheck:vcFn Go.Proofs.Tryz.prog k0 (cxf [] [] [] []) 3000 266 Go.Proofs.Tryz.f266 (bodyOf Go.Proofs.Tryz.f266) t_edgeCheck=V_edgeCheck:=by kernel_rfl
set_option maxHeartbeats 4000000 in
set_option maxRecDepth 20000 in
theorem vcPf_edgeCheck:V_edgeCheck:=by
  delta V_edgeCheck
  simp only [ob_iff,and_imp,List.cons_append,List.nil_append,dshs_cons,dshs_nil,dsh_int,dsh_bool,dsh_sl,rng64,rng32,true_and,and_true,List.cons.injEq,DV.c.injEq,DV.a.injEq,D.raw.injEq,D.fs.injEq,Value.bool.injEq,Value.int.injEq]
  repeat' first | assumption | exact DShs.tail (DSh_nth (by assumption) (by assumption)) | exact shp32 (by assumption) | exact shp64 (by assumption) | exact shp2 (by assumption) | exact shpF (by assumption) | with_reducible intro _ | with_reducible apply And.intro
  all_goals first
    | assumption
    | omega
    | (apply ‹∀ res:List DV,_=_→_›;simp_all [p_edge,inV,gB,gI];try omega)
theorem con_edgeCheck:Con Go.Proofs.Tryz.prog k0 266 t_edgeCheck :=
  con_of (cxf_ok mixOk (fun p hp=>by cases hp) (fun p hp=>by cases hp)) Go.Proofs.Tryz.func266 rfl rfl rfl rfl vcEq_edgeCheck vcPf_edgeCheck
end Go.Vc

namespace Go.Vc
open Classical
def f_leastCheck (aa:List DV):List DV:=[vn (e_least (li aa 0))]
def t_leastCheck:ConT:=⟨[kl],[kn],fun aa=>LSh [s32] (li aa 0),fun aa rs=>rs=f_leastCheck aa⟩
theorem fn_leastCheck:∀ aa,t_leastCheck.pre aa→∀ rs,t_leastCheck.post aa rs→rs=f_leastCheck aa:=fun _ _ _ h=>h
def V_leastCheck:Prop:=∀ (l0:LL),Ob (LSh [s32] l0)→∀ (R:List DV→Prop),Ob (∀ (res:List DV),res=[vn (e_least l0)]→R res)→∀ (x2:Int),x2=(↑(List.length l0):Int)→(x2>(8:Int)→Ob (R [vn (4:Int)]))∧(¬x2>(8:Int)→Ob ((1:Int)≤(1:Int)∧upto (at_least l0) (1:Int))∧∀ (g3:Nat→Value) (x4:Int),Ob ((1:Int)≤x4∧upto (at_least l0) x4)→∀ (x5:Int),x5=(↑(List.length l0):Int)→(x4<x5→Ob ((0:Int)≤x4∧x4<(↑(List.length l0):Int))∧Ob (Shp [Kd.int IntKind.u32] l0)∧∀ (x6:Int),Ob (l0[Int.toNat x4]?=some [d32 x6])→∀ (x7:Int),x7=w64 (x4-(1:Int))→Ob ((0:Int)≤x7∧x7<(↑(List.length l0):Int))∧Ob (Shp [Kd.int IntKind.u32] l0)∧∀ (x8:Int),Ob (l0[Int.toNat x7]?=some [d32 x8])→(x6≤x8→Ob (R [vn (8:Int)]))∧(¬x6≤x8→∀ (x9:Int),x9=w64 (x4+(1:Int))→Ob ((1:Int)≤x9∧upto (at_least l0) x9)∧Ob (List.length l0-Int.toNat x9<List.length l0-Int.toNat x4)))∧(¬x4<x5→Ob (R [vn (0:Int)])))
set_option maxRecDepth 100000 in
theorem vcEq_leastCheck:vcFn Go.Proofs.Tryz.prog k0 (cxf [] [(267000,0,some ⟨[0],[3],[],[kn],[],fun ρ ds=>1≤ni ds 0∧upto (at_least (ρ.d 0)) (ni ds 0),fun ρ ds=>(ρ.d 0).length-(ni ds 0).toNat,none⟩)] [] []) 3000 267 Go.Proofs.Tryz.f267 (bodyOf Go.Proofs.Tryz.f267) t_leastCheck=V_leastCheck:=by kernel_rfl
set_option maxHeartbeats 4000000 in
set_option maxRecDepth 20000 in
theorem vcPf_leastCheck:V_leastCheck:=by
  delta V_leastCheck
  simp only [ob_iff,and_imp,List.cons_append,List.nil_append,dshs_cons,dshs_nil,dsh_int,dsh_bool,dsh_sl,rng64,rng32,true_and,and_true,List.cons.injEq,DV.c.injEq,DV.a.injEq,D.raw.injEq,D.fs.injEq,Value.bool.injEq,Value.int.injEq]
  repeat' first | assumption | exact DShs.tail (DSh_nth (by assumption) (by assumption)) | exact shp32 (by assumption) | exact shp64 (by assumption) | exact shp2 (by assumption) | exact shpF (by assumption) | with_reducible intro _ | with_reducible apply And.intro
  all_goals (try (have e:=w64_pred ‹_=w64 (_-1)› (by omega) (by omega);subst e))
  all_goals (try (have e:=w64_succ ‹_=w64 (_+1)› (by omega) (by omega);subst e))
  all_goals first
    | assumption
    | omega
    | (exact fun i hi h0=>by omega)
    | (apply ‹∀ res:List DV,_=_→_›;simp only [e_least];rw [if_pos (by omega)])
    | (apply ‹∀ res:List DV,_=_→_›;simp only [e_least];rw [if_neg (by omega),if_neg (upto_not (at_least_no (by assumption) (by assumption) (by omega) (by omega)) (by omega) (by omega))])
    | (apply ‹∀ res:List DV,_=_→_›;simp only [e_least];rw [if_neg (by omega),if_pos (upto_end (by assumption) (by omega))])
    | (rw [upto_succ (by omega)];exact ⟨by assumption,at_least_yes (by assumption) (by assumption) (by omega)⟩)
theorem con_leastCheck:Con Go.Proofs.Tryz.prog k0 267 t_leastCheck :=
  con_of (cxf_ok mixOk (fun p hp=>by cases hp) (fun p hp=>by cases hp)) Go.Proofs.Tryz.func267 rfl rfl rfl rfl vcEq_leastCheck vcPf_leastCheck
end Go.Vc

namespace Go.Vc
open Classical
def f_partCheck (aa:List DV):List DV:=[vn (if p_part (ai aa 0) then 0 else 8)]
def t_partCheck:ConT:=⟨[rkS partS],[kn],fun aa=>DShs partS (ai aa 0),fun aa rs=>rs=f_partCheck aa⟩
theorem fn_partCheck:∀ aa,t_partCheck.pre aa→∀ rs,t_partCheck.post aa rs→rs=f_partCheck aa:=fun _ _ _ h=>h
def V_partCheck:Prop:=∀ (b0:Bool) (l1:LL) (x2:Int) (b3:Bool) (l4:LL) (x5:Int) (b6:Bool) (l7:LL) (x8:Int) (b9:Bool) (l10:LL) (x11:Int) (b12:Bool) (x13 x14:Int) (l15:LL),Ob (DShs partS [db b0,D.fs l1,dn x2,db b3,D.fs l4,dn x5,db b6,D.fs l7,dn x8,db b9,D.fs l10,dn x11,db b12,dn x13,dn x14,D.fs l15])→∀ (R:List DV→Prop),Ob (∀ (res:List DV),res=[vn (if p_part [db b0,D.fs l1,dn x2,db b3,D.fs l4,dn x5,db b6,D.fs l7,dn x8,db b9,D.fs l10,dn x11,db b12,dn x13,dn x14,D.fs l15] then (0:Int) else (8:Int))]→R res)→Ob (DShs massS [db b0,D.fs l1,dn x2,db b3,D.fs l4,dn x5,db b6,D.fs l7,dn x8,db b9,D.fs l10,dn x11])∧∀ (x17:Int),Ob ([vn x17]=[vn (if p_push [db b0,D.fs l1,dn x2,db b3,D.fs l4,dn x5,db b6,D.fs l7,dn x8,db b9,D.fs l10,dn x11] then (0:Int) else (8:Int))])→(x17≠(0:Int)→Ob (R [vn (8:Int)]))∧(¬x17≠(0:Int)→Ob (DShs edgeS [db b12,dn x13,dn x14])∧∀ (x18:Int),Ob ([vn x18]=[vn (if p_edge [db b12,dn x13,dn x14] then (0:Int) else (8:Int))])→(x18≠(0:Int)→Ob (R [vn (8:Int)]))∧(¬x18≠(0:Int)→Ob (LSh [s32] l15)∧∀ (x19:Int),Ob ([vn x19]=[vn (e_least l15)])→(x19≠(0:Int)→Ob (R [vn (8:Int)]))∧(¬x19≠(0:Int)→Ob (R [vn (0:Int)]))))
set_option maxRecDepth 100000 in
theorem vcEq_partCheck:vcFn Go.Proofs.Tryz.prog k0 (cxf [(265,t_pushCheck),(266,t_edgeCheck),(267,t_leastCheck)] [] [] [(265,f_pushCheck),(266,f_edgeCheck),(267,f_leastCheck)]) 3000 210 Go.Proofs.Tryz.f210 (bodyOf Go.Proofs.Tryz.f210) t_partCheck=V_partCheck:=by kernel_rfl
set_option maxHeartbeats 4000000 in
set_option maxRecDepth 20000 in
theorem vcPf_partCheck:V_partCheck:=by
  delta V_partCheck
  simp only [ob_iff,and_imp,List.cons_append,List.nil_append,dshs_cons,dshs_nil,dsh_int,dsh_bool,dsh_sl,rng64,rng32,true_and,and_true,List.cons.injEq,DV.c.injEq,DV.a.injEq,D.raw.injEq,D.fs.injEq,Value.bool.injEq,Value.int.injEq]
  repeat' first | assumption | exact DShs.tail (DSh_nth (by assumption) (by assumption)) | exact shp32 (by assumption) | exact shp64 (by assumption) | exact shp2 (by assumption) | exact shpF (by assumption) | with_reducible intro _ | with_reducible apply And.intro
  all_goals first
    | assumption
    | omega
    | (apply ‹∀ res:List DV,_=_→_›;simp [p_part,gL,sub3,-List.length_eq_zero_iff] <;> grind)
theorem con_partCheck:Con Go.Proofs.Tryz.prog k0 210 t_partCheck :=
  con_of (cxf_ok mixOk (fun p hp=>by
    simp only [List.mem_cons,List.not_mem_nil,or_false] at hp
    rcases hp with rfl | rfl | rfl
    · exact con_pushCheck
    · exact con_edgeCheck
    · exact con_leastCheck) (fun p hp=>by
    simp only [List.mem_cons,List.not_mem_nil,or_false] at hp
    rcases hp with rfl | rfl | rfl
    · intro t ht;cases ht;exact fn_pushCheck
    · intro t ht;cases ht;exact fn_edgeCheck
    · intro t ht;cases ht;exact fn_leastCheck)) Go.Proofs.Tryz.func210 rfl rfl rfl rfl vcEq_partCheck vcPf_partCheck
end Go.Vc

namespace Go.Vc
open Classical
def f_pastCheck (aa:List DV):List DV:=[vn (e_past (li aa 0))]
def t_pastCheck:ConT:=⟨[kl],[kn],fun aa=>LSh frozS (li aa 0),fun aa rs=>rs=f_pastCheck aa⟩
theorem fn_pastCheck:∀ aa,t_pastCheck.pre aa→∀ rs,t_pastCheck.post aa rs→rs=f_pastCheck aa:=fun _ _ _ h=>h
def V_pastCheck:Prop:=∀ (l0:LL),Ob (LSh frozS l0)→∀ (R:List DV→Prop),Ob (∀ (res:List DV),res=[vn (e_past l0)]→R res)→∀ (x2:Int),x2=(↑(List.length l0):Int)→(x2>(1024:Int)→Ob (R [vn (4:Int)]))∧(¬x2>(1024:Int)→∀ (x3:Int),x3=(↑(List.length l0):Int)→Ob ((0:Int)≤(0:Int)∧(-1:Int)=prv l0 (Int.toNat (0:Int))∧upto (at_past l0) (0:Int))∧∀ (g4:Nat→Value) (x5 x6:Int),Ob ((0:Int)≤x5∧x6=prv l0 (Int.toNat x5)∧upto (at_past l0) x5)→(x5<x3→Ob ((0:Int)≤x5∧x5<(↑(List.length l0):Int))∧Ob (Shp [Kd.int IntKind.i64,Kd.bool,Kd.sl,Kd.int IntKind.i64,Kd.bool,Kd.sl,Kd.int IntKind.i64,Kd.bool,Kd.sl,Kd.int IntKind.i64,Kd.bool,Kd.sl,Kd.int IntKind.i64,Kd.bool,Kd.int IntKind.i64,Kd.int IntKind.i64,Kd.sl] l0)∧∀ (x7:Int) (b8:Bool) (l9:LL) (x10:Int) (b11:Bool) (l12:LL) (x13:Int) (b14:Bool) (l15:LL) (x16:Int) (b17:Bool) (l18:LL) (x19:Int) (b20:Bool) (x21 x22:Int) (l23:LL),Ob (l0[Int.toNat x5]?=some [dn x7,db b8,D.fs l9,dn x10,db b11,D.fs l12,dn x13,db b14,D.fs l15,dn x16,db b17,D.fs l18,dn x19,db b20,dn x21,dn x22,D.fs l23])→(x7≤x6→Ob (R [vn (8:Int)]))∧(¬x7≤x6→(x7>(65535:Int)→Ob (R [vn (8:Int)]))∧(¬x7>(65535:Int)→Ob (DShs partS [db b8,D.fs l9,dn x10,db b11,D.fs l12,dn x13,db b14,D.fs l15,dn x16,db b17,D.fs l18,dn x19,db b20,dn x21,dn x22,D.fs l23])∧∀ (x24:Int),Ob ([vn x24]=[vn (if p_part [db b8,D.fs l9,dn x10,db b11,D.fs l12,dn x13,db b14,D.fs l15,dn x16,db b17,D.fs l18,dn x19,db b20,dn x21,dn x22,D.fs l23] then (0:Int) else (8:Int))])→(x24≠(0:Int)→Ob (R [vn (8:Int)]))∧(¬x24≠(0:Int)→∀ (x25:Int),x25=w64 (x5+(1:Int))→Ob ((0:Int)≤x25∧x7=prv l0 (Int.toNat x25)∧upto (at_past l0) x25)∧Ob (List.length l0-Int.toNat x25<List.length l0-Int.toNat x5)))))∧(¬x5<x3→Ob (R [vn (0:Int)])))
set_option maxRecDepth 100000 in
theorem vcEq_pastCheck:vcFn Go.Proofs.Tryz.prog k0 (cxf [(210,t_partCheck)] [(218000,0,some ⟨[9,10],[11,3],[],[kn,kn],[],fun ρ ds=>0≤ni ds 0∧ni ds 1=prv (ρ.d 0) (ni ds 0).toNat∧upto (at_past (ρ.d 0)) (ni ds 0),fun ρ ds=>(ρ.d 0).length-(ni ds 0).toNat,none⟩)] [] [(210,f_partCheck)]) 3000 218 Go.Proofs.Tryz.f218 (bodyOf Go.Proofs.Tryz.f218) t_pastCheck=V_pastCheck:=by kernel_rfl
set_option maxHeartbeats 4000000 in
set_option maxRecDepth 20000 in
theorem vcPf_pastCheck:V_pastCheck:=by
  delta V_pastCheck
  simp only [ob_iff,and_imp,true_and,and_true,List.cons.injEq,DV.c.injEq,DV.a.injEq,D.raw.injEq,D.fs.injEq,Value.bool.injEq,Value.int.injEq]
  repeat' first | assumption | exact DShs.tail (DSh_nth (by assumption) (by assumption)) | exact shp32 (by assumption) | exact shp64 (by assumption) | exact shp2 (by assumption) | exact shpF (by assumption) | with_reducible intro _ | with_reducible apply And.intro
  all_goals (try (have e:=w64_succ ‹_=w64 (_+1)› (by omega) (by omega);subst e))
  all_goals first
    | assumption
    | omega
    | (exact fun i hi=>by omega)
    | (apply ‹∀ res:List DV,_=_→_›;simp only [e_past];rw [if_pos (by omega)])
    | (apply ‹∀ res:List DV,_=_→_›;simp only [e_past];rw [if_neg (by omega),if_neg (upto_not (at_past_no (by assumption) (by assumption) (by omega) (by assumption)) (by omega) (by omega))])
    | (apply ‹∀ res:List DV,_=_→_›;simp only [e_past];rw [if_neg (by omega),if_neg (upto_not (at_past_no1 (by assumption) (by assumption) (by omega) (by omega)) (by omega) (by omega))])
    | (apply ‹∀ res:List DV,_=_→_›;simp only [e_past];rw [if_neg (by omega),if_pos (upto_end (by assumption) (by omega))])
    | (rw [upto_succ (by omega)];exact ⟨by assumption,at_past_yes (by assumption) (by assumption) (by assumption) (by omega) (by omega) (by assumption)⟩)
    | (exact prv_succ (by assumption) (by omega))
    | (rfl)
theorem con_pastCheck:Con Go.Proofs.Tryz.prog k0 218 t_pastCheck :=
  con_of (cxf_ok mixOk (fun p hp=>by
    simp only [List.mem_cons,List.not_mem_nil,or_false] at hp
    subst hp
    exact con_partCheck) (fun p hp=>by
    simp only [List.mem_cons,List.not_mem_nil,or_false] at hp
    subst hp
    · intro t ht;cases ht;exact fn_partCheck)) Go.Proofs.Tryz.func218 rfl rfl rfl rfl vcEq_pastCheck vcPf_pastCheck
end Go.Vc

namespace Go.Vc
open Classical
def f_seenCheck (aa:List DV):List DV:=[vn (e_seen (li aa 0))]
def t_seenCheck:ConT:=⟨[kl],[kn],fun aa=>LSh [s64] (li aa 0),fun aa rs=>rs=f_seenCheck aa⟩
theorem fn_seenCheck:∀ aa,t_seenCheck.pre aa→∀ rs,t_seenCheck.post aa rs→rs=f_seenCheck aa:=fun _ _ _ h=>h
def V_seenCheck:Prop:=∀ (l0:LL),Ob (LSh [s64] l0)→∀ (R:List DV→Prop),Ob (∀ (res:List DV),res=[vn (e_seen l0)]→R res)→∀ (x2:Int),x2=(↑(List.length l0):Int)→(x2>(4096:Int)→Ob (R [vn (4:Int)]))∧(¬x2>(4096:Int)→∀ (x3:Int),x3=(↑(List.length l0):Int)→Ob ((0:Int)≤(0:Int)∧(-1:Int)=prv l0 (Int.toNat (0:Int))∧upto (at_seen l0) (0:Int))∧∀ (g4:Nat→Value) (x5 x6:Int),Ob ((0:Int)≤x5∧x6=prv l0 (Int.toNat x5)∧upto (at_seen l0) x5)→(x5<x3→Ob ((0:Int)≤x5∧x5<(↑(List.length l0):Int))∧Ob (Shp [Kd.int IntKind.i64] l0)∧∀ (x7:Int),Ob (l0[Int.toNat x5]?=some [dn x7])→(x7≤x6→Ob (R [vn (8:Int)]))∧(¬x7≤x6→(x7>(1048575:Int)→Ob (R [vn (8:Int)]))∧(¬x7>(1048575:Int)→∀ (x8:Int),x8=w64 (x5+(1:Int))→Ob ((0:Int)≤x8∧x7=prv l0 (Int.toNat x8)∧upto (at_seen l0) x8)∧Ob (List.length l0-Int.toNat x8<List.length l0-Int.toNat x5))))∧(¬x5<x3→Ob (R [vn (0:Int)])))
set_option maxRecDepth 100000 in
theorem vcEq_seenCheck:vcFn Go.Proofs.Tryz.prog k0 (cxf [] [(214000,0,some ⟨[9,10],[11,3],[],[kn,kn],[],fun ρ ds=>0≤ni ds 0∧ni ds 1=prv (ρ.d 0) (ni ds 0).toNat∧upto (at_seen (ρ.d 0)) (ni ds 0),fun ρ ds=>(ρ.d 0).length-(ni ds 0).toNat,none⟩)] [] []) 3000 214 Go.Proofs.Tryz.f214 (bodyOf Go.Proofs.Tryz.f214) t_seenCheck=V_seenCheck:=by kernel_rfl
set_option maxHeartbeats 4000000 in
set_option maxRecDepth 20000 in
theorem vcPf_seenCheck:V_seenCheck:=by
  delta V_seenCheck
  simp only [ob_iff,and_imp,List.cons_append,List.nil_append,dshs_cons,dshs_nil,dsh_int,dsh_bool,dsh_sl,rng64,rng32,true_and,and_true,List.cons.injEq,DV.c.injEq,DV.a.injEq,D.raw.injEq,D.fs.injEq,Value.bool.injEq,Value.int.injEq]
  repeat' first | assumption | exact DShs.tail (DSh_nth (by assumption) (by assumption)) | exact shp32 (by assumption) | exact shp64 (by assumption) | exact shp2 (by assumption) | exact shpF (by assumption) | with_reducible intro _ | with_reducible apply And.intro
  all_goals (try (have e:=w64_succ ‹_=w64 (_+1)› (by omega) (by omega);subst e))
  all_goals first
    | assumption
    | omega
    | (exact fun i hi=>by omega)
    | (apply ‹∀ res:List DV,_=_→_›;simp only [e_seen];rw [if_pos (by omega)])
    | (apply ‹∀ res:List DV,_=_→_›;simp only [e_seen];rw [if_neg (by omega),if_neg (upto_not (at_seen_no (by assumption) (by assumption) (by omega) (by omega)) (by omega) (by omega))])
    | (apply ‹∀ res:List DV,_=_→_›;simp only [e_seen];rw [if_neg (by omega),if_pos (upto_end (by assumption) (by omega))])
    | (rw [upto_succ (by omega)];exact ⟨by assumption,at_seen_yes (by assumption) (by assumption) (by omega) (by omega)⟩)
    | (exact prv_succ (by assumption) (by omega))
    | (rfl)
theorem con_seenCheck:Con Go.Proofs.Tryz.prog k0 214 t_seenCheck :=
  con_of (cxf_ok mixOk (fun p hp=>by cases hp) (fun p hp=>by cases hp)) Go.Proofs.Tryz.func214 rfl rfl rfl rfl vcEq_seenCheck vcPf_seenCheck
end Go.Vc

namespace Go.Vc
open Classical
def f_timerCheck (aa:List DV):List DV:=[vn (e_timer (li aa 0))]
def t_timerCheck:ConT:=⟨[kl],[kn],fun aa=>LSh pairS (li aa 0),fun aa rs=>rs=f_timerCheck aa⟩
theorem fn_timerCheck:∀ aa,t_timerCheck.pre aa→∀ rs,t_timerCheck.post aa rs→rs=f_timerCheck aa:=fun _ _ _ h=>h
def V_timerCheck:Prop:=∀ (l0:LL),Ob (LSh pairS l0)→∀ (R:List DV→Prop),Ob (∀ (res:List DV),res=[vn (e_timer l0)]→R res)→∀ (x2:Int),x2=(↑(List.length l0):Int)→(x2>(1024:Int)→Ob (R [vn (4:Int)]))∧(¬x2>(1024:Int)→∀ (x3:Int),x3=(↑(List.length l0):Int)→Ob ((0:Int)≤(0:Int)∧upto (at_timer l0) (0:Int))∧∀ (g4:Nat→Value) (x5:Int),Ob ((0:Int)≤x5∧upto (at_timer l0) x5)→(x5<x3→Ob ((0:Int)≤x5∧x5<(↑(List.length l0):Int))∧Ob (Shp [Kd.int IntKind.i64,Kd.int IntKind.i64] l0)∧∀ (x6 x7:Int),Ob (l0[Int.toNat x5]?=some [dn x6,dn x7])→(x6≥(0:Int)→(x6≤(2147483647:Int)→(x7≥(0:Int)→(x7≤(1048575:Int)→(x5>(0:Int)→∀ (x8:Int),x8=w64 (x5-(1:Int))→Ob ((0:Int)≤x8∧x8<(↑(List.length l0):Int))∧Ob (Shp [Kd.int IntKind.i64,Kd.int IntKind.i64] l0)∧∀ (x9 x10:Int),Ob (l0[Int.toNat x8]?=some [dn x9,dn x10])→(x9<x6→∀ (x11:Int),x11=w64 (x5+(1:Int))→Ob ((0:Int)≤x11∧upto (at_timer l0) x11)∧Ob (List.length l0-Int.toNat x11<List.length l0-Int.toNat x5))∧(¬x9<x6→(x9=x6→(x10<x7→∀ (x12:Int),x12=w64 (x5+(1:Int))→Ob ((0:Int)≤x12∧upto (at_timer l0) x12)∧Ob (List.length l0-Int.toNat x12<List.length l0-Int.toNat x5))∧(¬x10<x7→Ob (R [vn (8:Int)])))∧(¬x9=x6→Ob (R [vn (8:Int)]))))∧(¬x5>(0:Int)→∀ (x13:Int),x13=w64 (x5+(1:Int))→Ob ((0:Int)≤x13∧upto (at_timer l0) x13)∧Ob (List.length l0-Int.toNat x13<List.length l0-Int.toNat x5)))∧(¬x7≤(1048575:Int)→Ob (R [vn (8:Int)])))∧(¬x7≥(0:Int)→Ob (R [vn (8:Int)])))∧(¬x6≤(2147483647:Int)→Ob (R [vn (8:Int)])))∧(¬x6≥(0:Int)→Ob (R [vn (8:Int)])))∧(¬x5<x3→Ob (R [vn (0:Int)])))
set_option maxRecDepth 100000 in
theorem vcEq_timerCheck:vcFn Go.Proofs.Tryz.prog k0 (cxf [] [(215000,0,some ⟨[0,8,9],[10],[],[kn],[],fun ρ ds=>0≤ni ds 0∧upto (at_timer (ρ.d 0)) (ni ds 0),fun ρ ds=>(ρ.d 0).length-(ni ds 0).toNat,none⟩)] [] []) 3000 215 Go.Proofs.Tryz.f215 (bodyOf Go.Proofs.Tryz.f215) t_timerCheck=V_timerCheck:=by kernel_rfl
set_option maxHeartbeats 4000000 in
set_option maxRecDepth 20000 in
theorem vcPf_timerCheck:V_timerCheck:=by
  delta V_timerCheck
  simp only [ob_iff,and_imp,List.cons_append,List.nil_append,dshs_cons,dshs_nil,dsh_int,dsh_bool,dsh_sl,rng64,rng32,true_and,and_true,List.cons.injEq,DV.c.injEq,DV.a.injEq,D.raw.injEq,D.fs.injEq,Value.bool.injEq,Value.int.injEq]
  repeat' first | assumption | exact DShs.tail (DSh_nth (by assumption) (by assumption)) | exact shp32 (by assumption) | exact shp64 (by assumption) | exact shp2 (by assumption) | exact shpF (by assumption) | with_reducible intro _ | with_reducible apply And.intro
  all_goals (try (have e:=w64_pred ‹_=w64 (_-1)› (by omega) (by omega);subst e))
  all_goals (try (have e:=w64_succ ‹_=w64 (_+1)› (by omega) (by omega);subst e))
  all_goals first
    | assumption
    | omega
    | (exact fun i hi=>by omega)
    | (apply ‹∀ res:List DV,_=_→_›;simp only [e_timer];rw [if_pos (by omega)])
    | (apply ‹∀ res:List DV,_=_→_›;simp only [e_timer];rw [if_neg (by omega),if_neg (upto_not (at_timer_no1 (by assumption) (by omega)) (by omega) (by omega))])
    | (apply ‹∀ res:List DV,_=_→_›;simp only [e_timer];rw [if_neg (by omega),if_neg (upto_not (at_timer_no2 (by assumption) (by assumption) (by omega) (by omega)) (by omega) (by omega))])
    | (apply ‹∀ res:List DV,_=_→_›;simp only [e_timer];rw [if_neg (by omega),if_pos (upto_end (by assumption) (by omega))])
    | (rw [upto_succ (by omega)];exact ⟨by assumption,at_timer_yes0 (by assumption) (by omega) (by omega)⟩)
    | (rw [upto_succ (by omega)];exact ⟨by assumption,at_timer_yes (by assumption) (by assumption) (by omega) (by omega)⟩)
theorem con_timerCheck:Con Go.Proofs.Tryz.prog k0 215 t_timerCheck :=
  con_of (cxf_ok mixOk (fun p hp=>by cases hp) (fun p hp=>by cases hp)) Go.Proofs.Tryz.func215 rfl rfl rfl rfl vcEq_timerCheck vcPf_timerCheck
end Go.Vc

namespace Go.Vc
open Classical
def f_eq32 (aa:List DV):List DV:=[vb (decide (li aa 0=li aa 1))]
def t_eq32:ConT:=⟨[kl,kl],[kb],fun aa=>LSh [s32] (li aa 0)∧LSh [s32] (li aa 1),fun aa rs=>rs=f_eq32 aa⟩
theorem fn_eq32:∀ aa,t_eq32.pre aa→∀ rs,t_eq32.post aa rs→rs=f_eq32 aa:=fun _ _ _ h=>h
def V_eq32:Prop:=∀ (l0 l1:LL),Ob (LSh [s32] l0∧LSh [s32] l1)→∀ (R:List DV→Prop),Ob (∀ (res:List DV),res=[vb (decide (l0=l1))]→R res)→∀ (x3:Int),x3=(↑(List.length l0):Int)→∀ (x4:Int),x4=(↑(List.length l1):Int)→(x3≠x4→Ob (R [vb false]))∧(¬x3≠x4→∀ (x5:Int),x5=(↑(List.length l0):Int)→Ob ((0:Int)≤(0:Int)∧List.length l0=List.length l1∧(0:Int)≤(↑(List.length l0):Int)∧List.take (Int.toNat (0:Int)) l0=List.take (Int.toNat (0:Int)) l1)∧∀ (g6:Nat→Value) (x7:Int),Ob ((0:Int)≤x7∧List.length l0=List.length l1∧x7≤(↑(List.length l0):Int)∧List.take (Int.toNat x7) l0=List.take (Int.toNat x7) l1)→(x7<x5→Ob ((0:Int)≤x7∧x7<(↑(List.length l0):Int))∧Ob (Shp [Kd.int IntKind.u32] l0)∧∀ (x8:Int),Ob (l0[Int.toNat x7]?=some [d32 x8])→Ob ((0:Int)≤x7∧x7<(↑(List.length l1):Int))∧Ob (Shp [Kd.int IntKind.u32] l1)∧∀ (x9:Int),Ob (l1[Int.toNat x7]?=some [d32 x9])→(x8≠x9→Ob (R [vb false]))∧(¬x8≠x9→∀ (x10:Int),x10=w64 (x7+(1:Int))→Ob ((0:Int)≤x10∧List.length l0=List.length l1∧x10≤(↑(List.length l0):Int)∧List.take (Int.toNat x10) l0=List.take (Int.toNat x10) l1)∧Ob (List.length l0-Int.toNat x10<List.length l0-Int.toNat x7)))∧(¬x7<x5→Ob (R [vb true])))
set_option maxRecDepth 100000 in
theorem vcEq_eq32:vcFn Go.Proofs.Tryz.prog k0 (cxf [] [(106000,0,some ⟨[1,0,12],[13],[],[kn],[],fun ρ ds=>0≤ni ds 0∧(ρ.d 0).length=(ρ.d 1).length∧ni ds 0≤(ρ.d 0).length∧(ρ.d 0).take (ni ds 0).toNat=(ρ.d 1).take (ni ds 0).toNat,fun ρ ds=>(ρ.d 0).length-(ni ds 0).toNat,none⟩)] [] []) 3000 106 Go.Proofs.Tryz.f106 (bodyOf Go.Proofs.Tryz.f106) t_eq32=V_eq32:=by kernel_rfl
set_option maxHeartbeats 4000000 in
set_option maxRecDepth 20000 in
theorem vcPf_eq32:V_eq32:=by
  delta V_eq32
  simp only [ob_iff,and_imp,List.cons_append,List.nil_append,dshs_cons,dshs_nil,dsh_int,dsh_bool,dsh_sl,rng64,rng32,true_and,and_true,List.cons.injEq,DV.c.injEq,DV.a.injEq,D.raw.injEq,D.fs.injEq,Value.bool.injEq,Value.int.injEq]
  repeat' first | assumption | exact DShs.tail (DSh_nth (by assumption) (by assumption)) | exact shp32 (by assumption) | exact shp64 (by assumption) | exact shp2 (by assumption) | exact shpF (by assumption) | with_reducible intro _ | with_reducible apply And.intro
  all_goals (try (have e:=w64_succ ‹_=w64 (_+1)› (by omega) (by omega);subst e))
  all_goals first
    | omega
    | (apply ‹∀ res:List DV,_=_→_›;simp;grind [getE_ne,take_all])
    | (rw [take_succ (by omega) (by assumption),take_succ (by omega) (by assumption)];grind)
    | grind
theorem con_eq32:Con Go.Proofs.Tryz.prog k0 106 t_eq32 :=
  con_of (cxf_ok mixOk (fun p hp=>by cases hp) (fun p hp=>by cases hp)) Go.Proofs.Tryz.func106 rfl rfl rfl rfl vcEq_eq32 vcPf_eq32
end Go.Vc

namespace Go.Vc
open Classical
def f_limbSame (aa:List DV):List DV:=[vb (decide (li aa 0=li aa 1))]
def t_limbSame:ConT:=⟨[kl,kl],[kb],fun aa=>LSh [s32] (li aa 0)∧LSh [s32] (li aa 1),fun aa rs=>rs=f_limbSame aa⟩
theorem fn_limbSame:∀ aa,t_limbSame.pre aa→∀ rs,t_limbSame.post aa rs→rs=f_limbSame aa:=fun _ _ _ h=>h
def V_limbSame:Prop:=∀ (l0 l1:LL),Ob (LSh [s32] l0∧LSh [s32] l1)→∀ (R:List DV→Prop),Ob (∀ (res:List DV),res=[vb (decide (l0=l1))]→R res)→Ob (LSh [s32] l0∧LSh [s32] l1)∧∀ (b3:Bool),Ob ([vb b3]=[vb (decide (l0=l1))])→Ob (R [vb b3])
set_option maxRecDepth 100000 in
theorem vcEq_limbSame:vcFn Go.Proofs.Tryz.prog k0 (cxf [(106,t_eq32)] [] [] [(106,f_eq32)]) 3000 138 Go.Proofs.Tryz.f138 (bodyOf Go.Proofs.Tryz.f138) t_limbSame=V_limbSame:=by kernel_rfl
set_option maxHeartbeats 4000000 in
set_option maxRecDepth 20000 in
theorem vcPf_limbSame:V_limbSame:=by
  delta V_limbSame
  simp only [ob_iff,and_imp,List.cons_append,List.nil_append,dshs_cons,dshs_nil,dsh_int,dsh_bool,dsh_sl,rng64,rng32,true_and,and_true,List.cons.injEq,DV.c.injEq,DV.a.injEq,D.raw.injEq,D.fs.injEq,Value.bool.injEq,Value.int.injEq]
  repeat' first | assumption | exact DShs.tail (DSh_nth (by assumption) (by assumption)) | exact shp32 (by assumption) | exact shp64 (by assumption) | exact shp2 (by assumption) | exact shpF (by assumption) | with_reducible intro _ | with_reducible apply And.intro
  all_goals first
    | assumption
    | omega
    | (apply ‹∀ res:List DV,_=_→_›;simp_all)
    | grind
theorem con_limbSame:Con Go.Proofs.Tryz.prog k0 138 t_limbSame :=
  con_of (cxf_ok mixOk (fun p hp=>by
    simp only [List.mem_cons,List.not_mem_nil,or_false] at hp
    subst hp
    exact con_eq32) (fun p hp=>by
    simp only [List.mem_cons,List.not_mem_nil,or_false] at hp
    subst hp
    · intro t ht;cases ht;exact fn_eq32)) Go.Proofs.Tryz.func138 rfl rfl rfl rfl vcEq_limbSame vcPf_limbSame
end Go.Vc

namespace Go.Vc
open Classical
def f_dySame (aa:List DV):List DV:=[vb (decide (ai aa 0=ai aa 1))]
def t_dySame:ConT:=⟨[rkS dyS,rkS dyS],[kb],fun aa=>DShs dyS (ai aa 0)∧DShs dyS (ai aa 1),fun aa rs=>rs=f_dySame aa⟩
theorem fn_dySame:∀ aa,t_dySame.pre aa→∀ rs,t_dySame.post aa rs→rs=f_dySame aa:=fun _ _ _ h=>h
def V_dySame:Prop:=∀ (b0:Bool) (l1:LL) (x2:Int) (b3:Bool) (l4:LL) (x5:Int),Ob (DShs dyS [db b0,D.fs l1,dn x2]∧DShs dyS [db b3,D.fs l4,dn x5])→∀ (R:List DV→Prop),Ob (∀ (res:List DV),res=[vb (decide ([db b0,D.fs l1,dn x2]=[db b3,D.fs l4,dn x5]))]→R res)→(b0=b3→(x2=x5→Ob (LSh [s32] l1∧LSh [s32] l4)∧∀ (b7:Bool),Ob ([vb b7]=[vb (decide (l1=l4))])→Ob (R [vb b7]))∧(¬x2=x5→Ob (R [vb false])))∧(¬b0=b3→Ob (R [vb false]))
set_option maxRecDepth 100000 in
theorem vcEq_dySame:vcFn Go.Proofs.Tryz.prog k0 (cxf [(138,t_limbSame)] [] [] [(138,f_limbSame)]) 3000 44 Go.Proofs.Tryz.f44 (bodyOf Go.Proofs.Tryz.f44) t_dySame=V_dySame:=by kernel_rfl
set_option maxHeartbeats 4000000 in
set_option maxRecDepth 20000 in
theorem vcPf_dySame:V_dySame:=by
  delta V_dySame
  simp only [ob_iff,and_imp,List.cons_append,List.nil_append,dshs_cons,dshs_nil,dsh_int,dsh_bool,dsh_sl,rng64,rng32,true_and,and_true,List.cons.injEq,DV.c.injEq,DV.a.injEq,D.raw.injEq,D.fs.injEq,Value.bool.injEq,Value.int.injEq]
  repeat' first | assumption | exact DShs.tail (DSh_nth (by assumption) (by assumption)) | exact shp32 (by assumption) | exact shp64 (by assumption) | exact shp2 (by assumption) | exact shpF (by assumption) | with_reducible intro _ | with_reducible apply And.intro
  all_goals first
    | assumption
    | omega
    | (apply ‹∀ res:List DV,_=_→_›;simp_all)
    | grind
theorem con_dySame:Con Go.Proofs.Tryz.prog k0 44 t_dySame :=
  con_of (cxf_ok mixOk (fun p hp=>by
    simp only [List.mem_cons,List.not_mem_nil,or_false] at hp
    subst hp
    exact con_limbSame) (fun p hp=>by
    simp only [List.mem_cons,List.not_mem_nil,or_false] at hp
    subst hp
    · intro t ht;cases ht;exact fn_limbSame)) Go.Proofs.Tryz.func44 rfl rfl rfl rfl vcEq_dySame vcPf_dySame
end Go.Vc

namespace Go.Vc
open Classical
def f_massSame (aa:List DV):List DV:=[vb (decide (ai aa 0=ai aa 1))]
def t_massSame:ConT:=⟨[rkS massS,rkS massS],[kb],fun aa=>DShs massS (ai aa 0)∧DShs massS (ai aa 1),fun aa rs=>rs=f_massSame aa⟩
theorem fn_massSame:∀ aa,t_massSame.pre aa→∀ rs,t_massSame.post aa rs→rs=f_massSame aa:=fun _ _ _ h=>h
def V_massSame:Prop:=∀ (b0:Bool) (l1:LL) (x2:Int) (b3:Bool) (l4:LL) (x5:Int) (b6:Bool) (l7:LL) (x8:Int) (b9:Bool) (l10:LL) (x11:Int) (b12:Bool) (l13:LL) (x14:Int) (b15:Bool) (l16:LL) (x17:Int) (b18:Bool) (l19:LL) (x20:Int) (b21:Bool) (l22:LL) (x23:Int),Ob (DShs massS [db b0,D.fs l1,dn x2,db b3,D.fs l4,dn x5,db b6,D.fs l7,dn x8,db b9,D.fs l10,dn x11]∧DShs massS [db b12,D.fs l13,dn x14,db b15,D.fs l16,dn x17,db b18,D.fs l19,dn x20,db b21,D.fs l22,dn x23])→∀ (R:List DV→Prop),Ob (∀ (res:List DV),res=[vb (decide ([db b0,D.fs l1,dn x2,db b3,D.fs l4,dn x5,db b6,D.fs l7,dn x8,db b9,D.fs l10,dn x11]=[db b12,D.fs l13,dn x14,db b15,D.fs l16,dn x17,db b18,D.fs l19,dn x20,db b21,D.fs l22,dn x23]))]→R res)→Ob (DShs dyS [db b0,D.fs l1,dn x2]∧DShs dyS [db b12,D.fs l13,dn x14])∧∀ (b25:Bool),Ob ([vb b25]=[vb (decide ([db b0,D.fs l1,dn x2]=[db b12,D.fs l13,dn x14]))])→(b25=false→Ob (R [vb false]))∧(¬b25=false→Ob (DShs dyS [db b3,D.fs l4,dn x5]∧DShs dyS [db b15,D.fs l16,dn x17])∧∀ (b26:Bool),Ob ([vb b26]=[vb (decide ([db b3,D.fs l4,dn x5]=[db b15,D.fs l16,dn x17]))])→(b26=false→Ob (R [vb false]))∧(¬b26=false→Ob (DShs dyS [db b6,D.fs l7,dn x8]∧DShs dyS [db b18,D.fs l19,dn x20])∧∀ (b27:Bool),Ob ([vb b27]=[vb (decide ([db b6,D.fs l7,dn x8]=[db b18,D.fs l19,dn x20]))])→(b27=false→Ob (R [vb false]))∧(¬b27=false→Ob (DShs dyS [db b9,D.fs l10,dn x11]∧DShs dyS [db b21,D.fs l22,dn x23])∧∀ (b28:Bool),Ob ([vb b28]=[vb (decide ([db b9,D.fs l10,dn x11]=[db b21,D.fs l22,dn x23]))])→(b28=false→Ob (R [vb false]))∧(¬b28=false→Ob (R [vb true])))))
set_option maxRecDepth 100000 in
theorem vcEq_massSame:vcFn Go.Proofs.Tryz.prog k0 (cxf [(44,t_dySame)] [] [] [(44,f_dySame)]) 3000 96 Go.Proofs.Tryz.f96 (bodyOf Go.Proofs.Tryz.f96) t_massSame=V_massSame:=by kernel_rfl
set_option maxHeartbeats 4000000 in
set_option maxRecDepth 20000 in
theorem vcPf_massSame:V_massSame:=by
  delta V_massSame
  simp only [ob_iff,and_imp,List.cons_append,List.nil_append,dshs_cons,dshs_nil,dsh_int,dsh_bool,dsh_sl,rng64,rng32,true_and,and_true,List.cons.injEq,DV.c.injEq,DV.a.injEq,D.raw.injEq,D.fs.injEq,Value.bool.injEq,Value.int.injEq]
  repeat' first | assumption | exact DShs.tail (DSh_nth (by assumption) (by assumption)) | exact shp32 (by assumption) | exact shp64 (by assumption) | exact shp2 (by assumption) | exact shpF (by assumption) | with_reducible intro _ | with_reducible apply And.intro
  all_goals first
    | assumption
    | omega
    | (apply ‹∀ res:List DV,_=_→_›;simp_all)
    | grind
theorem con_massSame:Con Go.Proofs.Tryz.prog k0 96 t_massSame :=
  con_of (cxf_ok mixOk (fun p hp=>by
    simp only [List.mem_cons,List.not_mem_nil,or_false] at hp
    subst hp
    exact con_dySame) (fun p hp=>by
    simp only [List.mem_cons,List.not_mem_nil,or_false] at hp
    subst hp
    · intro t ht;cases ht;exact fn_dySame)) Go.Proofs.Tryz.func96 rfl rfl rfl rfl vcEq_massSame vcPf_massSame
end Go.Vc

namespace Go.Vc
open Classical
def f_partSame (aa:List DV):List DV:=[vb (decide (ai aa 0=ai aa 1))]
def t_partSame:ConT:=⟨[rkS partS,rkS partS],[kb],fun aa=>DShs partS (ai aa 0)∧DShs partS (ai aa 1),fun aa rs=>rs=f_partSame aa⟩
theorem fn_partSame:∀ aa,t_partSame.pre aa→∀ rs,t_partSame.post aa rs→rs=f_partSame aa:=fun _ _ _ h=>h
def V_partSame:Prop:=∀ (b0:Bool) (l1:LL) (x2:Int) (b3:Bool) (l4:LL) (x5:Int) (b6:Bool) (l7:LL) (x8:Int) (b9:Bool) (l10:LL) (x11:Int) (b12:Bool) (x13 x14:Int) (l15:LL) (b16:Bool) (l17:LL) (x18:Int) (b19:Bool) (l20:LL) (x21:Int) (b22:Bool) (l23:LL) (x24:Int) (b25:Bool) (l26:LL) (x27:Int) (b28:Bool) (x29 x30:Int) (l31:LL),Ob (DShs partS [db b0,D.fs l1,dn x2,db b3,D.fs l4,dn x5,db b6,D.fs l7,dn x8,db b9,D.fs l10,dn x11,db b12,dn x13,dn x14,D.fs l15]∧DShs partS [db b16,D.fs l17,dn x18,db b19,D.fs l20,dn x21,db b22,D.fs l23,dn x24,db b25,D.fs l26,dn x27,db b28,dn x29,dn x30,D.fs l31])→∀ (R:List DV→Prop),Ob (∀ (res:List DV),res=[vb (decide ([db b0,D.fs l1,dn x2,db b3,D.fs l4,dn x5,db b6,D.fs l7,dn x8,db b9,D.fs l10,dn x11,db b12,dn x13,dn x14,D.fs l15]=[db b16,D.fs l17,dn x18,db b19,D.fs l20,dn x21,db b22,D.fs l23,dn x24,db b25,D.fs l26,dn x27,db b28,dn x29,dn x30,D.fs l31]))]→R res)→Ob (DShs massS [db b0,D.fs l1,dn x2,db b3,D.fs l4,dn x5,db b6,D.fs l7,dn x8,db b9,D.fs l10,dn x11]∧DShs massS [db b16,D.fs l17,dn x18,db b19,D.fs l20,dn x21,db b22,D.fs l23,dn x24,db b25,D.fs l26,dn x27])∧∀ (b33:Bool),Ob ([vb b33]=[vb (decide ([db b0,D.fs l1,dn x2,db b3,D.fs l4,dn x5,db b6,D.fs l7,dn x8,db b9,D.fs l10,dn x11]=[db b16,D.fs l17,dn x18,db b19,D.fs l20,dn x21,db b22,D.fs l23,dn x24,db b25,D.fs l26,dn x27]))])→(b33=true→(b12=b28∧x13=x29∧x14=x30→Ob (LSh [s32] l15∧LSh [s32] l31)∧∀ (b34:Bool),Ob ([vb b34]=[vb (decide (l15=l31))])→Ob (R [vb b34]))∧(¬(b12=b28∧x13=x29∧x14=x30)→Ob (R [vb false])))∧(b33=false→Ob (R [vb false]))
set_option maxRecDepth 100000 in
theorem vcEq_partSame:vcFn Go.Proofs.Tryz.prog k0 (cxf [(96,t_massSame),(106,t_eq32)] [] [] [(96,f_massSame),(106,f_eq32)]) 3000 28 Go.Proofs.Tryz.f28 (bodyOf Go.Proofs.Tryz.f28) t_partSame=V_partSame:=by kernel_rfl
set_option maxHeartbeats 4000000 in
set_option maxRecDepth 20000 in
theorem vcPf_partSame:V_partSame:=by
  delta V_partSame
  simp only [ob_iff,and_imp,List.cons_append,List.nil_append,dshs_cons,dshs_nil,dsh_int,dsh_bool,dsh_sl,rng64,rng32,true_and,and_true,List.cons.injEq,DV.c.injEq,DV.a.injEq,D.raw.injEq,D.fs.injEq,Value.bool.injEq,Value.int.injEq]
  repeat' first | assumption | exact DShs.tail (DSh_nth (by assumption) (by assumption)) | exact shp32 (by assumption) | exact shp64 (by assumption) | exact shp2 (by assumption) | exact shpF (by assumption) | with_reducible intro _ | with_reducible apply And.intro
  all_goals first
    | assumption
    | omega
    | (apply ‹∀ res:List DV,_=_→_›;simp_all)
    | grind
theorem con_partSame:Con Go.Proofs.Tryz.prog k0 28 t_partSame :=
  con_of (cxf_ok mixOk (fun p hp=>by
    simp only [List.mem_cons,List.not_mem_nil,or_false] at hp
    rcases hp with rfl | rfl
    · exact con_massSame
    · exact con_eq32) (fun p hp=>by
    simp only [List.mem_cons,List.not_mem_nil,or_false] at hp
    rcases hp with rfl | rfl
    · intro t ht;cases ht;exact fn_massSame
    · intro t ht;cases ht;exact fn_eq32)) Go.Proofs.Tryz.func28 rfl rfl rfl rfl vcEq_partSame vcPf_partSame
end Go.Vc
