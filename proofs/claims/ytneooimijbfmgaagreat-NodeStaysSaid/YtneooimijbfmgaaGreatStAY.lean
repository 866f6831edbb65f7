import Derived.Test.YtneooimijbfmgaaGreatProg
import Derived.KernelRfl
import Derived.Test.YtneooimijbfmgaaGreatStAR
import Derived.Test.YtneooimijbfmgaaGreatStAS
import Derived.Test.YtneooimijbfmgaaGreatStAT
import Derived.Test.YtneooimijbfmgaaGreatStAU
import Derived.Test.YtneooimijbfmgaaGreatStAV
import Derived.Test.YtneooimijbfmgaaGreatStAW
import Derived.Test.YtneooimijbfmgaaGreatStAX
set_option linter.unusedVariables false
set_option linter.unusedSimpArgs false
set_option linter.unusedSectionVars false
noncomputable section
namespace Go.Vc
open Classical
def t_tags:ConT:=⟨[kn,kn],[kl,kn],fun aa=>0≤ni aa 0∧ni aa 0≤65535∧0≤ni aa 1∧ni aa 1≤7,fun aa rs=>∃ l,rs=[vl l,vn 0]∧LSh [s32] l∧p_tags (ni aa 0) (ni aa 1) l⟩
def V_tags:Prop:=∀ (x0 x1:Int),Ob ((0:Int)≤x0∧x0≤(65535:Int)∧(0:Int)≤x1∧x1≤(7:Int))→∀ (R:List DV→Prop),Ob (∀ (res:List DV),(∃ l,res=[vl l,vn (0:Int)]∧LSh [s32] l∧p_tags x0 x1 l)→R res)→(x0<(0:Int)→Ob (R [vl [],vn (2:Int)]))∧(¬x0<(0:Int)→(x0>(65535:Int)→Ob (R [vl [],vn (2:Int)]))∧(¬x0>(65535:Int)→(x1<(0:Int)→Ob (R [vl [],vn (2:Int)]))∧(¬x1<(0:Int)→(x1≥(8:Int)→Ob (R [vl [],vn (2:Int)]))∧(¬x1≥(8:Int)→Ob ((0:Int)≤(0:Int)∧(0:Int)≤(4:Int)∧tgU x0 x1 [] (0:Int))∧∀ (g3:Nat→Value) (x4:Int) (l5:LL),Ob ((0:Int)≤x4∧x4≤(4:Int)∧tgU x0 x1 l5 x4)→(x4<(4:Int)→∀ (x6:Int),x6=w64 (x0*(8:Int))→∀ (x7:Int),x7=w64 (x6+x1)→∀ (x8:Int),x8=w64 (x7*(4:Int))→∀ (x9:Int),x9=w64 (x8+x4)→∀ (x10:Int),x10=IntKind.wrap IntKind.u32 x9→Ob True∧∀ (x11:Int),Ob ([v32 x11]=[v32 (stir x10)])→Ob (List.length l5+List.length [[d32 x11]]≤(1048576:Nat))∧∀ (l12:LL),l12=l5++[[d32 x11]]→∀ (x13:Int),x13=w64 (x4+(1:Int))→Ob ((0:Int)≤x13∧x13≤(4:Int)∧tgU x0 x1 l12 x13)∧Ob ((4:Nat)-Int.toNat x13<(4:Nat)-Int.toNat x4))∧(¬x4<(4:Int)→∀ (x14:Int),x14=(↑(List.length l5):Int)→∀ (x15:Int),x15=IntKind.wrap IntKind.u64 x14→Ob ((0:Int)≤x15∧x15<(16:Int))∧∀ (x16:Int),Ob (∃ x,[vn x16]=[vn x])→∀ (x17:Int),x17=w64 (x14-(0:Int))→Ob (x17≤(12:Int))∧Ob ((1:Int)≤w64 ((0:Int)+(1:Int))∧w64 ((0:Int)+(1:Int))≤(4:Int)∧tgI x0 x1 l5 (w64 ((0:Int)+(1:Int))))∧∀ (g18:Nat→Value) (x19:Int) (l20:LL),Ob ((1:Int)≤x19∧x19≤(4:Int)∧tgI x0 x1 l20 x19)→(x19<x14→Ob ((0:Int)≤x19∧x19≤x19∧tgJ x0 x1 l20 x19 x19)∧∀ (g21:Nat→Value) (x22:Int) (l23:LL),Ob ((0:Int)≤x22∧x22≤x19∧tgJ x0 x1 l23 x19 x22)→(x22>(0:Int)→Ob ((0:Int)≤x22∧x22<(↑(List.length l23):Int))∧∀ (x24:Int),x24=x22→Ob ((0:Int)≤x24∧x24<(↑(List.length l23):Int))∧Ob (Shp [Kd.int IntKind.u32] l23)∧∀ (x25:Int),Ob (l23[Int.toNat x24]?=some [d32 x25])→∀ (x26:Int),x26=w64 (x22-(1:Int))→Ob ((0:Int)≤x26∧x26<(↑(List.length l23):Int))∧∀ (x27:Int),x27=x26→Ob ((0:Int)≤x27∧x27<(↑(List.length l23):Int))∧Ob (Shp [Kd.int IntKind.u32] l23)∧∀ (x28:Int),Ob (l23[Int.toNat x27]?=some [d32 x28])→Ob True∧∀ (b29:Bool),Ob ([vb b29]=[vb (decide (x25<x28))])→(b29=true→∀ (x30:Int),x30=w64 (x22-(1:Int))→∀ (x31:Int),x31=w64 (x22-(1:Int))→Ob ((0:Int)≤x31∧x31<(↑(List.length l23):Int))∧∀ (x32:Int),x32=x31→Ob ((0:Int)≤x32∧x32<(↑(List.length l23):Int))∧Ob (Shp [Kd.int IntKind.u32] l23)∧∀ (x33:Int),Ob (l23[Int.toNat x32]?=some [d32 x33])→Ob ((0:Int)≤x22∧x22<(↑(List.length l23):Int))∧∀ (x34:Int),x34=x22→Ob ((0:Int)≤x34∧x34<(↑(List.length l23):Int))∧Ob (Shp [Kd.int IntKind.u32] l23)∧∀ (x35:Int),Ob (l23[Int.toNat x34]?=some [d32 x35])→Ob ((0:Int)≤x22∧x22<(↑(List.length l23):Int))∧∀ (x36:Int),x36=x22→Ob ((0:Int)≤x36∧x36<(↑(List.length l23):Int))∧∀ (l37:LL),l37=List.set l23 (Int.toNat x36) [d32 x33]→Ob ((0:Int)≤x30∧x30<(↑(List.length l37):Int))∧∀ (x38:Int),x38=x30→Ob ((0:Int)≤x38∧x38<(↑(List.length l37):Int))∧∀ (l39:LL),l39=List.set l37 (Int.toNat x38) [d32 x35]→∀ (x40:Int),x40=w64 (x22-(1:Int))→Ob ((0:Int)≤x40∧x40≤x19∧tgJ x0 x1 l39 x19 x40)∧Ob (Int.toNat x40<Int.toNat x22))∧(b29=false→∀ (x41:Int),x41=w64 (x19+(1:Int))→Ob ((1:Int)≤x41∧x41≤(4:Int)∧tgI x0 x1 l23 x41)∧Ob ((4:Nat)-Int.toNat x41<(4:Nat)-Int.toNat x19)))∧(¬x22>(0:Int)→∀ (x42:Int),x42=w64 (x19+(1:Int))→Ob ((1:Int)≤x42∧x42≤(4:Int)∧tgI x0 x1 l23 x42)∧Ob ((4:Nat)-Int.toNat x42<(4:Nat)-Int.toNat x19)))∧(¬x19<x14→Ob (R [vl l20,vn (0:Int)])))))))
set_option maxRecDepth 100000 in
theorem vcEq_tags:vcFn Go.Proofs.Tryz.prog k0 (cxf [(263,t_stir),(313,t_less32),(295,t_lenU)] [(204000,0,some ⟨[1,0],[21],[],[kn],[⟨4,154,1,true, .tmp⟩],fun ρ ds=>0≤ni ds 0∧ni ds 0≤4∧tgU (ρ.n 0) (ρ.n 1) (li ds 1) (ni ds 0),fun ρ ds=>4-(ni ds 0).toNat,none⟩),(204001488041922128,0,none),(204002100046386254073412,0,some ⟨[0,1,2],[6],[],[kn],[⟨0,154,1,true, .row 4⟩],fun ρ ds=>1≤ni ds 0∧ni ds 0≤4∧tgI (ρ.n 0) (ρ.n 1) (li ds 1) (ni ds 0),fun ρ ds=>4-(ni ds 0).toNat,none⟩),(204002100046386254073412,2,some ⟨[0,1,2,6],[7],[],[kn],[⟨0,154,1,true, .row 4⟩],fun ρ ds=>0≤ni ds 0∧ni ds 0≤ρ.n 9∧tgJ (ρ.n 0) (ρ.n 1) (li ds 1) (ρ.n 9) (ni ds 0),fun ρ ds=>(ni ds 0).toNat,none⟩)] [(204001488041922128,24,true)] [(263,f_stir),(313,f_less32)]) 3000 204 Go.Proofs.Tryz.f204 (bodyOf Go.Proofs.Tryz.f204) t_tags=V_tags:=by kernel_rfl
set_option maxHeartbeats 4000000 in
set_option maxRecDepth 20000 in
theorem vcPf_tags:V_tags:=by
  delta V_tags
  simp only [ob_iff,and_imp,forall_exists_index,true_and,and_true,List.cons.injEq,DV.c.injEq,DV.a.injEq,D.raw.injEq,D.fs.injEq,Value.bool.injEq,Value.int.injEq]
  intro x0 x1 h1 h2 h3 h4 R hR
  repeat' first | assumption | exact DShs.tail (DSh_nth (by assumption) (by assumption)) | exact shp32 (by assumption) | exact shp64 (by assumption) | exact shp2 (by assumption) | exact shpF (by assumption) | with_reducible intro _ | with_reducible apply And.intro
  all_goals (try subst_vars)
  all_goals (try simp (disch:=omega) only [w64_id] at *)
  all_goals first
    | omega
    | assumption
    | exact tgU.zero
    | exact tgU.suc (by assumption) (by omega)
    | (have q:=tgU.len (by assumption);simp only [List.length_cons,List.length_nil];omega)
    | (have q:=tgU.len (by assumption);have q2:=u64_len (show _≤8 by omega);omega)
    | exact (u64_len (by have q:=tgU.len (by assumption);omega)).1
    | exact (u64_len (by have q:=tgU.len (by assumption);omega)).2
    | exact tgU.fin (by assumption) (by omega)
    | exact tgI.into (by assumption)
    | exact tgJ.shp (by assumption)
    | (have q:=tgJ.len (by assumption);have q2:=tgU.len (by assumption);omega)
    | (have q:=tgJ.len (by assumption);have q2:=tgU.len (by assumption);simp only [List.length_set];omega)
    | (have q:=tgU.len (by assumption);rw [w64_id (by omega) (by omega)];omega)
    | exact tgJ.step (by assumption) (by assumption) (by omega) (by omega) (by have q:=tgU.len (by assumption);omega) (by assumption) (by assumption) (by assumption) (by assumption)
    | exact tgJ.stop (by assumption) (by assumption) (by omega) (by assumption) (by assumption)
    | exact tgJ.out (by assumption) (by omega) (Or.inl (by omega))
    | exact hR _ _ rfl (tgI.sh (by assumption)).1 (tgI.sh (by assumption)).2 (tgI.fin' (by assumption) (by have q:=tgU.len (by assumption);omega))
    | trace_state
theorem con_tags:Con Go.Proofs.Tryz.prog k0 204 t_tags :=
  con_of (cxf_ok mixOk (fun p hp=>by
    simp only [List.mem_cons,List.not_mem_nil,or_false] at hp
    rcases hp with rfl | rfl | rfl
    · exact con_stir
    · exact con_less32
    · exact con_lenU) (fun p hp=>by
    simp only [List.mem_cons,List.not_mem_nil,or_false] at hp
    rcases hp with rfl | rfl
    · intro t ht;cases ht;exact fn_stir
    · intro t ht;cases ht;exact fn_less32)) Go.Proofs.Tryz.func204 rfl rfl rfl rfl vcEq_tags vcPf_tags
end Go.Vc

namespace Go.Vc
open Classical
def f_nodeSeedF (aa:List DV):List DV:=m_seed (ai aa 0) (bi aa 1)
def t_nodeSeedF:ConT:=⟨[rkS nodeS,kb],[rkS nodeS,kn],fun aa=>DShs nodeS (ai aa 0),fun aa rs=>rs=f_nodeSeedF aa⟩
theorem fn_nodeSeedF:∀ aa,t_nodeSeedF.pre aa→∀ rs,t_nodeSeedF.post aa rs→rs=f_nodeSeedF aa:=fun _ _ _ h=>h
def V_nodeSeedF:Prop:=∀ (x0 x1:Int) (b2:Bool) (x3 x4 x5 x6 x7:Int) (b8:Bool) (l9:LL) (x10:Int) (b11:Bool) (l12:LL) (x13:Int) (b14:Bool) (l15:LL) (x16:Int) (b17:Bool) (l18:LL) (x19:Int) (b20:Bool) (x21 x22:Int) (l23:LL) (b24:Bool) (x25 x26:Int) (l27:LL) (x28 x29:Int) (l30 l31 l32:LL) (b33:Bool),Ob (DShs nodeS [dn x0,dn x1,db b2,dn x3,dn x4,dn x5,dn x6,dn x7,db b8,D.fs l9,dn x10,db b11,D.fs l12,dn x13,db b14,D.fs l15,dn x16,db b17,D.fs l18,dn x19,db b20,dn x21,dn x22,D.fs l23,db b24,dn x25,dn x26,D.fs l27,dn x28,dn x29,D.fs l30,D.fs l31,D.fs l32])→∀ (R:List DV→Prop),Ob (∀ (res:List DV),res=m_seed [dn x0,dn x1,db b2,dn x3,dn x4,dn x5,dn x6,dn x7,db b8,D.fs l9,dn x10,db b11,D.fs l12,dn x13,db b14,D.fs l15,dn x16,db b17,D.fs l18,dn x19,db b20,dn x21,dn x22,D.fs l23,db b24,dn x25,dn x26,D.fs l27,dn x28,dn x29,D.fs l30,D.fs l31,D.fs l32] b33→R res)→Ob (DShs nodeS [dn x0,dn x1,db b2,dn x3,dn x4,dn x5,dn x6,dn x7,db b8,D.fs l9,dn x10,db b11,D.fs l12,dn x13,db b14,D.fs l15,dn x16,db b17,D.fs l18,dn x19,db b20,dn x21,dn x22,D.fs l23,db b24,dn x25,dn x26,D.fs l27,dn x28,dn x29,D.fs l30,D.fs l31,D.fs l32])∧∀ (x35:Int),Ob ([vn x35]=[vn (if p_node [dn x0,dn x1,db b2,dn x3,dn x4,dn x5,dn x6,dn x7,db b8,D.fs l9,dn x10,db b11,D.fs l12,dn x13,db b14,D.fs l15,dn x16,db b17,D.fs l18,dn x19,db b20,dn x21,dn x22,D.fs l23,db b24,dn x25,dn x26,D.fs l27,dn x28,dn x29,D.fs l30,D.fs l31,D.fs l32] then (0:Int) else (8:Int))])→(x35≠(0:Int)→(x35≠(0:Int)→Ob (R [DV.a [dn (0:Int),dn (0:Int),db false,dn (0:Int),dn (0:Int),dn (0:Int),dn (0:Int),dn (0:Int),db false,D.fs [],dn (0:Int),db false,D.fs [],dn (0:Int),db false,D.fs [],dn (0:Int),db false,D.fs [],dn (0:Int),db false,dn (0:Int),dn (0:Int),D.fs [],db false,dn (0:Int),dn (0:Int),D.fs [],dn (0:Int),dn (0:Int),D.fs [],D.fs [],D.fs []],vn x35]))∧(¬x35≠(0:Int)→Ob False))∧(¬x35≠(0:Int)→(b2=false→Ob (R [DV.a [dn (0:Int),dn (0:Int),db false,dn (0:Int),dn (0:Int),dn (0:Int),dn (0:Int),dn (0:Int),db false,D.fs [],dn (0:Int),db false,D.fs [],dn (0:Int),db false,D.fs [],dn (0:Int),db false,D.fs [],dn (0:Int),db false,dn (0:Int),dn (0:Int),D.fs [],db false,dn (0:Int),dn (0:Int),D.fs [],dn (0:Int),dn (0:Int),D.fs [],D.fs [],D.fs []],vn (14:Int)]))∧(¬b2=false→Ob (DShs partS [db b8,D.fs l9,dn x10,db b11,D.fs l12,dn x13,db b14,D.fs l15,dn x16,db b17,D.fs l18,dn x19,db b20,dn x21,dn x22,D.fs l23]∧List.length l9≤(1048576:Nat)∧List.length l12≤(1048576:Nat)∧List.length l15≤(1048576:Nat)∧List.length l18≤(1048576:Nat)∧List.length l23≤(1048576:Nat))∧∀ (b36:Bool) (l37:LL) (x38:Int) (b39:Bool) (l40:LL) (x41:Int) (b42:Bool) (l43:LL) (x44:Int) (b45:Bool) (l46:LL) (x47:Int) (b48:Bool) (x49 x50:Int) (l51:LL),Ob ([DV.a [db b36,D.fs l37,dn x38,db b39,D.fs l40,dn x41,db b42,D.fs l43,dn x44,db b45,D.fs l46,dn x47,db b48,dn x49,dn x50,D.fs l51]]=[DV.a [db b8,D.fs l9,dn x10,db b11,D.fs l12,dn x13,db b14,D.fs l15,dn x16,db b17,D.fs l18,dn x19,db b20,dn x21,dn x22,D.fs l23]])→Ob (LSh [s64] l27∧List.length l27≤(1048576:Nat))∧∀ (l52:LL),Ob ([vl l52]=[vl l27])→Ob (DShs cacheS [dn x28,dn x29,D.fs l30]∧List.length l30≤(1048576:Nat))∧∀ (x53 x54:Int) (l55:LL),Ob ([DV.a [dn x53,dn x54,D.fs l55]]=[DV.a [dn x28,dn x29,D.fs l30]])→Ob (LSh frozS l31∧e_past l31=(0:Int))∧∀ (l56:LL),Ob ([vl l56]=[vl l31])→Ob (LSh pairS l32∧List.length l32≤(1048576:Nat))∧∀ (l57:LL),Ob ([vl l57]=[vl l32])→(x6≥x7→Ob (DShs partS [db b36,D.fs l37,dn x38,db b39,D.fs l40,dn x41,db b42,D.fs l43,dn x44,db b45,D.fs l46,dn x47,db b48,dn x49,dn x50,D.fs l51]∧DShs partS [db false,D.fs [],dn (0:Int),db false,D.fs [],dn (0:Int),db false,D.fs [],dn (0:Int),db false,D.fs [],dn (0:Int),db false,dn (0:Int),dn (0:Int),D.fs []])∧∀ (b58:Bool),Ob ([vb b58]=[vb (decide ([db b36,D.fs l37,dn x38,db b39,D.fs l40,dn x41,db b42,D.fs l43,dn x44,db b45,D.fs l46,dn x47,db b48,dn x49,dn x50,D.fs l51]=[db false,D.fs [],dn (0:Int),db false,D.fs [],dn (0:Int),db false,D.fs [],dn (0:Int),db false,D.fs [],dn (0:Int),db false,dn (0:Int),dn (0:Int),D.fs []]))])→(b58=false→Ob (R [DV.a [dn (0:Int),dn (0:Int),db false,dn (0:Int),dn (0:Int),dn (0:Int),dn (0:Int),dn (0:Int),db false,D.fs [],dn (0:Int),db false,D.fs [],dn (0:Int),db false,D.fs [],dn (0:Int),db false,D.fs [],dn (0:Int),db false,dn (0:Int),dn (0:Int),D.fs [],db false,dn (0:Int),dn (0:Int),D.fs [],dn (0:Int),dn (0:Int),D.fs [],D.fs [],D.fs []],vn (12:Int)]))∧(¬b58=false→Ob (inV x1)∧∀ (b59:Bool) (l60:LL) (x61:Int) (b62:Bool) (l63:LL) (x64:Int) (b65:Bool) (l66:LL) (x67:Int) (b68:Bool) (l69:LL) (x70 x71:Int),Ob ([DV.a [db b59,D.fs l60,dn x61,db b62,D.fs l63,dn x64,db b65,D.fs l66,dn x67,db b68,D.fs l69,dn x70],vn x71]=[DV.a [db (decide (x1<(0:Int))),D.fs (if x1=(0:Int) then [] else [[d32 (↑(Int.natAbs x1):Int)]]),dn (0:Int),db false,D.fs [[d32 (1:Int)]],dn (0:Int),db false,D.fs (if b33=true then [[d32 (1:Int)]] else []),dn (0:Int),db (decide (x1<(0:Int))),D.fs (if x1=(0:Int) then [] else [[d32 (↑(Int.natAbs x1):Int)]]),dn (0:Int)],vn (0:Int)])→Ob (inV x1)∧∀ (b72:Bool) (x73 x74 x75:Int),Ob ([DV.a [db b72,dn x73,dn x74],vn x75]=[DV.a [db true,dn x1,dn x1],vn (0:Int)])→Ob ((0:Int)≤x6∧x6≤(65535:Int)∧(0:Int)≤x0∧x0≤(7:Int))∧∀ (l76:LL) (x77:Int),Ob (∃ l,[vl l76,vn x77]=[vl l,vn (0:Int)]∧LSh [s32] l∧p_tags x6 x0 l)→Ob (R [DV.a [dn x0,dn x1,db b2,dn x3,dn x4,dn x5,dn x6,dn x7,db b59,D.fs l60,dn x61,db b62,D.fs l63,dn x64,db b65,D.fs l66,dn x67,db b68,D.fs l69,dn x70,db b72,dn x73,dn x74,D.fs l76,db b24,dn x25,dn x26,D.fs l52,dn x53,dn x54,D.fs l55,D.fs l56,D.fs l57],vn (0:Int)])))∧(¬x6≥x7→Ob (R [DV.a [dn (0:Int),dn (0:Int),db false,dn (0:Int),dn (0:Int),dn (0:Int),dn (0:Int),dn (0:Int),db false,D.fs [],dn (0:Int),db false,D.fs [],dn (0:Int),db false,D.fs [],dn (0:Int),db false,D.fs [],dn (0:Int),db false,dn (0:Int),dn (0:Int),D.fs [],db false,dn (0:Int),dn (0:Int),D.fs [],dn (0:Int),dn (0:Int),D.fs [],D.fs [],D.fs []],vn (6:Int)]))))
set_option maxRecDepth 100000 in
theorem vcEq_nodeSeedF:vcFn Go.Proofs.Tryz.prog k0 (cxf [(40,t_nodeCheckF),(222,t_clone32),(153,t_cloneI),(156,t_cloneTi),(231,t_cloneDe),(234,t_dyTwin),(159,t_massTwin),(137,t_partTwin),(154,t_cacheTwin),(155,t_pastTwin),(28,t_partSame),(202,t_massSeed),(203,t_edgeOf),(204,t_tags)] [] [] [(40,f_nodeCheckF),(222,f_clone32),(153,f_cloneI),(156,f_cloneTi),(231,f_cloneDe),(234,f_dyTwin),(159,f_massTwin),(137,f_partTwin),(154,f_cacheTwin),(155,f_pastTwin),(28,f_partSame),(202,f_massSeed),(203,f_edgeOf)]) 3000 35 Go.Proofs.Tryz.f35 (bodyOf Go.Proofs.Tryz.f35) t_nodeSeedF=V_nodeSeedF:=by kernel_rfl
set_option maxHeartbeats 4000000 in
set_option maxRecDepth 20000 in
theorem vcPf_nodeSeedF:V_nodeSeedF:=by
  delta V_nodeSeedF
  simp (config:={ maxSteps:=4000000 }) only [ob_iff,and_imp,forall_exists_index,true_and,and_true,List.cons.injEq,DV.c.injEq,DV.a.injEq,D.raw.injEq,D.fs.injEq,Value.bool.injEq,Value.int.injEq]
  intro x0 x1 b2 x3 x4 x5 x6 x7 b8 l9 x10 b11 l12 x13 b14 l15 x16 b17 l18 x19 b20 x21 x22 l23 b24 x25 x26 l27 x28 x29 l30 l31 l32 b33 hsh R hR
  obtain ⟨hs1,hs2,hs3,hs4,hs5,hs6⟩:=node_sh hsh
  repeat' first | assumption | exact DShs.tail (DSh_nth (by assumption) (by assumption)) | exact shp32 (by assumption) | exact shp64 (by assumption) | exact shp2 (by assumption) | exact shpF (by assumption) | with_reducible intro _ | with_reducible apply And.intro
  all_goals (try (
    have hb:¬b2=false:=(by assumption)
    have hp:=not_if8' (p:=p_node _) (by assumption) (by assumption)
    obtain ⟨q1,q2,q3,q4,q5,q6,q7,q8,q9,q10⟩:=node_lims hb hp.1
    obtain ⟨f1,f2,f3,f4⟩:=node_f hp.1
    obtain ⟨k1,k2,k3,k4,k5,k6,k7,k8,k9,k10,k11,k12,k13,k14,k15⟩:=f4 (by simpa using hb)
    obtain ⟨c1,c2,c3,c4,c5,c6,c7,c8,c9,c10⟩:=clock_b k3))
  all_goals (try have hb:=bnot hb)
  all_goals (try subst_vars)
  all_goals first
    | assumption
    | omega
    | exact hs6.2
    | exact hs5.2
    | exact shpF hs5.2
    | exact ⟨k1,k2⟩
    | (simp [dshs_cons,dsh_bool,dsh_sl,dsh_int,dshs_nil,ls_nil,rng64,LSh];done)
    | exact hR _ (seed_noE (by assumption))
    | exact hR _ (seed_down (not_if8' (p:=p_node _) rfl (by assumption)) rfl)
    | exact hR _ (seed_none hp rfl (by assumption))
    | exact hR _ (seed_none hp rfl (fun hh=>by have hh2:=hh;change _≤_ at hh2;omega))
    | exact hR _ (seed_again hp rfl (show x7≤x6 by omega) (fun e=>absurd (zpart_iff.1 e) (of_decide_eq_false (by assumption))))
    | (have ht:=‹p_tags _ _ _›;have z:=seedL_ok (f:=b33) (hl:=ht) ⟨by assumption,by assumption⟩ hp (by omega) (zpart_iff.2 (bdec (by assumption)));exact hR _ z)
    | skip
theorem con_nodeSeedF:Con Go.Proofs.Tryz.prog k0 35 t_nodeSeedF :=
  con_of (cxf_ok mixOk (fun p hp=>by
    simp only [List.mem_cons,List.not_mem_nil,or_false] at hp
    rcases hp with rfl | rfl | rfl | rfl | rfl | rfl | rfl | rfl | rfl | rfl | rfl | rfl | rfl | rfl
    · exact con_nodeCheckF
    · exact con_clone32
    · exact con_cloneI
    · exact con_cloneTi
    · exact con_cloneDe
    · exact con_dyTwin
    · exact con_massTwin
    · exact con_partTwin
    · exact con_cacheTwin
    · exact con_pastTwin
    · exact con_partSame
    · exact con_massSeed
    · exact con_edgeOf
    · exact con_tags) (fun p hp=>by
    simp only [List.mem_cons,List.not_mem_nil,or_false] at hp
    rcases hp with rfl | rfl | rfl | rfl | rfl | rfl | rfl | rfl | rfl | rfl | rfl | rfl | rfl
    · intro t ht;cases ht;exact fn_nodeCheckF
    · intro t ht;cases ht;exact fn_clone32
    · intro t ht;cases ht;exact fn_cloneI
    · intro t ht;cases ht;exact fn_cloneTi
    · intro t ht;cases ht;exact fn_cloneDe
    · intro t ht;cases ht;exact fn_dyTwin
    · intro t ht;cases ht;exact fn_massTwin
    · intro t ht;cases ht;exact fn_partTwin
    · intro t ht;cases ht;exact fn_cacheTwin
    · intro t ht;cases ht;exact fn_pastTwin
    · intro t ht;cases ht;exact fn_partSame
    · intro t ht;cases ht;exact fn_massSeed
    · intro t ht;cases ht;exact fn_edgeOf)) Go.Proofs.Tryz.func35 rfl rfl rfl rfl vcEq_nodeSeedF vcPf_nodeSeedF
end Go.Vc

namespace Go.Vc
open Classical
def f_epochTick (aa:List DV):List DV:=m_etick (ai aa 0)
def t_epochTick:ConT:=⟨[rkS clockS],[rkS clockS,kb,kn],fun aa=>DShs clockS (ai aa 0),fun aa rs=>rs=f_epochTick aa⟩
theorem fn_epochTick:∀ aa,t_epochTick.pre aa→∀ rs,t_epochTick.post aa rs→rs=f_epochTick aa:=fun _ _ _ h=>h
def V_epochTick:Prop:=∀ (x0 x1 x2 x3 x4:Int),Ob (DShs clockS [dn x0,dn x1,dn x2,dn x3,dn x4])→∀ (R:List DV→Prop),Ob (∀ (res:List DV),res=m_etick [dn x0,dn x1,dn x2,dn x3,dn x4]→R res)→Ob (DShs clockS [dn x0,dn x1,dn x2,dn x3,dn x4])∧∀ (x6:Int),Ob ([vn x6]=[vn (if p_clock [dn x0,dn x1,dn x2,dn x3,dn x4] then (0:Int) else (8:Int))])→(x6≠(0:Int)→Ob (R [DV.a [dn (0:Int),dn (0:Int),dn (0:Int),dn (0:Int),dn (0:Int)],vb false,vn x6]))∧(¬x6≠(0:Int)→(x1=(2147483647:Int)→Ob (R [DV.a [dn (0:Int),dn (0:Int),dn (0:Int),dn (0:Int),dn (0:Int)],vb false,vn (10:Int)]))∧(¬x1=(2147483647:Int)→∀ (x7:Int),x7=w64 (x1+(1:Int))→∀ (x8:Int),x8=w64 (x7-x2)→(x8≥x0→(x3<(65535:Int)→∀ (x9:Int),x9=w64 (x3+(1:Int))→Ob (R [DV.a [dn x0,dn x7,dn x7,dn x9,dn x4],vb true,vn (0:Int)]))∧(¬x3<(65535:Int)→Ob (R [DV.a [dn x0,dn x7,dn x2,dn x3,dn x4],vb false,vn (0:Int)])))∧(¬x8≥x0→Ob (R [DV.a [dn x0,dn x7,dn x2,dn x3,dn x4],vb false,vn (0:Int)]))))
set_option maxRecDepth 100000 in
theorem vcEq_epochTick:vcFn Go.Proofs.Tryz.prog k0 (cxf [(109,t_epochCheck)] [] [] [(109,f_epochCheck)]) 3000 110 Go.Proofs.Tryz.f110 (bodyOf Go.Proofs.Tryz.f110) t_epochTick=V_epochTick:=by kernel_rfl
set_option maxHeartbeats 4000000 in
set_option maxRecDepth 20000 in
theorem vcPf_epochTick:V_epochTick:=by
  delta V_epochTick
  simp only [ob_iff,and_imp,forall_exists_index,true_and,and_true,List.cons.injEq,DV.c.injEq,DV.a.injEq,D.raw.injEq,D.fs.injEq,Value.bool.injEq,Value.int.injEq]
  intro x0 x1 x2 x3 x4 hs R hR
  repeat' first | assumption | exact DShs.tail (DSh_nth (by assumption) (by assumption)) | exact shp32 (by assumption) | exact shp64 (by assumption) | exact shp2 (by assumption) | exact shpF (by assumption) | with_reducible intro _ | with_reducible apply And.intro
  all_goals first
    | assumption
    | (refine hR _ ?_
       by_cases hc:p_clock [dn x0,dn x1,dn x2,dn x3,dn x4]
       · have hb:=clock_b hc
         try rw [if_pos hc] at *
         subst_vars
         try simp (disch:=omega) only [w64_id] at *
         first
           | (exfalso;omega)
           | exact (etick_max hc (by omega)).symm
           | exact (etick_turn hc (by omega) (by omega) (by omega)).symm
           | exact (etick_stay hc (by omega) (by omega)).symm
       · rw [if_neg hc] at *
         subst_vars
         first
           | (exfalso;omega)
           | exact (etick_no hc).symm)
theorem con_epochTick:Con Go.Proofs.Tryz.prog k0 110 t_epochTick :=
  con_of (cxf_ok mixOk (fun p hp=>by
    simp only [List.mem_cons,List.not_mem_nil,or_false] at hp
    subst hp
    exact con_epochCheck) (fun p hp=>by
    simp only [List.mem_cons,List.not_mem_nil,or_false] at hp
    subst hp
    · intro t ht;cases ht;exact fn_epochCheck)) Go.Proofs.Tryz.func110 rfl rfl rfl rfl vcEq_epochTick vcPf_epochTick
end Go.Vc

namespace Go.Vc
open Classical
def f_timerDueF (aa:List DV):List DV:=m_due (li aa 0) (ni aa 1)
def t_timerDueF:ConT:=⟨[kl,kn],[⟨[.sl],false,true⟩,⟨[.sl],false,true⟩,kn],fun aa=>LSh pairS (li aa 0),fun aa rs=>rs=f_timerDueF aa⟩
theorem fn_timerDueF:∀ aa,t_timerDueF.pre aa→∀ rs,t_timerDueF.post aa rs→rs=f_timerDueF aa:=fun _ _ _ h=>h
def V_timerDueF:Prop:=∀ (l0:LL) (x1:Int),Ob (LSh pairS l0)→∀ (R:List DV→Prop),Ob (∀ (res:List DV),res=m_due l0 x1→R res)→Ob (LSh pairS l0)∧∀ (x3:Int),Ob ([vn x3]=[vn (e_timer l0)])→(x3≠(0:Int)→Ob (R [vl [],vl [],vn x3]))∧(¬x3≠(0:Int)→(x1<(0:Int)→Ob (R [vl [],vl [],vn (2:Int)]))∧(¬x1<(0:Int)→(x1>(2147483647:Int)→Ob (R [vl [],vl [],vn (2:Int)]))∧(¬x1>(2147483647:Int)→∀ (x4:Int),x4=(↑(List.length l0):Int)→Ob ((0:Int)≤(0:Int)∧(0:Int)≤(↑(List.length l0):Int)∧[]=List.take (Int.toNat (0:Int)) l0)∧∀ (g5:Nat→Value) (x6:Int) (l7:LL),Ob ((0:Int)≤x6∧x6≤(↑(List.length l0):Int)∧l7=List.take (Int.toNat x6) l0)→(x6<x4→Ob ((0:Int)≤x6∧x6<(↑(List.length l0):Int))∧Ob (Shp [Kd.int IntKind.i64,Kd.int IntKind.i64] l0)∧∀ (x8 x9:Int),Ob (l0[Int.toNat x6]?=some [dn x8,dn x9])→Ob (List.length l7+List.length [[dn x8,dn x9]]≤(1048576:Nat))∧∀ (l10:LL),l10=l7++[[dn x8,dn x9]]→∀ (x11:Int),x11=w64 (x6+(1:Int))→Ob ((0:Int)≤x11∧x11≤(↑(List.length l0):Int)∧l10=List.take (Int.toNat x11) l0)∧Ob (List.length l0-Int.toNat x11<List.length l0-Int.toNat x6))∧(¬x6<x4→∀ (x12:Int),x12=(↑(List.length l7):Int)→Ob ((2:Int)≠(0:Int))∧∀ (x13:Int),x13=w64 (Int.tdiv x12 (2:Int))→∀ (x14:Int),x14=w64 (x13-(1:Int))→Ob ((-1:Int)≤x14∧x14≤(1024:Int)∧l7=l0)∧∀ (g15:Nat→Value) (x16:Int) (l17:LL),Ob ((-1:Int)≤x16∧x16≤(1024:Int)∧l17=l0)→(x16≥(0:Int)→(Ob ((0:Int)≤x16∧x16≤(1024:Int)∧l17=l0)∧∀ (g18:Nat→Value) (x19:Int) (l20:LL),Ob ((0:Int)≤x19∧x19≤(1024:Int)∧l20=l0)→∀ (x21:Int),x21=w64 ((2:Int)*x19)→∀ (x22:Int),x22=w64 (x21+(1:Int))→(x22≥x12→(x19>x16→Ob (l20=l0)∧Ob ((0:Nat)<(1:Nat)))∧(¬x19>x16→Ob (l20=l0)∧Ob ((0:Nat)<(1:Nat))))∧(¬x22≥x12→(x22<(0:Int)→(x19>x16→Ob (l20=l0)∧Ob ((0:Nat)<(1:Nat)))∧(¬x19>x16→Ob (l20=l0)∧Ob ((0:Nat)<(1:Nat))))∧(¬x22<(0:Int)→∀ (x23:Int),x23=w64 (x22+(1:Int))→((x23<x12→Ob ((0:Int)≤x23∧x23<(↑(List.length l20):Int))∧∀ (x24:Int),x24=x23→Ob ((0:Int)≤x24∧x24<(↑(List.length l20):Int))∧Ob (Shp [Kd.int IntKind.i64,Kd.int IntKind.i64] l20)∧∀ (x25 x26:Int),Ob (l20[Int.toNat x24]?=some [dn x25,dn x26])→Ob ((0:Int)≤x22∧x22<(↑(List.length l20):Int))∧∀ (x27:Int),x27=x22→Ob ((0:Int)≤x27∧x27<(↑(List.length l20):Int))∧Ob (Shp [Kd.int IntKind.i64,Kd.int IntKind.i64] l20)∧∀ (x28 x29:Int),Ob (l20[Int.toNat x27]?=some [dn x28,dn x29])→(x25<x28→Ob (jn6 l20 x12 x22 x23 true)∧Ob ((0:Nat)<(1:Nat)))∧(¬x25<x28→(x25=x28→(x26<x29→Ob (jn6 l20 x12 x22 x23 true)∧Ob ((0:Nat)<(1:Nat)))∧(¬x26<x29→Ob (jn6 l20 x12 x22 x23 false)∧Ob ((0:Nat)<(1:Nat))))∧(¬x25=x28→Ob (jn6 l20 x12 x22 x23 false)∧Ob ((0:Nat)<(1:Nat)))))∧(¬x23<x12→Ob (jn6 l20 x12 x22 x23 false)∧Ob ((0:Nat)<(1:Nat))))∧∀ (g30:Nat→Value) (b31:Bool),Ob (jn6 l20 x12 x22 x23 b31)→(b31=true→(Ob ((0:Int)≤x23∧x23<(↑(List.length l20):Int))∧∀ (x32:Int),x32=x23→Ob ((0:Int)≤x32∧x32<(↑(List.length l20):Int))∧Ob (Shp [Kd.int IntKind.i64,Kd.int IntKind.i64] l20)∧∀ (x33 x34:Int),Ob (l20[Int.toNat x32]?=some [dn x33,dn x34])→Ob ((0:Int)≤x19∧x19<(↑(List.length l20):Int))∧∀ (x35:Int),x35=x19→Ob ((0:Int)≤x35∧x35<(↑(List.length l20):Int))∧Ob (Shp [Kd.int IntKind.i64,Kd.int IntKind.i64] l20)∧∀ (x36 x37:Int),Ob (l20[Int.toNat x35]?=some [dn x36,dn x37])→(x33<x36→Ob (jn8 l20 x19 (if b31=true then x23 else x22) !true)∧Ob ((0:Nat)<(1:Nat)))∧(¬x33<x36→(x33=x36→(x34<x37→Ob (jn8 l20 x19 (if b31=true then x23 else x22) !true)∧Ob ((0:Nat)<(1:Nat)))∧(¬x34<x37→Ob (jn8 l20 x19 (if b31=true then x23 else x22) !false)∧Ob ((0:Nat)<(1:Nat))))∧(¬x33=x36→Ob (jn8 l20 x19 (if b31=true then x23 else x22) !false)∧Ob ((0:Nat)<(1:Nat)))))∧∀ (g38:Nat→Value) (b39:Bool),Ob (jn8 l20 x19 (if b31=true then x23 else x22) b39)→(b39=true→(x19>x16→Ob (l20=l0)∧Ob ((0:Nat)<(1:Nat)))∧(¬x19>x16→Ob (l20=l0)∧Ob ((0:Nat)<(1:Nat))))∧(b39=false→Ob ((0:Int)≤x23∧x23<(↑(List.length l20):Int))∧∀ (x40:Int),x40=x23→Ob ((0:Int)≤x40∧x40<(↑(List.length l20):Int))∧Ob (Shp [Kd.int IntKind.i64,Kd.int IntKind.i64] l20)∧∀ (x41 x42:Int),Ob (l20[Int.toNat x40]?=some [dn x41,dn x42])→Ob ((0:Int)≤x19∧x19<(↑(List.length l20):Int))∧∀ (x43:Int),x43=x19→Ob ((0:Int)≤x43∧x43<(↑(List.length l20):Int))∧Ob (Shp [Kd.int IntKind.i64,Kd.int IntKind.i64] l20)∧∀ (x44 x45:Int),Ob (l20[Int.toNat x43]?=some [dn x44,dn x45])→Ob ((0:Int)≤x19∧x19<(↑(List.length l20):Int))∧∀ (x46:Int),x46=x19→Ob ((0:Int)≤x46∧x46<(↑(List.length l20):Int))∧∀ (l47:LL),l47=List.set l20 (Int.toNat x46) [dn x41,dn x42]→Ob ((0:Int)≤x23∧x23<(↑(List.length l47):Int))∧∀ (x48:Int),x48=x23→Ob ((0:Int)≤x48∧x48<(↑(List.length l47):Int))∧∀ (l49:LL),l49=List.set l47 (Int.toNat x48) [dn x44,dn x45]→Ob ((0:Int)≤x23∧x23≤(1024:Int)∧l49=l0)∧Ob (Int.toNat ((2048:Int)-x23)<Int.toNat ((2048:Int)-x19))))∧(b31=false→(Ob ((0:Int)≤x22∧x22<(↑(List.length l20):Int))∧∀ (x50:Int),x50=x22→Ob ((0:Int)≤x50∧x50<(↑(List.length l20):Int))∧Ob (Shp [Kd.int IntKind.i64,Kd.int IntKind.i64] l20)∧∀ (x51 x52:Int),Ob (l20[Int.toNat x50]?=some [dn x51,dn x52])→Ob ((0:Int)≤x19∧x19<(↑(List.length l20):Int))∧∀ (x53:Int),x53=x19→Ob ((0:Int)≤x53∧x53<(↑(List.length l20):Int))∧Ob (Shp [Kd.int IntKind.i64,Kd.int IntKind.i64] l20)∧∀ (x54 x55:Int),Ob (l20[Int.toNat x53]?=some [dn x54,dn x55])→(x51<x54→Ob (jn8 l20 x19 (if b31=true then x23 else x22) !true)∧Ob ((0:Nat)<(1:Nat)))∧(¬x51<x54→(x51=x54→(x52<x55→Ob (jn8 l20 x19 (if b31=true then x23 else x22) !true)∧Ob ((0:Nat)<(1:Nat)))∧(¬x52<x55→Ob (jn8 l20 x19 (if b31=true then x23 else x22) !false)∧Ob ((0:Nat)<(1:Nat))))∧(¬x51=x54→Ob (jn8 l20 x19 (if b31=true then x23 else x22) !false)∧Ob ((0:Nat)<(1:Nat)))))∧∀ (g56:Nat→Value) (b57:Bool),Ob (jn8 l20 x19 (if b31=true then x23 else x22) b57)→(b57=true→(x19>x16→Ob (l20=l0)∧Ob ((0:Nat)<(1:Nat)))∧(¬x19>x16→Ob (l20=l0)∧Ob ((0:Nat)<(1:Nat))))∧(b57=false→Ob ((0:Int)≤x22∧x22<(↑(List.length l20):Int))∧∀ (x58:Int),x58=x22→Ob ((0:Int)≤x58∧x58<(↑(List.length l20):Int))∧Ob (Shp [Kd.int IntKind.i64,Kd.int IntKind.i64] l20)∧∀ (x59 x60:Int),Ob (l20[Int.toNat x58]?=some [dn x59,dn x60])→Ob ((0:Int)≤x19∧x19<(↑(List.length l20):Int))∧∀ (x61:Int),x61=x19→Ob ((0:Int)≤x61∧x61<(↑(List.length l20):Int))∧Ob (Shp [Kd.int IntKind.i64,Kd.int IntKind.i64] l20)∧∀ (x62 x63:Int),Ob (l20[Int.toNat x61]?=some [dn x62,dn x63])→Ob ((0:Int)≤x19∧x19<(↑(List.length l20):Int))∧∀ (x64:Int),x64=x19→Ob ((0:Int)≤x64∧x64<(↑(List.length l20):Int))∧∀ (l65:LL),l65=List.set l20 (Int.toNat x64) [dn x59,dn x60]→Ob ((0:Int)≤x22∧x22<(↑(List.length l65):Int))∧∀ (x66:Int),x66=x22→Ob ((0:Int)≤x66∧x66<(↑(List.length l65):Int))∧∀ (l67:LL),l67=List.set l65 (Int.toNat x66) [dn x62,dn x63]→Ob ((0:Int)≤x22∧x22≤(1024:Int)∧l67=l0)∧Ob (Int.toNat ((2048:Int)-x22)<Int.toNat ((2048:Int)-x19)))))))∧∀ (g68:Nat→Value) (b69:Bool) (l70:LL),Ob (l70=l0)→∀ (x71:Int),x71=w64 (x16-(1:Int))→Ob ((-1:Int)≤x71∧x71≤(1024:Int)∧l70=l0)∧Ob (Int.toNat (x71+(1:Int))<Int.toNat (x16+(1:Int))))∧(¬x16≥(0:Int)→Ob (tmF l0 x1 [] [] l17)∧∀ (g72:Nat→Value) (l73 l74 l75:LL),Ob (tmF l0 x1 l73 l74 l75)→∀ (x76:Int),x76=(↑(List.length l75):Int)→(x76>(0:Int)→∀ (x77:Int),x77=(↑(List.length l75):Int)→∀ (x78:Int),x78=w64 (x77-(1:Int))→Ob ((0:Int)≤x78∧x78<(↑(List.length l75):Int))∧∀ (x79:Int),x79=x78→Ob ((0:Int)≤x79∧x79<(↑(List.length l75):Int))∧Ob (Shp [Kd.int IntKind.i64,Kd.int IntKind.i64] l75)∧∀ (x80 x81:Int),Ob (l75[Int.toNat x79]?=some [dn x80,dn x81])→Ob ((0:Int)≤(0:Int)∧(0:Int)<(↑(List.length l75):Int))∧∀ (x82:Int),x82=(0:Int)→Ob ((0:Int)≤x82∧x82<(↑(List.length l75):Int))∧Ob (Shp [Kd.int IntKind.i64,Kd.int IntKind.i64] l75)∧∀ (x83 x84:Int),Ob (l75[Int.toNat x82]?=some [dn x83,dn x84])→Ob ((0:Int)≤(0:Int)∧(0:Int)<(↑(List.length l75):Int))∧∀ (x85:Int),x85=(0:Int)→Ob ((0:Int)≤x85∧x85<(↑(List.length l75):Int))∧∀ (l86:LL),l86=List.set l75 (Int.toNat x85) [dn x80,dn x81]→Ob ((0:Int)≤x78∧x78<(↑(List.length l86):Int))∧∀ (x87:Int),x87=x78→Ob ((0:Int)≤x87∧x87<(↑(List.length l86):Int))∧∀ (l88:LL),l88=List.set l86 (Int.toNat x87) [dn x83,dn x84]→(Ob ((0:Int)≤(0:Int)∧(0:Int)≤(1024:Int)∧poI l75 l88 (0:Int))∧∀ (g89:Nat→Value) (x90:Int) (l91:LL),Ob ((0:Int)≤x90∧x90≤(1024:Int)∧poI l75 l91 x90)→∀ (x92:Int),x92=w64 ((2:Int)*x90)→∀ (x93:Int),x93=w64 (x92+(1:Int))→(x93≥x78→(x90>(0:Int)→Ob (poE l75 l91)∧Ob ((0:Nat)<(1:Nat)))∧(¬x90>(0:Int)→Ob (poE l75 l91)∧Ob ((0:Nat)<(1:Nat))))∧(¬x93≥x78→(x93<(0:Int)→(x90>(0:Int)→Ob (poE l75 l91)∧Ob ((0:Nat)<(1:Nat)))∧(¬x90>(0:Int)→Ob (poE l75 l91)∧Ob ((0:Nat)<(1:Nat))))∧(¬x93<(0:Int)→∀ (x94:Int),x94=w64 (x93+(1:Int))→((x94<x78→Ob ((0:Int)≤x94∧x94<(↑(List.length l91):Int))∧∀ (x95:Int),x95=x94→Ob ((0:Int)≤x95∧x95<(↑(List.length l91):Int))∧Ob (Shp [Kd.int IntKind.i64,Kd.int IntKind.i64] l91)∧∀ (x96 x97:Int),Ob (l91[Int.toNat x95]?=some [dn x96,dn x97])→Ob ((0:Int)≤x93∧x93<(↑(List.length l91):Int))∧∀ (x98:Int),x98=x93→Ob ((0:Int)≤x98∧x98<(↑(List.length l91):Int))∧Ob (Shp [Kd.int IntKind.i64,Kd.int IntKind.i64] l91)∧∀ (x99 x100:Int),Ob (l91[Int.toNat x98]?=some [dn x99,dn x100])→(x96<x99→Ob (jn6 l91 x78 x93 x94 true)∧Ob ((0:Nat)<(1:Nat)))∧(¬x96<x99→(x96=x99→(x97<x100→Ob (jn6 l91 x78 x93 x94 true)∧Ob ((0:Nat)<(1:Nat)))∧(¬x97<x100→Ob (jn6 l91 x78 x93 x94 false)∧Ob ((0:Nat)<(1:Nat))))∧(¬x96=x99→Ob (jn6 l91 x78 x93 x94 false)∧Ob ((0:Nat)<(1:Nat)))))∧(¬x94<x78→Ob (jn6 l91 x78 x93 x94 false)∧Ob ((0:Nat)<(1:Nat))))∧∀ (g101:Nat→Value) (b102:Bool),Ob (jn6 l91 x78 x93 x94 b102)→(b102=true→(Ob ((0:Int)≤x94∧x94<(↑(List.length l91):Int))∧∀ (x103:Int),x103=x94→Ob ((0:Int)≤x103∧x103<(↑(List.length l91):Int))∧Ob (Shp [Kd.int IntKind.i64,Kd.int IntKind.i64] l91)∧∀ (x104 x105:Int),Ob (l91[Int.toNat x103]?=some [dn x104,dn x105])→Ob ((0:Int)≤x90∧x90<(↑(List.length l91):Int))∧∀ (x106:Int),x106=x90→Ob ((0:Int)≤x106∧x106<(↑(List.length l91):Int))∧Ob (Shp [Kd.int IntKind.i64,Kd.int IntKind.i64] l91)∧∀ (x107 x108:Int),Ob (l91[Int.toNat x106]?=some [dn x107,dn x108])→(x104<x107→Ob (jn8 l91 x90 (if b102=true then x94 else x93) !true)∧Ob ((0:Nat)<(1:Nat)))∧(¬x104<x107→(x104=x107→(x105<x108→Ob (jn8 l91 x90 (if b102=true then x94 else x93) !true)∧Ob ((0:Nat)<(1:Nat)))∧(¬x105<x108→Ob (jn8 l91 x90 (if b102=true then x94 else x93) !false)∧Ob ((0:Nat)<(1:Nat))))∧(¬x104=x107→Ob (jn8 l91 x90 (if b102=true then x94 else x93) !false)∧Ob ((0:Nat)<(1:Nat)))))∧∀ (g109:Nat→Value) (b110:Bool),Ob (jn8 l91 x90 (if b102=true then x94 else x93) b110)→(b110=true→(x90>(0:Int)→Ob (poE l75 l91)∧Ob ((0:Nat)<(1:Nat)))∧(¬x90>(0:Int)→Ob (poE l75 l91)∧Ob ((0:Nat)<(1:Nat))))∧(b110=false→Ob ((0:Int)≤x94∧x94<(↑(List.length l91):Int))∧∀ (x111:Int),x111=x94→Ob ((0:Int)≤x111∧x111<(↑(List.length l91):Int))∧Ob (Shp [Kd.int IntKind.i64,Kd.int IntKind.i64] l91)∧∀ (x112 x113:Int),Ob (l91[Int.toNat x111]?=some [dn x112,dn x113])→Ob ((0:Int)≤x90∧x90<(↑(List.length l91):Int))∧∀ (x114:Int),x114=x90→Ob ((0:Int)≤x114∧x114<(↑(List.length l91):Int))∧Ob (Shp [Kd.int IntKind.i64,Kd.int IntKind.i64] l91)∧∀ (x115 x116:Int),Ob (l91[Int.toNat x114]?=some [dn x115,dn x116])→Ob ((0:Int)≤x90∧x90<(↑(List.length l91):Int))∧∀ (x117:Int),x117=x90→Ob ((0:Int)≤x117∧x117<(↑(List.length l91):Int))∧∀ (l118:LL),l118=List.set l91 (Int.toNat x117) [dn x112,dn x113]→Ob ((0:Int)≤x94∧x94<(↑(List.length l118):Int))∧∀ (x119:Int),x119=x94→Ob ((0:Int)≤x119∧x119<(↑(List.length l118):Int))∧∀ (l120:LL),l120=List.set l118 (Int.toNat x119) [dn x115,dn x116]→Ob ((0:Int)≤x94∧x94≤(1024:Int)∧poI l75 l120 x94)∧Ob (Int.toNat ((2048:Int)-x94)<Int.toNat ((2048:Int)-x90))))∧(b102=false→(Ob ((0:Int)≤x93∧x93<(↑(List.length l91):Int))∧∀ (x121:Int),x121=x93→Ob ((0:Int)≤x121∧x121<(↑(List.length l91):Int))∧Ob (Shp [Kd.int IntKind.i64,Kd.int IntKind.i64] l91)∧∀ (x122 x123:Int),Ob (l91[Int.toNat x121]?=some [dn x122,dn x123])→Ob ((0:Int)≤x90∧x90<(↑(List.length l91):Int))∧∀ (x124:Int),x124=x90→Ob ((0:Int)≤x124∧x124<(↑(List.length l91):Int))∧Ob (Shp [Kd.int IntKind.i64,Kd.int IntKind.i64] l91)∧∀ (x125 x126:Int),Ob (l91[Int.toNat x124]?=some [dn x125,dn x126])→(x122<x125→Ob (jn8 l91 x90 (if b102=true then x94 else x93) !true)∧Ob ((0:Nat)<(1:Nat)))∧(¬x122<x125→(x122=x125→(x123<x126→Ob (jn8 l91 x90 (if b102=true then x94 else x93) !true)∧Ob ((0:Nat)<(1:Nat)))∧(¬x123<x126→Ob (jn8 l91 x90 (if b102=true then x94 else x93) !false)∧Ob ((0:Nat)<(1:Nat))))∧(¬x122=x125→Ob (jn8 l91 x90 (if b102=true then x94 else x93) !false)∧Ob ((0:Nat)<(1:Nat)))))∧∀ (g127:Nat→Value) (b128:Bool),Ob (jn8 l91 x90 (if b102=true then x94 else x93) b128)→(b128=true→(x90>(0:Int)→Ob (poE l75 l91)∧Ob ((0:Nat)<(1:Nat)))∧(¬x90>(0:Int)→Ob (poE l75 l91)∧Ob ((0:Nat)<(1:Nat))))∧(b128=false→Ob ((0:Int)≤x93∧x93<(↑(List.length l91):Int))∧∀ (x129:Int),x129=x93→Ob ((0:Int)≤x129∧x129<(↑(List.length l91):Int))∧Ob (Shp [Kd.int IntKind.i64,Kd.int IntKind.i64] l91)∧∀ (x130 x131:Int),Ob (l91[Int.toNat x129]?=some [dn x130,dn x131])→Ob ((0:Int)≤x90∧x90<(↑(List.length l91):Int))∧∀ (x132:Int),x132=x90→Ob ((0:Int)≤x132∧x132<(↑(List.length l91):Int))∧Ob (Shp [Kd.int IntKind.i64,Kd.int IntKind.i64] l91)∧∀ (x133 x134:Int),Ob (l91[Int.toNat x132]?=some [dn x133,dn x134])→Ob ((0:Int)≤x90∧x90<(↑(List.length l91):Int))∧∀ (x135:Int),x135=x90→Ob ((0:Int)≤x135∧x135<(↑(List.length l91):Int))∧∀ (l136:LL),l136=List.set l91 (Int.toNat x135) [dn x130,dn x131]→Ob ((0:Int)≤x93∧x93<(↑(List.length l136):Int))∧∀ (x137:Int),x137=x93→Ob ((0:Int)≤x137∧x137<(↑(List.length l136):Int))∧∀ (l138:LL),l138=List.set l136 (Int.toNat x137) [dn x133,dn x134]→Ob ((0:Int)≤x93∧x93≤(1024:Int)∧poI l75 l138 x93)∧Ob (Int.toNat ((2048:Int)-x93)<Int.toNat ((2048:Int)-x90)))))))∧∀ (g139:Nat→Value) (b140:Bool) (l141:LL),Ob (poE l75 l141)→∀ (x142:Int),x142=(↑(List.length l141):Int)→∀ (x143:Int),x143=w64 (x142-(1:Int))→Ob ((0:Int)≤x143∧x143<(↑(List.length l141):Int))∧∀ (x144:Int),x144=x143→Ob ((0:Int)≤x144∧x144<(↑(List.length l141):Int))∧Ob (Shp [Kd.int IntKind.i64,Kd.int IntKind.i64] l141)∧∀ (x145 x146:Int),Ob (l141[Int.toNat x144]?=some [dn x145,dn x146])→Ob ((0:Int)≤x143∧x143≤(↑(List.length l141):Int))∧∀ (l147:LL),l147=List.take (Int.toNat x143) l141→(x145≤x1→Ob (List.length l73+List.length [[dn x145,dn x146]]≤(1048576:Nat))∧∀ (l148:LL),l148=l73++[[dn x145,dn x146]]→Ob (tmF l0 x1 l148 l74 l147)∧Ob (List.length l147<List.length l75))∧(¬x145≤x1→Ob (List.length l74+List.length [[dn x145,dn x146]]≤(1048576:Nat))∧∀ (l149:LL),l149=l74++[[dn x145,dn x146]]→Ob (tmF l0 x1 l73 l149 l147)∧Ob (List.length l147<List.length l75)))∧(¬x76>(0:Int)→Ob (R [vl l73,vl l74,vn (0:Int)])))))))
set_option maxRecDepth 100000 in
theorem vcEq_timerDueF:vcFn Go.Proofs.Tryz.prog k0 (cxf [(215,t_timerCheck)] [(192001979029974171598299,500006,some ⟨[0,1,2,7,8,9,10],[33],[],[kb],[],fun ρ ds=>jn6 (ρ.d 18) (ρ.n 11) (ρ.n 21) (ρ.n 22) (bi ds 0),fun ρ ds=>0,none⟩),(192001979029974171598299,500008,some ⟨[0,1,2,7,8,9,10],[39],[],[kb],[],fun ρ ds=>jn8 (ρ.d 18) (ρ.n 17) (if ρ.t 23=true then ρ.n 22 else ρ.n 21) (bi ds 0),fun ρ ds=>0,none⟩),(192001981035987191619301,500006,some ⟨[0,1,2,7,8,9,10],[33],[],[kb],[],fun ρ ds=>jn6 (ρ.d 46) (ρ.n 30) (ρ.n 49) (ρ.n 50) (bi ds 0),fun ρ ds=>0,none⟩),(192001981035987191619301,500008,some ⟨[0,1,2,7,8,9,10],[39],[],[kb],[],fun ρ ds=>jn8 (ρ.d 46) (ρ.n 45) (if ρ.t 51=true then ρ.n 50 else ρ.n 49) (bi ds 0),fun ρ ds=>0,none⟩),(192001403025765094,1000017,some ⟨[0,2,3],[16],[],[kb],[⟨0,87,2,true, .cel 4 0⟩],fun ρ ds=>li ds 1=ρ.d 0,fun ρ ds=>0,none⟩),(192001405031772096,1000013,some ⟨[0,3],[12],[],[kb],[⟨0,87,2,true, .cel 4 0⟩],fun ρ ds=>poE (ρ.d 23) (li ds 1),fun ρ ds=>0,none⟩),(192001403025765094,0,some ⟨[2,0],[3],[],[kn],[⟨0,87,2,true, .cel 4 0⟩],fun ρ ds=>-1≤ni ds 0∧ni ds 0≤1024∧li ds 1=ρ.d 0,fun ρ ds=>(ni ds 0+1).toNat,none⟩),(192001979029974171598299,0,some ⟨[1,0,2],[7],[],[kn],[⟨0,87,2,true, .cel 4 0⟩],fun ρ ds=>0≤ni ds 0∧ni ds 0≤1024∧li ds 1=ρ.d 0,fun ρ ds=>(2048-ni ds 0).toNat,none⟩),(192001981035987191619301,0,some ⟨[1,0,2],[7],[],[kn],[⟨0,87,2,true, .cel 4 0⟩],fun ρ ds=>0≤ni ds 0∧ni ds 0≤1024∧poI (ρ.d 23) (li ds 1) (ni ds 0),fun ρ ds=>(2048-ni ds 0).toNat,none⟩),(192000,0,some ⟨[1],[],[],[],[⟨4,87,2,true, .tmp⟩,⟨5,87,2,true, .tmp⟩,⟨0,87,2,true, .cel 4 0⟩],fun ρ ds=>tmF (ρ.d 0) (ρ.n 1) (li ds 0) (li ds 1) (li ds 2),fun ρ ds=>(li ds 2).length,(some 8)⟩),(192001981035987191681303,300003,some ⟨[2,3,4,5,6,7,8,0,1,9,10,11],[],[],[],[],fun _ _=>True,fun _ _=>0,none⟩),(192002555035911261520814158941,300000,some ⟨[0,9,1,2,3,4,5,6,7,8,10,11,12,13,14,15,16,17,18,19,20,21,22,23,24,25,26,27],[],[],[],[],fun _ _=>True,fun _ _=>0,none⟩),(192002557041930299580876221947,300000,some ⟨[0,9,1,2,3,4,5,6,7,8,10,11,12,13,14,15,16,17,18,19,20,21,22,23,24,25,26,27],[],[],[],[],fun _ _=>True,fun _ _=>0,none⟩),(192001981035987191680298,300000,some ⟨[0,9,1,2,3,4,5,6,7,8,10,11,12,13,14,15,16,17,18,19,20,21,22,23,24,25,26,27],[],[],[],[],fun _ _=>True,fun _ _=>0,none⟩),(192001403025764090,300003,some ⟨[7,8,2,3,4,5,6,9,0,1,10,11,12],[],[],[],[],fun _ _=>True,fun _ _=>0,none⟩),(192000827023,0,some ⟨[3,4,10,2,11],[12],[],[kn],[⟨0,87,2,true, .cel 4 0⟩],fun ρ ds=>0≤ni ds 0∧ni ds 0≤(ρ.d 0).length∧li ds 1=(ρ.d 0).take (ni ds 0).toNat,fun ρ ds=>(ρ.d 0).length-(ni ds 0).toNat,none⟩)] [] [(215,f_timerCheck)]) 3000 192 Go.Proofs.Tryz.f192 (bodyOf Go.Proofs.Tryz.f192) t_timerDueF=V_timerDueF:=by kernel_rfl
set_option maxHeartbeats 4000000 in
set_option maxRecDepth 20000 in
theorem vcPf_timerDueF:V_timerDueF:=by
  delta V_timerDueF
  simp only [ob_iff,and_imp,forall_exists_index,true_and,and_true,List.cons.injEq,DV.c.injEq,DV.a.injEq,D.raw.injEq,D.fs.injEq,Value.bool.injEq,Value.int.injEq]
  intro l0 x1 h1 h2 R hR
  repeat' first | assumption | exact DShs.tail (DSh_nth (by assumption) (by assumption)) | exact shp32 (by assumption) | exact shp64 (by assumption) | exact shp2 (by assumption) | exact shpF (by assumption) | with_reducible intro _ | with_reducible apply And.intro
  all_goals (try (have h0:e_timer l0=0:=by (first | exact Decidable.not_not.1 (by assumption) | (have e:=‹_=e_timer l0›;rw [←e];exact Decidable.not_not.1 (by assumption)))))
  all_goals (try (have hn:=timer_lim h0))
  all_goals (try subst_vars)
  all_goals (try (have e:=tk_len (l:=l0) (by assumption) (by assumption) rfl;rw [e] at *))
  all_goals (try (have z1:=poE.len (by assumption)))
  all_goals (try (have z1:=poI.len (by assumption)))
  all_goals (try (have z2:=tmF.len (by assumption)))
  all_goals (try simp only [List.length_set,List.length_append,List.length_cons,List.length_nil,List.length_take] at *)
  all_goals (try simp (disch:=omega) only [w64_id] at *)
  all_goals (try (have z3:=jn6_b (by assumption)))
  all_goals first
    | assumption
    | omega
    | (exfalso;omega)
    | rfl
    | exact shp2 h2
    | exact shp2 (poE.ls (by assumption) (tmF.ls (by assumption) h2))
    | exact shp2 (poI.ls (by assumption) (tmF.ls (by assumption) h2))
    | exact shp2 (tmF.ls (by assumption) h2)
    | exact jn6_out (by assumption)
    | exact jn6_yes (by assumption) (by assumption) (by assumption) (by omega)
    | exact jn6_no (by assumption) (by assumption) (by omega)
    | exact jn8_no (by assumption) (by assumption) (by omega)
    | exact jn8_yes (by assumption) (by assumption) (by omega)
    | (exfalso;have z4:=‹jn8 _ _ _ false›;simp only [if_true,if_false,Bool.false_eq_true] at z4;exact jn8_ris z4 (ris_timer h0) (by omega) (by omega) (by omega))
    | exact (half_b (by omega)).1
    | exact (half_b (by omega)).2
    | exact tmF.zero h0
    | exact tmF.pop (by assumption) (by assumption) (by assumption) (by omega) (by omega)
    | exact poI.ex0 (by assumption) rfl (by omega) (by omega)
    | exact poI.ex1 (by assumption) (by assumption) (by assumption) rfl rfl (by omega) (by omega)
    | exact poI.go (by assumption) (by assumption) (by assumption) rfl (by assumption) (by assumption) rfl (by omega) (by omega)
    | exact tmF.due' (by assumption) (by assumption) (by omega) (by assumption) (by omega)
    | exact tmF.left' (by assumption) (by assumption) (by omega) (by assumption) (by omega)
    | exact hR _ (due_e rfl (by assumption))
    | exact hR _ (due_arg h0 (by omega))
    | exact hR _ (due_fin (by assumption) h0 h2 (by omega) (by omega))
    | exact (take_succ (by omega) (by assumption)).symm
    | (rw [List.take_of_length_le (by omega)];done)
    | (simp;done)
    | skip
theorem con_timerDueF:Con Go.Proofs.Tryz.prog k0 192 t_timerDueF :=
  con_of (cxf_ok mixOk (fun p hp=>by
    simp only [List.mem_cons,List.not_mem_nil,or_false] at hp
    subst hp
    exact con_timerCheck) (fun p hp=>by
    simp only [List.mem_cons,List.not_mem_nil,or_false] at hp
    subst hp
    · intro t ht;cases ht;exact fn_timerCheck)) Go.Proofs.Tryz.func192 rfl rfl rfl rfl vcEq_timerDueF vcPf_timerDueF
end Go.Vc

namespace Go.Vc
open Classical
def f_freezeF (aa:List DV):List DV:=m_frz (li aa 0) (ni aa 1) (ai aa 2)
def t_freezeF:ConT:=⟨[kl,kn,rkS partS],[kl,kn],fun aa=>LSh frozS (li aa 0)∧DShs partS (ai aa 2),fun aa rs=>rs=f_freezeF aa⟩
theorem fn_freezeF:∀ aa,t_freezeF.pre aa→∀ rs,t_freezeF.post aa rs→rs=f_freezeF aa:=fun _ _ _ h=>h
def V_freezeF:Prop:=∀ (l0:LL) (x1:Int) (b2:Bool) (l3:LL) (x4:Int) (b5:Bool) (l6:LL) (x7:Int) (b8:Bool) (l9:LL) (x10:Int) (b11:Bool) (l12:LL) (x13:Int) (b14:Bool) (x15 x16:Int) (l17:LL),Ob (LSh frozS l0∧DShs partS [db b2,D.fs l3,dn x4,db b5,D.fs l6,dn x7,db b8,D.fs l9,dn x10,db b11,D.fs l12,dn x13,db b14,dn x15,dn x16,D.fs l17])→∀ (R:List DV→Prop),Ob (∀ (res:List DV),res=m_frz l0 x1 [db b2,D.fs l3,dn x4,db b5,D.fs l6,dn x7,db b8,D.fs l9,dn x10,db b11,D.fs l12,dn x13,db b14,dn x15,dn x16,D.fs l17]→R res)→(Ob (LSh frozS l0)∧∀ (x19:Int),Ob ([vn x19]=[vn (e_past l0)])→(x19≠(0:Int)→Ob (o_plF l0 x1 (0:Int) x19)∧Ob ((0:Nat)<(1:Nat)))∧(¬x19≠(0:Int)→(x1<(0:Int)→Ob (o_plF l0 x1 (0:Int) (2:Int))∧Ob ((0:Nat)<(1:Nat)))∧(¬x1<(0:Int)→(x1>(65535:Int)→Ob (o_plF l0 x1 (0:Int) (2:Int))∧Ob ((0:Nat)<(1:Nat)))∧(¬x1>(65535:Int)→∀ (x20:Int),x20=(↑(List.length l0):Int)→Ob ((0:Int)≤(0:Int)∧(0:Int)≤x20∧x20≤(↑(List.length l0):Int)∧ahd l0 x1 (0:Int) x20)∧∀ (g21:Nat→Value) (x22 x23:Int),Ob ((0:Int)≤x22∧x22≤x23∧x23≤(↑(List.length l0):Int)∧ahd l0 x1 x22 x23)→(x22<x23→∀ (x24:Int),x24=w64 (x22+x23)→Ob ((2:Int)≠(0:Int))∧∀ (x25:Int),x25=w64 (Int.tdiv x24 (2:Int))→Ob ((0:Int)≤x25∧x25<(↑(List.length l0):Int))∧Ob (Shp [Kd.int IntKind.i64,Kd.bool,Kd.sl,Kd.int IntKind.i64,Kd.bool,Kd.sl,Kd.int IntKind.i64,Kd.bool,Kd.sl,Kd.int IntKind.i64,Kd.bool,Kd.sl,Kd.int IntKind.i64,Kd.bool,Kd.int IntKind.i64,Kd.int IntKind.i64,Kd.sl] l0)∧∀ (x26:Int) (b27:Bool) (l28:LL) (x29:Int) (b30:Bool) (l31:LL) (x32:Int) (b33:Bool) (l34:LL) (x35:Int) (b36:Bool) (l37:LL) (x38:Int) (b39:Bool) (x40 x41:Int) (l42:LL),Ob (l0[Int.toNat x25]?=some [dn x26,db b27,D.fs l28,dn x29,db b30,D.fs l31,dn x32,db b33,D.fs l34,dn x35,db b36,D.fs l37,dn x38,db b39,dn x40,dn x41,D.fs l42])→(x26<x1→∀ (x43:Int),x43=w64 (x25+(1:Int))→Ob ((0:Int)≤x43∧x43≤x23∧x23≤(↑(List.length l0):Int)∧ahd l0 x1 x43 x23)∧Ob (Int.toNat (x23-x43)<Int.toNat (x23-x22)))∧(¬x26<x1→Ob ((0:Int)≤x22∧x22≤x25∧x25≤(↑(List.length l0):Int)∧ahd l0 x1 x22 x25)∧Ob (Int.toNat (x25-x22)<Int.toNat (x23-x22))))∧(¬x22<x23→Ob (o_plF l0 x1 x22 (0:Int))∧Ob ((0:Nat)<(1:Nat)))))))∧∀ (g44:Nat→Value) (x45 x46:Int),Ob (o_plF l0 x1 x45 x46)→(x46≠(0:Int)→Ob (R [vl [],vn x46]))∧(¬x46≠(0:Int)→Ob (DShs partS [db b2,D.fs l3,dn x4,db b5,D.fs l6,dn x7,db b8,D.fs l9,dn x10,db b11,D.fs l12,dn x13,db b14,dn x15,dn x16,D.fs l17])∧∀ (x47:Int),Ob ([vn x47]=[vn (if p_part [db b2,D.fs l3,dn x4,db b5,D.fs l6,dn x7,db b8,D.fs l9,dn x10,db b11,D.fs l12,dn x13,db b14,dn x15,dn x16,D.fs l17] then (0:Int) else (8:Int))])→(x47≠(0:Int)→Ob (R [vl [],vn (8:Int)]))∧(¬x47≠(0:Int)→∀ (x48:Int),x48=(↑(List.length l0):Int)→(x45<x48→Ob (R [vl [],vn (12:Int)]))∧(¬x45<x48→(x45=(1024:Int)→Ob (R [vl [],vn (9:Int)]))∧(¬x45=(1024:Int)→(l0=[]→Ob (DShs partS [db b2,D.fs l3,dn x4,db b5,D.fs l6,dn x7,db b8,D.fs l9,dn x10,db b11,D.fs l12,dn x13,db b14,dn x15,dn x16,D.fs l17]∧List.length l3≤(1048576:Nat)∧List.length l6≤(1048576:Nat)∧List.length l9≤(1048576:Nat)∧List.length l12≤(1048576:Nat)∧List.length l17≤(1048576:Nat))∧∀ (b49:Bool) (l50:LL) (x51:Int) (b52:Bool) (l53:LL) (x54:Int) (b55:Bool) (l56:LL) (x57:Int) (b58:Bool) (l59:LL) (x60:Int) (b61:Bool) (x62 x63:Int) (l64:LL),Ob ([DV.a [db b49,D.fs l50,dn x51,db b52,D.fs l53,dn x54,db b55,D.fs l56,dn x57,db b58,D.fs l59,dn x60,db b61,dn x62,dn x63,D.fs l64]]=[DV.a [db b2,D.fs l3,dn x4,db b5,D.fs l6,dn x7,db b8,D.fs l9,dn x10,db b11,D.fs l12,dn x13,db b14,dn x15,dn x16,D.fs l17]])→∀ (l65:LL),l65=[[dn x1,db b49,D.fs l50,dn x51,db b52,D.fs l53,dn x54,db b55,D.fs l56,dn x57,db b58,D.fs l59,dn x60,db b61,dn x62,dn x63,D.fs l64]]→Ob (R [vl l65,vn (0:Int)]))∧Ob (Rect (17) l0∧List.length ([]:LL)+List.length l0≤(1048576:Nat))∧∀ (l66:LL),l66=[]++l0→∀ (x67:Int),x67=(↑(List.length l66):Int)→Ob ((0:Int)≤(0:Int)∧l66=l66)∧∀ (g68:Nat→Value) (x69:Int) (l70:LL),Ob ((0:Int)≤x69∧l70=l66)→(x69<x67→Ob ((0:Int)≤x69∧x69<(↑(List.length l70):Int))∧∀ (x71:Int),x71=x69→Ob ((0:Int)≤x71∧x71<(↑(List.length l70):Int))∧Ob (Shp [Kd.int IntKind.i64,Kd.bool,Kd.sl,Kd.int IntKind.i64,Kd.bool,Kd.sl,Kd.int IntKind.i64,Kd.bool,Kd.sl,Kd.int IntKind.i64,Kd.bool,Kd.sl,Kd.int IntKind.i64,Kd.bool,Kd.int IntKind.i64,Kd.int IntKind.i64,Kd.sl] l70)∧∀ (x72:Int) (b73:Bool) (l74:LL) (x75:Int) (b76:Bool) (l77:LL) (x78:Int) (b79:Bool) (l80:LL) (x81:Int) (b82:Bool) (l83:LL) (x84:Int) (b85:Bool) (x86 x87:Int) (l88:LL),Ob (l70[Int.toNat x71]?=some [dn x72,db b73,D.fs l74,dn x75,db b76,D.fs l77,dn x78,db b79,D.fs l80,dn x81,db b82,D.fs l83,dn x84,db b85,dn x86,dn x87,D.fs l88])→Ob (DShs partS [db b73,D.fs l74,dn x75,db b76,D.fs l77,dn x78,db b79,D.fs l80,dn x81,db b82,D.fs l83,dn x84,db b85,dn x86,dn x87,D.fs l88]∧List.length l74≤(1048576:Nat)∧List.length l77≤(1048576:Nat)∧List.length l80≤(1048576:Nat)∧List.length l83≤(1048576:Nat)∧List.length l88≤(1048576:Nat))∧∀ (b89:Bool) (l90:LL) (x91:Int) (b92:Bool) (l93:LL) (x94:Int) (b95:Bool) (l96:LL) (x97:Int) (b98:Bool) (l99:LL) (x100:Int) (b101:Bool) (x102 x103:Int) (l104:LL),Ob ([DV.a [db b89,D.fs l90,dn x91,db b92,D.fs l93,dn x94,db b95,D.fs l96,dn x97,db b98,D.fs l99,dn x100,db b101,dn x102,dn x103,D.fs l104]]=[DV.a [db b73,D.fs l74,dn x75,db b76,D.fs l77,dn x78,db b79,D.fs l80,dn x81,db b82,D.fs l83,dn x84,db b85,dn x86,dn x87,D.fs l88]])→Ob ((0:Int)≤x69∧x69<(↑(List.length l70):Int))∧∀ (x105:Int),x105=x69→Ob ((0:Int)≤x105∧x105<(↑(List.length l70):Int))∧∀ (l106:LL),l106=List.set l70 (Int.toNat x105) (putAt (List.getD l70 (Int.toNat x105) []) (1) [db b89,D.fs l90,dn x91,db b92,D.fs l93,dn x94,db b95,D.fs l96,dn x97,db b98,D.fs l99,dn x100,db b101,dn x102,dn x103,D.fs l104])→∀ (x107:Int),x107=w64 (x69+(1:Int))→Ob ((0:Int)≤x107∧l106=l66)∧Ob (List.length l66-Int.toNat x107<List.length l66-Int.toNat x69))∧(¬x69<x67→Ob (DShs partS [db b2,D.fs l3,dn x4,db b5,D.fs l6,dn x7,db b8,D.fs l9,dn x10,db b11,D.fs l12,dn x13,db b14,dn x15,dn x16,D.fs l17]∧List.length l3≤(1048576:Nat)∧List.length l6≤(1048576:Nat)∧List.length l9≤(1048576:Nat)∧List.length l12≤(1048576:Nat)∧List.length l17≤(1048576:Nat))∧∀ (b108:Bool) (l109:LL) (x110:Int) (b111:Bool) (l112:LL) (x113:Int) (b114:Bool) (l115:LL) (x116:Int) (b117:Bool) (l118:LL) (x119:Int) (b120:Bool) (x121 x122:Int) (l123:LL),Ob ([DV.a [db b108,D.fs l109,dn x110,db b111,D.fs l112,dn x113,db b114,D.fs l115,dn x116,db b117,D.fs l118,dn x119,db b120,dn x121,dn x122,D.fs l123]]=[DV.a [db b2,D.fs l3,dn x4,db b5,D.fs l6,dn x7,db b8,D.fs l9,dn x10,db b11,D.fs l12,dn x13,db b14,dn x15,dn x16,D.fs l17]])→Ob (List.length l70+List.length [[dn x1,db b108,D.fs l109,dn x110,db b111,D.fs l112,dn x113,db b114,D.fs l115,dn x116,db b117,D.fs l118,dn x119,db b120,dn x121,dn x122,D.fs l123]]≤(1048576:Nat))∧∀ (l124:LL),l124=l70++[[dn x1,db b108,D.fs l109,dn x110,db b111,D.fs l112,dn x113,db b114,D.fs l115,dn x116,db b117,D.fs l118,dn x119,db b120,dn x121,dn x122,D.fs l123]]→Ob (R [vl l124,vn (0:Int)]))))))
set_option maxRecDepth 100000 in
theorem vcEq_freezeF:vcFn Go.Proofs.Tryz.prog k0 (cxf [(218,t_pastCheck),(210,t_partCheck),(222,t_clone32),(153,t_cloneI),(156,t_cloneTi),(231,t_cloneDe),(234,t_dyTwin),(159,t_massTwin),(137,t_partTwin),(154,t_cacheTwin)] [(191000,500001,some ⟨[0,1,5],[8,9],[],[kn,kn],[],fun ρ ds=>o_plF (ρ.d 0) (ρ.n 1) (ni ds 0) (ni ds 1),fun ρ ds=>0,none⟩),(191001282016347063,0,some ⟨[1,0,2],[7,8],[],[kn,kn],[],fun ρ ds=>0≤ni ds 0∧ni ds 0≤ni ds 1∧ni ds 1≤(ρ.d 0).length∧ahd (ρ.d 0) (ρ.n 1) (ni ds 0) (ni ds 1),fun ρ ds=>(ni ds 1-ni ds 0).toNat,none⟩),(191001146001874034,0,some ⟨[3,8],[9],[],[kn],[⟨0,79,17,false, .row 25⟩],fun ρ ds=>0≤ni ds 0∧li ds 1=ρ.d 24,fun ρ ds=>(ρ.d 24).length-(ni ds 0).toNat,none⟩)] [] [(218,f_pastCheck),(210,f_partCheck),(222,f_clone32),(153,f_cloneI),(156,f_cloneTi),(231,f_cloneDe),(234,f_dyTwin),(159,f_massTwin),(137,f_partTwin),(154,f_cacheTwin)]) 3000 191 Go.Proofs.Tryz.f191 (bodyOf Go.Proofs.Tryz.f191) t_freezeF=V_freezeF:=by kernel_rfl
set_option maxHeartbeats 4000000 in
set_option maxRecDepth 20000 in
theorem vcPf_freezeF:V_freezeF:=by
  delta V_freezeF
  simp only [ob_iff,and_imp,forall_exists_index,true_and,and_true,List.cons.injEq,DV.c.injEq,DV.a.injEq,D.raw.injEq,D.fs.injEq,Value.bool.injEq,Value.int.injEq]
  intro l0 x1 b2 l3 x4 b5 l6 x7 b8 l9 x10 b11 l12 x13 b14 x15 x16 l17 h1 h2 h3 R hR
  repeat' first | assumption | exact DShs.tail (DSh_nth (by assumption) (by assumption)) | exact shp32 (by assumption) | exact shp64 (by assumption) | exact shp2 (by assumption) | exact shpF (by assumption) | with_reducible intro _ | with_reducible apply And.intro
  all_goals (try (have hp:p_part [db b2,D.fs l3,dn x4,db b5,D.fs l6,dn x7,db b8,D.fs l9,dn x10,db b11,D.fs l12,dn x13,db b14,dn x15,dn x16,D.fs l17]:=not_if8' (by assumption) (by assumption);obtain ⟨q1,q2,q3,q4,q5⟩:=part_lims hp))
  all_goals (try (have ho:=‹o_plF _ _ _ _›;have hz:=o_plF.get ho (by assumption);obtain ⟨g1,g2,g3,g4,g5,g6⟩:=hz))
  all_goals (try (have e9:=‹_=e_past l0›;have g1:e_past l0=0:=e9▸Decidable.not_not.1 (by assumption)))
  all_goals (try (have hn:=past_lim g1))
  all_goals (try subst_vars)
  all_goals (try simp only [List.nil_append,List.length_nil,List.length_cons,List.length_append] at *)
  all_goals (try simp (disch:=omega) only [w64_id,Int.tdiv_eq_ediv_of_nonneg] at *)
  all_goals first
    | assumption
    | omega
    | exact ahd.zero _ _
    | exact ahd.up (by assumption) g1 (by omega) (by assumption) (by assumption)
    | exact ahd.down (by assumption) g1 (by omega) (by assumption) (by assumption)
    | exact o_plF.yes g1 (by omega) (by omega) (by omega) (by omega) (by assumption) (by omega) (by omega)
    | exact o_plF.e1 (by assumption) rfl
    | exact o_plF.e2 g1 (by omega)
    | exact shpF h2
    | exact LS.rect h2
    | exact set_part (by assumption) rfl
    | exact DShs.tail (DSh_nth (by assumption) h2)
    | (obtain ⟨r1,r2,r3,r4,r5⟩:=past_lims (by assumption) g1;omega)
    | (have ho:=‹o_plF _ _ _ _›;exact hR _ (frz_pl ho (by assumption)))
    | exact hR _ (frz_bad g1 g2 g3 (if8' rfl (by assumption)))
    | exact hR _ (frz_again g1 g2 g3 hp g6 g4 (by assumption))
    | exact hR _ (frz_full g1 g2 g3 hp g6 (by assumption) (by omega))
    | exact hR _ (frz_ok g1 g2 g3 hp g6 (by assumption) (by omega))
    | exact hR _ (frz_ok (l:=[]) g1 g2 g3 hp g6 (by assumption) (by decide))
    | skip
theorem con_freezeF:Con Go.Proofs.Tryz.prog k0 191 t_freezeF :=
  con_of (cxf_ok mixOk (fun p hp=>by
    simp only [List.mem_cons,List.not_mem_nil,or_false] at hp
    rcases hp with rfl | rfl | rfl | rfl | rfl | rfl | rfl | rfl | rfl | rfl
    · exact con_pastCheck
    · exact con_partCheck
    · exact con_clone32
    · exact con_cloneI
    · exact con_cloneTi
    · exact con_cloneDe
    · exact con_dyTwin
    · exact con_massTwin
    · exact con_partTwin
    · exact con_cacheTwin) (fun p hp=>by
    simp only [List.mem_cons,List.not_mem_nil,or_false] at hp
    rcases hp with rfl | rfl | rfl | rfl | rfl | rfl | rfl | rfl | rfl | rfl
    · intro t ht;cases ht;exact fn_pastCheck
    · intro t ht;cases ht;exact fn_partCheck
    · intro t ht;cases ht;exact fn_clone32
    · intro t ht;cases ht;exact fn_cloneI
    · intro t ht;cases ht;exact fn_cloneTi
    · intro t ht;cases ht;exact fn_cloneDe
    · intro t ht;cases ht;exact fn_dyTwin
    · intro t ht;cases ht;exact fn_massTwin
    · intro t ht;cases ht;exact fn_partTwin
    · intro t ht;cases ht;exact fn_cacheTwin)) Go.Proofs.Tryz.func191 rfl rfl rfl rfl vcEq_freezeF vcPf_freezeF
end Go.Vc
