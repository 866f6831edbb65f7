
import Derived.Test.YtneooimijbfmgaaGreatWbAN
import Derived.Test.YtneooimijbfmgaaGreatWbAO
set_option linter.unusedVariables false
set_option linter.unusedSimpArgs false
set_option linter.unusedSectionVars false
noncomputable section
namespace Go.Vc
def posN (l:List Nat) (k:Nat):Nat:=List.rec 0 (fun i _ ih=>bif Nat.beq i k then 0 else Nat.succ ih) l
def renO (π:List Nat) (o:Oper):Oper:={ o with after:=(o.after.toList.map fun e=>{ e with on:=posN π e.on }).toArray,guard:=match o.guard with
 | some g=>some (posN π g.1,g.2)
 | none=>none }
def permL (ops:Array Oper) (π:List Nat):List Nat→List Oper
 | []=>[]
 | i::l=>match ops[i]? with
  | some o=>renO π o::permL ops π l
  | none=>permL ops π l
def permA (ops:Array Oper) (π:List Nat):Array Oper:=(permL ops π π).toArray
def permB (ops:Array Oper) (π:List Nat):Bool:=Nat.beq π.length ops.size && (π.all (fun i=>Nat.blt i ops.size) && ((List.range ops.size).all (fun k=>match π[posN π k]? with
 | some k'=>Nat.beq k' k && (match π[k]? with
  | some q=>Nat.beq (posN π q) k
  | none=>false)
 | none=>false) && ops.toList.all fun o=>(o.after.toList.all fun e=>Nat.blt e.on ops.size) && (match o.guard with
 | some g=>Nat.blt g.1 ops.size
 | none=>true)))
section
variable {F:Fence} {n:Nat} {P:Program} {Q:Exit→Act→World→Prop} {ops:Array Oper} {π:List Nat}
theorem permL_get:∀ (l:List Nat),(∀ i∈l,i<ops.size)→∀ q:Nat,(permL ops π l)[q]?=(l[q]?).bind fun i=>(ops[i]?).map (renO π)
 | [],_,q=>by simp [permL]
 | i::l,h,q=>by
  unfold permL
  have hi:=h i List.mem_cons_self
  rw [Array.getElem?_eq_getElem hi]
  cases q with
  | zero=>simp [Array.getElem?_eq_getElem hi]
  | succ q=>simp only [List.getElem?_cons_succ];exact permL_get l (fun i hi=>h i (List.mem_cons_of_mem _ hi)) q
theorem permL_len:∀ (l:List Nat),(∀ i∈l,i<ops.size)→(permL ops π l).length=l.length
 | [],_=>rfl
 | i::l,h=>by
  unfold permL
  have hi:=h i List.mem_cons_self
  rw [Array.getElem?_eq_getElem hi]
  simp [permL_len l fun i hi=>h i (List.mem_cons_of_mem _ hi)]
structure PermOk (ops:Array Oper) (π:List Nat):Prop where
 size:(permA ops π).size=ops.size
 get:∀ k o,ops[k]?=some o→(permA ops π)[posN π k]?=some (renO π o)
 inj:∀ k k',k<ops.size→k'<ops.size→posN π k=posN π k'→k=k'
 lt:∀ k,k<ops.size→posN π k<ops.size
 back:∀ (q:Nat) (o':Oper),(permA ops π)[q]?=some o'→∃ k o,ops[k]?=some o∧o'=renO π o∧posN π k=q
 edge:∀ (k:Nat) (o:Oper),ops[k]?=some o→∀ e∈o.after,e.on<ops.size
 grd:∀ (k:Nat) (o:Oper) g,ops[k]?=some o→o.guard=some g→g.1<ops.size
theorem perm_ok (h:permB ops π=true):PermOk ops π:=by
 unfold permB at h
 simp only [Bool.and_eq_true] at h
 obtain ⟨h1,h2,h3,h4⟩:=h
 have h1:=Nat.eq_of_beq_eq_true h1
 rw [List.all_eq_true] at h2 h3 h4
 have hl:∀ i∈π,i<ops.size:=fun i hi=>Nat.le_of_ble_eq_true (h2 i hi)
 have hp:∀ k,k<ops.size→π[posN π k]?=some k:=fun k hk=>by
  have:=h3 k (List.mem_range.2 hk)
  split at this
  ·rename_i k' hk';rw [Bool.and_eq_true] at this;rw [hk',Nat.eq_of_beq_eq_true this.1]
  ·cases this
 have hp2:∀ k,k<ops.size→∃ q,π[k]?=some q∧posN π q=k:=fun k hk=>by
  have:=h3 k (List.mem_range.2 hk)
  split at this
  ·rename_i k' hk'
   rw [Bool.and_eq_true] at this
   have h5:=this.2
   split at h5
   ·rename_i q hq;exact ⟨q,hq,Nat.eq_of_beq_eq_true h5⟩
   ·cases h5
  ·cases this
 refine ⟨?_,fun k o ho=>?_,fun k k' hk hk' he=>?_,fun k hk=>?_,fun q o' hq=>?_,fun k o ho e he=>?_,fun k o g ho hg=>?_⟩
 ·show (permL ops π π).toArray.size=_
  simp [permL_len π hl,h1]
 ·show (permL ops π π).toArray[posN π k]?=_
  rw [List.getElem?_toArray,permL_get π hl,hp k (Array.getElem?_eq_some_iff.1 ho).1]
  simp [ho]
 ·have a1:=hp k hk
  rw [he,hp k' hk'] at a1
  exact (Option.some.inj a1).symm
 ·have:=(List.getElem?_eq_some_iff.1 (hp k hk)).1
  omega
 ·have hq':(permL ops π π).toArray[q]?=some o':=hq
  rw [List.getElem?_toArray,permL_get π hl] at hq'
  cases hqq:π[q]? with
  | none=>rw [hqq] at hq';cases hq'
  | some k =>
   rw [hqq] at hq'
   have hkl:=hl k (List.mem_of_getElem? hqq)
   have hq':(ops[k]?).map (renO π)=some o':=hq'
   rw [Array.getElem?_eq_getElem hkl] at hq'
   cases hq'
   have hql:q<ops.size:=by have:=(List.getElem?_eq_some_iff.1 hqq).1;omega
   obtain ⟨k2,e1,e2⟩:=hp2 q hql
   rw [hqq] at e1
   cases e1
   exact ⟨k,_,Array.getElem?_eq_getElem hkl,rfl,e2⟩
 ·have:=h4 o (by rw [←Array.getElem?_toList] at ho;exact List.mem_of_getElem? ho)
  rw [Bool.and_eq_true,List.all_eq_true] at this
  exact Nat.le_of_ble_eq_true (this.1 e (by simpa using he))
 ·have:=h4 o (by rw [←Array.getElem?_toList] at ho;exact List.mem_of_getElem? ho)
  rw [Bool.and_eq_true] at this
  rw [hg] at this
  exact Nat.le_of_ble_eq_true this.2
theorem perm_ready (J:PermOk ops π) {L L':Array Bool} (hL:L.size=ops.size) (hL':L'.size=ops.size) (hk:∀ k,k<ops.size→L'.getD (posN π k) false=L.getD k false) {i:Nat} (hi:i∈Region.ready .any ops L):posN π i∈Region.ready .any (permA ops π) L':=by
 obtain ⟨g1,o,g2,g3⟩:=mem_ready.1 hi
 have hil:=(Array.getElem?_eq_some_iff.1 g2).1
 refine mem_ready.2 ⟨getD_in (by rw [hL'];exact J.lt i hil) (by rw [hk i hil];exact getD_both g1),renO π o,J.get i o g2,fun e he hb=>?_⟩
 have he':e∈o.after.toList.map fun e=>({ e with on:=posN π e.on }:Edge):=by simpa [renO] using he
 obtain ⟨e0,h1,rfl⟩:=List.mem_map.1 he'
 have h1:e0∈o.after:=by simpa using h1
 show L'.getD (posN π e0.on) false=true
 rw [hk e0.on (J.edge i o g2 e0 h1)]
 exact g3 e0 h1 hb
theorem perm_none (J:PermOk ops π) {L L':Array Bool} (hL:L.size=ops.size) (hk:∀ k,k<ops.size→L'.getD (posN π k) false=L.getD k false) {q:Nat} (hq:q∈Region.ready .any (permA ops π) L'):∃ i,i∈Region.ready .any ops L:=by
 obtain ⟨g1,o',g2,g3⟩:=mem_ready.1 hq
 obtain ⟨k,o,ho,rfl,hkq⟩:=J.back q o' g2
 have hkl:=(Array.getElem?_eq_some_iff.1 ho).1
 refine ⟨k,mem_ready.2 ⟨getD_in (by rw [hL];exact hkl) (by rw [←hk k hkl,hkq];exact getD_both g1),o,ho,fun e he hb=>?_⟩⟩
 rw [←hk e.on (J.edge k o ho e he)]
 refine g3 { e with on:=posN π e.on } ?_ hb
 simp only [renO]
 simpa using ⟨e,he,rfl,rfl⟩
theorem perm_back (J:PermOk ops π):∀ (fuel:Nat) (L L':Array Bool) (a:Act) (w:World),L.size=ops.size→L'.size=ops.size→(∀ k,k<ops.size→L'.getD (posN π k) false=L.getD k false)→wpAnyIn F n P .any (permA ops π) Q fuel L' a w→wpAnyIn F n P .any ops Q fuel L a w
 | 0,L,L',a,w,hL,hL',hk,h=>by
  refine ⟨List.eq_nil_iff_forall_not_mem.2 fun i hi=>?_,h.2⟩
  have:=perm_ready J hL hL' hk hi
  rw [h.1] at this;cases this
 | fuel+1,L,L',a,w,hL,hL',hk,h=>by
  by_cases hne:Region.ready .any ops L=[]
  ·by_cases hne':Region.ready .any (permA ops π) L'=[]
   ·exact ⟨fun _=>h.1 hne',fun i hi=>by rw [hne] at hi;cases hi⟩
   ·exfalso
    -- an index there comes from one here
    obtain ⟨q,hq⟩:=List.exists_mem_of_ne_nil _ hne'
    obtain ⟨i,hi⟩:=perm_none J hL hk hq
    rw [hne] at hi;cases hi
  ·refine ⟨fun h0=>absurd h0 hne,fun i hi=>?_⟩
   have hr:=perm_ready J hL hL' hk hi
   obtain ⟨_,o,g2,_⟩:=mem_ready.1 hi
   have hil:=(Array.getElem?_eq_some_iff.1 g2).1
   have h2:=h.2 _ hr
   have ih:∀ a w,wpAnyIn F n P .any (permA ops π) Q fuel (L'.setIfInBounds (posN π i) true) a w→wpAnyIn F n P .any ops Q fuel (L.setIfInBounds i true) a w:=fun a w=>perm_back J fuel _ _ a w (by simp [hL]) (by simp [hL']) fun k hkl=>by
    rw [set_getD (by rw [hL'];exact J.lt i hil),set_getD (by rw [hL];exact hil),hk k hkl]
    congr 1
    exact decide_eq_decide.2 ⟨fun he=>J.inj k i hkl hil he,fun he=>by rw [he]⟩
   unfold wpOpIn at h2 ⊢
   rw [J.get i o g2] at h2
   rw [g2]
   simp only at h2 ⊢
   have hw:Region.wanted (renO π o) (yielded (permA ops π) a.tmps)=Region.wanted o (yielded ops a.tmps):=by
    unfold Region.wanted
    cases hg:o.guard with
    | none=>simp only [renO,hg]
    | some g =>
     simp only [renO,hg]
     have hgl:=J.grd i o g g2 hg
     have hy:yielded (permA ops π) a.tmps (posN π g.1)=yielded ops a.tmps g.1:=by
      unfold yielded
      rw [J.get g.1 _ (Array.getElem?_eq_getElem hgl),Array.getElem?_eq_getElem hgl]
      rfl
     rw [hy]
   rw [hw] at h2
   split
   ·rename_i hq
    rw [if_pos hq] at h2
    have h3:o.wpIn F n P a w (wpAnyIn F n P .any (permA ops π) Q fuel (L'.setIfInBounds (posN π i) true)) Q:=by
     obtain ⟨dst,op,type,pos,after,guard⟩:=o
     exact h2
    exact Oper.wpIn_mono ih h3
   ·rename_i hq
    rw [if_neg hq] at h2
    exact ⟨h2.1,ih _ _ h2.2⟩
end
section
variable [H:Holes] {P:Program} {K:Nat→Option (List Value)} {s:St} {ρ:Rho} {Q:Post}
theorem sx_perm {ops:Array Oper} {π:List Nat} (hc:s.cur = .draw ops 0) (hp:permB ops π=true) (k:Sx P K ⟨.draw (permA ops π) 0,s.ks,s.tm,s.m,s.Y,s.nt,s.key⟩ ρ Q):Sx P K s ρ Q:=by
 refine sx_same (s':=⟨.draw (permA ops π) 0,s.ks,s.tm,s.m,s.Y,s.nt,s.key⟩) rfl rfl rfl rfl (fun F n Qw a w h=>?_) k
 rw [hc]
 have J:=perm_ok hp
 intro fuel listed hs hl hf
 refine perm_back J fuel listed (Array.replicate ops.size false) a w hs (by simp) (fun k hk=>?_) (h fuel _ (by simp [J.size]) (fun k=>?_) (by rw [J.size];exact hf))
 ·rw [hl k,Array.getD_eq_getD_getElem?,Array.getElem?_replicate,if_pos (J.lt k hk)];simp
 ·rw [Array.getD_eq_getD_getElem?,Array.getElem?_replicate];split <;> simp
end
end Go.Vc

namespace Go.Vc
section
variable {P:Program} {α β:Type}
def Quiet (P:Program) (s:Sem α):Prop:=∀ w x w',s.run P w = .ok x w'→w'=w
def Never (P:Program) (s:Sem α):Prop:=∀ w x w',s.run P w = .ok x w'→False
theorem Never.quiet {s:Sem α} (h:Never P s):Quiet P s:=fun w x w' hr=>(h w x w' hr).elim
theorem Quiet.pure (x:α):Quiet P (pure x:Sem α):=fun w y w' h=>by cases h;rfl
theorem Quiet.bind {s:Sem α} {f:α→Sem β} (h:Quiet P s) (k:∀ a,Quiet P (f a)):Quiet P (s >>= f):=fun w x w' hr=>by
 rw [Sem.run_bind] at hr
 cases hq:s.run P w with
 | ok a w1 =>
  rw [hq] at hr
  have:=h w a w1 hq
  subst this
  exact k a _ _ _ hr
 | halt c w1=>rw [hq] at hr;cases hr
theorem Never.bind {s:Sem α} {f:α→Sem β} (k:∀ a,Never P (f a)):Never P (s >>= f):=fun w x w' hr=>by
 rw [Sem.run_bind] at hr
 cases hq:s.run P w with
 | ok a w1=>rw [hq] at hr;exact k a _ _ _ hr
 | halt c w1=>rw [hq] at hr;cases hr
theorem never_halt (h:Halt):Never P (.halt h:Sem α):=fun w x w' hr=>by cases hr
theorem quiet_stuck (s:String):Quiet P (stuck s:Sem α):=(never_halt _).quiet
theorem quiet_unsupported (u:Unsupported):Quiet P (unsupported u:Sem α):=(never_halt _).quiet
theorem quiet_program:Quiet P program:=fun w x w' h=>by cases h;rfl
theorem quiet_shape (r:Nat):Quiet P (shape r):=fun w x w' h=>by cases h;rfl
theorem quiet_load (a:Addr) (m:Mode):Quiet P (load a m):=fun w x w' h=>by
 unfold load Sem.run at h
 split at h
 ·cases h;rfl
 ·split at h
  ·cases h;rfl
  ·cases h
theorem never_nilDeref:Never P (runtimePanic .nilDeref:Sem α):=Never.bind fun _=>never_halt _
theorem never_bounds (k:IntKind) (x y:Int) (c:BoundsCode):Never P (boundsPanic k x y c:Sem α):=by
 have hr:∀ b,Never P (runtimePanic (.bounds (IntKind.i64.wrap x) y b c):Sem α):=fun b=>Never.bind fun _=>never_halt _
 unfold boundsPanic
 dsimp only
 split <;> exact Never.bind fun b=>hr b
end
theorem quiet_underlying {P:Program} (t:TypeId):Quiet P (underlying t):=by
 unfold underlying
 refine Quiet.bind quiet_program fun p=>?_
 split
 ·exact Quiet.pure _
 ·exact quiet_stuck _
theorem quiet_info {P:Program} (t:TypeId):Quiet P (typeInfo t):=by
 unfold typeInfo
 refine Quiet.bind quiet_program fun p=>?_
 split
 ·exact Quiet.pure _
 ·exact quiet_stuck _
theorem quiet_size {P:Program} (t:TypeId):Quiet P (sizeOf t):=Quiet.bind (quiet_info t) fun _=>Quiet.pure _
theorem quiet_agg {P:Program} (t:TypeId):Quiet P (isAgg t):=by
 unfold isAgg
 refine Quiet.bind (quiet_underlying t) fun d=>?_
 split <;> exact Quiet.pure _
theorem quiet_cells {P:Program} (a:Addr):∀ (n i:Nat) (acc:Array Value),Quiet P (loadCellsFrom a i n acc)
 | 0,i,acc=>Quiet.pure _
 | n+1,i,acc=>Quiet.bind (quiet_load _ _) fun v=>quiet_cells a n (i+1) _
theorem quiet_sure {P:Program} (v:Value):Quiet P (Instr.sureAddr v):=by
 unfold Instr.sureAddr
 split
 ·exact Quiet.pure _
 ·exact quiet_stuck _
theorem quiet_loadAt {P:Program} (t:TypeId) (v:Value):Quiet P (Instr.loadAt t v):=by
 unfold Instr.loadAt loadVar
 refine Quiet.bind (quiet_sure v) fun a=>Quiet.bind (quiet_agg t) fun b=>?_
 cases b with
 | true=>exact Quiet.bind (quiet_size t) fun n=>Quiet.bind (quiet_cells a n 0 _) fun _=>Quiet.pure _
 | false=>exact quiet_load _ _
theorem quiet_asInt {P:Program} (v:Value):Quiet P (asIntOf v):=by
 unfold asIntOf
 split
 ·exact Quiet.pure _
 ·exact quiet_unsupported _
 ·exact quiet_stuck _
theorem quiet_indexAt {P:Program} (t:TypeId) (x i:Value):Quiet P (Instr.indexAt t x i):=by
 unfold Instr.indexAt
 refine Quiet.bind (quiet_asInt i) fun p=>?_
 obtain ⟨k,i⟩:=p
 dsimp only
 have fin:∀ (base:Option Addr) (len:Nat) (elem:TypeId),Quiet P (do
   let tiny:=len≤1 && (match ←underlying t with | .array ..=>true | _=>false)
   match base with
   | some a =>
    if 0≤i∧i<len then pure (.pointer (some (a.add (i.toNat*(←sizeOf elem)))))
    else if tiny then unsupported (.noEntry "op/indexAddr.an index out of range at an array of length 0 or 1 (ledger 616)")
    else boundsPanic k i len .index
   | none=>boundsPanic k i 0 .index:Sem Value):=fun base len elem=>by
  refine Quiet.bind (quiet_underlying t) fun d=>?_
  dsimp only
  repeat' split
  all_goals first
   | exact quiet_unsupported _
   | exact (never_bounds _ _ _ _).quiet
   | exact Quiet.bind (quiet_size elem) fun n=>Quiet.pure _
 refine Quiet.bind (quiet_underlying t) fun d=>?_
 split
 ·exact Quiet.bind (quiet_sure _) fun a=>Quiet.bind (Quiet.pure _) fun p=>fin p.1 p.2.1 p.2.2
 ·exact Quiet.bind (Quiet.pure _) fun p=>fin p.1 p.2.1 p.2.2
 ·exact Quiet.bind (quiet_stuck _) fun p=>fin p.1 p.2.1 p.2.2
theorem quiet_obj {P:Program} (r:Nat):Quiet P (getObj r):=fun w x w' h=>by
 unfold getObj Sem.run at h
 split at h
 ·cases h
 ·cases h;rfl
 ·cases h
theorem quiet_view {P:Program} (r:Nat):Quiet P (viewAt r):=by
 unfold viewAt
 refine Quiet.bind (quiet_shape r) fun o=>?_
 split
 ·exact Quiet.pure _
 ·refine Quiet.bind (quiet_obj r) fun o=>?_
  split <;> exact Quiet.pure _
theorem quiet_noView {P:Program} (a:Addr):Quiet P (noView a):=by
 unfold noView
 refine Quiet.bind (quiet_view _) fun o=>?_
 split
 ·exact quiet_unsupported _
 ·exact Quiet.pure _
theorem quiet_byteOf {P:Program} (a:Addr):Quiet P (byteOf a):=by
 unfold byteOf
 dsimp only
 split
 ·exact Quiet.pure _
 ·refine Quiet.bind quiet_program fun p=>Quiet.bind (quiet_noView a) fun _=>Quiet.bind (quiet_shape _) fun o=>?_
  split
  ·split
   ·exact Quiet.pure _
   ·split
    ·exact Quiet.pure _
    ·exact quiet_stuck _
  ·exact quiet_stuck _
theorem quiet_partAt {P:Program} (a:Addr) (c b:Nat):Quiet P (partAt a c b):=Quiet.bind (quiet_byteOf _) fun x=>Quiet.bind (quiet_byteOf _) fun y=>Quiet.pure _
theorem quiet_place {P:Program} (a:Addr) (f:Field):Quiet P (fieldPlace a f):=by
 unfold fieldPlace
 refine Quiet.bind (quiet_size _) fun n=>?_
 split
 ·exact quiet_partAt _ _ _
 ·exact Quiet.pure _
theorem quiet_fieldAt {P:Program} (s:TypeId) (v:Value) (f:Nat):Quiet P (Instr.fieldAt s v f):=by
 unfold Instr.fieldAt
 refine Quiet.bind (quiet_underlying s) fun d=>?_
 split
 ·split
  ·exact Quiet.bind (quiet_sure v) fun a=>Quiet.bind (quiet_place _ _) fun b=>Quiet.pure _
  ·exact quiet_stuck _
 ·exact quiet_stuck _
theorem quiet_part {P:Program} (t:TypeId) (cs:Array Value) (o:Nat):Quiet P (part t cs o):=by
 unfold part
 refine Quiet.bind (quiet_agg t) fun b=>?_
 split
 ·exact Quiet.bind (quiet_size t) fun n=>Quiet.pure _
 ·split
  ·exact Quiet.pure _
  ·exact quiet_stuck _
theorem quiet_follow {P:Program}:∀ (l:List FieldStep) (t:TypeId) (x:Option Value),Quiet P (followBlind l t x)
 | [],t,x=>Quiet.pure _
 | s::l,t,x=>by
  unfold followBlind
  refine Quiet.bind (quiet_underlying _) fun d=>?_
  split
  ·split
   ·split
    ·exact Quiet.pure _
    ·exact quiet_follow l _ _
    ·exact quiet_stuck _
    ·exact Quiet.pure _
    ·exact Quiet.bind (quiet_part _ _ _) fun v=>quiet_follow l _ _
    ·exact quiet_stuck _
    ·exact quiet_follow l _ _
   ·exact quiet_stuck _
  ·exact quiet_stuck _
theorem quiet_nilAhead {P:Program}:∀ (n:Nat) (t:TypeId) (v:Value) (name:String),Quiet P (nilAhead n t v name)
 | 0,t,v,name=>Quiet.pure _
 | n+1,t,v,name=>by
  unfold nilAhead
  refine Quiet.bind (quiet_info _) fun i=>?_
  split
  ·refine Quiet.bind (quiet_follow _ _ _) fun r=>?_
   split
   ·exact Quiet.pure _
   ·split
    ·exact quiet_nilAhead n _ _ _
    ·exact Quiet.pure _
    ·exact quiet_stuck _
    ·exact Quiet.pure _
    ·exact Quiet.pure _
    ·refine Quiet.bind (quiet_underlying _) fun d=>?_
     split <;> exact Quiet.pure _
  ·exact quiet_stuck _
def quietB:Op→Bool
 | .move _ | .assign _ | .fieldAddr .. | .load .. | .nilCheck _ | .indexAddr ..=>true
 | _=>false
def QV (P:Program) (s:Sem Next):Prop:=∀ w x w',s.run P w = .ok x w'→w'=w∧∃ v,x = .value v
theorem QV.of {P:Program} {s:Sem Value} (h:Quiet P s):QV P (do pure (.value (←s))):=fun w x w' hr=>by
 rw [Sem.run_bind] at hr
 cases hq:s.run P w with
 | ok a w1 =>
  rw [hq] at hr
  have:=h w a w1 hq
  subst this
  cases hr
  exact ⟨rfl,_,rfl⟩
 | halt c w1=>rw [hq] at hr;cases hr
theorem QV.pure {P:Program} (v:Value):QV P (pure (.value v)):=fun w x w' h=>by cases h;exact ⟨rfl,_,rfl⟩
theorem QV.bind {P:Program} {α:Type} {s:Sem α} {f:α→Sem Next} (h:Quiet P s) (k:∀ a,QV P (f a)):QV P (s >>= f):=fun w x w' hr=>by
 rw [Sem.run_bind] at hr
 cases hq:s.run P w with
 | ok a w1 =>
  rw [hq] at hr
  have:=h w a w1 hq
  subst this
  exact k a _ _ _ hr
 | halt c w1=>rw [hq] at hr;cases hr
theorem QV.never {P:Program} {s:Sem Next} (h:Never P s):QV P s:=fun w x w' hr=>(h w x w' hr).elim
theorem quiet_op {P:Program} {o:Oper} (h:quietB o.op=true) (l:Option Nat) (ev:Operand→Value):QV P (o.semAt l ev):=by
 have hx:QV P (execOp ev o):=by
  unfold quietB at h
  split at h
  ·rename_i y hop;unfold execOp;simp only [hop];exact QV.pure _
  ·rename_i y hop;unfold execOp;simp only [hop];exact QV.pure _
  ·rename_i t y f hop;unfold execOp;simp only [hop];exact QV.of (quiet_fieldAt _ _ _)
  ·rename_i t y hop;unfold execOp;simp only [hop];exact QV.of (quiet_loadAt _ _)
  ·rename_i y hop
   unfold execOp
   simp only [hop]
   split
   ·exact QV.never never_nilDeref
   ·exact QV.never never_nilDeref
   ·exact QV.never never_nilDeref
   ·split
    ·exact QV.never never_nilDeref
    ·refine QV.bind quiet_program fun p=>QV.bind (quiet_nilAhead _ _ _ _) fun b=>?_
     split
     ·exact QV.bind (quiet_unsupported _) fun _=>QV.pure _
     ·exact QV.pure _
    ·exact QV.pure _
   ·exact QV.pure _
  ·rename_i t y i hop;unfold execOp;simp only [hop];exact QV.of (quiet_indexAt _ _ _)
  ·cases h
 unfold Oper.semAt
 split
 ·rename_i c hc
  rw [hc] at h
  cases h
 ·exact hx
section
variable {F:Fence} {n:Nat} {P:Program} {ops:Array Oper} {w:World}
theorem wp_quiet {Q:Exit→Act→World→Prop} {o:Oper} {K:Act→World→Prop} {a:Act} (hq:quietB o.op=true) (hnp:∀ c a w,¬Q (.panic c) a w) (h:o.wpIn F n P a w K Q):∃ v,(o.semAt F.round a.eval).run P w = .ok (.value v) w∧K (a.put o.dst v) w:=by
 have h2:=h.2
 cases hr:(o.semAt F.round a.eval).run P w with
 | ok x w' =>
  obtain ⟨rfl,v,rfl⟩:=quiet_op hq _ _ _ _ _ hr
  rw [hr] at h2
  exact ⟨v,rfl,h2⟩
 | halt x w' =>
  exfalso
  rw [hr] at h2
  unfold Oper.uponIn at h2
  cases x <;> first | exact hnp _ _ _ h2 | exact h2.elim
def QuietAt (ops:Array Oper) (nt j:Nat):Prop:=∃ oj d,ops[j]?=some oj∧quietB oj.op=true∧oj.guard=none∧oj.dst=some d∧d<nt
theorem list_quiet {Q:Exit→Act→World→Prop} (hnp:∀ c a w,¬Q (.panic c) a w) {nt:Nat}:∀ (js:List Nat) (l:List Oper) (a:Act),a.tmps.size=nt→(∀ j∈js,QuietAt ops nt j)→js.map (fun j=>ops[j]?)=l.map some→wpListIn F n P ops Q l a w→∃ vs,Looks F P ops w js vs a∧Q .normal (starA ops js vs a) w
 | [],l,a,hs,hj,hl,h=>by
  have:l=[]:=by cases l with | nil=>rfl | cons x l=>cases hl
  subst this
  exact ⟨[], .nil a,h⟩
 | j::js,l,a,hs,hj,hl,h=>by
  cases l with
  | nil=>cases hl
  | cons o l =>
   have ho:ops[j]?=some o:=(List.cons.inj hl).1
   obtain ⟨oj,d,h1,h2,h3,h4,h5⟩:=hj j List.mem_cons_self
   rw [ho] at h1;cases h1
   unfold wpListIn at h
   rw [if_pos (by unfold Region.wanted;rw [h3])] at h
   obtain ⟨v,h6,h7⟩:=wp_quiet h2 hnp h
   obtain ⟨vs,h8,h9⟩:=list_quiet hnp js l _ (by rw [psz];exact hs) (fun j hj'=>hj j (List.mem_cons_of_mem _ hj')) (List.cons.inj hl).2 h7
   refine ⟨v::vs, .cons ho h4 (by rw [hs];exact h5) h6 h3 h8,?_⟩
   show Q .normal (starA ops js vs (a.put ((ops[j]?).bind (·.dst)) v)) w
   rw [ho]
   exact h9
theorem mix_run2 {js:List Nat} {vs:List Value} {a c:Act} {done:List Nat} {r:Nat} (hris:risB ops js=true) (hall:∀ (j:Nat) (oj:Oper),ops[j]?=some oj→(∀ c,oj.op≠.defer c)∧∀ cs b,oj.op≠.select cs b) (hge:∀ j∈js,r≤j) (hlk:Looks F P ops w js vs a) (hm:Mix ops done a (starA ops js vs a) c) (hsub:∀ i∈done,i∈js) {j:Nat} (hj:j∈js) (hdeps:∀ oj,ops[j]?=some oj→∀ e∈oj.after,Region.binds .any e=true→e.on<r∨e.on∈done) :
  ∃ (v:Value) (oj:Oper),ops[j]?=some oj∧StarOk F P ops w j v (starA ops js vs a)∧(oj.semAt F.round c.eval).run P w = .ok (.value v) w∧oj.guard=none:=by
 obtain ⟨i,hi⟩:=List.mem_iff_getElem?.1 hj
 have hvl:=hlk.len
 have hil:i<vs.length:=by rw [hvl];exact (List.getElem?_eq_some_iff.1 hi).1
 have hs:=star_ok hall js vs a hlk hris i j _ hi (List.getElem?_eq_getElem hil)
 have hs':=hs
 obtain ⟨oj,d,ho,hd,hrun,hg,_,_⟩:=hs.ex
 refine ⟨_,oj,ho,hs',?_,hg⟩
 rw [semAt_eq (ops:=ops) (a:=starA ops js vs a) (hall j oj ho).1 (hall j oj ho).2 fun t ht=>?_]
 ·exact hrun
 ·by_cases hq:∃ i∈js,(ops[i]?).bind (·.dst)=some t
  ·obtain ⟨i2,hi2,hd2⟩:=hq
   obtain ⟨e,he,hb,hqe⟩:=bindsOn_ok (ris_seen js hris j hj oj ho t ht i2 hi2 hd2)
   have hqe:=Nat.eq_of_beq_eq_true hqe
   rcases hdeps oj ho e he hb with h | h
   ·have:=hge i2 hi2
    omega
   ·exact hm.yes i2 (hqe▸h) t hd2
  ·have hn:∀ i∈js,(ops[i]?).bind (·.dst)≠some t:=fun i hi hd=>hq ⟨i,hi,hd⟩
   have hn2:∀ i∈js,∀ x,(ops[i]?).bind (·.dst)=some x→x≠t:=fun i hi x hx e=>hn i hi (e▸hx)
   rw [star_get js vs a t hn2]
   exact hm.no t fun i hi hd=>hn i (hsub i hi) hd
theorem sub_len {r p:Nat} {l:List Nat} (hn:l.Nodup) (h:∀ x∈l,r≤x∧x<p):l.length+r≤p∨l=[]:=by
 cases hl:l with
 | nil=>exact .inr rfl
 | cons y l' =>
  rw [←hl]
  have h0:=h y (by rw [hl];exact List.mem_cons_self)
  have:=len_le (p-r) (l.map (·-r)) (by
   rw [List.nodup_iff_pairwise_ne,List.pairwise_map]
   refine (List.nodup_iff_pairwise_ne.1 hn).imp_of_mem fun {a b} ha hb hab he=>hab ?_
   have:=h a ha;have:=h b hb;omega) (fun x hx=>by
   obtain ⟨z,hz,rfl⟩:=List.mem_map.1 hx
   have:=h z hz;omega)
  rw [List.length_map] at this
  left;omega
theorem star_dfr:∀ (js:List Nat) (vs:List Value) (a:Act),(starA ops js vs a).defers=a.defers
 | [],vs,a=>rfl
 | j::js,[],a=>rfl
 | j::js,v::vs,a=>by
  show (starA ops js vs (a.put ((ops[j]?).bind (·.dst)) v)).defers=_
  rw [star_dfr js vs,pdf]
theorem looks_go {Q:Exit→Act→World→Prop} {r p:Nat} {js:List Nat} {vs:List Value} {a:Act} (hF:WF F) (hris:risB ops js=true) (hall:∀ (j:Nat) (oj:Oper),ops[j]?=some oj→(∀ c,oj.op≠.defer c)∧∀ cs b,oj.op≠.select cs b) (hback:∀ (j:Nat) (o:Oper),ops[j]?=some o→∀ e∈o.after,Region.binds .any e=true→e.on<j) (hmem:∀ j,j∈js↔r≤j∧j<p) (hrp:r≤p) (hp:p≤ops.size) (hlater:∀ i,p≤i→i<ops.size→∀ j,r≤j→j<p→Wt ops i j) (hlk:Looks F P ops w js vs a)
  (hend:∀ (fuel:Nat) (L:Array Bool),L.size=ops.size→(∀ k,L.getD k false=decide (k<p))→ops.size≤fuel+p→wpAnyIn F n P .any ops Q fuel L (starA ops js vs a) w) :
  ∀ (fuel:Nat) (done:List Nat) (a':Act) (listed:Array Bool),(∀ i∈done,i∈js)→done.Nodup→Mix ops done a (starA ops js vs a) a'→listed.size=ops.size→(∀ k,listed.getD k false=(decide (k<r) || decide (k∈done)))→(∀ j oj,ops[j]?=some oj→listed.getD j false=true→∀ e∈oj.after,Region.binds .any e=true→listed.getD e.on false=true)→ops.size≤fuel+r+done.length→wpAnyIn F n P .any ops Q fuel listed a' w:=by
 intro fuel
 induction fuel with
 | zero =>
  intro done a' listed hsub hnd hm hs hl hcl hf
  by_cases hfull:∀ j∈js,j∈done
  ·have hst:Mix ops done a (starA ops js vs a) (starA ops js vs a):=⟨star_size js vs a,star_dfr js vs a,fun _ _ _ _=>rfl,fun t ht=>star_get js vs a t fun j hj x hx e=>ht j (hfull j hj) (e▸hx)⟩
   rw [hm.uniq hst]
   refine hend 0 listed hs (fun k=>?_) ?_
   ·rw [hl k,←Bool.decide_or]
    refine decide_eq_decide.2 ⟨fun h=>?_,fun h=>?_⟩
    ·rcases h with h | h
     ·omega
     ·exact ((hmem k).1 (hsub k h)).2
    ·by_cases hk:k<r
     ·exact .inl hk
     ·exact .inr (hfull k ((hmem k).2 ⟨by omega,h⟩))
   ·rcases sub_len hnd (fun x hx=>(hmem x).1 (hsub x hx)) with h | h
    ·omega
    ·subst h
     simp at hf
     omega
  ·exfalso
   obtain ⟨j,hj⟩:=Classical.not_forall.1 hfull
   obtain ⟨hj1,hj2⟩:=Classical.not_imp.1 hj
   rcases sub_len (l:=j::done) (List.nodup_cons.2 ⟨hj2,hnd⟩) (fun x hx=>by
    rcases List.mem_cons.1 hx with rfl | hx
    ·exact (hmem _).1 hj1
    ·exact (hmem x).1 (hsub x hx)) with h | h
   ·simp at h;omega
   ·cases h
 | succ fuel ih =>
  intro done a' listed hsub hnd hm hs hl hcl hf
  by_cases hfull:∀ j∈js,j∈done
  ·have hst:Mix ops done a (starA ops js vs a) (starA ops js vs a):=⟨star_size js vs a,star_dfr js vs a,fun _ _ _ _=>rfl,fun t ht=>star_get js vs a t fun j hj x hx e=>ht j (hfull j hj) (e▸hx)⟩
   rw [hm.uniq hst]
   refine hend (fuel+1) listed hs (fun k=>?_) ?_
   ·rw [hl k,←Bool.decide_or]
    refine decide_eq_decide.2 ⟨fun h=>?_,fun h=>?_⟩
    ·rcases h with h | h
     ·omega
     ·exact ((hmem k).1 (hsub k h)).2
    ·by_cases hk:k<r
     ·exact .inl hk
     ·exact .inr (hfull k ((hmem k).2 ⟨by omega,h⟩))
   ·rcases sub_len hnd (fun x hx=>(hmem x).1 (hsub x hx)) with h | h
    ·omega
    ·subst h
     simp at hf
     omega
  ·obtain ⟨j,hj⟩:=Classical.not_forall.1 hfull
   obtain ⟨hj1,hj2⟩:=Classical.not_imp.1 hj
   have hjr:=(hmem j).1 hj1
   have undone:∀ k,r≤k→¬k∈done→listed.getD k false=false:=fun k h1 h2=>by
    rw [hl k];simp;exact ⟨h1,h2⟩
   have hrd:∀ k,r≤k→k<p→¬k∈done→∃ i,i∈Region.ready .any ops listed:=fun k=>by
    induction k using Nat.strongRecOn with
    | _ k ihk =>
    intro h1 h2 h3
    obtain ⟨ok,hok⟩:∃ ok,ops[k]?=some ok:=⟨_,Array.getElem?_eq_getElem (by omega)⟩
    by_cases hdep:∀ e∈ok.after,Region.binds .any e=true→listed.getD e.on false=true
    ·exact ⟨k,mem_ready.2 ⟨getD_in (by rw [hs];omega) (undone k h1 h3),ok,hok,hdep⟩⟩
    ·obtain ⟨e,he⟩:=Classical.not_forall.1 hdep
     obtain ⟨he1,he2⟩:=Classical.not_imp.1 he
     obtain ⟨he3,he4⟩:=Classical.not_imp.1 he2
     have hlt:=hback k ok hok e he1 he3
     have hun:¬(e.on<r∨e.on∈done):=fun h=>he4 (by rw [hl e.on];simpa using h)
     exact ihk e.on hlt (by rcases Nat.lt_or_ge e.on r with h | h;exact absurd (.inl h) hun;exact h) (by omega) (fun h=>hun (.inr h))
   obtain ⟨i0,hi0⟩:=hrd j hjr.1 hjr.2 hj2
   refine ⟨fun h=>absurd hi0 (by rw [h];exact fun h=>by cases h),fun i hi=>?_⟩
   obtain ⟨g1,oi,g2,g3⟩:=mem_ready.1 hi
   have hnl:listed.getD i false=false:=getD_both g1
   rw [hl i] at hnl
   simp at hnl
   have his:=(Array.getElem?_eq_some_iff.1 g2).1
   by_cases hip:i<p
   ·have hij:i∈js:=(hmem i).2 ⟨by omega,hip⟩
    obtain ⟨v,oj,hoj,hst,hrun,hgj⟩:=mix_run2 (r:=r) hris hall (fun j hj=>((hmem j).1 hj).1) hlk hm hsub hij (fun x hx=>by
     rw [g2] at hx;cases hx
     intro e he hb
     have:=g3 e he hb
     rw [hl e.on] at this
     simpa using this)
    rw [g2] at hoj;cases hoj
    unfold wpOpIn
    rw [g2]
    simp only
    rw [if_pos (by unfold Region.wanted;rw [hgj])]
    refine ⟨fun f _=>hF.fn f,?_⟩
    rw [hrun]
    show wpAnyIn F n P .any ops Q fuel (listed.setIfInBounds i true) (a'.put oi.dst v) w
    have hm2:=hm.one hst (star_size js vs a)
    rw [g2] at hm2
    refine ih (i::done) _ _ (fun q hq=>?_) (List.nodup_cons.2 ⟨hnl.2,hnd⟩) hm2 (by simp [hs]) (fun k=>?_) (fun q oq hq hlq e he hb=>?_) (by simp;omega)
    ·rcases List.mem_cons.1 hq with rfl | hq
     ·exact hij
     ·exact hsub q hq
    ·rw [set_getD (by rw [hs];exact his) k,hl k]
     simp only [List.mem_cons]
     by_cases h1:k<r <;> by_cases h2:k∈done <;> by_cases h3:k=i <;> simp [h1,h2,h3]
    ·rw [set_getD (by rw [hs];exact his) q] at hlq
     rw [set_getD (by rw [hs];exact his) e.on]
     rw [Bool.or_eq_true] at hlq ⊢
     rcases hlq with h | h
     ·exact .inl (hcl q oq hq h e he hb)
     ·have:q=i:=by simpa using h
      subst this
      rw [g2] at hq;cases hq
      exact .inl (g3 e he hb)
   ·exfalso
    have:=wt_ready (D:=fun k=>listed.getD k false) hcl (fun oj ho e he hb=>by rw [g2] at ho;cases ho;exact g3 e he hb) (hlater i (by omega) his j hjr.1 hjr.2)
    rw [undone j hjr.1 hj2] at this
    cases this
end
def segN (r p:Nat):List Nat:=(List.range (p-r)).map (·+r)
def quietJ (ops:Array Oper) (nt j:Nat):Bool:=match ops[j]? with
 | some o=>quietB o.op && ((match o.guard with
  | none=>true
  | some _=>false) && (match o.dst with
  | some d=>Nat.blt d nt
  | none=>false))
 | none=>false
def waitB (A:List Nat) (n r p:Nat):Bool:=(List.range n).all fun i=>Nat.blt i p || (List.range (p-r)).all fun q=>Nat.testBit (A.getD i 0) (q+r)
def looksB (ops:Array Oper) (r p nt:Nat):Bool:=backE ops.toList 0 && (Nat.blt r p && (Nat.ble p ops.size && ((segN r p).all (quietJ ops nt) && (waitB (ancs ops.toList []) ops.size r p && (risB ops (segN r p) && ops.toList.all (fun o=>opB o.op))))))
section
variable [H:Holes] {P:Program} {K:Nat→Option (List Value)} {s:St} {ρ:Rho} {Q:Post}
theorem sx_looks {ops:Array Oper} {r p:Nat} (hc:s.cur = .draw ops r) (hb:looksB ops r p s.nt=true) (k:Sx P K ⟨.ops ops ((ops.toList.drop r).take (p-r)), .draw ops p::s.ks,s.tm,s.m,s.Y,s.nt,s.key⟩ ρ Q):Sx P K s ρ Q:=by
 intro F hF n b hB Qw hQ σ a w hA
 have hrun:=k F hF n b hB Qw hQ σ a w (hA.move rfl rfl rfl rfl)
 have hrun:wpListIn F n P ops (Exit.then (drawAt F n P ops p (after F n P Qw s.ks)) (after F n P Qw s.ks)) ((ops.toList.drop r).take (p-r)) a w:=hrun
 rw [hc]
 intro fuel listed hs hl hfu
 unfold looksB at hb
 simp only [Bool.and_eq_true] at hb
 obtain ⟨b1,b2,b3,b4,b5,b6,b7⟩:=hb
 have hrp:r<p:=Nat.le_of_ble_eq_true b2
 have hps:p≤ops.size:=Nat.le_of_ble_eq_true b3
 have hback:∀ (j:Nat) (o:Oper),ops[j]?=some o→∀ e∈o.after,Region.binds .any e=true→e.on<j:=fun j o ho e he hb=>by
  have:=backE_ok ops.toList 0 b1 j o (by simpa using ho) e he hb
  omega
 have hall:∀ (j:Nat) (oj:Oper),ops[j]?=some oj→(∀ c,oj.op≠.defer c)∧∀ cs b,oj.op≠.select cs b:=fun j oj hj=>by
  have:=List.all_eq_true.1 b7 oj (by rw [←Array.getElem?_toList] at hj;exact List.mem_of_getElem? hj)
  refine ⟨fun c hc=>?_,fun cs b hc=>?_⟩ <;> (rw [hc] at this;cases this)
 have hmem:∀ j,j∈segN r p↔r≤j∧j<p:=fun j=>by
  unfold segN
  rw [List.mem_map]
  refine ⟨fun ⟨q,h1,h2⟩=>?_,fun h=>⟨j-r,List.mem_range.2 (by omega),by omega⟩⟩
  have:=List.mem_range.1 h1
  omega
 have hat:∀ j∈segN r p,QuietAt ops s.nt j:=fun j hj=>by
  have:=List.all_eq_true.1 b4 j hj
  unfold quietJ at this
  split at this
  ·rename_i o ho
   simp only [Bool.and_eq_true] at this
   obtain ⟨h1,h2,h3⟩:=this
   cases hg:o.guard with
   | some g=>rw [hg] at h2;cases h2
   | none =>
    cases hd:o.dst with
    | none=>rw [hd] at h3;cases h3
    | some d =>
     rw [hd] at h3
     exact ⟨o,d,ho,h1,hg,hd,Nat.le_of_ble_eq_true h3⟩
  ·cases this
 have hseg:(segN r p).map (fun j=>ops[j]?)=((ops.toList.drop r).take (p-r)).map some:=by
  refine List.ext_getElem? fun i=>?_
  unfold segN
  rw [List.map_map,List.getElem?_map,List.getElem?_map]
  by_cases hi:i<p-r
  ·have h1:i+r<ops.size:=by omega
   rw [List.getElem?_range hi,List.getElem?_take_of_lt hi,List.getElem?_drop,Array.getElem?_toList,show r+i=i+r by omega,Array.getElem?_eq_getElem h1]
   show some (ops[i+r]?)=some (some _)
   rw [Array.getElem?_eq_getElem h1]
  ·rw [List.getElem?_eq_none (by rw [List.length_range];omega),List.getElem?_eq_none (by rw [List.length_take];omega)]
   rfl
 obtain ⟨vs,h1,h2⟩:=list_quiet (F:=F) (n:=n) (P:=P) (w:=w) (Q:=Exit.then (drawAt F n P ops p (after F n P Qw s.ks)) (after F n P Qw s.ks)) (fun c a w=>after_np F n P Qw c a w s.ks) (segN r p) _ a hA.nt hat hseg hrun
 have h2:drawAt F n P ops p (after F n P Qw s.ks) (starA ops (segN r p) vs a) w:=h2
 refine looks_go hF b6 hall hback hmem (Nat.le_of_lt hrp) hps (fun i hi his j hj1 hj2=>?_) h1 h2 fuel [] a listed (fun i hi=>by cases hi) List.nodup_nil ⟨rfl,rfl,fun j hj=>(by cases hj),fun _ _=>rfl⟩ hs (fun k=>by rw [hl k];simp) (fun j oj hj hlj e he hb=>?_) (by simpa using hfu)
 ·have h3:=List.all_eq_true.1 b5 i (List.mem_range.2 his)
  rw [Bool.or_eq_true] at h3
  rcases h3 with h3 | h3
  ·have:=Nat.le_of_ble_eq_true h3;omega
  ·have:=List.all_eq_true.1 h3 (j-r) (List.mem_range.2 (by omega))
   rw [show j-r+r=j by omega] at this
   exact anc_wt this
 ·rw [hl j] at hlj
  rw [hl e.on]
  have:=hback j oj hj e he hb
  have h4:j<r:=by simpa using hlj
  simp;omega
end
end Go.Vc

namespace Go.Vc
def edgL (k:Nat):List Oper→Nat→List Oper
 | [],_=>[]
 | o::l,0=>⟨o.dst,o.op,o.type,o.pos,(⟨k, .data⟩::o.after.toList).toArray,o.guard⟩::l
 | o::l,j+1=>o::edgL k l j
def edgA (ops:Array Oper) (j k:Nat):Array Oper:=(edgL k ops.toList j).toArray
theorem edgL_get (k:Nat):∀ (l:List Oper) (j i:Nat),(edgL k l j)[i]?=if i=j then (l[i]?).map (fun o=>⟨o.dst,o.op,o.type,o.pos,(⟨k, .data⟩::o.after.toList).toArray,o.guard⟩) else l[i]?
 | [],j,i=>by simp [edgL]
 | o::l,0,0=>by simp [edgL]
 | o::l,0,i+1=>by simp [edgL]
 | o::l,j+1,0=>by simp [edgL]
 | o::l,j+1,i+1=>by
  simp only [edgL,List.getElem?_cons_succ,edgL_get k l j i,Nat.add_right_cancel_iff]
theorem edgL_len (k:Nat):∀ (l:List Oper) (j:Nat),(edgL k l j).length=l.length
 | [],j=>rfl
 | o::l,0=>rfl
 | o::l,j+1=>by simp [edgL,edgL_len k l j]
def mvB:Op→Bool
 | .move _ | .extract .. | .slice ..=>true
 | _=>false
def wtB (o:Oper) (k:Nat):Bool:=o.after.toList.any fun e=>Region.binds .any e && Nat.beq e.on k
def edgB (ops:Array Oper) (j k:Nat):Bool:=match ops[j]?,ops[k]? with
 | some oj,some ok=>!(Nat.beq j k) && (ops.toList.all (fun o=>opB o.op) && (mvB ok.op && ((match ok.guard,ok.dst with
  | none,some _=>true
  | _,_=>false) && ((ok.after.toList.all fun e=>!(Region.binds .any e) || wtB oj e.on) && (List.range ops.size).all fun i=>Nat.beq i k || (match ops[i]? with
  | some oi=>wtB oi k || (wtB ok i || apartB ops ok oi)
  | none=>true)))))
 | _,_=>false
theorem wtB_ok {o:Oper} {k:Nat} (h:wtB o k=true):∃ e∈o.after,Region.binds .any e=true∧e.on=k:=by
 unfold wtB at h
 rw [List.any_eq_true] at h
 obtain ⟨e,he,h⟩:=h
 rw [Bool.and_eq_true] at h
 exact ⟨e,by simpa using he,h.1,Nat.eq_of_beq_eq_true h.2⟩
inductive HS {α:Type}:Sem α→Prop
 | halt (h:Halt):HS (.halt h)
 | program {k:Program→Sem α} (h:∀ p,HS (k p)):HS (.program k)
 | choose {q:Question} {k:Nat→Sem α} (h:∀ n,HS (k n)):HS (.choose q k)
inductive PS {α:Type}:Sem α→Prop
 | pure (a:α):PS (.pure a)
 | hs {s:Sem α} (h:HS s):PS s
 | program {k:Program→Sem α} (h:∀ p,PS (k p)):PS (.program k)
theorem HS.bind {α β:Type} {s:Sem α} {f:α→Sem β} (h:HS s):HS (s >>= f):=by
 show HS (s.bind f)
 induction h with
 | halt h=>exact .halt h
 | program _ ih=>exact .program ih
 | choose _ ih=>exact .choose ih
theorem PS.bind {α β:Type} {s:Sem α} {f:α→Sem β} (h:PS s) (hf:∀ a,PS (f a)):PS (s >>= f):=by
 show PS (s.bind f)
 induction h with
 | pure a=>exact hf a
 | hs h=>exact .hs h.bind
 | program _ ih=>exact .program ih
theorem HS.run {α:Type} {P:Program} {s:Sem α} (h:HS s):∀ w,∃ x w',s.run P w = .halt x w':=by
 induction h with
 | halt h=>exact fun w=>⟨h,w,rfl⟩
 | program _ ih=>exact fun w=>ih P w
 | choose _ ih =>
  intro w
  unfold Sem.run
  split
  ·exact ih 0 w
  ·exact ih _ _
theorem PS.run {α:Type} {P:Program} {s:Sem α} (h:PS s):(∃ v,∀ w,s.run P w = .ok v w)∨∀ w,∃ x w',s.run P w = .halt x w':=by
 induction h with
 | pure a=>exact .inl ⟨a,fun w=>rfl⟩
 | hs h=>exact .inr h.run
 | program _ ih=>exact ih P
theorem ps_stuck {α:Type} (m:String):PS (stuck m:Sem α) := .hs (.halt _)
theorem ps_info (t:TypeId):PS (typeInfo t):=by
 unfold typeInfo
 refine PS.bind (.program fun p=>.pure p) fun p=>?_
 split
 ·exact .pure _
 ·exact ps_stuck _
theorem ps_und (t:TypeId):PS (underlying t):=by
 unfold underlying
 refine PS.bind (.program fun p=>.pure p) fun p=>?_
 split
 ·exact .pure _
 ·exact ps_stuck _
theorem ps_bound (x:Value) (y:Nat) (c:BoundsCode):PS (Instr.sliceBound x y c):=by
 unfold Instr.sliceBound
 refine PS.bind ?_ fun p=>?_
 ·unfold asIntOf
  split
  ·exact .pure _
  ·exact .hs (.halt _)
  ·exact ps_stuck _
 ·obtain ⟨k,i⟩:=p
  dsimp only
  split
  ·exact .pure _
  ·unfold boundsPanic runtimePanic
   refine .hs ?_
   split
   ·exact HS.choose fun n=>HS.program fun p=>HS.halt _
   ·exact HS.program fun p=>HS.halt _
theorem ps_bounds (b:Bool) (n m:Nat) (x y z:Option Value):PS (Instr.sliceBounds b n m x y z):=by
 unfold Instr.sliceBounds
 dsimp only
 repeat' first
  | exact .pure _
  | exact ps_stuck _
  | exact ps_bound _ _ _
  | refine PS.bind ?_ fun _=>?_
  | split
theorem ps_slice (t:TypeId) (x:Value) (a b c:Option Value):PS (Instr.slice t x a b c):=by
 unfold Instr.slice
 refine PS.bind (ps_und t) fun d=>?_
 dsimp only
 split
 ·repeat' first
   | exact .pure _
   | exact ps_stuck _
   | exact ps_bounds _ _ _ _ _ _
   | refine PS.bind ?_ fun _=>?_
   | split
 ·repeat' first
   | exact .pure _
   | exact ps_bounds _ _ _ _ _ _
   | exact ps_info _
   | unfold sizeOf
   | refine PS.bind ?_ fun _=>?_
   | split
 ·refine PS.bind ?_ fun a=>?_
  ·unfold asAddr
   split
   ·exact .pure _
   ·unfold runtimePanic
    exact .hs (HS.program fun p=>HS.halt _)
   ·exact ps_stuck _
  ·repeat' first
    | exact .pure _
    | exact ps_stuck _
    | exact ps_bounds _ _ _ _ _ _
    | exact ps_info _
    | exact ps_und _
    | unfold sizeOf
    | refine PS.bind ?_ fun _=>?_
    | split
 ·exact ps_stuck _
theorem ps_sliceAt (t:TypeId) (x:Value) (a b c:Option Value):PS (Instr.sliceAt t x a b c):=by
 unfold Instr.sliceAt
 refine PS.bind (ps_und t) fun d=>?_
 dsimp only
 split
 ·refine PS.bind ?_ fun a=>?_
  ·unfold Instr.sureAddr
   split
   ·exact .pure _
   ·exact ps_stuck _
  ·repeat' first
    | exact .pure _
    | exact ps_stuck _
    | exact ps_bounds _ _ _ _ _ _
    | exact ps_info _
    | unfold sizeOf
    | refine PS.bind ?_ fun _=>?_
    | split
 ·exact ps_slice _ _ _ _ _
section
variable {F:Fence} {n:Nat} {P:Program} {ops:Array Oper} {Q:Exit→Act→World→Prop} {j k:Nat} {oj ok:Oper}
structure EdgOk (ops:Array Oper) (j k:Nat) (oj ok:Oper):Prop where
 hj:ops[j]?=some oj
 hk:ops[k]?=some ok
 ne:j≠k
 all:∀ (j:Nat) (oj:Oper),ops[j]?=some oj→(∀ c,oj.op≠.defer c)∧∀ cs b,oj.op≠.select cs b
 mv:mvB ok.op=true
 gd:ok.guard=none
 dst:ok.dst≠none
 dep:∀ e∈ok.after,Region.binds .any e=true→∃ e'∈oj.after,Region.binds .any e'=true∧e'.on=e.on
 apart:∀ (i:Nat) (oi:Oper),i≠k→ops[i]?=some oi→(∃ e∈oi.after,Region.binds .any e=true∧e.on=k)∨(∃ e∈ok.after,Region.binds .any e=true∧e.on=i)∨Apart ops ok oi
theorem edg_ok (h:edgB ops j k=true):∃ oj ok,EdgOk ops j k oj ok:=by
 unfold edgB at h
 split at h
 ·rename_i oj ok hj hk
  simp only [Bool.and_eq_true] at h
  obtain ⟨h1,h2,h3,h4,h5,h6⟩:=h
  rw [List.all_eq_true] at h2 h5 h6
  refine ⟨oj,ok,hj,hk,?_,fun i oi hi=>?_,h3,?_,?_,fun e he hb=>?_,fun i oi hne hi=>?_⟩
  ·intro e;subst e;rw [Nat.beq_refl] at h1;cases h1
  ·have:=h2 oi (by rw [←Array.getElem?_toList] at hi;exact List.mem_of_getElem? hi)
   refine ⟨fun c hc=>?_,fun cs b hc=>?_⟩ <;> (rw [hc] at this;cases this)
  ·cases hg:ok.guard with
   | none=>rfl
   | some g=>rw [hg] at h4;cases h4
  ·cases hd:ok.dst with
   | none=>rw [hd] at h4;cases hg:ok.guard <;> (rw [hg] at h4;cases h4)
   | some d=>exact fun h=>by cases h
  ·have:=h5 e (by simpa using he)
   rw [Bool.or_eq_true,hb] at this
   rcases this with h | h
   ·cases h
   ·exact wtB_ok h
  ·have hil:=(Array.getElem?_eq_some_iff.1 hi).1
   have:=h6 i (List.mem_range.2 hil)
   rw [Bool.or_eq_true] at this
   rcases this with h | h
   ·exact absurd (Nat.eq_of_beq_eq_true h) hne
   ·rw [hi] at h
    simp only [Bool.or_eq_true] at h
    rcases h with h | h | h
    ·exact .inl (wtB_ok h)
    ·exact .inr (.inl (wtB_ok h))
    ·exact .inr (.inr (apartB_ok h))
 ·cases h
theorem edgA_get (J:EdgOk ops j k oj ok) (i:Nat):(edgA ops j k)[i]?=if i=j then some ⟨oj.dst,oj.op,oj.type,oj.pos,(⟨k, .data⟩::oj.after.toList).toArray,oj.guard⟩ else ops[i]?:=by
 unfold edgA
 rw [List.getElem?_toArray,edgL_get]
 by_cases e:i=j
 ·subst e;rw [if_pos rfl,if_pos rfl,Array.getElem?_toList,J.hj];rfl
 ·rw [if_neg e,if_neg e,Array.getElem?_toList]
theorem mv_run {o:Oper} (h:mvB o.op=true) (_:Option Nat) (ρ:Operand→Value):(∃ v,∀ w,(o.semAt (F.round) ρ).run P w = .ok (.value v) w)∨∀ w,∃ x w',(o.semAt (F.round) ρ).run P w = .halt x w':=by
 unfold mvB at h
 split at h
 ·rename_i y hop
  refine .inl ⟨ρ y,fun w=>?_⟩
  unfold Oper.semAt execOp
  cases F.round <;> simp only [hop] <;> rfl
 ·rename_i y i hop
  have key:∀ ρ,(o.semAt F.round ρ)=execOp ρ o:=fun ρ=>by
   unfold Oper.semAt
   cases F.round with
   | none=>rfl
   | some l=>simp only [hop]
  rw [key]
  unfold execOp
  simp only [hop]
  cases hv:ρ y with
  | tuple vs =>
   cases hi:vs[i]? with
   | some v=>exact .inl ⟨v,fun w=>by simp only [Instr.extract,hi];rfl⟩
   | none=>exact .inr fun w=>by simp only [Instr.extract,hi];exact ⟨_,_,rfl⟩
  | _=>exact .inr fun w=>by simp only [Instr.extract];exact ⟨_,_,rfl⟩
 ·rename_i ty y lo hi mx hop
  have key:∀ ρ,(o.semAt F.round ρ)=execOp ρ o:=fun ρ=>by
   unfold Oper.semAt
   cases F.round with
   | none=>rfl
   | some l=>simp only [hop]
  rw [key]
  unfold execOp
  simp only [hop]
  rcases PS.run (P:=P) (ps_sliceAt ty (ρ y) (lo.map ρ) (hi.map ρ) (mx.map ρ)) with ⟨u,hu⟩ | hh
  ·exact .inl ⟨u,fun w=>by rw [Sem.run_bind,hu w];rfl⟩
  ·refine .inr fun w=>?_
   obtain ⟨x,w',hx⟩:=hh w
   exact ⟨x,w',by rw [Sem.run_bind,hx];rfl⟩
 ·cases h
theorem edg_back (J:EdgOk ops j k oj ok) (hnp:∀ c a w,¬Q (.panic c) a w) (hFn:∀ f,F.fn f):∀ (fuel:Nat) (L:Array Bool) (a:Act) (w:World),L.size=ops.size→wpAnyIn F n P .any (edgA ops j k) Q fuel L a w→wpAnyIn F n P .any ops Q fuel L a w:=by
 have hjl:=(Array.getElem?_eq_some_iff.1 J.hj).1
 have hkl:=(Array.getElem?_eq_some_iff.1 J.hk).1
 have hyl:∀ t i,yielded (edgA ops j k) t i=yielded ops t i:=fun t i=>by
  unfold yielded
  rw [edgA_get J]
  by_cases e:i=j
  ·subst e;rw [if_pos rfl,J.hj];rfl
  ·rw [if_neg e]
 have up:∀ (L:Array Bool) (i:Nat),i∈Region.ready .any ops L→(i=j→L.getD k false=true)→i∈Region.ready .any (edgA ops j k) L:=fun L i hi hx=>by
  obtain ⟨g1,oi,g2,g3⟩:=mem_ready.1 hi
  by_cases e:i=j
  ·subst e
   rw [J.hj] at g2;cases g2
   refine mem_ready.2 ⟨g1,_,by rw [edgA_get J,if_pos rfl],fun e he hb=>?_⟩
   have he:e∈(⟨k, .data⟩:Edge)::oj.after.toList:=by simpa using he
   rcases List.mem_cons.1 he with he | he
   ·rw [he];exact hx rfl
   ·exact g3 e (by simpa using he) hb
  ·exact mem_ready.2 ⟨g1,oi,by rw [edgA_get J,if_neg e];exact g2,g3⟩
 have kin:∀ (L:Array Bool),L.size=ops.size→j∈Region.ready .any ops L→L.getD k false=false→k∈Region.ready .any ops L:=fun L hs hj hf=>by
  obtain ⟨g1,oi,g2,g3⟩:=mem_ready.1 hj
  rw [J.hj] at g2;cases g2
  refine mem_ready.2 ⟨getD_in (by rw [hs];exact hkl) hf,ok,J.hk,fun e he hb=>?_⟩
  obtain ⟨e',h1,h2,h3⟩:=J.dep e he hb
  rw [←h3];exact g3 e' h1 h2
 have down:∀ (L:Array Bool),L.size=ops.size→Region.ready .any ops L=[]→Region.ready .any (edgA ops j k) L=[]:=fun L hs h=>List.eq_nil_iff_forall_not_mem.2 fun i hi=>by
  obtain ⟨g1,oi,g2,g3⟩:=mem_ready.1 hi
  have:i∈Region.ready .any ops L:=by
   rw [edgA_get J] at g2
   by_cases e:i=j
   ·subst e
    rw [if_pos rfl] at g2;cases g2
    exact mem_ready.2 ⟨g1,oj,J.hj,fun e he hb=>g3 e (by simpa using Or.inr he) hb⟩
   ·rw [if_neg e] at g2
    exact mem_ready.2 ⟨g1,oi,g2,g3⟩
  rw [h] at this;cases this
 intro fuel
 induction fuel with
 | zero =>
  intro L a w hs h
  refine ⟨List.eq_nil_iff_forall_not_mem.2 fun i hi=>?_,h.2⟩
  by_cases hc:i=j∧L.getD k false=false
  ·obtain ⟨rfl,hc⟩:=hc
   have h1:=up L k (kin L hs hi hc) (fun e=>absurd e.symm J.ne)
   rw [h.1] at h1;cases h1
  ·have h1:=up L i hi (fun e=>by
    cases hg:L.getD k false with
    | true=>rfl
    | false=>exact absurd ⟨e,hg⟩ hc)
   rw [h.1] at h1;cases h1
 | succ fuel ih =>
  intro L a w hs h
  by_cases hk:L.getD k false=false∧k∈Region.ready .any ops L
  ·obtain ⟨hkf,hkr⟩:=hk
   have h2:=h.2 k (up L k hkr (fun e=>absurd e.symm J.ne))
   unfold wpOpIn at h2
   rw [edgA_get J,if_neg (Ne.symm J.ne),J.hk] at h2
   simp only at h2
   have hw:∀ t,Region.wanted ok t=true:=fun t=>by unfold Region.wanted;rw [J.gd]
   rw [if_pos (hw _)] at h2
   unfold Oper.wpIn at h2
   have h3:=h2.2
   rcases mv_run (F:=F) (P:=P) J.mv none a.eval with ⟨v,hv⟩ | hh
   ·rw [hv w] at h3
    have h4:wpAnyIn F n P .any (edgA ops j k) Q fuel (L.setIfInBounds k true) (a.put ok.dst v) w:=h3
    exact take_go J.hk hnp J.all J.dst hFn fuel L a w hs hkr (fun L' hL' hsub i oi hi hne hr=>by
     rcases J.apart i oi hne hi with ⟨e,he,hb,heq⟩ | ⟨e,he,hb,heq⟩ | hA
     ·exfalso
      obtain ⟨_,oi',g2,g3⟩:=mem_ready.1 hr
      rw [hi] at g2;cases g2
      have:=g3 e he hb
      rw [heq,hL'] at this
      cases this
     ·exfalso
      obtain ⟨_,ok',g2,g3⟩:=mem_ready.1 hkr
      rw [J.hk] at g2;cases g2
      have h5:=hsub _ (g3 e he hb)
      rw [heq] at h5
      have h6:=getD_both (mem_ready.1 hr).1
      rw [h5] at h6
      cases h6
     ·exact hA) ⟨hv,hw _⟩ (ih _ _ _ (by simp [hs]) h4)
   ·exfalso
    obtain ⟨x,w',hx⟩:=hh w
    rw [hx] at h3
    cases x <;> simp only [Oper.uponIn] at h3 <;> first | exact hnp _ _ _ h3 | exact h3
  ·refine ⟨fun h0=>h.1 (down L hs h0),fun i hi=>?_⟩
   have hi':i∈Region.ready .any (edgA ops j k) L:=up L i hi (fun e=>by
    subst e
    cases hg:L.getD k false with
    | true=>rfl
    | false=>exact absurd ⟨hg,kin L hs hi hg⟩ hk)
   have h2:=h.2 i hi'
   have h2:=wpOpIn_mono (fun a w=>ih (L.setIfInBounds i true) a w (by simp [hs])) h2
   unfold wpOpIn at h2 ⊢
   obtain ⟨_,oi,g2,_⟩:=mem_ready.1 hi
   have hy:yielded (edgA ops j k) a.tmps=yielded ops a.tmps:=funext fun i=>hyl _ i
   rw [edgA_get J] at h2
   by_cases e:i=j
   ·subst e
    rw [if_pos rfl] at h2
    rw [J.hj]
    simp only [hy] at h2 ⊢
    obtain ⟨dst,op,type,pos,after,guard⟩:=oj
    exact h2
   ·rw [if_neg e,g2] at h2
    rw [g2]
    simp only [hy] at h2 ⊢
    exact h2
end
section
variable [H:Holes] {P:Program} {K:Nat→Option (List Value)} {s:St} {ρ:Rho} {Q:Post}
theorem sx_edge {ops:Array Oper} {j k:Nat} (hc:s.cur = .draw ops 0) (hp:edgB ops j k=true) (h:Sx P K ⟨.draw (edgA ops j k) 0,s.ks,s.tm,s.m,s.Y,s.nt,s.key⟩ ρ Q):Sx P K s ρ Q:=by
 obtain ⟨oj,ok,J⟩:=edg_ok hp
 intro F hF n b hB Qw hQ σ a w hA
 rw [hc]
 intro fuel listed hs hl hf
 have h1:=h F hF n b hB Qw hQ σ a w (hA.move rfl rfl rfl rfl) fuel listed (by unfold edgA;simp [hs,edgL_len]) hl (by unfold edgA;simp [edgL_len];exact hf)
 exact edg_back J (fun c a w=>after_np F n P Qw c a w s.ks) hF.fn fuel listed a w hs h1
def edgAll:List Nat→Array Oper→Option (Array Oper)
 | j::k::l,ops=>match edgB ops j k with
  | true=>edgAll l (edgA ops j k)
  | false=>none
 | [],ops=>some ops
 | _,_=>none
theorem sx_edges:∀ (l:List Nat) {ops ops':Array Oper} {s:St},s.cur = .draw ops 0→edgAll l ops=some ops'→Sx P K ⟨.draw ops' 0,s.ks,s.tm,s.m,s.Y,s.nt,s.key⟩ ρ Q→Sx P K s ρ Q
 | [],ops,ops',s,hc,h,k=>by
  cases h
  obtain ⟨c,ks,tm,m,Y,nt,key⟩:=s
  cases hc
  exact k
 | [_],_,_,_,_,h,_=>by cases h
 | a::b::l,ops,ops',s,hc,h,k=>by
  unfold edgAll at h
  split at h
  ·rename_i hb
   exact sx_edge hc hb (sx_edges l (s:=⟨.draw (edgA ops a b) 0,s.ks,s.tm,s.m,s.Y,s.nt,s.key⟩) rfl h k)
  ·cases h
end
end Go.Vc
