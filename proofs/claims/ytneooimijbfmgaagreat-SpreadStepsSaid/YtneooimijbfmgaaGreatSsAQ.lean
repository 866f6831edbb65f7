import Derived.Test.YtneooimijbfmgaaGreatSsAN
import Derived.Test.YtneooimijbfmgaaGreatSsAP
set_option linter.unusedVariables false
set_option linter.unusedSimpArgs false
set_option linter.unusedSectionVars false
noncomputable section
namespace Go.Vc
section
variable {P:Program} {α β:Type}
def Quiet (P:Program) (s:Sem α):Prop:=∀ w x w',s.run P w = .ok x w'→w'=w
def Never (P:Program) (s:Sem α):Prop:=∀ w x w',s.run P w = .ok x w'→False
theorem Never.quiet {s:Sem α} (h:Never P s):Quiet P s:=fun w x w' hr=>(h w x w' hr).elim
theorem Quiet.pure (x:α):Quiet P (pure x:Sem α):=fun w y w' h=>by cases h;rfl
theorem Quiet.bind {s:Sem α} {f:α→Sem β} (h:Quiet P s) (k:∀ a,Quiet P (f a)):Quiet P (s >>= f):=fun w x w' hr=>by
 rw [Sem.run_bind] at hr
 cases hq:s.run P w with
 | ok a w1 =>
  rw [hq] at hr
  have:=h w a w1 hq
  subst this
  exact k a _ _ _ hr
 | halt c w1=>rw [hq] at hr;cases hr
theorem Never.bind {s:Sem α} {f:α→Sem β} (k:∀ a,Never P (f a)):Never P (s >>= f):=fun w x w' hr=>by
 rw [Sem.run_bind] at hr
 cases hq:s.run P w with
 | ok a w1=>rw [hq] at hr;exact k a _ _ _ hr
 | halt c w1=>rw [hq] at hr;cases hr
theorem Hp (h:Halt):Never P (.halt h:Sem α):=fun w x w' hr=>by cases hr
theorem Av (s:String):Quiet P (stuck s:Sem α):=(Hp _).quiet
theorem Cn (u:Unsupported):Quiet P (unsupported u:Sem α):=(Hp _).quiet
theorem Dz:Quiet P program:=fun w x w' h=>by cases h;rfl
theorem Qn (r:Nat):Quiet P (shape r):=fun w x w' h=>by cases h;rfl
theorem Vk (a:Addr) (m:Mode):Quiet P (load a m):=fun w x w' h=>by
 unfold load Sem.run at h
 split at h
 ·cases h;rfl
 ·split at h
  ·cases h;rfl
  ·cases h
theorem Dl:Never P (runtimePanic .nilDeref:Sem α):=Never.bind fun _=>Hp _
theorem Aby (k:IntKind) (x y:Int) (c:BoundsCode):Never P (boundsPanic k x y c:Sem α):=by
 have hr:∀ b,Never P (runtimePanic (.bounds (IntKind.i64.wrap x) y b c):Sem α):=fun b=>Never.bind fun _=>Hp _
 unfold boundsPanic
 dsimp only
 split <;> exact Never.bind fun b=>hr b
end
theorem Br {P:Program} (t:TypeId):Quiet P (underlying t):=by
 unfold underlying
 refine Quiet.bind Dz fun p=>?_
 split
 ·exact Quiet.pure _
 ·exact Av _
theorem Vl {P:Program} (t:TypeId):Quiet P (typeInfo t):=by
 unfold typeInfo
 refine Quiet.bind Dz fun p=>?_
 split
 ·exact Quiet.pure _
 ·exact Av _
theorem Hm {P:Program} (t:TypeId):Quiet P (sizeOf t):=Quiet.bind (Vl t) fun _=>Quiet.pure _
theorem Abp {P:Program} (t:TypeId):Quiet P (isAgg t):=by
 unfold isAgg
 refine Quiet.bind (Br t) fun d=>?_
 split <;> exact Quiet.pure _
theorem Qo {P:Program} (a:Addr):∀ (n i:Nat) (acc:Array Value),Quiet P (loadCellsFrom a i n acc)
 | 0,i,acc=>Quiet.pure _
 | n+1,i,acc=>Quiet.bind (Vk _ _) fun v=>Qo a n (i+1) _
theorem Ls {P:Program} (v:Value):Quiet P (Instr.sureAddr v):=by
 unfold Instr.sureAddr
 split
 ·exact Quiet.pure _
 ·exact Av _
theorem Abo {P:Program} (t:TypeId) (v:Value):Quiet P (Instr.loadAt t v):=by
 unfold Instr.loadAt loadVar
 refine Quiet.bind (Ls v) fun a=>Quiet.bind (Abp t) fun b=>?_
 cases b with
 | true=>exact Quiet.bind (Hm t) fun n=>Quiet.bind (Qo a n 0 _) fun _=>Quiet.pure _
 | false=>exact Vk _ _
theorem Ad1 {P:Program} (v:Value):Quiet P (asIntOf v):=by
 unfold asIntOf
 split
 ·exact Quiet.pure _
 ·exact Cn _
 ·exact Av _
theorem Yb {P:Program} (t:TypeId) (x i:Value):Quiet P (Instr.indexAt t x i):=by
 unfold Instr.indexAt
 refine Quiet.bind (Ad1 i) fun p=>?_
 obtain ⟨k,i⟩:=p
 dsimp only
 have fin:∀ (base:Option Addr) (len:Nat) (elem:TypeId),Quiet P (do
   let tiny:=len≤1 && (match ←underlying t with | .array ..=>true | _=>false)
   match base with
   | some a =>
    if 0≤i∧i<len then pure (.pointer (some (a.add (i.toNat*(←sizeOf elem)))))
    else if tiny then unsupported (.noEntry "op/indexAddr.an index out of range at an array of length 0 or 1 (ledger 616)")
    else boundsPanic k i len .index
   | none=>boundsPanic k i 0 .index:Sem Value):=fun base len elem=>by
  refine Quiet.bind (Br t) fun d=>?_
  dsimp only
  repeat' split
  all_goals first
   | exact Cn _
   | exact (Aby _ _ _ _).quiet
   | exact Quiet.bind (Hm elem) fun n=>Quiet.pure _
 refine Quiet.bind (Br t) fun d=>?_
 split
 ·exact Quiet.bind (Ls _) fun a=>Quiet.bind (Quiet.pure _) fun p=>fin p.1 p.2.1 p.2.2
 ·exact Quiet.bind (Quiet.pure _) fun p=>fin p.1 p.2.1 p.2.2
 ·exact Quiet.bind (Av _) fun p=>fin p.1 p.2.1 p.2.2
theorem Ama {P:Program} (r:Nat):Quiet P (getObj r):=fun w x w' h=>by
 unfold getObj Sem.run at h
 split at h
 ·cases h
 ·cases h;rfl
 ·cases h
theorem Aiz {P:Program} (r:Nat):Quiet P (viewAt r):=by
 unfold viewAt
 refine Quiet.bind (Qn r) fun o=>?_
 split
 ·exact Quiet.pure _
 ·refine Quiet.bind (Ama r) fun o=>?_
  split <;> exact Quiet.pure _
theorem Abn {P:Program} (a:Addr):Quiet P (noView a):=by
 unfold noView
 refine Quiet.bind (Aiz _) fun o=>?_
 split
 ·exact Cn _
 ·exact Quiet.pure _
theorem Nj {P:Program} (a:Addr):Quiet P (byteOf a):=by
 unfold byteOf
 dsimp only
 split
 ·exact Quiet.pure _
 ·refine Quiet.bind Dz fun p=>Quiet.bind (Abn a) fun _=>Quiet.bind (Qn _) fun o=>?_
  split
  ·split
   ·exact Quiet.pure _
   ·split
    ·exact Quiet.pure _
    ·exact Av _
  ·exact Av _
theorem Abm {P:Program} (a:Addr) (c b:Nat):Quiet P (partAt a c b):=Quiet.bind (Nj _) fun x=>Quiet.bind (Nj _) fun y=>Quiet.pure _
theorem Ad0 {P:Program} (a:Addr) (f:Field):Quiet P (fieldPlace a f):=by
 unfold fieldPlace
 refine Quiet.bind (Hm _) fun n=>?_
 split
 ·exact Abm _ _ _
 ·exact Quiet.pure _
theorem Yc {P:Program} (s:TypeId) (v:Value) (f:Nat):Quiet P (Instr.fieldAt s v f):=by
 unfold Instr.fieldAt
 refine Quiet.bind (Br s) fun d=>?_
 split
 ·split
  ·exact Quiet.bind (Ls v) fun a=>Quiet.bind (Ad0 _ _) fun b=>Quiet.pure _
  ·exact Av _
 ·exact Av _
theorem Ai0 {P:Program} (t:TypeId) (cs:Array Value) (o:Nat):Quiet P (part t cs o):=by
 unfold part
 refine Quiet.bind (Abp t) fun b=>?_
 split
 ·exact Quiet.bind (Hm t) fun n=>Quiet.pure _
 ·split
  ·exact Quiet.pure _
  ·exact Av _
theorem Ep {P:Program}:∀ (l:List FieldStep) (t:TypeId) (x:Option Value),Quiet P (followBlind l t x)
 | [],t,x=>Quiet.pure _
 | s::l,t,x=>by
  unfold followBlind
  refine Quiet.bind (Br _) fun d=>?_
  split
  ·split
   ·split
    ·exact Quiet.pure _
    ·exact Ep l _ _
    ·exact Av _
    ·exact Quiet.pure _
    ·exact Quiet.bind (Ai0 _ _ _) fun v=>Ep l _ _
    ·exact Av _
    ·exact Ep l _ _
   ·exact Av _
  ·exact Av _
theorem Ia {P:Program}:∀ (n:Nat) (t:TypeId) (v:Value) (name:String),Quiet P (nilAhead n t v name)
 | 0,t,v,name=>Quiet.pure _
 | n+1,t,v,name=>by
  unfold nilAhead
  refine Quiet.bind (Vl _) fun i=>?_
  split
  ·refine Quiet.bind (Ep _ _ _) fun r=>?_
   split
   ·exact Quiet.pure _
   ·split
    ·exact Ia n _ _ _
    ·exact Quiet.pure _
    ·exact Av _
    ·exact Quiet.pure _
    ·exact Quiet.pure _
    ·refine Quiet.bind (Br _) fun d=>?_
     split <;> exact Quiet.pure _
  ·exact Av _
def quietB:Op→Bool
 | .move _ | .assign _ | .fieldAddr .. | .load .. | .nilCheck _ | .indexAddr ..=>true
 | _=>false
def QV (P:Program) (s:Sem Next):Prop:=∀ w x w',s.run P w = .ok x w'→w'=w∧∃ v,x = .value v
theorem QV.of {P:Program} {s:Sem Value} (h:Quiet P s):QV P (do pure (.value (←s))):=fun w x w' hr=>by
 rw [Sem.run_bind] at hr
 cases hq:s.run P w with
 | ok a w1 =>
  rw [hq] at hr
  have:=h w a w1 hq
  subst this
  cases hr
  exact ⟨rfl,_,rfl⟩
 | halt c w1=>rw [hq] at hr;cases hr
theorem QV.pure {P:Program} (v:Value):QV P (pure (.value v)):=fun w x w' h=>by cases h;exact ⟨rfl,_,rfl⟩
theorem QV.bind {P:Program} {α:Type} {s:Sem α} {f:α→Sem Next} (h:Quiet P s) (k:∀ a,QV P (f a)):QV P (s >>= f):=fun w x w' hr=>by
 rw [Sem.run_bind] at hr
 cases hq:s.run P w with
 | ok a w1 =>
  rw [hq] at hr
  have:=h w a w1 hq
  subst this
  exact k a _ _ _ hr
 | halt c w1=>rw [hq] at hr;cases hr
theorem QV.never {P:Program} {s:Sem Next} (h:Never P s):QV P s:=fun w x w' hr=>(h w x w' hr).elim
theorem Aqp {P:Program} {o:Oper} (h:quietB o.op=true) (l:Option Nat) (ev:Operand→Value):QV P (o.semAt l ev):=by
 have hx:QV P (execOp ev o):=by
  unfold quietB at h
  split at h
  ·rename_i y hop;unfold execOp;simp only [hop];exact QV.pure _
  ·rename_i y hop;unfold execOp;simp only [hop];exact QV.pure _
  ·rename_i t y f hop;unfold execOp;simp only [hop];exact QV.of (Yc _ _ _)
  ·rename_i t y hop;unfold execOp;simp only [hop];exact QV.of (Abo _ _)
  ·rename_i y hop
   unfold execOp
   simp only [hop]
   split
   ·exact QV.never Dl
   ·exact QV.never Dl
   ·exact QV.never Dl
   ·split
    ·exact QV.never Dl
    ·refine QV.bind Dz fun p=>QV.bind (Ia _ _ _ _) fun b=>?_
     split
     ·exact QV.bind (Cn _) fun _=>QV.pure _
     ·exact QV.pure _
    ·exact QV.pure _
   ·exact QV.pure _
  ·rename_i t y i hop;unfold execOp;simp only [hop];exact QV.of (Yb _ _ _)
  ·cases h
 unfold Oper.semAt
 split
 ·rename_i c hc
  rw [hc] at h
  cases h
 ·exact hx
section
variable {F:Fence} {n:Nat} {P:Program} {ops:Array Oper} {w:World}
theorem Apn {Q:Exit→Act→World→Prop} {o:Oper} {K:Act→World→Prop} {a:Act} (hq:quietB o.op=true) (hnp:∀ c a w,¬Q (.panic c) a w) (h:o.wpIn F n P a w K Q):∃ v,(o.semAt F.round a.eval).run P w = .ok (.value v) w∧K (a.put o.dst v) w:=by
 have h2:=h.2
 cases hr:(o.semAt F.round a.eval).run P w with
 | ok x w' =>
  obtain ⟨rfl,v,rfl⟩:=Aqp hq _ _ _ _ _ hr
  rw [hr] at h2
  exact ⟨v,rfl,h2⟩
 | halt x w' =>
  exfalso
  rw [hr] at h2
  unfold Oper.uponIn at h2
  cases x <;> first | exact hnp _ _ _ h2 | exact h2.elim
def QuietAt (ops:Array Oper) (nt j:Nat):Prop:=∃ oj d,ops[j]?=some oj∧quietB oj.op=true∧oj.guard=none∧oj.dst=some d∧d<nt
theorem Vv {Q:Exit→Act→World→Prop} (hnp:∀ c a w,¬Q (.panic c) a w) {nt:Nat}:∀ (js:List Nat) (l:List Oper) (a:Act),a.tmps.size=nt→(∀ j∈js,QuietAt ops nt j)→js.map (fun j=>ops[j]?)=l.map some→wpListIn F n P ops Q l a w→∃ vs,Looks F P ops w js vs a∧Q .normal (starA ops js vs a) w
 | [],l,a,hs,hj,hl,h=>by
  have:l=[]:=by cases l with | nil=>rfl | cons x l=>cases hl
  subst this
  exact ⟨[], .nil a,h⟩
 | j::js,l,a,hs,hj,hl,h=>by
  cases l with
  | nil=>cases hl
  | cons o l =>
   have ho:ops[j]?=some o:=(List.cons.inj hl).1
   obtain ⟨oj,d,h1,h2,h3,h4,h5⟩:=hj j List.mem_cons_self
   rw [ho] at h1;cases h1
   unfold wpListIn at h
   rw [if_pos (by unfold Region.wanted;rw [h3])] at h
   obtain ⟨v,h6,h7⟩:=Apn h2 hnp h
   obtain ⟨vs,h8,h9⟩:=Vv hnp js l _ (by rw [psz];exact hs) (fun j hj'=>hj j (List.mem_cons_of_mem _ hj')) (List.cons.inj hl).2 h7
   refine ⟨v::vs, .cons ho h4 (by rw [hs];exact h5) h6 h3 h8,?_⟩
   show Q .normal (starA ops js vs (a.put ((ops[j]?).bind (·.dst)) v)) w
   rw [ho]
   exact h9
theorem Arb {js:List Nat} {vs:List Value} {a c:Act} {done:List Nat} {r:Nat} (hris:risB ops js=true) (hall:∀ (j:Nat) (oj:Oper),ops[j]?=some oj→(∀ c,oj.op≠.defer c)∧∀ cs b,oj.op≠.select cs b) (hge:∀ j∈js,r≤j) (hlk:Looks F P ops w js vs a) (hm:Mix ops done a (starA ops js vs a) c) (hsub:∀ i∈done,i∈js) {j:Nat} (hj:j∈js) (hdeps:∀ oj,ops[j]?=some oj→∀ e∈oj.after,Region.binds .any e=true→e.on<r∨e.on∈done) :
  ∃ (v:Value) (oj:Oper),ops[j]?=some oj∧StarOk F P ops w j v (starA ops js vs a)∧(oj.semAt F.round c.eval).run P w = .ok (.value v) w∧oj.guard=none:=by
 obtain ⟨i,hi⟩:=List.mem_iff_getElem?.1 hj
 have hvl:=hlk.len
 have hil:i<vs.length:=by rw [hvl];exact (List.getElem?_eq_some_iff.1 hi).1
 have hs:=Qk hall js vs a hlk hris i j _ hi (List.getElem?_eq_getElem hil)
 have hs':=hs
 obtain ⟨oj,d,ho,hd,hrun,hg,_,_⟩:=hs.ex
 refine ⟨_,oj,ho,hs',?_,hg⟩
 rw [Oy (ops:=ops) (a:=starA ops js vs a) (hall j oj ho).1 (hall j oj ho).2 fun t ht=>?_]
 ·exact hrun
 ·by_cases hq:∃ i∈js,(ops[i]?).bind (·.dst)=some t
  ·obtain ⟨i2,hi2,hd2⟩:=hq
   obtain ⟨e,he,hb,hqe⟩:=Mc (Xy js hris j hj oj ho t ht i2 hi2 hd2)
   have hqe:=Nat.eq_of_beq_eq_true hqe
   rcases hdeps oj ho e he hb with h | h
   ·have:=hge i2 hi2
    omega
   ·exact hm.yes i2 (hqe▸h) t hd2
  ·have hn:∀ i∈js,(ops[i]?).bind (·.dst)≠some t:=fun i hi hd=>hq ⟨i,hi,hd⟩
   have hn2:∀ i∈js,∀ x,(ops[i]?).bind (·.dst)=some x→x≠t:=fun i hi x hx e=>hn i hi (e▸hx)
   rw [Fr js vs a t hn2]
   exact hm.no t fun i hi hd=>hn i (hsub i hi) hd
theorem Adp {r p:Nat} {l:List Nat} (hn:l.Nodup) (h:∀ x∈l,r≤x∧x<p):l.length+r≤p∨l=[]:=by
 cases hl:l with
 | nil=>exact .inr rfl
 | cons y l' =>
  rw [←hl]
  have h0:=h y (by rw [hl];exact List.mem_cons_self)
  have:=Ag3 (p-r) (l.map (·-r)) (by
   rw [List.nodup_iff_pairwise_ne,List.pairwise_map]
   refine (List.nodup_iff_pairwise_ne.1 hn).imp_of_mem fun {a b} ha hb hab he=>hab ?_
   have:=h a ha;have:=h b hb;omega) (fun x hx=>by
   obtain ⟨z,hz,rfl⟩:=List.mem_map.1 hx
   have:=h z hz;omega)
  rw [List.length_map] at this
  left;omega
theorem Xu:∀ (js:List Nat) (vs:List Value) (a:Act),(starA ops js vs a).defers=a.defers
 | [],vs,a=>rfl
 | j::js,[],a=>rfl
 | j::js,v::vs,a=>by
  show (starA ops js vs (a.put ((ops[j]?).bind (·.dst)) v)).defers=_
  rw [Xu js vs,pdf]
theorem Arc {Q:Exit→Act→World→Prop} {r p:Nat} {js:List Nat} {vs:List Value} {a:Act} (hF:WF F) (hris:risB ops js=true) (hall:∀ (j:Nat) (oj:Oper),ops[j]?=some oj→(∀ c,oj.op≠.defer c)∧∀ cs b,oj.op≠.select cs b) (hback:∀ (j:Nat) (o:Oper),ops[j]?=some o→∀ e∈o.after,Region.binds .any e=true→e.on<j) (hmem:∀ j,j∈js↔r≤j∧j<p) (hrp:r≤p) (hp:p≤ops.size) (hlater:∀ i,p≤i→i<ops.size→∀ j,r≤j→j<p→Wt ops i j) (hlk:Looks F P ops w js vs a)
  (hend:∀ (fuel:Nat) (L:Array Bool),L.size=ops.size→(∀ k,L.getD k false=decide (k<p))→ops.size≤fuel+p→wpAnyIn F n P .any ops Q fuel L (starA ops js vs a) w) :
  ∀ (fuel:Nat) (done:List Nat) (a':Act) (listed:Array Bool),(∀ i∈done,i∈js)→done.Nodup→Mix ops done a (starA ops js vs a) a'→listed.size=ops.size→(∀ k,listed.getD k false=(decide (k<r) || decide (k∈done)))→(∀ j oj,ops[j]?=some oj→listed.getD j false=true→∀ e∈oj.after,Region.binds .any e=true→listed.getD e.on false=true)→ops.size≤fuel+r+done.length→wpAnyIn F n P .any ops Q fuel listed a' w:=by
 intro fuel
 induction fuel with
 | zero =>
  intro done a' listed hsub hnd hm hs hl hcl hf
  by_cases hfull:∀ j∈js,j∈done
  ·have hst:Mix ops done a (starA ops js vs a) (starA ops js vs a):=⟨Eh js vs a,Xu js vs a,fun _ _ _ _=>rfl,fun t ht=>Fr js vs a t fun j hj x hx e=>ht j (hfull j hj) (e▸hx)⟩
   rw [hm.uniq hst]
   refine hend 0 listed hs (fun k=>?_) ?_
   ·rw [hl k,←Bool.decide_or]
    refine decide_eq_decide.2 ⟨fun h=>?_,fun h=>?_⟩
    ·rcases h with h | h
     ·omega
     ·exact ((hmem k).1 (hsub k h)).2
    ·by_cases hk:k<r
     ·exact .inl hk
     ·exact .inr (hfull k ((hmem k).2 ⟨by omega,h⟩))
   ·rcases Adp hnd (fun x hx=>(hmem x).1 (hsub x hx)) with h | h
    ·omega
    ·subst h
     simp at hf
     omega
  ·exfalso
   obtain ⟨j,hj⟩:=Classical.not_forall.1 hfull
   obtain ⟨hj1,hj2⟩:=Classical.not_imp.1 hj
   rcases Adp (l:=j::done) (List.nodup_cons.2 ⟨hj2,hnd⟩) (fun x hx=>by
    rcases List.mem_cons.1 hx with rfl | hx
    ·exact (hmem _).1 hj1
    ·exact (hmem x).1 (hsub x hx)) with h | h
   ·simp at h;omega
   ·cases h
 | succ fuel ih =>
  intro done a' listed hsub hnd hm hs hl hcl hf
  by_cases hfull:∀ j∈js,j∈done
  ·have hst:Mix ops done a (starA ops js vs a) (starA ops js vs a):=⟨Eh js vs a,Xu js vs a,fun _ _ _ _=>rfl,fun t ht=>Fr js vs a t fun j hj x hx e=>ht j (hfull j hj) (e▸hx)⟩
   rw [hm.uniq hst]
   refine hend (fuel+1) listed hs (fun k=>?_) ?_
   ·rw [hl k,←Bool.decide_or]
    refine decide_eq_decide.2 ⟨fun h=>?_,fun h=>?_⟩
    ·rcases h with h | h
     ·omega
     ·exact ((hmem k).1 (hsub k h)).2
    ·by_cases hk:k<r
     ·exact .inl hk
     ·exact .inr (hfull k ((hmem k).2 ⟨by omega,h⟩))
   ·rcases Adp hnd (fun x hx=>(hmem x).1 (hsub x hx)) with h | h
    ·omega
    ·subst h
     simp at hf
     omega
  ·obtain ⟨j,hj⟩:=Classical.not_forall.1 hfull
   obtain ⟨hj1,hj2⟩:=Classical.not_imp.1 hj
   have hjr:=(hmem j).1 hj1
   have undone:∀ k,r≤k→¬k∈done→listed.getD k false=false:=fun k h1 h2=>by
    rw [hl k];simp;exact ⟨h1,h2⟩
   have hrd:∀ k,r≤k→k<p→¬k∈done→∃ i,i∈Region.ready .any ops listed:=fun k=>by
    induction k using Nat.strongRecOn with
    | _ k ihk =>
    intro h1 h2 h3
    obtain ⟨ok,hok⟩:∃ ok,ops[k]?=some ok:=⟨_,Array.getElem?_eq_getElem (by omega)⟩
    by_cases hdep:∀ e∈ok.after,Region.binds .any e=true→listed.getD e.on false=true
    ·exact ⟨k,mem_ready.2 ⟨getD_in (by rw [hs];omega) (undone k h1 h3),ok,hok,hdep⟩⟩
    ·obtain ⟨e,he⟩:=Classical.not_forall.1 hdep
     obtain ⟨he1,he2⟩:=Classical.not_imp.1 he
     obtain ⟨he3,he4⟩:=Classical.not_imp.1 he2
     have hlt:=hback k ok hok e he1 he3
     have hun:¬(e.on<r∨e.on∈done):=fun h=>he4 (by rw [hl e.on];simpa using h)
     exact ihk e.on hlt (by rcases Nat.lt_or_ge e.on r with h | h;exact absurd (.inl h) hun;exact h) (by omega) (fun h=>hun (.inr h))
   obtain ⟨i0,hi0⟩:=hrd j hjr.1 hjr.2 hj2
   refine ⟨fun h=>absurd hi0 (by rw [h];exact fun h=>by cases h),fun i hi=>?_⟩
   obtain ⟨g1,oi,g2,g3⟩:=mem_ready.1 hi
   have hnl:listed.getD i false=false:=getD_both g1
   rw [hl i] at hnl
   simp at hnl
   have his:=(Array.getElem?_eq_some_iff.1 g2).1
   by_cases hip:i<p
   ·have hij:i∈js:=(hmem i).2 ⟨by omega,hip⟩
    obtain ⟨v,oj,hoj,hst,hrun,hgj⟩:=Arb (r:=r) hris hall (fun j hj=>((hmem j).1 hj).1) hlk hm hsub hij (fun x hx=>by
     rw [g2] at hx;cases hx
     intro e he hb
     have:=g3 e he hb
     rw [hl e.on] at this
     simpa using this)
    rw [g2] at hoj;cases hoj
    unfold wpOpIn
    rw [g2]
    simp only
    rw [if_pos (by unfold Region.wanted;rw [hgj])]
    refine ⟨fun f _=>hF.fn f,?_⟩
    rw [hrun]
    show wpAnyIn F n P .any ops Q fuel (listed.setIfInBounds i true) (a'.put oi.dst v) w
    have hm2:=hm.one hst (Eh js vs a)
    rw [g2] at hm2
    refine ih (i::done) _ _ (fun q hq=>?_) (List.nodup_cons.2 ⟨hnl.2,hnd⟩) hm2 (by simp [hs]) (fun k=>?_) (fun q oq hq hlq e he hb=>?_) (by simp;omega)
    ·rcases List.mem_cons.1 hq with rfl | hq
     ·exact hij
     ·exact hsub q hq
    ·rw [Cm (by rw [hs];exact his) k,hl k]
     simp only [List.mem_cons]
     by_cases h1:k<r <;> by_cases h2:k∈done <;> by_cases h3:k=i <;> simp [h1,h2,h3]
    ·rw [Cm (by rw [hs];exact his) q] at hlq
     rw [Cm (by rw [hs];exact his) e.on]
     rw [Bool.or_eq_true] at hlq ⊢
     rcases hlq with h | h
     ·exact .inl (hcl q oq hq h e he hb)
     ·have:q=i:=by simpa using h
      subst this
      rw [g2] at hq;cases hq
      exact .inl (g3 e he hb)
   ·exfalso
    have:=Ov (D:=fun k=>listed.getD k false) hcl (fun oj ho e he hb=>by rw [g2] at ho;cases ho;exact g3 e he hb) (hlater i (by omega) his j hjr.1 hjr.2)
    rw [undone j hjr.1 hj2] at this
    cases this
end
def segN (r p:Nat):List Nat:=(List.range (p-r)).map (·+r)
def quietJ (ops:Array Oper) (nt j:Nat):Bool:=match ops[j]? with
 | some o=>quietB o.op && ((match o.guard with
  | none=>true
  | some _=>false) && (match o.dst with
  | some d=>Nat.blt d nt
  | none=>false))
 | none=>false
def waitB (A:List Nat) (n r p:Nat):Bool:=(List.range n).all fun i=>Nat.blt i p || (List.range (p-r)).all fun q=>Nat.testBit (A.getD i 0) (q+r)
def looksB (ops:Array Oper) (r p nt:Nat):Bool:=backE ops.toList 0 && (Nat.blt r p && (Nat.ble p ops.size && ((segN r p).all (quietJ ops nt) && (waitB (ancs ops.toList []) ops.size r p && (risB ops (segN r p) && ops.toList.all (fun o=>opB o.op))))))
section
variable [H:Holes] {P:Program} {K:Nat→Option (List Value)} {s:St} {ρ:Rho} {Q:Post}
theorem Aqa {ops:Array Oper} {r p:Nat} (hc:s.cur = .draw ops r) (hb:looksB ops r p s.nt=true) (k:Sx P K ⟨.ops ops ((ops.toList.drop r).take (p-r)), .draw ops p::s.ks,s.tm,s.m,s.Y,s.nt,s.key⟩ ρ Q):Sx P K s ρ Q:=by
 intro F hF n b hB Qw hQ σ a w hA
 have hrun:=k F hF n b hB Qw hQ σ a w (hA.move rfl rfl rfl rfl)
 have hrun:wpListIn F n P ops (Exit.then (drawAt F n P ops p (after F n P Qw s.ks)) (after F n P Qw s.ks)) ((ops.toList.drop r).take (p-r)) a w:=hrun
 rw [hc]
 intro fuel listed hs hl hfu
 unfold looksB at hb
 simp only [Bool.and_eq_true] at hb
 obtain ⟨b1,b2,b3,b4,b5,b6,b7⟩:=hb
 have hrp:r<p:=Nat.le_of_ble_eq_true b2
 have hps:p≤ops.size:=Nat.le_of_ble_eq_true b3
 have hback:∀ (j:Nat) (o:Oper),ops[j]?=some o→∀ e∈o.after,Region.binds .any e=true→e.on<j:=fun j o ho e he hb=>by
  have:=Lc ops.toList 0 b1 j o (by simpa using ho) e he hb
  omega
 have hall:∀ (j:Nat) (oj:Oper),ops[j]?=some oj→(∀ c,oj.op≠.defer c)∧∀ cs b,oj.op≠.select cs b:=fun j oj hj=>by
  have:=List.all_eq_true.1 b7 oj (by rw [←Array.getElem?_toList] at hj;exact List.mem_of_getElem? hj)
  refine ⟨fun c hc=>?_,fun cs b hc=>?_⟩ <;> (rw [hc] at this;cases this)
 have hmem:∀ j,j∈segN r p↔r≤j∧j<p:=fun j=>by
  unfold segN
  rw [List.mem_map]
  refine ⟨fun ⟨q,h1,h2⟩=>?_,fun h=>⟨j-r,List.mem_range.2 (by omega),by omega⟩⟩
  have:=List.mem_range.1 h1
  omega
 have hat:∀ j∈segN r p,QuietAt ops s.nt j:=fun j hj=>by
  have:=List.all_eq_true.1 b4 j hj
  unfold quietJ at this
  split at this
  ·rename_i o ho
   simp only [Bool.and_eq_true] at this
   obtain ⟨h1,h2,h3⟩:=this
   cases hg:o.guard with
   | some g=>rw [hg] at h2;cases h2
   | none =>
    cases hd:o.dst with
    | none=>rw [hd] at h3;cases h3
    | some d =>
     rw [hd] at h3
     exact ⟨o,d,ho,h1,hg,hd,Nat.le_of_ble_eq_true h3⟩
  ·cases this
 have hseg:(segN r p).map (fun j=>ops[j]?)=((ops.toList.drop r).take (p-r)).map some:=by
  refine List.ext_getElem? fun i=>?_
  unfold segN
  rw [List.map_map,List.getElem?_map,List.getElem?_map]
  by_cases hi:i<p-r
  ·have h1:i+r<ops.size:=by omega
   rw [List.getElem?_range hi,List.getElem?_take_of_lt hi,List.getElem?_drop,Array.getElem?_toList,show r+i=i+r by omega,Array.getElem?_eq_getElem h1]
   show some (ops[i+r]?)=some (some _)
   rw [Array.getElem?_eq_getElem h1]
  ·rw [List.getElem?_eq_none (by rw [List.length_range];omega),List.getElem?_eq_none (by rw [List.length_take];omega)]
   rfl
 obtain ⟨vs,h1,h2⟩:=Vv (F:=F) (n:=n) (P:=P) (w:=w) (Q:=Exit.then (drawAt F n P ops p (after F n P Qw s.ks)) (after F n P Qw s.ks)) (fun c a w=>De F n P Qw c a w s.ks) (segN r p) _ a hA.nt hat hseg hrun
 have h2:drawAt F n P ops p (after F n P Qw s.ks) (starA ops (segN r p) vs a) w:=h2
 refine Arc hF b6 hall hback hmem (Nat.le_of_lt hrp) hps (fun i hi his j hj1 hj2=>?_) h1 h2 fuel [] a listed (fun i hi=>by cases hi) List.nodup_nil ⟨rfl,rfl,fun j hj=>(by cases hj),fun _ _=>rfl⟩ hs (fun k=>by rw [hl k];simp) (fun j oj hj hlj e he hb=>?_) (by simpa using hfu)
 ·have h3:=List.all_eq_true.1 b5 i (List.mem_range.2 his)
  rw [Bool.or_eq_true] at h3
  rcases h3 with h3 | h3
  ·have:=Nat.le_of_ble_eq_true h3;omega
  ·have:=List.all_eq_true.1 h3 (j-r) (List.mem_range.2 (by omega))
   rw [show j-r+r=j by omega] at this
   exact Wr this
 ·rw [hl j] at hlj
  rw [hl e.on]
  have:=hback j oj hj e he hb
  have h4:j<r:=by simpa using hlj
  simp;omega
end
end Go.Vc

namespace Go.Vc
def edgL (k:Nat):List Oper→Nat→List Oper
 | [],_=>[]
 | o::l,0=>⟨o.dst,o.op,o.type,o.pos,(⟨k, .data⟩::o.after.toList).toArray,o.guard⟩::l
 | o::l,j+1=>o::edgL k l j
def edgA (ops:Array Oper) (j k:Nat):Array Oper:=(edgL k ops.toList j).toArray
theorem Ahn (k:Nat):∀ (l:List Oper) (j i:Nat),(edgL k l j)[i]?=if i=j then (l[i]?).map (fun o=>⟨o.dst,o.op,o.type,o.pos,(⟨k, .data⟩::o.after.toList).toArray,o.guard⟩) else l[i]?
 | [],j,i=>by simp [edgL]
 | o::l,0,0=>by simp [edgL]
 | o::l,0,i+1=>by simp [edgL]
 | o::l,j+1,0=>by simp [edgL]
 | o::l,j+1,i+1=>by
  simp only [edgL,List.getElem?_cons_succ,Ahn k l j i,Nat.add_right_cancel_iff]
theorem Za (k:Nat):∀ (l:List Oper) (j:Nat),(edgL k l j).length=l.length
 | [],j=>rfl
 | o::l,0=>rfl
 | o::l,j+1=>by simp [edgL,Za k l j]
def mvB:Op→Bool
 | .move _ | .extract .. | .slice ..=>true
 | _=>false
def wtB (o:Oper) (k:Nat):Bool:=o.after.toList.any fun e=>Region.binds .any e && Nat.beq e.on k
def edgB (ops:Array Oper) (j k:Nat):Bool:=match ops[j]?,ops[k]? with
 | some oj,some ok=>!(Nat.beq j k) && (ops.toList.all (fun o=>opB o.op) && (mvB ok.op && ((match ok.guard,ok.dst with
  | none,some _=>true
  | _,_=>false) && ((ok.after.toList.all fun e=>!(Region.binds .any e) || wtB oj e.on) && (List.range ops.size).all fun i=>Nat.beq i k || (match ops[i]? with
  | some oi=>wtB oi k || (wtB ok i || apartB ops ok oi)
  | none=>true)))))
 | _,_=>false
theorem Akj {o:Oper} {k:Nat} (h:wtB o k=true):∃ e∈o.after,Region.binds .any e=true∧e.on=k:=by
 unfold wtB at h
 rw [List.any_eq_true] at h
 obtain ⟨e,he,h⟩:=h
 rw [Bool.and_eq_true] at h
 exact ⟨e,by simpa using he,h.1,Nat.eq_of_beq_eq_true h.2⟩
inductive HS {α:Type}:Sem α→Prop
 | halt (h:Halt):HS (.halt h)
 | program {k:Program→Sem α} (h:∀ p,HS (k p)):HS (.program k)
 | choose {q:Question} {k:Nat→Sem α} (h:∀ n,HS (k n)):HS (.choose q k)
inductive PS {α:Type}:Sem α→Prop
 | pure (a:α):PS (.pure a)
 | hs {s:Sem α} (h:HS s):PS s
 | program {k:Program→Sem α} (h:∀ p,PS (k p)):PS (.program k)
theorem HS.bind {α β:Type} {s:Sem α} {f:α→Sem β} (h:HS s):HS (s >>= f):=by
 show HS (s.bind f)
 induction h with
 | halt h=>exact .halt h
 | program _ ih=>exact .program ih
 | choose _ ih=>exact .choose ih
theorem PS.bind {α β:Type} {s:Sem α} {f:α→Sem β} (h:PS s) (hf:∀ a,PS (f a)):PS (s >>= f):=by
 show PS (s.bind f)
 induction h with
 | pure a=>exact hf a
 | hs h=>exact .hs h.bind
 | program _ ih=>exact .program ih
theorem HS.run {α:Type} {P:Program} {s:Sem α} (h:HS s):∀ w,∃ x w',s.run P w = .halt x w':=by
 induction h with
 | halt h=>exact fun w=>⟨h,w,rfl⟩
 | program _ ih=>exact fun w=>ih P w
 | choose _ ih =>
  intro w
  unfold Sem.run
  split
  ·exact ih 0 w
  ·exact ih _ _
theorem PS.run {α:Type} {P:Program} {s:Sem α} (h:PS s):(∃ v,∀ w,s.run P w = .ok v w)∨∀ w,∃ x w',s.run P w = .halt x w':=by
 induction h with
 | pure a=>exact .inl ⟨a,fun w=>rfl⟩
 | hs h=>exact .inr h.run
 | program _ ih=>exact ih P
theorem Dj {α:Type} (m:String):PS (stuck m:Sem α) := .hs (.halt _)
theorem Ad3 (t:TypeId):PS (typeInfo t):=by
 unfold typeInfo
 refine PS.bind (.program fun p=>.pure p) fun p=>?_
 split
 ·exact .pure _
 ·exact Dj _
theorem Amb (t:TypeId):PS (underlying t):=by
 unfold underlying
 refine PS.bind (.program fun p=>.pure p) fun p=>?_
 split
 ·exact .pure _
 ·exact Dj _
theorem Aqu (x:Value) (y:Nat) (c:BoundsCode):PS (Instr.sliceBound x y c):=by
 unfold Instr.sliceBound
 refine PS.bind ?_ fun p=>?_
 ·unfold asIntOf
  split
  ·exact .pure _
  ·exact .hs (.halt _)
  ·exact Dj _
 ·obtain ⟨k,i⟩:=p
  dsimp only
  split
  ·exact .pure _
  ·unfold boundsPanic runtimePanic
   refine .hs ?_
   split
   ·exact HS.choose fun n=>HS.program fun p=>HS.halt _
   ·exact HS.program fun p=>HS.halt _
theorem Ke (b:Bool) (n m:Nat) (x y z:Option Value):PS (Instr.sliceBounds b n m x y z):=by
 unfold Instr.sliceBounds
 dsimp only
 repeat' first
  | exact .pure _
  | exact Dj _
  | exact Aqu _ _ _
  | refine PS.bind ?_ fun _=>?_
  | split
theorem Aqt (t:TypeId) (x:Value) (a b c:Option Value):PS (Instr.slice t x a b c):=by
 unfold Instr.slice
 refine PS.bind (Amb t) fun d=>?_
 dsimp only
 split
 ·repeat' first
   | exact .pure _
   | exact Dj _
   | exact Ke _ _ _ _ _ _
   | refine PS.bind ?_ fun _=>?_
   | split
 ·repeat' first
   | exact .pure _
   | exact Ke _ _ _ _ _ _
   | exact Ad3 _
   | unfold sizeOf
   | refine PS.bind ?_ fun _=>?_
   | split
 ·refine PS.bind ?_ fun a=>?_
  ·unfold asAddr
   split
   ·exact .pure _
   ·unfold runtimePanic
    exact .hs (HS.program fun p=>HS.halt _)
   ·exact Dj _
  ·repeat' first
    | exact .pure _
    | exact Dj _
    | exact Ke _ _ _ _ _ _
    | exact Ad3 _
    | exact Amb _
    | unfold sizeOf
    | refine PS.bind ?_ fun _=>?_
    | split
 ·exact Dj _
theorem Ai1 (t:TypeId) (x:Value) (a b c:Option Value):PS (Instr.sliceAt t x a b c):=by
 unfold Instr.sliceAt
 refine PS.bind (Amb t) fun d=>?_
 dsimp only
 split
 ·refine PS.bind ?_ fun a=>?_
  ·unfold Instr.sureAddr
   split
   ·exact .pure _
   ·exact Dj _
  ·repeat' first
    | exact .pure _
    | exact Dj _
    | exact Ke _ _ _ _ _ _
    | exact Ad3 _
    | unfold sizeOf
    | refine PS.bind ?_ fun _=>?_
    | split
 ·exact Aqt _ _ _ _ _
section
variable {F:Fence} {n:Nat} {P:Program} {ops:Array Oper} {Q:Exit→Act→World→Prop} {j k:Nat} {oj ok:Oper}
structure EdgOk (ops:Array Oper) (j k:Nat) (oj ok:Oper):Prop where
 hj:ops[j]?=some oj
 hk:ops[k]?=some ok
 ne:j≠k
 all:∀ (j:Nat) (oj:Oper),ops[j]?=some oj→(∀ c,oj.op≠.defer c)∧∀ cs b,oj.op≠.select cs b
 mv:mvB ok.op=true
 gd:ok.guard=none
 dst:ok.dst≠none
 dep:∀ e∈ok.after,Region.binds .any e=true→∃ e'∈oj.after,Region.binds .any e'=true∧e'.on=e.on
 apart:∀ (i:Nat) (oi:Oper),i≠k→ops[i]?=some oi→(∃ e∈oi.after,Region.binds .any e=true∧e.on=k)∨(∃ e∈ok.after,Region.binds .any e=true∧e.on=i)∨Apart ops ok oi
theorem Aye (h:edgB ops j k=true):∃ oj ok,EdgOk ops j k oj ok:=by
 unfold edgB at h
 split at h
 ·rename_i oj ok hj hk
  simp only [Bool.and_eq_true] at h
  obtain ⟨h1,h2,h3,h4,h5,h6⟩:=h
  rw [List.all_eq_true] at h2 h5 h6
  refine ⟨oj,ok,hj,hk,?_,fun i oi hi=>?_,h3,?_,?_,fun e he hb=>?_,fun i oi hne hi=>?_⟩
  ·intro e;subst e;rw [Nat.beq_refl] at h1;cases h1
  ·have:=h2 oi (by rw [←Array.getElem?_toList] at hi;exact List.mem_of_getElem? hi)
   refine ⟨fun c hc=>?_,fun cs b hc=>?_⟩ <;> (rw [hc] at this;cases this)
  ·cases hg:ok.guard with
   | none=>rfl
   | some g=>rw [hg] at h4;cases h4
  ·cases hd:ok.dst with
   | none=>rw [hd] at h4;cases hg:ok.guard <;> (rw [hg] at h4;cases h4)
   | some d=>exact fun h=>by cases h
  ·have:=h5 e (by simpa using he)
   rw [Bool.or_eq_true,hb] at this
   rcases this with h | h
   ·cases h
   ·exact Akj h
  ·have hil:=(Array.getElem?_eq_some_iff.1 hi).1
   have:=h6 i (List.mem_range.2 hil)
   rw [Bool.or_eq_true] at this
   rcases this with h | h
   ·exact absurd (Nat.eq_of_beq_eq_true h) hne
   ·rw [hi] at h
    simp only [Bool.or_eq_true] at h
    rcases h with h | h | h
    ·exact .inl (Akj h)
    ·exact .inr (.inl (Akj h))
    ·exact .inr (.inr (Sz h))
 ·cases h
theorem Ht (J:EdgOk ops j k oj ok) (i:Nat):(edgA ops j k)[i]?=if i=j then some ⟨oj.dst,oj.op,oj.type,oj.pos,(⟨k, .data⟩::oj.after.toList).toArray,oj.guard⟩ else ops[i]?:=by
 unfold edgA
 rw [List.getElem?_toArray,Ahn]
 by_cases e:i=j
 ·subst e;rw [if_pos rfl,if_pos rfl,Array.getElem?_toList,J.hj];rfl
 ·rw [if_neg e,if_neg e,Array.getElem?_toList]
theorem Axn {o:Oper} (h:mvB o.op=true) (_:Option Nat) (ρ:Operand→Value):(∃ v,∀ w,(o.semAt (F.round) ρ).run P w = .ok (.value v) w)∨∀ w,∃ x w',(o.semAt (F.round) ρ).run P w = .halt x w':=by
 unfold mvB at h
 split at h
 ·rename_i y hop
  refine .inl ⟨ρ y,fun w=>?_⟩
  unfold Oper.semAt execOp
  cases F.round <;> simp only [hop] <;> rfl
 ·rename_i y i hop
  have key:∀ ρ,(o.semAt F.round ρ)=execOp ρ o:=fun ρ=>by
   unfold Oper.semAt
   cases F.round with
   | none=>rfl
   | some l=>simp only [hop]
  rw [key]
  unfold execOp
  simp only [hop]
  cases hv:ρ y with
  | tuple vs =>
   cases hi:vs[i]? with
   | some v=>exact .inl ⟨v,fun w=>by simp only [Instr.extract,hi];rfl⟩
   | none=>exact .inr fun w=>by simp only [Instr.extract,hi];exact ⟨_,_,rfl⟩
  | _=>exact .inr fun w=>by simp only [Instr.extract];exact ⟨_,_,rfl⟩
 ·rename_i ty y lo hi mx hop
  have key:∀ ρ,(o.semAt F.round ρ)=execOp ρ o:=fun ρ=>by
   unfold Oper.semAt
   cases F.round with
   | none=>rfl
   | some l=>simp only [hop]
  rw [key]
  unfold execOp
  simp only [hop]
  rcases PS.run (P:=P) (Ai1 ty (ρ y) (lo.map ρ) (hi.map ρ) (mx.map ρ)) with ⟨u,hu⟩ | hh
  ·exact .inl ⟨u,fun w=>by rw [Sem.run_bind,hu w];rfl⟩
  ·refine .inr fun w=>?_
   obtain ⟨x,w',hx⟩:=hh w
   exact ⟨x,w',by rw [Sem.run_bind,hx];rfl⟩
 ·cases h
theorem Art (J:EdgOk ops j k oj ok) (hnp:∀ c a w,¬Q (.panic c) a w) (hFn:∀ f,F.fn f):∀ (fuel:Nat) (L:Array Bool) (a:Act) (w:World),L.size=ops.size→wpAnyIn F n P .any (edgA ops j k) Q fuel L a w→wpAnyIn F n P .any ops Q fuel L a w:=by
 have hjl:=(Array.getElem?_eq_some_iff.1 J.hj).1
 have hkl:=(Array.getElem?_eq_some_iff.1 J.hk).1
 have hyl:∀ t i,yielded (edgA ops j k) t i=yielded ops t i:=fun t i=>by
  unfold yielded
  rw [Ht J]
  by_cases e:i=j
  ·subst e;rw [if_pos rfl,J.hj];rfl
  ·rw [if_neg e]
 have up:∀ (L:Array Bool) (i:Nat),i∈Region.ready .any ops L→(i=j→L.getD k false=true)→i∈Region.ready .any (edgA ops j k) L:=fun L i hi hx=>by
  obtain ⟨g1,oi,g2,g3⟩:=mem_ready.1 hi
  by_cases e:i=j
  ·subst e
   rw [J.hj] at g2;cases g2
   refine mem_ready.2 ⟨g1,_,by rw [Ht J,if_pos rfl],fun e he hb=>?_⟩
   have he:e∈(⟨k, .data⟩:Edge)::oj.after.toList:=by simpa using he
   rcases List.mem_cons.1 he with he | he
   ·rw [he];exact hx rfl
   ·exact g3 e (by simpa using he) hb
  ·exact mem_ready.2 ⟨g1,oi,by rw [Ht J,if_neg e];exact g2,g3⟩
 have kin:∀ (L:Array Bool),L.size=ops.size→j∈Region.ready .any ops L→L.getD k false=false→k∈Region.ready .any ops L:=fun L hs hj hf=>by
  obtain ⟨g1,oi,g2,g3⟩:=mem_ready.1 hj
  rw [J.hj] at g2;cases g2
  refine mem_ready.2 ⟨getD_in (by rw [hs];exact hkl) hf,ok,J.hk,fun e he hb=>?_⟩
  obtain ⟨e',h1,h2,h3⟩:=J.dep e he hb
  rw [←h3];exact g3 e' h1 h2
 have down:∀ (L:Array Bool),L.size=ops.size→Region.ready .any ops L=[]→Region.ready .any (edgA ops j k) L=[]:=fun L hs h=>List.eq_nil_iff_forall_not_mem.2 fun i hi=>by
  obtain ⟨g1,oi,g2,g3⟩:=mem_ready.1 hi
  have:i∈Region.ready .any ops L:=by
   rw [Ht J] at g2
   by_cases e:i=j
   ·subst e
    rw [if_pos rfl] at g2;cases g2
    exact mem_ready.2 ⟨g1,oj,J.hj,fun e he hb=>g3 e (by simpa using Or.inr he) hb⟩
   ·rw [if_neg e] at g2
    exact mem_ready.2 ⟨g1,oi,g2,g3⟩
  rw [h] at this;cases this
 intro fuel
 induction fuel with
 | zero =>
  intro L a w hs h
  refine ⟨List.eq_nil_iff_forall_not_mem.2 fun i hi=>?_,h.2⟩
  by_cases hc:i=j∧L.getD k false=false
  ·obtain ⟨rfl,hc⟩:=hc
   have h1:=up L k (kin L hs hi hc) (fun e=>absurd e.symm J.ne)
   rw [h.1] at h1;cases h1
  ·have h1:=up L i hi (fun e=>by
    cases hg:L.getD k false with
    | true=>rfl
    | false=>exact absurd ⟨e,hg⟩ hc)
   rw [h.1] at h1;cases h1
 | succ fuel ih =>
  intro L a w hs h
  by_cases hk:L.getD k false=false∧k∈Region.ready .any ops L
  ·obtain ⟨hkf,hkr⟩:=hk
   have h2:=h.2 k (up L k hkr (fun e=>absurd e.symm J.ne))
   unfold wpOpIn at h2
   rw [Ht J,if_neg (Ne.symm J.ne),J.hk] at h2
   simp only at h2
   have hw:∀ t,Region.wanted ok t=true:=fun t=>by unfold Region.wanted;rw [J.gd]
   rw [if_pos (hw _)] at h2
   unfold Oper.wpIn at h2
   have h3:=h2.2
   rcases Axn (F:=F) (P:=P) J.mv none a.eval with ⟨v,hv⟩ | hh
   ·rw [hv w] at h3
    have h4:wpAnyIn F n P .any (edgA ops j k) Q fuel (L.setIfInBounds k true) (a.put ok.dst v) w:=h3
    exact Adk J.hk hnp J.all J.dst hFn fuel L a w hs hkr (fun L' hL' hsub i oi hi hne hr=>by
     rcases J.apart i oi hne hi with ⟨e,he,hb,heq⟩ | ⟨e,he,hb,heq⟩ | hA
     ·exfalso
      obtain ⟨_,oi',g2,g3⟩:=mem_ready.1 hr
      rw [hi] at g2;cases g2
      have:=g3 e he hb
      rw [heq,hL'] at this
      cases this
     ·exfalso
      obtain ⟨_,ok',g2,g3⟩:=mem_ready.1 hkr
      rw [J.hk] at g2;cases g2
      have h5:=hsub _ (g3 e he hb)
      rw [heq] at h5
      have h6:=getD_both (mem_ready.1 hr).1
      rw [h5] at h6
      cases h6
     ·exact hA) ⟨hv,hw _⟩ (ih _ _ _ (by simp [hs]) h4)
   ·exfalso
    obtain ⟨x,w',hx⟩:=hh w
    rw [hx] at h3
    cases x <;> simp only [Oper.uponIn] at h3 <;> first | exact hnp _ _ _ h3 | exact h3
  ·refine ⟨fun h0=>h.1 (down L hs h0),fun i hi=>?_⟩
   have hi':i∈Region.ready .any (edgA ops j k) L:=up L i hi (fun e=>by
    subst e
    cases hg:L.getD k false with
    | true=>rfl
    | false=>exact absurd ⟨hg,kin L hs hi hg⟩ hk)
   have h2:=h.2 i hi'
   have h2:=wpOpIn_mono (fun a w=>ih (L.setIfInBounds i true) a w (by simp [hs])) h2
   unfold wpOpIn at h2 ⊢
   obtain ⟨_,oi,g2,_⟩:=mem_ready.1 hi
   have hy:yielded (edgA ops j k) a.tmps=yielded ops a.tmps:=funext fun i=>hyl _ i
   rw [Ht J] at h2
   by_cases e:i=j
   ·subst e
    rw [if_pos rfl] at h2
    rw [J.hj]
    simp only [hy] at h2 ⊢
    obtain ⟨dst,op,type,pos,after,guard⟩:=oj
    exact h2
   ·rw [if_neg e,g2] at h2
    rw [g2]
    simp only [hy] at h2 ⊢
    exact h2
end
section
variable [H:Holes] {P:Program} {K:Nat→Option (List Value)} {s:St} {ρ:Rho} {Q:Post}
theorem Atu {ops:Array Oper} {j k:Nat} (hc:s.cur = .draw ops 0) (hp:edgB ops j k=true) (h:Sx P K ⟨.draw (edgA ops j k) 0,s.ks,s.tm,s.m,s.Y,s.nt,s.key⟩ ρ Q):Sx P K s ρ Q:=by
 obtain ⟨oj,ok,J⟩:=Aye hp
 intro F hF n b hB Qw hQ σ a w hA
 rw [hc]
 intro fuel listed hs hl hf
 have h1:=h F hF n b hB Qw hQ σ a w (hA.move rfl rfl rfl rfl) fuel listed (by unfold edgA;simp [hs,Za]) hl (by unfold edgA;simp [Za];exact hf)
 exact Art J (fun c a w=>De F n P Qw c a w s.ks) hF.fn fuel listed a w hs h1
def edgAll:List Nat→Array Oper→Option (Array Oper)
 | j::k::l,ops=>match edgB ops j k with
  | true=>edgAll l (edgA ops j k)
  | false=>none
 | [],ops=>some ops
 | _,_=>none
theorem Xr:∀ (l:List Nat) {ops ops':Array Oper} {s:St},s.cur = .draw ops 0→edgAll l ops=some ops'→Sx P K ⟨.draw ops' 0,s.ks,s.tm,s.m,s.Y,s.nt,s.key⟩ ρ Q→Sx P K s ρ Q
 | [],ops,ops',s,hc,h,k=>by
  cases h
  obtain ⟨c,ks,tm,m,Y,nt,key⟩:=s
  cases hc
  exact k
 | [_],_,_,_,_,h,_=>by cases h
 | a::b::l,ops,ops',s,hc,h,k=>by
  unfold edgAll at h
  split at h
  ·rename_i hb
   exact Atu hc hb (Xr l (s:=⟨.draw (edgA ops a b) 0,s.ks,s.tm,s.m,s.Y,s.nt,s.key⟩) rfl h k)
  ·cases h
end
end Go.Vc

namespace Go.Vc
def gdT (ops:Array Oper) (o:Oper):Option Tmp:=match o.guard with
 | some g=>(ops[g.1]?).bind (·.dst)
 | none=>none
def knG (ops:Array Oper) (r:Nat) (tm:Tm) (o:Oper):Bool:=!openB ops tm o && (wantW ops tm o && match gdT ops o with
 | some d=>(ops.toList.drop r).all fun o'=>match o'.dst with
  | some e=>!Nat.beq e d
  | none=>true
 | none=>false)
def stripO (ops:Array Oper) (r:Nat) (tm:Tm) (o:Oper):Oper:=bif knG ops r tm o then { o with guard:=none } else o
def stripA (ops:Array Oper) (r:Nat) (tm:Tm):Array Oper:=(ops.toList.map (stripO ops r tm)).toArray
section
variable {F:Fence} {n:Nat} {P:Program} {Q:Exit→Act→World→Prop} {ops:Array Oper} {r:Nat} {tm:Tm}
theorem Jy (i:Nat):(stripA ops r tm)[i]?=(ops[i]?).map (stripO ops r tm):=by
 unfold stripA
 rw [List.getElem?_toArray,List.getElem?_map,Array.getElem?_toList]
theorem Xs (o:Oper):(stripO ops r tm o).after=o.after∧(stripO ops r tm o).dst=o.dst∧(stripO ops r tm o=o∨knG ops r tm o=true∧stripO ops r tm o={ o with guard:=none }):=by
 unfold stripO
 cases h:knG ops r tm o with
 | false=>exact ⟨rfl,rfl, .inl rfl⟩
 | true=>exact ⟨rfl,rfl, .inr ⟨rfl,rfl⟩⟩
theorem Il {L:Array Bool} {i:Nat}:i∈Region.ready .any (stripA ops r tm) L↔i∈Region.ready .any ops L:=by
 constructor
 ·intro h
  obtain ⟨g1,o',g2,g3⟩:=mem_ready.1 h
  rw [Jy] at g2
  cases ho:ops[i]? with
  | none=>rw [ho] at g2;cases g2
  | some o =>
   rw [ho] at g2;cases g2
   exact mem_ready.2 ⟨g1,o,ho,by rw [(Xs o).1] at g3;exact g3⟩
 ·intro h
  obtain ⟨g1,o,g2,g3⟩:=mem_ready.1 h
  exact mem_ready.2 ⟨g1,stripO ops r tm o,by rw [Jy,g2];rfl,by rw [(Xs o).1];exact g3⟩
theorem Aty (tmps:Array Value):yielded (stripA ops r tm) tmps=yielded ops tmps:=by
 funext j
 unfold yielded
 rw [Jy]
 cases ho:ops[j]? with
 | none=>rfl
 | some o=>simp [(Xs o).2.1]
theorem Avd {o o':Oper} {i:Nat} (h:knG ops r tm o=true) (ho:ops[i]?=some o') (hi:r≤i) (a:Act) (v:Value) (hw:Region.wanted o (yielded ops a.tmps)=true):Region.wanted o (yielded ops (a.put o'.dst v).tmps)=true:=by
 unfold knG at h
 simp only [Bool.and_eq_true] at h
 have h3:=h.2.2
 unfold gdT at h3
 unfold Region.wanted at hw ⊢
 cases hg:o.guard with
 | none=>rfl
 | some g =>
  obtain ⟨j,b⟩:=g
  rw [hg] at h3 hw
  simp only at h3 hw ⊢
  have e:yielded ops (a.put o'.dst v).tmps j=yielded ops a.tmps j:=by
   unfold yielded
   cases hd:(ops[j]?).bind (·.dst) with
   | none=>rfl
   | some t =>
    rw [hd] at h3
    simp only [Option.bind_some]
    rw [Eq a o'.dst v t fun e=>?_]
    have hm:o'∈ops.toList.drop r:=by
     refine List.mem_of_getElem? (i:=i-r) ?_
     rw [List.getElem?_drop,Array.getElem?_toList,show r+(i-r)=i by omega];exact ho
    have:=(List.all_eq_true.1 h3) o' hm
    rw [e] at this
    simp at this
  rw [e];exact hw
theorem Ap1 {o:Oper} {a:Act} {next next':Act→World→Prop} {res:Result Next} (hn:∀ ds v w',next (({ a with defers:=ds }:Act).put o.dst v) w'→next' (({ a with defers:=ds }:Act).put o.dst v) w') (h:o.uponIn F n P a next Q res):o.uponIn F n P a next' Q res:=by
 have key:∀ v w',next (a.put o.dst v) w'→next' (a.put o.dst v) w':=fun v w' hk=>hn a.defers v w' hk
 unfold Oper.uponIn at h ⊢
 cases res with
 | halt x w'=>cases x <;> exact h
 | ok x w' =>
  cases x with
  | value v=>exact key v w' h
  | skip=>exact key undef w' h
  | defer d=>exact hn (d::a.defers) undef w' h
  | enter f args=>exact ⟨h.1,h.2.mono fun e w2 h2=>by
    cases e with
    | returned v=>exact key v w2 h2
    | panicked c=>exact h2
    | outgrown=>exact h2⟩
  | row row args=>exact ⟨h.1,h.2.mono fun v w2 h2=>key v w2 h2⟩
  | round l f tmps assign body=>exact ⟨h.1,h.2.mono fun e w2 h2=>by
    cases e with
    | returned v=>exact key v w2 h2
    | panicked c=>exact h2
    | outgrown=>exact h2⟩
  | _=>exact h
theorem Vh:∀ (fuel:Nat) (L:Array Bool) (a:Act) (w:World),L.size=ops.size→(∀ k,k<r→L.getD k false=true)→(∀ o,knG ops r tm o=true→Region.wanted o (yielded ops a.tmps)=true)→wpAnyIn F n P .any (stripA ops r tm) Q fuel L a w→wpAnyIn F n P .any ops Q fuel L a w
 | 0,L,a,w,hs,hL,hI,h=>by
  refine ⟨List.eq_nil_iff_forall_not_mem.2 fun i hi=>?_,h.2⟩
  have:=Il (r:=r) (tm:=tm).2 hi
  rw [h.1] at this;cases this
 | fuel+1,L,a,w,hs,hL,hI,h=>by
  refine ⟨fun h0=>h.1 (List.eq_nil_iff_forall_not_mem.2 fun i hi=>by have:=Il.1 hi;rw [h0] at this;cases this),fun i hi=>?_⟩
  have h2:=h.2 i (Il.2 hi)
  obtain ⟨g1,o,g2,_⟩:=mem_ready.1 hi
  have hil:=(Array.getElem?_eq_some_iff.1 g2).1
  have hir:r≤i:=by
   rcases Nat.lt_or_ge i r with hlt | hge
   ·have h3:=hL i hlt
    have h4:L.getD i false=false:=getD_both g1
    rw [h4] at h3;cases h3
   ·exact hge
  have hL':∀ k,k<r→(L.setIfInBounds i true).getD k false=true:=fun k hk=>by
   rw [Cm (by rw [hs];exact hil),hL k hk];rfl
  unfold wpOpIn at h2 ⊢
  rw [Jy,g2] at h2
  rw [g2]
  simp only [Option.map_some] at h2 ⊢
  obtain ⟨e1,e2,e3⟩:=Xs (ops:=ops) (r:=r) (tm:=tm) o
  have ih:∀ ds v w',wpAnyIn F n P .any (stripA ops r tm) Q fuel (L.setIfInBounds i true) (({ a with defers:=ds }:Act).put o.dst v) w'→wpAnyIn F n P .any ops Q fuel (L.setIfInBounds i true) (({ a with defers:=ds }:Act).put o.dst v) w':=fun ds v w' hk =>
   Vh fuel _ _ _ (by simp [hs]) hL' (fun o2 ho2=>Avd ho2 g2 hir _ v (hI o2 ho2)) hk
  have run:∀ o':Oper,o'.dst=o.dst→o'.op=o.op→o'.type=o.type→o'.pos=o.pos→o'.wpIn F n P a w (wpAnyIn F n P .any (stripA ops r tm) Q fuel (L.setIfInBounds i true)) Q→o.wpIn F n P a w (wpAnyIn F n P .any ops Q fuel (L.setIfInBounds i true)) Q:=fun o' d1 d2 d3 d4 h3=>by
   obtain ⟨dst,op,type,pos,after,guard⟩:=o
   obtain ⟨dst',op',type',pos',after',guard'⟩:=o'
   cases d1;cases d2;cases d3;cases d4
   exact ⟨h3.1,Ap1 ih h3.2⟩
  rcases e3 with e3 | ⟨e3,e4⟩
  ·rw [e3,Aty] at h2
   split
   ·rename_i hq
    rw [if_pos hq] at h2
    exact run o rfl rfl rfl rfl h2
   ·rename_i hq
    rw [if_neg hq] at h2
    exact ⟨h2.1,ih a.defers undef w h2.2⟩
  ·rw [if_pos (hI o e3)]
   rw [e4,if_pos (by unfold Region.wanted;rfl)] at h2
   exact run _ rfl rfl rfl rfl h2
end
section
variable [H:Holes] {P:Program} {K:Nat→Option (List Value)} {s:St} {ρ:Rho} {Q:Post}
theorem Ap7 {ops:Array Oper} {r:Nat} (hc:s.cur = .draw ops r) (k:Sx P K ⟨.draw (stripA ops r s.tm) r,s.ks,s.tm,s.m,s.Y,s.nt,s.key⟩ ρ Q):Sx P K s ρ Q:=by
 intro F hF n b hB Qw hQ σ a w hA
 rw [hc]
 have hz:(stripA ops r s.tm).size=ops.size:=by simp [stripA]
 intro fuel L hs hl hf
 refine Vh fuel L a w hs (fun k hk=>by rw [hl k,decide_eq_true hk]) (fun o ho=>?_) (k F hF n b hB Qw hQ σ a w (hA.move rfl rfl rfl rfl) fuel L (by rw [hz];exact hs) hl (by rw [hz];exact hf))
 unfold knG at ho
 simp only [Bool.and_eq_true,Bool.not_eq_true'] at ho
 rw [Li hA.tm ops o ho.1]
 exact ho.2.1
end
end Go.Vc
