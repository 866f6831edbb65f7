import Derived.Test.YtneooimijbfmgaaGreatSsAH
import Derived.Test.YtneooimijbfmgaaGreatSsAM
set_option linter.unusedVariables false
set_option linter.unusedSimpArgs false
set_option linter.unusedSectionVars false
noncomputable section
namespace Go.Vc
structure AS where
 nx:Nat
 S:T Row
 Y:T YRow
 tm:Tm
 Rg:List (Nat×Nat×Nat)
structure Mv where
 did:Bool
 x:W
 V:T Row
 V':T Row
 U:T YRow
 U':T YRow
 ns:List Nat
 tv:Tm
def okNum (nx0 a:Nat) (Rg:List (Nat×Nat×Nat)) (i:Nat):Bool:=Nat.blt i nx0 || Rg.any fun r=>Nat.ble r.2.1 i && (Nat.blt i r.2.2 && Nat.testBit a r.1)
structure LocY (P:Program) (K:Nat→Option (List Value)) (ops:Array Oper) (nt nx0 a j:Nat) (o:Oper) (p:AS) (ρ:Rho) (m:Mv) (q:AS) (ρ':Rho):Prop where
 mono:p.nx≤q.nx
 rho:RhoEq p.nx ρ ρ'
 put:∀ d,o.dst=some d→d<nt∧q.tm=p.tm.set d m.x
 same:o.dst=none→q.tm=p.tm
 skip:m.did=false→m.x=undefW∧q.nx=p.nx
 run:m.did=true→OpY P K o m.tv m.V p.nx m.U ρ m.x m.V' q.nx m.U' ρ'
 ns:∀ i∈m.ns,i<p.nx∧(i<nx0∨∃ r∈p.Rg,a.testBit r.1=true∧r.2.1≤i∧i<r.2.2)
 subV:∀ i r,m.V.get i=some r→i∈m.ns∧p.S.get i=some r
 subU:∀ i r,m.U.get i=some r→i∈m.ns∧p.Y.get i=some r
 oldS:∀ i,i<p.nx→q.S.get i=p.S.get i
 oldY:∀ i,i<p.nx→q.Y.get i=p.Y.get i
 newS:∀ i r,p.nx≤i→q.S.get i=some r→p.S.get i=some r∨i<q.nx∧m.V'.get i=some r
 newY:∀ i y,p.nx≤i→q.Y.get i=some y→p.Y.get i=some y∨i<q.nx∧m.U'.get i=some y
 rg:q.Rg=(j,p.nx,q.nx)::p.Rg
 tvT:∀ t,t∈namesY ops o→m.tv.get t=p.tm.get t
 tvN:∀ t,¬t∈namesY ops o→m.tv.get t = .v (.c (.raw undef))
 tvl:∀ t,@W.lt noHoles p.nx (m.tv.get t)
 want:openB ops m.tv o=false∧wantW ops m.tv o=m.did
 op:m.did=true→(∀ c,o.op≠.defer c)∧∀ cs b,o.op≠.select cs b
def opB (o:Op):Bool:=match o with
 | .defer _=>false
 | .select ..=>false
 | _=>true
def rowNums:Row→List Nat
 | .fn _ a b=>a.flatMap numsW++b.flatMap numsW
 | .val x=>numsV x
 | _=>[]
def numsY (st:AS) (l:List Tmp):List Nat:=let n0:=l.flatMap fun t=>numsW (st.tm.get t)
 n0++((n0.flatMap fun i=>match st.S.get i with
  | some r=>rowNums r
  | none=>[])++n0.flatMap fun i=>match st.Y.get i with
  | some (.ep a x _)=>[a,x]
  | some (.ov a x _)=>[a,x]
  | _=>[])
def nextY (nt j:Nat) (o:Oper) (st:AS) (x:W) (V':T Row) (nx':Nat) (U':T YRow):Option AS:=bif Nat.ble st.nx nx' then match o.dst with
 | some d=>bif Nat.blt d nt then some ⟨nx',addN V' st.nx st.S (Nat.sub nx' st.nx),addN U' st.nx st.Y (Nat.sub nx' st.nx),st.tm.set d x,(j,st.nx,nx')::st.Rg⟩ else none
 | none=>some ⟨nx',addN V' st.nx st.S (Nat.sub nx' st.nx),addN U' st.nx st.Y (Nat.sub nx' st.nx),st.tm,(j,st.nx,nx')::st.Rg⟩
 else none
section
variable {P:Program} {K:Nat→Option (List Value)} {ops:Array Oper} {nt nx0 a j:Nat} {o:Oper} {st st':AS} {ρ ρ':Rho}
def seeB (ops:Array Oper) (nx0 a:Nat) (o:Oper) (st:AS):Bool:=(numsY st (namesY ops o)).all (fun i=>Nat.blt i st.nx && okNum nx0 a st.Rg i) && !(openB ops (tvY st.tm (namesY ops o)) o)
theorem At4 (h:seeB ops nx0 a o st=true):(∀ i∈numsY st (namesY ops o),i<st.nx∧(i<nx0∨∃ r∈st.Rg,a.testBit r.1=true∧r.2.1≤i∧i<r.2.2))∧openB ops (tvY st.tm (namesY ops o)) o=false:=by
 unfold seeB at h
 rw [Bool.and_eq_true,List.all_eq_true] at h
 refine ⟨fun i hi=>?_,by simpa using h.2⟩
 have h1:=h.1 i hi
 rw [Bool.and_eq_true,bltE,decide_eq_true_iff] at h1
 refine ⟨h1.1,?_⟩
 have h2:=h1.2
 unfold okNum at h2
 rw [Bool.or_eq_true,bltE,decide_eq_true_iff,List.any_eq_true] at h2
 rcases h2 with h2 | ⟨r,hr,h3⟩
 ·exact .inl h2
 ·rw [Bool.and_eq_true,Bool.and_eq_true,bltE,decide_eq_true_iff] at h3
  exact .inr ⟨r,hr,h3.2.2,Nat.le_of_ble_eq_true h3.1,h3.2.1⟩
theorem Amp {did:Bool} {x:W} {V':T Row} {nx':Nat} {U':T YRow} (hs:seeB ops nx0 a o st=true) (hn:nextY nt j o st x V' nx' U'=some st') (hr:RhoEq st.nx ρ ρ') (hw:wantW ops (tvY st.tm (namesY ops o)) o=did) (hskip:did=false→x=undefW∧nx'=st.nx)
  (hrun:did=true→OpY P K o (tvY st.tm (namesY ops o)) (pickT st.S (numsY st (namesY ops o))) st.nx (pickT st.Y (numsY st (namesY ops o))) ρ x V' nx' U' ρ') (hop:did=true→opB o.op=true) :
  LocY P K ops nt nx0 a j o st ρ ⟨did,x,pickT st.S (numsY st (namesY ops o)),V',pickT st.Y (numsY st (namesY ops o)),U',numsY st (namesY ops o),tvY st.tm (namesY ops o)⟩ st' ρ':=by
 obtain ⟨s1,s2⟩:=At4 hs
 unfold nextY at hn
 rw [Bool.cond_eq_ite] at hn
 split at hn
 ·rename_i hb
  have hle:=Nat.le_of_ble_eq_true hb
  have key:∀ tm',(∀ d,o.dst=some d→d<nt∧tm'=st.tm.set d x)→(o.dst=none→tm'=st.tm)→st'=⟨nx',addN V' st.nx st.S (Nat.sub nx' st.nx),addN U' st.nx st.Y (Nat.sub nx' st.nx),tm',(j,st.nx,nx')::st.Rg⟩ →
    LocY P K ops nt nx0 a j o st ρ ⟨did,x,pickT st.S (numsY st (namesY ops o)),V',pickT st.Y (numsY st (namesY ops o)),U',numsY st (namesY ops o),tvY st.tm (namesY ops o)⟩ st' ρ':=fun tm' h1 h2 he=>by
   subst he
   have hsub:st.nx+Nat.sub nx' st.nx=nx':=by show st.nx+(nx'-st.nx)=nx';omega
   refine ⟨hle,hr,h1,h2,hskip,hrun,s1,fun i r hi=>Kf _ _ _ _ hi,fun i r hi=>Kf _ _ _ _ hi,fun i hi=>?_,fun i hi=>?_,fun i r hi hq=>?_,fun i y hi hq=>?_,rfl,fun t ht=>by rw [Xm,if_pos ht],fun t ht=>by rw [Xm,if_neg ht],fun t=>?_,⟨s2,hw⟩,fun hd=>?_⟩
   ·show (addN V' st.nx st.S _).get i=_
    rw [Lg,if_neg (by omega)]
   ·show (addN U' st.nx st.Y _).get i=_
    rw [Lg,if_neg (by omega)]
   ·have hq:(addN V' st.nx st.S (Nat.sub nx' st.nx)).get i=some r:=hq
    rw [Lg,hsub] at hq
    split at hq
    ·rename_i hc;exact .inr ⟨hc.2.1,hq⟩
    ·exact .inl hq
   ·have hq:(addN U' st.nx st.Y (Nat.sub nx' st.nx)).get i=some y:=hq
    rw [Lg,hsub] at hq
    split at hq
    ·rename_i hc;exact .inr ⟨hc.2.1,hq⟩
    ·exact .inl hq
   ·show @W.lt noHoles st.nx ((tvY st.tm (namesY ops o)).get t)
    rw [Xm]
    split
    ·rename_i ht
     exact Aq8 fun i hi=>(s1 i (List.mem_append_left _ (List.mem_flatMap.2 ⟨t,ht,hi⟩))).1
    ·trivial
   ·have:=hop hd
    unfold opB at this
    refine ⟨fun c hc=>?_,fun cs b hc=>?_⟩ <;> (rw [hc] at this;cases this)
  split at hn
  ·rename_i d hd
   rw [Bool.cond_eq_ite] at hn
   split at hn
   ·rename_i hlt
    rw [bltE,decide_eq_true_iff] at hlt
    cases hn
    exact key _ (fun d' hd'=>by rw [hd] at hd';cases hd';exact ⟨hlt,rfl⟩) (fun h=>by rw [hd] at h;cases h) rfl
   ·cases hn
  ·rename_i hd
   cases hn
   exact key _ (fun d' hd'=>by rw [hd] at hd';cases hd') (fun _=>rfl) rfl
 ·cases hn
end
end Go.Vc

namespace Go.Vc
def arI (op:BinOp):Option (Int→Int→Int):=match op with
 | .add=>some fun x y=>x+y
 | .sub=>some fun x y=>x-y
 | .mul=>some fun x y=>x*y
 | _=>none
def pureW (tm:Tm):Op→Option W
 | .move x=>some (ev tm x)
 | .assign x=>some (ev tm x)
 | .extract t i=>extractW (ev tm t) i
 | .binOp op _ x y _=>match arI op,ev tm x,ev tm y with
  | some h, .v (.c (.raw (.int k a))), .v (.c (.raw (.int k' b)))=>bif k == k' then some (.v (.c (.raw (.int k (k.wrap (h a b)))))) else none
  | _,_,_=>none
 | _=>none
def apartB (ops:Array Oper) (oi oj:Oper):Bool:=match oi.dst with
 | some d=>!((namesY ops oj).any (Nat.beq d)) && (match oj.dst with
  | some e=>!(Nat.beq e d) && !((namesY ops oi).any (Nat.beq e))
  | none=>true)
 | none=>true
def takeB (ops:Array Oper) (r:Nat) (oi:Oper):Bool:=ops.toList.all (fun o=>opB o.op) && (List.range ops.size).all fun j=>Nat.ble j r || (match ops[j]? with
 | some oj=>(oj.after.toList.any fun e=>Region.binds .any e && Nat.beq e.on r) || apartB ops oi oj
 | none=>true)
theorem Ew {d:Nat} {l:List Nat} (h:l.any (Nat.beq d)=false):¬d∈l:=fun hm=>by
 have:l.any (Nat.beq d)=true:=List.any_eq_true.2 ⟨d,hm,Nat.beq_refl d⟩
 rw [h] at this
 cases this
theorem Sz {ops:Array Oper} {oi oj:Oper} (h:apartB ops oi oj=true):Apart ops oi oj:=fun d hd=>by
 unfold apartB at h
 rw [hd] at h
 simp only [Bool.and_eq_true,Bool.not_eq_true'] at h
 obtain ⟨h1,h2⟩:=h
 refine ⟨Ew h1,fun e=>?_,fun e he=>?_⟩
 ·rw [e] at h2
  simp only [Bool.and_eq_true,Bool.not_eq_true',Nat.beq_refl] at h2
  cases h2.1
 ·rw [he] at h2
  simp only [Bool.and_eq_true,Bool.not_eq_true'] at h2
  exact Ew h2.2
section
variable [H:Holes] {P:Program} {K:Nat→Option (List Value)} {s:St} {ρ:Rho} {Q:Post}
theorem Ap6 {ops:Array Oper} {r d:Nat} {o:Oper} {x:W} (hc:s.cur = .draw ops r) (ho:ops[r]?=some o) (hback:∀ (j:Nat) (o:Oper),ops[j]?=some o→∀ e∈o.after,Region.binds .any e=true→e.on<j) (hb:takeB ops r o=true) (hop:openB ops s.tm o=false) (hw:wantW ops s.tm o=true) (hp:pureW s.tm o.op=some x) (hd:o.dst=some d) (hdn:d<s.nt)
  (k:Sx P K ⟨.draw ops (Nat.succ r),s.ks,s.tm.set d x,s.m,s.Y,s.nt,s.key⟩ ρ Q):Sx P K s ρ Q:=by
 intro F hF n b hB Qw hQ σ a w hA
 rw [hc]
 intro fuel listed hs hl hf
 have hrs:=(Array.getElem?_eq_some_iff.1 ho).1
 obtain ⟨f2,rfl⟩:∃ f2,fuel=f2+1:=⟨fuel-1,by omega⟩
 unfold takeB at hb
 rw [Bool.and_eq_true,List.all_eq_true,List.all_eq_true] at hb
 have hall:∀ (j:Nat) (oj:Oper),ops[j]?=some oj→(∀ c,oj.op≠.defer c)∧∀ cs b,oj.op≠.select cs b:=fun j oj hj=>by
  have:=hb.1 oj (by rw [←Array.getElem?_toList] at hj;exact List.mem_of_getElem? hj)
  refine ⟨fun c hc=>?_,fun cs b hc=>?_⟩ <;> (rw [hc] at this;cases this)
 have hxl:x.lt s.m.nx∧∀ w,(o.semAt F.round a.eval).run P w = .ok (.value (realW σ x)) w:=by
  unfold pureW at hp
  split at hp
  ·rename_i y hop
   cases hp
   refine ⟨(hA.tm.ev a.defers y).2,fun w=>?_⟩
   rw [←(hA.tm.ev a.defers y).1]
   unfold Oper.semAt execOp
   cases F.round <;> simp only [hop] <;> rfl
  ·rename_i y hop
   cases hp
   refine ⟨(hA.tm.ev a.defers y).2,fun w=>?_⟩
   rw [←(hA.tm.ev a.defers y).1]
   unfold Oper.semAt execOp
   cases F.round <;> simp only [hop] <;> rfl
  ·rename_i y i hop
   refine ⟨(Hs (P:=P) (w:=w) (σ:=σ) hp (hA.tm.ev a.defers y).2).2,fun w=>?_⟩
   have h1:=(Hs (P:=P) (w:=w) (σ:=σ) hp (hA.tm.ev a.defers y).2).1
   rw [←(hA.tm.ev a.defers y).1] at h1
   unfold Oper.semAt execOp
   cases F.round <;> simp only [hop] <;> exact An h1
  ·rename_i op t x y t2 hop
   split at hp
   ·rename_i h k1 p k2 q ho hx hy
    cases hk:k1 == k2 with
    | false=>rw [hk] at hp;cases hp
    | true =>
     rw [hk] at hp
     cases hp
     have hk:=eq_of_beq hk
     subst hk
     refine ⟨trivial,fun w=>?_⟩
     have e1:a.eval x = .int k1 p:=by rw [show a.eval x=realW σ (ev s.tm x) from (hA.tm.ev a.defers x).1,hx];rfl
     have e2:a.eval y = .int k1 q:=by rw [show a.eval y=realW σ (ev s.tm y) from (hA.tm.ev a.defers y).1,hy];rfl
     unfold arI at ho
     split at ho <;> first | (cases ho;done) | skip
     all_goals
      cases ho
      unfold Oper.semAt execOp
      cases F.round <;> simp only [hop,e1,e2] <;> simp [eqGuard,binOp,Op.intArith,Sem.run] <;> rfl
   ·cases hp
  ·cases hp
 have hpure:PureAt F P ops o (realW σ x) a:=⟨hxl.2,by rw [Li hA.tm ops o hop];exact hw⟩
 refine Adk ho (fun c a w=>De F n P Qw c a w s.ks) hall (by rw [hd];exact fun h=>by cases h) hF.fn f2 listed a w hs (mem_ready.2 ⟨getD_in (by rw [hs];exact hrs) (by rw [hl r];simp),o,ho,fun e he hbd=>by
  have:=hback r o ho e he hbd
  rw [hl e.on];simp;exact this⟩) (fun L hL hsub j oj hj hji hjr=>?_) hpure ?_
 ·have hjs:=(Array.getElem?_eq_some_iff.1 hj).1
  have h1:=hb.2 j (List.mem_range.2 hjs)
  rw [Bool.or_eq_true] at h1
  obtain ⟨g1,oj',g2,g3⟩:=mem_ready.1 hjr
  have g1:=getD_both g1
  rcases h1 with h1 | h1
  ·exfalso
   have hle:=Nat.le_of_ble_eq_true h1
   rw [hsub j (by rw [hl j];simp;omega)] at g1
   cases g1
  ·rw [hj] at h1
   simp only [Bool.or_eq_true] at h1
   rcases h1 with h1 | h1
   ·exfalso
    rw [List.any_eq_true] at h1
    obtain ⟨e,he,h2⟩:=h1
    rw [Bool.and_eq_true] at h2
    have:oj=oj':=Option.some.inj (hj.symm.trans g2)
    subst this
    have:=g3 e (by simpa using he) h2.1
    rw [nbeq h2.2,hL] at this
    cases this
   ·exact Sz h1
 ·have hA2:At K b ⟨.draw ops (Nat.succ r),s.ks,s.tm.set d x,s.m,s.Y,s.nt,s.key⟩ ρ σ (a.put o.dst (realW σ x)) w:=by
   refine ⟨hA.aw,?_,by rw [Bz];exact hA.nt,?_⟩
   ·rw [hd]
    exact hA.tm.set hxl.1 (by rw [hA.nt];exact hdn)
   ·obtain ⟨rs,q1,q2,q3⟩:=hA.mks
    exact ⟨rs,by rw [Bd];exact q1,q2,q3⟩
  exact k F hF n b hB Qw hQ σ _ w hA2 f2 _ (by simp [hs]) (fun q=>by
   rw [Cm (by rw [hs];exact hrs) q,hl q]
   by_cases h1:q<r
   ·simp [h1];omega
   ·by_cases h2:q=r
    ·simp [h2]
    ·simp [h1,h2];omega) (by omega)
end
end Go.Vc

namespace Go.Vc
def pureN (Y:T YRow) (tm:Tm):Op→Option (IntKind×(Rho→Int))
 | .binOp op _ x y _=>match arI op,intOf Y (ev tm x),intOf Y (ev tm y) with
  | some h,some (k,f),some (k',g)=>bif k == k' then some (k,fun ρ=>k.wrap (h (f ρ) (g ρ))) else none
  | _,_,_=>none
 | .call c=>match c.callee,c.args.toList with
  | .builtin .min,[x,y]=>match intOf Y (ev tm x),intOf Y (ev tm y) with
   | some (k,f),some (_,g)=>some (k,fun ρ=>min (f ρ) (g ρ))
   | _,_=>none
  | .builtin .max,[x,y]=>match intOf Y (ev tm x),intOf Y (ev tm y) with
   | some (k,f),some (_,g)=>some (k,fun ρ=>max (f ρ) (g ρ))
   | _,_=>none
  | _,_=>none
 | _=>none
section
variable [H:Holes] {P:Program} {K:Nat→Option (List Value)} {s:St} {ρ:Rho} {Q:Post}
theorem Agn {σ:Env} {n:Nat} {a:Act} {tm:Tm} {Y:T YRow} {o:Oper} {q:IntKind×(Rho→Int)} {l:Option Nat} (hT:TmOk σ n a.tmps tm) (hA:SymAg ρ σ Y) (h:pureN Y tm o.op=some q) (w:World):(o.semAt l a.eval).run P w = .ok (.value (.int q.1 (q.2 ρ))) w:=by
 unfold pureN at h
 split at h
 ·rename_i op t x y t2 hop
  split at h
  ·rename_i g k f k' f' ho hx hy
   cases hk:k == k' with
   | false=>rw [hk] at h;cases h
   | true =>
    rw [hk] at h
    cases h
    have hk:=eq_of_beq hk
    subst hk
    have e1:=Bi hx hA
    have e2:=Bi hy hA
    rw [←(hT.ev a.defers x).1] at e1
    rw [←(hT.ev a.defers y).1] at e2
    have e1:a.eval x=_:=e1
    have e2:a.eval y=_:=e2
    unfold arI at ho
    split at ho <;> first | (cases ho;done) | skip
    all_goals
     cases ho
     unfold Oper.semAt execOp
     cases l <;> simp only [hop,e1,e2] <;> simp [eqGuard,binOp,Op.intArith,Sem.run] <;> rfl
  ·cases h
 ·rename_i c hop
  have hE:∀ y,a.eval y=realW σ (ev tm y):=fun y=>(hT.ev a.defers y).1
  have hs:o.semAt l a.eval=execOp a.eval o:=by
   unfold Oper.semAt
   cases l with
   | none=>rfl
   | some l=>simp only [hop]
  rw [hs]
  have key:∀ (mx:Bool) (x y:Operand) (k:IntKind) (f:Rho→Int),c.args.toList=[x,y]→c.callee = .builtin (bif mx then .max else .min)→minA Y mx (ev tm x) (ev tm y) = .int k f→(execOp a.eval o).run P w = .ok (.value (.int k (f ρ))) w:=fun mx x y k f hxs hcal hm=>by
   have hxs:c.args=#[x,y]:=Array.ext' hxs
   have e3:=Rb (P:=P) (mx:=mx) (ts:=c.argTypes) (ty:=o.type) (x:=ev tm x) (y:=ev tm y) (m:=⟨.e,n,0⟩) (F:=fun _=>False) (B0:=0) (w:=w) hA
   rw [hm] at e3
   unfold execOp
   simp only [hop]
   unfold resolve
   cases mx with
   | true =>
    have hcal:c.callee = .builtin .max:=hcal
    simp only [hcal,hxs]
    rw [show (#[x,y].map a.eval)=#[realW σ (ev tm x),realW σ (ev tm y)] by simp [hE]]
    exact e3
   | false =>
    have hcal:c.callee = .builtin .min:=hcal
    simp only [hcal,hxs]
    rw [show (#[x,y].map a.eval)=#[realW σ (ev tm x),realW σ (ev tm y)] by simp [hE]]
    exact e3
  split at h
  ·rename_i x y hcal hxs
   split at h
   ·rename_i k f k' g hx hy
    cases h
    exact key false x y k _ hxs hcal (by unfold minA;rw [hx,hy];rfl)
   ·cases h
  ·rename_i x y hcal hxs
   split at h
   ·rename_i k f k' g hx hy
    cases h
    exact key true x y k _ hxs hcal (by unfold minA;rw [hx,hy];rfl)
   ·cases h
  ·cases h
 ·cases h
theorem Ap5 {ops:Array Oper} {r d:Nat} {o:Oper} {q:IntKind×(Rho→Int)} (hc:s.cur = .draw ops r) (ho:ops[r]?=some o) (hback:∀ (j:Nat) (o:Oper),ops[j]?=some o→∀ e∈o.after,Region.binds .any e=true→e.on<j) (hb:takeB ops r o=true) (hop:openB ops s.tm o=false) (hw:wantW ops s.tm o=true) (hp:pureN s.Y s.tm o.op=some q) (hd:o.dst=some d) (hdn:d<s.nt)
  (k:∀ x,x=q.2 ρ→Sx P K ⟨.draw ops (Nat.succ r),s.ks,s.tm.set d (.v (.c (.si q.1 s.m.nx))),s.m.up (Nat.succ s.m.nx),s.Y.set s.m.nx .int,s.nt,s.key⟩ (ρ.setN s.m.nx x) Q):Sx P K s ρ Q:=by
 intro F hF n b hB Qw hQ σ a w hA
 rw [hc]
 intro fuel listed hs hl hf
 have hrs:=(Array.getElem?_eq_some_iff.1 ho).1
 obtain ⟨f2,rfl⟩:∃ f2,fuel=f2+1:=⟨fuel-1,by omega⟩
 unfold takeB at hb
 rw [Bool.and_eq_true,List.all_eq_true,List.all_eq_true] at hb
 have hall:∀ (j:Nat) (oj:Oper),ops[j]?=some oj→(∀ c,oj.op≠.defer c)∧∀ cs b,oj.op≠.select cs b:=fun j oj hj=>by
  have:=hb.1 oj (by rw [←Array.getElem?_toList] at hj;exact List.mem_of_getElem? hj)
  refine ⟨fun c hc=>?_,fun cs b hc=>?_⟩ <;> (rw [hc] at this;cases this)
 have hxl:∀ w,(o.semAt F.round a.eval).run P w = .ok (.value (.int q.1 (q.2 ρ))) w:=Agn hA.tm hA.aw.ag hp
 have hpure:PureAt F P ops o (.int q.1 (q.2 ρ)) a:=⟨hxl,by rw [Li hA.tm ops o hop];exact hw⟩
 refine Adk ho (fun c a w=>De F n P Qw c a w s.ks) hall (by rw [hd];exact fun h=>by cases h) hF.fn f2 listed a w hs (mem_ready.2 ⟨getD_in (by rw [hs];exact hrs) (by rw [hl r];simp),o,ho,fun e he hbd=>by
  have:=hback r o ho e he hbd
  rw [hl e.on];simp;exact this⟩) (fun L hL hsub j oj hj hji hjr=>?_) hpure ?_
 ·have hjs:=(Array.getElem?_eq_some_iff.1 hj).1
  have h1:=hb.2 j (List.mem_range.2 hjs)
  rw [Bool.or_eq_true] at h1
  obtain ⟨g1,oj',g2,g3⟩:=mem_ready.1 hjr
  have g1:=getD_both g1
  rcases h1 with h1 | h1
  ·exfalso
   have hle:=Nat.le_of_ble_eq_true h1
   rw [hsub j (by rw [hl j];simp;omega)] at g1
   cases g1
  ·rw [hj] at h1
   simp only [Bool.or_eq_true] at h1
   rcases h1 with h1 | h1
   ·exfalso
    rw [List.any_eq_true] at h1
    obtain ⟨e,he,h2⟩:=h1
    rw [Bool.and_eq_true] at h2
    have:oj=oj':=Option.some.inj (hj.symm.trans g2)
    subst this
    have:=g3 e (by simpa using he) h2.1
    rw [nbeq h2.2,hL] at this
    cases this
   ·exact Sz h1
 ·obtain ⟨G,hG⟩:=hA.aw.y
  obtain ⟨τ,k1,k2,k3,k4,k5⟩:=hA.aw.symD hG (k := .int q.1) (d := .raw (.int q.1 (q.2 ρ))) (v := .int q.1 (q.2 ρ)) (own:=false) (.int q.1 _) (.raw _ rfl)
  have hle:s.m.nx≤(s.m.up (s.m.nx+1)).nx:=Nat.le_succ _
  have hA2:At K b ⟨.draw ops (Nat.succ r),s.ks,s.tm.set d (.v (.c (.si q.1 s.m.nx))),s.m.up (Nat.succ s.m.nx),s.Y.set s.m.nx .int,s.nt,s.key⟩ (ρ.setN s.m.nx (q.2 ρ)) τ (a.put o.dst (.int q.1 (q.2 ρ))) w:=by
   refine ⟨k2,?_,by rw [Bz];exact hA.nt,?_⟩
   ·rw [hd]
    have h1:=(hA.tm.agree k1 hle).set (x := .v (.c (.si q.1 s.m.nx))) (d:=d) k5 (by rw [hA.nt];exact hdn)
    rw [show realW τ (.v (.c (.si q.1 s.m.nx))) = .int q.1 (q.2 ρ) from k4] at h1
    exact h1
   ·obtain ⟨rs,q1,q2,q3⟩:=hA.mks
    exact ⟨rs,by rw [Bd];exact q1,q2,q3⟩
  exact k _ rfl F hF n b hB Qw hQ τ _ w hA2 f2 _ (by simp [hs]) (fun q=>by
   rw [Cm (by rw [hs];exact hrs) q,hl q]
   by_cases h1:q<r
   ·simp [h1];omega
   ·by_cases h2:q=r
    ·simp [h2]
    ·simp [h1,h2];omega) (by omega)
end
end Go.Vc

namespace Go.Vc
section
variable {P:Program} {K:Nat→Option (List Value)} {o:Oper} {tm:Tm} {V:T Row} {nx:Nat} {U:T YRow} {ρ:Rho}
theorem Abe {Y:T YRow} {ks:List Kd} {z n:Nat} {cs:List C} {l:List (List D)} {own:Bool} {p:Prop} (h:srcD Y ρ ks z (.rows n cs)=some (l,own,p)):p:=by
 have h':(match outRows Y ρ true ks (chunk z n cs) with
  | some l=>some (l,true,True)
  | none=>match outRows Y ρ false ks (chunk z n cs) with
   | some l=>some (l,false,True)
   | none=>none)=some (l,own,p):=h
 split at h'
 ·cases h';trivial
 ·split at h'
  ·cases h';trivial
  ·cases h'
theorem Auw {c:Call} {t u:TypeId} {s0 x0:Operand} {i:AppI} {l2:List (List D)} {own2:Bool} {p:Prop} (ho:o.op = .call c) (hcal:c.callee = .builtin .append) (hts:c.argTypes.toList=[t,u]) (hxs:c.args.toList=[s0,x0])
  (ha:appA P ⟨V,nx,nx⟩ U tm t u s0 x0=some i) (hn:i.d=none) (hd:srcD U ρ i.ks i.z i.src=some (l2,own2,p)) (hp:p) (hlen:l2.length≤1048576) :
  OpY P K o tm V nx U ρ (one (.fz (Nat.succ nx))) V (Nat.succ (Nat.succ nx)) (U.set (Nat.succ nx) (.od i.e i.z (i.own && own2) nx)) (ρ.setD nx l2):=by
 intro HH F hF b G σ a w Φ hA hG hT hΦ
 have hT:TmOk σ (⟨V,nx,nx⟩:Mem).nx a.tmps tm:=hT
 have hts:c.argTypes=#[t,u]:=Array.ext' hts
 have hxs:c.args=#[s0,x0]:=Array.ext' hxs
 unfold execOp
 simp only [ho]
 unfold resolve
 simp only [hcal,hts,hxs]
 rw [show (#[s0,x0].map a.eval)=#[realW σ (ev tm s0),realW σ (ev tm x0)] by simp [(hT.ev a.defers s0).1,(hT.ev a.defers x0).1]]
 show Und F P _ ((do pure (.value (←Builtin.append_ #[t,u] o.type #[realW σ (ev tm s0),realW σ (ev tm x0)])):Sem Next).run P w)
 unfold appA at ha
 split at ha
 ·rename_i e z hty
  obtain ⟨hu,hsz⟩:=As hty
  split at ha
  ·rename_i ks hks
   obtain ⟨hcc,ha⟩:(Nat.blt 0 z && Nat.beq ks.length z && zeroIs P e z && Nat.ble (Nat.mul 1048576 (bytes? P e)) 140737488355328)=true∧_=some i:=by
    cases hq:(Nat.blt 0 z && Nat.beq ks.length z && zeroIs P e z && Nat.ble (Nat.mul 1048576 (bytes? P e)) 140737488355328) with
    | false=>rw [hq] at ha;cases ha
    | true=>rw [hq] at ha;exact ⟨rfl,ha⟩
   simp only [Bool.and_eq_true] at hcc
   obtain ⟨⟨⟨c1,c2⟩,c3⟩,c4⟩:=hcc
   have c1:0<z:=Nat.le_of_ble_eq_true c1
   have c2:=Nat.eq_of_beq_eq_true c2
   have c4:1048576*bytes? P e≤140737488355328:=Nat.le_of_ble_eq_true c4
   split at ha
   ·rename_i own d src hdst hsrc
    cases ha
    dsimp only at hd hlen hn ⊢
    subst hn
    obtain ⟨news,hs1,hs2⟩:=Xv hsrc hd hp c1 c2 hA.rel hA.ag hG
    have hv:∃ g,OdV (Fo G b.wB.heap.size own) w e z ([]:List (List D)) g (realW σ (ev tm s0))∧¬liveV (realW σ (ev tm s0)):=by
     unfold dstA at hdst
     split at hdst
     ·rename_i he
      rw [he]
      exact ⟨0,⟨c1,none,0,rfl, .inl ⟨rfl,rfl⟩⟩,fun ⟨_,_,_,hq,hlt⟩=>by cases hq;omega⟩
     ·rename_i r0 o0 z0 he
      rw [he]
      exact ⟨0,⟨c1,_,0,rfl, .inl ⟨rfl,rfl⟩⟩,fun ⟨_,_,_,hq,hlt⟩=>by cases hq;omega⟩
     ·rename_i q he
      rw [he]
      split at hdst
      ·rename_i ow j hi
       obtain ⟨_,h2,h3,h4⟩:=(hG.row q _ hi).2
       obtain ⟨a',k',hv'⟩:=h3 (by decide)
       have hd0:=h4 rfl
       have hk0:k'=0:=by
        obtain ⟨a2,c2',hv2⟩:=h2.slice
        rw [hv'] at hv2
        cases hv2
        rw [hd0];rfl
       subst hk0
       have hre:realW σ (.v (.c (.fz q))) = .slice a' 0 0:=by
        show realC σ (.fz q)=_
        simp only [realC,hv']
       rw [hre]
       exact ⟨0,⟨c1,a',0,rfl, .inl ⟨rfl,rfl⟩⟩,fun ⟨_,_,_,hq,hlt⟩=>by cases hq;omega⟩
      ·obtain ⟨_,hq2⟩:=Aj hdst
       cases hq2
      ·cases hdst
     ·cases hdst
    obtain ⟨g,hv,hnl⟩:=hv
    obtain ⟨v',w',g',r1,r2,r3,r4,r5⟩:=Ac4 (F:=Fo G b.wB.heap.size (own && own2)) (ty:=o.type) hu hsz c3 (hv.mono fun g hg=>(Vx g).1 hg) hs1 rfl (hs2.mono fun g hg=>(Vx g).2 hg) (fun g hg=>(hG.dom g hg.1).1) (fun hl _=>hnl hl) (by simpa using hlen) c4
    rw [Sem.run_bind,r1]
    have hkeep:∀ q,q<w.heap.size→w'.heap[q]?=w.heap[q]?:=fun q hq=>r3 q hq fun hl _=>hnl hl
    obtain ⟨hA1,hG1⟩:=hA.turn (g:=g) (P:=False) hG r2 (fun q hq _=>hkeep q hq) fun hl=>hl.elim
    have hτ:=Env.agree_sym σ nx .nilFunc (σ.r.setD nx l2) (Am _ _ _)
    obtain ⟨hA2,hG2⟩:=hA1.num hG1 hτ (Am ρ nx l2)
    have hdat:(σ.sym nx .nilFunc (σ.r.setD nx l2)).r.d nx=l2:=Ay _ _ _
    have r5:OdV (Fo G b.wB.heap.size (own && own2)) w' e z l2 g' v':=by simpa using r5
    have hge:liveV v'→w.heap.size≤g'∧g'<w'.heap.size:=fun hl=>by
     rcases r4 with ⟨_,hlv⟩ | hge | hn2
     ·exact absurd hlv hnl
     ·refine ⟨hge,?_⟩
      obtain ⟨_,a',c',hv',hc'⟩:=r5
      obtain ⟨a2,n2,c2',hq2,hlt2⟩:=hl
      rw [hv'] at hq2;cases hq2
      rcases hc' with ⟨h5,_⟩ | ⟨_,_,arr,h5,_⟩
      ·omega
      ·exact Bw h5
     ·exact absurd hl hn2
    obtain ⟨υ,k1,k2,k3,k4,k5,k6⟩:=hA2.symO hG2 (e:=e) (z:=z) (j:=nx) (own:=own && own2) (v:=v') (g:=g') hA.rel.ltnx (by rw [hdat,Ay]) (by rw [hdat];exact r5) fun hl=>by
     obtain ⟨h1,h2⟩:=hge hl
     refine ⟨h2,Nat.le_trans hA.size h1,fun hg=>?_,fun q r hq hb he=>?_,fun q e' z' o' j' hq hlq he=>?_⟩
     ·have:=(hG.dom g' hg).1;omega
     ·have:=(hA.rel.row q r hq).blk_lt hb
      have he:σ.b q=g':=he
      omega
     ·have:=(hG.od q _ _ _ _ hq ((Ar hτ (hG.row q _ hq).1).1 hlq)).1
      have he:σ.b q=g':=he
      omega
    have hagr:Agree nx σ υ:=hτ.trans (Nat.le_succ _) k1
    have hval:realW υ (one (.fz (Nat.succ nx)))=v':=k4
    rw [←hval]
    refine hΦ υ w' G hagr r2 hkeep (fun i r hi hr _=>absurd (hA.rel.lt i r hr).lt (Nat.not_lt.2 hi)) (fun i e' z' ow' jj hi hr hl=>?_) k2 k3 (fun _ h=>h) (fun _ h=>.inl h) k5
    rw [T.get_set] at hr
    split at hr
    ·rename_i hie
     subst hie
     have e2:υ.b (Nat.succ nx)=g':=k6
     have h1:liveV v':=by
      obtain ⟨a1,n1,c1',hv1,hc1⟩:=hl
      have e1:realC υ (.fz (Nat.succ nx))=v':=k4
      simp only [realC,hv1] at e1
      exact ⟨a1,n1,c1',e1.symm,hc1⟩
     rw [e2]
     exact (hge h1).1
    ·exact absurd (hG.row i _ hr).1.lt (Nat.not_lt.2 hi)
   ·cases ha
  ·cases ha
 ·cases ha
end
end Go.Vc

namespace Go.Vc
abbrev GoY:=W→T Row→Nat→T YRow→Rho→Prop
def goA (s:Option AS) (k:AS→Prop):Prop:=match s with
 | some s=>k s
 | none=>Stuck 34 ()
def litY (b:Bool) (go:GoY):GoY:=fun x V' nx' U' ρ'=>match b,x with
 | true, .v (.c (.sb i))=>match U'.get i with
  | some .bool=>(ρ'.t i=true→go (one (.raw (.bool true))) V' nx' U' ρ')∧(ρ'.t i=false→go (one (.raw (.bool false))) V' nx' U' ρ')
  | some (.kb c)=>go (one (.raw (.bool c))) V' nx' U' ρ'
  | _=>go (.v (.c (.sb i))) V' nx' U' ρ'
 | _,x=>go x V' nx' U' ρ'
def isGuard (ops:Array Oper) (o:Oper):Bool:=match o.dst with
 | some d=>ops.toList.any fun q=>match q.guard with
  | some g=>match (ops[g.1]?).bind (·.dst) with
   | some e=>Nat.beq e d
   | none=>false
  | none=>false
 | none=>false
def vcYC (con:FuncId→Option ConT) (fns:FuncId→Option (List DV→List DV)) (V:T Row) (nx:Nat) (U:T YRow) (ρ:Rho) (f:FuncId) (gs:List W) (go:GoY):Prop:=match con f,fns f with
 | some t,some fn=>match outWs U ρ t.args gs,t.res.all wfR with
  | some as,true=>Ob (t.pre as)∧go (ret1 (symsV t.res nx)) V (upV t.res nx) (rowsV t.res nx U) (rhoV t.res (fn as) nx ρ)
  | _,_=>Stuck 35 (f,gs)
 | _,_=>Stuck 36 f
def isNilP:W→Bool
 | .v (.c (.raw (.pointer none)))=>true
 | _=>false
def vcYA (P:Program) (c:Call) (tv:Tm) (V:T Row) (nx:Nat) (U:T YRow) (ρ:Rho) (go:GoY):Prop:=match c.argTypes.toList,c.args.toList with
 | [t,u],[s0,x0]=>match appA P ⟨V,nx,nx⟩ U tv t u s0 x0 with
  | some i=>match i.d,srcD U ρ i.ks i.z i.src with
   | none,some (l2,own2,p)=>(match i.src with
    | .sym ..=>Ob (p∧l2.length≤1048576)
    | .rows ..=>Ob (l2.length≤1048576))∧∀ x,x=l2→go (one (.fz (Nat.succ nx))) V (Nat.succ (Nat.succ nx)) (U.set (Nat.succ nx) (.od i.e i.z (i.own && own2) nx)) (ρ.setD nx x)
   | _,_=>Stuck 26 i.d
  | none=>Stuck 27 (t,u,ev tv s0,ev tv x0)
 | _,_=>Stuck 28 ()
def vcYS (P:Program) (con:FuncId→Option ConT) (fns:FuncId→Option (List DV→List DV)) (o:Oper) (tv:Tm) (V:T Row) (nx:Nat) (U:T YRow) (ρ:Rho) (go:GoY):Prop:=match symA P U tv o.op with
 | .int k f=>∀ x,x=f ρ→go (one (.si k nx)) V (Nat.succ nx) (U.set nx .int) (ρ.setN nx x)
 | .intP k p f=>Ob (p ρ)∧∀ x,x=f ρ→go (one (.si k nx)) V (Nat.succ nx) (U.set nx .int) (ρ.setN nx x)
 | .test p=>(p ρ→go (one (.raw (.bool true))) V nx U ρ)∧(¬p ρ→go (one (.raw (.bool false))) V nx U ρ)
 | .may c _=>Stuck 40 c
 | .str _ _=>Stuck 41 ()
 | .val x=>go x V nx U ρ
 | .elem i own ix ks=>Ob (0≤ix ρ∧ix ρ<((ρ.d i).length:Int))∧Ob (Shp ks (ρ.d i))∧allK ks nx ρ fun ds ρ'=>Ob ((ρ.d i)[(ix ρ).toNat]?=some ds)→go (one (.fp (nx+ks.length) 0)) V (Nat.succ (nx+ks.length)) ((rowsK own ks nx U).set (nx+ks.length) (.fp own (cellsK ks nx))) ρ'
 | .sub i own c z lo hi mx=>Ob (Part ρ i z lo hi mx)∧∀ x,x=partD ρ i lo hi→go (one (.fz nx)) V (Nat.succ nx) (U.set nx (.fz own c nx)) (ρ.setD nx x)
 | .eptr i j z ix=>Ob (0≤ix ρ∧ix ρ<((ρ.d j).length:Int))∧∀ x,x=ix ρ→go (one (.fp (Nat.succ nx) 0)) V (Nat.succ (Nat.succ nx)) ((U.set nx .int).set (Nat.succ nx) (.ep i nx z)) (ρ.setN nx x)
 | .eload j own x ks off k=>Ob (0≤ρ.n x∧ρ.n x<((ρ.d j).length:Int))∧Ob (Shp ks (ρ.d j))∧allK ks nx ρ fun ds ρ'=>Ob ((ρ.d j)[(ρ.n x).toNat]?=some ds)→go (cutW ks nx off k) V (nx+ks.length) (rowsK own ks nx U) ρ'
 | .no=>match o.op with
  | .call c=>match c.callee with
   | .value g=>match calleeW ⟨V,nx,nx⟩ (ev tv g) (c.args.toList.map (ev tv)) with
    | some (f,gs)=>vcYC con fns V nx U ρ f gs go
    | none=>Stuck 37 (ev tv g)
   | .builtin .append=>vcYA P c tv V nx U ρ go
   | x=>Stuck 38 x
  | .nilCheck x=>match isNilP (ev tv x) with
   | true=>Ob False
   | false=>Stuck 56 (ev tv x)
  | .panic _=>Ob False
  | x=>Stuck 39 (x,x.operands.toList.map (ev tv))
def vcY1 (P:Program) (K:Nat→Option (List Value)) (con:FuncId→Option ConT) (fns:FuncId→Option (List DV→List DV)) (ops:Array Oper) (o:Oper) (tv:Tm) (V:T Row) (nx:Nat) (U:T YRow) (ρ:Rho) (go:GoY):Prop:=match wantW ops tv o,opB o.op with
 | false,_=>go undefW V nx U ρ
 | true,true=>match opW P K o.op o.type tv ⟨V,nx,nx⟩ with
  | .ok x mo=>match Nat.beq mo.lo nx with
   | true=>litY (isGuard ops o) go x mo.S mo.nx U ρ
   | false=>Stuck 31 o.op
  | .no=>vcYS P con fns o tv V nx U ρ (litY (isGuard ops o) go)
 | true,false=>Stuck 32 o.op
def vcY (P:Program) (K:Nat→Option (List Value)) (con:FuncId→Option ConT) (fns:FuncId→Option (List DV→List DV)) (ops:Array Oper) (nt nx0:Nat) (A:List Nat) (c:AS→Rho→Prop) (l:List Oper):Nat→AS→Rho→Prop :=
 List.rec (fun _ st ρ=>c st ρ) (fun o _ ih j st ρ=>match seeB ops nx0 (A.getD j 0) o st with
  | true=>vcY1 P K con fns ops o (tvY st.tm (namesY ops o)) (pickT st.S (numsY st (namesY ops o))) st.nx (pickT st.Y (numsY st (namesY ops o))) ρ fun x V' nx' U' ρ'=>goA (nextY nt j o st x V' nx' U') fun st'=>ih (Nat.succ j) st' ρ'
  | false=>Stuck 30 (o.op,numsY st (namesY ops o),st.Rg)) l
def FnOk (con:FuncId→Option ConT) (fns:FuncId→Option (List DV→List DV)):Prop:=∀ f t fn,con f=some t→fns f=some fn→∀ as,t.pre as→∀ rs,t.post as rs→rs=fn as
section
variable {P:Program} {K:Nat→Option (List Value)} {con:FuncId→Option ConT} {fns:FuncId→Option (List DV→List DV)} {ops:Array Oper} {o:Oper} {tv:Tm} {V:T Row} {nx:Nat} {U:T YRow} {ρ:Rho} {go:GoY}
def Did (P:Program) (K:Nat→Option (List Value)) (o:Oper) (tv:Tm) (V:T Row) (nx:Nat) (U:T YRow) (ρ:Rho) (go:GoY):Prop :=
 ∃ x V' nx' U' ρ',RhoEq nx ρ ρ'∧OpY P K o tv V nx U ρ x V' nx' U' ρ'∧go x V' nx' U' ρ'
theorem Ad5 {V':T Row} {nx' i:Nat} {U':T YRow} {ρ':Rho} {y:YRow} {c:Bool} (h:OpY P K o tv V nx U ρ (.v (.c (.sb i))) V' nx' U' ρ') (hi:U'.get i=some y) (hy:y = .bool∧ρ'.t i=c∨y = .kb c):OpY P K o tv V nx U ρ (one (.raw (.bool c))) V' nx' U' ρ':=by
 intro HH F hF b G σ a w Φ hA hY hT hΦ
 refine h HH F hF b G σ a w Φ hA hY hT fun τ w' G' q1 q2 q3 q4 qo q5 q6 q7 q8 q9=>?_
 have:realW τ (.v (.c (.sb i)))=realW τ (one (.raw (.bool c))):=by
  show Value.bool (τ.r.t i)=Value.bool c
  congr 1
  rcases hy with ⟨rfl,hc⟩ | rfl
  ·exact (q5.ag i _ hi).trans hc
  ·exact (q6.row i _ hi).2
 rw [this]
 exact hΦ τ w' G' q1 q2 q3 q4 qo q5 q6 q7 q8 trivial
theorem Amu {b:Bool} {x:W} {V':T Row} {nx':Nat} {U':T YRow} {ρ':Rho} (ho:OpY P K o tv V nx U ρ x V' nx' U' ρ') (h:litY b go x V' nx' U' ρ'):∃ x2,OpY P K o tv V nx U ρ x2 V' nx' U' ρ'∧go x2 V' nx' U' ρ':=by
 unfold litY at h
 split at h
 ·rename_i i
  split at h
  ·rename_i hi
   cases hq:ρ'.t i with
   | true=>exact ⟨_,Ad5 ho hi (.inl ⟨rfl,hq⟩),h.1 hq⟩
   | false=>exact ⟨_,Ad5 ho hi (.inl ⟨rfl,hq⟩),h.2 hq⟩
  ·rename_i c hi;exact ⟨_,Ad5 ho hi (.inr rfl),h⟩
  ·exact ⟨_,ho,h⟩
 ·exact ⟨_,ho,h⟩
theorem Atd (hcon:∀ f t,con f=some t→Con P K f t) (hfn:FnOk con fns) {c:Call} {g:Operand} {f:FuncId} {gs:List W} (ho:o.op = .call c) (hg:c.callee = .value g) (hf:calleeW ⟨V,nx,nx⟩ (ev tv g) (c.args.toList.map (ev tv))=some (f,gs)) (h:vcYC con fns V nx U ρ f gs go):Did P K o tv V nx U ρ go:=by
 unfold vcYC at h
 split at h
 ·rename_i t fn ht hfn'
  split at h
  ·rename_i as has hw
   exact ⟨_,_,_,_,_,Al5 t.res (fn as) nx nx ρ (Nat.le_refl _),Auv ho hg hf (hcon f t ht) has h.1.out hw (hfn f t fn ht hfn' as h.1.out),h.2⟩
  ·cases h
 ·cases h
theorem Ate {c:Call} (ho:o.op = .call c) (hcal:c.callee = .builtin .append) (h:vcYA P c tv V nx U ρ go):Did P K o tv V nx U ρ go:=by
 unfold vcYA at h
 split at h
 ·rename_i t u s0 x0 hts hxs
  split at h
  ·rename_i i ha
   split at h
   ·rename_i l2 own2 p hn hd
    obtain ⟨h1,h2⟩:=h
    obtain ⟨hp,hlen⟩:p∧l2.length≤1048576:=by
     split at h1
     ·exact h1.out
     ·rename_i n cs hs
      rw [hs] at hd
      exact ⟨Abe hd,h1.out⟩
    exact ⟨_,_,_,_,_,Am _ _ _,Auw ho hcal hts hxs ha hn hd hp hlen,h2 _ rfl⟩
   ·cases h
  ·cases h
 ·cases h
theorem Atc (hcon:∀ f t,con f=some t→Con P K f t) (hfn:FnOk con fns) (h:vcYS P con fns o tv V nx U ρ go):Did P K o tv V nx U ρ go:=by
 unfold vcYS at h
 split at h
 ·rename_i k f ha;exact ⟨_,_,_,_,_,Ed _ _ _,Auu ha,h _ rfl⟩
 ·rename_i k p f ha;exact ⟨_,_,_,_,_,Ed _ _ _,Aq5 ha h.1.out,h.2 _ rfl⟩
 ·rename_i p ha
  by_cases hq:p ρ
  ·exact ⟨_,_,_,_,_,RhoEq.refl _ _,Ags ha (c:=true) ⟨fun _=>hq,fun _=>rfl⟩,h.1 hq⟩
  ·exact ⟨_,_,_,_,_,RhoEq.refl _ _,Ags ha (c:=false) ⟨(fun h=>by cases h),fun h=>absurd h hq⟩,h.2 hq⟩
 ·cases h
 ·cases h
 ·rename_i x ha;exact ⟨_,_,_,_,_,RhoEq.refl _ _,Aus ha,h⟩
 ·rename_i i own ix ks ha
  obtain ⟨⟨h0,h1⟩,⟨h2⟩,h3⟩:=h
  have hlt:(ix ρ).toNat<(ρ.d i).length:=by omega
  obtain ⟨ds,h4⟩:∃ ds,(ρ.d i)[(ix ρ).toNat]?=some ds:=⟨_,List.getElem?_eq_getElem hlt⟩
  have hd:=h2 ds (List.mem_of_getElem? h4)
  exact ⟨_,_,_,_,_,Xz ds nx nx ρ (Nat.le_refl _),Aq7 ha h0 h4 hd,Ex _ _ _ _ h3 ds hd ⟨h4⟩⟩
 ·rename_i i own c z lo hi mx ha;exact ⟨_,_,_,_,_,Am _ _ _,Aut ha h.1.out,h.2 _ rfl⟩
 ·rename_i i j z ix ha;exact ⟨_,_,_,_,_,Ed _ _ _,Aq6 ha h.1.out.1 h.1.out.2,h.2 _ rfl⟩
 ·rename_i j own x ks off k ha
  obtain ⟨⟨h0,h1⟩,⟨h2⟩,h3⟩:=h
  have hlt:(ρ.n x).toNat<(ρ.d j).length:=by omega
  obtain ⟨ds,h4⟩:∃ ds,(ρ.d j)[(ρ.n x).toNat]?=some ds:=⟨_,List.getElem?_eq_getElem hlt⟩
  have hd:=h2 ds (List.mem_of_getElem? h4)
  exact ⟨_,_,_,_,_,Xz ds nx nx ρ (Nat.le_refl _),Amk ha h0 h4 hd,Ex _ _ _ _ h3 ds hd ⟨h4⟩⟩
 ·split at h
  ·rename_i c ho
   split at h
   ·rename_i g hg
    split at h
    ·rename_i f gs hf;exact Atd hcon hfn ho hg hf h
    ·cases h
   ·rename_i hg;exact Ate ho hg h
   ·cases h
  ·split at h
   ·exact h.out.elim
   ·cases h
  ·exact h.out.elim
  ·cases h
theorem Atf (hcon:∀ f t,con f=some t→Con P K f t) (hfn:FnOk con fns) (h:vcY1 P K con fns ops o tv V nx U ρ go) :
  ∃ did x V' nx' U' ρ',wantW ops tv o=did∧RhoEq nx ρ ρ'∧(did=false→x=undefW∧nx'=nx)∧(did=true→OpY P K o tv V nx U ρ x V' nx' U' ρ')∧(did=true→opB o.op=true)∧go x V' nx' U' ρ':=by
 unfold vcY1 at h
 split at h
 ·rename_i hw;exact ⟨false,_,_,_,_,_,hw,RhoEq.refl _ _,fun _=>⟨rfl,rfl⟩,(fun h=>by cases h),(fun h=>by cases h),h⟩
 ·rename_i hw hb
  split at h
  ·rename_i x mo ho
   split at h
   ·rename_i hl
    obtain ⟨x2,k1,k2⟩:=Amu (Axb (U:=U) (ρ:=ρ) ho (Nat.eq_of_beq_eq_true hl)) h
    exact ⟨true,_,_,_,_,_,hw,RhoEq.refl _ _,(fun h=>by cases h),fun _=>k1,fun _=>hb,k2⟩
   ·cases h
  ·obtain ⟨x,V',nx',U',ρ',h1,h2,h3⟩:=Atc hcon hfn h
   obtain ⟨x2,k1,k2⟩:=Amu h2 h3
   exact ⟨true,x2,V',nx',U',ρ',hw,h1,(fun h=>by cases h),fun _=>k1,fun _=>hb,k2⟩
 ·cases h
theorem Ase (hcon:∀ f t,con f=some t→Con P K f t) (hfn:FnOk con fns) {nt nx0:Nat} {A:List Nat} {c:AS→Rho→Prop}:∀ (l:List Oper) (j:Nat) (st:AS) (ρ:Rho),vcY P K con fns ops nt nx0 A c l j st ρ →
  ∃ (pt:Nat→AS) (rh:Nat→Rho) (mv:Nat→Mv),pt j=st∧rh j=ρ∧c (pt (j+l.length)) (rh (j+l.length))∧∀ i o,l[i]?=some o→LocY P K ops nt nx0 (A.getD (j+i) 0) (j+i) o (pt (j+i)) (rh (j+i)) (mv (j+i)) (pt (j+i+1)) (rh (j+i+1))
 | [],j,st,ρ,h=>⟨fun _=>st,fun _=>ρ,fun _=>⟨false,undefW, .e, .e, .e, .e,[],⟨[],fun _=>undef⟩⟩,rfl,rfl,h,fun i o hi=>by simp at hi⟩
 | o::l,j,st,ρ,h=>by
  have h':(match seeB ops nx0 (A.getD j 0) o st with
  | true=>vcY1 P K con fns ops o (tvY st.tm (namesY ops o)) (pickT st.S (numsY st (namesY ops o))) st.nx (pickT st.Y (numsY st (namesY ops o))) ρ fun x V' nx' U' ρ'=>goA (nextY nt j o st x V' nx' U') fun st'=>vcY P K con fns ops nt nx0 A c l (Nat.succ j) st' ρ'
  | false=>Stuck 30 (o.op,numsY st (namesY ops o),st.Rg)):=h
  split at h'
  ·rename_i hs
   obtain ⟨did,x,V',nx',U',ρ',h1,h2,h3,h4,h5,h6⟩:=Atf hcon hfn h'
   unfold goA at h6
   split at h6
   ·rename_i st' hn
    have loc:=Amp hs hn h2 h1 h3 h4 h5
    obtain ⟨pt,rh,mv,e1,e2,e3,e4⟩:=Ase hcon hfn l (j+1) st' ρ' h6
    refine ⟨fun i=>if i=j then st else pt i,fun i=>if i=j then ρ else rh i,fun i=>if i=j then ⟨did,x,pickT st.S (numsY st (namesY ops o)),V',pickT st.Y (numsY st (namesY ops o)),U',numsY st (namesY ops o),tvY st.tm (namesY ops o)⟩ else mv i,if_pos rfl,if_pos rfl,?_,fun i o' hi=>?_⟩
    ·show c (if j+(l.length+1)=j then st else _) (if j+(l.length+1)=j then ρ else _)
     have e5:j+(o::l).length=j+1+l.length:=by rw [List.length_cons];omega
     rw [if_neg (by omega),if_neg (by omega),e5]
     exact e3
    ·cases i with
     | zero =>
      simp at hi
      subst hi
      simp only [Nat.add_zero,if_true,if_neg (show ¬j+1=j by omega),e1,e2]
      exact loc
     | succ i =>
      have:=e4 i o' (by simpa using hi)
      rw [show j+(i+1)=j+1+i by omega]
      simp only [if_neg (show ¬j+1+i=j by omega),if_neg (show ¬j+1+i+1=j by omega)]
      exact this
   ·cases h6
  ·cases h'
end
end Go.Vc

namespace Go.Vc
def dstB (o:Oper) (t:Tmp):Bool:=match o.dst with
 | some d=>Nat.beq d t
 | none=>false
def nameB (ops:Array Oper) (p:Nat) (A:List Nat) (j:Nat) (t:Tmp):Bool:=(List.range p).all fun k=>match ops[k]? with
 | some q=>!(dstB q t) || (Nat.beq k j || (Nat.blt k j && Nat.testBit (A.getD j 0) k) || (Nat.blt j k && Nat.testBit (A.getD k 0) j))
 | none=>true
def namesB (ops:Array Oper) (p:Nat) (A:List Nat):Bool:=(List.range p).all fun j=>match ops[j]? with
 | some o=>(match o.dst with
  | some d=>nameB ops p A j d
  | none=>true) && (namesY ops o).all (nameB ops p A j)
 | none=>true
theorem Agz {ops:Array Oper} {p j:Nat} {t:Tmp} (h:nameB ops p (ancs ops.toList []) j t=true) {k:Nat} {q:Oper} (hk:k<p) (hq:ops[k]?=some q) (hd:q.dst=some t):k=j∨(k<j∧Wt ops j k)∨(j<k∧Wt ops k j):=by
 unfold nameB at h
 have:=List.all_eq_true.1 h k (List.mem_range.2 hk)
 rw [hq] at this
 simp only [dstB,hd,Nat.beq_refl,Bool.not_true,Bool.false_or,Bool.or_eq_true,Bool.and_eq_true,bltE,decide_eq_true_iff] at this
 rcases this with (h1 | h1) | h1
 ·exact .inl (Nat.eq_of_beq_eq_true h1)
 ·exact .inr (.inl ⟨h1.1,Wr h1.2⟩)
 ·exact .inr (.inr ⟨h1.1,Wr h1.2⟩)
def oper0 : Oper := ⟨none, .move (.const undef), 0, "", #[], none⟩
section
variable [H:Holes] {P:Program} {K:Nat→Option (List Value)} {s:St} {ρ:Rho} {Q:Post}
theorem Alo {con:FuncId→Option ConT} {fns:FuncId→Option (List DV→List DV)} (hcon:∀ f t,con f=some t→Con P K f t) (hfn:FnOk con fns) {p:Nat} {ops:Array Oper} (hc:s.cur = .draw ops 0) (he:edgesB ops p=true) (hnm:namesB ops p (ancs ops.toList [])=true) {c:AS→Rho→Prop} (hcc:∀ st ρ',c st ρ'→Sx P K ⟨.draw ops p,s.ks,st.tm,⟨st.S,st.nx,s.m.lo⟩,st.Y,s.nt,s.key⟩ ρ' Q)
  (h:vcY P K con fns ops s.nt s.m.nx (ancs ops.toList []) c (ops.toList.take p) 0 ⟨s.m.nx,s.m.S,s.Y,s.tm,[]⟩ ρ):Sx P K s ρ Q:=by
 have hE:=Anz he
 obtain ⟨pt,rh,mv,e1,e2,e3,e4⟩:=Ase hcon hfn _ _ _ _ h
 have hlen:0+(ops.toList.take p).length=p:=by rw [List.length_take];have:=hE.le;simp;omega
 rw [hlen] at e3
 have ho:∀ k,k<p→ops[k]?=some (ops.getD k oper0):=fun k hk=>by
  have:k<ops.size:=Nat.lt_of_lt_of_le hk hE.le
  rw [Array.getD_eq_getD_getElem?,Array.getElem?_eq_getElem this];rfl
 have loc:∀ k,k<p→LocY P K ops s.nt s.m.nx ((ancs ops.toList []).getD k 0) k (ops.getD k oper0) (pt k) (rh k) (mv k) (pt (k+1)) (rh (k+1)):=fun k hk=>by
  have:=e4 k (ops.getD k oper0) (by rw [List.getElem?_take,if_pos hk];simpa using ho k hk)
  simpa using this
 have p0:(pt 0).nx=s.m.nx:=by rw [e1]
 have mono:∀ {i j},i≤j→j≤p→(pt i).nx≤(pt j).nx:=fun {i j}=>by
  induction j with
  | zero=>intro h1 _;rw [Nat.le_zero.1 h1];exact Nat.le_refl _
  | succ j ih =>
   intro h1 h2
   rcases Nat.lt_or_ge i (j+1) with h3 | h3
   ·exact Nat.le_trans (ih (by omega) (by omega)) (loc j h2).mono
   ·rw [show i=j+1 by omega];exact Nat.le_refl _
 have keepS:∀ {k j i},k≤j→j≤p→i<(pt k).nx→(pt j).S.get i=(pt k).S.get i:=fun {k j i}=>by
  induction j with
  | zero=>intro h1 _ _;rw [Nat.le_zero.1 h1]
  | succ j ih =>
   intro h1 h2 h3
   rcases Nat.lt_or_ge k (j+1) with h4 | h4
   ·rw [(loc j h2).oldS i (Nat.lt_of_lt_of_le h3 (mono (by omega) (by omega))),ih (by omega) (by omega) h3]
   ·rw [show k=j+1 by omega]
 have keepY:∀ {k j i},k≤j→j≤p→i<(pt k).nx→(pt j).Y.get i=(pt k).Y.get i:=fun {k j i}=>by
  induction j with
  | zero=>intro h1 _ _;rw [Nat.le_zero.1 h1]
  | succ j ih =>
   intro h1 h2 h3
   rcases Nat.lt_or_ge k (j+1) with h4 | h4
   ·rw [(loc j h2).oldY i (Nat.lt_of_lt_of_le h3 (mono (by omega) (by omega))),ih (by omega) (by omega) h3]
   ·rw [show k=j+1 by omega]
 have rgs:∀ k,k≤p→∀ r∈(pt k).Rg,∃ j,j<k∧r=(j,(pt j).nx,(pt (j+1)).nx):=fun k=>by
  induction k with
  | zero=>intro _ r hr;rw [e1] at hr;cases hr
  | succ k ih =>
   intro hk r hr
   rw [(loc k hk).rg] at hr
   rcases List.mem_cons.1 hr with rfl | hr
   ·exact ⟨k,Nat.lt_succ_self _,rfl⟩
   ·obtain ⟨j,h1,h2⟩:=ih (by omega) r hr
    exact ⟨j,by omega,h2⟩
 have seen:∀ k,k<p→∀ i,i∈(mv k).ns→i<(pt k).nx∧(i<(pt 0).nx∨∃ j,j<k∧Wt ops k j∧(pt j).nx≤i∧i<(pt (j+1)).nx):=fun k hk i hi=>by
  obtain ⟨h1,h2⟩:=(loc k hk).ns i hi
  refine ⟨h1,?_⟩
  rcases h2 with h2 | ⟨r,hr,h3,h4,h5⟩
  ·exact .inl (by rw [p0];exact h2)
  ·obtain ⟨j,hj,rfl⟩:=rgs k (Nat.le_of_lt hk) r hr
   exact .inr ⟨j,hj,Wr h3,h4,h5⟩
 have e3':Sx P K ⟨.draw ops p,s.ks,(pt p).tm,⟨(pt p).S,(pt p).nx,s.m.lo⟩,(pt p).Y,s.nt,s.key⟩ (rh p) Q:=hcc _ _ e3
 refine Atv (o:=fun k=>ops.getD k oper0) (nx:=fun k=>(pt k).nx) (S:=(pt p).S) (Y:=(pt p).Y) (ρs:=rh) (tm:=fun k=>(pt k).tm) (did:=fun k=>(mv k).did) (x:=fun k=>(mv k).x) (V:=fun k=>(mv k).V) (V':=fun k=>(mv k).V') (U:=fun k=>(mv k).U) (U':=fun k=>(mv k).U') (vis:=fun k i=>i∈(mv k).ns) (tv:=fun k=>(mv k).tv) (lo:=s.m.lo) hc (fun hbS hbY=>?_) ?_ hE (by rw [e1]) p0 e2 (fun i hi=>?_) (fun i hi=>?_) e3'
 ·have nlS:∀ k,k≤p→∀ i r,(pt k).S.get i=some r→i<(pt k).nx:=fun k=>by
   induction k with
   | zero=>intro _ i r hr;rw [e1] at hr ⊢;exact hbS i r hr
   | succ k ih =>
    intro hk i r hr
    rcases Nat.lt_or_ge i (pt k).nx with h1 | h1
    ·exact Nat.lt_of_lt_of_le h1 (loc k hk).mono
    ·rcases (loc k hk).newS i r h1 hr with h2 | h2
     ·have:=ih (by omega) i r h2;omega
     ·exact h2.1
  have nlY:∀ k,k≤p→∀ i y,(pt k).Y.get i=some y→i<(pt k).nx:=fun k=>by
   induction k with
   | zero=>intro _ i y hy;rw [e1] at hy ⊢;exact hbY i y hy
   | succ k ih =>
    intro hk i y hy
    rcases Nat.lt_or_ge i (pt k).nx with h1 | h1
    ·exact Nat.lt_of_lt_of_le h1 (loc k hk).mono
    ·rcases (loc k hk).newY i y h1 hy with h2 | h2
     ·have:=ih (by omega) i y h2;omega
     ·exact h2.1
  refine ⟨ho,fun k hk=>(loc k hk).mono,fun k hk=>(loc k hk).rho,fun k hk=>(loc k hk).put,fun k hk=>(loc k hk).same,fun k hk=>(loc k hk).skip,fun k hk=>(loc k hk).run,seen,fun k hk i r hr=>?_,fun k hk i r hr=>?_,fun k hk _ i r h1 h2 hr=>?_,fun k hk _ i r h1 h2 hr=>?_,nlS p (Nat.le_refl p),nlY p (Nat.le_refl p)⟩
  ·obtain ⟨h1,h2⟩:=(loc k hk).subV i r hr
   exact ⟨h1,by rw [keepS (Nat.le_of_lt hk) (Nat.le_refl p) (seen k hk i h1).1];exact h2⟩
  ·obtain ⟨h1,h2⟩:=(loc k hk).subU i r hr
   exact ⟨h1,by rw [keepY (Nat.le_of_lt hk) (Nat.le_refl p) (seen k hk i h1).1];exact h2⟩
  ·rw [keepS (show k+1≤p from hk) (Nat.le_refl p) h2] at hr
   rcases (loc k hk).newS i r h1 hr with h3 | h3
   ·have:=nlS k (Nat.le_of_lt hk) i r h3;omega
   ·exact h3.2
  ·rw [keepY (show k+1≤p from hk) (Nat.le_refl p) h2] at hr
   rcases (loc k hk).newY i r h1 hr with h3 | h3
   ·have:=nlY k (Nat.le_of_lt hk) i r h3;omega
   ·exact h3.2
 ·have nb:∀ j,j<p→∀ t,((ops.getD j oper0).dst=some t∨t∈namesY ops (ops.getD j oper0))→nameB ops p (ancs ops.toList []) j t=true:=fun j hj t ht=>by
   unfold namesB at hnm
   have:=List.all_eq_true.1 hnm j (List.mem_range.2 hj)
   rw [ho j hj] at this
   simp only [Bool.and_eq_true] at this
   rcases ht with ht | ht
   ·have h1:=this.1;rw [ht] at h1;exact h1
   ·exact List.all_eq_true.1 this.2 t ht
  exact ⟨fun j hj t ht k hk hd=>Agz (nb j hj t (.inl ht)) hk (ho k hk) hd,fun j hj t ht k hk hd=>Agz (nb j hj t (.inr ht)) hk (ho k hk) hd,fun j hj=>(loc j hj).tvT,fun j hj=>(loc j hj).tvN,fun j hj=>(loc j hj).tvl,fun j hj=>(loc j hj).want,fun j hj=>(loc j hj).op⟩
 ·rw [keepS (Nat.zero_le p) (Nat.le_refl p) hi,e1]
 ·rw [keepY (Nat.zero_le p) (Nat.le_refl p) hi,e1]
end
end Go.Vc
