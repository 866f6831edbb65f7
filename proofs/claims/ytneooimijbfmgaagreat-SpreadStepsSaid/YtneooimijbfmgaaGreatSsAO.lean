import Derived.RangeFuncNested
import Derived.Test.YtneooimijbfmgaaGreatSsAG
import Derived.Test.YtneooimijbfmgaaGreatSsAK
set_option linter.unusedVariables false
set_option linter.unusedSimpArgs false
set_option linter.unusedSectionVars false
noncomputable section
namespace Go.Vc
def parW (nt:Nat):List Tmp→List W→Tm→Option Tm
 | [],[],t=>some t
 | p::ps,x::xs,t=>bif Nat.blt p nt then parW nt ps xs (t.set p x) else none
 | _,_,_=>none
def jumpOf:Exit→Option (Option Code)
 | .normal=>some none
 | .ret=>some (some .ret)
 | .exit i=>some (some (.exit i))
 | .goto i=>some (some (.goto i))
 | _=>none
def curOf:Option Code→Option Cur
 | none=>some (.exit .normal)
 | some .ret=>some (.exit .ret)
 | some (.exit i)=>some (.exit (.exit i))
 | some (.goto i)=>some (.exit (.goto i))
 | _=>none
def busyM (m:Mem) (i:Nat):Option Mem:=match m.S.get i with
 | some (.loop .ready p nt tm ps a b)=>some ⟨m.S.set i (.loop .busy p nt tm ps a b),m.nx,lower i m.lo⟩
 | _=>none
def doneM (m:Mem) (i:Nat) (jump:Option Code):Option Mem:=match m.S.get i with
 | some (.loop _ _ nt tm ps a b)=>some ⟨m.S.set i (.loop (bif jump.isNone then .ready else .done) jump nt tm ps a b),m.nx,lower i m.lo⟩
 | _=>none
def overM (m:Mem) (i:Nat):Option (Option Code×Mem):=match m.S.get i with
 | some (.loop .busy _ _ _ _ _ _)=>none
 | some (.loop _ pd _ _ _ _ _)=>some (pd,⟨m.S.set i .dead,m.nx,lower i m.lo⟩)
 | _=>none
section
variable [H:Holes]
section
variable {P:Program} {K:Nat→Option (List Value)} {σ τ:Env} {m m1:Mem} {w w1:World} {F:Fence}
theorem Asp {nt:Nat}:∀ (ps:List Tmp) (xs:List W) (tm tm':Tm) (tmps:Array Value),parW nt ps xs tm=some tm'→TmOk σ m.nx tmps tm→tmps.size=nt→(∀ x∈xs,W.lt m.nx x) →
  ps.length=xs.length∧∃ tmps',((ps.zip (xs.map (realW σ))).foldl (fun tmps (p:Tmp×Value)=>tmps.setIfInBounds p.1 p.2) tmps)=tmps'∧TmOk σ m.nx tmps' tm'∧tmps'.size=nt
 | [],[],tm,tm',tmps,h,hT,hs,_=>by cases h;exact ⟨rfl,tmps,rfl,hT,hs⟩
 | p::ps,x::xs,tm,tm',tmps,h,hT,hs,hl=>by
  unfold parW at h
  rw [cond_eq_ite] at h
  split at h
  ·rename_i hp
   have hp:p<nt:=Nat.le_of_ble_eq_true hp
   obtain ⟨h1,tmps',h2,h3,h4⟩:=Asp ps xs _ tm' (tmps.setIfInBounds p (realW σ x)) h (hT.set (hl x List.mem_cons_self) (by rw [hs];exact hp)) (by simpa using hs) (fun y hy=>hl y (List.mem_cons_of_mem _ hy))
   exact ⟨by simp [h1],tmps',by rw [List.map_cons,List.zip_cons_cons,List.foldl_cons];exact h2,h3,h4⟩
  ·cases h
 | [],x::xs,tm,tm',tmps,h,hT,hs,_=>by cases h
 | p::ps,[],tm,tm',tmps,h,hT,hs,_=>by cases h
theorem Abd (h:Rel K σ m w) {r:Nat} {s0 s1:Row} {lo:Nat} (hr:m.S.get r=some s0) (h0:s0.isLoop=true) (h1:s1.isLoop=true) (hlo:lo≤m.lo) (hlr:lo≤r) (hg:Goes w w1) (hw:∀ b,b≠σ.b r→w1.heap[b]?=w.heap[b]?)
  (hn:RowOk σ m.nx w1 r s1):Step K σ m w σ ⟨m.S.set r s1,m.nx,lo⟩ w1:=by
 have b0:s0.blk=true:=by cases s0 <;> first | rfl | cases h0
 have b1:s1.blk=true:=by cases s1 <;> first | rfl | cases h1
 have hget:∀ i,(m.S.set r s1).get i=if i=r then some s1 else m.S.get i:=fun i=>T.get_set _ _ _ _
 have hold:∀ i s,(m.S.set r s1).get i=some s→s.blk=true→∃ s',m.S.get i=some s'∧s'.blk=true:=fun i s hs hsb=>by
  by_cases hi:i=r
  ·subst hi;exact ⟨_,hr,b0⟩
  ·rw [hget,if_neg hi] at hs;exact ⟨s,hs,hsb⟩
 have hother:∀ i s,m.S.get i=some s→s.blk=true→i≠r→σ.b i≠σ.b r:=fun i s hs hsb hi he=>hi (h.inj i r s _ hs hr hsb b0 he)
 have hap:=h.apart r _ hr b0
 refine ⟨Nat.le_refl _,Agree.refl _ _,⟨fun i s hs=>?_,fun i s hs=>?_,fun i j s s' hs hs' hsb hsb' he=>?_,fun g l hg'=>?_,fun i s hs hsb=>?_,fun g l hg'=>Nat.lt_of_lt_of_le (h.low g l hg') hg.size,h.fresh⟩,hg,fun b _ hb=>?_,fun i s _ hs hsb=>hold i s hs hsb,fun i s hi hs hsb=>?_,hlo,fun i s hs hsl=>?_⟩
 ·by_cases hi:i=r
  ·subst hi;rw [hget,if_pos rfl] at hs;cases hs;exact hn
  ·rw [hget,if_neg hi] at hs
   exact (h.row i s hs).keep (Agree.refl _ _) (h.lt i s hs) (Nat.le_refl _) (fun hsb=>hw _ (hother i s hs hsb hi))
 ·by_cases hi:i=r
  ·subst hi;exact h.lt _ _ hr
  ·rw [hget,if_neg hi] at hs;exact h.lt i s hs
 ·obtain ⟨t,ht,htb⟩:=hold i s hs hsb
  obtain ⟨t',ht',htb'⟩:=hold j s' hs' hsb'
  exact h.inj i j t t' ht ht' htb htb' he
 ·exact Co h (fun g l hg2=>hw g (fun he=>by rw [←he,hg2] at hap;cases hap)) g l hg'
 ·obtain ⟨t,ht,htb⟩:=hold i s hs hsb
  exact h.apart i t ht htb
 ·refine hw b fun he=>?_
  have:=hb r _ hr b0 he.symm
  exact absurd (show r<lo from this) (by omega)
 ·obtain ⟨t,ht,_⟩:=hold i s hs hsb
  exact absurd (h.lt i t ht).lt (by omega)
 ·by_cases hi:i=r
  ·subst hi;exact ⟨s1,by rw [hget,if_pos rfl],h1⟩
  ·exact ⟨s,by rw [hget,if_neg hi];exact hs,hsl⟩
theorem Aix (h:Rel K σ m w) {nt:Nat} {tm:Tm} {a:Act} (hT:TmOk σ m.nx a.tmps tm) (hs:a.tmps.size=nt) (fn:FuncId) (ps:Array Tmp) (assign body:Code) (df l:Nat) (hl:w.heap.size≤l) (hg:Goes w w1) (hold:∀ b,b<w.heap.size→w1.heap[b]?=w.heap[b]?)
  (hnew:w1.heap[l]?=some (.loop { state := .ready,pending:=none,fn,tmps:=a.tmps,params:=ps,assign,body,defers:=df })) :
  Step K σ m w (σ.set m.nx l 0 0 (.func (.yield l) #[] #[])) (m.add (.loop .ready none nt tm ps.toList assign body)).1 w1:=by
 have hag:=Env.agree_set σ m.nx l 0 0 (.func (.yield l) #[] #[])
 exact Jz h _ l 0 0 _ hg hold (fun _=>hl) ⟨fn,a.tmps,df,by simp,hs,hT.agree hag (Nat.le_succ _),by simpa using hnew⟩
end
section
variable {P:Program} {K:Nat→Option (List Value)} {b:Bs} {σ τ:Env} {m m1:Mem} {Y Y1:T YRow} {ρ ρ1:Rho} {w w1:World} {F:Fence}
theorem Aw.over (h:Aw K b m Y ρ σ w) {r lo:Nat} {s0:Row} (hr:m.S.get r=some s0) (h0:s0.isLoop=true) (hn:¬b.L r) {o:Obj}:Aw K b ⟨m.S.set r .dead,m.nx,lo⟩ Y ρ σ (w.putObj (σ.b r) o):=by
 have b0:s0.blk=true:=by cases s0 <;> first | rfl | cases h0
 have hlp:∃ q,w.heap[σ.b r]?=some (.loop q):=by
  have:=h.rel.row r s0 hr
  cases s0 <;> first | (cases h0;done) | skip
  obtain ⟨fn,tmps,df,_,_,_,h4⟩:=this
  exact ⟨_,h4⟩
 have hg:Goes w (w.putObj (σ.b r) o):=Km _ _ _
 have hw:∀ g,g≠σ.b r→(w.putObj (σ.b r) o).heap[g]?=w.heap[g]?:=fun g hg=>World.putObj_heap_other hg
 have hget:∀ i s,(m.S.set r .dead).get i=some s→s = .dead∧i=r∨m.S.get i=some s∧i≠r:=fun i s hi=>by
  rw [T.get_set] at hi
  split at hi
  ·rename_i he;cases hi;exact .inl ⟨rfl,he⟩
  ·rename_i he;exact .inr ⟨hi,he⟩
 have hblk:∀ i s,(m.S.set r .dead).get i=some s→s.blk=true→m.S.get i=some s∧i≠r:=fun i s hi hb=>by
  rcases hget i s hi with ⟨rfl,_⟩ | h
  ·cases hb
  ·exact h
 have hother:∀ i s,m.S.get i=some s→s.blk=true→i≠r→σ.b i≠σ.b r:=fun i s hs hsb hi he=>hi (h.rel.inj i r s _ hs hr hsb b0 he)
 have hap:=h.rel.apart r _ hr b0
 obtain ⟨G,hF⟩:=h.y
 have hFk:∀ g j v,G g→w.cell? ⟨g,j,none⟩=some v→(w.putObj (σ.b r) o).cell? ⟨g,j,none⟩=some v:=fun g j v hg' hv=>by
  rw [Cj (hw g fun he=>(hF.dom g hg').2.1 r _ hr b0 he.symm)];exact hv
 have hy:YRel G b.F0 b.wB.heap.size σ ⟨m.S.set r .dead,m.nx,lo⟩ Y (w.putObj (σ.b r) o):=⟨fun g hg'=>⟨Nat.lt_of_lt_of_le (hF.dom g hg').1 hg.size,fun i s hi hb=>(hF.dom g hg').2.1 i s (hblk i s hi hb).1 hb,(hF.dom g hg').2.2⟩,fun i y hi=>⟨(hF.row i y hi).1,(hF.row i y hi).2.keep (hF.row i y hi).1 (Agree.refl _ _) (Nat.le_refl _) hFk fun ho hl=>by
   cases y <;> first | (cases ho;done) | skip
   exact hw _ fun he=>(hF.od i _ _ _ _ hi hl).2.2.2 r _ hr b0 he.symm⟩,fun i e z o' j hi hl=>by
  obtain ⟨h1,h2,h3,h4⟩:=hF.od i e z o' j hi hl
  exact ⟨Nat.lt_of_lt_of_le h1 hg.size,h2,h3,fun q s hq hb=>h4 q s (hblk q s hq hb).1 hb⟩,hF.odi⟩
 refine ⟨⟨fun i s hi=>?_,fun i s hi=>?_,fun i j s s' hi hj hb hb' he=>h.rel.inj i j s s' (hblk i s hi hb).1 (hblk j s' hj hb').1 hb hb' he,Co h.rel (fun q l hq=>hw q fun he=>by rw [←he,hq] at hap;cases hap),fun i s hi hb=>h.rel.apart i s (hblk i s hi hb).1 hb,fun q l hq=>Nat.lt_of_lt_of_le (h.rel.low q l hq) hg.size,h.rel.fresh⟩,
  h.nx,h.agree,h.nx1,h.agree1,h.base,h.goes.trans hg,fun q hq=>?_,fun i s hi hb=>h.own i s (hblk i s hi hb).1 hb,⟨G,hy⟩,h.ag,fun q d hq=>?_,fun i hi=>?_,h.klow⟩
 ·rcases hget i s hi with ⟨rfl,_⟩ | ⟨h1,h2⟩
  ·trivial
  ·exact (h.rel.row i s h1).keep (Agree.refl _ _) (h.rel.lt i s h1) (Nat.le_refl _) fun hsb=>hw _ (hother i s h1 hsb h2)
 ·rcases hget i s hi with ⟨_,rfl⟩ | ⟨h1,_⟩
  ·exact h.rel.lt i _ hr
  ·exact h.rel.lt i s h1
 ·rw [hw q fun he=>by have:=h.own r _ hr b0;omega]
  exact h.frame q hq
 ·have h1:=h.dfr q d hq
  rw [hw q fun he=>by obtain ⟨p,hp⟩:=hlp;rw [←he,h1] at hp;cases hp]
  exact h1
 ·obtain ⟨s,h1,h2⟩:=h.keep i hi
  refine ⟨s,?_,h2⟩
  show (m.S.set r .dead).get i=some s
  rw [T.get_set,if_neg (fun he=>by subst he;exact hn hi)]
  exact h1
end
section
variable {P:Program} {K:Nat→Option (List Value)} {s:St} {ρ:Rho} {Q:Post}
theorem Asa {m m1:Mem} {i:Nat} (h:busyM m i=some m1):∃ p nt tm ps a b,m.S.get i=some (.loop .ready p nt tm ps a b)∧m1=⟨m.S.set i (.loop .busy p nt tm ps a b),m.nx,lower i m.lo⟩:=by
 unfold busyM at h
 split at h
 ·rename_i p nt tm ps a b hr;cases h;exact ⟨p,nt,tm,ps,a,b,hr,rfl⟩
 ·cases h
theorem Ary {m m1:Mem} {i:Nat} {jump:Option Code} (h:doneM m i jump=some m1):∃ st p nt tm ps a b,m.S.get i=some (.loop st p nt tm ps a b)∧m1=⟨m.S.set i (.loop (bif jump.isNone then .ready else .done) jump nt tm ps a b),m.nx,lower i m.lo⟩:=by
 unfold doneM at h
 split at h
 ·rename_i st p nt tm ps a b hr;cases h;exact ⟨st,p,nt,tm,ps,a,b,hr,rfl⟩
 ·cases h
theorem Aq2 {m m1:Mem} {i:Nat} {pd:Option Code} (h:overM m i=some (pd,m1)):∃ st nt tm ps a b,m.S.get i=some (.loop st pd nt tm ps a b)∧st≠.busy∧m1=⟨m.S.set i .dead,m.nx,lower i m.lo⟩:=by
 unfold overM at h
 split at h
 ·cases h
 ·rename_i st pd' nt tm ps a b hne hr;cases h;exact ⟨st,nt,tm,ps,a,b,hr,fun e=>hne e,rfl⟩
 ·cases h
theorem Ap8 {all:Array Oper} {o:Oper} {l:List Oper} {c:Call} {g:Operand} {i nt key:Nat} {p:Option Code} {tm0 tm':Tm} {ps:List Tmp} {ca cb:Code} (hc:s.cur = .ops all (o::l)) (hop:openB all s.tm o=false) (hw:wantW all s.tm o=true) (ho:o.op = .call c) (hg:c.callee = .value g)
  (hgi:ev s.tm g = .v (.c (.clo i))) (hrow:s.m.S.get i=some (.loop .ready p nt tm0 ps ca cb)) (hp:parW nt ps (c.args.toList.map (ev s.tm)) tm0=some tm')
  (k:Sx P K ⟨.code ca,[],tm',s.m,s.Y,nt,key⟩ ρ ⟨fun e tm1 ma Y1 ρ1=>e = .normal∧∃ mb,busyM ma i=some mb∧Sx P K ⟨.code cb,[],tm1,mb,Y1,nt,key⟩ ρ1 ⟨fun e tm2 mc Y2 ρ2=>∃ jump md s',jumpOf e=some jump∧doneM mc i jump=some md ∧
   putS ⟨s.cur,s.ks,s.tm,md,Y2,s.nt,s.key⟩ all o l (.ok (one (.raw (.bool jump.isNone))) md)=some s'∧Sx P K s' ρ2 Q,[]⟩,[]⟩):Sx P K s ρ Q:=by
 refine Fd hc hop hw (fun c' hc'=>by rw [hc'] at ho;cases ho) fun F hF n b hB Qw hQ σ a w hA=>?_
 unfold execOp
 simp only [ho]
 unfold resolve
 rw [Ir hA.tm c.args]
 simp only [hg,(hA.tm.ev a.defers g).1,hgi]
 obtain ⟨fn,tmps,df,hv,hsz,hT,hheap⟩:=hA.aw.rel.row i _ hrow
 have hlti:=hA.aw.rel.lt i _ hrow
 have hval:realW σ (.v (.c (.clo i))) = .func (.yield (σ.b i)) #[] #[]:=by simp only [realW,realV,realC,hv]
 rw [hval]
 show Und F P _ ((Instr.yield (σ.b i) (#[]++((c.args.toList.map (ev s.tm)).map (realW σ)).toArray)).run P w)
 generalize hargs:c.args.toList.map (ev s.tm)=args at hp
 have hal:∀ y∈args,W.lt s.m.nx y:=by rw [←hargs];exact Ny hA.tm c.args
 obtain ⟨hlen,tmps',hfold,hT',hsz'⟩:=Asp (m:=s.m) ps args tm0 tm' tmps hp hT hsz hal
 have hy:=run_yield (P:=P) (args:=#[]++(args.map (realW σ)).toArray) hheap (by simp [hlen])
 rw [hy]
 intro n'
 have hzip:(ps.toArray.zip (#[]++(args.map (realW σ)).toArray)).foldl (fun tmps (t,a)=>tmps.setIfInBounds t a) tmps=tmps':=by
  rw [←hfold,←Array.foldl_toList]
  simp
 simp only
 rw [hzip]
 refine roundIn_of_wpIn (hF.fn fn) ?_
 have hFr:WF (F.inRound (σ.b i)):=⟨hF.fn,hF.depth,hF.alive⟩
 have hRB:RoundB (b.into σ s.m w) (F.inRound (σ.b i)):=fun g hg=>by cases hg;exact ⟨i,⟨_,hrow,rfl⟩,hlti,rfl⟩
 refine k (F.inRound (σ.b i)) hFr n' (b.into σ s.m w) hRB ⟨_,fun _ _ _=>False,fun _ _ _ h=>h⟩ ⟨?_,fun p hp=>by cases hp⟩ σ ⟨tmps',[]⟩ w ⟨hA.aw.into,hT',hsz',⟨[],rfl,List.nodup_nil,fun r hr=>by cases hr⟩⟩
 rintro e tm1 ma Y1 ρ1 key1 σ1 a1 w1 ⟨rfl,mb,hbm,k2⟩ hA1
 obtain ⟨p1,nt1,tmx,ps1,x1,y1,hrow1,rfl⟩:=Asa hbm
 have hb1:σ1.b i=σ.b i:=hA1.aw.agree.b i hlti
 obtain ⟨fn1,tmps1,df1,hv1,hsz1',hT1',hheap1⟩:=hA1.aw.rel.row i _ hrow1
 rw [hb1] at hheap1
 have hbg:=run_beginRound (P:=P) hheap1 rfl
 refine ⟨_,hbg,?_⟩
 have k3:Step K σ1 ma w1 σ1 ⟨ma.S.set i (.loop .busy p1 nt1 tmx ps1 x1 y1),ma.nx,lower i ma.lo⟩ (w1.putObj (σ.b i) _) :=
  Abd hA1.aw.rel hrow1 rfl rfl (Ea _ _).1 (Ea _ _).2 (Km _ _ _) (fun b hb=>World.putObj_heap_other (by rw [←hb1];exact hb))
   ⟨fn1,tmps1,df1,by rw [hb1] at hv1 ⊢;exact hv1,hsz1',hT1',by rw [hb1];exact World.putObj_heap_same (Bw hheap1)⟩
 have hA2:=hA1.step k3 (a':=a1) (tm':=tm1) (hA1.tm.agree (Agree.refl _ _) (Nat.le_refl _)) hA1.nt rfl (.code cb) []
 refine k2 (F.inRound (σ.b i)) hFr n' (b.into σ s.m w) hRB ⟨_,fun _ _ _=>False,fun _ _ _ h=>h⟩ ⟨?_,fun p hp=>by cases hp⟩ σ1 a1 _ (hA2.move rfl rfl rfl rfl)
 rintro e tm2 mc Y2 ρ2 key2 σ2 a2 w2 ⟨jump,md,s',hj,hdm,hput,k4⟩ hA3
 obtain ⟨st,p2,nt2,tmy,ps2,x2,y2,hrow2,rfl⟩:=Ary hdm
 have hb2:σ2.b i=σ.b i:=hA3.aw.agree.b i hlti
 obtain ⟨fn2,tmps2,df2,hv2,hsz2',hT2',hheap2⟩:=hA3.aw.rel.row i _ hrow2
 rw [hb2] at hheap2
 have fin:∃ v w',(Instr.endRound (σ.b i) jump).run P w2 = .ok v w'∧∃ v',Ending.returned v = .returned v'∧den F n P Qw s.ks (.ops all l) (a.put o.dst v') w':=by
  have hen:=run_endRound (P:=P) jump hheap2
  refine ⟨_,_,hen,_,rfl,?_⟩
  have k5:Step K σ2 mc w2 σ2 ⟨mc.S.set i (.loop (bif jump.isNone then .ready else .done) jump nt2 tmy ps2 x2 y2),mc.nx,lower i mc.lo⟩ (w2.putObj (σ.b i) _) :=
   Abd hA3.aw.rel hrow2 rfl rfl (Ea _ _).1 (Ea _ _).2 (Km _ _ _) (fun b hb=>World.putObj_heap_other (by rw [←hb2];exact hb))
    ⟨fn2,tmps2,df2,by rw [hb2] at hv2 ⊢;exact hv2,hsz2',hT2',by rw [hb2,cond_eq_ite];exact World.putObj_heap_same (Bw hheap2)⟩
  have hAw:=hA3.aw.step k5
  unfold putS at hput
  cases hpr:putR s.nt s.tm o.dst (.ok (one (.raw (.bool jump.isNone))) ⟨mc.S.set i (.loop (bif jump.isNone then .ready else .done) jump nt2 tmy ps2 x2 y2),mc.nx,lower i mc.lo⟩) with
  | no=>rw [hpr] at hput;cases hput
  | ok tm3 m3 =>
   rw [hpr] at hput
   cases hput
   obtain ⟨x',hx',hpk⟩:=Ei hpr
   cases hx'
   exact k4 F hF n b hB Qw hQ σ2 _ _ (hA.back hAw (hpk σ2 mc.nx a (hA.tm.agree hAw.agree hAw.nx) hA.nt trivial) (by rw [Bz];exact hA.nt) (Bd _ _ _) _ _)
 cases e <;> first | (cases hj;done) | (cases hj;exact fin)
theorem Ap9 {g:Operand} {ps:Array Tmp} {assign body:Code} {f:FuncId} {gs:List W} {fn:Func} {bf:Code} {key:Nat} (hc:s.cur = .code (.rangeFunc g ps assign body))
  (hf : calleeW (s.m.add (.loop .ready none s.nt s.tm ps.toList assign body)).1 (ev s.tm g) [one (.clo s.m.nx)] = some (f, gs)) (hfn : P.funcs[f]? = some fn) (hname : (fn.name == "runtime.NumGoroutine") = false) (hbody : fn.body = some bf) (hle : gs.length ≤ fn.ntmps)
  (k:Sx P K (startS bf fn.ntmps key gs (s.m.add (.loop .ready none s.nt s.tm ps.toList assign body)).1 s.Y) ρ (Ends P K fn fun _ m' Y' ρ'=>∃ pd m2 cur,overM m' s.m.nx=some (pd,m2)∧curOf pd=some cur∧Sx P K ⟨cur,s.ks,s.tm,m2,Y',s.nt,s.key⟩ ρ' Q)):Sx P K s ρ Q:=by
 intro F hF n b hB Qw hQ σ a w hA
 rw [hc]
 show (Code.rangeFunc g ps assign body).wpIn F n P (after F n P Qw s.ks) a w
 have hd:∀ {p:Prop},(F.depth.isSome=true→p):=fun hq=>by rw [hF.depth] at hq;cases hq
 refine wpIn_rangeFunc fun fid _=>?_
 have hR:=hA.aw.rel
 obtain ⟨rs,q1,q2,q3⟩:=hA.mks
 obtain ⟨lr,mark,w₁,he,hl,hgo,hold,df,hnew,hM1⟩:∃ (lr:Nat) (mark:List Deferred) (w₁:World),(Instr.enterLoop fid a.tmps ps assign body F.round).run P w = .ok (lr,mark) w₁∧w.heap.size≤lr∧Goes w w₁∧(∀ b,b<w.heap.size→w₁.heap[b]?=w.heap[b]?) ∧
   ∃ df,w₁.heap[lr]?=some (.loop { state := .ready,pending:=none,fn:=fid,tmps:=a.tmps,params:=ps,assign,body,defers:=df })∧MarksOk b.wC.heap.size { a with defers:=mark++a.defers } w₁:=by
  have hBs:b.wC.heap.size≤w.heap.size:=hA.aw.goes.size
  cases hro:F.round with
  | none =>
   refine ⟨_,_,_,run_enterLoop_outer fid a.tmps ps assign body,Nat.le_succ _,(Ee w _).trans (Ee _ _),fun b hb=>?_,w.heap.size,?_,w.heap.size::rs,by simp [q1],?_,fun r hrr=>?_⟩
   ·rw [Du _ _ b (by simp;omega),Du _ _ b hb]
   ·have:=World.alloc_heap_new (w.alloc (.deferred (some []))) (.loop { state := .ready,pending:=none,fn:=fid,tmps:=a.tmps,params:=ps,assign,body,defers:=w.heap.size })
    rwa [World.size_alloc] at this
   ·refine List.nodup_cons.2 ⟨fun hm=>?_,q2⟩
    have:=Bw (q3 _ hm).2
    omega
   ·rcases List.mem_cons.1 hrr with rfl | hrr
    ·exact ⟨hBs,by rw [Du _ _ _ (by simp)];exact World.alloc_heap_new w _⟩
    ·obtain ⟨p1,p2⟩:=q3 r hrr
     have:=Bw p2
     exact ⟨p1,by rw [Du _ _ _ (by simp;omega),Du _ _ _ this];exact p2⟩
  | some l0 =>
   obtain ⟨i,r1,r2,r3⟩:=hB l0 hro
   obtain ⟨r0,h1,h2⟩:=hA.aw.keep i r1
   have h3:σ.b i=l0:=by rw [hA.aw.agree.b i r2,r3]
   obtain ⟨lp,hlp⟩:∃ lp,w.heap[l0]?=some (.loop lp):=by
    have:=hR.row i r0 h1
    cases r0 with
    | loop st p nt tm ps ca cb=>obtain ⟨fn,tmps,df,_,_,_,h4⟩:=this;rw [h3] at h4;exact ⟨_,h4⟩
    | _=>cases h2
   refine ⟨_,_,_,run_enterLoop_inner hlp fid a.tmps ps assign body,Nat.le_refl _,Ee w _,fun b hb=>Du _ _ b hb,lp.defers,World.alloc_heap_new w _,rs,by simpa using q1,q2,fun r hrr=>?_⟩
   obtain ⟨p1,p2⟩:=q3 r hrr
   exact ⟨p1,by rw [Du _ _ _ (Bw p2)];exact p2⟩
 have k1:=Aix hR hA.tm hA.nt fid ps assign body df lr hl hgo hold hnew
 have hag:=k1.agree
 have hA1:=hA.aw.step k1
 have hlt:Lt s.m.nx (s.m.add (.loop .ready none s.nt s.tm ps.toList assign body)).1.nx:=hR.ltnx
 obtain ⟨d,c1,c2,c4⟩:=Hw (P:=P) hf k1.rel (fun y hy=>by simp at hy;subst hy;exact hlt)
 have hgv:a.eval g=realW (σ.set s.m.nx lr 0 0 (.func (.yield lr) #[] #[])) (ev s.tm g):=by rw [hag.realW (hA.tm.ev a.defers g).2];exact (hA.tm.ev a.defers g).1
 have hyv:realW (σ.set s.m.nx lr 0 0 (.func (.yield lr) #[] #[])) (one (.clo s.m.nx)) = .func (.yield lr) #[] #[]:=by simp [one,realW,realV,realC]
 refine ⟨lr,mark,w₁,d,w₁,f,_,w₁,he,?_,fun f' _=>hF.fn f',by rw [c2];exact Dr ⟨fn,hfn,hname,by rw [hbody];rfl⟩,hd,(Fz hfn hbody hle k hF (n-1) hA1 c4).mono ?_⟩
 ·rw [List.map_cons,List.map_nil,hyv,←hgv] at c1
  have hcv:a.eval (.const (.func (.yield lr) #[] #[])) = .func (.yield lr) #[] #[]:=rfl
  simp only [resolve,rangeCall,List.map_toArray,List.map_cons,List.map_nil,hcv]
  exact c1
 ·rintro e' w₃ ⟨υ,x,m',Y',ρ',⟨pd,m2,cur,hov,hcur,k3⟩,rfl,hAw,hx⟩
  obtain ⟨st,nt',tm',ps',ca,cb,hrow,hst,rfl⟩:=Aq2 hov
  have hbl:υ.b s.m.nx=lr:=by rw [hAw.agree.b _ hlt];exact Env.set_b _ _ _ _ _ _
  obtain ⟨fn2,tmps2,df2,v1,v2,v3,v4⟩:=hAw.rel.row _ _ hrow
  rw [hbl] at v4
  have hend:=run_endLoop (P:=P) v4 hst
  show ∃ jump w₄,(Instr.endLoop lr).run P w₃ = .ok jump w₄∧_
  refine ⟨_,_,hend,?_⟩
  have hA2:=hA1.back hAw
  have hnl:¬b.L s.m.nx:=fun hh=>by
   obtain ⟨s',h1,_⟩:=hA.aw.keep _ hh
   have:=(hR.lt _ _ h1).lt
   omega
  have hA3:=hA2.over (lo:=lower s.m.nx m'.lo) hrow rfl hnl (o := .loop { state := .exhausted,pending:=pd,fn:=fn2,tmps:=tmps2,params:=ps'.toArray,assign:=ca,body:=cb,defers:=df2 })
  rw [hbl] at hA3
  have hagr:Agree s.m.nx σ υ:=hag.trans k1.nx hAw.agree
  have hnx:s.m.nx≤m'.nx:=Nat.le_trans k1.nx hAw.nx
  have hAt:At K b ⟨cur,s.ks,s.tm,⟨m'.S.set s.m.nx .dead,m'.nx,lower s.m.nx m'.lo⟩,Y',s.nt,s.key⟩ ρ' υ { a with defers:=mark++a.defers } (w₃.putObj lr (.loop { state := .exhausted,pending:=pd,fn:=fn2,tmps:=tmps2,params:=ps'.toArray,assign:=ca,body:=cb,defers:=df2 })):=by
   refine ⟨hA3,hA.tm.agree hagr hnx,hA.nt,?_⟩
   obtain ⟨rs,p1,p2,p3⟩:=hM1
   refine ⟨rs,p1,p2,fun r hrr=>⟨(p3 r hrr).1,?_⟩⟩
   have h3:=hAw.dfr r _ (p3 r hrr).2
   rw [World.putObj_heap_other]
   ·exact h3
   ·rintro rfl
    rw [h3] at v4
    cases v4
  have hgo2:=k3 F hF n b hB Qw hQ υ _ _ hAt
  unfold curOf at hcur
  split at hcur <;> first | (cases hcur;done) | skip
  ·cases hcur;exact hgo2
  ·cases hcur;exact wpIn_ret hgo2
  ·cases hcur;exact wpIn_exit hgo2
  ·cases hcur;exact wpIn_goto hgo2
end
end
end Go.Vc

namespace Go.Vc
section
variable (P:Program)
def methodF (t:TypeId) (x:W) (name:String):Option (FuncId×W):=match P.info? t with
 | none=>none
 | some i=>match i.methods.find? (·.name == name) with
  | some ⟨_,_,path,some (f,pr)⟩=>match followW P path.toList t x with
   | some (xt,y)=>match P.underlying xt,pr with
    | some (.pointer _),true=>some (f,y)
    | some (.pointer _),false=>none
    | none,_=>none
    | some _,true=>none
    | some _,false=>some (f,y)
   | none=>none
  | _=>none
def invokeF (m:Mem) (x:W) (name:String):Option (FuncId×W):=match x with
 | .v (.c (.raw (.iface t v)))=>methodF P t (W.of v) name
 | .v (.c (.ifc t i))=>match m.S.get i with
  | some (.val v)=>methodF P t (.v v) name
  | _=>none
 | _=>none
end
section
variable [H:Holes] {P:Program} {K:Nat→Option (List Value)} {σ τ:Env} {m m1:Mem} {w w1:World} {F:Fence}
theorem Ab5:∀ (l:List FieldStep) (t:Nat) (x y:W) (xt:Nat),followW P l t x=some (xt,y)→x.lt m.nx→(follow l t (.val (realW σ x))).run P w=Result.ok (xt,Place.val (realW σ y)) w∧y.lt m.nx
 | [],t,x,y,xt,h,hx=>by cases h;exact ⟨rfl,hx⟩
 | s::l,t,x,y,xt,h,hx=>by
  unfold followW at h
  rw [cond_eq_ite] at h
  split at h
  ·cases h
  ·rename_i hd
   split at h
   ·rename_i fields cs hu
    split at h
    ·rename_i f hf
     split at h
     ·rename_i z hz
      obtain ⟨h1,h2⟩:=Qr (w:=w) (σ:=σ) hz hx
      obtain ⟨h3,h4⟩:=Ab5 l f.type z y xt h h2
      refine ⟨?_,h4⟩
      have hd':s.deref=false:=by simpa using hd
      have hxr:realW σ (.v (.a cs)) = .agg (cs.map (realC σ)).toArray:=rfl
      rw [hxr]
      simp only [follow,Sem.run_bind,run_underlying hu,Result.andThen_ok,hf,hd',Bool.false_eq_true,if_false,h1]
      exact h3
     ·cases h
    ·cases h
   ·cases h
theorem Aja {t:Nat} {x z:W} {name:String} {f:FuncId} (h:methodF P t x name=some (f,z)) (hx:x.lt m.nx):(method (P.types.size+Made.depth) t (realW σ x) name).run P w = .ok (f,realW σ z) w∧z.lt m.nx:=by
 unfold methodF at h
 split at h
 ·cases h
 ·rename_i i hi
  split at h
  ·rename_i nm sig path f' pr hfind
   split at h
   ·rename_i xt y hfol
    obtain ⟨f1,f2⟩:=Ab5 (σ:=σ) (w:=w) path.toList t x y xt hfol hx
    obtain ⟨k,hk⟩:∃ k,P.types.size+Made.depth=k+1:=⟨P.types.size+99,rfl⟩
    have hti:(typeInfo t).run P w = .ok i w:=by simp [typeInfo,hi]
    split at h
    ·rename_i e hu
     cases h
     refine ⟨?_,f2⟩
     rw [hk]
     simp only [method,Sem.run_bind,hti,Result.andThen_ok,hfind,f1,receiverAt,run_underlying hu,Place.get,Sem.run_pure]
    ·cases h
    ·cases h
    ·cases h
    ·rename_i d hne hu
     cases h
     refine ⟨?_,f2⟩
     rw [hk]
     simp only [method,Sem.run_bind,hti,Result.andThen_ok,hfind,f1,receiverAt,run_underlying hu]
     cases d <;> first | exact absurd rfl (hne _) | simp [Place.get]
   ·cases h
  ·cases h
theorem Ajd {x z:W} {name:String} {f:FuncId} {vs:Array Value} (h:invokeF P m x name=some (f,z)) (hr:Rel K σ m w):(callMethod (realW σ x) name vs).run P w=(callFunc f (#[realW σ z]++vs)).run P w∧z.lt m.nx:=by
 have key:∀ (t:Nat) (y:W) (u:Value),u=realW σ y→y.lt m.nx→methodF P t y name=some (f,z)→(callMethod (.iface t u) name vs).run P w=(callFunc f (#[realW σ z]++vs)).run P w∧z.lt m.nx:=by
  intro t y u hu hy hm
  subst hu
  obtain ⟨g1,g2⟩:=Aja (σ:=σ) (w:=w) hm hy
  refine ⟨?_,g2⟩
  unfold callMethod
  have hprog:(program).run P w = .ok P w:=rfl
  simp only [Sem.run_bind,hprog,Result.andThen_ok,g1]
 unfold invokeF at h
 split at h
 ·rename_i t v
  exact key t (W.of v) v (Et σ v).symm (Nl _ _) h
 ·rename_i t i
  split at h
  ·rename_i v hv
   obtain ⟨h1,h2⟩:=hr.row i _ hv
   exact key t (.v v) (σ.v i) h1 h2 h
  ·cases h
 ·cases h
end
section
variable [H:Holes] {P:Program} {K:Nat→Option (List Value)} {s:St} {ρ:Rho} {Q:Post}
theorem Alq {all:Array Oper} {o:Oper} {l:List Oper} {c:Call} {r:Operand} {name:String} {f:FuncId} {z:W} {fn:Func} {body:Code} {key:Nat} (hc:s.cur = .ops all (o::l)) (hop:openB all s.tm o=false) (hw:wantW all s.tm o=true)
  (ho : o.op = .call c) (hg : c.callee = .invoke r name) (hf : invokeF P s.m (ev s.tm r) name = some (f, z)) (hfn : P.funcs[f]? = some fn) (hname : (fn.name == "runtime.NumGoroutine") = false) (hbody : fn.body = some body) (hle : (z :: c.args.toList.map (ev s.tm)).length ≤ fn.ntmps)
  (k:Sx P K (startS body fn.ntmps key (z::c.args.toList.map (ev s.tm)) s.m s.Y) ρ (Ends P K fn fun x m' Y' ρ'=>∃ s',putS ⟨s.cur,s.ks,s.tm,m',Y',s.nt,s.key⟩ all o l (.ok x m')=some s'∧Sx P K s' ρ' Q)):Sx P K s ρ Q:=by
 refine Fd hc hop hw (fun c' hc'=>by rw [hc'] at ho;cases ho) fun F hF n b hB Qw hQ σ a w hA=>?_
 unfold execOp
 simp only [ho]
 unfold resolve
 rw [Ir hA.tm c.args]
 simp only [hg,(hA.tm.ev a.defers r).1]
 simp only [Sem.run_bind,Sem.run_pure,Result.andThen_ok]
 show Und F P _ ((invoke (.fn (.method name) #[]) (#[realW σ (ev s.tm r)]++((c.args.toList.map (ev s.tm)).map (realW σ)).toArray)).run P w)
 have he:(#[realW σ (ev s.tm r)]++((c.args.toList.map (ev s.tm)).map (realW σ)).toArray)[0]?=some (realW σ (ev s.tm r)):=by simp
 unfold invoke
 simp only [he]
 have hrest:(#[realW σ (ev s.tm r)]++((c.args.toList.map (ev s.tm)).map (realW σ)).toArray).extract 1 (#[realW σ (ev s.tm r)]++((c.args.toList.map (ev s.tm)).map (realW σ)).toArray).size=((c.args.toList.map (ev s.tm)).map (realW σ)).toArray:=by
  simp;exact List.take_of_length_le (by simp)
 rw [hrest]
 obtain ⟨h1,h2⟩:=Ajd (vs:=((c.args.toList.map (ev s.tm)).map (realW σ)).toArray) hf hA.aw.rel
 rw [h1]
 have hlist:(#[realW σ z]++((c.args.toList.map (ev s.tm)).map (realW σ)).toArray)=((z::c.args.toList.map (ev s.tm)).map (realW σ)).toArray:=by simp
 rw [hlist,Dr ⟨fn,hfn,hname,by rw [hbody];rfl⟩]
 intro n'
 refine (Fz hfn hbody hle k hF n' hA.aw (fun q hq=>?_)).mono ?_
 ·rcases List.mem_cons.1 hq with rfl | hq
  ·exact h2
  ·exact Ny hA.tm c.args q hq
 rintro e w' ⟨τ,x,m',Y',ρ',⟨s',hp,ks⟩,rfl,hAw,hx⟩
 refine ⟨_,rfl,?_⟩
 unfold putS at hp
 cases hput:putR s.nt s.tm o.dst (.ok x m') with
 | no=>rw [hput] at hp;cases hp
 | ok tm m2 =>
  rw [hput] at hp
  cases hp
  obtain ⟨x',hx',hpk⟩:=Ei hput
  cases hx'
  exact ks F hF n b hB Qw hQ τ _ w' (hA.back hAw (hpk τ m'.nx a (hA.tm.agree hAw.agree hAw.nx) hA.nt hx) (by rw [Bz];exact hA.nt) (Bd _ _ _) _ _)
end
end Go.Vc

namespace Go.Vc
def pinS (s:St) (t:Tmp) (k:IntKind) (j:Nat):St:=⟨s.cur,s.ks,s.tm.set t (.v (.c (.raw (.int k (Int.ofNat j))))),s.m,s.Y,s.nt,s.key⟩
def pinAll (n:Nat) (f:Nat→Prop):Prop:=Nat.rec True (fun j ih=>ih∧f j) n
theorem Abr {f:Nat→Prop}:∀ {n:Nat},pinAll n f→∀ j,j<n→f j
 | 0,_,j,hj=>absurd hj (Nat.not_lt_zero _)
 | n+1,h,j,hj=>by
  have h':pinAll n f∧f n:=h
  rcases Nat.lt_or_ge j n with hl | hl
  ·exact Abr h'.1 j hl
  ·rw [show j=n by omega];exact h'.2
section
variable [H:Holes] {P:Program} {K:Nat→Option (List Value)} {s s':St} {ρ ρ':Rho} {Q:Post}
theorem Awt {t:Tmp} {k:IntKind} {i n:Nat} (ht:s.tm.get t = .v (.c (.si k i))) (hY:s.Y.get i=some .int) (h0:0≤ρ.n i∧ρ.n i<(n:Int)) (h:∀ j,j<n→ρ.n i=Int.ofNat j→Sx P K (pinS s t k j) ρ Q):Sx P K s ρ Q:=by
 intro F hF nn b hB Qw hQ σ a w hA
 obtain ⟨j,hj⟩:∃ j:Nat,ρ.n i=Int.ofNat j:=⟨(ρ.n i).toNat,by simp;omega⟩
 have hjn:j<n:=by have:=h0.2;rw [hj] at this;simpa using this
 refine h j hjn hj F hF nn b hB Qw hQ σ a w ⟨hA.aw,⟨fun q=>?_,fun q=>?_⟩,hA.nt,hA.mks⟩
 ·show a.tmps.getD q undef=realW σ ((s.tm.set t _).get q)
  rw [Tm.get_set]
  split
  ·rename_i hq
   rw [←hq,hA.tm.get t,ht]
   show Value.int k (σ.r.n i) = .int k (Int.ofNat j)
   rw [show σ.r.n i=ρ.n i from hA.aw.ag i _ hY,hj]
  ·exact hA.tm.get q
 ·show W.lt s.m.nx ((s.tm.set t _).get q)
  rw [Tm.get_set]
  split
  ·trivial
  ·exact hA.tm.lt q
end
end Go.Vc
