import Derived.Test.YtneooimijbfmgaaGreatSsAD
set_option linter.unusedVariables false
set_option linter.unusedSimpArgs false
set_option linter.unusedSectionVars false
noncomputable section
namespace Go.Vc
def calleeW (m:Mem) (f:W) (args:List W):Option (FuncId×List W):=match f with
 | .v (.c (.raw (.func (.func f) a b)))=>bif a.isEmpty && b.isEmpty then some (f,args) else none
 | .v (.c (.clo i))=>match m.S.get i with
  | some (.fn (.func f) first caps)=>some (f,first++args++caps)
  | _=>none
 | _=>none
theorem Hw {H:Holes} {K:Nat→Option (List Value)} {P:Program} {σ:Env} {m:Mem} {w:World} {f:W} {args gs:List W} {g:FuncId} (hr:calleeW m f args=some (g,gs)) (h:@Rel H K σ m w) (hl:∀ y∈args,@W.lt H m.nx y) :
  ∃ d,(Deferred.ofValue (realW σ f) (args.map (realW σ)).toArray).run P w = .ok d w∧(invoke d.target d.args).run P w=(callFunc g (gs.map (realW σ)).toArray).run P w∧∀ y∈gs,@W.lt H m.nx y:=by
 unfold calleeW at hr
 split at hr
 ·rename_i g' a b
  obtain ⟨he,hr⟩:=Aj hr
  cases hr
  simp only [Bool.and_eq_true,Array.isEmpty_iff] at he
  obtain ⟨rfl,rfl⟩:=he
  refine ⟨_,rfl,?_,hl⟩
  show (callFunc g (#[]++(args.map (realW σ)).toArray++#[])).run P w=_
  simp
 ·rename_i i
  split at hr
  ·rename_i g' first caps hrow
   cases hr
   obtain ⟨h1,h2,h3⟩:=@Rel.row H _ _ _ _ h i _ hrow
   have hv:realW σ (.v (.c (.clo i))) = .func (.func g) (first.map (realW σ)).toArray (caps.map (realW σ)).toArray:=by simp only [realW,realV,realC,h1]
   rw [hv]
   refine ⟨_,rfl,?_,fun y hy=>?_⟩
   ·show (callFunc g ((first.map (realW σ)).toArray++(args.map (realW σ)).toArray++(caps.map (realW σ)).toArray)).run P w=_
    simp
   ·simp only [List.mem_append] at hy
    rcases hy with (hy | hy) | hy
    ·exact h2 y hy
    ·exact hl y hy
    ·exact h3 y hy
  ·cases hr
 ·cases hr
section
variable [Holes]
variable {P:Program} {K:Nat→Option (List Value)} {σ τ:Env} {m m1:Mem} {w w1:World} {F:Fence}
theorem Pr:∀ (l:List W) (i:Nat) (t:Tm) (j:Nat),(tmpsW i l t).get j=if i≤j∧j<i+l.length then (l[j-i]?).getD undefW else t.get j
 | [],i,t,j=>by simp only [tmpsW,List.length_nil,Nat.add_zero];rw [if_neg (by omega)]
 | x::l,i,t,j=>by
  rw [tmpsW,Pr l (i+1),Tm.get_set]
  by_cases h:i+1≤j∧j<i+1+l.length
  ·rw [if_pos h,if_pos (by simp;omega),show j-i=(j-(i+1))+1 by omega,List.getElem?_cons_succ]
  ·rw [if_neg h]
   by_cases h1:i=j
   ·subst h1;rw [if_pos rfl,if_pos (by simp)];simp
   ·rw [if_neg h1,if_neg (by simp;omega)]
def tm0:Tm:=⟨[],fun _=>undef⟩
theorem Av8 {args:List W} {n nt:Nat} (hl:∀ a∈args,W.lt n a) (hn:args.length≤nt) :
  TmOk σ n ((args.map (realW σ)).toArray++Array.replicate (nt-(args.map (realW σ)).toArray.size) undef) (tmpsW 0 args tm0)∧((args.map (realW σ)).toArray++Array.replicate (nt-(args.map (realW σ)).toArray.size) undef).size=nt:=by
 have hsz:((args.map (realW σ)).toArray++Array.replicate (nt-(args.map (realW σ)).toArray.size) undef).size=nt:=by simp;omega
 refine ⟨⟨fun t=>?_,fun t=>?_⟩,hsz⟩
 ·rw [Pr,Array.getD_eq_getD_getElem?]
  by_cases h:t<args.length
  ·rw [if_pos (by omega),Array.getElem?_append_left (by simpa using h)]
   simp [h]
  ·rw [if_neg (by omega),Array.getElem?_append_right (by simp;omega)]
   show _=undef
   rw [Array.getElem?_replicate]
   split <;> rfl
 ·rw [Pr]
  split
  ·rename_i h
   cases hx:args[t-0]? with
   | none=>exact Bt _
   | some x=>exact hl x (List.mem_of_getElem? hx)
  ·exact trivial
def resS (tmps:Array Value):ResultVar→Sem Value
 | .tmp t=>pure (tmps.getD t undef)
 | .cell a t=>do loadVar t (←asAddr (tmps.getD a undef))
theorem Al6 (h:Rel K σ m w) {tmps:Array Value} {tm:Tm} (hT:TmOk σ m.nx tmps tm):∀ (rs:List ResultVar) (l:List V),retW P K m tm rs=some l →
  (rs.mapM (resS tmps)).run P w = .ok (l.map (realV σ)) w∧∀ x∈l,V.lt m.nx x
 | [],l,hr=>by cases hr;exact ⟨rfl,fun x hx=>by cases hx⟩
 | .tmp t::rs,l,hr=>by
  have hr':(match tm.get t,retW P K m tm rs with | .v x,some l=>some (x::l) | _,_=>none)=some l:=hr
  split at hr'
  ·rename_i x l' hx hl
   cases hr'
   obtain ⟨h1,h2⟩:=Al6 h hT rs l' hl
   have hv1:=hT.get t
   have hv2:=hT.lt t
   rw [hx] at hv1 hv2
   refine ⟨?_,fun y hy=>?_⟩
   ·have hres:(resS tmps (.tmp t)).run P w = .ok (realV σ x) w:=by
     show (pure (tmps.getD t undef):Sem Value).run P w=_
     rw [hv1];rfl
    simp only [List.mapM_cons,Sem.run_bind,hres,Sem.run_pure,Result.andThen_ok,h1,List.map_cons]
   ·rcases List.mem_cons.1 hy with rfl | hy
    ·exact hv2
    ·exact h2 y hy
  ·cases hr'
 | .cell a t::rs,l,hr=>by
  have hr':(match loadW P K m t (tm.get a),retW P K m tm rs with | some (.v x),some l=>some (x::l) | _,_=>none)=some l:=hr
  split at hr'
  ·rename_i x l' hx hl
   cases hr'
   obtain ⟨h1,h2⟩:=Al6 h hT rs l' hl
   obtain ⟨l1,l2⟩:=Ad8 (P:=P) h hx (hT.lt a)
   have hv1:tmps.getD a undef=realW σ (tm.get a):=hT.get a
   refine ⟨?_,fun y hy=>?_⟩
   ·rw [←hv1] at l1
    have hla:(resS tmps (.cell a t)).run P w = .ok (realV σ x) w:=by
     show (do loadVar t (←asAddr (tmps.getD a undef)):Sem Value).run P w = .ok (realV σ x) w
     revert l1
     cases tmps.getD a undef with
     | pointer p=>cases p <;> intro l1 <;> first | exact l1 | (simp [Instr.loadAt,Instr.sureAddr,stuck] at l1)
     | _=>intro l1;simp [Instr.loadAt,Instr.sureAddr,stuck] at l1
    simp only [List.mapM_cons,Sem.run_bind,hla,Sem.run_pure,Result.andThen_ok,h1,List.map_cons]
   ·rcases List.mem_cons.1 hy with rfl | hy
    ·exact l2
    ·exact h2 y hy
  ·cases hr'
theorem Vj (h:Rel K σ m w) {fn:Func} {tmps:Array Value} {tm:Tm} (hT:TmOk σ m.nx tmps tm) {l:List V} (hr:retW P K m tm fn.results.toList=some l) :
  (results fn tmps).run P w = .ok (realW σ (ret1 l)) w∧W.lt m.nx (ret1 l):=by
 obtain ⟨h1,h2⟩:=Al6 (P:=P) h hT fn.results.toList l hr
 constructor
 ·have hfun:results fn tmps=(do
    let vs ←fn.results.mapM (resS tmps)
    pure (if h:vs.size=1 then vs[0] else .tuple vs)):=by
   unfold results
   congr 1
  rw [hfun,Array.mapM_eq_mapM_toList,map_eq_pure_bind]
  simp only [Sem.run_bind,h1,Result.andThen_ok,Sem.run_pure]
  congr 1
  match l with
  | []=>rfl
  | [x]=>rfl
  | x::y::l=>simp [ret1,realW]
 ·match l with
  | []=>exact fun x hx=>by cases hx
  | [x]=>exact h2 x (by simp)
  | x::y::l=>exact h2
end
section
variable [Holes] {P:Program} {K:Nat→Option (List Value)} {b:Bs} {σ τ:Env} {m m1:Mem} {Y Y1:T YRow} {ρ ρ1:Rho} {w w1:World} {F:Fence}
theorem Av7 (k:Aw K b m Y ρ σ w) {g:Nat} {o:Obj} {q:Option (List Deferred)} (hg0:b.wC.heap.size≤g) (hq:w.heap[g]?=some (.deferred q)):Aw K b m Y ρ σ (w.putObj g o):=by
 have krel:=k.rel
 have hne:∀ i s,m.S.get i=some s→s.blk=true→σ.b i≠g:=fun i s hs hsb he=>by
  have:=krel.row i s hs
  cases s with
  | cells e q' cs=>obtain ⟨arr,a1,_⟩:=this;rw [he,hq] at a1;cases a1
  | loop st p nt tm ps ca cb=>obtain ⟨fn,tmps,df,_,_,_,a4⟩:=this;rw [he,hq] at a4;cases a4
  | map k es c=>have this:w.heap[σ.b i]?=_:=this;rw [he,hq] at this;cases this
  | _=>cases hsb
 have hg:Goes w (w.putObj g o):=⟨rfl,rfl,rfl,by simp [World.putObj]⟩
 have hcell:∀ (g' j:Nat) (v:Value),w.cell? ⟨g',j,none⟩=some v→(w.putObj g o).cell? ⟨g',j,none⟩=some v:=fun g' j v h1=>by
  have hgb:g'≠g:=fun he=>by
   subst he
   rw [World.cell?,hq] at h1
   cases h1
  rw [←h1]
  exact Cj (World.putObj_heap_other hgb) j
 obtain ⟨G,hG⟩:=k.y
 refine ⟨⟨fun i s hs=>(krel.row i s hs).keep (Agree.refl _ _) (krel.lt i s hs) (Nat.le_refl _) (fun hsb=>World.putObj_heap_other (hne i s hs hsb)),krel.lt,krel.inj,fun g' l hg' j v hv=>hcell g' j v (krel.known g' l hg' j v hv),krel.apart,fun g' l hg'=>Nat.lt_of_lt_of_le (krel.low g' l hg') hg.size,krel.fresh⟩,
  k.nx,k.agree,k.nx1,k.agree1,k.base,k.goes.trans hg,fun c hc=>?_,k.own,⟨G,fun g' hg'=>⟨Nat.lt_of_lt_of_le (hG.dom g' hg').1 hg.size,(hG.dom g' hg').2⟩,fun i y hi=>⟨(hG.row i y hi).1,(hG.row i y hi).2.keep (hG.row i y hi).1 (Agree.refl _ _) (Nat.le_refl _) (fun g' j v _ hv=>hcell g' j v hv) fun ho hl=>?_⟩,
   fun i e z o j hi hl=>⟨Nat.lt_of_lt_of_le (hG.od i e z o j hi hl).1 hg.size,(hG.od i e z o j hi hl).2⟩,hG.odi⟩,k.ag,fun c q' hc=>?_,k.keep,k.klow⟩
 ·have:=k.base.size
  rw [World.putObj_heap_other (by omega)]
  exact k.frame c hc
 ·cases y <;> first | (cases ho;done) | skip
  refine World.putObj_heap_other fun he=>?_
  obtain ⟨_,_,a,c,h3,h4⟩:=(hG.row i _ hi).2
  obtain ⟨a',n',c',hl,hl'⟩:=hl
  rcases h4 with ⟨rfl,_⟩ | ⟨_,_,arr,h6,_⟩
  ·rw [h3] at hl;cases hl;omega
  ·rw [he,hq] at h6;cases h6
 ·have:=Bw hc
  rw [World.putObj_heap_other (by omega)]
  exact k.dfr c q' hc
theorem Ag4 {n:Nat} {fn:Func} {tm:Tm} {l:List V} {Rr:Ending→World→Prop} (hr:retW P K m tm fn.results.toList=some l) {tmps:Array Value}
  (hR:∀ w',Aw K b m Y ρ σ w'→Rr (.returned (realW σ (ret1 l))) w'):∀ (rs:List Nat) (w1:World),Aw K b m Y ρ σ w1→TmOk σ m.nx tmps tm→rs.Nodup→(∀ r∈rs,b.wC.heap.size≤r∧w1.heap[r]?=some (.deferred (some []))) →
  LeavesInM F n P fn tmps Rr (rs.map fun r=>({ target := .collected r,args:=#[] }:Deferred)) .returning w1
 | [],w1,k,hT,_,_=>⟨_,(Vj k.rel hT hr).1,hR w1 k⟩
 | r::rs,w1,k,hT,hn,hm=>by
  obtain ⟨h1,h2⟩:=hm r List.mem_cons_self
  refine ⟨by simp, .inl ⟨r,_,rfl,run_takeDeferred (P:=P) h2,?_⟩⟩
  refine Ag4 hr hR rs _ (Av7 k h1 h2) hT (List.nodup_cons.1 hn).2 (fun r' hr'=>⟨(hm r' (List.mem_cons_of_mem _ hr')).1,?_⟩)
  rw [World.putObj_heap_other (fun e=>(List.nodup_cons.1 hn).1 (by rw [←e];exact hr'))]
  exact (hm r' (List.mem_cons_of_mem _ hr')).2
def Bs.into (b:Bs) (σ:Env) (m:Mem) (w:World):Bs:=⟨b.wB,b.F0,σ,m.nx,w,fun i=>∃ s,m.S.get i=some s∧s.isLoop=true,σ,0⟩
theorem Aw.into (h:Aw K b m Y ρ σ w):Aw K (b.into σ m w) m Y ρ σ w :=
 ⟨h.rel,Nat.le_refl _,Agree.refl _ _,Nat.zero_le _,Agree.refl _ _,h.base.trans h.goes,Goes.refl w,h.frame,h.own,h.y,h.ag,fun _ _ h=>h,fun _ h=>h,h.klow⟩
theorem Aw.back (h:Aw K b m Y ρ σ w) (k:Aw K (b.into σ m w) m1 Y1 ρ1 τ w1):Aw K b m1 Y1 ρ1 τ w1 :=
 ⟨k.rel,Nat.le_trans h.nx k.nx,h.agree.trans h.nx k.agree,Nat.le_trans h.nx1 k.nx,h.agree1.trans h.nx1 k.agree,h.base,h.goes.trans k.goes,k.frame,k.own,k.y,k.ag,fun g q hg=>k.dfr g q (h.dfr g q hg),fun i hi=>k.keep i (h.keep i hi),k.klow⟩
theorem At.back {s:St} {a a':Act} (h:At K b s ρ σ a w) (k:Aw K (b.into σ s.m w) m1 Y1 ρ1 τ w1) {tm':Tm} (ht:TmOk τ m1.nx a'.tmps tm') (hs:a'.tmps.size=s.nt) (hd:a'.defers=a.defers) (cur':Cur) (ks':List Kt) :
  At K b ⟨cur',ks',tm',m1,Y1,s.nt,s.key⟩ ρ1 τ a' w1 where
 aw:=h.aw.back k
 tm:=ht
 nt:=hs
 mks:=by
  obtain ⟨rs,q1,q2,q3⟩:=h.mks
  exact ⟨rs,by rw [hd];exact q1,q2,fun r hr=>⟨(q3 r hr).1,k.dfr r _ (q3 r hr).2⟩⟩
end
def Ends (P:Program) (K:Nat→Option (List Value)) (fn:Func) (R:W→Mem→T YRow→Rho→Prop):Post:=⟨fun e tm m Y ρ=>(e = .normal∨e = .ret)∧∃ l,retW P K m tm fn.results.toList=some l∧R (ret1 l) m Y ρ,[]⟩
def startS (c:Code) (nt key:Nat) (args:List W) (m:Mem) (Y:T YRow):St:=⟨.code c,[],tmpsW 0 args tm0,m,Y,nt,key⟩
theorem Fz [H:Holes] {P:Program} {K:Nat→Option (List Value)} {f:FuncId} {fn:Func} {c:Code} {key:Nat} {args:List W} {m:Mem} {Y:T YRow} {ρ:Rho} {R:W→Mem→T YRow→Rho→Prop} (hf:P.funcs[f]?=some fn) (hbody:fn.body=some c) (hle:args.length≤fn.ntmps)
  (hs:Sx P K (startS c fn.ntmps key args m Y) ρ (Ends P K fn R)) {F:Fence} (hF:WF F) (n:Nat) {b:Bs} {σ:Env} {w:World} (hA:Aw K b m Y ρ σ w) (hl:∀ x∈args,W.lt m.nx x) :
  CallsIn F n P f (args.map (realW σ)).toArray w fun e w'=>∃ (τ:Env) (x:W) (m':Mem) (Y':T YRow) (ρ':Rho),R x m' Y' ρ'∧e = .returned (realW τ x)∧Aw K (b.into σ m w) m' Y' ρ' τ w'∧x.lt m'.nx:=by
 obtain ⟨hT,hsz⟩:=Av8 (σ:=σ) hl hle
 have hFp:WF F.plain:=⟨hF.fn,hF.depth,hF.alive⟩
 have key:CallsIn F.plain n P f (args.map (realW σ)).toArray w fun e w'=>∃ (τ:Env) (x:W) (m':Mem) (Y':T YRow) (ρ':Rho),R x m' Y' ρ'∧e = .returned (realW τ x)∧Aw K (b.into σ m w) m' Y' ρ' τ w'∧x.lt m'.nx:=by
  refine callsIn_of_wp_marks hf hbody (hF.fn f) ?_ rfl
  refine Ut (Q':=fun e a w=>(e = .normal∨e = .ret)∧_) (hs F.plain hFp n (b.into σ m w) (fun g hg=>by cases hg) ⟨fun e a w=>(e = .normal∨e = .ret)∧_,fun _ _ _=>False,fun c a w h=>by rcases h.1 with h | h <;> cases h⟩ ⟨?_,fun p hp=>by cases hp⟩ σ _ w ⟨hA.into,hT,hsz,⟨[],rfl,List.nodup_nil,fun r hr=>by cases hr⟩⟩) fun e a w h=>h.2
  rintro e tm m' Y' ρ' key' τ a w1 ⟨he,l,hret,hR⟩ hA1
  refine ⟨he,?_⟩
  obtain ⟨rs,q1,q2,q3⟩:=hA1.mks
  have:=Ag4 (F:=F.plain) (n:=n) (fn:=fn) (Rr:=fun e w'=>∃ (τ:Env) (x:W) (m':Mem) (Y':T YRow) (ρ':Rho),R x m' Y' ρ'∧e = .returned (realW τ x)∧Aw K (b.into σ m w) m' Y' ρ' τ w'∧x.lt m'.nx) hret (tmps:=a.tmps)
   (fun w' k'=>⟨τ,_,m',Y',ρ',hR,rfl,k',(Vj hA1.aw.rel hA1.tm hret).2⟩) rs w1 hA1.aw hA1.tm q2 q3
  rw [←q1] at this
  rcases he with rfl | rfl <;> exact this
 exact key
section
variable [H:Holes] {P:Program} {K:Nat→Option (List Value)} {s:St} {ρ:Rho} {Q:Post}
theorem Alr {all:Array Oper} {o:Oper} {l:List Oper} {c:Call} {g:Operand} {f:FuncId} {gs:List W} {fn:Func} {body:Code} {key:Nat} (hc:s.cur = .ops all (o::l)) (hop:openB all s.tm o=false) (hw:wantW all s.tm o=true)
  (ho : o.op = .call c) (hg : c.callee = .value g) (hf : calleeW s.m (ev s.tm g) (c.args.toList.map (ev s.tm)) = some (f, gs)) (hfn : P.funcs[f]? = some fn) (hname : (fn.name == "runtime.NumGoroutine") = false) (hbody : fn.body = some body) (hle : gs.length ≤ fn.ntmps)
  (k:Sx P K (startS body fn.ntmps key gs s.m s.Y) ρ (Ends P K fn fun x m' Y' ρ'=>∃ s',putS ⟨s.cur,s.ks,s.tm,m',Y',s.nt,s.key⟩ all o l (.ok x m')=some s'∧Sx P K s' ρ' Q)):Sx P K s ρ Q:=by
 refine Fd hc hop hw (fun c' hc'=>by rw [hc'] at ho;cases ho) fun F hF n b hB Qw hQ σ a w hA=>?_
 unfold execOp
 simp only [ho]
 unfold resolve
 rw [Ir hA.tm c.args]
 simp only [hg,(hA.tm.ev a.defers g).1]
 obtain ⟨d,h1,h2,h3⟩:=Hw (P:=P) hf hA.aw.rel (Ny hA.tm c.args)
 show Und F P _ ((do let d ←Deferred.ofValue (realW σ (ev s.tm g)) ((c.args.toList.map (ev s.tm)).map (realW σ)).toArray;invoke d.target d.args:Sem Next).run P w)
 rw [Sem.run_bind,h1,Result.andThen_ok,h2,Dr ⟨fn,hfn,hname,by rw [hbody];rfl⟩]
 intro n'
 refine (Fz hfn hbody hle k hF n' hA.aw h3).mono ?_
 rintro e w' ⟨τ,x,m',Y',ρ',⟨s',hp,ks⟩,rfl,hAw,hx⟩
 refine ⟨_,rfl,?_⟩
 unfold putS at hp
 cases hput:putR s.nt s.tm o.dst (.ok x m') with
 | no=>rw [hput] at hp;cases hp
 | ok tm m2 =>
  rw [hput] at hp
  cases hp
  obtain ⟨x',hx',hpk⟩:=Ei hput
  cases hx'
  exact ks F hF n b hB Qw hQ τ _ w' (hA.back hAw (hpk τ m'.nx a (hA.tm.agree hAw.agree hAw.nx) hA.nt hx) (by rw [Bz];exact hA.nt) (Bd _ _ _) _ _)
end
end Go.Vc

namespace Go.Vc
def kindC:C→Option Kd
 | .raw (.int k _)=>some (.int k)
 | .raw (.bool _)=>some .bool
 | .raw (.string _)=>some .str
 | .raw (.slice ..)=>some .sl
 | _=>none
def kindsC:List C→Option (List Kd)
 | []=>some []
 | c::l=>match kindC c,kindsC l with
  | some k,some ks=>some (k::ks)
  | _,_=>none
def kindsOf (P:Program) (t:TypeId):Option (List Kd):=match zero? P t with
 | some l=>kindsC l
 | none=>none
def Kd.row (own:Bool) (n:Nat):Kd→YRow
 | .int _=>.int
 | .bool=>.bool
 | .str=>.str
 | .sl=>.fz own 0 n
 | .nl=>.dead
def Kd.cell (n:Nat):Kd→C
 | .int k=>.si k n
 | .bool=>.sb n
 | .str=>.ss n
 | .sl=>.fz n
 | .nl=>.raw (.slice none 0 0)
def cellsK:List Kd→Nat→List C
 | [],_=>[]
 | k::ks,n=>k.cell n::cellsK ks (Nat.succ n)
def rowsK (own:Bool):List Kd→Nat→T YRow→T YRow
 | [],_,Y=>Y
 | k::ks,n,Y=>rowsK own ks (Nat.succ n) (Y.set n (k.row own n))
def Mem.up (m:Mem) (n:Nat):Mem:=⟨m.S,n,m.lo⟩
def allK:List Kd→Nat→Rho→(List D→Rho→Prop)→Prop
 | [],_,ρ,k=>k [] ρ
 | .int q::ks,n,ρ,k=>∀ x:Int,allK ks (Nat.succ n) (ρ.setN n x) fun ds ρ=>k (.raw (.int q x)::ds) ρ
 | .bool::ks,n,ρ,k=>∀ x:Bool,allK ks (Nat.succ n) (ρ.setT n x) fun ds ρ=>k (.raw (.bool x)::ds) ρ
 | .str::ks,n,ρ,k=>∀ x:ByteArray,allK ks (Nat.succ n) (ρ.setS n x) fun ds ρ=>k (.raw (.string x)::ds) ρ
 | .sl::ks,n,ρ,k=>∀ x:List (List D),allK ks (Nat.succ n) (ρ.setD n x) fun ds ρ=>k (.fs x::ds) ρ
 | .nl::ks,n,ρ,k=>allK ks (Nat.succ n) ρ fun ds ρ=>k (.raw (.slice none 0 0)::ds) ρ
def rho1 (ρ:Rho) (n:Nat):D→Rho
 | .raw (.int _ x)=>ρ.setN n x
 | .raw (.bool x)=>ρ.setT n x
 | .raw (.string x)=>ρ.setS n x
 | .fs x=>ρ.setD n x
 | _=>ρ
def rhoK:List D→Nat→Rho→Rho
 | [],_,ρ=>ρ
 | d::ds,n,ρ=>rhoK ds (Nat.succ n) (rho1 ρ n d)
theorem Ex:∀ (ks:List Kd) (n:Nat) (ρ:Rho) (k:List D→Rho→Prop),allK ks n ρ k→∀ ds,DKs ks ds→k ds (rhoK ds n ρ)
 | [],n,ρ,k,h,ds,hd=>by cases hd;exact h
 | .int q::ks,n,ρ,k,h,ds,hd=>by
  cases hd with | cons h1 h2=>cases h1;exact Ex ks _ _ _ (h _) _ h2
 | .bool::ks,n,ρ,k,h,ds,hd=>by
  cases hd with | cons h1 h2=>cases h1;exact Ex ks _ _ _ (h _) _ h2
 | .str::ks,n,ρ,k,h,ds,hd=>by
  cases hd with | cons h1 h2=>cases h1;exact Ex ks _ _ _ (h _) _ h2
 | .sl::ks,n,ρ,k,h,ds,hd=>by
  cases hd with | cons h1 h2=>cases h1;exact Ex ks _ _ _ (h _) _ h2
 | .nl::ks,n,ρ,k,h,ds,hd=>by
  cases hd with | cons h1 h2=>cases h1;exact Ex ks _ ρ _ h _ h2
structure RhoEq (n:Nat) (ρ ρ':Rho):Prop where
 rn:∀ j,j<n→ρ'.n j=ρ.n j
 rt:∀ j,j<n→ρ'.t j=ρ.t j
 rs:∀ j,j<n→ρ'.s j=ρ.s j
 rd:∀ j,j<n→ρ'.d j=ρ.d j
theorem Ahv {j i:Nat} (h:j<i):Nat.beq j i=false:=by
 cases hq:Nat.beq j i with
 | true=>have:=Nat.eq_of_beq_eq_true hq;omega
 | false=>rfl
theorem RhoEq.refl (n:Nat) (ρ:Rho):RhoEq n ρ ρ:=⟨fun _ _=>rfl,fun _ _=>rfl,fun _ _=>rfl,fun _ _=>rfl⟩
theorem Ed (ρ:Rho) (n:Nat) (x:Int):RhoEq n ρ (ρ.setN n x):=⟨fun j h=>by simp only [Rho.setN,Ahv h,cond_false],fun _ _=>rfl,fun _ _=>rfl,fun _ _=>rfl⟩
theorem Lq (ρ:Rho) (n:Nat) (x:Bool):RhoEq n ρ (ρ.setT n x):=⟨fun _ _=>rfl,fun j h=>by simp only [Rho.setT,Ahv h,cond_false],fun _ _=>rfl,fun _ _=>rfl⟩
theorem Lr (ρ:Rho) (n:Nat) (x:ByteArray):RhoEq n ρ (ρ.setS n x):=⟨fun _ _=>rfl,fun _ _=>rfl,fun j h=>by simp only [Rho.setS,Ahv h,cond_false],fun _ _=>rfl⟩
theorem Am (ρ:Rho) (n:Nat) (x:List (List D)):RhoEq n ρ (ρ.setD n x):=⟨fun _ _=>rfl,fun _ _=>rfl,fun _ _=>rfl,fun j h=>by simp only [Rho.setD,Ahv h,cond_false]⟩
theorem Adx (ρ:Rho) (n:Nat) (x:Int):(ρ.setN n x).n n=x:=by simp only [Rho.setN,Nat.beq_refl,cond_true]
theorem Adv (ρ:Rho) (n:Nat) (x:Bool):(ρ.setT n x).t n=x:=by simp only [Rho.setT,Nat.beq_refl,cond_true]
theorem Adw (ρ:Rho) (n:Nat) (x:ByteArray):(ρ.setS n x).s n=x:=by simp only [Rho.setS,Nat.beq_refl,cond_true]
theorem Ay (ρ:Rho) (n:Nat) (x:List (List D)):(ρ.setD n x).d n=x:=by simp only [Rho.setD,Nat.beq_refl,cond_true]
section
variable [Holes]
section
variable {K:Nat→Option (List Value)} {b:Bs} {F:Nat→Prop} {B0:Nat} {σ τ:Env} {m:Mem} {Y:T YRow} {w:World} {ρ ρ':Rho} {y:YRow}
theorem Alw (h:Rel K σ m w) (hτ:Agree m.nx σ τ):Step K σ m w τ (m.up (m.nx+1)) w where
 nx:=Nat.le_succ _
 agree:=hτ
 rel:=⟨fun i s hs=>(h.row i s hs).keep hτ (h.lt i s hs) (Nat.le_succ _) (fun _=>rfl),fun i s hs=>(h.lt i s hs).mono (Nat.le_succ _),fun i j r s hr hs hrb hsb he=>h.inj i j r s hr hs hrb hsb (by rw [hτ.b i (h.lt i r hr),hτ.b j (h.lt j s hs)] at he;exact he),h.known,
  fun i r hr hb=>by rw [hτ.b i (h.lt i r hr)];exact h.apart i r hr hb,h.low,fun i hi=>h.fresh i (Nat.le_of_succ_le hi)⟩
 goes:=Goes.refl w
 frame _ _ _:=rfl
 old i r _ hr hb:=⟨r,hr,hb⟩
 new i r hi hr _:=absurd (h.lt i r hr).lt (by omega)
 lo:=Nat.le_refl _
 keep i r hr hl:=⟨r,hr,hl⟩
theorem YAg.rho {i n:Nat} (h:YAg ρ σ i y) (hr:RhoEq n ρ ρ') (hi:i<n) {F:Nat→Prop} {B0:Nat} {w:World} (hk:YOk F B0 σ n w i y):YAg ρ' σ i y:=by
 cases y with
 | int=>exact h.trans (hr.rn i hi).symm
 | bool=>exact h.trans (hr.rt i hi).symm
 | kb b=>exact h.trans (hr.rt i hi).symm
 | str=>exact h.trans (hr.rs i hi).symm
 | fz o c j=>exact h.trans (hr.rd j hk.1.lt).symm
 | od e z o j=>exact h.trans (hr.rd j hk.1.lt).symm
 | _=>trivial
theorem Aw.sym (h:Aw K b m Y ρ σ w) (hF:YRel F b.F0 b.wB.heap.size σ m Y w) (hτ:Agree m.nx σ τ) (ho:y.odB=false) (hk:YOk F b.wB.heap.size τ (m.nx+1) w m.nx y) (hr:RhoEq m.nx ρ ρ') (hag:YAg ρ' τ m.nx y) :
  Aw K b (m.up (m.nx+1)) (Y.set m.nx y) ρ' τ w∧YRel F b.F0 b.wB.heap.size τ (m.up (m.nx+1)) (Y.set m.nx y) w:=by
 have k:=Alw h.rel hτ
 have h1:=h.step k
 have h2:=hF.step k
 have hlt:Lt m.nx (m.up (m.nx+1)).nx:=h.rel.ltnx
 have h3:=h2.add hlt ho hk
 refine ⟨⟨h1.rel,h1.nx,h1.agree,h1.nx1,h1.agree1,h1.base,h1.goes,h1.frame,h1.own,⟨F,h3⟩,fun i x hi=>?_,h1.dfr,h1.keep,h1.klow⟩,h3⟩
 rw [T.get_set] at hi
 split at hi
 ·rename_i he;cases hi;subst he;exact hag
 ·exact ((h.ag i x hi).rho hr (hF.row i x hi).1.lt (hF.row i x hi).2).agree (hF.row i x hi).1 hτ (hF.row i x hi).2
def Env.sym (σ:Env) (i:Nat) (v:Value) (r:Rho):Env:=⟨σ.b,σ.o,σ.k,fun j=>if j=i then v else σ.v j,r⟩
theorem Env.agree_sym (σ:Env) (n:Nat) (v:Value) (r:Rho) (hr:RhoEq n σ.r r):Agree n σ (σ.sym n v r) :=
 ⟨fun _ _=>rfl,fun _ _=>rfl,fun _ _=>rfl,fun i hi=>if_neg (by have:=hi.lt;omega),fun i hi=>hr.rn i hi.lt,fun i hi=>hr.rt i hi.lt,fun i hi=>hr.rs i hi.lt,fun i hi=>hr.rd i hi.lt⟩
theorem Env.sym_v (σ:Env) (n:Nat) (v:Value) (r:Rho):(σ.sym n v r).v n=v:=if_pos rfl
theorem Aw.symD (h:Aw K b m Y ρ σ w) (hF:YRel F b.F0 b.wB.heap.size σ m Y w) {k:Kd} {d:D} {v:Value} {own:Bool} (hd:DK k d) (hv:RD (Fo F b.wB.heap.size own) w d v) :
  ∃ τ,Agree m.nx σ τ∧Aw K b (m.up (m.nx+1)) (Y.set m.nx (k.row own m.nx)) (rho1 ρ m.nx d) τ w∧YRel F b.F0 b.wB.heap.size τ (m.up (m.nx+1)) (Y.set m.nx (k.row own m.nx)) w∧realC τ (k.cell m.nx)=v∧C.lt (m.nx+1) (k.cell m.nx):=by
 have hlt:Lt m.nx (m.nx+1):=h.rel.ltnx
 cases hd with
 | int q x =>
  cases hv
  have ha:=Env.agree_sym σ m.nx (.int q x) (σ.r.setN m.nx x) (Ed _ _ _)
  obtain ⟨h1,h2⟩:=h.sym hF ha (y := .int) rfl trivial (Ed ρ m.nx x) (show (σ.r.setN m.nx x).n m.nx=(ρ.setN m.nx x).n m.nx by rw [Adx,Adx])
  exact ⟨_,ha,h1,h2,congrArg (Value.int q) (Adx _ _ _),hlt⟩
 | bool x =>
  cases hv
  have ha:=Env.agree_sym σ m.nx (.bool x) (σ.r.setT m.nx x) (Lq _ _ _)
  obtain ⟨h1,h2⟩:=h.sym hF ha (y := .bool) rfl trivial (Lq ρ m.nx x) (show (σ.r.setT m.nx x).t m.nx=(ρ.setT m.nx x).t m.nx by rw [Adv,Adv])
  exact ⟨_,ha,h1,h2,congrArg Value.bool (Adv _ _ _),hlt⟩
 | str x =>
  cases hv
  have ha:=Env.agree_sym σ m.nx (.string x) (σ.r.setS m.nx x) (Lr _ _ _)
  obtain ⟨h1,h2⟩:=h.sym hF ha (y := .str) rfl trivial (Lr ρ m.nx x) (show (σ.r.setS m.nx x).s m.nx=(ρ.setS m.nx x).s m.nx by rw [Adw,Adw])
  exact ⟨_,ha,h1,h2,congrArg Value.string (Adw _ _ _),hlt⟩
 | sl x =>
  have ha:=Env.agree_sym σ m.nx v (σ.r.setD m.nx x) (Am _ _ _)
  obtain ⟨h1,h2⟩:=h.sym hF ha (y := .fz own 0 m.nx) rfl ⟨hlt,show RD _ w (.fs ((σ.r.setD m.nx x).d m.nx)) ((σ.sym m.nx v (σ.r.setD m.nx x)).v m.nx) by rw [Ay,Env.sym_v];exact hv,fun h=>absurd rfl h,fun h=>by cases h⟩ (Am ρ m.nx x) (show (σ.r.setD m.nx x).d m.nx=(ρ.setD m.nx x).d m.nx by rw [Ay,Ay])
  refine ⟨_,ha,h1,h2,?_,hlt⟩
  show realC (σ.sym m.nx v (σ.r.setD m.nx x)) (.fz m.nx)=v
  simp only [realC,Env.sym_v]
  cases hv <;> rfl
 | nl =>
  cases hv
  obtain ⟨h1,h2⟩:=h.sym hF (Agree.refl _ _) (y := .dead) rfl trivial (RhoEq.refl _ _) trivial
  exact ⟨σ,Agree.refl _ _,h1,h2,rfl,trivial⟩
end
section
variable {K:Nat→Option (List Value)} {b:Bs} {F:Nat→Prop} {w:World} {own:Bool}
theorem Oz {own:Bool}:∀ (ks:List Kd) (n:Nat) (Y:T YRow) (i:Nat) (y:YRow),(rowsK own ks n Y).get i=some y→y.odB=true→Y.get i=some y
 | [],n,Y,i,y,h,ho=>h
 | k::ks,n,Y,i,y,h,ho=>by
  have:=Oz ks (Nat.succ n) _ i y h ho
  rw [T.get_set] at this
  split at this
  ·cases this;cases k <;> cases ho
  ·exact this
theorem Aw.symK:∀ (ks:List Kd) (ds:List D) (vs:List Value) (n:Nat) {σ:Env} {m:Mem} {Y:T YRow} {ρ:Rho},n=m.nx→Aw K b m Y ρ σ w→YRel F b.F0 b.wB.heap.size σ m Y w→DKs ks ds→vs.length=ds.length →
  (∀ (j:Nat) (d:D) (v:Value),ds[j]?=some d→vs[j]?=some v→RD (Fo F b.wB.heap.size own) w d v) →
  ∃ τ,Agree m.nx σ τ∧Aw K b (m.up (m.nx+ks.length)) (rowsK own ks n Y) (rhoK ds n ρ) τ w∧YRel F b.F0 b.wB.heap.size τ (m.up (m.nx+ks.length)) (rowsK own ks n Y) w∧(cellsK ks n).map (realC τ)=vs∧∀ c∈cellsK ks n,C.lt (m.nx+ks.length) c
 | [],ds,vs,n,σ,m,Y,ρ,hn,h,hF,hd,hl,hr=>by
  cases hd
  have:vs=[]:=List.eq_nil_of_length_eq_zero hl
  subst this
  exact ⟨σ,Agree.refl _ _,h,hF,rfl,fun c hc=>by cases hc⟩
 | k::ks,d::ds,[],n,σ,m,Y,ρ,hn,h,hF,hd,hl,hr=>by cases hl
 | k::ks,d::ds,v::vs,n,σ,m,Y,ρ,hn,h,hF,hd,hl,hr=>by
  cases hd with
  | cons h1 h2 =>
  obtain ⟨τ,k1,k2,k3,k4,k5⟩:=h.symD hF h1 (hr 0 _ _ rfl rfl)
  subst hn
  obtain ⟨υ,j1,j2,j3,j4,j5⟩:=Aw.symK ks ds vs (m.nx+1) (m:=m.up (m.nx+1)) rfl k2 k3 h2 (by simpa using hl) (fun j d v hj hv=>hr (j+1) d v hj hv)
  have e:m.nx+(k::ks).length=(m.nx+1)+ks.length:=by rw [List.length_cons];omega
  rw [e]
  refine ⟨υ,k1.trans (Nat.le_succ _) j1,j2,j3,?_,fun c hc=>?_⟩
  ·show (k.cell m.nx::cellsK ks (m.nx+1)).map (realC υ)=v::vs
   rw [List.map_cons,j4,Agree.realC j1 k5,k4]
  ·rcases List.mem_cons.1 (show c∈k.cell m.nx::cellsK ks (m.nx+1) from hc) with rfl | hc
   ·exact k5.mono (Nat.le_add_right _ _)
   ·exact j5 c hc
end
end
end Go.Vc
