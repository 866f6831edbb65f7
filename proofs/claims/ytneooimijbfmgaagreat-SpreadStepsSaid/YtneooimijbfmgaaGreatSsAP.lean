import Derived.Test.YtneooimijbfmgaaGreatSsAK
import Derived.Test.YtneooimijbfmgaaGreatSsAN
set_option linter.unusedVariables false
set_option linter.unusedSimpArgs false
set_option linter.unusedSectionVars false
noncomputable section
namespace Go.Vc
def lookW (P:Program) (K:Nat→Option (List Value)) (m:Mem) (tm:Tm):Op→Option W
 | .move x=>some (ev tm x)
 | .assign x=>some (ev tm x)
 | .fieldAddr t x f=>fieldAddrW P t (ev tm x) f
 | .load t a=>loadW P K m t (ev tm a)
 | .nilCheck x=>nilCheckW m (ev tm x)
 | .extract t i=>extractW (ev tm t) i
 | .build t ps=>buildW P t (evs tm ps)
 | _=>none
def chainW (P:Program) (K:Nat→Option (List Value)) (ops:Array Oper) (m:Mem) (nt:Nat):List Nat→Tm→Option (List W)
 | [],_=>some []
 | j::js,tm=>match ops[j]? with
  | some o=>match lookW P K m tm o.op,o.dst,o.guard with
   | some x,some d,none=>bif Nat.blt d nt then (match chainW P K ops m nt js (tm.set d x) with
    | some xs=>some (x::xs)
    | none=>none) else none
   | _,_,_=>none
  | none=>none
def bindsOn (o:Oper) (p:Nat→Bool):Bool:=o.after.toList.any fun e=>Region.binds .any e && p e.on
def memN (l:List Nat) (e:Nat):Bool:=l.any (Nat.beq e)
def dstOf (ops:Array Oper) (j:Nat):Option Tmp:=(ops[j]?).bind (·.dst)
def apart2 (ops:Array Oper) (oi oj:Oper):Bool:=(match oj.dst with
 | some e=>!((namesY ops oi).any (Nat.beq e)) && (match oi.dst with
  | some d=>!(Nat.beq d e)
  | none=>true)
 | none=>false) && (match oi.dst with
 | some d=>!((namesY ops oj).any (Nat.beq d))
 | none=>true)
def risB (ops:Array Oper):List Nat→Bool
 | []=>true
 | j::js=>(js.all fun i=>Nat.blt j i && (match ops[j]?,ops[i]? with
  | some oj,some oi=>(match oj.dst,oi.dst with
   | some d,some e=>!(Nat.beq d e) && !((namesY ops oj).any (Nat.beq e)) && (!((namesY ops oi).any (Nat.beq d)) || bindsOn oi (Nat.beq j))
   | _,_=>false)
  | _,_=>false)) && (match ops[j]? with
  | some oj=>(match oj.dst with
   | some d=>!((namesY ops oj).any (Nat.beq d))
   | none=>false)
  | none=>false) && risB ops js
def firstB (ops:Array Oper) (r:Nat) (oi:Oper) (js:List Nat):Bool:=ops.toList.all (fun o=>opB o.op) && (risB ops js && (js.all (fun j=>match ops[j]? with
 | some oj=>Nat.blt r j && (apart2 ops oi oj && !(bindsOn oj fun e=>!(Nat.blt e r || memN js e)))
 | none=>false) && ((List.range ops.size).all (fun j=>Nat.ble j r || memN js j || (match ops[j]? with
 | some oj=>bindsOn oj fun e=>Nat.ble r e && !(memN js e)
 | none=>true)))))
theorem Mc {o:Oper} {p:Nat→Bool} (h:bindsOn o p=true):∃ e∈o.after,Region.binds .any e=true∧p e.on=true:=by
 unfold bindsOn at h
 rw [List.any_eq_true] at h
 obtain ⟨e,h1,h2⟩:=h
 rw [Bool.and_eq_true] at h2
 exact ⟨e,by simpa using h1,h2⟩
theorem Ajy {o:Oper} {p:Nat→Bool} (h:bindsOn o p=false):∀ e∈o.after,Region.binds .any e=true→p e.on=false:=fun e he hb=>by
 cases hq:p e.on with
 | false=>rfl
 | true =>
  have:bindsOn o p=true:=List.any_eq_true.2 ⟨e,by simpa using he,by rw [hb,hq];rfl⟩
  rw [this] at h;cases h
theorem Yn {l:List Nat} {e:Nat}:memN l e=true↔e∈l:=by
 unfold memN
 rw [List.any_eq_true]
 exact ⟨fun ⟨x,h1,h2⟩=>by rw [Nat.eq_of_beq_eq_true h2];exact h1,fun h=>⟨e,h,Nat.beq_refl e⟩⟩
theorem Au5 {l:List Nat} {e:Nat} (h:memN l e=false):¬e∈l:=fun hm=>by rw [Yn.2 hm] at h;cases h
inductive Looks (F:Fence) (P:Program) (ops:Array Oper) (w:World):List Nat→List Value→Act→Prop
 | nil (a:Act):Looks F P ops w [] [] a
 | cons {j:Nat} {o:Oper} {d:Tmp} {v:Value} {js:List Nat} {vs:List Value} {a:Act} (ho:ops[j]?=some o) (hd:o.dst=some d) (hds:d<a.tmps.size) (run:(o.semAt F.round a.eval).run P w = .ok (.value v) w) (hg:o.guard=none) (t:Looks F P ops w js vs (a.put o.dst v)):Looks F P ops w (j::js) (v::vs) a
def starA (ops:Array Oper):List Nat→List Value→Act→Act
 | j::js,v::vs,a=>starA ops js vs (a.put ((ops[j]?).bind (·.dst)) v)
 | _,_,a=>a
section
variable [H:Holes] {P:Program} {K:Nat→Option (List Value)} {s:St} {ρ:Rho} {Q:Post}
theorem Ag1 {F:Fence} {σ:Env} {m:Mem} {w:World} {a:Act} {tm:Tm} {o:Oper} {x:W} (hR:Rel K σ m w) (hT:TmOk σ m.nx a.tmps tm) (h:lookW P K m tm o.op=some x):(o.semAt F.round a.eval).run P w = .ok (.value (realW σ x)) w∧x.lt m.nx∧∀ ρ,o.about P w ρ=none:=by
 have hE:∀ y,a.eval y=realW σ (ev tm y)∧(ev tm y).lt m.nx:=fun y=>hT.ev a.defers y
 unfold lookW at h
 split at h
 ·rename_i y hop
  cases h
  refine ⟨?_,(hE y).2,fun ρ=>by unfold Oper.about;rw [hop]⟩
  rw [←(hE y).1]
  unfold Oper.semAt execOp
  cases F.round <;> simp only [hop] <;> rfl
 ·rename_i y hop
  cases h
  refine ⟨?_,(hE y).2,fun ρ=>by unfold Oper.about;rw [hop]⟩
  rw [←(hE y).1]
  unfold Oper.semAt execOp
  cases F.round <;> simp only [hop] <;> rfl
 ·rename_i t y f hop
  obtain ⟨h1,h2⟩:=Nn (P:=P) (w:=w) (σ:=σ) h (hE y).2
  refine ⟨?_,h2,fun ρ=>by unfold Oper.about;rw [hop]⟩
  rw [←(hE y).1] at h1
  unfold Oper.semAt execOp
  cases F.round <;> simp only [hop] <;> exact An h1
 ·rename_i t y hop
  obtain ⟨h1,h2⟩:=Ad8 (P:=P) hR h (hE y).2
  refine ⟨?_,h2,fun ρ=>by unfold Oper.about;rw [hop]⟩
  rw [←(hE y).1] at h1
  unfold Oper.semAt execOp
  cases F.round <;> simp only [hop] <;> exact An h1
 ·rename_i y hop
  obtain ⟨h1,h2⟩:=Qz (P:=P) hR h (hE y).2
  refine ⟨?_,by rw [h1];exact (hE y).2,fun ρ=>by unfold Oper.about;rw [hop]⟩
  have h3:=h2 o y a.eval hop (hE y).1
  unfold Oper.semAt
  cases F.round with
  | none=>exact h3
  | some l=>simp only [hop];exact h3
 ·rename_i y i hop
  obtain ⟨h1,h2⟩:=Hs (P:=P) (w:=w) (σ:=σ) h (hE y).2
  refine ⟨?_,h2,fun ρ=>by unfold Oper.about;rw [hop]⟩
  rw [←(hE y).1] at h1
  unfold Oper.semAt execOp
  cases F.round <;> simp only [hop] <;> exact An h1
 ·rename_i t ps hop
  obtain ⟨h1,h2⟩:=Ahu (P:=P) (w:=w) (σ:=σ) h (Anw hT ps)
  refine ⟨?_,h2,fun ρ=>by unfold Oper.about;rw [hop]⟩
  rw [←Aej hT] at h1
  unfold Oper.semAt execOp
  cases F.round <;> simp only [hop] <;> exact An h1
 ·cases h
theorem Yp {F:Fence} {σ:Env} {m:Mem} {w:World} {ops:Array Oper} {nt:Nat} (hR:Rel K σ m w):∀ (js:List Nat) (xs:List W) (a:Act) (tm:Tm),TmOk σ m.nx a.tmps tm→a.tmps.size=nt→chainW P K ops m nt js tm=some xs→Looks F P ops w js (xs.map (realW σ)) a∧∀ x∈xs,x.lt m.nx
 | [],xs,a,tm,hT,hs,h=>by cases h;exact ⟨.nil a,fun x hx=>by cases hx⟩
 | j::js,xs,a,tm,hT,hs,h=>by
  unfold chainW at h
  split at h
  ·rename_i o ho
   split at h
   ·rename_i x d hx hd hg
    obtain ⟨hb,h⟩:Nat.blt d nt=true∧(match chainW P K ops m nt js (tm.set d x) with | some xs=>some (x::xs) | none=>none)=some xs:=by
     cases hq:Nat.blt d nt with
     | true=>rw [hq] at h;exact ⟨rfl,h⟩
     | false=>rw [hq] at h;cases h
    split at h
    ·rename_i xs' hxs
     cases h
     obtain ⟨h1,h2,_⟩:=Ag1 (F:=F) (P:=P) (o:=o) hR hT hx
     have hdn:d<nt:=Nat.le_of_ble_eq_true hb
     obtain ⟨h4,h5⟩:=Yp hR js xs' (a.put o.dst (realW σ x)) (tm.set d x) (by rw [hd];exact hT.set h2 (by rw [hs];exact hdn)) (by rw [Bz];exact hs) hxs
     refine ⟨.cons ho hd (by rw [hs];exact hdn) h1 hg h4,fun y hy=>?_⟩
     rcases List.mem_cons.1 hy with rfl | hy
     ·exact h2
     ·exact h5 y hy
    ·cases h
   ·cases h
  ·cases h
end
section
variable {F:Fence} {n:Nat} {P:Program} {ops:Array Oper} {w:World}
theorem psz (a:Act) (d:Option Tmp) (v:Value):(a.put d v).tmps.size=a.tmps.size:=by cases d <;> simp [Act.put]
theorem pdf (a:Act) (d:Option Tmp) (v:Value):(a.put d v).defers=a.defers:=by cases d <;> rfl
theorem Oy {o:Oper} {a a':Act} (hnd:∀ c,o.op≠.defer c) (hns:∀ cs b,o.op≠.select cs b) (h:∀ t,t∈namesY ops o→a'.tmps[t]?=a.tmps[t]?):o.semAt F.round a'.eval=o.semAt F.round a.eval:=by
 have key:∀ ρ,o.semAt F.round ρ=execOp ρ o:=fun ρ=>by
  unfold Oper.semAt
  cases F.round with
  | none=>rfl
  | some l =>
   cases hop:o.op with
   | defer c=>exact absurd hop (hnd c)
   | _=>rfl
 rw [key,key]
 exact execOp_congr o hns fun y hy=>by
  cases y with
  | tmp t =>
   show a'.tmps.getD t undef=a.tmps.getD t undef
   rw [Array.getD_eq_getD_getElem?,Array.getD_eq_getD_getElem?,h t (Gp hy)]
  | _=>rfl
theorem Ad2 (a:Act) {d:Tmp} {v:Value} (hd:d<a.tmps.size) (t:Tmp):(a.put (some d) v).tmps[t]?=if t=d then some v else a.tmps[t]?:=by
 show (a.tmps.setIfInBounds d v)[t]?=_
 rw [Array.getElem?_setIfInBounds]
 by_cases h:d=t
 ·subst h;rw [if_pos rfl,if_pos rfl,if_pos hd]
 ·rw [if_neg h,if_neg (Ne.symm h)]
theorem Fr:∀ (js:List Nat) (vs:List Value) (a:Act) (t:Tmp),(∀ j∈js,∀ d,(ops[j]?).bind (·.dst)=some d→d≠t)→(starA ops js vs a).tmps[t]?=a.tmps[t]?
 | [],vs,a,t,_=>rfl
 | j::js,[],a,t,_=>rfl
 | j::js,v::vs,a,t,h=>by
  show (starA ops js vs (a.put ((ops[j]?).bind (·.dst)) v)).tmps[t]?=_
  rw [Fr js vs _ t fun i hi=>h i (List.mem_cons_of_mem _ hi)]
  refine Eq a _ v t fun he=>?_
  exact h j List.mem_cons_self t he rfl
structure StarOk (F:Fence) (P:Program) (ops:Array Oper) (w:World) (j:Nat) (v:Value) (a:Act):Prop where
 ex:∃ o d,ops[j]?=some o∧o.dst=some d∧(o.semAt F.round a.eval).run P w = .ok (.value v) w∧o.guard=none∧a.tmps[d]?=some v∧d<a.tmps.size
theorem Eh:∀ (js:List Nat) (vs:List Value) (a:Act),(starA ops js vs a).tmps.size=a.tmps.size
 | [],vs,a=>rfl
 | j::js,[],a=>rfl
 | j::js,v::vs,a=>by
  show (starA ops js vs (a.put _ v)).tmps.size=_
  rw [Eh js vs,psz]
theorem Qk (hall:∀ (j:Nat) (oj:Oper),ops[j]?=some oj→(∀ c,oj.op≠.defer c)∧∀ cs b,oj.op≠.select cs b):∀ (js:List Nat) (vs:List Value) (a:Act),Looks F P ops w js vs a→risB ops js=true→∀ (i:Nat) (j:Nat) (v:Value),js[i]?=some j→vs[i]?=some v→StarOk F P ops w j v (starA ops js vs a)
 | _,_,a, .nil _,_,i,j,v,hj,_=>by simp at hj
 | _,_,a, .cons (j:=j0) (o:=o) (d:=d) (v:=v0) (js:=js) (vs:=vs) ho hd hds run hg t,hr,i,j,v,hj,hv=>by
  unfold risB at hr
  simp only [Bool.and_eq_true] at hr
  obtain ⟨⟨r1,r2⟩,r3⟩:=hr
  have hs:starA ops (j0::js) (v0::vs) a=starA ops js vs (a.put o.dst v0):=by
   show starA ops js vs (a.put ((ops[j0]?).bind (·.dst)) v0)=_
   rw [ho];rfl
  rw [hs]
  cases i with
  | succ i=>exact Qk hall js vs _ t r3 i j v (by simpa using hj) (by simpa using hv)
  | zero =>
   simp at hj hv
   subst hj;subst hv
   rw [ho] at r2
   simp only [hd,Bool.not_eq_true'] at r2
   have hlater:∀ i∈js,∀ e,(ops[i]?).bind (·.dst)=some e→d≠e∧¬e∈namesY ops o:=fun i hi e he=>by
    have:=List.all_eq_true.1 r1 i hi
    simp only [Bool.and_eq_true] at this
    obtain ⟨_,this⟩:=this
    cases hoi:ops[i]? with
    | none=>rw [hoi] at he;cases he
    | some oi =>
     rw [ho,hoi] at this
     rw [hoi] at he
     have he:oi.dst=some e:=he
     simp only [hd,he,Bool.and_eq_true,Bool.not_eq_true'] at this
     exact ⟨fun h=>(by rw [h,Nat.beq_refl] at this;cases this.1.1),Ew this.1.2⟩
   refine ⟨o,d,ho,hd,?_,hg,?_,by rw [Eh,psz];exact hds⟩
   ·rw [Oy (ops:=ops) (a:=a) (hall _ o ho).1 (hall _ o ho).2 fun q hq=>?_]
    ·exact run
    ·rw [Fr js vs _ q fun i hi e he hqe=>(hlater i hi e he).2 (by rw [hqe];exact hq),hd]
     exact Eq a (some d) _ q fun he=>by cases he;exact Ew r2 hq
   ·rw [Fr js vs _ d fun i hi e he hqe=>(hlater i hi e he).1 hqe.symm,hd,Ad2 a hds,if_pos rfl]
structure Mix (ops:Array Oper) (done:List Nat) (a b a':Act):Prop where
 size:a'.tmps.size=a.tmps.size
 dfr:a'.defers=a.defers
 yes:∀ j∈done,∀ d,(ops[j]?).bind (·.dst)=some d→a'.tmps[d]?=b.tmps[d]?
 no:∀ t,(∀ j∈done,(ops[j]?).bind (·.dst)≠some t)→a'.tmps[t]?=a.tmps[t]?
theorem Mix.uniq {done:List Nat} {a b c c':Act} (h:Mix ops done a b c) (h':Mix ops done a b c'):c=c':=by
 have:c.tmps=c'.tmps:=Array.ext_getElem? fun t=>by
  by_cases ht:∃ j∈done,(ops[j]?).bind (·.dst)=some t
  ·obtain ⟨j,hj,hd⟩:=ht;rw [h.yes j hj t hd,h'.yes j hj t hd]
  ·have hn:∀ j∈done,(ops[j]?).bind (·.dst)≠some t:=fun j hj hd=>ht ⟨j,hj,hd⟩
   rw [h.no t hn,h'.no t hn]
 obtain ⟨t1,d1⟩:=c
 obtain ⟨t2,d2⟩:=c'
 have e2:d1=d2:=h.dfr.trans h'.dfr.symm
 have this:t1=t2:=this
 rw [this,e2]
theorem Mix.one {done:List Nat} {a b c:Act} {j:Nat} {v:Value} (h:Mix ops done a b c) (hs:StarOk F P ops w j v b) (hsz:b.tmps.size=a.tmps.size):Mix ops (j::done) a b (c.put ((ops[j]?).bind (·.dst)) v):=by
 obtain ⟨o,d,ho,hd,_,_,hv,hlt⟩:=hs.ex
 have e:(ops[j]?).bind (·.dst)=some d:=by rw [ho];exact hd
 have hlt:d<c.tmps.size:=by rw [h.size,←hsz];exact hlt
 refine ⟨by rw [psz];exact h.size,by rw [pdf];exact h.dfr,fun i hi x hx=>?_,fun t ht=>?_⟩
 ·rw [e,Ad2 c hlt]
  split
  ·rename_i hxd;rw [hxd,hv]
  ·rename_i hxd
   rcases List.mem_cons.1 hi with rfl | hi
   ·rw [e] at hx;cases hx;exact absurd rfl hxd
   ·exact h.yes i hi x hx
 ·rw [e,Ad2 c hlt,if_neg fun hxd=>ht j List.mem_cons_self (by rw [e,hxd])]
  exact h.no t fun i hi=>ht i (List.mem_cons_of_mem _ hi)
theorem Mix.put {done:List Nat} {a b c:Act} {d:Option Tmp} {u:Value} {ds:List Deferred} (h:Mix ops done a b c) (hd:∀ x,d=some x→x<a.tmps.size→∀ j∈done,(ops[j]?).bind (·.dst)≠some x):Mix ops done (({ a with defers:=ds }:Act).put d u) (({ b with defers:=ds }:Act).put d u) (({ c with defers:=ds }:Act).put d u):=by
 cases d with
 | none=>exact ⟨h.size,rfl,h.yes,h.no⟩
 | some d =>
  refine ⟨by rw [psz,psz];exact h.size,rfl,fun j hj x hx=>?_,fun t ht=>?_⟩
  ·by_cases hxd:d=x
   ·subst hxd
    by_cases hlt:d<a.tmps.size
    ·exact absurd hx (hd d rfl hlt j hj)
    ·show (c.tmps.setIfInBounds d u)[d]?=(b.tmps.setIfInBounds d u)[d]?
     rw [Array.getElem?_setIfInBounds,Array.getElem?_setIfInBounds,if_pos rfl,if_pos rfl]
     have h1:¬d<c.tmps.size:=by rw [h.size];exact hlt
     rw [if_neg h1]
     have:=h.yes j hj d hx
     rw [Array.getElem?_eq_none (Nat.le_of_not_lt h1)] at this
     by_cases hb:d<b.tmps.size
     ·rw [Array.getElem?_eq_getElem hb] at this;cases this
     ·rw [if_neg hb]
   ·rw [Eq _ (some d) u x (fun he=>hxd (by cases he;rfl)),Eq _ (some d) u x (fun he=>hxd (by cases he;rfl))]
    exact h.yes j hj x hx
  ·show (c.tmps.setIfInBounds d u)[t]?=(a.tmps.setIfInBounds d u)[t]?
   rw [Array.getElem?_setIfInBounds,Array.getElem?_setIfInBounds,h.no t ht]
   by_cases he:d=t
   ·subst he;rw [if_pos rfl,if_pos rfl]
    simp only [h.size]
   ·rw [if_neg he,if_neg he]
def AfterX (F:Fence) (n:Nat) (P:Program) (ops:Array Oper) (Q:Exit→Act→World→Prop) (r:Nat) (js:List Nat) (vs:List Value) (b:Act) (w:World):Prop :=
 Looks F P ops w js vs b∧∀ (fuel:Nat) (L:Array Bool),L.size=ops.size→(∀ k,L.getD k false=decide (k<r+1))→ops.size≤fuel+(r+1)→wpAnyIn F n P .any ops Q fuel L b w
inductive Valid (ops:Array Oper) (r:Nat):List Nat→Prop
 | nil:Valid ops r []
 | cons {j:Nat} {o:Oper} {done:List Nat} (ho:ops[j]?=some o) (hr:r<j) (hn:¬j∈done) (he:∀ e∈o.after,Region.binds .any e=true→e.on<r∨e.on∈done) (t:Valid ops r done):Valid ops r (j::done)
theorem Aky {o:Oper} {a a':Act} {next next':Act→World→Prop} {Q Q':Exit→Act→World→Prop} {res:Result Next} (hn:∀ ds v w',next (({ a with defers:=ds }:Act).put o.dst v) w'→next' (({ a' with defers:=ds }:Act).put o.dst v) w') (hd:a'.defers=a.defers) (hq:∀ e a w,Q e a w→e = .normal) (h:o.uponIn F n P a next Q res):o.uponIn F n P a' next' Q' res:=by
 have key:∀ v w',next (a.put o.dst v) w'→next' (a'.put o.dst v) w':=fun v w' hk=>by
  have:=hn a.defers v w' hk
  have e:({ a' with defers:=a.defers }:Act)=a':=by rw [←hd]
  rw [e] at this
  exact this
 have hp:∀ c a w,¬Q (.panic c) a w:=fun c a w h=>by cases hq _ _ _ h
 have hl:¬LetsOut Q:=fun ⟨a,w,h⟩=>by cases hq _ _ _ h
 unfold Oper.uponIn at h ⊢
 cases res with
 | halt x w'=>cases x <;> first | exact absurd h (hp _ _ _) | exact h.elim
 | ok x w' =>
  cases x with
  | value v=>exact key v w' h
  | skip=>exact key undef w' h
  | defer d =>
   have h':next (({ a with defers:=d::a.defers }:Act).put o.dst undef) w':=h
   have:=hn (d::a.defers) undef w' h'
   show next' (({ a' with defers:=d::a'.defers }:Act).put o.dst undef) w'
   rw [hd]
   exact this
  | enter f args=>exact ⟨h.1,h.2.mono fun e w2 h2=>by
    cases e with
    | returned v=>exact key v w2 h2
    | panicked c=>exact absurd h2 (hp _ _ _)
    | outgrown=>exact absurd h2 hl⟩
  | row row args=>exact ⟨h.1,h.2.mono fun v w2 h2=>key v w2 h2⟩
  | round l f tmps assign body=>exact ⟨h.1,h.2.mono fun e w2 h2=>by
    cases e with
    | returned v=>exact key v w2 h2
    | panicked c=>exact absurd h2 (hp _ _ _)
    | outgrown=>exact absurd h2 hl⟩
  | _=>exact h.elim
theorem Ag3:∀ (N:Nat) (l:List Nat),l.Nodup→(∀ x∈l,x<N)→l.length≤N
 | 0,[],_,_=>Nat.le_refl _
 | 0,x::l,_,h=>absurd (h x List.mem_cons_self) (Nat.not_lt_zero _)
 | N+1,l,hn,h=>by
  by_cases hm:N∈l
  ·have h1:=Ag3 N (l.erase N) (hn.erase N) fun x hx=>by
    have h2:=h x (List.mem_of_mem_erase hx)
    have h3:x≠N:=fun e=>by subst e;exact (List.Nodup.not_mem_erase hn) hx
    omega
   rw [List.length_erase_of_mem hm] at h1
   omega
  ·have:=Ag3 N l hn fun x hx=>by
    have h2:=h x hx
    have h3:x≠N:=fun e=>hm (e▸hx)
    omega
   omega
theorem Valid.nodup {r:Nat} {done:List Nat} (h:Valid ops r done):done.Nodup∧∀ j∈done,r<j∧j<ops.size:=by
 induction h with
 | nil=>exact ⟨List.nodup_nil,fun j hj=>by cases hj⟩
 | cons ho hr hn _ _ ih=>exact ⟨List.nodup_cons.2 ⟨hn,ih.1⟩,fun j hj=>by
   rcases List.mem_cons.1 hj with rfl | hj
   ·exact ⟨hr,(Array.getElem?_eq_some_iff.1 ho).1⟩
   ·exact ih.2 j hj⟩
theorem Valid.len {r:Nat} {done:List Nat} (h:Valid ops r done) (hr:r<ops.size):done.length+r+1≤ops.size:=by
 obtain ⟨h1,h2⟩:=h.nodup
 have:=Ag3 ops.size (done++List.range (r+1)) (List.nodup_append.2 ⟨h1,List.nodup_range,fun a ha b hb he=>by
  have:=(h2 a ha).1;have:=List.mem_range.1 hb;omega⟩) fun x hx=>by
  rcases List.mem_append.1 hx with hx | hx
  ·exact (h2 x hx).2
  ·have:=List.mem_range.1 hx;omega
 rw [List.length_append,List.length_range] at this
 omega
theorem Xy:∀ (js:List Nat),risB ops js=true→∀ j∈js,∀ oj,ops[j]?=some oj→∀ t∈namesY ops oj,∀ i∈js,(ops[i]?).bind (·.dst)=some t→bindsOn oj (Nat.beq i)=true
 | [],_,j,hj,_,_,_,_,_,_,_=>by cases hj
 | k::js,h,j,hj,oj,hoj,t,ht,i,hi,hd=>by
  unfold risB at h
  simp only [Bool.and_eq_true] at h
  obtain ⟨⟨r1,r2⟩,r3⟩:=h
  rcases List.mem_cons.1 hj with rfl | hjm
  ·rw [hoj] at r2
   dsimp only at r2
   cases hdj:oj.dst with
   | none=>rw [hdj] at r2;cases r2
   | some d =>
    rw [hdj] at r2
    simp only [Bool.not_eq_true'] at r2
    rcases List.mem_cons.1 hi with rfl | him
    ·rw [hoj] at hd
     have hd:oj.dst=some t:=hd
     rw [hdj] at hd;cases hd
     exact absurd ht (Ew r2)
    ·have:=List.all_eq_true.1 r1 i him
     simp only [Bool.and_eq_true] at this
     obtain ⟨_,this⟩:=this
     cases hoi:ops[i]? with
     | none=>rw [hoi] at hd;cases hd
     | some oi =>
      rw [hoi] at hd
      have hd:oi.dst=some t:=hd
      rw [hoj,hoi] at this
      simp only [hdj,hd,Bool.and_eq_true,Bool.not_eq_true'] at this
      exact absurd ht (Ew this.1.2)
  ·rcases List.mem_cons.1 hi with rfl | him
   ·have:=List.all_eq_true.1 r1 j hjm
    simp only [Bool.and_eq_true] at this
    obtain ⟨_,this⟩:=this
    cases hoi:ops[i]? with
    | none=>rw [hoi] at hd;cases hd
    | some oi =>
     rw [hoi] at hd
     have hd:oi.dst=some t:=hd
     rw [hoi,hoj] at this
     dsimp only at this
     cases hdj:oj.dst with
     | none=>rw [hd,hdj] at this;cases this
     | some d =>
      simp only [hdj,hd,Bool.and_eq_true,Bool.or_eq_true,Bool.not_eq_true'] at this
      rcases this.2 with h | h
      ·exact absurd ht (Ew h)
      ·exact h
   ·exact Xy js r3 j hjm oj hoj t ht i him hd
structure JsOk (ops:Array Oper) (r:Nat) (o:Oper) (js:List Nat):Prop where
 ris:risB ops js=true
 one:∀ j∈js,∃ oj dj,ops[j]?=some oj∧oj.dst=some dj∧r<j∧¬dj∈namesY ops o∧o.dst≠some dj∧(∀ d,o.dst=some d→¬d∈namesY ops oj)∧∀ e∈oj.after,Region.binds .any e=true→e.on<r∨e.on∈js
 out:∀ (j:Nat) (oj:Oper),ops[j]?=some oj→r<j→¬j∈js→∃ e∈oj.after,Region.binds .any e=true∧r≤e.on∧¬e.on∈js
 all:∀ (j:Nat) (oj:Oper),ops[j]?=some oj→(∀ c,oj.op≠.defer c)∧∀ cs b,oj.op≠.select cs b
 back:∀ (j:Nat) (o:Oper),ops[j]?=some o→∀ e∈o.after,Region.binds .any e=true→e.on<j
theorem Looks.len {js:List Nat} {vs:List Value} {a:Act} (h:Looks F P ops w js vs a):vs.length=js.length:=by
 induction h with
 | nil=>rfl
 | cons _ _ _ _ _ _ ih=>simp [ih]
theorem Amr {r:Nat} {o:Oper} {js:List Nat} {vs:List Value} {a c:Act} {done:List Nat} (J:JsOk ops r o js) (hlk:Looks F P ops w js vs a) (hm:Mix ops done a (starA ops js vs a) c) (hsub:∀ i∈done,i∈js) {j:Nat} (hj:j∈js) (hdeps:∀ oj,ops[j]?=some oj→∀ e∈oj.after,Region.binds .any e=true→e.on<r∨e.on∈done) :
  ∃ (v:Value) (oj:Oper),ops[j]?=some oj∧StarOk F P ops w j v (starA ops js vs a)∧(oj.semAt F.round c.eval).run P w = .ok (.value v) w∧oj.guard=none:=by
 obtain ⟨i,hi⟩:=List.mem_iff_getElem?.1 hj
 have hvl:=hlk.len
 have hil:i<vs.length:=by rw [hvl];exact (List.getElem?_eq_some_iff.1 hi).1
 have hs:=Qk J.all js vs a hlk J.ris i j _ hi (List.getElem?_eq_getElem hil)
 have hs':=hs
 obtain ⟨oj,d,ho,hd,hrun,hg,_,_⟩:=hs.ex
 refine ⟨_,oj,ho,hs',?_,hg⟩
 rw [Oy (ops:=ops) (a:=starA ops js vs a) (J.all j oj ho).1 (J.all j oj ho).2 fun t ht=>?_]
 ·exact hrun
 ·by_cases hq:∃ i∈js,(ops[i]?).bind (·.dst)=some t
  ·obtain ⟨i2,hi2,hd2⟩:=hq
   obtain ⟨e,he,hb,hqe⟩:=Mc (Xy js J.ris j hj oj ho t ht i2 hi2 hd2)
   have hqe:=Nat.eq_of_beq_eq_true hqe
   rcases hdeps oj ho e he hb with h | h
   ·obtain ⟨_,_,_,_,hr,_⟩:=J.one i2 hi2
    omega
   ·exact hm.yes i2 (hqe▸h) t hd2
  ·have hn:∀ i∈js,(ops[i]?).bind (·.dst)≠some t:=fun i hi hd=>hq ⟨i,hi,hd⟩
   have hn2:∀ i∈js,∀ x,(ops[i]?).bind (·.dst)=some x→x≠t:=fun i hi x hx e=>hn i hi (e▸hx)
   rw [Fr js vs a t hn2]
   exact hm.no t fun i hi hd=>hn i (hsub i hi) hd
theorem Aql {L:Array Bool} {i:Nat} (hi:i<L.size) (h:L.getD i false=true):(L.setIfInBounds i false).setIfInBounds i true=L:=by
 refine Array.ext_getElem? fun k=>?_
 rw [Array.getElem?_setIfInBounds]
 by_cases hk:i=k
 ·subst hk
  rw [if_pos rfl]
  simp only [Array.size_setIfInBounds,hi,if_true]
  rw [Array.getD_eq_getD_getElem?,Array.getElem?_eq_getElem hi] at h
  simp at h
  rw [Array.getElem?_eq_getElem hi,h]
 ·rw [if_neg hk,Array.getElem?_setIfInBounds,if_neg hk]
theorem Ag8 {L:Array Bool} {i:Nat} (k:Nat):(L.setIfInBounds i false).getD k false=(if k=i then false else L.getD k false):=by
 rw [Array.getD_eq_getD_getElem?,Array.getElem?_setIfInBounds]
 by_cases hk:i=k
 ·subst hk
  rw [if_pos rfl,if_pos rfl]
  by_cases hl:i<L.size <;> simp [hl]
 ·rw [if_neg hk,if_neg (Ne.symm hk),Array.getD_eq_getD_getElem?]
theorem Agi {Q:Exit→Act→World→Prop} {r:Nat} {o:Oper} {js:List Nat} {vs:List Value} {b:Act} (J:JsOk ops r o js) (h:AfterX F n P ops Q r js vs b w):∀ (done:List Nat),Valid ops r done→(∀ i∈done,i∈js)→∃ c,Mix ops done b (starA ops js vs b) c∧∀ (fuel:Nat) (L:Array Bool),L.size=ops.size→(∀ k,L.getD k false=(decide (k<r+1) || decide (k∈done)))→ops.size≤fuel+(r+1)+done.length→wpAnyIn F n P .any ops Q fuel L c w
 | [],_,_=>⟨b,⟨rfl,rfl,fun j hj=>(by cases hj),fun _ _=>rfl⟩,fun fuel L hL hk hf=>h.2 fuel L hL (fun k=>by rw [hk k];simp only [List.not_mem_nil,decide_false,Bool.or_false]) (by simpa using hf)⟩
 | j::done,hv,hsub=>by
  cases hv with
  | cons ho hr hn he t =>
  rename_i oj
  obtain ⟨c,hm,hc⟩:=Agi J h done t fun i hi=>hsub i (List.mem_cons_of_mem _ hi)
  obtain ⟨v,oj',ho',hs,hrun,hg⟩:=Amr J h.1 hm (fun i hi=>hsub i (List.mem_cons_of_mem _ hi)) (hsub j List.mem_cons_self) (fun x hx=>by rw [ho] at hx;cases hx;exact he)
  rw [ho] at ho';cases ho'
  have hjs:=(Array.getElem?_eq_some_iff.1 ho).1
  refine ⟨c.put ((ops[j]?).bind (·.dst)) v,hm.one hs (Eh js vs b),fun fuel L hL hk hf=>?_⟩
  have hj1:L.getD j false=true:=by rw [hk j];simp
  have h0:∀ k,(L.setIfInBounds j false).getD k false=(decide (k<r+1) || decide (k∈done)):=fun k=>by
   rw [Ag8 k]
   split
   ·rename_i hkj
    subst hkj
    have e1:¬k<r+1:=by omega
    simp [e1,hn]
   ·rename_i hkj
    rw [hk k]
    simp [List.mem_cons,hkj]
  have h3:=hc (fuel+1) (L.setIfInBounds j false) (by simp [hL]) h0 (by simp at hf;omega)
  have hrd:j∈Region.ready .any ops (L.setIfInBounds j false):=mem_ready.2 ⟨getD_in (by simp [hL];exact hjs) (by rw [Ag8,if_pos rfl]),oj,ho,fun e hee hb=>by
   rw [h0 e.on]
   rcases he e hee hb with h | h
   ·simp;left;omega
   ·simp [h]⟩
  have h4:=h3.2 j hrd
  unfold wpOpIn at h4
  rw [ho] at h4
  simp only at h4
  rw [if_pos (by unfold Region.wanted;rw [hg])] at h4
  have h5:=h4.2
  rw [hrun] at h5
  have h5:wpAnyIn F n P .any ops Q fuel ((L.setIfInBounds j false).setIfInBounds j true) (c.put oj.dst v) w:=h5
  rw [Aql (by rw [hL];exact hjs) hj1] at h5
  rw [ho]
  exact h5
theorem Arp {Q Q0:Exit→Act→World→Prop} {r:Nat} {o:Oper} {js:List Nat} {vs:List Value} {a:Act} (hF:WF F) (J:JsOk ops r o js) (ho:ops[r]?=some o) (hg:o.guard=none) (hlk:Looks F P ops w js vs a) (hq:∀ e a w,Q0 e a w→e = .normal) (hX:o.wpIn F n P a w (fun b w'=>AfterX F n P ops Q r js vs b w') Q0) :
  ∀ (fuel:Nat) (done:List Nat) (a':Act) (listed:Array Bool),Valid ops r done→(∀ i∈done,i∈js)→Mix ops done a (starA ops js vs a) a'→listed.size=ops.size→(∀ k,listed.getD k false=(decide (k<r) || decide (k∈done)))→ops.size≤fuel+r+done.length→wpAnyIn F n P .any ops Q fuel listed a' w:=by
 have hrs:=(Array.getElem?_eq_some_iff.1 ho).1
 intro fuel
 induction fuel with
 | zero =>
  intro done a' listed hv hsub hm hs hl hf
  have:=hv.len hrs
  omega
 | succ fuel ih =>
  intro done a' listed hv hsub hm hs hl hf
  have hrd:r∈Region.ready .any ops listed:=mem_ready.2 ⟨getD_in (by rw [hs];exact hrs) (by rw [hl r];simp;intro h;have:=(hv.nodup.2 r h).1;omega),o,ho,fun e he hbd=>by
   have:=J.back r o ho e he hbd
   rw [hl e.on];simp;exact .inl this⟩
  refine ⟨fun h=>absurd hrd (by rw [h];exact fun h=>by cases h),fun i hi=>?_⟩
  obtain ⟨g1,oi,g2,g3⟩:=mem_ready.1 hi
  have hnl:listed.getD i false=false:=getD_both g1
  rw [hl i] at hnl
  simp at hnl
  have hdeps:∀ e∈oi.after,Region.binds .any e=true→e.on<r∨e.on∈done:=fun e he hb=>by
   have:=g3 e he hb
   rw [hl e.on] at this
   simpa using this
  by_cases hir:i=r
  ·subst hir
   rw [ho] at g2;cases g2
   unfold wpOpIn
   rw [ho]
   simp only
   rw [if_pos (by unfold Region.wanted;rw [hg])]
   have hdn:∀ t,t∈namesY ops o→a'.tmps[t]?=a.tmps[t]?:=fun t ht=>hm.no t fun j hj hd=>by
    obtain ⟨oj,dj,h1,h2,_,h4,_⟩:=J.one j (hsub j hj)
    rw [h1] at hd
    have hd:oj.dst=some t:=hd
    rw [h2] at hd;cases hd
    exact h4 ht
   refine ⟨fun f _=>hF.fn f,?_⟩
   rw [Oy (ops:=ops) (a:=a) (J.all i o ho).1 (J.all i o ho).2 hdn]
   refine Aky (fun ds v w' hA=>?_) hm.dfr hq hX.2
   obtain ⟨c,hc1,hc2⟩:=Agi J hA done hv hsub
   have hput:=hm.put (d:=o.dst) (u:=v) (ds:=ds) fun x hx _ j hj hd=>by
    obtain ⟨oj,dj,h1,h2,_,_,h5,_⟩:=J.one j (hsub j hj)
    rw [h1] at hd
    have hd:oj.dst=some x:=hd
    rw [h2] at hd;cases hd
    exact h5 hx
   have hmix:Mix ops done (({ a with defers:=ds }:Act).put o.dst v) (starA ops js vs (({ a with defers:=ds }:Act).put o.dst v)) (({ a' with defers:=ds }:Act).put o.dst v):=by
    refine ⟨hput.size,hput.dfr,fun j hj d hd=>?_,hput.no⟩
    rw [hput.yes j hj d hd]
    -- both are what j comes to
    obtain ⟨q,hq1⟩:=List.mem_iff_getElem?.1 (hsub j hj)
    have hql:q<vs.length:=by rw [hlk.len];exact (List.getElem?_eq_some_iff.1 hq1).1
    obtain ⟨o1,d1,k1,k2,_,_,k6,k7⟩:=(Qk J.all js vs a hlk J.ris q j _ hq1 (List.getElem?_eq_getElem hql)).ex
    obtain ⟨o2,d2,l1,l2,_,_,l6,_⟩:=(Qk J.all js vs _ hA.1 J.ris q j _ hq1 (List.getElem?_eq_getElem hql)).ex
    rw [k1] at l1;cases l1
    rw [k2] at l2;cases l2
    rw [k1] at hd
    have hd:o1.dst=some d:=hd
    rw [k2] at hd;cases hd
    rw [l6]
    obtain ⟨oj,dj,m1,m2,_,_,m5,_⟩:=J.one j (hsub j hj)
    rw [k1] at m1;cases m1
    rw [k2] at m2;cases m2
    rw [Eq _ o.dst v d fun he=>m5 he]
    exact k6
   rw [hmix.uniq hc1]
   refine hc2 fuel _ (by simp [hs]) (fun k=>?_) (by omega)
   rw [Cm (by rw [hs];exact hrs) k,hl k]
   by_cases h1:k<i
   ·simp [h1];left;omega
   ·by_cases h2:k=i
    ·simp [h2]
    ·simp only [h1,h2,decide_false,Bool.or_false,Bool.false_or]
     have e1:¬k<i+1:=by omega
     simp [e1]
  ·by_cases hij:i∈js
   ·obtain ⟨v,oj,hoj,hst,hrun,hgj⟩:=Amr J hlk hm hsub hij (fun x hx=>by rw [g2] at hx;cases hx;exact hdeps)
    rw [g2] at hoj;cases hoj
    have hjs:=(Array.getElem?_eq_some_iff.1 g2).1
    obtain ⟨_,_,hx1,_,hri,_⟩:=J.one i hij
    unfold wpOpIn
    rw [g2]
    simp only
    rw [if_pos (by unfold Region.wanted;rw [hgj])]
    refine ⟨fun f _=>hF.fn f,?_⟩
    rw [hrun]
    show wpAnyIn F n P .any ops Q fuel (listed.setIfInBounds i true) (a'.put oi.dst v) w
    have hm2:=hm.one hst (Eh js vs a)
    rw [g2] at hm2
    refine ih (i::done) _ _ (.cons g2 hri hnl.2 hdeps hv) (fun q hq=>?_) hm2 (by simp [hs]) (fun k=>?_) (by simp;omega)
    ·rcases List.mem_cons.1 hq with rfl | hq
     ·exact hij
     ·exact hsub q hq
    ·rw [Cm (by rw [hs];exact hjs) k,hl k]
     simp only [List.mem_cons]
     by_cases h1:k<r <;> by_cases h2:k∈done <;> by_cases h3:k=i <;> simp [h1,h2,h3]
   ·exfalso
    obtain ⟨e,he,hb,h1,h2⟩:=J.out i oi g2 (by omega) hij
    rcases hdeps e he hb with h | h
    ·omega
    ·exact h2 (hsub _ h)
end
section
variable [H:Holes] {P:Program} {K:Nat→Option (List Value)} {s:St} {ρ:Rho} {Q:Post}
theorem Az3 {ops:Array Oper} {r:Nat} {o:Oper} {js:List Nat} (hback:∀ (j:Nat) (o:Oper),ops[j]?=some o→∀ e∈o.after,Region.binds .any e=true→e.on<j) (hb:firstB ops r o js=true):JsOk ops r o js:=by
 unfold firstB at hb
 simp only [Bool.and_eq_true] at hb
 obtain ⟨b1,b2,b3,b4⟩:=hb
 rw [List.all_eq_true] at b1 b3 b4
 refine ⟨b2,fun j hj=>?_,fun j oj hj hrj hjs=>?_,fun j oj hj=>?_,hback⟩
 ·have:=b3 j hj
  cases hq:ops[j]? with
  | none=>rw [hq] at this;cases this
  | some oj =>
   rw [hq] at this
   simp only [Bool.and_eq_true,Bool.not_eq_true'] at this
   obtain ⟨h1,h2,h3⟩:=this
   unfold apart2 at h2
   rw [Bool.and_eq_true] at h2
   obtain ⟨h2,h4⟩:=h2
   cases hd:oj.dst with
   | none=>rw [hd] at h2;cases h2
   | some e =>
    rw [hd] at h2
    simp only [Bool.and_eq_true,Bool.not_eq_true'] at h2
    refine ⟨oj,e,rfl,hd,Nat.le_of_ble_eq_true h1,Ew h2.1,fun he=>?_,fun d hd2=>?_,fun x hx hbx=>?_⟩
    ·have h5:=h2.2
     rw [he] at h5
     simp only [Bool.not_eq_true',Nat.beq_refl] at h5
     cases h5
    ·rw [hd2] at h4
     simp only [Bool.not_eq_true'] at h4
     exact Ew h4
    ·have:=Ajy h3 x hx hbx
     rw [Bool.not_eq_false',Bool.or_eq_true] at this
     rcases this with h | h
     ·exact .inl (Nat.le_of_ble_eq_true h)
     ·exact .inr (Yn.1 h)
 ·have h1:=b4 j (List.mem_range.2 (Array.getElem?_eq_some_iff.1 hj).1)
  rw [hj] at h1
  simp only [Bool.or_eq_true] at h1
  rcases h1 with (h1 | h1) | h1
  ·have:=Nat.le_of_ble_eq_true h1;omega
  ·exact absurd (Yn.1 h1) hjs
  ·obtain ⟨e,he,hbd,h2⟩:=Mc h1
   rw [Bool.and_eq_true,Bool.not_eq_true'] at h2
   exact ⟨e,he,hbd,Nat.le_of_ble_eq_true h2.1,Au5 h2.2⟩
 ·have:=b1 oj (by rw [←Array.getElem?_toList] at hj;exact List.mem_of_getElem? hj)
  refine ⟨fun c hc=>?_,fun cs b hc=>?_⟩ <;> (rw [hc] at this;cases this)
def numW (Y:T YRow) (tm:Tm):Op→Option (List W)
 | .binOp op _ x y _=>match arI op,intOf Y (ev tm x),intOf Y (ev tm y) with
  | some _,some (k,_),some (k',_)=>bif k == k' then some [ev tm x,ev tm y] else none
  | _,_,_=>none
 | .call c=>match c.callee,c.args.toList with
  | .builtin .min,[x,y]=>match intOf Y (ev tm x),intOf Y (ev tm y) with
   | some _,some _=>some [ev tm x,ev tm y]
   | _,_=>none
  | .builtin .max,[x,y]=>match intOf Y (ev tm x),intOf Y (ev tm y) with
   | some _,some _=>some [ev tm x,ev tm y]
   | _,_=>none
  | _,_=>none
 | _=>none
def chainN (ops:Array Oper) (nt:Nat) (Y:T YRow) (tm:Tm):List Nat→Option (List (List W))
 | []=>some []
 | j::js=>match ops[j]? with
  | some o=>match numW Y tm o.op,o.dst,o.guard with
   | some ws,some d,none=>bif Nat.blt d nt then (match chainN ops nt Y tm js with
    | some l=>some (ws::l)
    | none=>none) else none
   | _,_,_=>none
  | none=>none
def numB (ops:Array Oper) (js:List Nat):Bool:=js.all fun j=>js.all fun i=>match ops[j]?,dstOf ops i with
 | some o,some d=>!((namesY ops o).any (Nat.beq d))
 | _,_=>false
def endT (ops:Array Oper):List Nat→List W→Tm→Tm
 | j::js,x::xs,tm=>endT ops js xs (match dstOf ops j with
  | some d=>tm.set d x
  | none=>tm)
 | _,_,tm=>tm
def NumV (F:Fence) (P:Program) (o:Oper) (a:Act) (v:Value):Prop:=∀ (a2:Act) (w:World),(∀ x∈o.op.operands,a2.eval x=a.eval x)→(o.semAt F.round a2.eval).run P w = .ok (.value v) w
theorem Auz {F:Fence} {σ:Env} {n:Nat} {a:Act} {tm:Tm} {Y:T YRow} {o:Oper} {ws:List W} (hall:(∀ c,o.op≠.defer c)∧∀ cs b,o.op≠.select cs b) (hT:TmOk σ n a.tmps tm) (hA:SymAg ρ σ Y) (h:numW Y tm o.op=some ws):∃ v,NumV F P o a v:=by
 have hE:∀ y,a.eval y=realW σ (ev tm y):=fun y=>(hT.ev a.defers y).1
 have red:∀ (v:Value),(∀ w,(execOp a.eval o).run P w = .ok (.value v) w)→NumV F P o a v:=fun v hv a2 w he=>by
  have key:∀ ρ,o.semAt F.round ρ=execOp ρ o:=fun ρ=>by
   unfold Oper.semAt
   cases F.round with
   | none=>rfl
   | some l =>
    cases hop:o.op with
    | defer c=>exact absurd hop (hall.1 c)
    | _=>rfl
  rw [key,execOp_congr o hall.2 he]
  exact hv w
 unfold numW at h
 split at h
 ·rename_i op t x y t2 hop
  split at h
  ·rename_i g k f k' f' ho hx hy
   cases hk:k == k' with
   | false=>rw [hk] at h;cases h
   | true =>
    have hp:pureN Y tm o.op=some (k,fun ρ=>k.wrap (g (f ρ) (f' ρ))):=by
     rw [hop];unfold pureN;dsimp only;rw [ho,hx,hy];simp only [hk,cond_true]
    refine ⟨.int k (k.wrap (g (f ρ) (f' ρ))),red _ fun w=>?_⟩
    have:=Agn (P:=P) (l:=none) hT hA hp w
    exact this
  ·cases h
 ·rename_i c hop
  split at h
  ·rename_i x y hcal hxs
   split at h
   ·rename_i q1 q2 hx hy
    refine ⟨.int q1.1 (min (q1.2 ρ) (q2.2 ρ)),red _ fun w=>?_⟩
    have hxs:c.args=#[x,y]:=Array.ext' hxs
    have e3:=Rb (P:=P) (mx:=false) (ts:=c.argTypes) (ty:=o.type) (x:=ev tm x) (y:=ev tm y) (m:=⟨.e,n,0⟩) (F:=fun _=>False) (B0:=0) (w:=w) hA
    unfold minA at e3
    rw [hx,hy] at e3
    unfold execOp
    simp only [hop]
    unfold resolve
    simp only [hcal,hxs]
    rw [show (#[x,y].map a.eval)=#[realW σ (ev tm x),realW σ (ev tm y)] by simp [hE]]
    exact e3
   ·cases h
  ·rename_i x y hcal hxs
   split at h
   ·rename_i q1 q2 hx hy
    refine ⟨.int q1.1 (max (q1.2 ρ) (q2.2 ρ)),red _ fun w=>?_⟩
    have hxs:c.args=#[x,y]:=Array.ext' hxs
    have e3:=Rb (P:=P) (mx:=true) (ts:=c.argTypes) (ty:=o.type) (x:=ev tm x) (y:=ev tm y) (m:=⟨.e,n,0⟩) (F:=fun _=>False) (B0:=0) (w:=w) hA
    unfold minA at e3
    rw [hx,hy] at e3
    unfold execOp
    simp only [hop]
    unfold resolve
    simp only [hcal,hxs]
    rw [show (#[x,y].map a.eval)=#[realW σ (ev tm x),realW σ (ev tm y)] by simp [hE]]
    exact e3
   ·cases h
  ·cases h
 ·cases h
theorem Axg {σ τ:Env} {n n':Nat} {a a':Act} {tm tm':Tm} {Y Y':T YRow} {o:Oper} {ws:List W} (hT:TmOk σ n a.tmps tm) (hT':TmOk τ n' a'.tmps tm') (ha:Agree n σ τ) (h:numW Y tm o.op=some ws) (h':numW Y' tm' o.op=some ws):∀ x∈o.op.operands,a'.eval x=a.eval x:=by
 have hE:∀ y,a.eval y=realW σ (ev tm y):=fun y=>(hT.ev a.defers y).1
 have hE':∀ y,a'.eval y=realW τ (ev tm' y):=fun y=>(hT'.ev a'.defers y).1
 have two:∀ x y:Operand,ws=[ev tm x,ev tm y]→ws=[ev tm' x,ev tm' y]→∀ z,z=x∨z=y→a'.eval z=a.eval z:=fun x y h1 h2 z hz=>by
  rw [h1] at h2
  simp only [List.cons.injEq,and_true] at h2
  rcases hz with rfl | rfl
  ·rw [hE,hE',←h2.1,ha.realW (hT.ev a.defers z).2]
  ·rw [hE,hE',←h2.2,ha.realW (hT.ev a.defers z).2]
 unfold numW at h h'
 cases hop:o.op with
 | binOp op t x y t2 =>
  rw [hop] at h h'
  dsimp only at h h'
  have g1:ws=[ev tm x,ev tm y]:=by
   split at h
   ·obtain ⟨_,h⟩:=Aj h;exact h.symm
   ·cases h
  have g2:ws=[ev tm' x,ev tm' y]:=by
   split at h'
   ·obtain ⟨_,h'⟩:=Aj h';exact h'.symm
   ·cases h'
  intro z hz
  refine two x y g1 g2 z ?_
  simpa [Op.operands] using hz
 | call c =>
  rw [hop] at h h'
  dsimp only at h h'
  split at h
  ·rename_i x y hcal hxs
   rw [hcal,hxs] at h'
   dsimp only at h'
   have g1:ws=[ev tm x,ev tm y]:=by
    split at h
    ·cases h;rfl
    ·cases h
   have g2:ws=[ev tm' x,ev tm' y]:=by
    split at h'
    ·cases h';rfl
    ·cases h'
   intro z hz
   have hxs:c.args=#[x,y]:=Array.ext' hxs
   refine two x y g1 g2 z ?_
   simpa [Op.operands,Call.operands,hcal,hxs] using hz
  ·rename_i x y hcal hxs
   rw [hcal,hxs] at h'
   dsimp only at h'
   have g1:ws=[ev tm x,ev tm y]:=by
    split at h
    ·cases h;rfl
    ·cases h
   have g2:ws=[ev tm' x,ev tm' y]:=by
    split at h'
    ·cases h';rfl
    ·cases h'
   intro z hz
   have hxs:c.args=#[x,y]:=Array.ext' hxs
   refine two x y g1 g2 z ?_
   simpa [Op.operands,Call.operands,hcal,hxs] using hz
  ·cases h
 | _=>rw [hop] at h;cases h
theorem Rc {F:Fence} {σ:Env} {n nt:Nat} {a:Act} {tm:Tm} {Y:T YRow} {ops:Array Oper} (hall:∀ (j:Nat) (oj:Oper),ops[j]?=some oj→(∀ c,oj.op≠.defer c)∧∀ cs b,oj.op≠.select cs b) (hT:TmOk σ n a.tmps tm) (hA:SymAg ρ σ Y):∀ (js:List Nat) (wss:List (List W)),chainN ops nt Y tm js=some wss→∃ vs:List Value,vs.length=js.length∧∀ (i j:Nat) (v:Value),js[i]?=some j→vs[i]?=some v→∃ (o:Oper) (ws:List W),ops[j]?=some o∧NumV F P o a v∧wss[i]?=some ws∧numW Y tm o.op=some ws
 | [],wss,h=>⟨[],rfl,fun i j v hj=>by simp at hj⟩
 | j::js,wss,h=>by
  unfold chainN at h
  split at h
  ·rename_i o ho
   split at h
   ·rename_i ws d hw hd hg
    obtain ⟨hb,h⟩:Nat.blt d nt=true∧(match chainN ops nt Y tm js with | some l=>some (ws::l) | none=>none)=some wss:=by
     cases hq:Nat.blt d nt with
     | true=>rw [hq] at h;exact ⟨rfl,h⟩
     | false=>rw [hq] at h;cases h
    split at h
    ·rename_i l hl
     cases h
     obtain ⟨v,hv⟩:=Auz (F:=F) (P:=P) (hall j o ho) hT hA hw
     obtain ⟨vs,h1,h2⟩:=Rc hall hT hA js l hl
     refine ⟨v::vs,by simp [h1],fun i j' v' hj hv'=>?_⟩
     cases i with
     | zero=>simp at hj hv';subst hj;subst hv';exact ⟨o,ws,ho,hv,rfl,hw⟩
     | succ i=>exact h2 i j' v' (by simpa using hj) (by simpa using hv')
    ·cases h
   ·cases h
  ·cases h
theorem Lx {F:Fence} {nt:Nat} {a:Act} {tm:Tm} {Y:T YRow} {ops:Array Oper} {w:World} (hall:∀ (j:Nat) (oj:Oper),ops[j]?=some oj→(∀ c,oj.op≠.defer c)∧∀ cs b,oj.op≠.select cs b):∀ (js:List Nat) (wss:List (List W)) (vs:List Value) (a':Act),chainN ops nt Y tm js=some wss→vs.length=js.length→(∀ (i j:Nat) (v:Value),js[i]?=some j→vs[i]?=some v→∃ o,ops[j]?=some o∧NumV F P o a v)→a'.tmps.size=nt →
  (∀ j∈js,∀ o,ops[j]?=some o→∀ x∈o.op.operands,a'.eval x=a.eval x)→(∀ j∈js,∀ i∈js,∀ o d,ops[j]?=some o→dstOf ops i=some d→¬d∈namesY ops o)→Looks F P ops w js vs a'
 | [],_,[],a',_,_,_,_,_,_=>.nil a'
 | [],_,_::_,_,_,hl,_,_,_,_=>by cases hl
 | _::_,_,[],_,_,hl,_,_,_,_=>by cases hl
 | j::js,wss,v::vs,a',h,hl,hv,hs,he,hn=>by
  unfold chainN at h
  split at h
  ·rename_i o ho
   split at h
   ·rename_i ws d hw hd hg
    obtain ⟨hb,h⟩:Nat.blt d nt=true∧(match chainN ops nt Y tm js with | some l=>some (ws::l) | none=>none)=some wss:=by
     cases hq:Nat.blt d nt with
     | true=>rw [hq] at h;exact ⟨rfl,h⟩
     | false=>rw [hq] at h;cases h
    split at h
    ·rename_i l hl'
     cases h
     have hdn:d<nt:=Nat.le_of_ble_eq_true hb
     obtain ⟨o',ho',hnv⟩:=hv 0 j v rfl rfl
     rw [ho] at ho';cases ho'
     refine .cons ho hd (by rw [hs];exact hdn) (hnv a' w (he j List.mem_cons_self o ho)) hg (Lx hall js l vs _ hl' (by simpa using hl) (fun i j' v' hj hv'=>hv (i+1) j' v' (by simpa using hj) (by simpa using hv')) (by rw [psz];exact hs) (fun j' hj o' ho' x hx=>?_) fun j' hj i hi=>hn j' (List.mem_cons_of_mem _ hj) i (List.mem_cons_of_mem _ hi))
     rw [Yd a' o.dst v x fun t ht hdt=>?_]
     ·exact he j' (List.mem_cons_of_mem _ hj) o' ho' x hx
     ·subst ht
      refine hn j' (List.mem_cons_of_mem _ hj) j List.mem_cons_self o' t ho' ?_ (Gp hx)
      show (ops[j]?).bind (·.dst)=some t
      rw [ho];exact hdt
    ·cases h
   ·cases h
  ·cases h
theorem Looks.app {F:Fence} {ops:Array Oper} {w:World}:∀ {js:List Nat} {vs:List Value} {js2:List Nat} {vs2:List Value} {a:Act},Looks F P ops w js vs a→Looks F P ops w js2 vs2 (starA ops js vs a)→Looks F P ops w (js++js2) (vs++vs2) a
 | _,_,_,_,_, .nil _,h=>h
 | _,_,_,_,a, .cons (j:=j) (o:=o) (v:=v) (js:=js) (vs:=vs) ho hd hds run hg t,h=>by
  refine .cons ho hd hds run hg (t.app ?_)
  have e:starA ops (j::js) (v::vs) a=starA ops js vs (a.put o.dst v):=by
   show starA ops js vs (a.put ((ops[j]?).bind (·.dst)) v)=_
   rw [ho];rfl
  rw [←e];exact h
theorem Rd {σ:Env} {m:Mem} {ops:Array Oper} {nt:Nat} {w:World} {F:Fence} (hR:Rel K σ m w):∀ (js:List Nat) (xs:List W) (a:Act) (tm:Tm),TmOk σ m.nx a.tmps tm→a.tmps.size=nt→chainW P K ops m nt js tm=some xs→TmOk σ m.nx (starA ops js (xs.map (realW σ)) a).tmps (endT ops js xs tm)∧(starA ops js (xs.map (realW σ)) a).tmps.size=nt
 | [],xs,a,tm,hT,hs,h=>by cases h;exact ⟨hT,hs⟩
 | j::js,xs,a,tm,hT,hs,h=>by
  unfold chainW at h
  split at h
  ·rename_i o ho
   split at h
   ·rename_i x d hx hd hg
    obtain ⟨hb,h⟩:Nat.blt d nt=true∧(match chainW P K ops m nt js (tm.set d x) with | some xs=>some (x::xs) | none=>none)=some xs:=by
     cases hq:Nat.blt d nt with
     | true=>rw [hq] at h;exact ⟨rfl,h⟩
     | false=>rw [hq] at h;cases h
    split at h
    ·rename_i xs' hxs
     cases h
     obtain ⟨_,h2,_⟩:=Ag1 (F:=F) (P:=P) (o:=o) hR hT hx
     have hdn:d<nt:=Nat.le_of_ble_eq_true hb
     have e:dstOf ops j=some d:=by show (ops[j]?).bind (·.dst)=_;rw [ho];exact hd
     have:=Rd (F:=F) hR js xs' (a.put (some d) (realW σ x)) (tm.set d x) (hT.set h2 (by rw [hs];exact hdn)) (by rw [psz];exact hs) hxs
     show TmOk σ m.nx (starA ops js (xs'.map (realW σ)) (a.put (dstOf ops j) (realW σ x))).tmps (endT ops js xs' (match dstOf ops j with | some d=>tm.set d x | none=>tm))∧_
     rw [e]
     exact ⟨this.1,by show (starA ops js (xs'.map (realW σ)) (a.put (dstOf ops j) (realW σ x))).tmps.size=nt;rw [e];exact this.2⟩
    ·cases h
   ·cases h
  ·cases h
theorem Aqd {ops:Array Oper} {r key:Nat} {o:Oper} {js js2:List Nat} {xs:List W} {wss:List (List W)} (hc:s.cur = .draw ops r) (ho:ops[r]?=some o) (hback:∀ (j:Nat) (o:Oper),ops[j]?=some o→∀ e∈o.after,Region.binds .any e=true→e.on<j) (hb:firstB ops r o (js++js2)=true) (hnb:numB ops js2=true) (hgd:o.guard=none) (hx:chainW P K ops s.m s.nt js s.tm=some xs) (hn:chainN ops s.nt s.Y (endT ops js xs s.tm) js2=some wss)
  (k:Sx P K ⟨.ops ops [o],[],s.tm,s.m,s.Y,s.nt,key⟩ ρ ⟨fun e tm m Y ρ'=>e = .normal∧chainW P K ops m s.nt js tm=some xs∧chainN ops s.nt Y (endT ops js xs tm) js2=some wss∧Sx P K ⟨.draw ops (Nat.succ r),s.ks,tm,m,Y,s.nt,s.key⟩ ρ' Q,[]⟩):Sx P K s ρ Q:=by
 intro F hF n b hB Qw hQ σ a w hA
 rw [hc]
 intro fuel listed hs hl hfu
 have J:=Az3 hback hb
 have hnn:∀ j∈js2,∀ i∈js2,∀ o d,ops[j]?=some o→dstOf ops i=some d→¬d∈namesY ops o:=fun j hj i hi o d ho hd=>by
  have:=List.all_eq_true.1 (List.all_eq_true.1 hnb j hj) i hi
  rw [ho,hd] at this
  simp only [Bool.not_eq_true'] at this
  exact Ew this
 obtain ⟨hlk1,hxl⟩:=Yp (F:=F) hA.aw.rel js xs a s.tm hA.tm hA.nt hx
 obtain ⟨hTe,hse⟩:=Rd (F:=F) hA.aw.rel js xs a s.tm hA.tm hA.nt hx
 obtain ⟨vs2,hv1,hv2⟩:=Rc (F:=F) (P:=P) (nt:=s.nt) J.all hTe hA.aw.ag js2 wss hn
 have hlk:Looks F P ops w (js++js2) (xs.map (realW σ)++vs2) a:=hlk1.app (Lx J.all js2 wss vs2 _ hn hv1 (fun i j v hj hv=>by obtain ⟨o,_,h1,h2,_⟩:=hv2 i j v hj hv;exact ⟨o,h1,h2⟩) hse (fun _ _ _ _ _ _=>rfl) hnn)
 have hrun:wpListIn F n P ops (fun e a' w'=>e = .normal∧AfterX F n P ops (after F n P Qw s.ks) r (js++js2) (xs.map (realW σ)++vs2) a' w') [o] a w:=by
  have:=k F hF n (b.at σ s.m.nx) hB ⟨fun e a' w'=>e = .normal∧AfterX F n P ops (after F n P Qw s.ks) r (js++js2) (xs.map (realW σ)++vs2) a' w',Qw.Λ,fun c a w h=>by cases h.1⟩ ⟨fun e tm m Y ρ' key τ a' w' hq hA2=>?_,fun p hp=>by cases hp⟩ σ a w ((hA.at (c := .ops ops [o]) (ks:=[])).move rfl rfl rfl rfl)
  ·exact this
  ·obtain ⟨he,hx2,hn2,ks⟩:=hq
   have hA3:At K b ⟨.draw ops (Nat.succ r),s.ks,tm,m,Y,s.nt,s.key⟩ ρ' τ a' w':=⟨hA2.aw.unat hA.aw.nx1 hA.aw.agree1,hA2.tm,hA2.nt,hA2.mks⟩
   have hag:Agree s.m.nx σ τ:=hA2.aw.agree1
   refine ⟨he,?_,fun fuel L hL hLk hLf=>ks F hF n b hB Qw hQ τ a' w' hA3 fuel L hL hLk hLf⟩
   obtain ⟨h4,_⟩:=Yp (F:=F) hA2.aw.rel js xs a' tm hA2.tm hA2.nt hx2
   obtain ⟨hTe2,hse2⟩:=Rd (F:=F) hA2.aw.rel js xs a' tm hA2.tm hA2.nt hx2
   have e:xs.map (realW τ)=xs.map (realW σ):=List.map_congr_left fun y hy=>by rw [Agree.realW hag (hxl y hy)]
   refine (show Looks F P ops w' (js++js2) (xs.map (realW τ)++vs2) a' from h4.app (Lx (a:=starA ops js (xs.map (realW σ)) a) J.all js2 wss vs2 _ hn2 hv1 (fun i j v hj hv=>by obtain ⟨o,_,h1,h2,_⟩:=hv2 i j v hj hv;exact ⟨o,h1,h2⟩) hse2 (fun j hj oj hoj x hxx=>?_) hnn)) |> fun h=>by rw [←e];exact h
   obtain ⟨i,hi⟩:=List.mem_iff_getElem?.1 hj
   have hil:i<vs2.length:=by rw [hv1];exact (List.getElem?_eq_some_iff.1 hi).1
   obtain ⟨o1,ws1,g1,_,g3,g4⟩:=hv2 i j _ hi (List.getElem?_eq_getElem hil)
   rw [hoj] at g1;cases g1
   obtain ⟨vs3,k1,k2⟩:=Rc (F:=F) (P:=P) (nt:=s.nt) J.all hTe2 hA2.aw.ag js2 wss hn2
   have hil3:i<vs3.length:=by rw [k1,←hv1];exact hil
   obtain ⟨o2,ws2,l1,_,l3,l4⟩:=k2 i j _ hi (List.getElem?_eq_getElem hil3)
   rw [hoj] at l1;cases l1
   rw [g3] at l3;cases l3
   exact Axg hTe hTe2 hag g4 l4 x hxx
 unfold wpListIn at hrun
 rw [if_pos (by unfold Region.wanted;rw [hgd])] at hrun
 have hX:o.wpIn F n P a w (fun b w'=>AfterX F n P ops (after F n P Qw s.ks) r (js++js2) (xs.map (realW σ)++vs2) b w') (fun e a' w'=>e = .normal∧AfterX F n P ops (after F n P Qw s.ks) r (js++js2) (xs.map (realW σ)++vs2) a' w'):=Oper.wpIn_mono (fun a' w' h=>(show _=_∧_ from h).2) hrun
 exact Arp hF J ho hgd hlk (fun e a w h=>h.1) hX fuel [] a listed .nil (fun i hi=>by cases hi) ⟨rfl,rfl,fun j hj=>(by cases hj),fun _ _=>rfl⟩ hs (fun k=>by rw [hl k];simp) (by simpa using hfu)
end
end Go.Vc

namespace Go.Vc
def posN (l:List Nat) (k:Nat):Nat:=List.rec 0 (fun i _ ih=>bif Nat.beq i k then 0 else Nat.succ ih) l
def renO (π:List Nat) (o:Oper):Oper:={ o with after:=(o.after.toList.map fun e=>{ e with on:=posN π e.on }).toArray,guard:=match o.guard with
 | some g=>some (posN π g.1,g.2)
 | none=>none }
def permL (ops:Array Oper) (π:List Nat):List Nat→List Oper
 | []=>[]
 | i::l=>match ops[i]? with
  | some o=>renO π o::permL ops π l
  | none=>permL ops π l
def permA (ops:Array Oper) (π:List Nat):Array Oper:=(permL ops π π).toArray
def permB (ops:Array Oper) (π:List Nat):Bool:=Nat.beq π.length ops.size && (π.all (fun i=>Nat.blt i ops.size) && ((List.range ops.size).all (fun k=>match π[posN π k]? with
 | some k'=>Nat.beq k' k && (match π[k]? with
  | some q=>Nat.beq (posN π q) k
  | none=>false)
 | none=>false) && ops.toList.all fun o=>(o.after.toList.all fun e=>Nat.blt e.on ops.size) && (match o.guard with
 | some g=>Nat.blt g.1 ops.size
 | none=>true)))
section
variable {F:Fence} {n:Nat} {P:Program} {Q:Exit→Act→World→Prop} {ops:Array Oper} {π:List Nat}
theorem Qq:∀ (l:List Nat),(∀ i∈l,i<ops.size)→∀ q:Nat,(permL ops π l)[q]?=(l[q]?).bind fun i=>(ops[i]?).map (renO π)
 | [],_,q=>by simp [permL]
 | i::l,h,q=>by
  unfold permL
  have hi:=h i List.mem_cons_self
  rw [Array.getElem?_eq_getElem hi]
  cases q with
  | zero=>simp [Array.getElem?_eq_getElem hi]
  | succ q=>simp only [List.getElem?_cons_succ];exact Qq l (fun i hi=>h i (List.mem_cons_of_mem _ hi)) q
theorem Abt:∀ (l:List Nat),(∀ i∈l,i<ops.size)→(permL ops π l).length=l.length
 | [],_=>rfl
 | i::l,h=>by
  unfold permL
  have hi:=h i List.mem_cons_self
  rw [Array.getElem?_eq_getElem hi]
  simp [Abt l fun i hi=>h i (List.mem_cons_of_mem _ hi)]
structure PermOk (ops:Array Oper) (π:List Nat):Prop where
 size:(permA ops π).size=ops.size
 get:∀ k o,ops[k]?=some o→(permA ops π)[posN π k]?=some (renO π o)
 inj:∀ k k',k<ops.size→k'<ops.size→posN π k=posN π k'→k=k'
 lt:∀ k,k<ops.size→posN π k<ops.size
 back:∀ (q:Nat) (o':Oper),(permA ops π)[q]?=some o'→∃ k o,ops[k]?=some o∧o'=renO π o∧posN π k=q
 edge:∀ (k:Nat) (o:Oper),ops[k]?=some o→∀ e∈o.after,e.on<ops.size
 grd:∀ (k:Nat) (o:Oper) g,ops[k]?=some o→o.guard=some g→g.1<ops.size
theorem Auq (h:permB ops π=true):PermOk ops π:=by
 unfold permB at h
 simp only [Bool.and_eq_true] at h
 obtain ⟨h1,h2,h3,h4⟩:=h
 have h1:=Nat.eq_of_beq_eq_true h1
 rw [List.all_eq_true] at h2 h3 h4
 have hl:∀ i∈π,i<ops.size:=fun i hi=>Nat.le_of_ble_eq_true (h2 i hi)
 have hp:∀ k,k<ops.size→π[posN π k]?=some k:=fun k hk=>by
  have:=h3 k (List.mem_range.2 hk)
  split at this
  ·rename_i k' hk';rw [Bool.and_eq_true] at this;rw [hk',Nat.eq_of_beq_eq_true this.1]
  ·cases this
 have hp2:∀ k,k<ops.size→∃ q,π[k]?=some q∧posN π q=k:=fun k hk=>by
  have:=h3 k (List.mem_range.2 hk)
  split at this
  ·rename_i k' hk'
   rw [Bool.and_eq_true] at this
   have h5:=this.2
   split at h5
   ·rename_i q hq;exact ⟨q,hq,Nat.eq_of_beq_eq_true h5⟩
   ·cases h5
  ·cases this
 refine ⟨?_,fun k o ho=>?_,fun k k' hk hk' he=>?_,fun k hk=>?_,fun q o' hq=>?_,fun k o ho e he=>?_,fun k o g ho hg=>?_⟩
 ·show (permL ops π π).toArray.size=_
  simp [Abt π hl,h1]
 ·show (permL ops π π).toArray[posN π k]?=_
  rw [List.getElem?_toArray,Qq π hl,hp k (Array.getElem?_eq_some_iff.1 ho).1]
  simp [ho]
 ·have a1:=hp k hk
  rw [he,hp k' hk'] at a1
  exact (Option.some.inj a1).symm
 ·have:=(List.getElem?_eq_some_iff.1 (hp k hk)).1
  omega
 ·have hq':(permL ops π π).toArray[q]?=some o':=hq
  rw [List.getElem?_toArray,Qq π hl] at hq'
  cases hqq:π[q]? with
  | none=>rw [hqq] at hq';cases hq'
  | some k =>
   rw [hqq] at hq'
   have hkl:=hl k (List.mem_of_getElem? hqq)
   have hq':(ops[k]?).map (renO π)=some o':=hq'
   rw [Array.getElem?_eq_getElem hkl] at hq'
   cases hq'
   have hql:q<ops.size:=by have:=(List.getElem?_eq_some_iff.1 hqq).1;omega
   obtain ⟨k2,e1,e2⟩:=hp2 q hql
   rw [hqq] at e1
   cases e1
   exact ⟨k,_,Array.getElem?_eq_getElem hkl,rfl,e2⟩
 ·have:=h4 o (by rw [←Array.getElem?_toList] at ho;exact List.mem_of_getElem? ho)
  rw [Bool.and_eq_true,List.all_eq_true] at this
  exact Nat.le_of_ble_eq_true (this.1 e (by simpa using he))
 ·have:=h4 o (by rw [←Array.getElem?_toList] at ho;exact List.mem_of_getElem? ho)
  rw [Bool.and_eq_true] at this
  rw [hg] at this
  exact Nat.le_of_ble_eq_true this.2
theorem Vn (J:PermOk ops π) {L L':Array Bool} (hL:L.size=ops.size) (hL':L'.size=ops.size) (hk:∀ k,k<ops.size→L'.getD (posN π k) false=L.getD k false) {i:Nat} (hi:i∈Region.ready .any ops L):posN π i∈Region.ready .any (permA ops π) L':=by
 obtain ⟨g1,o,g2,g3⟩:=mem_ready.1 hi
 have hil:=(Array.getElem?_eq_some_iff.1 g2).1
 refine mem_ready.2 ⟨getD_in (by rw [hL'];exact J.lt i hil) (by rw [hk i hil];exact getD_both g1),renO π o,J.get i o g2,fun e he hb=>?_⟩
 have he':e∈o.after.toList.map fun e=>({ e with on:=posN π e.on }:Edge):=by simpa [renO] using he
 obtain ⟨e0,h1,rfl⟩:=List.mem_map.1 he'
 have h1:e0∈o.after:=by simpa using h1
 show L'.getD (posN π e0.on) false=true
 rw [hk e0.on (J.edge i o g2 e0 h1)]
 exact g3 e0 h1 hb
theorem Amf (J:PermOk ops π) {L L':Array Bool} (hL:L.size=ops.size) (hk:∀ k,k<ops.size→L'.getD (posN π k) false=L.getD k false) {q:Nat} (hq:q∈Region.ready .any (permA ops π) L'):∃ i,i∈Region.ready .any ops L:=by
 obtain ⟨g1,o',g2,g3⟩:=mem_ready.1 hq
 obtain ⟨k,o,ho,rfl,hkq⟩:=J.back q o' g2
 have hkl:=(Array.getElem?_eq_some_iff.1 ho).1
 refine ⟨k,mem_ready.2 ⟨getD_in (by rw [hL];exact hkl) (by rw [←hk k hkl,hkq];exact getD_both g1),o,ho,fun e he hb=>?_⟩⟩
 rw [←hk e.on (J.edge k o ho e he)]
 refine g3 { e with on:=posN π e.on } ?_ hb
 simp only [renO]
 simpa using ⟨e,he,rfl,rfl⟩
theorem Abs (J:PermOk ops π):∀ (fuel:Nat) (L L':Array Bool) (a:Act) (w:World),L.size=ops.size→L'.size=ops.size→(∀ k,k<ops.size→L'.getD (posN π k) false=L.getD k false)→wpAnyIn F n P .any (permA ops π) Q fuel L' a w→wpAnyIn F n P .any ops Q fuel L a w
 | 0,L,L',a,w,hL,hL',hk,h=>by
  refine ⟨List.eq_nil_iff_forall_not_mem.2 fun i hi=>?_,h.2⟩
  have:=Vn J hL hL' hk hi
  rw [h.1] at this;cases this
 | fuel+1,L,L',a,w,hL,hL',hk,h=>by
  by_cases hne:Region.ready .any ops L=[]
  ·by_cases hne':Region.ready .any (permA ops π) L'=[]
   ·exact ⟨fun _=>h.1 hne',fun i hi=>by rw [hne] at hi;cases hi⟩
   ·exfalso
    -- an index there comes from one here
    obtain ⟨q,hq⟩:=List.exists_mem_of_ne_nil _ hne'
    obtain ⟨i,hi⟩:=Amf J hL hk hq
    rw [hne] at hi;cases hi
  ·refine ⟨fun h0=>absurd h0 hne,fun i hi=>?_⟩
   have hr:=Vn J hL hL' hk hi
   obtain ⟨_,o,g2,_⟩:=mem_ready.1 hi
   have hil:=(Array.getElem?_eq_some_iff.1 g2).1
   have h2:=h.2 _ hr
   have ih:∀ a w,wpAnyIn F n P .any (permA ops π) Q fuel (L'.setIfInBounds (posN π i) true) a w→wpAnyIn F n P .any ops Q fuel (L.setIfInBounds i true) a w:=fun a w=>Abs J fuel _ _ a w (by simp [hL]) (by simp [hL']) fun k hkl=>by
    rw [Cm (by rw [hL'];exact J.lt i hil),Cm (by rw [hL];exact hil),hk k hkl]
    congr 1
    exact decide_eq_decide.2 ⟨fun he=>J.inj k i hkl hil he,fun he=>by rw [he]⟩
   unfold wpOpIn at h2 ⊢
   rw [J.get i o g2] at h2
   rw [g2]
   simp only at h2 ⊢
   have hw:Region.wanted (renO π o) (yielded (permA ops π) a.tmps)=Region.wanted o (yielded ops a.tmps):=by
    unfold Region.wanted
    cases hg:o.guard with
    | none=>simp only [renO,hg]
    | some g =>
     simp only [renO,hg]
     have hgl:=J.grd i o g g2 hg
     have hy:yielded (permA ops π) a.tmps (posN π g.1)=yielded ops a.tmps g.1:=by
      unfold yielded
      rw [J.get g.1 _ (Array.getElem?_eq_getElem hgl),Array.getElem?_eq_getElem hgl]
      rfl
     rw [hy]
   rw [hw] at h2
   split
   ·rename_i hq
    rw [if_pos hq] at h2
    have h3:o.wpIn F n P a w (wpAnyIn F n P .any (permA ops π) Q fuel (L'.setIfInBounds (posN π i) true)) Q:=by
     obtain ⟨dst,op,type,pos,after,guard⟩:=o
     exact h2
    exact Oper.wpIn_mono ih h3
   ·rename_i hq
    rw [if_neg hq] at h2
    exact ⟨h2.1,ih _ _ h2.2⟩
end
section
variable [H:Holes] {P:Program} {K:Nat→Option (List Value)} {s:St} {ρ:Rho} {Q:Post}
theorem Atm {ops:Array Oper} {π:List Nat} (hc:s.cur = .draw ops 0) (hp:permB ops π=true) (k:Sx P K ⟨.draw (permA ops π) 0,s.ks,s.tm,s.m,s.Y,s.nt,s.key⟩ ρ Q):Sx P K s ρ Q:=by
 refine Ado (s':=⟨.draw (permA ops π) 0,s.ks,s.tm,s.m,s.Y,s.nt,s.key⟩) rfl rfl rfl rfl (fun F n Qw a w h=>?_) k
 rw [hc]
 have J:=Auq hp
 intro fuel listed hs hl hf
 refine Abs J fuel listed (Array.replicate ops.size false) a w hs (by simp) (fun k hk=>?_) (h fuel _ (by simp [J.size]) (fun k=>?_) (by rw [J.size];exact hf))
 ·rw [hl k,Array.getD_eq_getD_getElem?,Array.getElem?_replicate,if_pos (J.lt k hk)];simp
 ·rw [Array.getD_eq_getD_getElem?,Array.getElem?_replicate];split <;> simp
end
end Go.Vc
