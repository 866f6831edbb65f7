import Derived.Test.YtneooimijbfmgaaGreatSsAJ
set_option linter.unusedVariables false
set_option linter.unusedSimpArgs false
set_option linter.unusedSectionVars false
noncomputable section
namespace Go.Vc
def keepL (tm:Tm) (l:List Tmp):List (Tmp×W):=l.map fun t=>(t,tm.get t)
def toldW:List Tmp→List V→List (Tmp×W)
 | t::l,v::vs=>(t, .v v)::toldW l vs
 | _,_=>[]
def cellV:V→C
 | .c x=>x
 | .a _=>.raw .nilFunc
def dropJ (j:Nat):List (Nat×LC)→List (Nat×LC)
 | []=>[]
 | p::l=>bif Nat.beq p.1 j then dropJ j l else p::dropJ j l
def freshK (j:Nat):List Kt→Bool
 | []=>true
 | .loop _ (some i)::ks=>!(Nat.beq i j) && freshK j ks
 | _::ks=>freshK j ks
structure Hint where
 keep:List Tmp
 gens:List Tmp
 cells:List (Nat×Nat)
 rks:List RK
 ods:List OdG
 inv:Rho→List DV→Prop
 mu:Rho→List DV→Nat
 box:Option Tmp
def boxN (bx:Option BoxT) (n:Nat):Nat:=match bx with
 | none=>n
 | some _=>Nat.succ n
def boxTm (bx:Option BoxT) (n:Nat):List (Tmp×W):=match bx with
 | none=>[]
 | some b=>[(b.t, .v (.c (.ptr n 0)))]
def boxS (bx:Option BoxT) (n:Nat) (S:T Row):T Row:=match bx with
 | none=>S
 | some b=>S.set n (.cells b.e b.k b.cs)
def boxI (s:St) (h:Hint):Option (Nat×BoxT):=match h.box with
 | none=>none
 | some t=>match s.tm.get t with
  | .v (.c (.ptr i 0))=>match s.m.S.get i with
   | some (.cells e k cs)=>some (i,⟨t,e,k,cs⟩)
   | _=>none
  | _=>none
def boxOf (s:St) (h:Hint):Option BoxT:=match boxI s h with
 | none=>none
 | some p=>some p.2
def killB (s:St) (h:Hint):St:=match boxI s h with
 | none=>s
 | some p=>⟨s.cur,s.ks,s.tm,⟨s.m.S.set p.1 .dead,s.m.nx,s.m.lo⟩,s.Y,s.nt,s.key⟩
def odT:List OdG→Nat→List (Tmp×W)
 | [],_=>[]
 | o::os,n=>match o.pl with
  | .tmp=>(o.t, .v (.c (.fz (Nat.succ n))))::odT os (Nat.succ (Nat.succ n))
  | .row _=>odT os (Nat.succ n)
  | .cel _ _=>odT os (Nat.succ (Nat.succ n))
def odCs:List OdG→Nat→List C
 | [],_=>[]
 | o::os,n=>match o.pl with
  | .tmp=>odCs os (Nat.succ (Nat.succ n))
  | .row _=>odCs os (Nat.succ n)
  | .cel _ _=>.fz (Nat.succ n)::odCs os (Nat.succ (Nat.succ n))
def odRows:List OdG→Nat→T YRow→T YRow
 | [],_,Y=>Y
 | o::os,n,Y=>match o.pl with
  | .row i=>odRows os (Nat.succ n) (Y.set i (.od o.e o.z o.own n))
  | _=>odRows os (Nat.succ (Nat.succ n)) (Y.set (Nat.succ n) (.od o.e o.z o.own n))
def odNx:List OdG→Nat→Nat
 | [],n=>n
 | o::os,n=>match o.pl with
  | .row _=>odNx os (Nat.succ n)
  | _=>odNx os (Nat.succ (Nat.succ n))
def allO:List OdG→Nat→Rho→(List (List (List D))→Rho→Prop)→Prop
 | [],_,ρ,k=>k [] ρ
 | o::os,n,ρ,k=>∀ x:List (List D),allO os (match o.pl with | .row _=>Nat.succ n | _=>Nat.succ (Nat.succ n)) (ρ.setD n x) fun l ρ=>k (x::l) ρ
def killO (S:T Row) (tm:Tm) (Y:T YRow):List OdG→T YRow
 | []=>Y
 | o::os=>match odC S tm o with
  | .v (.c (.fz i))=>match Y.get i with
   | some _=>(killO S tm Y os).set i .dead
   | none=>killO S tm Y os
  | _=>killO S tm Y os
def atB (Y:T YRow) (n:Nat) (os:List OdG):Bool:=os.all fun o=>match o.pl with
 | .row i=>Nat.blt i n && (match Y.get i with | some _=>true | none=>false)
 | _=>true
def datO (l:List (List (List D))):List DV:=l.map fun x=>.c (.fs x)
def lcOf (s:St) (ρ:Rho) (h:Hint) (k:Nat) (bx:Option BoxT:=none):LC:=⟨s.m,killO s.m.S s.tm s.Y h.ods,keepL s.tm h.keep,h.gens,h.cells,h.rks,h.ods,s.nt,ρ,h.inv,h.mu,k,bx⟩
def okH (h:Hint):Bool:=Nat.beq h.rks.length (h.gens.length+h.cells.length) && (h.rks.drop h.gens.length).all (fun r=>!r.agg)
theorem Sf:∀ (L:List (Nat×LC)) (j:Nat) (p:Nat×LC),p∈dropJ j L→p∈L∧p.1≠j
 | q::L,j,p,h=>by
  unfold dropJ at h
  cases hq:Nat.beq q.1 j with
  | true =>
   rw [hq] at h
   obtain ⟨h1,h2⟩:=Sf L j p h
   exact ⟨List.mem_cons_of_mem _ h1,h2⟩
  | false =>
   rw [hq] at h
   rcases List.mem_cons.1 h with rfl | h
   ·exact ⟨List.mem_cons_self,fun e=>by rw [e,Nat.beq_refl] at hq;cases hq⟩
   ·obtain ⟨h1,h2⟩:=Sf L j p h
    exact ⟨List.mem_cons_of_mem _ h1,h2⟩
theorem By {F:Fence} {n:Nat} {P:Program} {q:Exit→Act→World→Prop} {Λ Λ':Nat→Act→World→Prop} {np:∀ c a w,¬q (.panic c) a w} {j:Nat} (h:∀ i,i≠j→Λ' i=Λ i):∀ ks:List Kt,freshK j ks=true→after F n P ⟨q,Λ',np⟩ ks=after F n P ⟨q,Λ,np⟩ ks
 | [],_=>rfl
 | .seq b::ks,hk=>by simp only [after,By h ks hk]
 | .block id::ks,hk=>by simp only [after,By h ks hk]
 | .loop c none::ks,hk=>by simp only [after,By h ks hk]
 | .loop c (some i)::ks,hk=>by
  unfold freshK at hk
  simp only [Bool.and_eq_true,Bool.not_eq_true'] at hk
  simp only [after,By h ks hk.2,h i (fun e=>by rw [e,Nat.beq_refl] at hk;cases hk.1)]
 | .scope c::ks,hk=>by simp only [after,By h ks hk]
 | .noGoto::ks,hk=>by simp only [after,By h ks hk]
 | .draw all r::ks,hk=>by simp only [after,By h ks hk]
def Bs.at (b:Bs) (σ:Env) (n:Nat):Bs:=⟨b.wB,b.F0,b.σ0,b.n0,b.wC,b.L,σ,n⟩
section
variable [Holes]
theorem RD.ne_agg {F:Nat→Prop} {w:World} {d:D} {cs:Array Value} (h:RD F w d (.agg cs)):False:=by cases h with | raw v h=>cases h
theorem TmOk.told {σ:Env} {n:Nat} {tmps:Array Value} {l:List (Tmp×W)} (h:∀ p∈l,tmps.getD p.1 undef=realW σ p.2∧p.2.lt n):TmOk σ n tmps ⟨l,fun t=>tmps.getD t undef⟩:=by
 have key:∀ (l:List (Nat×W)) (t:Nat) (d:W),(∀ p∈l,tmps.getD p.1 undef=realW σ p.2∧p.2.lt n)→tmps.getD t undef=realW σ d→d.lt n→tmps.getD t undef=realW σ (lookT l t d)∧(lookT l t d).lt n:=fun l=>by
  induction l with
  | nil=>intro t d _ h1 h2;exact ⟨h1,h2⟩
  | cons p l ih =>
   intro t d hp h1 h2
   show tmps.getD t undef=realW σ (bif Nat.beq p.1 t then p.2 else lookT l t d)∧(bif Nat.beq p.1 t then p.2 else lookT l t d).lt n
   cases hq:Nat.beq p.1 t with
   | true =>
    have:=Nat.eq_of_beq_eq_true hq
    subst this
    exact hp p List.mem_cons_self
   | false=>exact ih t d (fun q hq=>hp q (List.mem_cons_of_mem _ hq)) h1 h2
 exact ⟨fun t=>(key l t (.v (.c (.raw (tmps.getD t undef)))) h rfl trivial).1,fun t=>(key l t (.v (.c (.raw (tmps.getD t undef)))) h rfl trivial).2⟩
section
variable {K:Nat→Option (List Value)} {b:Bs} {σ σ':Env} {m:Mem} {Y:T YRow} {ρ:Rho} {a:Act} {w:World} {lc:LC} {n:Nat}
theorem Aw.unat (h:Aw K (b.at σ n) m Y ρ σ' w) (hn:b.n1≤n) (ha:Agree b.n1 b.σ1 σ):Aw K b m Y ρ σ' w :=
 ⟨h.rel,h.nx,h.agree,Nat.le_trans hn h.nx1,ha.trans hn h.agree1,h.base,h.goes,h.frame,h.own,h.y,h.ag,h.dfr,h.keep,h.klow⟩
theorem HeadAt.base (h:HeadAt K (b.at σ n) lc a w) (hn:b.n1≤n) (ha:Agree b.n1 b.σ1 σ):HeadAt K b lc a w:=by
 obtain ⟨τ,F,us,ds,xs,h1,h2,h3⟩:=h
 refine ⟨τ,F,us,ds,xs,h1,⟨h2.rel,h2.nx,h2.agree,Nat.min_le_right _ _,?_,h2.base,h2.goes,h2.frame,h2.own,h2.y,h2.ag,h2.dfr,h2.keep,h2.klow⟩,h3⟩
 have hle:Nat.min b.n1 lc.mB.nx≤Nat.min n lc.mB.nx:=by
  have e1:=Nat.min_le_left b.n1 lc.mB.nx
  have e2:=Nat.min_le_right b.n1 lc.mB.nx
  exact Nat.le_min.2 ⟨Nat.le_trans e1 hn,e2⟩
 exact (ha.low (Nat.min_le_left _ _)).trans hle h2.agree1
end
theorem As8 (xs:List OdX):datO (xs.map (·.l))=datX xs:=by
 unfold datO datX
 rw [List.map_map]
 rfl
theorem Lv:∀ (os:List OdG) (n:Nat),n≤odNx os n
 | [],n=>Nat.le_refl _
 | o::os,n=>by
  unfold odNx
  cases o.pl with
  | row _=>exact Nat.le_trans (by omega) (Lv os (Nat.succ n))
  | _=>exact Nat.le_trans (by omega) (Lv os (Nat.succ (Nat.succ n)))
theorem Kl {i:Nat} {y:YRow} (S:T Row) (tm:Tm) (Y:T YRow):∀ os:List OdG,(killO S tm Y os).get i=some y→Y.get i=some y∨(y = .dead∧∃ z,Y.get i=some z)
 | [],h=>.inl h
 | o::os,h=>by
  unfold killO at h
  split at h
  ·split at h
   ·rename_i q z hz
    rw [T.get_set] at h
    split at h
    ·rename_i he;subst he;cases h;exact .inr ⟨rfl,_,by assumption⟩
    ·exact Kl S tm Y os h
   ·exact Kl S tm Y os h
  ·exact Kl S tm Y os h
theorem OdAt.move {σ τ:Env} {tmps:Array Value} {o:OdG} {x:OdX} (h:OdAt σ tmps o x) (ht:∀ i,o.pl = .row i→τ.v i=σ.v i∧τ.b i=σ.b i):OdAt τ tmps o x:=by
 unfold OdAt at h ⊢
 split at h
 ·exact h
 ·rename_i i hi
  obtain ⟨h1,h2⟩:=ht i hi
  exact ⟨h1.trans h.1,h2.trans h.2⟩
 ·trivial
theorem OdXs.cut {F:Nat→Prop} {B0:Nat} {σ τ:Env} {S S':T Row} {Y Y':T YRow} {w:World} {tmps:Array Value} {os:List OdG} {xs:List OdX} (h:OdXs F B0 σ S Y w tmps os xs) (hm:∀ x∈xs,OdFree F B0 σ S Y w x→OdFree F B0 τ S' Y' w x) (ht:∀ o∈os,∀ i,o.pl = .row i→τ.v i=σ.v i∧τ.b i=σ.b i):OdXs F B0 τ S' Y' w tmps os xs:=by
 induction h with
 | nil=>exact .nil
 | cons h1 h2 h3 h4 _ ih=>exact .cons (h1.move (ht _ List.mem_cons_self)) h2 (hm _ List.mem_cons_self h3) h4 (ih (fun x hx=>hm x (List.mem_cons_of_mem _ hx)) fun o ho=>ht o (List.mem_cons_of_mem _ ho))
theorem OdXs.move {F:Nat→Prop} {B0:Nat} {σ τ:Env} {S S':T Row} {Y Y':T YRow} {w:World} {tmps:Array Value} {os:List OdG} {xs:List OdX} (h:OdXs F B0 σ S Y w tmps os xs) (hm:∀ x,OdFree F B0 σ S Y w x→OdFree F B0 τ S' Y' w x) (ht:∀ o∈os,∀ i,o.pl = .row i→τ.v i=σ.v i∧τ.b i=σ.b i):OdXs F B0 τ S' Y' w tmps os xs:=h.cut (fun x _=>hm x) ht
theorem Aw.symOs {K:Nat→Option (List Value)} {b:Bs} {F:Nat→Prop} {w:World} {tmps:Array Value}:∀ (os:List OdG) (xs:List OdX) (n:Nat) {σ:Env} {m:Mem} {Y:T YRow} {ρ:Rho} {k:List (List (List D))→Rho→Prop},n=m.nx→Aw K b m Y ρ σ w→YRel F b.F0 b.wB.heap.size σ m Y w→OdXs F b.wB.heap.size σ m.S Y w tmps os xs→(∀ o∈os,∀ i,o.pl = .row i→Lt i m.nx)→allO os n ρ k →
  ∃ (τ:Env) (ρ':Rho),Agree m.nx σ τ∧Aw K b (m.up (odNx os n)) (odRows os n Y) ρ' τ w∧((∀ p∈odT os n,tmps.getD p.1 undef=realW τ p.2∧p.2.lt (odNx os n))∧(odCs os n).map (realC τ)=celV os xs∧∀ c∈odCs os n,C.lt (odNx os n) c)∧datO (xs.map (·.l))=datX xs∧k (xs.map (·.l)) ρ'
 | [],xs,n,σ,m,Y,ρ,k,hn,h,hF,hx,hpl,ha=>by
  cases hx
  subst hn
  exact ⟨σ,ρ,Agree.refl _ _,h,⟨(fun p hp=>by cases hp),rfl,fun c hc=>by cases hc⟩,rfl,ha⟩
 | o::os,[],n,σ,m,Y,ρ,k,hn,h,hF,hx,hpl,ha=>by cases hx
 | o::os,x::xs,n,σ,m,Y,ρ,k,hn,h,hF,hx,hpl,ha=>by
  cases hx with
  | cons h1 h2 h3 h4 h5 =>
  subst hn
  have hτ:=Env.agree_sym σ m.nx .nilFunc (σ.r.setD m.nx x.l) (Am _ _ _)
  obtain ⟨hA2,hG2⟩:=h.num hF hτ (Am ρ m.nx x.l)
  generalize hτd:σ.sym m.nx .nilFunc (σ.r.setD m.nx x.l)=τ at hτ hA2 hG2
  have hdat:τ.r.d m.nx=x.l:=by rw [←hτd];exact Ay _ _ _
  have hb:∀ i,τ.b i=σ.b i:=fun i=>by rw [←hτd];rfl
  have hlive:∀ i y,Y.get i=some y→(live τ i↔live σ i):=fun i y hi=>Ar hτ (hF.row i y hi).1
  have hpl':∀ o∈os,∀ i,o.pl = .row i→Lt i m.nx:=fun o ho=>hpl o (List.mem_cons_of_mem _ ho)
  -- a row of its own
  have fresh:(∀ i,o.pl≠.row i)→(o.pl = .tmp→tmps.getD o.t undef=x.v)→∃ (τ:Env) (ρ':Rho),Agree m.nx σ τ∧Aw K b (m.up (odNx (o::os) m.nx)) (odRows (o::os) m.nx Y) ρ' τ w∧((∀ p∈odT (o::os) m.nx,tmps.getD p.1 undef=realW τ p.2∧p.2.lt (odNx (o::os) m.nx))∧(odCs (o::os) m.nx).map (realC τ)=celV (o::os) (x::xs)∧∀ c∈odCs (o::os) m.nx,C.lt (odNx (o::os) m.nx) c)∧datO ((x::xs).map (·.l))=datX (x::xs)∧k ((x::xs).map (·.l)) ρ':=fun hno htmp=>by
   have e1:odNx (o::os) m.nx=odNx os (m.nx+2):=by
    show (match o.pl with | .row _=>_ | _=>_)=_
    cases hp:o.pl with
    | row i=>exact absurd hp (hno i)
    | _=>rfl
   have e2:odRows (o::os) m.nx Y=odRows os (m.nx+2) (Y.set (m.nx+1) (.od o.e o.z o.own m.nx)):=by
    show (match o.pl with | .row _=>_ | _=>_)=_
    cases hp:o.pl with
    | row i=>exact absurd hp (hno i)
    | _=>rfl
   have ha:∀ y:List (List D),allO os (m.nx+2) (ρ.setD m.nx y) fun l ρ=>k (y::l) ρ:=by
    unfold allO at ha
    cases hp:o.pl with
    | row i=>exact absurd hp (hno i)
    | _=>rw [hp] at ha;exact ha
   obtain ⟨υ,k1,k2,k3,k4,k5,k6⟩:=hA2.symO hG2 (e:=o.e) (z:=o.z) (j:=m.nx) (own:=o.own) (v:=x.v) (g:=x.g) h.rel.ltnx (by rw [hdat,Ay]) (by rw [hdat];exact h2) fun hl=>by
    obtain ⟨g1,g2,g3,g4,g5⟩:=h3 hl
    exact ⟨g1,g2,g3,fun q r hq hb'=>by rw [hb];exact g4 q r hq hb',fun i e z oo j hi hli=>by rw [hb];exact g5 i e z oo j hi ((hlive i _ hi).1 hli)⟩
   have hbx:liveV x.v→υ.b (m.nx+1)=x.g:=fun _=>k6
   have h5':OdXs F b.wB.heap.size υ m.S (Y.set (m.nx+1) (.od o.e o.z o.own m.nx)) w tmps os xs:=h5.cut (fun y hy hf hl=>by
    obtain ⟨g1,g2,g3,g4,g5⟩:=hf hl
    refine ⟨g1,g2,g3,fun q r hq hb'=>?_,fun i e z oo j hi hli=>?_⟩
    ·rw [k1.b q ((h.rel.lt q r hq).mono (Nat.le_succ _)),hb];exact g4 q r hq hb'
    ·rw [T.get_set] at hi
     split at hi
     ·rename_i he
      subst he
      have hlx:liveV x.v:=by
       obtain ⟨a,q,c,hv,hc⟩:=hli
       have:realC υ (.fz (m.nx+1)) = .slice a q c:=by simp only [realC,hv]
       rw [show realC υ (.fz (m.nx+1))=x.v from k4] at this
       exact ⟨a,q,c,this,hc⟩
      rw [hbx hlx]
      exact h4 y hy hlx hl
     ·have hlt:=(hF.row i _ hi).1
      rw [k1.b i (hlt.mono (Nat.le_succ _)),hb]
      exact g5 i e z oo j hi ((hlive i _ hi).1 ((Ar k1 (hlt.mono (Nat.le_succ _))).1 hli))) fun o' ho' i hi=>by
    have hlt:=hpl' o' ho' i hi
    exact ⟨by rw [k1.v i (hlt.mono (Nat.le_succ _)),hτ.v i hlt],by rw [k1.b i (hlt.mono (Nat.le_succ _)),hb]⟩
   obtain ⟨φ,ρ',j1,j2,⟨j3,j3b,j3c⟩,j4,j5⟩:=Aw.symOs os xs (m.nx+2) (m:=m.up (m.nx+1+1)) rfl k2 k3 h5' (fun o' ho' i hi=>(hpl' o' ho' i hi).mono (by show m.nx≤m.nx+2;omega)) (ha x.l)
   have hreal:realC φ (.fz (m.nx+1))=x.v:=by rw [j1.realC (x := .fz (m.nx+1)) k5];exact k4
   have hlt5:C.lt (odNx os (m.nx+2)) (.fz (m.nx+1)):=Lt.mono k5 (Lv os (m.nx+2))
   refine ⟨φ,ρ',(hτ.trans (Nat.le_succ _) k1).trans (by show m.nx≤m.nx+2;omega) j1,?_,⟨fun p hpm=>?_,?_,fun c hc=>?_⟩,As8 _,j5⟩
   ·rw [e1,e2];exact j2
   ·rw [e1]
    cases hp:o.pl with
    | row i=>exact absurd hp (hno i)
    | tmp =>
     have e3:odT (o::os) m.nx=(o.t,W.v (.c (.fz (m.nx+1))))::odT os (m.nx+2):=by show (match o.pl with | .tmp=>_ | .row _=>_ | .cel _ _=>_)=_;rw [hp]
     rw [e3] at hpm
     rcases List.mem_cons.1 hpm with rfl | hpm
     ·refine ⟨?_,hlt5⟩
      show tmps.getD o.t undef=realC φ (.fz (m.nx+1))
      rw [htmp hp]
      exact hreal.symm
     ·exact j3 p hpm
    | cel r j =>
     have e3:odT (o::os) m.nx=odT os (m.nx+2):=by show (match o.pl with | .tmp=>_ | .row _=>_ | .cel _ _=>_)=_;rw [hp]
     rw [e3] at hpm
     exact j3 p hpm
   ·unfold odCs celV
    cases hp:o.pl with
    | row i=>exact absurd hp (hno i)
    | tmp=>exact j3b
    | cel r j=>show _::_=_;rw [hreal];exact congrArg _ j3b
   ·rw [e1]
    unfold odCs at hc
    cases hp:o.pl with
    | row i=>exact absurd hp (hno i)
    | tmp=>rw [hp] at hc;exact j3c c hc
    | cel r j =>
     rw [hp] at hc
     rcases List.mem_cons.1 hc with rfl | hc
     ·exact hlt5
     ·exact j3c c hc
  cases hp:o.pl with
  | tmp =>
   unfold OdAt at h1
   rw [hp] at h1
   exact fresh (fun i hi=>by rw [hp] at hi;cases hi) fun _=>h1
  | cel r j=>exact fresh (fun i hi=>by rw [hp] at hi;cases hi) fun hi=>by rw [hp] at hi;cases hi
  | row i =>
   unfold OdAt at h1
   rw [hp] at h1
   obtain ⟨h1v,h1b⟩:σ.v i=x.v∧σ.b i=x.g:=h1
   unfold allO at ha
   rw [hp] at ha
   have hlt:=hpl o List.mem_cons_self i hp
   have hlv:live τ i↔liveV x.v:=by unfold live liveV;rw [hτ.v i hlt,h1v]
   obtain ⟨k2,k3⟩:=hA2.reod hG2 (i:=i) (e:=o.e) (z:=o.z) (j:=m.nx) (own:=o.own) (hlt.mono (Nat.le_succ _)) h.rel.ltnx (by rw [hdat,Ay]) (by rw [hdat,hb,hτ.v i hlt,h1v,h1b];exact h2) fun hl=>by
    obtain ⟨g1,g2,g3,g4,g5⟩:=h3 (hlv.1 hl)
    rw [hb,h1b]
    exact ⟨g1,g2,g3,fun q r hq hb'=>by rw [hb];exact g4 q r hq hb',fun q e z oo j _ hq hlq=>by rw [hb];exact g5 q e z oo j hq ((hlive q _ hq).1 hlq)⟩
   have h5':OdXs F b.wB.heap.size τ m.S (Y.set i (.od o.e o.z o.own m.nx)) w tmps os xs:=h5.cut (fun y hy hf hl=>by
    obtain ⟨g1,g2,g3,g4,g5⟩:=hf hl
    refine ⟨g1,g2,g3,fun q r hq hb'=>by rw [hb];exact g4 q r hq hb',fun q e z oo j hq hlq=>?_⟩
    rw [T.get_set] at hq
    split at hq
    ·rename_i he
     subst he
     rw [hb,h1b]
     exact h4 y hy (hlv.1 hlq) hl
    ·rw [hb]
     exact g5 q e z oo j hq ((hlive q _ hq).1 hlq)) fun o' ho' q hq=>by
    have hlt:=hpl' o' ho' q hq
    exact ⟨hτ.v q hlt,hb q⟩
   obtain ⟨φ,ρ',j1,j2,⟨j3,j3b,j3c⟩,j4,j5⟩:=Aw.symOs os xs (m.nx+1) (m:=m.up (m.nx+1)) rfl k2 k3 h5' (fun o' ho' q hq=>(hpl' o' ho' q hq).mono (Nat.le_succ _)) (ha x.l)
   have e1:odNx (o::os) m.nx=odNx os (m.nx+1):=by show (match o.pl with | .row _=>_ | _=>_)=_;rw [hp]
   refine ⟨φ,ρ',hτ.trans (Nat.le_succ _) j1,?_,⟨fun p hpm=>?_,?_,fun c hc=>?_⟩,As8 _,j5⟩
   ·have e2:odRows (o::os) m.nx Y=odRows os (m.nx+1) (Y.set i (.od o.e o.z o.own m.nx)):=by show (match o.pl with | .row _=>_ | _=>_)=_;rw [hp]
    rw [e1,e2];exact j2
   ·have e3:odT (o::os) m.nx=odT os (m.nx+1):=by show (match o.pl with | .tmp=>_ | .row _=>_ | .cel _ _=>_)=_;rw [hp]
    rw [e1]
    rw [e3] at hpm
    exact j3 p hpm
   ·unfold odCs celV
    rw [hp]
    exact j3b
   ·unfold odCs at hc
    rw [hp] at hc
    rw [e1]
    exact j3c c hc
section
variable {P:Program} {K:Nat→Option (List Value)} {s s':St} {ρ ρ':Rho} {Q:Post}
def joinS (s:St) (c:Cur) (ks:List Kt) (h:Hint) (g:Nat→Value) (vs:List V) (n:Nat) (Y:T YRow) (bx:Option BoxT:=none):St :=
 ⟨c,ks,⟨toldW h.gens (vs.take h.gens.length)++(odT h.ods (boxN bx n)++(boxTm bx n++keepL s.tm h.keep)),g⟩,⟨boxS bx n (setsC s.m.S (h.cells++ocs h.ods) ((vs.drop h.gens.length).map cellV++odCs h.ods (boxN bx n))),odNx h.ods (boxN bx n),s.m.lo⟩,odRows h.ods (boxN bx n) Y,s.nt,s.key⟩
def headS (s:St) (c:Code) (j:Nat) (h:Hint) (g:Nat→Value) (vs:List V) (n:Nat) (Y:T YRow) (bx:Option BoxT:=none):St:=joinS s (.code c) (.loop c (some j)::s.ks) h g vs n Y bx
theorem Amd {b:Bs} {σ:Env} {a:Act} {w:World} {h:Hint} (hA:At K b s ρ σ a w) (hpl:atB s.Y s.m.nx h.ods=true):∀ o∈h.ods,∀ i,o.pl = .row i→Lt i s.m.nx:=fun o ho i hi=>by
 obtain ⟨F0,hF0⟩:=hA.aw.y
 have:=List.all_eq_true.1 hpl o ho
 simp only [hi,Bool.and_eq_true] at this
 obtain ⟨_,h3⟩:=this
 split at h3
 ·rename_i y hy;exact (hF0.row i y hy).1
 ·cases h3
theorem Ys {b:Bs} {σ:Env} {a:Act} {w:World} (hA:At K b s ρ σ a w) (os:List OdG):∀ i y,(killO s.m.S s.tm s.Y os).get i=some y→Lt i s.m.nx∧(s.Y.get i=some y∨y = .dead):=fun i y hi=>by
 obtain ⟨F0,hF0⟩:=hA.aw.y
 rcases Kl _ _ _ os hi with h | ⟨h,z,hz⟩
 ·exact ⟨(hF0.row i y h).1, .inl h⟩
 ·exact ⟨(hF0.row i z hz).1, .inr h⟩
theorem Yq {b:Bs} {σ:Env} {a:Act} {w:World} {h:Hint} {bx:Option BoxT} (hA:At K b s ρ σ a w) (hpl:atB s.Y s.m.nx h.ods=true) (σ':Env) (k:Nat) (hag:SymAg ρ σ' (killO s.m.S s.tm s.Y h.ods)):Link (b.at σ' s.m.nx) (lcOf s ρ h k bx):=by
 obtain ⟨F0,hF0⟩:=hA.aw.y
 have hkill:=Ys hA h.ods
 exact ⟨Nat.le_refl _,hA.aw.nx,hag,fun i y hi=>⟨(hkill i y hi).1,by
   rcases (hkill i y hi).2 with h3 | rfl
   ·exact (hF0.row i y h3).2.ylt
   ·trivial⟩,fun i r hi=>⟨hA.aw.rel.lt i r hi,(hA.aw.rel.row i r hi).rlt⟩,fun p hp=>by
   obtain ⟨t,_,rfl⟩:=List.mem_map.1 hp
   exact hA.tm.lt t,hA.aw.keep,hA.aw.rel.fresh⟩
theorem Zv (bx:Option BoxT) (n:Nat):n≤boxN bx n:=by
 cases bx with
 | none=>exact Nat.le_refl _
 | some _=>exact Nat.le_succ _
theorem Al0 {σ:Env} {n:Nat} {S S':T Row} (bx:Option BoxT) (q:Nat) (h:SLike σ n S S'):SLike σ n (boxS bx q S) (boxS bx q S'):=by
 cases bx with
 | none=>exact h
 | some b =>
  intro i
  show ((S.set q _).get i=none→(S'.set q _).get i=none)∧∀ r,(S.set q _).get i=some r→∃ r',(S'.set q _).get i=some r'∧RowLike σ n r r'
  rw [T.get_set,T.get_set]
  split
  ·exact ⟨fun h=>(by cases h),fun r hr=>⟨_,rfl,(by cases hr;exact .inl rfl)⟩⟩
  ·exact h i
theorem Abg:∀ (cells:List (Nat×Nat)) (cs:List C) (S:T Row) {q:Nat} {r:Row},(setsC S cells cs).get q=some r→∃ r',S.get q=some r'∧r.blk=r'.blk
 | [],cs,S,q,r,h=>⟨r,h,rfl⟩
 | p::cells,[],S,q,r,h=>⟨r,h,rfl⟩
 | p::cells,c::cs,S,q,r,h=>by
  obtain ⟨r1,h1,h2⟩:=Abg cells cs _ h
  unfold set1C at h1
  split at h1
  ·rename_i e k t hp
   rw [T.get_set] at h1
   split at h1
   ·rename_i he
    subst he
    cases h1
    exact ⟨_,hp,h2⟩
   ·exact ⟨r1,h1,h2⟩
  ·exact ⟨r1,h1,h2⟩
theorem HeadAt.into {b:Bs} {h:Hint} {k:Nat} {a:Act} {w:World} {c:Cur} {ks:List Kt} {bx:Option BoxT} {Ψ:List DV→List V→Nat→T YRow→List (List (List D))→Rho→Prop} (hok:okH h=true) (hplt:∀ o∈h.ods,∀ i,o.pl = .row i→Lt i s.m.nx) (hbn:b.n1≤s.m.nx) (hh:HeadAt K b (lcOf s ρ h k bx) a w)
  (body:allV h.rks s.m.nx (killO s.m.S s.tm s.Y h.ods) ρ fun ds vs n' Y' ρ'=>allO h.ods (boxN bx n') ρ' fun ls ρ'=>Ψ ds vs n' Y' ls ρ') :
  ∃ (σ':Env) (ds:List DV) (vs:List V) (n':Nat) (Y':T YRow) (xs:List OdX) (υ:Env) (ρ2:Rho),SymAg ρ σ' (killO s.m.S s.tm s.Y h.ods)∧Agree b.n1 b.σ1 σ'∧At K (b.at σ' s.m.nx) (joinS s c ks h (fun t=>a.tmps.getD t undef) vs n' Y' bx) ρ2 υ a w∧Ψ ds vs n' Y' (xs.map (·.l)) ρ2∧h.inv ρ (ds++datO (xs.map (·.l)))∧h.mu ρ (ds++datO (xs.map (·.l)))<k:=by
 obtain ⟨σ',F',us,ds,xs,hlen,hAw,hF',hrv,hkeep,hnt,hmks,hox,hin,hmu,hbx⟩:=hh
 have hlen:us.length=h.cells.length:=hlen
 obtain ⟨τ,vs,n',Y',ρ',q0,q1,q2,q3,q4,q5,q6,q7⟩:=Aw.symR h.rks ds (mapN a.tmps h.gens++us) s.m.nx (m:=headM (lcOf s ρ h k bx) us xs) rfl hAw hF' hrv body
 have hag1:Agree b.n1 b.σ1 σ':=hAw.agree1.low (show b.n1≤Nat.min b.n1 s.m.nx from Nat.le_min.2 ⟨Nat.le_refl _,hbn⟩)
 have hml:(mapN a.tmps h.gens).length=h.gens.length:=by simp [mapN]
 have hvl:vs.length=h.gens.length+us.length:=by
  have:=congrArg List.length q4
  rw [List.length_map,List.length_append,hml] at this
  exact this
 have htake:(vs.take h.gens.length).map (realV τ)=mapN a.tmps h.gens:=by
  rw [List.map_take,q4,←hml,List.take_left]
 have hdrop:(vs.drop h.gens.length).map (realV τ)=us:=by
  rw [List.map_drop,q4,←hml,List.drop_left]
 -- no cell is a whole of cells
 have hcell:∀ (i:Nat) (v:V) (u:Value),(vs.drop h.gens.length)[i]?=some v→us[i]?=some u→∃ x,v = .c x∧realC τ x=u:=fun i v u hv hu=>by
  have hr:realV τ v=u:=by
   have:=congrArg (·[i]?) hdrop
   simp only [List.getElem?_map,hv,hu,Option.map_some,Option.some.injEq] at this
   exact this
  cases v with
  | c x=>exact ⟨x,rfl,hr⟩
  | a cs =>
   exfalso
   unfold okH at hok
   simp only [Bool.and_eq_true] at hok
   obtain ⟨k1,k2⟩:=hok
   have k1:=nbeq k1
   have key:∀ {rs:List RK} {ds:List DV} {us:List Value} {F:Nat→Prop} {B0:Nat},RVs F B0 w rs ds us→∀ (i:Nat) (r:RK) (u:Value),rs[i]?=some r→us[i]?=some u→∃ d,RV F B0 w r d u:=fun {rs ds us F B0} hh=>by
    induction hh with
    | nil=>intro i r u hr _;simp at hr
    | cons hx _ ih =>
     intro i r u hr hu
     cases i with
     | zero=>simp at hr hu;subst hr hu;exact ⟨_,hx⟩
     | succ i=>exact ih i r u hr hu
   have hil:i<us.length:=(List.getElem?_eq_some_iff.1 hu).1
   have hrl:h.gens.length+i<h.rks.length:=by
    have e1:=hrv.len
    have e2:(mapN a.tmps h.gens++us).length=h.rks.length:=e1
    rw [List.length_append,hml] at e2
    omega
   obtain ⟨d,hd⟩:=key hrv (h.gens.length+i) _ u (List.getElem?_eq_getElem hrl) (by
    show (mapN a.tmps h.gens++us)[h.gens.length+i]?=some u
    rw [List.getElem?_append_right (by rw [hml];omega),hml,Nat.add_sub_cancel_left];exact hu)
   have hagg:(h.rks[h.gens.length+i]).agg=false:=by
    have:=List.all_eq_true.1 k2 (h.rks[h.gens.length+i]) (by
     rw [List.mem_iff_getElem?]
     exact ⟨i,by rw [List.getElem?_drop];exact List.getElem?_eq_getElem hrl⟩)
    simpa using this
   generalize h.rks[h.gens.length+i]=r at hd hagg
   rw [←hr] at hd
   generalize hv':realV τ (.a cs)=v' at hd
   cases hd with
   | c kd own d v hdk hrd=>subst hv';exact RD.ne_agg hrd
   | a ks own ds vs hdk hrd=>cases hagg
 have hdl:(vs.drop h.gens.length).length=us.length:=by rw [List.length_drop,hvl];omega
 -- the cells told by symbols,first the plain ones
 have hsl:SLike τ n' (headM (lcOf s ρ h k bx) us xs).S (setsC s.m.S (h.cells++ocs h.ods) ((vs.drop h.gens.length).map cellV++(celV h.ods xs).map .raw)):=Kb (h.cells++ocs h.ods) _ _ _ _ (SLike.refl _ _ _) (by
  show ((us++celV h.ods xs).map _).length=_
  rw [List.length_map,List.length_append,List.length_append,List.length_map,List.length_map,hdl]) fun i x x' hx hx'=>by
  rw [show (us++celV (lcOf s ρ h k bx).ods xs).map C.raw=us.map C.raw++(celV h.ods xs).map C.raw from List.map_append,List.getElem?_append,List.length_map] at hx
  rw [List.getElem?_append,List.length_map,hdl] at hx'
  split at hx
  ·rename_i hi
   rw [if_pos hi] at hx'
   rw [List.getElem?_map] at hx hx'
   cases hu:us[i]? with
   | none=>rw [hu] at hx;cases hx
   | some u =>
    rw [hu] at hx;cases hx
    cases hv:(vs.drop h.gens.length)[i]? with
    | none=>rw [hv] at hx';cases hx'
    | some v =>
     rw [hv] at hx';cases hx'
     obtain ⟨y,rfl,hy⟩:=hcell i v u hv hu
     exact ⟨hy,fun _=>q5 _ (List.mem_of_mem_drop (List.mem_of_getElem? hv))⟩
  ·rename_i hi
   rw [if_neg hi] at hx'
   rw [hx] at hx'
   cases hx'
   exact ⟨rfl,fun h=>h⟩
 obtain ⟨h1,h2⟩:=q2.like hsl
 -- own data
 have hox2:OdXs F' b.wB.heap.size τ (setsC s.m.S (h.cells++ocs h.ods) ((vs.drop h.gens.length).map cellV++(celV h.ods xs).map .raw)) Y' w a.tmps h.ods xs:=hox.move (fun x hx hl=>by
  obtain ⟨g1,g2,g3,g4,g5⟩:=hx hl
  refine ⟨g1,g2,g3,fun q r hq hb=>?_,fun i e z o jj hi hli=>?_⟩
  ·obtain ⟨r',h5,h6⟩:=hsl.back hq
   rw [q1.b q (hAw.rel.lt q r' h5)]
   exact g4 q r' h5 (by rw [h6.blk.1];exact hb)
  ·have hi0:=q7 i _ hi rfl
   have hli0:=(hF'.row i _ hi0).1
   rw [q1.b i hli0]
   exact g5 i e z o jj hi0 ((Ar q1 hli0).1 hli)) fun o ho i hi=>⟨q1.v i (hplt o ho i hi),q1.b i (hplt o ho i hi)⟩
 -- the box
 obtain ⟨τ2,g1,g2,g3,g4,g5⟩:∃ τ2,Agree n' τ τ2∧Aw K (b.lim s.m.nx) ⟨boxS bx n' (setsC s.m.S (h.cells++ocs h.ods) ((vs.drop h.gens.length).map cellV++(celV h.ods xs).map .raw)),boxN bx n',s.m.lo⟩ Y' ρ' τ2 w∧YRel F' b.F0 b.wB.heap.size τ2 ⟨boxS bx n' (setsC s.m.S (h.cells++ocs h.ods) ((vs.drop h.gens.length).map cellV++(celV h.ods xs).map .raw)),boxN bx n',s.m.lo⟩ Y' w∧OdXs F' b.wB.heap.size τ2 (boxS bx n' (setsC s.m.S (h.cells++ocs h.ods) ((vs.drop h.gens.length).map cellV++(celV h.ods xs).map .raw))) Y' w a.tmps h.ods xs∧∀ p∈boxTm bx n',a.tmps.getD p.1 undef=realW τ2 p.2∧p.2.lt (boxN bx n'):=by
  cases bx with
  | none=>exact ⟨τ,Agree.refl _ _,h1,h2 F' q6,hox2,fun p hp=>by cases hp⟩
  | some bx =>
   obtain ⟨g,o,hb⟩:=hbx
   have hb2:BoxAt K F' b.wB.heap.size τ n' (setsC s.m.S (h.cells++ocs h.ods) ((vs.drop h.gens.length).map cellV++(celV h.ods xs).map .raw)) Y' w a.tmps xs bx g o:=⟨hb.val,by
    obtain ⟨arr,r1,r2,r3⟩:=hb.row
    refine ⟨arr,r1,r2,fun j hj=>?_⟩
    obtain ⟨c,c1,c2,c3⟩:=r3 j hj
    exact ⟨c,c1,C.lt.mono c2 q0,by rw [q1.realC c2];exact c3⟩,hb.kn,hb.own,hb.fz,fun q r hq hr=>by
    obtain ⟨r1,h7,h8⟩:=hsl.back hq
    obtain ⟨r',h5,h6⟩:=Abg _ _ _ hq
    rw [q1.b q (hAw.rel.lt q r1 h7)]
    exact hb.free q r' h5 (by rw [←h6];exact hr),fun i e z q j hi hl=>by
    have hi0:=q7 i _ hi rfl
    have hli0:=(hF'.row i _ hi0).1
    rw [q1.b i hli0]
    exact hb.od i e z q j hi0 ((Ar q1 hli0).1 hl),hb.xs⟩
   obtain ⟨τ2,k1,k2,k3,k4,k5⟩:=Aw.addBox h1 (h2 F' q6) hb2
   refine ⟨τ2,k1,k2,k3,hox2.cut (fun x hx hf hl=>?_) (fun o ho i hi=>⟨k1.v i ((hplt o ho i hi).mono q0),k1.b i ((hplt o ho i hi).mono q0)⟩),fun p hp=>?_⟩
   ·obtain ⟨f1,f2,f3,f4,f5⟩:=hf hl
    refine ⟨f1,f2,f3,fun q r hq hr=>?_,fun i e z o' jj hi hli=>?_⟩
    ·have hq:((setsC s.m.S (h.cells++ocs h.ods) ((vs.drop h.gens.length).map cellV++(celV h.ods xs).map .raw)).set n' (.cells bx.e bx.k bx.cs)).get q=some r:=hq
     rw [T.get_set] at hq
     split at hq
     ·rename_i he
      subst he
      rw [show τ2.b q=g from k4]
      exact fun he=>hb.xs x hx hl he.symm
     ·rw [k1.b q (h1.rel.lt q r hq)]
      exact f4 q r hq hr
    ·have hli0:=((h2 F' q6).row i _ hi).1
     rw [k1.b i hli0]
     exact f5 i e z o' jj hi ((Ar k1 hli0).1 hli)
   ·have hp:p=(bx.t, .v (.c (.ptr n' 0))):=by simpa [boxTm] using hp
    subst hp
    refine ⟨?_,h1.rel.ltnx⟩
    rw [hb.val]
    show _=Value.pointer (some ⟨τ2.b n',τ2.o n'+0,none⟩)
    rw [show τ2.b n'=g from k4,show τ2.o n'=o from k5]
    rfl
 obtain ⟨υ,ρ2,o1,o2,⟨o3,o3b,o3c⟩,o4⟩:=Aw.symOs h.ods xs (boxN bx n') (m:=⟨boxS bx n' (setsC s.m.S (h.cells++ocs h.ods) ((vs.drop h.gens.length).map cellV++(celV h.ods xs).map .raw)),boxN bx n',s.m.lo⟩) rfl g2 g3 g4 (fun o ho i hi=>(hplt o ho i hi).mono (Nat.le_trans q0 (Zv bx n'))) q3
 have o1':Agree n' τ υ:=g1.trans (Zv bx n') o1
 have q1:=q1.trans q0 o1'
 have q0:s.m.nx≤odNx h.ods (boxN bx n'):=Nat.le_trans (Nat.le_trans q0 (Zv bx n')) (Lv _ _)
 -- .. and those of own data
 have hsl2:SLike υ (odNx h.ods (boxN bx n')) (boxS bx n' (setsC s.m.S (h.cells++ocs h.ods) ((vs.drop h.gens.length).map cellV++(celV h.ods xs).map .raw))) (boxS bx n' (setsC s.m.S (h.cells++ocs h.ods) ((vs.drop h.gens.length).map cellV++odCs h.ods (boxN bx n')))):=Al0 bx n' (Kb (h.cells++ocs h.ods) _ _ _ _ (SLike.refl _ _ _) (by
  simp only [List.length_append,List.length_map,←o3b]) fun i x x' hx hx'=>by
  rw [List.getElem?_append] at hx hx'
  split at hx
  ·rename_i hi
   rw [if_pos hi] at hx'
   rw [hx] at hx'
   cases hx'
   exact ⟨rfl,fun h=>h⟩
  ·rename_i hi
   rw [if_neg hi] at hx'
   rw [←o3b,List.getElem?_map,List.getElem?_map,hx'] at hx
   cases hx
   exact ⟨rfl,fun _=>o3c _ (List.mem_of_getElem? hx')⟩)
 obtain ⟨h1,_⟩:=o2.like hsl2
 have hAw2:Aw K (b.at σ' s.m.nx) ⟨boxS bx n' (setsC s.m.S (h.cells++ocs h.ods) ((vs.drop h.gens.length).map cellV++odCs h.ods (boxN bx n'))),odNx h.ods (boxN bx n'),s.m.lo⟩ (odRows h.ods (boxN bx n') Y') ρ2 υ w :=
  ⟨h1.rel,h1.nx,h1.agree,q0,q1,h1.base,h1.goes,h1.frame,h1.own,h1.y,h1.ag,h1.dfr,h1.keep,h1.klow⟩
 have hT:TmOk υ (odNx h.ods (boxN bx n')) a.tmps ⟨toldW h.gens (vs.take h.gens.length)++(odT h.ods (boxN bx n')++(boxTm bx n'++keepL s.tm h.keep)),fun t=>a.tmps.getD t undef⟩:=TmOk.told fun p hp=>by
  rcases List.mem_append.1 hp with hp | hp
  ·have key:∀ (l:List Tmp) (vs:List V),vs.map (realV τ)=mapN a.tmps l→(∀ v∈vs,V.lt n' v)→p∈toldW l vs→a.tmps.getD p.1 undef=realW υ p.2∧p.2.lt (odNx h.ods (boxN bx n')):=fun l=>by
    induction l with
    | nil=>intro vs _ _ h;cases vs <;> cases h
    | cons t l ih =>
     intro vs hv hl hm
     cases vs with
     | nil=>cases hm
     | cons v vs =>
      have hv':realV τ v::vs.map (realV τ)=a.tmps.getD t undef::mapN a.tmps l:=hv
      rcases List.mem_cons.1 (show p∈(t,W.v v)::toldW l vs from hm) with rfl | hm
      ·exact ⟨by rw [show realW υ (W.v v)=realV υ v from rfl,o1'.realV (hl v List.mem_cons_self)];exact (List.cons.inj hv').1.symm,V.lt.mono (hl v List.mem_cons_self) (Nat.le_trans (Zv bx n') (Lv _ _))⟩
      ·exact ih vs (List.cons.inj hv').2 (fun x hx=>hl x (List.mem_cons_of_mem _ hx)) hm
   exact key _ _ htake (fun v hv=>q5 v (List.mem_of_mem_take hv)) hp
  ·rcases List.mem_append.1 hp with hp | hp
   ·exact o3 p hp
   ·rcases List.mem_append.1 hp with hp | hp
    ·obtain ⟨h3,h4⟩:=g5 p hp
     exact ⟨by rw [o1.realW h4];exact h3,h4.mono (Lv _ _)⟩
    obtain ⟨h3,h4⟩:=hkeep p hp
    exact ⟨by rw [q1.realW h4];exact h3,h4.mono q0⟩
 exact ⟨σ',ds,vs,n',Y',xs,υ,ρ2,hAw.ag,hag1,⟨hAw2,hT,hnt,hmks⟩,o4.2,by rw [o4.1];exact hin,by rw [o4.1];exact hmu⟩
theorem At.at {b:Bs} {σ:Env} {a:Act} {w:World} {c:Cur} {ks:List Kt} (hA:At K b s ρ σ a w):At K (b.at σ s.m.nx) ⟨c,ks,s.tm,s.m,s.Y,s.nt,s.key⟩ ρ σ a w:=⟨⟨hA.aw.rel,hA.aw.nx,hA.aw.agree,Nat.le_refl _,Agree.refl _ _,hA.aw.base,hA.aw.goes,hA.aw.frame,hA.aw.own,hA.aw.y,hA.aw.ag,hA.aw.dfr,hA.aw.keep,hA.aw.klow⟩,hA.tm,hA.nt,hA.mks⟩
theorem QOk.at {b:Bs} {nt:Nat} {Qw:Qs} {σ:Env} {n:Nat} {q:Exit→Tm→Mem→T YRow→Rho→Prop} {L:List (Nat×LC)} (hbn:b.n1≤n) (ha:Agree b.n1 b.σ1 σ) (hQ:QOk K b nt ⟨q,L⟩ Qw) (j:Nat) (lc:LC) (Φ:Act→World→Prop) (hL:Link (b.at σ n) lc) (hΦ:∀ a w,HeadAt K b lc a w→Φ a w):QOk K (b.at σ n) nt ⟨q,(j,lc)::dropJ j L⟩ ⟨Qw.q,fun i=>if i=j then Φ else Qw.Λ i,Qw.np⟩:=⟨fun e tm m Y ρ2 key σ2 a2 w2 hq hA2=>hQ.1 e tm m Y ρ2 key σ2 a2 w2 hq ⟨hA2.aw.unat hbn ha,hA2.tm,hA2.nt,hA2.mks⟩,fun p hp=>by
 rcases List.mem_cons.1 hp with rfl | hp
 ·refine ⟨hL,fun a2 w2 hh2=>?_⟩
  show (if j=j then Φ else Qw.Λ j) a2 w2
  rw [if_pos rfl]
  exact hΦ a2 w2 (hh2.base hbn ha)
 ·obtain ⟨hp1,hp2⟩:=Sf _ _ _ hp
  obtain ⟨L,hΛ⟩:=hQ.2 p hp1
  refine ⟨⟨Nat.le_trans L.nx hbn,L.n0,fun i y hi=>(L.ag i y hi).agree' ((L.ylt i y hi).1.mono L.nx) ha (hylt' L.nx (L.ylt i y hi).2),L.ylt,L.rlt,L.klt,L.loops,L.fresh⟩,fun a2 w2 hh2=>?_⟩
  show (if p.1=j then Φ else Qw.Λ p.1) a2 w2
  rw [if_neg hp2]
  exact hΛ a2 w2 (hh2.base hbn ha)⟩
theorem QOk.low {b:Bs} {nt:Nat} {Qw:Qs} {σ:Env} {n:Nat} (hbn:b.n1≤n) (ha:Agree b.n1 b.σ1 σ) (hQ:QOk K b nt Q Qw):QOk K (b.at σ n) nt Q Qw:=⟨fun e tm m Y ρ2 key σ2 a2 w2 hq hA2=>hQ.1 e tm m Y ρ2 key σ2 a2 w2 hq ⟨hA2.aw.unat hbn ha,hA2.tm,hA2.nt,hA2.mks⟩,fun p hp=>by
 obtain ⟨L,hΛ⟩:=hQ.2 p hp
 exact ⟨⟨Nat.le_trans L.nx hbn,L.n0,fun i y hi=>(L.ag i y hi).agree' ((L.ylt i y hi).1.mono L.nx) ha (hylt' L.nx (L.ylt i y hi).2),L.ylt,L.rlt,L.klt,L.loops,L.fresh⟩,fun a2 w2 hh2=>hΛ a2 w2 (hh2.base hbn ha)⟩⟩
theorem Ao4 {h:Hint} {i:Nat} {bx:BoxT} (hb:boxI s h=some (i,bx)):s.tm.get bx.t = .v (.c (.ptr i 0))∧s.m.S.get i=some (.cells bx.e bx.k bx.cs):=by
 unfold boxI at hb
 split at hb
 ·cases hb
 ·split at hb
  ·rename_i t _ i' ht
   split at hb
   ·rename_i e k cs hr
    cases hb
    exact ⟨ht,hr⟩
   ·cases hb
  ·cases hb
theorem Arh {b:Bs} {σ:Env} {a:Act} {w:World} {h:Hint} {F:Nat→Prop} (hA:At K b s ρ σ a w) (hF:YRel F b.F0 b.wB.heap.size σ s.m s.Y w):At K b (killB s h) ρ σ a w∧YRel F b.F0 b.wB.heap.size σ (killB s h).m (killB s h).Y w∧(killB s h).m.nx=s.m.nx:=by
 unfold killB
 split
 ·exact ⟨hA,hF,rfl⟩
 ·rename_i p hp
  obtain ⟨i,bx⟩:=p
  obtain ⟨h1,h2⟩:=Ao4 hp
  exact ⟨⟨(hA.aw.dead hF h2).1,hA.tm,hA.nt,hA.mks⟩,hF.dead i,rfl⟩
theorem Atn {c:Code} {j:Nat} {h:Hint} {vs0:List V} {cs0:List C} {ds0:List DV} (hc:s.cur = .code (.loop c)) (hj:freshK j s.ks=true) (hok:okH h=true) (hg:valsG (killB s h) h.gens h.cells=some (vs0,cs0)) (ho:outVs (killB s h).Y ρ h.rks (vs0++cs0.map V.c)=some ds0) {xs0:List (Option (Nat×Nat))} (hod:odGets (killB s h).m.S (killB s h).tm (killB s h).Y (killO (killB s h).m.S (killB s h).tm (killB s h).Y h.ods) h.ods=some xs0) (hod1:odGets s.m.S s.tm s.Y (killO (killB s h).m.S (killB s h).tm (killB s h).Y h.ods) h.ods=some xs0) (hpl:atB (killB s h).Y (killB s h).m.nx h.ods=true) (hinv:h.inv ρ (ds0++odDat ρ xs0)) (hb0:backB (lcOf (killB s h) ρ h 0 (boxOf s h)) (killB s h)=true)
  (body:∀ g,allV h.rks (killB s h).m.nx (killO (killB s h).m.S (killB s h).tm (killB s h).Y h.ods) ρ fun ds vs n' Y' ρ'=>allO h.ods (boxN (boxOf s h) n') ρ' fun ls ρ'=>h.inv ρ (ds++datO ls)→Sx P K (headS (killB s h) c j h g vs n' Y' (boxOf s h)) ρ' ⟨Q.q,(j,lcOf (killB s h) ρ h (h.mu ρ (ds++datO ls)) (boxOf s h))::dropJ j Q.L⟩):Sx P K s ρ Q:=by
 intro F hF n b hB Qw hQ σ a w hA0
 obtain ⟨F0,hF0⟩:=hA0.aw.y
 obtain ⟨hA,hFk,_⟩:=Arh (h:=h) hA0 hF0
 have hks:(killB s h).ks=s.ks:=by unfold killB;split <;> rfl
 have hYY:(killB s h).Y=s.Y:=by unfold killB;split <;> rfl
 have hnt:(killB s h).nt=s.nt:=by unfold killB;split <;> rfl
 rw [←hnt] at hQ
 have hbox:∀ (ys:∀ i y,(killO (killB s h).m.S (killB s h).tm (killB s h).Y h.ods).get i=some y→∃ y2,s.Y.get i=some y2∧YSame y y2),BoxIn K b (lcOf (killB s h) ρ h (h.mu ρ (ds0++odDat ρ xs0)+1) (boxOf s h)) σ F0 (xs0.map (odX σ ρ)) a w:=fun ys=>by
  unfold BoxIn
  show match boxOf s h with | none=>True | some bx=>∃ g o,BoxAt K F0 b.wB.heap.size σ (killB s h).m.nx (killB s h).m.S (killO (killB s h).m.S (killB s h).tm (killB s h).Y h.ods) w a.tmps (xs0.map (odX σ ρ)) bx g o
  have hov:=Yl hA0 hF0 (S:=s.m.S) (YB:=killO (killB s h).m.S (killB s h).tm (killB s h).Y h.ods) (fun q r hq hb=>⟨r,hq,hb⟩) ys _ _ hod1
  cases hbI:boxI s h with
  | none=>unfold boxOf;rw [hbI];trivial
  | some p =>
   obtain ⟨i,bx⟩:=p
   obtain ⟨h1,h2⟩:=Ao4 hbI
   have e1:boxOf s h=some bx:=by unfold boxOf;rw [hbI]
   rw [e1]
   have e2:(killB s h).m=⟨s.m.S.set i .dead,s.m.nx,s.m.lo⟩:=by unfold killB;rw [hbI]
   obtain ⟨arr,a1,a2,a3,a4⟩:=hA0.aw.rel.row i _ h2
   refine ⟨σ.b i,σ.o i,⟨?_,⟨arr,a1,a3,fun q hq=>?_⟩,hA0.aw.rel.apart i _ h2 rfl,hA0.aw.own i _ h2 rfl,fun hf=>(hF0.dom _ hf).2.1 i _ h2 rfl rfl,fun q r hq hb he=>?_,fun i' e z q j' hi hl he=>?_,fun x hx hl he=>?_⟩⟩
   ·have:=hA0.tm.get bx.t
    rw [h1] at this
    exact this
   ·obtain ⟨c',c1,c2,c3⟩:=a4 q hq
    exact ⟨c',c1,by rw [e2];exact c2,c3⟩
   ·rw [e2] at hq
    rw [T.get_set] at hq
    split at hq
    ·cases hq;cases hb
    ·rename_i hne
     exact hne (hA0.aw.rel.inj q i r _ hq h2 hb rfl he)
   ·obtain ⟨y2,h5,h6⟩:=ys i' _ hi
    rcases h6 with rfl | ⟨h6,_⟩ | h6
    ·exact (hF0.od i' _ _ _ _ h5 hl).2.2.2 i _ h2 rfl he.symm
    ·cases h6
    ·cases h6
   ·exact (hov.free x hx hl).2.2.2.1 i _ h2 rfl he.symm
 generalize boxOf s h=bx at *
 generalize killB s h=s1 at *
 rw [hc]
 show (Code.loop c).wpIn F n P (after F n P Qw s.ks) a w
 rw [←hks] at hj ⊢
 refine Pc ?_
 have hplt:=Amd hA hpl
 have hbn:=hA.aw.nx1
 have claim:∀ (k:Nat) (a:Act) (w:World),HeadAt K b (lcOf s1 ρ h k bx) a w→LoopAt F n P c (after F n P Qw s1.ks) a w:=by
  intro k
  induction k using Nat.strongRecOn with
  | _ k ih =>
  intro a w hh
  obtain ⟨σ',ds,vs,n',Y',xs,υ,ρ2,hag,hag1,hAt,hΨ,hin,hmu⟩:=hh.into (c := .code c) (ks := .loop c (some j)::s1.ks) hok hplt hbn (body fun t=>a.tmps.getD t undef)
  refine Io ?_
  have hrun:=(hΨ hin) F hF n (b.at σ' s1.m.nx) hB ⟨Qw.q,fun i=>if i=j then LoopAt F n P c (after F n P Qw s1.ks) else Qw.Λ i,Qw.np⟩ (QOk.at hbn hag1 hQ j _ _ (Yq hA hpl σ' _ hag) fun a2 w2 hh2=>ih _ hmu a2 w2 hh2) υ a w hAt
  have haf:after F n P ⟨Qw.q,fun i=>if i=j then LoopAt F n P c (after F n P Qw s1.ks) else Qw.Λ i,Qw.np⟩ s1.ks=after F n P Qw s1.ks:=By (fun i hi=>if_neg hi) s1.ks hj
  have hden:(c.wpIn F n P (Exit.then (if j=j then LoopAt F n P c (after F n P Qw s1.ks) else Qw.Λ j) (after F n P ⟨Qw.q,fun i=>if i=j then LoopAt F n P c (after F n P Qw s1.ks) else Qw.Λ i,Qw.np⟩ s1.ks))) a w:=hrun
  rw [if_pos rfl,haf] at hden
  exact hden
 refine claim (h.mu ρ (ds0++odDat ρ xs0)+1) a w (HeadAt.base (σ:=σ) (n:=s1.m.nx) (HeadAt.of (hA.at (c:=s1.cur) (ks:=s1.ks)) hFk (Yq hA hpl σ _ fun i y hi=>by
  rcases (Ys hA h.ods i y hi).2 with h3 | rfl
  ·exact hA.aw.ag i y h3
  ·trivial) hb0 hg ho hod hinv (Nat.lt_succ_self _) fun _ ys=>hbox fun i y hi=>by
   rw [←hYY];exact ys i y hi) hA.aw.nx1 hA.aw.agree1)
end
end
end Go.Vc

namespace Go.Vc
structure Ob (p:Prop):Prop where
 out:p
theorem Ac {p:Prop}:Ob p↔p:=⟨fun h=>h.out,fun h=>⟨h⟩⟩
inductive Stuck {α:Type} (why:Nat) (x:α):Prop
section
variable {σ τ:Env} {n n1 n2:Nat} {w w1:World}
theorem C.lt.move {H1 H2:Holes} {c:C} (h:@C.lt H1 n1 c) (k:∀ q,@Lt H1 q n1→@Lt H2 q n2):@C.lt H2 n2 c:=by
 cases c <;> first | trivial | exact k _ h
theorem V.lt.move {H1 H2:Holes} {x:V} (h:@V.lt H1 n1 x) (k:∀ q,@Lt H1 q n1→@Lt H2 q n2):@V.lt H2 n2 x:=by
 cases x with
 | c x=>exact C.lt.move (c:=x) h k
 | a cs=>exact fun x hx=>C.lt.move (h x hx) k
theorem W.lt.move {H1 H2:Holes} {x:W} (h:@W.lt H1 n1 x) (k:∀ q,@Lt H1 q n1→@Lt H2 q n2):@W.lt H2 n2 x:=by
 cases x with
 | v x=>exact V.lt.move (x:=x) h k
 | t l=>exact fun x hx=>V.lt.move (h x hx) k
theorem Agree.move {H1 H2:Holes} (h:@Agree H1 n1 σ τ) (k:∀ q,@Lt H2 q n2→@Lt H1 q n1):@Agree H2 n2 σ τ :=
 @Agree.mk H2 n2 σ τ (fun i hi=>@Agree.b H1 _ _ _ h i (k i hi)) (fun i hi=>@Agree.o H1 _ _ _ h i (k i hi)) (fun i hi=>@Agree.k H1 _ _ _ h i (k i hi)) (fun i hi=>@Agree.v H1 _ _ _ h i (k i hi))
  (fun i hi=>@Agree.rn H1 _ _ _ h i (k i hi)) (fun i hi=>@Agree.rt H1 _ _ _ h i (k i hi)) (fun i hi=>@Agree.rs H1 _ _ _ h i (k i hi)) (fun i hi=>@Agree.rd H1 _ _ _ h i (k i hi))
theorem TmOk.move {H1 H2:Holes} {tmps:Array Value} {tm:Tm} (h:@TmOk H1 σ n1 tmps tm) (ag:@Agree H1 n1 σ τ) (k:∀ q,@Lt H1 q n1→@Lt H2 q n2):@TmOk H2 τ n2 tmps tm :=
 let h':=@TmOk.agree H1 σ τ n1 n1 tmps tm h ag (Nat.le_refl _)
 @TmOk.mk H2 τ n2 tmps tm (@TmOk.get H1 _ _ _ _ h') (fun t=>W.lt.move (@TmOk.lt H1 _ _ _ _ h' t) k)
theorem RowOk.move {H1 H2:Holes} {i:Nat} {r:Row} (h:@RowOk H1 σ n1 w i r) (ag:@Agree H1 n1 σ τ) (hi:@Lt H1 i n1) (k:∀ q,@Lt H1 q n1→@Lt H2 q n2) (hb:r.blk=true→w1.heap[σ.b i]?=w.heap[σ.b i]?):@RowOk H2 τ n2 w1 i r:=by
 have h':=@RowOk.keep H1 σ τ w w1 n1 n1 i r h ag hi (Nat.le_refl _) hb
 cases r with
 | cells e q cs =>
  obtain ⟨arr,h1,h2,h3,h4⟩:=h'
  refine ⟨arr,h1,h2,h3,fun j hj=>?_⟩
  obtain ⟨c,hc,hl,ha⟩:=h4 j hj
  exact ⟨c,hc,C.lt.move hl k,ha⟩
 | fn f first caps =>
  obtain ⟨h1,h2,h3⟩:=h'
  exact ⟨h1,fun x hx=>W.lt.move (h2 x hx) k,fun x hx=>W.lt.move (h3 x hx) k⟩
 | val x=>exact ⟨h'.1,V.lt.move h'.2 k⟩
 | loop st p nt tm ps a b =>
  obtain ⟨fn,tmps,df,h1,h2,h3,h4⟩:=h'
  exact ⟨fn,tmps,df,h1,h2,TmOk.move h3 (@Agree.refl H1 n1 τ) k,h4⟩
 | dead=>trivial
 | map k es c=>exact h'
theorem YOk.move {H1 H2:Holes} {F G:Nat→Prop} {B0 i:Nat} {y:YRow} (h:@YOk H1 F B0 σ n1 w i y) (ag:@Agree H1 n1 σ τ) (hi:@Lt H1 i n1) (k:∀ q,@Lt H1 q n1→@Lt H2 q n2) (hG:∀ g,F g→G g) (hc:∀ g j v,F g→w.cell? ⟨g,j,none⟩=some v→w1.cell? ⟨g,j,none⟩=some v) (ho:y.odB=true→live σ i→w1.heap[σ.b i]?=w.heap[σ.b i]?):@YOk H2 G B0 τ n2 w1 i y:=by
 have h':=@YOk.more H1 F G B0 τ w1 n1 i y hG (@YOk.keep H1 F B0 σ τ w w1 n1 n1 i y h hi ag (Nat.le_refl _) hc ho)
 cases y with
 | int=>trivial
 | bool=>trivial
 | str=>trivial
 | dead=>trivial
 | kb b=>exact h'
 | fz own c j=>exact ⟨k _ h'.1,h'.2⟩
 | fp own cs=>exact ⟨h'.1,fun j c hj=>⟨C.lt.move (h'.2 j c hj).1 k,(h'.2 j c hj).2⟩⟩
 | od e z own j=>exact ⟨k _ h'.1,h'.2⟩
 | ep q x z=>exact ⟨k _ h'.1,k _ h'.2.1,h'.2.2⟩
 | ov q x z=>exact ⟨k _ h'.1,k _ h'.2.1,h'.2.2⟩
theorem YAg.move {H1:Holes} {F:Nat→Prop} {B0 i:Nat} {y:YRow} {ρ ρ':Rho} (h:YAg ρ σ i y) (hk:@YOk H1 F B0 σ n1 w i y) (ag:@Agree H1 n1 σ τ) (hi:@Lt H1 i n1) (hr:∀ j,j<n1→ρ'.n j=ρ.n j∧ρ'.t j=ρ.t j∧ρ'.s j=ρ.s j∧ρ'.d j=ρ.d j):YAg ρ' τ i y:=by
 have h':=@YAg.agree H1 F B0 σ τ w ρ n1 i y h hi ag hk
 have hl:=@Lt.lt H1 _ _ hi
 cases y with
 | int=>exact h'.trans (hr i hl).1.symm
 | bool=>exact h'.trans (hr i hl).2.1.symm
 | kb b=>exact h'.trans (hr i hl).2.1.symm
 | str=>exact h'.trans (hr i hl).2.2.1.symm
 | fz o c j=>exact h'.trans (hr j (@Lt.lt H1 _ _ hk.1)).2.2.2.symm
 | od e z o j=>exact h'.trans (hr j (@Lt.lt H1 _ _ hk.1)).2.2.2.symm
 | _=>trivial
end
end Go.Vc

namespace Go.Vc
def OpY (P:Program) (K:Nat→Option (List Value)) (o:Oper) (tm:Tm) (V:T Row) (nx:Nat) (U:T YRow) (ρ:Rho) (x:W) (V':T Row) (nx':Nat) (U':T YRow) (ρ':Rho):Prop :=
 ∀ (HH:Holes) (F:Fence),WF F→∀ (b:Bs) (G:Nat→Prop) (σ:Env) (a:Act) (w:World) (Φ:Value→World→Prop),@Aw HH K b ⟨V,nx,nx⟩ U ρ σ w→@YRel HH G b.F0 b.wB.heap.size σ ⟨V,nx,nx⟩ U w→@TmOk HH σ nx a.tmps tm →
  (∀ τ w' G',@Agree HH nx σ τ→Goes w w'→(∀ g,g<w.heap.size→w'.heap[g]?=w.heap[g]?)→(∀ i r,nx≤i→V'.get i=some r→r.blk=true→w.heap.size≤τ.b i)→(∀ i e z ow jj,nx≤i→U'.get i=some (.od e z ow jj)→live τ i→w.heap.size≤τ.b i)→@Aw HH K b ⟨V',nx',nx⟩ U' ρ' τ w' →
   @YRel HH G' b.F0 b.wB.heap.size τ ⟨V',nx',nx⟩ U' w'→(∀ g,G g→G' g)→(∀ g,G' g→G g∨w.heap.size≤g)→@W.lt HH nx' x→Φ (realW τ x) w')→Und F P Φ ((execOp a.eval o).run P w)
inductive Wt (ops:Array Oper):Nat→Nat→Prop
 | one {j:Nat} {o:Oper} {e:Edge} (ho:ops[j]?=some o) (he:e∈o.after) (hb:Region.binds .any e=true):Wt ops j e.on
 | more {j k:Nat} {o:Oper} {e:Edge} (ho:ops[j]?=some o) (he:e∈o.after) (hb:Region.binds .any e=true) (t:Wt ops e.on k):Wt ops j k
structure RunY (P:Program) (K:Nat→Option (List Value)) (nt:Nat) (ops:Array Oper) (p:Nat) (o:Nat→Oper) (nx:Nat→Nat) (S:T Row) (Y:T YRow) (ρ:Nat→Rho) (tm:Nat→Tm) (did:Nat→Bool) (x:Nat→W) (V V':Nat→T Row) (U U':Nat→T YRow) (vis:Nat→Nat→Prop) (tv:Nat→Tm):Prop where
 op:∀ k,k<p→ops[k]?=some (o k)
 mono:∀ k,k<p→nx k≤nx (k+1)
 rho:∀ k,k<p→RhoEq (nx k) (ρ k) (ρ (k+1))
 put:∀ k,k<p→∀ d,(o k).dst=some d→d<nt∧tm (k+1)=(tm k).set d (x k)
 same:∀ k,k<p→(o k).dst=none→tm (k+1)=tm k
 skip:∀ k,k<p→did k=false→x k=undefW∧nx (k+1)=nx k
 run:∀ k,k<p→did k=true→OpY P K (o k) (tv k) (V k) (nx k) (U k) (ρ k) (x k) (V' k) (nx (k+1)) (U' k) (ρ (k+1))
 seen:∀ k,k<p→∀ i,vis k i→i<nx k∧(i<nx 0∨∃ j,j<k∧Wt ops k j∧nx j≤i∧i<nx (j+1))
 subV:∀ k,k<p→∀ i r,(V k).get i=some r→vis k i∧S.get i=some r
 subU:∀ k,k<p→∀ i r,(U k).get i=some r→vis k i∧Y.get i=some r
 newV:∀ k,k<p→did k=true→∀ i r,nx k≤i→i<nx (k+1)→S.get i=some r→(V' k).get i=some r
 newU:∀ k,k<p→did k=true→∀ i r,nx k≤i→i<nx (k+1)→Y.get i=some r→(U' k).get i=some r
 nlp:∀ i r,S.get i=some r→i<nx p
 nly:∀ i r,Y.get i=some r→i<nx p
section
variable {P:Program} {K:Nat→Option (List Value)} {nt p:Nat} {ops:Array Oper} {o:Nat→Oper} {nx:Nat→Nat} {S:T Row} {Y:T YRow} {ρ:Nat→Rho} {tm:Nat→Tm} {did:Nat→Bool} {x:Nat→W} {V V':Nat→T Row} {U U':Nat→T YRow} {vis:Nat→Nat→Prop} {tv:Nat→Tm}
theorem RunY.le (h:RunY P K nt ops p o nx S Y ρ tm did x V V' U U' vis tv) {i:Nat}:∀ {j:Nat},i≤j→j≤p→nx i≤nx j
 | 0,hi,_=>by rw [Nat.le_zero.1 hi];exact Nat.le_refl _
 | j+1,hi,hj=>by
  rcases Nat.lt_or_ge i (j+1) with hl | hl
  ·exact Nat.le_trans (h.le (by omega:i≤j) (by omega)) (h.mono j hj)
  ·rw [show i=j+1 by omega];exact Nat.le_refl _
theorem RhoEq.trans {n n':Nat} {a b c:Rho} (h:RhoEq n a b) (hn:n≤n') (k:RhoEq n' b c):RhoEq n a c :=
 ⟨fun j hj=>(k.rn j (Nat.lt_of_lt_of_le hj hn)).trans (h.rn j hj),fun j hj=>(k.rt j (Nat.lt_of_lt_of_le hj hn)).trans (h.rt j hj),fun j hj=>(k.rs j (Nat.lt_of_lt_of_le hj hn)).trans (h.rs j hj),fun j hj=>(k.rd j (Nat.lt_of_lt_of_le hj hn)).trans (h.rd j hj)⟩
theorem RunY.req (h:RunY P K nt ops p o nx S Y ρ tm did x V V' U U' vis tv) {i:Nat}:∀ {j:Nat},i≤j→j≤p→RhoEq (nx i) (ρ i) (ρ j)
 | 0,hi,_=>by rw [Nat.le_zero.1 hi];exact RhoEq.refl _ _
 | j+1,hi,hj=>by
  rcases Nat.lt_or_ge i (j+1) with hl | hl
  ·exact (h.req (by omega:i≤j) (by omega)).trans (h.le (by omega:i≤j) (by omega)) (h.rho j hj)
  ·rw [show i=j+1 by omega];exact RhoEq.refl _ _
theorem RunY.uniq (h:RunY P K nt ops p o nx S Y ρ tm did x V V' U U' vis tv) {i k j:Nat} (hk:k<p) (hj:j<p) (h1:nx k≤i) (h2:i<nx (k+1)) (h3:nx j≤i) (h4:i<nx (j+1)):k=j:=by
 rcases Nat.lt_trichotomy k j with hl | he | hl
 ·have:=h.le (show k+1≤j from hl) (by omega);omega
 ·exact he
 ·have:=h.le (show j+1≤k from hl) (by omega);omega
end
abbrev holY (H:Holes) (nx:Nat→Nat) (p:Nat) (D:Nat→Bool):Holes:=⟨fun q=>H.h q∨∃ k,k<p∧D k=false∧nx k≤q∧q<nx (k+1)⟩
abbrev belowY (H:Holes) (n:Nat):Holes:=⟨fun q=>q<n∧H.h q⟩
def tmY (o:Nat→Oper) (x:Nat→W) (D:Nat→Bool) (tm0:Tm):Nat→Tm
 | 0=>tm0
 | k+1=>match (o k).dst with
  | some d=>bif D k then (tmY o x D tm0 k).set d (x k) else tmY o x D tm0 k
  | none=>tmY o x D tm0 k
structure InvY (H:Holes) (K:Nat→Option (List Value)) (b:Bs) (nt p:Nat) (o:Nat→Oper) (nx:Nat→Nat) (S:T Row) (Y:T YRow) (ρ:Nat→Rho) (tm0:Tm) (x:Nat→W) (G0:Nat→Prop) (σ0:Env) (a0:Act) (w0:World) (D:Nat→Bool) (G:Nat→Prop) (σ:Env) (a:Act) (w:World):Prop where
 ag:@Agree H (nx 0) σ0 σ
 goes:Goes w0 w
 heap:∀ g,g<w0.heap.size→w.heap[g]?=w0.heap[g]?
 gs:∀ g,G0 g→G g
 gn:∀ g,G g→g<w.heap.size∧(G0 g∨w0.heap.size≤g)
 row:∀ k,k<p→D k=true→∀ i r,nx k≤i→i<nx (k+1)→S.get i=some r→@RowOk (holY H nx p D) σ (nx (k+1)) w i r∧(r.blk=true→w0.heap.size≤σ.b i∧¬G (σ.b i))
 inj:∀ i j r s,nx 0≤i→nx 0≤j→@Lt (holY H nx p D) i (nx p)→@Lt (holY H nx p D) j (nx p)→S.get i=some r→S.get j=some s→r.blk=true→s.blk=true→σ.b i=σ.b j→i=j
 y:∀ k,k<p→D k=true→∀ i y,nx k≤i→i<nx (k+1)→Y.get i=some y→@YOk (holY H nx p D) G b.wB.heap.size σ (nx (k+1)) w i y∧YAg (ρ p) σ i y
 od:∀ k,k<p→D k=true→∀ i e z ow jj,nx k≤i→i<nx (k+1)→Y.get i=some (.od e z ow jj)→live σ i→w0.heap.size≤σ.b i∧σ.b i<w.heap.size∧¬G (σ.b i)
 odr:∀ k k',k<p→k'<p→D k=true→D k'=true→∀ i e z ow jj q r,nx k≤i→i<nx (k+1)→nx k'≤q→q<nx (k'+1)→Y.get i=some (.od e z ow jj)→live σ i→S.get q=some r→r.blk=true→σ.b q≠σ.b i
 odi:∀ k k',k<p→k'<p→D k=true→D k'=true→∀ i e z ow jj i' e' z' ow' jj',nx k≤i→i<nx (k+1)→nx k'≤i'→i'<nx (k'+1)→Y.get i=some (.od e z ow jj)→Y.get i'=some (.od e' z' ow' jj')→live σ i→live σ i'→σ.b i=σ.b i'→i=i'
 size:a.tmps.size=nt
 dfr:a.defers=a0.defers
 tget:∀ t,a.tmps.getD t undef=realW σ ((tmY o x D tm0 p).get t)
 tlt:∀ t,@W.lt (holY H nx p D) (nx p) ((tmY o x D tm0 p).get t)
end Go.Vc

namespace Go.Vc
structure BegY (H:Holes) (K:Nat→Option (List Value)) (b:Bs) (nx:Nat→Nat) (S:T Row) (Y:T YRow) (ρ:Nat→Rho) (m0:Mem) (Y0:T YRow) (G0:Nat→Prop) (σ0:Env) (w0:World):Prop where
 aw:@Aw H K b m0 Y0 (ρ 0) σ0 w0
 y:@YRel H G0 b.F0 b.wB.heap.size σ0 m0 Y0 w0
 hnx:m0.nx=nx 0
 hS:∀ i,i<nx 0→S.get i=m0.S.get i
 hY:∀ i,i<nx 0→Y.get i=Y0.get i
structure NowY (ops:Array Oper) (D:Nat→Bool) (j:Nat):Prop where
 not:D j=false
 wait:∀ k,Wt ops j k→D k=true
section
variable {H:Holes} {P:Program} {K:Nat→Option (List Value)} {b:Bs} {nt p:Nat} {ops:Array Oper} {o:Nat→Oper} {nx:Nat→Nat} {S:T Row} {Y:T YRow} {ρ:Nat→Rho} {tm:Nat→Tm} {did:Nat→Bool} {x:Nat→W} {V V':Nat→T Row} {U U':Nat→T YRow} {vis:Nat→Nat→Prop} {tv:Nat→Tm} {m0:Mem} {Y0:T YRow} {G0 G:Nat→Prop} {σ0 σ:Env} {w0 w:World} {a0 a:Act} {D D':Nat→Bool} {j:Nat} {tm0:Tm}
theorem BegY.out (B:BegY H K b nx S Y ρ m0 Y0 G0 σ0 w0) (h:RunY P K nt ops p o nx S Y ρ tm did x V V' U U' vis tv) {q n:Nat} (hq:@Lt H q (nx 0)) (hn:nx 0≤n):@Lt (holY H nx p D) q n :=
 @Lt.mk (holY H nx p D) _ _ (Nat.lt_of_lt_of_le (@Lt.lt H _ _ hq) hn) (fun hc=>by
  rcases hc with hc | ⟨k,k1,k2,k3,k4⟩
  ·exact @Lt.ok H _ _ hq hc
  ·have:=h.le (Nat.zero_le k) (Nat.le_of_lt k1)
   have:=@Lt.lt H _ _ hq
   omega)
theorem BegY.new (B:BegY H K b nx S Y ρ m0 Y0 G0 σ0 w0) (h:RunY P K nt ops p o nx S Y ρ tm did x V V' U U' vis tv) {q k n:Nat} (hk:k<p) (hD:D k=true) (h1:nx k≤q) (h2:q<nx (k+1)) (hn:nx (k+1)≤n):@Lt (holY H nx p D) q n :=
 @Lt.mk (holY H nx p D) _ _ (Nat.lt_of_lt_of_le h2 hn) (fun hc=>by
  rcases hc with hc | ⟨i,k1,k2,k3,k4⟩
  ·exact @Rel.fresh H _ _ _ _ B.aw.rel q (by rw [B.hnx];exact Nat.le_trans (h.le (Nat.zero_le k) (Nat.le_of_lt hk)) h1) hc
  ·have:=h.uniq hk k1 h1 h2 k3 k4
   subst this
   rw [hD] at k2;cases k2)
theorem BegY.born (B:BegY H K b nx S Y ρ m0 Y0 G0 σ0 w0) (h:RunY P K nt ops p o nx S Y ρ tm did x V V' U U' vis tv) {q:Nat} (hq:@Lt (holY H nx p D) q (nx p)):q<nx 0∨∃ k,k<p∧D k=true∧nx k≤q∧q<nx (k+1):=by
 have key:∀ i,i≤p→q<nx i→q<nx 0∨∃ k,k<p∧nx k≤q∧q<nx (k+1):=fun i=>by
  induction i with
  | zero=>exact fun _ hl=>.inl hl
  | succ i ih =>
   intro hi hl
   rcases Nat.lt_or_ge q (nx i) with hlt | hge
   ·exact ih (by omega) hlt
   ·exact .inr ⟨i,hi,hge,hl⟩
 rcases key p (Nat.le_refl _) (@Lt.lt (holY H nx p D) _ _ hq) with h1 | ⟨k,h1,h2,h3⟩
 ·exact .inl h1
 ·refine .inr ⟨k,h1,?_,h2,h3⟩
  cases hD:D k with
  | true=>rfl
  | false=>exact absurd (.inr ⟨k,h1,hD,h2,h3⟩) (@Lt.ok (holY H nx p D) _ _ hq)
section
variable (B:BegY H K b nx S Y ρ m0 Y0 G0 σ0 w0) (h:RunY P K nt ops p o nx S Y ρ tm did x V V' U U' vis tv) (inv:InvY H K b nt p o nx S Y ρ tm0 x G0 σ0 a0 w0 D G σ a w)
include B h inv
theorem InvY.rowOld {i:Nat} {r:Row} (hi:i<nx 0) (hr:S.get i=some r):@RowOk (holY H nx p D) σ (nx 0) w i r∧@Lt (holY H nx p D) i (nx 0)∧(r.blk=true→σ.b i=σ0.b i∧σ.b i<w0.heap.size):=by
 rw [B.hS i hi] at hr
 have h1:=@Rel.row H _ _ _ _ B.aw.rel i r hr
 have h2:=@Rel.lt H _ _ _ _ B.aw.rel i r hr
 rw [B.hnx] at h1 h2
 refine ⟨RowOk.move h1 inv.ag h2 (fun q hq=>B.out h hq (Nat.le_refl _)) (fun hb=>inv.heap _ (@RowOk.blk_lt H _ _ _ _ _ h1 hb)),B.out h h2 (Nat.le_refl _),fun hb=>?_⟩
 have:=@Agree.b H _ _ _ inv.ag i h2
 exact ⟨this,by rw [this];exact @RowOk.blk_lt H _ _ _ _ _ h1 hb⟩
theorem InvY.yOld {i:Nat} {y:YRow} (hi:i<nx 0) (hr:Y.get i=some y):@YOk (holY H nx p D) G b.wB.heap.size σ (nx 0) w i y∧@Lt (holY H nx p D) i (nx 0)∧YAg (ρ p) σ i y:=by
 rw [B.hY i hi] at hr
 obtain ⟨h2,h1⟩:=@YRel.row H _ _ _ _ _ _ _ B.y i y hr
 have h3:=B.aw.ag i y hr
 rw [B.hnx] at h1 h2
 have hq:=h.req (Nat.zero_le p) (Nat.le_refl _)
 refine ⟨YOk.move h1 inv.ag h2 (fun q hq=>B.out h hq (Nat.le_refl _)) inv.gs (fun g j v hg hv=>?_) (fun ho hl=>?_),B.out h h2 (Nat.le_refl _),YAg.move h3 h1 inv.ag h2 fun j hj=>⟨hq.rn j hj,hq.rt j hj,hq.rs j hj,hq.rd j hj⟩⟩
 ·rw [Cj (inv.heap g (B.y.dom g hg).1)];exact hv
 ·cases y <;> first | (cases ho;done) | skip
  exact inv.heap _ (B.y.od i _ _ _ _ hr hl).1
theorem InvY.rowAll {i n:Nat} {r:Row} (hi:i<nx 0∧nx 0≤n∨∃ k,k<p∧D k=true∧nx k≤i∧i<nx (k+1)∧nx (k+1)≤n) (hr:S.get i=some r):@RowOk (holY H nx p D) σ n w i r∧@Lt (holY H nx p D) i n:=by
 rcases hi with ⟨h1,h2⟩ | ⟨k,h1,h2,h3,h4,h5⟩
 ·obtain ⟨k1,k2,_⟩:=inv.rowOld B h h1 hr
  exact ⟨@RowOk.keep (holY H nx p D) _ _ _ _ _ _ _ _ k1 (@Agree.refl (holY H nx p D) _ _) k2 h2 (fun _=>rfl),@Lt.mono (holY H nx p D) _ _ _ k2 h2⟩
 ·have k2:=B.new h h1 h2 h3 h4 (Nat.le_refl _)
  exact ⟨@RowOk.keep (holY H nx p D) _ _ _ _ _ _ _ _ (inv.row k h1 h2 i r h3 h4 hr).1 (@Agree.refl (holY H nx p D) _ _) k2 h5 (fun _=>rfl),@Lt.mono (holY H nx p D) _ _ _ k2 h5⟩
theorem InvY.yAll {i n:Nat} {y:YRow} (hi:i<nx 0∧nx 0≤n∨∃ k,k<p∧D k=true∧nx k≤i∧i<nx (k+1)∧nx (k+1)≤n) (hr:Y.get i=some y):@YOk (holY H nx p D) G b.wB.heap.size σ n w i y∧@Lt (holY H nx p D) i n∧YAg (ρ p) σ i y:=by
 rcases hi with ⟨h1,h2⟩ | ⟨k,h1,h2,h3,h4,h5⟩
 ·obtain ⟨k1,k2,k3⟩:=inv.yOld B h h1 hr
  exact ⟨@YOk.keep (holY H nx p D) _ _ _ _ _ _ _ _ _ _ k1 k2 (@Agree.refl (holY H nx p D) _ _) h2 (fun _ _ _ _ hv=>hv) (fun _ _=>rfl),@Lt.mono (holY H nx p D) _ _ _ k2 h2,k3⟩
 ·have k2:=B.new h h1 h2 h3 h4 (Nat.le_refl _)
  obtain ⟨k1,k3⟩:=inv.y k h1 h2 i y h3 h4 hr
  exact ⟨@YOk.keep (holY H nx p D) _ _ _ _ _ _ _ _ _ _ k1 k2 (@Agree.refl (holY H nx p D) _ _) h5 (fun _ _ _ _ hv=>hv) (fun _ _=>rfl),@Lt.mono (holY H nx p D) _ _ _ k2 h5,k3⟩
theorem InvY.blk {i:Nat} {r:Row} (hi:@Lt (holY H nx p D) i (nx p)) (hr:S.get i=some r) (hb:r.blk=true):b.wB.heap.size≤σ.b i∧K (σ.b i)=none∧¬G (σ.b i)∧σ.b i<w.heap.size∧(∀ q e z oo jj,Y0.get q=some (.od e z oo jj)→live σ0 q→σ0.b q≠σ.b i):=by
 rcases B.born h hi with h1 | ⟨k,h1,h2,h3,h4⟩
 ·have hr0:=hr
  rw [B.hS i h1] at hr0
  obtain ⟨k1,k2,k3⟩:=inv.rowOld B h h1 hr
  obtain ⟨k4,k5⟩:=k3 hb
  refine ⟨by rw [k4];exact B.aw.own i r hr0 hb,by rw [k4];exact @Rel.apart H _ _ _ _ B.aw.rel i r hr0 hb,fun hg=>?_,Nat.lt_of_lt_of_le k5 inv.goes.size,fun q e z oo jj hq hl he=>?_⟩
  ·rcases (inv.gn _ hg).2 with h5 | h5
   ·exact (B.y.dom _ h5).2.1 i r hr0 hb k4.symm
   ·omega
  ·exact (B.y.od q e z oo jj hq hl).2.2.2 i r hr0 hb (by rw [he,k4])
 ·obtain ⟨k1,k2⟩:=inv.row k h1 h2 i r h3 h4 hr
  obtain ⟨k3,k4⟩:=k2 hb
  refine ⟨Nat.le_trans B.aw.size k3,?_,k4,@RowOk.blk_lt (holY H nx p D) _ _ _ _ _ k1 hb,fun q e z oo jj hq hl he=>?_⟩
  ·cases hK:K (σ.b i) with
   | none=>rfl
   | some l=>have:=@Rel.low H _ _ _ _ B.aw.rel _ _ hK;omega
  ·have:=(B.y.od q e z oo jj hq hl).1
   omega
theorem InvY.injAll {i i':Nat} {r s:Row} (hi:@Lt (holY H nx p D) i (nx p)) (hi':@Lt (holY H nx p D) i' (nx p)) (hr:S.get i=some r) (hs:S.get i'=some s) (hrb:r.blk=true) (hsb:s.blk=true) (he:σ.b i=σ.b i'):i=i':=by
 have key:∀ {i i':Nat} {r s:Row},i<nx 0→nx 0≤i'→@Lt (holY H nx p D) i' (nx p)→S.get i=some r→S.get i'=some s→r.blk=true→s.blk=true→σ.b i≠σ.b i':=fun {i i' r s} h1 h2 h3 hr hs hrb hsb he=>by
  have k1:=((inv.rowOld B h h1 hr).2.2 hrb).2
  rcases B.born h h3 with h4 | ⟨k,h4,h5,h6,h7⟩
  ·omega
  ·have:=((inv.row k h4 h5 i' s h6 h7 hs).2 hsb).1
   omega
 rcases Nat.lt_or_ge i (nx 0) with h1 | h1 <;> rcases Nat.lt_or_ge i' (nx 0) with h2 | h2
 ·have k1:=((inv.rowOld B h h1 hr).2.2 hrb).1
  have k2:=((inv.rowOld B h h2 hs).2.2 hsb).1
  rw [B.hS i h1] at hr
  rw [B.hS i' h2] at hs
  exact @Rel.inj H _ _ _ _ B.aw.rel i i' r s hr hs hrb hsb (by rw [←k1,←k2,he])
 ·exact absurd he (key h1 h2 hi' hr hs hrb hsb)
 ·exact absurd he.symm (key h2 h1 hi hs hr hsb hrb)
 ·exact inv.inj i i' r s h1 h2 hi hi' hr hs hrb hsb he
end
end
end Go.Vc
