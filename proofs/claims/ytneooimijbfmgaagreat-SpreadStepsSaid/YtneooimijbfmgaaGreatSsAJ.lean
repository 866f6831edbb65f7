import Derived.Test.YtneooimijbfmgaaGreatSsAI
set_option linter.unusedVariables false
set_option linter.unusedSimpArgs false
set_option linter.unusedSectionVars false
noncomputable section
namespace Go.Vc
section
variable [Holes]
section
variable {K:Nat→Option (List Value)} {b:Bs} {F F0:Nat→Prop} {B0:Nat} {σ τ:Env} {m m2:Mem} {Y Y2:T YRow} {w:World} {ρ ρ2:Rho} {n n2 i:Nat}
theorem RowOk.rlt {r:Row} (h:RowOk σ n w i r):RowLt n r:=by
 cases r with
 | cells e k cs =>
  obtain ⟨arr,_,_,_,h4⟩:=h
  intro j c hj hc
  obtain ⟨c',h5,h6,_⟩:=h4 j hj
  rw [hc] at h5;cases h5
  exact h6
 | fn f a b=>exact ⟨h.2.1,h.2.2⟩
 | val x=>exact h.2
 | loop st p nt tm ps a b =>
  obtain ⟨fn,tmps,df,_,_,h3,_⟩:=h
  exact h3.lt
 | dead=>trivial
 | map kk es c=>trivial
theorem YOk.ylt {y:YRow} (h:YOk F B0 σ n w i y):YLt n y:=by
 cases y with
 | fp own cs=>exact fun j c hj=>(h.2 j c hj).1
 | od e z o j=>exact h.1
 | fz o c j=>exact h.1
 | ep q x z=>exact ⟨h.1,h.2.1⟩
 | ov q x z=>exact ⟨h.1,h.2.1⟩
 | _=>trivial
theorem RowOk.cut {r s:Row} (h:RowOk σ n2 w i s) (hs:RowEx (fun j=>(i,j)∈([]:List (Nat×Nat))) r s) (hl:RowLt n r):RowOk σ n w i r:=by
 rcases hs with rfl | ⟨e,k,t,t',rfl,rfl,hj⟩
 ·cases r with
  | cells e k cs =>
   obtain ⟨arr,h1,h2,h3,h4⟩:=h
   refine ⟨arr,h1,h2,h3,fun j hj=>?_⟩
   obtain ⟨c,h5,_,h6⟩:=h4 j hj
   exact ⟨c,h5,hl j c hj h5,h6⟩
  | fn f a b=>exact ⟨h.1,hl.1,hl.2⟩
  | val x=>exact ⟨h.1,hl⟩
  | loop st p nt tm ps a b =>
   obtain ⟨fn,tmps,df,h1,h2,h3,h4⟩:=h
   exact ⟨fn,tmps,df,h1,h2,⟨h3.get,hl⟩,h4⟩
  | dead=>trivial
  | map kk es c=>exact h
 ·obtain ⟨arr,h1,h2,h3,h4⟩:=h
  refine ⟨arr,h1,h2,h3,fun j hjk=>?_⟩
  obtain ⟨c,h5,_,h6⟩:=h4 j hjk
  rw [hj j hjk (by simp)] at h5
  exact ⟨c,h5,hl j c hjk h5,h6⟩
theorem YOk.cut {y y2:YRow} (h:YOk F B0 σ n2 w i y2) (hs:YSame y y2) (hl:YLt n y):YOk F B0 σ n w i y:=by
 rcases hs with rfl | ⟨rfl,_,rfl⟩ | rfl
 ·cases y with
  | fp own cs=>exact ⟨h.1,fun j c hj=>⟨hl j c hj,(h.2 j c hj).2⟩⟩
  | od e z o j=>exact ⟨hl,h.2⟩
  | fz o c j=>exact ⟨hl,h.2⟩
  | ep q x z=>exact ⟨hl.1,hl.2,h.2.2⟩
  | ov q x z=>exact ⟨hl.1,hl.2,h.2.2⟩
  | _=>exact h
 ·trivial
 ·trivial
theorem Agree.low (h:Agree n2 σ τ) (hn:n≤n2):Agree n σ τ :=
 ⟨fun i hi=>h.b i (hi.mono hn),fun i hi=>h.o i (hi.mono hn),fun i hi=>h.k i (hi.mono hn),fun i hi=>h.v i (hi.mono hn),fun i hi=>h.rn i (hi.mono hn),fun i hi=>h.rt i (hi.mono hn),fun i hi=>h.rs i (hi.mono hn),fun i hi=>h.rd i (hi.mono hn)⟩
theorem RowEx.blk {ex:Nat→Prop} {r s:Row} (h:RowEx ex r s):r.blk=s.blk∧r.isLoop=s.isLoop:=by
 rcases h with rfl | ⟨e,k,t,t',rfl,rfl,_⟩ <;> exact ⟨rfl,rfl⟩
def YNum (j:Nat):YRow→Prop
 | .fz _ _ i=>i=j
 | .od _ _ _ i=>i=j
 | _=>False
theorem YAg.agree' {y:YRow} (h:YAg ρ σ i y) (hi:Lt i n) (ha:Agree n σ τ) (hj:∀ j,YNum j y→Lt j n):YAg ρ τ i y:=by
 cases y with
 | int=>exact (ha.rn i hi).trans h
 | bool=>exact (ha.rt i hi).trans h
 | kb b=>exact (ha.rt i hi).trans h
 | str=>exact (ha.rs i hi).trans h
 | fz o c j=>exact (ha.rd j (hj j rfl)).trans h
 | od e z o j=>exact (ha.rd j (hj j rfl)).trans h
 | _=>trivial
theorem hylt' {y:YRow} (hn:n≤n2) (h:YLt n y) (j:Nat) (hj:YNum j y):Lt j n2:=by
 cases y with
 | fz o c i=>cases hj;exact Lt.mono h hn
 | od e z o i=>cases hj;exact Lt.mono h hn
 | _=>cases hj
theorem Aw.sub (h:Aw K b m2 Y2 ρ2 σ w) (hs:SEx [] m.S m2.S) (hY:∀ i y,Y.get i=some y→∃ y2,Y2.get i=some y2∧YSame y y2) (hn0:b.n0≤m.nx) (hn1:m.nx≤b.n1) (hag:SymAg ρ b.σ1 Y)
  (hylt:∀ i y,Y.get i=some y→Lt i m.nx∧YLt m.nx y) (hrlt:∀ i r,m.S.get i=some r→Lt i m.nx∧RowLt m.nx r) (hloops:∀ i,b.L i→∃ s,m.S.get i=some s∧s.isLoop=true) (hfr:∀ i,m.nx≤i→¬Holes.h i) :
  Aw K (b.lim m.nx) m Y ρ σ w∧∀ F,YRel F b.F0 b.wB.heap.size σ m2 Y2 w→YRel F b.F0 b.wB.heap.size σ m Y w:=by
 have hy:∀ F,YRel F b.F0 b.wB.heap.size σ m2 Y2 w→YRel F b.F0 b.wB.heap.size σ m Y w:=fun F hF=>by
  have od:∀ {i e z o j},Y.get i=some (.od e z o j)→Y2.get i=some (.od e z o j):=fun {i e z o j} hi=>by
   obtain ⟨y2,h1,h2⟩:=hY i _ hi
   rcases h2 with rfl | ⟨h2,_⟩ | h2
   ·exact h1
   ·cases h2
   ·cases h2
  refine ⟨fun g hg=>⟨(hF.dom g hg).1,fun i r hi hb=>?_,(hF.dom g hg).2.2⟩,fun i y hi=>?_,fun i e z o j hi hl=>?_,fun i e z o j i' e' z' o' j' hi hi'=>hF.odi i e z o j i' e' z' o' j' (od hi) (od hi')⟩
  ·obtain ⟨s,h1,h2⟩:=hs i r hi
   exact (hF.dom g hg).2.1 i s h1 (by rw [←h2.blk.1];exact hb)
  ·obtain ⟨y2,h1,h2⟩:=hY i y hi
   exact ⟨(hylt i y hi).1,(hF.row i y2 h1).2.cut h2 (hylt i y hi).2⟩
  ·obtain ⟨h1,h2,h3,h4⟩:=hF.od i e z o j (od hi) hl
   refine ⟨h1,h2,h3,fun q r hq hb=>?_⟩
   obtain ⟨s,h5,h6⟩:=hs q r hq
   exact h4 q s h5 (by rw [←h6.blk.1];exact hb)
 refine ⟨⟨⟨fun i r hi=>?_,fun i r hi=>(hrlt i r hi).1,fun i j r s hr hs' hrb hsb he=>?_,h.rel.known,fun i r hi hb=>?_,h.rel.low,hfr⟩,hn0,h.agree,Nat.min_le_right _ _,h.agree1.low (Nat.min_le_left _ _),h.base,h.goes,h.frame,fun i r hi hb=>?_,?_,fun i y hi=>?_,h.dfr,hloops,h.klow⟩,hy⟩
 ·obtain ⟨s,h1,h2⟩:=hs i r hi
  exact (h.rel.row i s h1).cut h2 (hrlt i r hi).2
 ·obtain ⟨r0,h1,h2⟩:=hs i r hr
  obtain ⟨s0,h3,h4⟩:=hs j s hs'
  exact h.rel.inj i j r0 s0 h1 h3 (by rw [←h2.blk.1];exact hrb) (by rw [←h4.blk.1];exact hsb) he
 ·obtain ⟨r0,h1,h2⟩:=hs i r hi
  exact h.rel.apart i r0 h1 (by rw [←h2.blk.1];exact hb)
 ·obtain ⟨r0,h1,h2⟩:=hs i r hi
  exact h.own i r0 h1 (by rw [←h2.blk.1];exact hb)
 ·obtain ⟨F,hF⟩:=h.y
  exact ⟨F,hy F hF⟩
 ·obtain ⟨y2,h1,h2⟩:=hY i y hi
  obtain ⟨F,hF⟩:=h.y
  exact (hag i y hi).agree' ((hylt i y hi).1.mono hn1) h.agree1 (fun j hj=>(hylt' hn1 (hylt i y hi).2 j hj))
theorem Agh:∀ (cells:List (Nat×Nat)) (us:List Value) (S:T Row),(∀ i r,S.get i=some r→Lt i n∧RowLt n r)→∀ i r,(setsC S cells (us.map .raw)).get i=some r→Lt i n∧RowLt n r
 | [],us,S,h=>by cases us <;> exact h
 | p::cells,[],S,h=>h
 | p::cells,u::us,S,h=>by
  refine Agh cells us _ fun i r hi=>?_
  unfold set1C at hi
  split at hi
  ·rename_i e k t hp
   rw [T.get_set] at hi
   split at hi
   ·rename_i he
    cases hi
    subst he
    obtain ⟨h1,h2⟩:=h _ _ hp
    refine ⟨h1,fun j c hj hc=>?_⟩
    rw [T.get_set] at hc
    split at hc
    ·cases hc;trivial
    ·exact h2 j c hj hc
   ·exact h i r hi
  ·exact h i r hi
theorem Vi:∀ (cells:List (Nat×Nat)) (cs:List C) (S:T Row) (i:Nat) (s:Row),S.get i=some s→s.isLoop=true→(setsC S cells cs).get i=some s
 | [],cs,S,i,s,h,hl=>by cases cs <;> exact h
 | p::cells,[],S,i,s,h,hl=>h
 | p::cells,c::cs,S,i,s,h,hl=>by
  refine Vi cells cs _ i s ?_ hl
  unfold set1C
  split
  ·rename_i e k t hp
   rw [T.get_set]
   split
   ·rename_i he;subst he;rw [h] at hp;cases hp;cases hl
   ·exact h
  ·exact h
end
def isOd:Option YRow→Bool
 | some (.od ..)=>true
 | _=>false
def odC (S:T Row) (tm:Tm) (o:OdG):W:=match o.pl with
 | .tmp=>tm.get o.t
 | .row i=>.v (.c (.fz i))
 | .cel r j=>match S.get r with
  | some (.cells _ k t)=>bif Nat.blt j k then (match t.get j with
   | some c=>.v (.c c)
   | none=>undefW) else undefW
  | _=>undefW
def odGet (S:T Row) (tm:Tm) (Y YB:T YRow) (o:OdG):Option (Option (Nat×Nat)):=bif Nat.blt 0 o.z then match odC S tm o with
 | .v (.c (.raw (.slice none 0 0)))=>some none
 | .v (.c (.fz i))=>match Y.get i with
  | some (.od e z own j)=>bif Nat.beq e o.e && Nat.beq z o.z && (own || !o.own) && !(isOd (YB.get i)) then some (some (i,j)) else none
  | _=>none
 | _=>none
 else none
def odApart (x:Option (Nat×Nat)) (xs:List (Option (Nat×Nat))):Bool:=match x with
 | none=>true
 | some (i,_)=>xs.all fun y=>match y with
  | some (i',_)=>!(Nat.beq i i')
  | none=>true
def odGets (S:T Row) (tm:Tm) (Y YB:T YRow):List OdG→Option (List (Option (Nat×Nat)))
 | []=>some []
 | o::os=>match odGet S tm Y YB o,odGets S tm Y YB os with
  | some x,some xs=>bif odApart x xs then some (x::xs) else none
  | _,_=>none
def odL (ρ:Rho) (x:Option (Nat×Nat)):List (List D):=match x with
 | some (_,j)=>ρ.d j
 | none=>[]
def odDat (ρ:Rho) (xs:List (Option (Nat×Nat))):List DV:=xs.map fun x=>.c (.fs (odL ρ x))
def odX (σ:Env) (ρ:Rho) (x:Option (Nat×Nat)):OdX:=match x with
 | some (i,j)=>⟨ρ.d j,σ.b i,σ.v i⟩
 | none=>⟨[],0, .slice none 0 0⟩
def gvS (tm:Tm):List Tmp→Option (List V)
 | []=>some []
 | t::l=>match tm.get t,gvS tm l with
  | .v x,some vs=>some (x::vs)
  | _,_=>none
def valsG (s:St) (gens:List Tmp) (cells:List (Nat×Nat)):Option (List V×List C):=match gvS s.tm gens,valsC s.m.S cells with
 | some vs,some cs=>some (vs,cs)
 | _,_=>none
theorem Asw {σ:Env} {n:Nat} {tmps:Array Value} {tm:Tm} (hT:TmOk σ n tmps tm):∀ (l:List Tmp) (vs:List V),gvS tm l=some vs→mapN tmps l=vs.map (realV σ)
 | [],vs,h=>by cases h;rfl
 | t::l,vs,h=>by
  unfold gvS at h
  split at h
  ·rename_i x vs' hx hvs
   cases h
   show tmps.getD t undef::mapN tmps l=_
   rw [Asw hT l vs' hvs,hT.get t,hx]
   rfl
  ·cases h
theorem Pp:∀ (cells:List (Nat×Nat)) (S:T Row) (cs:List C),valsC S cells=some cs→cs.length=cells.length
 | [],S,cs,h=>by cases h;rfl
 | p::l,S,cs,h=>by
  unfold valsC at h
  split at h
  ·rename_i e k t hp
   cases hb:Nat.blt p.2 k with
   | false=>rw [hb] at h;cases h
   | true =>
    rw [hb] at h
    simp only [cond_true] at h
    split at h
    ·rename_i c cs' hc hcs
     cases h
     simp [Pp l S cs' hcs]
    ·cases h
  ·cases h
section
variable {P:Program} {K:Nat→Option (List Value)} {s s':St} {ρ ρ':Rho} {Q:Post}
theorem Yl {b:Bs} {σ:Env} {a:Act} {w:World} {F:Nat→Prop} {S:T Row} {YB:T YRow} (hA:At K b s ρ σ a w) (hF:YRel F b.F0 b.wB.heap.size σ s.m s.Y w) (hS:∀ q r,S.get q=some r→r.blk=true→∃ r',s.m.S.get q=some r'∧r'.blk=true)
  (hY:∀ i y,YB.get i=some y→∃ y2,s.Y.get i=some y2∧YSame y y2):∀ (os:List OdG) (xs:List (Option (Nat×Nat))),odGets s.m.S s.tm s.Y YB os=some xs→OdXs F b.wB.heap.size σ S YB w a.tmps os (xs.map (odX σ ρ))
 | [],xs,h=>by cases h;exact .nil
 | o::os,xs,h=>by
  unfold odGets at h
  split at h
  ·rename_i x xs' hx hxs
   cases hap:odApart x xs' with
   | false=>rw [hap] at h;cases h
   | true =>
    rw [hap] at h
    cases h
    have ih:=Yl hA hF hS hY os xs' hxs
    unfold odGet at hx
    cases hz:Nat.blt 0 o.z with
    | false=>rw [hz] at hx;cases hx
    | true =>
     rw [hz] at hx
     have hz:0<o.z:=Nat.le_of_ble_eq_true hz
     simp only [cond_true] at hx
     split at hx
     ·rename_i he
      cases hx
      have hnl:¬liveV (.slice none 0 0):=fun ⟨_,_,_,hq,hlt⟩=>by cases hq;omega
      exact .cons (by
       unfold OdAt
       unfold odC at he
       cases hp:o.pl with
       | tmp=>rw [hp] at he;have he:s.tm.get o.t=_:=he;show a.tmps.getD o.t undef=_;rw [hA.tm.get,he];rfl
       | row i=>rw [hp] at he;cases he
       | cel r j=>trivial) ⟨hz,none,0,rfl, .inl ⟨rfl,rfl⟩⟩ (fun hl=>absurd hl hnl) (fun y _ hl=>absurd hl hnl) ih
     ·rename_i i he
      split at hx
      ·rename_i e z own j hi
       obtain ⟨hc,hx⟩:=Aj hx
       cases hx
       simp only [Bool.and_eq_true,Bool.or_eq_true,Bool.not_eq_true'] at hc
       obtain ⟨⟨⟨c1,c2⟩,c3⟩,c4⟩:=hc
       have c1:=nbeq c1
       have c2:=nbeq c2
       subst c1;subst c2
       obtain ⟨_,_,a',c',hv',hc'⟩:=(hF.row i _ hi).2
       have hag:σ.r.d j=ρ.d j:=hA.aw.ag i _ hi
       rw [hag] at hv' hc'
       have hlv:liveV (σ.v i)↔live σ i:=Iff.rfl
       refine .cons ?_ (OdV.mono ⟨hz,a',c',hv',hc'⟩ fun g hg=>⟨hg.1,fun ho=>hg.2 ?_⟩) (fun hl=>?_) (fun y hy hl hly hg=>?_) ih
       ·unfold OdAt
        unfold odC at he
        cases hp:o.pl with
        | cel r j=>trivial
        | tmp =>
         rw [hp] at he
         have he:s.tm.get o.t=_:=he
         show a.tmps.getD o.t undef=_
         rw [hA.tm.get,he]
         show realC σ (.fz i)=σ.v i
         simp only [realC,hv']
        | row i0 =>
         rw [hp] at he
         cases he
         exact ⟨rfl,rfl⟩
       ·rcases c3 with c3 | c3
        ·exact c3
        ·rw [c3] at ho;cases ho
       ·obtain ⟨h1,h2,h3,h4⟩:=hF.od i _ _ _ _ hi (hlv.1 hl)
        refine ⟨h1,h2,h3,fun q r hq hb=>?_,fun q e' z' o' j' hq hlq hbq=>?_⟩
        ·obtain ⟨r',h5,h6⟩:=hS q r hq hb
         exact h4 q r' h5 h6
        ·obtain ⟨y2,h5,h6⟩:=hY q _ hq
         rcases h6 with rfl | ⟨h6,_⟩ | h6
         ·have:=hF.odi q _ _ _ _ i _ _ _ _ h5 hi hlq (hlv.1 hl) hbq
          subst this
          rw [hq] at c4;cases c4
         ·cases h6
         ·cases h6
       ·obtain ⟨x',hx',rfl⟩:=List.mem_map.1 hy
        cases x' with
        | none=>exact absurd hly fun ⟨_,_,_,hq,hlt⟩=>by cases hq;omega
        | some p =>
         obtain ⟨i',j'⟩:=p
         -- that row is one of own data
         have hod:∃ e z o,s.Y.get i'=some (.od e z o j'):=by
          have key:∀ (os:List OdG) (xs:List (Option (Nat×Nat))),odGets s.m.S s.tm s.Y YB os=some xs→some (i',j')∈xs→∃ e z o,s.Y.get i'=some (.od e z o j'):=fun os=>by
           induction os with
           | nil=>intro xs h hm;cases h;cases hm
           | cons o os ih2 =>
            intro xs h hm
            unfold odGets at h
            split at h
            ·rename_i x2 xs2 hx2 hxs2
             obtain ⟨_,h⟩:=Aj h
             cases h
             rcases List.mem_cons.1 hm with he2 | hm
             ·subst he2
              unfold odGet at hx2
              obtain ⟨_,hx2⟩:Nat.blt 0 o.z=true∧_=some (some (i',j')):=by
               cases hq:Nat.blt 0 o.z with
               | false=>rw [hq] at hx2;cases hx2
               | true=>rw [hq] at hx2;exact ⟨rfl,hx2⟩
              split at hx2
              ·cases hx2
              ·split at hx2
               ·rename_i hi2
                obtain ⟨_,hx2⟩:=Aj hx2
                cases hx2
                exact ⟨_,_,_,hi2⟩
               ·cases hx2
              ·cases hx2
             ·exact ih2 xs2 hxs2 hm
            ·cases h
          exact key os xs' hxs hx'
         obtain ⟨e',z',o',hi'⟩:=hod
         have heq:=hF.odi i _ _ _ _ i' _ _ _ _ hi hi' (hlv.1 hl) hly hg
         subst heq
         unfold odApart at hap
         have:=List.all_eq_true.1 hap _ hx'
         simp at this
      ·cases hx
     ·cases hx
  ·cases h
theorem An7 (σ:Env) (ρ:Rho) (xs:List (Option (Nat×Nat))):datX (xs.map (odX σ ρ))=odDat ρ xs:=by
 unfold datX odDat
 rw [List.map_map]
 refine List.map_congr_left fun x _=>?_
 cases x <;> rfl
theorem Aaw {S:T Row}:∀ (l1 l2:List (Nat×Nat)) (c1 c2:List C),valsC S l1=some c1→valsC S l2=some c2→valsC S (l1++l2)=some (c1++c2)
 | [],l2,c1,c2,h1,h2=>by cases h1;exact h2
 | p::l1,l2,c1,c2,h1,h2=>by
  unfold valsC at h1
  split at h1
  ·rename_i e k t hp
   obtain ⟨hb,h1⟩:Nat.blt p.2 k=true∧(match t.get p.2,valsC S l1 with | some c,some cs=>some (c::cs) | _,_=>none)=some c1:=by
    cases hq:Nat.blt p.2 k with
    | true=>rw [hq] at h1;exact ⟨rfl,h1⟩
    | false=>rw [hq] at h1;cases h1
   split at h1
   ·rename_i c cs hc hcs
    cases h1
    show valsC S (p::(l1++l2))=_
    unfold valsC
    rw [hp]
    dsimp only
    rw [hb,hc,Aaw l1 l2 cs c2 hcs h2]
    rfl
   ·cases h1
  ·cases h1
theorem odVals {b:Bs} {σ:Env} {a:Act} {w:World} {F:Nat→Prop} {YB:T YRow} (hA:At K b s ρ σ a w) (hF:YRel F b.F0 b.wB.heap.size σ s.m s.Y w):∀ (os:List OdG) (xs:List (Option (Nat×Nat))),odGets s.m.S s.tm s.Y YB os=some xs→∃ cs,valsC s.m.S (ocs os)=some cs∧cs.map (realC σ)=celV os (xs.map (odX σ ρ))
 | [],xs,h=>by cases h;exact ⟨[],rfl,rfl⟩
 | o::os,xs,h=>by
  unfold odGets at h
  split at h
  ·rename_i x xs' hx hxs
   obtain ⟨_,h⟩:=Aj h
   cases h
   obtain ⟨cs,h1,h2⟩:=odVals hA hF os xs' hxs
   unfold odGet at hx
   have hx:(match odC s.m.S s.tm o with
    | .v (.c (.raw (.slice none 0 0)))=>some none
    | .v (.c (.fz i))=>match s.Y.get i with
     | some (.od e z own j)=>bif Nat.beq e o.e && Nat.beq z o.z && (own || !o.own) && !(isOd (YB.get i)) then some (some (i,j)) else none
     | _=>none
    | _=>none)=some x:=by
    cases hq:Nat.blt 0 o.z with
    | false=>rw [hq] at hx;cases hx
    | true=>rw [hq] at hx;exact hx
   cases hp:o.pl with
   | tmp=>exact ⟨cs,by unfold ocs;rw [hp];exact h1,by rw [List.map_cons];unfold celV;rw [hp];exact h2⟩
   | row i=>exact ⟨cs,by unfold ocs;rw [hp];exact h1,by rw [List.map_cons];unfold celV;rw [hp];exact h2⟩
   | cel r j =>
    have key:∀ c,odC s.m.S s.tm o = .v (.c c)→(realC σ c=(odX σ ρ x).v)→∃ cs,valsC s.m.S (ocs (o::os))=some cs∧cs.map (realC σ)=celV (o::os) ((x::xs').map (odX σ ρ)):=fun c hc hv=>by
     unfold odC at hc
     rw [hp] at hc
     dsimp only at hc
     split at hc
     ·rename_i e k t hr
      cases hb:Nat.blt j k with
      | false=>rw [hb] at hc;cases hc
      | true =>
       rw [hb] at hc
       simp only [cond_true] at hc
       split at hc
       ·rename_i c' hc'
        cases hc
        refine ⟨c::cs,?_,?_⟩
        ·unfold ocs
         rw [hp]
         dsimp only
         unfold valsC
         rw [hr]
         dsimp only
         rw [hb,hc',h1]
         rfl
        ·rw [List.map_cons,List.map_cons]
         unfold celV
         rw [hp,hv,h2]
       ·cases hc
     ·cases hc
    split at hx
    ·rename_i he
     cases hx
     exact key _ he rfl
    ·rename_i i he
     split at hx
     ·rename_i e z own j' hi
      obtain ⟨_,hx⟩:=Aj hx
      cases hx
      refine key _ he ?_
      obtain ⟨_,_,a',c',hv',_⟩:=(hF.row i _ hi).2
      show realC σ (.fz i)=σ.v i
      simp only [realC,hv']
     ·cases hx
    ·cases hx
  ·cases h
def ltCB (n:Nat):C→Bool
 | .raw _=>true
 | .ptr r _=>Nat.blt r n
 | _=>false
def boxRow (lc:LC) (s:St) (bx:BoxT) (j:Nat):Bool:=match s.m.S.get j with
 | some (.cells e k cs)=>Nat.beq e bx.e && (Nat.beq k bx.k && (allN (fun q=>match bx.cs.get q with
  | some c=>ltCB lc.mB.nx c && eqOC (cs.get q) (some c)
  | none=>false) k && (match lc.mB.S.get j with
  | some r=>!r.blk
  | none=>true)))
 | _=>false
def boxB (lc:LC) (s:St):Bool:=match lc.box with
 | none=>true
 | some bx=>match s.tm.get bx.t with
  | .v (.c (.ptr j 0))=>boxRow lc s bx j
  | _=>false
theorem Au7 {n m:Nat} {c:C} (h:ltCB n c=true) (hm:C.lt m c):C.lt n c:=by
 cases c with
 | raw v=>trivial
 | ptr r o=>exact ⟨Nat.le_of_ble_eq_true h,(show Lt r m from hm).ok⟩
 | _=>cases h
theorem OdXs.free {F:Nat→Prop} {B0:Nat} {σ:Env} {S:T Row} {Y:T YRow} {w:World} {tmps:Array Value} {os:List OdG} {xs:List OdX} (h:OdXs F B0 σ S Y w tmps os xs):∀ x∈xs,OdFree F B0 σ S Y w x:=by
 induction h with
 | nil=>intro x hx;cases hx
 | cons _ _ h3 _ _ ih =>
  intro x hx
  rcases List.mem_cons.1 hx with rfl | hx
  ·exact h3
  ·exact ih x hx
theorem Ayw {b:Bs} {σ:Env} {a:Act} {w:World} {lc:LC} {F:Nat→Prop} (hA:At K b s ρ σ a w) (hF:YRel F b.F0 b.wB.heap.size σ s.m s.Y w) (hS:∀ q r,lc.mB.S.get q=some r→r.blk=true→∃ r',s.m.S.get q=some r'∧r'.blk=true)
  (hY:∀ i y,lc.YB.get i=some y→∃ y2,s.Y.get i=some y2∧YSame y y2) (hx:boxB lc s=true) {xs:List (Option (Nat×Nat))} (hod:odGets s.m.S s.tm s.Y lc.YB lc.ods=some xs):BoxIn K b lc σ F (xs.map (odX σ ρ)) a w:=by
 unfold BoxIn
 unfold boxB at hx
 split
 ·trivial
 ·rename_i bx hbx
  rw [hbx] at hx
  dsimp only at hx
  split at hx
  ·rename_i j ht
   unfold boxRow at hx
   split at hx
   ·rename_i e k cs hj
    simp only [Bool.and_eq_true] at hx
    obtain ⟨h1,h2,h3,h4⟩:=hx
    have h1:=nbeq h1;subst h1
    have h2:=nbeq h2
    obtain ⟨arr,a1,a2,a3,a4⟩:=hA.aw.rel.row j _ hj
    have hov:=Yl hA hF (S:=s.m.S) (YB:=lc.YB) (fun q r hq hb=>⟨r,hq,hb⟩) hY _ _ hod
    refine ⟨σ.b j,σ.o j,⟨?_,⟨arr,a1,by rw [←h2];exact a3,fun q hq=>?_⟩,hA.aw.rel.apart j _ hj rfl,hA.aw.own j _ hj rfl,fun hf=>(hF.dom _ hf).2.1 j _ hj rfl rfl,fun q r hq hb he=>?_,fun i e z q j' hi hl he=>?_,fun x hx hl he=>?_⟩⟩
    ·have:=hA.tm.get bx.t
     rw [ht] at this
     exact this
    ·obtain ⟨c,c1,c2,c3⟩:=a4 q (by rw [h2];exact hq)
     have h5:=Ta h3 q (by rw [h2];exact hq)
     split at h5
     ·rename_i c' hc'
      simp only [Bool.and_eq_true] at h5
      obtain ⟨h6,h7⟩:=h5
      unfold eqOC at h7
      rw [c1] at h7
      dsimp only at h7
      have:=Sd h7
      subst this
      exact ⟨c,hc',Au7 h6 c2,c3⟩
     ·cases h5
    ·obtain ⟨r',h5,h6⟩:=hS q r hq hb
     have:=hA.aw.rel.inj q j r' _ h5 hj h6 rfl he
     subst this
     rw [hq] at h4
     dsimp only at h4
     rw [hb] at h4
     cases h4
    ·obtain ⟨y2,h5,h6⟩:=hY i _ hi
     rcases h6 with rfl | ⟨h6,_⟩ | h6
     ·exact (hF.od i _ _ _ _ h5 hl).2.2.2 j _ hj rfl he.symm
     ·cases h6
     ·cases h6
    ·exact (hov.free x hx hl).2.2.2.1 j _ hj rfl he.symm
   ·cases hx
  ·cases hx
theorem HeadAt.of {b:Bs} {σ:Env} {a:Act} {w:World} {lc:LC} {F:Nat→Prop} (hA:At K b s ρ σ a w) (hF:YRel F b.F0 b.wB.heap.size σ s.m s.Y w) (L:Link b lc) (hb:backB lc s=true) {vs:List V} {cs:List C} (hg:valsG s lc.gens lc.cells=some (vs,cs)) {ds:List DV} (ho:outVs s.Y ρ lc.rks (vs++cs.map V.c)=some ds) {xs:List (Option (Nat×Nat))} (hod:odGets s.m.S s.tm s.Y lc.YB lc.ods=some xs) (hinv:lc.inv lc.ρ (ds++odDat ρ xs)) (hmu:lc.mu lc.ρ (ds++odDat ρ xs)<lc.k) (hbx:(∀ q r,lc.mB.S.get q=some r→r.blk=true→∃ r',s.m.S.get q=some r'∧r'.blk=true)→(∀ i y,lc.YB.get i=some y→∃ y2,s.Y.get i=some y2∧YSame y y2)→BoxIn K b lc σ F (xs.map (odX σ ρ)) a w):HeadAt K b lc a w:=by
 unfold backB at hb
 simp only [Bool.and_eq_true] at hb
 obtain ⟨⟨⟨b1,b2⟩,b3⟩,b4⟩:=hb
 unfold valsG at hg
 split at hg
 ·rename_i vs' cs' hvs hcs
  cases hg
  -- told by values
  obtain ⟨oc,hoc,hov⟩:=odVals hA hF lc.ods xs hod
  have hcs2:=Aaw _ _ _ _ hcs hoc
  have hmp:(cs++oc).map (realC σ)=cs.map (realC σ)++celV lc.ods (xs.map (odX σ ρ)):=by rw [List.map_append,hov]
  have hsr:=Xw (lc.cells++ocs lc.ods) (cs++oc) s.m.S s.m.S (SLike.refl σ s.m.nx s.m.S) hcs2
  rw [hmp] at hsr
  obtain ⟨h1,h2⟩:=hA.aw.like hsr
  have hlen:(cs.map (realC σ)).length=lc.cells.length:=by rw [List.length_map,Pp _ _ _ hcs]
  have hex:=Al2 (lc.cells++ocs lc.ods) ((cs.map (realC σ)++celV lc.ods (xs.map (odX σ ρ))).map .raw) lc.mB.S s.m.S (by rw [List.length_map,←hmp,List.length_map];exact Pp _ _ _ hcs2) (Agj b2 fun i r hi=>(L.rlt i r hi).1.lt)
  obtain ⟨h3,h4⟩:=Aw.sub (m:=headM lc (cs.map (realC σ)) (xs.map (odX σ ρ))) (Y:=lc.YB) (ρ:=lc.ρ) h1 hex (Akh b3 fun i y hi=>(L.ylt i y hi).1.lt) L.n0 L.nx L.ag L.ylt (Agh _ _ _ L.rlt) (fun i hi=>by
   obtain ⟨r,h5,h6⟩:=L.loops i hi
   exact ⟨r,Vi _ _ _ _ _ h5 h6,h6⟩) L.fresh
  refine ⟨σ,F,cs.map (realC σ),ds,xs.map (odX σ ρ),hlen,h3,h4 F (h2 F hF),?_,fun p hp=>?_,by rw [hA.nt,nbeq b4],hA.mks,Yl hA hF (fun q r hq hb=>?_) (Akh b3 fun i y hi=>(L.ylt i y hi).1.lt) _ _ hod,by rw [An7];exact hinv,by rw [An7];exact hmu,hbx (fun q r hq hb=>by
    obtain ⟨r1,h5,h6⟩:=Agj b2 (fun i r hi=>(L.rlt i r hi).1.lt) q r hq
    exact ⟨r1,h5,by rw [←h6.blk.1];exact hb⟩) (Akh b3 fun i y hi=>(L.ylt i y hi).1.lt)⟩
  ·have:=Yi hA.aw.ag hF _ _ _ ho
   rw [List.map_append,←Asw hA.tm _ _ hvs] at this
   rw [List.map_map] at this
   exact this
  ·have h5:=Sb (List.all_eq_true.1 b1 p hp)
   exact ⟨by rw [hA.tm.get p.1,h5],L.klt p hp⟩
  ·obtain ⟨r1,h5,h6⟩:=hex q r hq
   obtain ⟨r2,h7,h8⟩:=hsr.back h5
   exact ⟨r2,h7,by rw [h8.blk.1,←h6.blk.1];exact hb⟩
 ·cases hg
theorem Atx {c:Code} {j:Nat} {ks:List Kt} {lc:LC} (hc:s.cur = .exit .normal) (hk:s.ks = .loop c (some j)::ks) (hL:(j,lc)∈Q.L) (hb:backB lc s=true) {vs:List V} {cs:List C} (hg:valsG s lc.gens lc.cells=some (vs,cs)) {ds:List DV}
  (ho:outVs s.Y ρ lc.rks (vs++cs.map V.c)=some ds) {xs:List (Option (Nat×Nat))} (hod:odGets s.m.S s.tm s.Y lc.YB lc.ods=some xs) (hinv:lc.inv lc.ρ (ds++odDat ρ xs)) (hmu:lc.mu lc.ρ (ds++odDat ρ xs)<lc.k) (hx:boxB lc s=true):Sx P K s ρ Q:=by
 intro F hF n b hB Qw hQ σ a w hA
 rw [hc,hk]
 obtain ⟨L,hΛ⟩:=hQ.2 _ hL
 obtain ⟨F,hF⟩:=hA.aw.y
 exact hΛ a w (HeadAt.of hA hF L hb hg ho hod hinv hmu fun hS hY=>Ayw hA hF hS hY hx hod)
end
end
end Go.Vc

namespace Go.Vc
section
variable [Holes]
section
variable {K:Nat→Option (List Value)} {b:Bs} {F F0:Nat→Prop} {B0:Nat} {σ τ:Env} {m:Mem} {Y:T YRow} {w:World} {ρ ρ':Rho}
theorem YRel.dead (hF:YRel F F0 B0 σ m Y w) (r:Nat):YRel F F0 B0 σ ⟨m.S.set r .dead,m.nx,m.lo⟩ Y w:=by
 have hblk:∀ i s,(m.S.set r .dead).get i=some s→s.blk=true→m.S.get i=some s:=fun i s hi hb=>by
  rw [T.get_set] at hi
  split at hi
  ·cases hi;cases hb
  ·exact hi
 exact ⟨fun g hg=>⟨(hF.dom g hg).1,fun i s hi hb=>(hF.dom g hg).2.1 i s (hblk i s hi hb) hb,(hF.dom g hg).2.2⟩,hF.row,fun i e z o j hi hl=>by
  obtain ⟨h1,h2,h3,h4⟩:=hF.od i e z o j hi hl
  exact ⟨h1,h2,h3,fun q s hq hb=>h4 q s (hblk q s hq hb) hb⟩,hF.odi⟩
theorem Aw.addRow (h:Aw K b m Y ρ σ w) (hF:YRel F b.F0 b.wB.heap.size σ m Y w) {n e k:Nat} {cs:T C} {arr:Array Value} (hn:Lt n m.nx) (hno:m.S.get n=none) (hk:arr.size=σ.k n)
  (harr:w.heap[σ.b n]?=some (.cells arr e (0,0))) (hsz:σ.o n+k≤arr.size) (hcs:∀ j,j<k→∃ c,cs.get j=some c∧C.lt m.nx c∧arr[σ.o n+j]?=some (realC σ c))
  (kn:K (σ.b n)=none) (own:b.wB.heap.size≤σ.b n) (fz:¬F (σ.b n)) (free:∀ q r,m.S.get q=some r→r.blk=true→σ.b q≠σ.b n) (od:∀ i e z q j,Y.get i=some (.od e z q j)→live σ i→σ.b i≠σ.b n) :
  Aw K b ⟨m.S.set n (.cells e k cs),m.nx,m.lo⟩ Y ρ σ w∧YRel F b.F0 b.wB.heap.size σ ⟨m.S.set n (.cells e k cs),m.nx,m.lo⟩ Y w:=by
 have hget:∀ i s,(m.S.set n (.cells e k cs)).get i=some s→s = .cells e k cs∧i=n∨m.S.get i=some s∧i≠n:=fun i s hi=>by
  rw [T.get_set] at hi
  split at hi
  ·rename_i he;cases hi;exact .inl ⟨rfl,he⟩
  ·rename_i he;exact .inr ⟨hi,he⟩
 have hy:YRel F b.F0 b.wB.heap.size σ ⟨m.S.set n (.cells e k cs),m.nx,m.lo⟩ Y w:=⟨fun g hg=>⟨(hF.dom g hg).1,fun i s hi hb=>by
  rcases hget i s hi with ⟨rfl,rfl⟩ | ⟨h1,_⟩
  ·exact fun he=>fz (he▸hg)
  ·exact (hF.dom g hg).2.1 i s h1 hb,(hF.dom g hg).2.2⟩,hF.row,fun i e' z o j hi hl=>by
  obtain ⟨h1,h2,h3,h4⟩:=hF.od i e' z o j hi hl
  refine ⟨h1,h2,h3,fun q s hq hb=>?_⟩
  rcases hget q s hq with ⟨rfl,rfl⟩ | ⟨h5,_⟩
  ·exact fun he=>od i e' z o j hi hl he.symm
  ·exact h4 q s h5 hb,hF.odi⟩
 refine ⟨⟨⟨fun i s hi=>?_,fun i s hi=>?_,fun i j s s' hi hj hb hb' he=>?_,h.rel.known,fun i s hi hb=>?_,h.rel.low,h.rel.fresh⟩,h.nx,h.agree,h.nx1,h.agree1,h.base,h.goes,h.frame,fun i s hi hb=>?_,⟨F,hy⟩,h.ag,h.dfr,fun i hi=>?_,h.klow⟩,hy⟩
 ·rcases hget i s hi with ⟨rfl,rfl⟩ | ⟨h1,_⟩
  ·exact ⟨arr,harr,hk,hsz,hcs⟩
  ·exact h.rel.row i s h1
 ·rcases hget i s hi with ⟨rfl,rfl⟩ | ⟨h1,_⟩
  ·exact hn
  ·exact h.rel.lt i s h1
 ·rcases hget i s hi with ⟨_,rfl⟩ | ⟨h1,_⟩
  ·rcases hget j s' hj with ⟨_,rfl⟩ | ⟨h2,_⟩
   ·rfl
   ·exact absurd he.symm (free j s' h2 hb')
  ·rcases hget j s' hj with ⟨_,rfl⟩ | ⟨h2,_⟩
   ·exact absurd he (free i s h1 hb)
   ·exact h.rel.inj i j s s' h1 h2 hb hb' he
 ·rcases hget i s hi with ⟨_,rfl⟩ | ⟨h1,_⟩
  ·exact kn
  ·exact h.rel.apart i s h1 hb
 ·rcases hget i s hi with ⟨_,rfl⟩ | ⟨h1,_⟩
  ·exact own
  ·exact h.own i s h1 hb
 ·obtain ⟨s,h1,h2⟩:=h.keep i hi
  refine ⟨s,?_,h2⟩
  rw [T.get_set,if_neg (fun he=>by subst he;rw [hno] at h1;cases h1)]
  exact h1
theorem Aw.addBox (h:Aw K b m Y ρ σ w) (hF:YRel F b.F0 b.wB.heap.size σ m Y w) {tmps:Array Value} {xs:List OdX} {bx:BoxT} {g o:Nat} (hb:BoxAt K F b.wB.heap.size σ m.nx m.S Y w tmps xs bx g o) :
  ∃ τ,Agree m.nx σ τ∧Aw K b ⟨m.S.set m.nx (.cells bx.e bx.k bx.cs),m.nx+1,m.lo⟩ Y ρ τ w∧YRel F b.F0 b.wB.heap.size τ ⟨m.S.set m.nx (.cells bx.e bx.k bx.cs),m.nx+1,m.lo⟩ Y w∧τ.b m.nx=g∧τ.o m.nx=o:=by
 obtain ⟨arr,r1,r2,r3⟩:=hb.row
 have hτ:=Env.agree_set σ m.nx g o arr.size .nilFunc
 obtain ⟨h1,h2⟩:=h.num hF hτ (ρ':=ρ) (RhoEq.refl _ _)
 have hlt:∀ i r,m.S.get i=some r→Lt i m.nx:=h.rel.lt
 have hno:m.S.get m.nx=none:=by
  cases hq:m.S.get m.nx with
  | none=>rfl
  | some r=>exact absurd (hlt _ r hq).lt (Nat.lt_irrefl _)
 have e1:(σ.set m.nx g o arr.size .nilFunc).b m.nx=g:=Env.set_b ..
 have e2:(σ.set m.nx g o arr.size .nilFunc).o m.nx=o:=Env.set_o ..
 have e3:(σ.set m.nx g o arr.size .nilFunc).k m.nx=arr.size:=Env.set_k ..
 obtain ⟨h3,h4⟩:=Aw.addRow (n:=m.nx) (e:=bx.e) (k:=bx.k) (cs:=bx.cs) (arr:=arr) h1 h2 h.rel.ltnx hno e3.symm (by rw [e1];exact r1) (by rw [e2];exact r2) (fun j hj=>by
  obtain ⟨c,c1,c2,c3⟩:=r3 j hj
  exact ⟨c,c1,C.lt.mono c2 (Nat.le_succ _),by rw [e2,hτ.realC c2];exact c3⟩) (by rw [e1];exact hb.kn) (by rw [e1];exact hb.own) (by rw [e1];exact hb.fz) (fun q r hq hr=>by
  rw [e1,hτ.b q (hlt q r hq)];exact hb.free q r hq hr) (fun i e z q j hi hl=>by
  have hli:=(hF.row i _ hi).1
  rw [e1,hτ.b i hli]
  exact hb.od i e z q j hi ((Ar hτ hli).1 hl))
 exact ⟨_,hτ,h3,h4,e1,e2⟩
end
end
end Go.Vc
