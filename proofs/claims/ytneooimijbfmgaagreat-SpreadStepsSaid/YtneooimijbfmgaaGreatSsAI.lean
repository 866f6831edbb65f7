import Derived.Test.YtneooimijbfmgaaGreatSsAH
set_option linter.unusedVariables false
set_option linter.unusedSimpArgs false
set_option linter.unusedSectionVars false
noncomputable section
namespace Go.Vc
structure PreI where
 i:Nat
 e:Nat
 z:Nat
 own:Bool
 j:Nat
 f:Rho→Int
def noLo:Option W→Bool
 | none=>true
 | some w=>isZ w
def noW:Option W→Bool
 | none=>true
 | some _=>false
def preI (P:Program) (Y:T YRow) (t:TypeId) (x:W) (lo hi mx:Option W):Option PreI:=match x,hi with
 | .v (.c (.fz i)),some h=>match odOf Y i,intOf Y h,sliceTy P t with
  | some (e,z,own,j),some (_,f),some (_,z')=>bif Nat.beq z z' && noLo lo && noW mx then some ⟨i,e,z,own,j,f⟩ else none
  | _,_,_=>none
 | _,_=>none
def viewI (P:Program) (Y:T YRow) (t:TypeId) (x:W) (lo hi mx:Option W):Option PreI:=match x,lo with
 | .v (.c (.fz i)),some h=>match odOf Y i,intOf Y h,sliceTy P t with
  | some (e,z,own,j),some (_,f),some (_,z')=>bif Nat.beq z z' && noW hi && noW mx then some ⟨i,e,z,own,j,f⟩ else none
  | _,_,_=>none
 | _,_=>none
structure ClrI where
 i:Nat
 e:Nat
 z:Nat
 own:Bool
 j:Nat
 x:Nat
 zs:List C
 ks:List Kd
def clrI (P:Program) (Y:T YRow) (t:TypeId) (a:W):Option ClrI:=match a with
 | .v (.c (.fz q))=>match Y.get q,sliceTy P t with
  | some (.ov i x z),some (e',z')=>match Y.get i,Y.get x,zero? P e',kindsOf P e' with
   | some (.od e z2 own j),some .int,some zs,some ks=>bif Nat.beq z z' && Nat.beq z2 z && Nat.beq e e' && Nat.beq zs.length z && zeroIs P e z then some ⟨i,e,z,own,j,x,zs,ks⟩ else none
   | _,_,_,_=>none
  | _,_=>none
 | _=>none
def clrE (l:List (List D)) (k:Int) (zd:List D):List (List D):=l.take k.toNat++List.replicate (l.length-k.toNat) zd
structure AmkI where
 e:Nat
 z:Nat
 f:Rho→Int
 zs:List C
 ks:List Kd
def isInt (P:Program) (t:TypeId):Bool:=match P.underlying t with
 | some (.int _)=>true
 | _=>false
def isNil:W→Bool
 | .v (.c (.raw (.slice none 0 0)))=>true
 | _=>false
def amkI (P:Program) (Y:T YRow) (t u:TypeId) (a x:W):Option AmkI:=match sliceTy P t,intOf Y x with
 | some (e,z),some (_,f)=>match zero? P e,kindsOf P e with
  | some zs,some ks=>bif isInt P u && isNil a && Nat.blt 0 z && Nat.beq zs.length z && zeroIs P e z && Nat.ble (Nat.mul 65536 (bytes? P e)) 140737488355328 then some ⟨e,z,f,zs,ks⟩ else none
  | _,_=>none
 | _,_=>none
section
variable [H:Holes]
section
variable {P:Program} {K:Nat→Option (List Value)} {b:Bs} {F F0:Nat→Prop} {B0:Nat} {σ τ:Env} {m:Mem} {Y:T YRow} {w w1:World} {ρ ρ':Rho} {i:Nat}
theorem Amn {e z j:Nat} {own:Bool} (h:odOf Y i=some (e,z,own,j)):Y.get i=some (.od e z own j):=by
 unfold odOf at h
 split at h
 ·rename_i hq;cases h;exact hq
 ·cases h
theorem Yk {e z j:Nat} {own:Bool} (hi:Y.get i=some (.od e z own j)) (hA:SymAg ρ σ Y) (hF:YRel F F0 B0 σ m Y w):∃ a c,realW σ (.v (.c (.fz i))) = .slice a (ρ.d j).length c∧σ.v i = .slice a (ρ.d j).length c∧OdV (Fo F B0 own) w e z (ρ.d j) (σ.b i) (.slice a (ρ.d j).length c):=by
 obtain ⟨_,hz,a,c,h6,h7⟩:=(hF.row i _ hi).2
 have hdj:σ.r.d j=ρ.d j:=hA i _ hi
 rw [hdj] at h6 h7
 exact ⟨a,c,by show realC σ (.fz i)=_;simp only [realC,h6],h6,hz,a,c,rfl,h7⟩
theorem Auk {t:Nat} {x:W} {lo hi mx:Option W} {p:PreI} (h:preI P Y t x lo hi mx=some p) (hA:SymAg ρ σ Y) :
  x = .v (.c (.fz p.i))∧Y.get p.i=some (.od p.e p.z p.own p.j)∧(∃ e,P.underlying t=some (.slice e)∧sizeOf? P e=some p.z)∧mx=none∧(lo=none∨∃ y k,lo=some y∧realW σ y = .int k 0)∧∃ y k,hi=some y∧realW σ y = .int k (p.f ρ):=by
 unfold preI at h
 split at h
 ·rename_i i y
  split at h
  ·rename_i e z own j k f e' z' hod hf hty
   obtain ⟨hc,h⟩:=Aj h
   cases h
   simp only [Bool.and_eq_true] at hc
   obtain ⟨⟨h1,h2⟩,h3⟩:=hc
   have h1:=Nat.eq_of_beq_eq_true h1
   subst h1
   refine ⟨rfl,Amn hod,⟨_,As hty⟩,?_,?_,_,k,rfl,Bi hf hA⟩
   ·cases mx with
    | none=>rfl
    | some=>cases h3
   ·cases lo with
    | none=>exact .inl rfl
    | some y' =>
     right
     have h2':isZ y'=true:=h2
     unfold isZ at h2'
     split at h2'
     ·exact ⟨_,_,rfl,rfl⟩
     ·cases h2'
  ·cases h
 ·cases h
theorem App {t:Nat} {x:W} {lo hi mx:Option W} {p:PreI} (h:viewI P Y t x lo hi mx=some p) (hA:SymAg ρ σ Y) :
  x = .v (.c (.fz p.i))∧Y.get p.i=some (.od p.e p.z p.own p.j)∧(∃ e,P.underlying t=some (.slice e)∧sizeOf? P e=some p.z)∧mx=none∧hi=none∧∃ y k,lo=some y∧realW σ y = .int k (p.f ρ):=by
 unfold viewI at h
 split at h
 ·rename_i i y
  split at h
  ·rename_i e z own j k f e' z' hod hf hty
   obtain ⟨hc,h⟩:=Aj h
   cases h
   simp only [Bool.and_eq_true] at hc
   obtain ⟨⟨h1,h2⟩,h3⟩:=hc
   have h1:=Nat.eq_of_beq_eq_true h1
   subst h1
   refine ⟨rfl,Amn hod,⟨_,As hty⟩,?_,?_,_,k,rfl,Bi hf hA⟩
   ·cases mx with
    | none=>rfl
    | some=>cases h3
   ·cases hi with
    | none=>rfl
    | some=>cases h2
  ·cases h
 ·cases h
theorem Ars {F:Nat→Prop} {z n:Nat} {arr:Array Value} {l:List (List D)} (h:Els F w z arr l):Els F w z arr (l.take n):=fun q cs hq=>by
 rw [List.getElem?_take] at hq
 split at hq
 ·exact h q cs hq
 ·cases hq
theorem Avp {F:Nat→Prop} {w w1:World} {z k m:Nat} {arr:Array Value} {l:List (List D)} {vs:List Value} {zd:List D} (h:Els F w z arr l) (hc:∀ g j v,F g→w.cell? ⟨g,j,none⟩=some v→w1.cell? ⟨g,j,none⟩=some v) (hkm:l.length=k+m) (hzd:zd.length=z) (hlen:vs.length=m*z)
  (hv:∀ q p d,q<m→zd[p]?=some d→∃ u,vs[q*z+p]?=some u∧RD F w d u) (hsz:k*z+vs.length≤arr.size) :
  Els F w1 z (arr.toList.take (k*z)++vs++arr.toList.drop (k*z+vs.length)).toArray (l.take k++List.replicate m zd):=fun q cs hq=>by
 have hg:∀ i,(arr.toList.take (k*z)++vs++arr.toList.drop (k*z+vs.length)).toArray[i]?=if i<k*z then arr[i]? else if i<k*z+vs.length then vs[i-k*z]? else arr[i]?:=fun i=>by
  rw [List.getElem?_toArray,Lp _ _ _ _ (by simpa using hsz)]
  simp only [Array.getElem?_toList]
 have hkl:(l.take k).length=k:=by rw [List.length_take];omega
 by_cases hqk:q<k
 ·rw [List.getElem?_append_left (by omega),List.getElem?_take,if_pos hqk] at hq
  obtain ⟨h1,h2⟩:=h q cs hq
  refine ⟨h1,fun p d hp=>?_⟩
  obtain ⟨v,h3,h4⟩:=h2 p d hp
  have hpz:p<z:=by have:=(List.getElem?_eq_some_iff.1 hp).1;omega
  have:=Dk hqk hpz
  exact ⟨v,by rw [hg,if_pos this];exact h3,h4.keep (fun _ h=>h) hc⟩
 ·rw [List.getElem?_append_right (by omega),hkl] at hq
  obtain ⟨hq1,hq2⟩:=List.getElem?_eq_some_iff.1 hq
  rw [List.getElem_replicate] at hq2
  subst hq2
  rw [List.length_replicate] at hq1
  refine ⟨hzd,fun p d hp=>?_⟩
  have hpz:p<z:=by have:=(List.getElem?_eq_some_iff.1 hp).1;omega
  obtain ⟨u,h3,h4⟩:=hv (q-k) p d hq1 hp
  have hlt:=Dk hq1 hpz
  have e:q*z+p=k*z+((q-k)*z+p):=by
   have:q*z=k*z+(q-k)*z:=by rw [←Nat.add_mul];congr 1;omega
   omega
  exact ⟨u,by rw [hg,if_neg (by omega),if_pos (by omega),show q*z+p-k*z=(q-k)*z+p by omega];exact h3,h4.keep (fun _ h=>h) hc⟩
theorem Aw.redat (h:Aw K b m Y ρ σ w) (hF:YRel F b.F0 b.wB.heap.size σ m Y w) {e z j:Nat} {own:Bool} (hi:Y.get i=some (.od e z own j)) :
  ∃ τ,Agree m.nx σ τ∧Aw K b (m.up (Nat.succ m.nx)) (Y.set i (.od e z own m.nx)) (ρ.setD m.nx (ρ.d j)) τ w:=by
 have hlt:=(hF.row i _ hi).1
 have ha:=Env.agree_sym σ m.nx .nilFunc (σ.r.setD m.nx (ρ.d j)) (Am _ _ _)
 have hF1:=hF.kill hlt
 obtain ⟨hA3,hF3⟩:=(h.kill hlt).num hF1 ha (Am ρ m.nx (ρ.d j))
 have hdat:(σ.sym m.nx .nilFunc (σ.r.setD m.nx (ρ.d j))).r.d m.nx=ρ.d j:=Ay _ _ _
 have hb:∀ q,(σ.sym m.nx .nilFunc (σ.r.setD m.nx (ρ.d j))).b q=σ.b q:=fun _=>rfl
 have hvi:(σ.sym m.nx .nilFunc (σ.r.setD m.nx (ρ.d j))).v i=σ.v i:=ha.v i hlt
 obtain ⟨aa,c,_,r2,r3⟩:=Yk hi h.ag hF
 obtain ⟨hA4,hF4⟩:=hA3.reod hF3 (i:=i) (e:=e) (z:=z) (j:=m.nx) (own:=own) (hlt.mono (Nat.le_succ _)) h.rel.ltnx (by rw [hdat,Ay]) (by rw [hdat,hb,hvi,r2];exact r3) fun hl=>by
  have hli:=(Ar ha hlt).1 hl
  obtain ⟨f1,f2,f3,f4⟩:=hF.od i _ _ _ _ hi hli
  refine ⟨f1,f2,f3,f4,fun q' e' z' o' j' hne hq' hlq=>?_⟩
  rw [hb,hb]
  have hq0:=hq'
  rw [T.get_set] at hq'
  split at hq'
  ·cases hq'
  ·exact fun he=>hne (hF.odi q' _ _ _ _ i _ _ _ _ hq' hi ((Ar ha (hF1.row q' _ hq0).1).1 hlq) hli he)
 have hset:∀ q,((Y.set i .dead).set i (.od e z own m.nx)).get q=(Y.set i (.od e z own m.nx)).get q:=fun q=>by
  rw [T.get_set,T.get_set,T.get_set]
  split <;> rfl
 exact ⟨_,ha,hA4.rel,hA4.nx,hA4.agree,hA4.nx1,hA4.agree1,hA4.base,hA4.goes,hA4.frame,hA4.own,⟨F,hF4.dom,fun q y hq=>hF4.row q y (by rw [hset];exact hq),fun q e z o j hq=>hF4.od q e z o j (by rw [hset];exact hq),fun q e z o j q' e' z' o' j' hq hq'=>hF4.odi q e z o j q' e' z' o' j' (by rw [hset];exact hq) (by rw [hset];exact hq')⟩,fun q y hq=>hA4.ag q y (by rw [hset];exact hq),hA4.dfr,hA4.keep,hA4.klow⟩
theorem Aml {s:Sem Value} {v:Value} {w':World} (h:s.run P w = .ok v w'):(do pure (.value (←s)):Sem Next).run P w = .ok (.value v) w':=by
 rw [Sem.run_bind,h];rfl
end
section
variable {P:Program} {K:Nat→Option (List Value)} {s s':St} {ρ ρ':Rho} {Q:Post}
theorem Abq {all:Array Oper} {o:Oper} {l:List Oper} {x:W} {m':Mem} {Y':T YRow} (hp:putY s all o l x m' Y'=some s') (k:Sx P K s' ρ' Q) {b:Bs} {σ τ:Env} {a:Act} {w w':World} (hA:At K b s ρ σ a w) (hτ:Agree s.m.nx σ τ) (hnx:s.m.nx≤m'.nx) (hAw:Aw K b m' Y' ρ' τ w') (hx:x.lt m'.nx)
  (hdf:∀ (g:Nat) (q:Option (List Deferred)),w.heap[g]?=some (.deferred q)→w'.heap[g]?=some (.deferred q)) {F:Fence} (hF:WF F) {n:Nat} (hB:RoundB b F) {Qw:Qs} (hQ:QOk K b s.nt Q Qw):den F n P Qw s.ks (.ops all l) (a.put o.dst (realW τ x)) w':=by
 unfold putY at hp
 cases hput:putR s.nt s.tm o.dst (.ok x m') with
 | no=>rw [hput] at hp;cases hp
 | ok tm m2 =>
  rw [hput] at hp
  cases hp
  obtain ⟨x',hx',hpk⟩:=Ei hput
  cases hx'
  refine k F hF n b hB Qw hQ τ _ w' ⟨hAw,hpk τ m'.nx a (hA.tm.agree hτ hnx) hA.nt hx,by rw [Bz];exact hA.nt,?_⟩
  obtain ⟨rs,q1,q2,q3⟩:=hA.mks
  exact ⟨rs,by rw [Bd];exact q1,q2,fun r hr=>⟨(q3 r hr).1,hdf r _ (q3 r hr).2⟩⟩
section
variable {all:Array Oper} {o:Oper} {l:List Oper} (hc:s.cur = .ops all (o::l)) (hop:openB all s.tm o=false) (hw:wantW all s.tm o=true)
include hc hop hw
theorem Aws {t:TypeId} {x:Operand} {lo hi mx:Option Operand} {p:PreI} (ho:o.op = .slice t x lo hi mx) (hi':preI P s.Y t (ev s.tm x) (lo.map (ev s.tm)) (hi.map (ev s.tm)) (mx.map (ev s.tm))=some p) (h0:0≤p.f ρ∧p.f ρ≤((ρ.d p.j).length:Int))
  (hput:putY s all o l (one (.fz (Nat.succ s.m.nx))) (s.m.up (Nat.succ (Nat.succ s.m.nx))) ((s.Y.set p.i .dead).set (Nat.succ s.m.nx) (.od p.e p.z p.own s.m.nx))=some s') (k:∀ y,y=(ρ.d p.j).take (p.f ρ).toNat→Sx P K s' (ρ.setD s.m.nx y) Q):Sx P K s ρ Q:=by
 refine Fd hc hop hw (fun c' hc'=>by rw [hc'] at ho;cases ho) fun F hF n b hB Qw hQ σ a w hA=>?_
 obtain ⟨G,hG⟩:=hA.aw.y
 obtain ⟨rfl',hY,⟨e,hu,hsz⟩,hmx,hlo,yh,kh,hhi,hyh⟩:=Auk hi' hA.aw.ag
 unfold execOp
 simp only [ho,(hA.tm.ev a.defers x).1]
 rw [Dx hA.tm,Dx hA.tm,Dx hA.tm,rfl',hmx,hhi]
 obtain ⟨aa,c,r1,r2,r3⟩:=Yk hY hA.aw.ag hG
 have hlt:=(hG.row p.i _ hY).1
 have hlc:(ρ.d p.j).length≤c:=by
  obtain ⟨_,a',c',he,h7⟩:=r3
  cases he
  rcases h7 with ⟨rfl,h8⟩ | ⟨_,_,_,_,_,h8,_⟩
  ·rw [h8];exact Nat.le_refl _
  ·exact h8
 have hHc:(p.f ρ).toNat≤c:=by omega
 have hbd:(Instr.sliceBounds true (ρ.d p.j).length c ((lo.map (ev s.tm)).map (realW σ)) ((some yh).map (realW σ)) ((none:Option W).map (realW σ))).run P w = .ok (0,(p.f ρ).toNat,c) w:=by
  have hb':∀ code,(Instr.sliceBound (realW σ yh) c code).run P w = .ok (p.f ρ).toNat w:=fun code=>by
   rw [hyh];exact Bu h0.1 (by omega)
  unfold Instr.sliceBounds
  rcases hlo with hlo | ⟨yl,kl,hlo,hyl⟩
  ·rw [hlo];simp [hb']
  ·have hb2:∀ code,(Instr.sliceBound (realW σ yl) (p.f ρ).toNat code).run P w = .ok 0 w:=fun code=>by
    rw [hyl];exact Bu (Int.le_refl 0) (by omega)
   rw [hlo];simp [hb',hb2]
 have hrun:=Cb (P:=P) (w:=w) (a:=aa) hu hsz hbd
 rw [r1,An hrun]
 -- the world stays
 have hA1:=hA.aw.kill hlt
 have hG1:=hG.kill hlt
 have ha:=Env.agree_sym σ s.m.nx .nilFunc (σ.r.setD s.m.nx ((ρ.d p.j).take (p.f ρ).toNat)) (Am _ _ _)
 obtain ⟨hA2,hG2⟩:=hA1.num hG1 ha (Am ρ s.m.nx ((ρ.d p.j).take (p.f ρ).toNat))
 generalize hτd:σ.sym s.m.nx .nilFunc (σ.r.setD s.m.nx ((ρ.d p.j).take (p.f ρ).toNat))=τ at ha hA2 hG2
 have hdat:τ.r.d s.m.nx=(ρ.d p.j).take (p.f ρ).toNat:=by rw [←hτd];exact Ay _ _ _
 have hb:∀ i,τ.b i=σ.b i:=fun i=>by rw [←hτd];rfl
 have hadr:(if c=0 then aa else aa.map fun x=>x.add (0*p.z))=aa:=by
  split
  ·rfl
  ·cases aa with
   | none=>rfl
   | some q=>simp [Nat.zero_mul,Addr.add]
 have hval:Value.slice (if c=0 then aa else aa.map (·.add (0*p.z))) ((p.f ρ).toNat-0) (c-0) = .slice aa (p.f ρ).toNat c:=by
  rw [Nat.sub_zero,Nat.sub_zero]
  congr 1
 have hod:OdV (Fo G b.wB.heap.size p.own) w p.e p.z (τ.r.d s.m.nx) (σ.b p.i) (.slice aa (p.f ρ).toNat c):=by
  rw [hdat]
  obtain ⟨hz,a',c',he,h7⟩:=r3
  cases he
  have hlen:((ρ.d p.j).take (p.f ρ).toNat).length=(p.f ρ).toNat:=by rw [List.length_take];omega
  refine ⟨hz,aa,c,by rw [hlen],?_⟩
  rcases h7 with ⟨h8,h9⟩ | ⟨h8,h9,arr,h10,h11,h12,h13⟩
  ·exact .inl ⟨h8,by rw [h9];simp⟩
  ·exact .inr ⟨h8,h9,arr,h10,h11,by rw [hlen];exact hHc,Ars h13⟩
 have hlive:liveV (.slice aa (p.f ρ).toNat c)→live σ p.i:=fun ⟨_,_,c',he,hc0⟩=>by cases he;exact ⟨_,_,_,r2,hc0⟩
 obtain ⟨υ,k1,k2,_,k4,k5,_⟩:=hA2.symO hG2 (e:=p.e) (z:=p.z) (j:=s.m.nx) (own:=p.own) (v := .slice aa (p.f ρ).toNat c) (g:=σ.b p.i) hA.aw.rel.ltnx (by rw [hdat,Ay]) hod fun hl=>by
  have hli:=hlive hl
  obtain ⟨f1,f2,f3,f4⟩:=hG.od p.i _ _ _ _ hY hli
  refine ⟨f1,f2,f3,fun q r hq hbk=>by rw [hb];exact f4 q r hq hbk,fun q e z oo jj hq hlq=>?_⟩
  rw [hb]
  have hq0:=hq
  rw [T.get_set] at hq
  split at hq
  ·cases hq
  ·rename_i hne
   exact fun he=>hne (hG.odi q _ _ _ _ p.i _ _ _ _ hq hY ((Ar ha (hG1.row q _ hq0).1).1 hlq) hli he)
 have:=Abq hput (k _ rfl) hA (ha.trans (Nat.le_succ _) k1) (by show s.m.nx≤s.m.nx+1+1;omega) k2 (x:=one (.fz (Nat.succ s.m.nx))) k5 (fun _ _ h=>h) hF (n:=n) hB hQ
 rw [show realW υ (one (.fz (Nat.succ s.m.nx))) = .slice aa (p.f ρ).toNat c from k4] at this
 show den F n P Qw s.ks (.ops all l) (a.put o.dst (.slice (if c=0 then aa else aa.map (·.add (0*p.z))) ((p.f ρ).toNat-0) (c-0))) w
 rw [hval]
 exact this
theorem Atj {t:TypeId} {x:Operand} {lo hi mx:Option Operand} {p:PreI} (ho:o.op = .slice t x lo hi mx) (hi':viewI P s.Y t (ev s.tm x) (lo.map (ev s.tm)) (hi.map (ev s.tm)) (mx.map (ev s.tm))=some p) (h0:0≤p.f ρ∧p.f ρ≤((ρ.d p.j).length:Int))
  (hput:putY s all o l (one (.fz (Nat.succ s.m.nx))) (s.m.up (Nat.succ (Nat.succ s.m.nx))) ((s.Y.set s.m.nx .int).set (Nat.succ s.m.nx) (.ov p.i s.m.nx p.z))=some s') (k:∀ y,y=p.f ρ→Sx P K s' (ρ.setN s.m.nx y) Q):Sx P K s ρ Q:=by
 refine Fd hc hop hw (fun c' hc'=>by rw [hc'] at ho;cases ho) fun F hF n b hB Qw hQ σ a w hA=>?_
 obtain ⟨G,hG⟩:=hA.aw.y
 obtain ⟨rfl',hY,⟨e,hu,hsz⟩,hmx,hhi,yl,kl,hlo,hyl⟩:=App hi' hA.aw.ag
 unfold execOp
 simp only [ho,(hA.tm.ev a.defers x).1]
 rw [Dx hA.tm,Dx hA.tm,Dx hA.tm,rfl',hmx,hhi,hlo]
 obtain ⟨aa,c,r1,r2,r3⟩:=Yk hY hA.aw.ag hG
 have hlt:=(hG.row p.i _ hY).1
 have hlc:(ρ.d p.j).length≤c:=by
  obtain ⟨_,a',c',he,h7⟩:=r3
  cases he
  rcases h7 with ⟨rfl,h8⟩ | ⟨_,_,_,_,_,h8,_⟩
  ·rw [h8];exact Nat.le_refl _
  ·exact h8
 have hbd:(Instr.sliceBounds true (ρ.d p.j).length c ((some yl).map (realW σ)) ((none:Option W).map (realW σ)) ((none:Option W).map (realW σ))).run P w = .ok ((p.f ρ).toNat,(ρ.d p.j).length,c) w:=by
  have hb2:∀ code,(Instr.sliceBound (realW σ yl) (ρ.d p.j).length code).run P w = .ok (p.f ρ).toNat w:=fun code=>by
   rw [hyl];exact Bu h0.1 h0.2
  unfold Instr.sliceBounds
  simp [hb2]
 have hrun:=Cb (P:=P) (w:=w) (a:=aa) hu hsz hbd
 rw [r1,An hrun]
 obtain ⟨τ,k1,k2,k3,k4,k5⟩:=hA.aw.symD hG (k := .int .i64) (d := .raw (.int .i64 (p.f ρ))) (v := .int .i64 (p.f ρ)) (own:=false) (.int .i64 _) (.raw _ rfl)
 have hx:τ.r.n s.m.nx=p.f ρ:=by
  have:Value.int .i64 (τ.r.n s.m.nx) = .int .i64 (p.f ρ):=k4
  exact (Value.int.inj this).2
 generalize hv:Value.slice (if c=(p.f ρ).toNat then aa else aa.map (·.add ((p.f ρ).toNat*p.z))) ((ρ.d p.j).length-(p.f ρ).toNat) (c-(p.f ρ).toNat)=v
 have ha:=Env.agree_set τ (s.m.nx+1) 0 0 0 v
 have hi1:Lt p.i (s.m.nx+1):=hlt.mono (Nat.le_succ _)
 have hn1:Lt s.m.nx (s.m.nx+1):=hA.aw.rel.ltnx
 obtain ⟨j1,_⟩:=k2.sym k3 ha (y := .ov p.i s.m.nx p.z) rfl ⟨hi1.mono (Nat.le_succ _),hn1.mono (Nat.le_succ _),by rw [ha.rn _ hn1,hx];exact h0.1,aa,(ρ.d p.j).length-(p.f ρ).toNat,c,(if c=(p.f ρ).toNat then aa else aa.map (·.add ((p.f ρ).toNat*p.z))),c-(p.f ρ).toNat,by
   rw [ha.v _ hi1,ha.rn _ hn1,hx,k1.v _ hlt,r2]
   congr 1
   omega,by show (τ.set (s.m.nx+1) 0 0 0 v).v (s.m.nx+1)=_;rw [Env.set_v];exact hv.symm,fun hm=>by
   rw [if_neg (by omega),ha.rn _ hn1,hx,ha.b _ hi1,k1.b _ hlt]
   obtain ⟨_,a',c',he,h7⟩:=r3
   cases he
   rcases h7 with ⟨_,h8⟩ | ⟨h8,_⟩
   ·rw [h8] at hm;simp at hm
   ·rw [h8];simp [Addr.add];exact fun h=>h.symm⟩ (RhoEq.refl _ _) trivial
 have:=Abq hput (k _ rfl) hA (k1.trans (Nat.le_succ _) ha) (by show s.m.nx≤s.m.nx+1+1;omega) j1 (x:=one (.fz (Nat.succ s.m.nx))) k2.rel.ltnx (fun _ _ h=>h) hF (n:=n) hB hQ
 rw [show realW (τ.set (s.m.nx+1) 0 0 0 v) (one (.fz (Nat.succ s.m.nx)))=v by
  show realC _ (.fz (s.m.nx+1))=v
  simp only [realC,Env.set_v]
  rw [←hv]] at this
 exact this
theorem Aqf {c:Call} {t:TypeId} {x:Operand} {i:ClrI} {zd:List D} (ho:o.op = .call c) (hcal:c.callee = .builtin .clear) (hts:c.argTypes.toList=[t]) (hxs:c.args.toList=[x]) (hi:clrI P s.Y t (ev s.tm x)=some i) (hd:outCs s.Y ρ true i.ks i.zs=some zd)
  (hput:putY s all o l undefW (s.m.up (Nat.succ s.m.nx)) (s.Y.set i.i (.od i.e i.z i.own s.m.nx))=some s') (k:∀ y,y=clrE (ρ.d i.j) (ρ.n i.x) zd→Sx P K s' (ρ.setD s.m.nx y) Q):Sx P K s ρ Q:=by
 refine Fd hc hop hw (fun c' hc'=>by rw [hc'] at ho;cases ho) fun F hF n b hB Qw hQ σ a w hA=>?_
 obtain ⟨G,hG⟩:=hA.aw.y
 have hts:c.argTypes=#[t]:=Array.ext' hts
 have hxs:c.args=#[x]:=Array.ext' hxs
 unfold execOp
 simp only [ho]
 unfold resolve
 simp only [hcal,hts,hxs]
 rw [show (#[x].map a.eval)=#[realW σ (ev s.tm x)] by simp [(hA.tm.ev a.defers x).1]]
 show Und F P _ ((do pure (.value (←Builtin.clear_ #[t] o.type #[realW σ (ev s.tm x)])):Sem Next).run P w)
 unfold clrI at hi
 split at hi
 ·rename_i q hx
  rw [hx]
  split at hi
  ·rename_i ii xx z e' z' hq hty
   split at hi
   ·rename_i e z2 own j zs ks hii hxx hzs hks
    obtain ⟨hcc,hi⟩:=Aj hi
    cases hi
    simp only [Bool.and_eq_true] at hcc
    obtain ⟨⟨⟨⟨c1,c2⟩,c3⟩,c4⟩,c5⟩:=hcc
    have c1:=nbeq c1
    have c2:=nbeq c2
    have c3:=nbeq c3
    have c4:=nbeq c4
    subst c1 c2 c3
    dsimp only at hd hput k
    obtain ⟨hu,hsz⟩:=As hty
    obtain ⟨_,_,h0,a1,m1,cc,a2,c2,h1,h2,h3⟩:=(hG.row q _ hq).2
    have hxr:σ.r.n xx=ρ.n xx:=hA.aw.ag xx _ hxx
    rw [hxr] at h0 h1 h3
    obtain ⟨aa,c',r1,r2,r3⟩:=Yk hii hA.aw.ag hG
    have hm:(ρ.d j).length=m1+(ρ.n xx).toNat:=by rw [r2] at h1;exact (Value.slice.inj h1).2.1
    have hre:realW σ (.v (.c (.fz q))) = .slice a2 m1 c2:=by show realC σ (.fz q)=_;simp only [realC,h2]
    rw [hre]
    obtain ⟨i0,v,hiv,hiz,hvs⟩:=Fc c5
    obtain ⟨v',hzv,hzs',i1,hi1,hz1⟩:=Dm (P:=P) (w:=w) hzs
    have hvv:v=v':=by rw [hiv] at hi1;cases hi1;rw [hiz] at hz1;cases hz1;rfl
    subst hvv
    obtain ⟨d1,d2⟩:=Ho hA.aw.ag hG _ _ _ hd
    have hzdl:zd.length=zs.length:=by rw [←d2.1,List.length_map]
    rcases Nat.eq_zero_or_pos m1 with rfl | hmp
    ·have hrun:(Builtin.clear_ #[t] o.type #[.slice a2 0 c2]).run P w = .ok undef w:=by
      cases a2 with
      | none=>simp [Builtin.clear_,run_underlying hu,undef]
      | some p=>simp [Builtin.clear_,run_underlying hu,undef]
     rw [An hrun]
     have hcl:clrE (ρ.d j) (ρ.n xx) zd=ρ.d j:=by
      unfold clrE
      rw [List.take_of_length_le (by omega),show (ρ.d j).length-(ρ.n xx).toNat=0 by omega]
      simp
     have k:=k _ rfl
     rw [hcl] at k
     obtain ⟨τ,k1,k2⟩:=hA.aw.redat hG hii
     exact Abq hput k hA k1 (Nat.le_succ _) k2 (x:=undefW) (Bt _) (fun _ _ h=>h) hF (n:=n) hB hQ
    ·obtain ⟨hz0,a',c'',he,h7⟩:=r3
     cases he
     rcases h7 with ⟨_,h8⟩ | ⟨h8,h9,arr,h10,h11,h12,h13⟩
     ·rw [h8] at hm;simp at hm;omega
     have hadr:=h3 (by omega)
     subst hadr
     have hlv:live σ ii:=⟨_,_,_,r2,h9⟩
     have hnl:((reps zs m1).map (realC σ)).length=m1*z2:=by rw [List.length_map,Cu,c4]
     have hkz:((ρ.n xx).toNat+m1)*z2≤c'*z2:=Nat.mul_le_mul_right _ (by omega)
     rw [Nat.add_mul] at hkz
     have hfit:(ρ.n xx).toNat*z2+((reps zs m1).map (realC σ)).length≤arr.size:=by omega
     have hcell:∀ q p d,q<m1→zd[p]?=some d→∃ u,((reps zs m1).map (realC σ))[q*z2+p]?=some u∧RD (Fo G b.wB.heap.size true) w d u:=fun q p d hq hp=>by
      have hpl:p<z2:=by have:=(List.getElem?_eq_some_iff.1 hp).1;omega
      have hlt:q*z2+p<m1*z2:=Dk hq hpl
      have hpz:p<zs.length:=by omega
      refine ⟨realC σ zs[p],?_,d2.2 p d _ hp (by rw [List.getElem?_map,List.getElem?_eq_getElem hpz];rfl)⟩
      rw [List.getElem?_map,Kc _ _ _ (by rw [c4];exact hlt),c4,Nat.add_comm,Nat.add_mul_mod_self_right,Nat.mod_eq_of_lt hpl,List.getElem?_eq_getElem hpz]
      rfl
     have hone:∀ u∈(reps zs m1).map (realC σ),u.oneCell'=true:=fun u hu=>by
      obtain ⟨jj,hjj⟩:=List.mem_iff_getElem?.1 hu
      have hjl:=(List.getElem?_eq_some_iff.1 hjj).1
      rw [hnl] at hjl
      have e1:jj / z2<m1:=Nat.div_lt_of_lt_mul (by rw [Nat.mul_comm];exact hjl)
      have e2:jj % z2<zd.length:=by rw [hzdl,c4];exact Nat.mod_lt _ hz0
      obtain ⟨u',g1,g2⟩:=hcell (jj / z2) (jj % z2) _ e1 (List.getElem?_eq_getElem e2)
      have:jj / z2*z2+jj % z2=jj:=by have:=Nat.div_add_mod jj z2;rw [Nat.mul_comm] at this;exact this
      rw [this,hjj] at g1
      cases g1
      exact g2.one
     have hst:=run_storeCells_at P (σ.b ii) ((ρ.n xx).toNat*z2) e ((reps zs m1).map (realC σ)) 0 arr w h10 (by simpa using hfit) hone
     simp only [Nat.add_zero] at hst
     have hzc:Builtin.zeroCells v.cells m1=((reps zs m1).map (realC σ)).toArray:=by rw [←hzs'];exact Hh σ v m1
     have hrun:(Builtin.clear_ #[t] o.type #[.slice (some ⟨σ.b ii,(ρ.n xx).toNat*z2,none⟩) m1 c2]).run P w = .ok undef (w.setRow (σ.b ii) (arr.toList.take ((ρ.n xx).toNat*z2)++(reps zs m1).map (realC σ)++arr.toList.drop ((ρ.n xx).toNat*z2+((reps zs m1).map (realC σ)).length)).toArray):=by
      obtain ⟨mm,rfl⟩:∃ mm,m1=mm+1:=⟨m1-1,by omega⟩
      simp [Builtin.clear_,run_underlying hu,hzv,hzc,hst,undef]
     rw [Sem.run_bind,hrun]
     have hlen:(clrE (ρ.d j) (ρ.n xx) zd).length=(ρ.d j).length:=by
      unfold clrE
      rw [List.length_append,List.length_take,List.length_replicate]
      omega
     obtain ⟨τ,k1,k2,_⟩:=hA.aw.turnO hG (own':=own) (l:=clrE (ρ.d j) (ρ.n xx) zd) (arr':=(arr.toList.take ((ρ.n xx).toNat*z2)++(reps zs m1).map (realC σ)++arr.toList.drop ((ρ.n xx).toNat*z2+((reps zs m1).map (realC σ)).length)).toArray) hii hlv h10 r2
      (by simp only [List.size_toArray,List.length_append,List.length_take,List.length_drop,Array.length_toList];omega) h12 hlen (fun h=>h) fun w1 hw1=>by
       unfold clrE
       rw [show (ρ.d j).length-(ρ.n xx).toNat=m1 by omega]
       exact Avp (w:=w) h13 hw1 (by omega) (by rw [hzdl,c4]) hnl (fun q p d hq hp=>by
        obtain ⟨u,g1,g2⟩:=hcell q p d hq hp
        exact ⟨u,g1,g2.keep (fun g hg=>⟨hg.1,fun _=>hg.2 rfl⟩) fun _ _ _ _ h=>h⟩) (by omega)
     exact Abq hput (k _ rfl) hA k1 (Nat.le_succ _) k2 (x:=undefW) (Bt _) (fun g q hg=>by
      rw [setRow_other w (σ.b ii) g _ fun he=>by rw [he,h10] at hg;cases hg]
      exact hg) hF (n:=n) hB hQ
   ·cases hi
  ·cases hi
 ·cases hi
theorem Aw2 {c:Call} {t u:TypeId} {s0 x0:Operand} {i:AmkI} {zd:List D} (ho:o.op = .call c) (hcal:c.callee = .builtin .append) (hts:c.argTypes.toList=[t,u]) (hxs:c.args.toList=[s0,x0]) (hi:amkI P s.Y t u (ev s.tm s0) (ev s.tm x0)=some i) (hd:outCs s.Y ρ true i.ks i.zs=some zd) (h0:0<i.f ρ∧i.f ρ≤65536)
  (hput:putY s all o l (one (.fz (Nat.succ s.m.nx))) (s.m.up (Nat.succ (Nat.succ s.m.nx))) (s.Y.set (Nat.succ s.m.nx) (.od i.e i.z true s.m.nx))=some s') (k:∀ y,y=List.replicate (i.f ρ).toNat zd→Sx P K s' (ρ.setD s.m.nx y) Q):Sx P K s ρ Q:=by
 refine Fd hc hop hw (fun c' hc'=>by rw [hc'] at ho;cases ho) fun F hF n b hB Qw hQ σ a w hA=>?_
 obtain ⟨G,hG⟩:=hA.aw.y
 have hts:c.argTypes=#[t,u]:=Array.ext' hts
 have hxs:c.args=#[s0,x0]:=Array.ext' hxs
 unfold execOp
 simp only [ho]
 unfold resolve
 simp only [hcal,hts,hxs]
 rw [show (#[s0,x0].map a.eval)=#[realW σ (ev s.tm s0),realW σ (ev s.tm x0)] by simp [(hA.tm.ev a.defers s0).1,(hA.tm.ev a.defers x0).1]]
 show Und F P _ ((do pure (.value (←Builtin.append_ #[t,u] o.type #[realW σ (ev s.tm s0),realW σ (ev s.tm x0)])):Sem Next).run P w)
 unfold amkI at hi
 split at hi
 ·rename_i e z kx f hty hf
  split at hi
  ·rename_i zs ks hzs hks
   obtain ⟨hcc,hi⟩:=Aj hi
   cases hi
   simp only [Bool.and_eq_true] at hcc
   obtain ⟨⟨⟨⟨⟨c0,c1⟩,c2⟩,c3⟩,c4⟩,c5⟩:=hcc
   have c2:0<z:=Nat.le_of_ble_eq_true c2
   have c3:=nbeq c3
   have c5:65536*bytes? P e≤140737488355328:=Nat.le_of_ble_eq_true c5
   dsimp only at hd hput k h0
   obtain ⟨hu,hsz⟩:=As hty
   obtain ⟨kk,huk⟩:∃ kk,P.underlying u=some (.int kk):=by
    unfold isInt at c0
    split at c0
    ·rename_i kk hk;exact ⟨kk,hk⟩
    ·cases c0
   have hnil:realW σ (ev s.tm s0) = .slice none 0 0:=by
    generalize ev s.tm s0=q at c1
    unfold isNil at c1
    split at c1
    ·rfl
    ·cases c1
   rw [hnil,Bi hf hA.aw.ag]
   obtain ⟨N,hN⟩:∃ N:Nat,f ρ=N:=⟨(f ρ).toNat,by omega⟩
   have hNt:(f ρ).toNat=N:=by omega
   obtain ⟨i0,v,hiv,hiz,hvs⟩:=Fc c4
   obtain ⟨v',hzv,hzs',i1,hi1,hz1⟩:=Dm (P:=P) (w:=w) hzs
   have hvv:v=v':=by rw [hiv] at hi1;cases hi1;rw [hiz] at hz1;cases hz1;rfl
   subst hvv
   have hisz:=Cy hsz hiv
   have hby:bytes? P e=i0.bytes:=by unfold bytes?;rw [hiv]
   obtain ⟨d1,d2⟩:=Ho hA.aw.ag hG _ _ _ hd
   have hzdl:zd.length=zs.length:=by rw [←d2.1,List.length_map]
   have hNb:N*i0.bytes≤140737488355328:=by
    rw [←hby];exact Nat.le_trans (Nat.mul_le_mul_right _ (by omega)) c5
   have hr:=Gm (ty:=o.type) w t u e kk kx i0 v hu huk hiv hiz N (by omega) (by omega) (by rw [hisz];exact c2) hNb
   have hge:=grownCap_ge w N 0 e
   rw [hN,Aml hr]
   generalize harr:Builtin.zeroCells v.cells N++Builtin.zeroCells v.cells (grownCap w N 0 e-N)=arr at hr ⊢
   have hgo:Goes w (w.drew.alloc (.cells arr e)):=⟨rfl,rfl,rfl,by simp⟩
   have hold:∀ g,g<w.heap.size→(w.drew.alloc (.cells arr e)).heap[g]?=w.heap[g]?:=fun g hg=>by
    show (w.heap.push _)[g]?=_
    rw [Array.getElem?_push,if_neg (by omega)]
   have hnew:(w.drew.alloc (.cells arr e)).heap[w.heap.size]?=some (.cells arr e (0,0)):=by
    show (w.heap.push _)[w.heap.size]?=_
    rw [Array.getElem?_push,if_pos rfl]
   have hst:=Gl hA.aw.rel hgo hold
   have hA1:=hA.aw.step hst
   have hG1:=hG.step hst
   have ha:=Env.agree_sym σ s.m.nx .nilFunc (σ.r.setD s.m.nx (List.replicate (f ρ).toNat zd)) (Am _ _ _)
   obtain ⟨hA2,hG2⟩:=hA1.num hG1 ha (Am ρ s.m.nx (List.replicate (f ρ).toNat zd))
   generalize hτd:σ.sym s.m.nx .nilFunc (σ.r.setD s.m.nx (List.replicate (f ρ).toNat zd))=τ at ha hA2 hG2
   have hdat:τ.r.d s.m.nx=List.replicate (f ρ).toNat zd:=by rw [←hτd];exact Ay _ _ _
   have hb:∀ i,τ.b i=σ.b i:=fun i=>by rw [←hτd];rfl
   have hzc:Builtin.zeroCells v.cells N=((reps zs N).map (realC σ)).toArray:=by rw [←hzs'];exact Hh σ v N
   have hzl:zs.length=z:=c3
   have hasz:arr.size=grownCap w N 0 e*z:=by
    rw [←harr,Array.size_append,size_zeroCells,size_zeroCells,hvs,←Nat.add_mul]
    congr 1
    omega
   have hod:OdV (Fo G b.wB.heap.size true) (w.drew.alloc (.cells arr e)) e z (τ.r.d s.m.nx) w.heap.size (.slice (some ⟨w.heap.size,0,none⟩) N (grownCap w N 0 e)):=by
    rw [hdat,hNt]
    refine ⟨c2,_,_,by rw [List.length_replicate], .inr ⟨rfl,by omega,arr,hnew,Nat.le_of_eq hasz.symm,by rw [List.length_replicate];exact hge,fun q cs hq=>?_⟩⟩
    obtain ⟨hq1,hq2⟩:=List.getElem?_eq_some_iff.1 hq
    rw [List.getElem_replicate] at hq2
    subst hq2
    rw [List.length_replicate] at hq1
    refine ⟨by rw [hzdl,hzl],fun p d hp=>?_⟩
    have hpl:p<z:=by have:=(List.getElem?_eq_some_iff.1 hp).1;omega
    have hlt:q*z+p<N*z:=Dk hq1 hpl
    have hpz:p<zs.length:=by omega
    refine ⟨realC σ zs[p],?_,(d2.2 p d _ hp (by rw [List.getElem?_map,List.getElem?_eq_getElem hpz];rfl)).keep (fun _ h=>h) fun g j u hg hu=>by
     rw [Cj (hold g (hG.dom g hg.1).1)];exact hu⟩
    rw [←harr,hzc,Array.getElem?_append_left (by rw [List.size_toArray,List.length_map,Cu,hzl];exact hlt),List.getElem?_toArray,List.getElem?_map,Kc _ _ _ (by rw [hzl];exact hlt),hzl,Nat.add_comm,Nat.add_mul_mod_self_right,Nat.mod_eq_of_lt hpl,List.getElem?_eq_getElem hpz]
    rfl
   obtain ⟨υ,k1,k2,_,k4,k5,_⟩:=hA2.symO hG2 (e:=e) (z:=z) (j:=s.m.nx) (own:=true) (v := .slice (some ⟨w.heap.size,0,none⟩) N (grownCap w N 0 e)) (g:=w.heap.size) hA.aw.rel.ltnx (by rw [hdat,Ay]) hod fun _=>by
    refine ⟨by show w.heap.size<(w.heap.push _).size;simp,hA.aw.size,fun hg=>?_,fun q r hq hbk he=>?_,fun q e z oo jj hq hlq he=>?_⟩
    ·have:=(hG.dom _ hg).1;omega
    ·rw [hb] at he
     have:=(hA.aw.rel.row q r hq).blk_lt hbk
     omega
    ·rw [hb] at he
     have hqs:=(hG.row q _ hq).1
     have:=(hG.od q _ _ _ _ hq ((Ar ha hqs).1 hlq)).1
     omega
   have:=Abq hput (k _ rfl) hA (ha.trans (Nat.le_succ _) k1) (by show s.m.nx≤s.m.nx+1+1;omega) k2 (x:=one (.fz (Nat.succ s.m.nx))) k5 (fun g q hg=>by rw [hold g (Bw hg)];exact hg) hF (n:=n) hB hQ
   rw [show realW υ (one (.fz (Nat.succ s.m.nx)))=_ from k4] at this
   exact this
  ·cases hi
 ·cases hi
end
end
end
end Go.Vc

namespace Go.Vc
section
variable [Holes]
def RowLike (σ:Env) (n:Nat) (r r':Row):Prop:=r=r'∨∃ e k cs cs',r = .cells e k cs∧r' = .cells e k cs'∧∀ j,j<k→∀ c,cs.get j=some c→∃ c',cs'.get j=some c'∧realC σ c'=realC σ c∧(C.lt n c→C.lt n c')
def SLike (σ:Env) (n:Nat) (S S':T Row):Prop:=∀ i,(S.get i=none→S'.get i=none)∧∀ r,S.get i=some r→∃ r',S'.get i=some r'∧RowLike σ n r r'
theorem RowLike.blk {σ:Env} {n:Nat} {r r':Row} (h:RowLike σ n r r'):r.blk=r'.blk∧r.isLoop=r'.isLoop:=by
 rcases h with rfl | ⟨e,k,cs,cs',rfl,rfl,_⟩
 ·exact ⟨rfl,rfl⟩
 ·exact ⟨rfl,rfl⟩
theorem SLike.back {σ:Env} {n:Nat} {S S':T Row} (h:SLike σ n S S') {i:Nat} {r':Row} (hi:S'.get i=some r'):∃ r,S.get i=some r∧RowLike σ n r r':=by
 cases hq:S.get i with
 | none=>rw [(h i).1 hq] at hi;cases hi
 | some r =>
  obtain ⟨r2,h1,h2⟩:=(h i).2 r hq
  rw [hi] at h1;cases h1
  exact ⟨r,rfl,h2⟩
theorem SLike.refl (σ:Env) (n:Nat) (S:T Row):SLike σ n S S:=fun _=>⟨fun h=>h,fun r hr=>⟨r,hr, .inl rfl⟩⟩
section
variable {K:Nat→Option (List Value)} {b:Bs} {F F0:Nat→Prop} {B0:Nat} {σ τ:Env} {m:Mem} {Y:T YRow} {w:World} {ρ:Rho} {S S':T Row}
theorem Aw.like (h:Aw K b m Y ρ σ w) (hs:SLike σ m.nx m.S S'):Aw K b ⟨S',m.nx,m.lo⟩ Y ρ σ w∧∀ F,YRel F b.F0 b.wB.heap.size σ m Y w→YRel F b.F0 b.wB.heap.size σ ⟨S',m.nx,m.lo⟩ Y w:=by
 have hy:∀ F,YRel F b.F0 b.wB.heap.size σ m Y w→YRel F b.F0 b.wB.heap.size σ ⟨S',m.nx,m.lo⟩ Y w:=fun F hF =>
  ⟨fun g hg=>⟨(hF.dom g hg).1,fun i r hi hb=>by
   obtain ⟨r0,h1,h2⟩:=hs.back hi
   exact (hF.dom g hg).2.1 i r0 h1 (by rw [h2.blk.1];exact hb),(hF.dom g hg).2.2⟩,hF.row,fun i e z o j hi hl=>by
   obtain ⟨h1,h2,h3,h4⟩:=hF.od i e z o j hi hl
   refine ⟨h1,h2,h3,fun q r hq hb=>?_⟩
   obtain ⟨r0,h5,h6⟩:=hs.back hq
   exact h4 q r0 h5 (by rw [h6.blk.1];exact hb),hF.odi⟩
 refine ⟨⟨⟨fun i r hi=>?_,fun i r hi=>?_,fun i j r s hr hs' hrb hsb he=>?_,h.rel.known,fun i r hi hb=>?_,h.rel.low,h.rel.fresh⟩,h.nx,h.agree,h.nx1,h.agree1,h.base,h.goes,h.frame,fun i r hi hb=>?_,?_,h.ag,h.dfr,fun i hi=>?_,h.klow⟩,hy⟩
 ·obtain ⟨r0,h1,h2⟩:=hs.back hi
  have h3:=h.rel.row i r0 h1
  rcases h2 with rfl | ⟨e,k,cs,cs',rfl,rfl,h4⟩
  ·exact h3
  ·obtain ⟨arr,a1,a2,a3,a4⟩:=h3
   refine ⟨arr,a1,a2,a3,fun j hj=>?_⟩
   obtain ⟨c,c1,c2,c3⟩:=a4 j hj
   obtain ⟨c',d1,d2,d3⟩:=h4 j hj c c1
   exact ⟨c',d1,d3 c2,by rw [d2];exact c3⟩
 ·obtain ⟨r0,h1,_⟩:=hs.back hi
  exact h.rel.lt i r0 h1
 ·obtain ⟨r0,h1,h2⟩:=hs.back hr
  obtain ⟨s0,h3,h4⟩:=hs.back hs'
  exact h.rel.inj i j r0 s0 h1 h3 (by rw [h2.blk.1];exact hrb) (by rw [h4.blk.1];exact hsb) he
 ·obtain ⟨r0,h1,h2⟩:=hs.back hi
  exact h.rel.apart i r0 h1 (by rw [h2.blk.1];exact hb)
 ·obtain ⟨r0,h1,h2⟩:=hs.back hi
  exact h.own i r0 h1 (by rw [h2.blk.1];exact hb)
 ·obtain ⟨F,hF⟩:=h.y
  exact ⟨F,hy F hF⟩
 ·obtain ⟨s,h1,h2⟩:=h.keep i hi
  obtain ⟨s',h3,h4⟩:=(hs i).2 s h1
  exact ⟨s',h3,by rw [←h4.blk.2];exact h2⟩
theorem Kb {n:Nat}:∀ (cells:List (Nat×Nat)) (cs cs':List C) (S S':T Row),SLike σ n S S'→cs.length=cs'.length→(∀ (i:Nat) (c c':C),cs[i]?=some c→cs'[i]?=some c'→realC σ c'=realC σ c∧(C.lt n c→C.lt n c'))→SLike σ n (setsC S cells cs) (setsC S' cells cs')
 | [],cs,cs',S,S',h,hl,hc=>by cases cs <;> cases cs' <;> exact h
 | p::cells,[],[],S,S',h,hl,hc=>h
 | p::cells,c::cs,c'::cs',S,S',h,hl,hc=>by
  unfold setsC
  refine Kb cells cs cs' _ _ ?_ (by simpa using hl) fun i c c' h1 h2=>hc (i+1) c c' h1 h2
  unfold set1C
  have h0:=hc 0 c c' rfl rfl
  cases hq:S.get p.1 with
  | none=>rw [(h p.1).1 hq];exact h
  | some r =>
   obtain ⟨r',h1,h2⟩:=(h p.1).2 r hq
   rw [h1]
   rcases h2 with rfl | ⟨e,k,t,t',rfl,rfl,h3⟩
   ·cases r with
    | cells e k t =>
     refine fun i=>⟨fun hi=>?_,fun r hr=>?_⟩
     ·rw [T.get_set] at hi ⊢
      split at hi
      ·cases hi
      ·rename_i hne;rw [if_neg hne];exact (h i).1 hi
     ·rw [T.get_set] at hr ⊢
      split at hr
      ·rename_i he
       cases hr
       rw [if_pos he]
       refine ⟨_,rfl, .inr ⟨e,k,_,_,rfl,rfl,fun j hj x hx=>?_⟩⟩
       rw [T.get_set] at hx ⊢
       split at hx
       ·rename_i hj';cases hx;rw [if_pos hj'];exact ⟨c',rfl,h0⟩
       ·rename_i hj';rw [if_neg hj'];exact ⟨x,hx,rfl,fun h=>h⟩
      ·rename_i hne;rw [if_neg hne];exact (h i).2 r hr
    | _=>exact h
   ·refine fun i=>⟨fun hi=>?_,fun r hr=>?_⟩
    ·rw [T.get_set] at hi ⊢
     split at hi
     ·cases hi
     ·rename_i hne;rw [if_neg hne];exact (h i).1 hi
    ·rw [T.get_set] at hr ⊢
     split at hr
     ·rename_i he
      cases hr
      rw [if_pos he]
      refine ⟨_,rfl, .inr ⟨e,k,_,_,rfl,rfl,fun j hj x hx=>?_⟩⟩
      rw [T.get_set] at hx ⊢
      split at hx
      ·rename_i hj';cases hx;rw [if_pos hj'];exact ⟨c',rfl,h0⟩
      ·rename_i hj';rw [if_neg hj'];exact h3 j hj x hx
     ·rename_i hne;rw [if_neg hne];exact (h i).2 r hr
def valsC (S:T Row):List (Nat×Nat)→Option (List C)
 | []=>some []
 | p::l=>match S.get p.1 with
  | some (.cells _ k t)=>bif Nat.blt p.2 k then match t.get p.2,valsC S l with
    | some c,some cs=>some (c::cs)
    | _,_=>none
   else none
  | _=>none
theorem Xw {n:Nat}:∀ (cells:List (Nat×Nat)) (cs:List C) (S S0:T Row),SLike σ n S0 S→valsC S0 cells=some cs→SLike σ n S0 (setsC S cells ((cs.map (realC σ)).map .raw))
 | [],cs,S,S0,h,hv=>by cases hv;exact h
 | p::cells,cs,S,S0,h,hv=>by
  unfold valsC at hv
  split at hv
  ·rename_i e k t hp
   obtain ⟨hb,hv⟩:Nat.blt p.2 k=true∧(match t.get p.2,valsC S0 cells with | some c,some cs=>some (c::cs) | _,_=>none)=some cs:=by
    cases hq:Nat.blt p.2 k with
    | true=>rw [hq] at hv;exact ⟨rfl,hv⟩
    | false=>rw [hq] at hv;cases hv
   have hlt:p.2<k:=Nat.le_of_ble_eq_true hb
   split at hv
   ·rename_i c cs' hc hcs
    cases hv
    show SLike σ n S0 (setsC _ cells ((cs'.map (realC σ)).map .raw))
    refine Xw cells cs' _ S0 ?_ hcs
    obtain ⟨r',h1,h2⟩:=(h p.1).2 _ hp
    have key:∀ t',S.get p.1=some (.cells e k t')→(∀ j,j<k→∀ c,t.get j=some c→∃ c',t'.get j=some c'∧realC σ c'=realC σ c∧(C.lt n c→C.lt n c'))→SLike σ n S0 (set1C S p (.raw (realC σ c))):=fun t' ht' hj=>by
     unfold set1C
     rw [ht']
     refine fun i=>⟨fun hi=>?_,fun r hr=>?_⟩
     ·show (S.set p.1 _).get i=none
      rw [T.get_set]
      split
      ·rename_i he;subst he;rw [hi] at hp;cases hp
      ·exact (h i).1 hi
     ·show ∃ r',(S.set p.1 _).get i=some r'∧_
      rw [T.get_set]
      split
      ·rename_i he
       subst he
       rw [hp] at hr;cases hr
       refine ⟨_,rfl, .inr ⟨e,k,_,_,rfl,rfl,fun j hjk x hx=>?_⟩⟩
       rw [T.get_set]
       split
       ·rename_i hj';subst hj';rw [hc] at hx;cases hx;exact ⟨_,rfl,rfl,fun _=>trivial⟩
       ·exact hj j hjk x hx
      ·exact (h i).2 r hr
    rcases h2 with rfl | ⟨e',k',t1,t2,h3,h4,h5⟩
    ·exact key t h1 fun j _ c hc=>⟨c,hc,rfl,fun h=>h⟩
    ·cases h3;subst h4;exact key t2 h1 h5
   ·cases hv
  ·cases hv
end
end
end Go.Vc

namespace Go.Vc
def allN (f:Nat→Bool) (n:Nat):Bool:=Nat.rec true (fun i ih=>ih && f i) n
theorem Ta {f:Nat→Bool}:∀ {n:Nat},allN f n=true→∀ i,i<n→f i=true
 | 0,_,i,hi=>absurd hi (Nat.not_lt_zero _)
 | n+1,h,i,hi=>by
  have h':(allN f n && f n)=true:=h
  rw [Bool.and_eq_true] at h'
  rcases Nat.lt_or_ge i n with hl | hl
  ·exact Ta h'.1 i hl
  ·rw [show i=n by omega];exact h'.2
def eqOC (a b:Option C):Bool:=match a,b with
 | some a,some b=>eqC a b
 | _,_=>false
def isAt (pl:List (Nat×Nat)) (i j:Nat):Bool:=match pl with
 | []=>false
 | p::l=>(Nat.beq p.1 i && Nat.beq p.2 j) || isAt l i j
def rowB (pl:List (Nat×Nat)) (i:Nat) (r s:Row):Bool:=match r,s with
 | .cells e k t, .cells e' k' t'=>Nat.beq e e' && Nat.beq k k' && allN (fun j=>isAt pl i j || eqOC (t.get j) (t'.get j)) k
 | .fn (.func f) a b, .fn (.func f') a' b'=>Nat.beq f f' && eqL eqWW a a' && eqL eqWW b b'
 | .val x, .val y=>eqVV x y
 | .dead, .dead=>true
 | _,_=>false
def yB (x y:YRow):Bool:=match x,y with
 | .dead,_=>true
 | .int, .int=>true
 | .bool, .bool=>true
 | .bool, .kb _=>true
 | .kb b, .kb b'=>b == b'
 | .str, .str=>true
 | .fz o c j, .fz o' c' j'=>o == o' && Nat.beq c c' && Nat.beq j j'
 | .fp o cs, .fp o' cs'=>o == o' && eqL eqC cs cs'
 | .od e z o j, .od e' z' o' j'=>Nat.beq e e' && Nat.beq z z' && o == o' && Nat.beq j j'
 | .ep i x z, .ep i' x' z'=>Nat.beq i i' && Nat.beq x x' && Nat.beq z z'
 | .ov i x z, .ov i' x' z'=>Nat.beq i i' && Nat.beq x x' && Nat.beq z z'
 | _,_=>false
def rowsB (pl:List (Nat×Nat)) (S S2:T Row) (n:Nat):Bool:=allN (fun i=>match S.get i with
 | none=>true
 | some r=>match S2.get i with
  | some s=>rowB pl i r s
  | none=>false) n
def ysB (Y Y2:T YRow) (n:Nat):Bool:=allN (fun i=>match Y.get i with
 | none=>true
 | some r=>match Y2.get i with
  | some s=>yB r s
  | none=>false) n
def keepB (tm:Tm) (l:List (Tmp×W)):Bool:=l.all fun p=>eqWW (tm.get p.1) p.2
def backB (lc:LC) (s:St):Bool:=keepB s.tm lc.keep && rowsB (lc.cells++ocs lc.ods) lc.mB.S s.m.S lc.mB.nx && ysB lc.YB s.Y lc.mB.nx && Nat.beq lc.nt s.nt
section
variable [Holes]
def RowEx (ex:Nat→Prop) (r s:Row):Prop:=r=s∨∃ e k t t',r = .cells e k t∧s = .cells e k t'∧∀ j,j<k→¬ex j→t'.get j=t.get j
def SEx (pl:List (Nat×Nat)) (S S2:T Row):Prop:=∀ i r,S.get i=some r→∃ s,S2.get i=some s∧RowEx (fun j=>(i,j)∈pl) r s
theorem Al2:∀ (pl:List (Nat×Nat)) (cs:List C) (S S2:T Row),cs.length=pl.length→SEx pl S S2→SEx [] (setsC S pl cs) (setsC S2 pl cs)
 | [],cs,S,S2,hl,h=>by cases cs <;> first | exact h | (cases hl)
 | p::pl,[],S,S2,hl,h=>by cases hl
 | p::pl,c::cs,S,S2,hl,h=>by
  unfold setsC
  refine Al2 pl cs _ _ (by simpa using hl) fun i r hi=>?_
  unfold set1C at hi ⊢
  have weak:∀ i r s,i≠p.1→RowEx (fun j=>(i,j)∈p::pl) r s→RowEx (fun j=>(i,j)∈pl) r s:=fun i r s hne hx=>by
   rcases hx with h1 | ⟨e,k,t,t',h1,h2,h3⟩
   ·exact .inl h1
   ·refine .inr ⟨e,k,t,t',h1,h2,fun j hj hn=>h3 j hj fun hm=>?_⟩
    rcases List.mem_cons.1 hm with he | hm
    ·exact hne (congrArg Prod.fst he)
    ·exact hn hm
  have wc:∀ r s,(∀ e k t,r≠.cells e k t)→RowEx (fun j=>(p.1,j)∈p::pl) r s→r=s:=fun r s hr hx=>by
   rcases hx with h1 | ⟨e,k,t,t',h1,_⟩
   ·exact h1
   ·exact absurd h1 (hr e k t)
  cases hq:S.get p.1 with
  | none =>
   rw [hq] at hi
   have hne:i≠p.1:=fun e=>by rw [e,hq] at hi;cases hi
   obtain ⟨s,h1,h2⟩:=h i r hi
   refine ⟨s,?_,weak i r s hne h2⟩
   split
   ·rw [T.get_set,if_neg hne];exact h1
   ·exact h1
  | some r0 =>
   obtain ⟨s0,h1,h2⟩:=h p.1 r0 hq
   rw [hq] at hi
   rw [h1]
   by_cases hr0:∃ e k t,r0 = .cells e k t
   ·obtain ⟨e,k,t,rfl⟩:=hr0
    have hs0:∃ t',s0 = .cells e k t'∧∀ j,j<k→¬(p.1,j)∈p::pl→t'.get j=t.get j:=by
     rcases h2 with rfl | ⟨e',k',t1,t',h3,h4,h5⟩
     ·exact ⟨t,rfl,fun _ _ _=>rfl⟩
     ·cases h3;exact ⟨t',h4,h5⟩
    obtain ⟨t',rfl,ht'⟩:=hs0
    dsimp only at hi ⊢
    rw [T.get_set] at hi
    rw [T.get_set]
    split at hi
    ·rename_i he
     cases hi
     rw [if_pos he]
     refine ⟨_,rfl, .inr ⟨e,k,_,_,rfl,rfl,fun j hj hn=>?_⟩⟩
     rw [T.get_set,T.get_set]
     split
     ·rfl
     ·rename_i hjp
      refine ht' j hj fun hm=>?_
      rcases List.mem_cons.1 hm with hq' | hm
      ·exact hjp (congrArg Prod.snd hq')
      ·exact hn (by rw [he];exact hm)
    ·rename_i hne
     rw [if_neg hne]
     obtain ⟨s,h3,h4⟩:=h i r hi
     exact ⟨s,h3,weak i r s hne h4⟩
   ·have hr0:∀ e k t,r0≠.cells e k t:=fun e k t he=>hr0 ⟨e,k,t,he⟩
    have:=wc r0 s0 hr0 h2
    subst this
    have hi':S.get i=some r:=by
     revert hi
     cases r0 <;> first | exact fun h=>h | exact absurd rfl (hr0 _ _ _)
    have hi:=hi'
    have hgo:∀ s,S2.get i=some s→(match some r0 with | some (Row.cells e k t)=>S2.set p.1 (.cells e k (t.set p.2 c)) | _=>S2).get i=some s:=fun s hs=>by
     cases r0 <;> first | exact hs | exact absurd rfl (hr0 _ _ _)
    obtain ⟨s,h3,h4⟩:=h i r hi
    refine ⟨s,hgo s h3,?_⟩
    by_cases hne:i=p.1
    ·subst hne
     rw [hq] at hi;cases hi
     exact .inl (wc r s hr0 h4)
    ·exact weak i r s hne h4
theorem Amw:∀ (pl:List (Nat×Nat)) (i j:Nat),isAt pl i j=true→(i,j)∈pl
 | p::l,i,j,h=>by
  unfold isAt at h
  simp only [Bool.or_eq_true,Bool.and_eq_true] at h
  rcases h with ⟨h1,h2⟩ | h
  ·rw [←nbeq h1,←nbeq h2];exact List.mem_cons_self
  ·exact List.mem_cons_of_mem _ (Amw l i j h)
theorem At5 {pl:List (Nat×Nat)} {i:Nat} {r s:Row} (h:rowB pl i r s=true):RowEx (fun j=>(i,j)∈pl) r s:=by
 unfold rowB at h
 split at h
 ·simp only [Bool.and_eq_true] at h
  obtain ⟨⟨h1,h2⟩,h3⟩:=h
  have:=nbeq h1;subst this
  have:=nbeq h2;subst this
  refine .inr ⟨_,_,_,_,rfl,rfl,fun j hj hn=>?_⟩
  have h4:=Ta h3 j hj
  simp only [Bool.or_eq_true] at h4
  rcases h4 with h4 | h4
  ·exact absurd (Amw _ _ _ h4) hn
  ·unfold eqOC at h4
   split at h4
   ·rename_i a b ha hb
    rw [ha,hb,Sd h4]
   ·cases h4
 ·simp only [Bool.and_eq_true] at h
  rw [nbeq h.1.1,Ie (fun _ _ h=>Sb h) _ _ h.1.2,Ie (fun _ _ h=>Sb h) _ _ h.2]
  exact .inl rfl
 ·rw [Ael h];exact .inl rfl
 ·exact .inl rfl
 ·cases h
theorem Agj {pl:List (Nat×Nat)} {S S2:T Row} {n:Nat} (h:rowsB pl S S2 n=true) (hlt:∀ i r,S.get i=some r→i<n):SEx pl S S2:=fun i r hi=>by
 have h1:=Ta h i (hlt i r hi)
 rw [hi] at h1
 dsimp only at h1
 split at h1
 ·rename_i s hs;exact ⟨s,hs,At5 h1⟩
 ·cases h1
def YSame (x y:YRow):Prop:=x=y∨(x = .bool∧∃ b,y = .kb b)∨x = .dead
theorem Ay3 {x y:YRow} (h:yB x y=true):YSame x y:=by
 unfold yB at h
 split at h <;> first | (cases h;done) | exact .inr (.inr rfl) | exact .inl rfl | skip
 ·exact .inr (.inl ⟨rfl,_,rfl⟩)
 ·simp only [beq_iff_eq] at h;rw [h];exact .inl rfl
 ·simp only [Bool.and_eq_true,beq_iff_eq] at h;rw [h.1.1,nbeq h.1.2,nbeq h.2];exact .inl rfl
 ·simp only [Bool.and_eq_true,beq_iff_eq] at h;rw [h.1,Ie (fun _ _ h=>Sd h) _ _ h.2];exact .inl rfl
 ·simp only [Bool.and_eq_true,beq_iff_eq] at h;rw [nbeq h.1.1.1,nbeq h.1.1.2,h.1.2,nbeq h.2];exact .inl rfl
 ·simp only [Bool.and_eq_true] at h;rw [nbeq h.1.1,nbeq h.1.2,nbeq h.2];exact .inl rfl
 ·simp only [Bool.and_eq_true] at h;rw [nbeq h.1.1,nbeq h.1.2,nbeq h.2];exact .inl rfl
theorem Akh {Y Y2:T YRow} {n:Nat} (h:ysB Y Y2 n=true) (hlt:∀ i y,Y.get i=some y→i<n):∀ i y,Y.get i=some y→∃ y2,Y2.get i=some y2∧YSame y y2:=fun i r hi=>by
 have h1:=Ta h i (hlt i r hi)
 rw [hi] at h1
 dsimp only at h1
 split at h1
 ·rename_i s hs;exact ⟨s,hs,Ay3 h1⟩
 ·cases h1
end
end Go.Vc
