import Derived.Test.YtneooimijbfmgaaGreatSsAH
import Derived.Test.YtneooimijbfmgaaGreatSsAL
set_option linter.unusedVariables false
set_option linter.unusedSimpArgs false
set_option linter.unusedSectionVars false
noncomputable section
namespace Go.Vc
def fcN (n:Nat) (k:Nat→Prop):Prop:=(Nat.rec (k 0) (fun m _=>k (Nat.succ m)) n:Prop)
theorem Ab8 (n:Nat) (k:Nat→Prop):fcN n k=k n:=by cases n <;> rfl
def fcC (c:C) (k:C→Prop):Prop:=match c with
 | .raw v=>k (.raw v)
 | .ptr r o=>fcN r fun r=>fcN o fun o=>k (.ptr r o)
 | .sl r o n z cap=>fcN r fun r=>fcN o fun o=>fcN n fun n=>fcN z fun z=>k (.sl r o n z cap)
 | .em r p o z=>k (.em r p o z)
 | .clo i=>fcN i fun i=>k (.clo i)
 | .ifc t i=>fcN i fun i=>k (.ifc t i)
 | .mp r=>k (.mp r)
 | .fz i=>fcN i fun i=>k (.fz i)
 | .fp i o=>fcN i fun i=>fcN o fun o=>k (.fp i o)
 | .sb i=>fcN i fun i=>k (.sb i)
 | .si q i=>fcN i fun i=>k (.si q i)
 | .ss i=>fcN i fun i=>k (.ss i)
theorem Ag9 (c:C) (k:C→Prop):fcC c k=k c:=by cases c <;> simp [fcC,Ab8]
def fcL {α:Type} (f:α→(α→Prop)→Prop):List α→(List α→Prop)→Prop
 | [],k=>k []
 | x::l,k=>f x fun x=>fcL f l fun l=>k (x::l)
theorem Vy {α:Type} {f:α→(α→Prop)→Prop} (hf:∀ x k,f x k=k x):∀ (l:List α) (k:List α→Prop),fcL f l k=k l
 | [],k=>rfl
 | x::l,k=>by unfold fcL;rw [hf,Vy hf l]
def fcV (x:V) (k:V→Prop):Prop:=match x with
 | .c c=>fcC c fun c=>k (.c c)
 | .a cs=>fcL fcC cs fun cs=>k (.a cs)
theorem Anc (x:V) (k:V→Prop):fcV x k=k x:=by cases x <;> simp [fcV,Ag9,Vy Ag9]
def fcW (x:W) (k:W→Prop):Prop:=match x with
 | .v x=>fcV x fun x=>k (.v x)
 | .t l=>fcL fcV l fun l=>k (.t l)
theorem As1 (x:W) (k:W→Prop):fcW x k=k x:=by cases x <;> simp [fcW,Anc,Vy Anc]
def fcP (p:Nat×W) (k:Nat×W→Prop):Prop:=fcN p.1 fun a=>fcW p.2 fun b=>k (a,b)
theorem Ax4 (p:Nat×W) (k:Nat×W→Prop):fcP p k=k p:=by unfold fcP;rw [Ab8,As1]
def fcO {α:Type} (f:α→(α→Prop)→Prop) (o:Option α) (k:Option α→Prop):Prop:=match o with
 | none=>k none
 | some x=>f x fun x=>k (some x)
theorem Ax5 {α:Type} {f:α→(α→Prop)→Prop} (hf:∀ x k,f x k=k x) (o:Option α) (k:Option α→Prop):fcO f o k=k o:=by cases o <;> simp [fcO,hf]
def fcT {α:Type} (f:α→(α→Prop)→Prop):T α→(T α→Prop)→Prop
 | .e,k=>k .e
 | .n l v r,k=>fcO f v fun v=>fcT f l fun l=>fcT f r fun r=>k (.n l v r)
theorem Ab7 {α:Type} {f:α→(α→Prop)→Prop} (hf:∀ x k,f x k=k x):∀ (t:T α) (k:T α→Prop),fcT f t k=k t
 | .e,k=>rfl
 | .n l v r,k=>by unfold fcT;rw [Ax5 hf,Ab7 hf l,Ab7 hf r]
def fcY (y:YRow) (k:YRow→Prop):Prop:=match y with
 | .fz o c j=>fcN c fun c=>fcN j fun j=>k (.fz o c j)
 | .fp o cs=>fcL fcC cs fun cs=>k (.fp o cs)
 | .od e z o j=>fcN e fun e=>fcN z fun z=>fcN j fun j=>k (.od e z o j)
 | .ep i x z=>fcN i fun i=>fcN x fun x=>fcN z fun z=>k (.ep i x z)
 | .ov i x z=>fcN i fun i=>fcN x fun x=>fcN z fun z=>k (.ov i x z)
 | y=>k y
theorem Ax1 (y:YRow) (k:YRow→Prop):fcY y k=k y:=by cases y <;> simp [fcY,Ab8,Vy Ag9]
def fcR (r:Row) (k:Row→Prop):Prop:=match r with
 | .cells e q cs=>fcN q fun q=>fcT fcC cs fun cs=>k (.cells e q cs)
 | .fn f a b=>fcL fcW a fun a=>fcL fcW b fun b=>k (.fn f a b)
 | .val x=>fcV x fun x=>k (.val x)
 | r=>k r
theorem Ax3 (r:Row) (k:Row→Prop):fcR r k=k r:=by cases r <;> simp [fcR,Ab8,Ab7 Ag9,Vy As1,Anc]
def fcS (s:St) (k:St→Prop):Prop:=fcN s.m.nx fun nx=>fcT fcY s.Y fun Y=>fcT fcR s.m.S fun S=>fcL fcP s.tm.l fun l=>k ⟨s.cur,s.ks,⟨l,s.tm.g⟩,⟨S,nx,s.m.lo⟩,Y,s.nt,s.key⟩
theorem Ax2 (s:St) (k:St→Prop):fcS s k=k s:=by
 unfold fcS
 rw [Ab8,Ab7 Ax1,Ab7 Ax3,Vy Ax4]
end Go.Vc

namespace Go.Vc
def apfI (P:Program) (m:Mem) (Y:T YRow) (tm:Tm) (t u:TypeId) (s x:Operand):Option (AppI×Nat):=match sliceTy P t with
 | some (e,z)=>match kindsOf P e with
  | some ks=>bif Nat.blt 0 z && Nat.beq ks.length z && zeroIs P e z && Nat.ble (Nat.mul 1048576 (bytes? P e)) 140737488355328 && isSl P t then match ev tm s with
    | .v (.c (.fz i))=>match Y.get i with
     | some (.fz own (Nat.succ _) j)=>match srcA P m Y z u (ev tm x) with
      | some src=>some (⟨e,z,ks,own,none,src⟩,j)
      | none=>none
     | _=>none
    | _=>none
   else none
  | none=>none
 | none=>none
theorem Ar1 {α:Type} {b:Bool} {x:Option α} {y:α} (h:(bif b then x else none)=some y):b=true∧x=some y:=by
 cases b with
 | false=>cases h
 | true=>exact ⟨rfl,h⟩
section
variable [H:Holes] {P:Program} {K:Nat→Option (List Value)} {s s':St} {ρ ρ':Rho} {Q:Post}
theorem Apa {F:Nat→Prop} {w:World} {t tx ty e z n:Nat} {l1 l2:List (List D)} {a:Option Addr} {x:Value} {news old:List Value} (hu:P.underlying t=some (.slice e)) (hs:sizeOf? P e=some z) (hz:0<z) (hzero:zeroIs P e z=true)
  (hsrc1:Src P z t (.slice a l1.length l1.length) l1.length old w) (hrows1:Rows F w z old l1) (hsrc:Src P z tx x n news w) (hn2:l2.length=n) (hrows:Rows F w z news l2) (hF:∀ g',F g'→g'<w.heap.size) (hn:l1.length+n≤1048576) (hb:1048576*bytes? P e≤140737488355328) (hpos:0<n) :
  ∃ v' w',(Builtin.append_ #[t,tx] ty #[.slice a l1.length l1.length,x]).run P w = .ok v' w'∧Goes w w'∧(∀ q,q<w.heap.size→w'.heap[q]?=w.heap[q]?)∧OdV F w' e z (l1++l2) w.heap.size v':=by
 have hb':(l1.length+n)*bytes? P e≤140737488355328:=Nat.le_trans (Nat.mul_le_mul_right _ hn) hb
 have hid:∀ l:List Value,(l.map C.raw).map (realC env0)=l:=fun l=>by
  rw [List.map_map];exact List.map_id l
 have hgr:=Ri (σ:=env0) (ty:=ty) (tx:=tx) (x := .v (.c (.raw x))) (new:=news.map .raw) (old:=old.map .raw) (base:=a) (q:=l1.length) hu hs hz hzero (by rw [hid];exact hsrc) (by rw [List.length_map];exact hsrc1.newsLen) (by rw [hid];exact hsrc1.cellsD) (by omega) hn hb'
 obtain ⟨cap,w',r1,r2,r3,arr',r4,r5,r6,r7⟩:=hgr
 have hcap:0<cap:=by omega
 refine ⟨_,w',r1,r3,fun q hq=>?_,hz,_,cap,by rw [List.length_append,hn2], .inr ⟨rfl,hcap,arr',?_,Nat.le_of_eq r5.symm,by rw [List.length_append];omega,?_⟩⟩
 ·rw [r4,Array.getElem?_push,if_neg (by omega)]
 ·rw [r4,Array.getElem?_push,if_pos rfl]
 ·refine Ma (w:=w) (k:=l1.length) (old:=old) (news:=news) (fun g' j u hF' hu'=>?_) rfl hsrc1.newsLen hrows1 hrows (fun j hj=>?_) (by rw [hsrc.newsLen,hn2])
  ·have hg':=hF g' hF'
   have hh:w'.heap[g']?=w.heap[g']?:=by rw [r4,Array.getElem?_push,if_neg (by omega)]
   rw [Cj hh];exact hu'
  ·rw [r7 j (by simpa using hj),List.map_append,hid,hid]
theorem Aw1 {all:Array Oper} {o:Oper} {l:List Oper} {c:Call} {t u:TypeId} {s0 x0:Operand} {i:AppI} {j:Nat} {l1 l2:List (List D)} {own1 own2:Bool} {p p1:Prop} (hc:s.cur = .ops all (o::l)) (hop:openB all s.tm o=false) (hw:wantW all s.tm o=true)
  (ho:o.op = .call c) (hcal:c.callee = .builtin .append) (hts:c.argTypes.toList=[t,u]) (hxs:c.args.toList=[s0,x0]) (ha:apfI P s.m s.Y s.tm t u s0 x0=some (i,j)) (hd:srcD s.Y ρ i.ks i.z i.src=some (l2,own2,p)) (hd1:srcD s.Y ρ i.ks i.z (.sym i.own j)=some (l1,own1,p1)) (hp:p) (hp1:p1) (hlen:l1.length+l2.length≤1048576)
  (h0:l2.length=0→∃ s',putY s all o l (ev s.tm s0) s.m s.Y=some s'∧Sx P K s' ρ Q)
  (h1:0<l2.length→∃ s',putY s all o l (one (.fz (Nat.succ s.m.nx))) (s.m.up (Nat.succ (Nat.succ s.m.nx))) (s.Y.set (Nat.succ s.m.nx) (.od i.e i.z (own1 && own2) s.m.nx))=some s'∧∀ x,x=l1++l2→Sx P K s' (ρ.setD s.m.nx x) Q):Sx P K s ρ Q:=by
 refine Fd hc hop hw (fun c' hc'=>by rw [hc'] at ho;cases ho) fun F hF n b hB Qw hQ σ a w hA=>?_
 have hts:c.argTypes=#[t,u]:=Array.ext' hts
 have hxs:c.args=#[s0,x0]:=Array.ext' hxs
 unfold execOp
 simp only [ho]
 unfold resolve
 simp only [hcal,hts,hxs]
 rw [show (#[s0,x0].map a.eval)=#[realW σ (ev s.tm s0),realW σ (ev s.tm x0)] by simp [(hA.tm.ev a.defers s0).1,(hA.tm.ev a.defers x0).1]]
 show Und F P _ ((do pure (.value (←Builtin.append_ #[t,u] o.type #[realW σ (ev s.tm s0),realW σ (ev s.tm x0)])):Sem Next).run P w)
 obtain ⟨G,hG⟩:=hA.aw.y
 unfold apfI at ha
 split at ha
 ·rename_i e z hty
  obtain ⟨hu,hsz⟩:=As hty
  split at ha
  ·rename_i ks hks
   obtain ⟨hcc,ha⟩:=Ar1 ha
   simp only [Bool.and_eq_true] at hcc
   obtain ⟨⟨⟨⟨c1,c2⟩,c3⟩,c4⟩,c5⟩:=hcc
   have c1:0<z:=Nat.le_of_ble_eq_true c1
   have c2:=Nat.eq_of_beq_eq_true c2
   have c4:1048576*bytes? P e≤140737488355328:=Nat.le_of_ble_eq_true c4
   split at ha
   ·rename_i q he
    split at ha
    ·rename_i own k j' hi
     split at ha
     ·rename_i src hsrc
      cases ha
      dsimp only at hd hd1 h0 h1
      obtain ⟨news,hs1,hs2⟩:=Xv hsrc hd hp c1 c2 hA.aw.rel hA.aw.ag hG
      have hsrc1:srcA P s.m s.Y z t (ev s.tm s0)=some (.sym own j):=by
       unfold srcA
       have:symS s.Y (ev s.tm s0)=some (own,j):=by rw [he];show (match s.Y.get q with | some (.fz own _ j)=>some (own,j) | some (.od _ _ own j)=>some (own,j) | _=>none)=_;rw [hi]
       rw [this]
       show (bif isSl P t then some (SrcI.sym own j) else none)=_
       rw [c5];rfl
      obtain ⟨old,hq1,hq2⟩:=Xv hsrc1 hd1 hp1 c1 c2 hA.aw.rel hA.aw.ag hG
      -- where it lies
      obtain ⟨a',hre,hl1⟩:∃ a',realW σ (ev s.tm s0) = .slice a' l1.length l1.length∧l1=ρ.d j:=by
       have hl1:l1=ρ.d j:=by
        unfold srcD at hd1
        split at hd1
        ·rename_i hh;cases hh;split at hd1 <;> (cases hd1;rfl)
        ·rename_i hh;cases hh
       obtain ⟨_,hrd,h3,_⟩:=(hG.row q _ hi).2
       obtain ⟨a',k',hv'⟩:=h3 (by omega)
       have hag:σ.r.d j=ρ.d j:=hA.aw.ag q _ hi
       rw [hag] at hrd
       obtain ⟨a2,c2',hv2⟩:=hrd.slice
       rw [hv'] at hv2
       cases hv2
       refine ⟨a',?_,hl1⟩
       rw [he,hl1]
       show realC σ (.fz q)=_
       simp only [realC,hv']
      rw [hre] at hq1 ⊢
      rcases Nat.eq_zero_or_pos l2.length with hz0 | hpos
      ·-- nothing
       obtain ⟨s',hput,hk⟩:=h0 hz0
       have hl2:l2=[]:=List.eq_nil_of_length_eq_zero hz0
       subst hl2
       obtain ⟨ti,zv,hti,hiz,hvs⟩:=Fc c3
       have hisz:=Cy hsz hti
       have hnews:news=[]:=List.eq_nil_of_length_eq_zero (by have:=hs1.newsLen;simpa using this)
       subst hnews
       rw [Sem.run_bind,run_append_nothing w t u o.type e ti hu hti a' _ _ (Nat.le_refl _) (realW σ (ev s.tm x0)) (by rw [hisz];exact hs1)]
       show den F n P Qw s.ks (.ops all l) (a.put o.dst _) w
       unfold putY at hput
       cases hput':putR s.nt s.tm o.dst (.ok (ev s.tm s0) s.m) with
       | no=>rw [hput'] at hput;cases hput
       | ok tm m2 =>
        rw [hput'] at hput
        cases hput
        obtain ⟨x',hx',hpk⟩:=Ei hput'
        cases hx'
        rw [←hre]
        refine hk F hF n b hB Qw hQ σ _ w ⟨hA.aw,hpk σ _ a hA.tm hA.nt (hA.tm.ev a.defers s0).2,by rw [Bz];exact hA.nt,?_⟩
        obtain ⟨rs,q1,q2,q3⟩:=hA.mks
        exact ⟨rs,by rw [Bd];exact q1,q2,q3⟩
      ·-- something
       obtain ⟨s',hput,k⟩:=h1 hpos
       obtain ⟨v',w',r1,r2,r3,r5⟩:=Apa (F:=Fo G b.wB.heap.size (own1 && own2)) (ty:=o.type) hu hsz c1 c3 hq1 (hq2.mono fun g hg=>(Vx g).1 hg) hs1 rfl (hs2.mono fun g hg=>(Vx g).2 hg) (fun g hg=>(hG.dom g hg.1).1) hlen c4 hpos
       rw [Sem.run_bind,r1]
       obtain ⟨hA1,hG1⟩:=hA.aw.turn (g:=0) (P:=False) hG r2 (fun q hq _=>r3 q hq) fun hl=>hl.elim
       have hτ:=Env.agree_sym σ s.m.nx .nilFunc (σ.r.setD s.m.nx (l1++l2)) (Am _ _ _)
       obtain ⟨hA2,hG2⟩:=hA1.num hG1 hτ (Am ρ s.m.nx (l1++l2))
       have hdat:(σ.sym s.m.nx .nilFunc (σ.r.setD s.m.nx (l1++l2))).r.d s.m.nx=l1++l2:=Ay _ _ _
       obtain ⟨υ,k1,k2,k3,k4,k5,_⟩:=hA2.symO hG2 (e:=e) (z:=z) (j:=s.m.nx) (own:=own1 && own2) (v:=v') (g:=w.heap.size) hA.aw.rel.ltnx (by rw [hdat,Ay]) (by rw [hdat];exact r5) fun hl=>by
        have hlt:w.heap.size<w'.heap.size:=by
         obtain ⟨_,a',c',hv',hc'⟩:=r5
         obtain ⟨a2,n2,c2',hq2,hlt2⟩:=hl
         rw [hv'] at hq2;cases hq2
         rcases hc' with ⟨h5,_⟩ | ⟨_,_,arr,h5,_⟩
         ·omega
         ·exact Bw h5
        refine ⟨hlt,hA.aw.size,fun hg=>?_,fun q r hq hb he=>?_,fun q e' z' o' j' hq hlq he=>?_⟩
        ·have:=(hG.dom _ hg).1;omega
        ·have:=(hA.aw.rel.row q r hq).blk_lt hb
         have he:σ.b q=w.heap.size:=he
         omega
        ·have:=(hG.od q _ _ _ _ hq ((Ar hτ (hG.row q _ hq).1).1 hlq)).1
         have he:σ.b q=w.heap.size:=he
         omega
       show den F n P Qw s.ks (.ops all l) (a.put o.dst v') w'
       unfold putY at hput
       cases hput':putR s.nt s.tm o.dst (.ok (one (.fz (Nat.succ s.m.nx))) (s.m.up (Nat.succ (Nat.succ s.m.nx)))) with
       | no=>rw [hput'] at hput;cases hput
       | ok tm m2 =>
        rw [hput'] at hput
        cases hput
        obtain ⟨x',hx',hpk⟩:=Ei hput'
        cases hx'
        have hagr:Agree s.m.nx σ υ:=hτ.trans (Nat.le_succ _) k1
        have hval:realW υ (one (.fz (Nat.succ s.m.nx)))=v':=k4
        rw [←hval]
        refine k _ rfl F hF n b hB Qw hQ υ _ w' ⟨k2,hpk υ _ a (hA.tm.agree hagr (by show s.m.nx≤s.m.nx+2;omega)) hA.nt k5,by rw [Bz];exact hA.nt,?_⟩
        obtain ⟨rs,q1,q2,q3⟩:=hA.mks
        refine ⟨rs,by rw [Bd];exact q1,q2,fun r hr=>⟨(q3 r hr).1,?_⟩⟩
        rw [r3 r (Bw (q3 r hr).2)]
        exact (q3 r hr).2
     ·cases ha
    ·cases ha
   ·cases ha
  ·cases ha
 ·cases ha
end
end Go.Vc

namespace Go.Vc
def cntY (D:Nat→Bool):Nat→Nat
 | 0=>0
 | k+1=>cntY D k+if D k=true then 0 else 1
theorem Sq {D:Nat→Bool}:∀ {N:Nat},cntY D N=0→∀ k,k<N→D k=true
 | N+1,h,k,hk=>by
  unfold cntY at h
  by_cases hd:D N=true
  ·rcases Nat.lt_or_ge k N with hl | hg
   ·exact Sq (by omega) k hl
   ·rw [show k=N by omega];exact hd
  ·rw [if_neg hd] at h;omega
theorem Wn {D D':Nat→Bool}:∀ {N:Nat},(∀ k,k<N→D k=D' k)→cntY D N=cntY D' N
 | 0,_=>rfl
 | N+1,h=>by unfold cntY;rw [h N (Nat.lt_succ_self _),Wn fun k hk=>h k (Nat.lt_succ_of_lt hk)]
theorem Ahp {D D':Nat→Bool} {j:Nat} (hn:D j=false):∀ {N:Nat},j<N→(∀ k,k<N→D' k=(D k || decide (k=j)))→cntY D' N+1=cntY D N
 | N+1,hj,h=>by
  unfold cntY
  by_cases he:j=N
  ·subst he
   rw [h j hj,hn]
   have:cntY D' j=cntY D j:=Wn fun k hk=>by rw [h k (by omega)];simp;omega
   simp
   omega
  ·have:=Ahp hn (show j<N by omega) fun k hk=>h k (Nat.lt_succ_of_lt hk)
   rw [h N (Nat.lt_succ_self _)]
   have hx:decide (N=j)=false:=by simp;omega
   rw [hx,Bool.or_false]
   omega
theorem Aow (D:Nat→Bool):∀ N,cntY D N≤N
 | 0=>Nat.le_refl _
 | N+1=>by
  unfold cntY
  have:=Aow D N
  split <;> omega
section
variable {H:Holes} {P:Program} {K:Nat→Option (List Value)} {b:Bs} {nt p:Nat} {ops:Array Oper} {o:Nat→Oper} {nx:Nat→Nat} {S:T Row} {Y:T YRow} {ρ:Nat→Rho} {tm:Nat→Tm} {did:Nat→Bool} {x:Nat→W} {V V':Nat→T Row} {U U':Nat→T YRow} {vis:Nat→Nat→Prop} {tv:Nat→Tm} {m0:Mem} {Y0:T YRow} {G0:Nat→Prop} {σ0:Env} {w0:World} {a0:Act} {tm0:Tm} {F:Fence} {n lo:Nat} {Q:Exit→Act→World→Prop}
theorem Avq (hF:WF F) (B:BegY H K b nx S Y ρ m0 Y0 G0 σ0 w0) (h:RunY P K nt ops p o nx S Y ρ tm did x V V' U U' vis tv) (hn:NamesY ops p o nx tm did tv) (h0:tm 0=tm0) (he:EdgesY ops p)
  (hQ:∀ σ a w,@Aw H K b ⟨S,nx p,lo⟩ Y (ρ p) σ w→@TmOk H σ (nx p) a.tmps (tm p)→a.tmps.size=nt→a.defers=a0.defers→Goes w0 w→(∀ g,g<w0.heap.size→w.heap[g]?=w0.heap[g]?)→drawAt F n P ops p Q a w) :
  ∀ (fuel:Nat) (listed:Array Bool) (G:Nat→Prop) (σ:Env) (a:Act) (w:World),listed.size=ops.size→(∀ j oj,ops[j]?=some oj→listed.getD j false=true→∀ e∈oj.after,Region.binds .any e=true→listed.getD e.on false=true)→(∀ k,p≤k→listed.getD k false=false) →
   cntY (fun k=>listed.getD k false) p+(ops.size-p)≤fuel→InvY H K b nt p o nx S Y ρ tm0 x G0 σ0 a0 w0 (fun k=>listed.getD k false) G σ a w→wpAnyIn F n P .any ops Q fuel listed a w:=by
 have hle:=he.le
 have fin:∀ (fuel:Nat) (listed:Array Bool) (G:Nat→Prop) (σ:Env) (a:Act) (w:World),listed.size=ops.size→(∀ k,p≤k→listed.getD k false=false)→ops.size≤fuel+p→(∀ k,k<p→listed.getD k false=true)→InvY H K b nt p o nx S Y ρ tm0 x G0 σ0 a0 w0 (fun k=>listed.getD k false) G σ a w→wpAnyIn F n P .any ops Q fuel listed a w:=fun fuel listed G σ a w hs hhi hf hall inv=>by
  obtain ⟨k1,k2⟩:=Avg (lo:=lo) B h h0 inv hall
  refine hQ σ a w k1 k2 inv.size inv.dfr inv.goes inv.heap fuel listed hs (fun k=>?_) hf
  rcases Nat.lt_or_ge k p with h1 | h1
  ·rw [hall k h1];simp [h1]
  ·rw [hhi k h1];simp;omega
 intro fuel
 induction fuel with
 | zero =>
  intro listed G σ a w hsz hc hhi hcnt inv
  exact fin 0 listed G σ a w hsz hhi (by omega) (Sq (D:=fun k=>listed.getD k false) (by omega)) inv
 | succ fuel ih =>
  intro listed G σ a w hsz hc hhi hcnt inv
  by_cases hz:cntY (fun k=>listed.getD k false) p=0
  ·exact fin (fuel+1) listed G σ a w hsz hhi (by omega) (Sq (D:=fun k=>listed.getD k false) hz) inv
  refine ⟨fun hnil=>?_,fun j hj=>?_⟩
  ·exfalso
   apply hz
   have:=Ai4 he hsz hnil
   have key:∀ q,q≤p→cntY (fun k=>listed.getD k false) q=0:=fun q=>by
    induction q with
    | zero=>exact fun _=>rfl
    | succ q ihq =>
     intro hq
     unfold cntY
     rw [ihq (by omega),if_pos (this q (by omega))]
   exact key p (Nat.le_refl p)
  ·obtain ⟨g1,oo,g2,g3⟩:=mem_ready.1 hj
   have hjl:=(Array.getElem?_eq_some_iff.1 g2).1
   have hnot:(fun k=>listed.getD k false) j=false:=getD_both g1
   have hready:∀ k,Wt ops j k→(fun k=>listed.getD k false) k=true:=fun k hk=>Ov (D:=fun k=>listed.getD k false) hc (fun oj hoj=>by
    have:oj=oo:=Option.some.inj (hoj.symm.trans g2)
    subst this
    exact g3) hk
   have hcl:∀ k q,(fun k=>listed.getD k false) k=true→Wt ops k q→(fun k=>listed.getD k false) q=true:=fun k q hk hq=>Aki (D:=fun k=>listed.getD k false) hc hk hq
   have hjp:j<p:=by
    rcases Nat.lt_or_ge j p with h1 | h1
    ·exact h1
    ·exfalso
     apply hz
     have key:∀ q,q≤p→cntY (fun k=>listed.getD k false) q=0:=fun q=>by
      induction q with
      | zero=>exact fun _=>rfl
      | succ q ihq =>
       intro hq
       unfold cntY
       rw [ihq (by omega),if_pos (hready q (he.cut j h1 hjl q (by omega)))]
     exact key p (Nat.le_refl p)
   have hos:o j=oo:=Option.some.inj ((h.op j hjp).symm.trans g2)
   subst hos
   have hD':∀ k,k<p→(fun k=>(listed.setIfInBounds j true).getD k false) k=((fun k=>listed.getD k false) k || decide (k=j)):=fun k _=>Cm (by rw [hsz];exact hjl) k
   have hc':∀ i oi,ops[i]?=some oi→(listed.setIfInBounds j true).getD i false=true→∀ e∈oi.after,Region.binds .any e=true→(listed.setIfInBounds j true).getD e.on false=true:=fun i oi hi hl e hee hb'=>by
    by_cases hij:j=i
    ·subst hij
     have:oi=o j:=Option.some.inj (hi.symm.trans g2)
     subst this
     exact getD_set_true (g3 e hee hb')
    ·rw [getD_set_ne false hij] at hl
     exact getD_set_true (hc i oi hi hl e hee hb')
   have hhi':∀ k,p≤k→(listed.setIfInBounds j true).getD k false=false:=fun k hk=>by
    rw [getD_set_ne false (by omega)];exact hhi k hk
   have hcnt':cntY (fun k=>(listed.setIfInBounds j true).getD k false) p+(ops.size-p)≤fuel:=by
    have:=Ahp (D:=fun k=>listed.getD k false) (D':=fun k=>(listed.setIfInBounds j true).getD k false) hnot hjp hD'
    omega
   have htm:∀ t,(tmY o x (fun k=>(listed.setIfInBounds j true).getD k false) tm0 p).get t=if (o j).dst=some t then x j else (tmY o x (fun k=>listed.getD k false) tm0 p).get t:=Ap3 hn hjp hnot hcl hD'
   have hput:∀ d,(o j).dst=some d→d<nt:=fun d hd=>(h.put j hjp d hd).1
   have go:∀ G' σ' a' w',InvY H K b nt p o nx S Y ρ tm0 x G0 σ0 a0 w0 (fun k=>(listed.setIfInBounds j true).getD k false) G' σ' a' w'→wpAnyIn F n P .any ops Q fuel (listed.setIfInBounds j true) a' w':=fun G' σ' a' w' inv'=>ih _ G' σ' a' w' (by simp [hsz]) hc' hhi' hcnt' inv'
   have hT:=Awc h hn h0 hjp hnot hready hcl inv
   have hw:Region.wanted (o j) (yielded ops a.tmps)=did j:=by
    rw [Apf inv.size,@Li (belowY (holY H nx p fun k=>listed.getD k false) (nx j)) σ ⟨.e,nx j,nx j⟩ _ _ hT ops (o j) (hn.want j hjp).1,(hn.want j hjp).2]
   unfold wpOpIn
   rw [g2]
   simp only
   rw [hw]
   cases hd:did j with
   | false =>
    simp only [Bool.false_eq_true,if_false]
    exact ⟨fun f _=>hF.fn f,go _ _ _ _ (Ari h inv hjp hd hD' hput htm)⟩
   | true =>
    simp only [if_true]
    obtain ⟨hnd,hns⟩:=hn.op j hjp hd
    refine Asf hF hnd ?_
    rw [execOp_congr (o j) hns (fun y hy=>Apg (l:=namesY ops (o j)) inv.size y (fun t ht=>by subst ht;exact Gp hy))]
    obtain ⟨hA,hY⟩:=At3 B h inv hjp ⟨hnot,hready⟩
    refine h.run j hjp hd (belowY (holY H nx p fun k=>listed.getD k false) (nx j)) F hF b.own G σ _ w _ hA hY hT fun τ w' G' q1 q2 q3 q4 qo q5 q6 q7 q8 q9=>?_
    exact go _ _ _ _ (Avh B h inv hjp hnot hd hD' hput htm q1 q2 q3 q4 qo q5 q6 q7 q8 q9)
end
section
variable [H:Holes] {P:Program} {K:Nat→Option (List Value)} {s:St} {ρ:Rho} {Q:Post}
theorem Qj (hm:P.follows .mixedOrders=true) {id:Nat} {ops:Array Oper} (hc:s.cur = .code (.region id ops true)) (k:Sx P K ⟨.draw ops 0,s.ks,s.tm,s.m,s.Y,s.nt,s.key⟩ ρ Q):Sx P K s ρ Q:=by
 intro F hF n b hB Qw hQ σ a w hA
 rw [hc]
 refine wpIn_region_any hm ?_
 have hA1:=hA.step (Gl (w1:={ w with drawn:=w.drawn+1 }) hA.aw.rel ⟨rfl,rfl,rfl,Nat.le_refl _⟩ (fun _ _=>rfl)) (hA.tm.agree (Agree.refl _ _) (Nat.le_refl _)) hA.nt rfl (.draw ops 0) s.ks
 exact k F hF n b hB Qw hQ σ a _ hA1 ops.size _ (by simp) (fun k=>by rw [getD_replicate_false];simp) (by omega)
theorem Ats {ops:Array Oper} {r:Nat} (hc:s.cur = .draw ops r) (hr:r=ops.size) (k:Sx P K ⟨.exit .normal,s.ks,s.tm,s.m,s.Y,s.nt,s.key⟩ ρ Q):Sx P K s ρ Q :=
 Jx k rfl rfl rfl rfl fun F n Qw a w h=>by rw [hc];exact Aji hr h
theorem Aqb {ops:Array Oper} {r:Nat} {o:Oper} (hc:s.cur = .draw ops r) (hback:∀ (j:Nat) (o:Oper),ops[j]?=some o→∀ e∈o.after,Region.binds .any e=true→e.on<j) (hcut:∀ j,r<j→j<ops.size→Wt ops j r) (ho:ops[r]?=some o) (k:Sx P K ⟨.ops ops [o], .draw ops (r+1)::s.ks,s.tm,s.m,s.Y,s.nt,s.key⟩ ρ Q):Sx P K s ρ Q :=
 Jx k rfl rfl rfl rfl fun F n Qw a w h=>by rw [hc];exact Au9 hback hcut ho h
theorem Atq {ops:Array Oper} {r:Nat} (hc:s.cur = .draw ops r) (hr:r≤ops.size) (hback:∀ (j:Nat) (o:Oper),ops[j]?=some o→∀ e∈o.after,Region.binds .any e=true→e.on<j) (k:Sx P K ⟨.draw (idA ops r) 0,s.ks,s.tm,s.m,s.Y,s.nt,s.key⟩ ρ Q):Sx P K s ρ Q :=
 Jx k rfl rfl rfl rfl fun F n Qw a w h=>by rw [hc];exact Axx hr hback h
theorem Atv {p:Nat} {ops:Array Oper} {o:Nat→Oper} {nx:Nat→Nat} {S:T Row} {Y:T YRow} {ρs:Nat→Rho} {tm:Nat→Tm} {did:Nat→Bool} {x:Nat→W} {V V':Nat→T Row} {U U':Nat→T YRow} {vis:Nat→Nat→Prop} {tv:Nat→Tm} {lo:Nat}
  (hc:s.cur = .draw ops 0) (h:(∀ i r,s.m.S.get i=some r→i<s.m.nx)→(∀ i y,s.Y.get i=some y→i<s.m.nx)→RunY P K s.nt ops p o nx S Y ρs tm did x V V' U U' vis tv) (hn:NamesY ops p o nx tm did tv) (he:EdgesY ops p) (h0:tm 0=s.tm) (hnx:nx 0=s.m.nx) (hρ:ρs 0=ρ) (hS:∀ i,i<nx 0→S.get i=s.m.S.get i) (hY:∀ i,i<nx 0→Y.get i=s.Y.get i)
  (k:Sx P K ⟨.draw ops p,s.ks,tm p,⟨S,nx p,lo⟩,Y,s.nt,s.key⟩ (ρs p) Q):Sx P K s ρ Q:=by
 intro F hF n b hB Qw hQ σ a w hA
 rw [hc]
 intro fuel listed hs hl hf
 obtain ⟨G0,hG0⟩:=hA.aw.y
 subst hρ
 have h:=h (fun i r hr=>(hA.aw.rel.lt i r hr).lt) (fun i y hy=>(hG0.row i y hy).1.lt)
 have hBg:BegY H K b nx S Y ρs s.m s.Y G0 σ w:=⟨hA.aw,hG0,hnx.symm,hS,hY⟩
 have hle:=he.le
 have hl0:∀ k,listed.getD k false=false:=fun k=>by rw [hl k];simp
 refine Avq (lo:=lo) (tm0:=s.tm) hF hBg h hn h0 he (fun σ' a' w' k1 k2 k3 k4 k5 k6=>?_) fuel listed G0 σ a _ hs (fun j oj _ hl'=>by rw [hl0] at hl';cases hl') (fun k _=>hl0 k) ?_ (Amx hBg h (fun k _=>hl0 k) (by rw [hnx];exact hA.tm) hA.nt)
 ·obtain ⟨rs,q1,q2,q3⟩:=hA.mks
  exact k F hF n b ‹_› Qw hQ σ' a' w' ⟨k1,k2,k3,⟨rs,by rw [k4];exact q1,q2,fun r hr=>⟨(q3 r hr).1,by rw [k6 r (Bw (q3 r hr).2)];exact (q3 r hr).2⟩⟩⟩
 ·have:=Aow (fun k=>listed.getD k false) p
  omega
end
end Go.Vc

namespace Go.Vc
section
variable {F:Fence} {n:Nat} {P:Program} {ops:Array Oper} {Q:Exit→Act→World→Prop}
def Apart (ops:Array Oper) (oi oj:Oper):Prop:=∀ d,oi.dst=some d→¬d∈namesY ops oj∧oj.dst≠some d∧∀ e,oj.dst=some e→¬e∈namesY ops oi
structure PureAt (F:Fence) (P:Program) (ops:Array Oper) (o:Oper) (v:Value) (a:Act):Prop where
 run:∀ w,(o.semAt F.round a.eval).run P w = .ok (.value v) w
 want:Region.wanted o (yielded ops a.tmps)=true
theorem Eq (a:Act) (d:Option Tmp) (v:Value) (t:Tmp) (h:d≠some t):(a.put d v).tmps[t]?=a.tmps[t]?:=by
 cases d with
 | none=>rfl
 | some d =>
  show (a.tmps.setIfInBounds d v)[t]?=a.tmps[t]?
  rw [Array.getElem?_setIfInBounds_ne]
  exact fun e=>h (by rw [e])
theorem Yd (a:Act) (d:Option Tmp) (v:Value) (y:Operand) (h:∀ t,y = .tmp t→d≠some t):(a.put d v).eval y=a.eval y:=by
 cases y with
 | tmp t =>
  show (a.put d v).tmps.getD t undef=a.tmps.getD t undef
  rw [Array.getD_eq_getD_getElem?,Array.getD_eq_getD_getElem?,Eq a d v t (h t rfl)]
 | _=>rfl
theorem Agm (a:Act) (d:Option Tmp) (v:Value) (o:Oper) (h:∀ t,d=some t→¬t∈namesY ops o):Region.wanted o (yielded ops (a.put d v).tmps)=Region.wanted o (yielded ops a.tmps):=by
 unfold Region.wanted
 cases hg:o.guard with
 | none=>rfl
 | some g =>
  obtain ⟨j,b⟩:=g
  simp only
  unfold yielded
  cases hd:(ops[j]?).bind (·.dst) with
  | none=>rfl
  | some t =>
   simp only [Option.bind_some]
   rw [Eq a d v t fun e=>h t e (Nm hg hd)]
theorem Aqs (a:Act) (d e:Option Tmp) (u v:Value) (h:∀ t,d=some t→e≠some t):(a.put d u).put e v=(a.put e v).put d u:=by
 cases d with
 | none=>cases e <;> rfl
 | some d =>
  cases e with
  | none=>rfl
  | some e =>
   show ({ a with tmps:=(a.tmps.setIfInBounds d u).setIfInBounds e v }:Act)={ a with tmps:=(a.tmps.setIfInBounds e v).setIfInBounds d u }
   rw [Array.setIfInBounds_comm]
   exact fun he=>h d rfl (by rw [he])
theorem Abh {o:Oper} (hnd:∀ c,o.op≠.defer c) (hns:∀ cs b,o.op≠.select cs b) (a:Act) (d:Option Tmp) (v:Value) (h:∀ t,d=some t→¬t∈namesY ops o):o.semAt F.round (a.put d v).eval=o.semAt F.round a.eval:=by
 have key:∀ ρ,o.semAt F.round ρ=execOp ρ o:=fun ρ=>by
  unfold Oper.semAt
  cases F.round with
  | none=>rfl
  | some l =>
   cases hop:o.op with
   | defer c=>exact absurd hop (hnd c)
   | _=>rfl
 rw [key,key]
 exact execOp_congr o hns fun y hy=>Yd a d v y fun t ht e=>h t e (by subst ht;exact Gp hy)
theorem Wv (o:Oper) (w:World) (a:Act) (d:Option Tmp) (v:Value) (h:∀ t,d=some t→¬t∈namesY ops o):o.about P w (a.put d v).eval=o.about P w a.eval :=
 about_congr o w fun y hy=>Yd a d v y fun t ht e=>h t e (by subst ht;exact Gp hy)
theorem PureAt.put {o:Oper} {v:Value} {a:Act} (h:PureAt F P ops o v a) (hnd:∀ c,o.op≠.defer c) (hns:∀ cs b,o.op≠.select cs b) {e:Option Tmp} {u:Value} (he:∀ t,e=some t→¬t∈namesY ops o):PureAt F P ops o v (a.put e u) :=
 ⟨fun w=>by rw [Abh hnd hns a e u he];exact h.run w,by rw [Agm a e u o he];exact h.want⟩
theorem Adk {i:Nat} {oi:Oper} {v:Value} (hi:ops[i]?=some oi) (hnp:∀ c a w,¬Q (.panic c) a w) (hall:∀ (j:Nat) (oj:Oper),ops[j]?=some oj→(∀ c,oj.op≠.defer c)∧∀ cs b,oj.op≠.select cs b) (hdst:oi.dst≠none) (hFn:∀ f,F.fn f) :
  ∀ (fuel:Nat) (listed:Array Bool) (a:Act) (w:World),listed.size=ops.size→i∈Region.ready .any ops listed →
   (∀ L:Array Bool,L.getD i false=false→(∀ k,listed.getD k false=true→L.getD k false=true)→∀ j oj,ops[j]?=some oj→j≠i→j∈Region.ready .any ops L→Apart ops oi oj)→PureAt F P ops oi v a→wpAnyIn F n P .any ops Q fuel (listed.setIfInBounds i true) (a.put oi.dst v) w→wpAnyIn F n P .any ops Q (fuel+1) listed a w:=by
 intro fuel
 have hio:=hall i oi hi
 have first:∀ (K:Act→World→Prop) (a:Act) (w:World),PureAt F P ops oi v a→K (a.put oi.dst v) w→wpOpIn F n P ops Q i K a w:=fun K a w hp hk=>by
  unfold wpOpIn
  rw [hi]
  simp only
  rw [if_pos hp.want]
  refine ⟨fun f _=>hFn f,?_⟩
  rw [hp.run w]
  exact hk
 induction fuel with
 | zero =>
  intro listed a w hs hr hap hp H
  refine ⟨fun h=>absurd hr (by rw [h];exact fun h=>by cases h),fun j hj=>?_⟩
  by_cases hji:j=i
  ·subst hji;exact first _ a w hp H
  ·exfalso
   obtain ⟨g1,oj,g2,g3⟩:=mem_ready.1 hj
   have:j∈Region.ready .any ops (listed.setIfInBounds i true):=mem_ready.2 ⟨by rw [getD_set_ne true (Ne.symm hji)];exact g1,oj,g2,fun e he hb=>getD_set_true (g3 e he hb)⟩
   rw [H.1] at this
   cases this
 | succ fuel ih =>
  intro listed a w hs hr hap hp H
  refine ⟨fun h=>absurd hr (by rw [h];exact fun h=>by cases h),fun j hj=>?_⟩
  by_cases hji:j=i
  ·subst hji;exact first _ a w hp H
  ·obtain ⟨g1,oj,g2,g3⟩:=mem_ready.1 hj
   have hiun:listed.getD i false=false:=getD_both (mem_ready.1 hr).1
   have hj2:j∈Region.ready .any ops (listed.setIfInBounds i true):=mem_ready.2 ⟨by rw [getD_set_ne true (Ne.symm hji)];exact g1,oj,g2,fun e he hb=>getD_set_true (g3 e he hb)⟩
   have h1:=H.2 j hj2
   have hA:=hap listed hiun (fun _ h=>h) j oj g2 hji hj
   have hn1:∀ t,oi.dst=some t→¬t∈namesY ops oj:=fun t ht=>(hA t ht).1
   obtain ⟨d,hd⟩:∃ d,oi.dst=some d:=by
    cases hq:oi.dst with
    | none=>exact absurd hq hdst
    | some d=>exact ⟨d,rfl⟩
   have hn2:∀ t,oi.dst=some t→oj.dst≠some t:=fun t ht=>(hA t ht).2.1
   have hn3:∀ t,oj.dst=some t→¬t∈namesY ops oi:=fun t ht=>(hA d hd).2.2 t ht
   have hjo:=hall j oj g2
   have hsz:i<ops.size:=(Array.getElem?_eq_some_iff.1 hi).1
   have hri:i∈Region.ready .any ops (listed.setIfInBounds j true):=by
    obtain ⟨k1,oi',k2,k3⟩:=mem_ready.1 hr
    exact mem_ready.2 ⟨by rw [getD_set_ne true hji];exact k1,oi',k2,fun e he hb=>getD_set_true (k3 e he hb)⟩
   have go:∀ (a:Act),PureAt F P ops oi v a→∀ u w',wpAnyIn F n P .any ops Q fuel ((listed.setIfInBounds i true).setIfInBounds j true) ((a.put oi.dst v).put oj.dst u) w'→wpAnyIn F n P .any ops Q (fuel+1) (listed.setIfInBounds j true) (a.put oj.dst u) w':=fun a hp u w' h2=>by
    refine ih (listed.setIfInBounds j true) _ w' (by simp [hs]) hri (fun L hL hsub k ok hk hki hkr=>hap L hL (fun q hq=>hsub q (getD_set_true hq)) k ok hk hki hkr) (hp.put hio.1 hio.2 hn3) ?_
    rw [Array.setIfInBounds_comm _ _ hji,Aqs a oj.dst oi.dst u v fun t ht he=>hn2 t he ht]
    exact h2
   unfold wpOpIn at h1 ⊢
   rw [g2] at h1 ⊢
   simp only at h1 ⊢
   rw [Agm a oi.dst v oj hn1] at h1
   split
   ·rename_i hw
    rw [if_pos hw] at h1
    obtain ⟨h3,h4⟩:=h1
    rw [Wv oj w a oi.dst v hn1] at h3
    refine ⟨h3,?_⟩
    rw [Abh hjo.1 hjo.2 a oi.dst v hn1] at h4
    revert h4
    cases hrun:(oj.semAt F.round a.eval).run P w with
    | halt x w'=>cases x <;> first | exact fun h=>absurd h (hnp _ _ _) | exact fun h=>h.elim
    | ok x w' =>
     cases x with
     | value u=>exact fun h=>go a hp u w' h
     | skip=>exact fun h=>go a hp undef w' h
     | enter f args=>exact fun h=>⟨h.1,h.2.mono fun e w2 h2=>by
       cases e with
       | returned u=>exact go a hp u w2 h2
       | panicked c=>exact absurd h2 (hnp _ _ _)
       | outgrown=>exact h2⟩
     | round l f tmps as body=>exact fun h=>⟨h.1,h.2.mono fun e w2 h2=>by
       cases e with
       | returned u=>exact go a hp u w2 h2
       | panicked c=>exact absurd h2 (hnp _ _ _)
       | outgrown=>exact h2⟩
     | row r args=>exact fun h=>⟨h.1,h.2.mono fun u w2 h2=>go a hp u w2 h2⟩
     | defer dd =>
      intro h
      refine go { a with defers:=dd::a.defers } ⟨hp.run,hp.want⟩ undef w' ?_
      have e:({ a with defers:=dd::a.defers }:Act).put oi.dst v={ a.put oi.dst v with defers:=dd::(a.put oi.dst v).defers }:=by
       rw [hd];rfl
      rw [e]
      exact h
     | _=>exact fun h=>h.elim
   ·rename_i hw
    rw [if_neg hw] at h1
    obtain ⟨h3,h4⟩:=h1
    rw [Wv oj w a oi.dst v hn1] at h3
    exact ⟨h3,go a hp undef w h4⟩
end
end Go.Vc

namespace Go.Vc
theorem Lw {U U2:T YRow} {n:Nat} {z:YRow} (h:∀ i y,U.get i=some y→y.odB=true→U2.get i=some y) (hz:z.odB=false):∀ i y,(U.set n z).get i=some y→y.odB=true→U2.get i=some y:=fun i y hi ho=>by
 rw [T.get_set] at hi
 split at hi
 ·cases hi;rw [hz] at ho;cases ho
 ·exact h i y hi ho
theorem Vr {U:T YRow}:∀ i y,U.get i=some y→y.odB=true→U.get i=some y:=fun _ _ h _=>h
section
variable {P:Program} {K:Nat→Option (List Value)} {o:Oper} {tm:Tm} {V:T Row} {nx:Nat} {U:T YRow} {ρ:Rho}
theorem Axb {x:W} {mo:Mem} (ho:opW P K o.op o.type tm ⟨V,nx,nx⟩ = .ok x mo) (hl:mo.lo=nx):OpY P K o tm V nx U ρ x mo.S mo.nx U ρ:=by
 intro HH F hF b G σ a w Φ hA hY hT hΦ
 refine @Ass HH P K σ ⟨V,nx,nx⟩ mo w F Φ o a tm x ho (@Aw.rel HH _ _ _ _ _ _ _ hA) hT fun τ w' k hx=>?_
 have hA':=@Aw.step HH _ _ _ _ _ _ _ _ _ _ hA k
 have hY':=@YRel.step HH _ _ _ _ _ _ _ _ _ _ _ hY k
 have hlt:∀ i r,V.get i=some r→i<nx:=fun i r hr=>@Lt.lt HH _ _ (@Rel.lt HH _ _ _ _ (@Aw.rel HH _ _ _ _ _ _ _ hA) i r hr)
 have hfr:=@Step.frame HH _ _ _ _ _ _ _ k
 have hag:=@Step.agree HH _ _ _ _ _ _ _ k
 have hgo:=@Step.goes HH _ _ _ _ _ _ _ k
 have hnw:=@Step.new HH _ _ _ _ _ _ _ k
 obtain ⟨Sm,nm,lm⟩:=mo
 cases hl
 refine hΦ τ w' G hag hgo (fun g hg=>hfr g hg fun i r hr hb he=>hlt i r hr) (fun i r hi hr hb=>?_) (fun i e z ow jj hi hr _=>absurd (@Lt.lt HH _ _ (@YRel.row HH _ _ _ _ _ _ _ hY i _ hr).1) (Nat.not_lt.2 hi)) hA' hY' (fun _ h=>h) (fun _ h=>.inl h) hx
 rcases hnw i r hi hr hb with h1 | ⟨q,s,h1,_,_,h2⟩
 ·exact h1
 ·have:=hlt q s h1
  have h2:lm≤q:=h2
  omega
theorem Es {x:W} {n':Nat} {U':T YRow} {ρ':Rho} (hno:∀ i y,U'.get i=some y→y.odB=true→U.get i=some y)
  (h:∀ (HH:Holes) (b:Bs) (G:Nat→Prop) (σ:Env) (a:Act) (w:World),@Aw HH K b ⟨V,nx,nx⟩ U ρ σ w→@YRel HH G b.F0 b.wB.heap.size σ ⟨V,nx,nx⟩ U w→@AnsOk HH G b.wB.heap.size σ nx ρ w ((execOp a.eval o).run P w) (symA P U tm o.op) →
   ∃ τ,(execOp a.eval o).run P w = .ok (.value (realW τ x)) w∧@Agree HH nx σ τ∧@Aw HH K b ⟨V,n',nx⟩ U' ρ' τ w∧@YRel HH G b.F0 b.wB.heap.size τ ⟨V,n',nx⟩ U' w∧@W.lt HH n' x):OpY P K o tm V nx U ρ x V n' U' ρ':=by
 intro HH F hF b G σ a w Φ hA hY hT hΦ
 obtain ⟨τ,h1,h2,h3,h4,h5⟩:=h HH b G σ a w hA hY (Aln (m:=⟨V,nx,nx⟩) hT hA.ag hY)
 rw [h1]
 refine hΦ τ w G h2 (Goes.refl w) (fun _ _=>rfl) (fun i r hi hr _=>?_) (fun i e z ow jj hi hr _=>absurd (@Lt.lt HH _ _ (@YRel.row HH _ _ _ _ _ _ _ hY i _ (hno i _ hr rfl)).1) (Nat.not_lt.2 hi)) h3 h4 (fun _ h=>h) (fun _ h=>.inl h) h5
 have:=@Lt.lt HH _ _ (@Rel.lt HH _ _ _ _ (@Aw.rel HH _ _ _ _ _ _ _ hA) i r hr)
 have this:i<nx:=this
 omega
theorem Auu {k:IntKind} {f:Rho→Int} (ha:symA P U tm o.op = .int k f):OpY P K o tm V nx U ρ (one (.si k nx)) V (Nat.succ nx) (U.set nx .int) (ρ.setN nx (f ρ)):=Es (Lw Vr rfl) fun HH b G σ a w hA hY hans=>by
 rw [ha] at hans
 obtain ⟨τ,k1,k2,k3,k4,k5⟩:=hA.symD hY (k := .int k) (d := .raw (.int k (f ρ))) (v := .int k (f ρ)) (own:=false) (.int k _) (.raw _ rfl)
 exact ⟨τ,by rw [show realW τ (one (.si k nx)) = .int k (f ρ) from k4];exact hans,k1,k2,k3,k5⟩
theorem Aq5 {k:IntKind} {p:Rho→Prop} {f:Rho→Int} (ha:symA P U tm o.op = .intP k p f) (h0:p ρ):OpY P K o tm V nx U ρ (one (.si k nx)) V (Nat.succ nx) (U.set nx .int) (ρ.setN nx (f ρ)):=Es (Lw Vr rfl) fun HH b G σ a w hA hY hans=>by
 rw [ha] at hans
 obtain ⟨τ,k1,k2,k3,k4,k5⟩:=hA.symD hY (k := .int k) (d := .raw (.int k (f ρ))) (v := .int k (f ρ)) (own:=false) (.int k _) (.raw _ rfl)
 exact ⟨τ,by rw [show realW τ (one (.si k nx)) = .int k (f ρ) from k4];exact hans h0,k1,k2,k3,k5⟩
theorem Ags {p:Rho→Prop} {c:Bool} (ha:symA P U tm o.op = .test p) (h0:c=true↔p ρ):OpY P K o tm V nx U ρ (one (.raw (.bool c))) V nx U ρ:=Es Vr fun HH b G σ a w hA hY hans=>by
 rw [ha] at hans
 obtain ⟨q,h1,h2⟩:=hans
 have:q=c:=by rw [Bool.eq_iff_iff,h1,h0]
 subst this
 exact ⟨σ,h2,@Agree.refl HH _ _,hA,hY,trivial⟩
theorem Aus {x:W} (ha:symA P U tm o.op = .val x):OpY P K o tm V nx U ρ x V nx U ρ:=Es Vr fun HH b G σ a w hA hY hans=>by
 rw [ha] at hans
 exact ⟨σ,hans.1,@Agree.refl HH _ _,hA,hY,hans.2⟩
theorem Aut {i:Nat} {own:Bool} {c z:Nat} {lo hi mx:Option (Rho→Int)} (ha:symA P U tm o.op = .sub i own c z lo hi mx) (h0:Part ρ i z lo hi mx):OpY P K o tm V nx U ρ (one (.fz nx)) V (Nat.succ nx) (U.set nx (.fz own c nx)) (ρ.setD nx (partD ρ i lo hi)):=Es (Lw Vr rfl) fun HH b G σ a w hA hY hans=>by
 rw [ha] at hans
 obtain ⟨v,r1,r2,r3,r4⟩:=hans h0
 have hl:@Lt HH nx (nx+1):=hA.rel.ltnx
 generalize partD ρ i lo hi=x at r2 r4 ⊢
 have k1:=Env.agree_sym σ nx v (σ.r.setD nx x) (Am _ _ _)
 obtain ⟨k2,k3⟩:=hA.sym hY k1 (y := .fz own c nx) rfl ⟨hl,show RD _ w (.fs ((σ.r.setD nx x).d nx)) ((σ.sym nx v (σ.r.setD nx x)).v nx) by rw [Ay,Env.sym_v];exact r2,fun hc=>by rw [Env.sym_v];exact r3 hc,fun hc=>by show (σ.r.setD nx x).d nx=[];rw [Ay];exact r4 hc⟩ (Am ρ nx x) (show (σ.r.setD nx x).d nx=(ρ.setD nx x).d nx by rw [Ay,Ay])
 refine ⟨_,?_,k1,k2,k3,hl⟩
 rw [show realW (σ.sym nx v (σ.r.setD nx x)) (one (.fz nx))=v by
  obtain ⟨a,q,hv⟩:=r2.slice
  show realC _ (.fz nx)=v
  simp only [realC,Env.sym_v,hv]]
 exact r1
theorem Aq7 {i:Nat} {own:Bool} {ix:Rho→Int} {ks:List Kd} {ds:List D} (ha:symA P U tm o.op = .elem i own ix ks) (h0:0≤ix ρ) (h1:(ρ.d i)[(ix ρ).toNat]?=some ds) (hd:DKs ks ds) :
  OpY P K o tm V nx U ρ (one (.fp (nx+ks.length) 0)) V (Nat.succ (nx+ks.length)) ((rowsK own ks nx U).set (nx+ks.length) (.fp own (cellsK ks nx))) (rhoK ds nx ρ):=Es (Lw (@Oz ⟨fun _=>False⟩ own ks nx U) rfl) fun HH b G σ a w hA hY hans=>by
 rw [ha] at hans
 obtain ⟨g,og,vs,r1,r2,r3,r4,r5⟩:=hans ds h0 h1 hd
 obtain ⟨τ,k1,k2,k3,k4,k5⟩:=Aw.symK ks ds vs nx (own:=own) rfl hA hY hd r3 r5
 have ha':=Env.agree_set τ (nx+ks.length) g og 0 .nilFunc
 obtain ⟨j1,j2⟩:=k2.sym k3 ha' (y := .fp own (cellsK ks nx)) rfl ⟨by show Fo G b.wB.heap.size own ((τ.set (nx+ks.length) g og 0 .nilFunc).b (nx+ks.length));rw [Env.set_b];exact r2,fun j c hj=>by
  have h2:=k5 c (List.mem_of_getElem? hj)
  show C.lt (nx+ks.length+1) c∧w.cell? ⟨(τ.set (nx+ks.length) g og 0 .nilFunc).b (nx+ks.length),(τ.set (nx+ks.length) g og 0 .nilFunc).o (nx+ks.length)+j,none⟩=some (realC (τ.set (nx+ks.length) g og 0 .nilFunc) c)
  rw [Env.set_b,Env.set_o,ha'.realC h2]
  exact ⟨h2.mono (Nat.le_succ _),r4 j _ (by rw [←k4,List.getElem?_map,hj];rfl)⟩⟩ (RhoEq.refl _ _) trivial
 refine ⟨_,?_,k1.trans (Nat.le_add_right _ _) ha',j1,j2,k2.rel.ltnx⟩
 rw [r1]
 simp [one,realW,realV,realC]
theorem Aq6 {i j z:Nat} {ix:Rho→Int} (ha:symA P U tm o.op = .eptr i j z ix) (h0:0≤ix ρ) (h1:ix ρ<((ρ.d j).length:Int)):OpY P K o tm V nx U ρ (one (.fp (Nat.succ nx) 0)) V (Nat.succ (Nat.succ nx)) ((U.set nx .int).set (Nat.succ nx) (.ep i nx z)) (ρ.setN nx (ix ρ)):=Es (Lw (Lw Vr rfl) rfl) fun HH b G σ a w hA hY hans=>by
 rw [ha] at hans
 obtain ⟨r1,r2⟩:=hans h0 h1
 obtain ⟨τ,k1,k2,k3,k4,k5⟩:=hA.eptr hY (z:=z) r2 h0
 exact ⟨τ,by rw [r1,show realW τ (one (.fp (Nat.succ nx) 0))=_ from k4],k1,k2,k3,k5⟩
theorem Amk {j x:Nat} {own:Bool} {ks:List Kd} {off:Nat} {k:Option Nat} {ds:List D} (ha:symA P U tm o.op = .eload j own x ks off k) (h0:0≤ρ.n x) (h1:(ρ.d j)[(ρ.n x).toNat]?=some ds) (hd:DKs ks ds) :
  OpY P K o tm V nx U ρ (cutW ks nx off k) V (nx+ks.length) (rowsK own ks nx U) (rhoK ds nx ρ):=Es (@Oz ⟨fun _=>False⟩ own ks nx U) fun HH b G σ a w hA hY hans=>by
 rw [ha] at hans
 obtain ⟨vs,r1,r2,r3,r4⟩:=hans ds h0 h1 hd
 obtain ⟨τ,k1,k2,k3,k4,k5⟩:=Aw.symK (own:=own) ks ds vs nx rfl hA hY hd r1 r2
 obtain ⟨c1,c2⟩:=An8 (o:=off) (k:=k) k4 (by rw [r1,Mb hd];exact r3) k5
 exact ⟨τ,by rw [r4,c1],k1,k2,k3,c2⟩
end
end Go.Vc

namespace Go.Vc
def datV:DV→List D
 | .c d=>[d]
 | .a l=>l
def wfR (r:RK):Bool:=r.agg || Nat.beq r.ks.length 1
def symsV:List RK→Nat→List V
 | [],_=>[]
 | r::rs,n=>vOf r (cellsK r.ks n)::symsV rs (n+r.ks.length)
def upV:List RK→Nat→Nat
 | [],n=>n
 | r::rs,n=>upV rs (n+r.ks.length)
def rowsV:List RK→Nat→T YRow→T YRow
 | [],_,Y=>Y
 | r::rs,n,Y=>rowsV rs (n+r.ks.length) (rowsK r.own r.ks n Y)
def rhoV:List RK→List DV→Nat→Rho→Rho
 | r::rs,d::ds,n,ρ=>rhoV rs ds (n+r.ks.length) (rhoK (datV d) n ρ)
 | _,_,_,ρ=>ρ
theorem Eg:∀ (ks:List Kd) (n:Nat) (ρ:Rho) (k:List D→Rho→Prop),(∀ ds,ds.length=ks.length→k ds (rhoK ds n ρ))→allK ks n ρ k
 | [],n,ρ,k,h=>h [] rfl
 | .int q::ks,n,ρ,k,h=>fun x=>Eg ks _ _ _ fun ds hd=>h (.raw (.int q x)::ds) (by simp [hd])
 | .bool::ks,n,ρ,k,h=>fun x=>Eg ks _ _ _ fun ds hd=>h (.raw (.bool x)::ds) (by simp [hd])
 | .str::ks,n,ρ,k,h=>fun x=>Eg ks _ _ _ fun ds hd=>h (.raw (.string x)::ds) (by simp [hd])
 | .sl::ks,n,ρ,k,h=>fun x=>Eg ks _ _ _ fun ds hd=>h (.fs x::ds) (by simp [hd])
 | .nl::ks,n,ρ,k,h=>Eg ks _ ρ _ fun ds hd=>h (.raw (.slice none 0 0)::ds) (by simp [hd])
theorem Ayp {r:RK} {ds:List D} (hw:wfR r=true) (hl:ds.length=r.ks.length):datV (dvOf r ds)=ds:=by
 unfold dvOf
 unfold wfR at hw
 cases ha:r.agg with
 | true=>rw [cond_true];rfl
 | false =>
  rw [ha,Bool.false_or] at hw
  have h1:=Nat.eq_of_beq_eq_true hw
  rw [cond_false]
  match ds,hl with
  | [d],_=>rfl
  | [],hl=>simp at hl;omega
  | _::_::_,hl=>simp at hl;omega
theorem Ws:∀ (rs:List RK) (n:Nat) (Y:T YRow) (ρ:Rho) (k:List DV→List V→Nat→T YRow→Rho→Prop),rs.all wfR=true→(∀ ds,k ds (symsV rs n) (upV rs n) (rowsV rs n Y) (rhoV rs ds n ρ))→allV rs n Y ρ k
 | [],n,Y,ρ,k,_,h=>h []
 | r::rs,n,Y,ρ,k,hw,h=>Eg r.ks n ρ _ fun ds hd=>Ws rs _ _ _ _ (by simp at hw ⊢;exact hw.2) fun dvs=>by
  have:=h (dvOf r ds::dvs)
  rw [rhoV,Ayp (by simp at hw;exact hw.1) hd] at this
  exact this
theorem Xz:∀ (ds:List D) (n m:Nat) (ρ:Rho),m≤n→RhoEq m ρ (rhoK ds n ρ)
 | [],n,m,ρ,_=>RhoEq.refl _ _
 | d::ds,n,m,ρ,h=>by
  have h1:RhoEq n ρ (rho1 ρ n d):=by
   unfold rho1
   split
   ·exact Ed _ _ _
   ·exact Lq _ _ _
   ·exact Lr _ _ _
   ·exact Am _ _ _
   ·exact RhoEq.refl _ _
  have h2:RhoEq m ρ (rho1 ρ n d):=⟨fun j hj=>h1.rn j (by omega),fun j hj=>h1.rt j (by omega),fun j hj=>h1.rs j (by omega),fun j hj=>h1.rd j (by omega)⟩
  exact h2.trans (Nat.le_refl m) (Xz ds (Nat.succ n) m _ (by omega))
theorem Al5:∀ (rs:List RK) (ds:List DV) (n m:Nat) (ρ:Rho),m≤n→RhoEq m ρ (rhoV rs ds n ρ)
 | [],_,n,m,ρ,_=>by rw [rhoV];exact RhoEq.refl _ _;intros;contradiction
 | _::_,[],n,m,ρ,_=>by rw [rhoV];exact RhoEq.refl _ _;intros;contradiction
 | r::rs,d::ds,n,m,ρ,h=>(Xz (datV d) n m ρ h).trans (Nat.le_refl m) (Al5 rs ds _ m _ (by omega))
section
variable {P:Program} {K:Nat→Option (List Value)} {o:Oper} {tm:Tm} {V:T Row} {nx:Nat} {U:T YRow} {ρ:Rho}
theorem Auv {c:Call} {g:Operand} {f:FuncId} {gs:List W} {t:ConT} {as res:List DV} (ho:o.op = .call c) (hg:c.callee = .value g) (hf:calleeW ⟨V,nx,nx⟩ (ev tm g) (c.args.toList.map (ev tm))=some (f,gs)) (hcon:Con P K f t) (has:outWs U ρ t.args gs=some as) (hpre:t.pre as)
  (hw:t.res.all wfR=true) (hres:∀ rs,t.post as rs→rs=res):OpY P K o tm V nx U ρ (ret1 (symsV t.res nx)) V (upV t.res nx) (rowsV t.res nx U) (rhoV t.res res nx ρ):=by
 intro HH F hF b G σ a w Φ hA hG hT hΦ
 have hT:TmOk σ (⟨V,nx,nx⟩:Mem).nx a.tmps tm:=hT
 unfold execOp
 simp only [ho]
 unfold resolve
 rw [Ir hT c.args]
 simp only [hg,(hT.ev a.defers g).1]
 obtain ⟨d,h1,h2,h3⟩:=Hw (P:=P) hf hA.rel (Ny hT c.args)
 show Und F P _ ((do let d ←Deferred.ofValue (realW σ (ev tm g)) ((c.args.toList.map (ev tm)).map (realW σ)).toArray;invoke d.target d.args:Sem Next).run P w)
 rw [Sem.run_bind,h1,Result.andThen_ok,h2,Dr hcon.1]
 intro n'
 have hrv:=(Yh hA.ag hG t.args gs as has).mono (G:=G) (B1:=0) (w1:=w) (fun own g hg _=>⟨hg,fun _=>Nat.zero_le _⟩) (fun _ _ _ _ h=>h)
 refine (hcon.2 F hF n' G w as _ ⟨hA.rel.known,hA.rel.low⟩ (fun g hg=>(hG.dom g hg).1) hrv hpre).mono ?_
 rintro e w' ⟨rs,us,G',p1,rfl,p3,p4,p5,p6⟩
 refine ⟨_,rfl,?_⟩
 have hst:=Gl hA.rel p3 p4
 have hA':=hA.step hst
 have hG':=hG.grow hA.rel hA.size p3 p4 p5
 have hrv':=p6.mono (G:=fun g=>G g∨G' g) (B1:=b.wB.heap.size) (w1:=w') (fun own g hg ho=>⟨.inr hg,fun ht=>by
  rcases ho with ho | ho
  ·exact Nat.le_trans hA.size ho
  ·rw [ho] at ht;cases ht⟩) (fun _ _ _ _ h=>h)
 obtain ⟨τ,vs,n2,Y',ρ',q0,q1,q2,q3,q4,q5,q6,q7⟩:=Aw.symR t.res rs us nx rfl hA' hG' hrv' (Ws t.res nx U ρ (fun ds vs n' Y' ρ'=>vs=symsV t.res nx∧n'=upV t.res nx∧Y'=rowsV t.res nx U∧ρ'=rhoV t.res ds nx ρ) hw fun ds=>⟨rfl,rfl,rfl,rfl⟩)
 obtain ⟨rfl,rfl,rfl,rfl⟩:=q3
 rw [Abl q4]
 rw [hres rs p1] at q2
 refine hΦ τ w' (fun g=>G g∨G' g) q1 p3 p4 (fun i r hi hr _=>?_) (fun i e z ow jj hi hr _=>absurd (hG.row i _ (q7 i _ hr rfl)).1.lt (Nat.not_lt.2 hi)) q2 q6 (fun g h=>.inl h) (fun g h=>?_) (Al7 q5)
 ·have:=(hA.rel.lt i r hr).lt
  have this:i<nx:=this
  omega
 ·rcases h with h | h
  ·exact .inl h
  ·exact (p5 g h).2
end
end Go.Vc

namespace Go.Vc
def ancO (A:List Nat) (es:List Edge):Nat:=List.rec 0 (fun e _ ih=>bif Region.binds .any e then Nat.lor (Nat.lor (Nat.shiftLeft 1 e.on) (A.getD e.on 0)) ih else ih) es
def ancs (l:List Oper):List Nat→List Nat:=List.rec (fun A=>A) (fun o _ ih A=>ih (A++[ancO A o.after.toList])) l
def backE (l:List Oper):Nat→Bool:=List.rec (fun _=>true) (fun o _ ih k=>(o.after.toList.all fun e=>!(Region.binds .any e) || Nat.blt e.on k) && ih (Nat.succ k)) l
def lineE:List Nat→Nat→Nat→Bool:=List.rec (fun _ _=>true) (fun a _ ih p j=>(Nat.blt j p || Nat.beq (Nat.land a (Nat.sub (Nat.pow 2 p) 1)) (Nat.sub (Nat.pow 2 p) 1)) && ih p (Nat.succ j))
theorem bltE (a b:Nat):Nat.blt a b=decide (a<b):=by rw [Bool.eq_iff_iff,decide_eq_true_iff];exact Iff.of_eq Nat.blt_eq
theorem Apd {ops:Array Oper} {A:List Nat} {k:Nat} {o:Oper} (ho:ops[k]?=some o) (hA:∀ i j,(A.getD i 0).testBit j=true→Wt ops i j):∀ (es:List Edge),(∀ e∈es,e∈o.after)→∀ j,(ancO A es).testBit j=true→Wt ops k j
 | [],_,j,h=>by rw [show ancO A []=0 from rfl,Nat.zero_testBit] at h;cases h
 | e::es,he,j,h=>by
  have ih:=Apd ho hA es (fun e' h'=>he e' (List.mem_cons_of_mem _ h')) j
  have h':(bif Region.binds .any e then Nat.lor (Nat.lor (Nat.shiftLeft 1 e.on) (A.getD e.on 0)) (ancO A es) else ancO A es).testBit j=true:=h
  cases hb:Region.binds .any e with
  | false=>rw [hb] at h';exact ih h'
  | true =>
   rw [hb,cond_true] at h'
   have h2:(((1 <<< e.on) ||| (A.getD e.on 0)) ||| ancO A es).testBit j=true:=h'
   rw [Nat.testBit_or,Nat.testBit_or,Nat.one_shiftLeft,Nat.testBit_two_pow] at h2
   simp only [Bool.or_eq_true,decide_eq_true_iff] at h2
   rcases h2 with (h2 | h2) | h2
   ·subst h2;exact .one ho (he e List.mem_cons_self) hb
   ·exact .more ho (he e List.mem_cons_self) hb (hA _ _ h2)
   ·exact ih h2
theorem Apc {ops:Array Oper}:∀ (l:List Oper) (A:List Nat),(∀ i,l[i]?=ops[A.length+i]?∨l.length≤i)→(∀ i j,(A.getD i 0).testBit j=true→Wt ops i j)→∀ i j,((ancs l A).getD i 0).testBit j=true→Wt ops i j
 | [],A,_,hA=>hA
 | o::l,A,hl,hA=>by
  have ho:ops[A.length]?=some o:=by
   rcases hl 0 with h | h
   ·simpa using h.symm
   ·simp at h
  refine Apc l (A++[ancO A o.after.toList]) (fun i=>?_) (fun i j h=>?_)
  ·rcases hl (i+1) with h | h
   ·left
    rw [List.getElem?_cons_succ] at h
    rw [h]
    congr 1
    simp
    omega
   ·right;simp at h;omega
  ·rw [List.getD_eq_getElem?_getD,List.getElem?_append] at h
   split at h
   ·rw [←List.getD_eq_getElem?_getD] at h;exact hA i j h
   ·rename_i hge
    by_cases he:i=A.length
    ·subst he
     simp at h
     exact Apd ho hA o.after.toList (fun e h=>by simpa using h) j h
    ·have:([ancO A o.after.toList]:List Nat)[i-A.length]?=none:=by
      apply List.getElem?_eq_none
      simp
      omega
     rw [this] at h
     simp at h
theorem Lc:∀ (l:List Oper) (k:Nat),backE l k=true→∀ j o,l[j]?=some o→∀ e∈o.after,Region.binds .any e=true→e.on<k+j
 | [],k,_,j,o,ho=>by simp at ho
 | o'::l,k,h,j,o,ho=>by
  have h':((o'.after.toList.all fun e=>!(Region.binds .any e) || Nat.blt e.on k) && backE l (Nat.succ k))=true:=h
  rw [Bool.and_eq_true] at h'
  cases j with
  | zero =>
   simp at ho
   subst ho
   intro e he hb
   have:=List.all_eq_true.1 h'.1 e (by simpa using he)
   rw [hb,bltE] at this
   simpa using this
  | succ j =>
   intro e he hb
   have:=Lc l (Nat.succ k) h'.2 j o (by simpa using ho) e he hb
   omega
theorem Ag2:∀ (A:List Nat) (p j0:Nat),lineE A p j0=true→∀ j,j<A.length→p≤j0+j→∀ k,k<p→(A.getD j 0).testBit k=true
 | [],_,_,_,j,hj=>by simp at hj
 | a::A,p,j0,h,j,hj=>by
  have h':((Nat.blt j0 p || Nat.beq (Nat.land a (Nat.sub (Nat.pow 2 p) 1)) (Nat.sub (Nat.pow 2 p) 1)) && lineE A p (Nat.succ j0))=true:=h
  rw [Bool.and_eq_true] at h'
  cases j with
  | zero =>
   intro hp k hk
   have h1:=h'.1
   rw [Bool.or_eq_true,bltE] at h1
   rcases h1 with h1 | h1
   ·simp at h1;omega
   ·have h2:a &&& (2 ^ p-1)=2 ^ p-1:=Nat.eq_of_beq_eq_true h1
    have h3:=congrArg (fun q=>q.testBit k) h2
    simp only [Nat.testBit_and,Nat.testBit_two_pow_sub_one] at h3
    simp [hk] at h3
    simpa using h3
  | succ j =>
   intro hp k hk
   have:=Ag2 A p (Nat.succ j0) h'.2 j (by simpa using hj) (by omega) k hk
   simpa using this
theorem Zx:∀ (l:List Oper) (A:List Nat),(ancs l A).length=A.length+l.length
 | [],A=>rfl
 | o::l,A=>by
  have:=Zx l (A++[ancO A o.after.toList])
  rw [show ancs (o::l) A=ancs l (A++[ancO A o.after.toList]) from rfl,this]
  simp
  omega
def edgesB (ops:Array Oper) (p:Nat):Bool:=backE ops.toList 0 && (lineE (ancs ops.toList []) p 0 && Nat.ble p ops.size)
theorem Wr {ops:Array Oper} {i j:Nat} (h:((ancs ops.toList []).getD i 0).testBit j=true):Wt ops i j :=
 Apc ops.toList [] (fun i=>by left;simp) (fun i j h=>by simp at h) i j h
theorem Anz {ops:Array Oper} {p:Nat} (h:edgesB ops p=true):EdgesY ops p:=by
 unfold edgesB at h
 rw [Bool.and_eq_true,Bool.and_eq_true] at h
 refine ⟨fun j o ho e he hb=>?_,fun j hp hj k hk=>?_,Nat.le_of_ble_eq_true h.2.2⟩
 ·have:=Lc ops.toList 0 h.1 j o (by simpa using ho) e he hb
  omega
 ·exact Wr (Ag2 _ p 0 h.2.1 j (by rw [Zx];simpa using hj) (by omega) k (by omega))
def soloE (A:List Nat) (r:Nat):Bool:=(List.rec (fun _=>true) (fun a _ ih j=>(Nat.ble j r || Nat.testBit a r) && ih (Nat.succ j)) A:Nat→Bool) 0
theorem Agg:∀ (A:List Nat) (r j0:Nat),(List.rec (fun _=>true) (fun a _ ih j=>(Nat.ble j r || Nat.testBit a r) && ih (Nat.succ j)) A:Nat→Bool) j0=true→∀ j,j<A.length→r<j0+j→(A.getD j 0).testBit r=true
 | [],_,_,_,j,hj=>by simp at hj
 | a::A,r,j0,h,j,hj=>by
  have h':((Nat.ble j0 r || Nat.testBit a r) && (List.rec (fun _=>true) (fun a _ ih j=>(Nat.ble j r || Nat.testBit a r) && ih (Nat.succ j)) A:Nat→Bool) (Nat.succ j0))=true:=h
  rw [Bool.and_eq_true] at h'
  cases j with
  | zero =>
   intro hr
   have h1:=h'.1
   rw [Bool.or_eq_true] at h1
   rcases h1 with h1 | h1
   ·have:=Nat.le_of_ble_eq_true h1;omega
   ·exact h1
  | succ j =>
   intro hr
   have:=Agg A r (j0+1) h'.2 j (by simpa using hj) (by omega)
   simpa using this
def soloB (ops:Array Oper) (r:Nat):Bool:=backE ops.toList 0 && soloE (ancs ops.toList []) r
theorem Aqj {ops:Array Oper} {r:Nat} (h:soloB ops r=true):(∀ (j:Nat) (o:Oper),ops[j]?=some o→∀ e∈o.after,Region.binds .any e=true→e.on<j)∧∀ j,r<j→j<ops.size→Wt ops j r:=by
 unfold soloB at h
 rw [Bool.and_eq_true] at h
 refine ⟨fun j o ho e he hb=>?_,fun j hr hj=>?_⟩
 ·have:=Lc ops.toList 0 h.1 j o (by simpa using ho) e he hb
  omega
 ·exact Wr (Agg _ r 0 h.2 j (by rw [Zx];simpa using hj) (by omega))
end Go.Vc

namespace Go.Vc
def numsC:C→List Nat
 | .raw _=>[]
 | .ptr i _ | .sl i _ _ _ _ | .em i _ _ _ | .clo i | .ifc _ i | .mp i | .fz i | .fp i _ | .sb i | .si _ i | .ss i=>[i]
def numsV:V→List Nat
 | .c x=>numsC x
 | .a l=>l.flatMap numsC
def numsW:W→List Nat
 | .v x=>numsV x
 | .t l=>l.flatMap numsV
theorem Agv {n:Nat} {c:C} (h:∀ i∈numsC c,i<n):@C.lt noHoles n c:=by
 have f:∀ {i},i<n→@Lt noHoles i n:=fun h=>@Lt.mk noHoles _ _ h fun hc=>hc
 cases c <;> first | trivial | exact f (h _ (by simp [numsC]))
theorem Agu {n:Nat} {x:V} (h:∀ i∈numsV x,i<n):@V.lt noHoles n x:=by
 cases x with
 | c x=>exact Agv (c:=x) h
 | a l=>exact fun c hc=>Agv fun i hi=>h i (List.mem_flatMap.2 ⟨c,hc,hi⟩)
theorem Aq8 {n:Nat} {x:W} (h:∀ i∈numsW x,i<n):@W.lt noHoles n x:=by
 cases x with
 | v x=>exact Agu (x:=x) h
 | t l=>exact fun c hc=>Agu fun i hi=>h i (List.mem_flatMap.2 ⟨c,hc,hi⟩)
def pickT {α:Type} (S:T α) (l:List Nat):T α:=List.rec .e (fun i _ acc=>match S.get i with
 | some x=>acc.set i x
 | none=>acc) l
theorem Kf {α:Type} (S:T α):∀ (l:List Nat) (i:Nat) (x:α),(pickT S l).get i=some x→i∈l∧S.get i=some x
 | [],i,x,h=>by rw [show (pickT S []).get i=none from T.get_e _] at h;cases h
 | a::l,i,x,h=>by
  have h':(match S.get a with | some x=>(pickT S l).set a x | none=>pickT S l).get i=some x:=h
  cases ha:S.get a with
  | none =>
   rw [ha] at h'
   obtain ⟨h1,h2⟩:=Kf S l i x h'
   exact ⟨List.mem_cons_of_mem _ h1,h2⟩
  | some y =>
   rw [ha] at h'
   dsimp only at h'
   rw [T.get_set] at h'
   split at h'
   ·rename_i he;cases h';subst he;exact ⟨List.mem_cons_self,ha⟩
   ·obtain ⟨h1,h2⟩:=Kf S l i x h'
    exact ⟨List.mem_cons_of_mem _ h1,h2⟩
def addN {α:Type} (S':T α) (a:Nat) (S:T α) (n:Nat):T α:=Nat.rec S (fun k ih=>match S'.get (Nat.add a k) with
 | some x=>ih.set (Nat.add a k) x
 | none=>ih) n
theorem Lg {α:Type} (S':T α) (a:Nat) (S:T α):∀ (n i:Nat),(addN S' a S n).get i=if a≤i∧i<a+n∧(S'.get i).isSome=true then S'.get i else S.get i
 | 0,i=>by rw [if_neg (by omega)];rfl
 | n+1,i=>by
  have ih:=Lg S' a S n i
  show (match S'.get (a+n) with | some x=>(addN S' a S n).set (a+n) x | none=>addN S' a S n).get i=_
  cases hs:S'.get (a+n) with
  | none =>
   dsimp only
   rw [ih]
   by_cases he:i=a+n
   ·subst he;rw [hs];simp
   ·by_cases hc:a≤i∧i<a+n∧(S'.get i).isSome=true
    ·rw [if_pos hc,if_pos ⟨hc.1,by omega,hc.2.2⟩]
    ·rw [if_neg hc,if_neg (fun h=>hc ⟨h.1,by omega,h.2.2⟩)]
  | some x =>
   dsimp only
   rw [T.get_set]
   by_cases he:i=a+n
   ·subst he;rw [if_pos rfl,hs,if_pos ⟨by omega,by omega,rfl⟩]
   ·rw [if_neg he,ih]
    by_cases hc:a≤i∧i<a+n∧(S'.get i).isSome=true
    ·rw [if_pos hc,if_pos ⟨hc.1,by omega,hc.2.2⟩]
    ·rw [if_neg hc,if_neg (fun h=>hc ⟨h.1,by omega,h.2.2⟩)]
def tvY (tm:Tm) (l:List Tmp):Tm:=⟨l.map fun t=>(t,tm.get t),fun _=>undef⟩
theorem Xm (tm:Tm):∀ (l:List Tmp) (t:Tmp),(tvY tm l).get t=if t∈l then tm.get t else .v (.c (.raw undef))
 | [],t=>by rw [if_neg (by simp)];rfl
 | a::l,t=>by
  have ih:=Xm tm l t
  show lookT ((a,tm.get a)::l.map fun t=>(t,tm.get t)) t _=_
  rw [@Ab1 noHoles]
  by_cases he:a=t
  ·subst he;rw [if_pos rfl,if_pos List.mem_cons_self]
  ·rw [if_neg he]
   have ih':lookT (l.map fun t=>(t,tm.get t)) t (.v (.c (.raw undef)))=if t∈l then tm.get t else .v (.c (.raw undef)):=ih
   refine ih'.trans ?_
   by_cases hm:t∈l
   ·rw [if_pos hm,if_pos (List.mem_cons_of_mem _ hm)]
   ·rw [if_neg hm,if_neg (fun hc=>by rcases List.mem_cons.1 hc with h | h;exact he h.symm;exact hm h)]
end Go.Vc
