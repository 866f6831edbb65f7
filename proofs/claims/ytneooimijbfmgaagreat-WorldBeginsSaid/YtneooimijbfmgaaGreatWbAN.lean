import Derived.RangeFuncNested
import Derived.Test.YtneooimijbfmgaaGreatWbAG
import Derived.Test.YtneooimijbfmgaaGreatWbAH
import Derived.Test.YtneooimijbfmgaaGreatWbAM
set_option linter.unusedVariables false
set_option linter.unusedSimpArgs false
set_option linter.unusedSectionVars false
noncomputable section
namespace Go.Vc
def pureN (Y:T YRow) (tm:Tm):Op→Option (IntKind×(Rho→Int))
 | .binOp op _ x y _=>match arI op,intOf Y (ev tm x),intOf Y (ev tm y) with
  | some h,some (k,f),some (k',g)=>bif k == k' then some (k,fun ρ=>k.wrap (h (f ρ) (g ρ))) else none
  | _,_,_=>none
 | .call c=>match c.callee,c.args.toList with
  | .builtin .min,[x,y]=>match intOf Y (ev tm x),intOf Y (ev tm y) with
   | some (k,f),some (_,g)=>some (k,fun ρ=>min (f ρ) (g ρ))
   | _,_=>none
  | .builtin .max,[x,y]=>match intOf Y (ev tm x),intOf Y (ev tm y) with
   | some (k,f),some (_,g)=>some (k,fun ρ=>max (f ρ) (g ρ))
   | _,_=>none
  | _,_=>none
 | _=>none
section
variable [H:Holes] {P:Program} {K:Nat→Option (List Value)} {s:St} {ρ:Rho} {Q:Post}
theorem pureN_ok {σ:Env} {n:Nat} {a:Act} {tm:Tm} {Y:T YRow} {o:Oper} {q:IntKind×(Rho→Int)} {l:Option Nat} (hT:TmOk σ n a.tmps tm) (hA:SymAg ρ σ Y) (h:pureN Y tm o.op=some q) (w:World):(o.semAt l a.eval).run P w = .ok (.value (.int q.1 (q.2 ρ))) w:=by
 unfold pureN at h
 split at h
 ·rename_i op t x y t2 hop
  split at h
  ·rename_i g k f k' f' ho hx hy
   cases hk:k == k' with
   | false=>rw [hk] at h;cases h
   | true =>
    rw [hk] at h
    cases h
    have hk:=eq_of_beq hk
    subst hk
    have e1:=intOf_ok hx hA
    have e2:=intOf_ok hy hA
    rw [←(hT.ev a.defers x).1] at e1
    rw [←(hT.ev a.defers y).1] at e2
    have e1:a.eval x=_:=e1
    have e2:a.eval y=_:=e2
    unfold arI at ho
    split at ho <;> first | (cases ho;done) | skip
    all_goals
     cases ho
     unfold Oper.semAt execOp
     cases l <;> simp only [hop,e1,e2] <;> simp [eqGuard,binOp,Op.intArith,Sem.run] <;> rfl
  ·cases h
 ·rename_i c hop
  have hE:∀ y,a.eval y=realW σ (ev tm y):=fun y=>(hT.ev a.defers y).1
  have hs:o.semAt l a.eval=execOp a.eval o:=by
   unfold Oper.semAt
   cases l with
   | none=>rfl
   | some l=>simp only [hop]
  rw [hs]
  have key:∀ (mx:Bool) (x y:Operand) (k:IntKind) (f:Rho→Int),c.args.toList=[x,y]→c.callee = .builtin (bif mx then .max else .min)→minA Y mx (ev tm x) (ev tm y) = .int k f→(execOp a.eval o).run P w = .ok (.value (.int k (f ρ))) w:=fun mx x y k f hxs hcal hm=>by
   have hxs:c.args=#[x,y]:=Array.ext' hxs
   have e3:=minA_ok (P:=P) (mx:=mx) (ts:=c.argTypes) (ty:=o.type) (x:=ev tm x) (y:=ev tm y) (m:=⟨.e,n,0⟩) (F:=fun _=>False) (B0:=0) (w:=w) hA
   rw [hm] at e3
   unfold execOp
   simp only [hop]
   unfold resolve
   cases mx with
   | true =>
    have hcal:c.callee = .builtin .max:=hcal
    simp only [hcal,hxs]
    rw [show (#[x,y].map a.eval)=#[realW σ (ev tm x),realW σ (ev tm y)] by simp [hE]]
    exact e3
   | false =>
    have hcal:c.callee = .builtin .min:=hcal
    simp only [hcal,hxs]
    rw [show (#[x,y].map a.eval)=#[realW σ (ev tm x),realW σ (ev tm y)] by simp [hE]]
    exact e3
  split at h
  ·rename_i x y hcal hxs
   split at h
   ·rename_i k f k' g hx hy
    cases h
    exact key false x y k _ hxs hcal (by unfold minA;rw [hx,hy];rfl)
   ·cases h
  ·rename_i x y hcal hxs
   split at h
   ·rename_i k f k' g hx hy
    cases h
    exact key true x y k _ hxs hcal (by unfold minA;rw [hx,hy];rfl)
   ·cases h
  ·cases h
 ·cases h
theorem sx_takeN {ops:Array Oper} {r d:Nat} {o:Oper} {q:IntKind×(Rho→Int)} (hc:s.cur = .draw ops r) (ho:ops[r]?=some o) (hback:∀ (j:Nat) (o:Oper),ops[j]?=some o→∀ e∈o.after,Region.binds .any e=true→e.on<j) (hb:takeB ops r o=true) (hop:openB ops s.tm o=false) (hw:wantW ops s.tm o=true) (hp:pureN s.Y s.tm o.op=some q) (hd:o.dst=some d) (hdn:d<s.nt)
  (k:∀ x,x=q.2 ρ→Sx P K ⟨.draw ops (Nat.succ r),s.ks,s.tm.set d (.v (.c (.si q.1 s.m.nx))),s.m.up (Nat.succ s.m.nx),s.Y.set s.m.nx .int,s.nt,s.key⟩ (ρ.setN s.m.nx x) Q):Sx P K s ρ Q:=by
 intro F hF n b hB Qw hQ σ a w hA
 rw [hc]
 intro fuel listed hs hl hf
 have hrs:=(Array.getElem?_eq_some_iff.1 ho).1
 obtain ⟨f2,rfl⟩:∃ f2,fuel=f2+1:=⟨fuel-1,by omega⟩
 unfold takeB at hb
 rw [Bool.and_eq_true,List.all_eq_true,List.all_eq_true] at hb
 have hall:∀ (j:Nat) (oj:Oper),ops[j]?=some oj→(∀ c,oj.op≠.defer c)∧∀ cs b,oj.op≠.select cs b:=fun j oj hj=>by
  have:=hb.1 oj (by rw [←Array.getElem?_toList] at hj;exact List.mem_of_getElem? hj)
  refine ⟨fun c hc=>?_,fun cs b hc=>?_⟩ <;> (rw [hc] at this;cases this)
 have hxl:∀ w,(o.semAt F.round a.eval).run P w = .ok (.value (.int q.1 (q.2 ρ))) w:=pureN_ok hA.tm hA.aw.ag hp
 have hpure:PureAt F P ops o (.int q.1 (q.2 ρ)) a:=⟨hxl,by rw [want_ok hA.tm ops o hop];exact hw⟩
 refine take_go ho (fun c a w=>after_np F n P Qw c a w s.ks) hall (by rw [hd];exact fun h=>by cases h) hF.fn f2 listed a w hs (mem_ready.2 ⟨getD_in (by rw [hs];exact hrs) (by rw [hl r];simp),o,ho,fun e he hbd=>by
  have:=hback r o ho e he hbd
  rw [hl e.on];simp;exact this⟩) (fun L hL hsub j oj hj hji hjr=>?_) hpure ?_
 ·have hjs:=(Array.getElem?_eq_some_iff.1 hj).1
  have h1:=hb.2 j (List.mem_range.2 hjs)
  rw [Bool.or_eq_true] at h1
  obtain ⟨g1,oj',g2,g3⟩:=mem_ready.1 hjr
  have g1:=getD_both g1
  rcases h1 with h1 | h1
  ·exfalso
   have hle:=Nat.le_of_ble_eq_true h1
   rw [hsub j (by rw [hl j];simp;omega)] at g1
   cases g1
  ·rw [hj] at h1
   simp only [Bool.or_eq_true] at h1
   rcases h1 with h1 | h1
   ·exfalso
    rw [List.any_eq_true] at h1
    obtain ⟨e,he,h2⟩:=h1
    rw [Bool.and_eq_true] at h2
    have:oj=oj':=Option.some.inj (hj.symm.trans g2)
    subst this
    have:=g3 e (by simpa using he) h2.1
    rw [nbeq h2.2,hL] at this
    cases this
   ·exact apartB_ok h1
 ·obtain ⟨G,hG⟩:=hA.aw.y
  obtain ⟨τ,k1,k2,k3,k4,k5⟩:=hA.aw.symD hG (k := .int q.1) (d := .raw (.int q.1 (q.2 ρ))) (v := .int q.1 (q.2 ρ)) (own:=false) (.int q.1 _) (.raw _ rfl)
  have hle:s.m.nx≤(s.m.up (s.m.nx+1)).nx:=Nat.le_succ _
  have hA2:At K b ⟨.draw ops (Nat.succ r),s.ks,s.tm.set d (.v (.c (.si q.1 s.m.nx))),s.m.up (Nat.succ s.m.nx),s.Y.set s.m.nx .int,s.nt,s.key⟩ (ρ.setN s.m.nx (q.2 ρ)) τ (a.put o.dst (.int q.1 (q.2 ρ))) w:=by
   refine ⟨k2,?_,by rw [put_size];exact hA.nt,?_⟩
   ·rw [hd]
    have h1:=(hA.tm.agree k1 hle).set (x := .v (.c (.si q.1 s.m.nx))) (d:=d) k5 (by rw [hA.nt];exact hdn)
    rw [show realW τ (.v (.c (.si q.1 s.m.nx))) = .int q.1 (q.2 ρ) from k4] at h1
    exact h1
   ·obtain ⟨rs,q1,q2,q3⟩:=hA.mks
    exact ⟨rs,by rw [put_defers];exact q1,q2,q3⟩
  exact k _ rfl F hF n b hB Qw hQ τ _ w hA2 f2 _ (by simp [hs]) (fun q=>by
   rw [set_getD (by rw [hs];exact hrs) q,hl q]
   by_cases h1:q<r
   ·simp [h1];omega
   ·by_cases h2:q=r
    ·simp [h2]
    ·simp [h1,h2];omega) (by omega)
end
end Go.Vc

namespace Go.Vc
section
variable {P:Program} {K:Nat→Option (List Value)} {o:Oper} {tm:Tm} {V:T Row} {nx:Nat} {U:T YRow} {ρ:Rho}
theorem srcD_rows {Y:T YRow} {ks:List Kd} {z n:Nat} {cs:List C} {l:List (List D)} {own:Bool} {p:Prop} (h:srcD Y ρ ks z (.rows n cs)=some (l,own,p)):p:=by
 have h':(match outRows Y ρ true ks (chunk z n cs) with
  | some l=>some (l,true,True)
  | none=>match outRows Y ρ false ks (chunk z n cs) with
   | some l=>some (l,false,True)
   | none=>none)=some (l,own,p):=h
 split at h'
 ·cases h';trivial
 ·split at h'
  ·cases h';trivial
  ·cases h'
theorem opY_app {c:Call} {t u:TypeId} {s0 x0:Operand} {i:AppI} {l2:List (List D)} {own2:Bool} {p:Prop} (ho:o.op = .call c) (hcal:c.callee = .builtin .append) (hts:c.argTypes.toList=[t,u]) (hxs:c.args.toList=[s0,x0])
  (ha:appA P ⟨V,nx,nx⟩ U tm t u s0 x0=some i) (hn:i.d=none) (hd:srcD U ρ i.ks i.z i.src=some (l2,own2,p)) (hp:p) (hlen:l2.length≤1048576) :
  OpY P K o tm V nx U ρ (one (.fz (Nat.succ nx))) V (Nat.succ (Nat.succ nx)) (U.set (Nat.succ nx) (.od i.e i.z (i.own && own2) nx)) (ρ.setD nx l2):=by
 intro HH F hF b G σ a w Φ hA hG hT hΦ
 have hT:TmOk σ (⟨V,nx,nx⟩:Mem).nx a.tmps tm:=hT
 have hts:c.argTypes=#[t,u]:=Array.ext' hts
 have hxs:c.args=#[s0,x0]:=Array.ext' hxs
 unfold execOp
 simp only [ho]
 unfold resolve
 simp only [hcal,hts,hxs]
 rw [show (#[s0,x0].map a.eval)=#[realW σ (ev tm s0),realW σ (ev tm x0)] by simp [(hT.ev a.defers s0).1,(hT.ev a.defers x0).1]]
 show Und F P _ ((do pure (.value (←Builtin.append_ #[t,u] o.type #[realW σ (ev tm s0),realW σ (ev tm x0)])):Sem Next).run P w)
 unfold appA at ha
 split at ha
 ·rename_i e z hty
  obtain ⟨hu,hsz⟩:=sliceTy_ok hty
  split at ha
  ·rename_i ks hks
   obtain ⟨hcc,ha⟩:(Nat.blt 0 z && Nat.beq ks.length z && zeroIs P e z && Nat.ble (Nat.mul 1048576 (bytes? P e)) 140737488355328)=true∧_=some i:=by
    cases hq:(Nat.blt 0 z && Nat.beq ks.length z && zeroIs P e z && Nat.ble (Nat.mul 1048576 (bytes? P e)) 140737488355328) with
    | false=>rw [hq] at ha;cases ha
    | true=>rw [hq] at ha;exact ⟨rfl,ha⟩
   simp only [Bool.and_eq_true] at hcc
   obtain ⟨⟨⟨c1,c2⟩,c3⟩,c4⟩:=hcc
   have c1:0<z:=Nat.le_of_ble_eq_true c1
   have c2:=Nat.eq_of_beq_eq_true c2
   have c4:1048576*bytes? P e≤140737488355328:=Nat.le_of_ble_eq_true c4
   split at ha
   ·rename_i own d src hdst hsrc
    cases ha
    dsimp only at hd hlen hn ⊢
    subst hn
    obtain ⟨news,hs1,hs2⟩:=srcD_ok hsrc hd hp c1 c2 hA.rel hA.ag hG
    have hv:∃ g,OdV (Fo G b.wB.heap.size own) w e z ([]:List (List D)) g (realW σ (ev tm s0))∧¬liveV (realW σ (ev tm s0)):=by
     unfold dstA at hdst
     split at hdst
     ·rename_i he
      rw [he]
      exact ⟨0,⟨c1,none,0,rfl, .inl ⟨rfl,rfl⟩⟩,fun ⟨_,_,_,hq,hlt⟩=>by cases hq;omega⟩
     ·rename_i r0 o0 z0 he
      rw [he]
      exact ⟨0,⟨c1,_,0,rfl, .inl ⟨rfl,rfl⟩⟩,fun ⟨_,_,_,hq,hlt⟩=>by cases hq;omega⟩
     ·rename_i q he
      rw [he]
      split at hdst
      ·rename_i ow j hi
       obtain ⟨_,h2,h3,h4⟩:=(hG.row q _ hi).2
       obtain ⟨a',k',hv'⟩:=h3 (by decide)
       have hd0:=h4 rfl
       have hk0:k'=0:=by
        obtain ⟨a2,c2',hv2⟩:=h2.slice
        rw [hv'] at hv2
        cases hv2
        rw [hd0];rfl
       subst hk0
       have hre:realW σ (.v (.c (.fz q))) = .slice a' 0 0:=by
        show realC σ (.fz q)=_
        simp only [realC,hv']
       rw [hre]
       exact ⟨0,⟨c1,a',0,rfl, .inl ⟨rfl,rfl⟩⟩,fun ⟨_,_,_,hq,hlt⟩=>by cases hq;omega⟩
      ·obtain ⟨_,hq2⟩:=cond_some hdst
       cases hq2
      ·cases hdst
     ·cases hdst
    obtain ⟨g,hv,hnl⟩:=hv
    obtain ⟨v',w',g',r1,r2,r3,r4,r5⟩:=append_od (F:=Fo G b.wB.heap.size (own && own2)) (ty:=o.type) hu hsz c3 (hv.mono fun g hg=>(fo_and g).1 hg) hs1 rfl (hs2.mono fun g hg=>(fo_and g).2 hg) (fun g hg=>(hG.dom g hg.1).1) (fun hl _=>hnl hl) (by simpa using hlen) c4
    rw [Sem.run_bind,r1]
    have hkeep:∀ q,q<w.heap.size→w'.heap[q]?=w.heap[q]?:=fun q hq=>r3 q hq fun hl _=>hnl hl
    obtain ⟨hA1,hG1⟩:=hA.turn (g:=g) (P:=False) hG r2 (fun q hq _=>hkeep q hq) fun hl=>hl.elim
    have hτ:=Env.agree_sym σ nx .nilFunc (σ.r.setD nx l2) (rhoEq_setD _ _ _)
    obtain ⟨hA2,hG2⟩:=hA1.num hG1 hτ (rhoEq_setD ρ nx l2)
    have hdat:(σ.sym nx .nilFunc (σ.r.setD nx l2)).r.d nx=l2:=setD_at _ _ _
    have r5:OdV (Fo G b.wB.heap.size (own && own2)) w' e z l2 g' v':=by simpa using r5
    have hge:liveV v'→w.heap.size≤g'∧g'<w'.heap.size:=fun hl=>by
     rcases r4 with ⟨_,hlv⟩ | hge | hn2
     ·exact absurd hlv hnl
     ·refine ⟨hge,?_⟩
      obtain ⟨_,a',c',hv',hc'⟩:=r5
      obtain ⟨a2,n2,c2',hq2,hlt2⟩:=hl
      rw [hv'] at hq2;cases hq2
      rcases hc' with ⟨h5,_⟩ | ⟨_,_,arr,h5,_⟩
      ·omega
      ·exact heap_lt h5
     ·exact absurd hl hn2
    obtain ⟨υ,k1,k2,k3,k4,k5,k6⟩:=hA2.symO hG2 (e:=e) (z:=z) (j:=nx) (own:=own && own2) (v:=v') (g:=g') hA.rel.ltnx (by rw [hdat,setD_at]) (by rw [hdat];exact r5) fun hl=>by
     obtain ⟨h1,h2⟩:=hge hl
     refine ⟨h2,Nat.le_trans hA.size h1,fun hg=>?_,fun q r hq hb he=>?_,fun q e' z' o' j' hq hlq he=>?_⟩
     ·have:=(hG.dom g' hg).1;omega
     ·have:=(hA.rel.row q r hq).blk_lt hb
      have he:σ.b q=g':=he
      omega
     ·have:=(hG.od q _ _ _ _ hq ((live_agree hτ (hG.row q _ hq).1).1 hlq)).1
      have he:σ.b q=g':=he
      omega
    have hagr:Agree nx σ υ:=hτ.trans (Nat.le_succ _) k1
    have hval:realW υ (one (.fz (Nat.succ nx)))=v':=k4
    rw [←hval]
    refine hΦ υ w' G hagr r2 hkeep (fun i r hi hr _=>absurd (hA.rel.lt i r hr).lt (Nat.not_lt.2 hi)) (fun i e' z' ow' jj hi hr hl=>?_) k2 k3 (fun _ h=>h) (fun _ h=>.inl h) k5
    rw [T.get_set] at hr
    split at hr
    ·rename_i hie
     subst hie
     have e2:υ.b (Nat.succ nx)=g':=k6
     have h1:liveV v':=by
      obtain ⟨a1,n1,c1',hv1,hc1⟩:=hl
      have e1:realC υ (.fz (Nat.succ nx))=v':=k4
      simp only [realC,hv1] at e1
      exact ⟨a1,n1,c1',e1.symm,hc1⟩
     rw [e2]
     exact (hge h1).1
    ·exact absurd (hG.row i _ hr).1.lt (Nat.not_lt.2 hi)
   ·cases ha
  ·cases ha
 ·cases ha
end
end Go.Vc

namespace Go.Vc
abbrev GoY:=W→T Row→Nat→T YRow→Rho→Prop
def goA (s:Option AS) (k:AS→Prop):Prop:=match s with
 | some s=>k s
 | none=>Stuck 34 ()
def litY (b:Bool) (go:GoY):GoY:=fun x V' nx' U' ρ'=>match b,x with
 | true, .v (.c (.sb i))=>match U'.get i with
  | some .bool=>(ρ'.t i=true→go (one (.raw (.bool true))) V' nx' U' ρ')∧(ρ'.t i=false→go (one (.raw (.bool false))) V' nx' U' ρ')
  | some (.kb c)=>go (one (.raw (.bool c))) V' nx' U' ρ'
  | _=>go (.v (.c (.sb i))) V' nx' U' ρ'
 | _,x=>go x V' nx' U' ρ'
def isGuard (ops:Array Oper) (o:Oper):Bool:=match o.dst with
 | some d=>ops.toList.any fun q=>match q.guard with
  | some g=>match (ops[g.1]?).bind (·.dst) with
   | some e=>Nat.beq e d
   | none=>false
  | none=>false
 | none=>false
def vcYC (con:FuncId→Option ConT) (fns:FuncId→Option (List DV→List DV)) (V:T Row) (nx:Nat) (U:T YRow) (ρ:Rho) (f:FuncId) (gs:List W) (go:GoY):Prop:=match con f,fns f with
 | some t,some fn=>match outWs U ρ t.args gs,t.res.all wfR with
  | some as,true=>Ob (t.pre as)∧go (ret1 (symsV t.res nx)) V (upV t.res nx) (rowsV t.res nx U) (rhoV t.res (fn as) nx ρ)
  | _,_=>Stuck 35 (f,gs)
 | _,_=>Stuck 36 f
def isNilP:W→Bool
 | .v (.c (.raw (.pointer none)))=>true
 | _=>false
def vcYA (P:Program) (c:Call) (tv:Tm) (V:T Row) (nx:Nat) (U:T YRow) (ρ:Rho) (go:GoY):Prop:=match c.argTypes.toList,c.args.toList with
 | [t,u],[s0,x0]=>match appA P ⟨V,nx,nx⟩ U tv t u s0 x0 with
  | some i=>match i.d,srcD U ρ i.ks i.z i.src with
   | none,some (l2,own2,p)=>(match i.src with
    | .sym ..=>Ob (p∧l2.length≤1048576)
    | .rows ..=>Ob (l2.length≤1048576))∧∀ x,x=l2→go (one (.fz (Nat.succ nx))) V (Nat.succ (Nat.succ nx)) (U.set (Nat.succ nx) (.od i.e i.z (i.own && own2) nx)) (ρ.setD nx x)
   | _,_=>Stuck 26 i.d
  | none=>Stuck 27 (t,u,ev tv s0,ev tv x0)
 | _,_=>Stuck 28 ()
def vcYS (P:Program) (con:FuncId→Option ConT) (fns:FuncId→Option (List DV→List DV)) (o:Oper) (tv:Tm) (V:T Row) (nx:Nat) (U:T YRow) (ρ:Rho) (go:GoY):Prop:=match symA P U tv o.op with
 | .int k f=>∀ x,x=f ρ→go (one (.si k nx)) V (Nat.succ nx) (U.set nx .int) (ρ.setN nx x)
 | .intP k p f=>Ob (p ρ)∧∀ x,x=f ρ→go (one (.si k nx)) V (Nat.succ nx) (U.set nx .int) (ρ.setN nx x)
 | .test p=>(p ρ→go (one (.raw (.bool true))) V nx U ρ)∧(¬p ρ→go (one (.raw (.bool false))) V nx U ρ)
 | .may c _=>Stuck 40 c
 | .val x=>go x V nx U ρ
 | .elem i own ix ks=>Ob (0≤ix ρ∧ix ρ<((ρ.d i).length:Int))∧Ob (Shp ks (ρ.d i))∧allK ks nx ρ fun ds ρ'=>Ob ((ρ.d i)[(ix ρ).toNat]?=some ds)→go (one (.fp (nx+ks.length) 0)) V (Nat.succ (nx+ks.length)) ((rowsK own ks nx U).set (nx+ks.length) (.fp own (cellsK ks nx))) ρ'
 | .sub i own c z lo hi mx=>Ob (Part ρ i z lo hi mx)∧∀ x,x=partD ρ i lo hi→go (one (.fz nx)) V (Nat.succ nx) (U.set nx (.fz own c nx)) (ρ.setD nx x)
 | .eptr i j z ix=>Ob (0≤ix ρ∧ix ρ<((ρ.d j).length:Int))∧∀ x,x=ix ρ→go (one (.fp (Nat.succ nx) 0)) V (Nat.succ (Nat.succ nx)) ((U.set nx .int).set (Nat.succ nx) (.ep i nx z)) (ρ.setN nx x)
 | .eload j own x ks off k=>Ob (0≤ρ.n x∧ρ.n x<((ρ.d j).length:Int))∧Ob (Shp ks (ρ.d j))∧allK ks nx ρ fun ds ρ'=>Ob ((ρ.d j)[(ρ.n x).toNat]?=some ds)→go (cutW ks nx off k) V (nx+ks.length) (rowsK own ks nx U) ρ'
 | .no=>match o.op with
  | .call c=>match c.callee with
   | .value g=>match calleeW ⟨V,nx,nx⟩ (ev tv g) (c.args.toList.map (ev tv)) with
    | some (f,gs)=>vcYC con fns V nx U ρ f gs go
    | none=>Stuck 37 (ev tv g)
   | .builtin .append=>vcYA P c tv V nx U ρ go
   | x=>Stuck 38 x
  | .nilCheck x=>match isNilP (ev tv x) with
   | true=>Ob False
   | false=>Stuck 56 (ev tv x)
  | .panic _=>Ob False
  | x=>Stuck 39 (x,x.operands.toList.map (ev tv))
def vcY1 (P:Program) (K:Nat→Option (List Value)) (con:FuncId→Option ConT) (fns:FuncId→Option (List DV→List DV)) (ops:Array Oper) (o:Oper) (tv:Tm) (V:T Row) (nx:Nat) (U:T YRow) (ρ:Rho) (go:GoY):Prop:=match wantW ops tv o,opB o.op with
 | false,_=>go undefW V nx U ρ
 | true,true=>match opW P K o.op o.type tv ⟨V,nx,nx⟩ with
  | .ok x mo=>match Nat.beq mo.lo nx with
   | true=>litY (isGuard ops o) go x mo.S mo.nx U ρ
   | false=>Stuck 31 o.op
  | .no=>vcYS P con fns o tv V nx U ρ (litY (isGuard ops o) go)
 | true,false=>Stuck 32 o.op
def vcY (P:Program) (K:Nat→Option (List Value)) (con:FuncId→Option ConT) (fns:FuncId→Option (List DV→List DV)) (ops:Array Oper) (nt nx0:Nat) (A:List Nat) (c:AS→Rho→Prop) (l:List Oper):Nat→AS→Rho→Prop :=
 List.rec (fun _ st ρ=>c st ρ) (fun o _ ih j st ρ=>match seeB ops nx0 (A.getD j 0) o st with
  | true=>vcY1 P K con fns ops o (tvY st.tm (namesY ops o)) (pickT st.S (numsY st (namesY ops o))) st.nx (pickT st.Y (numsY st (namesY ops o))) ρ fun x V' nx' U' ρ'=>goA (nextY nt j o st x V' nx' U') fun st'=>ih (Nat.succ j) st' ρ'
  | false=>Stuck 30 (o.op,numsY st (namesY ops o),st.Rg)) l
def FnOk (con:FuncId→Option ConT) (fns:FuncId→Option (List DV→List DV)):Prop:=∀ f t fn,con f=some t→fns f=some fn→∀ as,t.pre as→∀ rs,t.post as rs→rs=fn as
section
variable {P:Program} {K:Nat→Option (List Value)} {con:FuncId→Option ConT} {fns:FuncId→Option (List DV→List DV)} {ops:Array Oper} {o:Oper} {tv:Tm} {V:T Row} {nx:Nat} {U:T YRow} {ρ:Rho} {go:GoY}
def Did (P:Program) (K:Nat→Option (List Value)) (o:Oper) (tv:Tm) (V:T Row) (nx:Nat) (U:T YRow) (ρ:Rho) (go:GoY):Prop :=
 ∃ x V' nx' U' ρ',RhoEq nx ρ ρ'∧OpY P K o tv V nx U ρ x V' nx' U' ρ'∧go x V' nx' U' ρ'
theorem opY_lit {V':T Row} {nx' i:Nat} {U':T YRow} {ρ':Rho} {y:YRow} {c:Bool} (h:OpY P K o tv V nx U ρ (.v (.c (.sb i))) V' nx' U' ρ') (hi:U'.get i=some y) (hy:y = .bool∧ρ'.t i=c∨y = .kb c):OpY P K o tv V nx U ρ (one (.raw (.bool c))) V' nx' U' ρ':=by
 intro HH F hF b G σ a w Φ hA hY hT hΦ
 refine h HH F hF b G σ a w Φ hA hY hT fun τ w' G' q1 q2 q3 q4 qo q5 q6 q7 q8 q9=>?_
 have:realW τ (.v (.c (.sb i)))=realW τ (one (.raw (.bool c))):=by
  show Value.bool (τ.r.t i)=Value.bool c
  congr 1
  rcases hy with ⟨rfl,hc⟩ | rfl
  ·exact (q5.ag i _ hi).trans hc
  ·exact (q6.row i _ hi).2
 rw [this]
 exact hΦ τ w' G' q1 q2 q3 q4 qo q5 q6 q7 q8 trivial
theorem litY_ok {b:Bool} {x:W} {V':T Row} {nx':Nat} {U':T YRow} {ρ':Rho} (ho:OpY P K o tv V nx U ρ x V' nx' U' ρ') (h:litY b go x V' nx' U' ρ'):∃ x2,OpY P K o tv V nx U ρ x2 V' nx' U' ρ'∧go x2 V' nx' U' ρ':=by
 unfold litY at h
 split at h
 ·rename_i i
  split at h
  ·rename_i hi
   cases hq:ρ'.t i with
   | true=>exact ⟨_,opY_lit ho hi (.inl ⟨rfl,hq⟩),h.1 hq⟩
   | false=>exact ⟨_,opY_lit ho hi (.inl ⟨rfl,hq⟩),h.2 hq⟩
  ·rename_i c hi;exact ⟨_,opY_lit ho hi (.inr rfl),h⟩
  ·exact ⟨_,ho,h⟩
 ·exact ⟨_,ho,h⟩
theorem vcYC_ok (hcon:∀ f t,con f=some t→Con P K f t) (hfn:FnOk con fns) {c:Call} {g:Operand} {f:FuncId} {gs:List W} (ho:o.op = .call c) (hg:c.callee = .value g) (hf:calleeW ⟨V,nx,nx⟩ (ev tv g) (c.args.toList.map (ev tv))=some (f,gs)) (h:vcYC con fns V nx U ρ f gs go):Did P K o tv V nx U ρ go:=by
 unfold vcYC at h
 split at h
 ·rename_i t fn ht hfn'
  split at h
  ·rename_i as has hw
   exact ⟨_,_,_,_,_,rhoV_eq t.res (fn as) nx nx ρ (Nat.le_refl _),opY_con ho hg hf (hcon f t ht) has h.1.out hw (hfn f t fn ht hfn' as h.1.out),h.2⟩
  ·cases h
 ·cases h
theorem vcYA_ok {c:Call} (ho:o.op = .call c) (hcal:c.callee = .builtin .append) (h:vcYA P c tv V nx U ρ go):Did P K o tv V nx U ρ go:=by
 unfold vcYA at h
 split at h
 ·rename_i t u s0 x0 hts hxs
  split at h
  ·rename_i i ha
   split at h
   ·rename_i l2 own2 p hn hd
    obtain ⟨h1,h2⟩:=h
    obtain ⟨hp,hlen⟩:p∧l2.length≤1048576:=by
     split at h1
     ·exact h1.out
     ·rename_i n cs hs
      rw [hs] at hd
      exact ⟨srcD_rows hd,h1.out⟩
    exact ⟨_,_,_,_,_,rhoEq_setD _ _ _,opY_app ho hcal hts hxs ha hn hd hp hlen,h2 _ rfl⟩
   ·cases h
  ·cases h
 ·cases h
theorem vcYS_ok (hcon:∀ f t,con f=some t→Con P K f t) (hfn:FnOk con fns) (h:vcYS P con fns o tv V nx U ρ go):Did P K o tv V nx U ρ go:=by
 unfold vcYS at h
 split at h
 ·rename_i k f ha;exact ⟨_,_,_,_,_,rhoEq_setN _ _ _,opY_int ha,h _ rfl⟩
 ·rename_i k p f ha;exact ⟨_,_,_,_,_,rhoEq_setN _ _ _,opY_intP ha h.1.out,h.2 _ rfl⟩
 ·rename_i p ha
  by_cases hq:p ρ
  ·exact ⟨_,_,_,_,_,RhoEq.refl _ _,opY_test ha (c:=true) ⟨fun _=>hq,fun _=>rfl⟩,h.1 hq⟩
  ·exact ⟨_,_,_,_,_,RhoEq.refl _ _,opY_test ha (c:=false) ⟨(fun h=>by cases h),fun h=>absurd h hq⟩,h.2 hq⟩
 ·cases h
 ·rename_i x ha;exact ⟨_,_,_,_,_,RhoEq.refl _ _,opY_val ha,h⟩
 ·rename_i i own ix ks ha
  obtain ⟨⟨h0,h1⟩,⟨h2⟩,h3⟩:=h
  have hlt:(ix ρ).toNat<(ρ.d i).length:=by omega
  obtain ⟨ds,h4⟩:∃ ds,(ρ.d i)[(ix ρ).toNat]?=some ds:=⟨_,List.getElem?_eq_getElem hlt⟩
  have hd:=h2 ds (List.mem_of_getElem? h4)
  exact ⟨_,_,_,_,_,rhoK_eq ds nx nx ρ (Nat.le_refl _),opY_elem ha h0 h4 hd,allK_at _ _ _ _ h3 ds hd ⟨h4⟩⟩
 ·rename_i i own c z lo hi mx ha;exact ⟨_,_,_,_,_,rhoEq_setD _ _ _,opY_sub ha h.1.out,h.2 _ rfl⟩
 ·rename_i i j z ix ha;exact ⟨_,_,_,_,_,rhoEq_setN _ _ _,opY_eptr ha h.1.out.1 h.1.out.2,h.2 _ rfl⟩
 ·rename_i j own x ks off k ha
  obtain ⟨⟨h0,h1⟩,⟨h2⟩,h3⟩:=h
  have hlt:(ρ.n x).toNat<(ρ.d j).length:=by omega
  obtain ⟨ds,h4⟩:∃ ds,(ρ.d j)[(ρ.n x).toNat]?=some ds:=⟨_,List.getElem?_eq_getElem hlt⟩
  have hd:=h2 ds (List.mem_of_getElem? h4)
  exact ⟨_,_,_,_,_,rhoK_eq ds nx nx ρ (Nat.le_refl _),opY_eload ha h0 h4 hd,allK_at _ _ _ _ h3 ds hd ⟨h4⟩⟩
 ·split at h
  ·rename_i c ho
   split at h
   ·rename_i g hg
    split at h
    ·rename_i f gs hf;exact vcYC_ok hcon hfn ho hg hf h
    ·cases h
   ·rename_i hg;exact vcYA_ok ho hg h
   ·cases h
  ·split at h
   ·exact h.out.elim
   ·cases h
  ·exact h.out.elim
  ·cases h
theorem vcY1_ok (hcon:∀ f t,con f=some t→Con P K f t) (hfn:FnOk con fns) (h:vcY1 P K con fns ops o tv V nx U ρ go) :
  ∃ did x V' nx' U' ρ',wantW ops tv o=did∧RhoEq nx ρ ρ'∧(did=false→x=undefW∧nx'=nx)∧(did=true→OpY P K o tv V nx U ρ x V' nx' U' ρ')∧(did=true→opB o.op=true)∧go x V' nx' U' ρ':=by
 unfold vcY1 at h
 split at h
 ·rename_i hw;exact ⟨false,_,_,_,_,_,hw,RhoEq.refl _ _,fun _=>⟨rfl,rfl⟩,(fun h=>by cases h),(fun h=>by cases h),h⟩
 ·rename_i hw hb
  split at h
  ·rename_i x mo ho
   split at h
   ·rename_i hl
    obtain ⟨x2,k1,k2⟩:=litY_ok (opY_op (U:=U) (ρ:=ρ) ho (Nat.eq_of_beq_eq_true hl)) h
    exact ⟨true,_,_,_,_,_,hw,RhoEq.refl _ _,(fun h=>by cases h),fun _=>k1,fun _=>hb,k2⟩
   ·cases h
  ·obtain ⟨x,V',nx',U',ρ',h1,h2,h3⟩:=vcYS_ok hcon hfn h
   obtain ⟨x2,k1,k2⟩:=litY_ok h2 h3
   exact ⟨true,x2,V',nx',U',ρ',hw,h1,(fun h=>by cases h),fun _=>k1,fun _=>hb,k2⟩
 ·cases h
theorem vcY_ok (hcon:∀ f t,con f=some t→Con P K f t) (hfn:FnOk con fns) {nt nx0:Nat} {A:List Nat} {c:AS→Rho→Prop}:∀ (l:List Oper) (j:Nat) (st:AS) (ρ:Rho),vcY P K con fns ops nt nx0 A c l j st ρ →
  ∃ (pt:Nat→AS) (rh:Nat→Rho) (mv:Nat→Mv),pt j=st∧rh j=ρ∧c (pt (j+l.length)) (rh (j+l.length))∧∀ i o,l[i]?=some o→LocY P K ops nt nx0 (A.getD (j+i) 0) (j+i) o (pt (j+i)) (rh (j+i)) (mv (j+i)) (pt (j+i+1)) (rh (j+i+1))
 | [],j,st,ρ,h=>⟨fun _=>st,fun _=>ρ,fun _=>⟨false,undefW, .e, .e, .e, .e,[],⟨[],fun _=>undef⟩⟩,rfl,rfl,h,fun i o hi=>by simp at hi⟩
 | o::l,j,st,ρ,h=>by
  have h':(match seeB ops nx0 (A.getD j 0) o st with
  | true=>vcY1 P K con fns ops o (tvY st.tm (namesY ops o)) (pickT st.S (numsY st (namesY ops o))) st.nx (pickT st.Y (numsY st (namesY ops o))) ρ fun x V' nx' U' ρ'=>goA (nextY nt j o st x V' nx' U') fun st'=>vcY P K con fns ops nt nx0 A c l (Nat.succ j) st' ρ'
  | false=>Stuck 30 (o.op,numsY st (namesY ops o),st.Rg)):=h
  split at h'
  ·rename_i hs
   obtain ⟨did,x,V',nx',U',ρ',h1,h2,h3,h4,h5,h6⟩:=vcY1_ok hcon hfn h'
   unfold goA at h6
   split at h6
   ·rename_i st' hn
    have loc:=nextY_loc hs hn h2 h1 h3 h4 h5
    obtain ⟨pt,rh,mv,e1,e2,e3,e4⟩:=vcY_ok hcon hfn l (j+1) st' ρ' h6
    refine ⟨fun i=>if i=j then st else pt i,fun i=>if i=j then ρ else rh i,fun i=>if i=j then ⟨did,x,pickT st.S (numsY st (namesY ops o)),V',pickT st.Y (numsY st (namesY ops o)),U',numsY st (namesY ops o),tvY st.tm (namesY ops o)⟩ else mv i,if_pos rfl,if_pos rfl,?_,fun i o' hi=>?_⟩
    ·show c (if j+(l.length+1)=j then st else _) (if j+(l.length+1)=j then ρ else _)
     have e5:j+(o::l).length=j+1+l.length:=by rw [List.length_cons];omega
     rw [if_neg (by omega),if_neg (by omega),e5]
     exact e3
    ·cases i with
     | zero =>
      simp at hi
      subst hi
      simp only [Nat.add_zero,if_true,if_neg (show ¬j+1=j by omega),e1,e2]
      exact loc
     | succ i =>
      have:=e4 i o' (by simpa using hi)
      rw [show j+(i+1)=j+1+i by omega]
      simp only [if_neg (show ¬j+1+i=j by omega),if_neg (show ¬j+1+i+1=j by omega)]
      exact this
   ·cases h6
  ·cases h'
end
end Go.Vc

namespace Go.Vc
def dstB (o:Oper) (t:Tmp):Bool:=match o.dst with
 | some d=>Nat.beq d t
 | none=>false
def nameB (ops:Array Oper) (p:Nat) (A:List Nat) (j:Nat) (t:Tmp):Bool:=(List.range p).all fun k=>match ops[k]? with
 | some q=>!(dstB q t) || (Nat.beq k j || (Nat.blt k j && Nat.testBit (A.getD j 0) k) || (Nat.blt j k && Nat.testBit (A.getD k 0) j))
 | none=>true
def namesB (ops:Array Oper) (p:Nat) (A:List Nat):Bool:=(List.range p).all fun j=>match ops[j]? with
 | some o=>(match o.dst with
  | some d=>nameB ops p A j d
  | none=>true) && (namesY ops o).all (nameB ops p A j)
 | none=>true
theorem nameB_ok {ops:Array Oper} {p j:Nat} {t:Tmp} (h:nameB ops p (ancs ops.toList []) j t=true) {k:Nat} {q:Oper} (hk:k<p) (hq:ops[k]?=some q) (hd:q.dst=some t):k=j∨(k<j∧Wt ops j k)∨(j<k∧Wt ops k j):=by
 unfold nameB at h
 have:=List.all_eq_true.1 h k (List.mem_range.2 hk)
 rw [hq] at this
 simp only [dstB,hd,Nat.beq_refl,Bool.not_true,Bool.false_or,Bool.or_eq_true,Bool.and_eq_true,bltE,decide_eq_true_iff] at this
 rcases this with (h1 | h1) | h1
 ·exact .inl (Nat.eq_of_beq_eq_true h1)
 ·exact .inr (.inl ⟨h1.1,anc_wt h1.2⟩)
 ·exact .inr (.inr ⟨h1.1,anc_wt h1.2⟩)
def oper0 : Oper := ⟨none, .move (.const undef), 0, "", #[], none⟩
section
variable [H:Holes] {P:Program} {K:Nat→Option (List Value)} {s:St} {ρ:Rho} {Q:Post}
theorem sx_region {con:FuncId→Option ConT} {fns:FuncId→Option (List DV→List DV)} (hcon:∀ f t,con f=some t→Con P K f t) (hfn:FnOk con fns) {p:Nat} {ops:Array Oper} (hc:s.cur = .draw ops 0) (he:edgesB ops p=true) (hnm:namesB ops p (ancs ops.toList [])=true) {c:AS→Rho→Prop} (hcc:∀ st ρ',c st ρ'→Sx P K ⟨.draw ops p,s.ks,st.tm,⟨st.S,st.nx,s.m.lo⟩,st.Y,s.nt,s.key⟩ ρ' Q)
  (h:vcY P K con fns ops s.nt s.m.nx (ancs ops.toList []) c (ops.toList.take p) 0 ⟨s.m.nx,s.m.S,s.Y,s.tm,[]⟩ ρ):Sx P K s ρ Q:=by
 have hE:=edgesB_ok he
 obtain ⟨pt,rh,mv,e1,e2,e3,e4⟩:=vcY_ok hcon hfn _ _ _ _ h
 have hlen:0+(ops.toList.take p).length=p:=by rw [List.length_take];have:=hE.le;simp;omega
 rw [hlen] at e3
 have ho:∀ k,k<p→ops[k]?=some (ops.getD k oper0):=fun k hk=>by
  have:k<ops.size:=Nat.lt_of_lt_of_le hk hE.le
  rw [Array.getD_eq_getD_getElem?,Array.getElem?_eq_getElem this];rfl
 have loc:∀ k,k<p→LocY P K ops s.nt s.m.nx ((ancs ops.toList []).getD k 0) k (ops.getD k oper0) (pt k) (rh k) (mv k) (pt (k+1)) (rh (k+1)):=fun k hk=>by
  have:=e4 k (ops.getD k oper0) (by rw [List.getElem?_take,if_pos hk];simpa using ho k hk)
  simpa using this
 have p0:(pt 0).nx=s.m.nx:=by rw [e1]
 have mono:∀ {i j},i≤j→j≤p→(pt i).nx≤(pt j).nx:=fun {i j}=>by
  induction j with
  | zero=>intro h1 _;rw [Nat.le_zero.1 h1];exact Nat.le_refl _
  | succ j ih =>
   intro h1 h2
   rcases Nat.lt_or_ge i (j+1) with h3 | h3
   ·exact Nat.le_trans (ih (by omega) (by omega)) (loc j h2).mono
   ·rw [show i=j+1 by omega];exact Nat.le_refl _
 have keepS:∀ {k j i},k≤j→j≤p→i<(pt k).nx→(pt j).S.get i=(pt k).S.get i:=fun {k j i}=>by
  induction j with
  | zero=>intro h1 _ _;rw [Nat.le_zero.1 h1]
  | succ j ih =>
   intro h1 h2 h3
   rcases Nat.lt_or_ge k (j+1) with h4 | h4
   ·rw [(loc j h2).oldS i (Nat.lt_of_lt_of_le h3 (mono (by omega) (by omega))),ih (by omega) (by omega) h3]
   ·rw [show k=j+1 by omega]
 have keepY:∀ {k j i},k≤j→j≤p→i<(pt k).nx→(pt j).Y.get i=(pt k).Y.get i:=fun {k j i}=>by
  induction j with
  | zero=>intro h1 _ _;rw [Nat.le_zero.1 h1]
  | succ j ih =>
   intro h1 h2 h3
   rcases Nat.lt_or_ge k (j+1) with h4 | h4
   ·rw [(loc j h2).oldY i (Nat.lt_of_lt_of_le h3 (mono (by omega) (by omega))),ih (by omega) (by omega) h3]
   ·rw [show k=j+1 by omega]
 have rgs:∀ k,k≤p→∀ r∈(pt k).Rg,∃ j,j<k∧r=(j,(pt j).nx,(pt (j+1)).nx):=fun k=>by
  induction k with
  | zero=>intro _ r hr;rw [e1] at hr;cases hr
  | succ k ih =>
   intro hk r hr
   rw [(loc k hk).rg] at hr
   rcases List.mem_cons.1 hr with rfl | hr
   ·exact ⟨k,Nat.lt_succ_self _,rfl⟩
   ·obtain ⟨j,h1,h2⟩:=ih (by omega) r hr
    exact ⟨j,by omega,h2⟩
 have seen:∀ k,k<p→∀ i,i∈(mv k).ns→i<(pt k).nx∧(i<(pt 0).nx∨∃ j,j<k∧Wt ops k j∧(pt j).nx≤i∧i<(pt (j+1)).nx):=fun k hk i hi=>by
  obtain ⟨h1,h2⟩:=(loc k hk).ns i hi
  refine ⟨h1,?_⟩
  rcases h2 with h2 | ⟨r,hr,h3,h4,h5⟩
  ·exact .inl (by rw [p0];exact h2)
  ·obtain ⟨j,hj,rfl⟩:=rgs k (Nat.le_of_lt hk) r hr
   exact .inr ⟨j,hj,anc_wt h3,h4,h5⟩
 have e3':Sx P K ⟨.draw ops p,s.ks,(pt p).tm,⟨(pt p).S,(pt p).nx,s.m.lo⟩,(pt p).Y,s.nt,s.key⟩ (rh p) Q:=hcc _ _ e3
 refine sx_draw (o:=fun k=>ops.getD k oper0) (nx:=fun k=>(pt k).nx) (S:=(pt p).S) (Y:=(pt p).Y) (ρs:=rh) (tm:=fun k=>(pt k).tm) (did:=fun k=>(mv k).did) (x:=fun k=>(mv k).x) (V:=fun k=>(mv k).V) (V':=fun k=>(mv k).V') (U:=fun k=>(mv k).U) (U':=fun k=>(mv k).U') (vis:=fun k i=>i∈(mv k).ns) (tv:=fun k=>(mv k).tv) (lo:=s.m.lo) hc (fun hbS hbY=>?_) ?_ hE (by rw [e1]) p0 e2 (fun i hi=>?_) (fun i hi=>?_) e3'
 ·have nlS:∀ k,k≤p→∀ i r,(pt k).S.get i=some r→i<(pt k).nx:=fun k=>by
   induction k with
   | zero=>intro _ i r hr;rw [e1] at hr ⊢;exact hbS i r hr
   | succ k ih =>
    intro hk i r hr
    rcases Nat.lt_or_ge i (pt k).nx with h1 | h1
    ·exact Nat.lt_of_lt_of_le h1 (loc k hk).mono
    ·rcases (loc k hk).newS i r h1 hr with h2 | h2
     ·have:=ih (by omega) i r h2;omega
     ·exact h2.1
  have nlY:∀ k,k≤p→∀ i y,(pt k).Y.get i=some y→i<(pt k).nx:=fun k=>by
   induction k with
   | zero=>intro _ i y hy;rw [e1] at hy ⊢;exact hbY i y hy
   | succ k ih =>
    intro hk i y hy
    rcases Nat.lt_or_ge i (pt k).nx with h1 | h1
    ·exact Nat.lt_of_lt_of_le h1 (loc k hk).mono
    ·rcases (loc k hk).newY i y h1 hy with h2 | h2
     ·have:=ih (by omega) i y h2;omega
     ·exact h2.1
  refine ⟨ho,fun k hk=>(loc k hk).mono,fun k hk=>(loc k hk).rho,fun k hk=>(loc k hk).put,fun k hk=>(loc k hk).same,fun k hk=>(loc k hk).skip,fun k hk=>(loc k hk).run,seen,fun k hk i r hr=>?_,fun k hk i r hr=>?_,fun k hk _ i r h1 h2 hr=>?_,fun k hk _ i r h1 h2 hr=>?_,nlS p (Nat.le_refl p),nlY p (Nat.le_refl p)⟩
  ·obtain ⟨h1,h2⟩:=(loc k hk).subV i r hr
   exact ⟨h1,by rw [keepS (Nat.le_of_lt hk) (Nat.le_refl p) (seen k hk i h1).1];exact h2⟩
  ·obtain ⟨h1,h2⟩:=(loc k hk).subU i r hr
   exact ⟨h1,by rw [keepY (Nat.le_of_lt hk) (Nat.le_refl p) (seen k hk i h1).1];exact h2⟩
  ·rw [keepS (show k+1≤p from hk) (Nat.le_refl p) h2] at hr
   rcases (loc k hk).newS i r h1 hr with h3 | h3
   ·have:=nlS k (Nat.le_of_lt hk) i r h3;omega
   ·exact h3.2
  ·rw [keepY (show k+1≤p from hk) (Nat.le_refl p) h2] at hr
   rcases (loc k hk).newY i r h1 hr with h3 | h3
   ·have:=nlY k (Nat.le_of_lt hk) i r h3;omega
   ·exact h3.2
 ·have nb:∀ j,j<p→∀ t,((ops.getD j oper0).dst=some t∨t∈namesY ops (ops.getD j oper0))→nameB ops p (ancs ops.toList []) j t=true:=fun j hj t ht=>by
   unfold namesB at hnm
   have:=List.all_eq_true.1 hnm j (List.mem_range.2 hj)
   rw [ho j hj] at this
   simp only [Bool.and_eq_true] at this
   rcases ht with ht | ht
   ·have h1:=this.1;rw [ht] at h1;exact h1
   ·exact List.all_eq_true.1 this.2 t ht
  exact ⟨fun j hj t ht k hk hd=>nameB_ok (nb j hj t (.inl ht)) hk (ho k hk) hd,fun j hj t ht k hk hd=>nameB_ok (nb j hj t (.inr ht)) hk (ho k hk) hd,fun j hj=>(loc j hj).tvT,fun j hj=>(loc j hj).tvN,fun j hj=>(loc j hj).tvl,fun j hj=>(loc j hj).want,fun j hj=>(loc j hj).op⟩
 ·rw [keepS (Nat.zero_le p) (Nat.le_refl p) hi,e1]
 ·rw [keepY (Nat.zero_le p) (Nat.le_refl p) hi,e1]
end
end Go.Vc

namespace Go.Vc
def parW (nt:Nat):List Tmp→List W→Tm→Option Tm
 | [],[],t=>some t
 | p::ps,x::xs,t=>bif Nat.blt p nt then parW nt ps xs (t.set p x) else none
 | _,_,_=>none
def jumpOf:Exit→Option (Option Code)
 | .normal=>some none
 | .ret=>some (some .ret)
 | .exit i=>some (some (.exit i))
 | .goto i=>some (some (.goto i))
 | _=>none
def curOf:Option Code→Option Cur
 | none=>some (.exit .normal)
 | some .ret=>some (.exit .ret)
 | some (.exit i)=>some (.exit (.exit i))
 | some (.goto i)=>some (.exit (.goto i))
 | _=>none
def busyM (m:Mem) (i:Nat):Option Mem:=match m.S.get i with
 | some (.loop .ready p nt tm ps a b)=>some ⟨m.S.set i (.loop .busy p nt tm ps a b),m.nx,lower i m.lo⟩
 | _=>none
def doneM (m:Mem) (i:Nat) (jump:Option Code):Option Mem:=match m.S.get i with
 | some (.loop _ _ nt tm ps a b)=>some ⟨m.S.set i (.loop (bif jump.isNone then .ready else .done) jump nt tm ps a b),m.nx,lower i m.lo⟩
 | _=>none
def overM (m:Mem) (i:Nat):Option (Option Code×Mem):=match m.S.get i with
 | some (.loop .busy _ _ _ _ _ _)=>none
 | some (.loop _ pd _ _ _ _ _)=>some (pd,⟨m.S.set i .dead,m.nx,lower i m.lo⟩)
 | _=>none
section
variable [H:Holes]
section
variable {P:Program} {K:Nat→Option (List Value)} {σ τ:Env} {m m1:Mem} {w w1:World} {F:Fence}
theorem par_ok {nt:Nat}:∀ (ps:List Tmp) (xs:List W) (tm tm':Tm) (tmps:Array Value),parW nt ps xs tm=some tm'→TmOk σ m.nx tmps tm→tmps.size=nt→(∀ x∈xs,W.lt m.nx x) →
  ps.length=xs.length∧∃ tmps',((ps.zip (xs.map (realW σ))).foldl (fun tmps (p:Tmp×Value)=>tmps.setIfInBounds p.1 p.2) tmps)=tmps'∧TmOk σ m.nx tmps' tm'∧tmps'.size=nt
 | [],[],tm,tm',tmps,h,hT,hs,_=>by cases h;exact ⟨rfl,tmps,rfl,hT,hs⟩
 | p::ps,x::xs,tm,tm',tmps,h,hT,hs,hl=>by
  unfold parW at h
  rw [cond_eq_ite] at h
  split at h
  ·rename_i hp
   have hp:p<nt:=Nat.le_of_ble_eq_true hp
   obtain ⟨h1,tmps',h2,h3,h4⟩:=par_ok ps xs _ tm' (tmps.setIfInBounds p (realW σ x)) h (hT.set (hl x List.mem_cons_self) (by rw [hs];exact hp)) (by simpa using hs) (fun y hy=>hl y (List.mem_cons_of_mem _ hy))
   exact ⟨by simp [h1],tmps',by rw [List.map_cons,List.zip_cons_cons,List.foldl_cons];exact h2,h3,h4⟩
  ·cases h
 | [],x::xs,tm,tm',tmps,h,hT,hs,_=>by cases h
 | p::ps,[],tm,tm',tmps,h,hT,hs,_=>by cases h
theorem step_loop (h:Rel K σ m w) {r:Nat} {s0 s1:Row} {lo:Nat} (hr:m.S.get r=some s0) (h0:s0.isLoop=true) (h1:s1.isLoop=true) (hlo:lo≤m.lo) (hlr:lo≤r) (hg:Goes w w1) (hw:∀ b,b≠σ.b r→w1.heap[b]?=w.heap[b]?)
  (hn:RowOk σ m.nx w1 r s1):Step K σ m w σ ⟨m.S.set r s1,m.nx,lo⟩ w1:=by
 have b0:s0.blk=true:=by cases s0 <;> first | rfl | cases h0
 have b1:s1.blk=true:=by cases s1 <;> first | rfl | cases h1
 have hget:∀ i,(m.S.set r s1).get i=if i=r then some s1 else m.S.get i:=fun i=>T.get_set _ _ _ _
 have hold:∀ i s,(m.S.set r s1).get i=some s→s.blk=true→∃ s',m.S.get i=some s'∧s'.blk=true:=fun i s hs hsb=>by
  by_cases hi:i=r
  ·subst hi;exact ⟨_,hr,b0⟩
  ·rw [hget,if_neg hi] at hs;exact ⟨s,hs,hsb⟩
 have hother:∀ i s,m.S.get i=some s→s.blk=true→i≠r→σ.b i≠σ.b r:=fun i s hs hsb hi he=>hi (h.inj i r s _ hs hr hsb b0 he)
 have hap:=h.apart r _ hr b0
 refine ⟨Nat.le_refl _,Agree.refl _ _,⟨fun i s hs=>?_,fun i s hs=>?_,fun i j s s' hs hs' hsb hsb' he=>?_,fun g l hg'=>?_,fun i s hs hsb=>?_,fun g l hg'=>Nat.lt_of_lt_of_le (h.low g l hg') hg.size,h.fresh⟩,hg,fun b _ hb=>?_,fun i s _ hs hsb=>hold i s hs hsb,fun i s hi hs hsb=>?_,hlo,fun i s hs hsl=>?_⟩
 ·by_cases hi:i=r
  ·subst hi;rw [hget,if_pos rfl] at hs;cases hs;exact hn
  ·rw [hget,if_neg hi] at hs
   exact (h.row i s hs).keep (Agree.refl _ _) (h.lt i s hs) (Nat.le_refl _) (fun hsb=>hw _ (hother i s hs hsb hi))
 ·by_cases hi:i=r
  ·subst hi;exact h.lt _ _ hr
  ·rw [hget,if_neg hi] at hs;exact h.lt i s hs
 ·obtain ⟨t,ht,htb⟩:=hold i s hs hsb
  obtain ⟨t',ht',htb'⟩:=hold j s' hs' hsb'
  exact h.inj i j t t' ht ht' htb htb' he
 ·exact known_kept h (fun g l hg2=>hw g (fun he=>by rw [←he,hg2] at hap;cases hap)) g l hg'
 ·obtain ⟨t,ht,htb⟩:=hold i s hs hsb
  exact h.apart i t ht htb
 ·refine hw b fun he=>?_
  have:=hb r _ hr b0 he.symm
  exact absurd (show r<lo from this) (by omega)
 ·obtain ⟨t,ht,_⟩:=hold i s hs hsb
  exact absurd (h.lt i t ht).lt (by omega)
 ·by_cases hi:i=r
  ·subst hi;exact ⟨s1,by rw [hget,if_pos rfl],h1⟩
  ·exact ⟨s,by rw [hget,if_neg hi];exact hs,hsl⟩
theorem step_enter (h:Rel K σ m w) {nt:Nat} {tm:Tm} {a:Act} (hT:TmOk σ m.nx a.tmps tm) (hs:a.tmps.size=nt) (fn:FuncId) (ps:Array Tmp) (assign body:Code) (df l:Nat) (hl:w.heap.size≤l) (hg:Goes w w1) (hold:∀ b,b<w.heap.size→w1.heap[b]?=w.heap[b]?)
  (hnew:w1.heap[l]?=some (.loop { state := .ready,pending:=none,fn,tmps:=a.tmps,params:=ps,assign,body,defers:=df })) :
  Step K σ m w (σ.set m.nx l 0 0 (.func (.yield l) #[] #[])) (m.add (.loop .ready none nt tm ps.toList assign body)).1 w1:=by
 have hag:=Env.agree_set σ m.nx l 0 0 (.func (.yield l) #[] #[])
 exact step_add h _ l 0 0 _ hg hold (fun _=>hl) ⟨fn,a.tmps,df,by simp,hs,hT.agree hag (Nat.le_succ _),by simpa using hnew⟩
end
section
variable {P:Program} {K:Nat→Option (List Value)} {b:Bs} {σ τ:Env} {m m1:Mem} {Y Y1:T YRow} {ρ ρ1:Rho} {w w1:World} {F:Fence}
theorem Aw.over (h:Aw K b m Y ρ σ w) {r lo:Nat} {s0:Row} (hr:m.S.get r=some s0) (h0:s0.isLoop=true) (hn:¬b.L r) {o:Obj}:Aw K b ⟨m.S.set r .dead,m.nx,lo⟩ Y ρ σ (w.putObj (σ.b r) o):=by
 have b0:s0.blk=true:=by cases s0 <;> first | rfl | cases h0
 have hlp:∃ q,w.heap[σ.b r]?=some (.loop q):=by
  have:=h.rel.row r s0 hr
  cases s0 <;> first | (cases h0;done) | skip
  obtain ⟨fn,tmps,df,_,_,_,h4⟩:=this
  exact ⟨_,h4⟩
 have hg:Goes w (w.putObj (σ.b r) o):=goes_putM _ _ _
 have hw:∀ g,g≠σ.b r→(w.putObj (σ.b r) o).heap[g]?=w.heap[g]?:=fun g hg=>World.putObj_heap_other hg
 have hget:∀ i s,(m.S.set r .dead).get i=some s→s = .dead∧i=r∨m.S.get i=some s∧i≠r:=fun i s hi=>by
  rw [T.get_set] at hi
  split at hi
  ·rename_i he;cases hi;exact .inl ⟨rfl,he⟩
  ·rename_i he;exact .inr ⟨hi,he⟩
 have hblk:∀ i s,(m.S.set r .dead).get i=some s→s.blk=true→m.S.get i=some s∧i≠r:=fun i s hi hb=>by
  rcases hget i s hi with ⟨rfl,_⟩ | h
  ·cases hb
  ·exact h
 have hother:∀ i s,m.S.get i=some s→s.blk=true→i≠r→σ.b i≠σ.b r:=fun i s hs hsb hi he=>hi (h.rel.inj i r s _ hs hr hsb b0 he)
 have hap:=h.rel.apart r _ hr b0
 obtain ⟨G,hF⟩:=h.y
 have hFk:∀ g j v,G g→w.cell? ⟨g,j,none⟩=some v→(w.putObj (σ.b r) o).cell? ⟨g,j,none⟩=some v:=fun g j v hg' hv=>by
  rw [cell_heap (hw g fun he=>(hF.dom g hg').2.1 r _ hr b0 he.symm)];exact hv
 have hy:YRel G b.F0 b.wB.heap.size σ ⟨m.S.set r .dead,m.nx,lo⟩ Y (w.putObj (σ.b r) o):=⟨fun g hg'=>⟨Nat.lt_of_lt_of_le (hF.dom g hg').1 hg.size,fun i s hi hb=>(hF.dom g hg').2.1 i s (hblk i s hi hb).1 hb,(hF.dom g hg').2.2⟩,fun i y hi=>⟨(hF.row i y hi).1,(hF.row i y hi).2.keep (hF.row i y hi).1 (Agree.refl _ _) (Nat.le_refl _) hFk fun ho hl=>by
   cases y <;> first | (cases ho;done) | skip
   exact hw _ fun he=>(hF.od i _ _ _ _ hi hl).2.2.2 r _ hr b0 he.symm⟩,fun i e z o' j hi hl=>by
  obtain ⟨h1,h2,h3,h4⟩:=hF.od i e z o' j hi hl
  exact ⟨Nat.lt_of_lt_of_le h1 hg.size,h2,h3,fun q s hq hb=>h4 q s (hblk q s hq hb).1 hb⟩,hF.odi⟩
 refine ⟨⟨fun i s hi=>?_,fun i s hi=>?_,fun i j s s' hi hj hb hb' he=>h.rel.inj i j s s' (hblk i s hi hb).1 (hblk j s' hj hb').1 hb hb' he,known_kept h.rel (fun q l hq=>hw q fun he=>by rw [←he,hq] at hap;cases hap),fun i s hi hb=>h.rel.apart i s (hblk i s hi hb).1 hb,fun q l hq=>Nat.lt_of_lt_of_le (h.rel.low q l hq) hg.size,h.rel.fresh⟩,
  h.nx,h.agree,h.nx1,h.agree1,h.base,h.goes.trans hg,fun q hq=>?_,fun i s hi hb=>h.own i s (hblk i s hi hb).1 hb,⟨G,hy⟩,h.ag,fun q d hq=>?_,fun i hi=>?_,h.klow⟩
 ·rcases hget i s hi with ⟨rfl,_⟩ | ⟨h1,h2⟩
  ·trivial
  ·exact (h.rel.row i s h1).keep (Agree.refl _ _) (h.rel.lt i s h1) (Nat.le_refl _) fun hsb=>hw _ (hother i s h1 hsb h2)
 ·rcases hget i s hi with ⟨_,rfl⟩ | ⟨h1,_⟩
  ·exact h.rel.lt i _ hr
  ·exact h.rel.lt i s h1
 ·rw [hw q fun he=>by have:=h.own r _ hr b0;omega]
  exact h.frame q hq
 ·have h1:=h.dfr q d hq
  rw [hw q fun he=>by obtain ⟨p,hp⟩:=hlp;rw [←he,h1] at hp;cases hp]
  exact h1
 ·obtain ⟨s,h1,h2⟩:=h.keep i hi
  refine ⟨s,?_,h2⟩
  show (m.S.set r .dead).get i=some s
  rw [T.get_set,if_neg (fun he=>by subst he;exact hn hi)]
  exact h1
end
section
variable {P:Program} {K:Nat→Option (List Value)} {s:St} {ρ:Rho} {Q:Post}
theorem busyM_ok {m m1:Mem} {i:Nat} (h:busyM m i=some m1):∃ p nt tm ps a b,m.S.get i=some (.loop .ready p nt tm ps a b)∧m1=⟨m.S.set i (.loop .busy p nt tm ps a b),m.nx,lower i m.lo⟩:=by
 unfold busyM at h
 split at h
 ·rename_i p nt tm ps a b hr;cases h;exact ⟨p,nt,tm,ps,a,b,hr,rfl⟩
 ·cases h
theorem doneM_ok {m m1:Mem} {i:Nat} {jump:Option Code} (h:doneM m i jump=some m1):∃ st p nt tm ps a b,m.S.get i=some (.loop st p nt tm ps a b)∧m1=⟨m.S.set i (.loop (bif jump.isNone then .ready else .done) jump nt tm ps a b),m.nx,lower i m.lo⟩:=by
 unfold doneM at h
 split at h
 ·rename_i st p nt tm ps a b hr;cases h;exact ⟨st,p,nt,tm,ps,a,b,hr,rfl⟩
 ·cases h
theorem overM_ok {m m1:Mem} {i:Nat} {pd:Option Code} (h:overM m i=some (pd,m1)):∃ st nt tm ps a b,m.S.get i=some (.loop st pd nt tm ps a b)∧st≠.busy∧m1=⟨m.S.set i .dead,m.nx,lower i m.lo⟩:=by
 unfold overM at h
 split at h
 ·cases h
 ·rename_i st pd' nt tm ps a b hne hr;cases h;exact ⟨st,nt,tm,ps,a,b,hr,fun e=>hne e,rfl⟩
 ·cases h
theorem sx_round {all:Array Oper} {o:Oper} {l:List Oper} {c:Call} {g:Operand} {i nt key:Nat} {p:Option Code} {tm0 tm':Tm} {ps:List Tmp} {ca cb:Code} (hc:s.cur = .ops all (o::l)) (hop:openB all s.tm o=false) (hw:wantW all s.tm o=true) (ho:o.op = .call c) (hg:c.callee = .value g)
  (hgi:ev s.tm g = .v (.c (.clo i))) (hrow:s.m.S.get i=some (.loop .ready p nt tm0 ps ca cb)) (hp:parW nt ps (c.args.toList.map (ev s.tm)) tm0=some tm')
  (k:Sx P K ⟨.code ca,[],tm',s.m,s.Y,nt,key⟩ ρ ⟨fun e tm1 ma Y1 ρ1=>e = .normal∧∃ mb,busyM ma i=some mb∧Sx P K ⟨.code cb,[],tm1,mb,Y1,nt,key⟩ ρ1 ⟨fun e tm2 mc Y2 ρ2=>∃ jump md s',jumpOf e=some jump∧doneM mc i jump=some md ∧
   putS ⟨s.cur,s.ks,s.tm,md,Y2,s.nt,s.key⟩ all o l (.ok (one (.raw (.bool jump.isNone))) md)=some s'∧Sx P K s' ρ2 Q,[]⟩,[]⟩):Sx P K s ρ Q:=by
 refine sx_und hc hop hw (fun c' hc'=>by rw [hc'] at ho;cases ho) fun F hF n b hB Qw hQ σ a w hA=>?_
 unfold execOp
 simp only [ho]
 unfold resolve
 rw [evs_map hA.tm c.args]
 simp only [hg,(hA.tm.ev a.defers g).1,hgi]
 obtain ⟨fn,tmps,df,hv,hsz,hT,hheap⟩:=hA.aw.rel.row i _ hrow
 have hlti:=hA.aw.rel.lt i _ hrow
 have hval:realW σ (.v (.c (.clo i))) = .func (.yield (σ.b i)) #[] #[]:=by simp only [realW,realV,realC,hv]
 rw [hval]
 show Und F P _ ((Instr.yield (σ.b i) (#[]++((c.args.toList.map (ev s.tm)).map (realW σ)).toArray)).run P w)
 generalize hargs:c.args.toList.map (ev s.tm)=args at hp
 have hal:∀ y∈args,W.lt s.m.nx y:=by rw [←hargs];exact evs_lt hA.tm c.args
 obtain ⟨hlen,tmps',hfold,hT',hsz'⟩:=par_ok (m:=s.m) ps args tm0 tm' tmps hp hT hsz hal
 have hy:=run_yield (P:=P) (args:=#[]++(args.map (realW σ)).toArray) hheap (by simp [hlen])
 rw [hy]
 intro n'
 have hzip:(ps.toArray.zip (#[]++(args.map (realW σ)).toArray)).foldl (fun tmps (t,a)=>tmps.setIfInBounds t a) tmps=tmps':=by
  rw [←hfold,←Array.foldl_toList]
  simp
 simp only
 rw [hzip]
 refine roundIn_of_wpIn (hF.fn fn) ?_
 have hFr:WF (F.inRound (σ.b i)):=⟨hF.fn,hF.depth,hF.alive⟩
 have hRB:RoundB (b.into σ s.m w) (F.inRound (σ.b i)):=fun g hg=>by cases hg;exact ⟨i,⟨_,hrow,rfl⟩,hlti,rfl⟩
 refine k (F.inRound (σ.b i)) hFr n' (b.into σ s.m w) hRB ⟨_,fun _ _ _=>False,fun _ _ _ h=>h⟩ ⟨?_,fun p hp=>by cases hp⟩ σ ⟨tmps',[]⟩ w ⟨hA.aw.into,hT',hsz',⟨[],rfl,List.nodup_nil,fun r hr=>by cases hr⟩⟩
 rintro e tm1 ma Y1 ρ1 key1 σ1 a1 w1 ⟨rfl,mb,hbm,k2⟩ hA1
 obtain ⟨p1,nt1,tmx,ps1,x1,y1,hrow1,rfl⟩:=busyM_ok hbm
 have hb1:σ1.b i=σ.b i:=hA1.aw.agree.b i hlti
 obtain ⟨fn1,tmps1,df1,hv1,hsz1',hT1',hheap1⟩:=hA1.aw.rel.row i _ hrow1
 rw [hb1] at hheap1
 have hbg:=run_beginRound (P:=P) hheap1 rfl
 refine ⟨_,hbg,?_⟩
 have k3:Step K σ1 ma w1 σ1 ⟨ma.S.set i (.loop .busy p1 nt1 tmx ps1 x1 y1),ma.nx,lower i ma.lo⟩ (w1.putObj (σ.b i) _) :=
  step_loop hA1.aw.rel hrow1 rfl rfl (lower_le _ _).1 (lower_le _ _).2 (goes_putM _ _ _) (fun b hb=>World.putObj_heap_other (by rw [←hb1];exact hb))
   ⟨fn1,tmps1,df1,by rw [hb1] at hv1 ⊢;exact hv1,hsz1',hT1',by rw [hb1];exact World.putObj_heap_same (heap_lt hheap1)⟩
 have hA2:=hA1.step k3 (a':=a1) (tm':=tm1) (hA1.tm.agree (Agree.refl _ _) (Nat.le_refl _)) hA1.nt rfl (.code cb) []
 refine k2 (F.inRound (σ.b i)) hFr n' (b.into σ s.m w) hRB ⟨_,fun _ _ _=>False,fun _ _ _ h=>h⟩ ⟨?_,fun p hp=>by cases hp⟩ σ1 a1 _ (hA2.move rfl rfl rfl rfl)
 rintro e tm2 mc Y2 ρ2 key2 σ2 a2 w2 ⟨jump,md,s',hj,hdm,hput,k4⟩ hA3
 obtain ⟨st,p2,nt2,tmy,ps2,x2,y2,hrow2,rfl⟩:=doneM_ok hdm
 have hb2:σ2.b i=σ.b i:=hA3.aw.agree.b i hlti
 obtain ⟨fn2,tmps2,df2,hv2,hsz2',hT2',hheap2⟩:=hA3.aw.rel.row i _ hrow2
 rw [hb2] at hheap2
 have fin:∃ v w',(Instr.endRound (σ.b i) jump).run P w2 = .ok v w'∧∃ v',Ending.returned v = .returned v'∧den F n P Qw s.ks (.ops all l) (a.put o.dst v') w':=by
  have hen:=run_endRound (P:=P) jump hheap2
  refine ⟨_,_,hen,_,rfl,?_⟩
  have k5:Step K σ2 mc w2 σ2 ⟨mc.S.set i (.loop (bif jump.isNone then .ready else .done) jump nt2 tmy ps2 x2 y2),mc.nx,lower i mc.lo⟩ (w2.putObj (σ.b i) _) :=
   step_loop hA3.aw.rel hrow2 rfl rfl (lower_le _ _).1 (lower_le _ _).2 (goes_putM _ _ _) (fun b hb=>World.putObj_heap_other (by rw [←hb2];exact hb))
    ⟨fn2,tmps2,df2,by rw [hb2] at hv2 ⊢;exact hv2,hsz2',hT2',by rw [hb2,cond_eq_ite];exact World.putObj_heap_same (heap_lt hheap2)⟩
  have hAw:=hA3.aw.step k5
  unfold putS at hput
  cases hpr:putR s.nt s.tm o.dst (.ok (one (.raw (.bool jump.isNone))) ⟨mc.S.set i (.loop (bif jump.isNone then .ready else .done) jump nt2 tmy ps2 x2 y2),mc.nx,lower i mc.lo⟩) with
  | no=>rw [hpr] at hput;cases hput
  | ok tm3 m3 =>
   rw [hpr] at hput
   cases hput
   obtain ⟨x',hx',hpk⟩:=putR_ok hpr
   cases hx'
   exact k4 F hF n b hB Qw hQ σ2 _ _ (hA.back hAw (hpk σ2 mc.nx a (hA.tm.agree hAw.agree hAw.nx) hA.nt trivial) (by rw [put_size];exact hA.nt) (put_defers _ _ _) _ _)
 cases e <;> first | (cases hj;done) | (cases hj;exact fin)
theorem sx_range {g:Operand} {ps:Array Tmp} {assign body:Code} {f:FuncId} {gs:List W} {fn:Func} {bf:Code} {key:Nat} (hc:s.cur = .code (.rangeFunc g ps assign body))
  (hf : calleeW (s.m.add (.loop .ready none s.nt s.tm ps.toList assign body)).1 (ev s.tm g) [one (.clo s.m.nx)] = some (f, gs)) (hfn : P.funcs[f]? = some fn) (hname : (fn.name == "runtime.NumGoroutine") = false) (hbody : fn.body = some bf) (hle : gs.length ≤ fn.ntmps)
  (k:Sx P K (startS bf fn.ntmps key gs (s.m.add (.loop .ready none s.nt s.tm ps.toList assign body)).1 s.Y) ρ (Ends P K fn fun _ m' Y' ρ'=>∃ pd m2 cur,overM m' s.m.nx=some (pd,m2)∧curOf pd=some cur∧Sx P K ⟨cur,s.ks,s.tm,m2,Y',s.nt,s.key⟩ ρ' Q)):Sx P K s ρ Q:=by
 intro F hF n b hB Qw hQ σ a w hA
 rw [hc]
 show (Code.rangeFunc g ps assign body).wpIn F n P (after F n P Qw s.ks) a w
 have hd:∀ {p:Prop},(F.depth.isSome=true→p):=fun hq=>by rw [hF.depth] at hq;cases hq
 refine wpIn_rangeFunc fun fid _=>?_
 have hR:=hA.aw.rel
 obtain ⟨rs,q1,q2,q3⟩:=hA.mks
 obtain ⟨lr,mark,w₁,he,hl,hgo,hold,df,hnew,hM1⟩:∃ (lr:Nat) (mark:List Deferred) (w₁:World),(Instr.enterLoop fid a.tmps ps assign body F.round).run P w = .ok (lr,mark) w₁∧w.heap.size≤lr∧Goes w w₁∧(∀ b,b<w.heap.size→w₁.heap[b]?=w.heap[b]?) ∧
   ∃ df,w₁.heap[lr]?=some (.loop { state := .ready,pending:=none,fn:=fid,tmps:=a.tmps,params:=ps,assign,body,defers:=df })∧MarksOk b.wC.heap.size { a with defers:=mark++a.defers } w₁:=by
  have hBs:b.wC.heap.size≤w.heap.size:=hA.aw.goes.size
  cases hro:F.round with
  | none =>
   refine ⟨_,_,_,run_enterLoop_outer fid a.tmps ps assign body,Nat.le_succ _,(goes_alloc w _).trans (goes_alloc _ _),fun b hb=>?_,w.heap.size,?_,w.heap.size::rs,by simp [q1],?_,fun r hrr=>?_⟩
   ·rw [alloc_old _ _ b (by simp;omega),alloc_old _ _ b hb]
   ·have:=World.alloc_heap_new (w.alloc (.deferred (some []))) (.loop { state := .ready,pending:=none,fn:=fid,tmps:=a.tmps,params:=ps,assign,body,defers:=w.heap.size })
    rwa [World.size_alloc] at this
   ·refine List.nodup_cons.2 ⟨fun hm=>?_,q2⟩
    have:=heap_lt (q3 _ hm).2
    omega
   ·rcases List.mem_cons.1 hrr with rfl | hrr
    ·exact ⟨hBs,by rw [alloc_old _ _ _ (by simp)];exact World.alloc_heap_new w _⟩
    ·obtain ⟨p1,p2⟩:=q3 r hrr
     have:=heap_lt p2
     exact ⟨p1,by rw [alloc_old _ _ _ (by simp;omega),alloc_old _ _ _ this];exact p2⟩
  | some l0 =>
   obtain ⟨i,r1,r2,r3⟩:=hB l0 hro
   obtain ⟨r0,h1,h2⟩:=hA.aw.keep i r1
   have h3:σ.b i=l0:=by rw [hA.aw.agree.b i r2,r3]
   obtain ⟨lp,hlp⟩:∃ lp,w.heap[l0]?=some (.loop lp):=by
    have:=hR.row i r0 h1
    cases r0 with
    | loop st p nt tm ps ca cb=>obtain ⟨fn,tmps,df,_,_,_,h4⟩:=this;rw [h3] at h4;exact ⟨_,h4⟩
    | _=>cases h2
   refine ⟨_,_,_,run_enterLoop_inner hlp fid a.tmps ps assign body,Nat.le_refl _,goes_alloc w _,fun b hb=>alloc_old _ _ b hb,lp.defers,World.alloc_heap_new w _,rs,by simpa using q1,q2,fun r hrr=>?_⟩
   obtain ⟨p1,p2⟩:=q3 r hrr
   exact ⟨p1,by rw [alloc_old _ _ _ (heap_lt p2)];exact p2⟩
 have k1:=step_enter hR hA.tm hA.nt fid ps assign body df lr hl hgo hold hnew
 have hag:=k1.agree
 have hA1:=hA.aw.step k1
 have hlt:Lt s.m.nx (s.m.add (.loop .ready none s.nt s.tm ps.toList assign body)).1.nx:=hR.ltnx
 obtain ⟨d,c1,c2,c4⟩:=callee_run (P:=P) hf k1.rel (fun y hy=>by simp at hy;subst hy;exact hlt)
 have hgv:a.eval g=realW (σ.set s.m.nx lr 0 0 (.func (.yield lr) #[] #[])) (ev s.tm g):=by rw [hag.realW (hA.tm.ev a.defers g).2];exact (hA.tm.ev a.defers g).1
 have hyv:realW (σ.set s.m.nx lr 0 0 (.func (.yield lr) #[] #[])) (one (.clo s.m.nx)) = .func (.yield lr) #[] #[]:=by simp [one,realW,realV,realC]
 refine ⟨lr,mark,w₁,d,w₁,f,_,w₁,he,?_,fun f' _=>hF.fn f',by rw [c2];exact callFunc_run ⟨fn,hfn,hname,by rw [hbody];rfl⟩,hd,(calls_of_sx hfn hbody hle k hF (n-1) hA1 c4).mono ?_⟩
 ·rw [List.map_cons,List.map_nil,hyv,←hgv] at c1
  have hcv:a.eval (.const (.func (.yield lr) #[] #[])) = .func (.yield lr) #[] #[]:=rfl
  simp only [resolve,rangeCall,List.map_toArray,List.map_cons,List.map_nil,hcv]
  exact c1
 ·rintro e' w₃ ⟨υ,x,m',Y',ρ',⟨pd,m2,cur,hov,hcur,k3⟩,rfl,hAw,hx⟩
  obtain ⟨st,nt',tm',ps',ca,cb,hrow,hst,rfl⟩:=overM_ok hov
  have hbl:υ.b s.m.nx=lr:=by rw [hAw.agree.b _ hlt];exact Env.set_b _ _ _ _ _ _
  obtain ⟨fn2,tmps2,df2,v1,v2,v3,v4⟩:=hAw.rel.row _ _ hrow
  rw [hbl] at v4
  have hend:=run_endLoop (P:=P) v4 hst
  show ∃ jump w₄,(Instr.endLoop lr).run P w₃ = .ok jump w₄∧_
  refine ⟨_,_,hend,?_⟩
  have hA2:=hA1.back hAw
  have hnl:¬b.L s.m.nx:=fun hh=>by
   obtain ⟨s',h1,_⟩:=hA.aw.keep _ hh
   have:=(hR.lt _ _ h1).lt
   omega
  have hA3:=hA2.over (lo:=lower s.m.nx m'.lo) hrow rfl hnl (o := .loop { state := .exhausted,pending:=pd,fn:=fn2,tmps:=tmps2,params:=ps'.toArray,assign:=ca,body:=cb,defers:=df2 })
  rw [hbl] at hA3
  have hagr:Agree s.m.nx σ υ:=hag.trans k1.nx hAw.agree
  have hnx:s.m.nx≤m'.nx:=Nat.le_trans k1.nx hAw.nx
  have hAt:At K b ⟨cur,s.ks,s.tm,⟨m'.S.set s.m.nx .dead,m'.nx,lower s.m.nx m'.lo⟩,Y',s.nt,s.key⟩ ρ' υ { a with defers:=mark++a.defers } (w₃.putObj lr (.loop { state := .exhausted,pending:=pd,fn:=fn2,tmps:=tmps2,params:=ps'.toArray,assign:=ca,body:=cb,defers:=df2 })):=by
   refine ⟨hA3,hA.tm.agree hagr hnx,hA.nt,?_⟩
   obtain ⟨rs,p1,p2,p3⟩:=hM1
   refine ⟨rs,p1,p2,fun r hrr=>⟨(p3 r hrr).1,?_⟩⟩
   have h3:=hAw.dfr r _ (p3 r hrr).2
   rw [World.putObj_heap_other]
   ·exact h3
   ·rintro rfl
    rw [h3] at v4
    cases v4
  have hgo2:=k3 F hF n b hB Qw hQ υ _ _ hAt
  unfold curOf at hcur
  split at hcur <;> first | (cases hcur;done) | skip
  ·cases hcur;exact hgo2
  ·cases hcur;exact wpIn_ret hgo2
  ·cases hcur;exact wpIn_exit hgo2
  ·cases hcur;exact wpIn_goto hgo2
end
end
end Go.Vc
