import Derived.RangeFuncIn
import Derived.RangeFuncLeaves
import Derived.RangeFuncRecord
import Derived.TacticsIn
import Derived.OrdersIn
import Derived.Test.YtneooimijbfmgaaGreatSsAC
set_option linter.unusedVariables false
set_option linter.unusedSimpArgs false
set_option linter.unusedSectionVars false
noncomputable section
namespace Go.Vc
variable [Holes]
structure WF (F:Fence):Prop where
 fn:∀ f,F.fn f
 depth:F.depth=none
 alive:F.alive=false
def Und (F:Fence) (P:Program) (Φ:Value→World→Prop):Result Next→Prop
 | .ok (.value v) w=>Φ v w
 | .ok .skip w=>Φ undef w
 | .ok (.enter f args) w=>∀ n,CallsIn F n P f args w fun e w'=>∃ v,e = .returned v∧Φ v w'
 | .ok (.round l f tmps assign body) w=>∀ n,RoundIn F n P l f tmps assign body w fun e w'=>∃ v,e = .returned v∧Φ v w'
 | _=>False
def CanEnter (P : Program) (f : FuncId) : Prop := ∃ fn, P.funcs[f]? = some fn ∧ (fn.name == "runtime.NumGoroutine") = false ∧ fn.body.isSome = true
def MarksOk (B:Nat) (a:Act) (w:World):Prop:=∃ rs:List Nat,a.defers=rs.map (fun r=>({ target := .collected r,args:=#[] }:Deferred))∧rs.Nodup∧∀ r∈rs,B≤r∧w.heap[r]?=some (.deferred (some []))
section
variable {P:Program} {K:Nat→Option (List Value)} {σ τ:Env} {m m1:Mem} {w w1:World} {F:Fence}
theorem Step.other (k:Step K σ m w τ m1 w1) (hr:Rel K σ m w) {b:Nat} {o:Obj} (hb:w.heap[b]?=some o) (h1:∀ c e f,o≠.cells c e f) (h2:∀ l,o≠.loop l) (h3:∀ es c,o≠.map es c):w1.heap[b]?=some o:=by
 rw [k.frame b (Bw hb) (fun i r hi hrb he=>?_),hb]
 exfalso
 have:=hr.row i r hi
 cases r with
 | cells e q cs=>obtain ⟨arr,a1,_⟩:=this;rw [he,hb] at a1;cases a1;exact h1 _ _ _ rfl
 | loop st p nt tm ps a b=>obtain ⟨fn,tmps,df,_,_,_,a4⟩:=this;rw [he,hb] at a4;cases a4;exact h2 _ rfl
 | map k es c=>have this:w.heap[σ.b i]?=_:=this;rw [he,hb] at this;cases this;exact h3 _ _ rfl
 | fn=>cases hrb
 | val=>cases hrb
 | dead=>cases hrb
theorem MarksOk.step {B:Nat} {a:Act} (h:MarksOk B a w) (hr:Rel K σ m w) (k:Step K σ m w τ m1 w1) {tmps:Array Value}:MarksOk B { a with tmps:=tmps } w1:=by
 obtain ⟨rs,h1,h2,h3⟩:=h
 exact ⟨rs,h1,h2,fun r hrr=>⟨(h3 r hrr).1,k.other hr (h3 r hrr).2 (fun _ _ _=>by simp) (fun _=>by simp) (fun _ _=>by simp)⟩⟩
theorem Dr {f:Nat} {args:Array Value} (h:CanEnter P f):(callFunc f args).run P w = .ok (.enter f args) w:=by
 obtain ⟨fn,hf,hn,hb⟩:=h
 have hn' : ¬ fn.name = "runtime.NumGoroutine" := by simpa using hn
 have hb':¬fn.body=none:=fun e=>by rw [e] at hb;cases hb
 simp [callFunc,hf,hn',hb']
theorem Ir {a:Act} {tm:Tm} (h:TmOk σ m.nx a.tmps tm) (xs:Array Operand):xs.map a.eval=((xs.toList.map (ev tm)).map (realW σ)).toArray:=by
 apply Array.ext'
 simp only [Array.toList_map,List.map_map,List.toList_toArray]
 refine List.map_congr_left fun x _=>?_
 exact (h.ev a.defers x).1
theorem Ny {a:Act} {tm:Tm} (h:TmOk σ m.nx a.tmps tm) (xs:Array Operand):∀ x∈xs.toList.map (ev tm),W.lt m.nx x:=fun x hx=>by
 obtain ⟨y,_,rfl⟩:=List.mem_map.1 hx
 exact (h.ev a.defers y).2
theorem Adz {b:Builtin} {ts:Array TypeId} {xs:List W} {ty:TypeId} {y:W} {cs:Array Bool} (h:rawB P b ts (xs.mapM W.raw?) ty=some y) (n:Nat) :
  (builtin b ts ty cs (xs.map (realW σ)).toArray).run P w = .ok (.value (realW σ y)) w∧y.lt n:=by
 unfold rawB at h
 split at h
 ·rename_i vs hv
  rw [cond_eq_ite] at h
  split at h
  ·rename_i hp
   split at h
   ·rename_i v hv'
    cases h
    rw [Agl xs vs hv,Et]
    refine ⟨?_,Nl _ _⟩
    have:=Fg w _ _ hv'
    rw [←this]
    cases b <;> first | rfl | (exact absurd hp (by simp [pureB]))
   ·cases h
  ·cases h
 ·cases h
theorem Az2 {t ty:Nat} {x:W} {n:Nat} (h:lenOf P t x=some n):(Builtin.len_ #[t] ty #[realW σ x]).run P w = .ok (goInt n) w:=by
 unfold lenOf at h
 split at h
 ·rename_i r o k z c e hu
  cases h
  have:∃ q,realW σ (.v (.c (.sl r o n z c))) = .slice (some ⟨σ.b r,σ.o r+o,none⟩) n q:=by cases c <;> exact ⟨_,rfl⟩
  obtain ⟨q,hq⟩:=this
  rw [hq]
  simp [Builtin.len_,run_underlying hu]
 ·rename_i r p o z e hu
  cases h
  show (Builtin.len_ #[t] ty #[.slice (some _) 0 _]).run P w=_
  simp [Builtin.len_,run_underlying hu]
 ·rename_i r o a hu
  split at h
  ·rename_i k e hu2
   cases h
   show (Builtin.len_ #[t] ty #[.pointer _]).run P w=_
   simp [Builtin.len_,run_underlying hu,run_underlying hu2]
  ·cases h
 ·rename_i cs k e hu
  cases h
  show (Builtin.len_ #[t] ty #[.agg _]).run P w=_
  simp [Builtin.len_,run_underlying hu]
 ·cases h
theorem A0p {t ty:Nat} {x:W} {n:Nat} (h:capOf P t x=some n):(Builtin.cap_ #[t] ty #[realW σ x]).run P w = .ok (goInt n) w:=by
 unfold capOf at h
 split at h
 ·rename_i r o k z c e hu
  cases h
  show (Builtin.cap_ #[t] ty #[.slice (some _) k n]).run P w=_
  simp [Builtin.cap_,run_underlying hu]
 ·cases h
theorem Ajx (h:Rel K σ m w) {b:Builtin} {ts:Array TypeId} {xs:List W} {ty:TypeId} {y:W} {cs:Array Bool} (hb:builtinW P b ts xs (xs.mapM W.raw?) ty m = .ok y m1) (hl:∀ x∈xs,W.lt m.nx x) :
  ∃ τ w',(builtin b ts ty cs (xs.map (realW σ)).toArray).run P w = .ok (.value (realW τ y)) w'∧Step K σ m w τ m1 w'∧y.lt m1.nx:=by
 have one:∀ {ts:Array TypeId} {t:Nat},ts.toList=[t]→ts=#[t]:=fun h=>Array.ext' h
 have two:∀ {ts:Array TypeId} {t u:Nat},ts.toList=[t,u]→ts=#[t,u]:=fun h=>Array.ext' h
 unfold builtinW at hb
 split at hb
 ·split at hb
  ·rename_i t u s x hts
   have:=two hts;subst this
   obtain ⟨τ,w',h1,h2,h3⟩:=Ao9 (ty:=ty) h hb (hl s (by simp))
   refine ⟨τ,w',?_,h2,h3⟩
   show (do pure (.value (←Builtin.append_ #[t,u] ty #[realW σ s,realW σ x])):Sem Next).run P w=_
   rw [Sem.run_bind,h1];rfl
  ·cases hb
 ·split at hb
  ·rename_i t u s x hts
   have:=two hts;subst this
   obtain ⟨w',h1,h2,h3⟩:=Avw (xT:=u) (ty:=ty) h hb
   refine ⟨σ,w',?_,h2,h3⟩
   show (do pure (.value (←Builtin.copy_ #[t,u] ty #[realW σ s,realW σ x])):Sem Next).run P w=_
   rw [Sem.run_bind,h1];rfl
  ·cases hb
 ·split at hb
  ·rename_i t x hts
   have:=one hts;subst this
   obtain ⟨w',h1,h2,h3⟩:=Ayu (ty:=ty) h hb
   refine ⟨σ,w',?_,h2,h3⟩
   show (do pure (.value (←Builtin.clear_ #[t] ty #[realW σ x])):Sem Next).run P w=_
   rw [Sem.run_bind,h1];rfl
  ·cases hb
 ·split at hb
  ·rename_i t x hts
   have:=one hts;subst this
   obtain ⟨hb2,rfl⟩:=In hb
   unfold intOr at hb2
   split at hb2
   ·rename_i n hn
    cases hb2
    refine ⟨σ,w,?_,Step.refl h,trivial⟩
    show (do pure (.value (←Builtin.len_ #[t] ty #[realW σ x])):Sem Next).run P w=_
    rw [Sem.run_bind,Az2 hn];rfl
   ·obtain ⟨h1,h2⟩:=Adz (σ:=σ) (w:=w) (cs:=cs) hb2 m1.nx
    exact ⟨σ,w,h1,Step.refl h,h2⟩
  ·cases hb
 ·split at hb
  ·rename_i t x hts
   have:=one hts;subst this
   obtain ⟨hb2,rfl⟩:=In hb
   unfold intOr at hb2
   split at hb2
   ·rename_i n hn
    cases hb2
    refine ⟨σ,w,?_,Step.refl h,trivial⟩
    show (do pure (.value (←Builtin.cap_ #[t] ty #[realW σ x])):Sem Next).run P w=_
    rw [Sem.run_bind,A0p hn];rfl
   ·obtain ⟨h1,h2⟩:=Adz (σ:=σ) (w:=w) (cs:=cs) hb2 m1.nx
    exact ⟨σ,w,h1,Step.refl h,h2⟩
  ·cases hb
 ·obtain ⟨hb2,rfl⟩:=In hb
  obtain ⟨h1,h2⟩:=Adz (σ:=σ) (w:=w) (cs:=cs) hb2 m1.nx
  exact ⟨σ,w,h1,Step.refl h,h2⟩
end
end Go.Vc

namespace Go.Vc
variable [Holes]
section
variable {P:Program} {K:Nat→Option (List Value)} {σ τ:Env} {m m1:Mem} {w w1:World} {F:Fence} {Φ:Value→World→Prop}
theorem Aay {s:Sem Value} {v:Value} {w':World} (h:s.run P w = .ok v w') (hΦ:Φ v w'):Und F P Φ ((do pure (.value (←s)):Sem Next).run P w):=by
 rw [Sem.run_bind,h];exact hΦ
theorem Bf {s:Sem Value} {x:W} (h:Does P K σ m w s x m1) (hΦ:∀ τ w',Step K σ m w τ m1 w'→x.lt m1.nx→Φ (realW τ x) w'):Und F P Φ ((do pure (.value (←s)):Sem Next).run P w):=by
 obtain ⟨τ,w',h1,h2,h3⟩:=h
 exact Aay h1 (hΦ τ w' h2 h3)
theorem Al8 {a:Act} {tm:Tm} (hT:TmOk σ m.nx a.tmps tm) {x:Option Operand} {v:Option Value} (h:rawO tm x=some v):x.map a.eval=v:=by
 unfold rawO at h
 split at h
 ·rename_i o
  split at h
  ·rename_i u hu
   cases h
   rw [Option.map_some,(hT.ev a.defers o).1,Fs hu]
  ·cases h
 ·cases h;rfl
theorem Dx {a:Act} {tm:Tm} (hT:TmOk σ m.nx a.tmps tm) (x:Option Operand):x.map a.eval=(x.map (ev tm)).map (realW σ):=by
 cases x with
 | none=>rfl
 | some o=>rw [Option.map_some,Option.map_some,Option.map_some,(hT.ev a.defers o).1]
theorem Aej {a:Act} {tm:Tm} (hT:TmOk σ m.nx a.tmps tm) (l:Array (Nat×Operand)):(l.map fun (i,x)=>(i,a.eval x))=((evs tm l).map fun p=>(p.1,realW σ p.2)).toArray:=by
 apply Array.ext'
 unfold evs
 simp only [Array.toList_map,List.map_map,List.toList_toArray]
 refine List.map_congr_left fun x _=>?_
 obtain ⟨i,x⟩:=x
 show (i,a.eval x)=(i,realW σ (ev tm x))
 rw [(hT.ev a.defers x).1]
theorem Anw {a:Act} {tm:Tm} (hT:TmOk σ m.nx a.tmps tm) (l:Array (Nat×Operand)):∀ p∈evs tm l,W.lt m.nx p.2:=fun p hp=>by
 unfold evs at hp
 obtain ⟨⟨i,x⟩,_,rfl⟩:=List.mem_map.1 hp
 exact (hT.ev a.defers x).2
theorem Ce (h:Rel K σ m w) {x:Option W} {y:W} {s:Sem Value} (hp:purW x m = .ok y m1) (hs:x=some y→s.run P w = .ok (realW σ y) w∧y.lt m.nx):Does P K σ m w s y m1:=by
 obtain ⟨h1,rfl⟩:=In hp
 exact Does.pure h (hs h1)
theorem Aup {a:Act} {tm:Tm} (hT:TmOk σ m.nx a.tmps tm) {c x y:Operand} {z:W} (h:pickW tm c x y=some z):(do pure (.value (if ←asBool (a.eval c) then a.eval x else a.eval y)):Sem Next).run P w = .ok (.value (realW σ z)) w∧z.lt m.nx:=by
 unfold pickW at h
 split at h
 ·rename_i b hb
  cases h
  have hc:a.eval c = .bool b:=by rw [(hT.ev a.defers c).1,hb];rfl
  rw [hc]
  cases b
  ·exact ⟨by simp [asBool,(hT.ev a.defers y).1],(hT.ev a.defers y).2⟩
  ·exact ⟨by simp [asBool,(hT.ev a.defers x).1],(hT.ev a.defers x).2⟩
 ·cases h
theorem Aq4 {o:Oper} {a:Act} {tm:Tm} {x:W} (hc:∀ c,o.op≠.call c) (ho:opW P K o.op o.type tm m = .ok x m1) (h:Rel K σ m w) (hT:TmOk σ m.nx a.tmps tm)
  (hΦ:∀ τ w',Step K σ m w τ m1 w'→x.lt m1.nx→Φ (realW τ x) w'):Und F P Φ ((execOp a.eval o).run P w):=by
 have E:∀ p,a.eval p=realW σ (ev tm p):=fun p=>(hT.ev a.defers p).1
 have L:∀ p,W.lt m.nx (ev tm p):=fun p=>(hT.ev a.defers p).2
 unfold execOp
 revert ho
 cases hop:o.op <;> intro ho <;> simp only [opW] at ho <;> dsimp only
 case move p=>cases ho;rw [E p];exact hΦ σ w (Step.refl h) (L p)
 case assign p=>cases ho;rw [E p];exact hΦ σ w (Step.refl h) (L p)
 case pick c p q =>
  obtain ⟨h1,rfl⟩:=In ho
  obtain ⟨h2,h3⟩:=Aup (P:=P) (w:=w) hT h1
  rw [h2]
  exact hΦ σ w (Step.refl h) h3
 case alloc e=>exact Bf (Asd h ho) hΦ
 case box e p=>simp only [E p];exact Bf (Ayv h ho (L p)) hΦ
 case build t ps=>simp only [Aej hT];exact Bf (Ce h ho fun hx=>Ahu hx (Anw hT ps)) hΦ
 case buildSlice t n ps=>simp only [Aej hT];exact Bf (Zu h ho (Anw hT ps)) hΦ
 case load t p =>
  simp only [E p]
  exact Bf (Ce h ho fun hx=>Ad8 h hx (L p)) hΦ
 case store t p q =>
  simp only [E p,E q]
  unfold stW at ho
  split at ho
  ·rename_i m2 hs
   cases ho
   obtain ⟨w',h1,h2⟩:=Aqg (P:=P) h hs (L q)
   rw [Sem.run_bind,h1]
   exact hΦ σ w' h2 (Bt _)
  ·cases ho
 case nilCheck p =>
  obtain ⟨h1,rfl⟩:=In ho
  obtain ⟨h2,h3⟩:=Qz (P:=P) h h1 (L p)
  have:=h3 o p a.eval hop (E p)
  unfold execOp at this
  simp only [hop] at this
  rw [this]
  exact hΦ σ w (Step.refl h) (by rw [h2];exact L p)
 case binOp op t p q u=>simp only [E p,E q];exact Bf (Ce h ho fun hx=>Av5 h hx) hΦ
 case unOp op t p=>simp only [E p];exact Bf (Ce h ho fun hx=>un_ok hx _) hΦ
 case convert s d p=>simp only [E p];exact Bf (Ce h ho fun hx=>Arz h hx) hΦ
 case makeInterface t p=>simp only [E p];exact Bf (Ark h ho (L p)) hΦ
 case makeFunc f first caps =>
  simp only [Ir hT]
  cases ho
  refine Aay (s:=Instr.makeFunc f _ _) rfl ?_
  have:=hΦ _ w (Avl h (Ny hT first) (Ny hT caps)) h.ltnx
  simpa [one,realW,realV,realC] using this
 case makeSlice t p q=>simp only [E p,E q];exact Bf (Ab0 h ho) hΦ
 case slice t p lo hi mx =>
  obtain ⟨h1,rfl⟩:=In ho
  refine Bf (Does.pure h ?_) hΦ
  unfold sliceOp at h1
  split at h1
  ·rename_i v hv
   split at h1
   ·rename_i l hh hl hhh
    rw [E p,hv,Al8 hT hl,Al8 hT hhh]
    exact Yf h1 _
   ·cases h1
  ·rw [E p,Dx hT,Dx hT,Dx hT]
   exact Aqk h h1 (L p)
 case fieldAddr t p f =>
  simp only [E p]
  exact Bf (Ce h ho fun hx=>Nn hx (L p)) hΦ
 case field t p f=>simp only [E p];exact Bf (Ce h ho fun hx=>Arq hx (L p)) hΦ
 case indexAddr t p q =>
  simp only [E p,E q]
  refine Bf ?_ hΦ
  refine Ce h ho fun hx=>?_
  unfold indexAddrOp at hx
  split at hx
  ·rename_i u hu
   split at hx
   ·rename_i v hv
    rw [hu,Fs hv]
    exact Yf hx _
   ·cases hx
  ·exact Ab4 hx (L p)
 case index t p q=>simp only [E p,E q];exact Bf (Ce h ho fun hx=>Arj hx (L p)) hΦ
 case extract p i=>simp only [E p];exact Bf (Ce h ho fun hx=>Hs hx (L p)) hΦ
 case typeAssert p t0 t ok=>simp only [E p];exact Bf (Ce h ho fun hx=>Ao8 h hx) hΦ
 case call c=>exact absurd hop (hc c)
 case makeMap t r =>
  obtain ⟨rfl,hd⟩:=Ajc (P:=P) h ho
  exact Bf hd hΦ
 case lookup t p q ok=>simp only [E p,E q];exact Bf (Ce h ho fun hx=>Amt h hx) hΦ
 case mapEntry t p q =>
  simp only [E p,E q]
  obtain ⟨w',h1,h2,h3⟩:=Ad7 (P:=P) h ho
  exact Bf ⟨σ,w',h1,h2,h3⟩ hΦ
 case mapUpdate t p q r =>
  simp only [E p,E q,E r]
  obtain ⟨w',h1,h2,rfl⟩:=Abz (P:=P) h ho
  rw [Sem.run_bind,h1]
  exact hΦ σ w' h2 (Bt _)
 case entryStore t p q r =>
  simp only [E p,E q,E r]
  obtain ⟨w',h1,h2,rfl⟩:=Yz (P:=P) (t:=t) h ho
  rw [Sem.run_bind,h1]
  exact hΦ σ w' h2 (Bt _)
 all_goals cases ho
end
end Go.Vc

namespace Go.Vc
variable [Holes]
section
variable {P:Program} {K:Nat→Option (List Value)} {σ τ:Env} {m m1:Mem} {w w1:World} {F:Fence} {Φ:Value→World→Prop}
theorem Aex {o:Oper} {c:Call} {a:Act} {tm:Tm} {x:W} (hop:o.op = .call c) (ho:callOp P tm m c o.type = .ok x m1) (h:Rel K σ m w) (hT:TmOk σ m.nx a.tmps tm)
  (hΦ:∀ τ w',Step K σ m w τ m1 w'→x.lt m1.nx→Φ (realW τ x) w'):Und F P Φ ((execOp a.eval o).run P w):=by
 unfold execOp
 simp only [hop]
 unfold callOp at ho
 unfold resolve
 rw [Ir hT c.args]
 split at ho
 ·rename_i b hcal
  simp only [hcal]
  have key:∀ cs,Und F P Φ ((builtin b c.argTypes o.type cs (((c.args.toList.map (ev tm)).map (realW σ)).toArray)).run P w):=fun cs=>by
   obtain ⟨τ,w',h1,h2,h3⟩:=Ajx (cs:=cs) h ho (Ny hT c.args)
   rw [h1]
   exact hΦ τ w' h2 h3
  simp only [Sem.run_bind,Sem.run_pure,Result.andThen_ok]
  exact key _
 ·cases ho
theorem Ass {o:Oper} {a:Act} {tm:Tm} {x:W} (ho:opW P K o.op o.type tm m = .ok x m1) (h:Rel K σ m w) (hT:TmOk σ m.nx a.tmps tm)
  (hΦ:∀ τ w',Step K σ m w τ m1 w'→x.lt m1.nx→Φ (realW τ x) w'):Und F P Φ ((execOp a.eval o).run P w):=by
 by_cases hc:∃ c,o.op = .call c
 ·obtain ⟨c,hc⟩:=hc
  rw [hc] at ho
  simp only [opW] at ho
  exact Aex hc ho h hT hΦ
 ·exact Aq4 (fun c hq=>hc ⟨c,hq⟩) ho h hT hΦ
theorem Li {a:Act} {tm:Tm} (hT:TmOk σ m.nx a.tmps tm) (ops:Array Oper) (o:Oper) (hop:openB ops tm o=false):Region.wanted o (yielded ops a.tmps)=wantW ops tm o:=by
 unfold Region.wanted wantW
 cases hg:o.guard with
 | none=>rfl
 | some g =>
  obtain ⟨j,b⟩:=g
  simp only
  unfold yielded
  unfold openB at hop
  rw [hg] at hop
  simp only at hop
  cases hd:(ops[j]?).bind (·.dst) with
  | none=>rfl
  | some d =>
   simp only [Option.bind_some]
   rw [hd] at hop
   simp only at hop
   have hget:=hT.get d
   rw [Array.getD_eq_getD_getElem?] at hget
   rcases Nat.lt_or_ge d a.tmps.size with hlt | hge
   ·rw [Array.getElem?_eq_getElem hlt] at hget ⊢
    rw [Option.getD_some] at hget
    rw [hget]
    cases hx:tm.get d with
    | t l=>rfl
    | v y =>
     cases y with
     | a cs=>rfl
     | c z =>
      cases z with
      | raw v=>cases v <;> first | rfl | (rename_i q;cases q <;> cases b <;> rfl)
      | sb q=>rw [hx] at hop;cases hop
      | sl r o n z c=>cases c <;> rfl
      | clo i =>
       have hh:(∃ f p q,realC σ (.clo i) = .func f p q)∨realC σ (.clo i) = .nilFunc:=by
        simp only [realC]
        split
        ·exact .inl ⟨_,_,_,rfl⟩
        ·exact .inr rfl
       rw [show realW σ (.v (.c (.clo i)))=realC σ (.clo i) from rfl]
       rcases hh with ⟨f,p,q,hh⟩ | hh <;> rw [hh] <;> rfl
      | fz i =>
       have hh:(∃ a n c,realC σ (.fz i) = .slice a n c)∨realC σ (.fz i) = .nilFunc:=by
        simp only [realC]
        split
        ·exact .inl ⟨_,_,_,rfl⟩
        ·exact .inr rfl
       rw [show realW σ (.v (.c (.fz i)))=realC σ (.fz i) from rfl]
       rcases hh with ⟨f,p,q,hh⟩ | hh <;> rw [hh] <;> rfl
      | _=>rfl
   ·rw [Array.getElem?_eq_none hge] at hget ⊢
    have hb:isB (tm.get d) b=false:=by
     unfold isB
     split
     ·rename_i c hc
      rw [hc] at hget
      cases hget
     ·rfl
    rw [hb];rfl
theorem Asf {n:Nat} {o:Oper} {a:Act} {next:Act→World→Prop} {Q:Exit→Act→World→Prop} (hF:WF F) (hnd:∀ c,o.op≠.defer c) (h:Und F P (fun v w'=>next (a.put o.dst v) w') ((execOp a.eval o).run P w)):o.wpIn F n P a w next Q:=by
 have hsem:o.semAt F.round a.eval=execOp a.eval o:=by
  unfold Oper.semAt
  cases hr:F.round with
  | none=>rfl
  | some l =>
   cases hop:o.op with
   | defer c=>exact absurd hop (hnd c)
   | _=>rfl
 refine ⟨fun f _=>hF.fn f,?_⟩
 rw [hsem]
 have hd:∀ {p:Prop},(F.depth.isSome=true→p):=fun hq=>by rw [hF.depth] at hq;cases hq
 revert h
 cases (execOp a.eval o).run P w with
 | halt=>exact fun h=>h.elim
 | ok x w' =>
  cases x with
  | value v=>exact fun h=>h
  | skip=>exact fun h=>h
  | enter f args =>
   intro h
   refine ⟨hd,(h (n-1)).mono ?_⟩
   rintro e w2 ⟨v,rfl,hv⟩
   exact hv
  | round l f tmps assign body =>
   intro h
   refine ⟨hd,(h (n-1)).mono ?_⟩
   rintro e w2 ⟨v,rfl,hv⟩
   exact hv
  | _=>exact fun h=>h.elim
theorem Bz (a:Act) (d:Option Tmp) (v:Value):(a.put d v).tmps.size=a.tmps.size:=by cases d <;> simp [Act.put]
theorem Bd (a:Act) (d:Option Tmp) (v:Value):(a.put d v).defers=a.defers:=by cases d <;> rfl
theorem Ei {nt:Nat} {tm tm1:Tm} {d:Option Tmp} {r:R1} (h:putR nt tm d r = .ok tm1 m1):∃ x,r = .ok x m1∧∀ (σ:Env) (n:Nat) (a:Act),TmOk σ n a.tmps tm→a.tmps.size=nt→x.lt n→TmOk σ n (a.put d (realW σ x)).tmps tm1:=by
 cases r with
 | no=>cases h
 | ok x m2 =>
  cases d with
  | none=>cases h;exact ⟨x,rfl,fun σ n a hT _ _=>hT⟩
  | some d =>
   have h':(Bool.rec .no (.ok (tm.set d x) m2) (Nat.blt d nt):R2) = .ok tm1 m1:=h
   cases hb:Nat.blt d nt with
   | false=>rw [hb] at h';cases h'
   | true =>
    rw [hb] at h'
    cases h'
    exact ⟨x,rfl,fun σ n a hT hs hx=>hT.set hx (by rw [hs];exact Nat.le_of_ble_eq_true hb)⟩
end
section
variable {P:Program} {K:Nat→Option (List Value)} {σ τ:Env} {m m1:Mem} {w w1:World} {F:Fence} {n:Nat} {Q:Exit→Act→World→Prop} {a:Act}
def LoopAt (F:Fence) (n:Nat) (P:Program) (c:Code) (Q:Exit→Act→World→Prop) (a:Act) (w:World):Prop :=
 ∀ (b:Frame) (k:List Item) (cs:List Frame),b.roundOf=F.round→F.fn b.fn→F.room (cs.length+1+n) →
  ∃ e a' w',Q e a' w'∧ArrivesIn (Machine.fenced P F) P (lone (b.atR a (.code c::.inLoop c::k)) cs w) b k cs e a' w'
theorem Io {c:Code} (h:c.wpIn F n P (Exit.then (LoopAt F n P c Q) Q) a w):LoopAt F n P c Q a w:=by
 intro b k cs hro hb hr
 obtain ⟨e,a₁,w₁,hq,harr⟩:=h b (.inLoop c::k) cs hro hb hr
 cases e with
 | normal =>
  obtain ⟨e₂,a₂,w₂,hq₂,harr₂⟩:=hq b k cs hro hb hr
  exact ⟨e₂,a₂,w₂,hq₂, .of_steps (StepsIn.trans harr (.one (fenced_calm hb hr rfl) stepR_inLoop)) harr₂⟩
 | exit id=>exact ⟨_,a₁,w₁,hq, .pass (x := .inLoop c) rfl (fun _ _=>.inl (by simp)) harr⟩
 | goto l=>exact ⟨_,a₁,w₁,hq, .pass (x := .inLoop c) rfl (fun _ _=>.inl (by simp)) harr⟩
 | ret=>exact ⟨_,a₁,w₁,hq, .pass (x := .inLoop c) rfl (fun _ _=>.inl (by simp)) harr⟩
 | panic ch=>exact ⟨_,a₁,w₁,hq, .pass (x := .inLoop c) rfl (fun _ _=>.inl (by simp)) harr⟩
 | outgrown=>exact ⟨_,a₁,w₁,hq, .pass (x := .inLoop c) rfl (fun _ _=>.inl (by simp)) harr⟩
theorem Pc {c:Code} (h:LoopAt F n P c Q a w):(Code.loop c).wpIn F n P Q a w:=by
 intro b k cs hro hb hr
 obtain ⟨e,a₁,w₁,hq,harr⟩:=h b k cs hro hb hr
 exact ⟨e,a₁,w₁,hq, .of_steps (.one (fenced_calm hb hr rfl) stepR_loop) harr⟩
theorem Cw {b:Frame} {k:List Item} {cs:List Frame} {c:Code}:step P (lone (b.atR a (.code (.scope c)::k)) cs w) = .next (lone (b.atR a (.code c::.inScope c::k)) cs w) :=
 step_lone_go (by simp [stepG,stepG.exec,Frame.atR])
theorem Uh {b:Frame} {k:List Item} {cs:List Frame} {c:Code}:step P (lone (b.atR a (.inScope c::k)) cs w) = .next (lone (b.atR a k) cs w) :=
 step_lone_go (by simp [stepG,stepG.exec,Frame.atR])
theorem Eb {b:Frame} {k:List Item} {cs:List Frame} {M:Machine} {c:Code} {e:Exit} {a':Act} {w':World} (hb:F.fn b.fn) (hr:F.room (cs.length+1+n)) (he:∀ l,e = .goto l→findLabel c l=none)
  (h:ArrivesIn (Machine.fenced P F) P M b (.inScope c::k) cs e a' w'):ArrivesIn (Machine.fenced P F) P M b k cs e a' w':=by
 cases e with
 | normal=>exact StepsIn.trans h (.one (fenced_calm hb hr rfl) Uh)
 | exit id=>exact ⟨fun k' hk=>h.1 k' (by simpa [exitTo] using hk),fun hr' hk=>h.2 hr' (by simpa [exitTo] using hk)⟩
 | goto l =>
  have hl:=he l rfl
  have hg:gotoIn l (.inScope c::k)=gotoIn l k:=by simp [gotoIn,hl]
  exact ⟨fun k' hk=>h.1 k' (by rw [hg];exact hk),fun hr' hk=>h.2 hr' (by rw [hg];exact hk)⟩
 | ret=>exact h
 | panic ch=>exact h
 | outgrown=>exact h
def ScopeQ (F:Fence) (n:Nat) (P:Program) (c:Code) (Q:Exit→Act→World→Prop):Exit→Act→World→Prop
 | .goto l,a,w=>match findLabel c l with
  | some rest=>rest.wpIn F n P (Exit.noGoto Q) a w
  | none=>Q (.goto l) a w
 | e,a,w=>Q e a w
theorem Ac5 {c:Code} (h:c.wpIn F n P (ScopeQ F n P c Q) a w):(Code.scope c).wpIn F n P Q a w:=by
 intro b k cs hro hb hr
 obtain ⟨e,a₁,w₁,hq,harr⟩:=h b (.inScope c::k) cs hro hb hr
 have h0:(lone (b.atR a (.code (.scope c)::k)) cs w).fenced P F:=fenced_calm hb hr rfl
 have plain:∀ e,(∀ l,e = .goto l→findLabel c l=none)→Q e a₁ w₁→ArrivesIn (Machine.fenced P F) P (lone (b.atR a (.code c::.inScope c::k)) cs w) b (.inScope c::k) cs e a₁ w₁ →
   ∃ e a' w',Q e a' w'∧ArrivesIn (Machine.fenced P F) P (lone (b.atR a (.code (.scope c)::k)) cs w) b k cs e a' w':=fun e he hq harr =>
  ⟨e,a₁,w₁,hq, .of_steps (.one h0 Cw) (Eb hb hr he harr)⟩
 cases e with
 | goto l =>
  cases hl:findLabel c l with
  | none =>
   simp only [ScopeQ,hl] at hq
   exact plain _ (fun l' e=>by cases e;exact hl) hq harr
  | some rest =>
   simp only [ScopeQ,hl] at hq
   have hg:gotoIn l (.inScope c::k)=some (.code rest::.inScope c::k):=by simp [gotoIn,hl]
   obtain ⟨e₂,a₂,w₂,hq₂,harr₂⟩:=hq b (.inScope c::k) cs hro hb hr
   have hs:=harr.1 _ hg
   cases e₂ with
   | goto l'=>exact hq₂.elim
   | normal=>exact ⟨_,a₂,w₂,hq₂, .of_steps (.head h0 Cw hs) (Eb (c:=c) hb hr (fun _ e=>by cases e) harr₂)⟩
   | exit id=>exact ⟨_,a₂,w₂,hq₂, .of_steps (.head h0 Cw hs) (Eb (c:=c) hb hr (fun _ e=>by cases e) harr₂)⟩
   | ret=>exact ⟨_,a₂,w₂,hq₂, .of_steps (.head h0 Cw hs) (Eb (c:=c) hb hr (fun _ e=>by cases e) harr₂)⟩
   | panic ch=>exact ⟨_,a₂,w₂,hq₂, .of_steps (.head h0 Cw hs) (Eb (c:=c) hb hr (fun _ e=>by cases e) harr₂)⟩
   | outgrown=>exact ⟨_,a₂,w₂,hq₂, .of_steps (.head h0 Cw hs) (Eb (c:=c) hb hr (fun _ e=>by cases e) harr₂)⟩
 | normal=>exact plain _ (fun _ e=>by cases e) hq harr
 | exit id=>exact plain _ (fun _ e=>by cases e) hq harr
 | ret=>exact plain _ (fun _ e=>by cases e) hq harr
 | panic ch=>exact plain _ (fun _ e=>by cases e) hq harr
 | outgrown=>exact plain _ (fun _ e=>by cases e) hq harr
end
end Go.Vc

namespace Go.Vc
inductive YRow where
 | int
 | bool
 | str
 | kb (b:Bool)
 | fz (own:Bool) (c j:Nat)
 | fp (own:Bool) (cs:List C)
 | od (e:TypeId) (z:Nat) (own:Bool) (j:Nat)
 | ep (i x z:Nat)
 | ov (i x z:Nat)
 | dead
def YRow.odB:YRow→Bool
 | .od ..=>true
 | _=>false
def Rho.setN (ρ:Rho) (i:Nat) (x:Int):Rho:=⟨fun j=>bif Nat.beq j i then x else ρ.n j,ρ.t,ρ.s,ρ.d⟩
def Rho.setT (ρ:Rho) (i:Nat) (x:Bool):Rho:=⟨ρ.n,fun j=>bif Nat.beq j i then x else ρ.t j,ρ.s,ρ.d⟩
def Rho.setS (ρ:Rho) (i:Nat) (x:ByteArray):Rho:=⟨ρ.n,ρ.t,fun j=>bif Nat.beq j i then x else ρ.s j,ρ.d⟩
def Rho.setD (ρ:Rho) (i:Nat) (x:List (List D)):Rho:=⟨ρ.n,ρ.t,ρ.s,fun j=>bif Nat.beq j i then x else ρ.d j⟩
section
variable {α:Type}
end
def Fo (F:Nat→Prop) (B0:Nat) (own:Bool) (g:Nat):Prop:=F g∧(own=true→B0≤g)
def live (σ:Env) (i:Nat):Prop:=∃ a n c,σ.v i = .slice a n c∧0<c
section
variable [Holes]
def Els (F:Nat→Prop) (w:World) (z:Nat) (arr:Array Value) (l:List (List D)):Prop :=
 ∀ (q:Nat) (cs:List D),l[q]?=some cs→cs.length=z∧∀ (p:Nat) (d:D),cs[p]?=some d→∃ v,arr[q*z+p]?=some v∧RD F w d v
def YOk (F:Nat→Prop) (B0:Nat) (σ:Env) (n:Nat) (w:World) (i:Nat):YRow→Prop
 | .int | .bool | .str | .dead=>True
 | .kb b=>σ.r.t i=b
 | .fz own c j=>Lt j n∧RD (Fo F B0 own) w (.fs (σ.r.d j)) (σ.v i)∧(c≠0→∃ a k,σ.v i = .slice a k k)∧(c=2→σ.r.d j=[])
 | .fp own cs=>Fo F B0 own (σ.b i)∧∀ (j:Nat) (c:C),cs[j]?=some c→C.lt n c∧w.cell? ⟨σ.b i,σ.o i+j,none⟩=some (realC σ c)
 | .od e z own j=>Lt j n∧0<z∧∃ a c,σ.v i = .slice a (σ.r.d j).length c∧((c=0∧σ.r.d j=[]) ∨
   (a=some ⟨σ.b i,0,none⟩∧0<c∧∃ arr,w.heap[σ.b i]?=some (.cells arr e (0,0))∧c*z≤arr.size∧(σ.r.d j).length≤c∧Els (Fo F B0 own) w z arr (σ.r.d j)))
 | .ep q x z=>Lt q n∧Lt x n∧0≤σ.r.n x∧σ.b i=σ.b q∧σ.o i=(σ.r.n x).toNat*z
 | .ov q x z=>Lt q n∧Lt x n∧0≤σ.r.n x∧∃ a m c a' c',σ.v q = .slice a (m+(σ.r.n x).toNat) c∧σ.v i = .slice a' m c'∧(m≠0→a'=some ⟨σ.b q,(σ.r.n x).toNat*z,none⟩)
structure YRel (F F0:Nat→Prop) (B0:Nat) (σ:Env) (m:Mem) (Y:T YRow) (w:World):Prop where
 dom:∀ g,F g→g<w.heap.size∧(∀ i r,m.S.get i=some r→r.blk=true→σ.b i≠g)∧(F0 g∨B0≤g)
 row:∀ i y,Y.get i=some y→Lt i m.nx∧YOk F B0 σ m.nx w i y
 od:∀ i e z o j,Y.get i=some (.od e z o j)→live σ i→σ.b i<w.heap.size∧B0≤σ.b i∧¬F (σ.b i)∧∀ q r,m.S.get q=some r→r.blk=true→σ.b q≠σ.b i
 odi:∀ i e z o j i' e' z' o' j',Y.get i=some (.od e z o j)→Y.get i'=some (.od e' z' o' j')→live σ i→live σ i'→σ.b i=σ.b i'→i=i'
def YAg (ρ:Rho) (σ:Env) (i:Nat):YRow→Prop
 | .int=>σ.r.n i=ρ.n i
 | .bool | .kb _=>σ.r.t i=ρ.t i
 | .str=>σ.r.s i=ρ.s i
 | .fz _ _ j | .od _ _ _ j=>σ.r.d j=ρ.d j
 | _=>True
def SymAg (ρ:Rho) (σ:Env) (Y:T YRow):Prop:=∀ i y,Y.get i=some y→YAg ρ σ i y
section
variable {K:Nat→Option (List Value)} {F F0:Nat→Prop} {B0:Nat} {σ τ:Env} {m m1:Mem} {Y:T YRow} {w w1:World} {ρ:Rho} {n n1 i:Nat} {y:YRow}
theorem Els.keep {z:Nat} {arr:Array Value} {l:List (List D)} (hw:∀ g j v,F g→w.cell? ⟨g,j,none⟩=some v→w1.cell? ⟨g,j,none⟩=some v) (h:Els F w z arr l):Els F w1 z arr l:=fun q cs hq=>by
 obtain ⟨h1,h2⟩:=h q cs hq
 refine ⟨h1,fun p d hp=>?_⟩
 obtain ⟨v,h3,h4⟩:=h2 p d hp
 exact ⟨v,h3,h4.keep (fun _ h=>h) hw⟩
theorem Cj {g:Nat} (h:w1.heap[g]?=w.heap[g]?) (j:Nat):w1.cell? ⟨g,j,none⟩=w.cell? ⟨g,j,none⟩:=World.cell?_of_block (a:=⟨g,j,none⟩) h
theorem Ar (ha:Agree n σ τ) (hi:Lt i n):live τ i↔live σ i:=by
 unfold live;rw [ha.v i hi]
theorem YOk.keep (h:YOk F B0 σ n w i y) (hi:Lt i n) (ha:Agree n σ τ) (hn:n≤n1) (hc:∀ g j v,F g→w.cell? ⟨g,j,none⟩=some v→w1.cell? ⟨g,j,none⟩=some v) (ho:y.odB=true→live σ i→w1.heap[σ.b i]?=w.heap[σ.b i]?):YOk F B0 τ n1 w1 i y:=by
 cases y with
 | int=>trivial
 | bool=>trivial
 | str=>trivial
 | dead=>trivial
 | kb b=>exact (ha.rt i hi).trans h
 | fz own c j =>
  obtain ⟨h1,h2,h3,h4⟩:=h
  refine ⟨h1.mono hn,?_,fun hc0=>by rw [ha.v i hi];exact h3 hc0,fun hc2=>by rw [ha.rd j h1];exact h4 hc2⟩
  rw [ha.rd j h1,ha.v i hi]
  exact RD.keep (fun _ h=>h) (fun g j v hg hv=>hc g j v hg.1 hv) h2
 | fp own cs =>
  refine ⟨by rw [ha.b i hi];exact h.1,fun j c hj=>?_⟩
  obtain ⟨h1,h2⟩:=h.2 j c hj
  rw [ha.b i hi,ha.o i hi,ha.realC h1]
  exact ⟨h1.mono hn,hc _ _ _ h.1.1 h2⟩
 | od e z own j =>
  obtain ⟨h1,h2,a,c,h3,h4⟩:=h
  refine ⟨h1.mono hn,h2,a,c,by rw [ha.v i hi,ha.rd j h1];exact h3,?_⟩
  rw [ha.rd j h1,ha.b i hi]
  rcases h4 with h4 | ⟨h5,h5',arr,h6,h7,h8,h9⟩
  ·exact .inl h4
  ·refine .inr ⟨h5,h5',arr,?_,h7,h8,h9.keep fun g j v hg hv=>hc g j v hg.1 hv⟩
   rw [ho rfl ⟨_,_,_,h3,h5'⟩];exact h6
 | ep q x z =>
  obtain ⟨h1,h2,h3,h4,h5⟩:=h
  exact ⟨h1.mono hn,h2.mono hn,by rw [ha.rn _ h2];exact h3,by rw [ha.b i hi,ha.b _ h1];exact h4,by rw [ha.o i hi,ha.rn _ h2];exact h5⟩
 | ov q x z =>
  obtain ⟨h1,h2,h3,h4⟩:=h
  refine ⟨h1.mono hn,h2.mono hn,by rw [ha.rn _ h2];exact h3,?_⟩
  rw [ha.rn _ h2,ha.v q h1,ha.v i hi,ha.b q h1];exact h4
theorem YRel.step (h:YRel F F0 B0 σ m Y w) (k:Step K σ m w τ m1 w1):YRel F F0 B0 τ m1 Y w1:=by
 have hfr:∀ g,g<w.heap.size→(∀ i r,m.S.get i=some r→r.blk=true→σ.b i≠g)→w1.heap[g]?=w.heap[g]?:=fun g hg hn=>k.frame g hg fun i r hr hb he=>absurd he (hn i r hr hb)
 have hno:∀ g,g<w.heap.size→(∀ i r,m.S.get i=some r→r.blk=true→σ.b i≠g)→∀ i r,m1.S.get i=some r→r.blk=true→τ.b i≠g:=fun g hg hn i r hr hb he=>by
  rcases Nat.lt_or_ge i m.nx with hlt | hge
  ·obtain ⟨s,hs,hsb⟩:=k.old i r hlt hr hb
   exact hn i s hs hsb (by rw [←k.agree.b i ((k.rel.lt i r hr).low hlt)];exact he)
  ·rcases k.new i r hge hr hb with h1 | ⟨j,s,hs,hsb,hj,_⟩
   ·omega
   ·exact hn j s hs hsb (hj.trans he)
 refine ⟨fun g hg=>?_,fun i y hi=>?_,fun i e z o j hi hl=>?_,fun i e z o j i' e' z' o' j' hi hi' hl hl' he=>?_⟩
 ·obtain ⟨h1,h2,h3⟩:=h.dom g hg
  exact ⟨Nat.lt_of_lt_of_le h1 k.goes.size,hno g h1 h2,h3⟩
 ·obtain ⟨h1,h2⟩:=h.row i y hi
  refine ⟨h1.mono k.nx,h2.keep h1 k.agree k.nx (fun g j v hg hv=>by rw [Cj (hfr g (h.dom g hg).1 (h.dom g hg).2.1)];exact hv) fun ho hl=>?_⟩
  cases y <;> first | (cases ho;done) | skip
  obtain ⟨h3,_,_,h4⟩:=h.od i _ _ _ _ hi hl
  exact hfr _ h3 h4
 ·have hlt:=(h.row i _ hi).1
  obtain ⟨h3,h4,h5,h6⟩:=h.od i e z o j hi ((Ar k.agree hlt).1 hl)
  rw [k.agree.b i hlt]
  exact ⟨Nat.lt_of_lt_of_le h3 k.goes.size,h4,h5,hno _ h3 h6⟩
 ·have hlt:=(h.row i _ hi).1
  have hlt':=(h.row i' _ hi').1
  rw [k.agree.b i hlt,k.agree.b i' hlt'] at he
  exact h.odi i e z o j i' e' z' o' j' hi hi' ((Ar k.agree hlt).1 hl) ((Ar k.agree hlt').1 hl') he
theorem YAg.agree (h:YAg ρ σ i y) (hi:Lt i n) (ha:Agree n σ τ) (hk:YOk F B0 σ n w i y):YAg ρ τ i y:=by
 cases y with
 | int=>exact (ha.rn i hi).trans h
 | bool=>exact (ha.rt i hi).trans h
 | kb b=>exact (ha.rt i hi).trans h
 | str=>exact (ha.rs i hi).trans h
 | fz o c j=>exact (ha.rd j hk.1).trans h
 | od e z o j=>exact (ha.rd j hk.1).trans h
 | _=>trivial
theorem YRel.add (h:YRel F F0 B0 σ m Y w) (hy:Lt i m.nx) (ho:y.odB=false) (hk:YOk F B0 σ m.nx w i y):YRel F F0 B0 σ m (Y.set i y) w:=by
 have key:∀ q x,(Y.set i y).get q=some x→x.odB=true→Y.get q=some x:=fun q x hq hx=>by
  rw [T.get_set] at hq
  split at hq
  ·cases hq;rw [ho] at hx;cases hx
  ·exact hq
 refine ⟨h.dom,fun q x hq=>?_,fun q e z o j hq hl=>h.od q e z o j (key q _ hq rfl) hl,fun q e z o j q' e' z' o' j' hq hq'=>h.odi q e z o j q' e' z' o' j' (key q _ hq rfl) (key q' _ hq' rfl)⟩
 rw [T.get_set] at hq
 split at hq
 ·rename_i he;cases hq;subst he;exact ⟨hy,hk⟩
 ·exact h.row q x hq
end
end
end Go.Vc

namespace Go.Vc
inductive Kd where
 | int (k:IntKind)
 | bool
 | str
 | sl
 | nl
inductive DK:Kd→D→Prop
 | int (k:IntKind) (x:Int):DK (.int k) (.raw (.int k x))
 | bool (x:Bool):DK .bool (.raw (.bool x))
 | str (x:ByteArray):DK .str (.raw (.string x))
 | sl (x:List (List D)):DK .sl (.fs x)
 | nl:DK .nl (.raw (.slice none 0 0))
inductive DKs:List Kd→List D→Prop
 | nil:DKs [] []
 | cons {k:Kd} {d:D} {ks:List Kd} {ds:List D} (h:DK k d) (t:DKs ks ds):DKs (k::ks) (d::ds)
inductive DV where
 | c (d:D)
 | a (l:List D)
structure RK where
 ks:List Kd
 agg:Bool
 own:Bool
section
variable [Holes]
def RDs (F:Nat→Prop) (w:World) (ds:List D) (vs:List Value):Prop:=vs.length=ds.length∧∀ (j:Nat) (d:D) (u:Value),ds[j]?=some d→vs[j]?=some u→RD F w d u
inductive RV (F:Nat→Prop) (B0:Nat) (w:World):RK→DV→Value→Prop
 | c (k:Kd) (own:Bool) (d:D) (v:Value) (hd:DK k d) (h:RD (Fo F B0 own) w d v):RV F B0 w ⟨[k],false,own⟩ (.c d) v
 | a (ks:List Kd) (own:Bool) (ds:List D) (vs:List Value) (hd:DKs ks ds) (h:RDs (Fo F B0 own) w ds vs):RV F B0 w ⟨ks,true,own⟩ (.a ds) (.agg vs.toArray)
inductive RVs (F:Nat→Prop) (B0:Nat) (w:World):List RK→List DV→List Value→Prop
 | nil:RVs F B0 w [] [] []
 | cons {r:RK} {d:DV} {v:Value} {rs:List RK} {ds:List DV} {vs:List Value} (h:RV F B0 w r d v) (t:RVs F B0 w rs ds vs):RVs F B0 w (r::rs) (d::ds) (v::vs)
end
section
variable [Holes]
def OdV (F:Nat→Prop) (w:World) (e z:Nat) (l:List (List D)) (g:Nat) (v:Value):Prop :=
 0<z∧∃ a c,v = .slice a l.length c∧((c=0∧l=[])∨(a=some ⟨g,0,none⟩∧0<c∧∃ arr,w.heap[g]?=some (.cells arr e (0,0))∧c*z≤arr.size∧l.length≤c∧Els F w z arr l))
def liveV (v:Value):Prop:=∃ a n c,v = .slice a n c∧0<c
inductive Pl where
 | tmp
 | row (i:Nat)
 | cel (r j:Nat)
structure OdG where
 t:Tmp
 e:Nat
 z:Nat
 own:Bool
 pl:Pl
structure OdX where
 l:List (List D)
 g:Nat
 v:Value
def OdFree (F:Nat→Prop) (B0:Nat) (σ:Env) (S:T Row) (Y:T YRow) (w:World) (x:OdX):Prop :=
 liveV x.v→x.g<w.heap.size∧B0≤x.g∧¬F x.g∧(∀ q r,S.get q=some r→r.blk=true→σ.b q≠x.g)∧∀ i e z o j,Y.get i=some (.od e z o j)→live σ i→σ.b i≠x.g
def OdAt (σ:Env) (tmps:Array Value) (o:OdG) (x:OdX):Prop:=match o.pl with
 | .tmp=>tmps.getD o.t undef=x.v
 | .row i=>σ.v i=x.v∧σ.b i=x.g
 | .cel _ _=>True
def ocs:List OdG→List (Nat×Nat)
 | []=>[]
 | o::os=>match o.pl with
  | .cel r j=>(r,j)::ocs os
  | _=>ocs os
def celV:List OdG→List OdX→List Value
 | o::os,x::xs=>match o.pl with
  | .cel _ _=>x.v::celV os xs
  | _=>celV os xs
 | _,_=>[]
inductive OdXs (F:Nat→Prop) (B0:Nat) (σ:Env) (S:T Row) (Y:T YRow) (w:World) (tmps:Array Value):List OdG→List OdX→Prop
 | nil:OdXs F B0 σ S Y w tmps [] []
 | cons {o:OdG} {x:OdX} {os:List OdG} {xs:List OdX} (h1:OdAt σ tmps o x) (h2:OdV (Fo F B0 o.own) w o.e o.z x.l x.g x.v) (h3:OdFree F B0 σ S Y w x) (h4:∀ y∈xs,liveV x.v→liveV y.v→x.g≠y.g) (h5:OdXs F B0 σ S Y w tmps os xs):OdXs F B0 σ S Y w tmps (o::os) (x::xs)
def datX (xs:List OdX):List DV:=xs.map fun x=>.c (.fs x.l)
end
end Go.Vc

namespace Go.Vc
inductive Kt where
 | seq (c:Code)
 | block (id:Nat)
 | loop (c:Code) (h:Option Nat)
 | scope (c:Code)
 | noGoto
 | draw (all:Array Oper) (r:Nat)
inductive Cur where
 | code (c:Code)
 | ops (all:Array Oper) (l:List Oper)
 | exit (e:Exit)
 | draw (all:Array Oper) (r:Nat)
structure St where
 cur:Cur
 ks:List Kt
 tm:Tm
 m:Mem
 Y:T YRow
 nt:Nat
 key:Nat
structure Bs where
 wB:World
 F0:Nat→Prop
 σ0:Env
 n0:Nat
 wC:World
 L:Nat→Prop
 σ1:Env
 n1:Nat
section
variable [Holes]
structure Aw (K:Nat→Option (List Value)) (b:Bs) (m:Mem) (Y:T YRow) (ρ:Rho) (σ:Env) (w:World):Prop where
 rel:Rel K σ m w
 nx:b.n0≤m.nx
 agree:Agree b.n0 b.σ0 σ
 nx1:b.n1≤m.nx
 agree1:Agree b.n1 b.σ1 σ
 base:Goes b.wB b.wC
 goes:Goes b.wC w
 frame:∀ g,g<b.wB.heap.size→w.heap[g]?=b.wB.heap[g]?
 own:∀ i r,m.S.get i=some r→r.blk=true→b.wB.heap.size≤σ.b i
 y:∃ F,YRel F b.F0 b.wB.heap.size σ m Y w
 ag:SymAg ρ σ Y
 dfr:∀ (g:Nat) (q:Option (List Deferred)),b.wC.heap[g]?=some (Obj.deferred q)→w.heap[g]?=some (Obj.deferred q)
 keep:∀ i,b.L i→∃ s,m.S.get i=some s∧s.isLoop=true
 klow:∀ g l,K g=some l→g<b.wB.heap.size
structure At (K:Nat→Option (List Value)) (b:Bs) (s:St) (ρ:Rho) (σ:Env) (a:Act) (w:World):Prop where
 aw:Aw K b s.m s.Y ρ σ w
 tm:TmOk σ s.m.nx a.tmps s.tm
 nt:a.tmps.size=s.nt
 mks:MarksOk b.wC.heap.size a w
def RoundB (b:Bs) (F:Fence):Prop:=∀ g,F.round=some g→∃ i,b.L i∧Lt i b.n0∧b.σ0.b i=g
variable {K:Nat→Option (List Value)} {b:Bs} {s s':St} {ρ:Rho} {σ τ:Env} {a:Act} {m m1:Mem} {Y:T YRow} {w w1:World}
theorem Aw.size (h:Aw K b m Y ρ σ w):b.wB.heap.size≤w.heap.size:=Nat.le_trans h.base.size h.goes.size
theorem Aw.step (h:Aw K b m Y ρ σ w) (k:Step K σ m w τ m1 w1):Aw K b m1 Y ρ τ w1 where
 rel:=k.rel
 nx:=Nat.le_trans h.nx k.nx
 agree:=h.agree.trans h.nx k.agree
 nx1:=Nat.le_trans h.nx1 k.nx
 agree1:=h.agree1.trans h.nx1 k.agree
 base:=h.base
 goes:=h.goes.trans k.goes
 frame g hg:=by
  rw [k.frame g (Nat.lt_of_lt_of_le hg h.size) (fun i r hi hb he=>by have:=h.own i r hi hb;omega),h.frame g hg]
 own i r hi hb:=by
  rcases Nat.lt_or_ge i m.nx with hlt | hge
  ·obtain ⟨q,hq,hqb⟩:=k.old i r hlt hi hb
   rw [k.agree.b i (h.rel.lt i q hq)]
   exact h.own i q hq hqb
  ·rcases k.new i r hge hi hb with h1 | ⟨j,q,h1,h2,h3,_⟩
   ·exact Nat.le_trans h.size h1
   ·rw [←h3];exact h.own j q h1 h2
 y:=by
  obtain ⟨F,hF⟩:=h.y
  exact ⟨F,hF.step k⟩
 ag i y hi:=by
  obtain ⟨F,hF⟩:=h.y
  exact (h.ag i y hi).agree (hF.row i y hi).1 k.agree (hF.row i y hi).2
 dfr g q hg:=k.other h.rel (h.dfr g q hg) (fun _ _ _=>by simp) (fun _=>by simp) (fun _ _=>by simp)
 keep i hi:=by
  obtain ⟨s,h1,h2⟩:=h.keep i hi
  exact k.keep i s h1 h2
 klow:=h.klow
theorem At.step (h:At K b s ρ σ a w) (k:Step K σ s.m w τ m1 w1) {a':Act} {tm':Tm} (ht:TmOk τ m1.nx a'.tmps tm') (hs:a'.tmps.size=s.nt) (hd:a'.defers=a.defers) (cur':Cur) (ks':List Kt) :
  At K b ⟨cur',ks',tm',m1,s.Y,s.nt,s.key⟩ ρ τ a' w1 where
 aw:=h.aw.step k
 tm:=ht
 nt:=hs
 mks:=by
  obtain ⟨rs,q1,q2,q3⟩:=h.mks.step h.aw.rel k (tmps:=a.tmps)
  exact ⟨rs,by rw [hd];exact q1,q2,q3⟩
theorem At.move (h:At K b s ρ σ a w) (hm:s'.m=s.m) (hY:s'.Y=s.Y) (ht:s'.tm=s.tm) (hn:s'.nt=s.nt):At K b s' ρ σ a w:=by
 obtain ⟨cur,ks,tm,m,Y,nt,key⟩:=s
 obtain ⟨cur',ks',tm',m',Y',nt',key'⟩:=s'
 cases hm;cases hY;cases ht;cases hn
 exact ⟨h.aw,h.tm,h.nt,h.mks⟩
end
structure BoxT where
 t:Tmp
 e:TypeId
 k:Nat
 cs:T C
structure LC where
 mB:Mem
 YB:T YRow
 keep:List (Tmp×W)
 gens:List Tmp
 cells:List (Nat×Nat)
 rks:List RK
 ods:List OdG
 nt:Nat
 ρ:Rho
 inv:Rho→List DV→Prop
 mu:Rho→List DV→Nat
 k:Nat
 box:Option BoxT
def set1C (S:T Row) (p:Nat×Nat) (c:C):T Row:=match S.get p.1 with
 | some (.cells e k t)=>S.set p.1 (.cells e k (t.set p.2 c))
 | _=>S
def setsC (S:T Row):List (Nat×Nat)→List C→T Row
 | p::l,c::cs=>setsC (set1C S p c) l cs
 | _,_=>S
def mapN (tmps:Array Value) (l:List Tmp):List Value:=l.map fun t=>tmps.getD t undef
def Bs.lim (b:Bs) (n:Nat):Bs:=⟨b.wB,b.F0,b.σ0,b.n0,b.wC,b.L,b.σ1,Nat.min b.n1 n⟩
def RowLt [Holes] (n:Nat):Row→Prop
 | .cells _ k cs=>∀ (j:Nat) (c:C),j<k→cs.get j=some c→C.lt n c
 | .fn _ a b=>(∀ x∈a,W.lt n x)∧∀ x∈b,W.lt n x
 | .val x=>V.lt n x
 | .loop _ _ _ tm _ _ _=>∀ t,(tm.get t).lt n
 | _=>True
def YLt [Holes] (n:Nat):YRow→Prop
 | .fp _ cs=>∀ (j:Nat) (c:C),cs[j]?=some c→C.lt n c
 | .od _ _ _ j=>Lt j n
 | .fz _ _ j=>Lt j n
 | .ep q x _=>Lt q n∧Lt x n
 | .ov q x _=>Lt q n∧Lt x n
 | _=>True
structure Link [Holes] (b:Bs) (lc:LC):Prop where
 nx:lc.mB.nx≤b.n1
 n0:b.n0≤lc.mB.nx
 ag:SymAg lc.ρ b.σ1 lc.YB
 ylt:∀ i y,lc.YB.get i=some y→Lt i lc.mB.nx∧YLt lc.mB.nx y
 rlt:∀ i r,lc.mB.S.get i=some r→Lt i lc.mB.nx∧RowLt lc.mB.nx r
 klt:∀ p∈lc.keep,p.2.lt lc.mB.nx
 loops:∀ i,b.L i→∃ s,lc.mB.S.get i=some s∧s.isLoop=true
 fresh:∀ i,lc.mB.nx≤i→¬Holes.h i
def headM (lc:LC) (us:List Value) (xs:List OdX):Mem:=⟨setsC lc.mB.S (lc.cells++ocs lc.ods) ((us++celV lc.ods xs).map .raw),lc.mB.nx,lc.mB.lo⟩
structure BoxAt [Holes] (K:Nat→Option (List Value)) (F:Nat→Prop) (B0:Nat) (σ:Env) (nx:Nat) (S:T Row) (Y:T YRow) (w:World) (tmps:Array Value) (xs:List OdX) (bx:BoxT) (g o:Nat):Prop where
 val:tmps.getD bx.t undef = .pointer (some ⟨g,o,none⟩)
 row:∃ arr,w.heap[g]?=some (.cells arr bx.e (0,0))∧o+bx.k≤arr.size∧∀ j,j<bx.k→∃ c,bx.cs.get j=some c∧C.lt nx c∧arr[o+j]?=some (realC σ c)
 kn:K g=none
 own:B0≤g
 fz:¬F g
 free:∀ q r,S.get q=some r→r.blk=true→σ.b q≠g
 od:∀ i e z q j,Y.get i=some (.od e z q j)→live σ i→σ.b i≠g
 xs:∀ x∈xs,liveV x.v→x.g≠g
def BoxIn [Holes] (K:Nat→Option (List Value)) (b:Bs) (lc:LC) (σ:Env) (F:Nat→Prop) (xs:List OdX) (a:Act) (w:World):Prop:=match lc.box with
 | none=>True
 | some bx=>∃ g o,BoxAt K F b.wB.heap.size σ lc.mB.nx lc.mB.S lc.YB w a.tmps xs bx g o
def HeadAt [Holes] (K:Nat→Option (List Value)) (b:Bs) (lc:LC) (a:Act) (w:World):Prop :=
 ∃ (σ:Env) (F:Nat→Prop) (us:List Value) (ds:List DV) (xs:List OdX),us.length=lc.cells.length∧Aw K (b.lim lc.mB.nx) (headM lc us xs) lc.YB lc.ρ σ w∧YRel F b.F0 b.wB.heap.size σ (headM lc us xs) lc.YB w ∧
  RVs F b.wB.heap.size w lc.rks ds (mapN a.tmps lc.gens++us)∧(∀ p∈lc.keep,a.tmps.getD p.1 undef=realW σ p.2∧p.2.lt lc.mB.nx)∧a.tmps.size=lc.nt∧MarksOk b.wC.heap.size a w∧OdXs F b.wB.heap.size σ (headM lc us xs).S lc.YB w a.tmps lc.ods xs∧lc.inv lc.ρ (ds++datX xs)∧lc.mu lc.ρ (ds++datX xs)<lc.k∧BoxIn K b lc σ F xs a w
structure Qs where
 q:Exit→Act→World→Prop
 Λ:Nat→Act→World→Prop
 np:∀ c a w,¬q (.panic c) a w
structure Post where
 q:Exit→Tm→Mem→T YRow→Rho→Prop
 L:List (Nat×LC)
def QOk [Holes] (K:Nat→Option (List Value)) (b:Bs) (nt:Nat) (Q:Post) (Qw:Qs):Prop :=
 (∀ e tm m Y ρ' key σ a w,Q.q e tm m Y ρ'→At K b ⟨.exit e,[],tm,m,Y,nt,key⟩ ρ' σ a w→Qw.q e a w)∧∀ p∈Q.L,Link b p.2∧∀ a w,HeadAt K b p.2 a w→Qw.Λ p.1 a w
def drawAt (F:Fence) (n:Nat) (P:Program) (all:Array Oper) (r:Nat) (Q:Exit→Act→World→Prop) (a:Act) (w:World):Prop :=
 ∀ (fuel:Nat) (listed:Array Bool),listed.size=all.size→(∀ k,listed.getD k false=decide (k<r))→all.size≤fuel+r→wpAnyIn F n P .any all Q fuel listed a w
def after (F:Fence) (n:Nat) (P:Program) (Q:Qs):List Kt→Exit→Act→World→Prop
 | []=>Q.q
 | .seq b::ks=>Exit.then (b.wpIn F n P (after F n P Q ks)) (after F n P Q ks)
 | .block id::ks=>Exit.inBlock id (after F n P Q ks)
 | .loop c none::ks=>Exit.then (LoopAt F n P c (after F n P Q ks)) (after F n P Q ks)
 | .loop _ (some j)::ks=>Exit.then (Q.Λ j) (after F n P Q ks)
 | .scope c::ks=>ScopeQ F n P c (after F n P Q ks)
 | .noGoto::ks=>Exit.noGoto (after F n P Q ks)
 | .draw all r::ks=>Exit.then (drawAt F n P all r (after F n P Q ks)) (after F n P Q ks)
theorem De (F:Fence) (n:Nat) (P:Program) (Q:Qs) (c:List PanicEntry) (a:Act) (w:World):∀ ks,¬after F n P Q ks (.panic c) a w
 | []=>Q.np c a w
 | .seq b::ks=>De F n P Q c a w ks
 | .block id::ks=>De F n P Q c a w ks
 | .loop d none::ks=>De F n P Q c a w ks
 | .loop _ (some j)::ks=>De F n P Q c a w ks
 | .scope d::ks=>De F n P Q c a w ks
 | .noGoto::ks=>De F n P Q c a w ks
 | .draw all r::ks=>De F n P Q c a w ks
theorem Ut {F:Fence} {n:Nat} {P:Program} {c:Code} {a:Act} {w:World} {Q Q':Exit→Act→World→Prop} (h:c.wpIn F n P Q' a w) (hq:∀ e a w,Q' e a w→Q e a w):c.wpIn F n P Q a w:=fun b k cs h1 h2 h3 =>
 let ⟨e,a',w',q,arr⟩:=h b k cs h1 h2 h3
 ⟨e,a',w',hq _ _ _ q,arr⟩
def den (F:Fence) (n:Nat) (P:Program) (Q:Qs) (ks:List Kt):Cur→Act→World→Prop
 | .code c=>c.wpIn F n P (after F n P Q ks)
 | .ops all l=>wpListIn F n P all (after F n P Q ks) l
 | .exit e=>after F n P Q ks e
 | .draw all r=>drawAt F n P all r (after F n P Q ks)
def St.to (s:St) (cur:Cur) (ks:List Kt):St:=⟨cur,ks,s.tm,s.m,s.Y,s.nt,s.key⟩
def putS (s:St) (all:Array Oper) (o:Oper) (l:List Oper) (r:R1):Option St:=match putR s.nt s.tm o.dst r with
 | .ok tm m=>some ⟨.ops all l,s.ks,tm,m,s.Y,s.nt,s.key⟩
 | .no=>none
def exitS (s:St) (e:Exit):List Kt→Option St
 | []=>none
 | .seq b::ks=>match e with
  | .normal=>some (s.to (.code b) ks)
  | e=>some (s.to (.exit e) ks)
 | .block id::ks=>match e with
  | .exit i=>some (s.to (.exit (bif Nat.beq i id then .normal else .exit i)) ks)
  | e=>some (s.to (.exit e) ks)
 | .loop c h::ks=>match e,h with
  | .normal,none=>some (s.to (.code c) (.loop c none::ks))
  | .normal,some _=>none
  | e,_=>some (s.to (.exit e) ks)
 | .scope c::ks=>match e with
  | .goto l=>match findLabel c l with
   | some rest=>some (s.to (.code rest) (.noGoto::ks))
   | none=>some (s.to (.exit (.goto l)) ks)
  | e=>some (s.to (.exit e) ks)
 | .noGoto::ks=>match e with
  | .goto _=>none
  | e=>some (s.to (.exit e) ks)
 | .draw all r::ks=>match e with
  | .normal=>some (s.to (.draw all r) ks)
  | e=>some (s.to (.exit e) ks)
def stepS (P:Program) (K:Nat→Option (List Value)) (s:St):Option St:=match s.cur with
 | .code .skip | .code (.label _)=>some (s.to (.exit .normal) s.ks)
 | .code (.exit id)=>some (s.to (.exit (.exit id)) s.ks)
 | .code (.goto l)=>some (s.to (.exit (.goto l)) s.ks)
 | .code .ret=>some (s.to (.exit .ret) s.ks)
 | .code (.seq a b)=>some (s.to (.code a) (.seq b::s.ks))
 | .code (.cond c x y)=>match ev s.tm c with
  | .v (.c (.raw (.bool c)))=>some (s.to (.code (bif c then x else y)) s.ks)
  | _=>none
 | .code (.block id c)=>some (s.to (.code c) (.block id::s.ks))
 | .code (.loop c)=>some (s.to (.code c) (.loop c none::s.ks))
 | .code (.scope c)=>some (s.to (.code c) (.scope c::s.ks))
 | .code (.region _ ops false)=>some (s.to (.ops ops ops.toList) s.ks)
 | .code _=>none
 | .ops _ []=>some (s.to (.exit .normal) s.ks)
 | .ops all (o::l)=>bif openB all s.tm o then none else match wantW all s.tm o with
  | true=>putS s all o l (opW P K o.op o.type s.tm s.m)
  | false=>putS s all o l (.ok undefW s.m)
 | .exit e=>exitS s e s.ks
 | .draw ..=>none
def Sx [H:Holes] (P:Program) (K:Nat→Option (List Value)) (s:St) (ρ:Rho) (Q:Post):Prop :=
 ∀ (F:Fence),WF F→∀ (n:Nat) (b:Bs),RoundB b F→∀ (Qw:Qs),QOk K b s.nt Q Qw →
  ∀ σ a w,At K b s ρ σ a w→den F n P Qw s.ks s.cur a w
def OpOk (P:Program) (K:Nat→Option (List Value)) (o:Oper) (tm:Tm) (m:Mem) (x:W) (m1:Mem):Prop :=
 ∀ (HH:Holes) (F:Fence),WF F→∀ (σ:Env) (a:Act) (w:World) (Φ:Value→World→Prop),@Rel HH K σ m w→@TmOk HH σ m.nx a.tmps tm →
  (∀ τ w',@Step HH K σ m w τ m1 w'→@W.lt HH m1.nx x→Φ (realW τ x) w')→Und F P Φ ((execOp a.eval o).run P w)
section
variable [H:Holes] {P:Program} {K:Nat→Option (List Value)} {s s':St} {ρ:Rho} {Q:Post}
theorem opOk {o:Oper} {tm:Tm} {m m1:Mem} {x:W} (ho:opW P K o.op o.type tm m = .ok x m1):OpOk P K o tm m x m1:=fun HH F _ σ a w Φ hR hT hΦ=>@Ass HH P K σ m m1 w F Φ o a tm x ho hR hT hΦ
theorem Ado (hm:s'.m=s.m) (hY:s'.Y=s.Y) (ht:s'.tm=s.tm) (hn:s'.nt=s.nt) (h:∀ F n Qw a w,den F n P Qw s'.ks s'.cur a w→den F n P Qw s.ks s.cur a w) (k:Sx P K s' ρ Q):Sx P K s ρ Q:=by
 intro F hF n b hB Qw hQ σ a w hA
 exact h F n Qw a w (k F hF n b hB Qw (by rw [hn];exact hQ) σ a w (hA.move hm hY ht hn))
theorem Fd {all:Array Oper} {o:Oper} {l:List Oper} (hc:s.cur = .ops all (o::l)) (ho:openB all s.tm o=false) (hw:wantW all s.tm o=true) (hnd:∀ c,o.op≠.defer c)
  (h:∀ (F:Fence),WF F→∀ (n:Nat) (b:Bs),RoundB b F→∀ (Qw:Qs),QOk K b s.nt Q Qw →
   ∀ σ a w,At K b s ρ σ a w→Und F P (fun v w'=>den F n P Qw s.ks (.ops all l) (a.put o.dst v) w') ((execOp a.eval o).run P w)):Sx P K s ρ Q:=by
 intro F hF n b hB Qw hQ σ a w hA
 rw [hc]
 show wpListIn F n P all (after F n P Qw s.ks) (o::l) a w
 refine wpListIn_step fun KK hK=>?_
 rw [Li hA.tm all o ho,hw]
 refine Asf hF hnd ?_
 have:=h F hF n b hB Qw hQ σ a w hA
 revert this
 cases hr:(execOp a.eval o).run P w with
 | halt=>exact fun h=>h
 | ok x w' =>
  cases x with
  | value v=>exact fun h=>hK _ _ h
  | skip=>exact fun h=>hK _ _ h
  | enter f args=>exact fun h n'=>(h n').mono fun e w2 ⟨v,hv,h2⟩=>⟨v,hv,hK _ _ h2⟩
  | round q f tmps assign body=>exact fun h n'=>(h n').mono fun e w2 ⟨v,hv,h2⟩=>⟨v,hv,hK _ _ h2⟩
  | _=>exact fun h=>h
theorem Awu {all:Array Oper} {o:Oper} {l:List Oper} {x:W} {m1:Mem} (hc:s.cur = .ops all (o::l)) (hop:openB all s.tm o=false) (hw:wantW all s.tm o=true) (hnd:∀ c,o.op≠.defer c) (ho:OpOk P K o s.tm s.m x m1)
  (hp:putS s all o l (.ok x m1)=some s') (k:Sx P K s' ρ Q):Sx P K s ρ Q:=by
 refine Fd hc hop hw hnd fun F hF n b hB Qw hQ σ a w hA=>?_
 unfold putS at hp
 cases hput:putR s.nt s.tm o.dst (.ok x m1) with
 | no=>rw [hput] at hp;cases hp
 | ok tm m2 =>
  rw [hput] at hp
  cases hp
  obtain ⟨x',hx,hpk⟩:=Ei hput
  cases hx
  refine ho _ F hF σ a w _ hA.aw.rel hA.tm fun τ w' kk hxl=>?_
  exact k F hF n b hB Qw hQ τ _ w' (hA.step kk (hpk τ m1.nx a (hA.tm.agree kk.agree kk.nx) hA.nt hxl) (by rw [Bz];exact hA.nt) (Bd _ _ _) _ _)
theorem Atl {all:Array Oper} {o:Oper} {l:List Oper} (hc:s.cur = .ops all (o::l)) (hop:openB all s.tm o=false) (hw:wantW all s.tm o=false) (hp:putS s all o l (.ok undefW s.m)=some s') (k:Sx P K s' ρ Q):Sx P K s ρ Q:=by
 intro F hF n b hB Qw hQ σ a w hA
 rw [hc]
 show wpListIn F n P all (after F n P Qw s.ks) (o::l) a w
 refine wpListIn_step fun KK hK=>?_
 rw [Li hA.tm all o hop,hw]
 unfold putS at hp
 cases hput:putR s.nt s.tm o.dst (.ok undefW s.m) with
 | no=>rw [hput] at hp;cases hp
 | ok tm m2 =>
  rw [hput] at hp
  cases hp
  obtain ⟨x',hx,hpk⟩:=Ei hput
  cases hx
  refine ⟨fun f _=>hF.fn f,hK _ _ ?_⟩
  exact k F hF n b hB Qw hQ σ _ w (hA.step (Step.refl hA.aw.rel) (hpk σ s.m.nx a hA.tm hA.nt (Bt _)) (by rw [Bz];exact hA.nt) (Bd _ _ _) _ _)
end
end Go.Vc

namespace Go.Vc
section
variable [H:Holes] {P:Program} {K:Nat→Option (List Value)} {s s':St} {ρ:Rho} {Q:Post}
theorem Arr {e:Exit} (hc:s.cur = .exit e) (h:exitS s e s.ks=some s') (k:Sx P K s' ρ Q):Sx P K s ρ Q:=by
 have key:(∃ cur ks,s'=s.to cur ks)∧∀ F n Qw a w,den F n P Qw s'.ks s'.cur a w→after F n P Qw s.ks e a w:=by
  revert h
  cases hks:s.ks with
  | nil=>intro h;cases h
  | cons x ks =>
   cases x with
   | seq b=>cases e <;> (intro h;cases h;exact ⟨⟨_,_,rfl⟩,fun F n Qw a w h=>h⟩)
   | block id =>
    cases e with
    | exit i =>
     intro h;cases h
     refine ⟨⟨_,_,rfl⟩,fun F n Qw a w h=>?_⟩
     show Exit.inBlock id (after F n P Qw ks) (.exit i) a w
     cases hi:Nat.beq i id with
     | true =>
      have hi':=Nat.eq_of_beq_eq_true hi
      rw [hi] at h
      simp only [Exit.inBlock,hi',if_true]
      exact h
     | false =>
      have hi':¬i=id:=fun e=>by rw [e,Nat.beq_refl] at hi;cases hi
      rw [hi] at h
      simp only [Exit.inBlock,hi',if_false]
      exact h
    | _=>intro h;cases h;exact ⟨⟨_,_,rfl⟩,fun F n Qw a w h=>h⟩
   | loop c q =>
    cases e with
    | normal =>
     cases q with
     | none=>intro h;cases h;exact ⟨⟨_,_,rfl⟩,fun F n Qw a w h=>Io h⟩
     | some j=>intro h;cases h
    | _=>cases q <;> (intro h;cases h;exact ⟨⟨_,_,rfl⟩,fun F n Qw a w h=>h⟩)
   | scope c =>
    cases e with
    | goto l =>
     intro h
     unfold exitS at h
     simp only at h
     split at h
     ·rename_i rest hl
      cases h
      refine ⟨⟨_,_,rfl⟩,fun F n Qw a w h=>?_⟩
      show ScopeQ F n P c (after F n P Qw ks) (.goto l) a w
      simp only [ScopeQ,hl]
      exact h
     ·rename_i hl
      cases h
      refine ⟨⟨_,_,rfl⟩,fun F n Qw a w h=>?_⟩
      show ScopeQ F n P c (after F n P Qw ks) (.goto l) a w
      simp only [ScopeQ,hl]
      exact h
    | _=>intro h;cases h;exact ⟨⟨_,_,rfl⟩,fun F n Qw a w h=>h⟩
   | noGoto =>
    cases e with
    | goto l=>intro h;cases h
    | _=>intro h;cases h;exact ⟨⟨_,_,rfl⟩,fun F n Qw a w h=>h⟩
   | draw all r=>cases e <;> (intro h;cases h;exact ⟨⟨_,_,rfl⟩,fun F n Qw a w h=>h⟩)
 obtain ⟨⟨cur,ks,rfl⟩,key⟩:=key
 refine Ado (s':=s.to cur ks) rfl rfl rfl rfl (fun F n Qw a w h=>?_) k
 rw [hc]
 exact key F n Qw a w h
theorem Atw {c:Operand} {x y:Code} (b:Bool) (hc:s.cur = .code (.cond c x y)) (hb:ev s.tm c = .v (.c (.raw (.bool b)))) (k:Sx P K (s.to (.code (bif b then x else y)) s.ks) ρ Q):Sx P K s ρ Q:=by
 intro F hF n bs hB Qw hQ σ a w hA
 rw [hc]
 have hv:a.eval c = .bool b:=by rw [(hA.tm.ev a.defers c).1,hb];rfl
 refine wpIn_cond hv ?_
 have:=k F hF n bs hB Qw hQ σ a w (hA.move rfl rfl rfl rfl)
 cases b <;> exact this
theorem Jx (k:Sx P K s' ρ Q) (hm:s'.m=s.m) (hY:s'.Y=s.Y) (ht:s'.tm=s.tm) (hn:s'.nt=s.nt) (h:∀ F n Qw a w,den F n P Qw s'.ks s'.cur a w→den F n P Qw s.ks s.cur a w):Sx P K s ρ Q:=Ado hm hY ht hn h k
theorem Atk (h:stepS P K s=some s') (k:Sx P K s' ρ Q):Sx P K s ρ Q:=by
 obtain ⟨cur,ks,tm,m,Y,nt,key⟩:=s
 cases cur with
 | exit e=>exact Arr rfl h k
 | draw all r=>cases h
 | ops all l =>
  cases l with
  | nil=>cases h;exact Jx k rfl rfl rfl rfl (fun F n Qw a w h=>h)
  | cons o l =>
   unfold stepS at h
   simp only at h
   rw [cond_eq_ite] at h
   split at h
   ·cases h
   rename_i hop
   have hop:openB all tm o=false:=by simpa using hop
   split at h
   ·rename_i hw
    cases ho:opW P K o.op o.type tm m with
    | no=>rw [ho] at h;cases h
    | ok x m1=>rw [ho] at h;exact Awu rfl hop hw (fun c hc=>by rw [hc] at ho;cases ho) (opOk ho) h k
   ·rename_i hw
    exact Atl rfl hop hw h k
 | code c =>
  cases c with
  | skip=>cases h;exact Jx k rfl rfl rfl rfl (fun F n Qw a w h=>wpIn_skip h)
  | label l=>cases h;exact Jx k rfl rfl rfl rfl (fun F n Qw a w h=>wpIn_label h)
  | exit id=>cases h;exact Jx k rfl rfl rfl rfl (fun F n Qw a w h=>wpIn_exit h)
  | goto l=>cases h;exact Jx k rfl rfl rfl rfl (fun F n Qw a w h=>wpIn_goto h)
  | ret=>cases h;exact Jx k rfl rfl rfl rfl (fun F n Qw a w h=>wpIn_ret h)
  | seq x y=>cases h;exact Jx k rfl rfl rfl rfl (fun F n Qw a w h=>wpIn_seq h)
  | cond c x y =>
   unfold stepS at h
   simp only at h
   split at h
   ·rename_i b hb
    cases h
    exact Atw b rfl hb k
   ·cases h
  | block id x=>cases h;exact Jx k rfl rfl rfl rfl (fun F n Qw a w h=>wpIn_block h)
  | loop x=>cases h;exact Jx k rfl rfl rfl rfl (fun F n Qw a w h=>Pc (Io h))
  | scope x=>cases h;exact Jx k rfl rfl rfl rfl (fun F n Qw a w h=>Ac5 h)
  | region id ops d =>
   cases d with
   | false=>cases h;exact Jx k rfl rfl rfl rfl (fun F n Qw a w h=>wpIn_region_list h)
   | true=>cases h
  | refuse why=>cases h
  | rangeFunc f ps a b=>cases h
theorem Awy {e:Exit} (hc:s.cur = .exit e) (hk:s.ks=[]) (h:Q.q e s.tm s.m s.Y ρ):Sx P K s ρ Q:=by
 intro F hF n b hB Qw hQ σ a w hA
 rw [hc,hk]
 exact hQ.1 e s.tm s.m s.Y ρ s.key σ a w h (hA.move rfl rfl rfl rfl)
theorem Sx.mono {Q':Post} (h:Sx P K s ρ Q) (hq:∀ e tm m Y ρ,Q.q e tm m Y ρ→Q'.q e tm m Y ρ) (hL:Q.L=Q'.L):Sx P K s ρ Q':=by
 intro F hF n b hB Qw hQ
 exact h F hF n b hB Qw ⟨fun e tm m Y ρ' key σ a w hqq=>hQ.1 e tm m Y ρ' key σ a w (hq _ _ _ _ _ hqq),by rw [hL];exact hQ.2⟩
end
end Go.Vc
