import Derived.Test.YtneooimijbfmgaaGreatSsAF
set_option linter.unusedVariables false
set_option linter.unusedSimpArgs false
set_option linter.unusedSectionVars false
noncomputable section
namespace Go.Vc
def putY (s:St) (all:Array Oper) (o:Oper) (l:List Oper) (x:W) (m:Mem) (Y:T YRow):Option St:=match putR s.nt s.tm o.dst (.ok x m) with
 | .ok tm m=>some ⟨.ops all l,s.ks,tm,m,Y,s.nt,s.key⟩
 | .no=>none
section
variable [H:Holes] {P:Program} {K:Nat→Option (List Value)} {s s':St} {ρ ρ':Rho} {Q:Post}
theorem Alp {t i:Nat} {c:Bool} (ht:s.tm.get t = .v (.c (.sb i))) (hc:∀ (b:Bs) (σ:Env) (w:World),Aw K b s.m s.Y ρ σ w→σ.r.t i=c) (hY:s'.Y=s.Y∨s'.Y=s.Y.set i (.kb c)∧(∃ y,s.Y.get i=some y)∧ρ.t i=c) (hcur:s'.cur=s.cur) (hks:s'.ks=s.ks) (htm:s'.tm=s.tm.set t (.v (.c (.raw (.bool c))))) (hm:s'.m=s.m) (hnt:s'.nt=s.nt)
  (k:Sx P K s' ρ Q):Sx P K s ρ Q:=by
 intro F hF n b hB Qw hQ σ a w hA
 have hv:=hc b σ w hA.aw
 rw [←hcur,←hks]
 refine k F hF n b hB Qw (by rw [hnt];exact hQ) σ a w ⟨?_,?_,by rw [hnt];exact hA.nt,hA.mks⟩
 ·rw [hm]
  rcases hY with hY | ⟨hY,⟨y,hy⟩,hρ⟩
  ·rw [hY];exact hA.aw
  ·rw [hY]
   obtain ⟨G,hG⟩:=hA.aw.y
   refine ⟨hA.aw.rel,hA.aw.nx,hA.aw.agree,hA.aw.nx1,hA.aw.agree1,hA.aw.base,hA.aw.goes,hA.aw.frame,hA.aw.own,⟨G,hG.add (hG.row i y hy).1 rfl hv⟩,fun q x hq=>?_,hA.aw.dfr,hA.aw.keep,hA.aw.klow⟩
   rw [T.get_set] at hq
   split at hq
   ·rename_i he;cases hq;subst he;exact hv.trans hρ.symm
   ·exact hA.aw.ag q x hq
 ·rw [htm,hm]
  refine ⟨fun q=>?_,fun q=>?_⟩
  ·rw [Tm.get_set]
   split
   ·rename_i hq
    rw [←hq,hA.tm.get t,ht]
    show Value.bool (σ.r.t i)=_
    rw [hv];rfl
   ·exact hA.tm.get q
  ·rw [Tm.get_set]
   split
   ·trivial
   ·exact hA.tm.lt q
theorem Fe {all:Array Oper} {o:Oper} {l:List Oper} {m':Mem} {Y':T YRow} {x:W} (hc:s.cur = .ops all (o::l)) (hop:openB all s.tm o=false) (hw:wantW all s.tm o=true) (hnd:∀ c,o.op≠.defer c) (hp:putY s all o l x m' Y'=some s') (k:Sx P K s' ρ' Q)
  {b:Bs} {σ τ:Env} {a:Act} {w:World} (hA:At K b s ρ σ a w) (hτ:Agree s.m.nx σ τ) (hnx:s.m.nx≤m'.nx) (hAw:Aw K b m' Y' ρ' τ w) (hx:x.lt m'.nx) {F:Fence} (hF:WF F) {n:Nat} (hB:RoundB b F) {Qw:Qs} (hQ:QOk K b s.nt Q Qw):den F n P Qw s.ks (.ops all l) (a.put o.dst (realW τ x)) w:=by
 unfold putY at hp
 cases hput:putR s.nt s.tm o.dst (.ok x m') with
 | no=>rw [hput] at hp;cases hp
 | ok tm m2 =>
  rw [hput] at hp
  cases hp
  obtain ⟨x',hx',hpk⟩:=Ei hput
  cases hx'
  refine k F hF n b hB Qw hQ τ _ w ⟨hAw,hpk τ m'.nx a (hA.tm.agree hτ hnx) hA.nt hx,by rw [Bz];exact hA.nt,?_⟩
  obtain ⟨rs,q1,q2,q3⟩:=hA.mks
  exact ⟨rs,by rw [Bd];exact q1,q2,q3⟩
theorem Hz {all:Array Oper} {o:Oper} {l:List Oper} (hc:s.cur = .ops all (o::l)) (hop:openB all s.tm o=false) (hw:wantW all s.tm o=true) (hnd:∀ c,o.op≠.defer c)
  (h:∀ (F:Fence),WF F→∀ (n:Nat) (b:Bs),RoundB b F→∀ (Qw:Qs),QOk K b s.nt Q Qw →
   ∀ (σ:Env) (a:Act) (w:World) (G:Nat→Prop),At K b s ρ σ a w→YRel G b.F0 b.wB.heap.size σ s.m s.Y w→AnsOk G b.wB.heap.size σ s.m.nx ρ w ((execOp a.eval o).run P w) (symA P s.Y s.tm o.op)→Und F P (fun v w'=>den F n P Qw s.ks (.ops all l) (a.put o.dst v) w') ((execOp a.eval o).run P w)):Sx P K s ρ Q :=
 Fd hc hop hw hnd fun F hF n b hB Qw hQ σ a w hA=>by
  obtain ⟨G,hG⟩:=hA.aw.y
  exact h F hF n b hB Qw hQ σ a w G hA hG (Aln hA.tm hA.aw.ag hG)
section
variable {all:Array Oper} {o:Oper} {l:List Oper} (hc:s.cur = .ops all (o::l)) (hop:openB all s.tm o=false) (hw:wantW all s.tm o=true) (hnd:∀ c,o.op≠.defer c)
include hc hop hw hnd
theorem Aww {k:IntKind} {f:Rho→Int} (ha:symA P s.Y s.tm o.op = .int k f) (hp:putY s all o l (one (.si k s.m.nx)) (s.m.up (Nat.succ s.m.nx)) (s.Y.set s.m.nx .int)=some s') (h:∀ x,x=f ρ→Sx P K s' (ρ.setN s.m.nx x) Q):Sx P K s ρ Q:=by
 refine Hz hc hop hw hnd fun F hF n b hB Qw hQ σ a w G hA hG hans=>?_
 rw [ha] at hans
 have hans:(execOp a.eval o).run P w = .ok (.value (.int k (f ρ))) w:=hans
 rw [hans]
 obtain ⟨τ,k1,k2,k3,k4,k5⟩:=hA.aw.symD hG (k := .int k) (d := .raw (.int k (f ρ))) (v := .int k (f ρ)) (own:=false) (.int k _) (.raw _ rfl)
 have:=Fe hc hop hw hnd hp (h _ rfl) hA k1 (Nat.le_succ _) k2 k5 hF (n:=n) hB hQ
 rw [show realW τ (one (.si k s.m.nx)) = .int k (f ρ) from k4] at this
 exact this
theorem Atp {k:IntKind} {p:Rho→Prop} {f:Rho→Int} (ha:symA P s.Y s.tm o.op = .intP k p f) (h0:p ρ) (hp:putY s all o l (one (.si k s.m.nx)) (s.m.up (Nat.succ s.m.nx)) (s.Y.set s.m.nx .int)=some s') (h:∀ x,x=f ρ→Sx P K s' (ρ.setN s.m.nx x) Q):Sx P K s ρ Q:=by
 refine Hz hc hop hw hnd fun F hF n b hB Qw hQ σ a w G hA hG hans=>?_
 rw [ha] at hans
 have hans:(execOp a.eval o).run P w = .ok (.value (.int k (f ρ))) w:=hans h0
 rw [hans]
 obtain ⟨τ,k1,k2,k3,k4,k5⟩:=hA.aw.symD hG (k := .int k) (d := .raw (.int k (f ρ))) (v := .int k (f ρ)) (own:=false) (.int k _) (.raw _ rfl)
 have:=Fe hc hop hw hnd hp (h _ rfl) hA k1 (Nat.le_succ _) k2 k5 hF (n:=n) hB hQ
 rw [show realW τ (one (.si k s.m.nx)) = .int k (f ρ) from k4] at this
 exact this
theorem Awr {p:Rho→Prop} {f:Rho→ByteArray} (ha:symA P s.Y s.tm o.op = .str p f) (h0:p ρ) (hp:putY s all o l (one (.ss s.m.nx)) (s.m.up (Nat.succ s.m.nx)) (s.Y.set s.m.nx .str)=some s') (h:∀ x,x=f ρ→Sx P K s' (ρ.setS s.m.nx x) Q):Sx P K s ρ Q:=by
 refine Hz hc hop hw hnd fun F hF n b hB Qw hQ σ a w G hA hG hans=>?_
 rw [ha] at hans
 have hans:(execOp a.eval o).run P w = .ok (.value (.string (f ρ))) w:=hans h0
 rw [hans]
 obtain ⟨τ,k1,k2,k3,k4,k5⟩:=hA.aw.symD hG (k := .str) (d := .raw (.string (f ρ))) (v := .string (f ρ)) (own:=false) (.str _) (.raw _ rfl)
 have:=Fe hc hop hw hnd hp (h _ rfl) hA k1 (Nat.le_succ _) k2 k5 hF (n:=n) hB hQ
 rw [show realW τ (one (.ss s.m.nx)) = .string (f ρ) from k4] at this
 exact this
theorem Xq {p:Rho→Prop} {s1 s2:St} (ha:symA P s.Y s.tm o.op = .test p) (hp1:putY s all o l (one (.raw (.bool true))) s.m s.Y=some s1) (hp2:putY s all o l (one (.raw (.bool false))) s.m s.Y=some s2) (ht:p ρ→Sx P K s1 ρ Q) (hf:¬p ρ→Sx P K s2 ρ Q):Sx P K s ρ Q:=by
 refine Hz hc hop hw hnd fun F hF n b hB Qw hQ σ a w G hA hG hans=>?_
 rw [ha] at hans
 obtain ⟨q,h1,h2⟩:=hans
 rw [h2]
 cases q with
 | true=>exact Fe hc hop hw hnd hp1 (ht (h1.1 rfl)) hA (Agree.refl _ _) (Nat.le_refl _) hA.aw (x:=one (.raw (.bool true))) trivial hF (n:=n) hB hQ
 | false=>exact Fe hc hop hw hnd hp2 (hf (fun hq=>by cases h1.2 hq)) hA (Agree.refl _ _) (Nat.le_refl _) hA.aw (x:=one (.raw (.bool false))) trivial hF (n:=n) hB hQ
theorem Awv {c:Bool} {p:Rho→Prop} {s1 s2:St} (ha:symA P s.Y s.tm o.op = .may c p) (hp1:putY s all o l (one (.raw (.bool c))) s.m s.Y=some s1) (hp2:putY s all o l (one (.raw (.bool (!c)))) s.m s.Y=some s2) (ht:p ρ→Sx P K s1 ρ Q) (hf:Sx P K s2 ρ Q):Sx P K s ρ Q:=by
 refine Hz hc hop hw hnd fun F hF n b hB Qw hQ σ a w G hA hG hans=>?_
 rw [ha] at hans
 obtain ⟨q,h1,h2⟩:=hans
 rw [h2]
 by_cases hq:q=c
 ·subst hq
  exact Fe hc hop hw hnd hp1 (ht (h1 rfl)) hA (Agree.refl _ _) (Nat.le_refl _) hA.aw (x:=one (.raw (.bool q))) trivial hF (n:=n) hB hQ
 ·obtain rfl:q=!c:=by cases q <;> cases c <;> simp_all
  exact Fe hc hop hw hnd hp2 hf hA (Agree.refl _ _) (Nat.le_refl _) hA.aw (x:=one (.raw (.bool (!c)))) trivial hF (n:=n) hB hQ
theorem Awp {x:W} (ha:symA P s.Y s.tm o.op = .val x) (hp:putY s all o l x s.m s.Y=some s') (h:Sx P K s' ρ Q):Sx P K s ρ Q:=by
 refine Hz hc hop hw hnd fun F hF n b hB Qw hQ σ a w G hA hG hans=>?_
 rw [ha] at hans
 obtain ⟨h1,h2⟩:=hans
 rw [h1]
 exact Fe hc hop hw hnd hp h hA (Agree.refl _ _) (Nat.le_refl _) hA.aw h2 hF (n:=n) hB hQ
end
end
end Go.Vc

namespace Go.Vc
def Shp (ks:List Kd) (l:List (List D)):Prop:=∀ cs∈l,DKs ks cs
section
variable [H:Holes] {P:Program} {K:Nat→Option (List Value)} {s s':St} {ρ ρ':Rho} {Q:Post}
theorem Aw.place {b:Bs} {m:Mem} {Y:T YRow} {σ:Env} {w:World} {G:Nat→Prop} (h:Aw K b m Y ρ σ w) (hG:YRel G b.F0 b.wB.heap.size σ m Y w) {own:Bool} {cs:List C} {g o:Nat} (hg:Fo G b.wB.heap.size own g)
  (hc:∀ (j:Nat) (c:C),cs[j]?=some c→C.lt m.nx c∧w.cell? ⟨g,o+j,none⟩=some (realC σ c)) :
  ∃ τ,Agree m.nx σ τ∧Aw K b (m.up (Nat.succ m.nx)) (Y.set m.nx (.fp own cs)) ρ τ w∧realC τ (.fp m.nx 0) = .pointer (some ⟨g,o,none⟩)∧Lt m.nx (Nat.succ m.nx):=by
 have ha:=Env.agree_set σ m.nx g o 0 .nilFunc
 obtain ⟨h1,_⟩:=h.sym hG ha (y := .fp own cs) rfl ⟨by rw [Env.set_b];exact hg,fun j c hj=>by
  obtain ⟨h2,h3⟩:=hc j c hj
  rw [Env.set_b,Env.set_o,ha.realC h2]
  exact ⟨h2.mono (Nat.le_succ _),h3⟩⟩ (RhoEq.refl _ ρ) trivial
 exact ⟨_,ha,h1,by simp [realC],h.rel.ltnx⟩
section
variable {all:Array Oper} {o:Oper} {l:List Oper} (hc:s.cur = .ops all (o::l)) (hop:openB all s.tm o=false) (hw:wantW all s.tm o=true) (hnd:∀ c,o.op≠.defer c)
include hc hop hw hnd
theorem Att {i:Nat} {own:Bool} {ix:Rho→Int} {ks:List Kd} (ha:symA P s.Y s.tm o.op = .elem i own ix ks) (h0:0≤ix ρ∧ix ρ<((ρ.d i).length:Int)) (hs:Shp ks (ρ.d i))
  (h:allK ks s.m.nx ρ fun ds ρ'=>(ρ.d i)[(ix ρ).toNat]?=some ds→∃ s',putY s all o l (one (.fp (s.m.nx+ks.length) 0)) (s.m.up (Nat.succ (s.m.nx+ks.length))) ((rowsK own ks s.m.nx s.Y).set (s.m.nx+ks.length) (.fp own (cellsK ks s.m.nx)))=some s'∧Sx P K s' ρ' Q):Sx P K s ρ Q:=by
 have hlt:(ix ρ).toNat<(ρ.d i).length:=by omega
 obtain ⟨ds,h1⟩:∃ ds,(ρ.d i)[(ix ρ).toNat]?=some ds:=⟨_,List.getElem?_eq_getElem hlt⟩
 have hd:=hs ds (List.mem_of_getElem? h1)
 have h0:=h0.1
 obtain ⟨s',hp,k⟩:=Ex _ _ _ _ h ds hd h1
 refine Hz hc hop hw hnd fun F hF n b hB Qw hQ σ a w G hA hG hans=>?_
 rw [ha] at hans
 obtain ⟨g,og,vs,r1,r2,r3,r4,r5⟩:=hans ds h0 h1 hd
 rw [r1]
 obtain ⟨τ,k1,k2,k3,k4,k5⟩:=Aw.symK ks ds vs s.m.nx rfl hA.aw hG hd r3 r5
 obtain ⟨υ,j1,j2,j3,j4⟩:=k2.place (cs:=cellsK ks s.m.nx) (own:=own) (g:=g) (o:=og) k3 r2 fun j c hj=>⟨k5 c (List.mem_of_getElem? hj),r4 j _ (by rw [←k4,List.getElem?_map,hj];rfl)⟩
 have hle:s.m.nx≤(s.m.up (s.m.nx+ks.length)).nx:=Nat.le_add_right _ _
 have:=Fe hc hop hw hnd hp k hA (k1.trans hle j1) (Nat.le_trans hle (Nat.le_succ _)) j2 (x:=one (.fp (s.m.nx+ks.length) 0)) j4 hF (n:=n) hB hQ
 rw [show realW υ (one (.fp (s.m.nx+ks.length) 0)) = .pointer (some ⟨g,og,none⟩) from j3] at this
 exact this
theorem Awq {i:Nat} {own:Bool} {c z:Nat} {lo hi mx:Option (Rho→Int)} (ha:symA P s.Y s.tm o.op = .sub i own c z lo hi mx) (h0:Part ρ i z lo hi mx)
  (hp:putY s all o l (one (.fz s.m.nx)) (s.m.up (Nat.succ s.m.nx)) (s.Y.set s.m.nx (.fz own c s.m.nx))=some s') (h:∀ x,x=partD ρ i lo hi→Sx P K s' (ρ.setD s.m.nx x) Q):Sx P K s ρ Q:=by
 refine Hz hc hop hw hnd fun F hF n b hB Qw hQ σ a w G hA hG hans=>?_
 rw [ha] at hans
 obtain ⟨v,r1,r2,r3,r4⟩:=hans h0
 rw [r1]
 have hl:Lt s.m.nx (s.m.nx+1):=hA.aw.rel.ltnx
 generalize hx:partD ρ i lo hi=x at r2 r4
 have k1:=Env.agree_sym σ s.m.nx v (σ.r.setD s.m.nx x) (Am _ _ _)
 obtain ⟨k2,_⟩:=hA.aw.sym hG k1 (y := .fz own c s.m.nx) rfl ⟨hl,show RD _ w (.fs ((σ.r.setD s.m.nx x).d s.m.nx)) ((σ.sym s.m.nx v (σ.r.setD s.m.nx x)).v s.m.nx) by rw [Ay,Env.sym_v];exact r2,fun hc=>by rw [Env.sym_v];exact r3 hc,fun hc=>by show (σ.r.setD s.m.nx x).d s.m.nx=[];rw [Ay];exact r4 hc⟩ (Am ρ s.m.nx x) (show (σ.r.setD s.m.nx x).d s.m.nx=(ρ.setD s.m.nx x).d s.m.nx by rw [Ay,Ay])
 have:=Fe hc hop hw hnd hp (h _ hx.symm) hA k1 (Nat.le_succ _) k2 (x:=one (.fz s.m.nx)) hl hF (n:=n) hB hQ
 rw [show realW (σ.sym s.m.nx v (σ.r.setD s.m.nx x)) (one (.fz s.m.nx))=v by
  obtain ⟨a,q,hv⟩:=r2.slice
  show realC _ (.fz s.m.nx)=v
  simp only [realC,Env.sym_v,hv]] at this
 exact this
end
end
end Go.Vc

namespace Go.Vc
def cutW (ks:List Kd) (n o:Nat):Option Nat→W
 | some k=>.v (.a (((cellsK ks n).drop o).take k))
 | none=>match (cellsK ks n)[o]? with
  | some c=>one c
  | none=>undefW
section
variable [H:Holes] {P:Program} {K:Nat→Option (List Value)} {s s':St} {ρ ρ':Rho} {Q:Post}
theorem An8 {σ:Env} {ks:List Kd} {n o nx:Nat} {vs:List Value} {k:Option Nat} (h:(cellsK ks n).map (realC σ)=vs) (hl:o+k.getD 1≤vs.length) (hlt:∀ c∈cellsK ks n,C.lt nx c) :
  realW σ (cutW ks n o k)=cutV vs o k∧(cutW ks n o k).lt nx:=by
 cases k with
 | some k =>
  refine ⟨?_,fun c hc=>hlt c (List.mem_of_mem_drop (List.mem_of_mem_take hc))⟩
  show Value.agg _=Value.agg _
  rw [←h,List.map_take,List.map_drop]
 | none =>
  have ho:o<(cellsK ks n).length:=by rw [←h] at hl;simp at hl;omega
  unfold cutW
  rw [List.getElem?_eq_getElem ho]
  refine ⟨?_,hlt _ (List.getElem_mem ho)⟩
  show realC σ _=vs.getD o undef
  rw [←h,List.getD_eq_getElem?_getD,List.getElem?_map,List.getElem?_eq_getElem ho]
  rfl
section
variable {all:Array Oper} {o:Oper} {l:List Oper} (hc:s.cur = .ops all (o::l)) (hop:openB all s.tm o=false) (hw:wantW all s.tm o=true) (hnd:∀ c,o.op≠.defer c)
theorem Aw.eptr {b:Bs} {m:Mem} {Y:T YRow} {σ:Env} {w:World} {G:Nat→Prop} (h:Aw K b m Y ρ σ w) (hG:YRel G b.F0 b.wB.heap.size σ m Y w) {i z:Nat} {x:Int} (hi:Lt i m.nx) (h0:0≤x) :
  ∃ τ,Agree m.nx σ τ∧Aw K b (m.up (Nat.succ (Nat.succ m.nx))) ((Y.set m.nx .int).set (Nat.succ m.nx) (.ep i m.nx z)) (ρ.setN m.nx x) τ w∧YRel G b.F0 b.wB.heap.size τ (m.up (Nat.succ (Nat.succ m.nx))) ((Y.set m.nx .int).set (Nat.succ m.nx) (.ep i m.nx z)) w ∧
   realC τ (.fp (Nat.succ m.nx) 0) = .pointer (some ⟨σ.b i,x.toNat*z,none⟩)∧Lt (Nat.succ m.nx) (Nat.succ (Nat.succ m.nx)):=by
 obtain ⟨τ,k1,k2,k3,k4,k5⟩:=h.symD hG (k := .int .i64) (d := .raw (.int .i64 x)) (v := .int .i64 x) (own:=false) (.int .i64 _) (.raw _ rfl)
 have hx:τ.r.n m.nx=x:=by
  have:Value.int .i64 (τ.r.n m.nx) = .int .i64 x:=k4
  cases this;rfl
 have ha:=Env.agree_set τ (m.nx+1) (τ.b i) (x.toNat*z) 0 .nilFunc
 have hi1:Lt i (m.nx+1):=hi.mono (Nat.le_succ _)
 have hn1:Lt m.nx (m.nx+1):=h.rel.ltnx
 obtain ⟨j1,j2⟩:=k2.sym k3 ha (y := .ep i m.nx z) rfl ⟨hi1.mono (Nat.le_succ _),hn1.mono (Nat.le_succ _),by rw [ha.rn _ hn1,hx];exact h0,by
   show (τ.set (m.nx+1) (τ.b i) (x.toNat*z) 0 .nilFunc).b (m.nx+1)=_
   rw [Env.set_b,ha.b _ hi1],by
   show (τ.set (m.nx+1) (τ.b i) (x.toNat*z) 0 .nilFunc).o (m.nx+1)=_
   rw [Env.set_o,ha.rn _ hn1,hx]⟩ (RhoEq.refl _ _) trivial
 refine ⟨_,k1.trans (Nat.le_succ _) ha,j1,j2,?_,k2.rel.ltnx⟩
 show Value.pointer (some ⟨(τ.set (m.nx+1) (τ.b i) (x.toNat*z) 0 .nilFunc).b (m.nx+1),(τ.set (m.nx+1) (τ.b i) (x.toNat*z) 0 .nilFunc).o (m.nx+1)+0,none⟩)=_
 rw [Env.set_b,Env.set_o,k1.b i hi,Nat.add_zero]
include hc hop hw hnd
theorem Atr {i j z:Nat} {ix:Rho→Int} (ha:symA P s.Y s.tm o.op = .eptr i j z ix) (h0:0≤ix ρ∧ix ρ<((ρ.d j).length:Int))
  (hp:putY s all o l (one (.fp (Nat.succ s.m.nx) 0)) (s.m.up (Nat.succ (Nat.succ s.m.nx))) ((s.Y.set s.m.nx .int).set (Nat.succ s.m.nx) (.ep i s.m.nx z))=some s') (h:∀ x,x=ix ρ→Sx P K s' (ρ.setN s.m.nx x) Q):Sx P K s ρ Q:=by
 refine Hz hc hop hw hnd fun F hF n b hB Qw hQ σ a w G hA hG hans=>?_
 rw [ha] at hans
 obtain ⟨r1,r2⟩:=hans h0.1 h0.2
 rw [r1]
 obtain ⟨τ,k1,k2,_,k4,k5⟩:=hA.aw.eptr hG (z:=z) r2 h0.1
 have:=Fe hc hop hw hnd hp (h _ rfl) hA k1 (by show s.m.nx≤s.m.nx+1+1;omega) k2 (x:=one (.fp (Nat.succ s.m.nx) 0)) k5 hF (n:=n) hB hQ
 rw [show realW τ (one (.fp (Nat.succ s.m.nx) 0))=_ from k4] at this
 exact this
theorem Aqe {j x:Nat} {own:Bool} {ks:List Kd} {off:Nat} {k:Option Nat} (ha:symA P s.Y s.tm o.op = .eload j own x ks off k) (h0:0≤ρ.n x∧ρ.n x<((ρ.d j).length:Int)) (hs:Shp ks (ρ.d j))
  (h:allK ks s.m.nx ρ fun ds ρ'=>(ρ.d j)[(ρ.n x).toNat]?=some ds→∃ s',putY s all o l (cutW ks s.m.nx off k) (s.m.up (s.m.nx+ks.length)) (rowsK own ks s.m.nx s.Y)=some s'∧Sx P K s' ρ' Q):Sx P K s ρ Q:=by
 have hlt:(ρ.n x).toNat<(ρ.d j).length:=by omega
 obtain ⟨ds,h1⟩:∃ ds,(ρ.d j)[(ρ.n x).toNat]?=some ds:=⟨_,List.getElem?_eq_getElem hlt⟩
 have hd:=hs ds (List.mem_of_getElem? h1)
 obtain ⟨s',hp,kk⟩:=Ex _ _ _ _ h ds hd h1
 refine Hz hc hop hw hnd fun F hF n b hB Qw hQ σ a w G hA hG hans=>?_
 rw [ha] at hans
 obtain ⟨vs,r1,r2,r3,r4⟩:=hans ds h0.1 h1 hd
 rw [r4]
 obtain ⟨τ,k1,k2,_,k4,k5⟩:=Aw.symK (own:=own) ks ds vs s.m.nx rfl hA.aw hG hd r1 r2
 obtain ⟨c1,c2⟩:=An8 (o:=off) (k:=k) k4 (by rw [r1,Mb hd];exact r3) k5
 have:=Fe hc hop hw hnd hp kk hA k1 (Nat.le_add_right _ _) k2 (x:=cutW ks s.m.nx off k) c2 hF (n:=n) hB hQ
 rw [c1] at this
 exact this
end
end
end Go.Vc

namespace Go.Vc
structure ConT where
 args:List RK
 res:List RK
 pre:List DV→Prop
 post:List DV→List DV→Prop
def retV:List Value→Value
 | [v]=>v
 | vs=>.tuple vs.toArray
def KOk (K:Nat→Option (List Value)) (w:World):Prop:=(∀ g l,K g=some l→∀ j v,l[j]?=some v→w.cell? ⟨g,j,none⟩=some v)∧∀ g l,K g=some l→g<w.heap.size
@[reducible] def noHoles:Holes:=⟨fun _=>False⟩
def Con (P:Program) (K:Nat→Option (List Value)) (f:FuncId) (t:ConT):Prop :=
 CanEnter P f∧∀ (F:Fence),WF F→∀ (n:Nat) (G:Nat→Prop) (w:World) (as:List DV) (vs:List Value),KOk K w→(∀ g,G g→g<w.heap.size)→@RVs G 0 w t.args as vs→t.pre as →
  CallsIn F n P f vs.toArray w fun e w'=>∃ (res:List DV) (us:List Value) (G':Nat→Prop),t.post as res∧e = .returned (retV us)∧Goes w w'∧(∀ g,g<w.heap.size→w'.heap[g]?=w.heap[g]?)∧(∀ g,G' g→g<w'.heap.size∧(G g∨w.heap.size≤g))∧@RVs G' w.heap.size w' t.res res us
def outC (Y:T YRow) (ρ:Rho) (own:Bool):Kd→C→Option D
 | .int q, .raw (.int q' n)=>bif q == q' then some (.raw (.int q n)) else none
 | .int q, .si q' i=>bif q == q' then match Y.get i with
   | some .int=>some (.raw (.int q (ρ.n i)))
   | _=>none
  else none
 | .bool, .raw (.bool b)=>some (.raw (.bool b))
 | .bool, .sb i=>match Y.get i with
  | some .bool=>some (.raw (.bool (ρ.t i)))
  | some (.kb b)=>some (.raw (.bool b))
  | _=>none
 | .str, .raw (.string x)=>some (.raw (.string x))
 | .str, .ss i=>match Y.get i with
  | some .str=>some (.raw (.string (ρ.s i)))
  | _=>none
 | .sl, .raw (.slice none 0 0)=>some (.fs [])
 | .nl, .raw (.slice none 0 0)=>some (.raw (.slice none 0 0))
 | .sl, .sl _ _ 0 _ _=>some (.fs [])
 | .sl, .fz i=>match Y.get i with
  | some (.fz o _ j)=>bif o || !own then some (.fs (ρ.d j)) else none
  | _=>none
 | _,_=>none
def outCs (Y:T YRow) (ρ:Rho) (own:Bool):List Kd→List C→Option (List D)
 | [],[]=>some []
 | k::ks,c::cs=>match outC Y ρ own k c,outCs Y ρ own ks cs with
  | some d,some ds=>some (d::ds)
  | _,_=>none
 | _,_=>none
def outV (Y:T YRow) (ρ:Rho) (r:RK) (v:V):Option DV:=match r,v with
 | ⟨[k],false,own⟩, .c x=>match outC Y ρ own k x with
  | some d=>some (.c d)
  | none=>none
 | ⟨ks,true,own⟩, .a cs=>match outCs Y ρ own ks cs with
  | some ds=>some (.a ds)
  | none=>none
 | _,_=>none
def outVs (Y:T YRow) (ρ:Rho):List RK→List V→Option (List DV)
 | [],[]=>some []
 | r::rs,v::vs=>match outV Y ρ r v,outVs Y ρ rs vs with
  | some d,some ds=>some (d::ds)
  | _,_=>none
 | _,_=>none
def wV:W→Option V
 | .v x=>some x
 | _=>none
def outWs (Y:T YRow) (ρ:Rho):List RK→List W→Option (List DV)
 | [],[]=>some []
 | r::rs,x::xs=>match wV x with
  | some v=>match outV Y ρ r v,outWs Y ρ rs xs with
   | some d,some ds=>some (d::ds)
   | _,_=>none
  | none=>none
 | _,_=>none
def dvOf (r:RK) (ds:List D):DV:=bif r.agg then .a ds else .c (ds.headD (.fs []))
def vOf (r:RK) (cs:List C):V:=bif r.agg then .a cs else .c (cs.headD (.raw .nilFunc))
def allV:List RK→Nat→T YRow→Rho→(List DV→List V→Nat→T YRow→Rho→Prop)→Prop
 | [],n,Y,ρ,k=>k [] [] n Y ρ
 | r::rs,n,Y,ρ,k=>allK r.ks n ρ fun ds ρ=>allV rs (n+r.ks.length) (rowsK r.own r.ks n Y) ρ fun dvs vs n' Y' ρ=>k (dvOf r ds::dvs) (vOf r (cellsK r.ks n)::vs) n' Y' ρ
section
variable [Holes]
section
variable {K:Nat→Option (List Value)} {b:Bs} {F F0:Nat→Prop} {B0:Nat} {σ:Env} {m:Mem} {Y:T YRow} {w:World} {ρ:Rho}
theorem Ami {own:Bool} {k:Kd} {c:C} {d:D} (h:outC Y ρ own k c=some d) (hA:SymAg ρ σ Y) (hF:YRel F F0 B0 σ m Y w):DK k d∧RD (Fo F B0 own) w d (realC σ c):=by
 unfold outC at h
 split at h
 ·rename_i q q' n
  obtain ⟨h1,h2⟩:=Aj h
  have h1:q=q':=by simpa using h1
  subst h1;subst h2
  exact ⟨.int _ _, .raw _ rfl⟩
 ·rename_i q q' i
  cases hq:(q == q') with
  | false=>rw [hq] at h;cases h
  | true =>
   rw [hq] at h
   have h1:q=q':=by simpa using hq
   subst h1
   simp only [cond_true] at h
   split at h
   ·rename_i hi
    cases h
    refine ⟨.int _ _,?_⟩
    show RD _ w _ (.int q (σ.r.n i))
    rw [show σ.r.n i=ρ.n i from hA i _ hi]
    exact .raw _ rfl
   ·cases h
 ·cases h;exact ⟨.bool _, .raw _ rfl⟩
 ·rename_i i
  split at h
  ·rename_i hi
   cases h
   refine ⟨.bool _,?_⟩
   show RD _ w _ (.bool (σ.r.t i))
   rw [show σ.r.t i=ρ.t i from hA i _ hi]
   exact .raw _ rfl
  ·rename_i b' hi
   cases h
   refine ⟨.bool _,?_⟩
   show RD _ w _ (.bool (σ.r.t i))
   rw [show σ.r.t i=b' from (hF.row i _ hi).2]
   exact .raw _ rfl
  ·cases h
 ·cases h;exact ⟨.str _, .raw _ rfl⟩
 ·rename_i i
  split at h
  ·rename_i hi
   cases h
   refine ⟨.str _,?_⟩
   show RD _ w _ (.string (σ.r.s i))
   rw [show σ.r.s i=ρ.s i from hA i _ hi]
   exact .raw _ rfl
  ·cases h
 ·cases h;exact ⟨.sl _, .nil _ _⟩
 ·cases h;exact ⟨.nl, .raw _ rfl⟩
 ·rename_i r o z cap
  cases h
  refine ⟨.sl _,?_⟩
  cases cap <;> exact .nil _ _
 ·rename_i i
  split at h
  ·rename_i o c j hi
   obtain ⟨h1,h2⟩:=Aj h
   subst h2
   refine ⟨.sl _,?_⟩
   have hrd:RD (Fo F B0 o) w (.fs (σ.r.d j)) (σ.v i):=(hF.row i _ hi).2.2.1
   rw [show σ.r.d j=ρ.d j from hA i _ hi] at hrd
   have hr:realC σ (.fz i)=σ.v i:=by
    obtain ⟨a,c,hv⟩:=hrd.slice
    simp only [realC,hv]
   rw [hr]
   refine hrd.keep (fun g hg=>⟨hg.1,fun ho=>hg.2 ?_⟩) fun _ _ _ _ h=>h
   cases o with
   | true=>rfl
   | false=>rw [ho] at h1;cases h1
  ·cases h
 ·cases h
theorem Ho {own:Bool} (hA:SymAg ρ σ Y) (hF:YRel F F0 B0 σ m Y w):∀ (ks:List Kd) (cs:List C) (ds:List D),outCs Y ρ own ks cs=some ds→DKs ks ds∧RDs (Fo F B0 own) w ds (cs.map (realC σ))
 | [],[],ds,h=>by cases h;exact ⟨.nil,rfl,fun j d u hd=>by simp at hd⟩
 | k::ks,c::cs,ds,h=>by
  unfold outCs at h
  split at h
  ·rename_i d ds' hd hds
   cases h
   obtain ⟨h1,h2⟩:=Ami hd hA hF
   obtain ⟨h3,h4,h5⟩:=Ho hA hF ks cs ds' hds
   refine ⟨.cons h1 h3,by simpa using h4,fun j e u he hu=>?_⟩
   cases j with
   | zero=>simp at he hu;subst he hu;exact h2
   | succ j=>exact h5 j e u he hu
  ·cases h
 | [],c::cs,ds,h=>by cases h
 | k::ks,[],ds,h=>by cases h
theorem Amh (hA:SymAg ρ σ Y) (hF:YRel F F0 B0 σ m Y w) {r:RK} {v:V} {d:DV} (h:outV Y ρ r v=some d):RV F B0 w r d (realV σ v):=by
 unfold outV at h
 split at h
 ·rename_i k own x
  split at h
  ·rename_i d' hd
   cases h
   obtain ⟨h1,h2⟩:=Ami hd hA hF
   exact .c _ _ _ _ h1 h2
  ·cases h
 ·rename_i ks own cs
  split at h
  ·rename_i ds hd
   cases h
   obtain ⟨h1,h2⟩:=Ho hA hF _ _ _ hd
   exact .a _ _ _ _ h1 h2
  ·cases h
 ·cases h
theorem Yi (hA:SymAg ρ σ Y) (hF:YRel F F0 B0 σ m Y w):∀ (rs:List RK) (vs:List V) (ds:List DV),outVs Y ρ rs vs=some ds→RVs F B0 w rs ds (vs.map (realV σ))
 | [],[],ds,h=>by cases h;exact .nil
 | r::rs,v::vs,ds,h=>by
  unfold outVs at h
  split at h
  ·rename_i d ds' hd hds
   cases h
   exact .cons (Amh hA hF hd) (Yi hA hF rs vs ds' hds)
  ·cases h
 | [],c::cs,ds,h=>by cases h
 | k::ks,[],ds,h=>by cases h
theorem Yh (hA:SymAg ρ σ Y) (hF:YRel F F0 B0 σ m Y w):∀ (rs:List RK) (xs:List W) (ds:List DV),outWs Y ρ rs xs=some ds→RVs F B0 w rs ds (xs.map (realW σ))
 | [],[],ds,h=>by cases h;exact .nil
 | r::rs,x::xs,ds,h=>by
  unfold outWs at h
  split at h
  ·rename_i v hv
   split at h
   ·rename_i d ds' hd hds
    cases h
    cases x with
    | t l=>cases hv
    | v x=>cases hv;exact .cons (Amh hA hF hd) (Yh hA hF rs xs ds' hds)
   ·cases h
  ·cases h
 | [],c::cs,ds,h=>by cases h
 | k::ks,[],ds,h=>by cases h
theorem RV.mono {G:Nat→Prop} {B1:Nat} {w1:World} {r:RK} {d:DV} {v:Value} (h:RV F B0 w r d v) (hG:∀ g,F g→B0≤g∨r.own=false→G g∧(r.own=true→B1≤g)) (hw:∀ g j v,F g→w.cell? ⟨g,j,none⟩=some v→w1.cell? ⟨g,j,none⟩=some v):RV G B1 w1 r d v:=by
 have key:∀ (own:Bool),(∀ g,F g→B0≤g∨own=false→G g∧(own=true→B1≤g))→∀ g,Fo F B0 own g→Fo G B1 own g:=fun own hG g hg=>by
  cases own with
  | true=>exact hG g hg.1 (.inl (hg.2 rfl))
  | false=>exact hG g hg.1 (.inr rfl)
 cases h with
 | c k own d v hd h=>exact .c _ _ _ _ hd (h.keep (key own hG) fun g j v hg hv=>hw g j v hg.1 hv)
 | a ks own ds vs hd h=>exact .a _ _ _ _ hd ⟨h.1,fun j d u hj hu=>(h.2 j d u hj hu).keep (key own hG) fun g j v hg hv=>hw g j v hg.1 hv⟩
theorem RVs.mono {G:Nat→Prop} {B1:Nat} {w1:World} {rs:List RK} {ds:List DV} {vs:List Value} (h:RVs F B0 w rs ds vs) (hG:∀ (own:Bool) g,F g→B0≤g∨own=false→G g∧(own=true→B1≤g)) (hw:∀ g j v,F g→w.cell? ⟨g,j,none⟩=some v→w1.cell? ⟨g,j,none⟩=some v):RVs G B1 w1 rs ds vs:=by
 induction h with
 | nil=>exact .nil
 | cons h t ih=>exact .cons (h.mono (hG _) hw) ih
end
theorem Aw.symR {K:Nat→Option (List Value)} {b:Bs} {F:Nat→Prop} {w:World}:∀ (rs:List RK) (ds:List DV) (us:List Value) (n:Nat) {σ:Env} {m:Mem} {Y:T YRow} {ρ:Rho} {k:List DV→List V→Nat→T YRow→Rho→Prop},n=m.nx→Aw K b m Y ρ σ w→YRel F b.F0 b.wB.heap.size σ m Y w→RVs F b.wB.heap.size w rs ds us→allV rs n Y ρ k →
  ∃ τ vs n' Y' ρ',m.nx≤n'∧Agree m.nx σ τ∧Aw K b (m.up n') Y' ρ' τ w∧k ds vs n' Y' ρ'∧vs.map (realV τ)=us∧(∀ v∈vs,V.lt n' v)∧YRel F b.F0 b.wB.heap.size τ (m.up n') Y' w∧∀ i y,Y'.get i=some y→y.odB=true→Y.get i=some y
 | [],ds,us,n,σ,m,Y,ρ,k,hn,h,hF,hr,ha=>by
  cases hr
  subst hn
  exact ⟨σ,[],m.nx,Y,ρ,Nat.le_refl _,Agree.refl _ _,h,ha,rfl,(fun v hv=>by cases hv),hF,fun _ _ h _=>h⟩
 | r::rs,ds,us,n,σ,m,Y,ρ,k,hn,h,hF,hr,ha=>by
  cases hr with
  | cons h1 h2 =>
  rename_i d v ds us
  subst hn
  have key:∀ (ks:List Kd) (own:Bool) (es:List D) (vs:List Value),r.ks=ks→r.own=own→DKs ks es→RDs (Fo F b.wB.heap.size own) w es vs→dvOf r es=d→(∀ τ cs,cs.map (realC τ)=vs→realV τ (vOf r cs)=v∧∀ n,(∀ c∈cs,C.lt n c)→V.lt n (vOf r cs)) →
    ∃ τ vs n' Y' ρ',m.nx≤n'∧Agree m.nx σ τ∧Aw K b (m.up n') Y' ρ' τ w∧k (d::ds) vs n' Y' ρ'∧vs.map (realV τ)=v::us∧(∀ v∈vs,V.lt n' v)∧YRel F b.F0 b.wB.heap.size τ (m.up n') Y' w∧∀ i y,Y'.get i=some y→y.odB=true→Y.get i=some y:=fun ks own es vs hks hown hd hrd hdv hv=>by
   subst hks hown
   obtain ⟨τ,k1,k2,k3,k4,k5⟩:=Aw.symK r.ks es vs m.nx rfl h hF hd hrd.1 hrd.2 (ρ:=ρ)
   have ha':=Ex _ _ _ _ ha es hd
   obtain ⟨υ,vs',n',Y',ρ',j0,j1,j2,j3,j4,j5,j6,j7⟩:=Aw.symR rs ds us (m.nx+r.ks.length) (m:=m.up (m.nx+r.ks.length)) rfl k2 k3 h2 ha'
   obtain ⟨g1,g2⟩:=hv τ _ k4
   refine ⟨υ,_::vs',n',Y',ρ',Nat.le_trans (Nat.le_add_right _ _) j0,k1.trans (Nat.le_add_right _ _) j1,j2,by rw [hdv] at j3;exact j3,?_,fun x hx=>?_,j6,fun i y hi ho=>Oz _ _ _ _ _ (j7 i y hi ho) ho⟩
   ·rw [List.map_cons,j4,j1.realV (g2 _ k5),g1]
   ·rcases List.mem_cons.1 hx with rfl | hx
    ·exact (g2 _ k5).mono j0
    ·exact j5 x hx
  cases h1 with
  | c kd own d v hd hrd =>
   refine key [kd] own [d] [v] rfl rfl (.cons hd .nil) ⟨rfl,fun j e u he hu=>?_⟩ rfl fun τ cs hcs=>?_
   ·cases j with
    | zero=>simp at he hu;subst he hu;exact hrd
    | succ j=>simp at he
   ·match cs,hcs with
    | [c],hcs=>simp at hcs;exact ⟨hcs,fun n hn=>hn c (by simp)⟩
  | a ks own es vs hd hrd =>
   exact key ks own es vs rfl rfl hd hrd rfl fun τ cs hcs=>⟨by show Value.agg (cs.map (realC τ)).toArray=_;rw [hcs],fun n hn=>hn⟩
end
end Go.Vc

namespace Go.Vc
section
variable [Holes]
section
variable {K:Nat→Option (List Value)} {b:Bs} {F F0 G:Nat→Prop} {B0:Nat} {σ τ:Env} {m:Mem} {Y:T YRow} {w w1:World} {ρ:Rho}
theorem Gl (h:Rel K σ m w) (hg:Goes w w1) (hk:∀ g,g<w.heap.size→w1.heap[g]?=w.heap[g]?):Step K σ m w σ m w1 where
 nx:=Nat.le_refl _
 agree:=Agree.refl _ _
 rel:=⟨fun i s hs=>(h.row i s hs).keep (Agree.refl _ _) (h.lt i s hs) (Nat.le_refl _) (fun hb=>hk _ ((h.row i s hs).blk_lt hb)),h.lt,h.inj,Co h (fun g l hg'=>hk g (h.low g l hg')),h.apart,fun g l hg'=>Nat.lt_of_lt_of_le (h.low g l hg') hg.size,h.fresh⟩
 goes:=hg
 frame g hg' _:=hk g hg'
 old i r _ hr hb:=⟨r,hr,hb⟩
 new i r hi hr _:=absurd (h.lt i r hr).lt (by omega)
 lo:=Nat.le_refl _
 keep i r hr hl:=⟨r,hr,hl⟩
theorem Els.more {z:Nat} {arr:Array Value} {l:List (List D)} (hG:∀ g,F g→G g) (h:Els F w z arr l):Els G w z arr l:=fun q cs hq=>by
 obtain ⟨h1,h2⟩:=h q cs hq
 refine ⟨h1,fun p d hp=>?_⟩
 obtain ⟨v,h3,h4⟩:=h2 p d hp
 exact ⟨v,h3,h4.keep hG fun _ _ _ _ h=>h⟩
theorem YOk.more {n i:Nat} {y:YRow} (hG:∀ g,F g→G g) (h:YOk F B0 σ n w i y):YOk G B0 σ n w i y:=by
 have hFo:∀ own g,Fo F B0 own g→Fo G B0 own g:=fun own g hg=>⟨hG g hg.1,hg.2⟩
 cases y with
 | int=>trivial
 | bool=>trivial
 | str=>trivial
 | dead=>trivial
 | kb b=>exact h
 | fz own c j=>exact ⟨h.1,RD.keep (hFo own) (fun _ _ _ _ h=>h) h.2.1,h.2.2⟩
 | fp own cs=>exact ⟨hFo own _ h.1,h.2⟩
 | od e z own j =>
  obtain ⟨h1,h2,a,c,h3,h4⟩:=h
  refine ⟨h1,h2,a,c,h3,?_⟩
  rcases h4 with h4 | ⟨h5,h5',arr,h6,h7,h8,h9⟩
  ·exact .inl h4
  ·exact .inr ⟨h5,h5',arr,h6,h7,h8,h9.more (hFo own)⟩
 | ep q x z=>exact h
 | ov q x z=>exact h
theorem YRel.grow (h:YRel F F0 B0 σ m Y w) (hr:Rel K σ m w) (hB:B0≤w.heap.size) (hg:Goes w w1) (hk:∀ g,g<w.heap.size→w1.heap[g]?=w.heap[g]?) (hG:∀ g,G g→g<w1.heap.size∧(F g∨w.heap.size≤g)):YRel (fun g=>F g∨G g) F0 B0 σ m Y w1:=by
 have h':=h.step (Gl hr hg hk)
 refine ⟨fun g hgg=>?_,fun i y hi=>⟨(h'.row i y hi).1,(h'.row i y hi).2.more fun g hg=>.inl hg⟩,fun i e z o j hi hl=>?_,h'.odi⟩
 ·rcases hgg with hgg | hgg
  ·exact h'.dom g hgg
  ·obtain ⟨h1,h2 | h2⟩:=hG g hgg
   ·exact h'.dom g h2
   ·exact ⟨h1,fun i r hi hb he=>by have:=(hr.row i r hi).blk_lt hb;omega, .inr (by omega)⟩
 ·obtain ⟨h1,h2,h3,h4⟩:=h'.od i e z o j hi hl
  refine ⟨h1,h2,fun hf=>?_,h4⟩
  rcases hf with hf | hf
  ·exact h3 hf
  ·have h5:=(h.od i e z o j hi hl).1
   rcases (hG _ hf).2 with h6 | h6
   ·exact h3 h6
   ·omega
end
section
variable {P:Program} {K:Nat→Option (List Value)} {s:St} {ρ:Rho} {Q:Post}
theorem Abl {σ:Env} {vs:List V} {us:List Value} (h:vs.map (realV σ)=us):retV us=realW σ (ret1 vs):=by
 subst h
 match vs with
 | []=>rfl
 | [x]=>rfl
 | x::y::l=>rfl
theorem Al7 {n:Nat} {vs:List V} (h:∀ v∈vs,V.lt n v):W.lt n (ret1 vs):=by
 match vs with
 | []=>exact fun x hx=>by cases hx
 | [x]=>exact h x (by simp)
 | x::y::l=>exact h
theorem Awz {all:Array Oper} {o:Oper} {l:List Oper} {c:Call} {g:Operand} {f:FuncId} {gs:List W} {t:ConT} {as:List DV} (hc:s.cur = .ops all (o::l)) (hop:openB all s.tm o=false) (hw:wantW all s.tm o=true)
  (ho:o.op = .call c) (hg:c.callee = .value g) (hf:calleeW s.m (ev s.tm g) (c.args.toList.map (ev s.tm))=some (f,gs)) (hcon:Con P K f t) (has:outWs s.Y ρ t.args gs=some as) (hpre:t.pre as)
  (k:allV t.res s.m.nx s.Y ρ fun ds vs n' Y' ρ'=>t.post as ds→∃ s',putY s all o l (ret1 vs) (s.m.up n') Y'=some s'∧Sx P K s' ρ' Q):Sx P K s ρ Q:=by
 have hnd:∀ c',o.op≠.defer c':=fun c' hc'=>by rw [hc'] at ho;cases ho
 refine Fd hc hop hw hnd fun F hF n b hB Qw hQ σ a w hA=>?_
 unfold execOp
 simp only [ho]
 unfold resolve
 rw [Ir hA.tm c.args]
 simp only [hg,(hA.tm.ev a.defers g).1]
 obtain ⟨d,h1,h2,h3⟩:=Hw (P:=P) hf hA.aw.rel (Ny hA.tm c.args)
 show Und F P _ ((do let d ←Deferred.ofValue (realW σ (ev s.tm g)) ((c.args.toList.map (ev s.tm)).map (realW σ)).toArray;invoke d.target d.args:Sem Next).run P w)
 rw [Sem.run_bind,h1,Result.andThen_ok,h2,Dr hcon.1]
 intro n'
 obtain ⟨G,hG⟩:=hA.aw.y
 have hrv:=(Yh hA.aw.ag hG t.args gs as has).mono (G:=G) (B1:=0) (w1:=w) (fun own g hg _=>⟨hg,fun _=>Nat.zero_le _⟩) (fun _ _ _ _ h=>h)
 refine (hcon.2 F hF n' G w as _ ⟨hA.aw.rel.known,hA.aw.rel.low⟩ (fun g hg=>(hG.dom g hg).1) hrv hpre).mono ?_
 rintro e w' ⟨res,us,G',p1,rfl,p3,p4,p5,p6⟩
 refine ⟨_,rfl,?_⟩
 have hst:=Gl hA.aw.rel p3 p4
 have hA':=hA.step hst (hA.tm.agree (Agree.refl _ _) (Nat.le_refl _)) hA.nt rfl s.cur s.ks
 have hG':=hG.grow hA.aw.rel hA.aw.size p3 p4 p5
 have hrv':=p6.mono (G:=fun g=>G g∨G' g) (B1:=b.wB.heap.size) (w1:=w') (fun own g hg ho=>⟨.inr hg,fun ht=>by
  rcases ho with ho | ho
  ·exact Nat.le_trans hA.aw.size ho
  ·rw [ho] at ht;cases ht⟩) (fun _ _ _ _ h=>h)
 obtain ⟨τ,vs,n2,Y',ρ',q0,q1,q2,q3,q4,q5,_⟩:=Aw.symR t.res res us s.m.nx rfl hA'.aw hG' hrv' k
 obtain ⟨s',hp,ks⟩:=q3 p1
 rw [Abl q4]
 exact Fe hc hop hw hnd hp ks hA' q1 q0 q2 (Al7 q5) hF hB hQ
end
end
def rho0:Rho:=⟨fun _=>0,fun _=>false,fun _=>.empty,fun _=>[]⟩
def env0:Env:=⟨fun _=>0,fun _=>0,fun _=>0,fun _=>undef,rho0⟩
def outR (Y:T YRow) (ρ:Rho) (rs:List RK):W→Option (List DV)
 | .v x=>outVs Y ρ rs [x]
 | .t [_]=>none
 | .t l=>outVs Y ρ rs l
theorem RVs.old {F:Nat→Prop} {B1:Nat} {w:World} [Holes] {rs:List RK} {ds:List DV} {vs:List Value} (h:RVs F 0 w rs ds vs) (hr:rs.all (fun r=>!r.own)=true):RVs F B1 w rs ds vs:=by
 induction h with
 | nil=>exact .nil
 | cons h t ih =>
  simp only [List.all_cons,Bool.and_eq_true,Bool.not_eq_true'] at hr
  refine .cons (h.mono (fun g hg _=>⟨hg,fun ho=>?_⟩) fun _ _ _ _ h=>h) (ih hr.2)
  rw [hr.1] at ho;cases ho
theorem RVs.len [Holes] {F:Nat→Prop} {B1:Nat} {w:World} {rs:List RK} {ds:List DV} {vs:List Value} (h:RVs F B1 w rs ds vs):vs.length=rs.length:=by
 induction h with
 | nil=>rfl
 | cons _ _ ih=>simp [ih]
theorem Aoo {P : Program} {K : Nat → Option (List Value)} {f : FuncId} {fn : Func} {c : Code} {t : ConT} {key : Nat} (hf : P.funcs[f]? = some fn) (hname : (fn.name == "runtime.NumGoroutine") = false) (hbody : fn.body = some c) (hle : t.args.length ≤ fn.ntmps) (hown : t.args.all (fun r => !r.own) = true)
  (k:allV t.args 0 .e rho0 fun as vs n Y ρ=>t.pre as→@Sx noHoles P K (startS c fn.ntmps key (vs.map W.v) ⟨.e,n,0⟩ Y) ρ (Ends P K fn fun x _ Y' ρ'=>∃ res,outR Y' ρ' t.res x=some res∧t.post as res)):Con P K f t:=by
 letI:Holes:=noHoles
 refine ⟨⟨fn,hf,hname,by rw [hbody];rfl⟩,fun F hF n G w as us hK hdom hrv hpre=>?_⟩
 have hno:∀ {α:Type} {β:Prop} (i:Nat) (x:α),(T.e:T α).get i=some x→β:=fun i x h=>by rw [T.get_e] at h;cases h
 have hrel:Rel K env0 ⟨.e,0,0⟩ w:=⟨fun i s hs=>hno i s hs,fun i s hs=>hno i s hs,fun i j r s hr=>hno i r hr,hK.1,fun i r hr=>hno i r hr,hK.2,fun i _ h=>h⟩
 have hG:YRel G G w.heap.size env0 ⟨.e,0,0⟩ .e w:=⟨fun g hg=>⟨hdom g hg,fun i r hr=>hno i r hr, .inl hg⟩,fun i y hy=>hno i y hy,fun i e z o j hy=>hno i _ hy,fun i e z o j i' e' z' o' j' hy=>hno i _ hy⟩
 have hA:Aw K ⟨w,G,env0,0,w,fun _=>False,env0,0⟩ ⟨.e,0,0⟩ .e rho0 env0 w:=⟨hrel,Nat.le_refl _,Agree.refl _ _,Nat.zero_le _,Agree.refl _ _,Goes.refl _,Goes.refl _,fun _ _=>rfl,fun i r hr=>hno i r hr,⟨G,hG⟩,fun i y hy=>hno i y hy,fun _ _ h=>h,fun i hi=>hi.elim,hK.2⟩
 obtain ⟨τ,vs,n',Y',ρ',q0,q1,q2,q3,q4,q5,_⟩:=Aw.symR t.args as us 0 rfl hA hG (hrv.old hown) k
 have hlen:vs.length=t.args.length:=by
  have h1:us.length=t.args.length:=by
   exact hrv.len
  rw [←h1,←q4,List.length_map]
 have hargs:us=(vs.map W.v).map (realW τ):=by
  rw [←q4,List.map_map]
  rfl
 rw [hargs]
 refine (Fz hf hbody (by rw [List.length_map,hlen];exact hle) (q3 hpre) hF n q2 (fun x hx=>?_)).mono ?_
 ·obtain ⟨v,hv,rfl⟩:=List.mem_map.1 hx
  exact q5 v hv
 rintro e w' ⟨υ,x,m',Y2,ρ2,⟨res,r1,r2⟩,rfl,hAw,hx⟩
 obtain ⟨G',hG'⟩:=hAw.y
 have fin:∀ (ws:List V),outVs Y2 ρ2 t.res ws=some res→retV (ws.map (realV υ))=realW υ x→∃ (res:List DV) (us:List Value) (G':Nat→Prop),t.post as res∧Ending.returned (realW υ x) = .returned (retV us)∧Goes w w'∧(∀ g,g<w.heap.size→w'.heap[g]?=w.heap[g]?)∧(∀ g,G' g→g<w'.heap.size∧(G g∨w.heap.size≤g))∧RVs G' w.heap.size w' t.res res us:=fun ws hws hr =>
  ⟨res,ws.map (realV υ),G',r2,by rw [hr],hAw.goes,hAw.frame,fun g hg=>⟨(hG'.dom g hg).1,(hG'.dom g hg).2.2⟩,Yi hAw.ag hG' _ _ _ hws⟩
 unfold outR at r1
 split at r1
 ·exact fin _ r1 rfl
 ·cases r1
 ·rename_i l hl
  refine fin _ r1 ?_
  match l with
  | []=>rfl
  | [y]=>exact absurd rfl (hl y)
  | y::y'::l=>rfl
end Go.Vc

namespace Go.Vc
def eqV:Value→Value→Bool
 | .int k n, .int k' n'=>k == k' && n == n'
 | .bool b, .bool b'=>b == b'
 | .pointer none, .pointer none=>true
 | .pointer (some ⟨g,o,none⟩), .pointer (some ⟨g',o',none⟩)=>Nat.beq g g' && Nat.beq o o'
 | .slice none n c, .slice none n' c'=>Nat.beq n n' && Nat.beq c c'
 | .nilFunc, .nilFunc=>true
 | .nilIface, .nilIface=>true
 | .func (.func f) a b, .func (.func f') a' b'=>Nat.beq f f' && (a.isEmpty && b.isEmpty && a'.isEmpty && b'.isEmpty)
 | _,_=>false
def eqO:Option Nat→Option Nat→Bool
 | none,none=>true
 | some a,some b=>Nat.beq a b
 | _,_=>false
def eqC:C→C→Bool
 | .raw v, .raw v'=>eqV v v'
 | .ptr r o, .ptr r' o'=>Nat.beq r r' && Nat.beq o o'
 | .sl r o n z c, .sl r' o' n' z' c'=>Nat.beq r r' && Nat.beq o o' && Nat.beq n n' && Nat.beq z z' && eqO c c'
 | .em r p o z, .em r' p' o' z'=>Nat.beq r r' && Nat.beq p p' && Nat.beq o o' && Nat.beq z z'
 | .clo i, .clo i'=>Nat.beq i i'
 | .ifc t i, .ifc t' i'=>Nat.beq t t' && Nat.beq i i'
 | .mp r, .mp r'=>Nat.beq r r'
 | .fz i, .fz i'=>Nat.beq i i'
 | .fp i o, .fp i' o'=>Nat.beq i i' && Nat.beq o o'
 | .sb i, .sb i'=>Nat.beq i i'
 | .si k i, .si k' i'=>k == k' && Nat.beq i i'
 | .ss i, .ss i'=>Nat.beq i i'
 | _,_=>false
def eqL {α:Type} (f:α→α→Bool):List α→List α→Bool
 | [],[]=>true
 | a::l,b::l'=>f a b && eqL f l l'
 | _,_=>false
def eqVV:V→V→Bool
 | .c x, .c y=>eqC x y
 | .a l, .a l'=>eqL eqC l l'
 | _,_=>false
def eqWW:W→W→Bool
 | .v x, .v y=>eqVV x y
 | .t l, .t l'=>eqL eqVV l l'
 | _,_=>false
theorem nbeq {a b:Nat} (h:Nat.beq a b=true):a=b:=Nat.eq_of_beq_eq_true h
theorem Aya {a b:Value} (h:eqV a b=true):a=b:=by
 unfold eqV at h
 split at h <;> first | (cases h;done) | skip
 ·simp only [Bool.and_eq_true,beq_iff_eq] at h;rw [h.1,h.2]
 ·simp only [beq_iff_eq] at h;rw [h]
 ·rfl
 ·simp only [Bool.and_eq_true] at h;rw [nbeq h.1,nbeq h.2]
 ·simp only [Bool.and_eq_true] at h;rw [nbeq h.1,nbeq h.2]
 ·rfl
 ·rfl
 ·simp only [Bool.and_eq_true,Array.isEmpty_iff] at h
  obtain ⟨h1,⟨⟨h2,h3⟩,h4⟩,h5⟩:=h
  rw [nbeq h1,h2,h3,h4,h5]
theorem Ayb {a b:Option Nat} (h:eqO a b=true):a=b:=by
 unfold eqO at h
 split at h
 ·rfl
 ·rw [nbeq h]
 ·cases h
theorem Sd {a b:C} (h:eqC a b=true):a=b:=by
 unfold eqC at h
 split at h <;> first | (cases h;done) | skip
 ·rw [Aya h]
 ·simp only [Bool.and_eq_true] at h;rw [nbeq h.1,nbeq h.2]
 ·simp only [Bool.and_eq_true] at h;rw [nbeq h.1.1.1.1,nbeq h.1.1.1.2,nbeq h.1.1.2,nbeq h.1.2,Ayb h.2]
 ·simp only [Bool.and_eq_true] at h;rw [nbeq h.1.1.1,nbeq h.1.1.2,nbeq h.1.2,nbeq h.2]
 ·rw [nbeq h]
 ·simp only [Bool.and_eq_true] at h;rw [nbeq h.1,nbeq h.2]
 ·rw [nbeq h]
 ·rw [nbeq h]
 ·simp only [Bool.and_eq_true] at h;rw [nbeq h.1,nbeq h.2]
 ·rw [nbeq h]
 ·simp only [Bool.and_eq_true,beq_iff_eq] at h;rw [h.1,nbeq h.2]
 ·rw [nbeq h]
theorem Ie {α:Type} {f:α→α→Bool} (hf:∀ a b,f a b=true→a=b):∀ (l l':List α),eqL f l l'=true→l=l'
 | [],[],_=>rfl
 | a::l,b::l',h=>by
  unfold eqL at h
  simp only [Bool.and_eq_true] at h
  rw [hf a b h.1,Ie hf l l' h.2]
 | [],_::_,h=>by cases h
 | _::_,[],h=>by cases h
theorem Ael {a b:V} (h:eqVV a b=true):a=b:=by
 unfold eqVV at h
 split at h
 ·rw [Sd h]
 ·rw [Ie (fun _ _ h=>Sd h) _ _ h]
 ·cases h
theorem Sb {a b:W} (h:eqWW a b=true):a=b:=by
 unfold eqWW at h
 split at h
 ·rw [Ael h]
 ·rw [Ie (fun _ _ h=>Ael h) _ _ h]
 ·cases h
end Go.Vc

namespace Go.Vc
def Rows (F:Nat→Prop) (w:World) (z:Nat) (news:List Value) (l:List (List D)):Prop :=
 ∀ (q:Nat) (cs:List D),l[q]?=some cs→cs.length=z∧∀ (p:Nat) (d:D),cs[p]?=some d→∃ v,news[q*z+p]?=some v∧RD F w d v
theorem Dk {q p z n:Nat} (hq:q<n) (hp:p<z):q*z+p<n*z:=by
 have:(q+1)*z≤n*z:=Nat.mul_le_mul_right z hq
 rw [Nat.add_mul] at this
 omega
theorem Ma {F:Nat→Prop} {w w1:World} {z k:Nat} {arr1:Array Value} {old news:List Value} {l1 l2:List (List D)} (hc:∀ g j v,F g→w.cell? ⟨g,j,none⟩=some v→w1.cell? ⟨g,j,none⟩=some v) (hk:l1.length=k) (hol:old.length=k*z)
  (ho:Rows F w z old l1) (hn:Rows F w z news l2) (hg:∀ j,j<(old++news).length→arr1[j]?=(old++news)[j]?) (hnl:news.length=l2.length*z):Els F w1 z arr1 (l1++l2):=fun q cs hq=>by
 rcases Nat.lt_or_ge q k with h | h
 ·rw [List.getElem?_append_left (by omega)] at hq
  obtain ⟨h1,h2⟩:=ho q cs hq
  refine ⟨h1,fun p d hp=>?_⟩
  obtain ⟨v,h3,h4⟩:=h2 p d hp
  have hlt:q*z+p<k*z:=Dk h (by have:=(List.getElem?_eq_some_iff.1 hp).1;omega)
  refine ⟨v,?_,h4.keep (fun _ h=>h) hc⟩
  rw [hg _ (by rw [List.length_append];omega),List.getElem?_append_left (by omega)]
  exact h3
 ·rw [List.getElem?_append_right (by omega),hk] at hq
  obtain ⟨h1,h2⟩:=hn (q-k) cs hq
  refine ⟨h1,fun p d hp=>?_⟩
  obtain ⟨v,h3,h4⟩:=h2 p d hp
  have hq2:=(List.getElem?_eq_some_iff.1 hq).1
  have hlt:(q-k)*z+p<l2.length*z:=Dk hq2 (by have:=(List.getElem?_eq_some_iff.1 hp).1;omega)
  have e:q*z+p=k*z+((q-k)*z+p):=by
   have:q*z=k*z+(q-k)*z:=by rw [←Nat.add_mul];congr 1;omega
   omega
  refine ⟨v,?_,h4.keep (fun _ h=>h) hc⟩
  rw [e,hg _ (by rw [List.length_append];omega),List.getElem?_append_right (by omega),hol,Nat.add_sub_cancel_left]
  exact h3
theorem Ac4 [Holes] {P:Program} {F:Nat→Prop} {w:World} {t tx ty e z n g:Nat} {l1 l2:List (List D)} {v x:Value} {news:List Value} (hu:P.underlying t=some (.slice e)) (hs:sizeOf? P e=some z) (hzero:zeroIs P e z=true) (h:OdV F w e z l1 g v)
  (hsrc:Src P z tx x n news w) (hn2:l2.length=n) (hrows:Rows F w z news l2) (hF:∀ g',F g'→g'<w.heap.size) (hFg:liveV v→¬F g) (hn:l1.length+n≤1048576) (hb:1048576*bytes? P e≤140737488355328) :
  ∃ v' w' g',(Builtin.append_ #[t,tx] ty #[v,x]).run P w = .ok v' w'∧Goes w w'∧(∀ q,q<w.heap.size→(liveV v→q≠g)→w'.heap[q]?=w.heap[q]?)∧((g'=g∧liveV v)∨w.heap.size≤g'∨¬liveV v')∧OdV F w' e z (l1++l2) g' v':=by
 obtain ⟨hz,a,c,rfl,hv⟩:=h
 obtain ⟨i,zv,hi,hiz,hvs⟩:=Fc hzero
 have hisz:=Cy hs hi
 have hnl:news.length=n*z:=hsrc.newsLen
 have hb':(l1.length+n)*bytes? P e≤140737488355328:=Nat.le_trans (Nat.mul_le_mul_right _ hn) hb
 -- the old cells
 obtain ⟨old,o1,o2,o3⟩:∃ old:List Value,old.length=l1.length*z∧Rows F w z old l1∧(Builtin.firstCells z l1.length (.slice a l1.length c)).run P w.drew = .ok old.toArray w.drew:=by
  rcases hv with ⟨rfl,rfl⟩ | ⟨rfl,hc0,arr,h1,h2,h3,h4⟩
  ·refine ⟨[],by simp,fun q cs hq=>by simp at hq,?_⟩
   cases a with
   | none=>exact run_firstCells_none _ _ _ _ _
   | some a=>exact run_firstCells_some _ _ _ _ _ _ [] (by simp) (fun j v hv=>by simp at hv)
  ·have hle:l1.length*z≤arr.size:=Nat.le_trans (Nat.mul_le_mul_right z h3) h2
   refine ⟨arr.toList.take (l1.length*z),by simp;omega,fun q cs hq=>?_,?_⟩
   ·obtain ⟨h5,h6⟩:=h4 q cs hq
    refine ⟨h5,fun p d hp=>?_⟩
    obtain ⟨u,h7,h8⟩:=h6 p d hp
    have hlt:q*z+p<l1.length*z:=Dk (List.getElem?_eq_some_iff.1 hq).1 (by have:=(List.getElem?_eq_some_iff.1 hp).1;omega)
    refine ⟨u,?_,h8⟩
    rw [List.getElem?_take,if_pos hlt,Array.getElem?_toList]
    exact h7
   ·refine run_firstCells_some _ _ _ _ _ _ _ (by simp;omega) fun j v hv=>?_
    rw [List.getElem?_take] at hv
    split at hv
    ·rw [Array.getElem?_toList] at hv
     rw [Ax,Nat.zero_add]
     have:w.drew.heap[g]?=some (.cells arr e (0,0)):=h1
     simp [World.cell?,this,hv]
    ·cases hv
 by_cases hroom:l1.length+n≤c
 ·rcases hv with ⟨rfl,rfl⟩ | ⟨rfl,hc0,arr,h1,h2,h3,h4⟩
  ·have hn0:n=0:=by simp at hroom;exact hroom
   subst hn0
   have hl2:l2=[]:=List.eq_nil_of_length_eq_zero hn2
   subst hl2
   have hnews:news=[]:=List.eq_nil_of_length_eq_zero (by simpa using hnl)
   subst hnews
   refine ⟨_,w,g,run_append_nothing w t tx ty e i hu hi a 0 0 (Nat.le_refl _) x (by rw [hisz];exact hsrc),⟨rfl,rfl,rfl,Nat.le_refl _⟩,fun _ _ _=>rfl, .inr (.inr fun ⟨_,_,_,he,hlt⟩=>by cases he;omega),hz,a,0,rfl, .inl ⟨rfl,rfl⟩⟩
  ·have hlv:liveV (.slice (some ⟨g,0,none⟩) l1.length c):=⟨_,_,_,rfl,hc0⟩
   have hsz:l1.length*z+news.length≤arr.size:=by
    rw [hnl,←Nat.add_mul];exact Nat.le_trans (Nat.mul_le_mul_right z hroom) h2
   have hst:=run_storeCells_at P g (0+l1.length*z) e news 0 arr w h1 (by omega) hsrc.one
   simp only [Nat.zero_add,Nat.add_zero] at hst
   refine ⟨_,_,g,Xx (ty:=ty) hu hs hsrc hroom (by rw [Ax,Nat.zero_add];exact hst),Ek _ _ _,fun q hq hne=>setRow_other w g q _ (hne hlv), .inl ⟨rfl,hlv⟩,hz,_,c,by rw [List.length_append,hn2], .inr ⟨rfl,hc0,_,setRow_heap w g arr _ e (0,0) h1,?_,by rw [List.length_append];omega,?_⟩⟩
   ·simp only [List.size_toArray,List.length_append,List.length_take,List.length_drop,Array.length_toList]
    omega
   ·have hol:(arr.toList.take (l1.length*z)).length=l1.length*z:=by simp;omega
    refine Ma (w:=w) (k:=l1.length) (old:=arr.toList.take (l1.length*z)) (news:=news) (fun g' j u hF' hu'=>?_) rfl hol (fun q cs hq=>?_) hrows (fun j hj=>?_) (by rw [hnl,hn2])
    ·have hne:g'≠g:=fun he=>hFg hlv (he▸hF')
     rw [Cj (setRow_other w g g' _ hne)];exact hu'
    ·obtain ⟨h5,h6⟩:=h4 q cs hq
     refine ⟨h5,fun p d hp=>?_⟩
     obtain ⟨u,h7,h8⟩:=h6 p d hp
     have hlt:q*z+p<l1.length*z:=Dk (List.getElem?_eq_some_iff.1 hq).1 (by have:=(List.getElem?_eq_some_iff.1 hp).1;omega)
     exact ⟨u,by rw [List.getElem?_take,if_pos hlt,Array.getElem?_toList];exact h7,h8⟩
    ·rw [List.getElem?_toArray,List.getElem?_append_left hj]
 ·have hid:∀ l:List Value,(l.map C.raw).map (realC env0)=l:=fun l=>by
   rw [List.map_map];exact List.map_id l
  have hgr:=Ri (σ:=env0) (ty:=ty) (tx:=tx) (x := .v (.c (.raw x))) (new:=news.map .raw) (old:=old.map .raw) (base:=a) (q:=c) hu hs hz hzero (by rw [hid];exact hsrc) (by rw [List.length_map];exact o1) (by rw [hid];exact o3) (by omega) hn hb'
  obtain ⟨cap,w',r1,r2,r3,arr',r4,r5,r6,r7⟩:=hgr
  have hcap:0<cap:=by omega
  refine ⟨_,w',w.heap.size,r1,r3,fun q hq _=>?_, .inr (.inl (Nat.le_refl _)),hz,_,cap,by rw [List.length_append,hn2], .inr ⟨rfl,hcap,arr',?_,Nat.le_of_eq r5.symm,by rw [List.length_append];omega,?_⟩⟩
  ·rw [r4,Array.getElem?_push,if_neg (by omega)]
  ·rw [r4,Array.getElem?_push,if_pos rfl]
  ·refine Ma (w:=w) (k:=l1.length) (old:=old) (news:=news) (fun g' j u hF' hu'=>?_) rfl o1 o2 hrows (fun j hj=>?_) (by rw [hnl,hn2])
   ·have hg':=hF g' hF'
    have hh:w'.heap[g']?=w.heap[g']?:=by rw [r4,Array.getElem?_push,if_neg (by omega)]
    rw [Cj hh];exact hu'
   ·rw [r7 j (by simpa using hj),List.map_append,hid,hid]
end Go.Vc

namespace Go.Vc
section
variable [Holes]
section
variable {K:Nat→Option (List Value)} {b:Bs} {F F0:Nat→Prop} {B0:Nat} {σ τ:Env} {m:Mem} {Y:T YRow} {w w1:World} {ρ ρ':Rho} {i:Nat}
theorem YRel.kill (h:YRel F F0 B0 σ m Y w) (hi:Lt i m.nx):YRel F F0 B0 σ m (Y.set i .dead) w:=h.add hi rfl trivial
theorem Aw.kill (h:Aw K b m Y ρ σ w) (hi:Lt i m.nx):Aw K b m (Y.set i .dead) ρ σ w:=by
 obtain ⟨F,hF⟩:=h.y
 refine ⟨h.rel,h.nx,h.agree,h.nx1,h.agree1,h.base,h.goes,h.frame,h.own,⟨F,hF.kill hi⟩,fun q y hq=>?_,h.dfr,h.keep,h.klow⟩
 rw [T.get_set] at hq
 split at hq
 ·cases hq;trivial
 ·exact h.ag q y hq
theorem Aw.turn {g:Nat} {P:Prop} (h:Aw K b m Y ρ σ w) (hF:YRel F b.F0 b.wB.heap.size σ m Y w) (hg:Goes w w1) (hk:∀ q,q<w.heap.size→(P→q≠g)→w1.heap[q]?=w.heap[q]?)
  (hfree:P→¬F g∧b.wB.heap.size≤g∧(∀ q r,m.S.get q=some r→r.blk=true→σ.b q≠g)∧(∀ i e z o j,Y.get i=some (.od e z o j)→live σ i→σ.b i≠g)∧∀ q,w.heap[g]?≠some (.deferred q)) :
  Aw K b m Y ρ σ w1∧YRel F b.F0 b.wB.heap.size σ m Y w1:=by
 have hrow:∀ i r,m.S.get i=some r→r.blk=true→w1.heap[σ.b i]?=w.heap[σ.b i]?:=fun i r hi hb=>hk _ ((h.rel.row i r hi).blk_lt hb) fun hp=>(hfree hp).2.2.1 i r hi hb
 have hFk:∀ g' j v,F g'→w.cell? ⟨g',j,none⟩=some v→w1.cell? ⟨g',j,none⟩=some v:=fun g' j v hg' hv=>by
  rw [Cj (hk g' (hF.dom g' hg').1 fun hp he=>(hfree hp).1 (he▸hg'))];exact hv
 have hy:YRel F b.F0 b.wB.heap.size σ m Y w1:=⟨fun g' hg'=>⟨Nat.lt_of_lt_of_le (hF.dom g' hg').1 hg.size,(hF.dom g' hg').2⟩,fun i y hi=>⟨(hF.row i y hi).1,(hF.row i y hi).2.keep (hF.row i y hi).1 (Agree.refl _ _) (Nat.le_refl _) hFk fun ho hl=>by
   cases y <;> first | (cases ho;done) | skip
   exact hk _ (hF.od i _ _ _ _ hi hl).1 fun hp=>(hfree hp).2.2.2.1 i _ _ _ _ hi hl⟩,fun i e z o j hi hl=>⟨Nat.lt_of_lt_of_le (hF.od i e z o j hi hl).1 hg.size,(hF.od i e z o j hi hl).2⟩,hF.odi⟩
 refine ⟨⟨⟨fun i s hs=>(h.rel.row i s hs).keep (Agree.refl _ _) (h.rel.lt i s hs) (Nat.le_refl _) (hrow i s hs),h.rel.lt,h.rel.inj,Co h.rel fun q l hq=>hk q (h.rel.low q l hq) fun hp he=>by have:=(hfree hp).2.1;have:=h.klow q l hq;omega,h.rel.apart,fun q l hq=>Nat.lt_of_lt_of_le (h.rel.low q l hq) hg.size,h.rel.fresh⟩,
  h.nx,h.agree,h.nx1,h.agree1,h.base,h.goes.trans hg,fun q hq=>?_,h.own,⟨F,hy⟩,h.ag,fun q d hq=>?_,h.keep,h.klow⟩,hy⟩
 ·rw [hk q (Nat.lt_of_lt_of_le hq h.size) fun hp he=>by have:=(hfree hp).2.1;omega]
  exact h.frame q hq
 ·have h1:=h.dfr q d hq
  rw [hk q (Bw h1) fun hp he=>(hfree hp).2.2.2.2 d (he▸h1)]
  exact h1
theorem Aw.num (h:Aw K b m Y ρ σ w) (hF:YRel F b.F0 b.wB.heap.size σ m Y w) (hτ:Agree m.nx σ τ) (hr:RhoEq m.nx ρ ρ'):Aw K b (m.up (m.nx+1)) Y ρ' τ w∧YRel F b.F0 b.wB.heap.size τ (m.up (m.nx+1)) Y w:=by
 have k:=Alw h.rel hτ
 have h1:=h.step k
 have h2:=hF.step k
 exact ⟨⟨h1.rel,h1.nx,h1.agree,h1.nx1,h1.agree1,h1.base,h1.goes,h1.frame,h1.own,⟨F,h2⟩,fun i x hi=>((h.ag i x hi).rho hr (hF.row i x hi).1.lt (hF.row i x hi).2).agree (hF.row i x hi).1 hτ (hF.row i x hi).2,h1.dfr,h1.keep,h1.klow⟩,h2⟩
theorem Aw.symO (h:Aw K b m Y ρ σ w) (hF:YRel F b.F0 b.wB.heap.size σ m Y w) {e z j:Nat} {own:Bool} {v:Value} {g:Nat} (hj:Lt j m.nx) (hag:σ.r.d j=ρ.d j) (hv:OdV (Fo F b.wB.heap.size own) w e z (σ.r.d j) g v)
  (hl:liveV v→g<w.heap.size∧b.wB.heap.size≤g∧¬F g∧(∀ q r,m.S.get q=some r→r.blk=true→σ.b q≠g)∧∀ i e z o j,Y.get i=some (.od e z o j)→live σ i→σ.b i≠g) :
  ∃ τ,Agree m.nx σ τ∧Aw K b (m.up (m.nx+1)) (Y.set m.nx (.od e z own j)) ρ τ w∧YRel F b.F0 b.wB.heap.size τ (m.up (m.nx+1)) (Y.set m.nx (.od e z own j)) w∧realC τ (.fz m.nx)=v∧Lt m.nx (m.nx+1)∧τ.b m.nx=g:=by
 have ha:=Env.agree_set σ m.nx g 0 0 v
 obtain ⟨h1,h2⟩:=h.num hF ha (RhoEq.refl _ ρ)
 have hlt:Lt m.nx (m.up (m.nx+1)).nx:=h.rel.ltnx
 have hlive:live (σ.set m.nx g 0 0 v) m.nx↔liveV v:=by unfold live liveV;rw [Env.set_v]
 have hdj:(σ.set m.nx g 0 0 v).r.d j=σ.r.d j:=rfl
 have hold:∀ i y,(Y.set m.nx (.od e z own j)).get i=some y→i≠m.nx→Y.get i=some y:=fun i y hi hne=>by
  rw [T.get_set,if_neg hne] at hi;exact hi
 have hy:YRel F b.F0 b.wB.heap.size (σ.set m.nx g 0 0 v) (m.up (m.nx+1)) (Y.set m.nx (.od e z own j)) w:=by
  refine ⟨h2.dom,fun i y hi=>?_,fun i e' z' o' j' hi hl'=>?_,fun i e1 z1 o1 j1 i' e2 z2 o2 j2 hi hi' hl1 hl2 he=>?_⟩
  ·by_cases hne:i=m.nx
   ·subst hne
    rw [T.get_set,if_pos rfl] at hi
    cases hi
    refine ⟨hlt,hj.mono (Nat.le_succ _),hv.1,?_⟩
    obtain ⟨_,a,c,h3,h4⟩:=hv
    exact ⟨a,c,by rw [Env.set_v];exact h3,by rw [Env.set_b];exact h4⟩
   ·exact h2.row i y (hold i y hi hne)
  ·by_cases hne:i=m.nx
   ·subst hne
    rw [Env.set_b]
    obtain ⟨h3,h4,h5,h6,_⟩:=hl (hlive.1 hl')
    exact ⟨h3,h4,h5,fun q r hq hb=>by rw [ha.b q (h.rel.lt q r hq)];exact h6 q r hq hb⟩
   ·exact h2.od i e' z' o' j' (hold i _ hi hne) hl'
  ·have key:∀ i e1 z1 o1 j1,i≠m.nx→(Y.set m.nx (.od e z own j)).get i=some (.od e1 z1 o1 j1)→live (σ.set m.nx g 0 0 v) i→live (σ.set m.nx g 0 0 v) m.nx→(σ.set m.nx g 0 0 v).b i≠(σ.set m.nx g 0 0 v).b m.nx:=fun i e1 z1 o1 j1 hne hi hl1 hl2 he=>by
    have hi0:=hold i _ hi hne
    have hli:=(hF.row i _ hi0).1
    rw [Env.set_b,ha.b i hli] at he
    exact (hl (hlive.1 hl2)).2.2.2.2 i _ _ _ _ hi0 ((Ar ha hli).1 hl1) he
   by_cases hn1:i=m.nx
   ·by_cases hn2:i'=m.nx
    ·rw [hn1,hn2]
    ·subst hn1;exact absurd he.symm (key i' _ _ _ _ hn2 hi' hl2 hl1)
   ·by_cases hn2:i'=m.nx
    ·subst hn2;exact absurd he (key i _ _ _ _ hn1 hi hl1 hl2)
    ·exact h2.odi i e1 z1 o1 j1 i' e2 z2 o2 j2 (hold i _ hi hn1) (hold i' _ hi' hn2) hl1 hl2 he
 refine ⟨_,ha,⟨h1.rel,h1.nx,h1.agree,h1.nx1,h1.agree1,h1.base,h1.goes,h1.frame,h1.own,⟨F,hy⟩,fun i y hi=>?_,h1.dfr,h1.keep,h1.klow⟩,hy,?_,hlt,Env.set_b _ _ _ _ _ _⟩
 ·by_cases hne:i=m.nx
  ·subst hne
   rw [T.get_set,if_pos rfl] at hi
   cases hi
   exact hag
  ·exact h1.ag i y (hold i y hi hne)
 ·obtain ⟨_,a,c,h3,_⟩:=hv
  simp only [realC,Env.set_v,h3]
end
end
def dstA (Y:T YRow) (e z:Nat):W→Option (Bool×Option (Nat×Nat))
 | .v (.c (.raw (.slice none 0 0)))=>some (true,none)
 | .v (.c (.sl _ _ 0 _ (some 0)))=>some (true,none)
 | .v (.c (.fz i))=>match Y.get i with
  | some (.fz _ 2 _)=>some (true,none)
  | some (.od e' z' own j)=>bif Nat.beq e e' && Nat.beq z z' then some (own,some (i,j)) else none
  | _=>none
 | _=>none
inductive SrcI where
 | rows (n:Nat) (cs:List C)
 | sym (own:Bool) (j:Nat)
def symS (Y:T YRow):W→Option (Bool×Nat)
 | .v (.c (.fz i))=>match Y.get i with
  | some (.fz own _ j)=>some (own,j)
  | some (.od _ _ own j)=>some (own,j)
  | _=>none
 | _=>none
def isSl (P:Program) (t:TypeId):Bool:=match P.underlying t with
 | some (.slice _)=>true
 | _=>false
def srcA (P:Program) (m:Mem) (Y:T YRow) (z:Nat) (t:TypeId) (x:W):Option SrcI:=match symS Y x with
 | some (own,j)=>bif isSl P t then some (.sym own j) else none
 | none=>match srcW P m z t x with
  | some (n,cs)=>some (.rows n cs)
  | none=>none
def chunk (z:Nat):Nat→List C→List (List C)
 | 0,_=>[]
 | n+1,cs=>cs.take z::chunk z n (cs.drop z)
def outRows (Y:T YRow) (ρ:Rho) (own:Bool) (ks:List Kd):List (List C)→Option (List (List D))
 | []=>some []
 | cs::l=>match outCs Y ρ own ks cs,outRows Y ρ own ks l with
  | some ds,some dss=>some (ds::dss)
  | _,_=>none
def flatK (ks:List Kd):Bool:=ks.all fun k=>match k with
 | .int _ | .bool | .str=>true
 | _=>false
def srcD (Y:T YRow) (ρ:Rho) (ks:List Kd) (z:Nat):SrcI→Option (List (List D)×Bool×Prop)
 | .sym own j=>match !own && flatK ks with
  | true=>some (ρ.d j,true,Shp ks (ρ.d j))
  | false=>some (ρ.d j,own,Rect z (ρ.d j))
 | .rows n cs=>match outRows Y ρ true ks (chunk z n cs) with
  | some l=>some (l,true,True)
  | none=>match outRows Y ρ false ks (chunk z n cs) with
   | some l=>some (l,false,True)
   | none=>none
def dat1 (ρ:Rho):Option (Nat×Nat)→List (List D)
 | some (_,j)=>ρ.d j
 | none=>[]
def killY (Y:T YRow):Option (Nat×Nat)→T YRow
 | some (i,_)=>Y.set i .dead
 | none=>Y
end Go.Vc
