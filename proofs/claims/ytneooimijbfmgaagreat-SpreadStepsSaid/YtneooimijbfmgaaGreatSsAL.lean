import Derived.OrdersIn
import Derived.StillTail
import Derived.Test.YtneooimijbfmgaaGreatSsAK
set_option linter.unusedVariables false
set_option linter.unusedSimpArgs false
set_option linter.unusedSectionVars false
noncomputable section
namespace Go.Vc
theorem C.lt.both {H1 H2 H3:Holes} {n1 n2 n3:Nat} {c:C} (h:@C.lt H1 n1 c) (h':@C.lt H2 n2 c) (k:∀ q,@Lt H1 q n1→@Lt H2 q n2→@Lt H3 q n3):@C.lt H3 n3 c:=by
 cases c <;> first | trivial | exact k _ h h'
theorem V.lt.both {H1 H2 H3:Holes} {n1 n2 n3:Nat} {x:V} (h:@V.lt H1 n1 x) (h':@V.lt H2 n2 x) (k:∀ q,@Lt H1 q n1→@Lt H2 q n2→@Lt H3 q n3):@V.lt H3 n3 x:=by
 cases x with
 | c x=>exact C.lt.both (c:=x) h h' k
 | a cs=>exact fun x hx=>C.lt.both (h x hx) (h' x hx) k
theorem W.lt.both {H1 H2 H3:Holes} {n1 n2 n3:Nat} {x:W} (h:@W.lt H1 n1 x) (h':@W.lt H2 n2 x) (k:∀ q,@Lt H1 q n1→@Lt H2 q n2→@Lt H3 q n3):@W.lt H3 n3 x:=by
 cases x with
 | v x=>exact V.lt.both (x:=x) h h' k
 | t l=>exact fun x hx=>V.lt.both (h x hx) (h' x hx) k
theorem Wu {HH:Holes} {σ τ:Env}:@Agree HH 0 σ τ :=
 have f:∀ {i:Nat} {q:Prop},@Lt HH i 0→q:=fun hi=>absurd (@Lt.lt HH _ _ hi) (Nat.not_lt_zero _)
 @Agree.mk HH 0 σ τ (fun _ hi=>f hi) (fun _ hi=>f hi) (fun _ hi=>f hi) (fun _ hi=>f hi) (fun _ hi=>f hi) (fun _ hi=>f hi) (fun _ hi=>f hi) (fun _ hi=>f hi)
def Bs.own (b:Bs):Bs:=⟨b.wB,b.F0,b.σ0,0,b.wC,fun _=>False,b.σ1,0⟩
section
variable {H:Holes} {P:Program} {K:Nat→Option (List Value)} {b:Bs} {nt p:Nat} {ops:Array Oper} {o:Nat→Oper} {nx:Nat→Nat} {S:T Row} {Y:T YRow} {ρ:Nat→Rho} {tm:Nat→Tm} {did:Nat→Bool} {x:Nat→W} {V V':Nat→T Row} {U U':Nat→T YRow} {vis:Nat→Nat→Prop} {tv:Nat→Tm} {m0:Mem} {Y0:T YRow} {G0 G:Nat→Prop} {σ0 σ:Env} {w0 w:World} {a0 a:Act} {D D':Nat→Bool} {j:Nat} {tm0:Tm}
variable (B:BegY H K b nx S Y ρ m0 Y0 G0 σ0 w0) (h:RunY P K nt ops p o nx S Y ρ tm did x V V' U U' vis tv) (inv:InvY H K b nt p o nx S Y ρ tm0 x G0 σ0 a0 w0 D G σ a w)
include B h inv
theorem InvY.odOld {i e z oo jj:Nat} {ow:Bool} (hi:i<nx 0) (hr:Y.get i=some (.od e z ow jj)) (hl:live σ i) (_hz:oo=0):Y0.get i=some (.od e z ow jj)∧live σ0 i∧σ.b i=σ0.b i∧@Lt H i (nx 0):=by
 rw [B.hY i hi] at hr
 obtain ⟨h2,_⟩:=@YRel.row H _ _ _ _ _ _ _ B.y i _ hr
 rw [B.hnx] at h2
 exact ⟨hr,(@Ar H _ _ _ _ inv.ag h2).1 hl,@Agree.b H _ _ _ inv.ag i h2,h2⟩
theorem InvY.odAll {i e z jj:Nat} {ow:Bool} (hi:@Lt (holY H nx p D) i (nx p)) (hr:Y.get i=some (.od e z ow jj)) (hl:live σ i):σ.b i<w.heap.size∧b.wB.heap.size≤σ.b i∧¬G (σ.b i)∧∀ q r,@Lt (holY H nx p D) q (nx p)→S.get q=some r→r.blk=true→σ.b q≠σ.b i:=by
 rcases B.born h hi with h1 | ⟨k,h1,h2,h3,h4⟩
 ·obtain ⟨k1,k2,k3,k4⟩:=inv.odOld B h h1 hr hl (rfl:0=0)
  obtain ⟨q1,q2,q3,q4⟩:=B.y.od i _ _ _ _ k1 k2
  rw [k3]
  refine ⟨Nat.lt_of_lt_of_le q1 inv.goes.size,q2,fun hg=>?_,fun q r hq hr hb he=>(inv.blk B h hq hr hb).2.2.2.2 i _ _ _ _ k1 k2 he.symm⟩
  rcases (inv.gn _ hg).2 with h5 | h5
  ·exact q3 h5
  ·omega
 ·obtain ⟨q1,q2,q3⟩:=inv.od k h1 h2 i _ _ _ _ h3 h4 hr hl
  refine ⟨q2,Nat.le_trans B.aw.size q1,q3,fun q r hq hs hb=>?_⟩
  rcases B.born h hq with g1 | ⟨k',g1,g2,g3,g4⟩
  ·have:=((inv.rowOld B h g1 hs).2.2 hb).2
   have e:=((inv.rowOld B h g1 hs).2.2 hb).1
   omega
  ·exact inv.odr k k' h1 g1 h2 g2 i _ _ _ _ q r h3 h4 g3 g4 hr hl hs hb
theorem InvY.odiAll {i e z jj i' e' z' jj':Nat} {ow ow':Bool} (hi:@Lt (holY H nx p D) i (nx p)) (hi':@Lt (holY H nx p D) i' (nx p)) (hr:Y.get i=some (.od e z ow jj)) (hr':Y.get i'=some (.od e' z' ow' jj')) (hl:live σ i) (hl':live σ i') (he:σ.b i=σ.b i'):i=i':=by
 rcases B.born h hi with h1 | ⟨k,h1,h2,h3,h4⟩ <;> rcases B.born h hi' with g1 | ⟨k',g1,g2,g3,g4⟩
 ·obtain ⟨k1,k2,k3,k4⟩:=inv.odOld B h h1 hr hl (rfl:0=0)
  obtain ⟨k1',k2',k3',k4'⟩:=inv.odOld B h g1 hr' hl' (rfl:0=0)
  exact B.y.odi i _ _ _ _ i' _ _ _ _ k1 k1' k2 k2' (by rw [←k3,←k3',he])
 ·obtain ⟨k1,k2,k3,k4⟩:=inv.odOld B h h1 hr hl (rfl:0=0)
  have q1:=(B.y.od i _ _ _ _ k1 k2).1
  have q2:=(inv.od k' g1 g2 i' _ _ _ _ g3 g4 hr' hl').1
  omega
 ·obtain ⟨k1,k2,k3,k4⟩:=inv.odOld B h g1 hr' hl' (rfl:0=0)
  have q1:=(B.y.od i' _ _ _ _ k1 k2).1
  have q2:=(inv.od k h1 h2 i _ _ _ _ h3 h4 hr hl).1
  omega
 ·exact inv.odi k k' h1 g1 h2 g2 i _ _ _ _ i' _ _ _ _ h3 h4 g3 g4 hr hr' hl hl' he
theorem InvY.known:∀ g l,K g=some l→∀ j v,l[j]?=some v→w.cell? ⟨g,j,none⟩=some v:=@Co H _ _ _ _ _ B.aw.rel (fun g l hg=>inv.heap g (@Rel.low H _ _ _ _ B.aw.rel g l hg))
theorem At3 (hj:j<p) (now:NowY ops D j):@Aw (belowY (holY H nx p D) (nx j)) K b.own ⟨V j,nx j,nx j⟩ (U j) (ρ j) σ w∧@YRel (belowY (holY H nx p D) (nx j)) G b.F0 b.wB.heap.size σ ⟨V j,nx j,nx j⟩ (U j) w:=by
 have njp:=h.le (Nat.le_of_lt hj) (Nat.le_refl p)
 have n0j:=h.le (Nat.zero_le j) (Nat.le_of_lt hj)
 have cv:∀ q,@Lt (holY H nx p D) q (nx j)→@Lt (belowY (holY H nx p D) (nx j)) q (nx j):=fun q hq=>@Lt.mk (belowY (holY H nx p D) (nx j)) _ _ (@Lt.lt (holY H nx p D) _ _ hq) (fun hc=>@Lt.ok (holY H nx p D) _ _ hq hc.2)
 have hv:∀ i,vis j i→i<nx 0∧nx 0≤nx j∨∃ k,k<p∧D k=true∧nx k≤i∧i<nx (k+1)∧nx (k+1)≤nx j:=fun i hi=>by
  obtain ⟨h1,h2 | ⟨k,h2,h3,h4,h5⟩⟩:=h.seen j hj i hi
  ·exact .inl ⟨h2,n0j⟩
  ·exact .inr ⟨k,by omega,now.wait k h3,h4,h5,h.le (show k+1≤j from h2) (by omega)⟩
 have rowV:∀ i r,(V j).get i=some r→@RowOk (holY H nx p D) σ (nx j) w i r∧@Lt (holY H nx p D) i (nx j)∧S.get i=some r:=fun i r hr=>by
  obtain ⟨h1,h2⟩:=h.subV j hj i r hr
  obtain ⟨h3,h4⟩:=inv.rowAll B h (hv i h1) h2
  exact ⟨h3,h4,h2⟩
 have yU:∀ i y,(U j).get i=some y→@YOk (holY H nx p D) G b.wB.heap.size σ (nx j) w i y∧@Lt (holY H nx p D) i (nx j)∧YAg (ρ p) σ i y∧Y.get i=some y:=fun i y hr=>by
  obtain ⟨h1,h2⟩:=h.subU j hj i y hr
  obtain ⟨h3,h4,h5⟩:=inv.yAll B h (hv i h1) h2
  exact ⟨h3,h4,h5,h2⟩
 have up:∀ {i},@Lt (holY H nx p D) i (nx j)→@Lt (holY H nx p D) i (nx p):=fun hq=>@Lt.mono (holY H nx p D) _ _ _ hq njp
 have hY:@YRel (belowY (holY H nx p D) (nx j)) G b.F0 b.wB.heap.size σ ⟨V j,nx j,nx j⟩ (U j) w:=by
  refine @YRel.mk (belowY (holY H nx p D) (nx j)) _ _ _ _ _ _ _ (fun g hg=>?_) (fun i y hi=>?_) (fun i e z oo jj hi hl=>?_) (fun i e z oo jj i' e' z' oo' jj' hi hi' hl hl' he=>?_)
  ·obtain ⟨k1,k2⟩:=inv.gn g hg
   refine ⟨k1,fun i r hr hb he=>?_,?_⟩
   ·obtain ⟨h1,h2,h3⟩:=rowV i r hr
    exact (inv.blk B h (up h2) h3 hb).2.2.1 (he▸hg)
   ·rcases k2 with k2 | k2
    ·exact (B.y.dom g k2).2.2
    ·exact .inr (Nat.le_trans B.aw.size k2)
  ·obtain ⟨h1,h2,h3,h4⟩:=yU i y hi
   exact ⟨cv i h2,YOk.move h1 (@Agree.refl (holY H nx p D) _ _) h2 cv (fun _ hg=>hg) (fun _ _ _ _ hv=>hv) (fun _ _=>rfl)⟩
  ·obtain ⟨h1,h2,h3,h4⟩:=yU i _ hi
   obtain ⟨q1,q2,q3,q4⟩:=inv.odAll B h (up h2) h4 hl
   exact ⟨q1,q2,q3,fun q r hr hb=>by
    obtain ⟨h5,h6,h7⟩:=rowV q r hr
    exact q4 q r (up h6) h7 hb⟩
  ·obtain ⟨h1,h2,h3,h4⟩:=yU i _ hi
   obtain ⟨h1',h2',h3',h4'⟩:=yU i' _ hi'
   exact inv.odiAll B h (up h2) (up h2') h4 h4' hl hl' he
 have hR:@Rel (belowY (holY H nx p D) (nx j)) K σ ⟨V j,nx j,nx j⟩ w:=by
  refine @Rel.mk (belowY (holY H nx p D) (nx j)) _ _ _ _ (fun i r hr=>?_) (fun i r hr=>?_) (fun i i' r s hr hs hrb hsb he=>?_) (inv.known B h) (fun i r hr hb=>?_) (fun g l hg=>Nat.lt_of_lt_of_le (@Rel.low H _ _ _ _ B.aw.rel g l hg) inv.goes.size) (fun i hi hc=>?_)
  ·obtain ⟨h1,h2,h3⟩:=rowV i r hr
   exact RowOk.move h1 (@Agree.refl (holY H nx p D) _ _) h2 cv (fun _=>rfl)
  ·obtain ⟨h1,h2,h3⟩:=rowV i r hr
   exact cv i h2
  ·obtain ⟨h1,h2,h3⟩:=rowV i r hr
   obtain ⟨h1',h2',h3'⟩:=rowV i' s hs
   exact inv.injAll B h (up h2) (up h2') h3 h3' hrb hsb he
  ·obtain ⟨h1,h2,h3⟩:=rowV i r hr
   exact (inv.blk B h (up h2) h3 hb).2.1
  ·have:nx j≤i:=hi
   have:=hc.1
   omega
 refine ⟨@Aw.mk (belowY (holY H nx p D) (nx j)) _ _ _ _ _ _ _ hR (Nat.zero_le _) Wu (Nat.zero_le _) Wu B.aw.base (B.aw.goes.trans inv.goes) (fun g hg=>?_) (fun i r hr hb=>?_) ⟨G,hY⟩ (fun i y hi=>?_) (fun g q hg=>?_) (fun i hi=>hi.elim) B.aw.klow,hY⟩
 ·have hg:g<b.wB.heap.size:=hg
  rw [inv.heap g (Nat.lt_of_lt_of_le hg B.aw.size)]
  exact B.aw.frame g hg
 ·obtain ⟨h1,h2,h3⟩:=rowV i r hr
  exact (inv.blk B h (up h2) h3 hb).1
 ·obtain ⟨h1,h2,h3,h4⟩:=yU i y hi
  have hq:=h.req (Nat.le_of_lt hj) (Nat.le_refl p)
  exact YAg.move h3 h1 (@Agree.refl (holY H nx p D) _ _) h2 fun q hq'=>⟨(hq.rn q hq').symm,(hq.rt q hq').symm,(hq.rs q hq').symm,(hq.rd q hq').symm⟩
 ·have:=B.aw.dfr g q hg
  rw [inv.heap g (Bw this)]
  exact this
end
end Go.Vc

namespace Go.Vc
def mixY (σ τ:Env) (a b:Nat):Env:=⟨fun q=>if a≤q∧q<b then τ.b q else σ.b q,fun q=>if a≤q∧q<b then τ.o q else σ.o q,fun q=>if a≤q∧q<b then τ.k q else σ.k q,fun q=>if a≤q∧q<b then τ.v q else σ.v q,
 ⟨fun q=>if a≤q∧q<b then τ.r.n q else σ.r.n q,fun q=>if a≤q∧q<b then τ.r.t q else σ.r.t q,fun q=>if a≤q∧q<b then τ.r.s q else σ.r.s q,fun q=>if a≤q∧q<b then τ.r.d q else σ.r.d q⟩⟩
theorem Au4 {H:Holes} {σ τ:Env} {a b:Nat} (h:@Agree H a σ τ):@Agree H b τ (mixY σ τ a b):=by
 have lo:∀ {i},@Lt H i b→¬(a≤i∧i<b)→@Lt H i a:=fun {i} hi hn=>@Lt.mk H _ _ (by have:=@Lt.lt H _ _ hi;omega) (@Lt.ok H _ _ hi)
 refine @Agree.mk H b τ (mixY σ τ a b) ?_ ?_ ?_ ?_ ?_ ?_ ?_ ?_ <;> intro i hi <;> simp only [mixY] <;> split
 ·rfl
 ·rename_i hn;exact (@Agree.b H _ _ _ h i (lo hi hn)).symm
 ·rfl
 ·rename_i hn;exact (@Agree.o H _ _ _ h i (lo hi hn)).symm
 ·rfl
 ·rename_i hn;exact (@Agree.k H _ _ _ h i (lo hi hn)).symm
 ·rfl
 ·rename_i hn;exact (@Agree.v H _ _ _ h i (lo hi hn)).symm
 ·rfl
 ·rename_i hn;exact (@Agree.rn H _ _ _ h i (lo hi hn)).symm
 ·rfl
 ·rename_i hn;exact (@Agree.rt H _ _ _ h i (lo hi hn)).symm
 ·rfl
 ·rename_i hn;exact (@Agree.rs H _ _ _ h i (lo hi hn)).symm
 ·rfl
 ·rename_i hn;exact (@Agree.rd H _ _ _ h i (lo hi hn)).symm
theorem Ag0 {H:Holes} {σ τ:Env} {a b n:Nat} (h:∀ q,@Lt H q n→¬(a≤q∧q<b)):@Agree H n σ (mixY σ τ a b) :=
 @Agree.mk H n σ (mixY σ τ a b) (fun i hi=>if_neg (h i hi)) (fun i hi=>if_neg (h i hi)) (fun i hi=>if_neg (h i hi)) (fun i hi=>if_neg (h i hi)) (fun i hi=>if_neg (h i hi)) (fun i hi=>if_neg (h i hi)) (fun i hi=>if_neg (h i hi)) (fun i hi=>if_neg (h i hi))
section
variable {H:Holes} {P:Program} {K:Nat→Option (List Value)} {b:Bs} {nt p:Nat} {ops:Array Oper} {o:Nat→Oper} {nx:Nat→Nat} {S:T Row} {Y:T YRow} {ρ:Nat→Rho} {tm:Nat→Tm} {did:Nat→Bool} {x:Nat→W} {V V':Nat→T Row} {U U':Nat→T YRow} {vis:Nat→Nat→Prop} {tv:Nat→Tm} {m0:Mem} {Y0:T YRow} {G0 G G1:Nat→Prop} {σ0 σ τ:Env} {w0 w w':World} {a0 a:Act} {D D':Nat→Bool} {j:Nat} {tm0:Tm}
variable (B:BegY H K b nx S Y ρ m0 Y0 G0 σ0 w0) (h:RunY P K nt ops p o nx S Y ρ tm did x V V' U U' vis tv) (inv:InvY H K b nt p o nx S Y ρ tm0 x G0 σ0 a0 w0 D G σ a w)
include B h inv
theorem Avh (hj:j<p) (hnot:D j=false) (hd:did j=true) (hD':∀ k,k<p→D' k=(D k || decide (k=j))) (hput:∀ d,(o j).dst=some d→d<nt) (htm:∀ t,(tmY o x D' tm0 p).get t=if (o j).dst=some t then x j else (tmY o x D tm0 p).get t)
  (hag:@Agree (belowY (holY H nx p D) (nx j)) (nx j) σ τ) (hg:Goes w w') (hk:∀ g,g<w.heap.size→w'.heap[g]?=w.heap[g]?) (hnew:∀ i r,nx j≤i→(V' j).get i=some r→r.blk=true→w.heap.size≤τ.b i) (hodn:∀ i e z ow jj,nx j≤i→(U' j).get i=some (.od e z ow jj)→live τ i→w.heap.size≤τ.b i)
  (hA:@Aw (belowY (holY H nx p D) (nx j)) K b.own ⟨V' j,nx (j+1),nx j⟩ (U' j) (ρ (j+1)) τ w') (hY:@YRel (belowY (holY H nx p D) (nx j)) G1 b.F0 b.wB.heap.size τ ⟨V' j,nx (j+1),nx j⟩ (U' j) w') (hG1:∀ g,G g→G1 g) (hG2:∀ g,G1 g→G g∨w.heap.size≤g)
  (hx:@W.lt (belowY (holY H nx p D) (nx j)) (nx (j+1)) (x j)):InvY H K b nt p o nx S Y ρ tm0 x G0 σ0 a0 w0 D' G1 (mixY σ τ (nx j) (nx (j+1))) (a.put (o j).dst (realW τ (x j))) w':=by
 have hRel:=@Aw.rel (belowY (holY H nx p D) (nx j)) _ _ _ _ _ _ _ hA
 have hSA:=@Aw.ag (belowY (holY H nx p D) (nx j)) _ _ _ _ _ _ _ hA
 have n0j:=h.le (Nat.zero_le j) (Nat.le_of_lt hj)
 have njj:=h.mono j hj
 have njp:=h.le (show j+1≤p from hj) (Nat.le_refl p)
 have hDj:D' j=true:=by rw [hD' j hj];simp
 have dd:∀ {k},k<p→D' k=true→k≠j→D k=true:=fun {k} hk1 hk2 hne=>by rw [hD' k hk1] at hk2;simpa [hne] using hk2
 have sub:∀ {q},¬(holY H nx p D).h q→¬(holY H nx p D').h q:=fun {q} hq hc=>hq (by
  rcases hc with hc | ⟨i,h1,h2,h3⟩
  ·exact .inl hc
  ·refine .inr ⟨i,h1,?_,h3⟩
   rw [hD' i h1] at h2
   cases hDi:D i with
   | false=>rfl
   | true=>rw [hDi] at h2;cases h2)
 have shrink:∀ {q n},@Lt (holY H nx p D) q n→@Lt (holY H nx p D') q n:=fun {q n} hq=>@Lt.mk (holY H nx p D') _ _ (@Lt.lt (holY H nx p D) _ _ hq) (sub (@Lt.ok (holY H nx p D) _ _ hq))
 have grow:∀ q,@Lt (belowY (holY H nx p D) (nx j)) q (nx (j+1))→@Lt (holY H nx p D') q (nx (j+1)):=fun q hq=>by
  have hl:=@Lt.lt (belowY (holY H nx p D) (nx j)) _ _ hq
  rcases Nat.lt_or_ge q (nx j) with h1 | h1
  ·exact @Lt.mk (holY H nx p D') _ _ hl (sub fun hc=>@Lt.ok (belowY (holY H nx p D) (nx j)) _ _ hq ⟨h1,hc⟩)
  ·exact B.new h hj hDj h1 hl (Nat.le_refl _)
 have mi:@Agree (belowY (holY H nx p D) (nx j)) (nx (j+1)) τ (mixY σ τ (nx j) (nx (j+1))):=Au4 hag
 have mo:∀ n,@Agree (holY H nx p D) n σ (mixY σ τ (nx j) (nx (j+1))):=fun n=>Ag0 fun q hq hc=>@Lt.ok (holY H nx p D) _ _ hq (.inr ⟨j,hj,hnot,hc⟩)
 have mb:∀ {i},nx j≤i→i<nx (j+1)→(mixY σ τ (nx j) (nx (j+1))).b i=τ.b i:=fun h1 h2=>if_pos ⟨h1,h2⟩
 have ws:=Nat.le_trans inv.goes.size hg.size
 -- the others' rows
 have oth:∀ {k i r},k<p→D k=true→nx k≤i→i<nx (k+1)→S.get i=some r→r.blk=true→(mixY σ τ (nx j) (nx (j+1))).b i=σ.b i∧w0.heap.size≤σ.b i∧σ.b i<w.heap.size∧¬G (σ.b i):=fun {k i r} hk1 hk2 h1 h2 hr hb=>by
  obtain ⟨k1,k2⟩:=inv.row k hk1 hk2 i r h1 h2 hr
  obtain ⟨k3,k4⟩:=k2 hb
  exact ⟨@Agree.b (holY H nx p D) _ _ _ (mo (nx (k+1))) i (B.new h hk1 hk2 h1 h2 (Nat.le_refl _)),k3,@RowOk.blk_lt (holY H nx p D) _ _ _ _ _ k1 hb,k4⟩
 have mine:∀ {i r},nx j≤i→i<nx (j+1)→S.get i=some r→r.blk=true→(mixY σ τ (nx j) (nx (j+1))).b i=τ.b i∧w.heap.size≤τ.b i∧¬G1 (τ.b i):=fun {i r} h1 h2 hr hb=>by
  have hr':=h.newV j hj hd i r h1 h2 hr
  exact ⟨mb h1 h2,hnew i r h1 hr' hb,fun hc=>(@YRel.dom (belowY (holY H nx p D) (nx j)) _ _ _ _ _ _ _ hY _ hc).2.1 i r hr' hb rfl⟩
 -- own data
 have odT:∀ {i e z jj:Nat} {ow:Bool},nx j≤i→i<nx (j+1)→Y.get i=some (.od e z ow jj)→live (mixY σ τ (nx j) (nx (j+1))) i→live τ i:=fun {i e z jj ow} h1 h2 hr hl=>by
  obtain ⟨k2,_⟩:=@YRel.row (belowY (holY H nx p D) (nx j)) _ _ _ _ _ _ _ hY i _ (h.newU j hj hd i _ h1 h2 hr)
  exact (@Ar (belowY (holY H nx p D) (nx j)) _ _ _ _ mi k2).1 hl
 have odM:∀ {i e z jj:Nat} {ow:Bool},nx j≤i→i<nx (j+1)→Y.get i=some (.od e z ow jj)→live (mixY σ τ (nx j) (nx (j+1))) i→(mixY σ τ (nx j) (nx (j+1))).b i=τ.b i∧w.heap.size≤τ.b i∧τ.b i<w'.heap.size∧¬G1 (τ.b i)∧∀ q r,(V' j).get q=some r→r.blk=true→τ.b q≠τ.b i:=fun {i e z jj ow} h1 h2 hr hl=>by
  have hr':=h.newU j hj hd i _ h1 h2 hr
  have hlt:=odT h1 h2 hr hl
  obtain ⟨q1,q2,q3,q4⟩:=@YRel.od (belowY (holY H nx p D) (nx j)) _ _ _ _ _ _ _ hY i _ _ _ _ hr' hlt
  exact ⟨mb h1 h2,hodn i _ _ _ _ h1 hr' hlt,q1,q3,q4⟩
 have odL:∀ {k i e z jj:Nat} {ow:Bool},k<p→D k=true→nx k≤i→i<nx (k+1)→Y.get i=some (.od e z ow jj)→live (mixY σ τ (nx j) (nx (j+1))) i→live σ i:=fun {k i e z jj ow} hk1 hk2 h1 h2 hr hl =>
  (@Ar (holY H nx p D) _ _ _ _ (mo (nx (k+1))) (B.new h hk1 hk2 h1 h2 (Nat.le_refl _))).1 hl
 have odO:∀ {k i e z jj:Nat} {ow:Bool},k<p→D k=true→nx k≤i→i<nx (k+1)→Y.get i=some (.od e z ow jj)→live (mixY σ τ (nx j) (nx (j+1))) i→(mixY σ τ (nx j) (nx (j+1))).b i=σ.b i∧w0.heap.size≤σ.b i∧σ.b i<w.heap.size∧¬G (σ.b i):=fun {k i e z jj ow} hk1 hk2 h1 h2 hr hl=>by
  obtain ⟨q1,q2,q3⟩:=inv.od k hk1 hk2 i _ _ _ _ h1 h2 hr (odL hk1 hk2 h1 h2 hr hl)
  exact ⟨@Agree.b (holY H nx p D) _ _ _ (mo (nx (k+1))) i (B.new h hk1 hk2 h1 h2 (Nat.le_refl _)),q1,q2,q3⟩
 refine ⟨?_,inv.goes.trans hg,fun g hg0=>by rw [hk g (Nat.lt_of_lt_of_le hg0 inv.goes.size),inv.heap g hg0],fun g hg0=>hG1 g (inv.gs g hg0),fun g hgg=>⟨(@YRel.dom (belowY (holY H nx p D) (nx j)) _ _ _ _ _ _ _ hY _ hgg).1,?_⟩,fun k hk1 hk2 i r h1 h2 hr=>?_,fun i i' r s hi hi' hl hl' hr hs hrb hsb he=>?_,fun k hk1 hk2 i y h1 h2 hr=>?_,fun k hk1 hk2 i e z ow jj h1 h2 hr hl=>?_,fun k k' hk1 hk1' hk2 hk2' i e z ow jj q r h1 h2 h1' h2' hr hl hs hb he=>?_,fun k k' hk1 hk1' hk2 hk2' i e z ow jj i' e' z' ow' jj' h1 h2 h1' h2' hr hr' hl hl' he=>?_,by rw [Bz];exact inv.size,by rw [Bd];exact inv.dfr,fun t=>?_,fun t=>?_⟩
 ·refine Agree.move (H1:=H) (@Agree.trans H _ _ _ _ _ inv.ag (Nat.le_refl _) (Ag0 fun q hq hc=>?_)) fun q hq=>hq
  have:=@Lt.lt H _ _ hq
  omega
 ·rcases hG2 g hgg with h1 | h1
  ·exact (inv.gn g h1).2
  ·exact .inr (Nat.le_trans inv.goes.size h1)
 ·by_cases hkj:k=j
  ·subst hkj
   have hr':=h.newV k hj hd i r h1 h2 hr
   have k1:=@Rel.row (belowY (holY H nx p D) (nx k)) _ _ _ _ hRel i r hr'
   have k2:=@Rel.lt (belowY (holY H nx p D) (nx k)) _ _ _ _ hRel i r hr'
   refine ⟨RowOk.move k1 mi k2 grow (fun _=>rfl),fun hb=>?_⟩
   obtain ⟨q1,q2,q3⟩:=mine h1 h2 hr hb
   rw [q1]
   exact ⟨Nat.le_trans inv.goes.size q2,q3⟩
  ·have hDk:=dd hk1 hk2 hkj
   have k1:=(inv.row k hk1 hDk i r h1 h2 hr).1
   refine ⟨RowOk.move k1 (mo _) (B.new h hk1 hDk h1 h2 (Nat.le_refl _)) (fun q hq=>shrink hq) (fun hb=>hk _ (@RowOk.blk_lt (holY H nx p D) _ _ _ _ _ k1 hb)),fun hb=>?_⟩
   obtain ⟨q1,q2,q3,q4⟩:=oth hk1 hDk h1 h2 hr hb
   rw [q1]
   refine ⟨q2,fun hc=>?_⟩
   rcases hG2 _ hc with h5 | h5
   ·exact q4 h5
   ·omega
 ·have old:∀ {i:Nat},nx 0≤i→@Lt (holY H nx p D') i (nx p)→∃ k,k<p∧D' k=true∧nx k≤i∧i<nx (k+1):=fun {i} h1 h2=>by
   rcases B.born h h2 with h3 | h3
   ·omega
   ·exact h3
  obtain ⟨k,k1,k2,k3,k4⟩:=old hi hl
  obtain ⟨k',k1',k2',k3',k4'⟩:=old hi' hl'
  by_cases hkj:k=j <;> by_cases hkj':k'=j
  ·subst hkj hkj'
   have hr':=h.newV k' hj hd i r k3 k4 hr
   have hs':=h.newV k' hj hd i' s k3' k4' hs
   exact @Rel.inj (belowY (holY H nx p D) (nx k')) _ _ _ _ hRel i i' r s hr' hs' hrb hsb (by rw [mb k3 k4,mb k3' k4'] at he;exact he)
  ·subst hkj
   obtain ⟨q1,q2,q3⟩:=mine k3 k4 hr hrb
   obtain ⟨p1,p2,p3,p4⟩:=oth k1' (dd k1' k2' hkj') k3' k4' hs hsb
   omega
  ·subst hkj'
   obtain ⟨q1,q2,q3⟩:=mine k3' k4' hs hsb
   obtain ⟨p1,p2,p3,p4⟩:=oth k1 (dd k1 k2 hkj) k3 k4 hr hrb
   omega
  ·obtain ⟨p1,p2,p3,p4⟩:=oth k1 (dd k1 k2 hkj) k3 k4 hr hrb
   obtain ⟨q1,q2,q3,q4⟩:=oth k1' (dd k1' k2' hkj') k3' k4' hs hsb
   exact inv.inj i i' r s hi hi' (B.new h k1 (dd k1 k2 hkj) k3 k4 (h.le (show k+1≤p from k1) (Nat.le_refl _))) (B.new h k1' (dd k1' k2' hkj') k3' k4' (h.le (show k'+1≤p from k1') (Nat.le_refl _))) hr hs hrb hsb (by omega)
 ·by_cases hkj:k=j
  ·subst hkj
   have hr':=h.newU k hj hd i y h1 h2 hr
   obtain ⟨k2,k1⟩:=@YRel.row (belowY (holY H nx p D) (nx k)) _ _ _ _ _ _ _ hY i y hr'
   have hq:=h.req (show k+1≤p from hj) (Nat.le_refl p)
   exact ⟨YOk.move k1 mi k2 grow (fun _ hg=>hg) (fun _ _ _ _ hv=>hv) (fun _ _=>rfl),YAg.move (hSA i y hr') k1 mi k2 fun q hq'=>⟨hq.rn q hq',hq.rt q hq',hq.rs q hq',hq.rd q hq'⟩⟩
  ·have hDk:=dd hk1 hk2 hkj
   obtain ⟨k1,k2⟩:=inv.y k hk1 hDk i y h1 h2 hr
   have k3:=B.new h hk1 hDk h1 h2 (Nat.le_refl (nx (k+1)))
   refine ⟨YOk.move k1 (mo _) k3 (fun q hq=>shrink hq) hG1 (fun g q v hg hv=>?_) (fun ho hl=>?_),YAg.move k2 k1 (mo _) k3 fun q hq'=>⟨rfl,rfl,rfl,rfl⟩⟩
   ·rw [Cj (hk g (inv.gn g hg).1)];exact hv
   ·cases y <;> first | (cases ho;done) | skip
    exact hk _ (inv.od k hk1 hDk i _ _ _ _ h1 h2 hr hl).2.1
 ·by_cases hkj:k=j
  ·subst hkj
   obtain ⟨q1,q2,q3,q4,q5⟩:=odM h1 h2 hr hl
   rw [q1]
   exact ⟨Nat.le_trans inv.goes.size q2,q3,q4⟩
  ·obtain ⟨q1,q2,q3,q4⟩:=odO hk1 (dd hk1 hk2 hkj) h1 h2 hr hl
   rw [q1]
   refine ⟨q2,Nat.lt_of_lt_of_le q3 hg.size,fun hc=>?_⟩
   rcases hG2 _ hc with h5 | h5
   ·exact q4 h5
   ·omega
 ·by_cases hkj:k=j <;> by_cases hkj':k'=j
  ·subst hkj
   subst hkj'
   obtain ⟨q1,q2,q3,q4,q5⟩:=odM h1 h2 hr hl
   rw [q1,mb h1' h2'] at he
   exact q5 q r (h.newV k' hj hd q r h1' h2' hs) hb he
  ·subst hkj
   obtain ⟨q1,q2,q3,q4,q5⟩:=odM h1 h2 hr hl
   obtain ⟨p1,p2,p3,p4⟩:=oth hk1' (dd hk1' hk2' hkj') h1' h2' hs hb
   omega
  ·subst hkj'
   obtain ⟨q1,q2,q3,q4⟩:=odO hk1 (dd hk1 hk2 hkj) h1 h2 hr hl
   obtain ⟨p1,p2,p3⟩:=mine h1' h2' hs hb
   omega
  ·have hl0:=odL hk1 (dd hk1 hk2 hkj) h1 h2 hr hl
   obtain ⟨q1,q2,q3,q4⟩:=odO hk1 (dd hk1 hk2 hkj) h1 h2 hr hl
   obtain ⟨p1,p2,p3,p4⟩:=oth hk1' (dd hk1' hk2' hkj') h1' h2' hs hb
   exact inv.odr k k' hk1 hk1' (dd hk1 hk2 hkj) (dd hk1' hk2' hkj') i e z ow jj q r h1 h2 h1' h2' hr hl0 hs hb (by omega)
 ·by_cases hkj:k=j <;> by_cases hkj':k'=j
  ·subst hkj
   subst hkj'
   obtain ⟨q1,_⟩:=odM h1 h2 hr hl
   obtain ⟨p1,_⟩:=odM h1' h2' hr' hl'
   rw [q1,p1] at he
   exact @YRel.odi (belowY (holY H nx p D) (nx k')) _ _ _ _ _ _ _ hY i _ _ _ _ i' _ _ _ _ (h.newU k' hj hd i _ h1 h2 hr) (h.newU k' hj hd i' _ h1' h2' hr') (odT h1 h2 hr hl) (odT h1' h2' hr' hl') he
  ·subst hkj
   obtain ⟨q1,q2,_⟩:=odM h1 h2 hr hl
   obtain ⟨p1,p2,p3,p4⟩:=odO hk1' (dd hk1' hk2' hkj') h1' h2' hr' hl'
   omega
  ·subst hkj'
   obtain ⟨q1,q2,q3,q4⟩:=odO hk1 (dd hk1 hk2 hkj) h1 h2 hr hl
   obtain ⟨p1,p2,_⟩:=odM h1' h2' hr' hl'
   omega
  ·obtain ⟨q1,q2,q3,q4⟩:=odO hk1 (dd hk1 hk2 hkj) h1 h2 hr hl
   obtain ⟨p1,p2,p3,p4⟩:=odO hk1' (dd hk1' hk2' hkj') h1' h2' hr' hl'
   exact inv.odi k k' hk1 hk1' (dd hk1 hk2 hkj) (dd hk1' hk2' hkj') i e z ow jj i' e' z' ow' jj' h1 h2 h1' h2' hr hr' (odL hk1 (dd hk1 hk2 hkj) h1 h2 hr hl) (odL hk1' (dd hk1' hk2' hkj') h1' h2' hr' hl') (by omega)
 ·rw [htm t]
  have hget:=inv.tget t
  by_cases hw:(o j).dst=some t
  ·rw [if_pos hw,hw]
   have:=hput t hw
   show (a.tmps.setIfInBounds t _).getD t undef=_
   rw [Array.getD_eq_getD_getElem?,Array.getElem?_setIfInBounds]
   simp only [if_true,inv.size,this]
   rw [Option.getD_some,@Agree.realW (belowY (holY H nx p D) (nx j)) _ _ _ mi _ hx]
  ·rw [if_neg hw,@Agree.realW (holY H nx p D) _ _ _ (mo (nx p)) _ (inv.tlt t),←hget]
   cases hdst:(o j).dst with
   | none=>rfl
   | some d =>
    show (a.tmps.setIfInBounds d _).getD t undef=_
    rw [Array.getD_eq_getD_getElem?,Array.getElem?_setIfInBounds,if_neg (fun he=>hw (by rw [hdst,he])),←Array.getD_eq_getD_getElem?]
 ·rw [htm t]
  split
  ·exact W.lt.move hx fun q hq=>@Lt.mono (holY H nx p D') _ _ _ (grow q hq) njp
  ·exact W.lt.move (inv.tlt t) fun q hq=>shrink hq
end
end Go.Vc

namespace Go.Vc
section
variable {H:Holes} {P:Program} {K:Nat→Option (List Value)} {b:Bs} {nt p:Nat} {ops:Array Oper} {o:Nat→Oper} {nx:Nat→Nat} {S:T Row} {Y:T YRow} {ρ:Nat→Rho} {tm:Nat→Tm} {did:Nat→Bool} {x:Nat→W} {V V':Nat→T Row} {U U':Nat→T YRow} {vis:Nat→Nat→Prop} {tv:Nat→Tm} {m0:Mem} {Y0:T YRow} {G0 G:Nat→Prop} {σ0 σ:Env} {w0 w:World} {a0 a:Act} {D D':Nat→Bool} {j:Nat} {tm0:Tm}
theorem Ari (h:RunY P K nt ops p o nx S Y ρ tm did x V V' U U' vis tv) (inv:InvY H K b nt p o nx S Y ρ tm0 x G0 σ0 a0 w0 D G σ a w) (hj:j<p) (hd:did j=false) (hD':∀ k,k<p→D' k=(D k || decide (k=j))) (hput:∀ d,(o j).dst=some d→d<nt) (htm:∀ t,(tmY o x D' tm0 p).get t=if (o j).dst=some t then x j else (tmY o x D tm0 p).get t) :
  InvY H K b nt p o nx S Y ρ tm0 x G0 σ0 a0 w0 D' G σ (a.put (o j).dst undef) w:=by
 obtain ⟨hxu,hnx⟩:=h.skip j hj hd
 have dd:∀ {k i},k<p→D' k=true→nx k≤i→i<nx (k+1)→D k=true:=fun {k i} hk1 hk2 h1 h2=>by
  rw [hD' k hk1] at hk2
  by_cases hne:k=j
  ·subst hne;omega
  ·simpa [hne] using hk2
 have shrink:∀ {q n},@Lt (holY H nx p D) q n→@Lt (holY H nx p D') q n:=fun {q n} hq=>@Lt.mk (holY H nx p D') _ _ (@Lt.lt (holY H nx p D) _ _ hq) (fun hc=>@Lt.ok (holY H nx p D) _ _ hq (by
  rcases hc with hc | ⟨i,h1,h2,h3⟩
  ·exact .inl hc
  ·refine .inr ⟨i,h1,?_,h3⟩
   rw [hD' i h1] at h2
   cases hDi:D i with
   | false=>rfl
   | true=>rw [hDi] at h2;cases h2))
 have back:∀ {q n},@Lt (holY H nx p D') q n→@Lt (holY H nx p D) q n:=fun {q n} hq=>@Lt.mk (holY H nx p D) _ _ (@Lt.lt (holY H nx p D') _ _ hq) (fun hc=>@Lt.ok (holY H nx p D') _ _ hq (by
  rcases hc with hc | ⟨i,h1,h2,h3⟩
  ·exact .inl hc
  ·refine .inr ⟨i,h1,?_,h3⟩
   rw [hD' i h1,h2]
   by_cases hne:i=j
   ·subst hne;omega
   ·simp [hne]))
 have lt':∀ {k i},k<p→D k=true→nx k≤i→i<nx (k+1)→∀ y,@YOk (holY H nx p D) G b.wB.heap.size σ (nx (k+1)) w i y→@YOk (holY H nx p D') G b.wB.heap.size σ (nx (k+1)) w i y:=fun {k i} hk1 hk2 h1 h2 y hy=>by
  cases y with
  | int=>trivial
  | bool=>trivial
  | str=>trivial
  | dead=>trivial
  | kb b=>exact hy
  | fz own c q=>exact ⟨shrink hy.1,hy.2⟩
  | fp own cs=>exact ⟨hy.1,fun q c hq=>⟨C.lt.move (hy.2 q c hq).1 fun _ h=>shrink h,(hy.2 q c hq).2⟩⟩
  | od e z own q=>exact ⟨shrink hy.1,hy.2⟩
  | ep a x z=>exact ⟨shrink hy.1,shrink hy.2.1,hy.2.2⟩
  | ov a x z=>exact ⟨shrink hy.1,shrink hy.2.1,hy.2.2⟩
 have rw':∀ {k i r},@RowOk (holY H nx p D) σ (nx (k+1)) w i r→@RowOk (holY H nx p D') σ (nx (k+1)) w i r:=fun {k i r} hr=>by
  cases r with
  | cells e q cs =>
   obtain ⟨arr,h1,h2,h3,h4⟩:=hr
   refine ⟨arr,h1,h2,h3,fun j hj=>?_⟩
   obtain ⟨c,hc,hl,ha⟩:=h4 j hj
   exact ⟨c,hc,C.lt.move hl fun _ h=>shrink h,ha⟩
  | fn f first caps =>
   obtain ⟨h1,h2,h3⟩:=hr
   exact ⟨h1,fun x hx=>W.lt.move (h2 x hx) fun _ h=>shrink h,fun x hx=>W.lt.move (h3 x hx) fun _ h=>shrink h⟩
  | val x=>exact ⟨hr.1,_root_.Go.Vc.V.lt.move hr.2 fun _ h=>shrink h⟩
  | loop st p nt tm ps a b =>
   obtain ⟨fn,tmps,df,h1,h2,h3,h4⟩:=hr
   exact ⟨fn,tmps,df,h1,h2,TmOk.move h3 (@Agree.refl (holY H nx _ D) _ _) fun _ h=>shrink h,h4⟩
  | dead=>trivial
  | map k es c=>exact hr
 refine ⟨inv.ag,inv.goes,inv.heap,inv.gs,inv.gn,fun k hk1 hk2 i r h1 h2 hr=>?_,fun i i' r s hi hi' hl hl'=>inv.inj i i' r s hi hi' (back hl) (back hl'),fun k hk1 hk2 i y h1 h2 hr=>?_,fun k hk1 hk2 i e z ow jj h1 h2=>inv.od k hk1 (dd hk1 hk2 h1 h2) i e z ow jj h1 h2,fun k k' hk1 hk1' hk2 hk2' i e z ow jj q r h1 h2 h1' h2'=>inv.odr k k' hk1 hk1' (dd hk1 hk2 h1 h2) (dd hk1' hk2' h1' h2') i e z ow jj q r h1 h2 h1' h2',fun k k' hk1 hk1' hk2 hk2' i e z ow jj i' e' z' ow' jj' h1 h2 h1' h2'=>inv.odi k k' hk1 hk1' (dd hk1 hk2 h1 h2) (dd hk1' hk2' h1' h2') i e z ow jj i' e' z' ow' jj' h1 h2 h1' h2',by rw [Bz];exact inv.size,by rw [Bd];exact inv.dfr,fun t=>?_,fun t=>?_⟩
 ·obtain ⟨k1,k2⟩:=inv.row k hk1 (dd hk1 hk2 h1 h2) i r h1 h2 hr
  exact ⟨rw' k1,k2⟩
 ·obtain ⟨k1,k2⟩:=inv.y k hk1 (dd hk1 hk2 h1 h2) i y h1 h2 hr
  exact ⟨lt' hk1 (dd hk1 hk2 h1 h2) h1 h2 y k1,k2⟩
 ·rw [htm t]
  by_cases hw:(o j).dst=some t
  ·rw [if_pos hw,hw,hxu]
   have:=hput t hw
   show (a.tmps.setIfInBounds t _).getD t undef=_
   rw [Array.getD_eq_getD_getElem?,Array.getElem?_setIfInBounds]
   simp only [if_true,inv.size,this]
   rfl
  ·rw [if_neg hw,←inv.tget t]
   cases hdst:(o j).dst with
   | none=>rfl
   | some d =>
    show (a.tmps.setIfInBounds d _).getD t undef=_
    rw [Array.getD_eq_getD_getElem?,Array.getElem?_setIfInBounds,if_neg (fun he=>hw (by rw [hdst,he])),←Array.getD_eq_getD_getElem?]
 ·rw [htm t]
  split
  ·rw [hxu];exact @Bt (holY H nx p D') _
  ·exact W.lt.move (inv.tlt t) fun q hq=>shrink hq
theorem Xn:∀ (n:Nat),(∀ k,k<n→D k=false)→tmY o x D tm0 n=tm0
 | 0,_=>rfl
 | n+1,h=>by
  unfold tmY
  rw [h n (Nat.lt_succ_self _),Xn n fun k hk=>h k (Nat.lt_succ_of_lt hk)]
  split <;> rfl
theorem Adj (h:RunY P K nt ops p o nx S Y ρ tm did x V V' U U' vis tv) (h0:tm 0=tm0):∀ (n:Nat),n≤p→(∀ k,k<n→D k=true)→tmY o x D tm0 n=tm n
 | 0,_,_=>h0.symm
 | n+1,hn,hD=>by
  unfold tmY
  rw [hD n (Nat.lt_succ_self _),Adj h h0 n (by omega) fun k hk=>hD k (Nat.lt_succ_of_lt hk)]
  split
  ·rename_i d hd;exact (h.put n hn d hd).2.symm
  ·rename_i hd;exact (h.same n hn hd).symm
theorem Amx (B:BegY H K b nx S Y ρ m0 Y0 G0 σ0 w0) (h:RunY P K nt ops p o nx S Y ρ tm did x V V' U U' vis tv) (hD:∀ k,k<p→D k=false) (hT:@TmOk H σ0 (nx 0) a.tmps tm0) (hs:a.tmps.size=nt):InvY H K b nt p o nx S Y ρ tm0 x G0 σ0 a w0 D G0 σ0 a w0:=by
 have hn:∀ {k:Nat} {q:Prop},k<p→D k=true→q:=fun {k q} h1 h2=>by rw [hD k h1] at h2;cases h2
 refine ⟨@Agree.refl H _ _,⟨rfl,rfl,rfl,Nat.le_refl _⟩,fun _ _=>rfl,fun _ h=>h,fun g hg=>⟨(B.y.dom g hg).1, .inl hg⟩,fun k hk1 hk2=>hn hk1 hk2,fun i i' r s hi hi' hl hl'=>?_,fun k hk1 hk2=>hn hk1 hk2,fun k hk1 hk2=>hn hk1 hk2,fun k k' hk1 _ hk2=>hn hk1 hk2,fun k k' hk1 _ hk2=>hn hk1 hk2,hs,rfl,fun t=>?_,fun t=>?_⟩
 ·rcases B.born h hl with h1 | ⟨k,h1,h2,_⟩
  ·omega
  ·exact hn h1 h2
 ·rw [Xn p hD];exact @TmOk.get H _ _ _ _ hT t
 ·rw [Xn p hD]
  exact W.lt.move (@TmOk.lt H _ _ _ _ hT t) fun q hq=>B.out h hq (h.le (Nat.zero_le p) (Nat.le_refl p))
theorem Avg (B:BegY H K b nx S Y ρ m0 Y0 G0 σ0 w0) (h:RunY P K nt ops p o nx S Y ρ tm did x V V' U U' vis tv) (h0:tm 0=tm0) (inv:InvY H K b nt p o nx S Y ρ tm0 x G0 σ0 a0 w0 D G σ a w) (hD:∀ k,k<p→D k=true) {lo:Nat} :
  @Aw H K b ⟨S,nx p,lo⟩ Y (ρ p) σ w∧@TmOk H σ (nx p) a.tmps (tm p):=by
 have n0p:=h.le (Nat.zero_le p) (Nat.le_refl p)
 have cv:∀ {q n},@Lt (holY H nx p D) q n→@Lt H q n:=fun {q n} hq=>@Lt.mk H _ _ (@Lt.lt (holY H nx p D) _ _ hq) (fun hc=>@Lt.ok (holY H nx p D) _ _ hq (.inl hc))
 have old:∀ i,i<nx p→i<nx 0∧nx 0≤nx p∨∃ k,k<p∧D k=true∧nx k≤i∧i<nx (k+1)∧nx (k+1)≤nx p:=fun i hi=>by
  have key:∀ n,n≤p→i<nx n→i<nx 0∨∃ k,k<p∧nx k≤i∧i<nx (k+1):=fun n=>by
   induction n with
   | zero=>exact fun _ hl=>.inl hl
   | succ n ih =>
    intro hn hl
    rcases Nat.lt_or_ge i (nx n) with hlt | hge
    ·exact ih (by omega) hlt
    ·exact .inr ⟨n,hn,hge,hl⟩
  rcases key p (Nat.le_refl p) hi with h1 | ⟨k,h1,h2,h3⟩
  ·exact .inl ⟨h1,n0p⟩
  ·exact .inr ⟨k,h1,hD k h1,h2,h3,h.le (show k+1≤p from h1) (Nat.le_refl p)⟩
 have rowS:∀ i r,S.get i=some r→@RowOk (holY H nx p D) σ (nx p) w i r∧@Lt (holY H nx p D) i (nx p):=fun i r hr=>inv.rowAll B h (old i (h.nlp i r hr)) hr
 have yS:∀ i y,Y.get i=some y→@YOk (holY H nx p D) G b.wB.heap.size σ (nx p) w i y∧@Lt (holY H nx p D) i (nx p)∧YAg (ρ p) σ i y:=fun i y hr=>inv.yAll B h (old i (h.nly i y hr)) hr
 have hYr:@YRel H G b.F0 b.wB.heap.size σ ⟨S,nx p,lo⟩ Y w:=by
  refine @YRel.mk H _ _ _ _ _ _ _ (fun g hg=>?_) (fun i y hi=>?_) (fun i e z oo jj hi hl=>?_) (fun i e z oo jj i' e' z' oo' jj' hi hi' hl hl' he=>?_)
  ·obtain ⟨k1,k2⟩:=inv.gn g hg
   refine ⟨k1,fun i r hr hb he=>(inv.blk B h (rowS i r hr).2 hr hb).2.2.1 (he▸hg),?_⟩
   rcases k2 with k2 | k2
   ·exact (B.y.dom g k2).2.2
   ·exact .inr (Nat.le_trans B.aw.size k2)
  ·obtain ⟨h1,h2,h3⟩:=yS i y hi
   exact ⟨cv h2,YOk.move h1 (@Agree.refl (holY H nx p D) _ _) h2 (fun _ h=>cv h) (fun _ hg=>hg) (fun _ _ _ _ hv=>hv) (fun _ _=>rfl)⟩
  ·obtain ⟨q1,q2,q3,q4⟩:=inv.odAll B h (yS i _ hi).2.1 hi hl
   exact ⟨q1,q2,q3,fun q r hr hb=>q4 q r (rowS q r hr).2 hr hb⟩
  ·exact inv.odiAll B h (yS i _ hi).2.1 (yS i' _ hi').2.1 hi hi' hl hl' he
 have hR:@Rel H K σ ⟨S,nx p,lo⟩ w:=by
  refine @Rel.mk H _ _ _ _ (fun i r hr=>?_) (fun i r hr=>cv (rowS i r hr).2) (fun i i' r s hr hs hrb hsb he=>inv.injAll B h (rowS i r hr).2 (rowS i' s hs).2 hr hs hrb hsb he) (inv.known B h) (fun i r hr hb=>(inv.blk B h (rowS i r hr).2 hr hb).2.1) (fun g l hg=>Nat.lt_of_lt_of_le (@Rel.low H _ _ _ _ B.aw.rel g l hg) inv.goes.size) (fun i hi=>?_)
  ·exact RowOk.move (rowS i r hr).1 (@Agree.refl (holY H nx p D) _ _) (rowS i r hr).2 (fun _ h=>cv h) (fun _=>rfl)
  ·exact @Rel.fresh H _ _ _ _ B.aw.rel i (by rw [B.hnx];exact Nat.le_trans n0p hi)
 have hn0:=B.aw.nx
 have hn1:=B.aw.nx1
 rw [B.hnx] at hn0 hn1
 refine ⟨@Aw.mk H _ _ _ _ _ _ _ hR (Nat.le_trans hn0 n0p) (@Agree.trans H _ _ _ _ _ B.aw.agree hn0 inv.ag) (Nat.le_trans hn1 n0p) (@Agree.trans H _ _ _ _ _ B.aw.agree1 hn1 inv.ag) B.aw.base (B.aw.goes.trans inv.goes) (fun g hg=>?_) (fun i r hr hb=>(inv.blk B h (rowS i r hr).2 hr hb).1) ⟨G,hYr⟩ (fun i y hi=>(yS i y hi).2.2) (fun g q hg=>?_) (fun i hi=>?_) B.aw.klow,@TmOk.mk H _ _ _ _ (fun t=>?_) (fun t=>?_)⟩
 ·rw [inv.heap g (Nat.lt_of_lt_of_le hg B.aw.size)]
  exact B.aw.frame g hg
 ·have:=B.aw.dfr g q hg
  rw [inv.heap g (Bw this)]
  exact this
 ·obtain ⟨s,h1,h2⟩:=B.aw.keep i hi
  have:=@Lt.lt H _ _ (@Rel.lt H _ _ _ _ B.aw.rel i s h1)
  rw [B.hnx] at this
  exact ⟨s,by show S.get i=_;rw [B.hS i this];exact h1,h2⟩
 ·rw [←Adj h h0 p (Nat.le_refl p) hD];exact inv.tget t
 ·rw [←Adj h h0 p (Nat.le_refl p) hD]
  exact W.lt.move (inv.tlt t) fun q hq=>cv hq
end
end Go.Vc

namespace Go.Vc
def namesY (ops:Array Oper) (o:Oper):List Tmp:=(o.op.operands.toList.filterMap fun x=>match x with
 | .tmp t=>some t
 | _=>none)++match o.guard with
 | some g=>match (ops[g.1]?).bind (·.dst) with
  | some d=>[d]
  | none=>[]
 | none=>[]
theorem Gp {ops:Array Oper} {o:Oper} {t:Tmp} (h:Operand.tmp t∈o.op.operands):t∈namesY ops o :=
 List.mem_append_left _ (List.mem_filterMap.2 ⟨.tmp t,by simpa using h,rfl⟩)
theorem Nm {ops:Array Oper} {o:Oper} {g:Nat} {b:Bool} {t:Tmp} (hg:o.guard=some (g,b)) (h:(ops[g]?).bind (·.dst)=some t):t∈namesY ops o:=by
 refine List.mem_append_right _ ?_
 rw [hg]
 simp only
 rw [h]
 simp
structure NamesY (ops:Array Oper) (p:Nat) (o:Nat→Oper) (nx:Nat→Nat) (tm:Nat→Tm) (did:Nat→Bool) (tv:Nat→Tm):Prop where
 nmD:∀ j,j<p→∀ t,(o j).dst=some t→∀ k,k<p→(o k).dst=some t→k=j∨(k<j∧Wt ops j k)∨(j<k∧Wt ops k j)
 nmT:∀ j,j<p→∀ t,t∈namesY ops (o j)→∀ k,k<p→(o k).dst=some t→k=j∨(k<j∧Wt ops j k)∨(j<k∧Wt ops k j)
 tvT:∀ j,j<p→∀ t,t∈namesY ops (o j)→(tv j).get t=(tm j).get t
 tvN:∀ j,j<p→∀ t,¬t∈namesY ops (o j)→(tv j).get t = .v (.c (.raw undef))
 tvl:∀ j,j<p→∀ t,@W.lt noHoles (nx j) ((tv j).get t)
 want:∀ j,j<p→openB ops (tv j) (o j)=false∧wantW ops (tv j) (o j)=did j
 op:∀ j,j<p→did j=true→(∀ c,(o j).op≠.defer c)∧∀ cs b,(o j).op≠.select cs b
section
variable {H:Holes} {P:Program} {K:Nat→Option (List Value)} {b:Bs} {nt p:Nat} {ops:Array Oper} {o:Nat→Oper} {nx:Nat→Nat} {S:T Row} {Y:T YRow} {ρ:Nat→Rho} {tm:Nat→Tm} {did:Nat→Bool} {x:Nat→W} {V V':Nat→T Row} {U U':Nat→T YRow} {vis:Nat→Nat→Prop} {tv:Nat→Tm} {m0:Mem} {Y0:T YRow} {G0 G:Nat→Prop} {σ0 σ:Env} {w0 w:World} {a0 a:Act} {D D':Nat→Bool} {j:Nat} {tm0:Tm}
theorem Eo {n:Nat} (t:Tmp):(tmY o x D tm0 (n+1)).get t=if (o n).dst=some t∧D n=true then x n else (tmY o x D tm0 n).get t:=by
 rw [tmY]
 split
 ·rename_i d hd
  cases hD:D n with
  | true =>
   rw [cond_true,@Tm.get_set noHoles]
   by_cases ht:d=t
   ·subst ht;rw [if_pos rfl,if_pos ⟨hd,rfl⟩]
   ·rw [if_neg ht,if_neg (fun hc=>ht (by have:=hc.1;rw [hd] at this;cases this;rfl))]
  | false=>rw [cond_false,if_neg (fun hc=>by cases hc.2)]
 ·rename_i hd
  rw [if_neg (fun hc=>by rw [hd] at hc;cases hc.1)]
theorem Ap3 (hn:NamesY ops p o nx tm did tv) (hj:j<p) (hnot:D j=false) (hcl:∀ k q,D k=true→Wt ops k q→D q=true) (hD':∀ k,k<p→D' k=(D k || decide (k=j))) (t:Tmp):(tmY o x D' tm0 p).get t=if (o j).dst=some t then x j else (tmY o x D tm0 p).get t:=by
 have lo:∀ n,n≤j→(tmY o x D' tm0 n).get t=(tmY o x D tm0 n).get t:=fun n=>by
  induction n with
  | zero=>exact fun _=>rfl
  | succ n ih =>
   intro hle
   rw [Eo,Eo,ih (by omega),hD' n (by omega)]
   have:decide (n=j)=false:=by simp;omega
   rw [this,Bool.or_false]
 have hi:∀ n,j<n→n≤p→(tmY o x D' tm0 n).get t=if (o j).dst=some t then x j else (tmY o x D tm0 n).get t:=fun n=>by
  induction n with
  | zero=>intro h;omega
  | succ n ih =>
   intro h1 h2
   by_cases he:n=j
   ·subst he
    rw [Eo,Eo,lo n (Nat.le_refl _),hD' n hj,hnot]
    simp
   ·rw [Eo,Eo,ih (by omega) (by omega),hD' n (by omega)]
    have:decide (n=j)=false:=by simp;omega
    rw [this,Bool.or_false]
    by_cases hw:(o n).dst=some t∧D n=true
    ·rw [if_pos hw,if_pos hw]
     by_cases hwj:(o j).dst=some t
     ·exfalso
      rcases hn.nmD j hj t hwj n (by omega) hw.1 with h3 | ⟨h3,_⟩ | ⟨_,h3⟩
      ·exact he h3
      ·omega
      ·have:=hcl n j hw.2 h3
       rw [hnot] at this;cases this
     ·rw [if_neg hwj]
    ·rw [if_neg hw,if_neg hw]
 exact hi p hj (Nat.le_refl p)
theorem Af0 (h:RunY P K nt ops p o nx S Y ρ tm did x V V' U U' vis tv) (hn:NamesY ops p o nx tm did tv) (h0:tm 0=tm0) (hj:j<p) (hnot:D j=false) (hw:∀ k,Wt ops j k→D k=true) (hcl:∀ k q,D k=true→Wt ops k q→D q=true) {t:Tmp} (ht:t∈namesY ops (o j)):(tmY o x D tm0 p).get t=(tv j).get t:=by
 rw [hn.tvT j hj t ht]
 have lo:∀ n,n≤j→(tmY o x D tm0 n).get t=(tm n).get t:=fun n=>by
  induction n with
  | zero=>exact fun _=>by rw [h0];rfl
  | succ n ih =>
   intro hle
   rw [Eo,ih (by omega)]
   by_cases hd:(o n).dst=some t
   ·have hDn:D n=true:=by
     rcases hn.nmT j hj t ht n (by omega) hd with h3 | ⟨_,h3⟩ | ⟨h3,_⟩
     ·omega
     ·exact hw n h3
     ·omega
    rw [if_pos ⟨hd,hDn⟩,(h.put n (by omega) t hd).2,@Tm.get_set noHoles,if_pos rfl]
   ·rw [if_neg (fun hc=>hd hc.1)]
    cases hdd:(o n).dst with
    | none=>rw [h.same n (by omega) hdd]
    | some d=>rw [(h.put n (by omega) d hdd).2,@Tm.get_set noHoles,if_neg (fun he=>hd (by rw [hdd,he]))]
 have hi:∀ n,j≤n→n≤p→(tmY o x D tm0 n).get t=(tm j).get t:=fun n=>by
  induction n with
  | zero=>intro h1 _;rw [←lo j (Nat.le_refl _),Nat.le_zero.1 h1]
  | succ n ih =>
   intro h1 h2
   by_cases he:n+1=j
   ·rw [he];exact lo j (Nat.le_refl _)
   ·rw [Eo,ih (by omega) (by omega),if_neg]
    rintro ⟨hd,hDn⟩
    rcases hn.nmT j hj t ht n (by omega) hd with h3 | ⟨h3,_⟩ | ⟨_,h3⟩
    ·subst h3;rw [hnot] at hDn;cases hDn
    ·omega
    ·have:=hcl n j hDn h3
     rw [hnot] at this;cases this
 exact hi p (Nat.le_of_lt hj) (Nat.le_refl p)
def actY (nt:Nat) (l:List Tmp) (a:Act):Act:=⟨Array.ofFn (n:=nt) fun i=>if i.1∈l then a.tmps.getD i undef else undef,a.defers⟩
theorem Ahw {l:List Tmp} (hs:a.tmps.size=nt) (t:Tmp):(actY nt l a).tmps[t]?=if t<nt then some (if t∈l then a.tmps.getD t undef else undef) else none:=by
 by_cases h:t<nt
 ·rw [if_pos h];simp [actY,h]
 ·rw [if_neg h];simp [actY,h]
theorem Ae7 {l:List Tmp} (hs:a.tmps.size=nt) {t:Tmp} (ht:t∈l):a.tmps[t]?=(actY nt l a).tmps[t]?:=by
 rw [Ahw hs]
 by_cases h:t<nt
 ·rw [if_pos h,if_pos ht,Array.getD_eq_getD_getElem?,Array.getElem?_eq_getElem (Nat.lt_of_lt_of_eq h hs.symm)];rfl
 ·rw [if_neg h,Array.getElem?_eq_none (hs▸Nat.le_of_not_lt h)]
theorem Apg {l:List Tmp} (hs:a.tmps.size=nt) (y:Operand) (hy:∀ t,y = .tmp t→t∈l):a.eval y=(actY nt l a).eval y:=by
 cases y with
 | tmp t =>
  show a.tmps.getD t undef=Array.getD _ t undef
  rw [Array.getD_eq_getD_getElem?,Array.getD_eq_getD_getElem?,Ae7 hs (hy t rfl)]
 | _=>rfl
theorem Apf {oo:Oper} (hs:a.tmps.size=nt):Region.wanted oo (yielded ops a.tmps)=Region.wanted oo (yielded ops (actY nt (namesY ops oo) a).tmps):=by
 unfold Region.wanted
 cases hg:oo.guard with
 | none=>rfl
 | some g =>
  obtain ⟨i,q⟩:=g
  simp only
  unfold yielded
  cases hd:(ops[i]?).bind (·.dst) with
  | none=>rfl
  | some d=>simp only [Option.bind_some];rw [Ae7 hs (Nm hg hd)]
theorem Awc (h:RunY P K nt ops p o nx S Y ρ tm did x V V' U U' vis tv) (hn:NamesY ops p o nx tm did tv) (h0:tm 0=tm0) (hj:j<p) (hnot:D j=false) (hw:∀ k,Wt ops j k→D k=true) (hcl:∀ k q,D k=true→Wt ops k q→D q=true) (inv:InvY H K b nt p o nx S Y ρ tm0 x G0 σ0 a0 w0 D G σ a w) :
  @TmOk (belowY (holY H nx p D) (nx j)) σ (nx j) (actY nt (namesY ops (o j)) a).tmps (tv j):=by
 refine @TmOk.mk (belowY (holY H nx p D) (nx j)) _ _ _ _ (fun t=>?_) (fun t=>?_)
 ·by_cases ht:t∈namesY ops (o j)
  ·rw [Array.getD_eq_getD_getElem?,←Ae7 inv.size ht,←Array.getD_eq_getD_getElem?,inv.tget t,Af0 h hn h0 hj hnot hw hcl ht]
  ·rw [hn.tvN j hj t ht,Array.getD_eq_getD_getElem?,Ahw inv.size,if_neg ht]
   split <;> rfl
 ·by_cases ht:t∈namesY ops (o j)
  ·have h1:=inv.tlt t
   rw [Af0 h hn h0 hj hnot hw hcl ht] at h1
   exact W.lt.both h1 (hn.tvl j hj t) fun q h2 h3=>@Lt.mk (belowY (holY H nx p D) (nx j)) _ _ (@Lt.lt noHoles _ _ h3) (fun hc=>@Lt.ok (holY H nx p D) _ _ h2 hc.2)
  ·rw [hn.tvN j hj t ht];trivial
end
theorem Ov {ops:Array Oper} {D:Nat→Bool} (hc:∀ j oj,ops[j]?=some oj→D j=true→∀ e∈oj.after,Region.binds .any e=true→D e.on=true) {j k:Nat} (hr:∀ oj,ops[j]?=some oj→∀ e∈oj.after,Region.binds .any e=true→D e.on=true) (h:Wt ops j k):D k=true:=by
 induction h with
 | one ho he hb=>exact hr _ ho _ he hb
 | more ho he hb _ ih=>exact ih fun oj hoj e' he' hb'=>hc _ oj hoj (hr _ ho _ he hb) e' he' hb'
theorem Aki {ops:Array Oper} {D:Nat→Bool} (hc:∀ j oj,ops[j]?=some oj→D j=true→∀ e∈oj.after,Region.binds .any e=true→D e.on=true) {j k:Nat} (hj:D j=true) (h:Wt ops j k):D k=true :=
 Ov hc (fun oj ho=>hc j oj ho hj) h
structure EdgesY (ops:Array Oper) (p:Nat):Prop where
 back:∀ (j:Nat) (o:Oper),ops[j]?=some o→∀ e∈o.after,Region.binds .any e=true→e.on<j
 cut:∀ j,p≤j→j<ops.size→∀ k,k<p→Wt ops j k
 le:p≤ops.size
section
variable {F:Fence} {n:Nat} {P:Program} {ops:Array Oper} {p:Nat} {Q:Exit→Act→World→Prop}
theorem Ai4 (he:EdgesY ops p) {listed:Array Bool} (hs:listed.size=ops.size) (h:Region.ready .any ops listed=[]):∀ k,k<ops.size→listed.getD k false=true:=by
 intro k
 induction k using Nat.strongRecOn with
 | _ k ih =>
  intro hk
  cases hd:listed.getD k false with
  | true=>rfl
  | false =>
   exfalso
   have hop:ops[k]?=some ops[k]:=Array.getElem?_eq_getElem hk
   have:k∈Region.ready .any ops listed:=mem_ready.2 ⟨getD_in (by rw [hs];exact hk) hd,ops[k],hop,fun e hee hb'=>by
    have hlt:=he.back k _ hop e hee hb'
    exact ih e.on hlt (by omega)⟩
   rw [h] at this;cases this
theorem Cm {listed:Array Bool} {j:Nat} (hj:j<listed.size) (k:Nat):(listed.setIfInBounds j true).getD k false=(listed.getD k false || decide (k=j)):=by
 by_cases he:k=j
 ·subst he;simp [hj]
 ·rw [getD_set_ne false (Ne.symm he)];simp [he]
theorem Aji {r:Nat} {a:Act} {w:World} (hr:r=ops.size) (h:Q .normal a w):drawAt F n P ops r Q a w:=fun fuel listed hs hl hf=>by
 have hnil:Region.ready .any ops listed=[]:=List.eq_nil_iff_forall_not_mem.2 fun i hi=>by
  obtain ⟨g1,oo,g2,_⟩:=mem_ready.1 hi
  have g3:=getD_both g1
  rw [hl i] at g3
  have:=(Array.getElem?_eq_some_iff.1 g2).1
  simp at g3
  omega
 cases fuel with
 | zero=>exact ⟨hnil,h⟩
 | succ fuel=>exact ⟨fun _=>h,fun j hj=>by rw [hnil] at hj;cases hj⟩
theorem Aax {o:Oper} {a:Act} {K D:Act→World→Prop} {r:Result Next} (h:o.uponIn F n P a K (Exit.then D Q) r):o.uponIn F n P a K Q r:=by
 cases r with
 | halt hh w=>cases hh <;> first | exact h | exact h.elim
 | ok x w =>
  cases x <;> first
   | exact h
   | exact ⟨h.1,h.2.mono fun e w2 h2=>by cases e <;> exact h2⟩
   | exact h.elim
theorem Au9 {r:Nat} {o:Oper} (hback:∀ (j:Nat) (o:Oper),ops[j]?=some o→∀ e∈o.after,Region.binds .any e=true→e.on<j) (hcut:∀ j,r<j→j<ops.size→Wt ops j r) (ho:ops[r]?=some o) {a:Act} {w:World} (h:wpListIn F n P ops (Exit.then (drawAt F n P ops (r+1) Q) Q) [o] a w):drawAt F n P ops r Q a w:=fun fuel listed hs hl hf=>by
 have hrs:=(Array.getElem?_eq_some_iff.1 ho).1
 cases fuel with
 | zero=>omega
 | succ fuel =>
  have hone:∀ j,j∈Region.ready .any ops listed→j=r:=fun j hj=>by
   obtain ⟨g1,oo,g2,g3⟩:=mem_ready.1 hj
   have hjl:=(Array.getElem?_eq_some_iff.1 g2).1
   have g1':=getD_both g1
   rw [hl j] at g1'
   have hjq:r≤j:=by simpa using g1'
   rcases Nat.lt_or_ge r j with h1 | h1
   ·have hw:=hcut j h1 hjl
    have hc:∀ i oi,ops[i]?=some oi→listed.getD i false=true→∀ e∈oi.after,Region.binds .any e=true→listed.getD e.on false=true:=fun i oi hi hli e hee hb=>by
     have:=hback i oi hi e hee hb
     rw [hl i] at hli
     rw [hl e.on]
     simp at hli ⊢
     omega
    have:=Ov (D:=fun k=>listed.getD k false) hc (fun oj hoj=>by
     have:oj=oo:=Option.some.inj (hoj.symm.trans g2)
     subst this
     exact g3) hw
    simp only [hl r] at this
    simp at this
   ·omega
  have hin:r∈Region.ready .any ops listed:=mem_ready.2 ⟨getD_in (by rw [hs];exact hrs) (by rw [hl r];simp),o,ho,fun e hee hb'=>(by
   have:=hback r o ho e hee hb'
   rw [hl e.on];simp;omega)⟩
  refine ⟨fun hnil=>(by rw [hnil] at hin;cases hin),fun j hj=>?_⟩
  have hje:=hone j hj
  subst hje
  have go:∀ a' w',drawAt F n P ops (j+1) Q a' w'→wpAnyIn F n P .any ops Q fuel (listed.setIfInBounds j true) a' w':=fun a' w' h' =>
   h' fuel _ (by simp [hs]) (fun k=>by
    rw [Cm (by rw [hs];exact hrs) k,hl k]
    by_cases h1:k<j
    ·simp [h1];omega
    ·by_cases h2:k=j
     ·simp [h2]
     ·simp [h1,h2];omega) (by omega)
  unfold wpOpIn
  rw [ho]
  simp only
  unfold wpListIn at h
  split
  ·rename_i hwt
   rw [if_pos hwt] at h
   exact ⟨h.1,Aax (Oper.wpIn_mono (fun a' w' h'=>go a' w' h') h).2⟩
  ·rename_i hwt
   rw [if_neg hwt] at h
   exact ⟨h.1,go _ _ h.2⟩
def idO (o:Oper):Oper:={ o with op:=match o.dst with | some d=>.move (.tmp d) | none=>.move (.const undef),guard:=none }
def waitO (r:Nat) (o:Oper):Oper:={ o with after:=o.after++(Array.range r).map fun k=>(⟨k, .data⟩:Edge) }
def idA (ops:Array Oper) (r:Nat):Array Oper:=((ops.toList.take r).map idO++(ops.toList.drop r).map (waitO r)).toArray
theorem Rh (ops:Array Oper) {r:Nat} (hr:r≤ops.size) (i:Nat):(idA ops r)[i]?=if i<r then (ops[i]?).map idO else (ops[i]?).map (waitO r):=by
 unfold idA
 rw [List.getElem?_toArray]
 have hl:((ops.toList.take r).map idO).length=r:=by simp;omega
 by_cases h:i<r
 ·rw [if_pos h,List.getElem?_append_left (by omega),List.getElem?_map,List.getElem?_take,if_pos h,Array.getElem?_toList]
 ·rw [if_neg h,List.getElem?_append_right (by omega),hl,List.getElem?_map,List.getElem?_drop,Array.getElem?_toList]
  congr 2
  omega
theorem Ag5 (ops:Array Oper) {r:Nat} (hr:r≤ops.size):(idA ops r).size=ops.size:=by
 unfold idA
 simp
 omega
theorem Avi (ops:Array Oper) {r:Nat} (hr:r≤ops.size) (i:Nat):((idA ops r)[i]?).bind (·.dst)=(ops[i]?).bind (·.dst):=by
 rw [Rh ops hr]
 split <;> cases ops[i]? <;> rfl
theorem Aeb (ops:Array Oper) {r:Nat} (hr:r≤ops.size) (tmps:Array Value):yielded (idA ops r) tmps=yielded ops tmps:=by
 funext j
 unfold yielded
 rw [Avi ops hr]
theorem Vw {r:Nat} (hr:r≤ops.size) {listed:Array Bool} {i:Nat} (hi:i<r):i∈Region.ready .any (idA ops r) listed↔i∈Region.ready .any ops listed:=by
 rw [mem_ready,mem_ready,Rh ops hr,if_pos hi]
 cases ops[i]? with
 | none=>simp
 | some o =>
  simp only [Option.map_some,Option.some.injEq,exists_eq_left']
  exact Iff.rfl
theorem Rf {r:Nat} (hr:r≤ops.size) {listed:Array Bool} (hl:∀ k,k<r→listed.getD k false=true) (i:Nat):i∈Region.ready .any (idA ops r) listed↔i∈Region.ready .any ops listed:=by
 by_cases hi:i<r
 ·exact Vw hr hi
 ·rw [mem_ready,mem_ready,Rh ops hr,if_neg hi]
  cases ops[i]? with
  | none=>simp
  | some o =>
   simp only [Option.map_some,Option.some.injEq,exists_eq_left']
   refine and_congr_right fun _=>⟨fun h e he hb=>h e (Array.mem_append.2 (.inl he)) hb,fun h e he hb=>?_⟩
   rcases Array.mem_append.1 he with he | he
   ·exact h e he hb
   ·obtain ⟨k,hk,rfl⟩:=Array.mem_map.1 he
    exact hl k (by simpa using hk)
theorem Ag6 {r:Nat} (hr:r≤ops.size):∀ (fuel:Nat) (listed:Array Bool) (a:Act) (w:World),(∀ k,k<r→listed.getD k false=true)→wpAnyIn F n P .any (idA ops r) Q fuel listed a w→wpAnyIn F n P .any ops Q fuel listed a w
 | 0,listed,a,w,hl,h=>⟨List.eq_nil_iff_forall_not_mem.2 fun i hi=>(by
   have:=(Rf hr hl i).2 hi
   rw [h.1] at this;cases this),h.2⟩
 | fuel+1,listed,a,w,hl,h=>by
  refine ⟨fun hnil=>h.1 (List.eq_nil_iff_forall_not_mem.2 fun i hi=>by
   have:=(Rf hr hl i).1 hi
   rw [hnil] at this;cases this),fun j hj=>?_⟩
  have h2:=h.2 j ((Rf hr hl j).2 hj)
  have hjr:¬j<r:=fun hlt=>by
   obtain ⟨g1,_⟩:=mem_ready.1 hj
   have:=getD_both g1
   rw [hl j hlt] at this;cases this
  have go:∀ a' w',wpAnyIn F n P .any (idA ops r) Q fuel (listed.setIfInBounds j true) a' w'→wpAnyIn F n P .any ops Q fuel (listed.setIfInBounds j true) a' w':=fun a' w' h'=>Ag6 hr fuel _ a' w' (fun k hk=>by
   rw [getD_set_ne false (by omega)];exact hl k hk) h'
  unfold wpOpIn at h2 ⊢
  rw [Rh ops hr,if_neg hjr] at h2
  cases ho:ops[j]? with
  | none=>rw [ho] at h2;exact go _ _ h2
  | some o =>
   rw [ho] at h2
   simp only [Option.map_some] at h2 ⊢
   rw [Aeb ops hr] at h2
   have hww:Region.wanted (waitO r o) (yielded ops a.tmps)=Region.wanted o (yielded ops a.tmps):=rfl
   rw [hww] at h2
   split
   ·rename_i hwt
    rw [if_pos hwt] at h2
    exact Oper.wpIn_mono (o:=o) go h2
   ·rename_i hwt
    rw [if_neg hwt] at h2
    exact ⟨h2.1,go _ _ h2.2⟩
theorem Aqr (a:Act) (d:Tmp):a.put (some d) (a.eval (.tmp d))=a:=by
 show ({ a with tmps:=a.tmps.setIfInBounds d (a.tmps.getD d undef) }:Act)=a
 have:a.tmps.setIfInBounds d (a.tmps.getD d undef)=a.tmps:=by
  apply Array.ext_getElem?
  intro i
  rw [Array.getElem?_setIfInBounds]
  split
  ·rename_i he
   subst he
   split
   ·rename_i hlt;rw [Array.getElem?_eq_getElem hlt];simp [Array.getD]
   ·rename_i hge;rw [Array.getElem?_eq_none (by omega)]
  ·rfl
 rw [this]
theorem Axy {o:Oper} {K:Act→World→Prop} {a:Act} {w:World} (h:(idO o).wpIn F n P a w K Q):K a w:=by
 have h2:=h.2
 have hop:(idO o).op=match o.dst with | some d=>.move (.tmp d) | none=>.move (.const undef):=rfl
 cases hd:o.dst with
 | none =>
  rw [hd] at hop
  have hs:((idO o).semAt F.round a.eval).run P w = .ok (.value undef) w:=by
   unfold Oper.semAt execOp
   cases F.round <;> simp only [hop] <;> rfl
  rw [hs] at h2
  have:(idO o).dst=none:=hd
  have h3:K (a.put (idO o).dst undef) w:=h2
  rw [this] at h3
  exact h3
 | some d =>
  rw [hd] at hop
  have hs:((idO o).semAt F.round a.eval).run P w = .ok (.value (a.eval (.tmp d))) w:=by
   unfold Oper.semAt execOp
   cases F.round <;> simp only [hop] <;> rfl
  rw [hs] at h2
  have:(idO o).dst=some d:=hd
  have h3:K (a.put (idO o).dst (a.eval (.tmp d))) w:=h2
  rw [this,Aqr] at h3
  exact h3
theorem Axx {r:Nat} (hr:r≤ops.size) (hback:∀ (j:Nat) (o:Oper),ops[j]?=some o→∀ e∈o.after,Region.binds .any e=true→e.on<j) {a:Act} {w:World} (h:drawAt F n P (idA ops r) 0 Q a w):drawAt F n P ops r Q a w:=fun fuel listed hs hl hf=>by
 have key:∀ q,q≤r→∀ l2:Array Bool,l2.size=ops.size→(∀ k,l2.getD k false=decide (k<q))→∀ f2,f2+q=fuel+r→wpAnyIn F n P .any (idA ops r) Q f2 l2 a w:=fun q=>by
  induction q with
  | zero=>intro _ l2 h1 h2 f2 hf2;exact h f2 l2 (by rw [Ag5 ops hr];exact h1) h2 (by rw [Ag5 ops hr];omega)
  | succ q ih =>
   intro hq l2 h1 h2 f2 hf2
   -- one step back
   let l3:Array Bool:=Array.ofFn (n:=ops.size) fun i=>decide (i.1<q)
   have h3:∀ k,l3.getD k false=decide (k<q):=fun k=>by
    rw [Array.getD_eq_getD_getElem?]
    by_cases hk:k<ops.size
    ·rw [Array.getElem?_eq_getElem (by simpa [l3] using hk)]
     simp [l3]
    ·rw [Array.getElem?_eq_none (by simpa [l3] using hk)]
     simp;omega
   have hw:=ih (by omega) l3 (by simp [l3]) h3 (f2+1) (by omega)
   have hqs:q<ops.size:=by omega
   have hoq:ops[q]?=some ops[q]:=Array.getElem?_eq_getElem hqs
   have hin:q∈Region.ready .any (idA ops r) l3:=(Vw hr (by omega)).2 (mem_ready.2 ⟨getD_in (by simpa [l3] using hqs) (by rw [h3 q];simp),ops[q],hoq,fun e hee hb'=>by
    have:=hback q _ hoq e hee hb'
    rw [h3 e.on];simp;omega⟩)
   have h4:=hw.2 q hin
   unfold wpOpIn at h4
   rw [Rh ops hr,if_pos (by omega),hoq] at h4
   simp only [Option.map_some] at h4
   have hwt:Region.wanted (idO ops[q]) (yielded (idA ops r) a.tmps)=true:=rfl
   rw [if_pos hwt] at h4
   have h5:=Axy h4
   have he:l3.setIfInBounds q true=l2:=by
    apply Array.ext_getElem?
    intro i
    by_cases hi:i<ops.size
    ·have e1:(l3.setIfInBounds q true).getD i false=l2.getD i false:=by
      rw [Cm (by simpa [l3] using hqs) i,h3 i,h2 i]
      by_cases h1:i<q
      ·simp [h1];omega
      ·by_cases h2:i=q
       ·simp [h2]
       ·simp [h1,h2];omega
     rw [Array.getD_eq_getD_getElem?,Array.getD_eq_getD_getElem?] at e1
     have s1:i<(l3.setIfInBounds q true).size:=by simpa [l3] using hi
     have s2:i<l2.size:=by omega
     rw [Array.getElem?_eq_getElem s1,Array.getElem?_eq_getElem s2] at e1 ⊢
     simpa using e1
    ·rw [Array.getElem?_eq_none (by simpa [l3] using hi),Array.getElem?_eq_none (by omega)]
   rw [he] at h5
   exact h5
 exact Ag6 hr fuel listed a w (fun k hk=>by rw [hl k];simp [hk]) (key r (Nat.le_refl r) listed hs hl fuel rfl)
end
end Go.Vc

namespace Go.Vc
theorem Amv {F:Fence} {n:Nat} {P:Program} {all:Array Oper} {Q:Exit→Act→World→Prop} {o:Oper} {l:List Oper} {a:Act} {w:World} (h:wpListIn F n P all (Exit.then (fun a w=>wpListIn F n P all Q l a w) Q) [o] a w):wpListIn F n P all Q (o::l) a w:=by
 unfold wpListIn at h ⊢
 split
 ·rename_i hw
  rw [if_pos hw] at h
  exact ⟨h.1,Aax (Oper.wpIn_mono (fun a' w' h'=>h') h).2⟩
 ·rename_i hw
  rw [if_neg hw] at h
  exact ⟨h.1,h.2⟩
section
variable [H:Holes]
variable {P:Program} {K:Nat→Option (List Value)} {s s':St} {ρ ρ':Rho} {Q:Post}
theorem Ato {all:Array Oper} {o:Oper} {l:List Oper} {j:Nat} {h:Hint} (hc:s.cur = .ops all (o::l)) (hj:freshK j s.ks=true) (hok:okH h=true) (hpl:atB s.Y s.m.nx h.ods=true)
  (run:Sx P K ⟨.ops all [o], .loop .skip (some j)::s.ks,s.tm,s.m,s.Y,s.nt,s.key⟩ ρ ⟨Q.q,(j,lcOf s ρ h 1)::dropJ j Q.L⟩)
  (body:∀ g,allV h.rks s.m.nx (killO s.m.S s.tm s.Y h.ods) ρ fun ds vs n' Y' ρ'=>allO h.ods n' ρ' fun ls ρ'=>h.inv ρ (ds++datO ls)→Sx P K (joinS s (.ops all l) s.ks h g vs n' Y') ρ' Q):Sx P K s ρ Q:=by
 intro F hF n b hB Qw hQ σ a w hA
 have hplt:=Amd hA hpl
 have hbn:=hA.aw.nx1
 have claim:∀ (a:Act) (w:World),HeadAt K b (lcOf s ρ h 1) a w→wpListIn F n P all (after F n P Qw s.ks) l a w:=by
  intro a w hh
  obtain ⟨σ',ds,vs,n',Y',xs,υ,ρ2,hag,hag1,hAt,hΨ,hin,hmu⟩:=hh.into (c := .ops all l) (ks:=s.ks) hok hplt hbn (body fun t=>a.tmps.getD t undef)
  exact (hΨ hin) F hF n (b.at σ' s.m.nx) hB Qw (QOk.low hbn hag1 hQ) υ a w hAt
 rw [hc]
 show wpListIn F n P all (after F n P Qw s.ks) (o::l) a w
 have hrun:=run F hF n (b.at σ s.m.nx) hB ⟨Qw.q,fun i=>if i=j then (fun a w=>wpListIn F n P all (after F n P Qw s.ks) l a w) else Qw.Λ i,Qw.np⟩ (QOk.at hbn hA.aw.agree1 hQ j _ _ (Yq hA hpl σ _ fun i y hi=>by
  rcases (Ys hA h.ods i y hi).2 with h3 | rfl
  ·exact hA.aw.ag i y h3
  ·trivial) claim) σ a w hA.at
 have haf:after F n P ⟨Qw.q,fun i=>if i=j then (fun a w=>wpListIn F n P all (after F n P Qw s.ks) l a w) else Qw.Λ i,Qw.np⟩ s.ks=after F n P Qw s.ks:=By (fun i hi=>if_neg hi) s.ks hj
 have hden:wpListIn F n P all (Exit.then (if j=j then (fun a w=>wpListIn F n P all (after F n P Qw s.ks) l a w) else Qw.Λ j) (after F n P ⟨Qw.q,fun i=>if i=j then (fun a w=>wpListIn F n P all (after F n P Qw s.ks) l a w) else Qw.Λ i,Qw.np⟩ s.ks)) [o] a w:=hrun
 rw [if_pos rfl,haf] at hden
 exact Amv hden
theorem Aqc {c:Code} {j:Nat} {h:Hint} (hc:s.cur = .code c) (hj:freshK j s.ks=true) (hok:okH h=true) (hpl:atB s.Y s.m.nx h.ods=true)
  (run:Sx P K ⟨.code c, .loop .skip (some j)::s.ks,s.tm,s.m,s.Y,s.nt,s.key⟩ ρ ⟨Q.q,(j,lcOf s ρ h 1)::dropJ j Q.L⟩)
  (body:∀ g,allV h.rks s.m.nx (killO s.m.S s.tm s.Y h.ods) ρ fun ds vs n' Y' ρ'=>allO h.ods n' ρ' fun ls ρ'=>h.inv ρ (ds++datO ls)→Sx P K (joinS s (.exit .normal) s.ks h g vs n' Y') ρ' Q):Sx P K s ρ Q:=by
 intro F hF n b hB Qw hQ σ a w hA
 have hplt:=Amd hA hpl
 have hbn:=hA.aw.nx1
 have claim:∀ (a:Act) (w:World),HeadAt K b (lcOf s ρ h 1) a w→after F n P Qw s.ks .normal a w:=by
  intro a w hh
  obtain ⟨σ',ds,vs,n',Y',xs,υ,ρ2,hag,hag1,hAt,hΨ,hin,hmu⟩:=hh.into (c := .exit .normal) (ks:=s.ks) hok hplt hbn (body fun t=>a.tmps.getD t undef)
  exact (hΨ hin) F hF n (b.at σ' s.m.nx) hB Qw (QOk.low hbn hag1 hQ) υ a w hAt
 rw [hc]
 show c.wpIn F n P (after F n P Qw s.ks) a w
 have hrun:=run F hF n (b.at σ s.m.nx) hB ⟨Qw.q,fun i=>if i=j then (fun a w=>after F n P Qw s.ks .normal a w) else Qw.Λ i,Qw.np⟩ (QOk.at hbn hA.aw.agree1 hQ j _ _ (Yq hA hpl σ _ fun i y hi=>by
  rcases (Ys hA h.ods i y hi).2 with h3 | rfl
  ·exact hA.aw.ag i y h3
  ·trivial) claim) σ a w hA.at
 have haf:after F n P ⟨Qw.q,fun i=>if i=j then (fun a w=>after F n P Qw s.ks .normal a w) else Qw.Λ i,Qw.np⟩ s.ks=after F n P Qw s.ks:=By (fun i hi=>if_neg hi) s.ks hj
 have hden:c.wpIn F n P (Exit.then (if j=j then (fun a w=>after F n P Qw s.ks .normal a w) else Qw.Λ j) (after F n P ⟨Qw.q,fun i=>if i=j then (fun a w=>after F n P Qw s.ks .normal a w) else Qw.Λ i,Qw.np⟩ s.ks)) a w:=hrun
 rw [if_pos rfl,haf] at hden
 exact Ut hden fun e a w he=>by cases e <;> exact he
end
end Go.Vc
