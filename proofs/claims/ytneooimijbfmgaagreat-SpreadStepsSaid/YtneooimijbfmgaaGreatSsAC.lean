import Derived.CallsIn
import Derived.Laws.BytesString
import Derived.RangeFuncRecord
import Derived.Test.YtneooimijbfmgaaGreatSsAB
set_option linter.unusedVariables false
set_option linter.unusedSimpArgs false
set_option linter.unusedSectionVars false
noncomputable section
namespace Go.Vc
variable [Holes]
section
variable {P:Program} {K:Nat→Option (List Value)} {σ τ:Env} {m m1:Mem} {w w1:World}
theorem Abv {l:List C} (h:l.all oneB=true):∀ u∈l.map (realC σ),u.oneCell'=true:=fun u hu=>by
 obtain ⟨c,hc,rfl⟩:=List.mem_map.1 hu
 exact Yj (List.all_eq_true.1 h c hc)
theorem Alz (h:Rel K σ m w) {z t n:Nat} {x:W} {new:List C} (hs:srcW P m z t x=some (n,new)) :
  Src P z t (realW σ x) n (new.map (realC σ)) w∧(∀ c∈new,C.lt m.nx c)∧new.all oneB=true:=by
 unfold srcW at hs
 split at hs
 ·rename_i e r o k z' c hu
  rw [cond_eq_ite] at hs
  split at hs
  ·rename_i hz
   have hz:=Nat.eq_of_beq_eq_true hz
   subst hz
   split at hs
   ·rename_i l hl
    obtain ⟨hone,hs⟩:=Aj hs
    cases hs
    obtain ⟨h1,h2,h3⟩:=Im h hl
    refine ⟨?_,h2,hone⟩
    have:∃ q,realW σ (.v (.c (.sl r o n z c))) = .slice (some ⟨σ.b r,σ.o r+o,none⟩) n q:=by cases c <;> exact ⟨_,rfl⟩
    obtain ⟨q,hq⟩:=this
    rw [hq]
    exact Src.ofSlice w hu _ n q _ (by simpa using h1) h3 (Abv hone)
   ·cases hs
  ·cases hs
 ·rename_i e r p o z' hu
  cases hs
  refine ⟨?_,(fun c hc=>by cases hc),rfl⟩
  exact Src.ofSlice w hu _ 0 _ [] (by simp) (fun j u hj=>by simp at hj) (fun u hu=>by cases hu)
 ·rename_i e c hu
  cases hs
  exact ⟨Src.ofNil w hu c,(fun c hc=>by cases hc),rfl⟩
 ·rename_i b hu
  obtain ⟨hz,hs⟩:=Aj hs
  have hz:=Nat.eq_of_beq_eq_true hz
  subst hz
  cases hs
  refine ⟨?_,fun c hc=>by obtain ⟨v,_,rfl⟩:=List.mem_map.1 hc;trivial,by rw [List.all_eq_true];intro c hc;obtain ⟨v,_,rfl⟩:=List.mem_map.1 hc;rfl⟩
  have:=Src.ofString w hu b
  rw [List.map_map]
  exact this
 ·cases hs
theorem Rel.drew (h:Rel K σ m w):Rel K σ m w.drew:=⟨h.row,h.lt,h.inj,h.known,h.apart,h.low,h.fresh⟩
theorem Fc {e z:Nat} (h:zeroIs P e z=true):∃ i v,P.info? e=some i∧i.zero=some v∧v.cells.size=z:=by
 unfold zeroIs at h
 split at h
 ·rename_i l hl
  obtain ⟨v,_,rfl,i,hi,hz⟩:=Dm (w:=default) hl
  have:=Nat.eq_of_beq_eq_true h
  exact ⟨i,v,hi,hz,by rw [←Bv ⟨fun _=>0,fun _=>0,fun _=>0,fun _=>.nilFunc,⟨fun _=>0,fun _=>false,fun _=>.empty,fun _=>[]⟩⟩ v];simpa using this⟩
 ·cases h
theorem Cy {e z:Nat} {i:TypeInfo} (hs:sizeOf? P e=some z) (hi:P.info? e=some i):i.size=z:=by
 unfold sizeOf? at hs;rw [hi] at hs;simpa using hs
theorem Ri {t tx ty e z n k q:Nat} (hu:P.underlying t=some (.slice e)) (hs:sizeOf? P e=some z) (hz:0<z) (hzero:zeroIs P e z=true) {base:Option Addr} {x:W} {new old:List C}
  (hsrc:Src P z tx (realW σ x) n (new.map (realC σ)) w) (hk:old.length=k*z)
  (hold:(Builtin.firstCells z k (.slice base k q)).run P w.drew = .ok (old.map (realC σ)).toArray w.drew) (hq:q<k+n) (hn:k+n≤1048576) (hb:(k+n)*bytes? P e≤140737488355328) :
  ∃ cap w',(Builtin.append_ #[t,tx] ty #[.slice base k q,realW σ x]).run P w = .ok (.slice (some ⟨w.heap.size,0,none⟩) (k+n) cap) w'∧k+n≤cap∧Goes w w' ∧
   ∃ arr:Array Value,w'.heap=w.heap.push (.cells arr e (0,0))∧arr.size=cap*z∧(old++new).length≤arr.size∧∀ j,j<(old++new).length→arr[j]?=((old++new).map (realC σ))[j]?:=by
 obtain ⟨i,v,hi,hiz,hvs⟩:=Fc hzero
 have hisz:=Cy hs hi
 subst hisz
 have hby:bytes? P e=i.bytes:=by unfold bytes?;rw [hi]
 rw [hby] at hb
 have hfit:=growslice_fits (old:=q) (bytes:=i.bytes) hq hb
 have hr:=run_append_grow_src (P:=P) w t tx ty e i v hu hi hiz base k q (old.map (realC σ)) hold (realW σ x) n (new.map (realC σ)) hsrc hq (by omega) hfit
 have hge:=grownCap_ge w (k+n) q e
 have hnl':new.length=n*i.size:=by simpa using hsrc.newsLen
 refine ⟨_,_,hr,hge,⟨rfl,rfl,rfl,by simp⟩,_,rfl,?_,?_,fun j hj=>?_⟩
 ·rw [Array.size_append,size_zeroCells,hvs]
  simp only [List.size_toArray,List.length_append,List.length_map,hk,hnl']
  rw [←Nat.add_mul,←Nat.add_mul]
  congr 1
  omega
 ·rw [Array.size_append];simp
 ·rw [Array.getElem?_append_left (by simpa using hj),List.getElem?_toArray,List.map_append]
end
end Go.Vc

namespace Go.Vc
variable [Holes]
section
variable {P:Program} {K:Nat→Option (List Value)} {σ τ:Env} {m m1:Mem} {w w1:World}
theorem Xx {t tx ty e z k n c b off:Nat} {x:Value} {news:List Value} (hu:P.underlying t=some (.slice e)) (hs:sizeOf? P e=some z) (hsrc:Src P z tx x n news w) (hroom:k+n≤c)
  (hst:(storeCells ((⟨b,off,none⟩:Addr).add (k*z)) news).run P w = .ok () w1) :
  (Builtin.append_ #[t,tx] ty #[.slice (some ⟨b,off,none⟩) k c,x]).run P w = .ok (.slice (some ⟨b,off,none⟩) (k+n) c) w1:=by
 rcases hsrc.kind with ⟨e',hk⟩ | hk <;> simp [Builtin.append_,run_underlying hu,run_underlying hk,Al hs,hsrc.len,hroom,hsrc.cells,hst]
theorem Pb (n:Nat) (σ:Env) (b o k z c:Nat) (v:Value) (hz:0<z) (hk:k=o+c*z):capR (σ.set n b o k v) n 0 z=c:=by
 unfold capR
 rw [Env.set_k,Env.set_o,hk,Nat.add_zero,Nat.add_sub_cancel_left,Nat.mul_div_cancel _ hz]
theorem Apb (h:Rel K σ m w) {t tx ty e z n k q:Nat} {x y:W} {base:Option Addr} {new old:List C} (hu:P.underlying t=some (.slice e)) (hs:sizeOf? P e=some z) (hz:0<z) (hzero:zeroIs P e z=true)
  (hsrc:Src P z tx (realW σ x) n (new.map (realC σ)) w) (hnl:∀ c∈new,C.lt m.nx c) (hol:∀ c∈old,C.lt m.nx c) (hk:old.length=k*z)
  (hold:(Builtin.firstCells z k (.slice base k q)).run P w.drew = .ok (old.map (realC σ)).toArray w.drew) (hq:q<k+n) (hn:k+n≤1048576) (hb:(k+n)*bytes? P e≤140737488355328)
  (ha:appN m e z (k+n) (old++new) = .ok y m1) :
  ∃ τ w',(Builtin.append_ #[t,tx] ty #[.slice base k q,realW σ x]).run P w = .ok (realW τ y) w'∧Step K σ m w τ m1 w'∧y.lt m1.nx:=by
 obtain ⟨cap,w',hr,hge,hg,arr,hw,hsz,hle,hget⟩:=Ri (ty:=ty) hu hs hz hzero hsrc hk hold hq hn hb
 cases ha
 refine ⟨_,w',?_,Xt h e (old++new) (fun c hc=>by rcases List.mem_append.1 hc with hc | hc;exact hol c hc;exact hnl c hc) arr hle hget hg hw,h.ltnx⟩
 rw [hr]
 have:capR (σ.set m.nx w.heap.size 0 arr.size undef) m.nx 0 z=cap:=Pb _ _ _ _ _ _ _ _ hz (by omega)
 simp [one,realW,realV,realC,this]
theorem Awa (h:Rel K σ m w) {t tx ty e z n q kk:Nat} {x y:W} {base:Option Addr} {new:List C} {g:Nat→Option C} (hu:P.underlying t=some (.slice e)) (hs:sizeOf? P e=some z) (hz:0<z) (hzero:zeroIs P e z=true)
  (hsrc:Src P z tx (realW σ x) n (new.map (realC σ)) w) (hnl:∀ c∈new,C.lt m.nx c)
  (hold:(Builtin.firstCells z 0 (.slice base 0 q)).run P w.drew = .ok #[] w.drew) (hq:q<n) (hn:n≤1048576) (hb:n*bytes? P e≤140737488355328) (hk:kk=new.length) (hg:∀ j,j<new.length→g j=new[j]?)
  (ha:(.ok (one (.sl m.nx 0 n z none)) (m.newT e kk g):R1) = .ok y m1) :
  ∃ τ w',(Builtin.append_ #[t,tx] ty #[.slice base 0 q,realW σ x]).run P w = .ok (realW τ y) w'∧Step K σ m w τ m1 w'∧y.lt m1.nx:=by
 obtain ⟨cap,w',hr,hge,hg',arr,hw,hsz,hle,hget⟩:=Ri (ty:=ty) (k:=0) (old:=[]) hu hs hz hzero hsrc (by simp) hold (by omega) (by omega) (by rw [Nat.zero_add];exact hb)
 rw [Nat.zero_add] at hr hge
 cases ha
 refine ⟨_,w',?_,Aba h e new kk g hk hg hnl arr (by simpa using hle) (fun j hj=>by simpa using hget j (by simpa using hj)) hg' hw,h.ltnx⟩
 rw [hr]
 have:capR (σ.set m.nx w.heap.size 0 arr.size undef) m.nx 0 z=cap:=Pb _ _ _ _ _ _ _ _ hz (by omega)
 simp [one,realW,realV,realC,this]
theorem Awb (h:Rel K σ m w) {t tx ty e z n k r o c:Nat} {x y:W} {new:List C} (hu:P.underlying t=some (.slice e)) (hs:sizeOf? P e=some z) (hz:0<z) (hzero:zeroIs P e z=true)
  (hsrc:Src P z tx (realW σ x) n (new.map (realC σ)) w) (hnl:∀ c∈new,C.lt m.nx c) (hr:Lt r m.nx) (hn:k+n≤1048576) (hb:(k+n)*bytes? P e≤140737488355328)
  (ha:appC m e z r o k c n new = .ok y m1) :
  ∃ τ w',(Builtin.append_ #[t,tx] ty #[.slice (some ⟨σ.b r,σ.o r+o,none⟩) k c,realW σ x]).run P w = .ok (realW τ y) w'∧Step K σ m w τ m1 w'∧y.lt m1.nx:=by
 unfold appC at ha
 rw [cond_eq_ite] at ha
 split at ha
 ·rename_i hle
  have hle:=Nat.le_of_ble_eq_true hle
  split at ha
  ·rename_i m2 hw
   cases ha
   obtain ⟨e',arr,h1,h2,h3,h4⟩:=Hk h hw hnl
   have hst:=run_storeCells_at P (σ.b r) (σ.o r+o+k*z) e' (new.map (realC σ)) 0 arr w h1 (by simp;omega) h3
   refine ⟨σ,_,Xx (ty:=ty) hu hs hsrc hle (by rw [Ax];simpa [Nat.add_assoc] using hst),by simpa [Nat.add_assoc] using h4,?_⟩
   exact Lt.mono hr h4.nx
  ·cases ha
 ·rename_i hle
  have hle:¬k+n≤c:=fun hq=>hle (Nat.ble_eq_true_of_le hq)
  split at ha
  ·rename_i old hrd
   obtain ⟨h1,h2,h3⟩:=Im h hrd
   refine Apb h hu hs hz hzero hsrc hnl h2 h1 ?_ (by omega) hn hb ha
   exact run_firstCells_some w.drew z k ⟨σ.b r,σ.o r+o,none⟩ k c (old.map (realC σ)) (by simpa using h1) (by simpa using h3)
  ·cases ha
theorem Av9 (h:Rel K σ m w) {t tx ty e z n k r o:Nat} {x y:W} {new:List C} (hu:P.underlying t=some (.slice e)) (hs:sizeOf? P e=some z) (hz:0<z) (hzero:zeroIs P e z=true)
  (hsrc:Src P z tx (realW σ x) n (new.map (realC σ)) w) (hnl:∀ c∈new,C.lt m.nx c) (hn:k+n≤1048576) (hb:(k+n)*bytes? P e≤140737488355328)
  (ha:appU m e z r o k n new = .ok y m1) :
  ∃ τ w',(Builtin.append_ #[t,tx] ty #[.slice (some ⟨σ.b r,σ.o r+o,none⟩) k (capR σ r o z),realW σ x]).run P w = .ok (realW τ y) w'∧Step K σ m w τ m1 w'∧y.lt m1.nx:=by
 have hlen:new.length=n*z:=by simpa using hsrc.newsLen
 unfold appU at ha
 split at ha
 ·rename_i e' q cs hrow
  -- both ways lay the same cells
  obtain ⟨hc,cs',hcs',rfl,rfl⟩:(Nat.beq e e' && Nat.ble (o+k*z) q && new.all oneB)=true∧∃ cs':T C,(∀ j,j<k*z+new.length→cs'.get j=if j<k*z then cs.get (o+j) else new[j-k*z]?) ∧
    y=one (.sl m.nx 0 (k+n) z none)∧m1=⟨(m.S.set r .dead).set m.nx (.cells e (k*z+new.length) cs'),m.nx+1,lower r m.lo⟩:=by
   rw [cond_eq_ite] at ha
   split at ha
   ·rename_i hc
    refine ⟨hc,?_⟩
    rw [cond_eq_ite] at ha
    split at ha
    ·rename_i ho
     have ho:=Nat.eq_of_beq_eq_true ho
     cases ha
     refine ⟨_,fun j hj=>?_,rfl,rfl⟩
     rw [T.get_puts]
     by_cases hjk:j<k*z
     ·rw [if_neg (by omega),if_pos hjk,ho,Nat.zero_add]
     ·rw [if_pos (by omega),if_neg hjk]
    ·split at ha
     ·rename_i old hol
      cases ha
      obtain ⟨h1,h2⟩:=T.list_spec _ _ _ _ hol
      refine ⟨_,fun j hj=>?_,rfl,rfl⟩
      rw [T.get_puts,if_pos (by simp;omega),Nat.sub_zero]
      by_cases hjk:j<k*z
      ·rw [if_pos hjk,List.getElem?_append_left (by omega),h2 j hjk]
      ·rw [if_neg hjk,List.getElem?_append_right (by omega),h1]
     ·cases ha
   ·cases ha
  simp only [Bool.and_eq_true] at hc
  obtain ⟨⟨he,hle⟩,hone⟩:=hc
  have he:=Nat.eq_of_beq_eq_true he
  have hle:=Nat.le_of_ble_eq_true hle
  subst he
  obtain ⟨arr,a1,a2,a3,a4⟩:=h.row r _ hrow
  have hag:=fun b o k v=>Env.agree_set σ m.nx b o k v
  -- the old cells,as the world has them
  have holds:∀ j,j<k*z→∃ c,cs.get (o+j)=some c∧C.lt m.nx c∧arr[σ.o r+(o+j)]?=some (realC σ c):=fun j hj=>a4 (o+j) (by omega)
  by_cases hroom:k+n≤capR σ r o z
  ·have hfit:σ.o r+o+(k*z+n*z)≤σ.k r:=by
    have h1:(k+n)*z≤σ.k r-(σ.o r+o):=Nat.le_trans (Nat.mul_le_mul_right z hroom) (Nat.div_mul_le_self _ _)
    rw [Nat.add_mul] at h1
    omega
   have hst:=run_storeCells_at P (σ.b r) (σ.o r+o+k*z) e (new.map (realC σ)) 0 arr w a1 (by simp;omega) (Abv hone)
   simp only [Nat.add_zero,List.length_map] at hst
   refine ⟨σ.set m.nx (σ.b r) (σ.o r+o) (σ.k r) undef,_,?_,Abc h hrow e _ cs' (σ.b r) (σ.o r+o) (σ.k r) undef (Ek w (σ.b r) (arr.toList.take (σ.o r+o+k*z)++new.map (realC σ)++arr.toList.drop (σ.o r+o+k*z+new.length)).toArray)
    (fun b _ hb=>setRow_other w _ b _ hb) (.inr rfl) ⟨(arr.toList.take (σ.o r+o+k*z)++new.map (realC σ)++arr.toList.drop (σ.o r+o+k*z+new.length)).toArray,?_,?_,?_,fun j hj=>?_⟩,h.ltnx⟩
   ·rw [Xx (ty:=ty) hu hs hsrc hroom (by rw [Ax];exact hst)]
    simp [one,realW,realV,realC,capR]
   ·rw [Env.set_b];exact setRow_heap w (σ.b r) arr _ e (0,0) a1
   ·simp;omega
   ·simp;omega
   ·rw [hcs' j hj,Env.set_o]
    have hsz:(arr.toList.take (σ.o r+o+k*z)).length=σ.o r+o+k*z:=by simp;omega
    rw [List.getElem?_toArray,List.append_assoc,List.getElem?_append,hsz]
    by_cases hjk:j<k*z
    ·rw [if_pos hjk,if_pos (by omega)]
     obtain ⟨c,hc,hl,hv⟩:=holds j hjk
     refine ⟨c,hc,hl.mono (Nat.le_succ _),?_⟩
     rw [(hag _ _ _ _).realC hl,←hv,List.getElem?_take,if_pos (by omega)]
     simp [Nat.add_assoc]
    ·rw [if_neg hjk,if_neg (by omega),List.getElem?_append_left (by simp;omega)]
     have hlt:j-k*z<new.length:=by omega
     refine ⟨new[j-k*z],List.getElem?_eq_getElem hlt,(hnl _ (List.getElem_mem hlt)).mono (Nat.le_succ _),?_⟩
     rw [(hag _ _ _ _).realC (hnl _ (List.getElem_mem hlt)),show σ.o r+o+j-(σ.o r+o+k*z)=j-k*z by omega,List.getElem?_map,List.getElem?_eq_getElem hlt];rfl
  ·-- no room: a new row
   obtain ⟨old,hol,hoc⟩:∃ old:List C,old.length=k*z∧∀ j,j<k*z→∃ c,cs.get (o+j)=some c∧old[j]?=some c:=by
    refine ⟨(List.range (k*z)).map fun j=>(cs.get (o+j)).getD (.raw .nilFunc),by simp,fun j hj=>?_⟩
    obtain ⟨c,hc,_⟩:=holds j hj
    exact ⟨c,hc,by simp [hj,hc]⟩
   have hold:(Builtin.firstCells z k (.slice (some ⟨σ.b r,σ.o r+o,none⟩) k (capR σ r o z))).run P w.drew = .ok (old.map (realC σ)).toArray w.drew:=by
    refine run_firstCells_some w.drew z k ⟨σ.b r,σ.o r+o,none⟩ k _ (old.map (realC σ)) (by simpa using hol) (fun j v hv=>?_)
    have hj:j<k*z:=by have:=(List.getElem?_eq_some_iff.1 hv).1;simp at this;omega
    obtain ⟨c,hc,hx⟩:=hoc j hj
    obtain ⟨c',hc',_,ha'⟩:=holds j hj
    rw [hc] at hc';cases hc'
    rw [List.getElem?_map,hx] at hv
    cases hv
    rw [Ax]
    show w.cell? _=_
    rw [World.cell?,a1]
    simpa [Nat.add_assoc] using ha'
   obtain ⟨cap,w',hr,hge,hg,arr',hw,hsz,hle',hget⟩:=Ri (ty:=ty) (old:=old) hu hs hz hzero hsrc hol hold (by omega) hn hb
   refine ⟨σ.set m.nx w.heap.size 0 arr'.size undef,w',?_,Abc h hrow e _ cs' w.heap.size 0 arr'.size undef hg (fun b hb _=>by rw [hw,Array.getElem?_push,if_neg (by omega)]) (.inl rfl)
    ⟨arr',by rw [Env.set_b,hw];simp,by simp,by rw [Env.set_o];simp at hle';omega,fun j hj=>?_⟩,h.ltnx⟩
   ·rw [hr]
    have:capR (σ.set m.nx w.heap.size 0 arr'.size undef) m.nx 0 z=cap:=Pb _ _ _ _ _ _ _ _ hz (by omega)
    simp [one,realW,realV,realC,this]
   ·rw [hcs' j hj,Env.set_o,Nat.zero_add,hget j (by simp;omega),List.map_append]
    by_cases hjk:j<k*z
    ·rw [if_pos hjk]
     obtain ⟨c,hc,hx⟩:=hoc j hjk
     obtain ⟨c',hc',hl,_⟩:=holds j hjk
     rw [hc] at hc';cases hc'
     refine ⟨c,hc,hl.mono (Nat.le_succ _),?_⟩
     rw [(hag _ _ _ _).realC hl,List.getElem?_append_left (by simp;omega),List.getElem?_map,hx];rfl
    ·rw [if_neg hjk]
     have hlt:j-k*z<new.length:=by omega
     refine ⟨new[j-k*z],List.getElem?_eq_getElem hlt,(hnl _ (List.getElem_mem hlt)).mono (Nat.le_succ _),?_⟩
     rw [(hag _ _ _ _).realC (hnl _ (List.getElem_mem hlt)),List.getElem?_append_right (by simp;omega),List.length_map,hol,List.getElem?_map,List.getElem?_eq_getElem hlt];rfl
 ·cases ha
end
end Go.Vc

namespace Go.Vc
variable [Holes]
section
variable {P:Program} {K:Nat→Option (List Value)} {σ τ:Env} {m m1:Mem} {w w1:World}
theorem Akf (h:Rel K σ m w) {sT xT ty:Nat} {s x y:W} (ha:app0W P m sT xT s x = .ok y m1) (hsl:s.lt m.nx) :
  ∃ τ w',(Builtin.append_ #[sT,xT] ty #[realW σ s,realW σ x]).run P w = .ok (realW τ y) w'∧Step K σ m w τ m1 w'∧y.lt m1.nx:=by
 unfold app0W at ha
 split at ha
 ·cases ha
 ·rename_i e z hty
  obtain ⟨hu,hs⟩:=As hty
  split at ha
  ·cases ha
  ·rename_i n new hsrc
   obtain ⟨hS,hnl,hone⟩:=Alz h hsrc
   obtain ⟨i,hi,hisz⟩:∃ i,P.info? e=some i∧i.size=z:=by
    cases hi:P.info? e with
    | none=>unfold sizeOf? at hs;rw [hi] at hs;cases hs
    | some i=>exact ⟨i,rfl,Cy hs hi⟩
   have nothing:∀ base k q,n=0→k≤q→(Builtin.append_ #[sT,xT] ty #[.slice base k q,realW σ x]).run P w = .ok (.slice base k q) w:=fun base k q hn hkq=>by
    subst hn
    have hnil:new.map (realC σ)=[]:=List.eq_nil_of_length_eq_zero (by rw [hS.newsLen,Nat.zero_mul])
    rw [hnil,←hisz] at hS
    exact run_append_nothing w sT xT ty e i hu hi base k q hkq _ hS
   split at ha
   ·rw [cond_eq_ite] at ha
    split at ha
    ·rename_i hn
     cases ha
     exact ⟨σ,w,nothing none 0 0 (Nat.eq_of_beq_eq_true hn) (Nat.le_refl _),Step.refl h,trivial⟩
    ·rename_i hn
     rw [cond_eq_ite] at ha
     split at ha
     ·rename_i hc
      simp only [Bool.and_eq_true] at hc
      obtain ⟨⟨⟨h1,h2⟩,h3⟩,h4⟩:=hc
      have h1:=Nat.le_of_ble_eq_true h1
      have h2:=Nat.le_of_ble_eq_true h2
      have hn:n≠0:=fun e=>hn (by rw [e];rfl)
      refine Apb (k:=0) (q:=0) (base:=none) (old:=[]) h hu hs (Nat.le_of_ble_eq_true h3) h4 hS hnl (fun c hc=>by cases hc) (by simp) (run_firstCells_none w.drew z 0 0 0) (by omega) (by omega) (by simpa using h2) ?_
      simpa using ha
     ·cases ha
   ·rename_i r o k z' cap
    rw [cond_eq_ite] at ha
    split at ha
    ·rename_i hc
     simp only [Bool.and_eq_true] at hc
     obtain ⟨⟨⟨⟨h0,h1⟩,h2⟩,h3⟩,h4⟩:=hc
     have h0:=Nat.eq_of_beq_eq_true h0
     have h1:0<z:=Nat.le_of_ble_eq_true h1
     have h2:=Nat.le_of_ble_eq_true h2
     have h3:=Nat.le_of_ble_eq_true h3
     subst h0
     split at ha
     ·rename_i c
      rw [cond_eq_ite] at ha
      split at ha
      ·rename_i hn
       rw [cond_eq_ite] at ha
       split at ha
       ·rename_i hkc
        cases ha
        exact ⟨σ,w,nothing _ k c (Nat.eq_of_beq_eq_true hn) (Nat.le_of_ble_eq_true hkc),Step.refl h,hsl⟩
       ·cases ha
      ·exact Awb h hu hs h1 h4 hS hnl hsl h2 h3 ha
     ·rw [cond_eq_ite] at ha
      split at ha
      ·rename_i hn
       rw [cond_eq_ite] at ha
       split at ha
       ·rename_i hf
        cases ha
        have hfit:=Aef h hf
        refine ⟨σ,w,nothing _ k (capR σ r o z) (Nat.eq_of_beq_eq_true hn) ?_,Step.refl h,hsl⟩
        unfold capR
        rw [Nat.le_div_iff_mul_le h1]
        omega
       ·cases ha
      ·exact Av9 h hu hs h1 h4 hS hnl h2 h3 ha
    ·cases ha
   ·cases ha
theorem Gm (w:World) (t tx ty e:TypeId) (kk kx:IntKind) (i:TypeInfo) (v:Value) (ht:P.underlying t=some (.slice e)) (hx:P.underlying tx=some (.int kk)) (hi:P.info? e=some i) (hv:i.zero=some v) (n:Nat) (h0:0<n) (hn:n≤65536) (hs:0<i.size) (hb:n*i.bytes≤140737488355328) :
  (Builtin.append_ #[t,tx] ty #[.slice none 0 0, .int kx (n:Int)]).run P w =
   .ok (.slice (some ⟨w.heap.size,0,none⟩) n (grownCap w n 0 e)) (w.drew.alloc (.cells (Builtin.zeroCells v.cells n++Builtin.zeroCells v.cells (grownCap w n 0 e-n)) e)):=by
 have hw:=Lh hn
 have hfit:=growslice_fits (old:=0) (bytes:=i.bytes) h0 hb
 have h48':¬(281474976710656<Builtin.nextslicecap n 0*i.bytes):=by omega
 have h48:¬((281474976710656:Int)<(n:Int)*(i.bytes:Int)):=by
  rw [←Int.natCast_mul]
  omega
 have hn0:¬(n=0):=by omega
 have hsz:¬(i.size=0):=by omega
 have h63':¬(9223372036854775807<(n:Int)):=by omega
 have hneg:¬((n:Int)<0):=by omega
 simp [Builtin.append_,run_underlying ht,run_underlying hx,sizeOf,typeInfo,zeroValue,hi,hv,hw,asInt,asIntOf,hneg,h48,h48',hn0,hsz,h63',Question.forced,Builtin.firstCells,newRow,grownCap]
 intro hq
 rw [Nat.mul_eq_zero] at hq
 omega
theorem Ajb (h:Rel K σ m w) {sT xT ty:Nat} {kx:IntKind} {n:Int} {y:W} (ha:makeNil P m sT xT n = .ok y m1) :
  ∃ τ w',(Builtin.append_ #[sT,xT] ty #[.slice none 0 0, .int kx n]).run P w = .ok (realW τ y) w'∧Step K σ m w τ m1 w'∧y.lt m1.nx:=by
 unfold makeNil at ha
 split at ha
 ·rename_i e z kk n hty hx
  obtain ⟨hu,hs⟩:=As hty
  rw [cond_eq_ite] at ha
  split at ha
  ·rename_i hc
   simp only [Bool.and_eq_true] at hc
   obtain ⟨⟨⟨h1,h2⟩,h3⟩,h4⟩:=hc
   have h1:0<n:=Nat.le_of_ble_eq_true h1
   have h2:0<z:=Nat.le_of_ble_eq_true h2
   have h3:=Nat.le_of_ble_eq_true h3
   have h4:=Nat.le_of_ble_eq_true h4
   split at ha
   ·rename_i c hz
    rw [cond_eq_ite] at ha
    split at ha
    ·rename_i hl
     have hl:=Nat.eq_of_beq_eq_true hl
     have hzero:zeroIs P e z=true:=by unfold zeroIs;rw [hz];simp [hl]
     obtain ⟨v,_,rfl,i,hi,hv⟩:=Dm (w:=w) hz
     have hisz:=Cy hs hi
     subst hisz
     have hvs:v.cells.size=i.size:=by rw [←hl,←Bv σ v];simp
     have hby:bytes? P e=i.bytes:=by unfold bytes?;rw [hi]
     rw [hby] at h4
     have hr:=Gm w sT xT ty e kk kx i v hu hx hi hv n h1 h3 h2 h4
     have hge:=grownCap_ge w n 0 e
     cases ha
     have hzr:Builtin.zeroCells v.cells n=((reps (V.of v).cells n).map (realC σ)).toArray:=Hh σ v n
     have hlen:(reps (V.of v).cells n).length=n*i.size:=by rw [Cu,hl]
     refine ⟨_,w.drew.alloc (.cells (Builtin.zeroCells v.cells n++Builtin.zeroCells v.cells (grownCap w n 0 e-n)) e),?_,Xt h e (reps (V.of v).cells n) (Ya (fun x hx=>Dn m.nx v x hx) n) (Builtin.zeroCells v.cells n++Builtin.zeroCells v.cells (grownCap w n 0 e-n)) ?_ (fun j hj=>?_) ⟨rfl,rfl,rfl,by simp⟩ rfl,h.ltnx⟩
     ·have hcap:capR (σ.set m.nx w.heap.size 0 (Builtin.zeroCells v.cells n++Builtin.zeroCells v.cells (grownCap w n 0 e-n)).size undef) m.nx 0 i.size=grownCap w n 0 e:=by
       refine Pb _ _ _ _ _ _ _ _ h2 ?_
       rw [Array.size_append,size_zeroCells,size_zeroCells,hvs,←Nat.add_mul]
       rw [Nat.zero_add]
       congr 1
       omega
      show (Builtin.append_ #[sT,xT] ty #[.slice none 0 0, .int kx ((n:Nat):Int)]).run P w=_
      rw [hr]
      rw [Array.size_append] at hcap
      simp [one,realW,realV,realC,hcap]
     ·rw [Array.size_append,hzr];simp
     ·rw [hzr,Array.getElem?_append_left (by simpa using hj),List.getElem?_toArray]
    ·cases ha
   ·cases ha
  ·cases ha
 ·cases ha
theorem Atb {r o k:Nat} {g:Nat→Option C} (hv:viewW m r o k=some g):∃ l,m.read r o k=some l∧l.length=k∧(∀ j,j<k→g j=l[j]?)∧l.all oneB=true:=by
 unfold viewW at hv
 split at hv
 ·rename_i e q cs hrow
  obtain ⟨hc,hv⟩:=Aj hv
  cases hv
  rw [Bool.and_eq_true] at hc
  obtain ⟨h1,h2⟩:=hc
  have hall:∀ j,j<k→∃ c,cs.get (o+j)=some c∧oneB c=true:=fun j hj=>by
   have h3:=Ae6 _ _ _ _ h2 j (Nat.zero_le _) (by have:=An6 k;omega) hj
   cases hx:cs.get (o+j) with
   | none=>simp only [Nat.add_eq] at h3;rw [hx] at h3;cases h3
   | some c=>simp only [Nat.add_eq] at h3;rw [hx] at h3;exact ⟨c,rfl,h3⟩
  obtain ⟨l,hl⟩:∃ l,cs.list o k=some l:=by
   clear h1 h2 hv hrow
   revert hall
   induction k generalizing o with
   | zero=>exact fun _=>⟨[],rfl⟩
   | succ k ih =>
    intro hall
    obtain ⟨c,hc,_⟩:=hall 0 (by omega)
    obtain ⟨l,hl⟩:=ih (o:=o+1) (fun j hj=>by have:=hall (j+1) (by omega);rwa [show o+(j+1)=o+1+j by omega] at this)
    refine ⟨c::l,?_⟩
    rw [T.list];rw [Nat.add_zero] at hc;rw [hc,hl]
  obtain ⟨g1,g2⟩:=T.list_spec _ _ _ _ hl
  refine ⟨l,?_,g1,fun j hj=>g2 j hj,?_⟩
  ·unfold Mem.read
   rw [hrow]
   simp only [h1,cond_true,hl]
  ·rw [List.all_eq_true]
   intro c hc
   obtain ⟨j,hj,rfl⟩:=List.getElem_of_mem hc
   obtain ⟨c',hc',ho⟩:=hall j (by omega)
   rw [g2 j (by omega),List.getElem?_eq_getElem hj] at hc'
   cases hc'
   exact ho
 ·cases hv
theorem Ayx (h:Rel K σ m w) {sT xT ty:Nat} {s x y:W} (ha:bigW P m sT xT s x = .ok y m1) :
  ∃ τ w',(Builtin.append_ #[sT,xT] ty #[realW σ s,realW σ x]).run P w = .ok (realW τ y) w'∧Step K σ m w τ m1 w'∧y.lt m1.nx:=by
 unfold bigW at ha
 split at ha
 ·rename_i r o k z' c r2 o2 n z2 c2
  rw [cond_eq_ite] at ha
  split at ha
  ·rename_i hc
   simp only [Bool.and_eq_true] at hc
   obtain ⟨⟨hc0,hk0⟩,hbig⟩:=hc
   have hc0:=Nat.eq_of_beq_eq_true hc0
   have hk0:=Nat.eq_of_beq_eq_true hk0
   have hbig:=Nat.le_of_ble_eq_true hbig
   subst hc0 hk0
   split at ha
   ·rename_i e z e' hty hu'
    obtain ⟨hu,hs⟩:=As hty
    rw [cond_eq_ite] at ha
    split at ha
    ·rename_i hc
     simp only [Bool.and_eq_true] at hc
     obtain ⟨⟨⟨⟨⟨h0,h0'⟩,h2⟩,h3⟩,h1⟩,h4⟩:=hc
     have h0:=Nat.eq_of_beq_eq_true h0
     have h0':=Nat.eq_of_beq_eq_true h0'
     have h1:0<z:=Nat.le_of_ble_eq_true h1
     have h2:=Nat.le_of_ble_eq_true h2
     have h3:=Nat.le_of_ble_eq_true h3
     subst h0 h0'
     split at ha
     ·rename_i g hv
      obtain ⟨l,hl,hlen,hg,hone⟩:=Atb hv
      have hS:=Alz h (z:=z) (t:=xT) (x := .v (.c (.sl r2 o2 n z c2))) (n:=n) (new:=l) (by
       unfold srcW
       rw [hu']
       have hl':m.read r2 o2 (n*z)=some l:=hl
       simp only [hl',hone]
       have:Nat.beq z z=true:=Nat.beq_refl z
       rw [this];rfl)
      exact Awa h hu hs h1 h4 hS.1 hS.2.1 (run_firstCells_some w.drew z 0 _ 0 0 [] (by simp) (fun j v hj=>by simp at hj)) (by rcases Nat.eq_zero_or_pos n with hn | hn;subst hn;omega;exact hn) h2 h3 hlen.symm (fun j hj=>hg j (by omega)) ha
     ·cases ha
    ·cases ha
   ·cases ha
  ·cases ha
 ·cases ha
theorem Ao9 (h:Rel K σ m w) {sT xT ty:Nat} {s x y:W} (ha:appendW P m sT xT s x = .ok y m1) (hsl:s.lt m.nx) :
  ∃ τ w',(Builtin.append_ #[sT,xT] ty #[realW σ s,realW σ x]).run P w = .ok (realW τ y) w'∧Step K σ m w τ m1 w'∧y.lt m1.nx:=by
 unfold appendW at ha
 split at ha
 ·rename_i y' m' hb
  cases ha
  exact Ayx h hb
 ·unfold app1W at ha
  split at ha
  ·exact Ajb h ha
  ·exact Akf h ha hsl
theorem Axt {x:W} {n:Nat} (h:lenW x=some n):(Builtin.lenOf (realW σ x)).run P w = .ok n w:=by
 unfold lenW at h
 split at h
 ·rename_i r o n z c
  cases h
  cases c <;> rfl
 ·cases h;rfl
 ·cases h;rfl
 ·cases h;rfl
 ·cases h
theorem Aro (h:Rel K σ m w) {z n:Nat} {x:W} {l:List C} (hf:firstW m z n x=some l) :
  (Builtin.firstCells z n (realW σ x)).run P w = .ok (l.map (realC σ)).toArray w∧∀ c∈l,C.lt m.nx c:=by
 unfold firstW at hf
 split at hf
 ·rename_i r o k z' c
  rw [cond_eq_ite] at hf
  split at hf
  ·rename_i hc
   simp only [Bool.and_eq_true] at hc
   have hz:=Nat.eq_of_beq_eq_true hc.1
   subst hz
   obtain ⟨h1,h2,h3⟩:=Im h hf
   refine ⟨?_,h2⟩
   have:∃ q,realW σ (.v (.c (.sl r o k z c))) = .slice (some ⟨σ.b r,σ.o r+o,none⟩) k q:=by cases c <;> exact ⟨_,rfl⟩
   obtain ⟨q,hq⟩:=this
   rw [hq]
   exact run_firstCells_some w z n _ k q _ (by simpa using h1) h3
  ·cases hf
 ·rename_i b
  obtain ⟨hc,hf⟩:=Aj hf
  cases hf
  refine ⟨?_,fun c hc=>by obtain ⟨v,_,rfl⟩:=List.mem_map.1 hc;trivial⟩
  rw [show realW σ (.v (.c (.raw (.string b)))) = .string b from rfl]
  simp only [Builtin.firstCells,Sem.run_pure,List.map_map]
  congr 1
  apply Array.ext'
  simp
  rfl
 ·cases hf
theorem Avw (h:Rel K σ m w) {dT xT ty:Nat} {d x y:W} (hc:copyW P m dT d x = .ok y m1) :
  ∃ w',(Builtin.copy_ #[dT,xT] ty #[realW σ d,realW σ x]).run P w = .ok (realW σ y) w'∧Step K σ m w σ m1 w'∧y.lt m1.nx:=by
 unfold copyW at hc
 split at hc
 ·rename_i e z r o a z' c b hty hlen
  obtain ⟨hu,hs⟩:=As hty
  have hd:∃ q,realW σ (.v (.c (.sl r o a z' c))) = .slice (some ⟨σ.b r,σ.o r+o,none⟩) a q:=by cases c <;> exact ⟨_,rfl⟩
  obtain ⟨q,hq⟩:=hd
  have hl:=fun w:World=>Axt (σ:=σ) (P:=P) (w:=w) hlen
  dsimp only at hc
  rw [cond_eq_ite] at hc
  split at hc
  ·rename_i hn
   have hn:=Nat.eq_of_beq_eq_true hn
   cases hc
   have hz:(Builtin.firstCells z 0 (realW σ x)).run P w = .ok #[] w:=by
    unfold lenW at hlen
    split at hlen
    ·rename_i r' o' n' z'' c'
     have:∃ q,realW σ (.v (.c (.sl r' o' n' z'' c'))) = .slice (some ⟨σ.b r',σ.o r'+o',none⟩) n' q:=by cases c' <;> exact ⟨_,rfl⟩
     obtain ⟨q,hq⟩:=this
     rw [hq]
     exact run_firstCells_some w z 0 _ n' q [] (by simp) (fun j v hj=>by simp at hj)
    ·rename_i r' p' o' z''
     exact run_firstCells_some w z 0 ⟨_,_,none⟩ 0 _ [] (by simp) (fun j v hj=>by simp at hj)
    ·rename_i a' n' c'
     cases a' with
     | none=>exact run_firstCells_none w z 0 n' c'
     | some a'=>exact run_firstCells_some w z 0 _ n' c' [] (by simp) (fun j v hj=>by simp at hj)
    ·rename_i s
     show (Builtin.firstCells z 0 (.string s)).run P w=_
     simp [Builtin.firstCells]
    ·cases hlen
   refine ⟨w,?_,Step.refl h,trivial⟩
   rw [hq]
   simp only [Builtin.copy_]
   simp [run_underlying hu,hl,Al hs,hn,hz,storeCells]
   simp [one,realW,realV,realC,hn]
  ·rw [cond_eq_ite] at hc
   split at hc
   ·rename_i hz
    have hz:=Nat.eq_of_beq_eq_true hz
    subst hz
    split at hc
    ·rename_i l hf
     split at hc
     ·rename_i m2 hw
      cases hc
      obtain ⟨f1,f2⟩:=Aro (P:=P) h hf
      obtain ⟨e',arr,h1,h2,h3,h4⟩:=Hk h hw f2
      have hst:=run_storeCells_at P (σ.b r) (σ.o r+o) e' (l.map (realC σ)) 0 arr w h1 (by simpa using h2) h3
      simp only [Nat.add_zero,List.length_map] at hst
      refine ⟨_,?_,h4,trivial⟩
      rw [hq]
      simp only [Builtin.copy_]
      simp [run_underlying hu,hl,Al hs,f1,hst]
      simp [one,realW,realV,realC]
     ·cases hc
    ·cases hc
   ·cases hc
 ·cases hc
end
end Go.Vc

namespace Go.Vc
variable [Holes]
section
variable {P:Program} {K:Nat→Option (List Value)} {σ τ:Env} {m m1:Mem} {w w1:World}
theorem Ar7 (h:Rel K σ m w) {t ty:Nat} {x y:W} (hc:clearW P m t x = .ok y m1) :
  ∃ w',(Builtin.clear_ #[t] ty #[realW σ x]).run P w = .ok (realW σ y) w'∧Step K σ m w σ m1 w'∧y.lt m1.nx:=by
 unfold clearW at hc
 split at hc
 ·rename_i e z r o n z' c hty
  obtain ⟨hu,hs⟩:=As hty
  have hd:∃ q,realW σ (.v (.c (.sl r o n z' c))) = .slice (some ⟨σ.b r,σ.o r+o,none⟩) n q:=by cases c <;> exact ⟨_,rfl⟩
  obtain ⟨q,hq⟩:=hd
  rw [cond_eq_ite] at hc
  split at hc
  ·rename_i hn
   have hn:=Nat.eq_of_beq_eq_true hn
   subst hn
   cases hc
   refine ⟨w,?_,Step.refl h,Bt _⟩
   rw [hq]
   simp [Builtin.clear_,run_underlying hu,undefW,realW]
  ·rename_i hn
   rw [cond_eq_ite] at hc
   split at hc
   ·rename_i hz
    simp only [Bool.and_eq_true] at hz
    obtain ⟨⟨hz,hz0⟩,hzi⟩:=hz
    have hz:=Nat.eq_of_beq_eq_true hz
    have hz0:0<z:=Nat.le_of_ble_eq_true hz0
    subst hz
    split at hc
    ·rename_i l hzl
     split at hc
     ·rename_i m2 hw
      cases hc
      obtain ⟨z1,zero,z2,z3⟩:=Ww (m:=m) (w:=w) (σ:=σ) hs hzl
      obtain ⟨e',arr,h1,h2,h3,h4⟩:=Hk h hw z1
      have hst:=run_storeCells_at P (σ.b r) (σ.o r+o) e' (l.map (realC σ)) 0 arr w h1 (by simpa using h2) h3
      simp only [Nat.add_zero,List.length_map] at hst
      refine ⟨_,?_,h4,Bt _⟩
      rw [hq]
      have hn0:n≠0:=fun e=>hn (by rw [e];rfl)
      rcases z2 with ⟨h0,rfl⟩ | ⟨h0,v,hv,rfl⟩
      ·exact absurd h0 (Nat.mul_ne_zero hn0 (by omega))
      ·obtain ⟨i,v',hi,hiz,hvs⟩:=Fc hzi
       have:v=v':=by
        simp [zeroValue,typeInfo,hi,hiz] at hv
        exact hv.symm
       subst this
       have hzc:Builtin.zeroCells v.cells n=(l.map (realC σ)).toArray:=by rw [←z3,←hvs];rfl
       obtain ⟨k,rfl⟩:∃ k,n=k+1:=⟨n-1,by omega⟩
       simp [Builtin.clear_,run_underlying hu,hv,hzc,hst,undefW,realW]
     ·cases hc
    ·cases hc
   ·cases hc
 ·rename_i e z q c hty
  obtain ⟨hu,hs⟩:=As hty
  cases hc
  refine ⟨w,?_,Step.refl h,Bt _⟩
  show (Builtin.clear_ #[t] ty #[.slice none q c]).run P w=_
  simp [Builtin.clear_,run_underlying hu,undefW,realW]
 ·rename_i e z r p o z' hty
  obtain ⟨hu,hs⟩:=As hty
  cases hc
  refine ⟨w,?_,Step.refl h,Bt _⟩
  show (Builtin.clear_ #[t] ty #[.slice (some _) 0 _]).run P w=_
  simp [Builtin.clear_,run_underlying hu,undefW,realW]
 ·cases hc
end
end Go.Vc

namespace Go.Vc
variable [Holes]
section
variable {P:Program} {K:Nat→Option (List Value)} {σ τ:Env} {m m1:Mem} {w w1:World}
def Does (P:Program) (K:Nat→Option (List Value)) (σ:Env) (m:Mem) (w:World) (s:Sem Value) (x:W) (m1:Mem):Prop :=
 ∃ τ w',s.run P w = .ok (realW τ x) w'∧Step K σ m w τ m1 w'∧x.lt m1.nx
theorem Does.pure (h:Rel K σ m w) {s:Sem Value} {x:W} (hs:s.run P w = .ok (realW σ x) w∧x.lt m.nx):Does P K σ m w s x m:=⟨σ,w,hs.1,Step.refl h,hs.2⟩
theorem In {x:Option W} {y:W} (h:purW x m = .ok y m1):x=some y∧m1=m:=by
 cases x with
 | none=>cases h
 | some x=>cases h;exact ⟨rfl,rfl⟩
theorem un_ok {op:UnOp} {x y:W} (h:unW P op x=some y) (n:Nat):(Op.unary op (realW σ x)).run P w = .ok (realW σ y) w∧y.lt n:=by
 unfold unW at h
 split at h
 ·rename_i v hv
  rw [Fs hv]
  exact Yf h n
 ·cases h
theorem Avx {a b:Nat} {x y:W} (h:convW P a b x=some y) (n:Nat):(convert a b (realW σ x)).run P w = .ok (realW σ y) w∧y.lt n:=by
 unfold convW at h
 split at h
 ·rename_i v hv
  rw [Fs hv]
  exact Yf h n
 ·cases h
theorem Ac3:∀ {l:List C} {ns:List Int},bytesW l=some ns→l.map (realC σ)=ns.map (Value.int .u8)
 | [],ns,h=>by cases h;rfl
 | c::l,ns,h=>by
  unfold bytesW at h
  split at h
  ·rename_i he;cases he
  ·rename_i n l' he
   cases he
   split at h
   ·rename_i ns' hn
    cases h
    rw [List.map_cons,List.map_cons,Ac3 hn];rfl
   ·cases h
  ·cases h
theorem Alt (ns:List Int):ns.foldl (fun r n=>r.push (UInt8.ofNat n.toNat)) ByteArray.empty=strB ns:=by
 have key:∀ (ns:List Int) (s:ByteArray),ns.foldl (fun r n=>r.push (UInt8.ofNat n.toNat)) s=⟨⟨s.data.toList++ns.map fun n=>UInt8.ofNat n.toNat⟩⟩:=by
  intro ns
  induction ns with
  | nil=>intro s;simp
  | cons n ns ih =>
   intro s
   rw [List.foldl_cons,ih]
   simp [ByteArray.push]
 rw [key]
 simp [strB,ByteArray.empty,ByteArray.emptyWithCapacity]
 try rfl
theorem Arz (h:Rel K σ m w) {a b:Nat} {x y:W} (hc:convM P m a b x=some y):(convert a b (realW σ x)).run P w = .ok (realW σ y) w∧y.lt m.nx:=by
 unfold convM at hc
 split at hc
 ·rename_i r o n z c
  unfold strW at hc
  split at hc
  ·rename_i e ha hb
   split at hc
   ·rename_i he
    split at hc
    ·rename_i l hr
     split at hc
     ·rename_i ns hn
      cases hc
      refine ⟨?_,trivial⟩
      obtain ⟨h1,h2,h3⟩:=Im h hr
      have:∃ q,realW σ (.v (.c (.sl r o n z c))) = .slice (some ⟨σ.b r,σ.o r+o,none⟩) n q:=by cases c <;> exact ⟨_,rfl⟩
      obtain ⟨q,hq⟩:=this
      rw [hq,run_convert_bytes_string w a b e _ n q ha he hb]
      have hcs:=run_loadCells_list (P:=P) (w:=w) _ _ h3
      rw [List.length_map,h1,Ac3 hn] at hcs
      rw [run_bytesToString w _ n q ns hcs,Alt]
      rfl
     ·cases hc
    ·cases hc
   ·cases hc
  ·cases hc
 ·rename_i r p o z
  unfold emW at hc
  split at hc
  ·rename_i e ha hb
   split at hc
   ·rename_i he
    cases hc
    refine ⟨?_,trivial⟩
    have:∃ ad q,realW σ (.v (.c (.em r p o z))) = .slice (some ad) 0 q:=⟨_,_,rfl⟩
    obtain ⟨ad,q,hq⟩:=this
    rw [hq,run_convert_bytes_string w a b e _ 0 q ha he hb]
    have hcs:=run_loadCells_list (P:=P) (w:=w) ad [] (fun j v hv=>by simp at hv)
    rw [run_bytesToString w _ 0 q [] (by simpa using hcs),Alt]
    rfl
   ·cases hc
  ·cases hc
 ·exact Avx hc _
theorem Qz (h:Rel K σ m w) {x y:W} (hn:nilCheckW m x=some y) (hx:x.lt m.nx):y=x∧(∀ o:Oper,∀ p ρ,o.op = .nilCheck p→ρ p=realW σ x→(execOp ρ o).run P w = .ok (.value (realW σ y)) w):=by
 unfold nilCheckW at hn
 split at hn
 ·cases hn
  refine ⟨rfl,fun o p ρ ho hp=>?_⟩
  unfold execOp
  simp only [ho,hp]
  rfl
 ·cases hn
  refine ⟨rfl,fun o p ρ ho hp=>?_⟩
  unfold execOp
  simp only [ho,hp]
  rfl
 ·rename_i i
  obtain ⟨hc,hn⟩:=Aj hn
  cases hn
  obtain ⟨f,a,b,hq,hne⟩:=Lu h hc
  refine ⟨rfl,fun o p ρ ho hp=>?_⟩
  have hq':realW σ (.v (.c (.clo i))) = .func f a b:=hq
  have hq2:realW σ (one (.clo i)) = .func f a b:=hq
  unfold execOp
  simp only [ho,hp,hq',hq2]
  cases f with
  | method n=>exact absurd rfl (hne n)
  | func=>rfl
  | methodOf=>rfl
  | via=>rfl
  | yield=>rfl
 ·cases hn
  refine ⟨rfl,fun o p ρ ho hp=>?_⟩
  unfold execOp
  simp only [ho,hp]
  rfl
 ·cases hn
  refine ⟨rfl,fun o p ρ ho hp=>?_⟩
  unfold execOp
  simp only [ho,hp]
  rfl
 ·cases hn
theorem Apz (h:Rel K σ m w) {x:V} (hx:x.lt m.nx):Step K σ m w (σ.set m.nx 0 0 0 (realV σ x)) (m.add (.val x)).1 w:=by
 have hag:=Env.agree_set σ m.nx 0 0 0 (realV σ x)
 refine Jz h (.val x) 0 0 0 (realV σ x) (Goes.refl w) (fun _ _=>rfl) (fun hb=>by cases hb) ⟨?_,hx.mono (Nat.le_succ _)⟩
 rw [Env.set_v,hag.realV hx]
theorem Avl (h:Rel K σ m w) {f:Fn} {first caps:List W} (hf:∀ x∈first,W.lt m.nx x) (hc:∀ x∈caps,W.lt m.nx x) :
  Step K σ m w (σ.set m.nx 0 0 0 (.func f (first.map (realW σ)).toArray (caps.map (realW σ)).toArray)) (m.add (.fn f first caps)).1 w:=by
 have hag:=Env.agree_set σ m.nx 0 0 0 (.func f (first.map (realW σ)).toArray (caps.map (realW σ)).toArray)
 refine Jz h (.fn f first caps) 0 0 0 _ (Goes.refl w) (fun _ _=>rfl) (fun hb=>by cases hb) ⟨?_,fun x hx=>(hf x hx).mono (Nat.le_succ _),fun x hx=>(hc x hx).mono (Nat.le_succ _)⟩
 rw [Env.set_v,hag.mapW hf,hag.mapW hc]
theorem Ark (h:Rel K σ m w) {t:Nat} {x y:W} (hi:ifaceW P m t x = .ok y m1) (hx:x.lt m.nx):Does P K σ m w (Instr.makeInterface t (realW σ x)) y m1:=by
 unfold ifaceW at hi
 split at hi
 ·cases hi
 ·cases hi
 ·rename_i v hu hne
  cases hi
  refine Does.pure h ⟨?_,trivial⟩
  cases hu':P.underlying t with
  | none=>exact absurd hu' hu
  | some d =>
   cases d <;> first | exact absurd hu' (hne _) | (simp [Instr.makeInterface,run_underlying hu',realW,realV,realC,one])
 ·rename_i x _ hu hne
  cases hi
  refine ⟨_,w,?_,Apz h hx,h.ltnx⟩
  cases hu':P.underlying t with
  | none=>exact absurd hu' hu
  | some d =>
   cases d <;> first | exact absurd hu' (hne _) | (simp [Instr.makeInterface,run_underlying hu',realW,realV,realC,one])
 ·cases hi
theorem Ao8 (h:Rel K σ m w) {t t0:Nat} {x y:W} {ok:Bool} (ha:assertW P m x t ok=some y):(Instr.typeAssert (realW σ x) t0 t ok).run P w = .ok (realW σ y) w∧y.lt m.nx:=by
 unfold assertW at ha
 split at ha
 ·cases ha
 ·cases ha
 ·rename_i t' v hu hne
  replace ⟨hc,ha⟩:=Aj ha
  have hc:=Nat.eq_of_beq_eq_true hc
  subst hc
  refine ⟨?_,by subst ha;cases ok;exact Nl _ _;intro z hz;simp at hz;rcases hz with rfl | rfl;exact Agt _ _;trivial⟩
  show (Instr.typeAssert (.iface t v) t0 t ok).run P w=_
  cases hu':P.underlying t with
  | none=>exact absurd hu' hu
  | some d =>
   subst ha
   have e1:realW σ (bif ok then W.t [V.of v,V.c (C.raw (Value.bool true))] else W.of v)=if ok then .tuple #[v, .bool true] else v:=by
    cases ok
    ·exact Et σ v
    ·show Value.tuple ([realV σ (V.of v), .bool true]).toArray=_
     rw [Ft]
     rfl
   rw [e1]
   cases ok <;> cases d <;> first | exact absurd hu' (hne _) | simp [Instr.typeAssert,run_underlying hu']
 ·rename_i t' i hu hne
  rw [cond_eq_ite] at ha
  split at ha
  ·rename_i hc
   have hc:=Nat.eq_of_beq_eq_true hc
   subst hc
   split at ha
   ·rename_i v hv
    cases ha
    obtain ⟨h1,h2⟩:=h.row i _ hv
    refine ⟨?_,by cases ok;exact h2;intro z hz;simp at hz;rcases hz with rfl | rfl;exact h2;trivial⟩
    show (Instr.typeAssert (.iface t (σ.v i)) t0 t ok).run P w=_
    rw [h1]
    cases hu':P.underlying t with
    | none=>exact absurd hu' hu
    | some d =>
     cases ok <;> cases d <;> first | exact absurd hu' (hne _) | simp [Instr.typeAssert,run_underlying hu',realW,realV,realC]
   ·cases ha
  ·cases ha
 ·cases ha
end
end Go.Vc

namespace Go.Vc
variable [Holes]
section
variable {P:Program} {K:Nat→Option (List Value)} {σ τ:Env} {m m1:Mem} {w w1:World}
def entM (k:IntKind) (e:Int×Value×Nat):MapEntry:=⟨.int k e.1,e.2.1,e.2.2⟩
theorem Cz {r:Nat} {es:Array MapEntry} {c:Nat} (h:w.heap[r]?=some (.map es c)):(getObj r).run P w = .ok (.map es c) w:=by simp [getObj,Sem.run,h]
theorem Ec {r:Nat} {es:Array MapEntry} {c:Nat} (o:Obj) (h:w.heap[r]?=some (.map es c)):(setObj r o).run P w = .ok () (w.putObj r o):=by simp [setObj,Sem.run,h,World.putObj]
theorem Km (w:World) (l:Nat) (o:Obj):Goes w (w.putObj l o):=⟨rfl,rfl,rfl,by simp [World.putObj]⟩
theorem Ff (h:Rel K σ m w) {r:Nat} {k:IntKind} {es:List (Int×Value×Nat)} {c:Nat} (hr:m.S.get r=some (.map k es c)):w.heap[σ.b r]?=some (.map (es.map (entM k)).toArray c):=h.row r _ hr
theorem Hl (h:Rel K σ m w) {r:Nat} {k:IntKind} {es:List (Int×Value×Nat)} {c:Nat} (hr:m.S.get r=some (.map k es c)) (es':List (Int×Value×Nat)) (c':Nat) :
  Step K σ m w σ ⟨m.S.set r (.map k es' c'),m.nx,lower r m.lo⟩ (w.putObj (σ.b r) (.map (es'.map (entM k)).toArray c')):=by
 refine Aiw h hr rfl rfl rfl (Ea _ _).1 (Ea _ _).2 (Km _ _ _) (fun b hb=>World.putObj_heap_other hb) ?_
 show (w.putObj (σ.b r) _).heap[σ.b r]?=some (.map (es'.map (entM k)).toArray c')
 exact World.putObj_heap_same (Bw (Ff h hr))
theorem Yo {t et:Nat} {k:IntKind} (h:mapTy P t=some (k,et)):∃ kt,P.underlying t=some (.map kt et)∧P.underlying kt=some (.int k):=by
 unfold mapTy at h
 split at h
 ·rename_i kt et' hu
  split at h
  ·rename_i k' hk
   cases h
   exact ⟨kt,hu,hk⟩
  ·cases h
 ·cases h
theorem Ady {k:IntKind} {x i:W} {r c:Nat} {es:List (Int×Value×Nat)} {n:Int} (h:rowM m k x i=some (r,es,c,n)):x = .v (.c (.mp r))∧i = .v (.c (.raw (.int k n)))∧m.S.get r=some (.map k es c):=by
 unfold rowM at h
 split at h
 ·rename_i r' k' n'
  rw [cond_eq_ite] at h
  split at h
  ·rename_i hk
   have hk:=eq_of_beq hk
   subst hk
   split at h
   ·rename_i kk es' c' hg
    rw [cond_eq_ite] at h
    split at h
    ·rename_i hkk
     have hkk:=eq_of_beq hkk
     subst hkk
     cases h
     exact ⟨rfl,rfl,hg⟩
    ·cases h
   ·cases h
  ·cases h
 ·cases h
def idxM (n:Int):List (Int×Value×Nat)→Option Nat
 | []=>none
 | e::es=>if e.1=n then some 0 else (idxM n es).map (·+1)
theorem Kn (n:Int) (es:List (Int×Value×Nat)):findM n es=(idxM n es).bind fun i=>(es[i]?).map (·.2):=by
 induction es with
 | nil=>rfl
 | cons e es ih =>
  unfold findM idxM
  by_cases he:e.1=n
  ·rw [if_pos he,he];simp
  ·rw [if_neg he,cond_eq_ite,if_neg (by simpa using he),ih]
   cases idxM n es <;> simp
theorem Ajf (q k:IntKind) (n:Int) (es:List (Int×Value×Nat)) (j:Nat):Instr.findNow (.int q) (.int k n) (es.map (entM k)) j=some ((idxM n es).bind fun i=>(es[i]?).map fun e=>(j+i,e.2.1)):=by
 induction es generalizing j with
 | nil=>rfl
 | cons e es ih =>
  have hs:Instr.sameNow (.int q) (.int k n) (.int k e.1)=some (n == e.1):=by simp [Instr.sameNow]
  show (match Instr.sameNow (.int q) (.int k n) (.int k e.1) with
   | some true=>some (some (j,e.2.1))
   | some false=>Instr.findNow (.int q) (.int k n) (es.map (entM k)) (j+1)
   | none=>none)=_
  rw [hs]
  unfold idxM
  by_cases he:e.1=n
  ·rw [if_pos he,he];simp
  ·have hb:(n == e.1)=false:=by simpa using fun h=>he h.symm
   rw [if_neg he,hb]
   show Instr.findNow _ _ _ (j+1)=_
   rw [ih]
   cases hx:idxM n es with
   | none=>rfl
   | some i=>simp [Nat.add_assoc,Nat.add_comm 1 i]
theorem Df {kt:Nat} {k:IntKind} (hk:P.underlying kt=some (.int k)) (n:Int) (es:List (Int×Value×Nat)):(Instr.findKey kt (.int k n) (es.map (entM k))).run P w = .ok ((idxM n es).bind fun i=>(es[i]?).map fun e=>(i,e.2.1)) w:=by
 unfold Instr.findKey
 rw [Sem.run_bind,run_underlying hk]
 simp only [Result.andThen_ok,Ajf,Nat.zero_add]
 rfl
theorem Da {kt:Nat} {k:IntKind} (hk:P.underlying kt=some (.int k)) (b:Bool) (n:Int):(Instr.checkKey b 10000 kt (.int k n)).run P w = .ok () w:=by
 unfold Instr.checkKey
 rw [Sem.run_bind,run_underlying hk]
 rfl
theorem Abj {t:Nat} {z:Value} (h:zeroV P t=some z):(zeroValue t).run P w = .ok z w:=by
 unfold zeroV at h
 cases hi:P.info? t with
 | none=>rw [hi] at h;cases h
 | some i =>
  rw [hi] at h
  simp [zeroValue,typeInfo,hi,show i.zero=some z from h]
theorem Afz (v:Value) (b:C) (hb:C.lt m.nx b):W.lt m.nx (.t [V.of v, .c b]):=fun x hx=>by
 rcases List.mem_cons.1 hx with rfl | hx
 ·exact Agt _ _
 ·rcases List.mem_cons.1 hx with rfl | hx
  ·exact hb
  ·cases hx
theorem Amt (h:Rel K σ m w) {t:Nat} {x i y:W} {ok:Bool} (hl:lookupW P m t x i ok=some y):(Instr.lookup t (realW σ x) (realW σ i) ok).run P w = .ok (realW σ y) w∧y.lt m.nx:=by
 unfold lookupW at hl
 split at hl
 ·rename_i k et hty
  obtain ⟨kt,hu,hk⟩:=Yo hty
  split at hl
  ·rename_i r es c n hrow
   obtain ⟨rfl,rfl,hg⟩:=Ady hrow
   have hh:=Ff h hg
   have key:∀ v b,((idxM n es).bind fun i=>(es[i]?).map fun e=>(i,e.2.1))=(if b=true then some (0,v) else none)∨True:=fun _ _=>.inr trivial
   split at hl
   ·rename_i v bn hf
    cases hl
    rw [Kn] at hf
    obtain ⟨i,hi,he⟩:=Option.bind_eq_some_iff.1 hf
    obtain ⟨e,he1,he2⟩:=Option.map_eq_some_iff.1 he
    have hfk:((idxM n es).bind fun i=>(es[i]?).map fun e=>(i,e.2.1))=some (i,v):=by rw [hi];simp [he1,he2]
    refine ⟨?_,by
     cases ok
     ·exact Nl _ _
     ·exact Afz _ _ trivial⟩
    unfold Instr.lookup
    simp only [Sem.run_bind,run_underlying hu,Result.andThen_ok,realW,realV,realC,Cz hh,Sem.run_pure,Da hk,List.toList_toArray,Df hk,hfk]
    cases ok
    ·show Result.ok v w = .ok (realW σ (W.of v)) w;rw [Et]
    ·show Result.ok (Value.tuple #[v, .bool true]) w = .ok (.tuple #[realV σ (V.of v), .bool true]) w
     rw [Ft]
   ·rename_i z hf hz
    cases hl
    rw [Kn] at hf
    have hfk:((idxM n es).bind fun i=>(es[i]?).map fun e=>(i,e.2.1))=none:=by
     cases hi:idxM n es with
     | none=>rfl
     | some i =>
      rw [hi] at hf
      simp only [Option.bind_some,Option.map_eq_none_iff] at hf
      simp [hf]
    refine ⟨?_,by
     cases ok
     ·exact Nl _ _
     ·exact Afz _ _ trivial⟩
    unfold Instr.lookup
    simp only [Sem.run_bind,run_underlying hu,Result.andThen_ok,realW,realV,realC,Cz hh,Sem.run_pure,Da hk,List.toList_toArray,Df hk,hfk,Abj hz]
    cases ok
    ·show Result.ok z w = .ok (realW σ (W.of z)) w;rw [Et]
    ·show Result.ok (Value.tuple #[z, .bool false]) w = .ok (.tuple #[realV σ (V.of z), .bool false]) w
     rw [Ft]
   ·cases hl
  ·cases hl
 ·cases hl
theorem Aiy (k:Nat) (v:Value):realW (σ.set m.nx w.heap.size 0 k v) (one (.mp m.nx)) = .map (some w.heap.size):=by
 simp [one,realW,realV,realC]
theorem Ajc (h:Rel K σ m w) {t:Nat} {r:Option Operand} {y:W} (hm:makeMapW P m t r = .ok y m1):r=none ∧
  ∃ τ w',(Instr.makeMap t none).run P w = .ok (realW τ y) w'∧Step K σ m w τ m1 w'∧y.lt m1.nx:=by
 unfold makeMapW at hm
 split at hm
 ·rename_i k et hty
  cases hm
  refine ⟨rfl,σ.set m.nx w.heap.size 0 0 undef,w.alloc (.map #[] 0),?_,?_,h.ltnx⟩
  ·show _=Result.ok (realW _ (one (.mp m.nx))) _
   rw [Aiy]
   rfl
  ·refine Jz h (.map k [] 0) _ _ _ _ (Ee w _) (fun b hb=>Du w _ b hb) (fun _=>Nat.le_refl _) ?_
   show (w.alloc (.map #[] 0)).heap[(σ.set m.nx w.heap.size 0 0 undef).b m.nx]?=_
   rw [Env.set_b]
   show (w.heap.push (.map #[] 0))[w.heap.size]?=_
   rw [Array.getElem?_push_size];rfl
 ·cases hm
theorem Arl {n:Int} {es:List (Int×Value×Nat)} {i:Nat} (h:idxM n es=some i):∃ e,es[i]?=some e∧e.1=n:=by
 induction es generalizing i with
 | nil=>cases h
 | cons e es ih =>
  unfold idxM at h
  split at h
  ·rename_i he;cases h;exact ⟨e,rfl,he⟩
  ·cases hx:idxM n es with
   | none=>rw [hx] at h;cases h
   | some j =>
    rw [hx] at h;cases h
    obtain ⟨e',h1,h2⟩:=ih hx
    exact ⟨e',by simpa using h1,h2⟩
theorem Ad6 {α:Type} (l:Array α) (i:Nat) (f:α→α) (hf:∀ x,l[i]?=some x→f x=x):l.modify i f=l:=by
 apply Array.ext_getElem?
 intro j
 rw [Array.getElem?_modify]
 split
 ·rename_i he;subst he
  cases hx:l[i]? with
  | none=>rfl
  | some x=>rw [Option.map_some,hf x hx]
 ·rfl
theorem Ad7 (h:Rel K σ m w) {t:Nat} {x i y:W} (hl:mapEntryW P m t x i = .ok y m1):∃ w',(Instr.mapEntry t (realW σ x) (realW σ i)).run P w = .ok (realW σ y) w'∧Step K σ m w σ m1 w'∧y.lt m1.nx:=by
 unfold mapEntryW at hl
 split at hl
 ·rename_i k et hty
  obtain ⟨kt,hu,hk⟩:=Yo hty
  split at hl
  ·rename_i r es c n hrow
   obtain ⟨rfl,rfl,hg⟩:=Ady hrow
   have hh:=Ff h hg
   have hx:realW σ (.v (.c (.mp r))) = .map (some (σ.b r)):=rfl
   have hi:realW σ (.v (.c (.raw (.int k n)))) = .int k n:=rfl
   rw [hx,hi]
   split at hl
   ·rename_i v bn hf
    cases hl
    rw [Kn] at hf
    obtain ⟨i,hi,he⟩:=Option.bind_eq_some_iff.1 hf
    obtain ⟨e,he1,he2⟩:=Option.map_eq_some_iff.1 he
    obtain ⟨e',he3,he4⟩:=Arl hi
    rw [he1] at he3;cases he3
    have hfk:((idxM n es).bind fun i=>(es[i]?).map fun e=>(i,e.2.1))=some (i,v):=by rw [hi];simp [he1,he2]
    refine ⟨_,?_,Hl h hg es c,Afz _ _ trivial⟩
    have he5:((es.map (entM k)).toArray)[i]?=some ⟨.int k n,v,bn⟩:=by
     simp [he1,entM,he4,he2]
    unfold Instr.mapEntry
    simp only [Sem.run_bind,run_underlying hu,Result.andThen_ok,Cz hh,Da hk,List.toList_toArray,Df hk,hfk,he5,Option.map_some,Option.getD_some]
    have hks:(Instr.keyThatStays (.int k n) (.int k n)).run P w = .ok (.int k n) w:=by
     have hsb:Instr.sameBits 10000 (.int k n) (.int k n)=true:=by simp [Instr.sameBits]
     simp [Instr.keyThatStays,hsb]
    rw [hks]
    simp only [Result.andThen_ok,Sem.run_bind]
    rw [Ad6 _ _ _ (fun x hx=>by rw [he5] at hx;cases hx;rfl),Ec _ hh]
    simp only [Result.andThen_ok,Sem.run_pure]
    show _=Result.ok (Value.tuple #[realV σ (V.of v),goInt bn]) _
    rw [Ft]
   ·rename_i hf
    split at hl
    ·rename_i z hz
     cases hl
     rw [Kn] at hf
     have hfk:((idxM n es).bind fun i=>(es[i]?).map fun e=>(i,e.2.1))=none:=by
      cases hi:idxM n es with
      | none=>rfl
      | some i =>
       rw [hi] at hf
       simp only [Option.bind_some,Option.map_eq_none_iff] at hf
       simp [hf]
     refine ⟨_,?_,Hl h hg _ _,Afz _ _ trivial⟩
     unfold Instr.mapEntry
     simp only [Sem.run_bind,run_underlying hu,Result.andThen_ok,Cz hh,Da hk,List.toList_toArray,Df hk,hfk,Abj hz]
     have:(es.map (entM k)).toArray.push { key := .int k n,val:=z,born:=c }=((es++[(n,z,c)]).map (entM k)).toArray:=by simp [entM]
     rw [this,Ec _ hh]
     simp only [Result.andThen_ok,Sem.run_pure]
     show _=Result.ok (Value.tuple #[realV σ (V.of z),goInt c]) _
     rw [Ft]
    ·cases hl
  ·cases hl
 ·cases hl
theorem At2 {n:Int} {v:Value} {k:IntKind} {es es':List (Int×Value×Nat)} (h:setK n v es=some es') :
  ∃ i e,idxM n es=some i∧es[i]?=some e∧e.1=n∧(es.map (entM k)).modify i (fun e=>{ e with key := .int k n,val:=v })=es'.map (entM k):=by
 induction es generalizing es' with
 | nil=>cases h
 | cons e es ih =>
  unfold setK at h
  rw [cond_eq_ite] at h
  split at h
  ·rename_i hb
   have hb:=eq_of_beq hb
   cases h
   refine ⟨0,e,?_,rfl,hb,?_⟩
   ·unfold idxM;rw [if_pos hb]
   ·simp [List.modify_cons,entM,hb]
  ·rename_i hb
   have hb:¬e.1=n:=fun he=>hb (by rw [he];simp)
   split at h
   ·rename_i es1 h1
    cases h
    obtain ⟨i,e',h2,h3,h4,h5⟩:=ih h1
    refine ⟨i+1,e',?_,by simpa using h3,h4,?_⟩
    ·unfold idxM;rw [if_neg hb,h2];rfl
    ·rw [List.map_cons,List.modify_succ_cons,h5];rfl
   ·cases h
theorem Al3 {n:Int} {v:Value} {es:List (Int×Value×Nat)} (h:setK n v es=none):idxM n es=none:=by
 induction es with
 | nil=>rfl
 | cons e es ih =>
  unfold setK at h
  rw [cond_eq_ite] at h
  split at h
  ·cases h
  ·rename_i hb
   have hb:¬e.1=n:=fun he=>hb (by rw [he];simp)
   split at h
   ·cases h
   ·rename_i h1
    unfold idxM;rw [if_neg hb,ih h1];rfl
theorem Abz (h:Rel K σ m w) {t:Nat} {x i v y:W} (hl:mapUpdateW P m t x i v = .ok y m1):∃ w',(Instr.mapUpdate t (realW σ x) (realW σ i) (realW σ v)).run P w = .ok () w'∧Step K σ m w σ m1 w'∧y=undefW:=by
 unfold mapUpdateW at hl
 split at hl
 ·rename_i k et hty
  obtain ⟨kt,hu,hk⟩:=Yo hty
  split at hl
  ·rename_i r es c n v' hrow hv
   obtain ⟨rfl,rfl,hg⟩:=Ady hrow
   have hh:=Ff h hg
   have hx:realW σ (.v (.c (.mp r))) = .map (some (σ.b r)):=rfl
   have hi:realW σ (.v (.c (.raw (.int k n)))) = .int k n:=rfl
   rw [hx,hi,Fs hv]
   split at hl
   ·rename_i es' hs
    cases hl
    obtain ⟨i,e,h1,h2,h3,h4⟩:=At2 (k:=k) hs
    have hfk:((idxM n es).bind fun i=>(es[i]?).map fun e=>(i,e.2.1))=some (i,e.2.1):=by rw [h1];simp [h2]
    have he5:((es.map (entM k)).toArray)[i]?=some ⟨.int k n,e.2.1,e.2.2⟩:=by
     simp [h2,entM,h3]
    refine ⟨_,?_,Hl h hg es' c,rfl⟩
    unfold Instr.mapUpdate
    simp only [Sem.run_bind,run_underlying hu,Result.andThen_ok,Cz hh,Da hk,List.toList_toArray,Df hk,hfk,he5,Option.map_some,Option.getD_some]
    have hks:(Instr.keyThatStays (.int k n) (.int k n)).run P w = .ok (.int k n) w:=by
     have hsb:Instr.sameBits 10000 (.int k n) (.int k n)=true:=by simp [Instr.sameBits]
     simp [Instr.keyThatStays,hsb]
    rw [hks]
    simp only [Result.andThen_ok]
    have h6:((es.map (entM k)).toArray.modify i fun e=>{ e with key := .int k n,val:=v' })=(es'.map (entM k)).toArray:=by
     rw [←h4,List.modify_toArray]
    rw [h6,Ec _ hh]
   ·rename_i hs
    cases hl
    have hfk:((idxM n es).bind fun i=>(es[i]?).map fun e=>(i,e.2.1))=none:=by rw [Al3 hs];rfl
    refine ⟨_,?_,Hl h hg _ _,rfl⟩
    unfold Instr.mapUpdate
    simp only [Sem.run_bind,run_underlying hu,Result.andThen_ok,Cz hh,Da hk,List.toList_toArray,Df hk,hfk]
    have:(es.map (entM k)).toArray.push { key := .int k n,val:=v',born:=c }=((es++[(n,v',c)]).map (entM k)).toArray:=by simp [entM]
    rw [this,Ec _ hh]
  ·cases hl
 ·cases hl
theorem At1 {b:Nat} {v:Value} {k:IntKind} {es es':List (Int×Value×Nat)} (h:setM b v es=some es') :
  ∃ i,(es.map (entM k)).findIdx? (fun e=>(e.born:Int) == (b:Int))=some i∧(es.map (entM k)).modify i (fun e=>{ e with val:=v })=es'.map (entM k):=by
 induction es generalizing es' with
 | nil=>cases h
 | cons e es ih =>
  unfold setM at h
  rw [cond_eq_ite] at h
  split at h
  ·rename_i hb
   have hb:=Nat.eq_of_beq_eq_true hb
   cases h
   refine ⟨0,?_,?_⟩
   ·rw [List.map_cons,List.findIdx?_cons,if_pos (by simp [entM,hb])]
   ·simp [List.modify_cons,entM,hb]
  ·rename_i hb
   split at h
   ·rename_i es1 h1
    cases h
    obtain ⟨i,h2,h3⟩:=ih h1
    refine ⟨i+1,?_,?_⟩
    ·rw [List.map_cons,List.findIdx?_cons,if_neg (by
      simp [entM]
      intro he
      have he':e.2.2=b:=by exact_mod_cast he
      exact hb (by rw [he'];exact Nat.beq_refl _)),h2];rfl
    ·rw [List.map_cons,List.modify_succ_cons,h3];rfl
   ·cases h
theorem Yz (h:Rel K σ m w) {t:Nat} {x b v y:W} (hl:entryStoreW m x b v = .ok y m1):∃ w',(Instr.entryStore t (realW σ x) (realW σ b) (realW σ v)).run P w = .ok () w'∧Step K σ m w σ m1 w'∧y=undefW:=by
 unfold entryStoreW at hl
 split at hl
 ·rename_i r bn v' hb hv
  obtain ⟨kb,hb⟩:=Ra (σ:=σ) hb
  split at hl
  ·rename_i k es c hg
   have hh:=Ff h hg
   split at hl
   ·rename_i es' hs
    cases hl
    obtain ⟨i,h1,h2⟩:=At1 (k:=k) hs
    refine ⟨_,?_,Hl h hg es' c,rfl⟩
    rw [hb,Fs hv]
    show (Instr.entryStore t (.map (some (σ.b r))) (.int kb bn) v').run P w=_
    unfold Instr.entryStore
    simp only [Sem.run_bind,Result.andThen_ok,Cz hh,asInt,asIntOf,Sem.run_pure]
    have h3:(es.map (entM k)).toArray.findIdx? (fun e=>(e.born:Int) == (bn:Int))=some i:=by
     rw [List.findIdx?_toArray];exact h1
    rw [h3]
    simp only
    have h4:((es.map (entM k)).toArray.modify i fun e=>{ e with val:=v' })=(es'.map (entM k)).toArray:=by
     rw [←h2,List.modify_toArray]
    rw [h4,Ec _ hh]
   ·cases hl
  ·cases hl
 ·cases hl
theorem Av2 (h:Rel K σ m w) {t ty:Nat} {r:Nat} {y:W} (hu:(P.underlying t).isSome=true) (hc:clearMapW m r = .ok y m1) :
  ∃ w',(Builtin.clear_ #[t] ty #[realW σ (.v (.c (.mp r)))]).run P w = .ok (realW σ y) w'∧Step K σ m w σ m1 w'∧y.lt m1.nx:=by
 unfold clearMapW at hc
 split at hc
 ·rename_i k es c hg
  cases hc
  have hh:=Ff h hg
  refine ⟨_,?_,Hl h hg [] c,Bt _⟩
  obtain ⟨d,hd⟩:=Option.isSome_iff_exists.1 hu
  show (Builtin.clear_ #[t] ty #[.map (some (σ.b r))]).run P w=_
  simp only [Builtin.clear_,List.getElem?_toArray,List.getElem?_cons_zero,Sem.run_bind,run_underlying hd,Result.andThen_ok,Cz hh,Ec _ hh,Sem.run_pure]
  simp [undefW,realW]
 ·cases hc
theorem Ayu (h:Rel K σ m w) {t ty:Nat} {x y:W} (hc:clrW P m t x = .ok y m1) :
  ∃ w',(Builtin.clear_ #[t] ty #[realW σ x]).run P w = .ok (realW σ y) w'∧Step K σ m w σ m1 w'∧y.lt m1.nx:=by
 unfold clrW at hc
 split at hc
 ·rename_i r
  rw [cond_eq_ite] at hc
  split at hc
  ·rename_i hu;exact Av2 h hu hc
  ·cases hc
 ·exact Ar7 h hc
end
end Go.Vc
