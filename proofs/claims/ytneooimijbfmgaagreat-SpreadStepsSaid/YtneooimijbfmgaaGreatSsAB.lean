import Derived.Deep.AppendSrc
import Derived.Deep.Upon
import Derived.Test.YtneooimijbfmgaaGreatSsAA
set_option linter.unusedVariables false
set_option linter.unusedSimpArgs false
set_option linter.unusedSectionVars false
noncomputable section
namespace Go.Vc
variable [Holes]
section
variable {K:Nat→Option (List Value)} {σ τ:Env} {m m1:Mem} {w w1:World}
theorem Yj {c:C} (h:oneB c=true):(realC σ c).oneCell'=true:=by
 cases c with
 | raw v=>exact h
 | ptr=>rfl
 | sl r o n z c=>cases c <;> rfl
 | em=>rfl
 | clo i=>simp only [realC];split <;> rfl
 | ifc=>rfl
 | mp=>rfl
 | fz i=>simp only [realC];split <;> rfl
 | fp=>rfl
 | sb=>rfl
 | si=>rfl
 | ss=>rfl
theorem Ea (a b:Nat):lower a b≤b∧lower a b≤a:=by
 show (Bool.rec b a (Nat.ble a b):Nat)≤b∧(Bool.rec b a (Nat.ble a b):Nat)≤a
 rw [brec]
 split
 ·rename_i h;have:=Nat.le_of_ble_eq_true h;omega
 ·rename_i h
  rcases Nat.lt_or_ge b a with h1 | h1
  ·omega
  ·exact absurd (Nat.ble_eq_true_of_le h1) h
theorem Ek (w:World) (g:Nat) (cs:Array Value):Goes w (w.setRow g cs):=⟨rfl,rfl,rfl,by simp [World.setRow]⟩
theorem Alv (h:Rel K σ m w) {r e k k':Nat} {cs cs':T C} {lo:Nat} (hr:m.S.get r=some (.cells e k cs)) (hlo:lo≤m.lo) (hlr:lo≤r) (hg:Goes w w1) (hw:∀ b,b≠σ.b r→w1.heap[b]?=w.heap[b]?)
  (hn:RowOk σ m.nx w1 r (.cells e k' cs')):Step K σ m w σ ⟨m.S.set r (.cells e k' cs'),m.nx,lo⟩ w1:=by
 have hget:∀ i,(m.S.set r (.cells e k' cs')).get i=if i=r then some (.cells e k' cs') else m.S.get i:=fun i=>T.get_set _ _ _ _
 have hold:∀ i s,(m.S.set r (.cells e k' cs')).get i=some s→s.blk=true→∃ s',m.S.get i=some s'∧s'.blk=true:=fun i s hs hsb=>by
  by_cases hi:i=r
  ·subst hi;exact ⟨_,hr,rfl⟩
  ·rw [hget,if_neg hi] at hs;exact ⟨s,hs,hsb⟩
 have hother:∀ i s,m.S.get i=some s→s.blk=true→i≠r→σ.b i≠σ.b r:=fun i s hs hsb hi he=>hi (h.inj i r s _ hs hr hsb rfl he)
 have hap:=h.apart r _ hr rfl
 refine ⟨Nat.le_refl _,Agree.refl _ _,⟨fun i s hs=>?_,fun i s hs=>?_,fun i j s s' hs hs' hsb hsb' he=>?_,fun g l hg'=>?_,fun i s hs hsb=>?_,fun g l hg'=>Nat.lt_of_lt_of_le (h.low g l hg') hg.size,h.fresh⟩,hg,fun b _ hb=>?_,fun i s _ hs hsb=>hold i s hs hsb,fun i s hi hs hsb=>?_,hlo,fun i s hs hsl=>?_⟩
 ·by_cases hi:i=r
  ·subst hi;rw [hget,if_pos rfl] at hs;cases hs;exact hn
  ·rw [hget,if_neg hi] at hs
   exact (h.row i s hs).keep (Agree.refl _ _) (h.lt i s hs) (Nat.le_refl _) (fun hsb=>hw _ (hother i s hs hsb hi))
 ·by_cases hi:i=r
  ·subst hi;exact h.lt _ _ hr
  ·rw [hget,if_neg hi] at hs;exact h.lt i s hs
 ·obtain ⟨t,ht,htb⟩:=hold i s hs hsb
  obtain ⟨t',ht',htb'⟩:=hold j s' hs' hsb'
  exact h.inj i j t t' ht ht' htb htb' he
 ·exact Co h (fun g l hg2=>hw g (fun he=>by rw [←he,hg2] at hap;cases hap)) g l hg'
 ·obtain ⟨t,ht,htb⟩:=hold i s hs hsb
  exact h.apart i t ht htb
 ·refine hw b fun he=>?_
  have:=hb r _ hr rfl he.symm
  exact absurd (show r<lo from this) (by omega)
 ·obtain ⟨t,ht,_⟩:=hold i s hs hsb
  exact absurd (h.lt i t ht).lt (by omega)
 ·by_cases hi:i=r
  ·subst hi;rw [hr] at hs;cases hs;cases hsl
  ·exact ⟨s,by rw [hget,if_neg hi];exact hs,hsl⟩
theorem Aiw (h:Rel K σ m w) {r:Nat} {q q':Row} {lo:Nat} (hr:m.S.get r=some q) (hqb:q.blk=true) (hql:q.isLoop=false) (hqb':q'.blk=true) (hlo:lo≤m.lo) (hlr:lo≤r) (hg:Goes w w1) (hw:∀ b,b≠σ.b r→w1.heap[b]?=w.heap[b]?)
  (hn:RowOk σ m.nx w1 r q'):Step K σ m w σ ⟨m.S.set r q',m.nx,lo⟩ w1:=by
 have hget:∀ i,(m.S.set r q').get i=if i=r then some q' else m.S.get i:=fun i=>T.get_set _ _ _ _
 have hold:∀ i s,(m.S.set r q').get i=some s→s.blk=true→∃ s',m.S.get i=some s'∧s'.blk=true:=fun i s hs hsb=>by
  by_cases hi:i=r
  ·subst hi;exact ⟨_,hr,hqb⟩
  ·rw [hget,if_neg hi] at hs;exact ⟨s,hs,hsb⟩
 have hother:∀ i s,m.S.get i=some s→s.blk=true→i≠r→σ.b i≠σ.b r:=fun i s hs hsb hi he=>hi (h.inj i r s _ hs hr hsb hqb he)
 have hap:=h.apart r _ hr hqb
 refine ⟨Nat.le_refl _,Agree.refl _ _,⟨fun i s hs=>?_,fun i s hs=>?_,fun i j s s' hs hs' hsb hsb' he=>?_,fun g l hg'=>?_,fun i s hs hsb=>?_,fun g l hg'=>Nat.lt_of_lt_of_le (h.low g l hg') hg.size,h.fresh⟩,hg,fun b _ hb=>?_,fun i s _ hs hsb=>hold i s hs hsb,fun i s hi hs hsb=>?_,hlo,fun i s hs hsl=>?_⟩
 ·by_cases hi:i=r
  ·subst hi;rw [hget,if_pos rfl] at hs;cases hs;exact hn
  ·rw [hget,if_neg hi] at hs
   exact (h.row i s hs).keep (Agree.refl _ _) (h.lt i s hs) (Nat.le_refl _) (fun hsb=>hw _ (hother i s hs hsb hi))
 ·by_cases hi:i=r
  ·subst hi;exact h.lt _ _ hr
  ·rw [hget,if_neg hi] at hs;exact h.lt i s hs
 ·obtain ⟨t,ht,htb⟩:=hold i s hs hsb
  obtain ⟨t',ht',htb'⟩:=hold j s' hs' hsb'
  exact h.inj i j t t' ht ht' htb htb' he
 ·exact Co h (fun g l hg2=>hw g (fun he=>by rw [←he,hg2] at hap;cases hap)) g l hg'
 ·obtain ⟨t,ht,htb⟩:=hold i s hs hsb
  exact h.apart i t ht htb
 ·refine hw b fun he=>?_
  have:=hb r _ hr hqb he.symm
  exact absurd (show r<lo from this) (by omega)
 ·obtain ⟨t,ht,_⟩:=hold i s hs hsb
  exact absurd (h.lt i t ht).lt (by omega)
 ·by_cases hi:i=r
  ·subst hi;rw [hr] at hs;cases hs;rw [hql] at hsl;cases hsl
  ·exact ⟨s,by rw [hget,if_neg hi];exact hs,hsl⟩
theorem Hk (h:Rel K σ m w) {r o:Nat} {l:List C} (hwr:m.write r o l=some m1) (hl:∀ x∈l,C.lt m.nx x) :
  ∃ e arr,w.heap[σ.b r]?=some (.cells arr e (0,0))∧σ.o r+o+l.length≤arr.size∧(∀ v∈l.map (realC σ),v.oneCell'=true) ∧
   Step K σ m w σ m1 (w.setRow (σ.b r) (arr.toList.take (σ.o r+o)++l.map (realC σ)++arr.toList.drop (σ.o r+o+l.length)).toArray):=by
 unfold Mem.write at hwr
 split at hwr
 ·rename_i e k cs hr
  rw [cond_eq_ite] at hwr
  split at hwr
  ·rename_i hc
   simp only [Bool.and_eq_true,List.all_eq_true] at hc
   obtain ⟨hle,hone⟩:=hc
   have hle:=Nat.le_of_ble_eq_true hle
   cases hwr
   obtain ⟨arr,h1,h2,h3,h4⟩:=h.row r _ hr
   refine ⟨e,arr,h1,by omega,fun v hv=>?_,?_⟩
   ·obtain ⟨c,hc,rfl⟩:=List.mem_map.1 hv;exact Yj (hone c hc)
   ·refine Alv h hr (Ea _ _).1 (Ea _ _).2 (Ek _ _ _) (fun b hb=>setRow_other w _ b _ hb) ⟨_,setRow_heap w (σ.b r) arr _ e (0,0) h1,?_,?_,fun j hj=>?_⟩
    ·simp;omega
    ·simp;omega
    ·rw [T.get_puts]
     have hsz:(arr.toList.take (σ.o r+o)).length=σ.o r+o:=by simp;omega
     rw [List.getElem?_toArray,List.append_assoc,List.getElem?_append,hsz]
     by_cases hj1:o≤j∧j<o+l.length
     ·rw [if_pos hj1,if_neg (by omega),List.getElem?_append_left (by simp;omega)]
      have hlt:j-o<l.length:=by omega
      refine ⟨l[j-o],List.getElem?_eq_getElem hlt,hl _ (List.getElem_mem hlt),?_⟩
      rw [show σ.o r+j-(σ.o r+o)=j-o by omega,List.getElem?_map,List.getElem?_eq_getElem hlt];rfl
     ·rw [if_neg hj1]
      obtain ⟨c,hc,hcl,ha⟩:=h4 j hj
      refine ⟨c,hc,hcl,?_⟩
      rw [←ha]
      split
      ·rw [List.getElem?_take,if_pos (by omega)];simp
      ·rw [List.getElem?_append_right (by simp;omega),List.getElem?_drop]
       rw [List.length_map,show σ.o r+o+l.length+(σ.o r+j-(σ.o r+o)-l.length)=σ.o r+j by omega];simp
  ·cases hwr
 ·cases hwr
end
end Go.Vc

namespace Go.Vc
variable [Holes]
section
variable {P:Program} {K:Nat→Option (List Value)} {σ τ:Env} {m m1:Mem} {w w1:World}
theorem Al {t n:Nat} (h:sizeOf? P t=some n):(sizeOf t).run P w = .ok n w:=by
 unfold sizeOf? at h
 cases hi:P.info? t with
 | none=>rw [hi] at h;cases h
 | some i=>rw [hi] at h;simp only [Option.map_some,Option.some.injEq] at h;simp [sizeOf,typeInfo,hi,h]
theorem Dm {t:Nat} {l:List C} (h:zero? P t=some l):∃ z,(zeroValue t).run P w = .ok z w∧(V.of z).cells=l∧∃ i,P.info? t=some i∧i.zero=some z:=by
 unfold zero? at h
 cases hi:P.info? t with
 | none=>rw [hi] at h;cases h
 | some i =>
  rw [hi] at h
  simp only [Option.bind_some] at h
  cases hz:i.zero with
  | none=>rw [hz] at h;cases h
  | some z=>rw [hz] at h;simp only [Option.map_some,Option.some.injEq] at h;exact ⟨z,by simp [zeroValue,typeInfo,hi,hz],h,i,rfl,hz⟩
theorem Hv (σ:Env) {x:V} (hx:x.good=true):(realV σ x).cells=(x.cells.map (realC σ)).toArray:=by
 cases x with
 | a cs=>rfl
 | c v =>
  have h1:=Yj (σ:=σ) (c:=v) hx
  show (realC σ v).cells=#[realC σ v]
  revert h1
  cases realC σ v <;> simp [Value.cells,Value.oneCell']
theorem Pa {n:Nat} {x:V} (h:x.lt n):∀ c∈x.cells,C.lt n c:=by
 cases x with
 | a cs=>exact h
 | c v=>intro c hc;simp [V.cells] at hc;subst hc;exact h
theorem Cr {t:Nat} {b:Bool} (h:aggB P t=some b):(isAgg t).run P w = .ok b w:=by
 unfold aggB at h
 cases hu:P.underlying t with
 | none=>rw [hu] at h;cases h
 | some d =>
  rw [hu] at h
  cases d <;> simp at h <;> subst h <;> simp [isAgg,run_underlying hu]
theorem Im (h:Rel K σ m w) {r o n:Nat} {l:List C} (hr:m.read r o n=some l) :
  l.length=n∧(∀ x∈l,C.lt m.nx x)∧∀ j v,(l.map (realC σ))[j]?=some v→w.cell? ((⟨σ.b r,σ.o r+o,none⟩:Addr).add j)=some v:=by
 unfold Mem.read at hr
 split at hr
 ·rename_i e k cs hrow
  rw [cond_eq_ite] at hr
  split at hr
  ·rename_i hle
   have hle:=Nat.le_of_ble_eq_true hle
   obtain ⟨h1,h2⟩:=T.list_spec n o cs l hr
   obtain ⟨arr,a1,a2,a3,a4⟩:=h.row r _ hrow
   refine ⟨h1,fun x hx=>?_,fun j v hv=>?_⟩
   ·obtain ⟨j,hj,rfl⟩:=List.getElem_of_mem hx
    obtain ⟨c,hc,hl,_⟩:=a4 (o+j) (by omega)
    have:=h2 j (by omega)
    rw [hc,List.getElem?_eq_getElem hj] at this
    cases this;exact hl
   ·have hj:j<n:=by have:=(List.getElem?_eq_some_iff.1 hv).1;simp at this;omega
    obtain ⟨c,hc,hl,ha⟩:=a4 (o+j) (by omega)
    have:=h2 j hj
    rw [hc] at this
    rw [List.getElem?_map,←this] at hv
    cases hv
    have hadd:(⟨σ.b r,σ.o r+o,none⟩:Addr).add j=⟨σ.b r,σ.o r+(o+j),none⟩:=by unfold Addr.add;split <;> simp_all;omega
    rw [hadd,World.cell?,a1]
    simpa using ha
  ·cases hr
 ·cases hr
theorem Ad8 (h:Rel K σ m w) {t:Nat} {x y:W} (hl:loadW P K m t x=some y) (hx:x.lt m.nx) :
  (Instr.loadAt t (realW σ x)).run P w = .ok (realW σ y) w∧y.lt m.nx:=by
 unfold loadW at hl
 split at hl
 ·rename_i g o
  show (Instr.loadAt t (.pointer (some ⟨g,o,none⟩))).run P w=_∧_
  split at hl
  ·rename_i l hK ha hs
   cases hv:l[o]? with
   | none=>rw [hv] at hl;cases hl
   | some v =>
    rw [hv] at hl
    cases hl
    refine ⟨?_,trivial⟩
    have hc:=h.known g l hK o v hv
    simp only [Instr.loadAt,Instr.sureAddr,loadVar,Sem.run_bind,Sem.run_pure,Result.andThen_ok,Cr ha]
    simp [load,Sem.run,hc,realW,realV,realC]
  ·rename_i l n hK ha hs
   rw [cond_eq_ite] at hl
   split at hl
   ·rename_i hc
    simp only [Bool.and_eq_true,Nat.beq_eq] at hc
    obtain ⟨rfl,rfl⟩:=hc
    cases hl
    refine ⟨?_,fun y hy=>by obtain ⟨v,_,rfl⟩:=List.mem_map.1 hy;trivial⟩
    have hcs:=run_loadCells_list (P:=P) (w:=w) ⟨g,0,none⟩ l (fun j v hv=>by
     have:(⟨g,0,none⟩:Addr).add j=⟨g,j,none⟩:=by unfold Addr.add;split <;> simp_all
     rw [this];exact h.known g l hK j v hv)
    simp only [Instr.loadAt,Instr.sureAddr,loadVar,Sem.run_bind,Sem.run_pure,Result.andThen_ok,Cr ha,if_true,Al hs,hcs]
    simp [realW,realV,show (realC σ ∘ C.raw)=id from rfl]
   ·cases hl
  ·cases hl
 ·rename_i r o
  show (Instr.loadAt t (.pointer (some ⟨σ.b r,σ.o r+o,none⟩))).run P w=_∧_
  split at hl
  ·rename_i ha
   split at hl
   ·rename_i n hs
    cases hr:m.read r o n with
    | none=>rw [hr] at hl;cases hl
    | some l =>
     rw [hr] at hl;cases hl
     obtain ⟨h1,h2,h3⟩:=Im h hr
     refine ⟨?_,h2⟩
     have hcs:=run_loadCells_list (P:=P) (w:=w) _ _ h3
     rw [List.length_map,h1] at hcs
     simp only [Instr.loadAt,Instr.sureAddr,loadVar,Sem.run_bind,Sem.run_pure,Result.andThen_ok,Cr ha,if_true,Al hs,hcs]
     rfl
   ·cases hl
  ·rename_i ha
   split at hl
   ·rename_i c hr
    cases hl
    obtain ⟨h1,h2,h3⟩:=Im h hr
    refine ⟨?_,h2 c (by simp)⟩
    have hc:=h3 0 (realC σ c) rfl
    have:(⟨σ.b r,σ.o r+o,none⟩:Addr).add 0=⟨σ.b r,σ.o r+o,none⟩:=rfl
    rw [this] at hc
    simp only [Instr.loadAt,Instr.sureAddr,loadVar,Sem.run_bind,Sem.run_pure,Result.andThen_ok,Cr ha]
    simp [load,Sem.run,hc,realW,realV]
   ·cases hl
  ·cases hl
 ·cases hl
end
end Go.Vc

namespace Go.Vc
variable [Holes]
section
variable {P:Program} {K:Nat→Option (List Value)} {σ τ:Env} {m m1:Mem} {w w1:World}
theorem Aqg (h:Rel K σ m w) {t:Nat} {p x:W} (hs:storeW P m t p x=some m1) (hx:x.lt m.nx) :
  ∃ w',(Instr.storeAt t (realW σ p) (realW σ x)).run P w = .ok () w'∧Step K σ m w σ m1 w':=by
 unfold storeW at hs
 split at hs
 ·rename_i r o x
  split at hs
  ·rename_i n hn
   rw [cond_eq_ite] at hs
   split at hs
   ·rename_i hlen
    have hlen:=Nat.eq_of_beq_eq_true hlen
    obtain ⟨e,arr,h1,h2,h3,h4⟩:=Hk h hs (Pa hx)
    have hgood:x.good=true:=by
     unfold Mem.write at hs
     split at hs
     ·rw [cond_eq_ite] at hs
      split at hs
      ·rename_i hc
       simp only [Bool.and_eq_true,List.all_eq_true] at hc
       cases x with
       | a cs=>rfl
       | c v=>exact hc.2 v (by simp [V.cells])
      ·cases hs
     ·cases hs
    have hst:=run_storeCells_at P (σ.b r) (σ.o r+o) e (x.cells.map (realC σ)) 0 arr w h1 (by simpa using h2) h3
    simp only [Nat.add_zero,List.length_map] at hst
    refine ⟨_,?_,h4⟩
    show (storeVar t ⟨σ.b r,σ.o r+o,none⟩ (realV σ x)).run P w=_
    simp [storeVar,Al hn,Hv σ hgood,hlen,hst]
   ·cases hs
  ·cases hs
 ·cases hs
theorem Vs (e:TypeId) (arr:Array Value):(newRow e arr).run P w = .ok ⟨w.heap.size,0,none⟩ (w.alloc (.cells arr e)):=rfl
theorem Ni (k:Nat) (v:Value):realW (σ.set m.nx w.heap.size 0 k v) (one (.ptr m.nx 0)) = .pointer (some ⟨w.heap.size,0,none⟩):=by
 simp [one,realW,realV,realC]
theorem Kj (h:Rel K σ m w) (e:TypeId) (l:List C) (hl:∀ x∈l,C.lt m.nx x) :
  Step K σ m w (σ.set m.nx w.heap.size 0 l.length undef) (m.new e l).1 (w.alloc (.cells (l.map (realC σ)).toArray e)):=by
 have:=Xt h e l hl (l.map (realC σ)).toArray (by simp) (fun j _=>by simp) (Ee w _) (w1:=w.alloc (.cells (l.map (realC σ)).toArray e)) rfl
 simpa using this
theorem Ai5 (h:Rel K σ m w) (e:TypeId) (l:List C) (k:Nat) (g:Nat→Option C) (hk:k=l.length) (ht:∀ j,j<l.length→g j=l[j]?) (hl:∀ x∈l,C.lt m.nx x) :
  Step K σ m w (σ.set m.nx w.heap.size 0 l.length undef) (m.newT e k g) (w.alloc (.cells (l.map (realC σ)).toArray e)):=by
 have:=Aba h e l k g hk ht hl (l.map (realC σ)).toArray (by simp) (fun j _=>by simp) (Ee w _) (w1:=w.alloc (.cells (l.map (realC σ)).toArray e)) rfl
 simpa using this
theorem Bv (σ:Env) (z:Value):((V.of z).cells.map (realC σ)).toArray=z.cells:=by
 cases z <;> simp [V.of,V.cells,realC,Value.cells]
 rw [show (realC σ ∘ C.raw)=id from rfl];simp
theorem Dn (n:Nat) (z:Value):∀ x∈(V.of z).cells,C.lt n x:=Pa (Agt n z)
theorem Asd (h:Rel K σ m w) {e:Nat} {x:W} (ha:allocW P m e = .ok x m1) :
  ∃ τ w',(Instr.alloc e true (.tuple #[])).run P w = .ok (realW τ x) w'∧Step K σ m w τ m1 w'∧x.lt m1.nx:=by
 unfold allocW at ha
 split at ha
 ·rename_i z hz
  obtain ⟨v,hv,rfl,_⟩:=Dm (w:=w) hz
  cases ha
  refine ⟨_,_,?_,Kj h e _ (Dn _ _),h.ltnx⟩
  rw [Ni]
  simp [Instr.alloc,hv,newVar,Vs,Bv]
 ·cases ha
theorem Ayv (h:Rel K σ m w) {e:Nat} {x y:W} (hb:boxW m e y = .ok x m1) (hy:y.lt m.nx) :
  ∃ τ w',(Instr.box e (realW σ y)).run P w = .ok (realW τ x) w'∧Step K σ m w τ m1 w'∧x.lt m1.nx:=by
 unfold boxW at hb
 split at hb
 ·rename_i y
  cases hg:y.good with
  | false=>rw [hg] at hb;cases hb
  | true =>
   rw [hg] at hb
   cases hb
   refine ⟨_,_,?_,Kj h e _ (Pa hy),h.ltnx⟩
   rw [Ni]
   show (Instr.box e (realV σ y)).run P w=_
   simp [Instr.box,newVar,Vs,Hv σ hg]
 ·cases hb
theorem Adu (cs l:List C) (off:Nat):(splice cs off l).map (realC σ)=(cs.map (realC σ)).take off++l.map (realC σ)++(cs.map (realC σ)).drop (off+l.length):=by
 simp [splice]
theorem Arn (l:List Value):∀ (off k:Nat) (cs:Array Value),off+k+l.length≤cs.size →
  (l.zipIdx k).foldl (fun cs (c,j)=>cs.setIfInBounds (off+j) c) cs=(cs.toList.take (off+k)++l++cs.toList.drop (off+k+l.length)).toArray:=by
 induction l with
 | nil=>intro off k cs h;simp
 | cons x l ih =>
  intro off k cs h
  simp only [List.length_cons] at h
  rw [List.zipIdx_cons,List.foldl_cons,ih off (k+1) _ (by simp;omega)]
  have hlt:off+k<cs.toList.length:=by simp;omega
  apply congrArg List.toArray
  have e:=list_seg_step cs.toList (off+k) x l (by simp;omega)
  simpa [Array.toList_setIfInBounds,Nat.add_assoc] using e
theorem Yv {place:Nat→Option (Nat×Nat)}:∀ (parts:List (Nat×W)) (cells l:List C),fillW place cells parts=some l→(∀ x∈cells,C.lt m.nx x)→(∀ p∈parts,W.lt m.nx p.2) →
  Instr.fill place (cells.map (realC σ)).toArray (parts.map fun p=>(p.1,realW σ p.2))=some (l.map (realC σ)).toArray∧∀ x∈l,C.lt m.nx x
 | [],cells,l,h,hc,_=>by cases h;exact ⟨rfl,hc⟩
 | (i, .t y)::rest,cells,l,h,hc,hp=>by cases h
 | (i, .v x)::rest,cells,l,h,hc,hp=>by
  unfold fillW at h
  cases hpl:place i with
  | none=>rw [hpl] at h;cases h
  | some os =>
   obtain ⟨off,size⟩:=os
   rw [hpl] at h
   simp only [cond_eq_ite] at h
   split at h
   ·rename_i hcond
    simp only [Bool.and_eq_true,Nat.beq_eq] at hcond
    obtain ⟨⟨hg,hlen⟩,hle⟩:=hcond
    have hle:=Nat.le_of_ble_eq_true hle
    have hxl:V.lt m.nx x:=hp _ (List.mem_cons_self)
    have hsp:∀ y∈splice cells off x.cells,C.lt m.nx y:=fun y hy=>by
     simp only [splice,List.mem_append] at hy
     rcases hy with (hy | hy) | hy
     ·exact hc y (List.mem_of_mem_take hy)
     ·exact Pa hxl y hy
     ·exact hc y (List.mem_of_mem_drop hy)
    obtain ⟨h1,h2⟩:=Yv rest _ l h hsp (fun p hp'=>hp p (List.mem_cons_of_mem _ hp'))
    refine ⟨?_,h2⟩
    rw [List.map_cons,Instr.fill,hpl]
    have hcr:(realW σ (.v x)).cells=(x.cells.map (realC σ)).toArray:=Hv σ hg
    simp only [hcr]
    rw [if_neg (by simp [hlen];omega)]
    rw [←h1]
    congr 1
    have:=Arn (x.cells.map (realC σ)) off 0 (cells.map (realC σ)).toArray (by simp;omega)
    rw [Adu]
    rw [←Array.foldl_toList]
    simpa [Array.toList_zipIdx] using this
   ·cases h
end
end Go.Vc

namespace Go.Vc
variable [Holes]
section
variable {P:Program} {K:Nat→Option (List Value)} {σ τ:Env} {m m1:Mem} {w w1:World}
theorem Abf:∀ (fields:List Field),(fields.all fun f=>(sizeOf? P f.type).isSome)=true→∃ pl,(fields.mapM fun f:Field=>(do pure (f.offset,←sizeOf f.type):Sem (Nat×Nat))).run P w = .ok pl w ∧
  ∀ i:Nat,pl[i]?=placeW P fields.toArray i
 | [],_=>⟨[],rfl,fun i=>by simp [placeW]⟩
 | f::fields,h=>by
  simp only [List.all_cons,Bool.and_eq_true] at h
  obtain ⟨pl,h1,h2⟩:=Abf fields h.2
  obtain ⟨n,hn⟩:=Option.isSome_iff_exists.1 h.1
  refine ⟨(f.offset,n)::pl,by simp only [List.mapM_cons,bind_assoc,pure_bind,Sem.run_bind,Al hn,Result.andThen_ok,h1,Sem.run_pure],fun i=>?_⟩
  cases i with
  | zero=>simp [placeW,hn]
  | succ i=>simpa [placeW] using h2 i
theorem Ahu {t:Nat} {parts:List (Nat×W)} {x:W} (hb:buildW P t parts=some x) (hp:∀ p∈parts,W.lt m.nx p.2) :
  (Instr.build t (parts.map fun p=>(p.1,realW σ p.2)).toArray).run P w = .ok (realW σ x) w∧x.lt m.nx:=by
 unfold buildW at hb
 split at hb
 ·rename_i z fields hz hu
  obtain ⟨v,hv,rfl,_⟩:=Dm (w:=w) hz
  rw [cond_eq_ite] at hb
  split at hb
  ·cases hb
  ·rename_i hall
   have hall:(fields.toList.all fun f=>(sizeOf? P f.type).isSome)=true:=by
    cases hX:(fields.toList.all fun f=>(sizeOf? P f.type).isSome) with
    | true=>rfl
    | false=>rw [hX] at hall;exact absurd rfl hall
   obtain ⟨pl,h1,h2⟩:=Abf (P:=P) (w:=w) fields.toList hall
   have hplace:(fun i:Nat=>(pl.toArray)[i]?)=placeW P fields:=by
    funext i
    rw [List.getElem?_toArray,h2 i,Array.toArray_toList]
   cases hf:fillW (placeW P fields) (V.of v).cells parts with
   | none=>rw [hf] at hb;cases hb
   | some l =>
    rw [hf] at hb
    cases hb
    obtain ⟨g1,g2⟩:=Yv (σ:=σ) parts _ l hf (Dn _ _) hp
    rw [Bv,←hplace] at g1
    refine ⟨?_,g2⟩
    have h1':(Array.mapM (fun f:Field=>(do pure (f.offset,←sizeOf f.type):Sem (Nat×Nat))) fields).run P w = .ok pl.toArray w:=by
     rw [Array.mapM_eq_mapM_toList]
     rw [map_eq_pure_bind,Sem.run_bind,h1,Result.andThen_ok,Sem.run_pure]
    simp only [Instr.build,Sem.run_bind,hv,Result.andThen_ok,run_underlying hu,h1',List.toList_toArray,g1]
    rfl
 ·rename_i z len e hz hu
  obtain ⟨v,hv,rfl,_⟩:=Dm (w:=w) hz
  split at hb
  ·rename_i s hs
   cases hf:fillW (fun i=>some (i*s,s)) (V.of v).cells parts with
   | none=>rw [hf] at hb;cases hb
   | some l =>
    rw [hf] at hb
    cases hb
    obtain ⟨g1,g2⟩:=Yv (σ:=σ) parts _ l hf (Dn _ _) hp
    rw [Bv] at g1
    refine ⟨?_,g2⟩
    simp only [Instr.build,Sem.run_bind,hv,Result.andThen_ok,run_underlying hu,Al hs,List.toList_toArray,g1]
    rfl
  ·cases hb
 ·cases hb
theorem As {t:Nat} {e s:Nat} (h:sliceTy P t=some (e,s)):P.underlying t=some (.slice e)∧sizeOf? P e=some s:=by
 unfold sliceTy at h
 split at h
 ·rename_i e' hu
  cases hs:sizeOf? P e' with
  | none=>rw [hs] at h;cases h
  | some n=>rw [hs] at h;cases h;exact ⟨hu,hs⟩
 ·cases h
theorem Cu (z:List C):∀ n,(reps z n).length=n*z.length
 | 0=>by simp [reps]
 | n+1=>by rw [reps,List.length_append,Cu z n,Nat.add_mul];omega
theorem Kc (z:List C):∀ n i,i<n*z.length→(reps z n)[i]?=z[i % z.length]?
 | 0,i,h=>by omega
 | n+1,i,h=>by
  rw [reps]
  rcases Nat.lt_or_ge i z.length with hlt | hge
  ·rw [List.getElem?_append_left hlt,Nat.mod_eq_of_lt hlt]
  ·rw [List.getElem?_append_right hge,Kc z n _ (by rw [Nat.add_mul] at h;omega),←Nat.mod_eq_sub_mod hge]
theorem Ya {z:List C} {p:C→Prop} (h:∀ x∈z,p x):∀ n,∀ x∈reps z n,p x
 | 0,x,hx=>by cases hx
 | n+1,x,hx=>by
  rw [reps,List.mem_append] at hx
  rcases hx with hx | hx
  ·exact h x hx
  ·exact Ya h n x hx
theorem Hh (σ:Env) (v:Value) (n:Nat):((Array.range (n*v.cells.size)).map fun i=>v.cells[i % v.cells.size]!)=((reps (V.of v).cells n).map (realC σ)).toArray:=by
 have hz:=Bv σ v
 have hlen:(V.of v).cells.length=v.cells.size:=by rw [←hz];simp
 apply Array.ext_getElem?
 intro i
 rw [Array.getElem?_map,Array.getElem?_range]
 simp only [List.getElem?_toArray,List.getElem?_map]
 by_cases hi:i<n*v.cells.size
 ·rw [if_pos hi,Option.map_some,Kc _ _ _ (by rw [hlen];exact hi),hlen]
  have hpos:0<v.cells.size:=by
   rcases Nat.eq_zero_or_pos v.cells.size with h0 | h0
   ·rw [h0] at hi;omega
   ·exact h0
  have hm:i % v.cells.size<v.cells.size:=Nat.mod_lt _ hpos
  have h1:v.cells[i % v.cells.size]?=some (v.cells[i % v.cells.size]):=Array.getElem?_eq_getElem hm
  have h2:((V.of v).cells[i % v.cells.size]?).map (realC σ)=v.cells[i % v.cells.size]?:=by
   rw [←hz];simp
  rw [h2,h1,getElem!_pos v.cells _ hm]
 ·rw [if_neg hi,List.getElem?_eq_none (by rw [Cu,hlen];omega)];rfl
end
end Go.Vc

namespace Go.Vc
variable [Holes]
section
variable {P:Program} {K:Nat→Option (List Value)} {σ τ:Env} {m m1:Mem} {w w1:World}
theorem Ww {e s n:Nat} {l:List C} (hs:sizeOf? P e=some s) (h:zerosW P e s n=some l) :
  (∀ x∈l,C.lt m.nx x)∧∃ zero:Array Value,((n*s=0∧zero=#[])∨(¬n*s=0∧∃ v,(zeroValue e).run P w = .ok v w∧zero=v.cells))∧(Array.range (n*s)).map (fun i=>zero[i % zero.size]!)=(l.map (realC σ)).toArray:=by
 unfold zerosW at h
 rw [cond_eq_ite] at h
 split at h
 ·rename_i h0
  have h0:=Nat.eq_of_beq_eq_true h0
  cases h
  refine ⟨(fun x hx=>by cases hx),#[], .inl ⟨h0,rfl⟩,by rw [h0];simp⟩
 ·rename_i h0
  have h0:¬n*s=0:=fun e=>h0 (by rw [e];rfl)
  split at h
  ·rename_i z hz
   rw [cond_eq_ite] at h
   split at h
   ·rename_i hl
    have hl:=Nat.eq_of_beq_eq_true hl
    cases h
    obtain ⟨v,hv,rfl,_⟩:=Dm (w:=w) hz
    have hvs:v.cells.size=s:=by rw [←Bv σ v];simpa using hl
    refine ⟨Ya (Dn _ _) n,v.cells, .inr ⟨h0,v,hv,rfl⟩,?_⟩
    rw [←Hh σ v n,hvs]
   ·cases h
  ·cases h
theorem Ql (n z c k:Nat) (v:Value):realW (σ.set m.nx w.heap.size 0 k v) (one (.sl m.nx 0 n z (some c))) = .slice (some ⟨w.heap.size,0,none⟩) n c:=by
 simp [one,realW,realV,realC]
theorem Zu (h:Rel K σ m w) {t len:Nat} {parts:List (Nat×W)} {x:W} (hb:buildSliceW P m t len parts = .ok x m1) (hp:∀ p∈parts,W.lt m.nx p.2) :
  ∃ τ w',(Instr.buildSlice t len (parts.map fun p=>(p.1,realW σ p.2)).toArray).run P w = .ok (realW τ x) w'∧Step K σ m w τ m1 w'∧x.lt m1.nx:=by
 unfold buildSliceW at hb
 split at hb
 ·rename_i e s hty
  obtain ⟨hu,hs⟩:=As hty
  rw [cond_eq_ite] at hb
  split at hb
  ·rename_i hle
   have hle:=Nat.le_of_ble_eq_true hle
   split at hb
   ·rename_i z hz
    obtain ⟨hzl,zero,hzr,hze⟩:=Ww (m:=m) (w:=w) (σ:=σ) hs hz
    split at hb
    ·rename_i l hf
     cases hb
     obtain ⟨g1,g2⟩:=Yv (σ:=σ) parts _ l hf hzl hp
     refine ⟨_,_,?_,Kj h e l g2,h.ltnx⟩
     rw [Ql]
     have hle':¬len*s>2 ^ 24:=by omega
     simp only [Instr.buildSlice,Sem.run_bind,run_underlying hu,Result.andThen_ok,Al hs,if_neg hle',Sem.run_pure]
     rcases hzr with ⟨h0,rfl⟩ | ⟨h0,v,hv,rfl⟩
     ·simp only [if_pos h0,Sem.run_bind,Sem.run_pure,Result.andThen_ok,hze,g1]
      rfl
     ·simp only [if_neg h0,Sem.run_bind,Sem.run_pure,hv,Result.andThen_ok,hze,g1]
      rfl
    ·cases hb
   ·cases hb
  ·cases hb
 ·cases hb
theorem Ra {x:W} {n:Nat} (h:natW x=some n):∃ k,realW σ x = .int k n:=by
 unfold natW intW at h
 split at h
 ·rename_i i hi
  split at hi
  ·rename_i k i'
   cases hi
   cases h
   exact ⟨k,rfl⟩
  ·cases hi
 ·cases h
theorem Lh {n:Nat} (h:n≤65536):IntKind.i64.wrap (n:Int)=n:=by
 unfold IntKind.wrap
 simp [IntKind.bits,IntKind.signed]
 omega
theorem Ab0 (h:Rel K σ m w) {t:Nat} {l c x:W} (hb:makeSliceW P m t l c = .ok x m1) :
  ∃ τ w',(Instr.makeSlice t (realW σ l) (realW σ c)).run P w = .ok (realW τ x) w'∧Step K σ m w τ m1 w'∧x.lt m1.nx:=by
 unfold makeSliceW at hb
 split at hb
 ·rename_i e s ln cn hty hl hc
  obtain ⟨hu,hs⟩:=As hty
  obtain ⟨k1,hl⟩:=Ra (σ:=σ) hl
  obtain ⟨k2,hc⟩:=Ra (σ:=σ) hc
  rw [cond_eq_ite] at hb
  split at hb
  ·rename_i hcond
   simp only [Bool.and_eq_true] at hcond
   obtain ⟨⟨h1,h2⟩,h3⟩:=hcond
   have h1:=Nat.le_of_ble_eq_true h1
   have h2:=Nat.le_of_ble_eq_true h2
   have h3:=Nat.le_of_ble_eq_true h3
   obtain ⟨z,hz,m1',hb',hst⟩:∃ z,zerosW P e s cn=some z∧∃ m2:Mem,(.ok (one (.sl m.nx 0 ln s (some cn))) m2:R1) = .ok x m1∧((∀ x∈z,C.lt m.nx x)→Step K σ m w (σ.set m.nx w.heap.size 0 z.length undef) m2 (w.alloc (.cells (z.map (realC σ)).toArray e)))∧m2.nx=m.nx+1:=by
    rw [cond_eq_ite] at hb
    split at hb
    ·rename_i hbig
     have hbig:=Nat.le_of_ble_eq_true hbig
     split at hb
     ·rename_i z hz
      unfold zeroW at hz
      split at hz
      ·rename_i z' hz'
       rw [cond_eq_ite] at hz
       split at hz
       case isFalse=>cases hz
       rename_i hzl
       cases hz
       have hzl:=Nat.eq_of_beq_eq_true hzl
       refine ⟨reps z cn,?_,_,hb,fun hl=>Ai5 h e _ _ _ ?_ (fun j hj=>?_) hl,rfl⟩
       ·unfold zerosW
        rw [hz']
        have:Nat.beq (cn*s) 0=false:=by
         cases hq:Nat.beq (cn*s) 0 with
         | false=>rfl
         | true=>have:=Nat.eq_of_beq_eq_true hq;omega
        rw [this]
        simp [hzl]
       ·rw [Cu,hzl];rfl
       ·rw [Cu] at hj
        rw [Amo,Kc _ _ _ hj,hzl];rfl
      ·cases hz
     ·cases hb
    ·split at hb
     ·rename_i z hz
      exact ⟨z,hz,_,hb,fun hl=>Kj h e z hl,rfl⟩
     ·cases hb
   ·obtain ⟨hzl,zero,hzr,hze⟩:=Ww (m:=m) (w:=w) (σ:=σ) hs hz
    cases hb'
    refine ⟨_,_,?_,hst.1 hzl,hst.2▸Rel.ltnx h⟩
    rw [Ql,hl,hc]
    cases hi:P.info? e with
    | none=>unfold sizeOf? at hs;rw [hi] at hs;cases hs
    | some i =>
     have hby:bytes? P e=i.bytes:=by unfold bytes?;rw [hi]
     rw [hby] at h3
     have hti:(typeInfo e).run P w = .ok i w:=by simp [typeInfo,hi]
     have h3':¬((i.bytes:Int)*(cn:Int)>2 ^ 48):=by
      rw [←Int.natCast_mul]
      generalize i.bytes*cn=q at h3
      omega
     have h3'':¬((cn:Int)<0∨(i.bytes:Int)*(cn:Int)>2 ^ 48):=by omega
     have hroom:∀ q,(askRoom q).run P w = .ok () w:=fun q=>by
      unfold askRoom
      split
      ·rfl
      ·rfl
     simp only [Instr.makeSlice,Sem.run_bind,run_underlying hu,Result.andThen_ok,asInt,asIntOf,Sem.run_pure,hti,Lh (show ln≤65536 by omega),Lh h2]
     have hif:¬((((decide ((cn:Int)<0) || decide ((i.bytes:Int)*(cn:Int)>2 ^ 48)) || decide ((ln:Int)<0)) || decide ((ln:Int)>(cn:Int)))=true):=by
      simp;omega
     rw [if_neg hif]
     simp only [Sem.run_bind,Sem.run_pure,Result.andThen_ok,hroom,Al hs,Int.toNat_natCast]
     rcases hzr with ⟨h0,rfl⟩ | ⟨h0,v,hv,rfl⟩
     ·simp only [if_pos h0,Sem.run_bind,Sem.run_pure,Result.andThen_ok,hze]
      rfl
     ·simp only [if_neg h0,Sem.run_bind,Sem.run_pure,hv,Result.andThen_ok,hze]
      rfl
  ·cases hb
 ·cases hb
end
end Go.Vc

namespace Go.Vc
variable [Holes]
section
variable {P:Program} {K:Nat→Option (List Value)} {σ τ:Env} {m m1:Mem} {w w1:World}
theorem Ax (b off n:Nat):(⟨b,off,none⟩:Addr).add n=⟨b,off+n,none⟩:=by unfold Addr.add;split <;> simp_all
theorem Fi {x:W} {n y:Nat} {code:BoundsCode} (h:natW x=some n) (hy:n≤y):(Instr.sliceBound (realW σ x) y code).run P w = .ok n w:=by
 obtain ⟨k,hk⟩:=Ra (σ:=σ) h
 have:(0:Int)≤(n:Int)∧(n:Int)≤(y:Int):=by omega
 simp [Instr.sliceBound,hk,asIntOf,this]
theorem Aj {α:Type} {b:Bool} {x y:α} (h:(bif b then some x else none)=some y):b=true∧x=y:=by
 cases b with
 | true=>exact ⟨rfl,by cases h;rfl⟩
 | false=>cases h
theorem Dh {b:Bool} {len cap M L H:Nat} {lo hi mx:Option W} (hm:bound mx cap=some M) (hl:bound lo 0=some L) (hh:bound hi len=some H) (h1:L≤H) (h2:H≤M) (h3:M≤cap) (h4:mx=none∨hi.isSome=true) :
  (Instr.sliceBounds b len cap (lo.map (realW σ)) (hi.map (realW σ)) (mx.map (realW σ))).run P w = .ok (L,H,M) w:=by
 unfold Instr.sliceBounds
 cases mx with
 | none =>
  cases hm
  cases hi with
  | none =>
   cases hh
   cases lo with
   | none=>cases hl;rfl
   | some x=>simp [Fi (σ:=σ) (P:=P) (w:=w) (code := .sliceB) hl h1]
  | some y =>
   have hy:=fun code=>Fi (σ:=σ) (P:=P) (w:=w) (code:=code) hh h2
   cases lo with
   | none=>cases hl;simp [hy]
   | some x=>simp [hy,Fi (σ:=σ) (P:=P) (w:=w) (code := .sliceB) hl h1]
 | some q =>
  have hq:=fun code=>Fi (σ:=σ) (P:=P) (w:=w) (code:=code) hm h3
  cases hi with
  | none=>rcases h4 with h4 | h4 <;> cases h4
  | some y =>
   have hy:=fun code=>Fi (σ:=σ) (P:=P) (w:=w) (code:=code) hh h2
   cases lo with
   | none=>cases hl;simp [hq,hy]
   | some x =>
    have hx:=fun code=>Fi (σ:=σ) (P:=P) (w:=w) (code:=code) hl h1
    simp [hq,hy,hx]
theorem Ka {t z:Nat} (h:sizeIs P t z=true):∃ e,P.underlying t=some (.slice e)∧sizeOf? P e=some z:=by
 unfold sizeIs at h
 split at h
 ·rename_i e z' he
  have:=Nat.eq_of_beq_eq_true h
  subst this
  obtain ⟨h1,h2⟩:=As he
  exact ⟨e,h1,h2⟩
 ·cases h
theorem Aef (h:Rel K σ m w) {r k:Nat} (hf:fits m r k=true):σ.o r+k≤σ.k r:=by
 unfold fits at hf
 split at hf
 ·rename_i e q cs hr
  obtain ⟨arr,h1,h2,h3,_⟩:=h.row r _ hr
  have:=Nat.le_of_ble_eq_true hf
  omega
 ·cases hf
theorem Zs (σ:Env) (r o z l:Nat) (hz:0<z):capR σ r (o+l*z) z=capR σ r o z-l:=by
 unfold capR
 rw [show σ.k r-(σ.o r+(o+l*z))=(σ.k r-(σ.o r+o))-z*l by rw [Nat.mul_comm z l];omega]
 rcases Nat.lt_or_ge (σ.k r-(σ.o r+o)) (z*l) with h | h
 ·rw [Nat.sub_eq_zero_of_le (Nat.le_of_lt h),Nat.zero_div]
  have:=Nat.div_lt_of_lt_mul h
  omega
 ·rw [Nat.sub_mul_div]
theorem Cb {t e:Nat} (hu:P.underlying t=some (.slice e)) {z:Nat} (hs:sizeOf? P e=some z) {a:Option Addr} {len cap L H M:Nat} {lo hi mx:Option Value}
  (hb:(Instr.sliceBounds true len cap lo hi mx).run P w = .ok (L,H,M) w) :
  (Instr.sliceAt t (.slice a len cap) lo hi mx).run P w = .ok (.slice (if M=L then a else a.map (·.add (L*z))) (H-L) (M-L)) w:=by
 simp only [Instr.sliceAt,Sem.run_bind,run_underlying hu,Result.andThen_ok,Instr.slice,hb,Al hs,Sem.run_pure]
theorem Aqk (h:Rel K σ m w) {t:Nat} {x y:W} {lo hi mx:Option W} (hs:sliceW P m t x lo hi mx=some y) (hx:x.lt m.nx) :
  (Instr.sliceAt t (realW σ x) (lo.map (realW σ)) (hi.map (realW σ)) (mx.map (realW σ))).run P w = .ok (realW σ y) w∧y.lt m.nx:=by
 unfold sliceW at hs
 split at hs
 ·unfold slZ at hs
  split at hs
  ·rename_i es hty hl hh
   obtain ⟨e,z⟩:=es
   obtain ⟨hu,hz⟩:=As hty
   cases hs
   refine ⟨?_,trivial⟩
   have hb:=Dh (σ:=σ) (P:=P) (w:=w) (b:=true) (mx:=none) (cap:=0) rfl hl hh (Nat.le_refl _) (Nat.zero_le _) (Nat.le_refl _) (.inl rfl)
   rw [show realW σ (.v (.c (.raw (.slice none 0 0)))) = .slice none 0 0 from rfl,Cb hu hz hb]
   rfl
  ·cases hs
 ·rename_i r o
  unfold slP at hs
  split at hs
  ·rename_i n e hu
   split at hs
   ·rename_i z l hh hz hl hh'
    obtain ⟨hc,rfl⟩:=Aj hs
    simp only [Bool.and_eq_true] at hc
    have h1:=Nat.le_of_ble_eq_true hc.1
    have h2:=Nat.le_of_ble_eq_true hc.2
    refine ⟨?_,hx⟩
    have hb:=Dh (σ:=σ) (P:=P) (w:=w) (b:=false) (mx:=none) (cap:=n) rfl hl hh' h1 h2 (Nat.le_refl _) (.inl rfl)
    show (Instr.sliceAt t (.pointer (some ⟨σ.b r,σ.o r+o,none⟩)) _ _ none).run P w=_
    simp only [Instr.sliceAt,Instr.sureAddr,Sem.run_bind,run_underlying hu,Result.andThen_ok,Sem.run_pure]
    rw [Option.map_none] at hb
    simp only [hb,Result.andThen_ok,Al hz]
    simp only [one,realW,realV,realC]
    by_cases hnl:n=l
    ·subst hnl;simp
    ·rw [if_neg hnl,Ax]
     have:Nat.beq n l=false:=by cases hq:Nat.beq n l with | true=>exact absurd (Nat.eq_of_beq_eq_true hq) hnl | false=>rfl
     simp [this,Nat.add_assoc]
   ·cases hs
  ·cases hs
 ·rename_i r p o z
  replace ⟨hc,hs⟩:sizeIs P t z=true∧slE r p o z lo hi mx=some y:=by
   cases hq:sizeIs P t z with
   | true=>rw [hq] at hs;exact ⟨rfl,hs⟩
   | false=>rw [hq] at hs;cases hs
  obtain ⟨e,hu,hz⟩:=Ka hc
  unfold slE at hs
  split at hs
  ·rename_i _ hl hh
   cases hs
   refine ⟨?_,hx⟩
   have hb:=Dh (σ:=σ) (P:=P) (w:=w) (b:=true) (mx:=none) (cap:=capR σ r o z) rfl hl hh (Nat.le_refl _) (Nat.zero_le _) (Nat.le_refl _) (.inl rfl)
   rw [show realW σ (.v (.c (.em r p o z))) = .slice (some ⟨σ.b r,if capR σ r o z=0 then σ.o r+p else σ.o r+o,none⟩) 0 (capR σ r o z) from rfl,Cb hu hz hb]
   simp only [one,realW,realV,realC,Nat.zero_mul,Nat.sub_zero,Nat.sub_self]
   by_cases h0:capR σ r o z=0
   ·simp [h0]
   ·simp [h0,Ax]
  ·cases hs
 ·rename_i r o n z c
  replace ⟨hc,hs⟩:(sizeIs P t z && Nat.ble n c)=true∧slC r o n z c lo hi mx=some y:=by
   cases hq:(sizeIs P t z && Nat.ble n c) with
   | true=>rw [hq] at hs;exact ⟨rfl,hs⟩
   | false=>rw [hq] at hs;cases hs
  simp only [Bool.and_eq_true] at hc
  obtain ⟨e,hu,hz⟩:=Ka hc.1
  unfold slC at hs
  split at hs
  ·rename_i M l H hM hl hH
   obtain ⟨hcc,rfl⟩:=Aj hs
   simp only [Bool.and_eq_true,Bool.or_eq_true] at hcc
   obtain ⟨⟨⟨h1,h2⟩,h3⟩,h4⟩:=hcc
   have h1:=Nat.le_of_ble_eq_true h1
   have h2:=Nat.le_of_ble_eq_true h2
   have h3:=Nat.le_of_ble_eq_true h3
   refine ⟨?_,hx⟩
   have hb:=Dh (σ:=σ) (P:=P) (w:=w) (b:=true) hM hl hH h1 h2 h3 (by rcases h4 with h4 | h4;exact .inl (by simpa using h4);exact .inr h4)
   rw [show realW σ (.v (.c (.sl r o n z (some c)))) = .slice (some ⟨σ.b r,σ.o r+o,none⟩) n c from rfl,Cb hu hz hb]
   simp only [one,realW,realV,realC]
   by_cases hml:M=l
   ·subst hml;simp
   ·have:Nat.beq M l=false:=by cases hq:Nat.beq M l with | true=>exact absurd (Nat.eq_of_beq_eq_true hq) hml | false=>rfl
    simp [hml,this,Ax,Nat.add_assoc]
  ·cases hs
 ·rename_i r o n z
  replace ⟨hc,hs⟩:(sizeIs P t z && fits m r (o+n*z))=true∧slX m r o n z lo hi mx=some y:=by
   cases hq:(sizeIs P t z && fits m r (o+n*z)) with
   | true=>rw [hq] at hs;exact ⟨rfl,hs⟩
   | false=>rw [hq] at hs;cases hs
  simp only [Bool.and_eq_true] at hc
  obtain ⟨e,hu,hz⟩:=Ka hc.1
  have hfit:=Aef h hc.2
  replace hs:slN r o n z lo hi mx=some y∨(mx=none∧∃ l H,bound lo 0=some l∧bound hi n=some H∧l<H∧0<z∧fits m r (o+H*z)=true∧y=one (.sl r (o+l*z) (H-l) z none)):=by
   unfold slX at hs
   split at hs
   ·rename_i l H hl hH
    rw [cond_eq_ite] at hs
    split at hs
    ·obtain ⟨hcc,rfl⟩:=Aj hs
     simp only [Bool.and_eq_true] at hcc
     obtain ⟨⟨h1,h2⟩,h3⟩:=hcc
     exact .inr ⟨rfl,l,H,hl,hH,Nat.le_of_ble_eq_true h1,Nat.le_of_ble_eq_true h2,h3,rfl⟩
    ·exact .inl hs
   ·exact .inl hs
  rcases hs with hs | ⟨rfl,l,H,hl,hH,hlH,h3,hf,rfl⟩
  case inr =>
   have hfit':=Aef h hf
   refine ⟨?_,hx⟩
   have hcap:H≤capR σ r o z:=by
    unfold capR
    rw [Nat.le_div_iff_mul_le h3]
    omega
   have hb:=Dh (σ:=σ) (P:=P) (w:=w) (b:=true) (mx:=none) (cap:=capR σ r o z) rfl hl hH (by omega) (by omega) (Nat.le_refl _) (.inl rfl)
   rw [show realW σ (.v (.c (.sl r o n z none))) = .slice (some ⟨σ.b r,σ.o r+o,none⟩) n (capR σ r o z) from rfl,Cb hu hz hb]
   have hne:¬capR σ r o z=l:=by omega
   simp only [one,realW,realV,realC,Zs σ r o z l h3,if_neg hne,Option.map_some,Ax,Nat.add_assoc]
  unfold slN at hs
  split at hs
  ·split at hs
   ·rename_i l H hl hH
    rw [cond_eq_ite] at hs
    split at hs
    ·rename_i hcc
     simp only [Bool.and_eq_true] at hcc
     obtain ⟨⟨h1,h2⟩,h3⟩:=hcc
     have h1:=Nat.le_of_ble_eq_true h1
     have h2:=Nat.le_of_ble_eq_true h2
     have h3:0<z:=Nat.le_of_ble_eq_true h3
     have hcap:n≤capR σ r o z:=by
      unfold capR
      rw [Nat.le_div_iff_mul_le h3]
      omega
     have hb:=Dh (σ:=σ) (P:=P) (w:=w) (b:=true) (mx:=none) (cap:=capR σ r o z) rfl hl hH h1 (by omega) (Nat.le_refl _) (.inl rfl)
     rw [show realW σ (.v (.c (.sl r o n z none))) = .slice (some ⟨σ.b r,σ.o r+o,none⟩) n (capR σ r o z) from rfl,Cb hu hz hb]
     rw [cond_eq_ite] at hs
     split at hs
     ·rename_i hln
      have hln:l<n:=Nat.le_of_ble_eq_true hln
      cases hs
      refine ⟨?_,hx⟩
      have hne:¬capR σ r o z=l:=by omega
      simp only [one,realW,realV,realC,Zs σ r o z l h3,if_neg hne,Option.map_some,Ax,Nat.add_assoc]
     ·rename_i hln
      have hln:¬l<n:=fun hq=>hln (Nat.ble_eq_true_of_le hq)
      have hH':H=l:=by omega
      subst hH'
      rw [cond_eq_ite] at hs
      split at hs
      ·rename_i h0
       have h0:=Nat.eq_of_beq_eq_true h0
       subst h0
       cases hs
       refine ⟨?_,hx⟩
       simp only [one,realW,realV,realC,Nat.zero_mul,Nat.sub_zero,Option.map_some,Ax,Nat.add_zero,ite_self]
      ·cases hs
       refine ⟨?_,hx⟩
       simp only [one,realW,realV,realC,Zs σ r o z _ h3,Option.map_some,Ax,Nat.sub_self]
       by_cases he:capR σ r o z=H
       ·rw [if_pos he,if_pos (by omega)]
       ·rw [if_neg he,if_neg (by omega),Nat.add_assoc]
    ·cases hs
   ·cases hs
  ·rename_i q
   split at hs
   ·rename_i M l H hM hl hH
    obtain ⟨hcc,rfl⟩:=Aj hs
    simp only [Bool.and_eq_true] at hcc
    obtain ⟨⟨⟨⟨h1,h2⟩,h3⟩,h4⟩,h5⟩:=hcc
    have h1:=Nat.le_of_ble_eq_true h1
    have h2:=Nat.le_of_ble_eq_true h2
    have h3:=Nat.le_of_ble_eq_true h3
    have h5:0<z:=Nat.le_of_ble_eq_true h5
    refine ⟨?_,hx⟩
    have hcap:n≤capR σ r o z:=by
     unfold capR
     rw [Nat.le_div_iff_mul_le h5]
     omega
    have hb:=Dh (σ:=σ) (P:=P) (w:=w) (b:=true) (mx:=some q) (cap:=capR σ r o z) hM hl hH h1 h2 (by omega) (.inr h4)
    rw [show realW σ (.v (.c (.sl r o n z none))) = .slice (some ⟨σ.b r,σ.o r+o,none⟩) n (capR σ r o z) from rfl,Cb hu hz hb]
    simp only [one,realW,realV,realC]
    by_cases hml:M=l
    ·subst hml;simp
    ·have:Nat.beq M l=false:=by cases hq:Nat.beq M l with | true=>exact absurd (Nat.eq_of_beq_eq_true hq) hml | false=>rfl
     simp [hml,this,Ax,Nat.add_assoc]
   ·cases hs
 ·cases hs
end
end Go.Vc

namespace Go.Vc
variable [Holes]
section
variable {P:Program} {K:Nat→Option (List Value)} {σ τ:Env} {m m1:Mem} {w w1:World}
theorem Fg {α:Type} (w:World):∀ (s:Sem α) (a:α),pureRun P s=some a→s.run P w = .ok a w
 | .pure a,b,h=>by cases h;rfl
 | .program k,b,h=>Fg w (k P) b h
 | .mark _ k,b,h=>Fg w k b h
 | .load ..,_,h=>by cases h
 | .store ..,_,h=>by cases h
 | .new ..,_,h=>by cases h
 | .shape ..,_,h=>by cases h
 | .freeze ..,_,h=>by cases h
 | .frozen ..,_,h=>by cases h
 | .getObj ..,_,h=>by cases h
 | .setObj ..,_,h=>by cases h
 | .choose ..,_,h=>by cases h
 | .sys ..,_,h=>by cases h
 | .halt _,_,h=>by cases h
theorem Yf {s:Sem Value} {x:W} (h:prun P s=some x) (n:Nat):s.run P w = .ok (realW σ x) w∧x.lt n:=by
 unfold prun at h
 split at h
 ·rename_i v hv
  cases h
  exact ⟨by rw [Et];exact Fg w s v hv,Nl n v⟩
 ·cases h
theorem At7 {x:C} {v:Value} (h:x.raw?=some v):realC σ x=v:=by
 cases x <;> simp [C.raw?] at h
 exact h
theorem Al9:∀ (cs:List C) (l:List Value),cs.mapM C.raw?=some l→cs.map (realC σ)=l
 | [],l,h=>by simp at h;simp [h]
 | c::cs,l,h=>by
  rw [List.mapM_cons] at h
  cases hc:c.raw? with
  | none=>rw [hc] at h;cases h
  | some v =>
   cases hl:cs.mapM C.raw? with
   | none=>rw [hc,hl] at h;cases h
   | some l' =>
    rw [hc,hl] at h
    cases h
    rw [List.map_cons,At7 hc,Al9 cs l' hl]
theorem Fs {x:W} {v:Value} (h:x.raw?=some v):realW σ x=v:=by
 unfold W.raw? at h
 split at h
 ·rename_i x
  unfold V.raw? at h
  split at h
  ·cases h;rfl
  ·cases h
  ·rename_i cs
   cases hl:cs.mapM C.raw? with
   | none=>rw [hl] at h;cases h
   | some l =>
    rw [hl] at h
    cases h
    simp only [realW,realV,Al9 (σ:=σ) cs l hl]
 ·cases h;rfl
 ·cases h
theorem Agl:∀ (xs:List W) (l:List Value),xs.mapM W.raw?=some l→xs.map (realW σ)=l
 | [],l,h=>by simp at h;simp [h]
 | c::cs,l,h=>by
  rw [List.mapM_cons] at h
  cases hc:c.raw? with
  | none=>rw [hc] at h;cases h
  | some v =>
   cases hl:cs.mapM W.raw? with
   | none=>rw [hc,hl] at h;cases h
   | some l' =>
    rw [hc,hl] at h
    cases h
    rw [List.map_cons,Fs hc,Agl cs l' hl]
theorem Qr {t:Nat} {cs:List C} {off:Nat} {y:W} (h:partW P t cs off=some y) (hl:∀ x∈cs,C.lt m.nx x) :
  (part t (cs.map (realC σ)).toArray off).run P w = .ok (realW σ y) w∧y.lt m.nx:=by
 unfold partW at h
 split at h
 ·rename_i n ha hs
  cases h
  refine ⟨?_,fun x hx=>hl x (List.mem_of_mem_drop (List.mem_of_mem_take hx))⟩
  simp only [part,Sem.run_bind,Cr ha,Result.andThen_ok,if_true,Al hs,Sem.run_pure]
  simp only [realW,realV,List.extract_toArray,List.extract_eq_take_drop,List.map_take,List.map_drop,Nat.add_sub_cancel_left]
 ·rename_i ha
  split at h
  ·rename_i x hx
   cases h
   refine ⟨?_,hl x (List.mem_of_getElem? hx)⟩
   have hx':(cs.map (realC σ)).toArray[off]?=some (realC σ x):=by simp [hx]
   simp only [part,Sem.run_bind,Cr ha,Result.andThen_ok,hx',one,realW,realV]
   rfl
  ·cases h
 ·cases h
theorem Arq {t f:Nat} {x y:W} (h:fieldW P t x f=some y) (hx:x.lt m.nx):(Instr.field t (realW σ x) f).run P w = .ok (realW σ y) w∧y.lt m.nx:=by
 unfold fieldW at h
 split at h
 ·rename_i cs fields hu
  split at h
  ·rename_i fd hf
   obtain ⟨h1,h2⟩:=Qr (w:=w) (σ:=σ) h hx
   refine ⟨?_,h2⟩
   simp only [Instr.field,Sem.run_bind,run_underlying hu,Result.andThen_ok,hf]
   simp only [realW,realV,asAgg,Sem.run_bind,Sem.run_pure,Result.andThen_ok]
   exact h1
  ·cases h
 ·cases h
theorem Nn {t f:Nat} {x y:W} (h:fieldAddrW P t x f=some y) (hx:x.lt m.nx):(Instr.fieldAt t (realW σ x) f).run P w = .ok (realW σ y) w∧y.lt m.nx:=by
 unfold fieldAddrW at h
 split at h
 ·rename_i r o fields hu
  split at h
  ·rename_i fd hf
   split at h
   ·cases h
   ·rename_i n hn hs
    cases h
    refine ⟨?_,hx⟩
    cases n with
    | zero=>exact absurd rfl hn
    | succ n =>
     simp only [Instr.fieldAt,Sem.run_bind,run_underlying hu,Result.andThen_ok,hf]
     simp only [realW,realV,realC,Instr.sureAddr,Sem.run_pure,Result.andThen_ok,fieldPlace,Sem.run_bind,Al hs,one]
     rw [if_neg (by omega)]
     simp [Ax,Nat.add_assoc]
   ·cases h
  ·cases h
 ·cases h
theorem Ym {x:W} {n:Nat} (h:natW x=some n):∃ k,(asIntOf (realW σ x)).run P w = .ok (k,(n:Int)) w:=by
 obtain ⟨k,hk⟩:=Ra (σ:=σ) h
 exact ⟨k,by rw [hk];rfl⟩
theorem Ab4 {t:Nat} {x i y:W} (h:indexAddrW P t x i=some y) (hx:x.lt m.nx):(Instr.indexAt t (realW σ x) (realW σ i)).run P w = .ok (realW σ y) w∧y.lt m.nx:=by
 unfold indexAddrW at h
 split at h
 ·rename_i r o
  split at h
  ·rename_i i' n e hi hu
   split at h
   ·rename_i z hz
    obtain ⟨hc,rfl⟩:=Aj h
    have hlt:i'<n:=Nat.le_of_ble_eq_true hc
    obtain ⟨k,hk⟩:=Ym (σ:=σ) (P:=P) (w:=w) hi
    refine ⟨?_,hx⟩
    have hcond:(0:Int)≤(i':Int)∧(i':Int)<(n:Int):=by omega
    simp only [Instr.indexAt,Sem.run_bind,hk,Result.andThen_ok,run_underlying hu]
    simp only [realW,realV,realC,Instr.sureAddr,Sem.run_pure,Result.andThen_ok,Sem.run_bind,if_pos hcond,Al hz,one,run_underlying hu]
    simp [Ax,Nat.add_assoc]
   ·cases h
  ·cases h
 ·rename_i r o n z c
  split at h
  ·rename_i i' hi
   obtain ⟨hc,rfl⟩:=Aj h
   simp only [Bool.and_eq_true] at hc
   obtain ⟨e,hu,hz⟩:=Ka hc.1
   have hlt:i'<n:=Nat.le_of_ble_eq_true hc.2
   obtain ⟨k,hk⟩:=Ym (σ:=σ) (P:=P) (w:=w) hi
   refine ⟨?_,hx⟩
   have hcond:(0:Int)≤(i':Int)∧(i':Int)<(n:Int):=by omega
   have hre:∃ q,realW σ (.v (.c (.sl r o n z c))) = .slice (some ⟨σ.b r,σ.o r+o,none⟩) n q:=by cases c <;> exact ⟨_,rfl⟩
   obtain ⟨q,hq⟩:=hre
   rw [hq,show realW σ (one (.ptr r (o+i'*z))) = .pointer (some ⟨σ.b r,σ.o r+(o+i'*z),none⟩) from rfl]
   simp only [Instr.indexAt,Sem.run_bind,hk,Result.andThen_ok,run_underlying hu,Sem.run_pure,if_pos hcond,Al hz,Ax,Int.toNat_natCast,Nat.add_assoc]
  ·cases h
 ·cases h
theorem Arj {t:Nat} {x i y:W} (h:indexW P t x i=some y) (hx:x.lt m.nx):(Instr.index t (realW σ x) (realW σ i)).run P w = .ok (realW σ y) w∧y.lt m.nx:=by
 unfold indexW at h
 split at h
 ·rename_i cs i' n e hi hu
  split at h
  ·rename_i z hz
   rw [cond_eq_ite] at h
   split at h
   ·rename_i hc
    have hlt:i'<n:=Nat.le_of_ble_eq_true hc
    obtain ⟨k,hk⟩:=Ym (σ:=σ) (P:=P) (w:=w) hi
    obtain ⟨h1,h2⟩:=Qr (w:=w) (σ:=σ) h hx
    refine ⟨?_,h2⟩
    have hcond:(0:Int)≤(i':Int)∧(i':Int)<(n:Int):=by omega
    simp only [Instr.index,Sem.run_bind,hk,Result.andThen_ok,run_underlying hu]
    simp only [realW,realV,if_pos hcond,Sem.run_bind,Al hz,Result.andThen_ok,Int.toNat_natCast]
    exact h1
   ·cases h
  ·cases h
 ·rename_i s i' hi hu
  split at h
  ·rename_i b hb
   cases h
   obtain ⟨k,hk⟩:=Ym (σ:=σ) (P:=P) (w:=w) hi
   refine ⟨?_,trivial⟩
   have hcond:(0:Int)≤(i':Int):=by omega
   simp only [Instr.index,Sem.run_bind,hk,Result.andThen_ok,run_underlying hu]
   simp [realW,realV,realC,hb,one]
  ·cases h
 ·cases h
theorem Hs {x y:W} {i:Nat} (h:extractW x i=some y) (hx:x.lt m.nx):(Instr.extract (realW σ x) i).run P w = .ok (realW σ y) w∧y.lt m.nx:=by
 unfold extractW at h
 split at h
 ·rename_i l
  split at h
  ·rename_i v hv
   cases h
   refine ⟨?_,hx v (List.mem_of_getElem? hv)⟩
   have:(l.map (realV σ)).toArray[i]?=some (realV σ v):=by simp [hv]
   simp only [realW,Instr.extract,this]
   rfl
  ·cases h
 ·cases h
end
end Go.Vc

namespace Go.Vc
variable [Holes]
section
variable {P:Program} {K:Nat→Option (List Value)} {σ τ:Env} {m m1:Mem} {w w1:World}
theorem Lu (h:Rel K σ m w) {i:Nat} (hp:plainFn m i=true):∃ f a b,realC σ (.clo i) = .func f a b∧(∀ n,f≠.method n):=by
 unfold plainFn at hp
 split at hp
 ·rename_i f first caps hr
  obtain ⟨h1,_⟩:=h.row i _ hr
  exact ⟨.func f,(first.map (realW σ)).toArray,(caps.map (realW σ)).toArray,by simp only [realC,h1],fun n hn=>by cases hn⟩
 ·rename_i hr
  obtain ⟨fn,tmps,df,h1,_⟩:=h.row i _ hr
  exact ⟨.yield (σ.b i),#[],#[],by simp only [realC,h1],fun n hn=>by cases hn⟩
 ·cases hp
def EqAt (P:Program) (w:World) (t:Nat) (a c:Value) (b:Bool):Prop :=
 ∀ op,(op = .eql∨op = .neq)→∀ ox oy,(do eqGuard op t ox oy a c;binOp op t a c:Sem Value).run P w = .ok (.bool (if op = .eql then b else !b)) w
theorem Em {t:Nat} {a c:Value} {b:Bool} (h1:∀ d,(Op.equalIn (d+1) t a c).run P w = .ok b w) (h2:∀ ox oy op,eqGuard op t ox oy a c=pure ())
  (h3:binOp .eql t a c=(do pure (.bool (←Op.equal t a c)))) (h4:binOp .neq t a c=(do pure (.bool (!(←Op.equal t a c))))):EqAt P w t a c b:=by
 have h1':(Op.equal t a c).run P w = .ok b w:=h1 9999
 intro op hop ox oy
 rw [Sem.run_bind,h2,Sem.run_pure,Result.andThen_ok]
 rcases hop with rfl | rfl
 ·rw [h3,Sem.run_bind,h1',Result.andThen_ok,Sem.run_pure];rfl
 ·rw [h4,Sem.run_bind,h1',Result.andThen_ok,Sem.run_pure];rfl
theorem Ax9 (h:Rel K σ m w) {t:Nat} {x y:C} {b:Bool} (he:eqW P m t x y=some b):EqAt P w t (realC σ x) (realC σ y) b:=by
 have hsl:∀ r o n z c,∃ a q,realC σ (.sl r o n z c) = .slice (some a) n q:=fun r o n z c=>by cases c <;> exact ⟨_,_,rfl⟩
 have hem:∀ r p o z,∃ a q,realC σ (.em r p o z) = .slice (some a) 0 q:=fun r p o z=>⟨_,_,rfl⟩
 unfold eqW at he
 split at he
 ·rename_i e r o r' o' hu
  split at he
  ·rename_i n hn
   rw [cond_eq_ite] at he
   split at he
   ·rename_i hr
    have hr:=Nat.eq_of_beq_eq_true hr
    subst hr
    cases he
    refine Em (fun d=>?_) (fun ox oy op=>by cases op <;> rfl) rfl rfl
    have hne:¬n+1=0:=by omega
    simp only [realC,Op.equalIn,Sem.run_bind,run_underlying hu,Result.andThen_ok,Al hn,ne_eq,hne,not_false_eq_true,if_true,sameAddr,BEq.rfl,Sem.run_pure]
    congr 1
    rw [Bool.eq_iff_iff]
    simp
   ·cases he
  ·cases he
 ·rename_i e r o hu
  cases he
  refine Em (fun d=>?_) (fun ox oy op=>by cases op <;> rfl) rfl rfl
  simp only [realC,Op.equalIn,Sem.run_bind,run_underlying hu,Result.andThen_ok,Sem.run_pure]
 ·rename_i e r o hu
  cases he
  refine Em (fun d=>?_) (fun ox oy op=>by cases op <;> rfl) rfl rfl
  simp only [realC,Op.equalIn,Sem.run_bind,run_underlying hu,Result.andThen_ok,Sem.run_pure,Option.isNone_some]
 ·rename_i e r o n z c l q hu
  cases he
  obtain ⟨a,q',hq⟩:=hsl r o n z c
  rw [hq]
  refine Em (fun d=>?_) (fun ox oy op=>by cases op <;> rfl) rfl rfl
  simp only [realC,Op.equalIn,Sem.run_bind,run_underlying hu,Result.andThen_ok,Sem.run_pure]
 ·rename_i e r p o z l q hu
  cases he
  obtain ⟨a,q',hq⟩:=hem r p o z
  rw [hq]
  refine Em (fun d=>?_) (fun ox oy op=>by cases op <;> rfl) rfl rfl
  simp only [realC,Op.equalIn,Sem.run_bind,run_underlying hu,Result.andThen_ok,Sem.run_pure]
 ·rename_i e l q r o n z c hu
  cases he
  obtain ⟨a,q',hq⟩:=hsl r o n z c
  rw [hq]
  refine Em (fun d=>?_) (fun ox oy op=>by cases op <;> rfl) rfl rfl
  simp only [realC,Op.equalIn,Sem.run_bind,run_underlying hu,Result.andThen_ok,Sem.run_pure,Option.isNone_some]
 ·rename_i e l q r p o z hu
  cases he
  obtain ⟨a,q',hq⟩:=hem r p o z
  rw [hq]
  refine Em (fun d=>?_) (fun ox oy op=>by cases op <;> rfl) rfl rfl
  simp only [realC,Op.equalIn,Sem.run_bind,run_underlying hu,Result.andThen_ok,Sem.run_pure,Option.isNone_some]
 ·rename_i i hu
  obtain ⟨hc,rfl⟩:=Aj he
  obtain ⟨f,a,c,hq,_⟩:=Lu h hc
  rw [hq]
  refine Em (fun d=>?_) (fun ox oy op=>by cases op <;> rfl) rfl rfl
  simp only [realC,Op.equalIn,Sem.run_bind,run_underlying hu,Result.andThen_ok,Sem.run_pure]
 ·rename_i i hu
  obtain ⟨hc,rfl⟩:=Aj he
  obtain ⟨f,a,c,hq,_⟩:=Lu h hc
  rw [hq]
  refine Em (fun d=>?_) (fun ox oy op=>by cases op <;> rfl) rfl rfl
  simp only [realC,Op.equalIn,Sem.run_bind,run_underlying hu,Result.andThen_ok,Sem.run_pure]
 ·rename_i ms t' i hu
  cases he
  refine Em (fun d=>?_) (fun ox oy op=>by cases op <;> rfl) rfl rfl
  simp only [realC,Op.equalIn,Sem.run_bind,run_underlying hu,Result.andThen_ok,Sem.run_pure]
 ·rename_i ms t' i hu
  cases he
  refine Em (fun d=>?_) (fun ox oy op=>by cases op <;> rfl) rfl rfl
  simp only [realC,Op.equalIn,Sem.run_bind,run_underlying hu,Result.andThen_ok,Sem.run_pure]
 ·cases he
theorem Ao5 (h:Rel K σ m w) {op:BinOp} {t:Nat} {ox oy:Operand} {x y z:W} (hb:binW P m op t ox oy x y=some z) :
  (do eqGuard op t ox oy (realW σ x) (realW σ y);binOp op t (realW σ x) (realW σ y):Sem Value).run P w = .ok (realW σ z) w∧z.lt m.nx:=by
 unfold binW at hb
 split at hb
 ·rename_i u v hu hv
  rw [Fs hu,Fs hv]
  cases hp:pureRun P (do eqGuard op t ox oy u v;binOp op t u v) with
  | none=>rw [hp] at hb;cases hb
  | some r=>rw [hp] at hb;cases hb;exact ⟨by rw [Et];exact Fg w _ _ hp,Nl _ _⟩
 ·split at hb
  ·rename_i a b _
   cases he:eqW P m t a b with
   | none=>rw [he] at hb;cases hb
   | some r=>rw [he] at hb;cases hb;exact ⟨Ax9 h he .eql (.inl rfl) ox oy,trivial⟩
  ·rename_i a b _
   cases he:eqW P m t a b with
   | none=>rw [he] at hb;cases hb
   | some r=>rw [he] at hb;cases hb;exact ⟨Ax9 h he .neq (.inr rfl) ox oy,trivial⟩
  ·cases hb
theorem Av5 (h:Rel K σ m w) {op:BinOp} {t:Nat} {ox oy:Operand} {x y z:W} (hb:bin2 P m op t ox oy x y=some z) :
  (do eqGuard op t ox oy (realW σ x) (realW σ y);binOp op t (realW σ x) (realW σ y):Sem Value).run P w = .ok (realW σ z) w∧z.lt m.nx:=by
 unfold bin2 at hb
 split at hb
 ·rename_i k u k' v
  rw [cond_eq_ite] at hb
  split at hb
  ·rename_i hk
   have hk:k=k':=by simpa using hk
   subst hk
   split at hb
   ·rename_i r hr
    cases hb
    refine ⟨?_,trivial⟩
    show (do eqGuard op t ox oy (.int k u) (.int k v);binOp op t (.int k u) (.int k v):Sem Value).run P w = .ok r w
    cases op <;> simp only [fastBin,Option.some.injEq,reduceCtorEq] at hr <;> subst hr <;>
     simp [eqGuard,binOp,Op.intArith,Op.intCmp]
   ·exact Ao5 h hb
  ·exact Ao5 h hb
 ·exact Ao5 h hb
end
end Go.Vc

namespace Go.Vc
variable [Holes]
section
variable {P:Program} {K:Nat→Option (List Value)} {σ τ:Env} {m m1:Mem} {w w1:World}
theorem Abc (h:Rel K σ m w) {r0 e0 k0:Nat} {cs0:T C} (hr0:m.S.get r0=some (.cells e0 k0 cs0)) (e q:Nat) (cs:T C) (b o k:Nat) (v:Value) (hg:Goes w w1)
  (hk:∀ b,b<w.heap.size→b≠σ.b r0→w1.heap[b]?=w.heap[b]?) (hb:b=w.heap.size∨b=σ.b r0)
  (hr:RowOk (σ.set m.nx b o k v) (m.nx+1) w1 m.nx (.cells e q cs)) :
  Step K σ m w (σ.set m.nx b o k v) ⟨(m.S.set r0 .dead).set m.nx (.cells e q cs),m.nx+1,lower r0 m.lo⟩ w1:=by
 have hag:=Env.agree_set σ m.nx b o k v
 have hlt0:=h.lt _ _ hr0
 have hb0:=(h.row _ _ hr0).blk_lt (r := .cells e0 k0 cs0) rfl
 obtain ⟨hlo1,hlo2⟩:=Ea r0 m.lo
 let S':=(m.S.set r0 .dead).set m.nx (.cells e q cs)
 have hget:∀ i,S'.get i=if i=m.nx then some (.cells e q cs) else if i=r0 then some .dead else m.S.get i:=fun i=>by
  show ((m.S.set r0 .dead).set m.nx (.cells e q cs)).get i=_
  rw [T.get_set,T.get_set]
 have hold:∀ i s,S'.get i=some s→i≠m.nx→s.blk=true→i≠r0∧m.S.get i=some s:=fun i s hs hi hsb=>by
  rw [hget,if_neg hi] at hs
  by_cases h0:i=r0
  ·rw [if_pos h0] at hs;cases hs;cases hsb
  ·rw [if_neg h0] at hs;exact ⟨h0,hs⟩
 have hne:∀ i s,m.S.get i=some s→s.blk=true→i≠r0→σ.b i≠σ.b r0:=fun i s hs hsb hi he=>hi (h.inj i r0 s _ hs hr0 hsb rfl he)
 have hnewb:∀ i s,m.S.get i=some s→s.blk=true→i≠r0→σ.b i≠b:=fun i s hs hsb hi he=>by
  rcases hb with hb | hb
  ·have:=(h.row i s hs).blk_lt hsb;omega
  ·exact hne i s hs hsb hi (he.trans hb)
 refine ⟨Nat.le_succ _,hag,⟨fun i s hs=>?_,fun i s hs=>?_,fun i j s s' hs hs' hsb hsb' he=>?_,fun g l hg'=>?_,fun i s hs hsb=>?_,fun g l hg'=>Nat.lt_of_lt_of_le (h.low g l hg') hg.size,fun i hi=>h.fresh i (Nat.le_of_succ_le hi)⟩,hg,fun b' hb' hfr=>?_,fun i s hi hs hsb=>?_,fun i s hi hs hsb=>?_,hlo1,fun i s hs hsl=>?_⟩
 ·by_cases hi:i=m.nx
  ·subst hi;rw [hget,if_pos rfl] at hs;cases hs;exact hr
  ·rw [hget,if_neg hi] at hs
   by_cases h0:i=r0
   ·rw [if_pos h0] at hs;cases hs;trivial
   ·rw [if_neg h0] at hs
    exact (h.row i s hs).keep hag (h.lt i s hs) (Nat.le_succ _) (fun hsb=>hk _ ((h.row i s hs).blk_lt hsb) (hne i s hs hsb h0))
 ·by_cases hi:i=m.nx
  ·subst hi;exact h.ltnx
  ·rw [hget,if_neg hi] at hs
   by_cases h0:i=r0
   ·subst h0;exact hlt0.mono (Nat.le_succ _)
   ·rw [if_neg h0] at hs;exact (h.lt i s hs).mono (Nat.le_succ _)
 ·by_cases hi:i=m.nx
  ·by_cases hj:j=m.nx
   ·rw [hi,hj]
   ·exfalso
    obtain ⟨h0,h1⟩:=hold j s' hs' hj hsb'
    rw [hi,Env.set_b,hag.b j (h.lt j s' h1)] at he
    exact hnewb j s' h1 hsb' h0 he.symm
  ·by_cases hj:j=m.nx
   ·exfalso
    obtain ⟨h0,h1⟩:=hold i s hs hi hsb
    rw [hj,Env.set_b,hag.b i (h.lt i s h1)] at he
    exact hnewb i s h1 hsb h0 he
   ·obtain ⟨_,h1⟩:=hold i s hs hi hsb
    obtain ⟨_,h2⟩:=hold j s' hs' hj hsb'
    rw [hag.b i (h.lt i s h1),hag.b j (h.lt j s' h2)] at he
    exact h.inj i j s s' h1 h2 hsb hsb' he
 ·exact Co h (fun g l hg2=>hk g (h.low g l hg2) (fun he=>by have:=h.apart r0 _ hr0 rfl;rw [←he,hg2] at this;cases this)) g l hg'
 ·by_cases hi:i=m.nx
  ·rw [hi,Env.set_b]
   rcases hb with hb | hb
   ·rw [hb]
    cases hK:K w.heap.size with
    | none=>rfl
    | some l=>have:=h.low _ _ hK;omega
   ·rw [hb];exact h.apart r0 _ hr0 rfl
  ·obtain ⟨_,h1⟩:=hold i s hs hi hsb
   rw [hag.b i (h.lt i s h1)]
   exact h.apart i s h1 hsb
 ·refine hk b' hb' fun he=>?_
  have:r0<lower r0 m.lo:=hfr r0 _ hr0 rfl he.symm
  omega
 ·obtain ⟨_,h1⟩:=hold i s hs (by omega) hsb
  exact ⟨s,h1,hsb⟩
 ·by_cases hi':i=m.nx
  ·rw [hi',Env.set_b]
   rcases hb with hb | hb
   ·exact .inl (by omega)
   ·exact .inr ⟨r0,_,hr0,rfl,hb.symm,hlo2⟩
  ·obtain ⟨_,h1⟩:=hold i s hs hi' hsb
   exact absurd (h.lt i s h1).lt (by omega)
 ·have h1:=(h.lt i s hs).lt
  have h2:i≠r0:=fun e=>by rw [e,hr0] at hs;cases hs;cases hsl
  exact ⟨s,by show S'.get i=_;rw [hget,if_neg (by omega),if_neg h2];exact hs,hsl⟩
end
end Go.Vc
