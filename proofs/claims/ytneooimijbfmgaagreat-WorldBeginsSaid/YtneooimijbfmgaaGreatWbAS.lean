
import Derived.Test.YtneooimijbfmgaaGreatWbAR
set_option linter.unusedVariables false
set_option linter.unusedSimpArgs false
set_option linter.unusedSectionVars false
noncomputable section
namespace Go.Vc
open Classical
def ahd (l:LL) (key low high:Int):Prop:=(∀ i:Nat,(i:Int)<low→nth l i 0<key)∧∀ i:Nat,high≤(i:Int)→i<l.length→key≤nth l i 0
theorem ahd.zero (l:LL) (key:Int):ahd l key 0 (l.length:Int):=⟨fun i h=>by omega,fun i h h2=>by omega⟩
def p_frz (l:LL) (e:Int) (p:List D):Prop:=e_past l=0∧0≤e∧e≤65535∧p_part p∧(∀ i:Nat,i<l.length→nth l i 0<e)∧l.length<1024
def o_frz (l:LL) (e:Int) (p:List D) (r:LL) (x:Int):Prop:=(x=0→p_frz l e p∧r=l++[dn e::p])∧(p_frz l e p→x=0)
theorem o_frz.no {l r:LL} {e x:Int} {p:List D} (h:x≠0) (h':¬p_frz l e p):o_frz l e p r x:=⟨fun e=>absurd e h,fun e=>absurd e h'⟩
theorem o_frz.yes {l:LL} {e:Int} {p:List D} (h:p_frz l e p):o_frz l e p (l++[dn e::p]) 0:=⟨fun _=>⟨h,rfl⟩,fun _=>rfl⟩
def o_pl (l:LL) (e i x:Int):Prop:=(x=0→e_past l=0∧0≤e∧e≤65535∧0≤i∧i≤(l.length:Int)∧ahd l e i i)∧(x≠0→¬(e_past l=0∧0≤e∧e≤65535))
theorem o_pl.no {l:LL} {e i x:Int} (h:x≠0) (h':¬(e_past l=0∧0≤e∧e≤65535)):o_pl l e i x:=⟨fun e=>absurd e h,fun _=>h'⟩
theorem o_pl.yes {l:LL} {e i j:Int} (h1:e_past l=0) (h2:0≤e) (h3:e≤65535) (h4:0≤i) (h5:j≤(l.length:Int)) (h6:ahd l e i j) (h7:¬i<j) (h8:i≤j):o_pl l e i 0:=⟨fun _=>⟨h1,h2,h3,h4,by omega,(show i=j by omega)▸(show j=j from rfl)▸(by have e:i=j:=(by omega);subst e;exact h6)⟩,fun h=>absurd rfl h⟩
theorem o_pl.get {l:LL} {e i x:Int} (h:o_pl l e i x) (h0:¬x≠0):e_past l=0∧0≤e∧e≤65535∧0≤i∧i≤(l.length:Int)∧ahd l e i i:=h.1 (Decidable.not_not.1 h0)
theorem ahd.at {l:LL} {e i:Int} (h:ahd l e i i) (h0:0≤i) (h1:i<(l.length:Int)):e≤nth l i.toNat 0:=h.2 i.toNat (by omega) (by omega)
theorem ahd.all {l:LL} {e i:Int} (h:ahd l e i i) (h1:¬i<(l.length:Int)):∀ j:Nat,j<l.length→nth l j 0<e:=fun j hj=>h.1 j (by omega)
attribute [irreducible] ahd o_frz o_pl
end Go.Vc

namespace Go.Vc
open Classical
def ltT (c d:List D):Prop:=ahead (gI c 0) (gI c 1) (gI d 0) (gI d 1)
def elT (l:LL) (k:Nat):List D:=(l[k]?).getD []
def leT (l:LL) (i j:Nat):Prop:=¬ltT (elT l j) (elT l i)
theorem ltT.irr (c:List D):¬ltT c c:=fun h=>by unfold ltT ahead at h;omega
theorem ltT.trans {a b c:List D} (h:ltT a b) (h2:ltT b c):ltT a c:=by unfold ltT ahead at *;omega
theorem nltT.trans {a b c:List D} (h:¬ltT b a) (h2:¬ltT c b):¬ltT c a:=by unfold ltT ahead at *;omega
theorem ltT.asym {a b:List D} (h:ltT a b):¬ltT b a:=by unfold ltT ahead at *;omega
theorem leT.refl (l:LL) (i:Nat):leT l i i:=ltT.irr _
theorem leT.trans {l:LL} {i j k:Nat} (h:leT l i j) (h2:leT l j k):leT l i k:=nltT.trans h h2
def hpA (l:LL) (n:Nat):Prop:=∀ k,0<k→k<n→leT l ((k-1) / 2) k
def hpT (l:LL) (n i:Nat):Prop:=∀ k,0<k→k<n→((k-1) / 2≠i→leT l ((k-1) / 2) k)∧((k-1) / 2=i→0<i→leT l ((i-1) / 2) k)
theorem hpA.root {l:LL} {n:Nat} (h:hpA l n):∀ k,k<n→leT l 0 k:=by
 intro k
 induction k using Nat.strongRecOn with
 | _ k ih =>
  intro hk
  by_cases h0:k=0
  ·subst h0;exact leT.refl l 0
  ·exact (ih ((k-1) / 2) (by omega) (by omega)).trans (h k (by omega) hk)
theorem elT_at {l:LL} {k:Nat} {c:List D} (h:l[k]?=some c):elT l k=c:=by unfold elT;rw [h];rfl
theorem elT_set {l:LL} {i k:Nat} {c:List D} (hi:i<l.length):elT (l.set i c) k=if k=i then c else elT l k:=by
 unfold elT
 rw [List.getElem?_set]
 by_cases e:i=k
 ·subst e;simp [hi]
 ·rw [if_neg e,if_neg (Ne.symm e)]
theorem elT_swap {l:LL} {i j k:Nat} {c d:List D} (hi:l[i]?=some d) (hj:l[j]?=some c):elT ((l.set i c).set j d) k=if k=j then elT l i else if k=i then elT l j else elT l k:=by
 have hil:=(List.getElem?_eq_some_iff.1 hi).1
 have hjl:=(List.getElem?_eq_some_iff.1 hj).1
 rw [elT_set (by rw [List.length_set];exact hjl),elT_set hil,elT_at hi,elT_at hj]
theorem hpT.step {l:LL} {n i j:Nat} {c d:List D} (h:hpT l n i) (hi:l[i]?=some d) (hj:l[j]?=some c) (hjn:j<n) (hp:(j-1) / 2=i) (h0:0<j) (hlt:ltT c d) (hmin:∀ k,0<k→k<n→(k-1) / 2=i→leT l j k):hpT ((l.set i c).set j d) n j:=by
 intro k hk hkn
 have hil:=(List.getElem?_eq_some_iff.1 hi).1
 have ei:=elT_at hi
 have ej:=elT_at hj
 unfold leT at *
 simp only [elT_swap hi hj]
 refine ⟨fun hne=>?_,fun he h0j=>?_⟩
 ·have:=h k hk hkn
  unfold leT at this
  rw [if_neg hne]
  by_cases e1:(k-1) / 2=i
  ·rw [if_pos e1]
   by_cases e2:k=j
   ·rw [if_pos e2,ei,ej];exact ltT.asym hlt
   ·rw [if_neg e2,if_neg (show k≠i by omega)];exact hmin k hk hkn e1
  ·rw [if_neg e1]
   by_cases e2:k=j
   ·exfalso;subst e2;exact e1 hp
   ·rw [if_neg e2]
    by_cases e3:k=i
    ·rw [if_pos e3]
     have:=(h j h0 hjn).2 hp (by omega)
     unfold leT at this
     rw [e3];exact this
    ·rw [if_neg e3];exact this.1 e1
 ·have h1:¬(j-1) / 2=j:=by omega
  rw [if_neg h1,if_pos hp]
  have h2:k≠j:=by omega
  have h3:k≠i:=by omega
  rw [if_neg h2,if_neg h3]
  have:=(h k hk hkn).1 (by omega)
  unfold leT at this
  rw [he] at this
  exact this
theorem hpA.top {l:LL} {n:Nat} {c d:List D} (h:hpA l (n+1)) (hn:l[n]?=some c) (h0:l[0]?=some d):hpT ((l.set 0 c).set n d) n 0:=by
 intro k hk hkn
 refine ⟨fun hne=>?_,fun _ h=>absurd h (by omega)⟩
 unfold leT
 rw [elT_swap h0 hn,elT_swap h0 hn,if_neg (by omega),if_neg (by omega),if_neg (by omega),if_neg (by omega)]
 exact h k hk (by omega)
def risT (l:LL):Prop:=l.Pairwise ltT
theorem ris_timer {l:LL} (h:e_timer l=0):risT l:=by
 unfold e_timer at h
 split at h
 ·cases h
 ·split at h
  ·rename_i hu
   refine List.pairwise_iff_getElem.2 fun i j hi hj hij=>?_
   have key:∀ j,i<j→j<l.length→ltT (elT l i) (elT l j):=by
    intro j
    induction j with
    | zero=>intro h;omega
    | succ j ih =>
     intro hij hj
     have h1:=(hu (j+1) (by omega)).2 (by omega)
     have h2:ltT (elT l j) (elT l (j+1)):=h1
     by_cases e:i=j
     ·subst e;exact h2
     ·exact (ih (by omega) (by omega)).trans h2
   have:=key j hij hj
   unfold elT at this
   rw [List.getElem?_eq_getElem hi,List.getElem?_eq_getElem hj] at this
   exact this
  ·cases h
theorem hpA_of_ris {l:LL} (h:risT l):hpA l l.length:=fun k h0 hk=>by
 have:=List.pairwise_iff_getElem.1 h ((k-1) / 2) k (by omega) hk (by omega)
 unfold leT elT
 rw [List.getElem?_eq_getElem (show (k-1) / 2<l.length by omega),List.getElem?_eq_getElem hk]
 exact ltT.asym this
def dueT (l:LL) (now:Int):LL:=l.filter fun c=>decide (gI c 0≤now)
def leftT (l:LL) (now:Int):LL:=l.filter fun c=>decide (now<gI c 0)
def tmF (l0:LL) (now:Int) (a b p:LL):Prop:=(a++(b++p)).Perm l0∧(∀ c∈a,gI c 0≤now)∧(∀ c∈b,now<gI c 0)∧hpA p p.length∧(a.Pairwise fun c d=>¬ltT d c)∧(b.Pairwise fun c d=>¬ltT d c)∧∀ d∈p,(∀ c∈a,¬ltT d c)∧∀ c∈b,¬ltT d c
theorem tmF.zero {l0:LL} {now:Int} (h:e_timer l0=0):tmF l0 now [] [] l0:=⟨List.Perm.refl _,fun c hc=>(by cases hc),fun c hc=>(by cases hc),hpA_of_ris (ris_timer h), .nil, .nil,fun d _=>⟨fun c hc=>(by cases hc),fun c hc=>(by cases hc)⟩⟩
def poT (p q:LL) (n:Nat):Prop:=q.Perm p∧n+1=p.length∧hpA q n∧∀ d∈p,¬ltT d (elT q n)
def poW (p q:LL) (n:Nat) (i:Nat):Prop:=q.Perm p∧n+1=p.length∧hpT q n i∧∀ d∈p,¬ltT d (elT q n)
theorem hpA.least {p:LL} (h:hpA p p.length) {c:List D} (h0:p[0]?=some c):∀ d∈p,¬ltT d c:=by
 intro d hd
 obtain ⟨k,hk,e⟩:=List.getElem_of_mem hd
 have:=h.root k hk
 unfold leT at this
 rw [elT_at h0,elT_at (show p[k]?=some d by rw [List.getElem?_eq_getElem hk,e])] at this
 exact this
theorem poW.zero {p:LL} {n:Nat} {c d:List D} (h:hpA p p.length) (hn:n+1=p.length) (hc:p[n]?=some c) (hd:p[0]?=some d):poW p ((p.set 0 c).set n d) n 0:=by
 have hc':=List.getElem?_eq_some_iff.1 hc
 have hd':=List.getElem?_eq_some_iff.1 hd
 refine ⟨?_,hn,(show hpA p (n+1) by rw [hn];exact h).top hc hd,?_⟩
 ·have:=List.set_set_perm hd'.1 hc'.1
  rw [hd'.2,hc'.2] at this
  exact this
 ·rw [elT_swap hd hc,if_pos rfl,elT_at hd]
  exact h.least hd
theorem poW.step {p q:LL} {n i j:Nat} {c d:List D} (h:poW p q n i) (hi:q[i]?=some d) (hj:q[j]?=some c) (hjn:j<n) (hp:(j-1) / 2=i) (h0:0<j) (hlt:ltT c d) (hmin:∀ k,0<k→k<n→(k-1) / 2=i→leT q j k):poW p ((q.set i c).set j d) n j:=by
 have hi':=List.getElem?_eq_some_iff.1 hi
 have hj':=List.getElem?_eq_some_iff.1 hj
 refine ⟨?_,h.2.1,h.2.2.1.step hi hj hjn hp h0 hlt hmin,?_⟩
 ·have:=List.set_set_perm hi'.1 hj'.1
  rw [hi'.2,hj'.2] at this
  exact this.trans h.1
 ·rw [elT_swap hi hj,if_neg (by omega),if_neg (by omega)]
  exact h.2.2.2
theorem poT.len {p q:LL} {n:Nat} (h:poT p q n):q.length=p.length:=h.1.length_eq
theorem poW.len {p q:LL} {n i:Nat} (h:poW p q n i):q.length=p.length:=h.1.length_eq
theorem poT.split {p q:LL} {n:Nat} {c:List D} (h:poT p q n) (hk:q[n]?=some c):q=q.take n++[c]∧hpA (q.take n) (q.take n).length∧(q.take n++[c]).Perm p∧∀ d∈p,¬ltT d c:=by
 have hl:=h.len
 have e:=last_take hk (by rw [hl];exact h.2.1)
 refine ⟨e,fun k h0 hk'=>?_,by rw [←e];exact h.1,by have:=h.2.2.2;rw [elT_at hk] at this;exact this⟩
 rw [List.length_take] at hk'
 have:=h.2.2.1 k h0 (by omega)
 unfold leT elT at *
 rw [List.getElem?_take_of_lt (by omega),List.getElem?_take_of_lt (by omega)]
 exact this
theorem tmF.left {l0 a b p q:LL} {now:Int} {n:Nat} {x y:Int} (h:tmF l0 now a b p) (hq:poT p q n) (hk:q[n]?=some [dn x,dn y]) (hx:¬x≤now):tmF l0 now a (b++[[dn x,dn y]]) (q.take n):=by
 obtain ⟨h1,h2,h3,h4,h5,h6,h7⟩:=h
 obtain ⟨e,g1,g2,g3⟩:=hq.split hk
 have hm:[dn x,dn y]∈p:=(g2.mem_iff).1 (List.mem_append_right _ (List.mem_singleton.2 rfl))
 have hs:∀ d∈q.take n,d∈p:=fun d hd=>(g2.mem_iff).1 (List.mem_append_left _ hd)
 refine ⟨?_,h2,fun c hc=>?_,g1,h5,?_,fun d hd=>⟨(h7 d (hs d hd)).1,fun c hc=>?_⟩⟩
 ·refine List.Perm.trans ?_ h1
  have e2:([[dn x,dn y]]++q.take n).Perm p:=List.perm_append_comm.trans g2
  rw [List.append_assoc]
  exact (e2.append_left b).append_left a
 ·rcases List.mem_append.1 hc with hc | hc
  ·exact h3 c hc
  ·rw [List.mem_singleton] at hc;subst hc;exact Int.lt_of_not_ge hx
 ·refine List.pairwise_append.2 ⟨h6,List.pairwise_singleton _ _,fun c hc d hd=>?_⟩
  rw [List.mem_singleton] at hd;subst hd
  exact (h7 _ hm).2 c hc
 ·rcases List.mem_append.1 hc with hc | hc
  ·exact (h7 d (hs d hd)).2 c hc
  ·rw [List.mem_singleton] at hc;subst hc;exact g3 d (hs d hd)
theorem pair_of {c:List D} (h:DShs pairS c):∃ x y,c=[dn x,dn y]:=by
 obtain ⟨h1,h2⟩:=h
 match c,h1 with
 | [u,v],_ =>
  have a:=h2 0 s64 u rfl rfl
  have b:=h2 1 s64 v rfl rfl
  cases a;cases b
  exact ⟨_,_,rfl⟩
theorem ltT.eq {c d:List D} (hc:DShs pairS c) (hd:DShs pairS d) (h1:¬ltT c d) (h2:¬ltT d c):c=d:=by
 obtain ⟨x,y,rfl⟩:=pair_of hc
 obtain ⟨u,v,rfl⟩:=pair_of hd
 have e:x=u∧y=v:=by
  unfold ltT ahead at h1 h2
  change ¬(x<u∨x=u∧y<v) at h1
  change ¬(u<x∨u=x∧v<y) at h2
  omega
 rw [e.1,e.2]
theorem ris_perm {l r:LL} (hs:∀ c∈l,DShs pairS c) (hp:r.Perm l) (hr:r.Pairwise fun c d=>¬ltT d c) (hl:risT l):r=l:=by
 refine List.Perm.eq_of_pairwise (le:=fun c d=>¬ltT d c) (fun c d hc hd h1 h2=>?_) hr (List.Pairwise.imp (fun h=>ltT.asym h) hl) hp
 exact ltT.eq (hs c (hp.mem_iff.1 hc)) (hs d hd) h2 h1
theorem tmF.fin {l0 a b p:LL} {now:Int} (h:tmF l0 now a b p) (h0:e_timer l0=0) (hs:LS pairS l0) (hp:¬(p.length:Int)>0):a=dueT l0 now∧b=leftT l0 now:=by
 have:p=[]:=List.length_eq_zero_iff.1 (by omega)
 subst this
 obtain ⟨h1,h2,h3,_,h5,h6,_⟩:=h
 rw [List.append_nil] at h1
 have hr:=ris_timer h0
 have ea:(a++b).filter (fun c=>decide (gI c 0≤now))=a:=by
  rw [List.filter_append,List.filter_eq_self.2 (fun c hc=>decide_eq_true (h2 c hc)),List.filter_eq_nil_iff.2 (fun c hc=>by have:=h3 c hc;simp;omega),List.append_nil]
 have eb:(a++b).filter (fun c=>decide (now<gI c 0))=b:=by
  rw [List.filter_append,List.filter_eq_self.2 (fun c hc=>decide_eq_true (h3 c hc)),List.filter_eq_nil_iff.2 (fun c hc=>by have:=h2 c hc;simp;omega),List.nil_append]
 refine ⟨ris_perm (fun c hc=>hs.els c (List.mem_filter.1 hc).1) ?_ h5 (List.Pairwise.filter _ hr),ris_perm (fun c hc=>hs.els c (List.mem_filter.1 hc).1) ?_ h6 (List.Pairwise.filter _ hr)⟩
 ·have:=h1.filter (fun c=>decide (gI c 0≤now));rw [ea] at this;exact this
 ·have:=h1.filter (fun c=>decide (now<gI c 0));rw [eb] at this;exact this
end Go.Vc

namespace Go.Vc
open Classical
def befD (c d:List D):Prop:=gI d 1<gI c 1∨gI c 1=gI d 1∧gI c 0<gI d 0
theorem befD.irr (c:List D):¬befD c c:=fun h=>by unfold befD at h;omega
theorem nbefD.trans {a b c:List D} (h:¬befD b a) (h2:¬befD c b):¬befD c a:=by unfold befD at *;omega
theorem befD.trans {a b c:List D} (h:befD a b) (h2:befD b c):befD a c:=by unfold befD at *;omega
theorem befD.asym {a b:List D} (h:befD a b):¬befD b a:=by unfold befD at *;omega
theorem befD.eq {c d:List D} (hc:DShs pairS c) (hd:DShs pairS d) (h1:¬befD c d) (h2:¬befD d c):c=d:=by
 obtain ⟨x,y,rfl⟩:=pair_of hc
 obtain ⟨u,v,rfl⟩:=pair_of hd
 have e:x=u∧y=v:=by
  unfold befD at h1 h2
  change ¬(v<y∨y=v∧x<u) at h1
  change ¬(y<v∨v=y∧u<x) at h2
  omega
 rw [e.1,e.2]
theorem cmpD {a b c d x:Int} (h:x=if cmpI d b≠0 then cmpI d b else cmpI a c):(x<0↔befD [dn a,dn b] [dn c,dn d]):=by
 unfold befD
 show x<0↔(d<b∨b=d∧a<c)
 subst h
 unfold cmpI
 by_cases h1:d<b
 ·simp [h1]
 ·by_cases h2:b<d
  ·have:¬d=b:=by omega
   simp [h1,h2];omega
  ·have:b=d:=by omega
   subst this
   simp
   by_cases h3:a<c
   ·simp [h3]
   ·simp [h3];split <;> omega
def insI (l0 q:LL) (i:Int):Prop:=q.Perm l0∧∀ a b:Nat,a<b→(b:Int)<i→b<q.length→¬befD (elT q b) (elT q a)
def insJ (l0 q:LL) (i j:Int):Prop:=q.Perm l0∧∀ a b:Nat,a<b→(b:Int)≤i→b<q.length→(b:Int)≠j→¬befD (elT q b) (elT q a)
theorem insI.zero (l:LL):insI l l 1:=⟨List.Perm.refl l,fun a b h h2=>by omega⟩
theorem insI.into {l0 q:LL} {i:Int} (h:insI l0 q i):insJ l0 q i i:=⟨h.1,fun a b h1 h2 h3 h4=>h.2 a b h1 (by omega) h3⟩
theorem insI.len {l0 q:LL} {i:Int} (h:insI l0 q i):q.length=l0.length:=h.1.length_eq
theorem insJ.len {l0 q:LL} {i j:Int} (h:insJ l0 q i j):q.length=l0.length:=h.1.length_eq
theorem insI.ls {l0 q:LL} {i:Int} (h:insI l0 q i) (hs:LS pairS l0):LS pairS q := .mk (by rw [h.len];exact hs.len) fun c hc=>hs.els c (h.1.mem_iff.1 hc)
theorem insJ.ls {l0 q:LL} {i j:Int} (h:insJ l0 q i j) (hs:LS pairS l0):LS pairS q := .mk (by rw [h.len];exact hs.len) fun c hc=>hs.els c (h.1.mem_iff.1 hc)
theorem insJ.out0 {l0 q:LL} {i j:Int} (h:insJ l0 q i j) (hj:j≤0):insI l0 q (i+1):=⟨h.1,fun a b h1 h2 h3=>h.2 a b h1 (by omega) h3 (by omega)⟩
theorem insJ.out {l0 q:LL} {i j:Int} {c d:List D} (h:insJ l0 q i j) (hj:0<j) (hc:q[j.toNat]?=some c) (hd:q[(j-1).toNat]?=some d) (hn:¬befD c d):insI l0 q (i+1):=⟨h.1,fun a b h1 h2 h3=>by
 by_cases hb:(b:Int)=j
 ·have e1:elT q b=c:=by rw [show b=j.toNat by omega];exact elT_at hc
  have e2:elT q (j-1).toNat=d:=elT_at hd
  by_cases ha:a=(j-1).toNat
  ·rw [e1,ha,e2];exact hn
  ·have:=h.2 a (j-1).toNat (by omega) (by omega) (by omega) (by omega)
   rw [e2] at this
   rw [e1]
   exact nbefD.trans this hn
 ·exact h.2 a b h1 (by omega) h3 hb⟩
theorem insJ.step {l0 q:LL} {i j:Int} {c d:List D} (h:insJ l0 q i j) (hj:0<j) (hij:j≤i) (hc:q[j.toNat]?=some c) (hd:q[(j-1).toNat]?=some d) (hn:befD c d):insJ l0 ((q.set j.toNat d).set (j-1).toNat c) i (j-1):=by
 have hc':=List.getElem?_eq_some_iff.1 hc
 have hd':=List.getElem?_eq_some_iff.1 hd
 refine ⟨?_,fun a b h1 h2 h3 h4=>?_⟩
 ·have:=List.set_set_perm hc'.1 hd'.1
  rw [hc'.2,hd'.2] at this
  exact this.trans h.1
 ·rw [List.length_set,List.length_set] at h3
  rw [elT_swap hc hd,elT_swap hc hd,if_neg (show ¬b=(j-1).toNat by omega),elT_at hc,elT_at hd]
  by_cases e1:b=j.toNat
  ·rw [if_pos e1]
   by_cases e2:a=(j-1).toNat
   ·rw [if_pos e2];exact befD.asym hn
   ·rw [if_neg e2,if_neg (by omega)]
    have:=h.2 a (j-1).toNat (by omega) (by omega) (by omega) (by omega)
    rw [elT_at hd] at this
    exact this
  ·rw [if_neg e1]
   by_cases e2:a=(j-1).toNat
   ·rw [if_pos e2]
    have:=h.2 j.toNat b (by omega) h2 h3 (by omega)
    rw [elT_at hc] at this
    exact this
   ·rw [if_neg e2]
    by_cases e3:a=j.toNat
    ·rw [if_pos e3]
     have:=h.2 (j-1).toNat b (by omega) h2 h3 (by omega)
     rw [elT_at hd] at this
     exact this
    ·rw [if_neg e3]
     exact h.2 a b h1 h2 h3 (by omega)
def srtD (l:LL):LL:=l.mergeSort fun c d=>decide (¬befD d c)
theorem srtD.perm (l:LL):(srtD l).Perm l:=List.mergeSort_perm l _
theorem srtD.pw (l:LL):(srtD l).Pairwise fun c d=>¬befD d c:=by
 have:=List.pairwise_mergeSort (le:=fun c d=>decide (¬befD d c)) (fun a b c h1 h2=>decide_eq_true (nbefD.trans (of_decide_eq_true h1) (of_decide_eq_true h2))) (fun a b=>by
  by_cases h:befD b a
  ·have:=befD.asym h;simp [this]
  ·simp [h]) l
 exact List.Pairwise.imp (fun h=>of_decide_eq_true h) this
theorem srtD.ls {l:LL} (h:LS pairS l):LS pairS (srtD l) := .mk (by rw [(srtD.perm l).length_eq];exact h.len) fun c hc=>h.els c ((srtD.perm l).mem_iff.1 hc)
theorem srtD.one {l q:LL} (h:LS pairS l) (hp:q.Perm l) (hq:q.Pairwise fun c d=>¬befD d c):q=srtD l:=by
 refine List.Perm.eq_of_pairwise (le:=fun c d=>¬befD d c) (fun c d hc hd h1 h2=>?_) hq (srtD.pw l) (hp.trans (srtD.perm l).symm)
 exact befD.eq (h.els c (hp.mem_iff.1 hc)) (h.els d ((srtD.perm l).mem_iff.1 hd)) h2 h1
theorem pw_of {q:LL} (h:∀ a b:Nat,a<b→b<q.length→¬befD (elT q b) (elT q a)):q.Pairwise fun c d=>¬befD d c :=
 List.pairwise_iff_getElem.2 fun i j hi hj hij=>by
  have:=h i j hij hj
  unfold elT at this
  rw [List.getElem?_eq_getElem hi,List.getElem?_eq_getElem hj] at this
  exact this
theorem insI.fin {l0 q:LL} {i:Int} (h:insI l0 q i) (hs:LS pairS l0) (hi:(l0.length:Int)≤i):q=srtD l0:=srtD.one hs h.1 (pw_of fun a b h1 h2=>h.2 a b h1 (by have:=h.len;omega) h2)
def kpL (P:Nat→Prop) (s:LL):Nat→LL
 | 0=>[]
 | k+1=>if P k then kpL P s k++[elT s k] else kpL P s k
theorem kpL.le (P:Nat→Prop) (s:LL):∀ k,(kpL P s k).length≤k
 | 0=>Nat.le_refl 0
 | k+1=>by
  have:=kpL.le P s k
  unfold kpL
  split
  ·rw [List.length_append];exact Nat.succ_le_succ this
  ·omega
theorem kpL.lt {P:Nat→Prop} {s:LL} {k:Nat} (h:¬P k):(kpL P s (k+1)).length<k+1:=by
 have:=kpL.le P s k
 unfold kpL
 rw [if_neg h];omega
theorem kpL.yes {P:Nat→Prop} {s:LL} {k:Nat} {c:List D} (h:P k) (hc:s[k]?=some c):kpL P s (k+1)=kpL P s k++[c]:=by
 show (if P k then _ else _)=_
 rw [if_pos h,elT_at hc]
theorem kpL.no {P:Nat→Prop} {s:LL} {k:Nat} (h:¬P k):kpL P s (k+1)=kpL P s k:=if_neg h
theorem kpL.all {P:Nat→Prop} {s:LL}:∀ {k:Nat},k≤s.length→(∀ i<k,P i)→kpL P s k=s.take k
 | 0,_,_=>by simp [kpL]
 | k+1,h,hp=>by
  rw [kpL.yes (hp k (by omega)) (List.getElem?_eq_getElem (show k<s.length by omega)),kpL.all (by omega) (fun i hi=>hp i (by omega)),List.take_add_one,List.getElem?_eq_getElem (show k<s.length by omega)]
  rfl
theorem kpL.mem {P:Nat→Prop} {s:LL}:∀ {k:Nat},k≤s.length→∀ c∈kpL P s k,c∈s
 | 0,_,c,hc=>by simp [kpL] at hc
 | k+1,h,c,hc=>by
  by_cases hp:P k
  ·rw [kpL.yes hp (List.getElem?_eq_getElem (show k<s.length by omega))] at hc
   rcases List.mem_append.1 hc with hc | hc
   ·exact kpL.mem (by omega) c hc
   ·rw [List.mem_singleton] at hc;subst hc;exact List.getElem_mem _
  ·rw [kpL.no hp] at hc;exact kpL.mem (by omega) c hc
def delI (P:Nat→Prop) (s q:LL) (i j:Int):Prop:=0≤i∧i<j∧j≤(s.length:Int)∧q.length=s.length∧q.take i.toNat=kpL P s j.toNat∧q.drop j.toNat=s.drop j.toNat∧∀ c∈q,c∈s
theorem delI.zero {P:Nat→Prop} {s:LL} {i j:Int} (h0:0≤i) (h:i<(s.length:Int)) (hp:∀ k:Nat,(k:Int)<i→P k) (hn:¬P i.toNat) (hj:j=i+1):delI P s s i j:=by
 subst hj
 refine ⟨h0,by omega,by omega,rfl,?_,rfl,fun c hc=>hc⟩
 rw [show (i+1).toNat=i.toNat+1 by omega,kpL.no hn,kpL.all (by omega) fun k hk=>hp k (by omega)]
theorem delI.at {P:Nat→Prop} {s q:LL} {i j:Int} (h:delI P s q i j):q[j.toNat]?=s[j.toNat]?:=by
 have:=congrArg (fun l=>l[0]?) h.2.2.2.2.2.1
 simpa using this
theorem delI.len {P:Nat→Prop} {s q:LL} {i j:Int} (h:delI P s q i j):q.length=s.length:=h.2.2.2.1
theorem delI.keep {P:Nat→Prop} {s q:LL} {i j i' j':Int} {c:List D} (h:delI P s q i j) (hj:j<(s.length:Int)) (hc:q[j.toNat]?=some c) (hp:P j.toNat) (hi':i'=i+1) (hj':j'=j+1):delI P s (q.set i.toNat c) i' j':=by
 have hs:s[j.toNat]?=some c:=by rw [←h.at];exact hc
 obtain ⟨h1,h2,h3,h4,h5,h6,h7⟩:=h
 subst hi';subst hj'
 refine ⟨by omega,by omega,by omega,by rw [List.length_set];exact h4,?_,?_,fun d hd=>?_⟩
 ·rw [show (i+1).toNat=i.toNat+1 by omega,show (j+1).toNat=j.toNat+1 by omega,kpL.yes hp hs,List.take_add_one,List.take_set_of_le (Nat.le_refl _),h5,List.getElem?_set_self (by omega)]
  rfl
 ·rw [show (j+1).toNat=j.toNat+1 by omega,List.drop_set_of_lt (by omega)]
  have:=congrArg (fun l=>l.drop 1) h6
  simpa [List.drop_drop] using this
 ·rcases List.mem_or_eq_of_mem_set hd with hd | hd
  ·exact h7 d hd
  ·rw [hd];exact List.mem_of_getElem? hs
theorem delI.skip {P:Nat→Prop} {s q:LL} {i j j':Int} (h:delI P s q i j) (hj:j<(s.length:Int)) (hp:¬P j.toNat) (hj':j'=j+1):delI P s q i j':=by
 obtain ⟨h1,h2,h3,h4,h5,h6,h7⟩:=h
 subst hj'
 refine ⟨h1,by omega,by omega,h4,?_,?_,h7⟩
 ·rw [show (j+1).toNat=j.toNat+1 by omega,kpL.no hp];exact h5
 ·rw [show (j+1).toNat=j.toNat+1 by omega]
  have:=congrArg (fun l=>l.drop 1) h6
  simpa [List.drop_drop] using this
theorem delI.fin {P:Nat→Prop} {s q:LL} {i j:Int} (h:delI P s q i j) (hj:(s.length:Int)≤j):q.take i.toNat=kpL P s s.length:=by
 rw [h.2.2.2.2.1,show j.toNat=s.length by have:=h.2.2.1;omega]
theorem delI.ls {P:Nat→Prop} {s q:LL} {i j:Int} {l:List Sh} (h:delI P s q i j) (hs:LS l s):LS l q:=by
 exact .mk (by rw [h.len];exact hs.len) fun c hc=>hs.els c (h.2.2.2.2.2.2 c hc)
def fstD (s:LL) (k:Nat):Prop:=∀ j<k,nth s j 0≠nth s k 0
def bestL (l:LL):LL:=kpL (fstD (srtD l)) (srtD l) l.length
end Go.Vc

namespace Go.Vc
open Classical
def fltD (own:Int) (l:LL):LL:=kpL (fun k=>nth l k 0≠own) l l.length
def p_cacheB (c:List D):Prop:=0≤gI c 0∧gI c 0≤7∧1≤gI c 1∧gI c 1≤6∧((gL c 2).length:Int)≤gI c 1∧e_desc (fltD (gI c 0) (gL c 2))=0∧bestL (fltD (gI c 0) (gL c 2))=gL c 2
def cacheC (c:List D):List D:=(c.drop 28).take 3
def p_node (c:List D):Prop:=p_nodeW c∧(gB c 2=true→p_cacheB (cacheC c))
def tagsL (e n:Int):LL:=if h:∃ l,LSh [s32] l∧p_tags e n l then Classical.choose h else []
theorem tagsL_eq {e n:Int} {l:LL} (h1:LSh [s32] l) (h:p_tags e n l):l=tagsL e n:=by
 have hx:∃ l,LSh [s32] l∧p_tags e n l:=⟨l,h1,h⟩
 unfold tagsL
 rw [dif_pos hx]
 exact p_tags_one h (Classical.choose_spec hx).2
def begC (v:Int) (f:Bool) (e n:Int):List D:=massOf v f++[db true,dn v,dn v, .fs (tagsL e n)]
def m_seed (a:List D) (f:Bool):List DV :=
 if ¬p_node a then [.a (downC 0),vn 8]
 else if gB a 2=false then [.a (downC 0),vn 14]
 else if ¬takesC a then [.a (downC 0),vn 6]
 else if partC a≠zPart then [.a (downC 0),vn 12]
 else [.a (a.take 8++begC (gI a 1) f (gI a 6) (gI a 0)++a.drop 24),vn 0]
end Go.Vc

namespace Go.Vc
open Classical
def jn6 (q:LL) (n j1 j2:Int) (b:Bool):Prop:=(b=true→j2<n∧ltT (elT q j2.toNat) (elT q j1.toNat))∧(b=false→j2<n→¬ltT (elT q j2.toNat) (elT q j1.toNat))
def jn8 (q:LL) (i j:Int) (b:Bool):Prop:=(b=false→ltT (elT q j.toNat) (elT q i.toNat))∧(b=true→¬ltT (elT q j.toNat) (elT q i.toNat))
def poI (p q:LL) (i:Int):Prop:=0<p.length∧poW p q (p.length-1) i.toNat
def poE (p q:LL):Prop:=0<p.length∧poT p q (p.length-1)
theorem jn6_b {q:LL} {n j1 j2:Int} (h:jn6 q n j1 j2 true):j2<n:=(h.1 rfl).1
theorem poI.len {p q:LL} {i:Int} (h:poI p q i):q.length=p.length:=h.2.len
theorem poE.len {p q:LL} (h:poE p q):q.length=p.length:=h.2.len
theorem poI.ls {p q:LL} {i:Int} (h:poI p q i) (hs:LS pairS p):LS pairS q := .mk (by rw [h.len];exact hs.len) fun c hc=>hs.els c (h.2.1.mem_iff.1 hc)
theorem poE.ls {p q:LL} (h:poE p q) (hs:LS pairS p):LS pairS q := .mk (by rw [h.len];exact hs.len) fun c hc=>hs.els c (h.2.1.mem_iff.1 hc)
theorem tmF.ls {l0 a b p:LL} {now:Int} (h:tmF l0 now a b p) (hs:LS pairS l0):LS pairS p := .mk (by have:=h.1.length_eq;rw [List.length_append,List.length_append] at this;have:=hs.len;omega) fun c hc=>hs.els c ((List.Perm.mem_iff h.1).1 (List.mem_append_right _ (List.mem_append_right _ hc)))
theorem tmF.len {l0 a b p:LL} {now:Int} (h:tmF l0 now a b p):a.length+(b.length+p.length)=l0.length:=by
 have:=h.1.length_eq
 rw [List.length_append,List.length_append] at this
 exact this
theorem poI.go {p q:LL} {i j n:Int} {c d:List D} {b:Bool} (h:poI p q i) (h6:jn6 q n (2*i+1) (2*i+1+1) b) (h8:jn8 q i j false) (hj:j=if b=true then 2*i+1+1 else 2*i+1) (hc:q[j.toNat]?=some c) (hd:q[i.toNat]?=some d) (hn:n=(p.length:Int)-1) (h0:0≤i) (hl:2*i+1<n):poI p ((q.set i.toNat c).set j.toNat d) j:=by
 obtain ⟨hp,h⟩:=h
 refine ⟨hp,h.step hd hc ?_ ?_ ?_ ?_ ?_⟩
 ·cases b
  ·rw [if_neg (by decide)] at hj;omega
  ·rw [if_pos rfl] at hj;have:=jn6_b h6;omega
 ·cases b
  ·rw [if_neg (by decide)] at hj;omega
  ·rw [if_pos rfl] at hj;omega
 ·cases b
  ·rw [if_neg (by decide)] at hj;omega
  ·rw [if_pos rfl] at hj;omega
 ·have:=h8.1 rfl
  rw [elT_at hc,elT_at hd] at this
  exact this
 ·intro k hk hkn hki
  have hk2:k=(2*i+1).toNat∨k=(2*i+1+1).toNat:=by omega
  cases b
  ·rw [if_neg (by decide)] at hj
   subst hj
   rcases hk2 with rfl | rfl
   ·exact leT.refl _ _
   ·exact h6.2 rfl (by omega)
  ·rw [if_pos rfl] at hj
   subst hj
   rcases hk2 with rfl | rfl
   ·exact ltT.asym (h6.1 rfl).2
   ·exact leT.refl _ _
attribute [irreducible] poI poE jn6 jn8
end Go.Vc

namespace Go.Vc
open Classical
def m_best (l:LL):List DV:=if e_desc l≠0 then [vl [],vn (e_desc l)] else [vl (bestL l),vn 0]
theorem best_e {l:LL} {x:Int} (hx:x=e_desc l) (h:x≠0):[vl [],vn x]=m_best l:=by
 unfold m_best;rw [if_pos (hx▸h),hx]
theorem best_ok {l r:LL} (h:e_desc l=0) (hr:r=bestL l):[vl r,vn 0]=m_best l:=by
 unfold m_best;rw [if_neg (fun hh=>hh h),hr]
theorem best_nil:bestL []=[]:=rfl
def thA (s:LL) (k:Int) (ds:List DV) (o:Nat):Prop:=∀ v<8,(bi ds (v+o)=true↔∃ j<k.toNat,nth s j 0=Int.ofNat v)
def wasA (s:LL) (k x:Int) (b:Bool):Prop:=b=true↔∃ j<k.toNat,nth s j 0=x
theorem lt8 {P:Nat→Prop} (h0:P 0) (h1:P 1) (h2:P 2) (h3:P 3) (h4:P 4) (h5:P 5) (h6:P 6) (h7:P 7):∀ v<8,P v:=fun v hv=>by
 have:v=0∨v=1∨v=2∨v=3∨v=4∨v=5∨v=6∨v=7:=by omega
 rcases this with rfl | rfl | rfl | rfl | rfl | rfl | rfl | rfl <;> assumption
theorem thA.zero {s:LL} {ds:List DV} {o:Nat} (h:∀ v<8,bi ds (v+o)=false):thA s 0 ds o:=fun v hv=>by
 rw [h v hv]
 exact ⟨fun h=>Bool.noConfusion h,fun ⟨j,hj,_⟩=>absurd hj (by simp)⟩
theorem thA.mv {s:LL} {ds ds':List DV} {o o':Nat} {k:Int} (h:thA s k ds o) (he:∀ v<8,bi ds' (v+o')=bi ds (v+o)):thA s k ds' o':=fun v hv=>by rw [he v hv];exact h v hv
theorem thA.was {s:LL} {ds:List DV} {o:Nat} {k:Int} {b:Bool} (h:thA s k ds o) (v:Nat) (hv:v<8) (he:bi ds (v+o)=b):wasA s k (Int.ofNat v) b:=by
 unfold wasA;rw [←he];exact h v hv
theorem thA.set {s:LL} {ds ds':List DV} {o o':Nat} {k y:Int} {cs:List D} (h:thA s k ds o) (v:Nat) (hk:s[k.toNat]?=some (.raw (.int .i64 (Int.ofNat v))::cs)) (h0:0≤k) (hy:y=k+1) (he:∀ w<8,w≠v→bi ds' (w+o')=bi ds (w+o)) (hv:bi ds' (v+o')=true):thA s y ds' o':=fun w hw=>by
 have e:y.toNat=k.toNat+1:=by omega
 rw [e]
 have hn:=nth_c hk
 by_cases hwv:w=v
 ·subst hwv
  rw [hv]
  exact ⟨fun _=>⟨k.toNat,by omega,hn⟩,fun _=>rfl⟩
 ·rw [he w hw hwv]
  refine (h w hw).trans ⟨fun ⟨j,hj,hh⟩=>⟨j,by omega,hh⟩,fun ⟨j,hj,hh⟩=>⟨j,?_,hh⟩⟩
  by_cases hjk:j=k.toNat
  ·subst hjk
   rw [hn] at hh
   exact absurd (Int.ofNat.inj hh).symm hwv
  ·omega
theorem fst_yes {s:LL} {k x:Int} {cs:List D} (h:wasA s k x false) (hk:s[k.toNat]?=some (.raw (.int .i64 x)::cs)):fstD s k.toNat:=fun j hj he=>by
 have:=h.2 ⟨j,hj,he.trans (nth_c hk)⟩
 exact Bool.noConfusion this
theorem fst_no {s:LL} {k x:Int} {cs:List D} (h:wasA s k x true) (hk:s[k.toNat]?=some (.raw (.int .i64 x)::cs)):¬fstD s k.toNat:=fun hf=>by
 obtain ⟨j,hj,he⟩:=h.1 rfl
 exact hf j hj (he.trans (nth_c hk).symm)
theorem fst_no' {s:LL} {k x:Int} {b:Bool} {cs:List D} (h:wasA s k x b) (hb:¬b=false) (hk:s[k.toNat]?=some (.raw (.int .i64 x)::cs)):¬fstD s k.toNat:=by
 cases b
 ·exact absurd rfl hb
 ·exact fst_no h hk
theorem upto_fst {s:LL} {k x:Int} {cs:List D} (h:upto (fstD s) k) (h0:0≤k) (hw:wasA s k x false) (hk:s[k.toNat]?=some (.raw (.int .i64 x)::cs)):upto (fstD s) (k+1):=(upto_succ h0).2 ⟨h,fst_yes hw hk⟩
theorem delI.b {P:Nat→Prop} {s q:LL} {i j:Int} (h:delI P s q i j):0≤i∧i<j∧j≤(s.length:Int)∧q.length=s.length:=⟨h.1,h.2.1,h.2.2.1,h.2.2.2.1⟩
theorem delI.at' {P:Nat→Prop} {s q:LL} {i j:Int} {c:List D} (h:delI P s q i j) (hk:q[j.toNat]?=some c):s[j.toNat]?=some c:=by rw [←h.at];exact hk
theorem insI.ok {l q:LL} {i:Int} (h:insI l q i) (ho:okD l):okD q:=⟨by rw [h.len];exact ho.1,fun c hc=>ho.2 c (h.1.mem_iff.1 hc)⟩
theorem delI.ok {P:Nat→Prop} {s q:LL} {i j:Int} (h:delI P s q i j) (ho:okD s):okD q:=⟨by rw [h.len];exact ho.1,fun c hc=>ho.2 c (h.2.2.2.2.2.2 c hc)⟩
theorem insJ.step1 {l0 q:LL} {i j:Int} {a b c d a' b' c' d':Int} (h:insJ l0 q i j) (hn:cmpI d b<0) (hj:0<j) (hij:j≤i) (hc:q[j.toNat]?=some [dn a,dn b]) (hd:q[(j-1).toNat]?=some [dn c,dn d]) (hc':q[j.toNat]?=some [dn a',dn b']) (hd':q[(j-1).toNat]?=some [dn c',dn d']):insJ l0 ((q.set j.toNat [dn c',dn d']).set (j-1).toNat [dn a',dn b']) i (j-1):=by
 rw [hc] at hc';rw [hd] at hd';cases hc';cases hd'
 exact h.step hj hij hc hd ((cmpD rfl).1 (by split <;> omega))
theorem insJ.step2 {l0 q:LL} {i j:Int} {a b c d a' b' c' d':Int} (h:insJ l0 q i j) (hm:¬cmpI d b≠0) (hn:cmpI a c<0) (hj:0<j) (hij:j≤i) (hc:q[j.toNat]?=some [dn a,dn b]) (hd:q[(j-1).toNat]?=some [dn c,dn d]) (hc':q[j.toNat]?=some [dn a',dn b']) (hd':q[(j-1).toNat]?=some [dn c',dn d']):insJ l0 ((q.set j.toNat [dn c',dn d']).set (j-1).toNat [dn a',dn b']) i (j-1):=by
 rw [hc] at hc';rw [hd] at hd';cases hc';cases hd'
 exact h.step hj hij hc hd ((cmpD rfl).1 (by split <;> omega))
theorem insJ.out' {l0 q:LL} {i j:Int} {a b c d:Int} (h:insJ l0 q i j) (hj:0<j) (hc:q[j.toNat]?=some [dn a,dn b]) (hd:q[(j-1).toNat]?=some [dn c,dn d]) (hn:(cmpI d b≠0∧¬cmpI d b<0)∨(cmpI d b=0∧¬cmpI a c<0)):insI l0 q (i+1):=h.out hj hc hd (fun hh=>by have:=(cmpD rfl).2 hh;split at this <;> omega)
theorem bestL_all {l q:LL} {n i:Int} (h:insI l q i) (hs:LS pairS l) (hi:¬i<(l.length:Int)) (hu:upto (fstD q) n) (hn:¬n<(q.length:Int)):q=bestL l:=by
 have e:=h.fin hs (by omega)
 have hl:=h.len
 unfold bestL
 rw [←e,←hl,kpL.all (Nat.le_refl _) (fun k hk=>hu k (by omega)),List.take_length]
theorem bestL_some {l q p r:LL} {x y i:Int} (h:insI l q i) (hs:LS pairS l) (hi:¬i<(l.length:Int)) (hd:delI (fstD q) q p x y) (hy:¬y<(p.length:Int)):(p.take x.toNat++r).take x.toNat=bestL l:=by
 have e:=h.fin hs (by omega)
 have hl:=h.len
 have hb:=hd.b
 rw [clr_take (by omega),hd.fin (by omega)]
 unfold bestL
 rw [←e,←hl]
attribute [irreducible] thA wasA
end Go.Vc

namespace Go.Vc
open Classical
def othD (own:Int) (l:LL) (k:Nat):Prop:=nth l k 0≠own
theorem othD_no {own x:Int} {l:LL} {k:Int} {cs:List D} (hk:l[k.toNat]?=some (.raw (.int .i64 x)::cs)) (h:x=own):¬othD own l k.toNat:=fun hh=>hh ((nth_c hk).trans h)
theorem othD_yes {own x:Int} {l:LL} {k:Int} {cs:List D} (hk:l[k.toNat]?=some (.raw (.int .i64 x)::cs)) (h:¬x=own):othD own l k.toNat:=fun hh=>h ((nth_c hk).symm.trans hh)
theorem flt_all {own n:Int} {l:LL} (hu:upto (othD own l) n) (hn:¬n<(l.length:Int)):fltD own l=l:=by
 unfold fltD
 rw [show (fun k=>nth l k 0≠own)=othD own l from rfl,kpL.all (Nat.le_refl _) (fun k hk=>hu k (by omega)),List.take_length]
theorem flt_some {own x y:Int} {l p r:LL} (hd:delI (othD own l) l p x y) (hy:¬y<(p.length:Int)):(p.take x.toNat++r).take x.toNat=fltD own l:=by
 have hb:=hd.b
 rw [clr_take (by omega),hd.fin (by omega)]
 rfl
theorem flt_len {own:Int} {l:LL}:(fltD own l).length≤l.length:=kpL.le _ _ _
theorem flt_ls {own:Int} {l:LL} (h:LS pairS l):LS pairS (fltD own l) := .mk (by have:=h.len;have:=flt_len (own:=own) (l:=l);omega) fun c hc=>h.els c (kpL.mem (Nat.le_refl _) c hc)
theorem best_out {l r:LL} {x:Int} (h:[vl r,vn x]=m_best l):(x≠0→e_desc l≠0)∧(x=0→e_desc l=0∧r=bestL l):=by
 unfold m_best at h
 by_cases h0:e_desc l=0
 ·rw [if_neg (fun hh=>hh h0)] at h
  simp only [List.cons.injEq,DV.c.injEq,D.raw.injEq,D.fs.injEq,Value.int.injEq,true_and,and_true] at h
  exact ⟨fun hx=>absurd h.2 hx,fun _=>⟨h0,h.1⟩⟩
 ·rw [if_pos h0] at h
  simp only [List.cons.injEq,DV.c.injEq,D.raw.injEq,D.fs.injEq,Value.int.injEq,true_and,and_true] at h
  exact ⟨fun _=>h0,fun hx=>absurd (h.2.symm.trans hx) h0⟩
theorem kpL_mem {P:Nat→Prop} {s:LL} {c:List D}:∀ {k:Nat},k≤s.length→c∈kpL P s k→∃ i<k,P i∧s[i]?=some c
 | 0,_,hc=>by simp [kpL] at hc
 | k+1,h,hc=>by
  have hk:k<s.length:=by omega
  by_cases hp:P k
  ·rw [kpL.yes hp (List.getElem?_eq_getElem hk)] at hc
   rcases List.mem_append.1 hc with hc | hc
   ·obtain ⟨i,h1,h2,h3⟩:=kpL_mem (by omega) hc
    exact ⟨i,by omega,h2,h3⟩
   ·rw [List.mem_singleton] at hc;subst hc;exact ⟨k,by omega,hp,List.getElem?_eq_getElem hk⟩
  ·rw [kpL.no hp] at hc
   obtain ⟨i,h1,h2,h3⟩:=kpL_mem (by omega) hc
   exact ⟨i,by omega,h2,h3⟩
theorem cc_no {a b:Int} {l:LL} (h:¬p_cacheB [dn a,dn b, .fs l]):([vn 8]:List DV)=[vn (if p_cacheB [dn a,dn b, .fs l] then 0 else 8)]:=by rw [if_neg h]
theorem cc_yes {a b:Int} {l:LL} (h:p_cacheB [dn a,dn b, .fs l]):([vn 0]:List DV)=[vn (if p_cacheB [dn a,dn b, .fs l] then 0 else 8)]:=by rw [if_pos h]
theorem cb_arg {a b:Int} {l:LL} (h:¬(0≤a∧a≤7∧1≤b∧b≤6∧(l.length:Int)≤b)):¬p_cacheB [dn a,dn b, .fs l]:=fun hh=>h ⟨hh.1,hh.2.1,hh.2.2.1,hh.2.2.2.1,hh.2.2.2.2.1⟩
theorem cb_best {a b x:Int} {l q r:LL} (hq:q=fltD a l) (hb:[vl r,vn x]=m_best q) (h:x≠0):¬p_cacheB [dn a,dn b, .fs l]:=fun hh=>by
 have:=(best_out hb).1 h
 rw [hq] at this
 exact this hh.2.2.2.2.2.1
theorem cb_same {a b x:Int} {l q r:LL} (hq:q=fltD a l) (hb:[vl r,vn x]=m_best q) (h:x=0) (hs:decide (r=l)=false):¬p_cacheB [dn a,dn b, .fs l]:=fun hh=>by
 have h1:=(best_out hb).2 h
 have h2:=of_decide_eq_false hs
 rw [hq] at h1
 exact h2 (h1.2.trans hh.2.2.2.2.2.2)
theorem cb_ok {a b x:Int} {l q r:LL} (h0:0≤a∧a≤7∧1≤b∧b≤6∧(l.length:Int)≤b) (hq:q=fltD a l) (hb:[vl r,vn x]=m_best q) (h:x=0) (hs:¬decide (r=l)=false):p_cacheB [dn a,dn b, .fs l]:=by
 have h1:=(best_out hb).2 h
 have h2:r=l:=by
  by_cases e:r=l
  ·exact e
  ·exact absurd (decide_eq_false e) hs
 rw [hq] at h1
 exact ⟨h0.1,h0.2.1,h0.2.2.1,h0.2.2.2.1,h0.2.2.2.2,h1.1,h1.2.symm.trans h2⟩
theorem flt_nil {own:Int}:fltD own []=[]:=rfl
theorem best_ls {own x:Int} {l q r:LL} (hq:q=fltD own l) (hb:[vl r,vn x]=m_best q) (hn:l.length≤9223372036854775807) (hs:LS pairS l):LSh pairS r:=by
 by_cases h:x=0
 ·have h1:=((best_out hb).2 h).2
  have hq2:LS pairS q:=hq▸flt_ls hs
  have e:(kpL (fstD (srtD q)) (srtD q) q.length).length≤q.length:=kpL.le _ _ _
  have e2:=hq2.len
  have hm:∀ c∈r,DShs pairS c:=fun c hc=>by
   rw [h1] at hc
   exact (srtD.ls hq2).els c (kpL.mem (by rw [(srtD.perm q).length_eq];exact Nat.le_refl _) c hc)
  have e3:r.length≤9223372036854775807:=by rw [h1];exact Nat.le_trans e e2
  exact ⟨e3, .mk e3 hm⟩
 ·have h1:=(best_out hb).1 h
  unfold m_best at hb
  rw [if_pos h1] at hb
  simp only [List.cons.injEq,DV.c.injEq,D.fs.injEq] at hb
  rw [hb.1]
  exact ⟨by simp,ls_nil⟩
end Go.Vc

namespace Go.Vc
open Classical
def m_mergeE (c:List D) (l:LL):List DV :=
 if ¬p_cacheB c then [.a [dn 0,dn 0, .fs []],vn 8]
 else if e_desc l≠0 then [.a [dn 0,dn 0, .fs []],vn (e_desc l)]
 else [.a [dn (gI c 0),dn (gI c 1), .fs ((bestL (fltD (gI c 0) l)).take (gI c 1).toNat)],vn 0]
theorem desc_iff {l:LL}:e_desc l=0↔l.length≤64∧∀ c∈l,0≤gI c 0∧gI c 0<8∧0≤gI c 1∧gI c 1≤2147483647:=by
 unfold e_desc
 constructor
 ·intro h
  split at h
  ·cases h
  ·split at h
   ·rename_i h1 h2
    refine ⟨by omega,fun c hc=>?_⟩
    obtain ⟨i,hi,e⟩:=List.getElem_of_mem hc
    have:=h2 i (by omega)
    unfold at_desc nth at this
    rw [List.getElem?_eq_getElem hi,e] at this
    exact this
   ·cases h
 ·rintro ⟨h1,h2⟩
  rw [if_neg (by omega),if_pos]
  intro i hi
  have hi':i<l.length:=by omega
  have:=h2 _ (List.getElem_mem hi')
  unfold at_desc nth
  rw [List.getElem?_eq_getElem hi']
  exact this
theorem desc_flt {l:LL} {own:Int} (h:e_desc l=0):e_desc (fltD own l)=0:=by
 obtain ⟨h1,h2⟩:=desc_iff.1 h
 exact desc_iff.2 ⟨Nat.le_trans flt_len h1,fun c hc=>h2 c (kpL.mem (Nat.le_refl _) c hc)⟩
theorem merge_fin {x0 x1 x:Int} {l2 l q r:LL} (hq:q=fltD x0 l) (hb:[vl r,vn x]=m_best q) (hp:p_cacheB [dn x0,dn x1, .fs l2]) (h:e_desc l=0):[.a [dn x0,dn x1, .fs (r.take (min (r.length:Int) x1).toNat)],vn 0]=m_mergeE [dn x0,dn x1, .fs l2] l:=by
 subst hq
 have hx:x=0:=by
  by_cases e:x=0
  ·exact e
  ·exact absurd (desc_flt h) ((best_out hb).1 e)
 have hr:=((best_out hb).2 hx).2
 unfold m_mergeE
 rw [if_neg (fun hh=>hh hp),if_neg (fun hh=>hh h),hr]
 have e:∀ {l:LL},l.take (min (l.length:Int) x1).toNat=l.take x1.toNat:=fun {l}=>by
  by_cases hh:(l.length:Int)≤x1
  ·rw [Int.min_eq_left hh,List.take_of_length_le (by omega),List.take_of_length_le (by omega)]
  ·rw [Int.min_eq_right (by omega)]
 rw [e]
 rfl
end Go.Vc

namespace Go.Vc
open Classical
theorem srt_put {l q:LL} {i a:Int} {c:List D} (hq:q=srtD (l.take i.toNat)) (hs:LS pairS l) (hk:l[i.toNat]?=some c) (h0:0≤i) (h1:∀ x:Nat,x<a.toNat→x<q.length→¬befD c (elT q x)) (h2:a.toNat<q.length→befD c (elT q a.toNat)):q.take a.toNat++[c]++q.drop a.toNat=srtD (l.take (i+1).toNat):=by
 have ht:l.take (i+1).toNat=l.take i.toNat++[c]:=take_succ h0 hk
 have hls:LS pairS (l.take (i+1).toNat) := .mk (by rw [List.length_take];have:=hs.len;omega) fun x hx=>hs.els x (List.mem_of_mem_take hx)
 have hp:q.Perm (l.take i.toNat):=hq▸srtD.perm _
 have hw:q.Pairwise fun c d=>¬befD d c:=hq▸srtD.pw _
 refine srtD.one hls ?_ ?_
 ·rw [ht,List.append_assoc]
  have e1:(q.take a.toNat++([c]++q.drop a.toNat)).Perm ([c]++(q.take a.toNat++q.drop a.toNat)):=by
   rw [←List.append_assoc,←List.append_assoc]
   exact List.Perm.append_right _ List.perm_append_comm
  rw [List.take_append_drop] at e1
  exact e1.trans (List.perm_append_comm.trans (List.Perm.append_right _ hp))
 ·have hd:∀ d∈q.drop a.toNat,¬befD d c:=fun d hd hb=>by
   obtain ⟨y,hy,e⟩:=List.getElem_of_mem hd
   rw [List.getElem_drop] at e
   rw [List.length_drop] at hy
   have hlt:a.toNat<q.length:=by omega
   have h3:=h2 hlt
   rw [elT_at (List.getElem?_eq_getElem hlt)] at h3
   have h4:=befD.trans hb h3
   by_cases ey:y=0
   ·subst ey
    rw [←e] at h4
    exact befD.irr _ h4
   ·have:=List.pairwise_iff_getElem.1 hw a.toNat (a.toNat+y) hlt (by omega) (by omega)
    rw [e] at this
    exact this h4
  have ht':∀ d∈q.take a.toNat,¬befD c d:=fun d hd=>by
   obtain ⟨y,hy,e⟩:=List.getElem_of_mem hd
   rw [List.length_take] at hy
   rw [List.getElem_take] at e
   have:=h1 y (by omega) (by omega)
   rw [elT_at (List.getElem?_eq_getElem (by omega)),e] at this
   exact this
  rw [List.append_assoc,List.pairwise_append]
  refine ⟨hw.sublist (List.take_sublist _ _),?_,fun x hx y hy=>?_⟩
  ·rw [List.singleton_append,List.pairwise_cons]
   exact ⟨hd,hw.sublist (List.drop_sublist _ _)⟩
  ·rw [List.singleton_append,List.mem_cons] at hy
   rcases hy with rfl | hy
   ·exact ht' x hx
   ·obtain ⟨u,hu,eu⟩:=List.getElem_of_mem hx
    obtain ⟨v,hv,ev⟩:=List.getElem_of_mem hy
    rw [List.length_take] at hu
    rw [List.length_drop] at hv
    rw [List.getElem_take] at eu
    rw [List.getElem_drop] at ev
    have:=List.pairwise_iff_getElem.1 hw u (a.toNat+v) (by omega) (by omega) (by omega)
    rw [eu,ev] at this
    exact this
theorem kpL_flt {p:List D→Bool} {s:LL} {P:Nat→Prop} (h:∀ i c,s[i]?=some c→(P i↔p c=true)):∀ {k:Nat},k≤s.length→kpL P s k=(s.take k).filter p
 | 0,_=>by simp [kpL]
 | k+1,hk=>by
  have hg:=List.getElem?_eq_getElem (show k<s.length by omega)
  rw [List.take_add_one,hg,List.filter_append,←kpL_flt h (show k≤s.length by omega)]
  by_cases hp:P k
  ·rw [kpL.yes hp hg];simp [(h k _ hg).1 hp]
  ·rw [kpL.no hp];simp [show p s[k]=false from by have:=mt (h k _ hg).2 hp;simpa using this]
theorem flt_filter (own:Int) (l:LL):fltD own l=l.filter fun c=>decide (gI c 0≠own):=by
 unfold fltD
 rw [kpL_flt (p:=fun c=>decide (gI c 0≠own)) (fun i c hc=>by
  show nth l i 0≠own↔_
  unfold nth;rw [hc];simp) (Nat.le_refl _),List.take_length]
theorem flt_flt (own:Int) (l:LL):fltD own (fltD own l)=fltD own l:=by
 rw [flt_filter,flt_filter,List.filter_filter];simp
def fltI (own:Int) (l q:LL) (i:Int):Prop:=q=kpL (othD own l) l i.toNat
theorem fltI.zero {own:Int} {l:LL}:fltI own l [] 0:=rfl
theorem fltI.yes {own i x:Int} {l q:LL} {cs:List D} (h:fltI own l q i) (h0:0≤i) (hk:l[i.toNat]?=some (.raw (.int .i64 x)::cs)) (hx:¬x=own):fltI own l (q++[.raw (.int .i64 x)::cs]) (i+1):=by
 unfold fltI at *
 rw [show (i+1).toNat=i.toNat+1 by omega,kpL.yes (othD_yes hk hx) hk,h]
theorem fltI.no {own i x:Int} {l q:LL} {cs:List D} (h:fltI own l q i) (h0:0≤i) (hk:l[i.toNat]?=some (.raw (.int .i64 x)::cs)) (hx:x=own):fltI own l q (i+1):=by
 unfold fltI at *
 rw [show (i+1).toNat=i.toNat+1 by omega,kpL.no (othD_no hk hx),h]
theorem fltI.fin {own i:Int} {l q:LL} (h:fltI own l q i) (hi:(l.length:Int)≤i) (hi2:i≤(l.length:Int)):q=fltD own l:=by
 unfold fltI at h
 rw [h,show i.toNat=l.length by omega]
 rfl
theorem fltI.len {own i:Int} {l q:LL} (h:fltI own l q i):q.length≤i.toNat:=by
 unfold fltI at h
 rw [h];exact kpL.le _ _ _
def srtI (l q:LL) (i:Int):Prop:=q=srtD (l.take i.toNat)
def srtJ (q:LL) (c0 c1 a:Int):Prop:=∀ x:Nat,x<a.toNat→x<q.length→¬befD [dn c0,dn c1] (elT q x)
theorem srtI.zero {l:LL}:srtI l [] 0:=by
 unfold srtI
 have:=(srtD.perm (List.take (0:Int).toNat l)).length_eq
 simp only [Int.toNat_zero,List.take_zero,List.length_nil] at this ⊢
 exact (List.length_eq_zero_iff.1 this).symm
theorem srtI.len {l q:LL} {i:Int} (h:srtI l q i):q.length=min i.toNat l.length:=by
 unfold srtI at h
 rw [h,(srtD.perm _).length_eq,List.length_take]
theorem srtJ.zero {q:LL} {c0 c1:Int}:srtJ q c0 c1 0:=fun x hx=>by simp at hx
theorem srtJ.step {q:LL} {c0 c1 a u v:Int} (h:srtJ q c0 c1 a) (ha:0≤a) (hk:q[a.toNat]?=some [dn u,dn v]) (hn:¬(c1>v∨c1=v∧c0<u)):srtJ q c0 c1 (a+1):=fun x hx hl hb=>by
 by_cases e:x=a.toNat
 ·subst e
  rw [elT_at hk] at hb
  unfold befD at hb
  exact hn hb
 ·exact h x (by omega) hl hb
theorem srtI.put {l q:LL} {i a c0 c1:Int} (h:srtI l q i) (hj:srtJ q c0 c1 a) (hs:LS pairS l) (hk:l[i.toNat]?=some [dn c0,dn c1]) (h0:0≤i) (h2:¬a<(q.length:Int)) (ha:0≤a):srtI l (q.take a.toNat++[[dn c0,dn c1]]++q.drop a.toNat) (i+1) :=
 srt_put h hs hk h0 hj (fun hh=>by omega)
theorem srtI.put2 {l q:LL} {i a c0 c1 u v:Int} (h:srtI l q i) (hj:srtJ q c0 c1 a) (hs:LS pairS l) (hk:l[i.toNat]?=some [dn c0,dn c1]) (h0:0≤i) (hq:q[a.toNat]?=some [dn u,dn v]) (h2:c1>v∨c1=v∧c0<u):srtI l (q.take a.toNat++[[dn c0,dn c1]]++q.drop a.toNat) (i+1) :=
 srt_put h hs hk h0 hj (fun hh=>by rw [elT_at hq];exact h2)
theorem srtI.fin {l q:LL} {i:Int} (h:srtI l q i) (hi:¬i<(l.length:Int)):q=srtD l:=by
 unfold srtI at h
 rw [h,List.take_of_length_le (by omega)]
theorem srtI.ls {l q:LL} {i:Int} (h:srtI l q i) (hs:LS pairS l):LS pairS q:=by
 unfold srtI at h
 rw [h]
 exact srtD.ls (.mk (by rw [List.length_take];have:=hs.len;omega) fun x hx=>hs.els x (List.mem_of_mem_take hx))
def fstI (l q:LL) (i:Int):Prop:=q=kpL (fstD l) l i.toNat
theorem fstI.zero {l:LL}:fstI l [] 0:=rfl
theorem fstI.len {i:Int} {l q:LL} (h:fstI l q i):q.length≤i.toNat:=by
 unfold fstI at h
 rw [h];exact kpL.le _ _ _
theorem fstI.ls {i:Int} {l q:LL} (h:fstI l q i) (hs:LS pairS l) (hi:i≤(l.length:Int)):LS pairS q:=by
 have hl:=h.len
 unfold fstI at h
 exact .mk (by have:=hs.len;omega) fun x hx=>hs.els x (kpL.mem (show i.toNat≤l.length by omega) x (h▸hx))
theorem fstI.yes {l q:LL} {i x:Int} {cs:List D} {b:Bool} (h:fstI l q i) (hw:wasA l i x b) (hb:b=false) (h0:0≤i) (hk:l[i.toNat]?=some (.raw (.int .i64 x)::cs)):fstI l (q++[.raw (.int .i64 x)::cs]) (i+1):=by
 subst hb
 unfold fstI at *
 rw [show (i+1).toNat=i.toNat+1 by omega,kpL.yes (fst_yes hw hk) hk,h]
theorem fstI.no {l q:LL} {i x:Int} {cs:List D} {b:Bool} (h:fstI l q i) (hw:wasA l i x b) (hb:¬b=false) (h0:0≤i) (hk:l[i.toNat]?=some (.raw (.int .i64 x)::cs)):fstI l q (i+1):=by
 unfold fstI at *
 rw [show (i+1).toNat=i.toNat+1 by omega,kpL.no (fst_no' hw hb hk),h]
theorem fstI.fin {l q:LL} {i:Int} (h:fstI l q i) (hi:¬i<(l.length:Int)) (hi2:i≤(l.length:Int)):q=kpL (fstD l) l l.length:=by
 unfold fstI at h
 rw [h,show i.toNat=l.length by omega]
theorem wasA.zero {s:LL} {x:Int}:wasA s 0 x false:=by
 unfold wasA
 exact ⟨fun h=>Bool.noConfusion h,fun ⟨j,h,_⟩=>absurd h (by simp)⟩
end Go.Vc

namespace Go.Vc
open Classical
theorem nc_no {c:List D} (h:¬p_node c):([vn 8]:List DV)=[vn (if p_node c then 0 else 8)]:=by rw [if_neg h]
theorem nc_yes {c:List D} (h:p_node c):([vn 0]:List DV)=[vn (if p_node c then 0 else 8)]:=by rw [if_pos h]
end Go.Vc

namespace Go.Vc
open Classical
def o_plF (l:LL) (e i x:Int):Prop:=(x=0→e_past l=0∧0≤e∧e≤65535∧0≤i∧i≤(l.length:Int)∧ahd l e i i)∧(x≠0→(e_past l≠0∧x=e_past l)∨(e_past l=0∧¬(0≤e∧e≤65535)∧x=2))
theorem o_plF.e1 {l:LL} {e i x:Int} (h:x≠0) (hx:x=e_past l):o_plF l e i x:=⟨fun e=>absurd e h,fun _=>.inl ⟨hx▸h,hx⟩⟩
theorem o_plF.e2 {l:LL} {e i:Int} (hx:e_past l=0) (h:¬(0≤e∧e≤65535)):o_plF l e i 2:=⟨fun e=>absurd e (by decide),fun _=>.inr ⟨hx,h,rfl⟩⟩
theorem o_plF.yes {l:LL} {e i j:Int} (h1:e_past l=0) (h2:0≤e) (h3:e≤65535) (h4:0≤i) (h5:j≤(l.length:Int)) (h6:ahd l e i j) (h7:¬i<j) (h8:i≤j):o_plF l e i 0:=⟨fun _=>⟨h1,h2,h3,h4,by omega,(by have e:i=j:=(by omega);subst e;exact h6)⟩,fun h=>absurd rfl h⟩
theorem o_plF.get {l:LL} {e i x:Int} (h:o_plF l e i x) (h0:¬x≠0):e_past l=0∧0≤e∧e≤65535∧0≤i∧i≤(l.length:Int)∧ahd l e i i:=h.1 (Decidable.not_not.1 h0)
attribute [irreducible] o_plF
end Go.Vc

namespace Go.Vc
open Classical
def wtI (tn b:Bool) (x y:Int) (due:LL) (i:Int) (o:Bool) (n t:Int):Prop:=[db o,dn n,dn t]=if tn=true∨(b=true∧∃ j<i.toNat,nth due j 1=x) then [db false,dn 0,dn 0] else [db b,dn x,dn y]
theorem wt_inj {o b:Bool} {n t x y:Int} (h:([db o,dn n,dn t]:List D)=[db b,dn x,dn y]):o=b∧n=x∧t=y:=by
 simp only [List.cons.injEq,D.raw.injEq,Value.bool.injEq,Value.int.injEq,true_and,and_true] at h
 exact h
theorem wtI.off {tn b:Bool} {x y i k:Int} {due:LL} {n t:Int} (h:wtI tn b x y due i false n t) (h0:0≤i) (he:k=i+1):wtI tn b x y due k false n t:=by
 unfold wtI at *
 by_cases hc:tn=true∨(b=true∧∃ j<i.toNat,nth due j 1=x)
 ·rw [if_pos hc] at h
  rw [if_pos,←h]
  rcases hc with hc | ⟨h1,j,h2,h3⟩
  ·exact .inl hc
  ·exact .inr ⟨h1,j,by omega,h3⟩
 ·rw [if_neg hc] at h
  obtain ⟨h1,h2,h3⟩:=wt_inj h
  rw [if_neg,←h]
  rintro (h4 | ⟨h5,_⟩)
  ·exact hc (.inl h4)
  ·rw [←h1] at h5;cases h5
attribute [irreducible] wtI
end Go.Vc

namespace Go.Vc
open Classical
theorem up_ne {a:List D} (h:gB a 2=true):¬gB a 2=false:=by rw [h];decide
theorem bdec {p:Prop} [Decidable p] (h:¬decide p=false):p:=by
 by_cases e:p
 ·exact e
 ·exact absurd (decide_eq_false e) h
theorem seed_noE {a:List D} {f:Bool} (h:(if p_node a then (0:Int) else 8)≠0):[.a (downC 0),vn (if p_node a then 0 else 8)]=m_seed a f:=by rw [if_neg (if8 h)];unfold m_seed;rw [if_pos (if8 h)]
theorem seed_down {a:List D} {f:Bool} (h:p_node a) (h2:gB a 2=false):[.a (downC 0),vn 14]=m_seed a f:=by unfold m_seed;rw [if_neg (fun hh=>hh h),if_pos h2]
theorem seed_none {a:List D} {f:Bool} (h:p_node a) (h2:gB a 2=true) (h3:¬takesC a):[.a (downC 0),vn 6]=m_seed a f:=by unfold m_seed;rw [if_neg (fun hh=>hh h),if_neg (up_ne h2),if_pos h3]
theorem seed_again {a:List D} {f:Bool} (h:p_node a) (h2:gB a 2=true) (h3:takesC a) (h4:partC a≠zPart):[.a (downC 0),vn 12]=m_seed a f:=by unfold m_seed;rw [if_neg (fun hh=>hh h),if_neg (up_ne h2),if_neg (fun hh=>hh h3),if_pos h4]
theorem seed_ok {a:List D} {f:Bool} (h:p_node a) (h2:gB a 2=true) (h3:takesC a) (h4:partC a=zPart):m_seed a f=[.a (a.take 8++begC (gI a 1) f (gI a 6) (gI a 0)++a.drop 24),vn 0]:=by unfold m_seed;rw [if_neg (fun hh=>hh h),if_neg (up_ne h2),if_neg (fun hh=>hh h3),if_neg (fun hh=>hh h4)]
theorem seedL_ok {x0 x1 x3 x4 x5 x6 x7 x10 x13 x16 x19 x21 x22 x25 x26 x28 x29:Int} {b8 b11 b14 b17 b20 b24:Bool} {l9 l12 l15 l18 l23 l27 l30 l31 l32:LL} {f:Bool} {l:LL} (hls:LSh [s32] l) (hl:p_tags x6 x0 l) (h:p_node [dn x0,dn x1,db true,dn x3,dn x4,dn x5,dn x6,dn x7,db b8,D.fs l9,dn x10,db b11,D.fs l12,dn x13,db b14,D.fs l15,dn x16,db b17,D.fs l18,dn x19,db b20,dn x21,dn x22,D.fs l23,db b24,dn x25,dn x26,D.fs l27,dn x28,dn x29,D.fs l30,D.fs l31,D.fs l32]) (h5:x7≤x6) (h6:[db b8,D.fs l9,dn x10,db b11,D.fs l12,dn x13,db b14,D.fs l15,dn x16,db b17,D.fs l18,dn x19,db b20,dn x21,dn x22,D.fs l23]=zPart):[DV.a ([dn x0,dn x1,db true,dn x3,dn x4,dn x5,dn x6,dn x7]++massOf x1 f++[db true,dn x1,dn x1,D.fs l]++[db b24,dn x25,dn x26,D.fs l27,dn x28,dn x29,D.fs l30,D.fs l31,D.fs l32]),vn 0]=m_seed [dn x0,dn x1,db true,dn x3,dn x4,dn x5,dn x6,dn x7,db b8,D.fs l9,dn x10,db b11,D.fs l12,dn x13,db b14,D.fs l15,dn x16,db b17,D.fs l18,dn x19,db b20,dn x21,dn x22,D.fs l23,db b24,dn x25,dn x26,D.fs l27,dn x28,dn x29,D.fs l30,D.fs l31,D.fs l32] f:=by
 rw [seed_ok h rfl h5 h6]
 unfold begC
 rw [tagsL_eq hls hl];rfl
theorem zpart_iff {x10 x13 x16 x19 x21 x22:Int} {b8 b11 b14 b17 b20:Bool} {l9 l12 l15 l18 l23:LL}:[db b8,D.fs l9,dn x10,db b11,D.fs l12,dn x13,db b14,D.fs l15,dn x16,db b17,D.fs l18,dn x19,db b20,dn x21,dn x22,D.fs l23]=zPart↔b8=false∧l9=[]∧x10=0∧b11=false∧l12=[]∧x13=0∧b14=false∧l15=[]∧x16=0∧b17=false∧l18=[]∧x19=0∧b20=false∧x21=0∧x22=0∧l23=[]:=by
 unfold zPart
 simp only [List.cons.injEq,D.raw.injEq,D.fs.injEq,Value.int.injEq,Value.bool.injEq,true_and,and_true]
end Go.Vc

namespace Go.Vc
open Classical
def at_val (l:LL) (i:Nat):Prop:=inV (nth l i 0)
def knownL (k:Int):LL:=(List.range k.toNat).map fun (i:Nat)=>[dn (i:Int),dn 0]
def downsL (k:Int):LL:=(List.range k.toNat).map fun (i:Nat)=>downC (i:Int)
def okW (a b c d:Int) (l:LL):Prop:=(1≤a∧a≤8∧1≤b∧b≤64∧1≤c∧c≤64∧1≤d∧d≤6)∧(l.length:Int)≤a∧upto (at_val l) l.length
end Go.Vc

namespace Go.Vc
open Classical
theorem kpL_sub (P:Nat→Prop) (s:LL):∀ {k:Nat},k≤s.length→(kpL P s k).Sublist (s.take k)
 | 0,_=>by simp [kpL]
 | k+1,hk=>by
  have hg:=List.getElem?_eq_getElem (show k<s.length by omega)
  rw [List.take_add_one,hg]
  by_cases hp:P k
  ·rw [kpL.yes hp hg];exact (kpL_sub P s (by omega)).append (List.Sublist.refl _)
  ·rw [kpL.no hp];exact (kpL_sub P s (by omega)).trans (List.sublist_append_left _ _)
theorem fst_ne (s:LL):∀ {k:Nat},k≤s.length→(kpL (fstD s) s k).Pairwise fun c d=>gI c 0≠gI d 0
 | 0,_=>by simp [kpL]
 | k+1,hk=>by
  have hg:=List.getElem?_eq_getElem (show k<s.length by omega)
  by_cases hp:fstD s k
  ·rw [kpL.yes hp hg,List.pairwise_append]
   refine ⟨fst_ne s (by omega),List.pairwise_singleton _ _,fun c hc d hd=>?_⟩
   obtain ⟨i,hi,_,e⟩:=kpL_mem (by omega) hc
   rw [List.mem_singleton] at hd
   have:=hp i hi
   unfold nth at this
   rw [e,hg] at this
   rw [hd]
   exact this
  ·rw [kpL.no hp];exact fst_ne s (by omega)
theorem best_self {l:LL} (hs:LS pairS l) (h1:l.Pairwise fun c d=>¬befD d c) (h2:l.Pairwise fun c d=>gI c 0≠gI d 0):bestL l=l:=by
 have e:srtD l=l:=(srtD.one hs (List.Perm.refl l) h1).symm
 unfold bestL
 rw [e,kpL.all (Nat.le_refl _),List.take_length]
 intro i hi j hj he
 have:=List.pairwise_iff_getElem.1 h2 j i (by omega) hi hj
 unfold nth at he
 rw [List.getElem?_eq_getElem (show j<l.length by omega),List.getElem?_eq_getElem hi] at he
 exact this he
theorem best_pw (l:LL):((bestL l).Pairwise fun c d=>¬befD d c)∧((bestL l).Pairwise fun c d=>gI c 0≠gI d 0)∧∀ c∈bestL l,c∈l:=by
 have hl:l.length=(srtD l).length:=(srtD.perm l).length_eq.symm
 unfold bestL
 rw [hl]
 refine ⟨(srtD.pw l).sublist ((kpL_sub _ _ (Nat.le_refl _)).trans (List.take_sublist _ _)),fst_ne _ (Nat.le_refl _),fun c hc=>(srtD.perm l).mem_iff.1 (kpL.mem (Nat.le_refl _) c hc)⟩
theorem best_len (l:LL):(bestL l).length≤l.length:=kpL.le _ _ _
theorem best_ls' {l:LL} (h:LS pairS l):LS pairS (bestL l) := .mk (by have:=h.len;have:=best_len l;omega) fun c hc=>h.els c ((best_pw l).2.2 c hc)
theorem ls_take {q:List Sh} {l:LL} {n:Nat} (h:LS q l):LS q (l.take n) := .mk (by rw [List.length_take];have:=h.len;omega) fun c hc=>h.els c (List.mem_of_mem_take hc)
theorem best_tk {l:LL} {n:Nat} (h:LS pairS l):bestL ((bestL l).take n)=(bestL l).take n :=
 best_self (ls_take (best_ls' h)) ((best_pw l).1.sublist (List.take_sublist _ _)) ((best_pw l).2.1.sublist (List.take_sublist _ _))
theorem known_succ {k:Int} (h:0≤k):knownL (k+1)=knownL k++[[dn k,dn 0]]:=by
 unfold knownL
 rw [show (k+1).toNat=k.toNat+1 by omega,List.range_succ,List.map_append]
 simp [Int.toNat_of_nonneg h]
theorem known_mem {k:Int} {c:List D} (h:c∈knownL k):∃ i:Nat,(i:Int)<k∧c=[dn (i:Int),dn 0]:=by
 unfold knownL at h
 obtain ⟨i,hi,e⟩:=List.mem_map.1 h
 rw [List.mem_range] at hi
 exact ⟨i,by omega,e.symm⟩
theorem known_len {k:Int}:(knownL k).length=k.toNat:=by unfold knownL;simp
theorem known_ls {k:Int} (h:k≤1000):LS pairS (knownL k) := .mk (by rw [known_len];omega) fun c hc=>by
 obtain ⟨i,hi,rfl⟩:=known_mem hc
 simp only [pairS,dshs_cons,dshs_nil,dsh_int,rng64,and_true]
 omega
def nbrL (own k cap:Int):LL:=(bestL (fltD own (knownL k))).take cap.toNat
theorem nbr_cb {own k cap:Int} (h0:0≤own) (h1:own≤7) (h2:1≤cap) (h3:cap≤6) (hk:k≤8):p_cacheB [dn own,dn cap, .fs (nbrL own k cap)]:=by
 have hls:LS pairS (fltD own (knownL k)):=flt_ls (known_ls (by omega))
 have hm:∀ c∈nbrL own k cap,c∈fltD own (knownL k):=fun c hc=>(best_pw _).2.2 c (List.mem_of_mem_take hc)
 have hf:fltD own (nbrL own k cap)=nbrL own k cap:=by
  rw [flt_filter,List.filter_eq_self]
  intro c hc
  have:=hm c hc
  rw [flt_filter] at this
  exact (List.mem_filter.1 this).2
 have hl:((nbrL own k cap).length:Int)≤cap:=by unfold nbrL;rw [List.length_take];omega
 refine ⟨h0,h1,h2,h3,hl,?_,?_⟩
 ·show e_desc (fltD own (nbrL own k cap))=0
  rw [hf]
  refine desc_iff.2 ⟨by omega,fun c hc=>?_⟩
  have:=hm c hc
  rw [flt_filter] at this
  obtain ⟨i,hi,rfl⟩:=known_mem (List.mem_filter.1 this).1
  show 0≤(i:Int)∧(i:Int)<8∧(0:Int)≤0∧(0:Int)≤2147483647
  omega
 ·show bestL (fltD own (nbrL own k cap))=nbrL own k cap
  rw [hf]
  exact best_tk hls
def newK (b d i v k:Int):List D:=[dn i,dn v,db true,dn b,dn 0,dn 0,dn 0,dn 0,db false,D.fs [],dn 0,db false,D.fs [],dn 0,db false,D.fs [],dn 0,db false,D.fs [],dn 0,db false,dn 0,dn 0,D.fs [],db false,dn 0,dn 0,D.fs [],dn i,dn d,D.fs (nbrL i k d),D.fs [],D.fs []]
def bornC (b d i v k:Int):List D:=[dn i,dn v,db true,dn b,dn 0,dn 0,dn 0,dn 0]++begC v (decide (i=0)) 0 i++[db false,dn 0,dn 0,D.fs [],dn i,dn d,D.fs (nbrL i k d),D.fs [],D.fs []]
def p_born (b d i v k:Int):Prop:=0≤i∧i≤7∧1≤d∧d≤6∧inV v∧1≤b∧b≤64∧k≤8
theorem born_may {b d i v k:Int} (h:p_born b d i v k):p_node (newK b d i v k):=by
 obtain ⟨g1,g2,g3,g4,⟨g5,g6⟩,g7,g8,g9⟩:=h
 have hc:=nbr_cb g1 g2 g3 g4 g9
 refine ⟨?_,fun _=>hc⟩
 unfold newK
 refine node_mk g1 g2 ⟨g5,g6,?_,part_z,fun h=>absurd (show (0:Int)≤0 by omega) h,fun _=>⟨rfl,rfl⟩,fun h=>Bool.noConfusion h,e_seen_nil,e_timer_nil,rfl,e_past_nil,fun h=>absurd h (by decide),g3,g4,hc.2.2.2.2.1⟩
 show (1:Int)≤b∧b≤64∧(0:Int)≤0∧(0:Int)≤0∧(0:Int)≤2147483647∧(0:Int)≤0∧(0:Int)≤65535∧(0:Int)≤0∧(0:Int)≤65536∧((0:Int)-0≥b→(0:Int)=65535)
 refine ⟨?_,?_,?_,?_,?_,?_,?_,?_,?_,?_⟩ <;> omega
theorem born_seed {b d i v k:Int} (h:p_born b d i v k):m_seed (newK b d i v k) (decide (i=0))=[.a (bornC b d i v k),vn 0]:=by
 unfold m_seed
 rw [if_neg (fun hh=>hh (born_may h)),if_neg (by show ¬true=false;decide),if_neg (fun hh=>hh (show (0:Int)≤0 by omega)),if_neg (fun hh=>hh rfl)]
 rfl
def nodesL (b d:Int) (l:LL) (j n:Int):LL:=(List.range n.toNat).map fun (i:Nat)=>if (i:Int)<j then bornC b d (i:Int) (nth l i 0) (l.length:Int) else downC (i:Int)
def seedsL (l:LL) (j:Int):LL:=(List.range j.toNat).map fun (i:Nat)=>[dn 0,dn (i:Int),dn (nth l i 0)]
theorem nodes_zero {b d n:Int} {l:LL}:nodesL b d l 0 n=downsL n:=by
 unfold nodesL downsL
 refine List.map_congr_left fun i hi=>?_
 rw [if_neg (by omega)]
theorem nodes_len {b d j n:Int} {l:LL}:(nodesL b d l j n).length=n.toNat:=by unfold nodesL;simp
theorem seeds_len {j:Int} {l:LL}:(seedsL l j).length=j.toNat:=by unfold seedsL;simp
theorem seeds_succ {l:LL} {j:Int} (h:0≤j):seedsL l (j+1)=seedsL l j++[[dn 0,dn j,dn (nth l j.toNat 0)]]:=by
 unfold seedsL
 rw [show (j+1).toNat=j.toNat+1 by omega,List.range_succ,List.map_append]
 simp [Int.toNat_of_nonneg h]
theorem nodes_set {b d j n:Int} {l:LL} (h0:0≤j) (h:j<n):(nodesL b d l j n).set j.toNat (bornC b d j (nth l j.toNat 0) (l.length:Int))=nodesL b d l (j+1) n:=by
 refine List.ext_getElem (by rw [List.length_set,nodes_len,nodes_len]) fun i h1 h2=>?_
 simp only [nodesL,List.getElem_set,List.getElem_map,List.getElem_range]
 by_cases e:j.toNat=i
 ·subst e
  rw [if_pos rfl,if_pos (by omega),Int.toNat_of_nonneg h0]
 ·rw [if_neg e]
  by_cases h3:(i:Int)<j
  ·rw [if_pos h3,if_pos (by omega)]
  ·rw [if_neg h3,if_neg (by omega)]
theorem nodes_yes {b d j n:Int} {l:LL} (h0:0≤n) (h:n<j):nodesL b d l j (n+1)=nodesL b d l j n++[bornC b d n (nth l n.toNat 0) (l.length:Int)]:=by
 unfold nodesL
 rw [show (n+1).toNat=n.toNat+1 by omega,List.range_succ,List.map_append]
 simp only [List.map_cons,List.map_nil,Int.toNat_of_nonneg h0,if_pos h]
theorem nodes_no {b d j n:Int} {l:LL} (h0:0≤n) (h:j≤n):nodesL b d l j (n+1)=nodesL b d l j n++[downC n]:=by
 unfold nodesL
 rw [show (n+1).toNat=n.toNat+1 by omega,List.range_succ,List.map_append]
 simp only [List.map_cons,List.map_nil,Int.toNat_of_nonneg h0,if_neg (show ¬n<j by omega)]
def confC (a b c d:Int):List D:=[dn a,dn b,dn c,dn d]
def m_world (a b c d:Int) (l:LL):List DV :=
 if okW a b c d l then [.a (confC a b c d++[.fs (nodesL b d l l.length a), .fs [], .fs [], .fs [], .fs (seedsL l l.length),dn 0]),vn 0]
 else [.a (confC 0 0 0 0++[.fs [], .fs [], .fs [], .fs [], .fs [],dn 0]),vn 2]
end Go.Vc
