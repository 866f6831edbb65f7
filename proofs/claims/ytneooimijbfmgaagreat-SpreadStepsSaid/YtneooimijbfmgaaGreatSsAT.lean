import Derived.Test.YtneooimijbfmgaaGreatSsAS
set_option linter.unusedVariables false
set_option linter.unusedSimpArgs false
set_option linter.unusedSectionVars false
noncomputable section
namespace Go.Vc
open Classical
def ltT (c d:List D):Prop:=ahead (gI c 0) (gI c 1) (gI d 0) (gI d 1)
def elT (l:LL) (k:Nat):List D:=(l[k]?).getD []
def leT (l:LL) (i j:Nat):Prop:=¬ltT (elT l j) (elT l i)
theorem ltT.irr (c:List D):¬ltT c c:=fun h=>by unfold ltT ahead at h;omega
theorem ltT.trans {a b c:List D} (h:ltT a b) (h2:ltT b c):ltT a c:=by unfold ltT ahead at *;omega
theorem nltT.trans {a b c:List D} (h:¬ltT b a) (h2:¬ltT c b):¬ltT c a:=by unfold ltT ahead at *;omega
theorem ltT.asym {a b:List D} (h:ltT a b):¬ltT b a:=by unfold ltT ahead at *;omega
theorem leT.refl (l:LL) (i:Nat):leT l i i:=ltT.irr _
theorem leT.trans {l:LL} {i j k:Nat} (h:leT l i j) (h2:leT l j k):leT l i k:=nltT.trans h h2
def hpA (l:LL) (n:Nat):Prop:=∀ k,0<k→k<n→leT l ((k-1) / 2) k
def hpT (l:LL) (n i:Nat):Prop:=∀ k,0<k→k<n→((k-1) / 2≠i→leT l ((k-1) / 2) k)∧((k-1) / 2=i→0<i→leT l ((i-1) / 2) k)
theorem hpA.root {l:LL} {n:Nat} (h:hpA l n):∀ k,k<n→leT l 0 k:=by
 intro k
 induction k using Nat.strongRecOn with
 | _ k ih =>
  intro hk
  by_cases h0:k=0
  ·subst h0;exact leT.refl l 0
  ·exact (ih ((k-1) / 2) (by omega) (by omega)).trans (h k (by omega) hk)
theorem Cg {l:LL} {k:Nat} {c:List D} (h:l[k]?=some c):elT l k=c:=by unfold elT;rw [h];rfl
theorem Any {l:LL} {i k:Nat} {c:List D} (hi:i<l.length):elT (l.set i c) k=if k=i then c else elT l k:=by
 unfold elT
 rw [List.getElem?_set]
 by_cases e:i=k
 ·subst e;simp [hi]
 ·rw [if_neg e,if_neg (Ne.symm e)]
theorem Fw {l:LL} {i j k:Nat} {c d:List D} (hi:l[i]?=some d) (hj:l[j]?=some c):elT ((l.set i c).set j d) k=if k=j then elT l i else if k=i then elT l j else elT l k:=by
 have hil:=(List.getElem?_eq_some_iff.1 hi).1
 have hjl:=(List.getElem?_eq_some_iff.1 hj).1
 rw [Any (by rw [List.length_set];exact hjl),Any hil,Cg hi,Cg hj]
theorem hpT.step {l:LL} {n i j:Nat} {c d:List D} (h:hpT l n i) (hi:l[i]?=some d) (hj:l[j]?=some c) (hjn:j<n) (hp:(j-1) / 2=i) (h0:0<j) (hlt:ltT c d) (hmin:∀ k,0<k→k<n→(k-1) / 2=i→leT l j k):hpT ((l.set i c).set j d) n j:=by
 intro k hk hkn
 have hil:=(List.getElem?_eq_some_iff.1 hi).1
 have ei:=Cg hi
 have ej:=Cg hj
 unfold leT at *
 simp only [Fw hi hj]
 refine ⟨fun hne=>?_,fun he h0j=>?_⟩
 ·have:=h k hk hkn
  unfold leT at this
  rw [if_neg hne]
  by_cases e1:(k-1) / 2=i
  ·rw [if_pos e1]
   by_cases e2:k=j
   ·rw [if_pos e2,ei,ej];exact ltT.asym hlt
   ·rw [if_neg e2,if_neg (show k≠i by omega)];exact hmin k hk hkn e1
  ·rw [if_neg e1]
   by_cases e2:k=j
   ·exfalso;subst e2;exact e1 hp
   ·rw [if_neg e2]
    by_cases e3:k=i
    ·rw [if_pos e3]
     have:=(h j h0 hjn).2 hp (by omega)
     unfold leT at this
     rw [e3];exact this
    ·rw [if_neg e3];exact this.1 e1
 ·have h1:¬(j-1) / 2=j:=by omega
  rw [if_neg h1,if_pos hp]
  have h2:k≠j:=by omega
  have h3:k≠i:=by omega
  rw [if_neg h2,if_neg h3]
  have:=(h k hk hkn).1 (by omega)
  unfold leT at this
  rw [he] at this
  exact this
theorem hpA.top {l:LL} {n:Nat} {c d:List D} (h:hpA l (n+1)) (hn:l[n]?=some c) (h0:l[0]?=some d):hpT ((l.set 0 c).set n d) n 0:=by
 intro k hk hkn
 refine ⟨fun hne=>?_,fun _ h=>absurd h (by omega)⟩
 unfold leT
 rw [Fw h0 hn,Fw h0 hn,if_neg (by omega),if_neg (by omega),if_neg (by omega),if_neg (by omega)]
 exact h k hk (by omega)
def risT (l:LL):Prop:=l.Pairwise ltT
theorem Abk {l:LL} (h:Bh l=0):risT l:=by
 unfold Bh at h
 split at h
 ·cases h
 ·split at h
  ·rename_i hu
   refine List.pairwise_iff_getElem.2 fun i j hi hj hij=>?_
   have key:∀ j,i<j→j<l.length→ltT (elT l i) (elT l j):=by
    intro j
    induction j with
    | zero=>intro h;omega
    | succ j ih =>
     intro hij hj
     have h1:=(hu (j+1) (by omega)).2 (by omega)
     have h2:ltT (elT l j) (elT l (j+1)):=h1
     by_cases e:i=j
     ·subst e;exact h2
     ·exact (ih (by omega) (by omega)).trans h2
   have:=key j hij hj
   unfold elT at this
   rw [List.getElem?_eq_getElem hi,List.getElem?_eq_getElem hj] at this
   exact this
  ·cases h
theorem Aje {l:LL} (h:risT l):hpA l l.length:=fun k h0 hk=>by
 have:=List.pairwise_iff_getElem.1 h ((k-1) / 2) k (by omega) hk (by omega)
 unfold leT elT
 rw [List.getElem?_eq_getElem (show (k-1) / 2<l.length by omega),List.getElem?_eq_getElem hk]
 exact ltT.asym this
def dueT (l:LL) (now:Int):LL:=l.filter fun c=>decide (gI c 0≤now)
def leftT (l:LL) (now:Int):LL:=l.filter fun c=>decide (now<gI c 0)
def tmF (l0:LL) (now:Int) (a b p:LL):Prop:=(a++(b++p)).Perm l0∧(∀ c∈a,gI c 0≤now)∧(∀ c∈b,now<gI c 0)∧hpA p p.length∧(a.Pairwise fun c d=>¬ltT d c)∧(b.Pairwise fun c d=>¬ltT d c)∧∀ d∈p,(∀ c∈a,¬ltT d c)∧∀ c∈b,¬ltT d c
theorem tmF.zero {l0:LL} {now:Int} (h:Bh l0=0):tmF l0 now [] [] l0:=⟨List.Perm.refl _,fun c hc=>(by cases hc),fun c hc=>(by cases hc),Aje (Abk h), .nil, .nil,fun d _=>⟨fun c hc=>(by cases hc),fun c hc=>(by cases hc)⟩⟩
def poT (p q:LL) (n:Nat):Prop:=q.Perm p∧n+1=p.length∧hpA q n∧∀ d∈p,¬ltT d (elT q n)
def poW (p q:LL) (n:Nat) (i:Nat):Prop:=q.Perm p∧n+1=p.length∧hpT q n i∧∀ d∈p,¬ltT d (elT q n)
theorem hpA.least {p:LL} (h:hpA p p.length) {c:List D} (h0:p[0]?=some c):∀ d∈p,¬ltT d c:=by
 intro d hd
 obtain ⟨k,hk,e⟩:=List.getElem_of_mem hd
 have:=h.root k hk
 unfold leT at this
 rw [Cg h0,Cg (show p[k]?=some d by rw [List.getElem?_eq_getElem hk,e])] at this
 exact this
theorem poW.zero {p:LL} {n:Nat} {c d:List D} (h:hpA p p.length) (hn:n+1=p.length) (hc:p[n]?=some c) (hd:p[0]?=some d):poW p ((p.set 0 c).set n d) n 0:=by
 have hc':=List.getElem?_eq_some_iff.1 hc
 have hd':=List.getElem?_eq_some_iff.1 hd
 refine ⟨?_,hn,(show hpA p (n+1) by rw [hn];exact h).top hc hd,?_⟩
 ·have:=List.set_set_perm hd'.1 hc'.1
  rw [hd'.2,hc'.2] at this
  exact this
 ·rw [Fw hd hc,if_pos rfl,Cg hd]
  exact h.least hd
theorem poW.step {p q:LL} {n i j:Nat} {c d:List D} (h:poW p q n i) (hi:q[i]?=some d) (hj:q[j]?=some c) (hjn:j<n) (hp:(j-1) / 2=i) (h0:0<j) (hlt:ltT c d) (hmin:∀ k,0<k→k<n→(k-1) / 2=i→leT q j k):poW p ((q.set i c).set j d) n j:=by
 have hi':=List.getElem?_eq_some_iff.1 hi
 have hj':=List.getElem?_eq_some_iff.1 hj
 refine ⟨?_,h.2.1,h.2.2.1.step hi hj hjn hp h0 hlt hmin,?_⟩
 ·have:=List.set_set_perm hi'.1 hj'.1
  rw [hi'.2,hj'.2] at this
  exact this.trans h.1
 ·rw [Fw hi hj,if_neg (by omega),if_neg (by omega)]
  exact h.2.2.2
theorem poT.len {p q:LL} {n:Nat} (h:poT p q n):q.length=p.length:=h.1.length_eq
theorem poW.len {p q:LL} {n i:Nat} (h:poW p q n i):q.length=p.length:=h.1.length_eq
theorem poT.split {p q:LL} {n:Nat} {c:List D} (h:poT p q n) (hk:q[n]?=some c):q=q.take n++[c]∧hpA (q.take n) (q.take n).length∧(q.take n++[c]).Perm p∧∀ d∈p,¬ltT d c:=by
 have hl:=h.len
 have e:=Ab3 hk (by rw [hl];exact h.2.1)
 refine ⟨e,fun k h0 hk'=>?_,by rw [←e];exact h.1,by have:=h.2.2.2;rw [Cg hk] at this;exact this⟩
 rw [List.length_take] at hk'
 have:=h.2.2.1 k h0 (by omega)
 unfold leT elT at *
 rw [List.getElem?_take_of_lt (by omega),List.getElem?_take_of_lt (by omega)]
 exact this
theorem tmF.left {l0 a b p q:LL} {now:Int} {n:Nat} {x y:Int} (h:tmF l0 now a b p) (hq:poT p q n) (hk:q[n]?=some [dn x,dn y]) (hx:¬x≤now):tmF l0 now a (b++[[dn x,dn y]]) (q.take n):=by
 obtain ⟨h1,h2,h3,h4,h5,h6,h7⟩:=h
 obtain ⟨e,g1,g2,g3⟩:=hq.split hk
 have hm:[dn x,dn y]∈p:=(g2.mem_iff).1 (List.mem_append_right _ (List.mem_singleton.2 rfl))
 have hs:∀ d∈q.take n,d∈p:=fun d hd=>(g2.mem_iff).1 (List.mem_append_left _ hd)
 refine ⟨?_,h2,fun c hc=>?_,g1,h5,?_,fun d hd=>⟨(h7 d (hs d hd)).1,fun c hc=>?_⟩⟩
 ·refine List.Perm.trans ?_ h1
  have e2:([[dn x,dn y]]++q.take n).Perm p:=List.perm_append_comm.trans g2
  rw [List.append_assoc]
  exact (e2.append_left b).append_left a
 ·rcases List.mem_append.1 hc with hc | hc
  ·exact h3 c hc
  ·rw [List.mem_singleton] at hc;subst hc;exact Int.lt_of_not_ge hx
 ·refine List.pairwise_append.2 ⟨h6,List.pairwise_singleton _ _,fun c hc d hd=>?_⟩
  rw [List.mem_singleton] at hd;subst hd
  exact (h7 _ hm).2 c hc
 ·rcases List.mem_append.1 hc with hc | hc
  ·exact (h7 d (hs d hd)).2 c hc
  ·rw [List.mem_singleton] at hc;subst hc;exact g3 d (hs d hd)
theorem Yg {c:List D} (h:DShs pairS c):∃ x y,c=[dn x,dn y]:=by
 obtain ⟨h1,h2⟩:=h
 match c,h1 with
 | [u,v],_ =>
  have a:=h2 0 s64 u rfl rfl
  have b:=h2 1 s64 v rfl rfl
  cases a;cases b
  exact ⟨_,_,rfl⟩
theorem ltT.eq {c d:List D} (hc:DShs pairS c) (hd:DShs pairS d) (h1:¬ltT c d) (h2:¬ltT d c):c=d:=by
 obtain ⟨x,y,rfl⟩:=Yg hc
 obtain ⟨u,v,rfl⟩:=Yg hd
 have e:x=u∧y=v:=by
  unfold ltT ahead at h1 h2
  change ¬(x<u∨x=u∧y<v) at h1
  change ¬(u<x∨u=x∧v<y) at h2
  omega
 rw [e.1,e.2]
theorem Agk {l r:LL} (hs:∀ c∈l,DShs pairS c) (hp:r.Perm l) (hr:r.Pairwise fun c d=>¬ltT d c) (hl:risT l):r=l:=by
 refine List.Perm.eq_of_pairwise (le:=fun c d=>¬ltT d c) (fun c d hc hd h1 h2=>?_) hr (List.Pairwise.imp (fun h=>ltT.asym h) hl) hp
 exact ltT.eq (hs c (hp.mem_iff.1 hc)) (hs d hd) h2 h1
theorem tmF.fin {l0 a b p:LL} {now:Int} (h:tmF l0 now a b p) (h0:Bh l0=0) (hs:LS pairS l0) (hp:¬(p.length:Int)>0):a=dueT l0 now∧b=leftT l0 now:=by
 have:p=[]:=List.length_eq_zero_iff.1 (by omega)
 subst this
 obtain ⟨h1,h2,h3,_,h5,h6,_⟩:=h
 rw [List.append_nil] at h1
 have hr:=Abk h0
 have ea:(a++b).filter (fun c=>decide (gI c 0≤now))=a:=by
  rw [List.filter_append,List.filter_eq_self.2 (fun c hc=>decide_eq_true (h2 c hc)),List.filter_eq_nil_iff.2 (fun c hc=>by have:=h3 c hc;simp;omega),List.append_nil]
 have eb:(a++b).filter (fun c=>decide (now<gI c 0))=b:=by
  rw [List.filter_append,List.filter_eq_self.2 (fun c hc=>decide_eq_true (h3 c hc)),List.filter_eq_nil_iff.2 (fun c hc=>by have:=h2 c hc;simp;omega),List.nil_append]
 refine ⟨Agk (fun c hc=>hs.els c (List.mem_filter.1 hc).1) ?_ h5 (List.Pairwise.filter _ hr),Agk (fun c hc=>hs.els c (List.mem_filter.1 hc).1) ?_ h6 (List.Pairwise.filter _ hr)⟩
 ·have:=h1.filter (fun c=>decide (gI c 0≤now));rw [ea] at this;exact this
 ·have:=h1.filter (fun c=>decide (now<gI c 0));rw [eb] at this;exact this
end Go.Vc

namespace Go.Vc
open Classical
def befD (c d:List D):Prop:=gI d 1<gI c 1∨gI c 1=gI d 1∧gI c 0<gI d 0
theorem befD.irr (c:List D):¬befD c c:=fun h=>by unfold befD at h;omega
theorem nbefD.trans {a b c:List D} (h:¬befD b a) (h2:¬befD c b):¬befD c a:=by unfold befD at *;omega
theorem befD.trans {a b c:List D} (h:befD a b) (h2:befD b c):befD a c:=by unfold befD at *;omega
theorem befD.asym {a b:List D} (h:befD a b):¬befD b a:=by unfold befD at *;omega
theorem befD.eq {c d:List D} (hc:DShs pairS c) (hd:DShs pairS d) (h1:¬befD c d) (h2:¬befD d c):c=d:=by
 obtain ⟨x,y,rfl⟩:=Yg hc
 obtain ⟨u,v,rfl⟩:=Yg hd
 have e:x=u∧y=v:=by
  unfold befD at h1 h2
  change ¬(v<y∨y=v∧x<u) at h1
  change ¬(y<v∨v=y∧u<x) at h2
  omega
 rw [e.1,e.2]
theorem cmpD {a b c d x:Int} (h:x=if cmpI d b≠0 then cmpI d b else cmpI a c):(x<0↔befD [dn a,dn b] [dn c,dn d]):=by
 unfold befD
 show x<0↔(d<b∨b=d∧a<c)
 subst h
 unfold cmpI
 by_cases h1:d<b
 ·simp [h1]
 ·by_cases h2:b<d
  ·have:¬d=b:=by omega
   simp [h1,h2];omega
  ·have:b=d:=by omega
   subst this
   simp
   by_cases h3:a<c
   ·simp [h3]
   ·simp [h3];split <;> omega
def insI (l0 q:LL) (i:Int):Prop:=q.Perm l0∧∀ a b:Nat,a<b→(b:Int)<i→b<q.length→¬befD (elT q b) (elT q a)
def insJ (l0 q:LL) (i j:Int):Prop:=q.Perm l0∧∀ a b:Nat,a<b→(b:Int)≤i→b<q.length→(b:Int)≠j→¬befD (elT q b) (elT q a)
theorem insI.zero (l:LL):insI l l 1:=⟨List.Perm.refl l,fun a b h h2=>by omega⟩
theorem insI.into {l0 q:LL} {i:Int} (h:insI l0 q i):insJ l0 q i i:=⟨h.1,fun a b h1 h2 h3 h4=>h.2 a b h1 (by omega) h3⟩
theorem insI.len {l0 q:LL} {i:Int} (h:insI l0 q i):q.length=l0.length:=h.1.length_eq
theorem insJ.len {l0 q:LL} {i j:Int} (h:insJ l0 q i j):q.length=l0.length:=h.1.length_eq
theorem insJ.ls {l0 q:LL} {i j:Int} (h:insJ l0 q i j) (hs:LS pairS l0):LS pairS q := .mk (by rw [h.len];exact hs.len) fun c hc=>hs.els c (h.1.mem_iff.1 hc)
theorem insJ.out0 {l0 q:LL} {i j:Int} (h:insJ l0 q i j) (hj:j≤0):insI l0 q (i+1):=⟨h.1,fun a b h1 h2 h3=>h.2 a b h1 (by omega) h3 (by omega)⟩
theorem insJ.out {l0 q:LL} {i j:Int} {c d:List D} (h:insJ l0 q i j) (hj:0<j) (hc:q[j.toNat]?=some c) (hd:q[(j-1).toNat]?=some d) (hn:¬befD c d):insI l0 q (i+1):=⟨h.1,fun a b h1 h2 h3=>by
 by_cases hb:(b:Int)=j
 ·have e1:elT q b=c:=by rw [show b=j.toNat by omega];exact Cg hc
  have e2:elT q (j-1).toNat=d:=Cg hd
  by_cases ha:a=(j-1).toNat
  ·rw [e1,ha,e2];exact hn
  ·have:=h.2 a (j-1).toNat (by omega) (by omega) (by omega) (by omega)
   rw [e2] at this
   rw [e1]
   exact nbefD.trans this hn
 ·exact h.2 a b h1 (by omega) h3 hb⟩
theorem insJ.step {l0 q:LL} {i j:Int} {c d:List D} (h:insJ l0 q i j) (hj:0<j) (hij:j≤i) (hc:q[j.toNat]?=some c) (hd:q[(j-1).toNat]?=some d) (hn:befD c d):insJ l0 ((q.set j.toNat d).set (j-1).toNat c) i (j-1):=by
 have hc':=List.getElem?_eq_some_iff.1 hc
 have hd':=List.getElem?_eq_some_iff.1 hd
 refine ⟨?_,fun a b h1 h2 h3 h4=>?_⟩
 ·have:=List.set_set_perm hc'.1 hd'.1
  rw [hc'.2,hd'.2] at this
  exact this.trans h.1
 ·rw [List.length_set,List.length_set] at h3
  rw [Fw hc hd,Fw hc hd,if_neg (show ¬b=(j-1).toNat by omega),Cg hc,Cg hd]
  by_cases e1:b=j.toNat
  ·rw [if_pos e1]
   by_cases e2:a=(j-1).toNat
   ·rw [if_pos e2];exact befD.asym hn
   ·rw [if_neg e2,if_neg (by omega)]
    have:=h.2 a (j-1).toNat (by omega) (by omega) (by omega) (by omega)
    rw [Cg hd] at this
    exact this
  ·rw [if_neg e1]
   by_cases e2:a=(j-1).toNat
   ·rw [if_pos e2]
    have:=h.2 j.toNat b (by omega) h2 h3 (by omega)
    rw [Cg hc] at this
    exact this
   ·rw [if_neg e2]
    by_cases e3:a=j.toNat
    ·rw [if_pos e3]
     have:=h.2 (j-1).toNat b (by omega) h2 h3 (by omega)
     rw [Cg hd] at this
     exact this
    ·rw [if_neg e3]
     exact h.2 a b h1 h2 h3 (by omega)
def srtD (l:LL):LL:=l.mergeSort fun c d=>decide (¬befD d c)
theorem srtD.perm (l:LL):(srtD l).Perm l:=List.mergeSort_perm l _
theorem srtD.pw (l:LL):(srtD l).Pairwise fun c d=>¬befD d c:=by
 have:=List.pairwise_mergeSort (le:=fun c d=>decide (¬befD d c)) (fun a b c h1 h2=>decide_eq_true (nbefD.trans (of_decide_eq_true h1) (of_decide_eq_true h2))) (fun a b=>by
  by_cases h:befD b a
  ·have:=befD.asym h;simp [this]
  ·simp [h]) l
 exact List.Pairwise.imp (fun h=>of_decide_eq_true h) this
theorem srtD.ls {l:LL} (h:LS pairS l):LS pairS (srtD l) := .mk (by rw [(srtD.perm l).length_eq];exact h.len) fun c hc=>h.els c ((srtD.perm l).mem_iff.1 hc)
theorem srtD.one {l q:LL} (h:LS pairS l) (hp:q.Perm l) (hq:q.Pairwise fun c d=>¬befD d c):q=srtD l:=by
 refine List.Perm.eq_of_pairwise (le:=fun c d=>¬befD d c) (fun c d hc hd h1 h2=>?_) hq (srtD.pw l) (hp.trans (srtD.perm l).symm)
 exact befD.eq (h.els c (hp.mem_iff.1 hc)) (h.els d ((srtD.perm l).mem_iff.1 hd)) h2 h1
theorem Ay9 {q:LL} (h:∀ a b:Nat,a<b→b<q.length→¬befD (elT q b) (elT q a)):q.Pairwise fun c d=>¬befD d c :=
 List.pairwise_iff_getElem.2 fun i j hi hj hij=>by
  have:=h i j hij hj
  unfold elT at this
  rw [List.getElem?_eq_getElem hi,List.getElem?_eq_getElem hj] at this
  exact this
theorem insI.fin {l0 q:LL} {i:Int} (h:insI l0 q i) (hs:LS pairS l0) (hi:(l0.length:Int)≤i):q=srtD l0:=srtD.one hs h.1 (Ay9 fun a b h1 h2=>h.2 a b h1 (by have:=h.len;omega) h2)
def kpL (P:Nat→Prop) (s:LL):Nat→LL
 | 0=>[]
 | k+1=>if P k then kpL P s k++[elT s k] else kpL P s k
theorem kpL.le (P:Nat→Prop) (s:LL):∀ k,(kpL P s k).length≤k
 | 0=>Nat.le_refl 0
 | k+1=>by
  have:=kpL.le P s k
  unfold kpL
  split
  ·rw [List.length_append];exact Nat.succ_le_succ this
  ·omega
theorem kpL.lt {P:Nat→Prop} {s:LL} {k:Nat} (h:¬P k):(kpL P s (k+1)).length<k+1:=by
 have:=kpL.le P s k
 unfold kpL
 rw [if_neg h];omega
theorem kpL.yes {P:Nat→Prop} {s:LL} {k:Nat} {c:List D} (h:P k) (hc:s[k]?=some c):kpL P s (k+1)=kpL P s k++[c]:=by
 show (if P k then _ else _)=_
 rw [if_pos h,Cg hc]
theorem kpL.no {P:Nat→Prop} {s:LL} {k:Nat} (h:¬P k):kpL P s (k+1)=kpL P s k:=if_neg h
theorem kpL.all {P:Nat→Prop} {s:LL}:∀ {k:Nat},k≤s.length→(∀ i<k,P i)→kpL P s k=s.take k
 | 0,_,_=>by simp [kpL]
 | k+1,h,hp=>by
  rw [kpL.yes (hp k (by omega)) (List.getElem?_eq_getElem (show k<s.length by omega)),kpL.all (by omega) (fun i hi=>hp i (by omega)),List.take_add_one,List.getElem?_eq_getElem (show k<s.length by omega)]
  rfl
theorem kpL.mem {P:Nat→Prop} {s:LL}:∀ {k:Nat},k≤s.length→∀ c∈kpL P s k,c∈s
 | 0,_,c,hc=>by simp [kpL] at hc
 | k+1,h,c,hc=>by
  by_cases hp:P k
  ·rw [kpL.yes hp (List.getElem?_eq_getElem (show k<s.length by omega))] at hc
   rcases List.mem_append.1 hc with hc | hc
   ·exact kpL.mem (by omega) c hc
   ·rw [List.mem_singleton] at hc;subst hc;exact List.getElem_mem _
  ·rw [kpL.no hp] at hc;exact kpL.mem (by omega) c hc
def delI (P:Nat→Prop) (s q:LL) (i j:Int):Prop:=0≤i∧i<j∧j≤(s.length:Int)∧q.length=s.length∧q.take i.toNat=kpL P s j.toNat∧q.drop j.toNat=s.drop j.toNat∧∀ c∈q,c∈s
theorem delI.zero {P:Nat→Prop} {s:LL} {i j:Int} (h0:0≤i) (h:i<(s.length:Int)) (hp:∀ k:Nat,(k:Int)<i→P k) (hn:¬P i.toNat) (hj:j=i+1):delI P s s i j:=by
 subst hj
 refine ⟨h0,by omega,by omega,rfl,?_,rfl,fun c hc=>hc⟩
 rw [show (i+1).toNat=i.toNat+1 by omega,kpL.no hn,kpL.all (by omega) fun k hk=>hp k (by omega)]
theorem delI.at {P:Nat→Prop} {s q:LL} {i j:Int} (h:delI P s q i j):q[j.toNat]?=s[j.toNat]?:=by
 have:=congrArg (fun l=>l[0]?) h.2.2.2.2.2.1
 simpa using this
theorem delI.len {P:Nat→Prop} {s q:LL} {i j:Int} (h:delI P s q i j):q.length=s.length:=h.2.2.2.1
theorem delI.keep {P:Nat→Prop} {s q:LL} {i j i' j':Int} {c:List D} (h:delI P s q i j) (hj:j<(s.length:Int)) (hc:q[j.toNat]?=some c) (hp:P j.toNat) (hi':i'=i+1) (hj':j'=j+1):delI P s (q.set i.toNat c) i' j':=by
 have hs:s[j.toNat]?=some c:=by rw [←h.at];exact hc
 obtain ⟨h1,h2,h3,h4,h5,h6,h7⟩:=h
 subst hi';subst hj'
 refine ⟨by omega,by omega,by omega,by rw [List.length_set];exact h4,?_,?_,fun d hd=>?_⟩
 ·rw [show (i+1).toNat=i.toNat+1 by omega,show (j+1).toNat=j.toNat+1 by omega,kpL.yes hp hs,List.take_add_one,List.take_set_of_le (Nat.le_refl _),h5,List.getElem?_set_self (by omega)]
  rfl
 ·rw [show (j+1).toNat=j.toNat+1 by omega,List.drop_set_of_lt (by omega)]
  have:=congrArg (fun l=>l.drop 1) h6
  simpa [List.drop_drop] using this
 ·rcases List.mem_or_eq_of_mem_set hd with hd | hd
  ·exact h7 d hd
  ·rw [hd];exact List.mem_of_getElem? hs
theorem delI.skip {P:Nat→Prop} {s q:LL} {i j j':Int} (h:delI P s q i j) (hj:j<(s.length:Int)) (hp:¬P j.toNat) (hj':j'=j+1):delI P s q i j':=by
 obtain ⟨h1,h2,h3,h4,h5,h6,h7⟩:=h
 subst hj'
 refine ⟨h1,by omega,by omega,h4,?_,?_,h7⟩
 ·rw [show (j+1).toNat=j.toNat+1 by omega,kpL.no hp];exact h5
 ·rw [show (j+1).toNat=j.toNat+1 by omega]
  have:=congrArg (fun l=>l.drop 1) h6
  simpa [List.drop_drop] using this
theorem delI.fin {P:Nat→Prop} {s q:LL} {i j:Int} (h:delI P s q i j) (hj:(s.length:Int)≤j):q.take i.toNat=kpL P s s.length:=by
 rw [h.2.2.2.2.1,show j.toNat=s.length by have:=h.2.2.1;omega]
theorem delI.ls {P:Nat→Prop} {s q:LL} {i j:Int} {l:List Sh} (h:delI P s q i j) (hs:LS l s):LS l q:=by
 exact .mk (by rw [h.len];exact hs.len) fun c hc=>hs.els c (h.2.2.2.2.2.2 c hc)
def fstD (s:LL) (k:Nat):Prop:=∀ j<k,nth s j 0≠nth s k 0
def bestL (l:LL):LL:=kpL (fstD (srtD l)) (srtD l) l.length
end Go.Vc

namespace Go.Vc
open Classical
def fltD (own:Int) (l:LL):LL:=kpL (fun k=>nth l k 0≠own) l l.length
def Aq (c:List D):Prop:=0≤gI c 0∧gI c 0≤7∧1≤gI c 1∧gI c 1≤6∧((gL c 2).length:Int)≤gI c 1∧Bk (fltD (gI c 0) (gL c 2))=0∧bestL (fltD (gI c 0) (gL c 2))=gL c 2
def cacheC (c:List D):List D:=(c.drop 28).take 3
def Au (c:List D):Prop:=Qt c∧(gB c 2=true→Aq (cacheC c))
def tagsL (e n:Int):LL:=if h:∃ l,LSh [s32] l∧Nk e n l then Classical.choose h else []
theorem Ap4 {e n:Int} {l:LL} (h1:LSh [s32] l) (h:Nk e n l):l=tagsL e n:=by
 have hx:∃ l,LSh [s32] l∧Nk e n l:=⟨l,h1,h⟩
 unfold tagsL
 rw [dif_pos hx]
 exact Ai2 h (Classical.choose_spec hx).2
end Go.Vc

namespace Go.Vc
open Classical
def jn6 (q:LL) (n j1 j2:Int) (b:Bool):Prop:=(b=true→j2<n∧ltT (elT q j2.toNat) (elT q j1.toNat))∧(b=false→j2<n→¬ltT (elT q j2.toNat) (elT q j1.toNat))
def jn8 (q:LL) (i j:Int) (b:Bool):Prop:=(b=false→ltT (elT q j.toNat) (elT q i.toNat))∧(b=true→¬ltT (elT q j.toNat) (elT q i.toNat))
def poI (p q:LL) (i:Int):Prop:=0<p.length∧poW p q (p.length-1) i.toNat
def poE (p q:LL):Prop:=0<p.length∧poT p q (p.length-1)
theorem Az5 {q:LL} {n j1 j2:Int} (h:jn6 q n j1 j2 true):j2<n:=(h.1 rfl).1
theorem poI.len {p q:LL} {i:Int} (h:poI p q i):q.length=p.length:=h.2.len
theorem poE.len {p q:LL} (h:poE p q):q.length=p.length:=h.2.len
theorem tmF.len {l0 a b p:LL} {now:Int} (h:tmF l0 now a b p):a.length+(b.length+p.length)=l0.length:=by
 have:=h.1.length_eq
 rw [List.length_append,List.length_append] at this
 exact this
theorem poI.go {p q:LL} {i j n:Int} {c d:List D} {b:Bool} (h:poI p q i) (h6:jn6 q n (2*i+1) (2*i+1+1) b) (h8:jn8 q i j false) (hj:j=if b=true then 2*i+1+1 else 2*i+1) (hc:q[j.toNat]?=some c) (hd:q[i.toNat]?=some d) (hn:n=(p.length:Int)-1) (h0:0≤i) (hl:2*i+1<n):poI p ((q.set i.toNat c).set j.toNat d) j:=by
 obtain ⟨hp,h⟩:=h
 refine ⟨hp,h.step hd hc ?_ ?_ ?_ ?_ ?_⟩
 ·cases b
  ·rw [if_neg (by decide)] at hj;omega
  ·rw [if_pos rfl] at hj;have:=Az5 h6;omega
 ·cases b
  ·rw [if_neg (by decide)] at hj;omega
  ·rw [if_pos rfl] at hj;omega
 ·cases b
  ·rw [if_neg (by decide)] at hj;omega
  ·rw [if_pos rfl] at hj;omega
 ·have:=h8.1 rfl
  rw [Cg hc,Cg hd] at this
  exact this
 ·intro k hk hkn hki
  have hk2:k=(2*i+1).toNat∨k=(2*i+1+1).toNat:=by omega
  cases b
  ·rw [if_neg (by decide)] at hj
   subst hj
   rcases hk2 with rfl | rfl
   ·exact leT.refl _ _
   ·exact h6.2 rfl (by omega)
  ·rw [if_pos rfl] at hj
   subst hj
   rcases hk2 with rfl | rfl
   ·exact ltT.asym (h6.1 rfl).2
   ·exact leT.refl _ _
attribute [irreducible] poI poE jn6 jn8
end Go.Vc

namespace Go.Vc
open Classical
def Dp (l:LL):List DV:=if Bk l≠0 then [vl [],vn (Bk l)] else [vl (bestL l),vn 0]
theorem Ayy {l:LL} {x:Int} (hx:x=Bk l) (h:x≠0):[vl [],vn x]=Dp l:=by
 unfold Dp;rw [if_pos (hx▸h),hx]
theorem Aey {l r:LL} (h:Bk l=0) (hr:r=bestL l):[vl r,vn 0]=Dp l:=by
 unfold Dp;rw [if_neg (fun hh=>hh h),hr]
theorem best_nil:bestL []=[]:=rfl
def thA (s:LL) (k:Int) (ds:List DV) (o:Nat):Prop:=∀ v<8,(bi ds (v+o)=true↔∃ j<k.toNat,nth s j 0=Int.ofNat v)
def wasA (s:LL) (k x:Int) (b:Bool):Prop:=b=true↔∃ j<k.toNat,nth s j 0=x
theorem lt8 {P:Nat→Prop} (h0:P 0) (h1:P 1) (h2:P 2) (h3:P 3) (h4:P 4) (h5:P 5) (h6:P 6) (h7:P 7):∀ v<8,P v:=fun v hv=>by
 have:v=0∨v=1∨v=2∨v=3∨v=4∨v=5∨v=6∨v=7:=by omega
 rcases this with rfl | rfl | rfl | rfl | rfl | rfl | rfl | rfl <;> assumption
theorem thA.zero {s:LL} {ds:List DV} {o:Nat} (h:∀ v<8,bi ds (v+o)=false):thA s 0 ds o:=fun v hv=>by
 rw [h v hv]
 exact ⟨fun h=>Bool.noConfusion h,fun ⟨j,hj,_⟩=>absurd hj (by simp)⟩
theorem thA.mv {s:LL} {ds ds':List DV} {o o':Nat} {k:Int} (h:thA s k ds o) (he:∀ v<8,bi ds' (v+o')=bi ds (v+o)):thA s k ds' o':=fun v hv=>by rw [he v hv];exact h v hv
theorem thA.was {s:LL} {ds:List DV} {o:Nat} {k:Int} {b:Bool} (h:thA s k ds o) (v:Nat) (hv:v<8) (he:bi ds (v+o)=b):wasA s k (Int.ofNat v) b:=by
 unfold wasA;rw [←he];exact h v hv
theorem thA.set {s:LL} {ds ds':List DV} {o o':Nat} {k y:Int} {cs:List D} (h:thA s k ds o) (v:Nat) (hk:s[k.toNat]?=some (.raw (.int .i64 (Int.ofNat v))::cs)) (h0:0≤k) (hy:y=k+1) (he:∀ w<8,w≠v→bi ds' (w+o')=bi ds (w+o)) (hv:bi ds' (v+o')=true):thA s y ds' o':=fun w hw=>by
 have e:y.toNat=k.toNat+1:=by omega
 rw [e]
 have hn:=Cv hk
 by_cases hwv:w=v
 ·subst hwv
  rw [hv]
  exact ⟨fun _=>⟨k.toNat,by omega,hn⟩,fun _=>rfl⟩
 ·rw [he w hw hwv]
  refine (h w hw).trans ⟨fun ⟨j,hj,hh⟩=>⟨j,by omega,hh⟩,fun ⟨j,hj,hh⟩=>⟨j,?_,hh⟩⟩
  by_cases hjk:j=k.toNat
  ·subst hjk
   rw [hn] at hh
   exact absurd (Int.ofNat.inj hh).symm hwv
  ·omega
theorem Aec {s:LL} {k x:Int} {cs:List D} (h:wasA s k x false) (hk:s[k.toNat]?=some (.raw (.int .i64 x)::cs)):fstD s k.toNat:=fun j hj he=>by
 have:=h.2 ⟨j,hj,he.trans (Cv hk)⟩
 exact Bool.noConfusion this
theorem Asx {s:LL} {k x:Int} {cs:List D} (h:wasA s k x true) (hk:s[k.toNat]?=some (.raw (.int .i64 x)::cs)):¬fstD s k.toNat:=fun hf=>by
 obtain ⟨j,hj,he⟩:=h.1 rfl
 exact hf j hj (he.trans (Cv hk).symm)
theorem Am1 {s:LL} {k x:Int} {b:Bool} {cs:List D} (h:wasA s k x b) (hb:¬b=false) (hk:s[k.toNat]?=some (.raw (.int .i64 x)::cs)):¬fstD s k.toNat:=by
 cases b
 ·exact absurd rfl hb
 ·exact Asx h hk
theorem Ap0 {s:LL} {k x:Int} {cs:List D} (h:upto (fstD s) k) (h0:0≤k) (hw:wasA s k x false) (hk:s[k.toNat]?=some (.raw (.int .i64 x)::cs)):upto (fstD s) (k+1):=(Ag h0).2 ⟨h,Aec hw hk⟩
theorem delI.b {P:Nat→Prop} {s q:LL} {i j:Int} (h:delI P s q i j):0≤i∧i<j∧j≤(s.length:Int)∧q.length=s.length:=⟨h.1,h.2.1,h.2.2.1,h.2.2.2.1⟩
theorem delI.at' {P:Nat→Prop} {s q:LL} {i j:Int} {c:List D} (h:delI P s q i j) (hk:q[j.toNat]?=some c):s[j.toNat]?=some c:=by rw [←h.at];exact hk
theorem insI.ok {l q:LL} {i:Int} (h:insI l q i) (ho:okD l):okD q:=⟨by rw [h.len];exact ho.1,fun c hc=>ho.2 c (h.1.mem_iff.1 hc)⟩
theorem delI.ok {P:Nat→Prop} {s q:LL} {i j:Int} (h:delI P s q i j) (ho:okD s):okD q:=⟨by rw [h.len];exact ho.1,fun c hc=>ho.2 c (h.2.2.2.2.2.2 c hc)⟩
theorem insJ.step1 {l0 q:LL} {i j:Int} {a b c d a' b' c' d':Int} (h:insJ l0 q i j) (hn:cmpI d b<0) (hj:0<j) (hij:j≤i) (hc:q[j.toNat]?=some [dn a,dn b]) (hd:q[(j-1).toNat]?=some [dn c,dn d]) (hc':q[j.toNat]?=some [dn a',dn b']) (hd':q[(j-1).toNat]?=some [dn c',dn d']):insJ l0 ((q.set j.toNat [dn c',dn d']).set (j-1).toNat [dn a',dn b']) i (j-1):=by
 rw [hc] at hc';rw [hd] at hd';cases hc';cases hd'
 exact h.step hj hij hc hd ((cmpD rfl).1 (by split <;> omega))
theorem insJ.step2 {l0 q:LL} {i j:Int} {a b c d a' b' c' d':Int} (h:insJ l0 q i j) (hm:¬cmpI d b≠0) (hn:cmpI a c<0) (hj:0<j) (hij:j≤i) (hc:q[j.toNat]?=some [dn a,dn b]) (hd:q[(j-1).toNat]?=some [dn c,dn d]) (hc':q[j.toNat]?=some [dn a',dn b']) (hd':q[(j-1).toNat]?=some [dn c',dn d']):insJ l0 ((q.set j.toNat [dn c',dn d']).set (j-1).toNat [dn a',dn b']) i (j-1):=by
 rw [hc] at hc';rw [hd] at hd';cases hc';cases hd'
 exact h.step hj hij hc hd ((cmpD rfl).1 (by split <;> omega))
theorem insJ.out' {l0 q:LL} {i j:Int} {a b c d:Int} (h:insJ l0 q i j) (hj:0<j) (hc:q[j.toNat]?=some [dn a,dn b]) (hd:q[(j-1).toNat]?=some [dn c,dn d]) (hn:(cmpI d b≠0∧¬cmpI d b<0)∨(cmpI d b=0∧¬cmpI a c<0)):insI l0 q (i+1):=h.out hj hc hd (fun hh=>by have:=(cmpD rfl).2 hh;split at this <;> omega)
theorem Ao6 {l q:LL} {n i:Int} (h:insI l q i) (hs:LS pairS l) (hi:¬i<(l.length:Int)) (hu:upto (fstD q) n) (hn:¬n<(q.length:Int)):q=bestL l:=by
 have e:=h.fin hs (by omega)
 have hl:=h.len
 unfold bestL
 rw [←e,←hl,kpL.all (Nat.le_refl _) (fun k hk=>hu k (by omega)),List.take_length]
theorem Ajz {l q p r:LL} {x y i:Int} (h:insI l q i) (hs:LS pairS l) (hi:¬i<(l.length:Int)) (hd:delI (fstD q) q p x y) (hy:¬y<(p.length:Int)):(p.take x.toNat++r).take x.toNat=bestL l:=by
 have e:=h.fin hs (by omega)
 have hl:=h.len
 have hb:=hd.b
 rw [Ahs (by omega),hd.fin (by omega)]
 unfold bestL
 rw [←e,←hl]
attribute [irreducible] thA wasA
end Go.Vc

namespace Go.Vc
open Classical
def othD (own:Int) (l:LL) (k:Nat):Prop:=nth l k 0≠own
theorem Qu {own x:Int} {l:LL} {k:Int} {cs:List D} (hk:l[k.toNat]?=some (.raw (.int .i64 x)::cs)) (h:x=own):¬othD own l k.toNat:=fun hh=>hh ((Cv hk).trans h)
theorem Ki {own x:Int} {l:LL} {k:Int} {cs:List D} (hk:l[k.toNat]?=some (.raw (.int .i64 x)::cs)) (h:¬x=own):othD own l k.toNat:=fun hh=>h ((Cv hk).symm.trans hh)
theorem Eu {own n:Int} {l:LL} (hu:upto (othD own l) n) (hn:¬n<(l.length:Int)):fltD own l=l:=by
 unfold fltD
 rw [show (fun k=>nth l k 0≠own)=othD own l from rfl,kpL.all (Nat.le_refl _) (fun k hk=>hu k (by omega)),List.take_length]
theorem Cs {own x y:Int} {l p r:LL} (hd:delI (othD own l) l p x y) (hy:¬y<(p.length:Int)):(p.take x.toNat++r).take x.toNat=fltD own l:=by
 have hb:=hd.b
 rw [Ahs (by omega),hd.fin (by omega)]
 rfl
theorem Aee {own:Int} {l:LL}:(fltD own l).length≤l.length:=kpL.le _ _ _
theorem Ab6 {own:Int} {l:LL} (h:LS pairS l):LS pairS (fltD own l) := .mk (by have:=h.len;have:=Aee (own:=own) (l:=l);omega) fun c hc=>h.els c (kpL.mem (Nat.le_refl _) c hc)
theorem Lb {l r:LL} {x:Int} (h:[vl r,vn x]=Dp l):(x≠0→Bk l≠0)∧(x=0→Bk l=0∧r=bestL l):=by
 unfold Dp at h
 by_cases h0:Bk l=0
 ·rw [if_neg (fun hh=>hh h0)] at h
  simp only [List.cons.injEq,DV.c.injEq,D.raw.injEq,D.fs.injEq,Value.int.injEq,true_and,and_true] at h
  exact ⟨fun hx=>absurd h.2 hx,fun _=>⟨h0,h.1⟩⟩
 ·rw [if_pos h0] at h
  simp only [List.cons.injEq,DV.c.injEq,D.raw.injEq,D.fs.injEq,Value.int.injEq,true_and,and_true] at h
  exact ⟨fun _=>h0,fun hx=>absurd (h.2.symm.trans hx) h0⟩
theorem Aea {P:Nat→Prop} {s:LL} {c:List D}:∀ {k:Nat},k≤s.length→c∈kpL P s k→∃ i<k,P i∧s[i]?=some c
 | 0,_,hc=>by simp [kpL] at hc
 | k+1,h,hc=>by
  have hk:k<s.length:=by omega
  by_cases hp:P k
  ·rw [kpL.yes hp (List.getElem?_eq_getElem hk)] at hc
   rcases List.mem_append.1 hc with hc | hc
   ·obtain ⟨i,h1,h2,h3⟩:=Aea (by omega) hc
    exact ⟨i,by omega,h2,h3⟩
   ·rw [List.mem_singleton] at hc;subst hc;exact ⟨k,by omega,hp,List.getElem?_eq_getElem hk⟩
  ·rw [kpL.no hp] at hc
   obtain ⟨i,h1,h2,h3⟩:=Aea (by omega) hc
   exact ⟨i,by omega,h2,h3⟩
theorem Ou {a b:Int} {l:LL} (h:¬Aq [dn a,dn b, .fs l]):([vn 8]:List DV)=[vn (if Aq [dn a,dn b, .fs l] then 0 else 8)]:=by rw [if_neg h]
theorem Ac2 {a b:Int} {l:LL} (h:Aq [dn a,dn b, .fs l]):([vn 0]:List DV)=[vn (if Aq [dn a,dn b, .fs l] then 0 else 8)]:=by rw [if_pos h]
theorem Ata {a b:Int} {l:LL} (h:¬(0≤a∧a≤7∧1≤b∧b≤6∧(l.length:Int)≤b)):¬Aq [dn a,dn b, .fs l]:=fun hh=>h ⟨hh.1,hh.2.1,hh.2.2.1,hh.2.2.2.1,hh.2.2.2.2.1⟩
theorem Ss {a b x:Int} {l q r:LL} (hq:q=fltD a l) (hb:[vl r,vn x]=Dp q) (h:x≠0):¬Aq [dn a,dn b, .fs l]:=fun hh=>by
 have:=(Lb hb).1 h
 rw [hq] at this
 exact this hh.2.2.2.2.2.1
theorem Sr {a b x:Int} {l q r:LL} (hq:q=fltD a l) (hb:[vl r,vn x]=Dp q) (h:x=0) (hs:decide (r=l)=false):¬Aq [dn a,dn b, .fs l]:=fun hh=>by
 have h1:=(Lb hb).2 h
 have h2:=of_decide_eq_false hs
 rw [hq] at h1
 exact h2 (h1.2.trans hh.2.2.2.2.2.2)
theorem Aoy {a b x:Int} {l q r:LL} (h0:0≤a∧a≤7∧1≤b∧b≤6∧(l.length:Int)≤b) (hq:q=fltD a l) (hb:[vl r,vn x]=Dp q) (h:x=0) (hs:¬decide (r=l)=false):Aq [dn a,dn b, .fs l]:=by
 have h1:=(Lb hb).2 h
 have h2:r=l:=by
  by_cases e:r=l
  ·exact e
  ·exact absurd (decide_eq_false e) hs
 rw [hq] at h1
 exact ⟨h0.1,h0.2.1,h0.2.2.1,h0.2.2.2.1,h0.2.2.2.2,h1.1,h1.2.symm.trans h2⟩
theorem flt_nil {own:Int}:fltD own []=[]:=rfl
theorem Ev {own x:Int} {l q r:LL} (hq:q=fltD own l) (hb:[vl r,vn x]=Dp q) (hn:l.length≤9223372036854775807) (hs:LS pairS l):LSh pairS r:=by
 by_cases h:x=0
 ·have h1:=((Lb hb).2 h).2
  have hq2:LS pairS q:=hq▸Ab6 hs
  have e:(kpL (fstD (srtD q)) (srtD q) q.length).length≤q.length:=kpL.le _ _ _
  have e2:=hq2.len
  have hm:∀ c∈r,DShs pairS c:=fun c hc=>by
   rw [h1] at hc
   exact (srtD.ls hq2).els c (kpL.mem (by rw [(srtD.perm q).length_eq];exact Nat.le_refl _) c hc)
  have e3:r.length≤9223372036854775807:=by rw [h1];exact Nat.le_trans e e2
  exact ⟨e3, .mk e3 hm⟩
 ·have h1:=(Lb hb).1 h
  unfold Dp at hb
  rw [if_pos h1] at hb
  simp only [List.cons.injEq,DV.c.injEq,D.fs.injEq] at hb
  rw [hb.1]
  exact ⟨by simp,Ej⟩
end Go.Vc

namespace Go.Vc
open Classical
theorem Aly {l q:LL} {i a:Int} {c:List D} (hq:q=srtD (l.take i.toNat)) (hs:LS pairS l) (hk:l[i.toNat]?=some c) (h0:0≤i) (h1:∀ x:Nat,x<a.toNat→x<q.length→¬befD c (elT q x)) (h2:a.toNat<q.length→befD c (elT q a.toNat)):q.take a.toNat++[c]++q.drop a.toNat=srtD (l.take (i+1).toNat):=by
 have ht:l.take (i+1).toNat=l.take i.toNat++[c]:=Ao h0 hk
 have hls:LS pairS (l.take (i+1).toNat) := .mk (by rw [List.length_take];have:=hs.len;omega) fun x hx=>hs.els x (List.mem_of_mem_take hx)
 have hp:q.Perm (l.take i.toNat):=hq▸srtD.perm _
 have hw:q.Pairwise fun c d=>¬befD d c:=hq▸srtD.pw _
 refine srtD.one hls ?_ ?_
 ·rw [ht,List.append_assoc]
  have e1:(q.take a.toNat++([c]++q.drop a.toNat)).Perm ([c]++(q.take a.toNat++q.drop a.toNat)):=by
   rw [←List.append_assoc,←List.append_assoc]
   exact List.Perm.append_right _ List.perm_append_comm
  rw [List.take_append_drop] at e1
  exact e1.trans (List.perm_append_comm.trans (List.Perm.append_right _ hp))
 ·have hd:∀ d∈q.drop a.toNat,¬befD d c:=fun d hd hb=>by
   obtain ⟨y,hy,e⟩:=List.getElem_of_mem hd
   rw [List.getElem_drop] at e
   rw [List.length_drop] at hy
   have hlt:a.toNat<q.length:=by omega
   have h3:=h2 hlt
   rw [Cg (List.getElem?_eq_getElem hlt)] at h3
   have h4:=befD.trans hb h3
   by_cases ey:y=0
   ·subst ey
    rw [←e] at h4
    exact befD.irr _ h4
   ·have:=List.pairwise_iff_getElem.1 hw a.toNat (a.toNat+y) hlt (by omega) (by omega)
    rw [e] at this
    exact this h4
  have ht':∀ d∈q.take a.toNat,¬befD c d:=fun d hd=>by
   obtain ⟨y,hy,e⟩:=List.getElem_of_mem hd
   rw [List.length_take] at hy
   rw [List.getElem_take] at e
   have:=h1 y (by omega) (by omega)
   rw [Cg (List.getElem?_eq_getElem (by omega)),e] at this
   exact this
  rw [List.append_assoc,List.pairwise_append]
  refine ⟨hw.sublist (List.take_sublist _ _),?_,fun x hx y hy=>?_⟩
  ·rw [List.singleton_append,List.pairwise_cons]
   exact ⟨hd,hw.sublist (List.drop_sublist _ _)⟩
  ·rw [List.singleton_append,List.mem_cons] at hy
   rcases hy with rfl | hy
   ·exact ht' x hx
   ·obtain ⟨u,hu,eu⟩:=List.getElem_of_mem hx
    obtain ⟨v,hv,ev⟩:=List.getElem_of_mem hy
    rw [List.length_take] at hu
    rw [List.length_drop] at hv
    rw [List.getElem_take] at eu
    rw [List.getElem_drop] at ev
    have:=List.pairwise_iff_getElem.1 hw u (a.toNat+v) (by omega) (by omega) (by omega)
    rw [eu,ev] at this
    exact this
def fltI (own:Int) (l q:LL) (i:Int):Prop:=q=kpL (othD own l) l i.toNat
theorem fltI.zero {own:Int} {l:LL}:fltI own l [] 0:=rfl
theorem fltI.yes {own i x:Int} {l q:LL} {cs:List D} (h:fltI own l q i) (h0:0≤i) (hk:l[i.toNat]?=some (.raw (.int .i64 x)::cs)) (hx:¬x=own):fltI own l (q++[.raw (.int .i64 x)::cs]) (i+1):=by
 unfold fltI at *
 rw [show (i+1).toNat=i.toNat+1 by omega,kpL.yes (Ki hk hx) hk,h]
theorem fltI.no {own i x:Int} {l q:LL} {cs:List D} (h:fltI own l q i) (h0:0≤i) (hk:l[i.toNat]?=some (.raw (.int .i64 x)::cs)) (hx:x=own):fltI own l q (i+1):=by
 unfold fltI at *
 rw [show (i+1).toNat=i.toNat+1 by omega,kpL.no (Qu hk hx),h]
theorem fltI.fin {own i:Int} {l q:LL} (h:fltI own l q i) (hi:(l.length:Int)≤i) (hi2:i≤(l.length:Int)):q=fltD own l:=by
 unfold fltI at h
 rw [h,show i.toNat=l.length by omega]
 rfl
theorem fltI.len {own i:Int} {l q:LL} (h:fltI own l q i):q.length≤i.toNat:=by
 unfold fltI at h
 rw [h];exact kpL.le _ _ _
def srtI (l q:LL) (i:Int):Prop:=q=srtD (l.take i.toNat)
def srtJ (q:LL) (c0 c1 a:Int):Prop:=∀ x:Nat,x<a.toNat→x<q.length→¬befD [dn c0,dn c1] (elT q x)
theorem srtI.zero {l:LL}:srtI l [] 0:=by
 unfold srtI
 have:=(srtD.perm (List.take (0:Int).toNat l)).length_eq
 simp only [Int.toNat_zero,List.take_zero,List.length_nil] at this ⊢
 exact (List.length_eq_zero_iff.1 this).symm
theorem srtI.len {l q:LL} {i:Int} (h:srtI l q i):q.length=min i.toNat l.length:=by
 unfold srtI at h
 rw [h,(srtD.perm _).length_eq,List.length_take]
theorem srtJ.zero {q:LL} {c0 c1:Int}:srtJ q c0 c1 0:=fun x hx=>by simp at hx
theorem srtJ.step {q:LL} {c0 c1 a u v:Int} (h:srtJ q c0 c1 a) (ha:0≤a) (hk:q[a.toNat]?=some [dn u,dn v]) (hn:¬(c1>v∨c1=v∧c0<u)):srtJ q c0 c1 (a+1):=fun x hx hl hb=>by
 by_cases e:x=a.toNat
 ·subst e
  rw [Cg hk] at hb
  unfold befD at hb
  exact hn hb
 ·exact h x (by omega) hl hb
theorem srtI.put {l q:LL} {i a c0 c1:Int} (h:srtI l q i) (hj:srtJ q c0 c1 a) (hs:LS pairS l) (hk:l[i.toNat]?=some [dn c0,dn c1]) (h0:0≤i) (h2:¬a<(q.length:Int)) (ha:0≤a):srtI l (q.take a.toNat++[[dn c0,dn c1]]++q.drop a.toNat) (i+1) :=
 Aly h hs hk h0 hj (fun hh=>by omega)
theorem srtI.put2 {l q:LL} {i a c0 c1 u v:Int} (h:srtI l q i) (hj:srtJ q c0 c1 a) (hs:LS pairS l) (hk:l[i.toNat]?=some [dn c0,dn c1]) (h0:0≤i) (hq:q[a.toNat]?=some [dn u,dn v]) (h2:c1>v∨c1=v∧c0<u):srtI l (q.take a.toNat++[[dn c0,dn c1]]++q.drop a.toNat) (i+1) :=
 Aly h hs hk h0 hj (fun hh=>by rw [Cg hq];exact h2)
theorem srtI.fin {l q:LL} {i:Int} (h:srtI l q i) (hi:¬i<(l.length:Int)):q=srtD l:=by
 unfold srtI at h
 rw [h,List.take_of_length_le (by omega)]
theorem srtI.ls {l q:LL} {i:Int} (h:srtI l q i) (hs:LS pairS l):LS pairS q:=by
 unfold srtI at h
 rw [h]
 exact srtD.ls (.mk (by rw [List.length_take];have:=hs.len;omega) fun x hx=>hs.els x (List.mem_of_mem_take hx))
def fstI (l q:LL) (i:Int):Prop:=q=kpL (fstD l) l i.toNat
theorem fstI.zero {l:LL}:fstI l [] 0:=rfl
theorem fstI.len {i:Int} {l q:LL} (h:fstI l q i):q.length≤i.toNat:=by
 unfold fstI at h
 rw [h];exact kpL.le _ _ _
theorem fstI.yes {l q:LL} {i x:Int} {cs:List D} {b:Bool} (h:fstI l q i) (hw:wasA l i x b) (hb:b=false) (h0:0≤i) (hk:l[i.toNat]?=some (.raw (.int .i64 x)::cs)):fstI l (q++[.raw (.int .i64 x)::cs]) (i+1):=by
 subst hb
 unfold fstI at *
 rw [show (i+1).toNat=i.toNat+1 by omega,kpL.yes (Aec hw hk) hk,h]
theorem fstI.no {l q:LL} {i x:Int} {cs:List D} {b:Bool} (h:fstI l q i) (hw:wasA l i x b) (hb:¬b=false) (h0:0≤i) (hk:l[i.toNat]?=some (.raw (.int .i64 x)::cs)):fstI l q (i+1):=by
 unfold fstI at *
 rw [show (i+1).toNat=i.toNat+1 by omega,kpL.no (Am1 hw hb hk),h]
theorem fstI.fin {l q:LL} {i:Int} (h:fstI l q i) (hi:¬i<(l.length:Int)) (hi2:i≤(l.length:Int)):q=kpL (fstD l) l l.length:=by
 unfold fstI at h
 rw [h,show i.toNat=l.length by omega]
theorem wasA.zero {s:LL} {x:Int}:wasA s 0 x false:=by
 unfold wasA
 exact ⟨fun h=>Bool.noConfusion h,fun ⟨j,h,_⟩=>absurd h (by simp)⟩
end Go.Vc

namespace Go.Vc
open Classical
theorem Azs {c:List D} (h:¬Au c):([vn 8]:List DV)=[vn (if Au c then 0 else 8)]:=by rw [if_neg h]
theorem Axl {c:List D} (h:Au c):([vn 0]:List DV)=[vn (if Au c then 0 else 8)]:=by rw [if_pos h]
end Go.Vc

namespace Go.Vc
open Classical
def o_plF (l:LL) (e i x:Int):Prop:=(x=0→Be l=0∧0≤e∧e≤65535∧0≤i∧i≤(l.length:Int)∧ahd l e i i)∧(x≠0→(Be l≠0∧x=Be l)∨(Be l=0∧¬(0≤e∧e≤65535)∧x=2))
theorem o_plF.e1 {l:LL} {e i x:Int} (h:x≠0) (hx:x=Be l):o_plF l e i x:=⟨fun e=>absurd e h,fun _=>.inl ⟨hx▸h,hx⟩⟩
theorem o_plF.e2 {l:LL} {e i:Int} (hx:Be l=0) (h:¬(0≤e∧e≤65535)):o_plF l e i 2:=⟨fun e=>absurd e (by decide),fun _=>.inr ⟨hx,h,rfl⟩⟩
theorem o_plF.yes {l:LL} {e i j:Int} (h1:Be l=0) (h2:0≤e) (h3:e≤65535) (h4:0≤i) (h5:j≤(l.length:Int)) (h6:ahd l e i j) (h7:¬i<j) (h8:i≤j):o_plF l e i 0:=⟨fun _=>⟨h1,h2,h3,h4,by omega,(by have e:i=j:=(by omega);subst e;exact h6)⟩,fun h=>absurd rfl h⟩
theorem o_plF.get {l:LL} {e i x:Int} (h:o_plF l e i x) (h0:¬x≠0):Be l=0∧0≤e∧e≤65535∧0≤i∧i≤(l.length:Int)∧ahd l e i i:=h.1 (Decidable.not_not.1 h0)
attribute [irreducible] o_plF
end Go.Vc

namespace Go.Vc
open Classical
def wtI (tn b:Bool) (x y:Int) (due:LL) (i:Int) (o:Bool) (n t:Int):Prop:=[db o,dn n,dn t]=if tn=true∨(b=true∧∃ j<i.toNat,nth due j 1=x) then [db false,dn 0,dn 0] else [db b,dn x,dn y]
theorem Awh {o b:Bool} {n t x y:Int} (h:([db o,dn n,dn t]:List D)=[db b,dn x,dn y]):o=b∧n=x∧t=y:=by
 simp only [List.cons.injEq,D.raw.injEq,Value.bool.injEq,Value.int.injEq,true_and,and_true] at h
 exact h
theorem wtI.off {tn b:Bool} {x y i k:Int} {due:LL} {n t:Int} (h:wtI tn b x y due i false n t) (h0:0≤i) (he:k=i+1):wtI tn b x y due k false n t:=by
 unfold wtI at *
 by_cases hc:tn=true∨(b=true∧∃ j<i.toNat,nth due j 1=x)
 ·rw [if_pos hc] at h
  rw [if_pos,←h]
  rcases hc with hc | ⟨h1,j,h2,h3⟩
  ·exact .inl hc
  ·exact .inr ⟨h1,j,by omega,h3⟩
 ·rw [if_neg hc] at h
  obtain ⟨h1,h2,h3⟩:=Awh h
  rw [if_neg,←h]
  rintro (h4 | ⟨h5,_⟩)
  ·exact hc (.inl h4)
  ·rw [←h1] at h5;cases h5
attribute [irreducible] wtI
end Go.Vc

namespace Go.Vc
open Classical
theorem Ad9 (P:Nat→Prop) (s:LL):∀ {k:Nat},k≤s.length→(kpL P s k).Sublist (s.take k)
 | 0,_=>by simp [kpL]
 | k+1,hk=>by
  have hg:=List.getElem?_eq_getElem (show k<s.length by omega)
  rw [List.take_add_one,hg]
  by_cases hp:P k
  ·rw [kpL.yes hp hg];exact (Ad9 P s (by omega)).append (List.Sublist.refl _)
  ·rw [kpL.no hp];exact (Ad9 P s (by omega)).trans (List.sublist_append_left _ _)
theorem Am2 (s:LL):∀ {k:Nat},k≤s.length→(kpL (fstD s) s k).Pairwise fun c d=>gI c 0≠gI d 0
 | 0,_=>by simp [kpL]
 | k+1,hk=>by
  have hg:=List.getElem?_eq_getElem (show k<s.length by omega)
  by_cases hp:fstD s k
  ·rw [kpL.yes hp hg,List.pairwise_append]
   refine ⟨Am2 s (by omega),List.pairwise_singleton _ _,fun c hc d hd=>?_⟩
   obtain ⟨i,hi,_,e⟩:=Aea (by omega) hc
   rw [List.mem_singleton] at hd
   have:=hp i hi
   unfold nth at this
   rw [e,hg] at this
   rw [hd]
   exact this
  ·rw [kpL.no hp];exact Am2 s (by omega)
theorem Av6 (l:LL):((bestL l).Pairwise fun c d=>¬befD d c)∧((bestL l).Pairwise fun c d=>gI c 0≠gI d 0)∧∀ c∈bestL l,c∈l:=by
 have hl:l.length=(srtD l).length:=(srtD.perm l).length_eq.symm
 unfold bestL
 rw [hl]
 refine ⟨(srtD.pw l).sublist ((Ad9 _ _ (Nat.le_refl _)).trans (List.take_sublist _ _)),Am2 _ (Nat.le_refl _),fun c hc=>(srtD.perm l).mem_iff.1 (kpL.mem (Nat.le_refl _) c hc)⟩
end Go.Vc

namespace Go.Vc
open Classical
def limP (c:List D):Prop:=(gL c 1).length≤1048576∧(gL c 4).length≤1048576∧(gL c 7).length≤1048576∧(gL c 10).length≤1048576∧(gL c 15).length≤1048576
def limF (l:LL):Prop:=l.length≤1048576∧∀ c∈l,limP (c.drop 1)
def limN (c:List D):Prop:=limP ((c.drop 8).take 16)∧(gL c 27).length≤1048576∧(gL c 30).length≤1048576∧limF (gL c 31)∧(gL c 32).length≤1048576
theorem limF.at {l:LL} {k:Nat} {z:Int} {x10 x13 x16 x19 x21 x22:Int} {b8 b11 b14 b17 b20:Bool} {l9 l12 l15 l18 l23:LL} (h:limF l) (hk:l[k]?=some (dn z::[db b8,D.fs l9,dn x10,db b11,D.fs l12,dn x13,db b14,D.fs l15,dn x16,db b17,D.fs l18,dn x19,db b20,dn x21,dn x22,D.fs l23])):l9.length≤1048576∧l12.length≤1048576∧l15.length≤1048576∧l18.length≤1048576∧l23.length≤1048576:=h.2 _ (List.mem_of_getElem? hk)
theorem limN.of {x0 x1 x3 x4 x5 x6 x7 x10 x13 x16 x19 x21 x22 x25 x26 x28 x29:Int} {b2 b8 b11 b14 b17 b20 b24:Bool} {l9 l12 l15 l18 l23 l27 l30 l31 l32:LL} (h:limN [dn x0,dn x1,db b2,dn x3,dn x4,dn x5,dn x6,dn x7,db b8,D.fs l9,dn x10,db b11,D.fs l12,dn x13,db b14,D.fs l15,dn x16,db b17,D.fs l18,dn x19,db b20,dn x21,dn x22,D.fs l23,db b24,dn x25,dn x26,D.fs l27,dn x28,dn x29,D.fs l30,D.fs l31,D.fs l32]):(l9.length≤1048576∧l12.length≤1048576∧l15.length≤1048576∧l18.length≤1048576∧l23.length≤1048576)∧l27.length≤1048576∧l30.length≤1048576∧limF l31∧l32.length≤1048576:=h
theorem shpN {x:LL} (h:LS nodeS x):Shp [.int .i64, .int .i64, .bool, .int .i64, .int .i64, .int .i64, .int .i64, .int .i64, .bool, .sl, .int .i64, .bool, .sl, .int .i64, .bool, .sl, .int .i64, .bool, .sl, .int .i64, .bool, .int .i64, .int .i64, .sl, .bool, .int .i64, .int .i64, .sl, .int .i64, .int .i64, .sl, .sl, .sl] x:=DSh.shp h
theorem shpS {x:LL} (h:LS [s64,s64,s64] x):Shp [.int .i64, .int .i64, .int .i64] x:=DSh.shp h
end Go.Vc

namespace Go.Vc
theorem Ao1 {x y:BitVec 32} (h:x ^^^ (x >>> 16)=y ^^^ (y >>> 16)):x=y:=by
 have e:∀ z:BitVec 32,(z ^^^ (z >>> 16)) ^^^ ((z ^^^ (z >>> 16)) >>> 16)=z:=fun z=>by
  ext i hi
  simp only [BitVec.getElem_xor,BitVec.getElem_ushiftRight,BitVec.getLsbD_xor,BitVec.getLsbD_ushiftRight]
  rw [BitVec.getLsbD_of_ge z (16+(16+i)) (by omega),←BitVec.getLsbD_eq_getElem]
  cases z.getLsbD (16+i) <;> cases z.getLsbD i <;> rfl
 rw [←e x,←e y,h]
theorem Ao2 {x y:BitVec 32} (h:x ^^^ (x >>> 15)=y ^^^ (y >>> 15)):x=y:=by
 have e:∀ z:BitVec 32,(z ^^^ (z >>> 15)) ^^^ ((z ^^^ (z >>> 15)) >>> 15) ^^^ ((z ^^^ (z >>> 15)) >>> 30)=z:=fun z=>by
  ext i hi
  simp only [BitVec.getElem_xor,BitVec.getElem_ushiftRight,BitVec.getLsbD_xor,BitVec.getLsbD_ushiftRight]
  rw [BitVec.getLsbD_of_ge z (15+(30+i)) (by omega),←BitVec.getLsbD_eq_getElem,show 15+(15+i)=30+i by omega]
  cases z.getLsbD (15+i) <;> cases z.getLsbD i <;> cases z.getLsbD (30+i) <;> rfl
 rw [←e x,←e y,h]
theorem Ao3 {x y:BitVec 32} (h:x ^^^ (x >>> 13)=y ^^^ (y >>> 13)):x=y:=by
 have e:∀ z:BitVec 32,(z ^^^ (z >>> 13)) ^^^ ((z ^^^ (z >>> 13)) >>> 13) ^^^ ((z ^^^ (z >>> 13)) >>> 26)=z:=fun z=>by
  ext i hi
  simp only [BitVec.getElem_xor,BitVec.getElem_ushiftRight,BitVec.getLsbD_xor,BitVec.getLsbD_ushiftRight]
  rw [BitVec.getLsbD_of_ge z (13+(26+i)) (by omega),←BitVec.getLsbD_eq_getElem,show 13+(13+i)=26+i by omega]
  cases z.getLsbD (13+i) <;> cases z.getLsbD i <;> cases z.getLsbD (26+i) <;> rfl
 rw [←e x,←e y,h]
theorem Ao0 {x y:BitVec 32} (h:x*2654435769#32=y*2654435769#32):x=y:=by
 have e:2654435769#32*340573321#32=1#32:=by decide
 have:=congrArg (·*340573321#32) h
 simp only [BitVec.mul_assoc,e,BitVec.mul_one] at this
 exact this
def bvStir (x:BitVec 32):BitVec 32 :=
 let a:=x*2654435769#32
 let b:=(a ^^^ (a >>> 15))*2654435769#32
 let c:=(b ^^^ (b >>> 13))*2654435769#32
 c ^^^ (c >>> 16)
theorem Ajw {x y:BitVec 32} (h:bvStir x=bvStir y):x=y:=Ao0 (Ao2 (Ao0 (Ao3 (Ao0 (Ao1 h)))))
def ibv (a:BitVec 32):Int:=(a.toNat:Int)
theorem Ag7 {x:Int} (h0:0≤x) (h1:x≤4294967295):ibv (BitVec.ofInt 32 x)=x:=by
 unfold ibv
 rw [BitVec.toNat_ofInt]
 omega
theorem Ast (a:BitVec 32):BitVec.ofInt 32 (ibv a)=a:=by
 unfold ibv
 apply BitVec.eq_of_toNat_eq
 rw [BitVec.toNat_ofInt]
 have:=a.isLt
 omega
theorem Ow (x:Int):IntKind.wrap .u32 x=x % 4294967296:=rfl
theorem Aed (a:BitVec 32) (k:Nat) (hk:k≤32):fold1 (ibv a) (k:Int)=ibv (a ^^^ (a >>> k)):=by
 unfold fold1 bXor
 have e1:(k:Int).toNat=k:=by omega
 have e2:min k (IntKind.bits .u32)=k:=Nat.min_eq_left hk
 rw [e1,e2]
 have e3:Int.fdiv (ibv a) ((2:Int) ^ k)=ibv (a >>> k):=by
  rw [Int.fdiv_eq_ediv_of_nonneg _ (by exact_mod_cast Nat.zero_le (2 ^ k))]
  unfold ibv
  rw [BitVec.toNat_ushiftRight,Nat.shiftRight_eq_div_pow]
  norm_cast
 rw [e3,show IntKind.bits .u32=32 from rfl,Ast,Ast,Ow]
 have:=(a ^^^ a >>> k).isLt
 unfold ibv
 omega
theorem Amq (a:BitVec 32):u32 (ibv a*2654435769)=ibv (a*2654435769#32):=by
 unfold u32 ibv
 rw [Ow,BitVec.toNat_mul]
 simp
theorem Alu (a:BitVec 32):stir (ibv a)=ibv (bvStir a):=by
 unfold stir bvStir
 rw [Amq,show (15:Int)=((15:Nat):Int) from rfl,Aed _ 15 (by decide),Amq,show (13:Int)=((13:Nat):Int) from rfl,Aed _ 13 (by decide),Amq,show (16:Int)=((16:Nat):Int) from rfl,Aed _ 16 (by decide)]
theorem Aqh {x y:Int} (hx:0≤x∧x≤4294967295) (hy:0≤y∧y≤4294967295) (h:stir x=stir y):x=y:=by
 rw [←Ag7 hx.1 hx.2,←Ag7 hy.1 hy.2,Alu,Alu] at h
 have e:bvStir (BitVec.ofInt 32 x)=bvStir (BitVec.ofInt 32 y):=BitVec.eq_of_toNat_eq (by unfold ibv at h;exact_mod_cast h)
 rw [←Ag7 hx.1 hx.2,←Ag7 hy.1 hy.2,Ajw e]
theorem Ati {e n i j:Int} (he:0≤e∧e≤65535) (hn:0≤n∧n≤7) (hi:0≤i∧i<4) (hj:0≤j∧j<4) (h:tagOf e n i=tagOf e n j):i=j:=by
 unfold tagOf u32 at h
 rw [Ow,Ow] at h
 have:=Aqh (by omega) (by omega) h
 omega
end Go.Vc

namespace Go.Vc
open Classical
def srtK (l q:LL) (i a:Int):Prop:=∀ x:Nat,x<a.toNat→x<q.length→¬befD (elT l i.toNat) (elT q x)
theorem srtK.j {l q:LL} {i a c0 c1:Int} (h:srtK l q i a) (hk:l[i.toNat]?=some [dn c0,dn c1]):srtJ q c0 c1 a:=fun x h1 h2=>by
 have:=h x h1 h2
 rw [Cg hk] at this
 exact this
theorem srtK.zero {l q:LL} {i:Int}:srtK l q i 0:=fun x hx=>by simp at hx
theorem srtK.step {l q:LL} {i a c0 c1 u v:Int} (h:srtK l q i a) (hk:l[i.toNat]?=some [dn c0,dn c1]) (ha:0≤a) (hq:q[a.toNat]?=some [dn u,dn v]) (hn:¬(c1>v∨c1=v∧c0<u)):srtK l q i (a+1):=fun x h1 h2=>by
 have:=(h.j hk).step ha hq hn x h1 h2
 rw [Cg hk]
 exact this
theorem Aqi {l q r:LL} {i a c0 c1:Int} (hr:r=q.take a.toNat++[[dn c0,dn c1]]++q.drop a.toNat) (h:srtI l q i) (hj:srtK l q i a) (hs:LS pairS l) (hk:l[i.toNat]?=some [dn c0,dn c1]) (h0:0≤i) (h2:¬a<(q.length:Int)) (ha:0≤a):srtI l r (i+1):=by
 rw [hr];exact h.put (hj.j hk) hs hk h0 h2 ha
theorem Agf {l q r:LL} {i a c0 c1 u v:Int} (hr:r=q.take a.toNat++[[dn c0,dn c1]]++q.drop a.toNat) (h:srtI l q i) (hj:srtK l q i a) (hs:LS pairS l) (hk:l[i.toNat]?=some [dn c0,dn c1]) (h0:0≤i) (hq:q[a.toNat]?=some [dn u,dn v]) (h2:c1>v∨c1=v∧c0<u):srtI l r (i+1):=by
 rw [hr];exact h.put2 (hj.j hk) hs hk h0 hq h2
theorem Adr {q l1 l2 l3 l4 l5:LL} {a:Int} {c:List D} (h5:l5=l4++l3) (h4:l4=l2++[c]) (h2:l2=l1) (h1:l1=List.take (a.toNat-Int.toNat (0:Int)) (List.drop (Int.toNat (0:Int)) q)) (h3:l3=List.take (Int.toNat ((List.length q:Nat):Int)-a.toNat) (List.drop a.toNat q)):l5=q.take a.toNat++[c]++q.drop a.toNat:=by
 rw [h5,h4,h2,h1,h3]
 simp only [Int.toNat_zero,List.drop_zero,Nat.sub_zero,Int.toNat_natCast]
 rw [List.take_of_length_le (l:=List.drop a.toNat q) (by rw [List.length_drop];exact Nat.le_refl _)]
theorem Aw3 {l q r:LL} {i a c0 c1 d0 d1 u v:Int} (hr:r=q.take a.toNat++[[dn c0,dn c1]]++q.drop a.toNat) (h:srtI l q i) (hj:srtK l q i a) (hs:LS pairS l) (h2:d1>v) (hk:l[i.toNat]?=some [dn c0,dn c1]) (hk':l[i.toNat]?=some [dn d0,dn d1]) (h0:0≤i) (hq:q[a.toNat]?=some [dn u,dn v]):srtI l r (i+1):=by
 have e:([dn c0,dn c1]:List D)=[dn d0,dn d1]:=Option.some.inj (hk.symm.trans hk')
 injection e with e1 e2
 injection e2 with e2
 injection e2 with e2
 injection e2 with _ e2
 subst e2
 exact Agf hr h hj hs hk h0 hq (.inl h2)
theorem Aw4 {l q r:LL} {i a c0 c1 d0 d1 u v:Int} (hr:r=q.take a.toNat++[[dn c0,dn c1]]++q.drop a.toNat) (h:srtI l q i) (hj:srtK l q i a) (hs:LS pairS l) (h2:d0<u) (hk:l[i.toNat]?=some [dn c0,dn c1]) (hk':l[i.toNat]?=some [dn d0,dn d1]) (h0:0≤i) (hq:q[a.toNat]?=some [dn u,dn v]) (h3:d1=v):srtI l r (i+1):=by
 have e:([dn c0,dn c1]:List D)=[dn d0,dn d1]:=Option.some.inj (hk.symm.trans hk')
 injection e with e1 e2
 injection e2 with e2
 injection e1 with e1
 injection e1 with _ e1
 injection e2 with e2
 injection e2 with _ e2
 subst e1 e2
 exact Agf hr h hj hs hk h0 hq (.inr ⟨h3,h2⟩)
theorem Atz {l q:LL} {i:Int} (h:srtI l q i) (hi:¬i<(l.length:Int)):([vl q]:List DV)=[vl (srtD l)]:=by rw [h.fin hi]
theorem Akz {q l:LL} {a b:Nat} {s:List Sh} (hl:q=List.take a (List.drop b l)) (hs:LS s l):LS s q:=by
 rw [hl]
 exact .mk (by rw [List.length_take,List.length_drop];have:=hs.len;omega) fun c hc=>hs.els c (List.mem_of_mem_drop (List.mem_of_mem_take hc))
theorem Aaz {q l:LL} {a b:Nat} (hl:q=List.take a (List.drop b l)):q.length≤l.length∧q.length≤a∧q.length≤l.length-b:=by
 rw [hl,List.length_take,List.length_drop];omega
theorem Avn {own i:Int} {l q:LL} (h:fltI own l q i) (hi:(l.length:Int)≤i) (hi2:i≤(l.length:Int)):([vl q]:List DV)=[vl (fltD own l)]:=by rw [h.fin hi hi2]
theorem Avm {own i x y u v:Int} {l q r:LL} (hr:r=q++[[dn x,dn y]]) (h:fltI own l q i) (h0:0≤i) (hk:l[i.toNat]?=some [dn x,dn y]) (hn:u≠own) (hk':l[i.toNat]?=some [dn u,dn v]):fltI own l r (i+1):=by
 have e:([dn x,dn y]:List D)=[dn u,dn v]:=Option.some.inj (hk.symm.trans hk')
 injection e with e1 e2
 injection e1 with e1
 injection e1 with _ e1
 subst e1
 rw [hr]
 exact h.yes h0 hk hn
def wasK (l:LL) (k i:Int) (b:Bool):Prop:=b=true↔∃ j<k.toNat,nth l j 0=nth l i.toNat 0
theorem wasK.zero {l:LL} {i:Int}:wasK l 0 i false:=⟨fun h=>Bool.noConfusion h,fun ⟨j,h,_⟩=>absurd h (by simp)⟩
theorem wasK.old {l:LL} {k i:Int} {b:Bool} (h:wasK l k i b) (h0:0≤k) (hb:b=true):wasK l (k+1) i true:=by
 subst hb
 obtain ⟨j,hj,e⟩:=h.1 rfl
 exact ⟨fun _=>⟨j,by omega,e⟩,fun _=>rfl⟩
theorem wasK.hit {l:LL} {k i x y u v:Int} (h0:0≤k) (hk:l[k.toNat]?=some [dn x,dn y]) (hi:l[i.toNat]?=some [dn u,dn v]) (e:x=u):wasK l (k+1) i true :=
 ⟨fun _=>⟨k.toNat,by omega,by rw [(Do hk).1,(Do hi).1,e]⟩,fun _=>rfl⟩
theorem wasK.miss {l:LL} {k i x y u v:Int} {b:Bool} (h:wasK l k i b) (hb:b=false) (h0:0≤k) (hk:l[k.toNat]?=some [dn x,dn y]) (hi:l[i.toNat]?=some [dn u,dn v]) (e:¬x=u):wasK l (k+1) i false:=by
 refine ⟨fun h=>Bool.noConfusion h,fun ⟨j,hj,e2⟩=>?_⟩
 by_cases ej:j=k.toNat
 ·subst ej
  rw [(Do hk).1,(Do hi).1] at e2
  exact absurd e2 e
 ·subst hb
  exact h.2 ⟨j,by omega,e2⟩
theorem wasK.was {l:LL} {k i x y:Int} {b:Bool} (h:wasK l k i b) (hki:k=i) (hi:l[i.toNat]?=some [dn x,dn y]):wasA l i x b:=by
 unfold wasA
 unfold wasK at h
 rw [(Do hi).1,hki] at h
 exact h
theorem Avk {l q:LL} {i:Int} (h:fstI l q i) (hi:¬i<(l.length:Int)) (hi2:i≤(l.length:Int)):([vl q]:List DV)=[vl (kpL (fstD l) l l.length)]:=by rw [h.fin hi hi2]
theorem Avj {l q r:LL} {k i x y:Int} {b:Bool} (hr:r=q++[[dn x,dn y]]) (h:fstI l q i) (hw:wasK l k i b) (hb:b=false) (hki:k=i) (h0:0≤i) (hk:l[i.toNat]?=some [dn x,dn y]):fstI l r (i+1):=by
 rw [hr]
 exact h.yes (hw.was hki hk) hb h0 hk
theorem Arm {l q:LL} {k i:Int} {b:Bool} (h:fstI l q i) (hw:wasK l k i b) (hb:¬b=false) (hki:k=i) (h0:0≤i):fstI l q (i+1):=by
 have hb:b=true:=by simpa using hb
 subst hb
 unfold fstI at *
 have hn:¬fstD l i.toNat:=fun hf=>by
  obtain ⟨j,hj,e⟩:=hw.1 rfl
  exact hf j (by omega) e
 rw [show (i+1).toNat=i.toNat+1 by omega,kpL.no hn,h]
end Go.Vc

namespace Go.Vc
open Classical
def withI (l:LL) (t:Int) (q:LL) (i:Int) (p:Bool):Prop:=(p=false→q=l.take i.toNat∧∀ x:Nat,x<i.toNat→nth l x 0<t)∧(p=true→∃ a:Nat,a<i.toNat∧(∀ x:Nat,x<a→nth l x 0<t)∧t<nth l a 0∧q=l.take a++[[d32 t]]++(l.drop a).take (i.toNat-a))
theorem withI.zero {l:LL} {t:Int}:withI l t [] 0 false:=⟨fun _=>⟨by simp,fun x hx=>by simp at hx⟩,fun h=>Bool.noConfusion h⟩
theorem withI.len {l q:LL} {t i:Int} {p:Bool} (h:withI l t q i p):q.length≤i.toNat+1:=by
 cases p with
 | false=>rw [(h.1 rfl).1,List.length_take];omega
 | true =>
  obtain ⟨a,h1,_,_,h2⟩:=h.2 rfl
  rw [h2,List.length_append,List.length_append,List.length_take,List.length_take]
  simp only [List.length_cons,List.length_nil]
  omega
theorem withI.put {l q r r2:LL} {t i x y:Int} {p:Bool} (hr2:r2=r++[[d32 y]]) (hr:r=q++[[d32 t]]) (h:withI l t q i p) (hp:p=false) (h0:0≤i) (hk':l[i.toNat]?=some [d32 y]) (hx:x>t) (hk:l[i.toNat]?=some [d32 x]):withI l t r2 (i+1) true:=by
 subst hp
 obtain ⟨h1,h2⟩:=h.1 rfl
 have e:y=x:=by
  have e:([d32 y]:List D)=[d32 x]:=Option.some.inj (hk'.symm.trans hk)
  injection e with e1 _
  injection e1 with e1
  injection e1 with _ e1
 subst e
 have hl:=(List.getElem?_eq_some_iff.1 hk).1
 refine ⟨fun h=>Bool.noConfusion h,fun _=>⟨i.toNat,by omega,h2,by rw [Qx hk];exact hx,?_⟩⟩
 rw [hr2,hr,h1,show (i+1).toNat-i.toNat=1 by omega]
 congr 1
 rw [List.drop_eq_getElem_cons hl,(List.getElem?_eq_some_iff.1 hk).2]
 rfl
def ofI (e n:Int) (q:LL) (j:Int):Prop:=q.length=j.toNat∧LS [s32] q∧q.Perm (tagsUp e n j)∧∀ a b:Nat,a<b→b<q.length→nth q a 0<nth q b 0
theorem ofI.zero {e n:Int}:ofI e n [] 0:=⟨rfl,Ej,by unfold tagsUp;simp,fun a b _ h=>by simp at h⟩
theorem ofI.ne {e n j:Int} {q:LL} (h:ofI e n q j) (he:0≤e∧e≤65535) (hn:0≤n∧n≤7) (h0:0≤j) (h4:j<4):∀ x:Nat,x<q.length→nth q x 0≠tagOf e n j:=fun x hx hh=>by
 have hm:=h.2.2.1.mem_iff.1 (List.getElem_mem hx)
 unfold tagsUp at hm
 obtain ⟨k,hk,ek⟩:=List.mem_map.1 hm
 rw [List.mem_range] at hk
 unfold nth at hh
 rw [List.getElem?_eq_getElem hx,←ek] at hh
 have:=Ati he hn (i:=(k:Int)) (j:=j) (by omega) (by omega) hh
 omega
theorem ofI.fin {e n j:Int} {q:LL} (h:ofI e n q j) (hj:j=4):([vl q]:List DV)=[vl (tagsL e n)]:=by
 subst hj
 obtain ⟨k1,k2,k3,k4⟩:=h
 have k1:q.length=4:=k1
 rw [Ap4 ⟨by omega,k2⟩ ⟨k1,k3,fun i j hij hj=>Int.le_of_lt (k4 i j hij (by omega))⟩]
end Go.Vc

namespace Go.Vc
open Classical
theorem Uu {a b:Nat} (h:a≤b):(2:Int) ^ a≤2 ^ b:=by exact_mod_cast Nat.pow_le_pow_right (by decide:0<2) h
def bval:LL→Int
 | []=>0
 | c::l=>gI c 0+2*bval l
def bitsP (l:LL):Prop:=(∀ c∈l,∃ b:Int,c=[d8 b]∧(b=0∨b=1))∧(0<l.length→nth l (l.length-1) 0=1)
theorem Zt {l:LL} (h:∀ c∈l,∃ b:Int,c=[d8 b]∧(b=0∨b=1)):0≤bval l∧bval l<2 ^ l.length:=by
 induction l with
 | nil=>exact ⟨Int.le_refl 0,by show (0:Int)<2 ^ 0;omega⟩
 | cons c l ih =>
  obtain ⟨b,rfl,hb⟩:=h c List.mem_cons_self
  obtain ⟨h1,h2⟩:=ih fun d hd=>h d (List.mem_cons_of_mem _ hd)
  show 0≤b+2*bval l∧b+2*bval l<2 ^ (l.length+1)
  rw [Int.pow_succ]
  omega
def bitI (n q0:Int) (l:LL):Prop:=0≤n∧(∀ c∈l,∃ b:Int,c=[d8 b]∧(b=0∨b=1))∧q0=bval l+2 ^ l.length*n∧(n=0→0<l.length→nth l (l.length-1) 0=1)
theorem bitI.zero {n:Int} (h:0≤n):bitI n n []:=⟨h,fun c hc=>(by cases hc),by show n=0+2 ^ 0*n;omega,fun _ h=>by simp at h⟩
theorem bitI.len {n q0:Int} {l:LL} (h:bitI n q0 l) (hn:0<n) (hq:q0≤4294967295):l.length≤31:=by
 obtain ⟨_,h2,h3,_⟩:=h
 have h4:=(Zt h2).1
 by_cases hc:l.length≤31
 ·exact hc
 ·exfalso
  have h5:(2:Int) ^ 32≤2 ^ l.length:=Uu (by omega)
  have h7:(2:Int) ^ 32=4294967296:=by decide
  have h6:(2:Int) ^ l.length*1≤2 ^ l.length*n:=Int.mul_le_mul_of_nonneg_left (by omega) (by omega)
  have:(2:Int) ^ 32=4294967296:=by decide
  omega
theorem bitI.fin {n q0:Int} {l:LL} (h:bitI n q0 l) (hn:¬n>0):bitsP l∧bval l=q0:=by
 obtain ⟨h1,h2,h3,h4⟩:=h
 have:n=0:=by omega
 subst this
 exact ⟨⟨h2,h4 rfl⟩,by omega⟩
theorem Asb {l:LL} (h:bitsP l) (hl:0<l.length):bval l≠0:=fun hz=>by
 have key:∀ l:LL,(∀ c∈l,∃ b:Int,c=[d8 b]∧(b=0∨b=1))→bval l=0→∀ k:Nat,nth l k 0=0:=fun l=>by
  induction l with
  | nil=>intro _ _ k;unfold nth;simp [gI]
  | cons c l ih =>
   intro hc hv k
   obtain ⟨b,rfl,hb⟩:=hc c List.mem_cons_self
   have hr:=(Zt fun d hd=>hc d (List.mem_cons_of_mem _ hd)).1
   have hv:b+2*bval l=0:=hv
   cases k with
   | zero=>show b=0;omega
   | succ k=>exact ih (fun d hd=>hc d (List.mem_cons_of_mem _ hd)) (by omega) k
 have:=key l h.1 hz (l.length-1)
 rw [h.2 hl] at this
 cases this
end Go.Vc

namespace Go.Vc
open Classical
def limbI (l:LL) (i:Int) (q:LL):Prop:=(i=0∧q=[])∨(i=32∧0<l.length∧q=[[d32 (bval l)]])
theorem limbI.zero {l:LL}:limbI l 0 [] := .inl ⟨rfl,rfl⟩
theorem limbI.fin {l q:LL} {i:Int} (h:limbI l i q) (hi:¬i<(l.length:Int)) (hb:bitsP l):([vl q]:List DV)=[vl (if bval l=0 then [] else [[d32 (bval l)]])]:=by
 rcases h with ⟨h1,h2⟩ | ⟨h1,h2,h3⟩
 ·have:l=[]:=List.length_eq_zero_iff.1 (by omega)
  subst this
  rw [h2,if_pos (show bval []=0 from rfl)]
 ·rw [h3,if_neg (Asb hb h2)]
theorem bitI.le {n q0:Int} {l:LL} (h:bitI n q0 l):n≤q0:=by
 obtain ⟨h1,h2,h3,_⟩:=h
 have h4:=(Zt h2).1
 have h5:(2:Int) ^ 0≤2 ^ l.length:=Uu (Nat.zero_le _)
 have h6:(1:Int)*n≤2 ^ l.length*n:=Int.mul_le_mul_of_nonneg_right (by omega) h1
 omega
end Go.Vc
