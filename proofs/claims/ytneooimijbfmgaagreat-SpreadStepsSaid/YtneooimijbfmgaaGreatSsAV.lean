import Derived.Test.YtneooimijbfmgaaGreatProg
import Derived.KernelRfl
import Derived.Test.YtneooimijbfmgaaGreatSsAS
import Derived.Test.YtneooimijbfmgaaGreatSsAT
import Derived.Test.YtneooimijbfmgaaGreatSsAU
set_option linter.unusedVariables false
set_option linter.unusedSimpArgs false
set_option linter.unusedSectionVars false
set_option maxHeartbeats 4000000
set_option maxRecDepth 100000
noncomputable section
namespace Go.Vc
open Classical
def plI (w:List D) (m:LL) (j:Nat):Int:=plN (gL (elT (gL w 4) (nth m j 0).toNat) 30) (nth m j 1) (gL (elT (gL w 4) (nth m j 0).toNat) 30).length
def Me (w:List D) (m:LL) (j:Nat):Prop:=0≤plI w m j
def z6:List D:=[d8 6,dn 0,dn 0,dn 0,d64 0]
def stL (w:List D) (m:LL):Nat→LL
 | 0=>[]
 | n+1=>stL w m n++[[d8 3,dn (nth m n 0),dn 0,dn 0,d64 (plI w m n)],z6,z6]
def Bm (w:List D) (m:LL):List DV:=if ¬Ap w then [vl [],vn 8] else if Bo ((gL w 4).length:Int) m≠0 then [vl [],vn (Bo ((gL w 4).length:Int) m)] else if 0<(gL w 5).length then [vl [],vn 13] else if upto (Me w m) m.length then [vl (stL w m m.length),vn 0] else [vl [],vn 6]
theorem Agp {l:LL} {id:Int}:∀ n:Nat,0≤plN l id n→∃ i:Nat,i<n∧plN l id n=i∧nth l i 0=id
 | 0,h=>by simp only [plN] at h;omega
 | n+1,h=>by
  simp only [plN] at h ⊢
  split
  ·rename_i h1
   obtain ⟨i,a,b,c⟩:=Agp n h1
   exact ⟨i,by omega,b,c⟩
  ·rename_i h1
   rw [if_neg h1] at h
   split
   ·rename_i h2;exact ⟨n,by omega,rfl,h2⟩
   ·rename_i h2;rw [if_neg h2] at h;omega
theorem Aqz {l:LL} {id:Int} {n:Nat} (h:plN l id n = -1) (e:nth l n 0=id):plN l id (n+1)=n:=by
 simp only [plN];rw [if_neg (by omega),if_pos e]
theorem Qp {l:LL} {id:Int} (n:Nat):plN l id n = -1∨0≤plN l id n:=by
 induction n with
 | zero=>exact .inl rfl
 | succ n ih =>
  simp only [plN]
  split
  ·rename_i h;exact .inr h
  ·split
   ·exact .inr (by omega)
   ·exact .inl rfl
theorem Agr {l:LL} {c:List D}:∀ n:Nat,(∀ i<n,l[i]?≠some c)→plE l c n = -1
 | 0,_=>rfl
 | n+1,h=>by
  simp only [plE]
  rw [Agr n fun i hi=>h i (by omega),if_neg (by omega),if_neg (h n (by omega))]
def idsD (l:LL):Prop:=l.Pairwise fun c d=>gI c 0≠gI d 0
theorem Asv {a b:Int} {l:LL} (h:Aq [dn a,dn b, .fs l]):idsD l:=by
 have h1:=(Ef.1 h).2.2
 have h2:=(Av6 (fltD a l)).2.1
 rw [h1] at h2
 exact h2
theorem Axw {l:LL} (h:idsD l) {i j:Nat} {c d:List D} (hi:l[i]?=some c) (hj:l[j]?=some d) (hij:i<j):gI c 0≠gI d 0:=by
 have hil:=(List.getElem?_eq_some_iff.1 hi).1
 have hjl:=(List.getElem?_eq_some_iff.1 hj).1
 have:=List.pairwise_iff_getElem.1 h i j hil hjl hij
 rw [(List.getElem?_eq_some_iff.1 hi).2,(List.getElem?_eq_some_iff.1 hj).2] at this
 exact this
def drS (l:LL) (id j:Int) (r:LL):Prop:=(plN l id j.toNat = -1∧r=[])∨(0≤plN l id j.toNat∧r=[[d64 (plN l id j.toNat)]])
theorem Ayn {l:LL} {id:Int}:drS l id 0 [] := .inl ⟨rfl,rfl⟩
theorem Arx {l r:LL} {id a b k:Int} (h:drS l id k r) (hk:l[k.toNat]?=some [dn a,dn b]) (e:¬a=id) (h0:0≤k):drS l id (k+1) r:=by
 have e1:(k+1).toNat=k.toNat+1:=by omega
 have e2:plN l id (k.toNat+1)=plN l id k.toNat:=by
  simp only [plN]
  split
  ·rfl
  ·rename_i h1
   rw [Cv hk,if_neg e]
   rcases Qp (l:=l) (id:=id) k.toNat with h2 | h2 <;> omega
 unfold drS
 rw [e1,e2];exact h
theorem An5 {l r q r':LL} {id a b k x:Int} (h:drS l id k r) (hk:l[k.toNat]?=some [dn a,dn b]) (hm:[vl r',vn x]=Kk l q) (hq:q=[[dn a,dn b]]) (e:a=id) (h0:0≤k) (hd:idsD l):drS l id (k+1) r'∧x=0:=by
 have e1:(k+1).toNat=k.toNat+1:=by omega
 have hn:∀ i:Nat,i<k.toNat→nth l i 0≠id:=fun i hi he=>by
  have hl:=(List.getElem?_eq_some_iff.1 hk).1
  have hil:i<l.length:=by omega
  refine Axw hd (List.getElem?_eq_getElem hil) hk hi ?_
  have h2:nth l i 0=gI (l[i]) 0:=by unfold nth;rw [List.getElem?_eq_getElem hil];rfl
  rw [←h2,he,←e];rfl
 have hp:plN l id k.toNat = -1:=by
  rcases Qp (l:=l) (id:=id) k.toNat with h2 | h2
  ·exact h2
  ·obtain ⟨i,hi,_,h3⟩:=Agp _ h2
   exact absurd h3 (hn i hi)
 have hs:=Aqz hp ((Cv hk).trans e)
 have he:plE l [dn a,dn b] k.toNat = -1:=Agr _ fun i hi hh=>hn i hi (by rw [Cv hh];exact e)
 have h4:=Ame hk he h0
 have hq0:elT q 0=[dn a,dn b]:=by rw [hq];rfl
 unfold Kk at hm
 rw [hq0,h4,if_neg (by omega)] at hm
 cases hm
 refine ⟨.inr ?_,rfl⟩
 rw [e1,hs,show ((k.toNat:Nat):Int)=k by omega]
 exact ⟨h0,rfl⟩
theorem Awi {p:Prop} {x:Int} (hx:x=if p then 0 else 8) (h:¬x≠0):p:=by
 rcases Classical.em p with hp | hp
 ·exact hp
 ·rw [if_neg hp] at hx;omega
section
variable {w c:List D} {m r:LL} {x k i n:Int}
theorem Ahx (hw:Ap w) (hk:(gL w 4)[k.toNat]?=some c) (h0:0≤k):Au c:=by
 have hl:=(List.getElem?_eq_some_iff.1 hk).1
 exact ((Cf hk h0).1 (hw.2.2.2.2.2.2.2.2.1 k.toNat (by omega))).1
theorem Apo {e:List D} {j:Int} (hw:Ap w) (hk:(gL w 4)[k.toNat]?=some c) (h0:0≤k) (hj:(gL c 30)[j.toNat]?=some e):Aq (cacheC c):=by
 have hp:=Ahx hw hk h0
 cases hu:gB c 2 with
 | true=>exact hp.2 hu
 | false =>
  rw [hp.1.2.2.1 hu] at hj
  cases hj
theorem Ai9 {a b:Int} {nn:Int} (h:x=Bo nn m) (hx:¬x≠0) (hm:m[i.toNat]?=some [dn a,dn b]):0≤a∧a<nn∧m.length≤64:=by
 unfold Bo at h
 split at h
 ·omega
 ·split at h
  ·omega
  ·split at h
   ·rename_i hu
    have hl:=(List.getElem?_eq_some_iff.1 hm).1
    have:=(Dd hm).1 (hu i.toNat (by omega))
    omega
   ·omega
theorem Aqy {a b:Int} (hm:m[i.toNat]?=some [dn a,dn b]) (hk:(gL w 4)[a.toNat]?=some c):plI w m i.toNat=plN (gL c 30) b (gL c 30).length:=by
 have e1:nth m i.toNat 0=a:=(Do hm).1
 have e2:nth m i.toNat 1=b:=(Do hm).2
 unfold plI
 rw [e1,e2]
 unfold elT
 rw [hk];rfl
theorem Adq (j:Nat):(stL w m j).length=3*j:=by
 induction j with
 | zero=>rfl
 | succ j ih=>simp only [stL,List.length_append,ih,List.length_cons,List.length_nil];omega
theorem Age {a b p:Int} {q:LL} (hr:r=stL w m i.toNat) (hq:q=r++[[d8 3,dn a,dn 0,dn 0,d64 p],[d8 6,dn 0,dn 0,dn 0,d64 0],[d8 6,dn 0,dn 0,dn 0,d64 0]]) (hm:m[i.toNat]?=some [dn a,dn b]) (hp:p=plI w m i.toNat) (h0:0≤i):q=stL w m (i+1).toNat:=by
 rw [show (i+1).toNat=i.toNat+1 by omega]
 simp only [stL]
 rw [hq,hr,hp,(Do hm).1];rfl
theorem A0z {b:Bool} (hb:b=decide (Ap w)) (h:b=false):[vl [],vn 8]=Bm w m:=by
 unfold Bm;rw [if_pos (decN hb h)]
theorem A0y (hx:x=if Ap w then 0 else 8) (h:x≠0):[vl [],vn x]=Bm w m:=by
 unfold Bm
 split at hx
 ·omega
 ·rename_i hp;rw [if_pos hp,hx]
theorem A0x (hw:Ap w) (hx:x=Bo n m) (h:x≠0) (hn:n=((gL w 4).length:Int)):[vl [],vn x]=Bm w m:=by
 subst hn
 unfold Bm
 rw [if_neg (fun hh=>hh hw),if_pos (hx▸h),hx]
theorem A0w (hw:Ap w) (hx:x=Bo n m) (h:¬x≠0) (hn:n=((gL w 4).length:Int)) (h1:k>0) (hk:k=((gL w 5).length:Int)):[vl [],vn 13]=Bm w m:=by
 subst hn
 unfold Bm
 rw [if_neg (fun hh=>hh hw),if_neg (hx▸h),if_pos (by omega)]
theorem A0v (hw:Ap w) (hx:x=Bo n m) (h:¬x≠0) (hn:n=((gL w 4).length:Int)) (h1:¬k>0) (hk:k=((gL w 5).length:Int)) (hp:plI w m i.toNat<0) {a b:Int} (hm:m[i.toNat]?=some [dn a,dn b]):[vl [],vn 6]=Bm w m:=by
 subst hn
 unfold Bm
 have hl:=(List.getElem?_eq_some_iff.1 hm).1
 rw [if_neg (fun hh=>hh hw),if_neg (hx▸h),if_neg (by omega),if_neg fun hu=>by have:=hu i.toNat (by omega);unfold Me at this;omega]
theorem Azy {j:Int} (hw:Ap w) (hx:x=Bo n m) (h:¬x≠0) (hn:n=((gL w 4).length:Int)) (h1:¬k>0) (hk:k=((gL w 5).length:Int)) (hr:r=stL w m i.toNat) (hu:upto (Me w m) i) (hij:¬i<j) (hj:j=(m.length:Int)) (hi:i≤(m.length:Int)):[vl r,vn 0]=Bm w m:=by
 subst hn
 unfold Bm
 have e:i.toNat=m.length:=by omega
 rw [if_neg (fun hh=>hh hw),if_neg (hx▸h),if_neg (by omega),if_pos (Ba hu (by omega)),hr,e]
theorem Azj {a b s z:Int} {q:LL} (hm:m[i.toNat]?=some [dn a,dn b]) (hk:(gL w 4)[a.toNat]?=some c) (hd:drS (gL c 30) b s q) (hz:z=0) (hq:z=(q.length:Int)) (hs:¬s<n) (hn:n=((gL c 30).length:Int)) (hs2:s≤((gL c 30).length:Int)):plI w m i.toNat<0:=by
 rw [Aqy hm hk,show (gL c 30).length=s.toNat by omega]
 rcases hd with ⟨h1,h2⟩ | ⟨h1,h2⟩
 ·omega
 ·rw [h2] at hq;simp at hq;omega
theorem Aso {a b s p:Int} {q:LL} (hm:m[i.toNat]?=some [dn a,dn b]) (hk:(gL w 4)[a.toNat]?=some c) (hd:drS (gL c 30) b s q) (hp:q[Int.toNat 0]?=some [d64 p]) (hs:¬s<n) (hn:n=((gL c 30).length:Int)) (hs2:s≤((gL c 30).length:Int)):p=plI w m i.toNat∧Me w m i.toNat:=by
 unfold Me
 rw [Aqy hm hk,show (gL c 30).length=s.toNat by omega]
 rcases hd with ⟨h1,h2⟩ | ⟨h1,h2⟩
 ·rw [h2] at hp;cases hp
 ·rw [h2] at hp;cases hp;exact ⟨rfl,h1⟩
theorem Azi {a b p:Int} (hm:m[i.toNat]?=some [dn a,dn b]) (hk:(gL w 4)[a.toNat]?=some c) (hp:p=plN (gL c 30) b (gL c 30).length) (h:p<0):plI w m i.toNat<0:=by
 rw [Aqy hm hk,←hp];exact h
theorem Asn {a b p q:Int} (hm:m[i.toNat]?=some [dn a,dn b]) (hk:(gL w 4)[a.toNat]?=some c) (hp:p=plN (gL c 30) b (gL c 30).length) (h:¬p<0) (hq:q=IntKind.wrap .u64 p) (hb:(gL c 30).length≤9223372036854775807):q=plI w m i.toNat∧Me w m i.toNat:=by
 have h2:p≤9223372036854775807:=by
  rcases Qp (l:=gL c 30) (id:=b) (gL c 30).length with h3 | h3
  ·omega
  ·obtain ⟨i,hi,h4,_⟩:=Agp _ h3
   omega
 unfold Me
 rw [Aqy hm hk,←hp,hq,wu64 (by omega) h2]
 exact ⟨rfl,by omega⟩
theorem Avr {l q:LL} {b s:Int} (hd:drS l b s q):Shp [.int .u64] q:=by
 rcases hd with ⟨_,h2⟩ | ⟨_,h2⟩
 ·rw [h2];exact fun c hc=>by cases hc
 ·rw [h2];exact fun c hc=>by rw [List.mem_singleton] at hc;subst hc;exact .cons (.int _ _) .nil
theorem Axc {l q:LL} {a b:Int} {j:Nat} (hq:q=[[dn a,dn b]]) (hk:l[j]?=some [dn a,dn b]) (hs:LS pairS l):LS pairS q:=by
 rw [hq];exact .mk (by simp) fun c hc=>by rw [List.mem_singleton] at hc;subst hc;exact hs.nth hk
theorem Aux {q:LL} {c:List D} (hq:q=[c]):q.length=1:=by rw [hq];rfl
theorem Axd {q:LL} {c:List D} (hq:q=[c]):q.length≤9223372036854775807:=by rw [hq];simp
end
end Go.Vc

namespace Go.Vc
open Classical
def limM (c:List D):Prop:=(gL c 1).length≤1048576∧(gL c 4).length≤1048576∧(gL c 7).length≤1048576∧(gL c 10).length≤1048576
def limCo (l:LL):Prop:=l.length≤1048576∧∀ c∈l,(gL c 2).length≤1048576
def limLo (l:LL):Prop:=l.length≤1048576∧∀ c∈l,limM (c.drop 3)
def limEn (l:LL):Prop:=l.length≤1048576∧∀ c∈l,limM (c.drop 2)
def wLimF (c:List D):Prop:=((gL c 4).length≤1048576∧∀ d∈gL c 4,limN d)∧limCo (gL c 5)∧limLo (gL c 6)∧limEn (gL c 7)∧(gL c 8).length≤1048576
theorem limCo.at {l:LL} {k:Nat} {c:List D} (h:limCo l) (hk:l[k]?=some c):(gL c 2).length≤1048576:=h.2 _ (List.mem_of_getElem? hk)
theorem limLo.at {l:LL} {k:Nat} {c:List D} (h:limLo l) (hk:l[k]?=some c):limM (c.drop 3):=h.2 _ (List.mem_of_getElem? hk)
theorem limEn.at {l:LL} {k:Nat} {c:List D} (h:limEn l) (hk:l[k]?=some c):limM (c.drop 2):=h.2 _ (List.mem_of_getElem? hk)
theorem Ayr {a b:Int} {t:LL} {s:Bool} (h:DShs copyS [dn a,dn b, .fs t,db s]):Shp [.int .u8] t∧LS [.int .u8] t∧t.length≤9223372036854775807:=by
 have h1:=(Ak.1 (Ab.1 (Ab.1 (Ab.1 h).2).2).1)
 exact ⟨DSh.shp h1.2,h1.2,h1.1⟩
def Zw (f:List D→Prop) (l:LL) (i:Nat):Prop:=f (elT l i)
theorem Ao7 {f:List D→Prop} {l:LL} {k:Int} {c:List D} (hk:l[k.toNat]?=some c) (h:f c):Zw f l k.toNat:=by
 unfold Zw elT;rw [hk];exact h
theorem Su {f:List D→Prop} {l:LL} {k n:Int} (h:upto (Zw f l) k) (hk:¬k<n) (hn:n=(l.length:Int)):∀ c∈l,f c:=fun c hc=>by
 obtain ⟨i,hi⟩:=List.mem_iff_getElem?.1 hc
 have hl:=(List.getElem?_eq_some_iff.1 hi).1
 have:=h i (by omega)
 unfold Zw elT at this
 rw [hi] at this
 exact this
def fP (c:List D):Prop:=limP (c.drop 1)
def fCo (c:List D):Prop:=(gL c 2).length≤1048576
def fLo (c:List D):Prop:=limM (c.drop 3)
def fEn (c:List D):Prop:=limM (c.drop 2)
theorem Axz {p:Prop} {R:List DV→Prop} (hR:∀ res b,res=[vb b]→(b=false→p)→R res):R [vb true]:=hR _ _ rfl fun h=>by cases h
theorem Ax0 {p:Prop} {R:List DV→Prop} (hR:∀ res b,res=[vb b]→(b=false→p)→R res) (h:p):R [vb false]:=hR _ _ rfl fun _=>h
theorem A1x {w:List D} {k:Int} (h:upto (Zw limN (gL w 4)) k) (hk:¬k<((gL w 4).length:Int)) (h4:¬((gL w 4).length:Int)>9) (h5:false=false→limCo (gL w 5)) (h6:false=false→limLo (gL w 6)) (h7:false=false→limEn (gL w 7)) (h8:¬((gL w 8).length:Int)>1030):wLimF w :=
 ⟨⟨by omega,Su h hk rfl⟩,h5 rfl,h6 rfl,h7 rfl,by omega⟩
end Go.Vc

namespace Go.Vc
open Classical
abbrev stS:List Sh:=[.int .u8,s64,s64,s64, .int .u64]
theorem Alx {a p:Int} (ha : -9223372036854775808≤a∧a≤9223372036854775807) (hp:0≤p∧p≤9223372036854775807) {o:Int} (ho:0≤o∧o≤255):DShs stS [d8 o,dn a,dn 0,dn 0,d64 p]:=by
 simp only [Ab,Af,Ai,rng64,rng8,rngu64,and_true]
 omega
theorem Aw6 {w:List D} {m:LL} {j:Nat} (h:Me w m j) (hb:(gL (elT (gL w 4) (nth m j 0).toNat) 30).length≤9223372036854775807):0≤plI w m j∧plI w m j≤9223372036854775807:=by
 refine ⟨h,?_⟩
 obtain ⟨i,hi,h4,_⟩:=Agp _ (show 0≤plN _ _ _ from h)
 show plN _ _ _≤_
 omega
theorem Aq9 {c:List D} (h:DShs nodeS c):(gL c 30).length≤9223372036854775807:=by
 have hl:c.length=33:=h.1
 obtain ⟨d,hd⟩:∃ d,c[30]?=some d:=⟨_,List.getElem?_eq_getElem (by omega)⟩
 have:=h.2 30 (.sl pairS) d rfl hd
 unfold gL
 rw [hd]
 cases this with
 | sl l x hn _ _=>exact hn
theorem Ayc {l:LL} (h:LS nodeS l) (i:Nat):(gL (elT l i) 30).length≤9223372036854775807:=by
 unfold elT
 cases hi:l[i]? with
 | none=>simp [gL]
 | some c=>exact Aq9 (h.nth hi)
theorem Au0 {m:LL} (h:LS pairS m) (j:Nat) : -9223372036854775808≤nth m j 0∧nth m j 0≤9223372036854775807:=by
 unfold nth
 cases hi:m[j]? with
 | none=>simp [gI]
 | some c =>
  have h1:=h.nth hi
  have hl:c.length=2:=h1.1
  obtain ⟨d,hd⟩:∃ d,c[0]?=some d:=⟨_,List.getElem?_eq_getElem (by omega)⟩
  have h2:=h1.2 0 s64 d rfl hd
  show _≤gI c 0∧gI c 0≤_
  unfold gI
  rw [hd]
  cases h2 with
  | int k x hx=>exact hx
theorem Asl {w:List D} {m:LL} (hm:LS pairS m) (hw:LS nodeS (gL w 4)):∀ n:Nat,(∀ j<n,Me w m j)→∀ c∈stL w m n,DShs stS c
 | 0,_,c,hc=>by cases hc
 | n+1,h,c,hc=>by
  simp only [stL,List.mem_append,List.mem_cons,List.not_mem_nil,or_false] at hc
  rcases hc with hc | rfl | rfl | rfl
  ·exact Asl hm hw n (fun j hj=>h j (by omega)) c hc
  ·exact Alx (Au0 hm n) (Aw6 (h n (by omega)) (Ayc hw _)) (by omega)
  ·exact Alx (a:=0) (p:=0) (by omega) (by omega) (by omega)
  ·exact Alx (a:=0) (p:=0) (by omega) (by omega) (by omega)
theorem Aen {n:Int} {m:LL} (h:¬Bo n m≠0):m.length≤64:=by
 unfold Bo at h
 split at h
 ·omega
 ·split at h
  ·omega
  ·omega
theorem Axo {w:List D} {m r:LL} {x:Int} (h:[vl r,vn x]=Bm w m) (hm:LS pairS m) (hw:LS nodeS (gL w 4)):r.length≤9223372036854775807∧LS stS r:=by
 have key:LS stS r:=by
  unfold Bm at h
  split at h
  ·cases h;exact Ej
  ·split at h
   ·cases h;exact Ej
   ·rename_i ha
    split at h
    ·cases h;exact Ej
    ·split at h
     ·rename_i hu
      cases h
      have:=Aen ha
      exact .mk (by rw [Adq];omega) (Asl hm hw _ fun j hj=>hu j (by omega))
     ·cases h;exact Ej
 exact ⟨key.len,key⟩
theorem Axp {w:List D} {m r q:LL} {x y:Int} (h:[vl r,vn x]=Bm w m) (h2:[vl q,vn y]=Bm w m):eqQ r q∧x=y:=by
 rw [h2.symm] at h;cases h;exact ⟨rfl,rfl⟩
end Go.Vc

namespace Go.Vc
open Classical
def Ak5:ConT:=⟨[kl],[kb],fun aa=>LSh copyS (li aa 0),fun aa rs=>∃ b,rs=[vb b]∧(b=false→limCo (li aa 0))⟩
def Afd:Prop:=∀ (l0:LL),Ob (LSh copyS l0)→∀ (R:List DV→Prop),Ob (∀ (res:List DV),(∃ b,res=[vb b]∧(b=false→limCo l0))→R res)→∀ x2:Int,x2=l0.length→(x2>20→Ob (R [vb true]))∧(¬x2>20→Ob ((0:Int)≤(0:Int)∧upto (Zw fCo l0) (0:Int))∧∀ (g3:NV) (x4 x5:Int),let N0:=(0≤x4∧x4<l0.length);Ob (0≤x4∧upto (Zw fCo l0) x4)→∀ x6:Int,x6=l0.length→(x4<x6→Ob N0∧Ob (Shp kC l0)∧∀ x7 x8 l9 b10,Ob (l0[x4.toNat]?=some [dn x7,dn x8,D.fs l9,db b10])→∀ x11:Int,x11=l9.length→(x11>5000→Ob (R [vb true]))∧(¬x11>5000→Ob N0∧Ob (Shp kC l0)∧∀ x12 x13 l14 b15,Ob (l0[x4.toNat]?=some [dn x12,dn x13,D.fs l14,db b15])→∀ x16:Int,x16=l14.length→∀ x17:Int,x17=w64 (x5+x16)→∀ x18:Int,x18=w64 (x4+1)→Ob (0≤x18∧upto (Zw fCo l0) x18)∧Ob (l0.length-x18.toNat<l0.length-x4.toNat)))∧(¬x4<x6→(x5>9000→Ob (R [vb true]))∧(¬x5>9000→Ob (R [vb false]))))
theorem Ah7:Afd:=by
  delta Afd
  simp only [Ac,and_imp,forall_exists_index,true_and,and_true,List.cons.injEq,DV.c.injEq,DV.a.injEq,D.raw.injEq,D.fs.injEq,Value.bool.injEq,Value.int.injEq]
  intro l0 hn hs R hR
  repeat' first | assumption | exact DShs.tail (Aa (by assumption) (by assumption)) | exact shp32 (by assumption) | exact shp64 (by assumption) | exact shp2 (by assumption) | exact shpF (by assumption) | with_reducible intro _ | with_reducible apply And.intro
  all_goals (try (have e:=Ae ‹_=w64 (_+1)› (by omega) (by omega);subst e))
  all_goals (try (rename l0[(_:Nat)]?=some (_::_)=>hB;revert hB;rename l0[(_:Nat)]?=some (_::_)=>hA;intro hB;have e:=Option.some.inj (hA.symm.trans hB);clear hB;simp only [List.cons.injEq,DV.c.injEq,DV.a.injEq,D.raw.injEq,D.fs.injEq,Value.bool.injEq,Value.int.injEq,true_and,and_true] at e;obtain ⟨rfl,rfl,rfl,rfl⟩:=e))
  all_goals first
    | assumption
    | (exact fun i hi=>by omega)
    | omega
    | exact Axz hR
    | exact shp2 (by assumption)
    | exact Aa (by assumption) (by assumption)
    | exact shpN (by assumption)
    | exact LS.shp (by assumption)
    | exact shpF h52
    | (rw [Ag (by omega)];exact ⟨by assumption,Ao7 (by assumption) (by first | assumption | (simp [fP,fCo,fLo,fEn,limP,limM,gL];omega))⟩)
    | exact Ax0 hR (⟨by omega,Su (by assumption) (by assumption) (by assumption)⟩)
    | skip
theorem Aoe:Con TP k0 46 Ak5:=Ad [] [(46000,0,some ⟨[0],[4,3],[],[kn,kn],[],fun ρ ds=>0≤ni ds 0∧upto (Zw fCo (ρ.d 0)) (ni ds 0),fun ρ ds=>(ρ.d 0).length-(ni ds 0).toNat,none⟩)] [] [] 3000 trivial trivial Go.Proofs.Tryz.func46 rfl rfl rfl rfl Afd (by kernel_rfl) Ah7
end Go.Vc

namespace Go.Vc
open Classical
def Ak4:ConT:=⟨[kl],[kb],fun aa=>LSh loadS (li aa 0),fun aa rs=>∃ b,rs=[vb b]∧(b=false→limLo (li aa 0))⟩
def Afc:Prop:=∀ (l0:LL),Ob (LSh loadS l0)→∀ (R:List DV→Prop),let N0:=(R [vb true]);Ob (∀ (res:List DV),(∃ b,res=[vb b]∧(b=false→limLo l0))→R res)→∀ x2:Int,x2=l0.length→(x2>20→Ob N0)∧(¬x2>20→Ob ((0:Int)≤(0:Int)∧upto (Zw fLo l0) (0:Int))∧∀ (g3:NV) (x4:Int),Ob (0≤x4∧upto (Zw fLo l0) x4)→∀ x5:Int,x5=l0.length→(x4<x5→Ob (0≤x4∧x4<l0.length)∧Ob (Shp kL l0)∧∀ x6 x7 x8 b9 l10 x11 b12 l13 x14 b15 l16 x17 b18 l19 x20,Ob (l0[x4.toNat]?=some [dn x6,dn x7,dn x8,db b9,D.fs l10,dn x11,db b12,D.fs l13,dn x14,db b15,D.fs l16,dn x17,db b18,D.fs l19,dn x20])→∀ x21:Int,x21=l10.length→(x21>42→Ob N0)∧(¬x21>42→(x11>1100→Ob N0)∧(¬x11>1100→∀ x22:Int,x22=l13.length→(x22>42→Ob N0)∧(¬x22>42→(x14>1100→Ob N0)∧(¬x14>1100→∀ x23:Int,x23=l16.length→(x23>42→Ob N0)∧(¬x23>42→(x17>1100→Ob N0)∧(¬x17>1100→∀ x24:Int,x24=l19.length→(x24>42→Ob N0)∧(¬x24>42→(x20>1100→Ob N0)∧(¬x20>1100→∀ x25:Int,x25=w64 (x4+1)→Ob (0≤x25∧upto (Zw fLo l0) x25)∧Ob (l0.length-x25.toNat<l0.length-x4.toNat))))))))))∧(¬x4<x5→Ob (R [vb false])))
theorem Ah6:Afc:=by
  delta Afc
  simp only [Ac,and_imp,forall_exists_index,true_and,and_true,List.cons.injEq,DV.c.injEq,DV.a.injEq,D.raw.injEq,D.fs.injEq,Value.bool.injEq,Value.int.injEq]
  intro l0 hn hs R hR
  repeat' first | assumption | exact DShs.tail (Aa (by assumption) (by assumption)) | exact shp32 (by assumption) | exact shp64 (by assumption) | exact shp2 (by assumption) | exact shpF (by assumption) | with_reducible intro _ | with_reducible apply And.intro
  all_goals (try (have e:=Ae ‹_=w64 (_+1)› (by omega) (by omega);subst e))
  all_goals first
    | assumption
    | (exact fun i hi=>by omega)
    | omega
    | exact Axz hR
    | exact shp2 (by assumption)
    | exact Aa (by assumption) (by assumption)
    | exact shpN (by assumption)
    | exact LS.shp (by assumption)
    | exact shpF h52
    | (rw [Ag (by omega)];exact ⟨by assumption,Ao7 (by assumption) (by first | assumption | (simp [fP,fCo,fLo,fEn,limP,limM,gL];omega))⟩)
    | exact Ax0 hR (⟨by omega,Su (by assumption) (by assumption) (by assumption)⟩)
    | skip
theorem Aod:Con TP k0 47 Ak4:=Ad [] [(47000,0,some ⟨[0],[3],[],[kn],[],fun ρ ds=>0≤ni ds 0∧upto (Zw fLo (ρ.d 0)) (ni ds 0),fun ρ ds=>(ρ.d 0).length-(ni ds 0).toNat,none⟩)] [] [] 3000 trivial trivial Go.Proofs.Tryz.func47 rfl rfl rfl rfl Afc (by kernel_rfl) Ah6
end Go.Vc

namespace Go.Vc
open Classical
def Ak3:ConT:=⟨[kl],[kb],fun aa=>LSh entryS (li aa 0),fun aa rs=>∃ b,rs=[vb b]∧(b=false→limEn (li aa 0))⟩
def Afb:Prop:=∀ (l0:LL),let N3:=(Zw fEn l0);let N4:=((0:Int)≤(0:Int)∧upto N3 (0:Int));Ob (LSh entryS l0)→∀ (R:List DV→Prop),let N0:=(R [vb true]);Ob (∀ (res:List DV),(∃ b,res=[vb b]∧(b=false→limEn l0))→R res)→∀ x2:Int,x2=l0.length→(x2>60→∀ x3:Int,x3=l0.length→(x3<8192→Ob N0)∧(¬x3<8192→∀ x4:Int,x4=l0.length→(x4>8196→Ob N0)∧(¬x4>8196→Ob N4∧∀ (g5:NV) (x6:Int),let N2:=(0≤x6∧x6<l0.length);Ob (0≤x6∧upto N3 x6)→∀ x7:Int,x7=l0.length→(x6<x7→Ob N2∧Ob (Shp kE l0)∧∀ x8 x9 b10 l11 x12 b13 l14 x15 b16 l17 x18 b19 l20 x21,Ob (l0[x6.toNat]?=some [dn x8,d8 x9,db b10,D.fs l11,dn x12,db b13,D.fs l14,dn x15,db b16,D.fs l17,dn x18,db b19,D.fs l20,dn x21])→∀ x22:Int,x22=l11.length→(x22>42→Ob N0)∧(¬x22>42→(x12>1100→Ob N0)∧(¬x12>1100→∀ x23:Int,x23=l14.length→(x23>42→Ob N0)∧(¬x23>42→(x15>1100→Ob N0)∧(¬x15>1100→∀ x24:Int,x24=l17.length→(x24>42→Ob N0)∧(¬x24>42→(x18>1100→Ob N0)∧(¬x18>1100→∀ x25:Int,x25=l20.length→(x25>42→Ob N0)∧(¬x25>42→(x21>1100→Ob N0)∧(¬x21>1100→∀ x26:Int,x26=l0.length→(x26>60→Ob N2∧Ob (Shp kE l0)∧∀ x27 x28 b29 l30 x31 b32 l33 x34 b35 l36 x37 b38 l39 x40,Ob (l0[x6.toNat]?=some [dn x27,d8 x28,db b29,D.fs l30,dn x31,db b32,D.fs l33,dn x34,db b35,D.fs l36,dn x37,db b38,D.fs l39,dn x40])→∀ x41:Int,x41=l30.length→Ob N2∧Ob (Shp kE l0)∧∀ x42 x43 b44 l45 x46 b47 l48 x49 b50 l51 x52 b53 l54 x55,Ob (l0[x6.toNat]?=some [dn x42,d8 x43,db b44,D.fs l45,dn x46,db b47,D.fs l48,dn x49,db b50,D.fs l51,dn x52,db b53,D.fs l54,dn x55])→∀ x56:Int,x56=l48.length→∀ x57:Int,x57=w64 (x41+x56)→Ob N2∧Ob (Shp kE l0)∧∀ x58 x59 b60 l61 x62 b63 l64 x65 b66 l67 x68 b69 l70 x71,Ob (l0[x6.toNat]?=some [dn x58,d8 x59,db b60,D.fs l61,dn x62,db b63,D.fs l64,dn x65,db b66,D.fs l67,dn x68,db b69,D.fs l70,dn x71])→∀ x72:Int,x72=l67.length→∀ x73:Int,x73=w64 (x57+x72)→Ob N2∧Ob (Shp kE l0)∧∀ x74 x75 b76 l77 x78 b79 l80 x81 b82 l83 x84 b85 l86 x87,Ob (l0[x6.toNat]?=some [dn x74,d8 x75,db b76,D.fs l77,dn x78,db b79,D.fs l80,dn x81,db b82,D.fs l83,dn x84,db b85,D.fs l86,dn x87])→∀ x88:Int,x88=l86.length→∀ x89:Int,x89=w64 (x73+x88)→(x89>2→Ob N0)∧(¬x89>2→∀ x90:Int,x90=w64 (x6+1)→Ob (0≤x90∧upto N3 x90)∧Ob (l0.length-x90.toNat<l0.length-x6.toNat)))∧(¬x26>60→∀ x91:Int,x91=w64 (x6+1)→Ob (0≤x91∧upto N3 x91)∧Ob (l0.length-x91.toNat<l0.length-x6.toNat)))))))))))∧(¬x6<x7→Ob (R [vb false])))))∧(¬x2>60→∀ x92:Int,x92=l0.length→(x92>8196→Ob N0)∧(¬x92>8196→Ob N4∧∀ (g93:NV) (x94:Int),let N1:=(0≤x94∧x94<l0.length);Ob (0≤x94∧upto N3 x94)→∀ x95:Int,x95=l0.length→(x94<x95→Ob N1∧Ob (Shp kE l0)∧∀ x96 x97 b98 l99 x100 b101 l102 x103 b104 l105 x106 b107 l108 x109,Ob (l0[x94.toNat]?=some [dn x96,d8 x97,db b98,D.fs l99,dn x100,db b101,D.fs l102,dn x103,db b104,D.fs l105,dn x106,db b107,D.fs l108,dn x109])→∀ x110:Int,x110=l99.length→(x110>42→Ob N0)∧(¬x110>42→(x100>1100→Ob N0)∧(¬x100>1100→∀ x111:Int,x111=l102.length→(x111>42→Ob N0)∧(¬x111>42→(x103>1100→Ob N0)∧(¬x103>1100→∀ x112:Int,x112=l105.length→(x112>42→Ob N0)∧(¬x112>42→(x106>1100→Ob N0)∧(¬x106>1100→∀ x113:Int,x113=l108.length→(x113>42→Ob N0)∧(¬x113>42→(x109>1100→Ob N0)∧(¬x109>1100→∀ x114:Int,x114=l0.length→(x114>60→Ob N1∧Ob (Shp kE l0)∧∀ x115 x116 b117 l118 x119 b120 l121 x122 b123 l124 x125 b126 l127 x128,Ob (l0[x94.toNat]?=some [dn x115,d8 x116,db b117,D.fs l118,dn x119,db b120,D.fs l121,dn x122,db b123,D.fs l124,dn x125,db b126,D.fs l127,dn x128])→∀ x129:Int,x129=l118.length→Ob N1∧Ob (Shp kE l0)∧∀ x130 x131 b132 l133 x134 b135 l136 x137 b138 l139 x140 b141 l142 x143,Ob (l0[x94.toNat]?=some [dn x130,d8 x131,db b132,D.fs l133,dn x134,db b135,D.fs l136,dn x137,db b138,D.fs l139,dn x140,db b141,D.fs l142,dn x143])→∀ x144:Int,x144=l136.length→∀ x145:Int,x145=w64 (x129+x144)→Ob N1∧Ob (Shp kE l0)∧∀ x146 x147 b148 l149 x150 b151 l152 x153 b154 l155 x156 b157 l158 x159,Ob (l0[x94.toNat]?=some [dn x146,d8 x147,db b148,D.fs l149,dn x150,db b151,D.fs l152,dn x153,db b154,D.fs l155,dn x156,db b157,D.fs l158,dn x159])→∀ x160:Int,x160=l155.length→∀ x161:Int,x161=w64 (x145+x160)→Ob N1∧Ob (Shp kE l0)∧∀ x162 x163 b164 l165 x166 b167 l168 x169 b170 l171 x172 b173 l174 x175,Ob (l0[x94.toNat]?=some [dn x162,d8 x163,db b164,D.fs l165,dn x166,db b167,D.fs l168,dn x169,db b170,D.fs l171,dn x172,db b173,D.fs l174,dn x175])→∀ x176:Int,x176=l174.length→∀ x177:Int,x177=w64 (x161+x176)→(x177>2→Ob N0)∧(¬x177>2→∀ x178:Int,x178=w64 (x94+1)→Ob (0≤x178∧upto N3 x178)∧Ob (l0.length-x178.toNat<l0.length-x94.toNat)))∧(¬x114>60→∀ x179:Int,x179=w64 (x94+1)→Ob (0≤x179∧upto N3 x179)∧Ob (l0.length-x179.toNat<l0.length-x94.toNat)))))))))))∧(¬x94<x95→Ob (R [vb false]))))
theorem Ah5:Afb:=by
  delta Afb
  simp only [Ac,and_imp,forall_exists_index,true_and,and_true,List.cons.injEq,DV.c.injEq,DV.a.injEq,D.raw.injEq,D.fs.injEq,Value.bool.injEq,Value.int.injEq]
  intro l0 hn hs R hR
  repeat' first | assumption | exact DShs.tail (Aa (by assumption) (by assumption)) | exact shp32 (by assumption) | exact shp64 (by assumption) | exact shp2 (by assumption) | exact shpF (by assumption) | with_reducible intro _ | with_reducible apply And.intro
  all_goals (try (have e:=Ae ‹_=w64 (_+1)› (by omega) (by omega);subst e))
  all_goals (try (rename l0[(_:Nat)]?=some (_::_)=>hB;revert hB;rename l0[(_:Nat)]?=some (_::_)=>hA;intro hB;have e:=Option.some.inj (hA.symm.trans hB);clear hB;simp only [List.cons.injEq,DV.c.injEq,DV.a.injEq,D.raw.injEq,D.fs.injEq,Value.bool.injEq,Value.int.injEq,true_and,and_true] at e;obtain ⟨rfl,rfl,rfl,rfl,rfl,rfl,rfl,rfl,rfl,rfl,rfl,rfl,rfl,rfl⟩:=e))
  all_goals (try (rename l0[(_:Nat)]?=some (_::_)=>hB;revert hB;rename l0[(_:Nat)]?=some (_::_)=>hA;intro hB;have e:=Option.some.inj (hA.symm.trans hB);clear hB;simp only [List.cons.injEq,DV.c.injEq,DV.a.injEq,D.raw.injEq,D.fs.injEq,Value.bool.injEq,Value.int.injEq,true_and,and_true] at e;obtain ⟨rfl,rfl,rfl,rfl,rfl,rfl,rfl,rfl,rfl,rfl,rfl,rfl,rfl,rfl⟩:=e))
  all_goals (try (rename l0[(_:Nat)]?=some (_::_)=>hB;revert hB;rename l0[(_:Nat)]?=some (_::_)=>hA;intro hB;have e:=Option.some.inj (hA.symm.trans hB);clear hB;simp only [List.cons.injEq,DV.c.injEq,DV.a.injEq,D.raw.injEq,D.fs.injEq,Value.bool.injEq,Value.int.injEq,true_and,and_true] at e;obtain ⟨rfl,rfl,rfl,rfl,rfl,rfl,rfl,rfl,rfl,rfl,rfl,rfl,rfl,rfl⟩:=e))
  all_goals (try (rename l0[(_:Nat)]?=some (_::_)=>hB;revert hB;rename l0[(_:Nat)]?=some (_::_)=>hA;intro hB;have e:=Option.some.inj (hA.symm.trans hB);clear hB;simp only [List.cons.injEq,DV.c.injEq,DV.a.injEq,D.raw.injEq,D.fs.injEq,Value.bool.injEq,Value.int.injEq,true_and,and_true] at e;obtain ⟨rfl,rfl,rfl,rfl,rfl,rfl,rfl,rfl,rfl,rfl,rfl,rfl,rfl,rfl⟩:=e))
  all_goals first
    | assumption
    | (exact fun i hi=>by omega)
    | omega
    | exact Axz hR
    | exact shp2 (by assumption)
    | exact Aa (by assumption) (by assumption)
    | exact shpN (by assumption)
    | exact LS.shp (by assumption)
    | exact shpF h52
    | (rw [Ag (by omega)];exact ⟨by assumption,Ao7 (by assumption) (by first | assumption | (simp [fP,fCo,fLo,fEn,limP,limM,gL];omega))⟩)
    | exact Ax0 hR (⟨by omega,Su (by assumption) (by assumption) (by assumption)⟩)
    | skip
theorem Aoc:Con TP k0 48 Ak3:=Ad [] [(48000,0,some ⟨[0],[3],[],[kn],[],fun ρ ds=>0≤ni ds 0∧upto (Zw fEn (ρ.d 0)) (ni ds 0),fun ρ ds=>(ρ.d 0).length-(ni ds 0).toNat,none⟩)] [] [] 3000 trivial trivial Go.Proofs.Tryz.func48 rfl rfl rfl rfl Afb (by kernel_rfl) Ah5
end Go.Vc

namespace Go.Vc
open Classical
def Ak2:ConT:=⟨[rkS nodeS],[kb],fun aa=>DShs nodeS (ai aa 0),fun aa rs=>∃ b,rs=[vb b]∧(b=false→limN (ai aa 0))⟩
def Afa:Prop:=∀ (x0 x1:Int) (b2:Bool) (x3 x4 x5 x6 x7:Int) (b8:Bool) (l9:LL) (x10:Int) (b11:Bool) (l12:LL) (x13:Int) (b14:Bool) (l15:LL) (x16:Int) (b17:Bool) (l18:LL) (x19:Int) (b20:Bool) (x21 x22:Int) (l23:LL) (b24:Bool) (x25 x26:Int) (l27:LL) (x28 x29:Int) (l30 l31 l32:LL),let N5:=(Zw fP l31);let N6:=((0:Int)≤(0:Int)∧upto N5 (0:Int));let N4:=(Shp kF l31);let N1:=[dn x0,dn x1,db b2,dn x3,dn x4,dn x5,dn x6,dn x7,db b8,D.fs l9,dn x10,db b11,D.fs l12,dn x13,db b14,D.fs l15,dn x16,db b17,D.fs l18,dn x19,db b20,dn x21,dn x22,D.fs l23,db b24,dn x25,dn x26,D.fs l27,dn x28,dn x29,D.fs l30,D.fs l31,D.fs l32];Ob (DShs nodeS N1)→∀ (R:List DV→Prop),let N0:=(R [vb true]);Ob (∀ (res:List DV),(∃ b,res=[vb b]∧(b=false→limN N1))→R res)→∀ x34:Int,x34=l9.length→(x34>42→Ob N0)∧(¬x34>42→(x10>1100→Ob N0)∧(¬x10>1100→∀ x35:Int,x35=l12.length→(x35>42→Ob N0)∧(¬x35>42→(x13>1100→Ob N0)∧(¬x13>1100→∀ x36:Int,x36=l15.length→(x36>42→Ob N0)∧(¬x36>42→(x16>1100→Ob N0)∧(¬x16>1100→∀ x37:Int,x37=l18.length→(x37>42→Ob N0)∧(¬x37>42→(x19>1100→Ob N0)∧(¬x19>1100→∀ x38:Int,x38=l23.length→(x38>70→Ob N0)∧(¬x38>70→∀ x39:Int,x39=l27.length→(x39>100→Ob N0)∧(¬x39>100→∀ x40:Int,x40=l30.length→(x40>70→Ob N0)∧(¬x40>70→∀ x41:Int,x41=l31.length→(x41>40→∀ x42:Int,x42=l31.length→(x42<1024→Ob N0)∧(¬x42<1024→∀ x43:Int,x43=l31.length→(x43>1028→Ob N0)∧(¬x43>1028→Ob N6∧∀ (g44:NV) (x45:Int),let N3:=(0≤x45∧x45<l31.length);Ob (0≤x45∧upto N5 x45)→∀ x46:Int,x46=l31.length→(x45<x46→Ob N3∧Ob N4∧∀ x47 b48 l49 x50 b51 l52 x53 b54 l55 x56 b57 l58 x59 b60 x61 x62 l63,Ob (l31[x45.toNat]?=some [dn x47,db b48,D.fs l49,dn x50,db b51,D.fs l52,dn x53,db b54,D.fs l55,dn x56,db b57,D.fs l58,dn x59,db b60,dn x61,dn x62,D.fs l63])→∀ x64:Int,x64=l49.length→(x64>42→Ob N0)∧(¬x64>42→(x50>1100→Ob N0)∧(¬x50>1100→∀ x65:Int,x65=l52.length→(x65>42→Ob N0)∧(¬x65>42→(x53>1100→Ob N0)∧(¬x53>1100→∀ x66:Int,x66=l55.length→(x66>42→Ob N0)∧(¬x66>42→(x56>1100→Ob N0)∧(¬x56>1100→∀ x67:Int,x67=l58.length→(x67>42→Ob N0)∧(¬x67>42→(x59>1100→Ob N0)∧(¬x59>1100→∀ x68:Int,x68=l63.length→(x68>70→Ob N0)∧(¬x68>70→∀ x69:Int,x69=l31.length→(x69>40→Ob N3∧Ob N4∧∀ x70 b71 l72 x73 b74 l75 x76 b77 l78 x79 b80 l81 x82 b83 x84 x85 l86,Ob (l31[x45.toNat]?=some [dn x70,db b71,D.fs l72,dn x73,db b74,D.fs l75,dn x76,db b77,D.fs l78,dn x79,db b80,D.fs l81,dn x82,db b83,dn x84,dn x85,D.fs l86])→∀ x87:Int,x87=l72.length→Ob N3∧Ob N4∧∀ x88 b89 l90 x91 b92 l93 x94 b95 l96 x97 b98 l99 x100 b101 x102 x103 l104,Ob (l31[x45.toNat]?=some [dn x88,db b89,D.fs l90,dn x91,db b92,D.fs l93,dn x94,db b95,D.fs l96,dn x97,db b98,D.fs l99,dn x100,db b101,dn x102,dn x103,D.fs l104])→∀ x105:Int,x105=l93.length→∀ x106:Int,x106=w64 (x87+x105)→Ob N3∧Ob N4∧∀ x107 b108 l109 x110 b111 l112 x113 b114 l115 x116 b117 l118 x119 b120 x121 x122 l123,Ob (l31[x45.toNat]?=some [dn x107,db b108,D.fs l109,dn x110,db b111,D.fs l112,dn x113,db b114,D.fs l115,dn x116,db b117,D.fs l118,dn x119,db b120,dn x121,dn x122,D.fs l123])→∀ x124:Int,x124=l115.length→∀ x125:Int,x125=w64 (x106+x124)→Ob N3∧Ob N4∧∀ x126 b127 l128 x129 b130 l131 x132 b133 l134 x135 b136 l137 x138 b139 x140 x141 l142,Ob (l31[x45.toNat]?=some [dn x126,db b127,D.fs l128,dn x129,db b130,D.fs l131,dn x132,db b133,D.fs l134,dn x135,db b136,D.fs l137,dn x138,db b139,dn x140,dn x141,D.fs l142])→∀ x143:Int,x143=l137.length→∀ x144:Int,x144=w64 (x125+x143)→Ob N3∧Ob N4∧∀ x145 b146 l147 x148 b149 l150 x151 b152 l153 x154 b155 l156 x157 b158 x159 x160 l161,Ob (l31[x45.toNat]?=some [dn x145,db b146,D.fs l147,dn x148,db b149,D.fs l150,dn x151,db b152,D.fs l153,dn x154,db b155,D.fs l156,dn x157,db b158,dn x159,dn x160,D.fs l161])→∀ x162:Int,x162=l161.length→∀ x163:Int,x163=w64 (x144+x162)→(x163>4→Ob N0)∧(¬x163>4→∀ x164:Int,x164=w64 (x45+1)→Ob (0≤x164∧upto N5 x164)∧Ob (l31.length-x164.toNat<l31.length-x45.toNat)))∧(¬x69>40→∀ x165:Int,x165=w64 (x45+1)→Ob (0≤x165∧upto N5 x165)∧Ob (l31.length-x165.toNat<l31.length-x45.toNat))))))))))))∧(¬x45<x46→∀ x166:Int,x166=l32.length→(x166>100→Ob N0)∧(¬x166>100→Ob (R [vb false]))))))∧(¬x41>40→∀ x167:Int,x167=l31.length→(x167>1028→Ob N0)∧(¬x167>1028→Ob N6∧∀ (g168:NV) (x169:Int),let N2:=(0≤x169∧x169<l31.length);Ob (0≤x169∧upto N5 x169)→∀ x170:Int,x170=l31.length→(x169<x170→Ob N2∧Ob N4∧∀ x171 b172 l173 x174 b175 l176 x177 b178 l179 x180 b181 l182 x183 b184 x185 x186 l187,Ob (l31[x169.toNat]?=some [dn x171,db b172,D.fs l173,dn x174,db b175,D.fs l176,dn x177,db b178,D.fs l179,dn x180,db b181,D.fs l182,dn x183,db b184,dn x185,dn x186,D.fs l187])→∀ x188:Int,x188=l173.length→(x188>42→Ob N0)∧(¬x188>42→(x174>1100→Ob N0)∧(¬x174>1100→∀ x189:Int,x189=l176.length→(x189>42→Ob N0)∧(¬x189>42→(x177>1100→Ob N0)∧(¬x177>1100→∀ x190:Int,x190=l179.length→(x190>42→Ob N0)∧(¬x190>42→(x180>1100→Ob N0)∧(¬x180>1100→∀ x191:Int,x191=l182.length→(x191>42→Ob N0)∧(¬x191>42→(x183>1100→Ob N0)∧(¬x183>1100→∀ x192:Int,x192=l187.length→(x192>70→Ob N0)∧(¬x192>70→∀ x193:Int,x193=l31.length→(x193>40→Ob N2∧Ob N4∧∀ x194 b195 l196 x197 b198 l199 x200 b201 l202 x203 b204 l205 x206 b207 x208 x209 l210,Ob (l31[x169.toNat]?=some [dn x194,db b195,D.fs l196,dn x197,db b198,D.fs l199,dn x200,db b201,D.fs l202,dn x203,db b204,D.fs l205,dn x206,db b207,dn x208,dn x209,D.fs l210])→∀ x211:Int,x211=l196.length→Ob N2∧Ob N4∧∀ x212 b213 l214 x215 b216 l217 x218 b219 l220 x221 b222 l223 x224 b225 x226 x227 l228,Ob (l31[x169.toNat]?=some [dn x212,db b213,D.fs l214,dn x215,db b216,D.fs l217,dn x218,db b219,D.fs l220,dn x221,db b222,D.fs l223,dn x224,db b225,dn x226,dn x227,D.fs l228])→∀ x229:Int,x229=l217.length→∀ x230:Int,x230=w64 (x211+x229)→Ob N2∧Ob N4∧∀ x231 b232 l233 x234 b235 l236 x237 b238 l239 x240 b241 l242 x243 b244 x245 x246 l247,Ob (l31[x169.toNat]?=some [dn x231,db b232,D.fs l233,dn x234,db b235,D.fs l236,dn x237,db b238,D.fs l239,dn x240,db b241,D.fs l242,dn x243,db b244,dn x245,dn x246,D.fs l247])→∀ x248:Int,x248=l239.length→∀ x249:Int,x249=w64 (x230+x248)→Ob N2∧Ob N4∧∀ x250 b251 l252 x253 b254 l255 x256 b257 l258 x259 b260 l261 x262 b263 x264 x265 l266,Ob (l31[x169.toNat]?=some [dn x250,db b251,D.fs l252,dn x253,db b254,D.fs l255,dn x256,db b257,D.fs l258,dn x259,db b260,D.fs l261,dn x262,db b263,dn x264,dn x265,D.fs l266])→∀ x267:Int,x267=l261.length→∀ x268:Int,x268=w64 (x249+x267)→Ob N2∧Ob N4∧∀ x269 b270 l271 x272 b273 l274 x275 b276 l277 x278 b279 l280 x281 b282 x283 x284 l285,Ob (l31[x169.toNat]?=some [dn x269,db b270,D.fs l271,dn x272,db b273,D.fs l274,dn x275,db b276,D.fs l277,dn x278,db b279,D.fs l280,dn x281,db b282,dn x283,dn x284,D.fs l285])→∀ x286:Int,x286=l285.length→∀ x287:Int,x287=w64 (x268+x286)→(x287>4→Ob N0)∧(¬x287>4→∀ x288:Int,x288=w64 (x169+1)→Ob (0≤x288∧upto N5 x288)∧Ob (l31.length-x288.toNat<l31.length-x169.toNat)))∧(¬x193>40→∀ x289:Int,x289=w64 (x169+1)→Ob (0≤x289∧upto N5 x289)∧Ob (l31.length-x289.toNat<l31.length-x169.toNat))))))))))))∧(¬x169<x170→∀ x290:Int,x290=l32.length→(x290>100→Ob N0)∧(¬x290>100→Ob (R [vb false]))))))))))))))))
theorem Ah4:Afa:=by
  delta Afa
  simp only [Ac,and_imp,forall_exists_index,true_and,and_true,List.cons.injEq,DV.c.injEq,DV.a.injEq,D.raw.injEq,D.fs.injEq,Value.bool.injEq,Value.int.injEq]
  intro x0 x1 b2 x3 x4 x5 x6 x7 b8 l9 x10 b11 l12 x13 b14 l15 x16 b17 l18 x19 b20 x21 x22 l23 b24 x25 x26 l27 x28 x29 l30 l31 l32 hs R hR
  obtain ⟨h1,h2,h3,h4,⟨h51,h52⟩,h6⟩:=Dw hs
  repeat' first | assumption | exact DShs.tail (Aa (by assumption) (by assumption)) | exact shp32 (by assumption) | exact shp64 (by assumption) | exact shp2 (by assumption) | exact shpF (by assumption) | with_reducible intro _ | with_reducible apply And.intro
  all_goals (try (have e:=Ae ‹_=w64 (_+1)› (by omega) (by omega);subst e))
  all_goals (try (rename l31[(_:Nat)]?=some (_::_)=>hB;revert hB;rename l31[(_:Nat)]?=some (_::_)=>hA;intro hB;have e:=Option.some.inj (hA.symm.trans hB);clear hB;simp only [List.cons.injEq,DV.c.injEq,DV.a.injEq,D.raw.injEq,D.fs.injEq,Value.bool.injEq,Value.int.injEq,true_and,and_true] at e;obtain ⟨rfl,rfl,rfl,rfl,rfl,rfl,rfl,rfl,rfl,rfl,rfl,rfl,rfl,rfl,rfl,rfl,rfl⟩:=e))
  all_goals (try (rename l31[(_:Nat)]?=some (_::_)=>hB;revert hB;rename l31[(_:Nat)]?=some (_::_)=>hA;intro hB;have e:=Option.some.inj (hA.symm.trans hB);clear hB;simp only [List.cons.injEq,DV.c.injEq,DV.a.injEq,D.raw.injEq,D.fs.injEq,Value.bool.injEq,Value.int.injEq,true_and,and_true] at e;obtain ⟨rfl,rfl,rfl,rfl,rfl,rfl,rfl,rfl,rfl,rfl,rfl,rfl,rfl,rfl,rfl,rfl,rfl⟩:=e))
  all_goals (try (rename l31[(_:Nat)]?=some (_::_)=>hB;revert hB;rename l31[(_:Nat)]?=some (_::_)=>hA;intro hB;have e:=Option.some.inj (hA.symm.trans hB);clear hB;simp only [List.cons.injEq,DV.c.injEq,DV.a.injEq,D.raw.injEq,D.fs.injEq,Value.bool.injEq,Value.int.injEq,true_and,and_true] at e;obtain ⟨rfl,rfl,rfl,rfl,rfl,rfl,rfl,rfl,rfl,rfl,rfl,rfl,rfl,rfl,rfl,rfl,rfl⟩:=e))
  all_goals (try (rename l31[(_:Nat)]?=some (_::_)=>hB;revert hB;rename l31[(_:Nat)]?=some (_::_)=>hA;intro hB;have e:=Option.some.inj (hA.symm.trans hB);clear hB;simp only [List.cons.injEq,DV.c.injEq,DV.a.injEq,D.raw.injEq,D.fs.injEq,Value.bool.injEq,Value.int.injEq,true_and,and_true] at e;obtain ⟨rfl,rfl,rfl,rfl,rfl,rfl,rfl,rfl,rfl,rfl,rfl,rfl,rfl,rfl,rfl,rfl,rfl⟩:=e))
  all_goals (try (rename l31[(_:Nat)]?=some (_::_)=>hB;revert hB;rename l31[(_:Nat)]?=some (_::_)=>hA;intro hB;have e:=Option.some.inj (hA.symm.trans hB);clear hB;simp only [List.cons.injEq,DV.c.injEq,DV.a.injEq,D.raw.injEq,D.fs.injEq,Value.bool.injEq,Value.int.injEq,true_and,and_true] at e;obtain ⟨rfl,rfl,rfl,rfl,rfl,rfl,rfl,rfl,rfl,rfl,rfl,rfl,rfl,rfl,rfl,rfl,rfl⟩:=e))
  all_goals first
    | assumption
    | (exact fun i hi=>by omega)
    | omega
    | exact Axz hR
    | exact shp2 (by assumption)
    | exact Aa (by assumption) (by assumption)
    | exact shpN (by assumption)
    | exact LS.shp (by assumption)
    | exact shpF h52
    | (rw [Ag (by omega)];exact ⟨by assumption,Ao7 (by assumption) (by first | assumption | (simp [fP,fCo,fLo,fEn,limP,limM,gL];omega))⟩)
    | exact Ax0 hR (by simp only [limN,limP,limF,gL];exact ⟨⟨by simp;omega,by simp;omega,by simp;omega,by simp;omega,by simp;omega⟩,by simp;omega,by simp;omega,⟨by simp;omega,Su (by assumption) (by assumption) (by assumption)⟩,by simp;omega⟩)
    | skip
theorem Aob:Con TP k0 24 Ak2:=Ad [] [(24000170023,0,some ⟨[0],[3],[],[kn],[],fun ρ ds=>0≤ni ds 0∧upto (Zw fP (ρ.d 31)) (ni ds 0),fun ρ ds=>(ρ.d 31).length-(ni ds 0).toNat,none⟩)] [] [] 3000 trivial trivial Go.Proofs.Tryz.func24 rfl rfl rfl rfl Afa (by kernel_rfl) Ah4
end Go.Vc

namespace Go.Vc
open Classical
def Ak1:ConT:=⟨[rkS worldS],[kb],fun aa=>DShs worldS (ai aa 0),fun aa rs=>∃ b,rs=[vb b]∧(b=false→wLimF (ai aa 0))⟩
def Ae9:Prop:=∀ (x0 x1 x2 x3:Int) (l4 l5 l6 l7 l8:LL) (x9:Int),let N5:=(Zw limN l4);let N4:=((0:Int)≤(0:Int)∧upto N5 (0:Int));let N3:=[dn x0,dn x1,dn x2,dn x3,D.fs l4,D.fs l5,D.fs l6,D.fs l7,D.fs l8,dn x9];Ob (DShs worldS N3)→∀ (R:List DV→Prop),let N2:=(R [vb true]);Ob (∀ (res:List DV),(∃ b,res=[vb b]∧(b=false→wLimF N3))→R res)→∀ x11:Int,x11=l4.length→(x11>9→Ob N2)∧(¬x11>9→Ob (LSh copyS l5)∧∀ b12,Ob (∃ b,[vb b12]=[vb b]∧(b=false→limCo l5))→(b12=true→Ob N2)∧(b12=false→Ob (LSh loadS l6)∧∀ b13,Ob (∃ b,[vb b13]=[vb b]∧(b=false→limLo l6))→(b13=true→Ob N2)∧(b13=false→Ob (LSh entryS l7)∧∀ b14,Ob (∃ b,[vb b14]=[vb b]∧(b=false→limEn l7))→(b14=true→Ob N2)∧(b14=false→∀ x15:Int,x15=l8.length→(x15>100→∀ x16:Int,x16=l8.length→(x16<1016→Ob N2)∧(¬x16<1016→∀ x17:Int,x17=l8.length→(x17>1030→Ob N2)∧(¬x17>1030→Ob N4∧∀ (g18:NV) (x19:Int),Ob (0≤x19∧upto N5 x19)→∀ x20:Int,x20=l4.length→(x19<x20→Ob (0≤x19∧x19<l4.length)∧Ob (Shp kN l4)∧∀ x21 x22 b23 x24 x25 x26 x27 x28 b29 l30 x31 b32 l33 x34 b35 l36 x37 b38 l39 x40 b41 x42 x43 l44 b45 x46 x47 l48 x49 x50 l51 l52 l53,let N0:=[dn x21,dn x22,db b23,dn x24,dn x25,dn x26,dn x27,dn x28,db b29,D.fs l30,dn x31,db b32,D.fs l33,dn x34,db b35,D.fs l36,dn x37,db b38,D.fs l39,dn x40,db b41,dn x42,dn x43,D.fs l44,db b45,dn x46,dn x47,D.fs l48,dn x49,dn x50,D.fs l51,D.fs l52,D.fs l53];Ob (l4[x19.toNat]?=some N0)→Ob (DShs nodeS N0)∧∀ b54,Ob (∃ b,[vb b54]=[vb b]∧(b=false→limN N0))→(b54=true→Ob N2)∧(b54=false→∀ x55:Int,x55=w64 (x19+1)→Ob (0≤x55∧upto N5 x55)∧Ob (l4.length-x55.toNat<l4.length-x19.toNat)))∧(¬x19<x20→Ob (R [vb false])))))∧(¬x15>100→∀ x56:Int,x56=l8.length→(x56>1030→Ob N2)∧(¬x56>1030→Ob N4∧∀ (g57:NV) (x58:Int),Ob (0≤x58∧upto N5 x58)→∀ x59:Int,x59=l4.length→(x58<x59→Ob (0≤x58∧x58<l4.length)∧Ob (Shp kN l4)∧∀ x60 x61 b62 x63 x64 x65 x66 x67 b68 l69 x70 b71 l72 x73 b74 l75 x76 b77 l78 x79 b80 x81 x82 l83 b84 x85 x86 l87 x88 x89 l90 l91 l92,let N1:=[dn x60,dn x61,db b62,dn x63,dn x64,dn x65,dn x66,dn x67,db b68,D.fs l69,dn x70,db b71,D.fs l72,dn x73,db b74,D.fs l75,dn x76,db b77,D.fs l78,dn x79,db b80,dn x81,dn x82,D.fs l83,db b84,dn x85,dn x86,D.fs l87,dn x88,dn x89,D.fs l90,D.fs l91,D.fs l92];Ob (l4[x58.toNat]?=some N1)→Ob (DShs nodeS N1)∧∀ b93,Ob (∃ b,[vb b93]=[vb b]∧(b=false→limN N1))→(b93=true→Ob N2)∧(b93=false→∀ x94:Int,x94=w64 (x58+1)→Ob (0≤x94∧upto N5 x94)∧Ob (l4.length-x94.toNat<l4.length-x58.toNat)))∧(¬x58<x59→Ob (R [vb false]))))))))
theorem Ah3:Ae9:=by
  delta Ae9
  simp only [Ac,and_imp,forall_exists_index,true_and,and_true,List.cons.injEq,DV.c.injEq,DV.a.injEq,D.raw.injEq,D.fs.injEq,Value.bool.injEq,Value.int.injEq]
  intro x0 x1 x2 x3 l4 l5 l6 l7 l8 x9 hs R hR
  simp only [Ab,Af,Ai,Ak,rng64,true_and,and_true] at hs
  obtain ⟨k0,k1,k2,k3,⟨k4,k5⟩,⟨k6,k7⟩,⟨k8,k9⟩,⟨k10,k11⟩,⟨k12,k13⟩,k14⟩:=hs
  repeat' first | assumption | exact DShs.tail (Aa (by assumption) (by assumption)) | exact shp32 (by assumption) | exact shp64 (by assumption) | exact shp2 (by assumption) | exact shpF (by assumption) | with_reducible intro _ | with_reducible apply And.intro
  all_goals (try (have e:=Ae ‹_=w64 (_+1)› (by omega) (by omega);subst e))
  all_goals (try subst_vars)
  all_goals first
    | assumption
    | (exact fun i hi=>by omega)
    | omega
    | exact Axz hR
    | exact shp2 (by assumption)
    | exact Aa (by assumption) (by assumption)
    | exact shpN (by assumption)
    | exact LS.shp (by assumption)
    | exact shpF h52
    | (rw [Ag (by omega)];exact ⟨by assumption,Ao7 (by assumption) (by first | exact ‹false=false→_› rfl | assumption | (simp [fP,fCo,fLo,fEn,limP,limM,gL];omega))⟩)
    | exact Ax0 hR (A1x (by assumption) (by assumption) (by assumption) (by assumption) (by assumption) (by assumption) (by assumption))
    | skip
theorem Aoa:Con TP k0 10 Ak1:=Ad [(46,Ak5),(47,Ak4),(48,Ak3),(24,Ak2)] [(10000,0,some ⟨[1],[3],[],[kn],[],fun ρ ds=>0≤ni ds 0∧upto (Zw limN (ρ.d 4)) (ni ds 0),fun ρ ds=>(ρ.d 4).length-(ni ds 0).toNat,none⟩)] [] [] 3000 ⟨Aoe,Aod,Aoc,Aob,trivial⟩ trivial Go.Proofs.Tryz.func10 rfl rfl rfl rfl Ae9 (by kernel_rfl) Ah3
end Go.Vc

namespace Go.Vc
open Classical
def Acd (aa:List DV):List DV:=[.a (ai aa 0)]
def Aa4:ConT:=⟨[rkS dyS],[⟨(dyS).map Sh.kd,true,true⟩],fun aa=>DShs dyS (ai aa 0)∧(gL (ai aa 0) 1).length≤1048576,fun aa rs=>rs=Acd aa⟩
def Tf:Prop:=∀ b0 l1 x2,Ob (DShs dyS [db b0,D.fs l1,dn x2]∧l1.length≤1048576)→∀ (R:List DV→Prop),Ob (∀ (res:List DV),res=[DV.a [db b0,D.fs l1,dn x2]]→R res)→Ob (Shp kU l1∧List.length ([]:LL)+l1.length≤1048576)∧∀ (l4:LL),l4=[]++l1→Ob (R [DV.a [db b0,D.fs l4,dn x2]])
theorem Aar:Tf:=by
  delta Tf
  simp only [Ac,and_imp,forall_exists_index,List.cons_append,List.nil_append,Ab,Af,Ai,Ah,Ak,rng64,rng32,true_and,and_true,List.cons.injEq,DV.c.injEq,DV.a.injEq,D.raw.injEq,D.fs.injEq,Value.bool.injEq,Value.int.injEq]
  repeat' first | assumption | exact DShs.tail (Aa (by assumption) (by assumption)) | exact shp32 (by assumption) | exact shp64 (by assumption) | exact shp2 (by assumption) | exact shpF (by assumption) | with_reducible intro _ | with_reducible apply And.intro
  all_goals (try subst_vars)
  all_goals (try simp (disch:=omega) only [Gj,wu64,Int.sub_zero,Int.zero_add,List.length_set] at *)
  all_goals first
    | trivial
    | assumption
    | omega
    | (simp only [List.length_nil,Nat.add_zero] at *;omega)
    | (have hR:=‹∀ res:List DV,_=_→_›;refine hR _ ?_;simp;done)
    | exact LS.shp (by assumption)
    | exact LS.rect (by assumption)
    | grind
theorem Aes:Con TP k0 225 Aa4:=Ad [] [] [] [] 3000 trivial trivial Go.Proofs.Tryz.func225 rfl rfl rfl rfl Tf (by kernel_rfl) Aar
end Go.Vc

namespace Go.Vc
open Classical
def Fu (aa:List DV):List DV:=[.a (ai aa 0)]
def Fm:ConT:=⟨[rkS massS],[⟨(massS).map Sh.kd,true,true⟩],fun aa=>DShs massS (ai aa 0)∧(gL (ai aa 0) 1).length≤1048576∧(gL (ai aa 0) 4).length≤1048576∧(gL (ai aa 0) 7).length≤1048576∧(gL (ai aa 0) 10).length≤1048576,fun aa rs=>rs=Fu aa⟩
def Jb:Prop:=∀ b0 l1 x2 b3 l4 x5 b6 l7 x8 b9 l10 x11,let N1:=[db b9,D.fs l10,dn x11];let N0:=[db b0,D.fs l1,dn x2,db b3,D.fs l4,dn x5,db b6,D.fs l7,dn x8,db b9,D.fs l10,dn x11];Ob (DShs massS N0∧l1.length≤1048576∧l4.length≤1048576∧l7.length≤1048576∧l10.length≤1048576)→∀ (R:List DV→Prop),Ob (∀ (res:List DV),res=[DV.a N0]→R res)→Ob (DShs dyS [db b0,D.fs l1,dn x2]∧l1.length≤1048576)∧∀ b13 l14 x15,Ob ([DV.a [db b13,D.fs l14,dn x15]]=[DV.a [db b0,D.fs l1,dn x2]])→Ob (DShs dyS [db b3,D.fs l4,dn x5]∧l4.length≤1048576)∧∀ b16 l17 x18,Ob ([DV.a [db b16,D.fs l17,dn x18]]=[DV.a [db b3,D.fs l4,dn x5]])→Ob (DShs dyS [db b6,D.fs l7,dn x8]∧l7.length≤1048576)∧∀ b19 l20 x21,Ob ([DV.a [db b19,D.fs l20,dn x21]]=[DV.a [db b6,D.fs l7,dn x8]])→Ob (DShs dyS N1∧l10.length≤1048576)∧∀ b22 l23 x24,Ob ([DV.a [db b22,D.fs l23,dn x24]]=[DV.a N1])→Ob (R [DV.a [db b13,D.fs l14,dn x15,db b16,D.fs l17,dn x18,db b19,D.fs l20,dn x21,db b22,D.fs l23,dn x24]])
theorem Tr:Jb:=by
  delta Jb
  simp only [Ac,and_imp,forall_exists_index,List.cons_append,List.nil_append,Ab,Af,Ai,Ah,Ak,rng64,rng32,true_and,and_true,List.cons.injEq,DV.c.injEq,DV.a.injEq,D.raw.injEq,D.fs.injEq,Value.bool.injEq,Value.int.injEq]
  repeat' first | assumption | exact DShs.tail (Aa (by assumption) (by assumption)) | exact shp32 (by assumption) | exact shp64 (by assumption) | exact shp2 (by assumption) | exact shpF (by assumption) | with_reducible intro _ | with_reducible apply And.intro
  all_goals (try subst_vars)
  all_goals (try simp (disch:=omega) only [Gj,wu64,Int.sub_zero,Int.zero_add,List.length_set] at *)
  all_goals first
    | trivial
    | assumption
    | omega
    | (simp only [List.length_nil,Nat.add_zero] at *;omega)
    | (have hR:=‹∀ res:List DV,_=_→_›;refine hR _ ?_;simp;done)
    | exact LS.shp (by assumption)
    | exact LS.rect (by assumption)
    | grind
theorem Fx:Con TP k0 141 Fm:=Ad [(225,Aa4)] [] [] [(225,Acd)] 3000 ⟨Aes,trivial⟩ ⟨fnq rfl rfl,trivial⟩ Go.Proofs.Tryz.func141 rfl rfl rfl rfl Jb (by kernel_rfl) Tr
end Go.Vc

namespace Go.Vc
open Classical
def Ip (aa:List DV):List DV:=[.a (ai aa 0)]
def Ij:ConT:=⟨[rkS partS],[⟨(partS).map Sh.kd,true,true⟩],fun aa=>DShs partS (ai aa 0)∧(gL (ai aa 0) 1).length≤1048576∧(gL (ai aa 0) 4).length≤1048576∧(gL (ai aa 0) 7).length≤1048576∧(gL (ai aa 0) 10).length≤1048576∧(gL (ai aa 0) 15).length≤1048576,fun aa rs=>rs=Ip aa⟩
def Iy:Prop:=∀ b0 l1 x2 b3 l4 x5 b6 l7 x8 b9 l10 x11 b12 x13 x14 l15,let N1:=[db b0,D.fs l1,dn x2,db b3,D.fs l4,dn x5,db b6,D.fs l7,dn x8,db b9,D.fs l10,dn x11];let N0:=[db b0,D.fs l1,dn x2,db b3,D.fs l4,dn x5,db b6,D.fs l7,dn x8,db b9,D.fs l10,dn x11,db b12,dn x13,dn x14,D.fs l15];Ob (DShs partS N0∧l1.length≤1048576∧l4.length≤1048576∧l7.length≤1048576∧l10.length≤1048576∧l15.length≤1048576)→∀ (R:List DV→Prop),Ob (∀ (res:List DV),res=[DV.a N0]→R res)→Ob (DShs massS N1∧l1.length≤1048576∧l4.length≤1048576∧l7.length≤1048576∧l10.length≤1048576)∧∀ b17 l18 x19 b20 l21 x22 b23 l24 x25 b26 l27 x28,Ob ([DV.a [db b17,D.fs l18,dn x19,db b20,D.fs l21,dn x22,db b23,D.fs l24,dn x25,db b26,D.fs l27,dn x28]]=[DV.a N1])→Ob (Shp kU l15∧List.length ([]:LL)+l15.length≤1048576)∧∀ (l29:LL),l29=[]++l15→Ob (R [DV.a [db b17,D.fs l18,dn x19,db b20,D.fs l21,dn x22,db b23,D.fs l24,dn x25,db b26,D.fs l27,dn x28,db b12,dn x13,dn x14,D.fs l29]])
theorem To:Iy:=by
  delta Iy
  simp only [Ac,and_imp,forall_exists_index,List.cons_append,List.nil_append,Ab,Af,Ai,Ah,Ak,rng64,rng32,true_and,and_true,List.cons.injEq,DV.c.injEq,DV.a.injEq,D.raw.injEq,D.fs.injEq,Value.bool.injEq,Value.int.injEq]
  repeat' first | assumption | exact DShs.tail (Aa (by assumption) (by assumption)) | exact shp32 (by assumption) | exact shp64 (by assumption) | exact shp2 (by assumption) | exact shpF (by assumption) | with_reducible intro _ | with_reducible apply And.intro
  all_goals (try subst_vars)
  all_goals (try simp (disch:=omega) only [Gj,wu64,Int.sub_zero,Int.zero_add,List.length_set] at *)
  all_goals first
    | trivial
    | assumption
    | omega
    | (simp only [List.length_nil,Nat.add_zero] at *;omega)
    | (have hR:=‹∀ res:List DV,_=_→_›;refine hR _ ?_;simp;done)
    | exact LS.shp (by assumption)
    | exact LS.rect (by assumption)
    | grind
theorem Kz:Con TP k0 115 Ij:=Ad [(141,Fm)] [] [] [(141,Fu)] 3000 ⟨Fx,trivial⟩ ⟨fnq rfl rfl,trivial⟩ Go.Proofs.Tryz.func115 rfl rfl rfl rfl Iy (by kernel_rfl) To
end Go.Vc

namespace Go.Vc
open Classical
def Nu (aa:List DV):List DV:=[.a (ai aa 0)]
def Nd:ConT:=⟨[rkS cacheS],[⟨(cacheS).map Sh.kd,true,true⟩],fun aa=>DShs cacheS (ai aa 0)∧(gL (ai aa 0) 2).length≤1048576,fun aa rs=>rs=Nu aa⟩
def Hc:Prop:=∀ x0 x1 l2,Ob (DShs cacheS [dn x0,dn x1,D.fs l2]∧l2.length≤1048576)→∀ (R:List DV→Prop),Ob (∀ (res:List DV),res=[DV.a [dn x0,dn x1,D.fs l2]]→R res)→Ob (Shp kP l2∧List.length ([]:LL)+l2.length≤1048576)∧∀ (l4:LL),l4=[]++l2→Ob (R [DV.a [dn x0,dn x1,D.fs l4]])
theorem Pj:Hc:=by
  delta Hc
  simp only [Ac,and_imp,forall_exists_index,List.cons_append,List.nil_append,Ab,Af,Ai,Ah,Ak,rng64,rng32,true_and,and_true,List.cons.injEq,DV.c.injEq,DV.a.injEq,D.raw.injEq,D.fs.injEq,Value.bool.injEq,Value.int.injEq]
  repeat' first | assumption | exact DShs.tail (Aa (by assumption) (by assumption)) | exact shp32 (by assumption) | exact shp64 (by assumption) | exact shp2 (by assumption) | exact shpF (by assumption) | with_reducible intro _ | with_reducible apply And.intro
  all_goals (try subst_vars)
  all_goals (try simp (disch:=omega) only [Gj,wu64,Int.sub_zero,Int.zero_add,List.length_set] at *)
  all_goals first
    | trivial
    | assumption
    | omega
    | (simp only [List.length_nil,Nat.add_zero] at *;omega)
    | (have hR:=‹∀ res:List DV,_=_→_›;refine hR _ ?_;simp;done)
    | exact LS.shp (by assumption)
    | exact LS.rect (by assumption)
    | grind
theorem Up:Con TP k0 116 Nd:=Ad [] [] [] [] 3000 trivial trivial Go.Proofs.Tryz.func116 rfl rfl rfl rfl Hc (by kernel_rfl) Pj
end Go.Vc

namespace Go.Vc
open Classical
def Rl (aa:List DV):List DV:=[vl (li aa 0)]
def Pu:ConT:=⟨[kl],[kl],fun aa=>LSh frozS (li aa 0)∧limF (li aa 0),fun aa rs=>rs=Rl aa⟩
def Ix:Prop:=∀ (l0:LL),Ob (LSh frozS l0∧limF l0)→∀ (R:List DV→Prop),Ob (∀ (res:List DV),res=[vl l0]→R res)→Ob ((0:Int)≤(0:Int)∧(0:Int)≤(l0.length:Int)∧[]=List.take (Int.toNat (0:Int)) l0)∧∀ (g2:NV) (x3:Int) (l4:LL),let N1:=(0≤x3∧x3<l0.length);Ob (0≤x3∧x3≤l0.length∧l4=List.take (x3.toNat) l0)→∀ x5:Int,x5=l0.length→(x3<x5→Ob N1∧Ob (Shp kF l0)∧∀ x6 b7 l8 x9 b10 l11 x12 b13 l14 x15 b16 l17 x18 b19 x20 x21 l22,Ob (l0[x3.toNat]?=some [dn x6,db b7,D.fs l8,dn x9,db b10,D.fs l11,dn x12,db b13,D.fs l14,dn x15,db b16,D.fs l17,dn x18,db b19,dn x20,dn x21,D.fs l22])→Ob N1∧Ob (Shp kF l0)∧∀ x23 b24 l25 x26 b27 l28 x29 b30 l31 x32 b33 l34 x35 b36 x37 x38 l39,let N0:=[[dn x6,db b24,D.fs l25,dn x26,db b27,D.fs l28,dn x29,db b30,D.fs l31,dn x32,db b33,D.fs l34,dn x35,db b36,dn x37,dn x38,D.fs l39]];Ob (l0[x3.toNat]?=some [dn x23,db b24,D.fs l25,dn x26,db b27,D.fs l28,dn x29,db b30,D.fs l31,dn x32,db b33,D.fs l34,dn x35,db b36,dn x37,dn x38,D.fs l39])→Ob (DShs partS [db b24,D.fs l25,dn x26,db b27,D.fs l28,dn x29,db b30,D.fs l31,dn x32,db b33,D.fs l34,dn x35,db b36,dn x37,dn x38,D.fs l39]∧l25.length≤1048576∧l28.length≤1048576∧l31.length≤1048576∧l34.length≤1048576∧l39.length≤1048576)∧Ob (l4.length+List.length N0≤(1048576:Nat))∧∀ (l40:LL),l40=l4++N0→∀ x41:Int,x41=w64 (x3+1)→Ob (0≤x41∧x41≤l0.length∧l40=List.take (x41.toNat) l0)∧Ob (l0.length-x41.toNat<l0.length-x3.toNat))∧(¬x3<x5→Ob (R [vl l4]))
theorem Tn:Ix:=by
  delta Ix
  simp only [Ac,and_imp,true_and,and_true,List.cons.injEq,DV.c.injEq,DV.a.injEq,D.raw.injEq,D.fs.injEq,Value.bool.injEq,Value.int.injEq]
  intro l0 hl hs hL R hR
  repeat' first | assumption | exact DShs.tail (Aa (by assumption) (by assumption)) | exact shp32 (by assumption) | exact shp64 (by assumption) | exact shp2 (by assumption) | exact shpF (by assumption) | with_reducible intro _ | with_reducible apply And.intro
  all_goals (try (have e:=Ae ‹_=w64 (_+1)› (by omega) (by omega);subst e))
  all_goals (try (have hq:=limF.at (by assumption) (by assumption);obtain ⟨q1,q2,q3,q4,q5⟩:=hq))
  all_goals first
    | assumption
    | omega
    | exact DShs.tail (Aa (by assumption) (by assumption))
    | exact shpF (by assumption)
    | (refine hR _ ?_;subst_vars;rw [List.take_of_length_le (by omega)];done)
    | rfl
    | (rw [Ao (by omega) (by assumption)];grind)
    | (have hl1:=hL.1;subst_vars;simp only [List.length_take,List.length_append,List.length_cons,List.length_nil] at *;omega)
    | skip
theorem Zd:Con TP k0 117 Pu:=Ad [(115,Ij)] [(117000,0,some ⟨[0],[4],[],[kn],[⟨3,79,17,true, .tmp⟩],fun ρ ds=>0≤ni ds 0∧ni ds 0≤(ρ.d 0).length∧li ds 1=(ρ.d 0).take (ni ds 0).toNat,fun ρ ds=>(ρ.d 0).length-(ni ds 0).toNat,none⟩)] [] [(115,Ip)] 3000 ⟨Kz,trivial⟩ ⟨fnq rfl rfl,trivial⟩ Go.Proofs.Tryz.func117 rfl rfl rfl rfl Ix (by kernel_rfl) Tn
end Go.Vc

namespace Go.Vc
open Classical
def Rm (aa:List DV):List DV:=[.a (ai aa 0)]
def Pv:ConT:=⟨[rkS nodeS],[rkS nodeS],fun aa=>DShs nodeS (ai aa 0)∧limN (ai aa 0),fun aa rs=>rs=Rm aa⟩
def Iz:Prop:=∀ x0 x1 b2 x3 x4 x5 x6 x7 b8 l9 x10 b11 l12 x13 b14 l15 x16 b17 l18 x19 b20 x21 x22 l23 b24 x25 x26 l27 x28 x29 l30 l31 l32,let N2:=[dn x28,dn x29,D.fs l30];let N1:=[db b8,D.fs l9,dn x10,db b11,D.fs l12,dn x13,db b14,D.fs l15,dn x16,db b17,D.fs l18,dn x19,db b20,dn x21,dn x22,D.fs l23];let N0:=[dn x0,dn x1,db b2,dn x3,dn x4,dn x5,dn x6,dn x7,db b8,D.fs l9,dn x10,db b11,D.fs l12,dn x13,db b14,D.fs l15,dn x16,db b17,D.fs l18,dn x19,db b20,dn x21,dn x22,D.fs l23,db b24,dn x25,dn x26,D.fs l27,dn x28,dn x29,D.fs l30,D.fs l31,D.fs l32];Ob (DShs nodeS N0∧limN N0)→∀ (R:List DV→Prop),Ob (∀ (res:List DV),res=[DV.a N0]→R res)→Ob (DShs partS N1∧l9.length≤1048576∧l12.length≤1048576∧l15.length≤1048576∧l18.length≤1048576∧l23.length≤1048576)∧∀ b34 l35 x36 b37 l38 x39 b40 l41 x42 b43 l44 x45 b46 x47 x48 l49,Ob ([DV.a [db b34,D.fs l35,dn x36,db b37,D.fs l38,dn x39,db b40,D.fs l41,dn x42,db b43,D.fs l44,dn x45,db b46,dn x47,dn x48,D.fs l49]]=[DV.a N1])→Ob (Shp kI l27∧List.length ([]:LL)+l27.length≤1048576)∧∀ (l50:LL),l50=[]++l27→Ob (DShs cacheS N2∧l30.length≤1048576)∧∀ x51 x52 l53,Ob ([DV.a [dn x51,dn x52,D.fs l53]]=[DV.a N2])→Ob (LSh frozS l31∧limF l31)∧∀ l54,Ob ([vl l54]=[vl l31])→Ob (Shp kP l32∧List.length ([]:LL)+l32.length≤1048576)∧∀ (l55:LL),l55=[]++l32→Ob (R [DV.a [dn x0,dn x1,db b2,dn x3,dn x4,dn x5,dn x6,dn x7,db b34,D.fs l35,dn x36,db b37,D.fs l38,dn x39,db b40,D.fs l41,dn x42,db b43,D.fs l44,dn x45,db b46,dn x47,dn x48,D.fs l49,db b24,dn x25,dn x26,D.fs l50,dn x51,dn x52,D.fs l53,D.fs l54,D.fs l55]])
theorem Tp:Iz:=by
  delta Iz
  simp only [Ac,and_imp,forall_exists_index,true_and,and_true,List.cons.injEq,DV.c.injEq,DV.a.injEq,D.raw.injEq,D.fs.injEq,Value.bool.injEq,Value.int.injEq]
  intro x0 x1 b2 x3 x4 x5 x6 x7 b8 l9 x10 b11 l12 x13 b14 l15 x16 b17 l18 x19 b20 x21 x22 l23 b24 x25 x26 l27 x28 x29 l30 l31 l32 hs hL R hR
  obtain ⟨h1,h2,h3,h4,h5,h6⟩:=Dw hs
  obtain ⟨⟨q1,q2,q3,q4,q5⟩,q6,q7,q8,q9⟩:=hL.of
  repeat' first | assumption | exact DShs.tail (Aa (by assumption) (by assumption)) | exact shp32 (by assumption) | exact shp64 (by assumption) | exact shp2 (by assumption) | exact shpF (by assumption) | with_reducible intro _ | with_reducible apply And.intro
  all_goals first
    | assumption
    | omega
    | exact h5.1
    | exact h5.2
    | exact h3.1
    | exact h3.2
    | exact h6.1
    | exact h6.2
    | exact LS.shp h3.2
    | exact LS.shp h6.2
    | exact LS.rect (by assumption)
    | exact LS.rect h3.2
    | exact LS.rect h6.2
    | (simp only [List.length_nil,Nat.add_zero] at *;omega)
    | (refine hR _ ?_;subst_vars;simp;done)
    | skip
theorem Ze:Con TP k0 31 Pv:=Ad [(115,Ij),(116,Nd),(117,Pu)] [] [] [(115,Ip),(116,Nu),(117,Rl)] 3000 ⟨Kz,Up,Zd,trivial⟩ ⟨fnq rfl rfl,fnq rfl rfl,fnq rfl rfl,trivial⟩ Go.Proofs.Tryz.func31 rfl rfl rfl rfl Iz (by kernel_rfl) Tp
end Go.Vc
