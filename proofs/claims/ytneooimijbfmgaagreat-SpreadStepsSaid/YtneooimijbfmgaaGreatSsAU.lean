import Derived.Test.YtneooimijbfmgaaGreatSsAT
set_option linter.unusedVariables false
set_option linter.unusedSimpArgs false
set_option linter.unusedSectionVars false
noncomputable section
namespace Go.Vc
open Classical
theorem Avt {i:Int} (h0:0≤i) (h7:i≤7):DShs nodeS (downC i)∧limN (downC i):=by
 refine ⟨At0 h0 h7,⟨?_,?_,?_,?_,?_⟩,?_,?_,⟨?_,fun c hc=>(by cases hc)⟩,?_⟩ <;> exact of_decide_eq_true rfl
end Go.Vc

namespace Go.Vc
open Classical
def eqD (a b:List D):Prop:=a=b
def eqQ (a b:LL):Prop:=a=b
theorem Ig {l:LL} {k:Nat} {c d:List D} (h2:l[k]?=some d) (h1:l[k]?=some c):eqD c d:=Option.some.inj (h1.symm.trans h2)
theorem If {l:LL} {k:Nat} {x y:D} {c d:List D} (h2:l[k]?=some (y::d)) (h1:l[k]?=some (x::c)):eqD c d:=by
 have e:=Option.some.inj (h1.symm.trans h2)
 injection e
theorem Kw (a:List D):eqD a a:=rfl
theorem Sc (a:LL):eqQ a a:=rfl
end Go.Vc

namespace Go.Vc
open Classical
abbrev loadS:List Sh:=[s64,s64,s64, .bool, .sl [s32],s64, .bool, .sl [s32],s64, .bool, .sl [s32],s64, .bool, .sl [s32],s64]
theorem Qv {l:LL} {k:Nat} {q r:IntKind} {x y:Int} {cs:List D} (h:l[k]?=some (.raw (.int q x)::.raw (.int r y)::cs)):nth l k 1=y:=by unfold nth;rw [h];rfl
theorem Vq {l:LL} {k:Nat} {q r s:IntKind} {x y z:Int} {cs:List D} (h:l[k]?=some (.raw (.int q x)::.raw (.int r y)::.raw (.int s z)::cs)):nth l k 2=z:=by unfold nth;rw [h];rfl
def Ca (l:LL) (i:Nat):Prop:=prv l i<nth l i 0∧nth l i 0≤1048575∧0≤nth l i 1∧nth l i 1≤65535∧1≤nth l i 2∧nth l i 2≤16∧Bl (((l[i]?).getD []).drop 3)
def Dq (l:LL):Int:=if 16<l.length then 4 else if upto (Ca l) l.length then 0 else 8
theorem Iu {l:LL} {k a b c p:Int} {cs:List D} (h1:l[k.toNat]?=some (dn a::dn b::dn c::cs)) (hp:p=prv l k.toNat) (h:a≤p∨a>1048575∨b<0∨b>65535∨c<1∨c>16):¬Ca l k.toNat:=fun hh=>by
 obtain ⟨h2,h3,h4,h5,h6,h7,_⟩:=hh
 rw [Cv h1] at h2 h3
 rw [Qv h1] at h4 h5
 rw [Vq h1] at h6 h7
 omega
theorem Ake {l:LL} {k a b c x:Int} {cs:List D} (h1:l[k.toNat]?=some (dn a::dn b::dn c::cs)) (hx:x=if Bl cs then 0 else 8) (h:x≠0):¬Ca l k.toNat:=fun hh=>by
 obtain ⟨_,_,_,_,_,_,h4⟩:=hh
 rw [h1] at h4
 exact h (hx.trans (if_pos h4))
theorem Ae0 {l:LL} {k a b c p x:Int} {cs:List D} (h1:l[k.toNat]?=some (dn a::dn b::dn c::cs)) (hp:p=prv l k.toNat) (hx:x=if Bl cs then 0 else 8) (h:¬a≤p) (h2:¬a>1048575) (h3:¬b<0) (h4:¬b>65535) (h5:¬c<1) (h6:¬c>16) (h7:¬x≠0):Ca l k.toNat:=by
 unfold Ca
 rw [Cv h1,Qv h1,Vq h1,h1]
 refine ⟨by omega,by omega,by omega,by omega,by omega,by omega,?_⟩
 rcases Classical.em (Bl cs) with hc | hc
 ·exact hc
 ·rw [if_neg hc] at hx;omega
theorem Gr {l:LL} {k n:Int} (hl:¬16<l.length) (h:¬Ca l k.toNat) (h0:0≤k) (h1:k<n) (hn:n=(l.length:Int)):Dq l=8:=by
 unfold Dq
 rw [if_neg hl,if_neg (Bc h h0 (by omega))]
theorem Acj {l:LL} {k n:Int} (hl:¬16<l.length) (h:upto (Ca l) k) (h1:¬k<n) (hn:n=(l.length:Int)):Dq l=0:=by
 unfold Dq
 rw [if_neg hl,if_pos (Ba h (by omega))]
theorem shpLo {l:LL} (h:LS loadS l):Shp [.int .i64, .int .i64, .int .i64, .bool, .sl, .int .i64, .bool, .sl, .int .i64, .bool, .sl, .int .i64, .bool, .sl, .int .i64] l:=DSh.shp h
abbrev copyS:List Sh:=[s64,s64, .sl [.int .u8], .bool]
def Axa (c:List D):Prop:=0≤gI c 0∧gI c 0≤1048575∧0≤gI c 1∧gI c 1<8∧0<(gL c 2).length∧(gL c 2).length≤4105
def Di (l:LL) (i:Nat):Prop:=Axa ((l[i]?).getD [])
def Bg (l:LL):Int:=if 16<l.length then 4 else if upto (Di l) l.length then 0 else 8
theorem shpCo {l:LL} (h:LS copyS l):Shp [.int .i64, .int .i64, .sl, .bool] l:=DSh.shp h
theorem Gb {l:LL} {k a b:Int} {t:LL} {s:Bool} (h:l[k.toNat]?=some [dn a,dn b, .fs t,db s]):Di l k.toNat↔0≤a∧a≤1048575∧0≤b∧b<8∧0<t.length∧t.length≤4105:=by
 unfold Di;rw [h];rfl
theorem Acl {l:LL} {k:Int} (hl:¬16<l.length) (h:¬Di l k.toNat) (h0:0≤k) (h1:k<(l.length:Int)):Bg l=8:=by
 unfold Bg
 rw [if_neg hl,if_neg (Bc h h0 h1)]
theorem Ack {l:LL} {k:Int} (hl:¬16<l.length) (h:upto (Di l) k) (h1:(l.length:Int)≤k):Bg l=0:=by
 unfold Bg
 rw [if_neg hl,if_pos (Ba h h1)]
end Go.Vc
namespace Go.Vc
open Classical
def cntC (l:LL) (k:Int):Nat→Int
 | 0=>0
 | n+1=>cntC l k n+if nth l n 0=k then 1 else 0
theorem As9 {l:LL} {k:Int}:0=cntC l k (Int.toNat 0):=rfl
theorem Av1 {l:LL} {k:Int} (n:Nat):0≤cntC l k n∧cntC l k n≤n:=by
 induction n with
 | zero=>exact ⟨Int.le_refl _,Int.le_refl _⟩
 | succ n ih=>simp only [cntC];split <;> omega
theorem Ahq {l:LL} {k a c i j:Int} {cs:List D} (h:l[i.toNat]?=some (dn a::cs)) (hc:c=cntC l k i.toNat) (h0:0≤i) (hi:i<(l.length:Int)) (hl:l.length≤9223372036854775807) (e:a=k) (hj:j=w64 (c+1)):j=cntC l k (i+1).toNat:=by
 have hn:=Av1 (l:=l) (k:=k) i.toNat
 have hj2:j=c+1:=by rw [hj,Gj (by omega) (by omega)]
 rw [show (i+1).toNat=i.toNat+1 by omega]
 simp only [cntC]
 rw [Cv h,if_pos e];omega
theorem Aox {l:LL} {k a c i:Int} {cs:List D} (h:l[i.toNat]?=some (dn a::cs)) (hc:c=cntC l k i.toNat) (h0:0≤i) (e:¬a=k):c=cntC l k (i+1).toNat:=by
 rw [show (i+1).toNat=i.toNat+1 by omega]
 simp only [cntC]
 rw [Cv h,if_neg e];omega
theorem Ahr {l:LL} {k c i:Int} (hc:c=cntC l k i.toNat) (h0:0≤i) (h1:i≤(l.length:Int)) (h2:(l.length:Int)≤i):c=cntC l k l.length:=by
 rw [hc,show i.toNat=l.length by omega]
end Go.Vc
namespace Go.Vc
open Classical
theorem Atg {l:LL} {x y:Int} (hs:LS [s32] l) (hk:l[Int.toNat 0]?=some [d32 x]) (hy:y=x.tmod 2) (h:¬y=1):x.tmod 2=0:=by
 have hz:=hs.nth hk
 simp only [Ab,Ai,rng32] at hz
 have h0:0≤x:=hz.1.1
 have e:x.tmod 2=x % 2:=Int.tmod_eq_emod_of_nonneg h0
 rw [e] at hy ⊢
 omega
end Go.Vc

namespace Go.Vc
open Classical
theorem Aqx {l:LL} {k:Int} (h:upto (Ca l) k):∀ n:Nat,(n:Int)≤k→-1≤prv l n:=by
 intro n
 induction n with
 | zero=>intro _;exact Int.le_refl _
 | succ n ih =>
  intro hn
  have h1:=(h n (by omega)).1
  have h2:=ih (by omega)
  unfold prv
  rw [if_neg (by omega),show n+1-1=n by omega]
  omega
theorem Akd {l:LL} {k a b c:Int} {cs:List D} (hu:upto (Ca l) k) (h0:0≤k) (h1:l[k.toNat]?=some (dn a::dn b::dn c::cs)) (h:a<0∨a>1048575∨b<0∨b>65535∨c<1∨c>16):¬Ca l k.toNat:=by
 have hp:=Aqx hu k.toNat (by omega)
 exact Iu h1 rfl (by omega)
theorem Vm {l:LL} {k d:Int} {cs:List D} (h:l[(k-1).toNat]?=some (dn d::cs)) (h0:0<k):d=prv l k.toNat:=by
 unfold prv
 rw [if_neg (by omega),show k.toNat-1=(k-1).toNat by omega,Cv h]
theorem Auj {l:LL} {k:Int} (h:¬k>0) : -1=prv l k.toNat:=by
 rw [show k.toNat=0 by omega];rfl
theorem Akb {l:LL} {k a b c:Int} {cs:List D} {x:Bool} (h1:l[k.toNat]?=some (dn a::dn b::dn c::cs)) (hx:x=decide (Bl cs)) (h:x=false):¬Ca l k.toNat:=fun hh=>by
 obtain ⟨_,_,_,_,_,_,h4⟩:=hh
 rw [h1] at h4
 rw [hx] at h
 exact (of_decide_eq_false h) h4
theorem A0r {c:List D} {x:Bool} (hx:x=decide (Bl c)) (h:¬x=false):Bl c:=by
 rcases Classical.em (Bl c) with hc | hc
 ·exact hc
 ·exact absurd (hx.trans (decide_eq_false hc)) h
theorem Wp {l:LL} {k a b c p:Int} {cs:List D} {x:Bool} (h1:l[k.toNat]?=some (dn a::dn b::dn c::cs)) (hx:x=decide (Bl cs)) (h:¬x=false) (hp:p=prv l k.toNat) (h0:¬a≤p) (h2:¬a>1048575) (h3:¬b<0) (h4:¬b>65535) (h5:¬c<1) (h6:¬c>16):Ca l k.toNat:=by
 unfold Ca
 rw [Cv h1,Qv h1,Vq h1,h1]
 exact ⟨by omega,by omega,by omega,by omega,by omega,by omega,A0r hx h⟩
theorem Akc {l:LL} {k a b c d:Int} {cs ds:List D} (h2:l[(k-1).toNat]?=some (dn d::ds)) (h1:l[k.toNat]?=some (dn a::dn b::dn c::cs)) (h0:k>0) (h:a≤d):¬Ca l k.toNat:=by
 have:=Vm h2 h0
 exact Iu h1 this (by omega)
abbrev entryS:List Sh:=[s64, .int .u8, .bool, .sl [s32],s64, .bool, .sl [s32],s64, .bool, .sl [s32],s64, .bool, .sl [s32],s64]
theorem shpEn {l:LL} (h:LS entryS l):Shp [.int .i64, .int .u8, .bool, .sl, .int .i64, .bool, .sl, .int .i64, .bool, .sl, .int .i64, .bool, .sl, .int .i64] l:=DSh.shp h
def Bj (l:LL) (i:Nat):Prop:=0≤nth l i 0∧nth l i 0≤65535∧1≤nth l i 1∧nth l i 1≤6∧Bl (((l[i]?).getD []).drop 2)
def Ci (l:LL):Int:=if 8192<l.length then 4 else if upto (Bj l) l.length then 0 else 8
theorem Cl {l:LL} {k a b:Int} {q:IntKind} {cs:List D} (h:l[k.toNat]?=some (dn a::.raw (.int q b)::cs)):Bj l k.toNat↔0≤a∧a≤65535∧1≤b∧b≤6∧Bl cs:=by
 unfold Bj
 rw [Cv h,Qv h,h];rfl
theorem Sw {l:LL} {k a b:Int} {q:IntKind} {cs:List D} (h:l[k.toNat]?=some (dn a::.raw (.int q b)::cs)) (h1:a<0∨a>65535∨b<1∨b>6):¬Bj l k.toNat:=fun hh=>by
 have:=(Cl h).1 hh
 omega
theorem Ae5 {l:LL} {k a b:Int} {q:IntKind} {cs:List D} {x:Bool} (h:l[k.toNat]?=some (dn a::.raw (.int q b)::cs)) (hx:x=decide (Bl cs)) (h1:x=false):¬Bj l k.toNat:=fun hh=>by
 rw [hx] at h1
 exact (of_decide_eq_false h1) ((Cl h).1 hh).2.2.2.2
theorem Ae2 {l:LL} {k a b:Int} {q:IntKind} {cs:List D} {x:Bool} (h:l[k.toNat]?=some (dn a::.raw (.int q b)::cs)) (hx:x=decide (Bl cs)) (h1:¬x=false) (h2:0≤a∧a≤65535∧1≤b∧b≤6):Bj l k.toNat :=
 (Cl h).2 ⟨h2.1,h2.2.1,h2.2.2.1,h2.2.2.2,A0r hx h1⟩
theorem Ae4 {l:LL} {k a b:Int} {q:IntKind} {cs:List D} {x:Bool} (h:l[k.toNat]?=some (dn a::.raw (.int q b)::cs)) (hx:x=decide (1≤b∧b≤6)) (h1:x=false):¬Bj l k.toNat:=fun hh=>by
 rw [hx] at h1
 exact (of_decide_eq_false h1) ⟨((Cl h).1 hh).2.2.1,((Cl h).1 hh).2.2.2.1⟩
theorem Ae3 {l:LL} {k a b x:Int} {q:IntKind} {cs:List D} (h:l[k.toNat]?=some (dn a::.raw (.int q b)::cs)) (hx:x=if Bl cs then 0 else 8) (h1:x≠0):¬Bj l k.toNat:=fun hh=>h1 (hx.trans (if_pos ((Cl h).1 hh).2.2.2.2))
theorem Ae1 {l:LL} {k a b x:Int} {q:IntKind} {cs:List D} {y:Bool} (h:l[k.toNat]?=some (dn a::.raw (.int q b)::cs)) (hx:x=if Bl cs then 0 else 8) (h1:¬x≠0) (hy:y=decide (1≤b∧b≤6)) (h2:¬y=false) (h3:0≤a∧a≤65535):Bj l k.toNat:=by
 refine (Cl h).2 ⟨h3.1,h3.2,?_⟩
 have h4:1≤b∧b≤6:=by
  rcases Classical.em (1≤b∧b≤6) with hc | hc
  ·exact hc
  ·exact absurd (hy.trans (decide_eq_false hc)) h2
 refine ⟨h4.1,h4.2,?_⟩
 rcases Classical.em (Bl cs) with hc | hc
 ·exact hc
 ·rw [if_neg hc] at hx;omega
theorem Fh {l:LL} {k:Int} (hl:¬8192<l.length) (h:¬Bj l k.toNat) (h0:0≤k) (h1:k<(l.length:Int)):Ci l=8:=by
 unfold Ci
 rw [if_neg hl,if_neg (Bc h h0 h1)]
theorem Wk {l:LL} {k:Int} (hl:¬8192<l.length) (h:upto (Bj l) k) (h1:(l.length:Int)≤k):Ci l=0:=by
 unfold Ci
 rw [if_neg hl,if_pos (Ba h h1)]
end Go.Vc

namespace Go.Vc
open Classical
def mxN (l:LL):Nat→Int
 | 0=>nth l 0 0
 | n+1=>max (mxN l n) (nth l (n+1) 0)
theorem Asu {l:LL} {m:Int}:∀ n:Nat,mxN l n<m↔∀ i,i≤n→nth l i 0<m
 | 0=>⟨fun h i hi=>by rw [show i=0 by omega];exact h,fun h=>h 0 (Nat.le_refl _)⟩
 | n+1=>by
  have ih:=Asu (l:=l) (m:=m) n
  simp only [mxN]
  constructor
  ·intro h i hi
   by_cases e:i=n+1
   ·rw [e];omega
   ·exact ih.1 (by omega) i (by omega)
  ·intro h
   have h1:=ih.2 fun i hi=>h i (by omega)
   have h2:=h (n+1) (Nat.le_refl _)
   omega
theorem Azx {l:LL} {x:Int} (h:l[Int.toNat 0]?=some [dn x]):x=mxN l (Int.toNat (1-1)):=(Qx h).symm
theorem Axm {l:LL} {x y k:Int} (h:l[k.toNat]?=some [dn x]) (hy:y=mxN l (k-1).toNat) (h1:1≤k):max y x=mxN l (k+1-1).toNat:=by
 rw [show (k+1-1).toNat=(k-1).toNat+1 by omega]
 simp only [mxN]
 rw [show (k-1).toNat+1=k.toNat by omega,Qx h,hy]
theorem Azw {l:LL} {y k:Int} (hy:y=mxN l (k-1).toNat) (h1:k≤(l.length:Int)) (h2:(l.length:Int)≤k):y=mxN l (l.length-1):=by
 rw [hy,show (k-1).toNat=l.length-1 by omega]
def Ds (n:Int) (l:LL) (i:Nat):Prop:=0≤nth l i 0∧nth l i 0≤65535∧0≤nth l i 1∧nth l i 1<n∧inV (nth l i 2)
theorem Cp {l:LL} {k a b c n:Int} (h:l[k.toNat]?=some [dn a,dn b,dn c]):Ds n l k.toNat↔0≤a∧a≤65535∧0≤b∧b<n∧-2147483647≤c∧c≤2147483647:=by
 unfold Ds inV
 rw [Cv h,Qv h,Vq h]
def Bb (c:List D) (n:Int):Prop:=upto (fun i=>nth (gL c 27) i 0<n) (gL c 27).length∧(gB c 24=true→gI c 25<n)∧upto (fun i=>nth (gL c 32) i 1<n) (gL c 32).length
end Go.Vc
namespace Go.Vc
open Classical
def ltN (l:LL) (c:Nat) (n:Int) (i:Nat):Prop:=nth l i c<n
theorem Ayj {l:LL} {m n:Int} (hm:m=mxN l (l.length-1)) (h0:0<(l.length:Int)):m<n↔upto (ltN l 0 n) l.length:=by
 rw [hm,Asu]
 exact ⟨fun h i hi=>h i (by omega),fun h i hi=>h i (by omega)⟩
theorem Abi {l:LL} (h:upto (Bx l) l.length):∀ d i:Nat,i+d<l.length→nth l i 0≤nth l (i+d) 0
 | 0,_,_=>Int.le_refl _
 | d+1,i,hi=>by
  have h1:=Abi h d i (by omega)
  have h2:=(h (i+d+1) (by omega)).1
  unfold prv at h2
  rw [if_neg (by omega),show i+d+1-1=i+d by omega] at h2
  rw [show i+(d+1)=i+d+1 by omega]
  omega
theorem An0 {l:LL} {x k n:Int} (h:Bn l=0) (hk:k=(l.length:Int)) (h0:0<k) (hx:l[(k-1).toNat]?=some [dn x]):x<n↔upto (ltN l 0 n) l.length:=by
 have hz:x=nth l (l.length-1) 0:=(Yr hk h0 hx).symm
 have hu:upto (Bx l) l.length:=by
  unfold Bn at h
  split at h
  ·cases h
  ·split at h
   ·assumption
   ·cases h
 rw [hz]
 constructor
 ·intro hn i hi
  have:=Abi hu (l.length-1-i) i (by omega)
  rw [show i+(l.length-1-i)=l.length-1 by omega] at this
  unfold ltN;omega
 ·intro hh;exact hh _ (by omega)
theorem Ayf {l:LL} {n:Int} (h0:¬0<(l.length:Int)):upto (ltN l 0 n) l.length:=fun i hi=>by omega
theorem A0e {l:LL} {a b k n:Int} (h:l[k.toNat]?=some [dn a,dn b]):ltN l 1 n k.toNat↔b<n:=by
 unfold ltN;rw [Qv h]
end Go.Vc
namespace Go.Vc
open Classical
theorem Ayi {c:List D} {n:Int} (h:¬upto (ltN (gL c 27) 0 n) (gL c 27).length):[vb false]=[vb (decide (Bb c n))]:=by
 rw [decide_eq_false (fun hh=>h hh.1)]
theorem Ayh {c:List D} {n:Int} (h:gB c 24=true) (h2:gI c 25≥n):[vb false]=[vb (decide (Bb c n))]:=by
 rw [decide_eq_false (fun hh=>by have:=hh.2.1 h;omega)]
theorem A0f {c:List D} {n:Int} (h:¬upto (ltN (gL c 32) 1 n) (gL c 32).length):[vb false]=[vb (decide (Bb c n))]:=by
 rw [decide_eq_false (fun hh=>h hh.2.2)]
theorem A0d {c:List D} {n:Int} (h1:upto (ltN (gL c 27) 0 n) (gL c 27).length) (h2:gB c 24=true→gI c 25<n) (h:upto (ltN (gL c 32) 1 n) (gL c 32).length):[vb true]=[vb (decide (Bb c n))]:=by
 rw [decide_eq_true (p:=Bb c n) ⟨h1,h2,h⟩]
end Go.Vc
namespace Go.Vc
open Classical
theorem Ayg {l:LL} {cc:List D} {n k a b:Int} (h1:l[k.toNat]?=some [dn a,dn b]) (hb:b≥n) (h0:0≤k) (hk:k<(l.length:Int)) (hl:gL cc 32=l):[vb false]=[vb (decide (Bb cc n))]:=by
 subst hl
 exact A0f (Bc (fun hh=>by have:=(A0e h1).1 hh;omega) h0 hk)
theorem As7 {l:LL} {cc:List D} {x k n:Int} (hk:k=(l.length:Int)) (h0:0<k) (hx:l[(k-1).toNat]?=some [dn x]) (hg:x≥n) (h:Bn (gL cc 27)=0) (hl:gL cc 27=l):[vb false]=[vb (decide (Bb cc n))]:=by
 subst hl
 exact Ayi (fun hh=>by have:=(An0 h hk h0 hx).2 hh;omega)
theorem A0c {l t:LL} {cc:List D} {x k n j:Int} (hk:k=(l.length:Int)) (h0:0<k) (hx:l[(k-1).toNat]?=some [dn x]) (hg:¬x≥n) (h:Bn (gL cc 27)=0) (hu:upto (ltN t 1 n) j) (hj:(t.length:Int)≤j) (h2:gB cc 24=true→gI cc 25<n) (hl:gL cc 27=l) (ht:gL cc 32=t):[vb true]=[vb (decide (Bb cc n))]:=by
 subst hl ht
 exact A0d ((An0 h hk h0 hx).1 (by omega)) h2 (Ba hu hj)
theorem A0b {l t:LL} {cc:List D} {k n j:Int} (hk:k=(l.length:Int)) (h0:¬k>0) (hu:upto (ltN t 1 n) j) (hj:(t.length:Int)≤j) (h2:gB cc 24=true→gI cc 25<n) (hl:gL cc 27=l) (ht:gL cc 32=t):[vb true]=[vb (decide (Bb cc n))]:=by
 subst hl ht
 exact A0d (Ayf (by omega)) h2 (Ba hu hj)
theorem Awj {b:Bool} {x n:Int} (h:b=false):b=true→x<n:=fun h2=>by rw [h] at h2;cases h2
theorem Akk {b:Bool} {x n:Int} (h:¬x≥n):b=true→x<n:=fun _=>by omega
end Go.Vc
namespace Go.Vc
open Classical
theorem Ayk {cc:List D} {n k a b j:Int} (h1:(gL cc 32)[k.toNat]?=some [dn a,dn b]) (hb:b≥n) (h0:0≤k) (hj:j=((gL cc 32).length:Int)) (hk:k<j):[vb false]=[vb (decide (Bb cc n))]:=Ayg h1 hb h0 (hj▸hk) rfl
theorem Arv {cc:List D} {x k n i j:Int} (hk:k=((gL cc 27).length:Int)) (h0:0<k) (hx:(gL cc 27)[(k-1).toNat]?=some [dn x]) (hg:¬x≥n) (h:Bn (gL cc 27)=0) (hu:upto (ltN (gL cc 32) 1 n) i) (hj:j=((gL cc 32).length:Int)) (hi:¬i<j) (h2:gB cc 24=true→gI cc 25<n):[vb true]=[vb (decide (Bb cc n))]:=A0c hk h0 hx hg h hu (by omega) h2 rfl rfl
theorem Aru {cc:List D} {k n i j:Int} (hk:k=((gL cc 27).length:Int)) (h0:¬k>0) (hu:upto (ltN (gL cc 32) 1 n) i) (hj:j=((gL cc 32).length:Int)) (hi:¬i<j) (h2:gB cc 24=true→gI cc 25<n):[vb true]=[vb (decide (Bb cc n))]:=A0b hk h0 hu (by omega) h2 rfl rfl
end Go.Vc
namespace Go.Vc
open Classical
theorem A0g {cc:List D} {m k n:Int} (hk:k=((gL cc 27).length:Int)) (h0:0<k) (hm:m=mxN (gL cc 27) ((gL cc 27).length-1)) (hg:m≥n):[vb false]=[vb (decide (Bb cc n))]:=Ayi (fun hh=>by have:=(Ayj hm (by omega)).2 hh;omega)
theorem Ayl {cc:List D} {m k n i j:Int} (hk:k=((gL cc 27).length:Int)) (h0:0<k) (hm:m=mxN (gL cc 27) ((gL cc 27).length-1)) (hg:¬m≥n) (hu:upto (ltN (gL cc 32) 1 n) i) (hj:j=((gL cc 32).length:Int)) (hi:¬i<j) (h2:gB cc 24=true→gI cc 25<n):[vb true]=[vb (decide (Bb cc n))]:=A0d ((Ayj hm (by omega)).1 (by omega)) h2 (Ba hu (by omega))
end Go.Vc

namespace Go.Vc
open Classical
abbrev worldS:List Sh:=[s64,s64,s64,s64, .sl nodeS, .sl copyS, .sl loadS, .sl entryS, .sl [s64,s64,s64],s64]
def Kh (cc:List D):Prop:=(gL cc 8).length≤1024∧upto (Ds (gI cc 0) (gL cc 8)) (gL cc 8).length
theorem Ay8 {cc:List D} {k:Int} (hk:k=((gL cc 8).length:Int)) (h:k>1024):[vb false]=[vb (decide (Kh cc))]:=by
 rw [decide_eq_false (fun hh=>by have:=hh.1;omega)]
theorem Ay7 {cc:List D} {k i a b c:Int} (h1:(gL cc 8)[i.toNat]?=some [dn a,dn b,dn c]) (h:¬(0≤a∧a≤65535∧0≤b∧b<gI cc 0∧-2147483647≤c∧c≤2147483647)) (h0:0≤i) (hk:k=((gL cc 8).length:Int)) (hi:i<k):[vb false]=[vb (decide (Kh cc))]:=by
 rw [decide_eq_false (fun hh=>Bc (fun h2=>h ((Cp h1).1 h2)) h0 (by omega) hh.2)]
theorem A03 {cc:List D} {k i:Int} (hk:k=((gL cc 8).length:Int)) (h:¬k>1024) (hu:upto (Ds (gI cc 0) (gL cc 8)) i) (hi:¬i<k):[vb true]=[vb (decide (Kh cc))]:=by
 rw [decide_eq_true (p:=Kh cc) ⟨by omega,Ba hu (by omega)⟩]
end Go.Vc
namespace Go.Vc
open Classical
def Er (w:List D) (i:Int) (c:List D):Prop:=Au c∧gI c 0=i∧Bb c (gI w 9)∧(gB c 2=true→gI c 3=gI w 1∧gI c 29=gI w 3)
end Go.Vc
namespace Go.Vc
open Classical
theorem A0a {w c:List D} {i x:Int} (hx:x=if Au c then 0 else 8) (h:x≠0):[vb false]=[vb (decide (Er w i c))]:=by
 rw [decide_eq_false (fun hh=>h (hx.trans (if_pos hh.1)))]
theorem Az9 {w c:List D} {i:Int} (h:gI c 0≠i):[vb false]=[vb (decide (Er w i c))]:=by
 rw [decide_eq_false (fun hh=>h hh.2.1)]
theorem Az8 {w c:List D} {i:Int} {b:Bool} (hb:b=decide (Bb c (gI w 9))) (h:b=false):[vb false]=[vb (decide (Er w i c))]:=by
 rw [hb] at h
 rw [decide_eq_false (fun hh=>of_decide_eq_false h hh.2.2.1)]
theorem Az7 {w c:List D} {i:Int} (hu:¬gB c 2=false) (h:gI c 3≠gI w 1):[vb false]=[vb (decide (Er w i c))]:=by
 rw [decide_eq_false (fun hh=>h (hh.2.2.2 (by simpa using hu)).1)]
theorem Az6 {w c:List D} {i:Int} (hu:¬gB c 2=false) (h:gI c 29≠gI w 3):[vb false]=[vb (decide (Er w i c))]:=by
 rw [decide_eq_false (fun hh=>h (hh.2.2.2 (by simpa using hu)).2)]
theorem A00 {w c:List D} {i x:Int} {b:Bool} (hx:x=if Au c then 0 else 8) (h:¬x≠0) (h2:¬gI c 0≠i) (hb:b=decide (Bb c (gI w 9))) (h3:¬b=false) (h4:gB c 2=true→gI c 3=gI w 1∧gI c 29=gI w 3):[vb true]=[vb (decide (Er w i c))]:=by
 have h5:Au c:=by
  rcases Classical.em (Au c) with hc | hc
  ·exact hc
  ·rw [if_neg hc] at hx;omega
 have h6:Bb c (gI w 9):=by
  rcases Classical.em (Bb c (gI w 9)) with hc | hc
  ·exact hc
  ·exact absurd (hb.trans (decide_eq_false hc)) h3
 rw [decide_eq_true (p:=Er w i c) ⟨h5,by omega,h6,h4⟩]
theorem Ay5 {b:Bool} {P:Prop} (h:b=false):b=true→P:=fun h2=>by rw [h] at h2;cases h2
end Go.Vc

namespace Go.Vc
open Classical
def Mf (n:Int) (l:LL) (i:Nat):Prop:=0≤nth l i 0∧nth l i 0<n∧0≤nth l i 1∧nth l i 1<n∧nth l i 0≠nth l i 1
def Bo (n:Int) (l:LL):Int:=if n<2∨n>8 then 2 else if 64<l.length then 4 else if upto (Mf n l) l.length then 0 else 2
theorem Dd {l:LL} {k a b n:Int} (h:l[k.toNat]?=some [dn a,dn b]):Mf n l k.toNat↔0≤a∧a<n∧0≤b∧b<n∧a≠b:=by
 unfold Mf
 rw [Cv h,Qv h]
theorem A0u {n:Int} {l:LL} (h:n<2∨n>8):Bo n l=2:=if_pos h
theorem A0t {n k:Int} {l:LL} (h:¬(n<2∨n>8)) (h1:64<l.length):Bo n l=4:=by
 unfold Bo;rw [if_neg h,if_pos h1]
theorem Ay1 {n k:Int} {l:LL} (h:¬(n<2∨n>8)) (h1:¬64<l.length) (h2:¬Mf n l k.toNat) (h0:0≤k) (hk:k<(l.length:Int)):Bo n l=2:=by
 unfold Bo;rw [if_neg h,if_neg h1,if_neg (Bc h2 h0 hk)]
theorem A0s {n k:Int} {l:LL} (h:¬(n<2∨n>8)) (h1:¬64<l.length) (h2:upto (Mf n l) k) (hk:(l.length:Int)≤k):Bo n l=0:=by
 unfold Bo;rw [if_neg h,if_neg h1,if_pos (Ba h2 hk)]
end Go.Vc

namespace Go.Vc
open Classical
def plN (l:LL) (id:Int):Nat→Int
 | 0=>-1
 | n+1=>if 0≤plN l id n then plN l id n else if nth l n 0=id then (n:Int) else -1
theorem Ago {l:LL} {id:Int} {n:Nat} {v:Int} (h:plN l id n=v) (h0:0≤v):∀ d,plN l id (n+d)=v
 | 0=>h
 | d+1=>by
  have ih:=Ago h h0 d
  show (if 0≤plN l id (n+d) then plN l id (n+d) else _)=v
  rw [ih,if_pos h0]
theorem Aul {l:LL} {id k a b:Int} (h:l[k.toNat]?=some [dn a,dn b]) (hp:plN l id k.toNat = -1) (h0:0≤k) (hk:k<(l.length:Int)) (e:a=id):[vn k]=[vn (plN l id l.length)]:=by
 have h1:plN l id (k.toNat+1)=k:=by
  simp only [plN]
  rw [hp,if_neg (by omega),Cv h,if_pos e];omega
 have h2:=Ago h1 h0 (l.length-(k.toNat+1))
 rw [show k.toNat+1+(l.length-(k.toNat+1))=l.length by omega] at h2
 rw [h2]
theorem Aw7 {l:LL} {id k a b:Int} (h:l[k.toNat]?=some [dn a,dn b]) (hp:plN l id k.toNat = -1) (h0:0≤k) (e:¬a=id):plN l id (k+1).toNat = -1:=by
 rw [show (k+1).toNat=k.toNat+1 by omega]
 simp only [plN]
 rw [hp,if_neg (by omega),Cv h,if_neg e]
theorem Aum {l:LL} {id k j:Int} (hp:plN l id k.toNat = -1) (h0:0≤k) (h1:k≤(l.length:Int)) (hj:j=(l.length:Int)) (hk:¬k<j):[vn (-1)]=[vn (plN l id l.length)]:=by
 rw [show l.length=k.toNat by omega,hp]
end Go.Vc

namespace Go.Vc
open Classical
theorem Aqv {l:LL} {k:Int} (h:upto (Bx l) k):∀ n:Nat,(n:Int)≤k→-1≤prv l n:=by
 intro n
 induction n with
 | zero=>intro _;exact Int.le_refl _
 | succ n ih =>
  intro hn
  have h1:=(h n (by omega)).1
  have h2:=ih (by omega)
  unfold prv
  rw [if_neg (by omega),show n+1-1=n by omega]
  omega
theorem Aj4 {l:LL} {k a:Int} (hu:upto (Bx l) k) (h0:0≤k) (h1:l[k.toNat]?=some [dn a]) (h:¬(0≤a∧a≤1048575)):¬Bx l k.toNat:=by
 have hp:=Aqv hu k.toNat (by omega)
 exact Md h1 rfl h0 (by omega)
theorem Aj3 {l:LL} {k a d:Int} (h2:l[(k-1).toNat]?=some [dn d]) (h1:l[k.toNat]?=some [dn a]) (h0:k>0) (h:a≤d):¬Bx l k.toNat :=
 Md h1 (Vm h2 h0) (by omega) (by omega)
theorem Awg {l:LL} {k:Nat} {q r:IntKind} {a b:Int} {cs ds:List D} (h:l[k]?=some (.raw (.int q a)::cs)) (h1:l[k]?=some (.raw (.int r b)::ds)):a=b:=by rw [h] at h1;cases h1;rfl
theorem Aj2 {l:LL} {k a b d:Int} (h:¬b≤d) (h2:l[(k-1).toNat]?=some [dn d]) (h1':l[k.toNat]?=some [dn b]) (h3:a≤1048575) (h1:l[k.toNat]?=some [dn a]) (h0:k>0):Bx l k.toNat :=
 Is h1 (Vm h2 h0) (by have:=Awg h1 h1';omega) (by omega)
theorem Aj0 {l:LL} {k a b c d x y:Int} (h2:l[(k-1).toNat]?=some [dn c,dn d]) (h1':l[k.toNat]?=some [dn x,dn y]) (h:c<x∨c=x∧d<y) (g2:a≤2147483647) (g4:b≤1048575) (h1:l[k.toNat]?=some [dn a,dn b]) (g1:a≥0) (g3:b≥0):Ct l k.toNat:=by
 rw [h1'] at h1;cases h1
 exact Oc h2 h1' (by omega) h
theorem Aj1 {l:LL} {k a:Int} (h1:l[k.toNat]?=some [dn a]) (h0:¬k>0) (h:0≤a) (h3:a≤1048575):Bx l k.toNat :=
 Is h1 (Auj h0) (by omega) (by omega)
theorem Aci {l:LL} {k n:Int} (hn:n=(l.length:Int)) (hl:¬4096<n) (h:¬Bx l k.toNat) (h0:0≤k) (h1:k<n):Bn l=8:=by
 unfold Bn;rw [if_neg (by omega),if_neg (Bc h h0 (by omega))]
theorem An1 {l:LL} {k n:Int} (hn:n=(l.length:Int)) (hl:¬4096<n) (h:upto (Bx l) k) (h1:¬k<n):Bn l=0:=by
 unfold Bn;rw [if_neg (by omega),if_pos (Ba h (by omega))]
theorem Wj {l:LL} {k n:Int} (hn:n=(l.length:Int)) (hl:¬1024<n) (h:¬Ct l k.toNat) (h0:0≤k) (h1:k<n):Bh l=8:=by
 unfold Bh;rw [if_neg (by omega),if_neg (Bc h h0 (by omega))]
theorem Ajh {l:LL} {k n:Int} (hn:n=(l.length:Int)) (hl:¬1024<n) (h:upto (Ct l) k) (h1:¬k<n):Bh l=0:=by
 unfold Bh;rw [if_neg (by omega),if_pos (Ba h (by omega))]
theorem Se {l:LL} {k n:Int} (hn:n=(l.length:Int)) (hl:¬1024<n) (h:¬Bq l k.toNat) (h0:0≤k) (h1:k<n):Be l=8:=by
 unfold Be;rw [if_neg (by omega),if_neg (Bc h h0 (by omega))]
theorem An2 {l:LL} {k n:Int} (hn:n=(l.length:Int)) (hl:¬1024<n) (h:upto (Bq l) k) (h1:¬k<n):Be l=0:=by
 unfold Be;rw [if_neg (by omega),if_pos (Ba h (by omega))]
theorem An4 {l:LL} {k n:Int} (hn:n=(l.length:Int)) (hl:¬64<n) (h:¬Cd l k.toNat) (h0:0≤k) (h1:k<n):Bk l=8:=by
 unfold Bk;rw [if_neg (by omega),if_neg (Bc h h0 (by omega))]
theorem An3 {l:LL} {k n:Int} (hn:n=(l.length:Int)) (hl:¬64<n) (h:upto (Cd l) k) (h1:¬k<n):Bk l=0:=by
 unfold Bk;rw [if_neg (by omega),if_pos (Ba h (by omega))]
theorem Aqw {l:LL} {k:Int} (h:upto (Bq l) k):∀ n:Nat,(n:Int)≤k→-1≤prv l n:=by
 intro n
 induction n with
 | zero=>intro _;exact Int.le_refl _
 | succ n ih =>
  intro hn
  have h1:=(h n (by omega)).1
  have h2:=ih (by omega)
  unfold prv
  rw [if_neg (by omega),show n+1-1=n by omega]
  omega
theorem Aj9 {l:LL} {k a:Int} {cs:List D} (hu:upto (Bq l) k) (h0:0≤k) (h1:l[k.toNat]?=some (dn a::cs)) (h:a<0∨a>65535):¬Bq l k.toNat:=by
 have hp:=Aqw hu k.toNat (by omega)
 exact It h1 rfl h0 (by omega)
theorem Aj8 {l:LL} {k a d:Int} {cs ds:List D} (h2:l[(k-1).toNat]?=some (dn d::ds)) (h1:l[k.toNat]?=some (dn a::cs)) (h0:k>0) (h:a≤d):¬Bq l k.toNat :=
 It h1 (Vm h2 h0) (by omega) (by omega)
theorem Aq0 {c:List D} {x:Bool} (hx:x=decide (Bp c)) (h:¬x=false):Bp c:=by
 rcases Classical.em (Bp c) with hc | hc
 ·exact hc
 ·exact absurd (hx.trans (decide_eq_false hc)) h
theorem Aj7 {l:LL} {k a:Int} {cs:List D} {x:Bool} (h1:l[k.toNat]?=some (dn a::cs)) (hx:x=decide (Bp cs)) (h:x=false):¬Bq l k.toNat:=fun hh=>by
 obtain ⟨_,_,h4⟩:=hh
 rw [h1] at h4
 rw [hx] at h
 exact (of_decide_eq_false h) h4
theorem Wo {l:LL} {k a p:Int} {cs:List D} {x:Bool} (h1:l[k.toNat]?=some (dn a::cs)) (hx:x=decide (Bp cs)) (h:¬x=false) (hp:p=prv l k.toNat) (h0:¬a≤p) (h2:¬a>65535):Bq l k.toNat:=by
 unfold Bq
 rw [Cv h1,h1]
 exact ⟨by omega,by omega,Aq0 hx h⟩
theorem Aj5 {l:LL} {k a b c d:Int} {cs bs es ds:List D} {x:Bool} (hx:x=decide (Bp cs)) (h:¬x=false) (h1:l[k.toNat]?=some (dn a::cs)) (h2:¬b>65535) (h3:l[k.toNat]?=some (dn b::bs)) (h4:¬c≤d) (h5:l[(k-1).toNat]?=some (dn d::ds)) (h6:l[k.toNat]?=some (dn c::es)) (h0:k>0):Bq l k.toNat:=by
 have e1:=Awg h1 h3
 have e2:=Awg h1 h6
 exact Wo h1 hx h (Vm h5 h0) (by omega) (by omega)
theorem Aj6 {l:LL} {k a b c:Int} {cs bs es:List D} {x:Bool} (hx:x=decide (Bp cs)) (h:¬x=false) (h1:l[k.toNat]?=some (dn a::cs)) (h2:¬b>65535) (h3:l[k.toNat]?=some (dn b::bs)) (h0:¬k>0) (h4:¬c<0) (h6:l[k.toNat]?=some (dn c::es)):Bq l k.toNat:=by
 have e1:=Awg h1 h3
 have e2:=Awg h1 h6
 exact Wo h1 hx h (Auj h0) (by omega) (by omega)
theorem Arg {l:LL} {k n:Int} (hn:n=(l.length:Int)) (h:¬Cq l k.toNat) (h0:0≤k) (h1:k<n):[vb false]=[vb (decide (Cc l=0))]:=by
 have:Cc l≠0:=by
  unfold Cc
  split
  ·decide
  ·rw [if_neg (Bc h h0 (by omega))];decide
 rw [decide_eq_false this]
theorem Avb {l:LL} {k n m:Int} (h1:¬k<n) (hn:n=(l.length:Int)) (h:upto (Cq l) k) (h8:m≤8) (hm:m=(l.length:Int)):[vb true]=[vb (decide (Cc l=0))]:=by
 have:Cc l=0:=by unfold Cc;rw [if_neg (by omega),if_pos (Ba h (by omega))]
 rw [decide_eq_true this]
theorem Avc {l:LL} {m:Int} (h8:¬m≤8) (hm:m=(l.length:Int)):[vb false]=[vb (decide (Cc l=0))]:=by
 have:Cc l≠0:=by unfold Cc;rw [if_pos (by omega)];decide
 rw [decide_eq_false this]
end Go.Vc

namespace Go.Vc
open Classical
def atD (c:List D):Prop:=0≤gI c 0∧gI c 0<8∧0≤gI c 1∧gI c 1≤2147483647
theorem Wl {l:LL}:Bk l=0↔l.length≤64∧∀ c∈l,atD c:=by
 unfold Bk
 constructor
 ·intro h
  split at h
  ·cases h
  ·split at h
   ·rename_i h1 h2
    refine ⟨by omega,fun c hc=>?_⟩
    obtain ⟨i,hi⟩:=List.mem_iff_getElem?.1 hc
    have hl:i<l.length:=(List.getElem?_eq_some_iff.1 hi).1
    have:=h2 i (by omega)
    unfold Cd nth at this
    rw [hi] at this
    exact this
   ·cases h
 ·intro ⟨h1,h2⟩
  suffices hu:upto (Cd l) l.length by rw [if_neg (by omega),if_pos hu]
  intro i hi
  have hl:i<l.length:=by omega
  have:=h2 _ (List.getElem_mem hl)
  unfold Cd nth
  rw [List.getElem?_eq_getElem hl]
  exact this
theorem Adt {l:LL}:(srtD l).length=l.length:=(srtD.perm l).length_eq
theorem Asc {l:LL} {c:List D} (h:c∈bestL l):c∈l:=by
 have h1:c∈srtD l:=kpL.mem (by rw [Adt];exact Nat.le_refl _) c h
 exact (srtD.perm l).mem_iff.1 h1
theorem Am5 {own:Int} {l:LL} {c:List D} (h:c∈fltD own l):c∈l:=kpL.mem (Nat.le_refl _) c h
theorem Ef {a b:Int} {l:LL}:Aq [dn a,dn b, .fs l]↔(0≤a∧a≤7∧1≤b∧b≤6∧(l.length:Int)≤b)∧Bk l=0∧bestL (fltD a l)=l:=by
 show (0≤a∧a≤7∧1≤b∧b≤6∧(l.length:Int)≤b∧Bk (fltD a l)=0∧bestL (fltD a l)=l)↔_
 rw [Wl,Wl]
 constructor
 ·intro ⟨h1,h2,h3,h4,h5,⟨h6,h7⟩,h8⟩
  exact ⟨⟨h1,h2,h3,h4,h5⟩,⟨by omega,fun c hc=>h7 c (Asc (by rw [h8];exact hc))⟩,h8⟩
 ·intro ⟨⟨h1,h2,h3,h4,h5⟩,⟨h6,h7⟩,h8⟩
  exact ⟨h1,h2,h3,h4,h5,⟨Nat.le_trans Aee h6,fun c hc=>h7 c (Am5 hc)⟩,h8⟩
theorem Ayt {a b:Int} {l:LL} (h:¬Aq [dn a,dn b, .fs l]):([vb false]:List DV)=[vb (decide (Aq [dn a,dn b, .fs l]))]:=by rw [decide_eq_false h]
theorem A1z {a b:Int} {l:LL} (h:¬(0≤a∧a≤7∧1≤b∧b≤6∧(l.length:Int)≤b)):([vb false]:List DV)=[vb (decide (Aq [dn a,dn b, .fs l]))]:=Ayt fun hh=>h (Ef.1 hh).1
theorem A1y {a b x:Int} {l:LL} (hx:x=Bk l) (h:x≠0):([vb false]:List DV)=[vb (decide (Aq [dn a,dn b, .fs l]))]:=Ayt fun hh=>h (hx.trans (Ef.1 hh).2.1)
theorem A02 {a b x:Int} {l q r s:LL} {z:Bool} (h0:0≤a∧a≤7∧1≤b∧b≤6∧(l.length:Int)≤b) (hx:x=Bk l) (h:¬x≠0) (hq:q=fltD a l) (hr:r=srtD q) (hs:s=kpL (fstD r) r r.length) (hz:z=decide (l=s)):([vb z]:List DV)=[vb (decide (Aq [dn a,dn b, .fs l]))]:=by
 have e:s=bestL (fltD a l):=by
  subst hr hq
  rw [hs,Adt];rfl
 rw [hz,e]
 refine congrArg (fun z=>[vb z]) ?_
 by_cases hh:l=bestL (fltD a l)
 ·rw [decide_eq_true hh,decide_eq_true (Ef.2 ⟨h0,by omega,hh.symm⟩)]
 ·rw [decide_eq_false hh,decide_eq_false fun h'=>hh (Ef.1 h').2.2.symm]
theorem A0o {l:LL} {a:Int} {n:Nat} (h:l.length≤n):(fltD a l).length≤n:=Nat.le_trans Aee h
theorem A0l {l:LL} {a:Int} {n:Nat} (h:l.length≤n):(srtD (fltD a l)).length≤n:=by rw [Adt];exact A0o h
theorem A01 {l:LL} {a:Int} {P:Nat→Prop} {n:Nat} (h:l.length≤n):(kpL P (srtD (fltD a l)) (srtD (fltD a l)).length).length≤n:=Nat.le_trans (kpL.le _ _ _) (A0l h)
theorem A0m {l:LL} {a:Int} {P:Nat→Prop} (h:LS pairS l):LS pairS (kpL P (srtD (fltD a l)) (srtD (fltD a l)).length) := .mk (A01 h.len) fun c hc=>h.els c (Am5 ((srtD.perm _).mem_iff.1 (kpL.mem (Nat.le_refl _) c hc)))
theorem A0n {l:LL} {a x b:Int} {n:Nat} (hx:x=(l.length:Int)) (hb:¬x>b) (h6:¬b>6) (hn:6≤n):(fltD a l).length≤n:=A0o (by omega)
theorem A0k {l:LL} {a x b:Int} {n:Nat} (hx:x=(l.length:Int)) (hb:¬x>b) (h6:¬b>6) (hn:6≤n):(srtD (fltD a l)).length≤n:=A0l (by omega)
end Go.Vc

namespace Go.Vc
open Classical
def okC (w:List D):Prop:=1≤gI w 0∧gI w 0≤8∧1≤gI w 1∧gI w 1≤64∧1≤gI w 2∧gI w 2≤64∧1≤gI w 3∧gI w 3≤6
def Ck (w:List D) (i:Nat):Prop:=Er w i (elT (gL w 4) i)
def Ga (w:List D) (i:Nat):Prop:=nth (gL w 6) i 0<gI w 9∧nth (gL w 6) i 2=cntC (gL w 5) (nth (gL w 6) i 0) (gL w 5).length
def Ap (w:List D):Prop:=okC w∧((gL w 4).length:Int)=gI w 0∧0≤gI w 9∧gI w 9≤1048575∧Kh w∧Bg (gL w 5)=0∧Dq (gL w 6)=0∧Ci (gL w 7)=0∧upto (Ck w) (gL w 4).length∧upto (ltN (gL w 5) 0 (gI w 9)) (gL w 5).length∧upto (Ga w) (gL w 6).length
def isP (rs:List DV) (p:Prop) (y n:List DV):Prop:=(p→rs=y)∧(¬p→rs=n)
theorem Db {p:Prop}:isP [vb (decide p)] p [vb true] [vb false]:=⟨fun h=>by rw [decide_eq_true h],fun h=>by rw [decide_eq_false h]⟩
theorem Az {p:Prop}:isP [vn (if p then 0 else 8)] p [vn 0] [vn 8]:=⟨fun h=>by rw [if_pos h],fun h=>by rw [if_neg h]⟩
section
variable {w:List D} {y n rs:List DV}
theorem Om (hr:isP rs (Ap w) y n) (h:¬Ap w):n=rs:=(hr.2 h).symm
theorem Asm (hr:isP rs (Ap w) y n) (h:¬(1≤gI w 0∧gI w 0≤8∧1≤gI w 1∧gI w 1≤64∧1≤gI w 2∧gI w 2≤64∧1≤gI w 3∧gI w 3≤6)):n=rs:=Om hr fun hh=>h hh.1
theorem Azh (hr:isP rs (Ap w) y n) {k:Int} (hk:k=((gL w 4).length:Int)) (h:k≠gI w 0):n=rs:=Om hr fun hh=>h (hk.trans hh.2.1)
theorem A0q (hr:isP rs (Ap w) y n) (h:¬(0≤gI w 9∧gI w 9≤1048575)):n=rs:=Om hr fun hh=>h ⟨hh.2.2.1,hh.2.2.2.1⟩
theorem Azg (hr:isP rs (Ap w) y n) (h:¬Kh w):n=rs:=Om hr fun hh=>h hh.2.2.2.2.1
theorem Azf (hr:isP rs (Ap w) y n) {x:Int} (hx:x=Bg (gL w 5)) (h:x≠0):n=rs:=Om hr fun hh=>h (hx.trans hh.2.2.2.2.2.1)
theorem Aze (hr:isP rs (Ap w) y n) {x:Int} (hx:x=Dq (gL w 6)) (h:x≠0):n=rs:=Om hr fun hh=>h (hx.trans hh.2.2.2.2.2.2.1)
theorem Azd (hr:isP rs (Ap w) y n) {x:Int} (hx:x=Ci (gL w 7)) (h:x≠0):n=rs:=Om hr fun hh=>h (hx.trans hh.2.2.2.2.2.2.2.1)
theorem Aal (hr:isP rs (Ap w) y n) {k m:Int} (h:¬Ck w k.toNat) (h0:0≤k) (h1:k<m) (hm:m=((gL w 4).length:Int)):n=rs:=Om hr fun hh=>Bc h h0 (hm▸h1) hh.2.2.2.2.2.2.2.2.1
theorem Azc (hr:isP rs (Ap w) y n) {k m:Int} (h:¬ltN (gL w 5) 0 (gI w 9) k.toNat) (h0:0≤k) (h1:k<m) (hm:m=((gL w 5).length:Int)):n=rs:=Om hr fun hh=>Bc h h0 (hm▸h1) hh.2.2.2.2.2.2.2.2.2.1
theorem At8 (hr:isP rs (Ap w) y n) {k m:Int} (h:¬Ga w k.toNat) (h0:0≤k) (h1:k<m) (hm:m=((gL w 6).length:Int)):n=rs:=Om hr fun hh=>Bc h h0 (hm▸h1) hh.2.2.2.2.2.2.2.2.2.2
theorem Aui (hr:isP rs (Ap w) y n) (h:¬gI w 0≥1):n=rs:=Asm hr fun hh=>by omega
theorem Auh (hr:isP rs (Ap w) y n) (h:¬gI w 0≤8):n=rs:=Asm hr fun hh=>by omega
theorem Aug (hr:isP rs (Ap w) y n) (h:¬gI w 1≥1):n=rs:=Asm hr fun hh=>by omega
theorem Auf (hr:isP rs (Ap w) y n) (h:¬gI w 1≤64):n=rs:=Asm hr fun hh=>by omega
theorem Aue (hr:isP rs (Ap w) y n) (h:¬gI w 2≥1):n=rs:=Asm hr fun hh=>by omega
theorem Aud (hr:isP rs (Ap w) y n) (h:¬gI w 2≤64):n=rs:=Asm hr fun hh=>by omega
theorem Auc (hr:isP rs (Ap w) y n) (h:¬gI w 3≥1):n=rs:=Asm hr fun hh=>by omega
theorem Aub (hr:isP rs (Ap w) y n) (h:¬gI w 3≤6):n=rs:=Asm hr fun hh=>by omega
theorem Aua (hr:isP rs (Ap w) y n) (h:gI w 9<0):n=rs:=A0q hr fun hh=>by omega
theorem At9 (hr:isP rs (Ap w) y n) (h:gI w 9>1048575):n=rs:=A0q hr fun hh=>by omega
end
end Go.Vc

namespace Go.Vc
open Classical
def tkz (c:List D):Prop:=gI c 6≥gI c 7∨partC c=zPart
def lstE (c:List D):Prop:=0<(gL c 31).length→nth (gL c 31) ((gL c 31).length-1) 0<gI c 6
theorem decN {b:Bool} {p:Prop} [Decidable p] (hb:b=decide p) (h:b=false):¬p:=of_decide_eq_false (hb.symm.trans h)
theorem decY {b:Bool} {p:Prop} [Decidable p] (hb:b=decide p) (h:¬b=false):p:=by
 rcases Classical.em p with hp | hp
 ·exact hp
 ·exact absurd (hb.trans (decide_eq_false hp)) h
theorem Ar9 {c:List D}:gI (cacheC c) 1=gI c 29:=by simp [gI,cacheC,List.getElem?_take,List.getElem?_drop]
theorem Ar8 {c:List D}:gL (cacheC c) 2=gL c 30:=by simp [gL,cacheC,List.getElem?_take,List.getElem?_drop]
theorem Ay2:DShs partS zPart:=by
 simp only [zPart,Ab,Af,Ai,Ah,Ak,rng64,List.length_nil,and_true,true_and]
 exact ⟨⟨by omega,Ej⟩,by omega,⟨by omega,Ej⟩,by omega,⟨by omega,Ej⟩,by omega,⟨by omega,Ej⟩,by omega,by omega,by omega,by omega,Ej⟩
section
variable {c:List D} {b:Bool} {x:Int}
theorem Ara (h:¬Au c):[vb false]=[vb (decide (Au c))]:=by rw [decide_eq_false h]
theorem Azq (h:gI c 0<0):[vb false]=[vb (decide (Au c))]:=Ara fun hh=>by have:=hh.1.1;omega
theorem Axj (h:gI c 0≥8):[vb false]=[vb (decide (Au c))]:=Ara fun hh=>by have:=hh.1.2.1;omega
theorem Axk (hu:gB c 2=false) (h0:¬gI c 0<0) (h1:¬gI c 0≥8) (hb:b=decide (eqD c (downC (gI c 0)))):[vb b]=[vb (decide (Au c))]:=by
 rw [hb]
 refine congrArg (fun z=>[vb z]) ?_
 by_cases h:eqD c (downC (gI c 0))
 ·rw [decide_eq_true h]
  exact (decide_eq_true ⟨⟨by omega,by omega,fun _=>h,fun hh=>by rw [hu] at hh;cases hh⟩,fun hh=>by rw [hu] at hh;cases hh⟩).symm
 ·rw [decide_eq_false h]
  exact (decide_eq_false fun hh=>h (hh.1.2.2.1 hu)).symm
variable (hu:¬gB c 2=false)
include hu
theorem Ap2:gB c 2=true:=by
 cases h:gB c 2 with
 | false=>exact absurd h hu
 | true=>rfl
theorem Qy (h:¬Azl c):[vb false]=[vb (decide (Au c))]:=Ara fun hh=>h (hh.1.2.2.2 (Ap2 hu)).1
theorem Azo (h:¬gI c 1≥-2147483647):[vb false]=[vb (decide (Au c))]:=Qy hu fun hh=>h hh.1.1
theorem Azn (h:¬gI c 1≤2147483647):[vb false]=[vb (decide (Au c))]:=Qy hu fun hh=>h hh.1.2
theorem Azr (hb:b=decide (Dg (clockC c))) (h:b=false):[vb false]=[vb (decide (Au c))]:=Qy hu fun hh=>decN hb h hh.2.1
theorem Azp (hb:b=decide (Bp (partC c))) (h:b=false):[vb false]=[vb (decide (Au c))]:=Qy hu fun hh=>decN hb h hh.2.2.1
theorem A1b (ht:¬gI c 6≥gI c 7) (hb:b=decide (eqD (partC c) zPart)) (h:b=false):[vb false]=[vb (decide (Au c))]:=Qy hu fun hh=>decN hb h (hh.2.2.2.1 fun h2=>ht h2)
theorem A1c (hb:b=decide (Kg c)) (h:b=false):[vb false]=[vb (decide (Au c))]:=Qy hu fun hh=>decN hb h hh.2.2.2.2.1
theorem A1e (hx:x=Bn (gL c 27)) (h:x≠0):[vb false]=[vb (decide (Au c))]:=Qy hu fun hh=>h (hx.trans hh.2.2.2.2.2.1)
theorem A1d (hx:x=Bh (gL c 32)) (h:x≠0):[vb false]=[vb (decide (Au c))]:=Qy hu fun hh=>h (hx.trans hh.2.2.2.2.2.2.1)
theorem A1g (h:gI c 28≠gI c 0):[vb false]=[vb (decide (Au c))]:=Qy hu fun hh=>h hh.2.2.2.2.2.2.2.1
theorem A1f (hx:x=Be (gL c 31)) (h:x≠0):[vb false]=[vb (decide (Au c))]:=Qy hu fun hh=>h (hx.trans hh.2.2.2.2.2.2.2.2.1)
theorem A1h {n:Int} {cs:List D} (hx:(gL c 31)[(n-1).toNat]?=some (dn x::cs)) (h:¬x<gI c 6) (hn:n=((gL c 31).length:Int)) {m:Int} (h0:¬m=0) (hm:m=((gL c 31).length:Int)):[vb false]=[vb (decide (Au c))]:=Qy hu fun hh=>by
 have:=hh.2.2.2.2.2.2.2.2.2 (by omega)
 rw [show (gL c 31).length-1=(n-1).toNat by omega,Cv hx] at this
 exact h this
theorem A1i (hb:b=decide (Aq (cacheC c))) (h:b=false):[vb false]=[vb (decide (Au c))]:=Ara fun hh=>decN hb h (hh.2 (Ap2 hu))
theorem Ay0 {b1 b2 b3 b4:Bool} {x1 x2 x3:Int} (hl:lstE c) (h0:¬gI c 0<0) (h1:¬gI c 0≥8) (v1:gI c 1≥-2147483647) (v2:gI c 1≤2147483647) (a1:b1=decide (Dg (clockC c))) (a2:¬b1=false) (a3:b2=decide (Bp (partC c))) (a4:¬b2=false) (a5:tkz c) (a6:b3=decide (Kg c)) (a7:¬b3=false)
  (a8:x1=Bn (gL c 27)) (a9:¬x1≠0) (c1:b4=decide (Aq (cacheC c))) (c2:¬b4=false) (c3:¬gI c 28≠gI c 0) (c4:x2=Bh (gL c 32)) (c5:¬x2≠0) (c6:x3=Be (gL c 31)) (c7:¬x3≠0):[vb true]=[vb (decide (Au c))]:=by
 refine congrArg (fun z=>[vb z]) (decide_eq_true ?_).symm
 have hc:=decY c1 c2
 obtain ⟨_,_,d1,d2,d3,_,_⟩:=id hc
 rw [Ar9] at d1 d2 d3
 rw [Ar8] at d3
 exact ⟨⟨by omega,by omega,fun hh=>absurd hh hu,fun _=>⟨⟨⟨v1,v2⟩,decY a1 a2,decY a3 a4,fun ht=>a5.resolve_left fun h=>ht h,decY a6 a7,by omega,by omega,by omega,by omega,hl⟩,d1,d2,d3⟩⟩,fun _=>hc⟩
omit hu
theorem Awl (hb:b=decide (eqD (partC c) zPart)) (h:¬b=false):tkz c := .inr (show eqD (partC c) zPart from decY hb h)
theorem Axr {n:Int} (h:n=0) (hn:n=((gL c 31).length:Int)):lstE c:=fun hh=>by omega
theorem Axs {n:Int} {cs:List D} (hx:(gL c 31)[(n-1).toNat]?=some (dn x::cs)) (h:x<gI c 6) (hn:n=((gL c 31).length:Int)):lstE c:=fun hh=>by
 rw [show (gL c 31).length-1=(n-1).toNat by omega,Cv hx]
 exact h
end
def okA (w:List D):Prop:=okC w∧((gL w 4).length:Int)=gI w 0∧0≤gI w 9∧gI w 9≤1048575∧Kh w
def okB (w:List D):Prop:=Bg (gL w 5)=0∧Dq (gL w 6)=0∧Ci (gL w 7)=0
section
variable {w:List D} {y n rs:List DV}
theorem Azb (hr:isP rs (Ap w) y n) {b:Bool} (hb:b=false↔okA w) (h:b=true):n=rs:=Om hr fun hh=>by
 have:=hb.2 ⟨hh.1,hh.2.1,hh.2.2.1,hh.2.2.2.1,hh.2.2.2.2.1⟩
 rw [h] at this;cases this
theorem Aza (hr:isP rs (Ap w) y n) {b:Bool} (hb:b=false↔okB w) (h:b=true):n=rs:=Om hr fun hh=>by
 have:=hb.2 ⟨hh.2.2.2.2.2.1,hh.2.2.2.2.2.2.1,hh.2.2.2.2.2.2.2.1⟩
 rw [h] at this;cases this
theorem Akg (hr:isP rs (Ap w) y n) {k3 n3 k4 n4 k5 n5:Int} (h1:okA w) (h2:okB w) (h3:upto (Ck w) k3) (g3:¬k3<n3) (e3:n3=((gL w 4).length:Int)) (h4:upto (ltN (gL w 5) 0 (gI w 9)) k4) (g4:¬k4<n4) (e4:n4=((gL w 5).length:Int)) (h5:upto (Ga w) k5) (g5:¬k5<n5) (e5:n5=((gL w 6).length:Int)):y=rs :=
 (hr.1 ⟨h1.1,h1.2.1,h1.2.2.1,h1.2.2.2.1,h1.2.2.2.2,h2.1,h2.2.1,h2.2.2,Ba h3 (by omega),Ba h4 (by omega),Ba h5 (by omega)⟩).symm
end
end Go.Vc

namespace Go.Vc
open Classical
section
variable {w c:List D} {k:Int} {b:Bool}
theorem Cf (h:(gL w 4)[k.toNat]?=some c) (h0:0≤k):Ck w k.toNat↔Er w k c:=by
 unfold Ck elT
 rw [h,Option.getD_some,show ((k.toNat:Nat):Int)=k by omega]
theorem Anb (hk:(gL w 4)[k.toNat]?=some c) (h0:0≤k) (hb:b=decide (Au c)) (h:b=false):¬Ck w k.toNat:=fun hh=>decN hb h ((Cf hk h0).1 hh).1
theorem Ana (hk:(gL w 4)[k.toNat]?=some c) (h0:0≤k) (h:gI c 0≠k):¬Ck w k.toNat:=fun hh=>h ((Cf hk h0).1 hh).2.1
theorem Am9 (hk:(gL w 4)[k.toNat]?=some c) (h0:0≤k) (hb:b=decide (Bb c (gI w 9))) (h:b=false):¬Ck w k.toNat:=fun hh=>decN hb h ((Cf hk h0).1 hh).2.2.1
theorem Am8 (hk:(gL w 4)[k.toNat]?=some c) (h0:0≤k) (hu:¬gB c 2=false) (h:¬gI c 3=gI w 1):¬Ck w k.toNat:=fun hh=>h (((Cf hk h0).1 hh).2.2.2 (Ap2 hu)).1
theorem Am7 (hk:(gL w 4)[k.toNat]?=some c) (h0:0≤k) (hu:¬gB c 2=false) (h:¬gI c 29=gI w 3):¬Ck w k.toNat:=fun hh=>h (((Cf hk h0).1 hh).2.2.2 (Ap2 hu)).2
theorem Am6 (hk:(gL w 4)[k.toNat]?=some c) (h0:0≤k) (hb:b=decide (Er w k c)) (h:b=false):¬Ck w k.toNat:=fun hh=>decN hb h ((Cf hk h0).1 hh)
theorem Asy (hk:(gL w 4)[k.toNat]?=some c) (h0:0≤k) (hb:b=decide (Er w k c)) (h:¬b=false):Ck w k.toNat:=(Cf hk h0).2 (decY hb h)
theorem As0 {b2:Bool} (hk:(gL w 4)[k.toNat]?=some c) (h0:0≤k) (hb:b=decide (Au c)) (h:¬b=false) (h1:¬gI c 0≠k) (hb2:b2=decide (Bb c (gI w 9))) (h2:¬b2=false) (hu:gB c 2=false):Ck w k.toNat :=
 (Cf hk h0).2 ⟨decY hb h,Decidable.not_not.1 h1,decY hb2 h2,fun hh=>by rw [hu] at hh;cases hh⟩
theorem Asz {b2:Bool} (hk:(gL w 4)[k.toNat]?=some c) (h0:0≤k) (hb:b=decide (Au c)) (h:¬b=false) (h1:¬gI c 0≠k) (hb2:b2=decide (Bb c (gI w 9))) (h2:¬b2=false) (h3:gI c 3=gI w 1) (h4:gI c 29=gI w 3):Ck w k.toNat :=
 (Cf hk h0).2 ⟨decY hb h,Decidable.not_not.1 h1,decY hb2 h2,fun _=>⟨h3,h4⟩⟩
theorem Abx (hb:b=decide (Au c)) (h:¬b=false):Bn (gL c 27)=0:=by
 have hp:=decY hb h
 cases hu:gB c 2 with
 | true=>exact (hp.1.2.2.2 hu).1.2.2.2.2.2.1
 | false =>
  rw [hp.1.2.2.1 hu]
  show Bn []=0
  have hu:upto (Bx []) (([]:LL).length:Int):=fun i hi=>by simp at hi;omega
  unfold Bn
  rw [if_neg (by simp),if_pos hu]
theorem Au6 {l:LL} {a n:Int} {cs:List D} (hk:l[k.toNat]?=some (dn a::cs)) (h:a≥n):¬ltN l 0 n k.toNat:=fun hh=>by
 unfold ltN at hh;rw [Cv hk] at hh;omega
theorem Axq {l:LL} {a n:Int} {cs:List D} (hk:l[k.toNat]?=some (dn a::cs)) (h:¬a≥n):ltN l 0 n k.toNat:=by
 unfold ltN;rw [Cv hk];omega
theorem Au8 {a:Int} {cs:List D} (hk:(gL w 6)[k.toNat]?=some (dn a::cs)) (h:a≥gI w 9):¬Ga w k.toNat:=fun hh=>by
 have:=hh.1;rw [Cv hk] at this;omega
theorem Arf {a b y z:Int} {cs ds:List D} (h:y≠cntC (gL w 5) z (gL w 5).length) (hz:(gL w 6)[k.toNat]?=some (dn z::cs)) (hy:(gL w 6)[k.toNat]?=some (dn a::dn b::dn y::ds)):¬Ga w k.toNat:=fun hh=>by
 have:=hh.2;rw [Vq hy,Cv hz] at this;exact h this
theorem Azz {a b x y z:Int} {cs ds es:List D} (h:¬y≠cntC (gL w 5) z (gL w 5).length) (hz:(gL w 6)[k.toNat]?=some (dn z::cs)) (hy:(gL w 6)[k.toNat]?=some (dn a::dn b::dn y::ds)) (h1:¬x≥gI w 9) (hx:(gL w 6)[k.toNat]?=some (dn x::es)):Ga w k.toNat:=by
 unfold Ga
 rw [Vq hy,Cv hz]
 exact ⟨by rw [Awg hz hx];omega,Decidable.not_not.1 h⟩
theorem Ai3 {n:Int} (a1:gI w 0≥1) (a2:gI w 0≤8) (a3:gI w 1≥1) (a4:gI w 1≤64) (a5:gI w 2≥1) (a6:gI w 2≤64) (a7:gI w 3≥1) (a8:gI w 3≤6) (h:¬n≠gI w 0) (hn:n=((gL w 4).length:Int)) (h9:¬gI w 9<0) (h10:¬gI w 9>1048575) (hb:b=decide (Kh w)) (h11:¬b=false):okA w :=
 ⟨⟨a1,a2,a3,a4,a5,a6,a7,a8⟩,by omega,by omega,by omega,decY hb h11⟩
theorem Abw {x y z:Int} (hx:x=Bg (gL w 5)) (h1:¬x≠0) (hy:y=Dq (gL w 6)) (h2:¬y≠0) (hz:z=Ci (gL w 7)) (h3:¬z≠0):okB w:=⟨by omega,by omega,by omega⟩
theorem shpNo {l:LL} (h:LS nodeS l):Shp (nodeS.map Sh.kd) l:=DSh.shp h
end
end Go.Vc

namespace Go.Vc
open Classical
section
variable {w:List D}
theorem Gi (h:¬okA w):(true=false↔okA w):=⟨fun hh=>(by cases hh),fun hh=>absurd hh h⟩
theorem Axu (h:okA w):(false=false↔okA w):=⟨fun _=>h,fun _=>rfl⟩
theorem Ave (h:¬okB w):(true=false↔okB w):=⟨fun hh=>(by cases hh),fun hh=>absurd hh h⟩
theorem A1u (h:¬gI w 0≥1):¬okA w:=fun hh=>h hh.1.1
theorem A1t (h:¬gI w 0≤8):¬okA w:=fun hh=>h hh.1.2.1
theorem A1s (h:¬gI w 1≥1):¬okA w:=fun hh=>h hh.1.2.2.1
theorem A1r (h:¬gI w 1≤64):¬okA w:=fun hh=>h hh.1.2.2.2.1
theorem A1q (h:¬gI w 2≥1):¬okA w:=fun hh=>h hh.1.2.2.2.2.1
theorem A1p (h:¬gI w 2≤64):¬okA w:=fun hh=>h hh.1.2.2.2.2.2.1
theorem A1o (h:¬gI w 3≥1):¬okA w:=fun hh=>h hh.1.2.2.2.2.2.2.1
theorem A1n (h:¬gI w 3≤6):¬okA w:=fun hh=>h hh.1.2.2.2.2.2.2.2
theorem A1m {n:Int} (hn:n=((gL w 4).length:Int)) (h:n≠gI w 0):¬okA w:=fun hh=>h (hn.trans hh.2.1)
theorem Azu (h:¬gI w 9≥0):¬okA w:=fun hh=>h hh.2.2.1
theorem Azt (h:¬gI w 9≤1048575):¬okA w:=fun hh=>h hh.2.2.2.1
theorem Azv {n:Int} (h:n>1024) (hn:n=((gL w 8).length:Int)):¬okA w:=fun hh=>by have:=hh.2.2.2.2.1;omega
theorem Ai8 {k n:Int} (h:¬Ds (gI w 0) (gL w 8) k.toNat) (h0:0≤k) (hk:k<n) (hn:n=((gL w 8).length:Int)):¬okA w:=fun hh=>Bc h h0 (hn▸hk) hh.2.2.2.2.2
theorem A1a {l:LL} {k a b c n:Int} (h1:l[k.toNat]?=some [dn a,dn b,dn c]) (h:¬a≥0):¬Ds n l k.toNat:=fun hh=>by have:=(Cp h1).1 hh;omega
theorem A09 {l:LL} {k a b c n:Int} (h1:l[k.toNat]?=some [dn a,dn b,dn c]) (h:¬a≤65535):¬Ds n l k.toNat:=fun hh=>by have:=(Cp h1).1 hh;omega
theorem A08 {l:LL} {k a b c n:Int} (h1:l[k.toNat]?=some [dn a,dn b,dn c]) (h:¬b≥0):¬Ds n l k.toNat:=fun hh=>by have:=(Cp h1).1 hh;omega
theorem A07 {l:LL} {k a b c n m:Int} (h1:l[k.toNat]?=some [dn a,dn b,dn c]) (h:¬b≤m) (hm:m=w64 (n-1)) (hn:n≥1) (hn8:n≤8):¬Ds n l k.toNat:=fun hh=>by have:=(Cp h1).1 hh;have:=Fk hm (by omega) (by omega);omega
theorem A06 {l:LL} {k a b c n:Int} (h1:l[k.toNat]?=some [dn a,dn b,dn c]) (h:¬c≥-2147483647):¬Ds n l k.toNat:=fun hh=>by have:=(Cp h1).1 hh;omega
theorem A05 {l:LL} {k a b c n:Int} (h1:l[k.toNat]?=some [dn a,dn b,dn c]) (h:¬c≤2147483647):¬Ds n l k.toNat:=fun hh=>by have:=(Cp h1).1 hh;omega
theorem A04 {l:LL} {k a b c n m:Int} (h1:l[k.toNat]?=some [dn a,dn b,dn c]) (ha:a≥0) (ha2:a≤65535) (hb:b≥0) (h:b≤m) (hm:m=w64 (n-1)) (hn:n≥1) (hn8:n≤8) (hc:c≥-2147483647) (hc2:c≤2147483647):Ds n l k.toNat:=(Cp h1).2 (by have:=Fk hm (by omega) (by omega);omega)
theorem Azm {n k m p:Int} (hu:upto (Ds (gI w 0) (gL w 8)) k) (hkm:¬k<m) (hm:m=((gL w 8).length:Int)) (a1:gI w 0≥1) (a2:gI w 0≤8) (a3:gI w 1≥1) (a4:gI w 1≤64) (a5:gI w 2≥1) (a6:gI w 2≤64) (a7:gI w 3≥1) (a8:gI w 3≤6) (h:¬n≠gI w 0) (hn:n=((gL w 4).length:Int)) (h9:gI w 9≥0) (h10:gI w 9≤1048575) (hp:¬p>1024) (hpl:p=((gL w 8).length:Int)):okA w :=
 ⟨⟨a1,a2,a3,a4,a5,a6,a7,a8⟩,by omega,by omega,by omega,by omega,Ba hu (by omega)⟩
theorem A1l {x:Int} (hx:x=Bg (gL w 5)) (h:x≠0):¬okB w:=fun hh=>h (hx.trans hh.1)
theorem A1k {x:Int} (hx:x=Dq (gL w 6)) (h:x≠0):¬okB w:=fun hh=>h (hx.trans hh.2.1)
theorem A1j {x:Int} (hx:x=Ci (gL w 7)) (h:x≠0):¬okB w:=fun hh=>h (hx.trans hh.2.2)
theorem A1v {b:Bool} (hb:b=false↔okA w) (h:b=false):okA w:=hb.1 h
theorem Az4 {b:Bool} (hb:b=false↔okB w) (h:b=false):okB w:=hb.1 h
theorem A1w (h:okB w):(True↔okB w):=⟨fun _=>h,fun _=>trivial⟩
theorem Ams {x y z:Int} {l:LL} (hm:[vn y,vn z]=if Bg l=0 then [vn (cntC l x l.length),vn 0] else [vn 0,vn (Bg l)]) (hB:Bg l=0):y=cntC l x l.length:=by
 rw [if_pos hB] at hm;cases hm;rfl
theorem Az1 {k x y z b c:Int} {cs:List D} (hm:[vn y,vn z]=if Bg (gL w 5)=0 then [vn (cntC (gL w 5) x (gL w 5).length),vn 0] else [vn 0,vn (Bg (gL w 5))]) (hB:okB w) (hk:(gL w 6)[k.toNat]?=some (dn x::dn b::dn c::cs)) (h:y≠c):¬Ga w k.toNat :=
 Arf (by rw [Ams hm hB.1] at h;exact fun e=>h e.symm) hk hk
theorem Az0 {k x y z b c:Int} {cs:List D} (hm:[vn y,vn z]=if Bg (gL w 5)=0 then [vn (cntC (gL w 5) x (gL w 5).length),vn 0] else [vn 0,vn (Bg (gL w 5))]) (hB:okB w) (hk:(gL w 6)[k.toNat]?=some (dn x::dn b::dn c::cs)) (h:¬y≠c) (h1:¬x≥gI w 9):Ga w k.toNat :=
 Azz (by rw [Ams hm hB.1] at h;exact fun e=>h fun e2=>e e2.symm) hk hk h1 hk
end
end Go.Vc

namespace Go.Vc
open Classical
def plE (l:LL) (c:List D):Nat→Int
 | 0=>-1
 | n+1=>if 0≤plE l c n then plE l c n else if l[n]?=some c then (n:Int) else -1
theorem Agq {l:LL} {c:List D} {n:Nat} {v:Int} (h:plE l c n=v) (h0:0≤v):∀ d,plE l c (n+d)=v
 | 0=>h
 | d+1=>by
  have ih:=Agq h h0 d
  show (if 0≤plE l c (n+d) then plE l c (n+d) else _)=v
  rw [ih,if_pos h0]
theorem Ame {l:LL} {c:List D} {k:Int} (h:l[k.toNat]?=some c) (hp:plE l c k.toNat = -1) (h0:0≤k):plE l c l.length=k:=by
 have hk:=(List.getElem?_eq_some_iff.1 h).1
 have h1:plE l c (k.toNat+1)=k:=by
  simp only [plE]
  rw [hp,if_neg (by omega),if_pos h];omega
 have h2:=Agq h1 h0 (l.length-(k.toNat+1))
 rw [show k.toNat+1+(l.length-(k.toNat+1))=l.length by omega] at h2
 exact h2
theorem Aw8 {l:LL} {c d:List D} {k:Int} (h:l[k.toNat]?=some d) (hp:plE l c k.toNat = -1) (h0:0≤k) (e:¬d=c):plE l c (k+1).toNat = -1:=by
 rw [show (k+1).toNat=k.toNat+1 by omega]
 simp only [plE]
 rw [hp,if_neg (by omega),if_neg fun hh=>e (Option.some.inj (h.symm.trans hh))]
theorem Aun {l:LL} {c:List D} {k:Int} (hp:plE l c k.toNat = -1) (h1:k≤(l.length:Int)) (hk:¬k<(l.length:Int)):plE l c l.length = -1:=by
 rw [show l.length=k.toNat by omega,hp]
def Kk (l q:LL):List DV:=if plE l (elT q 0) l.length<0 then [vl [],vn 6] else [vl [[d64 (plE l (elT q 0) l.length)]],vn 0]
def drI (l q:LL) (i:Int) (t r:LL):Prop:=0≤i∧i≤1∧(i=0→t=l∧r=[])∧(i=1→0≤plE l (elT q 0) l.length∧r=[[d64 (plE l (elT q 0) l.length)]])
theorem A0j {l q:LL}:drI l q 0 l []:=⟨by omega,by omega,fun _=>⟨rfl,rfl⟩,fun h=>by omega⟩
theorem Avs {l q t r:LL} {i n:Int} (h:drI l q i t r) (hi:i<n) (hn:n=(q.length:Int)) (h1:q.length=1):i=0∧t=l∧r=[]:=by
 have h0:i=0:=by have:=h.1;omega
 exact ⟨h0,h.2.2.1 h0⟩
theorem Ayd {q:LL} {c:List D} {j:Int} (hq:q[j.toNat]?=some c) (hj:j=0):elT q 0=c:=by
 subst hj;unfold elT;rw [show (0:Nat)=Int.toNat 0 by rfl,hq];rfl
theorem A0i {l q t r:LL} {k a b x y z j p:Int} (h:l[k.toNat]?=some [dn a,dn b]) (hq:q[j.toNat]?=some [dn x,dn y]) (hp:plE l [dn x,dn y] k.toNat = -1) (e1:a=x) (e2:b=y) (h0:0≤k) (hz:z=IntKind.wrap .u64 k) (hr:r=[]++[[d64 z]]) (hk:k≤9223372036854775807) (hj:j=0) (h1:p=1):drI l q p t r:=by
 subst h1
 subst e1 e2
 have hh:=Ame h hp h0
 refine ⟨by omega,by omega,fun h=>by omega,fun _=>?_⟩
 rw [Ayd hq hj,hh,hr,hz,wu64 h0 hk]
 exact ⟨h0,rfl⟩
theorem Aym {l q t r:LL} {i n:Int} (h:drI l q i t r) (hi:¬i<n) (hn:n=(q.length:Int)) (h1:q.length=1):[vl r,vn 0]=Kk l q:=by
 obtain ⟨a,b,c,d⟩:=h
 obtain ⟨e1,e2⟩:=d (by omega)
 unfold Kk
 rw [if_neg (by omega),e2]
theorem A0h {l q:LL} {k m x y j:Int} (hq:q[j.toNat]?=some [dn x,dn y]) (hp:plE l [dn x,dn y] k.toNat = -1) (h1:k≤(l.length:Int)) (hk:¬k<m) (hm:m=(l.length:Int)) (hj:j=0):[vl [],vn 6]=Kk l q:=by
 unfold Kk
 rw [Ayd hq hj,Aun hp h1 (by omega),if_pos (by omega)]
theorem Azk {p:Prop} {x:Int} (hx:x=if p then 0 else 8) (hp:p) (h:x≠0):False:=h (hx.trans (if_pos hp))
theorem Aw9 {a b:Int} {l:LL} (h:Aq [dn a,dn b, .fs l]):l.length≤6:=by
 have:=(Ef.1 h).1;omega
end Go.Vc
