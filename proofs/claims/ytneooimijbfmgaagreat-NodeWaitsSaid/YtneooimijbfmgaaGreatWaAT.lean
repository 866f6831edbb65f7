import Derived.Test.YtneooimijbfmgaaGreatProg
import Derived.KernelRfl
import Derived.Test.YtneooimijbfmgaaGreatWaAR
import Derived.Test.YtneooimijbfmgaaGreatWaAS
set_option linter.unusedVariables false
set_option linter.unusedSimpArgs false
set_option linter.unusedSectionVars false
namespace Go.Vc
open Classical
noncomputable def m_best (l:List (List D)):List DV:=if e_desc l≠0 then [vl [],vn (e_desc l)] else [vl (bestL l),vn 0]
theorem best_e {l:List (List D)} {x:Int} (hx:x=e_desc l) (h:x≠0):[vl [],vn x]=m_best l:=by
  unfold m_best;rw [if_pos (hx▸h),hx]
theorem best_ok {l r:List (List D)} (h:e_desc l=0) (hr:r=bestL l):[vl r,vn 0]=m_best l:=by
  unfold m_best;rw [if_neg (fun hh=>hh h),hr]
theorem best_nil:bestL []=[]:=rfl
def thA (s:List (List D)) (k:Int) (ds:List DV) (o:Nat):Prop:=∀ v<8,(bi ds (v+o)=true↔∃ j<k.toNat,nth s j 0=Int.ofNat v)
def wasA (s:List (List D)) (k x:Int) (b:Bool):Prop:=b=true↔∃ j<k.toNat,nth s j 0=x
theorem lt8 {P:Nat→Prop} (h0:P 0) (h1:P 1) (h2:P 2) (h3:P 3) (h4:P 4) (h5:P 5) (h6:P 6) (h7:P 7):∀ v<8,P v:=fun v hv=>by
  have:v=0∨v=1∨v=2∨v=3∨v=4∨v=5∨v=6∨v=7:=by omega
  rcases this with rfl | rfl | rfl | rfl | rfl | rfl | rfl | rfl <;> assumption
theorem thA.zero {s:List (List D)} {ds:List DV} {o:Nat} (h:∀ v<8,bi ds (v+o)=false):thA s 0 ds o:=fun v hv=>by
  rw [h v hv]
  exact ⟨fun h=>Bool.noConfusion h,fun ⟨j,hj,_⟩=>absurd hj (by simp)⟩
theorem thA.mv {s:List (List D)} {ds ds':List DV} {o o':Nat} {k:Int} (h:thA s k ds o) (he:∀ v<8,bi ds' (v+o')=bi ds (v+o)):thA s k ds' o':=fun v hv=>by rw [he v hv];exact h v hv
theorem thA.was {s:List (List D)} {ds:List DV} {o:Nat} {k:Int} {b:Bool} (h:thA s k ds o) (v:Nat) (hv:v<8) (he:bi ds (v+o)=b):wasA s k (Int.ofNat v) b:=by
  unfold wasA;rw [←he];exact h v hv
theorem thA.set {s:List (List D)} {ds ds':List DV} {o o':Nat} {k y:Int} {cs:List D} (h:thA s k ds o) (v:Nat) (hk:s[k.toNat]?=some (.raw (.int .i64 (Int.ofNat v))::cs)) (h0:0≤k) (hy:y=k+1) (he:∀ w<8,w≠v→bi ds' (w+o')=bi ds (w+o)) (hv:bi ds' (v+o')=true):thA s y ds' o':=fun w hw=>by
  have e:y.toNat=k.toNat+1:=by omega
  rw [e]
  have hn:=nth_c hk
  by_cases hwv:w=v
  · subst hwv
    rw [hv]
    exact ⟨fun _=>⟨k.toNat,by omega,hn⟩,fun _=>rfl⟩
  · rw [he w hw hwv]
    refine (h w hw).trans ⟨fun ⟨j,hj,hh⟩=>⟨j,by omega,hh⟩,fun ⟨j,hj,hh⟩=>⟨j,?_,hh⟩⟩
    by_cases hjk:j=k.toNat
    · subst hjk
      rw [hn] at hh
      exact absurd (Int.ofNat.inj hh).symm hwv
    · omega
theorem fst_yes {s:List (List D)} {k x:Int} {cs:List D} (h:wasA s k x false) (hk:s[k.toNat]?=some (.raw (.int .i64 x)::cs)):fstD s k.toNat:=fun j hj he=>by
  have:=h.2 ⟨j,hj,he.trans (nth_c hk)⟩
  exact Bool.noConfusion this
theorem fst_no {s:List (List D)} {k x:Int} {cs:List D} (h:wasA s k x true) (hk:s[k.toNat]?=some (.raw (.int .i64 x)::cs)):¬fstD s k.toNat:=fun hf=>by
  obtain ⟨j,hj,he⟩:=h.1 rfl
  exact hf j hj (he.trans (nth_c hk).symm)
theorem fst_no' {s:List (List D)} {k x:Int} {b:Bool} {cs:List D} (h:wasA s k x b) (hb:¬b=false) (hk:s[k.toNat]?=some (.raw (.int .i64 x)::cs)):¬fstD s k.toNat:=by
  cases b
  · exact absurd rfl hb
  · exact fst_no h hk
theorem upto_fst {s:List (List D)} {k x:Int} {cs:List D} (h:upto (fstD s) k) (h0:0≤k) (hw:wasA s k x false) (hk:s[k.toNat]?=some (.raw (.int .i64 x)::cs)):upto (fstD s) (k+1):=(upto_succ h0).2 ⟨h,fst_yes hw hk⟩
theorem delI.b {P:Nat→Prop} {s q:List (List D)} {i j:Int} (h:delI P s q i j):0≤i∧i<j∧j≤(s.length:Int)∧q.length=s.length:=⟨h.1,h.2.1,h.2.2.1,h.2.2.2.1⟩
theorem delI.at' {P:Nat→Prop} {s q:List (List D)} {i j:Int} {c:List D} (h:delI P s q i j) (hk:q[j.toNat]?=some c):s[j.toNat]?=some c:=by rw [←h.at];exact hk
theorem insI.ok {l q:List (List D)} {i:Int} (h:insI l q i) (ho:okD l):okD q:=⟨by rw [h.len];exact ho.1,fun c hc=>ho.2 c (h.1.mem_iff.1 hc)⟩
theorem delI.ok {P:Nat→Prop} {s q:List (List D)} {i j:Int} (h:delI P s q i j) (ho:okD s):okD q:=⟨by rw [h.len];exact ho.1,fun c hc=>ho.2 c (h.2.2.2.2.2.2 c hc)⟩
theorem insJ.step1 {l0 q:List (List D)} {i j:Int} {a b c d a' b' c' d':Int} (h:insJ l0 q i j) (hn:cmpI d b<0) (hj:0<j) (hij:j≤i) (hc:q[j.toNat]?=some [dn a,dn b]) (hd:q[(j-1).toNat]?=some [dn c,dn d]) (hc':q[j.toNat]?=some [dn a',dn b']) (hd':q[(j-1).toNat]?=some [dn c',dn d']):insJ l0 ((q.set j.toNat [dn c',dn d']).set (j-1).toNat [dn a',dn b']) i (j-1):=by
  rw [hc] at hc';rw [hd] at hd';cases hc';cases hd'
  exact h.step hj hij hc hd ((cmpD rfl).1 (by split <;> omega))
theorem insJ.step2 {l0 q:List (List D)} {i j:Int} {a b c d a' b' c' d':Int} (h:insJ l0 q i j) (hm:¬cmpI d b≠0) (hn:cmpI a c<0) (hj:0<j) (hij:j≤i) (hc:q[j.toNat]?=some [dn a,dn b]) (hd:q[(j-1).toNat]?=some [dn c,dn d]) (hc':q[j.toNat]?=some [dn a',dn b']) (hd':q[(j-1).toNat]?=some [dn c',dn d']):insJ l0 ((q.set j.toNat [dn c',dn d']).set (j-1).toNat [dn a',dn b']) i (j-1):=by
  rw [hc] at hc';rw [hd] at hd';cases hc';cases hd'
  exact h.step hj hij hc hd ((cmpD rfl).1 (by split <;> omega))
theorem insJ.out' {l0 q:List (List D)} {i j:Int} {a b c d:Int} (h:insJ l0 q i j) (hj:0<j) (hc:q[j.toNat]?=some [dn a,dn b]) (hd:q[(j-1).toNat]?=some [dn c,dn d]) (hn:(cmpI d b≠0∧¬cmpI d b<0)∨(cmpI d b=0∧¬cmpI a c<0)):insI l0 q (i+1):=h.out hj hc hd (fun hh=>by have:=(cmpD rfl).2 hh;split at this <;> omega)
theorem bestL_all {l q:List (List D)} {n i:Int} (h:insI l q i) (hs:LS pairS l) (hi:¬i<(l.length:Int)) (hu:upto (fstD q) n) (hn:¬n<(q.length:Int)):q=bestL l:=by
  have e:=h.fin hs (by omega)
  have hl:=h.len
  unfold bestL
  rw [←e,←hl,kpL.all (Nat.le_refl _) (fun k hk=>hu k (by omega)),List.take_length]
theorem bestL_some {l q p r:List (List D)} {x y i:Int} (h:insI l q i) (hs:LS pairS l) (hi:¬i<(l.length:Int)) (hd:delI (fstD q) q p x y) (hy:¬y<(p.length:Int)):(p.take x.toNat++r).take x.toNat=bestL l:=by
  have e:=h.fin hs (by omega)
  have hl:=h.len
  have hb:=hd.b
  rw [clr_take (by omega),hd.fin (by omega)]
  unfold bestL
  rw [←e,←hl]
attribute [irreducible] thA wasA
end Go.Vc

namespace Go.Vc
open Classical
def othD (own:Int) (l:List (List D)) (k:Nat):Prop:=nth l k 0≠own
theorem othD_no {own x:Int} {l:List (List D)} {k:Int} {cs:List D} (hk:l[k.toNat]?=some (.raw (.int .i64 x)::cs)) (h:x=own):¬othD own l k.toNat:=fun hh=>hh ((nth_c hk).trans h)
theorem othD_yes {own x:Int} {l:List (List D)} {k:Int} {cs:List D} (hk:l[k.toNat]?=some (.raw (.int .i64 x)::cs)) (h:¬x=own):othD own l k.toNat:=fun hh=>h ((nth_c hk).symm.trans hh)
theorem flt_all {own n:Int} {l:List (List D)} (hu:upto (othD own l) n) (hn:¬n<(l.length:Int)):fltD own l=l:=by
  unfold fltD
  rw [show (fun k=>nth l k 0≠own)=othD own l from rfl,kpL.all (Nat.le_refl _) (fun k hk=>hu k (by omega)),List.take_length]
theorem flt_some {own x y:Int} {l p r:List (List D)} (hd:delI (othD own l) l p x y) (hy:¬y<(p.length:Int)):(p.take x.toNat++r).take x.toNat=fltD own l:=by
  have hb:=hd.b
  rw [clr_take (by omega),hd.fin (by omega)]
  rfl
theorem flt_len {own:Int} {l:List (List D)}:(fltD own l).length≤l.length:=kpL.le _ _ _
theorem flt_ls {own:Int} {l:List (List D)} (h:LS pairS l):LS pairS (fltD own l) := .mk (by have:=h.len;have:=flt_len (own:=own) (l:=l);omega) fun c hc=>h.els c (kpL.mem (Nat.le_refl _) c hc)
theorem best_out {l r:List (List D)} {x:Int} (h:[vl r,vn x]=m_best l):(x≠0→e_desc l≠0)∧(x=0→e_desc l=0∧r=bestL l):=by
  unfold m_best at h
  by_cases h0:e_desc l=0
  · rw [if_neg (fun hh=>hh h0)] at h
    simp only [List.cons.injEq,DV.c.injEq,D.raw.injEq,D.fs.injEq,Value.int.injEq,true_and,and_true] at h
    exact ⟨fun hx=>absurd h.2 hx,fun _=>⟨h0,h.1⟩⟩
  · rw [if_pos h0] at h
    simp only [List.cons.injEq,DV.c.injEq,D.raw.injEq,D.fs.injEq,Value.int.injEq,true_and,and_true] at h
    exact ⟨fun _=>h0,fun hx=>absurd (h.2.symm.trans hx) h0⟩
theorem cc_no {a b:Int} {l:List (List D)} (h:¬p_cacheB [dn a,dn b, .fs l]):([vn 8]:List DV)=[vn (if p_cacheB [dn a,dn b, .fs l] then 0 else 8)]:=by rw [if_neg h]
theorem cc_yes {a b:Int} {l:List (List D)} (h:p_cacheB [dn a,dn b, .fs l]):([vn 0]:List DV)=[vn (if p_cacheB [dn a,dn b, .fs l] then 0 else 8)]:=by rw [if_pos h]
theorem cb_arg {a b:Int} {l:List (List D)} (h:¬(0≤a∧a≤7∧1≤b∧b≤6∧(l.length:Int)≤b)):¬p_cacheB [dn a,dn b, .fs l]:=fun hh=>h ⟨hh.1,hh.2.1,hh.2.2.1,hh.2.2.2.1,hh.2.2.2.2.1⟩
theorem cb_best {a b x:Int} {l q r:List (List D)} (hq:q=fltD a l) (hb:[vl r,vn x]=m_best q) (h:x≠0):¬p_cacheB [dn a,dn b, .fs l]:=fun hh=>by
  have:=(best_out hb).1 h
  rw [hq] at this
  exact this hh.2.2.2.2.2.1
theorem cb_same {a b x:Int} {l q r:List (List D)} (hq:q=fltD a l) (hb:[vl r,vn x]=m_best q) (h:x=0) (hs:decide (r=l)=false):¬p_cacheB [dn a,dn b, .fs l]:=fun hh=>by
  have h1:=(best_out hb).2 h
  have h2:=of_decide_eq_false hs
  rw [hq] at h1
  exact h2 (h1.2.trans hh.2.2.2.2.2.2)
theorem cb_ok {a b x:Int} {l q r:List (List D)} (h0:0≤a∧a≤7∧1≤b∧b≤6∧(l.length:Int)≤b) (hq:q=fltD a l) (hb:[vl r,vn x]=m_best q) (h:x=0) (hs:¬decide (r=l)=false):p_cacheB [dn a,dn b, .fs l]:=by
  have h1:=(best_out hb).2 h
  have h2:r=l:=by
    by_cases e:r=l
    · exact e
    · exact absurd (decide_eq_false e) hs
  rw [hq] at h1
  exact ⟨h0.1,h0.2.1,h0.2.2.1,h0.2.2.2.1,h0.2.2.2.2,h1.1,h1.2.symm.trans h2⟩
theorem flt_nil {own:Int}:fltD own []=[]:=rfl
theorem best_ls {own x:Int} {l q r:List (List D)} (hq:q=fltD own l) (hb:[vl r,vn x]=m_best q) (hn:l.length≤9223372036854775807) (hs:LS pairS l):LSh pairS r:=by
  by_cases h:x=0
  · have h1:=((best_out hb).2 h).2
    have hq2:LS pairS q:=hq▸flt_ls hs
    have e:(kpL (fstD (srtD q)) (srtD q) q.length).length≤q.length:=kpL.le _ _ _
    have e2:=hq2.len
    have hm:∀ c∈r,DShs pairS c:=fun c hc=>by
      rw [h1] at hc
      exact (srtD.ls hq2).els c (kpL.mem (by rw [(srtD.perm q).length_eq];exact Nat.le_refl _) c hc)
    have e3:r.length≤9223372036854775807:=by rw [h1];exact Nat.le_trans e e2
    exact ⟨e3, .mk e3 hm⟩
  · have h1:=(best_out hb).1 h
    unfold m_best at hb
    rw [if_pos h1] at hb
    simp only [List.cons.injEq,DV.c.injEq,D.fs.injEq] at hb
    rw [hb.1]
    exact ⟨by simp,ls_nil⟩
end Go.Vc

namespace Go.Vc
open Classical
theorem nc_no {c:List D} (h:¬p_node c):([vn 8]:List DV)=[vn (if p_node c then 0 else 8)]:=by rw [if_neg h]
theorem nc_yes {c:List D} (h:p_node c):([vn 0]:List DV)=[vn (if p_node c then 0 else 8)]:=by rw [if_pos h]
end Go.Vc

namespace Go.Vc
open Classical
def o_plF (l:List (List D)) (e i x:Int):Prop:=(x=0→e_past l=0∧0≤e∧e≤65535∧0≤i∧i≤(l.length:Int)∧ahd l e i i)∧(x≠0→(e_past l≠0∧x=e_past l)∨(e_past l=0∧¬(0≤e∧e≤65535)∧x=2))
theorem o_plF.e1 {l:List (List D)} {e i x:Int} (h:x≠0) (hx:x=e_past l):o_plF l e i x:=⟨fun e=>absurd e h,fun _=>.inl ⟨hx▸h,hx⟩⟩
theorem o_plF.e2 {l:List (List D)} {e i:Int} (hx:e_past l=0) (h:¬(0≤e∧e≤65535)):o_plF l e i 2:=⟨fun e=>absurd e (by decide),fun _=>.inr ⟨hx,h,rfl⟩⟩
theorem o_plF.yes {l:List (List D)} {e i j:Int} (h1:e_past l=0) (h2:0≤e) (h3:e≤65535) (h4:0≤i) (h5:j≤(l.length:Int)) (h6:ahd l e i j) (h7:¬i<j) (h8:i≤j):o_plF l e i 0:=⟨fun _=>⟨h1,h2,h3,h4,by omega,(by have e:i=j:=(by omega);subst e;exact h6)⟩,fun h=>absurd rfl h⟩
theorem o_plF.get {l:List (List D)} {e i x:Int} (h:o_plF l e i x) (h0:¬x≠0):e_past l=0∧0≤e∧e≤65535∧0≤i∧i≤(l.length:Int)∧ahd l e i i:=h.1 (Decidable.not_not.1 h0)
theorem frz_pl {l:List (List D)} {e i x:Int} {p:List D} (h:o_plF l e i x) (h0:x≠0):[vl [],vn x]=m_frz l e p:=by
  unfold m_frz
  rcases h.2 h0 with ⟨h1,h2⟩ | ⟨h1,h2,h3⟩
  · rw [if_pos h1,h2]
  · rw [if_neg (fun hh=>hh h1),if_pos h2,h3]
theorem frz_bad {l:List (List D)} {e:Int} {p:List D} (h1:e_past l=0) (h2:0≤e) (h3:e≤65535) (h4:¬p_part p):[vl [],vn 8]=m_frz l e p:=by
  unfold m_frz
  rw [if_neg (fun hh=>hh h1),if_neg (fun hh=>hh ⟨h2,h3⟩),if_pos h4]
theorem frz_again {l:List (List D)} {e i:Int} {p:List D} (h1:e_past l=0) (h2:0≤e) (h3:e≤65535) (h4:p_part p) (h5:ahd l e i i) (h6:0≤i) (h7:i<(l.length:Int)):[vl [],vn 12]=m_frz l e p:=by
  unfold m_frz
  rw [if_neg (fun hh=>hh h1),if_neg (fun hh=>hh ⟨h2,h3⟩),if_neg (fun hh=>hh h4),if_pos]
  intro hh
  have a:=hh i.toNat (by omega)
  have b:=ahd.at h5 h6 h7
  omega
theorem frz_full {l:List (List D)} {e i:Int} {p:List D} (h1:e_past l=0) (h2:0≤e) (h3:e≤65535) (h4:p_part p) (h5:ahd l e i i) (h7:¬i<(l.length:Int)) (h8:l.length=1024):[vl [],vn 9]=m_frz l e p:=by
  unfold m_frz
  rw [if_neg (fun hh=>hh h1),if_neg (fun hh=>hh ⟨h2,h3⟩),if_neg (fun hh=>hh h4),if_neg (fun hh=>hh (ahd.all h5 h7)),if_pos h8]
theorem frz_ok {l:List (List D)} {e i:Int} {p:List D} (h1:e_past l=0) (h2:0≤e) (h3:e≤65535) (h4:p_part p) (h5:ahd l e i i) (h7:¬i<(l.length:Int)) (h8:l.length≠1024):[vl (l++[dn e::p]),vn 0]=m_frz l e p:=by
  unfold m_frz
  rw [if_neg (fun hh=>hh h1),if_neg (fun hh=>hh ⟨h2,h3⟩),if_neg (fun hh=>hh h4),if_neg (fun hh=>hh (ahd.all h5 h7)),if_neg h8]
attribute [irreducible] o_plF
end Go.Vc

namespace Go.Vc
open Classical
def wtI (tn b:Bool) (x y:Int) (due:List (List D)) (i:Int) (o:Bool) (n t:Int):Prop:=[db o,dn n,dn t]=if tn=true∨(b=true∧∃ j<i.toNat,nth due j 1=x) then [db false,dn 0,dn 0] else [db b,dn x,dn y]
theorem wtI.zt {b:Bool} {x y:Int} {due:List (List D)}:wtI true b x y due 0 false 0 0:=by unfold wtI;rw [if_pos (.inl rfl)]
theorem wtI.zf {b:Bool} {x y:Int} {due:List (List D)}:wtI false b x y due 0 b x y:=by
  unfold wtI;rw [if_neg]
  rintro (h | ⟨_,j,h,_⟩)
  · cases h
  · exact absurd h (by simp)
theorem wt_inj {o b:Bool} {n t x y:Int} (h:([db o,dn n,dn t]:List D)=[db b,dn x,dn y]):o=b∧n=x∧t=y:=by
  simp only [List.cons.injEq,D.raw.injEq,Value.bool.injEq,Value.int.injEq,true_and,and_true] at h
  exact h
theorem nth_at {l:List (List D)} {k:Nat} {x y:Int} (h:l[k]?=some [dn x,dn y]):nth l k 1=y:=(nth_2 h).2
theorem wtI.hit {tn b:Bool} {x y i k:Int} {due:List (List D)} {n t u v:Int} (h:wtI tn b x y due i true n t) (h0:0≤i) (hk:due[i.toNat]?=some [dn u,dn v]) (hv:v=n) (he:k=i+1):wtI tn b x y due k false 0 0:=by
  unfold wtI at *
  by_cases hc:tn=true∨(b=true∧∃ j<i.toNat,nth due j 1=x)
  · rw [if_pos hc] at h;have:=(wt_inj h).1;cases this
  · rw [if_neg hc] at h
    obtain ⟨h1,h2,h3⟩:=wt_inj h
    rw [if_pos]
    exact .inr ⟨h1.symm,i.toNat,by omega,by rw [nth_at hk];omega⟩
theorem wtI.miss {tn b:Bool} {x y i k:Int} {due:List (List D)} {n t u v:Int} (h:wtI tn b x y due i true n t) (h0:0≤i) (hk:due[i.toNat]?=some [dn u,dn v]) (hv:¬v=n) (he:k=i+1):wtI tn b x y due k true n t:=by
  unfold wtI at *
  by_cases hc:tn=true∨(b=true∧∃ j<i.toNat,nth due j 1=x)
  · rw [if_pos hc] at h;have:=(wt_inj h).1;cases this
  · rw [if_neg hc] at h
    obtain ⟨h1,h2,h3⟩:=wt_inj h
    rw [if_neg,←h]
    rintro (h4 | ⟨h5,j,hj,h6⟩)
    · exact hc (.inl h4)
    · by_cases e:j=i.toNat
      · subst e;rw [nth_at hk] at h6;omega
      · exact hc (.inr ⟨h5,j,by omega,h6⟩)
theorem wtI.off {tn b:Bool} {x y i k:Int} {due:List (List D)} {n t:Int} (h:wtI tn b x y due i false n t) (h0:0≤i) (he:k=i+1):wtI tn b x y due k false n t:=by
  unfold wtI at *
  by_cases hc:tn=true∨(b=true∧∃ j<i.toNat,nth due j 1=x)
  · rw [if_pos hc] at h
    rw [if_pos,←h]
    rcases hc with hc | ⟨h1,j,h2,h3⟩
    · exact .inl hc
    · exact .inr ⟨h1,j,by omega,h3⟩
  · rw [if_neg hc] at h
    obtain ⟨h1,h2,h3⟩:=wt_inj h
    rw [if_neg,←h]
    rintro (h4 | ⟨h5,_⟩)
    · exact hc (.inl h4)
    · rw [←h1] at h5;cases h5
theorem wtI.tt {b:Bool} {x y i:Int} {due:List (List D)} {o:Bool} {n t:Int} (h:wtI true b x y due i o n t):o=false∧n=0∧t=0:=by
  unfold wtI at h;rw [if_pos (.inl rfl)] at h;exact wt_inj h
theorem due_mem {l:List (List D)} {k x:Int} {i:Int} (hi:¬i<((dueT l k).length:Int)):(∃ j<i.toNat,j<(dueT l k).length∧nth (dueT l k) j 1=x)↔∃ c∈l,gI c 0≤k∧gI c 1=x:=by
  constructor
  · rintro ⟨j,_,hj,h⟩
    have hm:=List.getElem_mem hj
    have hm2:(dueT l k)[j]∈l∧gI (dueT l k)[j] 0≤k:=by
      have:=List.mem_filter.1 hm
      exact ⟨this.1,of_decide_eq_true this.2⟩
    unfold nth at h
    rw [List.getElem?_eq_getElem hj] at h
    exact ⟨_,hm2.1,hm2.2,h⟩
  · rintro ⟨c,h1,h2,h3⟩
    have hm:c∈dueT l k:=List.mem_filter.2 ⟨h1,decide_eq_true h2⟩
    obtain ⟨j,hj,e⟩:=List.getElem_of_mem hm
    refine ⟨j,by omega,hj,?_⟩
    unfold nth
    rw [List.getElem?_eq_getElem hj,e]
    exact h3
theorem wtI.ff {b:Bool} {x y i k:Int} {l:List (List D)} {o:Bool} {n t:Int} (h:wtI false b x y (dueT l k) i o n t) (hi:¬i<((dueT l k).length:Int)) (hi2:i≤((dueT l k).length:Int)):[db o,dn n,dn t]=if b=true∧∃ c∈l,gI c 0≤k∧gI c 1=x then [db false,dn 0,dn 0] else [db b,dn x,dn y]:=by
  unfold wtI at h
  rw [h]
  have e:(∃ j<i.toNat,nth (dueT l k) j 1=x)↔∃ c∈l,gI c 0≤k∧gI c 1=x:=by
    rw [←due_mem hi]
    exact ⟨fun ⟨j,h1,h2⟩=>⟨j,h1,by omega,h2⟩,fun ⟨j,h1,_,h2⟩=>⟨j,h1,h2⟩⟩
  by_cases hc:b=true∧∃ c∈l,gI c 0≤k∧gI c 1=x
  · rw [if_pos hc,if_pos (.inr ⟨hc.1,e.2 hc.2⟩)]
  · rw [if_neg hc,if_neg]
    rintro (h4 | ⟨h5,h6⟩)
    · cases h4
    · exact hc ⟨h5,e.1 h6⟩
theorem due_out {l a b:List (List D)} {k x:Int} (h:[vl a,vl b,vn x]=m_due l k) (h0:e_timer l=0) (h1:0≤k) (h2:k≤2147483647):a=dueT l k∧b=leftT l k∧x=0:=by
  unfold m_due at h
  rw [if_neg (fun hh=>hh h0),if_neg (fun hh=>hh ⟨h1,h2⟩)] at h
  simp only [List.cons.injEq,DV.c.injEq,D.raw.injEq,D.fs.injEq,Value.int.injEq,true_and,and_true] at h
  exact h
theorem frzF_out {e x:Int} {p:List D} {l r:List (List D)} (h:[vl r,vn x]=m_frz l e p) (h0:0≤e) (h1:e≤65535) (hl:e_past l=0) (hp:p_part p) (hr:0<l.length→nth l (l.length-1) 0<e):(x=9∧l.length=1024)∨(x=0∧l.length≠1024∧r=l++[dn e::p]):=by
  have hb:∀ i:Nat,i<l.length→nth l i 0<e:=fun i hi=>by
    have h2:=hr (by omega)
    by_cases he:i=l.length-1
    · rw [he];exact h2
    · have:=ris_past hl i (l.length-1) (by omega) (by omega);omega
  unfold m_frz at h
  rw [if_neg (fun hh=>hh hl),if_neg (fun hh=>hh ⟨h0,h1⟩),if_neg (fun hh=>hh hp),if_neg (fun hh=>hh hb)] at h
  by_cases hx:l.length=1024
  · rw [if_pos hx] at h
    simp only [List.cons.injEq,DV.c.injEq,D.raw.injEq,D.fs.injEq,Value.int.injEq,true_and,and_true] at h
    exact .inl ⟨h.2,hx⟩
  · rw [if_neg hx] at h
    simp only [List.cons.injEq,DV.c.injEq,D.raw.injEq,D.fs.injEq,Value.int.injEq,true_and,and_true] at h
    exact .inr ⟨h.2,hx,h.1⟩
theorem tick_no {a:List D} {f:Bool} (h:¬p_node a):[.a (downC 0),vb false,vn 8]=m_tick a f:=by unfold m_tick;rw [if_pos h]
theorem tick_noE {a:List D} {f:Bool} (h:(if p_node a then (0:Int) else 8)≠0):[.a (downC 0),vb false,vn (if p_node a then 0 else 8)]=m_tick a f:=by rw [if_neg (if8 h)];exact tick_no (if8 h)
theorem tick_down {a:List D} {f:Bool} (h:p_node a) (h2:gB a 2=false):[.a (downC 0),vb false,vn 14]=m_tick a f:=by unfold m_tick;rw [if_neg (fun hh=>hh h),if_pos h2]
theorem tick_max {a:List D} {f:Bool} (h:p_node a) (h2:gB a 2=true) (h3:gI a 4=2147483647):[.a (downC 0),vb false,vn 10]=m_tick a f:=by unfold m_tick;rw [if_neg (fun hh=>hh h),if_neg (by rw [h2];decide),if_pos h3]
theorem tick_full {a:List D} {f:Bool} (h:p_node a) (h2:gB a 2=true) (h3:gI a 4≠2147483647) (h4:gI a 3≤gI a 4+1-gI a 5∧gI a 6<65535) (h5:takesC a∧(gL a 31).length=1024):[.a (downC 0),vb false,vn 9]=m_tick a f:=by unfold m_tick;rw [if_neg (fun hh=>hh h),if_neg (by rw [h2];decide),if_neg h3,if_pos h4,if_pos h5]
theorem tick_turn {a:List D} {f:Bool} (h:p_node a) (h2:gB a 2=true) (h3:gI a 4≠2147483647) (h4:gI a 3≤gI a 4+1-gI a 5∧gI a 6<65535) (h5:¬(takesC a∧(gL a 31).length=1024)):m_tick a f=[.a (lateC (trnC a [dn (gI a 3),dn (gI a 4+1),dn (gI a 4+1),dn (gI a 6+1),dn (gI a 7)] f)),vb true,vn 0]:=by unfold m_tick;rw [if_neg (fun hh=>hh h),if_neg (by rw [h2];decide),if_neg h3,if_pos h4,if_neg h5]
theorem tick_stay {a:List D} {f:Bool} (h:p_node a) (h2:gB a 2=true) (h3:gI a 4≠2147483647) (h4:¬(gI a 3≤gI a 4+1-gI a 5∧gI a 6<65535)):m_tick a f=[.a (lateC (setC a [dn (gI a 3),dn (gI a 4+1),dn (gI a 5),dn (gI a 6),dn (gI a 7)])),vb false,vn 0]:=by unfold m_tick;rw [if_neg (fun hh=>hh h),if_neg (by rw [h2];decide),if_neg h3,if_neg h4]
theorem tickL_stay {x0 x1 x3 x4 x5 x6 x7 x10 x13 x16 x19 x21 x22 x25 x26 x28 x29:Int} {b8 b11 b14 b17 b20 b24:Bool} {l9 l12 l15 l18 l23 l27 l30 l31 l32:List (List D)} {f o:Bool} {n t i:Int} (h:p_node [dn x0,dn x1,db true,dn x3,dn x4,dn x5,dn x6,dn x7,db b8,D.fs l9,dn x10,db b11,D.fs l12,dn x13,db b14,D.fs l15,dn x16,db b17,D.fs l18,dn x19,db b20,dn x21,dn x22,D.fs l23,db b24,dn x25,dn x26,D.fs l27,dn x28,dn x29,D.fs l30,D.fs l31,D.fs l32]) (h3:x4≠2147483647) (h4:¬(x3≤x4+1-x5∧x6<65535)) (hw:wtI false b24 x25 x26 (dueT l32 (x4+1)) i o n t) (hi:¬i<((dueT l32 (x4+1)).length:Int)) (hi2:i≤((dueT l32 (x4+1)).length:Int)):[DV.a ([dn x0,dn x1,db true]++[dn x3,dn (x4+1),dn x5,dn x6,dn x7]++[db b8,D.fs l9,dn x10,db b11,D.fs l12,dn x13,db b14,D.fs l15,dn x16,db b17,D.fs l18,dn x19,db b20,dn x21,dn x22,D.fs l23]++[db o,dn n,dn t]++[D.fs l27,dn x28,dn x29,D.fs l30,D.fs l31]++[D.fs (leftT l32 (x4+1))]),vb false,vn 0]=m_tick [dn x0,dn x1,db true,dn x3,dn x4,dn x5,dn x6,dn x7,db b8,D.fs l9,dn x10,db b11,D.fs l12,dn x13,db b14,D.fs l15,dn x16,db b17,D.fs l18,dn x19,db b20,dn x21,dn x22,D.fs l23,db b24,dn x25,dn x26,D.fs l27,dn x28,dn x29,D.fs l30,D.fs l31,D.fs l32] f:=by
  rw [tick_stay h rfl h3 h4,hw.ff hi hi2]
  unfold lateC
  by_cases hc:b24=true∧∃ c∈l32,gI c 0≤x4+1∧gI c 1=x25
  · rw [if_pos hc]
    split
    · rfl
    · rename_i hn;exact (hn hc).elim
  · rw [if_neg hc]
    split
    · rename_i hn;exact (hc hn).elim
    · rfl
theorem tickL_tt {x0 x1 x3 x4 x5 x6 x7 x10 x13 x16 x19 x21 x22 x25 x26 x28 x29:Int} {b8 b11 b14 b17 b20 b24:Bool} {l9 l12 l15 l18 l23 l27 l30 l31 l32:List (List D)} {f o:Bool} {n t i:Int} {l due:List (List D)} (h:p_node [dn x0,dn x1,db true,dn x3,dn x4,dn x5,dn x6,dn x7,db b8,D.fs l9,dn x10,db b11,D.fs l12,dn x13,db b14,D.fs l15,dn x16,db b17,D.fs l18,dn x19,db b20,dn x21,dn x22,D.fs l23,db b24,dn x25,dn x26,D.fs l27,dn x28,dn x29,D.fs l30,D.fs l31,D.fs l32]) (h3:x4≠2147483647) (h4:x3≤x4+1-x5∧x6<65535) (h5:x7≤x6) (h6:l31.length≠1024) (hls:LSh [s32] l) (hl:p_tags (x6+1) x0 l) (hw:wtI true b24 x25 x26 due i o n t):[DV.a ([dn x0,dn x1,db true]++[dn x3,dn (x4+1),dn (x4+1),dn (x6+1),dn x7]++(massOf x1 f++[db true,dn x1,dn x1,D.fs l])++[db o,dn n,dn t]++[D.fs l27,dn x28,dn x29,D.fs l30]++[D.fs (l31++[dn x6::[db b8,D.fs l9,dn x10,db b11,D.fs l12,dn x13,db b14,D.fs l15,dn x16,db b17,D.fs l18,dn x19,db b20,dn x21,dn x22,D.fs l23]]),D.fs (leftT l32 (x4+1))]),vb true,vn 0]=m_tick [dn x0,dn x1,db true,dn x3,dn x4,dn x5,dn x6,dn x7,db b8,D.fs l9,dn x10,db b11,D.fs l12,dn x13,db b14,D.fs l15,dn x16,db b17,D.fs l18,dn x19,db b20,dn x21,dn x22,D.fs l23,db b24,dn x25,dn x26,D.fs l27,dn x28,dn x29,D.fs l30,D.fs l31,D.fs l32] f:=by
  obtain ⟨rfl,rfl,rfl⟩:=hw.tt
  rw [tick_turn h rfl h3 h4 (fun hh=>h6 hh.2)]
  have e1:frzC [dn x0,dn x1,db true,dn x3,dn x4,dn x5,dn x6,dn x7,db b8,D.fs l9,dn x10,db b11,D.fs l12,dn x13,db b14,D.fs l15,dn x16,db b17,D.fs l18,dn x19,db b20,dn x21,dn x22,D.fs l23,db b24,dn x25,dn x26,D.fs l27,dn x28,dn x29,D.fs l30,D.fs l31,D.fs l32]=(l31++[dn x6::[db b8,D.fs l9,dn x10,db b11,D.fs l12,dn x13,db b14,D.fs l15,dn x16,db b17,D.fs l18,dn x19,db b20,dn x21,dn x22,D.fs l23]]):=if_pos h5
  have e2:nxtC [dn x0,dn x1,db true,dn x3,dn x4,dn x5,dn x6,dn x7,db b8,D.fs l9,dn x10,db b11,D.fs l12,dn x13,db b14,D.fs l15,dn x16,db b17,D.fs l18,dn x19,db b20,dn x21,dn x22,D.fs l23,db b24,dn x25,dn x26,D.fs l27,dn x28,dn x29,D.fs l30,D.fs l31,D.fs l32] [dn x3,dn (x4+1),dn (x4+1),dn (x6+1),dn x7] f=(massOf x1 f++[db true,dn x1,dn x1,D.fs l]):=(if_pos (show x7≤x6+1 by omega)).trans (by unfold begC;rw [tagsL_eq hls hl];rfl)
  have e3:trnC [dn x0,dn x1,db true,dn x3,dn x4,dn x5,dn x6,dn x7,db b8,D.fs l9,dn x10,db b11,D.fs l12,dn x13,db b14,D.fs l15,dn x16,db b17,D.fs l18,dn x19,db b20,dn x21,dn x22,D.fs l23,db b24,dn x25,dn x26,D.fs l27,dn x28,dn x29,D.fs l30,D.fs l31,D.fs l32] [dn x3,dn (x4+1),dn (x4+1),dn (x6+1),dn x7] f=[dn x0,dn x1,db true]++[dn x3,dn (x4+1),dn (x4+1),dn (x6+1),dn x7]++(massOf x1 f++[db true,dn x1,dn x1,D.fs l])++[db false,dn 0,dn 0]++[D.fs l27,dn x28,dn x29,D.fs l30]++[D.fs (l31++[dn x6::[db b8,D.fs l9,dn x10,db b11,D.fs l12,dn x13,db b14,D.fs l15,dn x16,db b17,D.fs l18,dn x19,db b20,dn x21,dn x22,D.fs l23]]),D.fs l32]:=by
    unfold trnC;rw [e1,e2];rfl
  show _=[DV.a (lateC (trnC _ [dn x3,dn (x4+1),dn (x4+1),dn (x6+1),dn x7] f)),_,_]
  rw [e3]
  unfold lateC
  rw [if_neg (fun hh=>Bool.noConfusion (show false=true from hh.1))]
  rfl
theorem tickL_ft {x0 x1 x3 x4 x5 x6 x7 x10 x13 x16 x19 x21 x22 x25 x26 x28 x29:Int} {b8 b11 b14 b17 b20 b24:Bool} {l9 l12 l15 l18 l23 l27 l30 l31 l32:List (List D)} {f o:Bool} {n t i:Int} {l due:List (List D)} (h:p_node [dn x0,dn x1,db true,dn x3,dn x4,dn x5,dn x6,dn x7,db b8,D.fs l9,dn x10,db b11,D.fs l12,dn x13,db b14,D.fs l15,dn x16,db b17,D.fs l18,dn x19,db b20,dn x21,dn x22,D.fs l23,db b24,dn x25,dn x26,D.fs l27,dn x28,dn x29,D.fs l30,D.fs l31,D.fs l32]) (h3:x4≠2147483647) (h4:x3≤x4+1-x5∧x6<65535) (h5:¬x7≤x6) (h7:x7≤x6+1) (hls:LSh [s32] l) (hl:p_tags (x6+1) x0 l) (hw:wtI true b24 x25 x26 due i o n t):[DV.a ([dn x0,dn x1,db true]++[dn x3,dn (x4+1),dn (x4+1),dn (x6+1),dn x7]++(massOf x1 f++[db true,dn x1,dn x1,D.fs l])++[db o,dn n,dn t]++[D.fs l27,dn x28,dn x29,D.fs l30]++[D.fs l31,D.fs (leftT l32 (x4+1))]),vb true,vn 0]=m_tick [dn x0,dn x1,db true,dn x3,dn x4,dn x5,dn x6,dn x7,db b8,D.fs l9,dn x10,db b11,D.fs l12,dn x13,db b14,D.fs l15,dn x16,db b17,D.fs l18,dn x19,db b20,dn x21,dn x22,D.fs l23,db b24,dn x25,dn x26,D.fs l27,dn x28,dn x29,D.fs l30,D.fs l31,D.fs l32] f:=by
  obtain ⟨rfl,rfl,rfl⟩:=hw.tt
  rw [tick_turn h rfl h3 h4 (fun hh=>h5 hh.1)]
  have e1:frzC [dn x0,dn x1,db true,dn x3,dn x4,dn x5,dn x6,dn x7,db b8,D.fs l9,dn x10,db b11,D.fs l12,dn x13,db b14,D.fs l15,dn x16,db b17,D.fs l18,dn x19,db b20,dn x21,dn x22,D.fs l23,db b24,dn x25,dn x26,D.fs l27,dn x28,dn x29,D.fs l30,D.fs l31,D.fs l32]=l31:=if_neg h5
  have e2:nxtC [dn x0,dn x1,db true,dn x3,dn x4,dn x5,dn x6,dn x7,db b8,D.fs l9,dn x10,db b11,D.fs l12,dn x13,db b14,D.fs l15,dn x16,db b17,D.fs l18,dn x19,db b20,dn x21,dn x22,D.fs l23,db b24,dn x25,dn x26,D.fs l27,dn x28,dn x29,D.fs l30,D.fs l31,D.fs l32] [dn x3,dn (x4+1),dn (x4+1),dn (x6+1),dn x7] f=(massOf x1 f++[db true,dn x1,dn x1,D.fs l]):=(if_pos (show x7≤x6+1 by omega)).trans (by unfold begC;rw [tagsL_eq hls hl];rfl)
  have e3:trnC [dn x0,dn x1,db true,dn x3,dn x4,dn x5,dn x6,dn x7,db b8,D.fs l9,dn x10,db b11,D.fs l12,dn x13,db b14,D.fs l15,dn x16,db b17,D.fs l18,dn x19,db b20,dn x21,dn x22,D.fs l23,db b24,dn x25,dn x26,D.fs l27,dn x28,dn x29,D.fs l30,D.fs l31,D.fs l32] [dn x3,dn (x4+1),dn (x4+1),dn (x6+1),dn x7] f=[dn x0,dn x1,db true]++[dn x3,dn (x4+1),dn (x4+1),dn (x6+1),dn x7]++(massOf x1 f++[db true,dn x1,dn x1,D.fs l])++[db false,dn 0,dn 0]++[D.fs l27,dn x28,dn x29,D.fs l30]++[D.fs l31,D.fs l32]:=by
    unfold trnC;rw [e1,e2];rfl
  show _=[DV.a (lateC (trnC _ [dn x3,dn (x4+1),dn (x4+1),dn (x6+1),dn x7] f)),_,_]
  rw [e3]
  unfold lateC
  rw [if_neg (fun hh=>Bool.noConfusion (show false=true from hh.1))]
  rfl
theorem tickL_ff {x0 x1 x3 x4 x5 x6 x7 x10 x13 x16 x19 x21 x22 x25 x26 x28 x29:Int} {b8 b11 b14 b17 b20 b24:Bool} {l9 l12 l15 l18 l23 l27 l30 l31 l32:List (List D)} {f o:Bool} {n t i:Int} {due:List (List D)} (h:p_node [dn x0,dn x1,db true,dn x3,dn x4,dn x5,dn x6,dn x7,db b8,D.fs l9,dn x10,db b11,D.fs l12,dn x13,db b14,D.fs l15,dn x16,db b17,D.fs l18,dn x19,db b20,dn x21,dn x22,D.fs l23,db b24,dn x25,dn x26,D.fs l27,dn x28,dn x29,D.fs l30,D.fs l31,D.fs l32]) (h3:x4≠2147483647) (h4:x3≤x4+1-x5∧x6<65535) (h5:¬x7≤x6) (h7:¬x7≤x6+1) (hw:wtI true b24 x25 x26 due i o n t):[DV.a ([dn x0,dn x1,db true]++[dn x3,dn (x4+1),dn (x4+1),dn (x6+1),dn x7]++zPart++[db o,dn n,dn t]++[D.fs l27,dn x28,dn x29,D.fs l30]++[D.fs l31,D.fs (leftT l32 (x4+1))]),vb true,vn 0]=m_tick [dn x0,dn x1,db true,dn x3,dn x4,dn x5,dn x6,dn x7,db b8,D.fs l9,dn x10,db b11,D.fs l12,dn x13,db b14,D.fs l15,dn x16,db b17,D.fs l18,dn x19,db b20,dn x21,dn x22,D.fs l23,db b24,dn x25,dn x26,D.fs l27,dn x28,dn x29,D.fs l30,D.fs l31,D.fs l32] f:=by
  obtain ⟨rfl,rfl,rfl⟩:=hw.tt
  rw [tick_turn h rfl h3 h4 (fun hh=>h5 hh.1)]
  have e1:frzC [dn x0,dn x1,db true,dn x3,dn x4,dn x5,dn x6,dn x7,db b8,D.fs l9,dn x10,db b11,D.fs l12,dn x13,db b14,D.fs l15,dn x16,db b17,D.fs l18,dn x19,db b20,dn x21,dn x22,D.fs l23,db b24,dn x25,dn x26,D.fs l27,dn x28,dn x29,D.fs l30,D.fs l31,D.fs l32]=l31:=if_neg h5
  have e2:nxtC [dn x0,dn x1,db true,dn x3,dn x4,dn x5,dn x6,dn x7,db b8,D.fs l9,dn x10,db b11,D.fs l12,dn x13,db b14,D.fs l15,dn x16,db b17,D.fs l18,dn x19,db b20,dn x21,dn x22,D.fs l23,db b24,dn x25,dn x26,D.fs l27,dn x28,dn x29,D.fs l30,D.fs l31,D.fs l32] [dn x3,dn (x4+1),dn (x4+1),dn (x6+1),dn x7] f=zPart:=if_neg h7
  have e3:trnC [dn x0,dn x1,db true,dn x3,dn x4,dn x5,dn x6,dn x7,db b8,D.fs l9,dn x10,db b11,D.fs l12,dn x13,db b14,D.fs l15,dn x16,db b17,D.fs l18,dn x19,db b20,dn x21,dn x22,D.fs l23,db b24,dn x25,dn x26,D.fs l27,dn x28,dn x29,D.fs l30,D.fs l31,D.fs l32] [dn x3,dn (x4+1),dn (x4+1),dn (x6+1),dn x7] f=[dn x0,dn x1,db true]++[dn x3,dn (x4+1),dn (x4+1),dn (x6+1),dn x7]++zPart++[db false,dn 0,dn 0]++[D.fs l27,dn x28,dn x29,D.fs l30]++[D.fs l31,D.fs l32]:=by
    unfold trnC;rw [e1,e2];rfl
  show _=[DV.a (lateC (trnC _ [dn x3,dn (x4+1),dn (x4+1),dn (x6+1),dn x7] f)),_,_]
  rw [e3]
  unfold lateC
  rw [if_neg (fun hh=>Bool.noConfusion (show false=true from hh.1))]
  rfl
theorem due_ls {l:List (List D)} {k:Int} (h:LSh pairS l):LSh pairS (dueT l k):=by
  have e:(dueT l k).length≤l.length:=List.length_filter_le _ _
  have e2:=h.1
  exact ⟨by omega, .mk (by omega) fun c hc=>h.2.els c (List.mem_filter.1 hc).1⟩
theorem left_ls {l:List (List D)} {k:Int} (h:LSh pairS l):LSh pairS (leftT l k):=by
  have e:(leftT l k).length≤l.length:=List.length_filter_le _ _
  have e2:=h.1
  exact ⟨by omega, .mk (by omega) fun c hc=>h.2.els c (List.mem_filter.1 hc).1⟩
attribute [irreducible] wtI
end Go.Vc

namespace Go.Vc
open Classical
theorem up_ne {a:List D} (h:gB a 2=true):¬gB a 2=false:=by rw [h];decide
theorem bdec {p:Prop} [Decidable p] (h:¬decide p=false):p:=by
  by_cases e:p
  · exact e
  · exact absurd (decide_eq_false e) h
theorem crash_noE {a:List D} (h:(if p_node a then (0:Int) else 8)≠0):[.a (downC 0),vl [],vn (if p_node a then 0 else 8)]=m_crash a:=by rw [if_neg (if8 h)];unfold m_crash;rw [if_pos (if8 h)]
theorem crash_down {a:List D} (h:p_node a) (h2:gB a 2=false):[.a (downC 0),vl [],vn 14]=m_crash a:=by unfold m_crash;rw [if_neg (fun hh=>hh h),if_pos h2]
theorem crash_up {a:List D} (h:p_node a) (h2:gB a 2=true):m_crash a=[.a (downC (gI a 0)),vl (frzC a),vn 0]:=by unfold m_crash;rw [if_neg (fun hh=>hh h),if_neg (up_ne h2)]
theorem seed_noE {a:List D} {f:Bool} (h:(if p_node a then (0:Int) else 8)≠0):[.a (downC 0),vn (if p_node a then 0 else 8)]=m_seed a f:=by rw [if_neg (if8 h)];unfold m_seed;rw [if_pos (if8 h)]
theorem seed_down {a:List D} {f:Bool} (h:p_node a) (h2:gB a 2=false):[.a (downC 0),vn 14]=m_seed a f:=by unfold m_seed;rw [if_neg (fun hh=>hh h),if_pos h2]
theorem seed_none {a:List D} {f:Bool} (h:p_node a) (h2:gB a 2=true) (h3:¬takesC a):[.a (downC 0),vn 6]=m_seed a f:=by unfold m_seed;rw [if_neg (fun hh=>hh h),if_neg (up_ne h2),if_pos h3]
theorem seed_again {a:List D} {f:Bool} (h:p_node a) (h2:gB a 2=true) (h3:takesC a) (h4:partC a≠zPart):[.a (downC 0),vn 12]=m_seed a f:=by unfold m_seed;rw [if_neg (fun hh=>hh h),if_neg (up_ne h2),if_neg (fun hh=>hh h3),if_pos h4]
theorem seed_ok {a:List D} {f:Bool} (h:p_node a) (h2:gB a 2=true) (h3:takesC a) (h4:partC a=zPart):m_seed a f=[.a (a.take 8++begC (gI a 1) f (gI a 6) (gI a 0)++a.drop 24),vn 0]:=by unfold m_seed;rw [if_neg (fun hh=>hh h),if_neg (up_ne h2),if_neg (fun hh=>hh h3),if_neg (fun hh=>hh h4)]
theorem crashL_t {x0 x1 x3 x4 x5 x6 x7 x10 x13 x16 x19 x21 x22 x25 x26 x28 x29:Int} {b8 b11 b14 b17 b20 b24:Bool} {l9 l12 l15 l18 l23 l27 l30 l31 l32:List (List D)} (h:p_node [dn x0,dn x1,db true,dn x3,dn x4,dn x5,dn x6,dn x7,db b8,D.fs l9,dn x10,db b11,D.fs l12,dn x13,db b14,D.fs l15,dn x16,db b17,D.fs l18,dn x19,db b20,dn x21,dn x22,D.fs l23,db b24,dn x25,dn x26,D.fs l27,dn x28,dn x29,D.fs l30,D.fs l31,D.fs l32]) (h5:x7≤x6):[DV.a (downC x0),vl (l31++[dn x6::[db b8,D.fs l9,dn x10,db b11,D.fs l12,dn x13,db b14,D.fs l15,dn x16,db b17,D.fs l18,dn x19,db b20,dn x21,dn x22,D.fs l23]]),vn 0]=m_crash [dn x0,dn x1,db true,dn x3,dn x4,dn x5,dn x6,dn x7,db b8,D.fs l9,dn x10,db b11,D.fs l12,dn x13,db b14,D.fs l15,dn x16,db b17,D.fs l18,dn x19,db b20,dn x21,dn x22,D.fs l23,db b24,dn x25,dn x26,D.fs l27,dn x28,dn x29,D.fs l30,D.fs l31,D.fs l32]:=by
  rw [crash_up h rfl]
  have e1:frzC [dn x0,dn x1,db true,dn x3,dn x4,dn x5,dn x6,dn x7,db b8,D.fs l9,dn x10,db b11,D.fs l12,dn x13,db b14,D.fs l15,dn x16,db b17,D.fs l18,dn x19,db b20,dn x21,dn x22,D.fs l23,db b24,dn x25,dn x26,D.fs l27,dn x28,dn x29,D.fs l30,D.fs l31,D.fs l32]=(l31++[dn x6::[db b8,D.fs l9,dn x10,db b11,D.fs l12,dn x13,db b14,D.fs l15,dn x16,db b17,D.fs l18,dn x19,db b20,dn x21,dn x22,D.fs l23]]):=if_pos h5
  rw [e1];rfl
theorem crashL_n {x0 x1 x3 x4 x5 x6 x7 x10 x13 x16 x19 x21 x22 x25 x26 x28 x29:Int} {b8 b11 b14 b17 b20 b24:Bool} {l9 l12 l15 l18 l23 l27 l30 l31 l32:List (List D)} (h:p_node [dn x0,dn x1,db true,dn x3,dn x4,dn x5,dn x6,dn x7,db b8,D.fs l9,dn x10,db b11,D.fs l12,dn x13,db b14,D.fs l15,dn x16,db b17,D.fs l18,dn x19,db b20,dn x21,dn x22,D.fs l23,db b24,dn x25,dn x26,D.fs l27,dn x28,dn x29,D.fs l30,D.fs l31,D.fs l32]) (h5:¬x7≤x6):[DV.a (downC x0),vl l31,vn 0]=m_crash [dn x0,dn x1,db true,dn x3,dn x4,dn x5,dn x6,dn x7,db b8,D.fs l9,dn x10,db b11,D.fs l12,dn x13,db b14,D.fs l15,dn x16,db b17,D.fs l18,dn x19,db b20,dn x21,dn x22,D.fs l23,db b24,dn x25,dn x26,D.fs l27,dn x28,dn x29,D.fs l30,D.fs l31,D.fs l32]:=by
  rw [crash_up h rfl]
  have e1:frzC [dn x0,dn x1,db true,dn x3,dn x4,dn x5,dn x6,dn x7,db b8,D.fs l9,dn x10,db b11,D.fs l12,dn x13,db b14,D.fs l15,dn x16,db b17,D.fs l18,dn x19,db b20,dn x21,dn x22,D.fs l23,db b24,dn x25,dn x26,D.fs l27,dn x28,dn x29,D.fs l30,D.fs l31,D.fs l32]=l31:=if_neg h5
  rw [e1];rfl
theorem seedL_ok {x0 x1 x3 x4 x5 x6 x7 x10 x13 x16 x19 x21 x22 x25 x26 x28 x29:Int} {b8 b11 b14 b17 b20 b24:Bool} {l9 l12 l15 l18 l23 l27 l30 l31 l32:List (List D)} {f:Bool} {l:List (List D)} (hls:LSh [s32] l) (hl:p_tags x6 x0 l) (h:p_node [dn x0,dn x1,db true,dn x3,dn x4,dn x5,dn x6,dn x7,db b8,D.fs l9,dn x10,db b11,D.fs l12,dn x13,db b14,D.fs l15,dn x16,db b17,D.fs l18,dn x19,db b20,dn x21,dn x22,D.fs l23,db b24,dn x25,dn x26,D.fs l27,dn x28,dn x29,D.fs l30,D.fs l31,D.fs l32]) (h5:x7≤x6) (h6:[db b8,D.fs l9,dn x10,db b11,D.fs l12,dn x13,db b14,D.fs l15,dn x16,db b17,D.fs l18,dn x19,db b20,dn x21,dn x22,D.fs l23]=zPart):[DV.a ([dn x0,dn x1,db true,dn x3,dn x4,dn x5,dn x6,dn x7]++massOf x1 f++[db true,dn x1,dn x1,D.fs l]++[db b24,dn x25,dn x26,D.fs l27,dn x28,dn x29,D.fs l30,D.fs l31,D.fs l32]),vn 0]=m_seed [dn x0,dn x1,db true,dn x3,dn x4,dn x5,dn x6,dn x7,db b8,D.fs l9,dn x10,db b11,D.fs l12,dn x13,db b14,D.fs l15,dn x16,db b17,D.fs l18,dn x19,db b20,dn x21,dn x22,D.fs l23,db b24,dn x25,dn x26,D.fs l27,dn x28,dn x29,D.fs l30,D.fs l31,D.fs l32] f:=by
  rw [seed_ok h rfl h5 h6]
  unfold begC
  rw [tagsL_eq hls hl];rfl
theorem zpart_iff {x10 x13 x16 x19 x21 x22:Int} {b8 b11 b14 b17 b20:Bool} {l9 l12 l15 l18 l23:List (List D)}:[db b8,D.fs l9,dn x10,db b11,D.fs l12,dn x13,db b14,D.fs l15,dn x16,db b17,D.fs l18,dn x19,db b20,dn x21,dn x22,D.fs l23]=zPart↔b8=false∧l9=[]∧x10=0∧b11=false∧l12=[]∧x13=0∧b14=false∧l15=[]∧x16=0∧b17=false∧l18=[]∧x19=0∧b20=false∧x21=0∧x22=0∧l23=[]:=by
  unfold zPart
  simp only [List.cons.injEq,D.raw.injEq,D.fs.injEq,Value.int.injEq,Value.bool.injEq,true_and,and_true]
end Go.Vc

namespace Go.Vc
open Classical
theorem tagsL_ok {e n:Int}:LSh [s32] (tagsL e n)∧p_tags e n (tagsL e n):=by
  have hx:∃ l,LSh [s32] l∧p_tags e n l:=by
    refine ⟨(tagsUp e n 4).mergeSort (fun c d=>decide (gI c 0≤gI d 0)),?_⟩
    have hp:=List.mergeSort_perm (tagsUp e n 4) (fun c d=>decide (gI c 0≤gI d 0))
    have hw:=List.pairwise_mergeSort (le:=fun c d:List D=>decide (gI c 0≤gI d 0)) (fun a b c h1 h2=>decide_eq_true (Int.le_trans (of_decide_eq_true h1) (of_decide_eq_true h2))) (fun a b=>by
      by_cases h:gI a 0≤gI b 0
      · simp [h]
      · have:gI b 0≤gI a 0:=by omega
        simp [this]) (tagsUp e n 4)
    have hl:((tagsUp e n 4).mergeSort (fun c d=>decide (gI c 0≤gI d 0))).length=4:=by rw [hp.length_eq,tagsUp_len];rfl
    refine ⟨⟨by omega, .mk (by omega) fun c hc=>?_⟩,hl,hp,fun i j hij hj=>?_⟩
    · obtain ⟨x,hx⟩:=List.mem_map.1 (hp.mem_iff.1 hc)
      rw [←hx.2];exact tag_i32
    · have:=List.pairwise_iff_getElem.1 hw i j (by omega) (by omega) hij
      unfold nth
      rw [List.getElem?_eq_getElem (by omega),List.getElem?_eq_getElem (by omega)]
      exact of_decide_eq_true this
  unfold tagsL
  rw [dif_pos hx]
  exact Classical.choose_spec hx
theorem cb_nil {a b:Int} (h:0≤a∧a≤7) (h2:1≤b∧b≤6):p_cacheB [dn a,dn b, .fs []]:=⟨h.1,h.2,h2.1,h2.2,by show ((([]:List (List D)).length:Nat):Int)≤b;simp;omega,e_desc_nil,rfl⟩
theorem node_A:p_node [dn 1,dn 5,db true,dn 2,dn 0,dn 0,dn 0,dn 0,db false,D.fs [],dn 0,db false,D.fs [],dn 0,db false,D.fs [],dn 0,db false,D.fs [],dn 0,db false,dn 0,dn 0,D.fs [],db false,dn 0,dn 0,D.fs [],dn 1,dn 3,D.fs [],D.fs [],D.fs []]:=⟨may_A,fun _=>cb_nil ⟨of_decide_eq_true rfl,of_decide_eq_true rfl⟩ ⟨of_decide_eq_true rfl,of_decide_eq_true rfl⟩⟩
theorem node_S:p_node [dn 1,dn 5,db true,dn 2,dn 0,dn 0,dn 0,dn 0,db false,D.fs [[d32 5]],dn 0,db false,D.fs [[d32 1]],dn 0,db false,D.fs [[d32 1]],dn 0,db false,D.fs [[d32 5]],dn 0,db true,dn 5,dn 5,D.fs (tagsL 0 1),db false,dn 0,dn 0,D.fs [],dn 1,dn 3,D.fs [],D.fs [],D.fs []]:=⟨may_S tagsL_ok.2,fun _=>cb_nil ⟨of_decide_eq_true rfl,of_decide_eq_true rfl⟩ ⟨of_decide_eq_true rfl,of_decide_eq_true rfl⟩⟩
theorem node_S1:p_node [dn 1,dn 5,db true,dn 2,dn 1,dn 0,dn 0,dn 0,db false,D.fs [[d32 5]],dn 0,db false,D.fs [[d32 1]],dn 0,db false,D.fs [[d32 1]],dn 0,db false,D.fs [[d32 5]],dn 0,db true,dn 5,dn 5,D.fs (tagsL 0 1),db false,dn 0,dn 0,D.fs [],dn 1,dn 3,D.fs [],D.fs [],D.fs []]:=⟨may_S1 tagsL_ok.2,fun _=>cb_nil ⟨of_decide_eq_true rfl,of_decide_eq_true rfl⟩ ⟨of_decide_eq_true rfl,of_decide_eq_true rfl⟩⟩
theorem node_S2:p_node [dn 1,dn 5,db true,dn 2,dn 2,dn 2,dn 1,dn 0,db false,D.fs [[d32 5]],dn 0,db false,D.fs [[d32 1]],dn 0,db false,D.fs [],dn 0,db false,D.fs [[d32 5]],dn 0,db true,dn 5,dn 5,D.fs (tagsL 1 1),db false,dn 0,dn 0,D.fs [],dn 1,dn 3,D.fs [],D.fs [[dn 0,db false,D.fs [[d32 5]],dn 0,db false,D.fs [[d32 1]],dn 0,db false,D.fs [[d32 1]],dn 0,db false,D.fs [[d32 5]],dn 0,db true,dn 5,dn 5,D.fs (tagsL 0 1)]],D.fs []]:=⟨may_S2 tagsL_ok.2 tagsL_ok.2,fun _=>cb_nil ⟨of_decide_eq_true rfl,of_decide_eq_true rfl⟩ ⟨of_decide_eq_true rfl,of_decide_eq_true rfl⟩⟩
theorem fseed_A:m_seed [dn 1,dn 5,db true,dn 2,dn 0,dn 0,dn 0,dn 0,db false,D.fs [],dn 0,db false,D.fs [],dn 0,db false,D.fs [],dn 0,db false,D.fs [],dn 0,db false,dn 0,dn 0,D.fs [],db false,dn 0,dn 0,D.fs [],dn 1,dn 3,D.fs [],D.fs [],D.fs []] true=[.a [dn 1,dn 5,db true,dn 2,dn 0,dn 0,dn 0,dn 0,db false,D.fs [[d32 5]],dn 0,db false,D.fs [[d32 1]],dn 0,db false,D.fs [[d32 1]],dn 0,db false,D.fs [[d32 5]],dn 0,db true,dn 5,dn 5,D.fs (tagsL 0 1),db false,dn 0,dn 0,D.fs [],dn 1,dn 3,D.fs [],D.fs [],D.fs []],vn 0]:=seed_ok node_A rfl (show (0:Int)≤0 from Int.le_refl 0) rfl
theorem late_not {a:List D} (h:gB a 24=false):lateC a=a.take 24++(a.drop 24).take 3++(a.drop 27).take 5++[.fs (leftT (gL a 32) (gI a 4))]:=by
  unfold lateC;rw [if_neg];intro hh;rw [hh.1] at h;cases h
theorem ftick_S:m_tick [dn 1,dn 5,db true,dn 2,dn 0,dn 0,dn 0,dn 0,db false,D.fs [[d32 5]],dn 0,db false,D.fs [[d32 1]],dn 0,db false,D.fs [[d32 1]],dn 0,db false,D.fs [[d32 5]],dn 0,db true,dn 5,dn 5,D.fs (tagsL 0 1),db false,dn 0,dn 0,D.fs [],dn 1,dn 3,D.fs [],D.fs [],D.fs []] false=[.a [dn 1,dn 5,db true,dn 2,dn 1,dn 0,dn 0,dn 0,db false,D.fs [[d32 5]],dn 0,db false,D.fs [[d32 1]],dn 0,db false,D.fs [[d32 1]],dn 0,db false,D.fs [[d32 5]],dn 0,db true,dn 5,dn 5,D.fs (tagsL 0 1),db false,dn 0,dn 0,D.fs [],dn 1,dn 3,D.fs [],D.fs [],D.fs []],vb false,vn 0]:=by
  rw [tick_stay node_S rfl (of_decide_eq_true rfl) (of_decide_eq_true rfl),late_not rfl];rfl
theorem ftick_S1:m_tick [dn 1,dn 5,db true,dn 2,dn 1,dn 0,dn 0,dn 0,db false,D.fs [[d32 5]],dn 0,db false,D.fs [[d32 1]],dn 0,db false,D.fs [[d32 1]],dn 0,db false,D.fs [[d32 5]],dn 0,db true,dn 5,dn 5,D.fs (tagsL 0 1),db false,dn 0,dn 0,D.fs [],dn 1,dn 3,D.fs [],D.fs [],D.fs []] false=[.a [dn 1,dn 5,db true,dn 2,dn 2,dn 2,dn 1,dn 0,db false,D.fs [[d32 5]],dn 0,db false,D.fs [[d32 1]],dn 0,db false,D.fs [],dn 0,db false,D.fs [[d32 5]],dn 0,db true,dn 5,dn 5,D.fs (tagsL 1 1),db false,dn 0,dn 0,D.fs [],dn 1,dn 3,D.fs [],D.fs [[dn 0,db false,D.fs [[d32 5]],dn 0,db false,D.fs [[d32 1]],dn 0,db false,D.fs [[d32 1]],dn 0,db false,D.fs [[d32 5]],dn 0,db true,dn 5,dn 5,D.fs (tagsL 0 1)]],D.fs []],vb true,vn 0]:=by
  rw [tick_turn node_S1 rfl (of_decide_eq_true rfl) ⟨of_decide_eq_true rfl,of_decide_eq_true rfl⟩ (fun h=>absurd h.2 (of_decide_eq_true rfl))]
  have e1:frzC [dn 1,dn 5,db true,dn 2,dn 1,dn 0,dn 0,dn 0,db false,D.fs [[d32 5]],dn 0,db false,D.fs [[d32 1]],dn 0,db false,D.fs [[d32 1]],dn 0,db false,D.fs [[d32 5]],dn 0,db true,dn 5,dn 5,D.fs (tagsL 0 1),db false,dn 0,dn 0,D.fs [],dn 1,dn 3,D.fs [],D.fs [],D.fs []]=[[dn 0,db false,D.fs [[d32 5]],dn 0,db false,D.fs [[d32 1]],dn 0,db false,D.fs [[d32 1]],dn 0,db false,D.fs [[d32 5]],dn 0,db true,dn 5,dn 5,D.fs (tagsL 0 1)]]:=if_pos (show (0:Int)≤0 from Int.le_refl 0)
  have e2:nxtC [dn 1,dn 5,db true,dn 2,dn 1,dn 0,dn 0,dn 0,db false,D.fs [[d32 5]],dn 0,db false,D.fs [[d32 1]],dn 0,db false,D.fs [[d32 1]],dn 0,db false,D.fs [[d32 5]],dn 0,db true,dn 5,dn 5,D.fs (tagsL 0 1),db false,dn 0,dn 0,D.fs [],dn 1,dn 3,D.fs [],D.fs [],D.fs []] [dn 2,dn 2,dn 2,dn 1,dn 0] false=begC 5 false 1 1:=if_pos (of_decide_eq_true rfl)
  have e3:trnC [dn 1,dn 5,db true,dn 2,dn 1,dn 0,dn 0,dn 0,db false,D.fs [[d32 5]],dn 0,db false,D.fs [[d32 1]],dn 0,db false,D.fs [[d32 1]],dn 0,db false,D.fs [[d32 5]],dn 0,db true,dn 5,dn 5,D.fs (tagsL 0 1),db false,dn 0,dn 0,D.fs [],dn 1,dn 3,D.fs [],D.fs [],D.fs []] [dn 2,dn 2,dn 2,dn 1,dn 0] false=[dn 1,dn 5,db true,dn 2,dn 2,dn 2,dn 1,dn 0,db false,D.fs [[d32 5]],dn 0,db false,D.fs [[d32 1]],dn 0,db false,D.fs [],dn 0,db false,D.fs [[d32 5]],dn 0,db true,dn 5,dn 5,D.fs (tagsL 1 1),db false,dn 0,dn 0,D.fs [],dn 1,dn 3,D.fs [],D.fs [[dn 0,db false,D.fs [[d32 5]],dn 0,db false,D.fs [[d32 1]],dn 0,db false,D.fs [[d32 1]],dn 0,db false,D.fs [[d32 5]],dn 0,db true,dn 5,dn 5,D.fs (tagsL 0 1)]],D.fs []]:=by
    unfold trnC;rw [e1,e2];rfl
  show [DV.a (lateC (trnC [dn 1,dn 5,db true,dn 2,dn 1,dn 0,dn 0,dn 0,db false,D.fs [[d32 5]],dn 0,db false,D.fs [[d32 1]],dn 0,db false,D.fs [[d32 1]],dn 0,db false,D.fs [[d32 5]],dn 0,db true,dn 5,dn 5,D.fs (tagsL 0 1),db false,dn 0,dn 0,D.fs [],dn 1,dn 3,D.fs [],D.fs [],D.fs []] [dn 2,dn 2,dn 2,dn 1,dn 0] false)),_,_]=_
  rw [e3,late_not rfl];rfl
theorem fcrash_S2:m_crash [dn 1,dn 5,db true,dn 2,dn 2,dn 2,dn 1,dn 0,db false,D.fs [[d32 5]],dn 0,db false,D.fs [[d32 1]],dn 0,db false,D.fs [],dn 0,db false,D.fs [[d32 5]],dn 0,db true,dn 5,dn 5,D.fs (tagsL 1 1),db false,dn 0,dn 0,D.fs [],dn 1,dn 3,D.fs [],D.fs [[dn 0,db false,D.fs [[d32 5]],dn 0,db false,D.fs [[d32 1]],dn 0,db false,D.fs [[d32 1]],dn 0,db false,D.fs [[d32 5]],dn 0,db true,dn 5,dn 5,D.fs (tagsL 0 1)]],D.fs []]=[.a [dn 1,dn 0,db false,dn 0,dn 0,dn 0,dn 0,dn 0,db false,D.fs [],dn 0,db false,D.fs [],dn 0,db false,D.fs [],dn 0,db false,D.fs [],dn 0,db false,dn 0,dn 0,D.fs [],db false,dn 0,dn 0,D.fs [],dn 0,dn 0,D.fs [],D.fs [],D.fs []],vl ([[dn 0,db false,D.fs [[d32 5]],dn 0,db false,D.fs [[d32 1]],dn 0,db false,D.fs [[d32 1]],dn 0,db false,D.fs [[d32 5]],dn 0,db true,dn 5,dn 5,D.fs (tagsL 0 1)]]++[[dn 1,db false,D.fs [[d32 5]],dn 0,db false,D.fs [[d32 1]],dn 0,db false,D.fs [],dn 0,db false,D.fs [[d32 5]],dn 0,db true,dn 5,dn 5,D.fs (tagsL 1 1)]]),vn 0]:=by
  rw [crash_up node_S2 rfl]
  have e1:frzC [dn 1,dn 5,db true,dn 2,dn 2,dn 2,dn 1,dn 0,db false,D.fs [[d32 5]],dn 0,db false,D.fs [[d32 1]],dn 0,db false,D.fs [],dn 0,db false,D.fs [[d32 5]],dn 0,db true,dn 5,dn 5,D.fs (tagsL 1 1),db false,dn 0,dn 0,D.fs [],dn 1,dn 3,D.fs [],D.fs [[dn 0,db false,D.fs [[d32 5]],dn 0,db false,D.fs [[d32 1]],dn 0,db false,D.fs [[d32 1]],dn 0,db false,D.fs [[d32 5]],dn 0,db true,dn 5,dn 5,D.fs (tagsL 0 1)]],D.fs []]=[[dn 0,db false,D.fs [[d32 5]],dn 0,db false,D.fs [[d32 1]],dn 0,db false,D.fs [[d32 1]],dn 0,db false,D.fs [[d32 5]],dn 0,db true,dn 5,dn 5,D.fs (tagsL 0 1)]]++[[dn 1,db false,D.fs [[d32 5]],dn 0,db false,D.fs [[d32 1]],dn 0,db false,D.fs [],dn 0,db false,D.fs [[d32 5]],dn 0,db true,dn 5,dn 5,D.fs (tagsL 1 1)]]:=if_pos (show (0:Int)≤1 from of_decide_eq_true rfl)
  rw [e1];rfl
end Go.Vc

namespace Go.Vc
open Classical
def dueW (l:List (List D)) (k x i:Int) (b:Bool):Prop:=b=true↔∃ j<i.toNat,nth l j 0≤k∧nth l j 1=x
theorem dueW.zero {l:List (List D)} {k x:Int}:dueW l k x 0 false:=⟨fun h=>Bool.noConfusion h,fun ⟨j,h,_⟩=>absurd h (by simp)⟩
theorem dueW.old {l:List (List D)} {k x i j:Int} (h:dueW l k x i true) (h0:0≤i) (hj:j=i+1):dueW l k x j true:=⟨fun _=>by
  obtain ⟨a,h1,h2⟩:=h.1 rfl
  exact ⟨a,by omega,h2⟩,fun _=>rfl⟩
theorem dueW.hit {l:List (List D)} {k x i j u v:Int} {b:Bool} (hb:b=true) (h0:0≤i) (hk:l[i.toNat]?=some [dn u,dn v]) (h1:u≤k) (h2:v=x) (hj:j=i+1):dueW l k x j b:=⟨fun _=>⟨i.toNat,by omega,by rw [(nth_2 hk).1,(nth_2 hk).2];exact ⟨h1,h2⟩⟩,fun _=>hb⟩
theorem dueW.hit2 {l:List (List D)} {k x i j u v u' v':Int} (h1:u≤k) (hk:l[i.toNat]?=some [dn u,dn v]) (hk':l[i.toNat]?=some [dn u',dn v']) (h2:v'=x) (h0:0≤i) (hj:j=i+1):dueW l k x j true:=by
  rw [hk] at hk';cases hk'
  exact dueW.hit rfl h0 hk h1 h2 hj
theorem dueW.miss {l:List (List D)} {k x i j u v:Int} (h:dueW l k x i false) (h0:0≤i) (hk:l[i.toNat]?=some [dn u,dn v]) (h1:¬(u≤k∧v=x)) (hj:j=i+1):dueW l k x j false:=⟨fun h=>Bool.noConfusion h,fun ⟨a,h2,h3⟩=>by
  by_cases e:a=i.toNat
  · subst e;rw [(nth_2 hk).1,(nth_2 hk).2] at h3;exact absurd h3 h1
  · exact h.2 ⟨a,by omega,h3⟩⟩
theorem dueW.all {l:List (List D)} {k x i:Int} {b:Bool} (h:dueW l k x i b) (hi:¬i<(l.length:Int)) (hi2:i≤(l.length:Int)):b=true↔∃ c∈l,gI c 0≤k∧gI c 1=x:=by
  refine h.trans ⟨fun ⟨j,h1,h2⟩=>?_,fun ⟨c,h1,h2⟩=>?_⟩
  · have hj:j<l.length:=by omega
    refine ⟨l[j],List.getElem_mem hj,?_⟩
    unfold nth at h2
    rw [List.getElem?_eq_getElem hj] at h2
    exact h2
  · obtain ⟨j,hj,e⟩:=List.getElem_of_mem h1
    refine ⟨j,by omega,?_⟩
    unfold nth
    rw [List.getElem?_eq_getElem hj,e]
    exact h2
attribute [irreducible] dueW
theorem tick_inv {a d:List D} {f t:Bool} {x:Int} (h:[DV.a d,vb t,vn x]=m_tick a f) (hx:¬x≠0):p_node a∧gB a 2=true∧gI a 4≠2147483647∧((t=true∧¬(takesC a∧(gL a 31).length=1024)∧(gI a 3≤gI a 4+1-gI a 5∧gI a 6<65535)∧d=lateC (trnC a [dn (gI a 3),dn (gI a 4+1),dn (gI a 4+1),dn (gI a 6+1),dn (gI a 7)] f))∨(t=false∧¬(gI a 3≤gI a 4+1-gI a 5∧gI a 6<65535)∧d=lateC (setC a [dn (gI a 3),dn (gI a 4+1),dn (gI a 5),dn (gI a 6),dn (gI a 7)]))):=by
  have no:∀ {u v:List DV} {e:Int},e≠0→[DV.a d,vb t,vn x]=[DV.a (downC 0),vb false,vn e]→False:=fun {u v e} he hh=>by
    simp only [List.cons.injEq,DV.c.injEq,D.raw.injEq,Value.int.injEq,true_and,and_true] at hh
    omega
  unfold m_tick at h
  by_cases h1:p_node a
  · rw [if_neg (fun hh=>hh h1)] at h
    by_cases h2:gB a 2=false
    · rw [if_pos h2] at h;exact (no (u:=[]) (v:=[]) (by decide) h).elim
    · rw [if_neg h2] at h
      by_cases h3:gI a 4=2147483647
      · rw [if_pos h3] at h;exact (no (u:=[]) (v:=[]) (by decide) h).elim
      · rw [if_neg h3] at h
        refine ⟨h1,by simpa using h2,h3,?_⟩
        by_cases h4:gI a 3≤gI a 4+1-gI a 5∧gI a 6<65535
        · rw [if_pos h4] at h
          by_cases h5:takesC a∧(gL a 31).length=1024
          · rw [if_pos h5] at h;exact (no (u:=[]) (v:=[]) (by decide) h).elim
          · rw [if_neg h5] at h
            simp only [List.cons.injEq,DV.a.injEq,DV.c.injEq,D.raw.injEq,Value.bool.injEq,Value.int.injEq,true_and,and_true] at h
            exact .inl ⟨h.2.1,h5,h4,h.1⟩
        · rw [if_neg h4] at h
          simp only [List.cons.injEq,DV.a.injEq,DV.c.injEq,D.raw.injEq,Value.bool.injEq,Value.int.injEq,true_and,and_true] at h
          exact .inr ⟨h.2.1,h4,h.1⟩
  · rw [if_pos h1] at h;exact (no (u:=[]) (v:=[]) (by decide) h).elim
theorem tick_waits {x0 x1 x3 x4 x5 x6 x7 x10 x13 x16 x19 x21 x22 x25 x26 x28 x29:Int} {b2 b8 b11 b14 b17 b20 b24:Bool} {l9 l12 l15 l18 l23 l27 l30 l31 l32:List (List D)} {x36 x37 x39 x40 x41 x42 x43 x46 x49 x52 x55 x57 x58 x61 x62 x64 x65:Int} {b38 b44 b47 b50 b53 b56 b60:Bool} {l45 l48 l51 l54 l59 l63 l66 l67 l68:List (List D)} {f t:Bool} {x:Int} (h:[DV.a [dn x36,dn x37,db b38,dn x39,dn x40,dn x41,dn x42,dn x43,db b44,D.fs l45,dn x46,db b47,D.fs l48,dn x49,db b50,D.fs l51,dn x52,db b53,D.fs l54,dn x55,db b56,dn x57,dn x58,D.fs l59,db b60,dn x61,dn x62,D.fs l63,dn x64,dn x65,D.fs l66,D.fs l67,D.fs l68],vb t,vn x]=m_tick [dn x0,dn x1,db b2,dn x3,dn x4,dn x5,dn x6,dn x7,db b8,D.fs l9,dn x10,db b11,D.fs l12,dn x13,db b14,D.fs l15,dn x16,db b17,D.fs l18,dn x19,db b20,dn x21,dn x22,D.fs l23,db b24,dn x25,dn x26,D.fs l27,dn x28,dn x29,D.fs l30,D.fs l31,D.fs l32] f) (hx:¬x≠0):x40=x4+1∧0≤x4∧x4≤2147483646∧l32.length≤1024∧l68=leftT l32 (x4+1)∧[db b60,dn x61,dn x62]=if t=true∨(b24=true∧∃ c∈l32,gI c 0≤x4+1∧gI c 1=x25) then [db false,dn 0,dn 0] else [db b24,dn x25,dn x26]:=by
  obtain ⟨h1,h2,h3,h4⟩:=tick_inv h hx
  have h2:b2=true:=h2
  have h3:x4≠2147483647:=h3
  obtain ⟨f1,f2,f3,f4⟩:=node_f h1.1
  obtain ⟨k1,k2,k3,k4,k5,k6,k7,k8,k9,k10,k11,k12,k13,k14,k15⟩:=f4 h2
  obtain ⟨c1,c2,c3,c4,c5,c6,c7,c8,c9,c10⟩:=clock_b k3
  have hl:=timer_lim k9
  have c3':0≤x4:=by omega
  have c5':x4≤2147483646:=by omega
  rcases h4 with ⟨rfl,_,_,hd⟩ | ⟨rfl,_,hd⟩
  · have hd:[dn x36,dn x37,db b38,dn x39,dn x40,dn x41,dn x42,dn x43,db b44,D.fs l45,dn x46,db b47,D.fs l48,dn x49,db b50,D.fs l51,dn x52,db b53,D.fs l54,dn x55,db b56,dn x57,dn x58,D.fs l59,db b60,dn x61,dn x62,D.fs l63,dn x64,dn x65,D.fs l66,D.fs l67,D.fs l68]=lateC (trnC [dn x0,dn x1,db b2,dn x3,dn x4,dn x5,dn x6,dn x7,db b8,D.fs l9,dn x10,db b11,D.fs l12,dn x13,db b14,D.fs l15,dn x16,db b17,D.fs l18,dn x19,db b20,dn x21,dn x22,D.fs l23,db b24,dn x25,dn x26,D.fs l27,dn x28,dn x29,D.fs l30,D.fs l31,D.fs l32] [dn x3,dn (x4+1),dn (x4+1),dn (x6+1),dn x7] f):=hd
    have e2:nxtC [dn x0,dn x1,db b2,dn x3,dn x4,dn x5,dn x6,dn x7,db b8,D.fs l9,dn x10,db b11,D.fs l12,dn x13,db b14,D.fs l15,dn x16,db b17,D.fs l18,dn x19,db b20,dn x21,dn x22,D.fs l23,db b24,dn x25,dn x26,D.fs l27,dn x28,dn x29,D.fs l30,D.fs l31,D.fs l32] [dn x3,dn (x4+1),dn (x4+1),dn (x6+1),dn x7] f=begC x1 f (x6+1) x0∨nxtC [dn x0,dn x1,db b2,dn x3,dn x4,dn x5,dn x6,dn x7,db b8,D.fs l9,dn x10,db b11,D.fs l12,dn x13,db b14,D.fs l15,dn x16,db b17,D.fs l18,dn x19,db b20,dn x21,dn x22,D.fs l23,db b24,dn x25,dn x26,D.fs l27,dn x28,dn x29,D.fs l30,D.fs l31,D.fs l32] [dn x3,dn (x4+1),dn (x4+1),dn (x6+1),dn x7] f=zPart:=by
      unfold nxtC;split
      · exact .inl rfl
      · exact .inr rfl
    rw [if_pos (.inl rfl)]
    rcases e2 with e2 | e2
    · have e4:trnC [dn x0,dn x1,db b2,dn x3,dn x4,dn x5,dn x6,dn x7,db b8,D.fs l9,dn x10,db b11,D.fs l12,dn x13,db b14,D.fs l15,dn x16,db b17,D.fs l18,dn x19,db b20,dn x21,dn x22,D.fs l23,db b24,dn x25,dn x26,D.fs l27,dn x28,dn x29,D.fs l30,D.fs l31,D.fs l32] [dn x3,dn (x4+1),dn (x4+1),dn (x6+1),dn x7] f=[dn x0,dn x1,db b2]++[dn x3,dn (x4+1),dn (x4+1),dn (x6+1),dn x7]++begC x1 f (x6+1) x0++[db false,dn 0,dn 0]++[D.fs l27,dn x28,dn x29,D.fs l30]++[D.fs (frzC [dn x0,dn x1,db b2,dn x3,dn x4,dn x5,dn x6,dn x7,db b8,D.fs l9,dn x10,db b11,D.fs l12,dn x13,db b14,D.fs l15,dn x16,db b17,D.fs l18,dn x19,db b20,dn x21,dn x22,D.fs l23,db b24,dn x25,dn x26,D.fs l27,dn x28,dn x29,D.fs l30,D.fs l31,D.fs l32]),D.fs l32]:=by unfold trnC;rw [e2];rfl
      rw [e4,late_not rfl] at hd
      exact ⟨congrArg (fun d=>gI d 4) hd,c3',c5',hl,congrArg (fun d=>gL d 32) hd,congrArg (fun d=>(d.drop 24).take 3) hd⟩
    · have e4:trnC [dn x0,dn x1,db b2,dn x3,dn x4,dn x5,dn x6,dn x7,db b8,D.fs l9,dn x10,db b11,D.fs l12,dn x13,db b14,D.fs l15,dn x16,db b17,D.fs l18,dn x19,db b20,dn x21,dn x22,D.fs l23,db b24,dn x25,dn x26,D.fs l27,dn x28,dn x29,D.fs l30,D.fs l31,D.fs l32] [dn x3,dn (x4+1),dn (x4+1),dn (x6+1),dn x7] f=[dn x0,dn x1,db b2]++[dn x3,dn (x4+1),dn (x4+1),dn (x6+1),dn x7]++zPart++[db false,dn 0,dn 0]++[D.fs l27,dn x28,dn x29,D.fs l30]++[D.fs (frzC [dn x0,dn x1,db b2,dn x3,dn x4,dn x5,dn x6,dn x7,db b8,D.fs l9,dn x10,db b11,D.fs l12,dn x13,db b14,D.fs l15,dn x16,db b17,D.fs l18,dn x19,db b20,dn x21,dn x22,D.fs l23,db b24,dn x25,dn x26,D.fs l27,dn x28,dn x29,D.fs l30,D.fs l31,D.fs l32]),D.fs l32]:=by unfold trnC;rw [e2];rfl
      rw [e4,late_not rfl] at hd
      exact ⟨congrArg (fun d=>gI d 4) hd,c3',c5',hl,congrArg (fun d=>gL d 32) hd,congrArg (fun d=>(d.drop 24).take 3) hd⟩
  · have hd:[dn x36,dn x37,db b38,dn x39,dn x40,dn x41,dn x42,dn x43,db b44,D.fs l45,dn x46,db b47,D.fs l48,dn x49,db b50,D.fs l51,dn x52,db b53,D.fs l54,dn x55,db b56,dn x57,dn x58,D.fs l59,db b60,dn x61,dn x62,D.fs l63,dn x64,dn x65,D.fs l66,D.fs l67,D.fs l68]=lateC (setC [dn x0,dn x1,db b2,dn x3,dn x4,dn x5,dn x6,dn x7,db b8,D.fs l9,dn x10,db b11,D.fs l12,dn x13,db b14,D.fs l15,dn x16,db b17,D.fs l18,dn x19,db b20,dn x21,dn x22,D.fs l23,db b24,dn x25,dn x26,D.fs l27,dn x28,dn x29,D.fs l30,D.fs l31,D.fs l32] [dn x3,dn (x4+1),dn x5,dn x6,dn x7]):=hd
    unfold lateC at hd
    refine ⟨?_,c3',c5',hl,?_,?_⟩
    · split at hd <;> exact congrArg (fun d=>gI d 4) hd
    · split at hd <;> exact congrArg (fun d=>gL d 32) hd
    · by_cases hc:b24=true∧∃ c∈l32,gI c 0≤x4+1∧gI c 1=x25
      · rw [if_pos (.inr hc)]
        split at hd
        · exact congrArg (fun d=>(d.drop 24).take 3) hd
        · rename_i hn;exact (hn hc).elim
      · rw [if_neg (fun h=>hc (h.resolve_left (by decide)))]
        split at hd
        · rename_i hn;exact (hc hn).elim
        · exact congrArg (fun d=>(d.drop 24).take 3) hd
theorem waits_b {t b o d:Bool} {E:Prop} {n u x y:Int} {i:Decidable (t=true∨b=true∧E)} (hd:d=true↔E) (h:([db o,dn n,dn u]:List D)=@ite _ (t=true∨b=true∧E) i [db false,dn 0,dn 0] [db b,dn x,dn y]):o=(b && !d && !t)∧(o=true→n=x∧u=y):=by
  by_cases hc:t=true∨b=true∧E
  · rw [if_pos hc] at h
    obtain ⟨rfl,rfl,rfl⟩:=wt_inj h
    refine ⟨?_,fun h=>Bool.noConfusion h⟩
    rcases hc with rfl | ⟨rfl,he⟩
    · simp
    · rw [hd.2 he];simp
  · rw [if_neg hc] at h
    obtain ⟨rfl,rfl,rfl⟩:=wt_inj h
    refine ⟨?_,fun _=>⟨rfl,rfl⟩⟩
    cases t
    · cases o
      · rfl
      · cases d
        · rfl
        · exact absurd (.inr ⟨rfl,hd.1 rfl⟩) hc
    · exact absurd (.inl rfl) hc
theorem left_len {l:List (List D)} {k:Int}:(leftT l k).length≤l.length:=List.length_filter_le _ _
theorem left_gt {l:List (List D)} {k u v:Int} {i:Nat} (h:(leftT l k)[i]?=some [dn u,dn v]):k<u:=of_decide_eq_true (List.mem_filter.1 (List.mem_of_getElem? h)).2
end Go.Vc

namespace Go.Vc
open Classical
noncomputable def f_epochCheck (aa:List DV):List DV:=[vn (if p_clock (ai aa 0) then 0 else 8)]
noncomputable def t_epochCheck:ConT:=⟨[rkS clockS],[kn],fun aa=>DShs clockS (ai aa 0),fun aa rs=>rs=f_epochCheck aa⟩
theorem fn_epochCheck:∀ aa,t_epochCheck.pre aa→∀ rs,t_epochCheck.post aa rs→rs=f_epochCheck aa:=fun _ _ _ h=>h
noncomputable def V_epochCheck:Prop:=∀ (x0 x1 x2 x3 x4:Int),Ob (DShs clockS [dn x0,dn x1,dn x2,dn x3,dn x4])→∀ (R:List DV→Prop),Ob (∀ (res:List DV),res=[vn (if p_clock [dn x0,dn x1,dn x2,dn x3,dn x4] then (0:Int) else (8:Int))]→R res)→(x0<(1:Int)→Ob (R [vn (8:Int)]))∧(¬x0<(1:Int)→(x0>(64:Int)→Ob (R [vn (8:Int)]))∧(¬x0>(64:Int)→(x2<(0:Int)→Ob (R [vn (8:Int)]))∧(¬x2<(0:Int)→(x2>x1→Ob (R [vn (8:Int)]))∧(¬x2>x1→(x1>(2147483647:Int)→Ob (R [vn (8:Int)]))∧(¬x1>(2147483647:Int)→(x3<(0:Int)→Ob (R [vn (8:Int)]))∧(¬x3<(0:Int)→(x3>(65535:Int)→Ob (R [vn (8:Int)]))∧(¬x3>(65535:Int)→(x4<(0:Int)→Ob (R [vn (8:Int)]))∧(¬x4<(0:Int)→(x4>(65536:Int)→Ob (R [vn (8:Int)]))∧(¬x4>(65536:Int)→∀ (x6:Int),x6=w64 (x1-x2)→(x6≥x0→(x3≠(65535:Int)→Ob (R [vn (8:Int)]))∧(¬x3≠(65535:Int)→Ob (R [vn (0:Int)])))∧(¬x6≥x0→Ob (R [vn (0:Int)])))))))))))
set_option maxRecDepth 100000 in
theorem vcEq_epochCheck:vcFn Go.Proofs.Tryz.prog k0 (cxf [] [] [] []) 3000 109 Go.Proofs.Tryz.f109 (bodyOf Go.Proofs.Tryz.f109) t_epochCheck=V_epochCheck:=by kernel_rfl
set_option maxHeartbeats 4000000 in
set_option maxRecDepth 20000 in
theorem vcPf_epochCheck:V_epochCheck:=by
  delta V_epochCheck
  simp only [ob_iff,and_imp,List.cons_append,List.nil_append,dshs_cons,dshs_nil,dsh_int,dsh_bool,dsh_sl,rng64,rng32,true_and,and_true,List.cons.injEq,DV.c.injEq,DV.a.injEq,D.raw.injEq,D.fs.injEq,Value.bool.injEq,Value.int.injEq]
  repeat' first | assumption | exact DShs.tail (DSh_nth (by assumption) (by assumption)) | exact shp32 (by assumption) | exact shp64 (by assumption) | exact shp2 (by assumption) | exact shpF (by assumption) | with_reducible intro _ | with_reducible apply And.intro
  all_goals (try (have e:=w64_id' ‹_=w64 (_-_)› (by omega) (by omega);subst e))
  all_goals first
    | assumption
    | omega
    | (apply ‹∀ res:List DV,_=_→_›;simp [p_clock,gI];try omega)
theorem con_epochCheck:Con Go.Proofs.Tryz.prog k0 109 t_epochCheck :=
  con_of (cxf_ok mixOk (fun p hp=>by cases hp) (fun p hp=>by cases hp)) Go.Proofs.Tryz.func109 rfl rfl rfl rfl vcEq_epochCheck vcPf_epochCheck
end Go.Vc
