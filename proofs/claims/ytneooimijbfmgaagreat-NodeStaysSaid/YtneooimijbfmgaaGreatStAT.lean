
import Derived.Test.YtneooimijbfmgaaGreatStAS
set_option linter.unusedVariables false
set_option linter.unusedSimpArgs false
set_option linter.unusedSectionVars false
noncomputable section
namespace Go.Vc
open Classical
def othD (own:Int) (l:LL) (k:Nat):Prop:=nth l k 0≠own
theorem othD_no {own x:Int} {l:LL} {k:Int} {cs:List D} (hk:l[k.toNat]?=some (.raw (.int .i64 x)::cs)) (h:x=own):¬othD own l k.toNat:=fun hh=>hh ((nth_c hk).trans h)
theorem othD_yes {own x:Int} {l:LL} {k:Int} {cs:List D} (hk:l[k.toNat]?=some (.raw (.int .i64 x)::cs)) (h:¬x=own):othD own l k.toNat:=fun hh=>h ((nth_c hk).symm.trans hh)
theorem flt_all {own n:Int} {l:LL} (hu:upto (othD own l) n) (hn:¬n<(l.length:Int)):fltD own l=l:=by
 unfold fltD
 rw [show (fun k=>nth l k 0≠own)=othD own l from rfl,kpL.all (Nat.le_refl _) (fun k hk=>hu k (by omega)),List.take_length]
theorem flt_some {own x y:Int} {l p r:LL} (hd:delI (othD own l) l p x y) (hy:¬y<(p.length:Int)):(p.take x.toNat++r).take x.toNat=fltD own l:=by
 have hb:=hd.b
 rw [clr_take (by omega),hd.fin (by omega)]
 rfl
theorem flt_len {own:Int} {l:LL}:(fltD own l).length≤l.length:=kpL.le _ _ _
theorem flt_ls {own:Int} {l:LL} (h:LS pairS l):LS pairS (fltD own l) := .mk (by have:=h.len;have:=flt_len (own:=own) (l:=l);omega) fun c hc=>h.els c (kpL.mem (Nat.le_refl _) c hc)
theorem best_out {l r:LL} {x:Int} (h:[vl r,vn x]=m_best l):(x≠0→e_desc l≠0)∧(x=0→e_desc l=0∧r=bestL l):=by
 unfold m_best at h
 by_cases h0:e_desc l=0
 ·rw [if_neg (fun hh=>hh h0)] at h
  simp only [List.cons.injEq,DV.c.injEq,D.raw.injEq,D.fs.injEq,Value.int.injEq,true_and,and_true] at h
  exact ⟨fun hx=>absurd h.2 hx,fun _=>⟨h0,h.1⟩⟩
 ·rw [if_pos h0] at h
  simp only [List.cons.injEq,DV.c.injEq,D.raw.injEq,D.fs.injEq,Value.int.injEq,true_and,and_true] at h
  exact ⟨fun _=>h0,fun hx=>absurd (h.2.symm.trans hx) h0⟩
theorem cc_no {a b:Int} {l:LL} (h:¬p_cacheB [dn a,dn b, .fs l]):([vn 8]:List DV)=[vn (if p_cacheB [dn a,dn b, .fs l] then 0 else 8)]:=by rw [if_neg h]
theorem cc_yes {a b:Int} {l:LL} (h:p_cacheB [dn a,dn b, .fs l]):([vn 0]:List DV)=[vn (if p_cacheB [dn a,dn b, .fs l] then 0 else 8)]:=by rw [if_pos h]
theorem cb_arg {a b:Int} {l:LL} (h:¬(0≤a∧a≤7∧1≤b∧b≤6∧(l.length:Int)≤b)):¬p_cacheB [dn a,dn b, .fs l]:=fun hh=>h ⟨hh.1,hh.2.1,hh.2.2.1,hh.2.2.2.1,hh.2.2.2.2.1⟩
theorem cb_best {a b x:Int} {l q r:LL} (hq:q=fltD a l) (hb:[vl r,vn x]=m_best q) (h:x≠0):¬p_cacheB [dn a,dn b, .fs l]:=fun hh=>by
 have:=(best_out hb).1 h
 rw [hq] at this
 exact this hh.2.2.2.2.2.1
theorem cb_same {a b x:Int} {l q r:LL} (hq:q=fltD a l) (hb:[vl r,vn x]=m_best q) (h:x=0) (hs:decide (r=l)=false):¬p_cacheB [dn a,dn b, .fs l]:=fun hh=>by
 have h1:=(best_out hb).2 h
 have h2:=of_decide_eq_false hs
 rw [hq] at h1
 exact h2 (h1.2.trans hh.2.2.2.2.2.2)
theorem cb_ok {a b x:Int} {l q r:LL} (h0:0≤a∧a≤7∧1≤b∧b≤6∧(l.length:Int)≤b) (hq:q=fltD a l) (hb:[vl r,vn x]=m_best q) (h:x=0) (hs:¬decide (r=l)=false):p_cacheB [dn a,dn b, .fs l]:=by
 have h1:=(best_out hb).2 h
 have h2:r=l:=by
  by_cases e:r=l
  ·exact e
  ·exact absurd (decide_eq_false e) hs
 rw [hq] at h1
 exact ⟨h0.1,h0.2.1,h0.2.2.1,h0.2.2.2.1,h0.2.2.2.2,h1.1,h1.2.symm.trans h2⟩
theorem flt_nil {own:Int}:fltD own []=[]:=rfl
theorem best_ls {own x:Int} {l q r:LL} (hq:q=fltD own l) (hb:[vl r,vn x]=m_best q) (hn:l.length≤9223372036854775807) (hs:LS pairS l):LSh pairS r:=by
 by_cases h:x=0
 ·have h1:=((best_out hb).2 h).2
  have hq2:LS pairS q:=hq▸flt_ls hs
  have e:(kpL (fstD (srtD q)) (srtD q) q.length).length≤q.length:=kpL.le _ _ _
  have e2:=hq2.len
  have hm:∀ c∈r,DShs pairS c:=fun c hc=>by
   rw [h1] at hc
   exact (srtD.ls hq2).els c (kpL.mem (by rw [(srtD.perm q).length_eq];exact Nat.le_refl _) c hc)
  have e3:r.length≤9223372036854775807:=by rw [h1];exact Nat.le_trans e e2
  exact ⟨e3, .mk e3 hm⟩
 ·have h1:=(best_out hb).1 h
  unfold m_best at hb
  rw [if_pos h1] at hb
  simp only [List.cons.injEq,DV.c.injEq,D.fs.injEq] at hb
  rw [hb.1]
  exact ⟨by simp,ls_nil⟩
end Go.Vc

namespace Go.Vc
open Classical
theorem nc_no {c:List D} (h:¬p_node c):([vn 8]:List DV)=[vn (if p_node c then 0 else 8)]:=by rw [if_neg h]
theorem nc_yes {c:List D} (h:p_node c):([vn 0]:List DV)=[vn (if p_node c then 0 else 8)]:=by rw [if_pos h]
end Go.Vc

namespace Go.Vc
open Classical
def o_plF (l:LL) (e i x:Int):Prop:=(x=0→e_past l=0∧0≤e∧e≤65535∧0≤i∧i≤(l.length:Int)∧ahd l e i i)∧(x≠0→(e_past l≠0∧x=e_past l)∨(e_past l=0∧¬(0≤e∧e≤65535)∧x=2))
theorem o_plF.e1 {l:LL} {e i x:Int} (h:x≠0) (hx:x=e_past l):o_plF l e i x:=⟨fun e=>absurd e h,fun _=>.inl ⟨hx▸h,hx⟩⟩
theorem o_plF.e2 {l:LL} {e i:Int} (hx:e_past l=0) (h:¬(0≤e∧e≤65535)):o_plF l e i 2:=⟨fun e=>absurd e (by decide),fun _=>.inr ⟨hx,h,rfl⟩⟩
theorem o_plF.yes {l:LL} {e i j:Int} (h1:e_past l=0) (h2:0≤e) (h3:e≤65535) (h4:0≤i) (h5:j≤(l.length:Int)) (h6:ahd l e i j) (h7:¬i<j) (h8:i≤j):o_plF l e i 0:=⟨fun _=>⟨h1,h2,h3,h4,by omega,(by have e:i=j:=(by omega);subst e;exact h6)⟩,fun h=>absurd rfl h⟩
theorem o_plF.get {l:LL} {e i x:Int} (h:o_plF l e i x) (h0:¬x≠0):e_past l=0∧0≤e∧e≤65535∧0≤i∧i≤(l.length:Int)∧ahd l e i i:=h.1 (Decidable.not_not.1 h0)
theorem frz_pl {l:LL} {e i x:Int} {p:List D} (h:o_plF l e i x) (h0:x≠0):[vl [],vn x]=m_frz l e p:=by
 unfold m_frz
 rcases h.2 h0 with ⟨h1,h2⟩ | ⟨h1,h2,h3⟩
 ·rw [if_pos h1,h2]
 ·rw [if_neg (fun hh=>hh h1),if_pos h2,h3]
theorem frz_bad {l:LL} {e:Int} {p:List D} (h1:e_past l=0) (h2:0≤e) (h3:e≤65535) (h4:¬p_part p):[vl [],vn 8]=m_frz l e p:=by
 unfold m_frz
 rw [if_neg (fun hh=>hh h1),if_neg (fun hh=>hh ⟨h2,h3⟩),if_pos h4]
theorem frz_again {l:LL} {e i:Int} {p:List D} (h1:e_past l=0) (h2:0≤e) (h3:e≤65535) (h4:p_part p) (h5:ahd l e i i) (h6:0≤i) (h7:i<(l.length:Int)):[vl [],vn 12]=m_frz l e p:=by
 unfold m_frz
 rw [if_neg (fun hh=>hh h1),if_neg (fun hh=>hh ⟨h2,h3⟩),if_neg (fun hh=>hh h4),if_pos]
 intro hh
 have a:=hh i.toNat (by omega)
 have b:=ahd.at h5 h6 h7
 omega
theorem frz_full {l:LL} {e i:Int} {p:List D} (h1:e_past l=0) (h2:0≤e) (h3:e≤65535) (h4:p_part p) (h5:ahd l e i i) (h7:¬i<(l.length:Int)) (h8:l.length=1024):[vl [],vn 9]=m_frz l e p:=by
 unfold m_frz
 rw [if_neg (fun hh=>hh h1),if_neg (fun hh=>hh ⟨h2,h3⟩),if_neg (fun hh=>hh h4),if_neg (fun hh=>hh (ahd.all h5 h7)),if_pos h8]
theorem frz_ok {l:LL} {e i:Int} {p:List D} (h1:e_past l=0) (h2:0≤e) (h3:e≤65535) (h4:p_part p) (h5:ahd l e i i) (h7:¬i<(l.length:Int)) (h8:l.length≠1024):[vl (l++[dn e::p]),vn 0]=m_frz l e p:=by
 unfold m_frz
 rw [if_neg (fun hh=>hh h1),if_neg (fun hh=>hh ⟨h2,h3⟩),if_neg (fun hh=>hh h4),if_neg (fun hh=>hh (ahd.all h5 h7)),if_neg h8]
attribute [irreducible] o_plF
end Go.Vc

namespace Go.Vc
open Classical
def wtI (tn b:Bool) (x y:Int) (due:LL) (i:Int) (o:Bool) (n t:Int):Prop:=[db o,dn n,dn t]=if tn=true∨(b=true∧∃ j<i.toNat,nth due j 1=x) then [db false,dn 0,dn 0] else [db b,dn x,dn y]
theorem wtI.zt {b:Bool} {x y:Int} {due:LL}:wtI true b x y due 0 false 0 0:=by unfold wtI;rw [if_pos (.inl rfl)]
theorem wtI.zf {b:Bool} {x y:Int} {due:LL}:wtI false b x y due 0 b x y:=by
 unfold wtI;rw [if_neg]
 rintro (h | ⟨_,j,h,_⟩)
 ·cases h
 ·exact absurd h (by simp)
theorem wt_inj {o b:Bool} {n t x y:Int} (h:([db o,dn n,dn t]:List D)=[db b,dn x,dn y]):o=b∧n=x∧t=y:=by
 simp only [List.cons.injEq,D.raw.injEq,Value.bool.injEq,Value.int.injEq,true_and,and_true] at h
 exact h
theorem nth_at {l:LL} {k:Nat} {x y:Int} (h:l[k]?=some [dn x,dn y]):nth l k 1=y:=(nth_2 h).2
theorem wtI.hit {tn b:Bool} {x y i k:Int} {due:LL} {n t u v:Int} (h:wtI tn b x y due i true n t) (h0:0≤i) (hk:due[i.toNat]?=some [dn u,dn v]) (hv:v=n) (he:k=i+1):wtI tn b x y due k false 0 0:=by
 unfold wtI at *
 by_cases hc:tn=true∨(b=true∧∃ j<i.toNat,nth due j 1=x)
 ·rw [if_pos hc] at h;have:=(wt_inj h).1;cases this
 ·rw [if_neg hc] at h
  obtain ⟨h1,h2,h3⟩:=wt_inj h
  rw [if_pos]
  exact .inr ⟨h1.symm,i.toNat,by omega,by rw [nth_at hk];omega⟩
theorem wtI.miss {tn b:Bool} {x y i k:Int} {due:LL} {n t u v:Int} (h:wtI tn b x y due i true n t) (h0:0≤i) (hk:due[i.toNat]?=some [dn u,dn v]) (hv:¬v=n) (he:k=i+1):wtI tn b x y due k true n t:=by
 unfold wtI at *
 by_cases hc:tn=true∨(b=true∧∃ j<i.toNat,nth due j 1=x)
 ·rw [if_pos hc] at h;have:=(wt_inj h).1;cases this
 ·rw [if_neg hc] at h
  obtain ⟨h1,h2,h3⟩:=wt_inj h
  rw [if_neg,←h]
  rintro (h4 | ⟨h5,j,hj,h6⟩)
  ·exact hc (.inl h4)
  ·by_cases e:j=i.toNat
   ·subst e;rw [nth_at hk] at h6;omega
   ·exact hc (.inr ⟨h5,j,by omega,h6⟩)
theorem wtI.off {tn b:Bool} {x y i k:Int} {due:LL} {n t:Int} (h:wtI tn b x y due i false n t) (h0:0≤i) (he:k=i+1):wtI tn b x y due k false n t:=by
 unfold wtI at *
 by_cases hc:tn=true∨(b=true∧∃ j<i.toNat,nth due j 1=x)
 ·rw [if_pos hc] at h
  rw [if_pos,←h]
  rcases hc with hc | ⟨h1,j,h2,h3⟩
  ·exact .inl hc
  ·exact .inr ⟨h1,j,by omega,h3⟩
 ·rw [if_neg hc] at h
  obtain ⟨h1,h2,h3⟩:=wt_inj h
  rw [if_neg,←h]
  rintro (h4 | ⟨h5,_⟩)
  ·exact hc (.inl h4)
  ·rw [←h1] at h5;cases h5
theorem wtI.tt {b:Bool} {x y i:Int} {due:LL} {o:Bool} {n t:Int} (h:wtI true b x y due i o n t):o=false∧n=0∧t=0:=by
 unfold wtI at h;rw [if_pos (.inl rfl)] at h;exact wt_inj h
theorem due_mem {l:LL} {k x:Int} {i:Int} (hi:¬i<((dueT l k).length:Int)):(∃ j<i.toNat,j<(dueT l k).length∧nth (dueT l k) j 1=x)↔∃ c∈l,gI c 0≤k∧gI c 1=x:=by
 constructor
 ·rintro ⟨j,_,hj,h⟩
  have hm:=List.getElem_mem hj
  have hm2:(dueT l k)[j]∈l∧gI (dueT l k)[j] 0≤k:=by
   have:=List.mem_filter.1 hm
   exact ⟨this.1,of_decide_eq_true this.2⟩
  unfold nth at h
  rw [List.getElem?_eq_getElem hj] at h
  exact ⟨_,hm2.1,hm2.2,h⟩
 ·rintro ⟨c,h1,h2,h3⟩
  have hm:c∈dueT l k:=List.mem_filter.2 ⟨h1,decide_eq_true h2⟩
  obtain ⟨j,hj,e⟩:=List.getElem_of_mem hm
  refine ⟨j,by omega,hj,?_⟩
  unfold nth
  rw [List.getElem?_eq_getElem hj,e]
  exact h3
theorem wtI.ff {b:Bool} {x y i k:Int} {l:LL} {o:Bool} {n t:Int} (h:wtI false b x y (dueT l k) i o n t) (hi:¬i<((dueT l k).length:Int)) (hi2:i≤((dueT l k).length:Int)):[db o,dn n,dn t]=if b=true∧∃ c∈l,gI c 0≤k∧gI c 1=x then [db false,dn 0,dn 0] else [db b,dn x,dn y]:=by
 unfold wtI at h
 rw [h]
 have e:(∃ j<i.toNat,nth (dueT l k) j 1=x)↔∃ c∈l,gI c 0≤k∧gI c 1=x:=by
  rw [←due_mem hi]
  exact ⟨fun ⟨j,h1,h2⟩=>⟨j,h1,by omega,h2⟩,fun ⟨j,h1,_,h2⟩=>⟨j,h1,h2⟩⟩
 by_cases hc:b=true∧∃ c∈l,gI c 0≤k∧gI c 1=x
 ·rw [if_pos hc,if_pos (.inr ⟨hc.1,e.2 hc.2⟩)]
 ·rw [if_neg hc,if_neg]
  rintro (h4 | ⟨h5,h6⟩)
  ·cases h4
  ·exact hc ⟨h5,e.1 h6⟩
theorem due_out {l a b:LL} {k x:Int} (h:[vl a,vl b,vn x]=m_due l k) (h0:e_timer l=0) (h1:0≤k) (h2:k≤2147483647):a=dueT l k∧b=leftT l k∧x=0:=by
 unfold m_due at h
 rw [if_neg (fun hh=>hh h0),if_neg (fun hh=>hh ⟨h1,h2⟩)] at h
 simp only [List.cons.injEq,DV.c.injEq,D.raw.injEq,D.fs.injEq,Value.int.injEq,true_and,and_true] at h
 exact h
theorem frzF_out {e x:Int} {p:List D} {l r:LL} (h:[vl r,vn x]=m_frz l e p) (h0:0≤e) (h1:e≤65535) (hl:e_past l=0) (hp:p_part p) (hr:0<l.length→nth l (l.length-1) 0<e):(x=9∧l.length=1024)∨(x=0∧l.length≠1024∧r=l++[dn e::p]):=by
 have hb:∀ i:Nat,i<l.length→nth l i 0<e:=fun i hi=>by
  have h2:=hr (by omega)
  by_cases he:i=l.length-1
  ·rw [he];exact h2
  ·have:=ris_past hl i (l.length-1) (by omega) (by omega);omega
 unfold m_frz at h
 rw [if_neg (fun hh=>hh hl),if_neg (fun hh=>hh ⟨h0,h1⟩),if_neg (fun hh=>hh hp),if_neg (fun hh=>hh hb)] at h
 by_cases hx:l.length=1024
 ·rw [if_pos hx] at h
  simp only [List.cons.injEq,DV.c.injEq,D.raw.injEq,D.fs.injEq,Value.int.injEq,true_and,and_true] at h
  exact .inl ⟨h.2,hx⟩
 ·rw [if_neg hx] at h
  simp only [List.cons.injEq,DV.c.injEq,D.raw.injEq,D.fs.injEq,Value.int.injEq,true_and,and_true] at h
  exact .inr ⟨h.2,hx,h.1⟩
theorem tick_no {a:List D} {f:Bool} (h:¬p_node a):[.a (downC 0),vb false,vn 8]=m_tick a f:=by unfold m_tick;rw [if_pos h]
theorem tick_noE {a:List D} {f:Bool} (h:(if p_node a then (0:Int) else 8)≠0):[.a (downC 0),vb false,vn (if p_node a then 0 else 8)]=m_tick a f:=by rw [if_neg (if8 h)];exact tick_no (if8 h)
theorem tick_down {a:List D} {f:Bool} (h:p_node a) (h2:gB a 2=false):[.a (downC 0),vb false,vn 14]=m_tick a f:=by unfold m_tick;rw [if_neg (fun hh=>hh h),if_pos h2]
theorem tick_max {a:List D} {f:Bool} (h:p_node a) (h2:gB a 2=true) (h3:gI a 4=2147483647):[.a (downC 0),vb false,vn 10]=m_tick a f:=by unfold m_tick;rw [if_neg (fun hh=>hh h),if_neg (by rw [h2];decide),if_pos h3]
theorem tick_full {a:List D} {f:Bool} (h:p_node a) (h2:gB a 2=true) (h3:gI a 4≠2147483647) (h4:gI a 3≤gI a 4+1-gI a 5∧gI a 6<65535) (h5:takesC a∧(gL a 31).length=1024):[.a (downC 0),vb false,vn 9]=m_tick a f:=by unfold m_tick;rw [if_neg (fun hh=>hh h),if_neg (by rw [h2];decide),if_neg h3,if_pos h4,if_pos h5]
theorem tick_turn {a:List D} {f:Bool} (h:p_node a) (h2:gB a 2=true) (h3:gI a 4≠2147483647) (h4:gI a 3≤gI a 4+1-gI a 5∧gI a 6<65535) (h5:¬(takesC a∧(gL a 31).length=1024)):m_tick a f=[.a (lateC (trnC a [dn (gI a 3),dn (gI a 4+1),dn (gI a 4+1),dn (gI a 6+1),dn (gI a 7)] f)),vb true,vn 0]:=by unfold m_tick;rw [if_neg (fun hh=>hh h),if_neg (by rw [h2];decide),if_neg h3,if_pos h4,if_neg h5]
theorem tick_stay {a:List D} {f:Bool} (h:p_node a) (h2:gB a 2=true) (h3:gI a 4≠2147483647) (h4:¬(gI a 3≤gI a 4+1-gI a 5∧gI a 6<65535)):m_tick a f=[.a (lateC (setC a [dn (gI a 3),dn (gI a 4+1),dn (gI a 5),dn (gI a 6),dn (gI a 7)])),vb false,vn 0]:=by unfold m_tick;rw [if_neg (fun hh=>hh h),if_neg (by rw [h2];decide),if_neg h3,if_neg h4]
theorem tickL_stay {x0 x1 x3 x4 x5 x6 x7 x10 x13 x16 x19 x21 x22 x25 x26 x28 x29:Int} {b8 b11 b14 b17 b20 b24:Bool} {l9 l12 l15 l18 l23 l27 l30 l31 l32:LL} {f o:Bool} {n t i:Int} (h:p_node [dn x0,dn x1,db true,dn x3,dn x4,dn x5,dn x6,dn x7,db b8,D.fs l9,dn x10,db b11,D.fs l12,dn x13,db b14,D.fs l15,dn x16,db b17,D.fs l18,dn x19,db b20,dn x21,dn x22,D.fs l23,db b24,dn x25,dn x26,D.fs l27,dn x28,dn x29,D.fs l30,D.fs l31,D.fs l32]) (h3:x4≠2147483647) (h4:¬(x3≤x4+1-x5∧x6<65535)) (hw:wtI false b24 x25 x26 (dueT l32 (x4+1)) i o n t) (hi:¬i<((dueT l32 (x4+1)).length:Int)) (hi2:i≤((dueT l32 (x4+1)).length:Int)):[DV.a ([dn x0,dn x1,db true]++[dn x3,dn (x4+1),dn x5,dn x6,dn x7]++[db b8,D.fs l9,dn x10,db b11,D.fs l12,dn x13,db b14,D.fs l15,dn x16,db b17,D.fs l18,dn x19,db b20,dn x21,dn x22,D.fs l23]++[db o,dn n,dn t]++[D.fs l27,dn x28,dn x29,D.fs l30,D.fs l31]++[D.fs (leftT l32 (x4+1))]),vb false,vn 0]=m_tick [dn x0,dn x1,db true,dn x3,dn x4,dn x5,dn x6,dn x7,db b8,D.fs l9,dn x10,db b11,D.fs l12,dn x13,db b14,D.fs l15,dn x16,db b17,D.fs l18,dn x19,db b20,dn x21,dn x22,D.fs l23,db b24,dn x25,dn x26,D.fs l27,dn x28,dn x29,D.fs l30,D.fs l31,D.fs l32] f:=by
 rw [tick_stay h rfl h3 h4,hw.ff hi hi2]
 unfold lateC
 by_cases hc:b24=true∧∃ c∈l32,gI c 0≤x4+1∧gI c 1=x25
 ·rw [if_pos hc]
  split
  ·rfl
  ·rename_i hn;exact (hn hc).elim
 ·rw [if_neg hc]
  split
  ·rename_i hn;exact (hc hn).elim
  ·rfl
theorem tickL_tt {x0 x1 x3 x4 x5 x6 x7 x10 x13 x16 x19 x21 x22 x25 x26 x28 x29:Int} {b8 b11 b14 b17 b20 b24:Bool} {l9 l12 l15 l18 l23 l27 l30 l31 l32:LL} {f o:Bool} {n t i:Int} {l due:LL} (h:p_node [dn x0,dn x1,db true,dn x3,dn x4,dn x5,dn x6,dn x7,db b8,D.fs l9,dn x10,db b11,D.fs l12,dn x13,db b14,D.fs l15,dn x16,db b17,D.fs l18,dn x19,db b20,dn x21,dn x22,D.fs l23,db b24,dn x25,dn x26,D.fs l27,dn x28,dn x29,D.fs l30,D.fs l31,D.fs l32]) (h3:x4≠2147483647) (h4:x3≤x4+1-x5∧x6<65535) (h5:x7≤x6) (h6:l31.length≠1024) (hls:LSh [s32] l) (hl:p_tags (x6+1) x0 l) (hw:wtI true b24 x25 x26 due i o n t):[DV.a ([dn x0,dn x1,db true]++[dn x3,dn (x4+1),dn (x4+1),dn (x6+1),dn x7]++(massOf x1 f++[db true,dn x1,dn x1,D.fs l])++[db o,dn n,dn t]++[D.fs l27,dn x28,dn x29,D.fs l30]++[D.fs (l31++[dn x6::[db b8,D.fs l9,dn x10,db b11,D.fs l12,dn x13,db b14,D.fs l15,dn x16,db b17,D.fs l18,dn x19,db b20,dn x21,dn x22,D.fs l23]]),D.fs (leftT l32 (x4+1))]),vb true,vn 0]=m_tick [dn x0,dn x1,db true,dn x3,dn x4,dn x5,dn x6,dn x7,db b8,D.fs l9,dn x10,db b11,D.fs l12,dn x13,db b14,D.fs l15,dn x16,db b17,D.fs l18,dn x19,db b20,dn x21,dn x22,D.fs l23,db b24,dn x25,dn x26,D.fs l27,dn x28,dn x29,D.fs l30,D.fs l31,D.fs l32] f:=by
 obtain ⟨rfl,rfl,rfl⟩:=hw.tt
 rw [tick_turn h rfl h3 h4 (fun hh=>h6 hh.2)]
 have e1:frzC [dn x0,dn x1,db true,dn x3,dn x4,dn x5,dn x6,dn x7,db b8,D.fs l9,dn x10,db b11,D.fs l12,dn x13,db b14,D.fs l15,dn x16,db b17,D.fs l18,dn x19,db b20,dn x21,dn x22,D.fs l23,db b24,dn x25,dn x26,D.fs l27,dn x28,dn x29,D.fs l30,D.fs l31,D.fs l32]=(l31++[dn x6::[db b8,D.fs l9,dn x10,db b11,D.fs l12,dn x13,db b14,D.fs l15,dn x16,db b17,D.fs l18,dn x19,db b20,dn x21,dn x22,D.fs l23]]):=if_pos h5
 have e2:nxtC [dn x0,dn x1,db true,dn x3,dn x4,dn x5,dn x6,dn x7,db b8,D.fs l9,dn x10,db b11,D.fs l12,dn x13,db b14,D.fs l15,dn x16,db b17,D.fs l18,dn x19,db b20,dn x21,dn x22,D.fs l23,db b24,dn x25,dn x26,D.fs l27,dn x28,dn x29,D.fs l30,D.fs l31,D.fs l32] [dn x3,dn (x4+1),dn (x4+1),dn (x6+1),dn x7] f=(massOf x1 f++[db true,dn x1,dn x1,D.fs l]):=(if_pos (show x7≤x6+1 by omega)).trans (by unfold begC;rw [tagsL_eq hls hl];rfl)
 have e3:trnC [dn x0,dn x1,db true,dn x3,dn x4,dn x5,dn x6,dn x7,db b8,D.fs l9,dn x10,db b11,D.fs l12,dn x13,db b14,D.fs l15,dn x16,db b17,D.fs l18,dn x19,db b20,dn x21,dn x22,D.fs l23,db b24,dn x25,dn x26,D.fs l27,dn x28,dn x29,D.fs l30,D.fs l31,D.fs l32] [dn x3,dn (x4+1),dn (x4+1),dn (x6+1),dn x7] f=[dn x0,dn x1,db true]++[dn x3,dn (x4+1),dn (x4+1),dn (x6+1),dn x7]++(massOf x1 f++[db true,dn x1,dn x1,D.fs l])++[db false,dn 0,dn 0]++[D.fs l27,dn x28,dn x29,D.fs l30]++[D.fs (l31++[dn x6::[db b8,D.fs l9,dn x10,db b11,D.fs l12,dn x13,db b14,D.fs l15,dn x16,db b17,D.fs l18,dn x19,db b20,dn x21,dn x22,D.fs l23]]),D.fs l32]:=by
  unfold trnC;rw [e1,e2];rfl
 show _=[DV.a (lateC (trnC _ [dn x3,dn (x4+1),dn (x4+1),dn (x6+1),dn x7] f)),_,_]
 rw [e3]
 unfold lateC
 rw [if_neg (fun hh=>Bool.noConfusion (show false=true from hh.1))]
 rfl
theorem tickL_ft {x0 x1 x3 x4 x5 x6 x7 x10 x13 x16 x19 x21 x22 x25 x26 x28 x29:Int} {b8 b11 b14 b17 b20 b24:Bool} {l9 l12 l15 l18 l23 l27 l30 l31 l32:LL} {f o:Bool} {n t i:Int} {l due:LL} (h:p_node [dn x0,dn x1,db true,dn x3,dn x4,dn x5,dn x6,dn x7,db b8,D.fs l9,dn x10,db b11,D.fs l12,dn x13,db b14,D.fs l15,dn x16,db b17,D.fs l18,dn x19,db b20,dn x21,dn x22,D.fs l23,db b24,dn x25,dn x26,D.fs l27,dn x28,dn x29,D.fs l30,D.fs l31,D.fs l32]) (h3:x4≠2147483647) (h4:x3≤x4+1-x5∧x6<65535) (h5:¬x7≤x6) (h7:x7≤x6+1) (hls:LSh [s32] l) (hl:p_tags (x6+1) x0 l) (hw:wtI true b24 x25 x26 due i o n t):[DV.a ([dn x0,dn x1,db true]++[dn x3,dn (x4+1),dn (x4+1),dn (x6+1),dn x7]++(massOf x1 f++[db true,dn x1,dn x1,D.fs l])++[db o,dn n,dn t]++[D.fs l27,dn x28,dn x29,D.fs l30]++[D.fs l31,D.fs (leftT l32 (x4+1))]),vb true,vn 0]=m_tick [dn x0,dn x1,db true,dn x3,dn x4,dn x5,dn x6,dn x7,db b8,D.fs l9,dn x10,db b11,D.fs l12,dn x13,db b14,D.fs l15,dn x16,db b17,D.fs l18,dn x19,db b20,dn x21,dn x22,D.fs l23,db b24,dn x25,dn x26,D.fs l27,dn x28,dn x29,D.fs l30,D.fs l31,D.fs l32] f:=by
 obtain ⟨rfl,rfl,rfl⟩:=hw.tt
 rw [tick_turn h rfl h3 h4 (fun hh=>h5 hh.1)]
 have e1:frzC [dn x0,dn x1,db true,dn x3,dn x4,dn x5,dn x6,dn x7,db b8,D.fs l9,dn x10,db b11,D.fs l12,dn x13,db b14,D.fs l15,dn x16,db b17,D.fs l18,dn x19,db b20,dn x21,dn x22,D.fs l23,db b24,dn x25,dn x26,D.fs l27,dn x28,dn x29,D.fs l30,D.fs l31,D.fs l32]=l31:=if_neg h5
 have e2:nxtC [dn x0,dn x1,db true,dn x3,dn x4,dn x5,dn x6,dn x7,db b8,D.fs l9,dn x10,db b11,D.fs l12,dn x13,db b14,D.fs l15,dn x16,db b17,D.fs l18,dn x19,db b20,dn x21,dn x22,D.fs l23,db b24,dn x25,dn x26,D.fs l27,dn x28,dn x29,D.fs l30,D.fs l31,D.fs l32] [dn x3,dn (x4+1),dn (x4+1),dn (x6+1),dn x7] f=(massOf x1 f++[db true,dn x1,dn x1,D.fs l]):=(if_pos (show x7≤x6+1 by omega)).trans (by unfold begC;rw [tagsL_eq hls hl];rfl)
 have e3:trnC [dn x0,dn x1,db true,dn x3,dn x4,dn x5,dn x6,dn x7,db b8,D.fs l9,dn x10,db b11,D.fs l12,dn x13,db b14,D.fs l15,dn x16,db b17,D.fs l18,dn x19,db b20,dn x21,dn x22,D.fs l23,db b24,dn x25,dn x26,D.fs l27,dn x28,dn x29,D.fs l30,D.fs l31,D.fs l32] [dn x3,dn (x4+1),dn (x4+1),dn (x6+1),dn x7] f=[dn x0,dn x1,db true]++[dn x3,dn (x4+1),dn (x4+1),dn (x6+1),dn x7]++(massOf x1 f++[db true,dn x1,dn x1,D.fs l])++[db false,dn 0,dn 0]++[D.fs l27,dn x28,dn x29,D.fs l30]++[D.fs l31,D.fs l32]:=by
  unfold trnC;rw [e1,e2];rfl
 show _=[DV.a (lateC (trnC _ [dn x3,dn (x4+1),dn (x4+1),dn (x6+1),dn x7] f)),_,_]
 rw [e3]
 unfold lateC
 rw [if_neg (fun hh=>Bool.noConfusion (show false=true from hh.1))]
 rfl
theorem tickL_ff {x0 x1 x3 x4 x5 x6 x7 x10 x13 x16 x19 x21 x22 x25 x26 x28 x29:Int} {b8 b11 b14 b17 b20 b24:Bool} {l9 l12 l15 l18 l23 l27 l30 l31 l32:LL} {f o:Bool} {n t i:Int} {due:LL} (h:p_node [dn x0,dn x1,db true,dn x3,dn x4,dn x5,dn x6,dn x7,db b8,D.fs l9,dn x10,db b11,D.fs l12,dn x13,db b14,D.fs l15,dn x16,db b17,D.fs l18,dn x19,db b20,dn x21,dn x22,D.fs l23,db b24,dn x25,dn x26,D.fs l27,dn x28,dn x29,D.fs l30,D.fs l31,D.fs l32]) (h3:x4≠2147483647) (h4:x3≤x4+1-x5∧x6<65535) (h5:¬x7≤x6) (h7:¬x7≤x6+1) (hw:wtI true b24 x25 x26 due i o n t):[DV.a ([dn x0,dn x1,db true]++[dn x3,dn (x4+1),dn (x4+1),dn (x6+1),dn x7]++zPart++[db o,dn n,dn t]++[D.fs l27,dn x28,dn x29,D.fs l30]++[D.fs l31,D.fs (leftT l32 (x4+1))]),vb true,vn 0]=m_tick [dn x0,dn x1,db true,dn x3,dn x4,dn x5,dn x6,dn x7,db b8,D.fs l9,dn x10,db b11,D.fs l12,dn x13,db b14,D.fs l15,dn x16,db b17,D.fs l18,dn x19,db b20,dn x21,dn x22,D.fs l23,db b24,dn x25,dn x26,D.fs l27,dn x28,dn x29,D.fs l30,D.fs l31,D.fs l32] f:=by
 obtain ⟨rfl,rfl,rfl⟩:=hw.tt
 rw [tick_turn h rfl h3 h4 (fun hh=>h5 hh.1)]
 have e1:frzC [dn x0,dn x1,db true,dn x3,dn x4,dn x5,dn x6,dn x7,db b8,D.fs l9,dn x10,db b11,D.fs l12,dn x13,db b14,D.fs l15,dn x16,db b17,D.fs l18,dn x19,db b20,dn x21,dn x22,D.fs l23,db b24,dn x25,dn x26,D.fs l27,dn x28,dn x29,D.fs l30,D.fs l31,D.fs l32]=l31:=if_neg h5
 have e2:nxtC [dn x0,dn x1,db true,dn x3,dn x4,dn x5,dn x6,dn x7,db b8,D.fs l9,dn x10,db b11,D.fs l12,dn x13,db b14,D.fs l15,dn x16,db b17,D.fs l18,dn x19,db b20,dn x21,dn x22,D.fs l23,db b24,dn x25,dn x26,D.fs l27,dn x28,dn x29,D.fs l30,D.fs l31,D.fs l32] [dn x3,dn (x4+1),dn (x4+1),dn (x6+1),dn x7] f=zPart:=if_neg h7
 have e3:trnC [dn x0,dn x1,db true,dn x3,dn x4,dn x5,dn x6,dn x7,db b8,D.fs l9,dn x10,db b11,D.fs l12,dn x13,db b14,D.fs l15,dn x16,db b17,D.fs l18,dn x19,db b20,dn x21,dn x22,D.fs l23,db b24,dn x25,dn x26,D.fs l27,dn x28,dn x29,D.fs l30,D.fs l31,D.fs l32] [dn x3,dn (x4+1),dn (x4+1),dn (x6+1),dn x7] f=[dn x0,dn x1,db true]++[dn x3,dn (x4+1),dn (x4+1),dn (x6+1),dn x7]++zPart++[db false,dn 0,dn 0]++[D.fs l27,dn x28,dn x29,D.fs l30]++[D.fs l31,D.fs l32]:=by
  unfold trnC;rw [e1,e2];rfl
 show _=[DV.a (lateC (trnC _ [dn x3,dn (x4+1),dn (x4+1),dn (x6+1),dn x7] f)),_,_]
 rw [e3]
 unfold lateC
 rw [if_neg (fun hh=>Bool.noConfusion (show false=true from hh.1))]
 rfl
theorem due_ls {l:LL} {k:Int} (h:LSh pairS l):LSh pairS (dueT l k):=by
 have e:(dueT l k).length≤l.length:=List.length_filter_le _ _
 have e2:=h.1
 exact ⟨by omega, .mk (by omega) fun c hc=>h.2.els c (List.mem_filter.1 hc).1⟩
theorem left_ls {l:LL} {k:Int} (h:LSh pairS l):LSh pairS (leftT l k):=by
 have e:(leftT l k).length≤l.length:=List.length_filter_le _ _
 have e2:=h.1
 exact ⟨by omega, .mk (by omega) fun c hc=>h.2.els c (List.mem_filter.1 hc).1⟩
attribute [irreducible] wtI
end Go.Vc

namespace Go.Vc
open Classical
theorem up_ne {a:List D} (h:gB a 2=true):¬gB a 2=false:=by rw [h];decide
theorem bdec {p:Prop} [Decidable p] (h:¬decide p=false):p:=by
 by_cases e:p
 ·exact e
 ·exact absurd (decide_eq_false e) h
theorem crash_noE {a:List D} (h:(if p_node a then (0:Int) else 8)≠0):[.a (downC 0),vl [],vn (if p_node a then 0 else 8)]=m_crash a:=by rw [if_neg (if8 h)];unfold m_crash;rw [if_pos (if8 h)]
theorem crash_down {a:List D} (h:p_node a) (h2:gB a 2=false):[.a (downC 0),vl [],vn 14]=m_crash a:=by unfold m_crash;rw [if_neg (fun hh=>hh h),if_pos h2]
theorem crash_up {a:List D} (h:p_node a) (h2:gB a 2=true):m_crash a=[.a (downC (gI a 0)),vl (frzC a),vn 0]:=by unfold m_crash;rw [if_neg (fun hh=>hh h),if_neg (up_ne h2)]
theorem seed_noE {a:List D} {f:Bool} (h:(if p_node a then (0:Int) else 8)≠0):[.a (downC 0),vn (if p_node a then 0 else 8)]=m_seed a f:=by rw [if_neg (if8 h)];unfold m_seed;rw [if_pos (if8 h)]
theorem seed_down {a:List D} {f:Bool} (h:p_node a) (h2:gB a 2=false):[.a (downC 0),vn 14]=m_seed a f:=by unfold m_seed;rw [if_neg (fun hh=>hh h),if_pos h2]
theorem seed_none {a:List D} {f:Bool} (h:p_node a) (h2:gB a 2=true) (h3:¬takesC a):[.a (downC 0),vn 6]=m_seed a f:=by unfold m_seed;rw [if_neg (fun hh=>hh h),if_neg (up_ne h2),if_pos h3]
theorem seed_again {a:List D} {f:Bool} (h:p_node a) (h2:gB a 2=true) (h3:takesC a) (h4:partC a≠zPart):[.a (downC 0),vn 12]=m_seed a f:=by unfold m_seed;rw [if_neg (fun hh=>hh h),if_neg (up_ne h2),if_neg (fun hh=>hh h3),if_pos h4]
theorem seed_ok {a:List D} {f:Bool} (h:p_node a) (h2:gB a 2=true) (h3:takesC a) (h4:partC a=zPart):m_seed a f=[.a (a.take 8++begC (gI a 1) f (gI a 6) (gI a 0)++a.drop 24),vn 0]:=by unfold m_seed;rw [if_neg (fun hh=>hh h),if_neg (up_ne h2),if_neg (fun hh=>hh h3),if_neg (fun hh=>hh h4)]
theorem hear_noE {a:List D} {e:Int} {f:Bool} (h:(if p_node a then (0:Int) else 8)≠0):[.a (downC 0),vb false,vn (if p_node a then 0 else 8)]=m_hear a e f:=by rw [if_neg (if8 h)];unfold m_hear;rw [if_pos (if8 h)]
theorem hear_down {a:List D} {e:Int} {f:Bool} (h:p_node a) (h2:gB a 2=false):[.a (downC 0),vb false,vn 14]=m_hear a e f:=by unfold m_hear;rw [if_neg (fun hh=>hh h),if_pos h2]
theorem hear_arg {a:List D} {e:Int} {f:Bool} (h:p_node a) (h2:gB a 2=true) (h3:¬(0≤e∧e≤65535)):[.a (downC 0),vb false,vn 2]=m_hear a e f:=by unfold m_hear;rw [if_neg (fun hh=>hh h),if_neg (up_ne h2),if_pos h3]
theorem hear_stay {a:List D} {e:Int} {f:Bool} (h:p_node a) (h2:gB a 2=true) (h3:0≤e∧e≤65535) (h4:¬gI a 6<e):[.a a,vb false,vn 0]=m_hear a e f:=by unfold m_hear;rw [if_neg (fun hh=>hh h),if_neg (up_ne h2),if_neg (fun hh=>hh h3),if_neg h4]
theorem hear_full {a:List D} {e:Int} {f:Bool} (h:p_node a) (h2:gB a 2=true) (h3:0≤e∧e≤65535) (h4:gI a 6<e) (h5:takesC a∧(gL a 31).length=1024):[.a (downC 0),vb false,vn 9]=m_hear a e f:=by unfold m_hear;rw [if_neg (fun hh=>hh h),if_neg (up_ne h2),if_neg (fun hh=>hh h3),if_pos h4,if_pos h5]
theorem hear_turn {a:List D} {e:Int} {f:Bool} (h:p_node a) (h2:gB a 2=true) (h3:0≤e∧e≤65535) (h4:gI a 6<e) (h5:¬(takesC a∧(gL a 31).length=1024)):m_hear a e f=[.a (trnC a [dn (gI a 3),dn (gI a 4),dn (gI a 4),dn e,dn (gI a 7)] f),vb true,vn 0]:=by unfold m_hear;rw [if_neg (fun hh=>hh h),if_neg (up_ne h2),if_neg (fun hh=>hh h3),if_pos h4,if_neg h5]
theorem ehear_out {x0 x1 x2 x3 x4 y0 y1 y2 y3 y4 x e:Int} {t:Bool} (hp:p_clock [dn x0,dn x1,dn x2,dn x3,dn x4]) (h:[DV.a [dn y0,dn y1,dn y2,dn y3,dn y4],vb t,vn x]=m_ehear [dn x0,dn x1,dn x2,dn x3,dn x4] e) :
  (¬(0≤e∧e≤65535)∧x=2)∨(0≤e∧e≤65535∧x=0∧y0=x0∧y1=x1∧y4=x4∧((t=true∧x3<e∧y2=x1∧y3=e)∨(t=false∧¬x3<e∧y2=x2∧y3=x3))):=by
 unfold m_ehear at h
 rw [if_neg (fun hh=>hh hp)] at h
 by_cases h1:0≤e∧e≤65535
 ·rw [if_neg (fun hh=>hh h1)] at h
  refine .inr ⟨h1.1,h1.2,?_⟩
  by_cases h2:gI [dn x0,dn x1,dn x2,dn x3,dn x4] 3<e
  ·rw [if_pos h2] at h
   simp only [gI,List.getElem?_cons_zero,List.getElem?_cons_succ,List.cons.injEq,DV.a.injEq,DV.c.injEq,D.raw.injEq,Value.int.injEq,Value.bool.injEq,true_and,and_true] at h
   obtain ⟨⟨g0,g1,g2,g3,g4⟩,g5,g6⟩:=h
   exact ⟨g6,g0,g1,g4, .inl ⟨g5,h2,g2,g3⟩⟩
  ·rw [if_neg h2] at h
   simp only [List.cons.injEq,DV.a.injEq,DV.c.injEq,D.raw.injEq,Value.int.injEq,Value.bool.injEq,true_and,and_true] at h
   obtain ⟨⟨g0,g1,g2,g3,g4⟩,g5,g6⟩:=h
   exact ⟨g6,g0,g1,g4, .inr ⟨g5,h2,g2,g3⟩⟩
 ·rw [if_pos h1] at h
  simp only [zClock,List.cons.injEq,DV.a.injEq,DV.c.injEq,D.raw.injEq,Value.int.injEq,Value.bool.injEq,true_and,and_true] at h
  exact .inl ⟨h1,h.2.2⟩
theorem crashL_t {x0 x1 x3 x4 x5 x6 x7 x10 x13 x16 x19 x21 x22 x25 x26 x28 x29:Int} {b8 b11 b14 b17 b20 b24:Bool} {l9 l12 l15 l18 l23 l27 l30 l31 l32:LL} (h:p_node [dn x0,dn x1,db true,dn x3,dn x4,dn x5,dn x6,dn x7,db b8,D.fs l9,dn x10,db b11,D.fs l12,dn x13,db b14,D.fs l15,dn x16,db b17,D.fs l18,dn x19,db b20,dn x21,dn x22,D.fs l23,db b24,dn x25,dn x26,D.fs l27,dn x28,dn x29,D.fs l30,D.fs l31,D.fs l32]) (h5:x7≤x6):[DV.a (downC x0),vl (l31++[dn x6::[db b8,D.fs l9,dn x10,db b11,D.fs l12,dn x13,db b14,D.fs l15,dn x16,db b17,D.fs l18,dn x19,db b20,dn x21,dn x22,D.fs l23]]),vn 0]=m_crash [dn x0,dn x1,db true,dn x3,dn x4,dn x5,dn x6,dn x7,db b8,D.fs l9,dn x10,db b11,D.fs l12,dn x13,db b14,D.fs l15,dn x16,db b17,D.fs l18,dn x19,db b20,dn x21,dn x22,D.fs l23,db b24,dn x25,dn x26,D.fs l27,dn x28,dn x29,D.fs l30,D.fs l31,D.fs l32]:=by
 rw [crash_up h rfl]
 have e1:frzC [dn x0,dn x1,db true,dn x3,dn x4,dn x5,dn x6,dn x7,db b8,D.fs l9,dn x10,db b11,D.fs l12,dn x13,db b14,D.fs l15,dn x16,db b17,D.fs l18,dn x19,db b20,dn x21,dn x22,D.fs l23,db b24,dn x25,dn x26,D.fs l27,dn x28,dn x29,D.fs l30,D.fs l31,D.fs l32]=(l31++[dn x6::[db b8,D.fs l9,dn x10,db b11,D.fs l12,dn x13,db b14,D.fs l15,dn x16,db b17,D.fs l18,dn x19,db b20,dn x21,dn x22,D.fs l23]]):=if_pos h5
 rw [e1];rfl
theorem crashL_n {x0 x1 x3 x4 x5 x6 x7 x10 x13 x16 x19 x21 x22 x25 x26 x28 x29:Int} {b8 b11 b14 b17 b20 b24:Bool} {l9 l12 l15 l18 l23 l27 l30 l31 l32:LL} (h:p_node [dn x0,dn x1,db true,dn x3,dn x4,dn x5,dn x6,dn x7,db b8,D.fs l9,dn x10,db b11,D.fs l12,dn x13,db b14,D.fs l15,dn x16,db b17,D.fs l18,dn x19,db b20,dn x21,dn x22,D.fs l23,db b24,dn x25,dn x26,D.fs l27,dn x28,dn x29,D.fs l30,D.fs l31,D.fs l32]) (h5:¬x7≤x6):[DV.a (downC x0),vl l31,vn 0]=m_crash [dn x0,dn x1,db true,dn x3,dn x4,dn x5,dn x6,dn x7,db b8,D.fs l9,dn x10,db b11,D.fs l12,dn x13,db b14,D.fs l15,dn x16,db b17,D.fs l18,dn x19,db b20,dn x21,dn x22,D.fs l23,db b24,dn x25,dn x26,D.fs l27,dn x28,dn x29,D.fs l30,D.fs l31,D.fs l32]:=by
 rw [crash_up h rfl]
 have e1:frzC [dn x0,dn x1,db true,dn x3,dn x4,dn x5,dn x6,dn x7,db b8,D.fs l9,dn x10,db b11,D.fs l12,dn x13,db b14,D.fs l15,dn x16,db b17,D.fs l18,dn x19,db b20,dn x21,dn x22,D.fs l23,db b24,dn x25,dn x26,D.fs l27,dn x28,dn x29,D.fs l30,D.fs l31,D.fs l32]=l31:=if_neg h5
 rw [e1];rfl
theorem seedL_ok {x0 x1 x3 x4 x5 x6 x7 x10 x13 x16 x19 x21 x22 x25 x26 x28 x29:Int} {b8 b11 b14 b17 b20 b24:Bool} {l9 l12 l15 l18 l23 l27 l30 l31 l32:LL} {f:Bool} {l:LL} (hls:LSh [s32] l) (hl:p_tags x6 x0 l) (h:p_node [dn x0,dn x1,db true,dn x3,dn x4,dn x5,dn x6,dn x7,db b8,D.fs l9,dn x10,db b11,D.fs l12,dn x13,db b14,D.fs l15,dn x16,db b17,D.fs l18,dn x19,db b20,dn x21,dn x22,D.fs l23,db b24,dn x25,dn x26,D.fs l27,dn x28,dn x29,D.fs l30,D.fs l31,D.fs l32]) (h5:x7≤x6) (h6:[db b8,D.fs l9,dn x10,db b11,D.fs l12,dn x13,db b14,D.fs l15,dn x16,db b17,D.fs l18,dn x19,db b20,dn x21,dn x22,D.fs l23]=zPart):[DV.a ([dn x0,dn x1,db true,dn x3,dn x4,dn x5,dn x6,dn x7]++massOf x1 f++[db true,dn x1,dn x1,D.fs l]++[db b24,dn x25,dn x26,D.fs l27,dn x28,dn x29,D.fs l30,D.fs l31,D.fs l32]),vn 0]=m_seed [dn x0,dn x1,db true,dn x3,dn x4,dn x5,dn x6,dn x7,db b8,D.fs l9,dn x10,db b11,D.fs l12,dn x13,db b14,D.fs l15,dn x16,db b17,D.fs l18,dn x19,db b20,dn x21,dn x22,D.fs l23,db b24,dn x25,dn x26,D.fs l27,dn x28,dn x29,D.fs l30,D.fs l31,D.fs l32] f:=by
 rw [seed_ok h rfl h5 h6]
 unfold begC
 rw [tagsL_eq hls hl];rfl
theorem hearL_tt {x0 x1 x3 x4 x5 x6 x7 x10 x13 x16 x19 x21 x22 x25 x26 x28 x29:Int} {b8 b11 b14 b17 b20 b24:Bool} {l9 l12 l15 l18 l23 l27 l30 l31 l32:LL} {f:Bool} {e:Int} {l:LL} (hls:LSh [s32] l) (hl:p_tags e x0 l) (h:p_node [dn x0,dn x1,db true,dn x3,dn x4,dn x5,dn x6,dn x7,db b8,D.fs l9,dn x10,db b11,D.fs l12,dn x13,db b14,D.fs l15,dn x16,db b17,D.fs l18,dn x19,db b20,dn x21,dn x22,D.fs l23,db b24,dn x25,dn x26,D.fs l27,dn x28,dn x29,D.fs l30,D.fs l31,D.fs l32]) (h3:0≤e∧e≤65535) (h4:x6<e) (h5:x7≤x6) (h6:l31.length≠1024):[DV.a ([dn x0,dn x1,db true]++[dn x3,dn x4,dn x4,dn e,dn x7]++(massOf x1 f++[db true,dn x1,dn x1,D.fs l])++[db false,dn 0,dn 0]++[D.fs l27,dn x28,dn x29,D.fs l30]++[D.fs (l31++[dn x6::[db b8,D.fs l9,dn x10,db b11,D.fs l12,dn x13,db b14,D.fs l15,dn x16,db b17,D.fs l18,dn x19,db b20,dn x21,dn x22,D.fs l23]]),D.fs l32]),vb true,vn 0]=m_hear [dn x0,dn x1,db true,dn x3,dn x4,dn x5,dn x6,dn x7,db b8,D.fs l9,dn x10,db b11,D.fs l12,dn x13,db b14,D.fs l15,dn x16,db b17,D.fs l18,dn x19,db b20,dn x21,dn x22,D.fs l23,db b24,dn x25,dn x26,D.fs l27,dn x28,dn x29,D.fs l30,D.fs l31,D.fs l32] e f:=by
 rw [hear_turn h rfl h3 h4 (fun hh=>h6 hh.2)]
 have e1:frzC [dn x0,dn x1,db true,dn x3,dn x4,dn x5,dn x6,dn x7,db b8,D.fs l9,dn x10,db b11,D.fs l12,dn x13,db b14,D.fs l15,dn x16,db b17,D.fs l18,dn x19,db b20,dn x21,dn x22,D.fs l23,db b24,dn x25,dn x26,D.fs l27,dn x28,dn x29,D.fs l30,D.fs l31,D.fs l32]=(l31++[dn x6::[db b8,D.fs l9,dn x10,db b11,D.fs l12,dn x13,db b14,D.fs l15,dn x16,db b17,D.fs l18,dn x19,db b20,dn x21,dn x22,D.fs l23]]):=if_pos h5
 have e2:nxtC [dn x0,dn x1,db true,dn x3,dn x4,dn x5,dn x6,dn x7,db b8,D.fs l9,dn x10,db b11,D.fs l12,dn x13,db b14,D.fs l15,dn x16,db b17,D.fs l18,dn x19,db b20,dn x21,dn x22,D.fs l23,db b24,dn x25,dn x26,D.fs l27,dn x28,dn x29,D.fs l30,D.fs l31,D.fs l32] [dn x3,dn x4,dn x4,dn e,dn x7] f=(massOf x1 f++[db true,dn x1,dn x1,D.fs l]):=(if_pos (show x7≤e by omega)).trans (by unfold begC;rw [tagsL_eq hls hl];rfl)
 unfold trnC
 rw [e1]
 show _=[DV.a (_++[dn x3,dn x4,dn x4,dn e,dn x7]++nxtC [dn x0,dn x1,db true,dn x3,dn x4,dn x5,dn x6,dn x7,db b8,D.fs l9,dn x10,db b11,D.fs l12,dn x13,db b14,D.fs l15,dn x16,db b17,D.fs l18,dn x19,db b20,dn x21,dn x22,D.fs l23,db b24,dn x25,dn x26,D.fs l27,dn x28,dn x29,D.fs l30,D.fs l31,D.fs l32] [dn x3,dn x4,dn x4,dn e,dn x7] f++_++_++_),_,_]
 rw [e2]
 rfl
theorem hearL_ft {x0 x1 x3 x4 x5 x6 x7 x10 x13 x16 x19 x21 x22 x25 x26 x28 x29:Int} {b8 b11 b14 b17 b20 b24:Bool} {l9 l12 l15 l18 l23 l27 l30 l31 l32:LL} {f:Bool} {e:Int} {l:LL} (hls:LSh [s32] l) (hl:p_tags e x0 l) (h:p_node [dn x0,dn x1,db true,dn x3,dn x4,dn x5,dn x6,dn x7,db b8,D.fs l9,dn x10,db b11,D.fs l12,dn x13,db b14,D.fs l15,dn x16,db b17,D.fs l18,dn x19,db b20,dn x21,dn x22,D.fs l23,db b24,dn x25,dn x26,D.fs l27,dn x28,dn x29,D.fs l30,D.fs l31,D.fs l32]) (h3:0≤e∧e≤65535) (h4:x6<e) (h5:¬x7≤x6) (h7:x7≤e):[DV.a ([dn x0,dn x1,db true]++[dn x3,dn x4,dn x4,dn e,dn x7]++(massOf x1 f++[db true,dn x1,dn x1,D.fs l])++[db false,dn 0,dn 0]++[D.fs l27,dn x28,dn x29,D.fs l30]++[D.fs l31,D.fs l32]),vb true,vn 0]=m_hear [dn x0,dn x1,db true,dn x3,dn x4,dn x5,dn x6,dn x7,db b8,D.fs l9,dn x10,db b11,D.fs l12,dn x13,db b14,D.fs l15,dn x16,db b17,D.fs l18,dn x19,db b20,dn x21,dn x22,D.fs l23,db b24,dn x25,dn x26,D.fs l27,dn x28,dn x29,D.fs l30,D.fs l31,D.fs l32] e f:=by
 rw [hear_turn h rfl h3 h4 (fun hh=>h5 hh.1)]
 have e1:frzC [dn x0,dn x1,db true,dn x3,dn x4,dn x5,dn x6,dn x7,db b8,D.fs l9,dn x10,db b11,D.fs l12,dn x13,db b14,D.fs l15,dn x16,db b17,D.fs l18,dn x19,db b20,dn x21,dn x22,D.fs l23,db b24,dn x25,dn x26,D.fs l27,dn x28,dn x29,D.fs l30,D.fs l31,D.fs l32]=l31:=if_neg h5
 have e2:nxtC [dn x0,dn x1,db true,dn x3,dn x4,dn x5,dn x6,dn x7,db b8,D.fs l9,dn x10,db b11,D.fs l12,dn x13,db b14,D.fs l15,dn x16,db b17,D.fs l18,dn x19,db b20,dn x21,dn x22,D.fs l23,db b24,dn x25,dn x26,D.fs l27,dn x28,dn x29,D.fs l30,D.fs l31,D.fs l32] [dn x3,dn x4,dn x4,dn e,dn x7] f=(massOf x1 f++[db true,dn x1,dn x1,D.fs l]):=(if_pos (show x7≤e by omega)).trans (by unfold begC;rw [tagsL_eq hls hl];rfl)
 unfold trnC
 rw [e1]
 show _=[DV.a (_++[dn x3,dn x4,dn x4,dn e,dn x7]++nxtC [dn x0,dn x1,db true,dn x3,dn x4,dn x5,dn x6,dn x7,db b8,D.fs l9,dn x10,db b11,D.fs l12,dn x13,db b14,D.fs l15,dn x16,db b17,D.fs l18,dn x19,db b20,dn x21,dn x22,D.fs l23,db b24,dn x25,dn x26,D.fs l27,dn x28,dn x29,D.fs l30,D.fs l31,D.fs l32] [dn x3,dn x4,dn x4,dn e,dn x7] f++_++_++_),_,_]
 rw [e2]
 rfl
theorem hearL_ff {x0 x1 x3 x4 x5 x6 x7 x10 x13 x16 x19 x21 x22 x25 x26 x28 x29:Int} {b8 b11 b14 b17 b20 b24:Bool} {l9 l12 l15 l18 l23 l27 l30 l31 l32:LL} {f:Bool} {e:Int} (h:p_node [dn x0,dn x1,db true,dn x3,dn x4,dn x5,dn x6,dn x7,db b8,D.fs l9,dn x10,db b11,D.fs l12,dn x13,db b14,D.fs l15,dn x16,db b17,D.fs l18,dn x19,db b20,dn x21,dn x22,D.fs l23,db b24,dn x25,dn x26,D.fs l27,dn x28,dn x29,D.fs l30,D.fs l31,D.fs l32]) (h3:0≤e∧e≤65535) (h4:x6<e) (h5:¬x7≤x6) (h7:¬x7≤e):[DV.a ([dn x0,dn x1,db true]++[dn x3,dn x4,dn x4,dn e,dn x7]++zPart++[db false,dn 0,dn 0]++[D.fs l27,dn x28,dn x29,D.fs l30]++[D.fs l31,D.fs l32]),vb true,vn 0]=m_hear [dn x0,dn x1,db true,dn x3,dn x4,dn x5,dn x6,dn x7,db b8,D.fs l9,dn x10,db b11,D.fs l12,dn x13,db b14,D.fs l15,dn x16,db b17,D.fs l18,dn x19,db b20,dn x21,dn x22,D.fs l23,db b24,dn x25,dn x26,D.fs l27,dn x28,dn x29,D.fs l30,D.fs l31,D.fs l32] e f:=by
 rw [hear_turn h rfl h3 h4 (fun hh=>h5 hh.1)]
 have e1:frzC [dn x0,dn x1,db true,dn x3,dn x4,dn x5,dn x6,dn x7,db b8,D.fs l9,dn x10,db b11,D.fs l12,dn x13,db b14,D.fs l15,dn x16,db b17,D.fs l18,dn x19,db b20,dn x21,dn x22,D.fs l23,db b24,dn x25,dn x26,D.fs l27,dn x28,dn x29,D.fs l30,D.fs l31,D.fs l32]=l31:=if_neg h5
 have e2:nxtC [dn x0,dn x1,db true,dn x3,dn x4,dn x5,dn x6,dn x7,db b8,D.fs l9,dn x10,db b11,D.fs l12,dn x13,db b14,D.fs l15,dn x16,db b17,D.fs l18,dn x19,db b20,dn x21,dn x22,D.fs l23,db b24,dn x25,dn x26,D.fs l27,dn x28,dn x29,D.fs l30,D.fs l31,D.fs l32] [dn x3,dn x4,dn x4,dn e,dn x7] f=zPart:=if_neg h7
 unfold trnC
 rw [e1]
 show _=[DV.a (_++[dn x3,dn x4,dn x4,dn e,dn x7]++nxtC [dn x0,dn x1,db true,dn x3,dn x4,dn x5,dn x6,dn x7,db b8,D.fs l9,dn x10,db b11,D.fs l12,dn x13,db b14,D.fs l15,dn x16,db b17,D.fs l18,dn x19,db b20,dn x21,dn x22,D.fs l23,db b24,dn x25,dn x26,D.fs l27,dn x28,dn x29,D.fs l30,D.fs l31,D.fs l32] [dn x3,dn x4,dn x4,dn e,dn x7] f++_++_++_),_,_]
 rw [e2]
 rfl
theorem zpart_iff {x10 x13 x16 x19 x21 x22:Int} {b8 b11 b14 b17 b20:Bool} {l9 l12 l15 l18 l23:LL}:[db b8,D.fs l9,dn x10,db b11,D.fs l12,dn x13,db b14,D.fs l15,dn x16,db b17,D.fs l18,dn x19,db b20,dn x21,dn x22,D.fs l23]=zPart↔b8=false∧l9=[]∧x10=0∧b11=false∧l12=[]∧x13=0∧b14=false∧l15=[]∧x16=0∧b17=false∧l18=[]∧x19=0∧b20=false∧x21=0∧x22=0∧l23=[]:=by
 unfold zPart
 simp only [List.cons.injEq,D.raw.injEq,D.fs.injEq,Value.int.injEq,Value.bool.injEq,true_and,and_true]
end Go.Vc

namespace Go.Vc
theorem bv_fold16 {x y:BitVec 32} (h:x ^^^ (x >>> 16)=y ^^^ (y >>> 16)):x=y:=by
 have e:∀ z:BitVec 32,(z ^^^ (z >>> 16)) ^^^ ((z ^^^ (z >>> 16)) >>> 16)=z:=fun z=>by
  ext i hi
  simp only [BitVec.getElem_xor,BitVec.getElem_ushiftRight,BitVec.getLsbD_xor,BitVec.getLsbD_ushiftRight]
  rw [BitVec.getLsbD_of_ge z (16+(16+i)) (by omega),←BitVec.getLsbD_eq_getElem]
  cases z.getLsbD (16+i) <;> cases z.getLsbD i <;> rfl
 rw [←e x,←e y,h]
theorem bv_fold15 {x y:BitVec 32} (h:x ^^^ (x >>> 15)=y ^^^ (y >>> 15)):x=y:=by
 have e:∀ z:BitVec 32,(z ^^^ (z >>> 15)) ^^^ ((z ^^^ (z >>> 15)) >>> 15) ^^^ ((z ^^^ (z >>> 15)) >>> 30)=z:=fun z=>by
  ext i hi
  simp only [BitVec.getElem_xor,BitVec.getElem_ushiftRight,BitVec.getLsbD_xor,BitVec.getLsbD_ushiftRight]
  rw [BitVec.getLsbD_of_ge z (15+(30+i)) (by omega),←BitVec.getLsbD_eq_getElem,show 15+(15+i)=30+i by omega]
  cases z.getLsbD (15+i) <;> cases z.getLsbD i <;> cases z.getLsbD (30+i) <;> rfl
 rw [←e x,←e y,h]
theorem bv_fold13 {x y:BitVec 32} (h:x ^^^ (x >>> 13)=y ^^^ (y >>> 13)):x=y:=by
 have e:∀ z:BitVec 32,(z ^^^ (z >>> 13)) ^^^ ((z ^^^ (z >>> 13)) >>> 13) ^^^ ((z ^^^ (z >>> 13)) >>> 26)=z:=fun z=>by
  ext i hi
  simp only [BitVec.getElem_xor,BitVec.getElem_ushiftRight,BitVec.getLsbD_xor,BitVec.getLsbD_ushiftRight]
  rw [BitVec.getLsbD_of_ge z (13+(26+i)) (by omega),←BitVec.getLsbD_eq_getElem,show 13+(13+i)=26+i by omega]
  cases z.getLsbD (13+i) <;> cases z.getLsbD i <;> cases z.getLsbD (26+i) <;> rfl
 rw [←e x,←e y,h]
theorem bv_mul {x y:BitVec 32} (h:x*2654435769#32=y*2654435769#32):x=y:=by
 have e:2654435769#32*340573321#32=1#32:=by decide
 have:=congrArg (·*340573321#32) h
 simp only [BitVec.mul_assoc,e,BitVec.mul_one] at this
 exact this
def bvStir (x:BitVec 32):BitVec 32 :=
 let a:=x*2654435769#32
 let b:=(a ^^^ (a >>> 15))*2654435769#32
 let c:=(b ^^^ (b >>> 13))*2654435769#32
 c ^^^ (c >>> 16)
theorem bvStir_inj {x y:BitVec 32} (h:bvStir x=bvStir y):x=y:=bv_mul (bv_fold15 (bv_mul (bv_fold13 (bv_mul (bv_fold16 h)))))
def ibv (a:BitVec 32):Int:=(a.toNat:Int)
theorem ibv_of {x:Int} (h0:0≤x) (h1:x≤4294967295):ibv (BitVec.ofInt 32 x)=x:=by
 unfold ibv
 rw [BitVec.toNat_ofInt]
 omega
theorem of_ibv (a:BitVec 32):BitVec.ofInt 32 (ibv a)=a:=by
 unfold ibv
 apply BitVec.eq_of_toNat_eq
 rw [BitVec.toNat_ofInt]
 have:=a.isLt
 omega
theorem wrap_u32 (x:Int):IntKind.wrap .u32 x=x % 4294967296:=rfl
theorem fold_bv (a:BitVec 32) (k:Nat) (hk:k≤32):fold1 (ibv a) (k:Int)=ibv (a ^^^ (a >>> k)):=by
 unfold fold1 bXor
 have e1:(k:Int).toNat=k:=by omega
 have e2:min k (IntKind.bits .u32)=k:=Nat.min_eq_left hk
 rw [e1,e2]
 have e3:Int.fdiv (ibv a) ((2:Int) ^ k)=ibv (a >>> k):=by
  rw [Int.fdiv_eq_ediv_of_nonneg _ (by exact_mod_cast Nat.zero_le (2 ^ k))]
  unfold ibv
  rw [BitVec.toNat_ushiftRight,Nat.shiftRight_eq_div_pow]
  norm_cast
 rw [e3,show IntKind.bits .u32=32 from rfl,of_ibv,of_ibv,wrap_u32]
 have:=(a ^^^ a >>> k).isLt
 unfold ibv
 omega
theorem mul_bv (a:BitVec 32):u32 (ibv a*2654435769)=ibv (a*2654435769#32):=by
 unfold u32 ibv
 rw [wrap_u32,BitVec.toNat_mul]
 simp
theorem stir_bv (a:BitVec 32):stir (ibv a)=ibv (bvStir a):=by
 unfold stir bvStir
 rw [mul_bv,show (15:Int)=((15:Nat):Int) from rfl,fold_bv _ 15 (by decide),mul_bv,show (13:Int)=((13:Nat):Int) from rfl,fold_bv _ 13 (by decide),mul_bv,show (16:Int)=((16:Nat):Int) from rfl,fold_bv _ 16 (by decide)]
theorem stir_inj {x y:Int} (hx:0≤x∧x≤4294967295) (hy:0≤y∧y≤4294967295) (h:stir x=stir y):x=y:=by
 rw [←ibv_of hx.1 hx.2,←ibv_of hy.1 hy.2,stir_bv,stir_bv] at h
 have e:bvStir (BitVec.ofInt 32 x)=bvStir (BitVec.ofInt 32 y):=BitVec.eq_of_toNat_eq (by unfold ibv at h;exact_mod_cast h)
 rw [←ibv_of hx.1 hx.2,←ibv_of hy.1 hy.2,bvStir_inj e]
theorem tag_inj {e n i j:Int} (he:0≤e∧e≤65535) (hn:0≤n∧n≤7) (hi:0≤i∧i<4) (hj:0≤j∧j<4) (h:tagOf e n i=tagOf e n j):i=j:=by
 unfold tagOf u32 at h
 rw [wrap_u32,wrap_u32] at h
 have:=stir_inj (by omega) (by omega) h
 omega
theorem tags_nd {e n:Int} (he:0≤e∧e≤65535) (hn:0≤n∧n≤7):(tagsUp e n 4).Nodup:=by
 refine tags_ne ⟨?_,?_,?_,?_,?_,?_⟩ <;> intro h <;> have:=tag_inj he hn (by omega) (by omega) h <;> omega
end Go.Vc

namespace Go.Vc
open Classical
theorem tagsL_ok {e n:Int}:LSh [s32] (tagsL e n)∧p_tags e n (tagsL e n):=by
 have hx:∃ l,LSh [s32] l∧p_tags e n l:=by
  refine ⟨(tagsUp e n 4).mergeSort (fun c d=>decide (gI c 0≤gI d 0)),?_⟩
  have hp:=List.mergeSort_perm (tagsUp e n 4) (fun c d=>decide (gI c 0≤gI d 0))
  have hw:=List.pairwise_mergeSort (le:=fun c d:List D=>decide (gI c 0≤gI d 0)) (fun a b c h1 h2=>decide_eq_true (Int.le_trans (of_decide_eq_true h1) (of_decide_eq_true h2))) (fun a b=>by
   by_cases h:gI a 0≤gI b 0
   ·simp [h]
   ·have:gI b 0≤gI a 0:=by omega
    simp [this]) (tagsUp e n 4)
  have hl:((tagsUp e n 4).mergeSort (fun c d=>decide (gI c 0≤gI d 0))).length=4:=by rw [hp.length_eq,tagsUp_len];rfl
  refine ⟨⟨by omega, .mk (by omega) fun c hc=>?_⟩,hl,hp,fun i j hij hj=>?_⟩
  ·obtain ⟨x,hx⟩:=List.mem_map.1 (hp.mem_iff.1 hc)
   rw [←hx.2];exact tag_i32
  ·have:=List.pairwise_iff_getElem.1 hw i j (by omega) (by omega) hij
   unfold nth
   rw [List.getElem?_eq_getElem (by omega),List.getElem?_eq_getElem (by omega)]
   exact of_decide_eq_true this
 unfold tagsL
 rw [dif_pos hx]
 exact Classical.choose_spec hx
theorem tagsL_least {e n:Int} (he:0≤e∧e≤65535) (hn:0≤n∧n≤7):e_least (tagsL e n)=0:=tags_least tagsL_ok.2 (tags_nd he hn)
theorem cb_nil {a b:Int} (h:0≤a∧a≤7) (h2:1≤b∧b≤6):p_cacheB [dn a,dn b, .fs []]:=⟨h.1,h.2,h2.1,h2.2,by show ((([]:LL).length:Nat):Int)≤b;simp;omega,e_desc_nil,rfl⟩
theorem node_A:p_node [dn 1,dn 5,db true,dn 2,dn 0,dn 0,dn 0,dn 0,db false,D.fs [],dn 0,db false,D.fs [],dn 0,db false,D.fs [],dn 0,db false,D.fs [],dn 0,db false,dn 0,dn 0,D.fs [],db false,dn 0,dn 0,D.fs [],dn 1,dn 3,D.fs [],D.fs [],D.fs []]:=⟨may_A,fun _=>cb_nil ⟨of_decide_eq_true rfl,of_decide_eq_true rfl⟩ ⟨of_decide_eq_true rfl,of_decide_eq_true rfl⟩⟩
theorem node_S:p_node [dn 1,dn 5,db true,dn 2,dn 0,dn 0,dn 0,dn 0,db false,D.fs [[d32 5]],dn 0,db false,D.fs [[d32 1]],dn 0,db false,D.fs [[d32 1]],dn 0,db false,D.fs [[d32 5]],dn 0,db true,dn 5,dn 5,D.fs (tagsL 0 1),db false,dn 0,dn 0,D.fs [],dn 1,dn 3,D.fs [],D.fs [],D.fs []]:=⟨may_S tagsL_ok.2,fun _=>cb_nil ⟨of_decide_eq_true rfl,of_decide_eq_true rfl⟩ ⟨of_decide_eq_true rfl,of_decide_eq_true rfl⟩⟩
theorem node_S1:p_node [dn 1,dn 5,db true,dn 2,dn 1,dn 0,dn 0,dn 0,db false,D.fs [[d32 5]],dn 0,db false,D.fs [[d32 1]],dn 0,db false,D.fs [[d32 1]],dn 0,db false,D.fs [[d32 5]],dn 0,db true,dn 5,dn 5,D.fs (tagsL 0 1),db false,dn 0,dn 0,D.fs [],dn 1,dn 3,D.fs [],D.fs [],D.fs []]:=⟨may_S1 tagsL_ok.2,fun _=>cb_nil ⟨of_decide_eq_true rfl,of_decide_eq_true rfl⟩ ⟨of_decide_eq_true rfl,of_decide_eq_true rfl⟩⟩
theorem node_S2:p_node [dn 1,dn 5,db true,dn 2,dn 2,dn 2,dn 1,dn 0,db false,D.fs [[d32 5]],dn 0,db false,D.fs [[d32 1]],dn 0,db false,D.fs [],dn 0,db false,D.fs [[d32 5]],dn 0,db true,dn 5,dn 5,D.fs (tagsL 1 1),db false,dn 0,dn 0,D.fs [],dn 1,dn 3,D.fs [],D.fs [[dn 0,db false,D.fs [[d32 5]],dn 0,db false,D.fs [[d32 1]],dn 0,db false,D.fs [[d32 1]],dn 0,db false,D.fs [[d32 5]],dn 0,db true,dn 5,dn 5,D.fs (tagsL 0 1)]],D.fs []]:=⟨may_S2 tagsL_ok.2 tagsL_ok.2,fun _=>cb_nil ⟨of_decide_eq_true rfl,of_decide_eq_true rfl⟩ ⟨of_decide_eq_true rfl,of_decide_eq_true rfl⟩⟩
theorem fseed_A:m_seed [dn 1,dn 5,db true,dn 2,dn 0,dn 0,dn 0,dn 0,db false,D.fs [],dn 0,db false,D.fs [],dn 0,db false,D.fs [],dn 0,db false,D.fs [],dn 0,db false,dn 0,dn 0,D.fs [],db false,dn 0,dn 0,D.fs [],dn 1,dn 3,D.fs [],D.fs [],D.fs []] true=[.a [dn 1,dn 5,db true,dn 2,dn 0,dn 0,dn 0,dn 0,db false,D.fs [[d32 5]],dn 0,db false,D.fs [[d32 1]],dn 0,db false,D.fs [[d32 1]],dn 0,db false,D.fs [[d32 5]],dn 0,db true,dn 5,dn 5,D.fs (tagsL 0 1),db false,dn 0,dn 0,D.fs [],dn 1,dn 3,D.fs [],D.fs [],D.fs []],vn 0]:=seed_ok node_A rfl (show (0:Int)≤0 from Int.le_refl 0) rfl
theorem late_not {a:List D} (h:gB a 24=false):lateC a=a.take 24++(a.drop 24).take 3++(a.drop 27).take 5++[.fs (leftT (gL a 32) (gI a 4))]:=by
 unfold lateC;rw [if_neg];intro hh;rw [hh.1] at h;cases h
theorem ftick_S:m_tick [dn 1,dn 5,db true,dn 2,dn 0,dn 0,dn 0,dn 0,db false,D.fs [[d32 5]],dn 0,db false,D.fs [[d32 1]],dn 0,db false,D.fs [[d32 1]],dn 0,db false,D.fs [[d32 5]],dn 0,db true,dn 5,dn 5,D.fs (tagsL 0 1),db false,dn 0,dn 0,D.fs [],dn 1,dn 3,D.fs [],D.fs [],D.fs []] false=[.a [dn 1,dn 5,db true,dn 2,dn 1,dn 0,dn 0,dn 0,db false,D.fs [[d32 5]],dn 0,db false,D.fs [[d32 1]],dn 0,db false,D.fs [[d32 1]],dn 0,db false,D.fs [[d32 5]],dn 0,db true,dn 5,dn 5,D.fs (tagsL 0 1),db false,dn 0,dn 0,D.fs [],dn 1,dn 3,D.fs [],D.fs [],D.fs []],vb false,vn 0]:=by
 rw [tick_stay node_S rfl (of_decide_eq_true rfl) (of_decide_eq_true rfl),late_not rfl];rfl
theorem ftick_S1:m_tick [dn 1,dn 5,db true,dn 2,dn 1,dn 0,dn 0,dn 0,db false,D.fs [[d32 5]],dn 0,db false,D.fs [[d32 1]],dn 0,db false,D.fs [[d32 1]],dn 0,db false,D.fs [[d32 5]],dn 0,db true,dn 5,dn 5,D.fs (tagsL 0 1),db false,dn 0,dn 0,D.fs [],dn 1,dn 3,D.fs [],D.fs [],D.fs []] false=[.a [dn 1,dn 5,db true,dn 2,dn 2,dn 2,dn 1,dn 0,db false,D.fs [[d32 5]],dn 0,db false,D.fs [[d32 1]],dn 0,db false,D.fs [],dn 0,db false,D.fs [[d32 5]],dn 0,db true,dn 5,dn 5,D.fs (tagsL 1 1),db false,dn 0,dn 0,D.fs [],dn 1,dn 3,D.fs [],D.fs [[dn 0,db false,D.fs [[d32 5]],dn 0,db false,D.fs [[d32 1]],dn 0,db false,D.fs [[d32 1]],dn 0,db false,D.fs [[d32 5]],dn 0,db true,dn 5,dn 5,D.fs (tagsL 0 1)]],D.fs []],vb true,vn 0]:=by
 rw [tick_turn node_S1 rfl (of_decide_eq_true rfl) ⟨of_decide_eq_true rfl,of_decide_eq_true rfl⟩ (fun h=>absurd h.2 (of_decide_eq_true rfl))]
 have e1:frzC [dn 1,dn 5,db true,dn 2,dn 1,dn 0,dn 0,dn 0,db false,D.fs [[d32 5]],dn 0,db false,D.fs [[d32 1]],dn 0,db false,D.fs [[d32 1]],dn 0,db false,D.fs [[d32 5]],dn 0,db true,dn 5,dn 5,D.fs (tagsL 0 1),db false,dn 0,dn 0,D.fs [],dn 1,dn 3,D.fs [],D.fs [],D.fs []]=[[dn 0,db false,D.fs [[d32 5]],dn 0,db false,D.fs [[d32 1]],dn 0,db false,D.fs [[d32 1]],dn 0,db false,D.fs [[d32 5]],dn 0,db true,dn 5,dn 5,D.fs (tagsL 0 1)]]:=if_pos (show (0:Int)≤0 from Int.le_refl 0)
 have e2:nxtC [dn 1,dn 5,db true,dn 2,dn 1,dn 0,dn 0,dn 0,db false,D.fs [[d32 5]],dn 0,db false,D.fs [[d32 1]],dn 0,db false,D.fs [[d32 1]],dn 0,db false,D.fs [[d32 5]],dn 0,db true,dn 5,dn 5,D.fs (tagsL 0 1),db false,dn 0,dn 0,D.fs [],dn 1,dn 3,D.fs [],D.fs [],D.fs []] [dn 2,dn 2,dn 2,dn 1,dn 0] false=begC 5 false 1 1:=if_pos (of_decide_eq_true rfl)
 have e3:trnC [dn 1,dn 5,db true,dn 2,dn 1,dn 0,dn 0,dn 0,db false,D.fs [[d32 5]],dn 0,db false,D.fs [[d32 1]],dn 0,db false,D.fs [[d32 1]],dn 0,db false,D.fs [[d32 5]],dn 0,db true,dn 5,dn 5,D.fs (tagsL 0 1),db false,dn 0,dn 0,D.fs [],dn 1,dn 3,D.fs [],D.fs [],D.fs []] [dn 2,dn 2,dn 2,dn 1,dn 0] false=[dn 1,dn 5,db true,dn 2,dn 2,dn 2,dn 1,dn 0,db false,D.fs [[d32 5]],dn 0,db false,D.fs [[d32 1]],dn 0,db false,D.fs [],dn 0,db false,D.fs [[d32 5]],dn 0,db true,dn 5,dn 5,D.fs (tagsL 1 1),db false,dn 0,dn 0,D.fs [],dn 1,dn 3,D.fs [],D.fs [[dn 0,db false,D.fs [[d32 5]],dn 0,db false,D.fs [[d32 1]],dn 0,db false,D.fs [[d32 1]],dn 0,db false,D.fs [[d32 5]],dn 0,db true,dn 5,dn 5,D.fs (tagsL 0 1)]],D.fs []]:=by
  unfold trnC;rw [e1,e2];rfl
 show [DV.a (lateC (trnC [dn 1,dn 5,db true,dn 2,dn 1,dn 0,dn 0,dn 0,db false,D.fs [[d32 5]],dn 0,db false,D.fs [[d32 1]],dn 0,db false,D.fs [[d32 1]],dn 0,db false,D.fs [[d32 5]],dn 0,db true,dn 5,dn 5,D.fs (tagsL 0 1),db false,dn 0,dn 0,D.fs [],dn 1,dn 3,D.fs [],D.fs [],D.fs []] [dn 2,dn 2,dn 2,dn 1,dn 0] false)),_,_]=_
 rw [e3,late_not rfl];rfl
theorem fcrash_S2:m_crash [dn 1,dn 5,db true,dn 2,dn 2,dn 2,dn 1,dn 0,db false,D.fs [[d32 5]],dn 0,db false,D.fs [[d32 1]],dn 0,db false,D.fs [],dn 0,db false,D.fs [[d32 5]],dn 0,db true,dn 5,dn 5,D.fs (tagsL 1 1),db false,dn 0,dn 0,D.fs [],dn 1,dn 3,D.fs [],D.fs [[dn 0,db false,D.fs [[d32 5]],dn 0,db false,D.fs [[d32 1]],dn 0,db false,D.fs [[d32 1]],dn 0,db false,D.fs [[d32 5]],dn 0,db true,dn 5,dn 5,D.fs (tagsL 0 1)]],D.fs []]=[.a [dn 1,dn 0,db false,dn 0,dn 0,dn 0,dn 0,dn 0,db false,D.fs [],dn 0,db false,D.fs [],dn 0,db false,D.fs [],dn 0,db false,D.fs [],dn 0,db false,dn 0,dn 0,D.fs [],db false,dn 0,dn 0,D.fs [],dn 0,dn 0,D.fs [],D.fs [],D.fs []],vl ([[dn 0,db false,D.fs [[d32 5]],dn 0,db false,D.fs [[d32 1]],dn 0,db false,D.fs [[d32 1]],dn 0,db false,D.fs [[d32 5]],dn 0,db true,dn 5,dn 5,D.fs (tagsL 0 1)]]++[[dn 1,db false,D.fs [[d32 5]],dn 0,db false,D.fs [[d32 1]],dn 0,db false,D.fs [],dn 0,db false,D.fs [[d32 5]],dn 0,db true,dn 5,dn 5,D.fs (tagsL 1 1)]]),vn 0]:=by
 rw [crash_up node_S2 rfl]
 have e1:frzC [dn 1,dn 5,db true,dn 2,dn 2,dn 2,dn 1,dn 0,db false,D.fs [[d32 5]],dn 0,db false,D.fs [[d32 1]],dn 0,db false,D.fs [],dn 0,db false,D.fs [[d32 5]],dn 0,db true,dn 5,dn 5,D.fs (tagsL 1 1),db false,dn 0,dn 0,D.fs [],dn 1,dn 3,D.fs [],D.fs [[dn 0,db false,D.fs [[d32 5]],dn 0,db false,D.fs [[d32 1]],dn 0,db false,D.fs [[d32 1]],dn 0,db false,D.fs [[d32 5]],dn 0,db true,dn 5,dn 5,D.fs (tagsL 0 1)]],D.fs []]=[[dn 0,db false,D.fs [[d32 5]],dn 0,db false,D.fs [[d32 1]],dn 0,db false,D.fs [[d32 1]],dn 0,db false,D.fs [[d32 5]],dn 0,db true,dn 5,dn 5,D.fs (tagsL 0 1)]]++[[dn 1,db false,D.fs [[d32 5]],dn 0,db false,D.fs [[d32 1]],dn 0,db false,D.fs [],dn 0,db false,D.fs [[d32 5]],dn 0,db true,dn 5,dn 5,D.fs (tagsL 1 1)]]:=if_pos (show (0:Int)≤1 from of_decide_eq_true rfl)
 rw [e1];rfl
end Go.Vc

namespace Go.Vc
open Classical
def dueW (l:LL) (k x i:Int) (b:Bool):Prop:=b=true↔∃ j<i.toNat,nth l j 0≤k∧nth l j 1=x
theorem dueW.zero {l:LL} {k x:Int}:dueW l k x 0 false:=⟨fun h=>Bool.noConfusion h,fun ⟨j,h,_⟩=>absurd h (by simp)⟩
theorem dueW.all {l:LL} {k x i:Int} {b:Bool} (h:dueW l k x i b) (hi:¬i<(l.length:Int)) (hi2:i≤(l.length:Int)):b=true↔∃ c∈l,gI c 0≤k∧gI c 1=x:=by
 refine h.trans ⟨fun ⟨j,h1,h2⟩=>?_,fun ⟨c,h1,h2⟩=>?_⟩
 ·have hj:j<l.length:=by omega
  refine ⟨l[j],List.getElem_mem hj,?_⟩
  unfold nth at h2
  rw [List.getElem?_eq_getElem hj] at h2
  exact h2
 ·obtain ⟨j,hj,e⟩:=List.getElem_of_mem h1
  refine ⟨j,by omega,?_⟩
  unfold nth
  rw [List.getElem?_eq_getElem hj,e]
  exact h2
attribute [irreducible] dueW
theorem tick_inv {a d:List D} {f t:Bool} {x:Int} (h:[DV.a d,vb t,vn x]=m_tick a f) (hx:¬x≠0):p_node a∧gB a 2=true∧gI a 4≠2147483647∧((t=true∧¬(takesC a∧(gL a 31).length=1024)∧(gI a 3≤gI a 4+1-gI a 5∧gI a 6<65535)∧d=lateC (trnC a [dn (gI a 3),dn (gI a 4+1),dn (gI a 4+1),dn (gI a 6+1),dn (gI a 7)] f))∨(t=false∧¬(gI a 3≤gI a 4+1-gI a 5∧gI a 6<65535)∧d=lateC (setC a [dn (gI a 3),dn (gI a 4+1),dn (gI a 5),dn (gI a 6),dn (gI a 7)]))):=by
 have no:∀ {u v:List DV} {e:Int},e≠0→[DV.a d,vb t,vn x]=[DV.a (downC 0),vb false,vn e]→False:=fun {u v e} he hh=>by
  simp only [List.cons.injEq,DV.c.injEq,D.raw.injEq,Value.int.injEq,true_and,and_true] at hh
  omega
 unfold m_tick at h
 by_cases h1:p_node a
 ·rw [if_neg (fun hh=>hh h1)] at h
  by_cases h2:gB a 2=false
  ·rw [if_pos h2] at h;exact (no (u:=[]) (v:=[]) (by decide) h).elim
  ·rw [if_neg h2] at h
   by_cases h3:gI a 4=2147483647
   ·rw [if_pos h3] at h;exact (no (u:=[]) (v:=[]) (by decide) h).elim
   ·rw [if_neg h3] at h
    refine ⟨h1,by simpa using h2,h3,?_⟩
    by_cases h4:gI a 3≤gI a 4+1-gI a 5∧gI a 6<65535
    ·rw [if_pos h4] at h
     by_cases h5:takesC a∧(gL a 31).length=1024
     ·rw [if_pos h5] at h;exact (no (u:=[]) (v:=[]) (by decide) h).elim
     ·rw [if_neg h5] at h
      simp only [List.cons.injEq,DV.a.injEq,DV.c.injEq,D.raw.injEq,Value.bool.injEq,Value.int.injEq,true_and,and_true] at h
      exact .inl ⟨h.2.1,h5,h4,h.1⟩
    ·rw [if_neg h4] at h
     simp only [List.cons.injEq,DV.a.injEq,DV.c.injEq,D.raw.injEq,Value.bool.injEq,Value.int.injEq,true_and,and_true] at h
     exact .inr ⟨h.2.1,h4,h.1⟩
 ·rw [if_pos h1] at h;exact (no (u:=[]) (v:=[]) (by decide) h).elim
end Go.Vc
