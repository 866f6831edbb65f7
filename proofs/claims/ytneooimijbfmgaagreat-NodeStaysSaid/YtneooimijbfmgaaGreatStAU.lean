import Derived.Test.YtneooimijbfmgaaGreatProg
import Derived.KernelRfl
import Derived.Test.YtneooimijbfmgaaGreatStAR
import Derived.Test.YtneooimijbfmgaaGreatStAT
set_option linter.unusedVariables false
set_option linter.unusedSimpArgs false
set_option linter.unusedSectionVars false
noncomputable section
namespace Go.Vc
open Classical
theorem e_past_iff {l:LL}:e_past l=0↔l.length≤1024∧∀ i<l.length,at_past l i:=by
 unfold e_past
 constructor
 ·intro h
  split at h
  ·cases h
  ·split at h
   ·rename_i h1 h2
    exact ⟨by omega,fun i hi=>h2 i (by omega)⟩
   ·cases h
 ·rintro ⟨h1,h2⟩
  rw [if_neg (by omega),if_pos]
  exact fun i hi=>h2 i (by omega)
theorem nth_app1 {l:LL} {c:List D} {i:Nat} (h:i<l.length):nth (l++[c]) i 0=nth l i 0:=by
 unfold nth;rw [List.getElem?_append_left h]
theorem nth_app2 {l:LL} {c:List D}:nth (l++[c]) l.length 0=gI c 0:=by
 unfold nth;rw [List.getElem?_append_right (Nat.le_refl _)];simp
theorem past_app {l:LL} {e:Int} {p:List D} (h:e_past l=0) (hp:p_part p) (h0:0≤e) (h1:e≤65535) (hl:l.length≠1024) (hlast:0<l.length→nth l (l.length-1) 0<e):e_past (l++[dn e::p])=0:=by
 obtain ⟨g1,g2⟩:=e_past_iff.1 h
 refine e_past_iff.2 ⟨by rw [List.length_append];simp;omega,fun i hi=>?_⟩
 rw [List.length_append] at hi
 by_cases hil:i<l.length
 ·obtain ⟨a1,a2,a3⟩:=g2 i hil
  refine ⟨?_,by rw [nth_app1 hil];exact a2,by rw [List.getElem?_append_left hil];exact a3⟩
  rw [nth_app1 hil]
  unfold prv at a1 ⊢
  split
  ·rename_i h0;rw [if_pos h0] at a1;exact a1
  ·rename_i h0;rw [if_neg h0] at a1;rw [nth_app1 (by omega)];exact a1
 ·have e1:i=l.length:=by simp at hi;omega
  subst e1
  refine ⟨?_,by rw [nth_app2];exact h1,by rw [List.getElem?_append_right (Nat.le_refl _)];simpa using hp⟩
  rw [nth_app2]
  unfold prv
  split
  ·show (-1:Int)<e;omega
  ·rw [nth_app1 (by omega)];exact hlast (by omega)
theorem past_last {l:LL} {e:Int} {p:List D}:nth (l++[dn e::p]) ((l++[dn e::p]).length-1) 0=e:=by
 rw [List.length_append];exact nth_app2
theorem left_ok {l:LL} {k:Int} (h:e_timer l=0):e_timer (leftT l k)=0:=by
 have hr:risT (leftT l k):=List.Pairwise.filter _ (ris_timer h)
 have hl:=timer_lim h
 have hlen:(leftT l k).length≤l.length:=List.length_filter_le _ _
 have hm:∀ c∈l,p_timer (gI c 0) (gI c 1):=by
  unfold e_timer at h
  split at h
  ·cases h
  ·split at h
   ·rename_i hu
    intro c hc
    obtain ⟨i,hi,e⟩:=List.getElem_of_mem hc
    have:=(hu i (by omega)).1
    unfold nth at this
    rw [List.getElem?_eq_getElem hi,e] at this
    exact this
   ·cases h
 unfold e_timer
 rw [if_neg (by omega),if_pos]
 intro i hi
 have hi':i<(leftT l k).length:=by omega
 refine ⟨?_,fun h0=>?_⟩
 ·have:=hm _ (List.mem_filter.1 (List.getElem_mem hi')).1
  unfold nth
  rw [List.getElem?_eq_getElem hi']
  exact this
 ·have:=List.pairwise_iff_getElem.1 hr (i-1) i (by omega) hi' (by omega)
  unfold nth
  rw [List.getElem?_eq_getElem hi',List.getElem?_eq_getElem (show i-1<(leftT l k).length by omega)]
  exact this
theorem next_stay {x0 x1 x3 x4 x5 x6 x7 x10 x13 x16 x19 x21 x22 x25 x26 x28 x29:Int} {b8 b11 b14 b17 b20 b24:Bool} {l9 l12 l15 l18 l23 l27 l30 l31 l32:LL} {q0 q1 q2:Int} {w:Bool} {n t:Int} {tm:LL} (hp:p_node [dn x0,dn x1,db true,dn x3,dn x4,dn x5,dn x6,dn x7,db b8,D.fs l9,dn x10,db b11,D.fs l12,dn x13,db b14,D.fs l15,dn x16,db b17,D.fs l18,dn x19,db b20,dn x21,dn x22,D.fs l23,db b24,dn x25,dn x26,D.fs l27,dn x28,dn x29,D.fs l30,D.fs l31,D.fs l32]) (hk:p_clock [dn q0,dn q1,dn q2,dn x6,dn x7]) (hw:(w=false∧n=0∧t=0)∨(w=b24∧n=x25∧t=x26)) (ht:e_timer tm=0):p_node ([dn x0,dn x1,db true]++[dn q0,dn q1,dn q2,dn x6,dn x7]++[db b8,D.fs l9,dn x10,db b11,D.fs l12,dn x13,db b14,D.fs l15,dn x16,db b17,D.fs l18,dn x19,db b20,dn x21,dn x22,D.fs l23]++[db w,dn n,dn t]++[D.fs l27,dn x28,dn x29,D.fs l30,D.fs l31]++[D.fs tm]):=by
 obtain ⟨f1,f2,f3,f4⟩:=node_f hp.1
 obtain ⟨k1,k2,k3,k4,k5,k6,k7,k8,k9,k10,k11,k12,k13,k14,k15⟩:=f4 rfl
 obtain ⟨c1,c2,c3,c4,c5,c6,c7,c8,c9,c10⟩:=clock_b k3
 refine ⟨node_mk f1 f2 ⟨k1,k2,hk,k4,k5,?_,?_,k8,ht,k10,k11,k12,k13,k14,k15⟩,fun _=>hp.2 rfl⟩
 ·rcases hw with ⟨rfl,rfl,rfl⟩ | ⟨rfl,rfl,rfl⟩
  ·exact fun _=>⟨rfl,rfl⟩
  ·exact k6
 ·rcases hw with ⟨rfl,rfl,rfl⟩ | ⟨rfl,rfl,rfl⟩
  ·exact fun h=>Bool.noConfusion h
  ·exact k7
theorem next_tt {x0 x1 x3 x4 x5 x6 x7 x10 x13 x16 x19 x21 x22 x25 x26 x28 x29:Int} {b8 b11 b14 b17 b20 b24:Bool} {l9 l12 l15 l18 l23 l27 l30 l31 l32:LL} {f:Bool} {q0 q1 q2 q3:Int} {tm:LL} (hp:p_node [dn x0,dn x1,db true,dn x3,dn x4,dn x5,dn x6,dn x7,db b8,D.fs l9,dn x10,db b11,D.fs l12,dn x13,db b14,D.fs l15,dn x16,db b17,D.fs l18,dn x19,db b20,dn x21,dn x22,D.fs l23,db b24,dn x25,dn x26,D.fs l27,dn x28,dn x29,D.fs l30,D.fs l31,D.fs l32]) (hk:p_clock [dn q0,dn q1,dn q2,dn q3,dn x7]) (hlt:x6<q3) (h5:x7≤x6) (h6:l31.length≠1024) (ht:e_timer tm=0):p_node ([dn x0,dn x1,db true]++[dn q0,dn q1,dn q2,dn q3,dn x7]++(massOf x1 f++[db true,dn x1,dn x1,D.fs (tagsL q3 x0)])++[db false,dn 0,dn 0]++[D.fs l27,dn x28,dn x29,D.fs l30]++[D.fs (l31++[dn x6::[db b8,D.fs l9,dn x10,db b11,D.fs l12,dn x13,db b14,D.fs l15,dn x16,db b17,D.fs l18,dn x19,db b20,dn x21,dn x22,D.fs l23]]),D.fs tm]):=by
 obtain ⟨f1,f2,f3,f4⟩:=node_f hp.1
 obtain ⟨k1,k2,k3,k4,k5,k6,k7,k8,k9,k10,k11,k12,k13,k14,k15⟩:=f4 rfl
 obtain ⟨c1,c2,c3,c4,c5,c6,c7,c8,c9,c10⟩:=clock_b k3
 obtain ⟨d1,d2,d3,d4,d5,d6,d7,d8,d9,d10⟩:=clock_b hk
 refine ⟨node_mk f1 f2 ⟨k1,k2,hk,part_of f ⟨k1,k2⟩ (tagsL_least ⟨d6,d7⟩ ⟨f1,f2⟩),(fun h=>absurd (show x7≤q3 by omega) h),fun _=>⟨rfl,rfl⟩,fun h=>Bool.noConfusion h,k8,ht,k10,(past_app k11 k4 c6 c7 h6 k12),?_,k13,k14,k15⟩,fun _=>hp.2 rfl⟩
 exact fun _=>by rw [past_last];exact hlt
theorem next_ft {x0 x1 x3 x4 x5 x6 x7 x10 x13 x16 x19 x21 x22 x25 x26 x28 x29:Int} {b8 b11 b14 b17 b20 b24:Bool} {l9 l12 l15 l18 l23 l27 l30 l31 l32:LL} {f:Bool} {q0 q1 q2 q3:Int} {tm:LL} (hp:p_node [dn x0,dn x1,db true,dn x3,dn x4,dn x5,dn x6,dn x7,db b8,D.fs l9,dn x10,db b11,D.fs l12,dn x13,db b14,D.fs l15,dn x16,db b17,D.fs l18,dn x19,db b20,dn x21,dn x22,D.fs l23,db b24,dn x25,dn x26,D.fs l27,dn x28,dn x29,D.fs l30,D.fs l31,D.fs l32]) (hk:p_clock [dn q0,dn q1,dn q2,dn q3,dn x7]) (hlt:x6<q3) (h7:x7≤q3) (ht:e_timer tm=0):p_node ([dn x0,dn x1,db true]++[dn q0,dn q1,dn q2,dn q3,dn x7]++(massOf x1 f++[db true,dn x1,dn x1,D.fs (tagsL q3 x0)])++[db false,dn 0,dn 0]++[D.fs l27,dn x28,dn x29,D.fs l30]++[D.fs l31,D.fs tm]):=by
 obtain ⟨f1,f2,f3,f4⟩:=node_f hp.1
 obtain ⟨k1,k2,k3,k4,k5,k6,k7,k8,k9,k10,k11,k12,k13,k14,k15⟩:=f4 rfl
 obtain ⟨c1,c2,c3,c4,c5,c6,c7,c8,c9,c10⟩:=clock_b k3
 obtain ⟨d1,d2,d3,d4,d5,d6,d7,d8,d9,d10⟩:=clock_b hk
 refine ⟨node_mk f1 f2 ⟨k1,k2,hk,part_of f ⟨k1,k2⟩ (tagsL_least ⟨d6,d7⟩ ⟨f1,f2⟩),(fun h=>absurd (show x7≤q3 by omega) h),fun _=>⟨rfl,rfl⟩,fun h=>Bool.noConfusion h,k8,ht,k10,k11,?_,k13,k14,k15⟩,fun _=>hp.2 rfl⟩
 exact fun h=>Int.lt_trans (k12 h) hlt
theorem next_ff {x0 x1 x3 x4 x5 x6 x7 x10 x13 x16 x19 x21 x22 x25 x26 x28 x29:Int} {b8 b11 b14 b17 b20 b24:Bool} {l9 l12 l15 l18 l23 l27 l30 l31 l32:LL} {f:Bool} {q0 q1 q2 q3:Int} {tm:LL} (hp:p_node [dn x0,dn x1,db true,dn x3,dn x4,dn x5,dn x6,dn x7,db b8,D.fs l9,dn x10,db b11,D.fs l12,dn x13,db b14,D.fs l15,dn x16,db b17,D.fs l18,dn x19,db b20,dn x21,dn x22,D.fs l23,db b24,dn x25,dn x26,D.fs l27,dn x28,dn x29,D.fs l30,D.fs l31,D.fs l32]) (hk:p_clock [dn q0,dn q1,dn q2,dn q3,dn x7]) (hlt:x6<q3) (h5:¬x7≤x6) (h7:¬x7≤q3) (ht:e_timer tm=0):p_node ([dn x0,dn x1,db true]++[dn q0,dn q1,dn q2,dn q3,dn x7]++zPart++[db false,dn 0,dn 0]++[D.fs l27,dn x28,dn x29,D.fs l30]++[D.fs l31,D.fs tm]):=by
 obtain ⟨f1,f2,f3,f4⟩:=node_f hp.1
 obtain ⟨k1,k2,k3,k4,k5,k6,k7,k8,k9,k10,k11,k12,k13,k14,k15⟩:=f4 rfl
 obtain ⟨c1,c2,c3,c4,c5,c6,c7,c8,c9,c10⟩:=clock_b k3
 obtain ⟨d1,d2,d3,d4,d5,d6,d7,d8,d9,d10⟩:=clock_b hk
 refine ⟨node_mk f1 f2 ⟨k1,k2,hk,part_z,(fun _=>rfl),fun _=>⟨rfl,rfl⟩,fun h=>Bool.noConfusion h,k8,ht,k10,k11,?_,k13,k14,k15⟩,fun _=>hp.2 rfl⟩
 exact fun h=>Int.lt_trans (k12 h) hlt
end Go.Vc

namespace Go.Vc
open Classical
theorem cache_sh {x y:Int} {l:LL} (h:DShs cacheS [dn x,dn y, .fs l]):(-9223372036854775808≤x∧x≤9223372036854775807)∧(-9223372036854775808≤y∧y≤9223372036854775807)∧LSh pairS l:=by
 simp only [dshs_cons,dshs_nil,dsh_int,dsh_sl,rng64,and_true] at h
 exact h
theorem ls_abs {v:Int} (h:inV v):LSh [s32] (if v=0 then [] else [[d32 v.natAbs]]):=by
 obtain ⟨h1,h2⟩:=h
 split
 ·exact ⟨by simp,ls_nil⟩
 ·exact ls_1 (by omega) (by omega)
theorem ls_fst {f:Bool}:LSh [s32] (if f=true then [[d32 1]] else []):=by
 split
 ·exact ls_one
 ·exact ⟨by simp,ls_nil⟩
theorem frz_ls {l:LL} {e:Int} {p:List D} (h:LSh frozS l) (hl:l.length≤1024) (h0:0≤e) (h1:e≤65535) (hp:DShs partS p):LSh frozS (l++[dn e::p]):=by
 have e1:(l++[dn e::p]).length=l.length+1:=by simp
 refine ⟨by omega, .mk (by omega) fun cs hc=>?_⟩
 rcases List.mem_append.1 hc with hc | hc
 ·exact h.2.els cs hc
 ·rw [List.mem_singleton] at hc;subst hc
  exact dshs_cons.2 ⟨dsh_int.2 ⟨by omega,by omega⟩,hp⟩
def stepN (a d:List D) (t:Bool):Prop:=p_node d∧DShs nodeS d∧gB d 2=true∧gI d 1=gI a 1∧gI d 7=gI a 7∧(t=true→gI a 6<gI d 6∧gB d 24=false∧gL d 31=frzC a∧(takesC d→(partC d).take 3=dyOf (gI d 1))∧(¬takesC d→partC d=zPart))∧(t=false→gI d 6=gI a 6∧partC d=partC a∧gL d 31=gL a 31)
theorem wait_sh {x0 x1 x3 x4 x5 x6 x7 x10 x13 x16 x19 x21 x22 x25 x26 x28 x29:Int} {b8 b11 b14 b17 b20 b24:Bool} {l9 l12 l15 l18 l23 l27 l30 l31 l32:LL} (h:DShs nodeS [dn x0,dn x1,db true,dn x3,dn x4,dn x5,dn x6,dn x7,db b8,D.fs l9,dn x10,db b11,D.fs l12,dn x13,db b14,D.fs l15,dn x16,db b17,D.fs l18,dn x19,db b20,dn x21,dn x22,D.fs l23,db b24,dn x25,dn x26,D.fs l27,dn x28,dn x29,D.fs l30,D.fs l31,D.fs l32]):(-9223372036854775808≤x25∧x25≤9223372036854775807)∧(-9223372036854775808≤x26∧x26≤9223372036854775807):=by
 have h25:=h.2 25 s64 (dn x25) rfl rfl
 have h26:=h.2 26 s64 (dn x26) rfl rfl
 exact ⟨dsh_int.1 h25,dsh_int.1 h26⟩
theorem step_stay {x0 x1 x3 x4 x5 x6 x7 x10 x13 x16 x19 x21 x22 x25 x26 x28 x29:Int} {b8 b11 b14 b17 b20 b24:Bool} {l9 l12 l15 l18 l23 l27 l30 l31 l32:LL} {q0 q1 q2:Int} {w:Bool} {n t:Int} {tm:LL} (hp:p_node [dn x0,dn x1,db true,dn x3,dn x4,dn x5,dn x6,dn x7,db b8,D.fs l9,dn x10,db b11,D.fs l12,dn x13,db b14,D.fs l15,dn x16,db b17,D.fs l18,dn x19,db b20,dn x21,dn x22,D.fs l23,db b24,dn x25,dn x26,D.fs l27,dn x28,dn x29,D.fs l30,D.fs l31,D.fs l32]) (hsh:DShs nodeS [dn x0,dn x1,db true,dn x3,dn x4,dn x5,dn x6,dn x7,db b8,D.fs l9,dn x10,db b11,D.fs l12,dn x13,db b14,D.fs l15,dn x16,db b17,D.fs l18,dn x19,db b20,dn x21,dn x22,D.fs l23,db b24,dn x25,dn x26,D.fs l27,dn x28,dn x29,D.fs l30,D.fs l31,D.fs l32]) (hk:p_clock [dn q0,dn q1,dn q2,dn x6,dn x7]) (hw:(w=false∧n=0∧t=0)∨(w=b24∧n=x25∧t=x26)) (ht:e_timer tm=0) (hts:LSh pairS tm):stepN [dn x0,dn x1,db true,dn x3,dn x4,dn x5,dn x6,dn x7,db b8,D.fs l9,dn x10,db b11,D.fs l12,dn x13,db b14,D.fs l15,dn x16,db b17,D.fs l18,dn x19,db b20,dn x21,dn x22,D.fs l23,db b24,dn x25,dn x26,D.fs l27,dn x28,dn x29,D.fs l30,D.fs l31,D.fs l32] ([dn x0,dn x1,db true]++[dn q0,dn q1,dn q2,dn x6,dn x7]++[db b8,D.fs l9,dn x10,db b11,D.fs l12,dn x13,db b14,D.fs l15,dn x16,db b17,D.fs l18,dn x19,db b20,dn x21,dn x22,D.fs l23]++[db w,dn n,dn t]++[D.fs l27,dn x28,dn x29,D.fs l30,D.fs l31]++[D.fs tm]) false:=by
 refine ⟨next_stay hp hk hw ht,?_,rfl,rfl,rfl,fun h=>Bool.noConfusion h,fun _=>⟨rfl,rfl,rfl⟩⟩
 obtain ⟨f1,f2,f3,f4⟩:=node_f hp.1
 obtain ⟨k1,k2,k3,k4,k5,k6,k7,k8,k9,k10,k11,k12,k13,k14,k15⟩:=f4 rfl
 obtain ⟨c1,c2,c3,c4,c5,c6,c7,c8,c9,c10⟩:=clock_b k3
 obtain ⟨hs1,hs2,hs3,hs4,hs5,hs6⟩:=node_sh hsh
 obtain ⟨j1,j2,j3⟩:=cache_sh hs4
 obtain ⟨d1,d2,d3,d4,d5,d6,d7,d8,d9,d10⟩:=clock_b hk
 have hs2':=hs2
 have hwr:(-9223372036854775808≤n∧n≤9223372036854775807)∧(-9223372036854775808≤t∧t≤9223372036854775807):=by
  rcases hw with ⟨_,rfl,rfl⟩ | ⟨_,rfl,rfl⟩
  ·exact ⟨⟨by decide,by decide⟩,⟨by decide,by decide⟩⟩
  ·exact wait_sh hsh
 show DShs nodeS [dn x0,dn x1,db true,dn q0,dn q1,dn q2,dn x6,dn x7,db b8,D.fs l9,dn x10,db b11,D.fs l12,dn x13,db b14,D.fs l15,dn x16,db b17,D.fs l18,dn x19,db b20,dn x21,dn x22,D.fs l23,db w,dn n,dn t,D.fs l27,dn x28,dn x29,D.fs l30,D.fs l31,D.fs tm]
 simp only [dshs_cons,dshs_nil,dsh_int,dsh_bool,dsh_sl,rng64,true_and,and_true]
 simp only [dshs_cons,dshs_nil,dsh_int,dsh_bool,dsh_sl,rng64,true_and,and_true] at hs2
 obtain ⟨m9,m10,m12,m13,m15,m16,m18,m19,m21,m22,m23⟩:=hs2
 repeat' apply And.intro
 all_goals first
  | omega
  | assumption
  | exact ls_nil
  | exact ls_one.1
  | exact ls_one.2
  | exact (ls_abs ⟨k1,k2⟩).1
  | exact (ls_abs ⟨k1,k2⟩).2
  | exact ls_fst.1
  | exact ls_fst.2
  | exact tagsL_ok.1.1
  | exact tagsL_ok.1.2
  | exact hts.1
  | exact hts.2
  | exact hs3.1
  | exact hs3.2
  | exact hs5.1
  | exact hs5.2
  | exact j3.1
  | exact j3.2
  | exact m9.1
  | exact m9.2
  | exact m12.1
  | exact m12.2
  | exact m15.1
  | exact m15.2
  | exact m18.1
  | exact m18.2
  | exact m23.1
  | exact m23.2
  | exact (frz_ls hs5 (past_lim k11) c6 c7 hs2').1
  | exact (frz_ls hs5 (past_lim k11) c6 c7 hs2').2
  | (simp;done)
theorem step_tt {x0 x1 x3 x4 x5 x6 x7 x10 x13 x16 x19 x21 x22 x25 x26 x28 x29:Int} {b8 b11 b14 b17 b20 b24:Bool} {l9 l12 l15 l18 l23 l27 l30 l31 l32:LL} {f:Bool} {q0 q1 q2 q3:Int} {tm:LL} (hp:p_node [dn x0,dn x1,db true,dn x3,dn x4,dn x5,dn x6,dn x7,db b8,D.fs l9,dn x10,db b11,D.fs l12,dn x13,db b14,D.fs l15,dn x16,db b17,D.fs l18,dn x19,db b20,dn x21,dn x22,D.fs l23,db b24,dn x25,dn x26,D.fs l27,dn x28,dn x29,D.fs l30,D.fs l31,D.fs l32]) (hsh:DShs nodeS [dn x0,dn x1,db true,dn x3,dn x4,dn x5,dn x6,dn x7,db b8,D.fs l9,dn x10,db b11,D.fs l12,dn x13,db b14,D.fs l15,dn x16,db b17,D.fs l18,dn x19,db b20,dn x21,dn x22,D.fs l23,db b24,dn x25,dn x26,D.fs l27,dn x28,dn x29,D.fs l30,D.fs l31,D.fs l32]) (hk:p_clock [dn q0,dn q1,dn q2,dn q3,dn x7]) (hlt:x6<q3) (h5:x7≤x6) (h6:l31.length≠1024) (ht:e_timer tm=0) (hts:LSh pairS tm):stepN [dn x0,dn x1,db true,dn x3,dn x4,dn x5,dn x6,dn x7,db b8,D.fs l9,dn x10,db b11,D.fs l12,dn x13,db b14,D.fs l15,dn x16,db b17,D.fs l18,dn x19,db b20,dn x21,dn x22,D.fs l23,db b24,dn x25,dn x26,D.fs l27,dn x28,dn x29,D.fs l30,D.fs l31,D.fs l32] ([dn x0,dn x1,db true]++[dn q0,dn q1,dn q2,dn q3,dn x7]++(massOf x1 f++[db true,dn x1,dn x1,D.fs (tagsL q3 x0)])++[db false,dn 0,dn 0]++[D.fs l27,dn x28,dn x29,D.fs l30]++[D.fs (l31++[dn x6::[db b8,D.fs l9,dn x10,db b11,D.fs l12,dn x13,db b14,D.fs l15,dn x16,db b17,D.fs l18,dn x19,db b20,dn x21,dn x22,D.fs l23]]),D.fs tm]) true:=by
 refine ⟨next_tt (f:=f) hp hk hlt h5 h6 ht,?_,rfl,rfl,rfl,fun _=>⟨hlt,rfl,((show frzC [dn x0,dn x1,db true,dn x3,dn x4,dn x5,dn x6,dn x7,db b8,D.fs l9,dn x10,db b11,D.fs l12,dn x13,db b14,D.fs l15,dn x16,db b17,D.fs l18,dn x19,db b20,dn x21,dn x22,D.fs l23,db b24,dn x25,dn x26,D.fs l27,dn x28,dn x29,D.fs l30,D.fs l31,D.fs l32]=(l31++[dn x6::[db b8,D.fs l9,dn x10,db b11,D.fs l12,dn x13,db b14,D.fs l15,dn x16,db b17,D.fs l18,dn x19,db b20,dn x21,dn x22,D.fs l23]]) from if_pos h5).symm),fun _=>rfl,fun h=>absurd (show x7≤q3 by omega) h⟩,fun h=>Bool.noConfusion h⟩
 obtain ⟨f1,f2,f3,f4⟩:=node_f hp.1
 obtain ⟨k1,k2,k3,k4,k5,k6,k7,k8,k9,k10,k11,k12,k13,k14,k15⟩:=f4 rfl
 obtain ⟨c1,c2,c3,c4,c5,c6,c7,c8,c9,c10⟩:=clock_b k3
 obtain ⟨hs1,hs2,hs3,hs4,hs5,hs6⟩:=node_sh hsh
 obtain ⟨j1,j2,j3⟩:=cache_sh hs4
 obtain ⟨d1,d2,d3,d4,d5,d6,d7,d8,d9,d10⟩:=clock_b hk
 have hs2':=hs2
 show DShs nodeS [dn x0,dn x1,db true,dn q0,dn q1,dn q2,dn q3,dn x7,db (decide (x1<0)),D.fs (if x1=0 then [] else [[d32 x1.natAbs]]),dn 0,db false,D.fs [[d32 1]],dn 0,db false,D.fs (if f=true then [[d32 1]] else []),dn 0,db (decide (x1<0)),D.fs (if x1=0 then [] else [[d32 x1.natAbs]]),dn 0,db true,dn x1,dn x1,D.fs (tagsL q3 x0),db false,dn 0,dn 0,D.fs l27,dn x28,dn x29,D.fs l30,D.fs (l31++[dn x6::[db b8,D.fs l9,dn x10,db b11,D.fs l12,dn x13,db b14,D.fs l15,dn x16,db b17,D.fs l18,dn x19,db b20,dn x21,dn x22,D.fs l23]]),D.fs tm]
 simp only [dshs_cons,dshs_nil,dsh_int,dsh_bool,dsh_sl,rng64,true_and,and_true]
 simp only [dshs_cons,dshs_nil,dsh_int,dsh_bool,dsh_sl,rng64,true_and,and_true] at hs2
 obtain ⟨m9,m10,m12,m13,m15,m16,m18,m19,m21,m22,m23⟩:=hs2
 repeat' apply And.intro
 all_goals first
  | omega
  | assumption
  | exact ls_nil
  | exact ls_one.1
  | exact ls_one.2
  | exact (ls_abs ⟨k1,k2⟩).1
  | exact (ls_abs ⟨k1,k2⟩).2
  | exact ls_fst.1
  | exact ls_fst.2
  | exact tagsL_ok.1.1
  | exact tagsL_ok.1.2
  | exact hts.1
  | exact hts.2
  | exact hs3.1
  | exact hs3.2
  | exact hs5.1
  | exact hs5.2
  | exact j3.1
  | exact j3.2
  | exact m9.1
  | exact m9.2
  | exact m12.1
  | exact m12.2
  | exact m15.1
  | exact m15.2
  | exact m18.1
  | exact m18.2
  | exact m23.1
  | exact m23.2
  | exact (frz_ls hs5 (past_lim k11) c6 c7 hs2').1
  | exact (frz_ls hs5 (past_lim k11) c6 c7 hs2').2
  | (simp;done)
theorem step_ft {x0 x1 x3 x4 x5 x6 x7 x10 x13 x16 x19 x21 x22 x25 x26 x28 x29:Int} {b8 b11 b14 b17 b20 b24:Bool} {l9 l12 l15 l18 l23 l27 l30 l31 l32:LL} {f:Bool} {q0 q1 q2 q3:Int} {tm:LL} (hp:p_node [dn x0,dn x1,db true,dn x3,dn x4,dn x5,dn x6,dn x7,db b8,D.fs l9,dn x10,db b11,D.fs l12,dn x13,db b14,D.fs l15,dn x16,db b17,D.fs l18,dn x19,db b20,dn x21,dn x22,D.fs l23,db b24,dn x25,dn x26,D.fs l27,dn x28,dn x29,D.fs l30,D.fs l31,D.fs l32]) (hsh:DShs nodeS [dn x0,dn x1,db true,dn x3,dn x4,dn x5,dn x6,dn x7,db b8,D.fs l9,dn x10,db b11,D.fs l12,dn x13,db b14,D.fs l15,dn x16,db b17,D.fs l18,dn x19,db b20,dn x21,dn x22,D.fs l23,db b24,dn x25,dn x26,D.fs l27,dn x28,dn x29,D.fs l30,D.fs l31,D.fs l32]) (hk:p_clock [dn q0,dn q1,dn q2,dn q3,dn x7]) (hlt:x6<q3) (h5:¬x7≤x6) (h7:x7≤q3) (ht:e_timer tm=0) (hts:LSh pairS tm):stepN [dn x0,dn x1,db true,dn x3,dn x4,dn x5,dn x6,dn x7,db b8,D.fs l9,dn x10,db b11,D.fs l12,dn x13,db b14,D.fs l15,dn x16,db b17,D.fs l18,dn x19,db b20,dn x21,dn x22,D.fs l23,db b24,dn x25,dn x26,D.fs l27,dn x28,dn x29,D.fs l30,D.fs l31,D.fs l32] ([dn x0,dn x1,db true]++[dn q0,dn q1,dn q2,dn q3,dn x7]++(massOf x1 f++[db true,dn x1,dn x1,D.fs (tagsL q3 x0)])++[db false,dn 0,dn 0]++[D.fs l27,dn x28,dn x29,D.fs l30]++[D.fs l31,D.fs tm]) true:=by
 refine ⟨next_ft (f:=f) hp hk hlt h7 ht,?_,rfl,rfl,rfl,fun _=>⟨hlt,rfl,((show frzC [dn x0,dn x1,db true,dn x3,dn x4,dn x5,dn x6,dn x7,db b8,D.fs l9,dn x10,db b11,D.fs l12,dn x13,db b14,D.fs l15,dn x16,db b17,D.fs l18,dn x19,db b20,dn x21,dn x22,D.fs l23,db b24,dn x25,dn x26,D.fs l27,dn x28,dn x29,D.fs l30,D.fs l31,D.fs l32]=l31 from if_neg h5).symm),fun _=>rfl,fun h=>absurd (show x7≤q3 by omega) h⟩,fun h=>Bool.noConfusion h⟩
 obtain ⟨f1,f2,f3,f4⟩:=node_f hp.1
 obtain ⟨k1,k2,k3,k4,k5,k6,k7,k8,k9,k10,k11,k12,k13,k14,k15⟩:=f4 rfl
 obtain ⟨c1,c2,c3,c4,c5,c6,c7,c8,c9,c10⟩:=clock_b k3
 obtain ⟨hs1,hs2,hs3,hs4,hs5,hs6⟩:=node_sh hsh
 obtain ⟨j1,j2,j3⟩:=cache_sh hs4
 obtain ⟨d1,d2,d3,d4,d5,d6,d7,d8,d9,d10⟩:=clock_b hk
 have hs2':=hs2
 show DShs nodeS [dn x0,dn x1,db true,dn q0,dn q1,dn q2,dn q3,dn x7,db (decide (x1<0)),D.fs (if x1=0 then [] else [[d32 x1.natAbs]]),dn 0,db false,D.fs [[d32 1]],dn 0,db false,D.fs (if f=true then [[d32 1]] else []),dn 0,db (decide (x1<0)),D.fs (if x1=0 then [] else [[d32 x1.natAbs]]),dn 0,db true,dn x1,dn x1,D.fs (tagsL q3 x0),db false,dn 0,dn 0,D.fs l27,dn x28,dn x29,D.fs l30,D.fs l31,D.fs tm]
 simp only [dshs_cons,dshs_nil,dsh_int,dsh_bool,dsh_sl,rng64,true_and,and_true]
 simp only [dshs_cons,dshs_nil,dsh_int,dsh_bool,dsh_sl,rng64,true_and,and_true] at hs2
 obtain ⟨m9,m10,m12,m13,m15,m16,m18,m19,m21,m22,m23⟩:=hs2
 repeat' apply And.intro
 all_goals first
  | omega
  | assumption
  | exact ls_nil
  | exact ls_one.1
  | exact ls_one.2
  | exact (ls_abs ⟨k1,k2⟩).1
  | exact (ls_abs ⟨k1,k2⟩).2
  | exact ls_fst.1
  | exact ls_fst.2
  | exact tagsL_ok.1.1
  | exact tagsL_ok.1.2
  | exact hts.1
  | exact hts.2
  | exact hs3.1
  | exact hs3.2
  | exact hs5.1
  | exact hs5.2
  | exact j3.1
  | exact j3.2
  | exact m9.1
  | exact m9.2
  | exact m12.1
  | exact m12.2
  | exact m15.1
  | exact m15.2
  | exact m18.1
  | exact m18.2
  | exact m23.1
  | exact m23.2
  | exact (frz_ls hs5 (past_lim k11) c6 c7 hs2').1
  | exact (frz_ls hs5 (past_lim k11) c6 c7 hs2').2
  | (simp;done)
theorem step_ff {x0 x1 x3 x4 x5 x6 x7 x10 x13 x16 x19 x21 x22 x25 x26 x28 x29:Int} {b8 b11 b14 b17 b20 b24:Bool} {l9 l12 l15 l18 l23 l27 l30 l31 l32:LL} {f:Bool} {q0 q1 q2 q3:Int} {tm:LL} (hp:p_node [dn x0,dn x1,db true,dn x3,dn x4,dn x5,dn x6,dn x7,db b8,D.fs l9,dn x10,db b11,D.fs l12,dn x13,db b14,D.fs l15,dn x16,db b17,D.fs l18,dn x19,db b20,dn x21,dn x22,D.fs l23,db b24,dn x25,dn x26,D.fs l27,dn x28,dn x29,D.fs l30,D.fs l31,D.fs l32]) (hsh:DShs nodeS [dn x0,dn x1,db true,dn x3,dn x4,dn x5,dn x6,dn x7,db b8,D.fs l9,dn x10,db b11,D.fs l12,dn x13,db b14,D.fs l15,dn x16,db b17,D.fs l18,dn x19,db b20,dn x21,dn x22,D.fs l23,db b24,dn x25,dn x26,D.fs l27,dn x28,dn x29,D.fs l30,D.fs l31,D.fs l32]) (hk:p_clock [dn q0,dn q1,dn q2,dn q3,dn x7]) (hlt:x6<q3) (h5:¬x7≤x6) (h7:¬x7≤q3) (ht:e_timer tm=0) (hts:LSh pairS tm):stepN [dn x0,dn x1,db true,dn x3,dn x4,dn x5,dn x6,dn x7,db b8,D.fs l9,dn x10,db b11,D.fs l12,dn x13,db b14,D.fs l15,dn x16,db b17,D.fs l18,dn x19,db b20,dn x21,dn x22,D.fs l23,db b24,dn x25,dn x26,D.fs l27,dn x28,dn x29,D.fs l30,D.fs l31,D.fs l32] ([dn x0,dn x1,db true]++[dn q0,dn q1,dn q2,dn q3,dn x7]++zPart++[db false,dn 0,dn 0]++[D.fs l27,dn x28,dn x29,D.fs l30]++[D.fs l31,D.fs tm]) true:=by
 refine ⟨next_ff (f:=f) hp hk hlt h5 h7 ht,?_,rfl,rfl,rfl,fun _=>⟨hlt,rfl,((show frzC [dn x0,dn x1,db true,dn x3,dn x4,dn x5,dn x6,dn x7,db b8,D.fs l9,dn x10,db b11,D.fs l12,dn x13,db b14,D.fs l15,dn x16,db b17,D.fs l18,dn x19,db b20,dn x21,dn x22,D.fs l23,db b24,dn x25,dn x26,D.fs l27,dn x28,dn x29,D.fs l30,D.fs l31,D.fs l32]=l31 from if_neg h5).symm),fun h=>absurd (show x7≤q3 from h) h7,fun _=>rfl⟩,fun h=>Bool.noConfusion h⟩
 obtain ⟨f1,f2,f3,f4⟩:=node_f hp.1
 obtain ⟨k1,k2,k3,k4,k5,k6,k7,k8,k9,k10,k11,k12,k13,k14,k15⟩:=f4 rfl
 obtain ⟨c1,c2,c3,c4,c5,c6,c7,c8,c9,c10⟩:=clock_b k3
 obtain ⟨hs1,hs2,hs3,hs4,hs5,hs6⟩:=node_sh hsh
 obtain ⟨j1,j2,j3⟩:=cache_sh hs4
 obtain ⟨d1,d2,d3,d4,d5,d6,d7,d8,d9,d10⟩:=clock_b hk
 have hs2':=hs2
 show DShs nodeS [dn x0,dn x1,db true,dn q0,dn q1,dn q2,dn q3,dn x7,db false,D.fs [],dn 0,db false,D.fs [],dn 0,db false,D.fs [],dn 0,db false,D.fs [],dn 0,db false,dn 0,dn 0,D.fs [],db false,dn 0,dn 0,D.fs l27,dn x28,dn x29,D.fs l30,D.fs l31,D.fs tm]
 simp only [dshs_cons,dshs_nil,dsh_int,dsh_bool,dsh_sl,rng64,true_and,and_true]
 simp only [dshs_cons,dshs_nil,dsh_int,dsh_bool,dsh_sl,rng64,true_and,and_true] at hs2
 obtain ⟨m9,m10,m12,m13,m15,m16,m18,m19,m21,m22,m23⟩:=hs2
 repeat' apply And.intro
 all_goals first
  | omega
  | assumption
  | exact ls_nil
  | exact ls_one.1
  | exact ls_one.2
  | exact (ls_abs ⟨k1,k2⟩).1
  | exact (ls_abs ⟨k1,k2⟩).2
  | exact ls_fst.1
  | exact ls_fst.2
  | exact tagsL_ok.1.1
  | exact tagsL_ok.1.2
  | exact hts.1
  | exact hts.2
  | exact hs3.1
  | exact hs3.2
  | exact hs5.1
  | exact hs5.2
  | exact j3.1
  | exact j3.2
  | exact m9.1
  | exact m9.2
  | exact m12.1
  | exact m12.2
  | exact m15.1
  | exact m15.2
  | exact m18.1
  | exact m18.2
  | exact m23.1
  | exact m23.2
  | exact (frz_ls hs5 (past_lim k11) c6 c7 hs2').1
  | exact (frz_ls hs5 (past_lim k11) c6 c7 hs2').2
  | (simp;done)
end Go.Vc

namespace Go.Vc
open Classical
theorem hear_inv {a d:List D} {e:Int} {f t:Bool} {x:Int} (h:[DV.a d,vb t,vn x]=m_hear a e f) (hx:¬x≠0):p_node a∧gB a 2=true∧(0≤e∧e≤65535)∧((t=true∧¬(takesC a∧(gL a 31).length=1024)∧gI a 6<e∧d=trnC a [dn (gI a 3),dn (gI a 4),dn (gI a 4),dn e,dn (gI a 7)] f)∨(t=false∧d=a)):=by
 have no:∀ {q:Int},q≠0→[DV.a d,vb t,vn x]=[DV.a (downC 0),vb false,vn q]→False:=fun {q} he hh=>by
  simp only [List.cons.injEq,DV.c.injEq,D.raw.injEq,Value.int.injEq,true_and,and_true] at hh
  omega
 unfold m_hear at h
 by_cases h1:p_node a
 ·rw [if_neg (fun hh=>hh h1)] at h
  by_cases h2:gB a 2=false
  ·rw [if_pos h2] at h;exact (no (by decide) h).elim
  ·rw [if_neg h2] at h
   by_cases h3:0≤e∧e≤65535
   ·rw [if_neg (fun hh=>hh h3)] at h
    refine ⟨h1,by simpa using h2,h3,?_⟩
    by_cases h4:gI a 6<e
    ·rw [if_pos h4] at h
     by_cases h5:takesC a∧(gL a 31).length=1024
     ·rw [if_pos h5] at h;exact (no (by decide) h).elim
     ·rw [if_neg h5] at h
      simp only [List.cons.injEq,DV.a.injEq,DV.c.injEq,D.raw.injEq,Value.bool.injEq,Value.int.injEq,true_and,and_true] at h
      exact .inl ⟨h.2.1,h5,h4,h.1⟩
    ·rw [if_neg h4] at h
     simp only [List.cons.injEq,DV.a.injEq,DV.c.injEq,D.raw.injEq,Value.bool.injEq,Value.int.injEq,true_and,and_true] at h
     exact .inr ⟨h.2.1,h.1⟩
   ·rw [if_pos h3] at h;exact (no (by decide) h).elim
 ·rw [if_pos h1] at h;exact (no (by decide) h).elim
theorem tick_step {x0 x1 x3 x4 x5 x6 x7 x10 x13 x16 x19 x21 x22 x25 x26 x28 x29:Int} {b2 b8 b11 b14 b17 b20 b24:Bool} {l9 l12 l15 l18 l23 l27 l30 l31 l32:LL} {d:List D} {f t:Bool} {x:Int} (h:[DV.a d,vb t,vn x]=m_tick [dn x0,dn x1,db b2,dn x3,dn x4,dn x5,dn x6,dn x7,db b8,D.fs l9,dn x10,db b11,D.fs l12,dn x13,db b14,D.fs l15,dn x16,db b17,D.fs l18,dn x19,db b20,dn x21,dn x22,D.fs l23,db b24,dn x25,dn x26,D.fs l27,dn x28,dn x29,D.fs l30,D.fs l31,D.fs l32] f) (hx:¬x≠0) (hsh:DShs nodeS [dn x0,dn x1,db b2,dn x3,dn x4,dn x5,dn x6,dn x7,db b8,D.fs l9,dn x10,db b11,D.fs l12,dn x13,db b14,D.fs l15,dn x16,db b17,D.fs l18,dn x19,db b20,dn x21,dn x22,D.fs l23,db b24,dn x25,dn x26,D.fs l27,dn x28,dn x29,D.fs l30,D.fs l31,D.fs l32]):stepN [dn x0,dn x1,db b2,dn x3,dn x4,dn x5,dn x6,dn x7,db b8,D.fs l9,dn x10,db b11,D.fs l12,dn x13,db b14,D.fs l15,dn x16,db b17,D.fs l18,dn x19,db b20,dn x21,dn x22,D.fs l23,db b24,dn x25,dn x26,D.fs l27,dn x28,dn x29,D.fs l30,D.fs l31,D.fs l32] d t:=by
 obtain ⟨hp,hb,hm,hc⟩:=tick_inv h hx
 obtain rfl:b2=true:=hb
 have hm:x4≠2147483647:=hm
 obtain ⟨f1,f2,f3,f4⟩:=node_f hp.1
 obtain ⟨k1,k2,k3,k4,k5,k6,k7,k8,k9,k10,k11,k12,k13,k14,k15⟩:=f4 rfl
 obtain ⟨c1,c2,c3,c4,c5,c6,c7,c8,c9,c10⟩:=clock_b k3
 obtain ⟨hs1,hs2,hs3,hs4,hs5,hs6⟩:=node_sh hsh
 rcases hc with ⟨rfl,hnf,ht,hd⟩ | ⟨rfl,ht,hd⟩
 ·have ht:x3≤x4+1-x5∧x6<65535:=ht
  have hnf:¬(x7≤x6∧l31.length=1024):=hnf
  have hd:d=lateC (trnC [dn x0,dn x1,db true,dn x3,dn x4,dn x5,dn x6,dn x7,db b8,D.fs l9,dn x10,db b11,D.fs l12,dn x13,db b14,D.fs l15,dn x16,db b17,D.fs l18,dn x19,db b20,dn x21,dn x22,D.fs l23,db b24,dn x25,dn x26,D.fs l27,dn x28,dn x29,D.fs l30,D.fs l31,D.fs l32] [dn x3,dn (x4+1),dn (x4+1),dn (x6+1),dn x7] f):=hd
  have hk:p_clock [dn x3,dn (x4+1),dn (x4+1),dn (x6+1),dn x7]:=⟨c1,c2,by show (0:Int)≤x4+1;omega,Int.le_refl _,by show x4+1≤2147483647;omega,by show (0:Int)≤x6+1;omega,by show x6+1≤65535;omega,c8,c9,fun h=>by have h2:x4+1-(x4+1)≥x3:=h;omega⟩
  by_cases h5:x7≤x6
  ·have e1:frzC [dn x0,dn x1,db true,dn x3,dn x4,dn x5,dn x6,dn x7,db b8,D.fs l9,dn x10,db b11,D.fs l12,dn x13,db b14,D.fs l15,dn x16,db b17,D.fs l18,dn x19,db b20,dn x21,dn x22,D.fs l23,db b24,dn x25,dn x26,D.fs l27,dn x28,dn x29,D.fs l30,D.fs l31,D.fs l32]=(l31++[dn x6::[db b8,D.fs l9,dn x10,db b11,D.fs l12,dn x13,db b14,D.fs l15,dn x16,db b17,D.fs l18,dn x19,db b20,dn x21,dn x22,D.fs l23]]):=if_pos h5
   have e2:nxtC [dn x0,dn x1,db true,dn x3,dn x4,dn x5,dn x6,dn x7,db b8,D.fs l9,dn x10,db b11,D.fs l12,dn x13,db b14,D.fs l15,dn x16,db b17,D.fs l18,dn x19,db b20,dn x21,dn x22,D.fs l23,db b24,dn x25,dn x26,D.fs l27,dn x28,dn x29,D.fs l30,D.fs l31,D.fs l32] [dn x3,dn (x4+1),dn (x4+1),dn (x6+1),dn x7] f=begC x1 f (x6+1) x0:=if_pos (show x7≤x6+1 by omega)
   have e4:trnC [dn x0,dn x1,db true,dn x3,dn x4,dn x5,dn x6,dn x7,db b8,D.fs l9,dn x10,db b11,D.fs l12,dn x13,db b14,D.fs l15,dn x16,db b17,D.fs l18,dn x19,db b20,dn x21,dn x22,D.fs l23,db b24,dn x25,dn x26,D.fs l27,dn x28,dn x29,D.fs l30,D.fs l31,D.fs l32] [dn x3,dn (x4+1),dn (x4+1),dn (x6+1),dn x7] f=[dn x0,dn x1,db true]++[dn x3,dn (x4+1),dn (x4+1),dn (x6+1),dn x7]++begC x1 f (x6+1) x0++[db false,dn 0,dn 0]++[D.fs l27,dn x28,dn x29,D.fs l30]++[D.fs (l31++[dn x6::[db b8,D.fs l9,dn x10,db b11,D.fs l12,dn x13,db b14,D.fs l15,dn x16,db b17,D.fs l18,dn x19,db b20,dn x21,dn x22,D.fs l23]]),D.fs l32]:=by unfold trnC;rw [e1,e2];rfl
   rw [e4,late_not rfl] at hd
   rw [hd]
   exact step_tt (f:=f) hp hsh hk (by omega) h5 (fun h=>hnf ⟨h5,h⟩) (left_ok k9) (left_ls hs6)
  ·by_cases h7:x7≤x6+1
   ·have e1:frzC [dn x0,dn x1,db true,dn x3,dn x4,dn x5,dn x6,dn x7,db b8,D.fs l9,dn x10,db b11,D.fs l12,dn x13,db b14,D.fs l15,dn x16,db b17,D.fs l18,dn x19,db b20,dn x21,dn x22,D.fs l23,db b24,dn x25,dn x26,D.fs l27,dn x28,dn x29,D.fs l30,D.fs l31,D.fs l32]=l31:=if_neg h5
    have e2:nxtC [dn x0,dn x1,db true,dn x3,dn x4,dn x5,dn x6,dn x7,db b8,D.fs l9,dn x10,db b11,D.fs l12,dn x13,db b14,D.fs l15,dn x16,db b17,D.fs l18,dn x19,db b20,dn x21,dn x22,D.fs l23,db b24,dn x25,dn x26,D.fs l27,dn x28,dn x29,D.fs l30,D.fs l31,D.fs l32] [dn x3,dn (x4+1),dn (x4+1),dn (x6+1),dn x7] f=begC x1 f (x6+1) x0:=if_pos (show x7≤x6+1 by omega)
    have e4:trnC [dn x0,dn x1,db true,dn x3,dn x4,dn x5,dn x6,dn x7,db b8,D.fs l9,dn x10,db b11,D.fs l12,dn x13,db b14,D.fs l15,dn x16,db b17,D.fs l18,dn x19,db b20,dn x21,dn x22,D.fs l23,db b24,dn x25,dn x26,D.fs l27,dn x28,dn x29,D.fs l30,D.fs l31,D.fs l32] [dn x3,dn (x4+1),dn (x4+1),dn (x6+1),dn x7] f=[dn x0,dn x1,db true]++[dn x3,dn (x4+1),dn (x4+1),dn (x6+1),dn x7]++begC x1 f (x6+1) x0++[db false,dn 0,dn 0]++[D.fs l27,dn x28,dn x29,D.fs l30]++[D.fs l31,D.fs l32]:=by unfold trnC;rw [e1,e2];rfl
    rw [e4,late_not rfl] at hd
    rw [hd]
    exact step_ft (f:=f) hp hsh hk (by omega) h5 h7 (left_ok k9) (left_ls hs6)
   ·have e1:frzC [dn x0,dn x1,db true,dn x3,dn x4,dn x5,dn x6,dn x7,db b8,D.fs l9,dn x10,db b11,D.fs l12,dn x13,db b14,D.fs l15,dn x16,db b17,D.fs l18,dn x19,db b20,dn x21,dn x22,D.fs l23,db b24,dn x25,dn x26,D.fs l27,dn x28,dn x29,D.fs l30,D.fs l31,D.fs l32]=l31:=if_neg h5
    have e2:nxtC [dn x0,dn x1,db true,dn x3,dn x4,dn x5,dn x6,dn x7,db b8,D.fs l9,dn x10,db b11,D.fs l12,dn x13,db b14,D.fs l15,dn x16,db b17,D.fs l18,dn x19,db b20,dn x21,dn x22,D.fs l23,db b24,dn x25,dn x26,D.fs l27,dn x28,dn x29,D.fs l30,D.fs l31,D.fs l32] [dn x3,dn (x4+1),dn (x4+1),dn (x6+1),dn x7] f=zPart:=if_neg h7
    have e4:trnC [dn x0,dn x1,db true,dn x3,dn x4,dn x5,dn x6,dn x7,db b8,D.fs l9,dn x10,db b11,D.fs l12,dn x13,db b14,D.fs l15,dn x16,db b17,D.fs l18,dn x19,db b20,dn x21,dn x22,D.fs l23,db b24,dn x25,dn x26,D.fs l27,dn x28,dn x29,D.fs l30,D.fs l31,D.fs l32] [dn x3,dn (x4+1),dn (x4+1),dn (x6+1),dn x7] f=[dn x0,dn x1,db true]++[dn x3,dn (x4+1),dn (x4+1),dn (x6+1),dn x7]++zPart++[db false,dn 0,dn 0]++[D.fs l27,dn x28,dn x29,D.fs l30]++[D.fs l31,D.fs l32]:=by unfold trnC;rw [e1,e2];rfl
    rw [e4,late_not rfl] at hd
    rw [hd]
    exact step_ff (f:=f) hp hsh hk (by omega) h5 h7 (left_ok k9) (left_ls hs6)
 ·have ht:¬(x3≤x4+1-x5∧x6<65535):=ht
  have hd:d=lateC (setC [dn x0,dn x1,db true,dn x3,dn x4,dn x5,dn x6,dn x7,db b8,D.fs l9,dn x10,db b11,D.fs l12,dn x13,db b14,D.fs l15,dn x16,db b17,D.fs l18,dn x19,db b20,dn x21,dn x22,D.fs l23,db b24,dn x25,dn x26,D.fs l27,dn x28,dn x29,D.fs l30,D.fs l31,D.fs l32] [dn x3,dn (x4+1),dn x5,dn x6,dn x7]):=hd
  have hk:p_clock [dn x3,dn (x4+1),dn x5,dn x6,dn x7]:=⟨c1,c2,c3,by show x5≤x4+1;omega,by show x4+1≤2147483647;omega,c6,c7,c8,c9,fun h=>by have h2:x4+1-x5≥x3:=h;show x6=65535;omega⟩
  unfold lateC at hd
  split at hd
  ·rw [hd];exact step_stay hp hsh hk (.inl ⟨rfl,rfl,rfl⟩) (left_ok k9) (left_ls hs6)
  ·rw [hd];exact step_stay hp hsh hk (.inr ⟨rfl,rfl,rfl⟩) (left_ok k9) (left_ls hs6)
theorem hear_step {x0 x1 x3 x4 x5 x6 x7 x10 x13 x16 x19 x21 x22 x25 x26 x28 x29:Int} {b2 b8 b11 b14 b17 b20 b24:Bool} {l9 l12 l15 l18 l23 l27 l30 l31 l32:LL} {d:List D} {e:Int} {f t:Bool} {x:Int} (h:[DV.a d,vb t,vn x]=m_hear [dn x0,dn x1,db b2,dn x3,dn x4,dn x5,dn x6,dn x7,db b8,D.fs l9,dn x10,db b11,D.fs l12,dn x13,db b14,D.fs l15,dn x16,db b17,D.fs l18,dn x19,db b20,dn x21,dn x22,D.fs l23,db b24,dn x25,dn x26,D.fs l27,dn x28,dn x29,D.fs l30,D.fs l31,D.fs l32] e f) (hx:¬x≠0) (hsh:DShs nodeS [dn x0,dn x1,db b2,dn x3,dn x4,dn x5,dn x6,dn x7,db b8,D.fs l9,dn x10,db b11,D.fs l12,dn x13,db b14,D.fs l15,dn x16,db b17,D.fs l18,dn x19,db b20,dn x21,dn x22,D.fs l23,db b24,dn x25,dn x26,D.fs l27,dn x28,dn x29,D.fs l30,D.fs l31,D.fs l32]):stepN [dn x0,dn x1,db b2,dn x3,dn x4,dn x5,dn x6,dn x7,db b8,D.fs l9,dn x10,db b11,D.fs l12,dn x13,db b14,D.fs l15,dn x16,db b17,D.fs l18,dn x19,db b20,dn x21,dn x22,D.fs l23,db b24,dn x25,dn x26,D.fs l27,dn x28,dn x29,D.fs l30,D.fs l31,D.fs l32] d t:=by
 obtain ⟨hp,hb,he,hc⟩:=hear_inv h hx
 obtain rfl:b2=true:=hb
 obtain ⟨f1,f2,f3,f4⟩:=node_f hp.1
 obtain ⟨k1,k2,k3,k4,k5,k6,k7,k8,k9,k10,k11,k12,k13,k14,k15⟩:=f4 rfl
 obtain ⟨c1,c2,c3,c4,c5,c6,c7,c8,c9,c10⟩:=clock_b k3
 obtain ⟨hs1,hs2,hs3,hs4,hs5,hs6⟩:=node_sh hsh
 rcases hc with ⟨rfl,hnf,ht,hd⟩ | ⟨rfl,hd⟩
 ·have ht:x6<e:=ht
  have hnf:¬(x7≤x6∧l31.length=1024):=hnf
  have hd:d=trnC [dn x0,dn x1,db true,dn x3,dn x4,dn x5,dn x6,dn x7,db b8,D.fs l9,dn x10,db b11,D.fs l12,dn x13,db b14,D.fs l15,dn x16,db b17,D.fs l18,dn x19,db b20,dn x21,dn x22,D.fs l23,db b24,dn x25,dn x26,D.fs l27,dn x28,dn x29,D.fs l30,D.fs l31,D.fs l32] [dn x3,dn x4,dn x4,dn e,dn x7] f:=hd
  have hk:p_clock [dn x3,dn x4,dn x4,dn e,dn x7]:=⟨c1,c2,by show (0:Int)≤x4;omega,Int.le_refl _,c5,he.1,he.2,c8,c9,fun h=>by have h2:x4-x4≥x3:=h;omega⟩
  by_cases h5:x7≤x6
  ·have e1:frzC [dn x0,dn x1,db true,dn x3,dn x4,dn x5,dn x6,dn x7,db b8,D.fs l9,dn x10,db b11,D.fs l12,dn x13,db b14,D.fs l15,dn x16,db b17,D.fs l18,dn x19,db b20,dn x21,dn x22,D.fs l23,db b24,dn x25,dn x26,D.fs l27,dn x28,dn x29,D.fs l30,D.fs l31,D.fs l32]=(l31++[dn x6::[db b8,D.fs l9,dn x10,db b11,D.fs l12,dn x13,db b14,D.fs l15,dn x16,db b17,D.fs l18,dn x19,db b20,dn x21,dn x22,D.fs l23]]):=if_pos h5
   have e2:nxtC [dn x0,dn x1,db true,dn x3,dn x4,dn x5,dn x6,dn x7,db b8,D.fs l9,dn x10,db b11,D.fs l12,dn x13,db b14,D.fs l15,dn x16,db b17,D.fs l18,dn x19,db b20,dn x21,dn x22,D.fs l23,db b24,dn x25,dn x26,D.fs l27,dn x28,dn x29,D.fs l30,D.fs l31,D.fs l32] [dn x3,dn x4,dn x4,dn e,dn x7] f=begC x1 f (e) x0:=if_pos (show x7≤e by omega)
   have e4:trnC [dn x0,dn x1,db true,dn x3,dn x4,dn x5,dn x6,dn x7,db b8,D.fs l9,dn x10,db b11,D.fs l12,dn x13,db b14,D.fs l15,dn x16,db b17,D.fs l18,dn x19,db b20,dn x21,dn x22,D.fs l23,db b24,dn x25,dn x26,D.fs l27,dn x28,dn x29,D.fs l30,D.fs l31,D.fs l32] [dn x3,dn x4,dn x4,dn e,dn x7] f=[dn x0,dn x1,db true]++[dn x3,dn x4,dn x4,dn e,dn x7]++begC x1 f (e) x0++[db false,dn 0,dn 0]++[D.fs l27,dn x28,dn x29,D.fs l30]++[D.fs (l31++[dn x6::[db b8,D.fs l9,dn x10,db b11,D.fs l12,dn x13,db b14,D.fs l15,dn x16,db b17,D.fs l18,dn x19,db b20,dn x21,dn x22,D.fs l23]]),D.fs l32]:=by unfold trnC;rw [e1,e2];rfl
   rw [e4] at hd
   rw [hd]
   exact step_tt (f:=f) hp hsh hk ht h5 (fun h=>hnf ⟨h5,h⟩) k9 hs6
  ·by_cases h7:x7≤e
   ·have e1:frzC [dn x0,dn x1,db true,dn x3,dn x4,dn x5,dn x6,dn x7,db b8,D.fs l9,dn x10,db b11,D.fs l12,dn x13,db b14,D.fs l15,dn x16,db b17,D.fs l18,dn x19,db b20,dn x21,dn x22,D.fs l23,db b24,dn x25,dn x26,D.fs l27,dn x28,dn x29,D.fs l30,D.fs l31,D.fs l32]=l31:=if_neg h5
    have e2:nxtC [dn x0,dn x1,db true,dn x3,dn x4,dn x5,dn x6,dn x7,db b8,D.fs l9,dn x10,db b11,D.fs l12,dn x13,db b14,D.fs l15,dn x16,db b17,D.fs l18,dn x19,db b20,dn x21,dn x22,D.fs l23,db b24,dn x25,dn x26,D.fs l27,dn x28,dn x29,D.fs l30,D.fs l31,D.fs l32] [dn x3,dn x4,dn x4,dn e,dn x7] f=begC x1 f (e) x0:=if_pos (show x7≤e by omega)
    have e4:trnC [dn x0,dn x1,db true,dn x3,dn x4,dn x5,dn x6,dn x7,db b8,D.fs l9,dn x10,db b11,D.fs l12,dn x13,db b14,D.fs l15,dn x16,db b17,D.fs l18,dn x19,db b20,dn x21,dn x22,D.fs l23,db b24,dn x25,dn x26,D.fs l27,dn x28,dn x29,D.fs l30,D.fs l31,D.fs l32] [dn x3,dn x4,dn x4,dn e,dn x7] f=[dn x0,dn x1,db true]++[dn x3,dn x4,dn x4,dn e,dn x7]++begC x1 f (e) x0++[db false,dn 0,dn 0]++[D.fs l27,dn x28,dn x29,D.fs l30]++[D.fs l31,D.fs l32]:=by unfold trnC;rw [e1,e2];rfl
    rw [e4] at hd
    rw [hd]
    exact step_ft (f:=f) hp hsh hk ht h5 h7 k9 hs6
   ·have e1:frzC [dn x0,dn x1,db true,dn x3,dn x4,dn x5,dn x6,dn x7,db b8,D.fs l9,dn x10,db b11,D.fs l12,dn x13,db b14,D.fs l15,dn x16,db b17,D.fs l18,dn x19,db b20,dn x21,dn x22,D.fs l23,db b24,dn x25,dn x26,D.fs l27,dn x28,dn x29,D.fs l30,D.fs l31,D.fs l32]=l31:=if_neg h5
    have e2:nxtC [dn x0,dn x1,db true,dn x3,dn x4,dn x5,dn x6,dn x7,db b8,D.fs l9,dn x10,db b11,D.fs l12,dn x13,db b14,D.fs l15,dn x16,db b17,D.fs l18,dn x19,db b20,dn x21,dn x22,D.fs l23,db b24,dn x25,dn x26,D.fs l27,dn x28,dn x29,D.fs l30,D.fs l31,D.fs l32] [dn x3,dn x4,dn x4,dn e,dn x7] f=zPart:=if_neg h7
    have e4:trnC [dn x0,dn x1,db true,dn x3,dn x4,dn x5,dn x6,dn x7,db b8,D.fs l9,dn x10,db b11,D.fs l12,dn x13,db b14,D.fs l15,dn x16,db b17,D.fs l18,dn x19,db b20,dn x21,dn x22,D.fs l23,db b24,dn x25,dn x26,D.fs l27,dn x28,dn x29,D.fs l30,D.fs l31,D.fs l32] [dn x3,dn x4,dn x4,dn e,dn x7] f=[dn x0,dn x1,db true]++[dn x3,dn x4,dn x4,dn e,dn x7]++zPart++[db false,dn 0,dn 0]++[D.fs l27,dn x28,dn x29,D.fs l30]++[D.fs l31,D.fs l32]:=by unfold trnC;rw [e1,e2];rfl
    rw [e4] at hd
    rw [hd]
    exact step_ff (f:=f) hp hsh hk ht h5 h7 k9 hs6
 ·rw [hd]
  exact step_stay hp hsh k3 (.inr ⟨rfl,rfl,rfl⟩) k9 hs6
end Go.Vc

namespace Go.Vc
open Classical
def m_get (l:LL) (e:Int):List DV :=
 if e_past l≠0 then [.a zPart,vn (e_past l)]
 else if ¬(0≤e∧e≤65535) then [.a zPart,vn 2]
 else match l.find? (fun c=>decide (gI c 0=e)) with
  | some c=>[.a (c.drop 1),vn 0]
  | none=>[.a zPart,vn 6]
theorem get_pl {l:LL} {e i x:Int} (h:o_plF l e i x) (h0:x≠0):[.a zPart,vn x]=m_get l e:=by
 unfold o_plF at h
 unfold m_get
 rcases h.2 h0 with ⟨h1,h2⟩ | ⟨h1,h2,h3⟩
 ·rw [if_pos h1,h2]
 ·rw [if_neg (fun hh=>hh h1),if_pos h2,h3]
theorem get_none {l:LL} {e:Int} (h1:e_past l=0) (h2:0≤e∧e≤65535) (h:∀ c∈l,gI c 0≠e):[.a zPart,vn 6]=m_get l e:=by
 unfold m_get
 rw [if_neg (fun hh=>hh h1),if_neg (fun hh=>hh h2),List.find?_eq_none.2 (fun c hc=>by simpa using h c hc)]
theorem nth_mem {l:LL} {c:List D} (h:c∈l):∃ i:Nat,i<l.length∧nth l i 0=gI c 0:=by
 obtain ⟨i,hi,e⟩:=List.getElem_of_mem h
 refine ⟨i,hi,?_⟩
 unfold nth;rw [List.getElem?_eq_getElem hi,e];rfl
theorem get_out {l:LL} {e i:Int} (h1:e_past l=0) (h2:0≤e∧e≤65535) (h:ahd l e i i) (hi:¬i<(l.length:Int)):[.a zPart,vn 6]=m_get l e:=get_none h1 h2 fun c hc he=>by
 obtain ⟨j,hj,h3⟩:=nth_mem hc
 have:=ahd.all h hi j hj
 omega
theorem get_ne {l:LL} {e i x:Int} {cs:List D} (h1:e_past l=0) (h2:0≤e∧e≤65535) (h:ahd l e i i) (h0:0≤i) (hk:l[i.toNat]?=some (dn x::cs)) (hx:x≠e):[.a zPart,vn 6]=m_get l e:=get_none h1 h2 fun c hc he=>by
 obtain ⟨j,hj,h3⟩:=nth_mem hc
 unfold ahd at h
 have hil:=(List.getElem?_eq_some_iff.1 hk).1
 have e1:=nth_c hk
 have e2:=h.2 i.toNat (by omega) hil
 by_cases hji:j<i.toNat
 ·have:=h.1 j (by omega);omega
 ·by_cases hje:j=i.toNat
  ·subst hje;omega
  ·have:=ris_past h1 i.toNat j (by omega) hj;omega
theorem get_at {l:LL} {e i:Int} {cs:List D} (h1:e_past l=0) (h2:0≤e∧e≤65535) (hk:l[i.toNat]?=some (dn e::cs)):[.a cs,vn 0]=m_get l e:=by
 unfold m_get
 rw [if_neg (fun hh=>hh h1),if_neg (fun hh=>hh h2)]
 have hm:=List.mem_of_getElem? hk
 cases hf:l.find? (fun c=>decide (gI c 0=e)) with
 | none=>have:=List.find?_eq_none.1 hf _ hm;exact absurd (show gI (dn e::cs) 0=e from rfl) (by simpa using this)
 | some c =>
  have hc:gI c 0=e:=by have:=List.find?_some hf;simpa using this
  have hcm:=List.mem_of_find?_eq_some hf
  obtain ⟨j,hj,ej⟩:=List.getElem_of_mem hcm
  have hil:=(List.getElem?_eq_some_iff.1 hk).1
  have e1:=nth_c hk
  have e3:nth l j 0=e:=by unfold nth;rw [List.getElem?_eq_getElem hj,ej];exact hc
  have hji:j=i.toNat:=by
   rcases Nat.lt_trichotomy j i.toNat with h | h | h
   ·have:=ris_past h1 j i.toNat h hil;omega
   ·exact h
   ·have:=ris_past h1 i.toNat j h hj;omega
  subst hji
  have ei:=(List.getElem?_eq_some_iff.1 hk).2
  rw [ei] at ej
  rw [←ej];rfl
theorem get_yes2 {l:LL} {e i x y:Int} {cs ds:List D} (hx:¬y≠e) (h1:e_past l=0) (h2:0≤e∧e≤65535) (hk:l[i.toNat]?=some (dn y::ds)) (hk':l[i.toNat]?=some (dn x::cs)):[.a cs,vn 0]=m_get l e:=by
 have hx:=Decidable.not_not.1 hx
 subst hx
 rw [hk] at hk';cases hk'
 exact get_at h1 h2 hk
end Go.Vc

namespace Go.Vc
open Classical
def dvc:DV→D
 | .c d=>d
 | .a _=>.raw (.bool false)
def nodeI (ds:List DV):Prop:=DShs nodeS (ds.tail.map dvc)∧p_node (ds.tail.map dvc)
theorem step_cells {x0 x1 x3 x4 x5 x6 x7 x10 x13 x16 x19 x21 x22 x25 x26 x28 x29:Int} {b2 b8 b11 b14 b17 b20 b24:Bool} {l9 l12 l15 l18 l23 l27 l30 l31 l32:LL} {x40 x41 x43 x44 x45 x46 x47 x50 x53 x56 x59 x61 x62 x65 x66 x68 x69:Int} {b42 b48 b51 b54 b57 b60 b64:Bool} {l49 l52 l55 l58 l63 l67 l70 l71 l72:LL} {t:Bool} (h:stepN [dn x0,dn x1,db b2,dn x3,dn x4,dn x5,dn x6,dn x7,db b8,D.fs l9,dn x10,db b11,D.fs l12,dn x13,db b14,D.fs l15,dn x16,db b17,D.fs l18,dn x19,db b20,dn x21,dn x22,D.fs l23,db b24,dn x25,dn x26,D.fs l27,dn x28,dn x29,D.fs l30,D.fs l31,D.fs l32] [dn x40,dn x41,db b42,dn x43,dn x44,dn x45,dn x46,dn x47,db b48,D.fs l49,dn x50,db b51,D.fs l52,dn x53,db b54,D.fs l55,dn x56,db b57,D.fs l58,dn x59,db b60,dn x61,dn x62,D.fs l63,db b64,dn x65,dn x66,D.fs l67,dn x68,dn x69,D.fs l70,D.fs l71,D.fs l72] t):p_node [dn x40,dn x41,db b42,dn x43,dn x44,dn x45,dn x46,dn x47,db b48,D.fs l49,dn x50,db b51,D.fs l52,dn x53,db b54,D.fs l55,dn x56,db b57,D.fs l58,dn x59,db b60,dn x61,dn x62,D.fs l63,db b64,dn x65,dn x66,D.fs l67,dn x68,dn x69,D.fs l70,D.fs l71,D.fs l72]∧DShs nodeS [dn x40,dn x41,db b42,dn x43,dn x44,dn x45,dn x46,dn x47,db b48,D.fs l49,dn x50,db b51,D.fs l52,dn x53,db b54,D.fs l55,dn x56,db b57,D.fs l58,dn x59,db b60,dn x61,dn x62,D.fs l63,db b64,dn x65,dn x66,D.fs l67,dn x68,dn x69,D.fs l70,D.fs l71,D.fs l72]∧DShs partS [db b48,D.fs l49,dn x50,db b51,D.fs l52,dn x53,db b54,D.fs l55,dn x56,db b57,D.fs l58,dn x59,db b60,dn x61,dn x62,D.fs l63]∧inV x41∧LSh frozS l71∧e_past l71=0∧x47=x7∧((t=true∧x6<x46∧b64=false∧(x47≤x46→[db b48,D.fs l49,dn x50]=dyOf x41)∧(¬x47≤x46→[db b48,D.fs l49,dn x50,db b51,D.fs l52,dn x53,db b54,D.fs l55,dn x56,db b57,D.fs l58,dn x59,db b60,dn x61,dn x62,D.fs l63]=zPart)∧((x7≤x6∧l71=l31++[dn x6::[db b8,D.fs l9,dn x10,db b11,D.fs l12,dn x13,db b14,D.fs l15,dn x16,db b17,D.fs l18,dn x19,db b20,dn x21,dn x22,D.fs l23]])∨(¬x7≤x6∧l71=l31)))∨(t=false∧x46=x6∧[db b48,D.fs l49,dn x50,db b51,D.fs l52,dn x53,db b54,D.fs l55,dn x56,db b57,D.fs l58,dn x59,db b60,dn x61,dn x62,D.fs l63]=[db b8,D.fs l9,dn x10,db b11,D.fs l12,dn x13,db b14,D.fs l15,dn x16,db b17,D.fs l18,dn x19,db b20,dn x21,dn x22,D.fs l23]∧l71=l31)):=by
 unfold stepN at h
 obtain ⟨h1,h2,h2b,h3,h4,h5,h6⟩:=h
 have h2b:b42=true:=h2b
 subst h2b
 obtain ⟨f1,f2,f3,f4⟩:=node_f h1.1
 obtain ⟨k1,k2,k3,k4,k5,k6,k7,k8,k9,k10,k11,k12,k13,k14,k15⟩:=f4 rfl
 obtain ⟨hs1,hs2,hs3,hs4,hs5,hs6⟩:=node_sh h2
 refine ⟨h1,h2,hs2,⟨k1,k2⟩,hs5,k11,h4,?_⟩
 cases t
 ·exact .inr ⟨rfl,h6 rfl⟩
 ·obtain ⟨g1,g2,g3,g4,g5⟩:=h5 rfl
  have g3:l71=frzC [dn x0,dn x1,db b2,dn x3,dn x4,dn x5,dn x6,dn x7,db b8,D.fs l9,dn x10,db b11,D.fs l12,dn x13,db b14,D.fs l15,dn x16,db b17,D.fs l18,dn x19,db b20,dn x21,dn x22,D.fs l23,db b24,dn x25,dn x26,D.fs l27,dn x28,dn x29,D.fs l30,D.fs l31,D.fs l32]:=g3
  refine .inl ⟨rfl,g1,g2,g4,g5,?_⟩
  by_cases hh:x7≤x6
  ·exact .inl ⟨hh,g3.trans (if_pos hh)⟩
  ·exact .inr ⟨hh,g3.trans (if_neg hh)⟩
def tkI (c a b a' b':Int) (t:Bool):Prop:=t=true↔(if c≥0 then a≤b else a'≤b')
theorem tkI.hy {c a b a' b':Int} (hc:c≥0) (h:a≤b):tkI c a b a' b' true:=by unfold tkI;rw [if_pos hc];exact ⟨fun _=>h,fun _=>rfl⟩
theorem tkI.hn {c a b a' b':Int} (hc:c≥0) (h:¬a≤b):tkI c a b a' b' false:=by unfold tkI;rw [if_pos hc];exact ⟨fun h=>Bool.noConfusion h,fun h'=>absurd h' h⟩
theorem tkI.ty {c a b a' b':Int} (hc:¬c≥0) (h:a'≤b'):tkI c a b a' b' true:=by unfold tkI;rw [if_neg hc];exact ⟨fun _=>h,fun _=>rfl⟩
theorem tkI.tn {c a b a' b':Int} (hc:¬c≥0) (h:¬a'≤b'):tkI c a b a' b' false:=by unfold tkI;rw [if_neg hc];exact ⟨fun h=>Bool.noConfusion h,fun h'=>absurd h' h⟩
theorem tkI.h {c a b a' b':Int} {t:Bool} (h:tkI c a b a' b' t) (hc:c≥0):t=true↔a≤b:=by unfold tkI at h;rw [if_pos hc] at h;exact h
theorem tkI.t {c a b a' b':Int} {t:Bool} (h:tkI c a b a' b' t) (hc:¬c≥0):t=true↔a'≤b':=by unfold tkI at h;rw [if_neg hc] at h;exact h
theorem bnf {b:Bool} (h:b≠false):b=true:=by cases b;exact absurd rfl h;rfl
theorem bno3 {b:Bool} (h2:b=true) (h1:b=false):False:=by rw [h1] at h2;cases h2
theorem tick_up {x0 x1 x3 x4 x5 x6 x7 x10 x13 x16 x19 x21 x22 x25 x26 x28 x29:Int} {b2 b8 b11 b14 b17 b20 b24:Bool} {l9 l12 l15 l18 l23 l27 l30 l31 l32:LL} {d:List D} {f t:Bool} {x:Int} (h:[DV.a d,vb t,vn x]=m_tick [dn x0,dn x1,db b2,dn x3,dn x4,dn x5,dn x6,dn x7,db b8,D.fs l9,dn x10,db b11,D.fs l12,dn x13,db b14,D.fs l15,dn x16,db b17,D.fs l18,dn x19,db b20,dn x21,dn x22,D.fs l23,db b24,dn x25,dn x26,D.fs l27,dn x28,dn x29,D.fs l30,D.fs l31,D.fs l32] f) (hx:¬x≠0):b2=true:=(tick_inv h hx).2.1
theorem hear_up {x0 x1 x3 x4 x5 x6 x7 x10 x13 x16 x19 x21 x22 x25 x26 x28 x29:Int} {b2 b8 b11 b14 b17 b20 b24:Bool} {l9 l12 l15 l18 l23 l27 l30 l31 l32:LL} {d:List D} {e:Int} {f t:Bool} {x:Int} (h:[DV.a d,vb t,vn x]=m_hear [dn x0,dn x1,db b2,dn x3,dn x4,dn x5,dn x6,dn x7,db b8,D.fs l9,dn x10,db b11,D.fs l12,dn x13,db b14,D.fs l15,dn x16,db b17,D.fs l18,dn x19,db b20,dn x21,dn x22,D.fs l23,db b24,dn x25,dn x26,D.fs l27,dn x28,dn x29,D.fs l30,D.fs l31,D.fs l32] e f) (hx:¬x≠0):b2=true:=(hear_inv h hx).2.1
theorem now_f {x0 x1 x3 x4 x5 x6 x7 x10 x13 x16 x19 x21 x22 x25 x26 x28 x29:Int} {b2 b8 b11 b14 b17 b20 b24:Bool} {l9 l12 l15 l18 l23 l27 l30 l31 l32:LL} (hp:p_node [dn x0,dn x1,db b2,dn x3,dn x4,dn x5,dn x6,dn x7,db b8,D.fs l9,dn x10,db b11,D.fs l12,dn x13,db b14,D.fs l15,dn x16,db b17,D.fs l18,dn x19,db b20,dn x21,dn x22,D.fs l23,db b24,dn x25,dn x26,D.fs l27,dn x28,dn x29,D.fs l30,D.fs l31,D.fs l32]) (hsh:DShs nodeS [dn x0,dn x1,db b2,dn x3,dn x4,dn x5,dn x6,dn x7,db b8,D.fs l9,dn x10,db b11,D.fs l12,dn x13,db b14,D.fs l15,dn x16,db b17,D.fs l18,dn x19,db b20,dn x21,dn x22,D.fs l23,db b24,dn x25,dn x26,D.fs l27,dn x28,dn x29,D.fs l30,D.fs l31,D.fs l32]) (hb:b2=true):(0≤x6∧x6≤65535∧(0<l31.length→nth l31 (l31.length-1) 0<x6))∧DShs partS [db b8,D.fs l9,dn x10,db b11,D.fs l12,dn x13,db b14,D.fs l15,dn x16,db b17,D.fs l18,dn x19,db b20,dn x21,dn x22,D.fs l23]∧LSh frozS l31∧(¬x7≤x6→[db b8,D.fs l9,dn x10,db b11,D.fs l12,dn x13,db b14,D.fs l15,dn x16,db b17,D.fs l18,dn x19,db b20,dn x21,dn x22,D.fs l23]=zPart)∧e_past l31=0:=by
 subst hb
 obtain ⟨f1,f2,f3,f4⟩:=node_f hp.1
 obtain ⟨k1,k2,k3,k4,k5,k6,k7,k8,k9,k10,k11,k12,k13,k14,k15⟩:=f4 rfl
 obtain ⟨c1,c2,c3,c4,c5,c6,c7,c8,c9,c10⟩:=clock_b k3
 obtain ⟨hs1,hs2,hs3,hs4,hs5,hs6⟩:=node_sh hsh
 exact ⟨⟨c6,c7,k12⟩,hs2,hs5,k5,k11⟩
theorem part_iff {x10 x13 x16 x19 x21 x22 x50 x53 x56 x59 x61 x62:Int} {b8 b11 b14 b17 b20 b48 b51 b54 b57 b60:Bool} {l9 l12 l15 l18 l23 l49 l52 l55 l58 l63:LL}:[db b8,D.fs l9,dn x10,db b11,D.fs l12,dn x13,db b14,D.fs l15,dn x16,db b17,D.fs l18,dn x19,db b20,dn x21,dn x22,D.fs l23]=[db b48,D.fs l49,dn x50,db b51,D.fs l52,dn x53,db b54,D.fs l55,dn x56,db b57,D.fs l58,dn x59,db b60,dn x61,dn x62,D.fs l63]↔b8=b48∧l9=l49∧x10=x50∧b11=b51∧l12=l52∧x13=x53∧b14=b54∧l15=l55∧x16=x56∧b17=b57∧l18=l58∧x19=x59∧b20=b60∧x21=x61∧x22=x62∧l23=l63:=by
 simp only [List.cons.injEq,D.raw.injEq,D.fs.injEq,Value.int.injEq,Value.bool.injEq,true_and,and_true]
theorem dy_iff {b:Bool} {l:LL} {x v:Int}:[db b,D.fs l,dn x]=dyOf v↔b=decide (v<0)∧l=(if v=0 then [] else [[d32 v.natAbs]])∧x=0:=by
 unfold dyOf
 simp only [List.cons.injEq,D.raw.injEq,D.fs.injEq,Value.int.injEq,Value.bool.injEq,true_and,and_true]
theorem sh_dyOf {v:Int} (h:inV v):DShs dyS [db (decide (v<0)), .fs (if v=0 then [] else [[d32 v.natAbs]]),dn 0] :=
 dshs_cons.2 ⟨dsh_bool.2 trivial,dshs_cons.2 ⟨dsh_sl.2 (ls_abs h),dshs_cons.2 ⟨dsh_int.2 ⟨by decide,by decide⟩,dshs_nil.2 trivial⟩⟩⟩
theorem part_dy {x10 x13 x16 x19 x21 x22:Int} {b8 b11 b14 b17 b20:Bool} {l9 l12 l15 l18 l23:LL} (h:DShs partS [db b8,D.fs l9,dn x10,db b11,D.fs l12,dn x13,db b14,D.fs l15,dn x16,db b17,D.fs l18,dn x19,db b20,dn x21,dn x22,D.fs l23]):DShs dyS [db b8,D.fs l9,dn x10]:=by
 simp only [dshs_cons,dshs_nil,dsh_int,dsh_bool,dsh_sl,true_and,and_true] at h ⊢
 exact ⟨h.1,h.2.1⟩
theorem get_new {l:LL} {e x:Int} {p q:List D} (h:[DV.a q,vn x]=m_get (l++[dn e::p]) e) (hp:e_past (l++[dn e::p])=0) (h0:0≤e) (h1:e≤65535):x=0∧q=p:=by
 have hk:(l++[dn e::p])[Int.toNat (l.length:Int)]?=some (dn e::p):=by simp
 rw [←get_at hp ⟨h0,h1⟩ hk] at h
 simp only [List.cons.injEq,DV.a.injEq,DV.c.injEq,D.raw.injEq,Value.int.injEq,true_and,and_true] at h
 exact ⟨h.2,h.1⟩
theorem get_old {l:LL} {e x:Int} {q:List D} (h:[DV.a q,vn x]=m_get l e) (hp:e_past l=0) (h0:0≤e) (h1:e≤65535) (hl:0<l.length→nth l (l.length-1) 0<e):x=6:=by
 rw [←get_none hp ⟨h0,h1⟩ (fun c hc he=>?_)] at h
 ·simp only [List.cons.injEq,DV.a.injEq,DV.c.injEq,D.raw.injEq,Value.int.injEq,true_and,and_true] at h
  exact h.2
 ·obtain ⟨j,hj,h3⟩:=nth_mem hc
  have:=hl (by omega)
  by_cases hje:j=l.length-1
  ·subst hje;omega
  ·have:=ris_past hp j (l.length-1) (by omega) (by omega);omega
theorem dec_f {p:Prop} [Decidable p] (hp:p) (h:decide p=false):False:=by rw [decide_eq_true hp] at h;cases h
attribute [irreducible] tkI
end Go.Vc

namespace Go.Vc
open Classical
def f_epochCheck (aa:List DV):List DV:=[vn (if p_clock (ai aa 0) then 0 else 8)]
def t_epochCheck:ConT:=⟨[rkS clockS],[kn],fun aa=>DShs clockS (ai aa 0),fun aa rs=>rs=f_epochCheck aa⟩
theorem fn_epochCheck:∀ aa,t_epochCheck.pre aa→∀ rs,t_epochCheck.post aa rs→rs=f_epochCheck aa:=fun _ _ _ h=>h
def V_epochCheck:Prop:=∀ (x0 x1 x2 x3 x4:Int),Ob (DShs clockS [dn x0,dn x1,dn x2,dn x3,dn x4])→∀ (R:List DV→Prop),Ob (∀ (res:List DV),res=[vn (if p_clock [dn x0,dn x1,dn x2,dn x3,dn x4] then (0:Int) else (8:Int))]→R res)→(x0<(1:Int)→Ob (R [vn (8:Int)]))∧(¬x0<(1:Int)→(x0>(64:Int)→Ob (R [vn (8:Int)]))∧(¬x0>(64:Int)→(x2<(0:Int)→Ob (R [vn (8:Int)]))∧(¬x2<(0:Int)→(x2>x1→Ob (R [vn (8:Int)]))∧(¬x2>x1→(x1>(2147483647:Int)→Ob (R [vn (8:Int)]))∧(¬x1>(2147483647:Int)→(x3<(0:Int)→Ob (R [vn (8:Int)]))∧(¬x3<(0:Int)→(x3>(65535:Int)→Ob (R [vn (8:Int)]))∧(¬x3>(65535:Int)→(x4<(0:Int)→Ob (R [vn (8:Int)]))∧(¬x4<(0:Int)→(x4>(65536:Int)→Ob (R [vn (8:Int)]))∧(¬x4>(65536:Int)→∀ (x6:Int),x6=w64 (x1-x2)→(x6≥x0→(x3≠(65535:Int)→Ob (R [vn (8:Int)]))∧(¬x3≠(65535:Int)→Ob (R [vn (0:Int)])))∧(¬x6≥x0→Ob (R [vn (0:Int)])))))))))))
set_option maxRecDepth 100000 in
theorem vcEq_epochCheck:vcFn Go.Proofs.Tryz.prog k0 (cxf [] [] [] []) 3000 109 Go.Proofs.Tryz.f109 (bodyOf Go.Proofs.Tryz.f109) t_epochCheck=V_epochCheck:=by kernel_rfl
set_option maxHeartbeats 4000000 in
set_option maxRecDepth 20000 in
theorem vcPf_epochCheck:V_epochCheck:=by
  delta V_epochCheck
  simp only [ob_iff,and_imp,List.cons_append,List.nil_append,dshs_cons,dshs_nil,dsh_int,dsh_bool,dsh_sl,rng64,rng32,true_and,and_true,List.cons.injEq,DV.c.injEq,DV.a.injEq,D.raw.injEq,D.fs.injEq,Value.bool.injEq,Value.int.injEq]
  repeat' first | assumption | exact DShs.tail (DSh_nth (by assumption) (by assumption)) | exact shp32 (by assumption) | exact shp64 (by assumption) | exact shp2 (by assumption) | exact shpF (by assumption) | with_reducible intro _ | with_reducible apply And.intro
  all_goals (try (have e:=w64_id' ‹_=w64 (_-_)› (by omega) (by omega);subst e))
  all_goals first
    | assumption
    | omega
    | (apply ‹∀ res:List DV,_=_→_›;simp [p_clock,gI];try omega)
theorem con_epochCheck:Con Go.Proofs.Tryz.prog k0 109 t_epochCheck :=
  con_of (cxf_ok mixOk (fun p hp=>by cases hp) (fun p hp=>by cases hp)) Go.Proofs.Tryz.func109 rfl rfl rfl rfl vcEq_epochCheck vcPf_epochCheck
end Go.Vc

namespace Go.Vc
open Classical
def f_nodeNew (aa:List DV):List DV:=m_new (ni aa 0) (ni aa 1) (ni aa 2) (ai aa 3)
def t_nodeNew:ConT:=⟨[kn,kn,kn,rkS clockS],[rkS nodeS,kn],fun aa=>DShs clockS (ai aa 3),fun aa rs=>rs=f_nodeNew aa⟩
theorem fn_nodeNew:∀ aa,t_nodeNew.pre aa→∀ rs,t_nodeNew.post aa rs→rs=f_nodeNew aa:=fun _ _ _ h=>h
def V_nodeNew:Prop:=∀ (x0 x1 x2 x3 x4 x5 x6 x7:Int),Ob (DShs clockS [dn x3,dn x4,dn x5,dn x6,dn x7])→∀ (R:List DV→Prop),Ob (∀ (res:List DV),res=m_new x0 x1 x2 [dn x3,dn x4,dn x5,dn x6,dn x7]→R res)→(x0<(0:Int)→Ob (R [DV.a [dn (0:Int),dn (0:Int),db false,dn (0:Int),dn (0:Int),dn (0:Int),dn (0:Int),dn (0:Int),db false,D.fs [],dn (0:Int),db false,D.fs [],dn (0:Int),db false,D.fs [],dn (0:Int),db false,D.fs [],dn (0:Int),db false,dn (0:Int),dn (0:Int),D.fs [],db false,dn (0:Int),dn (0:Int),D.fs [],dn (0:Int),dn (0:Int),D.fs [],D.fs [],D.fs []],vn (2:Int)]))∧(¬x0<(0:Int)→(x0≥(8:Int)→Ob (R [DV.a [dn (0:Int),dn (0:Int),db false,dn (0:Int),dn (0:Int),dn (0:Int),dn (0:Int),dn (0:Int),db false,D.fs [],dn (0:Int),db false,D.fs [],dn (0:Int),db false,D.fs [],dn (0:Int),db false,D.fs [],dn (0:Int),db false,dn (0:Int),dn (0:Int),D.fs [],db false,dn (0:Int),dn (0:Int),D.fs [],dn (0:Int),dn (0:Int),D.fs [],D.fs [],D.fs []],vn (2:Int)]))∧(¬x0≥(8:Int)→(x2<(1:Int)→Ob (R [DV.a [dn (0:Int),dn (0:Int),db false,dn (0:Int),dn (0:Int),dn (0:Int),dn (0:Int),dn (0:Int),db false,D.fs [],dn (0:Int),db false,D.fs [],dn (0:Int),db false,D.fs [],dn (0:Int),db false,D.fs [],dn (0:Int),db false,dn (0:Int),dn (0:Int),D.fs [],db false,dn (0:Int),dn (0:Int),D.fs [],dn (0:Int),dn (0:Int),D.fs [],D.fs [],D.fs []],vn (2:Int)]))∧(¬x2<(1:Int)→(x2>(6:Int)→Ob (R [DV.a [dn (0:Int),dn (0:Int),db false,dn (0:Int),dn (0:Int),dn (0:Int),dn (0:Int),dn (0:Int),db false,D.fs [],dn (0:Int),db false,D.fs [],dn (0:Int),db false,D.fs [],dn (0:Int),db false,D.fs [],dn (0:Int),db false,dn (0:Int),dn (0:Int),D.fs [],db false,dn (0:Int),dn (0:Int),D.fs [],dn (0:Int),dn (0:Int),D.fs [],D.fs [],D.fs []],vn (2:Int)]))∧(¬x2>(6:Int)→(x1≥(-2147483647:Int)→(x1≤(2147483647:Int)→Ob (DShs clockS [dn x3,dn x4,dn x5,dn x6,dn x7])∧∀ (x9:Int),Ob ([vn x9]=[vn (if p_clock [dn x3,dn x4,dn x5,dn x6,dn x7] then (0:Int) else (8:Int))])→(x9≠(0:Int)→Ob (R [DV.a [dn (0:Int),dn (0:Int),db false,dn (0:Int),dn (0:Int),dn (0:Int),dn (0:Int),dn (0:Int),db false,D.fs [],dn (0:Int),db false,D.fs [],dn (0:Int),db false,D.fs [],dn (0:Int),db false,D.fs [],dn (0:Int),db false,dn (0:Int),dn (0:Int),D.fs [],db false,dn (0:Int),dn (0:Int),D.fs [],dn (0:Int),dn (0:Int),D.fs [],D.fs [],D.fs []],vn (2:Int)]))∧(¬x9≠(0:Int)→Ob (R [DV.a [dn x0,dn x1,db true,dn x3,dn x4,dn x5,dn x6,dn x7,db false,D.fs [],dn (0:Int),db false,D.fs [],dn (0:Int),db false,D.fs [],dn (0:Int),db false,D.fs [],dn (0:Int),db false,dn (0:Int),dn (0:Int),D.fs [],db false,dn (0:Int),dn (0:Int),D.fs [],dn x0,dn x2,D.fs [],D.fs [],D.fs []],vn (0:Int)])))∧(¬x1≤(2147483647:Int)→Ob (R [DV.a [dn (0:Int),dn (0:Int),db false,dn (0:Int),dn (0:Int),dn (0:Int),dn (0:Int),dn (0:Int),db false,D.fs [],dn (0:Int),db false,D.fs [],dn (0:Int),db false,D.fs [],dn (0:Int),db false,D.fs [],dn (0:Int),db false,dn (0:Int),dn (0:Int),D.fs [],db false,dn (0:Int),dn (0:Int),D.fs [],dn (0:Int),dn (0:Int),D.fs [],D.fs [],D.fs []],vn (2:Int)])))∧(¬x1≥(-2147483647:Int)→Ob (R [DV.a [dn (0:Int),dn (0:Int),db false,dn (0:Int),dn (0:Int),dn (0:Int),dn (0:Int),dn (0:Int),db false,D.fs [],dn (0:Int),db false,D.fs [],dn (0:Int),db false,D.fs [],dn (0:Int),db false,D.fs [],dn (0:Int),db false,dn (0:Int),dn (0:Int),D.fs [],db false,dn (0:Int),dn (0:Int),D.fs [],dn (0:Int),dn (0:Int),D.fs [],D.fs [],D.fs []],vn (2:Int)]))))))
set_option maxRecDepth 100000 in
theorem vcEq_nodeNew:vcFn Go.Proofs.Tryz.prog k0 (cxf [(109,t_epochCheck)] [] [] [(109,f_epochCheck)]) 3000 29 Go.Proofs.Tryz.f29 (bodyOf Go.Proofs.Tryz.f29) t_nodeNew=V_nodeNew:=by kernel_rfl
set_option maxHeartbeats 4000000 in
set_option maxRecDepth 20000 in
theorem vcPf_nodeNew:V_nodeNew:=by
  delta V_nodeNew
  simp only [ob_iff,and_imp,forall_exists_index,true_and,and_true,List.cons.injEq,DV.c.injEq,DV.a.injEq,D.raw.injEq,D.fs.injEq,Value.bool.injEq,Value.int.injEq]
  intro x0 x1 x2 x3 x4 x5 x6 x7 hs R hR
  repeat' first | assumption | exact DShs.tail (DSh_nth (by assumption) (by assumption)) | exact shp32 (by assumption) | exact shp64 (by assumption) | exact shp2 (by assumption) | exact shpF (by assumption) | with_reducible intro _ | with_reducible apply And.intro
  all_goals first
    | (refine hR _ (Eq.symm (new_yes ?_))
       refine ⟨by omega,by omega,by omega,by omega,⟨by omega,by omega⟩,?_⟩
       exact not_if8' (by assumption) (by assumption))
    | (refine hR _ (new_no fun hp=>?_).symm
       obtain ⟨h1,h2,h3,h4,⟨h5,h6⟩,h7⟩:=hp
       first
         | omega
         | exact if8' (by assumption) (by assumption) h7)
theorem con_nodeNew:Con Go.Proofs.Tryz.prog k0 29 t_nodeNew :=
  con_of (cxf_ok mixOk (fun p hp=>by
    simp only [List.mem_cons,List.not_mem_nil,or_false] at hp
    subst hp
    exact con_epochCheck) (fun p hp=>by
    simp only [List.mem_cons,List.not_mem_nil,or_false] at hp
    subst hp
    · intro t ht;cases ht;exact fn_epochCheck)) Go.Proofs.Tryz.func29 rfl rfl rfl rfl vcEq_nodeNew vcPf_nodeNew
end Go.Vc
