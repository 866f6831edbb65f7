
import Derived.Test.YtneooimijbfmgaaGreatStAR
set_option linter.unusedVariables false
set_option linter.unusedSimpArgs false
set_option linter.unusedSectionVars false
noncomputable section
namespace Go.Vc
open Classical
theorem node_mk {x0 x1 x3 x4 x5 x6 x7 x10 x13 x16 x19 x21 x22 x25 x26 x28 x29:Int} {b8 b11 b14 b17 b20 b24:Bool} {l9 l12 l15 l18 l23 l27 l30 l31 l32:LL} (h0:0≤x0) (h1:x0≤7) (k : -2147483647≤x1∧x1≤2147483647∧p_clock [dn x3,dn x4,dn x5,dn x6,dn x7]∧p_part [db b8,D.fs l9,dn x10,db b11,D.fs l12,dn x13,db b14,D.fs l15,dn x16,db b17,D.fs l18,dn x19,db b20,dn x21,dn x22,D.fs l23]∧(¬x7≤x6→[db b8,D.fs l9,dn x10,db b11,D.fs l12,dn x13,db b14,D.fs l15,dn x16,db b17,D.fs l18,dn x19,db b20,dn x21,dn x22,D.fs l23]=zPart)∧(b24=false→x25=0∧x26=0)∧(b24=true→x7≤x6∧0≤x25∧x25≤1048575∧0≤x26∧x26<8∧x26≠x0)∧e_seen l27=0∧e_timer l32=0∧x28=x0∧e_past l31=0∧(0<l31.length→nth l31 (l31.length-1) 0<x6)∧1≤x29∧x29≤6∧((l30.length:Nat):Int)≤x29) :
  p_nodeW [dn x0,dn x1,db true,dn x3,dn x4,dn x5,dn x6,dn x7,db b8,D.fs l9,dn x10,db b11,D.fs l12,dn x13,db b14,D.fs l15,dn x16,db b17,D.fs l18,dn x19,db b20,dn x21,dn x22,D.fs l23,db b24,dn x25,dn x26,D.fs l27,dn x28,dn x29,D.fs l30,D.fs l31,D.fs l32]:=by
 obtain ⟨k1,k2,k3,k4,k5,k6,k7,k8,k9,k10,k11,k12,k13,k14,k15⟩:=k
 exact ⟨h0,h1,fun h=>Bool.noConfusion (show true=false from h),fun _=>⟨up_mk ⟨⟨k1,k2⟩,k3,k4,k5,⟨k6,k7⟩,k8,k9,k10,k11,k12⟩,k13,k14,k15⟩⟩
theorem e_least_nil:e_least []=0:=by
 unfold e_least;rw [if_neg (by simp),if_pos (show upto _ _ from fun i hi=>by simp at hi;omega)]
theorem limb_one {v:Int} (h:v≠0):p_limb [[d32 v]]:=⟨by simp,fun _=>by show v≠0;exact h⟩
theorem limb_nil:p_limb []:=⟨by simp,fun h=>by simp at h⟩
theorem dy_ok (v:Int):p_dy (dyOf v):=by
 unfold dyOf
 by_cases h:v=0
 ·subst h
  exact ⟨limb_nil,by show (0:Int)≤0;omega,by show (0:Int)≤1024;omega,fun _=>⟨rfl,by show decide ((0:Int)<0)=false;decide⟩,fun h=>by simp [gL] at h⟩
 ·rw [if_neg h]
  refine ⟨limb_one (by omega),by show (0:Int)≤0;omega,by show (0:Int)≤1024;omega,fun h=>by simp [gL] at h,fun _ h=>?_⟩
  exact absurd (show (0:Int)<0 from h) (by omega)
theorem dy_fst (f:Bool):p_dy [db false, .fs (if f=true then [[d32 1]] else []),dn 0]:=by
 cases f
 ·exact dy_ok 0
 ·exact dy_ok 1
theorem part_of {v:Int} (f:Bool) {l:LL} (hv:inV v) (hl:e_least l=0):p_part (massOf v f++[db true,dn v,dn v, .fs l]) :=
 ⟨⟨⟨dy_ok v,dy_ok 1,dy_fst f,dy_ok v⟩,rfl,fun h=>by simp [massOf,gL] at h⟩,⟨fun _=>⟨hv,hv,Int.le_refl v⟩,fun h=>Bool.noConfusion (show true=false from h)⟩,hl⟩
theorem part_z:p_part zPart:=⟨⟨⟨dy_ok 0,dy_ok 0,dy_ok 0,dy_ok 0⟩,rfl,fun _=>rfl⟩,⟨fun h=>Bool.noConfusion (show false=true from h),fun _=>⟨rfl,rfl⟩⟩,e_least_nil⟩
theorem tags_least {e n:Int} {l:LL} (h:p_tags e n l) (hn:(tagsUp e n 4).Nodup):e_least l=0:=by
 obtain ⟨h1,h2,h3⟩:=h
 have hd:l.Nodup:=h2.nodup_iff.2 hn
 unfold e_least
 rw [if_neg (by omega),if_pos]
 intro i hi h0
 have h4:=h3 (i-1) i (by omega) (by omega)
 rcases Int.lt_or_eq_of_le h4 with h | h
 ·exact h
 ·exfalso
  have hi1:i<l.length:=by omega
  have hi0:i-1<l.length:=by omega
  have key:∀ (k:Nat) (hk:k<l.length),l[k]=[d32 (nth l k 0)]:=fun k hk=>by
   obtain ⟨x,hx⟩:=tagsUp_mem (h2.mem_iff.1 (List.getElem_mem hk))
   rw [hx,nth_1 (show l[k]?=some [d32 x] by rw [List.getElem?_eq_getElem hk,hx])]
  have he:l[i-1]=l[i]:=by rw [key _ hi0,key _ hi1,h]
  have:=(List.getElem_inj hd).1 he
  omega
theorem tags_ne {e n:Int} (h:tagOf e n 0≠tagOf e n 1∧tagOf e n 0≠tagOf e n 2∧tagOf e n 0≠tagOf e n 3∧tagOf e n 1≠tagOf e n 2∧tagOf e n 1≠tagOf e n 3∧tagOf e n 2≠tagOf e n 3):(tagsUp e n 4).Nodup:=by
 show ([[d32 (tagOf e n 0)],[d32 (tagOf e n 1)],[d32 (tagOf e n 2)],[d32 (tagOf e n 3)]]:LL).Nodup
 simp only [List.nodup_cons,List.mem_cons,List.cons.injEq,D.raw.injEq,Value.int.injEq,true_and,and_true,List.not_mem_nil,or_false,not_or,not_false_eq_true,List.nodup_nil]
 obtain ⟨h1,h2,h3,h4,h5,h6⟩:=h
 exact ⟨⟨h1,h2,h3⟩,⟨h4,h5⟩,h6⟩
theorem tags_01:(tagsUp 0 1 4).Nodup:=tags_ne (by decide)
theorem tags_11:(tagsUp 1 1 4).Nodup:=tags_ne (by decide)
end Go.Vc

namespace Go.Vc
open Classical
theorem may_A :p_nodeW [dn 1,dn 5,db true,dn 2,dn 0,dn 0,dn 0,dn 0,db false,D.fs [],dn 0,db false,D.fs [],dn 0,db false,D.fs [],dn 0,db false,D.fs [],dn 0,db false,dn 0,dn 0,D.fs [],db false,dn 0,dn 0,D.fs [],dn 1,dn 3,D.fs [],D.fs [],D.fs []]:=by
 refine node_mk (of_decide_eq_true rfl) (of_decide_eq_true rfl) ?_
 refine ⟨of_decide_eq_true rfl,of_decide_eq_true rfl,?_,?_,fun h=>absurd (of_decide_eq_true rfl) h,fun _=>⟨rfl,rfl⟩,fun h=>Bool.noConfusion h,e_seen_nil,e_timer_nil,rfl,?_,?_,of_decide_eq_true rfl,of_decide_eq_true rfl,of_decide_eq_true rfl⟩
 ·exact ⟨of_decide_eq_true rfl,of_decide_eq_true rfl,of_decide_eq_true rfl,of_decide_eq_true rfl,of_decide_eq_true rfl,of_decide_eq_true rfl,of_decide_eq_true rfl,of_decide_eq_true rfl,of_decide_eq_true rfl,fun h=>absurd h (of_decide_eq_true rfl)⟩
 ·exact part_z
 ·exact e_past_nil
 ·exact fun h=>absurd h (of_decide_eq_true rfl)
theorem may_S {l:LL} (h:p_tags 0 1 l):p_nodeW [dn 1,dn 5,db true,dn 2,dn 0,dn 0,dn 0,dn 0,db false,D.fs [[d32 5]],dn 0,db false,D.fs [[d32 1]],dn 0,db false,D.fs [[d32 1]],dn 0,db false,D.fs [[d32 5]],dn 0,db true,dn 5,dn 5,D.fs l,db false,dn 0,dn 0,D.fs [],dn 1,dn 3,D.fs [],D.fs [],D.fs []]:=by
 refine node_mk (of_decide_eq_true rfl) (of_decide_eq_true rfl) ?_
 refine ⟨of_decide_eq_true rfl,of_decide_eq_true rfl,?_,?_,fun h=>absurd (of_decide_eq_true rfl) h,fun _=>⟨rfl,rfl⟩,fun h=>Bool.noConfusion h,e_seen_nil,e_timer_nil,rfl,?_,?_,of_decide_eq_true rfl,of_decide_eq_true rfl,of_decide_eq_true rfl⟩
 ·exact ⟨of_decide_eq_true rfl,of_decide_eq_true rfl,of_decide_eq_true rfl,of_decide_eq_true rfl,of_decide_eq_true rfl,of_decide_eq_true rfl,of_decide_eq_true rfl,of_decide_eq_true rfl,of_decide_eq_true rfl,fun h=>absurd h (of_decide_eq_true rfl)⟩
 ·exact part_of (v:=5) true ⟨of_decide_eq_true rfl,of_decide_eq_true rfl⟩ (tags_least h tags_01)
 ·exact e_past_nil
 ·exact fun h=>absurd h (of_decide_eq_true rfl)
theorem may_S1 {l:LL} (h:p_tags 0 1 l):p_nodeW [dn 1,dn 5,db true,dn 2,dn 1,dn 0,dn 0,dn 0,db false,D.fs [[d32 5]],dn 0,db false,D.fs [[d32 1]],dn 0,db false,D.fs [[d32 1]],dn 0,db false,D.fs [[d32 5]],dn 0,db true,dn 5,dn 5,D.fs l,db false,dn 0,dn 0,D.fs [],dn 1,dn 3,D.fs [],D.fs [],D.fs []]:=by
 refine node_mk (of_decide_eq_true rfl) (of_decide_eq_true rfl) ?_
 refine ⟨of_decide_eq_true rfl,of_decide_eq_true rfl,?_,?_,fun h=>absurd (of_decide_eq_true rfl) h,fun _=>⟨rfl,rfl⟩,fun h=>Bool.noConfusion h,e_seen_nil,e_timer_nil,rfl,?_,?_,of_decide_eq_true rfl,of_decide_eq_true rfl,of_decide_eq_true rfl⟩
 ·exact ⟨of_decide_eq_true rfl,of_decide_eq_true rfl,of_decide_eq_true rfl,of_decide_eq_true rfl,of_decide_eq_true rfl,of_decide_eq_true rfl,of_decide_eq_true rfl,of_decide_eq_true rfl,of_decide_eq_true rfl,fun h=>absurd h (of_decide_eq_true rfl)⟩
 ·exact part_of (v:=5) true ⟨of_decide_eq_true rfl,of_decide_eq_true rfl⟩ (tags_least h tags_01)
 ·exact e_past_nil
 ·exact fun h=>absurd h (of_decide_eq_true rfl)
theorem may_S2 {l r:LL} (h:p_tags 0 1 l) (h2:p_tags 1 1 r):p_nodeW [dn 1,dn 5,db true,dn 2,dn 2,dn 2,dn 1,dn 0,db false,D.fs [[d32 5]],dn 0,db false,D.fs [[d32 1]],dn 0,db false,D.fs [],dn 0,db false,D.fs [[d32 5]],dn 0,db true,dn 5,dn 5,D.fs r,db false,dn 0,dn 0,D.fs [],dn 1,dn 3,D.fs [],D.fs [[dn 0,db false,D.fs [[d32 5]],dn 0,db false,D.fs [[d32 1]],dn 0,db false,D.fs [[d32 1]],dn 0,db false,D.fs [[d32 5]],dn 0,db true,dn 5,dn 5,D.fs l]],D.fs []]:=by
 refine node_mk (of_decide_eq_true rfl) (of_decide_eq_true rfl) ?_
 refine ⟨of_decide_eq_true rfl,of_decide_eq_true rfl,?_,?_,fun h=>absurd (of_decide_eq_true rfl) h,fun _=>⟨rfl,rfl⟩,fun h=>Bool.noConfusion h,e_seen_nil,e_timer_nil,rfl,?_,?_,of_decide_eq_true rfl,of_decide_eq_true rfl,of_decide_eq_true rfl⟩
 ·exact ⟨of_decide_eq_true rfl,of_decide_eq_true rfl,of_decide_eq_true rfl,of_decide_eq_true rfl,of_decide_eq_true rfl,of_decide_eq_true rfl,of_decide_eq_true rfl,of_decide_eq_true rfl,of_decide_eq_true rfl,fun h=>absurd h (of_decide_eq_true rfl)⟩
 ·exact part_of (v:=5) false ⟨of_decide_eq_true rfl,of_decide_eq_true rfl⟩ (tags_least h2 tags_11)
 ·have hp:p_part [db false,D.fs [[d32 5]],dn 0,db false,D.fs [[d32 1]],dn 0,db false,D.fs [[d32 1]],dn 0,db false,D.fs [[d32 5]],dn 0,db true,dn 5,dn 5,D.fs l]:=part_of (v:=5) true ⟨of_decide_eq_true rfl,of_decide_eq_true rfl⟩ (tags_least h tags_01)
  unfold e_past
  rw [if_neg (of_decide_eq_true rfl),if_pos]
  intro i hi
  have h0:i=0:=by simp at hi;omega
  subst h0
  exact ⟨of_decide_eq_true rfl,of_decide_eq_true rfl,hp⟩
 ·exact fun _=>of_decide_eq_true rfl
theorem new_A:m_new 1 5 3 [dn 2,dn 0,dn 0,dn 0,dn 0]=[.a [dn 1,dn 5,db true,dn 2,dn 0,dn 0,dn 0,dn 0,db false,D.fs [],dn 0,db false,D.fs [],dn 0,db false,D.fs [],dn 0,db false,D.fs [],dn 0,db false,dn 0,dn 0,D.fs [],db false,dn 0,dn 0,D.fs [],dn 1,dn 3,D.fs [],D.fs [],D.fs []],vn 0]:=new_yes ⟨of_decide_eq_true rfl,of_decide_eq_true rfl,of_decide_eq_true rfl,of_decide_eq_true rfl,⟨of_decide_eq_true rfl,of_decide_eq_true rfl⟩,⟨of_decide_eq_true rfl,of_decide_eq_true rfl,of_decide_eq_true rfl,of_decide_eq_true rfl,of_decide_eq_true rfl,of_decide_eq_true rfl,of_decide_eq_true rfl,of_decide_eq_true rfl,of_decide_eq_true rfl,fun h=>absurd h (of_decide_eq_true rfl)⟩⟩
theorem ls_1 {v:Int} (h0:0≤v) (h1:v≤4294967295):LSh [s32] [[d32 v]]:=⟨of_decide_eq_true rfl, .mk (of_decide_eq_true rfl) fun cs hc=>by
 rw [List.mem_singleton] at hc
 subst hc
 exact dshs_cons.2 ⟨dsh_int.2 ⟨h0,h1⟩,dshs_nil.2 trivial⟩⟩
theorem ls_5:LSh [s32] [[d32 5]]:=ls_1 (of_decide_eq_true rfl) (of_decide_eq_true rfl)
theorem ls_one:LSh [s32] [[d32 1]]:=ls_1 (of_decide_eq_true rfl) (of_decide_eq_true rfl)
theorem dec_no {p:Prop} [Decidable p] (hp:p) (h:decide p=false):False:=by rw [decide_eq_true hp] at h;cases h
theorem sh_F {l:LL} (hl:l.length≤9223372036854775807∧LS [s32] l):DShs frozS [dn 0,db false,D.fs [[d32 5]],dn 0,db false,D.fs [[d32 1]],dn 0,db false,D.fs [[d32 1]],dn 0,db false,D.fs [[d32 5]],dn 0,db true,dn 5,dn 5,D.fs l]:=by
 obtain ⟨h1,h2⟩:=hl
 simp only [dshs_cons,dshs_nil,dsh_int,dsh_bool,dsh_sl,rng64,true_and,and_true]
 repeat' apply And.intro
 all_goals first
  | exact of_decide_eq_true rfl
  | exact ls_nil
  | exact ls_5.2
  | exact ls_one.2
  | assumption
theorem ls_F {l:LL} (hl:l.length≤9223372036854775807∧LS [s32] l):LSh frozS [[dn 0,db false,D.fs [[d32 5]],dn 0,db false,D.fs [[d32 1]],dn 0,db false,D.fs [[d32 1]],dn 0,db false,D.fs [[d32 5]],dn 0,db true,dn 5,dn 5,D.fs l]]:=⟨of_decide_eq_true rfl, .mk (of_decide_eq_true rfl) fun cs hc=>by
 rw [List.mem_singleton] at hc
 subst hc
 exact sh_F hl⟩
theorem sh_F1 {r:LL} (hl:r.length≤9223372036854775807∧LS [s32] r):DShs frozS [dn 1,db false,D.fs [[d32 5]],dn 0,db false,D.fs [[d32 1]],dn 0,db false,D.fs [],dn 0,db false,D.fs [[d32 5]],dn 0,db true,dn 5,dn 5,D.fs r]:=by
 obtain ⟨h1,h2⟩:=hl
 simp only [dshs_cons,dshs_nil,dsh_int,dsh_bool,dsh_sl,rng64,true_and,and_true]
 repeat' apply And.intro
 all_goals first
  | exact of_decide_eq_true rfl
  | exact ls_nil
  | exact ls_5.2
  | exact ls_one.2
  | assumption
theorem ls_F2 {l r:LL} (hl:l.length≤9223372036854775807∧LS [s32] l) (hr:r.length≤9223372036854775807∧LS [s32] r):LS frozS ([[dn 0,db false,D.fs [[d32 5]],dn 0,db false,D.fs [[d32 1]],dn 0,db false,D.fs [[d32 1]],dn 0,db false,D.fs [[d32 5]],dn 0,db true,dn 5,dn 5,D.fs l]]++[[dn 1,db false,D.fs [[d32 5]],dn 0,db false,D.fs [[d32 1]],dn 0,db false,D.fs [],dn 0,db false,D.fs [[d32 5]],dn 0,db true,dn 5,dn 5,D.fs r]]) := .mk (of_decide_eq_true rfl) fun cs hc=>by
 rcases List.mem_append.1 hc with hc | hc
 ·rw [List.mem_singleton] at hc;subst hc;exact sh_F hl
 ·rw [List.mem_singleton] at hc;subst hc;exact sh_F1 hr
theorem sh_A:DShs nodeS [dn 1,dn 5,db true,dn 2,dn 0,dn 0,dn 0,dn 0,db false,D.fs [],dn 0,db false,D.fs [],dn 0,db false,D.fs [],dn 0,db false,D.fs [],dn 0,db false,dn 0,dn 0,D.fs [],db false,dn 0,dn 0,D.fs [],dn 1,dn 3,D.fs [],D.fs [],D.fs []]:=by
 simp only [dshs_cons,dshs_nil,dsh_int,dsh_bool,dsh_sl,rng64,true_and,and_true]
 repeat' apply And.intro
 all_goals first
  | exact of_decide_eq_true rfl
  | exact ls_nil
  | exact ls_5.2
  | exact ls_one.2
  | assumption
theorem sh_S {l:LL} (hl:l.length≤9223372036854775807∧LS [s32] l):DShs nodeS [dn 1,dn 5,db true,dn 2,dn 0,dn 0,dn 0,dn 0,db false,D.fs [[d32 5]],dn 0,db false,D.fs [[d32 1]],dn 0,db false,D.fs [[d32 1]],dn 0,db false,D.fs [[d32 5]],dn 0,db true,dn 5,dn 5,D.fs l,db false,dn 0,dn 0,D.fs [],dn 1,dn 3,D.fs [],D.fs [],D.fs []]:=by
 obtain ⟨h1,h2⟩:=hl
 simp only [dshs_cons,dshs_nil,dsh_int,dsh_bool,dsh_sl,rng64,true_and,and_true]
 repeat' apply And.intro
 all_goals first
  | exact of_decide_eq_true rfl
  | exact ls_nil
  | exact ls_5.2
  | exact ls_one.2
  | assumption
theorem sh_S1 {l:LL} (hl:l.length≤9223372036854775807∧LS [s32] l):DShs nodeS [dn 1,dn 5,db true,dn 2,dn 1,dn 0,dn 0,dn 0,db false,D.fs [[d32 5]],dn 0,db false,D.fs [[d32 1]],dn 0,db false,D.fs [[d32 1]],dn 0,db false,D.fs [[d32 5]],dn 0,db true,dn 5,dn 5,D.fs l,db false,dn 0,dn 0,D.fs [],dn 1,dn 3,D.fs [],D.fs [],D.fs []]:=by
 obtain ⟨h1,h2⟩:=hl
 simp only [dshs_cons,dshs_nil,dsh_int,dsh_bool,dsh_sl,rng64,true_and,and_true]
 repeat' apply And.intro
 all_goals first
  | exact of_decide_eq_true rfl
  | exact ls_nil
  | exact ls_5.2
  | exact ls_one.2
  | assumption
theorem sh_S2 {l r:LL} (hl:l.length≤9223372036854775807∧LS [s32] l) (hr:r.length≤9223372036854775807∧LS [s32] r):DShs nodeS [dn 1,dn 5,db true,dn 2,dn 2,dn 2,dn 1,dn 0,db false,D.fs [[d32 5]],dn 0,db false,D.fs [[d32 1]],dn 0,db false,D.fs [],dn 0,db false,D.fs [[d32 5]],dn 0,db true,dn 5,dn 5,D.fs r,db false,dn 0,dn 0,D.fs [],dn 1,dn 3,D.fs [],D.fs [[dn 0,db false,D.fs [[d32 5]],dn 0,db false,D.fs [[d32 1]],dn 0,db false,D.fs [[d32 1]],dn 0,db false,D.fs [[d32 5]],dn 0,db true,dn 5,dn 5,D.fs l]],D.fs []]:=by
 have hf:=(ls_F hl).2
 obtain ⟨h1,h2⟩:=hl
 obtain ⟨h3,h4⟩:=hr
 simp only [dshs_cons,dshs_nil,dsh_int,dsh_bool,dsh_sl,rng64,true_and,and_true]
 repeat' apply And.intro
 all_goals first
  | exact of_decide_eq_true rfl
  | exact ls_nil
  | exact ls_5.2
  | exact ls_one.2
  | assumption
theorem sh_D:DShs nodeS [dn 1,dn 0,db false,dn 0,dn 0,dn 0,dn 0,dn 0,db false,D.fs [],dn 0,db false,D.fs [],dn 0,db false,D.fs [],dn 0,db false,D.fs [],dn 0,db false,dn 0,dn 0,D.fs [],db false,dn 0,dn 0,D.fs [],dn 0,dn 0,D.fs [],D.fs [],D.fs []]:=by
 simp only [dshs_cons,dshs_nil,dsh_int,dsh_bool,dsh_sl,rng64,true_and,and_true]
 repeat' apply And.intro
 all_goals first
  | exact of_decide_eq_true rfl
  | exact ls_nil
  | exact ls_5.2
  | exact ls_one.2
  | assumption
theorem sh_M:DShs massS [db false,D.fs [[d32 5]],dn 0,db false,D.fs [[d32 1]],dn 0,db false,D.fs [[d32 1]],dn 0,db false,D.fs [[d32 5]],dn 0]:=by
 simp only [dshs_cons,dshs_nil,dsh_int,dsh_bool,dsh_sl,rng64,true_and,and_true]
 repeat' apply And.intro
 all_goals first
  | exact of_decide_eq_true rfl
  | exact ls_nil
  | exact ls_5.2
  | exact ls_one.2
  | assumption
theorem sh_C:DShs clockS [dn 2,dn 0,dn 0,dn 0,dn 0]:=by
 simp only [dshs_cons,dshs_nil,dsh_int,dsh_bool,dsh_sl,rng64,true_and,and_true]
 repeat' apply And.intro
 all_goals first
  | exact of_decide_eq_true rfl
  | exact ls_nil
  | exact ls_5.2
  | exact ls_one.2
  | assumption
end Go.Vc

namespace Go.Vc
open Classical
theorem sh_Z:DShs partS [db false,D.fs [],dn 0,db false,D.fs [],dn 0,db false,D.fs [],dn 0,db false,D.fs [],dn 0,db false,dn 0,dn 0,D.fs []]:=by
 simp only [dshs_cons,dshs_nil,dsh_int,dsh_bool,dsh_sl,rng64,true_and,and_true]
 repeat' apply And.intro
 all_goals first
  | exact of_decide_eq_true rfl
  | exact ls_nil
end Go.Vc

namespace Go.Vc
open Classical
def pmT (l l0:LL):Prop:=l.Perm l0
def tmD (l0:LL) (now:Int) (a b p:LL):Prop:=(a++(b++p)).Perm l0∧(∀ c∈a,gI c 0≤now)∧∀ c∈b,now<gI c 0
theorem pmT.refl (l:LL):pmT l l:=List.Perm.refl l
theorem pmT.len {l l0:LL} (h:pmT l l0):l.length=l0.length:=List.Perm.length_eq h
theorem tmD.zero {l l0:LL} {now:Int} (h:pmT l l0):tmD l0 now [] [] l:=⟨h,fun c hc=>(by cases hc),fun c hc=>(by cases hc)⟩
theorem tmD.len {l0 a b p:LL} {now:Int} (h:tmD l0 now a b p):a.length+(b.length+p.length)=l0.length:=by
 have:=List.Perm.length_eq h.1
 rw [List.length_append,List.length_append] at this
 exact this
theorem tmD.fin {l0 a b p:LL} {now:Int} (h:tmD l0 now a b p) (hp:¬(p.length:Int)>0):tmD l0 now a b []:=by
 have:p=[]:=List.length_eq_zero_iff.1 (by omega)
 subst this
 exact h
theorem last_take {q:LL} {k:Nat} {c:List D} (hk:q[k]?=some c) (hl:k+1=q.length):q=q.take k++[c]:=by
 have:=List.take_add_one (l:=q) (i:=k)
 rw [hk,List.take_of_length_le (by omega)] at this
 exact this
theorem tmD.left {l0 a b p q:LL} {now:Int} {k:Nat} {x y:Int} (h:tmD l0 now a b p) (hq:pmT q p) (hk:q[k]?=some [dn x,dn y]) (hl:k+1=q.length) (hx:¬x≤now):tmD l0 now a (b++[[dn x,dn y]]) (q.take k):=by
 refine ⟨?_,h.2.1,fun c hc=>?_⟩
 ·refine List.Perm.trans ?_ h.1
  have e:(q.take k++[[dn x,dn y]]).Perm p:=by rw [←last_take hk hl];exact hq
  have e2:([[dn x,dn y]]++q.take k).Perm p:=List.perm_append_comm.trans e
  rw [List.append_assoc]
  exact (e2.append_left b).append_left a
 ·rcases List.mem_append.1 hc with hc | hc
  ·exact h.2.2 c hc
  ·rw [List.mem_singleton] at hc;subst hc;exact Int.lt_of_not_ge hx
theorem half_b {n:Nat} (hn:n≤1024) : -1≤w64 (w64 (Int.tdiv (n:Int) 2)-1)∧w64 (w64 (Int.tdiv (n:Int) 2)-1)≤1024:=by
 have e:w64 ((n:Int) / 2)=(n:Int) / 2:=w64_id (by omega) (by omega)
 rw [Int.tdiv_eq_ediv_of_nonneg (by omega),e,w64_id (by omega) (by omega)]
 omega
attribute [irreducible] pmT tmD
end Go.Vc

namespace Go.Vc
open Classical
def ahd (l:LL) (key low high:Int):Prop:=(∀ i:Nat,(i:Int)<low→nth l i 0<key)∧∀ i:Nat,high≤(i:Int)→i<l.length→key≤nth l i 0
theorem ahd.zero (l:LL) (key:Int):ahd l key 0 (l.length:Int):=⟨fun i h=>by omega,fun i h h2=>by omega⟩
theorem ris_past {l:LL} (h:e_past l=0):∀ i j:Nat,i<j→j<l.length→nth l i 0<nth l j 0:=by
 unfold e_past at h
 split at h
 ·cases h
 ·split at h
  ·rename_i hu
   intro i j
   induction j with
   | zero=>intro h;omega
   | succ j ih =>
    intro hij hj
    have h1:=(hu (j+1) (by omega)).1
    unfold prv at h1
    rw [if_neg (by omega),show j+1-1=j from rfl] at h1
    by_cases he:i=j
    ·subst he;exact h1
    ·exact Int.lt_trans (ih (by omega) (by omega)) h1
  ·cases h
theorem ahd.up {l:LL} {key low high m x:Int} {cs:List D} (h:ahd l key low high) (hp:e_past l=0) (hm:0≤m) (hx:l[m.toNat]?=some (dn x::cs)) (hk:x<key):ahd l key (m+1) high:=by
 have hml:=(List.getElem?_eq_some_iff.1 hx).1
 have e:=nth_c hx
 refine ⟨fun i hi=>?_,h.2⟩
 by_cases he:i=m.toNat
 ·subst he;omega
 ·have:=ris_past hp i m.toNat (by omega) hml
  omega
theorem ahd.down {l:LL} {key low high m x:Int} {cs:List D} (h:ahd l key low high) (hp:e_past l=0) (hm:0≤m) (hx:l[m.toNat]?=some (dn x::cs)) (hk:¬x<key):ahd l key low m:=by
 have e:=nth_c hx
 refine ⟨h.1,fun i hi hil=>?_⟩
 by_cases he:i=m.toNat
 ·subst he;omega
 ·have:=ris_past hp m.toNat i (by omega) hil
  omega
def p_frz (l:LL) (e:Int) (p:List D):Prop:=e_past l=0∧0≤e∧e≤65535∧p_part p∧(∀ i:Nat,i<l.length→nth l i 0<e)∧l.length<1024
def o_frz (l:LL) (e:Int) (p:List D) (r:LL) (x:Int):Prop:=(x=0→p_frz l e p∧r=l++[dn e::p])∧(p_frz l e p→x=0)
theorem o_frz.no {l r:LL} {e x:Int} {p:List D} (h:x≠0) (h':¬p_frz l e p):o_frz l e p r x:=⟨fun e=>absurd e h,fun e=>absurd e h'⟩
theorem o_frz.yes {l:LL} {e:Int} {p:List D} (h:p_frz l e p):o_frz l e p (l++[dn e::p]) 0:=⟨fun _=>⟨h,rfl⟩,fun _=>rfl⟩
def o_pl (l:LL) (e i x:Int):Prop:=(x=0→e_past l=0∧0≤e∧e≤65535∧0≤i∧i≤(l.length:Int)∧ahd l e i i)∧(x≠0→¬(e_past l=0∧0≤e∧e≤65535))
theorem o_pl.no {l:LL} {e i x:Int} (h:x≠0) (h':¬(e_past l=0∧0≤e∧e≤65535)):o_pl l e i x:=⟨fun e=>absurd e h,fun _=>h'⟩
theorem o_pl.yes {l:LL} {e i j:Int} (h1:e_past l=0) (h2:0≤e) (h3:e≤65535) (h4:0≤i) (h5:j≤(l.length:Int)) (h6:ahd l e i j) (h7:¬i<j) (h8:i≤j):o_pl l e i 0:=⟨fun _=>⟨h1,h2,h3,h4,by omega,(show i=j by omega)▸(show j=j from rfl)▸(by have e:i=j:=(by omega);subst e;exact h6)⟩,fun h=>absurd rfl h⟩
theorem o_pl.get {l:LL} {e i x:Int} (h:o_pl l e i x) (h0:¬x≠0):e_past l=0∧0≤e∧e≤65535∧0≤i∧i≤(l.length:Int)∧ahd l e i i:=h.1 (Decidable.not_not.1 h0)
theorem ahd.at {l:LL} {e i:Int} (h:ahd l e i i) (h0:0≤i) (h1:i<(l.length:Int)):e≤nth l i.toNat 0:=h.2 i.toNat (by omega) (by omega)
theorem ahd.all {l:LL} {e i:Int} (h:ahd l e i i) (h1:¬i<(l.length:Int)):∀ j:Nat,j<l.length→nth l j 0<e:=fun j hj=>h.1 j (by omega)
attribute [irreducible] ahd o_frz o_pl
end Go.Vc

namespace Go.Vc
open Classical
def ltT (c d:List D):Prop:=ahead (gI c 0) (gI c 1) (gI d 0) (gI d 1)
def elT (l:LL) (k:Nat):List D:=(l[k]?).getD []
def leT (l:LL) (i j:Nat):Prop:=¬ltT (elT l j) (elT l i)
theorem ltT.irr (c:List D):¬ltT c c:=fun h=>by unfold ltT ahead at h;omega
theorem ltT.trans {a b c:List D} (h:ltT a b) (h2:ltT b c):ltT a c:=by unfold ltT ahead at *;omega
theorem nltT.trans {a b c:List D} (h:¬ltT b a) (h2:¬ltT c b):¬ltT c a:=by unfold ltT ahead at *;omega
theorem ltT.asym {a b:List D} (h:ltT a b):¬ltT b a:=by unfold ltT ahead at *;omega
theorem leT.refl (l:LL) (i:Nat):leT l i i:=ltT.irr _
theorem leT.trans {l:LL} {i j k:Nat} (h:leT l i j) (h2:leT l j k):leT l i k:=nltT.trans h h2
def hpA (l:LL) (n:Nat):Prop:=∀ k,0<k→k<n→leT l ((k-1) / 2) k
def hpT (l:LL) (n i:Nat):Prop:=∀ k,0<k→k<n→((k-1) / 2≠i→leT l ((k-1) / 2) k)∧((k-1) / 2=i→0<i→leT l ((i-1) / 2) k)
theorem hpA.root {l:LL} {n:Nat} (h:hpA l n):∀ k,k<n→leT l 0 k:=by
 intro k
 induction k using Nat.strongRecOn with
 | _ k ih =>
  intro hk
  by_cases h0:k=0
  ·subst h0;exact leT.refl l 0
  ·exact (ih ((k-1) / 2) (by omega) (by omega)).trans (h k (by omega) hk)
theorem hpT.fin0 {l:LL} {n i:Nat} (h:hpT l n i) (h1:n≤2*i+1):hpA l n:=fun k h0 hk=>(h k h0 hk).1 (by omega)
theorem hpT.fin1 {l:LL} {n i:Nat} (h:hpT l n i) (h1:leT l i (2*i+1)) (h2:n≤2*i+2):hpA l n:=fun k h0 hk=>by
 by_cases e:(k-1) / 2=i
 ·have:k=2*i+1:=by omega
  subst this;rw [e];exact h1
 ·exact (h k h0 hk).1 e
theorem hpT.fin2 {l:LL} {n i:Nat} (h:hpT l n i) (h1:leT l i (2*i+1)) (h2:leT l i (2*i+2)):hpA l n:=fun k h0 hk=>by
 by_cases e:(k-1) / 2=i
 ·have:k=2*i+1∨k=2*i+2:=by omega
  rcases this with this | this
  ·rw [e,this];exact h1
  ·rw [e,this];exact h2
 ·exact (h k h0 hk).1 e
theorem elT_at {l:LL} {k:Nat} {c:List D} (h:l[k]?=some c):elT l k=c:=by unfold elT;rw [h];rfl
theorem elT_set {l:LL} {i k:Nat} {c:List D} (hi:i<l.length):elT (l.set i c) k=if k=i then c else elT l k:=by
 unfold elT
 rw [List.getElem?_set]
 by_cases e:i=k
 ·subst e;simp [hi]
 ·rw [if_neg e,if_neg (Ne.symm e)]
theorem elT_swap {l:LL} {i j k:Nat} {c d:List D} (hi:l[i]?=some d) (hj:l[j]?=some c):elT ((l.set i c).set j d) k=if k=j then elT l i else if k=i then elT l j else elT l k:=by
 have hil:=(List.getElem?_eq_some_iff.1 hi).1
 have hjl:=(List.getElem?_eq_some_iff.1 hj).1
 rw [elT_set (by rw [List.length_set];exact hjl),elT_set hil,elT_at hi,elT_at hj]
theorem hpT.step {l:LL} {n i j:Nat} {c d:List D} (h:hpT l n i) (hi:l[i]?=some d) (hj:l[j]?=some c) (hjn:j<n) (hp:(j-1) / 2=i) (h0:0<j) (hlt:ltT c d) (hmin:∀ k,0<k→k<n→(k-1) / 2=i→leT l j k):hpT ((l.set i c).set j d) n j:=by
 intro k hk hkn
 have hil:=(List.getElem?_eq_some_iff.1 hi).1
 have ei:=elT_at hi
 have ej:=elT_at hj
 unfold leT at *
 simp only [elT_swap hi hj]
 refine ⟨fun hne=>?_,fun he h0j=>?_⟩
 ·have:=h k hk hkn
  unfold leT at this
  rw [if_neg hne]
  by_cases e1:(k-1) / 2=i
  ·rw [if_pos e1]
   by_cases e2:k=j
   ·rw [if_pos e2,ei,ej];exact ltT.asym hlt
   ·rw [if_neg e2,if_neg (show k≠i by omega)];exact hmin k hk hkn e1
  ·rw [if_neg e1]
   by_cases e2:k=j
   ·exfalso;subst e2;exact e1 hp
   ·rw [if_neg e2]
    by_cases e3:k=i
    ·rw [if_pos e3]
     have:=(h j h0 hjn).2 hp (by omega)
     unfold leT at this
     rw [e3];exact this
    ·rw [if_neg e3];exact this.1 e1
 ·have h1:¬(j-1) / 2=j:=by omega
  rw [if_neg h1,if_pos hp]
  have h2:k≠j:=by omega
  have h3:k≠i:=by omega
  rw [if_neg h2,if_neg h3]
  have:=(h k hk hkn).1 (by omega)
  unfold leT at this
  rw [he] at this
  exact this
theorem hpA.top {l:LL} {n:Nat} {c d:List D} (h:hpA l (n+1)) (hn:l[n]?=some c) (h0:l[0]?=some d):hpT ((l.set 0 c).set n d) n 0:=by
 intro k hk hkn
 refine ⟨fun hne=>?_,fun _ h=>absurd h (by omega)⟩
 unfold leT
 rw [elT_swap h0 hn,elT_swap h0 hn,if_neg (by omega),if_neg (by omega),if_neg (by omega),if_neg (by omega)]
 exact h k hk (by omega)
def risT (l:LL):Prop:=l.Pairwise ltT
theorem ris_timer {l:LL} (h:e_timer l=0):risT l:=by
 unfold e_timer at h
 split at h
 ·cases h
 ·split at h
  ·rename_i hu
   refine List.pairwise_iff_getElem.2 fun i j hi hj hij=>?_
   have key:∀ j,i<j→j<l.length→ltT (elT l i) (elT l j):=by
    intro j
    induction j with
    | zero=>intro h;omega
    | succ j ih =>
     intro hij hj
     have h1:=(hu (j+1) (by omega)).2 (by omega)
     have h2:ltT (elT l j) (elT l (j+1)):=h1
     by_cases e:i=j
     ·subst e;exact h2
     ·exact (ih (by omega) (by omega)).trans h2
   have:=key j hij hj
   unfold elT at this
   rw [List.getElem?_eq_getElem hi,List.getElem?_eq_getElem hj] at this
   exact this
  ·cases h
theorem hpA_of_ris {l:LL} (h:risT l):hpA l l.length:=fun k h0 hk=>by
 have:=List.pairwise_iff_getElem.1 h ((k-1) / 2) k (by omega) hk (by omega)
 unfold leT elT
 rw [List.getElem?_eq_getElem (show (k-1) / 2<l.length by omega),List.getElem?_eq_getElem hk]
 exact ltT.asym this
def dueT (l:LL) (now:Int):LL:=l.filter fun c=>decide (gI c 0≤now)
def leftT (l:LL) (now:Int):LL:=l.filter fun c=>decide (now<gI c 0)
def tmF (l0:LL) (now:Int) (a b p:LL):Prop:=(a++(b++p)).Perm l0∧(∀ c∈a,gI c 0≤now)∧(∀ c∈b,now<gI c 0)∧hpA p p.length∧(a.Pairwise fun c d=>¬ltT d c)∧(b.Pairwise fun c d=>¬ltT d c)∧∀ d∈p,(∀ c∈a,¬ltT d c)∧∀ c∈b,¬ltT d c
theorem tmF.zero {l0:LL} {now:Int} (h:e_timer l0=0):tmF l0 now [] [] l0:=⟨List.Perm.refl _,fun c hc=>(by cases hc),fun c hc=>(by cases hc),hpA_of_ris (ris_timer h), .nil, .nil,fun d _=>⟨fun c hc=>(by cases hc),fun c hc=>(by cases hc)⟩⟩
def poT (p q:LL) (n:Nat):Prop:=q.Perm p∧n+1=p.length∧hpA q n∧∀ d∈p,¬ltT d (elT q n)
def poW (p q:LL) (n:Nat) (i:Nat):Prop:=q.Perm p∧n+1=p.length∧hpT q n i∧∀ d∈p,¬ltT d (elT q n)
theorem hpA.least {p:LL} (h:hpA p p.length) {c:List D} (h0:p[0]?=some c):∀ d∈p,¬ltT d c:=by
 intro d hd
 obtain ⟨k,hk,e⟩:=List.getElem_of_mem hd
 have:=h.root k hk
 unfold leT at this
 rw [elT_at h0,elT_at (show p[k]?=some d by rw [List.getElem?_eq_getElem hk,e])] at this
 exact this
theorem poW.zero {p:LL} {n:Nat} {c d:List D} (h:hpA p p.length) (hn:n+1=p.length) (hc:p[n]?=some c) (hd:p[0]?=some d):poW p ((p.set 0 c).set n d) n 0:=by
 have hc':=List.getElem?_eq_some_iff.1 hc
 have hd':=List.getElem?_eq_some_iff.1 hd
 refine ⟨?_,hn,(show hpA p (n+1) by rw [hn];exact h).top hc hd,?_⟩
 ·have:=List.set_set_perm hd'.1 hc'.1
  rw [hd'.2,hc'.2] at this
  exact this
 ·rw [elT_swap hd hc,if_pos rfl,elT_at hd]
  exact h.least hd
theorem poW.step {p q:LL} {n i j:Nat} {c d:List D} (h:poW p q n i) (hi:q[i]?=some d) (hj:q[j]?=some c) (hjn:j<n) (hp:(j-1) / 2=i) (h0:0<j) (hlt:ltT c d) (hmin:∀ k,0<k→k<n→(k-1) / 2=i→leT q j k):poW p ((q.set i c).set j d) n j:=by
 have hi':=List.getElem?_eq_some_iff.1 hi
 have hj':=List.getElem?_eq_some_iff.1 hj
 refine ⟨?_,h.2.1,h.2.2.1.step hi hj hjn hp h0 hlt hmin,?_⟩
 ·have:=List.set_set_perm hi'.1 hj'.1
  rw [hi'.2,hj'.2] at this
  exact this.trans h.1
 ·rw [elT_swap hi hj,if_neg (by omega),if_neg (by omega)]
  exact h.2.2.2
theorem poT.len {p q:LL} {n:Nat} (h:poT p q n):q.length=p.length:=h.1.length_eq
theorem poW.len {p q:LL} {n i:Nat} (h:poW p q n i):q.length=p.length:=h.1.length_eq
theorem poT.split {p q:LL} {n:Nat} {c:List D} (h:poT p q n) (hk:q[n]?=some c):q=q.take n++[c]∧hpA (q.take n) (q.take n).length∧(q.take n++[c]).Perm p∧∀ d∈p,¬ltT d c:=by
 have hl:=h.len
 have e:=last_take hk (by rw [hl];exact h.2.1)
 refine ⟨e,fun k h0 hk'=>?_,by rw [←e];exact h.1,by have:=h.2.2.2;rw [elT_at hk] at this;exact this⟩
 rw [List.length_take] at hk'
 have:=h.2.2.1 k h0 (by omega)
 unfold leT elT at *
 rw [List.getElem?_take_of_lt (by omega),List.getElem?_take_of_lt (by omega)]
 exact this
theorem tmF.due {l0 a b p q:LL} {now:Int} {n:Nat} {x y:Int} (h:tmF l0 now a b p) (hq:poT p q n) (hk:q[n]?=some [dn x,dn y]) (hx:x≤now):tmF l0 now (a++[[dn x,dn y]]) b (q.take n):=by
 obtain ⟨h1,h2,h3,h4,h5,h6,h7⟩:=h
 obtain ⟨e,g1,g2,g3⟩:=hq.split hk
 have hm:[dn x,dn y]∈p:=(g2.mem_iff).1 (List.mem_append_right _ (List.mem_singleton.2 rfl))
 have hs:∀ d∈q.take n,d∈p:=fun d hd=>(g2.mem_iff).1 (List.mem_append_left _ hd)
 refine ⟨?_,fun c hc=>?_,h3,g1,?_,h6,fun d hd=>⟨fun c hc=>?_,(h7 d (hs d hd)).2⟩⟩
 ·refine List.Perm.trans ?_ h1
  have e2:([[dn x,dn y]]++(b++q.take n)).Perm (b++p):=(List.perm_append_comm.trans (by rw [List.append_assoc])).trans (g2.append_left b)
  rw [List.append_assoc]
  exact e2.append_left a
 ·rcases List.mem_append.1 hc with hc | hc
  ·exact h2 c hc
  ·rw [List.mem_singleton] at hc;subst hc;exact hx
 ·refine List.pairwise_append.2 ⟨h5,List.pairwise_singleton _ _,fun c hc d hd=>?_⟩
  rw [List.mem_singleton] at hd;subst hd
  exact (h7 _ hm).1 c hc
 ·rcases List.mem_append.1 hc with hc | hc
  ·exact (h7 d (hs d hd)).1 c hc
  ·rw [List.mem_singleton] at hc;subst hc;exact g3 d (hs d hd)
theorem tmF.left {l0 a b p q:LL} {now:Int} {n:Nat} {x y:Int} (h:tmF l0 now a b p) (hq:poT p q n) (hk:q[n]?=some [dn x,dn y]) (hx:¬x≤now):tmF l0 now a (b++[[dn x,dn y]]) (q.take n):=by
 obtain ⟨h1,h2,h3,h4,h5,h6,h7⟩:=h
 obtain ⟨e,g1,g2,g3⟩:=hq.split hk
 have hm:[dn x,dn y]∈p:=(g2.mem_iff).1 (List.mem_append_right _ (List.mem_singleton.2 rfl))
 have hs:∀ d∈q.take n,d∈p:=fun d hd=>(g2.mem_iff).1 (List.mem_append_left _ hd)
 refine ⟨?_,h2,fun c hc=>?_,g1,h5,?_,fun d hd=>⟨(h7 d (hs d hd)).1,fun c hc=>?_⟩⟩
 ·refine List.Perm.trans ?_ h1
  have e2:([[dn x,dn y]]++q.take n).Perm p:=List.perm_append_comm.trans g2
  rw [List.append_assoc]
  exact (e2.append_left b).append_left a
 ·rcases List.mem_append.1 hc with hc | hc
  ·exact h3 c hc
  ·rw [List.mem_singleton] at hc;subst hc;exact Int.lt_of_not_ge hx
 ·refine List.pairwise_append.2 ⟨h6,List.pairwise_singleton _ _,fun c hc d hd=>?_⟩
  rw [List.mem_singleton] at hd;subst hd
  exact (h7 _ hm).2 c hc
 ·rcases List.mem_append.1 hc with hc | hc
  ·exact (h7 d (hs d hd)).2 c hc
  ·rw [List.mem_singleton] at hc;subst hc;exact g3 d (hs d hd)
theorem pair_of {c:List D} (h:DShs pairS c):∃ x y,c=[dn x,dn y]:=by
 obtain ⟨h1,h2⟩:=h
 match c,h1 with
 | [u,v],_ =>
  have a:=h2 0 s64 u rfl rfl
  have b:=h2 1 s64 v rfl rfl
  cases a;cases b
  exact ⟨_,_,rfl⟩
theorem ltT.eq {c d:List D} (hc:DShs pairS c) (hd:DShs pairS d) (h1:¬ltT c d) (h2:¬ltT d c):c=d:=by
 obtain ⟨x,y,rfl⟩:=pair_of hc
 obtain ⟨u,v,rfl⟩:=pair_of hd
 have e:x=u∧y=v:=by
  unfold ltT ahead at h1 h2
  change ¬(x<u∨x=u∧y<v) at h1
  change ¬(u<x∨u=x∧v<y) at h2
  omega
 rw [e.1,e.2]
theorem ris_perm {l r:LL} (hs:∀ c∈l,DShs pairS c) (hp:r.Perm l) (hr:r.Pairwise fun c d=>¬ltT d c) (hl:risT l):r=l:=by
 refine List.Perm.eq_of_pairwise (le:=fun c d=>¬ltT d c) (fun c d hc hd h1 h2=>?_) hr (List.Pairwise.imp (fun h=>ltT.asym h) hl) hp
 exact ltT.eq (hs c (hp.mem_iff.1 hc)) (hs d hd) h2 h1
theorem tmF.fin {l0 a b p:LL} {now:Int} (h:tmF l0 now a b p) (h0:e_timer l0=0) (hs:LS pairS l0) (hp:¬(p.length:Int)>0):a=dueT l0 now∧b=leftT l0 now:=by
 have:p=[]:=List.length_eq_zero_iff.1 (by omega)
 subst this
 obtain ⟨h1,h2,h3,_,h5,h6,_⟩:=h
 rw [List.append_nil] at h1
 have hr:=ris_timer h0
 have ea:(a++b).filter (fun c=>decide (gI c 0≤now))=a:=by
  rw [List.filter_append,List.filter_eq_self.2 (fun c hc=>decide_eq_true (h2 c hc)),List.filter_eq_nil_iff.2 (fun c hc=>by have:=h3 c hc;simp;omega),List.append_nil]
 have eb:(a++b).filter (fun c=>decide (now<gI c 0))=b:=by
  rw [List.filter_append,List.filter_eq_self.2 (fun c hc=>decide_eq_true (h3 c hc)),List.filter_eq_nil_iff.2 (fun c hc=>by have:=h2 c hc;simp;omega),List.nil_append]
 refine ⟨ris_perm (fun c hc=>hs.els c (List.mem_filter.1 hc).1) ?_ h5 (List.Pairwise.filter _ hr),ris_perm (fun c hc=>hs.els c (List.mem_filter.1 hc).1) ?_ h6 (List.Pairwise.filter _ hr)⟩
 ·have:=h1.filter (fun c=>decide (gI c 0≤now));rw [ea] at this;exact this
 ·have:=h1.filter (fun c=>decide (now<gI c 0));rw [eb] at this;exact this
end Go.Vc

namespace Go.Vc
open Classical
def befD (c d:List D):Prop:=gI d 1<gI c 1∨gI c 1=gI d 1∧gI c 0<gI d 0
theorem nbefD.trans {a b c:List D} (h:¬befD b a) (h2:¬befD c b):¬befD c a:=by unfold befD at *;omega
theorem befD.trans {a b c:List D} (h:befD a b) (h2:befD b c):befD a c:=by unfold befD at *;omega
theorem befD.asym {a b:List D} (h:befD a b):¬befD b a:=by unfold befD at *;omega
theorem befD.eq {c d:List D} (hc:DShs pairS c) (hd:DShs pairS d) (h1:¬befD c d) (h2:¬befD d c):c=d:=by
 obtain ⟨x,y,rfl⟩:=pair_of hc
 obtain ⟨u,v,rfl⟩:=pair_of hd
 have e:x=u∧y=v:=by
  unfold befD at h1 h2
  change ¬(v<y∨y=v∧x<u) at h1
  change ¬(y<v∨v=y∧u<x) at h2
  omega
 rw [e.1,e.2]
theorem cmpD {a b c d x:Int} (h:x=if cmpI d b≠0 then cmpI d b else cmpI a c):(x<0↔befD [dn a,dn b] [dn c,dn d]):=by
 unfold befD
 show x<0↔(d<b∨b=d∧a<c)
 subst h
 unfold cmpI
 by_cases h1:d<b
 ·simp [h1]
 ·by_cases h2:b<d
  ·have:¬d=b:=by omega
   simp [h1,h2];omega
  ·have:b=d:=by omega
   subst this
   simp
   by_cases h3:a<c
   ·simp [h3]
   ·simp [h3];split <;> omega
def insI (l0 q:LL) (i:Int):Prop:=q.Perm l0∧∀ a b:Nat,a<b→(b:Int)<i→b<q.length→¬befD (elT q b) (elT q a)
def insJ (l0 q:LL) (i j:Int):Prop:=q.Perm l0∧∀ a b:Nat,a<b→(b:Int)≤i→b<q.length→(b:Int)≠j→¬befD (elT q b) (elT q a)
theorem insI.zero (l:LL):insI l l 1:=⟨List.Perm.refl l,fun a b h h2=>by omega⟩
theorem insI.into {l0 q:LL} {i:Int} (h:insI l0 q i):insJ l0 q i i:=⟨h.1,fun a b h1 h2 h3 h4=>h.2 a b h1 (by omega) h3⟩
theorem insI.len {l0 q:LL} {i:Int} (h:insI l0 q i):q.length=l0.length:=h.1.length_eq
theorem insJ.len {l0 q:LL} {i j:Int} (h:insJ l0 q i j):q.length=l0.length:=h.1.length_eq
theorem insJ.ls {l0 q:LL} {i j:Int} (h:insJ l0 q i j) (hs:LS pairS l0):LS pairS q := .mk (by rw [h.len];exact hs.len) fun c hc=>hs.els c (h.1.mem_iff.1 hc)
theorem insJ.out0 {l0 q:LL} {i j:Int} (h:insJ l0 q i j) (hj:j≤0):insI l0 q (i+1):=⟨h.1,fun a b h1 h2 h3=>h.2 a b h1 (by omega) h3 (by omega)⟩
theorem insJ.out {l0 q:LL} {i j:Int} {c d:List D} (h:insJ l0 q i j) (hj:0<j) (hc:q[j.toNat]?=some c) (hd:q[(j-1).toNat]?=some d) (hn:¬befD c d):insI l0 q (i+1):=⟨h.1,fun a b h1 h2 h3=>by
 by_cases hb:(b:Int)=j
 ·have e1:elT q b=c:=by rw [show b=j.toNat by omega];exact elT_at hc
  have e2:elT q (j-1).toNat=d:=elT_at hd
  by_cases ha:a=(j-1).toNat
  ·rw [e1,ha,e2];exact hn
  ·have:=h.2 a (j-1).toNat (by omega) (by omega) (by omega) (by omega)
   rw [e2] at this
   rw [e1]
   exact nbefD.trans this hn
 ·exact h.2 a b h1 (by omega) h3 hb⟩
theorem insJ.step {l0 q:LL} {i j:Int} {c d:List D} (h:insJ l0 q i j) (hj:0<j) (hij:j≤i) (hc:q[j.toNat]?=some c) (hd:q[(j-1).toNat]?=some d) (hn:befD c d):insJ l0 ((q.set j.toNat d).set (j-1).toNat c) i (j-1):=by
 have hc':=List.getElem?_eq_some_iff.1 hc
 have hd':=List.getElem?_eq_some_iff.1 hd
 refine ⟨?_,fun a b h1 h2 h3 h4=>?_⟩
 ·have:=List.set_set_perm hc'.1 hd'.1
  rw [hc'.2,hd'.2] at this
  exact this.trans h.1
 ·rw [List.length_set,List.length_set] at h3
  rw [elT_swap hc hd,elT_swap hc hd,if_neg (show ¬b=(j-1).toNat by omega),elT_at hc,elT_at hd]
  by_cases e1:b=j.toNat
  ·rw [if_pos e1]
   by_cases e2:a=(j-1).toNat
   ·rw [if_pos e2];exact befD.asym hn
   ·rw [if_neg e2,if_neg (by omega)]
    have:=h.2 a (j-1).toNat (by omega) (by omega) (by omega) (by omega)
    rw [elT_at hd] at this
    exact this
  ·rw [if_neg e1]
   by_cases e2:a=(j-1).toNat
   ·rw [if_pos e2]
    have:=h.2 j.toNat b (by omega) h2 h3 (by omega)
    rw [elT_at hc] at this
    exact this
   ·rw [if_neg e2]
    by_cases e3:a=j.toNat
    ·rw [if_pos e3]
     have:=h.2 (j-1).toNat b (by omega) h2 h3 (by omega)
     rw [elT_at hd] at this
     exact this
    ·rw [if_neg e3]
     exact h.2 a b h1 h2 h3 (by omega)
def srtD (l:LL):LL:=l.mergeSort fun c d=>decide (¬befD d c)
theorem srtD.perm (l:LL):(srtD l).Perm l:=List.mergeSort_perm l _
theorem srtD.pw (l:LL):(srtD l).Pairwise fun c d=>¬befD d c:=by
 have:=List.pairwise_mergeSort (le:=fun c d=>decide (¬befD d c)) (fun a b c h1 h2=>decide_eq_true (nbefD.trans (of_decide_eq_true h1) (of_decide_eq_true h2))) (fun a b=>by
  by_cases h:befD b a
  ·have:=befD.asym h;simp [this]
  ·simp [h]) l
 exact List.Pairwise.imp (fun h=>of_decide_eq_true h) this
theorem srtD.ls {l:LL} (h:LS pairS l):LS pairS (srtD l) := .mk (by rw [(srtD.perm l).length_eq];exact h.len) fun c hc=>h.els c ((srtD.perm l).mem_iff.1 hc)
theorem srtD.one {l q:LL} (h:LS pairS l) (hp:q.Perm l) (hq:q.Pairwise fun c d=>¬befD d c):q=srtD l:=by
 refine List.Perm.eq_of_pairwise (le:=fun c d=>¬befD d c) (fun c d hc hd h1 h2=>?_) hq (srtD.pw l) (hp.trans (srtD.perm l).symm)
 exact befD.eq (h.els c (hp.mem_iff.1 hc)) (h.els d ((srtD.perm l).mem_iff.1 hd)) h2 h1
theorem pw_of {q:LL} (h:∀ a b:Nat,a<b→b<q.length→¬befD (elT q b) (elT q a)):q.Pairwise fun c d=>¬befD d c :=
 List.pairwise_iff_getElem.2 fun i j hi hj hij=>by
  have:=h i j hij hj
  unfold elT at this
  rw [List.getElem?_eq_getElem hi,List.getElem?_eq_getElem hj] at this
  exact this
theorem insI.fin {l0 q:LL} {i:Int} (h:insI l0 q i) (hs:LS pairS l0) (hi:(l0.length:Int)≤i):q=srtD l0:=srtD.one hs h.1 (pw_of fun a b h1 h2=>h.2 a b h1 (by have:=h.len;omega) h2)
def kpL (P:Nat→Prop) (s:LL):Nat→LL
 | 0=>[]
 | k+1=>if P k then kpL P s k++[elT s k] else kpL P s k
theorem kpL.le (P:Nat→Prop) (s:LL):∀ k,(kpL P s k).length≤k
 | 0=>Nat.le_refl 0
 | k+1=>by
  have:=kpL.le P s k
  unfold kpL
  split
  ·rw [List.length_append];exact Nat.succ_le_succ this
  ·omega
theorem kpL.lt {P:Nat→Prop} {s:LL} {k:Nat} (h:¬P k):(kpL P s (k+1)).length<k+1:=by
 have:=kpL.le P s k
 unfold kpL
 rw [if_neg h];omega
theorem kpL.yes {P:Nat→Prop} {s:LL} {k:Nat} {c:List D} (h:P k) (hc:s[k]?=some c):kpL P s (k+1)=kpL P s k++[c]:=by
 show (if P k then _ else _)=_
 rw [if_pos h,elT_at hc]
theorem kpL.no {P:Nat→Prop} {s:LL} {k:Nat} (h:¬P k):kpL P s (k+1)=kpL P s k:=if_neg h
theorem kpL.all {P:Nat→Prop} {s:LL}:∀ {k:Nat},k≤s.length→(∀ i<k,P i)→kpL P s k=s.take k
 | 0,_,_=>by simp [kpL]
 | k+1,h,hp=>by
  rw [kpL.yes (hp k (by omega)) (List.getElem?_eq_getElem (show k<s.length by omega)),kpL.all (by omega) (fun i hi=>hp i (by omega)),List.take_add_one,List.getElem?_eq_getElem (show k<s.length by omega)]
  rfl
theorem kpL.mem {P:Nat→Prop} {s:LL}:∀ {k:Nat},k≤s.length→∀ c∈kpL P s k,c∈s
 | 0,_,c,hc=>by simp [kpL] at hc
 | k+1,h,c,hc=>by
  by_cases hp:P k
  ·rw [kpL.yes hp (List.getElem?_eq_getElem (show k<s.length by omega))] at hc
   rcases List.mem_append.1 hc with hc | hc
   ·exact kpL.mem (by omega) c hc
   ·rw [List.mem_singleton] at hc;subst hc;exact List.getElem_mem _
  ·rw [kpL.no hp] at hc;exact kpL.mem (by omega) c hc
def delI (P:Nat→Prop) (s q:LL) (i j:Int):Prop:=0≤i∧i<j∧j≤(s.length:Int)∧q.length=s.length∧q.take i.toNat=kpL P s j.toNat∧q.drop j.toNat=s.drop j.toNat∧∀ c∈q,c∈s
theorem delI.zero {P:Nat→Prop} {s:LL} {i j:Int} (h0:0≤i) (h:i<(s.length:Int)) (hp:∀ k:Nat,(k:Int)<i→P k) (hn:¬P i.toNat) (hj:j=i+1):delI P s s i j:=by
 subst hj
 refine ⟨h0,by omega,by omega,rfl,?_,rfl,fun c hc=>hc⟩
 rw [show (i+1).toNat=i.toNat+1 by omega,kpL.no hn,kpL.all (by omega) fun k hk=>hp k (by omega)]
theorem delI.at {P:Nat→Prop} {s q:LL} {i j:Int} (h:delI P s q i j):q[j.toNat]?=s[j.toNat]?:=by
 have:=congrArg (fun l=>l[0]?) h.2.2.2.2.2.1
 simpa using this
theorem delI.len {P:Nat→Prop} {s q:LL} {i j:Int} (h:delI P s q i j):q.length=s.length:=h.2.2.2.1
theorem delI.keep {P:Nat→Prop} {s q:LL} {i j i' j':Int} {c:List D} (h:delI P s q i j) (hj:j<(s.length:Int)) (hc:q[j.toNat]?=some c) (hp:P j.toNat) (hi':i'=i+1) (hj':j'=j+1):delI P s (q.set i.toNat c) i' j':=by
 have hs:s[j.toNat]?=some c:=by rw [←h.at];exact hc
 obtain ⟨h1,h2,h3,h4,h5,h6,h7⟩:=h
 subst hi';subst hj'
 refine ⟨by omega,by omega,by omega,by rw [List.length_set];exact h4,?_,?_,fun d hd=>?_⟩
 ·rw [show (i+1).toNat=i.toNat+1 by omega,show (j+1).toNat=j.toNat+1 by omega,kpL.yes hp hs,List.take_add_one,List.take_set_of_le (Nat.le_refl _),h5,List.getElem?_set_self (by omega)]
  rfl
 ·rw [show (j+1).toNat=j.toNat+1 by omega,List.drop_set_of_lt (by omega)]
  have:=congrArg (fun l=>l.drop 1) h6
  simpa [List.drop_drop] using this
 ·rcases List.mem_or_eq_of_mem_set hd with hd | hd
  ·exact h7 d hd
  ·rw [hd];exact List.mem_of_getElem? hs
theorem delI.skip {P:Nat→Prop} {s q:LL} {i j j':Int} (h:delI P s q i j) (hj:j<(s.length:Int)) (hp:¬P j.toNat) (hj':j'=j+1):delI P s q i j':=by
 obtain ⟨h1,h2,h3,h4,h5,h6,h7⟩:=h
 subst hj'
 refine ⟨h1,by omega,by omega,h4,?_,?_,h7⟩
 ·rw [show (j+1).toNat=j.toNat+1 by omega,kpL.no hp];exact h5
 ·rw [show (j+1).toNat=j.toNat+1 by omega]
  have:=congrArg (fun l=>l.drop 1) h6
  simpa [List.drop_drop] using this
theorem delI.fin {P:Nat→Prop} {s q:LL} {i j:Int} (h:delI P s q i j) (hj:(s.length:Int)≤j):q.take i.toNat=kpL P s s.length:=by
 rw [h.2.2.2.2.1,show j.toNat=s.length by have:=h.2.2.1;omega]
theorem delI.ls {P:Nat→Prop} {s q:LL} {i j:Int} {l:List Sh} (h:delI P s q i j) (hs:LS l s):LS l q:=by
 exact .mk (by rw [h.len];exact hs.len) fun c hc=>hs.els c (h.2.2.2.2.2.2 c hc)
def fstD (s:LL) (k:Nat):Prop:=∀ j<k,nth s j 0≠nth s k 0
def bestL (l:LL):LL:=kpL (fstD (srtD l)) (srtD l) l.length
end Go.Vc

namespace Go.Vc
open Classical
def fltD (own:Int) (l:LL):LL:=kpL (fun k=>nth l k 0≠own) l l.length
def p_cacheB (c:List D):Prop:=0≤gI c 0∧gI c 0≤7∧1≤gI c 1∧gI c 1≤6∧((gL c 2).length:Int)≤gI c 1∧e_desc (fltD (gI c 0) (gL c 2))=0∧bestL (fltD (gI c 0) (gL c 2))=gL c 2
def cacheC (c:List D):List D:=(c.drop 28).take 3
def p_node (c:List D):Prop:=p_nodeW c∧(gB c 2=true→p_cacheB (cacheC c))
def tagsL (e n:Int):LL:=if h:∃ l,LSh [s32] l∧p_tags e n l then Classical.choose h else []
theorem tagsL_eq {e n:Int} {l:LL} (h1:LSh [s32] l) (h:p_tags e n l):l=tagsL e n:=by
 have hx:∃ l,LSh [s32] l∧p_tags e n l:=⟨l,h1,h⟩
 unfold tagsL
 rw [dif_pos hx]
 exact p_tags_one h (Classical.choose_spec hx).2
def begC (v:Int) (f:Bool) (e n:Int):List D:=massOf v f++[db true,dn v,dn v, .fs (tagsL e n)]
def frzC (a:List D):LL:=if takesC a then gL a 31++[dn (gI a 6)::partC a] else gL a 31
def nxtC (a k:List D) (f:Bool):List D:=if gI k 4≤gI k 3 then begC (gI a 1) f (gI k 3) (gI a 0) else zPart
def trnC (a k:List D) (f:Bool):List D:=a.take 3++k++nxtC a k f++[db false,dn 0,dn 0]++(a.drop 27).take 4++[.fs (frzC a), .fs (gL a 32)]
def setC (a k:List D):List D:=a.take 3++k++a.drop 8
def dueC (a:List D):Prop:=gB a 24=true∧∃ c∈gL a 32,gI c 0≤gI a 4∧gI c 1=gI a 25
def lateC (a:List D):List D:=a.take 24++(if dueC a then [db false,dn 0,dn 0] else (a.drop 24).take 3)++(a.drop 27).take 5++[.fs (leftT (gL a 32) (gI a 4))]
def m_tick (a:List D) (f:Bool):List DV :=
 if ¬p_node a then [.a (downC 0),vb false,vn 8]
 else if gB a 2=false then [.a (downC 0),vb false,vn 14]
 else if gI a 4=2147483647 then [.a (downC 0),vb false,vn 10]
 else if gI a 3≤gI a 4+1-gI a 5∧gI a 6<65535 then
  if takesC a∧(gL a 31).length=1024 then [.a (downC 0),vb false,vn 9]
  else [.a (lateC (trnC a [dn (gI a 3),dn (gI a 4+1),dn (gI a 4+1),dn (gI a 6+1),dn (gI a 7)] f)),vb true,vn 0]
 else [.a (lateC (setC a [dn (gI a 3),dn (gI a 4+1),dn (gI a 5),dn (gI a 6),dn (gI a 7)])),vb false,vn 0]
def m_hear (a:List D) (e:Int) (f:Bool):List DV :=
 if ¬p_node a then [.a (downC 0),vb false,vn 8]
 else if gB a 2=false then [.a (downC 0),vb false,vn 14]
 else if ¬(0≤e∧e≤65535) then [.a (downC 0),vb false,vn 2]
 else if gI a 6<e then
  if takesC a∧(gL a 31).length=1024 then [.a (downC 0),vb false,vn 9]
  else [.a (trnC a [dn (gI a 3),dn (gI a 4),dn (gI a 4),dn e,dn (gI a 7)] f),vb true,vn 0]
 else [.a a,vb false,vn 0]
def m_seed (a:List D) (f:Bool):List DV :=
 if ¬p_node a then [.a (downC 0),vn 8]
 else if gB a 2=false then [.a (downC 0),vn 14]
 else if ¬takesC a then [.a (downC 0),vn 6]
 else if partC a≠zPart then [.a (downC 0),vn 12]
 else [.a (a.take 8++begC (gI a 1) f (gI a 6) (gI a 0)++a.drop 24),vn 0]
def m_crash (a:List D):List DV :=
 if ¬p_node a then [.a (downC 0),vl [],vn 8]
 else if gB a 2=false then [.a (downC 0),vl [],vn 14]
 else [.a (downC (gI a 0)),vl (frzC a),vn 0]
def m_frz (l:LL) (e:Int) (p:List D):List DV :=
 if e_past l≠0 then [vl [],vn (e_past l)]
 else if ¬(0≤e∧e≤65535) then [vl [],vn 2]
 else if ¬p_part p then [vl [],vn 8]
 else if ¬∀ i:Nat,i<l.length→nth l i 0<e then [vl [],vn 12]
 else if l.length=1024 then [vl [],vn 9]
 else [vl (l++[dn e::p]),vn 0]
def m_due (l:LL) (now:Int):List DV :=
 if e_timer l≠0 then [vl [],vl [],vn (e_timer l)]
 else if ¬(0≤now∧now≤2147483647) then [vl [],vl [],vn 2]
 else [vl (dueT l now),vl (leftT l now),vn 0]
def m_ehear (c:List D) (e:Int):List DV :=
 if ¬p_clock c then [.a zClock,vb false,vn 8]
 else if ¬(0≤e∧e≤65535) then [.a zClock,vb false,vn 2]
 else if gI c 3<e then [.a [dn (gI c 0),dn (gI c 1),dn (gI c 1),dn e,dn (gI c 4)],vb true,vn 0]
 else [.a c,vb false,vn 0]
end Go.Vc

namespace Go.Vc
open Classical
def jn6 (q:LL) (n j1 j2:Int) (b:Bool):Prop:=(b=true→j2<n∧ltT (elT q j2.toNat) (elT q j1.toNat))∧(b=false→j2<n→¬ltT (elT q j2.toNat) (elT q j1.toNat))
def jn8 (q:LL) (i j:Int) (b:Bool):Prop:=(b=false→ltT (elT q j.toNat) (elT q i.toNat))∧(b=true→¬ltT (elT q j.toNat) (elT q i.toNat))
def poI (p q:LL) (i:Int):Prop:=0<p.length∧poW p q (p.length-1) i.toNat
def poE (p q:LL):Prop:=0<p.length∧poT p q (p.length-1)
theorem lt_at {q:LL} {i j:Int} {a b c d:Int} (hj:q[j.toNat]?=some [dn a,dn b]) (hi:q[i.toNat]?=some [dn c,dn d]):ltT (elT q j.toNat) (elT q i.toNat)↔(a<c∨a=c∧b<d):=by
 rw [elT_at hj,elT_at hi];exact Iff.rfl
theorem jn8_no {q:LL} {i j:Int} {a b c d:Int} (hj:q[j.toNat]?=some [dn a,dn b]) (hi:q[i.toNat]?=some [dn c,dn d]) (h:a<c∨a=c∧b<d):jn8 q i j false:=⟨fun _=>(lt_at hj hi).2 h,fun h=>Bool.noConfusion h⟩
theorem jn8_yes {q:LL} {i j:Int} {a b c d:Int} (hj:q[j.toNat]?=some [dn a,dn b]) (hi:q[i.toNat]?=some [dn c,dn d]) (h:¬(a<c∨a=c∧b<d)):jn8 q i j true:=⟨fun h=>Bool.noConfusion h,fun _ hh=>h ((lt_at hj hi).1 hh)⟩
theorem jn6_out {q:LL} {n j1 j2:Int} (h:¬j2<n):jn6 q n j1 j2 false:=⟨fun h=>Bool.noConfusion h,fun _ hh=>absurd hh h⟩
theorem jn6_yes {q:LL} {n j1 j2:Int} {a b c d:Int} (hn:j2<n) (hj:q[j2.toNat]?=some [dn a,dn b]) (hi:q[j1.toNat]?=some [dn c,dn d]) (h:a<c∨a=c∧b<d):jn6 q n j1 j2 true:=⟨fun _=>⟨hn,(lt_at hj hi).2 h⟩,fun h=>Bool.noConfusion h⟩
theorem jn6_no {q:LL} {n j1 j2:Int} {a b c d:Int} (hj:q[j2.toNat]?=some [dn a,dn b]) (hi:q[j1.toNat]?=some [dn c,dn d]) (h:¬(a<c∨a=c∧b<d)):jn6 q n j1 j2 false:=⟨fun h=>Bool.noConfusion h,fun _ _ hh=>h ((lt_at hj hi).1 hh)⟩
theorem jn6_b {q:LL} {n j1 j2:Int} (h:jn6 q n j1 j2 true):j2<n:=(h.1 rfl).1
theorem jn8_ris {l:LL} {i j:Int} (h:jn8 l i j false) (hr:risT l) (h0:0≤i) (hij:i<j) (hj:j<(l.length:Int)):False:=by
 have h1:=h.1 rfl
 have:=List.pairwise_iff_getElem.1 hr i.toNat j.toNat (by omega) (by omega) (by omega)
 unfold elT at h1
 rw [List.getElem?_eq_getElem (by omega),List.getElem?_eq_getElem (by omega)] at h1
 exact ltT.asym this h1
theorem poI.len {p q:LL} {i:Int} (h:poI p q i):q.length=p.length:=h.2.len
theorem poE.len {p q:LL} (h:poE p q):q.length=p.length:=h.2.len
theorem poI.ls {p q:LL} {i:Int} (h:poI p q i) (hs:LS pairS p):LS pairS q := .mk (by rw [h.len];exact hs.len) fun c hc=>hs.els c (h.2.1.mem_iff.1 hc)
theorem poE.ls {p q:LL} (h:poE p q) (hs:LS pairS p):LS pairS q := .mk (by rw [h.len];exact hs.len) fun c hc=>hs.els c (h.2.1.mem_iff.1 hc)
theorem tmF.ls {l0 a b p:LL} {now:Int} (h:tmF l0 now a b p) (hs:LS pairS l0):LS pairS p := .mk (by have:=h.1.length_eq;rw [List.length_append,List.length_append] at this;have:=hs.len;omega) fun c hc=>hs.els c ((List.Perm.mem_iff h.1).1 (List.mem_append_right _ (List.mem_append_right _ hc)))
theorem tmF.len {l0 a b p:LL} {now:Int} (h:tmF l0 now a b p):a.length+(b.length+p.length)=l0.length:=by
 have:=h.1.length_eq
 rw [List.length_append,List.length_append] at this
 exact this
theorem tmF.pop {l0 a b p:LL} {now n:Int} {c d:List D} (h:tmF l0 now a b p) (hc:p[n.toNat]?=some c) (hd:p[Int.toNat 0]?=some d) (hn:n=(p.length:Int)-1) (h0:(p.length:Int)>0):poI p ((p.set (Int.toNat 0) c).set n.toNat d) 0:=by
 have e:n.toNat=p.length-1:=by omega
 rw [e] at hc ⊢
 exact ⟨by omega,poW.zero h.2.2.2.1 (by omega) hc hd⟩
theorem poI.go {p q:LL} {i j n:Int} {c d:List D} {b:Bool} (h:poI p q i) (h6:jn6 q n (2*i+1) (2*i+1+1) b) (h8:jn8 q i j false) (hj:j=if b=true then 2*i+1+1 else 2*i+1) (hc:q[j.toNat]?=some c) (hd:q[i.toNat]?=some d) (hn:n=(p.length:Int)-1) (h0:0≤i) (hl:2*i+1<n):poI p ((q.set i.toNat c).set j.toNat d) j:=by
 obtain ⟨hp,h⟩:=h
 refine ⟨hp,h.step hd hc ?_ ?_ ?_ ?_ ?_⟩
 ·cases b
  ·rw [if_neg (by decide)] at hj;omega
  ·rw [if_pos rfl] at hj;have:=jn6_b h6;omega
 ·cases b
  ·rw [if_neg (by decide)] at hj;omega
  ·rw [if_pos rfl] at hj;omega
 ·cases b
  ·rw [if_neg (by decide)] at hj;omega
  ·rw [if_pos rfl] at hj;omega
 ·have:=h8.1 rfl
  rw [elT_at hc,elT_at hd] at this
  exact this
 ·intro k hk hkn hki
  have hk2:k=(2*i+1).toNat∨k=(2*i+1+1).toNat:=by omega
  cases b
  ·rw [if_neg (by decide)] at hj
   subst hj
   rcases hk2 with rfl | rfl
   ·exact leT.refl _ _
   ·exact h6.2 rfl (by omega)
  ·rw [if_pos rfl] at hj
   subst hj
   rcases hk2 with rfl | rfl
   ·exact ltT.asym (h6.1 rfl).2
   ·exact leT.refl _ _
theorem poI.ex0 {p q:LL} {i n:Int} (h:poI p q i) (hn:n=(p.length:Int)-1) (h0:0≤i) (hl:2*i+1≥n):poE p q:=⟨h.1,h.2.1,h.2.2.1,h.2.2.2.1.fin0 (by omega),h.2.2.2.2⟩
theorem poI.ex1 {p q:LL} {i j n:Int} {b:Bool} (h:poI p q i) (h6:jn6 q n (2*i+1) (2*i+1+1) b) (h8:jn8 q i j true) (hj:j=if b=true then 2*i+1+1 else 2*i+1) (hn:n=(p.length:Int)-1) (h0:0≤i) (hl:2*i+1<n):poE p q:=by
 refine ⟨h.1,h.2.1,h.2.2.1,?_,h.2.2.2.2⟩
 have h8':=h8.2 rfl
 have e1:2*i.toNat+1=(2*i+1).toNat:=by omega
 have e2:2*i.toNat+2=(2*i+1+1).toNat:=by omega
 cases b
 ·rw [if_neg (by decide)] at hj
  subst hj
  by_cases h2:2*i+1+1<n
  ·exact h.2.2.2.1.fin2 (by rw [e1];exact h8') (by rw [e2];exact leT.trans h8' (h6.2 rfl h2))
  ·exact h.2.2.2.1.fin1 (by rw [e1];exact h8') (by omega)
 ·rw [if_pos rfl] at hj
  subst hj
  exact h.2.2.2.1.fin2 (by rw [e1];exact leT.trans h8' (ltT.asym (h6.1 rfl).2)) (by rw [e2];exact h8')
theorem tmF.due' {l0 a b p q:LL} {now n:Int} {x y:Int} (h:tmF l0 now a b p) (hq:poE p q) (hn:n=(p.length:Int)-1) (hk:q[n.toNat]?=some [dn x,dn y]) (hx:x≤now):tmF l0 now (a++[[dn x,dn y]]) b (q.take n.toNat):=h.due (by have:=hq.1;have e:n.toNat=p.length-1:=(by omega);rw [e];exact hq.2) hk hx
theorem tmF.left' {l0 a b p q:LL} {now n:Int} {x y:Int} (h:tmF l0 now a b p) (hq:poE p q) (hn:n=(p.length:Int)-1) (hk:q[n.toNat]?=some [dn x,dn y]) (hx:¬x≤now):tmF l0 now a (b++[[dn x,dn y]]) (q.take n.toNat):=h.left (by have:=hq.1;have e:n.toNat=p.length-1:=(by omega);rw [e];exact hq.2) hk hx
theorem due_e {l:LL} {now x:Int} (hx:x=e_timer l) (h:x≠0):[vl [],vl [],vn x]=m_due l now:=by
 unfold m_due;rw [if_pos (hx▸h),hx]
theorem due_arg {l:LL} {now:Int} (hx:e_timer l=0) (h:¬(0≤now∧now≤2147483647)):[vl [],vl [],vn 2]=m_due l now:=by
 unfold m_due;rw [if_neg (fun hh=>hh hx),if_pos h]
theorem due_fin {l0 a b p:LL} {now:Int} (h:tmF l0 now a b p) (h0:e_timer l0=0) (hs:LS pairS l0) (hp:¬(p.length:Int)>0) (h1:0≤now∧now≤2147483647):[vl a,vl b,vn 0]=m_due l0 now:=by
 obtain ⟨e1,e2⟩:=h.fin h0 hs hp
 unfold m_due;rw [if_neg (fun hh=>hh h0),if_neg (fun hh=>hh h1),e1,e2]
attribute [irreducible] poI poE jn6 jn8
end Go.Vc

namespace Go.Vc
open Classical
def m_best (l:LL):List DV:=if e_desc l≠0 then [vl [],vn (e_desc l)] else [vl (bestL l),vn 0]
theorem best_e {l:LL} {x:Int} (hx:x=e_desc l) (h:x≠0):[vl [],vn x]=m_best l:=by
 unfold m_best;rw [if_pos (hx▸h),hx]
theorem best_ok {l r:LL} (h:e_desc l=0) (hr:r=bestL l):[vl r,vn 0]=m_best l:=by
 unfold m_best;rw [if_neg (fun hh=>hh h),hr]
theorem best_nil:bestL []=[]:=rfl
def thA (s:LL) (k:Int) (ds:List DV) (o:Nat):Prop:=∀ v<8,(bi ds (v+o)=true↔∃ j<k.toNat,nth s j 0=Int.ofNat v)
def wasA (s:LL) (k x:Int) (b:Bool):Prop:=b=true↔∃ j<k.toNat,nth s j 0=x
theorem lt8 {P:Nat→Prop} (h0:P 0) (h1:P 1) (h2:P 2) (h3:P 3) (h4:P 4) (h5:P 5) (h6:P 6) (h7:P 7):∀ v<8,P v:=fun v hv=>by
 have:v=0∨v=1∨v=2∨v=3∨v=4∨v=5∨v=6∨v=7:=by omega
 rcases this with rfl | rfl | rfl | rfl | rfl | rfl | rfl | rfl <;> assumption
theorem thA.zero {s:LL} {ds:List DV} {o:Nat} (h:∀ v<8,bi ds (v+o)=false):thA s 0 ds o:=fun v hv=>by
 rw [h v hv]
 exact ⟨fun h=>Bool.noConfusion h,fun ⟨j,hj,_⟩=>absurd hj (by simp)⟩
theorem thA.mv {s:LL} {ds ds':List DV} {o o':Nat} {k:Int} (h:thA s k ds o) (he:∀ v<8,bi ds' (v+o')=bi ds (v+o)):thA s k ds' o':=fun v hv=>by rw [he v hv];exact h v hv
theorem thA.was {s:LL} {ds:List DV} {o:Nat} {k:Int} {b:Bool} (h:thA s k ds o) (v:Nat) (hv:v<8) (he:bi ds (v+o)=b):wasA s k (Int.ofNat v) b:=by
 unfold wasA;rw [←he];exact h v hv
theorem thA.set {s:LL} {ds ds':List DV} {o o':Nat} {k y:Int} {cs:List D} (h:thA s k ds o) (v:Nat) (hk:s[k.toNat]?=some (.raw (.int .i64 (Int.ofNat v))::cs)) (h0:0≤k) (hy:y=k+1) (he:∀ w<8,w≠v→bi ds' (w+o')=bi ds (w+o)) (hv:bi ds' (v+o')=true):thA s y ds' o':=fun w hw=>by
 have e:y.toNat=k.toNat+1:=by omega
 rw [e]
 have hn:=nth_c hk
 by_cases hwv:w=v
 ·subst hwv
  rw [hv]
  exact ⟨fun _=>⟨k.toNat,by omega,hn⟩,fun _=>rfl⟩
 ·rw [he w hw hwv]
  refine (h w hw).trans ⟨fun ⟨j,hj,hh⟩=>⟨j,by omega,hh⟩,fun ⟨j,hj,hh⟩=>⟨j,?_,hh⟩⟩
  by_cases hjk:j=k.toNat
  ·subst hjk
   rw [hn] at hh
   exact absurd (Int.ofNat.inj hh).symm hwv
  ·omega
theorem fst_yes {s:LL} {k x:Int} {cs:List D} (h:wasA s k x false) (hk:s[k.toNat]?=some (.raw (.int .i64 x)::cs)):fstD s k.toNat:=fun j hj he=>by
 have:=h.2 ⟨j,hj,he.trans (nth_c hk)⟩
 exact Bool.noConfusion this
theorem fst_no {s:LL} {k x:Int} {cs:List D} (h:wasA s k x true) (hk:s[k.toNat]?=some (.raw (.int .i64 x)::cs)):¬fstD s k.toNat:=fun hf=>by
 obtain ⟨j,hj,he⟩:=h.1 rfl
 exact hf j hj (he.trans (nth_c hk).symm)
theorem fst_no' {s:LL} {k x:Int} {b:Bool} {cs:List D} (h:wasA s k x b) (hb:¬b=false) (hk:s[k.toNat]?=some (.raw (.int .i64 x)::cs)):¬fstD s k.toNat:=by
 cases b
 ·exact absurd rfl hb
 ·exact fst_no h hk
theorem upto_fst {s:LL} {k x:Int} {cs:List D} (h:upto (fstD s) k) (h0:0≤k) (hw:wasA s k x false) (hk:s[k.toNat]?=some (.raw (.int .i64 x)::cs)):upto (fstD s) (k+1):=(upto_succ h0).2 ⟨h,fst_yes hw hk⟩
theorem delI.b {P:Nat→Prop} {s q:LL} {i j:Int} (h:delI P s q i j):0≤i∧i<j∧j≤(s.length:Int)∧q.length=s.length:=⟨h.1,h.2.1,h.2.2.1,h.2.2.2.1⟩
theorem delI.at' {P:Nat→Prop} {s q:LL} {i j:Int} {c:List D} (h:delI P s q i j) (hk:q[j.toNat]?=some c):s[j.toNat]?=some c:=by rw [←h.at];exact hk
theorem insI.ok {l q:LL} {i:Int} (h:insI l q i) (ho:okD l):okD q:=⟨by rw [h.len];exact ho.1,fun c hc=>ho.2 c (h.1.mem_iff.1 hc)⟩
theorem delI.ok {P:Nat→Prop} {s q:LL} {i j:Int} (h:delI P s q i j) (ho:okD s):okD q:=⟨by rw [h.len];exact ho.1,fun c hc=>ho.2 c (h.2.2.2.2.2.2 c hc)⟩
theorem insJ.step1 {l0 q:LL} {i j:Int} {a b c d a' b' c' d':Int} (h:insJ l0 q i j) (hn:cmpI d b<0) (hj:0<j) (hij:j≤i) (hc:q[j.toNat]?=some [dn a,dn b]) (hd:q[(j-1).toNat]?=some [dn c,dn d]) (hc':q[j.toNat]?=some [dn a',dn b']) (hd':q[(j-1).toNat]?=some [dn c',dn d']):insJ l0 ((q.set j.toNat [dn c',dn d']).set (j-1).toNat [dn a',dn b']) i (j-1):=by
 rw [hc] at hc';rw [hd] at hd';cases hc';cases hd'
 exact h.step hj hij hc hd ((cmpD rfl).1 (by split <;> omega))
theorem insJ.step2 {l0 q:LL} {i j:Int} {a b c d a' b' c' d':Int} (h:insJ l0 q i j) (hm:¬cmpI d b≠0) (hn:cmpI a c<0) (hj:0<j) (hij:j≤i) (hc:q[j.toNat]?=some [dn a,dn b]) (hd:q[(j-1).toNat]?=some [dn c,dn d]) (hc':q[j.toNat]?=some [dn a',dn b']) (hd':q[(j-1).toNat]?=some [dn c',dn d']):insJ l0 ((q.set j.toNat [dn c',dn d']).set (j-1).toNat [dn a',dn b']) i (j-1):=by
 rw [hc] at hc';rw [hd] at hd';cases hc';cases hd'
 exact h.step hj hij hc hd ((cmpD rfl).1 (by split <;> omega))
theorem insJ.out' {l0 q:LL} {i j:Int} {a b c d:Int} (h:insJ l0 q i j) (hj:0<j) (hc:q[j.toNat]?=some [dn a,dn b]) (hd:q[(j-1).toNat]?=some [dn c,dn d]) (hn:(cmpI d b≠0∧¬cmpI d b<0)∨(cmpI d b=0∧¬cmpI a c<0)):insI l0 q (i+1):=h.out hj hc hd (fun hh=>by have:=(cmpD rfl).2 hh;split at this <;> omega)
theorem bestL_all {l q:LL} {n i:Int} (h:insI l q i) (hs:LS pairS l) (hi:¬i<(l.length:Int)) (hu:upto (fstD q) n) (hn:¬n<(q.length:Int)):q=bestL l:=by
 have e:=h.fin hs (by omega)
 have hl:=h.len
 unfold bestL
 rw [←e,←hl,kpL.all (Nat.le_refl _) (fun k hk=>hu k (by omega)),List.take_length]
theorem bestL_some {l q p r:LL} {x y i:Int} (h:insI l q i) (hs:LS pairS l) (hi:¬i<(l.length:Int)) (hd:delI (fstD q) q p x y) (hy:¬y<(p.length:Int)):(p.take x.toNat++r).take x.toNat=bestL l:=by
 have e:=h.fin hs (by omega)
 have hl:=h.len
 have hb:=hd.b
 rw [clr_take (by omega),hd.fin (by omega)]
 unfold bestL
 rw [←e,←hl]
attribute [irreducible] thA wasA
end Go.Vc
