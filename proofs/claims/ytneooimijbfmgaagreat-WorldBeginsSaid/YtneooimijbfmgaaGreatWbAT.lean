import Derived.Test.YtneooimijbfmgaaGreatProg
import Derived.KernelRfl
import Derived.Test.YtneooimijbfmgaaGreatWbAR
import Derived.Test.YtneooimijbfmgaaGreatWbAS
set_option linter.unusedVariables false
set_option linter.unusedSimpArgs false
set_option linter.unusedSectionVars false
noncomputable section
namespace Go.Vc
open Classical
def at_sd (l:LL) (i:Nat):Prop:=nth l i 0≠0
def limP (c:List D):Prop:=(gL c 1).length≤1048576∧(gL c 4).length≤1048576∧(gL c 7).length≤1048576∧(gL c 10).length≤1048576∧(gL c 15).length≤1048576
def limF (l:LL):Prop:=l.length≤1048576∧∀ c∈l,limP (c.drop 1)
def limN (c:List D):Prop:=limP ((c.drop 8).take 16)∧(gL c 27).length≤1048576∧(gL c 30).length≤1048576∧limF (gL c 31)∧(gL c 32).length≤1048576
theorem limF.at {l:LL} {k:Nat} {z:Int} {x10 x13 x16 x19 x21 x22:Int} {b8 b11 b14 b17 b20:Bool} {l9 l12 l15 l18 l23:LL} (h:limF l) (hk:l[k]?=some (dn z::[db b8,D.fs l9,dn x10,db b11,D.fs l12,dn x13,db b14,D.fs l15,dn x16,db b17,D.fs l18,dn x19,db b20,dn x21,dn x22,D.fs l23])):l9.length≤1048576∧l12.length≤1048576∧l15.length≤1048576∧l18.length≤1048576∧l23.length≤1048576:=h.2 _ (List.mem_of_getElem? hk)
theorem limN.of {x0 x1 x3 x4 x5 x6 x7 x10 x13 x16 x19 x21 x22 x25 x26 x28 x29:Int} {b2 b8 b11 b14 b17 b20 b24:Bool} {l9 l12 l15 l18 l23 l27 l30 l31 l32:LL} (h:limN [dn x0,dn x1,db b2,dn x3,dn x4,dn x5,dn x6,dn x7,db b8,D.fs l9,dn x10,db b11,D.fs l12,dn x13,db b14,D.fs l15,dn x16,db b17,D.fs l18,dn x19,db b20,dn x21,dn x22,D.fs l23,db b24,dn x25,dn x26,D.fs l27,dn x28,dn x29,D.fs l30,D.fs l31,D.fs l32]):(l9.length≤1048576∧l12.length≤1048576∧l15.length≤1048576∧l18.length≤1048576∧l23.length≤1048576)∧l27.length≤1048576∧l30.length≤1048576∧limF l31∧l32.length≤1048576:=h
theorem shpN {x:LL} (h:LS nodeS x):Shp [.int .i64, .int .i64, .bool, .int .i64, .int .i64, .int .i64, .int .i64, .int .i64, .bool, .sl, .int .i64, .bool, .sl, .int .i64, .bool, .sl, .int .i64, .bool, .sl, .int .i64, .bool, .int .i64, .int .i64, .sl, .bool, .int .i64, .int .i64, .sl, .int .i64, .int .i64, .sl, .sl, .sl] x:=DSh.shp h
theorem shpS {x:LL} (h:LS [s64,s64,s64] x):Shp [.int .i64, .int .i64, .int .i64] x:=DSh.shp h
abbrev worldS0:List Sh:=[s64,s64,s64,s64, .sl nodeS, .sl [], .sl [], .sl [], .sl [s64,s64,s64],s64]
def wLim (c:List D):Prop:=((gL c 4).length≤8∧∀ d∈gL c 4,limN d)∧(gL c 5).length=0∧(gL c 6).length=0∧(gL c 7).length=0∧(gL c 8).length≤20
end Go.Vc

namespace Go.Vc
theorem bv_fold16 {x y:BitVec 32} (h:x ^^^ (x >>> 16)=y ^^^ (y >>> 16)):x=y:=by
 have e:∀ z:BitVec 32,(z ^^^ (z >>> 16)) ^^^ ((z ^^^ (z >>> 16)) >>> 16)=z:=fun z=>by
  ext i hi
  simp only [BitVec.getElem_xor,BitVec.getElem_ushiftRight,BitVec.getLsbD_xor,BitVec.getLsbD_ushiftRight]
  rw [BitVec.getLsbD_of_ge z (16+(16+i)) (by omega),←BitVec.getLsbD_eq_getElem]
  cases z.getLsbD (16+i) <;> cases z.getLsbD i <;> rfl
 rw [←e x,←e y,h]
theorem bv_fold15 {x y:BitVec 32} (h:x ^^^ (x >>> 15)=y ^^^ (y >>> 15)):x=y:=by
 have e:∀ z:BitVec 32,(z ^^^ (z >>> 15)) ^^^ ((z ^^^ (z >>> 15)) >>> 15) ^^^ ((z ^^^ (z >>> 15)) >>> 30)=z:=fun z=>by
  ext i hi
  simp only [BitVec.getElem_xor,BitVec.getElem_ushiftRight,BitVec.getLsbD_xor,BitVec.getLsbD_ushiftRight]
  rw [BitVec.getLsbD_of_ge z (15+(30+i)) (by omega),←BitVec.getLsbD_eq_getElem,show 15+(15+i)=30+i by omega]
  cases z.getLsbD (15+i) <;> cases z.getLsbD i <;> cases z.getLsbD (30+i) <;> rfl
 rw [←e x,←e y,h]
theorem bv_fold13 {x y:BitVec 32} (h:x ^^^ (x >>> 13)=y ^^^ (y >>> 13)):x=y:=by
 have e:∀ z:BitVec 32,(z ^^^ (z >>> 13)) ^^^ ((z ^^^ (z >>> 13)) >>> 13) ^^^ ((z ^^^ (z >>> 13)) >>> 26)=z:=fun z=>by
  ext i hi
  simp only [BitVec.getElem_xor,BitVec.getElem_ushiftRight,BitVec.getLsbD_xor,BitVec.getLsbD_ushiftRight]
  rw [BitVec.getLsbD_of_ge z (13+(26+i)) (by omega),←BitVec.getLsbD_eq_getElem,show 13+(13+i)=26+i by omega]
  cases z.getLsbD (13+i) <;> cases z.getLsbD i <;> cases z.getLsbD (26+i) <;> rfl
 rw [←e x,←e y,h]
theorem bv_mul {x y:BitVec 32} (h:x*2654435769#32=y*2654435769#32):x=y:=by
 have e:2654435769#32*340573321#32=1#32:=by decide
 have:=congrArg (·*340573321#32) h
 simp only [BitVec.mul_assoc,e,BitVec.mul_one] at this
 exact this
def bvStir (x:BitVec 32):BitVec 32 :=
 let a:=x*2654435769#32
 let b:=(a ^^^ (a >>> 15))*2654435769#32
 let c:=(b ^^^ (b >>> 13))*2654435769#32
 c ^^^ (c >>> 16)
theorem bvStir_inj {x y:BitVec 32} (h:bvStir x=bvStir y):x=y:=bv_mul (bv_fold15 (bv_mul (bv_fold13 (bv_mul (bv_fold16 h)))))
def ibv (a:BitVec 32):Int:=(a.toNat:Int)
theorem ibv_of {x:Int} (h0:0≤x) (h1:x≤4294967295):ibv (BitVec.ofInt 32 x)=x:=by
 unfold ibv
 rw [BitVec.toNat_ofInt]
 omega
theorem of_ibv (a:BitVec 32):BitVec.ofInt 32 (ibv a)=a:=by
 unfold ibv
 apply BitVec.eq_of_toNat_eq
 rw [BitVec.toNat_ofInt]
 have:=a.isLt
 omega
theorem wrap_u32 (x:Int):IntKind.wrap .u32 x=x % 4294967296:=rfl
theorem fold_bv (a:BitVec 32) (k:Nat) (hk:k≤32):fold1 (ibv a) (k:Int)=ibv (a ^^^ (a >>> k)):=by
 unfold fold1 bXor
 have e1:(k:Int).toNat=k:=by omega
 have e2:min k (IntKind.bits .u32)=k:=Nat.min_eq_left hk
 rw [e1,e2]
 have e3:Int.fdiv (ibv a) ((2:Int) ^ k)=ibv (a >>> k):=by
  rw [Int.fdiv_eq_ediv_of_nonneg _ (by exact_mod_cast Nat.zero_le (2 ^ k))]
  unfold ibv
  rw [BitVec.toNat_ushiftRight,Nat.shiftRight_eq_div_pow]
  norm_cast
 rw [e3,show IntKind.bits .u32=32 from rfl,of_ibv,of_ibv,wrap_u32]
 have:=(a ^^^ a >>> k).isLt
 unfold ibv
 omega
theorem mul_bv (a:BitVec 32):u32 (ibv a*2654435769)=ibv (a*2654435769#32):=by
 unfold u32 ibv
 rw [wrap_u32,BitVec.toNat_mul]
 simp
theorem stir_bv (a:BitVec 32):stir (ibv a)=ibv (bvStir a):=by
 unfold stir bvStir
 rw [mul_bv,show (15:Int)=((15:Nat):Int) from rfl,fold_bv _ 15 (by decide),mul_bv,show (13:Int)=((13:Nat):Int) from rfl,fold_bv _ 13 (by decide),mul_bv,show (16:Int)=((16:Nat):Int) from rfl,fold_bv _ 16 (by decide)]
theorem stir_inj {x y:Int} (hx:0≤x∧x≤4294967295) (hy:0≤y∧y≤4294967295) (h:stir x=stir y):x=y:=by
 rw [←ibv_of hx.1 hx.2,←ibv_of hy.1 hy.2,stir_bv,stir_bv] at h
 have e:bvStir (BitVec.ofInt 32 x)=bvStir (BitVec.ofInt 32 y):=BitVec.eq_of_toNat_eq (by unfold ibv at h;exact_mod_cast h)
 rw [←ibv_of hx.1 hx.2,←ibv_of hy.1 hy.2,bvStir_inj e]
theorem tag_inj {e n i j:Int} (he:0≤e∧e≤65535) (hn:0≤n∧n≤7) (hi:0≤i∧i<4) (hj:0≤j∧j<4) (h:tagOf e n i=tagOf e n j):i=j:=by
 unfold tagOf u32 at h
 rw [wrap_u32,wrap_u32] at h
 have:=stir_inj (by omega) (by omega) h
 omega
end Go.Vc

namespace Go.Vc
open Classical
theorem tagsL_ok {e n:Int}:LSh [s32] (tagsL e n)∧p_tags e n (tagsL e n):=by
 have hx:∃ l,LSh [s32] l∧p_tags e n l:=by
  refine ⟨(tagsUp e n 4).mergeSort (fun c d=>decide (gI c 0≤gI d 0)),?_⟩
  have hp:=List.mergeSort_perm (tagsUp e n 4) (fun c d=>decide (gI c 0≤gI d 0))
  have hw:=List.pairwise_mergeSort (le:=fun c d:List D=>decide (gI c 0≤gI d 0)) (fun a b c h1 h2=>decide_eq_true (Int.le_trans (of_decide_eq_true h1) (of_decide_eq_true h2))) (fun a b=>by
   by_cases h:gI a 0≤gI b 0
   ·simp [h]
   ·have:gI b 0≤gI a 0:=by omega
    simp [this]) (tagsUp e n 4)
  have hl:((tagsUp e n 4).mergeSort (fun c d=>decide (gI c 0≤gI d 0))).length=4:=by rw [hp.length_eq,tagsUp_len];rfl
  refine ⟨⟨by omega, .mk (by omega) fun c hc=>?_⟩,hl,hp,fun i j hij hj=>?_⟩
  ·obtain ⟨x,hx⟩:=List.mem_map.1 (hp.mem_iff.1 hc)
   rw [←hx.2];exact tag_i32
  ·have:=List.pairwise_iff_getElem.1 hw i j (by omega) (by omega) hij
   unfold nth
   rw [List.getElem?_eq_getElem (by omega),List.getElem?_eq_getElem (by omega)]
   exact of_decide_eq_true this
 unfold tagsL
 rw [dif_pos hx]
 exact Classical.choose_spec hx
theorem cb_nil {a b:Int} (h:0≤a∧a≤7) (h2:1≤b∧b≤6):p_cacheB [dn a,dn b, .fs []]:=⟨h.1,h.2,h2.1,h2.2,by show ((([]:LL).length:Nat):Int)≤b;simp;omega,e_desc_nil,rfl⟩
end Go.Vc

namespace Go.Vc
open Classical
theorem wn_val {x0 x1 x2 x3 i v:Int} {l:LL} (hk:l[i.toNat]?=some [dn v]) (h:okW x0 x1 x2 x3 l) (h0:0≤i):p_born x1 x3 i v l.length∧v=nth l i.toNat 0∧i<x0:=by
 obtain ⟨⟨a1,a2,b1,b2,c1,c2,d1,d2⟩,e,hu⟩:=h
 have hl:=(List.getElem?_eq_some_iff.1 hk).1
 have hv:v=nth l i.toNat 0:=(nth_1 hk).symm
 have:=hu i.toNat (by omega)
 unfold at_val at this
 rw [←hv] at this
 exact ⟨⟨h0,by omega,d1,d2,this,b1,b2,by omega⟩,hv,by omega⟩
theorem wn_new {b d i v k:Int} (h:p_born b d i v k):p_new i v d [dn b,dn 0,dn 0,dn 0,dn 0]:=by
 obtain ⟨g1,g2,g3,g4,g5,g7,g8,g9⟩:=h
 refine ⟨g1,g2,g3,g4,g5,?_⟩
 show (1:Int)≤b∧b≤64∧(0:Int)≤0∧(0:Int)≤0∧(0:Int)≤2147483647∧(0:Int)≤0∧(0:Int)≤65535∧(0:Int)≤0∧(0:Int)≤65536∧((0:Int)-0≥b→(0:Int)=65535)
 refine ⟨?_,?_,?_,?_,?_,?_,?_,?_,?_,?_⟩ <;> omega
theorem known_desc {k:Int} (h:k≤8):e_desc (knownL k)=0:=desc_iff.2 ⟨by rw [known_len];omega,fun c hc=>by
 obtain ⟨i,hi,rfl⟩:=known_mem hc
 show 0≤(i:Int)∧(i:Int)<8∧(0:Int)≤0∧(0:Int)≤2147483647
 omega⟩
theorem wn_merge {b d i v k y0 y1 y3:Int} {y2 l:LL} (hp:p_born b d i v k) (hl:l=knownL k) (h:[DV.a [dn y0,dn y1, .fs y2],vn y3]=m_mergeE [dn i,dn d, .fs []] l):y0=i∧y1=d∧y2=nbrL i k d∧y3=0:=by
 obtain ⟨g1,g2,g3,g4,g5,g7,g8,g9⟩:=hp
 subst hl
 unfold m_mergeE at h
 rw [if_neg (fun hh=>hh (cb_nil ⟨g1,g2⟩ ⟨g3,g4⟩)),if_neg (fun hh=>hh (known_desc g9))] at h
 simp only [List.cons.injEq,DV.a.injEq,DV.c.injEq,D.raw.injEq,D.fs.injEq,Value.int.injEq,true_and,and_true] at h
 obtain ⟨⟨e1,e2,e3⟩,e4⟩:=h
 exact ⟨e1,e2,e3,e4⟩
theorem wn_in' {b d i v k y:Int} {t:Bool} (hp:p_born b d i v k) (h:t=decide (p_clock [dn b,dn 0,dn 0,dn 0,dn 0]∧(0:Int)≤0)) (h2:y=if p_clock [dn b,dn 0,dn 0,dn 0,dn 0] then (0:Int) else 8):t=true∧y=0:=by
 have hc:=(wn_new hp).2.2.2.2.2
 rw [if_pos hc] at h2
 rw [decide_eq_true ⟨hc,Int.le_refl 0⟩] at h
 exact ⟨h,h2⟩
theorem wn_shn {b d i v k:Int} (hp:p_born b d i v k):DShs nodeS (newK b d i v k):=by
 obtain ⟨g1,g2,g3,g4,⟨g5,g6⟩,g7,g8,g9⟩:=hp
 have hls:LS pairS (nbrL i k d):=ls_take (best_ls' (flt_ls (known_ls (by omega))))
 have hln:=hls.len
 unfold newK
 simp only [dshs_cons,dshs_nil,dsh_int,dsh_bool,dsh_sl,rng64,true_and,and_true]
 repeat' apply And.intro
 all_goals first
  | omega
  | exact of_decide_eq_true rfl
  | exact ls_nil
  | exact hls
theorem wn_seed {b d i v k y:Int} (hp:p_born b d i v k) {f:Bool} {x0 x1 x3 x4 x5 x6 x7 x10 x13 x16 x19 x21 x22 x25 x26 x28 x29:Int} {b2 b8 b11 b14 b17 b20 b24:Bool} {l9 l12 l15 l18 l23 l27 l30 l31 l32:LL} (h:[DV.a [dn x0,dn x1,db b2,dn x3,dn x4,dn x5,dn x6,dn x7,db b8,D.fs l9,dn x10,db b11,D.fs l12,dn x13,db b14,D.fs l15,dn x16,db b17,D.fs l18,dn x19,db b20,dn x21,dn x22,D.fs l23,db b24,dn x25,dn x26,D.fs l27,dn x28,dn x29,D.fs l30,D.fs l31,D.fs l32],vn y]=m_seed (newK b d i v k) f) (hf:f=decide (i=0)):x0=i∧x1=v∧x6=0∧x7=0∧y=0∧[dn x0,dn x1,db b2,dn x3,dn x4,dn x5,dn x6,dn x7,db b8,D.fs l9,dn x10,db b11,D.fs l12,dn x13,db b14,D.fs l15,dn x16,db b17,D.fs l18,dn x19,db b20,dn x21,dn x22,D.fs l23,db b24,dn x25,dn x26,D.fs l27,dn x28,dn x29,D.fs l30,D.fs l31,D.fs l32]=bornC b d i v k:=by
 subst hf
 rw [born_seed hp] at h
 injection h with h1 h2
 injection h1 with h1
 injection h2 with h2
 have e0:=congrArg (fun c=>gI c 0) h1
 have e1:=congrArg (fun c=>gI c 1) h1
 have e6:=congrArg (fun c=>gI c 6) h1
 have e7:=congrArg (fun c=>gI c 7) h1
 injection h2 with h2
 injection h2 with h2
 injection h2 with _ h2
 exact ⟨e0,e1,e6,e7,h2,h1⟩
theorem seeds_mem {l:LL} {j:Int} {c:List D} (h:c∈seedsL l j):∃ i:Nat,(i:Int)<j∧c=[dn 0,dn (i:Int),dn (nth l i 0)]:=by
 unfold seedsL at h
 obtain ⟨i,hi,e⟩:=List.mem_map.1 h
 rw [List.mem_range] at hi
 exact ⟨i,by omega,e.symm⟩
theorem seeds_ls {x0 x1 x2 x3 j:Int} {l:LL} (h:okW x0 x1 x2 x3 l) (hj:j≤(l.length:Int)):LS [s64,s64,s64] (seedsL l j) := .mk (by rw [seeds_len];have:=h.2.1;have:=h.1.2.1;omega) fun c hc=>by
 obtain ⟨i,hi,rfl⟩:=seeds_mem hc
 have hl:=h.2.1
 have h8:=h.1.2.1
 have hv:=h.2.2 i (by omega)
 unfold at_val inV at hv
 simp only [dshs_cons,dshs_nil,dsh_int,rng64,and_true]
 omega
theorem wn_first {l r:LL} {i k:Int} (hr:r=seedsL l i) (hu:upto (at_sd r) k) (hk:¬k<(r.length:Int)) (h0:0≤i):(!decide ((-1:Int)≥0))=decide (i=0):=by
 have e:(!decide ((-1:Int)≥0))=true:=rfl
 rw [e]
 refine (decide_eq_true ?_).symm
 by_cases hi:i=0
 ·exact hi
 ·exfalso
  have hl:r.length=i.toNat:=by rw [hr,seeds_len]
  have h1:=hu 0 (by omega)
  obtain ⟨j,hj,e⟩:=seeds_mem (l:=l) (j:=i) (c:=(seedsL l i)[0]'(by rw [seeds_len];omega)) (List.getElem_mem _)
  unfold at_sd nth at h1
  subst hr
  rw [List.getElem?_eq_getElem (by rw [seeds_len];omega),e] at h1
  exact h1 rfl
theorem wn_later {l r:LL} {i k y:Int} (hr:r=seedsL l i) (hy:y=((r.length:Nat):Int)) (hk:k<y) (h0:0≤k):(!true)=decide (i=0):=by
 have hl:r.length=i.toNat:=by rw [hr,seeds_len]
 refine (decide_eq_false ?_).symm
 omega
theorem wn_nl {b d j m:Int} {l n:LL} (h:n=nodesL b d l j m) (h0:0≤m):(n.length:Int)=m:=by rw [h,nodes_len];omega
theorem wn_sl {j:Int} {l n:LL} (h:n=seedsL l j) (h0:0≤j):(n.length:Int)=j:=by rw [h,seeds_len];omega
theorem wn_kl {j:Int} {n:LL} (h:n=knownL j) (h0:0≤j):(n.length:Int)=j:=by rw [h,known_len];omega
theorem wn_dl {j:Int} {n:LL} (h:n=downsL j) (h0:0≤j):(n.length:Int)=j:=by rw [h];unfold downsL;simp;omega
theorem known_eq {l:LL} {a b:Int} (h:l=knownL a) (e:a=b):l=knownL b:=e▸h
theorem known_step {l r:LL} {k:Int} (h2:r=l++[[dn k,dn 0]]) (h:l=knownL k) (h0:0≤k):r=knownL (k+1):=by rw [h2,h,known_succ h0]
theorem down_step {l r:LL} {k:Int} (h2:r=l++[downC k]) (h:l=downsL k) (h0:0≤k):r=downsL (k+1):=by
 rw [h2,h]
 unfold downsL
 rw [show (k+1).toNat=k.toNat+1 by omega,List.range_succ,List.map_append]
 simp [Int.toNat_of_nonneg h0]
theorem nodes_start {b d a n:Int} {l r:LL} (h:r=downsL a) (e:a=n):r=nodesL b d l 0 n:=by rw [nodes_zero,h,e]
theorem node_step {b d i n v k:Int} {l r r':LL} {cs:List D} (h:r'=List.set r k.toNat cs) (hr:r=nodesL b d l i n) (hcs:cs=bornC b d i v (l.length:Int)) (hv:v=nth l i.toNat 0) (h0:0≤i) (hn:i<n) (hk:k=i):r'=nodesL b d l (i+1) n:=by
 rw [h,hr,hcs,hk,hv]
 exact nodes_set h0 hn
theorem seed_step {i e i' v v':Int} {l r r':LL} (h:r'=r++[[dn e,dn i',dn v']]) (hr:r=seedsL l i) (he:e=0) (hi:i'=i) (hv:v'=v) (hv2:v=nth l i.toNat 0) (h0:0≤i):r'=seedsL l (i+1):=by
 rw [h,hr,he,hi,hv,hv2,seeds_succ h0]
theorem wn_shc {b:Int} (h:1≤b) (h2:b≤64):DShs clockS [dn b,dn 0,dn 0,dn 0,dn 0]:=by
 simp only [dshs_cons,dshs_nil,dsh_int,rng64,and_true]
 omega
theorem wn_shk {a b:Int} (h:0≤a) (h2:a≤7) (h3:1≤b) (h4:b≤6):DShs cacheS [dn a,dn b,D.fs []]:=by
 simp only [dshs_cons,dshs_nil,dsh_int,dsh_sl,rng64,and_true]
 exact ⟨by omega,by omega,by simp,ls_nil⟩
theorem known_ls' {l:LL} {k:Int} (h:l=knownL k) (hk:k≤20):LS pairS l:=h▸known_ls (by omega)
theorem known_desc' {l:LL} {k:Int} (h:l=knownL k) (hk:k≤8):e_desc l=0:=h▸known_desc hk
theorem seeds_shp {x0 x1 x2 x3 j:Int} {l r:LL} (hr:r=seedsL l j) (h:okW x0 x1 x2 x3 l) (hj:j≤(l.length:Int)):Shp [.int .i64, .int .i64, .int .i64] r:=by rw [hr];exact shpS (seeds_ls h hj)
theorem at_sd_yes {l:LL} {k k' x y z:Int} (hk:l[k'.toNat]?=some [dn x,dn y,dn z]) (e:k'=k) (h:¬x=0):at_sd l k.toNat:=by
 subst e;unfold at_sd;rw [nth_c hk];exact h
theorem wn_end {x0 x1 x2 x3 i:Int} {l n s:LL} (hn:n=nodesL x1 x3 l i x0) (hs:s=seedsL l i) (h:okW x0 x1 x2 x3 l) (hi:¬i<(l.length:Int)) (hi2:i≤(l.length:Int)):[DV.a [dn x0,dn x1,dn x2,dn x3,D.fs n,D.fs [],D.fs [],D.fs [],D.fs s,dn 0],vn 0]=m_world x0 x1 x2 x3 l:=by
 unfold m_world
 rw [if_pos h,hn,hs,show i=(l.length:Int) by omega]
 rfl
theorem wn_no {x0 x1 x2 x3:Int} {l:LL} (h:¬okW x0 x1 x2 x3 l):[DV.a [dn (0:Int),dn (0:Int),dn (0:Int),dn (0:Int),D.fs [],D.fs [],D.fs [],D.fs [],D.fs [],dn (0:Int)],vn (2:Int)]=m_world x0 x1 x2 x3 l:=by
 unfold m_world
 rw [if_neg h]
 rfl
theorem at_val_yes {l:LL} {k v:Int} (hk:l[k.toNat]?=some [dn v]) (h : -2147483647≤v) (h2:v≤2147483647):at_val l k.toNat:=by
 unfold at_val inV;rw [nth_1 hk];exact ⟨h,h2⟩
theorem okW_no {a b c d k v:Int} {l:LL} (hk:l[k.toNat]?=some [dn v]) (h0:0≤k) (h:¬(-2147483647≤v∧v≤2147483647)):¬okW a b c d l:=fun hh=>by
 have:=hh.2.2 k.toNat (by have:=(List.getElem?_eq_some_iff.1 hk).1;omega)
 unfold at_val inV at this
 rw [nth_1 hk] at this
 exact h this
end Go.Vc

namespace Go.Vc
open Classical
theorem flt_app {own x y:Int} {l:LL}:fltD own (l++[[dn x,dn y]])=fltD own l++(if x≠own then [[dn x,dn y]] else []):=by
 rw [flt_filter,flt_filter,List.filter_append]
 congr 1
 by_cases h:x=own
 ·rw [if_neg (fun hh=>hh h)];simp [gI,h]
 ·rw [if_pos h];simp [gI,h]
theorem flt_klen {own k:Int} {l:LL} (h:l=fltD own (knownL k)):l.length≤k.toNat:=by
 have:=flt_len (own:=own) (l:=knownL k)
 rw [known_len] at this
 rw [h];exact this
def srtK (l q:LL) (i a:Int):Prop:=∀ x:Nat,x<a.toNat→x<q.length→¬befD (elT l i.toNat) (elT q x)
theorem srtK.j {l q:LL} {i a c0 c1:Int} (h:srtK l q i a) (hk:l[i.toNat]?=some [dn c0,dn c1]):srtJ q c0 c1 a:=fun x h1 h2=>by
 have:=h x h1 h2
 rw [elT_at hk] at this
 exact this
theorem srtK.zero {l q:LL} {i:Int}:srtK l q i 0:=fun x hx=>by simp at hx
theorem srtK.step {l q:LL} {i a c0 c1 u v:Int} (h:srtK l q i a) (hk:l[i.toNat]?=some [dn c0,dn c1]) (ha:0≤a) (hq:q[a.toNat]?=some [dn u,dn v]) (hn:¬(c1>v∨c1=v∧c0<u)):srtK l q i (a+1):=fun x h1 h2=>by
 have:=(h.j hk).step ha hq hn x h1 h2
 rw [elT_at hk]
 exact this
theorem srt_put1 {l q r:LL} {i a c0 c1:Int} (hr:r=q.take a.toNat++[[dn c0,dn c1]]++q.drop a.toNat) (h:srtI l q i) (hj:srtK l q i a) (hs:LS pairS l) (hk:l[i.toNat]?=some [dn c0,dn c1]) (h0:0≤i) (h2:¬a<(q.length:Int)) (ha:0≤a):srtI l r (i+1):=by
 rw [hr];exact h.put (hj.j hk) hs hk h0 h2 ha
theorem srt_put2 {l q r:LL} {i a c0 c1 u v:Int} (hr:r=q.take a.toNat++[[dn c0,dn c1]]++q.drop a.toNat) (h:srtI l q i) (hj:srtK l q i a) (hs:LS pairS l) (hk:l[i.toNat]?=some [dn c0,dn c1]) (h0:0≤i) (hq:q[a.toNat]?=some [dn u,dn v]) (h2:c1>v∨c1=v∧c0<u):srtI l r (i+1):=by
 rw [hr];exact h.put2 (hj.j hk) hs hk h0 hq h2
theorem oth_step {own k:Int} {l r:LL} (h2:r=l++[[dn k,dn 0]]) (h:l=fltD own (knownL k)) (h0:0≤k) (hn:k≠own):r=fltD own (knownL (k+1)):=by
 rw [h2,h,known_succ h0,flt_app,if_pos hn]
theorem oth_skip {own k:Int} {l:LL} (h:l=fltD own (knownL k)) (h0:0≤k) (hn:¬k≠own):l=fltD own (knownL (k+1)):=by
 rw [h,known_succ h0,flt_app,if_neg hn,List.append_nil]
theorem oth_fin {own k n:Int} {l:LL} (h:l=fltD own (knownL k)) (e:k=n):([vl l]:List DV)=[vl (fltD own (knownL n))]:=by rw [h,e]
theorem srt_cat {q l1 l2 l3 l4 l5:LL} {a:Int} {c:List D} (h5:l5=l4++l3) (h4:l4=l2++[c]) (h2:l2=l1) (h1:l1=List.take (a.toNat-Int.toNat (0:Int)) (List.drop (Int.toNat (0:Int)) q)) (h3:l3=List.take (Int.toNat ((List.length q:Nat):Int)-a.toNat) (List.drop a.toNat q)):l5=q.take a.toNat++[c]++q.drop a.toNat:=by
 rw [h5,h4,h2,h1,h3]
 simp only [Int.toNat_zero,List.drop_zero,Nat.sub_zero,Int.toNat_natCast]
 rw [List.take_of_length_le (l:=List.drop a.toNat q) (by rw [List.length_drop];exact Nat.le_refl _)]
theorem srt_gt {l q r:LL} {i a c0 c1 d0 d1 u v:Int} (hr:r=q.take a.toNat++[[dn c0,dn c1]]++q.drop a.toNat) (h:srtI l q i) (hj:srtK l q i a) (hs:LS pairS l) (h2:d1>v) (hk:l[i.toNat]?=some [dn c0,dn c1]) (hk':l[i.toNat]?=some [dn d0,dn d1]) (h0:0≤i) (hq:q[a.toNat]?=some [dn u,dn v]):srtI l r (i+1):=by
 have e:([dn c0,dn c1]:List D)=[dn d0,dn d1]:=Option.some.inj (hk.symm.trans hk')
 injection e with e1 e2
 injection e2 with e2
 injection e2 with e2
 injection e2 with _ e2
 subst e2
 exact srt_put2 hr h hj hs hk h0 hq (.inl h2)
theorem srt_eq {l q r:LL} {i a c0 c1 d0 d1 u v:Int} (hr:r=q.take a.toNat++[[dn c0,dn c1]]++q.drop a.toNat) (h:srtI l q i) (hj:srtK l q i a) (hs:LS pairS l) (h2:d0<u) (hk:l[i.toNat]?=some [dn c0,dn c1]) (hk':l[i.toNat]?=some [dn d0,dn d1]) (h0:0≤i) (hq:q[a.toNat]?=some [dn u,dn v]) (h3:d1=v):srtI l r (i+1):=by
 have e:([dn c0,dn c1]:List D)=[dn d0,dn d1]:=Option.some.inj (hk.symm.trans hk')
 injection e with e1 e2
 injection e2 with e2
 injection e1 with e1
 injection e1 with _ e1
 injection e2 with e2
 injection e2 with _ e2
 subst e1 e2
 exact srt_put2 hr h hj hs hk h0 hq (.inr ⟨h3,h2⟩)
theorem srt_fin {l q:LL} {i:Int} (h:srtI l q i) (hi:¬i<(l.length:Int)):([vl q]:List DV)=[vl (srtD l)]:=by rw [h.fin hi]
theorem take_ls {q l:LL} {a b:Nat} {s:List Sh} (hl:q=List.take a (List.drop b l)) (hs:LS s l):LS s q:=by
 rw [hl]
 exact .mk (by rw [List.length_take,List.length_drop];have:=hs.len;omega) fun c hc=>hs.els c (List.mem_of_mem_drop (List.mem_of_mem_take hc))
theorem take_len2 {q l:LL} {a b:Nat} (hl:q=List.take a (List.drop b l)):q.length≤l.length∧q.length≤a∧q.length≤l.length-b:=by
 rw [hl,List.length_take,List.length_drop];omega
theorem flt_fin {own i:Int} {l q:LL} (h:fltI own l q i) (hi:(l.length:Int)≤i) (hi2:i≤(l.length:Int)):([vl q]:List DV)=[vl (fltD own l)]:=by rw [h.fin hi hi2]
theorem flt_put {own i x y u v:Int} {l q r:LL} (hr:r=q++[[dn x,dn y]]) (h:fltI own l q i) (h0:0≤i) (hk:l[i.toNat]?=some [dn x,dn y]) (hn:u≠own) (hk':l[i.toNat]?=some [dn u,dn v]):fltI own l r (i+1):=by
 have e:([dn x,dn y]:List D)=[dn u,dn v]:=Option.some.inj (hk.symm.trans hk')
 injection e with e1 e2
 injection e1 with e1
 injection e1 with _ e1
 subst e1
 rw [hr]
 exact h.yes h0 hk hn
def wasK (l:LL) (k i:Int) (b:Bool):Prop:=b=true↔∃ j<k.toNat,nth l j 0=nth l i.toNat 0
theorem wasK.zero {l:LL} {i:Int}:wasK l 0 i false:=⟨fun h=>Bool.noConfusion h,fun ⟨j,h,_⟩=>absurd h (by simp)⟩
theorem wasK.old {l:LL} {k i:Int} {b:Bool} (h:wasK l k i b) (h0:0≤k) (hb:b=true):wasK l (k+1) i true:=by
 subst hb
 obtain ⟨j,hj,e⟩:=h.1 rfl
 exact ⟨fun _=>⟨j,by omega,e⟩,fun _=>rfl⟩
theorem wasK.hit {l:LL} {k i x y u v:Int} (h0:0≤k) (hk:l[k.toNat]?=some [dn x,dn y]) (hi:l[i.toNat]?=some [dn u,dn v]) (e:x=u):wasK l (k+1) i true :=
 ⟨fun _=>⟨k.toNat,by omega,by rw [(nth_2 hk).1,(nth_2 hi).1,e]⟩,fun _=>rfl⟩
theorem wasK.miss {l:LL} {k i x y u v:Int} {b:Bool} (h:wasK l k i b) (hb:b=false) (h0:0≤k) (hk:l[k.toNat]?=some [dn x,dn y]) (hi:l[i.toNat]?=some [dn u,dn v]) (e:¬x=u):wasK l (k+1) i false:=by
 refine ⟨fun h=>Bool.noConfusion h,fun ⟨j,hj,e2⟩=>?_⟩
 by_cases ej:j=k.toNat
 ·subst ej
  rw [(nth_2 hk).1,(nth_2 hi).1] at e2
  exact absurd e2 e
 ·subst hb
  exact h.2 ⟨j,by omega,e2⟩
theorem wasK.was {l:LL} {k i x y:Int} {b:Bool} (h:wasK l k i b) (hki:k=i) (hi:l[i.toNat]?=some [dn x,dn y]):wasA l i x b:=by
 unfold wasA
 unfold wasK at h
 rw [(nth_2 hi).1,hki] at h
 exact h
theorem fst_fin {l q:LL} {i:Int} (h:fstI l q i) (hi:¬i<(l.length:Int)) (hi2:i≤(l.length:Int)):([vl q]:List DV)=[vl (kpL (fstD l) l l.length)]:=by rw [h.fin hi hi2]
theorem fst_put {l q r:LL} {k i x y:Int} {b:Bool} (hr:r=q++[[dn x,dn y]]) (h:fstI l q i) (hw:wasK l k i b) (hb:b=false) (hki:k=i) (h0:0≤i) (hk:l[i.toNat]?=some [dn x,dn y]):fstI l r (i+1):=by
 rw [hr]
 exact h.yes (hw.was hki hk) hb h0 hk
theorem fst_skip {l q:LL} {k i:Int} {b:Bool} (h:fstI l q i) (hw:wasK l k i b) (hb:¬b=false) (hki:k=i) (h0:0≤i):fstI l q (i+1):=by
 have hb:b=true:=by simpa using hb
 subst hb
 unfold fstI at *
 have hn:¬fstD l i.toNat:=fun hf=>by
  obtain ⟨j,hj,e⟩:=hw.1 rfl
  exact hf j (by omega) e
 rw [show (i+1).toNat=i.toNat+1 by omega,kpL.no hn,h]
theorem ls_app {s:List Sh} {a b:LL} (h1:LS s a) (h2:LS s b) (hl:a.length+b.length≤9223372036854775807):LS s (a++b) := .mk (by rw [List.length_append];exact hl) fun c hc=>(List.mem_append.1 hc).elim (h1.els c) (h2.els c)
theorem cat2 {l2 l3 l5 l6:LL} (h6:l6=l5++l3) (h5:l5=[]++l2):l6=l2++l3:=by rw [h6,h5];rfl
theorem nil_app {l2 l5:LL} (h5:l5=[]++l2):l5.length=l2.length:=by rw [h5];rfl
theorem best_of {l7 l8 l9:LL} (h8:l8=srtD l7) (h9:l9=kpL (fstD l8) l8 l8.length):l9=bestL l7:=by
 rw [h9,h8,(srtD.perm l7).length_eq];rfl
theorem srt_len {l7 l8:LL} (h8:l8=srtD l7):l8.length=l7.length:=by rw [h8,(srtD.perm l7).length_eq]
theorem flt_len' {own:Int} {l q:LL} (h:q=fltD own l):q.length≤l.length:=by rw [h];exact flt_len
theorem flt_ls' {own:Int} {l q:LL} (h:q=fltD own l) (hs:LS pairS l):LS pairS q:=by rw [h];exact flt_ls hs
theorem srt_ls' {l q:LL} (h:q=srtD l) (hs:LS pairS l):LS pairS q:=by rw [h];exact srtD.ls hs
theorem best_ls2 {l q:LL} (h:q=bestL l) (hs:LS pairS l):LS pairS q:=by rw [h];exact best_ls' hs
theorem take_min {l9 l12:LL} {x10 x11 x1:Int} (h10:x10=(l9.length:Int)) (h11:x11=min x10 x1) (h12:l12=List.take (x11.toNat-Int.toNat (0:Int)) (List.drop (Int.toNat (0:Int)) l9)):l12=l9.take x1.toNat:=by
 rw [h12,h11,h10]
 simp only [Int.toNat_zero,List.drop_zero,Nat.sub_zero]
 by_cases hh:(l9.length:Int)≤x1
 ·rw [Int.min_eq_left hh,List.take_of_length_le (by omega),List.take_of_length_le (by omega)]
 ·rw [Int.min_eq_right (by omega)]
theorem taken_eq {x0:Int} {l7 l6 r:LL} (h:l7=fltD x0 l6) (h2:l6=r):bestL l7=bestL (fltD x0 r):=by rw [h,h2]
end Go.Vc

namespace Go.Vc
open Classical
def withP (l:LL) (t:Int) (r:LL):Prop:=∃ a:Nat,a≤l.length∧(∀ x:Nat,x<a→nth l x 0<t)∧(a<l.length→t<nth l a 0)∧r=l.take a++[[d32 t]]++l.drop a
def withI (l:LL) (t:Int) (q:LL) (i:Int) (p:Bool):Prop:=(p=false→q=l.take i.toNat∧∀ x:Nat,x<i.toNat→nth l x 0<t)∧(p=true→∃ a:Nat,a<i.toNat∧(∀ x:Nat,x<a→nth l x 0<t)∧t<nth l a 0∧q=l.take a++[[d32 t]]++(l.drop a).take (i.toNat-a))
theorem withI.zero {l:LL} {t:Int}:withI l t [] 0 false:=⟨fun _=>⟨by simp,fun x hx=>by simp at hx⟩,fun h=>Bool.noConfusion h⟩
theorem withI.len {l q:LL} {t i:Int} {p:Bool} (h:withI l t q i p):q.length≤i.toNat+1:=by
 cases p with
 | false=>rw [(h.1 rfl).1,List.length_take];omega
 | true =>
  obtain ⟨a,h1,_,_,h2⟩:=h.2 rfl
  rw [h2,List.length_append,List.length_append,List.length_take,List.length_take]
  simp only [List.length_cons,List.length_nil]
  omega
theorem withI.ls {l q:LL} {t i:Int} {p:Bool} (h:withI l t q i p) (hs:LS [s32] l) (h0:0≤t) (h1:t≤4294967295) (hl:l.length≤1000) (hi:i≤1000):LS [s32] q := .mk (by have:=h.len;omega) fun c hc=>by
 have ht:DShs [s32] [d32 t]:=by simp only [dshs_cons,dshs_nil,dsh_int,rng32,and_true];exact ⟨h0,h1⟩
 cases p with
 | false=>rw [(h.1 rfl).1] at hc;exact hs.els c (List.mem_of_mem_take hc)
 | true =>
  obtain ⟨a,_,_,_,h2⟩:=h.2 rfl
  rw [h2,List.mem_append,List.mem_append] at hc
  rcases hc with (hc | hc) | hc
  ·exact hs.els c (List.mem_of_mem_take hc)
  ·rw [List.mem_singleton] at hc;rw [hc];exact ht
  ·exact hs.els c (List.mem_of_mem_drop (List.mem_of_mem_take hc))
theorem withI.put {l q r r2:LL} {t i x y:Int} {p:Bool} (hr2:r2=r++[[d32 y]]) (hr:r=q++[[d32 t]]) (h:withI l t q i p) (hp:p=false) (h0:0≤i) (hk':l[i.toNat]?=some [d32 y]) (hx:x>t) (hk:l[i.toNat]?=some [d32 x]):withI l t r2 (i+1) true:=by
 subst hp
 obtain ⟨h1,h2⟩:=h.1 rfl
 have e:y=x:=by
  have e:([d32 y]:List D)=[d32 x]:=Option.some.inj (hk'.symm.trans hk)
  injection e with e1 _
  injection e1 with e1
  injection e1 with _ e1
 subst e
 have hl:=(List.getElem?_eq_some_iff.1 hk).1
 refine ⟨fun h=>Bool.noConfusion h,fun _=>⟨i.toNat,by omega,h2,by rw [nth_1 hk];exact hx,?_⟩⟩
 rw [hr2,hr,h1,show (i+1).toNat-i.toNat=1 by omega]
 congr 1
 rw [List.drop_eq_getElem_cons hl,(List.getElem?_eq_some_iff.1 hk).2]
 rfl
theorem withI.old {l q r:LL} {t i y:Int} {p:Bool} (hr:r=q++[[d32 y]]) (h:withI l t q i p) (hp:¬p=false) (h0:0≤i) (hk:l[i.toNat]?=some [d32 y]):withI l t r (i+1) p:=by
 have hp:p=true:=by simpa using hp
 subst hp
 obtain ⟨a,h1,h2,h3,h4⟩:=h.2 rfl
 refine ⟨fun h=>Bool.noConfusion h,fun _=>⟨a,by omega,h2,h3,?_⟩⟩
 have hl:=(List.getElem?_eq_some_iff.1 hk).1
 rw [hr,h4,List.append_assoc]
 congr 1
 have e:(List.drop a l)[i.toNat-a]?=some [d32 y]:=by rw [List.getElem?_drop,show a+(i.toNat-a)=i.toNat by omega];exact hk
 rw [show (i+1).toNat-a=(i.toNat-a)+1 by omega,List.take_add_one,e]
 rfl
theorem withI.less {l q r:LL} {t i x y:Int} {p:Bool} (hr:r=q++[[d32 y]]) (h:withI l t q i p) (hp:p=false) (h0:0≤i) (hk':l[i.toNat]?=some [d32 y]) (hx:¬x≥t) (hk:l[i.toNat]?=some [d32 x]):withI l t r (i+1) p:=by
 subst hp
 obtain ⟨h1,h2⟩:=h.1 rfl
 refine ⟨fun _=>⟨?_,fun z hz=>?_⟩,fun h=>Bool.noConfusion h⟩
 ·rw [hr,h1,take_succ h0 hk']
 ·by_cases e:z=i.toNat
  ·rw [e,nth_1 hk];omega
  ·exact h2 z (by omega)
theorem withI.fin0 {l q r:LL} {t i:Int} {p:Bool} (hr:r=q++[[d32 t]]) (h:withI l t q i p) (hp:p=false) (hi:¬i<(l.length:Int)) (hi2:i≤(l.length:Int)):withP l t r:=by
 subst hp
 obtain ⟨h1,h2⟩:=h.1 rfl
 have e:i.toNat=l.length:=by omega
 exact ⟨l.length,Nat.le_refl _,by rw [e] at h2;exact h2,fun h=>absurd h (Nat.lt_irrefl _),by rw [hr,h1,e];simp⟩
theorem withI.fin1 {l q:LL} {t i:Int} {p:Bool} (h:withI l t q i p) (hp:¬p=false) (hi:¬i<(l.length:Int)) (hi2:i≤(l.length:Int)):withP l t q:=by
 have hp:p=true:=by simpa using hp
 subst hp
 obtain ⟨a,h1,h2,h3,h4⟩:=h.2 rfl
 have e:i.toNat=l.length:=by omega
 exact ⟨a,by omega,h2,fun _=>h3,by rw [h4,e,List.take_of_length_le (l:=List.drop a l) (by rw [List.length_drop];exact Nat.le_refl _)]⟩
theorem with_no {l:LL} {t i x y:Int} (h:∀ y:Nat,y<l.length→nth l y 0≠t) (h1:x≥t) (hk:l[i.toNat]?=some [d32 x]) (h2:¬y>t) (hk':l[i.toNat]?=some [d32 y]):False:=by
 have e:=(nth_1 hk).symm.trans (nth_1 hk')
 exact h i.toNat (List.getElem?_eq_some_iff.1 hk).1 (by rw [nth_1 hk];omega)
def ofI (e n:Int) (q:LL) (j:Int):Prop:=q.length=j.toNat∧LS [s32] q∧q.Perm (tagsUp e n j)∧∀ a b:Nat,a<b→b<q.length→nth q a 0<nth q b 0
theorem ofI.zero {e n:Int}:ofI e n [] 0:=⟨rfl,ls_nil,by unfold tagsUp;simp,fun a b _ h=>by simp at h⟩
theorem tag_rng' (e n j:Int):0≤tagOf e n j∧tagOf e n j≤4294967295:=by
 have:=stir_bv (BitVec.ofInt 32 (u32 ((e*8+n)*4+j)))
 unfold tagOf
 have h1:ibv (BitVec.ofInt 32 (u32 ((e*8+n)*4+j)))=u32 ((e*8+n)*4+j):=ibv_of (by unfold u32;rw [wrap_u32];omega) (by unfold u32;rw [wrap_u32];omega)
 rw [h1] at this
 rw [this]
 have:=(bvStir (BitVec.ofInt 32 (u32 ((e*8+n)*4+j)))).isLt
 unfold ibv
 omega
theorem ofI.ne {e n j:Int} {q:LL} (h:ofI e n q j) (he:0≤e∧e≤65535) (hn:0≤n∧n≤7) (h0:0≤j) (h4:j<4):∀ x:Nat,x<q.length→nth q x 0≠tagOf e n j:=fun x hx hh=>by
 have hm:=h.2.2.1.mem_iff.1 (List.getElem_mem hx)
 unfold tagsUp at hm
 obtain ⟨k,hk,ek⟩:=List.mem_map.1 hm
 rw [List.mem_range] at hk
 unfold nth at hh
 rw [List.getElem?_eq_getElem hx,←ek] at hh
 have:=tag_inj he hn (i:=(k:Int)) (j:=j) (by omega) (by omega) hh
 omega
theorem tags_succ {e n j:Int} (h0:0≤j):tagsUp e n (j+1)=tagsUp e n j++[[d32 (tagOf e n j)]]:=by
 unfold tagsUp
 rw [show (j+1).toNat=j.toNat+1 by omega,List.range_succ,List.map_append]
 simp [Int.toNat_of_nonneg h0]
theorem ofI.step {e n j:Int} {q r:LL} (h:ofI e n q j) (hw:withP q (tagOf e n j) r) (h0:0≤j) (h4:j<4):ofI e n r (j+1):=by
 obtain ⟨k1,k2,k3,k4⟩:=h
 obtain ⟨a,ha,h1,h2,rfl⟩:=hw
 have ht:=tag_rng' e n j
 have hd:DShs [s32] [d32 (tagOf e n j)]:=by simp only [dshs_cons,dshs_nil,dsh_int,rng32,and_true];exact ht
 have hlen:(q.take a++[[d32 (tagOf e n j)]]++q.drop a).length=(j+1).toNat:=by
  simp only [List.length_append,List.length_take,List.length_drop,List.length_cons,List.length_nil];omega
 refine ⟨hlen, .mk (by rw [hlen];omega) fun c hc=>?_,?_,fun x y hxy hy=>?_⟩
 ·rw [List.mem_append,List.mem_append,List.mem_singleton] at hc
  rcases hc with (hc | rfl) | hc
  ·exact k2.els c (List.mem_of_mem_take hc)
  ·exact hd
  ·exact k2.els c (List.mem_of_mem_drop hc)
 ·rw [tags_succ h0,List.append_assoc]
  have e1:(q.take a++([[d32 (tagOf e n j)]]++q.drop a)).Perm ([[d32 (tagOf e n j)]]++(q.take a++q.drop a)):=by
   rw [←List.append_assoc,←List.append_assoc]
   exact List.Perm.append_right _ List.perm_append_comm
  rw [List.take_append_drop] at e1
  exact e1.trans (List.perm_append_comm.trans (List.Perm.append_right _ k3))
 ·have hg:∀ z:Nat,z<(j+1).toNat→nth (q.take a++[[d32 (tagOf e n j)]]++q.drop a) z 0=if z<a then nth q z 0 else if z=a then tagOf e n j else nth q (z-1) 0:=fun z hz=>by
   unfold nth
   by_cases hza:z<a
   ·rw [if_pos hza,List.append_assoc,List.getElem?_append_left (by rw [List.length_take];omega),List.getElem?_take_of_lt hza]
   ·rw [if_neg hza]
    by_cases hze:z=a
    ·rw [if_pos hze,List.append_assoc,List.getElem?_append_right (by rw [List.length_take];omega),List.length_take,show z-min a q.length=0 by omega]
     rfl
    ·rw [if_neg hze,List.getElem?_append_right (by rw [List.length_append,List.length_take];simp only [List.length_cons,List.length_nil];omega),List.length_append,List.length_take,List.getElem?_drop]
     simp only [List.length_cons,List.length_nil]
     rw [show a+(z-(min a q.length+(0+1)))=z-1 by omega]
  rw [hlen] at hy
  rw [hg x (by omega),hg y hy]
  have hq:q.length=j.toNat:=k1
  by_cases c1:y<a
  ·rw [if_pos (by omega),if_pos c1];exact k4 x y hxy (by omega)
  ·rw [if_neg c1]
   by_cases c2:y=a
   ·rw [if_pos c2,if_pos (by omega)];exact h1 x (by omega)
   ·rw [if_neg c2]
    have hlast:tagOf e n j<nth q (y-1) 0:=by
     have h3:=h2 (by omega)
     by_cases c3:a=y-1
     ·rw [←c3];exact h3
     ·exact Int.lt_trans h3 (k4 a (y-1) (by omega) (by omega))
    by_cases d1:x<a
    ·rw [if_pos d1];exact Int.lt_trans (h1 x d1) hlast
    ·rw [if_neg d1]
     by_cases d2:x=a
     ·rw [if_pos d2];exact hlast
     ·rw [if_neg d2];exact k4 (x-1) (y-1) (by omega) (by omega)
theorem ofI.fin {e n j:Int} {q:LL} (h:ofI e n q j) (hj:j=4):([vl q]:List DV)=[vl (tagsL e n)]:=by
 subst hj
 obtain ⟨k1,k2,k3,k4⟩:=h
 have k1:q.length=4:=k1
 rw [tagsL_eq ⟨by omega,k2⟩ ⟨k1,k3,fun i j hij hj=>Int.le_of_lt (k4 i j hij (by omega))⟩]
theorem of_tag {e n j x6 x7 x8 x9 x10 x11:Int} (h11:x11=stir x10) (h10:x10=IntKind.wrap IntKind.u32 x9) (h9:x9=w64 (x8+j)) (h8:x8=w64 (x6+x7)) (h6:x6=w64 (32*e)) (h7:x7=w64 (4*n)) (he:0≤e∧e≤65535) (hn:0≤n∧n≤7) (h0:0≤j) (h4:j<4):x11=tagOf e n j:=by
 rw [w64_id (by omega) (by omega)] at h6 h7
 subst h6 h7
 rw [w64_id (by omega) (by omega)] at h8
 subst h8
 rw [w64_id (by omega) (by omega)] at h9
 rw [h11,h10,h9]
 unfold tagOf u32
 rw [show 32*e+4*n+j=(e*8+n)*4+j by omega]
theorem ofI.ne' {e n j t:Int} {q:LL} (h:ofI e n q j) (ht:t=tagOf e n j) (he:0≤e∧e≤65535) (hn:0≤n∧n≤7) (h0:0≤j) (h4:j<4):∀ x:Nat,x<q.length→nth q x 0≠t:=ht▸h.ne he hn h0 h4
theorem ofI.step' {e n j t:Int} {q r r':LL} (h:ofI e n q j) (ht:t=tagOf e n j) (hw:withP q t r') (er:r=r') (h0:0≤j) (h4:j<4):ofI e n r (j+1):=er▸h.step (ht▸hw) h0 h4
theorem of_rng {e n j t:Int} (ht:t=tagOf e n j):0≤t∧t≤4294967295:=ht▸tag_rng' e n j
end Go.Vc

namespace Go.Vc
open Classical
abbrev s8:Sh := .int .u8
theorem two_pow_le {a b:Nat} (h:a≤b):(2:Int) ^ a≤2 ^ b:=by exact_mod_cast Nat.pow_le_pow_right (by decide:0<2) h
def bval:LL→Int
 | []=>0
 | c::l=>gI c 0+2*bval l
theorem bval_app {l:LL} {b:Int}:bval (l++[[d8 b]])=bval l+2 ^ l.length*b:=by
 induction l with
 | nil=>show b+2*0=0+2 ^ 0*b;omega
 | cons c l ih =>
  show gI c 0+2*bval (l++[[d8 b]])=gI c 0+2*bval l+2 ^ (l.length+1)*b
  rw [ih,Int.pow_succ,Int.mul_add,←Int.mul_assoc,Int.mul_comm 2 (2 ^ l.length)]
  omega
def bitsP (l:LL):Prop:=(∀ c∈l,∃ b:Int,c=[d8 b]∧(b=0∨b=1))∧(0<l.length→nth l (l.length-1) 0=1)
theorem bits_ls {l:LL} (h:bitsP l) (hl:l.length≤1000):LS [s8] l := .mk (by omega) fun c hc=>by
 obtain ⟨b,rfl,hb⟩:=h.1 c hc
 simp only [dshs_cons,dshs_nil,dsh_int,rng8,and_true]
 omega
theorem bval_rng {l:LL} (h:∀ c∈l,∃ b:Int,c=[d8 b]∧(b=0∨b=1)):0≤bval l∧bval l<2 ^ l.length:=by
 induction l with
 | nil=>exact ⟨Int.le_refl 0,by show (0:Int)<2 ^ 0;omega⟩
 | cons c l ih =>
  obtain ⟨b,rfl,hb⟩:=h c List.mem_cons_self
  obtain ⟨h1,h2⟩:=ih fun d hd=>h d (List.mem_cons_of_mem _ hd)
  show 0≤b+2*bval l∧b+2*bval l<2 ^ (l.length+1)
  rw [Int.pow_succ]
  omega
def bitI (n q0:Int) (l:LL):Prop:=0≤n∧(∀ c∈l,∃ b:Int,c=[d8 b]∧(b=0∨b=1))∧q0=bval l+2 ^ l.length*n∧(n=0→0<l.length→nth l (l.length-1) 0=1)
theorem bitI.zero {n:Int} (h:0≤n):bitI n n []:=⟨h,fun c hc=>(by cases hc),by show n=0+2 ^ 0*n;omega,fun _ h=>by simp at h⟩
theorem bitI.len {n q0:Int} {l:LL} (h:bitI n q0 l) (hn:0<n) (hq:q0≤4294967295):l.length≤31:=by
 obtain ⟨_,h2,h3,_⟩:=h
 have h4:=(bval_rng h2).1
 by_cases hc:l.length≤31
 ·exact hc
 ·exfalso
  have h5:(2:Int) ^ 32≤2 ^ l.length:=two_pow_le (by omega)
  have h7:(2:Int) ^ 32=4294967296:=by decide
  have h6:(2:Int) ^ l.length*1≤2 ^ l.length*n:=Int.mul_le_mul_of_nonneg_left (by omega) (by omega)
  have:(2:Int) ^ 32=4294967296:=by decide
  omega
theorem bitI.step {n q0 b n':Int} {l r:LL} (hr:r=l++[[d8 b]]) (h:bitI n q0 l) (hn:0<n) (hb:b=n % 2) (hn':n'=n / 2):bitI n' q0 r:=by
 obtain ⟨h1,h2,h3,h4⟩:=h
 have hb01:b=0∨b=1:=by omega
 refine ⟨by omega,fun c hc=>?_,?_,fun hz _=>?_⟩
 ·rw [hr,List.mem_append,List.mem_singleton] at hc
  rcases hc with hc | rfl
  ·exact h2 c hc
  ·exact ⟨b,rfl,hb01⟩
 ·rw [hr,bval_app,List.length_append,h3]
  show bval l+2 ^ l.length*n=bval l+2 ^ l.length*b+2 ^ (l.length+1)*n'
  rw [Int.pow_succ,Int.mul_assoc,Int.add_assoc,←Int.mul_add,show b+2*n'=n by omega]
 ·have:b=1:=by omega
  rw [hr]
  unfold nth
  rw [List.length_append,List.getElem?_append_right (by simp)]
  simp [this,gI]
theorem bitI.fin {n q0:Int} {l:LL} (h:bitI n q0 l) (hn:¬n>0):bitsP l∧bval l=q0:=by
 obtain ⟨h1,h2,h3,h4⟩:=h
 have:n=0:=by omega
 subst this
 exact ⟨⟨h2,h4 rfl⟩,by omega⟩
theorem bval_drop {l:LL} {k b:Int} {t:Int} (h0:0≤k) (hk:l[k.toNat]?=some [d8 b]) (ht:t=bval (l.drop (k+1).toNat)):2*t+b=bval (l.drop k.toNat):=by
 have hl:=(List.getElem?_eq_some_iff.1 hk).1
 rw [List.drop_eq_getElem_cons hl,(List.getElem?_eq_some_iff.1 hk).2,ht,show (k+1).toNat=k.toNat+1 by omega]
 show _=b+2*bval _
 omega
theorem bits_rng {l:LL} {k:Nat} (h:bitsP l) (hl:l.length≤32):0≤bval (l.drop k)∧bval (l.drop k)≤4294967295:=by
 have h1:=bval_rng (l:=l.drop k) fun c hc=>h.1 c (List.mem_of_mem_drop hc)
 have h2:(2:Int) ^ (l.drop k).length≤2 ^ 32:=two_pow_le (by rw [List.length_drop];omega)
 have:(2:Int) ^ 32=4294967296:=by decide
 omega
theorem bits_bit {l:LL} {k:Nat} {b:Int} (h:bitsP l) (hk:l[k]?=some [d8 b]):b=0∨b=1:=by
 obtain ⟨b',e,hb⟩:=h.1 _ (List.mem_of_getElem? hk)
 injection e with e _
 injection e with e
 injection e with _ e
 rw [e];exact hb
theorem bits_pos {l:LL} (h:bitsP l) (hl:0<l.length):bval l≠0:=fun hz=>by
 have key:∀ l:LL,(∀ c∈l,∃ b:Int,c=[d8 b]∧(b=0∨b=1))→bval l=0→∀ k:Nat,nth l k 0=0:=fun l=>by
  induction l with
  | nil=>intro _ _ k;unfold nth;simp [gI]
  | cons c l ih =>
   intro hc hv k
   obtain ⟨b,rfl,hb⟩:=hc c List.mem_cons_self
   have hr:=(bval_rng fun d hd=>hc d (List.mem_cons_of_mem _ hd)).1
   have hv:b+2*bval l=0:=hv
   cases k with
   | zero=>show b=0;omega
   | succ k=>exact ih (fun d hd=>hc d (List.mem_cons_of_mem _ hd)) (by omega) k
 have:=key l h.1 hz (l.length-1)
 rw [h.2 hl] at this
 cases this
end Go.Vc

namespace Go.Vc
open Classical
theorem shp8 {x:LL} (h:LS [s8] x):Shp [.int .u8] x:=DSh.shp h
theorem cut_no {l:LL} {k b:Int} (h:bitsP l) (hk:l[k.toNat]?=some [d8 b]) (hb:b=0) (h0:0<l.length) (e:k=(l.length:Int)-1):False:=by
 have:=h.2 h0
 rw [show l.length-1=k.toNat by omega,nth_1 hk] at this
 omega
theorem cut_all {l r:LL} {k:Int} (h:r=List.take (k.toNat-Int.toNat (0:Int)) (List.drop (Int.toNat (0:Int)) l)) (hk:k=(l.length:Int)):r=l:=by
 rw [h,hk]
 simp
theorem cut_fin {l r:LL} {k:Int} (h:r=List.take (k.toNat-Int.toNat (0:Int)) (List.drop (Int.toNat (0:Int)) l)) (hk:k=(l.length:Int)):([vl r]:List DV)=[vl l]:=by rw [cut_all h hk]
def limbI (l:LL) (i:Int) (q:LL):Prop:=(i=0∧q=[])∨(i=32∧0<l.length∧q=[[d32 (bval l)]])
def limbJ (l:LL) (j t:Int):Prop := -1≤j∧j<(l.length:Int)∧t=bval (l.drop (j+1).toNat)
theorem limbI.zero {l:LL}:limbI l 0 [] := .inl ⟨rfl,rfl⟩
theorem limb0 {l q:LL} {i y:Int} (h:limbI l i q) (hi:i<y) (hy:y=(l.length:Int)) (h32:l.length≤32):i=0∧q=[]:=by
 rcases h with h | ⟨h,_⟩
 ·exact h
 ·omega
theorem limbJ.start {l:LL} {x7 x8 x9 x10 i:Int} (h7:x7=(l.length:Int)) (h8:x8=w64 (i+32)) (h9:x9=min x7 x8) (h10:x10=w64 (x9-1)) (hi:i=0) (hl:0<l.length) (h32:l.length≤32):limbJ l x10 0:=by
 subst hi
 rw [w64_id (by omega) (by omega)] at h8
 have e9:x9=(l.length:Int):=by rw [h9,h7,h8];omega
 rw [e9,w64_id (by omega) (by omega)] at h10
 exact ⟨by omega,by omega,by rw [h10,List.drop_of_length_le (by omega)];rfl⟩
theorem limbJ.step {l:LL} {j t b x14 x16 x17 x18:Int} (h18:x18=w64 (j-1)) (h:limbJ l j t) (h17:x17=IntKind.wrap IntKind.u32 (x14+x16)) (h14:x14=IntKind.wrap IntKind.u32 (2*t)) (h16:x16=IntKind.wrap IntKind.u32 b) (hb:bitsP l) (h32:l.length≤32) (hj:j≥0) (hk:l[j.toNat]?=some [d8 b]):limbJ l x18 x17:=by
 obtain ⟨h1,h2,h3⟩:=h
 rw [w64_id (by omega) (by omega)] at h18
 have hd:=bval_drop hj hk h3
 have hr:=bits_rng (k:=j.toNat) hb h32
 have hr2:=bits_rng (k:=(j+1).toNat) hb h32
 have hbit:=bits_bit hb hk
 rw [wrap_u32] at h14 h16 h17
 refine ⟨by omega,by omega,?_⟩
 rw [h18,show (j-1+1).toNat=j.toNat by omega]
 omega
theorem limbI.next {l q r:LL} {i j t x20:Int} (hr:r=q++[[d32 t]]) (h20:x20=w64 (i+32)) (hj:limbJ l j t) (hi:i=0) (hq:q=[]) (hji:¬j≥i) (hl:0<l.length):limbI l x20 r:=by
 subst hi
 rw [w64_id (by omega) (by omega)] at h20
 obtain ⟨h1,h2,h3⟩:=hj
 refine .inr ⟨by omega,hl,?_⟩
 rw [hr,hq,h3,show (j+1).toNat=0 by omega]
 rfl
theorem limbI.fin {l q:LL} {i:Int} (h:limbI l i q) (hi:¬i<(l.length:Int)) (hb:bitsP l):([vl q]:List DV)=[vl (if bval l=0 then [] else [[d32 (bval l)]])]:=by
 rcases h with ⟨h1,h2⟩ | ⟨h1,h2,h3⟩
 ·have:l=[]:=List.length_eq_zero_iff.1 (by omega)
  subst this
  rw [h2,if_pos (show bval []=0 from rfl)]
 ·rw [h3,if_neg (bits_pos hb h2)]
theorem bitI.le {n q0:Int} {l:LL} (h:bitI n q0 l):n≤q0:=by
 obtain ⟨h1,h2,h3,_⟩:=h
 have h4:=(bval_rng h2).1
 have h5:(2:Int) ^ 0≤2 ^ l.length:=two_pow_le (Nat.zero_le _)
 have h6:(1:Int)*n≤2 ^ l.length*n:=Int.mul_le_mul_of_nonneg_right (by omega) h1
 omega
theorem bit_num {n x5 x6:Int} (h6:x6=IntKind.wrap IntKind.u8 x5) (h5:x5=Int.tmod n 2) (hn:0≤n):x6=n % 2:=by
 rw [Int.tmod_eq_emod_of_nonneg hn] at h5
 rw [h6,h5]
 unfold IntKind.wrap
 simp [IntKind.bits,IntKind.signed]
 omega
theorem bit_div {n x8:Int} (h8:x8=IntKind.wrap IntKind.u64 (Int.tdiv n 2)) (hn:0≤n) (hm:n≤4294967295):x8=n / 2:=by
 rw [Int.tdiv_eq_ediv_of_nonneg hn] at h8
 rw [h8,wu64 (by omega) (by omega)]
theorem bits_fin {n q0:Int} {l r:LL} (h:bitI n q0 l) (hn:¬n>0) (hr:r=if bval l=0 then [] else [[d32 (bval l)]]):([vl r]:List DV)=[vl (if q0=0 then [] else [[d32 q0]])]:=by
 rw [hr,(h.fin hn).2]
theorem app_len {l r:LL} {c:List D} (h:r=l++[c]):r.length=l.length+1:=by rw [h];simp
theorem dyr_neg {x0 x2 x3 x4 x5:Int} (h5:x5=IntKind.wrap IntKind.u64 (x4+1)) (h4:x4=IntKind.wrap IntKind.u64 x3) (h3:x3=w64 (0-x2)) (h2:x2=w64 (x0+1)) (h:x0<0) (hv:inV x0):x5 = -x0:=by
 unfold inV at hv
 rw [w64_id (by omega) (by omega)] at h2
 subst h2
 rw [w64_id (by omega) (by omega)] at h3
 subst h3
 rw [wu64 (by omega) (by omega)] at h4
 subst h4
 rw [wu64 (by omega) (by omega)] at h5
 omega
theorem dyr_pos {x0 x7:Int} (h7:x7=IntKind.wrap IntKind.u64 x0) (h:¬x0<0) (hv:inV x0):x7=x0:=by
 unfold inV at hv
 rw [h7,wu64 (by omega) (by omega)]
theorem dyr_n {x0 x5:Int} {l:LL} (hl:l=if x5=0 then [] else [[d32 x5]]) (h5:x5 = -x0) (h:x0<0):[DV.a [db true,D.fs l,dn 0]]=[DV.a [db (decide (x0<0)),D.fs (if x0=0 then [] else [[d32 ((x0.natAbs:Nat):Int)]]),dn 0]]:=by
 rw [hl,if_neg (by omega),if_neg (by omega),decide_eq_true h,show ((x0.natAbs:Nat):Int)=x5 by omega]
theorem dyr_p {x0 x7:Int} {l:LL} (hl:l=if x7=0 then [] else [[d32 x7]]) (h7:x7=x0) (h:¬x0<0):[DV.a [db false,D.fs l,dn 0]]=[DV.a [db (decide (x0<0)),D.fs (if x0=0 then [] else [[d32 ((x0.natAbs:Nat):Int)]]),dn 0]]:=by
 subst h7
 rw [hl,decide_eq_false h,show ((x7.natAbs:Nat):Int)=x7 by omega]
theorem inv1:inV 1:=⟨by omega,by omega⟩
end Go.Vc

namespace Go.Vc
open Classical
theorem rw_row {b d i v k:Int} {f:Bool} (hf:f=decide (i=0)):[dn i,dn v,db true,dn b,dn 0,dn 0,dn 0,dn 0]++begC v f 0 i++[db false,dn 0,dn 0,D.fs [],dn i,dn d,D.fs (List.take d.toNat (bestL (fltD i ([]++fltD i (knownL k))))),D.fs [],D.fs []]=bornC b d i v k:=by
 subst hf
 unfold bornC nbrL
 rw [List.nil_append,flt_flt]
theorem rw_fin {b d i v:Int} {l:LL} (f:Bool) (hf:f=decide (i=0)) (hv:v=nth l i.toNat 0) (h0:0≤i) (hl:i<(l.length:Int)):nodesL b d l l.length i++[[dn i,dn v,db true,dn b,dn 0,dn 0,dn 0,dn 0]++begC v f 0 i++[db false,dn 0,dn 0,D.fs [],dn i,dn d,D.fs (List.take d.toNat (bestL (fltD i ([]++fltD i (knownL (l.length:Int)))))),D.fs [],D.fs []]]=nodesL b d l l.length (i+1):=by
 rw [nodes_yes h0 hl,rw_row hf,hv]
theorem rw_down {b d i:Int} {l q r:LL} (hr:r=q++[downC i]) (hq:q=nodesL b d l l.length i) (h0:0≤i) (hl:(l.length:Int)≤i):r=nodesL b d l l.length (i+1):=by
 rw [hr,hq,nodes_no h0 hl]
theorem rw_seed {i v:Int} {l q r:LL} (hr:r=q++[[dn 0,dn i,dn v]]) (hq:q=seedsL l (min i l.length)) (hv:v=nth l i.toNat 0) (h0:0≤i) (hl:i<(l.length:Int)):r=seedsL l (min (i+1) l.length):=by
 rw [hr,hq,Int.min_eq_left (by omega),Int.min_eq_left (by omega),seeds_succ h0,hv]
theorem rw_seed0 {i:Int} {l q:LL} (hq:q=seedsL l (min i l.length)) (hl:(l.length:Int)≤i):q=seedsL l (min (i+1) l.length):=by
 rw [hq,Int.min_eq_right hl,Int.min_eq_right (by omega)]
theorem beg_sh {v i:Int} {f:Bool} (hv:inV v):DShs partS (begC v f 0 i):=by
 have ht:=(tagsL_ok (e:=0) (n:=i)).1
 unfold inV at hv
 unfold begC massOf
 simp only [List.cons_append,List.nil_append,dshs_cons,dshs_nil,dsh_int,dsh_bool,dsh_sl,rng64,true_and,and_true]
 have h1:∀ w:Int,inV w→(if w=0 then [] else [[d32 ((w.natAbs:Nat):Int)]]:LL).length≤9223372036854775807∧LS [s32] (if w=0 then [] else [[d32 ((w.natAbs:Nat):Int)]]):=fun w hw=>by
  unfold inV at hw
  split
  ·exact ⟨by simp,ls_nil⟩
  ·refine ⟨by simp, .mk (by simp) fun c hc=>?_⟩
   rw [List.mem_singleton] at hc
   rw [hc]
   simp only [dshs_cons,dshs_nil,dsh_int,rng32,and_true]
   omega
 have h2:([[d32 1]]:LL).length≤9223372036854775807∧LS [s32] [[d32 1]]:=⟨by simp, .mk (by simp) fun c hc=>by
  rw [List.mem_singleton] at hc
  rw [hc]
  simp only [dshs_cons,dshs_nil,dsh_int,rng32,and_true]
  omega⟩
 have h3:(if f=true then [[d32 1]] else []:LL).length≤9223372036854775807∧LS [s32] (if f=true then [[d32 1]] else []):=by
  split
  ·exact h2
  ·exact ⟨by simp,ls_nil⟩
 have hz:=h1 v hv
 refine ⟨hz,⟨by omega,by omega⟩,h2,⟨by omega,by omega⟩,h3,⟨by omega,by omega⟩,hz,⟨by omega,by omega⟩,⟨by omega,by omega⟩,⟨by omega,by omega⟩,ht⟩
theorem born_sh {b d i v k:Int} (hp:p_born b d i v k):DShs nodeS (bornC b d i v k)∧limN (bornC b d i v k):=by
 obtain ⟨g1,g2,g3,g4,g5,g7,g8,g9⟩:=hp
 have hls:LS pairS (nbrL i k d):=ls_take (best_ls' (flt_ls (known_ls (by omega))))
 have hln:(nbrL i k d).length≤6:=by unfold nbrL;rw [List.length_take];omega
 have hb:=beg_sh (i:=i) (f:=decide (i=0)) g5
 have ht:=(tagsL_ok (e:=0) (n:=i)).2.1
 refine ⟨?_,?_⟩
 ·unfold begC massOf at hb
  simp only [List.cons_append,List.nil_append,dshs_cons,dshs_nil,dsh_int,dsh_bool,dsh_sl,rng64,true_and,and_true] at hb
  unfold bornC begC massOf
  unfold inV at g5
  simp only [List.cons_append,List.nil_append,dshs_cons,dshs_nil,dsh_int,dsh_bool,dsh_sl,rng64,true_and,and_true]
  obtain ⟨q1,q2,q3,q4,q5,q6,q7,q8,q9,q10,q11⟩:=hb
  repeat' apply And.intro
  all_goals first
   | omega
   | exact ls_nil
   | exact hls
   | exact q1.2
   | exact q1.1
   | exact q3.1
   | exact q3.2
   | exact q5.1
   | exact q5.2
   | exact q11.1
   | exact q11.2
   | exact of_decide_eq_true rfl
 ·have e:∀ w:Int,(if w=0 then [] else [[d32 ((w.natAbs:Nat):Int)]]:LL).length≤1048576:=fun w=>by split <;> simp
  refine ⟨⟨e v,by show (1:Nat)≤1048576;omega,?_,e v,?_⟩,by show (0:Nat)≤1048576;omega,?_,⟨by show (0:Nat)≤1048576;omega,fun c hc=>(by cases hc)⟩,by show (0:Nat)≤1048576;omega⟩
  ·show (if decide (i=0)=true then [[d32 1]] else []:LL).length≤1048576
   split <;> simp
  ·show (tagsL 0 i).length≤1048576
   omega
  ·show (nbrL i k d).length≤1048576
   omega
theorem down_sh {i:Int} (h0:0≤i) (h7:i≤7):DShs nodeS (downC i)∧limN (downC i):=by
 refine ⟨sh_down h0 h7,⟨?_,?_,?_,?_,?_⟩,?_,?_,⟨?_,fun c hc=>(by cases hc)⟩,?_⟩ <;> exact of_decide_eq_true rfl
theorem rw_sh {x0 x1 x2 x3 i:Int} {l n s:LL} (hn:n=nodesL x1 x3 l l.length i) (hs:s=seedsL l (min i l.length)) (h:okW x0 x1 x2 x3 l) (hi:¬i<x0) (hi2:i≤x0) (h1 : -9223372036854775808≤x2∧x2≤9223372036854775807):DShs worldS0 [dn x0,dn x1,dn x2,dn x3,D.fs n,D.fs [],D.fs [],D.fs [],D.fs s,dn 0]∧wLim [dn x0,dn x1,dn x2,dn x3,D.fs n,D.fs [],D.fs [],D.fs [],D.fs s,dn 0]:=by
 have hok:=h
 obtain ⟨⟨a1,a2,a3,a4,a5,a6,a7,a8⟩,a9,a10⟩:=h
 have e:i=x0:=by omega
 subst e
 have hel:∀ c∈n,DShs nodeS c∧limN c:=fun c hc=>by
  rw [hn] at hc
  unfold nodesL at hc
  obtain ⟨k,hk,ek⟩:=List.mem_map.1 hc
  rw [List.mem_range] at hk
  rw [←ek]
  split
  ·rename_i hlt
   have hk2:l[((k:Int)).toNat]?=some (l[k]'(by omega)):=by rw [Int.toNat_natCast,List.getElem?_eq_getElem (by omega)]
   have hv:=a10 k (by omega)
   unfold at_val at hv
   exact born_sh ⟨by omega,by omega,a7,a8,hv,a3,a4,by omega⟩
  ·exact down_sh (by omega) (by omega)
 have hnl:n.length=i.toNat:=by rw [hn,nodes_len]
 have hsl:s.length=(min i (l.length:Int)).toNat:=by rw [hs,seeds_len]
 have hls:LS [s64,s64,s64] s:=by rw [hs];exact seeds_ls hok (by omega)
 refine ⟨?_,⟨by show n.length≤8;omega,fun c hc=>(hel c hc).2⟩,rfl,rfl,rfl,by show s.length≤20;omega⟩
 simp only [dshs_cons,dshs_nil,dsh_int,dsh_sl,rng64,true_and,and_true]
 refine ⟨⟨by omega,by omega⟩,⟨by omega,by omega⟩,h1,⟨by omega,by omega⟩,⟨by omega, .mk (by omega) fun c hc=>(hel c hc).1⟩,⟨by simp,ls_nil⟩,⟨by simp,ls_nil⟩,⟨by simp,ls_nil⟩,⟨by omega,hls⟩,⟨by omega,by omega⟩⟩
theorem rw_end {x0 x1 x2 x3 i:Int} {l n s:LL} (hn:n=nodesL x1 x3 l l.length i) (hs:s=seedsL l (min i l.length)) (h:okW x0 x1 x2 x3 l) (hi:¬i<x0) (hi2:i≤x0):[DV.a [dn x0,dn x1,dn x2,dn x3,D.fs n,D.fs [],D.fs [],D.fs [],D.fs s,dn 0],vn 0]=m_world x0 x1 x2 x3 l:=by
 have e:i=x0:=by omega
 unfold m_world
 rw [if_pos h,hn,hs,e,Int.min_eq_right h.2.1]
 rfl
theorem oth_ls {own k:Int} (h:k≤20):LS pairS (fltD own (knownL k)):=flt_ls (known_ls (by omega))
theorem oth_ln {own k:Int} (h:k≤20):(fltD own (knownL k)).length≤20:=by
 have:=flt_klen (rfl:fltD own (knownL k)=fltD own (knownL k));omega
theorem oth_le {own k:Int} {m:Nat} (h:k≤20) (hm:20≤m):(fltD own (knownL k)).length≤m:=Nat.le_trans (oth_ln h) hm
theorem oth_le0 {own k:Int} {m:Nat} (h:k≤20) (hm:20≤m):([]:LL).length+(fltD own (knownL k)).length≤m:=by
 have:=oth_ln (own:=own) h
 simp only [List.length_nil];omega
end Go.Vc

namespace Go.Vc
open Classical
def eqD (a b:List D):Prop:=a=b
def eqQ (a b:LL):Prop:=a=b
theorem eqD_at {l:LL} {k:Nat} {c d:List D} (h2:l[k]?=some d) (h1:l[k]?=some c):eqD c d:=Option.some.inj (h1.symm.trans h2)
theorem eqD_tl {l:LL} {k:Nat} {x y:D} {c d:List D} (h2:l[k]?=some (y::d)) (h1:l[k]?=some (x::c)):eqD c d:=by
 have e:=Option.some.inj (h1.symm.trans h2)
 injection e
theorem eqD_rf (a:List D):eqD a a:=rfl
theorem eqQ_rf (a:LL):eqQ a a:=rfl
end Go.Vc

namespace Go.Vc
open Classical
theorem mw_sh {x0 x1 x2 x3 x:Int} {l:LL} {cs:List D} (h:[DV.a cs,vn x]=m_world x0 x1 x2 x3 l) (h1 : -9223372036854775808≤x2∧x2≤9223372036854775807):DShs worldS0 cs∧wLim cs:=by
 unfold m_world at h
 by_cases hk:okW x0 x1 x2 x3 l
 ·rw [if_pos hk] at h
  injection h with h _
  injection h with h
  rw [h]
  exact rw_sh (i:=x0) rfl (by rw [Int.min_eq_right hk.2.1]) hk (by omega) (by omega) h1
 ·rw [if_neg hk] at h
  injection h with h _
  injection h with h
  rw [h]
  unfold confC
  refine ⟨?_,⟨of_decide_eq_true rfl,fun d hd=>(by cases hd)⟩,rfl,rfl,rfl,of_decide_eq_true rfl⟩
  simp only [List.cons_append,List.nil_append,dshs_cons,dshs_nil,dsh_int,dsh_sl,rng64,true_and,and_true]
  refine ⟨⟨by omega,by omega⟩,⟨by omega,by omega⟩,⟨by omega,by omega⟩,⟨by omega,by omega⟩,⟨by simp,ls_nil⟩,⟨by simp,ls_nil⟩,⟨by simp,ls_nil⟩,⟨by simp,ls_nil⟩,⟨by simp,ls_nil⟩,⟨by omega,by omega⟩⟩
theorem mw_eq {x0 x1 x2 x3 x y:Int} {l:LL} {c d:List D} (h:[DV.a c,vn x]=m_world x0 x1 x2 x3 l) (h2:[DV.a d,vn y]=m_world x0 x1 x2 x3 l):eqD c d∧x=y:=by
 have e:=h.trans h2.symm
 injection e with e1 e2
 injection e1 with e1
 injection e2 with e2
 injection e2 with e2
 injection e2 with e2
 injection e2 with _ e2
 exact ⟨e1,e2⟩
theorem nil_eq {l2 l5:LL} (h:l5=[]++l2):l2=l5:=by rw [h];rfl
theorem ne_no {l:LL} {k:Nat} {x y:Int} (h:x≠y) (h2:l[k]?=some [dn y]) (h1:l[k]?=some [dn x]):False:=h ((nth_1 h1).symm.trans (nth_1 h2))
end Go.Vc

namespace Go.Vc
open Classical
def f_epochCheck (aa:List DV):List DV:=[vn (if p_clock (ai aa 0) then 0 else 8)]
def t_epochCheck:ConT:=⟨[rkS clockS],[kn],fun aa=>DShs clockS (ai aa 0),fun aa rs=>rs=f_epochCheck aa⟩
theorem fn_epochCheck:∀ aa,t_epochCheck.pre aa→∀ rs,t_epochCheck.post aa rs→rs=f_epochCheck aa:=fun _ _ _ h=>h
def V_epochCheck:Prop:=∀ (x0 x1 x2 x3 x4:Int),Ob (DShs clockS [dn x0,dn x1,dn x2,dn x3,dn x4])→∀ (R:List DV→Prop),Ob (∀ (res:List DV),res=[vn (if p_clock [dn x0,dn x1,dn x2,dn x3,dn x4] then (0:Int) else (8:Int))]→R res)→(x0<(1:Int)→Ob (R [vn (8:Int)]))∧(¬x0<(1:Int)→(x0>(64:Int)→Ob (R [vn (8:Int)]))∧(¬x0>(64:Int)→(x2<(0:Int)→Ob (R [vn (8:Int)]))∧(¬x2<(0:Int)→(x2>x1→Ob (R [vn (8:Int)]))∧(¬x2>x1→(x1>(2147483647:Int)→Ob (R [vn (8:Int)]))∧(¬x1>(2147483647:Int)→(x3<(0:Int)→Ob (R [vn (8:Int)]))∧(¬x3<(0:Int)→(x3>(65535:Int)→Ob (R [vn (8:Int)]))∧(¬x3>(65535:Int)→(x4<(0:Int)→Ob (R [vn (8:Int)]))∧(¬x4<(0:Int)→(x4>(65536:Int)→Ob (R [vn (8:Int)]))∧(¬x4>(65536:Int)→∀ (x6:Int),x6=w64 (x1-x2)→(x6≥x0→(x3≠(65535:Int)→Ob (R [vn (8:Int)]))∧(¬x3≠(65535:Int)→Ob (R [vn (0:Int)])))∧(¬x6≥x0→Ob (R [vn (0:Int)])))))))))))
set_option maxRecDepth 100000 in
theorem vcEq_epochCheck:vcFn Go.Proofs.Tryz.prog k0 (cxf [] [] [] []) 3000 109 Go.Proofs.Tryz.f109 (bodyOf Go.Proofs.Tryz.f109) t_epochCheck=V_epochCheck:=by kernel_rfl
set_option maxHeartbeats 4000000 in
set_option maxRecDepth 20000 in
theorem vcPf_epochCheck:V_epochCheck:=by
  delta V_epochCheck
  simp only [ob_iff,and_imp,List.cons_append,List.nil_append,dshs_cons,dshs_nil,dsh_int,dsh_bool,dsh_sl,rng64,rng32,true_and,and_true,List.cons.injEq,DV.c.injEq,DV.a.injEq,D.raw.injEq,D.fs.injEq,Value.bool.injEq,Value.int.injEq]
  repeat' first | assumption | exact DShs.tail (DSh_nth (by assumption) (by assumption)) | exact shp32 (by assumption) | exact shp64 (by assumption) | exact shp2 (by assumption) | exact shpF (by assumption) | with_reducible intro _ | with_reducible apply And.intro
  all_goals (try (have e:=w64_id' ‹_=w64 (_-_)› (by omega) (by omega);subst e))
  all_goals first
    | assumption
    | omega
    | (apply ‹∀ res:List DV,_=_→_›;simp [p_clock,gI];try omega)
theorem con_epochCheck:Con Go.Proofs.Tryz.prog k0 109 t_epochCheck :=
  con_of (cxf_ok mixOk (fun p hp=>by cases hp) (fun p hp=>by cases hp)) Go.Proofs.Tryz.func109 rfl rfl rfl rfl vcEq_epochCheck vcPf_epochCheck
end Go.Vc
