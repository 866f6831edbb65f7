import Derived.Test.YtneooimijbfmgaaGreatSsAG
set_option linter.unusedVariables false
set_option linter.unusedSimpArgs false
set_option linter.unusedSectionVars false
noncomputable section
namespace Go.Vc
section
variable [Holes]
section
variable {P:Program} {K:Nat→Option (List Value)} {b:Bs} {F F0:Nat→Prop} {B0:Nat} {σ τ:Env} {m:Mem} {Y:T YRow} {w w1:World} {ρ ρ':Rho} {i:Nat}
theorem RD.one {d:D} {v:Value} (h:RD F w d v):v.oneCell'=true:=by cases h <;> first | assumption | rfl
theorem Ads {z tx e:Nat} (hk:P.underlying tx=some (.slice e)) (a:Option Addr) (c:Nat):Src P z tx (.slice a 0 c) 0 [] w:=by
 cases a with
 | none=>exact Src.ofNil w hk c
 | some a=>exact Src.ofSlice w hk a 0 c [] (by simp) (fun j u hj=>by simp at hj) (fun u hu=>by cases hu)
theorem Avf {t:Nat} (h:isSl P t=true):∃ e,P.underlying t=some (.slice e):=by
 unfold isSl at h
 split at h
 ·rename_i e he;exact ⟨e,he⟩
 ·cases h
theorem Alm {z t j:Nat} {own:Bool} {x:W} (h:symS Y x=some (own,j)) (ht:isSl P t=true) (hz:0<z) (hA:SymAg ρ σ Y) (hF:YRel F F0 B0 σ m Y w) (hr:Rect z (ρ.d j)) :
  ∃ news,Src P z t (realW σ x) (ρ.d j).length news w∧Rows (Fo F B0 own) w z news (ρ.d j):=by
 obtain ⟨e,he⟩:=Avf ht
 unfold symS at h
 split at h
 ·rename_i i
  split at h
  ·rename_i own' c j' hi
   cases h
   obtain ⟨_,hrd,_⟩:=(hF.row i _ hi).2
   have hag:σ.r.d j=ρ.d j:=hA i _ hi
   rw [hag] at hrd
   have hre:realW σ (.v (.c (.fz i)))=σ.v i:=by
    obtain ⟨a,c,hv⟩:=hrd.slice
    show realC σ (.fz i)=_
    simp only [realC,hv]
   rw [hre]
   generalize hv:σ.v i=v at hrd
   generalize hl:ρ.d j=l at hrd hr
   cases hrd with
   | nil a c=>exact ⟨[],Ads he a c,fun q cs hq=>by simp at hq⟩
   | fs l gb o c' z' vs h0' hz' hc hFb hll ha hd =>
    obtain ⟨cs0,hcs0⟩:∃ cs0,l[0]?=some cs0:=⟨_,List.getElem?_eq_getElem (by cases l with | nil=>exact absurd rfl h0' | cons=>simp)⟩
    have hzz:z'=z:=(hll 0 cs0 hcs0).symm.trans (hr cs0 (List.mem_of_getElem? hcs0))
    subst hzz
    have hget:∀ q,q<l.length*z'→((List.range (l.length*z')).map fun q=>vs (q / z') (q % z'))[q]?=some (vs (q / z') (q % z')):=fun q hq=>by
     rw [List.getElem?_map,List.getElem?_range hq];rfl
    have hin:∀ q,q<l.length*z'→∃ cs d,l[q / z']?=some cs∧cs[q % z']?=some d:=fun q hq=>by
     have h1:q / z'<l.length:=Nat.div_lt_of_lt_mul (by rw [Nat.mul_comm];exact hq)
     have h2:q % z'<(l[q / z']).length:=by rw [hll _ _ (List.getElem?_eq_getElem h1)];exact Nat.mod_lt _ hz'
     exact ⟨_,_,List.getElem?_eq_getElem h1,List.getElem?_eq_getElem h2⟩
    refine ⟨(List.range (l.length*z')).map fun q=>vs (q / z') (q % z'),Src.ofSlice w he _ _ _ _ (by simp) (fun q u hq=>?_) (fun u hu=>?_),fun q cs hq=>⟨hll q cs hq,fun p d hp=>?_⟩⟩
    ·have hlt:q<l.length*z':=by have:=(List.getElem?_eq_some_iff.1 hq).1;simpa using this
     rw [hget q hlt] at hq
     cases hq
     obtain ⟨cs,d,h1,h2⟩:=hin q hlt
     have:=ha _ _ cs d h1 h2
     rw [Ax,←this]
     congr 2
     have:=Nat.div_add_mod q z'
     rw [Nat.mul_comm] at this
     omega
    ·obtain ⟨q,hq⟩:=List.mem_iff_getElem?.1 hu
     have hlt:q<l.length*z':=by have:=(List.getElem?_eq_some_iff.1 hq).1;simpa using this
     rw [hget q hlt] at hq
     cases hq
     obtain ⟨cs,d,h1,h2⟩:=hin q hlt
     exact (hd _ _ cs d h1 h2).one
    ·have hp1:p<z':=by have:=(List.getElem?_eq_some_iff.1 hp).1;rw [hll q cs hq] at this;exact this
     have hlt:q*z'+p<l.length*z':=Dk (List.getElem?_eq_some_iff.1 hq).1 hp1
     refine ⟨_,hget _ hlt,?_⟩
     rw [show (q*z'+p) / z'=q by rw [Nat.add_comm,Nat.add_mul_div_right _ _ hz',Nat.div_eq_of_lt hp1,Nat.zero_add],show (q*z'+p) % z'=p by rw [Nat.add_comm,Nat.add_mul_mod_self_right,Nat.mod_eq_of_lt hp1]]
     exact hd q p cs d hq hp
  ·rename_i e1 z1 own' j' hi
   cases h
   obtain ⟨_,hz1,a,c,hv,hc⟩:=(hF.row i _ hi).2
   have hag:σ.r.d j=ρ.d j:=hA i _ hi
   rw [hag] at hv hc
   have hre:realW σ (.v (.c (.fz i))) = .slice a (ρ.d j).length c:=by
    show realC σ (.fz i)=_
    simp only [realC,hv]
   rw [hre]
   rcases hc with ⟨_,hl⟩ | ⟨rfl,hc0,arr,h1,h2,h3,h4⟩
   ·rw [hl];exact ⟨[],Ads he a c,fun q cs hq=>by simp at hq⟩
   ·by_cases hl0:ρ.d j=[]
    ·rw [hl0];exact ⟨[],Ads he _ c,fun q cs hq=>by simp at hq⟩
    ·obtain ⟨cs0,hcs0⟩:∃ cs0,(ρ.d j)[0]?=some cs0:=⟨_,List.getElem?_eq_getElem (List.length_pos_iff.2 hl0)⟩
     have hzz:z1=z:=(h4 0 cs0 hcs0).1.symm.trans (hr cs0 (List.mem_of_getElem? hcs0))
     subst hzz
     have hle:(ρ.d j).length*z1≤arr.size:=Nat.le_trans (Nat.mul_le_mul_right z1 h3) h2
     have hget:∀ q,q<(ρ.d j).length*z1→(arr.toList.take ((ρ.d j).length*z1))[q]?=arr[q]?:=fun q hq=>by
      rw [List.getElem?_take,if_pos hq,Array.getElem?_toList]
     refine ⟨arr.toList.take ((ρ.d j).length*z1),Src.ofSlice w he _ _ _ _ (by simp;omega) (fun q u hq=>?_) (fun u hu=>?_),fun q cs hq=>⟨(h4 q cs hq).1,fun p d hp=>?_⟩⟩
     ·have hlt:q<(ρ.d j).length*z1:=by have:=(List.getElem?_eq_some_iff.1 hq).1;simp at this;omega
      rw [hget q hlt] at hq
      rw [Ax,Nat.zero_add]
      simp [World.cell?,h1,hq]
     ·obtain ⟨q,hq⟩:=List.mem_iff_getElem?.1 hu
      have hlt:q<(ρ.d j).length*z1:=by have:=(List.getElem?_eq_some_iff.1 hq).1;simp at this;omega
      rw [hget q hlt] at hq
      have e1:q / z1<(ρ.d j).length:=Nat.div_lt_of_lt_mul (by rw [Nat.mul_comm];exact hlt)
      obtain ⟨h5,h6⟩:=h4 _ _ (List.getElem?_eq_getElem e1)
      obtain ⟨u',h7,h8⟩:=h6 (q % z1) _ (List.getElem?_eq_getElem (by rw [h5];exact Nat.mod_lt _ hz1))
      have:q / z1*z1+q % z1=q:=by have:=Nat.div_add_mod q z1;rw [Nat.mul_comm] at this;omega
      rw [this,hq] at h7
      cases h7
      exact h8.one
     ·obtain ⟨h5,h6⟩:=h4 q cs hq
      obtain ⟨u,h7,h8⟩:=h6 p d hp
      have hlt:q*z1+p<(ρ.d j).length*z1:=Dk (List.getElem?_eq_some_iff.1 hq).1 (by have:=(List.getElem?_eq_some_iff.1 hp).1;omega)
      exact ⟨u,by rw [hget _ hlt];exact h7,h8⟩
  ·cases h
 ·cases h
theorem Hn {own:Bool} {ks:List Kd} {z:Nat} (hks:ks.length=z) (hA:SymAg ρ σ Y) (hF:YRel F F0 B0 σ m Y w):∀ (n:Nat) (cs:List C) (l:List (List D)),outRows Y ρ own ks (chunk z n cs)=some l→cs.length=n*z→l.length=n∧Rows (Fo F B0 own) w z (cs.map (realC σ)) l
 | 0,cs,l,h,hl=>by cases h;exact ⟨rfl,fun q c hq=>by simp at hq⟩
 | n+1,cs,l,h,hl=>by
  have h':(match outCs Y ρ own ks (cs.take z),outRows Y ρ own ks (chunk z n (cs.drop z)) with | some ds,some dss=>some (ds::dss) | _,_=>none)=some l:=h
  split at h'
  ·rename_i ds dss hd hdd
   cases h'
   have hz:z≤cs.length:=by rw [hl,Nat.add_mul];omega
   obtain ⟨h1,h2⟩:=Ho hA hF _ _ _ hd
   obtain ⟨h3,h4⟩:=Hn hks hA hF n (cs.drop z) dss hdd (by rw [List.length_drop,hl,Nat.add_mul];omega)
   refine ⟨by simp [h3],fun q c hq=>?_⟩
   cases q with
   | zero =>
    simp at hq
    subst hq
    refine ⟨by rw [Mb h1,hks],fun p d hp=>?_⟩
    have hpz:p<z:=by have:=(List.getElem?_eq_some_iff.1 hp).1;rw [Mb h1,hks] at this;exact this
    have hlt:p<cs.length:=by omega
    refine ⟨realC σ cs[p],by rw [Nat.zero_mul,Nat.zero_add,List.getElem?_map,List.getElem?_eq_getElem hlt];rfl,h2.2 p d _ hp ?_⟩
    rw [List.getElem?_map,List.getElem?_take,if_pos hpz,List.getElem?_eq_getElem hlt];rfl
   | succ q =>
    obtain ⟨h5,h6⟩:=h4 q c (by simpa using hq)
    refine ⟨h5,fun p d hp=>?_⟩
    obtain ⟨v,h7,h8⟩:=h6 p d hp
    refine ⟨v,?_,h8⟩
    rw [←h7,List.getElem?_map,List.getElem?_map,List.getElem?_drop]
    congr 2
    rw [Nat.add_mul];omega
  ·cases h'
theorem Xv {z t:Nat} {x:W} {s:SrcI} {ks:List Kd} {l:List (List D)} {own:Bool} {p:Prop} (hs:srcA P m Y z t x=some s) (hd:srcD Y ρ ks z s=some (l,own,p)) (hp:p) (hz:0<z) (hks:ks.length=z) (hR:Rel K σ m w) (hA:SymAg ρ σ Y) (hF:YRel F F0 B0 σ m Y w) :
  ∃ news,Src P z t (realW σ x) l.length news w∧Rows (Fo F B0 own) w z news l:=by
 unfold srcA at hs
 split at hs
 ·rename_i own' j hj
  cases ht:isSl P t with
  | false=>rw [ht] at hs;cases hs
  | true =>
   rw [ht] at hs
   cases hs
   have hd:(match !own' && flatK ks with
    | true=>some (ρ.d j,true,Shp ks (ρ.d j))
    | false=>some (ρ.d j,own',Rect z (ρ.d j)))=some (l,own,p):=hd
   split at hd
   ·rename_i hfl
    cases hd
    rw [Bool.and_eq_true] at hfl
    have hp:Shp ks (ρ.d j):=hp
    obtain ⟨news,h1,h2⟩:=Alm hj ht hz hA hF (fun cs hc=>by rw [←hks];exact Mb (hp cs hc))
    refine ⟨news,h1,fun q cs hq=>?_⟩
    obtain ⟨h3,h4⟩:=h2 q cs hq
    refine ⟨h3,fun i d hi=>?_⟩
    obtain ⟨v,h5,h6⟩:=h4 i d hi
    refine ⟨v,h5,?_⟩
    have key:∀ (ks:List Kd) (cs:List D),flatK ks=true→DKs ks cs→∀ d∈cs,∃ u,d = .raw u:=fun ks=>by
     induction ks with
     | nil=>intro cs _ h d hd;cases h;cases hd
     | cons k ks ih =>
      intro cs hf h d hd
      cases h with
      | cons h1 h2 =>
      unfold flatK at hf
      rw [List.all_cons,Bool.and_eq_true] at hf
      rcases List.mem_cons.1 hd with rfl | hd
      ·cases h1 <;> first | exact ⟨_,rfl⟩ | (cases hf.1)
      ·exact ih _ hf.2 h2 d hd
    obtain ⟨u,rfl⟩:=key ks cs hfl.2 (hp cs (List.mem_of_getElem? hq)) d (List.mem_of_getElem? hi)
    cases h6 with
    | raw _ h=>exact .raw _ h
   ·cases hd
    exact Alm hj ht hz hA hF hp
 ·split at hs
  ·rename_i n cs hw
   cases hs
   obtain ⟨h1,h2,h3⟩:=Alz hR hw
   have hl:cs.length=n*z:=by have:=h1.newsLen;simpa using this
   have key:∀ own,outRows Y ρ own ks (chunk z n cs)=some l→∃ news,Src P z t (realW σ x) l.length news w∧Rows (Fo F B0 own) w z news l:=fun own ho=>by
    obtain ⟨h4,h5⟩:=Hn hks hA hF n cs l ho hl
    exact ⟨_,by rw [h4];exact h1,h5⟩
   have hd':(match outRows Y ρ true ks (chunk z n cs) with
    | some l=>some (l,true,True)
    | none=>match outRows Y ρ false ks (chunk z n cs) with
     | some l=>some (l,false,True)
     | none=>none)=some (l,own,p):=hd
   split at hd'
   ·rename_i l' ho;cases hd';exact key true ho
   ·split at hd'
    ·rename_i l' ho;cases hd';exact key false ho
    ·cases hd'
  ·cases hs
theorem Rows.mono {F':Nat→Prop} {z:Nat} {news:List Value} {l:List (List D)} (h:Rows F w z news l) (hF:∀ g,F g→F' g):Rows F' w z news l:=fun q cs hq=>by
 obtain ⟨h1,h2⟩:=h q cs hq
 refine ⟨h1,fun p d hp=>?_⟩
 obtain ⟨v,h3,h4⟩:=h2 p d hp
 exact ⟨v,h3,h4.keep hF fun _ _ _ _ h=>h⟩
end
end
end Go.Vc

namespace Go.Vc
structure AppI where
 e:Nat
 z:Nat
 ks:List Kd
 own:Bool
 d:Option (Nat×Nat)
 src:SrcI
def appA (P:Program) (m:Mem) (Y:T YRow) (tm:Tm) (t u:TypeId) (s x:Operand):Option AppI:=match sliceTy P t with
 | some (e,z)=>match kindsOf P e with
  | some ks=>bif Nat.blt 0 z && Nat.beq ks.length z && zeroIs P e z && Nat.ble (Nat.mul 1048576 (bytes? P e)) 140737488355328 then match dstA Y e z (ev tm s),srcA P m Y z u (ev tm x) with
    | some (own,d),some src=>some ⟨e,z,ks,own,d,src⟩
    | _,_=>none
   else none
  | none=>none
 | none=>none
section
variable [H:Holes] {P:Program} {K:Nat→Option (List Value)} {s s':St} {ρ ρ':Rho} {Q:Post}
theorem Vx {F:Nat→Prop} {B0:Nat} {o1 o2:Bool} (g:Nat):(Fo F B0 o1 g→Fo F B0 (o1 && o2) g)∧(Fo F B0 o2 g→Fo F B0 (o1 && o2) g):=by
 cases o1 <;> cases o2 <;> simp [Fo] <;> (try exact fun h _=>h)
theorem OdV.mono {F F':Nat→Prop} {w:World} {e z g:Nat} {l:List (List D)} {v:Value} (h:OdV F w e z l g v) (hF:∀ g,F g→F' g):OdV F' w e z l g v:=by
 obtain ⟨h1,a,c,h2,h3⟩:=h
 refine ⟨h1,a,c,h2,?_⟩
 rcases h3 with h3 | ⟨h3,h4,arr,h5,h6,h7,h8⟩
 ·exact .inl h3
 ·refine .inr ⟨h3,h4,arr,h5,h6,h7,fun q cs hq=>?_⟩
  obtain ⟨h9,h10⟩:=h8 q cs hq
  refine ⟨h9,fun p d hp=>?_⟩
  obtain ⟨v,h11,h12⟩:=h10 p d hp
  exact ⟨v,h11,h12.keep hF fun _ _ _ _ h=>h⟩
theorem Aw0 {all:Array Oper} {o:Oper} {l:List Oper} {c:Call} {t u:TypeId} {s0 x0:Operand} {i:AppI} {l2:List (List D)} {own2:Bool} {p:Prop} (hc:s.cur = .ops all (o::l)) (hop:openB all s.tm o=false) (hw:wantW all s.tm o=true)
  (ho:o.op = .call c) (hcal:c.callee = .builtin .append) (hts:c.argTypes.toList=[t,u]) (hxs:c.args.toList=[s0,x0]) (ha:appA P s.m s.Y s.tm t u s0 x0=some i) (hd:srcD s.Y ρ i.ks i.z i.src=some (l2,own2,p)) (hp:p) (hlen:(dat1 ρ i.d).length+l2.length≤1048576)
  (hput:putY s all o l (one (.fz (Nat.succ s.m.nx))) (s.m.up (Nat.succ (Nat.succ s.m.nx))) ((killY s.Y i.d).set (Nat.succ s.m.nx) (.od i.e i.z (i.own && own2) s.m.nx))=some s') (k:∀ x,x=dat1 ρ i.d++l2→Sx P K s' (ρ.setD s.m.nx x) Q):Sx P K s ρ Q:=by
 refine Fd hc hop hw (fun c' hc'=>by rw [hc'] at ho;cases ho) fun F hF n b hB Qw hQ σ a w hA=>?_
 have hts:c.argTypes=#[t,u]:=Array.ext' hts
 have hxs:c.args=#[s0,x0]:=Array.ext' hxs
 unfold execOp
 simp only [ho]
 unfold resolve
 simp only [hcal,hts,hxs]
 rw [show (#[s0,x0].map a.eval)=#[realW σ (ev s.tm s0),realW σ (ev s.tm x0)] by simp [(hA.tm.ev a.defers s0).1,(hA.tm.ev a.defers x0).1]]
 show Und F P _ ((do pure (.value (←Builtin.append_ #[t,u] o.type #[realW σ (ev s.tm s0),realW σ (ev s.tm x0)])):Sem Next).run P w)
 obtain ⟨G,hG⟩:=hA.aw.y
 unfold appA at ha
 split at ha
 ·rename_i e z hty
  obtain ⟨hu,hsz⟩:=As hty
  split at ha
  ·rename_i ks hks
   obtain ⟨hcc,ha⟩:(Nat.blt 0 z && Nat.beq ks.length z && zeroIs P e z && Nat.ble (Nat.mul 1048576 (bytes? P e)) 140737488355328)=true∧_=some i:=by
    cases hq:(Nat.blt 0 z && Nat.beq ks.length z && zeroIs P e z && Nat.ble (Nat.mul 1048576 (bytes? P e)) 140737488355328) with
    | false=>rw [hq] at ha;cases ha
    | true=>rw [hq] at ha;exact ⟨rfl,ha⟩
   simp only [Bool.and_eq_true] at hcc
   obtain ⟨⟨⟨c1,c2⟩,c3⟩,c4⟩:=hcc
   have c1:0<z:=Nat.le_of_ble_eq_true c1
   have c2:=Nat.eq_of_beq_eq_true c2
   have c4:1048576*bytes? P e≤140737488355328:=Nat.le_of_ble_eq_true c4
   split at ha
   ·rename_i own d src hdst hsrc
    cases ha
    dsimp only at hd hlen hput k
    obtain ⟨news,hs1,hs2⟩:=Xv hsrc hd hp c1 c2 hA.aw.rel hA.aw.ag hG
    -- where it goes to
    obtain ⟨g,hv,hdead⟩:∃ g,OdV (Fo G b.wB.heap.size own) w e z (dat1 ρ d) g (realW σ (ev s.tm s0))∧(liveV (realW σ (ev s.tm s0))→∃ i j,d=some (i,j)∧s.Y.get i=some (.od e z own j)∧live σ i∧σ.b i=g):=by
     unfold dstA at hdst
     split at hdst
     ·rename_i he
      cases hdst
      rw [he]
      exact ⟨0,⟨c1,none,0,rfl, .inl ⟨rfl,rfl⟩⟩,fun ⟨_,_,_,hq,hlt⟩=>by cases hq;omega⟩
     ·rename_i r0 o0 z0 he
      cases hdst
      rw [he]
      exact ⟨0,⟨c1,_,0,rfl, .inl ⟨rfl,rfl⟩⟩,fun ⟨_,_,_,hq,hlt⟩=>by cases hq;omega⟩
     ·rename_i q he
      rw [he]
      split at hdst
      ·rename_i ow j hi
       cases hdst
       obtain ⟨_,_,h3,h4⟩:=(hG.row q _ hi).2
       obtain ⟨a',k',hv'⟩:=h3 (by decide)
       have hd0:=h4 rfl
       have hre:realW σ (.v (.c (.fz q))) = .slice a' k' k':=by
        show realC σ (.fz q)=_
        simp only [realC,hv']
       have hk0:k'=0:=by
        have hrd:=(hG.row q _ hi).2.2.1
        obtain ⟨a2,c2',hv2⟩:=hrd.slice
        rw [hv'] at hv2
        cases hv2
        rw [hd0];rfl
       subst hk0
       rw [hre]
       exact ⟨0,⟨c1,a',0,rfl, .inl ⟨rfl,rfl⟩⟩,fun ⟨_,_,_,hq,hlt⟩=>by cases hq;omega⟩
      ·rename_i e' z' ow j hi
       obtain ⟨hq1,hq2⟩:=Aj hdst
       simp only [Bool.and_eq_true] at hq1
       have e1:=Nat.eq_of_beq_eq_true hq1.1
       have e2:=Nat.eq_of_beq_eq_true hq1.2
       subst e1;subst e2
       cases hq2
       obtain ⟨_,hz1,a',c',hv',hc'⟩:=(hG.row q _ hi).2
       have hag:σ.r.d j=ρ.d j:=hA.aw.ag q _ hi
       rw [hag] at hv' hc'
       have hre:realW σ (.v (.c (.fz q))) = .slice a' (ρ.d j).length c':=by
        show realC σ (.fz q)=_
        simp only [realC,hv']
       rw [hre]
       exact ⟨σ.b q,⟨hz1,a',c',rfl,hc'⟩,fun ⟨a2,n2,c2',hq,hlt⟩=>⟨q,j,rfl,hi,⟨a',_,c',hv',by cases hq;exact hlt⟩,rfl⟩⟩
      ·cases hdst
     ·cases hdst
    have hdead2:liveV (realW σ (ev s.tm s0))→g<w.heap.size∧b.wB.heap.size≤g∧¬G g∧(∀ q r,s.m.S.get q=some r→r.blk=true→σ.b q≠g)∧∀ q,w.heap[g]?≠some (.deferred q):=fun hl=>by
     obtain ⟨q,j,rfl,hi,hli,rfl⟩:=hdead hl
     obtain ⟨h1,h2,h3,h4⟩:=hG.od q _ _ _ _ hi hli
     refine ⟨h1,h2,h3,h4,fun qq hqq=>?_⟩
     obtain ⟨_,a',c',hv',hc'⟩:=hv
     obtain ⟨a2,n2,c2',hq2,hlt2⟩:=hl
     rw [hv'] at hq2;cases hq2
     rcases hc' with ⟨h5,_⟩ | ⟨_,_,arr,h5,_⟩
     ·omega
     ·rw [h5] at hqq;cases hqq
    obtain ⟨v',w',g',r1,r2,r3,r4,r5⟩:=Ac4 (F:=Fo G b.wB.heap.size (own && own2)) (ty:=o.type) hu hsz c3 (hv.mono fun g hg=>(Vx g).1 hg) hs1 rfl (hs2.mono fun g hg=>(Vx g).2 hg) (fun g hg=>(hG.dom g hg.1).1) (fun hl hg=>(hdead2 hl).2.2.1 hg.1) hlen c4
    rw [Sem.run_bind,r1]
    -- the old row dies
    have hkY:∀ q y,(killY s.Y d).get q=some y→(s.Y.get q=some y∧∀ i j,d=some (i,j)→q≠i)∨y = .dead:=fun q y hq=>by
     unfold killY at hq
     split at hq
     ·rename_i i j
      rw [T.get_set] at hq
      split at hq
      ·cases hq;exact .inr rfl
      ·rename_i hne;exact .inl ⟨hq,fun i' j' he=>by cases he;exact hne⟩
     ·exact .inl ⟨hq,fun i j he=>by cases he⟩
    have hkill:Aw K b s.m (killY s.Y d) ρ σ w∧YRel G b.F0 b.wB.heap.size σ s.m (killY s.Y d) w:=by
     unfold killY
     split
     ·rename_i i j
      have hi:Lt i s.m.nx:=by
       unfold dstA at hdst
       split at hdst
       ·cases hdst
       ·cases hdst
       ·split at hdst
        ·cases hdst
        ·rename_i hi
         obtain ⟨_,hq2⟩:=Aj hdst
         cases hq2
         exact (hG.row _ _ hi).1
        ·cases hdst
       ·cases hdst
      exact ⟨hA.aw.kill hi,hG.kill hi⟩
     ·exact ⟨hA.aw,hG⟩
    obtain ⟨hA1,hG1⟩:=hkill.1.turn (g:=g) (P:=liveV (realW σ (ev s.tm s0))) hkill.2 r2 r3 fun hl=>by
     obtain ⟨h1,h2,h3,h4,h5⟩:=hdead2 hl
     refine ⟨h3,h2,h4,fun q e' z' o' j' hq hlq he=>?_,h5⟩
     obtain ⟨i,j,hd0,hi,hli,hbi⟩:=hdead hl
     rcases hkY q _ hq with ⟨hq1,hq2⟩ | hq1
     ·exact hq2 i j hd0 (hG.odi q _ _ _ _ i _ _ _ _ hq1 hi hlq hli (he.trans hbi.symm))
     ·cases hq1
    -- the data's number
    have hτ:=Env.agree_sym σ s.m.nx .nilFunc (σ.r.setD s.m.nx (dat1 ρ d++l2)) (Am _ _ _)
    obtain ⟨hA2,hG2⟩:=hA1.num hG1 hτ (Am ρ s.m.nx (dat1 ρ d++l2))
    have hdat:(σ.sym s.m.nx .nilFunc (σ.r.setD s.m.nx (dat1 ρ d++l2))).r.d s.m.nx=dat1 ρ d++l2:=Ay _ _ _
    -- the new row
    obtain ⟨υ,k1,k2,k3,k4,k5,_⟩:=hA2.symO hG2 (e:=e) (z:=z) (j:=s.m.nx) (own:=own && own2) (v:=v') (g:=g') hA.aw.rel.ltnx (by rw [hdat,Ay]) (by rw [hdat];exact r5) fun hl=>by
     have hold:∀ q r,s.m.S.get q=some r→r.blk=true→(σ.sym s.m.nx .nilFunc (σ.r.setD s.m.nx (dat1 ρ d++l2))).b q=σ.b q:=fun q r _ _=>rfl
     rcases r4 with ⟨rfl,hlv⟩ | hge | hnl
     ·obtain ⟨h1,h2,h3,h4,h5⟩:=hdead2 hlv
      refine ⟨Nat.lt_of_lt_of_le h1 r2.size,h2,h3,fun q r hq hb=>h4 q r hq hb,fun q e' z' o' j' hq hlq he=>?_⟩
      obtain ⟨i,j,hd0,hi,hli,hbi⟩:=hdead hlv
      rcases hkY q _ hq with ⟨hq1,hq2⟩ | hq1
      ·exact hq2 i j hd0 (hG.odi q _ _ _ _ i _ _ _ _ hq1 hi ((Ar hτ (hG.row q _ hq1).1).1 hlq) hli (he.trans hbi.symm))
      ·cases hq1
     ·have hlt:g'<w'.heap.size:=by
       obtain ⟨_,a',c',hv',hc'⟩:=r5
       obtain ⟨a2,n2,c2',hq2,hlt2⟩:=hl
       rw [hv'] at hq2;cases hq2
       rcases hc' with ⟨h5,_⟩ | ⟨_,_,arr,h5,_⟩
       ·omega
       ·exact Bw h5
      refine ⟨hlt,Nat.le_trans hA.aw.size hge,fun hg=>?_,fun q r hq hb he=>?_,fun q e' z' o' j' hq hlq he=>?_⟩
      ·have:=(hG.dom g' hg).1;omega
      ·have:=(hA.aw.rel.row q r hq).blk_lt hb
       have he:σ.b q=g':=he
       omega
      ·rcases hkY q _ hq with ⟨hq1,_⟩ | hq1
       ·have:=(hG.od q _ _ _ _ hq1 ((Ar hτ (hG.row q _ hq1).1).1 hlq)).1
        have he:σ.b q=g':=he
        omega
       ·cases hq1
     ·exact absurd hl hnl
    show den F n P Qw s.ks (.ops all l) (a.put o.dst v') w'
    unfold putY at hput
    cases hput':putR s.nt s.tm o.dst (.ok (one (.fz (Nat.succ s.m.nx))) (s.m.up (Nat.succ (Nat.succ s.m.nx)))) with
    | no=>rw [hput'] at hput;cases hput
    | ok tm m2 =>
     rw [hput'] at hput
     cases hput
     obtain ⟨x',hx',hpk⟩:=Ei hput'
     cases hx'
     have hagr:Agree s.m.nx σ υ:=hτ.trans (Nat.le_succ _) k1
     have hval:realW υ (one (.fz (Nat.succ s.m.nx)))=v':=k4
     rw [←hval]
     refine k _ rfl F hF n b hB Qw hQ υ _ w' ⟨k2,hpk υ _ a (hA.tm.agree hagr (by show s.m.nx≤s.m.nx+2;omega)) hA.nt k5,by rw [Bz];exact hA.nt,?_⟩
     obtain ⟨rs,q1,q2,q3⟩:=hA.mks
     refine ⟨rs,by rw [Bd];exact q1,q2,fun r hr=>⟨(q3 r hr).1,?_⟩⟩
     rw [r3 r (Bw (q3 r hr).2) fun hl he=>(hdead2 hl).2.2.2.2 _ (he▸(q3 r hr).2)]
     exact (q3 r hr).2
   ·cases ha
  ·cases ha
 ·cases ha
end
end Go.Vc

namespace Go.Vc
section
variable [Holes]
section
variable {K:Nat→Option (List Value)} {b:Bs} {F F0:Nat→Prop} {B0:Nat} {σ τ:Env} {m:Mem} {Y:T YRow} {w w1:World} {ρ ρ':Rho} {i:Nat}
theorem Axf {e z g:Nat} {l:List (List D)} {v:Value} (h:OdV F w e z l g v):RD (fun q=>F q∨(liveV v∧q=g)) w (.fs l) v:=by
 obtain ⟨hz,a,c,rfl,h3⟩:=h
 by_cases hl:l=[]
 ·subst hl;exact .nil a c
 ·rcases h3 with ⟨_,h3⟩ | ⟨rfl,hc,arr,h4,h5,h6,h7⟩
  ·exact absurd h3 hl
  ·have hv:∀ (q p:Nat) (cs:List D) (d:D),l[q]?=some cs→cs[p]?=some d→∃ u,arr[q*z+p]?=some u∧RD F w d u:=fun q p cs d hq hp=>(h7 q cs hq).2 p d hp
   refine .fs l g 0 c z (fun q p=>arr.getD (q*z+p) undef) hl hz h6 (.inr ⟨⟨_,_,_,rfl,hc⟩,rfl⟩) (fun q cs hq=>(h7 q cs hq).1) (fun q p cs d hq hp=>?_) (fun q p cs d hq hp=>?_)
   ·obtain ⟨u,h8,_⟩:=hv q p cs d hq hp
    rw [Nat.zero_add,Array.getD_eq_getD_getElem?,h8]
    simp [World.cell?,h4,h8]
   ·obtain ⟨u,h8,h9⟩:=hv q p cs d hq hp
    rw [Array.getD_eq_getD_getElem?,h8,Option.getD_some]
    exact h9.keep (fun _ h=>.inl h) fun _ _ _ _ h=>h
theorem YRel.more {G:Nat→Prop} (h:YRel F F0 B0 σ m Y w) (hG:∀ g,G g→g<w.heap.size∧(∀ i r,m.S.get i=some r→r.blk=true→σ.b i≠g)∧B0≤g) (ho:∀ i e z o j,Y.get i=some (.od e z o j)→live σ i→¬G (σ.b i)):YRel (fun g=>F g∨G g) F0 B0 σ m Y w :=
 ⟨fun g hg=>by
  rcases hg with hg | hg
  ·exact h.dom g hg
  ·exact ⟨(hG g hg).1,(hG g hg).2.1, .inr (hG g hg).2.2⟩,fun i y hi=>⟨(h.row i y hi).1,(h.row i y hi).2.more fun _ h=>.inl h⟩,fun i e z o j hi hl=>by
  obtain ⟨h1,h2,h3,h4⟩:=h.od i e z o j hi hl
  exact ⟨h1,h2,fun hg=>hg.elim h3 (ho i e z o j hi hl),h4⟩,h.odi⟩
theorem Aw.frz {e z j:Nat} {own:Bool} (h:Aw K b m Y ρ σ w) (hi:Y.get i=some (.od e z own j)):Aw K b m (Y.set i (.fz own 0 j)) ρ σ w:=by
 obtain ⟨F,hF⟩:=h.y
 obtain ⟨hlt,hj,hz,a,c,hv,hc⟩:=hF.row i _ hi
 have hod:OdV (Fo F b.wB.heap.size own) w e z (σ.r.d j) (σ.b i) (σ.v i):=⟨hz,a,c,hv,hc⟩
 have hrd:=Axf hod
 have hF2:=(hF.kill hlt).more (G:=fun g=>live σ i∧g=σ.b i) (fun g hg=>by
  obtain ⟨hl,rfl⟩:=hg
  obtain ⟨h1,h2,_,h4⟩:=hF.od i _ _ _ _ hi hl
  exact ⟨h1,h4,h2⟩) (fun q e' z' o' j' hq hlq hg=>by
  rw [T.get_set] at hq
  split at hq
  ·cases hq
  ·rename_i hne
   exact hne (hF.odi q _ _ _ _ i _ _ _ _ hq hi hlq hg.1 hg.2))
 have hF3:=hF2.add (i:=i) (y := .fz own 0 j) hlt rfl ⟨hj,hrd.keep (fun g hg=>?_) (fun _ _ _ _ h=>h),fun h=>absurd rfl h,fun h=>by cases h⟩
 ·have hset:∀ q,((Y.set i .dead).set i (.fz own 0 j)).get q=(Y.set i (.fz own 0 j)).get q:=fun q=>by
   rw [T.get_set,T.get_set,T.get_set]
   split <;> rfl
  have hF4:YRel (fun g=>F g∨(live σ i∧g=σ.b i)) b.F0 b.wB.heap.size σ m (Y.set i (.fz own 0 j)) w :=
   ⟨hF3.dom,fun q y hq=>hF3.row q y (by rw [hset];exact hq),fun q e z o j hq=>hF3.od q e z o j (by rw [hset];exact hq),fun q e z o j q' e' z' o' j' hq hq'=>hF3.odi q e z o j q' e' z' o' j' (by rw [hset];exact hq) (by rw [hset];exact hq')⟩
  have h0:σ.r.d j=ρ.d j:=h.ag i _ hi
  refine ⟨h.rel,h.nx,h.agree,h.nx1,h.agree1,h.base,h.goes,h.frame,h.own,⟨_,hF4⟩,fun q y hq=>?_,h.dfr,h.keep,h.klow⟩
  rw [T.get_set] at hq
  split at hq
  ·cases hq;exact h0
  ·exact h.ag q y hq
 ·rcases hg with hg | ⟨hl,rfl⟩
  ·exact ⟨.inl hg.1,hg.2⟩
  ·exact ⟨.inr ⟨hl,rfl⟩,fun _=>(hF.od i _ _ _ _ hi hl).2.1⟩
theorem Aw.dead {r e k:Nat} {cs:T C} (h:Aw K b m Y ρ σ w) (hF:YRel F b.F0 b.wB.heap.size σ m Y w) (hr:m.S.get r=some (.cells e k cs)):Aw K b ⟨m.S.set r .dead,m.nx,m.lo⟩ Y ρ σ w∧YRel (fun g=>F g∨g=σ.b r) b.F0 b.wB.heap.size σ ⟨m.S.set r .dead,m.nx,m.lo⟩ Y w:=by
 have hget:∀ i s,(m.S.set r .dead).get i=some s→s = .dead∧i=r∨m.S.get i=some s∧i≠r:=fun i s hi=>by
  rw [T.get_set] at hi
  split at hi
  ·rename_i he;cases hi;exact .inl ⟨rfl,he⟩
  ·rename_i he;exact .inr ⟨hi,he⟩
 have hblk:∀ i s,(m.S.set r .dead).get i=some s→s.blk=true→m.S.get i=some s∧i≠r:=fun i s hi hb=>by
  rcases hget i s hi with ⟨rfl,_⟩ | h
  ·cases hb
  ·exact h
 have hy:YRel F b.F0 b.wB.heap.size σ ⟨m.S.set r .dead,m.nx,m.lo⟩ Y w:=⟨fun g hg=>⟨(hF.dom g hg).1,fun i s hi hb=>(hF.dom g hg).2.1 i s (hblk i s hi hb).1 hb,(hF.dom g hg).2.2⟩,hF.row,fun i e z o j hi hl=>by
  obtain ⟨h1,h2,h3,h4⟩:=hF.od i e z o j hi hl
  exact ⟨h1,h2,h3,fun q s hq hb=>h4 q s (hblk q s hq hb).1 hb⟩,hF.odi⟩
 have hy2:=hy.more (G:=fun g=>g=σ.b r) (fun g hg=>by
  subst hg
  exact ⟨(h.rel.row r _ hr).blk_lt rfl,fun i s hi hb he=>(hblk i s hi hb).2 (h.rel.inj i r s _ (hblk i s hi hb).1 hr hb rfl he),h.own r _ hr rfl⟩) (fun i e z o j hi hl he=>(hF.od i e z o j hi hl).2.2.2 r _ hr rfl he.symm)
 refine ⟨⟨⟨fun i s hi=>?_,fun i s hi=>?_,fun i j s s' hi hj hb hb' he=>h.rel.inj i j s s' (hblk i s hi hb).1 (hblk j s' hj hb').1 hb hb' he,h.rel.known,fun i s hi hb=>h.rel.apart i s (hblk i s hi hb).1 hb,h.rel.low,h.rel.fresh⟩,h.nx,h.agree,h.nx1,h.agree1,h.base,h.goes,h.frame,fun i s hi hb=>h.own i s (hblk i s hi hb).1 hb,⟨_,hy2⟩,h.ag,h.dfr,fun i hi=>?_,h.klow⟩,hy2⟩
 ·rcases hget i s hi with ⟨rfl,_⟩ | ⟨h1,_⟩
  ·trivial
  ·exact h.rel.row i s h1
 ·rcases hget i s hi with ⟨_,rfl⟩ | ⟨h1,_⟩
  ·exact h.rel.lt i _ hr
  ·exact h.rel.lt i s h1
 ·obtain ⟨s,h1,h2⟩:=h.keep i hi
  refine ⟨s,?_,h2⟩
  rw [T.get_set,if_neg (fun he=>by subst he;rw [hr] at h1;cases h1;cases h2)]
  exact h1
end
end
def replV (f:C→Bool) (d:C):V→V
 | .c x=>.c (bif f x then d else x)
 | .a l=>.a (l.map fun x=>bif f x then d else x)
def replW (f:C→Bool) (d:C):W→W
 | .v x=>.v (replV f d x)
 | .t l=>.t (l.map (replV f d))
def kdC:C→Option Kd
 | .raw (.int k _)=>some (.int k)
 | .raw (.bool _)=>some .bool
 | .raw (.string _)=>some .str
 | .raw (.slice ..)=>some .sl
 | .si k _=>some (.int k)
 | .sb _=>some .bool
 | .ss _=>some .str
 | .fz _=>some .sl
 | _=>none
def kdsC:List C→Option (List Kd)
 | []=>some []
 | c::l=>match kdC c,kdsC l with
  | some k,some ks=>some (k::ks)
  | _,_=>none
structure FrzI where
 r:Nat
 l:List (List D)
 own:Bool
def frzRows (Y:T YRow) (ρ:Rho) (z n:Nat) (cs:List C):Option (List (List D)×Bool):=match kdsC (cs.take z) with
 | some ks=>bif Nat.beq ks.length z then match outRows Y ρ true ks (chunk z n cs) with
   | some l=>some (l,true)
   | none=>match outRows Y ρ false ks (chunk z n cs) with
    | some l=>some (l,false)
    | none=>none
  else none
 | none=>none
def capOkC (n:Nat):Option Nat→Bool
 | some q=>Nat.ble n q
 | none=>true
def frzIr (m:Mem) (Y:T YRow) (ρ:Rho) (r o n z:Nat):Option FrzI:=match m.read r o (n*z) with
 | some cs=>match frzRows Y ρ z n cs with
  | some (l,own)=>some ⟨r,l,own⟩
  | none=>none
 | none=>none
def frzI (m:Mem) (Y:T YRow) (ρ:Rho) (c:C):Option FrzI:=match c with
 | .sl r o n z cap=>bif Nat.blt 0 z && Nat.blt 0 n && capOkC n cap then frzIr m Y ρ r o n z else none
 | _=>none
section
variable [H:Holes] {P:Program} {K:Nat→Option (List Value)} {s s':St} {ρ ρ':Rho} {Q:Post}
theorem Awx {i e z j:Nat} {own:Bool} (hi:s.Y.get i=some (.od e z own j)) (k:Sx P K ⟨s.cur,s.ks,s.tm,s.m,s.Y.set i (.fz own 0 j),s.nt,s.key⟩ ρ Q):Sx P K s ρ Q:=by
 intro F hF n b hB Qw hQ σ a w hA
 exact k F hF n b hB Qw hQ σ a w ⟨hA.aw.frz hi,hA.tm,hA.nt,hA.mks⟩
theorem Als {t:Tmp} {c:C} {i:FrzI} {S':T Row} (hi:frzI s.m s.Y ρ c=some i) (hS:∀ (b:Bs) (Y:T YRow) (ρ':Rho) (υ:Env) (w:World),Aw K b ⟨s.m.S.set i.r .dead,Nat.succ (Nat.succ s.m.nx),s.m.lo⟩ Y ρ' υ w→realC υ (.fz (Nat.succ s.m.nx))=realC υ c→C.lt (Nat.succ (Nat.succ s.m.nx)) (.fz (Nat.succ s.m.nx))→Aw K b ⟨S',Nat.succ (Nat.succ s.m.nx),s.m.lo⟩ Y ρ' υ w)
  (k:∀ x,x=i.l→Sx P K ⟨s.cur,s.ks,s.tm.set t (replW (fun y=>eqC y c) (.fz (Nat.succ s.m.nx)) (s.tm.get t)),⟨S',Nat.succ (Nat.succ s.m.nx),s.m.lo⟩,s.Y.set (Nat.succ s.m.nx) (.fz i.own 0 s.m.nx),s.nt,s.key⟩ (ρ.setD s.m.nx x) Q):Sx P K s ρ Q:=by
 intro F hF n b hB Qw hQ σ a w hA
 obtain ⟨G,hG⟩:=hA.aw.y
 unfold frzI at hi
 split at hi
 ·rename_i r o nn z cap
  obtain ⟨hcc,hi⟩:(Nat.blt 0 z && Nat.blt 0 nn && capOkC nn cap)=true∧frzIr s.m s.Y ρ r o nn z=some i:=by
   cases hq:(Nat.blt 0 z && Nat.blt 0 nn && capOkC nn cap) with
   | false=>rw [hq] at hi;cases hi
   | true=>rw [hq] at hi;exact ⟨rfl,hi⟩
  unfold frzIr at hi
  simp only [Bool.and_eq_true] at hcc
  obtain ⟨⟨c1,c2⟩,c3⟩:=hcc
  have c1:0<z:=Nat.le_of_ble_eq_true c1
  have c2:0<nn:=Nat.le_of_ble_eq_true c2
  split at hi
  ·rename_i cs hcs
   split at hi
   ·rename_i l own hrows
    cases hi
    obtain ⟨h1,h2,h3⟩:=Im hA.aw.rel hcs
    -- rows
    obtain ⟨hl,hr⟩:l.length=nn∧Rows (Fo G b.wB.heap.size own) w z (cs.map (realC σ)) l:=by
     unfold frzRows at hrows
     split at hrows
     ·rename_i ks hks
      cases hq:Nat.beq ks.length z with
      | false=>rw [hq] at hrows;cases hrows
      | true =>
       rw [hq] at hrows
       have hz:=Nat.eq_of_beq_eq_true hq
       simp only [cond_true] at hrows
       split at hrows
       ·rename_i l' ho;cases hrows;exact Hn hz hA.aw.ag hG nn cs l ho h1
       ·split at hrows
        ·rename_i l' ho;cases hrows;exact Hn hz hA.aw.ag hG nn cs l ho h1
        ·cases hrows
     ·cases hrows
    obtain ⟨e,kk,tt,hrow⟩:∃ e k t,s.m.S.get r=some (.cells e k t):=by
     unfold Mem.read at hcs
     split at hcs
     ·rename_i e k t hr;exact ⟨e,k,t,hr⟩
     ·cases hcs
    obtain ⟨q,hval,hq⟩:∃ q,realC σ (.sl r o nn z cap) = .slice (some ⟨σ.b r,σ.o r+o,none⟩) nn q∧nn≤q:=by
     cases cap with
     | some q=>exact ⟨q,rfl,Nat.le_of_ble_eq_true c3⟩
     | none =>
      refine ⟨_,rfl,?_⟩
      obtain ⟨arr,a1,a2,a3,_⟩:=hA.aw.rel.row r _ hrow
      have hfit:o+nn*z≤kk:=by
       unfold Mem.read at hcs
       rw [hrow] at hcs
       dsimp only at hcs
       cases hb:Nat.ble (o+nn*z) kk with
       | true=>exact Nat.le_of_ble_eq_true hb
       | false=>rw [hb] at hcs;cases hcs
      unfold capR
      rw [Nat.le_div_iff_mul_le c1]
      omega
    obtain ⟨hA1,hG1⟩:=hA.aw.dead hG hrow
    have hl0:l≠[]:=fun he=>by rw [he] at hl;simp at hl;omega
    have hrd:RD (Fo (fun g=>G g∨g=σ.b r) b.wB.heap.size own) w (.fs l) (realC σ (.sl r o nn z cap)):=by
     rw [hval,←hl]
     have hget:∀ (qq p:Nat) (cs':List D) (d:D),l[qq]?=some cs'→cs'[p]?=some d→∃ u,(cs.map (realC σ))[qq*z+p]?=some u∧RD (Fo G b.wB.heap.size own) w d u:=fun qq p cs' d hqq hp=>(hr qq cs' hqq).2 p d hp
     refine .fs l (σ.b r) (σ.o r+o) q z (fun qq p=>((cs.map (realC σ))[qq*z+p]?).getD undef) hl0 c1 (by omega) ⟨.inr rfl,fun _=>hA.aw.own r _ hrow rfl⟩ (fun qq cs' hqq=>(hr qq cs' hqq).1) (fun qq p cs' d hqq hp=>?_) (fun qq p cs' d hqq hp=>?_)
     ·obtain ⟨u,h4,_⟩:=hget qq p cs' d hqq hp
      rw [h4,Option.getD_some]
      have:=h3 _ u h4
      rw [Ax] at this
      rw [←this]
      congr 2
      omega
     ·obtain ⟨u,h4,h5⟩:=hget qq p cs' d hqq hp
      rw [h4,Option.getD_some]
      exact h5.keep (fun g hg=>⟨.inl hg.1,hg.2⟩) fun _ _ _ _ h=>h
    have hτ:=Env.agree_sym σ s.m.nx .nilFunc (σ.r.setD s.m.nx l) (Am _ _ _)
    obtain ⟨hA2,hG2⟩:=hA1.num hG1 hτ (Am ρ s.m.nx l)
    generalize hτd:σ.sym s.m.nx .nilFunc (σ.r.setD s.m.nx l)=τ at hτ hA2 hG2
    have hdat:τ.r.d s.m.nx=l:=by rw [←hτd];exact Ay _ _ _
    have hlt0:Lt s.m.nx (Nat.succ s.m.nx):=hA.aw.rel.ltnx
    have ha2:=Env.agree_set τ (Nat.succ s.m.nx) 0 0 0 (realC σ (.sl r o nn z cap))
    have hlt1:Lt (Nat.succ s.m.nx) (Nat.succ s.m.nx+1):=hA2.rel.ltnx
    have hdat2:(τ.set (Nat.succ s.m.nx) 0 0 0 (realC σ (.sl r o nn z cap))).r.d s.m.nx=l:=hdat
    obtain ⟨hA3,_⟩:=hA2.sym hG2 ha2 (y := .fz own 0 s.m.nx) rfl ⟨hlt0.mono (Nat.le_succ _),by show RD _ w (.fs ((τ.set (Nat.succ s.m.nx) 0 0 0 (realC σ (.sl r o nn z cap))).r.d s.m.nx)) ((τ.set (Nat.succ s.m.nx) 0 0 0 (realC σ (.sl r o nn z cap))).v (Nat.succ s.m.nx));rw [hdat2,Env.set_v];exact hrd,fun h=>absurd rfl h,fun h=>by cases h⟩ (RhoEq.refl _ _) (show (τ.set (Nat.succ s.m.nx) 0 0 0 (realC σ (.sl r o nn z cap))).r.d s.m.nx=(ρ.setD s.m.nx l).d s.m.nx by rw [hdat2,Ay])
    have hagr:Agree s.m.nx σ (τ.set (Nat.succ s.m.nx) 0 0 0 (realC σ (.sl r o nn z cap))):=hτ.trans (Nat.le_succ _) ha2
    have hT:=hA.tm.agree hagr (show s.m.nx≤s.m.nx+1+1 by omega)
    have hnew:realC (τ.set (Nat.succ s.m.nx) 0 0 0 (realC σ (.sl r o nn z cap))) (.fz (Nat.succ s.m.nx))=realC σ (.sl r o nn z cap):=by
     show (match (τ.set (Nat.succ s.m.nx) 0 0 0 (realC σ (.sl r o nn z cap))).v (Nat.succ s.m.nx) with | .slice a n c=>Value.slice a n c | _=>.nilFunc)=_
     rw [Env.set_v,hval]
    refine k l rfl F hF n b hB Qw hQ _ a w ⟨hS _ _ _ _ _ hA3 (hnew.trans (hagr.realC (x := .sl r o nn z cap) (hA.aw.rel.lt r _ hrow)).symm) hlt1,?_,hA.nt,hA.mks⟩
    generalize hυ:τ.set (Nat.succ s.m.nx) 0 0 0 (realC σ (.sl r o nn z cap))=υ at hT hnew hagr
    have hcr:Lt r s.m.nx:=hA.aw.rel.lt r _ hrow
    have hold:realC υ (.sl r o nn z cap)=realC σ (.sl r o nn z cap):=hagr.realC (x := .sl r o nn z cap) hcr
    have hcell:∀ x,C.lt (s.m.nx+1+1) x→realC υ (bif eqC x (.sl r o nn z cap) then .fz (Nat.succ s.m.nx) else x)=realC υ x∧C.lt (s.m.nx+1+1) (bif eqC x (.sl r o nn z cap) then .fz (Nat.succ s.m.nx) else x):=fun x hx=>by
     cases hq2:eqC x (.sl r o nn z cap) with
     | true =>
      have:=Sd hq2
      subst this
      exact ⟨by rw [cond_true,hnew,hold],hlt1⟩
     | false=>exact ⟨rfl,hx⟩
    have hV:∀ v,V.lt (s.m.nx+1+1) v→realV υ (replV (fun y=>eqC y (.sl r o nn z cap)) (.fz (Nat.succ s.m.nx)) v)=realV υ v∧V.lt (s.m.nx+1+1) (replV (fun y=>eqC y (.sl r o nn z cap)) (.fz (Nat.succ s.m.nx)) v):=fun v hv=>by
     cases v with
     | c x=>exact hcell x hv
     | a cs2 =>
      refine ⟨?_,fun x hx=>?_⟩
      ·show Value.agg _=Value.agg _
       rw [List.map_map]
       congr 2
       exact List.map_congr_left fun x hx=>(hcell x (hv x hx)).1
      ·obtain ⟨y,hy,rfl⟩:=List.mem_map.1 hx
       exact (hcell y (hv y hy)).2
    have hWW:realW υ (replW (fun y=>eqC y (.sl r o nn z cap)) (.fz (Nat.succ s.m.nx)) (s.tm.get t))=realW υ (s.tm.get t)∧W.lt (s.m.nx+1+1) (replW (fun y=>eqC y (.sl r o nn z cap)) (.fz (Nat.succ s.m.nx)) (s.tm.get t)):=by
     have hlt:=hT.lt t
     revert hlt
     generalize s.tm.get t=x
     intro hlt
     cases x with
     | v v=>exact hV v hlt
     | t l2 =>
      refine ⟨?_,fun x hx=>?_⟩
      ·show Value.tuple _=Value.tuple _
       rw [List.map_map]
       congr 2
       exact List.map_congr_left fun x hx=>(hV x (hlt x hx)).1
      ·obtain ⟨y,hy,rfl⟩:=List.mem_map.1 hx
       exact (hV y (hlt y hy)).2
    refine ⟨fun q2=>?_,fun q2=>?_⟩
    ·rw [Tm.get_set]
     split
     ·rename_i he;rw [←he,hT.get t,hWW.1]
     ·exact hT.get q2
    ·rw [Tm.get_set]
     split
     ·exact hWW.2
     ·exact hT.lt q2
   ·cases hi
  ·cases hi
 ·cases hi
end
end Go.Vc

namespace Go.Vc
def putAt (old:List D) (o:Nat) (ds:List D):List D:=old.take o++ds++old.drop (o+ds.length)
def putE (l:List (List D)) (k:Int) (o:Nat) (whole:Bool) (ds:List D):List (List D):=bif whole then l.set k.toNat ds else l.set k.toNat (putAt (l.getD k.toNat []) o ds)
theorem Lp {α:Type} (L v:List α) (a i:Nat) (h:a+v.length≤L.length):(L.take a++v++L.drop (a+v.length))[i]?=if i<a then L[i]? else if i<a+v.length then v[i-a]? else L[i]?:=by
 have hla:(L.take a).length=a:=by rw [List.length_take];omega
 by_cases h1:i<a
 ·rw [if_pos h1,List.append_assoc,List.getElem?_append_left (by omega),List.getElem?_take,if_pos h1]
 ·rw [if_neg h1]
  by_cases h2:i<a+v.length
  ·rw [if_pos h2,List.getElem?_append_left (by rw [List.length_append];omega),List.getElem?_append_right (by omega),hla]
  ·rw [if_neg h2,List.getElem?_append_right (by rw [List.length_append];omega),List.length_append,hla,List.getElem?_drop]
   congr 1
   omega
theorem Avo {F:Nat→Prop} {w w1:World} {z k off:Nat} {arr:Array Value} {l:List (List D)} {vs:List Value} {ds old:List D} (h:Els F w z arr l) (hc:∀ g j v,F g→w.cell? ⟨g,j,none⟩=some v→w1.cell? ⟨g,j,none⟩=some v) (hold:l[k]?=some old) (hlen:vs.length=ds.length) (hfit:off+ds.length≤z)
  (hrd:∀ (j:Nat) (d:D) (u:Value),ds[j]?=some d→vs[j]?=some u→RD F w d u) (hsz:k*z+off+vs.length≤arr.size) :
  Els F w1 z (arr.toList.take (k*z+off)++vs++arr.toList.drop (k*z+off+vs.length)).toArray (l.set k (putAt old off ds)):=fun q cs hq=>by
 have hg:∀ i,(arr.toList.take (k*z+off)++vs++arr.toList.drop (k*z+off+vs.length)).toArray[i]?=if i<k*z+off then arr[i]? else if i<k*z+off+vs.length then vs[i-(k*z+off)]? else arr[i]?:=fun i=>by
  rw [List.getElem?_toArray,Lp _ _ _ _ (by simpa using hsz)]
  simp only [Array.getElem?_toList]
 obtain ⟨ho1,ho2⟩:=h k old hold
 by_cases hqk:q=k
 ·subst hqk
  have hql:=(List.getElem?_eq_some_iff.1 hold).1
  rw [List.getElem?_set_self hql] at hq
  cases hq
  have hpl:(putAt old off ds).length=z:=by
   unfold putAt
   rw [List.length_append,List.length_append,List.length_take,List.length_drop]
   omega
  refine ⟨hpl,fun p d hp=>?_⟩
  have hp':=hp
  unfold putAt at hp
  rw [Lp _ _ _ _ (by omega)] at hp
  rw [hg]
  split at hp
  ·rename_i h1
   obtain ⟨v,h3,h4⟩:=ho2 p d hp
   exact ⟨v,by rw [if_pos (by omega)];exact h3,h4.keep (fun _ h=>h) hc⟩
  ·rename_i h1
   split at hp
   ·rename_i h2
    have hlt:p-off<vs.length:=by omega
    refine ⟨vs[p-off],?_,(hrd _ d _ hp (List.getElem?_eq_getElem hlt)).keep (fun _ h=>h) hc⟩
    rw [if_neg (by omega),if_pos (by omega),show q*z+p-(q*z+off)=p-off by omega,List.getElem?_eq_getElem hlt]
   ·rename_i h2
    obtain ⟨v,h3,h4⟩:=ho2 p d hp
    exact ⟨v,by rw [if_neg (by omega),if_neg (by omega)];exact h3,h4.keep (fun _ h=>h) hc⟩
 ·rw [List.getElem?_set_ne (fun e=>hqk e.symm)] at hq
  obtain ⟨h1,h2⟩:=h q cs hq
  refine ⟨h1,fun p d hp=>?_⟩
  obtain ⟨v,h3,h4⟩:=h2 p d hp
  have hpz:p<z:=by have:=(List.getElem?_eq_some_iff.1 hp).1;omega
  refine ⟨v,?_,h4.keep (fun _ h=>h) hc⟩
  rw [hg]
  rcases Nat.lt_or_gt_of_ne hqk with hlt | hgt
  ·have:(q+1)*z≤k*z:=Nat.mul_le_mul_right z hlt
   rw [Nat.add_mul] at this
   rw [if_pos (by omega)];exact h3
  ·have:(k+1)*z≤q*z:=Nat.mul_le_mul_right z hgt
   rw [Nat.add_mul] at this
   rw [if_neg (by omega),if_neg (by omega)];exact h3
section
variable [H:Holes]
section
variable {P:Program} {K:Nat→Option (List Value)} {b:Bs} {F F0:Nat→Prop} {B0:Nat} {σ τ:Env} {m:Mem} {Y:T YRow} {w w1:World} {ρ ρ':Rho} {i:Nat}
theorem Aw.reod (h:Aw K b m Y ρ σ w) (hF:YRel F b.F0 b.wB.heap.size σ m Y w) {e z j:Nat} {own:Bool} (hi:Lt i m.nx) (hj:Lt j m.nx) (hag:σ.r.d j=ρ.d j) (hv:OdV (Fo F b.wB.heap.size own) w e z (σ.r.d j) (σ.b i) (σ.v i))
  (hl:live σ i→σ.b i<w.heap.size∧b.wB.heap.size≤σ.b i∧¬F (σ.b i)∧(∀ q r,m.S.get q=some r→r.blk=true→σ.b q≠σ.b i)∧∀ q e z o j,q≠i→Y.get q=some (.od e z o j)→live σ q→σ.b q≠σ.b i) :
  Aw K b m (Y.set i (.od e z own j)) ρ σ w∧YRel F b.F0 b.wB.heap.size σ m (Y.set i (.od e z own j)) w:=by
 have hold:∀ q y,(Y.set i (.od e z own j)).get q=some y→q≠i→Y.get q=some y:=fun q y hq hne=>by
  rw [T.get_set,if_neg hne] at hq;exact hq
 have hy:YRel F b.F0 b.wB.heap.size σ m (Y.set i (.od e z own j)) w:=by
  refine ⟨hF.dom,fun q y hq=>?_,fun q e' z' o' j' hq hl'=>?_,fun q e1 z1 o1 j1 q' e2 z2 o2 j2 hq hq' hl1 hl2 he=>?_⟩
  ·by_cases hne:q=i
   ·subst hne
    rw [T.get_set,if_pos rfl] at hq
    cases hq
    exact ⟨hi,hj,hv.1,hv.2⟩
   ·exact hF.row q y (hold q y hq hne)
  ·by_cases hne:q=i
   ·subst hne
    obtain ⟨h3,h4,h5,h6,_⟩:=hl hl'
    exact ⟨h3,h4,h5,h6⟩
   ·exact hF.od q e' z' o' j' (hold q _ hq hne) hl'
  ·by_cases hn1:q=i
   ·by_cases hn2:q'=i
    ·rw [hn1,hn2]
    ·subst hn1;exact absurd he.symm ((hl hl1).2.2.2.2 q' _ _ _ _ hn2 (hold q' _ hq' hn2) hl2)
   ·by_cases hn2:q'=i
    ·subst hn2;exact absurd he ((hl hl2).2.2.2.2 q _ _ _ _ hn1 (hold q _ hq hn1) hl1)
    ·exact hF.odi q e1 z1 o1 j1 q' e2 z2 o2 j2 (hold q _ hq hn1) (hold q' _ hq' hn2) hl1 hl2 he
 refine ⟨⟨h.rel,h.nx,h.agree,h.nx1,h.agree1,h.base,h.goes,h.frame,h.own,⟨F,hy⟩,fun q y hq=>?_,h.dfr,h.keep,h.klow⟩,hy⟩
 by_cases hne:q=i
 ·subst hne
  rw [T.get_set,if_pos rfl] at hq
  cases hq
  exact hag
 ·exact h.ag q y (hold q y hq hne)
theorem Aw.turnO (h:Aw K b m Y ρ σ w) (hF:YRel F b.F0 b.wB.heap.size σ m Y w) {e z j:Nat} {own own':Bool} (hi:Y.get i=some (.od e z own j)) (hlv:live σ i) {arr arr':Array Value} (harr:w.heap[σ.b i]?=some (.cells arr e (0,0))) {c:Nat} {a:Option Addr} (hva:σ.v i = .slice a (ρ.d j).length c) (hcz:c*z≤arr'.size) (hlc:(ρ.d j).length≤c)
  {l:List (List D)} (hll:l.length=(ρ.d j).length) (hown:own'=true→own=true) (hE:∀ w1:World,(∀ g j v,Fo F b.wB.heap.size own' g→w.cell? ⟨g,j,none⟩=some v→w1.cell? ⟨g,j,none⟩=some v)→Els (Fo F b.wB.heap.size own') w1 z arr' l) :
  ∃ τ,Agree m.nx σ τ∧Aw K b (m.up (Nat.succ m.nx)) (Y.set i (.od e z own' m.nx)) (ρ.setD m.nx l) τ (w.setRow (σ.b i) arr')∧YRel F b.F0 b.wB.heap.size τ (m.up (Nat.succ m.nx)) (Y.set i (.od e z own' m.nx)) (w.setRow (σ.b i) arr'):=by
 obtain ⟨hlt,hj,hz,a',c',hv,hc⟩:=hF.row i _ hi
 have hdj:σ.r.d j=ρ.d j:=h.ag i _ hi
 obtain ⟨f1,f2,f3,f4⟩:=hF.od i _ _ _ _ hi hlv
 have hother:∀ q e z o j,(Y.set i .dead).get q=some (.od e z o j)→live σ q→σ.b q≠σ.b i:=fun q e' z' o' j' hq hlq he=>by
  rw [T.get_set] at hq
  split at hq
  ·cases hq
  ·rename_i hne;exact hne (hF.odi q _ _ _ _ i _ _ _ _ hq hi hlq hlv he)
 have hA1:=h.kill hlt
 have hF1:=hF.kill hlt
 obtain ⟨hA2,hF2⟩:=hA1.turn (g:=σ.b i) (P:=True) (w1:=w.setRow (σ.b i) arr') hF1 (Ek _ _ _) (fun q _ hne=>setRow_other w (σ.b i) q _ (hne trivial)) fun _=>⟨f3,f2,f4,hother,fun q hq=>by rw [harr] at hq;cases hq⟩
 have ha:=Env.agree_sym σ m.nx .nilFunc (σ.r.setD m.nx l) (Am _ _ _)
 obtain ⟨hA3,hF3⟩:=hA2.num hF2 ha (Am ρ m.nx l)
 have hdat:(σ.sym m.nx .nilFunc (σ.r.setD m.nx l)).r.d m.nx=l:=Ay _ _ _
 have hb:∀ q,(σ.sym m.nx .nilFunc (σ.r.setD m.nx l)).b q=σ.b q:=fun _=>rfl
 have hvi:(σ.sym m.nx .nilFunc (σ.r.setD m.nx l)).v i=σ.v i:=ha.v i hlt
 have hli:Lt i (m.up (m.nx+1)).nx:=hlt.mono (Nat.le_succ _)
 have hln:Lt m.nx (m.up (m.nx+1)).nx:=h.rel.ltnx
 have haddr:a=some ⟨σ.b i,0,none⟩∧0<c:=by
  rw [hdj] at hv hc
  rw [hva] at hv
  cases hv
  rcases hc with ⟨rfl,_⟩ | ⟨h5,h6,_⟩
  ·obtain ⟨_,_,c2,hl1,hl2⟩:=hlv
   rw [hva] at hl1;cases hl1;omega
  ·exact ⟨h5,h6⟩
 obtain ⟨hA4,hF4⟩:=hA3.reod hF3 (i:=i) (e:=e) (z:=z) (j:=m.nx) (own:=own') hli hln (by rw [hdat,Ay]) ⟨hz,a,c,by rw [hvi,hdat,hll];exact hva, .inr ⟨haddr.1,haddr.2,arr',setRow_heap w (σ.b i) arr _ e (0,0) harr,hcz,by rw [hdat,hll];exact hlc,by
   rw [hdat]
   refine hE _ fun g j v hg hv=>?_
   rw [Cj (setRow_other w (σ.b i) g _ fun he=>f3 (he▸hg.1))];exact hv⟩⟩ fun _=>⟨by rw [hb];exact Nat.lt_of_lt_of_le f1 (Ek _ _ _).size,f2,f3,fun q r hq hbk=>f4 q r hq hbk,fun q e z o jj hne hq hlq=>by
   rw [hb,hb]
   exact hother q e z o jj hq ((Ar ha (hF1.row q _ hq).1).1 hlq)⟩
 have hset:∀ q,((Y.set i .dead).set i (.od e z own' m.nx)).get q=(Y.set i (.od e z own' m.nx)).get q:=fun q=>by
  rw [T.get_set,T.get_set,T.get_set]
  split <;> rfl
 have hF5:YRel F b.F0 b.wB.heap.size (σ.sym m.nx .nilFunc (σ.r.setD m.nx l)) (m.up (m.nx+1)) (Y.set i (.od e z own' m.nx)) (w.setRow (σ.b i) arr'):=⟨hF4.dom,fun q y hq=>hF4.row q y (by rw [hset];exact hq),fun q e z o j hq=>hF4.od q e z o j (by rw [hset];exact hq),fun q e z o j q' e' z' o' j' hq hq'=>hF4.odi q e z o j q' e' z' o' j' (by rw [hset];exact hq) (by rw [hset];exact hq')⟩
 exact ⟨_,ha,⟨hA4.rel,hA4.nx,hA4.agree,hA4.nx1,hA4.agree1,hA4.base,hA4.goes,hA4.frame,hA4.own,⟨F,hF5⟩,fun q y hq=>hA4.ag q y (by rw [hset];exact hq),hA4.dfr,hA4.keep,hA4.klow⟩,hF5⟩
end
structure StI where
 i:Nat
 e:Nat
 z:Nat
 own:Bool
 j:Nat
 x:Nat
 off:Nat
 kk:List Kd
 cs:List C
 whole:Bool
def storeI (P:Program) (Y:T YRow) (t:TypeId) (a x:W):Option StI:=match a,x with
 | .v (.c (.fp q o)), .v v=>match epOf P Y q,sizeOf? P t with
  | some p,some n=>bif Nat.ble (o+n) p.z && Nat.beq v.cells.length n && v.good then some ⟨p.i,p.e,p.z,p.own,p.j,p.x,o,(p.ks.drop o).take n,v.cells,Nat.beq o 0 && Nat.beq n p.z⟩ else none
  | _,_=>none
 | _,_=>none
section
variable {P:Program} {K:Nat→Option (List Value)} {s s':St} {ρ ρ':Rho} {Q:Post}
theorem Am4 {F:Nat→Prop} {B0:Nat} {o1 o2:Bool} (g:Nat):(Fo F B0 o1 g→Fo F B0 (o1 && o2) g)∧(Fo F B0 o2 g→Fo F B0 (o1 && o2) g):=by
 cases o1 <;> cases o2 <;> simp [Fo] <;> (try exact fun h _=>h)
theorem Els.mono {F F':Nat→Prop} {w:World} {z:Nat} {arr:Array Value} {l:List (List D)} (h:Els F w z arr l) (hF:∀ g,F g→F' g):Els F' w z arr l:=fun q cs hq=>by
 obtain ⟨h9,h10⟩:=h q cs hq
 refine ⟨h9,fun p d hp=>?_⟩
 obtain ⟨v,h11,h12⟩:=h10 p d hp
 exact ⟨v,h11,h12.keep hF fun _ _ _ _ h=>h⟩
theorem Aa9 {all:Array Oper} {o:Oper} {l:List Oper} {t:TypeId} {pa xa:Operand} {i:StI} {own2:Bool} {ds:List D} (hc:s.cur = .ops all (o::l)) (hop:openB all s.tm o=false) (hw:wantW all s.tm o=true)
  (ho:o.op = .store t pa xa) (hi:storeI P s.Y t (ev s.tm pa) (ev s.tm xa)=some i) (hd:outCs s.Y ρ own2 i.kk i.cs=some ds) (h0:0≤ρ.n i.x∧ρ.n i.x<((ρ.d i.j).length:Int))
  (hput:putY s all o l undefW (s.m.up (Nat.succ s.m.nx)) (s.Y.set i.i (.od i.e i.z (i.own && own2) s.m.nx))=some s') (k:∀ y,y=putE (ρ.d i.j) (ρ.n i.x) i.off i.whole ds→Sx P K s' (ρ.setD s.m.nx y) Q):Sx P K s ρ Q:=by
 refine Fd hc hop hw (fun c' hc'=>by rw [hc'] at ho;cases ho) fun F hF n b hB Qw hQ σ a w hA=>?_
 obtain ⟨G,hG⟩:=hA.aw.y
 unfold execOp
 simp only [ho,(hA.tm.ev a.defers pa).1,(hA.tm.ev a.defers xa).1]
 unfold storeI at hi
 split at hi
 ·rename_i q off v hpa hxa
  split at hi
  ·rename_i p nn hp hn
   obtain ⟨hcc,hi⟩:=Aj hi
   cases hi
   simp only [Bool.and_eq_true] at hcc
   obtain ⟨⟨c1,c2⟩,c3⟩:=hcc
   have c1:=Nat.le_of_ble_eq_true c1
   have c2:=Nat.eq_of_beq_eq_true c2
   dsimp only at hd h0 hput k
   have hlt0:(ρ.n p.x).toNat<(ρ.d p.j).length:=by omega
   obtain ⟨old,hold⟩:∃ old,(ρ.d p.j)[(ρ.n p.x).toNat]?=some old:=⟨_,List.getElem?_eq_getElem hlt0⟩
   obtain ⟨hlv,hb,hoo,arr,c,aa,h1,h2,h3,hz,h4,h5⟩:=As6 hp hA.aw.ag hG h0.1 hold
   obtain ⟨e1,e2,e3,e4,_⟩:=Aem hp
   obtain ⟨d1,d2⟩:=Ho hA.aw.ag hG _ _ _ hd
   have hdl:ds.length=nn:=by rw [←d2.1,List.length_map];exact c2
   have hcl:(v.cells.map (realC σ)).length=ds.length:=by rw [List.length_map,c2,hdl]
   have hold1:=(h4 _ old hold).1
   have hkz:((ρ.n p.x).toNat+1)*p.z≤c*p.z:=Nat.mul_le_mul_right _ (by omega)
   rw [Nat.add_mul] at hkz
   have hsz:(ρ.n p.x).toNat*p.z+off+(v.cells.map (realC σ)).length≤arr.size:=by omega
   have hone:∀ u∈v.cells.map (realC σ),u.oneCell'=true:=fun u hu=>by
    obtain ⟨jj,hjj⟩:=List.mem_iff_getElem?.1 hu
    have hjl:=(List.getElem?_eq_some_iff.1 hjj).1
    rw [hcl] at hjl
    exact (d2.2 jj _ u (List.getElem?_eq_getElem hjl) hjj).one
   have hst:=run_storeCells_at P (σ.b p.i) ((ρ.n p.x).toNat*p.z+off) p.e (v.cells.map (realC σ)) 0 arr w h1 (by simpa using hsz) hone
   simp only [Nat.add_zero] at hst
   have hrun:(Instr.storeAt t (realW σ (.v (.c (.fp q off)))) (realW σ (.v v))).run P w = .ok () (w.setRow (σ.b p.i) (arr.toList.take ((ρ.n p.x).toNat*p.z+off)++v.cells.map (realC σ)++arr.toList.drop ((ρ.n p.x).toNat*p.z+off+(v.cells.map (realC σ)).length)).toArray):=by
    show (storeVar t ⟨σ.b q,σ.o q+off,none⟩ (realV σ v)).run P w=_
    rw [hb,hoo]
    have hlm:(v.cells.map (realC σ)).length=nn:=by rw [List.length_map];exact c2
    simp [storeVar,Al hn,Hv σ c3,c2,hst]
   rw [hpa,hxa,Sem.run_bind,hrun,Result.andThen_ok]
   have hput2:putE (ρ.d p.j) (ρ.n p.x) off (Nat.beq off 0 && Nat.beq nn p.z) ds=(ρ.d p.j).set (ρ.n p.x).toNat (putAt old off ds):=by
    unfold putE
    rw [List.getD_eq_getElem?_getD,hold,Option.getD_some]
    cases hwh:(Nat.beq off 0 && Nat.beq nn p.z) with
    | false=>rfl
    | true =>
     rw [Bool.and_eq_true] at hwh
     have g1:=Nat.eq_of_beq_eq_true hwh.1
     have g2:=Nat.eq_of_beq_eq_true hwh.2
     subst g1
     rw [cond_true]
     congr 1
     unfold putAt
     rw [List.take_zero,List.nil_append,List.drop_of_length_le (by omega),List.append_nil]
   obtain ⟨τ,k1,k2,_⟩:=hA.aw.turnO hG (own':=p.own && own2) (l:=putE (ρ.d p.j) (ρ.n p.x) off (Nat.beq off 0 && Nat.beq nn p.z) ds) (arr':=(arr.toList.take ((ρ.n p.x).toNat*p.z+off)++v.cells.map (realC σ)++arr.toList.drop ((ρ.n p.x).toNat*p.z+off+(v.cells.map (realC σ)).length)).toArray) e2 hlv h1 h5
    (by simp only [List.size_toArray,List.length_append,List.length_take,List.length_drop,Array.length_toList];omega) h3 (by rw [hput2,List.length_set]) (fun hq=>by rw [Bool.and_eq_true] at hq;exact hq.1) fun w1 hw1=>by
     rw [hput2]
     exact Avo (w:=w) (h4.mono fun g hg=>(Am4 g).1 hg) hw1 hold hcl (by omega) (fun j d u hj hu=>(d2.2 j d u hj hu).keep (fun g hg=>(Am4 g).2 hg) fun _ _ _ _ h=>h) hsz
   -- the goal
   unfold putY at hput
   cases hpr:putR s.nt s.tm o.dst (.ok undefW (s.m.up (Nat.succ s.m.nx))) with
   | no=>rw [hpr] at hput;cases hput
   | ok tm m2 =>
    rw [hpr] at hput
    cases hput
    obtain ⟨x',hx',hpk⟩:=Ei hpr
    cases hx'
    refine k _ rfl F hF n b hB Qw hQ τ _ _ ⟨k2,hpk τ _ a (hA.tm.agree k1 (Nat.le_succ _)) hA.nt (Bt _),by rw [Bz];exact hA.nt,?_⟩
    obtain ⟨rs,q1,q2,q3⟩:=hA.mks
    refine ⟨rs,by rw [Bd];exact q1,q2,fun r hr=>⟨(q3 r hr).1,?_⟩⟩
    rw [setRow_other w (σ.b p.i) r _ fun he=>by have:=(q3 r hr).2;rw [he,h1] at this;cases this]
    exact (q3 r hr).2
  ·cases hi
 ·cases hi
end
end
end Go.Vc
