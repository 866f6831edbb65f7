import Derived.RangeFuncRecord
import Derived.RangeFuncIn
import Derived.RangeFuncLeaves
import Derived.TacticsIn
import Derived.Test.YtneooimijbfmgaaGreatWaAC
set_option linter.unusedVariables false
set_option linter.unusedSimpArgs false
set_option linter.unusedSectionVars false
namespace Go.Vc
variable [Holes]
section
variable {P:Program} {K:Nat→Option (List Value)} {σ τ:Env} {m m1:Mem} {w w1:World}
def entM (k:IntKind) (e:Int×Value×Nat):MapEntry:=⟨.int k e.1,e.2.1,e.2.2⟩
theorem run_getMap {r:Nat} {es:Array MapEntry} {c:Nat} (h:w.heap[r]?=some (.map es c)):(getObj r).run P w = .ok (.map es c) w:=by simp [getObj,Sem.run,h]
theorem run_setMap {r:Nat} {es:Array MapEntry} {c:Nat} (o:Obj) (h:w.heap[r]?=some (.map es c)):(setObj r o).run P w = .ok () (w.putObj r o):=by simp [setObj,Sem.run,h,World.putObj]
theorem goes_putM (w:World) (l:Nat) (o:Obj):Goes w (w.putObj l o):=⟨rfl,rfl,rfl,by simp [World.putObj]⟩
theorem rowM_heap (h:Rel K σ m w) {r:Nat} {k:IntKind} {es:List (Int×Value×Nat)} {c:Nat} (hr:m.S.get r=some (.map k es c)):w.heap[σ.b r]?=some (.map (es.map (entM k)).toArray c):=h.row r _ hr
theorem step_map (h:Rel K σ m w) {r:Nat} {k:IntKind} {es:List (Int×Value×Nat)} {c:Nat} (hr:m.S.get r=some (.map k es c)) (es':List (Int×Value×Nat)) (c':Nat) :
    Step K σ m w σ ⟨m.S.set r (.map k es' c'),m.nx,lower r m.lo⟩ (w.putObj (σ.b r) (.map (es'.map (entM k)).toArray c')):=by
  refine step_turnR h hr rfl rfl rfl (lower_le _ _).1 (lower_le _ _).2 (goes_putM _ _ _) (fun b hb=>World.putObj_heap_other hb) ?_
  show (w.putObj (σ.b r) _).heap[σ.b r]?=some (.map (es'.map (entM k)).toArray c')
  exact World.putObj_heap_same (heap_lt (rowM_heap h hr))
theorem mapTy_ok {t et:Nat} {k:IntKind} (h:mapTy P t=some (k,et)):∃ kt,P.underlying t=some (.map kt et)∧P.underlying kt=some (.int k):=by
  unfold mapTy at h
  split at h
  · rename_i kt et' hu
    split at h
    · rename_i k' hk
      cases h
      exact ⟨kt,hu,hk⟩
    · cases h
  · cases h
theorem rowM_ok {k:IntKind} {x i:W} {r c:Nat} {es:List (Int×Value×Nat)} {n:Int} (h:rowM m k x i=some (r,es,c,n)):x = .v (.c (.mp r))∧i = .v (.c (.raw (.int k n)))∧m.S.get r=some (.map k es c):=by
  unfold rowM at h
  split at h
  · rename_i r' k' n'
    rw [cond_eq_ite] at h
    split at h
    · rename_i hk
      have hk:=eq_of_beq hk
      subst hk
      split at h
      · rename_i kk es' c' hg
        rw [cond_eq_ite] at h
        split at h
        · rename_i hkk
          have hkk:=eq_of_beq hkk
          subst hkk
          cases h
          exact ⟨rfl,rfl,hg⟩
        · cases h
      · cases h
    · cases h
  · cases h
def idxM (n:Int):List (Int×Value×Nat)→Option Nat
  | []=>none
  | e::es=>if e.1=n then some 0 else (idxM n es).map (·+1)
theorem findM_idx (n:Int) (es:List (Int×Value×Nat)):findM n es=(idxM n es).bind fun i=>(es[i]?).map (·.2):=by
  induction es with
  | nil=>rfl
  | cons e es ih =>
    unfold findM idxM
    by_cases he:e.1=n
    · rw [if_pos he,he];simp
    · rw [if_neg he,cond_eq_ite,if_neg (by simpa using he),ih]
      cases idxM n es <;> simp
theorem findNow_ok (q k:IntKind) (n:Int) (es:List (Int×Value×Nat)) (j:Nat):Instr.findNow (.int q) (.int k n) (es.map (entM k)) j=some ((idxM n es).bind fun i=>(es[i]?).map fun e=>(j+i,e.2.1)):=by
  induction es generalizing j with
  | nil=>rfl
  | cons e es ih =>
    have hs:Instr.sameNow (.int q) (.int k n) (.int k e.1)=some (n == e.1):=by simp [Instr.sameNow]
    show (match Instr.sameNow (.int q) (.int k n) (.int k e.1) with
      | some true=>some (some (j,e.2.1))
      | some false=>Instr.findNow (.int q) (.int k n) (es.map (entM k)) (j+1)
      | none=>none)=_
    rw [hs]
    unfold idxM
    by_cases he:e.1=n
    · rw [if_pos he,he];simp
    · have hb:(n == e.1)=false:=by simpa using fun h=>he h.symm
      rw [if_neg he,hb]
      show Instr.findNow _ _ _ (j+1)=_
      rw [ih]
      cases hx:idxM n es with
      | none=>rfl
      | some i=>simp [Nat.add_assoc,Nat.add_comm 1 i]
theorem run_findKey {kt:Nat} {k:IntKind} (hk:P.underlying kt=some (.int k)) (n:Int) (es:List (Int×Value×Nat)):(Instr.findKey kt (.int k n) (es.map (entM k))).run P w = .ok ((idxM n es).bind fun i=>(es[i]?).map fun e=>(i,e.2.1)) w:=by
  unfold Instr.findKey
  rw [Sem.run_bind,run_underlying hk]
  simp only [Result.andThen_ok,findNow_ok,Nat.zero_add]
  rfl
theorem run_checkKey {kt:Nat} {k:IntKind} (hk:P.underlying kt=some (.int k)) (b:Bool) (n:Int):(Instr.checkKey b 10000 kt (.int k n)).run P w = .ok () w:=by
  unfold Instr.checkKey
  rw [Sem.run_bind,run_underlying hk]
  rfl
theorem run_zeroV {t:Nat} {z:Value} (h:zeroV P t=some z):(zeroValue t).run P w = .ok z w:=by
  unfold zeroV at h
  cases hi:P.info? t with
  | none=>rw [hi] at h;cases h
  | some i =>
    rw [hi] at h
    simp [zeroValue,typeInfo,hi,show i.zero=some z from h]
theorem two_lt (v:Value) (b:C) (hb:C.lt m.nx b):W.lt m.nx (.t [V.of v, .c b]):=fun x hx=>by
  rcases List.mem_cons.1 hx with rfl | hx
  · exact ofV_lt _ _
  · rcases List.mem_cons.1 hx with rfl | hx
    · exact hb
    · cases hx
theorem lookup_ok (h:Rel K σ m w) {t:Nat} {x i y:W} {ok:Bool} (hl:lookupW P m t x i ok=some y):(Instr.lookup t (realW σ x) (realW σ i) ok).run P w = .ok (realW σ y) w∧y.lt m.nx:=by
  unfold lookupW at hl
  split at hl
  · rename_i k et hty
    obtain ⟨kt,hu,hk⟩:=mapTy_ok hty
    split at hl
    · rename_i r es c n hrow
      obtain ⟨rfl,rfl,hg⟩:=rowM_ok hrow
      have hh:=rowM_heap h hg
      have key:∀ v b,((idxM n es).bind fun i=>(es[i]?).map fun e=>(i,e.2.1))=(if b=true then some (0,v) else none)∨True:=fun _ _=>.inr trivial
      split at hl
      · rename_i v bn hf
        cases hl
        rw [findM_idx] at hf
        obtain ⟨i,hi,he⟩:=Option.bind_eq_some_iff.1 hf
        obtain ⟨e,he1,he2⟩:=Option.map_eq_some_iff.1 he
        have hfk:((idxM n es).bind fun i=>(es[i]?).map fun e=>(i,e.2.1))=some (i,v):=by rw [hi];simp [he1,he2]
        refine ⟨?_,by
          cases ok
          · exact ofW_lt _ _
          · exact two_lt _ _ trivial⟩
        unfold Instr.lookup
        simp only [Sem.run_bind,run_underlying hu,Result.andThen_ok,realW,realV,realC,run_getMap hh,Sem.run_pure,run_checkKey hk,List.toList_toArray,run_findKey hk,hfk]
        cases ok
        · show Result.ok v w = .ok (realW σ (W.of v)) w;rw [ofW_real]
        · show Result.ok (Value.tuple #[v, .bool true]) w = .ok (.tuple #[realV σ (V.of v), .bool true]) w
          rw [ofV_real]
      · rename_i z hf hz
        cases hl
        rw [findM_idx] at hf
        have hfk:((idxM n es).bind fun i=>(es[i]?).map fun e=>(i,e.2.1))=none:=by
          cases hi:idxM n es with
          | none=>rfl
          | some i =>
            rw [hi] at hf
            simp only [Option.bind_some,Option.map_eq_none_iff] at hf
            simp [hf]
        refine ⟨?_,by
          cases ok
          · exact ofW_lt _ _
          · exact two_lt _ _ trivial⟩
        unfold Instr.lookup
        simp only [Sem.run_bind,run_underlying hu,Result.andThen_ok,realW,realV,realC,run_getMap hh,Sem.run_pure,run_checkKey hk,List.toList_toArray,run_findKey hk,hfk,run_zeroV hz]
        cases ok
        · show Result.ok z w = .ok (realW σ (W.of z)) w;rw [ofW_real]
        · show Result.ok (Value.tuple #[z, .bool false]) w = .ok (.tuple #[realV σ (V.of z), .bool false]) w
          rw [ofV_real]
      · cases hl
    · cases hl
  · cases hl
theorem sl_ptr_new (k:Nat) (v:Value):realW (σ.set m.nx w.heap.size 0 k v) (one (.mp m.nx)) = .map (some w.heap.size):=by
  simp [one,realW,realV,realC]
theorem makeMap_ok (h:Rel K σ m w) {t:Nat} {r:Option Operand} {y:W} (hm:makeMapW P m t r = .ok y m1):r=none ∧
    ∃ τ w',(Instr.makeMap t none).run P w = .ok (realW τ y) w'∧Step K σ m w τ m1 w'∧y.lt m1.nx:=by
  unfold makeMapW at hm
  split at hm
  · rename_i k et hty
    cases hm
    refine ⟨rfl,σ.set m.nx w.heap.size 0 0 undef,w.alloc (.map #[] 0),?_,?_,h.ltnx⟩
    · show _=Result.ok (realW _ (one (.mp m.nx))) _
      rw [sl_ptr_new]
      rfl
    · refine step_add h (.map k [] 0) _ _ _ _ (goes_alloc w _) (fun b hb=>alloc_old w _ b hb) (fun _=>Nat.le_refl _) ?_
      show (w.alloc (.map #[] 0)).heap[(σ.set m.nx w.heap.size 0 0 undef).b m.nx]?=_
      rw [Env.set_b]
      show (w.heap.push (.map #[] 0))[w.heap.size]?=_
      rw [Array.getElem?_push_size];rfl
  · cases hm
theorem idxM_key {n:Int} {es:List (Int×Value×Nat)} {i:Nat} (h:idxM n es=some i):∃ e,es[i]?=some e∧e.1=n:=by
  induction es generalizing i with
  | nil=>cases h
  | cons e es ih =>
    unfold idxM at h
    split at h
    · rename_i he;cases h;exact ⟨e,rfl,he⟩
    · cases hx:idxM n es with
      | none=>rw [hx] at h;cases h
      | some j =>
        rw [hx] at h;cases h
        obtain ⟨e',h1,h2⟩:=ih hx
        exact ⟨e',by simpa using h1,h2⟩
theorem modify_self {α:Type} (l:Array α) (i:Nat) (f:α→α) (hf:∀ x,l[i]?=some x→f x=x):l.modify i f=l:=by
  apply Array.ext_getElem?
  intro j
  rw [Array.getElem?_modify]
  split
  · rename_i he;subst he
    cases hx:l[i]? with
    | none=>rfl
    | some x=>rw [Option.map_some,hf x hx]
  · rfl
theorem mapEntry_ok (h:Rel K σ m w) {t:Nat} {x i y:W} (hl:mapEntryW P m t x i = .ok y m1):∃ w',(Instr.mapEntry t (realW σ x) (realW σ i)).run P w = .ok (realW σ y) w'∧Step K σ m w σ m1 w'∧y.lt m1.nx:=by
  unfold mapEntryW at hl
  split at hl
  · rename_i k et hty
    obtain ⟨kt,hu,hk⟩:=mapTy_ok hty
    split at hl
    · rename_i r es c n hrow
      obtain ⟨rfl,rfl,hg⟩:=rowM_ok hrow
      have hh:=rowM_heap h hg
      have hx:realW σ (.v (.c (.mp r))) = .map (some (σ.b r)):=rfl
      have hi:realW σ (.v (.c (.raw (.int k n)))) = .int k n:=rfl
      rw [hx,hi]
      split at hl
      · rename_i v bn hf
        cases hl
        rw [findM_idx] at hf
        obtain ⟨i,hi,he⟩:=Option.bind_eq_some_iff.1 hf
        obtain ⟨e,he1,he2⟩:=Option.map_eq_some_iff.1 he
        obtain ⟨e',he3,he4⟩:=idxM_key hi
        rw [he1] at he3;cases he3
        have hfk:((idxM n es).bind fun i=>(es[i]?).map fun e=>(i,e.2.1))=some (i,v):=by rw [hi];simp [he1,he2]
        refine ⟨_,?_,step_map h hg es c,two_lt _ _ trivial⟩
        have he5:((es.map (entM k)).toArray)[i]?=some ⟨.int k n,v,bn⟩:=by
          simp [he1,entM,he4,he2]
        unfold Instr.mapEntry
        simp only [Sem.run_bind,run_underlying hu,Result.andThen_ok,run_getMap hh,run_checkKey hk,List.toList_toArray,run_findKey hk,hfk,he5,Option.map_some,Option.getD_some]
        have hks:(Instr.keyThatStays (.int k n) (.int k n)).run P w = .ok (.int k n) w:=by
          have hsb:Instr.sameBits 10000 (.int k n) (.int k n)=true:=by simp [Instr.sameBits]
          simp [Instr.keyThatStays,hsb]
        rw [hks]
        simp only [Result.andThen_ok,Sem.run_bind]
        rw [modify_self _ _ _ (fun x hx=>by rw [he5] at hx;cases hx;rfl),run_setMap _ hh]
        simp only [Result.andThen_ok,Sem.run_pure]
        show _=Result.ok (Value.tuple #[realV σ (V.of v),goInt bn]) _
        rw [ofV_real]
      · rename_i hf
        split at hl
        · rename_i z hz
          cases hl
          rw [findM_idx] at hf
          have hfk:((idxM n es).bind fun i=>(es[i]?).map fun e=>(i,e.2.1))=none:=by
            cases hi:idxM n es with
            | none=>rfl
            | some i =>
              rw [hi] at hf
              simp only [Option.bind_some,Option.map_eq_none_iff] at hf
              simp [hf]
          refine ⟨_,?_,step_map h hg _ _,two_lt _ _ trivial⟩
          unfold Instr.mapEntry
          simp only [Sem.run_bind,run_underlying hu,Result.andThen_ok,run_getMap hh,run_checkKey hk,List.toList_toArray,run_findKey hk,hfk,run_zeroV hz]
          have:(es.map (entM k)).toArray.push { key := .int k n,val:=z,born:=c }=((es++[(n,z,c)]).map (entM k)).toArray:=by simp [entM]
          rw [this,run_setMap _ hh]
          simp only [Result.andThen_ok,Sem.run_pure]
          show _=Result.ok (Value.tuple #[realV σ (V.of z),goInt c]) _
          rw [ofV_real]
        · cases hl
    · cases hl
  · cases hl
theorem setK_ok {n:Int} {v:Value} {k:IntKind} {es es':List (Int×Value×Nat)} (h:setK n v es=some es') :
    ∃ i e,idxM n es=some i∧es[i]?=some e∧e.1=n∧(es.map (entM k)).modify i (fun e=>{ e with key := .int k n,val:=v })=es'.map (entM k):=by
  induction es generalizing es' with
  | nil=>cases h
  | cons e es ih =>
    unfold setK at h
    rw [cond_eq_ite] at h
    split at h
    · rename_i hb
      have hb:=eq_of_beq hb
      cases h
      refine ⟨0,e,?_,rfl,hb,?_⟩
      · unfold idxM;rw [if_pos hb]
      · simp [List.modify_cons,entM,hb]
    · rename_i hb
      have hb:¬e.1=n:=fun he=>hb (by rw [he];simp)
      split at h
      · rename_i es1 h1
        cases h
        obtain ⟨i,e',h2,h3,h4,h5⟩:=ih h1
        refine ⟨i+1,e',?_,by simpa using h3,h4,?_⟩
        · unfold idxM;rw [if_neg hb,h2];rfl
        · rw [List.map_cons,List.modify_succ_cons,h5];rfl
      · cases h
theorem setK_none {n:Int} {v:Value} {es:List (Int×Value×Nat)} (h:setK n v es=none):idxM n es=none:=by
  induction es with
  | nil=>rfl
  | cons e es ih =>
    unfold setK at h
    rw [cond_eq_ite] at h
    split at h
    · cases h
    · rename_i hb
      have hb:¬e.1=n:=fun he=>hb (by rw [he];simp)
      split at h
      · cases h
      · rename_i h1
        unfold idxM;rw [if_neg hb,ih h1];rfl
theorem mapUpdate_ok (h:Rel K σ m w) {t:Nat} {x i v y:W} (hl:mapUpdateW P m t x i v = .ok y m1):∃ w',(Instr.mapUpdate t (realW σ x) (realW σ i) (realW σ v)).run P w = .ok () w'∧Step K σ m w σ m1 w'∧y=undefW:=by
  unfold mapUpdateW at hl
  split at hl
  · rename_i k et hty
    obtain ⟨kt,hu,hk⟩:=mapTy_ok hty
    split at hl
    · rename_i r es c n v' hrow hv
      obtain ⟨rfl,rfl,hg⟩:=rowM_ok hrow
      have hh:=rowM_heap h hg
      have hx:realW σ (.v (.c (.mp r))) = .map (some (σ.b r)):=rfl
      have hi:realW σ (.v (.c (.raw (.int k n)))) = .int k n:=rfl
      rw [hx,hi,rawW_ok hv]
      split at hl
      · rename_i es' hs
        cases hl
        obtain ⟨i,e,h1,h2,h3,h4⟩:=setK_ok (k:=k) hs
        have hfk:((idxM n es).bind fun i=>(es[i]?).map fun e=>(i,e.2.1))=some (i,e.2.1):=by rw [h1];simp [h2]
        have he5:((es.map (entM k)).toArray)[i]?=some ⟨.int k n,e.2.1,e.2.2⟩:=by
          simp [h2,entM,h3]
        refine ⟨_,?_,step_map h hg es' c,rfl⟩
        unfold Instr.mapUpdate
        simp only [Sem.run_bind,run_underlying hu,Result.andThen_ok,run_getMap hh,run_checkKey hk,List.toList_toArray,run_findKey hk,hfk,he5,Option.map_some,Option.getD_some]
        have hks:(Instr.keyThatStays (.int k n) (.int k n)).run P w = .ok (.int k n) w:=by
          have hsb:Instr.sameBits 10000 (.int k n) (.int k n)=true:=by simp [Instr.sameBits]
          simp [Instr.keyThatStays,hsb]
        rw [hks]
        simp only [Result.andThen_ok]
        have h6:((es.map (entM k)).toArray.modify i fun e=>{ e with key := .int k n,val:=v' })=(es'.map (entM k)).toArray:=by
          rw [←h4,List.modify_toArray]
        rw [h6,run_setMap _ hh]
      · rename_i hs
        cases hl
        have hfk:((idxM n es).bind fun i=>(es[i]?).map fun e=>(i,e.2.1))=none:=by rw [setK_none hs];rfl
        refine ⟨_,?_,step_map h hg _ _,rfl⟩
        unfold Instr.mapUpdate
        simp only [Sem.run_bind,run_underlying hu,Result.andThen_ok,run_getMap hh,run_checkKey hk,List.toList_toArray,run_findKey hk,hfk]
        have:(es.map (entM k)).toArray.push { key := .int k n,val:=v',born:=c }=((es++[(n,v',c)]).map (entM k)).toArray:=by simp [entM]
        rw [this,run_setMap _ hh]
    · cases hl
  · cases hl
theorem setM_ok {b:Nat} {v:Value} {k:IntKind} {es es':List (Int×Value×Nat)} (h:setM b v es=some es') :
    ∃ i,(es.map (entM k)).findIdx? (fun e=>(e.born:Int) == (b:Int))=some i∧(es.map (entM k)).modify i (fun e=>{ e with val:=v })=es'.map (entM k):=by
  induction es generalizing es' with
  | nil=>cases h
  | cons e es ih =>
    unfold setM at h
    rw [cond_eq_ite] at h
    split at h
    · rename_i hb
      have hb:=Nat.eq_of_beq_eq_true hb
      cases h
      refine ⟨0,?_,?_⟩
      · rw [List.map_cons,List.findIdx?_cons,if_pos (by simp [entM,hb])]
      · simp [List.modify_cons,entM,hb]
    · rename_i hb
      split at h
      · rename_i es1 h1
        cases h
        obtain ⟨i,h2,h3⟩:=ih h1
        refine ⟨i+1,?_,?_⟩
        · rw [List.map_cons,List.findIdx?_cons,if_neg (by
            simp [entM]
            intro he
            have he':e.2.2=b:=by exact_mod_cast he
            exact hb (by rw [he'];exact Nat.beq_refl _)),h2];rfl
        · rw [List.map_cons,List.modify_succ_cons,h3];rfl
      · cases h
theorem entryStore_ok (h:Rel K σ m w) {t:Nat} {x b v y:W} (hl:entryStoreW m x b v = .ok y m1):∃ w',(Instr.entryStore t (realW σ x) (realW σ b) (realW σ v)).run P w = .ok () w'∧Step K σ m w σ m1 w'∧y=undefW:=by
  unfold entryStoreW at hl
  split at hl
  · rename_i r bn v' hb hv
    obtain ⟨kb,hb⟩:=natW_ok (σ:=σ) hb
    split at hl
    · rename_i k es c hg
      have hh:=rowM_heap h hg
      split at hl
      · rename_i es' hs
        cases hl
        obtain ⟨i,h1,h2⟩:=setM_ok (k:=k) hs
        refine ⟨_,?_,step_map h hg es' c,rfl⟩
        rw [hb,rawW_ok hv]
        show (Instr.entryStore t (.map (some (σ.b r))) (.int kb bn) v').run P w=_
        unfold Instr.entryStore
        simp only [Sem.run_bind,Result.andThen_ok,run_getMap hh,asInt,asIntOf,Sem.run_pure]
        have h3:(es.map (entM k)).toArray.findIdx? (fun e=>(e.born:Int) == (bn:Int))=some i:=by
          rw [List.findIdx?_toArray];exact h1
        rw [h3]
        simp only
        have h4:((es.map (entM k)).toArray.modify i fun e=>{ e with val:=v' })=(es'.map (entM k)).toArray:=by
          rw [←h2,List.modify_toArray]
        rw [h4,run_setMap _ hh]
      · cases hl
    · cases hl
  · cases hl
theorem clrM_ok (h:Rel K σ m w) {t ty:Nat} {r:Nat} {y:W} (hu:(P.underlying t).isSome=true) (hc:clearMapW m r = .ok y m1) :
    ∃ w',(Builtin.clear_ #[t] ty #[realW σ (.v (.c (.mp r)))]).run P w = .ok (realW σ y) w'∧Step K σ m w σ m1 w'∧y.lt m1.nx:=by
  unfold clearMapW at hc
  split at hc
  · rename_i k es c hg
    cases hc
    have hh:=rowM_heap h hg
    refine ⟨_,?_,step_map h hg [] c,undefW_lt _⟩
    obtain ⟨d,hd⟩:=Option.isSome_iff_exists.1 hu
    show (Builtin.clear_ #[t] ty #[.map (some (σ.b r))]).run P w=_
    simp only [Builtin.clear_,List.getElem?_toArray,List.getElem?_cons_zero,Sem.run_bind,run_underlying hd,Result.andThen_ok,run_getMap hh,run_setMap _ hh,Sem.run_pure]
    simp [undefW,realW]
  · cases hc
theorem clr_ok (h:Rel K σ m w) {t ty:Nat} {x y:W} (hc:clrW P m t x = .ok y m1) :
    ∃ w',(Builtin.clear_ #[t] ty #[realW σ x]).run P w = .ok (realW σ y) w'∧Step K σ m w σ m1 w'∧y.lt m1.nx:=by
  unfold clrW at hc
  split at hc
  · rename_i r
    rw [cond_eq_ite] at hc
    split at hc
    · rename_i hu;exact clrM_ok h hu hc
    · cases hc
  · exact clear_ok h hc
end
end Go.Vc

namespace Go.Vc
variable [Holes]
structure WF (F:Fence):Prop where
  fn:∀ f,F.fn f
  depth:F.depth=none
  alive:F.alive=false
def Und (F:Fence) (P:Program) (Φ:Value→World→Prop):Result Next→Prop
  | .ok (.value v) w=>Φ v w
  | .ok .skip w=>Φ undef w
  | .ok (.enter f args) w=>∀ n,CallsIn F n P f args w fun e w'=>∃ v,e = .returned v∧Φ v w'
  | .ok (.round l f tmps assign body) w=>∀ n,RoundIn F n P l f tmps assign body w fun e w'=>∃ v,e = .returned v∧Φ v w'
  | _=>False
def CanEnter (P : Program) (f : FuncId) : Prop := ∃ fn, P.funcs[f]? = some fn ∧ (fn.name == "runtime.NumGoroutine") = false ∧ fn.body.isSome = true
def MarksOk (B:Nat) (a:Act) (w:World):Prop:=∃ rs:List Nat,a.defers=rs.map (fun r=>({ target := .collected r,args:=#[] }:Deferred))∧rs.Nodup∧∀ r∈rs,B≤r∧w.heap[r]?=some (.deferred (some []))
section
variable {P:Program} {K:Nat→Option (List Value)} {σ τ:Env} {m m1:Mem} {w w1:World} {F:Fence}
theorem Step.other (k:Step K σ m w τ m1 w1) (hr:Rel K σ m w) {b:Nat} {o:Obj} (hb:w.heap[b]?=some o) (h1:∀ c e f,o≠.cells c e f) (h2:∀ l,o≠.loop l) (h3:∀ es c,o≠.map es c):w1.heap[b]?=some o:=by
  rw [k.frame b (heap_lt hb) (fun i r hi hrb he=>?_),hb]
  exfalso
  have:=hr.row i r hi
  cases r with
  | cells e q cs=>obtain ⟨arr,a1,_⟩:=this;rw [he,hb] at a1;cases a1;exact h1 _ _ _ rfl
  | loop st p nt tm ps a b=>obtain ⟨fn,tmps,df,_,_,_,a4⟩:=this;rw [he,hb] at a4;cases a4;exact h2 _ rfl
  | map k es c=>have this:w.heap[σ.b i]?=_:=this;rw [he,hb] at this;cases this;exact h3 _ _ rfl
  | fn=>cases hrb
  | val=>cases hrb
  | dead=>cases hrb
theorem MarksOk.step {B:Nat} {a:Act} (h:MarksOk B a w) (hr:Rel K σ m w) (k:Step K σ m w τ m1 w1) {tmps:Array Value}:MarksOk B { a with tmps:=tmps } w1:=by
  obtain ⟨rs,h1,h2,h3⟩:=h
  exact ⟨rs,h1,h2,fun r hrr=>⟨(h3 r hrr).1,k.other hr (h3 r hrr).2 (fun _ _ _=>by simp) (fun _=>by simp) (fun _ _=>by simp)⟩⟩
theorem callFunc_run {f:Nat} {args:Array Value} (h:CanEnter P f):(callFunc f args).run P w = .ok (.enter f args) w:=by
  obtain ⟨fn,hf,hn,hb⟩:=h
  have hn' : ¬ fn.name = "runtime.NumGoroutine" := by simpa using hn
  have hb':¬fn.body=none:=fun e=>by rw [e] at hb;cases hb
  simp [callFunc,hf,hn',hb']
theorem evs_map {a:Act} {tm:Tm} (h:TmOk σ m.nx a.tmps tm) (xs:Array Operand):xs.map a.eval=((xs.toList.map (ev tm)).map (realW σ)).toArray:=by
  apply Array.ext'
  simp only [Array.toList_map,List.map_map,List.toList_toArray]
  refine List.map_congr_left fun x _=>?_
  exact (h.ev a.defers x).1
theorem evs_lt {a:Act} {tm:Tm} (h:TmOk σ m.nx a.tmps tm) (xs:Array Operand):∀ x∈xs.toList.map (ev tm),W.lt m.nx x:=fun x hx=>by
  obtain ⟨y,_,rfl⟩:=List.mem_map.1 hx
  exact (h.ev a.defers y).2
theorem rawB_ok {b:Builtin} {ts:Array TypeId} {xs:List W} {ty:TypeId} {y:W} {cs:Array Bool} (h:rawB P b ts (xs.mapM W.raw?) ty=some y) (n:Nat) :
    (builtin b ts ty cs (xs.map (realW σ)).toArray).run P w = .ok (.value (realW σ y)) w∧y.lt n:=by
  unfold rawB at h
  split at h
  · rename_i vs hv
    rw [cond_eq_ite] at h
    split at h
    · rename_i hp
      split at h
      · rename_i v hv'
        cases h
        rw [rawWs_ok xs vs hv,ofW_real]
        refine ⟨?_,ofW_lt _ _⟩
        have:=pureRun_ok w _ _ hv'
        rw [←this]
        cases b <;> first | rfl | (exact absurd hp (by simp [pureB]))
      · cases h
    · cases h
  · cases h
theorem len_b {t ty:Nat} {x:W} {n:Nat} (h:lenOf P t x=some n):(Builtin.len_ #[t] ty #[realW σ x]).run P w = .ok (goInt n) w:=by
  unfold lenOf at h
  split at h
  · rename_i r o k z c e hu
    cases h
    have:∃ q,realW σ (.v (.c (.sl r o n z c))) = .slice (some ⟨σ.b r,σ.o r+o,none⟩) n q:=by cases c <;> exact ⟨_,rfl⟩
    obtain ⟨q,hq⟩:=this
    rw [hq]
    simp [Builtin.len_,run_underlying hu]
  · rename_i r p o z e hu
    cases h
    show (Builtin.len_ #[t] ty #[.slice (some _) 0 _]).run P w=_
    simp [Builtin.len_,run_underlying hu]
  · rename_i r o a hu
    split at h
    · rename_i k e hu2
      cases h
      show (Builtin.len_ #[t] ty #[.pointer _]).run P w=_
      simp [Builtin.len_,run_underlying hu,run_underlying hu2]
    · cases h
  · rename_i cs k e hu
    cases h
    show (Builtin.len_ #[t] ty #[.agg _]).run P w=_
    simp [Builtin.len_,run_underlying hu]
  · cases h
theorem cap_b {t ty:Nat} {x:W} {n:Nat} (h:capOf P t x=some n):(Builtin.cap_ #[t] ty #[realW σ x]).run P w = .ok (goInt n) w:=by
  unfold capOf at h
  split at h
  · rename_i r o k z c e hu
    cases h
    show (Builtin.cap_ #[t] ty #[.slice (some _) k n]).run P w=_
    simp [Builtin.cap_,run_underlying hu]
  · cases h
theorem builtin_ok (h:Rel K σ m w) {b:Builtin} {ts:Array TypeId} {xs:List W} {ty:TypeId} {y:W} {cs:Array Bool} (hb:builtinW P b ts xs (xs.mapM W.raw?) ty m = .ok y m1) (hl:∀ x∈xs,W.lt m.nx x) :
    ∃ τ w',(builtin b ts ty cs (xs.map (realW σ)).toArray).run P w = .ok (.value (realW τ y)) w'∧Step K σ m w τ m1 w'∧y.lt m1.nx:=by
  have one:∀ {ts:Array TypeId} {t:Nat},ts.toList=[t]→ts=#[t]:=fun h=>Array.ext' h
  have two:∀ {ts:Array TypeId} {t u:Nat},ts.toList=[t,u]→ts=#[t,u]:=fun h=>Array.ext' h
  unfold builtinW at hb
  split at hb
  · split at hb
    · rename_i t u s x hts
      have:=two hts;subst this
      obtain ⟨τ,w',h1,h2,h3⟩:=append_ok (ty:=ty) h hb (hl s (by simp))
      refine ⟨τ,w',?_,h2,h3⟩
      show (do pure (.value (←Builtin.append_ #[t,u] ty #[realW σ s,realW σ x])):Sem Next).run P w=_
      rw [Sem.run_bind,h1];rfl
    · cases hb
  · split at hb
    · rename_i t u s x hts
      have:=two hts;subst this
      obtain ⟨w',h1,h2,h3⟩:=copy_ok (xT:=u) (ty:=ty) h hb
      refine ⟨σ,w',?_,h2,h3⟩
      show (do pure (.value (←Builtin.copy_ #[t,u] ty #[realW σ s,realW σ x])):Sem Next).run P w=_
      rw [Sem.run_bind,h1];rfl
    · cases hb
  · split at hb
    · rename_i t x hts
      have:=one hts;subst this
      obtain ⟨w',h1,h2,h3⟩:=clr_ok (ty:=ty) h hb
      refine ⟨σ,w',?_,h2,h3⟩
      show (do pure (.value (←Builtin.clear_ #[t] ty #[realW σ x])):Sem Next).run P w=_
      rw [Sem.run_bind,h1];rfl
    · cases hb
  · split at hb
    · rename_i t x hts
      have:=one hts;subst this
      obtain ⟨hb2,rfl⟩:=purW_ok hb
      unfold intOr at hb2
      split at hb2
      · rename_i n hn
        cases hb2
        refine ⟨σ,w,?_,Step.refl h,trivial⟩
        show (do pure (.value (←Builtin.len_ #[t] ty #[realW σ x])):Sem Next).run P w=_
        rw [Sem.run_bind,len_b hn];rfl
      · obtain ⟨h1,h2⟩:=rawB_ok (σ:=σ) (w:=w) (cs:=cs) hb2 m1.nx
        exact ⟨σ,w,h1,Step.refl h,h2⟩
    · cases hb
  · split at hb
    · rename_i t x hts
      have:=one hts;subst this
      obtain ⟨hb2,rfl⟩:=purW_ok hb
      unfold intOr at hb2
      split at hb2
      · rename_i n hn
        cases hb2
        refine ⟨σ,w,?_,Step.refl h,trivial⟩
        show (do pure (.value (←Builtin.cap_ #[t] ty #[realW σ x])):Sem Next).run P w=_
        rw [Sem.run_bind,cap_b hn];rfl
      · obtain ⟨h1,h2⟩:=rawB_ok (σ:=σ) (w:=w) (cs:=cs) hb2 m1.nx
        exact ⟨σ,w,h1,Step.refl h,h2⟩
    · cases hb
  · obtain ⟨hb2,rfl⟩:=purW_ok hb
    obtain ⟨h1,h2⟩:=rawB_ok (σ:=σ) (w:=w) (cs:=cs) hb2 m1.nx
    exact ⟨σ,w,h1,Step.refl h,h2⟩
end
end Go.Vc

namespace Go.Vc
variable [Holes]
section
variable {P:Program} {K:Nat→Option (List Value)} {σ τ:Env} {m m1:Mem} {w w1:World} {F:Fence} {Φ:Value→World→Prop}
theorem und_value {s:Sem Value} {v:Value} {w':World} (h:s.run P w = .ok v w') (hΦ:Φ v w'):Und F P Φ ((do pure (.value (←s)):Sem Next).run P w):=by
  rw [Sem.run_bind,h];exact hΦ
theorem und_does {s:Sem Value} {x:W} (h:Does P K σ m w s x m1) (hΦ:∀ τ w',Step K σ m w τ m1 w'→x.lt m1.nx→Φ (realW τ x) w'):Und F P Φ ((do pure (.value (←s)):Sem Next).run P w):=by
  obtain ⟨τ,w',h1,h2,h3⟩:=h
  exact und_value h1 (hΦ τ w' h2 h3)
theorem rawO_ok {a:Act} {tm:Tm} (hT:TmOk σ m.nx a.tmps tm) {x:Option Operand} {v:Option Value} (h:rawO tm x=some v):x.map a.eval=v:=by
  unfold rawO at h
  split at h
  · rename_i o
    split at h
    · rename_i u hu
      cases h
      rw [Option.map_some,(hT.ev a.defers o).1,rawW_ok hu]
    · cases h
  · cases h;rfl
theorem evO_map {a:Act} {tm:Tm} (hT:TmOk σ m.nx a.tmps tm) (x:Option Operand):x.map a.eval=(x.map (ev tm)).map (realW σ):=by
  cases x with
  | none=>rfl
  | some o=>rw [Option.map_some,Option.map_some,Option.map_some,(hT.ev a.defers o).1]
theorem evP_map {a:Act} {tm:Tm} (hT:TmOk σ m.nx a.tmps tm) (l:Array (Nat×Operand)):(l.map fun (i,x)=>(i,a.eval x))=((evs tm l).map fun p=>(p.1,realW σ p.2)).toArray:=by
  apply Array.ext'
  unfold evs
  simp only [Array.toList_map,List.map_map,List.toList_toArray]
  refine List.map_congr_left fun x _=>?_
  obtain ⟨i,x⟩:=x
  show (i,a.eval x)=(i,realW σ (ev tm x))
  rw [(hT.ev a.defers x).1]
theorem evP_lt {a:Act} {tm:Tm} (hT:TmOk σ m.nx a.tmps tm) (l:Array (Nat×Operand)):∀ p∈evs tm l,W.lt m.nx p.2:=fun p hp=>by
  unfold evs at hp
  obtain ⟨⟨i,x⟩,_,rfl⟩:=List.mem_map.1 hp
  exact (hT.ev a.defers x).2
theorem purW_does (h:Rel K σ m w) {x:Option W} {y:W} {s:Sem Value} (hp:purW x m = .ok y m1) (hs:x=some y→s.run P w = .ok (realW σ y) w∧y.lt m.nx):Does P K σ m w s y m1:=by
  obtain ⟨h1,rfl⟩:=purW_ok hp
  exact Does.pure h (hs h1)
theorem pick_ok {a:Act} {tm:Tm} (hT:TmOk σ m.nx a.tmps tm) {c x y:Operand} {z:W} (h:pickW tm c x y=some z):(do pure (.value (if ←asBool (a.eval c) then a.eval x else a.eval y)):Sem Next).run P w = .ok (.value (realW σ z)) w∧z.lt m.nx:=by
  unfold pickW at h
  split at h
  · rename_i b hb
    cases h
    have hc:a.eval c = .bool b:=by rw [(hT.ev a.defers c).1,hb];rfl
    rw [hc]
    cases b
    · exact ⟨by simp [asBool,(hT.ev a.defers y).1],(hT.ev a.defers y).2⟩
    · exact ⟨by simp [asBool,(hT.ev a.defers x).1],(hT.ev a.defers x).2⟩
  · cases h
theorem op_plain {o:Oper} {a:Act} {tm:Tm} {x:W} (hc:∀ c,o.op≠.call c) (ho:opW P K o.op o.type tm m = .ok x m1) (h:Rel K σ m w) (hT:TmOk σ m.nx a.tmps tm)
    (hΦ:∀ τ w',Step K σ m w τ m1 w'→x.lt m1.nx→Φ (realW τ x) w'):Und F P Φ ((execOp a.eval o).run P w):=by
  have E:∀ p,a.eval p=realW σ (ev tm p):=fun p=>(hT.ev a.defers p).1
  have L:∀ p,W.lt m.nx (ev tm p):=fun p=>(hT.ev a.defers p).2
  unfold execOp
  revert ho
  cases hop:o.op <;> intro ho <;> simp only [opW] at ho <;> dsimp only
  case move p=>cases ho;rw [E p];exact hΦ σ w (Step.refl h) (L p)
  case assign p=>cases ho;rw [E p];exact hΦ σ w (Step.refl h) (L p)
  case pick c p q =>
    obtain ⟨h1,rfl⟩:=purW_ok ho
    obtain ⟨h2,h3⟩:=pick_ok (P:=P) (w:=w) hT h1
    rw [h2]
    exact hΦ σ w (Step.refl h) h3
  case alloc e=>exact und_does (alloc_ok h ho) hΦ
  case box e p=>simp only [E p];exact und_does (box_ok h ho (L p)) hΦ
  case build t ps=>simp only [evP_map hT];exact und_does (purW_does h ho fun hx=>build_ok hx (evP_lt hT ps)) hΦ
  case buildSlice t n ps=>simp only [evP_map hT];exact und_does (buildSlice_ok h ho (evP_lt hT ps)) hΦ
  case load t p =>
    simp only [E p]
    exact und_does (purW_does h ho fun hx=>load_ok h hx (L p)) hΦ
  case store t p q =>
    simp only [E p,E q]
    unfold stW at ho
    split at ho
    · rename_i m2 hs
      cases ho
      obtain ⟨w',h1,h2⟩:=store_ok (P:=P) h hs (L q)
      rw [Sem.run_bind,h1]
      exact hΦ σ w' h2 (undefW_lt _)
    · cases ho
  case nilCheck p =>
    obtain ⟨h1,rfl⟩:=purW_ok ho
    obtain ⟨h2,h3⟩:=nilCheck_ok (P:=P) h h1 (L p)
    have:=h3 o p a.eval hop (E p)
    unfold execOp at this
    simp only [hop] at this
    rw [this]
    exact hΦ σ w (Step.refl h) (by rw [h2];exact L p)
  case binOp op t p q u=>simp only [E p,E q];exact und_does (purW_does h ho fun hx=>bin2_ok h hx) hΦ
  case unOp op t p=>simp only [E p];exact und_does (purW_does h ho fun hx=>un_ok hx _) hΦ
  case convert s d p=>simp only [E p];exact und_does (purW_does h ho fun hx=>convM_ok h hx) hΦ
  case makeInterface t p=>simp only [E p];exact und_does (iface_ok h ho (L p)) hΦ
  case makeFunc f first caps =>
    simp only [evs_map hT]
    cases ho
    refine und_value (s:=Instr.makeFunc f _ _) rfl ?_
    have:=hΦ _ w (fn_step h (evs_lt hT first) (evs_lt hT caps)) h.ltnx
    simpa [one,realW,realV,realC] using this
  case makeSlice t p q=>simp only [E p,E q];exact und_does (makeSlice_ok h ho) hΦ
  case slice t p lo hi mx =>
    obtain ⟨h1,rfl⟩:=purW_ok ho
    refine und_does (Does.pure h ?_) hΦ
    unfold sliceOp at h1
    split at h1
    · rename_i v hv
      split at h1
      · rename_i l hh hl hhh
        rw [E p,hv,rawO_ok hT hl,rawO_ok hT hhh]
        exact prun_ok h1 _
      · cases h1
    · rw [E p,evO_map hT,evO_map hT,evO_map hT]
      exact slice_ok h h1 (L p)
  case fieldAddr t p f =>
    simp only [E p]
    exact und_does (purW_does h ho fun hx=>fieldAddr_ok hx (L p)) hΦ
  case field t p f=>simp only [E p];exact und_does (purW_does h ho fun hx=>field_ok hx (L p)) hΦ
  case indexAddr t p q =>
    simp only [E p,E q]
    refine und_does ?_ hΦ
    refine purW_does h ho fun hx=>?_
    unfold indexAddrOp at hx
    split at hx
    · rename_i u hu
      split at hx
      · rename_i v hv
        rw [hu,rawW_ok hv]
        exact prun_ok hx _
      · cases hx
    · exact indexAddr_ok hx (L p)
  case index t p q=>simp only [E p,E q];exact und_does (purW_does h ho fun hx=>index_ok hx (L p)) hΦ
  case extract p i=>simp only [E p];exact und_does (purW_does h ho fun hx=>extract_ok hx (L p)) hΦ
  case typeAssert p t0 t ok=>simp only [E p];exact und_does (purW_does h ho fun hx=>assert_ok h hx) hΦ
  case call c=>exact absurd hop (hc c)
  case makeMap t r =>
    obtain ⟨rfl,hd⟩:=makeMap_ok (P:=P) h ho
    exact und_does hd hΦ
  case lookup t p q ok=>simp only [E p,E q];exact und_does (purW_does h ho fun hx=>lookup_ok h hx) hΦ
  case mapEntry t p q =>
    simp only [E p,E q]
    obtain ⟨w',h1,h2,h3⟩:=mapEntry_ok (P:=P) h ho
    exact und_does ⟨σ,w',h1,h2,h3⟩ hΦ
  case mapUpdate t p q r =>
    simp only [E p,E q,E r]
    obtain ⟨w',h1,h2,rfl⟩:=mapUpdate_ok (P:=P) h ho
    rw [Sem.run_bind,h1]
    exact hΦ σ w' h2 (undefW_lt _)
  case entryStore t p q r =>
    simp only [E p,E q,E r]
    obtain ⟨w',h1,h2,rfl⟩:=entryStore_ok (P:=P) (t:=t) h ho
    rw [Sem.run_bind,h1]
    exact hΦ σ w' h2 (undefW_lt _)
  all_goals cases ho
end
end Go.Vc

namespace Go.Vc
variable [Holes]
section
variable {P:Program} {K:Nat→Option (List Value)} {σ τ:Env} {m m1:Mem} {w w1:World} {F:Fence} {Φ:Value→World→Prop}
theorem builtin_und {o:Oper} {c:Call} {a:Act} {tm:Tm} {x:W} (hop:o.op = .call c) (ho:callOp P tm m c o.type = .ok x m1) (h:Rel K σ m w) (hT:TmOk σ m.nx a.tmps tm)
    (hΦ:∀ τ w',Step K σ m w τ m1 w'→x.lt m1.nx→Φ (realW τ x) w'):Und F P Φ ((execOp a.eval o).run P w):=by
  unfold execOp
  simp only [hop]
  unfold callOp at ho
  unfold resolve
  rw [evs_map hT c.args]
  split at ho
  · rename_i b hcal
    simp only [hcal]
    have key:∀ cs,Und F P Φ ((builtin b c.argTypes o.type cs (((c.args.toList.map (ev tm)).map (realW σ)).toArray)).run P w):=fun cs=>by
      obtain ⟨τ,w',h1,h2,h3⟩:=builtin_ok (cs:=cs) h ho (evs_lt hT c.args)
      rw [h1]
      exact hΦ τ w' h2 h3
    simp only [Sem.run_bind,Sem.run_pure,Result.andThen_ok]
    exact key _
  · cases ho
theorem op_und {o:Oper} {a:Act} {tm:Tm} {x:W} (ho:opW P K o.op o.type tm m = .ok x m1) (h:Rel K σ m w) (hT:TmOk σ m.nx a.tmps tm)
    (hΦ:∀ τ w',Step K σ m w τ m1 w'→x.lt m1.nx→Φ (realW τ x) w'):Und F P Φ ((execOp a.eval o).run P w):=by
  by_cases hc:∃ c,o.op = .call c
  · obtain ⟨c,hc⟩:=hc
    rw [hc] at ho
    simp only [opW] at ho
    exact builtin_und hc ho h hT hΦ
  · exact op_plain (fun c hq=>hc ⟨c,hq⟩) ho h hT hΦ
theorem want_ok {a:Act} {tm:Tm} (hT:TmOk σ m.nx a.tmps tm) (ops:Array Oper) (o:Oper) (hop:openB ops tm o=false):Region.wanted o (yielded ops a.tmps)=wantW ops tm o:=by
  unfold Region.wanted wantW
  cases hg:o.guard with
  | none=>rfl
  | some g =>
    obtain ⟨j,b⟩:=g
    simp only
    unfold yielded
    unfold openB at hop
    rw [hg] at hop
    simp only at hop
    cases hd:(ops[j]?).bind (·.dst) with
    | none=>rfl
    | some d =>
      simp only [Option.bind_some]
      rw [hd] at hop
      simp only at hop
      have hget:=hT.get d
      rw [Array.getD_eq_getD_getElem?] at hget
      rcases Nat.lt_or_ge d a.tmps.size with hlt | hge
      · rw [Array.getElem?_eq_getElem hlt] at hget ⊢
        rw [Option.getD_some] at hget
        rw [hget]
        cases hx:tm.get d with
        | t l=>rfl
        | v y =>
          cases y with
          | a cs=>rfl
          | c z =>
            cases z with
            | raw v=>cases v <;> first | rfl | (rename_i q;cases q <;> cases b <;> rfl)
            | sb q=>rw [hx] at hop;cases hop
            | sl r o n z c=>cases c <;> rfl
            | clo i =>
              have hh:(∃ f p q,realC σ (.clo i) = .func f p q)∨realC σ (.clo i) = .nilFunc:=by
                simp only [realC]
                split
                · exact .inl ⟨_,_,_,rfl⟩
                · exact .inr rfl
              rw [show realW σ (.v (.c (.clo i)))=realC σ (.clo i) from rfl]
              rcases hh with ⟨f,p,q,hh⟩ | hh <;> rw [hh] <;> rfl
            | fz i =>
              have hh:(∃ a n c,realC σ (.fz i) = .slice a n c)∨realC σ (.fz i) = .nilFunc:=by
                simp only [realC]
                split
                · exact .inl ⟨_,_,_,rfl⟩
                · exact .inr rfl
              rw [show realW σ (.v (.c (.fz i)))=realC σ (.fz i) from rfl]
              rcases hh with ⟨f,p,q,hh⟩ | hh <;> rw [hh] <;> rfl
            | _=>rfl
      · rw [Array.getElem?_eq_none hge] at hget ⊢
        have hb:isB (tm.get d) b=false:=by
          unfold isB
          split
          · rename_i c hc
            rw [hc] at hget
            cases hget
          · rfl
        rw [hb];rfl
theorem und_in {n:Nat} {o:Oper} {a:Act} {next:Act→World→Prop} {Q:Exit→Act→World→Prop} (hF:WF F) (hnd:∀ c,o.op≠.defer c) (h:Und F P (fun v w'=>next (a.put o.dst v) w') ((execOp a.eval o).run P w)):o.wpIn F n P a w next Q:=by
  have hsem:o.semAt F.round a.eval=execOp a.eval o:=by
    unfold Oper.semAt
    cases hr:F.round with
    | none=>rfl
    | some l =>
      cases hop:o.op with
      | defer c=>exact absurd hop (hnd c)
      | _=>rfl
  refine ⟨fun f _=>hF.fn f,?_⟩
  rw [hsem]
  have hd:∀ {p:Prop},(F.depth.isSome=true→p):=fun hq=>by rw [hF.depth] at hq;cases hq
  revert h
  cases (execOp a.eval o).run P w with
  | halt=>exact fun h=>h.elim
  | ok x w' =>
    cases x with
    | value v=>exact fun h=>h
    | skip=>exact fun h=>h
    | enter f args =>
      intro h
      refine ⟨hd,(h (n-1)).mono ?_⟩
      rintro e w2 ⟨v,rfl,hv⟩
      exact hv
    | round l f tmps assign body =>
      intro h
      refine ⟨hd,(h (n-1)).mono ?_⟩
      rintro e w2 ⟨v,rfl,hv⟩
      exact hv
    | _=>exact fun h=>h.elim
theorem put_size (a:Act) (d:Option Tmp) (v:Value):(a.put d v).tmps.size=a.tmps.size:=by cases d <;> simp [Act.put]
theorem put_defers (a:Act) (d:Option Tmp) (v:Value):(a.put d v).defers=a.defers:=by cases d <;> rfl
theorem putR_ok {nt:Nat} {tm tm1:Tm} {d:Option Tmp} {r:R1} (h:putR nt tm d r = .ok tm1 m1):∃ x,r = .ok x m1∧∀ (σ:Env) (n:Nat) (a:Act),TmOk σ n a.tmps tm→a.tmps.size=nt→x.lt n→TmOk σ n (a.put d (realW σ x)).tmps tm1:=by
  cases r with
  | no=>cases h
  | ok x m2 =>
    cases d with
    | none=>cases h;exact ⟨x,rfl,fun σ n a hT _ _=>hT⟩
    | some d =>
      have h':(Bool.rec .no (.ok (tm.set d x) m2) (Nat.blt d nt):R2) = .ok tm1 m1:=h
      cases hb:Nat.blt d nt with
      | false=>rw [hb] at h';cases h'
      | true =>
        rw [hb] at h'
        cases h'
        exact ⟨x,rfl,fun σ n a hT hs hx=>hT.set hx (by rw [hs];exact Nat.le_of_ble_eq_true hb)⟩
end
section
variable {P:Program} {K:Nat→Option (List Value)} {σ τ:Env} {m m1:Mem} {w w1:World} {F:Fence} {n:Nat} {Q:Exit→Act→World→Prop} {a:Act}
def LoopAt (F:Fence) (n:Nat) (P:Program) (c:Code) (Q:Exit→Act→World→Prop) (a:Act) (w:World):Prop :=
  ∀ (b:Frame) (k:List Item) (cs:List Frame),b.roundOf=F.round→F.fn b.fn→F.room (cs.length+1+n) →
    ∃ e a' w',Q e a' w'∧ArrivesIn (Machine.fenced P F) P (lone (b.atR a (.code c::.inLoop c::k)) cs w) b k cs e a' w'
theorem loopAt_step {c:Code} (h:c.wpIn F n P (Exit.then (LoopAt F n P c Q) Q) a w):LoopAt F n P c Q a w:=by
  intro b k cs hro hb hr
  obtain ⟨e,a₁,w₁,hq,harr⟩:=h b (.inLoop c::k) cs hro hb hr
  cases e with
  | normal =>
    obtain ⟨e₂,a₂,w₂,hq₂,harr₂⟩:=hq b k cs hro hb hr
    exact ⟨e₂,a₂,w₂,hq₂, .of_steps (StepsIn.trans harr (.one (fenced_calm hb hr rfl) stepR_inLoop)) harr₂⟩
  | exit id=>exact ⟨_,a₁,w₁,hq, .pass (x := .inLoop c) rfl (fun _ _=>.inl (by simp)) harr⟩
  | goto l=>exact ⟨_,a₁,w₁,hq, .pass (x := .inLoop c) rfl (fun _ _=>.inl (by simp)) harr⟩
  | ret=>exact ⟨_,a₁,w₁,hq, .pass (x := .inLoop c) rfl (fun _ _=>.inl (by simp)) harr⟩
  | panic ch=>exact ⟨_,a₁,w₁,hq, .pass (x := .inLoop c) rfl (fun _ _=>.inl (by simp)) harr⟩
  | outgrown=>exact ⟨_,a₁,w₁,hq, .pass (x := .inLoop c) rfl (fun _ _=>.inl (by simp)) harr⟩
theorem wpIn_loopAt {c:Code} (h:LoopAt F n P c Q a w):(Code.loop c).wpIn F n P Q a w:=by
  intro b k cs hro hb hr
  obtain ⟨e,a₁,w₁,hq,harr⟩:=h b k cs hro hb hr
  exact ⟨e,a₁,w₁,hq, .of_steps (.one (fenced_calm hb hr rfl) stepR_loop) harr⟩
theorem stepR_scope' {b:Frame} {k:List Item} {cs:List Frame} {c:Code}:step P (lone (b.atR a (.code (.scope c)::k)) cs w) = .next (lone (b.atR a (.code c::.inScope c::k)) cs w) :=
  step_lone_go (by simp [stepG,stepG.exec,Frame.atR])
theorem stepR_inScope' {b:Frame} {k:List Item} {cs:List Frame} {c:Code}:step P (lone (b.atR a (.inScope c::k)) cs w) = .next (lone (b.atR a k) cs w) :=
  step_lone_go (by simp [stepG,stepG.exec,Frame.atR])
theorem scope_pass {b:Frame} {k:List Item} {cs:List Frame} {M:Machine} {c:Code} {e:Exit} {a':Act} {w':World} (hb:F.fn b.fn) (hr:F.room (cs.length+1+n)) (he:∀ l,e = .goto l→findLabel c l=none)
    (h:ArrivesIn (Machine.fenced P F) P M b (.inScope c::k) cs e a' w'):ArrivesIn (Machine.fenced P F) P M b k cs e a' w':=by
  cases e with
  | normal=>exact StepsIn.trans h (.one (fenced_calm hb hr rfl) stepR_inScope')
  | exit id=>exact ⟨fun k' hk=>h.1 k' (by simpa [exitTo] using hk),fun hr' hk=>h.2 hr' (by simpa [exitTo] using hk)⟩
  | goto l =>
    have hl:=he l rfl
    have hg:gotoIn l (.inScope c::k)=gotoIn l k:=by simp [gotoIn,hl]
    exact ⟨fun k' hk=>h.1 k' (by rw [hg];exact hk),fun hr' hk=>h.2 hr' (by rw [hg];exact hk)⟩
  | ret=>exact h
  | panic ch=>exact h
  | outgrown=>exact h
def ScopeQ (F:Fence) (n:Nat) (P:Program) (c:Code) (Q:Exit→Act→World→Prop):Exit→Act→World→Prop
  | .goto l,a,w=>match findLabel c l with
    | some rest=>rest.wpIn F n P (Exit.noGoto Q) a w
    | none=>Q (.goto l) a w
  | e,a,w=>Q e a w
theorem wpIn_scopeQ {c:Code} (h:c.wpIn F n P (ScopeQ F n P c Q) a w):(Code.scope c).wpIn F n P Q a w:=by
  intro b k cs hro hb hr
  obtain ⟨e,a₁,w₁,hq,harr⟩:=h b (.inScope c::k) cs hro hb hr
  have h0:(lone (b.atR a (.code (.scope c)::k)) cs w).fenced P F:=fenced_calm hb hr rfl
  have plain:∀ e,(∀ l,e = .goto l→findLabel c l=none)→Q e a₁ w₁→ArrivesIn (Machine.fenced P F) P (lone (b.atR a (.code c::.inScope c::k)) cs w) b (.inScope c::k) cs e a₁ w₁ →
      ∃ e a' w',Q e a' w'∧ArrivesIn (Machine.fenced P F) P (lone (b.atR a (.code (.scope c)::k)) cs w) b k cs e a' w':=fun e he hq harr =>
    ⟨e,a₁,w₁,hq, .of_steps (.one h0 stepR_scope') (scope_pass hb hr he harr)⟩
  cases e with
  | goto l =>
    cases hl:findLabel c l with
    | none =>
      simp only [ScopeQ,hl] at hq
      exact plain _ (fun l' e=>by cases e;exact hl) hq harr
    | some rest =>
      simp only [ScopeQ,hl] at hq
      have hg:gotoIn l (.inScope c::k)=some (.code rest::.inScope c::k):=by simp [gotoIn,hl]
      obtain ⟨e₂,a₂,w₂,hq₂,harr₂⟩:=hq b (.inScope c::k) cs hro hb hr
      have hs:=harr.1 _ hg
      cases e₂ with
      | goto l'=>exact hq₂.elim
      | normal=>exact ⟨_,a₂,w₂,hq₂, .of_steps (.head h0 stepR_scope' hs) (scope_pass (c:=c) hb hr (fun _ e=>by cases e) harr₂)⟩
      | exit id=>exact ⟨_,a₂,w₂,hq₂, .of_steps (.head h0 stepR_scope' hs) (scope_pass (c:=c) hb hr (fun _ e=>by cases e) harr₂)⟩
      | ret=>exact ⟨_,a₂,w₂,hq₂, .of_steps (.head h0 stepR_scope' hs) (scope_pass (c:=c) hb hr (fun _ e=>by cases e) harr₂)⟩
      | panic ch=>exact ⟨_,a₂,w₂,hq₂, .of_steps (.head h0 stepR_scope' hs) (scope_pass (c:=c) hb hr (fun _ e=>by cases e) harr₂)⟩
      | outgrown=>exact ⟨_,a₂,w₂,hq₂, .of_steps (.head h0 stepR_scope' hs) (scope_pass (c:=c) hb hr (fun _ e=>by cases e) harr₂)⟩
  | normal=>exact plain _ (fun _ e=>by cases e) hq harr
  | exit id=>exact plain _ (fun _ e=>by cases e) hq harr
  | ret=>exact plain _ (fun _ e=>by cases e) hq harr
  | panic ch=>exact plain _ (fun _ e=>by cases e) hq harr
  | outgrown=>exact plain _ (fun _ e=>by cases e) hq harr
end
end Go.Vc

namespace Go.Vc
inductive YRow where
  | int
  | bool
  | str
  | kb (b:Bool)
  | fz (own:Bool) (c j:Nat)
  | fp (own:Bool) (cs:List C)
  | od (e:TypeId) (z:Nat) (own:Bool) (j:Nat)
  | ep (i x z:Nat)
  | ov (i x z:Nat)
  | dead
noncomputable def YRow.odB:YRow→Bool
  | .od ..=>true
  | _=>false
def Rho.setN (ρ:Rho) (i:Nat) (x:Int):Rho:=⟨fun j=>bif Nat.beq j i then x else ρ.n j,ρ.t,ρ.s,ρ.d⟩
def Rho.setT (ρ:Rho) (i:Nat) (x:Bool):Rho:=⟨ρ.n,fun j=>bif Nat.beq j i then x else ρ.t j,ρ.s,ρ.d⟩
def Rho.setS (ρ:Rho) (i:Nat) (x:ByteArray):Rho:=⟨ρ.n,ρ.t,fun j=>bif Nat.beq j i then x else ρ.s j,ρ.d⟩
def Rho.setD (ρ:Rho) (i:Nat) (x:List (List D)):Rho:=⟨ρ.n,ρ.t,ρ.s,fun j=>bif Nat.beq j i then x else ρ.d j⟩
section
variable {α:Type}
end
def Fo (F:Nat→Prop) (B0:Nat) (own:Bool) (g:Nat):Prop:=F g∧(own=true→B0≤g)
def live (σ:Env) (i:Nat):Prop:=∃ a n c,σ.v i = .slice a n c∧0<c
section
variable [Holes]
def Els (F:Nat→Prop) (w:World) (z:Nat) (arr:Array Value) (l:List (List D)):Prop :=
  ∀ (q:Nat) (cs:List D),l[q]?=some cs→cs.length=z∧∀ (p:Nat) (d:D),cs[p]?=some d→∃ v,arr[q*z+p]?=some v∧RD F w d v
def YOk (F:Nat→Prop) (B0:Nat) (σ:Env) (n:Nat) (w:World) (i:Nat):YRow→Prop
  | .int | .bool | .str | .dead=>True
  | .kb b=>σ.r.t i=b
  | .fz own c j=>Lt j n∧RD (Fo F B0 own) w (.fs (σ.r.d j)) (σ.v i)∧(c≠0→∃ a k,σ.v i = .slice a k k)∧(c=2→σ.r.d j=[])
  | .fp own cs=>Fo F B0 own (σ.b i)∧∀ (j:Nat) (c:C),cs[j]?=some c→C.lt n c∧w.cell? ⟨σ.b i,σ.o i+j,none⟩=some (realC σ c)
  | .od e z own j=>Lt j n∧0<z∧∃ a c,σ.v i = .slice a (σ.r.d j).length c∧((c=0∧σ.r.d j=[]) ∨
      (a=some ⟨σ.b i,0,none⟩∧0<c∧∃ arr,w.heap[σ.b i]?=some (.cells arr e (0,0))∧c*z≤arr.size∧(σ.r.d j).length≤c∧Els (Fo F B0 own) w z arr (σ.r.d j)))
  | .ep q x z=>Lt q n∧Lt x n∧0≤σ.r.n x∧σ.b i=σ.b q∧σ.o i=(σ.r.n x).toNat*z
  | .ov q x z=>Lt q n∧Lt x n∧0≤σ.r.n x∧∃ a m c a' c',σ.v q = .slice a (m+(σ.r.n x).toNat) c∧σ.v i = .slice a' m c'∧(m≠0→a'=some ⟨σ.b q,(σ.r.n x).toNat*z,none⟩)
structure YRel (F F0:Nat→Prop) (B0:Nat) (σ:Env) (m:Mem) (Y:T YRow) (w:World):Prop where
  dom:∀ g,F g→g<w.heap.size∧(∀ i r,m.S.get i=some r→r.blk=true→σ.b i≠g)∧(F0 g∨B0≤g)
  row:∀ i y,Y.get i=some y→Lt i m.nx∧YOk F B0 σ m.nx w i y
  od:∀ i e z o j,Y.get i=some (.od e z o j)→live σ i→σ.b i<w.heap.size∧B0≤σ.b i∧¬F (σ.b i)∧∀ q r,m.S.get q=some r→r.blk=true→σ.b q≠σ.b i
  odi:∀ i e z o j i' e' z' o' j',Y.get i=some (.od e z o j)→Y.get i'=some (.od e' z' o' j')→live σ i→live σ i'→σ.b i=σ.b i'→i=i'
def YAg (ρ:Rho) (σ:Env) (i:Nat):YRow→Prop
  | .int=>σ.r.n i=ρ.n i
  | .bool | .kb _=>σ.r.t i=ρ.t i
  | .str=>σ.r.s i=ρ.s i
  | .fz _ _ j | .od _ _ _ j=>σ.r.d j=ρ.d j
  | _=>True
def SymAg (ρ:Rho) (σ:Env) (Y:T YRow):Prop:=∀ i y,Y.get i=some y→YAg ρ σ i y
section
variable {K:Nat→Option (List Value)} {F F0:Nat→Prop} {B0:Nat} {σ τ:Env} {m m1:Mem} {Y:T YRow} {w w1:World} {ρ:Rho} {n n1 i:Nat} {y:YRow}
theorem Els.keep {z:Nat} {arr:Array Value} {l:List (List D)} (hw:∀ g j v,F g→w.cell? ⟨g,j,none⟩=some v→w1.cell? ⟨g,j,none⟩=some v) (h:Els F w z arr l):Els F w1 z arr l:=fun q cs hq=>by
  obtain ⟨h1,h2⟩:=h q cs hq
  refine ⟨h1,fun p d hp=>?_⟩
  obtain ⟨v,h3,h4⟩:=h2 p d hp
  exact ⟨v,h3,h4.keep (fun _ h=>h) hw⟩
theorem cell_heap {g:Nat} (h:w1.heap[g]?=w.heap[g]?) (j:Nat):w1.cell? ⟨g,j,none⟩=w.cell? ⟨g,j,none⟩:=World.cell?_of_block (a:=⟨g,j,none⟩) h
theorem live_agree (ha:Agree n σ τ) (hi:Lt i n):live τ i↔live σ i:=by
  unfold live;rw [ha.v i hi]
theorem YOk.keep (h:YOk F B0 σ n w i y) (hi:Lt i n) (ha:Agree n σ τ) (hn:n≤n1) (hc:∀ g j v,F g→w.cell? ⟨g,j,none⟩=some v→w1.cell? ⟨g,j,none⟩=some v) (ho:y.odB=true→live σ i→w1.heap[σ.b i]?=w.heap[σ.b i]?):YOk F B0 τ n1 w1 i y:=by
  cases y with
  | int=>trivial
  | bool=>trivial
  | str=>trivial
  | dead=>trivial
  | kb b=>exact (ha.rt i hi).trans h
  | fz own c j =>
    obtain ⟨h1,h2,h3,h4⟩:=h
    refine ⟨h1.mono hn,?_,fun hc0=>by rw [ha.v i hi];exact h3 hc0,fun hc2=>by rw [ha.rd j h1];exact h4 hc2⟩
    rw [ha.rd j h1,ha.v i hi]
    exact RD.keep (fun _ h=>h) (fun g j v hg hv=>hc g j v hg.1 hv) h2
  | fp own cs =>
    refine ⟨by rw [ha.b i hi];exact h.1,fun j c hj=>?_⟩
    obtain ⟨h1,h2⟩:=h.2 j c hj
    rw [ha.b i hi,ha.o i hi,ha.realC h1]
    exact ⟨h1.mono hn,hc _ _ _ h.1.1 h2⟩
  | od e z own j =>
    obtain ⟨h1,h2,a,c,h3,h4⟩:=h
    refine ⟨h1.mono hn,h2,a,c,by rw [ha.v i hi,ha.rd j h1];exact h3,?_⟩
    rw [ha.rd j h1,ha.b i hi]
    rcases h4 with h4 | ⟨h5,h5',arr,h6,h7,h8,h9⟩
    · exact .inl h4
    · refine .inr ⟨h5,h5',arr,?_,h7,h8,h9.keep fun g j v hg hv=>hc g j v hg.1 hv⟩
      rw [ho rfl ⟨_,_,_,h3,h5'⟩];exact h6
  | ep q x z =>
    obtain ⟨h1,h2,h3,h4,h5⟩:=h
    exact ⟨h1.mono hn,h2.mono hn,by rw [ha.rn _ h2];exact h3,by rw [ha.b i hi,ha.b _ h1];exact h4,by rw [ha.o i hi,ha.rn _ h2];exact h5⟩
  | ov q x z =>
    obtain ⟨h1,h2,h3,h4⟩:=h
    refine ⟨h1.mono hn,h2.mono hn,by rw [ha.rn _ h2];exact h3,?_⟩
    rw [ha.rn _ h2,ha.v q h1,ha.v i hi,ha.b q h1];exact h4
theorem YRel.step (h:YRel F F0 B0 σ m Y w) (k:Step K σ m w τ m1 w1):YRel F F0 B0 τ m1 Y w1:=by
  have hfr:∀ g,g<w.heap.size→(∀ i r,m.S.get i=some r→r.blk=true→σ.b i≠g)→w1.heap[g]?=w.heap[g]?:=fun g hg hn=>k.frame g hg fun i r hr hb he=>absurd he (hn i r hr hb)
  have hno:∀ g,g<w.heap.size→(∀ i r,m.S.get i=some r→r.blk=true→σ.b i≠g)→∀ i r,m1.S.get i=some r→r.blk=true→τ.b i≠g:=fun g hg hn i r hr hb he=>by
    rcases Nat.lt_or_ge i m.nx with hlt | hge
    · obtain ⟨s,hs,hsb⟩:=k.old i r hlt hr hb
      exact hn i s hs hsb (by rw [←k.agree.b i ((k.rel.lt i r hr).low hlt)];exact he)
    · rcases k.new i r hge hr hb with h1 | ⟨j,s,hs,hsb,hj,_⟩
      · omega
      · exact hn j s hs hsb (hj.trans he)
  refine ⟨fun g hg=>?_,fun i y hi=>?_,fun i e z o j hi hl=>?_,fun i e z o j i' e' z' o' j' hi hi' hl hl' he=>?_⟩
  · obtain ⟨h1,h2,h3⟩:=h.dom g hg
    exact ⟨Nat.lt_of_lt_of_le h1 k.goes.size,hno g h1 h2,h3⟩
  · obtain ⟨h1,h2⟩:=h.row i y hi
    refine ⟨h1.mono k.nx,h2.keep h1 k.agree k.nx (fun g j v hg hv=>by rw [cell_heap (hfr g (h.dom g hg).1 (h.dom g hg).2.1)];exact hv) fun ho hl=>?_⟩
    cases y <;> first | (cases ho;done) | skip
    obtain ⟨h3,_,_,h4⟩:=h.od i _ _ _ _ hi hl
    exact hfr _ h3 h4
  · have hlt:=(h.row i _ hi).1
    obtain ⟨h3,h4,h5,h6⟩:=h.od i e z o j hi ((live_agree k.agree hlt).1 hl)
    rw [k.agree.b i hlt]
    exact ⟨Nat.lt_of_lt_of_le h3 k.goes.size,h4,h5,hno _ h3 h6⟩
  · have hlt:=(h.row i _ hi).1
    have hlt':=(h.row i' _ hi').1
    rw [k.agree.b i hlt,k.agree.b i' hlt'] at he
    exact h.odi i e z o j i' e' z' o' j' hi hi' ((live_agree k.agree hlt).1 hl) ((live_agree k.agree hlt').1 hl') he
theorem YAg.agree (h:YAg ρ σ i y) (hi:Lt i n) (ha:Agree n σ τ) (hk:YOk F B0 σ n w i y):YAg ρ τ i y:=by
  cases y with
  | int=>exact (ha.rn i hi).trans h
  | bool=>exact (ha.rt i hi).trans h
  | kb b=>exact (ha.rt i hi).trans h
  | str=>exact (ha.rs i hi).trans h
  | fz o c j=>exact (ha.rd j hk.1).trans h
  | od e z o j=>exact (ha.rd j hk.1).trans h
  | _=>trivial
theorem YRel.add (h:YRel F F0 B0 σ m Y w) (hy:Lt i m.nx) (ho:y.odB=false) (hk:YOk F B0 σ m.nx w i y):YRel F F0 B0 σ m (Y.set i y) w:=by
  have key:∀ q x,(Y.set i y).get q=some x→x.odB=true→Y.get q=some x:=fun q x hq hx=>by
    rw [T.get_set] at hq
    split at hq
    · cases hq;rw [ho] at hx;cases hx
    · exact hq
  refine ⟨h.dom,fun q x hq=>?_,fun q e z o j hq hl=>h.od q e z o j (key q _ hq rfl) hl,fun q e z o j q' e' z' o' j' hq hq'=>h.odi q e z o j q' e' z' o' j' (key q _ hq rfl) (key q' _ hq' rfl)⟩
  rw [T.get_set] at hq
  split at hq
  · rename_i he;cases hq;subst he;exact ⟨hy,hk⟩
  · exact h.row q x hq
end
end
end Go.Vc

namespace Go.Vc
inductive Kd where
  | int (k:IntKind)
  | bool
  | str
  | sl
  | nl
inductive DK:Kd→D→Prop
  | int (k:IntKind) (x:Int):DK (.int k) (.raw (.int k x))
  | bool (x:Bool):DK .bool (.raw (.bool x))
  | str (x:ByteArray):DK .str (.raw (.string x))
  | sl (x:List (List D)):DK .sl (.fs x)
  | nl:DK .nl (.raw (.slice none 0 0))
inductive DKs:List Kd→List D→Prop
  | nil:DKs [] []
  | cons {k:Kd} {d:D} {ks:List Kd} {ds:List D} (h:DK k d) (t:DKs ks ds):DKs (k::ks) (d::ds)
inductive DV where
  | c (d:D)
  | a (l:List D)
structure RK where
  ks:List Kd
  agg:Bool
  own:Bool
section
variable [Holes]
def RDs (F:Nat→Prop) (w:World) (ds:List D) (vs:List Value):Prop:=vs.length=ds.length∧∀ (j:Nat) (d:D) (u:Value),ds[j]?=some d→vs[j]?=some u→RD F w d u
inductive RV (F:Nat→Prop) (B0:Nat) (w:World):RK→DV→Value→Prop
  | c (k:Kd) (own:Bool) (d:D) (v:Value) (hd:DK k d) (h:RD (Fo F B0 own) w d v):RV F B0 w ⟨[k],false,own⟩ (.c d) v
  | a (ks:List Kd) (own:Bool) (ds:List D) (vs:List Value) (hd:DKs ks ds) (h:RDs (Fo F B0 own) w ds vs):RV F B0 w ⟨ks,true,own⟩ (.a ds) (.agg vs.toArray)
inductive RVs (F:Nat→Prop) (B0:Nat) (w:World):List RK→List DV→List Value→Prop
  | nil:RVs F B0 w [] [] []
  | cons {r:RK} {d:DV} {v:Value} {rs:List RK} {ds:List DV} {vs:List Value} (h:RV F B0 w r d v) (t:RVs F B0 w rs ds vs):RVs F B0 w (r::rs) (d::ds) (v::vs)
end
section
variable [Holes]
def OdV (F:Nat→Prop) (w:World) (e z:Nat) (l:List (List D)) (g:Nat) (v:Value):Prop :=
  0<z∧∃ a c,v = .slice a l.length c∧((c=0∧l=[])∨(a=some ⟨g,0,none⟩∧0<c∧∃ arr,w.heap[g]?=some (.cells arr e (0,0))∧c*z≤arr.size∧l.length≤c∧Els F w z arr l))
def liveV (v:Value):Prop:=∃ a n c,v = .slice a n c∧0<c
inductive Pl where
  | tmp
  | row (i:Nat)
  | cel (r j:Nat)
structure OdG where
  t:Tmp
  e:Nat
  z:Nat
  own:Bool
  pl:Pl
structure OdX where
  l:List (List D)
  g:Nat
  v:Value
def OdFree (F:Nat→Prop) (B0:Nat) (σ:Env) (S:T Row) (Y:T YRow) (w:World) (x:OdX):Prop :=
  liveV x.v→x.g<w.heap.size∧B0≤x.g∧¬F x.g∧(∀ q r,S.get q=some r→r.blk=true→σ.b q≠x.g)∧∀ i e z o j,Y.get i=some (.od e z o j)→live σ i→σ.b i≠x.g
def OdAt (σ:Env) (tmps:Array Value) (o:OdG) (x:OdX):Prop:=match o.pl with
  | .tmp=>tmps.getD o.t undef=x.v
  | .row i=>σ.v i=x.v∧σ.b i=x.g
  | .cel _ _=>True
noncomputable def ocs:List OdG→List (Nat×Nat)
  | []=>[]
  | o::os=>match o.pl with
    | .cel r j=>(r,j)::ocs os
    | _=>ocs os
def celV:List OdG→List OdX→List Value
  | o::os,x::xs=>match o.pl with
    | .cel _ _=>x.v::celV os xs
    | _=>celV os xs
  | _,_=>[]
inductive OdXs (F:Nat→Prop) (B0:Nat) (σ:Env) (S:T Row) (Y:T YRow) (w:World) (tmps:Array Value):List OdG→List OdX→Prop
  | nil:OdXs F B0 σ S Y w tmps [] []
  | cons {o:OdG} {x:OdX} {os:List OdG} {xs:List OdX} (h1:OdAt σ tmps o x) (h2:OdV (Fo F B0 o.own) w o.e o.z x.l x.g x.v) (h3:OdFree F B0 σ S Y w x) (h4:∀ y∈xs,liveV x.v→liveV y.v→x.g≠y.g) (h5:OdXs F B0 σ S Y w tmps os xs):OdXs F B0 σ S Y w tmps (o::os) (x::xs)
def datX (xs:List OdX):List DV:=xs.map fun x=>.c (.fs x.l)
end
end Go.Vc
