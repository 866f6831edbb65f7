import Derived.Test.YtneooimijbfmgaaGreatProg
import Derived.KernelRfl
import Derived.Deep.Slices
import Derived.OpenShut
import Derived.ProofKit
import Derived.Carry
import Derived.RowKit
import Derived.Handed
import Derived.CallsIn
import Derived.Test.YtneooimijbfmgaaGreatSsAR
set_option linter.unusedVariables false
set_option linter.unusedSimpArgs false
set_option linter.unusedSectionVars false
noncomputable section
namespace Go.Vc
abbrev LL:=List (List D)
abbrev dn (x:Int):D := .raw (.int .i64 x)
abbrev d8 (x:Int):D := .raw (.int .u8 x)
abbrev d32 (x:Int):D := .raw (.int .u32 x)
abbrev d64 (x:Int):D := .raw (.int .u64 x)
abbrev db (x:Bool):D := .raw (.bool x)
abbrev ds (x:ByteArray):D := .raw (.string x)
abbrev vn (x:Int):DV := .c (.raw (.int .i64 x))
abbrev vb (x:Bool):DV := .c (.raw (.bool x))
abbrev vl (x:List (List D)):DV := .c (.fs x)
abbrev w64 (x:Int):Int:=IntKind.wrap .i64 x
abbrev kn:RK:=⟨[.int .i64],false,false⟩
abbrev kb:RK:=⟨[.bool],false,false⟩
abbrev kl:RK:=⟨[.sl],false,false⟩
abbrev kN:List Kd:=[Kd.int IntKind.i64,Kd.int IntKind.i64,Kd.bool,Kd.int IntKind.i64,Kd.int IntKind.i64,Kd.int IntKind.i64,Kd.int IntKind.i64,Kd.int IntKind.i64,Kd.bool,Kd.sl,Kd.int IntKind.i64,Kd.bool,Kd.sl,Kd.int IntKind.i64,Kd.bool,Kd.sl,Kd.int IntKind.i64,Kd.bool,Kd.sl,Kd.int IntKind.i64,Kd.bool,Kd.int IntKind.i64,Kd.int IntKind.i64,Kd.sl,Kd.bool,Kd.int IntKind.i64,Kd.int IntKind.i64,Kd.sl,Kd.int IntKind.i64,Kd.int IntKind.i64,Kd.sl,Kd.sl,Kd.sl]
abbrev kF:List Kd:=[Kd.int IntKind.i64,Kd.bool,Kd.sl,Kd.int IntKind.i64,Kd.bool,Kd.sl,Kd.int IntKind.i64,Kd.bool,Kd.sl,Kd.int IntKind.i64,Kd.bool,Kd.sl,Kd.int IntKind.i64,Kd.bool,Kd.int IntKind.i64,Kd.int IntKind.i64,Kd.sl]
abbrev kL:List Kd:=[Kd.int IntKind.i64,Kd.int IntKind.i64,Kd.int IntKind.i64,Kd.bool,Kd.sl,Kd.int IntKind.i64,Kd.bool,Kd.sl,Kd.int IntKind.i64,Kd.bool,Kd.sl,Kd.int IntKind.i64,Kd.bool,Kd.sl,Kd.int IntKind.i64]
abbrev kE:List Kd:=[Kd.int IntKind.i64,Kd.int IntKind.u8,Kd.bool,Kd.sl,Kd.int IntKind.i64,Kd.bool,Kd.sl,Kd.int IntKind.i64,Kd.bool,Kd.sl,Kd.int IntKind.i64,Kd.bool,Kd.sl,Kd.int IntKind.i64]
abbrev kC:List Kd:=[Kd.int IntKind.i64,Kd.int IntKind.i64,Kd.sl,Kd.bool]
abbrev kP:List Kd:=[Kd.int IntKind.i64,Kd.int IntKind.i64]
abbrev kS:List Kd:=[Kd.int IntKind.i64,Kd.int IntKind.i64,Kd.int IntKind.i64]
abbrev kI:List Kd:=[Kd.int IntKind.i64]
abbrev kU:List Kd:=[Kd.int IntKind.u32]
abbrev NV:Type:=Nat→Value
def gI (cs:List D) (k:Nat):Int:=match cs[k]? with
 | some (.raw (.int _ x))=>x
 | _=>0
def gB (cs:List D) (k:Nat):Bool:=match cs[k]? with
 | some (.raw (.bool x))=>x
 | _=>false
def gL (cs:List D) (k:Nat):List (List D):=match cs[k]? with
 | some (.fs x)=>x
 | _=>[]
def ni (ds:List DV) (k:Nat):Int:=match ds[k]? with
 | some (.c (.raw (.int _ x)))=>x
 | _=>0
def bi (ds:List DV) (k:Nat):Bool:=match ds[k]? with
 | some (.c (.raw (.bool x)))=>x
 | _=>false
def li (ds:List DV) (k:Nat):List (List D):=match ds[k]? with
 | some (.c (.fs x))=>x
 | _=>[]
def ai (ds:List DV) (k:Nat):List D:=match ds[k]? with
 | some (.a l)=>l
 | _=>[]
inductive Sh where
 | int (k:IntKind)
 | bool
 | str
 | sl (l:List Sh)
def Sh.kd:Sh→Kd
 | .int k=>.int k
 | .bool=>.bool
 | .str=>.str
 | .sl _=>.sl
def RngK:IntKind→Int→Prop
 | .i64,x=>-9223372036854775808≤x∧x≤9223372036854775807
 | .u64,x=>0≤x∧x≤18446744073709551615
 | .u32,x=>0≤x∧x≤4294967295
 | .u8,x=>0≤x∧x≤255
 | _,_=>True
inductive DSh:Sh→D→Prop
 | int (k:IntKind) (x:Int) (hx:RngK k x):DSh (.int k) (.raw (.int k x))
 | bool (x:Bool):DSh .bool (.raw (.bool x))
 | str (x:ByteArray):DSh .str (.raw (.string x))
 | sl (l:List Sh) (x:List (List D)) (hn:x.length≤9223372036854775807) (hl:∀ cs∈x,cs.length=l.length) (h:∀ cs∈x,∀ (k:Nat) (s:Sh) (d:D),l[k]?=some s→cs[k]?=some d→DSh s d):DSh (.sl l) (.fs x)
def DShs (l:List Sh) (cs:List D):Prop:=cs.length=l.length∧∀ (k:Nat) (s:Sh) (d:D),l[k]?=some s→cs[k]?=some d→DSh s d
theorem DSh.els {l:List Sh} {x:List (List D)} (h:DSh (.sl l) (.fs x)):∀ cs∈x,DShs l cs:=by
 cases h with | sl l x hn hl h=>exact fun cs hc=>⟨hl cs hc,h cs hc⟩
theorem DSh.dk {s:Sh} {d:D} (h:DSh s d):DK s.kd d:=by cases h <;> constructor
theorem DShs.dks:∀ {l:List Sh} {cs:List D},DShs l cs→DKs (l.map Sh.kd) cs
 | [],[],_=>.nil
 | [],_::_,h=>by cases h.1
 | _::_,[],h=>by cases h.1
 | s::l,d::cs,h=>.cons (h.2 0 s d rfl rfl).dk (DShs.dks ⟨by have:=h.1;simpa using this,fun k s d hs hd=>h.2 (k+1) s d hs hd⟩)
theorem DSh.shp {l:List Sh} {x:List (List D)} (h:DSh (.sl l) (.fs x)):Shp (l.map Sh.kd) x:=fun cs hc=>(h.els cs hc).dks
abbrev k0:Nat→Option (List Value):=fun _=>none
def bodyOf (fn:Func):Code:=match fn.body with
 | some c=>c
 | none=>.skip
theorem Ays {P : Program} {K : Nat → Option (List Value)} {Γ : Cx} {n : Nat} {f : FuncId} {fn : Func} {t : ConT} {V : Prop} (hΓ : CxOk P K Γ) (hf : P.funcs[f]? = some fn) (hname : (fn.name == "runtime.NumGoroutine") = false) (hbody : fn.body = some (bodyOf fn)) (hle : Nat.ble t.args.length fn.ntmps = true) (hown : t.args.all (fun r => !r.own) = true)
  (he:vcFn P K Γ n f fn (bodyOf fn) t=V) (h:V):Con P K f t:=Aon hΓ hf hname hbody hle hown (he▸h)
end Go.Vc

namespace Go.Vc
def Cx.un (Γ:Cx):Cx:=⟨Γ.con,fun k b=>match Γ.hint k b with
 | some h=>some h
 | none=>some none,Γ.cut,Γ.res,Γ.fns⟩
theorem Cx.un_ok {P:Program} {K:Nat→Option (List Value)} {Γ:Cx} (h:CxOk P K Γ):CxOk P K Γ.un:=⟨h.con,h.fns,h.mix⟩
theorem mixOk:Go.Proofs.Tryz.prog.follows .mixedOrders=true:=by kernel_rfl
abbrev TP:Program:=Go.Proofs.Tryz.prog
def AllC:List (Nat×ConT)→Prop
 | []=>True
 | p::l=>Con TP k0 p.1 p.2∧AllC l
def AllF (cs:List (Nat×ConT)):List (Nat×(List DV→List DV))→Prop
 | []=>True
 | p::l=>(∀ t,lookN cs p.1=some t→∀ aa,t.pre aa→∀ rs,t.post aa rs→rs=p.2 aa)∧AllF cs l
theorem AllC.mem:∀ {cs:List (Nat×ConT)},AllC cs→∀ p∈cs,Con TP k0 p.1 p.2
 | _::_,h,p,hp=>by
  rcases List.mem_cons.1 hp with rfl | hp
  ·exact h.1
  ·exact AllC.mem h.2 p hp
theorem AllF.mem {cs:List (Nat×ConT)}:∀ {fs:List (Nat×(List DV→List DV))},AllF cs fs→∀ p∈fs,∀ t,lookN cs p.1=some t→∀ aa,t.pre aa→∀ rs,t.post aa rs→rs=p.2 aa
 | _::_,h,p,hp=>by
  rcases List.mem_cons.1 hp with rfl | hp
  ·exact h.1
  ·exact AllF.mem h.2 p hp
theorem fnq {cs:List (Nat×ConT)} {i:Nat} {f:List DV→List DV} {t0:ConT} (h:lookN cs i=some t0) (hp:t0.post=fun aa rs=>rs=f aa):∀ t,lookN cs i=some t→∀ aa,t.pre aa→∀ rs,t.post aa rs→rs=f aa:=fun t ht aa _ rs hr=>by
 rw [h] at ht;cases ht
 rw [hp] at hr;exact hr
theorem Ad (cs : List (Nat × ConT)) (hs : List (Nat × Nat × Option Hint)) (ts : List (Nat × Nat × Bool)) (fs : List (Nat × (List DV → List DV))) (n : Nat) {f : FuncId} {fn : Func} {t : ConT} (hc : AllC cs) (hf : AllF cs fs) (h1 : TP.funcs[f]? = some fn) (h2 : (fn.name == "runtime.NumGoroutine") = false) (h3 : fn.body = some (bodyOf fn)) (h4 : Nat.ble t.args.length fn.ntmps = true) (h5 : t.args.all (fun r => !r.own) = true)
  (V:Prop) (he:vcFn TP k0 (cxf cs hs ts fs) n f fn (bodyOf fn) t=V) (h:V):Con TP k0 f t:=Ays (Ayq mixOk hc.mem hf.mem) h1 h2 h3 h4 h5 he h
def LS (l:List Sh) (x:LL):Prop:=DSh (.sl l) (.fs x)
abbrev LSh (l:List Sh) (x:LL):Prop:=x.length≤9223372036854775807∧LS l x
theorem Af:DShs [] []↔True:=⟨fun _=>trivial,fun _=>⟨rfl,fun k s d h=>by simp at h⟩⟩
theorem Ab {s:Sh} {l:List Sh} {d:D} {cs:List D}:DShs (s::l) (d::cs)↔DSh s d∧DShs l cs :=
 ⟨fun h=>⟨h.2 0 s d rfl rfl,by have:=h.1;simpa using this,fun k s d hs hd=>h.2 (k+1) s d hs hd⟩,fun h=>⟨by have:=h.2.1;simp [this],fun k s' d' hs hd=>by
  cases k with
  | zero=>simp at hs hd;subst hs hd;exact h.1
  | succ k=>exact h.2.2 k s' d' (by simpa using hs) (by simpa using hd)⟩⟩
theorem Ai {k:IntKind} {x:Int}:DSh (.int k) (.raw (.int k x))↔RngK k x:=⟨fun h=>by cases h;assumption,fun h=>.int k x h⟩
theorem rng64 {x:Int}:RngK .i64 x↔-9223372036854775808≤x∧x≤9223372036854775807:=Iff.rfl
theorem rng32 {x:Int}:RngK .u32 x↔0≤x∧x≤4294967295:=Iff.rfl
theorem rng8 {x:Int}:RngK .u8 x↔0≤x∧x≤255:=Iff.rfl
theorem rngu64 {x:Int}:RngK .u64 x↔0≤x∧x≤18446744073709551615:=Iff.rfl
theorem Ah {x:Bool}:DSh .bool (.raw (.bool x))↔True:=⟨fun _=>trivial,fun _=>.bool x⟩
theorem DSh.len {l:List Sh} {x:LL} (h:DSh (.sl l) (.fs x)):x.length≤9223372036854775807:=by cases h;assumption
theorem Ak {l:List Sh} {x:LL}:DSh (.sl l) (.fs x)↔x.length≤9223372036854775807∧LS l x:=⟨fun h=>⟨h.len,h⟩,fun h=>h.2⟩
theorem LS.els {l:List Sh} {x:LL} (h:LS l x):∀ cs∈x,DShs l cs:=DSh.els h
theorem LS.shp {l:List Sh} {x:LL} (h:LS l x):Shp (l.map Sh.kd) x:=DSh.shp h
theorem LS.rect {l:List Sh} {x:LL} (h:LS l x):Rect l.length x:=fun cs hc=>(h.els cs hc).1
theorem LS.mk {l:List Sh} {x:LL} (hn:x.length≤9223372036854775807) (h:∀ cs∈x,DShs l cs):LS l x := .sl l x hn (fun cs hc=>(h cs hc).1) fun cs hc=>(h cs hc).2
theorem Ej {l:List Sh}:LS l [] := .mk (by simp) fun cs hc=>by cases hc
theorem LS.nth {l:List Sh} {x:LL} (h:LS l x) {k:Nat} {cs:List D} (hk:x[k]?=some cs):DShs l cs:=h.els cs (List.mem_of_getElem? hk)
abbrev s64:Sh := .int .i64
abbrev s32:Sh := .int .u32
abbrev pairS:List Sh:=[s64,s64]
abbrev dyS:List Sh:=[.bool, .sl [s32],s64]
abbrev massS:List Sh:=[.bool, .sl [s32],s64, .bool, .sl [s32],s64, .bool, .sl [s32],s64, .bool, .sl [s32],s64]
abbrev edgeS:List Sh:=[.bool,s64,s64]
abbrev partS:List Sh:=[.bool, .sl [s32],s64, .bool, .sl [s32],s64, .bool, .sl [s32],s64, .bool, .sl [s32],s64, .bool,s64,s64, .sl [s32]]
abbrev frozS:List Sh:=[s64, .bool, .sl [s32],s64, .bool, .sl [s32],s64, .bool, .sl [s32],s64, .bool, .sl [s32],s64, .bool,s64,s64, .sl [s32]]
abbrev clockS:List Sh:=[s64,s64,s64,s64,s64]
abbrev cacheS:List Sh:=[s64,s64, .sl pairS]
abbrev nodeS:List Sh:=[s64,s64, .bool,s64,s64,s64,s64,s64, .bool, .sl [s32],s64, .bool, .sl [s32],s64, .bool, .sl [s32],s64, .bool, .sl [s32],s64, .bool,s64,s64, .sl [s32], .bool,s64,s64, .sl [s64],s64,s64, .sl pairS, .sl frozS, .sl pairS]
theorem Gj {x:Int} (h : -9223372036854775808≤x) (h2:x≤9223372036854775807):w64 x=x:=by
 unfold w64 IntKind.wrap
 simp [IntKind.bits,IntKind.signed]
 omega
theorem shp32 {x:LL} (h:LS [s32] x):Shp [.int .u32] x:=DSh.shp h
theorem shp64 {x:LL} (h:LS [s64] x):Shp [.int .i64] x:=DSh.shp h
theorem shp2 {x:LL} (h:LS pairS x):Shp [.int .i64, .int .i64] x:=DSh.shp h
theorem shpF {x:LL} (h:LS frozS x):Shp [.int .i64, .bool, .sl, .int .i64, .bool, .sl, .int .i64, .bool, .sl, .int .i64, .bool, .sl, .int .i64, .bool, .int .i64, .int .i64, .sl] x:=DSh.shp h
theorem Ao {l:LL} {k:Int} {d:List D} (h0:0≤k) (h:l[k.toNat]?=some d):l.take (k+1).toNat=l.take k.toNat++[d]:=by
 rw [show (k+1).toNat=k.toNat+1 by omega,List.take_add_one,h];rfl
theorem Ae {k j:Int} (hj:j=w64 (k+1)) (h0:0≤k) (hk:k≤9223372036854775806):j=k+1:=by rw [hj,Gj (by omega) (by omega)]
theorem Fk {k j:Int} (hj:j=w64 k) (h0 : -9223372036854775808≤k) (hk:k≤9223372036854775807):j=k:=by rw [hj,Gj h0 hk]
theorem En {k j:Int} (hj:j=w64 (k-1)) (h0:0≤k) (hk:k≤4611686018427387904):j=k-1:=by rw [hj,Gj (by omega) (by omega)]
theorem wu64 {k:Int} (h0:0≤k) (hk:k≤9223372036854775807):IntKind.wrap .u64 k=k:=by
 unfold IntKind.wrap;simp [IntKind.bits,IntKind.signed];omega
theorem Ay4 {k j:Int} (hj:j=IntKind.wrap .u8 k) (h0:0≤k) (hk:k≤255):j=k:=by
 rw [hj];unfold IntKind.wrap;simp [IntKind.bits,IntKind.signed];omega
theorem Aa {l:List Sh} {x:LL} {k:Nat} {cs:List D} (hk:x[k]?=some cs) (h:LS l x):DShs l cs:=h.els cs (List.mem_of_getElem? hk)
theorem El {l1 l2:LL} {k:Nat} {a b:List D} (h1:l1[k]?=some a) (h2:l2[k]?=some b) (h:a≠b):l1≠l2:=fun e=>by
 rw [e,h2] at h1;exact h (Option.some.inj h1).symm
theorem Dc {l1 l2:LL} {k:Int} (h:l1.take k.toNat=l2.take k.toNat) (h1:(l1.length:Int)≤k) (h2:l1.length=l2.length):l1=l2:=by
 rw [List.take_of_length_le (by omega),List.take_of_length_le (by omega)] at h;exact h
def rkS (l:List Sh):RK:=⟨l.map Sh.kd,true,false⟩
end Go.Vc

namespace Go.Vc
open Go.Deep
theorem Hu {α:Type} {b:Bool} {x:Option α} {y:α} (h:(bif b then x else none)=some y):b=true∧x=some y:=by
 cases b with
 | true=>exact ⟨rfl,h⟩
 | false=>cases h
def shFs (P:Program) (sh:TypeId→Option (List Sh)):List Field→Nat→Option (List Sh)
 | [],_=>some []
 | f::fs,o=>match sh f.type with
  | some l=>bif Nat.beq f.offset o && Nat.beq (P.cellsOf f.type) l.length then (match shFs P sh fs (o+l.length) with
   | some ls=>some (l++ls)
   | none=>none) else none
  | none=>none
def shStep (P:Program) (sh:TypeId→Option (List Sh)) (t:TypeId):Option (List Sh):=match P.underlying t with
 | some (.int k)=>some [.int k]
 | some .bool=>some [.bool]
 | some .string=>some [.str]
 | some (.slice e)=>match sh e with
  | some l=>bif Nat.beq (P.cellsOf e) l.length && Nat.blt 0 l.length then some [.sl l] else none
  | none=>none
 | some (.struct fs)=>match shFs P sh fs.toList 0 with
  | some l=>bif Nat.beq (P.cellsOf t) l.length then some l else none
  | none=>none
 | _=>none
def shT (P:Program):Nat→TypeId→Option (List Sh)
 | 0,_=>none
 | n+1,t=>shStep P (shT P n) t
theorem rngOf {k:IntKind} {n:Int} (h:(Lit.int k n).wf=true):RngK k n:=by
 cases k <;> simp [Lit.wf,IntKind.min,IntKind.max,IntKind.signed,IntKind.bits] at h <;> first | exact h | trivial
theorem addrN (b off n:Nat):(⟨b,off,none⟩:Addr).add n=⟨b,off+n,none⟩:=by
 simp [Addr.add]
theorem Qm {F:Nat→Prop} {w:World} {d:D} {v:Value} (h:RD F w d v):RDs F w [d] [v]:=⟨rfl,fun j d' u hd hu=>by
 cases j with
 | zero=>simp at hd hu;subst hd hu;exact h
 | succ j=>simp at hd⟩
theorem At6 {F:Nat→Prop} {w:World} {ds ds':List D} {vs vs':List Value} (h:RDs F w ds vs) (h':RDs F w ds' vs'):RDs F w (ds++ds') (vs++vs'):=⟨by rw [List.length_append,List.length_append,h.1,h'.1],fun j d u hd hu=>by
 rw [List.getElem?_append] at hd hu
 rw [h.1] at hu
 split at hd
 ·rename_i hlt;rw [if_pos hlt] at hu;exact h.2 j d u hd hu
 ·rename_i hlt;rw [if_neg hlt] at hu;exact h'.2 _ d u hd hu⟩
theorem Ky {s:Sh} {d:D} (h:DSh s d):DShs [s] [d]:=Ab.2 ⟨h,Af.2 trivial⟩
theorem Arw {l l':List Sh} {ds ds':List D} (h:DShs l ds) (h':DShs l' ds'):DShs (l++l') (ds++ds'):=⟨by rw [List.length_append,List.length_append,h.1,h'.1],fun j s d hs hd=>by
 rw [List.getElem?_append] at hd hs
 rw [h.1] at hd
 split at hs
 ·rename_i hlt;rw [if_pos hlt] at hd;exact h.2 j s d hs hd
 ·rename_i hlt;rw [if_neg hlt] at hd;exact h'.2 _ s d hs hd⟩
section
variable {H:Type} {enc:TypeId×Value→H} {P:Program} {w:World} {base:Nat} {spare:Nat→Bool} {held:Bool}
theorem Amj {sh:TypeId→Option (List Sh)} {m:Nat} {xs:List (DataW H×List MemPlace)} (hsh:∀ t l,sh t=some l→∀ cs x,DataW.trod enc P w base spare held m t cs=some x→∃ ds,DShs l ds∧RDs (fun g=>g<w.heap.size) w ds cs):∀ (fs:List Field) (o:Nat) (l:List Sh) (cs:List Value) (i0:Nat),shFs P sh fs o=some l→cs.length=o+l.length →
  (∀ (i:Nat) (f:Field),fs[i]?=some f→DataW.trod enc P w base spare held m f.type ((cs.drop f.offset).take (P.cellsOf f.type))=xs[i0+i]?)→i0+fs.length≤xs.length→∃ ds,DShs l ds∧RDs (fun g=>g<w.heap.size) w ds (cs.drop o)
 | [],o,l,cs,i0,h,hl,_,_=>by
  cases h
  refine ⟨[],Af.2 trivial,?_⟩
  rw [List.drop_eq_nil_of_le (by simp at hl;omega)]
  exact ⟨rfl,fun j d u hd=>by simp at hd⟩
 | f::fs,o,l,cs,i0,h,hl,hf,hx=>by
  unfold shFs at h
  split at h
  ·rename_i l1 h1
   obtain ⟨hb,h2⟩:=Hu h
   split at h2
   ·rename_i l2 h3
    cases h2
    simp only [Bool.and_eq_true] at hb
    have ho:f.offset=o:=Nat.eq_of_beq_eq_true hb.1
    have hc:P.cellsOf f.type=l1.length:=Nat.eq_of_beq_eq_true hb.2
    have h0:=hf 0 f rfl
    have hlt:i0+0<xs.length:=by simp at hx;omega
    rw [List.getElem?_eq_getElem hlt] at h0
    obtain ⟨d1,hd1,hr1⟩:=hsh _ _ h1 _ _ h0
    obtain ⟨d2,hd2,hr2⟩:=Amj hsh fs (o+l1.length) l2 cs (i0+1) h3 (by rw [List.length_append] at hl;omega) (fun i g hg=>by
     have:=hf (i+1) g (by simpa using hg)
     rw [this];congr 1;omega) (by simp at hx ⊢;omega)
    refine ⟨d1++d2,Arw hd1 hd2,?_⟩
    have e:cs.drop o=(cs.drop f.offset).take (P.cellsOf f.type)++cs.drop (o+l1.length):=by
     rw [ho,hc,←List.drop_drop,List.take_append_drop]
    rw [e]
    exact At6 hr1 hr2
   ·cases h2
  ·cases h
theorem Ad4:∀ (n:Nat) (t:TypeId) (l:List Sh),shT P n t=some l→∀ (fuel:Nat) (cs:List Value) (x:DataW H×List MemPlace),DataW.trod enc P w base spare held fuel t cs=some x→∃ ds,DShs l ds∧RDs (fun g=>g<w.heap.size) w ds cs
 | 0,t,l,h,_,_,_,_=>by cases h
 | n+1,t,l,h,fuel,cs,x,hx=>by
  have h':shStep P (shT P n) t=some l:=h
  unfold shStep at h'
  split at h'
  ·rename_i k hu
   cases h'
   obtain ⟨z,rfl,_,hw⟩:=DataW.trod_int hu hx
   exact ⟨_,Ky (.int k z (rngOf hw)),Qm (.raw _ rfl)⟩
  ·rename_i hu
   cases h'
   obtain ⟨z,rfl,_⟩:=DataW.trod_bool hu hx
   exact ⟨_,Ky (.bool z),Qm (.raw _ rfl)⟩
  ·rename_i hu
   cases h'
   obtain ⟨z,rfl,_⟩:=DataW.trod_string hu hx
   exact ⟨_,Ky (.str z),Qm (.raw _ rfl)⟩
  ·rename_i e hu
   split at h'
   ·rename_i le he
    obtain ⟨hb,h2⟩:=Hu h'
    cases h2
    simp only [Bool.and_eq_true] at hb
    have hc:P.cellsOf e=le.length:=Nat.eq_of_beq_eq_true hb.1
    have hpos:0<le.length:=of_decide_eq_true (by simpa [Nat.blt_eq] using hb.2)
    rcases open_slice hu hx with ⟨h0,_⟩ | ⟨a,len,cap,m,f,Dt,Pl,rfl,_,hlc,hcm,hmm,_,hi⟩
    ·subst h0
     exact ⟨[.fs []],Ky (.sl _ _ (by simp) (fun _ h=>by cases h) (fun _ h=>by cases h)),Qm (.nil _ _)⟩
    ·have hle:len≤m:=by rw [hmm];split <;> omega
     rw [hc] at hi
     obtain ⟨g,hg⟩:=choose_lt (α:=List D×List Value) (n:=len) (p:=fun i X=>w.cells? base (a.add (i*le.length)) le.length=some X.2∧DShs le X.1∧RDs (fun g=>g<w.heap.size) w X.1 X.2) (fun i hil=>by
      obtain ⟨cs',h1,h2⟩:=hi i (by omega)
      obtain ⟨ds,h3,h4⟩:=Ad4 n e le he _ _ _ h2
      exact ⟨(ds,cs'),h1,h3,h4⟩)
     have hml:len≤9223372036854775807:=Nat.le_trans (Nat.le_trans hlc hcm) (Nat.le_of_eq rfl)
     refine ⟨[.fs ((List.range len).map fun i=>(g i).1)],Ky (.sl _ _ (by simpa using hml) (fun cs' h3=>?_) (fun cs' h3=>?_)),Qm ?_⟩
     ·simp only [List.mem_map,List.mem_range] at h3
      obtain ⟨i,hil,rfl⟩:=h3
      exact (hg i hil).2.1.1
     ·simp only [List.mem_map,List.mem_range] at h3
      obtain ⟨i,hil,rfl⟩:=h3
      exact (hg i hil).2.1.2
     ·rcases Nat.eq_zero_or_pos len with h0 | h0
      ·subst h0;exact .nil _ _
      ·have hcell:∀ i,i<len→∀ j,j<le.length→w.cell? ((a.add (i*le.length)).add j)=((g i).2)[j]?:=fun i hil=>(World.cells?_some (hg i hil).1).2.2
       have hlen2:∀ i,i<len→(g i).2.length=le.length:=fun i hil=>(World.cells?_some (hg i hil).1).2.1
       obtain ⟨b,off,s⟩:=a
       have hs:s=none:=by
        have h1:=hcell 0 h0 0 hpos
        rw [List.getElem?_eq_getElem (by rw [hlen2 0 h0];exact hpos)] at h1
        rw [Nat.zero_mul] at h1
        have h2:(((⟨b,off,s⟩:Addr).add 0).add 0)=⟨b,off,s⟩:=rfl
        rw [h2] at h1
        exact World.cell?_spot h1
       subst hs
       have hcell2:∀ i,i<len→∀ j,j<le.length→w.cell? ⟨b,off+i*le.length+j,none⟩=((g i).2)[j]?:=fun i hil j hj=>by
        have:=hcell i hil j hj
        rw [addrN,addrN] at this
        exact this
       have hF:b<w.heap.size:=by
        have h1:=hcell2 0 h0 0 hpos
        rw [List.getElem?_eq_getElem (by rw [hlen2 0 h0];exact hpos)] at h1
        exact World.block_lt_of_cell? w _ h1
       have hat:∀ (i:Nat) (cs':List D),((List.range len).map fun i=>(g i).1)[i]?=some cs'→i<len∧cs'=(g i).1:=fun i cs' h3=>by
        rw [List.getElem?_map] at h3
        cases hq:(List.range len)[i]? with
        | none=>rw [hq] at h3;cases h3
        | some q =>
         rw [hq] at h3
         have:=List.getElem?_eq_some_iff.1 hq
         obtain ⟨h4,h5⟩:=this
         simp at h4 h5
         subst h5
         cases h3
         exact ⟨h4,rfl⟩
       have hk:=RD.fs (F:=fun g=>g<w.heap.size) (w:=w) ((List.range len).map fun i=>(g i).1) b off cap le.length (fun i j=>((g i).2).getD j undef) (by
        intro h3;have:=congrArg List.length h3;simp at this;omega) hpos (by simpa using hlc) hF (fun i cs' h3=>by
         obtain ⟨hil,rfl⟩:=hat i cs' h3
         exact (hg i hil).2.1.1) (fun i j cs' d h3 h4=>by
         obtain ⟨hil,rfl⟩:=hat i cs' h3
         have hj:j<le.length:=by rw [←(hg i hil).2.1.1];exact (List.getElem?_eq_some_iff.1 h4).1
         rw [hcell2 i hil j hj,List.getElem?_eq_getElem (by rw [hlen2 i hil];exact hj)]
         simp [List.getD,List.getElem?_eq_getElem (show j<(g i).2.length by rw [hlen2 i hil];exact hj)]) (fun i j cs' d h3 h4=>by
         obtain ⟨hil,rfl⟩:=hat i cs' h3
         have hj:j<le.length:=by rw [←(hg i hil).2.1.1];exact (List.getElem?_eq_some_iff.1 h4).1
         refine (hg i hil).2.2.2 j d _ h4 ?_
         simp [List.getD,List.getElem?_eq_getElem (show j<(g i).2.length by rw [hlen2 i hil];exact hj)])
       have hln:((List.range len).map fun i=>(g i).1).length=len:=by simp
       rw [hln] at hk
       exact hk
   ·cases h'
  ·rename_i fs hu
   split at h'
   ·rename_i l1 h1
    obtain ⟨hb,h2⟩:=Hu h'
    cases h2
    have hc:P.cellsOf t=l.length:=Nat.eq_of_beq_eq_true hb
    obtain ⟨xs,m,_,_,hlen,hxl,hf⟩:=DataW.trod_struct hu hx
    have hl:cs.length=0+l.length:=by rw [hlen,hc];omega
    obtain ⟨ds,h3,h4⟩:=Amj (xs:=xs) (fun t l ht cs x hx=>Ad4 n t l ht m cs x hx) fs.toList 0 l cs 0 h1 hl (fun i f hf'=>by
     rw [Nat.zero_add];exact hf i f (by simpa using hf')) (by simp [hxl])
    exact ⟨ds,h3,by simpa using h4⟩
   ·cases h'
  ·cases h'
end
end Go.Vc

namespace Go.Vc
open Go.Deep Go.RowKit Go.ChangeShapes Go.WideShapes Go.ChangeAt
def parS (P:Program) (n:Nat) (t:TypeId):Option (Bool×List Sh):=match shT P n t with
 | some l=>match P.underlying t with
  | some (.struct _)=>some (true,l)
  | _=>bif Nat.beq l.length 1 then some (false,l) else none
 | none=>none
def parsS (P:Program) (n:Nat):List TypeId→Option (List (Bool×List Sh))
 | []=>some []
 | t::ts=>match parS P n t,parsS P n ts with
  | some p,some ps=>some (p::ps)
  | _,_=>none
def rkOf (p:Bool×List Sh):RK:=⟨p.2.map Sh.kd,p.1,false⟩
inductive InS:Bool×List Sh→DV→Prop
 | c (s:Sh) (d:D) (h:DSh s d):InS (false,[s]) (.c d)
 | a (l:List Sh) (ds:List D) (h:DShs l ds):InS (true,l) (.a ds)
inductive InSs:List (Bool×List Sh)→List DV→Prop
 | nil:InSs [] []
 | cons {p:Bool×List Sh} {d:DV} {ps:List (Bool×List Sh)} {ds:List DV} (h:InS p d) (t:InSs ps ds):InSs (p::ps) (d::ds)
section
variable {H:Type} {enc:TypeId×Value→H} {P:Program} {w:World}
theorem Aw5 {F:Nat→Prop} {B0:Nat} {w:World} {ds:List D} {vs:List Value} (h:RDs F w ds vs):RDs (Fo F B0 false) w ds vs:=⟨h.1,fun j d u hd hu=>(h.2 j d u hd hu).keep (fun g hg=>⟨hg,fun h=>by cases h⟩) fun _ _ _ _ h=>h⟩
theorem Aq3 {r:Reach} {base b0:Nat} {spare:Nat→Bool} {held:Bool} {n:Nat} {t:TypeId} {p:Bool×List Sh} {v:Value} {d:DataW H} {ps:List MemPlace} (hp:parS P n t=some p) (hval:Value.okWide P w r b0 t v) (hd:DataW.Trod enc P w base spare held t v d ps) :
  ∃ x,InS p x∧RV (fun g=>g<w.heap.size) 0 w (rkOf p) x v:=by
 obtain ⟨fuel,hf⟩:=hd
 unfold parS at hp
 split at hp
 ·rename_i l hl
  obtain ⟨ds,h1,h2⟩:=Ad4 n t l hl _ _ _ hf
  split at hp
  ·rename_i fs hu
   cases hp
   obtain ⟨cs,rfl,_⟩:=okWide_struct hu hval
   refine ⟨.a ds, .a _ _ h1,?_⟩
   have:=RV.a (F:=fun g=>g<w.heap.size) (B0:=0) (w:=w) (l.map Sh.kd) false ds cs.toList h1.dks (Aw5 h2)
   simpa [rkOf] using this
  ·rename_i hns
   obtain ⟨hb,he⟩:=Hu hp
   cases he
   have hl1:l.length=1:=Nat.eq_of_beq_eq_true hb
   obtain ⟨s,rfl⟩:=List.length_eq_one_iff.1 hl1
   have hd1:ds.length=1:=h1.1
   obtain ⟨d1,rfl⟩:=List.length_eq_one_iff.1 hd1
   have hv1:v.cells.toList.length=1:=h2.1
   have hv:v.cells.toList=[v]:=by
    cases v with
    | agg cs =>
     exfalso
     cases n with
     | zero=>cases hl
     | succ n =>
      have hl':shStep P (shT P n) t=some [s]:=hl
      unfold shStep at hl'
      split at hl'
      ·rename_i k hu;obtain ⟨z,h⟩:=okWide_int hu hval;cases h
      ·rename_i hu;obtain ⟨z,h⟩:=okWide_bool hu hval;cases h
      ·rename_i hu;obtain ⟨z,h⟩:=okWide_string hu hval;cases h
      ·rename_i e hu;obtain ⟨z,z1,z2,h⟩:=okWide_slice hu hval;cases h
      ·rename_i fs hu;exact hns fs hu
      ·cases hl'
    | tuple vs=>simp [Value.cells] at hv1 ⊢
    | _=>simp [Value.cells]
   rw [hv] at h2
   have hrd:=h2.2 0 d1 v rfl rfl
   have hds:=(Ab.1 h1).1
   refine ⟨.c d1, .c s d1 hds,?_⟩
   exact .c s.kd false d1 v hds.dk (hrd.keep (fun g hg=>⟨hg,fun h=>by cases h⟩) fun _ _ _ _ h=>h)
 ·cases hp
theorem Abu {r:Reach} {base b0:Nat} {spare:Nat→Bool} {held:Bool} {n:Nat}:∀ (ts:List TypeId) (pl:List (Bool×List Sh)) (vs:List Value) (ds:List (DataW H)) (ps:List MemPlace),parsS P n ts=some pl→(∀ (j:Nat) t v,ts[j]?=some t→vs[j]?=some v→Value.okWide P w r b0 t v)→DataW.TrodAll enc P w base spare held ts vs ds ps →
  ∃ xs,InSs pl xs∧RVs (fun g=>g<w.heap.size) 0 w (pl.map rkOf) xs vs
 | [],pl,vs,ds,ps,hp,_,hA=>by
  obtain ⟨rfl,_,_⟩:=trodAll_nil hA
  cases hp
  exact ⟨[], .nil, .nil⟩
 | t::ts,pl,vs,ds,ps,hp,hval,hA=>by
  obtain ⟨v,vs',d,ds',p,q,rfl,rfl,rfl,h1,h2⟩:=trodAll_cons hA
  unfold parsS at hp
  split at hp
  ·rename_i x xs hx hxs
   cases hp
   obtain ⟨y,hy,hr⟩:=Aq3 hx (hval 0 t v rfl rfl) h1
   obtain ⟨ys,hys,hrs⟩:=Abu ts xs vs' ds' q hxs (fun j t v ht hv=>hval (j+1) t v ht hv) h2
   exact ⟨y::ys, .cons hy hys, .cons hr hrs⟩
  ·cases hp
theorem Mw (hl:laidOutB P=true) {W W':World} (hb:Below W.heap.size W W'):∀ {ts:List TypeId} {vs:List Value} {ds:List (DataW H)} {ps:List MemPlace},(∀ t∈ts,P.readableRec t=true∧t<P.types.size) →
  DataW.TrodAll enc P W 0 (fun _=>true) true ts vs ds ps→(∀ x∈ps,x.block<W.heap.size)→DataW.TrodAll enc P W' 0 (fun b=>decide (b<W.heap.size)) true ts vs ds ps
 | [],[],[],_,_,h,_=>h
 | t::ts,v::vs,d::ds,ps,ht,h,hlt=>by
  obtain ⟨p,q,h1,h2,rfl⟩:=h
  refine ⟨p,q,Below.trod hl (ht t (by simp)).1 (ht t (by simp)).2 h1 hb (fun x hx=>hlt x (by simp [hx])),?_,rfl⟩
  exact Mw hl hb (fun t' h'=>ht t' (by simp [h'])) h2 (fun x hx=>hlt x (by simp [hx]))
 | [],_::_,_,_,_,h,_=>h.elim
 | [],[],_::_,_,_,h,_=>h.elim
 | _::_,[],_,_,_,h,_=>h.elim
 | _::_,_::_,[],_,_,h,_=>h.elim
theorem Amc {f:Func} {s:ChangeSpec} {W W':World} {args:Array Value} {ds:List (DataW H)} {before:List MemPlace} {tb:TypeId}
  (hl:laidOutB P=true) (hps:∀ t∈f.params.toList,P.readableRec t=true∧t<P.types.size) (hres:f.resultTypes=#[tb]) (hb:P.underlying tb=some .bool)
  (hvars:s.vars=[]) (hs:s.fn H (ds++[])={ results:=[.lit (.bool true)],args:=ds })
  (hW:DataW.Whole enc P f.params.toList s.vars false W args.toList ds [] before) (hE:Below W.heap.size W W'):s.post enc P f false true false false W args (.bool true) W':=by
 have hW':=hW
 have hlt:∀ p∈before,p.block<W.heap.size:=fun p hp=>hW.lt p hp
 obtain ⟨p,q,hA,hV,rfl,hfz,hnd⟩:=hW
 rw [hvars] at hV
 have hq:q=[]:=hV
 subst hq
 refine ⟨ds,[],p++[],[],p,[],hW',?_,?_,?_,World.keptBut_mono (fun x hx=>⟨by simpa using hx, .inr (.inl hx)⟩) (hE.frame (·∈p)),fun h=>by cases h⟩
 ·rw [hs,hres]
  exact trodAll_mk1 (shut_bool hb true)
 ·rw [hs]
  exact Mw hl hE hps hA (fun x hx=>hlt x (by simp [hx]))
 ·rw [hvars,hs]
  rfl
theorem Aqo {f:FuncId} {fn:Func} {s:ChangeSpec} {W:World} {args:Array Value} {ds:List (DataW H)} {before:List MemPlace} {tb:TypeId} {t:ConT} {n b0:Nat} {pl:List (Bool×List Sh)} {r:Reach} (hcon:Con P k0 f t)
  (hpl:parsS P n fn.params.toList=some pl) (hta:t.args=pl.map rkOf) (hpre:∀ xs,InSs pl xs→t.pre xs) (hres':t.res=[kb]) (hpost:∀ xs rs,t.post xs rs→rs=[vb true])
  (hval:∀ (j:Nat) t v,fn.params[j]?=some t→args[j]?=some v→Value.okWide P W r b0 t v)
  (hl:laidOutB P=true) (hps:∀ t∈fn.params.toList,P.readableRec t=true∧t<P.types.size) (hres:fn.resultTypes=#[tb]) (hb:P.underlying tb=some .bool)
  (hvars:s.vars=[]) (hs:s.fn H (ds++[])={ results:=[.lit (.bool true)],args:=ds })
  (hW:DataW.Whole enc P fn.params.toList s.vars false W args.toList ds [] before):Calls P f args W fun e W'=>∃ v,e = .returned v∧s.post enc P fn false true false false W args v W':=by
 have hW':=hW
 obtain ⟨p,q,hA,hV,_,_,_⟩:=hW
 obtain ⟨xs,hxs,hrs⟩:=Abu (r:=r) (b0:=b0) fn.params.toList pl args.toList ds p hpl (fun j t v ht hv=>hval j t v (by simpa using ht) (by simpa using hv)) hA
 have hc:=hcon.2 Fence.wide ⟨fun _=>trivial,rfl,rfl⟩ 0 (fun g=>g<W.heap.size) W xs args.toList ⟨fun _ _ h=>(by cases h),fun _ _ h=>(by cases h)⟩ (fun g h=>h) (by rw [hta];exact hrs) (hpre xs hxs)
 refine (callsIn_wide.1 hc).mono fun e W' ⟨res,us,G',h1,h2,h3,h4,_,h5⟩=>?_
 have hr:=hpost _ _ h1
 subst hr
 rw [hres'] at h5
 cases h5 with | cons h6 h7 =>
 cases h7
 cases h6 with | c k own d v hd h =>
 cases h
 exact ⟨_,h2,Amc hl hps hres hb hvars hs hW' ⟨h3.os,h3.tape,h3.output,h3.size,h4⟩⟩
end
end Go.Vc

namespace Go.Vc
open Classical
def upto (P:Nat→Prop) (k:Int):Prop:=∀ i:Nat,(i:Int)<k→P i
theorem Pq (P:Nat→Prop):upto P 0:=fun i h=>by omega
theorem Ag {P:Nat→Prop} {k:Int} (h:0≤k):upto P (k+1)↔upto P k∧P k.toNat:=by
 refine ⟨fun hh=>⟨fun i hi=>hh i (by omega),hh _ (by omega)⟩,fun ⟨h1,h2⟩ i hi=>?_⟩
 by_cases hl:(i:Int)<k
 ·exact h1 i hl
 ·rw [show i=k.toNat by omega];exact h2
theorem Bc {P:Nat→Prop} {k n:Int} (h:¬P k.toNat) (h0:0≤k) (h1:k<n):¬upto P n:=fun hh=>h (hh _ (by omega))
theorem Ba {P:Nat→Prop} {k n:Int} (h:upto P k) (h1:n≤k):upto P n:=fun i hi=>h i (by omega)
def nth (l:LL) (k c:Nat):Int:=gI ((l[k]?).getD []) c
theorem Qx {l:LL} {k:Nat} {q:IntKind} {x:Int} (h:l[k]?=some [.raw (.int q x)]):nth l k 0=x:=by unfold nth;rw [h];rfl
theorem Cv {l:LL} {k:Nat} {q:IntKind} {x:Int} {cs:List D} (h:l[k]?=some (.raw (.int q x)::cs)):nth l k 0=x:=by unfold nth;rw [h];rfl
theorem Axh {l:LL} {q:IntKind} {x:Int} (h:l[Int.toNat 0]?=some [.raw (.int q x)]):nth l 0 0=x:=Qx h
theorem Yr {l:LL} {k x:Int} {q:IntKind} (hk:k=(l.length:Int)) (h0:0<k) (h:l[(k-1).toNat]?=some [.raw (.int q x)]):nth l (l.length-1) 0=x:=by
 rw [show l.length-1=(k-1).toNat by omega];exact Qx h
theorem DShs.tail {s:Sh} {l:List Sh} {d:D} {cs:List D} (h:DShs (s::l) (d::cs)):DShs l cs:=(Ab.1 h).2
theorem Do {l:LL} {k:Nat} {x y:Int} (h:l[k]?=some [dn x,dn y]):nth l k 0=x∧nth l k 1=y:=by unfold nth;rw [h];exact ⟨rfl,rfl⟩
def sub3 (c:List D) (k:Nat):List D:=(c.drop k).take 3
def inV (x:Int):Prop := -2147483647≤x∧x≤2147483647
def Gn (l:LL):Prop:=l.length≤40∧(0<l.length→nth l (l.length-1) 0≠0)
def Aam (c:List D):Prop:=Gn (gL c 1)∧0≤gI c 2∧gI c 2≤1024∧((gL c 1).length=0→gI c 2=0∧gB c 0=false)∧(0<(gL c 1).length→0<gI c 2→Int.tmod (nth (gL c 1) 0 0) 2≠0)
def Bl (c:List D):Prop:=Aam (sub3 c 0)∧Aam (sub3 c 3)∧Aam (sub3 c 6)∧Aam (sub3 c 9)
def Vo (c:List D):Prop:=Bl c∧gB c 3=false∧((gL c 4).length=0→(gL c 1).length=0)
def Vp (c:List D):Prop:=(gB c 0=true→inV (gI c 1)∧inV (gI c 2)∧gI c 1≤gI c 2)∧(gB c 0=false→gI c 1=0∧gI c 2=0)
def Cq (l:LL) (i:Nat):Prop:=0<i→nth l (i-1) 0<nth l i 0
def Cc (l:LL):Int:=if 8<l.length then 4 else if upto (Cq l) l.length then 0 else 8
def Bp (c:List D):Prop:=Vo (c.take 12)∧Vp (sub3 c 12)∧Cc (gL c 15)=0
def prv (l:LL) (i:Nat):Int:=if i=0 then -1 else nth l (i-1) 0
def Bq (l:LL) (i:Nat):Prop:=prv l i<nth l i 0∧nth l i 0≤65535∧Bp (((l[i]?).getD []).drop 1)
def Be (l:LL):Int:=if 1024<l.length then 4 else if upto (Bq l) l.length then 0 else 8
def Bx (l:LL) (i:Nat):Prop:=prv l i<nth l i 0∧nth l i 0≤1048575
def Bn (l:LL):Int:=if 4096<l.length then 4 else if upto (Bx l) l.length then 0 else 8
def Aur (a n:Int):Prop:=0≤a∧a≤2147483647∧0≤n∧n≤1048575
def ahead (a b c d:Int):Prop:=a<c∨a=c∧b<d
def Ct (l:LL) (i:Nat):Prop:=Aur (nth l i 0) (nth l i 1)∧(0<i→ahead (nth l (i-1) 0) (nth l (i-1) 1) (nth l i 0) (nth l i 1))
def Bh (l:LL):Int:=if 1024<l.length then 4 else if upto (Ct l) l.length then 0 else 8
def Dg (c:List D):Prop:=1≤gI c 0∧gI c 0≤64∧0≤gI c 2∧gI c 2≤gI c 1∧gI c 1≤2147483647∧0≤gI c 3∧gI c 3≤65535∧0≤gI c 4∧gI c 4≤65536∧(gI c 1-gI c 2≥gI c 0→gI c 3=65535)
theorem Sv {l:LL} {k a b:Int} (h2:l[(k-1).toNat]?=some [d32 b]) (h1:l[k.toNat]?=some [d32 a]) (h0:1≤k) (h:a≤b):¬Cq l k.toNat:=fun hh=>by
 have:=hh (by omega)
 rw [show k.toNat-1=(k-1).toNat by omega,Qx h1,Qx h2] at this
 omega
theorem Of {l:LL} {k a b:Int} (h2:l[(k-1).toNat]?=some [d32 b]) (h1:l[k.toNat]?=some [d32 a]) (h:¬a≤b):Cq l k.toNat:=fun h0=>by
 rw [show k.toNat-1=(k-1).toNat by omega,Qx h1,Qx h2]
 omega
theorem Md {l:LL} {k a p:Int} (h1:l[k.toNat]?=some [dn a]) (hp:p=prv l k.toNat) (h0:0≤k) (h:a≤p∨a>1048575):¬Bx l k.toNat:=fun hh=>by
 obtain ⟨h2,h3⟩:=hh
 rw [Qx h1] at h2 h3
 omega
theorem Is {l:LL} {k a p:Int} (h1:l[k.toNat]?=some [dn a]) (hp:p=prv l k.toNat) (h:¬a≤p) (h2:¬a>1048575):Bx l k.toNat:=by
 unfold Bx
 rw [Qx h1]
 omega
theorem Ye {l:LL} {k a:Int} {cs:List D} (h1:l[k.toNat]?=some (dn a::cs)) (h0:0≤k):a=prv l (k+1).toNat:=by
 unfold prv
 rw [if_neg (by omega),show (k+1).toNat-1=k.toNat by omega,Cv h1]
theorem Oe {l:LL} {k a b:Int} (h1:l[k.toNat]?=some [dn a,dn b]) (h:¬(0≤a∧a≤2147483647∧0≤b∧b≤1048575)):¬Ct l k.toNat:=fun hh=>by
 have:=hh.1
 rw [(Do h1).1,(Do h1).2] at this
 exact h this
theorem Od {l:LL} {k a b c d:Int} (h2:l[(k-1).toNat]?=some [dn c,dn d]) (h1:l[k.toNat]?=some [dn a,dn b]) (h0:0<k) (h:¬(c<a∨c=a∧d<b)):¬Ct l k.toNat:=fun hh=>by
 have:=hh.2 (by omega)
 rw [show k.toNat-1=(k-1).toNat by omega,(Do h1).1,(Do h1).2,(Do h2).1,(Do h2).2] at this
 exact h this
theorem Le {l:LL} {k a b:Int} (h1:l[k.toNat]?=some [dn a,dn b]) (h:0≤a∧a≤2147483647∧0≤b∧b≤1048575) (h0:k≤0):Ct l k.toNat:=by
 refine ⟨by rw [(Do h1).1,(Do h1).2];exact h,fun hh=>by omega⟩
theorem Oc {l:LL} {k a b c d:Int} (h2:l[(k-1).toNat]?=some [dn c,dn d]) (h1:l[k.toNat]?=some [dn a,dn b]) (h:0≤a∧a≤2147483647∧0≤b∧b≤1048575) (h3:c<a∨c=a∧d<b):Ct l k.toNat:=by
 refine ⟨by rw [(Do h1).1,(Do h1).2];exact h,fun hh=>?_⟩
 rw [show k.toNat-1=(k-1).toNat by omega,(Do h1).1,(Do h1).2,(Do h2).1,(Do h2).2]
 exact h3
theorem It {l:LL} {k a p:Int} {cs:List D} (h1:l[k.toNat]?=some (dn a::cs)) (hp:p=prv l k.toNat) (h0:0≤k) (h:a≤p∨a>65535):¬Bq l k.toNat:=fun hh=>by
 obtain ⟨h2,h3,_⟩:=hh
 rw [Cv h1] at h2 h3
 omega
theorem Aka {l:LL} {k a x:Int} {cs:List D} (h1:l[k.toNat]?=some (dn a::cs)) (hx:x=if Bp cs then 0 else 8) (h0:0≤k) (h:x≠0):¬Bq l k.toNat:=fun hh=>by
 obtain ⟨_,_,h4⟩:=hh
 rw [h1] at h4
 exact h (hx.trans (if_pos h4))
theorem Aez {l:LL} {k a p x:Int} {cs:List D} (h1:l[k.toNat]?=some (dn a::cs)) (hp:p=prv l k.toNat) (hx:x=if Bp cs then 0 else 8) (h:¬a≤p) (h2:¬a>65535) (h3:¬x≠0):Bq l k.toNat:=by
 unfold Bq
 rw [Cv h1,h1]
 refine ⟨by omega,by omega,?_⟩
 rcases Classical.em (Bp cs) with hc | hc
 ·exact hc
 ·rw [if_neg hc] at hx;omega
def Cd (l:LL) (i:Nat):Prop:=0≤nth l i 0∧nth l i 0<8∧0≤nth l i 1∧nth l i 1≤2147483647
def Bk (l:LL):Int:=if 64<l.length then 4 else if upto (Cd l) l.length then 0 else 8
theorem Wq {l:LL} {k a b:Int} (h1:l[k.toNat]?=some [dn a,dn b]) (h:¬(0≤a∧a<8∧0≤b∧b≤2147483647)):¬Cd l k.toNat:=fun hh=>by
 unfold Cd at hh
 rw [(Do h1).1,(Do h1).2] at hh
 exact h hh
theorem Sy {l:LL} {k a b:Int} (h1:l[k.toNat]?=some [dn a,dn b]) (h:0≤a∧a<8∧0≤b∧b≤2147483647):Cd l k.toNat:=by
 unfold Cd
 rw [(Do h1).1,(Do h1).2]
 exact h
def okE (c:List D):Prop:=DShs pairS c∧0≤gI c 0∧gI c 0<8∧0≤gI c 1∧gI c 1≤2147483647
def okD (l:LL):Prop:=l.length≤9223372036854775807∧∀ c∈l,okE c
theorem Auy {a b:Int}:okE [dn a,dn b]↔0≤a∧a<8∧0≤b∧b≤2147483647:=by
 unfold okE
 rw [show gI [dn a,dn b] 0=a from rfl,show gI [dn a,dn b] 1=b from rfl]
 simp only [pairS,Ab,Ai,rng64]
 refine ⟨fun h=>h.2,fun h=>⟨⟨⟨by omega,by omega⟩,⟨by omega,by omega⟩,Af.2 trivial⟩,h⟩⟩
theorem okD.ls {l:LL} (h:okD l):LS pairS l := .mk h.1 fun c hc=>(h.2 c hc).1
theorem okD.shp {l:LL} (h:okD l):Shp [.int .i64, .int .i64] l:=shp2 h.ls
theorem Amm {l:LL} {k:Nat} {a b:Int} (hk:l[k]?=some [dn a,dn b]) (h:okD l):0≤a∧a<8∧0≤b∧b≤2147483647:=Auy.1 (h.2 _ (List.mem_of_getElem? hk))
theorem Agw {l:LL} {i:Nat} {c:List D} (h:l[i]?=some c):nth l i 0=gI c 0∧nth l i 1=gI c 1:=by unfold nth;rw [h];exact ⟨rfl,rfl⟩
theorem Axe {l:LL} {x:Int} (hx:x=Bk l) (h0:x=0) (h:LS pairS l) (hl:l.length≤9223372036854775807):okD l:=by
 unfold Bk at hx
 split at hx
 ·omega
 ·split at hx
  ·rename_i hu
   refine ⟨hl,fun c hc=>?_⟩
   obtain ⟨i,hi⟩:=List.mem_iff_getElem?.1 hc
   have hlt:i<l.length:=(List.getElem?_eq_some_iff.1 hi).1
   have h1:=hu i (by omega)
   unfold Cd at h1
   rw [(Agw hi).1,(Agw hi).2] at h1
   exact ⟨h.els c hc,h1⟩
  ·omega
def cmpI (a b:Int):Int:=if a<b then -1 else if b<a then 1 else 0
theorem Ahs {l r:LL} {n:Nat} (h:n≤l.length):(l.take n++r).take n=l.take n:=by
 have:(l.take n).length=n:=by rw [List.length_take];omega
 rw [List.take_append_of_le_length (by omega),List.take_take];simp
theorem LS.set {q:List Sh} {l:LL} {k:Nat} {c:List D} (h:LS q l) (hl:l.length≤9223372036854775807) (hc:DShs q c):LS q (l.set k c) := .mk (by rw [List.length_set];exact hl) fun x hx=>by
 rcases List.mem_or_eq_of_mem_set hx with hx | rfl
 ·exact h.els x hx
 ·exact hc
def zPart:List D:=[db false, .fs [],dn 0,db false, .fs [],dn 0,db false, .fs [],dn 0,db false, .fs [],dn 0,db false,dn 0,dn 0, .fs []]
def downC (id:Int):List D:=[dn id,dn 0,db false,dn 0,dn 0,dn 0,dn 0,dn 0,db false, .fs [],dn 0,db false, .fs [],dn 0,db false, .fs [],dn 0,db false, .fs [],dn 0,db false,dn 0,dn 0, .fs [],db false,dn 0,dn 0, .fs [],dn 0,dn 0, .fs [], .fs [], .fs []]
def clockC (c:List D):List D:=(c.drop 3).take 5
def partC (c:List D):List D:=(c.drop 8).take 16
def takesC (c:List D):Prop:=gI c 7≤gI c 6
def Kg (c:List D):Prop:=(gB c 24=false→gI c 25=0∧gI c 26=0)∧(gB c 24=true→takesC c∧0≤gI c 25∧gI c 25≤1048575∧0≤gI c 26∧gI c 26<8∧gI c 26≠gI c 0)
def Azl (c:List D):Prop:=inV (gI c 1)∧Dg (clockC c)∧Bp (partC c)∧(¬takesC c→partC c=zPart)∧Kg c∧Bn (gL c 27)=0∧Bh (gL c 32)=0∧gI c 28=gI c 0∧Be (gL c 31)=0∧(0<(gL c 31).length→nth (gL c 31) ((gL c 31).length-1) 0<gI c 6)
def Qt (c:List D):Prop:=0≤gI c 0∧gI c 0≤7∧(gB c 2=false→c=downC (gI c 0))∧(gB c 2=true→Azl c∧1≤gI c 29∧gI c 29≤6∧((gL c 30).length:Int)≤gI c 29)
theorem ite0 {p:Prop} [Decidable p] {x:Int} (h:x=if p then 0 else 8) (h0:¬x≠0):p:=by
 by_cases hp:p
 ·exact hp
 ·rw [if_neg hp] at h;omega
theorem lastC {l:LL} {k x:Int} {cs:List D} (h:l[(k-1).toNat]?=some (dn x::cs)) (hk:k=(l.length:Int)) (h0:k>0):nth l (l.length-1) 0=x:=by
 rw [show l.length-1=(k-1).toNat by omega];exact Cv h
theorem Ay6 {x0 x1 x3 x4 x5 x6 x7 x10 x13 x16 x19 x21 x22 x25 x26 x28 x29:Int} {b2 b8 b11 b14 b17 b20 b24:Bool} {l9 l12 l15 l18 l23 l27 l30 l31 l32:LL} (h:inV x1∧Dg [dn x3,dn x4,dn x5,dn x6,dn x7]∧Bp [db b8,D.fs l9,dn x10,db b11,D.fs l12,dn x13,db b14,D.fs l15,dn x16,db b17,D.fs l18,dn x19,db b20,dn x21,dn x22,D.fs l23]∧(¬x7≤x6→[db b8,D.fs l9,dn x10,db b11,D.fs l12,dn x13,db b14,D.fs l15,dn x16,db b17,D.fs l18,dn x19,db b20,dn x21,dn x22,D.fs l23]=zPart)∧((b24=false→x25=0∧x26=0)∧(b24=true→x7≤x6∧0≤x25∧x25≤1048575∧0≤x26∧x26<8∧x26≠x0))∧Bn l27=0∧Bh l32=0∧x28=x0∧Be l31=0∧(0<l31.length→nth l31 (l31.length-1) 0<x6)) :
  Azl [dn x0,dn x1,db b2,dn x3,dn x4,dn x5,dn x6,dn x7,db b8,D.fs l9,dn x10,db b11,D.fs l12,dn x13,db b14,D.fs l15,dn x16,db b17,D.fs l18,dn x19,db b20,dn x21,dn x22,D.fs l23,db b24,dn x25,dn x26,D.fs l27,dn x28,dn x29,D.fs l30,D.fs l31,D.fs l32]:=h
theorem bcon {b:Bool} {p:Prop} (h:b=true) (h2:b=false):p:=by rw [h] at h2;cases h2
theorem Ayo {p:Prop} [Decidable p] {b:Bool} (h:b=decide p) (h2:b=true):p:=by rw [h2] at h;exact of_decide_eq_true h.symm
theorem Avu {p:Prop} [Decidable p] {b:Bool} (h:b=decide p) (h2:¬b=false):p:=Ayo h (by simpa using h2)
end Go.Vc

namespace Go.Vc
theorem Dw {x0 x1 x3 x4 x5 x6 x7 x10 x13 x16 x19 x21 x22 x25 x26 x28 x29:Int} {b2 b8 b11 b14 b17 b20 b24:Bool} {l9 l12 l15 l18 l23 l27 l30 l31 l32:LL} (h:DShs nodeS [dn x0,dn x1,db b2,dn x3,dn x4,dn x5,dn x6,dn x7,db b8,D.fs l9,dn x10,db b11,D.fs l12,dn x13,db b14,D.fs l15,dn x16,db b17,D.fs l18,dn x19,db b20,dn x21,dn x22,D.fs l23,db b24,dn x25,dn x26,D.fs l27,dn x28,dn x29,D.fs l30,D.fs l31,D.fs l32]):DShs clockS [dn x3,dn x4,dn x5,dn x6,dn x7]∧DShs partS [db b8,D.fs l9,dn x10,db b11,D.fs l12,dn x13,db b14,D.fs l15,dn x16,db b17,D.fs l18,dn x19,db b20,dn x21,dn x22,D.fs l23]∧LSh [s64] l27∧DShs cacheS [dn x28,dn x29,D.fs l30]∧LSh frozS l31∧LSh pairS l32:=by
 simp only [Ab,Af,Ai,Ah,Ak,true_and,and_true] at h ⊢
 obtain ⟨_,_,h3,h4,h5,h6,h7,h9,h10,h12,h13,h15,h16,h18,h19,h21,h22,h23,_,_,h27,h28,h29,h30,h31,h32⟩:=h
 exact ⟨⟨h3,h4,h5,h6,h7⟩,⟨h9,h10,h12,h13,h15,h16,h18,h19,h21,h22,h23⟩,h27,⟨h28,h29,h30⟩,h31,h32⟩
end Go.Vc

namespace Go.Vc
open Classical
def massOf (v:Int) (first:Bool):List D:=[db (decide (v<0)), .fs (if v=0 then [] else [[d32 v.natAbs]]),dn 0,db false, .fs [[d32 1]],dn 0,db false, .fs (if first=true then [[d32 1]] else []),dn 0,db (decide (v<0)), .fs (if v=0 then [] else [[d32 v.natAbs]]),dn 0]
def u32 (x:Int):Int:=IntKind.wrap .u32 x
def fold1 (x:Int) (k:Int):Int:=bXor .u32 x (Int.fdiv x ((2:Int) ^ min (Int.toNat k) (IntKind.bits .u32)))
def stir (x:Int):Int:=fold1 (u32 (fold1 (u32 (fold1 (u32 (x*2654435769)) 15*2654435769)) 13*2654435769)) 16
def tagOf (e n j:Int):Int:=stir (u32 ((e*8+n)*4+j))
theorem bx32 (x y:Int):0≤bXor .u32 x y∧bXor .u32 x y≤4294967295:=by
 have:∀ z:Int,0≤IntKind.wrap .u32 z∧IntKind.wrap .u32 z≤4294967295:=fun z=>by
  have h1:0≤z % 4294967296:=Int.emod_nonneg z (by decide)
  have h2:z % 4294967296<4294967296:=Int.emod_lt_of_pos z (by decide)
  show 0≤z % 4294967296∧z % 4294967296≤4294967295
  omega
 exact this _
theorem Ath (e n j:Int):0≤tagOf e n j∧tagOf e n j≤4294967295:=by
 unfold tagOf stir fold1
 exact bx32 _ _
def tagsUp (e n i:Int):LL:=(List.range i.toNat).map fun (j:Nat)=>[d32 (tagOf e n (j:Int))]
theorem Aiv {e n i:Int}:(tagsUp e n i).length=i.toNat:=by simp [tagsUp]
def tgU (e n:Int) (l:LL) (i:Int):Prop:=l=tagsUp e n i
theorem tgU.zero {e n:Int}:tgU e n [] 0:=rfl
theorem tgU.len {e n i:Int} {l:LL} (h:tgU e n l i):l.length=i.toNat:=by unfold tgU at h;rw [h,Aiv]
def tgI (e n:Int) (l:LL) (i:Int):Prop:=LS [s32] l∧l.length=4∧l.Perm (tagsUp e n 4)∧∀ a b:Nat,a<b→(b:Int)<i→nth l a 0≤nth l b 0
def tgJ (e n:Int) (l:LL) (i j:Int):Prop:=LS [s32] l∧l.length=4∧l.Perm (tagsUp e n 4)∧(∀ a b:Nat,a<b→(b:Int)≤i→(a:Int)≠j→(b:Int)≠j→nth l a 0≤nth l b 0)∧∀ b:Nat,j<b→(b:Int)≤i→nth l j.toNat 0≤nth l b 0
theorem tgI.of {e n:Int}:tgI e n (tagsUp e n 4) 1:=by
 refine ⟨?_,rfl, .refl _,fun a b h1 h2=>by omega⟩
 ·refine LS.mk (by simp [tagsUp]) fun cs hc=>?_
  unfold tagsUp at hc
  obtain ⟨j,_,rfl⟩:=List.mem_map.1 hc
  exact Ab.2 ⟨Ai.2 (rng32.2 (Ath e n j)),Af.2 trivial⟩
def Nk (e n:Int) (l:LL):Prop:=l.length=4∧l.Perm (tagsUp e n 4)∧∀ i j:Nat,i<j→j<4→nth l i 0≤nth l j 0
theorem tgU.fin {e n i:Int} {l:LL} (h:tgU e n l i) (hi:i=4):tgI e n l 1:=by unfold tgU at h;rw [h,hi];exact tgI.of
theorem tgJ.len {e n i j:Int} {l:LL} (h:tgJ e n l i j):l.length=4:=h.2.1
theorem Uv {e n i:Int} {c:List D} (h:c∈tagsUp e n i):∃ x,c=[d32 x]:=by
 unfold tagsUp at h
 obtain ⟨j,_,rfl⟩:=List.mem_map.1 h
 exact ⟨_,rfl⟩
theorem Ai2 {e n:Int} {l r:LL} (h:Nk e n l) (h':Nk e n r):l=r:=by
 have pw:∀ {l:LL},Nk e n l→l.Pairwise fun c d=>gI c 0≤gI d 0:=fun {l} h=>by
  rw [List.pairwise_iff_getElem]
  intro i j hi hj hij
  have:=h.2.2 i j hij (by have:=h.1;omega)
  simpa [nth,hi,hj] using this
 refine List.Perm.eq_of_pairwise (fun a b ha hb h1 h2=>?_) (pw h) (pw h') (h.2.1.trans h'.2.1.symm)
 obtain ⟨x,rfl⟩:=Uv (h.2.1.mem_iff.1 ha)
 obtain ⟨y,rfl⟩:=Uv (h'.2.1.mem_iff.1 hb)
 have e:x=y:=Int.le_antisymm h1 h2
 rw [e]
attribute [irreducible] tgU tgI tgJ
end Go.Vc

namespace Go.Vc
theorem Axi {x0 x1 x3 x4 x5 x6 x7 x10 x13 x16 x19 x21 x22 x25 x26 x28 x29:Int} {b2 b8 b11 b14 b17 b20 b24:Bool} {l9 l12 l15 l18 l23 l27 l30 l31 l32:LL} (h:Qt [dn x0,dn x1,db b2,dn x3,dn x4,dn x5,dn x6,dn x7,db b8,D.fs l9,dn x10,db b11,D.fs l12,dn x13,db b14,D.fs l15,dn x16,db b17,D.fs l18,dn x19,db b20,dn x21,dn x22,D.fs l23,db b24,dn x25,dn x26,D.fs l27,dn x28,dn x29,D.fs l30,D.fs l31,D.fs l32]):0≤x0∧x0≤7∧(b2=false→x1=0∧x3=0∧x4=0∧x5=0∧x6=0∧x7=0∧b8=false∧l9=[]∧x10=0∧b11=false∧l12=[]∧x13=0∧b14=false∧l15=[]∧x16=0∧b17=false∧l18=[]∧x19=0∧b20=false∧x21=0∧x22=0∧l23=[]∧b24=false∧x25=0∧x26=0∧l27=[]∧x28=0∧x29=0∧l30=[]∧l31=[]∧l32=[])∧(b2=true→-2147483647≤x1∧x1≤2147483647∧Dg [dn x3,dn x4,dn x5,dn x6,dn x7]∧Bp [db b8,D.fs l9,dn x10,db b11,D.fs l12,dn x13,db b14,D.fs l15,dn x16,db b17,D.fs l18,dn x19,db b20,dn x21,dn x22,D.fs l23]∧(¬x7≤x6→[db b8,D.fs l9,dn x10,db b11,D.fs l12,dn x13,db b14,D.fs l15,dn x16,db b17,D.fs l18,dn x19,db b20,dn x21,dn x22,D.fs l23]=zPart)∧(b24=false→x25=0∧x26=0)∧(b24=true→x7≤x6∧0≤x25∧x25≤1048575∧0≤x26∧x26<8∧x26≠x0)∧Bn l27=0∧Bh l32=0∧x28=x0∧Be l31=0∧(0<l31.length→nth l31 (l31.length-1) 0<x6)∧1≤x29∧x29≤6∧((l30.length:Nat):Int)≤x29):=by
 obtain ⟨h1,h2,h3,h4⟩:=h
 refine ⟨h1,h2,fun hb=>?_,fun hb=>?_⟩
 ·have h5:=h3 hb
  simp only [downC,List.cons.injEq,D.raw.injEq,D.fs.injEq,Value.int.injEq,Value.bool.injEq,true_and,and_true] at h5
  obtain ⟨_,ex1,_,ex3,ex4,ex5,ex6,ex7,eb8,el9,ex10,eb11,el12,ex13,eb14,el15,ex16,eb17,el18,ex19,eb20,ex21,ex22,el23,eb24,ex25,ex26,el27,ex28,ex29,el30,el31,el32⟩:=h5
  exact ⟨ex1,ex3,ex4,ex5,ex6,ex7,eb8,el9,ex10,eb11,el12,ex13,eb14,el15,ex16,eb17,el18,ex19,eb20,ex21,ex22,el23,eb24,ex25,ex26,el27,ex28,ex29,el30,el31,el32⟩
 ·obtain ⟨⟨⟨k1,k2⟩,k3,k4,k5,⟨k6,k7⟩,k8,k9,k10,k11,k12⟩,k13,k14,k15⟩:=h4 hb
  exact ⟨k1,k2,k3,k4,k5,k6,k7,k8,k9,k10,k11,k12,k13,k14,k15⟩
def sded (a:List D) (f:Bool) (l:LL):List D:=a.take 8++massOf (gI a 1) f++[db true,dn (gI a 1),dn (gI a 1), .fs l]++a.drop 24
def Asq (a:List D):Prop:=Qt a∧gB a 2=true∧gI a 7≤gI a 6∧(a.drop 8).take 16=zPart
def o_seed (a:List D) (f:Bool) (d:List D) (x:Int):Prop:=(x=0→Qt a∧∃ l,LSh [s32] l∧Nk (gI a 6) (gI a 0) l∧d=sded a f l)∧(Asq a→x=0)
theorem o_seed.no {a d:List D} {f:Bool} {x:Int} (h:x≠0) (h':¬Asq a):o_seed a f d x:=⟨fun e=>absurd e h,fun e=>absurd e h'⟩
attribute [irreducible] o_seed
end Go.Vc

namespace Go.Vc
open Classical
def turnsC (a:List D):Prop:=gI a 3≤gI a 4+1-gI a 5∧gI a 6<65535
def Amg (a:List D):Prop:=Qt a∧gB a 2=true∧gI a 4≠2147483647
def stayC (a:List D):List D:=a.take 4++[dn (gI a 4+1)]++a.drop 5
def partT (a:List D) (f:Bool) (l:LL):List D:=if gI a 7≤gI a 6+1 then massOf (gI a 1) f++[db true,dn (gI a 1),dn (gI a 1), .fs l] else zPart
def pastT (a:List D):LL:=if gI a 7≤gI a 6 then [dn (gI a 6)::partC a] else []
def turnC (a:List D) (f:Bool) (l:LL):List D:=a.take 4++[dn (gI a 4+1),dn (gI a 4+1),dn (gI a 6+1),dn (gI a 7)]++partT a f l++[db false,dn 0,dn 0]++(a.drop 27).take 4++[.fs (pastT a), .fs []]
def o_tick (a:List D) (f:Bool) (d:List D) (t:Bool) (x:Int):Prop:=(x=0→Amg a)∧(Amg a→x=0∧((¬turnsC a∧t=false∧d=stayC a)∨(turnsC a∧t=true∧∃ l,LSh [s32] l∧(gI a 7≤gI a 6+1→Nk (gI a 6+1) (gI a 0) l)∧d=turnC a f l)))
theorem o_tick.no {a d:List D} {f t:Bool} {x:Int} (h:x≠0) (h':¬Amg a):o_tick a f d t x:=⟨fun e=>absurd e h,fun e=>absurd e h'⟩
theorem Au1 {p:Prop} (h:¬(if p then (0:Int) else 8)≠0):p:=by
 by_cases hp:p
 ·exact hp
 ·rw [if_neg hp] at h;exact absurd (by decide) h
theorem Agx {p:Prop} {x:Int} (hx:x=if p then (0:Int) else 8) (h:¬x≠0):p:=Au1 (hx▸h)
theorem if8 {p:Prop} (h:(if p then (0:Int) else 8)≠0):¬p:=fun hp=>by rw [if_pos hp] at h;exact h rfl
theorem bno1 {b:Bool} (h1:b=false) (h2:b=true):False:=by rw [h1] at h2;cases h2
theorem if8' {p:Prop} {x:Int} (hx:x=if p then (0:Int) else 8) (h:x≠0):¬p:=if8 (hx▸h)
end Go.Vc

namespace Go.Vc
open Classical
theorem At0 {x:Int} (h0:0≤x) (h1:x≤7):DShs nodeS [dn x,dn 0,db false,dn 0,dn 0,dn 0,dn 0,dn 0,db false,D.fs [],dn 0,db false,D.fs [],dn 0,db false,D.fs [],dn 0,db false,D.fs [],dn 0,db false,dn 0,dn 0,D.fs [],db false,dn 0,dn 0,D.fs [],dn 0,dn 0,D.fs [],D.fs [],D.fs []]:=by
 simp only [Ab,Af,Ai,Ah,Ak,rng64,true_and,and_true]
 repeat' apply And.intro
 all_goals first
  | omega
  | exact of_decide_eq_true rfl
  | exact Ej
end Go.Vc

namespace Go.Vc
open Classical
def pmT (l l0:LL):Prop:=l.Perm l0
def tmD (l0:LL) (now:Int) (a b p:LL):Prop:=(a++(b++p)).Perm l0∧(∀ c∈a,gI c 0≤now)∧∀ c∈b,now<gI c 0
theorem pmT.refl (l:LL):pmT l l:=List.Perm.refl l
theorem pmT.len {l l0:LL} (h:pmT l l0):l.length=l0.length:=List.Perm.length_eq h
theorem tmD.zero {l l0:LL} {now:Int} (h:pmT l l0):tmD l0 now [] [] l:=⟨h,fun c hc=>(by cases hc),fun c hc=>(by cases hc)⟩
theorem tmD.len {l0 a b p:LL} {now:Int} (h:tmD l0 now a b p):a.length+(b.length+p.length)=l0.length:=by
 have:=List.Perm.length_eq h.1
 rw [List.length_append,List.length_append] at this
 exact this
theorem tmD.fin {l0 a b p:LL} {now:Int} (h:tmD l0 now a b p) (hp:¬(p.length:Int)>0):tmD l0 now a b []:=by
 have:p=[]:=List.length_eq_zero_iff.1 (by omega)
 subst this
 exact h
theorem Ab3 {q:LL} {k:Nat} {c:List D} (hk:q[k]?=some c) (hl:k+1=q.length):q=q.take k++[c]:=by
 have:=List.take_add_one (l:=q) (i:=k)
 rw [hk,List.take_of_length_le (by omega)] at this
 exact this
theorem tmD.left {l0 a b p q:LL} {now:Int} {k:Nat} {x y:Int} (h:tmD l0 now a b p) (hq:pmT q p) (hk:q[k]?=some [dn x,dn y]) (hl:k+1=q.length) (hx:¬x≤now):tmD l0 now a (b++[[dn x,dn y]]) (q.take k):=by
 refine ⟨?_,h.2.1,fun c hc=>?_⟩
 ·refine List.Perm.trans ?_ h.1
  have e:(q.take k++[[dn x,dn y]]).Perm p:=by rw [←Ab3 hk hl];exact hq
  have e2:([[dn x,dn y]]++q.take k).Perm p:=List.perm_append_comm.trans e
  rw [List.append_assoc]
  exact (e2.append_left b).append_left a
 ·rcases List.mem_append.1 hc with hc | hc
  ·exact h.2.2 c hc
  ·rw [List.mem_singleton] at hc;subst hc;exact Int.lt_of_not_ge hx
attribute [irreducible] pmT tmD
end Go.Vc

namespace Go.Vc
open Classical
def ahd (l:LL) (key low high:Int):Prop:=(∀ i:Nat,(i:Int)<low→nth l i 0<key)∧∀ i:Nat,high≤(i:Int)→i<l.length→key≤nth l i 0
theorem ahd.zero (l:LL) (key:Int):ahd l key 0 (l.length:Int):=⟨fun i h=>by omega,fun i h h2=>by omega⟩
def Aq1 (l:LL) (e:Int) (p:List D):Prop:=Be l=0∧0≤e∧e≤65535∧Bp p∧(∀ i:Nat,i<l.length→nth l i 0<e)∧l.length<1024
def o_frz (l:LL) (e:Int) (p:List D) (r:LL) (x:Int):Prop:=(x=0→Aq1 l e p∧r=l++[dn e::p])∧(Aq1 l e p→x=0)
theorem o_frz.no {l r:LL} {e x:Int} {p:List D} (h:x≠0) (h':¬Aq1 l e p):o_frz l e p r x:=⟨fun e=>absurd e h,fun e=>absurd e h'⟩
theorem o_frz.yes {l:LL} {e:Int} {p:List D} (h:Aq1 l e p):o_frz l e p (l++[dn e::p]) 0:=⟨fun _=>⟨h,rfl⟩,fun _=>rfl⟩
def o_pl (l:LL) (e i x:Int):Prop:=(x=0→Be l=0∧0≤e∧e≤65535∧0≤i∧i≤(l.length:Int)∧ahd l e i i)∧(x≠0→¬(Be l=0∧0≤e∧e≤65535))
theorem o_pl.no {l:LL} {e i x:Int} (h:x≠0) (h':¬(Be l=0∧0≤e∧e≤65535)):o_pl l e i x:=⟨fun e=>absurd e h,fun _=>h'⟩
theorem o_pl.yes {l:LL} {e i j:Int} (h1:Be l=0) (h2:0≤e) (h3:e≤65535) (h4:0≤i) (h5:j≤(l.length:Int)) (h6:ahd l e i j) (h7:¬i<j) (h8:i≤j):o_pl l e i 0:=⟨fun _=>⟨h1,h2,h3,h4,by omega,(show i=j by omega)▸(show j=j from rfl)▸(by have e:i=j:=(by omega);subst e;exact h6)⟩,fun h=>absurd rfl h⟩
theorem o_pl.get {l:LL} {e i x:Int} (h:o_pl l e i x) (h0:¬x≠0):Be l=0∧0≤e∧e≤65535∧0≤i∧i≤(l.length:Int)∧ahd l e i i:=h.1 (Decidable.not_not.1 h0)
theorem ahd.at {l:LL} {e i:Int} (h:ahd l e i i) (h0:0≤i) (h1:i<(l.length:Int)):e≤nth l i.toNat 0:=h.2 i.toNat (by omega) (by omega)
theorem ahd.all {l:LL} {e i:Int} (h:ahd l e i i) (h1:¬i<(l.length:Int)):∀ j:Nat,j<l.length→nth l j 0<e:=fun j hj=>h.1 j (by omega)
attribute [irreducible] ahd o_frz o_pl
end Go.Vc
