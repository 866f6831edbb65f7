import Derived.Laws.StructEq
import Derived.Laws.BytesArg
import Derived.Laws.Cover3
import Derived.Test.YtneooimijbfmgaaGreatSsAE
set_option linter.unusedVariables false
set_option linter.unusedSimpArgs false
set_option linter.unusedSectionVars false
noncomputable section
namespace Go.Vc
inductive Ans where
 | no
 | int (k:IntKind) (f:Rho→Int)
 | intP (k:IntKind) (p:Rho→Prop) (f:Rho→Int)
 | str (p:Rho→Prop) (f:Rho→ByteArray)
 | test (p:Rho→Prop)
 | may (c:Bool) (p:Rho→Prop)
 | val (x:W)
 | elem (i:Nat) (own:Bool) (ix:Rho→Int) (ks:List Kd)
 | sub (i:Nat) (own:Bool) (c:Nat) (z:Nat) (lo:Option (Rho→Int)) (hi mx:Option (Rho→Int))
 | eptr (i j z:Nat) (ix:Rho→Int)
 | eload (j:Nat) (own:Bool) (x:Nat) (ks:List Kd) (o:Nat) (n:Option Nat)
def intOf (Y:T YRow):W→Option (IntKind×(Rho→Int))
 | .v (.c (.raw (.int k n)))=>some (k,fun _=>n)
 | .v (.c (.si k i))=>match Y.get i with
  | some .int=>some (k,fun ρ=>ρ.n i)
  | _=>none
 | _=>none
def boolOf (Y:T YRow):W→Option (Rho→Bool)
 | .v (.c (.raw (.bool b)))=>some fun _=>b
 | .v (.c (.sb i))=>match Y.get i with
  | some .bool=>some fun ρ=>ρ.t i
  | some (.kb b)=>some fun _=>b
  | _=>none
 | _=>none
def bAnd (k:IntKind) (x y:Int):Int:=k.wrap ((BitVec.ofInt k.bits x &&& BitVec.ofInt k.bits y).toNat:Int)
def bOr (k:IntKind) (x y:Int):Int:=k.wrap ((BitVec.ofInt k.bits x ||| BitVec.ofInt k.bits y).toNat:Int)
def bXor (k:IntKind) (x y:Int):Int:=k.wrap ((BitVec.ofInt k.bits x ^^^ BitVec.ofInt k.bits y).toNat:Int)
def bAndNot (k:IntKind) (x y:Int):Int:=k.wrap ((BitVec.ofInt k.bits x &&& ~~~ (BitVec.ofInt k.bits y)).toNat:Int)
def intRes (op:BinOp) (k:IntKind) (f g:Rho→Int):Ans:=match op with
 | .add=>.int k fun ρ=>k.wrap (f ρ+g ρ)
 | .sub=>.int k fun ρ=>k.wrap (f ρ-g ρ)
 | .mul=>.int k fun ρ=>k.wrap (f ρ*g ρ)
 | .eql=>.test fun ρ=>f ρ=g ρ
 | .neq=>.test fun ρ=>f ρ≠g ρ
 | .lss=>.test fun ρ=>f ρ<g ρ
 | .leq=>.test fun ρ=>f ρ≤g ρ
 | .gtr=>.test fun ρ=>f ρ>g ρ
 | .geq=>.test fun ρ=>f ρ≥g ρ
 | .quo=>.intP k (fun ρ=>g ρ≠0) fun ρ=>k.wrap ((f ρ).tdiv (g ρ))
 | .rem=>.intP k (fun ρ=>g ρ≠0) fun ρ=>(f ρ).tmod (g ρ)
 | .and=>.int k fun ρ=>bAnd k (f ρ) (g ρ)
 | .or=>.int k fun ρ=>bOr k (f ρ) (g ρ)
 | .xor=>.int k fun ρ=>bXor k (f ρ) (g ρ)
 | .andNot=>.int k fun ρ=>bAndNot k (f ρ) (g ρ)
 | _=>.no
def shRes (op:BinOp) (k:IntKind) (f g:Rho→Int):Ans:=match op with
 | .shl=>.intP k (fun ρ=>0≤g ρ) fun ρ=>k.wrap (f ρ*2 ^ (min (g ρ).toNat k.bits))
 | .shr=>.intP k (fun ρ=>0≤g ρ) fun ρ=>(f ρ).fdiv (2 ^ (min (g ρ).toNat k.bits))
 | _=>.no
def isSh (op:BinOp):Bool:=match op with
 | .shl | .shr=>true
 | _=>false
def isBool (P:Program) (t:TypeId):Bool:=match P.underlying t with
 | some .bool=>true
 | _=>false
def boolRes (P:Program) (op:BinOp) (t:TypeId) (f g:Rho→Bool):Ans:=bif isBool P t then match op with
 | .eql=>.test fun ρ=>f ρ=g ρ
 | .neq=>.test fun ρ=>f ρ≠g ρ
 | _=>.no
 else .no
def strOf (Y:T YRow):W→Option (Rho→ByteArray)
 | .v (.c (.raw (.string x)))=>some fun _=>x
 | .v (.c (.ss i))=>match Y.get i with
  | some .str=>some fun ρ=>ρ.s i
  | _=>none
 | _=>none
def eqLeaf (P:Program) (Y:T YRow) (t:TypeId) (x y:C):Option (Rho→Prop):=match P.underlying t with
 | some (.int _)=>match intOf Y (one x),intOf Y (one y) with
  | some (k,f),some (k',g)=>bif k == k' then some fun ρ=>f ρ=g ρ else none
  | _,_=>none
 | some .bool=>match boolOf Y (one x),boolOf Y (one y) with
  | some f,some g=>some fun ρ=>f ρ=g ρ
  | _,_=>none
 | some .string=>match strOf Y (one x),strOf Y (one y) with
  | some f,some g=>some fun ρ=>f ρ=g ρ
  | _,_=>none
 | _=>none
def eqFl (P:Program) (r:TypeId→V→V→Option (List (Rho→Prop))) (xs ys:List C):List Field→Option (List (Rho→Prop))
 | []=>some []
 | f :: fs => bif f.name == "_" then none else match partW P f.type xs f.offset, partW P f.type ys f.offset with
  | some (.v x),some (.v y)=>match r f.type x y,eqFl P r xs ys fs with
   | some l,some l'=>some (l++l')
   | _,_=>none
  | _,_=>none
def eqVs (P:Program) (Y:T YRow) (n:Nat):TypeId→V→V→Option (List (Rho→Prop)):=Nat.rec (fun _ _ _=>none) (fun _ ih t x y=>match x,y with
 | .c x, .c y=>match eqLeaf P Y t x y with
  | some p=>some [p]
  | none=>none
 | .a xs, .a ys=>match P.underlying t with
  | some (.struct fs)=>bif P.stoodInHeld t then none else eqFl P ih xs ys fs.toList
  | _=>none
 | _,_=>none) n
def conjP (ρ:Rho):List (Rho→Prop)→Prop
 | []=>True
 | [p]=>p ρ
 | p::l=>p ρ∧conjP ρ l
def aggRes (P:Program) (Y:T YRow) (op:BinOp) (t:TypeId) (a b:W):Ans:=match a,b with
 | .v (.a xs), .v (.a ys)=>bif P.eqGuardType P.depth t then .no else match eqVs P Y 20 t (.a xs) (.a ys),op with
  | some l, .eql=>.test fun ρ=>conjP ρ l
  | some l, .neq=>.test fun ρ=>¬conjP ρ l
  | _,_=>.no
 | _,_=>.no
def strRes (op:BinOp) (f g:Rho→ByteArray):Ans:=match op with
 | .eql=>.test fun ρ=>f ρ=g ρ
 | .neq=>.test fun ρ=>¬f ρ=g ρ
 | .add=>.str (fun ρ=>(f ρ).size+(g ρ).size≤9223372036854775807) fun ρ=>f ρ++g ρ
 | _=>.no
def binA (P:Program) (Y:T YRow) (op:BinOp) (t:TypeId) (a b:W):Ans:=match intOf Y a,intOf Y b with
 | some (k,f),some (k',g)=>bif isSh op then shRes op k f g else bif k == k' then intRes op k f g else .no
 | _,_=>match boolOf Y a,boolOf Y b with
  | some f,some g=>boolRes P op t f g
  | _,_=>match strOf Y a,strOf Y b with
   | some f,some g=>strRes op f g
   | _,_=>aggRes P Y op t a b
def binN (P:Program) (Y:T YRow) (op:BinOp) (t:TypeId) (a b:W):Ans:=match a,b,op with
 | .v (.c (.fz i)), .v (.c (.raw (.slice none 0 0))), .eql=>match Y.get i,P.underlying t with
  | some (.fz _ _ j),some (.slice _)=>Ans.may true fun ρ=>ρ.d j=[]
  | _,_=>.no
 | .v (.c (.fz i)), .v (.c (.raw (.slice none 0 0))), .neq=>match Y.get i,P.underlying t with
  | some (.fz _ _ j),some (.slice _)=>Ans.may false fun ρ=>ρ.d j=[]
  | _,_=>.no
 | _,_,_=>binA P Y op t a b
def notA (Y:T YRow) (a:W):Ans:=match boolOf Y a with
 | some f=>.test fun ρ=>f ρ=false
 | none=>.no
def negA (Y:T YRow) (a:W):Ans:=match intOf Y a with
 | some (k,f)=>.int k fun ρ=>k.wrap (0-f ρ)
 | none=>.no
def cplA (Y:T YRow) (a:W):Ans:=match intOf Y a with
 | some (k,f)=>.int k fun ρ=>bXor k (bif k.signed then -1 else k.max) (f ρ)
 | none=>.no
def byteI:List D→Int
 | [.raw (.int _ n)]=>n
 | _=>0
def strL (l:List (List D)):ByteArray:=strOfNums (l.map byteI)
def convA (P:Program) (Y:T YRow) (s d:TypeId) (a:W):Ans:=match intOf Y a,P.underlying s,P.underlying d with
 | some (_,f),some _,some (.int k)=>.int k fun ρ=>k.wrap (f ρ)
 | none,some (.slice e),some .string=>match P.underlying e,a with
  | some (.int .u8), .v (.c (.fz i))=>match Y.get i with
   | some (.fz _ _ j)=>.str (fun ρ=>∀ cs∈ρ.d j,DKs [.int .u8] cs) fun ρ=>strL (ρ.d j)
   | _=>.no
  | _,_=>.no
 | _,_,_=>.no
def fpOf (Y:T YRow) (i:Nat):Option (List C):=match Y.get i with
 | some (.fp _ cs)=>some cs
 | _=>none
def loadA (P:Program) (Y:T YRow) (t:TypeId) (a:W):Ans:=match a with
 | .v (.c (.fp i o))=>match fpOf Y i,aggB P t with
  | some cs,some true=>match sizeOf? P t with
   | some n=>bif Nat.ble (o+n) cs.length then .val (.v (.a ((cs.drop o).take n))) else .no
   | none=>.no
  | some cs,some false=>match cs[o]? with
   | some c=>.val (one c)
   | none=>.no
  | _,_=>.no
 | _=>.no
def fieldAddrA (P:Program) (t:TypeId) (a:W) (f:Nat):Ans:=match a,P.underlying t with
 | .v (.c (.fp i o)),some (.struct fields)=>match fields[f]? with
  | some f=>match sizeOf? P f.type with
   | some 0=>.no
   | some _=>.val (one (.fp i (o+f.offset)))
   | none=>.no
  | none=>.no
 | _,_=>.no
def nilCheckA (a:W):Ans:=match a with
 | .v (.c (.fp i o))=>.val (one (.fp i o))
 | _=>.no
def fzOf (Y:T YRow) (i:Nat):Option (Bool×Nat):=match Y.get i with
 | some (.fz own _ j)=>some (own,j)
 | _=>none
def indexA (P:Program) (Y:T YRow) (t:TypeId) (a x:W):Ans:=match a with
 | .v (.c (.fz i))=>match fzOf Y i,intOf Y x,sliceTy P t with
  | some (own,j),some (_,f),some (e,z)=>match kindsOf P e with
   | some ks=>bif Nat.beq ks.length z then .elem j own f ks else .no
   | none=>.no
  | _,_,_=>.no
 | _=>.no
def odOf (Y:T YRow) (i:Nat):Option (Nat×Nat×Bool×Nat):=match Y.get i with
 | some (.od e z own j)=>some (e,z,own,j)
 | _=>none
def indexO (P:Program) (Y:T YRow) (t:TypeId) (a x:W):Ans:=match a with
 | .v (.c (.fz i))=>match odOf Y i,intOf Y x,sliceTy P t with
  | some (_,z',_,j),some (_,f),some (_,z)=>bif Nat.beq z z' then .eptr i j z f else .no
  | _,_,_=>.no
 | _=>.no
structure EpI where
 i:Nat
 e:Nat
 z:Nat
 own:Bool
 j:Nat
 x:Nat
 ks:List Kd
def epOf (P:Program) (Y:T YRow) (q:Nat):Option EpI:=match Y.get q with
 | some (.ep i x z)=>match Y.get i,Y.get x with
  | some (.od e z' own j),some .int=>match kindsOf P e with
   | some ks=>bif Nat.beq z z' && Nat.beq ks.length z then some ⟨i,e,z,own,j,x,ks⟩ else none
   | none=>none
  | _,_=>none
 | _=>none
def loadO (P:Program) (Y:T YRow) (t:TypeId) (a:W):Ans:=match a with
 | .v (.c (.fp q o))=>match epOf P Y q with
  | some p=>match aggB P t,sizeOf? P t with
   | some true,some n=>bif Nat.ble (o+n) p.z then .eload p.j p.own p.x p.ks o (some n) else .no
   | some false,_=>bif Nat.blt o p.z then .eload p.j p.own p.x p.ks o none else .no
   | _,_=>.no
  | none=>.no
 | _=>.no
def orA (a b:Ans):Ans:=match a with
 | .no=>b
 | a=>a
def intO (Y:T YRow):Option W→Option (Option (Rho→Int))
 | none=>some none
 | some x=>match intOf Y x with
  | some (_,f)=>some (some f)
  | none=>none
def isZ:W→Bool
 | .v (.c (.raw (.int _ 0)))=>true
 | _=>false
def sameI:W→W→Bool
 | .v (.c (.raw (.int _ a))), .v (.c (.raw (.int _ b)))=>a == b
 | .v (.c (.si _ i)), .v (.c (.si _ j))=>Nat.beq i j
 | _,_=>false
def clipW (lo hi mx:Option W):Nat:=match hi,mx with
 | some h,some m=>bif sameI h m then (match lo with
  | some l=>bif isZ l && isZ h then 2 else 1
  | none=>bif isZ h then 2 else 1) else 0
 | _,_=>0
def sliceA (P:Program) (Y:T YRow) (t:TypeId) (a:W) (lo hi mx:Option W):Ans:=match a with
 | .v (.c (.fz i))=>match fzOf Y i,sliceTy P t with
  | some (own,j),some (_,z)=>match intO Y lo,intO Y hi,intO Y mx with
   | some lo',some hi',some mx'=>bif hi'.isSome || mx'.isNone then .sub j own (clipW lo hi mx) z lo' hi' mx' else .no
   | _,_,_=>.no
  | _,_=>.no
 | _=>.no
def datOf (Y:T YRow) (i:Nat):Option Nat:=match Y.get i with
 | some (.fz _ _ j)=>some j
 | some (.od _ _ _ j)=>some j
 | _=>none
def lenA (P:Program) (Y:T YRow) (t:TypeId) (a:W):Ans:=match a,P.underlying t with
 | .v (.c (.fz i)),some (.slice _)=>match datOf Y i with
  | some j=>.int .i64 fun ρ=>((ρ.d j).length:Int)
  | none=>.no
 | _,_=>.no
def minA (Y:T YRow) (mx:Bool) (a b:W):Ans:=match intOf Y a,intOf Y b with
 | some (k,f),some (_,g)=>.int k fun ρ=>bif mx then max (f ρ) (g ρ) else min (f ρ) (g ρ)
 | _,_=>.no
def callA (P:Program) (Y:T YRow) (tm:Tm) (c:Call):Ans:=match c.callee,c.argTypes.toList,c.args.toList with
 | .builtin .len,[t],[x]=>lenA P Y t (ev tm x)
 | .builtin .min,_,[x,y]=>minA Y false (ev tm x) (ev tm y)
 | .builtin .max,_,[x,y]=>minA Y true (ev tm x) (ev tm y)
 | _,_,_=>.no
def symA (P:Program) (Y:T YRow) (tm:Tm) (o:Op):Ans:=match o with
 | .binOp op t x y _=>binN P Y op t (ev tm x) (ev tm y)
 | .unOp .not _ x=>notA Y (ev tm x)
 | .unOp .neg _ x=>negA Y (ev tm x)
 | .unOp .xor _ x=>cplA Y (ev tm x)
 | .convert s d x=>convA P Y s d (ev tm x)
 | .load t x=>orA (loadA P Y t (ev tm x)) (loadO P Y t (ev tm x))
 | .fieldAddr t x f=>fieldAddrA P t (ev tm x) f
 | .nilCheck x=>nilCheckA (ev tm x)
 | .indexAddr t x i=>orA (indexA P Y t (ev tm x) (ev tm i)) (indexO P Y t (ev tm x) (ev tm i))
 | .slice t x lo hi mx=>sliceA P Y t (ev tm x) (lo.map (ev tm)) (hi.map (ev tm)) (mx.map (ev tm))
 | .call c=>callA P Y tm c
 | _=>.no
def Rect (z:Nat) (l:List (List D)):Prop:=∀ cs∈l,cs.length=z
def loI (ρ:Rho):Option (Rho→Int)→Int
 | none=>0
 | some f=>f ρ
def hiI (ρ:Rho) (d:Int):Option (Rho→Int)→Int
 | none=>d
 | some f=>f ρ
def Part (ρ:Rho) (i:Nat) (z:Nat) (lo hi mx:Option (Rho→Int)):Prop :=
 0≤loI ρ lo∧loI ρ lo≤hiI ρ (ρ.d i).length hi∧hiI ρ (ρ.d i).length hi≤hiI ρ (ρ.d i).length mx∧hiI ρ (ρ.d i).length mx≤(ρ.d i).length∧Rect z (ρ.d i)
def partD (ρ:Rho) (i:Nat) (lo hi:Option (Rho→Int)):List (List D):=((ρ.d i).drop (loI ρ lo).toNat).take ((hiI ρ (ρ.d i).length hi).toNat-(loI ρ lo).toNat)
def cutV (vs:List Value) (o:Nat):Option Nat→Value
 | some k=>.agg ((vs.drop o).take k).toArray
 | none=>vs.getD o undef
section
variable [Holes]
def AnsOk (F:Nat→Prop) (B0:Nat) (σ:Env) (n:Nat) (ρ:Rho) (w:World) (r:Result Next):Ans→Prop
 | .no=>True
 | .int k f=>r = .ok (.value (.int k (f ρ))) w
 | .intP k p f=>p ρ→r = .ok (.value (.int k (f ρ))) w
 | .str p f=>p ρ→r = .ok (.value (.string (f ρ))) w
 | .test p=>∃ q:Bool,(q=true↔p ρ)∧r = .ok (.value (.bool q)) w
 | .may c p=>∃ q:Bool,(q=c→p ρ)∧r = .ok (.value (.bool q)) w
 | .val x=>r = .ok (.value (realW σ x)) w∧x.lt n
 | .elem i own ix ks=>∀ ds,0≤ix ρ→(ρ.d i)[(ix ρ).toNat]?=some ds→DKs ks ds→∃ (g o:Nat) (vs:List Value),r = .ok (.value (.pointer (some ⟨g,o,none⟩))) w∧Fo F B0 own g∧vs.length=ds.length ∧
   (∀ (j:Nat) (v:Value),vs[j]?=some v→w.cell? ⟨g,o+j,none⟩=some v)∧∀ (j:Nat) (d:D) (v:Value),ds[j]?=some d→vs[j]?=some v→RD (Fo F B0 own) w d v
 | .sub i own c z lo hi mx=>Part ρ i z lo hi mx→∃ v,r = .ok (.value v) w∧RD (Fo F B0 own) w (.fs (partD ρ i lo hi)) v∧(c≠0→∃ a k,v = .slice a k k)∧(c=2→partD ρ i lo hi=[])
 | .eptr i j z ix=>0≤ix ρ→ix ρ<((ρ.d j).length:Int)→r = .ok (.value (.pointer (some ⟨σ.b i,(ix ρ).toNat*z,none⟩))) w∧Lt i n
 | .eload j own x ks o m=>∀ ds,0≤ρ.n x→(ρ.d j)[(ρ.n x).toNat]?=some ds→DKs ks ds→∃ vs:List Value,vs.length=ds.length∧(∀ (p:Nat) (d:D) (v:Value),ds[p]?=some d→vs[p]?=some v→RD (Fo F B0 own) w d v) ∧
   o+m.getD 1≤ks.length∧r = .ok (.value (cutV vs o m)) w
section
variable {P:Program} {K:Nat→Option (List Value)} {b:Bs} {F F0:Nat→Prop} {B0:Nat} {σ:Env} {m:Mem} {Y:T YRow} {w:World} {ρ:Rho}
theorem Bi {x:W} {k:IntKind} {f:Rho→Int} (h:intOf Y x=some (k,f)) (hA:SymAg ρ σ Y):realW σ x = .int k (f ρ):=by
 unfold intOf at h
 split at h
 ·cases h;rfl
 ·split at h
  ·rename_i i _ hi
   cases h
   show Value.int k (σ.r.n i)=_
   rw [show σ.r.n i=ρ.n i from hA i _ hi]
  ·cases h
 ·cases h
theorem Gv {x:W} {f:Rho→Bool} (h:boolOf Y x=some f) (hA:SymAg ρ σ Y) (hF:YRel F F0 B0 σ m Y w):realW σ x = .bool (f ρ):=by
 unfold boolOf at h
 split at h
 ·cases h;rfl
 ·split at h
  ·rename_i i _ hi
   cases h
   show Value.bool (σ.r.t i)=_
   rw [show σ.r.t i=ρ.t i from hA i _ hi]
  ·rename_i i _ b hi
   cases h
   show Value.bool (σ.r.t i)=_
   rw [show σ.r.t i=b from (hF.row i _ hi).2]
  ·cases h
 ·cases h
theorem Mb {ks:List Kd} {ds:List D} (h:DKs ks ds):ds.length=ks.length:=by
 induction h with
 | nil=>rfl
 | cons _ _ ih=>simp [ih]
theorem An {s:Sem Value} {v:Value} (h:s.run P w = .ok v w):(do pure (.value (←s)):Sem Next).run P w = .ok (.value v) w:=by
 rw [Sem.run_bind,h];rfl
theorem Ox {x:W} {f:Rho→ByteArray} (h:strOf Y x=some f) (hA:SymAg ρ σ Y):realW σ x = .string (f ρ):=by
 unfold strOf at h
 split at h
 ·cases h;rfl
 ·split at h
  ·rename_i i _ hi
   cases h
   show Value.string (σ.r.s i)=_
   rw [show σ.r.s i=ρ.s i from hA i _ hi]
  ·cases h
 ·cases h
theorem Anx {t:Nat} {x y:C} {p:Rho→Prop} (h:eqLeaf P Y t x y=some p) (hA:SymAg ρ σ Y) (hF:YRel F F0 B0 σ m Y w) (d:Nat):∃ r:Bool,(Op.equalIn (d+1) t (realC σ x) (realC σ y)).run P w = .ok r w∧(r=true↔p ρ):=by
 unfold eqLeaf at h
 split at h
 ·rename_i k0 hu
  split at h
  ·rename_i k f k' g hx hy
   obtain ⟨h1,h2⟩:=Aj h
   subst h2
   rw [show realC σ x=_ from Bi hx hA,show realC σ y=_ from Bi hy hA]
   have:k=k':=by simpa using h1
   subst this
   exact ⟨_,run_equalIn_int w d t k k0 _ _ hu,by simp⟩
  ·cases h
 ·rename_i hu
  split at h
  ·rename_i f g hx hy
   cases h
   rw [show realC σ x=_ from Gv hx hA hF,show realC σ y=_ from Gv hy hA hF]
   exact ⟨_,run_equalIn_bool' w d t _ _ hu,by simp⟩
  ·cases h
 ·rename_i hu
  split at h
  ·rename_i f g hx hy
   cases h
   rw [show realC σ x=_ from Ox hx hA,show realC σ y=_ from Ox hy hA]
   refine ⟨_,run_equalIn_string w d t _ _ hu,?_⟩
   show _↔f ρ=g ρ
   generalize f ρ=a
   generalize g ρ=b
   rw [ByteArray.toList_eq,ByteArray.toList_eq,beq_iff_eq]
   obtain ⟨⟨a⟩⟩:=a
   obtain ⟨⟨b⟩⟩:=b
   exact ⟨fun h=>by rw [show a=b from h],fun h=>by cases h;rfl⟩
  ·cases h
 ·cases h
theorem Wm (p:Rho→Prop) (l:List (Rho→Prop)):conjP ρ (p::l)↔p ρ∧conjP ρ l:=by
 cases l with
 | nil=>simp [conjP]
 | cons q l=>rfl
theorem Acm (l l':List (Rho→Prop)):conjP ρ (l++l')↔conjP ρ l∧conjP ρ l':=by
 induction l with
 | nil=>simp [conjP]
 | cons p l ih=>rw [List.cons_append,Wm,Wm,ih,and_assoc]
theorem Aek (hA:SymAg ρ σ Y) (hF:YRel F F0 B0 σ m Y w):∀ (n D:Nat) (t:Nat) (x y:V) (l:List (Rho→Prop)),n≤D→eqVs P Y n t x y=some l→x.lt m.nx→y.lt m.nx →
  ∃ r:Bool,(Op.equalIn D t (realV σ x) (realV σ y)).run P w = .ok r w∧(r=true↔conjP ρ l)
 | 0,D,t,x,y,l,hD,h,hx,hy=>by cases h
 | n+1,D+1,t, .c x, .c y,l,hD,h,hx,hy=>by
  have h':(match eqLeaf P Y t x y with | some p=>some [p] | none=>none)=some l:=h
  split at h'
  ·rename_i p hp
   cases h'
   exact Anx hp hA hF D
  ·cases h'
 | n+1,D+1,t, .a xs, .a ys,l,hD,h,hx,hy=>by
  have h':(match P.underlying t with | some (.struct fs)=>bif P.stoodInHeld t then none else eqFl P (eqVs P Y n) xs ys fs.toList | _=>none)=some l:=h
  split at h'
  ·rename_i fs hu
   cases hst:P.stoodInHeld t with
   | true=>rw [hst] at h';cases h'
   | false =>
    rw [hst] at h'
    simp only [cond_false] at h'
    have hfs:P.fieldsOf t=fs:=by unfold Program.fieldsOf;rw [hu]
    show ∃ r:Bool,(Op.equalIn (D+1) t (.agg (xs.map (realC σ)).toArray) (.agg (ys.map (realC σ)).toArray)).run P w = .ok r w∧_
    rw [run_equalIn_struct w D t _ _ (by rw [hfs];exact hu) hst,hfs]
    have key:∀ (fl:List Field) (l:List (Rho→Prop)),eqFl P (eqVs P Y n) xs ys fl=some l→∃ r:Bool,(Op.eqFields D (xs.map (realC σ)).toArray (ys.map (realC σ)).toArray fl).run P w = .ok r w∧(r=true↔conjP ρ l):=fun fl=>by
     induction fl with
     | nil=>intro l h;cases h;exact ⟨true,rfl,by simp [conjP]⟩
     | cons f fl ih =>
      intro l h
      unfold eqFl at h
      cases hn : (f.name == "_") with
      | true=>rw [hn] at h;cases h
      | false =>
       rw [hn] at h
       simp only [cond_false] at h
       have hn : f.name ≠ "_" := by simpa using hn
       split at h
       ·rename_i u v hu1 hv1
        split at h
        ·rename_i l1 l2 hl1 hl2
         cases h
         obtain ⟨p1,p2⟩:=Qr (w:=w) (σ:=σ) hu1 hx
         obtain ⟨q1,q2⟩:=Qr (w:=w) (σ:=σ) hv1 hy
         obtain ⟨r1,r2,r3⟩:=Aek hA hF n D f.type u v l1 (by omega) hl1 p2 q2
         obtain ⟨s1,s2,s3⟩:=ih l2 hl2
         have p1:(part f.type (xs.map (realC σ)).toArray f.offset).run P w = .ok (realV σ u) w:=p1
         have q1:(part f.type (ys.map (realC σ)).toArray f.offset).run P w = .ok (realV σ v) w:=q1
         simp only [Op.eqFields,hn,ne_eq,not_false_eq_true,if_true,Sem.run_bind,p1,q1,r2,Result.andThen_ok]
         cases r1 with
         | false=>exact ⟨false,by simp,by rw [Acm,←r3];simp⟩
         | true=>exact ⟨s1,by simpa using s2,by rw [Acm,←r3,s3];simp⟩
        ·cases h
       ·cases h
    exact key _ _ h'
  ·cases h'
 | n+1,D+1,t, .c x, .a ys,l,hD,h,hx,hy=>by cases h
 | n+1,D+1,t, .a xs, .c y,l,hD,h,hx,hy=>by cases h
 | n+1,0,t,x,y,l,hD,h,hx,hy=>by omega
theorem Ape {op:BinOp} {t:Nat} {ox oy:Operand} {x y:W} (hA:SymAg ρ σ Y) (hF:YRel F F0 B0 σ m Y w) (hx:x.lt m.nx) (hy:y.lt m.nx) :
  AnsOk F B0 σ m.nx ρ w ((do pure (.value (←(do eqGuard op t ox oy (realW σ x) (realW σ y);binOp op t (realW σ x) (realW σ y):Sem Value))):Sem Next).run P w) (aggRes P Y op t x y):=by
 unfold aggRes
 split
 ·rename_i xs ys
  cases hg:P.eqGuardType P.depth t with
  | true=>trivial
  | false =>
   rw [cond_false]
   have hgr:(eqGuard op t ox oy (realW σ (.v (.a xs))) (realW σ (.v (.a ys)))).run P w = .ok () w:=run_eqGuard_agg w op t ox oy _ _ hg
   split
   ·rename_i _ _ l he
    obtain ⟨r,h1,h2⟩:=Aek hA hF 20 10000 t (.a xs) (.a ys) l (by omega) he hx hy
    refine ⟨r,h2,An ?_⟩
    rw [Sem.run_bind,hgr,Result.andThen_ok]
    show (binOp .eql t (.agg _) (.agg _)).run P w=_
    rw [run_eql_struct]
    rw [show (Op.equalIn 10000 t (.agg (xs.map (realC σ)).toArray) (.agg (ys.map (realC σ)).toArray)).run P w=_ from h1]
    rfl
   ·rename_i _ _ l he
    obtain ⟨r,h1,h2⟩:=Aek hA hF 20 10000 t (.a xs) (.a ys) l (by omega) he hx hy
    refine ⟨!r,by show _↔¬conjP ρ l;rw [←h2];simp,An ?_⟩
    rw [Sem.run_bind,hgr,Result.andThen_ok]
    show (binOp .neq t (.agg _) (.agg _)).run P w=_
    rw [run_neq_struct]
    rw [show (Op.equalIn 10000 t (.agg (xs.map (realC σ)).toArray) (.agg (ys.map (realC σ)).toArray)).run P w=_ from h1]
    rfl
   ·trivial
 ·trivial
theorem Av4 {op:BinOp} {t:Nat} {ox oy:Operand} {x y:W} (hA:SymAg ρ σ Y) (hF:YRel F F0 B0 σ m Y w) (hx0:x.lt m.nx) (hy0:y.lt m.nx) :
    AnsOk F B0 σ m.nx ρ w ((do pure (.value (←(do eqGuard op t ox oy (realW σ x) (realW σ y);binOp op t (realW σ x) (realW σ y):Sem Value))):Sem Next).run P w) (binA P Y op t x y):=by
  unfold binA
  split
  · rename_i k f k' g hx hy
    cases hsh:isSh op with
    | true =>
      rw [cond_true,Bi hx hA,Bi hy hA]
      cases op <;> first | (cases hsh;done) | skip
      · intro hp
        have hp:0≤g ρ:=hp
        refine An ?_
        simp [eqGuard,binOp,Op.shift,show ¬g ρ<0 by omega]
      · intro hp
        have hp:0≤g ρ:=hp
        refine An ?_
        simp [eqGuard,binOp,Op.shift,show ¬g ρ<0 by omega]
    | false =>
    rw [cond_false]
    cases hk:(k == k') with
    | false=>trivial
    | true =>
      have hk:k=k':=by simpa using hk
      subst hk
      rw [cond_true,Bi hx hA,Bi hy hA]
      cases op <;> simp only [intRes] <;> first
        | trivial
        | (intro hp;refine An ?_;simp [eqGuard,binOp,Op.intDiv,show ¬g ρ=0 from hp];done)
        | (refine An ?_;simp [eqGuard,binOp,Op.intBits,bAnd,bOr,bXor,bAndNot];done)
        | (refine An ?_;simp [eqGuard,binOp,Op.intArith];done)
        | (refine ⟨_,?_,An (v := .bool _) (by simp [eqGuard,binOp,Op.intCmp];rfl)⟩;simp;done)
  · split
    · rename_i f g hx hy
      unfold boolRes
      cases hb:isBool P t with
      | false=>trivial
      | true =>
        have hu:P.underlying t=some .bool:=by
          unfold isBool at hb
          split at hb
          · assumption
          · cases hb
        rw [cond_true,Gv hx hA hF,Gv hy hA hF]
        have he:(Op.equal t (.bool (f ρ)) (.bool (g ρ))).run P w = .ok (f ρ == g ρ) w:=by
          have key:∀ d,(Op.equalIn (d+1) t (.bool (f ρ)) (.bool (g ρ))).run P w = .ok (f ρ == g ρ) w:=fun d=>by
            simp only [Op.equalIn,Sem.run_bind,run_underlying hu,Result.andThen_ok,Sem.run_pure]
          exact key 9999
        cases op <;> first
          | trivial
          | (refine ⟨f ρ == g ρ,?_,An (v := .bool _) (by simp [eqGuard,binOp,he])⟩;simp;done)
          | (refine ⟨!(f ρ == g ρ),?_,An (v := .bool _) (by simp [eqGuard,binOp,he])⟩;simp;done)
    · split
      · rename_i f g hx hy
        rw [Ox hx hA,Ox hy hA]
        have hi:((f ρ).toList == (g ρ).toList)=true↔f ρ=g ρ:=by
          generalize f ρ=a
          generalize g ρ=b
          rw [ByteArray.toList_eq,ByteArray.toList_eq,beq_iff_eq]
          obtain ⟨⟨a⟩⟩:=a
          obtain ⟨⟨b⟩⟩:=b
          exact ⟨fun h=>by rw [show a=b from h],fun h=>by cases h;rfl⟩
        cases op <;> simp only [strRes] <;> first
          | trivial
          | (refine ⟨_,hi,An (v := .bool _) (by simp [eqGuard,binOp,Op.stringOp])⟩;done)
          | (refine ⟨!((f ρ).toList == (g ρ).toList),?_,An (v := .bool _) (by simp [eqGuard,binOp,Op.stringOp])⟩;show _↔¬f ρ=g ρ;rw [←hi];simp;done)
          | (intro hp;have hp:(f ρ).size+(g ρ).size≤9223372036854775807:=hp;refine An ?_;have:¬9223372036854775807<((f ρ).size:Int)+((g ρ).size:Int):=by omega
             simp [eqGuard,binOp,Op.stringOp,this];done)
      · exact Ape hA hF hx0 hy0
theorem Au2 {x:W} (hA:SymAg ρ σ Y) (hF:YRel F F0 B0 σ m Y w):AnsOk F B0 σ m.nx ρ w ((do pure (.value (←Op.unary .not (realW σ x))):Sem Next).run P w) (notA Y x):=by
 unfold notA
 split
 ·rename_i f hx
  rw [Gv hx hA hF]
  refine ⟨!(f ρ),by simp,An (by simp [Op.unary])⟩
 ·trivial
theorem Au3 {x:W} (hA:SymAg ρ σ Y):AnsOk F B0 σ m.nx ρ w ((do pure (.value (←Op.unary .neg (realW σ x))):Sem Next).run P w) (negA Y x):=by
 unfold negA
 split
 ·rename_i k f hx
  rw [Bi hx hA]
  exact An (by simp [Op.unary,Op.intArith])
 ·trivial
theorem Avv {x:W} (hA:SymAg ρ σ Y):AnsOk F B0 σ m.nx ρ w ((do pure (.value (←Op.unary .xor (realW σ x))):Sem Next).run P w) (cplA Y x):=by
 unfold cplA
 split
 ·rename_i k f hx
  rw [Bi hx hA]
  refine An ?_
  cases hs:k.signed <;> simp [Op.unary,Op.intBits,bXor,hs]
 ·trivial
theorem Aoz {l:List (List D)} {q:Nat} {cs:List D} (h:∀ cs∈l,DKs [.int .u8] cs) (hq:l[q]?=some cs):∃ n,cs=[.raw (.int .u8 n)]:=by
 have:=h cs (List.mem_of_getElem? hq)
 cases this with | cons h1 h2=>cases h2;cases h1;exact ⟨_,rfl⟩
theorem Ar0 {s d:Nat} {x:W} (hA:SymAg ρ σ Y) (hF:YRel F F0 B0 σ m Y w):AnsOk F B0 σ m.nx ρ w ((do pure (.value (←convert s d (realW σ x))):Sem Next).run P w) (convA P Y s d x):=by
 unfold convA
 split
 ·rename_i q f d' k hx hs hd
  rw [Bi hx hA]
  refine An ?_
  simp [convert,run_underlying hs,run_underlying hd,Conv.intToInt]
 ·rename_i e hx hs hd
  split
  ·rename_i i he
   split
   ·rename_i own c j hi
    intro hp
    have hp:∀ cs∈ρ.d j,DKs [.int .u8] cs:=hp
    obtain ⟨_,hrd,_⟩:=(hF.row i _ hi).2
    have hag:σ.r.d j=ρ.d j:=hA i _ hi
    rw [hag] at hrd
    have hre:realW σ (.v (.c (.fz i)))=σ.v i:=by
     obtain ⟨a,n,c,hv⟩:∃ a n c,σ.v i = .slice a n c:=by
      generalize σ.v i=v at hrd
      generalize ρ.d j=l at hrd
      cases hrd <;> exact ⟨_,_,_,rfl⟩
     show realC σ (.fz i)=_
     simp only [realC,hv]
    rw [hre]
    show _=Result.ok (Next.value (.string (strL (ρ.d j)))) w
    generalize σ.v i=v at hrd ⊢
    generalize ρ.d j=l at hrd hp ⊢
    refine An ?_
    cases hrd with
    | nil a c =>
     cases a with
     | none=>exact run_convert_bytes_nil w s e hs he 0 c d hd
     | some a =>
      obtain ⟨b,o,p⟩:=a
      rw [run_convert_bytes_string w s d e _ _ _ hs he hd,run_bytesToString w _ _ _ [] (by simp [loadCells,loadCellsFrom])]
      rfl
    | fs l gb o c' z vs h0' hz' hc hFb hll ha hd' =>
     obtain ⟨cs0,hcs0⟩:∃ cs0,l[0]?=some cs0:=⟨_,List.getElem?_eq_getElem (by cases l with | nil=>exact absurd rfl h0' | cons=>simp)⟩
     obtain ⟨n0,e0⟩:=Aoz hp hcs0
     have hz1:z=1:=by have:=hll 0 cs0 hcs0;rw [e0] at this;simpa using this.symm
     subst hz1
     refine run_convert_bytes_arg w s e hs he gb o l.length c' (l.map byteI) (by simp) (fun q hq=>?_) d hd
     obtain ⟨n,e1⟩:=Aoz hp (List.getElem?_eq_getElem hq)
     have h3:=ha q 0 _ (.raw (.int .u8 n)) (List.getElem?_eq_getElem hq) (by rw [e1];rfl)
     have h4:=hd' q 0 _ (.raw (.int .u8 n)) (List.getElem?_eq_getElem hq) (by rw [e1];rfl)
     rw [Nat.mul_one,Nat.add_zero] at h3
     rw [h3,List.getD_eq_getElem?_getD,List.getElem?_map,List.getElem?_eq_getElem hq,Option.map_some,Option.getD_some,e1]
     generalize vs q 0=u at h4
     cases h4;rfl
   ·trivial
  ·trivial
 ·trivial
theorem Am3 {i:Nat} {cs:List C} (h:fpOf Y i=some cs):∃ own,Y.get i=some (.fp own cs):=by
 unfold fpOf at h
 split at h
 ·rename_i o c hi;cases h;exact ⟨o,hi⟩
 ·cases h
theorem Am0 {i j:Nat} {own:Bool} (h:fzOf Y i=some (own,j)):∃ c,Y.get i=some (.fz own c j):=by
 unfold fzOf at h
 split at h
 ·rename_i o c j' hi;cases h;exact ⟨c,hi⟩
 ·cases h
theorem Are {t:Nat} {x:W} (hF:YRel F F0 B0 σ m Y w):AnsOk F B0 σ m.nx ρ w ((do pure (.value (←Instr.loadAt t (realW σ x))):Sem Next).run P w) (loadA P Y t x):=by
 unfold loadA
 split
 ·rename_i i o
  split
  ·rename_i cs hi ha
   split
   ·rename_i n hn
    cases hb:Nat.ble (o+n) cs.length with
    | false=>trivial
    | true =>
     rw [cond_true]
     have hle:=Nat.le_of_ble_eq_true hb
     obtain ⟨own,hi⟩:=Am3 hi
     obtain ⟨_,h1⟩:=(hF.row i _ hi).2
     have hlen:(((cs.drop o).take n).map (realC σ)).length=n:=by rw [List.length_map,List.length_take,List.length_drop];omega
     have hget:∀ (j:Nat) (v:Value),(((cs.drop o).take n).map (realC σ))[j]?=some v→w.cell? ((⟨σ.b i,σ.o i+o,none⟩:Addr).add j)=some v:=fun j v hv=>by
      rw [List.getElem?_map,List.getElem?_take] at hv
      split at hv
      ·rw [List.getElem?_drop] at hv
       cases hc:cs[o+j]? with
       | none=>rw [hc] at hv;cases hv
       | some c =>
        rw [hc] at hv
        cases hv
        rw [Ax,Nat.add_assoc]
        exact (h1 _ c hc).2
      ·cases hv
     have hcs:=run_loadCells_list (P:=P) (w:=w) ⟨σ.b i,σ.o i+o,none⟩ (((cs.drop o).take n).map (realC σ)) hget
     rw [hlen] at hcs
     refine ⟨An ?_,fun c hc=>?_⟩
     ·show (Instr.loadAt t (.pointer (some ⟨σ.b i,σ.o i+o,none⟩))).run P w=_
      simp only [Instr.loadAt,Instr.sureAddr,loadVar,Sem.run_bind,Sem.run_pure,Result.andThen_ok,Cr ha,if_true,Al hn,hcs]
      rfl
     ·obtain ⟨j,hj⟩:=List.mem_iff_getElem?.1 (List.mem_of_mem_drop (List.mem_of_mem_take hc))
      exact (h1 j c hj).1
   ·trivial
  ·rename_i cs hi ha
   split
   ·rename_i c hc
    obtain ⟨own,hi⟩:=Am3 hi
    obtain ⟨_,h1⟩:=(hF.row i _ hi).2
    obtain ⟨h2,h3⟩:=h1 o c hc
    refine ⟨An ?_,h2⟩
    show (Instr.loadAt t (.pointer (some ⟨σ.b i,σ.o i+o,none⟩))).run P w=_
    simp only [Instr.loadAt,Instr.sureAddr,loadVar,Sem.run_bind,Sem.run_pure,Result.andThen_ok,Cr ha]
    simp [load,Sem.run,h3,one,realW,realV]
   ·trivial
  ·trivial
 ·trivial
theorem Yw {t f:Nat} {x:W} (hx:x.lt m.nx):AnsOk F B0 σ m.nx ρ w ((do pure (.value (←Instr.fieldAt t (realW σ x) f)):Sem Next).run P w) (fieldAddrA P t x f):=by
 unfold fieldAddrA
 split
 ·rename_i i o fields hu
  split
  ·rename_i fd hfd
   split
   ·trivial
   ·rename_i n hn hs
    refine ⟨An ?_,hx⟩
    show (Instr.fieldAt t (.pointer (some ⟨σ.b i,σ.o i+o,none⟩)) f).run P w=_
    cases n with
    | zero=>exact absurd rfl hn
    | succ n =>
     simp only [Instr.fieldAt,Sem.run_bind,run_underlying hu,Result.andThen_ok,hfd]
     simp only [Instr.sureAddr,Sem.run_pure,Result.andThen_ok,fieldPlace,Sem.run_bind,Al hs,one]
     rw [if_neg (by omega)]
     simp [Ax,realW,realV,realC,Nat.add_assoc]
   ·trivial
  ·trivial
 ·trivial
theorem Asr {r:Result Next} {n:Nat} {a b:Ans} (h1:AnsOk F B0 σ n ρ w r a) (h2:AnsOk F B0 σ n ρ w r b):AnsOk F B0 σ n ρ w r (orA a b):=by
 cases a <;> first | exact h2 | exact h1
theorem Aem {q:Nat} {p:EpI} (h:epOf P Y q=some p):Y.get q=some (.ep p.i p.x p.z)∧Y.get p.i=some (.od p.e p.z p.own p.j)∧Y.get p.x=some .int∧p.ks.length=p.z∧kindsOf P p.e=some p.ks:=by
 unfold epOf at h
 split at h
 ·rename_i i x z hq
  split at h
  ·rename_i e z' own j hi hx
   split at h
   ·rename_i ks hk
    cases hb:(Nat.beq z z' && Nat.beq ks.length z) with
    | false=>rw [hb] at h;cases h
    | true =>
     rw [hb] at h
     cases h
     rw [Bool.and_eq_true] at hb
     have h1:=Nat.eq_of_beq_eq_true hb.1
     subst h1
     exact ⟨hq,hi,hx,Nat.eq_of_beq_eq_true hb.2,hk⟩
   ·cases h
  ·cases h
 ·cases h
theorem As6 {q:Nat} {p:EpI} {ds:List D} (h:epOf P Y q=some p) (hA:SymAg ρ σ Y) (hF:YRel F F0 B0 σ m Y w) (h0:0≤ρ.n p.x) (hd:(ρ.d p.j)[(ρ.n p.x).toNat]?=some ds) :
  live σ p.i∧σ.b q=σ.b p.i∧σ.o q=(ρ.n p.x).toNat*p.z∧∃ arr c a,w.heap[σ.b p.i]?=some (.cells arr p.e (0,0))∧c*p.z≤arr.size∧(ρ.d p.j).length≤c∧0<p.z∧Els (Fo F B0 p.own) w p.z arr (ρ.d p.j)∧σ.v p.i = .slice a (ρ.d p.j).length c:=by
 obtain ⟨e1,e2,e3,e4,_⟩:=Aem h
 obtain ⟨_,_,_,h4,h5⟩:=(hF.row q _ e1).2
 have hx:σ.r.n p.x=ρ.n p.x:=hA p.x _ e3
 rw [hx] at h5
 obtain ⟨_,hz,a,c,h6,h7⟩:=(hF.row p.i _ e2).2
 have hdj:σ.r.d p.j=ρ.d p.j:=hA p.i _ e2
 rw [hdj] at h6 h7
 rcases h7 with ⟨_,h7⟩ | ⟨h8,h9,arr,h10,h11,h12,h13⟩
 ·rw [h7] at hd;simp at hd
 ·exact ⟨⟨a,_,c,h6,h9⟩,h4,h5,arr,c,a,h10,h11,h12,hz,h13,h6⟩
theorem Amy {t:Nat} {x y:W} (hA:SymAg ρ σ Y) (hF:YRel F F0 B0 σ m Y w):AnsOk F B0 σ m.nx ρ w ((do pure (.value (←Instr.indexAt t (realW σ x) (realW σ y))):Sem Next).run P w) (indexO P Y t x y):=by
 unfold indexO
 split
 ·rename_i i
  split
  ·rename_i e1 z' own j q f e z hi hy hty
   cases hb:Nat.beq z z' with
   | false=>trivial
   | true =>
    rw [cond_true]
    have hzz:=Nat.eq_of_beq_eq_true hb
    subst hzz
    obtain ⟨hu,hsz⟩:=As hty
    have hi:Y.get i=some (.od e1 z own j):=by
     unfold odOf at hi
     split at hi
     ·rename_i hq;cases hi;exact hq
     ·cases hi
    intro h0 h1
    obtain ⟨_,hz,a,c,h6,h7⟩:=(hF.row i _ hi).2
    have hdj:σ.r.d j=ρ.d j:=hA i _ hi
    rw [hdj] at h6 h7
    rcases h7 with ⟨_,h7⟩ | ⟨h8,_⟩
    ·rw [h7] at h1;simp at h1;omega
    ·refine ⟨?_,(hF.row i _ hi).1⟩
     rw [Bi hy hA]
     have hre:realW σ (.v (.c (.fz i))) = .slice (some ⟨σ.b i,0,none⟩) (ρ.d j).length c:=by
      show (match σ.v i with | .slice a n c=>Value.slice a n c | _=>.nilFunc)=_
      rw [h6,h8]
     rw [hre]
     refine An ?_
     have hcond:(0:Int)≤f ρ∧f ρ<((ρ.d j).length:Int):=⟨h0,h1⟩
     simp only [Instr.indexAt,Sem.run_bind,asIntOf,Sem.run_pure,Result.andThen_ok,run_underlying hu,if_pos hcond,Al hsz,Ax,Nat.zero_add]
  ·trivial
 ·trivial
theorem Ard {t:Nat} {x:W} (hA:SymAg ρ σ Y) (hF:YRel F F0 B0 σ m Y w):AnsOk F B0 σ m.nx ρ w ((do pure (.value (←Instr.loadAt t (realW σ x))):Sem Next).run P w) (loadO P Y t x):=by
 unfold loadO
 split
 ·rename_i q o
  split
  ·rename_i p hp
   have hks:=(Aem hp).2.2.2.1
   have key:∀ ds,0≤ρ.n p.x→(ρ.d p.j)[(ρ.n p.x).toNat]?=some ds→ds.length=p.z∧∃ vs:List Value,vs.length=ds.length∧(∀ (q:Nat) (d:D) (v:Value),ds[q]?=some d→vs[q]?=some v→RD (Fo F B0 p.own) w d v)∧∀ (j:Nat) (v:Value),vs[j]?=some v→w.cell? ⟨σ.b q,σ.o q+j,none⟩=some v:=fun ds h0 hd=>by
    obtain ⟨_,hb,ho,arr,c,a,h1,h2,h3,hz,h4,_⟩:=As6 hp hA hF h0 hd
    obtain ⟨h5,h6⟩:=h4 _ ds hd
    refine ⟨h5,(List.range ds.length).map fun k=>arr.getD ((ρ.n p.x).toNat*p.z+k) undef,by simp,fun k d v hk hv=>?_,fun j v hv=>?_⟩
    ·obtain ⟨u,h7,h8⟩:=h6 k d hk
     have hlt:=(List.getElem?_eq_some_iff.1 hk).1
     rw [List.getElem?_map,List.getElem?_range hlt] at hv
     simp only [Option.map_some,Option.some.injEq] at hv
     rw [←hv,Array.getD_eq_getD_getElem?,h7]
     exact h8
    ·have hlt:j<ds.length:=by have:=(List.getElem?_eq_some_iff.1 hv).1;simpa using this
     rw [List.getElem?_map,List.getElem?_range hlt] at hv
     simp only [Option.map_some,Option.some.injEq] at hv
     obtain ⟨u,h7,_⟩:=h6 j _ (List.getElem?_eq_getElem hlt)
     rw [←hv,Array.getD_eq_getD_getElem?,h7,hb,ho]
     simp [World.cell?,h1,h7]
   split
   ·rename_i n ha hn
    cases hb:Nat.ble (o+n) p.z with
    | false=>trivial
    | true =>
     rw [cond_true]
     have hle:=Nat.le_of_ble_eq_true hb
     intro ds h0 hd hdk
     obtain ⟨hl,vs,v1,v2,v3⟩:=key ds h0 hd
     refine ⟨vs,v1,v2,by rw [hks];exact hle,?_⟩
     have hlen:((vs.drop o).take n).length=n:=by rw [List.length_take,List.length_drop,v1,hl];omega
     have hget:∀ (j:Nat) (v:Value),((vs.drop o).take n)[j]?=some v→w.cell? ((⟨σ.b q,σ.o q+o,none⟩:Addr).add j)=some v:=fun j v hv=>by
      rw [List.getElem?_take] at hv
      split at hv
      ·rw [List.getElem?_drop] at hv
       rw [Ax,Nat.add_assoc]
       exact v3 _ v hv
      ·cases hv
     have hcs:=run_loadCells_list (P:=P) (w:=w) ⟨σ.b q,σ.o q+o,none⟩ ((vs.drop o).take n) hget
     rw [hlen] at hcs
     refine An ?_
     show (Instr.loadAt t (.pointer (some ⟨σ.b q,σ.o q+o,none⟩))).run P w=_
     simp only [Instr.loadAt,Instr.sureAddr,loadVar,Sem.run_bind,Sem.run_pure,Result.andThen_ok,Cr ha,if_true,Al hn,hcs]
     rfl
   ·rename_i _ ha
    cases hb:Nat.blt o p.z with
    | false=>trivial
    | true =>
     rw [cond_true]
     have hle:o<p.z:=Nat.le_of_ble_eq_true hb
     intro ds h0 hd hdk
     obtain ⟨hl,vs,v1,v2,v3⟩:=key ds h0 hd
     refine ⟨vs,v1,v2,by rw [hks];exact hle,?_⟩
     have hlt:o<vs.length:=by rw [v1,hl];exact hle
     have hv:=v3 o _ (List.getElem?_eq_getElem hlt)
     refine An ?_
     show (Instr.loadAt t (.pointer (some ⟨σ.b q,σ.o q+o,none⟩))).run P w=_
     simp only [Instr.loadAt,Instr.sureAddr,loadVar,Sem.run_bind,Sem.run_pure,Result.andThen_ok,Cr ha]
     simp [load,Sem.run,hv,cutV,List.getElem?_eq_getElem hlt]
   ·trivial
  ·trivial
 ·trivial
theorem Amz {t:Nat} {x y:W} (hA:SymAg ρ σ Y) (hF:YRel F F0 B0 σ m Y w):AnsOk F B0 σ m.nx ρ w ((do pure (.value (←Instr.indexAt t (realW σ x) (realW σ y))):Sem Next).run P w) (indexA P Y t x y):=by
 unfold indexA
 split
 ·rename_i i
  split
  ·rename_i own j q f e z hi hy hty
   split
   ·rename_i ks hks
    cases hb:Nat.beq ks.length z with
    | false=>trivial
    | true =>
     rw [cond_true]
     have hz:=Nat.eq_of_beq_eq_true hb
     obtain ⟨hu,hsz⟩:=As hty
     intro ds h0 hds hdk
     obtain ⟨c,hi⟩:=Am0 hi
     have hrd:RD (Fo F B0 own) w (.fs (σ.r.d j)) (σ.v i):=(hF.row i _ hi).2.2.1
     have hag:σ.r.d j=ρ.d j:=hA i _ hi
     rw [hag] at hrd
     have hlen:ds.length=z:=by rw [Mb hdk,hz]
     have hlt:=(List.getElem?_eq_some_iff.1 hds).1
     rw [Bi hy hA]
     have hre:realW σ (.v (.c (.fz i)))=(match σ.v i with | .slice a n c=>.slice a n c | _=>.nilFunc):=rfl
     generalize hv:σ.v i=v at hrd hre
     generalize hl:ρ.d j=l at hrd hds hlt
     cases hrd with
     | nil a c=>simp at hlt
     | fs l gb o c' z' vs h0' hz' hc hFb hll ha hd =>
      have hzz:z'=z:=by rw [←hlen];exact (hll _ ds hds).symm
      subst hzz
      refine ⟨gb,o+(f ρ).toNat*z',(List.range ds.length).map (vs (f ρ).toNat),An ?_,hFb,by simp,fun j v hj=>?_,fun j d v hj hv=>?_⟩
      ·rw [hre]
       have hcond:(0:Int)≤f ρ∧f ρ<(l.length:Int):=by omega
       simp only [Instr.indexAt,Sem.run_bind,asIntOf,Sem.run_pure,Result.andThen_ok,run_underlying hu,if_pos hcond,Al hsz,Ax]
      ·rw [List.getElem?_map] at hj
       cases hr:(List.range ds.length)[j]? with
       | none=>rw [hr] at hj;cases hj
       | some j' =>
        rw [hr] at hj
        cases hj
        obtain ⟨h1,h2⟩:=List.getElem?_eq_some_iff.1 hr
        rw [List.getElem_range] at h2
        subst h2
        rw [List.length_range] at h1
        have:=ha _ j ds _ hds (List.getElem?_eq_getElem h1)
        rw [←this]
      ·rw [List.getElem?_map] at hv
       cases hr:(List.range ds.length)[j]? with
       | none=>rw [hr] at hv;cases hv
       | some j' =>
        rw [hr] at hv
        cases hv
        obtain ⟨h1,h2⟩:=List.getElem?_eq_some_iff.1 hr
        rw [List.getElem_range] at h2
        subst h2
        exact hd _ j ds d hds hj
   ·trivial
  ·trivial
 ·trivial
end
end
end Go.Vc

namespace Go.Vc
variable [Holes]
section
variable {P:Program} {K:Nat→Option (List Value)} {F F0:Nat→Prop} {B0:Nat} {σ:Env} {m:Mem} {Y:T YRow} {w:World} {ρ:Rho}
theorem RD.part {F:Nat→Prop} {l:List (List D)} {a:Option Addr} {c L n q z:Nat} (hx:RD F w (.fs l) (.slice a l.length c)) (hz:∀ (i:Nat) (cs:List D),l[i]?=some cs→cs.length=z) (hn:L+n≤l.length) (hq:n≤q) (a':Option Addr) (ha':n≠0→a'=a.map (·.add (L*z))) :
  RD F w (.fs ((l.drop L).take n)) (.slice a' ((l.drop L).take n).length q):=by
 by_cases h0:n=0
 ·subst h0
  simp only [List.take_zero,List.length_nil]
  exact RD.nil _ _
 ·generalize hv:Value.slice a l.length c=v at hx
  cases hx with
  | nil a c=>simp at hn;omega
  | fs l b o c' z' vs h0' hz' hc hkb hl ha hd =>
   cases hv
   obtain ⟨cs0,hcs0⟩:∃ cs0,l[0]?=some cs0:=⟨_,List.getElem?_eq_getElem (by omega)⟩
   have hzz:z'=z:=(hl 0 cs0 hcs0).symm.trans (hz 0 cs0 hcs0)
   subst hzz
   have hget:∀ (i:Nat) (cs:List D),((l.drop L).take n)[i]?=some cs→l[L+i]?=some cs:=fun i cs hi=>by
    rw [List.getElem?_take] at hi
    split at hi
    ·rwa [List.getElem?_drop] at hi
    ·cases hi
   have hlen:((l.drop L).take n).length=n:=by rw [List.length_take,List.length_drop];omega
   have e1:a'=some ⟨b,o+L*z',none⟩:=by rw [ha' h0];simp [Ax]
   rw [e1]
   refine RD.fs _ b (o+L*z') q z' (fun i j=>vs (L+i) j) (fun he=>by rw [he] at hlen;simp at hlen;omega) hz' (by omega) hkb (fun i cs hi=>hl _ _ (hget i cs hi)) (fun i j cs d hi hj=>?_) (fun i j cs d hi hj=>hd _ _ _ _ (hget i cs hi) hj)
   have:=ha _ _ _ _ (hget i cs hi) hj
   rw [Nat.add_mul] at this
   rw [←this]
   congr 2
   omega
theorem RD.cap {F:Nat→Prop} {l:List (List D)} {a:Option Addr} {c:Nat} (hx:RD F w (.fs l) (.slice a l.length c)):l.length≤c:=by
 generalize hv:Value.slice a l.length c=v at hx
 cases hx with
 | nil a c=>simp
 | fs l b o c' z' vs h0 hz' hc hkb hl ha hd=>cases hv;exact hc
theorem RD.slice {F:Nat→Prop} {l:List (List D)} {v:Value} (h:RD F w (.fs l) v):∃ a c,v = .slice a l.length c:=by
 cases h with
 | nil a c=>exact ⟨a,c,rfl⟩
 | fs l b o c z vs h0 hz hc hF hl ha hd=>exact ⟨_,c,rfl⟩
theorem Yt {x:Option W} {f:Option (Rho→Int)} (h:intO Y x=some f) (hA:SymAg ρ σ Y):(x=none∧f=none)∨∃ y g k,x=some y∧f=some g∧realW σ y = .int k (g ρ):=by
 unfold intO at h
 split at h
 ·cases h;exact .inl ⟨rfl,rfl⟩
 ·split at h
  ·rename_i k g hg
   cases h
   exact .inr ⟨_,g,k,rfl,rfl,Bi hg hA⟩
  ·cases h
theorem Bu {k:IntKind} {n:Int} {y:Nat} {code:BoundsCode} (h0:0≤n) (h1:n≤y):(Instr.sliceBound (.int k n) y code).run P w = .ok n.toNat w:=by
 simp [Instr.sliceBound,asIntOf,h0,h1]
theorem Aqn {a b:W} {k k':IntKind} {x y:Int} (h:sameI a b=true) (ha:realW σ a = .int k x) (hb:realW σ b = .int k' y):x=y:=by
 unfold sameI at h
 split at h
 ·cases ha;cases hb;simpa using h
 ·rw [Nat.eq_of_beq_eq_true h] at ha
  cases ha;cases hb;rfl
 ·cases h
theorem Axv {a:W} {k:IntKind} {x:Int} (h:isZ a=true) (ha:realW σ a = .int k x):x=0:=by
 unfold isZ at h
 split at h
 ·cases ha;rfl
 ·cases h
theorem Aht {lo hi mx:Option W} (h:clipW lo hi mx≠0):∃ a b,hi=some a∧mx=some b∧sameI a b=true∧(clipW lo hi mx=2→isZ a=true):=by
 unfold clipW at h
 split at h
 ·rename_i a b
  cases hs:sameI a b with
  | false=>rw [hs] at h;exact absurd rfl h
  | true =>
   refine ⟨a,b,rfl,rfl,hs,fun h2=>?_⟩
   unfold clipW at h2
   simp only [hs,cond_true] at h2
   split at h2
   ·rename_i l
    cases h1:isZ l <;> cases h3:isZ a <;> rw [h1,h3] at h2 <;> first | rfl | cases h2
   ·cases h3:isZ a <;> rw [h3] at h2 <;> first | rfl | cases h2
 ·exact absurd rfl h
theorem Al1 {t:Nat} {x:W} {lo hi mx:Option W} (hA:SymAg ρ σ Y) (hF:YRel F F0 B0 σ m Y w) :
  AnsOk F B0 σ m.nx ρ w ((do pure (.value (←Instr.sliceAt t (realW σ x) (lo.map (realW σ)) (hi.map (realW σ)) (mx.map (realW σ)))):Sem Next).run P w) (sliceA P Y t x lo hi mx):=by
 unfold sliceA
 split
 ·rename_i i
  split
  ·rename_i own j e z hi' hty
   split
   ·rename_i fl fh fm hl hh hm
    cases hb:(fh.isSome || fm.isNone) with
    | false=>trivial
    | true =>
     rw [cond_true]
     obtain ⟨hu,hsz⟩:=As hty
     obtain ⟨cc,hi'⟩:=Am0 hi'
     have hrd:RD (Fo F B0 own) w (.fs (σ.r.d j)) (σ.v i):=(hF.row i _ hi').2.2.1
     have hag:σ.r.d j=ρ.d j:=hA i _ hi'
     rw [hag] at hrd
     obtain ⟨a,c,hv⟩:=hrd.slice
     rw [hv] at hrd
     have hre:realW σ (.v (.c (.fz i))) = .slice a (ρ.d j).length c:=by
      show (match σ.v i with | .slice a n c=>Value.slice a n c | _=>.nilFunc)=_
      rw [hv]
     rw [hre]
     rintro ⟨p1,p2,p3,p4,p5⟩
     unfold partD
     have hc:=hrd.cap
     generalize hL:loI ρ fl=L at p1 p2 ⊢
     generalize hH:hiI ρ (ρ.d j).length fh=H at p2 p3 ⊢
     generalize hM:hiI ρ (ρ.d j).length fm=M at p3 p4
     -- the bounds
     have hbd:∃ M':Nat,H.toNat≤M'∧(Instr.sliceBounds true (ρ.d j).length c (lo.map (realW σ)) (hi.map (realW σ)) (mx.map (realW σ))).run P w = .ok (L.toNat,H.toNat,M') w∧(clipW lo hi mx≠0→M'=H.toNat∧(clipW lo hi mx=2→H=0)):=by
      have lov:∀ code,(match lo.map (realW σ) with | some v=>Instr.sliceBound v H.toNat code | none=>pure 0:Sem Nat).run P w = .ok L.toNat w:=fun code=>by
       rcases Yt hl hA with ⟨rfl,rfl⟩ | ⟨y,g,k,rfl,rfl,hy⟩
       ·subst hL;rfl
       ·subst hL
        show (Instr.sliceBound (realW σ y) H.toNat code).run P w=_
        rw [hy]
        exact Bu p1 (by show g ρ≤_;have:g ρ≤H:=p2;omega)
      unfold Instr.sliceBounds
      rcases Yt hm hA with ⟨rfl,rfl⟩ | ⟨y,g,k,rfl,rfl,hy⟩
      ·refine ⟨c,by subst hM;simp only [hiI] at p3;omega,?_,fun hc=>by obtain ⟨_,_,_,hc2,_⟩:=Aht hc;cases hc2⟩
       rcases Yt hh hA with ⟨rfl,rfl⟩ | ⟨y',g',k',rfl,rfl,hy'⟩
       ·subst hH
        have hlen:(hiI ρ (ρ.d j).length none).toNat=(ρ.d j).length:=by simp [hiI]
        rw [hlen] at lov ⊢
        have:=lov .sliceB
        revert this
        cases lo with
        | none=>intro this;simp at this ⊢;exact this
        | some l=>intro this;simp at this ⊢;rw [this];rfl
       ·subst hH hM
        have hb':∀ code,(Instr.sliceBound (realW σ y') c code).run P w = .ok (g' ρ).toNat w:=fun code=>by
         rw [hy'];exact Bu (by have:L≤g' ρ:=p2;omega) (by have:g' ρ≤((ρ.d j).length:Int):=p3;omega)
        have:=lov .sliceB
        revert this
        cases lo with
        | none=>intro this;simp [hb',hiI] at this ⊢;exact this
        | some l=>intro this;simp [hb',hiI] at this ⊢;rw [this];rfl
      ·rcases Yt hh hA with ⟨rfl,rfl⟩ | ⟨y',g',k',rfl,rfl,hy'⟩
       ·cases hb
       ·subst hH hM
        refine ⟨(g ρ).toNat,by have:g' ρ≤g ρ:=p3;simp only [hiI];omega,?_,fun hc=>by
         obtain ⟨_,_,hc1,hc2,hc3,hc4⟩:=Aht hc
         cases hc1;cases hc2
         have:=Aqn hc3 hy' hy
         exact ⟨by simp only [hiI];rw [this],fun h2=>Axv (hc4 h2) hy'⟩⟩
        have hm':∀ code,(Instr.sliceBound (realW σ y) c code).run P w = .ok (g ρ).toNat w:=fun code=>by
         rw [hy];exact Bu (by have:L≤g' ρ:=p2;have:g' ρ≤g ρ:=p3;omega) (by have:g ρ≤((ρ.d j).length:Int):=p4;omega)
        have hb':∀ code,(Instr.sliceBound (realW σ y') (g ρ).toNat code).run P w = .ok (g' ρ).toNat w:=fun code=>by
         rw [hy'];exact Bu (by have:L≤g' ρ:=p2;omega) (by have:L≤g' ρ:=p2;have:g' ρ≤g ρ:=p3;omega)
        have:=lov .slice3C
        revert this
        cases lo with
        | none=>intro this;simp [hm',hb',hiI] at this ⊢;exact this
        | some l=>intro this;simp [hm',hb',hiI] at this ⊢;rw [this];rfl
     obtain ⟨M',h1,h2,h3⟩:=hbd
     have hHl:H.toNat≤(ρ.d j).length:=by omega
     have hp:=RD.part (z:=z) (L:=L.toNat) (n:=H.toNat-L.toNat) (q:=M'-L.toNat) hrd (fun j cs hj=>p5 cs (List.mem_of_getElem? hj)) (by omega) (by omega) (if M'=L.toNat then a else a.map fun x=>x.add (L.toNat*z)) (fun hn=>by rw [if_neg (by omega)])
     have hlen:((List.drop L.toNat (ρ.d j)).take (H.toNat-L.toNat)).length=H.toNat-L.toNat:=by rw [List.length_take,List.length_drop];omega
     rw [hlen] at hp
     exact ⟨_,An (Cb hu hsz h2),hp,fun hc=>⟨_,H.toNat-L.toNat,by rw [(h3 hc).1]⟩,fun hc=>by
      have:H=0:=(h3 (by rw [hc];exact fun h=>by cases h)).2 hc
      rw [this];simp⟩
   ·trivial
  ·trivial
 ·trivial
theorem Ava {t ty:Nat} {x:W} (hA:SymAg ρ σ Y) (hF:YRel F F0 B0 σ m Y w):AnsOk F B0 σ m.nx ρ w ((do pure (.value (←Builtin.len_ #[t] ty #[realW σ x])):Sem Next).run P w) (lenA P Y t x):=by
 unfold lenA
 split
 ·rename_i i e hu
  split
  ·rename_i j hi
   obtain ⟨a,c,hre⟩:∃ a c,realW σ (.v (.c (.fz i))) = .slice a (ρ.d j).length c:=by
    unfold datOf at hi
    split at hi
    ·rename_i o c j' hy
     cases hi
     have hrd:=(hF.row i _ hy).2.2.1
     rw [show σ.r.d j=ρ.d j from hA i _ hy] at hrd
     obtain ⟨a,c,hv⟩:=hrd.slice
     exact ⟨a,c,by show realC σ (.fz i)=_;simp only [realC,hv]⟩
    ·rename_i e z o j' hy
     cases hi
     obtain ⟨_,_,a,c,hv,_⟩:=(hF.row i _ hy).2
     rw [show σ.r.d j=ρ.d j from hA i _ hy] at hv
     exact ⟨a,c,by show realC σ (.fz i)=_;simp only [realC,hv]⟩
    ·cases hi
   rw [hre]
   refine An ?_
   simp [Builtin.len_,run_underlying hu,goInt]
  ·trivial
 ·trivial
theorem Rb {mx:Bool} {ts:Array TypeId} {ty:TypeId} {x y:W} (hA:SymAg ρ σ Y):AnsOk F B0 σ m.nx ρ w ((do pure (.value (←bif mx then Builtin.max_ ts ty #[realW σ x,realW σ y] else Builtin.min_ ts ty #[realW σ x,realW σ y])):Sem Next).run P w) (minA Y mx x y):=by
 unfold minA
 split
 ·rename_i k f k' g hx hy
  rw [Bi hx hA,Bi hy hA]
  refine An ?_
  cases mx with
  | true =>
   show (Builtin.max_ ts ty #[.int k (f ρ), .int k' (g ρ)]).run P w = .ok (.int k (max (f ρ) (g ρ))) w
   simp [Builtin.max_,Builtin.max2]
   split <;> omega
  | false =>
   show (Builtin.min_ ts ty #[.int k (f ρ), .int k' (g ρ)]).run P w = .ok (.int k (min (f ρ) (g ρ))) w
   simp [Builtin.min_,Builtin.min2]
   split <;> omega
 ·trivial
theorem Al4 {t e:Nat} {a:Option Addr} {l c:Nat} (h:P.underlying t=some (.slice e)):(binOp .eql t (.slice a l c) (.slice none 0 0)).run P w = .ok (.bool a.isNone) w:=by
 simp only [binOp]
 simp [run_equal_slice_nil w t e a l c h]
theorem Agy {F:Nat→Prop} {l:List (List D)} {n c:Nat} {a:Option Addr} (h:RD F w (.fs l) (.slice a n c)) (ha:a.isNone=true):l=[]:=by
 cases h with
 | nil=>rfl
 | fs=>cases ha
theorem Av3 {op:BinOp} {t:Nat} {ox oy:Operand} {x y:W} (hA:SymAg ρ σ Y) (hF:YRel F F0 B0 σ m Y w) (hx0:x.lt m.nx) (hy0:y.lt m.nx) :
  AnsOk F B0 σ m.nx ρ w ((do pure (.value (←(do eqGuard op t ox oy (realW σ x) (realW σ y);binOp op t (realW σ x) (realW σ y):Sem Value))):Sem Next).run P w) (binN P Y op t x y):=by
 unfold binN
 split
 ·rename_i i
  split
  ·rename_i own c j e hi hu
   obtain ⟨_,hrd,_⟩:=(hF.row i _ hi).2
   rw [show σ.r.d j=ρ.d j from hA i _ hi] at hrd
   obtain ⟨a,k,hv⟩:=hrd.slice
   have hr:realW σ (.v (.c (.fz i))) = .slice a (ρ.d j).length k:=by show realC σ (.fz i)=_;simp only [realC,hv]
   rw [hv] at hrd
   refine ⟨a.isNone,fun hq=>Agy hrd hq,An (v := .bool _) ?_⟩
   rw [hr]
   simp [eqGuard,realW,realV,realC,Al4 hu]
  ·trivial
 ·rename_i i
  split
  ·rename_i own c j e hi hu
   obtain ⟨_,hrd,_⟩:=(hF.row i _ hi).2
   rw [show σ.r.d j=ρ.d j from hA i _ hi] at hrd
   obtain ⟨a,k,hv⟩:=hrd.slice
   have hr:realW σ (.v (.c (.fz i))) = .slice a (ρ.d j).length k:=by show realC σ (.fz i)=_;simp only [realC,hv]
   rw [hv] at hrd
   refine ⟨!a.isNone,fun hq=>Agy hrd (by simpa using hq),An (v := .bool _) ?_⟩
   rw [hr]
   simp [eqGuard,realW,realV,realC,run_neq_slice_nil w t e a _ k hu]
  ·trivial
 ·exact Av4 hA hF hx0 hy0
theorem Aln {o:Oper} {a:Act} {tm:Tm} (hT:TmOk σ m.nx a.tmps tm) (hA:SymAg ρ σ Y) (hF:YRel F F0 B0 σ m Y w):AnsOk F B0 σ m.nx ρ w ((execOp a.eval o).run P w) (symA P Y tm o.op):=by
 have E:∀ p,a.eval p=realW σ (ev tm p):=fun p=>(hT.ev a.defers p).1
 have L:∀ p,W.lt m.nx (ev tm p):=fun p=>(hT.ev a.defers p).2
 unfold execOp
 cases hop:o.op <;> dsimp only [symA]
 case binOp op t x y _=>simp only [E];exact Av3 hA hF (L x) (L y)
 case unOp op t x =>
  cases op <;> first
   | trivial
   | (simp only [E];exact Au2 hA hF)
   | (simp only [E];exact Au3 hA)
   | (simp only [E];exact Avv hA)
 case convert s d x=>simp only [E];exact Ar0 hA hF
 case load t x=>simp only [E];exact Asr (Are hF) (Ard hA hF)
 case fieldAddr t x f=>simp only [E];exact Yw (L x)
 case nilCheck x =>
  simp only [E]
  by_cases hq:∃ i q,ev tm x = .v (.c (.fp i q))
  ·obtain ⟨i,q,hq⟩:=hq
   rw [hq]
   exact ⟨rfl,by have:=L x;rw [hq] at this;exact this⟩
  ·have:nilCheckA (ev tm x) = .no:=by
    unfold nilCheckA
    split
    ·rename_i i q hx;exact absurd ⟨i,q,hx⟩ hq
    ·rfl
   rw [this];trivial
 case indexAddr t x i=>simp only [E];exact Asr (Amz hA hF) (Amy hA hF)
 case slice t x lo hi mx=>rw [E,Dx hT,Dx hT,Dx hT];exact Al1 hA hF
 case call c =>
  unfold callA
  split
  ·rename_i t x hcal hts hxs
   have hts:c.argTypes=#[t]:=Array.ext' hts
   have hxs:c.args=#[x]:=Array.ext' hxs
   have:=Ava (P:=P) (t:=t) (ty:=o.type) (x:=ev tm x) (m:=m) hA hF
   unfold resolve
   simp only [hcal,hts,hxs]
   rw [show (#[x].map a.eval)=#[realW σ (ev tm x)] by simp [E x]]
   exact this
  ·rename_i x y hcal hxs
   have hxs:c.args=#[x,y]:=Array.ext' hxs
   have:=Rb (P:=P) (mx:=false) (ts:=c.argTypes) (ty:=o.type) (x:=ev tm x) (y:=ev tm y) (m:=m) (F:=F) (B0:=B0) (w:=w) hA
   unfold resolve
   simp only [hcal,hxs]
   rw [show (#[x,y].map a.eval)=#[realW σ (ev tm x),realW σ (ev tm y)] by simp [E x,E y]]
   exact this
  ·rename_i x y hcal hxs
   have hxs:c.args=#[x,y]:=Array.ext' hxs
   have:=Rb (P:=P) (mx:=true) (ts:=c.argTypes) (ty:=o.type) (x:=ev tm x) (y:=ev tm y) (m:=m) (F:=F) (B0:=B0) (w:=w) hA
   unfold resolve
   simp only [hcal,hxs]
   rw [show (#[x,y].map a.eval)=#[realW σ (ev tm x),realW σ (ev tm y)] by simp [E x,E y]]
   exact this
  ·trivial
 all_goals trivial
end
end Go.Vc
