import Derived.WalkKit
import Derived.Laws.OwnMore
import Derived.Below
set_option linter.unusedVariables false
set_option linter.unusedSimpArgs false
set_option linter.unusedSectionVars false
noncomputable section
namespace Go.Vc
inductive T (α:Type) where
 | e
 | n (l:T α) (v:Option α) (r:T α)
def T.get {α:Type} (t:T α):Nat→Option α :=
 T.rec (fun _=>none) (fun _ v _ gl gr i=>Bool.rec (Bool.rec (gr (Nat.sub (Nat.div i 2) 1)) (gl (Nat.div i 2)) (Nat.beq (Nat.mod i 2) 1)) v (Nat.beq i 0)) t
def T.lone {α:Type} (x:Option α) (f:Nat):Nat→T α :=
 Nat.rec (fun _=>.e) (fun _ ih i=>Bool.rec (Bool.rec (.n .e none (ih (Nat.sub (Nat.div i 2) 1))) (.n (ih (Nat.div i 2)) none .e) (Nat.beq (Nat.mod i 2) 1)) (.n .e x .e) (Nat.beq i 0)) f
def T.put {α:Type} (x:Option α) (t:T α):Nat→T α :=
 T.rec (fun i=>T.lone x (Nat.succ i) i) (fun l v r pl pr i=>Bool.rec (Bool.rec (.n l v (pr (Nat.sub (Nat.div i 2) 1))) (.n (pl (Nat.div i 2)) v r) (Nat.beq (Nat.mod i 2) 1)) (.n l x r) (Nat.beq i 0)) t
def T.set {α:Type} (t:T α) (i:Nat) (x:α):T α:=T.put (some x) t i
inductive D where
 | raw (v:Value)
 | fs (l:List (List D))
structure Rho where
 n:Nat→Int
 t:Nat→Bool
 s:Nat→ByteArray
 d:Nat→List (List D)
inductive C where
 | raw (v:Value)
 | ptr (r o:Nat)
 | sl (r o n z:Nat) (cap:Option Nat)
 | em (r p o z:Nat)
 | clo (i:Nat)
 | ifc (t:TypeId) (i:Nat)
 | mp (r:Nat)
 | fz (i:Nat)
 | fp (i o:Nat)
 | sb (i:Nat)
 | si (k:IntKind) (i:Nat)
 | ss (i:Nat)
inductive V where
 | c (x:C)
 | a (cs:List C)
inductive W where
 | v (x:V)
 | t (l:List V)
def V.of:Value→V
 | .agg cs=>.a (cs.toList.map .raw)
 | v=>.c (.raw v)
def W.of:Value→W
 | .tuple vs=>.t (vs.toList.map V.of)
 | x=>.v (V.of x)
def undefW:W := .t []
def C.raw?:C→Option Value
 | .raw v=>some v
 | _=>none
def V.raw?:V→Option Value
 | .c (.raw v)=>some v
 | .c _=>none
 | .a cs=>(cs.mapM C.raw?).map fun l=>.agg l.toArray
def W.raw?:W→Option Value
 | .v x=>x.raw?
 | .t []=>some (.tuple #[])
 | .t _=>none
def V.cells:V→List C
 | .c x=>[x]
 | .a cs=>cs
def T.list {α:Type} (t:T α):Nat→Nat→Option (List α)
 | _,0=>some []
 | i,k+1=>match t.get i with
  | some x=>match t.list (i+1) k with
   | some l=>some (x::l)
   | none=>none
  | none=>none
def T.puts {α:Type} (t:T α):Nat→List α→T α
 | _,[]=>t
 | i,x::l=>(t.set i x).puts (i+1) l
structure Tm where
 l:List (Nat×W)
 g:Nat→Value
def lookT:List (Nat×W)→Nat→W→W
 | [],_,d=>d
 | x::l,t,d=>bif Nat.beq x.1 t then x.2 else lookT l t d
def Tm.get (tm:Tm) (t:Nat):W:=lookT tm.l t (.v (.c (.raw (tm.g t))))
def Tm.set (tm:Tm) (t:Nat) (x:W):Tm:=⟨(t,x)::tm.l,tm.g⟩
inductive Row where
 | cells (e:TypeId) (k:Nat) (cs:T C)
 | fn (f:Fn) (first caps:List W)
 | val (x:V)
 | loop (st:LoopState) (pending:Option Code) (nt:Nat) (tm:Tm) (params:List Tmp) (assign body:Code)
 | dead
 | map (k:IntKind) (es:List (Int×Value×Nat)) (clock:Nat)
structure Mem where
 S:T Row
 nx:Nat
 lo:Nat
inductive R1 where
 | no
 | ok (x:W) (m:Mem)
inductive R2 where
 | no
 | ok (tm:Tm) (m:Mem)
def ev (tm:Tm) (o:Operand):W :=
 match o with
 | .tmp t=>tm.get t
 | .const v=>.of v
 | .global g=>.v (.c (.raw (.pointer (some ⟨g,0,none⟩))))
 | .func f=>.v (.c (.raw (.func (.func f) #[] #[])))
def pureRun (P:Program) {α:Type}:Sem α→Option α
 | .pure a=>some a
 | .program k=>pureRun P (k P)
 | .mark _ k=>pureRun P k
 | _=>none
def Mem.new (m:Mem) (e:TypeId) (cs:List C):Mem×Nat:=(⟨m.S.set m.nx (.cells e cs.length (T.puts .e 0 cs)),Nat.succ m.nx,m.lo⟩,m.nx)
def genT {α:Type} (g:Nat→Option α) (d:Nat):Nat→Nat→T α:=Nat.rec (fun _ _=>.e) (fun _ ih a b=>.n (ih (Nat.mul 2 a) (Nat.add a b)) (g b) (ih (Nat.mul 2 a) (Nat.add (Nat.mul 2 a) b))) d
def allR (p:Nat→Bool) (n d:Nat):Nat→Bool:=Nat.rec (fun b=>Bool.rec (p b) true (Nat.ble n b)) (fun d ih b=>Bool.rec (Bool.rec false (ih (Nat.add b (Nat.pow 2 d))) (ih b)) true (Nat.ble n b)) d
def deep (n:Nat):Nat:=Nat.succ (Nat.log2 (Nat.succ n))
def Mem.newT (m:Mem) (e:TypeId) (k:Nat) (g:Nat→Option C):Mem:=⟨m.S.set m.nx (.cells e k (genT g (deep k) 1 0)),Nat.succ m.nx,m.lo⟩
def nthC (l:List C):Nat→Option C:=List.rec (fun _=>none) (fun x _ ih i=>Nat.rec (some x) (fun j _=>ih j) i) l
def Mem.add (m:Mem) (r:Row):Mem×Nat:=(⟨m.S.set m.nx r,Nat.succ m.nx,m.lo⟩,m.nx)
def lower (a b:Nat):Nat:=Bool.rec b a (Nat.ble a b)
def Mem.read (m:Mem) (r o n:Nat):Option (List C) :=
 match m.S.get r with
 | some (.cells _ k cs)=>bif Nat.ble (o+n) k then cs.list o n else none
 | _=>none
def oneB:C→Bool
 | .raw v=>v.oneCell'
 | _=>true
def V.good:V→Bool
 | .c x=>oneB x
 | .a _=>true
def Mem.write (m:Mem) (r o:Nat) (l:List C):Option Mem :=
 match m.S.get r with
 | some (.cells e k cs)=>bif Nat.ble (o+l.length) k && l.all oneB then some ⟨m.S.set r (.cells e k (cs.puts o l)),m.nx,lower r m.lo⟩ else none
 | _=>none
section
variable (P:Program) (K:Nat→Option (List Value))
def sizeOf? (t:TypeId):Option Nat:=(P.info? t).map (·.size)
def zero? (t:TypeId):Option (List C):=(P.info? t).bind fun i=>i.zero.map fun z=>(V.of z).cells
def aggB (t:TypeId):Option Bool:=match P.underlying t with
 | some (.struct _) | some (.array _ _)=>some true
 | some _=>some false
 | none=>none
def loadW (m:Mem) (t:TypeId) (x:W):Option W :=
 match x with
 | .v (.c (.raw (.pointer (some ⟨g,o,none⟩)))) =>
  match K g,aggB P t,sizeOf? P t with
  | some l,some false,some 1=>(l[o]?).map fun v=>.v (.c (.raw v))
  | some l,some true,some n=>bif Nat.beq o 0 && Nat.beq n l.length then some (.v (.a (l.map .raw))) else none
  | _,_,_=>none
 | .v (.c (.ptr r o)) =>
  match aggB P t with
  | some true=>match sizeOf? P t with
   | some n=>(m.read r o n).map fun l=>.v (.a l)
   | none=>none
  | some false=>match m.read r o 1 with
   | some [x]=>some (.v (.c x))
   | _=>none
  | none=>none
 | _=>none
def storeW (m:Mem) (t:TypeId) (p x:W):Option Mem :=
 match p,x with
 | .v (.c (.ptr r o)), .v x =>
  match sizeOf? P t with
  | some n=>bif Nat.beq x.cells.length n then m.write r o x.cells else none
  | none=>none
 | _,_=>none
def splice (cs:List C) (off:Nat) (l:List C):List C:=cs.take off++l++cs.drop (off+l.length)
def fillW (place:Nat→Option (Nat×Nat)) (cells:List C):List (Nat×W)→Option (List C)
 | []=>some cells
 | (i, .v x)::rest =>
  match place i with
  | none=>none
  | some (off,size) =>
   bif x.good && Nat.beq x.cells.length size && Nat.ble (off+size) cells.length then fillW place (splice cells off x.cells) rest else none
 | _=>none
def placeW (fields:Array Field) (i:Nat):Option (Nat×Nat):=match fields[i]? with
 | some f=>(sizeOf? P f.type).map fun s=>(f.offset,s)
 | none=>none
def buildW (t:TypeId) (parts:List (Nat×W)):Option W :=
 match zero? P t,P.underlying t with
 | some z,some (.struct fields) =>
  bif !(fields.toList.all fun f=>(sizeOf? P f.type).isSome) then none else
  (fillW (placeW P fields) z parts).map fun l=>.v (.a l)
 | some z,some (.array _ e)=>match sizeOf? P e with
  | some s=>(fillW (fun i=>some (i*s,s)) z parts).map fun l=>.v (.a l)
  | none=>none
 | _,_=>none
def reps (z:List C):Nat→List C
 | 0=>[]
 | n+1=>z++reps z n
def intW:W→Option Int
 | .v (.c (.raw (.int _ n)))=>some n
 | _=>none
def natW (x:W):Option Nat:=match intW x with
 | some (.ofNat n)=>some n
 | _=>none
def sliceTy (t:TypeId):Option (TypeId×Nat):=match P.underlying t with
 | some (.slice e)=>(sizeOf? P e).map fun s=>(e,s)
 | _=>none
def one (x:C):W := .v (.c x)
def zerosW (e s n:Nat):Option (List C) :=
 bif Nat.beq (n*s) 0 then some [] else match zero? P e with
  | some z=>bif Nat.beq z.length s then some (reps z n) else none
  | none=>none
def buildSliceW (m:Mem) (t:TypeId) (len:Nat) (parts:List (Nat×W)):R1 :=
 match sliceTy P t with
 | some (e,s)=>bif Nat.ble (len*s) 16777216 then match zerosW P e s len with
   | some z=>match fillW (fun i=>some (i*s,s)) z parts with
    | some l=>.ok (one (.sl m.nx 0 len s (some len))) (m.new e l).1
    | none=>.no
   | none=>.no
  else .no
 | none=>.no
def bytes? (t:TypeId):Nat:=match P.info? t with
 | some i=>i.bytes
 | none=>281474976710657
def zeroW (e s:Nat):Option (List C):=match zero? P e with
 | some z=>bif Nat.beq z.length s then some z else none
 | none=>none
def makeSliceW (m:Mem) (t:TypeId) (l c:W):R1 :=
 match sliceTy P t,natW l,natW c with
 | some (e,s),some l,some c =>
  bif Nat.ble l c && Nat.ble c 65536 && Nat.ble (bytes? P e*c) 281474976710656 then
   bif Nat.blt 512 (c*s) then match zeroW P e s with
    | some z=>.ok (one (.sl m.nx 0 l s (some c))) (m.newT e (Nat.mul c s) fun i=>nthC z (Nat.mod i s))
    | none=>.no
   else match zerosW P e s c with
   | some z=>.ok (one (.sl m.nx 0 l s (some c))) (m.new e z).1
   | none=>.no
  else .no
 | _,_,_=>.no
def fits (m:Mem) (r k:Nat):Bool:=match m.S.get r with
 | some (.cells _ q _)=>Nat.ble k q
 | _=>false
def zeroIs (e z:Nat):Bool:=match zero? P e with
 | some l=>Nat.beq l.length z
 | none=>false
def srcW (m:Mem) (z:Nat) (t:TypeId) (x:W):Option (Nat×List C) :=
 match P.underlying t,x with
 | some (.slice _), .v (.c (.sl r o n z' _))=>bif Nat.beq z z' then match m.read r o (n*z) with
   | some l=>bif l.all oneB then some (n,l) else none
   | none=>none
  else none
 | some (.slice _), .v (.c (.em ..))=>some (0,[])
 | some (.slice _), .v (.c (.raw (.slice none 0 _)))=>some (0,[])
 | some .string, .v (.c (.raw (.string b)))=>bif Nat.beq z 1 then some (b.size,b.data.toList.map fun x=>.raw (.int .u8 x.toNat)) else none
 | _,_=>none
def appN (m:Mem) (e z n:Nat) (new:List C):R1 := .ok (one (.sl m.nx 0 n z none)) (m.new e new).1
def appC (m:Mem) (e z r o k c n:Nat) (new:List C):R1 :=
 bif Nat.ble (k+n) c then match m.write r (o+k*z) new with
  | some m=>.ok (one (.sl r o (k+n) z (some c))) m
  | none=>.no
 else match m.read r o (k*z) with
  | some old=>appN m e z (k+n) (old++new)
  | none=>.no
def appU (m:Mem) (e z r o k n:Nat) (new:List C):R1 :=
 match m.S.get r with
 | some (.cells e' q cs) =>
  bif Nat.beq e e' && Nat.ble (o+k*z) q && new.all oneB then
   bif Nat.beq o 0 then .ok (one (.sl m.nx 0 (k+n) z none)) ⟨(m.S.set r .dead).set m.nx (.cells e (k*z+new.length) (cs.puts (k*z) new)),Nat.succ m.nx,lower r m.lo⟩
   else match cs.list o (k*z) with
    | some old=>.ok (one (.sl m.nx 0 (k+n) z none)) ⟨(m.S.set r .dead).set m.nx (.cells e (k*z+new.length) (T.puts .e 0 (old++new))),Nat.succ m.nx,lower r m.lo⟩
    | none=>.no
  else .no
 | _=>.no
def app0W (m:Mem) (sT xT:TypeId) (s x:W):R1 :=
 match sliceTy P sT with
 | none=>.no
 | some (e,z)=>match srcW P m z xT x with
  | none=>.no
  | some (n,new)=>match s with
   | .v (.c (.raw (.slice none 0 0)))=>bif Nat.beq n 0 then .ok s m else bif Nat.ble n 1048576 && Nat.ble (n*bytes? P e) 140737488355328 && Nat.blt 0 z && zeroIs P e z then appN m e z n new else .no
   | .v (.c (.sl r o k z' cap)) =>
    bif Nat.beq z z' && Nat.blt 0 z && Nat.ble (k+n) 1048576 && Nat.ble ((k+n)*bytes? P e) 140737488355328 && zeroIs P e z then
     match cap with
     | some c=>bif Nat.beq n 0 then (bif Nat.ble k c then .ok s m else .no) else appC m e z r o k c n new
     | none=>bif Nat.beq n 0 then (bif fits m r (o+k*z) then .ok s m else .no) else appU m e z r o k n new
    else .no
   | _=>.no
def makeNil (m:Mem) (sT xT:TypeId) (n:Int):R1 :=
 match sliceTy P sT,P.underlying xT,n with
 | some (e,z),some (.int _), .ofNat n =>
  bif Nat.blt 0 n && Nat.blt 0 z && Nat.ble n 65536 && Nat.ble (n*bytes? P e) 140737488355328 then
   match zero? P e with
   | some c=>bif Nat.beq c.length z then appN m e z n (reps c n) else .no
   | none=>.no
  else .no
 | _,_,_=>.no
def oneO (x:Option C):Bool:=Option.rec false oneB x
def viewW (m:Mem) (r o k:Nat):Option (Nat→Option C):=match m.S.get r with
 | some (.cells _ q cs)=>bif Nat.ble (o+k) q && allR (fun j=>oneO (cs.get (Nat.add o j))) k (deep k) 0 then some (fun j=>cs.get (Nat.add o j)) else none
 | _=>none
def bigW (m:Mem) (sT xT:TypeId) (s x:W):R1 :=
 match s,x with
 | .v (.c (.sl r o k z' (some c))), .v (.c (.sl r2 o2 n z2 _)) =>
  bif Nat.beq c 0 && Nat.beq k 0 && Nat.blt 512 (n*z2) then match sliceTy P sT,P.underlying xT with
   | some (e,z),some (.slice _) =>
    bif Nat.beq z z' && Nat.beq z z2 && Nat.ble n 1048576 && Nat.ble (n*bytes? P e) 140737488355328 && Nat.blt 0 z && zeroIs P e z then
     match viewW m r2 o2 (Nat.mul n z2) with
     | some g=>.ok (one (.sl m.nx 0 n z none)) (m.newT e (Nat.mul n z2) g)
     | none=>.no
    else .no
   | _,_=>.no
  else .no
 | _,_=>.no
def app1W (m:Mem) (sT xT:TypeId) (s x:W):R1 :=
 match s,x with
 | .v (.c (.raw (.slice none 0 0))), .v (.c (.raw (.int _ n)))=>makeNil P m sT xT n
 | s,x=>app0W P m sT xT s x
def appendW (m:Mem) (sT xT:TypeId) (s x:W):R1 :=
 match bigW P m sT xT s x with
 | .ok y m=>.ok y m
 | .no=>app1W P m sT xT s x
def lenW:W→Option Nat
 | .v (.c (.sl _ _ n _ _))=>some n
 | .v (.c (.em ..))=>some 0
 | .v (.c (.raw (.slice _ n _)))=>some n
 | .v (.c (.raw (.string s)))=>some s.size
 | _=>none
def firstW (m:Mem) (z n:Nat):W→Option (List C)
 | .v (.c (.sl r o k z' _))=>bif Nat.beq z z' && Nat.ble n k then m.read r o (n*z) else none
 | .v (.c (.raw (.string b)))=>bif Nat.beq z 1 && Nat.ble n b.size then some ((b.extract 0 n).data.toList.map fun x=>.raw (.int .u8 x.toNat)) else none
 | _=>none
def copyW (m:Mem) (dT:TypeId) (d x:W):R1 :=
 match sliceTy P dT,d,lenW x with
 | some (_,z), .v (.c (.sl r o a z' _)),some b =>
  let n:=Nat.min b a
  bif Nat.beq n 0 then .ok (one (.raw (goInt n))) m else
  bif Nat.beq z z' then match firstW m z n x with
   | some l=>match m.write r o l with
    | some m=>.ok (one (.raw (goInt n))) m
    | none=>.no
   | none=>.no
  else .no
 | _,_,_=>.no
def mapTy (t:TypeId):Option (IntKind×TypeId):=match P.underlying t with
 | some (.map kt et)=>match P.underlying kt with
  | some (.int k)=>some (k,et)
  | _=>none
 | _=>none
def findM (n:Int):List (Int×Value×Nat)→Option (Value×Nat)
 | []=>none
 | e::es=>bif e.1 == n then some e.2 else findM n es
def setM (b:Nat) (v:Value):List (Int×Value×Nat)→Option (List (Int×Value×Nat))
 | []=>none
 | e::es=>bif Nat.beq e.2.2 b then some ((e.1,v,b)::es) else match setM b v es with
  | some es=>some (e::es)
  | none=>none
def zeroV (t:TypeId):Option Value:=(P.info? t).bind (·.zero)
def makeMapW (m:Mem) (t:TypeId) (r:Option Operand):R1:=match mapTy P t,r with
 | some (k,_),none=>.ok (.v (.c (.mp m.nx))) (m.add (.map k [] 0)).1
 | _,_=>.no
def rowM (m:Mem) (k:IntKind) (x i:W):Option (Nat×List (Int×Value×Nat)×Nat×Int):=match x,i with
 | .v (.c (.mp r)), .v (.c (.raw (.int k' n)))=>bif k == k' then match m.S.get r with
   | some (.map kk es c)=>bif k == kk then some (r,es,c,n) else none
   | _=>none
  else none
 | _,_=>none
def lookupW (m:Mem) (t:TypeId) (x i:W) (ok:Bool):Option W:=match mapTy P t with
 | some (k,et)=>match rowM m k x i with
  | some (_,es,_,n)=>match findM n es,zeroV P et with
   | some (v,_),_=>some (bif ok then .t [V.of v, .c (.raw (.bool true))] else W.of v)
   | none,some z=>some (bif ok then .t [V.of z, .c (.raw (.bool false))] else W.of z)
   | none,none=>none
  | none=>none
 | none=>none
def mapEntryW (m:Mem) (t:TypeId) (x i:W):R1:=match mapTy P t with
 | some (k,et)=>match rowM m k x i with
  | some (r,es,c,n)=>match findM n es with
   | some (v,b)=>.ok (.t [V.of v, .c (.raw (goInt b))]) ⟨m.S.set r (.map k es c),m.nx,lower r m.lo⟩
   | none=>match zeroV P et with
    | some z=>.ok (.t [V.of z, .c (.raw (goInt c))]) ⟨m.S.set r (.map k (es++[(n,z,c)]) (c+1)),m.nx,lower r m.lo⟩
    | none=>.no
  | none=>.no
 | none=>.no
def entryStoreW (m:Mem) (x b v:W):R1:=match x,natW b,v.raw? with
 | .v (.c (.mp r)),some b,some v=>match m.S.get r with
  | some (.map k es c)=>match setM b v es with
   | some es=>.ok undefW ⟨m.S.set r (.map k es c),m.nx,lower r m.lo⟩
   | none=>.no
  | _=>.no
 | _,_,_=>.no
def setK (n:Int) (v:Value):List (Int×Value×Nat)→Option (List (Int×Value×Nat))
 | []=>none
 | e::es=>bif e.1 == n then some ((e.1,v,e.2.2)::es) else match setK n v es with
  | some es=>some (e::es)
  | none=>none
def mapUpdateW (m:Mem) (t:TypeId) (x i v:W):R1:=match mapTy P t with
 | some (k,_)=>match rowM m k x i,v.raw? with
  | some (r,es,c,n),some v=>match setK n v es with
   | some es=>.ok undefW ⟨m.S.set r (.map k es c),m.nx,lower r m.lo⟩
   | none=>.ok undefW ⟨m.S.set r (.map k (es++[(n,v,c)]) (c+1)),m.nx,lower r m.lo⟩
  | _,_=>.no
 | none=>.no
def clearMapW (m:Mem) (r:Nat):R1:=match m.S.get r with
 | some (.map k _ c)=>.ok undefW ⟨m.S.set r (.map k [] c),m.nx,lower r m.lo⟩
 | _=>.no
def clearW (m:Mem) (t:TypeId) (x:W):R1 :=
 match sliceTy P t,x with
 | some (e,z), .v (.c (.sl r o n z' _)) =>
  bif Nat.beq n 0 then .ok undefW m else
  bif Nat.beq z z' && Nat.blt 0 z && zeroIs P e z then
   match zerosW P e z n with
   | some c=>match m.write r o c with
    | some m=>.ok undefW m
    | none=>.no
   | none=>.no
  else .no
 | some _, .v (.c (.raw (.slice none _ _)))=>.ok undefW m
 | some _, .v (.c (.em ..))=>.ok undefW m
 | _,_=>.no
def clrW (m:Mem) (t:TypeId) (x:W):R1:=match x with
 | .v (.c (.mp r))=>bif (P.underlying t).isSome then clearMapW m r else .no
 | x=>clearW P m t x
def bound (x:Option W) (d:Nat):Option Nat:=match x with
 | none=>some d
 | some w=>natW w
def slC (r o n z c:Nat) (lo hi mx:Option W):Option W :=
 match bound mx c,bound lo 0,bound hi n with
 | some m,some l,some h=>bif Nat.ble l h && Nat.ble h m && Nat.ble m c && (mx.isNone || hi.isSome) then some (one (.sl r (bif Nat.beq m l then o else o+l*z) (h-l) z (some (m-l)))) else none
 | _,_,_=>none
def slN (r o n z:Nat) (lo hi mx:Option W):Option W :=
 match mx with
 | none=>match bound lo 0,bound hi n with
  | some l,some h =>
   bif Nat.ble l h && Nat.ble h n && Nat.blt 0 z then
    bif Nat.blt l n then some (one (.sl r (o+l*z) (h-l) z none))
    else bif Nat.beq l 0 then some (one (.sl r o 0 z none)) else some (one (.em r o (o+l*z) z))
   else none
  | _,_=>none
 | some m=>match natW m,bound lo 0,bound hi n with
  | some m,some l,some h=>bif Nat.ble l h && Nat.ble h m && Nat.ble m n && hi.isSome && Nat.blt 0 z then some (one (.sl r (bif Nat.beq m l then o else o+l*z) (h-l) z (some (m-l)))) else none
  | _,_,_=>none
def slX (m:Mem) (r o n z:Nat) (lo hi mx:Option W):Option W :=
 match mx,bound lo 0,bound hi n with
 | none,some l,some h=>bif Nat.blt n h then (bif Nat.blt l h && Nat.blt 0 z && fits m r (o+h*z) then some (one (.sl r (o+l*z) (h-l) z none)) else none) else slN r o n z lo hi mx
 | _,_,_=>slN r o n z lo hi mx
def slP (t:TypeId) (r o:Nat) (lo hi mx:Option W):Option W :=
 match P.underlying t,mx with
 | some (.array n e),none=>match sizeOf? P e,bound lo 0,bound hi n with
  | some z,some l,some h=>bif Nat.ble l h && Nat.ble h n then some (one (.sl r (bif Nat.beq n l then o else o+l*z) (h-l) z (some (n-l)))) else none
  | _,_,_=>none
 | _,_=>none
def sizeIs (t:TypeId) (z:Nat):Bool:=match sliceTy P t with
 | some (_,z')=>Nat.beq z z'
 | none=>false
def slE (r p o z:Nat) (lo hi mx:Option W):Option W:=match mx,bound lo 0,bound hi 0 with
 | none,some 0,some 0=>some (one (.em r p o z))
 | _,_,_=>none
def slZ (t:TypeId) (lo hi mx:Option W):Option W:=match sliceTy P t,mx,bound lo 0,bound hi 0 with
 | some _,none,some 0,some 0=>some (one (.raw (.slice none 0 0)))
 | _,_,_,_=>none
def sliceW (m:Mem) (t:TypeId) (x:W) (lo hi mx:Option W):Option W :=
 match x with
 | .v (.c (.raw (.slice none 0 0)))=>slZ P t lo hi mx
 | .v (.c (.ptr r o))=>slP P t r o lo hi mx
 | .v (.c (.em r p o z))=>bif sizeIs P t z then slE r p o z lo hi mx else none
 | .v (.c (.sl r o n z (some c)))=>bif sizeIs P t z && Nat.ble n c then slC r o n z c lo hi mx else none
 | .v (.c (.sl r o n z none))=>bif sizeIs P t z && fits m r (o+n*z) then slX m r o n z lo hi mx else none
 | _=>none
def indexAddrW (t:TypeId) (x i:W):Option W :=
 match x with
 | .v (.c (.ptr r o))=>match natW i,P.underlying t with
  | some i,some (.array n e)=>match sizeOf? P e with
   | some z=>bif Nat.blt i n then some (one (.ptr r (o+i*z))) else none
   | none=>none
  | _,_=>none
 | .v (.c (.sl r o n z _))=>match natW i with
  | some i=>bif sizeIs P t z && Nat.blt i n then some (one (.ptr r (o+i*z))) else none
  | none=>none
 | _=>none
def partW (t:TypeId) (cs:List C) (off:Nat):Option W :=
 match aggB P t,sizeOf? P t with
 | some true,some n=>some (.v (.a ((cs.drop off).take n)))
 | some false,_=>match cs[off]? with
  | some x=>some (one x)
  | none=>none
 | _,_=>none
def fieldW (t:TypeId) (x:W) (f:Nat):Option W :=
 match x,P.underlying t with
 | .v (.a cs),some (.struct fields)=>match fields[f]? with
  | some f=>partW P f.type cs f.offset
  | none=>none
 | _,_=>none
def fieldAddrW (t:TypeId) (x:W) (f:Nat):Option W :=
 match x,P.underlying t with
 | .v (.c (.ptr r o)),some (.struct fields)=>match fields[f]? with
  | some f=>match sizeOf? P f.type with
   | some 0=>none
   | some _=>some (one (.ptr r (o+f.offset)))
   | none=>none
  | none=>none
 | _,_=>none
def indexW (t:TypeId) (x i:W):Option W :=
 match x,natW i,P.underlying t with
 | .v (.a cs),some i,some (.array n e)=>match sizeOf? P e with
  | some z=>bif Nat.blt i n then partW P e cs (i*z) else none
  | none=>none
 | .v (.c (.raw (.string s))),some i,some .string=>match s[i]? with
  | some b=>some (one (.raw (.int .u8 b.toNat)))
  | none=>none
 | _,_,_=>none
def plainFn (m:Mem) (i:Nat):Bool:=match m.S.get i with
 | some (.fn (.func _) _ _) | some (.loop ..)=>true
 | _=>false
def eqW (m:Mem) (t:TypeId) (x y:C):Option Bool :=
 match P.underlying t,x,y with
 | some (.pointer e), .ptr r o, .ptr r' o'=>match sizeOf? P e with
  | some (_+1)=>bif Nat.beq r r' then some (Nat.beq o o') else none
  | _=>none
 | some (.pointer _), .ptr _ _, .raw (.pointer none)=>some false
 | some (.pointer _), .raw (.pointer none), .ptr _ _=>some false
 | some (.slice _), .sl .., .raw (.slice none _ _)=>some false
 | some (.slice _), .em .., .raw (.slice none _ _)=>some false
 | some (.slice _), .raw (.slice none _ _), .sl ..=>some false
 | some (.slice _), .raw (.slice none _ _), .em ..=>some false
 | some (.func _ _ _), .clo i, .raw .nilFunc=>bif plainFn m i then some false else none
 | some (.func _ _ _), .raw .nilFunc, .clo i=>bif plainFn m i then some false else none
 | some (.interface _), .ifc .., .raw .nilIface=>some false
 | some (.interface _), .raw .nilIface, .ifc ..=>some false
 | _,_,_=>none
def binW (m:Mem) (op:BinOp) (t:TypeId) (x y:Operand) (a b:W):Option W :=
 match a.raw?,b.raw? with
 | some u,some v=>(pureRun P (do eqGuard op t x y u v;binOp op t u v)).map W.of
 | _,_=>match op,a,b with
  | .eql, .v (.c a), .v (.c b)=>(eqW P m t a b).map fun r=>one (.raw (.bool r))
  | .neq, .v (.c a), .v (.c b)=>(eqW P m t a b).map fun r=>one (.raw (.bool !r))
  | _,_,_=>none
def retW (m:Mem) (s:Tm):List ResultVar→Option (List V)
 | []=>some []
 | .tmp t::l=>match s.get t,retW m s l with
  | .v x,some l=>some (x::l)
  | _,_=>none
 | .cell a t::l=>match loadW P K m t (s.get a),retW m s l with
  | some (.v x),some l=>some (x::l)
  | _,_=>none
def ret1:List V→W
 | [x]=>.v x
 | l=>.t l
def tmpsW:Nat→List W→Tm→Tm
 | _,[],t=>t
 | i,x::l,t=>tmpsW (i+1) l (t.set i x)
end
section
variable (P:Program) (K:Nat→Option (List Value))
def followW:List FieldStep→TypeId→W→Option (TypeId×W)
 | [],t,x=>some (t,x)
 | s::l,_,x=>bif s.deref then none else match P.underlying s.struct,x with
  | some (.struct fields), .v (.a cs)=>match fields[s.index]? with
   | some f=>match partW P f.type cs f.offset with
    | some y=>followW l f.type y
    | none=>none
   | none=>none
  | _,_=>none
def purW (x:Option W) (m:Mem):R1:=Option.rec .no (fun x=>.ok x m) x
def pureB (b:Builtin):Bool:=match b with
 | .len | .cap | .min | .max=>true
 | _=>false
def rawB (b:Builtin) (ts:Array TypeId) (raws:Option (List Value)) (ty:TypeId):Option W:=match raws with
 | some vs=>bif pureB b then match pureRun P (builtin b ts ty #[] vs.toArray) with
   | some (.value v)=>some (W.of v)
   | _=>none
  else none
 | none=>none
def lenOf (t:TypeId) (x:W):Option Nat:=match x,P.underlying t with
 | .v (.c (.sl _ _ n _ _)),some (.slice _)=>some n
 | .v (.c (.em ..)),some (.slice _)=>some 0
 | .v (.c (.ptr ..)),some (.pointer a)=>match P.underlying a with
  | some (.array n _)=>some n
  | _=>none
 | .v (.a _),some (.array n _)=>some n
 | _,_=>none
def capOf (t:TypeId) (x:W):Option Nat:=match x,P.underlying t with
 | .v (.c (.sl _ _ _ _ (some n))),some (.slice _)=>some n
 | _,_=>none
def intOr (n:Option Nat) (b:Builtin) (ts:Array TypeId) (raws:Option (List Value)) (ty:TypeId):Option W:=match n with
 | some n=>some (one (.raw (goInt n)))
 | none=>rawB P b ts raws ty
def builtinW (b:Builtin) (ts:Array TypeId) (args:List W) (raws:Option (List Value)) (ty:TypeId) (m:Mem):R1 :=
 match b with
 | .append=>match ts.toList,args with
  | [t,u],[s,x]=>appendW P m t u s x
  | _,_=>.no
 | .copy=>match ts.toList,args with
  | [t,_],[d,x]=>copyW P m t d x
  | _,_=>.no
 | .clear=>match ts.toList,args with
  | [t],[x]=>clrW P m t x
  | _,_=>.no
 | .len=>match ts.toList,args with
  | [t],[x]=>purW (intOr P (lenOf P t x) .len ts raws ty) m
  | _,_=>.no
 | .cap=>match ts.toList,args with
  | [t],[x]=>purW (intOr P (capOf P t x) .cap ts raws ty) m
  | _,_=>.no
 | b=>purW (rawB P b ts raws ty) m
def prun (P:Program) (x:Sem Value):Option W:=match pureRun P x with
 | some v=>some (W.of v)
 | none=>none
def pickW (tm:Tm) (c a b:Operand):Option W:=match ev tm c with
 | .v (.c (.raw (.bool c)))=>some (bif c then ev tm a else ev tm b)
 | _=>none
def newW (m:Mem) (e:TypeId) (l:List C):R1 := .ok (one (.ptr m.nx 0)) (m.new e l).1
def allocW (m:Mem) (e:TypeId):R1:=match zero? P e with
 | some z=>newW m e z
 | none=>.no
def boxW (m:Mem) (e:TypeId) (x:W):R1:=match x with
 | .v x=>Bool.rec .no (newW m e x.cells) x.good
 | _=>.no
def stW (m:Mem) (t:TypeId) (a x:W):R1:=match storeW P m t a x with
 | some m=>.ok undefW m
 | none=>.no
def nilCheckW (m:Mem) (x:W):Option W:=match x with
 | .v (.c (.ptr r o))=>some (one (.ptr r o))
 | .v (.c (.ifc t i))=>some (one (.ifc t i))
 | .v (.c (.clo i))=>bif plainFn m i then some (one (.clo i)) else none
 | .v (.c (.raw (.func (.func f) a b)))=>some (one (.raw (.func (.func f) a b)))
 | .v (.c (.raw (.pointer (some a))))=>some (one (.raw (.pointer (some a))))
 | _=>none
def fastBin (op:BinOp) (k:IntKind) (a b:Int):Option Value:=match op with
 | .add=>some (.int k (k.wrap (a+b)))
 | .sub=>some (.int k (k.wrap (a-b)))
 | .eql=>some (.bool (a == b))
 | .neq=>some (.bool (a != b))
 | .lss=>some (.bool (decide (a<b)))
 | .leq=>some (.bool (decide (a≤b)))
 | .gtr=>some (.bool (decide (a>b)))
 | .geq=>some (.bool (decide (a≥b)))
 | _=>none
def slowBin (m:Mem) (op:BinOp) (t:TypeId) (x y:Operand) (a b:W):Option W:=binW P m op t x y a b
def bin2 (m:Mem) (op:BinOp) (t:TypeId) (x y:Operand) (a b:W):Option W:=match a,b with
 | .v (.c (.raw (.int k u))), .v (.c (.raw (.int k' v)))=>bif (k == k') then match fastBin op k u v with
   | some r=>some (one (.raw r))
   | none=>slowBin P m op t x y a b
  else slowBin P m op t x y a b
 | _,_=>slowBin P m op t x y a b
def unW (op:UnOp) (x:W):Option W:=match x.raw? with
 | some v=>prun P (Op.unary op v)
 | none=>none
def convW (a b:TypeId) (x:W):Option W:=match x.raw? with
 | some v=>prun P (convert a b v)
 | none=>none
def bytesW:List C→Option (List Int)
 | []=>some []
 | .raw (.int .u8 n)::l=>match bytesW l with
  | some ns=>some (n::ns)
  | none=>none
 | _=>none
def strB (ns:List Int):ByteArray:=⟨⟨ns.map fun n=>UInt8.ofNat n.toNat⟩⟩
def strW (m:Mem) (a b:TypeId) (r o n:Nat):Option W:=match P.underlying a,P.underlying b with
 | some (.slice e),some .string=>match P.underlying e with
  | some (.int .u8)=>match m.read r o n with
   | some l=>match bytesW l with
    | some ns=>some (one (.raw (.string (strB ns))))
    | none=>none
   | none=>none
  | _=>none
 | _,_=>none
def emW (a b:TypeId):Option W:=match P.underlying a,P.underlying b with
 | some (.slice e),some .string=>match P.underlying e with
  | some (.int .u8)=>some (one (.raw (.string (strB []))))
  | _=>none
 | _,_=>none
def convM (m:Mem) (a b:TypeId) (x:W):Option W:=match x with
 | .v (.c (.sl r o n _ _))=>strW P m a b r o n
 | .v (.c (.em ..))=>emW P a b
 | x=>convW P a b x
def ifaceW (m:Mem) (t:TypeId) (x:W):R1:=match P.underlying t,x with
 | none,_ | some (.interface _),_=>.no
 | _, .v (.c (.raw v))=>.ok (one (.raw (.iface t v))) m
 | _, .v x=>.ok (one (.ifc t m.nx)) (m.add (.val x)).1
 | _,_=>.no
def assertW (m:Mem) (x:W) (t:TypeId) (ok:Bool):Option W:=match P.underlying t,x with
 | none,_ | some (.interface _),_=>none
 | _, .v (.c (.raw (.iface t' v)))=>bif Nat.beq t t' then some (bif ok then .t [V.of v, .c (.raw (.bool true))] else W.of v) else none
 | _, .v (.c (.ifc t' i))=>bif Nat.beq t t' then match m.S.get i with
   | some (.val v)=>some (bif ok then .t [v, .c (.raw (.bool true))] else .v v)
   | _=>none
  else none
 | _,_=>none
def funcW (tm:Tm) (m:Mem) (fn:Fn) (first caps:Array Operand):R1 := .ok (one (.clo m.nx)) (m.add (.fn fn (first.toList.map (ev tm)) (caps.toList.map (ev tm)))).1
def rawO (tm:Tm) (x:Option Operand):Option (Option Value):=match x with
 | some x=>match (ev tm x).raw? with
  | some v=>some (some v)
  | none=>none
 | none=>some none
def sliceOp (tm:Tm) (m:Mem) (t:TypeId) (x:W) (lo hi mx:Option Operand):Option W:=match x with
 | .v (.c (.raw (.string v)))=>match rawO tm lo,rawO tm hi,mx with
  | some l,some h,none=>prun P (Instr.sliceAt t (.string v) l h none)
  | _,_,_=>none
 | x=>sliceW P m t x (lo.map (ev tm)) (hi.map (ev tm)) (mx.map (ev tm))
def indexAddrOp (t:TypeId) (x i:W):Option W:=match x with
 | .v (.c (.raw u))=>match i.raw? with
  | some v=>prun P (Instr.indexAt t u v)
  | none=>none
 | x=>indexAddrW P t x i
def extractW (x:W) (i:Nat):Option W:=match x with
 | .t l=>match l[i]? with
  | some x=>some (.v x)
  | none=>none
 | _=>none
def callOp (tm:Tm) (m:Mem) (c:Call) (ty:TypeId):R1 :=
 match c.callee with
 | .builtin b=>let args:=c.args.toList.map (ev tm);builtinW P b c.argTypes args (args.mapM W.raw?) ty m
 | _=>.no
def evs (tm:Tm) (l:Array (Nat×Operand)):List (Nat×W):=l.toList.map fun (i,x)=>(i,ev tm x)
def opW (o:Op) (ty:TypeId) (tm:Tm) (m:Mem):R1 :=
 match o with
 | .move x | .assign x=>.ok (ev tm x) m
 | .pick c a b=>purW (pickW tm c a b) m
 | .alloc e=>allocW P m e
 | .box e x=>boxW m e (ev tm x)
 | .build t parts=>purW (buildW P t (evs tm parts)) m
 | .buildSlice t len parts=>buildSliceW P m t len (evs tm parts)
 | .load t a=>purW (loadW P K m t (ev tm a)) m
 | .store t a x=>stW P m t (ev tm a) (ev tm x)
 | .nilCheck x=>purW (nilCheckW m (ev tm x)) m
 | .binOp op t x y _=>purW (bin2 P m op t x y (ev tm x) (ev tm y)) m
 | .unOp op _ x=>purW (unW P op (ev tm x)) m
 | .convert a b x=>purW (convM P m a b (ev tm x)) m
 | .makeInterface t x=>ifaceW P m t (ev tm x)
 | .typeAssert x _ t ok=>purW (assertW P m (ev tm x) t ok) m
 | .makeFunc fn first caps=>funcW tm m fn first caps
 | .makeSlice t l c=>makeSliceW P m t (ev tm l) (ev tm c)
 | .slice t x lo hi mx=>purW (sliceOp P tm m t (ev tm x) lo hi mx) m
 | .fieldAddr t x f=>purW (fieldAddrW P t (ev tm x) f) m
 | .field t x f=>purW (fieldW P t (ev tm x) f) m
 | .indexAddr t x i=>purW (indexAddrOp P t (ev tm x) (ev tm i)) m
 | .index t x i=>purW (indexW P t (ev tm x) (ev tm i)) m
 | .extract t i=>purW (extractW (ev tm t) i) m
 | .makeMap t r=>makeMapW P m t r
 | .lookup t x i ok=>purW (lookupW P m t (ev tm x) (ev tm i) ok) m
 | .mapUpdate t x i v=>mapUpdateW P m t (ev tm x) (ev tm i) (ev tm v)
 | .mapEntry t x i=>mapEntryW P m t (ev tm x) (ev tm i)
 | .entryStore _ x b v=>entryStoreW m (ev tm x) (ev tm b) (ev tm v)
 | .call c=>callOp P tm m c ty
 | _=>.no
def isB (w:W) (b:Bool):Bool:=match w with
 | .v (.c (.raw (.bool c)))=>c == b
 | _=>false
def openB (all:Array Oper) (tm:Tm) (o:Oper):Bool:=match o.guard with
 | some g=>match (all[g.1]?).bind (·.dst) with
  | some d=>match tm.get d with
   | .v (.c (.sb _))=>true
   | _=>false
  | none=>false
 | none=>false
def wantW (ops:Array Oper) (tm:Tm) (o:Oper):Bool:=Option.rec true (fun g=>match (ops[g.1]?).bind (·.dst) with
 | some d=>isB (tm.get d) g.2
 | none=>false) o.guard
def putR (nt:Nat) (tm:Tm) (d:Option Tmp) (r:R1):R2 :=
 R1.rec .no (fun x m=>Option.rec (.ok tm m) (fun d=>Bool.rec .no (.ok (tm.set d x) m) (Nat.blt d nt)) d) r
end
end Go.Vc

namespace Go.Vc
section
variable {α:Type}
theorem brec {β:Type} (b:Bool) (x y:β):(Bool.rec y x b:β)=if b=true then x else y:=by cases b <;> rfl
theorem T.get_e (i:Nat):(T.e:T α).get i=none:=rfl
theorem T.get_n (l r:T α) (v:Option α) (i:Nat):(T.n l v r).get i=if i=0 then v else if i % 2=1 then l.get (i / 2) else r.get (i / 2-1):=by
 show (Bool.rec (Bool.rec (r.get (Nat.sub (Nat.div i 2) 1)) (l.get (Nat.div i 2)) (Nat.beq (Nat.mod i 2) 1)) v (Nat.beq i 0):Option α)=_
 rw [brec,brec]
 simp only [Nat.beq_eq]
 rfl
theorem T.lone_s (x:Option α) (f i:Nat):T.lone x (f+1) i=if i=0 then .n .e x .e else if i % 2=1 then .n (T.lone x f (i / 2)) none .e else .n .e none (T.lone x f (i / 2-1)):=by
 show (Bool.rec (Bool.rec (.n .e none (T.lone x f (Nat.sub (Nat.div i 2) 1))) (.n (T.lone x f (Nat.div i 2)) none .e) (Nat.beq (Nat.mod i 2) 1)) (.n .e x .e) (Nat.beq i 0):T α)=_
 rw [brec,brec]
 simp only [Nat.beq_eq]
 rfl
theorem T.put_e (x:Option α) (i:Nat):T.put x .e i=T.lone x (i+1) i:=rfl
theorem T.put_n (x:Option α) (l r:T α) (v:Option α) (i:Nat):T.put x (.n l v r) i=if i=0 then .n l x r else if i % 2=1 then .n (T.put x l (i / 2)) v r else .n l v (T.put x r (i / 2-1)):=by
 show (Bool.rec (Bool.rec (.n l v (T.put x r (Nat.sub (Nat.div i 2) 1))) (.n (T.put x l (Nat.div i 2)) v r) (Nat.beq (Nat.mod i 2) 1)) (.n l x r) (Nat.beq i 0):T α)=_
 rw [brec,brec]
 simp only [Nat.beq_eq]
 rfl
theorem T.get_lone (x:Option α):∀ (f i j:Nat),i<f→(T.lone x f i).get j=if j=i then x else none:=by
 intro f
 induction f with
 | zero=>intro i j h;omega
 | succ f ih =>
  intro i j h
  rw [T.lone_s]
  split
  ·rename_i h0;subst h0
   rw [T.get_n];split
   ·rename_i h1;simp
   ·rename_i h1;simp [T.get_e]
  ·split
   ·rename_i h0 h1
    rw [T.get_n,ih _ _ (by omega),T.get_e]
    split
    ·rename_i h2;rw [if_neg (by omega)]
    ·split
     ·rename_i h2 h3
      by_cases h4:j=i
      ·rw [if_pos (by omega),if_pos h4]
      ·rw [if_neg (by omega),if_neg h4]
     ·rw [if_neg (by omega)]
   ·rename_i h0 h1
    rw [T.get_n,ih _ _ (by omega),T.get_e]
    split
    ·rename_i h2;rw [if_neg (by omega)]
    ·split
     ·rw [if_neg (by omega)]
     ·rename_i h2 h3
      by_cases h4:j=i
      ·rw [if_pos (by omega),if_pos h4]
      ·rw [if_neg (by omega),if_neg h4]
theorem T.get_put (x:Option α):∀ (t:T α) (i j:Nat),(T.put x t i).get j=if j=i then x else t.get j:=by
 intro t
 induction t with
 | e=>intro i j;rw [T.put_e,T.get_lone _ _ _ _ (Nat.lt_succ_self _),T.get_e]
 | n l v r ihl ihr =>
  intro i j
  rw [T.put_n]
  split
  ·rename_i h0;subst h0
   rw [T.get_n,T.get_n]
   split <;> simp_all
  ·split
   ·rename_i h0 h1
    rw [T.get_n,T.get_n,ihl]
    split
    ·rename_i h2;rw [if_neg (by omega)]
    ·split
     ·by_cases h4:j=i
      ·rw [if_pos (by omega),if_pos h4]
      ·rw [if_neg (by omega),if_neg h4]
     ·rw [if_neg (by omega)]
   ·rename_i h0 h1
    rw [T.get_n,T.get_n,ihr]
    split
    ·rename_i h2;rw [if_neg (by omega)]
    ·split
     ·rw [if_neg (by omega)]
     ·by_cases h4:j=i
      ·rw [if_pos (by omega),if_pos h4]
      ·rw [if_neg (by omega),if_neg h4]
theorem T.get_set (t:T α) (i:Nat) (x:α) (j:Nat):(t.set i x).get j=if j=i then some x else t.get j:=T.get_put _ _ _ _
theorem T.get_puts:∀ (l:List α) (t:T α) (i j:Nat),(t.puts i l).get j=if i≤j∧j<i+l.length then l[j-i]? else t.get j:=by
 intro l
 induction l with
 | nil=>intro t i j;simp only [T.puts,List.length_nil,Nat.add_zero];rw [if_neg (by omega)]
 | cons x l ih =>
  intro t i j
  rw [T.puts,ih,T.get_set]
  by_cases h:i+1≤j∧j<i+1+l.length
  ·rw [if_pos h,if_pos (by simp;omega)]
   rw [show j-i=(j-(i+1))+1 by omega,List.getElem?_cons_succ]
  ·rw [if_neg h]
   by_cases h1:j=i
   ·subst h1
    rw [if_pos rfl,if_pos (by simp)]
    simp
   ·rw [if_neg h1,if_neg (by simp;omega)]
theorem T.list_spec:∀ (n i:Nat) (t:T α) (l:List α),t.list i n=some l→l.length=n∧∀ j,j<n→t.get (i+j)=l[j]?:=by
 intro n
 induction n with
 | zero=>intro i t l h;rw [T.list] at h;cases h;exact ⟨rfl,fun j hj=>absurd hj (Nat.not_lt_zero _)⟩
 | succ n ih =>
  intro i t l h
  rw [T.list] at h
  cases hx:t.get i with
  | none=>rw [hx] at h;cases h
  | some x =>
   rw [hx] at h
   cases hl:t.list (i+1) n with
   | none=>rw [hl] at h;cases h
   | some l' =>
    rw [hl] at h
    cases h
    obtain ⟨h1,h2⟩:=ih _ _ _ hl
    refine ⟨by simp [h1],fun j hj=>?_⟩
    cases j with
    | zero=>simpa using hx
    | succ j =>
     have:=h2 j (by omega)
     rw [show i+(j+1)=i+1+j by omega,this]
     rfl
end
theorem Yu {α:Type} (g:Nat→Option α):∀ (d a b i:Nat),i+1<2 ^ d→(genT g d a b).get i=g (a*i+b)
 | 0,a,b,i,h=>by simp at h
 | d+1,a,b,i,h=>by
  show (T.n (genT g d (2*a) (a+b)) (g b) (genT g d (2*a) (2*a+b))).get i=_
  rw [T.get_n]
  have hp:2 ^ (d+1)=2*2 ^ d:=by rw [Nat.pow_succ];omega
  split
  ·rename_i h0;subst h0;rw [Nat.mul_zero,Nat.zero_add]
  ·split
   ·rename_i h0 h1
    rw [Yu g d _ _ _ (by omega)]
    congr 1
    obtain ⟨q,rfl⟩:∃ q,i=2*q+1:=⟨i / 2,by omega⟩
    rw [show (2*q+1) / 2=q by omega,Nat.mul_add,Nat.mul_one,←Nat.mul_assoc,Nat.mul_comm a 2,←Nat.add_assoc]
   ·rename_i h0 h1
    rw [Yu g d _ _ _ (by omega)]
    congr 1
    obtain ⟨q,rfl⟩:∃ q,i=2*q+2:=⟨i / 2-1,by omega⟩
    rw [show (2*q+2) / 2-1=q by omega,Nat.mul_add,←Nat.mul_assoc,Nat.mul_comm a 2,Nat.add_assoc,Nat.mul_comm 2 a,Nat.mul_assoc]
    try omega
theorem Ayz (p:Nat→Bool) (n d b:Nat):allR p n (d+1) b=if n≤b then true else (allR p n d b && allR p n d (b+2 ^ d)):=by
 show (Bool.rec (Bool.rec false (allR p n d (b+2 ^ d)) (allR p n d b)) true (Nat.ble n b):Bool)=_
 rw [brec,brec]
 by_cases h:n≤b
 ·rw [if_pos (Nat.ble_eq_true_of_le h),if_pos h]
 ·rw [if_neg (fun hq=>h (Nat.le_of_ble_eq_true hq)),if_neg h]
  cases allR p n d b <;> simp
theorem Ae6 (p:Nat→Bool) (n:Nat):∀ (d b:Nat),allR p n d b=true→∀ i,b≤i→i<b+2 ^ d→i<n→p i=true
 | 0,b,h,i,hb,hi,hn=>by
  have he:i=b:=by simp at hi;omega
  subst he
  have h':(Bool.rec (p i) true (Nat.ble n i):Bool)=true:=h
  rw [brec,if_neg (fun hq=>by have:=Nat.le_of_ble_eq_true hq;omega)] at h'
  exact h'
 | d+1,b,h,i,hb,hi,hn=>by
  rw [Ayz,if_neg (by omega),Bool.and_eq_true] at h
  have hp:2 ^ (d+1)=2 ^ d+2 ^ d:=by rw [Nat.pow_succ];omega
  rcases Nat.lt_or_ge i (b+2 ^ d) with hl | hl
  ·exact Ae6 p n d b h.1 i hb hl hn
  ·exact Ae6 p n d _ h.2 i hl (by omega) hn
theorem An6 (n:Nat):n+1<2 ^ deep n:=Nat.lt_log2_self
theorem Amo:∀ (l:List C) (i:Nat),nthC l i=l[i]?
 | [],i=>by rfl
 | x::l,0=>by rfl
 | x::l,i+1=>by
  show nthC l i=_
  rw [Amo l i,List.getElem?_cons_succ]
end Go.Vc

namespace Go.Vc
structure Env where
 b:Nat→Nat
 o:Nat→Nat
 k:Nat→Nat
 v:Nat→Value
 r:Rho
class Holes where
 h:Nat→Prop
inductive RD (F:Nat→Prop) (w:World):D→Value→Prop
 | raw (v:Value) (h:v.oneCell'=true):RD F w (.raw v) v
 | nil (a:Option Addr) (c:Nat):RD F w (.fs []) (.slice a 0 c)
 | fs (l:List (List D)) (b o c z:Nat) (vs:Nat→Nat→Value) (h0:l≠[]) (hz:0<z) (hc:l.length≤c) (hF:F b) (hl:∀ (i:Nat) (cs:List D),l[i]?=some cs→cs.length=z)
   (ha:∀ (i j:Nat) (cs:List D) (d:D),l[i]?=some cs→cs[j]?=some d→w.cell? ⟨b,o+i*z+j,none⟩=some (vs i j)) (hd:∀ (i j:Nat) (cs:List D) (d:D),l[i]?=some cs→cs[j]?=some d→RD F w d (vs i j)):RD F w (.fs l) (.slice (some ⟨b,o,none⟩) l.length c)
theorem RD.keep {F G:Nat→Prop} {w w1:World} (hG:∀ g,F g→G g) (hw:∀ g j v,F g→w.cell? ⟨g,j,none⟩=some v→w1.cell? ⟨g,j,none⟩=some v) {d:D} {v:Value} (h:RD F w d v):RD G w1 d v:=by
 induction h with
 | raw v h=>exact .raw v h
 | nil a c=>exact .nil a c
 | fs l b o c z vs h0 hz hc hF hl ha hd ih=>exact .fs l b o c z vs h0 hz hc (hG b hF) hl (fun i j cs d hi hj=>hw b _ _ hF (ha i j cs d hi hj)) ih
structure Lt [Holes] (i n:Nat):Prop where
 lt:i<n
 ok:¬Holes.h i
variable [Holes]
theorem Lt.low {i n n':Nat} (h:Lt i n') (k:i<n):Lt i n:=⟨k,h.ok⟩
theorem Lt.mono {i n n':Nat} (h:Lt i n) (k:n≤n'):Lt i n':=⟨Nat.lt_of_lt_of_le h.lt k,h.ok⟩
section
variable (σ:Env)
def capR (r o z:Nat):Nat:=(σ.k r-(σ.o r+o)) / z
def realC:C→Value
 | .raw v=>v
 | .ptr r o=>.pointer (some ⟨σ.b r,σ.o r+o,none⟩)
 | .sl r o n _ (some c)=>.slice (some ⟨σ.b r,σ.o r+o,none⟩) n c
 | .sl r o n z none=>.slice (some ⟨σ.b r,σ.o r+o,none⟩) n (capR σ r o z)
 | .em r p o z=>.slice (some ⟨σ.b r,if capR σ r o z=0 then σ.o r+p else σ.o r+o,none⟩) 0 (capR σ r o z)
 | .clo i=>match σ.v i with
  | .func f a b=>.func f a b
  | _=>.nilFunc
 | .ifc t i=>.iface t (σ.v i)
 | .mp r=>.map (some (σ.b r))
 | .fz i=>match σ.v i with
  | .slice a n c=>.slice a n c
  | _=>.nilFunc
 | .fp i o=>.pointer (some ⟨σ.b i,σ.o i+o,none⟩)
 | .sb i=>.bool (σ.r.t i)
 | .si k i=>.int k (σ.r.n i)
 | .ss i=>.string (σ.r.s i)
def realV:V→Value
 | .c x=>realC σ x
 | .a cs=>.agg (cs.map (realC σ)).toArray
def realW:W→Value
 | .v x=>realV σ x
 | .t l=>.tuple (l.map (realV σ)).toArray
end
def C.lt (n:Nat):C→Prop
 | .raw _=>True
 | .ptr r _=>Lt r n
 | .sl r _ _ _ _=>Lt r n
 | .em r _ _ _=>Lt r n
 | .clo i=>Lt i n
 | .ifc _ i=>Lt i n
 | .mp r=>Lt r n
 | .fz i=>Lt i n
 | .fp i _=>Lt i n
 | .sb i=>Lt i n
 | .si _ i=>Lt i n
 | .ss i=>Lt i n
def V.lt (n:Nat):V→Prop
 | .c x=>x.lt n
 | .a cs=>∀ x∈cs,x.lt n
def W.lt (n:Nat):W→Prop
 | .v x=>x.lt n
 | .t l=>∀ x∈l,x.lt n
structure Agree (n:Nat) (σ τ:Env):Prop where
 b:∀ i,Lt i n→τ.b i=σ.b i
 o:∀ i,Lt i n→τ.o i=σ.o i
 k:∀ i,Lt i n→τ.k i=σ.k i
 v:∀ i,Lt i n→τ.v i=σ.v i
 rn:∀ i,Lt i n→τ.r.n i=σ.r.n i
 rt:∀ i,Lt i n→τ.r.t i=σ.r.t i
 rs:∀ i,Lt i n→τ.r.s i=σ.r.s i
 rd:∀ i,Lt i n→τ.r.d i=σ.r.d i
section
variable {σ τ υ:Env} {n n':Nat}
theorem Agree.refl (n:Nat) (σ:Env):Agree n σ σ:=⟨fun _ _=>rfl,fun _ _=>rfl,fun _ _=>rfl,fun _ _=>rfl,fun _ _=>rfl,fun _ _=>rfl,fun _ _=>rfl,fun _ _=>rfl⟩
theorem Agree.trans (h:Agree n σ τ) (hn:n≤n') (k:Agree n' τ υ):Agree n σ υ :=
 ⟨fun i hi=>(k.b i (hi.mono hn)).trans (h.b i hi),fun i hi=>(k.o i (hi.mono hn)).trans (h.o i hi),fun i hi=>(k.k i (hi.mono hn)).trans (h.k i hi),fun i hi=>(k.v i (hi.mono hn)).trans (h.v i hi),fun i hi=>(k.rn i (hi.mono hn)).trans (h.rn i hi),fun i hi=>(k.rt i (hi.mono hn)).trans (h.rt i hi),fun i hi=>(k.rs i (hi.mono hn)).trans (h.rs i hi),fun i hi=>(k.rd i (hi.mono hn)).trans (h.rd i hi)⟩
theorem Agree.capR (h:Agree n σ τ) {r:Nat} (hr:Lt r n) (o z:Nat):capR τ r o z=capR σ r o z:=by
 unfold Vc.capR;rw [h.k r hr,h.o r hr]
theorem Agree.realC (h:Agree n σ τ) {x:C} (hx:x.lt n):realC τ x=realC σ x:=by
 cases x with
 | raw v=>rfl
 | ptr r o=>simp only [Vc.realC,h.b r hx,h.o r hx]
 | sl r o m z c =>
  cases c with
  | some c=>simp only [Vc.realC,h.b r hx,h.o r hx]
  | none=>simp only [Vc.realC,h.b r hx,h.o r hx,h.capR hx]
 | em r p o z=>simp only [Vc.realC,h.b r hx,h.o r hx,h.capR hx]
 | clo i=>simp only [Vc.realC,h.v i hx]
 | ifc t i=>simp only [Vc.realC,h.v i hx]
 | mp r=>simp only [Vc.realC,h.b r hx]
 | fz i=>simp only [Vc.realC,h.v i hx]
 | fp i o=>simp only [Vc.realC,h.b i hx,h.o i hx]
 | sb i=>simp only [Vc.realC,h.rt i hx]
 | si k i=>simp only [Vc.realC,h.rn i hx]
 | ss i=>simp only [Vc.realC,h.rs i hx]
theorem Agree.mapC (h:Agree n σ τ) {l:List C} (hl:∀ x∈l,x.lt n):l.map (Vc.realC τ)=l.map (Vc.realC σ):=List.map_congr_left fun x hx=>h.realC (hl x hx)
theorem Agree.realV (h:Agree n σ τ) {x:V} (hx:x.lt n):realV τ x=realV σ x:=by
 cases x with
 | c x=>exact h.realC hx
 | a cs=>simp only [Vc.realV,h.mapC hx]
theorem Agree.realW (h:Agree n σ τ) {x:W} (hx:x.lt n):realW τ x=realW σ x:=by
 cases x with
 | v x=>exact h.realV hx
 | t l=>simp only [Vc.realW];rw [List.map_congr_left fun x hx'=>h.realV (hx x hx')]
theorem Agree.mapW (h:Agree n σ τ) {l:List W} (hl:∀ x∈l,x.lt n):l.map (Vc.realW τ)=l.map (Vc.realW σ):=List.map_congr_left fun x hx=>h.realW (hl x hx)
theorem C.lt.mono {x:C} (h:x.lt n) (hn:n≤n'):x.lt n':=by cases x <;> first | trivial | exact Lt.mono h hn | exact h
theorem V.lt.mono {x:V} (h:x.lt n) (hn:n≤n'):x.lt n':=by
 cases x with
 | c x=>exact C.lt.mono h hn
 | a cs=>exact fun x hx=>(h x hx).mono hn
theorem W.lt.mono {x:W} (h:x.lt n) (hn:n≤n'):x.lt n':=by
 cases x with
 | v x=>exact V.lt.mono h hn
 | t l=>exact fun x hx=>(h x hx).mono hn
end
structure TmOk (σ:Env) (n:Nat) (tmps:Array Value) (tm:Tm):Prop where
 get:∀ t,tmps.getD t undef=realW σ (tm.get t)
 lt:∀ t,(tm.get t).lt n
theorem Ab1 (l:List (Nat×W)) (t:Nat) (x:W) (j:Nat) (d:W):lookT ((t,x)::l) j d=if t=j then x else lookT l j d:=by
 show (bif Nat.beq t j then x else lookT l j d)=_
 by_cases h:t=j
 ·rw [if_pos h,h,Nat.beq_refl];rfl
 ·rw [if_neg h]
  cases hq:Nat.beq t j with
  | true=>exact absurd (Nat.eq_of_beq_eq_true hq) h
  | false=>rfl
theorem Tm.get_set (tm:Tm) (t:Nat) (x:W) (j:Nat):(tm.set t x).get j=if t=j then x else tm.get j:=Ab1 _ _ _ _ _
section
variable {σ τ:Env} {n n':Nat} {tmps:Array Value} {tm:Tm}
theorem Bt (n:Nat):undefW.lt n:=fun x hx=>by cases hx
theorem TmOk.agree (h:TmOk σ n tmps tm) (k:Agree n σ τ) (hn:n≤n'):TmOk τ n' tmps tm where
 get t:=by rw [h.get t,k.realW (h.lt t)]
 lt t:=(h.lt t).mono hn
theorem TmOk.set (h:TmOk σ n tmps tm) {d:Nat} {x:W} (hx:x.lt n) (hd:d<tmps.size):TmOk σ n (tmps.setIfInBounds d (realW σ x)) (tm.set d x) where
 get t:=by
  rw [Tm.get_set,Array.getD_eq_getD_getElem?,Array.getElem?_setIfInBounds]
  by_cases htd:d=t
  ·subst htd;simp [hd]
  ·rw [if_neg htd,if_neg htd,←Array.getD_eq_getD_getElem?];exact h.get t
 lt t:=by
  rw [Tm.get_set]
  split
  ·exact hx
  ·exact h.lt t
theorem Ft (σ:Env) (v:Value):realV σ (V.of v)=v:=by
 cases v <;> simp [V.of,realV,realC]
 rw [show (realC σ ∘ C.raw)=id from rfl];simp
theorem Et (σ:Env) (v:Value):realW σ (W.of v)=v:=by
 cases v <;> simp [W.of,realW,Ft]
 rw [show (realV σ ∘ V.of)=id from funext fun v=>Ft σ v];simp
theorem Agt (n:Nat) (v:Value):(V.of v).lt n:=by
 cases v <;> simp [V.of,V.lt,C.lt]
theorem Nl (n:Nat) (v:Value):(W.of v).lt n:=by
 cases v <;> simp [W.of,W.lt,Agt]
theorem TmOk.ev (h:TmOk σ n tmps tm) (ds:List Deferred) (o:Operand):(⟨tmps,ds⟩:Act).eval o=realW σ (ev tm o)∧(ev tm o).lt n:=by
 cases o with
 | tmp t=>exact ⟨h.get t,h.lt t⟩
 | const v=>exact ⟨(Et σ v).symm,Nl n v⟩
 | global g=>exact ⟨rfl,trivial⟩
 | func f=>exact ⟨rfl,trivial⟩
end
def Row.blk:Row→Bool
 | .cells .. | .loop .. | .map ..=>true
 | _=>false
def Row.isLoop:Row→Bool
 | .loop ..=>true
 | _=>false
def RowOk (σ:Env) (n:Nat) (w:World) (i:Nat):Row→Prop
 | .cells e k cs=>∃ arr,w.heap[σ.b i]?=some (.cells arr e (0,0))∧arr.size=σ.k i∧σ.o i+k≤arr.size∧∀ j,j<k→∃ c,cs.get j=some c∧C.lt n c∧arr[σ.o i+j]?=some (realC σ c)
 | .fn f first caps=>σ.v i = .func f (first.map (realW σ)).toArray (caps.map (realW σ)).toArray∧(∀ x∈first,W.lt n x)∧∀ x∈caps,W.lt n x
 | .val x=>σ.v i=realV σ x∧V.lt n x
 | .loop st p nt tm ps assign body=>∃ fn tmps df,σ.v i = .func (.yield (σ.b i)) #[] #[]∧tmps.size=nt∧TmOk σ n tmps tm ∧
   w.heap[σ.b i]?=some (.loop { state:=st,pending:=p,fn:=fn,tmps:=tmps,params:=ps.toArray,assign:=assign,body:=body,defers:=df })
 | .dead=>True
 | .map k es c=>w.heap[σ.b i]?=some (.map (es.map fun e=>(⟨.int k e.1,e.2.1,e.2.2⟩:MapEntry)).toArray c)
structure Rel (K:Nat→Option (List Value)) (σ:Env) (m:Mem) (w:World):Prop where
 row:∀ i r,m.S.get i=some r→RowOk σ m.nx w i r
 lt:∀ i r,m.S.get i=some r→Lt i m.nx
 inj:∀ i j r s,m.S.get i=some r→m.S.get j=some s→r.blk=true→s.blk=true→σ.b i=σ.b j→i=j
 known:∀ g l,K g=some l→∀ j v,l[j]?=some v→w.cell? ⟨g,j,none⟩=some v
 apart:∀ i r,m.S.get i=some r→r.blk=true→K (σ.b i)=none
 low:∀ g l,K g=some l→g<w.heap.size
 fresh:∀ i,m.nx≤i→¬Holes.h i
theorem Rel.ltnx {K:Nat→Option (List Value)} {σ:Env} {m:Mem} {w:World} (h:Rel K σ m w):Lt m.nx (m.nx+1):=⟨Nat.lt_succ_self _,h.fresh _ (Nat.le_refl _)⟩
structure Goes (w w':World):Prop where
 os:w'.os=w.os
 tape:w'.tape=w.tape
 output:w'.output=w.output
 size:w.heap.size≤w'.heap.size
structure Step (K:Nat→Option (List Value)) (σ:Env) (m:Mem) (w:World) (τ:Env) (m':Mem) (w':World):Prop where
 nx:m.nx≤m'.nx
 agree:Agree m.nx σ τ
 rel:Rel K τ m' w'
 goes:Goes w w'
 frame:∀ b,b<w.heap.size→(∀ i r,m.S.get i=some r→r.blk=true→σ.b i=b→i<m'.lo)→w'.heap[b]?=w.heap[b]?
 old:∀ i r,i<m.nx→m'.S.get i=some r→r.blk=true→∃ s,m.S.get i=some s∧s.blk=true
 new:∀ i r,m.nx≤i→m'.S.get i=some r→r.blk=true→w.heap.size≤τ.b i∨∃ j s,m.S.get j=some s∧s.blk=true∧σ.b j=τ.b i∧m'.lo≤j
 lo:m'.lo≤m.lo
 keep:∀ i r,m.S.get i=some r→r.isLoop=true→∃ s,m'.S.get i=some s∧s.isLoop=true
end Go.Vc

namespace Go.Vc
variable [Holes]
section
variable {K:Nat→Option (List Value)} {σ τ υ:Env} {m m1 m2:Mem} {w w1 w2:World}
theorem Goes.refl (w:World):Goes w w:=⟨rfl,rfl,rfl,Nat.le_refl _⟩
theorem Goes.trans (h:Goes w w1) (k:Goes w1 w2):Goes w w2:=⟨k.os.trans h.os,k.tape.trans h.tape,k.output.trans h.output,Nat.le_trans h.size k.size⟩
theorem Step.refl (h:Rel K σ m w):Step K σ m w σ m w :=
 ⟨Nat.le_refl _,Agree.refl _ _,h,Goes.refl w,fun _ _ _=>rfl,fun i r _ hr hb=>⟨r,hr,hb⟩,fun i r hi hr _=>absurd (h.lt i r hr).lt (by omega),Nat.le_refl _,fun i r hr hl=>⟨r,hr,hl⟩⟩
theorem Step.trans (h:Step K σ m w τ m1 w1) (k:Step K τ m1 w1 υ m2 w2):Step K σ m w υ m2 w2 where
 nx:=Nat.le_trans h.nx k.nx
 agree:=h.agree.trans h.nx k.agree
 rel:=k.rel
 goes:=h.goes.trans k.goes
 frame b hb hi:=by
  have hlo:=k.lo
  rw [k.frame b (Nat.lt_of_lt_of_le hb h.goes.size) (fun i r hr hrb he=>?_)]
  ·exact h.frame b hb (fun i r hr hrb he=>Nat.lt_of_lt_of_le (hi i r hr hrb he) hlo)
  ·rcases Nat.lt_or_ge i m.nx with hlt | hge
   ·obtain ⟨s,hs,hsb⟩:=h.old i r hlt hr hrb
    exact hi i s hs hsb (by rw [←h.agree.b i ((h.rel.lt i r hr).low hlt)];exact he)
   ·rcases h.new i r hge hr hrb with hn | ⟨j,s,hs,hsb,hj,hl⟩
    ·rw [he] at hn;omega
    ·have:=hi j s hs hsb (hj.trans he);omega
 old i r hi hr hb:=by
  obtain ⟨s,hs,hsb⟩:=k.old i r (Nat.lt_of_lt_of_le hi h.nx) hr hb
  exact h.old i s hi hs hsb
 new i r hi hr hb:=by
  have hlo:=k.lo
  have from1:∀ j s,m1.S.get j=some s→s.blk=true→m2.lo≤j→w.heap.size≤τ.b j∨∃ j' s,m.S.get j'=some s∧s.blk=true∧σ.b j'=τ.b j∧m2.lo≤j':=fun j s hs hsb hl=>by
   rcases Nat.lt_or_ge j m.nx with hlt | hge
   ·obtain ⟨s',hs',hsb'⟩:=h.old j s hlt hs hsb
    exact .inr ⟨j,s',hs',hsb',(h.agree.b j ((h.rel.lt j s hs).low hlt)).symm,hl⟩
   ·rcases h.new j s hge hs hsb with hn | ⟨j',s',hs',hsb',he,hl'⟩
    ·exact .inl hn
    ·exact .inr ⟨j',s',hs',hsb',he,by omega⟩
  rcases Nat.lt_or_ge i m1.nx with hlt | hge
  ·obtain ⟨s,hs,hsb⟩:=k.old i r hlt hr hb
   rw [k.agree.b i (h.rel.lt i s hs)]
   rcases h.new i s hi hs hsb with hn | ⟨j',s',hs',hsb',he,hl'⟩
   ·exact .inl hn
   ·exact .inr ⟨j',s',hs',hsb',he,by omega⟩
  ·rcases k.new i r hge hr hb with hn | ⟨j,s,hs,hsb,he,hl⟩
   ·exact .inl (Nat.le_trans h.goes.size hn)
   ·rw [←he];exact from1 j s hs hsb hl
 lo:=Nat.le_trans k.lo h.lo
 keep i r hr hl:=by
  obtain ⟨s,hs,hsl⟩:=h.keep i r hr hl
  exact k.keep i s hs hsl
end
def Env.set (σ:Env) (i b o k:Nat) (v:Value):Env :=
 ⟨fun j=>if j=i then b else σ.b j,fun j=>if j=i then o else σ.o j,fun j=>if j=i then k else σ.k j,fun j=>if j=i then v else σ.v j,σ.r⟩
section
variable {K:Nat→Option (List Value)} {σ τ:Env} {m m1:Mem} {w w1:World}
theorem Env.agree_set (σ:Env) (n b o k:Nat) (v:Value):Agree n σ (σ.set n b o k v) :=
 ⟨fun i hi=>if_neg (by have:=hi.lt;omega),fun i hi=>if_neg (by have:=hi.lt;omega),fun i hi=>if_neg (by have:=hi.lt;omega),fun i hi=>if_neg (by have:=hi.lt;omega),fun i _=>rfl,fun i _=>rfl,fun i _=>rfl,fun i _=>rfl⟩
@[simp] theorem Env.set_b (σ:Env) (n b o k:Nat) (v:Value):(σ.set n b o k v).b n=b:=if_pos rfl
@[simp] theorem Env.set_o (σ:Env) (n b o k:Nat) (v:Value):(σ.set n b o k v).o n=o:=if_pos rfl
@[simp] theorem Env.set_k (σ:Env) (n b o k:Nat) (v:Value):(σ.set n b o k v).k n=k:=if_pos rfl
@[simp] theorem Env.set_v (σ:Env) (n b o k:Nat) (v:Value):(σ.set n b o k v).v n=v:=if_pos rfl
theorem RowOk.keep {n n':Nat} {i:Nat} {r:Row} (h:RowOk σ n w i r) (k:Agree n σ τ) (hi:Lt i n) (hn:n≤n') (hb:r.blk=true→w1.heap[σ.b i]?=w.heap[σ.b i]?):RowOk τ n' w1 i r:=by
 cases r with
 | cells e q cs =>
  obtain ⟨arr,h1,h2,h3,h4⟩:=h
  refine ⟨arr,by rw [k.b i hi,hb rfl];exact h1,by rw [k.k i hi];exact h2,by rw [k.o i hi];exact h3,fun j hj=>?_⟩
  obtain ⟨c,hc,hl,ha⟩:=h4 j hj
  exact ⟨c,hc,hl.mono hn,by rw [k.o i hi,k.realC hl];exact ha⟩
 | fn f first caps =>
  obtain ⟨h1,h2,h3⟩:=h
  exact ⟨by rw [k.v i hi,k.mapW h2,k.mapW h3];exact h1,fun x hx=>(h2 x hx).mono hn,fun x hx=>(h3 x hx).mono hn⟩
 | val x=>exact ⟨by rw [k.v i hi,k.realV h.2];exact h.1,h.2.mono hn⟩
 | loop st p nt tm ps a b =>
  obtain ⟨fn,tmps,df,h1,h2,h3,h4⟩:=h
  exact ⟨fn,tmps,df,by rw [k.v i hi,k.b i hi];exact h1,h2,h3.agree k hn,by rw [k.b i hi,hb rfl];exact h4⟩
 | dead=>trivial
 | map kk es c =>
  have h':w.heap[σ.b i]?=some (.map (es.map fun e=>(⟨.int kk e.1,e.2.1,e.2.2⟩:MapEntry)).toArray c):=h
  show w1.heap[τ.b i]?=_
  rw [k.b i hi,hb rfl];exact h'
theorem Bw {w:World} {b:Nat} {o:Obj} (h:w.heap[b]?=some o):b<w.heap.size:=(Array.getElem?_eq_some_iff.1 h).1
theorem RowOk.blk_lt {n i:Nat} {r:Row} (h:RowOk σ n w i r) (hb:r.blk=true):σ.b i<w.heap.size:=by
 cases r with
 | cells e q cs=>obtain ⟨arr,h1,_⟩:=h;exact Bw h1
 | loop st p nt tm ps a b=>obtain ⟨fn,tmps,df,_,_,_,h4⟩:=h;exact Bw h4
 | fn=>cases hb
 | val=>cases hb
 | dead=>cases hb
 | map kk es c=>exact Bw h
theorem Co (h:Rel K σ m w) (hk:∀ g l,K g=some l→w1.heap[g]?=w.heap[g]?):∀ g l,K g=some l→∀ j v,l[j]?=some v→w1.cell? ⟨g,j,none⟩=some v:=fun g l hg j v hv=>by
 have:=h.known g l hg j v hv
 rw [←this]
 exact World.cell?_of_block (a:=⟨g,j,none⟩) (hk g l hg)
end
end Go.Vc

namespace Go.Vc
variable [Holes]
section
variable {K:Nat→Option (List Value)} {σ τ:Env} {m m1:Mem} {w w1:World}
theorem Jz (h:Rel K σ m w) (r:Row) (b o k:Nat) (v:Value) (hg:Goes w w1) (hk:∀ b,b<w.heap.size→w1.heap[b]?=w.heap[b]?) (hb:r.blk=true→w.heap.size≤b)
  (hr:RowOk (σ.set m.nx b o k v) (m.nx+1) w1 m.nx r):Step K σ m w (σ.set m.nx b o k v) (m.add r).1 w1:=by
 have hag:=Env.agree_set σ m.nx b o k v
 have hget:∀ i,(m.add r).1.S.get i=if i=m.nx then some r else m.S.get i:=fun i=>T.get_set _ _ _ _
 have hold:∀ i s,(m.add r).1.S.get i=some s→i≠m.nx→m.S.get i=some s:=fun i s hs hi=>by rw [hget,if_neg hi] at hs;exact hs
 refine ⟨Nat.le_succ _,hag,⟨fun i s hs=>?_,fun i s hs=>?_,fun i j s s' hs hs' hsb hsb' he=>?_,fun g l hg'=>?_,fun i s hs hsb=>?_,fun g l hg'=>Nat.lt_of_lt_of_le (h.low g l hg') hg.size,fun i hi=>h.fresh i (Nat.le_of_succ_le hi)⟩,hg,fun b hb _=>hk b hb,fun i s hi hs hsb=>?_,fun i s hi hs hsb=>?_,Nat.le_refl _,fun i s hs hsl=>⟨s,by rw [hget,if_neg (by have:=(h.lt i s hs).lt;omega)];exact hs,hsl⟩⟩
 ·by_cases hi:i=m.nx
  ·subst hi;rw [hget,if_pos rfl] at hs;cases hs;exact hr
  ·have h1:=hold i s hs hi
   exact (h.row i s h1).keep hag (h.lt i s h1) (Nat.le_succ _) (fun hsb=>hk _ ((h.row i s h1).blk_lt hsb))
 ·by_cases hi:i=m.nx
  ·subst hi;exact ⟨Nat.lt_succ_self _,h.fresh _ (Nat.le_refl _)⟩
  ·exact (h.lt i s (hold i s hs hi)).mono (Nat.le_succ _)
 ·by_cases hi:i=m.nx
  ·by_cases hj:j=m.nx
   ·rw [hi,hj]
   ·exfalso
    subst hi
    rw [hget,if_pos rfl] at hs;cases hs
    have h1:=hold j s' hs' hj
    have:=(h.row j s' h1).blk_lt hsb'
    rw [hag.b j (h.lt j s' h1),Env.set_b] at he
    have:=hb hsb
    omega
  ·by_cases hj:j=m.nx
   ·exfalso
    subst hj
    rw [hget,if_pos rfl] at hs';cases hs'
    have h1:=hold i s hs hi
    have:=(h.row i s h1).blk_lt hsb
    rw [hag.b i (h.lt i s h1),Env.set_b] at he
    have:=hb hsb'
    omega
   ·have h1:=hold i s hs hi
    have h2:=hold j s' hs' hj
    rw [hag.b i (h.lt i s h1),hag.b j (h.lt j s' h2)] at he
    exact h.inj i j s s' h1 h2 hsb hsb' he
 ·exact Co h (fun g l hg2=>hk g (h.low g l hg2)) g l hg'
 ·by_cases hi:i=m.nx
  ·subst hi
   rw [hget,if_pos rfl] at hs;cases hs
   rw [Env.set_b]
   have:=hb hsb
   cases hK:K b with
   | none=>rfl
   | some l=>have:=h.low _ _ hK;omega
  ·have h1:=hold i s hs hi
   rw [hag.b i (h.lt i s h1)]
   exact h.apart i s h1 hsb
 ·exact ⟨s,hold i s hs (by omega),hsb⟩
 ·by_cases hi':i=m.nx
  ·subst hi'
   rw [hget,if_pos rfl] at hs;cases hs
   rw [Env.set_b]
   exact .inl (hb hsb)
  ·exact absurd (h.lt i s (hold i s hs hi')).lt (by omega)
theorem Ee (w:World) (o:Obj):Goes w (w.alloc o):=⟨rfl,rfl,rfl,by simp⟩
theorem Du (w:World) (o:Obj) (b:Nat) (hb:b<w.heap.size):(w.alloc o).heap[b]?=w.heap[b]?:=by
 show (w.heap.push o)[b]?=_
 rw [Array.getElem?_push,if_neg (by omega)]
theorem Aqq {l:List C} {j:Nat} (hj:j<l.length):(T.puts (.e:T C) 0 l).get j=l[j]?:=by
 rw [T.get_puts,if_pos (by omega)];rfl
theorem Abb (h:Rel K σ m w) (e:TypeId) (l:List C) (k:Nat) (t:T C) (hk:k=l.length) (ht:∀ j,j<l.length→t.get j=l[j]?) (hl:∀ x∈l,C.lt m.nx x) (arr:Array Value) (hs:l.length≤arr.size) (ha:∀ j,j<l.length→arr[j]?=(l.map (realC σ))[j]?)
  (hg:Goes w w1) (hw:w1.heap=w.heap.push (.cells arr e (0,0))):Step K σ m w (σ.set m.nx w.heap.size 0 arr.size undef) ⟨m.S.set m.nx (.cells e k t),Nat.succ m.nx,m.lo⟩ w1:=by
 subst hk
 have hnew:w1.heap[w.heap.size]?=some (.cells arr e (0,0)):=by rw [hw];simp
 have hag:=Env.agree_set σ m.nx w.heap.size 0 arr.size undef
 refine Jz h (.cells e l.length t) _ _ _ _ hg (fun b hb=>by rw [hw,Array.getElem?_push,if_neg (by omega)]) (fun _=>Nat.le_refl _) ⟨arr,by simpa using hnew,by simp,by simpa using hs,fun j hj=>?_⟩
 have hx:=List.getElem?_eq_getElem hj
 refine ⟨l[j],by rw [ht j hj,hx],(hl _ (List.getElem_mem hj)).mono (Nat.le_succ _),?_⟩
 rw [Env.set_o,Nat.zero_add,ha j hj,List.getElem?_map,hx,Option.map_some,hag.realC (hl _ (List.getElem_mem hj))]
theorem Xt (h:Rel K σ m w) (e:TypeId) (l:List C) (hl:∀ x∈l,C.lt m.nx x) (arr:Array Value) (hs:l.length≤arr.size) (ha:∀ j,j<l.length→arr[j]?=(l.map (realC σ))[j]?)
  (hg:Goes w w1) (hw:w1.heap=w.heap.push (.cells arr e (0,0))):Step K σ m w (σ.set m.nx w.heap.size 0 arr.size undef) (m.new e l).1 w1 :=
 Abb h e l _ _ rfl (fun j hj=>Aqq hj) hl arr hs ha hg hw
theorem Aba (h:Rel K σ m w) (e:TypeId) (l:List C) (k:Nat) (g:Nat→Option C) (hk:k=l.length) (ht:∀ j,j<l.length→g j=l[j]?) (hl:∀ x∈l,C.lt m.nx x) (arr:Array Value) (hs:l.length≤arr.size) (ha:∀ j,j<l.length→arr[j]?=(l.map (realC σ))[j]?)
  (hg:Goes w w1) (hw:w1.heap=w.heap.push (.cells arr e (0,0))):Step K σ m w (σ.set m.nx w.heap.size 0 arr.size undef) (m.newT e k g) w1 :=
 Abb h e l k _ hk (fun j hj=>by rw [Yu g _ 1 0 j (by have:=An6 k;omega),Nat.one_mul,Nat.add_zero,ht j hj]) hl arr hs ha hg hw
end
end Go.Vc
