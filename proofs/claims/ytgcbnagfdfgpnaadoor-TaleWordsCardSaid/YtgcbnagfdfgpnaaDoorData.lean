/- The program's data types as Lean structures. 'P..': pure data. 'X..': the data together with the places of its slices. Printed by gen_data.py. -/
import Derived.Test.YtgcbnagfdfgpnaaDoorLib
namespace Go.Hx
open Go.RowKit

/-- a slice as it lies: its elements, its address, its capacity -/
structure LX (α : Type) where
  l : List α
  A : Option Addr
  c : Nat
def LX.ok {α : Type} (w : World) (B : Nat) (enc : α → List Value) (x : LX α) : Prop := Sl w B enc x.A x.l ∧ x.l.length ≤ x.c ∧ x.c ≤ maxLen
theorem LX.ok.below {α : Type} {w w' : World} {B : Nat} {enc : α → List Value} {x : LX α} (h : x.ok w B enc) (hb : Below B w w') : x.ok w' B enc := ⟨h.1.below hb, h.2⟩
theorem LX.ok.mono {α : Type} {w : World} {B B' : Nat} {enc : α → List Value} {x : LX α} (h : x.ok w B enc) (hb : B ≤ B') : x.ok w B' enc := ⟨h.1.mono hb, h.2⟩
theorem LX.ok.ext {α : Type} {w w' : World} {enc : α → List Value} {x : LX α} (h : x.ok w w.heap.size enc) (hb : Ext w w') : x.ok w' w'.heap.size enc := (h.below hb).mono hb.size
theorem LX.ok.nil {α : Type} {w : World} {B : Nat} {enc : α → List Value} : (⟨[], none, 0⟩ : LX α).ok w B enc := ⟨.inl rfl, by simp, by simp⟩
def cU32 (n : Nat) : List Value := [.int .u32 n]
def cU8 (n : Nat) : List Value := [.int .u8 n]
def cU64 (n : Nat) : List Value := [.int .u64 n]
def cInt (n : Int) : List Value := [.int .i64 n]
def inI64 (n : Int) : Prop := -9223372036854775808 ≤ n ∧ n ≤ 9223372036854775807

structure PDyad where
  neg : Bool
  limbs : List Nat
  exp : Int
  deriving DecidableEq
def PDyad.zero : PDyad := ⟨false, [], 0⟩
def PDyad.wf (x : PDyad) : Prop := (∀ n ∈ x.limbs, n < 4294967296) ∧ inI64 x.exp
structure XDyad where
  neg : Bool
  limbs : LX Nat
  exp : Int
def XDyad.zero : XDyad := ⟨false, ⟨[], none, 0⟩, 0⟩
def XDyad.data (x : XDyad) : PDyad := ⟨x.neg, x.limbs.l, x.exp⟩
def XDyad.cells (x : XDyad) : List Value := [.bool x.neg, .slice x.limbs.A x.limbs.l.length x.limbs.c, .int .i64 x.exp]
theorem XDyad.cells_length (x : XDyad) : x.cells.length = 3 := rfl
structure XDyad.ok (W : World) (B : Nat) (x : XDyad) : Prop where
  limbs : x.limbs.ok W B cU32
theorem XDyad.ok.below {w w' : World} {B : Nat} {x : XDyad} (h : x.ok w B) (hb : Below B w w') : x.ok w' B := ⟨h.limbs.below hb⟩
theorem XDyad.ok.mono {w : World} {B B' : Nat} {x : XDyad} (h : x.ok w B) (hb : B ≤ B') : x.ok w B' := ⟨h.limbs.mono hb⟩
theorem XDyad.ok.ext {w w' : World} {x : XDyad} (h : x.ok w w.heap.size) (hb : Ext w w') : x.ok w' w'.heap.size := (h.below hb).mono hb.size
theorem XDyad.zero_ok (w : World) (B : Nat) : XDyad.zero.ok w B := ⟨LX.ok.nil⟩
theorem XDyad.zero_data : XDyad.zero.data = PDyad.zero := rfl
instance : Inhabited XDyad := ⟨XDyad.zero⟩

structure PMass where
  s : PDyad
  w : PDyad
  c : PDyad
  a : PDyad
  deriving DecidableEq
def PMass.zero : PMass := ⟨PDyad.zero, PDyad.zero, PDyad.zero, PDyad.zero⟩
def PMass.wf (x : PMass) : Prop := x.s.wf ∧ x.w.wf ∧ x.c.wf ∧ x.a.wf
structure XMass where
  s : XDyad
  w : XDyad
  c : XDyad
  a : XDyad
def XMass.zero : XMass := ⟨XDyad.zero, XDyad.zero, XDyad.zero, XDyad.zero⟩
def XMass.data (x : XMass) : PMass := ⟨x.s.data, x.w.data, x.c.data, x.a.data⟩
def XMass.cells (x : XMass) : List Value := [.bool x.s.neg, .slice x.s.limbs.A x.s.limbs.l.length x.s.limbs.c, .int .i64 x.s.exp, .bool x.w.neg, .slice x.w.limbs.A x.w.limbs.l.length x.w.limbs.c, .int .i64 x.w.exp, .bool x.c.neg, .slice x.c.limbs.A x.c.limbs.l.length x.c.limbs.c, .int .i64 x.c.exp, .bool x.a.neg, .slice x.a.limbs.A x.a.limbs.l.length x.a.limbs.c, .int .i64 x.a.exp]
theorem XMass.cells_length (x : XMass) : x.cells.length = 12 := rfl
structure XMass.ok (W : World) (B : Nat) (x : XMass) : Prop where
  s : x.s.ok W B
  w : x.w.ok W B
  c : x.c.ok W B
  a : x.a.ok W B
theorem XMass.ok.below {w w' : World} {B : Nat} {x : XMass} (h : x.ok w B) (hb : Below B w w') : x.ok w' B := ⟨h.s.below hb, h.w.below hb, h.c.below hb, h.a.below hb⟩
theorem XMass.ok.mono {w : World} {B B' : Nat} {x : XMass} (h : x.ok w B) (hb : B ≤ B') : x.ok w B' := ⟨h.s.mono hb, h.w.mono hb, h.c.mono hb, h.a.mono hb⟩
theorem XMass.ok.ext {w w' : World} {x : XMass} (h : x.ok w w.heap.size) (hb : Ext w w') : x.ok w' w'.heap.size := (h.below hb).mono hb.size
theorem XMass.zero_ok (w : World) (B : Nat) : XMass.zero.ok w B := ⟨XDyad.zero_ok w B, XDyad.zero_ok w B, XDyad.zero_ok w B, XDyad.zero_ok w B⟩
theorem XMass.zero_data : XMass.zero.data = PMass.zero := rfl
instance : Inhabited XMass := ⟨XMass.zero⟩

structure PDesc where
  id : Int
  stamp : Int
  deriving DecidableEq
def PDesc.zero : PDesc := ⟨0, 0⟩
def PDesc.wf (x : PDesc) : Prop := inI64 x.id ∧ inI64 x.stamp
def PDesc.cells (x : PDesc) : List Value := [.int .i64 x.id, .int .i64 x.stamp]
theorem PDesc.cells_length (x : PDesc) : x.cells.length = 2 := rfl
instance : Inhabited PDesc := ⟨PDesc.zero⟩

structure PCache where
  own : Int
  cap : Int
  list : List PDesc
  deriving DecidableEq
def PCache.zero : PCache := ⟨0, 0, []⟩
def PCache.wf (x : PCache) : Prop := inI64 x.own ∧ inI64 x.cap ∧ (∀ n ∈ x.list, PDesc.wf n)
structure XCache where
  own : Int
  cap : Int
  list : LX PDesc
def XCache.zero : XCache := ⟨0, 0, ⟨[], none, 0⟩⟩
def XCache.data (x : XCache) : PCache := ⟨x.own, x.cap, x.list.l⟩
def XCache.cells (x : XCache) : List Value := [.int .i64 x.own, .int .i64 x.cap, .slice x.list.A x.list.l.length x.list.c]
theorem XCache.cells_length (x : XCache) : x.cells.length = 3 := rfl
structure XCache.ok (W : World) (B : Nat) (x : XCache) : Prop where
  list : x.list.ok W B PDesc.cells
theorem XCache.ok.below {w w' : World} {B : Nat} {x : XCache} (h : x.ok w B) (hb : Below B w w') : x.ok w' B := ⟨h.list.below hb⟩
theorem XCache.ok.mono {w : World} {B B' : Nat} {x : XCache} (h : x.ok w B) (hb : B ≤ B') : x.ok w B' := ⟨h.list.mono hb⟩
theorem XCache.ok.ext {w w' : World} {x : XCache} (h : x.ok w w.heap.size) (hb : Ext w w') : x.ok w' w'.heap.size := (h.below hb).mono hb.size
theorem XCache.zero_ok (w : World) (B : Nat) : XCache.zero.ok w B := ⟨LX.ok.nil⟩
theorem XCache.zero_data : XCache.zero.data = PCache.zero := rfl
instance : Inhabited XCache := ⟨XCache.zero⟩

structure PEdge where
  has : Bool
  min : Int
  max : Int
  deriving DecidableEq
def PEdge.zero : PEdge := ⟨false, 0, 0⟩
def PEdge.wf (x : PEdge) : Prop := inI64 x.min ∧ inI64 x.max
def PEdge.cells (x : PEdge) : List Value := [.bool x.has, .int .i64 x.min, .int .i64 x.max]
theorem PEdge.cells_length (x : PEdge) : x.cells.length = 3 := rfl
instance : Inhabited PEdge := ⟨PEdge.zero⟩

structure PMail where
  kind : Int
  from_ : Int
  to : Int
  epoch : Int
  number : Int
  about : Int
  give : PMass
  wants : Bool
  list : List PDesc
  edge : PEdge
  least : List Nat
  deriving DecidableEq
def PMail.zero : PMail := ⟨0, 0, 0, 0, 0, 0, PMass.zero, false, [], PEdge.zero, []⟩
def PMail.wf (x : PMail) : Prop := (0 ≤ x.kind ∧ x.kind ≤ 255) ∧ inI64 x.from_ ∧ inI64 x.to ∧ inI64 x.epoch ∧ inI64 x.number ∧ inI64 x.about ∧ x.give.wf ∧ (∀ n ∈ x.list, PDesc.wf n) ∧ x.edge.wf ∧ (∀ n ∈ x.least, n < 4294967296)
structure XMail where
  kind : Int
  from_ : Int
  to : Int
  epoch : Int
  number : Int
  about : Int
  give : XMass
  wants : Bool
  list : LX PDesc
  edge : PEdge
  least : LX Nat
def XMail.zero : XMail := ⟨0, 0, 0, 0, 0, 0, XMass.zero, false, ⟨[], none, 0⟩, PEdge.zero, ⟨[], none, 0⟩⟩
def XMail.data (x : XMail) : PMail := ⟨x.kind, x.from_, x.to, x.epoch, x.number, x.about, x.give.data, x.wants, x.list.l, x.edge, x.least.l⟩
def XMail.cells (x : XMail) : List Value := [.int .u8 x.kind, .int .i64 x.from_, .int .i64 x.to, .int .i64 x.epoch, .int .i64 x.number, .int .i64 x.about, .bool x.give.s.neg, .slice x.give.s.limbs.A x.give.s.limbs.l.length x.give.s.limbs.c, .int .i64 x.give.s.exp, .bool x.give.w.neg, .slice x.give.w.limbs.A x.give.w.limbs.l.length x.give.w.limbs.c, .int .i64 x.give.w.exp, .bool x.give.c.neg, .slice x.give.c.limbs.A x.give.c.limbs.l.length x.give.c.limbs.c, .int .i64 x.give.c.exp, .bool x.give.a.neg, .slice x.give.a.limbs.A x.give.a.limbs.l.length x.give.a.limbs.c, .int .i64 x.give.a.exp, .bool x.wants, .slice x.list.A x.list.l.length x.list.c, .bool x.edge.has, .int .i64 x.edge.min, .int .i64 x.edge.max, .slice x.least.A x.least.l.length x.least.c]
theorem XMail.cells_length (x : XMail) : x.cells.length = 24 := rfl
structure XMail.ok (W : World) (B : Nat) (x : XMail) : Prop where
  give : x.give.ok W B
  list : x.list.ok W B PDesc.cells
  least : x.least.ok W B cU32
theorem XMail.ok.below {w w' : World} {B : Nat} {x : XMail} (h : x.ok w B) (hb : Below B w w') : x.ok w' B := ⟨h.give.below hb, h.list.below hb, h.least.below hb⟩
theorem XMail.ok.mono {w : World} {B B' : Nat} {x : XMail} (h : x.ok w B) (hb : B ≤ B') : x.ok w B' := ⟨h.give.mono hb, h.list.mono hb, h.least.mono hb⟩
theorem XMail.ok.ext {w w' : World} {x : XMail} (h : x.ok w w.heap.size) (hb : Ext w w') : x.ok w' w'.heap.size := (h.below hb).mono hb.size
theorem XMail.zero_ok (w : World) (B : Nat) : XMail.zero.ok w B := ⟨XMass.zero_ok w B, LX.ok.nil, LX.ok.nil⟩
theorem XMail.zero_data : XMail.zero.data = PMail.zero := rfl
instance : Inhabited XMail := ⟨XMail.zero⟩

structure PCopy where
  number : Int
  to : Int
  text : List Nat
  spoilt : Bool
  deriving DecidableEq
def PCopy.zero : PCopy := ⟨0, 0, [], false⟩
def PCopy.wf (x : PCopy) : Prop := inI64 x.number ∧ inI64 x.to ∧ (∀ n ∈ x.text, n < 256)
structure XCopy where
  number : Int
  to : Int
  text : LX Nat
  spoilt : Bool
def XCopy.zero : XCopy := ⟨0, 0, ⟨[], none, 0⟩, false⟩
def XCopy.data (x : XCopy) : PCopy := ⟨x.number, x.to, x.text.l, x.spoilt⟩
def XCopy.cells (x : XCopy) : List Value := [.int .i64 x.number, .int .i64 x.to, .slice x.text.A x.text.l.length x.text.c, .bool x.spoilt]
theorem XCopy.cells_length (x : XCopy) : x.cells.length = 4 := rfl
structure XCopy.ok (W : World) (B : Nat) (x : XCopy) : Prop where
  text : x.text.ok W B cU8
theorem XCopy.ok.below {w w' : World} {B : Nat} {x : XCopy} (h : x.ok w B) (hb : Below B w w') : x.ok w' B := ⟨h.text.below hb⟩
theorem XCopy.ok.mono {w : World} {B B' : Nat} {x : XCopy} (h : x.ok w B) (hb : B ≤ B') : x.ok w B' := ⟨h.text.mono hb⟩
theorem XCopy.ok.ext {w w' : World} {x : XCopy} (h : x.ok w w.heap.size) (hb : Ext w w') : x.ok w' w'.heap.size := (h.below hb).mono hb.size
theorem XCopy.zero_ok (w : World) (B : Nat) : XCopy.zero.ok w B := ⟨LX.ok.nil⟩
theorem XCopy.zero_data : XCopy.zero.data = PCopy.zero := rfl
instance : Inhabited XCopy := ⟨XCopy.zero⟩

structure PLoad where
  number : Int
  epoch : Int
  copies : Int
  give : PMass
  deriving DecidableEq
def PLoad.zero : PLoad := ⟨0, 0, 0, PMass.zero⟩
def PLoad.wf (x : PLoad) : Prop := inI64 x.number ∧ inI64 x.epoch ∧ inI64 x.copies ∧ x.give.wf
structure XLoad where
  number : Int
  epoch : Int
  copies : Int
  give : XMass
def XLoad.zero : XLoad := ⟨0, 0, 0, XMass.zero⟩
def XLoad.data (x : XLoad) : PLoad := ⟨x.number, x.epoch, x.copies, x.give.data⟩
def XLoad.cells (x : XLoad) : List Value := [.int .i64 x.number, .int .i64 x.epoch, .int .i64 x.copies, .bool x.give.s.neg, .slice x.give.s.limbs.A x.give.s.limbs.l.length x.give.s.limbs.c, .int .i64 x.give.s.exp, .bool x.give.w.neg, .slice x.give.w.limbs.A x.give.w.limbs.l.length x.give.w.limbs.c, .int .i64 x.give.w.exp, .bool x.give.c.neg, .slice x.give.c.limbs.A x.give.c.limbs.l.length x.give.c.limbs.c, .int .i64 x.give.c.exp, .bool x.give.a.neg, .slice x.give.a.limbs.A x.give.a.limbs.l.length x.give.a.limbs.c, .int .i64 x.give.a.exp]
theorem XLoad.cells_length (x : XLoad) : x.cells.length = 15 := rfl
structure XLoad.ok (W : World) (B : Nat) (x : XLoad) : Prop where
  give : x.give.ok W B
theorem XLoad.ok.below {w w' : World} {B : Nat} {x : XLoad} (h : x.ok w B) (hb : Below B w w') : x.ok w' B := ⟨h.give.below hb⟩
theorem XLoad.ok.mono {w : World} {B B' : Nat} {x : XLoad} (h : x.ok w B) (hb : B ≤ B') : x.ok w B' := ⟨h.give.mono hb⟩
theorem XLoad.ok.ext {w w' : World} {x : XLoad} (h : x.ok w w.heap.size) (hb : Ext w w') : x.ok w' w'.heap.size := (h.below hb).mono hb.size
theorem XLoad.zero_ok (w : World) (B : Nat) : XLoad.zero.ok w B := ⟨XMass.zero_ok w B⟩
theorem XLoad.zero_data : XLoad.zero.data = PLoad.zero := rfl
instance : Inhabited XLoad := ⟨XLoad.zero⟩

structure PTimer where
  at_ : Int
  number : Int
  deriving DecidableEq
def PTimer.zero : PTimer := ⟨0, 0⟩
def PTimer.wf (x : PTimer) : Prop := inI64 x.at_ ∧ inI64 x.number
def PTimer.cells (x : PTimer) : List Value := [.int .i64 x.at_, .int .i64 x.number]
theorem PTimer.cells_length (x : PTimer) : x.cells.length = 2 := rfl
instance : Inhabited PTimer := ⟨PTimer.zero⟩

structure PClock where
  len : Int
  tick : Int
  since : Int
  epoch : Int
  from_ : Int
  deriving DecidableEq
def PClock.zero : PClock := ⟨0, 0, 0, 0, 0⟩
def PClock.wf (x : PClock) : Prop := inI64 x.len ∧ inI64 x.tick ∧ inI64 x.since ∧ inI64 x.epoch ∧ inI64 x.from_
def PClock.cells (x : PClock) : List Value := [.int .i64 x.len, .int .i64 x.tick, .int .i64 x.since, .int .i64 x.epoch, .int .i64 x.from_]
theorem PClock.cells_length (x : PClock) : x.cells.length = 5 := rfl
instance : Inhabited PClock := ⟨PClock.zero⟩

structure PPart where
  held : PMass
  edge : PEdge
  least : List Nat
  deriving DecidableEq
def PPart.zero : PPart := ⟨PMass.zero, PEdge.zero, []⟩
def PPart.wf (x : PPart) : Prop := x.held.wf ∧ x.edge.wf ∧ (∀ n ∈ x.least, n < 4294967296)
structure XPart where
  held : XMass
  edge : PEdge
  least : LX Nat
def XPart.zero : XPart := ⟨XMass.zero, PEdge.zero, ⟨[], none, 0⟩⟩
def XPart.data (x : XPart) : PPart := ⟨x.held.data, x.edge, x.least.l⟩
def XPart.cells (x : XPart) : List Value := [.bool x.held.s.neg, .slice x.held.s.limbs.A x.held.s.limbs.l.length x.held.s.limbs.c, .int .i64 x.held.s.exp, .bool x.held.w.neg, .slice x.held.w.limbs.A x.held.w.limbs.l.length x.held.w.limbs.c, .int .i64 x.held.w.exp, .bool x.held.c.neg, .slice x.held.c.limbs.A x.held.c.limbs.l.length x.held.c.limbs.c, .int .i64 x.held.c.exp, .bool x.held.a.neg, .slice x.held.a.limbs.A x.held.a.limbs.l.length x.held.a.limbs.c, .int .i64 x.held.a.exp, .bool x.edge.has, .int .i64 x.edge.min, .int .i64 x.edge.max, .slice x.least.A x.least.l.length x.least.c]
theorem XPart.cells_length (x : XPart) : x.cells.length = 16 := rfl
structure XPart.ok (W : World) (B : Nat) (x : XPart) : Prop where
  held : x.held.ok W B
  least : x.least.ok W B cU32
theorem XPart.ok.below {w w' : World} {B : Nat} {x : XPart} (h : x.ok w B) (hb : Below B w w') : x.ok w' B := ⟨h.held.below hb, h.least.below hb⟩
theorem XPart.ok.mono {w : World} {B B' : Nat} {x : XPart} (h : x.ok w B) (hb : B ≤ B') : x.ok w B' := ⟨h.held.mono hb, h.least.mono hb⟩
theorem XPart.ok.ext {w w' : World} {x : XPart} (h : x.ok w w.heap.size) (hb : Ext w w') : x.ok w' w'.heap.size := (h.below hb).mono hb.size
theorem XPart.zero_ok (w : World) (B : Nat) : XPart.zero.ok w B := ⟨XMass.zero_ok w B, LX.ok.nil⟩
theorem XPart.zero_data : XPart.zero.data = PPart.zero := rfl
instance : Inhabited XPart := ⟨XPart.zero⟩

structure PFrozen where
  epoch : Int
  part : PPart
  deriving DecidableEq
def PFrozen.zero : PFrozen := ⟨0, PPart.zero⟩
def PFrozen.wf (x : PFrozen) : Prop := inI64 x.epoch ∧ x.part.wf
structure XFrozen where
  epoch : Int
  part : XPart
def XFrozen.zero : XFrozen := ⟨0, XPart.zero⟩
def XFrozen.data (x : XFrozen) : PFrozen := ⟨x.epoch, x.part.data⟩
def XFrozen.cells (x : XFrozen) : List Value := [.int .i64 x.epoch, .bool x.part.held.s.neg, .slice x.part.held.s.limbs.A x.part.held.s.limbs.l.length x.part.held.s.limbs.c, .int .i64 x.part.held.s.exp, .bool x.part.held.w.neg, .slice x.part.held.w.limbs.A x.part.held.w.limbs.l.length x.part.held.w.limbs.c, .int .i64 x.part.held.w.exp, .bool x.part.held.c.neg, .slice x.part.held.c.limbs.A x.part.held.c.limbs.l.length x.part.held.c.limbs.c, .int .i64 x.part.held.c.exp, .bool x.part.held.a.neg, .slice x.part.held.a.limbs.A x.part.held.a.limbs.l.length x.part.held.a.limbs.c, .int .i64 x.part.held.a.exp, .bool x.part.edge.has, .int .i64 x.part.edge.min, .int .i64 x.part.edge.max, .slice x.part.least.A x.part.least.l.length x.part.least.c]
theorem XFrozen.cells_length (x : XFrozen) : x.cells.length = 17 := rfl
structure XFrozen.ok (W : World) (B : Nat) (x : XFrozen) : Prop where
  part : x.part.ok W B
theorem XFrozen.ok.below {w w' : World} {B : Nat} {x : XFrozen} (h : x.ok w B) (hb : Below B w w') : x.ok w' B := ⟨h.part.below hb⟩
theorem XFrozen.ok.mono {w : World} {B B' : Nat} {x : XFrozen} (h : x.ok w B) (hb : B ≤ B') : x.ok w B' := ⟨h.part.mono hb⟩
theorem XFrozen.ok.ext {w w' : World} {x : XFrozen} (h : x.ok w w.heap.size) (hb : Ext w w') : x.ok w' w'.heap.size := (h.below hb).mono hb.size
theorem XFrozen.zero_ok (w : World) (B : Nat) : XFrozen.zero.ok w B := ⟨XPart.zero_ok w B⟩
theorem XFrozen.zero_data : XFrozen.zero.data = PFrozen.zero := rfl
instance : Inhabited XFrozen := ⟨XFrozen.zero⟩

structure PEntry where
  epoch : Int
  why : Int
  give : PMass
  deriving DecidableEq
def PEntry.zero : PEntry := ⟨0, 0, PMass.zero⟩
def PEntry.wf (x : PEntry) : Prop := inI64 x.epoch ∧ (0 ≤ x.why ∧ x.why ≤ 255) ∧ x.give.wf
structure XEntry where
  epoch : Int
  why : Int
  give : XMass
def XEntry.zero : XEntry := ⟨0, 0, XMass.zero⟩
def XEntry.data (x : XEntry) : PEntry := ⟨x.epoch, x.why, x.give.data⟩
def XEntry.cells (x : XEntry) : List Value := [.int .i64 x.epoch, .int .u8 x.why, .bool x.give.s.neg, .slice x.give.s.limbs.A x.give.s.limbs.l.length x.give.s.limbs.c, .int .i64 x.give.s.exp, .bool x.give.w.neg, .slice x.give.w.limbs.A x.give.w.limbs.l.length x.give.w.limbs.c, .int .i64 x.give.w.exp, .bool x.give.c.neg, .slice x.give.c.limbs.A x.give.c.limbs.l.length x.give.c.limbs.c, .int .i64 x.give.c.exp, .bool x.give.a.neg, .slice x.give.a.limbs.A x.give.a.limbs.l.length x.give.a.limbs.c, .int .i64 x.give.a.exp]
theorem XEntry.cells_length (x : XEntry) : x.cells.length = 14 := rfl
structure XEntry.ok (W : World) (B : Nat) (x : XEntry) : Prop where
  give : x.give.ok W B
theorem XEntry.ok.below {w w' : World} {B : Nat} {x : XEntry} (h : x.ok w B) (hb : Below B w w') : x.ok w' B := ⟨h.give.below hb⟩
theorem XEntry.ok.mono {w : World} {B B' : Nat} {x : XEntry} (h : x.ok w B) (hb : B ≤ B') : x.ok w B' := ⟨h.give.mono hb⟩
theorem XEntry.ok.ext {w w' : World} {x : XEntry} (h : x.ok w w.heap.size) (hb : Ext w w') : x.ok w' w'.heap.size := (h.below hb).mono hb.size
theorem XEntry.zero_ok (w : World) (B : Nat) : XEntry.zero.ok w B := ⟨XMass.zero_ok w B⟩
theorem XEntry.zero_data : XEntry.zero.data = PEntry.zero := rfl
instance : Inhabited XEntry := ⟨XEntry.zero⟩

structure PWait where
  out : Bool
  number : Int
  to : Int
  deriving DecidableEq
def PWait.zero : PWait := ⟨false, 0, 0⟩
def PWait.wf (x : PWait) : Prop := inI64 x.number ∧ inI64 x.to
def PWait.cells (x : PWait) : List Value := [.bool x.out, .int .i64 x.number, .int .i64 x.to]
theorem PWait.cells_length (x : PWait) : x.cells.length = 3 := rfl
instance : Inhabited PWait := ⟨PWait.zero⟩

structure PNode where
  id : Int
  value : Int
  up : Bool
  clock : PClock
  part : PPart
  wait : PWait
  heard : List Int
  cache : PCache
  past : List PFrozen
  timers : List PTimer
  deriving DecidableEq
def PNode.zero : PNode := ⟨0, 0, false, PClock.zero, PPart.zero, PWait.zero, [], PCache.zero, [], []⟩
def PNode.wf (x : PNode) : Prop := inI64 x.id ∧ inI64 x.value ∧ x.clock.wf ∧ x.part.wf ∧ x.wait.wf ∧ (∀ n ∈ x.heard, inI64 n) ∧ x.cache.wf ∧ (∀ n ∈ x.past, PFrozen.wf n) ∧ (∀ n ∈ x.timers, PTimer.wf n)
structure XNode where
  id : Int
  value : Int
  up : Bool
  clock : PClock
  part : XPart
  wait : PWait
  heard : LX Int
  cache : XCache
  past : LX XFrozen
  timers : LX PTimer
def XNode.zero : XNode := ⟨0, 0, false, PClock.zero, XPart.zero, PWait.zero, ⟨[], none, 0⟩, XCache.zero, ⟨[], none, 0⟩, ⟨[], none, 0⟩⟩
def XNode.data (x : XNode) : PNode := ⟨x.id, x.value, x.up, x.clock, x.part.data, x.wait, x.heard.l, x.cache.data, x.past.l.map XFrozen.data, x.timers.l⟩
def XNode.cells (x : XNode) : List Value := [.int .i64 x.id, .int .i64 x.value, .bool x.up, .int .i64 x.clock.len, .int .i64 x.clock.tick, .int .i64 x.clock.since, .int .i64 x.clock.epoch, .int .i64 x.clock.from_, .bool x.part.held.s.neg, .slice x.part.held.s.limbs.A x.part.held.s.limbs.l.length x.part.held.s.limbs.c, .int .i64 x.part.held.s.exp, .bool x.part.held.w.neg, .slice x.part.held.w.limbs.A x.part.held.w.limbs.l.length x.part.held.w.limbs.c, .int .i64 x.part.held.w.exp, .bool x.part.held.c.neg, .slice x.part.held.c.limbs.A x.part.held.c.limbs.l.length x.part.held.c.limbs.c, .int .i64 x.part.held.c.exp, .bool x.part.held.a.neg, .slice x.part.held.a.limbs.A x.part.held.a.limbs.l.length x.part.held.a.limbs.c, .int .i64 x.part.held.a.exp, .bool x.part.edge.has, .int .i64 x.part.edge.min, .int .i64 x.part.edge.max, .slice x.part.least.A x.part.least.l.length x.part.least.c, .bool x.wait.out, .int .i64 x.wait.number, .int .i64 x.wait.to, .slice x.heard.A x.heard.l.length x.heard.c, .int .i64 x.cache.own, .int .i64 x.cache.cap, .slice x.cache.list.A x.cache.list.l.length x.cache.list.c, .slice x.past.A x.past.l.length x.past.c, .slice x.timers.A x.timers.l.length x.timers.c]
theorem XNode.cells_length (x : XNode) : x.cells.length = 33 := rfl
structure XNode.ok (W : World) (B : Nat) (x : XNode) : Prop where
  part : x.part.ok W B
  heard : x.heard.ok W B cInt
  cache : x.cache.ok W B
  past : x.past.ok W B XFrozen.cells
  past_ : ∀ y ∈ x.past.l, XFrozen.ok W B y
  timers : x.timers.ok W B PTimer.cells
theorem XNode.ok.below {w w' : World} {B : Nat} {x : XNode} (h : x.ok w B) (hb : Below B w w') : x.ok w' B := ⟨h.part.below hb, h.heard.below hb, h.cache.below hb, h.past.below hb, fun y hy => (h.past_ y hy).below hb, h.timers.below hb⟩
theorem XNode.ok.mono {w : World} {B B' : Nat} {x : XNode} (h : x.ok w B) (hb : B ≤ B') : x.ok w B' := ⟨h.part.mono hb, h.heard.mono hb, h.cache.mono hb, h.past.mono hb, fun y hy => (h.past_ y hy).mono hb, h.timers.mono hb⟩
theorem XNode.ok.ext {w w' : World} {x : XNode} (h : x.ok w w.heap.size) (hb : Ext w w') : x.ok w' w'.heap.size := (h.below hb).mono hb.size
theorem XNode.zero_ok (w : World) (B : Nat) : XNode.zero.ok w B := ⟨XPart.zero_ok w B, LX.ok.nil, XCache.zero_ok w B, LX.ok.nil, (fun y hy => by cases hy), LX.ok.nil⟩
theorem XNode.zero_data : XNode.zero.data = PNode.zero := rfl
instance : Inhabited XNode := ⟨XNode.zero⟩

structure PDeed where
  node : PNode
  sends : Bool
  again : Bool
  turned : Bool
  mail : PMail
  why : Int
  deriving DecidableEq
def PDeed.zero : PDeed := ⟨PNode.zero, false, false, false, PMail.zero, 0⟩
def PDeed.wf (x : PDeed) : Prop := x.node.wf ∧ x.mail.wf ∧ (0 ≤ x.why ∧ x.why ≤ 255)
structure XDeed where
  node : XNode
  sends : Bool
  again : Bool
  turned : Bool
  mail : XMail
  why : Int
def XDeed.zero : XDeed := ⟨XNode.zero, false, false, false, XMail.zero, 0⟩
def XDeed.data (x : XDeed) : PDeed := ⟨x.node.data, x.sends, x.again, x.turned, x.mail.data, x.why⟩
def XDeed.cells (x : XDeed) : List Value := [.int .i64 x.node.id, .int .i64 x.node.value, .bool x.node.up, .int .i64 x.node.clock.len, .int .i64 x.node.clock.tick, .int .i64 x.node.clock.since, .int .i64 x.node.clock.epoch, .int .i64 x.node.clock.from_, .bool x.node.part.held.s.neg, .slice x.node.part.held.s.limbs.A x.node.part.held.s.limbs.l.length x.node.part.held.s.limbs.c, .int .i64 x.node.part.held.s.exp, .bool x.node.part.held.w.neg, .slice x.node.part.held.w.limbs.A x.node.part.held.w.limbs.l.length x.node.part.held.w.limbs.c, .int .i64 x.node.part.held.w.exp, .bool x.node.part.held.c.neg, .slice x.node.part.held.c.limbs.A x.node.part.held.c.limbs.l.length x.node.part.held.c.limbs.c, .int .i64 x.node.part.held.c.exp, .bool x.node.part.held.a.neg, .slice x.node.part.held.a.limbs.A x.node.part.held.a.limbs.l.length x.node.part.held.a.limbs.c, .int .i64 x.node.part.held.a.exp, .bool x.node.part.edge.has, .int .i64 x.node.part.edge.min, .int .i64 x.node.part.edge.max, .slice x.node.part.least.A x.node.part.least.l.length x.node.part.least.c, .bool x.node.wait.out, .int .i64 x.node.wait.number, .int .i64 x.node.wait.to, .slice x.node.heard.A x.node.heard.l.length x.node.heard.c, .int .i64 x.node.cache.own, .int .i64 x.node.cache.cap, .slice x.node.cache.list.A x.node.cache.list.l.length x.node.cache.list.c, .slice x.node.past.A x.node.past.l.length x.node.past.c, .slice x.node.timers.A x.node.timers.l.length x.node.timers.c, .bool x.sends, .bool x.again, .bool x.turned, .int .u8 x.mail.kind, .int .i64 x.mail.from_, .int .i64 x.mail.to, .int .i64 x.mail.epoch, .int .i64 x.mail.number, .int .i64 x.mail.about, .bool x.mail.give.s.neg, .slice x.mail.give.s.limbs.A x.mail.give.s.limbs.l.length x.mail.give.s.limbs.c, .int .i64 x.mail.give.s.exp, .bool x.mail.give.w.neg, .slice x.mail.give.w.limbs.A x.mail.give.w.limbs.l.length x.mail.give.w.limbs.c, .int .i64 x.mail.give.w.exp, .bool x.mail.give.c.neg, .slice x.mail.give.c.limbs.A x.mail.give.c.limbs.l.length x.mail.give.c.limbs.c, .int .i64 x.mail.give.c.exp, .bool x.mail.give.a.neg, .slice x.mail.give.a.limbs.A x.mail.give.a.limbs.l.length x.mail.give.a.limbs.c, .int .i64 x.mail.give.a.exp, .bool x.mail.wants, .slice x.mail.list.A x.mail.list.l.length x.mail.list.c, .bool x.mail.edge.has, .int .i64 x.mail.edge.min, .int .i64 x.mail.edge.max, .slice x.mail.least.A x.mail.least.l.length x.mail.least.c, .int .u8 x.why]
theorem XDeed.cells_length (x : XDeed) : x.cells.length = 61 := rfl
structure XDeed.ok (W : World) (B : Nat) (x : XDeed) : Prop where
  node : x.node.ok W B
  mail : x.mail.ok W B
theorem XDeed.ok.below {w w' : World} {B : Nat} {x : XDeed} (h : x.ok w B) (hb : Below B w w') : x.ok w' B := ⟨h.node.below hb, h.mail.below hb⟩
theorem XDeed.ok.mono {w : World} {B B' : Nat} {x : XDeed} (h : x.ok w B) (hb : B ≤ B') : x.ok w B' := ⟨h.node.mono hb, h.mail.mono hb⟩
theorem XDeed.ok.ext {w w' : World} {x : XDeed} (h : x.ok w w.heap.size) (hb : Ext w w') : x.ok w' w'.heap.size := (h.below hb).mono hb.size
theorem XDeed.zero_ok (w : World) (B : Nat) : XDeed.zero.ok w B := ⟨XNode.zero_ok w B, XMail.zero_ok w B⟩
theorem XDeed.zero_data : XDeed.zero.data = PDeed.zero := rfl
instance : Inhabited XDeed := ⟨XDeed.zero⟩

structure PTold where
  low : PDyad
  high : PDyad
  deriving DecidableEq
def PTold.zero : PTold := ⟨PDyad.zero, PDyad.zero⟩
def PTold.wf (x : PTold) : Prop := x.low.wf ∧ x.high.wf
structure XTold where
  low : XDyad
  high : XDyad
def XTold.zero : XTold := ⟨XDyad.zero, XDyad.zero⟩
def XTold.data (x : XTold) : PTold := ⟨x.low.data, x.high.data⟩
def XTold.cells (x : XTold) : List Value := [.bool x.low.neg, .slice x.low.limbs.A x.low.limbs.l.length x.low.limbs.c, .int .i64 x.low.exp, .bool x.high.neg, .slice x.high.limbs.A x.high.limbs.l.length x.high.limbs.c, .int .i64 x.high.exp]
theorem XTold.cells_length (x : XTold) : x.cells.length = 6 := rfl
structure XTold.ok (W : World) (B : Nat) (x : XTold) : Prop where
  low : x.low.ok W B
  high : x.high.ok W B
theorem XTold.ok.below {w w' : World} {B : Nat} {x : XTold} (h : x.ok w B) (hb : Below B w w') : x.ok w' B := ⟨h.low.below hb, h.high.below hb⟩
theorem XTold.ok.mono {w : World} {B B' : Nat} {x : XTold} (h : x.ok w B) (hb : B ≤ B') : x.ok w B' := ⟨h.low.mono hb, h.high.mono hb⟩
theorem XTold.ok.ext {w w' : World} {x : XTold} (h : x.ok w w.heap.size) (hb : Ext w w') : x.ok w' w'.heap.size := (h.below hb).mono hb.size
theorem XTold.zero_ok (w : World) (B : Nat) : XTold.zero.ok w B := ⟨XDyad.zero_ok w B, XDyad.zero_ok w B⟩
theorem XTold.zero_data : XTold.zero.data = PTold.zero := rfl
instance : Inhabited XTold := ⟨XTold.zero⟩

structure PConf where
  nodes : Int
  len : Int
  patience : Int
  cap : Int
  deriving DecidableEq
def PConf.zero : PConf := ⟨0, 0, 0, 0⟩
def PConf.wf (x : PConf) : Prop := inI64 x.nodes ∧ inI64 x.len ∧ inI64 x.patience ∧ inI64 x.cap
def PConf.cells (x : PConf) : List Value := [.int .i64 x.nodes, .int .i64 x.len, .int .i64 x.patience, .int .i64 x.cap]
theorem PConf.cells_length (x : PConf) : x.cells.length = 4 := rfl
instance : Inhabited PConf := ⟨PConf.zero⟩

structure PSeed where
  epoch : Int
  node : Int
  value : Int
  deriving DecidableEq
def PSeed.zero : PSeed := ⟨0, 0, 0⟩
def PSeed.wf (x : PSeed) : Prop := inI64 x.epoch ∧ inI64 x.node ∧ inI64 x.value
def PSeed.cells (x : PSeed) : List Value := [.int .i64 x.epoch, .int .i64 x.node, .int .i64 x.value]
theorem PSeed.cells_length (x : PSeed) : x.cells.length = 3 := rfl
instance : Inhabited PSeed := ⟨PSeed.zero⟩

structure PWorld where
  conf : PConf
  nodes : List PNode
  net : List PCopy
  loads : List PLoad
  ledger : List PEntry
  seeds : List PSeed
  next : Int
  deriving DecidableEq
def PWorld.zero : PWorld := ⟨PConf.zero, [], [], [], [], [], 0⟩
def PWorld.wf (x : PWorld) : Prop := x.conf.wf ∧ (∀ n ∈ x.nodes, PNode.wf n) ∧ (∀ n ∈ x.net, PCopy.wf n) ∧ (∀ n ∈ x.loads, PLoad.wf n) ∧ (∀ n ∈ x.ledger, PEntry.wf n) ∧ (∀ n ∈ x.seeds, PSeed.wf n) ∧ inI64 x.next
structure XWorld where
  conf : PConf
  nodes : LX XNode
  net : LX XCopy
  loads : LX XLoad
  ledger : LX XEntry
  seeds : LX PSeed
  next : Int
def XWorld.zero : XWorld := ⟨PConf.zero, ⟨[], none, 0⟩, ⟨[], none, 0⟩, ⟨[], none, 0⟩, ⟨[], none, 0⟩, ⟨[], none, 0⟩, 0⟩
def XWorld.data (x : XWorld) : PWorld := ⟨x.conf, x.nodes.l.map XNode.data, x.net.l.map XCopy.data, x.loads.l.map XLoad.data, x.ledger.l.map XEntry.data, x.seeds.l, x.next⟩
def XWorld.cells (x : XWorld) : List Value := [.int .i64 x.conf.nodes, .int .i64 x.conf.len, .int .i64 x.conf.patience, .int .i64 x.conf.cap, .slice x.nodes.A x.nodes.l.length x.nodes.c, .slice x.net.A x.net.l.length x.net.c, .slice x.loads.A x.loads.l.length x.loads.c, .slice x.ledger.A x.ledger.l.length x.ledger.c, .slice x.seeds.A x.seeds.l.length x.seeds.c, .int .i64 x.next]
theorem XWorld.cells_length (x : XWorld) : x.cells.length = 10 := rfl
structure XWorld.ok (W : World) (B : Nat) (x : XWorld) : Prop where
  nodes : x.nodes.ok W B XNode.cells
  nodes_ : ∀ y ∈ x.nodes.l, XNode.ok W B y
  net : x.net.ok W B XCopy.cells
  net_ : ∀ y ∈ x.net.l, XCopy.ok W B y
  loads : x.loads.ok W B XLoad.cells
  loads_ : ∀ y ∈ x.loads.l, XLoad.ok W B y
  ledger : x.ledger.ok W B XEntry.cells
  ledger_ : ∀ y ∈ x.ledger.l, XEntry.ok W B y
  seeds : x.seeds.ok W B PSeed.cells
theorem XWorld.ok.below {w w' : World} {B : Nat} {x : XWorld} (h : x.ok w B) (hb : Below B w w') : x.ok w' B := ⟨h.nodes.below hb, fun y hy => (h.nodes_ y hy).below hb, h.net.below hb, fun y hy => (h.net_ y hy).below hb, h.loads.below hb, fun y hy => (h.loads_ y hy).below hb, h.ledger.below hb, fun y hy => (h.ledger_ y hy).below hb, h.seeds.below hb⟩
theorem XWorld.ok.mono {w : World} {B B' : Nat} {x : XWorld} (h : x.ok w B) (hb : B ≤ B') : x.ok w B' := ⟨h.nodes.mono hb, fun y hy => (h.nodes_ y hy).mono hb, h.net.mono hb, fun y hy => (h.net_ y hy).mono hb, h.loads.mono hb, fun y hy => (h.loads_ y hy).mono hb, h.ledger.mono hb, fun y hy => (h.ledger_ y hy).mono hb, h.seeds.mono hb⟩
theorem XWorld.ok.ext {w w' : World} {x : XWorld} (h : x.ok w w.heap.size) (hb : Ext w w') : x.ok w' w'.heap.size := (h.below hb).mono hb.size
theorem XWorld.zero_ok (w : World) (B : Nat) : XWorld.zero.ok w B := ⟨LX.ok.nil, (fun y hy => by cases hy), LX.ok.nil, (fun y hy => by cases hy), LX.ok.nil, (fun y hy => by cases hy), LX.ok.nil, (fun y hy => by cases hy), LX.ok.nil⟩
theorem XWorld.zero_data : XWorld.zero.data = PWorld.zero := rfl
instance : Inhabited XWorld := ⟨XWorld.zero⟩

structure PStep where
  op : Int
  id : Int
  arg : Int
  extra : Int
  draw : Int
  deriving DecidableEq
def PStep.zero : PStep := ⟨0, 0, 0, 0, 0⟩
def PStep.wf (x : PStep) : Prop := (0 ≤ x.op ∧ x.op ≤ 255) ∧ inI64 x.id ∧ inI64 x.arg ∧ inI64 x.extra ∧ (0 ≤ x.draw ∧ x.draw ≤ 18446744073709551615)
def PStep.cells (x : PStep) : List Value := [.int .u8 x.op, .int .i64 x.id, .int .i64 x.arg, .int .i64 x.extra, .int .u64 x.draw]
theorem PStep.cells_length (x : PStep) : x.cells.length = 5 := rfl
instance : Inhabited PStep := ⟨PStep.zero⟩

structure PAnswer where
  e : Int
  to : Int
  number : Int
  told : PTold
  deriving DecidableEq
def PAnswer.zero : PAnswer := ⟨0, 0, 0, PTold.zero⟩
def PAnswer.wf (x : PAnswer) : Prop := inI64 x.e ∧ inI64 x.to ∧ inI64 x.number ∧ x.told.wf
structure XAnswer where
  e : Int
  to : Int
  number : Int
  told : XTold
def XAnswer.zero : XAnswer := ⟨0, 0, 0, XTold.zero⟩
def XAnswer.data (x : XAnswer) : PAnswer := ⟨x.e, x.to, x.number, x.told.data⟩
def XAnswer.cells (x : XAnswer) : List Value := [.int .i64 x.e, .int .i64 x.to, .int .i64 x.number, .bool x.told.low.neg, .slice x.told.low.limbs.A x.told.low.limbs.l.length x.told.low.limbs.c, .int .i64 x.told.low.exp, .bool x.told.high.neg, .slice x.told.high.limbs.A x.told.high.limbs.l.length x.told.high.limbs.c, .int .i64 x.told.high.exp]
theorem XAnswer.cells_length (x : XAnswer) : x.cells.length = 9 := rfl
structure XAnswer.ok (W : World) (B : Nat) (x : XAnswer) : Prop where
  told : x.told.ok W B
theorem XAnswer.ok.below {w w' : World} {B : Nat} {x : XAnswer} (h : x.ok w B) (hb : Below B w w') : x.ok w' B := ⟨h.told.below hb⟩
theorem XAnswer.ok.mono {w : World} {B B' : Nat} {x : XAnswer} (h : x.ok w B) (hb : B ≤ B') : x.ok w B' := ⟨h.told.mono hb⟩
theorem XAnswer.ok.ext {w w' : World} {x : XAnswer} (h : x.ok w w.heap.size) (hb : Ext w w') : x.ok w' w'.heap.size := (h.below hb).mono hb.size
theorem XAnswer.zero_ok (w : World) (B : Nat) : XAnswer.zero.ok w B := ⟨XTold.zero_ok w B⟩
theorem XAnswer.zero_data : XAnswer.zero.data = PAnswer.zero := rfl
instance : Inhabited XAnswer := ⟨XAnswer.zero⟩

structure PMeeting where
  asks : Int
  asked : Int
  deriving DecidableEq
def PMeeting.zero : PMeeting := ⟨0, 0⟩
def PMeeting.wf (x : PMeeting) : Prop := inI64 x.asks ∧ inI64 x.asked
def PMeeting.cells (x : PMeeting) : List Value := [.int .i64 x.asks, .int .i64 x.asked]
theorem PMeeting.cells_length (x : PMeeting) : x.cells.length = 2 := rfl
instance : Inhabited PMeeting := ⟨PMeeting.zero⟩

structure PEvent where
  step : Int
  kind : Int
  node : Int
  epoch : Int
  number : Int
  deriving DecidableEq
def PEvent.zero : PEvent := ⟨0, 0, 0, 0, 0⟩
def PEvent.wf (x : PEvent) : Prop := inI64 x.step ∧ (0 ≤ x.kind ∧ x.kind ≤ 255) ∧ inI64 x.node ∧ inI64 x.epoch ∧ inI64 x.number
def PEvent.cells (x : PEvent) : List Value := [.int .i64 x.step, .int .u8 x.kind, .int .i64 x.node, .int .i64 x.epoch, .int .i64 x.number]
theorem PEvent.cells_length (x : PEvent) : x.cells.length = 5 := rfl
instance : Inhabited PEvent := ⟨PEvent.zero⟩

structure PTale where
  conf : PConf
  values : List Int
  steps : List PStep
  deriving DecidableEq
def PTale.zero : PTale := ⟨PConf.zero, [], []⟩
def PTale.wf (x : PTale) : Prop := x.conf.wf ∧ (∀ n ∈ x.values, inI64 n) ∧ (∀ n ∈ x.steps, PStep.wf n)
structure XTale where
  conf : PConf
  values : LX Int
  steps : LX PStep
def XTale.zero : XTale := ⟨PConf.zero, ⟨[], none, 0⟩, ⟨[], none, 0⟩⟩
def XTale.data (x : XTale) : PTale := ⟨x.conf, x.values.l, x.steps.l⟩
def XTale.cells (x : XTale) : List Value := [.int .i64 x.conf.nodes, .int .i64 x.conf.len, .int .i64 x.conf.patience, .int .i64 x.conf.cap, .slice x.values.A x.values.l.length x.values.c, .slice x.steps.A x.steps.l.length x.steps.c]
theorem XTale.cells_length (x : XTale) : x.cells.length = 6 := rfl
structure XTale.ok (W : World) (B : Nat) (x : XTale) : Prop where
  values : x.values.ok W B cInt
  steps : x.steps.ok W B PStep.cells
theorem XTale.ok.below {w w' : World} {B : Nat} {x : XTale} (h : x.ok w B) (hb : Below B w w') : x.ok w' B := ⟨h.values.below hb, h.steps.below hb⟩
theorem XTale.ok.mono {w : World} {B B' : Nat} {x : XTale} (h : x.ok w B) (hb : B ≤ B') : x.ok w B' := ⟨h.values.mono hb, h.steps.mono hb⟩
theorem XTale.ok.ext {w w' : World} {x : XTale} (h : x.ok w w.heap.size) (hb : Ext w w') : x.ok w' w'.heap.size := (h.below hb).mono hb.size
theorem XTale.zero_ok (w : World) (B : Nat) : XTale.zero.ok w B := ⟨LX.ok.nil, LX.ok.nil⟩
theorem XTale.zero_data : XTale.zero.data = PTale.zero := rfl
instance : Inhabited XTale := ⟨XTale.zero⟩

end Go.Hx
