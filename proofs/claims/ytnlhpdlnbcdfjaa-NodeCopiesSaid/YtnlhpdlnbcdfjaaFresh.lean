/- Data that is small enough to be copied; data that lies in new memory. Printed by gen_fresh.py. -/
import Derived.Test.YtnlhpdlnbcdfjaaRows
import Derived.Test.YtnlhpdlnbcdfjaaShape
namespace Go.Proofs.Ytnlhpdlnbcdfjaa
open Go.RowKit Go.Hx
end Go.Proofs.Ytnlhpdlnbcdfjaa
namespace Go.Hx
open Go.RowKit
def PDyad.small (x : PDyad) : Prop := x.limbs.length ≤ 1000000
structure XDyad.fresh (W : World) (B : Nat) (x : XDyad) : Prop where
  limbs : TRoom W B 91 x.limbs.A (x.limbs.l.length * 1)
theorem XDyad.fresh.ext {w w' : World} {B : Nat} {x : XDyad} (h : x.fresh w B) (k : Ext w w') : x.fresh w' B := ⟨h.limbs.ext k⟩
theorem XDyad.fresh.lower {w : World} {B B' : Nat} {x : XDyad} (h : x.fresh w B) (k : B' ≤ B) : x.fresh w B' := ⟨h.limbs.lower k⟩
theorem XDyad.fresh.shape {T : Nat → Prop} {w w' : World} {B : Nat} {x : XDyad} (h : x.fresh w B) (k : Shape T B w w') : x.fresh w' B := ⟨h.limbs.shape k⟩
theorem XDyad.zero_fresh (w : World) (B : Nat) : XDyad.zero.fresh w B := ⟨TRoom.nil⟩
structure XDyad.mine (W : World) (B : Nat) (x : XDyad) : Prop where
  limbs : Own W B 91 1 cU32 (.slice x.limbs.A x.limbs.l.length x.limbs.c) x.limbs.l
theorem XDyad.mine.ext {w w' : World} {B : Nat} {x : XDyad} (h : x.mine w B) (k : Ext w w') : x.mine w' B := ⟨h.limbs.ext k⟩
theorem XDyad.mine.lower {w : World} {B B' : Nat} {x : XDyad} (h : x.mine w B) (k : B' ≤ B) : x.mine w B' := ⟨h.limbs.lower k⟩
theorem XDyad.mine.shape {T : Nat → Prop} {w w' : World} {B C : Nat} {x : XDyad} (h : x.mine w B) (k : Shape T C w w') (nu32 : ¬T 91) : x.mine w' B := ⟨h.limbs.shape k nu32⟩
theorem XDyad.mine.ok {w : World} {B : Nat} {x : XDyad} (h : x.mine w B) : x.ok w w.heap.size := ⟨h.limbs.ok⟩
theorem XDyad.mine.fresh {w : World} {B : Nat} {x : XDyad} (h : x.mine w B) : x.fresh w B := ⟨TRoom.of_own h.limbs⟩

def PMass.small (x : PMass) : Prop := x.s.small ∧ x.w.small ∧ x.c.small ∧ x.a.small
structure XMass.fresh (W : World) (B : Nat) (x : XMass) : Prop where
  s : x.s.fresh W B
  w : x.w.fresh W B
  c : x.c.fresh W B
  a : x.a.fresh W B
theorem XMass.fresh.ext {w w' : World} {B : Nat} {x : XMass} (h : x.fresh w B) (k : Ext w w') : x.fresh w' B := ⟨h.s.ext k, h.w.ext k, h.c.ext k, h.a.ext k⟩
theorem XMass.fresh.lower {w : World} {B B' : Nat} {x : XMass} (h : x.fresh w B) (k : B' ≤ B) : x.fresh w B' := ⟨h.s.lower k, h.w.lower k, h.c.lower k, h.a.lower k⟩
theorem XMass.fresh.shape {T : Nat → Prop} {w w' : World} {B : Nat} {x : XMass} (h : x.fresh w B) (k : Shape T B w w') : x.fresh w' B := ⟨h.s.shape k, h.w.shape k, h.c.shape k, h.a.shape k⟩
theorem XMass.zero_fresh (w : World) (B : Nat) : XMass.zero.fresh w B := ⟨XDyad.zero_fresh _ _, XDyad.zero_fresh _ _, XDyad.zero_fresh _ _, XDyad.zero_fresh _ _⟩
structure XMass.mine (W : World) (B : Nat) (x : XMass) : Prop where
  s : x.s.mine W B
  w : x.w.mine W B
  c : x.c.mine W B
  a : x.a.mine W B
theorem XMass.mine.ext {w w' : World} {B : Nat} {x : XMass} (h : x.mine w B) (k : Ext w w') : x.mine w' B := ⟨h.s.ext k, h.w.ext k, h.c.ext k, h.a.ext k⟩
theorem XMass.mine.lower {w : World} {B B' : Nat} {x : XMass} (h : x.mine w B) (k : B' ≤ B) : x.mine w B' := ⟨h.s.lower k, h.w.lower k, h.c.lower k, h.a.lower k⟩
theorem XMass.mine.shape {T : Nat → Prop} {w w' : World} {B C : Nat} {x : XMass} (h : x.mine w B) (k : Shape T C w w') (nu32 : ¬T 91) : x.mine w' B := ⟨h.s.shape k nu32, h.w.shape k nu32, h.c.shape k nu32, h.a.shape k nu32⟩
theorem XMass.mine.ok {w : World} {B : Nat} {x : XMass} (h : x.mine w B) : x.ok w w.heap.size := ⟨h.s.ok, h.w.ok, h.c.ok, h.a.ok⟩
theorem XMass.mine.fresh {w : World} {B : Nat} {x : XMass} (h : x.mine w B) : x.fresh w B := ⟨h.s.fresh, h.w.fresh, h.c.fresh, h.a.fresh⟩

def PPart.small (x : PPart) : Prop := x.held.small ∧ x.least.length ≤ 1000000
structure XPart.fresh (W : World) (B : Nat) (x : XPart) : Prop where
  held : x.held.fresh W B
  least : TRoom W B 91 x.least.A (x.least.l.length * 1)
theorem XPart.fresh.ext {w w' : World} {B : Nat} {x : XPart} (h : x.fresh w B) (k : Ext w w') : x.fresh w' B := ⟨h.held.ext k, h.least.ext k⟩
theorem XPart.fresh.lower {w : World} {B B' : Nat} {x : XPart} (h : x.fresh w B) (k : B' ≤ B) : x.fresh w B' := ⟨h.held.lower k, h.least.lower k⟩
theorem XPart.fresh.shape {T : Nat → Prop} {w w' : World} {B : Nat} {x : XPart} (h : x.fresh w B) (k : Shape T B w w') : x.fresh w' B := ⟨h.held.shape k, h.least.shape k⟩
theorem XPart.zero_fresh (w : World) (B : Nat) : XPart.zero.fresh w B := ⟨XMass.zero_fresh _ _, TRoom.nil⟩
structure XPart.mine (W : World) (B : Nat) (x : XPart) : Prop where
  held : x.held.mine W B
  least : Own W B 91 1 cU32 (.slice x.least.A x.least.l.length x.least.c) x.least.l
theorem XPart.mine.ext {w w' : World} {B : Nat} {x : XPart} (h : x.mine w B) (k : Ext w w') : x.mine w' B := ⟨h.held.ext k, h.least.ext k⟩
theorem XPart.mine.lower {w : World} {B B' : Nat} {x : XPart} (h : x.mine w B) (k : B' ≤ B) : x.mine w B' := ⟨h.held.lower k, h.least.lower k⟩
theorem XPart.mine.shape {T : Nat → Prop} {w w' : World} {B C : Nat} {x : XPart} (h : x.mine w B) (k : Shape T C w w') (nu32 : ¬T 91) : x.mine w' B := ⟨h.held.shape k nu32, h.least.shape k nu32⟩
theorem XPart.mine.ok {w : World} {B : Nat} {x : XPart} (h : x.mine w B) : x.ok w w.heap.size := ⟨h.held.ok, h.least.ok⟩
theorem XPart.mine.fresh {w : World} {B : Nat} {x : XPart} (h : x.mine w B) : x.fresh w B := ⟨h.held.fresh, TRoom.of_own h.least⟩

def PFrozen.small (x : PFrozen) : Prop := x.part.small
structure XFrozen.fresh (W : World) (B : Nat) (x : XFrozen) : Prop where
  part : x.part.fresh W B
theorem XFrozen.fresh.ext {w w' : World} {B : Nat} {x : XFrozen} (h : x.fresh w B) (k : Ext w w') : x.fresh w' B := ⟨h.part.ext k⟩
theorem XFrozen.fresh.lower {w : World} {B B' : Nat} {x : XFrozen} (h : x.fresh w B) (k : B' ≤ B) : x.fresh w B' := ⟨h.part.lower k⟩
theorem XFrozen.fresh.shape {T : Nat → Prop} {w w' : World} {B : Nat} {x : XFrozen} (h : x.fresh w B) (k : Shape T B w w') : x.fresh w' B := ⟨h.part.shape k⟩
theorem XFrozen.zero_fresh (w : World) (B : Nat) : XFrozen.zero.fresh w B := ⟨XPart.zero_fresh _ _⟩
structure XFrozen.mine (W : World) (B : Nat) (x : XFrozen) : Prop where
  part : x.part.mine W B
theorem XFrozen.mine.ext {w w' : World} {B : Nat} {x : XFrozen} (h : x.mine w B) (k : Ext w w') : x.mine w' B := ⟨h.part.ext k⟩
theorem XFrozen.mine.lower {w : World} {B B' : Nat} {x : XFrozen} (h : x.mine w B) (k : B' ≤ B) : x.mine w B' := ⟨h.part.lower k⟩
theorem XFrozen.mine.shape {T : Nat → Prop} {w w' : World} {B C : Nat} {x : XFrozen} (h : x.mine w B) (k : Shape T C w w') (nu32 : ¬T 91) : x.mine w' B := ⟨h.part.shape k nu32⟩
theorem XFrozen.mine.ok {w : World} {B : Nat} {x : XFrozen} (h : x.mine w B) : x.ok w w.heap.size := ⟨h.part.ok⟩
theorem XFrozen.mine.fresh {w : World} {B : Nat} {x : XFrozen} (h : x.mine w B) : x.fresh w B := ⟨h.part.fresh⟩

def PCache.small (x : PCache) : Prop := x.list.length ≤ 1000000
structure XCache.fresh (W : World) (B : Nat) (x : XCache) : Prop where
  list : TRoom W B 84 x.list.A (x.list.l.length * 2)
theorem XCache.fresh.ext {w w' : World} {B : Nat} {x : XCache} (h : x.fresh w B) (k : Ext w w') : x.fresh w' B := ⟨h.list.ext k⟩
theorem XCache.fresh.lower {w : World} {B B' : Nat} {x : XCache} (h : x.fresh w B) (k : B' ≤ B) : x.fresh w B' := ⟨h.list.lower k⟩
theorem XCache.fresh.shape {T : Nat → Prop} {w w' : World} {B : Nat} {x : XCache} (h : x.fresh w B) (k : Shape T B w w') : x.fresh w' B := ⟨h.list.shape k⟩
theorem XCache.zero_fresh (w : World) (B : Nat) : XCache.zero.fresh w B := ⟨TRoom.nil⟩
structure XCache.mine (W : World) (B : Nat) (x : XCache) : Prop where
  list : Own W B 84 2 PDesc.cells (.slice x.list.A x.list.l.length x.list.c) x.list.l
theorem XCache.mine.ext {w w' : World} {B : Nat} {x : XCache} (h : x.mine w B) (k : Ext w w') : x.mine w' B := ⟨h.list.ext k⟩
theorem XCache.mine.lower {w : World} {B B' : Nat} {x : XCache} (h : x.mine w B) (k : B' ≤ B) : x.mine w B' := ⟨h.list.lower k⟩
theorem XCache.mine.shape {T : Nat → Prop} {w w' : World} {B C : Nat} {x : XCache} (h : x.mine w B) (k : Shape T C w w') (nDesc : ¬T 84) : x.mine w' B := ⟨h.list.shape k nDesc⟩
theorem XCache.mine.ok {w : World} {B : Nat} {x : XCache} (h : x.mine w B) : x.ok w w.heap.size := ⟨h.list.ok⟩
theorem XCache.mine.fresh {w : World} {B : Nat} {x : XCache} (h : x.mine w B) : x.fresh w B := ⟨TRoom.of_own h.list⟩

def PNode.small (x : PNode) : Prop := x.part.small ∧ x.heard.length ≤ 1000000 ∧ x.cache.small ∧ x.past.length ≤ 1000000 ∧ (∀ n ∈ x.past, PFrozen.small n) ∧ x.timers.length ≤ 1000000
structure XNode.fresh (W : World) (B : Nat) (x : XNode) : Prop where
  part : x.part.fresh W B
  heard : TRoom W B 3 x.heard.A (x.heard.l.length * 1)
  cache : x.cache.fresh W B
  past : TRoom W B 82 x.past.A (x.past.l.length * 17)
  past_ : ∀ n ∈ x.past.l, XFrozen.fresh W B n
  timers : TRoom W B 79 x.timers.A (x.timers.l.length * 2)
theorem XNode.fresh.ext {w w' : World} {B : Nat} {x : XNode} (h : x.fresh w B) (k : Ext w w') : x.fresh w' B := ⟨h.part.ext k, h.heard.ext k, h.cache.ext k, h.past.ext k, (fun n hn => (h.past_ n hn).ext k), h.timers.ext k⟩
theorem XNode.fresh.lower {w : World} {B B' : Nat} {x : XNode} (h : x.fresh w B) (k : B' ≤ B) : x.fresh w B' := ⟨h.part.lower k, h.heard.lower k, h.cache.lower k, h.past.lower k, (fun n hn => (h.past_ n hn).lower k), h.timers.lower k⟩
theorem XNode.fresh.shape {T : Nat → Prop} {w w' : World} {B : Nat} {x : XNode} (h : x.fresh w B) (k : Shape T B w w') : x.fresh w' B := ⟨h.part.shape k, h.heard.shape k, h.cache.shape k, h.past.shape k, (fun n hn => (h.past_ n hn).shape k), h.timers.shape k⟩
theorem XNode.zero_fresh (w : World) (B : Nat) : XNode.zero.fresh w B := ⟨XPart.zero_fresh _ _, TRoom.nil, XCache.zero_fresh _ _, TRoom.nil, (fun n hn => by cases hn), TRoom.nil⟩
structure XNode.mine (W : World) (B : Nat) (x : XNode) : Prop where
  part : x.part.mine W B
  heard : Own W B 3 1 cInt (.slice x.heard.A x.heard.l.length x.heard.c) x.heard.l
  cache : x.cache.mine W B
  past : Own W B 82 17 XFrozen.cells (.slice x.past.A x.past.l.length x.past.c) x.past.l
  past_ : ∀ n ∈ x.past.l, XFrozen.mine W B n
  timers : Own W B 79 2 PTimer.cells (.slice x.timers.A x.timers.l.length x.timers.c) x.timers.l
theorem XNode.mine.ext {w w' : World} {B : Nat} {x : XNode} (h : x.mine w B) (k : Ext w w') : x.mine w' B := ⟨h.part.ext k, h.heard.ext k, h.cache.ext k, h.past.ext k, (fun n hn => (h.past_ n hn).ext k), h.timers.ext k⟩
theorem XNode.mine.lower {w : World} {B B' : Nat} {x : XNode} (h : x.mine w B) (k : B' ≤ B) : x.mine w B' := ⟨h.part.lower k, h.heard.lower k, h.cache.lower k, h.past.lower k, (fun n hn => (h.past_ n hn).lower k), h.timers.lower k⟩
theorem XNode.mine.shape {T : Nat → Prop} {w w' : World} {B C : Nat} {x : XNode} (h : x.mine w B) (k : Shape T C w w') (nu32 : ¬T 91) (nint : ¬T 3) (nDesc : ¬T 84) (nFrozen : ¬T 82) (nTimer : ¬T 79) : x.mine w' B := ⟨h.part.shape k nu32, h.heard.shape k nint, h.cache.shape k nDesc, h.past.shape k nFrozen, (fun n hn => (h.past_ n hn).shape k nu32), h.timers.shape k nTimer⟩
theorem XNode.mine.ok {w : World} {B : Nat} {x : XNode} (h : x.mine w B) : x.ok w w.heap.size := ⟨h.part.ok, h.heard.ok, h.cache.ok, h.past.ok, (fun n hn => (h.past_ n hn).ok), h.timers.ok⟩
theorem XNode.mine.fresh {w : World} {B : Nat} {x : XNode} (h : x.mine w B) : x.fresh w B := ⟨h.part.fresh, TRoom.of_own h.heard, h.cache.fresh, TRoom.of_own h.past, (fun n hn => (h.past_ n hn).fresh), TRoom.of_own h.timers⟩

end Go.Hx
