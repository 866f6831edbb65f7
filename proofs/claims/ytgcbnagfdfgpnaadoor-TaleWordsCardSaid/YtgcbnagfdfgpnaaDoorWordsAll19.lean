/- Data that is small enough to be copied; data that lies in new memory. The part of gen_fresh.py's text that dyads and masses need. -/
import Derived.Test.YtgcbnagfdfgpnaaDoorRows
import Derived.Test.YtgcbnagfdfgpnaaDoorWordsAll2
namespace Go.Proofs.YtgcbnagfdfgpnaaDoor
open Go.RowKit Go.Hx
end Go.Proofs.YtgcbnagfdfgpnaaDoor
namespace Go.Hx
open Go.RowKit
def PDyad.small (x : PDyad) : Prop := x.limbs.length ≤ 1000000
structure XDyad.fresh (W : World) (B : Nat) (x : XDyad) : Prop where
  limbs : TRoom W B 33 x.limbs.A (x.limbs.l.length * 1)
theorem XDyad.fresh.ext {w w' : World} {B : Nat} {x : XDyad} (h : x.fresh w B) (k : Ext w w') : x.fresh w' B := ⟨h.limbs.ext k⟩
theorem XDyad.fresh.lower {w : World} {B B' : Nat} {x : XDyad} (h : x.fresh w B) (k : B' ≤ B) : x.fresh w B' := ⟨h.limbs.lower k⟩
theorem XDyad.fresh.shape {T : Nat → Prop} {w w' : World} {B : Nat} {x : XDyad} (h : x.fresh w B) (k : Shape T B w w') : x.fresh w' B := ⟨h.limbs.shape k⟩
theorem XDyad.zero_fresh (w : World) (B : Nat) : XDyad.zero.fresh w B := ⟨TRoom.nil⟩
structure XDyad.mine (W : World) (B : Nat) (x : XDyad) : Prop where
  limbs : Own W B 33 1 cU32 (.slice x.limbs.A x.limbs.l.length x.limbs.c) x.limbs.l
theorem XDyad.mine.ext {w w' : World} {B : Nat} {x : XDyad} (h : x.mine w B) (k : Ext w w') : x.mine w' B := ⟨h.limbs.ext k⟩
theorem XDyad.mine.lower {w : World} {B B' : Nat} {x : XDyad} (h : x.mine w B) (k : B' ≤ B) : x.mine w B' := ⟨h.limbs.lower k⟩
theorem XDyad.mine.shape {T : Nat → Prop} {w w' : World} {B C : Nat} {x : XDyad} (h : x.mine w B) (k : Shape T C w w') (nu32 : ¬T 33) : x.mine w' B := ⟨h.limbs.shape k nu32⟩
theorem XDyad.mine.ok {w : World} {B : Nat} {x : XDyad} (h : x.mine w B) : x.ok w w.heap.size := ⟨h.limbs.ok⟩
theorem XDyad.mine.fresh {w : World} {B : Nat} {x : XDyad} (h : x.mine w B) : x.fresh w B := ⟨TRoom.of_own h.limbs⟩

def PMass.small (x : PMass) : Prop := x.s.small ∧ x.w.small ∧ x.c.small ∧ x.a.small
structure XMass.fresh (W : World) (B : Nat) (x : XMass) : Prop where
  s : x.s.fresh W B
  w : x.w.fresh W B
  c : x.c.fresh W B
  a : x.a.fresh W B
theorem XMass.fresh.ext {w w' : World} {B : Nat} {x : XMass} (h : x.fresh w B) (k : Ext w w') : x.fresh w' B := ⟨h.s.ext k, h.w.ext k, h.c.ext k, h.a.ext k⟩
theorem XMass.fresh.lower {w : World} {B B' : Nat} {x : XMass} (h : x.fresh w B) (k : B' ≤ B) : x.fresh w B' := ⟨h.s.lower k, h.w.lower k, h.c.lower k, h.a.lower k⟩
theorem XMass.fresh.shape {T : Nat → Prop} {w w' : World} {B : Nat} {x : XMass} (h : x.fresh w B) (k : Shape T B w w') : x.fresh w' B := ⟨h.s.shape k, h.w.shape k, h.c.shape k, h.a.shape k⟩
theorem XMass.zero_fresh (w : World) (B : Nat) : XMass.zero.fresh w B := ⟨XDyad.zero_fresh _ _, XDyad.zero_fresh _ _, XDyad.zero_fresh _ _, XDyad.zero_fresh _ _⟩
structure XMass.mine (W : World) (B : Nat) (x : XMass) : Prop where
  s : x.s.mine W B
  w : x.w.mine W B
  c : x.c.mine W B
  a : x.a.mine W B
theorem XMass.mine.ext {w w' : World} {B : Nat} {x : XMass} (h : x.mine w B) (k : Ext w w') : x.mine w' B := ⟨h.s.ext k, h.w.ext k, h.c.ext k, h.a.ext k⟩
theorem XMass.mine.lower {w : World} {B B' : Nat} {x : XMass} (h : x.mine w B) (k : B' ≤ B) : x.mine w B' := ⟨h.s.lower k, h.w.lower k, h.c.lower k, h.a.lower k⟩
theorem XMass.mine.shape {T : Nat → Prop} {w w' : World} {B C : Nat} {x : XMass} (h : x.mine w B) (k : Shape T C w w') (nu32 : ¬T 33) : x.mine w' B := ⟨h.s.shape k nu32, h.w.shape k nu32, h.c.shape k nu32, h.a.shape k nu32⟩
theorem XMass.mine.ok {w : World} {B : Nat} {x : XMass} (h : x.mine w B) : x.ok w w.heap.size := ⟨h.s.ok, h.w.ok, h.c.ok, h.a.ok⟩
theorem XMass.mine.fresh {w : World} {B : Nat} {x : XMass} (h : x.mine w B) : x.fresh w B := ⟨h.s.fresh, h.w.fresh, h.c.fresh, h.a.fresh⟩
end Go.Hx
