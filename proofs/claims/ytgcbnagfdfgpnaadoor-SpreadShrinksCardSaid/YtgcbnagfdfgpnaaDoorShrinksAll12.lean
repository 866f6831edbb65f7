/- Parts of a proof, joined: MassD, SmallM. -/
import Derived.Shelf.Abstract
import Derived.Test.YtgcbnagfdfgpnaaDoorShrinksAll26
import Derived.Test.YtgcbnagfdfgpnaaDoorShrinksAll4
import Derived.Test.YtgcbnagfdfgpnaaDoorShrinksAll27
section
namespace Go.Hx
open Go.RowKit
theorem I4cases {motive : Nat → Prop} {i : Nat} (h : i < 4) (h0 : motive 0) (h1 : motive 1) (h2 : motive 2) (h3 : motive 3) : motive i := by
  rcases (by omega : i = 0 ∨ i = 1 ∨ i = 2 ∨ i = 3) with rfl | rfl | rfl | rfl <;> assumption
def XMass.at (x : XMass) (i : Nat) : XDyad := if i = 0 then x.s else if i = 1 then x.w else if i = 2 then x.c else x.a
theorem XMass.part (x : XMass) {i : Nat} (h : i < 4) : (x.cells.drop (3 * i)).take 3 = (x.at i).cells := by
  revert h; intro h; exact I4cases (motive := fun i => (x.cells.drop (3 * i)).take 3 = (x.at i).cells) h rfl rfl rfl rfl
theorem XMass.at_ok {w : World} {B : Nat} {x : XMass} (h : x.ok w B) {i : Nat} (hi : i < 4) : (x.at i).ok w B := I4cases (motive := fun i => (x.at i).ok w B) hi h.s h.w h.c h.a
theorem XMass.at_small {x : XMass} (h : x.data.small) {i : Nat} (hi : i < 4) : (x.at i).data.small := I4cases (motive := fun i => (x.at i).data.small) hi h.1 h.2.1 h.2.2.1 h.2.2.2
theorem XMass.data_at {x y : XMass} (h0 : (x.at 0).data = (y.at 0).data) (h1 : (x.at 1).data = (y.at 1).data) (h2 : (x.at 2).data = (y.at 2).data) (h3 : (x.at 3).data = (y.at 3).data) : x.data = y.data := by
  simp only [XMass.data, PMass.mk.injEq]; exact ⟨h0, h1, h2, h3⟩
theorem XMass.at_data {x y : XMass} (h : x.data = y.data) {i : Nat} (hi : i < 4) : (x.at i).data = (y.at i).data := by
  simp only [XMass.data, PMass.mk.injEq] at h
  exact I4cases (motive := fun i => (x.at i).data = (y.at i).data) hi h.1 h.2.1 h.2.2.1 h.2.2.2
def XMass.setAt (x : XMass) (i : Nat) (y : XDyad) : XMass := if i = 0 then { x with s := y } else if i = 1 then { x with w := y } else if i = 2 then { x with c := y } else { x with a := y }
theorem XMass.set_cells (x : XMass) (y : XDyad) {i : Nat} (h : i < 4) : (x.setAt i y).cells = x.cells.take (3 * i) ++ y.cells ++ x.cells.drop (3 * i + 3) :=
  I4cases (motive := fun i => (x.setAt i y).cells = x.cells.take (3 * i) ++ y.cells ++ x.cells.drop (3 * i + 3)) h rfl rfl rfl rfl
theorem XMass.set_at (x : XMass) (y : XDyad) {i j : Nat} (hi : i < 4) (hj : j < 4) : (x.setAt i y).at j = if j = i then y else x.at j :=
  I4cases (motive := fun i => ∀ j, j < 4 → (x.setAt i y).at j = if j = i then y else x.at j) hi (fun _ hj => I4cases (motive := fun j => (x.setAt 0 y).at j = if j = 0 then y else x.at j) hj rfl rfl rfl rfl) (fun _ hj => I4cases (motive := fun j => (x.setAt 1 y).at j = if j = 1 then y else x.at j) hj rfl rfl rfl rfl)
    (fun _ hj => I4cases (motive := fun j => (x.setAt 2 y).at j = if j = 2 then y else x.at j) hj rfl rfl rfl rfl) (fun _ hj => I4cases (motive := fun j => (x.setAt 3 y).at j = if j = 3 then y else x.at j) hj rfl rfl rfl rfl) j hj
theorem XMass.mine.turn {W W' : World} {row : Option Nat} {B : Nat} {x : XMass} (h : x.mine W B) (k : Turn W W' row) : x.mine W' B := ⟨h.s.turn k, h.w.turn k, h.c.turn k, h.a.turn k⟩
def mayM (x : PMass) : Prop := mayD x.s ∧ mayD x.w ∧ mayD x.c ∧ mayD x.a
instance (x : PMass) : Decidable (mayM x) := by unfold mayM; infer_instance
def PMass.at (x : PMass) (i : Nat) : PDyad := if i = 0 then x.s else if i = 1 then x.w else if i = 2 then x.c else x.a
theorem XMass.data_at' (x : XMass) {i : Nat} (hi : i < 4) : (x.at i).data = x.data.at i := I4cases (motive := fun i => (x.at i).data = x.data.at i) hi rfl rfl rfl rfl
theorem mayM_at {x : XMass} (h : mayM x.data) {i : Nat} (hi : i < 4) : mayD (x.at i).data := I4cases (motive := fun i => mayD (x.at i).data) hi h.1 h.2.1 h.2.2.1 h.2.2.2
end Go.Hx
namespace Go.Proofs.YtgcbnagfdfgpnaaDoor
open Go.RowKit Go.Hx Go.Shelf
attribute [local go_sem] Oper.semAt_some detUpon undIn

theorem aggMass : AggTy Tryd.prog 47 12 := ⟨⟨_, Tryd.underlying47, rfl⟩, by kernel_rfl⟩
/-- what the rounds of mass.Twin leave -/
structure TwinI (w : World) (x z : XMass) (pre : List I4) (W : World) : Prop where
  b0 : Blk W w.heap.size 47 z.cells
  b1 : Blk W (w.heap.size + 1) 47 [.bool false, .slice none 0 0, .int .i64 0, .bool false, .slice none 0 0, .int .i64 0, .bool false, .slice none 0 0, .int .i64 0, .bool false, .slice none 0 0, .int .i64 0]
  data : z.data = x.data
  old : ∀ i, i < 4 → z.at i = x.at i ∨ (z.at i).mine W w.heap.size
  mine : ∀ i ∈ pre, (z.at i.1).mine W w.heap.size
  ext : Ext w W
  size : w.heap.size + 4 ≤ W.heap.size
theorem TwinI.turn {w W W' : World} {x z : XMass} {pre : List I4} {row : Option Nat} {B : Nat} (h : TwinI w x z pre W) (hB : w.heap.size ≤ B) (hg : W.grownBy W' row) (hr : ∀ r, row = some r → B ≤ r ∧ ∃ o : Obj, W.heap[r]? = some o ∧ o.isCells = false) : TwinI w x z pre W' :=
  have k : Turn W W' row := ⟨hg, fun r e => (hr r e).2⟩
  ⟨h.b0.turn k, h.b1.turn k, h.data, fun i hi => (h.old i hi).imp id fun h => h.turn k, fun i hi => (h.mine i hi).turn k, h.ext.turn hB hg (fun r e => (hr r e).1), Nat.le_trans h.size hg.size⟩
theorem TwinI.to {w W W' : World} {x z : XMass} {pre : List I4} (h : TwinI w x z pre W) (hE : Ext W W') : TwinI w x z pre W' :=
  ⟨h.b0.ext hE, h.b1.ext hE, h.data, fun i hi => (h.old i hi).imp id fun h => h.ext hE, fun i hi => (h.mine i hi).ext hE, h.ext.trans hE, Nat.le_trans h.size hE.size⟩
theorem TwinI.set {w W W' : World} {x z : XMass} {pre : List I4} (h : TwinI w x z pre W) {i : Nat} (hi : i < 4) {y : XDyad} (hy : y.data = (z.at i).data) (hm : y.mine W w.heap.size)
    (hR : Blk W' w.heap.size 47 (z.cells.take (3 * i) ++ y.cells ++ z.cells.drop (3 * i + 3))) (hO : Only W W' w.heap.size) : TwinI w x (z.setAt i y) (pre ++ [⟨i, hi⟩]) W' := by
  rw [← XMass.set_cells z y hi] at hR
  have hS : Shape (fun e => e = 47) w.heap.size W W' := Shape.only (T := fun e => e = 47) (Shape.refl _ _ _) h.b0 hO hR (by rw [XMass.cells_length, XMass.cells_length]) rfl (Nat.le_refl _)
  have key : ∀ j, j < 4 → z.at j = x.at j ∧ j ≠ i ∨ ((z.setAt i y).at j).mine W' w.heap.size := fun j hj => by
    rw [XMass.set_at z y hi hj]
    by_cases e : j = i
    · rw [if_pos e]; exact .inr (hm.shape hS (by decide))
    · rw [if_neg e]
      rcases h.old j hj with h1 | h1
      · exact .inl ⟨h1, e⟩
      · exact .inr (h1.shape hS (by decide))
  refine ⟨hR, h.b1.only hO (by omega), ?_, fun j hj => ?_, fun j hj => ?_, Only.ext h.ext hO (Nat.le_refl _), by rw [hO.size]; exact h.size⟩
  · rw [← h.data]
    refine XMass.data_at ?_ ?_ ?_ ?_ <;> (rw [XMass.set_at z y hi (by omega)]; split <;> first | (rename_i e; rw [e]; exact hy) | rfl)
  · rcases key j hj with ⟨h1, h2⟩ | h1
    · exact .inl (by rw [XMass.set_at z y hi hj, if_neg h2]; exact h1)
    · exact .inr h1
  · rcases List.mem_append.1 hj with hj' | hj'
    · rw [XMass.set_at z y hi j.2]
      split
      · exact hm.shape hS (by decide)
      · exact (h.mine j hj').shape hS (by decide)
    · simp only [List.mem_singleton] at hj'
      subst hj'
      rw [XMass.set_at z y hi hi, if_pos rfl]
      exact hm.shape hS (by decide)

set_option maxRecDepth 100000 in
set_option maxHeartbeats 1000000 in
theorem mass_Twin (x : XMass) (w : World) (hx : x.ok w w.heap.size) (hs : x.data.small) :
    Calls Tryd.prog 48 #[.agg #[.bool x.s.neg, .slice x.s.limbs.A x.s.limbs.l.length x.s.limbs.c, .int .i64 x.s.exp, .bool x.w.neg, .slice x.w.limbs.A x.w.limbs.l.length x.w.limbs.c, .int .i64 x.w.exp, .bool x.c.neg, .slice x.c.limbs.A x.c.limbs.l.length x.c.limbs.c, .int .i64 x.c.exp, .bool x.a.neg, .slice x.a.limbs.A x.a.limbs.l.length x.a.limbs.c, .int .i64 x.a.exp]] w fun e w' => ∃ y : XMass, e = .returned (.agg #[.bool y.s.neg, .slice y.s.limbs.A y.s.limbs.l.length y.s.limbs.c, .int .i64 y.s.exp, .bool y.w.neg, .slice y.w.limbs.A y.w.limbs.l.length y.w.limbs.c, .int .i64 y.w.exp, .bool y.c.neg, .slice y.c.limbs.A y.c.limbs.l.length y.c.limbs.c, .int .i64 y.c.exp, .bool y.a.neg, .slice y.a.limbs.A y.a.limbs.l.length y.a.limbs.c, .int .i64 y.a.exp]) ∧ y.data = x.data ∧ y.mine w' w.heap.size ∧ Ext w w' := by
  have HX := Lib.hid hx
  have HS := Lib.hid hs
  clear hx hs
  refine callsIn_wide.1 (callsIn_of_wp_marks (n := 5) Tryd.func48 rfl trivial ?_ rfl)
  simp only [Tryd.ntmps48, List.size_toArray, List.length_cons, List.length_nil, Nat.reduceAdd, Nat.reduceSub, Array.replicate_succ, Array.replicate_zero, List.push_toArray, List.append_toArray, List.nil_append, List.cons_append]
  gi_wp2_with (refine ⟨trivial, ?_⟩; gi_at_call 66; refine (callsIn_wide.2 (mass_parts _ _ _)).mono ?_; rintro e w' ⟨rfl, rfl⟩)
  obtain ⟨W1, hW1⟩ : ∃ W1, W1 = (((w.alloc (.cells #[.bool x.s.neg, .slice x.s.limbs.A x.s.limbs.l.length x.s.limbs.c, .int .i64 x.s.exp, .bool x.w.neg, .slice x.w.limbs.A x.w.limbs.l.length x.w.limbs.c, .int .i64 x.w.exp, .bool x.c.neg, .slice x.c.limbs.A x.c.limbs.l.length x.c.limbs.c, .int .i64 x.c.exp, .bool x.a.neg, .slice x.a.limbs.A x.a.limbs.l.length x.a.limbs.c, .int .i64 x.a.exp] 47)).alloc (.cells #[.bool false, .slice none 0 0, .int .i64 0, .bool false, .slice none 0 0, .int .i64 0, .bool false, .slice none 0 0, .int .i64 0, .bool false, .slice none 0 0, .int .i64 0] 47)).alloc (.cells #[.pointer (some ⟨w.heap.size, 0, none⟩)] 123)).alloc (.cells #[.pointer (some ⟨w.heap.size, 0, none⟩)] 123) := ⟨_, rfl⟩
  have hI0 : TwinI w x x [] W1 := by
    rw [hW1]
    exact ⟨(((Blk.new (cs := x.cells) rfl).alloc _).alloc _).alloc _, ((Blk.new (cs := [.bool false, .slice none 0 0, .int .i64 0, .bool false, .slice none 0 0, .int .i64 0, .bool false, .slice none 0 0, .int .i64 0, .bool false, .slice none 0 0, .int .i64 0]) (by simp)).alloc _).alloc _, rfl, fun _ _ => .inl rfl, (fun _ h => by cases h), Ext.alloc' (Ext.alloc' (Ext.alloc' (Ext.alloc _ _) _) _) _, by simp⟩
  have hP0 : Blk W1 (w.heap.size + 2) 123 [.pointer (some ⟨w.heap.size, 0, none⟩)] := by rw [hW1]; exact (Blk.new (cs := [.pointer (some ⟨w.heap.size, 0, none⟩)]) (by simp)).alloc _
  have hP1 : Blk W1 (w.heap.size + 3) 123 [.pointer (some ⟨w.heap.size, 0, none⟩)] := by rw [hW1]; exact Blk.new (cs := [.pointer (some ⟨w.heap.size, 0, none⟩)]) (by simp)
  have hz : W1.heap.size = w.heap.size + 4 := by rw [hW1]; simp
  simp only [Nat.add_assoc, Nat.reduceAdd]
  rw [← hW1]
  refine wpIn_rangeFunc_ownG rfl (by omega) (gf := 112) (lb := #[.pointer (some ⟨w.heap.size + 2, 0, none⟩), .pointer (some ⟨w.heap.size + 3, 0, none⟩)]) rfl trivial (enters_of Tryd.func112 (by kernel_rfl) rfl)
    (parts_stops (5 - 1) (w.heap.size + 2) (w.heap.size + 3) (w.heap.size) (w.heap.size) W1 hP0 hP1) (fun h k => h.trans k) (TwoStay.putObj (by omega) (by omega)) (RowKit.Below.refl _ _) (fun _ => rfl)
    (fun pre W => ∃ z, TwinI w x z pre W)
    (fun _ _ _ => False)
    (fun s A B row hs hg hr => by obtain ⟨z, hz⟩ := hs; exact ⟨z, hz.turn (by omega) hg hr⟩)
    (fun c s A B row hs hg hr => hs)
    ⟨x, hI0⟩
    (fun i => { tmps := #[.agg #[.bool x.s.neg, .slice x.s.limbs.A x.s.limbs.l.length x.s.limbs.c, .int .i64 x.s.exp, .bool x.w.neg, .slice x.w.limbs.A x.w.limbs.l.length x.w.limbs.c, .int .i64 x.w.exp, .bool x.c.neg, .slice x.c.limbs.A x.c.limbs.l.length x.c.limbs.c, .int .i64 x.c.exp, .bool x.a.neg, .slice x.a.limbs.A x.a.limbs.l.length x.a.limbs.c, .int .i64 x.a.exp], .pointer (some ⟨w.heap.size, 0, none⟩), .pointer (some ⟨w.heap.size + 1, 0, none⟩), .pointer (some ⟨w.heap.size, 3 * i.1, none⟩), .func (.func 112) #[] #[.pointer (some ⟨w.heap.size + 2, 0, none⟩), .pointer (some ⟨w.heap.size + 3, 0, none⟩)], .pointer (some ⟨w.heap.size, 3 * i.1, none⟩), .pointer (some ⟨w.heap.size, 3 * i.1, none⟩), undef, undef, undef, undef, undef, undef, undef], defers := [] }) ?assign ?body ?done ?stop
  case assign =>
    intro l x W K hK
    gi_wp2
    exact hK
  case body =>
    rintro l pre ⟨i, hi⟩ W ⟨z, hI⟩ _
    have HI := Lib.hid hI
    have hok : (z.at i).ok W W.heap.size := by
      rcases hI.old i hi with h | h
      · rw [h]; exact (XMass.at_ok HX.out hi).ext hI.ext
      · exact h.ok
    have hsm : (z.at i).data.small := by rw [XMass.at_data hI.data hi]; exact XMass.at_small HS.out hi
    have HO := Lib.hid hok
    have HSm := Lib.hid hsm
    have hrow : RowAt W w.heap.size (3 * i) (z.at i).cells := by rw [← z.part hi]; exact hI.b0.part (3 * i) 3
    clear hI hW1 hI0 hP0 hP1 hz hok hsm
    gi_wp2_with (first | ((with_reducible refine wplIn_load (Open.wide.inRound l) 24 (.tmp 9) ?_ ?_ (w.heap.size) (3 * i) (z.at i).cells ?_ ?_ ?_ ?_); (exact rfl); (exact rfl); (exact rfl); (exact aggDyad); (exact hrow); clear hrow) | (refine ⟨trivial, ?_⟩; gi_at_call 35; refine ((Open.wide.inRound l).calls (dyad_Twin (z.at i) _ HO.out HSm.out)).mono ?_; rintro e W2 ⟨y, rfl, hyd, hym, hE⟩; have HE := Lib.hid hE; have HYD := Lib.hid hyd; have HYM := Lib.hid hym; clear hE hyd hym) | ((with_reducible refine wplIn_store (Open.wide.inRound l) 24 (.tmp 12) (.tmp 11) ?_ ?_ (w.heap.size) (3 * i) 47 z.cells y.cells ?_ ?_ ?_ ?_ ?_ ?_ ?_); (exact rfl); (exact rfl); (exact rfl); (exact rfl); (exact aggDyad); (exact (HI.out.to HE.out).b0); (exact by rw [XMass.cells_length, XDyad.cells_length]; omega); (exact rfl); (intro W3 BR hO)) | fail)
    have hI2 := HI.out.to HE.out
    exact ⟨((KeepsOthers.ext HE.out).trans (KeepsOthers.only hI2.b0 hO)).from _, ⟨(hO.block _ (by omega)).trans (HE.out.block _ (by have := HI.out.size; omega)), (hO.block _ (by omega)).trans (HE.out.block _ (by have := HI.out.size; omega))⟩, z.setAt i y,
      hI2.set hi HYD.out (HYM.out.lower HI.out.ext.size) BR hO⟩
  case done =>
    rintro D xs W hD rfl ⟨z, hI⟩ hK
    have HD := Lib.hid hD
    have HI := Lib.hid hI
    have HK := Lib.hid hK
    clear hI hW1 hI0 hP0 hP1 hK hD
    gi_wp2_with (first | ((with_reducible refine wplIn_load Open.wide 47 (.tmp 1) ?_ ?_ (w.heap.size) 0 z.cells ?_ ?_ ?_ ?_); (exact rfl); (exact rfl); (exact rfl); (exact aggMass); (exact HI.out.b0.row)) | ((with_reducible refine wplIn_store Open.wide 47 (.tmp 2) (.tmp 13) ?_ ?_ (w.heap.size + 1) 0 47 [.bool false, .slice none 0 0, .int .i64 0, .bool false, .slice none 0 0, .int .i64 0, .bool false, .slice none 0 0, .int .i64 0, .bool false, .slice none 0 0, .int .i64 0] z.cells ?_ ?_ ?_ ?_ ?_ ?_ ?_); (exact rfl); (exact rfl); (exact rfl); (exact rfl); (exact aggMass); (exact HI.out.b1); (exact by rw [XMass.cells_length]; decide); (exact rfl); (intro W3 BR hO)) | fail)
    have hK' := (KeepsOthers.only HI.out.b1 hO).same D _ HK.out rfl
    have k := Turn.put _ (.deferred none) hK' rfl
    have hS : Shape (fun e => e = 47) w.heap.size W W3 := Shape.only (T := fun e => e = 47) (Shape.refl _ _ _) HI.out.b1 hO BR (by simp [XMass.cells_length]) rfl (by omega)
    have BR' : Blk W3 (w.heap.size + 1) 47 z.cells := BR
    have hm : z.mine W3 w.heap.size := ⟨(HI.out.mine k0 (by simp)).shape hS (by decide), (HI.out.mine k1 (by simp)).shape hS (by decide), (HI.out.mine k2 (by simp)).shape hS (by decide), (HI.out.mine k3 (by simp)).shape hS (by decide)⟩
    refine ⟨by simp, .inl ⟨_, _, rfl, run_takeDeferred hK', ?_⟩⟩
    exact ⟨.agg z.cells.toArray, results_c rfl rfl (BR'.turn k) aggMass, z, rfl, HI.out.data, hm.turn k, (Only.ext HI.out.ext hO (by omega)).put _ _ (by have := HD.out; omega)⟩
  case stop =>
    rintro D c pre W _ _ h _
    exact h.elim
/-- what the rounds of mass.Check leave -/
structure ChkI (w : World) (x : XMass) (v : Int) (W : World) : Prop where
  b0 : Blk W w.heap.size 47 x.cells
  b1 : Blk W (w.heap.size + 1) 27 [.int .i64 v]
  ext : Ext w W
  size : w.heap.size + 4 ≤ W.heap.size
theorem ChkI.turn {w W W' : World} {x : XMass} {v : Int} {row : Option Nat} {B : Nat} (h : ChkI w x v W) (hB : w.heap.size ≤ B) (hg : W.grownBy W' row) (hr : ∀ r, row = some r → B ≤ r ∧ ∃ o : Obj, W.heap[r]? = some o ∧ o.isCells = false) : ChkI w x v W' :=
  have k : Turn W W' row := ⟨hg, fun r e => (hr r e).2⟩
  ⟨h.b0.turn k, h.b1.turn k, h.ext.turn hB hg (fun r e => (hr r e).1), Nat.le_trans h.size hg.size⟩
theorem ChkI.to {w W W' : World} {x : XMass} {v : Int} (h : ChkI w x v W) (hE : Ext W W') : ChkI w x v W' := ⟨h.b0.ext hE, h.b1.ext hE, h.ext.trans hE, Nat.le_trans h.size hE.size⟩

set_option maxRecDepth 100000 in
set_option maxHeartbeats 1000000 in
theorem mass_Check (x : XMass) (w : World) (hx : x.ok w w.heap.size) :
    Calls Tryd.prog 27 #[.agg #[.bool x.s.neg, .slice x.s.limbs.A x.s.limbs.l.length x.s.limbs.c, .int .i64 x.s.exp, .bool x.w.neg, .slice x.w.limbs.A x.w.limbs.l.length x.w.limbs.c, .int .i64 x.w.exp, .bool x.c.neg, .slice x.c.limbs.A x.c.limbs.l.length x.c.limbs.c, .int .i64 x.c.exp, .bool x.a.neg, .slice x.a.limbs.A x.a.limbs.l.length x.a.limbs.c, .int .i64 x.a.exp]] w fun e w' => e = .returned (.int .i64 (chk (decide (mayM x.data)))) ∧ Ext w w' := by
  have HX := Lib.hid hx
  clear hx
  refine callsIn_wide.1 (callsIn_of_wp_marks (n := 5) Tryd.func27 rfl trivial ?_ rfl)
  simp only [Tryd.ntmps27, List.size_toArray, List.length_cons, List.length_nil, Nat.reduceAdd, Nat.reduceSub, Array.replicate_succ, Array.replicate_zero, List.push_toArray, List.append_toArray, List.nil_append, List.cons_append]
  gi_wp2_with (refine ⟨trivial, ?_⟩; gi_at_call 66; refine (callsIn_wide.2 (mass_parts _ _ _)).mono ?_; rintro e w' ⟨rfl, rfl⟩)
  obtain ⟨W1, hW1⟩ : ∃ W1, W1 = (((w.alloc (.cells #[.bool x.s.neg, .slice x.s.limbs.A x.s.limbs.l.length x.s.limbs.c, .int .i64 x.s.exp, .bool x.w.neg, .slice x.w.limbs.A x.w.limbs.l.length x.w.limbs.c, .int .i64 x.w.exp, .bool x.c.neg, .slice x.c.limbs.A x.c.limbs.l.length x.c.limbs.c, .int .i64 x.c.exp, .bool x.a.neg, .slice x.a.limbs.A x.a.limbs.l.length x.a.limbs.c, .int .i64 x.a.exp] 47)).alloc (.cells #[.int .i64 0] 27)).alloc (.cells #[.pointer (some ⟨w.heap.size, 0, none⟩)] 123)).alloc (.cells #[.pointer (some ⟨w.heap.size, 0, none⟩)] 123) := ⟨_, rfl⟩
  have hI0 : ChkI w x 0 W1 := by
    rw [hW1]
    exact ⟨(((Blk.new (cs := x.cells) rfl).alloc _).alloc _).alloc _, ((Blk.new (cs := [.int .i64 0]) (by simp)).alloc _).alloc _, Ext.alloc' (Ext.alloc' (Ext.alloc' (Ext.alloc _ _) _) _) _, by simp⟩
  have hP0 : Blk W1 (w.heap.size + 2) 123 [.pointer (some ⟨w.heap.size, 0, none⟩)] := by rw [hW1]; exact (Blk.new (cs := [.pointer (some ⟨w.heap.size, 0, none⟩)]) (by simp)).alloc _
  have hP1 : Blk W1 (w.heap.size + 3) 123 [.pointer (some ⟨w.heap.size, 0, none⟩)] := by rw [hW1]; exact Blk.new (cs := [.pointer (some ⟨w.heap.size, 0, none⟩)]) (by simp)
  have hz : W1.heap.size = w.heap.size + 4 := by rw [hW1]; simp
  simp only [Nat.add_assoc, Nat.reduceAdd]
  rw [← hW1]
  refine wpIn_rangeFunc_ownG rfl (by omega) (gf := 112) (lb := #[.pointer (some ⟨w.heap.size + 2, 0, none⟩), .pointer (some ⟨w.heap.size + 3, 0, none⟩)]) rfl trivial (enters_of Tryd.func112 (by kernel_rfl) rfl)
    (parts_stops (5 - 1) (w.heap.size + 2) (w.heap.size + 3) (w.heap.size) (w.heap.size) W1 hP0 hP1) (fun h k => h.trans k) (TwoStay.putObj (by omega) (by omega)) (RowKit.Below.refl _ _) (fun _ => rfl)
    (fun pre W => ChkI w x 0 W ∧ ∀ i ∈ pre, mayD (x.at i.1).data)
    (fun c _ W => c = .ret ∧ ChkI w x 8 W ∧ ¬ mayM x.data)
    (fun s A B row hs hg hr => ⟨hs.1.turn (by omega) hg hr, hs.2⟩)
    (fun c s A B row hs hg hr => ⟨hs.1, hs.2.1.turn (by omega) hg hr, hs.2.2⟩)
    ⟨hI0, by simp⟩
    (fun i => { tmps := #[.agg #[.bool x.s.neg, .slice x.s.limbs.A x.s.limbs.l.length x.s.limbs.c, .int .i64 x.s.exp, .bool x.w.neg, .slice x.w.limbs.A x.w.limbs.l.length x.w.limbs.c, .int .i64 x.w.exp, .bool x.c.neg, .slice x.c.limbs.A x.c.limbs.l.length x.c.limbs.c, .int .i64 x.c.exp, .bool x.a.neg, .slice x.a.limbs.A x.a.limbs.l.length x.a.limbs.c, .int .i64 x.a.exp], .pointer (some ⟨w.heap.size, 0, none⟩), .pointer (some ⟨w.heap.size + 1, 0, none⟩), .pointer (some ⟨w.heap.size, 3 * i.1, none⟩), undef, .func (.func 112) #[] #[.pointer (some ⟨w.heap.size + 2, 0, none⟩), .pointer (some ⟨w.heap.size + 3, 0, none⟩)], .pointer (some ⟨w.heap.size, 3 * i.1, none⟩), .pointer (some ⟨w.heap.size, 3 * i.1, none⟩), undef, undef, undef, undef, undef, undef, undef], defers := [] }) ?assign ?body ?done ?stop
  case assign =>
    intro l x W K hK
    gi_wp2
    exact hK
  case body =>
    rintro l pre ⟨i, hi⟩ W ⟨hI, hpre⟩ _
    have HI := Lib.hid hI
    have HP := Lib.hid hpre
    have HO := Lib.hid ((XMass.at_ok HX.out hi).ext hI.ext)
    have hrow : RowAt W w.heap.size (3 * i) (x.at i).cells := by rw [← x.part hi]; exact hI.b0.part (3 * i) 3
    clear hI hpre hW1 hI0 hP0 hP1 hz
    by_cases hd : mayD (x.at i).data
    · have HC : Hid (chk (decide (mayD (x.at i).data)) = 0) := Lib.hid (by rw [decide_eq_true hd]; rfl)
      have HD := Lib.hid hd
      clear hd
      gi_wp2_with (first | ((with_reducible refine wplIn_load (Open.wide.inRound l) 24 (.tmp 9) ?_ ?_ (w.heap.size) (3 * i) (x.at i).cells ?_ ?_ ?_ ?_); (exact rfl); (exact rfl); (exact rfl); (exact aggDyad); (exact hrow); clear hrow) | (refine ⟨trivial, ?_⟩; gi_at_call 34; refine ((Open.wide.inRound l).calls (dyad_Check (x.at i) _ HO.out)).mono ?_; rintro e W2 ⟨rfl, hE⟩; rw [HC.out]; have HE := Lib.hid hE; have hI2 := HI.out.to HE.out; obtain ⟨c2, f2⟩ := hI2.b1.rules; clear hE) | fail)
      exact ⟨(KeepsOthers.ext HE.out).from _, ⟨HE.out.block _ (by have := HI.out.size; omega), HE.out.block _ (by have := HI.out.size; omega)⟩, hI2, fun j hj => by
        rcases List.mem_append.1 hj with hj | hj
        · exact HP.out j hj
        · simp only [List.mem_singleton] at hj; subst hj; exact HD.out⟩
    · have HC : Hid (chk (decide (mayD (x.at i).data)) = 8) := Lib.hid (by rw [decide_eq_false hd]; rfl)
      have HD := Lib.hid hd
      clear hd
      gi_wp2_with (first | ((with_reducible refine wplIn_load (Open.wide.inRound l) 24 (.tmp 9) ?_ ?_ (w.heap.size) (3 * i) (x.at i).cells ?_ ?_ ?_ ?_); (exact rfl); (exact rfl); (exact rfl); (exact aggDyad); (exact hrow); clear hrow) | (refine ⟨trivial, ?_⟩; gi_at_call 34; refine ((Open.wide.inRound l).calls (dyad_Check (x.at i) _ HO.out)).mono ?_; rintro e W2 ⟨rfl, hE⟩; rw [HC.out]; have HE := Lib.hid hE; have hI2 := HI.out.to HE.out; obtain ⟨c2, f2⟩ := hI2.b1.rules; clear hE) | fail)
      have hS := hI2.b1.set 0 (.int .i64 8)
      exact ⟨((KeepsOthers.ext HE.out).trans (KeepsOthers.setCell _ _ _)).from _, rfl, ⟨hI2.b0.far (by simp) _, hS, hI2.ext.setCell' (by simp) _, by simpa using hI2.size⟩, fun h => HD.out (mayM_at h hi)⟩
  case done =>
    rintro D xs W hD rfl ⟨hI, hall⟩ hK
    obtain ⟨c2, f2⟩ := hI.b1.rules
    have HD := Lib.hid hD
    have HI := Lib.hid hI
    have HK := Lib.hid hK
    have HA : Hid (mayM x.data) := Lib.hid ⟨hall k0 (by simp), hall k1 (by simp), hall k2 (by simp), hall k3 (by simp)⟩
    clear hI hW1 hI0 hP0 hP1 hall hK hD
    gi_wp2
    have hK' := (KeepsOthers.setCell W ⟨w.heap.size + 1, 0, none⟩ (.int .i64 0)).same D _ HK.out rfl
    have hS := (HI.out.b1.set 0 (.int .i64 0)).turn (Turn.put _ (.deferred none) hK' rfl)
    refine ⟨by simp, .inl ⟨_, _, rfl, run_takeDeferred hK', ?_⟩⟩
    have hc5 : _ = some (Value.int .i64 0) := hS.cell 0
    exact ⟨.int .i64 0, by simp [results, Tryd.f27, go_sem, hc5], by rw [decide_eq_true HA.out]; rfl, (HI.out.ext.setCell' (by simp) _).put _ _ (by have := HD.out; omega)⟩
  case stop =>
    rintro D c pre W hD _ ⟨rfl, hI, hne⟩ hK
    have HD := Lib.hid hD
    have HI := Lib.hid hI
    have HK := Lib.hid hK
    have HN := Lib.hid hne
    clear hI hW1 hI0 hP0 hP1 hK hD hne
    gi_wp2
    have hS := HI.out.b1.turn (Turn.put _ (.deferred none) HK.out rfl)
    refine ⟨by simp, .inl ⟨_, _, rfl, run_takeDeferred HK.out, ?_⟩⟩
    have hc5 : _ = some (Value.int .i64 8) := hS.cell 0
    exact ⟨.int .i64 8, by simp [results, Tryd.f27, go_sem, hc5], by rw [decide_eq_false HN.out]; rfl, HI.out.ext.put _ _ (by have := HD.out; omega)⟩
end Go.Proofs.YtgcbnagfdfgpnaaDoor
end
section
namespace Go.Proofs.YtgcbnagfdfgpnaaDoor
open Go.RowKit Go.Hx
theorem ref06_Same_iff (x y : XMass) : x.data = y.data ↔ x.s.data = y.s.data ∧ x.w.data = y.w.data ∧ x.c.data = y.c.data ∧ x.a.data = y.a.data := by
  constructor
  · intro h
    simp only [XMass.data, PMass.mk.injEq] at h
    obtain ⟨h0, h1, h2, h3⟩ := h
    exact ⟨h0, h1, h2, h3⟩
  · rintro ⟨h0, h1, h2, h3⟩
    simp only [XMass.data, PMass.mk.injEq]
    exact ⟨h0, h1, h2, h3⟩
set_option maxRecDepth 100000 in
set_option maxHeartbeats 1000000 in
theorem ref06_Same (x y : XMass) (w : World) (hx : x.ok w w.heap.size) (hy : y.ok w w.heap.size) :
    Calls Tryd.prog 56 #[.agg #[.bool x.s.neg, .slice x.s.limbs.A x.s.limbs.l.length x.s.limbs.c, .int .i64 x.s.exp, .bool x.w.neg, .slice x.w.limbs.A x.w.limbs.l.length x.w.limbs.c, .int .i64 x.w.exp, .bool x.c.neg, .slice x.c.limbs.A x.c.limbs.l.length x.c.limbs.c, .int .i64 x.c.exp, .bool x.a.neg, .slice x.a.limbs.A x.a.limbs.l.length x.a.limbs.c, .int .i64 x.a.exp], .agg #[.bool y.s.neg, .slice y.s.limbs.A y.s.limbs.l.length y.s.limbs.c, .int .i64 y.s.exp, .bool y.w.neg, .slice y.w.limbs.A y.w.limbs.l.length y.w.limbs.c, .int .i64 y.w.exp, .bool y.c.neg, .slice y.c.limbs.A y.c.limbs.l.length y.c.limbs.c, .int .i64 y.c.exp, .bool y.a.neg, .slice y.a.limbs.A y.a.limbs.l.length y.a.limbs.c, .int .i64 y.a.exp]] w fun e w' => e = .returned (.bool (decide (x.data = y.data))) ∧ Ext w w' := by
  have HI := Lib.hid (ref06_Same_iff x y)
  by_cases q0 : x.s.data = y.s.data
  · have e0 : decide (x.s.data = y.s.data) = true := decide_eq_true q0
    have HQ0 := Lib.hid q0
    clear q0
    by_cases q1 : x.w.data = y.w.data
    · have e1 : decide (x.w.data = y.w.data) = true := decide_eq_true q1
      have HQ1 := Lib.hid q1
      clear q1
      by_cases q2 : x.c.data = y.c.data
      · have e2 : decide (x.c.data = y.c.data) = true := decide_eq_true q2
        have HQ2 := Lib.hid q2
        clear q2
        go_enter Tryd.func56, Tryd.ntmps56
        go_wp2_with fail
        refine (ref02_Same x.s y.s _ (hx.s.ext (by repeat (first | exact Ext.refl _ | assumption | refine Ext.alloc' ?_ _ | refine Ext.drewN' ?_ _ | refine Ext.drew' ?_ | (refine Ext.trans ?_ (by assumption))))) (hy.s.ext (by repeat (first | exact Ext.refl _ | assumption | refine Ext.alloc' ?_ _ | refine Ext.drewN' ?_ _ | refine Ext.drew' ?_ | (refine Ext.trans ?_ (by assumption)))))).mono ?_
        rintro e w0 ⟨rfl, hE0⟩
        have hT0 := hE0
        obtain ⟨hc0, hf0⟩ := ext_cell hT0
        go_wp2_with fail
        refine (ref02_Same x.w y.w _ (hx.w.ext (by repeat (first | exact Ext.refl _ | assumption | refine Ext.alloc' ?_ _ | refine Ext.drewN' ?_ _ | refine Ext.drew' ?_ | (refine Ext.trans ?_ (by assumption))))) (hy.w.ext (by repeat (first | exact Ext.refl _ | assumption | refine Ext.alloc' ?_ _ | refine Ext.drewN' ?_ _ | refine Ext.drew' ?_ | (refine Ext.trans ?_ (by assumption)))))).mono ?_
        rintro e w1 ⟨rfl, hE1⟩
        have hT1 := (hT0).trans hE1
        clear hc0 hf0
        obtain ⟨hc1, hf1⟩ := ext_cell hT1
        go_wp2_with fail
        refine (ref02_Same x.c y.c _ (hx.c.ext (by repeat (first | exact Ext.refl _ | assumption | refine Ext.alloc' ?_ _ | refine Ext.drewN' ?_ _ | refine Ext.drew' ?_ | (refine Ext.trans ?_ (by assumption))))) (hy.c.ext (by repeat (first | exact Ext.refl _ | assumption | refine Ext.alloc' ?_ _ | refine Ext.drewN' ?_ _ | refine Ext.drew' ?_ | (refine Ext.trans ?_ (by assumption)))))).mono ?_
        rintro e w2 ⟨rfl, hE2⟩
        have hT2 := (hT1).trans hE2
        clear hc1 hf1
        obtain ⟨hc2, hf2⟩ := ext_cell hT2
        go_wp2_with fail
        refine (ref02_Same x.a y.a _ (hx.a.ext (by repeat (first | exact Ext.refl _ | assumption | refine Ext.alloc' ?_ _ | refine Ext.drewN' ?_ _ | refine Ext.drew' ?_ | (refine Ext.trans ?_ (by assumption))))) (hy.a.ext (by repeat (first | exact Ext.refl _ | assumption | refine Ext.alloc' ?_ _ | refine Ext.drewN' ?_ _ | refine Ext.drew' ?_ | (refine Ext.trans ?_ (by assumption)))))).mono ?_
        rintro e w3 ⟨rfl, hE3⟩
        go_wp2_with fail
        go_ret
        exact ⟨ret_bool (decide_eq_decide.2 ⟨fun h => HI.out.2 ⟨HQ0.out, HQ1.out, HQ2.out, h⟩, fun h => (HI.out.1 h).2.2.2⟩), (by repeat (first | exact Ext.refl _ | assumption | refine Ext.alloc' ?_ _ | refine Ext.drewN' ?_ _ | refine Ext.drew' ?_ | (refine Ext.trans ?_ (by assumption))))⟩
      · have e2 : decide (x.c.data = y.c.data) = false := decide_eq_false q2
        have HQ2 := Lib.hid q2
        clear q2
        go_enter Tryd.func56, Tryd.ntmps56
        go_wp2_with fail
        refine (ref02_Same x.s y.s _ (hx.s.ext (by repeat (first | exact Ext.refl _ | assumption | refine Ext.alloc' ?_ _ | refine Ext.drewN' ?_ _ | refine Ext.drew' ?_ | (refine Ext.trans ?_ (by assumption))))) (hy.s.ext (by repeat (first | exact Ext.refl _ | assumption | refine Ext.alloc' ?_ _ | refine Ext.drewN' ?_ _ | refine Ext.drew' ?_ | (refine Ext.trans ?_ (by assumption)))))).mono ?_
        rintro e w0 ⟨rfl, hE0⟩
        have hT0 := hE0
        obtain ⟨hc0, hf0⟩ := ext_cell hT0
        go_wp2_with fail
        refine (ref02_Same x.w y.w _ (hx.w.ext (by repeat (first | exact Ext.refl _ | assumption | refine Ext.alloc' ?_ _ | refine Ext.drewN' ?_ _ | refine Ext.drew' ?_ | (refine Ext.trans ?_ (by assumption))))) (hy.w.ext (by repeat (first | exact Ext.refl _ | assumption | refine Ext.alloc' ?_ _ | refine Ext.drewN' ?_ _ | refine Ext.drew' ?_ | (refine Ext.trans ?_ (by assumption)))))).mono ?_
        rintro e w1 ⟨rfl, hE1⟩
        have hT1 := (hT0).trans hE1
        clear hc0 hf0
        obtain ⟨hc1, hf1⟩ := ext_cell hT1
        go_wp2_with fail
        refine (ref02_Same x.c y.c _ (hx.c.ext (by repeat (first | exact Ext.refl _ | assumption | refine Ext.alloc' ?_ _ | refine Ext.drewN' ?_ _ | refine Ext.drew' ?_ | (refine Ext.trans ?_ (by assumption))))) (hy.c.ext (by repeat (first | exact Ext.refl _ | assumption | refine Ext.alloc' ?_ _ | refine Ext.drewN' ?_ _ | refine Ext.drew' ?_ | (refine Ext.trans ?_ (by assumption)))))).mono ?_
        rintro e w2 ⟨rfl, hE2⟩
        go_wp2_with fail
        go_ret
        exact ⟨ret_bool (decide_eq_false (fun h => HQ2.out (HI.out.1 h).2.2.1)).symm, (by repeat (first | exact Ext.refl _ | assumption | refine Ext.alloc' ?_ _ | refine Ext.drewN' ?_ _ | refine Ext.drew' ?_ | (refine Ext.trans ?_ (by assumption))))⟩
    · have e1 : decide (x.w.data = y.w.data) = false := decide_eq_false q1
      have HQ1 := Lib.hid q1
      clear q1
      go_enter Tryd.func56, Tryd.ntmps56
      go_wp2_with fail
      refine (ref02_Same x.s y.s _ (hx.s.ext (by repeat (first | exact Ext.refl _ | assumption | refine Ext.alloc' ?_ _ | refine Ext.drewN' ?_ _ | refine Ext.drew' ?_ | (refine Ext.trans ?_ (by assumption))))) (hy.s.ext (by repeat (first | exact Ext.refl _ | assumption | refine Ext.alloc' ?_ _ | refine Ext.drewN' ?_ _ | refine Ext.drew' ?_ | (refine Ext.trans ?_ (by assumption)))))).mono ?_
      rintro e w0 ⟨rfl, hE0⟩
      have hT0 := hE0
      obtain ⟨hc0, hf0⟩ := ext_cell hT0
      go_wp2_with fail
      refine (ref02_Same x.w y.w _ (hx.w.ext (by repeat (first | exact Ext.refl _ | assumption | refine Ext.alloc' ?_ _ | refine Ext.drewN' ?_ _ | refine Ext.drew' ?_ | (refine Ext.trans ?_ (by assumption))))) (hy.w.ext (by repeat (first | exact Ext.refl _ | assumption | refine Ext.alloc' ?_ _ | refine Ext.drewN' ?_ _ | refine Ext.drew' ?_ | (refine Ext.trans ?_ (by assumption)))))).mono ?_
      rintro e w1 ⟨rfl, hE1⟩
      go_wp2_with fail
      go_ret
      exact ⟨ret_bool (decide_eq_false (fun h => HQ1.out (HI.out.1 h).2.1)).symm, (by repeat (first | exact Ext.refl _ | assumption | refine Ext.alloc' ?_ _ | refine Ext.drewN' ?_ _ | refine Ext.drew' ?_ | (refine Ext.trans ?_ (by assumption))))⟩
  · have e0 : decide (x.s.data = y.s.data) = false := decide_eq_false q0
    have HQ0 := Lib.hid q0
    clear q0
    go_enter Tryd.func56, Tryd.ntmps56
    go_wp2_with fail
    refine (ref02_Same x.s y.s _ (hx.s.ext (by repeat (first | exact Ext.refl _ | assumption | refine Ext.alloc' ?_ _ | refine Ext.drewN' ?_ _ | refine Ext.drew' ?_ | (refine Ext.trans ?_ (by assumption))))) (hy.s.ext (by repeat (first | exact Ext.refl _ | assumption | refine Ext.alloc' ?_ _ | refine Ext.drewN' ?_ _ | refine Ext.drew' ?_ | (refine Ext.trans ?_ (by assumption)))))).mono ?_
    rintro e w0 ⟨rfl, hE0⟩
    go_wp2_with fail
    go_ret
    exact ⟨ret_bool (decide_eq_false (fun h => HQ0.out (HI.out.1 h).1)).symm, (by repeat (first | exact Ext.refl _ | assumption | refine Ext.alloc' ?_ _ | refine Ext.drewN' ?_ _ | refine Ext.drew' ?_ | (refine Ext.trans ?_ (by assumption))))⟩
section
attribute [local go_sem] detUpon undUpon
set_option maxRecDepth 100000 in
set_option maxHeartbeats 400000 in
theorem ref06_Twin (x : XMass) (w : World) (hx : x.ok w w.heap.size) (hs : x.data.small) :
    Calls Tryd.prog 18 #[.agg #[.bool x.s.neg, .slice x.s.limbs.A x.s.limbs.l.length x.s.limbs.c, .int .i64 x.s.exp, .bool x.w.neg, .slice x.w.limbs.A x.w.limbs.l.length x.w.limbs.c, .int .i64 x.w.exp, .bool x.c.neg, .slice x.c.limbs.A x.c.limbs.l.length x.c.limbs.c, .int .i64 x.c.exp, .bool x.a.neg, .slice x.a.limbs.A x.a.limbs.l.length x.a.limbs.c, .int .i64 x.a.exp]] w fun e w' => ∃ y : XMass, e = .returned (.agg #[.bool y.s.neg, .slice y.s.limbs.A y.s.limbs.l.length y.s.limbs.c, .int .i64 y.s.exp, .bool y.w.neg, .slice y.w.limbs.A y.w.limbs.l.length y.w.limbs.c, .int .i64 y.w.exp, .bool y.c.neg, .slice y.c.limbs.A y.c.limbs.l.length y.c.limbs.c, .int .i64 y.c.exp, .bool y.a.neg, .slice y.a.limbs.A y.a.limbs.l.length y.a.limbs.c, .int .i64 y.a.exp]) ∧ y.data = x.data ∧ y.mine w' w.heap.size ∧ Ext w w' := by
  have HX := Lib.hid hx
  have HS := Lib.hid hs
  clear hx hs
  go_enter Tryd.func18, Tryd.ntmps18
  go_wp2_with fail
  obtain ⟨W0, hW0⟩ : ∃ W0, W0 = (w.alloc (.cells #[.bool x.s.neg, .slice x.s.limbs.A x.s.limbs.l.length x.s.limbs.c, .int .i64 x.s.exp, .bool x.w.neg, .slice x.w.limbs.A x.w.limbs.l.length x.w.limbs.c, .int .i64 x.w.exp, .bool x.c.neg, .slice x.c.limbs.A x.c.limbs.l.length x.c.limbs.c, .int .i64 x.c.exp, .bool x.a.neg, .slice x.a.limbs.A x.a.limbs.l.length x.a.limbs.c, .int .i64 x.a.exp] 47)).alloc (.cells #[.bool false, .slice none 0 0, .int .i64 0, .bool false, .slice none 0 0, .int .i64 0, .bool false, .slice none 0 0, .int .i64 0, .bool false, .slice none 0 0, .int .i64 0] 47) := ⟨_, rfl⟩
  have B0 : Blk W0 w.heap.size 47 [.bool x.s.neg, .slice x.s.limbs.A x.s.limbs.l.length x.s.limbs.c, .int .i64 x.s.exp, .bool x.w.neg, .slice x.w.limbs.A x.w.limbs.l.length x.w.limbs.c, .int .i64 x.w.exp, .bool x.c.neg, .slice x.c.limbs.A x.c.limbs.l.length x.c.limbs.c, .int .i64 x.c.exp, .bool x.a.neg, .slice x.a.limbs.A x.a.limbs.l.length x.a.limbs.c, .int .i64 x.a.exp] := by rw [hW0]; exact Blk.alloc (Blk.new rfl) _
  have B1 : Blk W0 (w.heap.size + 1) 47 [.bool false, .slice none 0 0, .int .i64 0, .bool false, .slice none 0 0, .int .i64 0, .bool false, .slice none 0 0, .int .i64 0, .bool false, .slice none 0 0, .int .i64 0] := by rw [hW0]; exact Blk.new (by simp)
  have hE0 : Ext w W0 := by rw [hW0]; exact Ext.alloc' (Ext.alloc _ _) _
  refine wp_region_tail 12 (C := Ext W0) (R := Ext) (U := fun i => if i = 2 then some (.some_ (fun v W => ∃ y : XDyad, v = .agg #[.bool y.neg, .slice y.limbs.A y.limbs.l.length y.limbs.c, .int .i64 y.exp] ∧ y.data = x.s.data ∧ y.mine W w.heap.size)) else if i = 5 then some (.some_ (fun v W => ∃ y : XDyad, v = .agg #[.bool y.neg, .slice y.limbs.A y.limbs.l.length y.limbs.c, .int .i64 y.exp] ∧ y.data = x.w.data ∧ y.mine W w.heap.size)) else if i = 8 then some (.some_ (fun v W => ∃ y : XDyad, v = .agg #[.bool y.neg, .slice y.limbs.A y.limbs.l.length y.limbs.c, .int .i64 y.exp] ∧ y.data = x.c.data ∧ y.mine W w.heap.size)) else if i = 11 then some (.some_ (fun v W => ∃ y : XDyad, v = .agg #[.bool y.neg, .slice y.limbs.A y.limbs.l.length y.limbs.c, .int .i64 y.exp] ∧ y.data = x.a.data ∧ y.mine W w.heap.size)) else none) (by kernel_rfl) (by kernel_rfl) (by rw [hW0]; exact Ext.drew _) ?_
  refine text_det rfl rfl ?_; apply Exists.intro; refine ⟨fun w hC => ?_, fun K hK => ?_⟩; go_simp; exact rfl; go_simp; refine hK _ ?_; clear hK K
  refine text_load_row 24 _ rfl rfl rfl _ _ x.s.cells rfl aggDyad (fun W hW => (B0.ext hW).part 0 3) (fun K hK => ?_); go_simp; refine hK _ ?_; clear hK K
  refine text_und _ rfl rfl (fun v w1 w2 hG hR => ?_) (fun w1 hC Φ hΦ => ?_) (fun v0 K hK => ?_)
  · obtain ⟨y, h1, h2, h3⟩ := hG
    exact ⟨y, h1, h2, h3.ext hR⟩
  · go_simp
    refine (ref02_Twin x.s _ (HX.out.s.ext (hE0.trans hC)) HS.out.1).mono ?_
    rintro e w2 ⟨y, rfl, h1, h2, hE2⟩
    exact ⟨_, rfl, hΦ _ _ (hC.trans hE2) hE2 ⟨y, rfl, h1, h2.lower (hE0.trans hC).size⟩⟩
  go_simp; refine hK _ ?_; clear hK K
  refine text_det rfl rfl ?_; apply Exists.intro; refine ⟨fun w hC => ?_, fun K hK => ?_⟩; go_simp; exact rfl; go_simp; refine hK _ ?_; clear hK K
  refine text_load_row 24 _ rfl rfl rfl _ _ x.w.cells rfl aggDyad (fun W hW => (B0.ext hW).part 3 3) (fun K hK => ?_); go_simp; refine hK _ ?_; clear hK K
  refine text_und _ rfl rfl (fun v w1 w2 hG hR => ?_) (fun w1 hC Φ hΦ => ?_) (fun v1 K hK => ?_)
  · obtain ⟨y, h1, h2, h3⟩ := hG
    exact ⟨y, h1, h2, h3.ext hR⟩
  · go_simp
    refine (ref02_Twin x.w _ (HX.out.w.ext (hE0.trans hC)) HS.out.2.1).mono ?_
    rintro e w2 ⟨y, rfl, h1, h2, hE2⟩
    exact ⟨_, rfl, hΦ _ _ (hC.trans hE2) hE2 ⟨y, rfl, h1, h2.lower (hE0.trans hC).size⟩⟩
  go_simp; refine hK _ ?_; clear hK K
  refine text_det rfl rfl ?_; apply Exists.intro; refine ⟨fun w hC => ?_, fun K hK => ?_⟩; go_simp; exact rfl; go_simp; refine hK _ ?_; clear hK K
  refine text_load_row 24 _ rfl rfl rfl _ _ x.c.cells rfl aggDyad (fun W hW => (B0.ext hW).part 6 3) (fun K hK => ?_); go_simp; refine hK _ ?_; clear hK K
  refine text_und _ rfl rfl (fun v w1 w2 hG hR => ?_) (fun w1 hC Φ hΦ => ?_) (fun v2 K hK => ?_)
  · obtain ⟨y, h1, h2, h3⟩ := hG
    exact ⟨y, h1, h2, h3.ext hR⟩
  · go_simp
    refine (ref02_Twin x.c _ (HX.out.c.ext (hE0.trans hC)) HS.out.2.2.1).mono ?_
    rintro e w2 ⟨y, rfl, h1, h2, hE2⟩
    exact ⟨_, rfl, hΦ _ _ (hC.trans hE2) hE2 ⟨y, rfl, h1, h2.lower (hE0.trans hC).size⟩⟩
  go_simp; refine hK _ ?_; clear hK K
  refine text_det rfl rfl ?_; apply Exists.intro; refine ⟨fun w hC => ?_, fun K hK => ?_⟩; go_simp; exact rfl; go_simp; refine hK _ ?_; clear hK K
  refine text_load_row 24 _ rfl rfl rfl _ _ x.a.cells rfl aggDyad (fun W hW => (B0.ext hW).part 9 3) (fun K hK => ?_); go_simp; refine hK _ ?_; clear hK K
  refine text_und _ rfl rfl (fun v w1 w2 hG hR => ?_) (fun w1 hC Φ hΦ => ?_) (fun v3 K hK => ?_)
  · obtain ⟨y, h1, h2, h3⟩ := hG
    exact ⟨y, h1, h2, h3.ext hR⟩
  · go_simp
    refine (ref02_Twin x.a _ (HX.out.a.ext (hE0.trans hC)) HS.out.2.2.2).mono ?_
    rintro e w2 ⟨y, rfl, h1, h2, hE2⟩
    exact ⟨_, rfl, hΦ _ _ (hC.trans hE2) hE2 ⟨y, rfl, h1, h2.lower (hE0.trans hC).size⟩⟩
  go_simp; refine hK _ ?_; clear hK K
  refine text_nil ?_
  rintro w1 hC ⟨⟨⟨⟨_, ys, rfl, hds, hms⟩, yw, rfl, hdw, hmw⟩, yc, rfl, hdc, hmc⟩, ya, rfl, hda, hma⟩
  have B11 : Blk w1 (w.heap.size + 1) 47 [.bool false, .slice none 0 0, .int .i64 0, .bool false, .slice none 0 0, .int .i64 0, .bool false, .slice none 0 0, .int .i64 0, .bool false, .slice none 0 0, .int .i64 0] := B1.ext hC
  simp only [List.drop_succ_cons, List.drop_zero]
  go_wp2_with (first | ((with_reducible refine wpl_store 47 (.tmp 2) (.tmp 15) ?_ ?_ (w.heap.size + 1) 0 47 [.bool false, .slice none 0 0, .int .i64 0, .bool false, .slice none 0 0, .int .i64 0, .bool false, .slice none 0 0, .int .i64 0, .bool false, .slice none 0 0, .int .i64 0] [.bool ys.neg, .slice ys.limbs.A ys.limbs.l.length ys.limbs.c, .int .i64 ys.exp, .bool yw.neg, .slice yw.limbs.A yw.limbs.l.length yw.limbs.c, .int .i64 yw.exp, .bool yc.neg, .slice yc.limbs.A yc.limbs.l.length yc.limbs.c, .int .i64 yc.exp, .bool ya.neg, .slice ya.limbs.A ya.limbs.l.length ya.limbs.c, .int .i64 ya.exp] ?_ ?_ ?_ ?_ ?_ ?_ ?_); (exact rfl); (exact rfl); (exact rfl); (exact rfl); (exact aggMass); (exact B11); (exact by simp); (exact rfl); (intro w3 BR3 hO3)) | fail)
  have hS : Shape (fun e => e = 47) w.heap.size w1 w3 := Shape.only (T := fun e => e = 47) (Shape.refl _ _ _) B11 hO3 BR3 rfl rfl (by simp)
  exact bodyPost_ret (results_c rfl rfl BR3 aggMass) rfl ⟨⟨ys, yw, yc, ya⟩, rfl, by simp only [XMass.data, hds, hdw, hdc, hda], ⟨hms.shape hS (by decide), hmw.shape hS (by decide), hmc.shape hS (by decide), hma.shape hS (by decide)⟩, Ext.of ((Shape.of_ext (hE0.trans hC)).trans hS |>.below (Nat.le_refl _))⟩
end
section
attribute [local go_sem] detUpon undIn
set_option maxRecDepth 100000 in
set_option maxHeartbeats 1000000 in
theorem ref06_Great (x : XMass) (w : World) (hx : x.ok w w.heap.size) :
    Calls Tryd.prog 47 #[.agg #[.bool x.s.neg, .slice x.s.limbs.A x.s.limbs.l.length x.s.limbs.c, .int .i64 x.s.exp, .bool x.w.neg, .slice x.w.limbs.A x.w.limbs.l.length x.w.limbs.c, .int .i64 x.w.exp, .bool x.c.neg, .slice x.c.limbs.A x.c.limbs.l.length x.c.limbs.c, .int .i64 x.c.exp, .bool x.a.neg, .slice x.a.limbs.A x.a.limbs.l.length x.a.limbs.c, .int .i64 x.a.exp]] w (Gr (x.data.small) w) := by
  have HX := Lib.hid hx
  clear hx
  go_enter Tryd.func47, Tryd.ntmps47
  go_wp2_with fail
  refine (ref02_Great x.s _ (HX.out.s.ext (by repeat (first | exact Ext.refl _ | assumption | refine Ext.alloc' ?_ _ | refine Ext.drewN' ?_ _ | refine Ext.drew' ?_ | (refine Ext.trans ?_ (by assumption)))))).mono ?_
  rintro e w0 ⟨b0, rfl, hb0, hE0⟩
  have hT0 := hE0
  obtain ⟨hc0, hf0⟩ := ext_cell hT0
  have HB0 := Lib.hid hb0
  clear hb0
  cases b0 with
  | true =>
    go_wp2_with fail
    go_ret
    exact Gr.yes rfl (by repeat (first | exact Ext.refl _ | assumption | refine Ext.alloc' ?_ _ | refine Ext.drewN' ?_ _ | refine Ext.drew' ?_ | (refine Ext.trans ?_ (by assumption))))
  | false =>
    go_wp2_with fail
    refine (ref02_Great x.w _ (HX.out.w.ext (by repeat (first | exact Ext.refl _ | assumption | refine Ext.alloc' ?_ _ | refine Ext.drewN' ?_ _ | refine Ext.drew' ?_ | (refine Ext.trans ?_ (by assumption)))))).mono ?_
    rintro e w1 ⟨b1, rfl, hb1, hE1⟩
    have hT1 := hT0.trans hE1
    clear hc0 hf0
    obtain ⟨hc1, hf1⟩ := ext_cell hT1
    have HB1 := Lib.hid hb1
    clear hb1
    cases b1 with
    | true =>
      go_wp2_with fail
      go_ret
      exact Gr.yes rfl (by repeat (first | exact Ext.refl _ | assumption | refine Ext.alloc' ?_ _ | refine Ext.drewN' ?_ _ | refine Ext.drew' ?_ | (refine Ext.trans ?_ (by assumption))))
    | false =>
      go_wp2_with fail
      refine (ref02_Great x.c _ (HX.out.c.ext (by repeat (first | exact Ext.refl _ | assumption | refine Ext.alloc' ?_ _ | refine Ext.drewN' ?_ _ | refine Ext.drew' ?_ | (refine Ext.trans ?_ (by assumption)))))).mono ?_
      rintro e w2 ⟨b2, rfl, hb2, hE2⟩
      have hT2 := hT1.trans hE2
      clear hc1 hf1
      obtain ⟨hc2, hf2⟩ := ext_cell hT2
      have HB2 := Lib.hid hb2
      clear hb2
      cases b2 with
      | true =>
        go_wp2_with fail
        go_ret
        exact Gr.yes rfl (by repeat (first | exact Ext.refl _ | assumption | refine Ext.alloc' ?_ _ | refine Ext.drewN' ?_ _ | refine Ext.drew' ?_ | (refine Ext.trans ?_ (by assumption))))
      | false =>
        go_wp2_with fail
        refine (ref02_Great x.a _ (HX.out.a.ext (by repeat (first | exact Ext.refl _ | assumption | refine Ext.alloc' ?_ _ | refine Ext.drewN' ?_ _ | refine Ext.drew' ?_ | (refine Ext.trans ?_ (by assumption)))))).mono ?_
        rintro e w3 ⟨b3, rfl, hb3, hE3⟩
        have hT3 := hT2.trans hE3
        clear hc2 hf2
        obtain ⟨hc3, hf3⟩ := ext_cell hT3
        have HB3 := Lib.hid hb3
        clear hb3
        cases b3 with
        | true =>
          go_wp2_with fail
          go_ret
          exact Gr.yes rfl (by repeat (first | exact Ext.refl _ | assumption | refine Ext.alloc' ?_ _ | refine Ext.drewN' ?_ _ | refine Ext.drew' ?_ | (refine Ext.trans ?_ (by assumption))))
        | false =>
          go_wp2_with fail
          go_ret
          exact Gr.no rfl ⟨Nat.le_trans (HB0.out (by simp)) (by decide), Nat.le_trans (HB1.out (by simp)) (by decide), Nat.le_trans (HB2.out (by simp)) (by decide), Nat.le_trans (HB3.out (by simp)) (by decide)⟩ (by repeat (first | exact Ext.refl _ | assumption | refine Ext.alloc' ?_ _ | refine Ext.drewN' ?_ _ | refine Ext.drew' ?_ | (refine Ext.trans ?_ (by assumption))))
end
end Go.Proofs.YtgcbnagfdfgpnaaDoor
end
