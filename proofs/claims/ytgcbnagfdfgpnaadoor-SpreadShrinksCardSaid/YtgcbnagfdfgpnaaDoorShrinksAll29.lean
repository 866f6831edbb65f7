/- mass.Add: parts together, one by one. Printed by gen_each.py. -/
import Derived.Test.YtgcbnagfdfgpnaaDoorShrinksAll13
import Derived.Test.YtgcbnagfdfgpnaaDoorFlowE
import Derived.Test.YtgcbnagfdfgpnaaDoorShrinksAll10
namespace Go.Hx
open Go.RowKit
theorem PMass.at_data (x : XMass) {i : Nat} (hi : i < 4) : x.data.at i = (x.at i).data := (XMass.data_at' x hi).symm
theorem eachM_ok {f : PDyad → PDyad → PDyad × Int} {x y z : XMass} (hx : mayM x.data) (hy : mayM y.data) (h : ∀ i, i < 4 → (f (x.at i).data (y.at i).data).2 = 0 ∧ (z.at i).data = (f (x.at i).data (y.at i).data).1) : (z.data, (0 : Int)) = eachM f x.data y.data := by
  unfold eachM
  rw [if_pos ⟨hx, hy⟩, if_pos ⟨(h 0 (by omega)).1, (h 1 (by omega)).1, (h 2 (by omega)).1, (h 3 (by omega)).1⟩]
  have e0 := (h 0 (by omega)).2; have e1 := (h 1 (by omega)).2; have e2 := (h 2 (by omega)).2; have e3 := (h 3 (by omega)).2
  show ((⟨(z.at 0).data, (z.at 1).data, (z.at 2).data, (z.at 3).data⟩ : PMass), (0 : Int)) = _
  rw [e0, e1, e2, e3]; rfl
theorem eachM_over {f : PDyad → PDyad → PDyad × Int} {x y : XMass} (hx : mayM x.data) (hy : mayM y.data) {i : Nat} (hi : i < 4) (h : (f (x.at i).data (y.at i).data).2 ≠ 0) : eachM f x.data y.data = (PMass.zero, 10) := by
  unfold eachM
  rw [if_pos ⟨hx, hy⟩, if_neg]
  intro h9
  exact I4cases (motive := fun i => (f (x.at i).data (y.at i).data).2 ≠ 0 → False) hi (fun h => h h9.1) (fun h => h h9.2.1) (fun h => h h9.2.2.1) (fun h => h h9.2.2.2) h
end Go.Hx
namespace Go.Proofs.YtgcbnagfdfgpnaaDoor
open Go.RowKit Go.Hx Go.Shelf
attribute [local go_sem] Oper.semAt_some detUpon undIn
/-- what the rounds of mass.each leave -/
structure EachI (f : PDyad → PDyad → PDyad × Int) (fv : Value) (w : World) (x y : XMass) (g : Nat) (e : Int) (z : XMass) (pre : List I4) (W : World) : Prop where
  b0 : Blk W w.heap.size 47 z.cells
  b1 : Blk W (w.heap.size + 1) 47 y.cells
  b2 : Blk W (w.heap.size + 2) 83 [fv]
  b3 : Blk W (w.heap.size + 3) 47 [.bool false, .slice none 0 0, .int .i64 0, .bool false, .slice none 0 0, .int .i64 0, .bool false, .slice none 0 0, .int .i64 0, .bool false, .slice none 0 0, .int .i64 0]
  be : Blk W g 27 [.int .i64 e]
  old : ∀ i, i < 4 → z.at i = x.at i ∨ (z.at i).mine W w.heap.size
  lim : ∀ i, i < 4 → Limbs (z.at i).limbs.l
  nd : pre.Nodup → (e = 0 ∧ (∀ i (h : i < 4), (⟨i, h⟩ : I4) ∉ pre → z.at i = x.at i) ∧ ∀ i : I4, i ∈ pre → (f (x.at i.1).data (y.at i.1).data).2 = 0 ∧ (z.at i.1).data = (f (x.at i.1).data (y.at i.1).data).1 ∧ (z.at i.1).mine W w.heap.size) ∨ (e = 10 ∧ ∃ i, i < 4 ∧ (f (x.at i).data (y.at i).data).2 ≠ 0)
  ext : Ext w W
  size : g + 3 ≤ W.heap.size
  low : w.heap.size + 4 ≤ g
theorem EachI.turn {f : PDyad → PDyad → PDyad × Int} {fv : Value} {w W W' : World} {x y z : XMass} {g : Nat} {e : Int} {pre : List I4} {row : Option Nat} {B : Nat} (h : EachI f fv w x y g e z pre W) (hB : w.heap.size ≤ B) (hg : W.grownBy W' row) (hr : ∀ r, row = some r → B ≤ r ∧ ∃ o : Obj, W.heap[r]? = some o ∧ o.isCells = false) : EachI f fv w x y g e z pre W' :=
  have k : Turn W W' row := ⟨hg, fun r e => (hr r e).2⟩
  ⟨h.b0.turn k, h.b1.turn k, h.b2.turn k, h.b3.turn k, h.be.turn k, fun i hi => (h.old i hi).imp id fun h => h.turn k, h.lim, fun hn => (h.nd hn).imp (fun h => ⟨h.1, h.2.1, fun i hi => ⟨(h.2.2 i hi).1, (h.2.2 i hi).2.1, (h.2.2 i hi).2.2.turn k⟩⟩) id, h.ext.turn hB hg (fun r e => (hr r e).1), Nat.le_trans h.size hg.size, h.low⟩
theorem EachI.to {f : PDyad → PDyad → PDyad × Int} {fv : Value} {w W W' : World} {x y z : XMass} {g : Nat} {e : Int} {pre : List I4} (h : EachI f fv w x y g e z pre W) (hE : Ext W W') : EachI f fv w x y g e z pre W' :=
  ⟨h.b0.ext hE, h.b1.ext hE, h.b2.ext hE, h.b3.ext hE, h.be.ext hE, fun i hi => (h.old i hi).imp id fun h => h.ext hE, h.lim, fun hn => (h.nd hn).imp (fun h => ⟨h.1, h.2.1, fun i hi => ⟨(h.2.2 i hi).1, (h.2.2 i hi).2.1, (h.2.2 i hi).2.2.ext hE⟩⟩) id, h.ext.trans hE, Nat.le_trans h.size hE.size, h.low⟩
theorem only_set (w : World) (b j : Nat) (u : Value) : Only w (w.setCell ⟨b, j, none⟩ u) b :=
  have h := (Below.refl 0 w).setCell (p := ⟨b, j, none⟩) (Nat.zero_le _) u
  ⟨h.os, h.tape, h.output, by simp, fun k hb => Below.heap_setCell w ⟨b, j, none⟩ u k hb⟩
theorem nodup_snoc {α : Type} {l : List α} {a : α} (h : (l ++ [a]).Nodup) : l.Nodup ∧ a ∉ l := by
  rw [List.nodup_append] at h
  exact ⟨h.1, fun ha => h.2.2 a ha a (by simp) rfl⟩
/-- a round that goes on -/
theorem EachI.skip {f : PDyad → PDyad → PDyad × Int} {fv : Value} {w W : World} {x y z : XMass} {g : Nat} {e : Int} {pre : List I4} {k : I4} (h : EachI f fv w x y g e z pre W) (he : e ≠ 0) : EachI f fv w x y g e z (pre ++ [k]) W :=
  ⟨h.b0, h.b1, h.b2, h.b3, h.be, h.old, h.lim, fun hn => .inr ((h.nd (nodup_snoc hn).1).resolve_left fun h => he h.1), h.ext, h.size, h.low⟩
/-- a round that does something -/
theorem EachI.set {f : PDyad → PDyad → PDyad × Int} {fv : Value} {w W W' W'' : World} {x y z : XMass} {g : Nat} {pre : List I4} (h : EachI f fv w x y g 0 z pre W) {i : Nat} (hi : i < 4) {r : XDyad} (hf : Fine (f (z.at i).data (y.at i).data).1) (hO : mayD (x.at i).data → OkD (f (x.at i).data (y.at i).data)) (hmx : mayM x.data) (hr : r.data = (f (z.at i).data (y.at i).data).1) (hm : r.mine W w.heap.size)
    (hR : Blk W' w.heap.size 47 (z.cells.take (3 * i) ++ r.cells ++ z.cells.drop (3 * i + 3))) (hO1 : Only W W' w.heap.size) {v : Int} (hv : (f (z.at i).data (y.at i).data).2 = v) (hR2 : Blk W'' g 27 [.int .i64 v]) (hO2 : Only W' W'' g) : EachI f fv w x y g v (z.setAt i r) (pre ++ [⟨i, hi⟩]) W'' := by
  rw [← XMass.set_cells z r hi] at hR
  have hlow := h.low
  have hS1 : Shape (fun e => e = 47) w.heap.size W W' := Shape.only (T := fun e => e = 47) (Shape.refl _ _ _) h.b0 hO1 hR (by rw [XMass.cells_length, XMass.cells_length]) rfl (Nat.le_refl _)
  have hS2 : Shape (fun e => e = 27) w.heap.size W' W'' := Shape.only (T := fun e => e = 27) (Shape.refl _ _ _) (h.be.only hO1 (by omega)) hO2 hR2 rfl rfl (by omega)
  have hmm : ∀ {d : XDyad}, d.mine W w.heap.size → d.mine W'' w.heap.size := fun hd => (hd.shape hS1 (by decide)).shape hS2 (by decide)
  refine ⟨hR.only hO2 (by omega), (h.b1.only hO1 (by omega)).only hO2 (by omega), (h.b2.only hO1 (by omega)).only hO2 (by omega), (h.b3.only hO1 (by omega)).only hO2 (by omega), hR2, fun j hj => ?_, fun j hj => ?_, fun hn => ?_, Only.ext (Only.ext h.ext hO1 (Nat.le_refl _)) hO2 (by omega), by rw [hO2.size, hO1.size]; exact h.size, h.low⟩
  · rw [XMass.set_at z r hi hj]
    split
    · exact .inr (hmm hm)
    · exact (h.old j hj).imp id hmm
  · rw [XMass.set_at z r hi hj]
    split
    · have := hf.1; rw [← hr] at this; exact this
    · exact h.lim j hj
  · obtain ⟨hn1, hni⟩ := nodup_snoc hn
    rcases h.nd hn1 with ⟨_, h1, h2⟩ | h1
    · have hzi := h1 i hi hni
      rw [hzi] at hv hr
      by_cases hv0 : v = 0
      · left
        refine ⟨hv0, fun j hj hnj => ?_, fun j hj => ?_⟩
        · rw [XMass.set_at z r hi hj]
          split
          · rename_i e; subst e; exact absurd (List.mem_append_right _ (by simp)) hnj
          · exact h1 j hj fun hm => hnj (List.mem_append_left _ hm)
        · rw [XMass.set_at z r hi j.2]
          rcases List.mem_append.1 hj with hj | hj
          · split
            · rename_i e
              exact absurd (show (⟨i, hi⟩ : I4) ∈ pre by have : j = ⟨i, hi⟩ := Subtype.ext e; rw [← this]; exact hj) hni
            · exact ⟨(h2 j hj).1, (h2 j hj).2.1, hmm (h2 j hj).2.2⟩
          · simp only [List.mem_singleton] at hj
            subst hj
            rw [if_pos rfl]
            exact ⟨by rw [hv]; exact hv0, hr, hmm hm⟩
      · right
        have := hO (by exact I4cases (motive := fun i => mayD (x.at i).data) hi hmx.1 hmx.2.1 hmx.2.2.1 hmx.2.2.2)
        rw [← hv] at hv0 ⊢
        exact ⟨this.resolve_left fun h => hv0 h.1, i, hi, hv0⟩
    · exact absurd h1.1 (by decide)

theorem agg_Mass_len (x : XMass) : AggTy Tryd.prog 47 x.cells.length := aggMass
set_option maxRecDepth 100000 in
set_option maxHeartbeats 2000000 in
theorem mass_each_Add (x y : XMass) (w : World) (hx : x.ok w w.heap.size) (hy : y.ok w w.heap.size) (lx : ∀ i, i < 4 → Limbs (x.at i).limbs.l) (ly : ∀ i, i < 4 → Limbs (y.at i).limbs.l) (hT : Tab w) :
    Calls Tryd.prog 138 #[.agg #[.bool x.s.neg, .slice x.s.limbs.A x.s.limbs.l.length x.s.limbs.c, .int .i64 x.s.exp, .bool x.w.neg, .slice x.w.limbs.A x.w.limbs.l.length x.w.limbs.c, .int .i64 x.w.exp, .bool x.c.neg, .slice x.c.limbs.A x.c.limbs.l.length x.c.limbs.c, .int .i64 x.c.exp, .bool x.a.neg, .slice x.a.limbs.A x.a.limbs.l.length x.a.limbs.c, .int .i64 x.a.exp], .agg #[.bool y.s.neg, .slice y.s.limbs.A y.s.limbs.l.length y.s.limbs.c, .int .i64 y.s.exp, .bool y.w.neg, .slice y.w.limbs.A y.w.limbs.l.length y.w.limbs.c, .int .i64 y.w.exp, .bool y.c.neg, .slice y.c.limbs.A y.c.limbs.l.length y.c.limbs.c, .int .i64 y.c.exp, .bool y.a.neg, .slice y.a.limbs.A y.a.limbs.l.length y.a.limbs.c, .int .i64 y.a.exp], .func (.func 89) #[] #[]] w fun e w' => ∃ z : XMass, e = .returned (.tuple #[.agg #[.bool z.s.neg, .slice z.s.limbs.A z.s.limbs.l.length z.s.limbs.c, .int .i64 z.s.exp, .bool z.w.neg, .slice z.w.limbs.A z.w.limbs.l.length z.w.limbs.c, .int .i64 z.w.exp, .bool z.c.neg, .slice z.c.limbs.A z.c.limbs.l.length z.c.limbs.c, .int .i64 z.c.exp, .bool z.a.neg, .slice z.a.limbs.A z.a.limbs.l.length z.a.limbs.c, .int .i64 z.a.exp], .int .i64 (eachM addD x.data y.data).2]) ∧ z.data = (eachM addD x.data y.data).1 ∧ z.mine w' w.heap.size ∧ Ext w w' := by
  have HX := Lib.hid hx
  have HY := Lib.hid hy
  have LXX := Lib.hid lx
  have LYY := Lib.hid ly
  have HT := Lib.hid hT
  clear hx hy lx ly hT
  refine callsIn_wide.1 (callsIn_of_wp_marks (n := 5) Tryd.func138 rfl trivial ?_ rfl)
  simp only [Tryd.ntmps138, List.size_toArray, List.length_cons, List.length_nil, Nat.reduceAdd, Nat.reduceSub, Array.replicate_succ, Array.replicate_zero, List.push_toArray, List.append_toArray, List.nil_append, List.cons_append]
  obtain ⟨Wb, hWb⟩ : ∃ Wb, Wb = (((w.alloc (.cells #[.bool x.s.neg, .slice x.s.limbs.A x.s.limbs.l.length x.s.limbs.c, .int .i64 x.s.exp, .bool x.w.neg, .slice x.w.limbs.A x.w.limbs.l.length x.w.limbs.c, .int .i64 x.w.exp, .bool x.c.neg, .slice x.c.limbs.A x.c.limbs.l.length x.c.limbs.c, .int .i64 x.c.exp, .bool x.a.neg, .slice x.a.limbs.A x.a.limbs.l.length x.a.limbs.c, .int .i64 x.a.exp] 47)).alloc (.cells #[.bool y.s.neg, .slice y.s.limbs.A y.s.limbs.l.length y.s.limbs.c, .int .i64 y.s.exp, .bool y.w.neg, .slice y.w.limbs.A y.w.limbs.l.length y.w.limbs.c, .int .i64 y.w.exp, .bool y.c.neg, .slice y.c.limbs.A y.c.limbs.l.length y.c.limbs.c, .int .i64 y.c.exp, .bool y.a.neg, .slice y.a.limbs.A y.a.limbs.l.length y.a.limbs.c, .int .i64 y.a.exp] 47)).alloc (.cells #[.func (.func 89) #[] #[]] 83)).alloc (.cells #[.bool false, .slice none 0 0, .int .i64 0, .bool false, .slice none 0 0, .int .i64 0, .bool false, .slice none 0 0, .int .i64 0, .bool false, .slice none 0 0, .int .i64 0] 47) := ⟨_, rfl⟩
  have B0 : Blk Wb w.heap.size 47 x.cells := by rw [hWb]; exact (((Blk.new (cs := x.cells) rfl).alloc _).alloc _).alloc _
  have B1 : Blk Wb (w.heap.size + 1) 47 y.cells := by rw [hWb]; exact ((Blk.new (cs := y.cells) (by simp)).alloc _).alloc _
  have B2 : Blk Wb (w.heap.size + 2) 83 [.func (.func 89) #[] #[]] := by rw [hWb]; exact (Blk.new (cs := [.func (.func 89) #[] #[]]) (by simp)).alloc _
  have B3 : Blk Wb (w.heap.size + 3) 47 [.bool false, .slice none 0 0, .int .i64 0, .bool false, .slice none 0 0, .int .i64 0, .bool false, .slice none 0 0, .int .i64 0, .bool false, .slice none 0 0, .int .i64 0] := by rw [hWb]; exact Blk.new (cs := [.bool false, .slice none 0 0, .int .i64 0, .bool false, .slice none 0 0, .int .i64 0, .bool false, .slice none 0 0, .int .i64 0, .bool false, .slice none 0 0, .int .i64 0]) (by simp)
  have EB : Ext w Wb := by rw [hWb]; exact Ext.alloc' (Ext.alloc' (Ext.alloc' (Ext.alloc _ _) _) _) _
  have SB : w.heap.size + 4 ≤ Wb.heap.size := by rw [hWb]; simp
  by_cases hmx : mayM x.data
  rotate_left
  · have HR : Hid (eachM addD x.data y.data = (PMass.zero, 8)) := Lib.hid (by unfold eachM; rw [if_neg fun h => hmx h.1])
    have HC : Hid (chk (decide (mayM x.data)) = 8) := Lib.hid (by rw [decide_eq_false hmx]; rfl)
    clear hmx
    gi_wp2_with fail
    rw [← hWb]
    clear hWb
    simp only [Nat.add_assoc, Nat.reduceAdd]
    refine ⟨trivial, ?_⟩
    gi_at_call 27
    refine (callsIn_wide.2 (mass_Check x _ (HX.out.ext EB))).mono ?_
    rintro e w1 ⟨rfl, hE⟩
    rw [HC.out]
    have B0 := B0.ext hE
    have B1 := B1.ext hE
    have B2 := B2.ext hE
    have B3 := B3.ext hE
    have E1 : Ext w w1 := EB.trans hE
    have S1 : w.heap.size + 4 ≤ w1.heap.size := Nat.le_trans SB hE.size
    clear hE
    gi_wp2_with fail
    refine ⟨trivial, ?_⟩
    gi_wp2_with (first | ((with_reducible refine wplIn_store Open.wide 47 (.tmp 6) (.tmp 19) ?_ ?_ (w.heap.size + 3) 0 47 [.bool false, .slice none 0 0, .int .i64 0, .bool false, .slice none 0 0, .int .i64 0, .bool false, .slice none 0 0, .int .i64 0, .bool false, .slice none 0 0, .int .i64 0] [.bool false, .slice none 0 0, .int .i64 0, .bool false, .slice none 0 0, .int .i64 0, .bool false, .slice none 0 0, .int .i64 0, .bool false, .slice none 0 0, .int .i64 0] ?_ ?_ ?_ ?_ ?_ ?_ ?_); (exact rfl); (exact rfl); (exact rfl); (exact rfl); (exact aggMass); (exact B3); (exact by simp); (exact rfl); (intro W3 BR hO)) | fail)
    have B31 : Blk W3 (w.heap.size + 3) 47 XMass.zero.cells := BR
    exact ⟨_, results_ct rfl rfl B31 aggMass, XMass.zero, by rw [HR.out] <;> rfl, by rw [HR.out] <;> rfl, ⟨⟨Go.Hx.Own.nil _ _ _ _ _⟩, ⟨Go.Hx.Own.nil _ _ _ _ _⟩, ⟨Go.Hx.Own.nil _ _ _ _ _⟩, ⟨Go.Hx.Own.nil _ _ _ _ _⟩⟩, Only.ext E1 hO (by omega)⟩
  by_cases hmy : mayM y.data
  rotate_left
  · have HR : Hid (eachM addD x.data y.data = (PMass.zero, 8)) := Lib.hid (by unfold eachM; rw [if_neg fun h => hmy h.2])
    have HC : Hid (chk (decide (mayM x.data)) = 0) := Lib.hid (by rw [decide_eq_true hmx]; rfl)
    have HC2 : Hid (chk (decide (mayM y.data)) = 8) := Lib.hid (by rw [decide_eq_false hmy]; rfl)
    clear hmx hmy
    gi_wp2_with fail
    rw [← hWb]
    clear hWb
    simp only [Nat.add_assoc, Nat.reduceAdd]
    refine ⟨trivial, ?_⟩
    gi_at_call 27
    refine (callsIn_wide.2 (mass_Check x _ (HX.out.ext EB))).mono ?_
    rintro e w1 ⟨rfl, hE⟩
    rw [HC.out]
    have B0 := B0.ext hE
    have B1 := B1.ext hE
    have B2 := B2.ext hE
    have B3 := B3.ext hE
    have E1 : Ext w w1 := EB.trans hE
    have S1 : w.heap.size + 4 ≤ w1.heap.size := Nat.le_trans SB hE.size
    clear hE
    gi_wp2_with (first | ((with_reducible refine wplIn_load Open.wide 47 (.tmp 4) ?_ ?_ (w.heap.size + 1) 0 y.cells ?_ ?_ ?_ ?_); (exact rfl); (exact rfl); (exact rfl); (exact aggMass); (exact B1.row)) | fail)
    refine ⟨trivial, ?_⟩
    gi_at_call 27
    refine (callsIn_wide.2 (mass_Check y _ (HY.out.ext E1))).mono ?_
    rintro e w2 ⟨rfl, hE⟩
    rw [HC2.out]
    have B0 := B0.ext hE
    have B1 := B1.ext hE
    have B2 := B2.ext hE
    have B3 := B3.ext hE
    have E2 : Ext w w2 := E1.trans hE
    have S2 : w.heap.size + 4 ≤ w2.heap.size := Nat.le_trans S1 hE.size
    clear hE
    gi_wp2_with (first | ((with_reducible refine wplIn_store Open.wide 47 (.tmp 6) (.tmp 19) ?_ ?_ (w.heap.size + 3) 0 47 [.bool false, .slice none 0 0, .int .i64 0, .bool false, .slice none 0 0, .int .i64 0, .bool false, .slice none 0 0, .int .i64 0, .bool false, .slice none 0 0, .int .i64 0] [.bool false, .slice none 0 0, .int .i64 0, .bool false, .slice none 0 0, .int .i64 0, .bool false, .slice none 0 0, .int .i64 0, .bool false, .slice none 0 0, .int .i64 0] ?_ ?_ ?_ ?_ ?_ ?_ ?_); (exact rfl); (exact rfl); (exact rfl); (exact rfl); (exact aggMass); (exact B3); (exact by simp); (exact rfl); (intro W3 BR hO)) | fail)
    have B31 : Blk W3 (w.heap.size + 3) 47 XMass.zero.cells := BR
    exact ⟨_, results_ct rfl rfl B31 aggMass, XMass.zero, by rw [HR.out] <;> rfl, by rw [HR.out] <;> rfl, ⟨⟨Go.Hx.Own.nil _ _ _ _ _⟩, ⟨Go.Hx.Own.nil _ _ _ _ _⟩, ⟨Go.Hx.Own.nil _ _ _ _ _⟩, ⟨Go.Hx.Own.nil _ _ _ _ _⟩⟩, Only.ext E2 hO (by omega)⟩
  have HMX := Lib.hid hmx
  have HMY := Lib.hid hmy
  have HC : Hid (chk (decide (mayM x.data)) = 0) := Lib.hid (by rw [decide_eq_true hmx]; rfl)
  have HC2 : Hid (chk (decide (mayM y.data)) = 0) := Lib.hid (by rw [decide_eq_true hmy]; rfl)
  clear hmx hmy
  gi_wp2_with fail
  rw [← hWb]
  clear hWb
  simp only [Nat.add_assoc, Nat.reduceAdd]
  refine ⟨trivial, ?_⟩
  gi_at_call 27
  refine (callsIn_wide.2 (mass_Check x _ (HX.out.ext EB))).mono ?_
  rintro e w1 ⟨rfl, hE⟩
  rw [HC.out]
  have B0 := B0.ext hE
  have B1 := B1.ext hE
  have B2 := B2.ext hE
  have B3 := B3.ext hE
  have E1 : Ext w w1 := EB.trans hE
  have S1 : w.heap.size + 4 ≤ w1.heap.size := Nat.le_trans SB hE.size
  clear hE
  gi_wp2_with (first | ((with_reducible refine wplIn_load Open.wide 47 (.tmp 4) ?_ ?_ (w.heap.size + 1) 0 y.cells ?_ ?_ ?_ ?_); (exact rfl); (exact rfl); (exact rfl); (exact aggMass); (exact B1.row)) | fail)
  refine ⟨trivial, ?_⟩
  gi_at_call 27
  refine (callsIn_wide.2 (mass_Check y _ (HY.out.ext E1))).mono ?_
  rintro e w2 ⟨rfl, hE⟩
  rw [HC2.out]
  have B0 := B0.ext hE
  have B1 := B1.ext hE
  have B2 := B2.ext hE
  have B3 := B3.ext hE
  have E2 : Ext w w2 := E1.trans hE
  have S2 : w.heap.size + 4 ≤ w2.heap.size := Nat.le_trans S1 hE.size
  clear hE
  gi_wp2_with (refine ⟨trivial, ?_⟩; gi_at_call 66; refine (callsIn_wide.2 (mass_parts _ _ _)).mono ?_; rintro e w' ⟨rfl, rfl⟩)
  obtain ⟨g, hg⟩ : ∃ g, g = w2.heap.size := ⟨_, rfl⟩
  obtain ⟨W1, hW1⟩ : ∃ W1, W1 = ((w2.alloc (.cells #[.int .i64 0] 27)).alloc (.cells #[.pointer (some ⟨w.heap.size, 0, none⟩)] 123)).alloc (.cells #[.pointer (some ⟨w.heap.size + 1, 0, none⟩)] 123) := ⟨_, rfl⟩
  have hI0 : EachI addD (.func (.func 89) #[] #[]) w x y g 0 x [] W1 := by
    rw [hW1]
    exact ⟨((B0.alloc _).alloc _).alloc _, ((B1.alloc _).alloc _).alloc _, ((B2.alloc _).alloc _).alloc _, ((B3.alloc _).alloc _).alloc _, ((Blk.new (cs := [.int .i64 0]) hg).alloc _).alloc _, fun _ _ => .inl rfl, LXX.out, fun _ => .inl ⟨rfl, fun _ _ _ => rfl, fun _ h => by cases h⟩, Ext.alloc' (Ext.alloc' (Ext.alloc' E2 _) _) _, by rw [hg]; simp, by omega⟩
  have hP0 : Blk W1 (g + 1) 123 [.pointer (some ⟨w.heap.size, 0, none⟩)] := by rw [hW1]; exact (Blk.new (cs := [.pointer (some ⟨w.heap.size, 0, none⟩)]) (by rw [hg]; simp)).alloc _
  have hP1 : Blk W1 (g + 2) 123 [.pointer (some ⟨w.heap.size + 1, 0, none⟩)] := by rw [hW1]; exact Blk.new (cs := [.pointer (some ⟨w.heap.size + 1, 0, none⟩)]) (by rw [hg]; simp)
  have hz : W1.heap.size = g + 3 := by rw [hW1, hg]; simp
  have hgl : w.heap.size + 4 ≤ g := by omega
  simp only [Nat.add_assoc, Nat.reduceAdd]
  rw [← hW1, ← hg]
  clear hW1 hg S2 S1 E1 E2 SB EB B0 B1 B2 B3 HC HC2
  refine wpIn_rangeFunc_ownG rfl (by omega) (gf := 112) (lb := #[.pointer (some ⟨g + 1, 0, none⟩), .pointer (some ⟨g + 2, 0, none⟩)]) rfl trivial (enters_of Tryd.func112 (by kernel_rfl) rfl)
    (parts_stops (5 - 1) (g + 1) (g + 2) (w.heap.size) (w.heap.size + 1) W1 hP0 hP1) (fun h k => h.trans k) (TwoStay.putObj (by omega) (by omega)) (RowKit.Below.refl _ _) (fun _ => rfl)
    (fun pre W => ∃ e z, EachI addD (.func (.func 89) #[] #[]) w x y g e z pre W)
    (fun _ _ _ => False)
    (fun s A B row hs hg hr => by obtain ⟨e, z, hz⟩ := hs; exact ⟨e, z, hz.turn (by omega) hg hr⟩)
    (fun c s A B row hs hg hr => hs)
    ⟨0, x, hI0⟩
    (fun i => { tmps := #[.agg x.cells.toArray, .agg y.cells.toArray, .func (.func 89) #[] #[], .pointer (some ⟨w.heap.size, 0, none⟩), .pointer (some ⟨w.heap.size + 1, 0, none⟩), .pointer (some ⟨w.heap.size + 2, 0, none⟩), .pointer (some ⟨w.heap.size + 3, 0, none⟩), .int .i64 0, .pointer (some ⟨g, 0, none⟩), .pointer (some ⟨w.heap.size, 3 * i.1, none⟩), .pointer (some ⟨w.heap.size + 1, 3 * i.1, none⟩), .agg x.cells.toArray, .int .i64 0, .bool false, .bool false, .agg y.cells.toArray, .int .i64 0, .bool false, .bool false, undef, .func (.func 112) #[] #[.pointer (some ⟨g + 1, 0, none⟩), .pointer (some ⟨g + 2, 0, none⟩)], .pointer (some ⟨w.heap.size, 3 * i.1, none⟩), .pointer (some ⟨w.heap.size + 1, 3 * i.1, none⟩), undef, undef, undef, undef, undef, undef, undef, undef, undef, undef, undef, undef, undef, undef, undef, undef, undef, undef, undef, undef], defers := [] }) ?assign ?body ?done ?stop
  case assign =>
    intro l x W K hK
    gi_wp2
    exact hK
  case body =>
    rintro l pre ⟨i, hi⟩ W ⟨e, z, hI⟩ _
    obtain ⟨ce, fe⟩ := hI.be.rules
    have HI := Lib.hid hI
    by_cases he : e = 0
    rotate_left
    · have d1 : (e != 0) = true := by simpa using he
      have HE := Lib.hid he
      clear hI hI0 hP0 hP1 hz he
      gi_wp2_with fail
      exact ⟨(KeepsOthers.refl _).from _, ⟨rfl, rfl⟩, e, z, HI.out.skip HE.out⟩
    subst he
    have hiI := Lib.hid hi
    have HOZ : Hid ((z.at i).ok W W.heap.size) := Lib.hid (by
      rcases hI.old i hi with h | h
      · rw [h]; exact (XMass.at_ok HX.out hi).ext hI.ext
      · exact h.ok)
    have HOY : Hid ((y.at i).ok W W.heap.size) := Lib.hid ((XMass.at_ok HY.out hi).ext hI.ext)
    have HTW : Hid (Tab W) := Lib.hid (HT.out.ext hI.ext)
    have HRZ : Hid (RowAt W w.heap.size (3 * i) (z.at i).cells) := Lib.hid (by rw [← z.part hi]; exact hI.b0.part (3 * i) 3)
    have HRY : Hid (RowAt W (w.heap.size + 1) (3 * i) (y.at i).cells) := Lib.hid (by rw [← y.part hi]; exact hI.b1.part (3 * i) 3)
    obtain ⟨ev, hev⟩ : ∃ ev, (addD (z.at i).data (y.at i).data).2 = ev := ⟨_, rfl⟩
    have HEV := Lib.hid hev
    clear hI hI0 hP0 hP1 hz hev
    gi_wp2_with fail
    clear ce fe
    refine FE.wpIn_region_flowTail 14 (fun W' => Blk W' (w.heap.size + 2) 83 [.func (.func 89) #[] #[]]) (Ext W) Ext (fun k => if k = 8 then .row (fun v => ∃ r : XDyad, v = .tuple #[.agg #[.bool r.neg, .slice r.limbs.A r.limbs.l.length r.limbs.c, .int .i64 r.exp], .int .i64 ev]) (fun v W' => ∃ r : XDyad, v = .tuple #[.agg #[.bool r.neg, .slice r.limbs.A r.limbs.l.length r.limbs.c, .int .i64 r.exp], .int .i64 ev] ∧ r.data = (addD (z.at i).data (y.at i).data).1 ∧ r.mine W' w.heap.size ∧ Ext W W') else if k = 13 then .last else if k = 4 ∨ k = 7 then .early (Ext W) else .det) [8] (Open.wide.inRound l) (by kernel_rfl) (by kernel_rfl) (by kernel_rfl) (HI.out.b2.drew) (fun k E h => by
      split at h
      · cases h
      · split at h
        · cases h
        · split at h
          · cases h; exact ⟨Ext.drew _, fun _ _ h k => h.trans k⟩
          · cases h) (Ext.drew _) (fun _ _ h k => h.trans k) ?_
    iterate 4 (refine FE.ftext_det rfl rfl ?_; apply Exists.intro; refine ⟨fun w hC => ?_, fun K hK => ?_⟩; (first | (go_simp; exact rfl) | (have hc := Blk.cell hC 0; simp only [List.getElem?_cons_zero] at hc; go_simp; first | exact ⟨rfl, rfl⟩ | exact rfl)); go_simp; refine hK _ ?_; clear hK K)
    refine FE.ftext_load_early (Ext W) 24 _ rfl rfl rfl (w.heap.size) (3 * i) (z.at i).cells rfl aggDyad (fun w1 _ hE => HRZ.out.below hE.below (by have := HI.out.low; have := HI.out.size; omega)) (fun K hK => ?_)
    go_simp; refine hK _ ?_; clear hK K
    iterate 2 (refine FE.ftext_det rfl rfl ?_; apply Exists.intro; refine ⟨fun w hC => ?_, fun K hK => ?_⟩; (first | (go_simp; exact rfl) | (have hc := Blk.cell hC 0; simp only [List.getElem?_cons_zero] at hc; go_simp; first | exact ⟨rfl, rfl⟩ | exact rfl)); go_simp; refine hK _ ?_; clear hK K)
    refine FE.ftext_load_early (Ext W) 24 _ rfl rfl rfl (w.heap.size + 1) (3 * i) (y.at i).cells rfl aggDyad (fun w1 _ hE => HRY.out.below hE.below (by have := HI.out.low; have := HI.out.size; omega)) (fun K hK => ?_)
    go_simp; refine hK _ ?_; clear hK K
    refine FE.ftext_row _ _ rfl rfl ⟨_, XDyad.zero, rfl⟩ (fun v w1 w2 ⟨r, h1, h2, h3, h4⟩ hR => ⟨r, h1, h2, h3.ext hR, h4.trans hR⟩) (fun w1 hC hJ Φ hΦ => ?_) (fun v hv K hK => ?_)
    · go_simp
      refine (dyad_Add (z.at i) (y.at i) _ (HOZ.out.ext hJ) (HOY.out.ext hJ) (HI.out.lim i hiI.out) (LYY.out i hiI.out) (HTW.out.ext hJ)).mono ?_
      rw [HEV.out]
      rintro e w2 ⟨r, rfl, h1, h2, h3⟩
      exact ⟨_, rfl, hΦ _ _ ⟨r, rfl⟩ (hC.ext h3) h3 ⟨r, rfl, h1, h2.lower (Nat.le_trans HI.out.ext.size hJ.size), hJ.trans h3⟩⟩
    obtain ⟨r1, rfl⟩ := hv
    go_simp; refine hK _ ?_; clear hK K
    iterate 4 (refine FE.ftext_det rfl rfl ?_; apply Exists.intro; refine ⟨fun w hC => ?_, fun K hK => ?_⟩; (first | (go_simp; exact rfl) | (have hc := Blk.cell hC 0; simp only [List.getElem?_cons_zero] at hc; go_simp; first | exact ⟨rfl, rfl⟩ | exact rfl)); go_simp; refine hK _ ?_; clear hK K)
    refine FE.ftext_store 24 _ _ (fun W' => ∃ (W2 : World) (r : XDyad), Ext W W2 ∧ r.data = (addD (z.at i).data (y.at i).data).1 ∧ r.mine W2 w.heap.size ∧ Blk W' w.heap.size 47 (z.cells.take (3 * i) ++ r.cells ++ z.cells.drop (3 * i + 3)) ∧ Only W2 W' w.heap.size) rfl rfl rfl (fun w1 hC hJ hF => ?_) (fun K hK => ?_)
    · obtain ⟨r, hr, h1, h2, h3⟩ := hJ
      have hrc : Value.agg #[.bool r1.neg, .slice r1.limbs.A r1.limbs.l.length r1.limbs.c, .int .i64 r1.exp] = Value.agg #[.bool r.neg, .slice r.limbs.A r.limbs.l.length r.limbs.c, .int .i64 r.exp] := congrArg (fun v : Value => match v with | .tuple a => a.getD 0 undef | _ => v) hr
      exact ⟨w.heap.size, 3 * i, 47, z.cells, r.cells, rfl, hrc, aggDyad, HI.out.b0.ext h3, by rw [XMass.cells_length, XDyad.cells_length]; have := hiI.out; omega, rfl, fun w' BR hO => ⟨hC.only hO (by omega), w1, r, h3, h1, h2, BR, hO⟩⟩
    go_simp; refine hK _ ?_; clear hK K
    refine FE.ftext_nil ?_
    rintro w1 hC ⟨W2, r, h3, h1, h2, BR, hO⟩ _
    simp only [List.drop_succ_cons, List.drop_zero]
    have hI2 := HI.out.to h3
    have HBE : Blk w1 g 27 [.int .i64 0] := hI2.be.only hO (by have := HI.out.low; omega)
    have HI2 := Lib.hid hI2
    have HBR := Lib.hid BR
    have HOO := Lib.hid hO
    have H1 := Lib.hid h1
    have H2 := Lib.hid h2
    have H3 := Lib.hid h3
    have HBE' := Lib.hid HBE
    obtain ⟨cg, fg⟩ := HBE.rules
    clear hI2 BR hO h1 h2 h3 HBE hC
    gi_wp2_with fail
    exact ⟨((KeepsOthers.ext H3.out).trans ((KeepsOthers.only HI2.out.b0 HOO.out).trans (KeepsOthers.setCell _ _ _))).from _, ⟨(Below.heap_setCell w1 ⟨g, 0, none⟩ _ _ (by show g + 1 ≠ g; omega)).trans ((HOO.out.block _ (by have := HI.out.low; omega)).trans (H3.out.block _ (by have := HI.out.size; omega))), (Below.heap_setCell w1 ⟨g, 0, none⟩ _ _ (by show g + 2 ≠ g; omega)).trans ((HOO.out.block _ (by have := HI.out.low; omega)).trans (H3.out.block _ (by have := HI.out.size; omega)))⟩, ev, z.setAt i r,
      HI2.out.set hiI.out (addD_fine _ _) (fun hm => addD_okD hm (I4cases (motive := fun i => mayD (y.at i).data) hiI.out HMY.out.1 HMY.out.2.1 HMY.out.2.2.1 HMY.out.2.2.2)) HMX.out H1.out H2.out HBR.out HOO.out HEV.out (HBE'.out.set 0 _) (only_set w1 g 0 _)⟩
  case done =>
    rintro D xs W hD rfl ⟨e, z, hI⟩ hK
    have HD := Lib.hid hD
    have HI := Lib.hid hI
    have HK := Lib.hid hK
    have hnd := hI.nd (by decide)
    have HDD : Hid (w.heap.size ≤ D) := Lib.hid (by omega)
    obtain ⟨ce, fe⟩ := hI.be.rules
    clear hI hI0 hP0 hP1 hz hK hD
    by_cases he : e = 0
    · subst he
      have HA := Lib.hid (hnd.resolve_right fun h => absurd h.1 (by decide)).2.2
      clear hnd
      gi_wp2_with (first | ((with_reducible refine wplIn_load Open.wide 47 (.tmp 3) ?_ ?_ (w.heap.size) 0 z.cells ?_ ?_ ?_ ?_); (exact rfl); (exact rfl); (exact rfl); (exact aggMass); (exact HI.out.b0.row)) | ((with_reducible refine wplIn_store Open.wide 47 (.tmp 6) (.tmp 42) ?_ ?_ (w.heap.size + 3) 0 47 [.bool false, .slice none 0 0, .int .i64 0, .bool false, .slice none 0 0, .int .i64 0, .bool false, .slice none 0 0, .int .i64 0, .bool false, .slice none 0 0, .int .i64 0] z.cells ?_ ?_ ?_ ?_ ?_ ?_ ?_); (exact rfl); (exact rfl); (exact rfl); (exact rfl); (exact aggMass); (exact HI.out.b3); (exact by rw [XMass.cells_length]; decide); (exact rfl); (intro W3 BR hO)) | fail)
      have hK' := (KeepsOthers.only HI.out.b3 hO).same D _ HK.out rfl
      have k := Turn.put _ (.deferred none) hK' rfl
      have hS : Shape (fun e => e = 47) w.heap.size W W3 := Shape.only (T := fun e => e = 47) (Shape.refl _ _ _) HI.out.b3 hO BR (by simp [XMass.cells_length]) rfl (by omega)
      have BR' : Blk W3 (w.heap.size + 3) 47 z.cells := BR
      have hm : z.mine W3 w.heap.size := ⟨(HA.out k0 (by simp)).2.2.shape hS (by decide), (HA.out k1 (by simp)).2.2.shape hS (by decide), (HA.out k2 (by simp)).2.2.shape hS (by decide), (HA.out k3 (by simp)).2.2.shape hS (by decide)⟩
      have hr := eachM_ok (f := addD) (z := z) HMX.out HMY.out fun i hi => ⟨(HA.out ⟨i, hi⟩ (by exact I4cases (motive := fun i => ∀ h : i < 4, (⟨i, h⟩ : I4) ∈ [k0, k1, k2, k3]) hi (fun _ => by simp) (fun _ => by simp) (fun _ => by simp) (fun _ => by simp) hi)).1, (HA.out ⟨i, hi⟩ (by exact I4cases (motive := fun i => ∀ h : i < 4, (⟨i, h⟩ : I4) ∈ [k0, k1, k2, k3]) hi (fun _ => by simp) (fun _ => by simp) (fun _ => by simp) (fun _ => by simp) hi)).2.1⟩
      refine ⟨by simp, .inl ⟨_, _, rfl, run_takeDeferred hK', ?_⟩⟩
      exact ⟨_, results_ct rfl rfl (BR'.turn k) aggMass, z, by rw [← hr] <;> rfl, by rw [← hr], hm.turn k, (Only.ext HI.out.ext hO (by omega)).put _ _ HDD.out⟩
    · have d1 : (e != 0) = true := by simpa using he
      obtain ⟨rfl, i, hi, hne⟩ := hnd.resolve_left fun h => he h.1
      have HR := Lib.hid (eachM_over (f := addD) HMX.out HMY.out hi hne)
      clear hnd he hne hi
      gi_wp2_with fail
      clear ce fe
      refine FE.wpIn_region_flowTail 3 (fun W' => Blk W' g 27 [.int .i64 10]) (Ext W) Ext (fun k => if k = 2 then .last else .det) [] Open.wide (by kernel_rfl) (by kernel_rfl) (by kernel_rfl) (HI.out.be.drew) (fun k E h => by
        split at h <;> cases h) (Ext.drew _) (fun _ _ h k => h.trans k) ?_
      iterate 2 (refine FE.ftext_det rfl rfl ?_; apply Exists.intro; refine ⟨fun w hC => ?_, fun K hK => ?_⟩; (first | (go_simp; exact rfl) | (have hc := Blk.cell hC 0; simp only [List.getElem?_cons_zero] at hc; go_simp; first | exact ⟨rfl, rfl⟩ | exact rfl)); go_simp; refine hK _ ?_; clear hK K)
      refine FE.ftext_store 47 _ _ (fun W' => ∃ W2 : World, Ext W W2 ∧ Blk W' (w.heap.size + 3) 47 XMass.zero.cells ∧ Only W2 W' (w.heap.size + 3)) rfl rfl rfl (fun w1 hC hJ hF => ?_) (fun K hK => ?_)
      · exact ⟨w.heap.size + 3, 0, 47, [.bool false, .slice none 0 0, .int .i64 0, .bool false, .slice none 0 0, .int .i64 0, .bool false, .slice none 0 0, .int .i64 0, .bool false, .slice none 0 0, .int .i64 0], [.bool false, .slice none 0 0, .int .i64 0, .bool false, .slice none 0 0, .int .i64 0, .bool false, .slice none 0 0, .int .i64 0, .bool false, .slice none 0 0, .int .i64 0], rfl, rfl, aggMass, HI.out.b3.ext hJ, by simp, rfl, fun w' BR hO => ⟨hC.only hO (by omega), w1, hJ, BR, hO⟩⟩
      go_simp; refine hK _ ?_; clear hK K
      refine FE.ftext_nil ?_
      rintro w1 hC ⟨W2, h3, BR, hO⟩ _
      simp only [List.drop_succ_cons, List.drop_zero]
      have BR' := Lib.hid BR
      have HOO := Lib.hid hO
      have H3 := Lib.hid h3
      clear BR hO h3 hC
      gi_wp2_with fail
      have hK2 := (KeepsOthers.ext H3.out).same D _ HK.out rfl
      have hK' := (KeepsOthers.only (HI.out.b3.ext H3.out) HOO.out).same D _ hK2 rfl
      have k := Turn.put _ (.deferred none) hK' rfl
      refine ⟨by simp, .inl ⟨_, _, rfl, run_takeDeferred hK', ?_⟩⟩
      exact ⟨_, results_ct rfl rfl (BR'.out.turn k) aggMass, XMass.zero, by rw [HR.out] <;> rfl, by rw [HR.out] <;> rfl, ⟨⟨Go.Hx.Own.nil _ _ _ _ _⟩, ⟨Go.Hx.Own.nil _ _ _ _ _⟩, ⟨Go.Hx.Own.nil _ _ _ _ _⟩, ⟨Go.Hx.Own.nil _ _ _ _ _⟩⟩, (Only.ext (HI.out.ext.trans H3.out) HOO.out (by omega)).put _ _ HDD.out⟩
  case stop =>
    rintro D c pre W _ _ h _
    exact h.elim
end Go.Proofs.YtgcbnagfdfgpnaaDoor
