/- Copies of dyads and of caches. Printed by gen_twin.py. -/
import Derived.Test.YtnlhpdlnbcdfjaaClone
namespace Go.Hx
theorem own_new {α : Type} {e size : Nat} {enc : α → List Value} (W : World) (g : Nat) (hg : g = W.heap.size) : Own (W.alloc (.cells #[] e)) W.heap.size e size enc (.slice (some ⟨g, 0, none⟩) 0 0) [] := by
  subst hg
  exact World.ownsRow_lit W #[] 0 (Nat.le_refl _) (by simp [maxLen]) (by simp)
theorem ext_grown {W w1 : World} {e g : Nat} {v : Value} (hv : v = .slice (some ⟨g, 0, none⟩) 0 0) (hg : g = W.heap.size) (h : (W.alloc (.cells #[] e)).grownBy w1 v.ownBlock) : Ext W w1 := by
  subst hv
  exact Ext.of (Own.below (own_new (size := 1) (enc := fun _ : Nat => []) W g hg) (Ext.alloc W _).below h (Nat.le_refl _) (by simp))
end Go.Hx
namespace Go.Proofs.Ytnlhpdlnbcdfjaa
open Go.RowKit Go.Hx

theorem aggDyad : AggTy Try.prog 26 3 := ⟨⟨_, Try.underlying26, rfl⟩, by kernel_rfl⟩
theorem aggCache : AggTy Try.prog 38 3 := ⟨⟨_, Try.underlying38, rfl⟩, by kernel_rfl⟩

set_option maxRecDepth 100000 in
theorem dyad_Twin (x : XDyad) (w : World) (hx : x.ok w w.heap.size) (hs : x.data.small) :
    Calls Try.prog 63 #[.agg #[.bool x.neg, .slice x.limbs.A x.limbs.l.length x.limbs.c, .int .i64 x.exp]] w fun e w' => ∃ y : XDyad, e = .returned (.agg #[.bool y.neg, .slice y.limbs.A y.limbs.l.length y.limbs.c, .int .i64 y.exp]) ∧ y.data = x.data ∧ y.mine w' w.heap.size ∧ Ext w w' := by
  go_enter Try.func63, Try.ntmps63
  go_wp2_with fail
  refine (clone_u32 x.limbs _ (hx.limbs.ext (by repeat (first | exact Ext.refl _ | assumption | refine Ext.alloc' ?_ _ | refine Ext.drewN' ?_ _ | refine Ext.drew' ?_ | (refine Ext.trans ?_ (by assumption))))) hs).mono ?_
  rintro e w1 ⟨⟨l, A, c⟩, rfl, rfl, _, hown, hE1⟩
  have B0 : Blk w1 (w.heap.size) 26 [.bool x.neg, .slice x.limbs.A x.limbs.l.length x.limbs.c, .int .i64 x.exp] := Blk.ext (by repeat (first | assumption | exact Blk.new (by simp) | refine Blk.alloc ?_ _ | refine Blk.drewN ?_ _)) hE1
  have B1 : Blk w1 (w.heap.size + 1) 26 [.bool false, .slice none 0 0, .int .i64 0] := Blk.ext (by repeat (first | assumption | exact Blk.new (by simp) | refine Blk.alloc ?_ _ | refine Blk.drewN ?_ _)) hE1
  obtain ⟨c0, f0⟩ := B0.rules
  obtain ⟨c1, f1⟩ := B1.rules
  go_wp2_with (first | ((with_reducible refine wpl_load 26 (.tmp 1) ?_ ?_ (w.heap.size) 0 [.bool x.neg, .slice A x.limbs.l.length c, .int .i64 x.exp] ?_ ?_ ?_ ?_); (exact rfl); (exact rfl); (exact rfl); (exact aggDyad); (exact (Blk.set B0 1 _).row)) | ((with_reducible refine wpl_store 26 (.tmp 2) (.tmp 7) ?_ ?_ (w.heap.size + 1) 0 26 [.bool false, .slice none 0 0, .int .i64 0] [.bool x.neg, .slice A x.limbs.l.length c, .int .i64 x.exp] ?_ ?_ ?_ ?_ ?_ ?_ ?_); (exact rfl); (exact rfl); (exact rfl); (exact rfl); (exact aggDyad); (exact (Blk.far B1 (by simp) _)); (exact by simp); (exact rfl); (intro w2 BR hO)) | fail)
  have hS : Shape (fun e => e = 26) w.heap.size w1 w2 := Shape.only (T := fun e => e = 26) ((Shape.refl (fun e => e = 26) _ _).put B0 rfl (Nat.le_refl _) 1 _) (Blk.far B1 (by simp) _) hO BR rfl rfl (by simp)
  have hE : Ext w w1 := Ext.trans (Ext.alloc' (Ext.alloc _ _) _) hE1
  exact bodyPost_ret (results_c rfl rfl BR aggDyad) rfl ⟨⟨x.neg, ⟨x.limbs.l, A, c⟩, x.exp⟩, rfl, rfl, ⟨(hown.lower (by simp; omega)).shape hS (by decide)⟩, Ext.of ((Shape.of_ext hE).trans hS |>.below (Nat.le_refl _))⟩

set_option maxRecDepth 100000 in
theorem cache_Twin (x : XCache) (w : World) (hx : x.ok w w.heap.size) (hs : x.data.small) :
    Calls Try.prog 36 #[.agg #[.int .i64 x.own, .int .i64 x.cap, .slice x.list.A x.list.l.length x.list.c]] w fun e w' => ∃ y : XCache, e = .returned (.agg #[.int .i64 y.own, .int .i64 y.cap, .slice y.list.A y.list.l.length y.list.c]) ∧ y.data = x.data ∧ y.mine w' w.heap.size ∧ Ext w w' := by
  go_enter Try.func36, Try.ntmps36
  go_wp2_with fail
  refine (clone_Desc x.list _ (hx.list.ext (by repeat (first | exact Ext.refl _ | assumption | refine Ext.alloc' ?_ _ | refine Ext.drewN' ?_ _ | refine Ext.drew' ?_ | (refine Ext.trans ?_ (by assumption))))) hs).mono ?_
  rintro e w1 ⟨⟨l, A, c⟩, rfl, rfl, _, hown, hE1⟩
  have B0 : Blk w1 (w.heap.size) 38 [.int .i64 x.own, .int .i64 x.cap, .slice x.list.A x.list.l.length x.list.c] := Blk.ext (by repeat (first | assumption | exact Blk.new (by simp) | refine Blk.alloc ?_ _ | refine Blk.drewN ?_ _)) hE1
  have B1 : Blk w1 (w.heap.size + 1) 38 [.int .i64 0, .int .i64 0, .slice none 0 0] := Blk.ext (by repeat (first | assumption | exact Blk.new (by simp) | refine Blk.alloc ?_ _ | refine Blk.drewN ?_ _)) hE1
  obtain ⟨c0, f0⟩ := B0.rules
  obtain ⟨c1, f1⟩ := B1.rules
  go_wp2_with (first | ((with_reducible refine wpl_load 38 (.tmp 1) ?_ ?_ (w.heap.size) 0 [.int .i64 x.own, .int .i64 x.cap, .slice A x.list.l.length c] ?_ ?_ ?_ ?_); (exact rfl); (exact rfl); (exact rfl); (exact aggCache); (exact (Blk.set B0 2 _).row)) | ((with_reducible refine wpl_store 38 (.tmp 2) (.tmp 7) ?_ ?_ (w.heap.size + 1) 0 38 [.int .i64 0, .int .i64 0, .slice none 0 0] [.int .i64 x.own, .int .i64 x.cap, .slice A x.list.l.length c] ?_ ?_ ?_ ?_ ?_ ?_ ?_); (exact rfl); (exact rfl); (exact rfl); (exact rfl); (exact aggCache); (exact (Blk.far B1 (by simp) _)); (exact by simp); (exact rfl); (intro w2 BR hO)) | fail)
  have hS : Shape (fun e => e = 38) w.heap.size w1 w2 := Shape.only (T := fun e => e = 38) ((Shape.refl (fun e => e = 38) _ _).put B0 rfl (Nat.le_refl _) 2 _) (Blk.far B1 (by simp) _) hO BR rfl rfl (by simp)
  have hE : Ext w w1 := Ext.trans (Ext.alloc' (Ext.alloc _ _) _) hE1
  exact bodyPost_ret (results_c rfl rfl BR aggCache) rfl ⟨⟨x.own, x.cap, ⟨x.list.l, A, c⟩⟩, rfl, rfl, ⟨(hown.lower (by simp; omega)).shape hS (by decide)⟩, Ext.of ((Shape.of_ext hE).trans hS |>.below (Nat.le_refl _))⟩

set_option maxRecDepth 100000 in
theorem ref02_Twin (x : XDyad) (w : World) (hx : x.ok w w.heap.size) (hs : x.data.small) :
    Calls Try.prog 61 #[.agg #[.bool x.neg, .slice x.limbs.A x.limbs.l.length x.limbs.c, .int .i64 x.exp]] w fun e w' => ∃ y : XDyad, e = .returned (.agg #[.bool y.neg, .slice y.limbs.A y.limbs.l.length y.limbs.c, .int .i64 y.exp]) ∧ y.data = x.data ∧ y.mine w' w.heap.size ∧ Ext w w' := by
  go_enter Try.func61, Try.ntmps61
  have HS : Hid (∀ W, Ext w W → Sl W W.heap.size cU32 x.limbs.A x.limbs.l) := Lib.hid fun W hW => (hx.limbs.1.below hW.below).mono hW.size
  have HN := Lib.hid (show x.limbs.l.length ≤ 1000000 from hs)
  go_wp2_with (first | (at_builtin; go_must (refine app_many elu32 rfl (.tmp 3) (.tmp 5) rfl (((w.alloc _).alloc _).alloc _) _ cU32 _ [] x.limbs.l rfl (own_new ((w.alloc _).alloc _) _ (by simp)) x.limbs.A x.limbs.c rfl (HS.out _ (by repeat (first | exact Ext.refl _ | assumption | refine Ext.alloc' ?_ _ | refine Ext.drewN' ?_ _ | refine Ext.drew' ?_ | (refine Ext.trans ?_ (by assumption))))) (fun _ => rfl) (fun _ => rfl) (by have := HN.out; rw [List.length_nil]; omega) (by have := HN.out; rw [List.length_nil]; unfold maxLen; omega) (by simp) ?_); intro v1 w1 hown hgrow1 hnew1; rw [List.nil_append] at hown; obtain ⟨A, c, rfl, hok1⟩ := hown.form; have hE1 := ext_grown rfl (by simp) hgrow1; have B0 : Blk w1 (w.heap.size) 26 [.bool x.neg, .slice x.limbs.A x.limbs.l.length x.limbs.c, .int .i64 x.exp] := Blk.ext (by repeat (first | assumption | exact Blk.new (by simp) | refine Blk.alloc ?_ _ | refine Blk.drewN ?_ _)) hE1; have B1 : Blk w1 (w.heap.size + 1) 26 [.bool false, .slice none 0 0, .int .i64 0] := Blk.ext (by repeat (first | assumption | exact Blk.new (by simp) | refine Blk.alloc ?_ _ | refine Blk.drewN ?_ _)) hE1; obtain ⟨c0, f0⟩ := B0.rules; obtain ⟨c1, f1⟩ := B1.rules) | ((with_reducible refine wpl_load 26 (.tmp 1) ?_ ?_ (w.heap.size) 0 [.bool x.neg, .slice A x.limbs.l.length c, .int .i64 x.exp] ?_ ?_ ?_ ?_); (exact rfl); (exact rfl); (exact rfl); (exact aggDyad); (exact (Blk.set B0 1 _).row)) | ((with_reducible refine wpl_store 26 (.tmp 2) (.tmp 8) ?_ ?_ (w.heap.size + 1) 0 26 [.bool false, .slice none 0 0, .int .i64 0] [.bool x.neg, .slice A x.limbs.l.length c, .int .i64 x.exp] ?_ ?_ ?_ ?_ ?_ ?_ ?_); (exact rfl); (exact rfl); (exact rfl); (exact rfl); (exact aggDyad); (exact (Blk.far B1 (by simp) _)); (exact by simp); (exact rfl); (intro w2 BR hO)) | fail)
  have hS : Shape (fun e => e = 26) w.heap.size w1 w2 := Shape.only (T := fun e => e = 26) ((Shape.refl (fun e => e = 26) _ _).put B0 rfl (Nat.le_refl _) 1 _) (Blk.far B1 (by simp) _) hO BR rfl rfl (by simp)
  have hE : Ext w w1 := Ext.trans (Ext.alloc' (Ext.alloc _ _) _) hE1
  exact bodyPost_ret (results_c rfl rfl BR aggDyad) rfl ⟨⟨x.neg, ⟨x.limbs.l, A, c⟩, x.exp⟩, rfl, rfl, ⟨(hown.lower (by simp; omega)).shape hS (by decide)⟩, Ext.of ((Shape.of_ext hE).trans hS |>.below (Nat.le_refl _))⟩

set_option maxRecDepth 100000 in
theorem ref08_Twin (x : XCache) (w : World) (hx : x.ok w w.heap.size) (hs : x.data.small) :
    Calls Try.prog 32 #[.agg #[.int .i64 x.own, .int .i64 x.cap, .slice x.list.A x.list.l.length x.list.c]] w fun e w' => ∃ y : XCache, e = .returned (.agg #[.int .i64 y.own, .int .i64 y.cap, .slice y.list.A y.list.l.length y.list.c]) ∧ y.data = x.data ∧ y.mine w' w.heap.size ∧ Ext w w' := by
  go_enter Try.func32, Try.ntmps32
  have HS : Hid (∀ W, Ext w W → Sl W W.heap.size PDesc.cells x.list.A x.list.l) := Lib.hid fun W hW => (hx.list.1.below hW.below).mono hW.size
  have HN := Lib.hid (show x.list.l.length ≤ 1000000 from hs)
  go_wp2_with (first | (at_builtin; go_must (refine app_many elDesc rfl (.tmp 3) (.tmp 5) rfl (((w.alloc _).alloc _).alloc _) _ PDesc.cells _ [] x.list.l rfl (own_new ((w.alloc _).alloc _) _ (by simp)) x.list.A x.list.c rfl (HS.out _ (by repeat (first | exact Ext.refl _ | assumption | refine Ext.alloc' ?_ _ | refine Ext.drewN' ?_ _ | refine Ext.drew' ?_ | (refine Ext.trans ?_ (by assumption))))) (fun _ => rfl) (fun _ => rfl) (by have := HN.out; rw [List.length_nil]; omega) (by have := HN.out; rw [List.length_nil]; unfold maxLen; omega) (by simp) ?_); intro v1 w1 hown hgrow1 hnew1; rw [List.nil_append] at hown; obtain ⟨A, c, rfl, hok1⟩ := hown.form; have hE1 := ext_grown rfl (by simp) hgrow1; have B0 : Blk w1 (w.heap.size) 38 [.int .i64 x.own, .int .i64 x.cap, .slice x.list.A x.list.l.length x.list.c] := Blk.ext (by repeat (first | assumption | exact Blk.new (by simp) | refine Blk.alloc ?_ _ | refine Blk.drewN ?_ _)) hE1; have B1 : Blk w1 (w.heap.size + 1) 38 [.int .i64 0, .int .i64 0, .slice none 0 0] := Blk.ext (by repeat (first | assumption | exact Blk.new (by simp) | refine Blk.alloc ?_ _ | refine Blk.drewN ?_ _)) hE1; obtain ⟨c0, f0⟩ := B0.rules; obtain ⟨c1, f1⟩ := B1.rules) | ((with_reducible refine wpl_load 38 (.tmp 1) ?_ ?_ (w.heap.size) 0 [.int .i64 x.own, .int .i64 x.cap, .slice A x.list.l.length c] ?_ ?_ ?_ ?_); (exact rfl); (exact rfl); (exact rfl); (exact aggCache); (exact (Blk.set B0 2 _).row)) | ((with_reducible refine wpl_store 38 (.tmp 2) (.tmp 8) ?_ ?_ (w.heap.size + 1) 0 38 [.int .i64 0, .int .i64 0, .slice none 0 0] [.int .i64 x.own, .int .i64 x.cap, .slice A x.list.l.length c] ?_ ?_ ?_ ?_ ?_ ?_ ?_); (exact rfl); (exact rfl); (exact rfl); (exact rfl); (exact aggCache); (exact (Blk.far B1 (by simp) _)); (exact by simp); (exact rfl); (intro w2 BR hO)) | fail)
  have hS : Shape (fun e => e = 38) w.heap.size w1 w2 := Shape.only (T := fun e => e = 38) ((Shape.refl (fun e => e = 38) _ _).put B0 rfl (Nat.le_refl _) 2 _) (Blk.far B1 (by simp) _) hO BR rfl rfl (by simp)
  have hE : Ext w w1 := Ext.trans (Ext.alloc' (Ext.alloc _ _) _) hE1
  exact bodyPost_ret (results_c rfl rfl BR aggCache) rfl ⟨⟨x.own, x.cap, ⟨x.list.l, A, c⟩⟩, rfl, rfl, ⟨(hown.lower (by simp; omega)).shape hS (by decide)⟩, Ext.of ((Shape.of_ext hE).trans hS |>.below (Nat.le_refl _))⟩
end Go.Proofs.Ytnlhpdlnbcdfjaa
