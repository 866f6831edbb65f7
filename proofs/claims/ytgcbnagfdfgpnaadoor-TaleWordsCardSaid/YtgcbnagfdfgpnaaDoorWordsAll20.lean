/- slices.Clone of limbs: a part of gen_clone.py's text. -/
import Derived.Test.YtgcbnagfdfgpnaaDoorRows
import Derived.Test.YtgcbnagfdfgpnaaDoorWordsAll19
import Derived.Lib.SliceRun
namespace Go.Proofs.YtgcbnagfdfgpnaaDoor
open Go.RowKit Go.Hx
theorem elu32 : ElTy Tryd.prog 22 33 1 4 := ElTy.mk' (z := .int .u32 0) Tryd.underlying22 (by kernel_rfl) rfl (by decide)

set_option maxRecDepth 100000 in
theorem clone_u32 (x : LX Nat) (w : World) (hx : x.ok w w.heap.size cU32) (hs : x.l.length ≤ 1000000) :
    Calls Tryd.prog 86 #[.slice x.A x.l.length x.c] w fun e w' => ∃ y : LX Nat, e = .returned (.slice y.A y.l.length y.c) ∧ y.l = x.l ∧ y.ok w' w'.heap.size cU32 ∧ Go.Hx.Own w' w.heap.size 33 1 cU32 (.slice y.A y.l.length y.c) y.l ∧ Ext w w' := by
  obtain ⟨l, A, c⟩ := x
  obtain ⟨hx, hx1, hx2⟩ := hx
  dsimp only at *
  cases A with
  | none =>
    have hl : l = [] := by
      rcases hx with h | ⟨_, _, h, _⟩
      · exact h
      · cases h
    subst hl
    have e0 : ∀ W, (binOp .eql 22 (.slice none ([] : List Nat).length c) (.slice none 0 0)).run Tryd.prog W = .ok (.bool true) W := fun W => Go.Lib.run_eql_slice_nil W _ _ none _ c 0 0 Tryd.underlying22
    simp only [List.length_nil] at e0 ⊢
    go_enter Tryd.func86, Tryd.ntmps86
    go_wp2
    go_ret
    exact ⟨⟨[], none, 0⟩, rfl, rfl, LX.ok.nil, Own.nil _ _ _ _ _, Ext.refl _⟩
  | some a =>
    have HS := Lib.hid (show Sl (w.alloc (.cells #[] 33)) (w.alloc (.cells #[] 33)).heap.size cU32 (some a) l from (hx.below (Ext.alloc w _)).mono (by simp))
    have HO : Go.Hx.Own (w.alloc (.cells #[] 33)) w.heap.size 33 1 cU32 (.slice (some ⟨w.heap.size, 0, none⟩) 0 0) [] := World.ownsRow_lit w #[] 0 (Nat.le_refl _) (by simp [maxLen]) rfl
    clear hx
    have e0 : ∀ W, (binOp .eql 22 (.slice (some a) l.length c) (.slice none 0 0)).run Tryd.prog W = .ok (.bool false) W := fun W => Go.Lib.run_eql_slice_nil W _ _ (some a) _ c 0 0 Tryd.underlying22
    go_enter Tryd.func86, Tryd.ntmps86
    go_wp2_with (at_builtin; go_must (refine app_many elu32 rfl (.tmp 5) (.tmp 6) rfl (w.alloc _) w.heap.size cU32 _ [] l rfl HO (some a) c rfl HS.out (fun _ => rfl) (fun _ => rfl) (by rw [List.length_nil]; omega) (by rw [List.length_nil]; unfold maxLen; omega) (by simp) ?_); intro v1 w1 hown1 hgrow1 hnew1; rw [List.nil_append] at hown1; obtain ⟨A1, c1, rfl, hok1⟩ := hown1.form; have hE1 : Ext w w1 := Own.below HO (Ext.alloc w _) hgrow1 (Nat.le_refl _) (by simp))
    go_ret
    exact ⟨⟨l, A1, c1⟩, rfl, rfl, hok1, hown1, hE1⟩

end Go.Proofs.YtgcbnagfdfgpnaaDoor
