/- slices.Clone at the program's types. Printed by gen_clone.py. -/
import Derived.Test.YtnlhpdlnbcdfjaaRows
import Derived.Test.YtnlhpdlnbcdfjaaFresh
import Derived.Lib.SliceRun
namespace Go.Proofs.Ytnlhpdlnbcdfjaa
open Go.RowKit Go.Hx
theorem elu32 : ElTy Try.prog 24 91 1 4 := ElTy.mk' (z := .int .u32 0) Try.underlying24 (by kernel_rfl) rfl (by decide)
theorem elint : ElTy Try.prog 35 3 1 8 := ElTy.mk' (z := .int .i64 0) Try.underlying35 (by kernel_rfl) rfl (by decide)
theorem elTimer : ElTy Try.prog 40 79 2 16 := ElTy.mk' (z := .agg #[.int .i64 0, .int .i64 0]) Try.underlying40 (by kernel_rfl) rfl (by decide)
theorem elDesc : ElTy Try.prog 36 84 2 16 := ElTy.mk' (z := .agg #[.int .i64 0, .int .i64 0]) Try.underlying36 (by kernel_rfl) rfl (by decide)
theorem elFrozen : ElTy Try.prog 39 82 17 216 := ElTy.mk' (z := .agg #[.int .i64 0, .bool false, .slice none 0 0, .int .i64 0, .bool false, .slice none 0 0, .int .i64 0, .bool false, .slice none 0 0, .int .i64 0, .bool false, .slice none 0 0, .int .i64 0, .bool false, .int .i64 0, .int .i64 0, .slice none 0 0]) Try.underlying39 (by kernel_rfl) rfl (by decide)

set_option maxRecDepth 100000 in
theorem clone_u32 (x : LX Nat) (w : World) (hx : x.ok w w.heap.size cU32) (hs : x.l.length ≤ 1000000) :
    Calls Try.prog 51 #[.slice x.A x.l.length x.c] w fun e w' => ∃ y : LX Nat, e = .returned (.slice y.A y.l.length y.c) ∧ y.l = x.l ∧ y.ok w' w'.heap.size cU32 ∧ Own w' w.heap.size 91 1 cU32 (.slice y.A y.l.length y.c) y.l ∧ Ext w w' := by
  obtain ⟨l, A, c⟩ := x
  obtain ⟨hx, hx1, hx2⟩ := hx
  dsimp only at *
  cases A with
  | none =>
    have hl : l = [] := by
      rcases hx with h | ⟨_, _, h, _⟩
      · exact h
      · cases h
    subst hl
    have e0 : ∀ W, (binOp .eql 24 (.slice none ([] : List Nat).length c) (.slice none 0 0)).run Try.prog W = .ok (.bool true) W := fun W => Go.Lib.run_eql_slice_nil W _ _ none _ c 0 0 Try.underlying24
    simp only [List.length_nil] at e0 ⊢
    go_enter Try.func51, Try.ntmps51
    go_wp2
    go_ret
    exact ⟨⟨[], none, 0⟩, rfl, rfl, LX.ok.nil, Own.nil _ _ _ _ _, Ext.refl _⟩
  | some a =>
    have HS := Lib.hid (show Sl (w.alloc (.cells #[] 91)) (w.alloc (.cells #[] 91)).heap.size cU32 (some a) l from (hx.below (Ext.alloc w _)).mono (by simp))
    have HO : Own (w.alloc (.cells #[] 91)) w.heap.size 91 1 cU32 (.slice (some ⟨w.heap.size, 0, none⟩) 0 0) [] := World.ownsRow_lit w #[] 0 (Nat.le_refl _) (by simp [maxLen]) rfl
    clear hx
    have e0 : ∀ W, (binOp .eql 24 (.slice (some a) l.length c) (.slice none 0 0)).run Try.prog W = .ok (.bool false) W := fun W => Go.Lib.run_eql_slice_nil W _ _ (some a) _ c 0 0 Try.underlying24
    go_enter Try.func51, Try.ntmps51
    go_wp2_with (at_builtin; go_must (refine app_many elu32 rfl (.tmp 5) (.tmp 6) rfl (w.alloc _) w.heap.size cU32 _ [] l rfl HO (some a) c rfl HS.out (fun _ => rfl) (fun _ => rfl) (by rw [List.length_nil]; omega) (by rw [List.length_nil]; unfold maxLen; omega) (by simp) ?_); intro v1 w1 hown1 hgrow1 hnew1; rw [List.nil_append] at hown1; obtain ⟨A1, c1, rfl, hok1⟩ := hown1.form; have hE1 : Ext w w1 := Own.below HO (Ext.alloc w _) hgrow1 (Nat.le_refl _) (by simp))
    go_ret
    exact ⟨⟨l, A1, c1⟩, rfl, rfl, hok1, hown1, hE1⟩

set_option maxRecDepth 100000 in
theorem clone_int (x : LX Int) (w : World) (hx : x.ok w w.heap.size cInt) (hs : x.l.length ≤ 1000000) :
    Calls Try.prog 35 #[.slice x.A x.l.length x.c] w fun e w' => ∃ y : LX Int, e = .returned (.slice y.A y.l.length y.c) ∧ y.l = x.l ∧ y.ok w' w'.heap.size cInt ∧ Own w' w.heap.size 3 1 cInt (.slice y.A y.l.length y.c) y.l ∧ Ext w w' := by
  obtain ⟨l, A, c⟩ := x
  obtain ⟨hx, hx1, hx2⟩ := hx
  dsimp only at *
  cases A with
  | none =>
    have hl : l = [] := by
      rcases hx with h | ⟨_, _, h, _⟩
      · exact h
      · cases h
    subst hl
    have e0 : ∀ W, (binOp .eql 35 (.slice none ([] : List Int).length c) (.slice none 0 0)).run Try.prog W = .ok (.bool true) W := fun W => Go.Lib.run_eql_slice_nil W _ _ none _ c 0 0 Try.underlying35
    simp only [List.length_nil] at e0 ⊢
    go_enter Try.func35, Try.ntmps35
    go_wp2
    go_ret
    exact ⟨⟨[], none, 0⟩, rfl, rfl, LX.ok.nil, Own.nil _ _ _ _ _, Ext.refl _⟩
  | some a =>
    have HS := Lib.hid (show Sl (w.alloc (.cells #[] 3)) (w.alloc (.cells #[] 3)).heap.size cInt (some a) l from (hx.below (Ext.alloc w _)).mono (by simp))
    have HO : Own (w.alloc (.cells #[] 3)) w.heap.size 3 1 cInt (.slice (some ⟨w.heap.size, 0, none⟩) 0 0) [] := World.ownsRow_lit w #[] 0 (Nat.le_refl _) (by simp [maxLen]) rfl
    clear hx
    have e0 : ∀ W, (binOp .eql 35 (.slice (some a) l.length c) (.slice none 0 0)).run Try.prog W = .ok (.bool false) W := fun W => Go.Lib.run_eql_slice_nil W _ _ (some a) _ c 0 0 Try.underlying35
    go_enter Try.func35, Try.ntmps35
    go_wp2_with (at_builtin; go_must (refine app_many elint rfl (.tmp 5) (.tmp 6) rfl (w.alloc _) w.heap.size cInt _ [] l rfl HO (some a) c rfl HS.out (fun _ => rfl) (fun _ => rfl) (by rw [List.length_nil]; omega) (by rw [List.length_nil]; unfold maxLen; omega) (by simp) ?_); intro v1 w1 hown1 hgrow1 hnew1; rw [List.nil_append] at hown1; obtain ⟨A1, c1, rfl, hok1⟩ := hown1.form; have hE1 : Ext w w1 := Own.below HO (Ext.alloc w _) hgrow1 (Nat.le_refl _) (by simp))
    go_ret
    exact ⟨⟨l, A1, c1⟩, rfl, rfl, hok1, hown1, hE1⟩

set_option maxRecDepth 100000 in
theorem clone_Timer (x : LX PTimer) (w : World) (hx : x.ok w w.heap.size PTimer.cells) (hs : x.l.length ≤ 1000000) :
    Calls Try.prog 38 #[.slice x.A x.l.length x.c] w fun e w' => ∃ y : LX PTimer, e = .returned (.slice y.A y.l.length y.c) ∧ y.l = x.l ∧ y.ok w' w'.heap.size PTimer.cells ∧ Own w' w.heap.size 79 2 PTimer.cells (.slice y.A y.l.length y.c) y.l ∧ Ext w w' := by
  obtain ⟨l, A, c⟩ := x
  obtain ⟨hx, hx1, hx2⟩ := hx
  dsimp only at *
  cases A with
  | none =>
    have hl : l = [] := by
      rcases hx with h | ⟨_, _, h, _⟩
      · exact h
      · cases h
    subst hl
    have e0 : ∀ W, (binOp .eql 40 (.slice none ([] : List PTimer).length c) (.slice none 0 0)).run Try.prog W = .ok (.bool true) W := fun W => Go.Lib.run_eql_slice_nil W _ _ none _ c 0 0 Try.underlying40
    simp only [List.length_nil] at e0 ⊢
    go_enter Try.func38, Try.ntmps38
    go_wp2
    go_ret
    exact ⟨⟨[], none, 0⟩, rfl, rfl, LX.ok.nil, Own.nil _ _ _ _ _, Ext.refl _⟩
  | some a =>
    have HS := Lib.hid (show Sl (w.alloc (.cells #[] 79)) (w.alloc (.cells #[] 79)).heap.size PTimer.cells (some a) l from (hx.below (Ext.alloc w _)).mono (by simp))
    have HO : Own (w.alloc (.cells #[] 79)) w.heap.size 79 2 PTimer.cells (.slice (some ⟨w.heap.size, 0, none⟩) 0 0) [] := World.ownsRow_lit w #[] 0 (Nat.le_refl _) (by simp [maxLen]) rfl
    clear hx
    have e0 : ∀ W, (binOp .eql 40 (.slice (some a) l.length c) (.slice none 0 0)).run Try.prog W = .ok (.bool false) W := fun W => Go.Lib.run_eql_slice_nil W _ _ (some a) _ c 0 0 Try.underlying40
    go_enter Try.func38, Try.ntmps38
    go_wp2_with (at_builtin; go_must (refine app_many elTimer rfl (.tmp 5) (.tmp 6) rfl (w.alloc _) w.heap.size PTimer.cells _ [] l rfl HO (some a) c rfl HS.out (fun _ => rfl) (fun _ => rfl) (by rw [List.length_nil]; omega) (by rw [List.length_nil]; unfold maxLen; omega) (by simp) ?_); intro v1 w1 hown1 hgrow1 hnew1; rw [List.nil_append] at hown1; obtain ⟨A1, c1, rfl, hok1⟩ := hown1.form; have hE1 : Ext w w1 := Own.below HO (Ext.alloc w _) hgrow1 (Nat.le_refl _) (by simp))
    go_ret
    exact ⟨⟨l, A1, c1⟩, rfl, rfl, hok1, hown1, hE1⟩

set_option maxRecDepth 100000 in
theorem clone_Desc (x : LX PDesc) (w : World) (hx : x.ok w w.heap.size PDesc.cells) (hs : x.l.length ≤ 1000000) :
    Calls Try.prog 52 #[.slice x.A x.l.length x.c] w fun e w' => ∃ y : LX PDesc, e = .returned (.slice y.A y.l.length y.c) ∧ y.l = x.l ∧ y.ok w' w'.heap.size PDesc.cells ∧ Own w' w.heap.size 84 2 PDesc.cells (.slice y.A y.l.length y.c) y.l ∧ Ext w w' := by
  obtain ⟨l, A, c⟩ := x
  obtain ⟨hx, hx1, hx2⟩ := hx
  dsimp only at *
  cases A with
  | none =>
    have hl : l = [] := by
      rcases hx with h | ⟨_, _, h, _⟩
      · exact h
      · cases h
    subst hl
    have e0 : ∀ W, (binOp .eql 36 (.slice none ([] : List PDesc).length c) (.slice none 0 0)).run Try.prog W = .ok (.bool true) W := fun W => Go.Lib.run_eql_slice_nil W _ _ none _ c 0 0 Try.underlying36
    simp only [List.length_nil] at e0 ⊢
    go_enter Try.func52, Try.ntmps52
    go_wp2
    go_ret
    exact ⟨⟨[], none, 0⟩, rfl, rfl, LX.ok.nil, Own.nil _ _ _ _ _, Ext.refl _⟩
  | some a =>
    have HS := Lib.hid (show Sl (w.alloc (.cells #[] 84)) (w.alloc (.cells #[] 84)).heap.size PDesc.cells (some a) l from (hx.below (Ext.alloc w _)).mono (by simp))
    have HO : Own (w.alloc (.cells #[] 84)) w.heap.size 84 2 PDesc.cells (.slice (some ⟨w.heap.size, 0, none⟩) 0 0) [] := World.ownsRow_lit w #[] 0 (Nat.le_refl _) (by simp [maxLen]) rfl
    clear hx
    have e0 : ∀ W, (binOp .eql 36 (.slice (some a) l.length c) (.slice none 0 0)).run Try.prog W = .ok (.bool false) W := fun W => Go.Lib.run_eql_slice_nil W _ _ (some a) _ c 0 0 Try.underlying36
    go_enter Try.func52, Try.ntmps52
    go_wp2_with (at_builtin; go_must (refine app_many elDesc rfl (.tmp 5) (.tmp 6) rfl (w.alloc _) w.heap.size PDesc.cells _ [] l rfl HO (some a) c rfl HS.out (fun _ => rfl) (fun _ => rfl) (by rw [List.length_nil]; omega) (by rw [List.length_nil]; unfold maxLen; omega) (by simp) ?_); intro v1 w1 hown1 hgrow1 hnew1; rw [List.nil_append] at hown1; obtain ⟨A1, c1, rfl, hok1⟩ := hown1.form; have hE1 : Ext w w1 := Own.below HO (Ext.alloc w _) hgrow1 (Nat.le_refl _) (by simp))
    go_ret
    exact ⟨⟨l, A1, c1⟩, rfl, rfl, hok1, hown1, hE1⟩

set_option maxRecDepth 100000 in
theorem clone_Frozen (x : LX XFrozen) (w : World) (hx : x.ok w w.heap.size XFrozen.cells) (hs : x.l.length ≤ 1000000) :
    Calls Try.prog 53 #[.slice x.A x.l.length x.c] w fun e w' => ∃ y : LX XFrozen, e = .returned (.slice y.A y.l.length y.c) ∧ y.l = x.l ∧ y.ok w' w'.heap.size XFrozen.cells ∧ Own w' w.heap.size 82 17 XFrozen.cells (.slice y.A y.l.length y.c) y.l ∧ Ext w w' := by
  obtain ⟨l, A, c⟩ := x
  obtain ⟨hx, hx1, hx2⟩ := hx
  dsimp only at *
  cases A with
  | none =>
    have hl : l = [] := by
      rcases hx with h | ⟨_, _, h, _⟩
      · exact h
      · cases h
    subst hl
    have e0 : ∀ W, (binOp .eql 39 (.slice none ([] : List XFrozen).length c) (.slice none 0 0)).run Try.prog W = .ok (.bool true) W := fun W => Go.Lib.run_eql_slice_nil W _ _ none _ c 0 0 Try.underlying39
    simp only [List.length_nil] at e0 ⊢
    go_enter Try.func53, Try.ntmps53
    go_wp2
    go_ret
    exact ⟨⟨[], none, 0⟩, rfl, rfl, LX.ok.nil, Own.nil _ _ _ _ _, Ext.refl _⟩
  | some a =>
    have HS := Lib.hid (show Sl (w.alloc (.cells #[] 82)) (w.alloc (.cells #[] 82)).heap.size XFrozen.cells (some a) l from (hx.below (Ext.alloc w _)).mono (by simp))
    have HO : Own (w.alloc (.cells #[] 82)) w.heap.size 82 17 XFrozen.cells (.slice (some ⟨w.heap.size, 0, none⟩) 0 0) [] := World.ownsRow_lit w #[] 0 (Nat.le_refl _) (by simp [maxLen]) rfl
    clear hx
    have e0 : ∀ W, (binOp .eql 39 (.slice (some a) l.length c) (.slice none 0 0)).run Try.prog W = .ok (.bool false) W := fun W => Go.Lib.run_eql_slice_nil W _ _ (some a) _ c 0 0 Try.underlying39
    go_enter Try.func53, Try.ntmps53
    go_wp2_with (at_builtin; go_must (refine app_many elFrozen rfl (.tmp 5) (.tmp 6) rfl (w.alloc _) w.heap.size XFrozen.cells _ [] l rfl HO (some a) c rfl HS.out (fun _ => rfl) (fun _ => rfl) (by rw [List.length_nil]; omega) (by rw [List.length_nil]; unfold maxLen; omega) (by simp) ?_); intro v1 w1 hown1 hgrow1 hnew1; rw [List.nil_append] at hown1; obtain ⟨A1, c1, rfl, hok1⟩ := hown1.form; have hE1 : Ext w w1 := Own.below HO (Ext.alloc w _) hgrow1 (Nat.le_refl _) (by simp))
    go_ret
    exact ⟨⟨l, A1, c1⟩, rfl, rfl, hok1, hown1, hE1⟩
end Go.Proofs.Ytnlhpdlnbcdfjaa
