/- The program: a small number's dyad. -/
import Derived.Test.YtgcbnagfdfgpnaaDoorShrinksAll11
import Derived.Test.YtgcbnagfdfgpnaaDoorShrinksAll5
namespace Go.Proofs.YtgcbnagfdfgpnaaDoor
open Go.RowKit Go.Hx
set_option maxRecDepth 100000 in
set_option maxHeartbeats 1000000 in
theorem limb_cut2 (g v : Nat) (w : World) (h0 : w.cell? ⟨g, 0, none⟩ = some (.int .u32 v)) (h1 : w.cell? ⟨g, 1, none⟩ = some (.int .u32 0)) (hv : v ≠ 0) :
    Calls Tryd.prog 136 #[.slice (some ⟨g, 0, none⟩) 2 2] w fun e w' => e = .returned (.slice (some ⟨g, 0, none⟩) 1 1) ∧ w' = w := by
  have d0 : ((v : Int) == 0) = false := by simp; exact hv
  clear hv
  go_enter Tryd.func136, Tryd.ntmps136
  go_wp2_with fail
  go_loopw [3] (fun i wr => ∃ k : Nat, (k = 1 ∨ k = 2) ∧ i = .int .i64 k ∧ wr = w) (fun i _ => (intOf i).toNat)
  case atStart => exact ⟨2, .inr rfl, rfl, rfl⟩
  case round =>
    obtain ⟨k, hk, rfl, hw⟩ := hrel
    subst hw
    rcases hk with rfl | rfl
    · go_wp2_with fail
      go_ret
      exact ⟨rfl, rfl⟩
    · go_wp2_with fail
      go_roundw
      case rel => exact ⟨1, .inl rfl, by go_num, by trivial⟩
      case measure => simp [intOf]
set_option maxRecDepth 100000 in
set_option maxHeartbeats 1000000 in
theorem limb_Of1 (v : Nat) (w : World) (hv : v ≠ 0) (hv2 : v < 4294967296) :
    Calls Tryd.prog 95 #[.int .u64 v] w fun e w' => ∃ g : Nat, e = .returned (.slice (some ⟨g, 0, none⟩) 1 1) ∧ w'.cell? ⟨g, 0, none⟩ = some (.int .u32 v) ∧ g < w'.heap.size ∧ Ext w w' := by
  have e1 : (v : Int) % 4294967296 = (v : Int) := by omega
  have e2 : (v : Int) / 4294967296 = 0 := by omega
  go_enter Tryd.func95, Tryd.ntmps95
  have HB : Hid (Blk (w.alloc (.cells #[.int .u32 v, .int .u32 0] 33)) w.heap.size 33 [.int .u32 v, .int .u32 0]) := Lib.hid (Blk.new rfl)
  have HV := Lib.hid hv
  clear hv hv2
  go_wp2_with fail
  refine (limb_cut2 w.heap.size v _ (HB.out.cell 0) (HB.out.cell 1) HV.out).mono ?_
  rintro e w1 ⟨rfl, rfl⟩
  go_wp2_with fail
  go_ret
  exact ⟨w.heap.size, rfl, HB.out.cell 0, HB.out.lt, Ext.alloc _ _⟩
set_option maxRecDepth 100000 in
set_option maxHeartbeats 1000000 in
theorem dyad_Of1 (v : Nat) (w : World) (hv : v ≠ 0) (hv2 : v < 4294967296) :
    Calls Tryd.prog 43 #[.int .i64 v] w fun e w' => ∃ y : XDyad, e = .returned (.agg #[.bool y.neg, .slice y.limbs.A y.limbs.l.length y.limbs.c, .int .i64 y.exp]) ∧ y.data = ⟨false, [v], 0⟩ ∧ y.ok w' w'.heap.size ∧ Ext w w' := by
  have e1 : IntKind.u64.wrap (v : Int) = (v : Int) := wr64 v (by omega)
  have e3 : decide ((v : Int) < 0) = false := decide_eq_false (by omega)
  have HV := Lib.hid (And.intro hv hv2)
  clear hv hv2
  go_enter Tryd.func43, Tryd.ntmps43
  go_wp2_with fail
  refine (limb_Of1 v _ HV.out.1 HV.out.2).mono ?_
  rintro e w1 ⟨g, rfl, hc, hg, hE⟩
  have BZ : Blk w1 w.heap.size 24 [.bool false, .slice none 0 0, .int .i64 0] := (Blk.new rfl).ext hE
  have hE0 : Ext w w1 := (Ext.alloc _ _).trans hE
  have HC := Lib.hid (And.intro hc hg)
  clear hE hc hg
  have B3 : Blk (w1.alloc (.cells #[.bool false, .slice (some ⟨g, 0, none⟩) 1 1, .int .i64 0] 24)) w1.heap.size 24 [.bool false, .slice (some ⟨g, 0, none⟩) 1 1, .int .i64 0] := Blk.new rfl
  go_wp2_with (first | ((with_reducible refine wpl_load 24 (.tmp 3) ?_ ?_ (w1.heap.size) 0 [.bool false, .slice (some ⟨g, 0, none⟩) 1 1, .int .i64 0] ?_ ?_ ?_ ?_); (exact rfl); (exact rfl); (exact rfl); (exact aggDyad); (exact B3.row)) | ((with_reducible refine wpl_store 24 (.tmp 2) (.tmp 17) ?_ ?_ (w.heap.size) 0 24 [.bool false, .slice none 0 0, .int .i64 0] [.bool false, .slice (some ⟨g, 0, none⟩) 1 1, .int .i64 0] ?_ ?_ ?_ ?_ ?_ ?_ ?_); (exact rfl); (exact rfl); (exact rfl); (exact rfl); (exact aggDyad); (exact BZ.alloc _); (exact by simp); (exact rfl); (intro w4 BR hO)) | fail)
  have hne : g ≠ w.heap.size := fun h => by
    have h1 := HC.out.1
    rw [h, BZ.cell 0] at h1
    cases h1
  have hcell : w4.cell? ⟨g, 0, none⟩ = some (.int .u32 v) := (World.cell?_of_block (w := w1.alloc _) (hO.block g hne)).trans ((Ext.alloc _ _).cell HC.out.1)
  refine bodyPost_ret (results_c rfl rfl BR aggDyad) rfl ⟨⟨false, ⟨[v], some ⟨g, 0, none⟩, 1⟩, 0⟩, rfl, rfl, ⟨⟨.inr ⟨g, 0, rfl, World.block_lt_of_cell? w4 _ hcell, fun j u hu => ?_⟩, by simp, by simp [maxLen]⟩⟩, Only.ext (hE0.alloc' _) hO (Nat.le_refl _)⟩
  have hu' : [Value.int .u32 (v : Int)][j]? = some u := hu
  cases j with
  | zero =>
    simp only [List.getElem?_cons_zero, Option.some.injEq] at hu'
    rw [← hu']; exact hcell
  | succ j => simp at hu'
end Go.Proofs.YtgcbnagfdfgpnaaDoor
