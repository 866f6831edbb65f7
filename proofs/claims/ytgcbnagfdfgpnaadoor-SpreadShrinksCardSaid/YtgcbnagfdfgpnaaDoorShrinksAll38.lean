/- Meetings out of numbers. Printed by gen_met.py. -/
import Derived.Test.YtgcbnagfdfgpnaaDoorShrinksAll37
import Derived.Test.YtgcbnagfdfgpnaaDoorShrinksAll3
import Derived.Test.YtgcbnagfdfgpnaaDoorShrinksAll16
namespace Go.Hx
open Go.RowKit
def iv (l : List Int) (i : Nat) : Int := l[i]?.getD 0
/-- two numbers each -/
def mets (l : List Int) (k : Nat) : List PMeeting := (List.range k).map fun j => ⟨iv l (2 * j), iv l (2 * j + 1)⟩
theorem mets_succ (l : List Int) (k : Nat) : mets l (k + 1) = mets l k ++ [⟨iv l (2 * k), iv l (2 * k + 1)⟩] := by simp [mets, List.range_succ]
end Go.Hx
namespace Go.Proofs.YtgcbnagfdfgpnaaDoor
open Go.RowKit Go.Hx
attribute [local go_sem] detUpon undIn
theorem elMeet : ElTy Tryd.prog 35 37 2 16 := ElTy.mk' (z := .agg #[.int .i64 0, .int .i64 0]) Tryd.underlying35 (by kernel_rfl) rfl (by decide)
set_option maxRecDepth 100000 in
set_option maxHeartbeats 1000000 in
theorem law30_met (m : LX Int) (w : World) (hm : m.ok w w.heap.size cInt) (hl : m.l.length ≤ 1000) :
    Calls Tryd.prog 42 #[.slice m.A m.l.length m.c] w fun e w' => ∃ z : LX PMeeting, e = .returned (.slice z.A z.l.length z.c) ∧ z.l = mets m.l (m.l.length / 2) ∧ Go.Hx.Own w' w.heap.size 37 2 PMeeting.cells (.slice z.A z.l.length z.c) z.l ∧ Ext w w' := by
  obtain ⟨l, A, c⟩ := m
  obtain ⟨hx, hx1, hx2⟩ := hm
  dsimp only at *
  unfold maxLen at hx2
  have HX := Lib.hid hx
  have HLL := Lib.hid hl
  clear hx
  go_enter Tryd.func42, Tryd.ntmps42
  go_wp2_with fail
  go_loopw [3, 4] (fun vo i wr => ∃ (k : Nat) (o : List PMeeting), 2 * k ≤ l.length ∧ i = .int .i64 (2 * k : Nat) ∧ Hid (o = mets l k) ∧ Hid (Go.Hx.Own wr w.heap.size 37 2 PMeeting.cells vo o ∧ Ext w wr)) (fun _ i _ => l.length - (intOf i).toNat)
  case atStart => exact ⟨0, [], by omega, rfl, Lib.hid rfl, Lib.hid ⟨Go.Hx.Own.nil _ _ _ _ _, Ext.refl _⟩⟩
  case round =>
    obtain ⟨k, o, hk, rfl, HK, HO⟩ := hrel
    obtain ⟨A0, c0, rfl, hok0⟩ := HO.out.1.form
    obtain ⟨i, hi⟩ : ∃ i, 2 * k = i := ⟨_, rfl⟩
    obtain ⟨i1, hi1⟩ : ∃ n, i + 1 = n := ⟨_, rfl⟩
    have hw1 : IntKind.i64.wrap ((i : Int) + 1) = (i1 : Int) := by rw [IntWalk.i64_in _ (by omega)]; omega
    rw [hi] at hk ⊢
    by_cases hlt : i1 < l.length
    · have hli1 : (i1 : Int) < (l.length : Int) := by omega
      have hli : (i : Int) < (l.length : Int) := by omega
      have hlt0 : i < l.length := by omega
      obtain ⟨b, off, rfl, hbb, r0⟩ := Sl.row (size := 1) (fun _ => rfl) HX.out (List.getElem?_eq_getElem hlt0)
      obtain ⟨b', off', hA', _, r1⟩ := Sl.row (size := 1) (fun _ => rfl) HX.out (List.getElem?_eq_getElem hlt)
      cases hA'
      obtain ⟨a, ha⟩ : ∃ a, l[i] = a := ⟨_, rfl⟩
      obtain ⟨d, hd⟩ : ∃ d, l[i1] = d := ⟨_, rfl⟩
      have HG : Hid (∀ W : World, Ext w W → W.cell? ⟨b, off + i, none⟩ = some (.int .i64 a) ∧ W.cell? ⟨b, off + i1, none⟩ = some (.int .i64 d)) := Lib.hid fun W hW => by
        have h0 := r0 0 _ rfl
        have h1 := r1 0 _ rfl
        rw [ha] at h0
        rw [hd] at h1
        exact ⟨hW.cell (by simpa using h0), hW.cell (by simpa using h1)⟩
      have HOL : Hid (o.length ≤ 1000) := Lib.hid (by rw [HK.out]; simp only [mets, List.length_map, List.length_range]; have := HLL.out; omega)
      have HK2 : Hid (o ++ [⟨a, d⟩] = mets l (k + 1)) := Lib.hid (by
        rw [mets_succ, ← HK.out, hi, hi1]
        have e1 : iv l i = a := by unfold iv; rw [List.getElem?_eq_getElem hlt0, ← ha]; rfl
        have e2 : iv l i1 = d := by unfold iv; rw [List.getElem?_eq_getElem hlt, ← hd]; rfl
        rw [e1, e2])
      have hw2 : IntKind.i64.wrap ((i : Int) + 2) = ((i + 2 : Nat) : Int) := by rw [IntWalk.i64_in _ (by omega)]; omega
      clear r0 r1 ha hd
      go_wp2_with fail
      obtain ⟨WX, hWX⟩ : ∃ W0, W0 = wr := ⟨_, rfl⟩
      rw [← hWX] at HO ⊢
      clear hWX
      refine wp_region_flowTail 13 (fun W => Ext w W) (fun W => Go.Hx.Own W w.heap.size 37 2 PMeeting.cells (.slice A0 o.length c0) o) Ext (fun i => if i = 11 then .free (fun v => ∃ g : Nat, v = .slice (some ⟨g, 0, none⟩) 1 1) (fun v W => ∃ g : Nat, v = .slice (some ⟨g, 0, none⟩) 1 1 ∧ Blk W g 37 [.int .i64 a, .int .i64 d]) else if i = 12 then .last else .det) [] (by kernel_rfl) (by kernel_rfl) (by kernel_rfl) HO.out.2.drew' (Go.Hx.Own.ext HO.out.1 (Ext.drew _)) (fun w1 w2 h1 h2 => Go.Hx.Own.ext h1 h2) ?_
      iterate 11 (refine ftext_det rfl rfl ?_; apply Exists.intro; refine ⟨fun w hC => ?_, fun K hK => ?_⟩; (first | (go_simp; exact rfl) | (go_simp; exact ⟨rfl, rfl⟩) | (obtain ⟨h1, h2⟩ := HG.out _ hC; go_simp; first | exact rfl | exact ⟨rfl, rfl⟩)); go_simp; refine hK _ ?_; clear hK K)
      refine ftext_free _ _ rfl rfl ⟨_, 0, rfl⟩ (fun v w1 w2 ⟨g, h1, h2⟩ hR => ⟨g, h1, h2.ext hR⟩) (fun w1 hC Φ hΦ => ?_) (fun v hv K hK => ?_)
      · go_simp
        exact hΦ _ _ ⟨_, rfl⟩ (hC.trans (Ext.alloc _ _)) (Ext.alloc _ _) ⟨_, rfl, Blk.new rfl⟩
      obtain ⟨ga, rfl⟩ := hv
      go_simp; refine hK _ ?_; clear hK K
      refine ftext_last (fun v => ∃ (z : LX PMeeting), v = .slice z.A z.l.length z.c) (fun v W => Go.Hx.Own W w.heap.size 37 2 PMeeting.cells v (o ++ [⟨a, d⟩])) rfl rfl ⟨_, ⟨[], none, 0⟩, rfl⟩ (fun w1 hC hJ hF Φ hΦ => ?_) (fun v hv K hK => ?_)
      · obtain ⟨_, g', hg', hBg⟩ := hF
        have hgg : ga = g' := congrArg (fun v : Value => match v with | .slice (some p) _ _ => p.block | _ => 0) hg'
        subst hgg
        refine und_app_many elMeet (.tmp 12) (.tmp 23) rfl w1 w.heap.size PMeeting.cells (.slice A0 o.length c0) o [⟨a, d⟩] rfl hJ (some ⟨ga, 0, none⟩) 1 1 rfl rfl (.inr ⟨ga, 0, rfl, hBg.lt, hBg.row⟩) (fun _ => rfl) (fun _ => rfl) (by have := HOL.out; simp only [List.length_singleton]; omega) (by have := HOL.out; simp only [List.length_singleton]; unfold maxLen; omega) hC.size (fun v' w' h1 h2 => ?_)
        obtain ⟨A9, c9, hv9, _⟩ := h1.form
        exact hΦ _ _ ⟨⟨o ++ [⟨a, d⟩], A9, c9⟩, hv9⟩ (Go.Hx.Own.below hJ hC h2 (Nat.le_refl _) hC.size) h1
      obtain ⟨z9, rfl⟩ := hv
      go_simp; refine hK _ ?_; clear hK K
      refine ftext_nil ?_
      rintro w1 hC hOn _
      have HO2 : Hid (Go.Hx.Own w1 w.heap.size 37 2 PMeeting.cells (.slice z9.A z9.l.length z9.c) (o ++ [⟨a, d⟩]) ∧ Ext w w1) := Lib.hid ⟨hOn, hC⟩
      clear hC hOn
      simp only [List.drop_succ_cons, List.drop_zero]
      refine wplIn_assign Open.wide _ rfl rfl ?_
      refine wpListIn_nil ?_
      go_wp2_with fail
      go_roundw
      case rel => exact ⟨k + 1, _, by omega, by rw [show 2 * (k + 1) = i + 2 by omega] <;> rfl, HK2, HO2⟩
      case measure => simp [intOf]; omega
    · have hki : ¬ (i1 : Int) < (l.length : Int) := by omega
      have HF : Hid (o = mets l (l.length / 2)) := Lib.hid (by rw [HK.out, show l.length / 2 = k by omega])
      go_wp2_with fail
      go_ret
      exact ⟨⟨o, A0, c0⟩, rfl, HF.out, HO.out.1, HO.out.2⟩
end Go.Proofs.YtgcbnagfdfgpnaaDoor
