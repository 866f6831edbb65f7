/- mass.parts: an iterator over the parts of two masses. -/
import Derived.RangeFuncNested
import Derived.RangeFuncBound
import Derived.RangeFuncCalls
import Derived.RangeFuncLeaves
import Derived.OwnWalkIn
import Derived.TacticsInMore
import Derived.Test.YtgcbnagfdfgpnaaDoorChain
import Derived.Test.YtgcbnagfdfgpnaaDoorShrinksAll11
namespace Go.Hx
open Go Go.RowKit

/-- blocks a and b lie as they lay -/
def TwoStay (a b : Nat) (A B : World) : Prop := B.heap[a]? = A.heap[a]? ∧ B.heap[b]? = A.heap[b]?
theorem TwoStay.trans {a b : Nat} {A B C : World} (h : TwoStay a b A B) (k : TwoStay a b B C) : TwoStay a b A C := ⟨k.1.trans h.1, k.2.trans h.2⟩
theorem TwoStay.putObj {a b n : Nat} (ha : a < n) (hb : b < n) (W : World) (l : Nat) (o o' : Obj) (hl : n ≤ l) (_ : W.heap[l]? = some o) (_ : o.isCells = false) (_ : o.isWalk = false) : TwoStay a b W (W.putObj l o') :=
  ⟨World.putObj_heap_other (by omega), World.putObj_heap_other (by omega)⟩
end Go.Hx
namespace Go.Proofs.YtgcbnagfdfgpnaaDoor
open Go.RowKit Go.Hx

abbrev I4 := { k : Nat // k < 4 }
abbrev k0 : I4 := ⟨0, by decide⟩
abbrev k1 : I4 := ⟨1, by decide⟩
abbrev k2 : I4 := ⟨2, by decide⟩
abbrev k3 : I4 := ⟨3, by decide⟩
def PBoxes (A B a b : Nat) (v : Value) (W : World) : Prop := v = .bool true → Blk W A 123 [.pointer (some ⟨a, 0, none⟩)] ∧ Blk W B 123 [.pointer (some ⟨b, 0, none⟩)]
def PGone (J Jx : List I4 → World → Prop) (pre : List I4) (v : Value) (W : World) : Prop := (v = .bool true ∧ J pre W) ∨ (v = .bool false ∧ Jx pre W)

theorem PGone.tt {J Jx : List I4 → World → Prop} {pre : List I4} {W : World} (h : PGone J Jx pre (.bool true) W) : J pre W := by
  rcases h with ⟨_, h⟩ | ⟨h, _⟩
  · exact h
  · cases h
theorem PGone.ff {J Jx : List I4 → World → Prop} {pre : List I4} {W : World} (h : PGone J Jx pre (.bool false) W) : Jx pre W := by
  rcases h with ⟨h, _⟩ | ⟨_, h⟩
  · cases h
  · exact h

theorem mass_parts (a b : Addr) (w : World) :
    Calls Tryd.prog 66 #[.pointer (some a), .pointer (some b)] w fun e w' =>
      e = .returned (.func (.func 112) #[] #[.pointer (some ⟨w.heap.size, 0, none⟩), .pointer (some ⟨w.heap.size + 1, 0, none⟩)]) ∧ w' = (w.alloc (.cells #[.pointer (some a)] 123)).alloc (.cells #[.pointer (some b)] 123) := by
  go_enter Tryd.func66, Tryd.ntmps66
  go_wp2
  go_ret
  exact ⟨rfl, rfl⟩

attribute [local go_sem] detUpon undIn
set_option maxRecDepth 100000 in
theorem parts_stops (n A B a b : Nat) (W0 : World) (hA : Blk W0 A 123 [.pointer (some ⟨a, 0, none⟩)]) (hB : Blk W0 B 123 [.pointer (some ⟨b, 0, none⟩)]) :
    SeqStopsK Fence.wide n Tryd.prog 112 #[.pointer (some ⟨A, 0, none⟩), .pointer (some ⟨B, 0, none⟩)] (fun i : I4 => #[.pointer (some ⟨a, 3 * i.1, none⟩), .pointer (some ⟨b, 3 * i.1, none⟩)]) (TwoStay A B)
      (fun xs => xs = [k0, k1, k2, k3]) (fun xs => xs <+: [k0, k1, k2, k3]) 4 W0 := by
  intro l J Jx W hW hJ hJx hY h0
  have hA1 : Blk W A 123 [.pointer (some ⟨a, 0, none⟩)] := hA.ext hW
  have hB1 : Blk W B 123 [.pointer (some ⟨b, 0, none⟩)] := hB.ext hW
  have HY := Lib.hid hY
  have HA := Lib.hid hA1
  have HB := Lib.hid hB1
  have H0 : Hid (J [] W.drew) := Lib.hid (hJ _ _ _ none h0 ⟨rfl, rfl, rfl, Nat.le_refl _, fun _ _ _ => rfl⟩ (fun r e => by cases e))
  have PY : Hid (∀ (pre : List I4) (x : I4) (W1 : World), PBoxes A B a b (.bool true) W1 → J pre W1 → pre.length < 4 → YieldAt Fence.wide (n - 1) Tryd.prog l #[.pointer (some ⟨a, 3 * x.1, none⟩), .pointer (some ⟨b, 3 * x.1, none⟩)] W1 fun e W' =>
      ∃ v, e = .returned v ∧ (v = .bool true ∨ v = .bool false) ∧ PBoxes A B a b v W' ∧ PGone J Jx (pre ++ [x]) v W') := Lib.hid fun pre x W1 hC hJ hl => (hY pre x W1 hJ hl).mono fun e W' h => by
    rcases h with ⟨rfl, hJ', hK⟩ | ⟨rfl, hJ'⟩
    · exact ⟨_, rfl, .inl rfl, fun _ => ⟨hK.1.trans (hC rfl).1, hK.2.trans (hC rfl).2⟩, .inl ⟨rfl, hJ'⟩⟩
    · exact ⟨_, rfl, .inr rfl, (fun h => by cases h), .inr ⟨rfl, hJ'⟩⟩
  clear HY hY hA1 hB1 hA hB hW hJ hJx h0
  refine callsIn_of_wp Tryd.func112 rfl trivial ?_
  simp only [Tryd.ntmps112, List.size_toArray, List.length_cons, List.length_nil, Nat.reduceAdd, Nat.reduceSub, Array.replicate_succ, Array.replicate_zero, List.push_toArray, List.append_toArray, List.nil_append, List.cons_append]
  gi_wp2
  refine wpIn_region_chain (PBoxes A B a b (.bool true)) (fun W => J [] W) (fun i => if i = 7 ∨ i = 16 ∨ i = 26 ∨ i = 36 then 2 else 0) Open.wide (by kernel_rfl) (by kernel_rfl) (fun _ => ⟨HA.out, HB.out⟩) H0.out ?_
  iterate 7 (first | (refine ctext_skip rfl rfl rfl rfl rfl (fun K hK => ?_); go_simp; refine hK _ ?_; clear hK K) | (refine ctext_det rfl rfl ?_; apply Exists.intro; refine ⟨fun w1 hC => ?_, fun K hK => ?_⟩; (first | (go_simp; exact rfl) | (have hc1 := (hC rfl).1.cell 0; have hc2 := (hC rfl).2.cell 0; simp only [List.getElem?_cons_zero] at hc1 hc2; go_simp; first | exact ⟨rfl, rfl⟩ | exact rfl | trivial)); go_simp; refine hK _ ?_; clear hK K))
  refine ctext_bar (fun v => v = .bool true ∨ v = .bool false) (PBoxes A B a b) (PGone J Jx [k0]) rfl rfl ⟨_, .inl rfl⟩ (fun v _ => ⟨W, fun _ => ⟨HA.out, HB.out⟩⟩) (fun w1 hC hJ Φ hΦ => ?_) (fun v hv K hK => ?_)
  · obtain ⟨fn, tmps, assign, body, hy, hR⟩ := PY.out [] k0 w1 hC hJ (by simp)
    dsimp only [k0, k1, k2, k3, Nat.reduceMul, Nat.mul_zero] at hy
    go_simp
    exact ⟨_, hR.mono fun e w2 ⟨v, he, h1, h2, h3⟩ => ⟨v, he, hΦ v w2 h1 h2 h3⟩⟩
  go_simp; refine hK _ ?_; clear hK K
  rcases hv with rfl | rfl
  rotate_left
  · iterate 30 (first | (refine ctext_skip rfl rfl rfl rfl rfl (fun K hK => ?_); go_simp; refine hK _ ?_; clear hK K) | (refine ctext_det rfl rfl ?_; apply Exists.intro; refine ⟨fun w1 hC => ?_, fun K hK => ?_⟩; (first | (go_simp; exact rfl) | (have hc1 := (hC rfl).1.cell 0; have hc2 := (hC rfl).2.cell 0; simp only [List.getElem?_cons_zero] at hc1 hc2; go_simp; first | exact ⟨rfl, rfl⟩ | exact rfl | trivial)); go_simp; refine hK _ ?_; clear hK K))
    refine ctext_nil (fun w1 hC hJ => ?_)
    exact ⟨rfl, _, results_none rfl _ _ _, ⟨_, rfl⟩, .inr ⟨[k0], ⟨[k1, k2, k3], rfl⟩, hJ.ff⟩⟩
  iterate 8 (first | (refine ctext_skip rfl rfl rfl rfl rfl (fun K hK => ?_); go_simp; refine hK _ ?_; clear hK K) | (refine ctext_det rfl rfl ?_; apply Exists.intro; refine ⟨fun w1 hC => ?_, fun K hK => ?_⟩; (first | (go_simp; exact rfl) | (have hc1 := (hC rfl).1.cell 0; have hc2 := (hC rfl).2.cell 0; simp only [List.getElem?_cons_zero] at hc1 hc2; go_simp; first | exact ⟨rfl, rfl⟩ | exact rfl | trivial)); go_simp; refine hK _ ?_; clear hK K))
  refine ctext_bar (fun v => v = .bool true ∨ v = .bool false) (PBoxes A B a b) (PGone J Jx [k0, k1]) rfl rfl ⟨_, .inl rfl⟩ (fun v _ => ⟨W, fun _ => ⟨HA.out, HB.out⟩⟩) (fun w1 hC hJ Φ hΦ => ?_) (fun v hv K hK => ?_)
  · obtain ⟨fn, tmps, assign, body, hy, hR⟩ := PY.out [k0] k1 w1 hC hJ.tt (by simp)
    dsimp only [k0, k1, k2, k3, Nat.reduceMul, Nat.mul_zero] at hy
    go_simp
    exact ⟨_, hR.mono fun e w2 ⟨v, he, h1, h2, h3⟩ => ⟨v, he, hΦ v w2 h1 h2 h3⟩⟩
  go_simp; refine hK _ ?_; clear hK K
  rcases hv with rfl | rfl
  rotate_left
  · iterate 21 (first | (refine ctext_skip rfl rfl rfl rfl rfl (fun K hK => ?_); go_simp; refine hK _ ?_; clear hK K) | (refine ctext_det rfl rfl ?_; apply Exists.intro; refine ⟨fun w1 hC => ?_, fun K hK => ?_⟩; (first | (go_simp; exact rfl) | (have hc1 := (hC rfl).1.cell 0; have hc2 := (hC rfl).2.cell 0; simp only [List.getElem?_cons_zero] at hc1 hc2; go_simp; first | exact ⟨rfl, rfl⟩ | exact rfl | trivial)); go_simp; refine hK _ ?_; clear hK K))
    refine ctext_nil (fun w1 hC hJ => ?_)
    exact ⟨rfl, _, results_none rfl _ _ _, ⟨_, rfl⟩, .inr ⟨[k0, k1], ⟨[k2, k3], rfl⟩, hJ.ff⟩⟩
  iterate 9 (first | (refine ctext_skip rfl rfl rfl rfl rfl (fun K hK => ?_); go_simp; refine hK _ ?_; clear hK K) | (refine ctext_det rfl rfl ?_; apply Exists.intro; refine ⟨fun w1 hC => ?_, fun K hK => ?_⟩; (first | (go_simp; exact rfl) | (have hc1 := (hC rfl).1.cell 0; have hc2 := (hC rfl).2.cell 0; simp only [List.getElem?_cons_zero] at hc1 hc2; go_simp; first | exact ⟨rfl, rfl⟩ | exact rfl | trivial)); go_simp; refine hK _ ?_; clear hK K))
  refine ctext_bar (fun v => v = .bool true ∨ v = .bool false) (PBoxes A B a b) (PGone J Jx [k0, k1, k2]) rfl rfl ⟨_, .inl rfl⟩ (fun v _ => ⟨W, fun _ => ⟨HA.out, HB.out⟩⟩) (fun w1 hC hJ Φ hΦ => ?_) (fun v hv K hK => ?_)
  · obtain ⟨fn, tmps, assign, body, hy, hR⟩ := PY.out [k0, k1] k2 w1 hC hJ.tt (by simp)
    dsimp only [k0, k1, k2, k3, Nat.reduceMul, Nat.mul_zero] at hy
    go_simp
    exact ⟨_, hR.mono fun e w2 ⟨v, he, h1, h2, h3⟩ => ⟨v, he, hΦ v w2 h1 h2 h3⟩⟩
  go_simp; refine hK _ ?_; clear hK K
  rcases hv with rfl | rfl
  rotate_left
  · iterate 11 (first | (refine ctext_skip rfl rfl rfl rfl rfl (fun K hK => ?_); go_simp; refine hK _ ?_; clear hK K) | (refine ctext_det rfl rfl ?_; apply Exists.intro; refine ⟨fun w1 hC => ?_, fun K hK => ?_⟩; (first | (go_simp; exact rfl) | (have hc1 := (hC rfl).1.cell 0; have hc2 := (hC rfl).2.cell 0; simp only [List.getElem?_cons_zero] at hc1 hc2; go_simp; first | exact ⟨rfl, rfl⟩ | exact rfl | trivial)); go_simp; refine hK _ ?_; clear hK K))
    refine ctext_nil (fun w1 hC hJ => ?_)
    exact ⟨rfl, _, results_none rfl _ _ _, ⟨_, rfl⟩, .inr ⟨[k0, k1, k2], ⟨[k3], rfl⟩, hJ.ff⟩⟩
  iterate 9 (first | (refine ctext_skip rfl rfl rfl rfl rfl (fun K hK => ?_); go_simp; refine hK _ ?_; clear hK K) | (refine ctext_det rfl rfl ?_; apply Exists.intro; refine ⟨fun w1 hC => ?_, fun K hK => ?_⟩; (first | (go_simp; exact rfl) | (have hc1 := (hC rfl).1.cell 0; have hc2 := (hC rfl).2.cell 0; simp only [List.getElem?_cons_zero] at hc1 hc2; go_simp; first | exact ⟨rfl, rfl⟩ | exact rfl | trivial)); go_simp; refine hK _ ?_; clear hK K))
  refine ctext_bar (fun v => v = .bool true ∨ v = .bool false) (PBoxes A B a b) (PGone J Jx [k0, k1, k2, k3]) rfl rfl ⟨_, .inl rfl⟩ (fun v _ => ⟨W, fun _ => ⟨HA.out, HB.out⟩⟩) (fun w1 hC hJ Φ hΦ => ?_) (fun v hv K hK => ?_)
  · obtain ⟨fn, tmps, assign, body, hy, hR⟩ := PY.out [k0, k1, k2] k3 w1 hC hJ.tt (by simp)
    dsimp only [k0, k1, k2, k3, Nat.reduceMul, Nat.mul_zero] at hy
    go_simp
    exact ⟨_, hR.mono fun e w2 ⟨v, he, h1, h2, h3⟩ => ⟨v, he, hΦ v w2 h1 h2 h3⟩⟩
  go_simp; refine hK _ ?_; clear hK K
  rcases hv with rfl | rfl
  rotate_left
  · iterate 1 (first | (refine ctext_skip rfl rfl rfl rfl rfl (fun K hK => ?_); go_simp; refine hK _ ?_; clear hK K) | (refine ctext_det rfl rfl ?_; apply Exists.intro; refine ⟨fun w1 hC => ?_, fun K hK => ?_⟩; (first | (go_simp; exact rfl) | (have hc1 := (hC rfl).1.cell 0; have hc2 := (hC rfl).2.cell 0; simp only [List.getElem?_cons_zero] at hc1 hc2; go_simp; first | exact ⟨rfl, rfl⟩ | exact rfl | trivial)); go_simp; refine hK _ ?_; clear hK K))
    refine ctext_nil (fun w1 hC hJ => ?_)
    exact ⟨rfl, _, results_none rfl _ _ _, ⟨_, rfl⟩, .inr ⟨[k0, k1, k2, k3], ⟨[], rfl⟩, hJ.ff⟩⟩
  iterate 1 (first | (refine ctext_skip rfl rfl rfl rfl rfl (fun K hK => ?_); go_simp; refine hK _ ?_; clear hK K) | (refine ctext_det rfl rfl ?_; apply Exists.intro; refine ⟨fun w1 hC => ?_, fun K hK => ?_⟩; (first | (go_simp; exact rfl) | (have hc1 := (hC rfl).1.cell 0; have hc2 := (hC rfl).2.cell 0; simp only [List.getElem?_cons_zero] at hc1 hc2; go_simp; first | exact ⟨rfl, rfl⟩ | exact rfl | trivial)); go_simp; refine hK _ ?_; clear hK K))
  refine ctext_nil (fun w1 hC hJ => ?_)
  exact ⟨rfl, _, results_none rfl _ _ _, ⟨_, rfl⟩, .inl ⟨_, rfl, hJ.tt⟩⟩
end Go.Proofs.YtgcbnagfdfgpnaaDoor
