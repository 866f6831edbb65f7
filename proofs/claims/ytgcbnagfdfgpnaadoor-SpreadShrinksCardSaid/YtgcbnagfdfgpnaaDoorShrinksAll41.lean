/- The chapter's examples are as they are said. Printed by gen_alive.py. -/
import Derived.Test.YtgcbnagfdfgpnaaDoorShrinksAll38
import Derived.Test.YtgcbnagfdfgpnaaDoorShrinksAll39
import Derived.Test.YtgcbnagfdfgpnaaDoorShrinksAll40
namespace Go.Hx
open Go.RowKit
theorem lit_ok (w : World) (l : List Int) (hl : l.length ≤ 1000) : (⟨l, some ⟨w.heap.size, 0, none⟩, l.length⟩ : LX Int).ok (w.alloc (.cells (l.map fun x => Value.int .i64 x).toArray 3)) (w.alloc (.cells (l.map fun x => Value.int .i64 x).toArray 3)).heap.size cInt := by
  have hB : Blk (w.alloc (.cells (l.map fun x => Value.int .i64 x).toArray 3)) w.heap.size 3 (l.map fun x => Value.int .i64 x) := Blk.new rfl
  have e : l.flatMap cInt = l.map fun x => Value.int .i64 x := by
    induction l with
    | nil => rfl
    | cons x l ih => rw [List.flatMap_cons, List.map_cons, ih (by simp only [List.length_cons] at hl; omega) (Blk.new rfl)]; rfl
  exact ⟨.inr ⟨w.heap.size, 0, rfl, hB.lt, by rw [e]; exact hB.row⟩, Nat.le_refl _, by show l.length ≤ maxLen; unfold maxLen; omega⟩
theorem digs_one {n : Nat} (h : n ≠ 0) (h2 : n < B32) : digs B32 n = [n] := by
  rw [digs_pos (by decide) h, Nat.mod_eq_of_lt h2, Nat.div_eq_of_lt h2, digs_zero]
theorem may_one {n : Nat} (h : n ≠ 0) : mayD ⟨false, [n], 0⟩ := by
  refine ⟨⟨by simp, by simpa using h⟩, ⟨Int.le_refl _, by show (0 : Int) ≤ 1024; decide⟩, ?_⟩
  rw [if_neg (by simp)]
  exact .inl rfl
theorem fin_one {n : Nat} (h : n ≠ 0) (h2 : n < B32) : finD false n 0 = (⟨false, [n], 0⟩, 0) := by
  unfold finD
  rw [digs_one h h2, if_neg (by simp)]; rfl
theorem half_one {n : Nat} (h : n ≠ 0) (he : n % 2 = 0) (h2 : n < B32) : halfD ⟨false, [n], 0⟩ = (⟨false, [n / 2], 0⟩, 0) := by
  unfold halfD
  rw [if_pos (may_one h)]
  have e : n + B32 * 0 = n := by omega
  exact ((congrArg (formD false 1) e).trans (formD_even (k := 0) h he)).trans ((formD_end (by omega) (.inl rfl)).trans (fin_one (by omega) (by omega)))
theorem sub_one {m n : Nat} (hm : m ≠ 0) (hn : n ≠ 0) (h : n < m) (h2 : m < B32) : subD ⟨false, [m], 0⟩ ⟨false, [n], 0⟩ = (⟨false, [m - n], 0⟩, 0) := by
  unfold subD
  rw [if_pos ⟨may_one hm, may_one hn⟩]
  have e1 : numD ⟨false, [m], 0⟩ 0 = m := by simp [numD, val_cons]
  have e2 : numD ⟨true, [n], 0⟩ 0 = n := by simp [numD, val_cons]
  show formD (plusS false (numD ⟨false, [m], 0⟩ 0) true (numD ⟨true, [n], 0⟩ 0)).1 0 (plusS false (numD ⟨false, [m], 0⟩ 0) true (numD ⟨true, [n], 0⟩ 0)).2 = _
  rw [e1, e2]
  have e3 : plusS false m true n = (false, m - n) := by unfold plusS; rw [if_neg (by simp), if_pos (by omega)]
  rw [e3, formD_end (by omega) (.inl rfl)]
  exact fin_one (by omega) (by omega)
theorem bound_one : boundD (⟨false, [8], 0⟩ : PDyad) 3 1 = ((⟨false, [8], 0⟩ : PDyad), 0) := by
  unfold boundD
  rw [if_pos ⟨may_one (by decide), rfl⟩, if_pos (by decide)]
  rfl
theorem bound_two : boundD (⟨false, [8], 0⟩ : PDyad) 3 2 = ((⟨false, [6], 0⟩ : PDyad), 0) := by
  unfold boundD
  rw [if_pos ⟨may_one (by decide), rfl⟩, if_pos (by decide)]
  show boundsD 2 1 (⟨false, [8], 0⟩ : PDyad) = _
  have h1 : halvesD 2 (⟨false, [8], 0⟩ : PDyad) = (⟨false, [2], 0⟩, 0) := by
    rw [halvesD, half_one (by decide) (by decide) (by decide), if_pos rfl, halvesD]
    dsimp only
    rw [half_one (by decide) (by decide) (by decide), if_pos rfl]
    rfl
  have h2 : stepD 2 (⟨false, [8], 0⟩ : PDyad) = ((⟨false, [6], 0⟩ : PDyad), 0) := by
    unfold stepD
    rw [h1, if_pos rfl]
    dsimp only
    rw [sub_one (by decide) (by decide) (by decide) (by decide), if_pos rfl]
  rw [boundsD, h2, if_pos rfl]
  rfl
theorem joins_ex : joinsP 3 (mets [0, 1, 1, 2] (List.length ([0, 1, 1, 2] : List Int) / 2)) = (true, 0) := by decide
theorem rounds_ex : roundsP 3 (mets [0, 1, 1, 2] (List.length ([0, 1, 1, 2] : List Int) / 2)) = (1, 0) := by decide
theorem rounds_ex2 : roundsP 3 (mets [0, 1, 0, 1, 2, 0, 1, 2, 2, 0] (List.length ([0, 1, 0, 1, 2, 0, 1, 2, 2, 0] : List Int) / 2)) = (2, 0) := by decide
end Go.Hx
namespace Go.Proofs.YtgcbnagfdfgpnaaDoor
open Go.RowKit Go.Hx
attribute [local go_sem] detUpon undIn
set_option maxRecDepth 100000 in
set_option maxHeartbeats 1000000 in
theorem law30_alive (w : World) (hT : Tab w) : Calls Tryd.prog 14 #[] w fun e w' => e = .returned (.bool true) ∧ Ext w w' := by
  have HT := Lib.hid hT
  clear hT
  go_enter Tryd.func14, Tryd.ntmps14
  have HL1 : Hid ((⟨[0, 1, 1, 2], some ⟨w.heap.size, 0, none⟩, 4⟩ : LX Int).ok (w.alloc (.cells #[.int .i64 0, .int .i64 1, .int .i64 1, .int .i64 2] 3)) (w.alloc (.cells #[.int .i64 0, .int .i64 1, .int .i64 1, .int .i64 2] 3)).heap.size cInt) := Lib.hid (lit_ok w [0, 1, 1, 2] (by decide))
  go_wp2_with fail
  refine (law30_met ⟨[0, 1, 1, 2], some ⟨w.heap.size, 0, none⟩, 4⟩ _ HL1.out (by show (4 : Nat) ≤ 1000; omega)).mono ?_
  rintro e wa1 ⟨z1, rfl, hz1, ho1, hEa1⟩
  have HO1 := Lib.hid ho1.ok
  have HZ1 := Lib.hid hz1
  have HEa1 := Lib.hid ((Ext.alloc _ _).trans hEa1)
  clear hz1 ho1 hEa1
  go_wp2_with fail
  refine (spread_Joins 3 z1 _ ⟨HO1.out.1, HO1.out.2.1, HO1.out.2.2⟩).mono ?_
  rw [HZ1.out, joins_ex]
  rintro e wb1 ⟨rfl, hEb1⟩
  have HE1 := Lib.hid (HEa1.out.trans hEb1)
  clear hEb1
  have HL2 : Hid ((⟨[0, 1, 1, 2], some ⟨wb1.heap.size, 0, none⟩, 4⟩ : LX Int).ok (wb1.alloc (.cells #[.int .i64 0, .int .i64 1, .int .i64 1, .int .i64 2] 3)) (wb1.alloc (.cells #[.int .i64 0, .int .i64 1, .int .i64 1, .int .i64 2] 3)).heap.size cInt) := Lib.hid (lit_ok wb1 [0, 1, 1, 2] (by decide))
  go_wp2_with fail
  refine (law30_met ⟨[0, 1, 1, 2], some ⟨wb1.heap.size, 0, none⟩, 4⟩ _ HL2.out (by show (4 : Nat) ≤ 1000; omega)).mono ?_
  rintro e wa2 ⟨z2, rfl, hz2, ho2, hEa2⟩
  have HO2 := Lib.hid ho2.ok
  have HZ2 := Lib.hid hz2
  have HEa2 := Lib.hid (HE1.out.trans ((Ext.alloc _ _).trans hEa2))
  clear hz2 ho2 hEa2
  go_wp2_with fail
  refine (spread_Rounds 3 z2 _ ⟨HO2.out.1, HO2.out.2.1, HO2.out.2.2⟩).mono ?_
  rw [HZ2.out, rounds_ex]
  rintro e wb2 ⟨rfl, hEb2⟩
  have HE2 := Lib.hid (HEa2.out.trans hEb2)
  clear hEb2
  have HL3 : Hid ((⟨[0, 1, 0, 1, 2, 0, 1, 2, 2, 0], some ⟨wb2.heap.size, 0, none⟩, 10⟩ : LX Int).ok (wb2.alloc (.cells #[.int .i64 0, .int .i64 1, .int .i64 0, .int .i64 1, .int .i64 2, .int .i64 0, .int .i64 1, .int .i64 2, .int .i64 2, .int .i64 0] 3)) (wb2.alloc (.cells #[.int .i64 0, .int .i64 1, .int .i64 0, .int .i64 1, .int .i64 2, .int .i64 0, .int .i64 1, .int .i64 2, .int .i64 2, .int .i64 0] 3)).heap.size cInt) := Lib.hid (lit_ok wb2 [0, 1, 0, 1, 2, 0, 1, 2, 2, 0] (by decide))
  go_wp2_with fail
  refine (law30_met ⟨[0, 1, 0, 1, 2, 0, 1, 2, 2, 0], some ⟨wb2.heap.size, 0, none⟩, 10⟩ _ HL3.out (by show (10 : Nat) ≤ 1000; omega)).mono ?_
  rintro e wa3 ⟨z3, rfl, hz3, ho3, hEa3⟩
  have HO3 := Lib.hid ho3.ok
  have HZ3 := Lib.hid hz3
  have HEa3 := Lib.hid (HE2.out.trans ((Ext.alloc _ _).trans hEa3))
  clear hz3 ho3 hEa3
  go_wp2_with fail
  refine (spread_Rounds 3 z3 _ ⟨HO3.out.1, HO3.out.2.1, HO3.out.2.2⟩).mono ?_
  rw [HZ3.out, rounds_ex2]
  rintro e wb3 ⟨rfl, hEb3⟩
  have HE3 := Lib.hid (HEa3.out.trans hEb3)
  clear hEb3
  go_wp2_with fail
  refine (dyad_Of1 8 _ (by decide) (by decide)).mono ?_
  rintro e wc4 ⟨y4, rfl, hy4, hyo4, hEc4⟩
  have HY4 := Lib.hid hy4
  have HYO4 := Lib.hid hyo4
  have HEc4' := Lib.hid hEc4
  have HEc4 := Lib.hid (HE3.out.trans hEc4)
  clear hy4 hyo4 hEc4
  go_wp2_with fail
  refine (spread_Bound y4 3 1 _ HYO4.out (by rw [show y4.limbs.l = [8] from congrArg PDyad.limbs HY4.out]; intro x hx; simp only [List.mem_singleton] at hx; rw [hx]; decide) (HT.out.ext HEc4.out)).mono ?_
  rw [HY4.out, bound_one]
  rintro e wd4 ⟨a, rfl, ha1, ha2, hEd4⟩
  have Ha1 := Lib.hid ha1
  have Ha2 := Lib.hid ha2.ok
  have HEd4' := Lib.hid hEd4
  have HEd4 := Lib.hid (HEc4.out.trans hEd4)
  clear ha1 ha2 hEd4
  have HBa : Hid (Blk (wd4.alloc (.cells #[.bool a.neg, .slice a.limbs.A a.limbs.l.length a.limbs.c, .int .i64 a.exp] 24)) wd4.heap.size 24 [.bool a.neg, .slice a.limbs.A a.limbs.l.length a.limbs.c, .int .i64 a.exp]) := Lib.hid (Blk.new rfl)
  have HE4 := Lib.hid (HEd4.out.alloc' (.cells #[.bool a.neg, .slice a.limbs.A a.limbs.l.length a.limbs.c, .int .i64 a.exp] 24))
  have HW4 := Lib.hid ((Ext.refl wd4).alloc' (.cells #[.bool a.neg, .slice a.limbs.A a.limbs.l.length a.limbs.c, .int .i64 a.exp] 24))
  go_wp2_with fail
  refine (dyad_Of1 8 _ (by decide) (by decide)).mono ?_
  rintro e wc5 ⟨y5, rfl, hy5, hyo5, hEc5⟩
  have HY5 := Lib.hid hy5
  have HYO5 := Lib.hid hyo5
  have HEc5' := Lib.hid hEc5
  have HEc5 := Lib.hid (HE4.out.trans hEc5)
  clear hy5 hyo5 hEc5
  go_wp2_with fail
  refine (spread_Bound y5 3 2 _ HYO5.out (by rw [show y5.limbs.l = [8] from congrArg PDyad.limbs HY5.out]; intro x hx; simp only [List.mem_singleton] at hx; rw [hx]; decide) (HT.out.ext HEc5.out)).mono ?_
  rw [HY5.out, bound_two]
  rintro e wd5 ⟨b, rfl, hb1, hb2, hEd5⟩
  have Hb1 := Lib.hid hb1
  have Hb2 := Lib.hid hb2.ok
  have HEd5' := Lib.hid hEd5
  have HEd5 := Lib.hid (HEc5.out.trans hEd5)
  clear hb1 hb2 hEd5
  have HW5 := Lib.hid ((HW4.out.trans HEc5'.out).trans HEd5'.out)
  have HBb : Hid (Blk (wd5.alloc (.cells #[.bool b.neg, .slice b.limbs.A b.limbs.l.length b.limbs.c, .int .i64 b.exp] 24)) wd5.heap.size 24 [.bool b.neg, .slice b.limbs.A b.limbs.l.length b.limbs.c, .int .i64 b.exp]) := Lib.hid (Blk.new rfl)
  go_wp2_with fail
  obtain ⟨WX, hWX⟩ : ∃ W0, W0 = wd5.alloc (.cells #[.bool b.neg, .slice b.limbs.A b.limbs.l.length b.limbs.c, .int .i64 b.exp] 24) := ⟨_, rfl⟩
  have HB2 : Hid (Blk WX wd5.heap.size 24 [.bool b.neg, .slice b.limbs.A b.limbs.l.length b.limbs.c, .int .i64 b.exp]) := Lib.hid (by rw [hWX]; exact HBb.out)
  have HB1 : Hid (Blk WX wd4.heap.size 24 [.bool a.neg, .slice a.limbs.A a.limbs.l.length a.limbs.c, .int .i64 a.exp]) := Lib.hid (by rw [hWX]; exact ((HBa.out.ext HEc5'.out).ext HEd5'.out).alloc _)
  have Ha3 : Hid (a.ok WX WX.heap.size) := Lib.hid (by rw [hWX]; exact Ha2.out.ext (HW5.out.alloc' _))
  have Hb3 : Hid (b.ok WX WX.heap.size) := Lib.hid (by rw [hWX]; exact Hb2.out.ext (Ext.alloc _ _))
  have HEX : Hid (Ext w WX) := Lib.hid (by rw [hWX]; exact HEd5.out.alloc' _)
  rw [← hWX]
  clear hWX
  refine wp_region_flow (Ext WX) (fun _ => True) Ext (fun i => if i = 27 then .row (fun v => ∃ y : XDyad, v = .agg #[.bool y.neg, .slice y.limbs.A y.limbs.l.length y.limbs.c, .int .i64 y.exp]) (fun v W => ∃ y : XDyad, v = .agg #[.bool y.neg, .slice y.limbs.A y.limbs.l.length y.limbs.c, .int .i64 y.exp] ∧ y.data = (⟨false, [8], 0⟩ : PDyad) ∧ y.ok W W.heap.size) else if i = 28 then .row (fun v => v = .bool true) (fun _ _ => True) else if i = 36 then .row (fun v => ∃ y : XDyad, v = .agg #[.bool y.neg, .slice y.limbs.A y.limbs.l.length y.limbs.c, .int .i64 y.exp]) (fun v W => ∃ y : XDyad, v = .agg #[.bool y.neg, .slice y.limbs.A y.limbs.l.length y.limbs.c, .int .i64 y.exp] ∧ y.data = (⟨false, [6], 0⟩ : PDyad) ∧ y.ok W W.heap.size) else if i = 37 then .row (fun v => v = .bool true) (fun _ _ => True) else .det) [27, 28, 36, 37] (by kernel_rfl) (by kernel_rfl) (by kernel_rfl) (Ext.drew _) trivial (keeps_true _) ?_
  iterate 26 (refine ftext_det rfl rfl ?_; apply Exists.intro; refine ⟨fun w hC => ?_, fun K hK => ?_⟩; (first | (go_simp; exact rfl) | (go_simp; exact ⟨rfl, rfl⟩)); go_simp; refine hK _ ?_; clear hK K)
  refine ftext_load_row 24 _ rfl rfl rfl wd4.heap.size 0 [.bool a.neg, .slice a.limbs.A a.limbs.l.length a.limbs.c, .int .i64 a.exp] rfl aggDyad (fun W hW => (HB1.out.ext hW).row) (fun K hK => ?_)
  go_simp; refine hK _ ?_; clear hK K
  refine ftext_row _ _ rfl rfl ⟨_, XDyad.zero, rfl⟩ (fun v w1 w2 ⟨y, h1, h2, h3⟩ hR => ⟨y, h1, h2, h3.ext hR⟩) (fun w1 hC hJ Φ hΦ => ?_) (fun v hv K hK => ?_)
  · go_simp
    refine (dyad_Of1 8 _ (by decide) (by decide)).mono ?_
    rintro e w2 ⟨y, rfl, h1, h2, hE2⟩
    exact ⟨_, rfl, hΦ _ _ ⟨y, rfl⟩ (hC.trans hE2) hE2 ⟨y, rfl, h1, h2⟩⟩
  obtain ⟨yq, rfl⟩ := hv
  go_simp; refine hK _ ?_; clear hK K
  refine ftext_row _ _ rfl rfl ⟨_, rfl⟩ (fun v w1 w2 h1 hR => trivial) (fun w1 hC hJ Φ hΦ => ?_) (fun v hv K hK => ?_)
  · obtain ⟨y, hy, h1, h2⟩ := hJ
    rw [hy]
    have H1 := Lib.hid h1
    clear h1 hy
    go_simp
    refine (dyad_Same a y _ (Ha3.out.ext hC) h2).mono ?_
    rw [decide_eq_true (show a.data = y.data by rw [Ha1.out, H1.out])]
    rintro e w2 ⟨rfl, hE2⟩
    exact ⟨_, rfl, hΦ _ _ rfl (hC.trans hE2) hE2 trivial⟩
  subst hv
  go_simp; refine hK _ ?_; clear hK K
  iterate 6 (refine ftext_det rfl rfl ?_; apply Exists.intro; refine ⟨fun w hC => ?_, fun K hK => ?_⟩; (first | (go_simp; exact rfl) | (go_simp; exact ⟨rfl, rfl⟩)); go_simp; refine hK _ ?_; clear hK K)
  refine ftext_load_row 24 _ rfl rfl rfl wd5.heap.size 0 [.bool b.neg, .slice b.limbs.A b.limbs.l.length b.limbs.c, .int .i64 b.exp] rfl aggDyad (fun W hW => (HB2.out.ext hW).row) (fun K hK => ?_)
  go_simp; refine hK _ ?_; clear hK K
  refine ftext_row _ _ rfl rfl ⟨_, XDyad.zero, rfl⟩ (fun v w1 w2 ⟨y, h1, h2, h3⟩ hR => ⟨y, h1, h2, h3.ext hR⟩) (fun w1 hC hJ Φ hΦ => ?_) (fun v hv K hK => ?_)
  · go_simp
    refine (dyad_Of1 6 _ (by decide) (by decide)).mono ?_
    rintro e w2 ⟨y, rfl, h1, h2, hE2⟩
    exact ⟨_, rfl, hΦ _ _ ⟨y, rfl⟩ (hC.trans hE2) hE2 ⟨y, rfl, h1, h2⟩⟩
  obtain ⟨yq, rfl⟩ := hv
  go_simp; refine hK _ ?_; clear hK K
  refine ftext_row _ _ rfl rfl ⟨_, rfl⟩ (fun v w1 w2 h1 hR => trivial) (fun w1 hC hJ Φ hΦ => ?_) (fun v hv K hK => ?_)
  · obtain ⟨y, hy, h1, h2⟩ := hJ
    rw [hy]
    have H1 := Lib.hid h1
    clear h1 hy
    go_simp
    refine (dyad_Same b y _ (Hb3.out.ext hC) h2).mono ?_
    rw [decide_eq_true (show b.data = y.data by rw [Hb1.out, H1.out])]
    rintro e w2 ⟨rfl, hE2⟩
    exact ⟨_, rfl, hΦ _ _ rfl (hC.trans hE2) hE2 trivial⟩
  subst hv
  go_simp; refine hK _ ?_; clear hK K
  iterate 2 (refine ftext_det rfl rfl ?_; apply Exists.intro; refine ⟨fun w hC => ?_, fun K hK => ?_⟩; (first | (go_simp; exact rfl) | (go_simp; exact ⟨rfl, rfl⟩)); go_simp; refine hK _ ?_; clear hK K)
  refine ftext_nil ?_
  rintro w9 hC _ _
  go_wp2_with fail
  go_ret
  exact ⟨rfl, HEX.out.trans hC⟩
end Go.Proofs.YtgcbnagfdfgpnaaDoor
