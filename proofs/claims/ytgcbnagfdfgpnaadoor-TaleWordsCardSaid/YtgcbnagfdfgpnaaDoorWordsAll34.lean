/- Tales: the numbers of a step, names, what is small, lines. Printed by gen_numt.py. -/
import Derived.Test.YtgcbnagfdfgpnaaDoorWordsAll15
import Derived.Test.YtgcbnagfdfgpnaaDoorTaleP
import Derived.Test.YtgcbnagfdfgpnaaDoorWordsAll2
import Derived.Test.YtgcbnagfdfgpnaaDoorWordsAll5
namespace Go.Proofs.YtgcbnagfdfgpnaaDoor
open Go.RowKit Go.Hx
attribute [local go_sem] PStep.cells detUpon undIn
/-- where a step's numbers lie -/
def ptrs (b : Nat) (os : List Nat) : List Value := os.map fun k => .pointer (some ⟨b, k, none⟩)
structure NumR (b : Nat) (op : Int) (w w' : World) (g n : Nat) : Prop where
  len : n = (offs op).length
  ext : Ext w w'
  low : w.heap.size ≤ g
  blk : Blk w' g 173 (ptrs b (offs op))
set_option maxRecDepth 100000 in
set_option maxHeartbeats 1000000 in
theorem tale_numbers (b : Nat) (x : PStep) (w : World) (hB : Blk w b 115 x.cells) :
    Calls Tryd.prog 103 #[.pointer (some ⟨b, 0, none⟩)] w fun e w' => ∃ g n, e = .returned (.tuple #[.slice (some ⟨g, 0, none⟩) n n, .bool (drw x.op)]) ∧ NumR b x.op w w' g n := by
  obtain ⟨op, id, arg, extra, draw⟩ := x
  have hc0 : w.cell? ⟨b, 0, none⟩ = some (.int .u8 op) := hB.cell 0
  clear hB
  dsimp only
  by_cases h1 : op = 1
  · subst h1
    go_enter Tryd.func103, Tryd.ntmps103
    go_wp2_with fail
    go_ret2
    exact ⟨_, _, rfl, rfl, Ext.alloc _ _, Nat.le_refl _, Blk.new rfl⟩
  by_cases h2 : op = 2
  · subst h2
    go_enter Tryd.func103, Tryd.ntmps103
    go_wp2_with fail
    go_ret2
    exact ⟨_, _, rfl, rfl, Ext.alloc _ _, Nat.le_refl _, Blk.new rfl⟩
  by_cases h3 : op = 3
  · subst h3
    go_enter Tryd.func103, Tryd.ntmps103
    go_wp2_with fail
    go_ret2
    exact ⟨_, _, rfl, rfl, Ext.alloc _ _, Nat.le_refl _, Blk.new rfl⟩
  by_cases h4 : op = 4
  · subst h4
    go_enter Tryd.func103, Tryd.ntmps103
    go_wp2_with fail
    go_ret2
    exact ⟨_, _, rfl, rfl, Ext.alloc _ _, Nat.le_refl _, Blk.new rfl⟩
  by_cases h5 : op = 5
  · subst h5
    go_enter Tryd.func103, Tryd.ntmps103
    go_wp2_with fail
    go_ret2
    exact ⟨_, _, rfl, rfl, Ext.alloc _ _, Nat.le_refl _, Blk.new rfl⟩
  by_cases h6 : op = 6
  · subst h6
    go_enter Tryd.func103, Tryd.ntmps103
    go_wp2_with fail
    go_ret2
    exact ⟨_, _, rfl, rfl, Ext.alloc _ _, Nat.le_refl _, Blk.new rfl⟩
  by_cases h7 : op = 7
  · subst h7
    go_enter Tryd.func103, Tryd.ntmps103
    go_wp2_with fail
    go_ret2
    exact ⟨_, _, rfl, rfl, Ext.alloc _ _, Nat.le_refl _, Blk.new rfl⟩
  by_cases h8 : op = 8
  · subst h8
    go_enter Tryd.func103, Tryd.ntmps103
    go_wp2_with fail
    go_ret2
    exact ⟨_, _, rfl, rfl, Ext.alloc _ _, Nat.le_refl _, Blk.new rfl⟩
  by_cases h9 : op = 9
  · subst h9
    go_enter Tryd.func103, Tryd.ntmps103
    go_wp2_with fail
    refine wp_region_flow (Ext w) (fun _ => True) Ext (fun i => if i = 6 then .free (fun v => ∃ g, v = .slice (some ⟨g, 0, none⟩) 2 2) (fun v W => ∃ g, v = .slice (some ⟨g, 0, none⟩) 2 2 ∧ w.heap.size ≤ g ∧ Blk W g 173 [.pointer (some ⟨b, 2, none⟩), .pointer (some ⟨b, 3, none⟩)]) else .det) [] (by kernel_rfl) (by kernel_rfl) (by kernel_rfl) (Ext.drew _) trivial (keeps_true _) ?_
    iterate 6 (refine ftext_det rfl rfl ?_; apply Exists.intro; refine ⟨fun w hC => ?_, fun K hK => ?_⟩; (first | (go_simp; exact rfl) | (go_simp; exact ⟨rfl, rfl⟩)); go_simp; refine hK _ ?_; clear hK K)
    refine ftext_free _ _ rfl rfl ⟨_, 0, rfl⟩ (fun v w1 w2 h hR => by obtain ⟨g, h0, h1, h2⟩ := h; exact ⟨g, h0, h1, h2.ext hR⟩) (fun w1 hC Φ hΦ => ?_) (fun v hv K hK => ?_)
    · go_simp
      exact hΦ _ _ ⟨_, rfl⟩ (hC.trans (Ext.alloc _ _)) (Ext.alloc _ _) ⟨_, rfl, hC.size, Blk.new rfl⟩
    obtain ⟨g1, rfl⟩ := hv
    go_simp; refine hK _ ?_; clear hK K
    iterate 2 (refine ftext_det rfl rfl ?_; apply Exists.intro; refine ⟨fun w hC => ?_, fun K hK => ?_⟩; (first | (go_simp; exact rfl) | (go_simp; exact ⟨rfl, rfl⟩)); go_simp; refine hK _ ?_; clear hK K)
    refine ftext_nil ?_
    rintro w1 hC _ ⟨_, g, hg, hgs, Bg⟩
    have hgg : g1 = g := congrArg (fun v : Value => match v with | .slice (some p) _ _ => p.block | _ => 0) hg
    subst hgg
    go_wp2_with fail
    go_ret2
    exact ⟨_, _, rfl, rfl, hC, hgs, Bg⟩
  by_cases h10 : op = 10
  · subst h10
    go_enter Tryd.func103, Tryd.ntmps103
    go_wp2_with fail
    go_ret2
    exact ⟨_, _, rfl, rfl, Ext.alloc _ _, Nat.le_refl _, Blk.new rfl⟩
  by_cases h11 : op = 11
  · subst h11
    go_enter Tryd.func103, Tryd.ntmps103
    go_wp2_with fail
    refine wp_region_flow (Ext w) (fun _ => True) Ext (fun i => if i = 9 then .free (fun v => ∃ g, v = .slice (some ⟨g, 0, none⟩) 3 3) (fun v W => ∃ g, v = .slice (some ⟨g, 0, none⟩) 3 3 ∧ w.heap.size ≤ g ∧ Blk W g 173 [.pointer (some ⟨b, 1, none⟩), .pointer (some ⟨b, 2, none⟩), .pointer (some ⟨b, 3, none⟩)]) else .det) [] (by kernel_rfl) (by kernel_rfl) (by kernel_rfl) (Ext.drew _) trivial (keeps_true _) ?_
    iterate 9 (refine ftext_det rfl rfl ?_; apply Exists.intro; refine ⟨fun w hC => ?_, fun K hK => ?_⟩; (first | (go_simp; exact rfl) | (go_simp; exact ⟨rfl, rfl⟩)); go_simp; refine hK _ ?_; clear hK K)
    refine ftext_free _ _ rfl rfl ⟨_, 0, rfl⟩ (fun v w1 w2 h hR => by obtain ⟨g, h0, h1, h2⟩ := h; exact ⟨g, h0, h1, h2.ext hR⟩) (fun w1 hC Φ hΦ => ?_) (fun v hv K hK => ?_)
    · go_simp
      exact hΦ _ _ ⟨_, rfl⟩ (hC.trans (Ext.alloc _ _)) (Ext.alloc _ _) ⟨_, rfl, hC.size, Blk.new rfl⟩
    obtain ⟨g1, rfl⟩ := hv
    go_simp; refine hK _ ?_; clear hK K
    iterate 2 (refine ftext_det rfl rfl ?_; apply Exists.intro; refine ⟨fun w hC => ?_, fun K hK => ?_⟩; (first | (go_simp; exact rfl) | (go_simp; exact ⟨rfl, rfl⟩)); go_simp; refine hK _ ?_; clear hK K)
    refine ftext_nil ?_
    rintro w1 hC _ ⟨_, g, hg, hgs, Bg⟩
    have hgg : g1 = g := congrArg (fun v : Value => match v with | .slice (some p) _ _ => p.block | _ => 0) hg
    subst hgg
    go_wp2_with fail
    go_ret2
    exact ⟨_, _, rfl, rfl, hC, hgs, Bg⟩
  have ho : offs op = [1, 2, 3] := by unfold offs; rw [if_neg (by omega), if_neg (by omega), if_neg (by omega), if_neg (by omega)]
  have hd : drw op = true := by unfold drw; simp; omega
  have d1 : (op == 1) = false := by rw [beq_eq_false_iff_ne]; exact h1
  have d2 : (op == 2) = false := by rw [beq_eq_false_iff_ne]; exact h2
  have d3 : (op == 3) = false := by rw [beq_eq_false_iff_ne]; exact h3
  have d4 : (op == 4) = false := by rw [beq_eq_false_iff_ne]; exact h4
  have d5 : (op == 5) = false := by rw [beq_eq_false_iff_ne]; exact h5
  have d6 : (op == 6) = false := by rw [beq_eq_false_iff_ne]; exact h6
  have d7 : (op == 7) = false := by rw [beq_eq_false_iff_ne]; exact h7
  have d8 : (op == 8) = false := by rw [beq_eq_false_iff_ne]; exact h8
  have d9 : (op == 9) = false := by rw [beq_eq_false_iff_ne]; exact h9
  have d10 : (op == 10) = false := by rw [beq_eq_false_iff_ne]; exact h10
  have d11 : (op == 11) = false := by rw [beq_eq_false_iff_ne]; exact h11
  clear h1 h2 h3 h4 h5 h6 h7 h8 h9 h10 h11
  go_enter Tryd.func103, Tryd.ntmps103
  go_wp2_with fail
  refine wp_region_flow (Ext w) (fun _ => True) Ext (fun i => if i = 9 then .free (fun v => ∃ g, v = .slice (some ⟨g, 0, none⟩) 3 3) (fun v W => ∃ g, v = .slice (some ⟨g, 0, none⟩) 3 3 ∧ w.heap.size ≤ g ∧ Blk W g 173 [.pointer (some ⟨b, 1, none⟩), .pointer (some ⟨b, 2, none⟩), .pointer (some ⟨b, 3, none⟩)]) else .det) [] (by kernel_rfl) (by kernel_rfl) (by kernel_rfl) (Ext.drew _) trivial (keeps_true _) ?_
  iterate 9 (refine ftext_det rfl rfl ?_; apply Exists.intro; refine ⟨fun w hC => ?_, fun K hK => ?_⟩; (first | (go_simp; exact rfl) | (go_simp; exact ⟨rfl, rfl⟩)); go_simp; refine hK _ ?_; clear hK K)
  refine ftext_free _ _ rfl rfl ⟨_, 0, rfl⟩ (fun v w1 w2 h hR => by obtain ⟨g, h0, h1, h2⟩ := h; exact ⟨g, h0, h1, h2.ext hR⟩) (fun w1 hC Φ hΦ => ?_) (fun v hv K hK => ?_)
  · go_simp
    exact hΦ _ _ ⟨_, rfl⟩ (hC.trans (Ext.alloc _ _)) (Ext.alloc _ _) ⟨_, rfl, hC.size, Blk.new rfl⟩
  obtain ⟨g1, rfl⟩ := hv
  go_simp; refine hK _ ?_; clear hK K
  iterate 2 (refine ftext_det rfl rfl ?_; apply Exists.intro; refine ⟨fun w hC => ?_, fun K hK => ?_⟩; (first | (go_simp; exact rfl) | (go_simp; exact ⟨rfl, rfl⟩)); go_simp; refine hK _ ?_; clear hK K)
  refine ftext_nil ?_
  rintro w1 hC _ ⟨_, g, hg, hgs, Bg⟩
  have hgg : g1 = g := congrArg (fun v : Value => match v with | .slice (some p) _ _ => p.block | _ => 0) hg
  subst hgg
  go_wp2_with fail
  go_ret2
  exact ⟨g1, 3, by rw [hd] <;> rfl, by rw [ho] <;> rfl, hC, hgs, by rw [ho]; exact Bg⟩
theorem names_len : namesL.length = 13 := rfl
def encS (l : List UInt8) : List Value := [.string ⟨l.toArray⟩]
set_option maxRecDepth 100000 in
set_option maxHeartbeats 1000000 in
theorem tale_names (w : World) : Calls Tryd.prog 106 #[] w fun e w' => ∃ g, e = .returned (.slice (some ⟨g, 0, none⟩) 13 13) ∧ Ext w w' ∧ w.heap.size ≤ g ∧ Blk w' g 9 (namesL.flatMap encS) := by
  go_enter Tryd.func106, Tryd.ntmps106
  go_wp2_with fail
  go_ret
  exact ⟨_, rfl, Ext.alloc _ _, Nat.le_refl _, Blk.new rfl⟩
set_option maxRecDepth 100000 in
set_option maxHeartbeats 1000000 in
theorem tale_small (x : LX Int) (w : World) (hx : x.ok w w.heap.size cInt) :
    Calls Tryd.prog 102 #[.slice x.A x.l.length x.c] w fun e w' => e = .returned (.bool (x.l.all smallB)) ∧ Ext w w' := by
  obtain ⟨l, A, c⟩ := x
  have HX := Lib.hid hx.1
  have HML : Hid (l.length ≤ 9223372036854775807) := Lib.hid (by have := Nat.le_trans hx.2.1 hx.2.2; unfold maxLen at this; exact this)
  clear hx
  dsimp only
  go_enter Tryd.func102, Tryd.ntmps102
  go_wp2_with fail
  go_loopw [7] (fun i W => ∃ (k : Nat), k ≤ l.length ∧ i = .int .i64 k ∧ Hid (Ext w W ∧ (l.take k).all smallB = true)) (fun i _ => l.length - (intOf i).toNat)
  case atStart => exact ⟨0, by omega, rfl, Lib.hid ⟨Ext.refl _, rfl⟩⟩
  case round =>
    obtain ⟨k, hk, rfl, HI⟩ := hrel
    by_cases hlt : k < l.length
    · obtain ⟨z, hz⟩ : ∃ z, l[k]? = some z := ⟨_, List.getElem?_eq_getElem hlt⟩
      have HZ := Lib.hid hz
      have HZM := Lib.hid (List.mem_of_getElem? hz)
      obtain ⟨b1, o1, rfl, hb1, hrow⟩ := Sl.row (size := 1) (fun _ => rfl) HX.out hz
      have hc : wr.cell? ⟨b1, o1 + k, none⟩ = some (.int .i64 z) := by have := hrow.below HI.out.1.below hb1 0 _ rfl; simpa using this
      have hki : (k : Int) < (l.length : Int) := by omega
      have hkm : l.length ≤ 9223372036854775807 := HML.out
      clear hz hb1 hrow
      by_cases hs : smallB z = true
      · have h1 := of_decide_eq_true hs
        have q1 : ¬ z < -2147483647 := by omega
        have q2 : ¬ (2147483647 : Int) < z := by omega
        have HI2 : Hid (Ext w wr ∧ (l.take (k + 1)).all smallB = true) := Lib.hid ⟨HI.out.1, by rw [take_snoc HZ.out, List.all_append, HI.out.2]; simp [hs]⟩
        clear hs h1
        go_wp2_with fail
        go_roundw
        case rel => exact ⟨k + 1, by omega, by go_num, HI2⟩
        case measure => simp [intOf]; omega
      · have HR : Hid (l.all smallB = false) := Lib.hid (by rw [List.all_eq_false]; exact ⟨z, HZM.out, hs⟩)
        by_cases q1 : z < -2147483647
        · clear hs
          go_wp2_with fail
          go_ret
          exact ⟨by rw [HR.out] <;> rfl, HI.out.1⟩
        · have q2 : (2147483647 : Int) < z := by
            rcases Int.lt_or_le 2147483647 z with hq | hq
            · exact hq
            · exact absurd (decide_eq_true ⟨by omega, hq⟩) hs
          clear hs
          go_wp2_with fail
          go_ret
          exact ⟨by rw [HR.out] <;> rfl, HI.out.1⟩
    · have hki : ¬ (k : Int) < (l.length : Int) := by omega
      have HR : Hid (l.all smallB = true) := Lib.hid (by have := HI.out.2; rwa [show k = l.length by omega, List.take_length] at this)
      go_wp2_with fail
      go_ret
      exact ⟨by rw [HR.out] <;> rfl, HI.out.1⟩
/-- pointers to numbers -/
structure PtrI (W : World) (g : Nat) (ps : List Addr) (vs : List Int) : Prop where
  len : ps.length = vs.length
  row : ∀ (j : Nat) p, ps[j]? = some p → W.cell? ⟨g, j, none⟩ = some (.pointer (some p))
  val : ∀ (j : Nat) p v, ps[j]? = some p → vs[j]? = some v → W.cell? p = some (.int .i64 v)
theorem PtrI.ext {W W' : World} {g : Nat} {ps : List Addr} {vs : List Int} (h : PtrI W g ps vs) (k : Ext W W') : PtrI W' g ps vs := ⟨h.len, fun j p hp => k.cell (h.row j p hp), fun j p v hp hv => k.cell (h.val j p v hp hv)⟩
set_option maxRecDepth 100000 in
set_option maxHeartbeats 1000000 in
theorem tale_line (s : List UInt8) (g c : Nat) (ps : List Addr) (vs : List Int) (w : World) (hP : PtrI w g ps vs) (hv : ∀ v ∈ vs, inI64 v) (hs : s.length ≤ 1000) (hn : vs.length ≤ 1000) (hT : Pow w) :
    Calls Tryd.prog 105 #[.string ⟨s.toArray⟩, .slice (some ⟨g, 0, none⟩) vs.length c] w fun e w' => e = .returned (.string ⟨(lineL s vs).toArray⟩) ∧ Ext w w' := by
  have HP := Lib.hid hP
  have HV := Lib.hid hv
  have HT := Lib.hid hT
  have HS := Lib.hid hs
  have HN := Lib.hid hn
  clear hP hv hs hn hT
  go_enter Tryd.func105, Tryd.ntmps105
  go_wp2_with fail
  go_loopw [0, 9] (fun t i W => ∃ (k : Nat), k ≤ vs.length ∧ t = .string ⟨(lineL s (vs.take k)).toArray⟩ ∧ i = .int .i64 k ∧ Hid (Ext w W)) (fun _ i _ => vs.length - (intOf i).toNat)
  case atStart => exact ⟨0, by omega, by simp [lineL], rfl, Lib.hid (Ext.refl _)⟩
  case round =>
    obtain ⟨k, hk, rfl, rfl, HE⟩ := hrel
    by_cases hlt : k < vs.length
    · obtain ⟨v, hv⟩ : ∃ z, vs[k]? = some z := ⟨_, List.getElem?_eq_getElem hlt⟩
      obtain ⟨p, hp⟩ : ∃ p, ps[k]? = some p := ⟨_, List.getElem?_eq_getElem (by rw [HP.out.len]; exact hlt)⟩
      have hc1 : wr.cell? ⟨g, k, none⟩ = some (.pointer (some p)) := HE.out.cell (HP.out.row k p hp)
      have hc2 : wr.cell? p = some (.int .i64 v) := HE.out.cell (HP.out.val k p v hp hv)
      have HVI : Hid (inI64 v) := Lib.hid (HV.out v (List.mem_of_getElem? hv))
      have HVK := Lib.hid hv
      have hki : (k : Int) < (vs.length : Int) := by omega
      have hkm : k < 1000 := by have := HN.out; omega
      have HL : Hid ((lineL s (vs.take k)).length ≤ 100000) := Lib.hid (by
        have h1 := lineL_len s (vs.take k) (fun u hu => HV.out u (List.mem_of_mem_take hu))
        have h2 := HS.out
        have h3 := HN.out
        rw [List.length_take] at h1
        omega)
      have a1 : ∀ W, (Op.stringOp .add ⟨#[32]⟩ ⟨(Lib.itoa v).toArray⟩).run Tryd.prog W = .ok (.string ⟨(32 :: Lib.itoa v).toArray⟩) W := fun W => run_string_add_lists W [32] (Lib.itoa v) (by simp) (by have := itoa_len HVI.out; omega)
      have a2 : ∀ W, (Op.stringOp .add ⟨(lineL s (vs.take k)).toArray⟩ ⟨(32 :: Lib.itoa v).toArray⟩).run Tryd.prog W = .ok (.string ⟨(lineL s (vs.take (k + 1))).toArray⟩) W := fun W => by
        rw [run_string_add_lists W _ _ (by have := HL.out; omega) (by have := itoa_len HVI.out; rw [List.length_cons]; omega), take_snoc HVK.out, lineL_snoc]
      clear hv hp
      go_wp2_with (go_at_call 120; refine (itoa_int v HVI.out.1 HVI.out.2 _ (HT.out.ext HE.out)).mono ?_; rintro e w2 ⟨rfl, hE2⟩)
      have HE2 := Lib.hid (HE.out.trans hE2)
      go_roundw
      case rel => exact ⟨k + 1, by omega, rfl, by go_num, HE2⟩
      case measure => simp [intOf]; omega
    · have hki : ¬ (k : Int) < (vs.length : Int) := by omega
      have HR : Hid (vs.take k = vs) := Lib.hid (List.take_of_length_le (by omega))
      go_wp2_with fail
      go_ret
      exact ⟨by rw [HR.out] <;> rfl, HE.out⟩
end Go.Proofs.YtgcbnagfdfgpnaaDoor
