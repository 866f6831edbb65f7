/- May a tale be? The program. Printed by gen_mayt.py. -/
import Derived.Test.YtgcbnagfdfgpnaaDoorStepT
namespace Go.Proofs.YtgcbnagfdfgpnaaDoor
open Go.RowKit Go.Hx
theorem aggConf : AggTy Tryd.prog 60 4 := ⟨⟨_, Tryd.underlying60, rfl⟩, by kernel_rfl⟩
theorem aggStep : AggTy Tryd.prog 115 5 := ⟨⟨_, Tryd.underlying115, rfl⟩, by kernel_rfl⟩
theorem stoodStep : Tryd.prog.stoodInHeld 115 = false := by kernel_rfl
theorem underStep : Tryd.prog.underlying 115 = some (.struct (Tryd.prog.fieldsOf 115)) := by kernel_rfl
theorem eqAsStep (w : World) (x y : PStep) : (Op.equalIn 10000 115 (.agg #[.int .u8 x.op, .int .i64 x.id, .int .i64 x.arg, .int .i64 x.extra, .int .u64 x.draw]) (.agg #[.int .u8 y.op, .int .i64 y.id, .int .i64 y.arg, .int .i64 y.extra, .int .u64 y.draw])).run Tryd.prog w = .ok (decide (x = y)) w := by
  rw [show (10000 : Nat) = 9999 + 1 from rfl, run_equalIn_struct w 9999 115 _ _ underStep stoodStep]
  simp only [Program.fieldsOf, Tryd.underlying115]
  simp [go_sem, Tryd.underlying3, Tryd.underlying113, Tryd.underlying5]
  obtain ⟨x0, x1, x2, x3, x4⟩ := x
  obtain ⟨y0, y1, y2, y3, y4⟩ := y
  simp only [PStep.mk.injEq]
  repeat' split
  all_goals simp_all
theorem neqStep (w : World) (x y : PStep) : (binOp .neq 115 (.agg #[.int .u8 x.op, .int .i64 x.id, .int .i64 x.arg, .int .i64 x.extra, .int .u64 x.draw]) (.agg #[.int .u8 y.op, .int .i64 y.id, .int .i64 y.arg, .int .i64 y.extra, .int .u64 y.draw])).run Tryd.prog w = .ok (.bool (!decide (x = y))) w := by
  rw [run_neq_struct, eqAsStep]; rfl
theorem eqlStep (w : World) (x y : PStep) : (binOp .eql 115 (.agg #[.int .u8 x.op, .int .i64 x.id, .int .i64 x.arg, .int .i64 x.extra, .int .u64 x.draw]) (.agg #[.int .u8 y.op, .int .i64 y.id, .int .i64 y.arg, .int .i64 y.extra, .int .u64 y.draw])).run Tryd.prog w = .ok (.bool (decide (x = y))) w := by
  rw [run_eql_struct, eqAsStep]; rfl

theorem blkI_ok {W : World} {g : Nat} {l : List Int} (hB : Blk W g 3 (l.map fun x => Value.int .i64 x)) (hl : l.length ≤ 1000) : (⟨l, some ⟨g, 0, none⟩, l.length⟩ : LX Int).ok W W.heap.size cInt := by
  have e : l.flatMap cInt = l.map fun x => Value.int .i64 x := by
    clear hB hl
    induction l with
    | nil => rfl
    | cons x l ih => rw [List.flatMap_cons, List.map_cons, ih]; rfl
  exact ⟨.inr ⟨g, 0, rfl, hB.lt, by rw [e]; exact hB.row⟩, Nat.le_refl _, by show l.length ≤ maxLen; unfold maxLen; omega⟩
/-- the cells of a step of which some numbers are 0 -/
def zerC (z : PStep) (j : Nat) : List Value := ((offs z.op).take j).foldl (fun cs k => cs.set k (.int .i64 0)) z.cells
structure ZerI (w W : World) (b5 b6 g : Nat) (z : PStep) (j : Nat) : Prop where
  ext : Ext w W
  c5 : Blk W b5 115 [.int .u8 z.op, .int .i64 z.id, .int .i64 z.arg, .int .i64 z.extra, .int .u64 z.draw]
  c6 : Blk W b6 115 (zerC z j)
  ptr : Blk W g 173 (ptrs b6 (offs z.op))
  gb : b6 < g
  lt : b5 < b6 ∧ w.heap.size ≤ b6
theorem zerC_len (z : PStep) (j : Nat) : (zerC z j).length = 5 := by
  unfold zerC
  have : ∀ (l : List Nat) (cs : List Value), (l.foldl (fun cs k => cs.set k (.int .i64 0)) cs).length = cs.length := fun l => by
    induction l with
    | nil => intro cs; rfl
    | cons k l ih => intro cs; rw [List.foldl_cons, ih, List.length_set]
  rw [this]; rfl
theorem ZerI.cell {w W : World} {b5 b6 g j o : Nat} {z : PStep} (h : ZerI w W b5 b6 g z j) (ho : (offs z.op)[j]? = some o) : ∃ u, W.cell? ⟨b6, o, none⟩ = some u := by
  have ho5 : o < (zerC z j).length := by
    rw [zerC_len]
    rcases offs_mem (List.mem_of_getElem? ho) with rfl | rfl | rfl <;> decide
  exact ⟨_, by rw [h.c6.cell o, List.getElem?_eq_getElem ho5]⟩
theorem ZerI.set {w W : World} {b5 b6 g j o : Nat} {z : PStep} (h : ZerI w W b5 b6 g z j) (ho : (offs z.op)[j]? = some o) : ZerI w (W.setCell ⟨b6, o, none⟩ (.int .i64 0)) b5 b6 g z (j + 1) := by
  have hb := h.gb
  have hl := h.lt
  refine ⟨h.ext.setCell' (by show w.heap.size ≤ b6; omega) _, h.c5.far (by show b5 ≠ b6; omega) _, ?_, h.ptr.far (by show g ≠ b6; omega) _, hb, hl⟩
  have e : zerC z (j + 1) = (zerC z j).set o (.int .i64 0) := by unfold zerC; rw [take_snoc ho, List.foldl_append]; rfl
  rw [e]
  exact h.c6.set o _
theorem zerC_rest (z : PStep) : (if drw z.op = true then (zerC z (offs z.op).length).set 4 (.int .u64 0) else zerC z (offs z.op).length) = [.int .u8 (restS z).op, .int .i64 (restS z).id, .int .i64 (restS z).arg, .int .i64 (restS z).extra, .int .u64 (restS z).draw] := by
  unfold zerC
  rw [List.take_length]
  have ho : offs z.op = [1] ∨ offs z.op = [2] ∨ offs z.op = [2, 3] ∨ offs z.op = [1, 2, 3] := by
    unfold offs
    split
    · exact .inl rfl
    · split
      · exact .inl rfl
      · split
        · exact .inr (.inl rfl)
        · split
          · exact .inr (.inr (.inl rfl))
          · exact .inr (.inr (.inr rfl))
  unfold restS
  dsimp only
  rcases ho with h | h | h | h <;> rw [h] <;> cases drw z.op <;> rfl
theorem ZerI.done {w W : World} {b5 b6 g j : Nat} {z : PStep} (h : ZerI w W b5 b6 g z j) (hj : (offs z.op).length ≤ j) : ZerI w W b5 b6 g z (offs z.op).length := by
  have e : zerC z j = zerC z (offs z.op).length := by unfold zerC; rw [List.take_of_length_le hj, List.take_length]
  exact ⟨h.ext, h.c5, e ▸ h.c6, h.ptr, h.gb, h.lt⟩
attribute [local go_sem] PStep.cells XTale.cells detUpon undIn
set_option maxRecDepth 100000 in
set_option maxHeartbeats 2000000 in
theorem tale_may (x : XTale) (w : World) (hx : x.ok w w.heap.size) (hw : x.data.wf) :
    Calls Tryd.prog 57 #[.agg #[.int .i64 x.conf.nodes, .int .i64 x.conf.len, .int .i64 x.conf.patience, .int .i64 x.conf.cap, .slice x.values.A x.values.l.length x.values.c, .slice x.steps.A x.steps.l.length x.steps.c]] w fun e w' => e = .returned (.bool (mayT x.data)) ∧ Ext w w' := by
  obtain ⟨cf, ⟨l, A, c⟩, ⟨sl, sA, sc⟩⟩ := x
  have HV := Lib.hid hx.values
  have HS := Lib.hid hx.steps.1
  clear hx hw
  dsimp only at *
  have HB0 : Hid (Blk (w.alloc (.cells #[.int .i64 cf.nodes, .int .i64 cf.len, .int .i64 cf.patience, .int .i64 cf.cap, .slice A l.length c, .slice sA sl.length sc] 64)) w.heap.size 64 [.int .i64 cf.nodes, .int .i64 cf.len, .int .i64 cf.patience, .int .i64 cf.cap, .slice A l.length c, .slice sA sl.length sc]) := Lib.hid (Blk.new rfl)
  have hrow0 : RowAt (w.alloc (.cells #[.int .i64 cf.nodes, .int .i64 cf.len, .int .i64 cf.patience, .int .i64 cf.cap, .slice A l.length c, .slice sA sl.length sc] 64)) w.heap.size 0 [.int .i64 cf.nodes, .int .i64 cf.len, .int .i64 cf.patience, .int .i64 cf.cap] := HB0.out.part 0 4
  go_enter Tryd.func57, Tryd.ntmps57
  go_wp2_with (first | ((with_reducible refine wpl_load 60 (.tmp 11) ?_ ?_ (w.heap.size) 0 [.int .i64 cf.nodes, .int .i64 cf.len, .int .i64 cf.patience, .int .i64 cf.cap] ?_ ?_ ?_ ?_); (exact rfl); (exact rfl); (exact rfl); (exact aggConf); (exact hrow0)) | fail)
  refine calls_nm fun W0 hW => ?_
  have HBT : Hid (Blk W0 w.heap.size 64 [.int .i64 cf.nodes, .int .i64 cf.len, .int .i64 cf.patience, .int .i64 cf.cap, .slice A l.length c, .slice sA sl.length sc]) := Lib.hid (by rw [hW]; exact (HB0.out.alloc _).alloc _)
  have HBL : Hid (Blk W0 (w.heap.size + 2) 3 [.int .i64 cf.nodes, .int .i64 cf.len, .int .i64 cf.patience, .int .i64 cf.cap]) := Lib.hid (by rw [hW]; exact Blk.new (by simp))
  have HE0 : Hid (Ext w W0) := Lib.hid (by rw [hW]; exact Ext.alloc' (Ext.alloc' (Ext.alloc _ _) _) _)
  clear hW HB0 hrow0
  obtain ⟨mt, hmt⟩ : ∃ m, mayT (⟨cf, l, sl⟩ : PTale) = m := ⟨_, rfl⟩
  have HMT : Hid (mayT (XTale.data ⟨cf, ⟨l, A, c⟩, ⟨sl, sA, sc⟩⟩) = mt) := Lib.hid hmt
  have HM2 := Lib.hid hmt
  clear hmt
  refine (tale_small ⟨[cf.nodes, cf.len, cf.patience, cf.cap], some ⟨w.heap.size + 2, 0, none⟩, 4⟩ _ (blkI_ok HBL.out (by simp))).mono ?_
  dsimp only
  have hcv : ∀ W, Ext W0 W → W.cell? ⟨w.heap.size, 4, none⟩ = some (.slice A l.length c) := fun W hW => (HBT.out.ext hW).cell 4
  have hcs : ∀ W, Ext W0 W → W.cell? ⟨w.heap.size, 5, none⟩ = some (.slice sA sl.length sc) := fun W hW => (HBT.out.ext hW).cell 5
  have HCV := Lib.hid hcv
  have HCS := Lib.hid hcs
  clear hcv hcs
  cases h1 : [cf.nodes, cf.len, cf.patience, cf.cap].all smallB with
  | false =>
    have HR : Hid (mt = false) := Lib.hid (by rw [← HM2.out]; unfold mayT; dsimp only; simp only [List.all_cons, List.all_nil, Bool.and_true, ← Bool.and_assoc] at h1; rw [h1]; rfl)
    clear h1
    rintro e w1 ⟨rfl, hE1⟩
    have HEX := Lib.hid (HE0.out.trans hE1)
    go_wp2_with fail
    go_ret
    exact ⟨by rw [HMT.out, HR.out] <;> rfl, HEX.out⟩
  | true =>
  have H1 := Lib.hid h1
  clear h1
  rintro e w1 ⟨rfl, hE1⟩
  have HE1 := Lib.hid (HE0.out.trans hE1)
  have hc1 := HCV.out w1 hE1
  have HF1 := Lib.hid hE1
  clear hE1
  go_wp2_with fail
  refine (tale_small ⟨l, A, c⟩ _ (HV.out.ext HE1.out)).mono ?_
  dsimp only
  clear hc1
  cases h2 : l.all smallB with
  | false =>
    have HR : Hid (mt = false) := Lib.hid (by rw [← HM2.out]; unfold mayT; dsimp only; rw [h2]; simp)
    clear h2
    rintro e w2 ⟨rfl, hE2⟩
    have HEX := Lib.hid (HE1.out.trans hE2)
    go_wp2_with fail
    go_ret
    exact ⟨by rw [HMT.out, HR.out] <;> rfl, HEX.out⟩
  | true =>
  have H2 := Lib.hid h2
  clear h2
  rintro e w2 ⟨rfl, hE2⟩
  have HE2 := Lib.hid (HE1.out.trans hE2)
  have HF2 := Lib.hid (HF1.out.trans hE2)
  have hc1 := HCV.out w2 HF2.out
  have hc2 := HCS.out w2 HF2.out
  clear hE2 HF1
  by_cases h3 : (100 : Int) < (l.length : Int)
  · have HR : Hid (mt = false) := Lib.hid (by rw [← HM2.out]; unfold mayT; dsimp only; rw [decide_eq_false (by omega)]; simp)
    go_wp2_with fail
    go_ret
    exact ⟨by rw [HMT.out, HR.out] <;> rfl, HE2.out⟩
  by_cases h4 : (512 : Int) < (sl.length : Int)
  · have HR : Hid (mt = false) := Lib.hid (by rw [← HM2.out]; unfold mayT; dsimp only; rw [decide_eq_false (by omega)]; simp)
    go_wp2_with fail
    go_ret
    exact ⟨by rw [HMT.out, HR.out] <;> rfl, HE2.out⟩
  have HSN : Hid (sl.length ≤ 512) := Lib.hid (by omega)
  have HMS : Hid (mt = sl.all mayS) := Lib.hid (by
    rw [← HM2.out]; unfold mayT; dsimp only
    have h1 := H1.out
    simp only [List.all_cons, List.all_nil, Bool.and_true, ← Bool.and_assoc] at h1
    rw [h1, H2.out, decide_eq_true ⟨by omega, by omega⟩]; rfl)
  go_wp2_with fail
  clear hc1 hc2 h3 h4
  go_loopw [45] (fun i W => ∃ (k : Nat), k ≤ sl.length ∧ i = .int .i64 k ∧ Hid (Ext w W ∧ (sl.take k).all mayS = true)) (fun i _ => sl.length - (intOf i).toNat)
  case atStart => exact ⟨0, by omega, rfl, Lib.hid ⟨HE2.out, rfl⟩⟩
  case round =>
    obtain ⟨k, hk, rfl, HI⟩ := hrel
    clear HE2 HF2 HE1 HE0
    have HEX := Lib.hid HI.out.1
    by_cases hlt : k < sl.length
    · obtain ⟨z, hz⟩ : ∃ z, sl[k]? = some z := ⟨_, List.getElem?_eq_getElem hlt⟩
      have HZ := Lib.hid hz
      have HZM := Lib.hid (List.mem_of_getElem? hz)
      obtain ⟨b1, o1, rfl, hb1, hrow⟩ := Sl.row (size := 5) (fun _ => rfl) HS.out hz
      have HRZ : Hid (RowAt wr b1 (o1 + k * 5) [.int .u8 z.op, .int .i64 z.id, .int .i64 z.arg, .int .i64 z.extra, .int .u64 z.draw]) := Lib.hid (hrow.below HEX.out.below hb1)
      have hki : (k : Int) < (sl.length : Int) := by omega
      have hk5 : k < 512 := by have := HSN.out; omega
      have HNO : ∀ z ∈ sl, mayS z = false → Hid (mt = false) := fun z hz h => Lib.hid (by rw [HMS.out, List.all_eq_false]; exact ⟨z, hz, by rw [h]; decide⟩)
      have HB5 : Hid (Blk (wr.alloc (.cells #[.int .u8 z.op, .int .i64 z.id, .int .i64 z.arg, .int .i64 z.extra, .int .u64 z.draw] 115)) wr.heap.size 115 [.int .u8 z.op, .int .i64 z.id, .int .i64 z.arg, .int .i64 z.extra, .int .u64 z.draw]) := Lib.hid (Blk.new rfl)
      clear hz hb1 hrow
      by_cases o1' : z.op < 1
      · have HR := HNO z HZM.out (by unfold mayS; rw [decide_eq_false (by omega)]; rfl)
        clear HNO
        go_wp2_with (first | ((with_reducible refine wpl_load 115 (.tmp 47) ?_ ?_ (b1) (o1 + k * 5) [.int .u8 z.op, .int .i64 z.id, .int .i64 z.arg, .int .i64 z.extra, .int .u64 z.draw] ?_ ?_ ?_ ?_); (exact rfl); (exact rfl); (exact rfl); (exact aggStep); (exact HRZ.out)) | fail)
        go_ret
        exact ⟨by rw [HMT.out, HR.out] <;> rfl, HEX.out.trans (Ext.alloc _ _)⟩
      by_cases o2' : (12 : Int) < z.op
      · have HR := HNO z HZM.out (by unfold mayS; rw [decide_eq_false (by omega)]; rfl)
        clear HNO
        go_wp2_with (first | ((with_reducible refine wpl_load 115 (.tmp 47) ?_ ?_ (b1) (o1 + k * 5) [.int .u8 z.op, .int .i64 z.id, .int .i64 z.arg, .int .i64 z.extra, .int .u64 z.draw] ?_ ?_ ?_ ?_); (exact rfl); (exact rfl); (exact rfl); (exact aggStep); (exact HRZ.out)) | fail)
        go_ret
        exact ⟨by rw [HMT.out, HR.out] <;> rfl, HEX.out.trans (Ext.alloc _ _)⟩
      have HOP : Hid (1 ≤ z.op ∧ z.op ≤ 12) := Lib.hid ⟨by omega, by omega⟩
      go_wp2_with (first | ((with_reducible refine wpl_load 115 (.tmp 47) ?_ ?_ (b1) (o1 + k * 5) [.int .u8 z.op, .int .i64 z.id, .int .i64 z.arg, .int .i64 z.extra, .int .u64 z.draw] ?_ ?_ ?_ ?_); (exact rfl); (exact rfl); (exact rfl); (exact aggStep); (exact HRZ.out)) | fail)
      clear o1' o2'
      refine calls_nm fun W1 hW => ?_
      have HB5 : Hid (Blk W1 wr.heap.size 115 [.int .u8 z.op, .int .i64 z.id, .int .i64 z.arg, .int .i64 z.extra, .int .u64 z.draw]) := Lib.hid (by rw [hW]; exact HB5.out.alloc _)
      have HBL : Hid (Blk W1 (wr.heap.size + 1) 3 [.int .i64 z.id, .int .i64 z.arg, .int .i64 z.extra]) := Lib.hid (by rw [hW]; exact Blk.new (by simp))
      have HW1 : Hid (Ext wr W1) := Lib.hid (by rw [hW]; exact Ext.alloc' (Ext.alloc _ _) _)
      clear hW
      obtain ⟨b5, hb5⟩ : ∃ b, wr.heap.size = b := ⟨_, rfl⟩
      rw [hb5] at HB5 HBL ⊢
      clear hb5
      refine (tale_small ⟨[z.id, z.arg, z.extra], some ⟨b5 + 1, 0, none⟩, 3⟩ _ (blkI_ok HBL.out (by simp))).mono ?_
      dsimp only
      cases h5 : [z.id, z.arg, z.extra].all smallB with
      | false =>
        have HR := HNO z HZM.out (by
          simp only [List.all_cons, List.all_nil, Bool.and_true, ← Bool.and_assoc] at h5
          unfold mayS; rw [h5]; simp)
        clear h5 HNO
        rintro e w2 ⟨rfl, hE2⟩
        have HEZ := Lib.hid (HEX.out.trans (HW1.out.trans hE2))
        go_wp2_with fail
        go_ret
        exact ⟨by rw [HMT.out, HR.out] <;> rfl, HEZ.out⟩
      | true =>
      have H5 := Lib.hid h5
      clear h5
      rintro e w2 ⟨rfl, hE2⟩
      replace HB5 := Lib.hid (HB5.out.ext hE2)
      have HE2 := Lib.hid (HEX.out.trans (HW1.out.trans hE2))
      have HL5 : Hid (b5 < w2.heap.size) := Lib.hid HB5.out.lt
      have hr5 : RowAt w2 b5 0 [.int .u8 z.op, .int .i64 z.id, .int .i64 z.arg, .int .i64 z.extra, .int .u64 z.draw] := HB5.out.row
      clear hE2 HBL HW1 HRZ
      go_wp2_with (first | ((with_reducible refine wpl_load 115 (.tmp 5) ?_ ?_ (b5) 0 [.int .u8 z.op, .int .i64 z.id, .int .i64 z.arg, .int .i64 z.extra, .int .u64 z.draw] ?_ ?_ ?_ ?_); (exact rfl); (exact rfl); (exact rfl); (exact aggStep); (exact hr5)) | fail)
      clear hr5
      refine calls_nm fun W3 hW => ?_
      have HB6 : Hid (Blk W3 w2.heap.size 115 [.int .u8 z.op, .int .i64 z.id, .int .i64 z.arg, .int .i64 z.extra, .int .u64 z.draw]) := Lib.hid (by rw [hW]; exact Blk.new rfl)
      replace HB5 : Hid (Blk W3 b5 115 [.int .u8 z.op, .int .i64 z.id, .int .i64 z.arg, .int .i64 z.extra, .int .u64 z.draw]) := Lib.hid (by rw [hW]; exact HB5.out.alloc _)
      have HE3 : Hid (Ext w W3) := Lib.hid (by rw [hW]; exact HE2.out.trans (Ext.alloc _ _))
      have HLT : Hid (b5 < w2.heap.size ∧ w.heap.size ≤ w2.heap.size) := Lib.hid ⟨HL5.out, HE2.out.size⟩
      clear hW HE2
      obtain ⟨b6, hb6⟩ : ∃ b, w2.heap.size = b := ⟨_, rfl⟩
      rw [hb6] at HB6 HLT ⊢
      clear hb6
      refine (tale_numbers b6 z _ HB6.out).mono ?_
      rintro e w4 ⟨g, n, rfl, hN⟩
      have HZ0 : Hid (ZerI w w4 b5 b6 g z 0) := Lib.hid ⟨HE3.out.trans hN.ext, HB5.out.ext hN.ext, HB6.out.ext hN.ext, hN.blk, by have := hN.low; have := HB6.out.lt; omega, HLT.out⟩
      have HNN := Lib.hid hN.len
      clear hN HB5 HB6 HE3
      go_wp2_with fail
      go_loopw [75] (fun i W => ∃ (j : Nat), j ≤ n ∧ i = .int .i64 j ∧ Hid (ZerI w W b5 b6 g z j)) (fun i _ => n - (intOf i).toNat)
      case atStart => exact ⟨0, by omega, rfl, HZ0⟩
      case round =>
        obtain ⟨j, hj, rfl, HZ⟩ := hrel
        clear HZ0
        have hn3 : n ≤ 3 := by rw [HNN.out]; exact offs_len _
        by_cases hltj : j < n
        · obtain ⟨o, ho⟩ : ∃ o, (offs z.op)[j]? = some o := ⟨_, List.getElem?_eq_getElem (by rw [← HNN.out]; exact hltj)⟩
          have hcp : wr.cell? ⟨g, j, none⟩ = some (.pointer (some ⟨b6, o, none⟩)) := by
            rw [HZ.out.ptr.cell j]; unfold ptrs; rw [List.getElem?_map, ho]; rfl
          obtain ⟨u, hu⟩ := HZ.out.cell ho
          have hfz : wr.frozen? ⟨b6, o, none⟩ = false := HZ.out.c6.free o
          have HZ2 := Lib.hid (HZ.out.set ho)
          have hji : (j : Int) < (n : Int) := by omega
          clear ho
          go_wp2_with fail
          go_roundw
          case rel => exact ⟨j + 1, by omega, by go_num, HZ2⟩
          case measure => simp [intOf]; omega
        · have hji : ¬ (j : Int) < (n : Int) := by omega
          have HZN := Lib.hid (HZ.out.done (by have := HNN.out; omega))
          clear HZ HNN
          have hop5 : wr.cell? ⟨b5, 0, none⟩ = some (.int .u8 z.op) := HZN.out.c5.cell 0
          have hlt6 := HZN.out.lt
          obtain ⟨bq, hbq⟩ : ∃ v, decide (restS z = ⟨z.op, 0, 0, 0, 0⟩) = v := ⟨_, rfl⟩
          have heq : ∀ W, (Op.equalIn 10000 115 (.agg #[.int .u8 (restS z).op, .int .i64 (restS z).id, .int .i64 (restS z).arg, .int .i64 (restS z).extra, .int .u64 (restS z).draw]) (.agg #[.int .u8 z.op, .int .i64 0, .int .i64 0, .int .i64 0, .int .u64 0])).run Tryd.prog W = .ok bq W := fun W => by rw [← hbq]; exact eqAsStep W (restS z) ⟨z.op, 0, 0, 0, 0⟩
          have HEF : Hid (Ext w wr) := Lib.hid HZN.out.ext
          have HMZ : Hid (mayS z = bq) := Lib.hid (by
            have h5 := H5.out
            simp only [List.all_cons, List.all_nil, Bool.and_true, ← Bool.and_assoc] at h5
            unfold mayS
            rw [decide_eq_true HOP.out, h5, hbq]; rfl)
          have HK2 : bq = true → Hid ((sl.take (k + 1)).all mayS = true) := fun hb => Lib.hid (by rw [take_snoc HZ.out, List.all_append, HI.out.2]; simp [HMZ.out, hb])
          have HKN : bq = false → Hid (mt = false) := fun hb => HNO z HZM.out (HMZ.out.trans hb)
          clear hbq HNO HI
          cases hd : drw z.op with
          | true =>
            have hc4 : ∃ u, wr.cell? ⟨b6, 4, none⟩ = some u := ⟨_, by rw [HZN.out.c6.cell 4, List.getElem?_eq_getElem (by rw [zerC_len]; decide)]⟩
            obtain ⟨u4, hc4⟩ := hc4
            have hf4 : wr.frozen? ⟨b6, 4, none⟩ = false := HZN.out.c6.free 4
            have hr6 : RowAt (wr.setCell ⟨b6, 4, none⟩ (.int .u64 0)) b6 0 [.int .u8 (restS z).op, .int .i64 (restS z).id, .int .i64 (restS z).arg, .int .i64 (restS z).extra, .int .u64 (restS z).draw] := by
              have h1 := zerC_rest z
              rw [if_pos hd] at h1
              have h2 := (HZN.out.c6.set 4 (.int .u64 0)).row
              rwa [h1] at h2
            have hop6 : (wr.setCell ⟨b6, 4, none⟩ (.int .u64 0)).cell? ⟨b5, 0, none⟩ = some (.int .u8 z.op) := (HZN.out.c5.far (by show b5 ≠ b6; omega) _).cell 0
            have HEF2 : Hid (Ext w (wr.setCell ⟨b6, 4, none⟩ (.int .u64 0))) := Lib.hid (HEF.out.setCell' (by show w.heap.size ≤ b6; omega) _)
            clear HZN hlt6
            cases hb : bq with
            | true =>
              have HK3 := HK2 hb
              rw [hb] at heq
              clear HK2 HKN hb
              go_wp2_with (first | ((with_reducible refine wpl_load 115 (.tmp 6) ?_ ?_ (b6) 0 [.int .u8 (restS z).op, .int .i64 (restS z).id, .int .i64 (restS z).arg, .int .i64 (restS z).extra, .int .u64 (restS z).draw] ?_ ?_ ?_ ?_); (exact rfl); (exact rfl); (exact rfl); (exact aggStep); (exact hr6)) | fail)
              go_roundw
              case rel => exact ⟨k + 1, by omega, by go_num, Lib.hid ⟨HEF2.out, HK3.out⟩⟩
              case measure => simp [intOf]; omega
            | false =>
              have HR := HKN hb
              rw [hb] at heq
              clear HK2 HKN hb
              go_wp2_with (first | ((with_reducible refine wpl_load 115 (.tmp 6) ?_ ?_ (b6) 0 [.int .u8 (restS z).op, .int .i64 (restS z).id, .int .i64 (restS z).arg, .int .i64 (restS z).extra, .int .u64 (restS z).draw] ?_ ?_ ?_ ?_); (exact rfl); (exact rfl); (exact rfl); (exact aggStep); (exact hr6)) | fail)
              go_ret
              exact ⟨by rw [HMT.out, HR.out] <;> rfl, HEF2.out⟩
          | false =>
            have hr6 : RowAt wr b6 0 [.int .u8 (restS z).op, .int .i64 (restS z).id, .int .i64 (restS z).arg, .int .i64 (restS z).extra, .int .u64 (restS z).draw] := by
              have h1 := zerC_rest z
              rw [if_neg (by rw [hd]; decide)] at h1
              have h2 := HZN.out.c6.row
              rwa [h1] at h2
            clear HZN hlt6
            cases hb : bq with
            | true =>
              have HK3 := HK2 hb
              rw [hb] at heq
              clear HK2 HKN hb
              go_wp2_with (first | ((with_reducible refine wpl_load 115 (.tmp 6) ?_ ?_ (b6) 0 [.int .u8 (restS z).op, .int .i64 (restS z).id, .int .i64 (restS z).arg, .int .i64 (restS z).extra, .int .u64 (restS z).draw] ?_ ?_ ?_ ?_); (exact rfl); (exact rfl); (exact rfl); (exact aggStep); (exact hr6)) | fail)
              go_roundw
              case rel => exact ⟨k + 1, by omega, by go_num, Lib.hid ⟨HEF.out, HK3.out⟩⟩
              case measure => simp [intOf]; omega
            | false =>
              have HR := HKN hb
              rw [hb] at heq
              clear HK2 HKN hb
              go_wp2_with (first | ((with_reducible refine wpl_load 115 (.tmp 6) ?_ ?_ (b6) 0 [.int .u8 (restS z).op, .int .i64 (restS z).id, .int .i64 (restS z).arg, .int .i64 (restS z).extra, .int .u64 (restS z).draw] ?_ ?_ ?_ ?_); (exact rfl); (exact rfl); (exact rfl); (exact aggStep); (exact hr6)) | fail)
              go_ret
              exact ⟨by rw [HMT.out, HR.out] <;> rfl, HEF.out⟩
    · have hki : ¬ (k : Int) < (sl.length : Int) := by omega
      have HR : Hid (mt = true) := Lib.hid (by rw [HMS.out]; have := HI.out.2; rwa [show k = sl.length by omega, List.take_length] at this)
      go_wp2_with fail
      go_ret
      exact ⟨by rw [HMT.out, HR.out] <;> rfl, HEX.out⟩
end Go.Proofs.YtgcbnagfdfgpnaaDoor
