/- The reference's tales: may they be, numbers in digits. Printed by gen_ref32b.py. -/
import Derived.Test.YtgcbnagfdfgpnaaDoorRef32
namespace Go.Proofs.YtgcbnagfdfgpnaaDoor
open Go.RowKit Go.Hx
attribute [local go_sem] PStep.cells XTale.cells detUpon undIn
set_option maxRecDepth 100000 in
set_option maxHeartbeats 2000000 in
theorem ref_May (x : XTale) (w : World) (hx : x.ok w w.heap.size) (hw : x.data.wf) :
    Calls Tryd.prog 63 #[.agg #[.int .i64 x.conf.nodes, .int .i64 x.conf.len, .int .i64 x.conf.patience, .int .i64 x.conf.cap, .slice x.values.A x.values.l.length x.values.c, .slice x.steps.A x.steps.l.length x.steps.c]] w fun e w' => e = .returned (.bool (mayT x.data)) ∧ Ext w w' := by
  obtain ⟨cf, ⟨l, A, c⟩, ⟨sl, sA, sc⟩⟩ := x
  have HV := Lib.hid hx.values.1
  have HS := Lib.hid hx.steps.1
  have HW : Hid (∀ z ∈ sl, 0 ≤ z.op) := Lib.hid fun z hz => (hw.2.2 z hz).1.1
  clear hx hw
  dsimp only at *
  have HB0 : Hid (Blk (w.alloc (.cells #[.int .i64 cf.nodes, .int .i64 cf.len, .int .i64 cf.patience, .int .i64 cf.cap, .slice A l.length c, .slice sA sl.length sc] 64)) w.heap.size 64 [.int .i64 cf.nodes, .int .i64 cf.len, .int .i64 cf.patience, .int .i64 cf.cap, .slice A l.length c, .slice sA sl.length sc]) := Lib.hid (Blk.new rfl)
  have hrow0 : RowAt (w.alloc (.cells #[.int .i64 cf.nodes, .int .i64 cf.len, .int .i64 cf.patience, .int .i64 cf.cap, .slice A l.length c, .slice sA sl.length sc] 64)) w.heap.size 0 [.int .i64 cf.nodes, .int .i64 cf.len, .int .i64 cf.patience, .int .i64 cf.cap] := HB0.out.part 0 4
  obtain ⟨W, hW⟩ : ∃ W, W = (w.alloc (.cells #[.int .i64 cf.nodes, .int .i64 cf.len, .int .i64 cf.patience, .int .i64 cf.cap, .slice A l.length c, .slice sA sl.length sc] 64)).alloc (.cells #[.int .i64 cf.nodes, .int .i64 cf.len, .int .i64 cf.patience, .int .i64 cf.cap] 60) := ⟨_, rfl⟩
  have HB1 : Hid (Blk W w.heap.size 64 [.int .i64 cf.nodes, .int .i64 cf.len, .int .i64 cf.patience, .int .i64 cf.cap, .slice A l.length c, .slice sA sl.length sc]) := Lib.hid (by rw [hW]; exact HB0.out.alloc _)
  have HB2 : Hid (Blk W (w.heap.size + 1) 60 [.int .i64 cf.nodes, .int .i64 cf.len, .int .i64 cf.patience, .int .i64 cf.cap]) := Lib.hid (by rw [hW]; exact Blk.new (by simp))
  have HE0 : Hid (Ext w W) := Lib.hid (by rw [hW]; exact Ext.alloc' (Ext.alloc _ _) _)
  obtain ⟨mt, hmt⟩ : ∃ m, mayT (⟨cf, l, sl⟩ : PTale) = m := ⟨_, rfl⟩
  have HMT : Hid (mayT (XTale.data ⟨cf, ⟨l, A, c⟩, ⟨sl, sA, sc⟩⟩) = mt) := Lib.hid hmt
  have HMS : Hid (mt = ((smallB cf.nodes && smallB cf.len && smallB cf.patience && smallB cf.cap) && l.all smallB && decide (l.length ≤ 100 ∧ sl.length ≤ 512) && sl.all mayS)) := Lib.hid (by rw [← hmt]; rfl)
  clear hmt
  go_enter Tryd.func63, Tryd.ntmps63
  go_wp2_with (first | ((with_reducible refine wpl_load 60 (.tmp 6) ?_ ?_ (w.heap.size) 0 [.int .i64 cf.nodes, .int .i64 cf.len, .int .i64 cf.patience, .int .i64 cf.cap] ?_ ?_ ?_ ?_); (exact rfl); (exact rfl); (exact rfl); (exact aggConf); (exact hrow0)) | fail)
  rw [← hW]
  clear hW HB0 hrow0
  have hc0 : W.cell? ⟨w.heap.size + 1, 1, none⟩ = some (.int .i64 cf.len) := HB2.out.cell 1
  have hc1 : W.cell? ⟨w.heap.size + 1, 2, none⟩ = some (.int .i64 cf.patience) := HB2.out.cell 2
  have hc2 : W.cell? ⟨w.heap.size + 1, 3, none⟩ = some (.int .i64 cf.cap) := HB2.out.cell 3
  have hc4 : W.cell? ⟨w.heap.size, 4, none⟩ = some (.slice A l.length c) := HB1.out.cell 4
  have hc5 : W.cell? ⟨w.heap.size, 5, none⟩ = some (.slice sA sl.length sc) := HB1.out.cell 5
  refine (ref_small cf.nodes _).mono ?_
  rintro e w2 ⟨rfl, hw⟩
  rw [hw]
  clear hw
  obtain ⟨s0, hs0⟩ : ∃ v, smallB cf.nodes = v := ⟨_, rfl⟩
  rw [hs0] at HMS ⊢
  clear hs0
  cases s0 with
  | false =>
    have HR : Hid (mt = false) := Lib.hid (by rw [HMS.out]; simp)
    go_wp2_with fail
    go_ret
    exact ⟨by rw [HMT.out, HR.out] <;> rfl, HE0.out⟩
  | true =>
  go_wp2_with fail
  refine (ref_small cf.len _).mono ?_
  rintro e w3 ⟨rfl, hw⟩
  rw [hw]
  clear hw
  obtain ⟨s1, hs1⟩ : ∃ v, smallB cf.len = v := ⟨_, rfl⟩
  rw [hs1] at HMS ⊢
  clear hs1
  cases s1 with
  | false =>
    have HR : Hid (mt = false) := Lib.hid (by rw [HMS.out]; simp)
    go_wp2_with fail
    go_ret
    exact ⟨by rw [HMT.out, HR.out] <;> rfl, HE0.out⟩
  | true =>
  go_wp2_with fail
  refine (ref_small cf.patience _).mono ?_
  rintro e w4 ⟨rfl, hw⟩
  rw [hw]
  clear hw
  obtain ⟨s2, hs2⟩ : ∃ v, smallB cf.patience = v := ⟨_, rfl⟩
  rw [hs2] at HMS ⊢
  clear hs2
  cases s2 with
  | false =>
    have HR : Hid (mt = false) := Lib.hid (by rw [HMS.out]; simp)
    go_wp2_with fail
    go_ret
    exact ⟨by rw [HMT.out, HR.out] <;> rfl, HE0.out⟩
  | true =>
  go_wp2_with fail
  refine (ref_small cf.cap _).mono ?_
  rintro e w5 ⟨rfl, hw⟩
  rw [hw]
  clear hw
  obtain ⟨s3, hs3⟩ : ∃ v, smallB cf.cap = v := ⟨_, rfl⟩
  rw [hs3] at HMS ⊢
  clear hs3
  cases s3 with
  | false =>
    have HR : Hid (mt = false) := Lib.hid (by rw [HMS.out]; simp)
    go_wp2_with fail
    go_ret
    exact ⟨by rw [HMT.out, HR.out] <;> rfl, HE0.out⟩
  | true =>
  by_cases h3 : (100 : Int) < (l.length : Int)
  · have HR : Hid (mt = false) := Lib.hid (by rw [HMS.out, decide_eq_false (by omega)]; simp)
    go_wp2_with fail
    go_ret
    exact ⟨by rw [HMT.out, HR.out] <;> rfl, HE0.out⟩
  by_cases h4 : (512 : Int) < (sl.length : Int)
  · have HR : Hid (mt = false) := Lib.hid (by rw [HMS.out, decide_eq_false (by omega)]; simp)
    go_wp2_with fail
    go_ret
    exact ⟨by rw [HMT.out, HR.out] <;> rfl, HE0.out⟩
  replace HMS : Hid (mt = (l.all smallB && sl.all mayS)) := Lib.hid (by rw [HMS.out, decide_eq_true ⟨by omega, by omega⟩]; simp)
  have HLN : Hid (l.length ≤ 100 ∧ sl.length ≤ 512) := Lib.hid ⟨by omega, by omega⟩
  go_wp2_with fail
  clear h3 h4 hc0 hc1 hc2 hc4 hc5
  go_loopw [4] (fun i wr => ∃ (k : Nat), k ≤ l.length ∧ i = .int .i64 k ∧ Hid (Ext w wr ∧ Ext W wr ∧ (l.take k).all smallB = true)) (fun i _ => l.length - (intOf i).toNat)
  case atStart => exact ⟨0, by omega, rfl, Lib.hid ⟨HE0.out, Ext.refl _, rfl⟩⟩
  case round =>
    obtain ⟨k, hk, rfl, HI⟩ := hrel
    have hc4 : wr.cell? ⟨w.heap.size, 4, none⟩ = some (.slice A l.length c) := (HB1.out.ext HI.out.2.1).cell 4
    by_cases hlt : k < l.length
    · obtain ⟨z, hz⟩ : ∃ z, l[k]? = some z := ⟨_, List.getElem?_eq_getElem hlt⟩
      have HZ := Lib.hid hz
      obtain ⟨b1, o1, rfl, hb1, hrow⟩ := Sl.row (size := 1) (fun _ => rfl) HV.out hz
      have hc : wr.cell? ⟨b1, o1 + k, none⟩ = some (.int .i64 z) := by have := hrow.below HI.out.1.below hb1 0 _ rfl; simpa using this
      have hki : (k : Int) < (l.length : Int) := by omega
      have hk9 : k < 100 := by have := HLN.out; omega
      clear hz hb1 hrow
      go_wp2_with fail
      refine (ref_small z _).mono ?_
      rintro e w2 ⟨rfl, hw⟩
      rw [hw]
      clear hw
      cases hs : smallB z with
      | true =>
        have HI2 : Hid (Ext w wr ∧ Ext W wr ∧ (l.take (k + 1)).all smallB = true) := Lib.hid ⟨HI.out.1, HI.out.2.1, by rw [take_snoc HZ.out, List.all_append, HI.out.2.2]; simp [hs]⟩
        clear hs
        go_wp2_with fail
        go_roundw
        case rel => exact ⟨k + 1, by omega, by go_num, HI2⟩
        case measure => simp [intOf]; omega
      | false =>
        have HR : Hid (mt = false) := Lib.hid (by rw [HMS.out, List.all_eq_false.2 ⟨z, List.mem_of_getElem? HZ.out, by rw [hs]; decide⟩]; rfl)
        clear hs
        go_wp2_with fail
        go_ret
        exact ⟨by rw [HMT.out, HR.out] <;> rfl, HI.out.1⟩
    · have hki : ¬ (k : Int) < (l.length : Int) := by omega
      have HM3 : Hid (mt = sl.all mayS) := Lib.hid (by have := HI.out.2.2; rw [show k = l.length by omega, List.take_length] at this; rw [HMS.out, this, Bool.true_and])
      go_wp2_with fail
      clear hc4
      go_loopw [5] (fun i W2 => ∃ (k : Nat), k ≤ sl.length ∧ i = .int .i64 k ∧ Hid (Ext w W2 ∧ Ext W W2 ∧ (sl.take k).all mayS = true)) (fun i _ => sl.length - (intOf i).toNat)
      case atStart => exact ⟨0, by omega, rfl, Lib.hid ⟨HI.out.1, HI.out.2.1, rfl⟩⟩
      case round =>
        obtain ⟨k, hk, rfl, HI⟩ := hrel
        have hc5 : wr.cell? ⟨w.heap.size, 5, none⟩ = some (.slice sA sl.length sc) := (HB1.out.ext HI.out.2.1).cell 5
        by_cases hlt : k < sl.length
        · obtain ⟨z, hz⟩ : ∃ z, sl[k]? = some z := ⟨_, List.getElem?_eq_getElem hlt⟩
          have HZ := Lib.hid hz
          obtain ⟨b1, o1, rfl, hb1, hrow⟩ := Sl.row (size := 5) (fun _ => rfl) HS.out hz
          have HRZ : Hid (RowAt wr b1 (o1 + k * 5) [.int .u8 z.op, .int .i64 z.id, .int .i64 z.arg, .int .i64 z.extra, .int .u64 z.draw]) := Lib.hid (hrow.below HI.out.1.below hb1)
          have hki : (k : Int) < (sl.length : Int) := by omega
          have hk9 : k < 512 := by have := HLN.out; omega
          have HOP : Hid (0 ≤ z.op) := Lib.hid (HW.out z (List.mem_of_getElem? hz))
          clear hz hb1 hrow
          go_wp2_with (first | ((with_reducible refine wpl_load 115 (.tmp 66) ?_ ?_ (b1) (o1 + k * 5) [.int .u8 z.op, .int .i64 z.id, .int .i64 z.arg, .int .i64 z.extra, .int .u64 z.draw] ?_ ?_ ?_ ?_); (exact rfl); (exact rfl); (exact rfl); (exact aggStep); (exact HRZ.out)) | fail)
          refine (ref_mayStep z _ HOP.out).mono ?_
          rintro e w3 ⟨rfl, hE3⟩
          have HE3 := Lib.hid hE3
          clear hE3 hc5
          cases hs : mayS z with
          | true =>
            have HI2 : Hid (Ext w w3 ∧ Ext W w3 ∧ (sl.take (k + 1)).all mayS = true) := Lib.hid ⟨HI.out.1.trans HE3.out, HI.out.2.1.trans HE3.out, by rw [take_snoc HZ.out, List.all_append, HI.out.2.2]; simp [hs]⟩
            clear hs
            go_wp2_with fail
            go_roundw
            case rel => exact ⟨k + 1, by omega, by go_num, HI2⟩
            case measure => simp [intOf]; omega
          | false =>
            have HR : Hid (mt = false) := Lib.hid (by rw [HM3.out, List.all_eq_false.2 ⟨z, List.mem_of_getElem? HZ.out, by rw [hs]; decide⟩])
            clear hs
            go_wp2_with fail
            go_ret
            exact ⟨by rw [HMT.out, HR.out] <;> rfl, HI.out.1.trans HE3.out⟩
        · have hki : ¬ (k : Int) < (sl.length : Int) := by omega
          have HR : Hid (mt = true) := Lib.hid (by have := HI.out.2.2; rw [show k = sl.length by omega, List.take_length] at this; rw [HM3.out, this])
          go_wp2_with fail
          go_ret
          exact ⟨by rw [HMT.out, HR.out] <;> rfl, HI.out.1⟩
theorem dec_small {u : Nat} (h : u < 10) : Lib.decDigits u = [UInt8.ofNat (48 + u)] := by rw [Lib.decDigits, dif_pos h]
theorem dec_big {u : Nat} (h : ¬ u < 10) : Lib.decDigits u = Lib.decDigits (u / 10) ++ [UInt8.ofNat (48 + u % 10)] := by rw [Lib.decDigits, dif_neg h]
/-- while digits are written -/
def NatI (u m : Nat) (out : List UInt8) : Prop := (m ≠ 0 ∧ Lib.decDigits u = Lib.decDigits m ++ out) ∨ (m = 0 ∧ out = Lib.decDigits u)
theorem NatI.next {u m : Nat} {out : List UInt8} (h : NatI u m out) (hm : m ≠ 0) : NatI u (m / 10) (UInt8.ofNat (48 + m % 10) :: out) := by
  rcases h with ⟨_, h⟩ | ⟨h, _⟩
  · by_cases h10 : m < 10
    · refine .inr ⟨by omega, ?_⟩
      rw [h, dec_small h10, show m % 10 = m by omega]; rfl
    · refine .inl ⟨by omega, ?_⟩
      rw [h, dec_big h10, List.append_assoc]; rfl
  · exact absurd h hm
theorem NatI.len {u m : Nat} {out : List UInt8} (h : NatI u m out) (hu : u < 18446744073709551616) : out.length ≤ 20 := by
  have h1 := Lib.nDigits_le20 u hu
  rw [← Lib.decDigits_length] at h1
  rcases h with ⟨_, h⟩ | ⟨_, h⟩
  · rw [h, List.length_append] at h1; omega
  · rw [h]; exact h1
set_option maxRecDepth 100000 in
set_option maxHeartbeats 2000000 in
theorem ref_Natural (u : Nat) (hu : u < 18446744073709551616) (w : World) :
    Calls Tryd.prog 123 #[.int .u64 u] w fun e w' => e = .returned (.string ⟨(Lib.decDigits u).toArray⟩) ∧ Ext w w' := by
  by_cases h0 : u = 0
  · subst h0
    have HR : Hid (Lib.decDigits 0 = [48]) := Lib.hid (dec_small (by decide))
    go_enter Tryd.func123, Tryd.ntmps123
    go_wp2_with fail
    go_ret
    exact ⟨by rw [HR.out] <;> rfl, Ext.refl _⟩
  have d0 : ((u : Int) == 0) = false := by rw [beq_eq_false_iff_ne]; omega
  have HU := Lib.hid hu
  have HI0 : Hid (NatI u u []) := Lib.hid (.inl ⟨h0, by rw [List.append_nil]⟩)
  clear hu h0
  go_enter Tryd.func123, Tryd.ntmps123
  go_wp2_with fail
  clear d0
  go_loopw [0, 3] (fun t s W => ∃ (m : Nat) (out : List UInt8), m < 18446744073709551616 ∧ t = .int .u64 m ∧ s = .string ⟨out.toArray⟩ ∧ Hid (NatI u m out ∧ Ext w W)) (fun t _ _ => (intOf t).toNat)
  case atStart => exact ⟨u, [], HU.out, rfl, rfl, Lib.hid ⟨HI0.out, Ext.refl _⟩⟩
  case round =>
    obtain ⟨m, out, hm, rfl, rfl, HI⟩ := hrel
    clear HI0
    by_cases hm0 : m = 0
    · have HR : Hid (out = Lib.decDigits u) := Lib.hid (by rcases HI.out.1 with h | h; exact absurd hm0 h.1; exact h.2)
      have d1 : ¬ ((0 : Int) < (m : Int)) := by omega
      clear hm0
      go_wp2_with fail
      go_ret
      exact ⟨by rw [HR.out] <;> rfl, HI.out.2⟩
    · have d1 : (0 : Int) < (m : Int) := by omega
      have HN : Hid (NatI u (m / 10) (UInt8.ofNat (48 + m % 10) :: out)) := Lib.hid (HI.out.1.next hm0)
      have HM0 := Lib.hid hm0
      obtain ⟨q, hq⟩ : ∃ q, m / 10 = q := ⟨_, rfl⟩
      obtain ⟨r, hr⟩ : ∃ r, m % 10 = r := ⟨_, rfl⟩
      have hqi : (m : Int) / 10 = (q : Int) := by omega
      have hri : (m : Int) % 10 = (r : Int) := by omega
      have hqi2 : (m : Int).tdiv 10 = (q : Int) := by rw [← hq]; exact (Int.ofNat_tdiv m 10).symm
      have hri2 : (m : Int).tmod 10 = (r : Int) := by rw [← hr]; exact (Int.ofNat_tmod m 10).symm
      have hr10 : r < 10 := by omega
      have hlt : q < m := by omega
      have hw1 : IntKind.u64.wrap (48 + (r : Int)) = 48 + (r : Int) := by rw [IntKind.wrap_u64]; omega
      have hw2 : IntKind.u8.wrap (48 + (r : Int)) = 48 + (r : Int) := by rw [IntKind.wrap_u8]; omega
      have HLL : Hid (out.length ≤ 20) := Lib.hid (HI.out.1.len HU.out)
      have hb : ((UInt8.ofNat (48 + r)).toNat : Int) = 48 + (r : Int) := by rw [UInt8.toNat_ofNat']; omega
      have hcv : (convert 105 9 (.slice (some ⟨wr.heap.size, 0, none⟩) 1 1)).run Tryd.prog (wr.alloc (.cells #[.int .u8 (48 + (r : Int))] 5)) = .ok (.string ⟨#[UInt8.ofNat (48 + r)]⟩) (wr.alloc (.cells #[.int .u8 (48 + (r : Int))] 5)) := by
        have h := run_convert_bytes_back (P := Tryd.prog) (wr.alloc (.cells #[.int .u8 (48 + (r : Int))] 5)) 105 9 5 ⟨wr.heap.size, 0, none⟩ 1 [UInt8.ofNat (48 + r)] Tryd.underlying105 Tryd.underlying5 Tryd.underlying9 (fun j hj => by
          have hj0 : j = 0 := by simpa using hj
          subst hj0
          rw [Lib.add_plain]
          have hB : Blk (wr.alloc (.cells #[.int .u8 (48 + (r : Int))] 5)) wr.heap.size 5 [.int .u8 (48 + (r : Int))] := Blk.new rfl
          rw [hB.cell (0 + 0), List.getElem_cons_zero, hb]; rfl)
        exact h
      have a1 : ∀ W, (Op.stringOp .add ⟨#[UInt8.ofNat (48 + r)]⟩ ⟨out.toArray⟩).run Tryd.prog W = .ok (.string ⟨(UInt8.ofNat (48 + r) :: out).toArray⟩) W := fun W => run_string_add_lists W [_] out (by simp) (by have := HLL.out; omega)
      rw [hq, hr] at HN
      obtain ⟨ch, hch⟩ : ∃ c, UInt8.ofNat (48 + r) = c := ⟨_, rfl⟩
      rw [hch] at hcv HN
      simp only [hch] at a1
      clear hq hr hb hm0 hch
      go_wp2_with fail
      go_roundw
      case rel => exact ⟨q, _, by omega, rfl, rfl, Lib.hid ⟨HN.out, HI.out.2.trans (Ext.alloc _ _)⟩⟩
      case measure => simp [intOf]; omega
set_option maxRecDepth 100000 in
set_option maxHeartbeats 2000000 in
theorem ref_Whole (n : Int) (hn : smallB n = true) (w : World) :
    Calls Tryd.prog 110 #[.int .i64 n] w fun e w' => e = .returned (.string ⟨(Lib.itoa n).toArray⟩) ∧ Ext w w' := by
  have hs := of_decide_eq_true hn
  by_cases h0 : n < 0
  · obtain ⟨u, rfl⟩ : ∃ u : Nat, n = -(u : Int) := ⟨n.natAbs, by omega⟩
    have HR : Hid (Lib.itoa (-(u : Int)) = 45 :: Lib.decDigits u) := Lib.hid (Lib.itoa_neg u (by omega))
    have hu : u < 18446744073709551616 := by omega
    have hw1 : IntKind.u64.wrap (u : Int) = (u : Int) := by rw [IntKind.wrap_u64]; omega
    have hw2 : IntKind.i64.wrap (u : Int) = (u : Int) := by rw [IntWalk.i64_in _ (by omega)]
    have a1 : ∀ W, (Op.stringOp .add ⟨#[45]⟩ ⟨(Lib.decDigits u).toArray⟩).run Tryd.prog W = .ok (.string ⟨(45 :: Lib.decDigits u).toArray⟩) W := fun W => run_string_add_lists W [45] _ (by simp) (by rw [Lib.decDigits_length]; have := Lib.nDigits_le20 u hu; omega)
    clear hs hn
    go_enter Tryd.func110, Tryd.ntmps110
    go_wp2_with (go_at_call 123; refine (ref_Natural u hu _).mono ?_; rintro e w2 ⟨rfl, hE2⟩)
    go_ret
    exact ⟨by rw [HR.out] <;> rfl, hE2⟩
  · obtain ⟨u, rfl⟩ : ∃ u : Nat, n = (u : Int) := ⟨n.toNat, by omega⟩
    have HR : Hid (Lib.itoa (u : Int) = Lib.decDigits u) := Lib.hid (Lib.itoa_nonneg u)
    have hu : u < 18446744073709551616 := by omega
    have hw1 : IntKind.u64.wrap (u : Int) = (u : Int) := by rw [IntKind.wrap_u64]; omega
    clear hs hn
    go_enter Tryd.func110, Tryd.ntmps110
    go_wp2_with (go_at_call 123; refine (ref_Natural u hu _).mono ?_; rintro e w2 ⟨rfl, hE2⟩)
    go_ret
    exact ⟨by rw [HR.out] <;> rfl, hE2⟩
set_option maxRecDepth 100000 in
set_option maxHeartbeats 2000000 in
theorem ref_name (k : Nat) (hk : k < 13) (w : World) :
    Calls Tryd.prog 142 #[.int .u8 k] w fun e w' => e = .returned (.string ⟨(nameL k).toArray⟩) ∧ Ext w w' := by
  have hB : Blk (w.alloc (.cells (namesL.flatMap encS).toArray 9)) w.heap.size 9 (namesL.flatMap encS) := Blk.new rfl
  have H1 : Hid ((namesL.flatMap encS)[k]? = some (.string ⟨(nameL k).toArray⟩)) := Lib.hid ((hB.cell k).symm.trans (names_cell hB hk))
  have hki : (k : Int) < 13 := by omega
  have hki2 : ¬ (13 : Int) ≤ (k : Int) := by omega
  have hw1 : IntKind.i64.wrap (k : Int) = (k : Int) := by rw [IntWalk.i64_in _ (by omega)]
  clear hB
  go_enter Tryd.func142, Tryd.ntmps142
  go_wp2_with fail
  go_ret
  exact ⟨congrArg Ending.returned (List.getElem?_eq_some_iff.1 H1.out).2, Ext.alloc _ _⟩
end Go.Proofs.YtgcbnagfdfgpnaaDoor
