/- The reference: whether meetings join all, and how often. -/
import Derived.Test.YtgcbnagfdfgpnaaDoorTellsAll39
import Derived.Test.YtgcbnagfdfgpnaaDoorTellsAll13
import Derived.Test.YtgcbnagfdfgpnaaDoorTellsAll37
namespace Go.Hx
open Go.RowKit
theorem seg_next {l : List PMeeting} {f k : Nat} {z : PMeeting} (h : l[k]? = some z) (hf : f ≤ k) : (l.take (k + 1)).drop f = (l.take k).drop f ++ [z] := by
  have hk := (List.getElem?_eq_some_iff.1 h).1
  rw [take_snoc h, List.drop_append_of_le_length (by simp; omega)]
theorem seg_fold {n : Nat} {l : List PMeeting} {f k : Nat} {z : PMeeting} (h : l[k]? = some z) (hf : f ≤ k) : foldJ (initJ n) ((l.take (k + 1)).drop f) = stepJ (foldJ (initJ n) ((l.take k).drop f)) z := by
  rw [seg_next h hf]
  unfold foldJ
  rw [List.foldl_append]; rfl
structure Rd30 (w wr : World) (n r f k T : Nat) (l : List PMeeting) : Prop where
  fk : f ≤ k
  rk : r ≤ k
  eq : (rfold n (r, foldJ (initJ n) ((l.take k).drop f)) (l.drop k)).1 = T
  ext : Ext w wr
end Go.Hx
namespace Go.Proofs.YtgcbnagfdfgpnaaDoor
open Go.RowKit Go.Hx
set_option maxRecDepth 100000 in
set_option maxHeartbeats 1000000 in
theorem ref30_Joins (n : Int) (m : LX PMeeting) (w : World) (hm : m.ok w w.heap.size PMeeting.cells) :
    Calls Tryd.prog 21 #[.int .i64 n, .slice m.A m.l.length m.c] w fun e w' => e = .returned (.tuple #[.bool (joinsP n m.l).1, .int .i64 (joinsP n m.l).2]) ∧ Ext w w' := by
  have HM := Lib.hid hm
  by_cases h0 : askedP n m.l = 0
  · obtain ⟨h2, h8, hl64, hall⟩ := asked_ok h0
    obtain ⟨N, rfl⟩ : ∃ N : Nat, n = (N : Int) := ⟨n.toNat, by omega⟩
    have HN : Hid (1 ≤ N ∧ N ≤ 8) := Lib.hid ⟨by omega, by omega⟩
    have HR : Hid (joinsP N m.l = (allP N m.l, 0)) := Lib.hid (by
      unfold joinsP
      rw [if_pos h0, Int.toNat_natCast]
      congr 1
      rw [Bool.eq_iff_iff, decide_eq_true_iff]
      exact (allP_iff (by omega) hall).symm)
    have HALL := Lib.hid hall
    have HA := Lib.hid h0
    clear h0 hall h2 h8 hm hl64
    rw [HR.out]
    go_enter Tryd.func21, Tryd.ntmps21
    go_wp2_with fail
    refine (ref30_asked N m _ HM.out).mono ?_
    rw [HA.out]
    rintro e w1 ⟨rfl, hE1⟩
    have HE1 := Lib.hid hE1
    clear hE1
    go_wp2_with fail
    refine (ref30_All N m _ (HM.out.ext HE1.out) HN.out.1 HN.out.2 HALL.out).mono ?_
    rintro e w2 ⟨rfl, hE2⟩
    have HE2 := Lib.hid (HE1.out.trans hE2)
    clear hE2
    go_wp2_with fail
    go_ret2
    exact ⟨rfl, HE2.out⟩
  · have HV : Hid (joinsP n m.l = (false, askedP n m.l)) := Lib.hid (by unfold joinsP; rw [if_neg h0])
    obtain ⟨v, hv⟩ : ∃ v, askedP n m.l = v := ⟨_, rfl⟩
    rw [hv] at HV h0
    have HVV := Lib.hid hv
    have d0 : (v != 0) = true := by simpa using h0
    rw [HV.out]
    clear h0 hm hv
    go_enter Tryd.func21, Tryd.ntmps21
    go_wp2_with fail
    refine (ref30_asked n m _ HM.out).mono ?_
    rw [HVV.out]
    rintro e w1 ⟨rfl, hE1⟩
    go_wp2_with fail
    go_ret2
    exact ⟨rfl, hE1⟩
set_option maxRecDepth 100000 in
set_option maxHeartbeats 1000000 in
theorem ref30_Rounds (n : Int) (m : LX PMeeting) (w : World) (hm : m.ok w w.heap.size PMeeting.cells) :
    Calls Tryd.prog 22 #[.int .i64 n, .slice m.A m.l.length m.c] w fun e w' => e = .returned (.tuple #[.int .i64 (roundsP n m.l).1, .int .i64 (roundsP n m.l).2]) ∧ Ext w w' := by
  have HM := Lib.hid hm
  by_cases h0 : askedP n m.l = 0
  · obtain ⟨h2, h8, hl64, hall⟩ := asked_ok h0
    obtain ⟨N, rfl⟩ : ∃ N : Nat, n = (N : Int) := ⟨n.toNat, by omega⟩
    have HN : Hid (1 ≤ N ∧ N ≤ 8) := Lib.hid ⟨by omega, by omega⟩
    obtain ⟨T, hT⟩ : ∃ T, (rfold N (0, initJ N) m.l).1 = T := ⟨_, rfl⟩
    have HT := Lib.hid hT
    have HALL := Lib.hid hall
    have HA := Lib.hid h0
    have HR : Hid (roundsP N m.l = ((T : Int), 0)) := Lib.hid (by unfold roundsP; rw [if_pos h0, Int.toNat_natCast, hT])
    clear h0 hall h2 h8 hT hm
    rw [HR.out]
    go_enter Tryd.func22, Tryd.ntmps22
    go_wp2_with fail
    refine (ref30_asked N m _ HM.out).mono ?_
    rw [HA.out]
    rintro e w1 ⟨rfl, hE1⟩
    have HI0 : Hid (Rd30 w w1 N 0 0 0 T m.l) := Lib.hid ⟨Nat.le_refl _, Nat.le_refl _, HT.out, hE1⟩
    obtain ⟨l, A, c⟩ := m
    dsimp only at *
    have hx2 := HM.out.2.2
    have hx1 := HM.out.2.1
    dsimp only at hx1 hx2
    unfold maxLen at hx2
    clear hE1
    go_wp2_with fail
    go_loopw [7, 8, 9] (fun rs fs i wr => ∃ r f k : Nat, k ≤ l.length ∧ rs = .int .i64 r ∧ fs = .int .i64 f ∧ i = .int .i64 k ∧ Hid (Rd30 w wr N r f k T l)) (fun _ _ i _ => l.length - (intOf i).toNat)
    case atStart => exact ⟨0, 0, 0, by omega, rfl, rfl, rfl, HI0⟩
    case round =>
      obtain ⟨r, f, k, hk, rfl, rfl, rfl, HI⟩ := hrel
      clear HI0
      by_cases hlt : k < l.length
      · obtain ⟨z, hz⟩ : ∃ z, l[k]? = some z := ⟨_, List.getElem?_eq_getElem hlt⟩
        have hfk := HI.out.fk
        have hrk := HI.out.rk
        obtain ⟨b1, o1, rfl, hb1, hrow⟩ : ∃ b o, A = some ⟨b, o, none⟩ ∧ b < w.heap.size ∧ RowAt w b o (l.flatMap PMeeting.cells) := by
          rcases HM.out.1 with h | h
          · dsimp only at h; rw [h] at hlt; exact absurd hlt (by simp)
          · exact h
        have HSG : Hid ((⟨(l.take (k + 1)).drop f, some ⟨b1, o1 + f * 2, none⟩, c - f⟩ : LX PMeeting).ok wr wr.heap.size PMeeting.cells) := Lib.hid (LX.ok.ext (w := w) ⟨Sl.part (size := 2) (fun _ => rfl) hb1 hrow f (k + 1), by simp; omega, by show c - f ≤ maxLen; unfold maxLen; omega⟩ HI.out.ext)
        have hlen : ((l.take (k + 1)).drop f).length = k + 1 - f := by simp; omega
        have HLN := Lib.hid hlen
        have hki : (k : Int) < (l.length : Int) := by omega
        have hcf : ¬ c = f := by omega
        have hw1 : IntKind.i64.wrap ((k : Int) + 1) = ((k + 1 : Nat) : Int) := by rw [IntWalk.i64_in _ (by omega)]; omega
        have hw2 : IntKind.i64.wrap ((r : Int) + 1) = ((r + 1 : Nat) : Int) := by rw [IntWalk.i64_in _ (by omega)]; omega
        have HZ := Lib.hid hz
        have HSF : Hid (allP N ((l.take (k + 1)).drop f) = decide ((stepJ (foldJ (initJ N) ((l.take k).drop f)) z).cnt = 1)) := Lib.hid (by
          rw [Bool.eq_iff_iff, decide_eq_true_iff, ← seg_fold hz hfk]
          exact allP_iff (by have := HN.out.1; omega) fun x hx => HALL.out x (List.mem_of_mem_take (List.mem_of_mem_drop hx)))
        clear hz hlen hb1 hrow
        go_wp2_with fail
        have hcall := ref30_All N ⟨(l.take (k + 1)).drop f, some ⟨b1, o1 + f * 2, none⟩, c - f⟩ wr HSG.out HN.out.1 HN.out.2 fun x hx => HALL.out x (List.mem_of_mem_take (List.mem_of_mem_drop hx))
        dsimp only at hcall
        rw [HLN.out, HSF.out] at hcall
        refine hcall.mono ?_
        rintro e w2 ⟨rfl, hE2⟩
        have HE2 := Lib.hid (HI.out.ext.trans hE2)
        clear hE2 hcall
        by_cases hc1 : (stepJ (foldJ (initJ N) ((l.take k).drop f)) z).cnt = 1
        · have HI2 : Hid (Rd30 w w2 N (r + 1) (k + 1) (k + 1) T l) := Lib.hid ⟨Nat.le_refl _, by omega, by
            rw [List.drop_eq_nil_of_le (by simp; omega)]
            show (rfold N (r + 1, initJ N) _).1 = T
            rw [← rfold_hit HZ.out hc1]
            exact HI.out.eq, HE2.out⟩
          rw [decide_eq_true hc1]
          clear hc1
          go_wp2_with fail
          go_roundw
          case rel => exact ⟨r + 1, k + 1, k + 1, by omega, by go_num, by go_num, by go_num, HI2⟩
          case measure => simp [intOf]; omega
        · have HI2 : Hid (Rd30 w w2 N r f (k + 1) T l) := Lib.hid ⟨by omega, by omega, by
            rw [seg_fold HZ.out hfk, ← rfold_miss HZ.out hc1]
            exact HI.out.eq, HE2.out⟩
          rw [decide_eq_false hc1]
          clear hc1
          go_wp2_with fail
          go_roundw
          case rel => exact ⟨r, f, k + 1, by omega, rfl, rfl, by go_num, HI2⟩
          case measure => simp [intOf]; omega
      · have hkl : k = l.length := by omega
        have HTr : Hid (T = r) := Lib.hid (by have := HI.out.eq; rw [hkl, List.drop_length] at this; exact this.symm)
        have hki : ¬ (k : Int) < (l.length : Int) := by omega
        clear hkl
        go_wp2_with fail
        go_ret2
        exact ⟨by rw [HTr.out] <;> rfl, HI.out.ext⟩
  · have HV : Hid (roundsP n m.l = (0, askedP n m.l)) := Lib.hid (by unfold roundsP; rw [if_neg h0])
    obtain ⟨v, hv⟩ : ∃ v, askedP n m.l = v := ⟨_, rfl⟩
    rw [hv] at HV h0
    have HVV := Lib.hid hv
    have d0 : (v != 0) = true := by simpa using h0
    rw [HV.out]
    clear h0 hm hv
    go_enter Tryd.func22, Tryd.ntmps22
    go_wp2_with fail
    refine (ref30_asked n m _ HM.out).mono ?_
    rw [HVV.out]
    rintro e w1 ⟨rfl, hE1⟩
    go_wp2_with fail
    go_ret2
    exact ⟨rfl, hE1⟩
end Go.Proofs.YtgcbnagfdfgpnaaDoor
