/- The reference's numbers, read. Printed by gen_refwc.py. -/
import Derived.Test.YtgcbnagfdfgpnaaDoorWordsAll27
import Derived.Test.YtgcbnagfdfgpnaaDoorWordsAll33
namespace Go.Hx
open Go.RowKit
theorem dig4_len {k : Nat} (h : k < 1025) : 1 ≤ (dig4 k).length ∧ (dig4 k).length ≤ 4 := by
  have := dig4_all ⟨k, h⟩
  exact ⟨this.2.2.2.1, this.2.2.1⟩
theorem dig4_digit {k : Nat} (h : k < 1025) : ∀ c ∈ dig4 k, 48 ≤ c.toNat ∧ c.toNat ≤ 57 ∧ c ≠ 47 := fun c hc => by
  have := List.all_eq_true.1 (dig4_all ⟨k, h⟩).2.1 c hc
  simp only [Bool.and_eq_true, bne_iff_ne, ne_eq, decide_eq_true_eq] at this
  exact ⟨this.1.2, this.2, this.1.1⟩
theorem dig4_val {k : Nat} (h : k < 1025) : decV (dig4 k) = k := (dig4_all ⟨k, h⟩).2.2.2.2.1
theorem dig4_lead {k : Nat} (h : k < 1025) (h1 : 1 < (dig4 k).length) : (dig4 k).head? ≠ some 48 := by
  refine (dig4_all ⟨k, h⟩).2.2.2.2.2 ?_
  rcases Nat.eq_zero_or_pos k with h0 | h0
  · subst h0; exact absurd h1 (by decide)
  · exact h0
theorem decV_snoc (l : List UInt8) (c : UInt8) : decV (l ++ [c]) = 10 * decV l + (c.toNat - 48) := by unfold decV; rw [List.foldl_append]; rfl
end Go.Hx
namespace Go.Proofs.YtgcbnagfdfgpnaaDoor
open Go.RowKit Go.Hx
set_option linter.unusedVariables false
set_option linter.unusedSimpArgs false
/-- what is read of a text -/
def NatR (s : List UInt8) (e : Ending) : Prop := ∃ (n : Nat) (b : Bool), e = .returned (.tuple #[.int .u64 (n : Int), .bool b]) ∧ n < 18446744073709551616 ∧ ∀ k, k < 1025 → s = dig4 k → n = k ∧ b = true
structure NtI (s : List UInt8) (i n : Nat) : Prop where
  small : s.length ≤ 4 → n = decV (s.take i) ∧ n < 10 ^ i
set_option maxRecDepth 100000 in
set_option maxHeartbeats 600000 in
theorem ref_natural (s : List UInt8) (hs : s.length ≤ 2000) (w : World) :
    Calls Tryd.prog 130 #[.string ⟨s.toArray⟩] w fun e w' => NatR s e ∧ w' = w := by
  have hsz : ((ByteArray.mk s.toArray).size : Int) = (s.length : Int) := rfl
  have HS := Lib.hid hs
  by_cases h0 : s.length < 1
  · have HNO : Hid (∀ k, k < 1025 → s ≠ dig4 k) := Lib.hid fun k hk h => by have := dig4_len hk; rw [← h] at this; omega
    have e0 : (s.length : Int) = 0 := by omega
    go_enter Tryd.func130, Tryd.ntmps130
    go_wp2_with fail
    go_ret2
    exact ⟨⟨0, false, rfl, by omega, fun k hk h => absurd h (HNO.out k hk)⟩, rfl⟩
  by_cases h20 : 20 < s.length
  · have HNO : Hid (∀ k, k < 1025 → s ≠ dig4 k) := Lib.hid fun k hk h => by have := dig4_len hk; rw [← h] at this; omega
    have e0 : ¬ (s.length : Int) < 1 := by omega
    have e1 : (20 : Int) < (s.length : Int) := by omega
    go_enter Tryd.func130, Tryd.ntmps130
    go_wp2_with fail
    go_ret2
    exact ⟨⟨0, false, rfl, by omega, fun k hk h => absurd h (HNO.out k hk)⟩, rfl⟩
  have hpos : 0 < s.length := by omega
  obtain ⟨c0, hz0⟩ : ∃ c, s[0]? = some c := ⟨_, List.getElem?_eq_getElem hpos⟩
  have hat0 : ∀ W, (Instr.index 9 (.string ⟨s.toArray⟩) (.int .i64 0)).run Tryd.prog W = .ok (.int .u8 (c0.toNat : Int)) W := fun W => run_at s 0 c0 hz0 W
  have e0 : ¬ (s.length : Int) < 1 := by omega
  have e1 : ¬ (20 : Int) < (s.length : Int) := by omega
  have HZ0 : Hid (c0.toNat = 48 → s.head? = some 48) := Lib.hid fun h => by
    rw [List.head?_eq_getElem?, hz0]
    exact congrArg some (UInt8.toNat_inj.1 (h.trans (by decide)))
  clear hz0
  by_cases he20 : s.length = 20
  · have e2 : (s.length : Int) = 20 := by omega
    have e3 : (1 : Int) < (s.length : Int) := by omega
    obtain ⟨q1, hq1⟩ : ∃ q, Op.bytesLess s [49, 56, 52, 52, 54, 55, 52, 52, 48, 55, 51, 55, 48, 57, 53, 53, 49, 54, 49, 53] = q := ⟨_, rfl⟩
    obtain ⟨q2, hq2⟩ : ∃ q, (s == [49, 56, 52, 52, 54, 55, 52, 52, 48, 55, 51, 55, 48, 57, 53, 53, 49, 54, 49, 53]) = q := ⟨_, rfl⟩
    cases q1 with
    | true =>
      by_cases hc48 : c0.toNat = 48
      · have HNO : Hid (∀ k, k < 1025 → s ≠ dig4 k) := Lib.hid fun k hk h => by
          have h1 := dig4_lead hk (by rw [← h]; omega)
          rw [← h] at h1
          exact h1 (HZ0.out hc48)
        have hc48i : (c0.toNat : Int) = 48 := by omega
        clear hc48
        generalize c0.toNat = b0 at *
        go_enter Tryd.func130, Tryd.ntmps130
        go_wp2_with fail
        go_ret2
        exact ⟨⟨0, false, rfl, by omega, fun k hk h => absurd h (HNO.out k hk)⟩, rfl⟩
      · have hc48i : ¬ (c0.toNat : Int) = 48 := by omega
        clear hc48 HZ0
        generalize c0.toNat = b0 at *
        go_enter Tryd.func130, Tryd.ntmps130
        go_wp2_with fail
        go_loop [4, 5] (fun n i => ∃ (k m : Nat), k ≤ s.length ∧ i = .int .i64 k ∧ n = .int .u64 m ∧ m < 18446744073709551616 ∧ Hid (NtI s k m)) (fun _ i => s.length - (intOf i).toNat)
        case atStart => exact ⟨0, 0, by omega, rfl, rfl, by omega, Lib.hid ⟨fun _ => ⟨rfl, by decide⟩⟩⟩
        case round =>
          obtain ⟨k, m, hk, rfl, rfl, hm, HI⟩ := hrel
          by_cases hkl : k < s.length
          · have hki : (k : Int) < (s.length : Int) := by omega
            obtain ⟨c, hz⟩ : ∃ c, s[k]? = some c := ⟨_, List.getElem?_eq_getElem hkl⟩
            have hat : ∀ W, (Instr.index 9 (.string ⟨s.toArray⟩) (.int .i64 (k : Int))).run Tryd.prog W = .ok (.int .u8 (c.toNat : Int)) W := fun W => run_at s k c hz W
            have HZ := Lib.hid hz
            have hc256 := c.toNat_lt
            have HCM : Hid (c ∈ s) := Lib.hid (List.mem_of_getElem? hz)
            have HCB : Hid (∀ k, k < 1025 → s = dig4 k → 48 ≤ c.toNat ∧ c.toNat ≤ 57) := Lib.hid fun k hk h => by have := dig4_digit hk c (by rw [← h]; exact HCM.out); exact ⟨this.1, this.2.1⟩
            have HNX : Hid (∀ m2, (m < 1000 → m2 = 10 * m + (c.toNat - 48)) → c.toNat ≤ 57 → NtI s (k + 1) m2) := Lib.hid fun m2 h h57 => ⟨fun h4 => by
              obtain ⟨h1, h2⟩ := HI.out.small h4
              have h3 : (10 : Nat) ^ k ≤ 10 ^ 3 := Nat.pow_le_pow_right (by omega) (by omega)
              have h5 := h (by omega)
              rw [take_snoc HZ.out, decV_snoc, ← h1, Nat.pow_succ]
              exact ⟨h5, by omega⟩⟩
            clear hz
            generalize c.toNat = b at *
            by_cases h48 : b < 48
            · have HNO : Hid (∀ k, k < 1025 → s ≠ dig4 k) := Lib.hid fun k hk h => by have := HCB.out k hk h; omega
              have h48i : (b : Int) < 48 := by omega
              go_wp2_with fail
              go_ret2
              exact ⟨⟨0, false, rfl, by omega, fun k hk h => absurd h (HNO.out k hk)⟩, rfl⟩
            · have h48i : ¬ (b : Int) < 48 := by omega
              by_cases h57 : 57 < b
              · have HNO : Hid (∀ k, k < 1025 → s ≠ dig4 k) := Lib.hid fun k hk h => by have := HCB.out k hk h; omega
                have h57i : (57 : Int) < (b : Int) := by omega
                go_wp2_with fail
                go_ret2
                exact ⟨⟨0, false, rfl, by omega, fun k hk h => absurd h (HNO.out k hk)⟩, rfl⟩
              · have h57i : ¬ (57 : Int) < (b : Int) := by omega
                obtain ⟨d, hd⟩ : ∃ d, b - 48 = d := ⟨_, rfl⟩
                have ed : (b : Int) - 48 = (d : Int) := by omega
                have hd9 : (d : Int) ≤ 9 := by omega
                obtain ⟨m1, hm1⟩ : ∃ m1 : Nat, 10 * m % 18446744073709551616 = m1 := ⟨_, rfl⟩
                have hw1 : IntKind.u64.wrap (10 * (m : Int)) = (m1 : Int) := by rw [IntKind.wrap_u64]; omega
                have hm1l : m1 < 18446744073709551616 := by omega
                obtain ⟨m2, hm2⟩ : ∃ m2 : Nat, (m1 + d) % 18446744073709551616 = m2 := ⟨_, rfl⟩
                have hw2 : IntKind.u64.wrap ((m1 : Int) + (d : Int)) = (m2 : Int) := by rw [IntKind.wrap_u64]; omega
                have HM2 : Hid (m2 < 18446744073709551616) := Lib.hid (by omega)
                have HNI : Hid (NtI s (k + 1) m2) := Lib.hid (HNX.out m2 (fun h => by omega) (by omega))
                clear hm1 hm2 hd HNX HCB
                go_wp2_with fail
                go_round
                case rel => exact ⟨k + 1, m2, by omega, by go_num, by first | rfl | (congr 1), HM2.out, HNI⟩
                case measure => simp [intOf]; omega
          · have hki : ¬ (k : Int) < (s.length : Int) := by omega
            have HR : Hid (∀ j, j < 1025 → s = dig4 j → m = j) := Lib.hid fun j hj h => by
              have h1 := dig4_len hj
              have h2 := (HI.out.small (by rw [h]; exact h1.2)).1
              rw [List.take_of_length_le (by omega), h, dig4_val hj] at h2
              exact h2
            have HM := Lib.hid hm
            go_wp2_with fail
            go_ret2
            exact ⟨⟨m, true, rfl, HM.out, fun j hj h => ⟨HR.out j hj h, rfl⟩⟩, rfl⟩
    | false =>
      cases q2 with
      | true =>
        by_cases hc48 : c0.toNat = 48
        · have HNO : Hid (∀ k, k < 1025 → s ≠ dig4 k) := Lib.hid fun k hk h => by
            have h1 := dig4_lead hk (by rw [← h]; omega)
            rw [← h] at h1
            exact h1 (HZ0.out hc48)
          have hc48i : (c0.toNat : Int) = 48 := by omega
          clear hc48
          generalize c0.toNat = b0 at *
          go_enter Tryd.func130, Tryd.ntmps130
          go_wp2_with fail
          go_ret2
          exact ⟨⟨0, false, rfl, by omega, fun k hk h => absurd h (HNO.out k hk)⟩, rfl⟩
        · have hc48i : ¬ (c0.toNat : Int) = 48 := by omega
          clear hc48 HZ0
          generalize c0.toNat = b0 at *
          go_enter Tryd.func130, Tryd.ntmps130
          go_wp2_with fail
          go_loop [4, 5] (fun n i => ∃ (k m : Nat), k ≤ s.length ∧ i = .int .i64 k ∧ n = .int .u64 m ∧ m < 18446744073709551616 ∧ Hid (NtI s k m)) (fun _ i => s.length - (intOf i).toNat)
          case atStart => exact ⟨0, 0, by omega, rfl, rfl, by omega, Lib.hid ⟨fun _ => ⟨rfl, by decide⟩⟩⟩
          case round =>
            obtain ⟨k, m, hk, rfl, rfl, hm, HI⟩ := hrel
            by_cases hkl : k < s.length
            · have hki : (k : Int) < (s.length : Int) := by omega
              obtain ⟨c, hz⟩ : ∃ c, s[k]? = some c := ⟨_, List.getElem?_eq_getElem hkl⟩
              have hat : ∀ W, (Instr.index 9 (.string ⟨s.toArray⟩) (.int .i64 (k : Int))).run Tryd.prog W = .ok (.int .u8 (c.toNat : Int)) W := fun W => run_at s k c hz W
              have HZ := Lib.hid hz
              have hc256 := c.toNat_lt
              have HCM : Hid (c ∈ s) := Lib.hid (List.mem_of_getElem? hz)
              have HCB : Hid (∀ k, k < 1025 → s = dig4 k → 48 ≤ c.toNat ∧ c.toNat ≤ 57) := Lib.hid fun k hk h => by have := dig4_digit hk c (by rw [← h]; exact HCM.out); exact ⟨this.1, this.2.1⟩
              have HNX : Hid (∀ m2, (m < 1000 → m2 = 10 * m + (c.toNat - 48)) → c.toNat ≤ 57 → NtI s (k + 1) m2) := Lib.hid fun m2 h h57 => ⟨fun h4 => by
                obtain ⟨h1, h2⟩ := HI.out.small h4
                have h3 : (10 : Nat) ^ k ≤ 10 ^ 3 := Nat.pow_le_pow_right (by omega) (by omega)
                have h5 := h (by omega)
                rw [take_snoc HZ.out, decV_snoc, ← h1, Nat.pow_succ]
                exact ⟨h5, by omega⟩⟩
              clear hz
              generalize c.toNat = b at *
              by_cases h48 : b < 48
              · have HNO : Hid (∀ k, k < 1025 → s ≠ dig4 k) := Lib.hid fun k hk h => by have := HCB.out k hk h; omega
                have h48i : (b : Int) < 48 := by omega
                go_wp2_with fail
                go_ret2
                exact ⟨⟨0, false, rfl, by omega, fun k hk h => absurd h (HNO.out k hk)⟩, rfl⟩
              · have h48i : ¬ (b : Int) < 48 := by omega
                by_cases h57 : 57 < b
                · have HNO : Hid (∀ k, k < 1025 → s ≠ dig4 k) := Lib.hid fun k hk h => by have := HCB.out k hk h; omega
                  have h57i : (57 : Int) < (b : Int) := by omega
                  go_wp2_with fail
                  go_ret2
                  exact ⟨⟨0, false, rfl, by omega, fun k hk h => absurd h (HNO.out k hk)⟩, rfl⟩
                · have h57i : ¬ (57 : Int) < (b : Int) := by omega
                  obtain ⟨d, hd⟩ : ∃ d, b - 48 = d := ⟨_, rfl⟩
                  have ed : (b : Int) - 48 = (d : Int) := by omega
                  have hd9 : (d : Int) ≤ 9 := by omega
                  obtain ⟨m1, hm1⟩ : ∃ m1 : Nat, 10 * m % 18446744073709551616 = m1 := ⟨_, rfl⟩
                  have hw1 : IntKind.u64.wrap (10 * (m : Int)) = (m1 : Int) := by rw [IntKind.wrap_u64]; omega
                  have hm1l : m1 < 18446744073709551616 := by omega
                  obtain ⟨m2, hm2⟩ : ∃ m2 : Nat, (m1 + d) % 18446744073709551616 = m2 := ⟨_, rfl⟩
                  have hw2 : IntKind.u64.wrap ((m1 : Int) + (d : Int)) = (m2 : Int) := by rw [IntKind.wrap_u64]; omega
                  have HM2 : Hid (m2 < 18446744073709551616) := Lib.hid (by omega)
                  have HNI : Hid (NtI s (k + 1) m2) := Lib.hid (HNX.out m2 (fun h => by omega) (by omega))
                  clear hm1 hm2 hd HNX HCB
                  go_wp2_with fail
                  go_round
                  case rel => exact ⟨k + 1, m2, by omega, by go_num, by first | rfl | (congr 1), HM2.out, HNI⟩
                  case measure => simp [intOf]; omega
            · have hki : ¬ (k : Int) < (s.length : Int) := by omega
              have HR : Hid (∀ j, j < 1025 → s = dig4 j → m = j) := Lib.hid fun j hj h => by
                have h1 := dig4_len hj
                have h2 := (HI.out.small (by rw [h]; exact h1.2)).1
                rw [List.take_of_length_le (by omega), h, dig4_val hj] at h2
                exact h2
              have HM := Lib.hid hm
              go_wp2_with fail
              go_ret2
              exact ⟨⟨m, true, rfl, HM.out, fun j hj h => ⟨HR.out j hj h, rfl⟩⟩, rfl⟩
      | false =>
        have HNO : Hid (∀ k, k < 1025 → s ≠ dig4 k) := Lib.hid fun k hk h => by have := dig4_len hk; rw [← h] at this; omega
        go_enter Tryd.func130, Tryd.ntmps130
        go_wp2_with fail
        go_ret2
        exact ⟨⟨0, false, rfl, by omega, fun k hk h => absurd h (HNO.out k hk)⟩, rfl⟩
  · have e2 : ¬ (s.length : Int) = 20 := by omega
    by_cases hl1 : 1 < s.length
    · have e3 : (1 : Int) < (s.length : Int) := by omega
      by_cases hc48 : c0.toNat = 48
      · have HNO : Hid (∀ k, k < 1025 → s ≠ dig4 k) := Lib.hid fun k hk h => by
          have h1 := dig4_lead hk (by rw [← h]; omega)
          rw [← h] at h1
          exact h1 (HZ0.out hc48)
        have hc48i : (c0.toNat : Int) = 48 := by omega
        clear hc48
        generalize c0.toNat = b0 at *
        go_enter Tryd.func130, Tryd.ntmps130
        go_wp2_with fail
        go_ret2
        exact ⟨⟨0, false, rfl, by omega, fun k hk h => absurd h (HNO.out k hk)⟩, rfl⟩
      · have hc48i : ¬ (c0.toNat : Int) = 48 := by omega
        clear hc48 HZ0
        generalize c0.toNat = b0 at *
        go_enter Tryd.func130, Tryd.ntmps130
        go_wp2_with fail
        go_loop [4, 5] (fun n i => ∃ (k m : Nat), k ≤ s.length ∧ i = .int .i64 k ∧ n = .int .u64 m ∧ m < 18446744073709551616 ∧ Hid (NtI s k m)) (fun _ i => s.length - (intOf i).toNat)
        case atStart => exact ⟨0, 0, by omega, rfl, rfl, by omega, Lib.hid ⟨fun _ => ⟨rfl, by decide⟩⟩⟩
        case round =>
          obtain ⟨k, m, hk, rfl, rfl, hm, HI⟩ := hrel
          by_cases hkl : k < s.length
          · have hki : (k : Int) < (s.length : Int) := by omega
            obtain ⟨c, hz⟩ : ∃ c, s[k]? = some c := ⟨_, List.getElem?_eq_getElem hkl⟩
            have hat : ∀ W, (Instr.index 9 (.string ⟨s.toArray⟩) (.int .i64 (k : Int))).run Tryd.prog W = .ok (.int .u8 (c.toNat : Int)) W := fun W => run_at s k c hz W
            have HZ := Lib.hid hz
            have hc256 := c.toNat_lt
            have HCM : Hid (c ∈ s) := Lib.hid (List.mem_of_getElem? hz)
            have HCB : Hid (∀ k, k < 1025 → s = dig4 k → 48 ≤ c.toNat ∧ c.toNat ≤ 57) := Lib.hid fun k hk h => by have := dig4_digit hk c (by rw [← h]; exact HCM.out); exact ⟨this.1, this.2.1⟩
            have HNX : Hid (∀ m2, (m < 1000 → m2 = 10 * m + (c.toNat - 48)) → c.toNat ≤ 57 → NtI s (k + 1) m2) := Lib.hid fun m2 h h57 => ⟨fun h4 => by
              obtain ⟨h1, h2⟩ := HI.out.small h4
              have h3 : (10 : Nat) ^ k ≤ 10 ^ 3 := Nat.pow_le_pow_right (by omega) (by omega)
              have h5 := h (by omega)
              rw [take_snoc HZ.out, decV_snoc, ← h1, Nat.pow_succ]
              exact ⟨h5, by omega⟩⟩
            clear hz
            generalize c.toNat = b at *
            by_cases h48 : b < 48
            · have HNO : Hid (∀ k, k < 1025 → s ≠ dig4 k) := Lib.hid fun k hk h => by have := HCB.out k hk h; omega
              have h48i : (b : Int) < 48 := by omega
              go_wp2_with fail
              go_ret2
              exact ⟨⟨0, false, rfl, by omega, fun k hk h => absurd h (HNO.out k hk)⟩, rfl⟩
            · have h48i : ¬ (b : Int) < 48 := by omega
              by_cases h57 : 57 < b
              · have HNO : Hid (∀ k, k < 1025 → s ≠ dig4 k) := Lib.hid fun k hk h => by have := HCB.out k hk h; omega
                have h57i : (57 : Int) < (b : Int) := by omega
                go_wp2_with fail
                go_ret2
                exact ⟨⟨0, false, rfl, by omega, fun k hk h => absurd h (HNO.out k hk)⟩, rfl⟩
              · have h57i : ¬ (57 : Int) < (b : Int) := by omega
                obtain ⟨d, hd⟩ : ∃ d, b - 48 = d := ⟨_, rfl⟩
                have ed : (b : Int) - 48 = (d : Int) := by omega
                have hd9 : (d : Int) ≤ 9 := by omega
                obtain ⟨m1, hm1⟩ : ∃ m1 : Nat, 10 * m % 18446744073709551616 = m1 := ⟨_, rfl⟩
                have hw1 : IntKind.u64.wrap (10 * (m : Int)) = (m1 : Int) := by rw [IntKind.wrap_u64]; omega
                have hm1l : m1 < 18446744073709551616 := by omega
                obtain ⟨m2, hm2⟩ : ∃ m2 : Nat, (m1 + d) % 18446744073709551616 = m2 := ⟨_, rfl⟩
                have hw2 : IntKind.u64.wrap ((m1 : Int) + (d : Int)) = (m2 : Int) := by rw [IntKind.wrap_u64]; omega
                have HM2 : Hid (m2 < 18446744073709551616) := Lib.hid (by omega)
                have HNI : Hid (NtI s (k + 1) m2) := Lib.hid (HNX.out m2 (fun h => by omega) (by omega))
                clear hm1 hm2 hd HNX HCB
                go_wp2_with fail
                go_round
                case rel => exact ⟨k + 1, m2, by omega, by go_num, by first | rfl | (congr 1), HM2.out, HNI⟩
                case measure => simp [intOf]; omega
          · have hki : ¬ (k : Int) < (s.length : Int) := by omega
            have HR : Hid (∀ j, j < 1025 → s = dig4 j → m = j) := Lib.hid fun j hj h => by
              have h1 := dig4_len hj
              have h2 := (HI.out.small (by rw [h]; exact h1.2)).1
              rw [List.take_of_length_le (by omega), h, dig4_val hj] at h2
              exact h2
            have HM := Lib.hid hm
            go_wp2_with fail
            go_ret2
            exact ⟨⟨m, true, rfl, HM.out, fun j hj h => ⟨HR.out j hj h, rfl⟩⟩, rfl⟩
    · have e3 : (s.length : Int) = 1 := by omega
      go_enter Tryd.func130, Tryd.ntmps130
      go_wp2_with fail
      go_loop [4, 5] (fun n i => ∃ (k m : Nat), k ≤ s.length ∧ i = .int .i64 k ∧ n = .int .u64 m ∧ m < 18446744073709551616 ∧ Hid (NtI s k m)) (fun _ i => s.length - (intOf i).toNat)
      case atStart => exact ⟨0, 0, by omega, rfl, rfl, by omega, Lib.hid ⟨fun _ => ⟨rfl, by decide⟩⟩⟩
      case round =>
        obtain ⟨k, m, hk, rfl, rfl, hm, HI⟩ := hrel
        by_cases hkl : k < s.length
        · have hki : (k : Int) < (s.length : Int) := by omega
          obtain ⟨c, hz⟩ : ∃ c, s[k]? = some c := ⟨_, List.getElem?_eq_getElem hkl⟩
          have hat : ∀ W, (Instr.index 9 (.string ⟨s.toArray⟩) (.int .i64 (k : Int))).run Tryd.prog W = .ok (.int .u8 (c.toNat : Int)) W := fun W => run_at s k c hz W
          have HZ := Lib.hid hz
          have hc256 := c.toNat_lt
          have HCM : Hid (c ∈ s) := Lib.hid (List.mem_of_getElem? hz)
          have HCB : Hid (∀ k, k < 1025 → s = dig4 k → 48 ≤ c.toNat ∧ c.toNat ≤ 57) := Lib.hid fun k hk h => by have := dig4_digit hk c (by rw [← h]; exact HCM.out); exact ⟨this.1, this.2.1⟩
          have HNX : Hid (∀ m2, (m < 1000 → m2 = 10 * m + (c.toNat - 48)) → c.toNat ≤ 57 → NtI s (k + 1) m2) := Lib.hid fun m2 h h57 => ⟨fun h4 => by
            obtain ⟨h1, h2⟩ := HI.out.small h4
            have h3 : (10 : Nat) ^ k ≤ 10 ^ 3 := Nat.pow_le_pow_right (by omega) (by omega)
            have h5 := h (by omega)
            rw [take_snoc HZ.out, decV_snoc, ← h1, Nat.pow_succ]
            exact ⟨h5, by omega⟩⟩
          clear hz
          generalize c.toNat = b at *
          by_cases h48 : b < 48
          · have HNO : Hid (∀ k, k < 1025 → s ≠ dig4 k) := Lib.hid fun k hk h => by have := HCB.out k hk h; omega
            have h48i : (b : Int) < 48 := by omega
            go_wp2_with fail
            go_ret2
            exact ⟨⟨0, false, rfl, by omega, fun k hk h => absurd h (HNO.out k hk)⟩, rfl⟩
          · have h48i : ¬ (b : Int) < 48 := by omega
            by_cases h57 : 57 < b
            · have HNO : Hid (∀ k, k < 1025 → s ≠ dig4 k) := Lib.hid fun k hk h => by have := HCB.out k hk h; omega
              have h57i : (57 : Int) < (b : Int) := by omega
              go_wp2_with fail
              go_ret2
              exact ⟨⟨0, false, rfl, by omega, fun k hk h => absurd h (HNO.out k hk)⟩, rfl⟩
            · have h57i : ¬ (57 : Int) < (b : Int) := by omega
              obtain ⟨d, hd⟩ : ∃ d, b - 48 = d := ⟨_, rfl⟩
              have ed : (b : Int) - 48 = (d : Int) := by omega
              have hd9 : (d : Int) ≤ 9 := by omega
              obtain ⟨m1, hm1⟩ : ∃ m1 : Nat, 10 * m % 18446744073709551616 = m1 := ⟨_, rfl⟩
              have hw1 : IntKind.u64.wrap (10 * (m : Int)) = (m1 : Int) := by rw [IntKind.wrap_u64]; omega
              have hm1l : m1 < 18446744073709551616 := by omega
              obtain ⟨m2, hm2⟩ : ∃ m2 : Nat, (m1 + d) % 18446744073709551616 = m2 := ⟨_, rfl⟩
              have hw2 : IntKind.u64.wrap ((m1 : Int) + (d : Int)) = (m2 : Int) := by rw [IntKind.wrap_u64]; omega
              have HM2 : Hid (m2 < 18446744073709551616) := Lib.hid (by omega)
              have HNI : Hid (NtI s (k + 1) m2) := Lib.hid (HNX.out m2 (fun h => by omega) (by omega))
              clear hm1 hm2 hd HNX HCB
              go_wp2_with fail
              go_round
              case rel => exact ⟨k + 1, m2, by omega, by go_num, by first | rfl | (congr 1), HM2.out, HNI⟩
              case measure => simp [intOf]; omega
        · have hki : ¬ (k : Int) < (s.length : Int) := by omega
          have HR : Hid (∀ j, j < 1025 → s = dig4 j → m = j) := Lib.hid fun j hj h => by
            have h1 := dig4_len hj
            have h2 := (HI.out.small (by rw [h]; exact h1.2)).1
            rw [List.take_of_length_le (by omega), h, dig4_val hj] at h2
            exact h2
          have HM := Lib.hid hm
          go_wp2_with fail
          go_ret2
          exact ⟨⟨m, true, rfl, HM.out, fun j hj h => ⟨HR.out j hj h, rfl⟩⟩, rfl⟩
/-- what is read of a text -/
def WholeR (s : List UInt8) (e : Ending) : Prop := ∃ (v : Int) (b : Bool), e = .returned (.tuple #[.int .i64 v, .bool b]) ∧ inI64 v ∧ ∀ k, k < 1025 → s = dig4 k → v = k ∧ b = true
set_option maxRecDepth 100000 in
set_option maxHeartbeats 600000 in
theorem ref_whole (s : List UInt8) (hs : s.length ≤ 2000) (w : World) :
    Calls Tryd.prog 81 #[.string ⟨s.toArray⟩] w fun e w' => WholeR s e ∧ w' = w := by
  have hsz : ((ByteArray.mk s.toArray).size : Int) = (s.length : Int) := rfl
  have HS := Lib.hid hs
  by_cases h0 : s.length = 0
  · obtain rfl := List.eq_nil_of_length_eq_zero h0
    clear h0
    go_enter Tryd.func81, Tryd.ntmps81
    go_wp2_with fail
    refine (ref_natural [] (by simp) _).mono ?_
    rintro e w2 ⟨⟨n, b, rfl, hn, hw⟩, rfl⟩
    have HW := Lib.hid hw
    clear hw
    cases b with
    | false =>
      go_wp2_with fail
      go_ret2
      exact ⟨⟨0, false, rfl, ⟨by decide, by decide⟩, fun k hk h => by have := (HW.out k hk h).2; cases this⟩, rfl⟩
    | true =>
      by_cases hv : 2147483647 < n
      · have hvi : (2147483647 : Int) < (n : Int) := by omega
        go_wp2_with fail
        go_ret2
        exact ⟨⟨0, false, rfl, ⟨by decide, by decide⟩, fun k hk h => by have := (HW.out k hk h).1; omega⟩, rfl⟩
      · have hvi : ¬ (2147483647 : Int) < (n : Int) := by omega
        have hw1 : IntKind.i64.wrap (n : Int) = (n : Int) := by rw [IntWalk.i64_in _ (by omega)]
        have HV := Lib.hid hv
        go_wp2_with fail
        go_ret2
        exact ⟨⟨(n : Int), true, rfl, ⟨by have := HV.out; omega, by have := HV.out; omega⟩, fun k hk h => ⟨by rw [(HW.out k hk h).1], rfl⟩⟩, rfl⟩
  · obtain ⟨c0, hz0⟩ : ∃ c, s[0]? = some c := ⟨_, List.getElem?_eq_getElem (by omega)⟩
    have hat0 : ∀ W, (Instr.index 9 (.string ⟨s.toArray⟩) (.int .i64 0)).run Tryd.prog W = .ok (.int .u8 (c0.toNat : Int)) W := fun W => run_at s 0 c0 hz0 W
    have e0 : (0 : Int) < (s.length : Int) := by omega
    have HD : Hid (∀ k, k < 1025 → s = dig4 k → 48 ≤ c0.toNat) := Lib.hid fun k hk h => (dig4_digit hk c0 (by rw [← h]; exact List.mem_of_getElem? hz0)).1
    clear hz0 h0
    by_cases h45 : c0.toNat = 45
    · have h45i : (c0.toNat : Int) = 45 := by omega
      have HNO : Hid (∀ k, k < 1025 → s ≠ dig4 k) := Lib.hid fun k hk h => by have := HD.out k hk h; omega
      have HS1 : ∀ W, (Instr.slice 9 (.string ⟨s.toArray⟩) (some (.int .i64 1)) none none).run Tryd.prog W = .ok (.string ⟨(s.drop 1).toArray⟩) W := fun W => by
        rw [run_slice_string_l W 9 ⟨s.toArray⟩ Tryd.underlying9 .i64 1 (by omega) (by show (1 : Int) ≤ (s.length : Int); omega), Go.ByteArray.extract_mk]
        rw [show ((1 : Int)).toNat = 1 by omega, show (ByteArray.mk s.toArray).size = s.length from rfl, List.take_of_length_le (by rw [List.length_drop]; omega)]
      clear h45 HD
      generalize c0.toNat = b0 at *
      go_enter Tryd.func81, Tryd.ntmps81
      go_wp2_with fail
      refine (ref_natural s.tail (by rw [List.length_tail]; have := HS.out; omega) _).mono ?_
      rintro e w2 ⟨⟨n, b, rfl, hn, hw⟩, rfl⟩
      clear hw HS1
      cases b with
      | false =>
        go_wp2_with fail
        go_ret2
        exact ⟨⟨0, false, rfl, ⟨by decide, by decide⟩, fun k hk h => by exact absurd h (HNO.out k hk)⟩, rfl⟩
      | true =>
        by_cases hv : 2147483647 < n
        · have hvi : (2147483647 : Int) < (n : Int) := by omega
          go_wp2_with fail
          go_ret2
          exact ⟨⟨0, false, rfl, ⟨by decide, by decide⟩, fun k hk h => by exact absurd h (HNO.out k hk)⟩, rfl⟩
        · have hvi : ¬ (2147483647 : Int) < (n : Int) := by omega
          have hw1 : IntKind.i64.wrap (n : Int) = (n : Int) := by rw [IntWalk.i64_in _ (by omega)]
          have HV := Lib.hid hv
          by_cases hn0 : n = 0
          · subst hn0
            go_wp2_with fail
            go_ret2
            exact ⟨⟨0, false, rfl, ⟨by decide, by decide⟩, fun k hk h => by exact absurd h (HNO.out k hk)⟩, rfl⟩
          · have hni : ((n : Int) == 0) = false := by rw [beq_eq_false_iff_ne]; omega
            have hvd : decide ((2147483647 : Int) < (n : Int)) = false := decide_eq_false (by omega)
            have hw2 : IntKind.i64.wrap (-(n : Int)) = -(n : Int) := by rw [IntWalk.i64_in _ (by omega)]
            clear hn0
            go_wp2_with fail
            go_ret2
            exact ⟨⟨-(n : Int), true, rfl, ⟨by have := HV.out; omega, by have := HV.out; omega⟩, fun k hk h => by exact absurd h (HNO.out k hk)⟩, rfl⟩
    · have h45i : ¬ (c0.toNat : Int) = 45 := by omega
      clear h45 HD
      generalize c0.toNat = b0 at *
      go_enter Tryd.func81, Tryd.ntmps81
      go_wp2_with fail
      refine (ref_natural s HS.out _).mono ?_
      rintro e w2 ⟨⟨n, b, rfl, hn, hw⟩, rfl⟩
      have HW := Lib.hid hw
      clear hw
      cases b with
      | false =>
        go_wp2_with fail
        go_ret2
        exact ⟨⟨0, false, rfl, ⟨by decide, by decide⟩, fun k hk h => by have := (HW.out k hk h).2; cases this⟩, rfl⟩
      | true =>
        by_cases hv : 2147483647 < n
        · have hvi : (2147483647 : Int) < (n : Int) := by omega
          go_wp2_with fail
          go_ret2
          exact ⟨⟨0, false, rfl, ⟨by decide, by decide⟩, fun k hk h => by have := (HW.out k hk h).1; omega⟩, rfl⟩
        · have hvi : ¬ (2147483647 : Int) < (n : Int) := by omega
          have hw1 : IntKind.i64.wrap (n : Int) = (n : Int) := by rw [IntWalk.i64_in _ (by omega)]
          have HV := Lib.hid hv
          go_wp2_with fail
          go_ret2
          exact ⟨⟨(n : Int), true, rfl, ⟨by have := HV.out; omega, by have := HV.out; omega⟩, fun k hk h => ⟨by rw [(HW.out k hk h).1], rfl⟩⟩, rfl⟩
end Go.Proofs.YtgcbnagfdfgpnaaDoor
