/- The reference's word of a dyad that may be. Printed by gen_refw.py. -/
import Derived.Test.YtgcbnagfdfgpnaaDoorWordsAll27
import Derived.Test.YtgcbnagfdfgpnaaDoorWordsAll33
import Derived.Test.YtgcbnagfdfgpnaaDoorWordsAll14
import Derived.Test.YtgcbnagfdfgpnaaDoorWordsAll6
namespace Go.Hx
open Go.RowKit
theorem digs_at (V : Nat) : ∀ t, (digs 2 V)[t]?.getD 0 = V / 2 ^ t % 2 := by
  induction V using Nat.strongRecOn with
  | _ V ih =>
    intro t
    by_cases h : V = 0
    · subst h; rw [digs_zero]; simp
    · rw [digs_pos (by omega) h]
      cases t with
      | zero => simp
      | succ t =>
        rw [List.getElem?_cons_succ, ih (V / 2) (by omega) t, Nat.pow_succ, Nat.mul_comm, Nat.div_div_eq_div_mul]
theorem digs_len_lt (V n : Nat) (h : (digs 2 V).length ≤ n) : V < 2 ^ n := (digs_length (by omega) V n).1 h
theorem digs_len_ge (V n : Nat) (h : n < (digs 2 V).length) : 2 ^ n ≤ V := by
  rcases Nat.lt_or_ge V (2 ^ n) with h1 | h1
  · have := (digs_length (b := 2) (by omega) V n).2 h1; omega
  · exact h1
theorem digs_len_limbs (l : List Nat) (hl : Limbs l) (k : Nat) (h : l.length ≤ k) : (digs 2 (val B32 l)).length ≤ 32 * k := by
  refine (digs_length (by omega) _ _).2 ?_
  have h1 := val_lt l hl
  rw [B32_pow] at h1
  exact Nat.lt_of_lt_of_le h1 (Nat.pow_le_pow_right (by omega) (by omega))
theorem pow_16 (j : Nat) : 2 ^ (4 * j) = 16 ^ j := by rw [Nat.pow_mul]
/-- the bits from m on, d of them -/
theorem bits_step (V m d n : Nat) (h : n = V / 2 ^ (m + 1) % 2 ^ d) : 2 * n + V / 2 ^ m % 2 = V / 2 ^ m % 2 ^ (d + 1) := by
  rw [h, Nat.pow_succ, Nat.mul_comm (2 ^ m) 2, Nat.mul_comm 2 (2 ^ m), ← Nat.div_div_eq_div_mul, Nat.pow_succ, Nat.mul_comm (2 ^ d) 2, Nat.mod_mul]
  omega
theorem hexd_48 {d : Nat} (h : d < 16) (h0 : d ≠ 0) : hexd d ≠ 48 := by
  have : ∀ d : Fin 16, d.val ≠ 0 → hexd d.val ≠ 48 := by decide +kernel
  exact this ⟨d, h⟩ h0
/-- what the loop ends with -/
theorem hexJ_end {V J : Nat} (h0 : V ≠ 0) (h1 : (digs 2 V).length ≤ 4 * J) (h2 : J = 0 ∨ 4 * (J - 1) < (digs 2 V).length) : hexJ J V = hexL V ∧ ∃ c r, hexL V = c :: r ∧ c ≠ 48 := by
  have hV := digs_len_lt V _ h1
  rw [pow_16] at hV
  obtain ⟨j, rfl⟩ : ∃ j, J = j + 1 := ⟨J - 1, by
    rcases Nat.eq_zero_or_pos J with h | h
    · subst h; simp at hV; omega
    · omega⟩
  have hW := digs_len_ge V _ (h2.resolve_left (by omega))
  rw [show j + 1 - 1 = j by omega, pow_16] at hW
  have e := hexJ_hexL j V hW hV
  refine ⟨e, _, _, e.symm, hexd_48 (Nat.mod_lt _ (by omega)) ?_⟩
  have hq : V / 16 ^ j < 16 := Nat.div_lt_of_lt_mul (by rw [Nat.pow_succ] at hV; exact hV)
  have hq0 : 1 ≤ V / 16 ^ j := (Nat.one_le_div_iff (Nat.pow_pos (by omega))).2 hW
  omega
end Go.Hx
namespace Go.Proofs.YtgcbnagfdfgpnaaDoor
open Go.RowKit Go.Hx
set_option linter.unusedVariables false
set_option linter.unusedSimpArgs false
structure WoI (V J : Nat) (out : List UInt8) : Prop where
  out : out = hexJ J V
  near : J = 0 ∨ 4 * (J - 1) < (digs 2 V).length
set_option maxRecDepth 100000 in
set_option maxHeartbeats 4000000 in
theorem ref_Word (x : XDyad) (w : World) (hx : x.ok w w.heap.size) (hl : Limbs x.limbs.l) (hm : mayD x.data) :
    Calls Tryd.prog 73 #[.agg #[.bool x.neg, .slice x.limbs.A x.limbs.l.length x.limbs.c, .int .i64 x.exp]] w fun e w' => e = .returned (.string ⟨(wordL x.data).toArray⟩) ∧ Ext w w' := by
  have HWE := Lib.hid (wordL_eq x.data hl hm.1.2)
  have h40 : x.limbs.l.length ≤ 40 := hm.1.1
  have hex := hm.2.1
  obtain ⟨ng, ⟨l, A, c⟩, ex⟩ := x
  dsimp only [XDyad.data] at *
  obtain ⟨ex, rfl⟩ : ∃ n : Nat, ex = n := ⟨ex.toNat, by omega⟩
  have hex2 : (ex : Int) ≤ 1024 := by omega
  have HX := Lib.hid hx
  have HL := Lib.hid hl
  have H40 := Lib.hid h40
  have HB : Hid (Blk (w.alloc (.cells [.bool ng, .slice A l.length c, .int .i64 (ex : Int)].toArray 24)) w.heap.size 24 [.bool ng, .slice A l.length c, .int .i64 (ex : Int)]) := Lib.hid (Blk.new rfl)
  have HE : Hid (Ext w (w.alloc (.cells [.bool ng, .slice A l.length c, .int .i64 (ex : Int)].toArray 24))) := Lib.hid (Ext.alloc _ _)
  have hcs : (w.alloc (.cells #[.bool ng, .slice A l.length c, .int .i64 (ex : Int)] 24)).cell? ⟨w.heap.size, 1, none⟩ = some (.slice A l.length c) := HB.out.cell 1
  clear hx hl hm hex h40
  go_enter Tryd.func73, Tryd.ntmps73
  go_wp2_with fail
  refine (ref01_Digits ⟨l, A, c⟩ _ (HX.out.ext HE.out).1 HL.out (by have := H40.out; dsimp only; omega)).mono ?_
  rintro e w1 ⟨⟨zl, zA, zc⟩, rfl, hz, hzo, hzE⟩
  dsimp only at hz hzo
  obtain ⟨V, hV⟩ : ∃ V, val B32 l = V := ⟨_, rfl⟩
  rw [hV] at hz
  have HV := Lib.hid hV
  have HZ := Lib.hid hz
  have HZO := Lib.hid hzo.ok
  have HE1 := Lib.hid (HE.out.trans hzE)
  have HB1 := Lib.hid (HB.out.ext hzE)
  have HZL : Hid (zl.length ≤ 1280) := Lib.hid (by have := digs_len_limbs l HL.out 40 H40.out; rw [hV, ← hz] at this; omega)
  clear hz hzo hzE hV hcs
  go_wp2_with fail
  go_loop [4, 5] (fun o i => ∃ (J : Nat) (out : List UInt8), 4 * J ≤ 1283 ∧ o = .string ⟨out.toArray⟩ ∧ i = .int .i64 (4 * J : Nat) ∧ Hid (WoI V J out)) (fun _ i => 1300 - (intOf i).toNat)
  case atStart => exact ⟨0, [], by omega, rfl, rfl, Lib.hid ⟨rfl, .inl rfl⟩⟩
  case round =>
    obtain ⟨J, out, hJ, rfl, rfl, HI⟩ := hrel
    have HOL : Hid (out.length = J ∧ J ≤ 320) := Lib.hid ⟨by rw [HI.out.out]; exact hexJ_len J V, by omega⟩
    by_cases hlt : 4 * J < zl.length
    · have hlti : ((4 * J : Nat) : Int) < (zl.length : Int) := by omega
      have HLT := Lib.hid hlt
      go_wp2_with fail
      go_loop [6, 7] (fun n k => ∃ (d nn : Nat) (z : Int), d ≤ 4 ∧ z + 1 = (d : Int) ∧ k = .int .i64 z ∧ n = .int .i64 nn ∧ nn < 16 ∧ Hid (nn = V / 2 ^ (4 * J + d) % 2 ^ (4 - d))) (fun _ k => (intOf k + 1).toNat)
      case atStart => exact ⟨4, 0, 3, by omega, by omega, rfl, rfl, by omega, Lib.hid (by simp [Nat.mod_one])⟩
      case round =>
        obtain ⟨d, nn, z, hd, hz, rfl, rfl, hn16, HN⟩ := hrel
        by_cases hz0 : 0 ≤ z
        · obtain ⟨q, rfl⟩ : ∃ q : Nat, z = q := ⟨z.toNat, by omega⟩
          obtain rfl : d = q + 1 := by omega
          obtain ⟨m, hm⟩ : ∃ m, 4 * J + q = m := ⟨_, rfl⟩
          have em : ((4 * J : Nat) : Int) + (q : Int) = (m : Int) := by omega
          have em2 : (4 : Int) * (J : Int) + (q : Int) = (m : Int) := by omega
          have HM := Lib.hid hm
          have hqi : (q : Int) ≤ 3 := by omega
          have hmi : (m : Int) ≤ 1400 := by omega
          have hn16i : (nn : Int) < 16 := by omega
          have hn8 : nn < 8 := by
            have h1 := HN.out
            have h2 : 2 ^ (4 - (q + 1)) ≤ 2 ^ 3 := Nat.pow_le_pow_right (by omega) (by omega)
            have h3 : nn < 2 ^ (4 - (q + 1)) := by rw [h1]; exact Nat.mod_lt _ (Nat.pow_pos (by omega))
            omega
          have hn8i : (nn : Int) < 8 := by omega
          have HNX : Hid (2 * nn + V / 2 ^ m % 2 = V / 2 ^ (4 * J + q) % 2 ^ (4 - q)) := Lib.hid (by
            rw [← hm, bits_step V (4 * J + q) (4 - (q + 1)) nn HN.out, show 4 - (q + 1) + 1 = 4 - q by omega])
          by_cases hin : m < zl.length
          · obtain ⟨b, off, rfl, _, r⟩ := Sl.row (size := 1) (fun _ => rfl) HZO.out.1 (List.getElem?_eq_getElem hin)
            obtain ⟨p, hp⟩ : ∃ p, zl[m] = p := ⟨_, rfl⟩
            have hc : w1.cell? ⟨b, off + m, none⟩ = some (.int .u8 p) := by have := r 0 _ rfl; rw [hp] at this; simpa using this
            have hpv : p = V / 2 ^ m % 2 := by rw [← digs_at, ← HZ.out, List.getElem?_eq_getElem hin, hp]; rfl
            have hp1 : (p : Int) ≤ 1 := by omega
            have hini : (m : Int) < (zl.length : Int) := by omega
            rw [← hpv] at HNX
            have HNX2 : Hid (2 * nn + p < 16) := Lib.hid (by omega)
            clear r hp hpv hm hin
            go_wp2_with fail
            go_round
            case rel => exact ⟨q, 2 * nn + p, (q : Int) - 1, by omega, by omega, by go_num, by first | rfl | (congr 1), HNX2.out, HNX⟩
            case measure => simp [intOf]
          · have hini : ¬ (m : Int) < (zl.length : Int) := by omega
            have hpv : V / 2 ^ m % 2 = 0 := by rw [← digs_at, ← HZ.out, List.getElem?_eq_none (by omega)]; rfl
            rw [hpv, Nat.add_zero] at HNX
            have HNX2 : Hid (2 * nn < 16) := Lib.hid (by omega)
            clear hpv hm hin
            go_wp2_with fail
            go_round
            case rel => exact ⟨q, 2 * nn, (q : Int) - 1, by omega, by omega, by go_num, by first | rfl | (congr 1), HNX2.out, HNX⟩
            case measure => simp [intOf]
        · have hd0 : d = 0 := by omega
          subst hd0
          have HNN : Hid (nn = V / 16 ^ J % 16) := Lib.hid (by have := HN.out; rw [Nat.add_zero, pow_16] at this; exact this)
          clear HN
          go_wp2_with fail
          refine (ref_digit nn hn16 _).mono ?_
          rintro e w2 ⟨rfl, rfl⟩
          have a1 : ∀ W, (Op.stringOp .add ⟨#[hexd nn]⟩ ⟨out.toArray⟩).run Tryd.prog W = .ok (.string ⟨(hexd nn :: out).toArray⟩) W := fun W => run_string_add_lists W [_] out (by simp) (by have := HOL.out; omega)
          have HNX : Hid (WoI V (J + 1) (hexd nn :: out)) := Lib.hid ⟨by rw [HI.out.out, HNN.out]; rfl, .inr (by rw [← HZ.out]; exact HLT.out)⟩
          obtain ⟨o2, ho2⟩ : ∃ o, hexd nn :: out = o := ⟨_, rfl⟩
          rw [ho2] at HNX
          simp only [ho2] at a1
          clear ho2
          go_wp2_with fail
          go_round
          case rel => exact ⟨J + 1, o2, by have := HLT.out; have := HZL.out; omega, rfl, by go_num, HNX⟩
          case measure => simp [intOf]; omega
    · have hlti : ¬ ((4 * J : Nat) : Int) < (zl.length : Int) := by omega
      have HEND : Hid (V ≠ 0 → out = hexL V ∧ ∃ c r, hexL V = c :: r ∧ c ≠ 48) := Lib.hid fun h0 => by
        have h1 := hexJ_end h0 (J := J) (by rw [← HZ.out]; omega) HI.out.near
        exact ⟨HI.out.out.trans h1.1, h1.2⟩
      have HVL : Hid (Limbs l ∧ V = val B32 l) := Lib.hid ⟨HL.out, HV.out.symm⟩
      have HBD : Hid (hexL (val B32 l) = if V = 0 then [48] else out) := Lib.hid (by
        rw [HV.out]
        by_cases h0 : V = 0
        · rw [if_pos h0, h0, hexL_small (by omega)]; rfl
        · rw [if_neg h0]; exact (HEND.out h0).1.symm)
      have HO : Hid ((V = 0 ∧ out = []) ∨ (V ≠ 0 ∧ ∃ c r, out = c :: r ∧ c ≠ 48)) := Lib.hid (by
        by_cases h0 : V = 0
        · refine .inl ⟨h0, ?_⟩
          have h1 := HI.out.near
          have h2 := HOL.out.1
          rw [h0, digs_zero] at h1
          have hJ0 : J = 0 := by rcases h1 with h1 | h1; exact h1; simp at h1
          rw [hJ0] at h2
          exact List.eq_nil_of_length_eq_zero h2
        · obtain ⟨h1, c, r, h2, h3⟩ := HEND.out h0
          exact .inr ⟨h0, c, r, by rw [h1, h2], h3⟩)
      have hcn : w1.cell? ⟨w.heap.size, 0, none⟩ = some (.bool ng) := HB1.out.cell 0
      have hce : w1.cell? ⟨w.heap.size, 2, none⟩ = some (.int .i64 (ex : Int)) := HB1.out.cell 2
      clear hlt HI HEND
      rcases HO.out with ⟨hv0, rfl⟩ | ⟨hv0, c0, r0, hcr, hc48⟩
      · have HBD2 : Hid (hexL (val B32 l) = [48]) := Lib.hid (by rw [HBD.out, if_pos hv0])
        have HLN : Hid (([48] : List UInt8).length ≤ 1) := Lib.hid (by simp)
        clear HO HOL HBD
        go_wp2_with fail
        go_loop [4] (fun o => o = .string ⟨#[]⟩) (fun _ => 0)
        case atStart => rfl
        case round =>
          obtain rfl := hrel
          cases ng with
          | true =>
            by_cases hx0 : 0 < ex
            · obtain ⟨o1, ho1⟩ : ∃ o : List UInt8, 45 :: [48] = o := ⟨_, rfl⟩
              have HO1 : Hid (o1.length ≤ 400) := Lib.hid (by rw [← ho1, List.length_cons]; have := HLN.out; simp only [List.length_cons, List.length_nil] at *; omega)
              have a1 : ∀ W, (Op.stringOp .add ⟨#[45]⟩ ⟨#[48]⟩).run Tryd.prog W = .ok (.string ⟨o1.toArray⟩) W := fun W => by rw [← ho1]; exact run_string_add_lists W [45] [48] (by simp) (by have := HLN.out; simp only [List.length_cons, List.length_nil] at *; omega)
              have HQ1 := Lib.hid ho1
              clear ho1
              obtain ⟨o2, ho2⟩ : ∃ o : List UInt8, o1 ++ [47] = o := ⟨_, rfl⟩
              have HO2 : Hid (o2.length ≤ 500) := Lib.hid (by rw [← ho2, List.length_append]; have := HO1.out; simp only [List.length_cons, List.length_nil] at *; omega)
              have a2 : ∀ W, (Op.stringOp .add ⟨o1.toArray⟩ ⟨#[47]⟩).run Tryd.prog W = .ok (.string ⟨o2.toArray⟩) W := fun W => by rw [← ho2]; exact run_string_add_lists W o1 [47] (by have := HO1.out; simp only [List.length_cons, List.length_nil] at *; omega) (by simp)
              have HQ2 := Lib.hid ho2
              clear ho2
              obtain ⟨o3, ho3⟩ : ∃ o : List UInt8, o2 ++ Lib.decDigits ex = o := ⟨_, rfl⟩
              have a3 : ∀ W, (Op.stringOp .add ⟨o2.toArray⟩ ⟨(Lib.decDigits ex).toArray⟩).run Tryd.prog W = .ok (.string ⟨o3.toArray⟩) W := fun W => by rw [← ho3]; exact run_string_add_lists W o2 _ (by have := HO2.out; omega) (by rw [Lib.decDigits_length]; have := Lib.nDigits_le20 ex (by omega); omega)
              have HQ3 := Lib.hid ho3
              have hxp : (0 : Int) < (ex : Int) := by omega
              clear ho3
              have HR : Hid (wordL ⟨true, l, (ex : Int)⟩ = o3) := Lib.hid (by rw [HWE.out]; unfold signL bodyL tailL; dsimp only; rw [HBD2.out, if_pos hxp, Lib.itoa_nonneg, ← HQ3.out, ← HQ2.out, ← HQ1.out]; simp)
              go_wp2_with fail
              refine (ref_Natural ex (by omega) _).mono ?_
              rintro e w9 ⟨rfl, hE9⟩
              have HE9 := Lib.hid (HE1.out.trans hE9)
              clear hE9
              go_wp2_with fail
              go_ret
              exact ⟨by rw [HR.out] <;> rfl, HE9.out⟩
            · obtain ⟨o1, ho1⟩ : ∃ o : List UInt8, 45 :: [48] = o := ⟨_, rfl⟩
              have HO1 : Hid (o1.length ≤ 400) := Lib.hid (by rw [← ho1, List.length_cons]; have := HLN.out; simp only [List.length_cons, List.length_nil] at *; omega)
              have a1 : ∀ W, (Op.stringOp .add ⟨#[45]⟩ ⟨#[48]⟩).run Tryd.prog W = .ok (.string ⟨o1.toArray⟩) W := fun W => by rw [← ho1]; exact run_string_add_lists W [45] [48] (by simp) (by have := HLN.out; simp only [List.length_cons, List.length_nil] at *; omega)
              have HQ1 := Lib.hid ho1
              clear ho1
              have hxp : ¬ (0 : Int) < (ex : Int) := by omega
              have HR : Hid (wordL ⟨true, l, (ex : Int)⟩ = o1) := Lib.hid (by rw [HWE.out]; unfold signL bodyL tailL; dsimp only; rw [HBD2.out, if_neg hxp, ← HQ1.out]; simp)
              go_wp2_with fail
              go_ret
              exact ⟨by rw [HR.out] <;> rfl, HE1.out⟩
          | false =>
            by_cases hx0 : 0 < ex
            · obtain ⟨o2, ho2⟩ : ∃ o : List UInt8, [48] ++ [47] = o := ⟨_, rfl⟩
              have HO2 : Hid (o2.length ≤ 500) := Lib.hid (by rw [← ho2, List.length_append]; have := HLN.out; simp only [List.length_cons, List.length_nil] at *; omega)
              have a2 : ∀ W, (Op.stringOp .add ⟨#[48]⟩ ⟨#[47]⟩).run Tryd.prog W = .ok (.string ⟨o2.toArray⟩) W := fun W => by rw [← ho2]; exact run_string_add_lists W [48] [47] (by have := HLN.out; simp only [List.length_cons, List.length_nil] at *; omega) (by simp)
              have HQ2 := Lib.hid ho2
              clear ho2
              obtain ⟨o3, ho3⟩ : ∃ o : List UInt8, o2 ++ Lib.decDigits ex = o := ⟨_, rfl⟩
              have a3 : ∀ W, (Op.stringOp .add ⟨o2.toArray⟩ ⟨(Lib.decDigits ex).toArray⟩).run Tryd.prog W = .ok (.string ⟨o3.toArray⟩) W := fun W => by rw [← ho3]; exact run_string_add_lists W o2 _ (by have := HO2.out; omega) (by rw [Lib.decDigits_length]; have := Lib.nDigits_le20 ex (by omega); omega)
              have HQ3 := Lib.hid ho3
              have hxp : (0 : Int) < (ex : Int) := by omega
              clear ho3
              have HR : Hid (wordL ⟨false, l, (ex : Int)⟩ = o3) := Lib.hid (by rw [HWE.out]; unfold signL bodyL tailL; dsimp only; rw [HBD2.out, if_pos hxp, Lib.itoa_nonneg, ← HQ3.out, ← HQ2.out]; simp)
              go_wp2_with fail
              refine (ref_Natural ex (by omega) _).mono ?_
              rintro e w9 ⟨rfl, hE9⟩
              have HE9 := Lib.hid (HE1.out.trans hE9)
              clear hE9
              go_wp2_with fail
              go_ret
              exact ⟨by rw [HR.out] <;> rfl, HE9.out⟩
            · have hxp : ¬ (0 : Int) < (ex : Int) := by omega
              have HR : Hid (wordL ⟨false, l, (ex : Int)⟩ = [48]) := Lib.hid (by rw [HWE.out]; unfold signL bodyL tailL; dsimp only; rw [HBD2.out, if_neg hxp]; simp)
              go_wp2_with fail
              go_ret
              exact ⟨by rw [HR.out] <;> rfl, HE1.out⟩
      · have HBD2 : Hid (hexL (val B32 l) = out) := Lib.hid (by rw [HBD.out, if_neg hv0])
        have HLN : Hid (out.length ≤ 320) := Lib.hid (by have := HOL.out; omega)
        have hat0 : ∀ W, (Instr.index 9 (.string ⟨out.toArray⟩) (.int .i64 0)).run Tryd.prog W = .ok (.int .u8 (c0.toNat : Int)) W := fun W => run_at out 0 c0 (by rw [hcr]; rfl) W
        have h48 : ¬ (c0.toNat : Int) = 48 := fun h => hc48 (UInt8.toNat_inj.1 (show c0.toNat = 48 by omega))
        have hpos : (0 : Int) < (out.length : Int) := by rw [hcr, List.length_cons]; omega
        have hemp : (out == []) = false := by rw [hcr]; rfl
        have hsz : ((ByteArray.mk out.toArray).size : Int) = (out.length : Int) := rfl
        clear HO HOL HBD hcr hc48
        go_wp2_with fail
        go_loop [4] (fun o => o = .string ⟨out.toArray⟩) (fun _ => 0)
        case atStart => rfl
        case round =>
          obtain rfl := hrel
          by_cases h1 : (1 : Int) < (out.length : Int)
          · have hq1 := h1
            cases ng with
            | true =>
              by_cases hx0 : 0 < ex
              · obtain ⟨o1, ho1⟩ : ∃ o : List UInt8, 45 :: out = o := ⟨_, rfl⟩
                have HO1 : Hid (o1.length ≤ 400) := Lib.hid (by rw [← ho1, List.length_cons]; have := HLN.out; simp only [List.length_cons, List.length_nil] at *; omega)
                have a1 : ∀ W, (Op.stringOp .add ⟨#[45]⟩ ⟨out.toArray⟩).run Tryd.prog W = .ok (.string ⟨o1.toArray⟩) W := fun W => by rw [← ho1]; exact run_string_add_lists W [45] out (by simp) (by have := HLN.out; simp only [List.length_cons, List.length_nil] at *; omega)
                have HQ1 := Lib.hid ho1
                clear ho1
                obtain ⟨o2, ho2⟩ : ∃ o : List UInt8, o1 ++ [47] = o := ⟨_, rfl⟩
                have HO2 : Hid (o2.length ≤ 500) := Lib.hid (by rw [← ho2, List.length_append]; have := HO1.out; simp only [List.length_cons, List.length_nil] at *; omega)
                have a2 : ∀ W, (Op.stringOp .add ⟨o1.toArray⟩ ⟨#[47]⟩).run Tryd.prog W = .ok (.string ⟨o2.toArray⟩) W := fun W => by rw [← ho2]; exact run_string_add_lists W o1 [47] (by have := HO1.out; simp only [List.length_cons, List.length_nil] at *; omega) (by simp)
                have HQ2 := Lib.hid ho2
                clear ho2
                obtain ⟨o3, ho3⟩ : ∃ o : List UInt8, o2 ++ Lib.decDigits ex = o := ⟨_, rfl⟩
                have a3 : ∀ W, (Op.stringOp .add ⟨o2.toArray⟩ ⟨(Lib.decDigits ex).toArray⟩).run Tryd.prog W = .ok (.string ⟨o3.toArray⟩) W := fun W => by rw [← ho3]; exact run_string_add_lists W o2 _ (by have := HO2.out; omega) (by rw [Lib.decDigits_length]; have := Lib.nDigits_le20 ex (by omega); omega)
                have HQ3 := Lib.hid ho3
                have hxp : (0 : Int) < (ex : Int) := by omega
                clear ho3
                have HR : Hid (wordL ⟨true, l, (ex : Int)⟩ = o3) := Lib.hid (by rw [HWE.out]; unfold signL bodyL tailL; dsimp only; rw [HBD2.out, if_pos hxp, Lib.itoa_nonneg, ← HQ3.out, ← HQ2.out, ← HQ1.out]; simp)
                go_wp2_with fail
                refine (ref_Natural ex (by omega) _).mono ?_
                rintro e w9 ⟨rfl, hE9⟩
                have HE9 := Lib.hid (HE1.out.trans hE9)
                clear hE9
                go_wp2_with fail
                go_ret
                exact ⟨by rw [HR.out] <;> rfl, HE9.out⟩
              · obtain ⟨o1, ho1⟩ : ∃ o : List UInt8, 45 :: out = o := ⟨_, rfl⟩
                have HO1 : Hid (o1.length ≤ 400) := Lib.hid (by rw [← ho1, List.length_cons]; have := HLN.out; simp only [List.length_cons, List.length_nil] at *; omega)
                have a1 : ∀ W, (Op.stringOp .add ⟨#[45]⟩ ⟨out.toArray⟩).run Tryd.prog W = .ok (.string ⟨o1.toArray⟩) W := fun W => by rw [← ho1]; exact run_string_add_lists W [45] out (by simp) (by have := HLN.out; simp only [List.length_cons, List.length_nil] at *; omega)
                have HQ1 := Lib.hid ho1
                clear ho1
                have hxp : ¬ (0 : Int) < (ex : Int) := by omega
                have HR : Hid (wordL ⟨true, l, (ex : Int)⟩ = o1) := Lib.hid (by rw [HWE.out]; unfold signL bodyL tailL; dsimp only; rw [HBD2.out, if_neg hxp, ← HQ1.out]; simp)
                go_wp2_with fail
                go_ret
                exact ⟨by rw [HR.out] <;> rfl, HE1.out⟩
            | false =>
              by_cases hx0 : 0 < ex
              · obtain ⟨o2, ho2⟩ : ∃ o : List UInt8, out ++ [47] = o := ⟨_, rfl⟩
                have HO2 : Hid (o2.length ≤ 500) := Lib.hid (by rw [← ho2, List.length_append]; have := HLN.out; simp only [List.length_cons, List.length_nil] at *; omega)
                have a2 : ∀ W, (Op.stringOp .add ⟨out.toArray⟩ ⟨#[47]⟩).run Tryd.prog W = .ok (.string ⟨o2.toArray⟩) W := fun W => by rw [← ho2]; exact run_string_add_lists W out [47] (by have := HLN.out; simp only [List.length_cons, List.length_nil] at *; omega) (by simp)
                have HQ2 := Lib.hid ho2
                clear ho2
                obtain ⟨o3, ho3⟩ : ∃ o : List UInt8, o2 ++ Lib.decDigits ex = o := ⟨_, rfl⟩
                have a3 : ∀ W, (Op.stringOp .add ⟨o2.toArray⟩ ⟨(Lib.decDigits ex).toArray⟩).run Tryd.prog W = .ok (.string ⟨o3.toArray⟩) W := fun W => by rw [← ho3]; exact run_string_add_lists W o2 _ (by have := HO2.out; omega) (by rw [Lib.decDigits_length]; have := Lib.nDigits_le20 ex (by omega); omega)
                have HQ3 := Lib.hid ho3
                have hxp : (0 : Int) < (ex : Int) := by omega
                clear ho3
                have HR : Hid (wordL ⟨false, l, (ex : Int)⟩ = o3) := Lib.hid (by rw [HWE.out]; unfold signL bodyL tailL; dsimp only; rw [HBD2.out, if_pos hxp, Lib.itoa_nonneg, ← HQ3.out, ← HQ2.out]; simp)
                go_wp2_with fail
                refine (ref_Natural ex (by omega) _).mono ?_
                rintro e w9 ⟨rfl, hE9⟩
                have HE9 := Lib.hid (HE1.out.trans hE9)
                clear hE9
                go_wp2_with fail
                go_ret
                exact ⟨by rw [HR.out] <;> rfl, HE9.out⟩
              · have hxp : ¬ (0 : Int) < (ex : Int) := by omega
                have HR : Hid (wordL ⟨false, l, (ex : Int)⟩ = out) := Lib.hid (by rw [HWE.out]; unfold signL bodyL tailL; dsimp only; rw [HBD2.out, if_neg hxp]; simp)
                go_wp2_with fail
                go_ret
                exact ⟨by rw [HR.out] <;> rfl, HE1.out⟩
          · have hq1 := h1
            cases ng with
            | true =>
              by_cases hx0 : 0 < ex
              · obtain ⟨o1, ho1⟩ : ∃ o : List UInt8, 45 :: out = o := ⟨_, rfl⟩
                have HO1 : Hid (o1.length ≤ 400) := Lib.hid (by rw [← ho1, List.length_cons]; have := HLN.out; simp only [List.length_cons, List.length_nil] at *; omega)
                have a1 : ∀ W, (Op.stringOp .add ⟨#[45]⟩ ⟨out.toArray⟩).run Tryd.prog W = .ok (.string ⟨o1.toArray⟩) W := fun W => by rw [← ho1]; exact run_string_add_lists W [45] out (by simp) (by have := HLN.out; simp only [List.length_cons, List.length_nil] at *; omega)
                have HQ1 := Lib.hid ho1
                clear ho1
                obtain ⟨o2, ho2⟩ : ∃ o : List UInt8, o1 ++ [47] = o := ⟨_, rfl⟩
                have HO2 : Hid (o2.length ≤ 500) := Lib.hid (by rw [← ho2, List.length_append]; have := HO1.out; simp only [List.length_cons, List.length_nil] at *; omega)
                have a2 : ∀ W, (Op.stringOp .add ⟨o1.toArray⟩ ⟨#[47]⟩).run Tryd.prog W = .ok (.string ⟨o2.toArray⟩) W := fun W => by rw [← ho2]; exact run_string_add_lists W o1 [47] (by have := HO1.out; simp only [List.length_cons, List.length_nil] at *; omega) (by simp)
                have HQ2 := Lib.hid ho2
                clear ho2
                obtain ⟨o3, ho3⟩ : ∃ o : List UInt8, o2 ++ Lib.decDigits ex = o := ⟨_, rfl⟩
                have a3 : ∀ W, (Op.stringOp .add ⟨o2.toArray⟩ ⟨(Lib.decDigits ex).toArray⟩).run Tryd.prog W = .ok (.string ⟨o3.toArray⟩) W := fun W => by rw [← ho3]; exact run_string_add_lists W o2 _ (by have := HO2.out; omega) (by rw [Lib.decDigits_length]; have := Lib.nDigits_le20 ex (by omega); omega)
                have HQ3 := Lib.hid ho3
                have hxp : (0 : Int) < (ex : Int) := by omega
                clear ho3
                have HR : Hid (wordL ⟨true, l, (ex : Int)⟩ = o3) := Lib.hid (by rw [HWE.out]; unfold signL bodyL tailL; dsimp only; rw [HBD2.out, if_pos hxp, Lib.itoa_nonneg, ← HQ3.out, ← HQ2.out, ← HQ1.out]; simp)
                go_wp2_with fail
                refine (ref_Natural ex (by omega) _).mono ?_
                rintro e w9 ⟨rfl, hE9⟩
                have HE9 := Lib.hid (HE1.out.trans hE9)
                clear hE9
                go_wp2_with fail
                go_ret
                exact ⟨by rw [HR.out] <;> rfl, HE9.out⟩
              · obtain ⟨o1, ho1⟩ : ∃ o : List UInt8, 45 :: out = o := ⟨_, rfl⟩
                have HO1 : Hid (o1.length ≤ 400) := Lib.hid (by rw [← ho1, List.length_cons]; have := HLN.out; simp only [List.length_cons, List.length_nil] at *; omega)
                have a1 : ∀ W, (Op.stringOp .add ⟨#[45]⟩ ⟨out.toArray⟩).run Tryd.prog W = .ok (.string ⟨o1.toArray⟩) W := fun W => by rw [← ho1]; exact run_string_add_lists W [45] out (by simp) (by have := HLN.out; simp only [List.length_cons, List.length_nil] at *; omega)
                have HQ1 := Lib.hid ho1
                clear ho1
                have hxp : ¬ (0 : Int) < (ex : Int) := by omega
                have HR : Hid (wordL ⟨true, l, (ex : Int)⟩ = o1) := Lib.hid (by rw [HWE.out]; unfold signL bodyL tailL; dsimp only; rw [HBD2.out, if_neg hxp, ← HQ1.out]; simp)
                go_wp2_with fail
                go_ret
                exact ⟨by rw [HR.out] <;> rfl, HE1.out⟩
            | false =>
              by_cases hx0 : 0 < ex
              · obtain ⟨o2, ho2⟩ : ∃ o : List UInt8, out ++ [47] = o := ⟨_, rfl⟩
                have HO2 : Hid (o2.length ≤ 500) := Lib.hid (by rw [← ho2, List.length_append]; have := HLN.out; simp only [List.length_cons, List.length_nil] at *; omega)
                have a2 : ∀ W, (Op.stringOp .add ⟨out.toArray⟩ ⟨#[47]⟩).run Tryd.prog W = .ok (.string ⟨o2.toArray⟩) W := fun W => by rw [← ho2]; exact run_string_add_lists W out [47] (by have := HLN.out; simp only [List.length_cons, List.length_nil] at *; omega) (by simp)
                have HQ2 := Lib.hid ho2
                clear ho2
                obtain ⟨o3, ho3⟩ : ∃ o : List UInt8, o2 ++ Lib.decDigits ex = o := ⟨_, rfl⟩
                have a3 : ∀ W, (Op.stringOp .add ⟨o2.toArray⟩ ⟨(Lib.decDigits ex).toArray⟩).run Tryd.prog W = .ok (.string ⟨o3.toArray⟩) W := fun W => by rw [← ho3]; exact run_string_add_lists W o2 _ (by have := HO2.out; omega) (by rw [Lib.decDigits_length]; have := Lib.nDigits_le20 ex (by omega); omega)
                have HQ3 := Lib.hid ho3
                have hxp : (0 : Int) < (ex : Int) := by omega
                clear ho3
                have HR : Hid (wordL ⟨false, l, (ex : Int)⟩ = o3) := Lib.hid (by rw [HWE.out]; unfold signL bodyL tailL; dsimp only; rw [HBD2.out, if_pos hxp, Lib.itoa_nonneg, ← HQ3.out, ← HQ2.out]; simp)
                go_wp2_with fail
                refine (ref_Natural ex (by omega) _).mono ?_
                rintro e w9 ⟨rfl, hE9⟩
                have HE9 := Lib.hid (HE1.out.trans hE9)
                clear hE9
                go_wp2_with fail
                go_ret
                exact ⟨by rw [HR.out] <;> rfl, HE9.out⟩
              · have hxp : ¬ (0 : Int) < (ex : Int) := by omega
                have HR : Hid (wordL ⟨false, l, (ex : Int)⟩ = out) := Lib.hid (by rw [HWE.out]; unfold signL bodyL tailL; dsimp only; rw [HBD2.out, if_neg hxp]; simp)
                go_wp2_with fail
                go_ret
                exact ⟨by rw [HR.out] <;> rfl, HE1.out⟩
end Go.Proofs.YtgcbnagfdfgpnaaDoor
