/- The reference's words: a digit. -/
import Derived.Test.YtgcbnagfdfgpnaaDoorWordsAll26
import Derived.Test.YtgcbnagfdfgpnaaDoorWordsAll29
namespace Go.Proofs.YtgcbnagfdfgpnaaDoor
open Go.RowKit Go.Hx
theorem run_at (s : List UInt8) (i : Nat) (c : UInt8) (h : s[i]? = some c) (W : World) : (Instr.index 9 (.string ⟨s.toArray⟩) (.int .i64 (i : Int))).run Tryd.prog W = .ok (.int .u8 (c.toNat : Int)) W := by
  obtain ⟨h1, h2⟩ := List.getElem?_eq_some_iff.1 h
  rw [run_index_string W 9 ⟨s.toArray⟩ .i64 i Tryd.underlying9, dif_pos ⟨by omega, by show (i : Int) < (s.length : Int); omega⟩]
  subst h2
  rfl
theorem ref_digit (n : Nat) (hn : n < 16) (w : World) : Calls Tryd.prog 122 #[.int .i64 (n : Int)] w fun e w' => e = .returned (.string ⟨#[hexd n]⟩) ∧ w' = w := by
  have h : ∀ d : Fin 16, ((([48, 49, 50, 51, 52, 53, 54, 55, 56, 57, 97, 98, 99, 100, 101, 102] : List UInt8).drop d.val).take (d.val + 1 - d.val)) = [hexd d.val] := by decide +kernel
  have h1 : (ByteArray.mk ([48, 49, 50, 51, 52, 53, 54, 55, 56, 57, 97, 98, 99, 100, 101, 102] : List UInt8).toArray).extract n (n + 1) = ⟨[hexd n].toArray⟩ := by
    rw [Go.ByteArray.extract_mk, h ⟨n, hn⟩]
  have hn1 : (n : Int) < 16 := by omega
  have e1 : ((n : Int) + 1).toNat = n + 1 := by omega
  go_enter Tryd.func122, Tryd.ntmps122
  go_wp2_with fail
  go_ret
  exact ⟨rfl, rfl⟩
/-- a small digit's number to the base of 16; below 0: it is none -/
def sixL (b : Nat) : Int := if 48 ≤ b ∧ b ≤ 57 then (b : Int) - 48 else if 97 ≤ b ∧ b ≤ 102 then (b : Int) - 87 else -1
theorem ref_sixteen (b : Nat) (hb : b < 256) (w : World) : Calls Tryd.prog 82 #[.int .u8 (b : Int)] w fun e w' => e = .returned (.int .i64 (sixL b)) ∧ w' = w := by
  have hb1 : (b : Int) < 256 := by omega
  by_cases h1 : 48 ≤ b ∧ b ≤ 57
  · have HR : Hid (sixL b = (b : Int) - 48) := Lib.hid (if_pos h1)
    have h2 : (48 : Int) ≤ (b : Int) := by omega
    have h3 : (b : Int) ≤ 57 := by omega
    clear h1
    go_enter Tryd.func82, Tryd.ntmps82
    go_wp2_with fail
    go_ret
    exact ⟨by rw [HR.out] <;> rfl, rfl⟩
  · by_cases h4 : 97 ≤ b ∧ b ≤ 102
    · have HR : Hid (sixL b = (b : Int) - 87) := Lib.hid (by unfold sixL; rw [if_neg h1, if_pos h4])
      have h2 : (48 : Int) ≤ (b : Int) := by omega
      have h3 : ¬ (b : Int) ≤ 57 := by omega
      have h5 : (97 : Int) ≤ (b : Int) := by omega
      have h6 : (b : Int) ≤ 102 := by omega
      obtain ⟨q, hq⟩ : ∃ q : Nat, b - 97 = q := ⟨_, rfl⟩
      have e1 : (b : Int) - 97 = (q : Int) := by omega
      have hq6 : (q : Int) ≤ 5 := by omega
      have HQ : Hid ((q : Int) + 10 = (b : Int) - 87) := Lib.hid (by omega)
      clear h1 h4 hq
      go_enter Tryd.func82, Tryd.ntmps82
      go_wp2_with fail
      go_ret
      exact ⟨by rw [HR.out, ← HQ.out] <;> rfl, rfl⟩
    · have HR : Hid (sixL b = -1) := Lib.hid (by unfold sixL; rw [if_neg h1, if_neg h4])
      by_cases h2 : (48 : Int) ≤ (b : Int)
      · have h3 : ¬ (b : Int) ≤ 57 := by omega
        by_cases h5 : (97 : Int) ≤ (b : Int)
        · have h6 : ¬ (b : Int) ≤ 102 := by omega
          clear h1 h4
          go_enter Tryd.func82, Tryd.ntmps82
          go_wp2_with fail
          go_ret
          exact ⟨by rw [HR.out] <;> rfl, rfl⟩
        · clear h1 h4
          go_enter Tryd.func82, Tryd.ntmps82
          go_wp2_with fail
          go_ret
          exact ⟨by rw [HR.out] <;> rfl, rfl⟩
      · have h5 : ¬ (97 : Int) ≤ (b : Int) := by omega
        clear h1 h4
        go_enter Tryd.func82, Tryd.ntmps82
        go_wp2_with fail
        go_ret
        exact ⟨by rw [HR.out] <;> rfl, rfl⟩
end Go.Proofs.YtgcbnagfdfgpnaaDoor
