/- Numbers read to the base of 16, by the library. Printed by gen_parset.py. -/
import Derived.Test.YtgcbnagfdfgpnaaDoorWordsAll22
import Derived.Test.YtgcbnagfdfgpnaaDoorShelfW
namespace Go.Hx
open Go.RowKit
/-- what a letter may be: its bits, with that of small letters set -/
def lowN (c : UInt8) : Nat := (bits .or .u8 (c.toNat : Int) 32).toNat
/-- a digit's number to the base of 16 -/
def hexv (c : UInt8) : Option Nat :=
  if 48 ≤ c.toNat ∧ c.toNat ≤ 57 then some (c.toNat - 48)
  else if 97 ≤ lowN c ∧ lowN c ≤ 102 then some (lowN c - 87) else none
/-- the number that is written so to the base of 16 -/
def hexs : List UInt8 → Nat → Option Nat
  | [], a => some a
  | c :: r, a => match hexv c with
    | some d => hexs r (16 * a + d)
    | none => none
theorem lowN_eq : ∀ c : UInt8, bits .or .u8 (c.toNat : Int) 32 = (lowN c : Int) ∧ lowN c < 256 := by
  intro c
  have h : ∀ n : Fin 256, bits .or .u8 (n.val : Int) 32 = ((bits .or .u8 (n.val : Int) 32).toNat : Int) ∧ (bits .or .u8 (n.val : Int) 32).toNat < 256 := by decide +kernel
  exact h ⟨c.toNat, c.toNat_lt⟩
theorem lowN_small (c : UInt8) (h : c.toNat < 48) : lowN c < 97 := by
  have h' : ∀ n : Fin 256, n.val < 48 → (bits .or .u8 (n.val : Int) 32).toNat < 97 := by decide +kernel
  exact h' ⟨c.toNat, c.toNat_lt⟩ h
theorem lowN_95 (c : UInt8) (h : c.toNat = 95) : lowN c = 127 := by
  have h' : ∀ n : Fin 256, n.val = 95 → (bits .or .u8 (n.val : Int) 32).toNat = 127 := by decide +kernel
  exact h' ⟨c.toNat, c.toNat_lt⟩ h
theorem hexs_snoc (c : UInt8) : ∀ (l : List UInt8) (a : Nat), hexs (l ++ [c]) a = match hexs l a with
    | some n => match hexv c with
      | some d => some (16 * n + d)
      | none => none
    | none => none
  | [], a => by simp only [List.nil_append, hexs]
  | x :: l, a => by
    simp only [List.cons_append, hexs]
    cases hexv x with
    | none => rfl
    | some d => exact hexs_snoc c l _
theorem hexs_app (r : List UInt8) : ∀ (l : List UInt8) (a : Nat), hexs l a = none → hexs (l ++ r) a = none
  | [], a, h => by simp [hexs] at h
  | x :: l, a, h => by
    simp only [List.cons_append, hexs] at h ⊢
    cases hx : hexv x with
    | none => rfl
    | some d => rw [hx] at h; exact hexs_app r l _ h
theorem hexs_bad {s : List UInt8} {k : Nat} {c : UInt8} (hz : s[k]? = some c) (hc : hexv c = none) : hexs s 0 = none := by
  have h1 : hexs (s.take (k + 1)) 0 = none := by
    rw [take_snoc hz, hexs_snoc, hc]
    cases hexs (s.take k) 0 <;> rfl
  have h2 := hexs_app (s.drop (k + 1)) _ _ h1
  rwa [List.take_append_drop] at h2
end Go.Hx
namespace Go.Proofs.YtgcbnagfdfgpnaaDoor
open Go.RowKit Go.Hx
set_option maxRecDepth 100000 in
set_option maxHeartbeats 4000000 in
theorem parse_16i (s : List UInt8) (hs : s ≠ []) (h8 : s.length ≤ 8) (w : World) :
    Calls Tryd.prog 129 #[.string ⟨s.toArray⟩, .int .i64 16, .int .i64 32] w fun e w' => (∃ v, e = .returned (.tuple #[.int .u64 (v : Nat), .nilIface]) ∧ hexs s 0 = some v ∧ v < 4294967296 ∧ Ext w w') ∨ (∃ u, e = .returned (.tuple #[u, .iface 213 (.int .i64 2)]) ∧ hexs s 0 = none ∧ Ext w w') := by
  obtain ⟨W1, cap, hcv, hE1, hcl⟩ : ∃ W1 cap, (convert 9 105 (.string ⟨s.toArray⟩)).run Tryd.prog w = .ok (.slice (some ⟨w.heap.size, 0, none⟩) s.length cap) W1 ∧ Ext w W1 ∧ ∀ (k : Nat) (c : UInt8), s[k]? = some c → W1.cell? ⟨w.heap.size, k, none⟩ = some (.int .u8 (c.toNat : Int)) := by
    refine ⟨_, _, run_bytes_of_string w 9 105 5 ⟨s.toArray⟩ Tryd.underlying9 Tryd.underlying105 Tryd.underlying5, (Ext.drew w).trans (Ext.alloc _ _), fun k c hk => ?_⟩
    have hg := heap_alloc_new w.drew (.cells (bytesRow ⟨s.toArray⟩ (grownCap w (ByteArray.size ⟨s.toArray⟩) 0 5)) 5 ((bytesRow ⟨s.toArray⟩ (grownCap w (ByteArray.size ⟨s.toArray⟩) 0 5)).size, (bytesRow ⟨s.toArray⟩ (grownCap w (ByteArray.size ⟨s.toArray⟩) 0 5)).size + 1))
    have hk2 := List.getElem?_eq_some_iff.1 hk
    obtain ⟨hk3, hk4⟩ := hk2
    have hb := bytesRow_at ⟨s.toArray⟩ (grownCap w (ByteArray.size ⟨s.toArray⟩) 0 5) k (by simpa using hk3)
    simp only [List.getElem_toArray, hk4] at hb
    exact (cell_of_row _ _ k _ _ _ hg).trans hb
  have hse : s.isEmpty = false := by cases s with | nil => exact absurd rfl hs | cons a r => rfl
  have HCL := Lib.hid hcl
  have H8 := Lib.hid h8
  have HE1 := Lib.hid hE1
  clear hcl h8 hE1
  go_enter Tryd.func129, Tryd.ntmps129
  go_wp2_with fail
  clear hcv
  go_loopw [12, 13, 101] (fun u x i W => ∃ (k n : Nat), k ≤ s.length ∧ u = .bool false ∧ x = .int .u64 n ∧ i = .int .i64 k ∧ Hid (Ext W1 W ∧ hexs (s.take k) 0 = some n ∧ n < 16 ^ k)) (fun _ _ i _ => s.length - (intOf i).toNat)
  case atStart => exact ⟨0, 0, by omega, rfl, rfl, rfl, Lib.hid ⟨Ext.refl _, by simp [hexs], by decide⟩⟩
  case round =>
    obtain ⟨k, n, hk, rfl, rfl, rfl, HI⟩ := hrel
    by_cases hlt : k < s.length
    · obtain ⟨c, hz⟩ : ∃ c, s[k]? = some c := ⟨_, List.getElem?_eq_getElem hlt⟩
      have hc : wr.cell? ⟨w.heap.size, k, none⟩ = some (.int .u8 (c.toNat : Int)) := HI.out.1.cell (HCL.out k c hz)
      have hki : (k : Int) < (s.length : Int) := by omega
      have hk8 : k < 8 := by have := H8.out; omega
      have hn7 : n < 268435456 := by
        have h1 : 16 ^ k ≤ 16 ^ 7 := Nat.pow_le_pow_right (by decide) (by omega)
        have h2 : (16 : Nat) ^ 7 = 268435456 := by decide
        have := HI.out.2.2
        omega
      obtain ⟨hlw, hl256⟩ := lowN_eq c
      have hc256 := c.toNat_lt
      have HZ := Lib.hid hz
      have HV : Hid (hexv c = if 48 ≤ c.toNat ∧ c.toNat ≤ 57 then some (c.toNat - 48) else if 97 ≤ lowN c ∧ lowN c ≤ 102 then some (lowN c - 87) else none) := Lib.hid rfl
      clear hz
      have hls := lowN_small c
      have hl95 := lowN_95 c
      generalize c.toNat = b at *
      generalize lowN c = lw at *
      by_cases hdg : 48 ≤ b ∧ b ≤ 57
      · have HVd := Lib.hid (HV.out.trans (if_pos hdg))
        clear HV
        obtain ⟨hd1, hd2⟩ := hdg
        have hd1' : (48 : Int) ≤ (b : Int) := by omega
        have hd2' : (b : Int) ≤ 57 := by omega
        obtain ⟨d, hd⟩ : ∃ d, b - 48 = d := ⟨_, rfl⟩
        have e1 : (b : Int) - 48 = (d : Int) := by omega
        have hd10 : d < 10 := by omega
        rw [hd] at HVd
        have hne : ¬ (b : Int) = 95 := by omega
        clear hd hls hl95
        have hd16 : ¬ (16 : Int) ≤ (d : Int) := by omega
        have hcut : ¬ (1152921504606846976 : Int) ≤ (n : Int) := by omega
        have e2 : (n : Int) * 16 = ((16 * n : Nat) : Int) := by omega
        have hcm : ¬ (((16 * n + d : Nat) : Int) < ((16 * n : Nat) : Int)) := by omega
        have hcm2 : ¬ ((4294967295 : Int) < ((16 * n + d : Nat) : Int)) := by omega
        have e3 : ((16 * n : Nat) : Int) + (d : Int) = ((16 * n + d : Nat) : Int) := by omega
        have hb1 : ((16 * n : Nat) : Int) < 4294967296 := by omega
        have hb2 : ((16 * n + d : Nat) : Int) < 4294967296 := by omega
        have HNI : Hid (Ext W1 wr ∧ hexs (s.take (k + 1)) 0 = some (16 * n + d) ∧ 16 * n + d < 16 ^ (k + 1)) := Lib.hid ⟨HI.out.1, by rw [take_snoc HZ.out, hexs_snoc, HI.out.2.1]; simp only [HVd.out], by rw [Nat.pow_succ]; have := HI.out.2.2; omega⟩
        generalize 16 * n + d = n2 at *
        generalize 16 * n = n1 at *
        go_wp2_with fail
        go_roundw
        case rel => exact ⟨k + 1, n2, by omega, rfl, rfl, by go_num, HNI⟩
        case measure => simp [intOf]; omega
      · have HV2 := Lib.hid (HV.out.trans (if_neg hdg))
        clear HV
        by_cases hb48 : b < 48
        · have hl97 := hls hb48
          have HVd := Lib.hid (HV2.out.trans (if_neg (by omega)))
          have hq1 : ¬ (48 : Int) ≤ (b : Int) := by omega
          have hq2 : ¬ (97 : Int) ≤ (lw : Int) := by omega
          have hne : ¬ (b : Int) = 95 := by omega
          clear HV2 hls hl95 hdg
          have hno : Hid (hexs s 0 = none) := Lib.hid (hexs_bad HZ.out HVd.out)
          go_wp2_with (first | (go_at_call 154; refine (Tryd.internal_strconv_lower (b : Int) _).mono ?_; rintro e w7 ⟨rfl, rfl⟩; rw [hlw]) | fail)
          go_ret2
          first | exact .inr ⟨⟨_, rfl⟩, hno.out, HE1.out.trans HI.out.1⟩ | exact .inr ⟨_, rfl, hno.out, HE1.out.trans HI.out.1⟩ | exact ⟨⟨_, rfl⟩, hno.out, HE1.out.trans HI.out.1⟩
        have hq1 : (48 : Int) ≤ (b : Int) := by omega
        have hq3 : ¬ (b : Int) ≤ 57 := by omega
        by_cases hl97 : lw < 97
        · have HVd := Lib.hid (HV2.out.trans (if_neg (by omega)))
          have hq2 : ¬ (97 : Int) ≤ (lw : Int) := by omega
          have hne : ¬ (b : Int) = 95 := fun h => by have := hl95 (by omega); omega
          clear HV2 hls hl95 hdg
          have hno : Hid (hexs s 0 = none) := Lib.hid (hexs_bad HZ.out HVd.out)
          go_wp2_with (first | (go_at_call 154; refine (Tryd.internal_strconv_lower (b : Int) _).mono ?_; rintro e w7 ⟨rfl, rfl⟩; rw [hlw]) | fail)
          go_ret2
          first | exact .inr ⟨⟨_, rfl⟩, hno.out, HE1.out.trans HI.out.1⟩ | exact .inr ⟨_, rfl, hno.out, HE1.out.trans HI.out.1⟩ | exact ⟨⟨_, rfl⟩, hno.out, HE1.out.trans HI.out.1⟩
        have hq2 : (97 : Int) ≤ (lw : Int) := by omega
        by_cases hl122 : lw ≤ 122
        · have hq4 : (lw : Int) ≤ 122 := by omega
          have hne : ¬ (b : Int) = 95 := fun h => by have := hl95 (by omega); omega
          obtain ⟨q, hq⟩ : ∃ q, lw - 97 = q := ⟨_, rfl⟩
          obtain ⟨d, hd⟩ : ∃ d, q + 10 = d := ⟨_, rfl⟩
          have e1 : (lw : Int) - 97 = (q : Int) := by omega
          have e4 : (q : Int) + 10 = (d : Int) := by omega
          have hq200 : q < 200 := by omega
          have hd200 : d < 200 := by omega
          by_cases hl102 : lw ≤ 102
          · have HVd : Hid (hexv c = some d) := Lib.hid ((HV2.out.trans (if_pos ⟨by omega, hl102⟩)).trans (by rw [← hd, ← hq]; exact congrArg some (by omega)))
            clear HV2 hls hl95 hdg
            have hd15 : d < 16 := by omega
            clear hd hq
            have hd16 : ¬ (16 : Int) ≤ (d : Int) := by omega
            have hdI : (d : Int) < 16 := by omega
            have hqI : (q : Int) < 200 := by omega
            have hd0 : (0 : Int) ≤ (d : Int) := by omega
            have hcut : ¬ (1152921504606846976 : Int) ≤ (n : Int) := by omega
            have e2 : (n : Int) * 16 = ((16 * n : Nat) : Int) := by omega
            have hcm : ¬ (((16 * n + d : Nat) : Int) < ((16 * n : Nat) : Int)) := by omega
            have hcm2 : ¬ ((4294967295 : Int) < ((16 * n + d : Nat) : Int)) := by omega
            have e3 : ((16 * n : Nat) : Int) + (d : Int) = ((16 * n + d : Nat) : Int) := by omega
            have hb1 : ((16 * n : Nat) : Int) < 4294967296 := by omega
            have hb2 : ((16 * n + d : Nat) : Int) < 4294967296 := by omega
            have HNI : Hid (Ext W1 wr ∧ hexs (s.take (k + 1)) 0 = some (16 * n + d) ∧ 16 * n + d < 16 ^ (k + 1)) := Lib.hid ⟨HI.out.1, by rw [take_snoc HZ.out, hexs_snoc, HI.out.2.1]; simp only [HVd.out], by rw [Nat.pow_succ]; have := HI.out.2.2; omega⟩
            generalize 16 * n + d = n2 at *
            generalize 16 * n = n1 at *
            go_wp2_with (first | (go_at_call 154; refine (Tryd.internal_strconv_lower (b : Int) _).mono ?_; rintro e w7 ⟨rfl, rfl⟩; rw [hlw]; simp only []) | fail)
            go_roundw
            case rel => exact ⟨k + 1, n2, by omega, rfl, rfl, by go_num, HNI⟩
            case measure => simp [intOf]; omega
          · have HVd := Lib.hid (HV2.out.trans (if_neg (by omega)))
            have hd16 : decide ((16 : Int) ≤ (d : Int)) = true := decide_eq_true (by omega)
            have hdI : (d : Int) < 200 := by omega
            have hqI : (q : Int) < 200 := by omega
            clear HV2 hls hl95 hdg hd hq
            have hno : Hid (hexs s 0 = none) := Lib.hid (hexs_bad HZ.out HVd.out)
            go_wp2_with (first | (go_at_call 154; refine (Tryd.internal_strconv_lower (b : Int) _).mono ?_; rintro e w7 ⟨rfl, rfl⟩; rw [hlw]) | fail)
            go_ret2
            first | exact .inr ⟨⟨_, rfl⟩, hno.out, HE1.out.trans HI.out.1⟩ | exact .inr ⟨_, rfl, hno.out, HE1.out.trans HI.out.1⟩ | exact ⟨⟨_, rfl⟩, hno.out, HE1.out.trans HI.out.1⟩
        · have HVd := Lib.hid (HV2.out.trans (if_neg (by omega)))
          have hq4 : ¬ (lw : Int) ≤ 122 := by omega
          clear HV2 hls hl95 hdg
          by_cases hne : (b : Int) = 95
          · have hno : Hid (hexs s 0 = none) := Lib.hid (hexs_bad HZ.out HVd.out)
            go_wp2_with (first | (go_at_call 154; refine (Tryd.internal_strconv_lower 95 _).mono ?_; rintro e w7 ⟨rfl, rfl⟩; rw [show bits .or .u8 95 32 = 127 from by kernel_rfl]) | fail)
            go_ret2
            first | exact .inr ⟨⟨_, rfl⟩, hno.out, HE1.out.trans HI.out.1⟩ | exact .inr ⟨_, rfl, hno.out, HE1.out.trans HI.out.1⟩ | exact ⟨⟨_, rfl⟩, hno.out, HE1.out.trans HI.out.1⟩
          · have hno : Hid (hexs s 0 = none) := Lib.hid (hexs_bad HZ.out HVd.out)
            go_wp2_with (first | (go_at_call 154; refine (Tryd.internal_strconv_lower (b : Int) _).mono ?_; rintro e w7 ⟨rfl, rfl⟩; rw [hlw]) | fail)
            go_ret2
            first | exact .inr ⟨⟨_, rfl⟩, hno.out, HE1.out.trans HI.out.1⟩ | exact .inr ⟨_, rfl, hno.out, HE1.out.trans HI.out.1⟩ | exact ⟨⟨_, rfl⟩, hno.out, HE1.out.trans HI.out.1⟩
    · have hki : ¬ (k : Int) < (s.length : Int) := by omega
      have HV : Hid (hexs s 0 = some n ∧ n < 4294967296) := Lib.hid ⟨by have := HI.out.2.1; rwa [List.take_of_length_le (by omega)] at this, by
        have h1 : 16 ^ k ≤ 16 ^ 8 := Nat.pow_le_pow_right (by decide) (by have := H8.out; omega)
        have h2 : (16 : Nat) ^ 8 = 4294967296 := by decide
        have := HI.out.2.2
        omega⟩
      go_wp2_with fail
      go_ret2
      exact .inl ⟨n, rfl, HV.out.1, HV.out.2, HE1.out.trans HI.out.1⟩
/-- the library's error variable of syntax lies -/
def Esy (w : World) : Prop := ∃ t p, w.cell? ⟨2, 0, none⟩ = some (.iface t p)
theorem Esy.ext {w w' : World} (h : Esy w) (k : Ext w w') : Esy w' := by
  obtain ⟨t, p, h⟩ := h
  exact ⟨t, p, k.cell h⟩
theorem parse_16 (s : List UInt8) (hs : s ≠ []) (h8 : s.length ≤ 8) (w : World) (hE : Esy w) :
    Calls Tryd.prog 80 #[.string ⟨s.toArray⟩, .int .i64 16, .int .i64 32] w fun e w' => (∃ v, e = .returned (.tuple #[.int .u64 (v : Nat), .nilIface]) ∧ hexs s 0 = some v ∧ v < 4294967296 ∧ Ext w w') ∨ (∃ u t p, e = .returned (.tuple #[u, .iface t p]) ∧ hexs s 0 = none ∧ Ext w w') := by
  have HE := Lib.hid hE
  have H8 := Lib.hid h8
  clear hE h8
  go_enter Tryd.func80, Tryd.ntmps80
  go_wp2_with fail
  refine (parse_16i s hs H8.out _).mono ?_
  rintro e w1 (⟨v, rfl, hv, hv32, hE1⟩ | ⟨u, rfl, hno, hE1⟩)
  · have HV : Hid (hexs s 0 = some v ∧ v < 4294967296 ∧ Ext w w1) := Lib.hid ⟨hv, hv32, hE1⟩
    clear hv hv32 hE1
    go_wp2_with fail
    go_ret2
    exact .inl ⟨v, rfl, HV.out.1, HV.out.2.1, HV.out.2.2⟩
  · have HV : Hid (hexs s 0 = none ∧ Ext w w1) := Lib.hid ⟨hno, hE1⟩
    clear hno hE1
    obtain ⟨t, p, hcell⟩ := HE.out.ext HV.out.2
    have HT := Tryd.strconv_toError_syntax ⟨#[80, 97, 114, 115, 101, 85, 105, 110, 116]⟩ ⟨s.toArray⟩ 16 32 (.iface t p) w1 (by have := H8.out; simp [ByteArray.size]; omega) hcell (.inr ⟨t, p, rfl⟩)
    clear hcell
    go_wp2_with fail
    refine HT.mono ?_
    rintro e w2 ⟨N, rfl, _, _, hB⟩
    have HX : Hid (Ext w w2) := Lib.hid (HV.out.2.trans hB)
    clear hB
    go_wp2_with fail
    go_ret2
    exact .inr ⟨_, _, _, rfl, HV.out.1, HX.out⟩
end Go.Proofs.YtgcbnagfdfgpnaaDoor
