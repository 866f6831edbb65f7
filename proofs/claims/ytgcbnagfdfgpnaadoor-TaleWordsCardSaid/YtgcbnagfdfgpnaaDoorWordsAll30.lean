/- A dyad's word: the program. Printed by gen_wordt.py. -/
import Derived.Test.YtgcbnagfdfgpnaaDoorWordsAll26
import Derived.Test.YtgcbnagfdfgpnaaDoorWordsAll1
import Derived.Test.YtgcbnagfdfgpnaaDoorShelfW
import Derived.Test.YtgcbnagfdfgpnaaDoorWordsAll29
import Derived.Lib.ItoaLen
namespace Go.Proofs.YtgcbnagfdfgpnaaDoor
open Go.RowKit Go.Hx
set_option linter.unusedSimpArgs false
set_option linter.unusedVariables false
theorem ext_low {a b c : World} {B : Nat} (h : Ext a b) (k : Below B b c) (hB : a.heap.size ≤ B) : Ext a c := Below.trans h (k.mono hB)
structure WrdI (w W : World) (B : Nat) (cs : List Value) (sg : List UInt8) (l : List Nat) (k : Nat) : Prop where
  ext : Ext w W
  blk : Blk W w.heap.size 24 cs
  bld : Bld B (sg ++ digL (l.drop k)) W
  low : w.heap.size < B
set_option maxRecDepth 100000 in
set_option maxHeartbeats 4000000 in
theorem tale_word (x : XDyad) (w : World) (hx : x.ok w w.heap.size) (hl : ∀ n ∈ x.limbs.l, n < 4294967296) (h100 : x.limbs.l.length ≤ 100) (hex : inI64 x.exp) (hT : Tz w) (hP : Pow w) :
    Calls Tryd.prog 72 #[.agg #[.bool x.neg, .slice x.limbs.A x.limbs.l.length x.limbs.c, .int .i64 x.exp]] w fun e w' => e = .returned (.string ⟨(wordL x.data).toArray⟩) ∧ Ext w w' := by
  have HLM := Lib.hid hl
  have HX := Lib.hid hex
  have HT := Lib.hid hT
  have HP := Lib.hid hP
  have HS := Lib.hid hx.limbs.1
  have H100 := Lib.hid h100
  have HIL : Hid ((Lib.itoa x.exp).length ≤ 21) := Lib.hid (Lib.itoa_length_le _ hex.1 hex.2)
  have hL100 : (x.limbs.l.length : Int) ≤ 100 := by omega
  obtain ⟨ng, ⟨l, A, c⟩, ex⟩ := x
  clear hx hl hex hT hP h100
  dsimp only [XDyad.data] at *
  have hb0 : Blk (w.alloc (.cells #[.bool ng, .slice A l.length c, .int .i64 ex] 24)) w.heap.size 24 [.bool ng, .slice A l.length c, .int .i64 ex] := Blk.new rfl
  have hc0 : ((w.alloc (.cells #[.bool ng, .slice A l.length c, .int .i64 ex] 24)).alloc (.cells #[.pointer none, .slice none 0 0] 107)).cell? ⟨w.heap.size, 0, none⟩ = some (.bool ng) := (hb0.alloc _).cell 0
  have HB0 := Lib.hid hb0
  clear hb0
  go_enter Tryd.func72, Tryd.ntmps72
  cases ng with
  | false =>
    have HI0 : Hid (WrdI w ((w.alloc (.cells #[.bool false, .slice A l.length c, .int .i64 ex] 24)).alloc (.cells #[.pointer none, .slice none 0 0] 107)) (w.heap.size + 1) [.bool false, .slice A l.length c, .int .i64 ex] [] l l.length) := Lib.hid ⟨Ext.alloc' (Ext.alloc _ _) _, HB0.out.alloc _, by
      have := Lib.fresh_isBuilder 107 5 (w.alloc (.cells #[.bool false, .slice A l.length c, .int .i64 ex] 24))
      rw [show (w.alloc (.cells #[.bool false, .slice A l.length c, .int .i64 ex] 24)).heap.size = w.heap.size + 1 from Array.size_push _] at this
      rw [List.drop_length]
      exact this, by omega⟩
    have hcs : ((w.alloc (.cells #[.bool false, .slice A l.length c, .int .i64 ex] 24)).alloc (.cells #[.pointer none, .slice none 0 0] 107)).cell? ⟨w.heap.size, 1, none⟩ = some (.slice A l.length c) := HI0.out.blk.cell 1
    go_wp2_with fail
    have hcs0 := HI0.out.blk.cell 1
    try clear hc0
    go_loopw [4] (fun v W => ∃ (k : Nat) (z : Int), z + 1 = (k : Int) ∧ k ≤ l.length ∧ v = .int .i64 z ∧ Hid (WrdI w W (w.heap.size + 1) [.bool false, .slice A l.length c, .int .i64 ex] [] l k)) (fun v _ => (intOf v + 1).toNat)
    case atStart => exact ⟨l.length, (l.length : Int) - 1, by omega, Nat.le_refl _, rfl, HI0⟩
    case round =>
      obtain ⟨k, z, hzk, hk, rfl, HI⟩ := hrel
      clear HI0 hcs0
      have hcs : wr.cell? ⟨w.heap.size, 1, none⟩ = some (.slice A l.length c) := HI.out.blk.cell 1
      by_cases h0 : 0 ≤ z
      · obtain ⟨j, rfl⟩ : ∃ j : Nat, z = j := ⟨z.toNat, by omega⟩
        have hjl : j < l.length := by omega
        have hji : (j : Int) < (l.length : Int) := by omega
        obtain ⟨n, hn⟩ : ∃ n, l[j]? = some n := ⟨_, List.getElem?_eq_getElem hjl⟩
        have HN := Lib.hid hn
        have HN32 : Hid (n < 4294967296) := Lib.hid (HLM.out n (List.mem_of_getElem? hn))
        obtain ⟨b1, o1, rfl, hb1, hrow⟩ := Sl.row (size := 1) (fun _ => rfl) HS.out hn
        have hc : wr.cell? ⟨b1, o1 + j, none⟩ = some (.int .u32 (n : Int)) := by have := hrow.below HI.out.ext.below hb1 0 _ rfl; simpa using this
        have hn32 : (n : Int) < 4294967296 := by have := HN32.out; omega
        obtain ⟨hs, hhs⟩ : ∃ s, hexL n = s := ⟨_, rfl⟩
        have HL8 : Hid (hs.length ≤ 8) := Lib.hid (by rw [← hhs]; exact hexL_len8 HN32.out)
        have HHS := Lib.hid hhs
        have hsz : ((⟨hs.toArray⟩ : ByteArray).size : Int) = (hs.length : Int) := rfl
        clear hn hb1 hrow
        by_cases hlast : (j : Int) < (l.length : Int) - 1
        · go_wp2_with fail
          refine (fmt_16 n HN32.out _ (HT.out.ext HI.out.ext)).mono ?_
          rw [hhs]
          rintro e w3 ⟨rfl, hE3⟩
          have hcs3 : w3.cell? ⟨w.heap.size, 1, none⟩ = some (.slice (some ⟨b1, o1, none⟩) l.length c) := (HI.out.blk.ext hE3).cell 1
          clear hcs hc hhs
          obtain ⟨q, hq⟩ : ∃ q, 8 - hs.length = q := ⟨_, rfl⟩
          have e8 : (8 : Int) - (hs.length : Int) = (q : Int) := by have := HL8.out; omega
          have hq8 : (q : Int) ≤ 8 := by omega
          have hs8 : (hs.length : Int) ≤ 8 := by have := HL8.out; omega
          have HB3 := Lib.hid (HI.out.bld.ext hE3)
          have HE3 := Lib.hid (HI.out.ext.trans hE3)
          have HK3 := Lib.hid (HI.out.blk.ext hE3)
          have HDL : Hid ((digL (l.drop k)).length ≤ 1000) := Lib.hid (by
            have h1 := digL_len (l.drop k) fun n hn => HLM.out n (List.mem_of_mem_drop hn)
            have h2 := H100.out
            rw [List.length_drop] at h1
            omega)
          clear hE3
          go_wp2_with fail
          clear hcs3
          refine (Tryd.strings_Repeat ⟨#[48]⟩ q _ (by omega) (by show 1 * q ≤ _; omega)).mono ?_
          rintro e w4 ⟨rfl, hE4⟩
          have HB4 := Lib.hid (HB3.out.ext hE4)
          have HE4 := Lib.hid (HE3.out.trans hE4)
          have HK4 := Lib.hid (HK3.out.ext hE4)
          clear hE4 HB3 HE3 HK3
          have HQ : Hid (Lib.repeatL [48] q ++ hs = pad8 (hexL n) ∧ (Lib.repeatL [48] q).length ≤ 8) := Lib.hid ⟨by unfold pad8; rw [HHS.out, hq], by rw [Lib.repeatL_length]; simp; omega⟩
          obtain ⟨rq, hrq⟩ : ∃ r, Lib.repeatL [48] q = r := ⟨_, rfl⟩
          rw [show (ByteArray.mk #[48]).data.toList = [48] from rfl, hrq]
          rw [hrq] at HQ
          clear hrq
          go_wp2_with fail
          refine (bld_write _ _ _ _ HB4.out (by have := HDL.out; have := HQ.out.2; simp [ByteArray.size] at *; omega)).mono ?_
          rintro e w5 ⟨rfl, hB5, hb5⟩
          have HB5 := Lib.hid hB5
          have HE5 := Lib.hid (ext_low HE4.out hb5 (by omega))
          have HK5 : Hid (Blk w5 w.heap.size _ _) := Lib.hid ((hb5.block _ (by omega)).trans HK4.out)
          clear hB5 hb5 HB4 HE4 HK4
          go_wp2_with fail
          refine (bld_write _ _ _ _ HB5.out (by have := HDL.out; have := HQ.out.2; simp [ByteArray.size] at *; omega)).mono ?_
          rintro e w6 ⟨rfl, hB6, hb6⟩
          have HNX : Hid (WrdI w w6 (w.heap.size + 1) [.bool false, .slice (some ⟨b1, o1, none⟩) l.length c, .int .i64 ex] [] l j) := Lib.hid ⟨ext_low HE5.out hb6 (by omega), (hb6.block _ (by omega)).trans HK5.out, by
            have h1 : k = j + 1 := by omega
            subst h1
            have h2 : l.drop j = n :: l.drop (j + 1) := drop_cons HN.out
            have h3 : l.drop (j + 1) ≠ [] := fun h => by have := congrArg List.length h; rw [List.length_drop] at this; simp at this; omega
            have h4 := HQ.out.1
            rw [h2]
            unfold digL
            rw [if_neg h3, ← h4]
            simpa [List.append_assoc] using hB6, by omega⟩
          clear hB6 hb6 HB5 HE5 HK5 HDL HQ
          go_wp2_with fail
          go_roundw
          case rel => exact ⟨j, (j : Int) - 1, by omega, by omega, by go_num, HNX⟩
          case measure => simp [intOf] <;> omega
        · have hl2 : (l.length : Int) - 1 ≤ (j : Int) := by omega
          have hl3 : decide ((j : Int) < (l.length : Int) - 1) = false := decide_eq_false (by omega)
          go_wp2_with fail
          refine (fmt_16 n HN32.out _ (HT.out.ext HI.out.ext)).mono ?_
          rw [hhs]
          rintro e w3 ⟨rfl, hE3⟩
          have hcs3 : w3.cell? ⟨w.heap.size, 1, none⟩ = some (.slice (some ⟨b1, o1, none⟩) l.length c) := (HI.out.blk.ext hE3).cell 1
          clear hcs hc hhs
          have hj100 : (j : Int) < 100 := by omega
          have HB3 := Lib.hid (HI.out.bld.ext hE3)
          have HE3 := Lib.hid (HI.out.ext.trans hE3)
          have HK3 := Lib.hid (HI.out.blk.ext hE3)
          have hs8 : (hs.length : Int) ≤ 8 := by have := HL8.out; omega
          have HDK : Hid (l.drop k = []) := Lib.hid (List.drop_eq_nil_of_le (by omega))
          rw [HDK.out] at HB3
          clear hE3
          go_wp2_with fail
          clear hcs3
          refine (bld_write _ _ _ _ HB3.out (by have := HL8.out; simp [ByteArray.size, digL] at *; omega)).mono ?_
          rintro e w6 ⟨rfl, hB6, hb6⟩
          have HNX : Hid (WrdI w w6 (w.heap.size + 1) [.bool false, .slice (some ⟨b1, o1, none⟩) l.length c, .int .i64 ex] [] l j) := Lib.hid ⟨ext_low HE3.out hb6 (by omega), (hb6.block _ (by omega)).trans HK3.out, by
            have h1 : k = j + 1 := by omega
            subst h1
            have h2 : l.drop j = n :: l.drop (j + 1) := drop_cons HN.out
            rw [h2]
            unfold digL
            rw [if_pos HDK.out, HHS.out]
            simpa [digL] using hB6, by omega⟩
          clear hB6 hb6 HB3 HE3 HK3
          go_wp2_with fail
          go_roundw
          case rel => exact ⟨j, (j : Int) - 1, by omega, by omega, by go_num, HNX⟩
          case measure => simp [intOf] <;> omega
      · have hk0 : k = 0 := by omega
        subst hk0
        have HBX : Hid (Bld (w.heap.size + 1) ([] ++ digL l) wr) := Lib.hid (by have := HI.out.bld; rwa [List.drop_zero] at this)
        have HDZ : Hid ((digL l).length ≤ 800) := Lib.hid (by have h1 := digL_len l HLM.out; have h2 := H100.out; have h3 : l.length ≤ 100 := h2; omega)
        have HE1 := Lib.hid HI.out.ext
        have HK1 := Lib.hid HI.out.blk
        by_cases hl0 : l = []
        · have hln : (l.length : Int) = 0 := by rw [hl0]; rfl
          have HL0 := Lib.hid hl0
          clear hl0
          go_wp2_with fail
          refine (bld_byte _ _ _ 48 HBX.out (by have := HDZ.out; simp at *; omega)).mono ?_
          rintro e w2 ⟨rfl, hB2, hb2⟩
          have HB2 := Lib.hid hB2
          have HK2 : Hid (Blk w2 w.heap.size _ _) := Lib.hid ((hb2.block _ (by omega)).trans HK1.out)
          have HE2 := Lib.hid (ext_low HE1.out hb2 (by omega))
          clear hB2 hb2
          have hce : w2.cell? ⟨w.heap.size, 2, none⟩ = some (.int .i64 ex) := HK2.out.cell 2
          by_cases he : (0 : Int) < ex
          · have a1 : ∀ W, (Op.stringOp .add ⟨#[47]⟩ ⟨(Lib.itoa ex).toArray⟩).run Tryd.prog W = .ok (.string ⟨(47 :: Lib.itoa ex).toArray⟩) W := fun W => run_string_add_lists W [47] _ (by simp) (by have := HIL.out; omega)
            go_wp2_with fail
            refine (itoa_int ex HX.out.1 HX.out.2 _ (HP.out.ext HE2.out)).mono ?_
            rintro e w7 ⟨rfl, hE7⟩
            have HB7 := Lib.hid (HB2.out.ext hE7)
            have HE7 := Lib.hid (HE2.out.trans hE7)
            clear hE7 hce
            go_wp2_with fail
            refine (bld_write _ _ _ _ HB7.out (by have := HDZ.out; have := HIL.out; simp [ByteArray.size] at *; omega)).mono ?_
            rintro e w8 ⟨rfl, hB8, hb8⟩
            have HB8 := Lib.hid hB8
            have HE8 := Lib.hid (ext_low HE7.out hb8 (by omega))
            have HR : Hid (wordL ⟨false, l, ex⟩ = ([] ++ digL l ++ [48]) ++ (47 :: Lib.itoa ex)) := Lib.hid (by unfold wordL; simp [HL0.out, he, digL])
            clear hB8 hb8
            obtain ⟨tx, htx⟩ : ∃ t, ([] ++ digL l ++ [48]) ++ (47 :: Lib.itoa ex) = t := ⟨_, rfl⟩
            have HB9 : Hid (Bld (w.heap.size + 1) tx w8) := Lib.hid (by rw [← htx]; exact HB8.out)
            rw [htx] at HR
            clear HB8 htx
            go_wp2_with fail
            refine (Tryd.Builder_String_any _ _ _ _ HB9.out (Nat.le_of_lt HB9.out.lt)).mono ?_
            rintro e w9 ⟨rfl, hb9⟩
            have HE9 := Lib.hid (ext_low HE8.out hb9 (by omega))
            clear hb9
            go_wp2_with fail
            go_ret
            first | exact ⟨by rw [HR.out] <;> rfl, HE9.out⟩ | exact ⟨by rw [HR.out, List.append_assoc] <;> rfl, HE9.out⟩ | exact ⟨by rw [HR.out, List.append_assoc, List.append_assoc] <;> rfl, HE9.out⟩
          · have HR : Hid (wordL ⟨false, l, ex⟩ = ([] ++ digL l ++ [48])) := Lib.hid (by unfold wordL; simp [HL0.out, he, digL])
            go_wp2_with fail
            refine (Tryd.Builder_String_any _ _ _ _ HB2.out (Nat.le_of_lt HB2.out.lt)).mono ?_
            rintro e w9 ⟨rfl, hb9⟩
            have HE9 := Lib.hid (ext_low HE2.out hb9 (by omega))
            clear hb9
            go_wp2_with fail
            go_ret
            first | exact ⟨by rw [HR.out] <;> rfl, HE9.out⟩ | exact ⟨by rw [HR.out, List.append_assoc] <;> rfl, HE9.out⟩ | exact ⟨by rw [HR.out, List.append_assoc, List.append_assoc] <;> rfl, HE9.out⟩
        · have hln : ¬ (l.length : Int) = 0 := fun h => hl0 (List.eq_nil_of_length_eq_zero (by omega))
          have HL0 := Lib.hid hl0
          clear hl0
          have hce : wr.cell? ⟨w.heap.size, 2, none⟩ = some (.int .i64 ex) := HK1.out.cell 2
          by_cases he : (0 : Int) < ex
          · have a1 : ∀ W, (Op.stringOp .add ⟨#[47]⟩ ⟨(Lib.itoa ex).toArray⟩).run Tryd.prog W = .ok (.string ⟨(47 :: Lib.itoa ex).toArray⟩) W := fun W => run_string_add_lists W [47] _ (by simp) (by have := HIL.out; omega)
            go_wp2_with fail
            refine (itoa_int ex HX.out.1 HX.out.2 _ (HP.out.ext HE1.out)).mono ?_
            rintro e w7 ⟨rfl, hE7⟩
            have HB7 := Lib.hid (HBX.out.ext hE7)
            have HE7 := Lib.hid (HE1.out.trans hE7)
            clear hE7 hce
            go_wp2_with fail
            refine (bld_write _ _ _ _ HB7.out (by have := HDZ.out; have := HIL.out; simp [ByteArray.size] at *; omega)).mono ?_
            rintro e w8 ⟨rfl, hB8, hb8⟩
            have HB8 := Lib.hid hB8
            have HE8 := Lib.hid (ext_low HE7.out hb8 (by omega))
            have HR : Hid (wordL ⟨false, l, ex⟩ = ([] ++ digL l) ++ (47 :: Lib.itoa ex)) := Lib.hid (by unfold wordL; simp [HL0.out, he, digL])
            clear hB8 hb8
            obtain ⟨tx, htx⟩ : ∃ t, ([] ++ digL l) ++ (47 :: Lib.itoa ex) = t := ⟨_, rfl⟩
            have HB9 : Hid (Bld (w.heap.size + 1) tx w8) := Lib.hid (by rw [← htx]; exact HB8.out)
            rw [htx] at HR
            clear HB8 htx
            go_wp2_with fail
            refine (Tryd.Builder_String_any _ _ _ _ HB9.out (Nat.le_of_lt HB9.out.lt)).mono ?_
            rintro e w9 ⟨rfl, hb9⟩
            have HE9 := Lib.hid (ext_low HE8.out hb9 (by omega))
            clear hb9
            go_wp2_with fail
            go_ret
            first | exact ⟨by rw [HR.out] <;> rfl, HE9.out⟩ | exact ⟨by rw [HR.out, List.append_assoc] <;> rfl, HE9.out⟩ | exact ⟨by rw [HR.out, List.append_assoc, List.append_assoc] <;> rfl, HE9.out⟩
          · have HR : Hid (wordL ⟨false, l, ex⟩ = ([] ++ digL l)) := Lib.hid (by unfold wordL; simp [HL0.out, he, digL])
            go_wp2_with fail
            refine (Tryd.Builder_String_any _ _ _ _ HBX.out (Nat.le_of_lt HBX.out.lt)).mono ?_
            rintro e w9 ⟨rfl, hb9⟩
            have HE9 := Lib.hid (ext_low HE1.out hb9 (by omega))
            clear hb9
            go_wp2_with fail
            go_ret
            first | exact ⟨by rw [HR.out] <;> rfl, HE9.out⟩ | exact ⟨by rw [HR.out, List.append_assoc] <;> rfl, HE9.out⟩ | exact ⟨by rw [HR.out, List.append_assoc, List.append_assoc] <;> rfl, HE9.out⟩
  | true =>
    go_wp2_with fail
    refine calls_nm fun W2 hW => ?_
    have HB2 : Hid (Bld (w.heap.size + 1) [] W2) := Lib.hid (by
      rw [hW]
      have := Lib.fresh_isBuilder 107 5 (w.alloc (.cells #[.bool true, .slice A l.length c, .int .i64 ex] 24))
      rw [show (w.alloc (.cells #[.bool true, .slice A l.length c, .int .i64 ex] 24)).heap.size = w.heap.size + 1 from Array.size_push _] at this
      exact this)
    have HK2 : Hid (Blk W2 w.heap.size 24 [.bool true, .slice A l.length c, .int .i64 ex]) := Lib.hid (by rw [hW]; exact HB0.out.alloc _)
    have HE2 : Hid (Ext w W2) := Lib.hid (by rw [hW]; exact Ext.alloc' (Ext.alloc _ _) _)
    clear hW hc0 HB0
    refine (bld_byte _ _ _ 45 HB2.out (by decide)).mono ?_
    rintro e w1 ⟨rfl, hB1, hb1⟩
    have HI0 : Hid (WrdI w w1 (w.heap.size + 1) [.bool true, .slice A l.length c, .int .i64 ex] [45] l l.length) := Lib.hid ⟨ext_low HE2.out hb1 (by omega), (hb1.block _ (by omega)).trans HK2.out, by
      rw [List.drop_length]
      exact hB1, by omega⟩
    have hcs : w1.cell? ⟨w.heap.size, 1, none⟩ = some (.slice A l.length c) := HI0.out.blk.cell 1
    clear hB1 hb1 HB2 HK2 HE2
    go_wp2_with fail
    have hcs0 := HI0.out.blk.cell 1
    try clear hc0
    go_loopw [4] (fun v W => ∃ (k : Nat) (z : Int), z + 1 = (k : Int) ∧ k ≤ l.length ∧ v = .int .i64 z ∧ Hid (WrdI w W (w.heap.size + 1) [.bool true, .slice A l.length c, .int .i64 ex] [45] l k)) (fun v _ => (intOf v + 1).toNat)
    case atStart => exact ⟨l.length, (l.length : Int) - 1, by omega, Nat.le_refl _, rfl, HI0⟩
    case round =>
      obtain ⟨k, z, hzk, hk, rfl, HI⟩ := hrel
      clear HI0 hcs0
      have hcs : wr.cell? ⟨w.heap.size, 1, none⟩ = some (.slice A l.length c) := HI.out.blk.cell 1
      by_cases h0 : 0 ≤ z
      · obtain ⟨j, rfl⟩ : ∃ j : Nat, z = j := ⟨z.toNat, by omega⟩
        have hjl : j < l.length := by omega
        have hji : (j : Int) < (l.length : Int) := by omega
        obtain ⟨n, hn⟩ : ∃ n, l[j]? = some n := ⟨_, List.getElem?_eq_getElem hjl⟩
        have HN := Lib.hid hn
        have HN32 : Hid (n < 4294967296) := Lib.hid (HLM.out n (List.mem_of_getElem? hn))
        obtain ⟨b1, o1, rfl, hb1, hrow⟩ := Sl.row (size := 1) (fun _ => rfl) HS.out hn
        have hc : wr.cell? ⟨b1, o1 + j, none⟩ = some (.int .u32 (n : Int)) := by have := hrow.below HI.out.ext.below hb1 0 _ rfl; simpa using this
        have hn32 : (n : Int) < 4294967296 := by have := HN32.out; omega
        obtain ⟨hs, hhs⟩ : ∃ s, hexL n = s := ⟨_, rfl⟩
        have HL8 : Hid (hs.length ≤ 8) := Lib.hid (by rw [← hhs]; exact hexL_len8 HN32.out)
        have HHS := Lib.hid hhs
        have hsz : ((⟨hs.toArray⟩ : ByteArray).size : Int) = (hs.length : Int) := rfl
        clear hn hb1 hrow
        by_cases hlast : (j : Int) < (l.length : Int) - 1
        · go_wp2_with fail
          refine (fmt_16 n HN32.out _ (HT.out.ext HI.out.ext)).mono ?_
          rw [hhs]
          rintro e w3 ⟨rfl, hE3⟩
          have hcs3 : w3.cell? ⟨w.heap.size, 1, none⟩ = some (.slice (some ⟨b1, o1, none⟩) l.length c) := (HI.out.blk.ext hE3).cell 1
          clear hcs hc hhs
          obtain ⟨q, hq⟩ : ∃ q, 8 - hs.length = q := ⟨_, rfl⟩
          have e8 : (8 : Int) - (hs.length : Int) = (q : Int) := by have := HL8.out; omega
          have hq8 : (q : Int) ≤ 8 := by omega
          have hs8 : (hs.length : Int) ≤ 8 := by have := HL8.out; omega
          have HB3 := Lib.hid (HI.out.bld.ext hE3)
          have HE3 := Lib.hid (HI.out.ext.trans hE3)
          have HK3 := Lib.hid (HI.out.blk.ext hE3)
          have HDL : Hid ((digL (l.drop k)).length ≤ 1000) := Lib.hid (by
            have h1 := digL_len (l.drop k) fun n hn => HLM.out n (List.mem_of_mem_drop hn)
            have h2 := H100.out
            rw [List.length_drop] at h1
            omega)
          clear hE3
          go_wp2_with fail
          clear hcs3
          refine (Tryd.strings_Repeat ⟨#[48]⟩ q _ (by omega) (by show 1 * q ≤ _; omega)).mono ?_
          rintro e w4 ⟨rfl, hE4⟩
          have HB4 := Lib.hid (HB3.out.ext hE4)
          have HE4 := Lib.hid (HE3.out.trans hE4)
          have HK4 := Lib.hid (HK3.out.ext hE4)
          clear hE4 HB3 HE3 HK3
          have HQ : Hid (Lib.repeatL [48] q ++ hs = pad8 (hexL n) ∧ (Lib.repeatL [48] q).length ≤ 8) := Lib.hid ⟨by unfold pad8; rw [HHS.out, hq], by rw [Lib.repeatL_length]; simp; omega⟩
          obtain ⟨rq, hrq⟩ : ∃ r, Lib.repeatL [48] q = r := ⟨_, rfl⟩
          rw [show (ByteArray.mk #[48]).data.toList = [48] from rfl, hrq]
          rw [hrq] at HQ
          clear hrq
          go_wp2_with fail
          refine (bld_write _ _ _ _ HB4.out (by have := HDL.out; have := HQ.out.2; simp [ByteArray.size] at *; omega)).mono ?_
          rintro e w5 ⟨rfl, hB5, hb5⟩
          have HB5 := Lib.hid hB5
          have HE5 := Lib.hid (ext_low HE4.out hb5 (by omega))
          have HK5 : Hid (Blk w5 w.heap.size _ _) := Lib.hid ((hb5.block _ (by omega)).trans HK4.out)
          clear hB5 hb5 HB4 HE4 HK4
          go_wp2_with fail
          refine (bld_write _ _ _ _ HB5.out (by have := HDL.out; have := HQ.out.2; simp [ByteArray.size] at *; omega)).mono ?_
          rintro e w6 ⟨rfl, hB6, hb6⟩
          have HNX : Hid (WrdI w w6 (w.heap.size + 1) [.bool true, .slice (some ⟨b1, o1, none⟩) l.length c, .int .i64 ex] [45] l j) := Lib.hid ⟨ext_low HE5.out hb6 (by omega), (hb6.block _ (by omega)).trans HK5.out, by
            have h1 : k = j + 1 := by omega
            subst h1
            have h2 : l.drop j = n :: l.drop (j + 1) := drop_cons HN.out
            have h3 : l.drop (j + 1) ≠ [] := fun h => by have := congrArg List.length h; rw [List.length_drop] at this; simp at this; omega
            have h4 := HQ.out.1
            rw [h2]
            unfold digL
            rw [if_neg h3, ← h4]
            simpa [List.append_assoc] using hB6, by omega⟩
          clear hB6 hb6 HB5 HE5 HK5 HDL HQ
          go_wp2_with fail
          go_roundw
          case rel => exact ⟨j, (j : Int) - 1, by omega, by omega, by go_num, HNX⟩
          case measure => simp [intOf] <;> omega
        · have hl2 : (l.length : Int) - 1 ≤ (j : Int) := by omega
          have hl3 : decide ((j : Int) < (l.length : Int) - 1) = false := decide_eq_false (by omega)
          go_wp2_with fail
          refine (fmt_16 n HN32.out _ (HT.out.ext HI.out.ext)).mono ?_
          rw [hhs]
          rintro e w3 ⟨rfl, hE3⟩
          have hcs3 : w3.cell? ⟨w.heap.size, 1, none⟩ = some (.slice (some ⟨b1, o1, none⟩) l.length c) := (HI.out.blk.ext hE3).cell 1
          clear hcs hc hhs
          have hj100 : (j : Int) < 100 := by omega
          have HB3 := Lib.hid (HI.out.bld.ext hE3)
          have HE3 := Lib.hid (HI.out.ext.trans hE3)
          have HK3 := Lib.hid (HI.out.blk.ext hE3)
          have hs8 : (hs.length : Int) ≤ 8 := by have := HL8.out; omega
          have HDK : Hid (l.drop k = []) := Lib.hid (List.drop_eq_nil_of_le (by omega))
          rw [HDK.out] at HB3
          clear hE3
          go_wp2_with fail
          clear hcs3
          refine (bld_write _ _ _ _ HB3.out (by have := HL8.out; simp [ByteArray.size, digL] at *; omega)).mono ?_
          rintro e w6 ⟨rfl, hB6, hb6⟩
          have HNX : Hid (WrdI w w6 (w.heap.size + 1) [.bool true, .slice (some ⟨b1, o1, none⟩) l.length c, .int .i64 ex] [45] l j) := Lib.hid ⟨ext_low HE3.out hb6 (by omega), (hb6.block _ (by omega)).trans HK3.out, by
            have h1 : k = j + 1 := by omega
            subst h1
            have h2 : l.drop j = n :: l.drop (j + 1) := drop_cons HN.out
            rw [h2]
            unfold digL
            rw [if_pos HDK.out, HHS.out]
            simpa [digL] using hB6, by omega⟩
          clear hB6 hb6 HB3 HE3 HK3
          go_wp2_with fail
          go_roundw
          case rel => exact ⟨j, (j : Int) - 1, by omega, by omega, by go_num, HNX⟩
          case measure => simp [intOf] <;> omega
      · have hk0 : k = 0 := by omega
        subst hk0
        have HBX : Hid (Bld (w.heap.size + 1) ([45] ++ digL l) wr) := Lib.hid (by have := HI.out.bld; rwa [List.drop_zero] at this)
        have HDZ : Hid ((digL l).length ≤ 800) := Lib.hid (by have h1 := digL_len l HLM.out; have h2 := H100.out; have h3 : l.length ≤ 100 := h2; omega)
        have HE1 := Lib.hid HI.out.ext
        have HK1 := Lib.hid HI.out.blk
        by_cases hl0 : l = []
        · have hln : (l.length : Int) = 0 := by rw [hl0]; rfl
          have HL0 := Lib.hid hl0
          clear hl0
          go_wp2_with fail
          refine (bld_byte _ _ _ 48 HBX.out (by have := HDZ.out; simp at *; omega)).mono ?_
          rintro e w2 ⟨rfl, hB2, hb2⟩
          have HB2 := Lib.hid hB2
          have HK2 : Hid (Blk w2 w.heap.size _ _) := Lib.hid ((hb2.block _ (by omega)).trans HK1.out)
          have HE2 := Lib.hid (ext_low HE1.out hb2 (by omega))
          clear hB2 hb2
          have hce : w2.cell? ⟨w.heap.size, 2, none⟩ = some (.int .i64 ex) := HK2.out.cell 2
          by_cases he : (0 : Int) < ex
          · have a1 : ∀ W, (Op.stringOp .add ⟨#[47]⟩ ⟨(Lib.itoa ex).toArray⟩).run Tryd.prog W = .ok (.string ⟨(47 :: Lib.itoa ex).toArray⟩) W := fun W => run_string_add_lists W [47] _ (by simp) (by have := HIL.out; omega)
            go_wp2_with fail
            refine (itoa_int ex HX.out.1 HX.out.2 _ (HP.out.ext HE2.out)).mono ?_
            rintro e w7 ⟨rfl, hE7⟩
            have HB7 := Lib.hid (HB2.out.ext hE7)
            have HE7 := Lib.hid (HE2.out.trans hE7)
            clear hE7 hce
            go_wp2_with fail
            refine (bld_write _ _ _ _ HB7.out (by have := HDZ.out; have := HIL.out; simp [ByteArray.size] at *; omega)).mono ?_
            rintro e w8 ⟨rfl, hB8, hb8⟩
            have HB8 := Lib.hid hB8
            have HE8 := Lib.hid (ext_low HE7.out hb8 (by omega))
            have HR : Hid (wordL ⟨true, l, ex⟩ = ([45] ++ digL l ++ [48]) ++ (47 :: Lib.itoa ex)) := Lib.hid (by unfold wordL; simp [HL0.out, he, digL])
            clear hB8 hb8
            obtain ⟨tx, htx⟩ : ∃ t, ([45] ++ digL l ++ [48]) ++ (47 :: Lib.itoa ex) = t := ⟨_, rfl⟩
            have HB9 : Hid (Bld (w.heap.size + 1) tx w8) := Lib.hid (by rw [← htx]; exact HB8.out)
            rw [htx] at HR
            clear HB8 htx
            go_wp2_with fail
            refine (Tryd.Builder_String_any _ _ _ _ HB9.out (Nat.le_of_lt HB9.out.lt)).mono ?_
            rintro e w9 ⟨rfl, hb9⟩
            have HE9 := Lib.hid (ext_low HE8.out hb9 (by omega))
            clear hb9
            go_wp2_with fail
            go_ret
            first | exact ⟨by rw [HR.out] <;> rfl, HE9.out⟩ | exact ⟨by rw [HR.out, List.append_assoc] <;> rfl, HE9.out⟩ | exact ⟨by rw [HR.out, List.append_assoc, List.append_assoc] <;> rfl, HE9.out⟩
          · have HR : Hid (wordL ⟨true, l, ex⟩ = ([45] ++ digL l ++ [48])) := Lib.hid (by unfold wordL; simp [HL0.out, he, digL])
            go_wp2_with fail
            refine (Tryd.Builder_String_any _ _ _ _ HB2.out (Nat.le_of_lt HB2.out.lt)).mono ?_
            rintro e w9 ⟨rfl, hb9⟩
            have HE9 := Lib.hid (ext_low HE2.out hb9 (by omega))
            clear hb9
            go_wp2_with fail
            go_ret
            first | exact ⟨by rw [HR.out] <;> rfl, HE9.out⟩ | exact ⟨by rw [HR.out, List.append_assoc] <;> rfl, HE9.out⟩ | exact ⟨by rw [HR.out, List.append_assoc, List.append_assoc] <;> rfl, HE9.out⟩
        · have hln : ¬ (l.length : Int) = 0 := fun h => hl0 (List.eq_nil_of_length_eq_zero (by omega))
          have HL0 := Lib.hid hl0
          clear hl0
          have hce : wr.cell? ⟨w.heap.size, 2, none⟩ = some (.int .i64 ex) := HK1.out.cell 2
          by_cases he : (0 : Int) < ex
          · have a1 : ∀ W, (Op.stringOp .add ⟨#[47]⟩ ⟨(Lib.itoa ex).toArray⟩).run Tryd.prog W = .ok (.string ⟨(47 :: Lib.itoa ex).toArray⟩) W := fun W => run_string_add_lists W [47] _ (by simp) (by have := HIL.out; omega)
            go_wp2_with fail
            refine (itoa_int ex HX.out.1 HX.out.2 _ (HP.out.ext HE1.out)).mono ?_
            rintro e w7 ⟨rfl, hE7⟩
            have HB7 := Lib.hid (HBX.out.ext hE7)
            have HE7 := Lib.hid (HE1.out.trans hE7)
            clear hE7 hce
            go_wp2_with fail
            refine (bld_write _ _ _ _ HB7.out (by have := HDZ.out; have := HIL.out; simp [ByteArray.size] at *; omega)).mono ?_
            rintro e w8 ⟨rfl, hB8, hb8⟩
            have HB8 := Lib.hid hB8
            have HE8 := Lib.hid (ext_low HE7.out hb8 (by omega))
            have HR : Hid (wordL ⟨true, l, ex⟩ = ([45] ++ digL l) ++ (47 :: Lib.itoa ex)) := Lib.hid (by unfold wordL; simp [HL0.out, he, digL])
            clear hB8 hb8
            obtain ⟨tx, htx⟩ : ∃ t, ([45] ++ digL l) ++ (47 :: Lib.itoa ex) = t := ⟨_, rfl⟩
            have HB9 : Hid (Bld (w.heap.size + 1) tx w8) := Lib.hid (by rw [← htx]; exact HB8.out)
            rw [htx] at HR
            clear HB8 htx
            go_wp2_with fail
            refine (Tryd.Builder_String_any _ _ _ _ HB9.out (Nat.le_of_lt HB9.out.lt)).mono ?_
            rintro e w9 ⟨rfl, hb9⟩
            have HE9 := Lib.hid (ext_low HE8.out hb9 (by omega))
            clear hb9
            go_wp2_with fail
            go_ret
            first | exact ⟨by rw [HR.out] <;> rfl, HE9.out⟩ | exact ⟨by rw [HR.out, List.append_assoc] <;> rfl, HE9.out⟩ | exact ⟨by rw [HR.out, List.append_assoc, List.append_assoc] <;> rfl, HE9.out⟩
          · have HR : Hid (wordL ⟨true, l, ex⟩ = ([45] ++ digL l)) := Lib.hid (by unfold wordL; simp [HL0.out, he, digL])
            go_wp2_with fail
            refine (Tryd.Builder_String_any _ _ _ _ HBX.out (Nat.le_of_lt HBX.out.lt)).mono ?_
            rintro e w9 ⟨rfl, hb9⟩
            have HE9 := Lib.hid (ext_low HE1.out hb9 (by omega))
            clear hb9
            go_wp2_with fail
            go_ret
            first | exact ⟨by rw [HR.out] <;> rfl, HE9.out⟩ | exact ⟨by rw [HR.out, List.append_assoc] <;> rfl, HE9.out⟩ | exact ⟨by rw [HR.out, List.append_assoc, List.append_assoc] <;> rfl, HE9.out⟩
end Go.Proofs.YtgcbnagfdfgpnaaDoor
