/- The reference's dyad of a word. Printed by gen_refwd.py. -/
import Derived.Test.YtgcbnagfdfgpnaaDoorWordsAll35
import Derived.Test.YtgcbnagfdfgpnaaDoorWordsAll36
import Derived.Test.YtgcbnagfdfgpnaaDoorWordsAll29
namespace Go.Hx
open Go.RowKit
def NoneR (s : List UInt8) : Prop := ∀ a : PDyad, mayD a → Limbs a.limbs → ¬ wordL a = s
/-- what was read fits a word -/
def ReadsR (s : List UInt8) (r : Option PDyad) : Prop := (∀ a, mayD a → Limbs a.limbs → wordL a = s → r = some a) ∧ ∀ a, r = some a → Limbs a.limbs
theorem reads_none {s : List UInt8} (h : NoneR s) : ReadsR s none := ⟨fun a h1 h2 h3 => absurd h3 (h a h1 h2), fun a h => by cases h⟩
theorem reads_some {s : List UInt8} {x : PDyad} (hl : Limbs x.limbs) (h : ∀ a, mayD a → Limbs a.limbs → wordL a = s → x = a) : ReadsR s (some x) := ⟨fun a h1 h2 h3 => congrArg some (h a h1 h2 h3), fun a h => by injection h with h; rw [← h]; exact hl⟩
/-- sign, digits and exponent are those of a word -/
def FitR (s : List UInt8) (ng : Bool) (bd : List UInt8) (ex : Int) : Prop := ∀ a : PDyad, mayD a → Limbs a.limbs → wordL a = s → ng = a.neg ∧ bd = bodyL a ∧ ex = a.exp
theorem word_len (a : PDyad) (hm : mayD a) (hl : Limbs a.limbs) : (wordL a).length ≤ 326 := by
  rw [wordL_eq a hl hm.1.2, List.length_append, List.length_append]
  have h1 := body_len a hm hl
  have h2 : (signL a).length ≤ 1 := by unfold signL; split <;> simp
  have h3 : (tailL a).length ≤ 5 := by
    obtain ⟨n, hn, he, hi⟩ := itoa_dig4 hm.2.1.1 hm.2.1.2
    unfold tailL
    split
    · rw [hi, List.length_cons]; have := (dig4_len hn).2; omega
    · simp
  omega
theorem cutS_full (a : PDyad) (r : List UInt8) : cutS (signL a ++ (bodyL a ++ r)) = (bodyL a ++ r, a.neg) := by
  unfold cutS signL
  cases hn : a.neg with
  | true => simp
  | false =>
    obtain ⟨x, t, ht⟩ : ∃ x t, bodyL a = x :: t := by
      cases hb : bodyL a with
      | nil => exact absurd hb (hexL_ne _)
      | cons x t => exact ⟨x, t, rfl⟩
    have h : x ≠ 45 := fun h => by
      obtain ⟨d, hd, e⟩ := hexL_chars (val B32 a.limbs) x (by show x ∈ bodyL a; rw [ht]; simp)
      exact (hexd_not hd).2.1 (e.symm.trans h)
    simp [ht, h]
theorem fit_plain {s b0 : List UInt8} {ng : Bool} (hc : cutS s = (b0, ng)) (h47 : (47 : UInt8) ∉ b0) : FitR s ng b0 0 := fun a hm hl hw => by
  have h1 := cutS_full a (tailL a)
  rw [← List.append_assoc, ← wordL_eq a hl hm.1.2, hw, hc] at h1
  injection h1 with h1 h2
  by_cases he : 0 < a.exp
  · exact absurd (by rw [h1]; unfold tailL; rw [if_pos he]; simp) h47
  · refine ⟨h2, ?_, by have := hm.2.1.1; omega⟩
    rw [h1]; unfold tailL; rw [if_neg he, List.append_nil]
theorem split_first {x y u v : List UInt8} (hx : (47 : UInt8) ∉ x) (hu : (47 : UInt8) ∉ u) (h : x ++ 47 :: y = u ++ 47 :: v) : x = u ∧ y = v := by
  have h1 := index_first (r := y) hx
  have h2 := index_first (r := v) hu
  rw [h, h2] at h1
  have hl : x.length = u.length := by omega
  obtain ⟨h3, h4⟩ := List.append_inj h hl
  injection h4 with _ h4
  exact ⟨h3, h4⟩
theorem fit_slash {s b0 x y : List UInt8} {ng : Bool} (hc : cutS s = (b0, ng)) (hb : b0 = x ++ 47 :: y) (hx : (47 : UInt8) ∉ x) (a : PDyad) (hm : mayD a) (hl : Limbs a.limbs) (hw : wordL a = s) : ng = a.neg ∧ x = bodyL a ∧ ∃ m : Nat, m < 1025 ∧ a.exp = m ∧ y = dig4 m := by
  have h1 := cutS_full a (tailL a)
  rw [← List.append_assoc, ← wordL_eq a hl hm.1.2, hw, hc] at h1
  injection h1 with h1 h2
  have hbn : (47 : UInt8) ∉ bodyL a := fun h => front_no a (List.mem_append_right _ h)
  by_cases he : 0 < a.exp
  · obtain ⟨m, h5, h6, h7⟩ := itoa_dig4 hm.2.1.1 hm.2.1.2
    rw [hb] at h1
    unfold tailL at h1
    rw [if_pos he, h7] at h1
    obtain ⟨h3, h4⟩ := split_first hx hbn h1
    exact ⟨h2, h3, m, h5, h6, h4⟩
  · rw [hb] at h1
    unfold tailL at h1
    rw [if_neg he, List.append_nil] at h1
    exact absurd (by rw [← h1]; simp) hbn
theorem digit_at {bd : List UInt8} {i cnt : Nat} {c : UInt8} (hc : bd[i]? = some c) (hi : i + cnt + 1 = bd.length) : ∀ V, bd = hexL V → ∃ d, d < 16 ∧ d = V / 16 ^ cnt % 16 ∧ c = hexd d := fun V hV => by
  subst hV
  have h1 := hexL_at V cnt (by omega)
  rw [show (hexL V).length - 1 - cnt = i by omega, hc] at h1
  injection h1 with h1
  exact ⟨_, Nat.mod_lt _ (by omega), rfl, h1⟩
structure BtI (w1 W : World) (bd : List UInt8) (cnt : Nat) (v : Value) (l : List Nat) : Prop where
  ext : Ext w1 W
  own : Go.Hx.Own W w1.heap.size 5 1 cU8 v l
  bits : Bits l
  len : l.length = 4 * cnt
  sum : ∀ V, bd = hexL V → val 2 l = V % 16 ^ cnt
theorem BtI.next {w1 W W' : World} {bd : List UInt8} {cnt q r0 r1 r2 r3 : Nat} {v v' : Value} {l : List Nat} {o : Obj} (h : BtI w1 W bd cnt v l) (hown : Go.Hx.Own W' w1.heap.size 5 1 cU8 v' (l ++ [r0, r1, r2, r3])) (hg : (W.alloc o).grownBy W' v.ownBlock)
    (hq : r0 + 2 * (r1 + 2 * (r2 + 2 * r3)) = q ∧ r0 < 2 ∧ r1 < 2 ∧ r2 < 2 ∧ r3 < 2) (hv : ∀ V, bd = hexL V → q = V / 16 ^ cnt % 16) : BtI w1 W' bd (cnt + 1) v' (l ++ [r0, r1, r2, r3]) := by
  refine ⟨Own.below (h.own.alloc o) (h.ext.alloc' o) hg (Nat.le_refl _) (by have := h.ext.size; simp; omega), hown, fun x hx => ?_, by rw [List.length_append, h.len]; simp; omega, fun V hV => ?_⟩
  · rcases List.mem_append.1 hx with hx | hx
    · exact h.bits x hx
    · simp only [List.mem_cons, List.not_mem_nil, or_false] at hx
      omega
  · rw [val_append, h.sum V hV, h.len, pow_16, Nat.pow_succ, Nat.mod_mul, ← hv V hV, ← hq.1]
    simp [val]
end Go.Hx
namespace Go.Proofs.YtgcbnagfdfgpnaaDoor
open Go.RowKit Go.Hx
theorem sixL_hexd {d : Nat} (h : d < 16) : sixL (hexd d).toNat = (d : Int) := by
  have : ∀ d : Fin 16, sixL (hexd d.val).toNat = (d.val : Int) := by decide +kernel
  exact this ⟨d, h⟩
theorem sixL_cases (b : Nat) : sixL b = -1 ∨ ∃ q : Nat, q < 16 ∧ sixL b = (q : Int) := by
  unfold sixL
  split
  · exact .inr ⟨b - 48, by omega, by omega⟩
  · split
    · exact .inr ⟨b - 87, by omega, by omega⟩
    · exact .inl rfl
set_option linter.unusedVariables false
set_option linter.unusedSimpArgs false
attribute [local go_sem] detUpon undIn
set_option maxRecDepth 100000 in
set_option maxHeartbeats 2000000 in
theorem ref_Read (s : List UInt8) (w : World) (hs : s.length ≤ 2000) :
    Calls Tryd.prog 33 #[.string ⟨s.toArray⟩] w fun e w' => ∃ r : Option PDyad, ReadsR s r ∧ ∃ y : XDyad, e = .returned (.tuple #[.agg #[.bool y.neg, .slice y.limbs.A y.limbs.l.length y.limbs.c, .int .i64 y.exp], .int .i64 (chkR s r).2]) ∧ y.data = (chkR s r).1 ∧ y.ok w' w'.heap.size ∧ Ext w w' := by
  obtain ⟨n, hn⟩ : ∃ n, w.heap.size = n := ⟨_, rfl⟩
  have HN := Lib.hid hn
  have HS := Lib.hid hs
  have hsz : ((ByteArray.mk s.toArray).size : Int) = (s.length : Int) := rfl
  by_cases h400 : 400 < s.length
  · have HNR : Hid (NoneR s) := Lib.hid (fun a h1 h2 h3 => by have := word_len a h1 h2; rw [h3] at this; omega)
    have HO : Hid (Blk (w.alloc (.cells #[.bool false, .slice none 0 0, .int .i64 0] 24)) n 24 [.bool false, .slice none 0 0, .int .i64 0]) := Lib.hid (Blk.new hn.symm)
    have HEX : Hid (Ext w (w.alloc (.cells #[.bool false, .slice none 0 0, .int .i64 0] 24))) := Lib.hid (Ext.alloc _ _)
    have h4i : (400 : Int) < (s.length : Int) := by omega
    clear hs h400
    go_enter Tryd.func33, Tryd.ntmps33
    have BO := HO.out
    have HRR : Hid (ReadsR s none) := Lib.hid (reads_none HNR.out)
    go_wp2_with (first | ((with_reducible refine wpl_store 24 (.tmp 2) (.tmp 15) ?_ ?_ n 0 24 [.bool false, .slice none 0 0, .int .i64 0] [.bool false, .slice none 0 0, .int .i64 0] ?_ ?_ ?_ ?_ ?_ ?_ ?_); (exact rfl); (exact rfl); (exact rfl); (exact rfl); (exact aggDyad); (exact BO); (exact by simp); (exact rfl); (intro w8 BR2 hO2)) | fail)
    exact bodyPost_ret (results_ct rfl rfl BR2 aggDyad) rfl ⟨none, HRR.out, XDyad.zero, rfl, rfl, (XDyad.zero_mine _ 0).ok, Only.ext HEX.out hO2 (by rw [HN.out]; omega)⟩
  have h4i : ¬ (400 : Int) < (s.length : Int) := by omega
  have hs1 : (w.alloc (.cells #[.bool false, .slice none 0 0, .int .i64 0] 24)).heap.size = n + 1 := by rw [← hn]; exact Array.size_push _
  have HW0 : Hid (Ext w ((w.alloc (.cells #[.bool false, .slice none 0 0, .int .i64 0] 24)).alloc (.cells #[.bool false, .slice none 0 0, .int .i64 0] 24)) ∧ Blk ((w.alloc (.cells #[.bool false, .slice none 0 0, .int .i64 0] 24)).alloc (.cells #[.bool false, .slice none 0 0, .int .i64 0] 24)) n 24 [.bool false, .slice none 0 0, .int .i64 0] ∧ Blk ((w.alloc (.cells #[.bool false, .slice none 0 0, .int .i64 0] 24)).alloc (.cells #[.bool false, .slice none 0 0, .int .i64 0] 24)) (n + 1) 24 [.bool false, .slice none 0 0, .int .i64 0]) := Lib.hid ⟨Ext.alloc' (Ext.alloc _ _) _, (Blk.new hn.symm).alloc _, Blk.new hs1.symm⟩
  have H400 : Hid (s.length ≤ 400) := Lib.hid (by omega)
  clear hs h400
  cases hsc : s.head? with
  | none =>
    obtain rfl := List.head?_eq_none_iff.1 hsc
    obtain ⟨b0, HBE⟩ : ∃ b, Hid (b = ([] : List UInt8)) := ⟨_, Lib.hid rfl⟩
    have HCS : Hid (cutS [] = (b0, false)) := Lib.hid (by rw [HBE.out]; rfl)
    have HST : Hid (Value.string ⟨#[]⟩ = .string ⟨b0.toArray⟩) := Lib.hid (by rw [HBE.out])
    have HB0 : Hid (b0.length ≤ 400) := Lib.hid (by rw [HBE.out]; simp)
    have HW1 := HW0
    clear HW0
    go_enter Tryd.func33, Tryd.ntmps33
    go_wp2_with fail
    go_loopw [5, 6] (fun o i W => ∃ k : Nat, k ≤ b0.length ∧ o = .string ⟨b0.toArray⟩ ∧ i = .int .i64 k ∧ Hid ((47 : UInt8) ∉ b0.take k ∧ Ext w W ∧ Blk W n 24 [.bool false, .slice none 0 0, .int .i64 0] ∧ Blk W (n + 1) 24 [.bool false, .slice none 0 0, .int .i64 0])) (fun _ i _ => b0.length - (intOf i).toNat)
    case atStart => exact ⟨0, by omega, HST.out, rfl, Lib.hid ⟨by simp, HW1.out⟩⟩
    case round =>
      obtain ⟨k, hk, rfl, rfl, HI⟩ := hrel
      have hb0l : (b0.length : Int) ≤ 400 := by have := HB0.out; omega
      have HSW : Hid (n + 1 < wr.heap.size) := Lib.hid HI.out.2.2.2.lt
      by_cases hkl : k < b0.length
      · have hki : (k : Int) < (b0.length : Int) := by omega
        obtain ⟨c, hc⟩ : ∃ c, b0[k]? = some c := ⟨_, List.getElem?_eq_getElem hkl⟩
        have hat : ∀ W, (Instr.index 9 (.string ⟨b0.toArray⟩) (.int .i64 (k : Int))).run Tryd.prog W = .ok (.int .u8 (c.toNat : Int)) W := fun W => run_at b0 k c hc W
        have HCK := Lib.hid hc
        clear hc
        by_cases h47 : c.toNat = 47
        · have h47i : (c.toNat : Int) = 47 := by omega
          have HSP : Hid (b0 = b0.take k ++ 47 :: b0.drop (k + 1)) := Lib.hid (by
            have h1 := drop_cons HCK.out
            rw [show c = 47 from UInt8.toNat_inj.1 (h47.trans (by decide))] at h1
            rw [← h1, List.take_append_drop])
          clear h47
          generalize c.toNat = bb at *
          have hk1 : (k : Int) + 1 ≤ 2000 := by have := HB0.out; omega
          have HS1 : ∀ W, (Instr.slice 9 (.string ⟨b0.toArray⟩) (some (.int .i64 ((k : Int) + 1))) none none).run Tryd.prog W = .ok (.string ⟨(b0.drop (k + 1)).toArray⟩) W := fun W => by
            rw [run_slice_string_l W 9 ⟨b0.toArray⟩ Tryd.underlying9 .i64 ((k : Int) + 1) (by omega) (by show (k : Int) + 1 ≤ (b0.length : Int); omega), Go.ByteArray.extract_mk]
            rw [show ((k : Int) + 1).toNat = k + 1 by omega, show (ByteArray.mk b0.toArray).size = b0.length from rfl, List.take_of_length_le (by rw [List.length_drop]; omega)]
          have HS2 : ∀ W, (Instr.slice 9 (.string ⟨b0.toArray⟩) none (some (.int .i64 (k : Int))) none).run Tryd.prog W = .ok (.string ⟨(b0.take k).toArray⟩) W := fun W => by
            rw [run_slice_string_h W 9 ⟨b0.toArray⟩ Tryd.underlying9 .i64 (k : Int) (by omega) (by show (k : Int) ≤ (b0.length : Int); omega), Go.ByteArray.extract_mk]
            simp
          have hw1 : IntKind.i64.wrap ((k : Int) + 1) = (k : Int) + 1 := by rw [IntWalk.i64_in _ (by omega)]
          go_wp2_with fail
          refine (ref_whole (b0.drop (k + 1)) (by rw [List.length_drop]; have := HB0.out; omega) _).mono ?_
          rintro e w3 ⟨⟨ex, b, rfl, hin, hwh⟩, rfl⟩
          have HWH := Lib.hid hwh
          have HINE := Lib.hid hin
          clear hwh hin HS1
          cases b with
          | false =>
            have HNR : Hid (NoneR ([] : List UInt8)) := Lib.hid (fun a h1 h2 h3 => by
              obtain ⟨_, _, m, h5, h6, h7⟩ := fit_slash HCS.out HSP.out HI.out.1 a h1 h2 h3
              have := (HWH.out m h5 h7).2
              cases this)
            have HO := Lib.hid HI.out.2.2.1
            have HEX := Lib.hid HI.out.2.1
            have BO := HO.out
            have HRR : Hid (ReadsR ([] : List UInt8) none) := Lib.hid (reads_none HNR.out)
            go_wp2_with (first | ((with_reducible refine wpl_store 24 (.tmp 2) (.tmp 48) ?_ ?_ n 0 24 [.bool false, .slice none 0 0, .int .i64 0] [.bool false, .slice none 0 0, .int .i64 0] ?_ ?_ ?_ ?_ ?_ ?_ ?_); (exact rfl); (exact rfl); (exact rfl); (exact rfl); (exact aggDyad); (exact BO); (exact by simp); (exact rfl); (intro w8 BR2 hO2)) | fail)
            exact bodyPost_ret (results_ct rfl rfl BR2 aggDyad) rfl ⟨none, HRR.out, XDyad.zero, rfl, rfl, (XDyad.zero_mine _ 0).ok, Only.ext HEX.out hO2 (by rw [HN.out]; omega)⟩
          | true =>
            have BA := HI.out.2.2.2
            have hf2 := BA.free 2
            have hc2 : w3.cell? ⟨n + 1, 2, none⟩ = some (.int .i64 0) := BA.cell 2
            have HA : Hid (Blk (w3.setCell ⟨n + 1, 2, none⟩ (.int .i64 ex)) (n + 1) 24 [.bool false, .slice none 0 0, .int .i64 ex]) := Lib.hid (BA.set 2 _)
            have HO : Hid (Blk (w3.setCell ⟨n + 1, 2, none⟩ (.int .i64 ex)) n 24 [.bool false, .slice none 0 0, .int .i64 0]) := Lib.hid (HI.out.2.2.1.far (by simp) _)
            have HEX : Hid (Ext w (w3.setCell ⟨n + 1, 2, none⟩ (.int .i64 ex))) := Lib.hid (HI.out.2.1.setCell' (by rw [HN.out]; simp) _)
            have HSW : Hid (n + 1 < (w3.setCell ⟨n + 1, 2, none⟩ (.int .i64 ex)).heap.size) := Lib.hid HA.out.lt
            obtain ⟨bd, hbd⟩ : ∃ x, b0.take k = x := ⟨_, rfl⟩
            have HF : Hid (FitR ([] : List UInt8) false bd ex) := Lib.hid (fun a h1 h2 h3 => by
              obtain ⟨g1, g2, ⟨m, h5, h6, h7⟩⟩ := fit_slash HCS.out HSP.out HI.out.1 a h1 h2 h3
              exact ⟨g1, hbd.symm.trans g2, by rw [h6]; exact (HWH.out m h5 h7).1⟩)
            have HBL : Hid (bd.length ≤ 400) := Lib.hid (by rw [← hbd, List.length_take]; have := HB0.out; omega)
            simp only [hbd] at HS2
            clear BA hbd HSP HWH HI
            have hbl : (bd.length : Int) ≤ 400 := by have := HBL.out; omega
            go_wp2_with fail
            generalize w3.setCell ⟨n + 1, 2, none⟩ (.int .i64 ex) = WX at *
            go_loopw [9, 10] (fun v i W => ∃ (cnt : Nat) (z : Int) (l : List Nat), cnt ≤ bd.length ∧ z + cnt + 1 = bd.length ∧ i = .int .i64 z ∧ Hid (BtI WX W bd cnt v l)) (fun _ i _ => (intOf i + 1).toNat)
            case atStart => exact ⟨0, (bd.length : Int) - 1, [], by omega, by omega, rfl, Lib.hid ⟨Ext.refl _, Own.nil _ _ _ _ _, (fun x hx => by cases hx), rfl, (fun V _ => by simp [Nat.mod_one])⟩⟩
            case round =>
              obtain ⟨cnt, z, l, hcnt, hz, rfl, HI⟩ := hrel
              by_cases hz0 : 0 ≤ z
              · obtain ⟨i, rfl⟩ : ∃ i : Nat, z = i := ⟨z.toNat, by omega⟩
                have hil : i < bd.length := by omega
                obtain ⟨c, hc⟩ : ∃ c, bd[i]? = some c := ⟨_, List.getElem?_eq_getElem hil⟩
                have hat : ∀ W, (Instr.index 9 (.string ⟨bd.toArray⟩) (.int .i64 (i : Int))).run Tryd.prog W = .ok (.int .u8 (c.toNat : Int)) W := fun W => run_at bd i c hc W
                have hii : (i : Int) < (bd.length : Int) := by omega
                have HDG : Hid (∀ V, bd = hexL V → ∃ d, d < 16 ∧ d = V / 16 ^ cnt % 16 ∧ c = hexd d) := Lib.hid (digit_at hc (by omega))
                have hc256 := c.toNat_lt
                have HC : Hid (∀ d, d < 16 → c = hexd d → sixL c.toNat = (d : Int)) := Lib.hid (fun d hd h => by rw [h]; exact sixL_hexd hd)
                have HS0 : Hid (sixL c.toNat = -1 ∨ ∃ q : Nat, q < 16 ∧ sixL c.toNat = (q : Int)) := Lib.hid (sixL_cases c.toNat)
                clear hc
                go_wp2_with fail
                refine (ref_sixteen c.toNat (by omega) _).mono ?_
                rintro e w4 ⟨rfl, rfl⟩
                clear hat
                rcases HS0.out with hq | ⟨q, hq16, hq⟩
                · rw [hq]
                  have HNR : Hid (NoneR ([] : List UInt8)) := Lib.hid (fun a h1 h2 h3 => by
                    obtain ⟨_, h4, _⟩ := HF.out a h1 h2 h3
                    obtain ⟨d, h5, _, h7⟩ := HDG.out _ h4
                    have := HC.out d h5 h7
                    omega)
                  have HO := Lib.hid (HO.out.ext HI.out.ext)
                  have HEX := Lib.hid (HEX.out.trans HI.out.ext)
                  have BO := HO.out
                  have HRR : Hid (ReadsR ([] : List UInt8) none) := Lib.hid (reads_none HNR.out)
                  go_wp2_with (first | ((with_reducible refine wpl_store 24 (.tmp 2) (.tmp 67) ?_ ?_ n 0 24 [.bool false, .slice none 0 0, .int .i64 0] [.bool false, .slice none 0 0, .int .i64 0] ?_ ?_ ?_ ?_ ?_ ?_ ?_); (exact rfl); (exact rfl); (exact rfl); (exact rfl); (exact aggDyad); (exact BO); (exact by simp); (exact rfl); (intro w8 BR2 hO2)) | fail)
                  exact bodyPost_ret (results_ct rfl rfl BR2 aggDyad) rfl ⟨none, HRR.out, XDyad.zero, rfl, rfl, (XDyad.zero_mine _ 0).ok, Only.ext HEX.out hO2 (by rw [HN.out]; omega)⟩
                · rw [hq]
                  obtain ⟨r0, hr0⟩ : ∃ r, q % 2 = r := ⟨_, rfl⟩
                  obtain ⟨q1, hq1⟩ : ∃ r, q / 2 = r := ⟨_, rfl⟩
                  obtain ⟨r1, hr1⟩ : ∃ r, q1 % 2 = r := ⟨_, rfl⟩
                  obtain ⟨q2, hq2⟩ : ∃ r, q / 4 = r := ⟨_, rfl⟩
                  obtain ⟨r2, hr2⟩ : ∃ r, q2 % 2 = r := ⟨_, rfl⟩
                  obtain ⟨q3, hq3⟩ : ∃ r, q / 8 = r := ⟨_, rfl⟩
                  obtain ⟨r3, hr3⟩ : ∃ r, q3 % 2 = r := ⟨_, rfl⟩
                  have a0 : (q : Int) % 2 = (r0 : Int) := by omega
                  have a1 : (q : Int) / 2 = (q1 : Int) := by omega
                  have a2 : (q1 : Int) % 2 = (r1 : Int) := by omega
                  have a3 : (q : Int) / 4 = (q2 : Int) := by omega
                  have a4 : (q2 : Int) % 2 = (r2 : Int) := by omega
                  have a5 : (q : Int) / 8 = (q3 : Int) := by omega
                  have a6 : (q3 : Int) % 2 = (r3 : Int) := by omega
                  have t0 : (q : Int).tmod 2 = (r0 : Int) := by rw [← hr0]; exact (Int.ofNat_tmod q 2).symm
                  have t1 : (q : Int).tdiv 2 = (q1 : Int) := by rw [← hq1]; exact (Int.ofNat_tdiv q 2).symm
                  have t2 : (q1 : Int).tmod 2 = (r1 : Int) := by rw [← hr1]; exact (Int.ofNat_tmod q1 2).symm
                  have t3 : (q : Int).tdiv 4 = (q2 : Int) := by rw [← hq2]; exact (Int.ofNat_tdiv q 4).symm
                  have t4 : (q2 : Int).tmod 2 = (r2 : Int) := by rw [← hr2]; exact (Int.ofNat_tmod q2 2).symm
                  have t5 : (q : Int).tdiv 8 = (q3 : Int) := by rw [← hq3]; exact (Int.ofNat_tdiv q 8).symm
                  have t6 : (q3 : Int).tmod 2 = (r3 : Int) := by rw [← hr3]; exact (Int.ofNat_tmod q3 2).symm
                  have b0 : (r0 : Int) ≤ 1 := by omega
                  have b1 : (r1 : Int) ≤ 1 := by omega
                  have b2 : (r2 : Int) ≤ 1 := by omega
                  have b3 : (r3 : Int) ≤ 1 := by omega
                  have b4 : (q1 : Int) ≤ 15 := by omega
                  have b5 : (q2 : Int) ≤ 15 := by omega
                  have b6 : (q3 : Int) ≤ 15 := by omega
                  have b7 : (q : Int) ≤ 15 := by omega
                  have HQ : Hid (r0 + 2 * (r1 + 2 * (r2 + 2 * r3)) = q ∧ r0 < 2 ∧ r1 < 2 ∧ r2 < 2 ∧ r3 < 2) := Lib.hid (by omega)
                  have HQV : Hid (∀ V, bd = hexL V → q = V / 16 ^ cnt % 16) := Lib.hid (fun V hV => by
                    obtain ⟨d, h5, h6, h7⟩ := HDG.out V hV
                    have := HC.out d h5 h7
                    omega)
                  have HLL : Hid (l.length ≤ 1600) := Lib.hid (by have := HI.out.len; have := HBL.out; omega)
                  have HSZ : Hid (WX.heap.size ≤ w4.heap.size) := Lib.hid HI.out.ext.size
                  clear hr0 hq1 hr1 hq2 hr2 hq3 hr3 hq HDG HC HS0 hc256
                  go_wp2_with (at_builtin; go_must (refine app_part elu8 rfl (.tmp 68) (.tmp 84) rfl (w4.alloc _) WX.heap.size cU8 _ l [r0, r1, r2, r3] rfl (HI.out.own.alloc _) (some ⟨w4.heap.size, 0, none⟩) 4 4 rfl rfl (.inr ⟨_, _, rfl, by simp, Blk.row (Blk.new rfl)⟩) (fun _ => rfl) (fun _ => rfl) (by have := HLL.out; simp; omega) (by have := HLL.out; unfold maxLen; simp; omega) (by have := HSZ.out; simp; omega) ?_); intro v' w' hown' hgrow _)
                  go_roundw
                  case rel => exact ⟨cnt + 1, (i : Int) - 1, _, by omega, by omega, by go_num, Lib.hid (HI.out.next hown' hgrow HQ.out HQV.out)⟩
                  case measure => simp [intOf]
              · have hcl : cnt = bd.length := by omega
                have HV : Hid (∀ V, bd = hexL V → val 2 l = V) := Lib.hid (fun V hV => by rw [HI.out.sum V hV, hcl, hV]; exact Nat.mod_eq_of_lt (hexL_lt V))
                have HLL : Hid (l.length ≤ 1600) := Lib.hid (by have := HI.out.len; have := HBL.out; omega)
                obtain ⟨A0, c0, rfl, hlx⟩ := HI.out.own.form
                have HLX := Lib.hid hlx
                have HBI := Lib.hid HI.out.bits
                have HE2 := Lib.hid HI.out.ext
                clear hlx HI hcl hcnt hz
                go_wp2_with fail
                refine (ref01_Cut ⟨l, A0, c0⟩ _ HLX.out HBI.out).mono ?_
                rintro e w5 ⟨k2, hk2, hcut, rfl, rfl⟩
                dsimp only at hk2 hcut
                have hl2 : (l.take k2).length = k2 := by rw [List.length_take]; exact Nat.min_eq_left hk2
                have HLIM := ref01_Limbs ⟨l.take k2, A0, c0⟩ w5 (LX.ok.front HLX.out k2) (fun x hx => HBI.out x (List.mem_of_mem_take hx)) (by have := HLL.out; dsimp only; omega)
                dsimp only at HLIM
                rw [hl2, show val 2 (l.take k2) = val 2 l by rw [hcut, val_digs (by omega)]] at HLIM
                clear hl2 hcut hk2
                go_wp2_with fail
                refine HLIM.mono ?_
                clear HLIM
                rintro e w6 ⟨⟨zl, zA, zc⟩, rfl, hzl, hzo, hzE⟩
                dsimp only at hzl hzo
                have HE6 := Lib.hid (HE2.out.trans hzE)
                have BA := HA.out.ext HE6.out
                have hf1 := BA.free 1
                have hc1 : w6.cell? ⟨n + 1, 1, none⟩ = some (.slice none 0 0) := BA.cell 1
                have HZL : Hid (zl = digs B32 (val 2 l)) := Lib.hid hzl
                have HRD : Hid (ReadsR ([] : List UInt8) (some ⟨false, zl, ex⟩)) := Lib.hid (reads_some (by rw [hzl]; exact digs_lt (by decide) _) (fun a h1 h2 h3 => by
                  obtain ⟨g1, g2, g3⟩ := HF.out a h1 h2 h3
                  rw [hzl, HV.out _ g2, limbs_back a h1 h2, g1, g3]))
                have BA7 := BA.set 1 (.slice zA zl.length zc)
                have HM7 : Hid (XDyad.mine (w6.setCell ⟨n + 1, 1, none⟩ (.slice zA zl.length zc)) w5.heap.size ⟨false, ⟨zl, zA, zc⟩, ex⟩) := Lib.hid ⟨hzo.far (fun e => by have := hzo.below_block _ e; have := HE2.out.size; have := HSW.out; simp at *; omega) _⟩
                have HO7 : Hid (Blk (w6.setCell ⟨n + 1, 1, none⟩ (.slice zA zl.length zc)) n 24 [.bool false, .slice none 0 0, .int .i64 0]) := Lib.hid ((HO.out.ext HE6.out).far (by simp) _)
                have HE7 : Hid (Ext w (w6.setCell ⟨n + 1, 1, none⟩ (.slice zA zl.length zc))) := Lib.hid ((HEX.out.trans HE6.out).setCell' (by rw [HN.out]; simp) _)
                have HB7 : Hid (Blk (w6.setCell ⟨n + 1, 1, none⟩ (.slice zA zl.length zc)) (n + 1) 24 [.bool false, .slice zA zl.length zc, .int .i64 ex]) := Lib.hid BA7
                clear BA BA7 hzl hzo hzE
                go_wp2_with (first | ((with_reducible refine wpl_load 24 (.tmp 4) ?_ ?_ (n + 1) 0 [.bool false, .slice zA zl.length zc, .int .i64 ex] ?_ ?_ ?_ ?_); (exact rfl); (exact rfl); (exact rfl); (exact aggDyad); (exact HB7.out.row)) | fail)
                refine (ref02_May ⟨false, ⟨zl, zA, zc⟩, ex⟩ _ HM7.out.ok).mono ?_
                by_cases hm : mayD ⟨false, zl, ex⟩
                · rw [show decide (mayD (XDyad.data ⟨false, ⟨zl, zA, zc⟩, ex⟩)) = true from decide_eq_true hm]
                  rintro e w8 ⟨rfl, hE8⟩
                  have HLZ : Hid (Limbs zl) := Lib.hid (by rw [HZL.out]; exact digs_lt (by decide) _)
                  obtain ⟨wd, hwd⟩ : ∃ x, wordL ⟨false, zl, ex⟩ = x := ⟨_, rfl⟩
                  have HWD := ref_Word ⟨false, ⟨zl, zA, zc⟩, ex⟩ w8 (HM7.out.ok.ext hE8) HLZ.out hm
                  rw [show wordL (XDyad.data ⟨false, ⟨zl, zA, zc⟩, ex⟩) = wd from hwd] at HWD
                  dsimp only at HWD
                  have HB8 := Lib.hid (HB7.out.ext hE8)
                  have HO8 := Lib.hid (HO7.out.ext hE8)
                  have HM8 := Lib.hid (HM7.out.ext hE8)
                  have HE8 := Lib.hid (HE7.out.trans hE8)
                  have HMW : Hid (mayD ⟨false, zl, ex⟩ ∧ wordL ⟨false, zl, ex⟩ = wd) := Lib.hid ⟨hm, hwd⟩
                  clear hE8 hm hwd
                  go_wp2_with (first | ((with_reducible refine wpl_load 24 (.tmp 4) ?_ ?_ (n + 1) 0 [.bool false, .slice zA zl.length zc, .int .i64 ex] ?_ ?_ ?_ ?_); (exact rfl); (exact rfl); (exact rfl); (exact aggDyad); (exact HB8.out.row)) | fail)
                  refine HWD.mono ?_
                  rintro e w9 ⟨rfl, hE9⟩
                  have HB9 := Lib.hid (HB8.out.ext hE9)
                  have BO := HO8.out.ext hE9
                  have HM9 := Lib.hid (HM8.out.ext hE9)
                  have HE9 := Lib.hid (HE8.out.trans hE9)
                  clear hE9 HWD
                  by_cases hw : wd = ([] : List UInt8)
                  · have heq : (wd == ([] : List UInt8)) = true := by rw [hw]; exact beq_self_eq_true _
                    have HRZ : Hid (chkR ([] : List UInt8) (some ⟨false, zl, ex⟩) = (⟨false, zl, ex⟩, 0)) := Lib.hid (if_pos ⟨HMW.out.1, HMW.out.2.trans hw⟩)
                    clear hw
                    go_wp2_with (first | ((with_reducible refine wpl_load 24 (.tmp 4) ?_ ?_ (n + 1) 0 [.bool false, .slice zA zl.length zc, .int .i64 ex] ?_ ?_ ?_ ?_); (exact rfl); (exact rfl); (exact rfl); (exact aggDyad); (exact HB9.out.row)) | ((with_reducible refine wpl_store 24 (.tmp 2) (.tmp 100) ?_ ?_ n 0 24 [.bool false, .slice none 0 0, .int .i64 0] [.bool false, .slice zA zl.length zc, .int .i64 ex] ?_ ?_ ?_ ?_ ?_ ?_ ?_); (exact rfl); (exact rfl); (exact rfl); (exact rfl); (exact aggDyad); (exact BO); (exact by simp); (exact rfl); (intro w10 BR2 hO2)) | fail)
                    exact bodyPost_ret (results_ct rfl rfl BR2 aggDyad) rfl ⟨_, HRD.out, ⟨false, ⟨zl, zA, zc⟩, ex⟩, by rw [HRZ.out] <;> rfl, by rw [HRZ.out] <;> rfl, (HM9.out.only BO hO2 BR2 rfl (by decide)).ok, Only.ext HE9.out hO2 (by rw [HN.out]; omega)⟩
                  · have heq : (wd == ([] : List UInt8)) = false := by simpa using hw
                    have HRZ : Hid (chkR ([] : List UInt8) (some ⟨false, zl, ex⟩) = (PDyad.zero, 320)) := Lib.hid (if_neg fun h => hw (HMW.out.2.symm.trans h.2))
                    clear hw
                    go_wp2_with (first | ((with_reducible refine wpl_store 24 (.tmp 2) (.tmp 99) ?_ ?_ n 0 24 [.bool false, .slice none 0 0, .int .i64 0] [.bool false, .slice none 0 0, .int .i64 0] ?_ ?_ ?_ ?_ ?_ ?_ ?_); (exact rfl); (exact rfl); (exact rfl); (exact rfl); (exact aggDyad); (exact BO); (exact by simp); (exact rfl); (intro w10 BR2 hO2)) | fail)
                    exact bodyPost_ret (results_ct rfl rfl BR2 aggDyad) rfl ⟨_, HRD.out, XDyad.zero, by rw [HRZ.out] <;> rfl, by rw [HRZ.out] <;> rfl, (XDyad.zero_mine _ 0).ok, Only.ext HE9.out hO2 (by rw [HN.out]; omega)⟩
                · rw [show decide (mayD (XDyad.data ⟨false, ⟨zl, zA, zc⟩, ex⟩)) = false from decide_eq_false hm]
                  have HRZ : Hid (chkR ([] : List UInt8) (some ⟨false, zl, ex⟩) = (PDyad.zero, 320)) := Lib.hid (if_neg fun h => hm h.1)
                  rintro e w8 ⟨rfl, hE8⟩
                  have BO := HO7.out.ext hE8
                  have HE8 := Lib.hid (HE7.out.trans hE8)
                  clear hE8 hm
                  go_wp2_with (first | ((with_reducible refine wpl_store 24 (.tmp 2) (.tmp 99) ?_ ?_ n 0 24 [.bool false, .slice none 0 0, .int .i64 0] [.bool false, .slice none 0 0, .int .i64 0] ?_ ?_ ?_ ?_ ?_ ?_ ?_); (exact rfl); (exact rfl); (exact rfl); (exact rfl); (exact aggDyad); (exact BO); (exact by simp); (exact rfl); (intro w9 BR2 hO2)) | fail)
                  exact bodyPost_ret (results_ct rfl rfl BR2 aggDyad) rfl ⟨_, HRD.out, XDyad.zero, by rw [HRZ.out] <;> rfl, by rw [HRZ.out] <;> rfl, (XDyad.zero_mine _ 0).ok, Only.ext HE8.out hO2 (by rw [HN.out]; omega)⟩
        · have h47i : ¬ (c.toNat : Int) = 47 := by omega
          have HNX : Hid ((47 : UInt8) ∉ b0.take (k + 1) ∧ Ext w wr ∧ Blk wr n 24 [.bool false, .slice none 0 0, .int .i64 0] ∧ Blk wr (n + 1) 24 [.bool false, .slice none 0 0, .int .i64 0]) := Lib.hid ⟨by
            rw [take_snoc HCK.out]
            intro h
            rcases List.mem_append.1 h with h | h
            · exact HI.out.1 h
            · rw [← List.mem_singleton.1 h] at h47; exact h47 (by decide), HI.out.2⟩
          clear h47
          generalize c.toNat = bb at *
          go_wp2_with fail
          go_roundw
          case rel => exact ⟨k + 1, by omega, rfl, by go_num, HNX⟩
          case measure => simp [intOf]; omega
      · have hki : ¬ (k : Int) < (b0.length : Int) := by omega
        have HA := Lib.hid HI.out.2.2.2
        have HO := Lib.hid HI.out.2.2.1
        have HEX := Lib.hid HI.out.2.1
        have HF : Hid (FitR ([] : List UInt8) false b0 0) := Lib.hid (fit_plain HCS.out (by have := HI.out.1; rwa [List.take_of_length_le (by omega)] at this))
        have HBL := HB0
        obtain ⟨bd, rfl⟩ : ∃ x, x = b0 := ⟨_, rfl⟩
        clear HI hkl
        have hbl : (bd.length : Int) ≤ 400 := by have := HBL.out; omega
        go_wp2_with fail
        obtain ⟨WX, rfl⟩ : ∃ W, W = wr := ⟨_, rfl⟩
        go_loopw [9, 10] (fun v i W => ∃ (cnt : Nat) (z : Int) (l : List Nat), cnt ≤ bd.length ∧ z + cnt + 1 = bd.length ∧ i = .int .i64 z ∧ Hid (BtI WX W bd cnt v l)) (fun _ i _ => (intOf i + 1).toNat)
        case atStart => exact ⟨0, (bd.length : Int) - 1, [], by omega, by omega, rfl, Lib.hid ⟨Ext.refl _, Own.nil _ _ _ _ _, (fun x hx => by cases hx), rfl, (fun V _ => by simp [Nat.mod_one])⟩⟩
        case round =>
          obtain ⟨cnt, z, l, hcnt, hz, rfl, HI⟩ := hrel
          by_cases hz0 : 0 ≤ z
          · obtain ⟨i, rfl⟩ : ∃ i : Nat, z = i := ⟨z.toNat, by omega⟩
            have hil : i < bd.length := by omega
            obtain ⟨c, hc⟩ : ∃ c, bd[i]? = some c := ⟨_, List.getElem?_eq_getElem hil⟩
            have hat : ∀ W, (Instr.index 9 (.string ⟨bd.toArray⟩) (.int .i64 (i : Int))).run Tryd.prog W = .ok (.int .u8 (c.toNat : Int)) W := fun W => run_at bd i c hc W
            have hii : (i : Int) < (bd.length : Int) := by omega
            have HDG : Hid (∀ V, bd = hexL V → ∃ d, d < 16 ∧ d = V / 16 ^ cnt % 16 ∧ c = hexd d) := Lib.hid (digit_at hc (by omega))
            have hc256 := c.toNat_lt
            have HC : Hid (∀ d, d < 16 → c = hexd d → sixL c.toNat = (d : Int)) := Lib.hid (fun d hd h => by rw [h]; exact sixL_hexd hd)
            have HS0 : Hid (sixL c.toNat = -1 ∨ ∃ q : Nat, q < 16 ∧ sixL c.toNat = (q : Int)) := Lib.hid (sixL_cases c.toNat)
            clear hc
            go_wp2_with fail
            refine (ref_sixteen c.toNat (by omega) _).mono ?_
            rintro e w4 ⟨rfl, rfl⟩
            clear hat
            rcases HS0.out with hq | ⟨q, hq16, hq⟩
            · rw [hq]
              have HNR : Hid (NoneR ([] : List UInt8)) := Lib.hid (fun a h1 h2 h3 => by
                obtain ⟨_, h4, _⟩ := HF.out a h1 h2 h3
                obtain ⟨d, h5, _, h7⟩ := HDG.out _ h4
                have := HC.out d h5 h7
                omega)
              have HO := Lib.hid (HO.out.ext HI.out.ext)
              have HEX := Lib.hid (HEX.out.trans HI.out.ext)
              have BO := HO.out
              have HRR : Hid (ReadsR ([] : List UInt8) none) := Lib.hid (reads_none HNR.out)
              go_wp2_with (first | ((with_reducible refine wpl_store 24 (.tmp 2) (.tmp 67) ?_ ?_ n 0 24 [.bool false, .slice none 0 0, .int .i64 0] [.bool false, .slice none 0 0, .int .i64 0] ?_ ?_ ?_ ?_ ?_ ?_ ?_); (exact rfl); (exact rfl); (exact rfl); (exact rfl); (exact aggDyad); (exact BO); (exact by simp); (exact rfl); (intro w8 BR2 hO2)) | fail)
              exact bodyPost_ret (results_ct rfl rfl BR2 aggDyad) rfl ⟨none, HRR.out, XDyad.zero, rfl, rfl, (XDyad.zero_mine _ 0).ok, Only.ext HEX.out hO2 (by rw [HN.out]; omega)⟩
            · rw [hq]
              obtain ⟨r0, hr0⟩ : ∃ r, q % 2 = r := ⟨_, rfl⟩
              obtain ⟨q1, hq1⟩ : ∃ r, q / 2 = r := ⟨_, rfl⟩
              obtain ⟨r1, hr1⟩ : ∃ r, q1 % 2 = r := ⟨_, rfl⟩
              obtain ⟨q2, hq2⟩ : ∃ r, q / 4 = r := ⟨_, rfl⟩
              obtain ⟨r2, hr2⟩ : ∃ r, q2 % 2 = r := ⟨_, rfl⟩
              obtain ⟨q3, hq3⟩ : ∃ r, q / 8 = r := ⟨_, rfl⟩
              obtain ⟨r3, hr3⟩ : ∃ r, q3 % 2 = r := ⟨_, rfl⟩
              have a0 : (q : Int) % 2 = (r0 : Int) := by omega
              have a1 : (q : Int) / 2 = (q1 : Int) := by omega
              have a2 : (q1 : Int) % 2 = (r1 : Int) := by omega
              have a3 : (q : Int) / 4 = (q2 : Int) := by omega
              have a4 : (q2 : Int) % 2 = (r2 : Int) := by omega
              have a5 : (q : Int) / 8 = (q3 : Int) := by omega
              have a6 : (q3 : Int) % 2 = (r3 : Int) := by omega
              have t0 : (q : Int).tmod 2 = (r0 : Int) := by rw [← hr0]; exact (Int.ofNat_tmod q 2).symm
              have t1 : (q : Int).tdiv 2 = (q1 : Int) := by rw [← hq1]; exact (Int.ofNat_tdiv q 2).symm
              have t2 : (q1 : Int).tmod 2 = (r1 : Int) := by rw [← hr1]; exact (Int.ofNat_tmod q1 2).symm
              have t3 : (q : Int).tdiv 4 = (q2 : Int) := by rw [← hq2]; exact (Int.ofNat_tdiv q 4).symm
              have t4 : (q2 : Int).tmod 2 = (r2 : Int) := by rw [← hr2]; exact (Int.ofNat_tmod q2 2).symm
              have t5 : (q : Int).tdiv 8 = (q3 : Int) := by rw [← hq3]; exact (Int.ofNat_tdiv q 8).symm
              have t6 : (q3 : Int).tmod 2 = (r3 : Int) := by rw [← hr3]; exact (Int.ofNat_tmod q3 2).symm
              have b0 : (r0 : Int) ≤ 1 := by omega
              have b1 : (r1 : Int) ≤ 1 := by omega
              have b2 : (r2 : Int) ≤ 1 := by omega
              have b3 : (r3 : Int) ≤ 1 := by omega
              have b4 : (q1 : Int) ≤ 15 := by omega
              have b5 : (q2 : Int) ≤ 15 := by omega
              have b6 : (q3 : Int) ≤ 15 := by omega
              have b7 : (q : Int) ≤ 15 := by omega
              have HQ : Hid (r0 + 2 * (r1 + 2 * (r2 + 2 * r3)) = q ∧ r0 < 2 ∧ r1 < 2 ∧ r2 < 2 ∧ r3 < 2) := Lib.hid (by omega)
              have HQV : Hid (∀ V, bd = hexL V → q = V / 16 ^ cnt % 16) := Lib.hid (fun V hV => by
                obtain ⟨d, h5, h6, h7⟩ := HDG.out V hV
                have := HC.out d h5 h7
                omega)
              have HLL : Hid (l.length ≤ 1600) := Lib.hid (by have := HI.out.len; have := HBL.out; omega)
              have HSZ : Hid (WX.heap.size ≤ w4.heap.size) := Lib.hid HI.out.ext.size
              clear hr0 hq1 hr1 hq2 hr2 hq3 hr3 hq HDG HC HS0 hc256
              go_wp2_with (at_builtin; go_must (refine app_part elu8 rfl (.tmp 68) (.tmp 84) rfl (w4.alloc _) WX.heap.size cU8 _ l [r0, r1, r2, r3] rfl (HI.out.own.alloc _) (some ⟨w4.heap.size, 0, none⟩) 4 4 rfl rfl (.inr ⟨_, _, rfl, by simp, Blk.row (Blk.new rfl)⟩) (fun _ => rfl) (fun _ => rfl) (by have := HLL.out; simp; omega) (by have := HLL.out; unfold maxLen; simp; omega) (by have := HSZ.out; simp; omega) ?_); intro v' w' hown' hgrow _)
              go_roundw
              case rel => exact ⟨cnt + 1, (i : Int) - 1, _, by omega, by omega, by go_num, Lib.hid (HI.out.next hown' hgrow HQ.out HQV.out)⟩
              case measure => simp [intOf]
          · have hcl : cnt = bd.length := by omega
            have HV : Hid (∀ V, bd = hexL V → val 2 l = V) := Lib.hid (fun V hV => by rw [HI.out.sum V hV, hcl, hV]; exact Nat.mod_eq_of_lt (hexL_lt V))
            have HLL : Hid (l.length ≤ 1600) := Lib.hid (by have := HI.out.len; have := HBL.out; omega)
            obtain ⟨A0, c0, rfl, hlx⟩ := HI.out.own.form
            have HLX := Lib.hid hlx
            have HBI := Lib.hid HI.out.bits
            have HE2 := Lib.hid HI.out.ext
            clear hlx HI hcl hcnt hz
            go_wp2_with fail
            refine (ref01_Cut ⟨l, A0, c0⟩ _ HLX.out HBI.out).mono ?_
            rintro e w5 ⟨k2, hk2, hcut, rfl, rfl⟩
            dsimp only at hk2 hcut
            have hl2 : (l.take k2).length = k2 := by rw [List.length_take]; exact Nat.min_eq_left hk2
            have HLIM := ref01_Limbs ⟨l.take k2, A0, c0⟩ w5 (LX.ok.front HLX.out k2) (fun x hx => HBI.out x (List.mem_of_mem_take hx)) (by have := HLL.out; dsimp only; omega)
            dsimp only at HLIM
            rw [hl2, show val 2 (l.take k2) = val 2 l by rw [hcut, val_digs (by omega)]] at HLIM
            clear hl2 hcut hk2
            go_wp2_with fail
            refine HLIM.mono ?_
            clear HLIM
            rintro e w6 ⟨⟨zl, zA, zc⟩, rfl, hzl, hzo, hzE⟩
            dsimp only at hzl hzo
            have HE6 := Lib.hid (HE2.out.trans hzE)
            have BA := HA.out.ext HE6.out
            have hf1 := BA.free 1
            have hc1 : w6.cell? ⟨n + 1, 1, none⟩ = some (.slice none 0 0) := BA.cell 1
            have HZL : Hid (zl = digs B32 (val 2 l)) := Lib.hid hzl
            have HRD : Hid (ReadsR ([] : List UInt8) (some ⟨false, zl, (0 : Int)⟩)) := Lib.hid (reads_some (by rw [hzl]; exact digs_lt (by decide) _) (fun a h1 h2 h3 => by
              obtain ⟨g1, g2, g3⟩ := HF.out a h1 h2 h3
              rw [hzl, HV.out _ g2, limbs_back a h1 h2, g1, g3]))
            have BA7 := BA.set 1 (.slice zA zl.length zc)
            have HM7 : Hid (XDyad.mine (w6.setCell ⟨n + 1, 1, none⟩ (.slice zA zl.length zc)) w5.heap.size ⟨false, ⟨zl, zA, zc⟩, (0 : Int)⟩) := Lib.hid ⟨hzo.far (fun e => by have := hzo.below_block _ e; have := HE2.out.size; have := HSW.out; simp at *; omega) _⟩
            have HO7 : Hid (Blk (w6.setCell ⟨n + 1, 1, none⟩ (.slice zA zl.length zc)) n 24 [.bool false, .slice none 0 0, .int .i64 0]) := Lib.hid ((HO.out.ext HE6.out).far (by simp) _)
            have HE7 : Hid (Ext w (w6.setCell ⟨n + 1, 1, none⟩ (.slice zA zl.length zc))) := Lib.hid ((HEX.out.trans HE6.out).setCell' (by rw [HN.out]; simp) _)
            have HB7 : Hid (Blk (w6.setCell ⟨n + 1, 1, none⟩ (.slice zA zl.length zc)) (n + 1) 24 [.bool false, .slice zA zl.length zc, .int .i64 (0 : Int)]) := Lib.hid BA7
            clear BA BA7 hzl hzo hzE
            go_wp2_with (first | ((with_reducible refine wpl_load 24 (.tmp 4) ?_ ?_ (n + 1) 0 [.bool false, .slice zA zl.length zc, .int .i64 (0 : Int)] ?_ ?_ ?_ ?_); (exact rfl); (exact rfl); (exact rfl); (exact aggDyad); (exact HB7.out.row)) | fail)
            refine (ref02_May ⟨false, ⟨zl, zA, zc⟩, (0 : Int)⟩ _ HM7.out.ok).mono ?_
            by_cases hm : mayD ⟨false, zl, (0 : Int)⟩
            · rw [show decide (mayD (XDyad.data ⟨false, ⟨zl, zA, zc⟩, (0 : Int)⟩)) = true from decide_eq_true hm]
              rintro e w8 ⟨rfl, hE8⟩
              have HLZ : Hid (Limbs zl) := Lib.hid (by rw [HZL.out]; exact digs_lt (by decide) _)
              obtain ⟨wd, hwd⟩ : ∃ x, wordL ⟨false, zl, (0 : Int)⟩ = x := ⟨_, rfl⟩
              have HWD := ref_Word ⟨false, ⟨zl, zA, zc⟩, (0 : Int)⟩ w8 (HM7.out.ok.ext hE8) HLZ.out hm
              rw [show wordL (XDyad.data ⟨false, ⟨zl, zA, zc⟩, (0 : Int)⟩) = wd from hwd] at HWD
              dsimp only at HWD
              have HB8 := Lib.hid (HB7.out.ext hE8)
              have HO8 := Lib.hid (HO7.out.ext hE8)
              have HM8 := Lib.hid (HM7.out.ext hE8)
              have HE8 := Lib.hid (HE7.out.trans hE8)
              have HMW : Hid (mayD ⟨false, zl, (0 : Int)⟩ ∧ wordL ⟨false, zl, (0 : Int)⟩ = wd) := Lib.hid ⟨hm, hwd⟩
              clear hE8 hm hwd
              go_wp2_with (first | ((with_reducible refine wpl_load 24 (.tmp 4) ?_ ?_ (n + 1) 0 [.bool false, .slice zA zl.length zc, .int .i64 (0 : Int)] ?_ ?_ ?_ ?_); (exact rfl); (exact rfl); (exact rfl); (exact aggDyad); (exact HB8.out.row)) | fail)
              refine HWD.mono ?_
              rintro e w9 ⟨rfl, hE9⟩
              have HB9 := Lib.hid (HB8.out.ext hE9)
              have BO := HO8.out.ext hE9
              have HM9 := Lib.hid (HM8.out.ext hE9)
              have HE9 := Lib.hid (HE8.out.trans hE9)
              clear hE9 HWD
              by_cases hw : wd = ([] : List UInt8)
              · have heq : (wd == ([] : List UInt8)) = true := by rw [hw]; exact beq_self_eq_true _
                have HRZ : Hid (chkR ([] : List UInt8) (some ⟨false, zl, (0 : Int)⟩) = (⟨false, zl, (0 : Int)⟩, 0)) := Lib.hid (if_pos ⟨HMW.out.1, HMW.out.2.trans hw⟩)
                clear hw
                go_wp2_with (first | ((with_reducible refine wpl_load 24 (.tmp 4) ?_ ?_ (n + 1) 0 [.bool false, .slice zA zl.length zc, .int .i64 (0 : Int)] ?_ ?_ ?_ ?_); (exact rfl); (exact rfl); (exact rfl); (exact aggDyad); (exact HB9.out.row)) | ((with_reducible refine wpl_store 24 (.tmp 2) (.tmp 100) ?_ ?_ n 0 24 [.bool false, .slice none 0 0, .int .i64 0] [.bool false, .slice zA zl.length zc, .int .i64 (0 : Int)] ?_ ?_ ?_ ?_ ?_ ?_ ?_); (exact rfl); (exact rfl); (exact rfl); (exact rfl); (exact aggDyad); (exact BO); (exact by simp); (exact rfl); (intro w10 BR2 hO2)) | fail)
                exact bodyPost_ret (results_ct rfl rfl BR2 aggDyad) rfl ⟨_, HRD.out, ⟨false, ⟨zl, zA, zc⟩, (0 : Int)⟩, by rw [HRZ.out] <;> rfl, by rw [HRZ.out] <;> rfl, (HM9.out.only BO hO2 BR2 rfl (by decide)).ok, Only.ext HE9.out hO2 (by rw [HN.out]; omega)⟩
              · have heq : (wd == ([] : List UInt8)) = false := by simpa using hw
                have HRZ : Hid (chkR ([] : List UInt8) (some ⟨false, zl, (0 : Int)⟩) = (PDyad.zero, 320)) := Lib.hid (if_neg fun h => hw (HMW.out.2.symm.trans h.2))
                clear hw
                go_wp2_with (first | ((with_reducible refine wpl_store 24 (.tmp 2) (.tmp 99) ?_ ?_ n 0 24 [.bool false, .slice none 0 0, .int .i64 0] [.bool false, .slice none 0 0, .int .i64 0] ?_ ?_ ?_ ?_ ?_ ?_ ?_); (exact rfl); (exact rfl); (exact rfl); (exact rfl); (exact aggDyad); (exact BO); (exact by simp); (exact rfl); (intro w10 BR2 hO2)) | fail)
                exact bodyPost_ret (results_ct rfl rfl BR2 aggDyad) rfl ⟨_, HRD.out, XDyad.zero, by rw [HRZ.out] <;> rfl, by rw [HRZ.out] <;> rfl, (XDyad.zero_mine _ 0).ok, Only.ext HE9.out hO2 (by rw [HN.out]; omega)⟩
            · rw [show decide (mayD (XDyad.data ⟨false, ⟨zl, zA, zc⟩, (0 : Int)⟩)) = false from decide_eq_false hm]
              have HRZ : Hid (chkR ([] : List UInt8) (some ⟨false, zl, (0 : Int)⟩) = (PDyad.zero, 320)) := Lib.hid (if_neg fun h => hm h.1)
              rintro e w8 ⟨rfl, hE8⟩
              have BO := HO7.out.ext hE8
              have HE8 := Lib.hid (HE7.out.trans hE8)
              clear hE8 hm
              go_wp2_with (first | ((with_reducible refine wpl_store 24 (.tmp 2) (.tmp 99) ?_ ?_ n 0 24 [.bool false, .slice none 0 0, .int .i64 0] [.bool false, .slice none 0 0, .int .i64 0] ?_ ?_ ?_ ?_ ?_ ?_ ?_); (exact rfl); (exact rfl); (exact rfl); (exact rfl); (exact aggDyad); (exact BO); (exact by simp); (exact rfl); (intro w9 BR2 hO2)) | fail)
              exact bodyPost_ret (results_ct rfl rfl BR2 aggDyad) rfl ⟨_, HRD.out, XDyad.zero, by rw [HRZ.out] <;> rfl, by rw [HRZ.out] <;> rfl, (XDyad.zero_mine _ 0).ok, Only.ext HE8.out hO2 (by rw [HN.out]; omega)⟩
  | some ch =>
    obtain ⟨t, ht⟩ : ∃ t, s = ch :: t := by
      cases s with
      | nil => cases hsc
      | cons a t => exact ⟨t, by injection hsc with h; rw [h]⟩
    have hat0 : ∀ W, (Instr.index 9 (.string ⟨s.toArray⟩) (.int .i64 0)).run Tryd.prog W = .ok (.int .u8 (ch.toNat : Int)) W := fun W => run_at s 0 ch (by rw [ht]; rfl) W
    have hpos : (0 : Int) < (s.length : Int) := by rw [ht, List.length_cons]; omega
    clear hsc
    by_cases h45 : ch.toNat = 45
    · have h45i : (ch.toNat : Int) = 45 := by omega
      have hch : ch = 45 := UInt8.toNat_inj.1 (h45.trans (by decide))
      obtain ⟨b0, hb0⟩ : ∃ x, s.drop 1 = x := ⟨_, rfl⟩
      have HCS : Hid (cutS s = (b0, true)) := Lib.hid (by rw [← hb0, ht, hch]; rfl)
      have HB0 : Hid (b0.length ≤ 400) := Lib.hid (by rw [← hb0, List.length_drop]; have := H400.out; omega)
      have HST : Hid (Value.string ⟨b0.toArray⟩ = .string ⟨b0.toArray⟩) := Lib.hid rfl
      have HS1 : ∀ W, (Instr.slice 9 (.string ⟨s.toArray⟩) (some (.int .i64 1)) none none).run Tryd.prog W = .ok (.string ⟨b0.toArray⟩) W := fun W => by
        rw [run_slice_string_l W 9 ⟨s.toArray⟩ Tryd.underlying9 .i64 1 (by omega) (by show (1 : Int) ≤ (s.length : Int); omega), Go.ByteArray.extract_mk]
        rw [show ((1 : Int)).toNat = 1 by omega, show (ByteArray.mk s.toArray).size = s.length from rfl, List.take_of_length_le (by rw [List.length_drop]; omega), hb0]
      have HW1 : Hid (Ext w ((w.alloc (.cells #[.bool false, .slice none 0 0, .int .i64 0] 24)).alloc (.cells #[.bool true, .slice none 0 0, .int .i64 0] 24)) ∧ Blk ((w.alloc (.cells #[.bool false, .slice none 0 0, .int .i64 0] 24)).alloc (.cells #[.bool true, .slice none 0 0, .int .i64 0] 24)) n 24 [.bool false, .slice none 0 0, .int .i64 0] ∧ Blk ((w.alloc (.cells #[.bool false, .slice none 0 0, .int .i64 0] 24)).alloc (.cells #[.bool true, .slice none 0 0, .int .i64 0] 24)) (n + 1) 24 [.bool true, .slice none 0 0, .int .i64 0]) := Lib.hid ⟨Ext.alloc' (Ext.alloc _ _) _, (Blk.new hn.symm).alloc _, Blk.new hs1.symm⟩
      clear h45 hch ht hb0 HW0
      generalize ch.toNat = bh at *
      go_enter Tryd.func33, Tryd.ntmps33
      go_wp2_with fail
      clear HS1 hat0 hpos
      go_loopw [5, 6] (fun o i W => ∃ k : Nat, k ≤ b0.length ∧ o = .string ⟨b0.toArray⟩ ∧ i = .int .i64 k ∧ Hid ((47 : UInt8) ∉ b0.take k ∧ Ext w W ∧ Blk W n 24 [.bool false, .slice none 0 0, .int .i64 0] ∧ Blk W (n + 1) 24 [.bool true, .slice none 0 0, .int .i64 0])) (fun _ i _ => b0.length - (intOf i).toNat)
      case atStart => exact ⟨0, by omega, rfl, rfl, Lib.hid ⟨by simp, HW1.out⟩⟩
      case round =>
        obtain ⟨k, hk, rfl, rfl, HI⟩ := hrel
        have hb0l : (b0.length : Int) ≤ 400 := by have := HB0.out; omega
        have HSW : Hid (n + 1 < wr.heap.size) := Lib.hid HI.out.2.2.2.lt
        by_cases hkl : k < b0.length
        · have hki : (k : Int) < (b0.length : Int) := by omega
          obtain ⟨c, hc⟩ : ∃ c, b0[k]? = some c := ⟨_, List.getElem?_eq_getElem hkl⟩
          have hat : ∀ W, (Instr.index 9 (.string ⟨b0.toArray⟩) (.int .i64 (k : Int))).run Tryd.prog W = .ok (.int .u8 (c.toNat : Int)) W := fun W => run_at b0 k c hc W
          have HCK := Lib.hid hc
          clear hc
          by_cases h47 : c.toNat = 47
          · have h47i : (c.toNat : Int) = 47 := by omega
            have HSP : Hid (b0 = b0.take k ++ 47 :: b0.drop (k + 1)) := Lib.hid (by
              have h1 := drop_cons HCK.out
              rw [show c = 47 from UInt8.toNat_inj.1 (h47.trans (by decide))] at h1
              rw [← h1, List.take_append_drop])
            clear h47
            generalize c.toNat = bb at *
            have hk1 : (k : Int) + 1 ≤ 2000 := by have := HB0.out; omega
            have HS1 : ∀ W, (Instr.slice 9 (.string ⟨b0.toArray⟩) (some (.int .i64 ((k : Int) + 1))) none none).run Tryd.prog W = .ok (.string ⟨(b0.drop (k + 1)).toArray⟩) W := fun W => by
              rw [run_slice_string_l W 9 ⟨b0.toArray⟩ Tryd.underlying9 .i64 ((k : Int) + 1) (by omega) (by show (k : Int) + 1 ≤ (b0.length : Int); omega), Go.ByteArray.extract_mk]
              rw [show ((k : Int) + 1).toNat = k + 1 by omega, show (ByteArray.mk b0.toArray).size = b0.length from rfl, List.take_of_length_le (by rw [List.length_drop]; omega)]
            have HS2 : ∀ W, (Instr.slice 9 (.string ⟨b0.toArray⟩) none (some (.int .i64 (k : Int))) none).run Tryd.prog W = .ok (.string ⟨(b0.take k).toArray⟩) W := fun W => by
              rw [run_slice_string_h W 9 ⟨b0.toArray⟩ Tryd.underlying9 .i64 (k : Int) (by omega) (by show (k : Int) ≤ (b0.length : Int); omega), Go.ByteArray.extract_mk]
              simp
            have hw1 : IntKind.i64.wrap ((k : Int) + 1) = (k : Int) + 1 := by rw [IntWalk.i64_in _ (by omega)]
            go_wp2_with fail
            refine (ref_whole (b0.drop (k + 1)) (by rw [List.length_drop]; have := HB0.out; omega) _).mono ?_
            rintro e w3 ⟨⟨ex, b, rfl, hin, hwh⟩, rfl⟩
            have HWH := Lib.hid hwh
            have HINE := Lib.hid hin
            clear hwh hin HS1
            cases b with
            | false =>
              have HNR : Hid (NoneR s) := Lib.hid (fun a h1 h2 h3 => by
                obtain ⟨_, _, m, h5, h6, h7⟩ := fit_slash HCS.out HSP.out HI.out.1 a h1 h2 h3
                have := (HWH.out m h5 h7).2
                cases this)
              have HO := Lib.hid HI.out.2.2.1
              have HEX := Lib.hid HI.out.2.1
              have BO := HO.out
              have HRR : Hid (ReadsR s none) := Lib.hid (reads_none HNR.out)
              go_wp2_with (first | ((with_reducible refine wpl_store 24 (.tmp 2) (.tmp 48) ?_ ?_ n 0 24 [.bool false, .slice none 0 0, .int .i64 0] [.bool false, .slice none 0 0, .int .i64 0] ?_ ?_ ?_ ?_ ?_ ?_ ?_); (exact rfl); (exact rfl); (exact rfl); (exact rfl); (exact aggDyad); (exact BO); (exact by simp); (exact rfl); (intro w8 BR2 hO2)) | fail)
              exact bodyPost_ret (results_ct rfl rfl BR2 aggDyad) rfl ⟨none, HRR.out, XDyad.zero, rfl, rfl, (XDyad.zero_mine _ 0).ok, Only.ext HEX.out hO2 (by rw [HN.out]; omega)⟩
            | true =>
              have BA := HI.out.2.2.2
              have hf2 := BA.free 2
              have hc2 : w3.cell? ⟨n + 1, 2, none⟩ = some (.int .i64 0) := BA.cell 2
              have HA : Hid (Blk (w3.setCell ⟨n + 1, 2, none⟩ (.int .i64 ex)) (n + 1) 24 [.bool true, .slice none 0 0, .int .i64 ex]) := Lib.hid (BA.set 2 _)
              have HO : Hid (Blk (w3.setCell ⟨n + 1, 2, none⟩ (.int .i64 ex)) n 24 [.bool false, .slice none 0 0, .int .i64 0]) := Lib.hid (HI.out.2.2.1.far (by simp) _)
              have HEX : Hid (Ext w (w3.setCell ⟨n + 1, 2, none⟩ (.int .i64 ex))) := Lib.hid (HI.out.2.1.setCell' (by rw [HN.out]; simp) _)
              have HSW : Hid (n + 1 < (w3.setCell ⟨n + 1, 2, none⟩ (.int .i64 ex)).heap.size) := Lib.hid HA.out.lt
              obtain ⟨bd, hbd⟩ : ∃ x, b0.take k = x := ⟨_, rfl⟩
              have HF : Hid (FitR s true bd ex) := Lib.hid (fun a h1 h2 h3 => by
                obtain ⟨g1, g2, ⟨m, h5, h6, h7⟩⟩ := fit_slash HCS.out HSP.out HI.out.1 a h1 h2 h3
                exact ⟨g1, hbd.symm.trans g2, by rw [h6]; exact (HWH.out m h5 h7).1⟩)
              have HBL : Hid (bd.length ≤ 400) := Lib.hid (by rw [← hbd, List.length_take]; have := HB0.out; omega)
              simp only [hbd] at HS2
              clear BA hbd HSP HWH HI
              have hbl : (bd.length : Int) ≤ 400 := by have := HBL.out; omega
              go_wp2_with fail
              generalize w3.setCell ⟨n + 1, 2, none⟩ (.int .i64 ex) = WX at *
              go_loopw [9, 10] (fun v i W => ∃ (cnt : Nat) (z : Int) (l : List Nat), cnt ≤ bd.length ∧ z + cnt + 1 = bd.length ∧ i = .int .i64 z ∧ Hid (BtI WX W bd cnt v l)) (fun _ i _ => (intOf i + 1).toNat)
              case atStart => exact ⟨0, (bd.length : Int) - 1, [], by omega, by omega, rfl, Lib.hid ⟨Ext.refl _, Own.nil _ _ _ _ _, (fun x hx => by cases hx), rfl, (fun V _ => by simp [Nat.mod_one])⟩⟩
              case round =>
                obtain ⟨cnt, z, l, hcnt, hz, rfl, HI⟩ := hrel
                by_cases hz0 : 0 ≤ z
                · obtain ⟨i, rfl⟩ : ∃ i : Nat, z = i := ⟨z.toNat, by omega⟩
                  have hil : i < bd.length := by omega
                  obtain ⟨c, hc⟩ : ∃ c, bd[i]? = some c := ⟨_, List.getElem?_eq_getElem hil⟩
                  have hat : ∀ W, (Instr.index 9 (.string ⟨bd.toArray⟩) (.int .i64 (i : Int))).run Tryd.prog W = .ok (.int .u8 (c.toNat : Int)) W := fun W => run_at bd i c hc W
                  have hii : (i : Int) < (bd.length : Int) := by omega
                  have HDG : Hid (∀ V, bd = hexL V → ∃ d, d < 16 ∧ d = V / 16 ^ cnt % 16 ∧ c = hexd d) := Lib.hid (digit_at hc (by omega))
                  have hc256 := c.toNat_lt
                  have HC : Hid (∀ d, d < 16 → c = hexd d → sixL c.toNat = (d : Int)) := Lib.hid (fun d hd h => by rw [h]; exact sixL_hexd hd)
                  have HS0 : Hid (sixL c.toNat = -1 ∨ ∃ q : Nat, q < 16 ∧ sixL c.toNat = (q : Int)) := Lib.hid (sixL_cases c.toNat)
                  clear hc
                  go_wp2_with fail
                  refine (ref_sixteen c.toNat (by omega) _).mono ?_
                  rintro e w4 ⟨rfl, rfl⟩
                  clear hat
                  rcases HS0.out with hq | ⟨q, hq16, hq⟩
                  · rw [hq]
                    have HNR : Hid (NoneR s) := Lib.hid (fun a h1 h2 h3 => by
                      obtain ⟨_, h4, _⟩ := HF.out a h1 h2 h3
                      obtain ⟨d, h5, _, h7⟩ := HDG.out _ h4
                      have := HC.out d h5 h7
                      omega)
                    have HO := Lib.hid (HO.out.ext HI.out.ext)
                    have HEX := Lib.hid (HEX.out.trans HI.out.ext)
                    have BO := HO.out
                    have HRR : Hid (ReadsR s none) := Lib.hid (reads_none HNR.out)
                    go_wp2_with (first | ((with_reducible refine wpl_store 24 (.tmp 2) (.tmp 67) ?_ ?_ n 0 24 [.bool false, .slice none 0 0, .int .i64 0] [.bool false, .slice none 0 0, .int .i64 0] ?_ ?_ ?_ ?_ ?_ ?_ ?_); (exact rfl); (exact rfl); (exact rfl); (exact rfl); (exact aggDyad); (exact BO); (exact by simp); (exact rfl); (intro w8 BR2 hO2)) | fail)
                    exact bodyPost_ret (results_ct rfl rfl BR2 aggDyad) rfl ⟨none, HRR.out, XDyad.zero, rfl, rfl, (XDyad.zero_mine _ 0).ok, Only.ext HEX.out hO2 (by rw [HN.out]; omega)⟩
                  · rw [hq]
                    obtain ⟨r0, hr0⟩ : ∃ r, q % 2 = r := ⟨_, rfl⟩
                    obtain ⟨q1, hq1⟩ : ∃ r, q / 2 = r := ⟨_, rfl⟩
                    obtain ⟨r1, hr1⟩ : ∃ r, q1 % 2 = r := ⟨_, rfl⟩
                    obtain ⟨q2, hq2⟩ : ∃ r, q / 4 = r := ⟨_, rfl⟩
                    obtain ⟨r2, hr2⟩ : ∃ r, q2 % 2 = r := ⟨_, rfl⟩
                    obtain ⟨q3, hq3⟩ : ∃ r, q / 8 = r := ⟨_, rfl⟩
                    obtain ⟨r3, hr3⟩ : ∃ r, q3 % 2 = r := ⟨_, rfl⟩
                    have a0 : (q : Int) % 2 = (r0 : Int) := by omega
                    have a1 : (q : Int) / 2 = (q1 : Int) := by omega
                    have a2 : (q1 : Int) % 2 = (r1 : Int) := by omega
                    have a3 : (q : Int) / 4 = (q2 : Int) := by omega
                    have a4 : (q2 : Int) % 2 = (r2 : Int) := by omega
                    have a5 : (q : Int) / 8 = (q3 : Int) := by omega
                    have a6 : (q3 : Int) % 2 = (r3 : Int) := by omega
                    have t0 : (q : Int).tmod 2 = (r0 : Int) := by rw [← hr0]; exact (Int.ofNat_tmod q 2).symm
                    have t1 : (q : Int).tdiv 2 = (q1 : Int) := by rw [← hq1]; exact (Int.ofNat_tdiv q 2).symm
                    have t2 : (q1 : Int).tmod 2 = (r1 : Int) := by rw [← hr1]; exact (Int.ofNat_tmod q1 2).symm
                    have t3 : (q : Int).tdiv 4 = (q2 : Int) := by rw [← hq2]; exact (Int.ofNat_tdiv q 4).symm
                    have t4 : (q2 : Int).tmod 2 = (r2 : Int) := by rw [← hr2]; exact (Int.ofNat_tmod q2 2).symm
                    have t5 : (q : Int).tdiv 8 = (q3 : Int) := by rw [← hq3]; exact (Int.ofNat_tdiv q 8).symm
                    have t6 : (q3 : Int).tmod 2 = (r3 : Int) := by rw [← hr3]; exact (Int.ofNat_tmod q3 2).symm
                    have b0 : (r0 : Int) ≤ 1 := by omega
                    have b1 : (r1 : Int) ≤ 1 := by omega
                    have b2 : (r2 : Int) ≤ 1 := by omega
                    have b3 : (r3 : Int) ≤ 1 := by omega
                    have b4 : (q1 : Int) ≤ 15 := by omega
                    have b5 : (q2 : Int) ≤ 15 := by omega
                    have b6 : (q3 : Int) ≤ 15 := by omega
                    have b7 : (q : Int) ≤ 15 := by omega
                    have HQ : Hid (r0 + 2 * (r1 + 2 * (r2 + 2 * r3)) = q ∧ r0 < 2 ∧ r1 < 2 ∧ r2 < 2 ∧ r3 < 2) := Lib.hid (by omega)
                    have HQV : Hid (∀ V, bd = hexL V → q = V / 16 ^ cnt % 16) := Lib.hid (fun V hV => by
                      obtain ⟨d, h5, h6, h7⟩ := HDG.out V hV
                      have := HC.out d h5 h7
                      omega)
                    have HLL : Hid (l.length ≤ 1600) := Lib.hid (by have := HI.out.len; have := HBL.out; omega)
                    have HSZ : Hid (WX.heap.size ≤ w4.heap.size) := Lib.hid HI.out.ext.size
                    clear hr0 hq1 hr1 hq2 hr2 hq3 hr3 hq HDG HC HS0 hc256
                    go_wp2_with (at_builtin; go_must (refine app_part elu8 rfl (.tmp 68) (.tmp 84) rfl (w4.alloc _) WX.heap.size cU8 _ l [r0, r1, r2, r3] rfl (HI.out.own.alloc _) (some ⟨w4.heap.size, 0, none⟩) 4 4 rfl rfl (.inr ⟨_, _, rfl, by simp, Blk.row (Blk.new rfl)⟩) (fun _ => rfl) (fun _ => rfl) (by have := HLL.out; simp; omega) (by have := HLL.out; unfold maxLen; simp; omega) (by have := HSZ.out; simp; omega) ?_); intro v' w' hown' hgrow _)
                    go_roundw
                    case rel => exact ⟨cnt + 1, (i : Int) - 1, _, by omega, by omega, by go_num, Lib.hid (HI.out.next hown' hgrow HQ.out HQV.out)⟩
                    case measure => simp [intOf]
                · have hcl : cnt = bd.length := by omega
                  have HV : Hid (∀ V, bd = hexL V → val 2 l = V) := Lib.hid (fun V hV => by rw [HI.out.sum V hV, hcl, hV]; exact Nat.mod_eq_of_lt (hexL_lt V))
                  have HLL : Hid (l.length ≤ 1600) := Lib.hid (by have := HI.out.len; have := HBL.out; omega)
                  obtain ⟨A0, c0, rfl, hlx⟩ := HI.out.own.form
                  have HLX := Lib.hid hlx
                  have HBI := Lib.hid HI.out.bits
                  have HE2 := Lib.hid HI.out.ext
                  clear hlx HI hcl hcnt hz
                  go_wp2_with fail
                  refine (ref01_Cut ⟨l, A0, c0⟩ _ HLX.out HBI.out).mono ?_
                  rintro e w5 ⟨k2, hk2, hcut, rfl, rfl⟩
                  dsimp only at hk2 hcut
                  have hl2 : (l.take k2).length = k2 := by rw [List.length_take]; exact Nat.min_eq_left hk2
                  have HLIM := ref01_Limbs ⟨l.take k2, A0, c0⟩ w5 (LX.ok.front HLX.out k2) (fun x hx => HBI.out x (List.mem_of_mem_take hx)) (by have := HLL.out; dsimp only; omega)
                  dsimp only at HLIM
                  rw [hl2, show val 2 (l.take k2) = val 2 l by rw [hcut, val_digs (by omega)]] at HLIM
                  clear hl2 hcut hk2
                  go_wp2_with fail
                  refine HLIM.mono ?_
                  clear HLIM
                  rintro e w6 ⟨⟨zl, zA, zc⟩, rfl, hzl, hzo, hzE⟩
                  dsimp only at hzl hzo
                  have HE6 := Lib.hid (HE2.out.trans hzE)
                  have BA := HA.out.ext HE6.out
                  have hf1 := BA.free 1
                  have hc1 : w6.cell? ⟨n + 1, 1, none⟩ = some (.slice none 0 0) := BA.cell 1
                  have HZL : Hid (zl = digs B32 (val 2 l)) := Lib.hid hzl
                  have HRD : Hid (ReadsR s (some ⟨true, zl, ex⟩)) := Lib.hid (reads_some (by rw [hzl]; exact digs_lt (by decide) _) (fun a h1 h2 h3 => by
                    obtain ⟨g1, g2, g3⟩ := HF.out a h1 h2 h3
                    rw [hzl, HV.out _ g2, limbs_back a h1 h2, g1, g3]))
                  have BA7 := BA.set 1 (.slice zA zl.length zc)
                  have HM7 : Hid (XDyad.mine (w6.setCell ⟨n + 1, 1, none⟩ (.slice zA zl.length zc)) w5.heap.size ⟨true, ⟨zl, zA, zc⟩, ex⟩) := Lib.hid ⟨hzo.far (fun e => by have := hzo.below_block _ e; have := HE2.out.size; have := HSW.out; simp at *; omega) _⟩
                  have HO7 : Hid (Blk (w6.setCell ⟨n + 1, 1, none⟩ (.slice zA zl.length zc)) n 24 [.bool false, .slice none 0 0, .int .i64 0]) := Lib.hid ((HO.out.ext HE6.out).far (by simp) _)
                  have HE7 : Hid (Ext w (w6.setCell ⟨n + 1, 1, none⟩ (.slice zA zl.length zc))) := Lib.hid ((HEX.out.trans HE6.out).setCell' (by rw [HN.out]; simp) _)
                  have HB7 : Hid (Blk (w6.setCell ⟨n + 1, 1, none⟩ (.slice zA zl.length zc)) (n + 1) 24 [.bool true, .slice zA zl.length zc, .int .i64 ex]) := Lib.hid BA7
                  clear BA BA7 hzl hzo hzE
                  go_wp2_with (first | ((with_reducible refine wpl_load 24 (.tmp 4) ?_ ?_ (n + 1) 0 [.bool true, .slice zA zl.length zc, .int .i64 ex] ?_ ?_ ?_ ?_); (exact rfl); (exact rfl); (exact rfl); (exact aggDyad); (exact HB7.out.row)) | fail)
                  refine (ref02_May ⟨true, ⟨zl, zA, zc⟩, ex⟩ _ HM7.out.ok).mono ?_
                  by_cases hm : mayD ⟨true, zl, ex⟩
                  · rw [show decide (mayD (XDyad.data ⟨true, ⟨zl, zA, zc⟩, ex⟩)) = true from decide_eq_true hm]
                    rintro e w8 ⟨rfl, hE8⟩
                    have HLZ : Hid (Limbs zl) := Lib.hid (by rw [HZL.out]; exact digs_lt (by decide) _)
                    obtain ⟨wd, hwd⟩ : ∃ x, wordL ⟨true, zl, ex⟩ = x := ⟨_, rfl⟩
                    have HWD := ref_Word ⟨true, ⟨zl, zA, zc⟩, ex⟩ w8 (HM7.out.ok.ext hE8) HLZ.out hm
                    rw [show wordL (XDyad.data ⟨true, ⟨zl, zA, zc⟩, ex⟩) = wd from hwd] at HWD
                    dsimp only at HWD
                    have HB8 := Lib.hid (HB7.out.ext hE8)
                    have HO8 := Lib.hid (HO7.out.ext hE8)
                    have HM8 := Lib.hid (HM7.out.ext hE8)
                    have HE8 := Lib.hid (HE7.out.trans hE8)
                    have HMW : Hid (mayD ⟨true, zl, ex⟩ ∧ wordL ⟨true, zl, ex⟩ = wd) := Lib.hid ⟨hm, hwd⟩
                    clear hE8 hm hwd
                    go_wp2_with (first | ((with_reducible refine wpl_load 24 (.tmp 4) ?_ ?_ (n + 1) 0 [.bool true, .slice zA zl.length zc, .int .i64 ex] ?_ ?_ ?_ ?_); (exact rfl); (exact rfl); (exact rfl); (exact aggDyad); (exact HB8.out.row)) | fail)
                    refine HWD.mono ?_
                    rintro e w9 ⟨rfl, hE9⟩
                    have HB9 := Lib.hid (HB8.out.ext hE9)
                    have BO := HO8.out.ext hE9
                    have HM9 := Lib.hid (HM8.out.ext hE9)
                    have HE9 := Lib.hid (HE8.out.trans hE9)
                    clear hE9 HWD
                    by_cases hw : wd = s
                    · have heq : (wd == s) = true := by rw [hw]; exact beq_self_eq_true _
                      have HRZ : Hid (chkR s (some ⟨true, zl, ex⟩) = (⟨true, zl, ex⟩, 0)) := Lib.hid (if_pos ⟨HMW.out.1, HMW.out.2.trans hw⟩)
                      clear hw
                      go_wp2_with (first | ((with_reducible refine wpl_load 24 (.tmp 4) ?_ ?_ (n + 1) 0 [.bool true, .slice zA zl.length zc, .int .i64 ex] ?_ ?_ ?_ ?_); (exact rfl); (exact rfl); (exact rfl); (exact aggDyad); (exact HB9.out.row)) | ((with_reducible refine wpl_store 24 (.tmp 2) (.tmp 100) ?_ ?_ n 0 24 [.bool false, .slice none 0 0, .int .i64 0] [.bool true, .slice zA zl.length zc, .int .i64 ex] ?_ ?_ ?_ ?_ ?_ ?_ ?_); (exact rfl); (exact rfl); (exact rfl); (exact rfl); (exact aggDyad); (exact BO); (exact by simp); (exact rfl); (intro w10 BR2 hO2)) | fail)
                      exact bodyPost_ret (results_ct rfl rfl BR2 aggDyad) rfl ⟨_, HRD.out, ⟨true, ⟨zl, zA, zc⟩, ex⟩, by rw [HRZ.out] <;> rfl, by rw [HRZ.out] <;> rfl, (HM9.out.only BO hO2 BR2 rfl (by decide)).ok, Only.ext HE9.out hO2 (by rw [HN.out]; omega)⟩
                    · have heq : (wd == s) = false := by simpa using hw
                      have HRZ : Hid (chkR s (some ⟨true, zl, ex⟩) = (PDyad.zero, 320)) := Lib.hid (if_neg fun h => hw (HMW.out.2.symm.trans h.2))
                      clear hw
                      go_wp2_with (first | ((with_reducible refine wpl_store 24 (.tmp 2) (.tmp 99) ?_ ?_ n 0 24 [.bool false, .slice none 0 0, .int .i64 0] [.bool false, .slice none 0 0, .int .i64 0] ?_ ?_ ?_ ?_ ?_ ?_ ?_); (exact rfl); (exact rfl); (exact rfl); (exact rfl); (exact aggDyad); (exact BO); (exact by simp); (exact rfl); (intro w10 BR2 hO2)) | fail)
                      exact bodyPost_ret (results_ct rfl rfl BR2 aggDyad) rfl ⟨_, HRD.out, XDyad.zero, by rw [HRZ.out] <;> rfl, by rw [HRZ.out] <;> rfl, (XDyad.zero_mine _ 0).ok, Only.ext HE9.out hO2 (by rw [HN.out]; omega)⟩
                  · rw [show decide (mayD (XDyad.data ⟨true, ⟨zl, zA, zc⟩, ex⟩)) = false from decide_eq_false hm]
                    have HRZ : Hid (chkR s (some ⟨true, zl, ex⟩) = (PDyad.zero, 320)) := Lib.hid (if_neg fun h => hm h.1)
                    rintro e w8 ⟨rfl, hE8⟩
                    have BO := HO7.out.ext hE8
                    have HE8 := Lib.hid (HE7.out.trans hE8)
                    clear hE8 hm
                    go_wp2_with (first | ((with_reducible refine wpl_store 24 (.tmp 2) (.tmp 99) ?_ ?_ n 0 24 [.bool false, .slice none 0 0, .int .i64 0] [.bool false, .slice none 0 0, .int .i64 0] ?_ ?_ ?_ ?_ ?_ ?_ ?_); (exact rfl); (exact rfl); (exact rfl); (exact rfl); (exact aggDyad); (exact BO); (exact by simp); (exact rfl); (intro w9 BR2 hO2)) | fail)
                    exact bodyPost_ret (results_ct rfl rfl BR2 aggDyad) rfl ⟨_, HRD.out, XDyad.zero, by rw [HRZ.out] <;> rfl, by rw [HRZ.out] <;> rfl, (XDyad.zero_mine _ 0).ok, Only.ext HE8.out hO2 (by rw [HN.out]; omega)⟩
          · have h47i : ¬ (c.toNat : Int) = 47 := by omega
            have HNX : Hid ((47 : UInt8) ∉ b0.take (k + 1) ∧ Ext w wr ∧ Blk wr n 24 [.bool false, .slice none 0 0, .int .i64 0] ∧ Blk wr (n + 1) 24 [.bool true, .slice none 0 0, .int .i64 0]) := Lib.hid ⟨by
              rw [take_snoc HCK.out]
              intro h
              rcases List.mem_append.1 h with h | h
              · exact HI.out.1 h
              · rw [← List.mem_singleton.1 h] at h47; exact h47 (by decide), HI.out.2⟩
            clear h47
            generalize c.toNat = bb at *
            go_wp2_with fail
            go_roundw
            case rel => exact ⟨k + 1, by omega, rfl, by go_num, HNX⟩
            case measure => simp [intOf]; omega
        · have hki : ¬ (k : Int) < (b0.length : Int) := by omega
          have HA := Lib.hid HI.out.2.2.2
          have HO := Lib.hid HI.out.2.2.1
          have HEX := Lib.hid HI.out.2.1
          have HF : Hid (FitR s true b0 0) := Lib.hid (fit_plain HCS.out (by have := HI.out.1; rwa [List.take_of_length_le (by omega)] at this))
          have HBL := HB0
          obtain ⟨bd, rfl⟩ : ∃ x, x = b0 := ⟨_, rfl⟩
          clear HI hkl
          have hbl : (bd.length : Int) ≤ 400 := by have := HBL.out; omega
          go_wp2_with fail
          obtain ⟨WX, rfl⟩ : ∃ W, W = wr := ⟨_, rfl⟩
          go_loopw [9, 10] (fun v i W => ∃ (cnt : Nat) (z : Int) (l : List Nat), cnt ≤ bd.length ∧ z + cnt + 1 = bd.length ∧ i = .int .i64 z ∧ Hid (BtI WX W bd cnt v l)) (fun _ i _ => (intOf i + 1).toNat)
          case atStart => exact ⟨0, (bd.length : Int) - 1, [], by omega, by omega, rfl, Lib.hid ⟨Ext.refl _, Own.nil _ _ _ _ _, (fun x hx => by cases hx), rfl, (fun V _ => by simp [Nat.mod_one])⟩⟩
          case round =>
            obtain ⟨cnt, z, l, hcnt, hz, rfl, HI⟩ := hrel
            by_cases hz0 : 0 ≤ z
            · obtain ⟨i, rfl⟩ : ∃ i : Nat, z = i := ⟨z.toNat, by omega⟩
              have hil : i < bd.length := by omega
              obtain ⟨c, hc⟩ : ∃ c, bd[i]? = some c := ⟨_, List.getElem?_eq_getElem hil⟩
              have hat : ∀ W, (Instr.index 9 (.string ⟨bd.toArray⟩) (.int .i64 (i : Int))).run Tryd.prog W = .ok (.int .u8 (c.toNat : Int)) W := fun W => run_at bd i c hc W
              have hii : (i : Int) < (bd.length : Int) := by omega
              have HDG : Hid (∀ V, bd = hexL V → ∃ d, d < 16 ∧ d = V / 16 ^ cnt % 16 ∧ c = hexd d) := Lib.hid (digit_at hc (by omega))
              have hc256 := c.toNat_lt
              have HC : Hid (∀ d, d < 16 → c = hexd d → sixL c.toNat = (d : Int)) := Lib.hid (fun d hd h => by rw [h]; exact sixL_hexd hd)
              have HS0 : Hid (sixL c.toNat = -1 ∨ ∃ q : Nat, q < 16 ∧ sixL c.toNat = (q : Int)) := Lib.hid (sixL_cases c.toNat)
              clear hc
              go_wp2_with fail
              refine (ref_sixteen c.toNat (by omega) _).mono ?_
              rintro e w4 ⟨rfl, rfl⟩
              clear hat
              rcases HS0.out with hq | ⟨q, hq16, hq⟩
              · rw [hq]
                have HNR : Hid (NoneR s) := Lib.hid (fun a h1 h2 h3 => by
                  obtain ⟨_, h4, _⟩ := HF.out a h1 h2 h3
                  obtain ⟨d, h5, _, h7⟩ := HDG.out _ h4
                  have := HC.out d h5 h7
                  omega)
                have HO := Lib.hid (HO.out.ext HI.out.ext)
                have HEX := Lib.hid (HEX.out.trans HI.out.ext)
                have BO := HO.out
                have HRR : Hid (ReadsR s none) := Lib.hid (reads_none HNR.out)
                go_wp2_with (first | ((with_reducible refine wpl_store 24 (.tmp 2) (.tmp 67) ?_ ?_ n 0 24 [.bool false, .slice none 0 0, .int .i64 0] [.bool false, .slice none 0 0, .int .i64 0] ?_ ?_ ?_ ?_ ?_ ?_ ?_); (exact rfl); (exact rfl); (exact rfl); (exact rfl); (exact aggDyad); (exact BO); (exact by simp); (exact rfl); (intro w8 BR2 hO2)) | fail)
                exact bodyPost_ret (results_ct rfl rfl BR2 aggDyad) rfl ⟨none, HRR.out, XDyad.zero, rfl, rfl, (XDyad.zero_mine _ 0).ok, Only.ext HEX.out hO2 (by rw [HN.out]; omega)⟩
              · rw [hq]
                obtain ⟨r0, hr0⟩ : ∃ r, q % 2 = r := ⟨_, rfl⟩
                obtain ⟨q1, hq1⟩ : ∃ r, q / 2 = r := ⟨_, rfl⟩
                obtain ⟨r1, hr1⟩ : ∃ r, q1 % 2 = r := ⟨_, rfl⟩
                obtain ⟨q2, hq2⟩ : ∃ r, q / 4 = r := ⟨_, rfl⟩
                obtain ⟨r2, hr2⟩ : ∃ r, q2 % 2 = r := ⟨_, rfl⟩
                obtain ⟨q3, hq3⟩ : ∃ r, q / 8 = r := ⟨_, rfl⟩
                obtain ⟨r3, hr3⟩ : ∃ r, q3 % 2 = r := ⟨_, rfl⟩
                have a0 : (q : Int) % 2 = (r0 : Int) := by omega
                have a1 : (q : Int) / 2 = (q1 : Int) := by omega
                have a2 : (q1 : Int) % 2 = (r1 : Int) := by omega
                have a3 : (q : Int) / 4 = (q2 : Int) := by omega
                have a4 : (q2 : Int) % 2 = (r2 : Int) := by omega
                have a5 : (q : Int) / 8 = (q3 : Int) := by omega
                have a6 : (q3 : Int) % 2 = (r3 : Int) := by omega
                have t0 : (q : Int).tmod 2 = (r0 : Int) := by rw [← hr0]; exact (Int.ofNat_tmod q 2).symm
                have t1 : (q : Int).tdiv 2 = (q1 : Int) := by rw [← hq1]; exact (Int.ofNat_tdiv q 2).symm
                have t2 : (q1 : Int).tmod 2 = (r1 : Int) := by rw [← hr1]; exact (Int.ofNat_tmod q1 2).symm
                have t3 : (q : Int).tdiv 4 = (q2 : Int) := by rw [← hq2]; exact (Int.ofNat_tdiv q 4).symm
                have t4 : (q2 : Int).tmod 2 = (r2 : Int) := by rw [← hr2]; exact (Int.ofNat_tmod q2 2).symm
                have t5 : (q : Int).tdiv 8 = (q3 : Int) := by rw [← hq3]; exact (Int.ofNat_tdiv q 8).symm
                have t6 : (q3 : Int).tmod 2 = (r3 : Int) := by rw [← hr3]; exact (Int.ofNat_tmod q3 2).symm
                have b0 : (r0 : Int) ≤ 1 := by omega
                have b1 : (r1 : Int) ≤ 1 := by omega
                have b2 : (r2 : Int) ≤ 1 := by omega
                have b3 : (r3 : Int) ≤ 1 := by omega
                have b4 : (q1 : Int) ≤ 15 := by omega
                have b5 : (q2 : Int) ≤ 15 := by omega
                have b6 : (q3 : Int) ≤ 15 := by omega
                have b7 : (q : Int) ≤ 15 := by omega
                have HQ : Hid (r0 + 2 * (r1 + 2 * (r2 + 2 * r3)) = q ∧ r0 < 2 ∧ r1 < 2 ∧ r2 < 2 ∧ r3 < 2) := Lib.hid (by omega)
                have HQV : Hid (∀ V, bd = hexL V → q = V / 16 ^ cnt % 16) := Lib.hid (fun V hV => by
                  obtain ⟨d, h5, h6, h7⟩ := HDG.out V hV
                  have := HC.out d h5 h7
                  omega)
                have HLL : Hid (l.length ≤ 1600) := Lib.hid (by have := HI.out.len; have := HBL.out; omega)
                have HSZ : Hid (WX.heap.size ≤ w4.heap.size) := Lib.hid HI.out.ext.size
                clear hr0 hq1 hr1 hq2 hr2 hq3 hr3 hq HDG HC HS0 hc256
                go_wp2_with (at_builtin; go_must (refine app_part elu8 rfl (.tmp 68) (.tmp 84) rfl (w4.alloc _) WX.heap.size cU8 _ l [r0, r1, r2, r3] rfl (HI.out.own.alloc _) (some ⟨w4.heap.size, 0, none⟩) 4 4 rfl rfl (.inr ⟨_, _, rfl, by simp, Blk.row (Blk.new rfl)⟩) (fun _ => rfl) (fun _ => rfl) (by have := HLL.out; simp; omega) (by have := HLL.out; unfold maxLen; simp; omega) (by have := HSZ.out; simp; omega) ?_); intro v' w' hown' hgrow _)
                go_roundw
                case rel => exact ⟨cnt + 1, (i : Int) - 1, _, by omega, by omega, by go_num, Lib.hid (HI.out.next hown' hgrow HQ.out HQV.out)⟩
                case measure => simp [intOf]
            · have hcl : cnt = bd.length := by omega
              have HV : Hid (∀ V, bd = hexL V → val 2 l = V) := Lib.hid (fun V hV => by rw [HI.out.sum V hV, hcl, hV]; exact Nat.mod_eq_of_lt (hexL_lt V))
              have HLL : Hid (l.length ≤ 1600) := Lib.hid (by have := HI.out.len; have := HBL.out; omega)
              obtain ⟨A0, c0, rfl, hlx⟩ := HI.out.own.form
              have HLX := Lib.hid hlx
              have HBI := Lib.hid HI.out.bits
              have HE2 := Lib.hid HI.out.ext
              clear hlx HI hcl hcnt hz
              go_wp2_with fail
              refine (ref01_Cut ⟨l, A0, c0⟩ _ HLX.out HBI.out).mono ?_
              rintro e w5 ⟨k2, hk2, hcut, rfl, rfl⟩
              dsimp only at hk2 hcut
              have hl2 : (l.take k2).length = k2 := by rw [List.length_take]; exact Nat.min_eq_left hk2
              have HLIM := ref01_Limbs ⟨l.take k2, A0, c0⟩ w5 (LX.ok.front HLX.out k2) (fun x hx => HBI.out x (List.mem_of_mem_take hx)) (by have := HLL.out; dsimp only; omega)
              dsimp only at HLIM
              rw [hl2, show val 2 (l.take k2) = val 2 l by rw [hcut, val_digs (by omega)]] at HLIM
              clear hl2 hcut hk2
              go_wp2_with fail
              refine HLIM.mono ?_
              clear HLIM
              rintro e w6 ⟨⟨zl, zA, zc⟩, rfl, hzl, hzo, hzE⟩
              dsimp only at hzl hzo
              have HE6 := Lib.hid (HE2.out.trans hzE)
              have BA := HA.out.ext HE6.out
              have hf1 := BA.free 1
              have hc1 : w6.cell? ⟨n + 1, 1, none⟩ = some (.slice none 0 0) := BA.cell 1
              have HZL : Hid (zl = digs B32 (val 2 l)) := Lib.hid hzl
              have HRD : Hid (ReadsR s (some ⟨true, zl, (0 : Int)⟩)) := Lib.hid (reads_some (by rw [hzl]; exact digs_lt (by decide) _) (fun a h1 h2 h3 => by
                obtain ⟨g1, g2, g3⟩ := HF.out a h1 h2 h3
                rw [hzl, HV.out _ g2, limbs_back a h1 h2, g1, g3]))
              have BA7 := BA.set 1 (.slice zA zl.length zc)
              have HM7 : Hid (XDyad.mine (w6.setCell ⟨n + 1, 1, none⟩ (.slice zA zl.length zc)) w5.heap.size ⟨true, ⟨zl, zA, zc⟩, (0 : Int)⟩) := Lib.hid ⟨hzo.far (fun e => by have := hzo.below_block _ e; have := HE2.out.size; have := HSW.out; simp at *; omega) _⟩
              have HO7 : Hid (Blk (w6.setCell ⟨n + 1, 1, none⟩ (.slice zA zl.length zc)) n 24 [.bool false, .slice none 0 0, .int .i64 0]) := Lib.hid ((HO.out.ext HE6.out).far (by simp) _)
              have HE7 : Hid (Ext w (w6.setCell ⟨n + 1, 1, none⟩ (.slice zA zl.length zc))) := Lib.hid ((HEX.out.trans HE6.out).setCell' (by rw [HN.out]; simp) _)
              have HB7 : Hid (Blk (w6.setCell ⟨n + 1, 1, none⟩ (.slice zA zl.length zc)) (n + 1) 24 [.bool true, .slice zA zl.length zc, .int .i64 (0 : Int)]) := Lib.hid BA7
              clear BA BA7 hzl hzo hzE
              go_wp2_with (first | ((with_reducible refine wpl_load 24 (.tmp 4) ?_ ?_ (n + 1) 0 [.bool true, .slice zA zl.length zc, .int .i64 (0 : Int)] ?_ ?_ ?_ ?_); (exact rfl); (exact rfl); (exact rfl); (exact aggDyad); (exact HB7.out.row)) | fail)
              refine (ref02_May ⟨true, ⟨zl, zA, zc⟩, (0 : Int)⟩ _ HM7.out.ok).mono ?_
              by_cases hm : mayD ⟨true, zl, (0 : Int)⟩
              · rw [show decide (mayD (XDyad.data ⟨true, ⟨zl, zA, zc⟩, (0 : Int)⟩)) = true from decide_eq_true hm]
                rintro e w8 ⟨rfl, hE8⟩
                have HLZ : Hid (Limbs zl) := Lib.hid (by rw [HZL.out]; exact digs_lt (by decide) _)
                obtain ⟨wd, hwd⟩ : ∃ x, wordL ⟨true, zl, (0 : Int)⟩ = x := ⟨_, rfl⟩
                have HWD := ref_Word ⟨true, ⟨zl, zA, zc⟩, (0 : Int)⟩ w8 (HM7.out.ok.ext hE8) HLZ.out hm
                rw [show wordL (XDyad.data ⟨true, ⟨zl, zA, zc⟩, (0 : Int)⟩) = wd from hwd] at HWD
                dsimp only at HWD
                have HB8 := Lib.hid (HB7.out.ext hE8)
                have HO8 := Lib.hid (HO7.out.ext hE8)
                have HM8 := Lib.hid (HM7.out.ext hE8)
                have HE8 := Lib.hid (HE7.out.trans hE8)
                have HMW : Hid (mayD ⟨true, zl, (0 : Int)⟩ ∧ wordL ⟨true, zl, (0 : Int)⟩ = wd) := Lib.hid ⟨hm, hwd⟩
                clear hE8 hm hwd
                go_wp2_with (first | ((with_reducible refine wpl_load 24 (.tmp 4) ?_ ?_ (n + 1) 0 [.bool true, .slice zA zl.length zc, .int .i64 (0 : Int)] ?_ ?_ ?_ ?_); (exact rfl); (exact rfl); (exact rfl); (exact aggDyad); (exact HB8.out.row)) | fail)
                refine HWD.mono ?_
                rintro e w9 ⟨rfl, hE9⟩
                have HB9 := Lib.hid (HB8.out.ext hE9)
                have BO := HO8.out.ext hE9
                have HM9 := Lib.hid (HM8.out.ext hE9)
                have HE9 := Lib.hid (HE8.out.trans hE9)
                clear hE9 HWD
                by_cases hw : wd = s
                · have heq : (wd == s) = true := by rw [hw]; exact beq_self_eq_true _
                  have HRZ : Hid (chkR s (some ⟨true, zl, (0 : Int)⟩) = (⟨true, zl, (0 : Int)⟩, 0)) := Lib.hid (if_pos ⟨HMW.out.1, HMW.out.2.trans hw⟩)
                  clear hw
                  go_wp2_with (first | ((with_reducible refine wpl_load 24 (.tmp 4) ?_ ?_ (n + 1) 0 [.bool true, .slice zA zl.length zc, .int .i64 (0 : Int)] ?_ ?_ ?_ ?_); (exact rfl); (exact rfl); (exact rfl); (exact aggDyad); (exact HB9.out.row)) | ((with_reducible refine wpl_store 24 (.tmp 2) (.tmp 100) ?_ ?_ n 0 24 [.bool false, .slice none 0 0, .int .i64 0] [.bool true, .slice zA zl.length zc, .int .i64 (0 : Int)] ?_ ?_ ?_ ?_ ?_ ?_ ?_); (exact rfl); (exact rfl); (exact rfl); (exact rfl); (exact aggDyad); (exact BO); (exact by simp); (exact rfl); (intro w10 BR2 hO2)) | fail)
                  exact bodyPost_ret (results_ct rfl rfl BR2 aggDyad) rfl ⟨_, HRD.out, ⟨true, ⟨zl, zA, zc⟩, (0 : Int)⟩, by rw [HRZ.out] <;> rfl, by rw [HRZ.out] <;> rfl, (HM9.out.only BO hO2 BR2 rfl (by decide)).ok, Only.ext HE9.out hO2 (by rw [HN.out]; omega)⟩
                · have heq : (wd == s) = false := by simpa using hw
                  have HRZ : Hid (chkR s (some ⟨true, zl, (0 : Int)⟩) = (PDyad.zero, 320)) := Lib.hid (if_neg fun h => hw (HMW.out.2.symm.trans h.2))
                  clear hw
                  go_wp2_with (first | ((with_reducible refine wpl_store 24 (.tmp 2) (.tmp 99) ?_ ?_ n 0 24 [.bool false, .slice none 0 0, .int .i64 0] [.bool false, .slice none 0 0, .int .i64 0] ?_ ?_ ?_ ?_ ?_ ?_ ?_); (exact rfl); (exact rfl); (exact rfl); (exact rfl); (exact aggDyad); (exact BO); (exact by simp); (exact rfl); (intro w10 BR2 hO2)) | fail)
                  exact bodyPost_ret (results_ct rfl rfl BR2 aggDyad) rfl ⟨_, HRD.out, XDyad.zero, by rw [HRZ.out] <;> rfl, by rw [HRZ.out] <;> rfl, (XDyad.zero_mine _ 0).ok, Only.ext HE9.out hO2 (by rw [HN.out]; omega)⟩
              · rw [show decide (mayD (XDyad.data ⟨true, ⟨zl, zA, zc⟩, (0 : Int)⟩)) = false from decide_eq_false hm]
                have HRZ : Hid (chkR s (some ⟨true, zl, (0 : Int)⟩) = (PDyad.zero, 320)) := Lib.hid (if_neg fun h => hm h.1)
                rintro e w8 ⟨rfl, hE8⟩
                have BO := HO7.out.ext hE8
                have HE8 := Lib.hid (HE7.out.trans hE8)
                clear hE8 hm
                go_wp2_with (first | ((with_reducible refine wpl_store 24 (.tmp 2) (.tmp 99) ?_ ?_ n 0 24 [.bool false, .slice none 0 0, .int .i64 0] [.bool false, .slice none 0 0, .int .i64 0] ?_ ?_ ?_ ?_ ?_ ?_ ?_); (exact rfl); (exact rfl); (exact rfl); (exact rfl); (exact aggDyad); (exact BO); (exact by simp); (exact rfl); (intro w9 BR2 hO2)) | fail)
                exact bodyPost_ret (results_ct rfl rfl BR2 aggDyad) rfl ⟨_, HRD.out, XDyad.zero, by rw [HRZ.out] <;> rfl, by rw [HRZ.out] <;> rfl, (XDyad.zero_mine _ 0).ok, Only.ext HE8.out hO2 (by rw [HN.out]; omega)⟩
    · have h45i : ¬ (ch.toNat : Int) = 45 := by omega
      have hch : ¬ ch = 45 := fun h => h45 (by rw [h]; decide)
      obtain ⟨b0, HBE⟩ : ∃ b, Hid (b = s) := ⟨_, Lib.hid rfl⟩
      have HCS : Hid (cutS s = (b0, false)) := Lib.hid (by rw [HBE.out, ht]; simp [cutS, hch])
      have HST : Hid (Value.string ⟨s.toArray⟩ = .string ⟨b0.toArray⟩) := Lib.hid (by rw [HBE.out])
      have HB0 : Hid (b0.length ≤ 400) := Lib.hid (by rw [HBE.out]; exact H400.out)
      have HW1 := HW0
      clear h45 hch ht HW0 H400
      generalize ch.toNat = bh at *
      go_enter Tryd.func33, Tryd.ntmps33
      go_wp2_with fail
      clear hat0 hpos
      go_loopw [5, 6] (fun o i W => ∃ k : Nat, k ≤ b0.length ∧ o = .string ⟨b0.toArray⟩ ∧ i = .int .i64 k ∧ Hid ((47 : UInt8) ∉ b0.take k ∧ Ext w W ∧ Blk W n 24 [.bool false, .slice none 0 0, .int .i64 0] ∧ Blk W (n + 1) 24 [.bool false, .slice none 0 0, .int .i64 0])) (fun _ i _ => b0.length - (intOf i).toNat)
      case atStart => exact ⟨0, by omega, HST.out, rfl, Lib.hid ⟨by simp, HW1.out⟩⟩
      case round =>
        obtain ⟨k, hk, rfl, rfl, HI⟩ := hrel
        have hb0l : (b0.length : Int) ≤ 400 := by have := HB0.out; omega
        have HSW : Hid (n + 1 < wr.heap.size) := Lib.hid HI.out.2.2.2.lt
        by_cases hkl : k < b0.length
        · have hki : (k : Int) < (b0.length : Int) := by omega
          obtain ⟨c, hc⟩ : ∃ c, b0[k]? = some c := ⟨_, List.getElem?_eq_getElem hkl⟩
          have hat : ∀ W, (Instr.index 9 (.string ⟨b0.toArray⟩) (.int .i64 (k : Int))).run Tryd.prog W = .ok (.int .u8 (c.toNat : Int)) W := fun W => run_at b0 k c hc W
          have HCK := Lib.hid hc
          clear hc
          by_cases h47 : c.toNat = 47
          · have h47i : (c.toNat : Int) = 47 := by omega
            have HSP : Hid (b0 = b0.take k ++ 47 :: b0.drop (k + 1)) := Lib.hid (by
              have h1 := drop_cons HCK.out
              rw [show c = 47 from UInt8.toNat_inj.1 (h47.trans (by decide))] at h1
              rw [← h1, List.take_append_drop])
            clear h47
            generalize c.toNat = bb at *
            have hk1 : (k : Int) + 1 ≤ 2000 := by have := HB0.out; omega
            have HS1 : ∀ W, (Instr.slice 9 (.string ⟨b0.toArray⟩) (some (.int .i64 ((k : Int) + 1))) none none).run Tryd.prog W = .ok (.string ⟨(b0.drop (k + 1)).toArray⟩) W := fun W => by
              rw [run_slice_string_l W 9 ⟨b0.toArray⟩ Tryd.underlying9 .i64 ((k : Int) + 1) (by omega) (by show (k : Int) + 1 ≤ (b0.length : Int); omega), Go.ByteArray.extract_mk]
              rw [show ((k : Int) + 1).toNat = k + 1 by omega, show (ByteArray.mk b0.toArray).size = b0.length from rfl, List.take_of_length_le (by rw [List.length_drop]; omega)]
            have HS2 : ∀ W, (Instr.slice 9 (.string ⟨b0.toArray⟩) none (some (.int .i64 (k : Int))) none).run Tryd.prog W = .ok (.string ⟨(b0.take k).toArray⟩) W := fun W => by
              rw [run_slice_string_h W 9 ⟨b0.toArray⟩ Tryd.underlying9 .i64 (k : Int) (by omega) (by show (k : Int) ≤ (b0.length : Int); omega), Go.ByteArray.extract_mk]
              simp
            have hw1 : IntKind.i64.wrap ((k : Int) + 1) = (k : Int) + 1 := by rw [IntWalk.i64_in _ (by omega)]
            go_wp2_with fail
            refine (ref_whole (b0.drop (k + 1)) (by rw [List.length_drop]; have := HB0.out; omega) _).mono ?_
            rintro e w3 ⟨⟨ex, b, rfl, hin, hwh⟩, rfl⟩
            have HWH := Lib.hid hwh
            have HINE := Lib.hid hin
            clear hwh hin HS1
            cases b with
            | false =>
              have HNR : Hid (NoneR s) := Lib.hid (fun a h1 h2 h3 => by
                obtain ⟨_, _, m, h5, h6, h7⟩ := fit_slash HCS.out HSP.out HI.out.1 a h1 h2 h3
                have := (HWH.out m h5 h7).2
                cases this)
              have HO := Lib.hid HI.out.2.2.1
              have HEX := Lib.hid HI.out.2.1
              have BO := HO.out
              have HRR : Hid (ReadsR s none) := Lib.hid (reads_none HNR.out)
              go_wp2_with (first | ((with_reducible refine wpl_store 24 (.tmp 2) (.tmp 48) ?_ ?_ n 0 24 [.bool false, .slice none 0 0, .int .i64 0] [.bool false, .slice none 0 0, .int .i64 0] ?_ ?_ ?_ ?_ ?_ ?_ ?_); (exact rfl); (exact rfl); (exact rfl); (exact rfl); (exact aggDyad); (exact BO); (exact by simp); (exact rfl); (intro w8 BR2 hO2)) | fail)
              exact bodyPost_ret (results_ct rfl rfl BR2 aggDyad) rfl ⟨none, HRR.out, XDyad.zero, rfl, rfl, (XDyad.zero_mine _ 0).ok, Only.ext HEX.out hO2 (by rw [HN.out]; omega)⟩
            | true =>
              have BA := HI.out.2.2.2
              have hf2 := BA.free 2
              have hc2 : w3.cell? ⟨n + 1, 2, none⟩ = some (.int .i64 0) := BA.cell 2
              have HA : Hid (Blk (w3.setCell ⟨n + 1, 2, none⟩ (.int .i64 ex)) (n + 1) 24 [.bool false, .slice none 0 0, .int .i64 ex]) := Lib.hid (BA.set 2 _)
              have HO : Hid (Blk (w3.setCell ⟨n + 1, 2, none⟩ (.int .i64 ex)) n 24 [.bool false, .slice none 0 0, .int .i64 0]) := Lib.hid (HI.out.2.2.1.far (by simp) _)
              have HEX : Hid (Ext w (w3.setCell ⟨n + 1, 2, none⟩ (.int .i64 ex))) := Lib.hid (HI.out.2.1.setCell' (by rw [HN.out]; simp) _)
              have HSW : Hid (n + 1 < (w3.setCell ⟨n + 1, 2, none⟩ (.int .i64 ex)).heap.size) := Lib.hid HA.out.lt
              obtain ⟨bd, hbd⟩ : ∃ x, b0.take k = x := ⟨_, rfl⟩
              have HF : Hid (FitR s false bd ex) := Lib.hid (fun a h1 h2 h3 => by
                obtain ⟨g1, g2, ⟨m, h5, h6, h7⟩⟩ := fit_slash HCS.out HSP.out HI.out.1 a h1 h2 h3
                exact ⟨g1, hbd.symm.trans g2, by rw [h6]; exact (HWH.out m h5 h7).1⟩)
              have HBL : Hid (bd.length ≤ 400) := Lib.hid (by rw [← hbd, List.length_take]; have := HB0.out; omega)
              simp only [hbd] at HS2
              clear BA hbd HSP HWH HI
              have hbl : (bd.length : Int) ≤ 400 := by have := HBL.out; omega
              go_wp2_with fail
              generalize w3.setCell ⟨n + 1, 2, none⟩ (.int .i64 ex) = WX at *
              go_loopw [9, 10] (fun v i W => ∃ (cnt : Nat) (z : Int) (l : List Nat), cnt ≤ bd.length ∧ z + cnt + 1 = bd.length ∧ i = .int .i64 z ∧ Hid (BtI WX W bd cnt v l)) (fun _ i _ => (intOf i + 1).toNat)
              case atStart => exact ⟨0, (bd.length : Int) - 1, [], by omega, by omega, rfl, Lib.hid ⟨Ext.refl _, Own.nil _ _ _ _ _, (fun x hx => by cases hx), rfl, (fun V _ => by simp [Nat.mod_one])⟩⟩
              case round =>
                obtain ⟨cnt, z, l, hcnt, hz, rfl, HI⟩ := hrel
                by_cases hz0 : 0 ≤ z
                · obtain ⟨i, rfl⟩ : ∃ i : Nat, z = i := ⟨z.toNat, by omega⟩
                  have hil : i < bd.length := by omega
                  obtain ⟨c, hc⟩ : ∃ c, bd[i]? = some c := ⟨_, List.getElem?_eq_getElem hil⟩
                  have hat : ∀ W, (Instr.index 9 (.string ⟨bd.toArray⟩) (.int .i64 (i : Int))).run Tryd.prog W = .ok (.int .u8 (c.toNat : Int)) W := fun W => run_at bd i c hc W
                  have hii : (i : Int) < (bd.length : Int) := by omega
                  have HDG : Hid (∀ V, bd = hexL V → ∃ d, d < 16 ∧ d = V / 16 ^ cnt % 16 ∧ c = hexd d) := Lib.hid (digit_at hc (by omega))
                  have hc256 := c.toNat_lt
                  have HC : Hid (∀ d, d < 16 → c = hexd d → sixL c.toNat = (d : Int)) := Lib.hid (fun d hd h => by rw [h]; exact sixL_hexd hd)
                  have HS0 : Hid (sixL c.toNat = -1 ∨ ∃ q : Nat, q < 16 ∧ sixL c.toNat = (q : Int)) := Lib.hid (sixL_cases c.toNat)
                  clear hc
                  go_wp2_with fail
                  refine (ref_sixteen c.toNat (by omega) _).mono ?_
                  rintro e w4 ⟨rfl, rfl⟩
                  clear hat
                  rcases HS0.out with hq | ⟨q, hq16, hq⟩
                  · rw [hq]
                    have HNR : Hid (NoneR s) := Lib.hid (fun a h1 h2 h3 => by
                      obtain ⟨_, h4, _⟩ := HF.out a h1 h2 h3
                      obtain ⟨d, h5, _, h7⟩ := HDG.out _ h4
                      have := HC.out d h5 h7
                      omega)
                    have HO := Lib.hid (HO.out.ext HI.out.ext)
                    have HEX := Lib.hid (HEX.out.trans HI.out.ext)
                    have BO := HO.out
                    have HRR : Hid (ReadsR s none) := Lib.hid (reads_none HNR.out)
                    go_wp2_with (first | ((with_reducible refine wpl_store 24 (.tmp 2) (.tmp 67) ?_ ?_ n 0 24 [.bool false, .slice none 0 0, .int .i64 0] [.bool false, .slice none 0 0, .int .i64 0] ?_ ?_ ?_ ?_ ?_ ?_ ?_); (exact rfl); (exact rfl); (exact rfl); (exact rfl); (exact aggDyad); (exact BO); (exact by simp); (exact rfl); (intro w8 BR2 hO2)) | fail)
                    exact bodyPost_ret (results_ct rfl rfl BR2 aggDyad) rfl ⟨none, HRR.out, XDyad.zero, rfl, rfl, (XDyad.zero_mine _ 0).ok, Only.ext HEX.out hO2 (by rw [HN.out]; omega)⟩
                  · rw [hq]
                    obtain ⟨r0, hr0⟩ : ∃ r, q % 2 = r := ⟨_, rfl⟩
                    obtain ⟨q1, hq1⟩ : ∃ r, q / 2 = r := ⟨_, rfl⟩
                    obtain ⟨r1, hr1⟩ : ∃ r, q1 % 2 = r := ⟨_, rfl⟩
                    obtain ⟨q2, hq2⟩ : ∃ r, q / 4 = r := ⟨_, rfl⟩
                    obtain ⟨r2, hr2⟩ : ∃ r, q2 % 2 = r := ⟨_, rfl⟩
                    obtain ⟨q3, hq3⟩ : ∃ r, q / 8 = r := ⟨_, rfl⟩
                    obtain ⟨r3, hr3⟩ : ∃ r, q3 % 2 = r := ⟨_, rfl⟩
                    have a0 : (q : Int) % 2 = (r0 : Int) := by omega
                    have a1 : (q : Int) / 2 = (q1 : Int) := by omega
                    have a2 : (q1 : Int) % 2 = (r1 : Int) := by omega
                    have a3 : (q : Int) / 4 = (q2 : Int) := by omega
                    have a4 : (q2 : Int) % 2 = (r2 : Int) := by omega
                    have a5 : (q : Int) / 8 = (q3 : Int) := by omega
                    have a6 : (q3 : Int) % 2 = (r3 : Int) := by omega
                    have t0 : (q : Int).tmod 2 = (r0 : Int) := by rw [← hr0]; exact (Int.ofNat_tmod q 2).symm
                    have t1 : (q : Int).tdiv 2 = (q1 : Int) := by rw [← hq1]; exact (Int.ofNat_tdiv q 2).symm
                    have t2 : (q1 : Int).tmod 2 = (r1 : Int) := by rw [← hr1]; exact (Int.ofNat_tmod q1 2).symm
                    have t3 : (q : Int).tdiv 4 = (q2 : Int) := by rw [← hq2]; exact (Int.ofNat_tdiv q 4).symm
                    have t4 : (q2 : Int).tmod 2 = (r2 : Int) := by rw [← hr2]; exact (Int.ofNat_tmod q2 2).symm
                    have t5 : (q : Int).tdiv 8 = (q3 : Int) := by rw [← hq3]; exact (Int.ofNat_tdiv q 8).symm
                    have t6 : (q3 : Int).tmod 2 = (r3 : Int) := by rw [← hr3]; exact (Int.ofNat_tmod q3 2).symm
                    have b0 : (r0 : Int) ≤ 1 := by omega
                    have b1 : (r1 : Int) ≤ 1 := by omega
                    have b2 : (r2 : Int) ≤ 1 := by omega
                    have b3 : (r3 : Int) ≤ 1 := by omega
                    have b4 : (q1 : Int) ≤ 15 := by omega
                    have b5 : (q2 : Int) ≤ 15 := by omega
                    have b6 : (q3 : Int) ≤ 15 := by omega
                    have b7 : (q : Int) ≤ 15 := by omega
                    have HQ : Hid (r0 + 2 * (r1 + 2 * (r2 + 2 * r3)) = q ∧ r0 < 2 ∧ r1 < 2 ∧ r2 < 2 ∧ r3 < 2) := Lib.hid (by omega)
                    have HQV : Hid (∀ V, bd = hexL V → q = V / 16 ^ cnt % 16) := Lib.hid (fun V hV => by
                      obtain ⟨d, h5, h6, h7⟩ := HDG.out V hV
                      have := HC.out d h5 h7
                      omega)
                    have HLL : Hid (l.length ≤ 1600) := Lib.hid (by have := HI.out.len; have := HBL.out; omega)
                    have HSZ : Hid (WX.heap.size ≤ w4.heap.size) := Lib.hid HI.out.ext.size
                    clear hr0 hq1 hr1 hq2 hr2 hq3 hr3 hq HDG HC HS0 hc256
                    go_wp2_with (at_builtin; go_must (refine app_part elu8 rfl (.tmp 68) (.tmp 84) rfl (w4.alloc _) WX.heap.size cU8 _ l [r0, r1, r2, r3] rfl (HI.out.own.alloc _) (some ⟨w4.heap.size, 0, none⟩) 4 4 rfl rfl (.inr ⟨_, _, rfl, by simp, Blk.row (Blk.new rfl)⟩) (fun _ => rfl) (fun _ => rfl) (by have := HLL.out; simp; omega) (by have := HLL.out; unfold maxLen; simp; omega) (by have := HSZ.out; simp; omega) ?_); intro v' w' hown' hgrow _)
                    go_roundw
                    case rel => exact ⟨cnt + 1, (i : Int) - 1, _, by omega, by omega, by go_num, Lib.hid (HI.out.next hown' hgrow HQ.out HQV.out)⟩
                    case measure => simp [intOf]
                · have hcl : cnt = bd.length := by omega
                  have HV : Hid (∀ V, bd = hexL V → val 2 l = V) := Lib.hid (fun V hV => by rw [HI.out.sum V hV, hcl, hV]; exact Nat.mod_eq_of_lt (hexL_lt V))
                  have HLL : Hid (l.length ≤ 1600) := Lib.hid (by have := HI.out.len; have := HBL.out; omega)
                  obtain ⟨A0, c0, rfl, hlx⟩ := HI.out.own.form
                  have HLX := Lib.hid hlx
                  have HBI := Lib.hid HI.out.bits
                  have HE2 := Lib.hid HI.out.ext
                  clear hlx HI hcl hcnt hz
                  go_wp2_with fail
                  refine (ref01_Cut ⟨l, A0, c0⟩ _ HLX.out HBI.out).mono ?_
                  rintro e w5 ⟨k2, hk2, hcut, rfl, rfl⟩
                  dsimp only at hk2 hcut
                  have hl2 : (l.take k2).length = k2 := by rw [List.length_take]; exact Nat.min_eq_left hk2
                  have HLIM := ref01_Limbs ⟨l.take k2, A0, c0⟩ w5 (LX.ok.front HLX.out k2) (fun x hx => HBI.out x (List.mem_of_mem_take hx)) (by have := HLL.out; dsimp only; omega)
                  dsimp only at HLIM
                  rw [hl2, show val 2 (l.take k2) = val 2 l by rw [hcut, val_digs (by omega)]] at HLIM
                  clear hl2 hcut hk2
                  go_wp2_with fail
                  refine HLIM.mono ?_
                  clear HLIM
                  rintro e w6 ⟨⟨zl, zA, zc⟩, rfl, hzl, hzo, hzE⟩
                  dsimp only at hzl hzo
                  have HE6 := Lib.hid (HE2.out.trans hzE)
                  have BA := HA.out.ext HE6.out
                  have hf1 := BA.free 1
                  have hc1 : w6.cell? ⟨n + 1, 1, none⟩ = some (.slice none 0 0) := BA.cell 1
                  have HZL : Hid (zl = digs B32 (val 2 l)) := Lib.hid hzl
                  have HRD : Hid (ReadsR s (some ⟨false, zl, ex⟩)) := Lib.hid (reads_some (by rw [hzl]; exact digs_lt (by decide) _) (fun a h1 h2 h3 => by
                    obtain ⟨g1, g2, g3⟩ := HF.out a h1 h2 h3
                    rw [hzl, HV.out _ g2, limbs_back a h1 h2, g1, g3]))
                  have BA7 := BA.set 1 (.slice zA zl.length zc)
                  have HM7 : Hid (XDyad.mine (w6.setCell ⟨n + 1, 1, none⟩ (.slice zA zl.length zc)) w5.heap.size ⟨false, ⟨zl, zA, zc⟩, ex⟩) := Lib.hid ⟨hzo.far (fun e => by have := hzo.below_block _ e; have := HE2.out.size; have := HSW.out; simp at *; omega) _⟩
                  have HO7 : Hid (Blk (w6.setCell ⟨n + 1, 1, none⟩ (.slice zA zl.length zc)) n 24 [.bool false, .slice none 0 0, .int .i64 0]) := Lib.hid ((HO.out.ext HE6.out).far (by simp) _)
                  have HE7 : Hid (Ext w (w6.setCell ⟨n + 1, 1, none⟩ (.slice zA zl.length zc))) := Lib.hid ((HEX.out.trans HE6.out).setCell' (by rw [HN.out]; simp) _)
                  have HB7 : Hid (Blk (w6.setCell ⟨n + 1, 1, none⟩ (.slice zA zl.length zc)) (n + 1) 24 [.bool false, .slice zA zl.length zc, .int .i64 ex]) := Lib.hid BA7
                  clear BA BA7 hzl hzo hzE
                  go_wp2_with (first | ((with_reducible refine wpl_load 24 (.tmp 4) ?_ ?_ (n + 1) 0 [.bool false, .slice zA zl.length zc, .int .i64 ex] ?_ ?_ ?_ ?_); (exact rfl); (exact rfl); (exact rfl); (exact aggDyad); (exact HB7.out.row)) | fail)
                  refine (ref02_May ⟨false, ⟨zl, zA, zc⟩, ex⟩ _ HM7.out.ok).mono ?_
                  by_cases hm : mayD ⟨false, zl, ex⟩
                  · rw [show decide (mayD (XDyad.data ⟨false, ⟨zl, zA, zc⟩, ex⟩)) = true from decide_eq_true hm]
                    rintro e w8 ⟨rfl, hE8⟩
                    have HLZ : Hid (Limbs zl) := Lib.hid (by rw [HZL.out]; exact digs_lt (by decide) _)
                    obtain ⟨wd, hwd⟩ : ∃ x, wordL ⟨false, zl, ex⟩ = x := ⟨_, rfl⟩
                    have HWD := ref_Word ⟨false, ⟨zl, zA, zc⟩, ex⟩ w8 (HM7.out.ok.ext hE8) HLZ.out hm
                    rw [show wordL (XDyad.data ⟨false, ⟨zl, zA, zc⟩, ex⟩) = wd from hwd] at HWD
                    dsimp only at HWD
                    have HB8 := Lib.hid (HB7.out.ext hE8)
                    have HO8 := Lib.hid (HO7.out.ext hE8)
                    have HM8 := Lib.hid (HM7.out.ext hE8)
                    have HE8 := Lib.hid (HE7.out.trans hE8)
                    have HMW : Hid (mayD ⟨false, zl, ex⟩ ∧ wordL ⟨false, zl, ex⟩ = wd) := Lib.hid ⟨hm, hwd⟩
                    clear hE8 hm hwd
                    go_wp2_with (first | ((with_reducible refine wpl_load 24 (.tmp 4) ?_ ?_ (n + 1) 0 [.bool false, .slice zA zl.length zc, .int .i64 ex] ?_ ?_ ?_ ?_); (exact rfl); (exact rfl); (exact rfl); (exact aggDyad); (exact HB8.out.row)) | fail)
                    refine HWD.mono ?_
                    rintro e w9 ⟨rfl, hE9⟩
                    have HB9 := Lib.hid (HB8.out.ext hE9)
                    have BO := HO8.out.ext hE9
                    have HM9 := Lib.hid (HM8.out.ext hE9)
                    have HE9 := Lib.hid (HE8.out.trans hE9)
                    clear hE9 HWD
                    by_cases hw : wd = s
                    · have heq : (wd == s) = true := by rw [hw]; exact beq_self_eq_true _
                      have HRZ : Hid (chkR s (some ⟨false, zl, ex⟩) = (⟨false, zl, ex⟩, 0)) := Lib.hid (if_pos ⟨HMW.out.1, HMW.out.2.trans hw⟩)
                      clear hw
                      go_wp2_with (first | ((with_reducible refine wpl_load 24 (.tmp 4) ?_ ?_ (n + 1) 0 [.bool false, .slice zA zl.length zc, .int .i64 ex] ?_ ?_ ?_ ?_); (exact rfl); (exact rfl); (exact rfl); (exact aggDyad); (exact HB9.out.row)) | ((with_reducible refine wpl_store 24 (.tmp 2) (.tmp 100) ?_ ?_ n 0 24 [.bool false, .slice none 0 0, .int .i64 0] [.bool false, .slice zA zl.length zc, .int .i64 ex] ?_ ?_ ?_ ?_ ?_ ?_ ?_); (exact rfl); (exact rfl); (exact rfl); (exact rfl); (exact aggDyad); (exact BO); (exact by simp); (exact rfl); (intro w10 BR2 hO2)) | fail)
                      exact bodyPost_ret (results_ct rfl rfl BR2 aggDyad) rfl ⟨_, HRD.out, ⟨false, ⟨zl, zA, zc⟩, ex⟩, by rw [HRZ.out] <;> rfl, by rw [HRZ.out] <;> rfl, (HM9.out.only BO hO2 BR2 rfl (by decide)).ok, Only.ext HE9.out hO2 (by rw [HN.out]; omega)⟩
                    · have heq : (wd == s) = false := by simpa using hw
                      have HRZ : Hid (chkR s (some ⟨false, zl, ex⟩) = (PDyad.zero, 320)) := Lib.hid (if_neg fun h => hw (HMW.out.2.symm.trans h.2))
                      clear hw
                      go_wp2_with (first | ((with_reducible refine wpl_store 24 (.tmp 2) (.tmp 99) ?_ ?_ n 0 24 [.bool false, .slice none 0 0, .int .i64 0] [.bool false, .slice none 0 0, .int .i64 0] ?_ ?_ ?_ ?_ ?_ ?_ ?_); (exact rfl); (exact rfl); (exact rfl); (exact rfl); (exact aggDyad); (exact BO); (exact by simp); (exact rfl); (intro w10 BR2 hO2)) | fail)
                      exact bodyPost_ret (results_ct rfl rfl BR2 aggDyad) rfl ⟨_, HRD.out, XDyad.zero, by rw [HRZ.out] <;> rfl, by rw [HRZ.out] <;> rfl, (XDyad.zero_mine _ 0).ok, Only.ext HE9.out hO2 (by rw [HN.out]; omega)⟩
                  · rw [show decide (mayD (XDyad.data ⟨false, ⟨zl, zA, zc⟩, ex⟩)) = false from decide_eq_false hm]
                    have HRZ : Hid (chkR s (some ⟨false, zl, ex⟩) = (PDyad.zero, 320)) := Lib.hid (if_neg fun h => hm h.1)
                    rintro e w8 ⟨rfl, hE8⟩
                    have BO := HO7.out.ext hE8
                    have HE8 := Lib.hid (HE7.out.trans hE8)
                    clear hE8 hm
                    go_wp2_with (first | ((with_reducible refine wpl_store 24 (.tmp 2) (.tmp 99) ?_ ?_ n 0 24 [.bool false, .slice none 0 0, .int .i64 0] [.bool false, .slice none 0 0, .int .i64 0] ?_ ?_ ?_ ?_ ?_ ?_ ?_); (exact rfl); (exact rfl); (exact rfl); (exact rfl); (exact aggDyad); (exact BO); (exact by simp); (exact rfl); (intro w9 BR2 hO2)) | fail)
                    exact bodyPost_ret (results_ct rfl rfl BR2 aggDyad) rfl ⟨_, HRD.out, XDyad.zero, by rw [HRZ.out] <;> rfl, by rw [HRZ.out] <;> rfl, (XDyad.zero_mine _ 0).ok, Only.ext HE8.out hO2 (by rw [HN.out]; omega)⟩
          · have h47i : ¬ (c.toNat : Int) = 47 := by omega
            have HNX : Hid ((47 : UInt8) ∉ b0.take (k + 1) ∧ Ext w wr ∧ Blk wr n 24 [.bool false, .slice none 0 0, .int .i64 0] ∧ Blk wr (n + 1) 24 [.bool false, .slice none 0 0, .int .i64 0]) := Lib.hid ⟨by
              rw [take_snoc HCK.out]
              intro h
              rcases List.mem_append.1 h with h | h
              · exact HI.out.1 h
              · rw [← List.mem_singleton.1 h] at h47; exact h47 (by decide), HI.out.2⟩
            clear h47
            generalize c.toNat = bb at *
            go_wp2_with fail
            go_roundw
            case rel => exact ⟨k + 1, by omega, rfl, by go_num, HNX⟩
            case measure => simp [intOf]; omega
        · have hki : ¬ (k : Int) < (b0.length : Int) := by omega
          have HA := Lib.hid HI.out.2.2.2
          have HO := Lib.hid HI.out.2.2.1
          have HEX := Lib.hid HI.out.2.1
          have HF : Hid (FitR s false b0 0) := Lib.hid (fit_plain HCS.out (by have := HI.out.1; rwa [List.take_of_length_le (by omega)] at this))
          have HBL := HB0
          obtain ⟨bd, rfl⟩ : ∃ x, x = b0 := ⟨_, rfl⟩
          clear HI hkl
          have hbl : (bd.length : Int) ≤ 400 := by have := HBL.out; omega
          go_wp2_with fail
          obtain ⟨WX, rfl⟩ : ∃ W, W = wr := ⟨_, rfl⟩
          go_loopw [9, 10] (fun v i W => ∃ (cnt : Nat) (z : Int) (l : List Nat), cnt ≤ bd.length ∧ z + cnt + 1 = bd.length ∧ i = .int .i64 z ∧ Hid (BtI WX W bd cnt v l)) (fun _ i _ => (intOf i + 1).toNat)
          case atStart => exact ⟨0, (bd.length : Int) - 1, [], by omega, by omega, rfl, Lib.hid ⟨Ext.refl _, Own.nil _ _ _ _ _, (fun x hx => by cases hx), rfl, (fun V _ => by simp [Nat.mod_one])⟩⟩
          case round =>
            obtain ⟨cnt, z, l, hcnt, hz, rfl, HI⟩ := hrel
            by_cases hz0 : 0 ≤ z
            · obtain ⟨i, rfl⟩ : ∃ i : Nat, z = i := ⟨z.toNat, by omega⟩
              have hil : i < bd.length := by omega
              obtain ⟨c, hc⟩ : ∃ c, bd[i]? = some c := ⟨_, List.getElem?_eq_getElem hil⟩
              have hat : ∀ W, (Instr.index 9 (.string ⟨bd.toArray⟩) (.int .i64 (i : Int))).run Tryd.prog W = .ok (.int .u8 (c.toNat : Int)) W := fun W => run_at bd i c hc W
              have hii : (i : Int) < (bd.length : Int) := by omega
              have HDG : Hid (∀ V, bd = hexL V → ∃ d, d < 16 ∧ d = V / 16 ^ cnt % 16 ∧ c = hexd d) := Lib.hid (digit_at hc (by omega))
              have hc256 := c.toNat_lt
              have HC : Hid (∀ d, d < 16 → c = hexd d → sixL c.toNat = (d : Int)) := Lib.hid (fun d hd h => by rw [h]; exact sixL_hexd hd)
              have HS0 : Hid (sixL c.toNat = -1 ∨ ∃ q : Nat, q < 16 ∧ sixL c.toNat = (q : Int)) := Lib.hid (sixL_cases c.toNat)
              clear hc
              go_wp2_with fail
              refine (ref_sixteen c.toNat (by omega) _).mono ?_
              rintro e w4 ⟨rfl, rfl⟩
              clear hat
              rcases HS0.out with hq | ⟨q, hq16, hq⟩
              · rw [hq]
                have HNR : Hid (NoneR s) := Lib.hid (fun a h1 h2 h3 => by
                  obtain ⟨_, h4, _⟩ := HF.out a h1 h2 h3
                  obtain ⟨d, h5, _, h7⟩ := HDG.out _ h4
                  have := HC.out d h5 h7
                  omega)
                have HO := Lib.hid (HO.out.ext HI.out.ext)
                have HEX := Lib.hid (HEX.out.trans HI.out.ext)
                have BO := HO.out
                have HRR : Hid (ReadsR s none) := Lib.hid (reads_none HNR.out)
                go_wp2_with (first | ((with_reducible refine wpl_store 24 (.tmp 2) (.tmp 67) ?_ ?_ n 0 24 [.bool false, .slice none 0 0, .int .i64 0] [.bool false, .slice none 0 0, .int .i64 0] ?_ ?_ ?_ ?_ ?_ ?_ ?_); (exact rfl); (exact rfl); (exact rfl); (exact rfl); (exact aggDyad); (exact BO); (exact by simp); (exact rfl); (intro w8 BR2 hO2)) | fail)
                exact bodyPost_ret (results_ct rfl rfl BR2 aggDyad) rfl ⟨none, HRR.out, XDyad.zero, rfl, rfl, (XDyad.zero_mine _ 0).ok, Only.ext HEX.out hO2 (by rw [HN.out]; omega)⟩
              · rw [hq]
                obtain ⟨r0, hr0⟩ : ∃ r, q % 2 = r := ⟨_, rfl⟩
                obtain ⟨q1, hq1⟩ : ∃ r, q / 2 = r := ⟨_, rfl⟩
                obtain ⟨r1, hr1⟩ : ∃ r, q1 % 2 = r := ⟨_, rfl⟩
                obtain ⟨q2, hq2⟩ : ∃ r, q / 4 = r := ⟨_, rfl⟩
                obtain ⟨r2, hr2⟩ : ∃ r, q2 % 2 = r := ⟨_, rfl⟩
                obtain ⟨q3, hq3⟩ : ∃ r, q / 8 = r := ⟨_, rfl⟩
                obtain ⟨r3, hr3⟩ : ∃ r, q3 % 2 = r := ⟨_, rfl⟩
                have a0 : (q : Int) % 2 = (r0 : Int) := by omega
                have a1 : (q : Int) / 2 = (q1 : Int) := by omega
                have a2 : (q1 : Int) % 2 = (r1 : Int) := by omega
                have a3 : (q : Int) / 4 = (q2 : Int) := by omega
                have a4 : (q2 : Int) % 2 = (r2 : Int) := by omega
                have a5 : (q : Int) / 8 = (q3 : Int) := by omega
                have a6 : (q3 : Int) % 2 = (r3 : Int) := by omega
                have t0 : (q : Int).tmod 2 = (r0 : Int) := by rw [← hr0]; exact (Int.ofNat_tmod q 2).symm
                have t1 : (q : Int).tdiv 2 = (q1 : Int) := by rw [← hq1]; exact (Int.ofNat_tdiv q 2).symm
                have t2 : (q1 : Int).tmod 2 = (r1 : Int) := by rw [← hr1]; exact (Int.ofNat_tmod q1 2).symm
                have t3 : (q : Int).tdiv 4 = (q2 : Int) := by rw [← hq2]; exact (Int.ofNat_tdiv q 4).symm
                have t4 : (q2 : Int).tmod 2 = (r2 : Int) := by rw [← hr2]; exact (Int.ofNat_tmod q2 2).symm
                have t5 : (q : Int).tdiv 8 = (q3 : Int) := by rw [← hq3]; exact (Int.ofNat_tdiv q 8).symm
                have t6 : (q3 : Int).tmod 2 = (r3 : Int) := by rw [← hr3]; exact (Int.ofNat_tmod q3 2).symm
                have b0 : (r0 : Int) ≤ 1 := by omega
                have b1 : (r1 : Int) ≤ 1 := by omega
                have b2 : (r2 : Int) ≤ 1 := by omega
                have b3 : (r3 : Int) ≤ 1 := by omega
                have b4 : (q1 : Int) ≤ 15 := by omega
                have b5 : (q2 : Int) ≤ 15 := by omega
                have b6 : (q3 : Int) ≤ 15 := by omega
                have b7 : (q : Int) ≤ 15 := by omega
                have HQ : Hid (r0 + 2 * (r1 + 2 * (r2 + 2 * r3)) = q ∧ r0 < 2 ∧ r1 < 2 ∧ r2 < 2 ∧ r3 < 2) := Lib.hid (by omega)
                have HQV : Hid (∀ V, bd = hexL V → q = V / 16 ^ cnt % 16) := Lib.hid (fun V hV => by
                  obtain ⟨d, h5, h6, h7⟩ := HDG.out V hV
                  have := HC.out d h5 h7
                  omega)
                have HLL : Hid (l.length ≤ 1600) := Lib.hid (by have := HI.out.len; have := HBL.out; omega)
                have HSZ : Hid (WX.heap.size ≤ w4.heap.size) := Lib.hid HI.out.ext.size
                clear hr0 hq1 hr1 hq2 hr2 hq3 hr3 hq HDG HC HS0 hc256
                go_wp2_with (at_builtin; go_must (refine app_part elu8 rfl (.tmp 68) (.tmp 84) rfl (w4.alloc _) WX.heap.size cU8 _ l [r0, r1, r2, r3] rfl (HI.out.own.alloc _) (some ⟨w4.heap.size, 0, none⟩) 4 4 rfl rfl (.inr ⟨_, _, rfl, by simp, Blk.row (Blk.new rfl)⟩) (fun _ => rfl) (fun _ => rfl) (by have := HLL.out; simp; omega) (by have := HLL.out; unfold maxLen; simp; omega) (by have := HSZ.out; simp; omega) ?_); intro v' w' hown' hgrow _)
                go_roundw
                case rel => exact ⟨cnt + 1, (i : Int) - 1, _, by omega, by omega, by go_num, Lib.hid (HI.out.next hown' hgrow HQ.out HQV.out)⟩
                case measure => simp [intOf]
            · have hcl : cnt = bd.length := by omega
              have HV : Hid (∀ V, bd = hexL V → val 2 l = V) := Lib.hid (fun V hV => by rw [HI.out.sum V hV, hcl, hV]; exact Nat.mod_eq_of_lt (hexL_lt V))
              have HLL : Hid (l.length ≤ 1600) := Lib.hid (by have := HI.out.len; have := HBL.out; omega)
              obtain ⟨A0, c0, rfl, hlx⟩ := HI.out.own.form
              have HLX := Lib.hid hlx
              have HBI := Lib.hid HI.out.bits
              have HE2 := Lib.hid HI.out.ext
              clear hlx HI hcl hcnt hz
              go_wp2_with fail
              refine (ref01_Cut ⟨l, A0, c0⟩ _ HLX.out HBI.out).mono ?_
              rintro e w5 ⟨k2, hk2, hcut, rfl, rfl⟩
              dsimp only at hk2 hcut
              have hl2 : (l.take k2).length = k2 := by rw [List.length_take]; exact Nat.min_eq_left hk2
              have HLIM := ref01_Limbs ⟨l.take k2, A0, c0⟩ w5 (LX.ok.front HLX.out k2) (fun x hx => HBI.out x (List.mem_of_mem_take hx)) (by have := HLL.out; dsimp only; omega)
              dsimp only at HLIM
              rw [hl2, show val 2 (l.take k2) = val 2 l by rw [hcut, val_digs (by omega)]] at HLIM
              clear hl2 hcut hk2
              go_wp2_with fail
              refine HLIM.mono ?_
              clear HLIM
              rintro e w6 ⟨⟨zl, zA, zc⟩, rfl, hzl, hzo, hzE⟩
              dsimp only at hzl hzo
              have HE6 := Lib.hid (HE2.out.trans hzE)
              have BA := HA.out.ext HE6.out
              have hf1 := BA.free 1
              have hc1 : w6.cell? ⟨n + 1, 1, none⟩ = some (.slice none 0 0) := BA.cell 1
              have HZL : Hid (zl = digs B32 (val 2 l)) := Lib.hid hzl
              have HRD : Hid (ReadsR s (some ⟨false, zl, (0 : Int)⟩)) := Lib.hid (reads_some (by rw [hzl]; exact digs_lt (by decide) _) (fun a h1 h2 h3 => by
                obtain ⟨g1, g2, g3⟩ := HF.out a h1 h2 h3
                rw [hzl, HV.out _ g2, limbs_back a h1 h2, g1, g3]))
              have BA7 := BA.set 1 (.slice zA zl.length zc)
              have HM7 : Hid (XDyad.mine (w6.setCell ⟨n + 1, 1, none⟩ (.slice zA zl.length zc)) w5.heap.size ⟨false, ⟨zl, zA, zc⟩, (0 : Int)⟩) := Lib.hid ⟨hzo.far (fun e => by have := hzo.below_block _ e; have := HE2.out.size; have := HSW.out; simp at *; omega) _⟩
              have HO7 : Hid (Blk (w6.setCell ⟨n + 1, 1, none⟩ (.slice zA zl.length zc)) n 24 [.bool false, .slice none 0 0, .int .i64 0]) := Lib.hid ((HO.out.ext HE6.out).far (by simp) _)
              have HE7 : Hid (Ext w (w6.setCell ⟨n + 1, 1, none⟩ (.slice zA zl.length zc))) := Lib.hid ((HEX.out.trans HE6.out).setCell' (by rw [HN.out]; simp) _)
              have HB7 : Hid (Blk (w6.setCell ⟨n + 1, 1, none⟩ (.slice zA zl.length zc)) (n + 1) 24 [.bool false, .slice zA zl.length zc, .int .i64 (0 : Int)]) := Lib.hid BA7
              clear BA BA7 hzl hzo hzE
              go_wp2_with (first | ((with_reducible refine wpl_load 24 (.tmp 4) ?_ ?_ (n + 1) 0 [.bool false, .slice zA zl.length zc, .int .i64 (0 : Int)] ?_ ?_ ?_ ?_); (exact rfl); (exact rfl); (exact rfl); (exact aggDyad); (exact HB7.out.row)) | fail)
              refine (ref02_May ⟨false, ⟨zl, zA, zc⟩, (0 : Int)⟩ _ HM7.out.ok).mono ?_
              by_cases hm : mayD ⟨false, zl, (0 : Int)⟩
              · rw [show decide (mayD (XDyad.data ⟨false, ⟨zl, zA, zc⟩, (0 : Int)⟩)) = true from decide_eq_true hm]
                rintro e w8 ⟨rfl, hE8⟩
                have HLZ : Hid (Limbs zl) := Lib.hid (by rw [HZL.out]; exact digs_lt (by decide) _)
                obtain ⟨wd, hwd⟩ : ∃ x, wordL ⟨false, zl, (0 : Int)⟩ = x := ⟨_, rfl⟩
                have HWD := ref_Word ⟨false, ⟨zl, zA, zc⟩, (0 : Int)⟩ w8 (HM7.out.ok.ext hE8) HLZ.out hm
                rw [show wordL (XDyad.data ⟨false, ⟨zl, zA, zc⟩, (0 : Int)⟩) = wd from hwd] at HWD
                dsimp only at HWD
                have HB8 := Lib.hid (HB7.out.ext hE8)
                have HO8 := Lib.hid (HO7.out.ext hE8)
                have HM8 := Lib.hid (HM7.out.ext hE8)
                have HE8 := Lib.hid (HE7.out.trans hE8)
                have HMW : Hid (mayD ⟨false, zl, (0 : Int)⟩ ∧ wordL ⟨false, zl, (0 : Int)⟩ = wd) := Lib.hid ⟨hm, hwd⟩
                clear hE8 hm hwd
                go_wp2_with (first | ((with_reducible refine wpl_load 24 (.tmp 4) ?_ ?_ (n + 1) 0 [.bool false, .slice zA zl.length zc, .int .i64 (0 : Int)] ?_ ?_ ?_ ?_); (exact rfl); (exact rfl); (exact rfl); (exact aggDyad); (exact HB8.out.row)) | fail)
                refine HWD.mono ?_
                rintro e w9 ⟨rfl, hE9⟩
                have HB9 := Lib.hid (HB8.out.ext hE9)
                have BO := HO8.out.ext hE9
                have HM9 := Lib.hid (HM8.out.ext hE9)
                have HE9 := Lib.hid (HE8.out.trans hE9)
                clear hE9 HWD
                by_cases hw : wd = s
                · have heq : (wd == s) = true := by rw [hw]; exact beq_self_eq_true _
                  have HRZ : Hid (chkR s (some ⟨false, zl, (0 : Int)⟩) = (⟨false, zl, (0 : Int)⟩, 0)) := Lib.hid (if_pos ⟨HMW.out.1, HMW.out.2.trans hw⟩)
                  clear hw
                  go_wp2_with (first | ((with_reducible refine wpl_load 24 (.tmp 4) ?_ ?_ (n + 1) 0 [.bool false, .slice zA zl.length zc, .int .i64 (0 : Int)] ?_ ?_ ?_ ?_); (exact rfl); (exact rfl); (exact rfl); (exact aggDyad); (exact HB9.out.row)) | ((with_reducible refine wpl_store 24 (.tmp 2) (.tmp 100) ?_ ?_ n 0 24 [.bool false, .slice none 0 0, .int .i64 0] [.bool false, .slice zA zl.length zc, .int .i64 (0 : Int)] ?_ ?_ ?_ ?_ ?_ ?_ ?_); (exact rfl); (exact rfl); (exact rfl); (exact rfl); (exact aggDyad); (exact BO); (exact by simp); (exact rfl); (intro w10 BR2 hO2)) | fail)
                  exact bodyPost_ret (results_ct rfl rfl BR2 aggDyad) rfl ⟨_, HRD.out, ⟨false, ⟨zl, zA, zc⟩, (0 : Int)⟩, by rw [HRZ.out] <;> rfl, by rw [HRZ.out] <;> rfl, (HM9.out.only BO hO2 BR2 rfl (by decide)).ok, Only.ext HE9.out hO2 (by rw [HN.out]; omega)⟩
                · have heq : (wd == s) = false := by simpa using hw
                  have HRZ : Hid (chkR s (some ⟨false, zl, (0 : Int)⟩) = (PDyad.zero, 320)) := Lib.hid (if_neg fun h => hw (HMW.out.2.symm.trans h.2))
                  clear hw
                  go_wp2_with (first | ((with_reducible refine wpl_store 24 (.tmp 2) (.tmp 99) ?_ ?_ n 0 24 [.bool false, .slice none 0 0, .int .i64 0] [.bool false, .slice none 0 0, .int .i64 0] ?_ ?_ ?_ ?_ ?_ ?_ ?_); (exact rfl); (exact rfl); (exact rfl); (exact rfl); (exact aggDyad); (exact BO); (exact by simp); (exact rfl); (intro w10 BR2 hO2)) | fail)
                  exact bodyPost_ret (results_ct rfl rfl BR2 aggDyad) rfl ⟨_, HRD.out, XDyad.zero, by rw [HRZ.out] <;> rfl, by rw [HRZ.out] <;> rfl, (XDyad.zero_mine _ 0).ok, Only.ext HE9.out hO2 (by rw [HN.out]; omega)⟩
              · rw [show decide (mayD (XDyad.data ⟨false, ⟨zl, zA, zc⟩, (0 : Int)⟩)) = false from decide_eq_false hm]
                have HRZ : Hid (chkR s (some ⟨false, zl, (0 : Int)⟩) = (PDyad.zero, 320)) := Lib.hid (if_neg fun h => hm h.1)
                rintro e w8 ⟨rfl, hE8⟩
                have BO := HO7.out.ext hE8
                have HE8 := Lib.hid (HE7.out.trans hE8)
                clear hE8 hm
                go_wp2_with (first | ((with_reducible refine wpl_store 24 (.tmp 2) (.tmp 99) ?_ ?_ n 0 24 [.bool false, .slice none 0 0, .int .i64 0] [.bool false, .slice none 0 0, .int .i64 0] ?_ ?_ ?_ ?_ ?_ ?_ ?_); (exact rfl); (exact rfl); (exact rfl); (exact rfl); (exact aggDyad); (exact BO); (exact by simp); (exact rfl); (intro w9 BR2 hO2)) | fail)
                exact bodyPost_ret (results_ct rfl rfl BR2 aggDyad) rfl ⟨_, HRD.out, XDyad.zero, by rw [HRZ.out] <;> rfl, by rw [HRZ.out] <;> rfl, (XDyad.zero_mine _ 0).ok, Only.ext HE8.out hO2 (by rw [HN.out]; omega)⟩
end Go.Proofs.YtgcbnagfdfgpnaaDoor
