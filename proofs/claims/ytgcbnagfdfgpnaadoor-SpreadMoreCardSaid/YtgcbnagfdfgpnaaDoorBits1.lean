/- The reference's numbers as bits: sums and differences. Printed by gen_bits.py. -/
import Derived.Test.YtgcbnagfdfgpnaaDoorBits
namespace Go.Hx
open Go.RowKit
theorem LX.ok.front {α : Type} {w : World} {B c : Nat} {A : Option Addr} {l : List α} {enc : α → List Value} (h : LX.ok w B enc ⟨l, A, c⟩) (k : Nat) : LX.ok w B enc ⟨l.take k, A, c⟩ := by
  obtain ⟨h1, h2, h3⟩ := h
  dsimp only at *
  refine ⟨?_, by show (l.take k).length ≤ c; rw [List.length_take]; omega, h3⟩
  rcases h1 with h1 | ⟨b, off, hA, hb, hr⟩
  · exact .inl (by show l.take k = []; rw [h1]; simp)
  · refine .inr ⟨b, off, hA, hb, fun j u hu => hr j u ?_⟩
    obtain ⟨r, hr⟩ : (l.take k).flatMap enc <+: l.flatMap enc := by
      conv => rhs; rw [← List.take_append_drop k l]
      rw [List.flatMap_append]
      exact List.prefix_append _ _
    rw [← hr, List.getElem?_append_left (List.getElem?_eq_some_iff.1 hu).1]
    exact hu
theorem bits_snoc {l : List Nat} (h : Bits l) {x : Nat} (hx : x < 2) : Bits (l ++ [x]) := fun y hy => by
  rcases List.mem_append.1 hy with hy | hy
  · exact h y hy
  · simp only [List.mem_singleton] at hy; omega
structure PlusI (w : World) (x y : List Nat) (k c : Nat) (v : Value) (l : List Nat) (wr : World) : Prop where
  own : Go.Hx.Own wr w.heap.size 5 1 cU8 v l
  len : l.length = k
  bits : Bits l
  carry : c ≤ 1
  sum : val 2 l + 2 ^ k * c = val 2 (x.take k) + val 2 (y.take k)
  ext : Ext w wr
theorem PlusI.next {w wr w2 : World} {x y : List Nat} {k c p q r2 r3 : Nat} {v v' : Value} {l : List Nat} (h : PlusI w x y k c v l wr) (hp : x[k]?.getD 0 = p) (hq : y[k]?.getD 0 = q) (hr2 : (p + q + c) % 2 = r2) (hr3 : (p + q + c) / 2 = r3) (hp1 : p ≤ 1) (hq1 : q ≤ 1)
    (hown : Go.Hx.Own w2 w.heap.size 5 1 cU8 v' (l ++ [r2])) (hg : wr.grownBy w2 v.ownBlock) : PlusI w x y (k + 1) r3 v' (l ++ [r2]) w2 := by
  subst hr2 hr3
  have hc := h.carry
  refine ⟨hown, by simp [h.len], bits_snoc h.bits (by omega), by omega, ?_, Own.below h.own h.ext hg (Nat.le_refl _) h.ext.size⟩
  rw [val_snoc, h.len, val_take_getD, val_take_getD, hp, hq, Nat.pow_succ]
  have h1 := h.sum
  have e : 2 ^ k * ((p + q + c) % 2) + 2 ^ k * 2 * ((p + q + c) / 2) = 2 ^ k * p + 2 ^ k * q + 2 ^ k * c := by
    rw [Nat.mul_assoc, ← Nat.mul_add, ← Nat.mul_add, ← Nat.mul_add, Nat.mod_add_div]
  omega
theorem PlusI.done {w wr : World} {x y : List Nat} {k c : Nat} {v : Value} {l : List Nat} (h : PlusI w x y k c v l wr) (hx : x.length + 1 ≤ k) (hy : y.length + 1 ≤ k) (hbx : Bits x) (hby : Bits y) : val 2 l = val 2 x + val 2 y := by
  have h1 := h.sum
  rw [List.take_of_length_le (by omega), List.take_of_length_le (by omega)] at h1
  have a := val_lt x hbx
  have b := val_lt y hby
  obtain ⟨j, rfl⟩ : ∃ j, k = j + 1 := ⟨k - 1, by omega⟩
  have a2 : 2 ^ x.length ≤ 2 ^ j := Nat.pow_le_pow_right (by omega) (by omega)
  have b2 : 2 ^ y.length ≤ 2 ^ j := Nat.pow_le_pow_right (by omega) (by omega)
  rw [Nat.pow_succ] at h1
  have hc : c = 0 := by
    rcases Nat.eq_zero_or_pos c with hc | hc
    · exact hc
    · have : 2 ^ j * 2 ≤ 2 ^ j * 2 * c := Nat.le_mul_of_pos_right _ hc
      omega
  subst hc
  omega
structure MinusI (w : World) (x y : List Nat) (k c : Nat) (v : Value) (l : List Nat) (wr : World) : Prop where
  own : Go.Hx.Own wr w.heap.size 5 1 cU8 v l
  len : l.length = k
  bits : Bits l
  carry : c ≤ 1
  sum : val 2 l + val 2 (y.take k) = val 2 (x.take k) + 2 ^ k * c
  ext : Ext w wr
theorem MinusI.next {w wr w2 : World} {x y : List Nat} {k c p q : Nat} {v v' : Value} {l : List Nat} (h : MinusI w x y k c v l wr) (hp : x[k]?.getD 0 = p) (hq : y[k]?.getD 0 = q) (hp1 : p ≤ 1) (hq1 : q ≤ 1)
    (hown : Go.Hx.Own w2 w.heap.size 5 1 cU8 v' (l ++ [(p + 2 - q - c) % 2])) (hg : wr.grownBy w2 v.ownBlock) : MinusI w x y (k + 1) (1 - (p + 2 - q - c) / 2) v' (l ++ [(p + 2 - q - c) % 2]) w2 := by
  have hc := h.carry
  refine ⟨hown, by simp [h.len], bits_snoc h.bits (by omega), by omega, ?_, Own.below h.own h.ext hg (Nat.le_refl _) h.ext.size⟩
  rw [val_snoc, h.len, val_take_getD, val_take_getD, hp, hq, Nat.pow_succ]
  have h1 := h.sum
  have e : 2 ^ k * ((p + 2 - q - c) % 2) + 2 ^ k * q + 2 ^ k * c = 2 ^ k * p + 2 ^ k * 2 * (1 - (p + 2 - q - c) / 2) := by
    rw [Nat.mul_assoc, ← Nat.mul_add, ← Nat.mul_add, ← Nat.mul_add]
    congr 1
    omega
  omega
theorem MinusI.done {w wr : World} {x y : List Nat} {k c : Nat} {v : Value} {l : List Nat} (h : MinusI w x y k c v l wr) (hx : k = x.length) (hy : y.length ≤ x.length) (hv : val 2 y ≤ val 2 x) : val 2 l = val 2 x - val 2 y := by
  have h1 := h.sum
  rw [List.take_of_length_le (by omega), List.take_of_length_le (by omega)] at h1
  have a := val_lt l h.bits
  rw [h.len] at a
  have hc : c = 0 := by
    rcases Nat.eq_zero_or_pos c with hc | hc
    · exact hc
    · have : 2 ^ k ≤ 2 ^ k * c := Nat.le_mul_of_pos_right _ hc
      omega
  subst hc
  omega
end Go.Hx
namespace Go.Proofs.YtgcbnagfdfgpnaaDoor
open Go.RowKit Go.Hx

set_option maxRecDepth 100000 in
set_option maxHeartbeats 4000000 in
theorem ref01_Plus (x y : LX Nat) (w : World) (hx : x.ok w w.heap.size cU8) (hy : y.ok w w.heap.size cU8) (hbx : Bits x.l) (hby : Bits y.l) (hlx : x.l.length ≤ 100000) (hly : y.l.length ≤ 100000) :
    Calls Tryd.prog 157 #[.slice x.A x.l.length x.c, .slice y.A y.l.length y.c] w fun e w' => ∃ z : LX Nat, e = .returned (.slice z.A z.l.length z.c) ∧ z.l = digs 2 (val 2 x.l + val 2 y.l) ∧ Go.Hx.Own w' w.heap.size 5 1 cU8 (.slice z.A z.l.length z.c) z.l ∧ Ext w w' := by
  have HX := Lib.hid hx
  have HY := Lib.hid hy
  have HBX := Lib.hid hbx
  have HBY := Lib.hid hby
  clear hx hy hbx hby
  by_cases hle : x.l.length ≤ y.l.length
  · have HM := Lib.hid (show x.l.length ≤ y.l.length ∧ y.l.length ≤ y.l.length by omega)
    go_enter Tryd.func157, Tryd.ntmps157
    go_wp2_with fail
    go_loopw [5, 6, 7] (fun v c i wr => ∃ k cy : Nat, ∃ l', k ≤ y.l.length + 1 ∧ i = .int .i64 k ∧ c = .int .u8 cy ∧ Hid (PlusI w x.l y.l k cy v l' wr)) (fun _ _ i _ => y.l.length + 1 - (intOf i).toNat)
    case atStart => exact ⟨0, 0, [], by omega, rfl, rfl, ⟨Go.Hx.Own.nil _ _ _ _ _, rfl, (fun _ h => by cases h), by omega, by simp, Ext.refl _⟩⟩
    case round =>
      obtain ⟨k, cy, l', hk, rfl, rfl, HI⟩ := hrel
      by_cases hlt : k ≤ y.l.length
      · obtain ⟨p, hp⟩ : ∃ p, x.l[k]?.getD 0 = p := ⟨_, rfl⟩
        obtain ⟨q, hq⟩ : ∃ q, y.l[k]?.getD 0 = q := ⟨_, rfl⟩
        have hp1 : p ≤ 1 := by rw [← hp]; exact HBX.out.get k
        have hq1 : q ≤ 1 := by rw [← hq]; exact HBY.out.get k
        have hc1 := HI.out.carry
        have HP := Lib.hid hp
        have HQ := Lib.hid hq
        have HW := Lib.hid (show l'.length = k from HI.out.len)
        obtain ⟨r2, hr2⟩ : ∃ r, (p + q + cy) % 2 = r := ⟨_, rfl⟩
        obtain ⟨r3, hr3⟩ : ∃ r, (p + q + cy) / 2 = r := ⟨_, rfl⟩
        have e2 : ((p : Int) + q + cy) % 2 = (r2 : Int) := by omega
        have e3 : ((p : Int) + q + cy) / 2 = (r3 : Int) := by omega
        have HR2 := Lib.hid hr2
        have HR3 := Lib.hid hr3
        clear hp hq hr2 hr3
        go_wp2_with (first | (go_at_call 174; first | (with_reducible refine (ref01_bit x k _ (HX.out.ext HI.out.ext) HP.out).mono ?_; rintro e w1 ⟨rfl, rfl⟩) | (with_reducible refine (ref01_bit y k _ (HY.out.ext HI.out.ext) HQ.out).mono ?_; rintro e w1 ⟨rfl, rfl⟩)) | (at_builtin; go_must (refine app_one elu8 rfl (.tmp 27) (.tmp 30) rfl w1 w.heap.size cU8 _ l' r2 rfl HI.out.own _ 1 rfl (by simp) rfl rfl (by have := HW.out; omega) (by have := HW.out; unfold maxLen; omega) HI.out.ext.size ?_); intro v' w2 hown' hgrow _))
        go_roundw
        case rel => exact ⟨k + 1, r3, _, by omega, by go_num, by rw [e3], Lib.hid (HI.out.next HP.out HQ.out HR2.out HR3.out hp1 hq1 hown' hgrow)⟩
        case measure => simp [intOf]; omega
      · have hk' : k = y.l.length + 1 := by omega
        have HE := Lib.hid (HI.out.done (by have := HM.out.1; omega) (by have := HM.out.2; omega) HBX.out HBY.out)
        clear hk'
        obtain ⟨A', c', rfl, hok⟩ := HI.out.own.form
        go_wp2_with fail
        all_goals
          refine (ref01_Cut ⟨l', A', c'⟩ _ hok HI.out.bits).mono ?_
          rintro e w1 ⟨k2, hk2, hcut, rfl, rfl⟩
          go_wp2_with fail
          go_ret
          have hl : (l'.take k2).length = k2 := by rw [List.length_take]; exact Nat.min_eq_left hk2
          exact ⟨⟨l'.take k2, A', c'⟩, by rw [hl]; rfl, hcut.trans (by rw [HE.out]), Own.front (enc := cU8) (size := 1) (fun _ => rfl) HI.out.own hk2, HI.out.ext⟩
  · have HM := Lib.hid (show x.l.length ≤ x.l.length ∧ y.l.length ≤ x.l.length by omega)
    go_enter Tryd.func157, Tryd.ntmps157
    go_wp2_with fail
    go_loopw [5, 6, 7] (fun v c i wr => ∃ k cy : Nat, ∃ l', k ≤ x.l.length + 1 ∧ i = .int .i64 k ∧ c = .int .u8 cy ∧ Hid (PlusI w x.l y.l k cy v l' wr)) (fun _ _ i _ => x.l.length + 1 - (intOf i).toNat)
    case atStart => exact ⟨0, 0, [], by omega, rfl, rfl, ⟨Go.Hx.Own.nil _ _ _ _ _, rfl, (fun _ h => by cases h), by omega, by simp, Ext.refl _⟩⟩
    case round =>
      obtain ⟨k, cy, l', hk, rfl, rfl, HI⟩ := hrel
      by_cases hlt : k ≤ x.l.length
      · obtain ⟨p, hp⟩ : ∃ p, x.l[k]?.getD 0 = p := ⟨_, rfl⟩
        obtain ⟨q, hq⟩ : ∃ q, y.l[k]?.getD 0 = q := ⟨_, rfl⟩
        have hp1 : p ≤ 1 := by rw [← hp]; exact HBX.out.get k
        have hq1 : q ≤ 1 := by rw [← hq]; exact HBY.out.get k
        have hc1 := HI.out.carry
        have HP := Lib.hid hp
        have HQ := Lib.hid hq
        have HW := Lib.hid (show l'.length = k from HI.out.len)
        obtain ⟨r2, hr2⟩ : ∃ r, (p + q + cy) % 2 = r := ⟨_, rfl⟩
        obtain ⟨r3, hr3⟩ : ∃ r, (p + q + cy) / 2 = r := ⟨_, rfl⟩
        have e2 : ((p : Int) + q + cy) % 2 = (r2 : Int) := by omega
        have e3 : ((p : Int) + q + cy) / 2 = (r3 : Int) := by omega
        have HR2 := Lib.hid hr2
        have HR3 := Lib.hid hr3
        clear hp hq hr2 hr3
        go_wp2_with (first | (go_at_call 174; first | (with_reducible refine (ref01_bit x k _ (HX.out.ext HI.out.ext) HP.out).mono ?_; rintro e w1 ⟨rfl, rfl⟩) | (with_reducible refine (ref01_bit y k _ (HY.out.ext HI.out.ext) HQ.out).mono ?_; rintro e w1 ⟨rfl, rfl⟩)) | (at_builtin; go_must (refine app_one elu8 rfl (.tmp 27) (.tmp 30) rfl w1 w.heap.size cU8 _ l' r2 rfl HI.out.own _ 1 rfl (by simp) rfl rfl (by have := HW.out; omega) (by have := HW.out; unfold maxLen; omega) HI.out.ext.size ?_); intro v' w2 hown' hgrow _))
        go_roundw
        case rel => exact ⟨k + 1, r3, _, by omega, by go_num, by rw [e3], Lib.hid (HI.out.next HP.out HQ.out HR2.out HR3.out hp1 hq1 hown' hgrow)⟩
        case measure => simp [intOf]; omega
      · have hk' : k = x.l.length + 1 := by omega
        have HE := Lib.hid (HI.out.done (by have := HM.out.1; omega) (by have := HM.out.2; omega) HBX.out HBY.out)
        clear hk'
        obtain ⟨A', c', rfl, hok⟩ := HI.out.own.form
        go_wp2_with fail
        all_goals
          refine (ref01_Cut ⟨l', A', c'⟩ _ hok HI.out.bits).mono ?_
          rintro e w1 ⟨k2, hk2, hcut, rfl, rfl⟩
          go_wp2_with fail
          go_ret
          have hl : (l'.take k2).length = k2 := by rw [List.length_take]; exact Nat.min_eq_left hk2
          exact ⟨⟨l'.take k2, A', c'⟩, by rw [hl]; rfl, hcut.trans (by rw [HE.out]), Own.front (enc := cU8) (size := 1) (fun _ => rfl) HI.out.own hk2, HI.out.ext⟩

set_option maxRecDepth 100000 in
set_option maxHeartbeats 4000000 in
theorem ref01_Minus (x y : LX Nat) (w : World) (hx : x.ok w w.heap.size cU8) (hy : y.ok w w.heap.size cU8) (hbx : Bits x.l) (hby : Bits y.l) (hlx : x.l.length ≤ 100000) (hle : y.l.length ≤ x.l.length) (hv : val 2 y.l ≤ val 2 x.l) :
    Calls Tryd.prog 159 #[.slice x.A x.l.length x.c, .slice y.A y.l.length y.c] w fun e w' => ∃ z : LX Nat, e = .returned (.slice z.A z.l.length z.c) ∧ z.l = digs 2 (val 2 x.l - val 2 y.l) ∧ Go.Hx.Own w' w.heap.size 5 1 cU8 (.slice z.A z.l.length z.c) z.l ∧ Ext w w' := by
  have HX := Lib.hid hx
  have HY := Lib.hid hy
  have HBX := Lib.hid hbx
  have HBY := Lib.hid hby
  clear hx hy hbx hby
  have HLE := Lib.hid hle
  have HV := Lib.hid hv
  clear hle hv
  go_enter Tryd.func159, Tryd.ntmps159
  go_wp2_with fail
  go_loopw [5, 6, 7] (fun v c i wr => ∃ k cy : Nat, ∃ l', k ≤ x.l.length ∧ i = .int .i64 k ∧ c = .int .u8 cy ∧ Hid (MinusI w x.l y.l k cy v l' wr)) (fun _ _ i _ => x.l.length - (intOf i).toNat)
  case atStart => exact ⟨0, 0, [], by omega, rfl, rfl, ⟨Go.Hx.Own.nil _ _ _ _ _, rfl, (fun _ h => by cases h), by omega, by simp, Ext.refl _⟩⟩
  case round =>
    obtain ⟨k, cy, l', hk, rfl, rfl, HI⟩ := hrel
    by_cases hlt : k < x.l.length
    · obtain ⟨p, hp⟩ : ∃ p, x.l[k]?.getD 0 = p := ⟨_, rfl⟩
      obtain ⟨q, hq⟩ : ∃ q, y.l[k]?.getD 0 = q := ⟨_, rfl⟩
      have hp1 : p ≤ 1 := by rw [← hp]; exact HBX.out.get k
      have hq1 : q ≤ 1 := by rw [← hq]; exact HBY.out.get k
      have hc1 := HI.out.carry
      have HP := Lib.hid hp
      have HQ := Lib.hid hq
      have HW := Lib.hid (show l'.length = k from HI.out.len)
      have e2 : ((p : Int) + 2 - q - cy) % 2 = (((p + 2 - q - cy) % 2 : Nat) : Int) := by omega
      have e3 : 1 - ((p : Int) + 2 - q - cy) / 2 = ((1 - (p + 2 - q - cy) / 2 : Nat) : Int) := by omega
      clear hp hq
      go_wp2_with (first | (go_at_call 174; first | (with_reducible refine (ref01_bit x k _ (HX.out.ext HI.out.ext) HP.out).mono ?_; rintro e w1 ⟨rfl, rfl⟩) | (with_reducible refine (ref01_bit y k _ (HY.out.ext HI.out.ext) HQ.out).mono ?_; rintro e w1 ⟨rfl, rfl⟩)) | (at_builtin; go_must (refine app_one elu8 rfl (.tmp 25) (.tmp 28) rfl w1 w.heap.size cU8 _ l' ((p + 2 - q - cy) % 2) rfl HI.out.own _ 1 rfl (by simp) rfl rfl (by have := HW.out; omega) (by have := HW.out; unfold maxLen; omega) HI.out.ext.size ?_); intro v' w2 hown' hgrow _))
      go_roundw
      case rel => exact ⟨k + 1, 1 - (p + 2 - q - cy) / 2, _, by omega, by go_num, rfl, Lib.hid (HI.out.next HP.out HQ.out hp1 hq1 hown' hgrow)⟩
      case measure => simp [intOf]; omega
    · have hk' : k = x.l.length := by omega
      have HE := Lib.hid (HI.out.done (by omega) HLE.out HV.out)
      clear hk'
      obtain ⟨A', c', rfl, hok⟩ := HI.out.own.form
      go_wp2_with fail
      refine (ref01_Cut ⟨l', A', c'⟩ _ hok HI.out.bits).mono ?_
      rintro e w1 ⟨k2, hk2, hcut, rfl, rfl⟩
      go_wp2_with fail
      go_ret
      have hl : (l'.take k2).length = k2 := by rw [List.length_take]; exact Nat.min_eq_left hk2
      exact ⟨⟨l'.take k2, A', c'⟩, by rw [hl]; rfl, hcut.trans (by rw [HE.out]), Own.front (enc := cU8) (size := 1) (fun _ => rfl) HI.out.own hk2, HI.out.ext⟩
end Go.Proofs.YtgcbnagfdfgpnaaDoor
