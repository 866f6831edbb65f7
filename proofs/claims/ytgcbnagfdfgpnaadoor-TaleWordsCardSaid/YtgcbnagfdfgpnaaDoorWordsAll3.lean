/- Parts of a proof, joined: Bits, Bits1. -/
import Derived.Test.YtgcbnagfdfgpnaaDoorRows
import Derived.Test.YtgcbnagfdfgpnaaDoorWordsAll16
import Derived.Test.YtgcbnagfdfgpnaaDoorNat
section
namespace Go.Hx
open Go.RowKit
theorem getD_of {l : List Nat} {k x : Nat} (h : l[k]? = some x) : l[k]?.getD 0 = x := by simp [h]
theorem getD_out {l : List Nat} {k : Nat} (h : l.length ≤ k) : l[k]?.getD 0 = 0 := by simp [h]
/-- a value is a list of bits -/
def Bits (l : List Nat) : Prop := ∀ x ∈ l, x < 2
theorem Bits.digs (n : Nat) : Bits (digs 2 n) := digs_lt (by omega) n
theorem Bits.get {l : List Nat} (h : Bits l) (k : Nat) : l[k]?.getD 0 ≤ 1 := by
  rcases Nat.lt_or_ge k l.length with hk | hk
  · rw [getD_of (List.getElem?_eq_getElem hk)]
    have := h _ (List.getElem_mem hk)
    omega
  · rw [getD_out hk]; omega
theorem Own.front {α : Type} {w : World} {base e size c : Nat} {enc : α → List Value} {A : Option Addr} {l : List α} (hs : ∀ x, (enc x).length = size) (h : Go.Hx.Own w base e size enc (.slice A l.length c) l) {k : Nat} (hk : k ≤ l.length) : Go.Hx.Own w base e size enc (.slice A (l.take k).length c) (l.take k) := by
  have hl : ∀ m : List α, (m.flatMap enc).length = m.length * size := fun m => by
    induction m with
    | nil => simp
    | cons x m ih => rw [List.flatMap_cons, List.length_append, ih, hs, List.length_cons, Nat.add_mul]; omega
  refine ⟨hl _, ?_⟩
  rcases h.2 with ⟨h1, h2⟩ | ⟨g, cap, cur, hv, hb, hg, hn, hm, hz, ht⟩
  · injection h1 with h1 h3 h4
    have : l = [] := List.eq_nil_of_length_eq_zero h2
    subst this
    exact .inl ⟨by simp [h1, h4], by simp⟩
  · injection hv with h1 h3 h4
    refine .inr ⟨g, cap, cur, by rw [h1, h4], hb, hg, by rw [List.length_take]; omega, hm, hz, ?_⟩
    rw [List.length_take, Nat.min_eq_left hk]
    have : cur.toList.take (k * size) = (cur.toList.take (l.length * size)).take (k * size) := by
      rw [List.take_take, Nat.min_eq_left (Nat.mul_le_mul_right _ hk)]
    rw [this, ht]
    conv => lhs; rw [← List.take_append_drop k l]
    rw [List.flatMap_append, List.take_append_of_le_length (by rw [hl, List.length_take, Nat.min_eq_left hk]; omega), List.take_of_length_le (by rw [hl, List.length_take, Nat.min_eq_left hk]; omega)]
theorem val_take_getD {l : List Nat} (b k : Nat) : val b (l.take (k + 1)) = val b (l.take k) + b ^ k * l[k]?.getD 0 := by
  rcases Nat.lt_or_ge k l.length with hk | hk
  · rw [getD_of (List.getElem?_eq_getElem hk)]
    exact val_take_succ (List.getElem?_eq_getElem hk)
  · rw [getD_out hk, List.take_of_length_le (by omega), List.take_of_length_le hk]; simp
end Go.Hx
namespace Go.Proofs.YtgcbnagfdfgpnaaDoor
open Go.RowKit Go.Hx
theorem elu8 : ElTy Tryd.prog 105 5 1 1 := ElTy.mk' (z := .int .u8 0) Tryd.underlying105 (by kernel_rfl) rfl (by decide)

set_option maxRecDepth 100000 in
theorem ref01_bit (x : LX Nat) (k : Nat) (w : World) (hx : x.ok w w.heap.size cU8) {p : Nat} (hp : x.l[k]?.getD 0 = p) :
    Calls Tryd.prog 174 #[.slice x.A x.l.length x.c, .int .i64 k] w fun e w' => e = .returned (.int .u8 p) ∧ w' = w := by
  obtain ⟨l, A, c⟩ := x
  obtain ⟨hx, hx1, hx2⟩ := hx
  dsimp only at *
  unfold maxLen at hx2
  by_cases hlt : k < l.length
  · obtain ⟨b, off, rfl, _, r⟩ := Sl.row (size := 1) (fun _ => rfl) hx (List.getElem?_eq_getElem hlt)
    have hc : w.cell? ⟨b, off + k, none⟩ = some (.int .u8 l[k]) := by have := r 0 _ rfl; simpa using this
    have hki : (k : Int) < (l.length : Int) := by omega
    have HG := Lib.hid ((getD_of (List.getElem?_eq_getElem hlt)).symm.trans hp)
    clear hx r hp
    go_enter Tryd.func174, Tryd.ntmps174
    go_wp2
    go_ret
    exact ⟨ret_int (by rw [HG.out]), rfl⟩
  · have hki : ¬ (k : Int) < (l.length : Int) := by omega
    have HG := Lib.hid ((getD_out (l := l) (k := k) (by omega)).symm.trans hp)
    clear hx hlt hp
    go_enter Tryd.func174, Tryd.ntmps174
    go_wp2
    go_ret
    exact ⟨ret_int (by rw [← HG.out]; rfl), rfl⟩

set_option maxRecDepth 100000 in
set_option maxHeartbeats 400000 in
theorem ref01_Cut (x : LX Nat) (w : World) (hx : x.ok w w.heap.size cU8) (hb : Bits x.l) :
    Calls Tryd.prog 84 #[.slice x.A x.l.length x.c] w fun e w' => ∃ k, k ≤ x.l.length ∧ x.l.take k = digs 2 (val 2 x.l) ∧ e = .returned (.slice x.A k x.c) ∧ w' = w := by
  obtain ⟨l, A, c⟩ := x
  obtain ⟨hx, hx1, hx2⟩ := hx
  dsimp only at *
  unfold maxLen at hx2
  have HX := Lib.hid hx
  have HB := Lib.hid hb
  clear hx hb
  go_enter Tryd.func84, Tryd.ntmps84
  go_wp2
  go_loop [3] (fun i => ∃ k : Nat, k ≤ l.length ∧ i = .int .i64 k ∧ Hid (val 2 (l.drop k) = 0)) (fun i => (intOf i).toNat)
  case atStart => exact ⟨l.length, Nat.le_refl _, rfl, Lib.hid (by simp)⟩
  case round =>
    obtain ⟨k, hk, rfl, hv⟩ := hrel
    by_cases h0 : k = 0
    · subst h0
      go_wp2
      go_ret
      exact ⟨0, Nat.zero_le _, digs_cut (by omega) 0 (Nat.zero_le _) HB.out hv.out (.inl rfl), rfl, rfl⟩
    · obtain ⟨j, rfl⟩ : ∃ j, k = j + 1 := ⟨k - 1, by omega⟩
      have hlt : j < l.length := by omega
      obtain ⟨b, off, rfl, _, r⟩ := Sl.row (size := 1) (fun _ => rfl) HX.out (List.getElem?_eq_getElem hlt)
      have hc : w.cell? ⟨b, off + j, none⟩ = some (.int .u8 l[j]) := by have := r 0 _ rfl; simpa using this
      have hki : (j : Int) < (l.length : Int) := by omega
      have hsub : IntKind.i64.wrap ((↑(j + 1) : Int) - 1) = (j : Int) := by rw [IntWalk.i64_in _ (by omega)]; omega
      clear r h0
      by_cases hz : l[j] = 0
      · have HZ : Hid (val 2 (l.drop j) = 0) := Lib.hid (by
          rw [List.drop_eq_getElem_cons hlt, val_cons, hz, hv.out])
        rw [hz] at hc
        clear hz
        go_wp2
        go_round
        case rel => exact ⟨j, by omega, by go_num, HZ⟩
        case measure => simp [intOf]
      · have HZ : Hid (l.take (j + 1) = digs 2 (val 2 l)) := Lib.hid (digs_cut (by omega) (j + 1) hk HB.out hv.out (.inr ⟨l[j], by simp, hz⟩))
        have hzi : ((l[j] : Int) == 0) = false := by simp [hz]
        clear hz
        go_wp2
        go_ret
        exact ⟨j + 1, hk, HZ.out, rfl, rfl⟩

end Go.Proofs.YtgcbnagfdfgpnaaDoor
end
section
namespace Go.Hx
open Go.RowKit
theorem LX.ok.front {α : Type} {w : World} {B c : Nat} {A : Option Addr} {l : List α} {enc : α → List Value} (h : LX.ok w B enc ⟨l, A, c⟩) (k : Nat) : LX.ok w B enc ⟨l.take k, A, c⟩ := by
  obtain ⟨h1, h2, h3⟩ := h
  dsimp only at *
  refine ⟨?_, by show (l.take k).length ≤ c; rw [List.length_take]; omega, h3⟩
  rcases h1 with h1 | ⟨b, off, hA, hb, hr⟩
  · exact .inl (by show l.take k = []; rw [h1]; simp)
  · refine .inr ⟨b, off, hA, hb, fun j u hu => hr j u ?_⟩
    obtain ⟨r, hr⟩ : (l.take k).flatMap enc <+: l.flatMap enc := by
      conv => rhs; rw [← List.take_append_drop k l]
      rw [List.flatMap_append]
      exact List.prefix_append _ _
    rw [← hr, List.getElem?_append_left (List.getElem?_eq_some_iff.1 hu).1]
    exact hu
theorem bits_snoc {l : List Nat} (h : Bits l) {x : Nat} (hx : x < 2) : Bits (l ++ [x]) := fun y hy => by
  rcases List.mem_append.1 hy with hy | hy
  · exact h y hy
  · simp only [List.mem_singleton] at hy; omega
structure PlusI (w : World) (x y : List Nat) (k c : Nat) (v : Value) (l : List Nat) (wr : World) : Prop where
  own : Go.Hx.Own wr w.heap.size 5 1 cU8 v l
  len : l.length = k
  bits : Bits l
  carry : c ≤ 1
  sum : val 2 l + 2 ^ k * c = val 2 (x.take k) + val 2 (y.take k)
  ext : Ext w wr
theorem PlusI.next {w wr w2 : World} {x y : List Nat} {k c p q r2 r3 : Nat} {v v' : Value} {l : List Nat} (h : PlusI w x y k c v l wr) (hp : x[k]?.getD 0 = p) (hq : y[k]?.getD 0 = q) (hr2 : (p + q + c) % 2 = r2) (hr3 : (p + q + c) / 2 = r3) (hp1 : p ≤ 1) (hq1 : q ≤ 1)
    (hown : Go.Hx.Own w2 w.heap.size 5 1 cU8 v' (l ++ [r2])) (hg : wr.grownBy w2 v.ownBlock) : PlusI w x y (k + 1) r3 v' (l ++ [r2]) w2 := by
  subst hr2 hr3
  have hc := h.carry
  refine ⟨hown, by simp [h.len], bits_snoc h.bits (by omega), by omega, ?_, Own.below h.own h.ext hg (Nat.le_refl _) h.ext.size⟩
  rw [val_snoc, h.len, val_take_getD, val_take_getD, hp, hq, Nat.pow_succ]
  have h1 := h.sum
  have e : 2 ^ k * ((p + q + c) % 2) + 2 ^ k * 2 * ((p + q + c) / 2) = 2 ^ k * p + 2 ^ k * q + 2 ^ k * c := by
    rw [Nat.mul_assoc, ← Nat.mul_add, ← Nat.mul_add, ← Nat.mul_add, Nat.mod_add_div]
  omega
theorem PlusI.done {w wr : World} {x y : List Nat} {k c : Nat} {v : Value} {l : List Nat} (h : PlusI w x y k c v l wr) (hx : x.length + 1 ≤ k) (hy : y.length + 1 ≤ k) (hbx : Bits x) (hby : Bits y) : val 2 l = val 2 x + val 2 y := by
  have h1 := h.sum
  rw [List.take_of_length_le (by omega), List.take_of_length_le (by omega)] at h1
  have a := val_lt x hbx
  have b := val_lt y hby
  obtain ⟨j, rfl⟩ : ∃ j, k = j + 1 := ⟨k - 1, by omega⟩
  have a2 : 2 ^ x.length ≤ 2 ^ j := Nat.pow_le_pow_right (by omega) (by omega)
  have b2 : 2 ^ y.length ≤ 2 ^ j := Nat.pow_le_pow_right (by omega) (by omega)
  rw [Nat.pow_succ] at h1
  have hc : c = 0 := by
    rcases Nat.eq_zero_or_pos c with hc | hc
    · exact hc
    · have : 2 ^ j * 2 ≤ 2 ^ j * 2 * c := Nat.le_mul_of_pos_right _ hc
      omega
  subst hc
  omega
structure MinusI (w : World) (x y : List Nat) (k c : Nat) (v : Value) (l : List Nat) (wr : World) : Prop where
  own : Go.Hx.Own wr w.heap.size 5 1 cU8 v l
  len : l.length = k
  bits : Bits l
  carry : c ≤ 1
  sum : val 2 l + val 2 (y.take k) = val 2 (x.take k) + 2 ^ k * c
  ext : Ext w wr
theorem MinusI.next {w wr w2 : World} {x y : List Nat} {k c p q : Nat} {v v' : Value} {l : List Nat} (h : MinusI w x y k c v l wr) (hp : x[k]?.getD 0 = p) (hq : y[k]?.getD 0 = q) (hp1 : p ≤ 1) (hq1 : q ≤ 1)
    (hown : Go.Hx.Own w2 w.heap.size 5 1 cU8 v' (l ++ [(p + 2 - q - c) % 2])) (hg : wr.grownBy w2 v.ownBlock) : MinusI w x y (k + 1) (1 - (p + 2 - q - c) / 2) v' (l ++ [(p + 2 - q - c) % 2]) w2 := by
  have hc := h.carry
  refine ⟨hown, by simp [h.len], bits_snoc h.bits (by omega), by omega, ?_, Own.below h.own h.ext hg (Nat.le_refl _) h.ext.size⟩
  rw [val_snoc, h.len, val_take_getD, val_take_getD, hp, hq, Nat.pow_succ]
  have h1 := h.sum
  have e : 2 ^ k * ((p + 2 - q - c) % 2) + 2 ^ k * q + 2 ^ k * c = 2 ^ k * p + 2 ^ k * 2 * (1 - (p + 2 - q - c) / 2) := by
    rw [Nat.mul_assoc, ← Nat.mul_add, ← Nat.mul_add, ← Nat.mul_add]
    congr 1
    omega
  omega
theorem MinusI.done {w wr : World} {x y : List Nat} {k c : Nat} {v : Value} {l : List Nat} (h : MinusI w x y k c v l wr) (hx : k = x.length) (hy : y.length ≤ x.length) (hv : val 2 y ≤ val 2 x) : val 2 l = val 2 x - val 2 y := by
  have h1 := h.sum
  rw [List.take_of_length_le (by omega), List.take_of_length_le (by omega)] at h1
  have a := val_lt l h.bits
  rw [h.len] at a
  have hc : c = 0 := by
    rcases Nat.eq_zero_or_pos c with hc | hc
    · exact hc
    · have : 2 ^ k ≤ 2 ^ k * c := Nat.le_mul_of_pos_right _ hc
      omega
  subst hc
  omega
end Go.Hx
namespace Go.Proofs.YtgcbnagfdfgpnaaDoor
open Go.RowKit Go.Hx

set_option maxRecDepth 100000 in
set_option maxHeartbeats 4000000 in
theorem ref01_Plus (x y : LX Nat) (w : World) (hx : x.ok w w.heap.size cU8) (hy : y.ok w w.heap.size cU8) (hbx : Bits x.l) (hby : Bits y.l) (hlx : x.l.length ≤ 100000) (hly : y.l.length ≤ 100000) :
    Calls Tryd.prog 157 #[.slice x.A x.l.length x.c, .slice y.A y.l.length y.c] w fun e w' => ∃ z : LX Nat, e = .returned (.slice z.A z.l.length z.c) ∧ z.l = digs 2 (val 2 x.l + val 2 y.l) ∧ Go.Hx.Own w' w.heap.size 5 1 cU8 (.slice z.A z.l.length z.c) z.l ∧ Ext w w' := by
  have HX := Lib.hid hx
  have HY := Lib.hid hy
  have HBX := Lib.hid hbx
  have HBY := Lib.hid hby
  clear hx hy hbx hby
  by_cases hle : x.l.length ≤ y.l.length
  · have HM := Lib.hid (show x.l.length ≤ y.l.length ∧ y.l.length ≤ y.l.length by omega)
    go_enter Tryd.func157, Tryd.ntmps157
    go_wp2_with fail
    go_loopw [5, 6, 7] (fun v c i wr => ∃ k cy : Nat, ∃ l', k ≤ y.l.length + 1 ∧ i = .int .i64 k ∧ c = .int .u8 cy ∧ Hid (PlusI w x.l y.l k cy v l' wr)) (fun _ _ i _ => y.l.length + 1 - (intOf i).toNat)
    case atStart => exact ⟨0, 0, [], by omega, rfl, rfl, ⟨Go.Hx.Own.nil _ _ _ _ _, rfl, (fun _ h => by cases h), by omega, by simp, Ext.refl _⟩⟩
    case round =>
      obtain ⟨k, cy, l', hk, rfl, rfl, HI⟩ := hrel
      by_cases hlt : k ≤ y.l.length
      · obtain ⟨p, hp⟩ : ∃ p, x.l[k]?.getD 0 = p := ⟨_, rfl⟩
        obtain ⟨q, hq⟩ : ∃ q, y.l[k]?.getD 0 = q := ⟨_, rfl⟩
        have hp1 : p ≤ 1 := by rw [← hp]; exact HBX.out.get k
        have hq1 : q ≤ 1 := by rw [← hq]; exact HBY.out.get k
        have hc1 := HI.out.carry
        have HP := Lib.hid hp
        have HQ := Lib.hid hq
        have HW := Lib.hid (show l'.length = k from HI.out.len)
        obtain ⟨r2, hr2⟩ : ∃ r, (p + q + cy) % 2 = r := ⟨_, rfl⟩
        obtain ⟨r3, hr3⟩ : ∃ r, (p + q + cy) / 2 = r := ⟨_, rfl⟩
        have e2 : ((p : Int) + q + cy) % 2 = (r2 : Int) := by omega
        have e3 : ((p : Int) + q + cy) / 2 = (r3 : Int) := by omega
        have HR2 := Lib.hid hr2
        have HR3 := Lib.hid hr3
        clear hp hq hr2 hr3
        go_wp2_with (first | (go_at_call 174; first | (with_reducible refine (ref01_bit x k _ (HX.out.ext HI.out.ext) HP.out).mono ?_; rintro e w1 ⟨rfl, rfl⟩) | (with_reducible refine (ref01_bit y k _ (HY.out.ext HI.out.ext) HQ.out).mono ?_; rintro e w1 ⟨rfl, rfl⟩)) | (at_builtin; go_must (refine app_one elu8 rfl (.tmp 27) (.tmp 30) rfl w1 w.heap.size cU8 _ l' r2 rfl HI.out.own _ 1 rfl (by simp) rfl rfl (by have := HW.out; omega) (by have := HW.out; unfold maxLen; omega) HI.out.ext.size ?_); intro v' w2 hown' hgrow _))
        go_roundw
        case rel => exact ⟨k + 1, r3, _, by omega, by go_num, by rw [e3], Lib.hid (HI.out.next HP.out HQ.out HR2.out HR3.out hp1 hq1 hown' hgrow)⟩
        case measure => simp [intOf]; omega
      · have hk' : k = y.l.length + 1 := by omega
        have HE := Lib.hid (HI.out.done (by have := HM.out.1; omega) (by have := HM.out.2; omega) HBX.out HBY.out)
        clear hk'
        obtain ⟨A', c', rfl, hok⟩ := HI.out.own.form
        go_wp2_with fail
        all_goals
          refine (ref01_Cut ⟨l', A', c'⟩ _ hok HI.out.bits).mono ?_
          rintro e w1 ⟨k2, hk2, hcut, rfl, rfl⟩
          go_wp2_with fail
          go_ret
          have hl : (l'.take k2).length = k2 := by rw [List.length_take]; exact Nat.min_eq_left hk2
          exact ⟨⟨l'.take k2, A', c'⟩, by rw [hl]; rfl, hcut.trans (by rw [HE.out]), Own.front (enc := cU8) (size := 1) (fun _ => rfl) HI.out.own hk2, HI.out.ext⟩
  · have HM := Lib.hid (show x.l.length ≤ x.l.length ∧ y.l.length ≤ x.l.length by omega)
    go_enter Tryd.func157, Tryd.ntmps157
    go_wp2_with fail
    go_loopw [5, 6, 7] (fun v c i wr => ∃ k cy : Nat, ∃ l', k ≤ x.l.length + 1 ∧ i = .int .i64 k ∧ c = .int .u8 cy ∧ Hid (PlusI w x.l y.l k cy v l' wr)) (fun _ _ i _ => x.l.length + 1 - (intOf i).toNat)
    case atStart => exact ⟨0, 0, [], by omega, rfl, rfl, ⟨Go.Hx.Own.nil _ _ _ _ _, rfl, (fun _ h => by cases h), by omega, by simp, Ext.refl _⟩⟩
    case round =>
      obtain ⟨k, cy, l', hk, rfl, rfl, HI⟩ := hrel
      by_cases hlt : k ≤ x.l.length
      · obtain ⟨p, hp⟩ : ∃ p, x.l[k]?.getD 0 = p := ⟨_, rfl⟩
        obtain ⟨q, hq⟩ : ∃ q, y.l[k]?.getD 0 = q := ⟨_, rfl⟩
        have hp1 : p ≤ 1 := by rw [← hp]; exact HBX.out.get k
        have hq1 : q ≤ 1 := by rw [← hq]; exact HBY.out.get k
        have hc1 := HI.out.carry
        have HP := Lib.hid hp
        have HQ := Lib.hid hq
        have HW := Lib.hid (show l'.length = k from HI.out.len)
        obtain ⟨r2, hr2⟩ : ∃ r, (p + q + cy) % 2 = r := ⟨_, rfl⟩
        obtain ⟨r3, hr3⟩ : ∃ r, (p + q + cy) / 2 = r := ⟨_, rfl⟩
        have e2 : ((p : Int) + q + cy) % 2 = (r2 : Int) := by omega
        have e3 : ((p : Int) + q + cy) / 2 = (r3 : Int) := by omega
        have HR2 := Lib.hid hr2
        have HR3 := Lib.hid hr3
        clear hp hq hr2 hr3
        go_wp2_with (first | (go_at_call 174; first | (with_reducible refine (ref01_bit x k _ (HX.out.ext HI.out.ext) HP.out).mono ?_; rintro e w1 ⟨rfl, rfl⟩) | (with_reducible refine (ref01_bit y k _ (HY.out.ext HI.out.ext) HQ.out).mono ?_; rintro e w1 ⟨rfl, rfl⟩)) | (at_builtin; go_must (refine app_one elu8 rfl (.tmp 27) (.tmp 30) rfl w1 w.heap.size cU8 _ l' r2 rfl HI.out.own _ 1 rfl (by simp) rfl rfl (by have := HW.out; omega) (by have := HW.out; unfold maxLen; omega) HI.out.ext.size ?_); intro v' w2 hown' hgrow _))
        go_roundw
        case rel => exact ⟨k + 1, r3, _, by omega, by go_num, by rw [e3], Lib.hid (HI.out.next HP.out HQ.out HR2.out HR3.out hp1 hq1 hown' hgrow)⟩
        case measure => simp [intOf]; omega
      · have hk' : k = x.l.length + 1 := by omega
        have HE := Lib.hid (HI.out.done (by have := HM.out.1; omega) (by have := HM.out.2; omega) HBX.out HBY.out)
        clear hk'
        obtain ⟨A', c', rfl, hok⟩ := HI.out.own.form
        go_wp2_with fail
        all_goals
          refine (ref01_Cut ⟨l', A', c'⟩ _ hok HI.out.bits).mono ?_
          rintro e w1 ⟨k2, hk2, hcut, rfl, rfl⟩
          go_wp2_with fail
          go_ret
          have hl : (l'.take k2).length = k2 := by rw [List.length_take]; exact Nat.min_eq_left hk2
          exact ⟨⟨l'.take k2, A', c'⟩, by rw [hl]; rfl, hcut.trans (by rw [HE.out]), Own.front (enc := cU8) (size := 1) (fun _ => rfl) HI.out.own hk2, HI.out.ext⟩

set_option maxRecDepth 100000 in
set_option maxHeartbeats 4000000 in
theorem ref01_Minus (x y : LX Nat) (w : World) (hx : x.ok w w.heap.size cU8) (hy : y.ok w w.heap.size cU8) (hbx : Bits x.l) (hby : Bits y.l) (hlx : x.l.length ≤ 100000) (hle : y.l.length ≤ x.l.length) (hv : val 2 y.l ≤ val 2 x.l) :
    Calls Tryd.prog 159 #[.slice x.A x.l.length x.c, .slice y.A y.l.length y.c] w fun e w' => ∃ z : LX Nat, e = .returned (.slice z.A z.l.length z.c) ∧ z.l = digs 2 (val 2 x.l - val 2 y.l) ∧ Go.Hx.Own w' w.heap.size 5 1 cU8 (.slice z.A z.l.length z.c) z.l ∧ Ext w w' := by
  have HX := Lib.hid hx
  have HY := Lib.hid hy
  have HBX := Lib.hid hbx
  have HBY := Lib.hid hby
  clear hx hy hbx hby
  have HLE := Lib.hid hle
  have HV := Lib.hid hv
  clear hle hv
  go_enter Tryd.func159, Tryd.ntmps159
  go_wp2_with fail
  go_loopw [5, 6, 7] (fun v c i wr => ∃ k cy : Nat, ∃ l', k ≤ x.l.length ∧ i = .int .i64 k ∧ c = .int .u8 cy ∧ Hid (MinusI w x.l y.l k cy v l' wr)) (fun _ _ i _ => x.l.length - (intOf i).toNat)
  case atStart => exact ⟨0, 0, [], by omega, rfl, rfl, ⟨Go.Hx.Own.nil _ _ _ _ _, rfl, (fun _ h => by cases h), by omega, by simp, Ext.refl _⟩⟩
  case round =>
    obtain ⟨k, cy, l', hk, rfl, rfl, HI⟩ := hrel
    by_cases hlt : k < x.l.length
    · obtain ⟨p, hp⟩ : ∃ p, x.l[k]?.getD 0 = p := ⟨_, rfl⟩
      obtain ⟨q, hq⟩ : ∃ q, y.l[k]?.getD 0 = q := ⟨_, rfl⟩
      have hp1 : p ≤ 1 := by rw [← hp]; exact HBX.out.get k
      have hq1 : q ≤ 1 := by rw [← hq]; exact HBY.out.get k
      have hc1 := HI.out.carry
      have HP := Lib.hid hp
      have HQ := Lib.hid hq
      have HW := Lib.hid (show l'.length = k from HI.out.len)
      have e2 : ((p : Int) + 2 - q - cy) % 2 = (((p + 2 - q - cy) % 2 : Nat) : Int) := by omega
      have e3 : 1 - ((p : Int) + 2 - q - cy) / 2 = ((1 - (p + 2 - q - cy) / 2 : Nat) : Int) := by omega
      clear hp hq
      go_wp2_with (first | (go_at_call 174; first | (with_reducible refine (ref01_bit x k _ (HX.out.ext HI.out.ext) HP.out).mono ?_; rintro e w1 ⟨rfl, rfl⟩) | (with_reducible refine (ref01_bit y k _ (HY.out.ext HI.out.ext) HQ.out).mono ?_; rintro e w1 ⟨rfl, rfl⟩)) | (at_builtin; go_must (refine app_one elu8 rfl (.tmp 25) (.tmp 28) rfl w1 w.heap.size cU8 _ l' ((p + 2 - q - cy) % 2) rfl HI.out.own _ 1 rfl (by simp) rfl rfl (by have := HW.out; omega) (by have := HW.out; unfold maxLen; omega) HI.out.ext.size ?_); intro v' w2 hown' hgrow _))
      go_roundw
      case rel => exact ⟨k + 1, 1 - (p + 2 - q - cy) / 2, _, by omega, by go_num, rfl, Lib.hid (HI.out.next HP.out HQ.out hp1 hq1 hown' hgrow)⟩
      case measure => simp [intOf]; omega
    · have hk' : k = x.l.length := by omega
      have HE := Lib.hid (HI.out.done (by omega) HLE.out HV.out)
      clear hk'
      obtain ⟨A', c', rfl, hok⟩ := HI.out.own.form
      go_wp2_with fail
      refine (ref01_Cut ⟨l', A', c'⟩ _ hok HI.out.bits).mono ?_
      rintro e w1 ⟨k2, hk2, hcut, rfl, rfl⟩
      go_wp2_with fail
      go_ret
      have hl : (l'.take k2).length = k2 := by rw [List.length_take]; exact Nat.min_eq_left hk2
      exact ⟨⟨l'.take k2, A', c'⟩, by rw [hl]; rfl, hcut.trans (by rw [HE.out]), Own.front (enc := cU8) (size := 1) (fun _ => rfl) HI.out.own hk2, HI.out.ext⟩
end Go.Proofs.YtgcbnagfdfgpnaaDoor
end
