/- The reference's numbers as bits: order, zeros ahead, digits of limbs. -/
import Derived.Test.YtgcbnagfdfgpnaaDoorWordsAll3
import Derived.Test.YtgcbnagfdfgpnaaDoorWordsAll17
namespace Go.Hx
open Go.RowKit
/-- how two numbers stand -/
def ordI (m n : Nat) : Int := if m < n then -1 else if n < m then 1 else 0
structure OrderI (x y : List Nat) (k : Nat) : Prop where
  same : ∀ j, k ≤ j → x[j]?.getD 0 = y[j]?.getD 0
theorem val_split {l : List Nat} {b k : Nat} : val b l = val b (l.take (k + 1)) + b ^ (k + 1) * val b (l.drop (k + 1)) := by
  rcases Nat.lt_or_ge l.length (k + 1) with h | h
  · rw [List.take_of_length_le (by omega), List.drop_of_length_le (by omega)]; simp
  · exact val_take_add_drop _ h
theorem val_congr {b : Nat} : ∀ {x y : List Nat}, (∀ j : Nat, x[j]?.getD 0 = y[j]?.getD 0) → val b x = val b y
  | [], [], _ => rfl
  | x :: l, [], h => by
    have h0 := h 0
    have := val_congr (b := b) (x := l) (y := []) (fun j => by simpa using h (j + 1))
    simp at h0
    rw [val_cons, this, h0]; simp
  | [], y :: m, h => by
    have h0 := h 0
    have := val_congr (b := b) (x := []) (y := m) (fun j => by simpa using h (j + 1))
    simp at h0
    rw [val_cons, ← this, ← h0]; simp
  | x :: l, y :: m, h => by
    have h0 := h 0
    have := val_congr (b := b) (x := l) (y := m) (fun j => by simpa using h (j + 1))
    simp at h0
    rw [val_cons, val_cons, this, h0]
theorem OrderI.differ {x y : List Nat} {k p q : Nat} (h : OrderI x y (k + 1)) (hbx : Bits x) (hp : x[k]?.getD 0 = p) (hq : y[k]?.getD 0 = q) (hlt : p < q) : val 2 x < val 2 y := by
  have hd : val 2 (x.drop (k + 1)) = val 2 (y.drop (k + 1)) := val_congr fun j => by
    rw [List.getElem?_drop, List.getElem?_drop]; exact h.same _ (by omega)
  rw [val_split (l := x) (k := k), val_split (l := y) (k := k), hd, val_take_getD, val_take_getD, hp, hq]
  have h1 : val 2 (x.take k) < 2 ^ k := Nat.lt_of_lt_of_le (val_lt _ (fun z hz => hbx z (List.mem_of_mem_take hz))) (Nat.pow_le_pow_right (by omega) (by rw [List.length_take]; omega))
  have h2 : 2 ^ k * (p + 1) ≤ 2 ^ k * q := Nat.mul_le_mul_left _ hlt
  rw [Nat.mul_add] at h2
  omega
theorem OrderI.swap {x y : List Nat} {k : Nat} (h : OrderI x y k) : OrderI y x k := ⟨fun j hj => (h.same j hj).symm⟩
end Go.Hx
namespace Go.Proofs.YtgcbnagfdfgpnaaDoor
open Go.RowKit Go.Hx
set_option maxRecDepth 100000 in
set_option maxHeartbeats 4000000 in
theorem ref01_Order (x y : LX Nat) (w : World) (hx : x.ok w w.heap.size cU8) (hy : y.ok w w.heap.size cU8) (hbx : Bits x.l) (hby : Bits y.l) (hlx : x.l.length ≤ 100000) (hly : y.l.length ≤ 100000) :
    Calls Tryd.prog 158 #[.slice x.A x.l.length x.c, .slice y.A y.l.length y.c] w fun e w' => e = .returned (.int .i64 (ordI (val 2 x.l) (val 2 y.l))) ∧ w' = w := by
  have HX := Lib.hid hx
  have HY := Lib.hid hy
  have HBX := Lib.hid hbx
  have HBY := Lib.hid hby
  clear hx hy hbx hby
  by_cases hle : x.l.length ≤ y.l.length
  · have HM := Lib.hid (show x.l.length ≤ y.l.length ∧ y.l.length ≤ y.l.length by omega)
    go_enter Tryd.func158, Tryd.ntmps158
    go_wp2_with fail
    all_goals
      go_loop [5] (fun i => ∃ k : Int, -1 ≤ k ∧ k < y.l.length ∧ i = .int .i64 k ∧ Hid (OrderI x.l y.l (k + 1).toNat)) (fun i => (intOf i + 1).toNat)
      case atStart => exact ⟨_, by omega, by omega, rfl, Lib.hid ⟨fun j hj => by rw [getD_out (by have := HM.out.1; omega), getD_out (by have := HM.out.2; omega)]⟩⟩
      case round =>
        obtain ⟨k, hk0, hk1, rfl, HI⟩ := hrel
        by_cases hneg : k = -1
        · subst hneg
          have HE : Hid (ordI (val 2 x.l) (val 2 y.l) = 0) := Lib.hid (by
            have := val_congr (b := 2) (x := x.l) (y := y.l) fun j => HI.out.same j (by simp)
            unfold ordI; rw [this]; simp)
          go_wp2_with fail
          go_ret
          exact ⟨ret_int (by rw [HE.out]), rfl⟩
        · obtain ⟨j, rfl⟩ : ∃ j : Nat, k = (j : Int) := ⟨k.toNat, by omega⟩
          obtain ⟨p, hp⟩ : ∃ p, x.l[j]?.getD 0 = p := ⟨_, rfl⟩
          obtain ⟨q, hq⟩ : ∃ q, y.l[j]?.getD 0 = q := ⟨_, rfl⟩
          have HJ : Hid (OrderI x.l y.l (j + 1)) := Lib.hid (by have := HI.out; rwa [show ((j : Int) + 1).toNat = j + 1 by omega] at this)
          have HP := Lib.hid hp
          have HQ := Lib.hid hq
          clear hp hq HI
          rcases Nat.lt_trichotomy p q with hpq | hpq | hpq
          · have d1 : ((p : Int) != (q : Int)) = true := by simp; omega
            have d2 : decide (p < q) = true := by simp; omega
            have HE : Hid (ordI (val 2 x.l) (val 2 y.l) = -1) := Lib.hid (by
              have := HJ.out.differ HBX.out HP.out HQ.out hpq
              unfold ordI; rw [if_pos this])
            clear hpq
            go_wp2_with (go_at_call 174; first | (with_reducible refine (ref01_bit x j _ HX.out HP.out).mono ?_; rintro e w1 ⟨rfl, rfl⟩) | (with_reducible refine (ref01_bit y j _ HY.out HQ.out).mono ?_; rintro e w1 ⟨rfl, rfl⟩))
            go_ret
            exact ⟨ret_int (by rw [HE.out]), rfl⟩
          · have d1 : ((p : Int) != (q : Int)) = false := by simp; omega
            have HK : Hid (OrderI x.l y.l j) := Lib.hid ⟨fun i hi => by
              rcases Nat.lt_or_ge j i with h | h
              · exact HJ.out.same i (by omega)
              · have : i = j := by omega
                subst this; rw [HP.out, HQ.out, hpq]⟩
            clear hpq
            go_wp2_with (go_at_call 174; first | (with_reducible refine (ref01_bit x j _ HX.out HP.out).mono ?_; rintro e w1 ⟨rfl, rfl⟩) | (with_reducible refine (ref01_bit y j _ HY.out HQ.out).mono ?_; rintro e w1 ⟨rfl, rfl⟩))
            go_round
            case rel => exact ⟨(j : Int) - 1, by omega, by omega, by go_num, by rwa [show ((j : Int) - 1 + 1).toNat = j by omega]⟩
            case measure => simp [intOf]
          · have d1 : ((p : Int) != (q : Int)) = true := by simp; omega
            have d2 : decide (p < q) = false := by simp; omega
            have HE : Hid (ordI (val 2 x.l) (val 2 y.l) = 1) := Lib.hid (by
              have := HJ.out.swap.differ HBY.out HQ.out HP.out hpq
              unfold ordI; rw [if_neg (by omega), if_pos this])
            clear hpq
            go_wp2_with (go_at_call 174; first | (with_reducible refine (ref01_bit x j _ HX.out HP.out).mono ?_; rintro e w1 ⟨rfl, rfl⟩) | (with_reducible refine (ref01_bit y j _ HY.out HQ.out).mono ?_; rintro e w1 ⟨rfl, rfl⟩))
            go_ret
            exact ⟨ret_int (by rw [HE.out]), rfl⟩
  · have HM := Lib.hid (show x.l.length ≤ x.l.length ∧ y.l.length ≤ x.l.length by omega)
    go_enter Tryd.func158, Tryd.ntmps158
    go_wp2_with fail
    all_goals
      go_loop [5] (fun i => ∃ k : Int, -1 ≤ k ∧ k < x.l.length ∧ i = .int .i64 k ∧ Hid (OrderI x.l y.l (k + 1).toNat)) (fun i => (intOf i + 1).toNat)
      case atStart => exact ⟨_, by omega, by omega, rfl, Lib.hid ⟨fun j hj => by rw [getD_out (by have := HM.out.1; omega), getD_out (by have := HM.out.2; omega)]⟩⟩
      case round =>
        obtain ⟨k, hk0, hk1, rfl, HI⟩ := hrel
        by_cases hneg : k = -1
        · subst hneg
          have HE : Hid (ordI (val 2 x.l) (val 2 y.l) = 0) := Lib.hid (by
            have := val_congr (b := 2) (x := x.l) (y := y.l) fun j => HI.out.same j (by simp)
            unfold ordI; rw [this]; simp)
          go_wp2_with fail
          go_ret
          exact ⟨ret_int (by rw [HE.out]), rfl⟩
        · obtain ⟨j, rfl⟩ : ∃ j : Nat, k = (j : Int) := ⟨k.toNat, by omega⟩
          obtain ⟨p, hp⟩ : ∃ p, x.l[j]?.getD 0 = p := ⟨_, rfl⟩
          obtain ⟨q, hq⟩ : ∃ q, y.l[j]?.getD 0 = q := ⟨_, rfl⟩
          have HJ : Hid (OrderI x.l y.l (j + 1)) := Lib.hid (by have := HI.out; rwa [show ((j : Int) + 1).toNat = j + 1 by omega] at this)
          have HP := Lib.hid hp
          have HQ := Lib.hid hq
          clear hp hq HI
          rcases Nat.lt_trichotomy p q with hpq | hpq | hpq
          · have d1 : ((p : Int) != (q : Int)) = true := by simp; omega
            have d2 : decide (p < q) = true := by simp; omega
            have HE : Hid (ordI (val 2 x.l) (val 2 y.l) = -1) := Lib.hid (by
              have := HJ.out.differ HBX.out HP.out HQ.out hpq
              unfold ordI; rw [if_pos this])
            clear hpq
            go_wp2_with (go_at_call 174; first | (with_reducible refine (ref01_bit x j _ HX.out HP.out).mono ?_; rintro e w1 ⟨rfl, rfl⟩) | (with_reducible refine (ref01_bit y j _ HY.out HQ.out).mono ?_; rintro e w1 ⟨rfl, rfl⟩))
            go_ret
            exact ⟨ret_int (by rw [HE.out]), rfl⟩
          · have d1 : ((p : Int) != (q : Int)) = false := by simp; omega
            have HK : Hid (OrderI x.l y.l j) := Lib.hid ⟨fun i hi => by
              rcases Nat.lt_or_ge j i with h | h
              · exact HJ.out.same i (by omega)
              · have : i = j := by omega
                subst this; rw [HP.out, HQ.out, hpq]⟩
            clear hpq
            go_wp2_with (go_at_call 174; first | (with_reducible refine (ref01_bit x j _ HX.out HP.out).mono ?_; rintro e w1 ⟨rfl, rfl⟩) | (with_reducible refine (ref01_bit y j _ HY.out HQ.out).mono ?_; rintro e w1 ⟨rfl, rfl⟩))
            go_round
            case rel => exact ⟨(j : Int) - 1, by omega, by omega, by go_num, by rwa [show ((j : Int) - 1 + 1).toNat = j by omega]⟩
            case measure => simp [intOf]
          · have d1 : ((p : Int) != (q : Int)) = true := by simp; omega
            have d2 : decide (p < q) = false := by simp; omega
            have HE : Hid (ordI (val 2 x.l) (val 2 y.l) = 1) := Lib.hid (by
              have := HJ.out.swap.differ HBY.out HQ.out HP.out hpq
              unfold ordI; rw [if_neg (by omega), if_pos this])
            clear hpq
            go_wp2_with (go_at_call 174; first | (with_reducible refine (ref01_bit x j _ HX.out HP.out).mono ?_; rintro e w1 ⟨rfl, rfl⟩) | (with_reducible refine (ref01_bit y j _ HY.out HQ.out).mono ?_; rintro e w1 ⟨rfl, rfl⟩))
            go_ret
            exact ⟨ret_int (by rw [HE.out]), rfl⟩

set_option maxRecDepth 100000 in
theorem ref01_Times2 (x : LX Nat) (k n : Nat) (w : World) (hx : x.ok w w.heap.size cU8) (hn : x.l = digs 2 n) (hk : k ≤ 100000) (hl : x.l.length ≤ 100000) :
    Calls Tryd.prog 134 #[.slice x.A x.l.length x.c, .int .i64 k] w fun e w' => ∃ z : LX Nat, e = .returned (.slice z.A z.l.length z.c) ∧ z.l = digs 2 (2 ^ k * n) ∧ Go.Hx.Own w' w.heap.size 5 1 cU8 (.slice z.A z.l.length z.c) z.l ∧ Ext w w' := by
  obtain ⟨l, A, c⟩ := x
  dsimp only at *
  by_cases h0 : l.length = 0
  · have h0' : ((l.length : Int) == 0) = true := by rw [beq_iff_eq]; omega
    have HN : Hid (digs 2 (2 ^ k * n) = []) := Lib.hid (by
      have : l = [] := List.eq_nil_of_length_eq_zero h0
      rw [this] at hn
      have : n = 0 := (digs_nil (b := 2) (by omega)).1 hn.symm
      rw [this]; simp [digs_zero])
    clear hx hn h0
    go_enter Tryd.func134, Tryd.ntmps134
    go_wp2_with fail
    go_ret
    exact ⟨⟨[], none, 0⟩, rfl, HN.out.symm, Go.Hx.Own.nil _ _ _ _ _, Ext.refl _⟩
  · have h0' : ((l.length : Int) == 0) = false := by rw [beq_eq_false_iff_ne]; omega
    have HN : Hid (List.replicate k 0 ++ l = digs 2 (2 ^ k * n)) := Lib.hid (by
      rw [hn]
      exact digs_shift (by omega) k (fun h => h0 (by rw [hn, h, digs_zero]; rfl)))
    have HX := Lib.hid hx
    clear hx hn h0
    go_enter Tryd.func134, Tryd.ntmps134
    go_wp2_with (first | ((with_reducible refine wpl_make (z0 := 0) (enc := cU8) elu8 (.int .u8 0) ?_ rfl rfl (.tmp 8) (.tmp 8) ?_ ?_ k .i64 .i64 ?_ ?_ ?_ ?_ w ?_); (exact by kernel_rfl); (exact rfl); (exact rfl); (exact rfl); (exact rfl); (exact by omega); (exact by unfold maxLen; omega); (intro w1 hown1 hE1)) | (at_builtin; go_must (refine app_part elu8 rfl (.tmp 9) (.tmp 10) rfl w1 w.heap.size cU8 _ (List.replicate k 0) l rfl hown1 A l.length c rfl rfl ((HX.out.ext hE1).1) (fun _ => rfl) (fun _ => rfl) (by rw [List.length_replicate]; omega) (by rw [List.length_replicate]; unfold maxLen; omega) hE1.size ?_); intro v2 w2 hown2 hgrow2 _))
    obtain ⟨A2, c2, rfl, hok2⟩ := hown2.form
    go_wp2_with fail
    go_ret
    exact ⟨⟨_, A2, c2⟩, rfl, HN.out, hown2, Own.below hown1 hE1 hgrow2 (Nat.le_refl _) hE1.size⟩
end Go.Proofs.YtgcbnagfdfgpnaaDoor
