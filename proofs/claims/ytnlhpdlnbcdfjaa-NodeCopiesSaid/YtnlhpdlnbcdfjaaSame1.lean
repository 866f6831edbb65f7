/- slices.Equal at the program's types. Printed by gen_same.py. -/
import Derived.Test.YtnlhpdlnbcdfjaaRows
import Derived.Test.YtnlhpdlnbcdfjaaData
import Derived.Test.YtnlhpdlnbcdfjaaSame0
namespace Go.Proofs.Ytnlhpdlnbcdfjaa
open Go.RowKit Go.Hx

set_option maxRecDepth 100000 in
set_option maxHeartbeats 400000 in
theorem eq_u32 (x y : LX Nat) (w : World) (hx : x.ok w w.heap.size cU32) (hy : y.ok w w.heap.size cU32) :
    Calls Try.prog 55 #[.slice x.A x.l.length x.c, .slice y.A y.l.length y.c] w fun e w' => e = .returned (.bool (decide (x.l = y.l))) ∧ ∃ j, w' = w.drewN j := by
  obtain ⟨l, A, c⟩ := x
  obtain ⟨m, B, d⟩ := y
  obtain ⟨hx, hx1, hx2⟩ := hx
  obtain ⟨hy, hy1, hy2⟩ := hy
  dsimp only at *
  unfold maxLen at hx2 hy2
  have HX := Lib.hid hx
  have HY := Lib.hid hy
  clear hx hy
  by_cases hne : l.length = m.length
  · have h0 : ((l.length : Int) != (m.length : Int)) = false := by simp [hne]
    have HN := Lib.hid hne
    clear hne
    go_enter Try.func55, Try.ntmps55
    go_wp2
    go_loopw [13] (fun i wr => ∃ k : Nat, k ≤ l.length ∧ i = .int .i64 k ∧ Hid (l.take k = m.take k) ∧ ∃ j, wr = w.drewN j) (fun i _ => l.length - (intOf i).toNat)
    case atStart => exact ⟨0, Nat.zero_le _, rfl, rfl, 0, rfl⟩
    case round =>
      obtain ⟨k, hk, rfl, ht, j, rfl⟩ := hrel
      by_cases hlt : k < l.length
      · obtain ⟨a, ha⟩ : ∃ a, l[k]? = some a := ⟨_, List.getElem?_eq_getElem hlt⟩
        obtain ⟨b, hb⟩ : ∃ b, m[k]? = some b := ⟨_, List.getElem?_eq_getElem (by have := HN.out; omega)⟩
        obtain ⟨b1, o1, rfl, hb1, r1⟩ := Sl.row (size := 1) (fun _ => rfl) HX.out ha
        obtain ⟨b2, o2, rfl, hb2, r2⟩ := Sl.row (size := 1) (fun _ => rfl) HY.out hb
        have g0 := r1 0 _ rfl
        have h0 := r2 0 _ rfl
        simp only [Nat.mul_one, Nat.add_zero] at g0 h0
        have HA := Lib.hid ha
        have HB := Lib.hid hb
        clear ha hb r1 r2
        have hl : (k:Int) < (l.length : Int) := by omega
        have hm : (k:Int) < (m.length : Int) := by have := HN.out; omega
        by_cases q0 : a = b
        · have e0 : ((a : Int) != (b : Int)) = false := by rw [bne_eq_false_iff_eq]; omega
          have HQ := Lib.hid (show a = b by exact q0)
          clear q0
          go_wp2
          go_quiet (fail)
          go_wp2
          go_roundw
          case rel => exact ⟨k + 1, by omega, by go_num, take_eq_succ HA.out HB.out HQ.out ht, _, rfl⟩
          case measure => simp [intOf]; omega
        · have e0 : ((a : Int) != (b : Int)) = true := by rw [bne_iff_ne]; omega
          have HQ := Lib.hid (show a ≠ b by rintro rfl; exact q0 rfl)
          clear q0
          go_wp2
          go_quiet (fail)
          go_wp2
          go_ret
          exact ⟨ret_bool (decide_eq_false (ne_of_get HA.out HB.out HQ.out)).symm, _, World.drewN_drewN _ _ _⟩
      · have hk' : k = l.length := by omega
        go_wp2
        go_ret
        have hfin : l = m := by
          have := ht.out
          rwa [hk', List.take_length, HN.out, List.take_length] at this
        exact ⟨ret_bool (decide_eq_true hfin).symm, _, rfl⟩
  · have h0 : ((l.length : Int) != (m.length : Int)) = true := by simp; omega
    have HN := Lib.hid hne
    clear hne
    go_enter Try.func55, Try.ntmps55
    go_wp2
    go_ret
    exact ⟨ret_bool (decide_eq_false (fun h => HN.out (by rw [h]))).symm, 0, rfl⟩

set_option maxRecDepth 100000 in
set_option maxHeartbeats 400000 in
theorem eq_int (x y : LX Int) (w : World) (hx : x.ok w w.heap.size cInt) (hy : y.ok w w.heap.size cInt) :
    Calls Try.prog 40 #[.slice x.A x.l.length x.c, .slice y.A y.l.length y.c] w fun e w' => e = .returned (.bool (decide (x.l = y.l))) ∧ ∃ j, w' = w.drewN j := by
  obtain ⟨l, A, c⟩ := x
  obtain ⟨m, B, d⟩ := y
  obtain ⟨hx, hx1, hx2⟩ := hx
  obtain ⟨hy, hy1, hy2⟩ := hy
  dsimp only at *
  unfold maxLen at hx2 hy2
  have HX := Lib.hid hx
  have HY := Lib.hid hy
  clear hx hy
  by_cases hne : l.length = m.length
  · have h0 : ((l.length : Int) != (m.length : Int)) = false := by simp [hne]
    have HN := Lib.hid hne
    clear hne
    go_enter Try.func40, Try.ntmps40
    go_wp2
    go_loopw [13] (fun i wr => ∃ k : Nat, k ≤ l.length ∧ i = .int .i64 k ∧ Hid (l.take k = m.take k) ∧ ∃ j, wr = w.drewN j) (fun i _ => l.length - (intOf i).toNat)
    case atStart => exact ⟨0, Nat.zero_le _, rfl, rfl, 0, rfl⟩
    case round =>
      obtain ⟨k, hk, rfl, ht, j, rfl⟩ := hrel
      by_cases hlt : k < l.length
      · obtain ⟨a, ha⟩ : ∃ a, l[k]? = some a := ⟨_, List.getElem?_eq_getElem hlt⟩
        obtain ⟨b, hb⟩ : ∃ b, m[k]? = some b := ⟨_, List.getElem?_eq_getElem (by have := HN.out; omega)⟩
        obtain ⟨b1, o1, rfl, hb1, r1⟩ := Sl.row (size := 1) (fun _ => rfl) HX.out ha
        obtain ⟨b2, o2, rfl, hb2, r2⟩ := Sl.row (size := 1) (fun _ => rfl) HY.out hb
        have g0 := r1 0 _ rfl
        have h0 := r2 0 _ rfl
        simp only [Nat.mul_one, Nat.add_zero] at g0 h0
        have HA := Lib.hid ha
        have HB := Lib.hid hb
        clear ha hb r1 r2
        have hl : (k:Int) < (l.length : Int) := by omega
        have hm : (k:Int) < (m.length : Int) := by have := HN.out; omega
        by_cases q0 : a = b
        · have e0 : ((a : Int) != (b : Int)) = false := by rw [bne_eq_false_iff_eq]; omega
          have HQ := Lib.hid (show a = b by exact q0)
          clear q0
          go_wp2
          go_quiet (fail)
          go_wp2
          go_roundw
          case rel => exact ⟨k + 1, by omega, by go_num, take_eq_succ HA.out HB.out HQ.out ht, _, rfl⟩
          case measure => simp [intOf]; omega
        · have e0 : ((a : Int) != (b : Int)) = true := by rw [bne_iff_ne]; omega
          have HQ := Lib.hid (show a ≠ b by rintro rfl; exact q0 rfl)
          clear q0
          go_wp2
          go_quiet (fail)
          go_wp2
          go_ret
          exact ⟨ret_bool (decide_eq_false (ne_of_get HA.out HB.out HQ.out)).symm, _, World.drewN_drewN _ _ _⟩
      · have hk' : k = l.length := by omega
        go_wp2
        go_ret
        have hfin : l = m := by
          have := ht.out
          rwa [hk', List.take_length, HN.out, List.take_length] at this
        exact ⟨ret_bool (decide_eq_true hfin).symm, _, rfl⟩
  · have h0 : ((l.length : Int) != (m.length : Int)) = true := by simp; omega
    have HN := Lib.hid hne
    clear hne
    go_enter Try.func40, Try.ntmps40
    go_wp2
    go_ret
    exact ⟨ret_bool (decide_eq_false (fun h => HN.out (by rw [h]))).symm, 0, rfl⟩

set_option maxRecDepth 100000 in
set_option maxHeartbeats 400000 in
theorem eq_desc (x y : LX PDesc) (w : World) (hx : x.ok w w.heap.size PDesc.cells) (hy : y.ok w w.heap.size PDesc.cells) :
    Calls Try.prog 65 #[.slice x.A x.l.length x.c, .slice y.A y.l.length y.c] w fun e w' => e = .returned (.bool (decide (x.l = y.l))) ∧ ∃ j, w' = w.drewN j := by
  obtain ⟨l, A, c⟩ := x
  obtain ⟨m, B, d⟩ := y
  obtain ⟨hx, hx1, hx2⟩ := hx
  obtain ⟨hy, hy1, hy2⟩ := hy
  dsimp only at *
  unfold maxLen at hx2 hy2
  have HX := Lib.hid hx
  have HY := Lib.hid hy
  clear hx hy
  by_cases hne : l.length = m.length
  · have h0 : ((l.length : Int) != (m.length : Int)) = false := by simp [hne]
    have HN := Lib.hid hne
    clear hne
    go_enter Try.func65, Try.ntmps65
    go_wp2
    go_loopw [13] (fun i wr => ∃ k : Nat, k ≤ l.length ∧ i = .int .i64 k ∧ Hid (l.take k = m.take k) ∧ ∃ j, wr = w.drewN j) (fun i _ => l.length - (intOf i).toNat)
    case atStart => exact ⟨0, Nat.zero_le _, rfl, rfl, 0, rfl⟩
    case round =>
      obtain ⟨k, hk, rfl, ht, j, rfl⟩ := hrel
      by_cases hlt : k < l.length
      · obtain ⟨a, ha⟩ : ∃ a, l[k]? = some a := ⟨_, List.getElem?_eq_getElem hlt⟩
        obtain ⟨b, hb⟩ : ∃ b, m[k]? = some b := ⟨_, List.getElem?_eq_getElem (by have := HN.out; omega)⟩
        obtain ⟨b1, o1, rfl, hb1, r1⟩ := Sl.row (size := 2) (fun _ => rfl) HX.out ha
        obtain ⟨b2, o2, rfl, hb2, r2⟩ := Sl.row (size := 2) (fun _ => rfl) HY.out hb
        have g0 := r1 0 _ rfl
        have g1 := r1 1 _ rfl
        have h0 := r2 0 _ rfl
        have h1 := r2 1 _ rfl
        simp only [Nat.add_zero] at g0 g1 h0 h1
        have HA := Lib.hid ha
        have HB := Lib.hid hb
        clear ha hb r1 r2
        have hl : (k:Int) < (l.length : Int) := by omega
        have hm : (k:Int) < (m.length : Int) := by have := HN.out; omega
        by_cases hq : a = b
        · have e1 : ∀ W, (binOp .neq 84 (.agg #[.int .i64 a.id, .int .i64 a.stamp]) (.agg #[.int .i64 b.id, .int .i64 b.stamp])).run Try.prog W = .ok (.bool false) W := fun W => by rw [neqDesc, decide_eq_true hq]; rfl
          have HQ := Lib.hid hq
          clear hq
          go_wp2
          go_quiet (fail)
          go_wp2
          go_roundw
          case rel => exact ⟨k + 1, by omega, by go_num, take_eq_succ HA.out HB.out HQ.out ht, _, rfl⟩
          case measure => simp [intOf]; omega
        · have e1 : ∀ W, (binOp .neq 84 (.agg #[.int .i64 a.id, .int .i64 a.stamp]) (.agg #[.int .i64 b.id, .int .i64 b.stamp])).run Try.prog W = .ok (.bool true) W := fun W => by rw [neqDesc, decide_eq_false hq]; rfl
          have HQ := Lib.hid hq
          clear hq
          go_wp2
          go_quiet (fail)
          go_wp2
          go_ret
          exact ⟨ret_bool (decide_eq_false (ne_of_get HA.out HB.out HQ.out)).symm, _, World.drewN_drewN _ _ _⟩
      · have hk' : k = l.length := by omega
        go_wp2
        go_ret
        have hfin : l = m := by
          have := ht.out
          rwa [hk', List.take_length, HN.out, List.take_length] at this
        exact ⟨ret_bool (decide_eq_true hfin).symm, _, rfl⟩
  · have h0 : ((l.length : Int) != (m.length : Int)) = true := by simp; omega
    have HN := Lib.hid hne
    clear hne
    go_enter Try.func65, Try.ntmps65
    go_wp2
    go_ret
    exact ⟨ret_bool (decide_eq_false (fun h => HN.out (by rw [h]))).symm, 0, rfl⟩

set_option maxRecDepth 100000 in
set_option maxHeartbeats 400000 in
theorem eq_timer (x y : LX PTimer) (w : World) (hx : x.ok w w.heap.size PTimer.cells) (hy : y.ok w w.heap.size PTimer.cells) :
    Calls Try.prog 43 #[.slice x.A x.l.length x.c, .slice y.A y.l.length y.c] w fun e w' => e = .returned (.bool (decide (x.l = y.l))) ∧ ∃ j, w' = w.drewN j := by
  obtain ⟨l, A, c⟩ := x
  obtain ⟨m, B, d⟩ := y
  obtain ⟨hx, hx1, hx2⟩ := hx
  obtain ⟨hy, hy1, hy2⟩ := hy
  dsimp only at *
  unfold maxLen at hx2 hy2
  have HX := Lib.hid hx
  have HY := Lib.hid hy
  clear hx hy
  by_cases hne : l.length = m.length
  · have h0 : ((l.length : Int) != (m.length : Int)) = false := by simp [hne]
    have HN := Lib.hid hne
    clear hne
    go_enter Try.func43, Try.ntmps43
    go_wp2
    go_loopw [13] (fun i wr => ∃ k : Nat, k ≤ l.length ∧ i = .int .i64 k ∧ Hid (l.take k = m.take k) ∧ ∃ j, wr = w.drewN j) (fun i _ => l.length - (intOf i).toNat)
    case atStart => exact ⟨0, Nat.zero_le _, rfl, rfl, 0, rfl⟩
    case round =>
      obtain ⟨k, hk, rfl, ht, j, rfl⟩ := hrel
      by_cases hlt : k < l.length
      · obtain ⟨a, ha⟩ : ∃ a, l[k]? = some a := ⟨_, List.getElem?_eq_getElem hlt⟩
        obtain ⟨b, hb⟩ : ∃ b, m[k]? = some b := ⟨_, List.getElem?_eq_getElem (by have := HN.out; omega)⟩
        obtain ⟨b1, o1, rfl, hb1, r1⟩ := Sl.row (size := 2) (fun _ => rfl) HX.out ha
        obtain ⟨b2, o2, rfl, hb2, r2⟩ := Sl.row (size := 2) (fun _ => rfl) HY.out hb
        have g0 := r1 0 _ rfl
        have g1 := r1 1 _ rfl
        have h0 := r2 0 _ rfl
        have h1 := r2 1 _ rfl
        simp only [Nat.add_zero] at g0 g1 h0 h1
        have HA := Lib.hid ha
        have HB := Lib.hid hb
        clear ha hb r1 r2
        have hl : (k:Int) < (l.length : Int) := by omega
        have hm : (k:Int) < (m.length : Int) := by have := HN.out; omega
        by_cases hq : a = b
        · have e1 : ∀ W, (binOp .neq 79 (.agg #[.int .i64 a.at_, .int .i64 a.number]) (.agg #[.int .i64 b.at_, .int .i64 b.number])).run Try.prog W = .ok (.bool false) W := fun W => by rw [neqTimer, decide_eq_true hq]; rfl
          have HQ := Lib.hid hq
          clear hq
          go_wp2
          go_quiet (fail)
          go_wp2
          go_roundw
          case rel => exact ⟨k + 1, by omega, by go_num, take_eq_succ HA.out HB.out HQ.out ht, _, rfl⟩
          case measure => simp [intOf]; omega
        · have e1 : ∀ W, (binOp .neq 79 (.agg #[.int .i64 a.at_, .int .i64 a.number]) (.agg #[.int .i64 b.at_, .int .i64 b.number])).run Try.prog W = .ok (.bool true) W := fun W => by rw [neqTimer, decide_eq_false hq]; rfl
          have HQ := Lib.hid hq
          clear hq
          go_wp2
          go_quiet (fail)
          go_wp2
          go_ret
          exact ⟨ret_bool (decide_eq_false (ne_of_get HA.out HB.out HQ.out)).symm, _, World.drewN_drewN _ _ _⟩
      · have hk' : k = l.length := by omega
        go_wp2
        go_ret
        have hfin : l = m := by
          have := ht.out
          rwa [hk', List.take_length, HN.out, List.take_length] at this
        exact ⟨ret_bool (decide_eq_true hfin).symm, _, rfl⟩
  · have h0 : ((l.length : Int) != (m.length : Int)) = true := by simp; omega
    have HN := Lib.hid hne
    clear hne
    go_enter Try.func43, Try.ntmps43
    go_wp2
    go_ret
    exact ⟨ret_bool (decide_eq_false (fun h => HN.out (by rw [h]))).symm, 0, rfl⟩

end Go.Proofs.Ytnlhpdlnbcdfjaa
