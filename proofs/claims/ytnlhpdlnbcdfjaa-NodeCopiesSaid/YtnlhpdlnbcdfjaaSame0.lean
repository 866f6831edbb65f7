/- What the references answer when lists are compared; == of structs. Printed by gen_same.py. -/
import Derived.Test.YtnlhpdlnbcdfjaaRows
import Derived.Test.YtnlhpdlnbcdfjaaData
namespace Go.Proofs.Ytnlhpdlnbcdfjaa
open Go.RowKit Go.Hx
theorem stoodTimer : Try.prog.stoodInHeld 79 = false := by kernel_rfl
theorem underTimer : Try.prog.underlying 79 = some (.struct (Try.prog.fieldsOf 79)) := by kernel_rfl
theorem eqAsTimer (w : World) (x y : PTimer) : (Op.equalIn 10000 79 (.agg #[.int .i64 x.at_, .int .i64 x.number]) (.agg #[.int .i64 y.at_, .int .i64 y.number])).run Try.prog w = .ok (decide (x = y)) w := by
  rw [show (10000 : Nat) = 9999 + 1 from rfl, run_equalIn_struct w 9999 79 _ _ underTimer stoodTimer]
  simp only [Program.fieldsOf, Try.underlying79]
  simp [go_sem, Try.underlying3]
  obtain ⟨x0, x1⟩ := x
  obtain ⟨y0, y1⟩ := y
  simp only [PTimer.mk.injEq]
  repeat' split
  all_goals simp_all
theorem neqTimer (w : World) (x y : PTimer) : (binOp .neq 79 (.agg #[.int .i64 x.at_, .int .i64 x.number]) (.agg #[.int .i64 y.at_, .int .i64 y.number])).run Try.prog w = .ok (.bool (!decide (x = y))) w := by
  rw [run_neq_struct, eqAsTimer]; rfl
theorem eqlTimer (w : World) (x y : PTimer) : (binOp .eql 79 (.agg #[.int .i64 x.at_, .int .i64 x.number]) (.agg #[.int .i64 y.at_, .int .i64 y.number])).run Try.prog w = .ok (.bool (decide (x = y))) w := by
  rw [run_eql_struct, eqAsTimer]; rfl

theorem stoodDesc : Try.prog.stoodInHeld 84 = false := by kernel_rfl
theorem underDesc : Try.prog.underlying 84 = some (.struct (Try.prog.fieldsOf 84)) := by kernel_rfl
theorem eqAsDesc (w : World) (x y : PDesc) : (Op.equalIn 10000 84 (.agg #[.int .i64 x.id, .int .i64 x.stamp]) (.agg #[.int .i64 y.id, .int .i64 y.stamp])).run Try.prog w = .ok (decide (x = y)) w := by
  rw [show (10000 : Nat) = 9999 + 1 from rfl, run_equalIn_struct w 9999 84 _ _ underDesc stoodDesc]
  simp only [Program.fieldsOf, Try.underlying84]
  simp [go_sem, Try.underlying3]
  obtain ⟨x0, x1⟩ := x
  obtain ⟨y0, y1⟩ := y
  simp only [PDesc.mk.injEq]
  repeat' split
  all_goals simp_all
theorem neqDesc (w : World) (x y : PDesc) : (binOp .neq 84 (.agg #[.int .i64 x.id, .int .i64 x.stamp]) (.agg #[.int .i64 y.id, .int .i64 y.stamp])).run Try.prog w = .ok (.bool (!decide (x = y))) w := by
  rw [run_neq_struct, eqAsDesc]; rfl
theorem eqlDesc (w : World) (x y : PDesc) : (binOp .eql 84 (.agg #[.int .i64 x.id, .int .i64 x.stamp]) (.agg #[.int .i64 y.id, .int .i64 y.stamp])).run Try.prog w = .ok (.bool (decide (x = y))) w := by
  rw [run_eql_struct, eqAsDesc]; rfl

theorem stoodClock : Try.prog.stoodInHeld 23 = false := by kernel_rfl
theorem underClock : Try.prog.underlying 23 = some (.struct (Try.prog.fieldsOf 23)) := by kernel_rfl
theorem eqAsClock (w : World) (x y : PClock) : (Op.equalIn 10000 23 (.agg #[.int .i64 x.len, .int .i64 x.tick, .int .i64 x.since, .int .i64 x.epoch, .int .i64 x.from_]) (.agg #[.int .i64 y.len, .int .i64 y.tick, .int .i64 y.since, .int .i64 y.epoch, .int .i64 y.from_])).run Try.prog w = .ok (decide (x = y)) w := by
  rw [show (10000 : Nat) = 9999 + 1 from rfl, run_equalIn_struct w 9999 23 _ _ underClock stoodClock]
  simp only [Program.fieldsOf, Try.underlying23]
  simp [go_sem, Try.underlying3]
  obtain ⟨x0, x1, x2, x3, x4⟩ := x
  obtain ⟨y0, y1, y2, y3, y4⟩ := y
  simp only [PClock.mk.injEq]
  repeat' split
  all_goals simp_all
theorem neqClock (w : World) (x y : PClock) : (binOp .neq 23 (.agg #[.int .i64 x.len, .int .i64 x.tick, .int .i64 x.since, .int .i64 x.epoch, .int .i64 x.from_]) (.agg #[.int .i64 y.len, .int .i64 y.tick, .int .i64 y.since, .int .i64 y.epoch, .int .i64 y.from_])).run Try.prog w = .ok (.bool (!decide (x = y))) w := by
  rw [run_neq_struct, eqAsClock]; rfl
theorem eqlClock (w : World) (x y : PClock) : (binOp .eql 23 (.agg #[.int .i64 x.len, .int .i64 x.tick, .int .i64 x.since, .int .i64 x.epoch, .int .i64 x.from_]) (.agg #[.int .i64 y.len, .int .i64 y.tick, .int .i64 y.since, .int .i64 y.epoch, .int .i64 y.from_])).run Try.prog w = .ok (.bool (decide (x = y))) w := by
  rw [run_eql_struct, eqAsClock]; rfl

theorem stoodWait : Try.prog.stoodInHeld 34 = false := by kernel_rfl
theorem underWait : Try.prog.underlying 34 = some (.struct (Try.prog.fieldsOf 34)) := by kernel_rfl
theorem eqAsWait (w : World) (x y : PWait) : (Op.equalIn 10000 34 (.agg #[.bool x.out, .int .i64 x.number, .int .i64 x.to]) (.agg #[.bool y.out, .int .i64 y.number, .int .i64 y.to])).run Try.prog w = .ok (decide (x = y)) w := by
  rw [show (10000 : Nat) = 9999 + 1 from rfl, run_equalIn_struct w 9999 34 _ _ underWait stoodWait]
  simp only [Program.fieldsOf, Try.underlying34]
  simp [go_sem, Try.underlying4, Try.underlying3]
  obtain ⟨x0, x1, x2⟩ := x
  obtain ⟨y0, y1, y2⟩ := y
  simp only [PWait.mk.injEq]
  repeat' split
  all_goals simp_all
theorem neqWait (w : World) (x y : PWait) : (binOp .neq 34 (.agg #[.bool x.out, .int .i64 x.number, .int .i64 x.to]) (.agg #[.bool y.out, .int .i64 y.number, .int .i64 y.to])).run Try.prog w = .ok (.bool (!decide (x = y))) w := by
  rw [run_neq_struct, eqAsWait]; rfl
theorem eqlWait (w : World) (x y : PWait) : (binOp .eql 34 (.agg #[.bool x.out, .int .i64 x.number, .int .i64 x.to]) (.agg #[.bool y.out, .int .i64 y.number, .int .i64 y.to])).run Try.prog w = .ok (.bool (decide (x = y))) w := by
  rw [run_eql_struct, eqAsWait]; rfl

theorem stoodEdge : Try.prog.stoodInHeld 30 = false := by kernel_rfl
theorem underEdge : Try.prog.underlying 30 = some (.struct (Try.prog.fieldsOf 30)) := by kernel_rfl
theorem eqAsEdge (w : World) (x y : PEdge) : (Op.equalIn 10000 30 (.agg #[.bool x.has, .int .i64 x.min, .int .i64 x.max]) (.agg #[.bool y.has, .int .i64 y.min, .int .i64 y.max])).run Try.prog w = .ok (decide (x = y)) w := by
  rw [show (10000 : Nat) = 9999 + 1 from rfl, run_equalIn_struct w 9999 30 _ _ underEdge stoodEdge]
  simp only [Program.fieldsOf, Try.underlying30]
  simp [go_sem, Try.underlying4, Try.underlying3]
  obtain ⟨x0, x1, x2⟩ := x
  obtain ⟨y0, y1, y2⟩ := y
  simp only [PEdge.mk.injEq]
  repeat' split
  all_goals simp_all
theorem neqEdge (w : World) (x y : PEdge) : (binOp .neq 30 (.agg #[.bool x.has, .int .i64 x.min, .int .i64 x.max]) (.agg #[.bool y.has, .int .i64 y.min, .int .i64 y.max])).run Try.prog w = .ok (.bool (!decide (x = y))) w := by
  rw [run_neq_struct, eqAsEdge]; rfl
theorem eqlEdge (w : World) (x y : PEdge) : (binOp .eql 30 (.agg #[.bool x.has, .int .i64 x.min, .int .i64 x.max]) (.agg #[.bool y.has, .int .i64 y.min, .int .i64 y.max])).run Try.prog w = .ok (.bool (decide (x = y))) w := by
  rw [run_eql_struct, eqAsEdge]; rfl


set_option maxRecDepth 100000 in
set_option maxHeartbeats 400000 in
theorem ref01_Same (x y : LX Nat) (w : World) (hx : x.ok w w.heap.size cU32) (hy : y.ok w w.heap.size cU32) :
    Calls Try.prog 66 #[.slice x.A x.l.length x.c, .slice y.A y.l.length y.c] w fun e w' => e = .returned (.bool (decide (x.l = y.l))) ∧ ∃ j, w' = w.drewN j := by
  obtain ⟨l, A, c⟩ := x
  obtain ⟨m, B, d⟩ := y
  obtain ⟨hx, hx1, hx2⟩ := hx
  obtain ⟨hy, hy1, hy2⟩ := hy
  dsimp only at *
  unfold maxLen at hx2 hy2
  have HX := Lib.hid hx
  have HY := Lib.hid hy
  clear hx hy
  by_cases hne : l.length = m.length
  · have h0 : ((l.length : Int) != (m.length : Int)) = false := by simp [hne]
    have HN := Lib.hid hne
    clear hne
    go_enter Try.func66, Try.ntmps66
    go_wp2
    go_loopw [5] (fun i wr => ∃ k : Nat, k ≤ l.length ∧ i = .int .i64 k ∧ Hid (l.take k = m.take k) ∧ ∃ j, wr = w.drewN j) (fun i _ => l.length - (intOf i).toNat)
    case atStart => exact ⟨0, Nat.zero_le _, rfl, rfl, 0, rfl⟩
    case round =>
      obtain ⟨k, hk, rfl, ht, j, rfl⟩ := hrel
      by_cases hlt : k < l.length
      · obtain ⟨a, ha⟩ : ∃ a, l[k]? = some a := ⟨_, List.getElem?_eq_getElem hlt⟩
        obtain ⟨b, hb⟩ : ∃ b, m[k]? = some b := ⟨_, List.getElem?_eq_getElem (by have := HN.out; omega)⟩
        obtain ⟨b1, o1, rfl, hb1, r1⟩ := Sl.row (size := 1) (fun _ => rfl) HX.out ha
        obtain ⟨b2, o2, rfl, hb2, r2⟩ := Sl.row (size := 1) (fun _ => rfl) HY.out hb
        have g0 := r1 0 _ rfl
        have h0 := r2 0 _ rfl
        simp only [Nat.mul_one, Nat.add_zero] at g0 h0
        have HA := Lib.hid ha
        have HB := Lib.hid hb
        clear ha hb r1 r2
        have hl : (k:Int) < (l.length : Int) := by omega
        have hm : (k:Int) < (m.length : Int) := by have := HN.out; omega
        by_cases q0 : a = b
        · have e0 : ((a : Int) != (b : Int)) = false := by rw [bne_eq_false_iff_eq]; omega
          have HQ := Lib.hid (show a = b by exact q0)
          clear q0
          go_wp2
          go_quiet (fail)
          go_wp2
          go_roundw
          case rel => exact ⟨k + 1, by omega, by go_num, take_eq_succ HA.out HB.out HQ.out ht, _, rfl⟩
          case measure => simp [intOf]; omega
        · have e0 : ((a : Int) != (b : Int)) = true := by rw [bne_iff_ne]; omega
          have HQ := Lib.hid (show a ≠ b by rintro rfl; exact q0 rfl)
          clear q0
          go_wp2
          go_quiet (fail)
          go_wp2
          go_ret
          exact ⟨ret_bool (decide_eq_false (ne_of_get HA.out HB.out HQ.out)).symm, _, World.drewN_drewN _ _ _⟩
      · have hk' : k = l.length := by omega
        go_wp2
        go_ret
        have hfin : l = m := by
          have := ht.out
          rwa [hk', List.take_length, HN.out, List.take_length] at this
        exact ⟨ret_bool (decide_eq_true hfin).symm, _, rfl⟩
  · have h0 : ((l.length : Int) != (m.length : Int)) = true := by simp; omega
    have HN := Lib.hid hne
    clear hne
    go_enter Try.func66, Try.ntmps66
    go_wp2
    go_ret
    exact ⟨ret_bool (decide_eq_false (fun h => HN.out (by rw [h]))).symm, 0, rfl⟩

set_option maxRecDepth 100000 in
set_option maxHeartbeats 400000 in
theorem ref10_SameTags (x y : LX Nat) (w : World) (hx : x.ok w w.heap.size cU32) (hy : y.ok w w.heap.size cU32) :
    Calls Try.prog 46 #[.slice x.A x.l.length x.c, .slice y.A y.l.length y.c] w fun e w' => e = .returned (.bool (decide (x.l = y.l))) ∧ ∃ j, w' = w.drewN j := by
  obtain ⟨l, A, c⟩ := x
  obtain ⟨m, B, d⟩ := y
  obtain ⟨hx, hx1, hx2⟩ := hx
  obtain ⟨hy, hy1, hy2⟩ := hy
  dsimp only at *
  unfold maxLen at hx2 hy2
  have HX := Lib.hid hx
  have HY := Lib.hid hy
  clear hx hy
  by_cases hne : l.length = m.length
  · have h0 : ((l.length : Int) != (m.length : Int)) = false := by simp [hne]
    have HN := Lib.hid hne
    clear hne
    go_enter Try.func46, Try.ntmps46
    go_wp2
    go_loopw [5] (fun i wr => ∃ k : Nat, k ≤ l.length ∧ i = .int .i64 k ∧ Hid (l.take k = m.take k) ∧ ∃ j, wr = w.drewN j) (fun i _ => l.length - (intOf i).toNat)
    case atStart => exact ⟨0, Nat.zero_le _, rfl, rfl, 0, rfl⟩
    case round =>
      obtain ⟨k, hk, rfl, ht, j, rfl⟩ := hrel
      by_cases hlt : k < l.length
      · obtain ⟨a, ha⟩ : ∃ a, l[k]? = some a := ⟨_, List.getElem?_eq_getElem hlt⟩
        obtain ⟨b, hb⟩ : ∃ b, m[k]? = some b := ⟨_, List.getElem?_eq_getElem (by have := HN.out; omega)⟩
        obtain ⟨b1, o1, rfl, hb1, r1⟩ := Sl.row (size := 1) (fun _ => rfl) HX.out ha
        obtain ⟨b2, o2, rfl, hb2, r2⟩ := Sl.row (size := 1) (fun _ => rfl) HY.out hb
        have g0 := r1 0 _ rfl
        have h0 := r2 0 _ rfl
        simp only [Nat.mul_one, Nat.add_zero] at g0 h0
        have HA := Lib.hid ha
        have HB := Lib.hid hb
        clear ha hb r1 r2
        have hl : (k:Int) < (l.length : Int) := by omega
        have hm : (k:Int) < (m.length : Int) := by have := HN.out; omega
        by_cases q0 : a = b
        · have e0 : ((a : Int) != (b : Int)) = false := by rw [bne_eq_false_iff_eq]; omega
          have HQ := Lib.hid (show a = b by exact q0)
          clear q0
          go_wp2
          go_quiet (fail)
          go_wp2
          go_roundw
          case rel => exact ⟨k + 1, by omega, by go_num, take_eq_succ HA.out HB.out HQ.out ht, _, rfl⟩
          case measure => simp [intOf]; omega
        · have e0 : ((a : Int) != (b : Int)) = true := by rw [bne_iff_ne]; omega
          have HQ := Lib.hid (show a ≠ b by rintro rfl; exact q0 rfl)
          clear q0
          go_wp2
          go_quiet (fail)
          go_wp2
          go_ret
          exact ⟨ret_bool (decide_eq_false (ne_of_get HA.out HB.out HQ.out)).symm, _, World.drewN_drewN _ _ _⟩
      · have hk' : k = l.length := by omega
        go_wp2
        go_ret
        have hfin : l = m := by
          have := ht.out
          rwa [hk', List.take_length, HN.out, List.take_length] at this
        exact ⟨ret_bool (decide_eq_true hfin).symm, _, rfl⟩
  · have h0 : ((l.length : Int) != (m.length : Int)) = true := by simp; omega
    have HN := Lib.hid hne
    clear hne
    go_enter Try.func46, Try.ntmps46
    go_wp2
    go_ret
    exact ⟨ret_bool (decide_eq_false (fun h => HN.out (by rw [h]))).symm, 0, rfl⟩

set_option maxRecDepth 100000 in
set_option maxHeartbeats 400000 in
theorem ref11_Same (x y : LX Int) (w : World) (hx : x.ok w w.heap.size cInt) (hy : y.ok w w.heap.size cInt) :
    Calls Try.prog 25 #[.slice x.A x.l.length x.c, .slice y.A y.l.length y.c] w fun e w' => e = .returned (.bool (decide (x.l = y.l))) ∧ ∃ j, w' = w.drewN j := by
  obtain ⟨l, A, c⟩ := x
  obtain ⟨m, B, d⟩ := y
  obtain ⟨hx, hx1, hx2⟩ := hx
  obtain ⟨hy, hy1, hy2⟩ := hy
  dsimp only at *
  unfold maxLen at hx2 hy2
  have HX := Lib.hid hx
  have HY := Lib.hid hy
  clear hx hy
  by_cases hne : l.length = m.length
  · have h0 : ((l.length : Int) != (m.length : Int)) = false := by simp [hne]
    have HN := Lib.hid hne
    clear hne
    go_enter Try.func25, Try.ntmps25
    go_wp2
    go_loopw [5] (fun i wr => ∃ k : Nat, k ≤ l.length ∧ i = .int .i64 k ∧ Hid (l.take k = m.take k) ∧ ∃ j, wr = w.drewN j) (fun i _ => l.length - (intOf i).toNat)
    case atStart => exact ⟨0, Nat.zero_le _, rfl, rfl, 0, rfl⟩
    case round =>
      obtain ⟨k, hk, rfl, ht, j, rfl⟩ := hrel
      by_cases hlt : k < l.length
      · obtain ⟨a, ha⟩ : ∃ a, l[k]? = some a := ⟨_, List.getElem?_eq_getElem hlt⟩
        obtain ⟨b, hb⟩ : ∃ b, m[k]? = some b := ⟨_, List.getElem?_eq_getElem (by have := HN.out; omega)⟩
        obtain ⟨b1, o1, rfl, hb1, r1⟩ := Sl.row (size := 1) (fun _ => rfl) HX.out ha
        obtain ⟨b2, o2, rfl, hb2, r2⟩ := Sl.row (size := 1) (fun _ => rfl) HY.out hb
        have g0 := r1 0 _ rfl
        have h0 := r2 0 _ rfl
        simp only [Nat.mul_one, Nat.add_zero] at g0 h0
        have HA := Lib.hid ha
        have HB := Lib.hid hb
        clear ha hb r1 r2
        have hl : (k:Int) < (l.length : Int) := by omega
        have hm : (k:Int) < (m.length : Int) := by have := HN.out; omega
        by_cases q0 : a = b
        · have e0 : ((a : Int) != (b : Int)) = false := by rw [bne_eq_false_iff_eq]; omega
          have HQ := Lib.hid (show a = b by exact q0)
          clear q0
          go_wp2
          go_quiet (fail)
          go_wp2
          go_roundw
          case rel => exact ⟨k + 1, by omega, by go_num, take_eq_succ HA.out HB.out HQ.out ht, _, rfl⟩
          case measure => simp [intOf]; omega
        · have e0 : ((a : Int) != (b : Int)) = true := by rw [bne_iff_ne]; omega
          have HQ := Lib.hid (show a ≠ b by rintro rfl; exact q0 rfl)
          clear q0
          go_wp2
          go_quiet (fail)
          go_wp2
          go_ret
          exact ⟨ret_bool (decide_eq_false (ne_of_get HA.out HB.out HQ.out)).symm, _, World.drewN_drewN _ _ _⟩
      · have hk' : k = l.length := by omega
        go_wp2
        go_ret
        have hfin : l = m := by
          have := ht.out
          rwa [hk', List.take_length, HN.out, List.take_length] at this
        exact ⟨ret_bool (decide_eq_true hfin).symm, _, rfl⟩
  · have h0 : ((l.length : Int) != (m.length : Int)) = true := by simp; omega
    have HN := Lib.hid hne
    clear hne
    go_enter Try.func25, Try.ntmps25
    go_wp2
    go_ret
    exact ⟨ret_bool (decide_eq_false (fun h => HN.out (by rw [h]))).symm, 0, rfl⟩

set_option maxRecDepth 100000 in
set_option maxHeartbeats 400000 in
theorem ref07_Same (x y : LX PDesc) (w : World) (hx : x.ok w w.heap.size PDesc.cells) (hy : y.ok w w.heap.size PDesc.cells) :
    Calls Try.prog 47 #[.slice x.A x.l.length x.c, .slice y.A y.l.length y.c] w fun e w' => e = .returned (.bool (decide (x.l = y.l))) ∧ ∃ j, w' = w.drewN j := by
  obtain ⟨l, A, c⟩ := x
  obtain ⟨m, B, d⟩ := y
  obtain ⟨hx, hx1, hx2⟩ := hx
  obtain ⟨hy, hy1, hy2⟩ := hy
  dsimp only at *
  unfold maxLen at hx2 hy2
  have HX := Lib.hid hx
  have HY := Lib.hid hy
  clear hx hy
  by_cases hne : l.length = m.length
  · have h0 : ((l.length : Int) != (m.length : Int)) = false := by simp [hne]
    have HN := Lib.hid hne
    clear hne
    go_enter Try.func47, Try.ntmps47
    go_wp2
    go_loopw [5] (fun i wr => ∃ k : Nat, k ≤ l.length ∧ i = .int .i64 k ∧ Hid (l.take k = m.take k) ∧ ∃ j, wr = w.drewN j) (fun i _ => l.length - (intOf i).toNat)
    case atStart => exact ⟨0, Nat.zero_le _, rfl, rfl, 0, rfl⟩
    case round =>
      obtain ⟨k, hk, rfl, ht, j, rfl⟩ := hrel
      by_cases hlt : k < l.length
      · obtain ⟨a, ha⟩ : ∃ a, l[k]? = some a := ⟨_, List.getElem?_eq_getElem hlt⟩
        obtain ⟨b, hb⟩ : ∃ b, m[k]? = some b := ⟨_, List.getElem?_eq_getElem (by have := HN.out; omega)⟩
        obtain ⟨b1, o1, rfl, hb1, r1⟩ := Sl.row (size := 2) (fun _ => rfl) HX.out ha
        obtain ⟨b2, o2, rfl, hb2, r2⟩ := Sl.row (size := 2) (fun _ => rfl) HY.out hb
        have g0 := r1 0 _ rfl
        have g1 := r1 1 _ rfl
        have h0 := r2 0 _ rfl
        have h1 := r2 1 _ rfl
        simp only [Nat.add_zero] at g0 g1 h0 h1
        have HA := Lib.hid ha
        have HB := Lib.hid hb
        clear ha hb r1 r2
        have hl : (k:Int) < (l.length : Int) := by omega
        have hm : (k:Int) < (m.length : Int) := by have := HN.out; omega
        by_cases hq : a = b
        · have e1 : ∀ W, (binOp .neq 84 (.agg #[.int .i64 a.id, .int .i64 a.stamp]) (.agg #[.int .i64 b.id, .int .i64 b.stamp])).run Try.prog W = .ok (.bool false) W := fun W => by rw [neqDesc, decide_eq_true hq]; rfl
          have HQ := Lib.hid hq
          clear hq
          go_wp2
          go_quiet (fail)
          go_wp2
          go_roundw
          case rel => exact ⟨k + 1, by omega, by go_num, take_eq_succ HA.out HB.out HQ.out ht, _, rfl⟩
          case measure => simp [intOf]; omega
        · have e1 : ∀ W, (binOp .neq 84 (.agg #[.int .i64 a.id, .int .i64 a.stamp]) (.agg #[.int .i64 b.id, .int .i64 b.stamp])).run Try.prog W = .ok (.bool true) W := fun W => by rw [neqDesc, decide_eq_false hq]; rfl
          have HQ := Lib.hid hq
          clear hq
          go_wp2
          go_quiet (fail)
          go_wp2
          go_ret
          exact ⟨ret_bool (decide_eq_false (ne_of_get HA.out HB.out HQ.out)).symm, _, World.drewN_drewN _ _ _⟩
      · have hk' : k = l.length := by omega
        go_wp2
        go_ret
        have hfin : l = m := by
          have := ht.out
          rwa [hk', List.take_length, HN.out, List.take_length] at this
        exact ⟨ret_bool (decide_eq_true hfin).symm, _, rfl⟩
  · have h0 : ((l.length : Int) != (m.length : Int)) = true := by simp; omega
    have HN := Lib.hid hne
    clear hne
    go_enter Try.func47, Try.ntmps47
    go_wp2
    go_ret
    exact ⟨ret_bool (decide_eq_false (fun h => HN.out (by rw [h]))).symm, 0, rfl⟩

set_option maxRecDepth 100000 in
set_option maxHeartbeats 400000 in
theorem ref14_Same (x y : LX PTimer) (w : World) (hx : x.ok w w.heap.size PTimer.cells) (hy : y.ok w w.heap.size PTimer.cells) :
    Calls Try.prog 28 #[.slice x.A x.l.length x.c, .slice y.A y.l.length y.c] w fun e w' => e = .returned (.bool (decide (x.l = y.l))) ∧ ∃ j, w' = w.drewN j := by
  obtain ⟨l, A, c⟩ := x
  obtain ⟨m, B, d⟩ := y
  obtain ⟨hx, hx1, hx2⟩ := hx
  obtain ⟨hy, hy1, hy2⟩ := hy
  dsimp only at *
  unfold maxLen at hx2 hy2
  have HX := Lib.hid hx
  have HY := Lib.hid hy
  clear hx hy
  by_cases hne : l.length = m.length
  · have h0 : ((l.length : Int) != (m.length : Int)) = false := by simp [hne]
    have HN := Lib.hid hne
    clear hne
    go_enter Try.func28, Try.ntmps28
    go_wp2
    go_loopw [5] (fun i wr => ∃ k : Nat, k ≤ l.length ∧ i = .int .i64 k ∧ Hid (l.take k = m.take k) ∧ ∃ j, wr = w.drewN j) (fun i _ => l.length - (intOf i).toNat)
    case atStart => exact ⟨0, Nat.zero_le _, rfl, rfl, 0, rfl⟩
    case round =>
      obtain ⟨k, hk, rfl, ht, j, rfl⟩ := hrel
      by_cases hlt : k < l.length
      · obtain ⟨a, ha⟩ : ∃ a, l[k]? = some a := ⟨_, List.getElem?_eq_getElem hlt⟩
        obtain ⟨b, hb⟩ : ∃ b, m[k]? = some b := ⟨_, List.getElem?_eq_getElem (by have := HN.out; omega)⟩
        obtain ⟨b1, o1, rfl, hb1, r1⟩ := Sl.row (size := 2) (fun _ => rfl) HX.out ha
        obtain ⟨b2, o2, rfl, hb2, r2⟩ := Sl.row (size := 2) (fun _ => rfl) HY.out hb
        have g0 := r1 0 _ rfl
        have g1 := r1 1 _ rfl
        have h0 := r2 0 _ rfl
        have h1 := r2 1 _ rfl
        simp only [Nat.add_zero] at g0 g1 h0 h1
        have HA := Lib.hid ha
        have HB := Lib.hid hb
        clear ha hb r1 r2
        have hl : (k:Int) < (l.length : Int) := by omega
        have hm : (k:Int) < (m.length : Int) := by have := HN.out; omega
        by_cases q0 : a.at_ = b.at_
        · have e0 : ((a.at_ : Int) != (b.at_ : Int)) = false := by rw [bne_eq_false_iff_eq]; omega
          by_cases q1 : a.number = b.number
          · have e1 : ((a.number : Int) != (b.number : Int)) = false := by rw [bne_eq_false_iff_eq]; omega
            have HQ := Lib.hid (show a = b by cases a; cases b; simp_all)
            clear q0 q1
            go_wp2
            go_quiet (fail)
            go_wp2
            go_roundw
            case rel => exact ⟨k + 1, by omega, by go_num, take_eq_succ HA.out HB.out HQ.out ht, _, rfl⟩
            case measure => simp [intOf]; omega
          · have e1 : ((a.number : Int) != (b.number : Int)) = true := by rw [bne_iff_ne]; omega
            have HQ := Lib.hid (show a ≠ b by rintro rfl; exact q1 rfl)
            clear q0 q1
            go_wp2
            go_quiet (fail)
            go_wp2
            go_ret
            exact ⟨ret_bool (decide_eq_false (ne_of_get HA.out HB.out HQ.out)).symm, _, World.drewN_drewN _ _ _⟩
        · have e0 : ((a.at_ : Int) != (b.at_ : Int)) = true := by rw [bne_iff_ne]; omega
          have HQ := Lib.hid (show a ≠ b by rintro rfl; exact q0 rfl)
          clear q0
          go_wp2
          go_quiet (fail)
          go_wp2
          go_ret
          exact ⟨ret_bool (decide_eq_false (ne_of_get HA.out HB.out HQ.out)).symm, _, World.drewN_drewN _ _ _⟩
      · have hk' : k = l.length := by omega
        go_wp2
        go_ret
        have hfin : l = m := by
          have := ht.out
          rwa [hk', List.take_length, HN.out, List.take_length] at this
        exact ⟨ret_bool (decide_eq_true hfin).symm, _, rfl⟩
  · have h0 : ((l.length : Int) != (m.length : Int)) = true := by simp; omega
    have HN := Lib.hid hne
    clear hne
    go_enter Try.func28, Try.ntmps28
    go_wp2
    go_ret
    exact ⟨ret_bool (decide_eq_false (fun h => HN.out (by rw [h]))).symm, 0, rfl⟩

end Go.Proofs.Ytnlhpdlnbcdfjaa
