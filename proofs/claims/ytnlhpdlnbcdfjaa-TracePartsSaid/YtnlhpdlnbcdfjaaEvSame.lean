/- Lists of events compared. Printed by gen_same.py. -/
import Derived.Test.YtnlhpdlnbcdfjaaRows
import Derived.Test.YtnlhpdlnbcdfjaaData
namespace Go.Proofs.Ytnlhpdlnbcdfjaa
open Go.RowKit Go.Hx
theorem stoodEvent : Try.prog.stoodInHeld 56 = false := by kernel_rfl
theorem underEvent : Try.prog.underlying 56 = some (.struct (Try.prog.fieldsOf 56)) := by kernel_rfl
theorem eqAsEvent (w : World) (x y : PEvent) : (Op.equalIn 10000 56 (.agg #[.int .i64 x.step, .int .u8 x.kind, .int .i64 x.node, .int .i64 x.epoch, .int .i64 x.number]) (.agg #[.int .i64 y.step, .int .u8 y.kind, .int .i64 y.node, .int .i64 y.epoch, .int .i64 y.number])).run Try.prog w = .ok (decide (x = y)) w := by
  rw [show (10000 : Nat) = 9999 + 1 from rfl, run_equalIn_struct w 9999 56 _ _ underEvent stoodEvent]
  simp only [Program.fieldsOf, Try.underlying56]
  simp [go_sem, Try.underlying3, Try.underlying5]
  obtain ⟨x0, x1, x2, x3, x4⟩ := x
  obtain ⟨y0, y1, y2, y3, y4⟩ := y
  simp only [PEvent.mk.injEq]
  repeat' split
  all_goals simp_all
theorem neqEvent (w : World) (x y : PEvent) : (binOp .neq 56 (.agg #[.int .i64 x.step, .int .u8 x.kind, .int .i64 x.node, .int .i64 x.epoch, .int .i64 x.number]) (.agg #[.int .i64 y.step, .int .u8 y.kind, .int .i64 y.node, .int .i64 y.epoch, .int .i64 y.number])).run Try.prog w = .ok (.bool (!decide (x = y))) w := by
  rw [run_neq_struct, eqAsEvent]; rfl
theorem eqlEvent (w : World) (x y : PEvent) : (binOp .eql 56 (.agg #[.int .i64 x.step, .int .u8 x.kind, .int .i64 x.node, .int .i64 x.epoch, .int .i64 x.number]) (.agg #[.int .i64 y.step, .int .u8 y.kind, .int .i64 y.node, .int .i64 y.epoch, .int .i64 y.number])).run Try.prog w = .ok (.bool (decide (x = y))) w := by
  rw [run_eql_struct, eqAsEvent]; rfl


set_option maxRecDepth 100000 in
set_option maxHeartbeats 400000 in
theorem ref31_Same (x y : LX PEvent) (w : World) (hx : x.ok w w.heap.size PEvent.cells) (hy : y.ok w w.heap.size PEvent.cells) :
    Calls Try.prog 13 #[.slice x.A x.l.length x.c, .slice y.A y.l.length y.c] w fun e w' => e = .returned (.bool (decide (x.l = y.l))) ∧ ∃ j, w' = w.drewN j := by
  obtain ⟨l, A, c⟩ := x
  obtain ⟨m, B, d⟩ := y
  obtain ⟨hx, hx1, hx2⟩ := hx
  obtain ⟨hy, hy1, hy2⟩ := hy
  dsimp only at *
  unfold maxLen at hx2 hy2
  have HX := Lib.hid hx
  have HY := Lib.hid hy
  clear hx hy
  by_cases hne : l.length = m.length
  · have h0 : ((l.length : Int) != (m.length : Int)) = false := by simp [hne]
    have HN := Lib.hid hne
    clear hne
    go_enter Try.func13, Try.ntmps13
    go_wp2
    go_loopw [5] (fun i wr => ∃ k : Nat, k ≤ l.length ∧ i = .int .i64 k ∧ Hid (l.take k = m.take k) ∧ ∃ j, wr = w.drewN j) (fun i _ => l.length - (intOf i).toNat)
    case atStart => exact ⟨0, Nat.zero_le _, rfl, rfl, 0, rfl⟩
    case round =>
      obtain ⟨k, hk, rfl, ht, j, rfl⟩ := hrel
      by_cases hlt : k < l.length
      · obtain ⟨a, ha⟩ : ∃ a, l[k]? = some a := ⟨_, List.getElem?_eq_getElem hlt⟩
        obtain ⟨b, hb⟩ : ∃ b, m[k]? = some b := ⟨_, List.getElem?_eq_getElem (by have := HN.out; omega)⟩
        obtain ⟨b1, o1, rfl, hb1, r1⟩ := Sl.row (size := 5) (fun _ => rfl) HX.out ha
        obtain ⟨b2, o2, rfl, hb2, r2⟩ := Sl.row (size := 5) (fun _ => rfl) HY.out hb
        have g0 := r1 0 _ rfl
        have g1 := r1 1 _ rfl
        have g2 := r1 2 _ rfl
        have g3 := r1 3 _ rfl
        have g4 := r1 4 _ rfl
        have h0 := r2 0 _ rfl
        have h1 := r2 1 _ rfl
        have h2 := r2 2 _ rfl
        have h3 := r2 3 _ rfl
        have h4 := r2 4 _ rfl
        simp only [Nat.add_zero] at g0 g1 g2 g3 g4 h0 h1 h2 h3 h4
        have HA := Lib.hid ha
        have HB := Lib.hid hb
        clear ha hb r1 r2
        have hl : (k:Int) < (l.length : Int) := by omega
        have hm : (k:Int) < (m.length : Int) := by have := HN.out; omega
        by_cases hq : a = b
        · have e1 : ∀ W, (binOp .neq 56 (.agg #[.int .i64 a.step, .int .u8 a.kind, .int .i64 a.node, .int .i64 a.epoch, .int .i64 a.number]) (.agg #[.int .i64 b.step, .int .u8 b.kind, .int .i64 b.node, .int .i64 b.epoch, .int .i64 b.number])).run Try.prog W = .ok (.bool false) W := fun W => by rw [neqEvent, decide_eq_true hq]; rfl
          have HQ := Lib.hid hq
          clear hq
          go_wp2
          go_quiet (fail)
          go_wp2
          go_roundw
          case rel => exact ⟨k + 1, by omega, by go_num, take_eq_succ HA.out HB.out HQ.out ht, _, rfl⟩
          case measure => simp [intOf]; omega
        · have e1 : ∀ W, (binOp .neq 56 (.agg #[.int .i64 a.step, .int .u8 a.kind, .int .i64 a.node, .int .i64 a.epoch, .int .i64 a.number]) (.agg #[.int .i64 b.step, .int .u8 b.kind, .int .i64 b.node, .int .i64 b.epoch, .int .i64 b.number])).run Try.prog W = .ok (.bool true) W := fun W => by rw [neqEvent, decide_eq_false hq]; rfl
          have HQ := Lib.hid hq
          clear hq
          go_wp2
          go_quiet (fail)
          go_wp2
          go_ret
          exact ⟨ret_bool (decide_eq_false (ne_of_get HA.out HB.out HQ.out)).symm, _, World.drewN_drewN _ _ _⟩
      · have hk' : k = l.length := by omega
        go_wp2
        go_ret
        have hfin : l = m := by
          have := ht.out
          rwa [hk', List.take_length, HN.out, List.take_length] at this
        exact ⟨ret_bool (decide_eq_true hfin).symm, _, rfl⟩
  · have h0 : ((l.length : Int) != (m.length : Int)) = true := by simp; omega
    have HN := Lib.hid hne
    clear hne
    go_enter Try.func13, Try.ntmps13
    go_wp2
    go_ret
    exact ⟨ret_bool (decide_eq_false (fun h => HN.out (by rw [h]))).symm, 0, rfl⟩

end Go.Proofs.Ytnlhpdlnbcdfjaa
