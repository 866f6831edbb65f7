/- The reference's tales: what is the same. Printed by gen_ref32d.py. -/
import Derived.Test.YtgcbnagfdfgpnaaDoorRef32d
namespace Go.Proofs.YtgcbnagfdfgpnaaDoor
open Go.RowKit Go.Hx
theorem stoodConf : Tryd.prog.stoodInHeld 60 = false := by kernel_rfl
theorem underConf : Tryd.prog.underlying 60 = some (.struct (Tryd.prog.fieldsOf 60)) := by kernel_rfl
theorem eqAsConf (w : World) (x y : PConf) : (Op.equalIn 10000 60 (.agg #[.int .i64 x.nodes, .int .i64 x.len, .int .i64 x.patience, .int .i64 x.cap]) (.agg #[.int .i64 y.nodes, .int .i64 y.len, .int .i64 y.patience, .int .i64 y.cap])).run Tryd.prog w = .ok (decide (x = y)) w := by
  rw [show (10000 : Nat) = 9999 + 1 from rfl, run_equalIn_struct w 9999 60 _ _ underConf stoodConf]
  simp only [Program.fieldsOf, Tryd.underlying60]
  simp [go_sem, Tryd.underlying3]
  obtain ⟨x0, x1, x2, x3⟩ := x
  obtain ⟨y0, y1, y2, y3⟩ := y
  simp only [PConf.mk.injEq]
  repeat' split
  all_goals simp_all
theorem neqConf (w : World) (x y : PConf) : (binOp .neq 60 (.agg #[.int .i64 x.nodes, .int .i64 x.len, .int .i64 x.patience, .int .i64 x.cap]) (.agg #[.int .i64 y.nodes, .int .i64 y.len, .int .i64 y.patience, .int .i64 y.cap])).run Tryd.prog w = .ok (.bool (!decide (x = y))) w := by
  rw [run_neq_struct, eqAsConf]; rfl
theorem eqlConf (w : World) (x y : PConf) : (binOp .eql 60 (.agg #[.int .i64 x.nodes, .int .i64 x.len, .int .i64 x.patience, .int .i64 x.cap]) (.agg #[.int .i64 y.nodes, .int .i64 y.len, .int .i64 y.patience, .int .i64 y.cap])).run Tryd.prog w = .ok (.bool (decide (x = y))) w := by
  rw [run_eql_struct, eqAsConf]; rfl

set_option maxRecDepth 100000 in
set_option maxHeartbeats 400000 in
theorem ref_SameSteps (x y : LX PStep) (w : World) (hx : x.ok w w.heap.size PStep.cells) (hy : y.ok w w.heap.size PStep.cells) :
    Calls Tryd.prog 65 #[.slice x.A x.l.length x.c, .slice y.A y.l.length y.c] w fun e w' => e = .returned (.bool (decide (x.l = y.l))) ∧ ∃ j, w' = w.drewN j := by
  obtain ⟨l, A, c⟩ := x
  obtain ⟨m, B, d⟩ := y
  obtain ⟨hx, hx1, hx2⟩ := hx
  obtain ⟨hy, hy1, hy2⟩ := hy
  dsimp only at *
  unfold maxLen at hx2 hy2
  have HX := Lib.hid hx
  have HY := Lib.hid hy
  clear hx hy
  by_cases hne : l.length = m.length
  · have h0 : ((l.length : Int) != (m.length : Int)) = false := by simp [hne]
    have HN := Lib.hid hne
    clear hne
    go_enter Tryd.func65, Tryd.ntmps65
    go_wp2
    go_loopw [5] (fun i wr => ∃ k : Nat, k ≤ l.length ∧ i = .int .i64 k ∧ Hid (l.take k = m.take k) ∧ ∃ j, wr = w.drewN j) (fun i _ => l.length - (intOf i).toNat)
    case atStart => exact ⟨0, Nat.zero_le _, rfl, rfl, 0, rfl⟩
    case round =>
      obtain ⟨k, hk, rfl, ht, j, rfl⟩ := hrel
      by_cases hlt : k < l.length
      · obtain ⟨a, ha⟩ : ∃ a, l[k]? = some a := ⟨_, List.getElem?_eq_getElem hlt⟩
        obtain ⟨b, hb⟩ : ∃ b, m[k]? = some b := ⟨_, List.getElem?_eq_getElem (by have := HN.out; omega)⟩
        obtain ⟨b1, o1, rfl, hb1, r1⟩ := Sl.row (size := 5) (fun _ => rfl) HX.out ha
        obtain ⟨b2, o2, rfl, hb2, r2⟩ := Sl.row (size := 5) (fun _ => rfl) HY.out hb
        have g0 := r1 0 _ rfl
        have g1 := r1 1 _ rfl
        have g2 := r1 2 _ rfl
        have g3 := r1 3 _ rfl
        have g4 := r1 4 _ rfl
        have h0 := r2 0 _ rfl
        have h1 := r2 1 _ rfl
        have h2 := r2 2 _ rfl
        have h3 := r2 3 _ rfl
        have h4 := r2 4 _ rfl
        simp only [Nat.add_zero] at g0 g1 g2 g3 g4 h0 h1 h2 h3 h4
        have HA := Lib.hid ha
        have HB := Lib.hid hb
        clear ha hb r1 r2
        have hl : (k:Int) < (l.length : Int) := by omega
        have hm : (k:Int) < (m.length : Int) := by have := HN.out; omega
        by_cases hq : a = b
        · have e1 : ∀ W, (binOp .neq 115 (.agg #[.int .u8 a.op, .int .i64 a.id, .int .i64 a.arg, .int .i64 a.extra, .int .u64 a.draw]) (.agg #[.int .u8 b.op, .int .i64 b.id, .int .i64 b.arg, .int .i64 b.extra, .int .u64 b.draw])).run Tryd.prog W = .ok (.bool false) W := fun W => by rw [neqStep, decide_eq_true hq]; rfl
          have HQ := Lib.hid hq
          clear hq
          go_wp2
          go_quiet (fail)
          go_wp2
          go_roundw
          case rel => exact ⟨k + 1, by omega, by go_num, take_eq_succ HA.out HB.out HQ.out ht, _, rfl⟩
          case measure => simp [intOf]; omega
        · have e1 : ∀ W, (binOp .neq 115 (.agg #[.int .u8 a.op, .int .i64 a.id, .int .i64 a.arg, .int .i64 a.extra, .int .u64 a.draw]) (.agg #[.int .u8 b.op, .int .i64 b.id, .int .i64 b.arg, .int .i64 b.extra, .int .u64 b.draw])).run Tryd.prog W = .ok (.bool true) W := fun W => by rw [neqStep, decide_eq_false hq]; rfl
          have HQ := Lib.hid hq
          clear hq
          go_wp2
          go_quiet (fail)
          go_wp2
          go_ret
          exact ⟨ret_bool (decide_eq_false (ne_of_get HA.out HB.out HQ.out)).symm, _, World.drewN_drewN _ _ _⟩
      · have hk' : k = l.length := by omega
        go_wp2
        go_ret
        have hfin : l = m := by
          have := ht.out
          rwa [hk', List.take_length, HN.out, List.take_length] at this
        exact ⟨ret_bool (decide_eq_true hfin).symm, _, rfl⟩
  · have h0 : ((l.length : Int) != (m.length : Int)) = true := by simp; omega
    have HN := Lib.hid hne
    clear hne
    go_enter Tryd.func65, Tryd.ntmps65
    go_wp2
    go_ret
    exact ⟨ret_bool (decide_eq_false (fun h => HN.out (by rw [h]))).symm, 0, rfl⟩

set_option maxRecDepth 100000 in
set_option maxHeartbeats 2000000 in
theorem ref_SameT (x y : XTale) (w : World) (hx : x.ok w w.heap.size) (hy : y.ok w w.heap.size) (hd : x.data = y.data) :
    Calls Tryd.prog 26 #[.agg #[.int .i64 x.conf.nodes, .int .i64 x.conf.len, .int .i64 x.conf.patience, .int .i64 x.conf.cap, .slice x.values.A x.values.l.length x.values.c, .slice x.steps.A x.steps.l.length x.steps.c], .agg #[.int .i64 y.conf.nodes, .int .i64 y.conf.len, .int .i64 y.conf.patience, .int .i64 y.conf.cap, .slice y.values.A y.values.l.length y.values.c, .slice y.steps.A y.steps.l.length y.steps.c]] w fun e w' => e = .returned (.bool true) ∧ Ext w w' := by
  obtain ⟨cf, ⟨l, A, c⟩, ⟨sl, sA, sc⟩⟩ := x
  obtain ⟨cf2, ⟨l2, B, d⟩, ⟨sl2, sB, sd⟩⟩ := y
  obtain ⟨rfl, rfl, rfl⟩ : cf = cf2 ∧ l = l2 ∧ sl = sl2 := by
    have h1 := congrArg PTale.conf hd
    have h2 := congrArg PTale.values hd
    have h3 := congrArg PTale.steps hd
    exact ⟨h1, h2, h3⟩
  have HV := Lib.hid hx.values.1
  have HV2 := Lib.hid hy.values.1
  have HS := Lib.hid hx.steps
  have HS2 := Lib.hid hy.steps
  have HML : Hid (l.length ≤ 9223372036854775807) := Lib.hid (by have := Nat.le_trans hx.values.2.1 hx.values.2.2; unfold maxLen at this; exact this)
  clear hx hy hd
  dsimp only at *
  have HB1 : Hid (Blk ((w.alloc (.cells #[.int .i64 cf.nodes, .int .i64 cf.len, .int .i64 cf.patience, .int .i64 cf.cap, .slice A l.length c, .slice sA sl.length sc] 64)).alloc (.cells #[.int .i64 cf.nodes, .int .i64 cf.len, .int .i64 cf.patience, .int .i64 cf.cap, .slice B l.length d, .slice sB sl.length sd] 64)) w.heap.size 64 [.int .i64 cf.nodes, .int .i64 cf.len, .int .i64 cf.patience, .int .i64 cf.cap, .slice A l.length c, .slice sA sl.length sc]) := Lib.hid (Blk.alloc (Blk.new rfl) _)
  have HB2 : Hid (Blk ((w.alloc (.cells #[.int .i64 cf.nodes, .int .i64 cf.len, .int .i64 cf.patience, .int .i64 cf.cap, .slice A l.length c, .slice sA sl.length sc] 64)).alloc (.cells #[.int .i64 cf.nodes, .int .i64 cf.len, .int .i64 cf.patience, .int .i64 cf.cap, .slice B l.length d, .slice sB sl.length sd] 64)) (w.heap.size + 1) 64 [.int .i64 cf.nodes, .int .i64 cf.len, .int .i64 cf.patience, .int .i64 cf.cap, .slice B l.length d, .slice sB sl.length sd]) := Lib.hid (Blk.new (by simp))
  have HE0 : Hid (Ext w ((w.alloc (.cells #[.int .i64 cf.nodes, .int .i64 cf.len, .int .i64 cf.patience, .int .i64 cf.cap, .slice A l.length c, .slice sA sl.length sc] 64)).alloc (.cells #[.int .i64 cf.nodes, .int .i64 cf.len, .int .i64 cf.patience, .int .i64 cf.cap, .slice B l.length d, .slice sB sl.length sd] 64))) := Lib.hid (Ext.alloc' (Ext.alloc _ _) _)
  have hr1 : RowAt ((w.alloc (.cells #[.int .i64 cf.nodes, .int .i64 cf.len, .int .i64 cf.patience, .int .i64 cf.cap, .slice A l.length c, .slice sA sl.length sc] 64)).alloc (.cells #[.int .i64 cf.nodes, .int .i64 cf.len, .int .i64 cf.patience, .int .i64 cf.cap, .slice B l.length d, .slice sB sl.length sd] 64)) w.heap.size 0 [.int .i64 cf.nodes, .int .i64 cf.len, .int .i64 cf.patience, .int .i64 cf.cap] := HB1.out.part 0 4
  have hr2 : RowAt ((w.alloc (.cells #[.int .i64 cf.nodes, .int .i64 cf.len, .int .i64 cf.patience, .int .i64 cf.cap, .slice A l.length c, .slice sA sl.length sc] 64)).alloc (.cells #[.int .i64 cf.nodes, .int .i64 cf.len, .int .i64 cf.patience, .int .i64 cf.cap, .slice B l.length d, .slice sB sl.length sd] 64)) (w.heap.size + 1) 0 [.int .i64 cf.nodes, .int .i64 cf.len, .int .i64 cf.patience, .int .i64 cf.cap] := HB2.out.part 0 4
  have heq : ∀ W, (Op.equalIn 10000 60 (.agg #[.int .i64 cf.nodes, .int .i64 cf.len, .int .i64 cf.patience, .int .i64 cf.cap]) (.agg #[.int .i64 cf.nodes, .int .i64 cf.len, .int .i64 cf.patience, .int .i64 cf.cap])).run Tryd.prog W = .ok true W := fun W => by rw [eqAsConf W cf cf, decide_eq_true rfl]
  go_enter Tryd.func26, Tryd.ntmps26
  go_wp2_with (first | ((with_reducible refine wpl_load 60 (.tmp 6) ?_ ?_ (w.heap.size) 0 [.int .i64 cf.nodes, .int .i64 cf.len, .int .i64 cf.patience, .int .i64 cf.cap] ?_ ?_ ?_ ?_); (exact rfl); (exact rfl); (exact rfl); (exact aggConf); (exact hr1)) | ((with_reducible refine wpl_load 60 (.tmp 8) ?_ ?_ ((w.heap.size + 1)) 0 [.int .i64 cf.nodes, .int .i64 cf.len, .int .i64 cf.patience, .int .i64 cf.cap] ?_ ?_ ?_ ?_); (exact rfl); (exact rfl); (exact rfl); (exact aggConf); (exact hr2)) | fail)
  clear hr1 hr2 heq
  refine calls_nm fun W0 hW => ?_
  rw [← hW] at HB1 HB2 HE0
  clear hW
  refine (ref_SameSteps ⟨sl, sA, sc⟩ ⟨sl, sB, sd⟩ _ (HS.out.ext HE0.out) (HS2.out.ext HE0.out)).mono ?_
  dsimp only
  rw [decide_eq_true rfl]
  rintro e w1 ⟨rfl, j, hj⟩
  have HE1 : Hid (Ext w w1 ∧ Ext W0 w1) := Lib.hid (by rw [hj]; exact ⟨HE0.out.drewN' _, (Ext.refl _).drewN' _⟩)
  clear hj
  go_wp2_with fail
  go_loopw [5] (fun i W => ∃ (k : Nat), k ≤ l.length ∧ i = .int .i64 k ∧ Hid (Ext w W ∧ Ext W0 W)) (fun i _ => l.length - (intOf i).toNat)
  case atStart => exact ⟨0, by omega, rfl, HE1⟩
  case round =>
    obtain ⟨k, hk, rfl, HI⟩ := hrel
    clear HE1
    have hc4 : wr.cell? ⟨w.heap.size, 4, none⟩ = some (.slice A l.length c) := (HB1.out.ext HI.out.2).cell 4
    have hc5 : wr.cell? ⟨w.heap.size + 1, 4, none⟩ = some (.slice B l.length d) := (HB2.out.ext HI.out.2).cell 4
    by_cases hlt : k < l.length
    · obtain ⟨z, hz⟩ : ∃ z, l[k]? = some z := ⟨_, List.getElem?_eq_getElem hlt⟩
      obtain ⟨b1, o1, rfl, hb1, hrow⟩ := Sl.row (size := 1) (fun _ => rfl) HV.out hz
      obtain ⟨b2, o2, rfl, hb2, hrow2⟩ := Sl.row (size := 1) (fun _ => rfl) HV2.out hz
      have hc : wr.cell? ⟨b1, o1 + k, none⟩ = some (.int .i64 z) := by have := hrow.below HI.out.1.below hb1 0 _ rfl; simpa using this
      have hc' : wr.cell? ⟨b2, o2 + k, none⟩ = some (.int .i64 z) := by have := hrow2.below HI.out.1.below hb2 0 _ rfl; simpa using this
      have hki : (k : Int) < (l.length : Int) := by omega
      have hkm : l.length ≤ 9223372036854775807 := HML.out
      clear hz hb1 hrow hb2 hrow2
      go_wp2
      go_quiet (fail)
      go_wp2
      go_roundw
      case rel => exact ⟨k + 1, by omega, by go_num, Lib.hid ⟨HI.out.1.drewN' _, HI.out.2.drewN' _⟩⟩
      case measure => simp [intOf]; omega
    · have hki : ¬ (k : Int) < (l.length : Int) := by omega
      go_wp2_with fail
      go_ret
      exact ⟨rfl, HI.out.1⟩
end Go.Proofs.YtgcbnagfdfgpnaaDoor
