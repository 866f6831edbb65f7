/- Events: lists of five-cell records: what trace.Of, trace.Lives and the reference answer. -/
import Derived.Test.YtnlhpdlnbcdfjaaRows
import Derived.Test.YtnlhpdlnbcdfjaaLib
import Derived.Test.YtnlhpdlnbcdfjaaData
import Derived.Test.YtnlhpdlnbcdfjaaMem
namespace Go.Proofs.Ytnlhpdlnbcdfjaa
open Go.RowKit Go.Hx

theorem Sl.at5 {w : World} {B : Nat} {A : Option Addr} {l : List PEvent} (h : Sl w B PEvent.cells A l) {k : Nat} {x : PEvent} (hx : l[k]? = some x) : ∃ b off, A = some ⟨b, off, none⟩ ∧ b < B ∧
   w.cell? ⟨b, off + k * 5, none⟩ = some (.int .i64 x.step) ∧ w.cell? ⟨b, off + k * 5 + 1, none⟩ = some (.int .u8 x.kind) ∧ w.cell? ⟨b, off + k * 5 + 2, none⟩ = some (.int .i64 x.node) ∧ w.cell? ⟨b, off + k * 5 + 3, none⟩ = some (.int .i64 x.epoch) ∧ w.cell? ⟨b, off + k * 5 + 4, none⟩ = some (.int .i64 x.number) := by
  obtain ⟨b, off, h1, h2, h3⟩ := h.row (size := 5) (fun _ => rfl) hx
  exact ⟨b, off, h1, h2, h3 0 _ rfl, h3 1 _ rfl, h3 2 _ rfl, h3 3 _ rfl, h3 4 _ rfl⟩

theorem elEv : ElTy Try.prog 50 56 5 40 := ElTy.mk' (z := .agg #[.int .i64 0, .int .u8 0, .int .i64 0, .int .i64 0, .int .i64 0]) Try.underlying50 (by kernel_rfl) rfl (by decide)

abbrev sel (kind node : Int) (x : PEvent) : Bool := x.kind == kind && x.node == node

set_option maxRecDepth 100000 in
set_option maxHeartbeats 400000 in
theorem trace_Of (A : Option Addr) (c : Nat) (l : List PEvent) (kind node : Int) (w : World) (hn : l.length ≤ 1000000) (hx : Sl w w.heap.size PEvent.cells A l) :
    Calls Try.prog 9 #[.slice A l.length c, .int .u8 kind, .int .i64 node] w fun e w' => ∃ v, e = .returned v ∧ Own w' w.heap.size 56 5 PEvent.cells v (l.filter (sel kind node)) ∧ Below w.heap.size w w' := by
  have HX := Lib.hid hx
  clear hx
  go_enter Try.func9, Try.ntmps9
  go_wp2
  go_loopw [6, 11] (fun v i wr => ∃ k : Nat, k ≤ l.length ∧ i = .int .i64 k ∧ Own wr w.heap.size 56 5 PEvent.cells v ((l.take k).filter (sel kind node)) ∧ Below w.heap.size w wr) (fun _ i _ => l.length - (intOf i).toNat)
  case atStart => exact ⟨0, Nat.zero_le _, rfl, Own.nil _ _ _ _ _, Below.refl _ _⟩
  case round =>
    obtain ⟨k, hk, rfl, hown, hbw⟩ := hrel
    by_cases hlt : k < l.length
    · obtain ⟨x, hx⟩ : ∃ x, l[k]? = some x := ⟨_, List.getElem?_eq_getElem hlt⟩
      obtain ⟨b, off, rfl, hb, g0, g1, g2, g3, g4⟩ := Sl.at5 HX.out hx
      have HXX := Lib.hid hx
      clear hx
      rw [← hbw.cell hb] at g0 g1 g2 g3 g4
      have hl : (k:Int) < (l.length : Int) := by omega
      have hle := filter_take_le l k (sel kind node)
      by_cases hq : x.kind = kind
      · by_cases hq2 : x.node = node
        · have e1 : (x.kind == kind) = true := by simpa using hq
          have e2 : (x.node == node) = true := by simpa using hq2
          have hs := Lib.hid (show sel kind node x = true by simp [sel, hq, hq2])
          clear hq hq2
          go_wp2_with (at_builtin; go_must (refine app_one elEv rfl (.tmp 25) (.tmp 27) rfl (wr.alloc _) w.heap.size PEvent.cells _ _ x rfl (hown.alloc _) _ 1 rfl (by simp) rfl rfl (by omega) (by simp [maxLen]; omega) (by have := hbw.size; simp; omega) ?_); intro v' w1 hown' hgrow hat)
          go_roundw
          case rel => exact ⟨k + 1, by omega, by go_num, by rw [filter_take_yes HXX.out hs.out]; exact hown', Own.below (hown.alloc _) (hbw.alloc hbw.size _) (hgrow) (Nat.le_refl _) (by have := hbw.size; simp; omega)⟩
          case measure => simp [intOf]; omega
        · have e1 : (x.kind == kind) = true := by simpa using hq
          have e2 : (x.node == node) = false := by simpa using hq2
          have hs := Lib.hid (show sel kind node x = false by simp [sel, hq2])
          clear hq hq2
          go_wp2
          go_roundw
          case rel => exact ⟨k + 1, by omega, by go_num, by rw [filter_take_no HXX.out hs.out]; exact hown.alloc _, hbw.alloc hbw.size _⟩
          case measure => simp [intOf]; omega
      · have e1 : (x.kind == kind) = false := by simpa using hq
        have hs := Lib.hid (show sel kind node x = false by simp [sel, hq])
        clear hq
        go_wp2
        go_roundw
        case rel => exact ⟨k + 1, by omega, by go_num, by rw [filter_take_no HXX.out hs.out]; exact hown.alloc _, hbw.alloc hbw.size _⟩
        case measure => simp [intOf]; omega
    · have : k = l.length := by omega
      subst this
      go_wp2
      go_ret
      exact ⟨_, rfl, by simpa using hown, hbw⟩

set_option maxRecDepth 100000 in
set_option maxHeartbeats 400000 in
theorem ref31_Of (A : Option Addr) (c : Nat) (l : List PEvent) (kind node : Int) (w : World) (hn : l.length ≤ 1000000) (hx : Sl w w.heap.size PEvent.cells A l) :
    Calls Try.prog 10 #[.slice A l.length c, .int .u8 kind, .int .i64 node] w fun e w' => ∃ v, e = .returned v ∧ Own w' w.heap.size 56 5 PEvent.cells v (l.filter (sel kind node)) ∧ Below w.heap.size w w' := by
  have HX := Lib.hid hx
  clear hx
  go_enter Try.func10, Try.ntmps10
  go_wp2
  go_loopw [7, 8] (fun v i wr => ∃ k : Nat, k ≤ l.length ∧ i = .int .i64 k ∧ Own wr w.heap.size 56 5 PEvent.cells v ((l.take k).filter (sel kind node)) ∧ Below w.heap.size w wr) (fun _ i _ => l.length - (intOf i).toNat)
  case atStart => exact ⟨0, Nat.zero_le _, rfl, Own.nil _ _ _ _ _, Below.refl _ _⟩
  case round =>
    obtain ⟨k, hk, rfl, hown, hbw⟩ := hrel
    by_cases hlt : k < l.length
    · obtain ⟨x, hx⟩ : ∃ x, l[k]? = some x := ⟨_, List.getElem?_eq_getElem hlt⟩
      obtain ⟨b, off, rfl, hb, g0, g1, g2, g3, g4⟩ := Sl.at5 HX.out hx
      have HXX := Lib.hid hx
      clear hx
      rw [← hbw.cell hb] at g0 g1 g2 g3 g4
      have hl : (k:Int) < (l.length : Int) := by omega
      have hle := filter_take_le l k (sel kind node)
      by_cases hq : x.kind = kind
      · by_cases hq2 : x.node = node
        · have e1 : (x.kind == kind) = true := by simpa using hq
          have e2 : (x.node == node) = true := by simpa using hq2
          have hs := Lib.hid (show sel kind node x = true by simp [sel, hq, hq2])
          clear hq hq2
          go_wp2_with (at_builtin; go_must (refine app_one elEv rfl (.tmp 31) (.tmp 36) rfl wr w.heap.size PEvent.cells _ _ x rfl hown _ 1 rfl (by simp) rfl rfl (by omega) (by simp [maxLen]; omega) (by have := hbw.size; omega) ?_); intro v' w1 hown' hgrow hat)
          go_roundw
          case rel => exact ⟨k + 1, by omega, by go_num, by rw [filter_take_yes HXX.out hs.out]; exact hown', Own.below hown hbw hgrow (Nat.le_refl _) (by have := hbw.size; omega)⟩
          case measure => simp [intOf]; omega
        · have e1 : (x.kind == kind) = true := by simpa using hq
          have e2 : (x.node == node) = false := by simpa using hq2
          have hs := Lib.hid (show sel kind node x = false by simp [sel, hq2])
          clear hq hq2
          go_wp2
          go_roundw
          case rel => exact ⟨k + 1, by omega, by go_num, by rw [filter_take_no HXX.out hs.out]; exact hown, hbw⟩
          case measure => simp [intOf]; omega
      · have e1 : (x.kind == kind) = false := by simpa using hq
        have hs := Lib.hid (show sel kind node x = false by simp [sel, hq])
        clear hq
        go_wp2
        go_roundw
        case rel => exact ⟨k + 1, by omega, by go_num, by rw [filter_take_no HXX.out hs.out]; exact hown, hbw⟩
        case measure => simp [intOf]; omega
    · have : k = l.length := by omega
      subst this
      go_wp2
      go_ret
      exact ⟨_, rfl, by simpa using hown, hbw⟩
end Go.Proofs.Ytnlhpdlnbcdfjaa
