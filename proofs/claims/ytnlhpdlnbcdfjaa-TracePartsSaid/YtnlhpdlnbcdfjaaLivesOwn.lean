/- trace.Lives. -/
import Derived.Test.YtnlhpdlnbcdfjaaLivesRef
namespace Go.Proofs.Ytnlhpdlnbcdfjaa
open Go.RowKit Go.Hx

theorem keep_no' {node : Int} {x : PEvent} (h : ¬keep node x = true) : (x.kind == 1) = true ∨ (x.kind == 1) = false ∧ ((x.kind == 5) = true ∨ (x.kind == 5) = false ∧ ((x.kind == 6) = true ∨ (x.kind == 6) = false ∧ (x.node == node) = false)) := by
  unfold keep at h
  cases h0 : (x.node == node) <;> cases h1 : (x.kind == 1) <;> cases h5 : (x.kind == 5) <;> cases h6 : (x.kind == 6) <;> simp_all

def Inv (m : List PEvent) (i f : Nat) (o : List (List PEvent)) : Prop := (i < m.length → (m.take (i + 1)).foldl cut ([], []) = (o, (m.take (i + 1)).drop f)) ∧ (i = m.length → fin (m.foldl cut ([], [])) = o)
theorem inv_zero (m : List PEvent) : Inv m 0 0 [] := by
  refine ⟨fun h => ?_, fun h => ?_⟩
  · cases m with
    | nil => simp at h
    | cons x m => simp [cut]
  · have : m = [] := List.eq_nil_of_length_eq_zero h.symm
    subst this
    rfl
theorem inv_cut {m : List PEvent} {i f : Nat} {o : List (List PEvent)} (h : Inv m i f o) (hi : i < m.length) (hf : f ≤ i) (hy : i + 1 = m.length ∨ ∃ y, m[i + 1]? = some y ∧ y.kind = 7) : Inv m (i + 1) (i + 1) (o ++ [(m.take (i + 1)).drop f]) := by
  have h1 := h.1 hi
  have hne : (m.take (i + 1)).drop f ≠ [] := by
    intro he
    have := congrArg List.length he
    simp at this
    omega
  refine ⟨fun hl => ?_, fun hl => ?_⟩
  · rcases hy with hy | ⟨y, hy, h7⟩
    · omega
    · rw [take_snoc hy, List.foldl_append, h1]
      simp only [List.foldl_cons, List.foldl_nil]
      rw [cut_push _ _ _ ⟨h7, hne⟩, List.drop_append_of_le_length (by rw [List.length_take]; omega), show (m.take (i + 1)).drop (i + 1) = [] from List.drop_eq_nil_of_le (by rw [List.length_take]; omega)]
      rfl
  · rw [List.take_of_length_le (Nat.le_of_eq hl.symm)] at h1 hne ⊢
    rw [h1]
    exact if_neg hne
theorem inv_no {m : List PEvent} {i f : Nat} {o : List (List PEvent)} {y : PEvent} (h : Inv m i f o) (hi : i < m.length) (hf : f ≤ i) (hy : m[i + 1]? = some y) (h7 : y.kind ≠ 7) : Inv m (i + 1) f o := by
  have h1 := h.1 hi
  have hlt : i + 1 < m.length := (List.getElem?_eq_some_iff.1 hy).1
  refine ⟨fun hl => ?_, fun hl => by omega⟩
  rw [take_snoc hy, List.foldl_append, h1]
  simp only [List.foldl_cons, List.foldl_nil]
  rw [cut_add _ _ _ (fun h => h7 h.1), List.drop_append_of_le_length (by rw [List.length_take]; omega)]

set_option maxRecDepth 100000 in
set_option maxHeartbeats 1000000 in
theorem trace_Lives (A : Option Addr) (c : Nat) (l : List PEvent) (node : Int) (w : World) (hn : l.length ≤ 1000000) (hx : Sl w w.heap.size PEvent.cells A l) :
    Calls Try.prog 11 #[.slice A l.length c, .int .i64 node] w fun e w' => ∃ v, e = .returned v ∧ ∃ Ls, LivesAt w' w.heap.size v (.slice none 0 0) Ls [] ∧ Ls.map (·.l) = lives l node ∧ Below w.heap.size w w' := by
  have HX := Lib.hid hx
  clear hx
  go_enter Try.func11, Try.ntmps11
  go_wp2
  go_loopw [5, 12] (fun v i wr => ∃ k : Nat, k ≤ l.length ∧ i = .int .i64 k ∧ OwnE wr w.heap.size v ((l.take k).filter (keep node)) ∧ Below w.heap.size w wr) (fun _ i _ => l.length - (intOf i).toNat)
  case atStart => exact ⟨0, Nat.zero_le _, rfl, Own.nil _ _ _ _ _, Below.refl _ _⟩
  case round =>
    obtain ⟨k, hk, rfl, hown, hbw⟩ := hrel
    by_cases hlt : k < l.length
    · obtain ⟨x, hx⟩ : ∃ x, l[k]? = some x := ⟨_, List.getElem?_eq_getElem hlt⟩
      obtain ⟨b, off, rfl, hb, g0, g1, g2, g3, g4⟩ := Sl.at5 HX.out hx
      have HXX := Lib.hid hx
      clear hx
      rw [← hbw.cell hb] at g0 g1 g2 g3 g4
      have hl : (k:Int) < (l.length : Int) := by omega
      have hle := filter_take_le l k (keep node)
      by_cases hkeep : keep node x = true
      · obtain ⟨e0, e1, e5, e6⟩ := keep_yes hkeep
        have HK := Lib.hid hkeep
        clear hkeep
        go_wp2_with (at_builtin; go_must (refine app_one elEv rfl (.tmp 26) (.tmp 28) rfl (wr.alloc _) w.heap.size PEvent.cells _ _ x rfl (hown.alloc _) _ 1 rfl (by simp) rfl rfl (by omega) (by simp [maxLen]; omega) (by have := hbw.size; simp; omega) ?_); intro v' w1 hown' hgrow hat)
        go_roundw
        case rel => exact ⟨k + 1, by omega, by go_num, by rw [filter_take_yes HXX.out HK.out]; exact hown', Own.below (hown.alloc _) (hbw.alloc hbw.size _) (hgrow) (Nat.le_refl _) (by have := hbw.size; simp; omega)⟩
        case measure => simp [intOf]; omega
      · have HK := Lib.hid (by simpa using hkeep : keep node x = false)
        rcases keep_no' hkeep with e1 | ⟨e1, e5 | ⟨e5, e6 | ⟨e6, e0⟩⟩⟩
        all_goals clear hkeep
        all_goals go_wp2
        all_goals go_roundw
        case rel => exact ⟨k + 1, by omega, by go_num, by rw [filter_take_no HXX.out HK.out]; exact hown.alloc _, hbw.alloc hbw.size _⟩
        case measure => simp [intOf]; omega
        case rel => exact ⟨k + 1, by omega, by go_num, by rw [filter_take_no HXX.out HK.out]; exact hown.alloc _, hbw.alloc hbw.size _⟩
        case measure => simp [intOf]; omega
        case rel => exact ⟨k + 1, by omega, by go_num, by rw [filter_take_no HXX.out HK.out]; exact hown.alloc _, hbw.alloc hbw.size _⟩
        case measure => simp [intOf]; omega
        case rel => exact ⟨k + 1, by omega, by go_num, by rw [filter_take_no HXX.out HK.out]; exact hown.alloc _, hbw.alloc hbw.size _⟩
        case measure => simp [intOf]; omega
    · have hk' : k = l.length := by omega
      subst hk'
      have hle := filter_take_le l l.length (keep node)
      rw [List.take_length] at hown hle
      generalize hm : l.filter (keep node) = m at hown hle
      obtain ⟨A1, c1, rfl, hok, hc1, hc2⟩ := hown.form
      dsimp only at hok hc1 hc2
      have HM := Lib.hid hm
      have HO := Lib.hid hok
      clear hm hok
      go_wp2
      go_loopw [4, 8, 33] (fun vo vf vi W => ∃ i f : Nat, i ≤ m.length ∧ f ≤ i ∧ vi = .int .i64 i ∧ vf = .int .i64 f ∧ ∃ Ls, Hid (Inv m i f (Ls.map (·.l))) ∧ LivesAt W w.heap.size vo (.slice none 0 0) Ls [] ∧ OwnE W w.heap.size (.slice A1 m.length c1) m ∧ Ls.length ≤ i ∧ Below w.heap.size w W) (fun _ _ i _ => m.length - (intOf i).toNat)
      case atStart => exact ⟨0, 0, Nat.zero_le _, Nat.le_refl _, rfl, rfl, [], Lib.hid (inv_zero m), livesAt_nil _ _, hown, Nat.le_refl _, hbw⟩
      case round =>
        clear hown hbw HO hc1 hc2
        obtain ⟨i, f, hi, hf, rfl, rfl, Ls, hinv, hat, hown, hLs, hbw⟩ := hrel
        obtain ⟨A2, c2, hv, hok, hc1, hc2⟩ := hown.form
        cases hv
        dsimp only at hok hc1 hc2
        have HO := Lib.hid hok
        clear hok
        by_cases hlt : i < m.length
        · have hl : (i:Int) < (m.length : Int) := by omega
          have HLT := Lib.hid hlt
          obtain ⟨b, off, hA, hb, hrow⟩ := HO.out.resolve_left (fun h => by rw [h] at hlt; simp at hlt)
          have hs := hbw.size
          obtain ⟨ys, hys⟩ : ∃ ys, ys = (m.take (i + 1)).drop f := ⟨_, rfl⟩
          have HYL := Lib.hid (show ys.length = i + 1 - f by rw [hys, List.length_drop, List.length_take]; omega)
          have HYS := Lib.hid hys
          clear hys
          by_cases hend : i + 1 = m.length
          · have e1 : ((i:Int) + 1 == (m.length : Int)) = true := by simp; omega
            have HY : Hid (i + 1 = m.length ∨ ∃ y, m[i + 1]? = some y ∧ y.kind = 7) := Lib.hid (.inl hend)
            subst hA
            go_wp2_with (first
              | (at_builtin; (refine app_part elEv rfl (.const (.slice none 0 0)) (.tmp 57) rfl wr w.heap.size PEvent.cells _ [] ys rfl (Own.nil _ _ _ _ _) _ _ _ rfl (by have := HYL.out; omega) (by rw [HYS.out]; exact Sl.part (size := 5) (enc := PEvent.cells) (fun _ => rfl) hb hrow f (i + 1)) (fun _ => rfl) (fun _ => rfl) (by have := HYL.out; rw [List.length_nil]; omega) (by have := HYL.out; rw [List.length_nil]; unfold maxLen; omega) (by omega) ?_); intro v1 w1 hown1 hgrow1 hnew1; rw [List.nil_append] at hown1; obtain ⟨A3, c3, rfl, hok3⟩ := hown1.form; have hat1 := hat.grow hgrow1 rfl; have hs1 := hgrow1.size)
              | (at_builtin; (refine app_one elLives rfl (.tmp 50) (.tmp 59) rfl w1 w.heap.size cL _ _ ⟨ys, A3, c3⟩ rfl hat1.outs _ 1 rfl (by simp) rfl rfl (by omega) (by unfold maxLen; omega) (by omega) ?_); intro v2 w2 hown2 hgrow2 hnew2))
            go_roundw
            case rel =>
              have hown1' : OwnE w1 w.heap.size (.slice (some ⟨b, off, none⟩) m.length c1) m := hown.kept (row := none) hgrow1 (.inr (show (some b : Option Nat) ≠ none from fun h => nomatch h))
              have hp := LivesAt.push ⟨ys, A3, c3⟩ hown1 hat1.outs (fun L hL => (hat1.els L hL).1) hown2 hgrow2
              refine ⟨i + 1, i + 1, by omega, Nat.le_refl _, by go_num, by go_num, _, ?_, hp, hown1'.kept hgrow2 (own_type (L := ⟨m, _, c1⟩) hown1' hat1.outs), by simp; omega, Own.below hat1.outs (Own.below hat.run hbw hgrow1 (Nat.le_refl _) (by omega)) hgrow2 (Nat.le_refl _) (by omega)⟩
              rw [List.map_append, HYS.out]
              exact Lib.hid (inv_cut hinv.out HLT.out hf HY.out)
            case measure => simp [intOf]; omega
          · obtain ⟨y, hy⟩ : ∃ y, m[i + 1]? = some y := ⟨_, List.getElem?_eq_getElem (by omega)⟩
            obtain ⟨b', off', hA', _, _, g1, _⟩ := Sl.at5 HO.out hy
            have e1 : ((i:Int) + 1 == (m.length : Int)) = false := by simp; omega
            have hl1 : (i:Int) + 1 < (m.length : Int) := by omega
            rw [hA] at hA'
            subst hA
            cases hA'
            have HYY := Lib.hid hy
            clear hy
            by_cases h7 : (y.kind == 7) = true
            · have HY : Hid (i + 1 = m.length ∨ ∃ y, m[i + 1]? = some y ∧ y.kind = 7) := Lib.hid (.inr ⟨y, HYY.out, by simpa using h7⟩)
              go_wp2_with (first
                | (at_builtin; (refine app_part elEv rfl (.const (.slice none 0 0)) (.tmp 57) rfl wr w.heap.size PEvent.cells _ [] ys rfl (Own.nil _ _ _ _ _) _ _ _ rfl (by have := HYL.out; omega) (by rw [HYS.out]; exact Sl.part (size := 5) (enc := PEvent.cells) (fun _ => rfl) hb hrow f (i + 1)) (fun _ => rfl) (fun _ => rfl) (by have := HYL.out; rw [List.length_nil]; omega) (by have := HYL.out; rw [List.length_nil]; unfold maxLen; omega) (by omega) ?_); intro v1 w1 hown1 hgrow1 hnew1; rw [List.nil_append] at hown1; obtain ⟨A3, c3, rfl, hok3⟩ := hown1.form; have hat1 := hat.grow hgrow1 rfl; have hs1 := hgrow1.size)
                | (at_builtin; (refine app_one elLives rfl (.tmp 50) (.tmp 59) rfl w1 w.heap.size cL _ _ ⟨ys, A3, c3⟩ rfl hat1.outs _ 1 rfl (by simp) rfl rfl (by omega) (by unfold maxLen; omega) (by omega) ?_); intro v2 w2 hown2 hgrow2 hnew2))
              go_roundw
              case rel =>
                have hown1' : OwnE w1 w.heap.size (.slice (some ⟨b, off, none⟩) m.length c1) m := hown.kept (row := none) hgrow1 (.inr (show (some b : Option Nat) ≠ none from fun h => nomatch h))
                have hp := LivesAt.push ⟨ys, A3, c3⟩ hown1 hat1.outs (fun L hL => (hat1.els L hL).1) hown2 hgrow2
                refine ⟨i + 1, i + 1, by omega, Nat.le_refl _, by go_num, by go_num, _, ?_, hp, hown1'.kept hgrow2 (own_type (L := ⟨m, _, c1⟩) hown1' hat1.outs), by simp; omega, Own.below hat1.outs (Own.below hat.run hbw hgrow1 (Nat.le_refl _) (by omega)) hgrow2 (Nat.le_refl _) (by omega)⟩
                rw [List.map_append, HYS.out]
                exact Lib.hid (inv_cut hinv.out HLT.out hf HY.out)
              case measure => simp [intOf]; omega
            · have h7' : (y.kind == 7) = false := by simpa using h7
              have HY := Lib.hid (show y.kind ≠ 7 by simpa using h7)
              clear h7
              go_wp2
              go_roundw
              case rel => exact ⟨i + 1, f, by omega, by omega, by go_num, rfl, Ls, Lib.hid (inv_no hinv.out HLT.out hf HYY.out HY.out), hat, hown, by omega, hbw⟩
              case measure => simp [intOf]; omega
        · have hi' : i = m.length := by omega
          go_wp2
          go_ret
          exact ⟨_, rfl, Ls, hat, by rw [← hinv.out.2 hi', lives, HM.out], hbw⟩
end Go.Proofs.Ytnlhpdlnbcdfjaa
