/- The reference answer: lives. -/
import Derived.Test.YtnlhpdlnbcdfjaaLives
namespace Go.Proofs.Ytnlhpdlnbcdfjaa
open Go.RowKit Go.Hx

theorem keep_no {node : Int} {x : PEvent} (h : ¬keep node x = true) : (x.node == node) = false ∨ (x.node == node) = true ∧ ((x.kind == 1) = true ∨ (x.kind == 1) = false ∧ ((x.kind == 5) = true ∨ (x.kind == 5) = false ∧ (x.kind == 6) = true)) := by
  unfold keep at h
  cases h0 : (x.node == node) <;> cases h1 : (x.kind == 1) <;> cases h5 : (x.kind == 5) <;> cases h6 : (x.kind == 6) <;> simp_all
theorem keep_yes {node : Int} {x : PEvent} (h : keep node x = true) : (x.node == node) = true ∧ (x.kind == 1) = false ∧ (x.kind == 5) = false ∧ (x.kind == 6) = false := by
  unfold keep at h
  cases h0 : (x.node == node) <;> cases h1 : (x.kind == 1) <;> cases h5 : (x.kind == 5) <;> cases h6 : (x.kind == 6) <;> simp_all

def stAt (node : Int) (l : List PEvent) (k : Nat) : List (List PEvent) × List PEvent := ((l.take k).filter (keep node)).foldl cut ([], [])
theorem stAt_no {node : Int} {l : List PEvent} {k : Nat} {x : PEvent} (hx : l[k]? = some x) (h : keep node x = false) : stAt node l (k + 1) = stAt node l k := by
  unfold stAt; rw [filter_take_no hx h]
theorem stAt_yes {node : Int} {l : List PEvent} {k : Nat} {x : PEvent} (hx : l[k]? = some x) (h : keep node x = true) : stAt node l (k + 1) = cut (stAt node l k) x := by
  unfold stAt; rw [filter_take_yes hx h, List.foldl_append]; rfl
theorem cut_len (l : List PEvent) : ∀ (s : List (List PEvent) × List PEvent), (l.foldl cut s).2.length ≤ s.2.length + l.length ∧ (l.foldl cut s).1.length ≤ s.1.length + l.length := by
  induction l with
  | nil => intro s; simp
  | cons x l ih =>
    intro s
    have := ih (cut s x)
    rw [List.foldl_cons]
    have h1 : (cut s x).2.length ≤ s.2.length + 1 := by
      unfold cut; split
      · simp
      · simp
    have h2 : (cut s x).1.length ≤ s.1.length + 1 := by
      unfold cut; split
      · simp
      · simp
    simp only [List.length_cons]
    omega
theorem stAt_len (node : Int) (l : List PEvent) (k : Nat) : (stAt node l k).2.length ≤ k ∧ (stAt node l k).1.length ≤ k := by
  have := cut_len ((l.take k).filter (keep node)) ([], [])
  have h2 := filter_take_le l k (keep node)
  unfold stAt
  simp only [List.length_nil] at this
  omega

theorem cut_add (s : List (List PEvent)) (run : List PEvent) (x : PEvent) (h : ¬(x.kind = 7 ∧ run ≠ [])) : cut (s, run) x = (s, run ++ [x]) := if_neg h
theorem cut_push (s : List (List PEvent)) (run : List PEvent) (x : PEvent) (h : x.kind = 7 ∧ run ≠ []) : cut (s, run) x = (s ++ [run], [x]) := if_pos h

set_option maxRecDepth 100000 in
set_option maxHeartbeats 1000000 in
theorem ref31_Lives (A : Option Addr) (c : Nat) (l : List PEvent) (node : Int) (w : World) (hn : l.length ≤ 1000000) (hx : Sl w w.heap.size PEvent.cells A l) :
    Calls Try.prog 12 #[.slice A l.length c, .int .i64 node] w fun e w' => ∃ v, e = .returned v ∧ ∃ Ls, LivesAt w' w.heap.size v (.slice none 0 0) Ls [] ∧ Ls.map (·.l) = lives l node ∧ Below w.heap.size w w' := by
  have HX := Lib.hid hx
  clear hx
  go_enter Try.func12, Try.ntmps12
  go_wp2
  go_loopw [5, 6, 7] (fun vo vr i wr => ∃ k : Nat, k ≤ l.length ∧ i = .int .i64 k ∧ ∃ Ls run, Hid (stAt node l k = (Ls.map (·.l), run)) ∧ LivesAt wr w.heap.size vo vr Ls run ∧ Below w.heap.size w wr) (fun _ _ i _ => l.length - (intOf i).toNat)
  case atStart => exact ⟨0, Nat.zero_le _, rfl, [], [], rfl, livesAt_nil _ _, Below.refl _ _⟩
  case round =>
    obtain ⟨k, hk, rfl, Ls, run, hst, hat, hbw⟩ := hrel
    have hlen := stAt_len node l k
    rw [hst.out] at hlen
    dsimp only at hlen
    rw [List.length_map] at hlen
    obtain ⟨A1, c1, rfl, hok1⟩ := hat.run.form
    by_cases hlt : k < l.length
    · obtain ⟨x, hx⟩ : ∃ x, l[k]? = some x := ⟨_, List.getElem?_eq_getElem hlt⟩
      obtain ⟨b, off, rfl, hb, f0, f1, f2, f3, f4⟩ := Sl.at5 HX.out hx
      have g0 := (hbw.cell (p := ⟨b, _, none⟩) hb).trans f0
      have g1 := (hbw.cell (p := ⟨b, _, none⟩) hb).trans f1
      have g2 := (hbw.cell (p := ⟨b, _, none⟩) hb).trans f2
      have g3 := (hbw.cell (p := ⟨b, _, none⟩) hb).trans f3
      have g4 := (hbw.cell (p := ⟨b, _, none⟩) hb).trans f4
      have HXX := Lib.hid hx
      clear hx
      have hl : (k:Int) < (l.length : Int) := by omega
      have hs := hbw.size
      by_cases hkeep : keep node x = true
      · obtain ⟨e0, e1, e5, e6⟩ := keep_yes hkeep
        have e0' : (x.node != node) = false := by simp only [bne, e0]; rfl
        have HK := Lib.hid hkeep
        clear hkeep
        by_cases h7 : (x.kind == 7) = true
        · by_cases hr : run.length = 0
          · have hr0 : ¬ (0:Int) < (run.length : Int) := by omega
            have HC := Lib.hid (show ¬(x.kind = 7 ∧ run ≠ []) from fun h => h.2 (List.eq_nil_of_length_eq_zero hr))
            clear hr f0 f1 f2 f3 f4
            go_wp2_with (at_builtin; go_must (refine app_one elEv rfl (.tmp 60) (.tmp 65) rfl wr w.heap.size PEvent.cells _ _ x rfl hat.run _ 1 rfl (by simp) rfl rfl (by omega) (by simp [maxLen]; omega) (by omega) ?_); intro v' w1 hown' hgrow hnew)
            go_roundw
            case rel => exact ⟨k + 1, by omega, by go_num, Ls, run ++ [x], by rw [stAt_yes HXX.out HK.out, hst.out, cut_add _ _ _ HC.out]; rfl, hat.add hown' hgrow hnew, Own.below hat.run hbw hgrow (Nat.le_refl _) (by omega)⟩
            case measure => simp [intOf]; omega
          · have hr0 : (0:Int) < (run.length : Int) := by omega
            have HC := Lib.hid (show x.kind = 7 ∧ run ≠ [] from ⟨by simpa using h7, fun h => hr (by rw [h]; rfl)⟩)
            clear hr
            go_wp2_with (first
              | (at_builtin; (refine app_one elLives rfl (.tmp 56) (.tmp 58) rfl wr w.heap.size cL _ _ ⟨run, A1, c1⟩ rfl hat.outs _ 1 rfl (by simp) rfl rfl (by omega) (by simp [maxLen]; omega) (by omega) ?_); intro vo' w1 howno hgrowo hnewo; have hb1 : Below w.heap.size w w1 := Own.below hat.outs hbw hgrowo (Nat.le_refl _) (by omega); have k0 := (hb1.cell (p := ⟨b, _, none⟩) hb).trans f0; have k1 := (hb1.cell (p := ⟨b, _, none⟩) hb).trans f1; have k2 := (hb1.cell (p := ⟨b, _, none⟩) hb).trans f2; have k3 := (hb1.cell (p := ⟨b, _, none⟩) hb).trans f3; have k4 := (hb1.cell (p := ⟨b, _, none⟩) hb).trans f4; have hs1 := hb1.size)
              | (at_builtin; (refine app_one elEv rfl (.tmp 60) (.tmp 65) rfl w1 w.heap.size PEvent.cells _ _ x rfl (Own.nil _ _ _ _ _) _ 1 rfl (by simp) rfl rfl (by simp) (by simp [maxLen]) (by omega) ?_); intro v' w2 hown' hgrow hnew))
            go_roundw
            case rel =>
              have hp := LivesAt.push ⟨run, A1, c1⟩ hat.run hat.outs (fun L hL => (hat.els L hL).1) howno hgrowo
              exact ⟨k + 1, by omega, by go_num, Ls ++ [⟨run, A1, c1⟩], [] ++ [x], by rw [stAt_yes HXX.out HK.out, hst.out, cut_push _ _ _ HC.out, List.map_append]; rfl, hp.add hown' hgrow hnew, Own.below hp.run hb1 hgrow (Nat.le_refl _) (by omega)⟩
            case measure => simp [intOf]; omega
        · have h7' : (x.kind == 7) = false := by simpa using h7
          have HC := Lib.hid (show ¬(x.kind = 7 ∧ run ≠ []) from fun h => h7 (by simpa using h.1))
          clear h7 f0 f1 f2 f3 f4
          go_wp2_with (at_builtin; go_must (refine app_one elEv rfl (.tmp 60) (.tmp 65) rfl wr w.heap.size PEvent.cells _ _ x rfl hat.run _ 1 rfl (by simp) rfl rfl (by omega) (by simp [maxLen]; omega) (by omega) ?_); intro v' w1 hown' hgrow hnew)
          go_roundw
          case rel => exact ⟨k + 1, by omega, by go_num, Ls, run ++ [x], by rw [stAt_yes HXX.out HK.out, hst.out, cut_add _ _ _ HC.out]; rfl, hat.add hown' hgrow hnew, Own.below hat.run hbw hgrow (Nat.le_refl _) (by omega)⟩
          case measure => simp [intOf]; omega
      · have HK := Lib.hid (by simpa using hkeep : keep node x = false)
        rcases keep_no hkeep with e0 | ⟨e0, e1 | ⟨e1, e5 | ⟨e5, e6⟩⟩⟩
        all_goals have e0' : (x.node != node) = !(x.node == node) := rfl
        all_goals rw [e0] at e0'
        all_goals clear hkeep f0 f1 f2 f3 f4
        all_goals go_wp2
        all_goals go_roundw
        case rel => exact ⟨k + 1, by omega, by go_num, Ls, run, by rw [stAt_no HXX.out HK.out]; exact hst, hat, hbw⟩
        case measure => simp [intOf]; omega
        case rel => exact ⟨k + 1, by omega, by go_num, Ls, run, by rw [stAt_no HXX.out HK.out]; exact hst, hat, hbw⟩
        case measure => simp [intOf]; omega
        case rel => exact ⟨k + 1, by omega, by go_num, Ls, run, by rw [stAt_no HXX.out HK.out]; exact hst, hat, hbw⟩
        case measure => simp [intOf]; omega
        case rel => exact ⟨k + 1, by omega, by go_num, Ls, run, by rw [stAt_no HXX.out HK.out]; exact hst, hat, hbw⟩
        case measure => simp [intOf]; omega
    · have hk' : k = l.length := by omega
      by_cases hr : run.length = 0
      · have hr0 : ¬ (0:Int) < (run.length : Int) := by omega
        have HC := Lib.hid (show run = [] from List.eq_nil_of_length_eq_zero hr)
        clear hr
        go_wp2
        go_ret
        refine ⟨_, rfl, Ls, ⟨hat.outs, Own.nil _ _ _ _ _, fun L hL => ⟨(hat.els L hL).1, .inl rfl⟩⟩, ?_, hbw⟩
        have := hst.out
        unfold lives
        unfold stAt at this
        rw [hk', List.take_length] at this
        rw [this, HC.out]
        simp [fin]
      · have hr0 : (0:Int) < (run.length : Int) := by omega
        have HC := Lib.hid (show run ≠ [] from fun h => hr (by rw [h]; rfl))
        clear hr
        have hs := hbw.size
        go_wp2_with (at_builtin; go_must (refine app_one elLives rfl (.tmp 70) (.tmp 72) rfl wr w.heap.size cL _ _ ⟨run, A1, c1⟩ rfl hat.outs _ 1 rfl (by simp) rfl rfl (by omega) (by simp [maxLen]; omega) (by omega) ?_); intro vo' w1 howno hgrowo hnewo)
        go_ret
        have hp := LivesAt.push ⟨run, A1, c1⟩ hat.run hat.outs (fun L hL => (hat.els L hL).1) howno hgrowo
        refine ⟨vo', rfl, Ls ++ [⟨run, A1, c1⟩], hp, ?_, Own.below hat.outs hbw hgrowo (Nat.le_refl _) (by omega)⟩
        have := hst.out
        unfold lives
        unfold stAt at this
        rw [hk', List.take_length] at this
        rw [this]
        simp [fin, HC.out]
end Go.Proofs.Ytnlhpdlnbcdfjaa
