/- Parts of a proof, joined: AskedD, JoinsD. -/
import Derived.Test.YtgcbnagfdfgpnaaDoorJoinD
section
namespace Go.Proofs.YtgcbnagfdfgpnaaDoor
open Go.RowKit Go.Hx
set_option maxRecDepth 100000 in
set_option maxHeartbeats 1000000 in
theorem spread_asked (n : Int) (m : LX PMeeting) (w : World) (hm : m.ok w w.heap.size PMeeting.cells) :
    Calls Tryd.prog 45 #[.int .i64 n, .slice m.A m.l.length m.c] w fun e w' => e = .returned (.int .i64 (askedP n m.l)) ∧ Ext w w' := by
  obtain ⟨l, A, c⟩ := m
  obtain ⟨hx, hx1, hx2⟩ := hm
  dsimp only at *
  unfold maxLen at hx2
  have HX := Lib.hid hx
  clear hx
  by_cases h2 : n < 2
  · have d2 : decide (n < 2) = true := decide_eq_true h2
    have HV : Hid (askedP n l = 2) := Lib.hid (by unfold askedP; rw [if_pos (.inl h2)])
    clear h2
    go_enter Tryd.func45, Tryd.ntmps45
    go_wp2_with fail
    go_ret
    exact ⟨by rw [HV.out] <;> rfl, Ext.refl _⟩
  · have d2 : decide (n < 2) = false := decide_eq_false h2
    by_cases h8 : 8 < n
    · have d8 : decide (8 < n) = true := decide_eq_true h8
      have HV : Hid (askedP n l = 2) := Lib.hid (by unfold askedP; rw [if_pos (.inr h8)])
      clear h2 h8
      go_enter Tryd.func45, Tryd.ntmps45
      go_wp2_with fail
      go_ret
      exact ⟨by rw [HV.out] <;> rfl, Ext.refl _⟩
    · have d8 : decide (8 < n) = false := decide_eq_false h8
      by_cases h64 : 64 < l.length
      · have d64 : decide ((64 : Int) < (l.length : Int)) = true := decide_eq_true (by omega)
        have HV : Hid (askedP n l = 4) := Lib.hid (by unfold askedP; rw [if_neg (by omega), if_pos h64])
        have h64i : (64 : Int) < (l.length : Int) := by omega
        clear h2 h8 h64
        go_enter Tryd.func45, Tryd.ntmps45
        go_wp2_with fail
        go_ret
        exact ⟨by rw [HV.out] <;> rfl, Ext.refl _⟩
      · have h64i : ¬ (64 : Int) < (l.length : Int) := by omega
        have d64 : decide ((64 : Int) < (l.length : Int)) = false := decide_eq_false (by omega)
        have HR : Hid (¬ (n < 2 ∨ 8 < n) ∧ ¬ 64 < l.length) := Lib.hid ⟨by omega, h64⟩
        clear h2 h8 h64
        go_enter Tryd.func45, Tryd.ntmps45
        go_wp2_with fail
        go_loopw [18] (fun i wr => ∃ k : Nat, k ≤ l.length ∧ i = .int .i64 k ∧ Hid ((∀ z ∈ l.take k, meetOk n z = true) ∧ Ext w wr)) (fun i _ => l.length - (intOf i).toNat)
        case atStart => exact ⟨0, Nat.zero_le _, rfl, Lib.hid ⟨by simp, Ext.refl _⟩⟩
        case round =>
          obtain ⟨k, hk, rfl, HI⟩ := hrel
          by_cases hlt : k < l.length
          · obtain ⟨z, hz⟩ : ∃ z, l[k]? = some z := ⟨_, List.getElem?_eq_getElem hlt⟩
            obtain ⟨b1, o1, rfl, hb1, r1⟩ := Sl.row (size := 2) (fun _ => rfl) (HX.out.below HI.out.2.below) hz
            have g0 := r1 0 _ rfl
            have g1 := r1 1 _ rfl
            simp only [Nat.add_zero] at g0 g1
            have HZ := Lib.hid hz
            clear hz r1
            have hl : (k : Int) < (l.length : Int) := by omega
            obtain ⟨za, zb⟩ := z
            by_cases hok : meetOk n ⟨za, zb⟩ = true
            · have hh := of_decide_eq_true hok
              dsimp only at hh
              have d1 : decide (min za zb < 0) = false := decide_eq_false (by omega)
              have d3 : decide (n ≤ max za zb) = false := decide_eq_false (by omega)
              have d4 : (za == zb) = false := by rw [beq_eq_false_iff_ne]; exact hh.2.2.2.2
              have HI2 : Hid (∀ z ∈ l.take (k + 1), meetOk n z = true) := Lib.hid fun y hy => by
                rw [List.take_add_one, HZ.out] at hy
                rcases List.mem_append.1 hy with h | h
                · exact HI.out.1 y h
                · simp only [Option.toList_some, List.mem_singleton] at h
                  rw [h]; exact hok
              clear hok hh
              go_wp2_with fail
              go_roundw
              case rel => exact ⟨k + 1, by omega, by go_num, Lib.hid ⟨HI2.out, HI.out.2.alloc' _⟩⟩
              case measure => simp [intOf]; omega
            · have hbad : ¬ meetOk n ⟨za, zb⟩ = true := hok
              by_cases c1 : min za zb < 0
              · have d1 : decide (min za zb < 0) = true := decide_eq_true c1
                clear c1 hok
                have HBAD : Hid (askedP n l = 2) := Lib.hid (by unfold askedP; rw [if_neg HR.out.1, if_neg HR.out.2, if_neg (fun h => hbad (List.all_eq_true.1 h ⟨za, zb⟩ (List.mem_of_getElem? HZ.out)))])
                clear hbad
                go_wp2_with fail
                go_ret
                exact ⟨by rw [HBAD.out] <;> rfl, HI.out.2.alloc' _⟩
              · have d1 : decide (min za zb < 0) = false := decide_eq_false c1
                by_cases c2 : n ≤ max za zb
                · have d3 : decide (n ≤ max za zb) = true := decide_eq_true c2
                  clear c1 c2 hok
                  have HBAD : Hid (askedP n l = 2) := Lib.hid (by unfold askedP; rw [if_neg HR.out.1, if_neg HR.out.2, if_neg (fun h => hbad (List.all_eq_true.1 h ⟨za, zb⟩ (List.mem_of_getElem? HZ.out)))])
                  clear hbad
                  go_wp2_with fail
                  go_ret
                  exact ⟨by rw [HBAD.out] <;> rfl, HI.out.2.alloc' _⟩
                · have d3 : decide (n ≤ max za zb) = false := decide_eq_false c2
                  have hab : za = zb := by
                    refine Classical.byContradiction fun h => hok (decide_eq_true ?_)
                    dsimp only
                    omega
                  have d4 : (za == zb) = true := by simp [hab]
                  clear c1 c2 hok hab
                  have HBAD : Hid (askedP n l = 2) := Lib.hid (by unfold askedP; rw [if_neg HR.out.1, if_neg HR.out.2, if_neg (fun h => hbad (List.all_eq_true.1 h ⟨za, zb⟩ (List.mem_of_getElem? HZ.out)))])
                  clear hbad
                  go_wp2_with fail
                  go_ret
                  exact ⟨by rw [HBAD.out] <;> rfl, HI.out.2.alloc' _⟩
          · have HV : Hid (askedP n l = 0) := Lib.hid (by
              unfold askedP
              rw [if_neg HR.out.1, if_neg HR.out.2, if_pos (List.all_eq_true.2 (fun z hz => HI.out.1 z (by rw [List.take_of_length_le (by omega)]; exact hz)))])
            have hki : ¬ (k : Int) < (l.length : Int) := by omega
            go_wp2_with fail
            go_ret
            exact ⟨by rw [HV.out] <;> rfl, HI.out.2⟩
end Go.Proofs.YtgcbnagfdfgpnaaDoor
end
section
namespace Go.Hx
open Go.RowKit
theorem fold_next {s : PJ} {l : List PMeeting} {k : Nat} {z : PMeeting} (h : l[k]? = some z) : foldJ s (l.take (k + 1)) = stepJ (foldJ s (l.take k)) z := by
  unfold foldJ
  rw [List.take_add_one, h, List.foldl_append]; rfl
theorem fold_inv {n : Nat} : ∀ (l : List PMeeting) (s : PJ), Inv n s → (∀ x ∈ l, meetOk n x = true) → Inv n (foldJ s l)
  | [], _, h, _ => h
  | x :: l, s, h, hl => fold_inv l (stepJ s x) (h.step (hl x (List.mem_cons_self ..))) (fun y hy => hl y (List.mem_cons_of_mem _ hy))
/-- the joiner behind meetings -/
structure JnI (w wr : World) (g3 g5 g1 n : Nat) (s : PJ) : Prop where
  st : JoinSt wr g3 g5 g1 n s
  inv : Inv n s
  ext : Ext w wr
end Go.Hx
namespace Go.Proofs.YtgcbnagfdfgpnaaDoor
open Go.RowKit Go.Hx
set_option maxRecDepth 100000 in
set_option maxHeartbeats 1000000 in
theorem spread_Joins (n : Int) (m : LX PMeeting) (w : World) (hm : m.ok w w.heap.size PMeeting.cells) :
    Calls Tryd.prog 16 #[.int .i64 n, .slice m.A m.l.length m.c] w fun e w' => e = .returned (.tuple #[.bool (joinsP n m.l).1, .int .i64 (joinsP n m.l).2]) ∧ Ext w w' := by
  have HM := Lib.hid hm
  by_cases h0 : askedP n m.l = 0
  · obtain ⟨l, A, c⟩ := m
    obtain ⟨h2, h8, hl64, hall⟩ := asked_ok h0
    dsimp only at h0 h2 h8 hl64 hall
    obtain ⟨N, rfl⟩ : ∃ N : Nat, n = (N : Int) := ⟨n.toNat, by omega⟩
    have h2' : 2 ≤ N := by omega
    have h8' : N ≤ 8 := by omega
    obtain ⟨hx, hx1, hx2⟩ := hm
    dsimp only at hx
    have HX := Lib.hid hx
    have HALL := Lib.hid hall
    have HA := Lib.hid h0
    have HR : Hid (joinsP N l = (decide ((foldJ (initJ N) l).cnt = 1), 0)) := Lib.hid (by unfold joinsP; rw [if_pos h0, Int.toNat_natCast])
    clear hx h0 hall h2 h8
    go_enter Tryd.func16, Tryd.ntmps16
    go_wp2_with fail
    refine (spread_asked N ⟨l, A, c⟩ _ HM.out).mono ?_
    rw [HA.out]
    rintro e w1 ⟨rfl, hE1⟩
    have HE1 := Lib.hid hE1
    clear hE1
    go_wp2_with fail
    refine (spread_joined N _ h2' h8').mono ?_
    rintro e w2 ⟨g3, g5, g1, rfl, hS, hg3, hg5, h35, h13, h15, hE2⟩
    have HG : Hid (w.heap.size ≤ g3 ∧ w.heap.size ≤ g5 ∧ g3 ≠ g5 ∧ g1 ≠ g3 ∧ g1 ≠ g5) := Lib.hid ⟨Nat.le_trans HE1.out.size hg3, Nat.le_trans HE1.out.size hg5, h35, h13, h15⟩
    have HJ0 : Hid (JnI w w2 g3 g5 g1 N (foldJ (initJ N) (l.take 0))) := Lib.hid ⟨hS, Inv.init N, HE1.out.trans hE2⟩
    clear hS hg3 hg5 h35 h13 h15 hE2
    go_wp2_with fail
    go_loopw [8, 22] (fun c i wr => ∃ k : Nat, ∃ ct : Int, k ≤ l.length ∧ i = .int .i64 k ∧ c = .int .i64 ct ∧ Hid (ct = (foldJ (initJ N) (l.take k)).cnt) ∧ Hid (JnI w wr g3 g5 g1 N (foldJ (initJ N) (l.take k)))) (fun _ i _ => l.length - (intOf i).toNat)
    case atStart => exact ⟨0, N, by omega, rfl, rfl, Lib.hid rfl, HJ0⟩
    case round =>
      obtain ⟨k, ct, hk, rfl, rfl, HC, HI⟩ := hrel
      clear HJ0
      by_cases hlt : k < l.length
      · obtain ⟨z, hz⟩ : ∃ z, l[k]? = some z := ⟨_, List.getElem?_eq_getElem hlt⟩
        obtain ⟨b1, o1, rfl, hb1, r1⟩ := Sl.row (size := 2) (fun _ => rfl) (HX.out.below HI.out.ext.below) hz
        have g0 := r1 0 _ rfl
        have g1' := r1 1 _ rfl
        simp only [Nat.add_zero] at g0 g1'
        have HZ := Lib.hid hz
        have HOK := Lib.hid (HALL.out z (List.mem_of_getElem? hz))
        clear hz r1
        have hli : (k : Int) < (l.length : Int) := by omega
        obtain ⟨za, zb⟩ := z
        go_wp2_with fail
        refine (spread_join1 w.heap.size g3 g5 g1 N _ ⟨za, zb⟩ _ (HI.out.st.ext (Ext.alloc _ _)) HI.out.inv HOK.out h8' HG.out.1 HG.out.2.1 HG.out.2.2.1 HG.out.2.2.2.1 HG.out.2.2.2.2).mono ?_
        rintro e w3 ⟨rfl, hS3, hB3⟩
        have HI2 : Hid (JnI w w3 g3 g5 g1 N (foldJ (initJ N) (l.take (k + 1)))) := Lib.hid (by
          rw [fold_next HZ.out]
          exact ⟨hS3, HI.out.inv.step HOK.out, Below.trans (HI.out.ext.alloc' _) hB3⟩)
        have HC2 : Hid ((stepJ (foldJ (initJ N) (l.take k)) ⟨za, zb⟩).cnt = (foldJ (initJ N) (l.take (k + 1))).cnt) := Lib.hid (by rw [fold_next HZ.out])
        obtain ⟨ct2, hct2⟩ : ∃ t, (stepJ (foldJ (initJ N) (l.take k)) ⟨za, zb⟩).cnt = t := ⟨_, rfl⟩
        rw [hct2] at HC2 ⊢
        clear hS3 hB3 hct2
        go_wp2_with fail
        go_roundw
        case rel => exact ⟨k + 1, ct2, by omega, by go_num, rfl, HC2, HI2⟩
        case measure => simp [intOf]; omega
      · have hki : ¬ (k : Int) < (l.length : Int) := by omega
        have HF : Hid ((ct == 1) = decide ((foldJ (initJ N) l).cnt = 1)) := Lib.hid (by
          rw [HC.out, List.take_of_length_le (by omega)]; rfl)
        go_wp2_with fail
        go_ret2
        exact ⟨by rw [HR.out, ← HF.out] <;> rfl, HI.out.ext⟩
  · have HV : Hid (joinsP n m.l = (false, askedP n m.l)) := Lib.hid (by unfold joinsP; rw [if_neg h0])
    obtain ⟨v, hv⟩ : ∃ v, askedP n m.l = v := ⟨_, rfl⟩
    rw [hv] at HV h0
    have HVV := Lib.hid hv
    have d0 : (v != 0) = true := by simpa using h0
    rw [HV.out]
    clear h0 hm hv
    go_enter Tryd.func16, Tryd.ntmps16
    go_wp2_with fail
    refine (spread_asked n m _ HM.out).mono ?_
    rw [HVV.out]
    rintro e w1 ⟨rfl, hE1⟩
    go_wp2_with fail
    go_ret2
    exact ⟨rfl, hE1⟩
end Go.Proofs.YtgcbnagfdfgpnaaDoor
end
