/- The program: how often meetings join all. -/
import Derived.Test.YtgcbnagfdfgpnaaDoorShrinksAll15
import Derived.WalkMore
namespace Go.Hx
open Go.RowKit
def slLen : Value → Nat | .slice _ n _ => n | _ => 0
theorem rfold_hit {n r : Nat} {s : PJ} {l : List PMeeting} {k : Nat} {z : PMeeting} (h : l[k]? = some z) (hc : (stepJ s z).cnt = 1) : rfold n (r, s) (l.drop k) = rfold n (r + 1, initJ n) (l.drop (k + 1)) := by
  obtain ⟨hlt, hz⟩ := List.getElem?_eq_some_iff.1 h
  rw [List.drop_eq_getElem_cons hlt, hz]
  show rfold n (rstep n (r, s) z) _ = _
  unfold rstep
  rw [if_pos hc]
theorem rfold_miss {n r : Nat} {s : PJ} {l : List PMeeting} {k : Nat} {z : PMeeting} (h : l[k]? = some z) (hc : (stepJ s z).cnt ≠ 1) : rfold n (r, s) (l.drop k) = rfold n (r, stepJ s z) (l.drop (k + 1)) := by
  obtain ⟨hlt, hz⟩ := List.getElem?_eq_some_iff.1 h
  rw [List.drop_eq_getElem_cons hlt, hz]
  show rfold n (rstep n (r, s) z) _ = _
  unfold rstep
  rw [if_neg hc]
theorem rfold_bound2 {n : Nat} : ∀ (l : List PMeeting) (r : Nat) (s : PJ), (rfold n (r, s) l).1 ≤ r + l.length
  | [], r, s => Nat.le_refl _
  | x :: l, r, s => by
    show (rfold n (rstep n (r, s) x) l).1 ≤ r + (l.length + 1)
    unfold rstep
    dsimp only
    split
    · have := rfold_bound2 (n := n) l (r + 1) (initJ n); omega
    · have := rfold_bound2 (n := n) l r (stepJ s x); omega
structure RndI (w wr : World) (N r T : Nat) (mm : LX PMeeting) : Prop where
  ok : mm.ok wr wr.heap.size PMeeting.cells
  all : ∀ x ∈ mm.l, meetOk N x = true
  eq : (rfold N (r, initJ N) mm.l).1 = T
  bound : T ≤ 64 ∧ r + mm.l.length ≤ 64
  ext : Ext w wr
end Go.Hx
namespace Go.Proofs.YtgcbnagfdfgpnaaDoor
open Go.RowKit Go.Hx
set_option maxRecDepth 100000 in
set_option maxHeartbeats 1000000 in
theorem spread_Rounds (n : Int) (m : LX PMeeting) (w : World) (hm : m.ok w w.heap.size PMeeting.cells) :
    Calls Tryd.prog 15 #[.int .i64 n, .slice m.A m.l.length m.c] w fun e w' => e = .returned (.tuple #[.int .i64 (roundsP n m.l).1, .int .i64 (roundsP n m.l).2]) ∧ Ext w w' := by
  have HM := Lib.hid hm
  by_cases h0 : askedP n m.l = 0
  · obtain ⟨h2, h8, hl64, hall⟩ := asked_ok h0
    obtain ⟨N, rfl⟩ : ∃ N : Nat, n = (N : Int) := ⟨n.toNat, by omega⟩
    have h2' : 2 ≤ N := by omega
    have h8' : N ≤ 8 := by omega
    obtain ⟨T, hT⟩ : ∃ T, (rfold N (0, initJ N) m.l).1 = T := ⟨_, rfl⟩
    have HT := Lib.hid hT
    have HALL := Lib.hid hall
    have HA := Lib.hid h0
    have HR : Hid (roundsP N m.l = ((T : Int), 0)) := Lib.hid (by unfold roundsP; rw [if_pos h0, Int.toNat_natCast, hT])
    have HL64 := Lib.hid hl64
    clear h0 hall h2 h8 hT hm hl64
    go_enter Tryd.func15, Tryd.ntmps15
    go_wp2_with fail
    go_step3
    go_wp2_with fail
    refine (spread_asked N m _ HM.out).mono ?_
    rw [HA.out]
    rintro e w1 ⟨rfl, hE1⟩
    have HE1 := Lib.hid hE1
    clear hE1
    go_wp2_with fail
    go_step3
    go_wp2_with fail
    go_loopw [1, 4] (fun ms rs wr => ∃ (mm : LX PMeeting) (r : Nat), ms = .slice mm.A mm.l.length mm.c ∧ rs = .int .i64 r ∧ Hid (RndI w wr N r T mm)) (fun ms _ _ => slLen ms)
    case atStart => exact ⟨m, 0, rfl, rfl, Lib.hid ⟨LX.ok.ext HM.out HE1.out, HALL.out, HT.out, by have := HL64.out; have h9 := rfold_bound2 (n := N) m.l 0 (initJ N); rw [HT.out] at h9; omega, HE1.out⟩⟩
    case round =>
      obtain ⟨mm, r, rfl, rfl, HI⟩ := hrel
      have hTB := HI.out.bound
      by_cases hlen : mm.l.length = 0
      · have hnil := List.eq_nil_of_length_eq_zero hlen
        have HTr : Hid (T = r) := Lib.hid (by have := HI.out.eq; rw [hnil] at this; exact this.symm)
        have hli : ¬ (0 : Int) < (mm.l.length : Int) := by omega
        clear hnil
        go_wp2_with fail
        go_ret2
        exact ⟨by rw [HR.out, HTr.out] <;> rfl, HI.out.ext⟩
      · have hli : (0 : Int) < (mm.l.length : Int) := by omega
        go_wp2_with fail
        refine (spread_joined N _ h2' h8').mono ?_
        rintro e w2 ⟨g3, g5, g1, rfl, hS, hg3, hg5, h35, h13, h15, hE2⟩
        obtain ⟨wo, rfl⟩ : ∃ wo : World, wo = wr := ⟨_, rfl⟩
        have HG : Hid (wo.heap.size ≤ g3 ∧ wo.heap.size ≤ g5 ∧ g3 ≠ g5 ∧ g1 ≠ g3 ∧ g1 ≠ g5) := Lib.hid ⟨hg3, hg5, h35, h13, h15⟩
        have HJ0 : Hid (JnI wo w2 g3 g5 g1 N (initJ N) ∧ (rfold N (r, initJ N) (mm.l.drop 0)).1 = T) := Lib.hid ⟨⟨hS, Inv.init N, hE2⟩, HI.out.eq⟩
        clear hS hg3 hg5 h35 h13 h15 hE2
        obtain ⟨l, A, c⟩ := mm
        have HOK := Lib.hid HI.out.ok
        have hok := HI.out.ok
        obtain ⟨hx, hx1, hx2⟩ := hok
        dsimp only at hx hx1 hx2 hli hlen hTB
        unfold maxLen at hx2
        have HX := Lib.hid hx
        clear hx
        go_wp2_with fail
        go_loopw [1, 4, 23] (fun ms rs i wr => ∃ (k : Nat) (s : PJ), ms = .slice A l.length c ∧ rs = .int .i64 r ∧ k ≤ l.length ∧ i = .int .i64 k ∧ Hid (JnI wo wr g3 g5 g1 N s ∧ (rfold N (r, s) (l.drop k)).1 = T)) (fun _ _ i _ => l.length - (intOf i).toNat)
        case atStart => exact ⟨0, _, rfl, rfl, by omega, rfl, HJ0⟩
        case round =>
          obtain ⟨k, s, rfl, rfl, hk, rfl, HJ⟩ := hrel
          clear HJ0
          by_cases hlt : k < l.length
          · obtain ⟨z, hz⟩ : ∃ z, l[k]? = some z := ⟨_, List.getElem?_eq_getElem hlt⟩
            obtain ⟨b1, o1, rfl, hb1, r1⟩ := Sl.row (size := 2) (fun _ => rfl) (HX.out.below HJ.out.1.ext.below) hz
            have g0 := r1 0 _ rfl
            have g1' := r1 1 _ rfl
            simp only [Nat.add_zero] at g0 g1'
            have HZ := Lib.hid hz
            have HZO := Lib.hid (HI.out.all z (List.mem_of_getElem? hz))
            clear hz r1
            have hli2 : (k : Int) < (l.length : Int) := by omega
            obtain ⟨za, zb⟩ := z
            go_wp2_with fail
            refine (spread_join1 wo.heap.size g3 g5 g1 N s ⟨za, zb⟩ _ (HJ.out.1.st.ext (Ext.alloc _ _)) HJ.out.1.inv HZO.out h8' HG.out.1 HG.out.2.1 HG.out.2.2.1 HG.out.2.2.2.1 HG.out.2.2.2.2).mono ?_
            rintro e w3 ⟨rfl, hS3, hB3⟩
            have HJ2 : Hid (JnI wo w3 g3 g5 g1 N (stepJ s ⟨za, zb⟩)) := Lib.hid ⟨hS3, HJ.out.1.inv.step HZO.out, Below.trans (HJ.out.1.ext.alloc' _) hB3⟩
            obtain ⟨ct, hct⟩ : ∃ t, (stepJ s ⟨za, zb⟩).cnt = t := ⟨_, rfl⟩
            have HCT := Lib.hid hct
            rw [hct]
            clear hS3 hB3 hct
            by_cases h1 : ct = 1
            · have d1 : (ct == 1) = true := by simp [h1]
              have HNX : Hid ((rfold N (r + 1, initJ N) (l.drop (k + 1))).1 = T) := Lib.hid (by rw [← rfold_hit HZ.out (by rw [HCT.out]; exact h1)]; exact HJ.out.2)
              clear h1
              go_wp2_with fail
              have hokd : (⟨l.drop (k + 1), (if c = k + 1 then some ⟨b1, o1, none⟩ else some ⟨b1, o1 + (k + 1) * 2, none⟩), c - (k + 1)⟩ : LX PMeeting).ok wo wo.heap.size PMeeting.cells := by
                refine ⟨?_, ?_, ?_⟩
                · rcases HX.out with h | ⟨b', off', h1, h2, h3⟩
                  · rw [h] at hlt; exact absurd hlt (by simp)
                  · cases h1
                    have := Sl.part (size := 2) (w := wo) (B := wo.heap.size) (enc := PMeeting.cells) (fun _ => rfl) h2 h3 (k + 1) l.length
                    rw [List.take_length] at this
                    by_cases hc1 : c = k + 1
                    · exact .inl (List.eq_nil_of_length_eq_zero (by simp only [List.length_drop]; omega))
                    · simp only [hc1, if_false]; exact this
                · simp only [List.length_drop]; omega
                · dsimp only; unfold maxLen; omega
              refine ⟨⟨⟨l.drop (k + 1), (if c = k + 1 then some ⟨b1, o1, none⟩ else some ⟨b1, o1 + (k + 1) * 2, none⟩), c - (k + 1)⟩, r + 1, by simp only [List.length_drop], rfl, Lib.hid ⟨hokd.ext HJ2.out.ext, fun x hx => HI.out.all x (List.mem_of_mem_drop hx), HNX.out, by simp only [List.length_drop]; omega, HI.out.ext.trans HJ2.out.ext⟩⟩, ?_⟩
              show l.length - (k + 1) < l.length
              omega
            · have d1 : (ct == 1) = false := by rw [beq_eq_false_iff_ne]; exact h1
              have HNX : Hid ((rfold N (r, stepJ s ⟨za, zb⟩) (l.drop (k + 1))).1 = T) := Lib.hid (by rw [← rfold_miss HZ.out (by rw [HCT.out]; exact h1)]; exact HJ.out.2)
              clear h1
              go_wp2_with fail
              go_roundw
              case rel => exact ⟨k + 1, _, rfl, rfl, by omega, by go_num, Lib.hid ⟨HJ2.out, HNX.out⟩⟩
              case measure => simp [intOf]; omega
          · have hkl : k = l.length := by omega
            have HTr : Hid (T = r) := Lib.hid (by have := HJ.out.2; rw [hkl, List.drop_length] at this; exact this.symm)
            have hki : ¬ (k : Int) < (l.length : Int) := by omega
            clear hkl
            go_wp2_with fail
            go_ret2
            exact ⟨by rw [HR.out, HTr.out] <;> rfl, HI.out.ext.trans HJ.out.1.ext⟩
  · have HV : Hid (roundsP n m.l = (0, askedP n m.l)) := Lib.hid (by unfold roundsP; rw [if_neg h0])
    obtain ⟨v, hv⟩ : ∃ v, askedP n m.l = v := ⟨_, rfl⟩
    rw [hv] at HV h0
    have HVV := Lib.hid hv
    have d0 : (v != 0) = true := by simpa using h0
    rw [HV.out]
    clear h0 hm hv
    go_enter Tryd.func15, Tryd.ntmps15
    go_wp2_with fail
    go_step3
    go_wp2_with fail
    refine (spread_asked n m _ HM.out).mono ?_
    rw [HVV.out]
    rintro e w1 ⟨rfl, hE1⟩
    go_wp2_with fail
    rw [Exit.noGoto_ret]
    go_ret2
    exact ⟨rfl, hE1⟩
end Go.Proofs.YtgcbnagfdfgpnaaDoor
