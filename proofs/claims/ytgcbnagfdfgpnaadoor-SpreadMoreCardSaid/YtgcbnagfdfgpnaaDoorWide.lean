/- Wide numbers in memory: which of two is less. -/
import Derived.Test.YtgcbnagfdfgpnaaDoorBitsU
namespace Go.Hx
open Go.RowKit
/-- the cells of limbs -/
def W32 (l : List Nat) : List Value := l.map fun x : Nat => .int .u32 (x : Int)
theorem W32.len (l : List Nat) : (W32 l).length = l.length := by simp [W32]
theorem W32.get {l : List Nat} {n x : Nat} (h : l[n]? = some x) : (W32 l)[n]? = some (.int .u32 x) := by simp [W32, h]
theorem W32.set (l : List Nat) (n x : Nat) : (W32 l).set n (.int .u32 x) = W32 (l.set n x) := by simp [W32, List.map_set]
theorem W32.one (l : List Nat) : (W32 l).all (·.oneCell') = true := by
  simp only [W32, List.all_map, List.all_eq_true]
  intro x _; rfl
theorem RowAt.wide {w : World} {b o : Nat} {l : List Nat} (h : RowAt w b o (W32 l)) {n : Nat} (hn : n < l.length) : ∃ p, l[n]?.getD 0 = p ∧ w.cell? ⟨b, o + n, none⟩ = some (.int .u32 p) := by
  refine ⟨l[n], by rw [List.getElem?_eq_getElem hn]; rfl, h n _ (W32.get (List.getElem?_eq_getElem hn))⟩
end Go.Hx
namespace Go.Proofs.YtgcbnagfdfgpnaaDoor
open Go.RowKit Go.Hx
set_option maxRecDepth 100000 in
set_option maxHeartbeats 1000000 in
theorem wide_below (b1 o1 b2 o2 : Nat) (l m : List Nat) (w : World) (hl : l.length = 74) (hm : m.length = 74) (h1 : RowAt w b1 o1 (W32 l)) (h2 : RowAt w b2 o2 (W32 m)) (bl : Limbs l) (bm : Limbs m) :
    Calls Tryd.prog 116 #[.pointer (some ⟨b1, o1, none⟩), .pointer (some ⟨b2, o2, none⟩)] w fun e w' => e = .returned (.bool (decide (val B32 l < val B32 m))) ∧ ∃ j, w' = w.drewN j := by
  have H1 := Lib.hid h1
  have H2 := Lib.hid h2
  have HL := Lib.hid hl
  have HM := Lib.hid hm
  have HBL := Lib.hid bl
  have HBM := Lib.hid bm
  clear h1 h2 hl hm bl bm
  go_enter Tryd.func116, Tryd.ntmps116
  go_wp2
  go_loopw [5] (fun i wr => ∃ k : Int, -1 ≤ k ∧ k < 74 ∧ i = .int .i64 k ∧ Hid (OrderI l m (k + 1).toNat) ∧ ∃ j, wr = w.drewN j) (fun i _ => (intOf i + 1).toNat)
  case atStart => exact ⟨73, by omega, by omega, rfl, Lib.hid ⟨fun j hj => by rw [getD_out (by have := HL.out; omega), getD_out (by have := HM.out; omega)]⟩, 0, rfl⟩
  case round =>
    obtain ⟨k, hk0, hk1, rfl, HI, j, rfl⟩ := hrel
    by_cases hk : 0 ≤ k
    · obtain ⟨n, rfl⟩ : ∃ n : Nat, k = (n : Int) := ⟨k.toNat, by omega⟩
      have hn : n < 74 := by omega
      obtain ⟨p, hp, cp⟩ := RowAt.wide H1.out (n := n) (by have := HL.out; omega)
      obtain ⟨q, hq, cq⟩ := RowAt.wide H2.out (n := n) (by have := HM.out; omega)
      have HP := Lib.hid hp
      have HQ := Lib.hid hq
      clear hp hq
      have HN : Hid (OrderI l m (n + 1)) := Lib.hid (by have := HI.out; rwa [show ((n : Int) + 1).toNat = n + 1 by omega] at this)
      by_cases q0 : p = q
      · have e0 : ((p : Int) != (q : Int)) = false := by rw [bne_eq_false_iff_eq]; omega
        have HE := Lib.hid q0
        clear q0
        go_wp2
        go_quiet (fail)
        go_wp2
        go_roundw
        case rel => exact ⟨(n : Int) - 1, by omega, by omega, by go_num, Lib.hid ⟨fun t ht => by
          rcases Nat.lt_or_ge n t with h | h
          · exact HN.out.same t (by omega)
          · have : t = n := by omega
            subst this
            rw [HP.out, HQ.out, HE.out]⟩, _, rfl⟩
        case measure => simp [intOf]
      · have e0 : ((p : Int) != (q : Int)) = true := by rw [bne_iff_ne]; omega
        have HD : Hid (decide (p < q) = decide (val B32 l < val B32 m)) := Lib.hid (by
          rcases Nat.lt_or_gt_of_ne q0 with h | h
          · rw [decide_eq_true h, decide_eq_true (HN.out.differL HBL.out HP.out HQ.out h)]
          · have := HN.out.swap.differL HBM.out HQ.out HP.out h
            rw [decide_eq_false (by omega : ¬ p < q), decide_eq_false (by omega)])
        clear q0
        go_wp2
        go_quiet (fail)
        go_wp2
        go_quiet (fail)
        go_wp2
        go_ret
        exact ⟨ret_bool HD.out, _, by rw [World.drewN_drewN, World.drewN_drewN]⟩
    · have hk' : k = -1 := by omega
      have HE : Hid (decide (val B32 l < val B32 m) = false) := Lib.hid (decide_eq_false (by
        have := HI.out
        rw [hk'] at this
        have := OrderI.allSame this
        omega))
      clear hk'
      go_wp2
      go_ret
      exact ⟨ret_bool HE.out.symm, _, rfl⟩
end Go.Proofs.YtgcbnagfdfgpnaaDoor
