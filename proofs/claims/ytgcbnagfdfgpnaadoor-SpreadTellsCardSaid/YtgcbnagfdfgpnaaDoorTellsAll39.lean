/- The reference: whether meetings join all nodes. -/
import Derived.Test.YtgcbnagfdfgpnaaDoorTellsAll5
import Derived.Test.YtgcbnagfdfgpnaaDoorTellsAll13
import Derived.Test.YtgcbnagfdfgpnaaDoorTellsAll15
import Derived.Test.YtgcbnagfdfgpnaaDoorTellsAll1
namespace Go.Hx
open Go.RowKit
def cBool (b : Bool) : List Value := [.bool b]
def WB (l : List Bool) : List Value := l.map Value.bool
theorem WB.len (l : List Bool) : (WB l).length = l.length := by simp [WB]
theorem WB.get {l : List Bool} {i : Nat} (h : i < l.length) : (WB l)[i]? = some (.bool (bv l i)) := by
  unfold bv WB
  rw [List.getElem?_map, List.getElem?_eq_getElem h]; rfl
theorem WB.set (l : List Bool) (i : Nat) (b : Bool) : (WB l).set i (.bool b) = WB (l.set i b) := by simp [WB, List.map_set]
theorem WB.flat (l : List Bool) : l.flatMap cBool = WB l := by
  induction l with
  | nil => rfl
  | cons b l ih => rw [List.flatMap_cons, ih]; rfl
theorem passA_next {m : List PMeeting} {t : List Bool} {j : Nat} {z : PMeeting} (h : m[j]? = some z) : passA (m.take (j + 1)) t = stepA (passA (m.take j) t) z := by
  unfold passA
  rw [List.take_add_one, h, List.foldl_append]; rfl
theorem stepA_yes {t : List Bool} {z : PMeeting} {a b : Nat} (ha : z.asks.toNat = a) (hb : z.asked.toNat = b) (h : bv t a = true ∨ bv t b = true) : stepA t z = (t.set a true).set b true := by
  unfold stepA
  rw [ha, hb, if_pos (by simpa using h)]
theorem stepA_no {t : List Bool} {z : PMeeting} {a b : Nat} (ha : z.asks.toNat = a) (hb : z.asked.toNat = b) (h1 : bv t a = false) (h2 : bv t b = false) : stepA t z = t := by
  unfold stepA
  rw [ha, hb, if_neg (by simp [h1, h2])]
theorem blk_bools {w : World} {base e g n : Nat} {l : List Bool} (hn : l.length = n) (h : Go.Hx.Own w base e 1 cBool (.slice (some ⟨g, 0, none⟩) n n) l) : Go.Hx.Blk w g e (WB l) := by
  subst hn
  obtain ⟨cur, hB, _, _, _, hl, ht⟩ := Own.blk h
  have : cur = WB l := by rw [← WB.flat, ← ht, List.take_of_length_le (by omega)]
  rw [← this]; exact hB
theorem bv_rep (n i : Nat) : bv (List.replicate n false) i = false := by
  unfold bv; rw [List.getElem?_replicate]; split <;> rfl
structure AllI (w wr : World) (g n : Nat) (t : List Bool) : Prop where
  blk : Blk wr g 4 (WB t)
  len : t.length = n
  ext : Ext w wr
  low : w.heap.size ≤ g
end Go.Hx
namespace Go.Proofs.YtgcbnagfdfgpnaaDoor
open Go.RowKit Go.Hx
theorem elBool : ElTy Tryd.prog 167 4 1 1 := ElTy.mk' (z := .bool false) Tryd.underlying167 (by kernel_rfl) rfl (by decide)
set_option maxRecDepth 100000 in
set_option maxHeartbeats 2000000 in
theorem ref30_All (n : Nat) (m : LX PMeeting) (w : World) (hm : m.ok w w.heap.size PMeeting.cells) (h1 : 1 ≤ n) (h8 : n ≤ 8) (hall : ∀ x ∈ m.l, meetOk n x = true) :
    Calls Tryd.prog 55 #[.int .i64 n, .slice m.A m.l.length m.c] w fun e w' => e = .returned (.bool (allP n m.l)) ∧ Ext w w' := by
  obtain ⟨l, A, c⟩ := m
  obtain ⟨hx, hx1, hx2⟩ := hm
  dsimp only at *
  unfold maxLen at hx2
  have HX := Lib.hid hx
  have HALL := Lib.hid hall
  have HB : Hid (n ≤ 140737488355328 ∧ n ≤ maxLen) := Lib.hid ⟨by omega, by unfold maxLen; omega⟩
  clear hx hall
  have h0n : (0 : Int) < (n : Int) := by omega
  go_enter Tryd.func55, Tryd.ntmps55
  go_wp2_with (first | ((with_reducible refine wpl_make (z0 := false) (enc := cBool) elBool (.bool false) ?_ rfl rfl (.tmp 9) (.tmp 9) ?_ ?_ n .i64 .i64 ?_ ?_ ?_ ?_ w ?_); (exact by kernel_rfl); (exact rfl); (exact rfl); (exact rfl); (exact rfl); (exact by have := HB.out; omega); (exact HB.out.2); (intro w1 hown hE1); (have hB0 := blk_bools (List.length_replicate) hown); (have hc0 : w1.cell? ⟨w.heap.size, 0, none⟩ = some (.bool false) := by rw [hB0.cell 0, WB.get (by rw [List.length_replicate]; omega), bv_rep]); (have hf0 : w1.frozen? ⟨w.heap.size, 0, none⟩ = false := hB0.free 0); (have HI0 : Hid (AllI w (w1.setCell ⟨w.heap.size, 0, none⟩ (.bool true)) w.heap.size n (iterA l 0 (initA n))) := Lib.hid ⟨by have := hB0.set 0 (.bool true); rwa [WB.set] at this, initA_len n, hE1.setCell' (Nat.le_refl _) _, Nat.le_refl _⟩); clear hown hE1 hB0) | fail)
  obtain ⟨g, hg⟩ : ∃ g, g = w.heap.size := ⟨_, rfl⟩
  rw [← hg] at HI0 ⊢
  clear hc0 hf0 hg
  go_loopw [6] (fun i wr => ∃ k : Nat, k ≤ n ∧ i = .int .i64 k ∧ Hid (AllI w wr g n (iterA l k (initA n)))) (fun i _ => n - (intOf i).toNat)
  case atStart => exact ⟨0, by omega, rfl, HI0⟩
  case round =>
    obtain ⟨k, hk, rfl, HI⟩ := hrel
    clear HI0
    by_cases hlt : k < n
    · have hki : (k : Int) < (n : Int) := by omega
      obtain ⟨wo, rfl⟩ : ∃ wo : World, wo = wr := ⟨_, rfl⟩
      have HI1 : Hid (AllI w wo g n (passA (l.take 0) (iterA l k (initA n)))) := Lib.hid HI.out
      go_wp2_with fail
      go_loopw [7] (fun i wr => ∃ j : Nat, j ≤ l.length ∧ i = .int .i64 j ∧ Hid (AllI w wr g n (passA (l.take j) (iterA l k (initA n))))) (fun i _ => l.length - (intOf i).toNat)
      case atStart => exact ⟨0, by omega, rfl, HI1⟩
      case round =>
        obtain ⟨j, hj, rfl, HJ⟩ := hrel
        clear HI1 HI
        by_cases hlt2 : j < l.length
        · obtain ⟨z, hz⟩ : ∃ z, l[j]? = some z := ⟨_, List.getElem?_eq_getElem hlt2⟩
          obtain ⟨b1, o1, rfl, hb1, r1⟩ := Sl.row (size := 2) (fun _ => rfl) (HX.out.below HJ.out.ext.below) hz
          have g0 := r1 0 _ rfl
          have g1 := r1 1 _ rfl
          simp only [Nat.add_zero] at g0 g1
          obtain ⟨ha, hb, hai, hbi, hab⟩ := meetOk_nat (HALL.out z (List.mem_of_getElem? hz))
          have HZ := Lib.hid hz
          obtain ⟨za, zb⟩ := z
          obtain ⟨a, rfl⟩ : ∃ a : Nat, za = (a : Int) := ⟨za.toNat, hai.symm⟩
          obtain ⟨b, rfl⟩ : ∃ b : Nat, zb = (b : Int) := ⟨zb.toNat, hbi.symm⟩
          simp only [Int.toNat_natCast] at ha hb hab
          have hli2 : (j : Int) < (l.length : Int) := by omega
          have hani : (a : Int) < (n : Int) := by omega
          have hbni : (b : Int) < (n : Int) := by omega
          obtain ⟨t, ht⟩ : ∃ t, passA (l.take j) (iterA l k (initA n)) = t := ⟨_, rfl⟩
          rw [ht] at HJ
          have HT := Lib.hid ht
          have hlen := HJ.out.len
          obtain ⟨pa, hpa⟩ : ∃ p, bv t a = p := ⟨_, rfl⟩
          obtain ⟨pb, hpb⟩ : ∃ p, bv t b = p := ⟨_, rfl⟩
          have hca : wr.cell? ⟨g, a, none⟩ = some (.bool pa) := by rw [HJ.out.blk.cell a, WB.get (by omega), hpa]
          have hcb : wr.cell? ⟨g, b, none⟩ = some (.bool pb) := by rw [HJ.out.blk.cell b, WB.get (by omega), hpb]
          have hfa : wr.frozen? ⟨g, a, none⟩ = false := HJ.out.blk.free a
          have hfb : wr.frozen? ⟨g, b, none⟩ = false := HJ.out.blk.free b
          have HP := Lib.hid (show bv t a = pa ∧ bv t b = pb from ⟨hpa, hpb⟩)
          clear hz r1 hai hbi ht hpa hpb
          have hT0 := HT.out
          have hB1 := (RowKit.Below.refl w.heap.size wr).setCell (p := ⟨g, a, none⟩) HJ.out.low (.bool true)
          have g1s := (hB1.cell (p := ⟨b1, o1 + j * 2 + 1, none⟩) hb1).trans g1
          clear hB1
          have hcb2 : (wr.setCell ⟨g, a, none⟩ (.bool true)).cell? ⟨g, b, none⟩ = some (.bool pb) := by
            rw [(HJ.out.blk.set a (.bool true)).cell b, WB.set, WB.get (by rw [List.length_set]; omega), bv_set (by omega), if_neg (Ne.symm hab), HP.out.2]
          have hfb2 : (wr.setCell ⟨g, a, none⟩ (.bool true)).frozen? ⟨g, b, none⟩ = false := (HJ.out.blk.set a (.bool true)).free b
          cases pa with
          | true =>
            have HJ2 : Hid (AllI w ((wr.setCell ⟨g, a, none⟩ (.bool true)).setCell ⟨g, b, none⟩ (.bool true)) g n (passA (l.take (j + 1)) (iterA l k (initA n)))) := Lib.hid (by
              rw [passA_next HZ.out, HT.out, stepA_yes (a := a) (b := b) (by simp) (by simp) (.inl HP.out.1)]
              have h9 := (HJ.out.blk.set a (.bool true)).set b (.bool true)
              rw [WB.set, WB.set] at h9
              exact ⟨h9, by simp [HJ.out.len], (HJ.out.ext.setCell' HJ.out.low _).setCell' HJ.out.low _, HJ.out.low⟩)
            clear hT0
            go_wp2_with fail
            go_roundw
            case rel => exact ⟨j + 1, by omega, by go_num, HJ2⟩
            case measure => simp [intOf]; omega
          | false =>
            cases pb with
            | true =>
              have HJ2 : Hid (AllI w ((wr.setCell ⟨g, a, none⟩ (.bool true)).setCell ⟨g, b, none⟩ (.bool true)) g n (passA (l.take (j + 1)) (iterA l k (initA n)))) := Lib.hid (by
                rw [passA_next HZ.out, HT.out, stepA_yes (a := a) (b := b) (by simp) (by simp) (.inr HP.out.2)]
                have h9 := (HJ.out.blk.set a (.bool true)).set b (.bool true)
                rw [WB.set, WB.set] at h9
                exact ⟨h9, by simp [HJ.out.len], (HJ.out.ext.setCell' HJ.out.low _).setCell' HJ.out.low _, HJ.out.low⟩)
              clear hT0
              go_wp2_with fail
              go_roundw
              case rel => exact ⟨j + 1, by omega, by go_num, HJ2⟩
              case measure => simp [intOf]; omega
            | false =>
              have HJ2 : Hid (AllI w wr g n (passA (l.take (j + 1)) (iterA l k (initA n)))) := Lib.hid (by
                rw [passA_next HZ.out, HT.out, stepA_no (a := a) (b := b) (by simp) (by simp) HP.out.1 HP.out.2]
                exact HJ.out)
              clear hT0
              go_wp2_with fail
              go_roundw
              case rel => exact ⟨j + 1, by omega, by go_num, HJ2⟩
              case measure => simp [intOf]; omega
        · have hjl : j = l.length := by omega
          have HK : Hid (AllI w wr g n (iterA l (k + 1) (initA n))) := Lib.hid (by have := HJ.out; rwa [hjl, List.take_length] at this)
          have hji : ¬ (j : Int) < (l.length : Int) := by omega
          clear hjl
          go_wp2_with fail
          go_roundw
          case rel => exact ⟨k + 1, by omega, by go_num, HK⟩
          case measure => simp [intOf]; omega
    · have hkn : k = n := by omega
      have hki : ¬ (k : Int) < (n : Int) := by omega
      have HK : Hid (AllI w wr g n (iterA l n (initA n))) := Lib.hid (by have := HI.out; rwa [hkn] at this)
      obtain ⟨wo, rfl⟩ : ∃ wo : World, wo = wr := ⟨_, rfl⟩
      obtain ⟨t, ht⟩ : ∃ t, iterA l n (initA n) = t := ⟨_, rfl⟩
      have HA : Hid (allP n l = t.all id) := Lib.hid (by unfold allP; rw [ht])
      rw [ht] at HK
      clear hkn HI ht
      go_wp2_with fail
      go_loopw [8] (fun i wr => ∃ q : Nat, q ≤ n ∧ i = .int .i64 q ∧ Hid ((t.take q).all id = true ∧ AllI w wr g n t)) (fun i _ => n - (intOf i).toNat)
      case atStart => exact ⟨0, by omega, rfl, Lib.hid ⟨rfl, HK.out⟩⟩
      case round =>
        obtain ⟨q, hq, rfl, HQ⟩ := hrel
        clear HK
        have HK := Lib.hid HQ.out.2
        by_cases hlt3 : q < n
        · have hqi : (q : Int) < (n : Int) := by omega
          have hlen := HK.out.len
          obtain ⟨p, hp⟩ : ∃ p, bv t q = p := ⟨_, rfl⟩
          have hcq : wr.cell? ⟨g, q, none⟩ = some (.bool p) := by rw [HK.out.blk.cell q, WB.get (by omega), hp]
          have HP := Lib.hid hp
          have hqt : t[q]? = some p := by unfold bv at hp; rw [List.getElem?_eq_getElem (by omega)] at hp ⊢; rw [← hp]; rfl
          have HQT := Lib.hid hqt
          clear hp hqt
          cases p with
          | true =>
            have HQ2 : Hid ((t.take (q + 1)).all id = true ∧ AllI w wr g n t) := Lib.hid ⟨by rw [take_snoc HQT.out, List.all_append, HQ.out.1]; rfl, HK.out⟩
            go_wp2_with fail
            go_roundw
            case rel => exact ⟨q + 1, by omega, by go_num, HQ2⟩
            case measure => simp [intOf]; omega
          | false =>
            have HF : Hid (t.all id = false) := Lib.hid (List.all_eq_false.2 ⟨false, List.mem_of_getElem? HQT.out, by simp⟩)
            go_wp2_with fail
            go_ret
            exact ⟨ret_bool (by rw [HA.out, HF.out]), HK.out.ext⟩
        · have hqn : q = n := by omega
          have hqi : ¬ (q : Int) < (n : Int) := by omega
          have HF : Hid (t.all id = true) := Lib.hid (by have := HQ.out.1; rwa [hqn, List.take_of_length_le (by rw [HK.out.len]; exact Nat.le_refl _)] at this)
          clear hqn
          go_wp2_with fail
          go_ret
          exact ⟨ret_bool (by rw [HA.out, HF.out]), HK.out.ext⟩
end Go.Proofs.YtgcbnagfdfgpnaaDoor
