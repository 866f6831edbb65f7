/- Parts of a proof, joined: JoinD, AskedD, JoinsD. -/
import Derived.Test.YtgcbnagfdfgpnaaDoorJoinP
import Derived.Test.YtgcbnagfdfgpnaaDoorShrinksAll4
import Derived.Test.YtgcbnagfdfgpnaaDoorShrinksAll24
section
namespace Go.Hx
open Go.RowKit
/-- the cells of numbers -/
def WI (l : List Nat) : List Value := l.map fun x : Nat => .int .i64 (x : Int)
theorem WI.len (l : List Nat) : (WI l).length = l.length := by simp [WI]
theorem WI.get {l : List Nat} {n x : Nat} (h : l[n]? = some x) : (WI l)[n]? = some (.int .i64 x) := by simp [WI, h]
theorem WI.set (l : List Nat) (n x : Nat) : (WI l).set n (.int .i64 x) = WI (l.set n x) := by simp [WI, List.map_set]
/-- groups in memory -/
structure JoinSt (w : World) (g3 g5 g1 n : Nat) (s : PJ) : Prop where
  grp : Blk w g3 163 (WI (s.g ++ List.replicate (8 - n) 0))
  cnt : Blk w g5 3 [.int .i64 s.cnt]
  num : Blk w g1 3 [.int .i64 n]
theorem JoinSt.ext {w w' : World} {g3 g5 g1 n : Nat} {s : PJ} (h : JoinSt w g3 g5 g1 n s) (k : Ext w w') : JoinSt w' g3 g5 g1 n s := ⟨h.grp.ext k, h.cnt.ext k, h.num.ext k⟩
theorem range_set (k : Nat) (hk : k < 8) : (List.range k ++ List.replicate (8 - k) 0).set k k = List.range (k + 1) ++ List.replicate (8 - (k + 1)) 0 := by
  obtain ⟨d, hd⟩ : ∃ d, 8 - k = d + 1 := ⟨7 - k, by omega⟩
  rw [hd, show 8 - (k + 1) = d by omega, List.replicate_succ, List.set_append_right _ _ (by simp), List.length_range, Nat.sub_self, List.set_cons_zero, List.range_succ]
  simp
theorem part_len (g : List Nat) (f : Nat → Nat) (k : Nat) : ((g.take k).map f ++ g.drop k).length = g.length := by simp; omega
theorem part_get {g : List Nat} {f : Nat → Nat} {k : Nat} (hk : k < g.length) : ((g.take k).map f ++ g.drop k)[k]? = some (gv g k) := by
  rw [List.getElem?_append_right (by simp; omega), List.length_map, List.length_take, Nat.min_eq_left (by omega), Nat.sub_self, List.getElem?_drop, Nat.add_zero]
  unfold gv
  rw [List.getElem?_eq_getElem hk]; rfl
theorem part_next {g : List Nat} {f : Nat → Nat} {k : Nat} (hk : k < g.length) : ((g.take k).map f ++ g.drop k).set k (f (gv g k)) = (g.take (k + 1)).map f ++ g.drop (k + 1) := by
  rw [List.set_append_right _ _ (by simp; omega), List.length_map, List.length_take, Nat.min_eq_left (by omega), Nat.sub_self, List.drop_eq_getElem_cons hk, List.set_cons_zero, List.take_succ_eq_append_getElem hk, List.map_append, List.append_assoc]
  unfold gv
  rw [List.getElem?_eq_getElem hk]; rfl
theorem set_same {l : List Nat} {k x : Nat} (h : l[k]? = some x) : l.set k x = l := by
  apply List.ext_getElem?
  intro j
  rw [List.getElem?_set]
  by_cases hj : k = j
  · subst hj
    obtain ⟨hlt, hx⟩ := List.getElem?_eq_some_iff.1 h
    rw [if_pos rfl, if_pos hlt, h]
  · rw [if_neg hj]
end Go.Hx
namespace Go.Proofs.YtgcbnagfdfgpnaaDoor
open Go.RowKit Go.Hx
set_option maxRecDepth 100000 in
set_option maxHeartbeats 1000000 in
theorem spread_joined (n : Nat) (w : World) (h2 : 2 ≤ n) (h8 : n ≤ 8) :
    Calls Tryd.prog 46 #[.int .i64 n] w fun e w' => ∃ g3 g5 g1 : Nat, e = .returned (.func (.func 97) #[] #[.pointer (some ⟨g3, 0, none⟩), .pointer (some ⟨g5, 0, none⟩), .pointer (some ⟨g1, 0, none⟩)]) ∧ JoinSt w' g3 g5 g1 n (initJ n) ∧ w.heap.size ≤ g3 ∧ w.heap.size ≤ g5 ∧ g3 ≠ g5 ∧ g1 ≠ g3 ∧ g1 ≠ g5 ∧ Ext w w' := by
  go_enter Tryd.func46, Tryd.ntmps46
  have BN0 : Blk ((w.alloc (.cells #[.int .i64 n] 3)).alloc (.cells (WI (List.replicate 8 0)).toArray 163)) w.heap.size 3 [.int .i64 n] := Blk.alloc (Blk.new rfl) _
  have BG0 : Blk ((w.alloc (.cells #[.int .i64 n] 3)).alloc (.cells (WI (List.replicate 8 0)).toArray 163)) (w.heap.size + 1) 163 (WI (List.replicate 8 0)) := Blk.new (by simp)
  have hE0 : Ext w ((w.alloc (.cells #[.int .i64 n] 3)).alloc (.cells (WI (List.replicate 8 0)).toArray 163)) := Ext.alloc' (Ext.alloc _ _) _
  have HS0 : Hid (Blk ((w.alloc (.cells #[.int .i64 n] 3)).alloc (.cells (WI (List.replicate 8 0)).toArray 163)) (w.heap.size + 1) 163 (WI (List.range 0 ++ List.replicate (8 - 0) 0)) ∧ Blk ((w.alloc (.cells #[.int .i64 n] 3)).alloc (.cells (WI (List.replicate 8 0)).toArray 163)) w.heap.size 3 [.int .i64 n] ∧ Ext w ((w.alloc (.cells #[.int .i64 n] 3)).alloc (.cells (WI (List.replicate 8 0)).toArray 163))) := Lib.hid ⟨BG0, BN0, hE0⟩
  clear BN0 BG0 hE0
  go_wp2_with fail
  go_loopw [7] (fun i wr => ∃ k : Nat, k ≤ n ∧ i = .int .i64 k ∧ Hid (Blk wr (w.heap.size + 1) 163 (WI (List.range k ++ List.replicate (8 - k) 0)) ∧ Blk wr w.heap.size 3 [.int .i64 n] ∧ Ext w wr)) (fun i _ => n - (intOf i).toNat)
  case atStart => exact ⟨0, by omega, rfl, HS0⟩
  case round =>
    obtain ⟨k, hk, rfl, HI⟩ := hrel
    clear HS0
    by_cases hlt : k < n
    · have hki : (k : Int) < (n : Int) := by omega
      have hk8 : (k : Int) < 8 := by omega
      have hlen : k < (WI (List.range k ++ List.replicate (8 - k) 0)).length := by rw [WI.len]; simp; omega
      have hc : wr.cell? ⟨w.heap.size + 1, k, none⟩ = some ((WI (List.range k ++ List.replicate (8 - k) 0))[k]) := by rw [HI.out.1.cell k]; exact List.getElem?_eq_getElem hlen
      obtain ⟨u, hu⟩ : ∃ u, (WI (List.range k ++ List.replicate (8 - k) 0))[k] = u := ⟨_, rfl⟩
      rw [hu] at hc
      have hf : wr.frozen? ⟨w.heap.size + 1, k, none⟩ = false := HI.out.1.free k
      have HI2 : Hid (Blk (wr.setCell ⟨w.heap.size + 1, k, none⟩ (.int .i64 k)) (w.heap.size + 1) 163 (WI (List.range (k + 1) ++ List.replicate (8 - (k + 1)) 0)) ∧ Blk (wr.setCell ⟨w.heap.size + 1, k, none⟩ (.int .i64 k)) w.heap.size 3 [.int .i64 n] ∧ Ext w (wr.setCell ⟨w.heap.size + 1, k, none⟩ (.int .i64 k))) := Lib.hid ⟨by
        have := HI.out.1.set k (.int .i64 k)
        rwa [WI.set, range_set k (by omega)] at this, HI.out.2.1.far (by show w.heap.size ≠ w.heap.size + 1; omega) _, HI.out.2.2.setCell' (by show w.heap.size ≤ w.heap.size + 1; omega) _⟩
      clear hlen hu
      go_wp2_with fail
      go_roundw
      case rel => exact ⟨k + 1, by omega, by go_num, HI2⟩
      case measure => simp [intOf]; omega
    · have hkn : k = n := by omega
      subst hkn
      have hki : ¬ (k : Int) < (k : Int) := by omega
      have hcn : wr.cell? ⟨w.heap.size, 0, none⟩ = some (.int .i64 k) := HI.out.2.1.cell 0
      have HL1 := Lib.hid HI.out.1.lt
      go_wp2_with fail
      go_ret
      exact ⟨w.heap.size + 1, wr.heap.size, w.heap.size, rfl, ⟨HI.out.1.alloc _, Blk.new rfl, HI.out.2.1.alloc _⟩, by omega, HI.out.2.2.size, by have := HL1.out; omega, by omega, by have := HL1.out; omega, HI.out.2.2.alloc' _⟩
attribute [local go_sem] detUpon undIn
set_option maxRecDepth 100000 in
set_option maxHeartbeats 1000000 in
theorem spread_join1 (B g3 g5 g1 n : Nat) (s : PJ) (x : PMeeting) (w : World) (hS : JoinSt w g3 g5 g1 n s) (hI : Inv n s) (hx : meetOk n x = true) (h8 : n ≤ 8) (hB3 : B ≤ g3) (hB5 : B ≤ g5) (h35 : g3 ≠ g5) (h13 : g1 ≠ g3) (h15 : g1 ≠ g5) :
    Calls Tryd.prog 97 #[.agg #[.int .i64 x.asks, .int .i64 x.asked], .pointer (some ⟨g3, 0, none⟩), .pointer (some ⟨g5, 0, none⟩), .pointer (some ⟨g1, 0, none⟩)] w fun e w' => e = .returned (.int .i64 (stepJ s x).cnt) ∧ JoinSt w' g3 g5 g1 n (stepJ s x) ∧ Below B w w' := by
  obtain ⟨ha, hb, hai, hbi, hab⟩ := meetOk_nat hx
  obtain ⟨xa, xb⟩ := x
  obtain ⟨a, rfl⟩ : ∃ a : Nat, xa = (a : Int) := ⟨xa.toNat, hai.symm⟩
  obtain ⟨b, rfl⟩ : ∃ b : Nat, xb = (b : Int) := ⟨xb.toNat, hbi.symm⟩
  simp only [Int.toNat_natCast] at ha hb
  obtain ⟨p, hp⟩ : ∃ p, gv s.g a = p := ⟨_, rfl⟩
  obtain ⟨q, hq⟩ : ∃ q, gv s.g b = q := ⟨_, rfl⟩
  have hSt : stepJ s ⟨a, b⟩ = ⟨s.g.map fun v => if v = p then q else v, if p = q then s.cnt else s.cnt - 1⟩ := by
    unfold stepJ
    simp only [Int.toNat_natCast, hp, hq]
  have hcn : 0 ≤ s.cnt ∧ s.cnt ≤ 8 := by
    have h1 := hI.cnt
    have h2 : (List.range n).countP (fun v => decide (v ∈ s.g)) ≤ (List.range n).length := List.countP_le_length
    rw [List.length_range] at h2
    omega
  have hlen := hI.len
  have hga : ∀ i v, i < n → gv s.g i = v → (WI (s.g ++ List.replicate (8 - n) 0))[i]? = some (.int .i64 v) := fun i v hi hv => by
    refine WI.get ?_
    rw [List.getElem?_append_left (by omega)]
    unfold gv at hv
    rw [List.getElem?_eq_getElem (by omega)] at hv
    rw [List.getElem?_eq_getElem (by omega), ← hv]; rfl
  have HCA : Hid ((WI (s.g ++ List.replicate (8 - n) 0))[a]? = some (.int .i64 p)) := Lib.hid (hga a p ha hp)
  have HCB : Hid ((WI (s.g ++ List.replicate (8 - n) 0))[b]? = some (.int .i64 q)) := Lib.hid (hga b q hb hq)
  have HLN := Lib.hid hlen
  have HS := Lib.hid hS
  have hB : B ≤ w.heap.size := Nat.le_trans hB3 (Nat.le_of_lt hS.grp.lt)
  obtain ⟨c9, hc9⟩ : ∃ c, (if p = q then s.cnt else s.cnt - 1) = c := ⟨_, rfl⟩
  obtain ⟨gm, hgm⟩ : ∃ g, s.g.map (fun v => if v = p then q else v) = g := ⟨_, rfl⟩
  rw [hc9, hgm] at hSt
  rw [hSt]
  have HGM := Lib.hid hgm
  clear hgm
  clear hS hI hx hai hbi hab hp hq hlen hga hSt
  have ha8 : (a : Int) < 8 := by omega
  have hb8 : (b : Int) < 8 := by omega
  go_enter Tryd.func97, Tryd.ntmps97
  obtain ⟨W1, hW1⟩ : ∃ W, W = w.alloc (.cells #[.int .i64 a, .int .i64 b] 37) := ⟨_, rfl⟩
  have HS1 : Hid (JoinSt W1 g3 g5 g1 n s) := Lib.hid (by rw [hW1]; exact HS.out.ext (Ext.alloc _ _))
  have HX1 : Hid (Blk W1 w.heap.size 37 [.int .i64 a, .int .i64 b]) := Lib.hid (by rw [hW1]; exact Blk.new rfl)
  have HBW : Hid (Below B w W1) := Lib.hid (by rw [hW1]; exact (Below.refl _ _).alloc hB _)
  have hca : W1.cell? ⟨g3, a, none⟩ = some (.int .i64 p) := by rw [HS1.out.grp.cell a]; exact HCA.out
  have hcb : W1.cell? ⟨g3, b, none⟩ = some (.int .i64 q) := by rw [HS1.out.grp.cell b]; exact HCB.out
  have hx0 : W1.cell? ⟨w.heap.size, 0, none⟩ = some (.int .i64 a) := HX1.out.cell 0
  have hx1 : W1.cell? ⟨w.heap.size, 1, none⟩ = some (.int .i64 b) := HX1.out.cell 1
  go_wp2_with fail
  rw [← hW1]
  clear hW1
  go_quiet (fail)
  obtain ⟨W2, hW2⟩ : ∃ W, W = W1.drewN nq := ⟨_, rfl⟩
  have HG2 : Hid (Blk W2 g3 163 (WI (s.g ++ List.replicate (8 - n) 0))) := Lib.hid (by rw [hW2]; exact HS1.out.grp.drewN _)
  have HC2 : Hid (Blk W2 g5 3 [.int .i64 s.cnt]) := Lib.hid (by rw [hW2]; exact HS1.out.cnt.drewN _)
  have HN2 : Hid (Blk W2 g1 3 [.int .i64 n]) := Lib.hid (by rw [hW2]; exact HS1.out.num.drewN _)
  have HB2 : Hid (Below B w W2) := Lib.hid (by rw [hW2]; exact HBW.out.trans (Below.drewN _ _))
  rw [← hW2]
  clear hW2 hca hcb hx0 hx1
  have hcn2 : W2.cell? ⟨g1, 0, none⟩ = some (.int .i64 n) := HN2.out.cell 0
  by_cases hpq : p = q
  · have d1 : ((p : Int) != (q : Int)) = false := by simp [hpq]
    have HPQ := Lib.hid (show c9 = s.cnt by rw [← hc9]; exact if_pos hpq)
    have HS9 : Hid (Blk W2 g3 163 (WI (((s.g.take 0).map (fun v => if v = p then q else v) ++ s.g.drop 0) ++ List.replicate (8 - n) 0)) ∧ Blk W2 g5 3 [.int .i64 (s.cnt)] ∧ Blk W2 g1 3 [.int .i64 n] ∧ Below B w W2) := Lib.hid ⟨by simpa using HG2.out, HC2.out, HN2.out, HB2.out⟩
    clear hpq hc9
    go_wp2_with fail
    go_loopw [23] (fun i wr => ∃ k : Nat, k ≤ n ∧ i = .int .i64 k ∧ Hid (Blk wr g3 163 (WI (((s.g.take k).map (fun v => if v = p then q else v) ++ s.g.drop k) ++ List.replicate (8 - n) 0)) ∧ Blk wr g5 3 [.int .i64 (s.cnt)] ∧ Blk wr g1 3 [.int .i64 n] ∧ Below B w wr)) (fun i _ => n - (intOf i).toNat)
    case atStart => exact ⟨0, by omega, rfl, HS9⟩
    case round =>
      obtain ⟨k, hk, rfl, HI⟩ := hrel
      clear HS9
      by_cases hlt : k < n
      · have hki : (k : Int) < (n : Int) := by omega
        have hk8 : (k : Int) < 8 := by omega
        obtain ⟨v, hv⟩ : ∃ v, gv s.g k = v := ⟨_, rfl⟩
        have hkg : k < s.g.length := by rw [HLN.out]; exact hlt
        have hget : (((s.g.take k).map (fun v => if v = p then q else v) ++ s.g.drop k) ++ List.replicate (8 - n) 0)[k]? = some v := by
          rw [List.getElem?_append_left (by rw [part_len]; exact hkg), part_get hkg, hv]
        have hck : wr.cell? ⟨g3, k, none⟩ = some (.int .i64 v) := by rw [HI.out.1.cell k]; exact WI.get hget
        have hfk : wr.frozen? ⟨g3, k, none⟩ = false := HI.out.1.free k
        have hnx := part_next (f := (fun v => if v = p then q else v)) hkg
        by_cases hvp : v = p
        · have d2 : ((v : Int) == (p : Int)) = true := by simp [hvp]
          have HI2 : Hid (Blk (wr.setCell ⟨g3, k, none⟩ (.int .i64 q)) g3 163 (WI (((s.g.take (k + 1)).map (fun v => if v = p then q else v) ++ s.g.drop (k + 1)) ++ List.replicate (8 - n) 0)) ∧ Blk (wr.setCell ⟨g3, k, none⟩ (.int .i64 q)) g5 3 [.int .i64 (s.cnt)] ∧ Blk (wr.setCell ⟨g3, k, none⟩ (.int .i64 q)) g1 3 [.int .i64 n] ∧ Below B w (wr.setCell ⟨g3, k, none⟩ (.int .i64 q))) := Lib.hid ⟨by
            have := HI.out.1.set k (.int .i64 q)
            rw [WI.set, List.set_append_left _ _ (by rw [part_len]; exact hkg)] at this
            rw [hv, if_pos hvp] at hnx
            rw [← hnx]; exact this, HI.out.2.1.far (Ne.symm h35) _, HI.out.2.2.1.far h13 _, HI.out.2.2.2.setCell hB3 _⟩
          clear hget hnx hkg hv hvp
          go_wp2_with fail
          go_roundw
          case rel => exact ⟨k + 1, by omega, by go_num, HI2⟩
          case measure => simp [intOf]; omega
        · have d2 : ((v : Int) == (p : Int)) = false := by rw [beq_eq_false_iff_ne]; omega
          have HI2 : Hid (Blk wr g3 163 (WI (((s.g.take (k + 1)).map (fun v => if v = p then q else v) ++ s.g.drop (k + 1)) ++ List.replicate (8 - n) 0)) ∧ Blk wr g5 3 [.int .i64 (s.cnt)] ∧ Blk wr g1 3 [.int .i64 n] ∧ Below B w wr) := Lib.hid ⟨by
            rw [hv, if_neg hvp, set_same (by rw [part_get hkg, hv])] at hnx
            rw [← hnx]; exact HI.out.1, HI.out.2⟩
          clear hget hnx hkg hv hvp
          go_wp2_with fail
          go_roundw
          case rel => exact ⟨k + 1, by omega, by go_num, HI2⟩
          case measure => simp [intOf]; omega
      · have hkn : k = n := by omega
        subst hkn
        have hki : ¬ (k : Int) < (k : Int) := by omega
        have hc5 : wr.cell? ⟨g5, 0, none⟩ = some (.int .i64 (s.cnt)) := HI.out.2.1.cell 0
        go_wp2_with fail
        go_ret
        refine ⟨by rw [HPQ.out] <;> rfl, ⟨?_, by rw [HPQ.out]; exact HI.out.2.1, HI.out.2.2.1⟩, HI.out.2.2.2⟩
        have h9 := HI.out.1
        rwa [List.take_of_length_le (by rw [HLN.out]; exact Nat.le_refl _), List.drop_eq_nil_of_le (by rw [HLN.out]; exact Nat.le_refl _), List.append_nil, HGM.out] at h9
  · have d1 : ((p : Int) != (q : Int)) = true := by rw [bne_iff_ne]; omega
    have HPQ := Lib.hid (show c9 = s.cnt - 1 by rw [← hc9]; exact if_neg hpq)
    have hsub : IntKind.i64.wrap (s.cnt - 1) = s.cnt - 1 := by rw [IntWalk.i64_in _ (by omega)]
    have hc5 : W2.cell? ⟨g5, 0, none⟩ = some (.int .i64 s.cnt) := HC2.out.cell 0
    have hf5 : W2.frozen? ⟨g5, 0, none⟩ = false := HC2.out.free 0
    have HS9 : Hid (Blk (W2.setCell ⟨g5, 0, none⟩ (.int .i64 (s.cnt - 1))) g3 163 (WI (((s.g.take 0).map (fun v => if v = p then q else v) ++ s.g.drop 0) ++ List.replicate (8 - n) 0)) ∧ Blk (W2.setCell ⟨g5, 0, none⟩ (.int .i64 (s.cnt - 1))) g5 3 [.int .i64 (s.cnt - 1)] ∧ Blk (W2.setCell ⟨g5, 0, none⟩ (.int .i64 (s.cnt - 1))) g1 3 [.int .i64 n] ∧ Below B w (W2.setCell ⟨g5, 0, none⟩ (.int .i64 (s.cnt - 1)))) := Lib.hid ⟨by simpa using HG2.out.far (p := ⟨g5, 0, none⟩) h35 (.int .i64 (s.cnt - 1)), HC2.out.set 0 _, HN2.out.far h15 _, HB2.out.setCell hB5 _⟩
    have hcn3 : (W2.setCell ⟨g5, 0, none⟩ (.int .i64 (s.cnt - 1))).cell? ⟨g1, 0, none⟩ = some (.int .i64 n) := HS9.out.2.2.1.cell 0
    clear hpq hc9
    go_wp2_with fail
    go_loopw [23] (fun i wr => ∃ k : Nat, k ≤ n ∧ i = .int .i64 k ∧ Hid (Blk wr g3 163 (WI (((s.g.take k).map (fun v => if v = p then q else v) ++ s.g.drop k) ++ List.replicate (8 - n) 0)) ∧ Blk wr g5 3 [.int .i64 (s.cnt - 1)] ∧ Blk wr g1 3 [.int .i64 n] ∧ Below B w wr)) (fun i _ => n - (intOf i).toNat)
    case atStart => exact ⟨0, by omega, rfl, HS9⟩
    case round =>
      obtain ⟨k, hk, rfl, HI⟩ := hrel
      clear HS9
      by_cases hlt : k < n
      · have hki : (k : Int) < (n : Int) := by omega
        have hk8 : (k : Int) < 8 := by omega
        obtain ⟨v, hv⟩ : ∃ v, gv s.g k = v := ⟨_, rfl⟩
        have hkg : k < s.g.length := by rw [HLN.out]; exact hlt
        have hget : (((s.g.take k).map (fun v => if v = p then q else v) ++ s.g.drop k) ++ List.replicate (8 - n) 0)[k]? = some v := by
          rw [List.getElem?_append_left (by rw [part_len]; exact hkg), part_get hkg, hv]
        have hck : wr.cell? ⟨g3, k, none⟩ = some (.int .i64 v) := by rw [HI.out.1.cell k]; exact WI.get hget
        have hfk : wr.frozen? ⟨g3, k, none⟩ = false := HI.out.1.free k
        have hnx := part_next (f := (fun v => if v = p then q else v)) hkg
        by_cases hvp : v = p
        · have d2 : ((v : Int) == (p : Int)) = true := by simp [hvp]
          have HI2 : Hid (Blk (wr.setCell ⟨g3, k, none⟩ (.int .i64 q)) g3 163 (WI (((s.g.take (k + 1)).map (fun v => if v = p then q else v) ++ s.g.drop (k + 1)) ++ List.replicate (8 - n) 0)) ∧ Blk (wr.setCell ⟨g3, k, none⟩ (.int .i64 q)) g5 3 [.int .i64 (s.cnt - 1)] ∧ Blk (wr.setCell ⟨g3, k, none⟩ (.int .i64 q)) g1 3 [.int .i64 n] ∧ Below B w (wr.setCell ⟨g3, k, none⟩ (.int .i64 q))) := Lib.hid ⟨by
            have := HI.out.1.set k (.int .i64 q)
            rw [WI.set, List.set_append_left _ _ (by rw [part_len]; exact hkg)] at this
            rw [hv, if_pos hvp] at hnx
            rw [← hnx]; exact this, HI.out.2.1.far (Ne.symm h35) _, HI.out.2.2.1.far h13 _, HI.out.2.2.2.setCell hB3 _⟩
          clear hget hnx hkg hv hvp
          go_wp2_with fail
          go_roundw
          case rel => exact ⟨k + 1, by omega, by go_num, HI2⟩
          case measure => simp [intOf]; omega
        · have d2 : ((v : Int) == (p : Int)) = false := by rw [beq_eq_false_iff_ne]; omega
          have HI2 : Hid (Blk wr g3 163 (WI (((s.g.take (k + 1)).map (fun v => if v = p then q else v) ++ s.g.drop (k + 1)) ++ List.replicate (8 - n) 0)) ∧ Blk wr g5 3 [.int .i64 (s.cnt - 1)] ∧ Blk wr g1 3 [.int .i64 n] ∧ Below B w wr) := Lib.hid ⟨by
            rw [hv, if_neg hvp, set_same (by rw [part_get hkg, hv])] at hnx
            rw [← hnx]; exact HI.out.1, HI.out.2⟩
          clear hget hnx hkg hv hvp
          go_wp2_with fail
          go_roundw
          case rel => exact ⟨k + 1, by omega, by go_num, HI2⟩
          case measure => simp [intOf]; omega
      · have hkn : k = n := by omega
        subst hkn
        have hki : ¬ (k : Int) < (k : Int) := by omega
        have hc5 : wr.cell? ⟨g5, 0, none⟩ = some (.int .i64 (s.cnt - 1)) := HI.out.2.1.cell 0
        go_wp2_with fail
        go_ret
        refine ⟨by rw [HPQ.out] <;> rfl, ⟨?_, by rw [HPQ.out]; exact HI.out.2.1, HI.out.2.2.1⟩, HI.out.2.2.2⟩
        have h9 := HI.out.1
        rwa [List.take_of_length_le (by rw [HLN.out]; exact Nat.le_refl _), List.drop_eq_nil_of_le (by rw [HLN.out]; exact Nat.le_refl _), List.append_nil, HGM.out] at h9
end Go.Proofs.YtgcbnagfdfgpnaaDoor
end
section
namespace Go.Proofs.YtgcbnagfdfgpnaaDoor
open Go.RowKit Go.Hx
set_option maxRecDepth 100000 in
set_option maxHeartbeats 1000000 in
theorem spread_asked (n : Int) (m : LX PMeeting) (w : World) (hm : m.ok w w.heap.size PMeeting.cells) :
    Calls Tryd.prog 45 #[.int .i64 n, .slice m.A m.l.length m.c] w fun e w' => e = .returned (.int .i64 (askedP n m.l)) ∧ Ext w w' := by
  obtain ⟨l, A, c⟩ := m
  obtain ⟨hx, hx1, hx2⟩ := hm
  dsimp only at *
  unfold maxLen at hx2
  have HX := Lib.hid hx
  clear hx
  by_cases h2 : n < 2
  · have d2 : decide (n < 2) = true := decide_eq_true h2
    have HV : Hid (askedP n l = 2) := Lib.hid (by unfold askedP; rw [if_pos (.inl h2)])
    clear h2
    go_enter Tryd.func45, Tryd.ntmps45
    go_wp2_with fail
    go_ret
    exact ⟨by rw [HV.out] <;> rfl, Ext.refl _⟩
  · have d2 : decide (n < 2) = false := decide_eq_false h2
    by_cases h8 : 8 < n
    · have d8 : decide (8 < n) = true := decide_eq_true h8
      have HV : Hid (askedP n l = 2) := Lib.hid (by unfold askedP; rw [if_pos (.inr h8)])
      clear h2 h8
      go_enter Tryd.func45, Tryd.ntmps45
      go_wp2_with fail
      go_ret
      exact ⟨by rw [HV.out] <;> rfl, Ext.refl _⟩
    · have d8 : decide (8 < n) = false := decide_eq_false h8
      by_cases h64 : 64 < l.length
      · have d64 : decide ((64 : Int) < (l.length : Int)) = true := decide_eq_true (by omega)
        have HV : Hid (askedP n l = 4) := Lib.hid (by unfold askedP; rw [if_neg (by omega), if_pos h64])
        have h64i : (64 : Int) < (l.length : Int) := by omega
        clear h2 h8 h64
        go_enter Tryd.func45, Tryd.ntmps45
        go_wp2_with fail
        go_ret
        exact ⟨by rw [HV.out] <;> rfl, Ext.refl _⟩
      · have h64i : ¬ (64 : Int) < (l.length : Int) := by omega
        have d64 : decide ((64 : Int) < (l.length : Int)) = false := decide_eq_false (by omega)
        have HR : Hid (¬ (n < 2 ∨ 8 < n) ∧ ¬ 64 < l.length) := Lib.hid ⟨by omega, h64⟩
        clear h2 h8 h64
        go_enter Tryd.func45, Tryd.ntmps45
        go_wp2_with fail
        go_loopw [18] (fun i wr => ∃ k : Nat, k ≤ l.length ∧ i = .int .i64 k ∧ Hid ((∀ z ∈ l.take k, meetOk n z = true) ∧ Ext w wr)) (fun i _ => l.length - (intOf i).toNat)
        case atStart => exact ⟨0, Nat.zero_le _, rfl, Lib.hid ⟨by simp, Ext.refl _⟩⟩
        case round =>
          obtain ⟨k, hk, rfl, HI⟩ := hrel
          by_cases hlt : k < l.length
          · obtain ⟨z, hz⟩ : ∃ z, l[k]? = some z := ⟨_, List.getElem?_eq_getElem hlt⟩
            obtain ⟨b1, o1, rfl, hb1, r1⟩ := Sl.row (size := 2) (fun _ => rfl) (HX.out.below HI.out.2.below) hz
            have g0 := r1 0 _ rfl
            have g1 := r1 1 _ rfl
            simp only [Nat.add_zero] at g0 g1
            have HZ := Lib.hid hz
            clear hz r1
            have hl : (k : Int) < (l.length : Int) := by omega
            obtain ⟨za, zb⟩ := z
            by_cases hok : meetOk n ⟨za, zb⟩ = true
            · have hh := of_decide_eq_true hok
              dsimp only at hh
              have d1 : decide (min za zb < 0) = false := decide_eq_false (by omega)
              have d3 : decide (n ≤ max za zb) = false := decide_eq_false (by omega)
              have d4 : (za == zb) = false := by rw [beq_eq_false_iff_ne]; exact hh.2.2.2.2
              have HI2 : Hid (∀ z ∈ l.take (k + 1), meetOk n z = true) := Lib.hid fun y hy => by
                rw [List.take_add_one, HZ.out] at hy
                rcases List.mem_append.1 hy with h | h
                · exact HI.out.1 y h
                · simp only [Option.toList_some, List.mem_singleton] at h
                  rw [h]; exact hok
              clear hok hh
              go_wp2_with fail
              go_roundw
              case rel => exact ⟨k + 1, by omega, by go_num, Lib.hid ⟨HI2.out, HI.out.2.alloc' _⟩⟩
              case measure => simp [intOf]; omega
            · have hbad : ¬ meetOk n ⟨za, zb⟩ = true := hok
              by_cases c1 : min za zb < 0
              · have d1 : decide (min za zb < 0) = true := decide_eq_true c1
                clear c1 hok
                have HBAD : Hid (askedP n l = 2) := Lib.hid (by unfold askedP; rw [if_neg HR.out.1, if_neg HR.out.2, if_neg (fun h => hbad (List.all_eq_true.1 h ⟨za, zb⟩ (List.mem_of_getElem? HZ.out)))])
                clear hbad
                go_wp2_with fail
                go_ret
                exact ⟨by rw [HBAD.out] <;> rfl, HI.out.2.alloc' _⟩
              · have d1 : decide (min za zb < 0) = false := decide_eq_false c1
                by_cases c2 : n ≤ max za zb
                · have d3 : decide (n ≤ max za zb) = true := decide_eq_true c2
                  clear c1 c2 hok
                  have HBAD : Hid (askedP n l = 2) := Lib.hid (by unfold askedP; rw [if_neg HR.out.1, if_neg HR.out.2, if_neg (fun h => hbad (List.all_eq_true.1 h ⟨za, zb⟩ (List.mem_of_getElem? HZ.out)))])
                  clear hbad
                  go_wp2_with fail
                  go_ret
                  exact ⟨by rw [HBAD.out] <;> rfl, HI.out.2.alloc' _⟩
                · have d3 : decide (n ≤ max za zb) = false := decide_eq_false c2
                  have hab : za = zb := by
                    refine Classical.byContradiction fun h => hok (decide_eq_true ?_)
                    dsimp only
                    omega
                  have d4 : (za == zb) = true := by simp [hab]
                  clear c1 c2 hok hab
                  have HBAD : Hid (askedP n l = 2) := Lib.hid (by unfold askedP; rw [if_neg HR.out.1, if_neg HR.out.2, if_neg (fun h => hbad (List.all_eq_true.1 h ⟨za, zb⟩ (List.mem_of_getElem? HZ.out)))])
                  clear hbad
                  go_wp2_with fail
                  go_ret
                  exact ⟨by rw [HBAD.out] <;> rfl, HI.out.2.alloc' _⟩
          · have HV : Hid (askedP n l = 0) := Lib.hid (by
              unfold askedP
              rw [if_neg HR.out.1, if_neg HR.out.2, if_pos (List.all_eq_true.2 (fun z hz => HI.out.1 z (by rw [List.take_of_length_le (by omega)]; exact hz)))])
            have hki : ¬ (k : Int) < (l.length : Int) := by omega
            go_wp2_with fail
            go_ret
            exact ⟨by rw [HV.out] <;> rfl, HI.out.2⟩
end Go.Proofs.YtgcbnagfdfgpnaaDoor
end
section
namespace Go.Hx
open Go.RowKit
theorem fold_next {s : PJ} {l : List PMeeting} {k : Nat} {z : PMeeting} (h : l[k]? = some z) : foldJ s (l.take (k + 1)) = stepJ (foldJ s (l.take k)) z := by
  unfold foldJ
  rw [List.take_add_one, h, List.foldl_append]; rfl
theorem fold_inv {n : Nat} : ∀ (l : List PMeeting) (s : PJ), Inv n s → (∀ x ∈ l, meetOk n x = true) → Inv n (foldJ s l)
  | [], _, h, _ => h
  | x :: l, s, h, hl => fold_inv l (stepJ s x) (h.step (hl x (List.mem_cons_self ..))) (fun y hy => hl y (List.mem_cons_of_mem _ hy))
/-- the joiner behind meetings -/
structure JnI (w wr : World) (g3 g5 g1 n : Nat) (s : PJ) : Prop where
  st : JoinSt wr g3 g5 g1 n s
  inv : Inv n s
  ext : Ext w wr
end Go.Hx
namespace Go.Proofs.YtgcbnagfdfgpnaaDoor
open Go.RowKit Go.Hx
set_option maxRecDepth 100000 in
set_option maxHeartbeats 1000000 in
theorem spread_Joins (n : Int) (m : LX PMeeting) (w : World) (hm : m.ok w w.heap.size PMeeting.cells) :
    Calls Tryd.prog 16 #[.int .i64 n, .slice m.A m.l.length m.c] w fun e w' => e = .returned (.tuple #[.bool (joinsP n m.l).1, .int .i64 (joinsP n m.l).2]) ∧ Ext w w' := by
  have HM := Lib.hid hm
  by_cases h0 : askedP n m.l = 0
  · obtain ⟨l, A, c⟩ := m
    obtain ⟨h2, h8, hl64, hall⟩ := asked_ok h0
    dsimp only at h0 h2 h8 hl64 hall
    obtain ⟨N, rfl⟩ : ∃ N : Nat, n = (N : Int) := ⟨n.toNat, by omega⟩
    have h2' : 2 ≤ N := by omega
    have h8' : N ≤ 8 := by omega
    obtain ⟨hx, hx1, hx2⟩ := hm
    dsimp only at hx
    have HX := Lib.hid hx
    have HALL := Lib.hid hall
    have HA := Lib.hid h0
    have HR : Hid (joinsP N l = (decide ((foldJ (initJ N) l).cnt = 1), 0)) := Lib.hid (by unfold joinsP; rw [if_pos h0, Int.toNat_natCast])
    clear hx h0 hall h2 h8
    go_enter Tryd.func16, Tryd.ntmps16
    go_wp2_with fail
    refine (spread_asked N ⟨l, A, c⟩ _ HM.out).mono ?_
    rw [HA.out]
    rintro e w1 ⟨rfl, hE1⟩
    have HE1 := Lib.hid hE1
    clear hE1
    go_wp2_with fail
    refine (spread_joined N _ h2' h8').mono ?_
    rintro e w2 ⟨g3, g5, g1, rfl, hS, hg3, hg5, h35, h13, h15, hE2⟩
    have HG : Hid (w.heap.size ≤ g3 ∧ w.heap.size ≤ g5 ∧ g3 ≠ g5 ∧ g1 ≠ g3 ∧ g1 ≠ g5) := Lib.hid ⟨Nat.le_trans HE1.out.size hg3, Nat.le_trans HE1.out.size hg5, h35, h13, h15⟩
    have HJ0 : Hid (JnI w w2 g3 g5 g1 N (foldJ (initJ N) (l.take 0))) := Lib.hid ⟨hS, Inv.init N, HE1.out.trans hE2⟩
    clear hS hg3 hg5 h35 h13 h15 hE2
    go_wp2_with fail
    go_loopw [8, 22] (fun c i wr => ∃ k : Nat, ∃ ct : Int, k ≤ l.length ∧ i = .int .i64 k ∧ c = .int .i64 ct ∧ Hid (ct = (foldJ (initJ N) (l.take k)).cnt) ∧ Hid (JnI w wr g3 g5 g1 N (foldJ (initJ N) (l.take k)))) (fun _ i _ => l.length - (intOf i).toNat)
    case atStart => exact ⟨0, N, by omega, rfl, rfl, Lib.hid rfl, HJ0⟩
    case round =>
      obtain ⟨k, ct, hk, rfl, rfl, HC, HI⟩ := hrel
      clear HJ0
      by_cases hlt : k < l.length
      · obtain ⟨z, hz⟩ : ∃ z, l[k]? = some z := ⟨_, List.getElem?_eq_getElem hlt⟩
        obtain ⟨b1, o1, rfl, hb1, r1⟩ := Sl.row (size := 2) (fun _ => rfl) (HX.out.below HI.out.ext.below) hz
        have g0 := r1 0 _ rfl
        have g1' := r1 1 _ rfl
        simp only [Nat.add_zero] at g0 g1'
        have HZ := Lib.hid hz
        have HOK := Lib.hid (HALL.out z (List.mem_of_getElem? hz))
        clear hz r1
        have hli : (k : Int) < (l.length : Int) := by omega
        obtain ⟨za, zb⟩ := z
        go_wp2_with fail
        refine (spread_join1 w.heap.size g3 g5 g1 N _ ⟨za, zb⟩ _ (HI.out.st.ext (Ext.alloc _ _)) HI.out.inv HOK.out h8' HG.out.1 HG.out.2.1 HG.out.2.2.1 HG.out.2.2.2.1 HG.out.2.2.2.2).mono ?_
        rintro e w3 ⟨rfl, hS3, hB3⟩
        have HI2 : Hid (JnI w w3 g3 g5 g1 N (foldJ (initJ N) (l.take (k + 1)))) := Lib.hid (by
          rw [fold_next HZ.out]
          exact ⟨hS3, HI.out.inv.step HOK.out, Below.trans (HI.out.ext.alloc' _) hB3⟩)
        have HC2 : Hid ((stepJ (foldJ (initJ N) (l.take k)) ⟨za, zb⟩).cnt = (foldJ (initJ N) (l.take (k + 1))).cnt) := Lib.hid (by rw [fold_next HZ.out])
        obtain ⟨ct2, hct2⟩ : ∃ t, (stepJ (foldJ (initJ N) (l.take k)) ⟨za, zb⟩).cnt = t := ⟨_, rfl⟩
        rw [hct2] at HC2 ⊢
        clear hS3 hB3 hct2
        go_wp2_with fail
        go_roundw
        case rel => exact ⟨k + 1, ct2, by omega, by go_num, rfl, HC2, HI2⟩
        case measure => simp [intOf]; omega
      · have hki : ¬ (k : Int) < (l.length : Int) := by omega
        have HF : Hid ((ct == 1) = decide ((foldJ (initJ N) l).cnt = 1)) := Lib.hid (by
          rw [HC.out, List.take_of_length_le (by omega)]; rfl)
        go_wp2_with fail
        go_ret2
        exact ⟨by rw [HR.out, ← HF.out] <;> rfl, HI.out.ext⟩
  · have HV : Hid (joinsP n m.l = (false, askedP n m.l)) := Lib.hid (by unfold joinsP; rw [if_neg h0])
    obtain ⟨v, hv⟩ : ∃ v, askedP n m.l = v := ⟨_, rfl⟩
    rw [hv] at HV h0
    have HVV := Lib.hid hv
    have d0 : (v != 0) = true := by simpa using h0
    rw [HV.out]
    clear h0 hm hv
    go_enter Tryd.func16, Tryd.ntmps16
    go_wp2_with fail
    refine (spread_asked n m _ HM.out).mono ?_
    rw [HVV.out]
    rintro e w1 ⟨rfl, hE1⟩
    go_wp2_with fail
    go_ret2
    exact ⟨rfl, hE1⟩
end Go.Proofs.YtgcbnagfdfgpnaaDoor
end
