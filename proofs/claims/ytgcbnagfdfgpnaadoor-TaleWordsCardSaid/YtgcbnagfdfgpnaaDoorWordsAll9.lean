/- Parts of a proof, joined: FormD, HalfD. -/
import Derived.Test.YtgcbnagfdfgpnaaDoorWordsAll8
import Derived.Test.YtgcbnagfdfgpnaaDoorWordsAll32
import Derived.Test.YtgcbnagfdfgpnaaDoorWordsAll2
import Derived.Test.YtgcbnagfdfgpnaaDoorWordsAll28
import Derived.Test.YtgcbnagfdfgpnaaDoorWordsAll17
section
namespace Go.Hx
open Go.RowKit
theorem flat32 : ∀ l : List Nat, l.flatMap cU32 = W32 l
  | [] => rfl
  | x :: l => by rw [List.flatMap_cons, flat32 l]; rfl
theorem own_w32 {w : World} {base e g n : Nat} {l : List Nat} (h : Go.Hx.Own w base e 1 cU32 (.slice (some ⟨g, 0, none⟩) n n) l) (hn : l.length = n) : Blk w g e (W32 l) := by
  subst hn
  obtain ⟨cur, hB, _, _, _, hl, ht⟩ := Go.Hx.Own.blk h
  rw [Nat.mul_one] at hl ht
  rw [List.take_of_length_le (by omega), flat32] at ht
  rw [← ht]; exact hB
theorem w32_own {w : World} {base e g : Nat} {l : List Nat} (hB : Blk w g e (W32 l)) (hb : base ≤ g) (hm : l.length ≤ maxLen) : Go.Hx.Own w base e 1 cU32 (.slice (some ⟨g, 0, none⟩) l.length l.length) l :=
  Go.Hx.Own.of_blk (fun _ => rfl) hB hb (Nat.le_refl _) hm (by rw [W32.len, Nat.mul_one]) (by rw [Nat.mul_one, List.take_of_length_le (by rw [W32.len]; exact Nat.le_refl _), flat32])
theorem blk_type {w : World} {g t t' : Nat} {cs cs' : List Value} (h : Blk w g t cs) (k : Blk w g t' cs') : t = t' := by
  unfold Blk at h k
  rw [h] at k
  simp only [Option.some.injEq, Obj.cells.injEq] at k
  exact k.2.1
theorem tz_le_bl {n : Nat} (h : n ≠ 0) : tz n ≤ bl n := by
  obtain ⟨h1, h2⟩ := tz_spec h
  have h3 : 2 ^ tz n * 1 ≤ 2 ^ tz n * (n / 2 ^ tz n) := Nat.mul_le_mul_left _ (Nat.pos_of_ne_zero (fun h => by rw [h] at h2; cases h2))
  rcases Nat.lt_or_ge (bl n) (tz n) with h4 | h4
  · exfalso
    have h5 := bl_le.1 (Nat.le_refl (bl n))
    have h6 : 2 ^ bl n ≤ 2 ^ tz n := Nat.pow_le_pow_right (by omega) (by omega)
    omega
  · exact h4
theorem tz_lt {n k : Nat} (h : n ≠ 0) (hk : n < 2 ^ k) : tz n < k := by
  obtain ⟨h1, h2⟩ := tz_spec h
  have h3 : 2 ^ tz n * 1 ≤ 2 ^ tz n * (n / 2 ^ tz n) := Nat.mul_le_mul_left _ (Nat.pos_of_ne_zero (fun h => by rw [h] at h2; cases h2))
  rcases Nat.lt_or_ge (tz n) k with h4 | h4
  · exact h4
  · exfalso
    have h6 : 2 ^ k ≤ 2 ^ tz n := Nat.pow_le_pow_right (by omega) (by omega)
    omega
/-- the limbs that are made, one by one -/
structure FrmI (w wr : World) (zb g8 gs n N lw : Nat) (co : List Value) (j : Nat) (o : List Nat) : Prop where
  len : o.length = n
  done' : ∀ t, t < j → o[t]?.getD 0 = N / 2 ^ lw / B32 ^ t % B32
  blk : Blk wr gs 33 (W32 o)
  oblk : Blk wr g8 24 co
  zblk : Blk wr zb 24 [.bool false, .slice none 0 0, .int .i64 0]
  ext : Ext w wr
theorem FrmI.next {w wr w2 : World} {zb g8 gs n N lw j z : Nat} {co : List Value} {o : List Nat} (h : FrmI w wr zb g8 gs n N lw co j o) (hj : j < n) (hz : N / 2 ^ lw / B32 ^ j % B32 = z) (h1 : Blk w2 gs 33 (W32 (o.set j z))) (h2 : Blk w2 g8 24 co) (h3 : Blk w2 zb 24 [.bool false, .slice none 0 0, .int .i64 0]) (h4 : Ext w w2) : FrmI w w2 zb g8 gs n N lw co (j + 1) (o.set j z) :=
  ⟨by simp [h.len], fun t ht => by
    rw [getD_set _ _ _ _ (by rw [h.len]; exact hj)]
    by_cases hjt : j = t
    · subst hjt; rw [if_pos rfl, hz]
    · rw [if_neg hjt]; exact h.done' t (by omega), h1, h2, h3, h4⟩
theorem FrmI.done {w wr : World} {zb g8 gs n N lw : Nat} {co : List Value} {o : List Nat} (h : FrmI w wr zb g8 gs n N lw co n o) (hn : (digs B32 (N / 2 ^ lw)).length = n) : o = digs B32 (N / 2 ^ lw) := by
  apply List.ext_getElem?
  intro t
  by_cases ht : t < n
  · rw [digs_get (by decide) (by rw [hn]; exact ht), ← h.done' t ht, List.getElem?_eq_getElem (by rw [h.len]; exact ht)]; rfl
  · rw [List.getElem?_eq_none (by rw [h.len]; omega), List.getElem?_eq_none (by rw [hn]; omega)]
end Go.Hx
namespace Go.Proofs.YtgcbnagfdfgpnaaDoor
open Go.RowKit Go.Hx
theorem idx_wide (w : World) (l : List Nat) (j x : Nat) (hj : j < 74) (h : (W32 l)[j]? = some (.int .u32 x)) : (Instr.index 136 (.agg (W32 l).toArray) (.int .i64 j)).run Tryd.prog w = .ok (.int .u32 x) w := by
  have hu : Tryd.prog.underlying 136 = some (.array 74 33) := Tryd.underlying136
  have h3 : Tryd.prog.underlying 33 = some (.int .u32) := Tryd.underlying33
  have hs : (sizeOf 33).run Tryd.prog w = .ok 1 w := by
    have hm : (Tryd.prog.info? 33).map (·.size) = some 1 := by kernel_rfl
    cases hq : Tryd.prog.info? 33 with
    | none => rw [hq] at hm; cases hm
    | some i =>
      rw [hq] at hm
      simp only [Option.map_some, Option.some.injEq] at hm
      simp [sizeOf, typeInfo, hq, hm]
  simp [Instr.index, run_underlying hu, asIntOf, hs, part, isAgg, run_underlying h3, h, go_sem]
  intro h74
  omega
attribute [local go_sem] detUpon undIn
set_option maxRecDepth 100000 in
set_option maxHeartbeats 1000000 in
theorem sum_form (g e : Nat) (s : Bool) (v1 : Value) (l : List Nat) (w : World) (hB : Blk w g 139 (Value.bool s :: v1 :: Value.int .i64 e :: W32 l)) (hl : l.length = 74) (bl' : Limbs l) (he : e ≤ 2000) (hT : Tab w) :
    Calls Tryd.prog 87 #[.pointer (some ⟨g, 0, none⟩)] w fun r w' => ∃ y : XDyad, r = .returned (.tuple #[.agg #[.bool y.neg, .slice y.limbs.A y.limbs.l.length y.limbs.c, .int .i64 y.exp], .int .i64 (formD s e (val B32 l)).2]) ∧ y.data = (formD s e (val B32 l)).1 ∧ y.mine w' w.heap.size ∧ Ext w w' := by
  obtain ⟨N, hN⟩ : ∃ N, val B32 l = N := ⟨_, rfl⟩
  have HBL : Hid (bl N ≤ 2368) := Lib.hid (by
    obtain ⟨k, hk⟩ : ∃ k, k = 74 := ⟨_, rfl⟩
    have h1 := take_lt bl' k
    rw [List.take_of_length_le (by omega), hN] at h1
    have := bl_le.2 h1
    omega)
  rw [hN]
  have HNN := Lib.hid hN
  have HB := Lib.hid hB
  have HL := Lib.hid hl
  have HLB := Lib.hid bl'
  have HEB := Lib.hid he
  have HROW : Hid (∀ W, Ext w W → RowAt W g 3 (W32 l)) := Lib.hid fun W hW j u hu => hW.cell (by rw [hB.cell (3 + j), Nat.add_comm 3 j]; exact hu)
  have HTW : Hid (AggTy Tryd.prog 136 (W32 l).length) := Lib.hid (by rw [W32.len, hl]; exact aggWide)
  have HTT := Lib.hid hT
  clear hN hB hl bl' he hT
  go_enter Tryd.func87, Tryd.ntmps87
  have HROW := Lib.hid (HROW.out _ (Ext.alloc w (.cells #[.bool false, .slice none 0 0, .int .i64 0] 24)))
  go_wp2_with (first | ((with_reducible refine wpl_load 136 (.tmp 12) ?_ ?_ (g) 3 (W32 l) ?_ ?_ ?_ ?_); (exact rfl); (exact rfl); (exact rfl); (exact HTW.out); (exact HROW.out)) | fail)
  obtain ⟨W1, hW1⟩ : ∃ W, W = w.alloc (.cells #[.bool false, .slice none 0 0, .int .i64 0] 24) := ⟨_, rfl⟩
  have HE1 : Hid (Ext w W1) := Lib.hid (by rw [hW1]; exact Ext.alloc _ _)
  have HB1 : Hid (Blk W1 g 139 (Value.bool s :: v1 :: Value.int .i64 e :: W32 l)) := Lib.hid (HB.out.ext HE1.out)
  have HZ : Hid (Blk W1 w.heap.size 24 [.bool false, .slice none 0 0, .int .i64 0]) := Lib.hid (by rw [hW1]; exact Blk.new rfl)
  have HTT1 : Hid (Tab W1) := Lib.hid (HTT.out.ext HE1.out)
  rw [← hW1]
  clear hW1 HROW
  go_loopw [4, 5, 14] (fun a b i wr => ∃ (j low high : Nat), j ≤ 74 ∧ i = .int .i64 j ∧ a = .int .i64 low ∧ b = .int .i64 high ∧ Hid (ScanI l j low high) ∧ wr = W1) (fun _ _ i _ => 74 - (intOf i).toNat)
  case atStart => exact ⟨0, 0, 0, by omega, rfl, rfl, rfl, Lib.hid (ScanI.begin l), rfl⟩
  case round =>
    obtain ⟨j, low, high, hj, rfl, rfl, rfl, HI, hwr⟩ := hrel
    subst hwr
    obtain ⟨W1, rfl⟩ : ∃ W1 : World, W1 = wr := ⟨_, rfl⟩
    by_cases hlt : j < 74
    · have hji : (j : Int) < 74 := by omega
      have hjl : j < l.length := by rw [HL.out]; exact hlt
      obtain ⟨x, hx⟩ : ∃ x, l[j]?.getD 0 = x := ⟨_, rfl⟩
      have hxl : x < B32 := by rw [← hx]; exact HLB.out.get j
      have hcell : (W32 l)[j]? = some (.int .u32 x) := by
        rw [List.getElem?_eq_getElem hjl] at hx
        exact W32.get (by rw [List.getElem?_eq_getElem hjl]; exact congrArg some hx)
      have hix := fun W => idx_wide W l j x hlt hcell
      have HX := Lib.hid hx
      have HXL := Lib.hid hxl
      clear hx hxl hjl hcell
      by_cases hx0 : x = 0
      · have d0 : ((x : Int) != 0) = false := by simp [hx0]
        have HI2 := Lib.hid (HI.out.zero (by rw [HX.out]; exact hx0))
        clear hx0
        go_wp2_with fail
        go_roundw
        case rel => exact ⟨j + 1, low, high, by omega, by go_num, rfl, rfl, HI2, by trivial⟩
        case measure => simp [intOf]; omega
      · have d0 : ((x : Int) != 0) = true := by simpa using hx0
        obtain ⟨m32, hm32⟩ : ∃ n, 32 * j = n := ⟨_, rfl⟩
        obtain ⟨tx, htx⟩ : ∃ n, tz x = n := ⟨_, rfl⟩
        obtain ⟨bx, hbx⟩ : ∃ n, bl x = n := ⟨_, rfl⟩
        have htl : tx < 32 := by rw [← htx]; exact tz_lt hx0 (by simpa using HXL.out)
        have hbl : bx ≤ 32 := by rw [← hbx]; exact bl_le.2 (by simpa using HXL.out)
        have hw1 : IntKind.i64.wrap (32 * (j : Int)) = (m32 : Int) := by rw [IntWalk.i64_in _ (by omega)]; omega
        obtain ⟨lo2, hlo2⟩ : ∃ n, m32 + tx = n := ⟨_, rfl⟩
        obtain ⟨hi2, hhi2⟩ : ∃ n, m32 + bx = n := ⟨_, rfl⟩
        have hw2 : IntKind.i64.wrap ((m32 : Int) + (tx : Int)) = (lo2 : Int) := by rw [IntWalk.i64_in _ (by omega)]; omega
        have hw3 : IntKind.i64.wrap ((m32 : Int) + (bx : Int)) = (hi2 : Int) := by rw [IntWalk.i64_in _ (by omega)]; omega
        have HTX := Lib.hid htx
        have HBX := Lib.hid hbx
        have HX0 := Lib.hid hx0
        by_cases hh : high = 0
        · have d1 : ((high : Int) == 0) = true := by simp [hh]
          have HI2 : Hid (ScanI l (j + 1) lo2 hi2) := Lib.hid (by
            have := HI.out.first hh HX.out hx0
            rwa [hm32, htx, hbx, hlo2, hhi2] at this)
          clear hh hm32 htx hbx hlo2 hhi2 hx0 htl hbl
          go_wp2_with fail
          refine (bits_tz x _ HXL.out HX0.out HTT1.out).mono ?_
          rw [HTX.out]
          rintro r w' ⟨rfl, rfl⟩
          go_wp2_with fail
          refine (bits_Len32 x _ HXL.out).mono ?_
          rw [HBX.out]
          rintro r w' ⟨rfl, rfl⟩
          go_wp2_with fail
          go_roundw
          case rel => exact ⟨j + 1, lo2, hi2, by omega, by go_num, rfl, rfl, HI2, by trivial⟩
          case measure => simp [intOf]; omega
        · have d1 : ((high : Int) == 0) = false := by simp; exact hh
          have HI2 : Hid (ScanI l (j + 1) low hi2) := Lib.hid (by
            have := HI.out.more HLB.out hh HX.out hx0
            rwa [hm32, hbx, hhi2] at this)
          clear hh hm32 htx hbx hlo2 hhi2 hx0 htl hbl
          go_wp2_with fail
          refine (bits_Len32 x _ HXL.out).mono ?_
          rw [HBX.out]
          rintro r w' ⟨rfl, rfl⟩
          go_wp2_with fail
          go_roundw
          case rel => exact ⟨j + 1, low, hi2, by omega, by go_num, rfl, rfl, HI2, by trivial⟩
          case measure => simp [intOf]; omega
    · have hj74 : j = l.length := by rw [HL.out]; omega
      have HD := Lib.hid (show high = bl N ∧ (N ≠ 0 → low = tz N) by rw [← HNN.out]; have := HI.out; rw [hj74] at this; exact this.done)
      have hji : ¬ (j : Int) < 74 := by rw [hj74, HL.out]; omega
      clear hj74
      by_cases hN0 : N = 0
      · have hh0 : high = 0 := by rw [HD.out.1, hN0, bl_zero]
        have HR : Hid (formD s e N = (PDyad.zero, 0)) := Lib.hid (by rw [hN0]; exact formD_zero _ _)
        clear hN0
        subst hh0
        go_wp2_with (first | ((with_reducible refine wpl_store 24 (.tmp 2) (.tmp 35) ?_ ?_ (w.heap.size) 0 24 [.bool false, .slice none 0 0, .int .i64 0] [.bool false, .slice none 0 0, .int .i64 0] ?_ ?_ ?_ ?_ ?_ ?_ ?_); (exact rfl); (exact rfl); (exact rfl); (exact rfl); (exact aggDyad); (exact HZ.out); (exact by simp); (exact rfl); (intro w4 BR2 hO2)) | fail)
        exact bodyPost_ret (results_ct rfl rfl BR2 aggDyad) rfl ⟨XDyad.zero, by rw [HR.out] <;> rfl, by rw [HR.out] <;> rfl, ⟨Go.Hx.Own.nil _ _ _ _ _⟩, Only.ext HE1.out hO2 (Nat.le_refl _)⟩
      · have hb := bl_ne hN0
        have hh0 : high ≠ 0 := by rw [HD.out.1]; exact hb
        have hhi : ((high : Int) == 0) = false := by simp; exact hh0
        have HN0 := Lib.hid hN0
        have hlow := HD.out.2 hN0
        have hhb : high ≤ 2368 := by rw [HD.out.1]; exact HBL.out
        obtain ⟨lw, hlw⟩ : ∃ lw, min low e = lw := ⟨_, rfl⟩
        have HLM : Hid (lw = min (tz N) e) := Lib.hid (by rw [← hlw, hlow])
        have hle : lw ≤ e := by omega
        have hlh : lw ≤ high := by rw [HD.out.1]; exact Nat.le_trans (by rw [← hlw, hlow]; exact Nat.min_le_left _ _) (tz_le_bl hN0)
        have HLW : Hid (lw ≤ 5000) := Lib.hid (by have := HEB.out; omega)
        obtain ⟨hd, hhd⟩ : ∃ d, high - lw = d := ⟨_, rfl⟩
        obtain ⟨el, hel⟩ : ∃ d, e - lw = d := ⟨_, rfl⟩
        obtain ⟨n, hnq⟩ : ∃ n, (hd + 31) / 32 = n := ⟨_, rfl⟩
        have heb := HEB.out
        have hs1 : IntKind.i64.wrap ((high : Int) - (lw : Int)) = (hd : Int) := by rw [IntWalk.i64_in _ (by omega)]; omega
        have hs2 : IntKind.i64.wrap ((e : Int) - (lw : Int)) = (el : Int) := by rw [IntWalk.i64_in _ (by omega)]; omega
        obtain ⟨hd3, hhd3⟩ : ∃ d, hd + 31 = d := ⟨_, rfl⟩
        have hs3 : IntKind.i64.wrap ((hd : Int) + 31) = (hd3 : Int) := by rw [IntWalk.i64_in _ (by omega)]; omega
        have hs4 : (hd3 : Int) / 32 = (n : Int) := by omega
        have hs5 : IntKind.i64.wrap (n : Int) = (n : Int) := IntWalk.i64_in _ (by omega)
        have HHD : Hid (bl N - lw = hd) := Lib.hid (by rw [← HD.out.1]; exact hhd)
        have HEL := Lib.hid hel
        have HNQ := Lib.hid hnq
        have hB1' : W1.cell? ⟨g, 2, none⟩ = some (.int .i64 e) := HB1.out.cell 2
        clear hN0 hb hh0 hlow hhd hel hhd3
        have hmn : min (low : Int) (e : Int) = (lw : Int) := by
          have h1 := hlw
          rw [Nat.min_def] at h1
          rw [Int.min_def]
          split at h1 <;> split <;> omega
        clear hlw
        by_cases ht1 : 1280 < hd
        · have HR : Hid (formD s e N = (PDyad.zero, 10)) := Lib.hid (by rw [formD_scan HN0.out HLM.out, if_pos (.inl (by rw [HHD.out]; exact ht1))])
          have hti : (1280 : Int) < (hd : Int) := by omega
          clear ht1
          go_wp2_with (first | ((with_reducible refine wpl_store 24 (.tmp 2) (.tmp 57) ?_ ?_ (w.heap.size) 0 24 [.bool false, .slice none 0 0, .int .i64 0] [.bool false, .slice none 0 0, .int .i64 0] ?_ ?_ ?_ ?_ ?_ ?_ ?_); (exact rfl); (exact rfl); (exact rfl); (exact rfl); (exact aggDyad); (exact HZ.out); (exact by simp); (exact rfl); (intro w4 BR2 hO2)) | fail)
          exact bodyPost_ret (results_ct rfl rfl BR2 aggDyad) rfl ⟨XDyad.zero, by rw [HR.out] <;> rfl, by rw [HR.out] <;> rfl, ⟨Go.Hx.Own.nil _ _ _ _ _⟩, Only.ext HE1.out hO2 (Nat.le_refl _)⟩
        · have hti : ¬ (1280 : Int) < (hd : Int) := by omega
          by_cases ht2 : 1024 < el
          · have HR : Hid (formD s e N = (PDyad.zero, 10)) := Lib.hid (by rw [formD_scan HN0.out HLM.out, if_pos (.inr (by rw [HEL.out]; exact ht2))])
            have hti2 : (1024 : Int) < (el : Int) := by omega
            clear ht2
            go_wp2_with (first | ((with_reducible refine wpl_store 24 (.tmp 2) (.tmp 57) ?_ ?_ (w.heap.size) 0 24 [.bool false, .slice none 0 0, .int .i64 0] [.bool false, .slice none 0 0, .int .i64 0] ?_ ?_ ?_ ?_ ?_ ?_ ?_); (exact rfl); (exact rfl); (exact rfl); (exact rfl); (exact aggDyad); (exact HZ.out); (exact by simp); (exact rfl); (intro w4 BR2 hO2)) | fail)
            exact bodyPost_ret (results_ct rfl rfl BR2 aggDyad) rfl ⟨XDyad.zero, by rw [HR.out] <;> rfl, by rw [HR.out] <;> rfl, ⟨Go.Hx.Own.nil _ _ _ _ _⟩, Only.ext HE1.out hO2 (Nat.le_refl _)⟩
          · have hti2 : ¬ (1024 : Int) < (el : Int) := by omega
            have HR : Hid (formD s e N = (⟨s, digs B32 (N / 2 ^ lw), (el : Int)⟩, 0)) := Lib.hid (by rw [formD_scan HN0.out HLM.out, if_neg (by rw [HHD.out, HEL.out]; omega), HEL.out])
            have HN40 : Hid (n ≤ 40) := Lib.hid (by omega)
            have HNL : Hid ((digs B32 (N / 2 ^ lw)).length = n) := Lib.hid (by rw [d32_len, bl_div, HHD.out]; exact HNQ.out)
            have HNB : Hid (4 * n ≤ 281474976710656 ∧ n ≤ maxLen) := Lib.hid (by have := HN40.out; unfold maxLen; omega)
            clear ht1 ht2
            go_wp2_with fail
            obtain ⟨WX, hWX⟩ : ∃ W0, W0 = W1 := ⟨_, rfl⟩
            have hB1 : Blk WX g 139 (Value.bool s :: v1 :: Value.int .i64 e :: W32 l) := by rw [hWX]; exact HB1.out
            have HZ1 : Hid (Blk WX w.heap.size 24 [.bool false, .slice none 0 0, .int .i64 0]) := Lib.hid (by rw [hWX]; exact HZ.out)
            have HEX : Hid (Ext w WX) := Lib.hid (by rw [hWX]; exact HE1.out)
            rw [← hWX]
            clear hWX
            have HG0 : Hid (∀ W : World, Ext WX W → W.cell? ⟨g, 0, none⟩ = some (.bool s)) := Lib.hid fun W hW => hW.cell (hB1.cell 0)
            have HG2 : Hid (∀ W : World, Ext WX W → W.cell? ⟨g, 2, none⟩ = some (.int .i64 e)) := Lib.hid fun W hW => hW.cell (hB1.cell 2)
            clear hB1
            refine wp_region_flowTail 20 (Ext WX) (fun _ => True) Ext (fun i => if i = 17 then .row (fun v => ∃ gs : Nat, v = .slice (some ⟨gs, 0, none⟩) n n) (fun v W => ∃ gs : Nat, v = .slice (some ⟨gs, 0, none⟩) n n ∧ Blk W gs 33 (W32 (List.replicate n 0)) ∧ w.heap.size ≤ gs) else if i = 19 then .free (fun v => ∃ g : Nat, v = .pointer (some ⟨g, 0, none⟩)) (fun v W => ∃ g : Nat, v = .pointer (some ⟨g, 0, none⟩) ∧ WX.heap.size ≤ g ∧ Blk W g 24 [.bool false, .slice none 0 0, .int .i64 0]) else .det) [17] (by kernel_rfl) (by kernel_rfl) (by kernel_rfl) (Ext.drew _) trivial (keeps_true _) ?_
            iterate 17 (refine ftext_det rfl rfl ?_; apply Exists.intro; refine ⟨fun w hC => ?_, fun K hK => ?_⟩; (first | (go_simp; exact rfl) | (go_simp; exact ⟨rfl, rfl⟩) | (have h1 : w.cell? ⟨g, 0, none⟩ = some (.bool s) := HG0.out _ hC; have h2 : w.cell? ⟨g, 2, none⟩ = some (.int .i64 e) := HG2.out _ hC; go_simp; first | exact rfl | exact ⟨rfl, rfl⟩)); go_simp; refine hK _ ?_; clear hK K)
            refine ftext_row _ _ rfl rfl ⟨_, 0, rfl⟩ (fun v w1 w2 ⟨gs, h1, h2, h3⟩ hR => ⟨gs, h1, h2.ext hR, h3⟩) (fun w1 hC hJ Φ hΦ => ?_) (fun v hv K hK => ?_)
            · refine und_make (enc := cU32) (z0 := 0) elu32 (.int .u32 0) rfl rfl rfl (.tmp 74) (.tmp 74) rfl n .i64 .i64 ?_ ?_ HNB.out.1 HNB.out.2 w1 (fun w2 hown hE => ?_)
              · exact rfl
              · exact rfl
              exact hΦ _ _ ⟨_, rfl⟩ (hC.trans hE) hE ⟨_, rfl, own_w32 (n := n) hown (by simp), Nat.le_trans HEX.out.size hC.size⟩
            obtain ⟨gs, rfl⟩ := hv
            go_simp; refine hK _ ?_; clear hK K
            (refine ftext_det rfl rfl ?_; apply Exists.intro; refine ⟨fun w hC => ?_, fun K hK => ?_⟩; (first | (go_simp; exact rfl) | (go_simp; exact ⟨rfl, rfl⟩) | (have h1 : w.cell? ⟨g, 0, none⟩ = some (.bool s) := HG0.out _ hC; have h2 : w.cell? ⟨g, 2, none⟩ = some (.int .i64 e) := HG2.out _ hC; go_simp; first | exact rfl | exact ⟨rfl, rfl⟩)); go_simp; refine hK _ ?_; clear hK K)
            refine ftext_free _ _ rfl rfl ⟨_, 0, rfl⟩ (fun v w1 w2 ⟨g, h1, h2, h3⟩ hR => ⟨g, h1, h2, h3.ext hR⟩) (fun w1 hC Φ hΦ => ?_) (fun v hv K hK => ?_)
            · go_simp
              exact hΦ _ _ ⟨_, rfl⟩ (hC.trans (Ext.alloc _ _)) (Ext.alloc _ _) ⟨_, rfl, hC.size, Blk.new rfl⟩
            obtain ⟨g1, rfl⟩ := hv
            go_simp; refine hK _ ?_; clear hK K
            refine ftext_nil ?_
            rintro w1 hC ⟨gs', hgs', HBS, hsz⟩ ⟨_, g8, hg8, hg8s, BG8⟩
            have e1 : gs = gs' := congrArg (fun v : Value => match v with | .slice (some p) _ _ => p.block | _ => 0) hgs'
            have e2 : g1 = g8 := congrArg (fun v : Value => match v with | .pointer (some p) => p.block | _ => 0) hg8
            subst e1
            subst e2
            simp only [List.drop_succ_cons, List.drop_zero]
            refine wplIn_store Open.wide 24 _ _ rfl rfl g1 0 24 [.bool false, .slice none 0 0, .int .i64 0] [.bool s, .slice (some ⟨gs, 0, none⟩) n n, .int .i64 el] rfl rfl aggDyad BG8 (by simp) rfl (fun w2 BR hO => ?_)
            refine wpListIn_nil ?_
            have hne1 : g1 ≠ w.heap.size := by have := HZ1.out.lt; omega
            have hne2 : gs ≠ g1 := fun h => by rw [h] at HBS; exact absurd (blk_type HBS BG8) (by decide)
            have hne3 : gs ≠ w.heap.size := fun h => by rw [h] at HBS; exact absurd (blk_type HBS (HZ1.out.ext hC)) (by decide)
            have HF0 : Hid (FrmI w w2 w.heap.size g1 gs n N lw [.bool s, .slice (some ⟨gs, 0, none⟩) n n, .int .i64 el] 0 (List.replicate n 0)) := Lib.hid ⟨by simp, fun t ht => absurd ht (Nat.not_lt_zero _), HBS.only hO hne2, BR, (HZ1.out.ext hC).only hO (Ne.symm hne1), Only.ext (HEX.out.trans hC) hO (Nat.le_trans HEX.out.size hg8s)⟩
            have HNE : Hid (g1 ≠ w.heap.size ∧ gs ≠ g1 ∧ gs ≠ w.heap.size ∧ w.heap.size ≤ gs) := Lib.hid ⟨hne1, hne2, hne3, hsz⟩
            clear hC hgs' HBS hsz hg8 hg8s BG8 BR hO hne1 hne2 hne3
            obtain ⟨g8, rfl⟩ : ∃ g, g = g1 := ⟨_, rfl⟩
            have HC1 : Hid (w2.cell? ⟨g8, 1, none⟩ = some (.slice (some ⟨gs, 0, none⟩) n n)) := Lib.hid (HF0.out.oblk.cell 1)
            have hc1 := HC1.out
            go_wp2_with fail
            go_loopw [80] (fun i wr => ∃ (j : Nat), ∃ o, j ≤ n ∧ i = .int .i64 j ∧ Hid (FrmI w wr w.heap.size g8 gs n N lw [.bool s, .slice (some ⟨gs, 0, none⟩) n n, .int .i64 el] j o)) (fun i _ => n - (intOf i).toNat)
            case atStart => exact ⟨0, _, by omega, rfl, HF0⟩
            case round =>
              obtain ⟨j, o, hj, rfl, HF⟩ := hrel
              have hn40 := HN40.out
              by_cases hlt : j < n
              · have hji : (j : Int) < (n : Int) := by omega
                obtain ⟨z, hz⟩ : ∃ z, N / 2 ^ lw / B32 ^ j % B32 = z := ⟨_, rfl⟩
                have HZZ := Lib.hid hz
                clear hz hc1
                go_wp2_with fail
                have hC0 : Blk wr.drew g8 24 [.bool s, .slice (some ⟨gs, 0, none⟩) n n, .int .i64 el] ∧ Ext w wr.drew ∧ Blk wr.drew w.heap.size 24 [.bool false, .slice none 0 0, .int .i64 0] := ⟨HF.out.oblk.drew, HF.out.ext.drew', HF.out.zblk.drew⟩
                have HG8 : Hid (∀ W : World, (Blk W g8 24 [.bool s, .slice (some ⟨gs, 0, none⟩) n n, .int .i64 el] ∧ Ext w W ∧ Blk W w.heap.size 24 [.bool false, .slice none 0 0, .int .i64 0]) → W.cell? ⟨g8, 1, none⟩ = some (.slice (some ⟨gs, 0, none⟩) n n)) := Lib.hid fun W hW => hW.1.cell 1
                refine wp_region_flow (fun W : World => Blk W g8 24 [.bool s, .slice (some ⟨gs, 0, none⟩) n n, .int .i64 el] ∧ Ext w W ∧ Blk W w.heap.size 24 [.bool false, .slice none 0 0, .int .i64 0]) (fun W => Blk W gs 33 (W32 o)) Ext (fun i => if i = 6 then .row (fun v => v = .int .u32 z) (fun _ W => Blk W gs 33 (W32 o)) else if i = 8 then .last else .det) [6] (by kernel_rfl) (by kernel_rfl) (by kernel_rfl) hC0 HF.out.blk.drew (fun w1 w2 h1 h2 => h1.ext h2) ?_
                iterate 6 (refine ftext_det rfl rfl ?_; apply Exists.intro; refine ⟨fun w hC => ?_, fun K hK => ?_⟩; (first | (go_simp; exact rfl) | (go_simp; exact ⟨rfl, rfl⟩) | (have h1 : w.cell? ⟨g8, 1, none⟩ = some (.slice (some ⟨gs, 0, none⟩) n n) := HG8.out _ hC; go_simp; first | exact rfl | exact ⟨rfl, rfl⟩)); go_simp; refine hK _ ?_; clear hK K)
                refine ftext_row _ _ rfl rfl ⟨_, rfl⟩ (fun v w1 w2 h1 h2 => h1.ext h2) (fun w1 hC hJ Φ hΦ => ?_) (fun v hv K hK => ?_)
                · go_simp
                  refine (sum_at g j lw z s v1 (.int .i64 e) l _ (HB.out.ext hC.2.1) HL.out HLB.out (by omega) HLW.out (by rw [HNN.out]; exact HZZ.out)).mono ?_
                  rintro r w2 ⟨rfl, hE2⟩
                  exact ⟨_, rfl, hΦ _ _ rfl ⟨hC.1.ext hE2, hC.2.1.trans hE2, hC.2.2.ext hE2⟩ hE2 (hJ.ext hE2)⟩
                subst hv
                go_simp; refine hK _ ?_; clear hK K
                (refine ftext_det rfl rfl ?_; apply Exists.intro; refine ⟨fun w hC => ?_, fun K hK => ?_⟩; (first | (go_simp; exact rfl) | (go_simp; exact ⟨rfl, rfl⟩) | (have h1 : w.cell? ⟨g8, 1, none⟩ = some (.slice (some ⟨gs, 0, none⟩) n n) := HG8.out _ hC; go_simp; first | exact rfl | exact ⟨rfl, rfl⟩)); go_simp; refine hK _ ?_; clear hK K)
                refine ftext_last (fun v => v = undef) (fun _ W => Blk W gs 33 (W32 (o.set j z))) rfl rfl ⟨_, rfl⟩ (fun w1 hC hJ _ Φ hΦ => ?_) (fun v hv K hK => ?_)
                · have hjo : j < o.length := by rw [HF.out.len]; exact hlt
                  have hcp : w1.cell? ⟨gs, j, none⟩ = some (.int .u32 o[j]) := by rw [hJ.cell j]; exact W32.get (List.getElem?_eq_getElem hjo)
                  have hfp : w1.frozen? ⟨gs, j, none⟩ = false := hJ.free j
                  have hset : Blk (w1.setCell ⟨gs, j, none⟩ (.int .u32 z)) gs 33 (W32 (o.set j z)) := by
                    have := hJ.set j (.int .u32 z)
                    rwa [W32.set] at this
                  have HF9 := Lib.hid hset
                  clear hset
                  go_simp
                  exact hΦ _ _ rfl ⟨hC.1.far (Ne.symm HNE.out.2.1) _, hC.2.1.setCell' HNE.out.2.2.2 _, hC.2.2.far (Ne.symm HNE.out.2.2.1) _⟩ HF9.out
                subst hv
                go_simp; refine hK _ ?_; clear hK K
                refine ftext_nil ?_
                rintro w1 hC hBn _
                have HF2 : Hid (FrmI w w1 w.heap.size g8 gs n N lw [.bool s, .slice (some ⟨gs, 0, none⟩) n n, .int .i64 el] (j + 1) (o.set j z)) := Lib.hid (HF.out.next hlt HZZ.out hBn hC.1 hC.2.2 hC.2.1)
                clear hC hBn hC0
                go_wp2_with fail
                go_roundw
                case rel => exact ⟨j + 1, _, by omega, by go_num, HF2⟩
                case measure => simp [intOf]; omega
              · have hjn : j = n := by omega
                have HO : Hid (o = digs B32 (N / 2 ^ lw)) := Lib.hid (by have := HF.out; rw [hjn] at this; exact this.done HNL.out)
                have hji : ¬ (j : Int) < (n : Int) := by omega
                clear hjn hc1
                go_wp2_with (first | ((with_reducible refine wpl_load 24 (.tmp 8) ?_ ?_ (g8) 0 [.bool s, .slice (some ⟨gs, 0, none⟩) n n, .int .i64 el] ?_ ?_ ?_ ?_); (exact rfl); (exact rfl); (exact rfl); (exact aggDyad); (exact HF.out.oblk.row)) | ((with_reducible refine wpl_store 24 (.tmp 2) (.tmp 92) ?_ ?_ (w.heap.size) 0 24 [.bool false, .slice none 0 0, .int .i64 0] [.bool s, .slice (some ⟨gs, 0, none⟩) n n, .int .i64 el] ?_ ?_ ?_ ?_ ?_ ?_ ?_); (exact rfl); (exact rfl); (exact rfl); (exact rfl); (exact aggDyad); (exact HF.out.zblk); (exact by simp); (exact rfl); (intro w4 BR2 hO2)) | fail)
                exact bodyPost_ret (results_ct rfl rfl BR2 aggDyad) rfl ⟨⟨s, ⟨o, some ⟨gs, 0, none⟩, n⟩, el⟩, by rw [HR.out, HF.out.len] <;> rfl, by rw [HR.out, ← HO.out]; rfl, ⟨by have h9 := w32_own (base := w.heap.size) (HF.out.blk.only hO2 HNE.out.2.2.1) HNE.out.2.2.2 (by rw [HF.out.len]; unfold maxLen; omega); show Go.Hx.Own w4 w.heap.size 33 1 cU32 (.slice (some ⟨gs, 0, none⟩) o.length n) o; rw [show n = o.length from HF.out.len.symm]; exact h9⟩, Only.ext HF.out.ext hO2 (Nat.le_refl _)⟩
end Go.Proofs.YtgcbnagfdfgpnaaDoor
end
section
namespace Go.Proofs.YtgcbnagfdfgpnaaDoor
open Go.RowKit Go.Hx
set_option maxRecDepth 100000 in
set_option maxHeartbeats 1000000 in
theorem dyad_Half (x : XDyad) (w : World) (hx : x.ok w w.heap.size) (hb : Limbs x.limbs.l) (hT : Tab w) :
    Calls Tryd.prog 36 #[.agg #[.bool x.neg, .slice x.limbs.A x.limbs.l.length x.limbs.c, .int .i64 x.exp]] w fun e w' => ∃ y : XDyad, e = .returned (.tuple #[.agg #[.bool y.neg, .slice y.limbs.A y.limbs.l.length y.limbs.c, .int .i64 y.exp], .int .i64 (halfD x.data).2]) ∧ y.data = (halfD x.data).1 ∧ y.mine w' w.heap.size ∧ Ext w w' := by
  have HX := Lib.hid hx
  have HB := Lib.hid hb
  have HT := Lib.hid hT
  clear hx hb hT
  by_cases hmay : mayD x.data
  · obtain ⟨ng, ls, ex⟩ := x
    obtain ⟨j, rfl⟩ : ∃ j : Nat, ex = (j : Int) := ⟨ex.toNat, by have := hmay.2.1.1; simp only [XDyad.data] at this; omega⟩
    have hj : j ≤ 1024 := by have := hmay.2.1.2; simp only [XDyad.data] at this; omega
    obtain ⟨j1, hj1⟩ : ∃ j1 : Nat, j + 1 = j1 := ⟨_, rfl⟩
    have HLL : Hid (ls.l.length ≤ 40) := Lib.hid hmay.1.1
    have HR : Hid (halfD (⟨ng, ls, (j : Int)⟩ : XDyad).data = formD ng j1 (val B32 ls.l)) := Lib.hid (by unfold halfD; rw [if_pos hmay, ← hj1]; rfl)
    have hadd : IntKind.i64.wrap ((j : Int) + 1) = (j1 : Int) := by rw [IntWalk.i64_in _ (by omega)]; omega
    have dm : decide (mayD (⟨ng, ls, (j : Int)⟩ : XDyad).data) = true := decide_eq_true hmay
    have HJ := Lib.hid hj
    have HJ1 : Hid (j1 ≤ 2000) := Lib.hid (by omega)
    clear hmay hj hj1
    go_enter Tryd.func36, Tryd.ntmps36
    have BX0 : Blk ((w.alloc (.cells #[.bool ng, .slice ls.A ls.l.length ls.c, .int .i64 j] 24)).alloc (.cells #[.bool false, .slice none 0 0, .int .i64 0] 24)) w.heap.size 24 [.bool ng, .slice ls.A ls.l.length ls.c, .int .i64 j] := Blk.alloc (Blk.new rfl) _
    go_wp2_with (first | ((with_reducible refine wpl_load 24 (.tmp 1) ?_ ?_ (w.heap.size) 0 [.bool ng, .slice ls.A ls.l.length ls.c, .int .i64 j] ?_ ?_ ?_ ?_); (exact rfl); (exact rfl); (exact rfl); (exact aggDyad); (exact BX0.row)) | fail)
    refine (dyad_Check (⟨ng, ls, (j : Int)⟩ : XDyad) _ (HX.out.ext (by repeat (first | exact Ext.refl _ | assumption | refine Ext.alloc' ?_ _ | refine Ext.drewN' ?_ _ | refine Ext.drew' ?_ | (refine Ext.trans ?_ (by assumption)))))).mono ?_
    rw [chk_true dm]
    rintro e w1 ⟨rfl, hE1⟩
    have BX : Blk w1 w.heap.size 24 [.bool ng, .slice ls.A ls.l.length ls.c, .int .i64 j] := BX0.ext hE1
    have BZ : Blk w1 (w.heap.size + 1) 24 [.bool false, .slice none 0 0, .int .i64 0] := (Blk.new (by simp)).ext hE1
    have hE0 : Ext w w1 := (Ext.alloc' (Ext.alloc _ _) _).trans hE1
    clear BX0 hE1 dm
    have hcx : w1.cell? ⟨w.heap.size, 2, none⟩ = some (.int .i64 j) := BX.cell 2
    go_wp2_with (first | ((with_reducible refine wpl_load 24 (.tmp 1) ?_ ?_ (w.heap.size) 0 [.bool ng, .slice ls.A ls.l.length ls.c, .int .i64 j] ?_ ?_ ?_ ?_); (exact rfl); (exact rfl); (exact rfl); (exact aggDyad); (exact BX.row)) | fail)
    refine (dyad_of (⟨ng, ls, (j : Int)⟩ : XDyad) j 0 _ (HX.out.ext hE0) HB.out HLL.out (by simp) (by omega)).mono ?_
    rintro e w2 ⟨g, l, rfl, hg, BG, hl, hlim, hval, hE2⟩
    have BZ2 := BZ.ext hE2
    have hE3 := hE0.trans hE2
    have hgl : w.heap.size + 1 < g := Nat.lt_of_lt_of_le BZ.lt hg
    have HGL := Lib.hid hgl
    have HL := Lib.hid hl
    have HLIM := Lib.hid hlim
    have HVAL : Hid (val B32 l = val B32 ls.l) := Lib.hid (by rw [hval]; simp)
    have hcg : w2.cell? ⟨g, 2, none⟩ = some (.int .i64 j) := BG.cell 2
    have hfg : w2.frozen? ⟨g, 2, none⟩ = false := BG.free 2
    have HG2 : Hid (Blk (w2.setCell ⟨g, 2, none⟩ (.int .i64 j1)) g 139 (.bool ng :: .slice none 0 0 :: .int .i64 j1 :: W32 l)) := Lib.hid (BG.set 2 _)
    have HZ3 : Hid (Blk (w2.setCell ⟨g, 2, none⟩ (.int .i64 j1)) (w.heap.size + 1) 24 [.bool false, .slice none 0 0, .int .i64 0]) := Lib.hid (BZ2.far (by show w.heap.size + 1 ≠ g; omega) _)
    have HE3 : Hid (Ext w (w2.setCell ⟨g, 2, none⟩ (.int .i64 j1))) := Lib.hid (hE3.setCell' (by show w.heap.size ≤ g; omega) _)
    clear BX BZ hE0 hcx hg BG hl hlim hval hE2 BZ2 hE3 hgl
    go_wp2_with fail
    refine (sum_form g j1 ng (.slice none 0 0) l _ HG2.out HL.out HLIM.out HJ1.out (HT.out.ext HE3.out)).mono ?_
    rw [HVAL.out]
    rintro e w3 ⟨q, rfl, hq1, hq2, hE4⟩
    have BZ4 := HZ3.out.ext hE4
    have hE5 := HE3.out.trans hE4
    have hq3 := hq2.lower HE3.out.size
    go_wp2_with (first | ((with_reducible refine wpl_store 24 (.tmp 2) (.tmp 24) ?_ ?_ (w.heap.size + 1) 0 24 [.bool false, .slice none 0 0, .int .i64 0] [.bool q.neg, .slice q.limbs.A q.limbs.l.length q.limbs.c, .int .i64 q.exp] ?_ ?_ ?_ ?_ ?_ ?_ ?_); (exact rfl); (exact rfl); (exact rfl); (exact rfl); (exact aggDyad); (exact BZ4); (exact by simp); (exact rfl); (intro w4 BR2 hO2)) | fail)
    have HS : Shape (fun e => e = 24) w.heap.size _ w4 := Shape.only (T := fun e => e = 24) (Shape.refl _ _ _) BZ4 hO2 BR2 rfl rfl (by omega)
    exact bodyPost_ret (results_ct rfl rfl BR2 aggDyad) rfl ⟨q, by rw [HR.out] <;> rfl, by rw [hq1, HR.out], hq3.shape HS (by decide), Only.ext hE5 hO2 (by omega)⟩
  · have dm : decide (mayD x.data) = false := decide_eq_false hmay
    have HR : Hid (halfD x.data = (PDyad.zero, 8)) := Lib.hid (by unfold halfD; rw [if_neg hmay])
    clear hmay
    go_enter Tryd.func36, Tryd.ntmps36
    have BX0 : Blk ((w.alloc (.cells #[.bool x.neg, .slice x.limbs.A x.limbs.l.length x.limbs.c, .int .i64 x.exp] 24)).alloc (.cells #[.bool false, .slice none 0 0, .int .i64 0] 24)) w.heap.size 24 [.bool x.neg, .slice x.limbs.A x.limbs.l.length x.limbs.c, .int .i64 x.exp] := Blk.alloc (Blk.new rfl) _
    go_wp2_with (first | ((with_reducible refine wpl_load 24 (.tmp 1) ?_ ?_ (w.heap.size) 0 [.bool x.neg, .slice x.limbs.A x.limbs.l.length x.limbs.c, .int .i64 x.exp] ?_ ?_ ?_ ?_); (exact rfl); (exact rfl); (exact rfl); (exact aggDyad); (exact BX0.row)) | fail)
    refine (dyad_Check x _ (HX.out.ext (by repeat (first | exact Ext.refl _ | assumption | refine Ext.alloc' ?_ _ | refine Ext.drewN' ?_ _ | refine Ext.drew' ?_ | (refine Ext.trans ?_ (by assumption)))))).mono ?_
    rw [chk_false dm]
    rintro e w1 ⟨rfl, hE1⟩
    have BZ : Blk w1 (w.heap.size + 1) 24 [.bool false, .slice none 0 0, .int .i64 0] := (Blk.new (by simp)).ext hE1
    have hE0 : Ext w w1 := (Ext.alloc' (Ext.alloc _ _) _).trans hE1
    clear BX0 hE1 dm
    go_wp2_with (first | ((with_reducible refine wpl_store 24 (.tmp 2) (.tmp 8) ?_ ?_ (w.heap.size + 1) 0 24 [.bool false, .slice none 0 0, .int .i64 0] [.bool false, .slice none 0 0, .int .i64 0] ?_ ?_ ?_ ?_ ?_ ?_ ?_); (exact rfl); (exact rfl); (exact rfl); (exact rfl); (exact aggDyad); (exact BZ); (exact by simp); (exact rfl); (intro w4 BR2 hO2)) | fail)
    exact bodyPost_ret (results_ct rfl rfl BR2 aggDyad) rfl ⟨XDyad.zero, by rw [HR.out] <;> rfl, by rw [HR.out] <;> rfl, ⟨Go.Hx.Own.nil _ _ _ _ _⟩, Only.ext hE0 hO2 (by omega)⟩
end Go.Proofs.YtgcbnagfdfgpnaaDoor
end
