/- How the program's dyads stand. Printed by gen_cmp.py. -/
import Derived.Test.YtgcbnagfdfgpnaaDoorShrinksAll10
import Derived.Test.YtgcbnagfdfgpnaaDoorShrinksAll13
import Derived.ChangeKeysEq
namespace Go.Proofs.YtgcbnagfdfgpnaaDoor
open Go.RowKit Go.Hx
theorem zeroWideC : Tryd.zeroCells136 = (W32 (List.replicate 74 0)).toArray := by kernel_rfl
theorem eqIn_u32 (d : Nat) (w : World) (a b : Nat) : (Op.equalIn (d + 1) 33 (.int .u32 a) (.int .u32 b)).run Tryd.prog w = .ok ((a : Int) == (b : Int)) w := by
  simp [go_sem, Op.equalIn]
theorem eqItems_u32 (d : Nat) (w : World) (a b : List Nat) : ∀ is : List Nat, (∀ i ∈ is, i < a.length ∧ i < b.length) → (Op.eqItems (d + 1) 33 1 (W32 a).toArray (W32 b).toArray is).run Tryd.prog w = .ok (decide (∀ i ∈ is, a[i]?.getD 0 = b[i]?.getD 0)) w
  | [], _ => by simp [Op.eqItems]
  | i :: is, h => by
    obtain ⟨h1, h2⟩ := h i (List.mem_cons_self ..)
    have ih := eqItems_u32 d w a b is (fun j hj => h j (List.mem_cons_of_mem _ hj))
    have p1 : (part 33 (W32 a).toArray (i * 1)).run Tryd.prog w = .ok (.int .u32 a[i]) w := run_part_plain w (by kernel_rfl) (by rw [Nat.mul_one, List.getElem?_toArray]; exact W32.get (List.getElem?_eq_getElem h1))
    have p2 : (part 33 (W32 b).toArray (i * 1)).run Tryd.prog w = .ok (.int .u32 b[i]) w := run_part_plain w (by kernel_rfl) (by rw [Nat.mul_one, List.getElem?_toArray]; exact W32.get (List.getElem?_eq_getElem h2))
    have p3 := eqIn_u32 d w a[i] b[i]
    simp only [Op.eqItems, Sem.run_bind, p1, p2, p3, Result.andThen_ok]
    by_cases hab : a[i] = b[i]
    · rw [hab]
      simp only [beq_self_eq_true, Bool.not_true, Bool.false_eq_true, if_false]
      refine ih.trans (congrArg (fun b => Result.ok b w) ?_)
      rw [decide_eq_decide]
      constructor
      · intro h9 j hj
        rcases List.mem_cons.1 hj with rfl | hj
        · rw [List.getElem?_eq_getElem h1, List.getElem?_eq_getElem h2, hab]
        · exact h9 j hj
      · exact fun h9 j hj => h9 j (List.mem_cons_of_mem _ hj)
    · have : ((a[i] : Int) == (b[i] : Int)) = false := by rw [beq_eq_false_iff_ne]; omega
      rw [this]
      simp only [Bool.not_false, if_true]
      rw [decide_eq_false]
      · rfl
      · intro h9
        have := h9 i (List.mem_cons_self ..)
        rw [List.getElem?_eq_getElem h1, List.getElem?_eq_getElem h2] at this
        exact hab this
theorem eqlWideD (d : Nat) (w : World) (o : List Nat) (ho : o.length = 74) (k : Nat) (hk : k = 74) : (Op.equalIn (d + 1 + 1) 136 (.agg (W32 o).toArray) (.agg (W32 (List.replicate k 0)).toArray)).run Tryd.prog w = .ok (decide (val B32 o = 0)) w := by
  obtain ⟨i, hi⟩ := Option.isSome_iff_exists.1 (show (Tryd.prog.info? 33).isSome = true by kernel_rfl)
  rw [run_equalIn_array w (d + 1) (e := 33) (n := 74) _ _ Tryd.underlying136 hi]
  rw [show Tryd.prog.cellsOf 33 = 1 from by kernel_rfl]
  refine (eqItems_u32 d w _ _ _ (fun i hi => by have := List.mem_range.1 hi; rw [List.length_replicate]; omega)).trans (congrArg (fun b => Result.ok b w) ?_)
  rw [decide_eq_decide]
  constructor
  · intro h
    have e : o = List.replicate k 0 := List.ext_getElem (by rw [List.length_replicate]; omega) fun i hi hi2 => by
      have := h i (List.mem_range.2 (by omega))
      rw [List.getElem?_eq_getElem hi, List.getElem?_eq_getElem hi2] at this
      exact this
    rw [e]; exact val_zeros' _ _
  · intro h i hi
    have hik : i < k := by have := List.mem_range.1 hi; omega
    have hi' : i < o.length := by omega
    rw [List.getElem?_eq_getElem hi', Option.getD_some, val_eq_zero (by decide) o h _ (List.getElem_mem hi'), List.getElem?_replicate, if_pos hik]
    rfl
theorem eqlWide (w : World) (o : List Nat) (ho : o.length = 74) : (Op.equalIn 10000 136 (.agg (W32 o).toArray) (.agg Tryd.zeroCells136)).run Tryd.prog w = .ok (decide (val B32 o = 0)) w := by
  rw [zeroWideC, show (10000 : Nat) = 9998 + 1 + 1 from rfl]
  exact eqlWideD 9998 w o ho 74 rfl
attribute [local go_sem] detUpon undIn
set_option maxRecDepth 100000 in
set_option maxHeartbeats 1000000 in
theorem dyad_Cmp (x y : XDyad) (w : World) (hx : x.ok w w.heap.size) (hy : y.ok w w.heap.size) (hbx : Limbs x.limbs.l) (hby : Limbs y.limbs.l) (hmx : mayD x.data) (hmy : mayD y.data) :
    Calls Tryd.prog 29 #[.agg #[.bool x.neg, .slice x.limbs.A x.limbs.l.length x.limbs.c, .int .i64 x.exp], .agg #[.bool y.neg, .slice y.limbs.A y.limbs.l.length y.limbs.c, .int .i64 y.exp]] w fun e w' => e = .returned (.tuple #[.int .i64 (cmpD x.data y.data), .int .i64 0]) ∧ Ext w w' := by
  have HX := Lib.hid hx
  have HY := Lib.hid hy
  have HBX := Lib.hid hbx
  have HBY := Lib.hid hby
  clear hx hy hbx hby
  obtain ⟨nx, lx, ex⟩ := x
  obtain ⟨ny, ly, ey⟩ := y
  obtain ⟨jx, rfl⟩ : ∃ j : Nat, ex = (j : Int) := ⟨ex.toNat, by have := hmx.2.1.1; simp only [XDyad.data] at this; omega⟩
  obtain ⟨jy, rfl⟩ : ∃ j : Nat, ey = (j : Int) := ⟨ey.toNat, by have := hmy.2.1.1; simp only [XDyad.data] at this; omega⟩
  have hjx : jx ≤ 1024 := by have := hmx.2.1.2; simp only [XDyad.data] at this; omega
  have hjy : jy ≤ 1024 := by have := hmy.2.1.2; simp only [XDyad.data] at this; omega
  obtain ⟨m, hm⟩ : ∃ m, max jx jy = m := ⟨_, rfl⟩
  obtain ⟨ps, hps⟩ : ∃ ps, (plusS nx (numD (⟨nx, lx, (jx : Int)⟩ : XDyad).data m) (!ny) (numD (⟨ny, ly, (jy : Int)⟩ : XDyad).data m)) = ps := ⟨_, rfl⟩
  have hm1 : m ≤ 1024 := by omega
  have hmax : max (jx : Int) (jy : Int) = (m : Int) := by
    have h1 := hm
    rw [Nat.max_def] at h1
    rw [Int.max_def]
    split at h1 <;> split <;> omega
  have HLX : Hid (lx.l.length ≤ 40) := Lib.hid hmx.1.1
  have HLY : Hid (ly.l.length ≤ 40) := Lib.hid hmy.1.1
  have HKX : Hid (((m - jx : Nat) : Int) = (m : Int) - (jx : Int)) := Lib.hid (by omega)
  have HKY : Hid (((m - jy : Nat) : Int) = (m : Int) - (jy : Int)) := Lib.hid (by omega)
  have HKM : Hid (m ≤ 2000 ∧ m - jy ≤ 1024) := Lib.hid (by omega)
  have HKX2 : Hid (m - jx ≤ 1024) := Lib.hid (by omega)
  have HPS := Lib.hid hps
  obtain ⟨kk, hkk⟩ : ∃ k, k = 2304 := ⟨_, rfl⟩
  have hnx := numD_lt hmx HBX.out hm1 hkk
  have hny := numD_lt hmy HBY.out hm1 hkk
  have HSB : Hid (numD (⟨nx, lx, (jx : Int)⟩ : XDyad).data m + numD (⟨ny, ly, (jy : Int)⟩ : XDyad).data m < B32 ^ 74) := Lib.hid (sum_bound hnx hny (by omega))
  have HR : Hid (cmpD (⟨nx, lx, (jx : Int)⟩ : XDyad).data (⟨ny, ly, (jy : Int)⟩ : XDyad).data = if ps.2 = 0 then 0 else if ps.1 = true then -1 else 1) := Lib.hid (by
    unfold cmpD
    show (if (plusS nx (numD (⟨nx, lx, (jx : Int)⟩ : XDyad).data (max jx jy)) (!ny) (numD (⟨ny, ly, (jy : Int)⟩ : XDyad).data (max jx jy))).2 = 0 then (0 : Int) else if (plusS nx (numD (⟨nx, lx, (jx : Int)⟩ : XDyad).data (max jx jy)) (!ny) (numD (⟨ny, ly, (jy : Int)⟩ : XDyad).data (max jx jy))).1 = true then -1 else 1) = _
    rw [hm, hps])
  have dm : decide (mayD (⟨nx, lx, (jx : Int)⟩ : XDyad).data) = true := decide_eq_true hmx
  have dm2 : decide (mayD (⟨ny, ly, (jy : Int)⟩ : XDyad).data) = true := decide_eq_true hmy
  clear hmx hmy hjx hjy hps hm1 hnx hny hm hkk
  go_enter Tryd.func29, Tryd.ntmps29
  have BX0 : Blk ((w.alloc (.cells #[.bool nx, .slice lx.A lx.l.length lx.c, .int .i64 jx] 24)).alloc (.cells #[.bool ny, .slice ly.A ly.l.length ly.c, .int .i64 jy] 24)) w.heap.size 24 [.bool nx, .slice lx.A lx.l.length lx.c, .int .i64 jx] := Blk.alloc (Blk.new rfl) _
  have BY0 : Blk ((w.alloc (.cells #[.bool nx, .slice lx.A lx.l.length lx.c, .int .i64 jx] 24)).alloc (.cells #[.bool ny, .slice ly.A ly.l.length ly.c, .int .i64 jy] 24)) (w.heap.size + 1) 24 [.bool ny, .slice ly.A ly.l.length ly.c, .int .i64 jy] := Blk.new (by simp)
  go_wp2_with (first | ((with_reducible refine wpl_load 24 (.tmp 2) ?_ ?_ (w.heap.size) 0 [.bool nx, .slice lx.A lx.l.length lx.c, .int .i64 jx] ?_ ?_ ?_ ?_); (exact rfl); (exact rfl); (exact rfl); (exact aggDyad); (exact BX0.row)) | fail)
  refine (dyad_Check (⟨nx, lx, (jx : Int)⟩ : XDyad) _ (HX.out.ext (by repeat (first | exact Ext.refl _ | assumption | refine Ext.alloc' ?_ _ | refine Ext.drewN' ?_ _ | refine Ext.drew' ?_ | (refine Ext.trans ?_ (by assumption)))))).mono ?_
  rw [chk_true dm]
  rintro e w1 ⟨rfl, hE1⟩
  have hE0 : Ext w w1 := (Ext.alloc' (Ext.alloc _ _) _).trans hE1
  have BY1 : Blk w1 (w.heap.size + 1) 24 [.bool ny, .slice ly.A ly.l.length ly.c, .int .i64 jy] := BY0.ext hE1
  go_wp2_with (first | ((with_reducible refine wpl_load 24 (.tmp 3) ?_ ?_ (w.heap.size + 1) 0 [.bool ny, .slice ly.A ly.l.length ly.c, .int .i64 jy] ?_ ?_ ?_ ?_); (exact rfl); (exact rfl); (exact rfl); (exact aggDyad); (exact BY1.row)) | fail)
  refine (dyad_Check (⟨ny, ly, (jy : Int)⟩ : XDyad) _ (HY.out.ext hE0)).mono ?_
  rw [chk_true dm2]
  rintro e w2 ⟨rfl, hE2⟩
  have BX : Blk w2 w.heap.size 24 [.bool nx, .slice lx.A lx.l.length lx.c, .int .i64 jx] := (BX0.ext hE1).ext hE2
  have BY : Blk w2 (w.heap.size + 1) 24 [.bool ny, .slice ly.A ly.l.length ly.c, .int .i64 jy] := BY1.ext hE2
  have hE0 := hE0.trans hE2
  clear BX0 BY0 BY1 hE1 hE2 dm dm2
  have hcx : w2.cell? ⟨w.heap.size, 2, none⟩ = some (.int .i64 jx) := BX.cell 2
  have hcy : w2.cell? ⟨w.heap.size + 1, 2, none⟩ = some (.int .i64 jy) := BY.cell 2
  go_wp2_with (first | ((with_reducible refine wpl_load 24 (.tmp 2) ?_ ?_ (w.heap.size) 0 [.bool nx, .slice lx.A lx.l.length lx.c, .int .i64 jx] ?_ ?_ ?_ ?_); (exact rfl); (exact rfl); (exact rfl); (exact aggDyad); (exact BX.row)) | fail)
  refine (dyad_of (⟨nx, lx, (jx : Int)⟩ : XDyad) m (m - jx) _ (HX.out.ext hE0) HBX.out HLX.out HKX.out HKX2.out).mono ?_
  rintro e w3 ⟨g, l, rfl, hg, BG, hl, hlim, hval, hE3⟩
  have HGL : Hid (w.heap.size + 1 < g) := Lib.hid (Nat.lt_of_lt_of_le BY.lt hg)
  have HB3 : Hid (Blk w3 g 139 (Value.bool nx :: Value.slice none 0 0 :: Value.int .i64 m :: W32 l)) := Lib.hid BG
  have HL := Lib.hid hl
  have HLIM := Lib.hid hlim
  have HVAL : Hid (val B32 l = numD (⟨nx, lx, (jx : Int)⟩ : XDyad).data m) := Lib.hid (by rw [hval]; rfl)
  have HE3 := Lib.hid (hE0.trans hE3)
  have HY3 := Lib.hid (BY.ext hE3)
  clear BX BY hE0 hcx hcy hg BG hl hlim hval hE3
  go_wp2_with fail
  obtain ⟨WX, hWX⟩ : ∃ W0, W0 = w3 := ⟨_, rfl⟩
  rw [← hWX] at HB3 HE3 HY3 ⊢
  clear hWX
  have HGY : Hid (∀ W : World, Below g WX W → W.cell? ⟨w.heap.size + 1, 0, none⟩ = some (.bool ny)) := Lib.hid fun W hW => by rw [hW.cell (by have := HGL.out; show w.heap.size + 1 < g; omega)]; exact HY3.out.cell 0
  refine wp_region_flow (Below g WX) (fun W => Blk W g 139 (Value.bool nx :: Value.slice none 0 0 :: Value.int .i64 m :: W32 l)) Ext (fun i => if i = 6 then .row (fun v => ∃ l2 : List Nat, v = .agg (W32 l2).toArray ∧ l2.length = 74 ∧ Limbs l2) (fun v W => Blk W g 139 (Value.bool nx :: Value.slice none 0 0 :: Value.int .i64 m :: W32 l) ∧ ∃ l2 : List Nat, v = .agg (W32 l2).toArray ∧ val B32 l2 = numD (⟨ny, ly, (jy : Int)⟩ : XDyad).data m) else if i = 7 then .last else .det) [6] (by kernel_rfl) (by kernel_rfl) (by kernel_rfl) (Below.refl _ _).drew HB3.out.drew (fun w1 w2 h1 h2 => h1.ext h2) ?_
  iterate 4 (refine ftext_det rfl rfl ?_; apply Exists.intro; refine ⟨fun w hC => ?_, fun K hK => ?_⟩; (first | (go_simp; exact rfl) | (go_simp; exact ⟨rfl, rfl⟩) | (have h1 := HGY.out _ hC; go_simp; first | exact rfl | exact ⟨rfl, rfl⟩)); go_simp; refine hK _ ?_; clear hK K)
  refine ftext_load_row 24 _ rfl rfl rfl (w.heap.size + 1) 0 [.bool ny, .slice ly.A ly.l.length ly.c, .int .i64 jy] rfl aggDyad (fun W hW => (blk_below HY3.out hW (by have := HGL.out; omega)).row) (fun K hK => ?_)
  go_simp; refine hK _ ?_; clear hK K
  (refine ftext_det rfl rfl ?_; apply Exists.intro; refine ⟨fun w hC => ?_, fun K hK => ?_⟩; (first | (go_simp; exact rfl) | (go_simp; exact ⟨rfl, rfl⟩) | (have h1 := HGY.out _ hC; go_simp; first | exact rfl | exact ⟨rfl, rfl⟩)); go_simp; refine hK _ ?_; clear hK K)
  refine ftext_row _ _ rfl rfl ⟨_, List.replicate 74 0, rfl, by simp, Limbs.zeros _⟩ (fun v w1 w2 h1 h2 => ⟨h1.1.ext h2, h1.2⟩) (fun w1 hC hJ Φ hΦ => ?_) (fun v hv K hK => ?_)
  · have hEw : Ext w w1 := Below.trans HE3.out (hC.mono (by have := HGL.out; omega))
    have HBJ := Lib.hid hJ
    go_simp
    refine (dyad_widen (⟨ny, ly, (jy : Int)⟩ : XDyad) m (m - jy) _ (HY.out.ext hEw) HBY.out HLY.out HKY.out HKM.out.2).mono ?_
    rintro r w2 ⟨l2, rfl, h1, h2, h3, hE2⟩
    exact ⟨_, rfl, hΦ _ _ ⟨l2, rfl, h1, h2⟩ (hC.trans (Below.mono hE2 (Nat.le_trans (Nat.le_of_lt HB3.out.lt) hC.size))) hE2 ⟨HBJ.out.ext hE2, l2, rfl, h3⟩⟩
  obtain ⟨l2, rfl, hl2, hlim2⟩ := hv
  have HL2 := Lib.hid hl2
  have HLIM2 := Lib.hid hlim2
  clear hl2 hlim2
  go_simp; refine hK _ ?_; clear hK K
  refine ftext_last (fun _ => True) (fun _ W => ∃ o : List Nat, Blk W g 139 (Value.bool ps.1 :: Value.slice none 0 0 :: Value.int .i64 m :: W32 o) ∧ o.length = 74 ∧ Limbs o ∧ val B32 o = ps.2) rfl rfl ⟨undef, trivial⟩ (fun w1 hC hJ _ Φ hΦ => ?_) (fun v hv K hK => ?_)
  · obtain ⟨hJB, l3, hl3, hval3⟩ := hJ
    have hll := W32.inj hl3
    subst hll
    have HJB := Lib.hid hJB
    have HV3 := Lib.hid hval3
    clear hJB hval3 hl3
    go_simp
    refine (sum_add g nx (!ny) (.slice none 0 0) (.int .i64 m) l l2 _ HJB.out HL.out HL2.out HLIM.out HLIM2.out (by rw [HVAL.out, HV3.out]; exact HSB.out)).mono ?_
    rw [HVAL.out, HV3.out, HPS.out]
    rintro r w2 ⟨o, rfl, h1, h2, h3, h4, h5⟩
    exact ⟨_, rfl, hΦ _ _ trivial (hC.trans h5) ⟨o, h1, h2, h3, h4⟩⟩
  clear hv
  go_simp; refine hK _ ?_; clear hK K
  refine ftext_nil ?_
  rintro w4 hC ⟨o, hBo, hol, holim, hov⟩ _
  have HB4 := Lib.hid hBo
  have HOL := Lib.hid hol
  have HOLIM := Lib.hid holim
  have HOV := Lib.hid hov
  have HE4 : Hid (Ext w w4) := Lib.hid (Below.trans HE3.out (hC.mono (by have := HGL.out; omega)))
  clear hC hBo hol holim hov
  have HTW : Hid (AggTy Tryd.prog 136 (W32 o).length) := Lib.hid (by rw [W32.len, HOL.out]; exact aggWide)
  have HR3 : Hid (RowAt w4 g 3 (W32 o)) := Lib.hid fun j u hu => by rw [HB4.out.cell (3 + j), Nat.add_comm 3 j]; exact hu
  have heqw : ∀ W, (Op.equalIn 10000 136 (.agg (W32 o).toArray) (.agg Tryd.zeroCells136)).run Tryd.prog W = .ok (decide (ps.2 = 0)) W := fun W => by rw [eqlWide W _ HOL.out, HOV.out]
  have hc0 : w4.cell? ⟨g, 0, none⟩ = some (.bool ps.1) := HB4.out.cell 0
  obtain ⟨s1, n1⟩ := ps
  dsimp only at heqw hc0
  by_cases hz : n1 = 0
  · have HV := Lib.hid (HR.out.trans (if_pos hz))
    rw [decide_eq_true hz] at heqw
    clear hz
    go_wp2_with (first | ((with_reducible refine wpl_load 136 (.tmp 34) ?_ ?_ (g) 3 (W32 o) ?_ ?_ ?_ ?_); (exact rfl); (exact rfl); (exact rfl); (exact HTW.out); (exact HR3.out)) | fail)
    go_ret2
    exact ⟨by rw [HV.out] <;> rfl, HE4.out⟩
  · have hv := HR.out.trans (if_neg hz)
    rw [decide_eq_false hz] at heqw
    clear hz
    cases s1 with
    | true =>
      have HV := Lib.hid hv
      clear hv
      go_wp2_with (first | ((with_reducible refine wpl_load 136 (.tmp 34) ?_ ?_ (g) 3 (W32 o) ?_ ?_ ?_ ?_); (exact rfl); (exact rfl); (exact rfl); (exact HTW.out); (exact HR3.out)) | fail)
      go_ret2
      exact ⟨by rw [HV.out] <;> rfl, HE4.out⟩
    | false =>
      have HV := Lib.hid hv
      clear hv
      go_wp2_with (first | ((with_reducible refine wpl_load 136 (.tmp 34) ?_ ?_ (g) 3 (W32 o) ?_ ?_ ?_ ?_); (exact rfl); (exact rfl); (exact rfl); (exact HTW.out); (exact HR3.out)) | fail)
      go_ret2
      exact ⟨by rw [HV.out] <;> rfl, HE4.out⟩
end Go.Proofs.YtgcbnagfdfgpnaaDoor
