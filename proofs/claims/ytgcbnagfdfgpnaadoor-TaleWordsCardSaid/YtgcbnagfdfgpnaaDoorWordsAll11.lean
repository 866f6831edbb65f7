/- Parts of a proof, joined: RefD5, RefD6, RefD7. -/
import Derived.Test.YtgcbnagfdfgpnaaDoorWordsAll10
import Derived.Test.YtgcbnagfdfgpnaaDoorWordsAll5
section
namespace Go.Proofs.YtgcbnagfdfgpnaaDoor
open Go.RowKit Go.Hx
attribute [local go_sem] detUpon undIn
set_option maxRecDepth 100000 in
set_option maxHeartbeats 4000000 in
theorem ref02_Half (x : XDyad) (w : World) (hx : x.ok w w.heap.size) (hb : Limbs x.limbs.l) :
    Calls Tryd.prog 39 #[.agg #[.bool x.neg, .slice x.limbs.A x.limbs.l.length x.limbs.c, .int .i64 x.exp]] w fun e w' => ∃ y : XDyad, e = .returned (.tuple #[.agg #[.bool y.neg, .slice y.limbs.A y.limbs.l.length y.limbs.c, .int .i64 y.exp], .int .i64 (halfD x.data).2]) ∧ y.data = (halfD x.data).1 ∧ Go.Hx.Own w' w.heap.size 33 1 cU32 (.slice y.limbs.A y.limbs.l.length y.limbs.c) y.limbs.l ∧ Ext w w' := by
  have HX := Lib.hid hx
  have HB := Lib.hid hb
  clear hx hb
  by_cases hmay : mayD x.data
  · obtain ⟨ng, ls, ex⟩ := x
    obtain ⟨j, rfl⟩ : ∃ j : Nat, ex = (j : Int) := ⟨ex.toNat, by have := hmay.2.1.1; simp only [XDyad.data] at this; omega⟩
    have hj : j ≤ 1024 := by have := hmay.2.1.2; simp only [XDyad.data] at this; omega
    obtain ⟨j1, hj1⟩ : ∃ j1 : Nat, j + 1 = j1 := ⟨_, rfl⟩
    have HJ1 : Hid (j1 ≤ 3000) := Lib.hid (by omega)
    have HLL : Hid (ls.l.length ≤ 40) := Lib.hid hmay.1.1
    have HR : Hid (halfD (⟨ng, ls, (j : Int)⟩ : XDyad).data = formD ng j1 (val B32 ls.l)) := Lib.hid (by unfold halfD; rw [if_pos hmay, ← hj1]; rfl)
    have HNV : Hid (numD (⟨ng, ls, (j : Int)⟩ : XDyad).data j = val B32 ls.l) := Lib.hid (by simp [numD, XDyad.data])
    have HLen : Hid ((digs 2 (val B32 ls.l)).length ≤ 100000) := Lib.hid (by
      have h1 : (digs 2 (val B32 ls.l)).length ≤ 32 * ls.l.length := (digs_length (by omega) _ _).2 (by rw [← B32_pow]; exact val_lt ls.l HB.out)
      have := HLL.out
      omega)
    have hadd : IntKind.i64.wrap ((j : Int) + 1) = (j1 : Int) := by rw [IntWalk.i64_in _ (by omega)]; omega
    have HAD := Lib.hid hadd
    have dm : decide (mayD (⟨ng, ls, (j : Int)⟩ : XDyad).data) = true := decide_eq_true hmay
    have HJ := Lib.hid hj
    clear hmay hadd hj hj1
    go_enter Tryd.func39, Tryd.ntmps39
    have BX0 : Blk ((w.alloc (.cells #[.bool ng, .slice ls.A ls.l.length ls.c, .int .i64 j] 24)).alloc (.cells #[.bool false, .slice none 0 0, .int .i64 0] 24)) w.heap.size 24 [.bool ng, .slice ls.A ls.l.length ls.c, .int .i64 j] := Blk.alloc (Blk.new rfl) _
    go_wp2_with (first | ((with_reducible refine wpl_load 24 (.tmp 1) ?_ ?_ (w.heap.size) 0 [.bool ng, .slice ls.A ls.l.length ls.c, .int .i64 j] ?_ ?_ ?_ ?_); (exact rfl); (exact rfl); (exact rfl); (exact aggDyad); (exact BX0.row)) | fail)
    refine (ref02_May (⟨ng, ls, (j : Int)⟩ : XDyad) _ (HX.out.ext (by repeat (first | exact Ext.refl _ | assumption | refine Ext.alloc' ?_ _ | refine Ext.drewN' ?_ _ | refine Ext.drew' ?_ | (refine Ext.trans ?_ (by assumption)))))).mono ?_
    rintro e w1 ⟨rfl, hE1⟩
    rw [dm]
    have BX : Blk w1 w.heap.size 24 [.bool ng, .slice ls.A ls.l.length ls.c, .int .i64 j] := BX0.ext hE1
    have BZ : Blk w1 (w.heap.size + 1) 24 [.bool false, .slice none 0 0, .int .i64 0] := (Blk.new (by simp)).ext hE1
    have hE0 : Ext w w1 := (Ext.alloc' (Ext.alloc _ _) _).trans hE1
    clear BX0 hE1 dm
    go_wp2_with fail
    obtain ⟨WX, hWX⟩ : ∃ W0, W0 = w1 := ⟨_, rfl⟩
    rw [← hWX] at BX BZ hE0 ⊢
    clear hWX
    have G0 : Hid (∀ W, Ext WX W → W.cell? ⟨w.heap.size, 2, none⟩ = some (.int .i64 j)) := Lib.hid fun W hW => hW.cell (BX.cell 2)
    refine wp_region_flowTail 13 (Ext WX) (fun _ => True) Ext (fun i => if i = 3 then .row (fun v => ∃ (b : Bool) (z : LX Nat), v = .agg #[.bool b, .slice z.A z.l.length z.c]) (fun v W => ∃ z : LX Nat, v = .agg #[.bool ng, .slice z.A z.l.length z.c] ∧ z.l = digs 2 (val B32 ls.l) ∧ Go.Hx.Own W w.heap.size 5 1 cU8 (.slice z.A z.l.length z.c) z.l) else if i = 7 then .row (fun v => ∃ (y : XDyad), v = .tuple #[.agg #[.bool y.neg, .slice y.limbs.A y.limbs.l.length y.limbs.c, .int .i64 y.exp], .int .i64 ((formD ng j1 (val B32 ls.l)).2)]) (fun v W => ∃ y : XDyad, v = .tuple #[.agg #[.bool y.neg, .slice y.limbs.A y.limbs.l.length y.limbs.c, .int .i64 y.exp], .int .i64 ((formD ng j1 (val B32 ls.l)).2)] ∧ y.data = (formD ng j1 (val B32 ls.l)).1 ∧ Go.Hx.Own W w.heap.size 33 1 cU32 (.slice y.limbs.A y.limbs.l.length y.limbs.c) y.limbs.l) else if i = 11 then .free (fun v => ∃ g : Nat, v = .pointer (some ⟨g, 0, none⟩)) (fun v W => ∃ g : Nat, v = .pointer (some ⟨g, 0, none⟩) ∧ WX.heap.size ≤ g ∧ Blk W g 24 [.bool false, .slice none 0 0, .int .i64 0]) else if i = 12 then .last else .det) [3, 7] (by kernel_rfl) (by kernel_rfl) (by kernel_rfl) (Ext.drew _) trivial (keeps_true _) ?_
    refine ftext_load_row 24 _ rfl rfl rfl (w.heap.size) 0 [.bool ng, .slice ls.A ls.l.length ls.c, .int .i64 j] rfl aggDyad (fun w hC => (BX.ext hC).row) (fun K hK => ?_)
    go_simp; refine hK _ ?_; clear hK K
    iterate 2 (refine ftext_det rfl rfl ?_; apply Exists.intro; refine ⟨fun w hC => ?_, fun K hK => ?_⟩; (first | (go_simp; exact rfl) | (go_simp; rw [G0.out _ hC]; exact ⟨rfl, rfl⟩)); go_simp; refine hK _ ?_; clear hK K)
    refine ftext_row _ _ rfl rfl ?_ (fun v w1 w2 ⟨z, h1, h2, h3⟩ hR => ⟨z, h1, h2, h3.ext hR⟩) (fun w1 hC hJ Φ hΦ => ?_) (fun v hv K hK => ?_)
    · exact ⟨_, false, ⟨[], none, 0⟩, rfl⟩
    · go_simp
      refine (ref02_In (⟨ng, ls, (j : Int)⟩ : XDyad) j _ (HX.out.ext (hE0.trans hC)) HB.out (by have := HLL.out; show ls.l.length ≤ 100; omega) (by show (0 : Int) ≤ (j : Int); omega) (by show (j : Int) ≤ (j : Int); omega) (by have := HJ.out; omega)).mono ?_
      rintro e w2 ⟨z, rfl, h1, h2, hE2⟩
      exact ⟨_, rfl, hΦ _ _ ⟨ng, z, rfl⟩ (hC.trans hE2) hE2 ⟨z, rfl, by rw [h1, HNV.out], h2.lower (hE0.trans hC).size⟩⟩
    obtain ⟨b1, z1, rfl⟩ := hv
    go_simp; refine hK _ ?_; clear hK K
    iterate 3 (refine ftext_det rfl rfl ?_; apply Exists.intro; refine ⟨fun w hC => ?_, fun K hK => ?_⟩; (first | (go_simp; exact rfl) | (go_simp; rw [G0.out _ hC]; exact ⟨rfl, rfl⟩)); go_simp; refine hK _ ?_; clear hK K)
    rw [HAD.out]
    refine ftext_row _ _ rfl rfl ?_ (fun v w1 w2 ⟨z, h1, h2, h3⟩ hR => ⟨z, h1, h2, h3.ext hR⟩) (fun w1 hC hJ Φ hΦ => ?_) (fun v hv K hK => ?_)
    · exact ⟨_, XDyad.zero, rfl⟩
    · obtain ⟨z, hz, h1, h2⟩ := hJ
      rw [hz]
      have H1 := Lib.hid h1
      clear h1
      go_simp
      have h1 := H1.out
      refine (ref02_Formed ng z j1 _ (h2.ok) (by rw [h1]; exact Bits.digs _) (by rw [h1]; exact HLen.out) HJ1.out).mono ?_
      rintro e w2 ⟨y, rfl, h3, h4, hE2⟩
      have hv2 : val 2 z.l = val B32 ls.l := by rw [h1]; exact val_digs (by omega) _
      rw [hv2] at h3 ⊢
      exact ⟨_, rfl, hΦ _ _ ⟨y, rfl⟩ (hC.trans hE2) hE2 ⟨y, rfl, h3, h4.lower (hE0.trans hC).size⟩⟩
    obtain ⟨y1, rfl⟩ := hv
    go_simp; refine hK _ ?_; clear hK K
    iterate 3 (refine ftext_det rfl rfl ?_; apply Exists.intro; refine ⟨fun w hC => ?_, fun K hK => ?_⟩; (first | (go_simp; exact rfl) | (go_simp; rw [G0.out _ hC]; exact ⟨rfl, rfl⟩)); go_simp; refine hK _ ?_; clear hK K)
    refine ftext_free _ _ rfl rfl ⟨_, 0, rfl⟩ (fun v w1 w2 ⟨g, h1, h2, h3⟩ hR => ⟨g, h1, h2, h3.ext hR⟩) (fun w1 hC Φ hΦ => ?_) (fun v hv K hK => ?_)
    · go_simp
      exact hΦ _ _ ⟨_, rfl⟩ (hC.trans (Ext.alloc _ _)) (Ext.alloc _ _) ⟨_, rfl, hC.size, Blk.new rfl⟩
    obtain ⟨g1, rfl⟩ := hv
    go_simp; refine hK _ ?_; clear hK K
    refine ftext_store 24 _ _ (fun W => ∃ y : XDyad, Blk W g1 24 [.bool y.neg, .slice y.limbs.A y.limbs.l.length y.limbs.c, .int .i64 y.exp] ∧ y.data = (formD ng j1 (val B32 ls.l)).1 ∧ Go.Hx.Own W w.heap.size 33 1 cU32 (.slice y.limbs.A y.limbs.l.length y.limbs.c) y.limbs.l ∧ WX.heap.size ≤ g1) rfl rfl rfl (fun w1 hC hJ hF => ?_) (fun K hK => ?_)
    · obtain ⟨y, hy, h1, h2⟩ := hJ
      obtain ⟨_, g, hg, hgs, Bg⟩ := hF
      have hgg : g1 = g := congrArg (fun v : Value => match v with | .pointer (some p) => p.block | _ => 0) hg
      subst hgg
      have hyc : Value.agg #[.bool y1.neg, .slice y1.limbs.A y1.limbs.l.length y1.limbs.c, .int .i64 y1.exp] = Value.agg #[.bool y.neg, .slice y.limbs.A y.limbs.l.length y.limbs.c, .int .i64 y.exp] := congrArg (fun v : Value => match v with | .tuple a => a.getD 0 undef | _ => v) hy
      refine ⟨g1, 24, [.bool false, .slice none 0 0, .int .i64 0], [.bool y.neg, .slice y.limbs.A y.limbs.l.length y.limbs.c, .int .i64 y.exp], rfl, hyc, aggDyad, Bg, rfl, rfl, fun w' BR hO => ?_⟩
      have HS2 : Shape (fun e => e = 24) w.heap.size w1 w' := Shape.only (T := fun e => e = 24) (Shape.refl _ _ _) Bg hO BR rfl rfl (by have := hE0.size; omega)
      exact ⟨Only.ext hC hO hgs, y, BR, h1, Go.Hx.Own.shape h2 HS2 (by decide), hgs⟩
    go_simp; refine hK _ ?_; clear hK K
    refine ftext_nil ?_
    rintro w1 hC ⟨y, BY, hyd, hyo, hgs⟩ _
    simp only [List.drop_succ_cons, List.drop_zero]
    refine wplIn_assign Open.wide _ rfl rfl ?_
    refine wpListIn_nil ?_
    have HO1 := Lib.hid hyo
    have HD1 := Lib.hid hyd
    have HZ1 := Lib.hid (BZ.ext hC)
    have HE1 := Lib.hid (hE0.trans hC)
    clear hyo hyd hgs hC
    go_wp2_with (first | ((with_reducible refine wpl_load 24 (.tmp 4) ?_ ?_ (g1) 0 [.bool y.neg, .slice y.limbs.A y.limbs.l.length y.limbs.c, .int .i64 y.exp] ?_ ?_ ?_ ?_); (exact rfl); (exact rfl); (exact rfl); (exact aggDyad); (exact BY.row)) | ((with_reducible refine wpl_store 24 (.tmp 2) (.tmp 21) ?_ ?_ (w.heap.size + 1) 0 24 [.bool false, .slice none 0 0, .int .i64 0] [.bool y.neg, .slice y.limbs.A y.limbs.l.length y.limbs.c, .int .i64 y.exp] ?_ ?_ ?_ ?_ ?_ ?_ ?_); (exact rfl); (exact rfl); (exact rfl); (exact rfl); (exact aggDyad); (exact HZ1.out); (exact by simp); (exact rfl); (intro w4 BR2 hO2)) | fail)
    have HS4 : Shape (fun e => e = 24) w.heap.size _ w4 := Shape.only (T := fun e => e = 24) (Shape.refl _ _ _) HZ1.out hO2 BR2 rfl rfl (by omega)
    exact bodyPost_ret (results_ct rfl rfl BR2 aggDyad) rfl ⟨y, by rw [HR.out] <;> rfl, by rw [HD1.out, HR.out], Go.Hx.Own.shape HO1.out HS4 (by decide), Only.ext HE1.out hO2 (by omega)⟩
  · have dm : decide (mayD x.data) = false := decide_eq_false hmay
    have HR : Hid (halfD x.data = (PDyad.zero, 8)) := Lib.hid (by unfold halfD; rw [if_neg hmay])
    clear hmay
    go_enter Tryd.func39, Tryd.ntmps39
    have BX0 : Blk ((w.alloc (.cells #[.bool x.neg, .slice x.limbs.A x.limbs.l.length x.limbs.c, .int .i64 x.exp] 24)).alloc (.cells #[.bool false, .slice none 0 0, .int .i64 0] 24)) w.heap.size 24 [.bool x.neg, .slice x.limbs.A x.limbs.l.length x.limbs.c, .int .i64 x.exp] := Blk.alloc (Blk.new rfl) _
    go_wp2_with (first | ((with_reducible refine wpl_load 24 (.tmp 1) ?_ ?_ (w.heap.size) 0 [.bool x.neg, .slice x.limbs.A x.limbs.l.length x.limbs.c, .int .i64 x.exp] ?_ ?_ ?_ ?_); (exact rfl); (exact rfl); (exact rfl); (exact aggDyad); (exact BX0.row)) | fail)
    refine (ref02_May x _ (HX.out.ext (by repeat (first | exact Ext.refl _ | assumption | refine Ext.alloc' ?_ _ | refine Ext.drewN' ?_ _ | refine Ext.drew' ?_ | (refine Ext.trans ?_ (by assumption)))))).mono ?_
    rintro e w1 ⟨rfl, hE1⟩
    rw [dm]
    have BZ : Blk w1 (w.heap.size + 1) 24 [.bool false, .slice none 0 0, .int .i64 0] := (Blk.new (by simp)).ext hE1
    have hE0 : Ext w w1 := (Ext.alloc' (Ext.alloc _ _) _).trans hE1
    clear BX0 hE1 dm
    go_wp2_with (first | ((with_reducible refine wpl_store 24 (.tmp 2) (.tmp 9) ?_ ?_ (w.heap.size + 1) 0 24 [.bool false, .slice none 0 0, .int .i64 0] [.bool false, .slice none 0 0, .int .i64 0] ?_ ?_ ?_ ?_ ?_ ?_ ?_); (exact rfl); (exact rfl); (exact rfl); (exact rfl); (exact aggDyad); (exact BZ); (exact by simp); (exact rfl); (intro w4 BR2 hO2)) | fail)
    exact bodyPost_ret (results_ct rfl rfl BR2 aggDyad) rfl ⟨XDyad.zero, by rw [HR.out] <;> rfl, by rw [HR.out] <;> rfl, Go.Hx.Own.nil _ _ _ _ _, Only.ext hE0 hO2 (by omega)⟩
end Go.Proofs.YtgcbnagfdfgpnaaDoor
end
section
namespace Go.Hx
theorem numD_lt {x : PDyad} (h : mayD x) (hl : Limbs x.limbs) {m k : Nat} (hm : m ≤ 1024) (hk : k = 2304) : numD x m < 2 ^ k := by
  have h1 : val B32 x.limbs < 2 ^ (32 * x.limbs.length) := by rw [← B32_pow]; exact val_lt _ hl
  have h2 : x.limbs.length ≤ 40 := h.1.1
  have h3 : numD x m < 2 ^ (m - x.exp.toNat) * 2 ^ (32 * x.limbs.length) := Nat.mul_lt_mul_of_pos_left h1 (Nat.pow_pos (by omega))
  rw [← Nat.pow_add] at h3
  exact Nat.lt_of_lt_of_le h3 (Nat.pow_le_pow_right (by omega) (by omega))
theorem plusS_le (s t : Bool) (a b : Nat) : (plusS s a t b).2 ≤ a + b := by
  unfold plusS
  split
  · exact Nat.le_refl _
  · split <;> (dsimp only; omega)
theorem digs_len_of_lt {n k : Nat} (h : n < 2 ^ k) : (digs 2 n).length ≤ k := (digs_length (by omega) n k).2 h
end Go.Hx
namespace Go.Proofs.YtgcbnagfdfgpnaaDoor
open Go.RowKit Go.Hx
attribute [local go_sem] detUpon undIn
set_option maxRecDepth 100000 in
set_option maxHeartbeats 4000000 in
theorem ref02_Add (x y : XDyad) (w : World) (hx : x.ok w w.heap.size) (hy : y.ok w w.heap.size) (hbx : Limbs x.limbs.l) (hby : Limbs y.limbs.l) :
    Calls Tryd.prog 93 #[.agg #[.bool x.neg, .slice x.limbs.A x.limbs.l.length x.limbs.c, .int .i64 x.exp], .agg #[.bool y.neg, .slice y.limbs.A y.limbs.l.length y.limbs.c, .int .i64 y.exp]] w fun e w' => ∃ r : XDyad, e = .returned (.tuple #[.agg #[.bool r.neg, .slice r.limbs.A r.limbs.l.length r.limbs.c, .int .i64 r.exp], .int .i64 (addD x.data y.data).2]) ∧ r.data = (addD x.data y.data).1 ∧ Go.Hx.Own w' w.heap.size 33 1 cU32 (.slice r.limbs.A r.limbs.l.length r.limbs.c) r.limbs.l ∧ Ext w w' := by
  have HX := Lib.hid hx
  have HY := Lib.hid hy
  have HBX := Lib.hid hbx
  have HBY := Lib.hid hby
  clear hx hy hbx hby
  by_cases hmx : mayD x.data
  · by_cases hmy : mayD y.data
    · obtain ⟨nx, lx, ex⟩ := x
      obtain ⟨ny, ly, ey⟩ := y
      obtain ⟨jx, rfl⟩ : ∃ j : Nat, ex = (j : Int) := ⟨ex.toNat, by have := hmx.2.1.1; simp only [XDyad.data] at this; omega⟩
      obtain ⟨jy, rfl⟩ : ∃ j : Nat, ey = (j : Int) := ⟨ey.toNat, by have := hmy.2.1.1; simp only [XDyad.data] at this; omega⟩
      have hjx : jx ≤ 1024 := by have := hmx.2.1.2; simp only [XDyad.data] at this; omega
      have hjy : jy ≤ 1024 := by have := hmy.2.1.2; simp only [XDyad.data] at this; omega
      obtain ⟨m, hm⟩ : ∃ m, max jx jy = m := ⟨_, rfl⟩
      obtain ⟨ps, hps⟩ : ∃ ps, (plusS nx (numD (⟨nx, lx, (jx : Int)⟩ : XDyad).data m) ny (numD (⟨ny, ly, (jy : Int)⟩ : XDyad).data m)) = ps := ⟨_, rfl⟩
      obtain ⟨sm, hsm⟩ : ∃ sm, formD ps.1 m ps.2 = sm := ⟨_, rfl⟩
      have hm1 : m ≤ 1024 := by omega
      have HM : Hid (lx.l.length ≤ 100 ∧ ly.l.length ≤ 100 ∧ (jx : Int) ≤ (m : Int) ∧ (jy : Int) ≤ (m : Int) ∧ m ≤ 3000) := Lib.hid (by
        have h1 : lx.l.length ≤ 40 := hmx.1.1
        have h2 : ly.l.length ≤ 40 := hmy.1.1
        omega)
      have HPS := Lib.hid hps
      have HSM := Lib.hid hsm
      obtain ⟨kk, hkk⟩ : ∃ k, k = 2304 := ⟨_, rfl⟩
      have hnx := numD_lt hmx HBX.out hm1 hkk
      have hny := numD_lt hmy HBY.out hm1 hkk
      have HNX : Hid ((digs 2 (numD (⟨nx, lx, (jx : Int)⟩ : XDyad).data m)).length ≤ 100000) := Lib.hid (Nat.le_trans (digs_len_of_lt hnx) (by omega))
      have HNY : Hid ((digs 2 (numD (⟨ny, ly, (jy : Int)⟩ : XDyad).data m)).length ≤ 100000) := Lib.hid (Nat.le_trans (digs_len_of_lt hny) (by omega))
      have HNS : Hid ((digs 2 ps.2).length ≤ 100000) := Lib.hid (by
        have h1 := plusS_le nx ny (numD (⟨nx, lx, (jx : Int)⟩ : XDyad).data m) (numD (⟨ny, ly, (jy : Int)⟩ : XDyad).data m)
        rw [hps] at h1
        have h2 : ps.2 < 2 ^ (kk + 1) := by rw [Nat.pow_succ]; omega
        exact Nat.le_trans (digs_len_of_lt h2) (by omega))
      have HR : Hid (addD (⟨nx, lx, (jx : Int)⟩ : XDyad).data (⟨ny, ly, (jy : Int)⟩ : XDyad).data = sm) := Lib.hid (by
        unfold addD sumD
        rw [if_pos ⟨hmx, hmy⟩]
        show formD (plusS nx (numD (⟨nx, lx, (jx : Int)⟩ : XDyad).data (max jx jy)) ny (numD (⟨ny, ly, (jy : Int)⟩ : XDyad).data (max jx jy))).1 (max jx jy) (plusS nx (numD (⟨nx, lx, (jx : Int)⟩ : XDyad).data (max jx jy)) ny (numD (⟨ny, ly, (jy : Int)⟩ : XDyad).data (max jx jy))).2 = _
        rw [hm, hps]
        exact hsm)
      have dm : decide (mayD (⟨nx, lx, (jx : Int)⟩ : XDyad).data) = true := decide_eq_true hmx
      have dm2 : decide (mayD (⟨ny, ly, (jy : Int)⟩ : XDyad).data) = true := decide_eq_true hmy
      have HMM := Lib.hid hm
      clear hmx hmy hjx hjy hps hsm hm1 hnx hny hm hkk
      go_enter Tryd.func93, Tryd.ntmps93
      have BX0 : Blk (((w.alloc (.cells #[.bool nx, .slice lx.A lx.l.length lx.c, .int .i64 jx] 24)).alloc (.cells #[.bool ny, .slice ly.A ly.l.length ly.c, .int .i64 jy] 24)).alloc (.cells #[.bool false, .slice none 0 0, .int .i64 0] 24)) w.heap.size 24 [.bool nx, .slice lx.A lx.l.length lx.c, .int .i64 jx] := Blk.alloc (Blk.alloc (Blk.new rfl) _) _
      have BY0 : Blk (((w.alloc (.cells #[.bool nx, .slice lx.A lx.l.length lx.c, .int .i64 jx] 24)).alloc (.cells #[.bool ny, .slice ly.A ly.l.length ly.c, .int .i64 jy] 24)).alloc (.cells #[.bool false, .slice none 0 0, .int .i64 0] 24)) (w.heap.size + 1) 24 [.bool ny, .slice ly.A ly.l.length ly.c, .int .i64 jy] := Blk.alloc (Blk.new (by simp)) _
      go_wp2_with (first | ((with_reducible refine wpl_load 24 (.tmp 2) ?_ ?_ (w.heap.size) 0 [.bool nx, .slice lx.A lx.l.length lx.c, .int .i64 jx] ?_ ?_ ?_ ?_); (exact rfl); (exact rfl); (exact rfl); (exact aggDyad); (exact BX0.row)) | fail)
      refine (ref02_May (⟨nx, lx, (jx : Int)⟩ : XDyad) _ (HX.out.ext (by repeat (first | exact Ext.refl _ | assumption | refine Ext.alloc' ?_ _ | refine Ext.drewN' ?_ _ | refine Ext.drew' ?_ | (refine Ext.trans ?_ (by assumption)))))).mono ?_
      rintro e w1 ⟨rfl, hE1⟩
      rw [dm]
      have hE0 : Ext w w1 := (Ext.alloc' (Ext.alloc' (Ext.alloc _ _) _) _).trans hE1
      have BY1 : Blk w1 (w.heap.size + 1) 24 [.bool ny, .slice ly.A ly.l.length ly.c, .int .i64 jy] := BY0.ext hE1
      go_wp2_with (first | ((with_reducible refine wpl_load 24 (.tmp 3) ?_ ?_ (w.heap.size + 1) 0 [.bool ny, .slice ly.A ly.l.length ly.c, .int .i64 jy] ?_ ?_ ?_ ?_); (exact rfl); (exact rfl); (exact rfl); (exact aggDyad); (exact BY1.row)) | fail)
      refine (ref02_May (⟨ny, ly, (jy : Int)⟩ : XDyad) _ (HY.out.ext hE0)).mono ?_
      rintro e w2 ⟨rfl, hE2⟩
      rw [dm2]
      have BX : Blk w2 w.heap.size 24 [.bool nx, .slice lx.A lx.l.length lx.c, .int .i64 jx] := (BX0.ext hE1).ext hE2
      have BY : Blk w2 (w.heap.size + 1) 24 [.bool ny, .slice ly.A ly.l.length ly.c, .int .i64 jy] := BY1.ext hE2
      have BZ : Blk w2 (w.heap.size + 2) 24 [.bool false, .slice none 0 0, .int .i64 0] := ((Blk.new (by simp)).ext hE1).ext hE2
      have hE0 := hE0.trans hE2
      clear BX0 BY0 BY1 hE1 hE2 dm dm2
      have hcx : w2.cell? ⟨w.heap.size, 2, none⟩ = some (.int .i64 jx) := BX.cell 2
      have hcy : w2.cell? ⟨w.heap.size + 1, 2, none⟩ = some (.int .i64 jy) := BY.cell 2
      go_wp2_with fail
      · obtain rfl : jy = m := by have := HMM.out; omega
        obtain ⟨WX, hWX⟩ : ∃ W0, W0 = w2 := ⟨_, rfl⟩
        rw [← hWX] at BX BY BZ hE0 ⊢
        clear hWX hcx hcy
        refine wp_region_flowTail 14 (Ext WX) (fun _ => True) Ext (fun i => if i = 2 then .seq else if i = 5 then .seq else if i = 6 then .seq else if i = 8 then .seq else if i = 12 then .free (fun v => ∃ g : Nat, v = .pointer (some ⟨g, 0, none⟩)) (fun v W => ∃ g : Nat, v = .pointer (some ⟨g, 0, none⟩) ∧ WX.heap.size ≤ g ∧ Blk W g 24 [.bool false, .slice none 0 0, .int .i64 0]) else if i = 13 then .last else .det) [2, 5, 6, 8] (by kernel_rfl) (by kernel_rfl) (by kernel_rfl) (Ext.drew _) trivial (keeps_true _) ?_
        refine ftext_load_row 24 _ rfl rfl rfl (w.heap.size) 0 [.bool nx, .slice lx.A lx.l.length lx.c, .int .i64 jx] rfl aggDyad (fun w hC => (BX.ext hC).row) (fun K hK => ?_)
        go_simp; refine hK _ ?_; clear hK K
        (refine ftext_det rfl rfl ?_; apply Exists.intro; refine ⟨fun w hC => ?_, fun K hK => ?_⟩; (first | (go_simp; exact rfl) | (go_simp; exact ⟨rfl, rfl⟩)); go_simp; refine hK _ ?_; clear hK K)
        refine ftext_seq (fun v => ∃ (b : Bool) (z : LX Nat), v = .agg #[.bool b, .slice z.A z.l.length z.c]) (fun v W => ∃ z : LX Nat, v = .agg #[.bool nx, .slice z.A z.l.length z.c] ∧ z.l = digs 2 (numD (⟨nx, lx, (jx : Int)⟩ : XDyad).data jy) ∧ Go.Hx.Own W w.heap.size 5 1 cU8 (.slice z.A z.l.length z.c) z.l) rfl rfl ?_ (fun v w1 w2 ⟨z, h1, h2, h3⟩ hR => ⟨z, h1, h2, h3.ext hR⟩) (fun w1 hC hJ Φ hΦ => ?_) (fun v hv K hK => ?_)
        · exact ⟨_, false, ⟨[], none, 0⟩, rfl⟩
        · go_simp
          refine (ref02_In (⟨nx, lx, (jx : Int)⟩ : XDyad) jy _ (HX.out.ext (hE0.trans hC)) HBX.out HM.out.1 (by show (0 : Int) ≤ (jx : Int); omega) HM.out.2.2.1 HM.out.2.2.2.2).mono ?_
          rintro e w2 ⟨z, rfl, h1, h2, hE2⟩
          exact ⟨_, rfl, hΦ _ _ ⟨nx, z, rfl⟩ (hC.trans hE2) hE2 ⟨z, rfl, h1, h2.lower (hE0.trans hC).size⟩⟩
        obtain ⟨b1, z1, rfl⟩ := hv
        go_simp; refine hK _ ?_; clear hK K
        refine ftext_load_row 24 _ rfl rfl rfl (w.heap.size + 1) 0 [.bool ny, .slice ly.A ly.l.length ly.c, .int .i64 jy] rfl aggDyad (fun w hC => (BY.ext hC).row) (fun K hK => ?_)
        go_simp; refine hK _ ?_; clear hK K
        (refine ftext_det rfl rfl ?_; apply Exists.intro; refine ⟨fun w hC => ?_, fun K hK => ?_⟩; (first | (go_simp; exact rfl) | (go_simp; exact ⟨rfl, rfl⟩)); go_simp; refine hK _ ?_; clear hK K)
        refine ftext_seq (fun v => ∃ (b : Bool) (z : LX Nat), v = .agg #[.bool b, .slice z.A z.l.length z.c]) (fun v W => (∃ z : LX Nat, Value.agg #[.bool b1, .slice z1.A z1.l.length z1.c] = .agg #[.bool nx, .slice z.A z.l.length z.c] ∧ z.l = digs 2 (numD (⟨nx, lx, (jx : Int)⟩ : XDyad).data jy) ∧ Go.Hx.Own W w.heap.size 5 1 cU8 (.slice z.A z.l.length z.c) z.l) ∧ ∃ z : LX Nat, v = .agg #[.bool ny, .slice z.A z.l.length z.c] ∧ z.l = digs 2 (numD (⟨ny, ly, (jy : Int)⟩ : XDyad).data jy) ∧ Go.Hx.Own W w.heap.size 5 1 cU8 (.slice z.A z.l.length z.c) z.l) rfl rfl ?_ (fun v w1 w2 ⟨⟨z, h1, h2, h3⟩, z2, k1, k2, k3⟩ hR => ⟨⟨z, h1, h2, h3.ext hR⟩, z2, k1, k2, k3.ext hR⟩) (fun w1 hC hJ Φ hΦ => ?_) (fun v hv K hK => ?_)
        · exact ⟨_, false, ⟨[], none, 0⟩, rfl⟩
        · obtain ⟨z0, hz0, g1, g2⟩ := hJ
          have G1 := Lib.hid g1
          clear g1
          go_simp
          refine (ref02_In (⟨ny, ly, (jy : Int)⟩ : XDyad) jy _ (HY.out.ext (hE0.trans hC)) HBY.out HM.out.2.1 (by show (0 : Int) ≤ (jy : Int); omega) HM.out.2.2.2.1 HM.out.2.2.2.2).mono ?_
          rintro e w2 ⟨z, rfl, h1, h2, hE2⟩
          exact ⟨_, rfl, hΦ _ _ ⟨ny, z, rfl⟩ (hC.trans hE2) hE2 ⟨⟨z0, hz0, G1.out, g2.ext hE2⟩, z, rfl, h1, h2.lower (hE0.trans hC).size⟩⟩
        obtain ⟨b2, z2, rfl⟩ := hv
        go_simp; refine hK _ ?_; clear hK K
        refine ftext_seq (fun v => ∃ (b : Bool) (z : LX Nat), v = .agg #[.bool b, .slice z.A z.l.length z.c]) (fun v W => ∃ z : LX Nat, v = .agg #[.bool ps.1, .slice z.A z.l.length z.c] ∧ z.l = digs 2 (ps.2) ∧ Go.Hx.Own W w.heap.size 5 1 cU8 (.slice z.A z.l.length z.c) z.l) rfl rfl ?_ (fun v w1 w2 ⟨z, h1, h2, h3⟩ hR => ⟨z, h1, h2, h3.ext hR⟩) (fun w1 hC hJ Φ hΦ => ?_) (fun v hv K hK => ?_)
        · exact ⟨_, false, ⟨[], none, 0⟩, rfl⟩
        · obtain ⟨⟨za, hza, a1, a2⟩, zb, hzb, c1, c2⟩ := hJ
          rw [hza, hzb]
          have A1 := Lib.hid a1
          have C1 := Lib.hid c1
          clear a1 c1
          go_simp
          refine (ref02_Plus nx ny za zb _ _ _ a2.ok c2.ok A1.out C1.out (by rw [A1.out]; exact HNX.out) (by rw [C1.out]; exact HNY.out)).mono ?_
          rw [HPS.out]
          rintro e w2 ⟨z, rfl, h1, h2, hE2⟩
          exact ⟨_, rfl, hΦ _ _ ⟨_, z, rfl⟩ (hC.trans hE2) hE2 ⟨z, rfl, h1, h2.lower (hE0.trans hC).size⟩⟩
        obtain ⟨b3, z3, rfl⟩ := hv
        go_simp; refine hK _ ?_; clear hK K
        (refine ftext_det rfl rfl ?_; apply Exists.intro; refine ⟨fun w hC => ?_, fun K hK => ?_⟩; (first | (go_simp; exact rfl) | (go_simp; exact ⟨rfl, rfl⟩)); go_simp; refine hK _ ?_; clear hK K)
        refine ftext_seq (fun v => ∃ (y : XDyad), v = .tuple #[.agg #[.bool y.neg, .slice y.limbs.A y.limbs.l.length y.limbs.c, .int .i64 y.exp], .int .i64 (sm.2)]) (fun v W => ∃ y : XDyad, v = .tuple #[.agg #[.bool y.neg, .slice y.limbs.A y.limbs.l.length y.limbs.c, .int .i64 y.exp], .int .i64 (sm.2)] ∧ y.data = sm.1 ∧ Go.Hx.Own W w.heap.size 33 1 cU32 (.slice y.limbs.A y.limbs.l.length y.limbs.c) y.limbs.l) rfl rfl ?_ (fun v w1 w2 ⟨z, h1, h2, h3⟩ hR => ⟨z, h1, h2, h3.ext hR⟩) (fun w1 hC hJ Φ hΦ => ?_) (fun v hv K hK => ?_)
        · exact ⟨_, XDyad.zero, rfl⟩
        · obtain ⟨z, hz, h1, h2⟩ := hJ
          rw [hz]
          have H1 := Lib.hid h1
          clear h1
          go_simp
          have h1 := H1.out
          refine (ref02_Formed ps.1 z jy _ (h2.ok) (by rw [h1]; exact Bits.digs _) (by rw [h1]; exact HNS.out) HM.out.2.2.2.2).mono ?_
          rintro e w2 ⟨r, rfl, h3, h4, hE2⟩
          have hv2 : val 2 z.l = ps.2 := by rw [h1]; exact val_digs (by omega) _
          rw [hv2, HSM.out] at h3 ⊢
          exact ⟨_, rfl, hΦ _ _ ⟨r, rfl⟩ (hC.trans hE2) hE2 ⟨r, rfl, h3, h4.lower (hE0.trans hC).size⟩⟩
        obtain ⟨y1, rfl⟩ := hv
        go_simp; refine hK _ ?_; clear hK K
        (refine ftext_det rfl rfl ?_; apply Exists.intro; refine ⟨fun w hC => ?_, fun K hK => ?_⟩; (first | (go_simp; exact rfl) | (go_simp; exact ⟨rfl, rfl⟩)); go_simp; refine hK _ ?_; clear hK K)
        (refine ftext_det rfl rfl ?_; apply Exists.intro; refine ⟨fun w hC => ?_, fun K hK => ?_⟩; (first | (go_simp; exact rfl) | (go_simp; exact ⟨rfl, rfl⟩)); go_simp; refine hK _ ?_; clear hK K)
        (refine ftext_det rfl rfl ?_; apply Exists.intro; refine ⟨fun w hC => ?_, fun K hK => ?_⟩; (first | (go_simp; exact rfl) | (go_simp; exact ⟨rfl, rfl⟩)); go_simp; refine hK _ ?_; clear hK K)
        refine ftext_free _ _ rfl rfl ⟨_, 0, rfl⟩ (fun v w1 w2 ⟨g, h1, h2, h3⟩ hR => ⟨g, h1, h2, h3.ext hR⟩) (fun w1 hC Φ hΦ => ?_) (fun v hv K hK => ?_)
        · go_simp
          exact hΦ _ _ ⟨_, rfl⟩ (hC.trans (Ext.alloc _ _)) (Ext.alloc _ _) ⟨_, rfl, hC.size, Blk.new rfl⟩
        obtain ⟨g1, rfl⟩ := hv
        go_simp; refine hK _ ?_; clear hK K
        refine ftext_store 24 _ _ (fun W => ∃ y : XDyad, Blk W g1 24 [.bool y.neg, .slice y.limbs.A y.limbs.l.length y.limbs.c, .int .i64 y.exp] ∧ y.data = sm.1 ∧ Go.Hx.Own W w.heap.size 33 1 cU32 (.slice y.limbs.A y.limbs.l.length y.limbs.c) y.limbs.l ∧ WX.heap.size ≤ g1) rfl rfl rfl (fun w1 hC hJ hF => ?_) (fun K hK => ?_)
        · obtain ⟨y, hy, h1, h2⟩ := hJ
          obtain ⟨_, g, hg, hgs, Bg⟩ := hF
          have hgg : g1 = g := congrArg (fun v : Value => match v with | .pointer (some p) => p.block | _ => 0) hg
          subst hgg
          have hyc : Value.agg #[.bool y1.neg, .slice y1.limbs.A y1.limbs.l.length y1.limbs.c, .int .i64 y1.exp] = Value.agg #[.bool y.neg, .slice y.limbs.A y.limbs.l.length y.limbs.c, .int .i64 y.exp] := congrArg (fun v : Value => match v with | .tuple a => a.getD 0 undef | _ => v) hy
          refine ⟨g1, 24, [.bool false, .slice none 0 0, .int .i64 0], [.bool y.neg, .slice y.limbs.A y.limbs.l.length y.limbs.c, .int .i64 y.exp], rfl, hyc, aggDyad, Bg, rfl, rfl, fun w' BR hO => ?_⟩
          have HS2 : Shape (fun e => e = 24) w.heap.size w1 w' := Shape.only (T := fun e => e = 24) (Shape.refl _ _ _) Bg hO BR rfl rfl (by have := hE0.size; omega)
          exact ⟨Only.ext hC hO hgs, y, BR, h1, Go.Hx.Own.shape h2 HS2 (by decide), hgs⟩
        go_simp; refine hK _ ?_; clear hK K
        refine ftext_nil ?_
        rintro w1 hC ⟨y, BY, hyd, hyo, hgs⟩ _
        simp only [List.drop_succ_cons, List.drop_zero]
        refine wplIn_assign Open.wide _ rfl rfl ?_
        refine wpListIn_nil ?_
        have HO1 := Lib.hid hyo
        have HD1 := Lib.hid hyd
        have HZ1 := Lib.hid (BZ.ext hC)
        have HE1 := Lib.hid (hE0.trans hC)
        clear hyo hyd hgs hC
        go_wp2_with (first | ((with_reducible refine wpl_load 24 (.tmp 7) ?_ ?_ (g1) 0 [.bool y.neg, .slice y.limbs.A y.limbs.l.length y.limbs.c, .int .i64 y.exp] ?_ ?_ ?_ ?_); (exact rfl); (exact rfl); (exact rfl); (exact aggDyad); (exact BY.row)) | ((with_reducible refine wpl_store 24 (.tmp 4) (.tmp 35) ?_ ?_ (w.heap.size + 2) 0 24 [.bool false, .slice none 0 0, .int .i64 0] [.bool y.neg, .slice y.limbs.A y.limbs.l.length y.limbs.c, .int .i64 y.exp] ?_ ?_ ?_ ?_ ?_ ?_ ?_); (exact rfl); (exact rfl); (exact rfl); (exact rfl); (exact aggDyad); (exact HZ1.out); (exact by simp); (exact rfl); (intro w4 BR2 hO2)) | fail)
        have HS4 : Shape (fun e => e = 24) w.heap.size _ w4 := Shape.only (T := fun e => e = 24) (Shape.refl _ _ _) HZ1.out hO2 BR2 rfl rfl (by omega)
        exact bodyPost_ret (results_ct rfl rfl BR2 aggDyad) rfl ⟨y, by rw [HR.out] <;> rfl, by rw [HD1.out, HR.out], Go.Hx.Own.shape HO1.out HS4 (by decide), Only.ext HE1.out hO2 (by omega)⟩
      · obtain rfl : jx = m := by have := HMM.out; omega
        obtain ⟨WX, hWX⟩ : ∃ W0, W0 = w2 := ⟨_, rfl⟩
        rw [← hWX] at BX BY BZ hE0 ⊢
        clear hWX hcx hcy
        refine wp_region_flowTail 14 (Ext WX) (fun _ => True) Ext (fun i => if i = 2 then .seq else if i = 5 then .seq else if i = 6 then .seq else if i = 8 then .seq else if i = 12 then .free (fun v => ∃ g : Nat, v = .pointer (some ⟨g, 0, none⟩)) (fun v W => ∃ g : Nat, v = .pointer (some ⟨g, 0, none⟩) ∧ WX.heap.size ≤ g ∧ Blk W g 24 [.bool false, .slice none 0 0, .int .i64 0]) else if i = 13 then .last else .det) [2, 5, 6, 8] (by kernel_rfl) (by kernel_rfl) (by kernel_rfl) (Ext.drew _) trivial (keeps_true _) ?_
        refine ftext_load_row 24 _ rfl rfl rfl (w.heap.size) 0 [.bool nx, .slice lx.A lx.l.length lx.c, .int .i64 jx] rfl aggDyad (fun w hC => (BX.ext hC).row) (fun K hK => ?_)
        go_simp; refine hK _ ?_; clear hK K
        (refine ftext_det rfl rfl ?_; apply Exists.intro; refine ⟨fun w hC => ?_, fun K hK => ?_⟩; (first | (go_simp; exact rfl) | (go_simp; exact ⟨rfl, rfl⟩)); go_simp; refine hK _ ?_; clear hK K)
        refine ftext_seq (fun v => ∃ (b : Bool) (z : LX Nat), v = .agg #[.bool b, .slice z.A z.l.length z.c]) (fun v W => ∃ z : LX Nat, v = .agg #[.bool nx, .slice z.A z.l.length z.c] ∧ z.l = digs 2 (numD (⟨nx, lx, (jx : Int)⟩ : XDyad).data jx) ∧ Go.Hx.Own W w.heap.size 5 1 cU8 (.slice z.A z.l.length z.c) z.l) rfl rfl ?_ (fun v w1 w2 ⟨z, h1, h2, h3⟩ hR => ⟨z, h1, h2, h3.ext hR⟩) (fun w1 hC hJ Φ hΦ => ?_) (fun v hv K hK => ?_)
        · exact ⟨_, false, ⟨[], none, 0⟩, rfl⟩
        · go_simp
          refine (ref02_In (⟨nx, lx, (jx : Int)⟩ : XDyad) jx _ (HX.out.ext (hE0.trans hC)) HBX.out HM.out.1 (by show (0 : Int) ≤ (jx : Int); omega) HM.out.2.2.1 HM.out.2.2.2.2).mono ?_
          rintro e w2 ⟨z, rfl, h1, h2, hE2⟩
          exact ⟨_, rfl, hΦ _ _ ⟨nx, z, rfl⟩ (hC.trans hE2) hE2 ⟨z, rfl, h1, h2.lower (hE0.trans hC).size⟩⟩
        obtain ⟨b1, z1, rfl⟩ := hv
        go_simp; refine hK _ ?_; clear hK K
        refine ftext_load_row 24 _ rfl rfl rfl (w.heap.size + 1) 0 [.bool ny, .slice ly.A ly.l.length ly.c, .int .i64 jy] rfl aggDyad (fun w hC => (BY.ext hC).row) (fun K hK => ?_)
        go_simp; refine hK _ ?_; clear hK K
        (refine ftext_det rfl rfl ?_; apply Exists.intro; refine ⟨fun w hC => ?_, fun K hK => ?_⟩; (first | (go_simp; exact rfl) | (go_simp; exact ⟨rfl, rfl⟩)); go_simp; refine hK _ ?_; clear hK K)
        refine ftext_seq (fun v => ∃ (b : Bool) (z : LX Nat), v = .agg #[.bool b, .slice z.A z.l.length z.c]) (fun v W => (∃ z : LX Nat, Value.agg #[.bool b1, .slice z1.A z1.l.length z1.c] = .agg #[.bool nx, .slice z.A z.l.length z.c] ∧ z.l = digs 2 (numD (⟨nx, lx, (jx : Int)⟩ : XDyad).data jx) ∧ Go.Hx.Own W w.heap.size 5 1 cU8 (.slice z.A z.l.length z.c) z.l) ∧ ∃ z : LX Nat, v = .agg #[.bool ny, .slice z.A z.l.length z.c] ∧ z.l = digs 2 (numD (⟨ny, ly, (jy : Int)⟩ : XDyad).data jx) ∧ Go.Hx.Own W w.heap.size 5 1 cU8 (.slice z.A z.l.length z.c) z.l) rfl rfl ?_ (fun v w1 w2 ⟨⟨z, h1, h2, h3⟩, z2, k1, k2, k3⟩ hR => ⟨⟨z, h1, h2, h3.ext hR⟩, z2, k1, k2, k3.ext hR⟩) (fun w1 hC hJ Φ hΦ => ?_) (fun v hv K hK => ?_)
        · exact ⟨_, false, ⟨[], none, 0⟩, rfl⟩
        · obtain ⟨z0, hz0, g1, g2⟩ := hJ
          have G1 := Lib.hid g1
          clear g1
          go_simp
          refine (ref02_In (⟨ny, ly, (jy : Int)⟩ : XDyad) jx _ (HY.out.ext (hE0.trans hC)) HBY.out HM.out.2.1 (by show (0 : Int) ≤ (jy : Int); omega) HM.out.2.2.2.1 HM.out.2.2.2.2).mono ?_
          rintro e w2 ⟨z, rfl, h1, h2, hE2⟩
          exact ⟨_, rfl, hΦ _ _ ⟨ny, z, rfl⟩ (hC.trans hE2) hE2 ⟨⟨z0, hz0, G1.out, g2.ext hE2⟩, z, rfl, h1, h2.lower (hE0.trans hC).size⟩⟩
        obtain ⟨b2, z2, rfl⟩ := hv
        go_simp; refine hK _ ?_; clear hK K
        refine ftext_seq (fun v => ∃ (b : Bool) (z : LX Nat), v = .agg #[.bool b, .slice z.A z.l.length z.c]) (fun v W => ∃ z : LX Nat, v = .agg #[.bool ps.1, .slice z.A z.l.length z.c] ∧ z.l = digs 2 (ps.2) ∧ Go.Hx.Own W w.heap.size 5 1 cU8 (.slice z.A z.l.length z.c) z.l) rfl rfl ?_ (fun v w1 w2 ⟨z, h1, h2, h3⟩ hR => ⟨z, h1, h2, h3.ext hR⟩) (fun w1 hC hJ Φ hΦ => ?_) (fun v hv K hK => ?_)
        · exact ⟨_, false, ⟨[], none, 0⟩, rfl⟩
        · obtain ⟨⟨za, hza, a1, a2⟩, zb, hzb, c1, c2⟩ := hJ
          rw [hza, hzb]
          have A1 := Lib.hid a1
          have C1 := Lib.hid c1
          clear a1 c1
          go_simp
          refine (ref02_Plus nx ny za zb _ _ _ a2.ok c2.ok A1.out C1.out (by rw [A1.out]; exact HNX.out) (by rw [C1.out]; exact HNY.out)).mono ?_
          rw [HPS.out]
          rintro e w2 ⟨z, rfl, h1, h2, hE2⟩
          exact ⟨_, rfl, hΦ _ _ ⟨_, z, rfl⟩ (hC.trans hE2) hE2 ⟨z, rfl, h1, h2.lower (hE0.trans hC).size⟩⟩
        obtain ⟨b3, z3, rfl⟩ := hv
        go_simp; refine hK _ ?_; clear hK K
        (refine ftext_det rfl rfl ?_; apply Exists.intro; refine ⟨fun w hC => ?_, fun K hK => ?_⟩; (first | (go_simp; exact rfl) | (go_simp; exact ⟨rfl, rfl⟩)); go_simp; refine hK _ ?_; clear hK K)
        refine ftext_seq (fun v => ∃ (y : XDyad), v = .tuple #[.agg #[.bool y.neg, .slice y.limbs.A y.limbs.l.length y.limbs.c, .int .i64 y.exp], .int .i64 (sm.2)]) (fun v W => ∃ y : XDyad, v = .tuple #[.agg #[.bool y.neg, .slice y.limbs.A y.limbs.l.length y.limbs.c, .int .i64 y.exp], .int .i64 (sm.2)] ∧ y.data = sm.1 ∧ Go.Hx.Own W w.heap.size 33 1 cU32 (.slice y.limbs.A y.limbs.l.length y.limbs.c) y.limbs.l) rfl rfl ?_ (fun v w1 w2 ⟨z, h1, h2, h3⟩ hR => ⟨z, h1, h2, h3.ext hR⟩) (fun w1 hC hJ Φ hΦ => ?_) (fun v hv K hK => ?_)
        · exact ⟨_, XDyad.zero, rfl⟩
        · obtain ⟨z, hz, h1, h2⟩ := hJ
          rw [hz]
          have H1 := Lib.hid h1
          clear h1
          go_simp
          have h1 := H1.out
          refine (ref02_Formed ps.1 z jx _ (h2.ok) (by rw [h1]; exact Bits.digs _) (by rw [h1]; exact HNS.out) HM.out.2.2.2.2).mono ?_
          rintro e w2 ⟨r, rfl, h3, h4, hE2⟩
          have hv2 : val 2 z.l = ps.2 := by rw [h1]; exact val_digs (by omega) _
          rw [hv2, HSM.out] at h3 ⊢
          exact ⟨_, rfl, hΦ _ _ ⟨r, rfl⟩ (hC.trans hE2) hE2 ⟨r, rfl, h3, h4.lower (hE0.trans hC).size⟩⟩
        obtain ⟨y1, rfl⟩ := hv
        go_simp; refine hK _ ?_; clear hK K
        (refine ftext_det rfl rfl ?_; apply Exists.intro; refine ⟨fun w hC => ?_, fun K hK => ?_⟩; (first | (go_simp; exact rfl) | (go_simp; exact ⟨rfl, rfl⟩)); go_simp; refine hK _ ?_; clear hK K)
        (refine ftext_det rfl rfl ?_; apply Exists.intro; refine ⟨fun w hC => ?_, fun K hK => ?_⟩; (first | (go_simp; exact rfl) | (go_simp; exact ⟨rfl, rfl⟩)); go_simp; refine hK _ ?_; clear hK K)
        (refine ftext_det rfl rfl ?_; apply Exists.intro; refine ⟨fun w hC => ?_, fun K hK => ?_⟩; (first | (go_simp; exact rfl) | (go_simp; exact ⟨rfl, rfl⟩)); go_simp; refine hK _ ?_; clear hK K)
        refine ftext_free _ _ rfl rfl ⟨_, 0, rfl⟩ (fun v w1 w2 ⟨g, h1, h2, h3⟩ hR => ⟨g, h1, h2, h3.ext hR⟩) (fun w1 hC Φ hΦ => ?_) (fun v hv K hK => ?_)
        · go_simp
          exact hΦ _ _ ⟨_, rfl⟩ (hC.trans (Ext.alloc _ _)) (Ext.alloc _ _) ⟨_, rfl, hC.size, Blk.new rfl⟩
        obtain ⟨g1, rfl⟩ := hv
        go_simp; refine hK _ ?_; clear hK K
        refine ftext_store 24 _ _ (fun W => ∃ y : XDyad, Blk W g1 24 [.bool y.neg, .slice y.limbs.A y.limbs.l.length y.limbs.c, .int .i64 y.exp] ∧ y.data = sm.1 ∧ Go.Hx.Own W w.heap.size 33 1 cU32 (.slice y.limbs.A y.limbs.l.length y.limbs.c) y.limbs.l ∧ WX.heap.size ≤ g1) rfl rfl rfl (fun w1 hC hJ hF => ?_) (fun K hK => ?_)
        · obtain ⟨y, hy, h1, h2⟩ := hJ
          obtain ⟨_, g, hg, hgs, Bg⟩ := hF
          have hgg : g1 = g := congrArg (fun v : Value => match v with | .pointer (some p) => p.block | _ => 0) hg
          subst hgg
          have hyc : Value.agg #[.bool y1.neg, .slice y1.limbs.A y1.limbs.l.length y1.limbs.c, .int .i64 y1.exp] = Value.agg #[.bool y.neg, .slice y.limbs.A y.limbs.l.length y.limbs.c, .int .i64 y.exp] := congrArg (fun v : Value => match v with | .tuple a => a.getD 0 undef | _ => v) hy
          refine ⟨g1, 24, [.bool false, .slice none 0 0, .int .i64 0], [.bool y.neg, .slice y.limbs.A y.limbs.l.length y.limbs.c, .int .i64 y.exp], rfl, hyc, aggDyad, Bg, rfl, rfl, fun w' BR hO => ?_⟩
          have HS2 : Shape (fun e => e = 24) w.heap.size w1 w' := Shape.only (T := fun e => e = 24) (Shape.refl _ _ _) Bg hO BR rfl rfl (by have := hE0.size; omega)
          exact ⟨Only.ext hC hO hgs, y, BR, h1, Go.Hx.Own.shape h2 HS2 (by decide), hgs⟩
        go_simp; refine hK _ ?_; clear hK K
        refine ftext_nil ?_
        rintro w1 hC ⟨y, BY, hyd, hyo, hgs⟩ _
        simp only [List.drop_succ_cons, List.drop_zero]
        refine wplIn_assign Open.wide _ rfl rfl ?_
        refine wpListIn_nil ?_
        have HO1 := Lib.hid hyo
        have HD1 := Lib.hid hyd
        have HZ1 := Lib.hid (BZ.ext hC)
        have HE1 := Lib.hid (hE0.trans hC)
        clear hyo hyd hgs hC
        go_wp2_with (first | ((with_reducible refine wpl_load 24 (.tmp 7) ?_ ?_ (g1) 0 [.bool y.neg, .slice y.limbs.A y.limbs.l.length y.limbs.c, .int .i64 y.exp] ?_ ?_ ?_ ?_); (exact rfl); (exact rfl); (exact rfl); (exact aggDyad); (exact BY.row)) | ((with_reducible refine wpl_store 24 (.tmp 4) (.tmp 35) ?_ ?_ (w.heap.size + 2) 0 24 [.bool false, .slice none 0 0, .int .i64 0] [.bool y.neg, .slice y.limbs.A y.limbs.l.length y.limbs.c, .int .i64 y.exp] ?_ ?_ ?_ ?_ ?_ ?_ ?_); (exact rfl); (exact rfl); (exact rfl); (exact rfl); (exact aggDyad); (exact HZ1.out); (exact by simp); (exact rfl); (intro w4 BR2 hO2)) | fail)
        have HS4 : Shape (fun e => e = 24) w.heap.size _ w4 := Shape.only (T := fun e => e = 24) (Shape.refl _ _ _) HZ1.out hO2 BR2 rfl rfl (by omega)
        exact bodyPost_ret (results_ct rfl rfl BR2 aggDyad) rfl ⟨y, by rw [HR.out] <;> rfl, by rw [HD1.out, HR.out], Go.Hx.Own.shape HO1.out HS4 (by decide), Only.ext HE1.out hO2 (by omega)⟩
    · have dm : decide (mayD x.data) = true := decide_eq_true hmx
      have dm2 : decide (mayD y.data) = false := decide_eq_false hmy
      have HR : Hid (addD x.data y.data = (PDyad.zero, 8)) := Lib.hid (by unfold addD; rw [if_neg (fun h => hmy h.2)])
      clear hmx hmy
      go_enter Tryd.func93, Tryd.ntmps93
      have BX0 : Blk (((w.alloc (.cells #[.bool x.neg, .slice x.limbs.A x.limbs.l.length x.limbs.c, .int .i64 x.exp] 24)).alloc (.cells #[.bool y.neg, .slice y.limbs.A y.limbs.l.length y.limbs.c, .int .i64 y.exp] 24)).alloc (.cells #[.bool false, .slice none 0 0, .int .i64 0] 24)) w.heap.size 24 [.bool x.neg, .slice x.limbs.A x.limbs.l.length x.limbs.c, .int .i64 x.exp] := Blk.alloc (Blk.alloc (Blk.new rfl) _) _
      have BY0 : Blk (((w.alloc (.cells #[.bool x.neg, .slice x.limbs.A x.limbs.l.length x.limbs.c, .int .i64 x.exp] 24)).alloc (.cells #[.bool y.neg, .slice y.limbs.A y.limbs.l.length y.limbs.c, .int .i64 y.exp] 24)).alloc (.cells #[.bool false, .slice none 0 0, .int .i64 0] 24)) (w.heap.size + 1) 24 [.bool y.neg, .slice y.limbs.A y.limbs.l.length y.limbs.c, .int .i64 y.exp] := Blk.alloc (Blk.new (by simp)) _
      go_wp2_with (first | ((with_reducible refine wpl_load 24 (.tmp 2) ?_ ?_ (w.heap.size) 0 [.bool x.neg, .slice x.limbs.A x.limbs.l.length x.limbs.c, .int .i64 x.exp] ?_ ?_ ?_ ?_); (exact rfl); (exact rfl); (exact rfl); (exact aggDyad); (exact BX0.row)) | fail)
      refine (ref02_May x _ (HX.out.ext (by repeat (first | exact Ext.refl _ | assumption | refine Ext.alloc' ?_ _ | refine Ext.drewN' ?_ _ | refine Ext.drew' ?_ | (refine Ext.trans ?_ (by assumption)))))).mono ?_
      rintro e w1 ⟨rfl, hE1⟩
      rw [dm]
      have hE0 : Ext w w1 := (Ext.alloc' (Ext.alloc' (Ext.alloc _ _) _) _).trans hE1
      have BY1 : Blk w1 (w.heap.size + 1) 24 [.bool y.neg, .slice y.limbs.A y.limbs.l.length y.limbs.c, .int .i64 y.exp] := BY0.ext hE1
      go_wp2_with (first | ((with_reducible refine wpl_load 24 (.tmp 3) ?_ ?_ (w.heap.size + 1) 0 [.bool y.neg, .slice y.limbs.A y.limbs.l.length y.limbs.c, .int .i64 y.exp] ?_ ?_ ?_ ?_); (exact rfl); (exact rfl); (exact rfl); (exact aggDyad); (exact BY1.row)) | fail)
      refine (ref02_May y _ (HY.out.ext hE0)).mono ?_
      rintro e w2 ⟨rfl, hE2⟩
      rw [dm2]
      have BZ : Blk w2 (w.heap.size + 2) 24 [.bool false, .slice none 0 0, .int .i64 0] := ((Blk.new (by simp)).ext hE1).ext hE2
      have hE0 := hE0.trans hE2
      clear BX0 BY0 BY1 hE1 hE2 dm dm2
      go_wp2_with (first | ((with_reducible refine wpl_store 24 (.tmp 4) (.tmp 17) ?_ ?_ (w.heap.size + 2) 0 24 [.bool false, .slice none 0 0, .int .i64 0] [.bool false, .slice none 0 0, .int .i64 0] ?_ ?_ ?_ ?_ ?_ ?_ ?_); (exact rfl); (exact rfl); (exact rfl); (exact rfl); (exact aggDyad); (exact BZ); (exact by simp); (exact rfl); (intro w4 BR2 hO2)) | fail)
      exact bodyPost_ret (results_ct rfl rfl BR2 aggDyad) rfl ⟨XDyad.zero, by rw [HR.out] <;> rfl, by rw [HR.out] <;> rfl, Go.Hx.Own.nil _ _ _ _ _, Only.ext hE0 hO2 (by omega)⟩
  · have dm : decide (mayD x.data) = false := decide_eq_false hmx
    have HR : Hid (addD x.data y.data = (PDyad.zero, 8)) := Lib.hid (by unfold addD; rw [if_neg (fun h => hmx h.1)])
    clear hmx
    go_enter Tryd.func93, Tryd.ntmps93
    have BX0 : Blk (((w.alloc (.cells #[.bool x.neg, .slice x.limbs.A x.limbs.l.length x.limbs.c, .int .i64 x.exp] 24)).alloc (.cells #[.bool y.neg, .slice y.limbs.A y.limbs.l.length y.limbs.c, .int .i64 y.exp] 24)).alloc (.cells #[.bool false, .slice none 0 0, .int .i64 0] 24)) w.heap.size 24 [.bool x.neg, .slice x.limbs.A x.limbs.l.length x.limbs.c, .int .i64 x.exp] := Blk.alloc (Blk.alloc (Blk.new rfl) _) _
    have BY0 : Blk (((w.alloc (.cells #[.bool x.neg, .slice x.limbs.A x.limbs.l.length x.limbs.c, .int .i64 x.exp] 24)).alloc (.cells #[.bool y.neg, .slice y.limbs.A y.limbs.l.length y.limbs.c, .int .i64 y.exp] 24)).alloc (.cells #[.bool false, .slice none 0 0, .int .i64 0] 24)) (w.heap.size + 1) 24 [.bool y.neg, .slice y.limbs.A y.limbs.l.length y.limbs.c, .int .i64 y.exp] := Blk.alloc (Blk.new (by simp)) _
    go_wp2_with (first | ((with_reducible refine wpl_load 24 (.tmp 2) ?_ ?_ (w.heap.size) 0 [.bool x.neg, .slice x.limbs.A x.limbs.l.length x.limbs.c, .int .i64 x.exp] ?_ ?_ ?_ ?_); (exact rfl); (exact rfl); (exact rfl); (exact aggDyad); (exact BX0.row)) | fail)
    refine (ref02_May x _ (HX.out.ext (by repeat (first | exact Ext.refl _ | assumption | refine Ext.alloc' ?_ _ | refine Ext.drewN' ?_ _ | refine Ext.drew' ?_ | (refine Ext.trans ?_ (by assumption)))))).mono ?_
    rintro e w1 ⟨rfl, hE1⟩
    rw [dm]
    have hE0 : Ext w w1 := (Ext.alloc' (Ext.alloc' (Ext.alloc _ _) _) _).trans hE1
    have BZ : Blk w1 (w.heap.size + 2) 24 [.bool false, .slice none 0 0, .int .i64 0] := (Blk.new (by simp)).ext hE1
    clear BX0 BY0 hE1 dm
    go_wp2_with (first | ((with_reducible refine wpl_store 24 (.tmp 4) (.tmp 17) ?_ ?_ (w.heap.size + 2) 0 24 [.bool false, .slice none 0 0, .int .i64 0] [.bool false, .slice none 0 0, .int .i64 0] ?_ ?_ ?_ ?_ ?_ ?_ ?_); (exact rfl); (exact rfl); (exact rfl); (exact rfl); (exact aggDyad); (exact BZ); (exact by simp); (exact rfl); (intro w4 BR2 hO2)) | fail)
    exact bodyPost_ret (results_ct rfl rfl BR2 aggDyad) rfl ⟨XDyad.zero, by rw [HR.out] <;> rfl, by rw [HR.out] <;> rfl, Go.Hx.Own.nil _ _ _ _ _, Only.ext hE0 hO2 (by omega)⟩
end Go.Proofs.YtgcbnagfdfgpnaaDoor
end
section
namespace Go.Hx
theorem mayD_minus {x : PDyad} (h : mayD x) : mayD (minusD x) := by
  unfold minusD
  split
  · exact h
  · rename_i hne
    refine ⟨h.1, h.2.1, ?_⟩
    have h2 := h.2.2
    rw [if_neg hne] at h2
    show if x.limbs = [] then _ else _
    rw [if_neg hne]
    exact h2
theorem subD_add {x y : PDyad} (hx : mayD x) (hy : mayD y) : subD x y = addD x (minusD y) := by
  unfold subD addD
  rw [if_pos ⟨hx, hy⟩, if_pos ⟨hx, mayD_minus hy⟩]
end Go.Hx
namespace Go.Proofs.YtgcbnagfdfgpnaaDoor
open Go.RowKit Go.Hx
attribute [local go_sem] detUpon undIn
set_option maxRecDepth 100000 in
set_option maxHeartbeats 4000000 in
theorem ref02_Sub (x y : XDyad) (w : World) (hx : x.ok w w.heap.size) (hy : y.ok w w.heap.size) (hbx : Limbs x.limbs.l) (hby : Limbs y.limbs.l) :
    Calls Tryd.prog 40 #[.agg #[.bool x.neg, .slice x.limbs.A x.limbs.l.length x.limbs.c, .int .i64 x.exp], .agg #[.bool y.neg, .slice y.limbs.A y.limbs.l.length y.limbs.c, .int .i64 y.exp]] w fun e w' => ∃ r : XDyad, e = .returned (.tuple #[.agg #[.bool r.neg, .slice r.limbs.A r.limbs.l.length r.limbs.c, .int .i64 r.exp], .int .i64 (subD x.data y.data).2]) ∧ r.data = (subD x.data y.data).1 ∧ Go.Hx.Own w' w.heap.size 33 1 cU32 (.slice r.limbs.A r.limbs.l.length r.limbs.c) r.limbs.l ∧ Ext w w' := by
  have HX := Lib.hid hx
  have HY := Lib.hid hy
  have HBX := Lib.hid hbx
  have HBY := Lib.hid hby
  clear hx hy hbx hby
  by_cases hmx : mayD x.data
  · by_cases hmy : mayD y.data
    · obtain ⟨sm, hsm⟩ : ∃ sm, addD x.data (minusD y.data) = sm := ⟨_, rfl⟩
      have HSM := Lib.hid hsm
      have HR : Hid (subD x.data y.data = sm) := Lib.hid (by rw [subD_add hmx hmy]; exact hsm)
      have dm : decide (mayD x.data) = true := decide_eq_true hmx
      have dm2 : decide (mayD y.data) = true := decide_eq_true hmy
      clear hmx hmy hsm
      go_enter Tryd.func40, Tryd.ntmps40
      have BX0 : Blk (((w.alloc (.cells #[.bool x.neg, .slice x.limbs.A x.limbs.l.length x.limbs.c, .int .i64 x.exp] 24)).alloc (.cells #[.bool y.neg, .slice y.limbs.A y.limbs.l.length y.limbs.c, .int .i64 y.exp] 24)).alloc (.cells #[.bool false, .slice none 0 0, .int .i64 0] 24)) w.heap.size 24 [.bool x.neg, .slice x.limbs.A x.limbs.l.length x.limbs.c, .int .i64 x.exp] := Blk.alloc (Blk.alloc (Blk.new rfl) _) _
      have BY0 : Blk (((w.alloc (.cells #[.bool x.neg, .slice x.limbs.A x.limbs.l.length x.limbs.c, .int .i64 x.exp] 24)).alloc (.cells #[.bool y.neg, .slice y.limbs.A y.limbs.l.length y.limbs.c, .int .i64 y.exp] 24)).alloc (.cells #[.bool false, .slice none 0 0, .int .i64 0] 24)) (w.heap.size + 1) 24 [.bool y.neg, .slice y.limbs.A y.limbs.l.length y.limbs.c, .int .i64 y.exp] := Blk.alloc (Blk.new (by simp)) _
      go_wp2_with (first | ((with_reducible refine wpl_load 24 (.tmp 2) ?_ ?_ (w.heap.size) 0 [.bool x.neg, .slice x.limbs.A x.limbs.l.length x.limbs.c, .int .i64 x.exp] ?_ ?_ ?_ ?_); (exact rfl); (exact rfl); (exact rfl); (exact aggDyad); (exact BX0.row)) | fail)
      refine (ref02_May x _ (HX.out.ext (by repeat (first | exact Ext.refl _ | assumption | refine Ext.alloc' ?_ _ | refine Ext.drewN' ?_ _ | refine Ext.drew' ?_ | (refine Ext.trans ?_ (by assumption)))))).mono ?_
      rintro e w1 ⟨rfl, hE1⟩
      rw [dm]
      have hE0 : Ext w w1 := (Ext.alloc' (Ext.alloc' (Ext.alloc _ _) _) _).trans hE1
      have BY1 : Blk w1 (w.heap.size + 1) 24 [.bool y.neg, .slice y.limbs.A y.limbs.l.length y.limbs.c, .int .i64 y.exp] := BY0.ext hE1
      go_wp2_with (first | ((with_reducible refine wpl_load 24 (.tmp 3) ?_ ?_ (w.heap.size + 1) 0 [.bool y.neg, .slice y.limbs.A y.limbs.l.length y.limbs.c, .int .i64 y.exp] ?_ ?_ ?_ ?_); (exact rfl); (exact rfl); (exact rfl); (exact aggDyad); (exact BY1.row)) | fail)
      refine (ref02_May y _ (HY.out.ext hE0)).mono ?_
      rintro e w2 ⟨rfl, hE2⟩
      rw [dm2]
      have BX : Blk w2 w.heap.size 24 [.bool x.neg, .slice x.limbs.A x.limbs.l.length x.limbs.c, .int .i64 x.exp] := (BX0.ext hE1).ext hE2
      have BY : Blk w2 (w.heap.size + 1) 24 [.bool y.neg, .slice y.limbs.A y.limbs.l.length y.limbs.c, .int .i64 y.exp] := BY1.ext hE2
      have BZ : Blk w2 (w.heap.size + 2) 24 [.bool false, .slice none 0 0, .int .i64 0] := ((Blk.new (by simp)).ext hE1).ext hE2
      have hE0 := hE0.trans hE2
      clear BX0 BY0 BY1 hE1 hE2 dm dm2
      go_wp2_with fail
      obtain ⟨WX, hWX⟩ : ∃ W0, W0 = w2 := ⟨_, rfl⟩
      rw [← hWX] at BX BY BZ hE0 ⊢
      clear hWX
      refine wp_region_flowTail 9 (Ext WX) (fun _ => True) Ext (fun i => if i = 2 then .seq else if i = 3 then .seq else if i = 7 then .free (fun v => ∃ g : Nat, v = .pointer (some ⟨g, 0, none⟩)) (fun v W => ∃ g : Nat, v = .pointer (some ⟨g, 0, none⟩) ∧ WX.heap.size ≤ g ∧ Blk W g 24 [.bool false, .slice none 0 0, .int .i64 0]) else if i = 8 then .last else .det) [2, 3] (by kernel_rfl) (by kernel_rfl) (by kernel_rfl) (Ext.drew _) trivial (keeps_true _) ?_
      refine ftext_load_row 24 _ rfl rfl rfl (w.heap.size) 0 [.bool x.neg, .slice x.limbs.A x.limbs.l.length x.limbs.c, .int .i64 x.exp] rfl aggDyad (fun w hC => (BX.ext hC).row) (fun K hK => ?_)
      go_simp; refine hK _ ?_; clear hK K
      refine ftext_load_row 24 _ rfl rfl rfl (w.heap.size + 1) 0 [.bool y.neg, .slice y.limbs.A y.limbs.l.length y.limbs.c, .int .i64 y.exp] rfl aggDyad (fun w hC => (BY.ext hC).row) (fun K hK => ?_)
      go_simp; refine hK _ ?_; clear hK K
      refine ftext_seq (fun v => ∃ (y : XDyad), v = .agg #[.bool y.neg, .slice y.limbs.A y.limbs.l.length y.limbs.c, .int .i64 y.exp]) (fun v _ => ∃ r : XDyad, v = .agg #[.bool r.neg, .slice r.limbs.A r.limbs.l.length r.limbs.c, .int .i64 r.exp] ∧ r.data = minusD y.data ∧ r.limbs = y.limbs) rfl rfl ?_ (fun v w1 w2 h _ => h) (fun w1 hC hJ Φ hΦ => ?_) (fun v hv K hK => ?_)
      · exact ⟨_, XDyad.zero, rfl⟩
      · go_simp
        refine (ref02_Minus y _).mono ?_
        rintro e w2 ⟨r, rfl, h1, h2, _, hE2⟩
        exact ⟨_, rfl, hΦ _ _ ⟨r, rfl⟩ (hC.trans hE2) hE2 ⟨r, rfl, h1, h2⟩⟩
      obtain ⟨y0, rfl⟩ := hv
      go_simp; refine hK _ ?_; clear hK K
      refine ftext_seq (fun v => ∃ (y : XDyad), v = .tuple #[.agg #[.bool y.neg, .slice y.limbs.A y.limbs.l.length y.limbs.c, .int .i64 y.exp], .int .i64 (sm.2)]) (fun v W => ∃ y : XDyad, v = .tuple #[.agg #[.bool y.neg, .slice y.limbs.A y.limbs.l.length y.limbs.c, .int .i64 y.exp], .int .i64 (sm.2)] ∧ y.data = sm.1 ∧ Go.Hx.Own W w.heap.size 33 1 cU32 (.slice y.limbs.A y.limbs.l.length y.limbs.c) y.limbs.l) rfl rfl ?_ (fun v w1 w2 ⟨z, h1, h2, h3⟩ hR => ⟨z, h1, h2, h3.ext hR⟩) (fun w1 hC hJ Φ hΦ => ?_) (fun v hv K hK => ?_)
      · exact ⟨_, XDyad.zero, rfl⟩
      · obtain ⟨r, hr, h1, h2⟩ := hJ
        rw [hr]
        have H1 := Lib.hid h1
        have H2 := Lib.hid h2
        clear h1 h2
        go_simp
        refine (ref02_Add x r _ (HX.out.ext (hE0.trans hC)) ⟨by rw [H2.out]; exact (HY.out.ext (hE0.trans hC)).limbs⟩ HBX.out (by rw [H2.out]; exact HBY.out)).mono ?_
        rintro e w2 ⟨z, rfl, h3, h4, hE2⟩
        rw [H1.out, HSM.out] at h3 ⊢
        exact ⟨_, rfl, hΦ _ _ ⟨z, rfl⟩ (hC.trans hE2) hE2 ⟨z, rfl, h3, h4.lower (hE0.trans hC).size⟩⟩
      obtain ⟨y1, rfl⟩ := hv
      go_simp; refine hK _ ?_; clear hK K
      (refine ftext_det rfl rfl ?_; apply Exists.intro; refine ⟨fun w hC => ?_, fun K hK => ?_⟩; (first | (go_simp; exact rfl) | (go_simp; exact ⟨rfl, rfl⟩)); go_simp; refine hK _ ?_; clear hK K)
      (refine ftext_det rfl rfl ?_; apply Exists.intro; refine ⟨fun w hC => ?_, fun K hK => ?_⟩; (first | (go_simp; exact rfl) | (go_simp; exact ⟨rfl, rfl⟩)); go_simp; refine hK _ ?_; clear hK K)
      (refine ftext_det rfl rfl ?_; apply Exists.intro; refine ⟨fun w hC => ?_, fun K hK => ?_⟩; (first | (go_simp; exact rfl) | (go_simp; exact ⟨rfl, rfl⟩)); go_simp; refine hK _ ?_; clear hK K)
      refine ftext_free _ _ rfl rfl ⟨_, 0, rfl⟩ (fun v w1 w2 ⟨g, h1, h2, h3⟩ hR => ⟨g, h1, h2, h3.ext hR⟩) (fun w1 hC Φ hΦ => ?_) (fun v hv K hK => ?_)
      · go_simp
        exact hΦ _ _ ⟨_, rfl⟩ (hC.trans (Ext.alloc _ _)) (Ext.alloc _ _) ⟨_, rfl, hC.size, Blk.new rfl⟩
      obtain ⟨g1, rfl⟩ := hv
      go_simp; refine hK _ ?_; clear hK K
      refine ftext_store 24 _ _ (fun W => ∃ y : XDyad, Blk W g1 24 [.bool y.neg, .slice y.limbs.A y.limbs.l.length y.limbs.c, .int .i64 y.exp] ∧ y.data = sm.1 ∧ Go.Hx.Own W w.heap.size 33 1 cU32 (.slice y.limbs.A y.limbs.l.length y.limbs.c) y.limbs.l ∧ WX.heap.size ≤ g1) rfl rfl rfl (fun w1 hC hJ hF => ?_) (fun K hK => ?_)
      · obtain ⟨y, hy, h1, h2⟩ := hJ
        obtain ⟨_, g, hg, hgs, Bg⟩ := hF
        have hgg : g1 = g := congrArg (fun v : Value => match v with | .pointer (some p) => p.block | _ => 0) hg
        subst hgg
        have hyc : Value.agg #[.bool y1.neg, .slice y1.limbs.A y1.limbs.l.length y1.limbs.c, .int .i64 y1.exp] = Value.agg #[.bool y.neg, .slice y.limbs.A y.limbs.l.length y.limbs.c, .int .i64 y.exp] := congrArg (fun v : Value => match v with | .tuple a => a.getD 0 undef | _ => v) hy
        refine ⟨g1, 24, [.bool false, .slice none 0 0, .int .i64 0], [.bool y.neg, .slice y.limbs.A y.limbs.l.length y.limbs.c, .int .i64 y.exp], rfl, hyc, aggDyad, Bg, rfl, rfl, fun w' BR hO => ?_⟩
        have HS2 : Shape (fun e => e = 24) w.heap.size w1 w' := Shape.only (T := fun e => e = 24) (Shape.refl _ _ _) Bg hO BR rfl rfl (by have := hE0.size; omega)
        exact ⟨Only.ext hC hO hgs, y, BR, h1, Go.Hx.Own.shape h2 HS2 (by decide), hgs⟩
      go_simp; refine hK _ ?_; clear hK K
      refine ftext_nil ?_
      rintro w1 hC ⟨y, BY, hyd, hyo, hgs⟩ _
      simp only [List.drop_succ_cons, List.drop_zero]
      refine wplIn_assign Open.wide _ rfl rfl ?_
      refine wpListIn_nil ?_
      have HO1 := Lib.hid hyo
      have HD1 := Lib.hid hyd
      have HZ1 := Lib.hid (BZ.ext hC)
      have HE1 := Lib.hid (hE0.trans hC)
      clear hyo hyd hgs hC
      go_wp2_with (first | ((with_reducible refine wpl_load 24 (.tmp 6) ?_ ?_ (g1) 0 [.bool y.neg, .slice y.limbs.A y.limbs.l.length y.limbs.c, .int .i64 y.exp] ?_ ?_ ?_ ?_); (exact rfl); (exact rfl); (exact rfl); (exact aggDyad); (exact BY.row)) | ((with_reducible refine wpl_store 24 (.tmp 4) (.tmp 24) ?_ ?_ (w.heap.size + 2) 0 24 [.bool false, .slice none 0 0, .int .i64 0] [.bool y.neg, .slice y.limbs.A y.limbs.l.length y.limbs.c, .int .i64 y.exp] ?_ ?_ ?_ ?_ ?_ ?_ ?_); (exact rfl); (exact rfl); (exact rfl); (exact rfl); (exact aggDyad); (exact HZ1.out); (exact by simp); (exact rfl); (intro w4 BR2 hO2)) | fail)
      have HS4 : Shape (fun e => e = 24) w.heap.size _ w4 := Shape.only (T := fun e => e = 24) (Shape.refl _ _ _) HZ1.out hO2 BR2 rfl rfl (by omega)
      exact bodyPost_ret (results_ct rfl rfl BR2 aggDyad) rfl ⟨y, by rw [HR.out] <;> rfl, by rw [HD1.out, HR.out], Go.Hx.Own.shape HO1.out HS4 (by decide), Only.ext HE1.out hO2 (by omega)⟩
    · have dm : decide (mayD x.data) = true := decide_eq_true hmx
      have dm2 : decide (mayD y.data) = false := decide_eq_false hmy
      have HR : Hid (subD x.data y.data = (PDyad.zero, 8)) := Lib.hid (by unfold subD; rw [if_neg (fun h => hmy h.2)])
      clear hmx hmy
      go_enter Tryd.func40, Tryd.ntmps40
      have BX0 : Blk (((w.alloc (.cells #[.bool x.neg, .slice x.limbs.A x.limbs.l.length x.limbs.c, .int .i64 x.exp] 24)).alloc (.cells #[.bool y.neg, .slice y.limbs.A y.limbs.l.length y.limbs.c, .int .i64 y.exp] 24)).alloc (.cells #[.bool false, .slice none 0 0, .int .i64 0] 24)) w.heap.size 24 [.bool x.neg, .slice x.limbs.A x.limbs.l.length x.limbs.c, .int .i64 x.exp] := Blk.alloc (Blk.alloc (Blk.new rfl) _) _
      have BY0 : Blk (((w.alloc (.cells #[.bool x.neg, .slice x.limbs.A x.limbs.l.length x.limbs.c, .int .i64 x.exp] 24)).alloc (.cells #[.bool y.neg, .slice y.limbs.A y.limbs.l.length y.limbs.c, .int .i64 y.exp] 24)).alloc (.cells #[.bool false, .slice none 0 0, .int .i64 0] 24)) (w.heap.size + 1) 24 [.bool y.neg, .slice y.limbs.A y.limbs.l.length y.limbs.c, .int .i64 y.exp] := Blk.alloc (Blk.new (by simp)) _
      go_wp2_with (first | ((with_reducible refine wpl_load 24 (.tmp 2) ?_ ?_ (w.heap.size) 0 [.bool x.neg, .slice x.limbs.A x.limbs.l.length x.limbs.c, .int .i64 x.exp] ?_ ?_ ?_ ?_); (exact rfl); (exact rfl); (exact rfl); (exact aggDyad); (exact BX0.row)) | fail)
      refine (ref02_May x _ (HX.out.ext (by repeat (first | exact Ext.refl _ | assumption | refine Ext.alloc' ?_ _ | refine Ext.drewN' ?_ _ | refine Ext.drew' ?_ | (refine Ext.trans ?_ (by assumption)))))).mono ?_
      rintro e w1 ⟨rfl, hE1⟩
      rw [dm]
      have hE0 : Ext w w1 := (Ext.alloc' (Ext.alloc' (Ext.alloc _ _) _) _).trans hE1
      have BY1 : Blk w1 (w.heap.size + 1) 24 [.bool y.neg, .slice y.limbs.A y.limbs.l.length y.limbs.c, .int .i64 y.exp] := BY0.ext hE1
      go_wp2_with (first | ((with_reducible refine wpl_load 24 (.tmp 3) ?_ ?_ (w.heap.size + 1) 0 [.bool y.neg, .slice y.limbs.A y.limbs.l.length y.limbs.c, .int .i64 y.exp] ?_ ?_ ?_ ?_); (exact rfl); (exact rfl); (exact rfl); (exact aggDyad); (exact BY1.row)) | fail)
      refine (ref02_May y _ (HY.out.ext hE0)).mono ?_
      rintro e w2 ⟨rfl, hE2⟩
      rw [dm2]
      have BZ : Blk w2 (w.heap.size + 2) 24 [.bool false, .slice none 0 0, .int .i64 0] := ((Blk.new (by simp)).ext hE1).ext hE2
      have hE0 := hE0.trans hE2
      clear BX0 BY0 BY1 hE1 hE2 dm dm2
      go_wp2_with (first | ((with_reducible refine wpl_store 24 (.tmp 4) (.tmp 16) ?_ ?_ (w.heap.size + 2) 0 24 [.bool false, .slice none 0 0, .int .i64 0] [.bool false, .slice none 0 0, .int .i64 0] ?_ ?_ ?_ ?_ ?_ ?_ ?_); (exact rfl); (exact rfl); (exact rfl); (exact rfl); (exact aggDyad); (exact BZ); (exact by simp); (exact rfl); (intro w4 BR2 hO2)) | fail)
      exact bodyPost_ret (results_ct rfl rfl BR2 aggDyad) rfl ⟨XDyad.zero, by rw [HR.out] <;> rfl, by rw [HR.out] <;> rfl, Go.Hx.Own.nil _ _ _ _ _, Only.ext hE0 hO2 (by omega)⟩
  · have dm : decide (mayD x.data) = false := decide_eq_false hmx
    have HR : Hid (subD x.data y.data = (PDyad.zero, 8)) := Lib.hid (by unfold subD; rw [if_neg (fun h => hmx h.1)])
    clear hmx
    go_enter Tryd.func40, Tryd.ntmps40
    have BX0 : Blk (((w.alloc (.cells #[.bool x.neg, .slice x.limbs.A x.limbs.l.length x.limbs.c, .int .i64 x.exp] 24)).alloc (.cells #[.bool y.neg, .slice y.limbs.A y.limbs.l.length y.limbs.c, .int .i64 y.exp] 24)).alloc (.cells #[.bool false, .slice none 0 0, .int .i64 0] 24)) w.heap.size 24 [.bool x.neg, .slice x.limbs.A x.limbs.l.length x.limbs.c, .int .i64 x.exp] := Blk.alloc (Blk.alloc (Blk.new rfl) _) _
    have BY0 : Blk (((w.alloc (.cells #[.bool x.neg, .slice x.limbs.A x.limbs.l.length x.limbs.c, .int .i64 x.exp] 24)).alloc (.cells #[.bool y.neg, .slice y.limbs.A y.limbs.l.length y.limbs.c, .int .i64 y.exp] 24)).alloc (.cells #[.bool false, .slice none 0 0, .int .i64 0] 24)) (w.heap.size + 1) 24 [.bool y.neg, .slice y.limbs.A y.limbs.l.length y.limbs.c, .int .i64 y.exp] := Blk.alloc (Blk.new (by simp)) _
    go_wp2_with (first | ((with_reducible refine wpl_load 24 (.tmp 2) ?_ ?_ (w.heap.size) 0 [.bool x.neg, .slice x.limbs.A x.limbs.l.length x.limbs.c, .int .i64 x.exp] ?_ ?_ ?_ ?_); (exact rfl); (exact rfl); (exact rfl); (exact aggDyad); (exact BX0.row)) | fail)
    refine (ref02_May x _ (HX.out.ext (by repeat (first | exact Ext.refl _ | assumption | refine Ext.alloc' ?_ _ | refine Ext.drewN' ?_ _ | refine Ext.drew' ?_ | (refine Ext.trans ?_ (by assumption)))))).mono ?_
    rintro e w1 ⟨rfl, hE1⟩
    rw [dm]
    have hE0 : Ext w w1 := (Ext.alloc' (Ext.alloc' (Ext.alloc _ _) _) _).trans hE1
    have BZ : Blk w1 (w.heap.size + 2) 24 [.bool false, .slice none 0 0, .int .i64 0] := (Blk.new (by simp)).ext hE1
    clear BX0 BY0 hE1 dm
    go_wp2_with (first | ((with_reducible refine wpl_store 24 (.tmp 4) (.tmp 16) ?_ ?_ (w.heap.size + 2) 0 24 [.bool false, .slice none 0 0, .int .i64 0] [.bool false, .slice none 0 0, .int .i64 0] ?_ ?_ ?_ ?_ ?_ ?_ ?_); (exact rfl); (exact rfl); (exact rfl); (exact rfl); (exact aggDyad); (exact BZ); (exact by simp); (exact rfl); (intro w4 BR2 hO2)) | fail)
    exact bodyPost_ret (results_ct rfl rfl BR2 aggDyad) rfl ⟨XDyad.zero, by rw [HR.out] <;> rfl, by rw [HR.out] <;> rfl, Go.Hx.Own.nil _ _ _ _ _, Only.ext hE0 hO2 (by omega)⟩
end Go.Proofs.YtgcbnagfdfgpnaaDoor
end
