/- TraceParts: the law answers true. -/
import Derived.Test.YtnlhpdlnbcdfjaaLivesOwn
import Derived.Test.YtnlhpdlnbcdfjaaEvSame
namespace Go.Proofs.Ytnlhpdlnbcdfjaa
open Go.RowKit Go.Hx
attribute [local go_sem] detUpon undUpon

structure Spoil (w1 : World) (A : Option Addr) (n : Nat) (vc : Value) (Lc : List (LX PEvent)) (W : World) : Prop where
  old : Below w1.heap.size w1 W
  room : Room W w1.heap.size A n
  outs : OwnL W w1.heap.size vc Lc
  els : ∀ L ∈ Lc, Room W w1.heap.size L.A (L.l.length * 5) ∧ ∀ g, L.A = some ⟨g, 0, none⟩ → vc.ownBlock ≠ some g

theorem Spoil.set {w1 W : World} {A : Option Addr} {n : Nat} {vc : Value} {Lc : List (LX PEvent)} (h : Spoil w1 A n vc Lc W) {g : Nat} (hg : w1.heap.size ≤ g) (hne : vc.ownBlock ≠ some g) (j : Nat) (u : Value) : Spoil w1 A n vc Lc (W.setCell ⟨g, j, none⟩ u) :=
  ⟨h.old.setCell hg u, h.room.set _ _, h.outs.far hne u, fun L hL => ⟨(h.els L hL).1.set _ _, (h.els L hL).2⟩⟩
theorem Spoil.ext {w1 W W' : World} {A : Option Addr} {n : Nat} {vc : Value} {Lc : List (LX PEvent)} (h : Spoil w1 A n vc Lc W) (hE : Ext W W') : Spoil w1 A n vc Lc W' :=
  ⟨Ext.trans (Ext.of h.old) hE, h.room.ext hE, h.outs.ext hE, fun L hL => ⟨(h.els L hL).1.ext hE, (h.els L hL).2⟩⟩
theorem get_of_map {α β : Type} {f : α → β} {l m : List α} (h : l.map f = m.map f) {k : Nat} {a b : α} (ha : l[k]? = some a) (hb : m[k]? = some b) : f a = f b := by
  have := congrArg (·[k]?) h
  simpa [ha, hb] using this

set_option maxRecDepth 100000 in
set_option maxHeartbeats 1000000 in
theorem traceParts_any (A : Option Addr) (c : Nat) (l : List PEvent) (kind node : Int) (w : World) (hcap : l.length ≤ c ∧ c ≤ maxLen) (hx : Sl w w.heap.size PEvent.cells A l) :
    Calls Try.prog 4 #[.slice A l.length c, .int .u8 kind, .int .i64 node] w fun e w' => e = .returned (.bool true) ∧ Ext w w' := by
  have hc : l.length ≤ 9223372036854775807 := by have := hcap.1; have := hcap.2; unfold maxLen at this; omega
  have HCAP := Lib.hid hcap
  clear hcap
  have HX := Lib.hid hx
  clear hx
  by_cases h3 : 300 < l.length
  · have h3' : (300:Int) < (l.length : Int) := by omega
    go_enter Try.func4, Try.ntmps4
    go_wp2
    go_ret
    exact ⟨rfl, Ext.refl _⟩
  · have h3' : ¬ (300:Int) < (l.length : Int) := by omega
    have HS := Lib.hid (show Sl (w.alloc (.cells #[] 56)) (w.alloc (.cells #[] 56)).heap.size PEvent.cells A l from (HX.out.below (Ext.alloc w _)).mono (by simp))
    have HO : Own (w.alloc (.cells #[] 56)) w.heap.size 56 5 PEvent.cells (.slice (some ⟨w.heap.size, 0, none⟩) 0 0) [] := World.ownsRow_lit w #[] 0 (Nat.le_refl _) (by simp [maxLen]) rfl
    go_enter Try.func4, Try.ntmps4
    go_wp2_with (at_builtin; go_must (refine app_many elEv rfl (.tmp 20) (.tmp 21) rfl (w.alloc _) w.heap.size PEvent.cells _ [] l rfl HO A c rfl HS.out (fun _ => rfl) (fun _ => rfl) (by rw [List.length_nil]; omega) (by rw [List.length_nil]; unfold maxLen; omega) (by simp) ?_); intro v1 w1 hown1 hgrow1 hnew1; rw [List.nil_append] at hown1; obtain ⟨A1, c1, rfl, hok1⟩ := hown1.form; have hE1 : Ext w w1 := Own.below HO (Ext.alloc w _) hgrow1 (Nat.le_refl _) (by simp))
    have HS1 := Lib.hid hok1.1
    refine (trace_Of A1 c1 l kind node _ (by omega) HS1.out).mono ?_
    rintro e w2 ⟨va, rfl, hown2, hb2⟩
    have hE2 : Ext w1 w2 := hb2
    have HS2 := Lib.hid ((HX.out.below (hE1.trans hE2)).mono (hE1.trans hE2).size)
    go_wp2_with fail
    refine (ref31_Of A c l kind node _ (by omega) HS2.out).mono ?_
    rintro e w3 ⟨vb, rfl, hown3, hb3⟩
    have hE3 : Ext w2 w3 := hb3
    have HS3 := Lib.hid ((HS1.out.below (hE2.trans hE3)).mono (hE2.trans hE3).size)
    go_wp2_with fail
    refine (trace_Lives A1 c1 l node _ (by omega) HS3.out).mono ?_
    rintro e w4 ⟨vc, rfl, Lc, hLc, hcm, hb4⟩
    have hE4 : Ext w3 w4 := hb4
    have HS4 := Lib.hid ((HS2.out.below (hE3.trans hE4)).mono (hE3.trans hE4).size)
    go_wp2_with fail
    refine (ref31_Lives A c l node _ (by omega) HS4.out).mono ?_
    rintro e w5 ⟨vd, rfl, Ld, hLd, hdm, hb5⟩
    have hE5 : Ext w4 w5 := hb5
    obtain ⟨Aa, ca, rfl, hoka⟩ := hown2.form
    obtain ⟨Ab, cb, rfl, hokb⟩ := hown3.form
    obtain ⟨Ac, cc, rfl, hokc, hcc1, hcc2⟩ := hLc.outs.form
    have hlen : Ld.length = Lc.length := by
      have := congrArg List.length (hcm.trans hdm.symm)
      simpa using this.symm
    obtain ⟨Ad, cd, rfl, hokd, hcd1, hcd2⟩ := hLd.outs.form
    dsimp only at hokc hcc1 hokd hcd1
    rw [hlen] at hcd1 ⊢
    unfold maxLen at hcc2
    have HCM := Lib.hid (hcm.trans hdm.symm)
    have HL := Lib.hid hlen
    clear hcm hdm hlen
    go_wp2_with fail
    refine (ref31_Same ⟨_, Aa, ca⟩ ⟨_, Ab, cb⟩ _ (hoka.ext (hE3.trans (hE4.trans hE5))) (hokb.ext (hE4.trans hE5))).mono ?_
    rintro e w6 ⟨rfl, j6, rfl⟩
    rw [decide_eq_true rfl]
    have e7 : ((Lc.length : Int) == (Lc.length : Int)) = true := by simp
    have hE6 : Ext w5 (w5.drewN j6) := Ext.drewN _ _
    have HC := Lib.hid ((hokc.below hE5.below).mono hE5.size)
    have HD := Lib.hid hokd
    have HCX := Lib.hid hLc
    have HDX := Lib.hid hLd
    clear hokc hokd hLc hLd
    go_wp2
    go_loopw [12, 13] (fun vk vi wr => ∃ k : Nat, k ≤ Lc.length ∧ vk = .bool true ∧ vi = .int .i64 k ∧ Ext w5 wr) (fun _ i _ => Lc.length - (intOf i).toNat)
    case atStart => exact ⟨0, Nat.zero_le _, rfl, rfl, hE6⟩
    case round =>
      obtain ⟨k, hk, rfl, rfl, hE⟩ := hrel
      by_cases hlt : k < Lc.length
      · have hl : (k:Int) < (Lc.length : Int) := by omega
        obtain ⟨x, hx⟩ : ∃ x, Lc[k]? = some x := ⟨_, List.getElem?_eq_getElem hlt⟩
        obtain ⟨y, hy⟩ : ∃ y, Ld[k]? = some y := ⟨_, List.getElem?_eq_getElem (by have := HL.out; omega)⟩
        obtain ⟨bx, ox, rfl, hbx, rx⟩ := Sl.row (size := 1) (fun _ => rfl) HC.out hx
        obtain ⟨by_, oy, rfl, hby, ry⟩ := Sl.row (size := 1) (fun _ => rfl) HD.out hy
        have hkx := HCX.out.els x (List.mem_of_getElem? hx)
        have hky := HDX.out.els y (List.mem_of_getElem? hy)
        have HXY := Lib.hid (get_of_map HCM.out hx hy)
        have hokx := Lib.hid (hkx.1.ok.ext (hE5.trans hE))
        have hoky := Lib.hid (hky.1.ok.ext hE)
        have gx : ∀ W, Ext wr W → W.cell? ⟨bx, ox + k, none⟩ = some (.slice x.A x.l.length x.c) := fun W hW => (hE.trans hW).cell (by simpa using rx 0 _ rfl)
        have gy : ∀ W, Ext wr W → W.cell? ⟨by_, oy + k, none⟩ = some (.slice y.A y.l.length y.c) := fun W hW => (hE.trans hW).cell (by simpa using ry 0 _ rfl)
        clear rx ry hkx hky hx hy
        go_wp2
        refine wp_region_free (C := Ext wr) (R := Ext) (U := fun i => if i = 10 then some (.val (.bool true)) else none) (by kernel_rfl) (by kernel_rfl) (Ext.drew _) ?_
        repeat (first | (refine text_skip rfl rfl rfl rfl rfl (fun K hK => ?_); go_simp; refine hK _ ?_; clear hK K) | (refine text_det rfl rfl ?_; apply Exists.intro; refine ⟨fun w hC => ?_, fun K hK => ?_⟩; go_simp; exact rfl; go_simp; refine hK _ ?_; clear hK K))
        refine text_call _ rfl rfl (fun w7 hC Φ hΦ => ?_) (fun K hK => ?_)
        · go_simp
          refine (ref31_Same x y _ (hokx.out.ext hC) (hoky.out.ext hC)).mono ?_
          rintro e w8 ⟨rfl, j8, rfl⟩
          rw [decide_eq_true HXY.out]
          exact ⟨_, rfl, hΦ _ _ rfl (hC.trans (Ext.drewN _ _)) (Ext.drewN _ _)⟩
        go_simp; refine hK _ ?_; clear hK K
        repeat (first | (refine text_skip rfl rfl rfl rfl rfl (fun K hK => ?_); go_simp; refine hK _ ?_; clear hK K) | (refine text_det rfl rfl ?_; apply Exists.intro; refine ⟨fun w hC => ?_, fun K hK => ?_⟩; go_simp; exact rfl; go_simp; refine hK _ ?_; clear hK K))
        refine text_nil ?_
        intro wz hCz _
        have hEz := hE.trans hCz
        go_wp2
        go_roundw
        case rel => exact ⟨k + 1, by omega, rfl, by go_num, hEz⟩
        case measure => simp [intOf]; omega
      · have hsp : Spoil w1 Aa ((l.filter (sel kind node)).length * 5) (.slice Ac Lc.length cc) Lc wr := by
          have h14 := hE2.trans (hE3.trans hE4)
          refine ⟨(h14.trans (hE5.trans hE)).below, (Room.of_own hown2).ext (hE3.trans (hE4.trans (hE5.trans hE))), (HCX.out.outs.lower (hE2.trans hE3).size).ext (hE5.trans hE), fun L hL => ?_⟩
          have h1 := (HCX.out.els L hL).1
          refine ⟨((Room.of_own h1).lower (hE2.trans hE3).size).ext (hE5.trans hE), fun g hg => Own.ne h1 HCX.out.outs (by decide) (by show Value.ownBlock (.slice L.A _ _) = _; rw [hg]; rfl)⟩
        have hna : ∀ g, Aa = some ⟨g, 0, none⟩ → (Value.slice Ac Lc.length cc).ownBlock ≠ some g := fun g hg => Own.ne (hown2.ext (hE3.trans hE4)) HCX.out.outs (by decide) (by rw [hg]; rfl)
        have HA5 := Lib.hid hoka.2
        generalize hn : l.filter (sel kind node) = la at *
        have hla : la.length ≤ 300 := by rw [← hn]; exact Nat.le_trans (List.length_filter_le _ _) (by omega)
        clear hoka hokb hown2 hown3 HC HD
        go_wp2
        go_loopw [14] (fun vi wr => ∃ k : Nat, k ≤ la.length ∧ vi = .int .i64 k ∧ Spoil w1 Aa (la.length * 5) (.slice Ac Lc.length cc) Lc wr) (fun i _ => la.length - (intOf i).toNat)
        case atStart => exact ⟨0, Nat.zero_le _, rfl, hsp⟩
        case round =>
          clear hsp hE
          obtain ⟨k, hk, rfl, hsp⟩ := hrel
          by_cases hlt : k < la.length
          · have hl : (k:Int) < (la.length : Int) := by omega
            obtain ⟨g, u, rfl, hg, hcell, hfr⟩ := hsp.room.at (j := k * 5) (by omega)
            go_wp2
            go_roundw
            case rel => exact ⟨k + 1, by omega, by go_num, hsp.set hg (hna g rfl) _ _⟩
            case measure => simp [intOf]; omega
          · go_wp2
            clear hlt hna
            go_loopw [15] (fun vi wr => ∃ k : Nat, k ≤ Lc.length ∧ vi = .int .i64 k ∧ Spoil w1 Aa (la.length * 5) (.slice Ac Lc.length cc) Lc wr) (fun i _ => Lc.length - (intOf i).toNat)
            case atStart => exact ⟨0, Nat.zero_le _, rfl, hsp⟩
            case round =>
              clear hsp hk
              obtain ⟨k, hk, rfl, hsp⟩ := hrel
              by_cases hlt : k < Lc.length
              · have hl : (k:Int) < (Lc.length : Int) := by omega
                obtain ⟨x, hx⟩ : ∃ x, Lc[k]? = some x := ⟨_, List.getElem?_eq_getElem hlt⟩
                have HXX := Lib.hid hx
                clear hx
                have hxl : x.l.length ≤ x.c ∧ x.c ≤ maxLen := (HCX.out.els x (List.mem_of_getElem? HXX.out)).1.ok.2
                unfold maxLen at hxl
                go_wp2
                go_loopw [16] (fun vj wr => ∃ j : Nat, j ≤ x.l.length ∧ vj = .int .i64 j ∧ Spoil w1 Aa (la.length * 5) (.slice Ac Lc.length cc) Lc wr) (fun j _ => x.l.length - (intOf j).toNat)
                case atStart => exact ⟨0, Nat.zero_le _, rfl, hsp⟩
                case round =>
                  clear hsp
                  obtain ⟨j, hj, rfl, hsp⟩ := hrel
                  obtain ⟨bx, ox, hAc, hbx, rx⟩ := Sl.row (size := 1) (fun _ => rfl) hsp.outs.ok.1 HXX.out
                  dsimp only at hAc
                  subst hAc
                  have gx : wr.cell? ⟨bx, ox + k, none⟩ = some (.slice x.A x.l.length x.c) := by simpa using rx 0 _ rfl
                  clear rx
                  by_cases hlt' : j < x.l.length
                  · have hl' : (j:Int) < (x.l.length : Int) := by omega
                    obtain ⟨hrm, hnx⟩ := hsp.els x (List.mem_of_getElem? HXX.out)
                    obtain ⟨g, u, hxA, hg, hcell, hfr⟩ := hrm.at (j := j * 5) (by omega)
                    rw [hxA] at gx
                    go_wp2
                    go_roundw
                    case rel => exact ⟨j + 1, by omega, by go_num, hsp.set hg (hnx g hxA) _ _⟩
                    case measure => simp [intOf]; omega
                  · go_wp2
                    go_roundw
                    case rel => exact ⟨k + 1, by omega, by go_num, hsp⟩
                    case measure => simp [intOf]; omega
              · have hE := Ext.of hsp.old
                go_wp2_with fail
                refine (ref31_Same ⟨l, A1, c1⟩ ⟨l, A, c⟩ _ (hok1.ext hE) (LX.ok.ext (x := ⟨l, A, c⟩) ⟨HX.out, HCAP.out⟩ (hE1.trans hE))).mono ?_
                rintro e w9 ⟨rfl, j9, rfl⟩
                rw [decide_eq_true rfl]
                go_wp2
                go_ret
                exact ⟨rfl, (hE1.trans hE).trans (Ext.drewN _ _)⟩
end Go.Proofs.Ytnlhpdlnbcdfjaa
