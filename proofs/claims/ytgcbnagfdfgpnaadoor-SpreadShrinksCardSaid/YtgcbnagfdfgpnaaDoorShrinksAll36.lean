/- The program: how far masses are apart. Printed by gen_farm.py. -/
import Derived.Test.YtgcbnagfdfgpnaaDoorShrinksAll33
import Derived.Test.YtgcbnagfdfgpnaaDoorShrinksAll35
namespace Go.Hx
open Go.RowKit
/-- the results' cells -/
structure FarZ (w W : World) : Prop where
  ext : Ext w W
  z2 : Blk W w.heap.size 24 [.bool false, .slice none 0 0, .int .i64 0]
  z3 : Blk W (w.heap.size + 1) 24 [.bool false, .slice none 0 0, .int .i64 0]
theorem FarZ.to {w W W' : World} (h : FarZ w W) (k : Ext W W') : FarZ w W' := ⟨h.ext.trans k, h.z2.ext k, h.z3.ext k⟩
/-- while both are told -/
structure FarC (w W : World) (g : Nat) (y0 y1 : XDyad) : Prop where
  z : FarZ w W
  b8 : Blk W g 125 [.bool y0.neg, .slice y0.limbs.A y0.limbs.l.length y0.limbs.c, .int .i64 y0.exp, .bool y1.neg, .slice y1.limbs.A y1.limbs.l.length y1.limbs.c, .int .i64 y1.exp]
  m0 : y0.mine W w.heap.size
  m1 : y1.mine W w.heap.size
  low : w.heap.size + 1 < g
theorem FarC.ext {w W : World} {g : Nat} {y0 y1 : XDyad} (h : FarC w W g y0 y1) : Ext w W := h.z.ext
theorem FarC.to {w W W' : World} {g : Nat} {y0 y1 : XDyad} (h : FarC w W g y0 y1) (k : Ext W W') : FarC w W' g y0 y1 := ⟨h.z.to k, h.b8.ext k, h.m0.ext k, h.m1.ext k, h.low⟩
theorem FarZ.only {w W W' : World} {g : Nat} (h : FarZ w W) (hO : Only W W' g) (hg : w.heap.size + 1 < g) : FarZ w W' := ⟨Only.ext h.ext hO (by omega), h.z2.only hO (by omega), h.z3.only hO (by omega)⟩
theorem FarC.set0 {w W W' : World} {g : Nat} {y0 y1 r : XDyad} (h : FarC w W g y0 y1) (hr : r.mine W w.heap.size) (hO : Only W W' g) (hR : Blk W' g 125 [.bool r.neg, .slice r.limbs.A r.limbs.l.length r.limbs.c, .int .i64 r.exp, .bool y1.neg, .slice y1.limbs.A y1.limbs.l.length y1.limbs.c, .int .i64 y1.exp]) : FarC w W' g r y1 :=
  ⟨h.z.only hO h.low, hR, hr.only h.b8 hO hR rfl (by decide), h.m1.only h.b8 hO hR rfl (by decide), h.low⟩
theorem FarC.set1 {w W W' : World} {g : Nat} {y0 y1 r : XDyad} (h : FarC w W g y0 y1) (hr : r.mine W w.heap.size) (hO : Only W W' g) (hR : Blk W' g 125 [.bool y0.neg, .slice y0.limbs.A y0.limbs.l.length y0.limbs.c, .int .i64 y0.exp, .bool r.neg, .slice r.limbs.A r.limbs.l.length r.limbs.c, .int .i64 r.exp]) : FarC w W' g y0 r :=
  ⟨h.z.only hO h.low, hR, h.m0.only h.b8 hO hR rfl (by decide), hr.only h.b8 hO hR rfl (by decide), h.low⟩
theorem fars_ne {l : List PDyad} (h : l ≠ []) : datX none ≠ l.foldl farS none := by
  cases l with
  | nil => exact absurd rfl h
  | cons a l =>
    have : ∀ (l : List PDyad) (p : PDyad × PDyad), ∃ q, l.foldl farS (some p) = some q := fun l => by
      induction l with
      | nil => exact fun p => ⟨p, rfl⟩
      | cons b l ih => exact fun p => ih _
    obtain ⟨q, hq⟩ := this l (a, a)
    show none ≠ l.foldl farS (some (a, a))
    rw [hq]; simp
end Go.Hx
namespace Go.Proofs.YtgcbnagfdfgpnaaDoor
open Go.RowKit Go.Hx
attribute [local go_sem] XDyad.cells XMass.cells detUpon undIn
set_option maxRecDepth 100000 in
set_option maxHeartbeats 4000000 in
theorem mean_Far (x : LX XMass) (w : World) (hx : x.ok w w.heap.size XMass.cells) (hxs : ∀ z ∈ x.l, z.ok w w.heap.size) (lx : ∀ z ∈ x.l, LimM z.data) (hm : ∀ z ∈ x.l, mayM z.data) (hne : x.l ≠ []) (hl4 : x.l.length ≤ 4096) (h0 : (farD (x.l.map fun z => z.data.c)).2 = 0) (h1 : (farD (x.l.map fun z => z.data.a)).2 = 0) (hT : Tab w) :
    Calls Tryd.prog 28 #[.slice x.A x.l.length x.c] w fun e w' => ∃ c a : XDyad, e = .returned (.tuple #[.agg #[.bool c.neg, .slice c.limbs.A c.limbs.l.length c.limbs.c, .int .i64 c.exp], .agg #[.bool a.neg, .slice a.limbs.A a.limbs.l.length a.limbs.c, .int .i64 a.exp], .int .i64 0]) ∧ c.data = (farD (x.l.map fun z => z.data.c)).1 ∧ a.data = (farD (x.l.map fun z => z.data.a)).1 ∧ c.mine w' w.heap.size ∧ a.mine w' w.heap.size ∧ Ext w w' := by
  obtain ⟨l, A, c⟩ := x
  dsimp only at *
  have HX := Lib.hid hx.1
  have HXS := Lib.hid hxs
  have LXX := Lib.hid lx
  have HMAY := Lib.hid hm
  have HL4 : Hid (l.length ≤ 4096) := Lib.hid hl4
  have HNE0 : Hid (datX none ≠ (l.map fun z => z.data.c).foldl farS none) := Lib.hid (fars_ne (by simpa using hne))
  have HNE1 : Hid (datX none ≠ (l.map fun z => z.data.a).foldl farS none) := Lib.hid (fars_ne (by simpa using hne))
  have H0 := Lib.hid h0
  have H1 := Lib.hid h1
  have HT := Lib.hid hT
  have hlen : ¬ ((l.length : Int) > 4096) := by omega
  have hlen2 : ¬ ((4096 : Int) < (l.length : Int)) := by omega
  clear hx hxs lx hm hne hl4 h0 h1 hT
  have BZ2 : Blk ((w.alloc (.cells #[.bool false, .slice none 0 0, .int .i64 0] 24)).alloc (.cells #[.bool false, .slice none 0 0, .int .i64 0] 24)) w.heap.size 24 [.bool false, .slice none 0 0, .int .i64 0] := Blk.alloc (Blk.new rfl) _
  have BZ3 : Blk ((w.alloc (.cells #[.bool false, .slice none 0 0, .int .i64 0] 24)).alloc (.cells #[.bool false, .slice none 0 0, .int .i64 0] 24)) (w.heap.size + 1) 24 [.bool false, .slice none 0 0, .int .i64 0] := Blk.new (by simp)
  have HZ0 : Hid (FarZ w ((w.alloc (.cells #[.bool false, .slice none 0 0, .int .i64 0] 24)).alloc (.cells #[.bool false, .slice none 0 0, .int .i64 0] 24))) := Lib.hid ⟨Ext.alloc' (Ext.alloc _ _) _, BZ2, BZ3⟩
  clear BZ2 BZ3
  go_enter Tryd.func28, Tryd.ntmps28
  go_wp2_with fail
  go_loopw [21] (fun i W => ∃ (k : Nat), k ≤ l.length ∧ i = .int .i64 k ∧ Hid (FarZ w W)) (fun i _ => l.length - (intOf i).toNat)
  case atStart => exact ⟨0, by omega, rfl, HZ0⟩
  case round =>
    obtain ⟨k, hk, rfl, HI⟩ := hrel
    clear HZ0
    by_cases hlt : k < l.length
    · obtain ⟨z, hz⟩ : ∃ z, l[k]? = some z := ⟨_, List.getElem?_eq_getElem hlt⟩
      have HZM := Lib.hid (List.mem_of_getElem? hz)
      obtain ⟨b1, o1, rfl, hb1, hrow⟩ := Sl.row (size := 12) (fun _ => rfl) HX.out hz
      have R_z : Hid (∀ W, Ext w W → RowAt W b1 (o1 + k * 12) z.cells) := Lib.hid fun W hW => hrow.below hW.below hb1
      have hki : (k : Int) < (l.length : Int) := by omega
      have hk4 : k < 4096 := by have := HL4.out; omega
      have hok := Lib.hid ((HXS.out z HZM.out).ext HI.out.ext)
      have HC : Hid (chk (decide (mayM z.data)) = 0) := Lib.hid (chk_yes (HMAY.out z HZM.out))
      clear hz hb1 hrow
      go_wp2_with (first | ((with_reducible refine wpl_load 47 (.tmp 23) ?_ ?_ b1 (o1 + k * 12) z.cells ?_ ?_ ?_ ?_); (exact rfl); (exact rfl); (exact rfl); (exact aggMass); (exact R_z.out _ HI.out.ext)) | fail)
      refine (mass_Check z _ (hok.out.ext (Ext.alloc _ _))).mono ?_
      rw [HC.out]
      rintro e w2 ⟨rfl, hE2⟩
      have HI2 := Lib.hid (HI.out.to ((Ext.alloc _ _).trans hE2))
      clear hE2
      go_wp2_with fail
      go_roundw
      case rel => exact ⟨k + 1, by omega, by go_num, HI2⟩
      case measure => simp [intOf]; omega
    · have hki : ¬ (k : Int) < (l.length : Int) := by omega
      obtain ⟨g8, hg8⟩ : ∃ g, wr.heap.size = g := ⟨_, rfl⟩
      have B8 : Blk (wr.alloc (.cells #[.bool false, .slice none 0 0, .int .i64 0, .bool false, .slice none 0 0, .int .i64 0] 125)) g8 125 [.bool false, .slice none 0 0, .int .i64 0, .bool false, .slice none 0 0, .int .i64 0] := hg8 ▸ Blk.new rfl
      have HF0 : Hid (FarC w (wr.alloc (.cells #[.bool false, .slice none 0 0, .int .i64 0, .bool false, .slice none 0 0, .int .i64 0] 125)) g8 XDyad.zero XDyad.zero) := Lib.hid ⟨HI.out.to (Ext.alloc _ _), B8, XDyad.zero_mine _ _, XDyad.zero_mine _ _, by have := HI.out.z3.lt; omega⟩
      clear B8
      go_wp2_with fail
      clear hg8 HI
      go_loopw [33] (fun i W => ∃ y0 y1 : XDyad, (i = .int .i64 0 ∨ (i = .int .i64 1 ∧ Hid (y0.data = (farD (l.map fun z => z.data.c)).1)) ∨ (i = .int .i64 2 ∧ Hid (y0.data = (farD (l.map fun z => z.data.c)).1) ∧ Hid (y1.data = (farD (l.map fun z => z.data.a)).1))) ∧ Hid (FarC w W g8 y0 y1)) (fun i _ => 2 - (intOf i).toNat)
      case atStart => exact ⟨_, _, .inl rfl, HF0⟩
      case round =>
        obtain ⟨y0, y1, hi, HF⟩ := hrel
        clear HF0
        rcases hi with rfl | ⟨rfl, HY0⟩ | ⟨rfl, HY0, HY1⟩
        · skip
          have HXX := Lib.hid HF
          go_wp2_with fail
          refine calls_nm fun WE hWE => ?_
          have HE : Hid (FarC w WE g8 y0 y1) := Lib.hid (by rw [hWE]; exact HF.out)
          clear hWE HF HXX
          refine (mean_ends WE).mono ?_
          rintro e w1 ⟨rfl, hI⟩
          have HI0 : Hid (FarI WE w1 WE.heap.size (WE.heap.size + 1) none) := Lib.hid hI
          clear hI
          obtain ⟨L, hL⟩ : ∃ L, WE.heap.size = L := ⟨_, rfl⟩
          obtain ⟨H, hH⟩ : ∃ H, WE.heap.size + 1 = H := ⟨_, rfl⟩
          rw [hL] at HI0 ⊢
          rw [show L + 1 = H by omega] at HI0 ⊢
          clear hL hH
          go_wp2_with fail
          go_loopw [42] (fun i W => ∃ (j : Nat) (s : Option (XDyad × XDyad)), j ≤ l.length ∧ i = .int .i64 j ∧ Hid (FarI WE W L H s) ∧ Hid (datX s = ((l.take j).map fun z => z.data.c).foldl farS none)) (fun i _ => l.length - (intOf i).toNat)
          case atStart => exact ⟨0, none, by omega, rfl, HI0, Lib.hid rfl⟩
          case round =>
            obtain ⟨j, s, hj, rfl, HI, HS⟩ := hrel
            clear HI0
            by_cases hlt : j < l.length
            · obtain ⟨z, hz⟩ : ∃ z, l[j]? = some z := ⟨_, List.getElem?_eq_getElem hlt⟩
              have HZ := Lib.hid hz
              have HZM := Lib.hid (List.mem_of_getElem? hz)
              obtain ⟨b1, o1, rfl, hb1, hrow⟩ := Sl.row (size := 12) (fun _ => rfl) HX.out hz
              have R_z : Hid (∀ W, Ext w W → RowAt W b1 (o1 + j * 12) z.cells) := Lib.hid fun W hW => hrow.below hW.below hb1
              have hki : (j : Int) < (l.length : Int) := by omega
              have hk4 : j < 4096 := by have := HL4.out; omega
              have HIN : Hid (InD WE z.c) := Lib.hid ⟨((HXS.out z HZM.out).c).ext HE.out.ext, (LXX.out z HZM.out).2.2.1, (HMAY.out z HZM.out).2.2.1⟩
              have HEW : Hid (Ext w wr) := Lib.hid (HE.out.ext.trans HI.out.ext)
              have ip := idxP0
              clear hz hb1 hrow
              go_wp2_with (first | ((with_reducible refine wpl_load 47 (.tmp 44) ?_ ?_ b1 (o1 + j * 12) z.cells ?_ ?_ ?_ ?_); (exact rfl); (exact rfl); (exact rfl); (exact aggMass); (exact R_z.out _ HEW.out)) | fail)
              refine calls_nm fun W1 hW => ?_
              have B0 : Blk W1 wr.heap.size 47 z.cells := by rw [hW]; exact Blk.new (by simp)
              have E1 : Ext wr W1 := by rw [hW]; exact Ext.alloc _ _
              clear hW
              refine (mean_pair wr.heap.size _).mono ?_
              rintro e W2 ⟨rfl, hE⟩
              replace B0 := B0.ext hE
              replace E1 := E1.trans hE
              have RP : RowAt W2 wr.heap.size 6 [.bool z.c.neg, .slice z.c.limbs.A z.c.limbs.l.length z.c.limbs.c, .int .i64 z.c.exp] := B0.part 6 3
              have HFI := Lib.hid (HI.out.to E1)
              clear hE B0
              go_wp2_with (first | ((with_reducible refine wpl_load 24 (.tmp 50) ?_ ?_ (wr.heap.size) 6 [.bool z.c.neg, .slice z.c.limbs.A z.c.limbs.l.length z.c.limbs.c, .int .i64 z.c.exp] ?_ ?_ ?_ ?_); (exact rfl); (exact rfl); (exact rfl); (exact aggDyad); (exact RP)) | fail)
              refine (ends_put WE W2 L H s z.c HFI.out HIN.out).mono ?_
              rintro e W3 ⟨rfl, hI3⟩
              have HI3 := Lib.hid hI3
              have HS3 : Hid (datX (farX s z.c) = ((l.take (j + 1)).map fun z => z.data.c).foldl farS none) := Lib.hid (by
                rw [take_snoc HZ.out, List.map_append, List.foldl_append, ← HS.out, farX_data]; rfl)
              clear hI3 E1 RP HFI
              go_wp2_with fail
              go_roundw
              case rel => exact ⟨j + 1, farX s z.c, by omega, by go_num, HI3, HS3⟩
              case measure => simp [intOf]; omega
            · have hki : ¬ (j : Int) < (l.length : Int) := by omega
              have hjl : j = l.length := by omega
              obtain ⟨lo, hi, rfl⟩ : ∃ lo hi, s = some (lo, hi) := by
                have h1 := HS.out
                rw [hjl, List.take_length] at h1
                cases s with
                | some p => exact ⟨p.1, p.2, rfl⟩
                | none => exact absurd h1 (HNE0.out)
              have HFD : Hid (farD (l.map fun z => z.data.c) = subD hi.data lo.data) := Lib.hid (by
                have h1 := HS.out
                rw [hjl, List.take_length] at h1
                unfold farD farsD
                rw [← h1]; rfl)
              have HSD : Hid ((subD hi.data lo.data).2 = 0) := Lib.hid (by rw [← HFD.out]; exact H0.out)
              clear hjl HS
              go_wp2_with fail
              refine (ends_far WE wr L H lo hi HI.out HSD.out (HT.out.ext HE.out.ext)).mono ?_
              rintro e w5 ⟨r, rfl, hrd, hrm, hE5⟩
              have HC5 : Hid (FarC w w5 g8 y0 y1) := Lib.hid (HE.out.to (HI.out.ext.trans hE5))
              have HRD : Hid (r.data = (farD (l.map fun z => z.data.c)).1) := Lib.hid (by rw [hrd, HFD.out])
              have HRM : Hid (r.mine w5 w.heap.size) := Lib.hid (hrm.lower (HE.out.ext.trans HI.out.ext).size)
              have B8 : Blk w5 g8 125 [.bool y0.neg, .slice y0.limbs.A y0.limbs.l.length y0.limbs.c, .int .i64 y0.exp, .bool y1.neg, .slice y1.limbs.A y1.limbs.l.length y1.limbs.c, .int .i64 y1.exp] := HC5.out.b8
              clear hrd hrm hE5
              go_wp2_with (first | ((with_reducible refine wpl_store 24 (.tmp 60) (.tmp 58) ?_ ?_ (g8) 0 125 [.bool y0.neg, .slice y0.limbs.A y0.limbs.l.length y0.limbs.c, .int .i64 y0.exp, .bool y1.neg, .slice y1.limbs.A y1.limbs.l.length y1.limbs.c, .int .i64 y1.exp] [.bool r.neg, .slice r.limbs.A r.limbs.l.length r.limbs.c, .int .i64 r.exp] ?_ ?_ ?_ ?_ ?_ ?_ ?_); (exact rfl); (exact rfl); (exact rfl); (exact rfl); (exact aggDyad); (exact B8); (exact by simp); (exact rfl); (intro w6 BR hO)) | fail)
              have HC6 : Hid (FarC w w6 g8 r y1) := Lib.hid (HC5.out.set0 HRM.out hO BR)
              clear BR hO B8
              go_roundw
              case rel => exact ⟨r, y1, .inr (.inl ⟨rfl, HRD⟩), HC6⟩
              case measure => simp [intOf]
        · skip
          have HXX := Lib.hid HF
          go_wp2_with fail
          refine calls_nm fun WE hWE => ?_
          have HE : Hid (FarC w WE g8 y0 y1) := Lib.hid (by rw [hWE]; exact HF.out)
          clear hWE HF HXX
          refine (mean_ends WE).mono ?_
          rintro e w1 ⟨rfl, hI⟩
          have HI0 : Hid (FarI WE w1 WE.heap.size (WE.heap.size + 1) none) := Lib.hid hI
          clear hI
          obtain ⟨L, hL⟩ : ∃ L, WE.heap.size = L := ⟨_, rfl⟩
          obtain ⟨H, hH⟩ : ∃ H, WE.heap.size + 1 = H := ⟨_, rfl⟩
          rw [hL] at HI0 ⊢
          rw [show L + 1 = H by omega] at HI0 ⊢
          clear hL hH
          go_wp2_with fail
          go_loopw [42] (fun i W => ∃ (j : Nat) (s : Option (XDyad × XDyad)), j ≤ l.length ∧ i = .int .i64 j ∧ Hid (FarI WE W L H s) ∧ Hid (datX s = ((l.take j).map fun z => z.data.a).foldl farS none)) (fun i _ => l.length - (intOf i).toNat)
          case atStart => exact ⟨0, none, by omega, rfl, HI0, Lib.hid rfl⟩
          case round =>
            obtain ⟨j, s, hj, rfl, HI, HS⟩ := hrel
            clear HI0
            by_cases hlt : j < l.length
            · obtain ⟨z, hz⟩ : ∃ z, l[j]? = some z := ⟨_, List.getElem?_eq_getElem hlt⟩
              have HZ := Lib.hid hz
              have HZM := Lib.hid (List.mem_of_getElem? hz)
              obtain ⟨b1, o1, rfl, hb1, hrow⟩ := Sl.row (size := 12) (fun _ => rfl) HX.out hz
              have R_z : Hid (∀ W, Ext w W → RowAt W b1 (o1 + j * 12) z.cells) := Lib.hid fun W hW => hrow.below hW.below hb1
              have hki : (j : Int) < (l.length : Int) := by omega
              have hk4 : j < 4096 := by have := HL4.out; omega
              have HIN : Hid (InD WE z.a) := Lib.hid ⟨((HXS.out z HZM.out).a).ext HE.out.ext, (LXX.out z HZM.out).2.2.2, (HMAY.out z HZM.out).2.2.2⟩
              have HEW : Hid (Ext w wr) := Lib.hid (HE.out.ext.trans HI.out.ext)
              have ip := idxP1
              clear hz hb1 hrow
              go_wp2_with (first | ((with_reducible refine wpl_load 47 (.tmp 44) ?_ ?_ b1 (o1 + j * 12) z.cells ?_ ?_ ?_ ?_); (exact rfl); (exact rfl); (exact rfl); (exact aggMass); (exact R_z.out _ HEW.out)) | fail)
              refine calls_nm fun W1 hW => ?_
              have B0 : Blk W1 wr.heap.size 47 z.cells := by rw [hW]; exact Blk.new (by simp)
              have E1 : Ext wr W1 := by rw [hW]; exact Ext.alloc _ _
              clear hW
              refine (mean_pair wr.heap.size _).mono ?_
              rintro e W2 ⟨rfl, hE⟩
              replace B0 := B0.ext hE
              replace E1 := E1.trans hE
              have RP : RowAt W2 wr.heap.size 9 [.bool z.a.neg, .slice z.a.limbs.A z.a.limbs.l.length z.a.limbs.c, .int .i64 z.a.exp] := B0.part 9 3
              have HFI := Lib.hid (HI.out.to E1)
              clear hE B0
              go_wp2_with (first | ((with_reducible refine wpl_load 24 (.tmp 50) ?_ ?_ (wr.heap.size) 9 [.bool z.a.neg, .slice z.a.limbs.A z.a.limbs.l.length z.a.limbs.c, .int .i64 z.a.exp] ?_ ?_ ?_ ?_); (exact rfl); (exact rfl); (exact rfl); (exact aggDyad); (exact RP)) | fail)
              refine (ends_put WE W2 L H s z.a HFI.out HIN.out).mono ?_
              rintro e W3 ⟨rfl, hI3⟩
              have HI3 := Lib.hid hI3
              have HS3 : Hid (datX (farX s z.a) = ((l.take (j + 1)).map fun z => z.data.a).foldl farS none) := Lib.hid (by
                rw [take_snoc HZ.out, List.map_append, List.foldl_append, ← HS.out, farX_data]; rfl)
              clear hI3 E1 RP HFI
              go_wp2_with fail
              go_roundw
              case rel => exact ⟨j + 1, farX s z.a, by omega, by go_num, HI3, HS3⟩
              case measure => simp [intOf]; omega
            · have hki : ¬ (j : Int) < (l.length : Int) := by omega
              have hjl : j = l.length := by omega
              obtain ⟨lo, hi, rfl⟩ : ∃ lo hi, s = some (lo, hi) := by
                have h1 := HS.out
                rw [hjl, List.take_length] at h1
                cases s with
                | some p => exact ⟨p.1, p.2, rfl⟩
                | none => exact absurd h1 (HNE1.out)
              have HFD : Hid (farD (l.map fun z => z.data.a) = subD hi.data lo.data) := Lib.hid (by
                have h1 := HS.out
                rw [hjl, List.take_length] at h1
                unfold farD farsD
                rw [← h1]; rfl)
              have HSD : Hid ((subD hi.data lo.data).2 = 0) := Lib.hid (by rw [← HFD.out]; exact H1.out)
              clear hjl HS
              go_wp2_with fail
              refine (ends_far WE wr L H lo hi HI.out HSD.out (HT.out.ext HE.out.ext)).mono ?_
              rintro e w5 ⟨r, rfl, hrd, hrm, hE5⟩
              have HC5 : Hid (FarC w w5 g8 y0 y1) := Lib.hid (HE.out.to (HI.out.ext.trans hE5))
              have HRD : Hid (r.data = (farD (l.map fun z => z.data.a)).1) := Lib.hid (by rw [hrd, HFD.out])
              have HRM : Hid (r.mine w5 w.heap.size) := Lib.hid (hrm.lower (HE.out.ext.trans HI.out.ext).size)
              have B8 : Blk w5 g8 125 [.bool y0.neg, .slice y0.limbs.A y0.limbs.l.length y0.limbs.c, .int .i64 y0.exp, .bool y1.neg, .slice y1.limbs.A y1.limbs.l.length y1.limbs.c, .int .i64 y1.exp] := HC5.out.b8
              clear hrd hrm hE5
              go_wp2_with (first | ((with_reducible refine wpl_store 24 (.tmp 60) (.tmp 58) ?_ ?_ (g8) 3 125 [.bool y0.neg, .slice y0.limbs.A y0.limbs.l.length y0.limbs.c, .int .i64 y0.exp, .bool y1.neg, .slice y1.limbs.A y1.limbs.l.length y1.limbs.c, .int .i64 y1.exp] [.bool r.neg, .slice r.limbs.A r.limbs.l.length r.limbs.c, .int .i64 r.exp] ?_ ?_ ?_ ?_ ?_ ?_ ?_); (exact rfl); (exact rfl); (exact rfl); (exact rfl); (exact aggDyad); (exact B8); (exact by simp); (exact rfl); (intro w6 BR hO)) | fail)
              have HC6 : Hid (FarC w w6 g8 y0 r) := Lib.hid (HC5.out.set1 HRM.out hO BR)
              clear BR hO B8
              go_roundw
              case rel => exact ⟨y0, r, .inr (.inr ⟨rfl, HY0, HRD⟩), HC6⟩
              case measure => simp [intOf]
        · have HLW := Lib.hid HF.out.low
          go_wp2_with fail
          refine wp_region_flowTail 5 (fun W => Ext w W ∧ Blk W g8 125 [.bool y0.neg, .slice y0.limbs.A y0.limbs.l.length y0.limbs.c, .int .i64 y0.exp, .bool y1.neg, .slice y1.limbs.A y1.limbs.l.length y1.limbs.c, .int .i64 y1.exp] ∧ y0.mine W w.heap.size ∧ y1.mine W w.heap.size ∧ Blk W (w.heap.size + 1) 24 [.bool false, .slice none 0 0, .int .i64 0]) (fun W => Blk W w.heap.size 24 [.bool false, .slice none 0 0, .int .i64 0]) Ext (fun i => if i = 4 then .last else .det) [] (by kernel_rfl) (by kernel_rfl) (by kernel_rfl) ⟨HF.out.ext.drew', HF.out.b8.drew, HF.out.m0.ext (Ext.drew _), HF.out.m1.ext (Ext.drew _), HF.out.z.z3.drew⟩ HF.out.z.z2.drew (fun _ _ h k => h.ext k) ?_
          iterate 1 (refine ftext_det rfl rfl ?_; apply Exists.intro; refine ⟨fun w hC => ?_, fun K hK => ?_⟩; (first | (go_simp; exact rfl) | (go_simp; exact ⟨rfl, rfl⟩)); go_simp; refine hK _ ?_; clear hK K)
          refine ftext_load_row 24 _ rfl rfl rfl (g8) 0 [.bool y0.neg, .slice y0.limbs.A y0.limbs.l.length y0.limbs.c, .int .i64 y0.exp] rfl aggDyad (fun W hW => hW.2.1.part 0 3) (fun K hK => ?_)
          go_simp; refine hK _ ?_; clear hK K
          iterate 1 (refine ftext_det rfl rfl ?_; apply Exists.intro; refine ⟨fun w hC => ?_, fun K hK => ?_⟩; (first | (go_simp; exact rfl) | (go_simp; exact ⟨rfl, rfl⟩)); go_simp; refine hK _ ?_; clear hK K)
          refine ftext_load_row 24 _ rfl rfl rfl (g8) 3 [.bool y1.neg, .slice y1.limbs.A y1.limbs.l.length y1.limbs.c, .int .i64 y1.exp] rfl aggDyad (fun W hW => hW.2.1.part 3 3) (fun K hK => ?_)
          go_simp; refine hK _ ?_; clear hK K
          refine ftext_store 24 _ _ (fun W => Blk W w.heap.size 24 [.bool y0.neg, .slice y0.limbs.A y0.limbs.l.length y0.limbs.c, .int .i64 y0.exp]) rfl rfl rfl (fun w1 hC hJ hF => ?_) (fun K hK => ?_)
          · exact ⟨w.heap.size, 24, [.bool false, .slice none 0 0, .int .i64 0], [.bool y0.neg, .slice y0.limbs.A y0.limbs.l.length y0.limbs.c, .int .i64 y0.exp], rfl, rfl, aggDyad, hJ, rfl, rfl, fun w' BR hO => ⟨⟨Only.ext hC.1 hO (Nat.le_refl _), hC.2.1.only hO (by have := HLW.out; omega), hC.2.2.1.only hJ hO BR rfl (by decide), hC.2.2.2.1.only hJ hO BR rfl (by decide), hC.2.2.2.2.only hO (by omega)⟩, BR⟩⟩
          go_simp; refine hK _ ?_; clear hK K
          refine ftext_nil ?_
          rintro w1 ⟨hE1, _, hm0, hm1, hz3⟩ hJ _
          have HM0 := Lib.hid hm0
          have HM1 := Lib.hid hm1
          have HE1 := Lib.hid hE1
          have HZ3 := Lib.hid hz3
          have HZ2 := Lib.hid hJ
          clear hm0 hm1 hE1 hz3 hJ HF
          simp only [List.drop_succ_cons, List.drop_zero]
          refine wplIn_store Open.wide 24 (.tmp 3) (.tmp 70) rfl rfl (w.heap.size + 1) 0 24 [.bool false, .slice none 0 0, .int .i64 0] [.bool y1.neg, .slice y1.limbs.A y1.limbs.l.length y1.limbs.c, .int .i64 y1.exp] rfl rfl aggDyad HZ3.out (by simp) rfl ?_
          intro w2 BR2 hO2
          refine wplIn_assign Open.wide _ rfl rfl ?_
          refine wpListIn_nil ?_
          go_wp2_with fail
          exact bodyPost_ret (results_cct rfl rfl (HZ2.out.only hO2 (by omega)) aggDyad rfl BR2 aggDyad) rfl ⟨y0, y1, rfl, HY0.out, HY1.out, HM0.out.only HZ3.out hO2 BR2 rfl (by decide), HM1.out.only HZ3.out hO2 BR2 rfl (by decide), Only.ext HE1.out hO2 (by omega)⟩
end Go.Proofs.YtgcbnagfdfgpnaaDoor
