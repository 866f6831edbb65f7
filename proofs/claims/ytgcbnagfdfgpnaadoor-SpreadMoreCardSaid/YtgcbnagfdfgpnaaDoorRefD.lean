/- The reference's dyads. Printed by gen_refd.py. -/
import Derived.Test.YtgcbnagfdfgpnaaDoorDyadP
import Derived.Test.YtgcbnagfdfgpnaaDoorFlow
namespace Go.Proofs.YtgcbnagfdfgpnaaDoor
open Go.RowKit Go.Hx
attribute [local go_sem] detUpon undIn
theorem aggDyad : AggTy Tryd.prog 24 3 := ⟨⟨_, Tryd.underlying24, rfl⟩, by kernel_rfl⟩
set_option maxRecDepth 100000 in
set_option maxHeartbeats 4000000 in
theorem ref02_May (x : XDyad) (w : World) (hx : x.ok w w.heap.size) :
    Calls Tryd.prog 38 #[.agg #[.bool x.neg, .slice x.limbs.A x.limbs.l.length x.limbs.c, .int .i64 x.exp]] w fun e w' => e = .returned (.bool (decide (mayD x.data))) ∧ Ext w w' := by
  have HX := Lib.hid hx
  clear hx
  by_cases hL : mayL x.limbs.l
  · have HL := Lib.hid (show decide (mayL x.limbs.l) = true from decide_eq_true hL)
    by_cases h1 : x.exp < 0
    · have d1 : decide (x.exp < 0) = true := by simp; omega
      have HR := Lib.hid (show decide (mayD x.data) = false from decide_eq_false (fun h => by have := h.2.1.1; simp only [XDyad.data] at this; omega))
      clear h1 hL
      go_enter Tryd.func38, Tryd.ntmps38
      go_wp2_with fail
      refine (ref01_May x.limbs _ (HX.out.limbs.ext (by repeat (first | exact Ext.refl _ | assumption | refine Ext.alloc' ?_ _ | refine Ext.drewN' ?_ _ | refine Ext.drew' ?_ | (refine Ext.trans ?_ (by assumption)))))).mono ?_
      rw [HL.out]
      rintro e w1 ⟨rfl, rfl⟩
      go_wp2_with fail
      go_ret
      exact ⟨ret_bool HR.out.symm, Ext.alloc _ _⟩
    · have d1 : decide (x.exp < 0) = false := by simp; omega
      by_cases h2 : 1024 < x.exp
      · have d2 : decide (1024 < x.exp) = true := by simp; omega
        have HR := Lib.hid (show decide (mayD x.data) = false from decide_eq_false (fun h => by have := h.2.1.2; simp only [XDyad.data] at this; omega))
        clear h1 h2 hL
        go_enter Tryd.func38, Tryd.ntmps38
        go_wp2_with fail
        refine (ref01_May x.limbs _ (HX.out.limbs.ext (by repeat (first | exact Ext.refl _ | assumption | refine Ext.alloc' ?_ _ | refine Ext.drewN' ?_ _ | refine Ext.drew' ?_ | (refine Ext.trans ?_ (by assumption)))))).mono ?_
        rw [HL.out]
        rintro e w1 ⟨rfl, rfl⟩
        go_wp2_with fail
        go_ret
        exact ⟨ret_bool HR.out.symm, Ext.alloc _ _⟩
      · have d2 : decide (1024 < x.exp) = false := by simp; omega
        by_cases h3 : x.limbs.l.length = 0
        · have d3 : ((x.limbs.l.length : Int) == 0) = true := by rw [beq_iff_eq]; omega
          have h3' : x.limbs.l = [] := List.eq_nil_of_length_eq_zero h3
          by_cases h4 : x.exp = 0
          · have d4 : (x.exp == 0) = true := by rw [beq_iff_eq]; omega
            by_cases h5 : x.neg = true
            · have h5q := Lib.hid h5
              have HR := Lib.hid (show decide (mayD x.data) = false from decide_eq_false (fun h => by have := h.2.2; simp [XDyad.data, h3', h5] at this))
              clear h1 h2 h3 h3' h4 hL h5q
              go_enter Tryd.func38, Tryd.ntmps38
              go_wp2_with fail
              refine (ref01_May x.limbs _ (HX.out.limbs.ext (by repeat (first | exact Ext.refl _ | assumption | refine Ext.alloc' ?_ _ | refine Ext.drewN' ?_ _ | refine Ext.drew' ?_ | (refine Ext.trans ?_ (by assumption)))))).mono ?_
              rw [HL.out]
              rintro e w1 ⟨rfl, rfl⟩
              go_wp2_with fail
              go_ret
              exact ⟨ret_bool HR.out.symm, Ext.alloc _ _⟩
            · have h5' : x.neg = false := by simpa using h5
              have HR := Lib.hid (show decide (mayD x.data) = true from decide_eq_true (⟨hL, ⟨by simp only [XDyad.data]; omega, by simp only [XDyad.data]; omega⟩, by simp [XDyad.data, h3', h5', h4]⟩))
              clear h1 h2 h3 h3' h4 hL h5
              go_enter Tryd.func38, Tryd.ntmps38
              go_wp2_with fail
              refine (ref01_May x.limbs _ (HX.out.limbs.ext (by repeat (first | exact Ext.refl _ | assumption | refine Ext.alloc' ?_ _ | refine Ext.drewN' ?_ _ | refine Ext.drew' ?_ | (refine Ext.trans ?_ (by assumption)))))).mono ?_
              rw [HL.out]
              rintro e w1 ⟨rfl, rfl⟩
              go_wp2_with fail
              go_ret
              exact ⟨ret_bool HR.out.symm, Ext.alloc _ _⟩
          · have d4 : (x.exp == 0) = false := by rw [beq_eq_false_iff_ne]; omega
            have HR := Lib.hid (show decide (mayD x.data) = false from decide_eq_false (fun h => by have := h.2.2; simp [XDyad.data, h3', h4] at this))
            clear h1 h2 h3 h3' h4 hL
            go_enter Tryd.func38, Tryd.ntmps38
            go_wp2_with fail
            refine (ref01_May x.limbs _ (HX.out.limbs.ext (by repeat (first | exact Ext.refl _ | assumption | refine Ext.alloc' ?_ _ | refine Ext.drewN' ?_ _ | refine Ext.drew' ?_ | (refine Ext.trans ?_ (by assumption)))))).mono ?_
            rw [HL.out]
            rintro e w1 ⟨rfl, rfl⟩
            go_wp2_with fail
            go_ret
            exact ⟨ret_bool HR.out.symm, Ext.alloc _ _⟩
        · have d3 : ((x.limbs.l.length : Int) == 0) = false := by rw [beq_eq_false_iff_ne]; omega
          have h3' : x.limbs.l ≠ [] := fun h => h3 (by rw [h]; rfl)
          by_cases h4 : x.exp = 0
          · have d4 : (x.exp == 0) = true := by rw [beq_iff_eq]; omega
            have HR := Lib.hid (show decide (mayD x.data) = true from decide_eq_true (⟨hL, ⟨by simp only [XDyad.data]; omega, by simp only [XDyad.data]; omega⟩, by simp [XDyad.data, h3', h4]⟩))
            clear h1 h2 h3 h3' h4 hL
            go_enter Tryd.func38, Tryd.ntmps38
            go_wp2_with fail
            refine (ref01_May x.limbs _ (HX.out.limbs.ext (by repeat (first | exact Ext.refl _ | assumption | refine Ext.alloc' ?_ _ | refine Ext.drewN' ?_ _ | refine Ext.drew' ?_ | (refine Ext.trans ?_ (by assumption)))))).mono ?_
            rw [HL.out]
            rintro e w1 ⟨rfl, rfl⟩
            go_wp2_with fail
            go_ret
            exact ⟨ret_bool HR.out.symm, Ext.alloc _ _⟩
          · have d4 : (x.exp == 0) = false := by rw [beq_eq_false_iff_ne]; omega
            have hlt : 0 < x.limbs.l.length := by omega
            obtain ⟨b, off, hA, _, r⟩ := Sl.row (size := 1) (fun _ => rfl) HX.out.limbs.1 (List.getElem?_eq_getElem hlt)
            obtain ⟨q, hq⟩ : ∃ q, x.limbs.l[0] = q := ⟨_, rfl⟩
            have hc : ∀ W, Ext w W → W.cell? ⟨b, off, none⟩ = some (.int .u32 q) := fun W hW => by have := r 0 _ rfl; rw [hq] at this; exact hW.cell (by simpa using this)
            have hq' : x.limbs.l[0]?.getD 0 = q := by rw [List.getElem?_eq_getElem hlt, hq]; rfl
            have HC := Lib.hid hc
            have HA := Lib.hid hA
            clear hA
            have hli : (0 : Int) < (x.limbs.l.length : Int) := by omega
            by_cases h5 : q % 2 = 1
            · have d5 : ((q : Int) % 2 == 1) = true := by rw [beq_iff_eq]; omega
              have HR := Lib.hid (show decide (mayD x.data) = true from decide_eq_true (⟨hL, ⟨by simp only [XDyad.data]; omega, by simp only [XDyad.data]; omega⟩, by simp [XDyad.data, h3', h4, hq', h5]⟩))
              clear h1 h2 h3 h3' h4 hL h5 r hq hq' hc
              go_enter Tryd.func38, Tryd.ntmps38
              go_wp2_with fail
              refine (ref01_May x.limbs _ (HX.out.limbs.ext (by repeat (first | exact Ext.refl _ | assumption | refine Ext.alloc' ?_ _ | refine Ext.drewN' ?_ _ | refine Ext.drew' ?_ | (refine Ext.trans ?_ (by assumption)))))).mono ?_
              rw [HL.out]
              rintro e w1 ⟨rfl, rfl⟩
              have hA2 := HA.out
              have hcc := fun o => HC.out (w.alloc o) (Ext.alloc w o)
              go_wp2_with fail
              go_ret
              exact ⟨ret_bool HR.out.symm, Ext.alloc _ _⟩
            · have d5 : ((q : Int) % 2 == 1) = false := by rw [beq_eq_false_iff_ne]; omega
              have HR := Lib.hid (show decide (mayD x.data) = false from decide_eq_false (fun h => by have := h.2.2; simp [XDyad.data, h3', h4, hq', h5] at this))
              clear h1 h2 h3 h3' h4 hL h5 r hq hq' hc
              go_enter Tryd.func38, Tryd.ntmps38
              go_wp2_with fail
              refine (ref01_May x.limbs _ (HX.out.limbs.ext (by repeat (first | exact Ext.refl _ | assumption | refine Ext.alloc' ?_ _ | refine Ext.drewN' ?_ _ | refine Ext.drew' ?_ | (refine Ext.trans ?_ (by assumption)))))).mono ?_
              rw [HL.out]
              rintro e w1 ⟨rfl, rfl⟩
              have hA2 := HA.out
              have hcc := fun o => HC.out (w.alloc o) (Ext.alloc w o)
              go_wp2_with fail
              go_ret
              exact ⟨ret_bool HR.out.symm, Ext.alloc _ _⟩
  · have HL := Lib.hid (show decide (mayL x.limbs.l) = false from decide_eq_false hL)
    have HR := Lib.hid (show decide (mayD x.data) = false from decide_eq_false (fun h => hL h.1))
    clear hL
    go_enter Tryd.func38, Tryd.ntmps38
    go_wp2_with fail
    refine (ref01_May x.limbs _ (HX.out.limbs.ext (by repeat (first | exact Ext.refl _ | assumption | refine Ext.alloc' ?_ _ | refine Ext.drewN' ?_ _ | refine Ext.drew' ?_ | (refine Ext.trans ?_ (by assumption)))))).mono ?_
    rw [HL.out]
    rintro e w1 ⟨rfl, rfl⟩
    go_wp2_with fail
    go_ret
    exact ⟨ret_bool HR.out.symm, Ext.alloc _ _⟩
end Go.Proofs.YtgcbnagfdfgpnaaDoor
