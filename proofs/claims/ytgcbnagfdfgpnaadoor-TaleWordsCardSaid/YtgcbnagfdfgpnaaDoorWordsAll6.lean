/- Parts of a proof, joined: RefD, CheckD. -/
import Derived.Test.YtgcbnagfdfgpnaaDoorWordsAll4
import Derived.Test.YtgcbnagfdfgpnaaDoorWordsAll5
section
namespace Go.Proofs.YtgcbnagfdfgpnaaDoor
open Go.RowKit Go.Hx
attribute [local go_sem] detUpon undIn
theorem aggDyad : AggTy Tryd.prog 24 3 := ⟨⟨_, Tryd.underlying24, rfl⟩, by kernel_rfl⟩
set_option maxRecDepth 100000 in
set_option maxHeartbeats 4000000 in
theorem ref02_May (x : XDyad) (w : World) (hx : x.ok w w.heap.size) :
    Calls Tryd.prog 38 #[.agg #[.bool x.neg, .slice x.limbs.A x.limbs.l.length x.limbs.c, .int .i64 x.exp]] w fun e w' => e = .returned (.bool (decide (mayD x.data))) ∧ Ext w w' := by
  have HX := Lib.hid hx
  clear hx
  by_cases hL : mayL x.limbs.l
  · have HL := Lib.hid (show decide (mayL x.limbs.l) = true from decide_eq_true hL)
    by_cases h1 : x.exp < 0
    · have d1 : decide (x.exp < 0) = true := by simp; omega
      have HR := Lib.hid (show decide (mayD x.data) = false from decide_eq_false (fun h => by have := h.2.1.1; simp only [XDyad.data] at this; omega))
      clear h1 hL
      go_enter Tryd.func38, Tryd.ntmps38
      go_wp2_with fail
      refine (ref01_May x.limbs _ (HX.out.limbs.ext (by repeat (first | exact Ext.refl _ | assumption | refine Ext.alloc' ?_ _ | refine Ext.drewN' ?_ _ | refine Ext.drew' ?_ | (refine Ext.trans ?_ (by assumption)))))).mono ?_
      rw [HL.out]
      rintro e w1 ⟨rfl, rfl⟩
      go_wp2_with fail
      go_ret
      exact ⟨ret_bool HR.out.symm, Ext.alloc _ _⟩
    · have d1 : decide (x.exp < 0) = false := by simp; omega
      by_cases h2 : 1024 < x.exp
      · have d2 : decide (1024 < x.exp) = true := by simp; omega
        have HR := Lib.hid (show decide (mayD x.data) = false from decide_eq_false (fun h => by have := h.2.1.2; simp only [XDyad.data] at this; omega))
        clear h1 h2 hL
        go_enter Tryd.func38, Tryd.ntmps38
        go_wp2_with fail
        refine (ref01_May x.limbs _ (HX.out.limbs.ext (by repeat (first | exact Ext.refl _ | assumption | refine Ext.alloc' ?_ _ | refine Ext.drewN' ?_ _ | refine Ext.drew' ?_ | (refine Ext.trans ?_ (by assumption)))))).mono ?_
        rw [HL.out]
        rintro e w1 ⟨rfl, rfl⟩
        go_wp2_with fail
        go_ret
        exact ⟨ret_bool HR.out.symm, Ext.alloc _ _⟩
      · have d2 : decide (1024 < x.exp) = false := by simp; omega
        by_cases h3 : x.limbs.l.length = 0
        · have d3 : ((x.limbs.l.length : Int) == 0) = true := by rw [beq_iff_eq]; omega
          have h3' : x.limbs.l = [] := List.eq_nil_of_length_eq_zero h3
          by_cases h4 : x.exp = 0
          · have d4 : (x.exp == 0) = true := by rw [beq_iff_eq]; omega
            by_cases h5 : x.neg = true
            · have h5q := Lib.hid h5
              have HR := Lib.hid (show decide (mayD x.data) = false from decide_eq_false (fun h => by have := h.2.2; simp [XDyad.data, h3', h5] at this))
              clear h1 h2 h3 h3' h4 hL h5q
              go_enter Tryd.func38, Tryd.ntmps38
              go_wp2_with fail
              refine (ref01_May x.limbs _ (HX.out.limbs.ext (by repeat (first | exact Ext.refl _ | assumption | refine Ext.alloc' ?_ _ | refine Ext.drewN' ?_ _ | refine Ext.drew' ?_ | (refine Ext.trans ?_ (by assumption)))))).mono ?_
              rw [HL.out]
              rintro e w1 ⟨rfl, rfl⟩
              go_wp2_with fail
              go_ret
              exact ⟨ret_bool HR.out.symm, Ext.alloc _ _⟩
            · have h5' : x.neg = false := by simpa using h5
              have HR := Lib.hid (show decide (mayD x.data) = true from decide_eq_true (⟨hL, ⟨by simp only [XDyad.data]; omega, by simp only [XDyad.data]; omega⟩, by simp [XDyad.data, h3', h5', h4]⟩))
              clear h1 h2 h3 h3' h4 hL h5
              go_enter Tryd.func38, Tryd.ntmps38
              go_wp2_with fail
              refine (ref01_May x.limbs _ (HX.out.limbs.ext (by repeat (first | exact Ext.refl _ | assumption | refine Ext.alloc' ?_ _ | refine Ext.drewN' ?_ _ | refine Ext.drew' ?_ | (refine Ext.trans ?_ (by assumption)))))).mono ?_
              rw [HL.out]
              rintro e w1 ⟨rfl, rfl⟩
              go_wp2_with fail
              go_ret
              exact ⟨ret_bool HR.out.symm, Ext.alloc _ _⟩
          · have d4 : (x.exp == 0) = false := by rw [beq_eq_false_iff_ne]; omega
            have HR := Lib.hid (show decide (mayD x.data) = false from decide_eq_false (fun h => by have := h.2.2; simp [XDyad.data, h3', h4] at this))
            clear h1 h2 h3 h3' h4 hL
            go_enter Tryd.func38, Tryd.ntmps38
            go_wp2_with fail
            refine (ref01_May x.limbs _ (HX.out.limbs.ext (by repeat (first | exact Ext.refl _ | assumption | refine Ext.alloc' ?_ _ | refine Ext.drewN' ?_ _ | refine Ext.drew' ?_ | (refine Ext.trans ?_ (by assumption)))))).mono ?_
            rw [HL.out]
            rintro e w1 ⟨rfl, rfl⟩
            go_wp2_with fail
            go_ret
            exact ⟨ret_bool HR.out.symm, Ext.alloc _ _⟩
        · have d3 : ((x.limbs.l.length : Int) == 0) = false := by rw [beq_eq_false_iff_ne]; omega
          have h3' : x.limbs.l ≠ [] := fun h => h3 (by rw [h]; rfl)
          by_cases h4 : x.exp = 0
          · have d4 : (x.exp == 0) = true := by rw [beq_iff_eq]; omega
            have HR := Lib.hid (show decide (mayD x.data) = true from decide_eq_true (⟨hL, ⟨by simp only [XDyad.data]; omega, by simp only [XDyad.data]; omega⟩, by simp [XDyad.data, h3', h4]⟩))
            clear h1 h2 h3 h3' h4 hL
            go_enter Tryd.func38, Tryd.ntmps38
            go_wp2_with fail
            refine (ref01_May x.limbs _ (HX.out.limbs.ext (by repeat (first | exact Ext.refl _ | assumption | refine Ext.alloc' ?_ _ | refine Ext.drewN' ?_ _ | refine Ext.drew' ?_ | (refine Ext.trans ?_ (by assumption)))))).mono ?_
            rw [HL.out]
            rintro e w1 ⟨rfl, rfl⟩
            go_wp2_with fail
            go_ret
            exact ⟨ret_bool HR.out.symm, Ext.alloc _ _⟩
          · have d4 : (x.exp == 0) = false := by rw [beq_eq_false_iff_ne]; omega
            have hlt : 0 < x.limbs.l.length := by omega
            obtain ⟨b, off, hA, _, r⟩ := Sl.row (size := 1) (fun _ => rfl) HX.out.limbs.1 (List.getElem?_eq_getElem hlt)
            obtain ⟨q, hq⟩ : ∃ q, x.limbs.l[0] = q := ⟨_, rfl⟩
            have hc : ∀ W, Ext w W → W.cell? ⟨b, off, none⟩ = some (.int .u32 q) := fun W hW => by have := r 0 _ rfl; rw [hq] at this; exact hW.cell (by simpa using this)
            have hq' : x.limbs.l[0]?.getD 0 = q := by rw [List.getElem?_eq_getElem hlt, hq]; rfl
            have HC := Lib.hid hc
            have HA := Lib.hid hA
            clear hA
            have hli : (0 : Int) < (x.limbs.l.length : Int) := by omega
            by_cases h5 : q % 2 = 1
            · have d5 : ((q : Int) % 2 == 1) = true := by rw [beq_iff_eq]; omega
              have HR := Lib.hid (show decide (mayD x.data) = true from decide_eq_true (⟨hL, ⟨by simp only [XDyad.data]; omega, by simp only [XDyad.data]; omega⟩, by simp [XDyad.data, h3', h4, hq', h5]⟩))
              clear h1 h2 h3 h3' h4 hL h5 r hq hq' hc
              go_enter Tryd.func38, Tryd.ntmps38
              go_wp2_with fail
              refine (ref01_May x.limbs _ (HX.out.limbs.ext (by repeat (first | exact Ext.refl _ | assumption | refine Ext.alloc' ?_ _ | refine Ext.drewN' ?_ _ | refine Ext.drew' ?_ | (refine Ext.trans ?_ (by assumption)))))).mono ?_
              rw [HL.out]
              rintro e w1 ⟨rfl, rfl⟩
              have hA2 := HA.out
              have hcc := fun o => HC.out (w.alloc o) (Ext.alloc w o)
              go_wp2_with fail
              go_ret
              exact ⟨ret_bool HR.out.symm, Ext.alloc _ _⟩
            · have d5 : ((q : Int) % 2 == 1) = false := by rw [beq_eq_false_iff_ne]; omega
              have HR := Lib.hid (show decide (mayD x.data) = false from decide_eq_false (fun h => by have := h.2.2; simp [XDyad.data, h3', h4, hq', h5] at this))
              clear h1 h2 h3 h3' h4 hL h5 r hq hq' hc
              go_enter Tryd.func38, Tryd.ntmps38
              go_wp2_with fail
              refine (ref01_May x.limbs _ (HX.out.limbs.ext (by repeat (first | exact Ext.refl _ | assumption | refine Ext.alloc' ?_ _ | refine Ext.drewN' ?_ _ | refine Ext.drew' ?_ | (refine Ext.trans ?_ (by assumption)))))).mono ?_
              rw [HL.out]
              rintro e w1 ⟨rfl, rfl⟩
              have hA2 := HA.out
              have hcc := fun o => HC.out (w.alloc o) (Ext.alloc w o)
              go_wp2_with fail
              go_ret
              exact ⟨ret_bool HR.out.symm, Ext.alloc _ _⟩
  · have HL := Lib.hid (show decide (mayL x.limbs.l) = false from decide_eq_false hL)
    have HR := Lib.hid (show decide (mayD x.data) = false from decide_eq_false (fun h => hL h.1))
    clear hL
    go_enter Tryd.func38, Tryd.ntmps38
    go_wp2_with fail
    refine (ref01_May x.limbs _ (HX.out.limbs.ext (by repeat (first | exact Ext.refl _ | assumption | refine Ext.alloc' ?_ _ | refine Ext.drewN' ?_ _ | refine Ext.drew' ?_ | (refine Ext.trans ?_ (by assumption)))))).mono ?_
    rw [HL.out]
    rintro e w1 ⟨rfl, rfl⟩
    go_wp2_with fail
    go_ret
    exact ⟨ret_bool HR.out.symm, Ext.alloc _ _⟩
end Go.Proofs.YtgcbnagfdfgpnaaDoor
end
section
namespace Go.Hx
/-- the error of a test -/
def chk (b : Bool) : Int := if b then 0 else 8
theorem chk_true {b : Bool} (h : b = true) : chk b = 0 := by rw [h]; rfl
theorem chk_false {b : Bool} (h : b = false) : chk b = 8 := by rw [h]; rfl
end Go.Hx
namespace Go.Proofs.YtgcbnagfdfgpnaaDoor
open Go.RowKit Go.Hx
set_option maxRecDepth 100000 in
set_option maxHeartbeats 1000000 in
theorem limb_Check (x : LX Nat) (c0 : Int) (w : World) (hx : x.ok w w.heap.size cU32) (hc0 : chk (decide (mayL x.l)) = c0) :
    Calls Tryd.prog 85 #[.slice x.A x.l.length x.c] w fun e w' => e = .returned (.int .i64 c0) ∧ w' = w := by
  obtain ⟨l, A, c⟩ := x
  obtain ⟨hx, hx1, hx2⟩ := hx
  dsimp only at *
  unfold maxLen at hx2
  by_cases h1 : l.length ≤ 40
  · have d1 : decide ((40 : Int) < (l.length : Int)) = false := by simp; omega
    by_cases h2 : l.length = 0
    · obtain rfl := List.eq_nil_of_length_eq_zero h2
      have HR := Lib.hid (show (0 : Int) = c0 by rw [← hc0, chk_true (show decide (mayL []) = true by decide)])
      clear h1 h2 hx hc0 d1
      go_enter Tryd.func85, Tryd.ntmps85
      go_wp2_with fail
      go_ret
      exact ⟨congrArg (fun i => Ending.returned (Value.int .i64 i)) HR.out, rfl⟩
    · have d2 : decide ((0 : Int) < (l.length : Int)) = true := decide_eq_true (by omega)
      obtain ⟨j, hj⟩ : ∃ j, l.length = j + 1 := ⟨l.length - 1, by omega⟩
      have hlt : j < l.length := by omega
      obtain ⟨b, off, rfl, _, r⟩ := Sl.row (size := 1) (fun _ => rfl) hx (List.getElem?_eq_getElem hlt)
      obtain ⟨p, hp⟩ : ∃ p, l[j] = p := ⟨_, rfl⟩
      have hc : w.cell? ⟨b, off + j, none⟩ = some (.int .u32 p) := by have := r 0 _ rfl; rw [hp] at this; simpa using this
      have hsub : IntKind.i64.wrap ((l.length : Int) - 1) = (j : Int) := by rw [IntWalk.i64_in _ (by omega)]; omega
      have hsub2 : (l.length : Int) - 1 = (j : Int) := by omega
      have hlast : l.getLast? = some p := by rw [List.getLast?_eq_getElem?, hj]; simp [List.getElem?_eq_getElem hlt, hp]
      have hji : (j : Int) < (l.length : Int) := by omega
      by_cases h3 : p = 0
      · have d3 : ((p : Int) == 0) = true := by simp [h3]
        have HR := Lib.hid (show (8 : Int) = c0 by rw [← hc0, chk_false (show decide (mayL l) = false from decide_eq_false fun h => h.2 (by rw [hlast, h3]))])
        clear h1 h2 h3 hx r hp hj hlast hc0
        go_enter Tryd.func85, Tryd.ntmps85
        go_wp2_with fail
        go_ret
        exact ⟨congrArg (fun i => Ending.returned (Value.int .i64 i)) HR.out, rfl⟩
      · have d3 : ((p : Int) == 0) = false := by simp [h3]
        have HR := Lib.hid (show (0 : Int) = c0 by rw [← hc0, chk_true (show decide (mayL l) = true from decide_eq_true ⟨h1, by rw [hlast]; simpa using h3⟩)])
        clear h1 h2 h3 hx r hp hj hlast hc0
        go_enter Tryd.func85, Tryd.ntmps85
        go_wp2_with fail
        go_ret
        exact ⟨congrArg (fun i => Ending.returned (Value.int .i64 i)) HR.out, rfl⟩
  · have d1 : decide ((40 : Int) < (l.length : Int)) = true := by simp; omega
    have HR := Lib.hid (show (8 : Int) = c0 by rw [← hc0, chk_false (show decide (mayL l) = false from decide_eq_false fun h => h1 h.1)])
    clear h1 hx hc0
    go_enter Tryd.func85, Tryd.ntmps85
    go_wp2_with fail
    go_ret
    exact ⟨congrArg (fun i => Ending.returned (Value.int .i64 i)) HR.out, rfl⟩
set_option maxRecDepth 100000 in
set_option maxHeartbeats 1000000 in
theorem dyad_Check (x : XDyad) (w : World) (hx : x.ok w w.heap.size) :
    Calls Tryd.prog 34 #[.agg #[.bool x.neg, .slice x.limbs.A x.limbs.l.length x.limbs.c, .int .i64 x.exp]] w fun e w' => e = .returned (.int .i64 (chk (decide (mayD x.data)))) ∧ Ext w w' := by
  have HX := Lib.hid hx
  clear hx
  by_cases hL : mayL x.limbs.l
  · have HL := Lib.hid (chk_true (show decide (mayL x.limbs.l) = true from decide_eq_true hL))
    by_cases h1 : x.exp < 0
    · have d1 : decide (x.exp < 0) = true := by simp; omega
      have HR := Lib.hid (chk_false (show decide (mayD x.data) = false from decide_eq_false (fun h => by have := h.2.1.1; simp only [XDyad.data] at this; omega)))
      clear h1 hL
      go_enter Tryd.func34, Tryd.ntmps34
      go_wp2_with fail
      refine (limb_Check x.limbs 0 _ (HX.out.limbs.ext (by repeat (first | exact Ext.refl _ | assumption | refine Ext.alloc' ?_ _ | refine Ext.drewN' ?_ _ | refine Ext.drew' ?_ | (refine Ext.trans ?_ (by assumption))))) HL.out).mono ?_
      rintro e w1 ⟨rfl, rfl⟩
      go_wp2_with fail
      go_ret
      exact ⟨congrArg (fun i => Ending.returned (Value.int .i64 i)) HR.out.symm, Ext.alloc _ _⟩
    · have d1 : decide (x.exp < 0) = false := by simp; omega
      by_cases h2 : 1024 < x.exp
      · have d2 : decide (1024 < x.exp) = true := by simp; omega
        have HR := Lib.hid (chk_false (show decide (mayD x.data) = false from decide_eq_false (fun h => by have := h.2.1.2; simp only [XDyad.data] at this; omega)))
        clear h1 h2 hL
        go_enter Tryd.func34, Tryd.ntmps34
        go_wp2_with fail
        refine (limb_Check x.limbs 0 _ (HX.out.limbs.ext (by repeat (first | exact Ext.refl _ | assumption | refine Ext.alloc' ?_ _ | refine Ext.drewN' ?_ _ | refine Ext.drew' ?_ | (refine Ext.trans ?_ (by assumption))))) HL.out).mono ?_
        rintro e w1 ⟨rfl, rfl⟩
        go_wp2_with fail
        go_ret
        exact ⟨congrArg (fun i => Ending.returned (Value.int .i64 i)) HR.out.symm, Ext.alloc _ _⟩
      · have d2 : decide (1024 < x.exp) = false := by simp; omega
        by_cases h3 : x.limbs.l.length = 0
        · have d3 : ((x.limbs.l.length : Int) == 0) = true := by rw [beq_iff_eq]; omega
          have h3' : x.limbs.l = [] := List.eq_nil_of_length_eq_zero h3
          by_cases h4 : x.exp = 0
          · have d4 : (x.exp != 0) = false := by simp [h4]
            by_cases h5 : x.neg = true
            · have h5q := Lib.hid h5
              have HR := Lib.hid (chk_false (show decide (mayD x.data) = false from decide_eq_false (fun h => by have := h.2.2; simp [XDyad.data, h3', h5] at this)))
              clear h1 h2 h3 h3' h4 hL h5q
              go_enter Tryd.func34, Tryd.ntmps34
              go_wp2_with fail
              refine (limb_Check x.limbs 0 _ (HX.out.limbs.ext (by repeat (first | exact Ext.refl _ | assumption | refine Ext.alloc' ?_ _ | refine Ext.drewN' ?_ _ | refine Ext.drew' ?_ | (refine Ext.trans ?_ (by assumption))))) HL.out).mono ?_
              rintro e w1 ⟨rfl, rfl⟩
              go_wp2_with fail
              go_ret
              exact ⟨congrArg (fun i => Ending.returned (Value.int .i64 i)) HR.out.symm, Ext.alloc _ _⟩
            · have h5' : x.neg = false := by simpa using h5
              have HR := Lib.hid (chk_true (show decide (mayD x.data) = true from decide_eq_true (⟨hL, ⟨by simp only [XDyad.data]; omega, by simp only [XDyad.data]; omega⟩, by simp [XDyad.data, h3', h5', h4]⟩)))
              clear h1 h2 h3 h3' h4 hL h5
              go_enter Tryd.func34, Tryd.ntmps34
              go_wp2_with fail
              refine (limb_Check x.limbs 0 _ (HX.out.limbs.ext (by repeat (first | exact Ext.refl _ | assumption | refine Ext.alloc' ?_ _ | refine Ext.drewN' ?_ _ | refine Ext.drew' ?_ | (refine Ext.trans ?_ (by assumption))))) HL.out).mono ?_
              rintro e w1 ⟨rfl, rfl⟩
              go_wp2_with fail
              go_ret
              exact ⟨congrArg (fun i => Ending.returned (Value.int .i64 i)) HR.out.symm, Ext.alloc _ _⟩
          · have d4 : (x.exp != 0) = true := by simp [h4]
            have HR := Lib.hid (chk_false (show decide (mayD x.data) = false from decide_eq_false (fun h => by have := h.2.2; simp [XDyad.data, h3', h4] at this)))
            clear h1 h2 h3 h3' h4 hL
            go_enter Tryd.func34, Tryd.ntmps34
            go_wp2_with fail
            refine (limb_Check x.limbs 0 _ (HX.out.limbs.ext (by repeat (first | exact Ext.refl _ | assumption | refine Ext.alloc' ?_ _ | refine Ext.drewN' ?_ _ | refine Ext.drew' ?_ | (refine Ext.trans ?_ (by assumption))))) HL.out).mono ?_
            rintro e w1 ⟨rfl, rfl⟩
            go_wp2_with fail
            go_ret
            exact ⟨congrArg (fun i => Ending.returned (Value.int .i64 i)) HR.out.symm, Ext.alloc _ _⟩
        · have d3 : ((x.limbs.l.length : Int) == 0) = false := by rw [beq_eq_false_iff_ne]; omega
          have h3' : x.limbs.l ≠ [] := fun h => h3 (by rw [h]; rfl)
          by_cases h4 : x.exp = 0
          · have d4 : decide (0 < x.exp) = false := by simp [h4]
            have HR := Lib.hid (chk_true (show decide (mayD x.data) = true from decide_eq_true (⟨hL, ⟨by simp only [XDyad.data]; omega, by simp only [XDyad.data]; omega⟩, by simp [XDyad.data, h3', h4]⟩)))
            clear h1 h2 h3 h3' h4 hL
            go_enter Tryd.func34, Tryd.ntmps34
            go_wp2_with fail
            refine (limb_Check x.limbs 0 _ (HX.out.limbs.ext (by repeat (first | exact Ext.refl _ | assumption | refine Ext.alloc' ?_ _ | refine Ext.drewN' ?_ _ | refine Ext.drew' ?_ | (refine Ext.trans ?_ (by assumption))))) HL.out).mono ?_
            rintro e w1 ⟨rfl, rfl⟩
            go_wp2_with fail
            go_ret
            exact ⟨congrArg (fun i => Ending.returned (Value.int .i64 i)) HR.out.symm, Ext.alloc _ _⟩
          · have d4 : decide (0 < x.exp) = true := by simp; omega
            have hlt : 0 < x.limbs.l.length := by omega
            obtain ⟨b, off, hA, _, r⟩ := Sl.row (size := 1) (fun _ => rfl) HX.out.limbs.1 (List.getElem?_eq_getElem hlt)
            obtain ⟨q, hq⟩ : ∃ q, x.limbs.l[0] = q := ⟨_, rfl⟩
            have hc : ∀ W, Ext w W → W.cell? ⟨b, off, none⟩ = some (.int .u32 q) := fun W hW => by have := r 0 _ rfl; rw [hq] at this; exact hW.cell (by simpa using this)
            have hq' : x.limbs.l[0]?.getD 0 = q := by rw [List.getElem?_eq_getElem hlt, hq]; rfl
            have HC := Lib.hid hc
            have HA := Lib.hid hA
            clear hA
            have hli : (0 : Int) < (x.limbs.l.length : Int) := by omega
            by_cases h5 : q % 2 = 1
            · have d5 : ((q : Int) % 2 == 0) = false := by rw [beq_eq_false_iff_ne]; omega
              have HR := Lib.hid (chk_true (show decide (mayD x.data) = true from decide_eq_true (⟨hL, ⟨by simp only [XDyad.data]; omega, by simp only [XDyad.data]; omega⟩, by simp [XDyad.data, h3', h4, hq', h5]⟩)))
              clear h1 h2 h3 h3' h4 hL h5 r hq hq' hc
              go_enter Tryd.func34, Tryd.ntmps34
              go_wp2_with fail
              refine (limb_Check x.limbs 0 _ (HX.out.limbs.ext (by repeat (first | exact Ext.refl _ | assumption | refine Ext.alloc' ?_ _ | refine Ext.drewN' ?_ _ | refine Ext.drew' ?_ | (refine Ext.trans ?_ (by assumption))))) HL.out).mono ?_
              rintro e w1 ⟨rfl, rfl⟩
              have hA2 := HA.out
              have hcc := fun o => HC.out (w.alloc o) (Ext.alloc w o)
              go_wp2_with fail
              go_ret
              exact ⟨congrArg (fun i => Ending.returned (Value.int .i64 i)) HR.out.symm, Ext.alloc _ _⟩
            · have d5 : ((q : Int) % 2 == 0) = true := by rw [beq_iff_eq]; omega
              have HR := Lib.hid (chk_false (show decide (mayD x.data) = false from decide_eq_false (fun h => by have := h.2.2; simp [XDyad.data, h3', h4, hq', h5] at this)))
              clear h1 h2 h3 h3' h4 hL h5 r hq hq' hc
              go_enter Tryd.func34, Tryd.ntmps34
              go_wp2_with fail
              refine (limb_Check x.limbs 0 _ (HX.out.limbs.ext (by repeat (first | exact Ext.refl _ | assumption | refine Ext.alloc' ?_ _ | refine Ext.drewN' ?_ _ | refine Ext.drew' ?_ | (refine Ext.trans ?_ (by assumption))))) HL.out).mono ?_
              rintro e w1 ⟨rfl, rfl⟩
              have hA2 := HA.out
              have hcc := fun o => HC.out (w.alloc o) (Ext.alloc w o)
              go_wp2_with fail
              go_ret
              exact ⟨congrArg (fun i => Ending.returned (Value.int .i64 i)) HR.out.symm, Ext.alloc _ _⟩
  · have HL := Lib.hid (chk_false (show decide (mayL x.limbs.l) = false from decide_eq_false hL))
    have HR := Lib.hid (chk_false (show decide (mayD x.data) = false from decide_eq_false (fun h => hL h.1)))
    clear hL
    go_enter Tryd.func34, Tryd.ntmps34
    go_wp2_with fail
    refine (limb_Check x.limbs 8 _ (HX.out.limbs.ext (by repeat (first | exact Ext.refl _ | assumption | refine Ext.alloc' ?_ _ | refine Ext.drewN' ?_ _ | refine Ext.drew' ?_ | (refine Ext.trans ?_ (by assumption))))) HL.out).mono ?_
    rintro e w1 ⟨rfl, rfl⟩
    go_wp2_with fail
    go_ret
    exact ⟨congrArg (fun i => Ending.returned (Value.int .i64 i)) HR.out.symm, Ext.alloc _ _⟩
end Go.Proofs.YtgcbnagfdfgpnaaDoor
end
