/- The law SpreadShrinks answers true from any state in which the library's table lies. Printed by gen_lawsh.py. -/
import Derived.Test.YtgcbnagfdfgpnaaDoorShrinksAll36
import Derived.Test.YtgcbnagfdfgpnaaDoorShrinksAll41
import Derived.Test.YtgcbnagfdfgpnaaDoorShrinksAll42
import Derived.Test.YtgcbnagfdfgpnaaDoorShrinksAll37
namespace Go.Hx
open Go.RowKit
/-- masses that are told of -/
def OkS (x : PMass) : Prop := mayM x ∧ x.c.limbs.length ≤ 8 ∧ x.a.limbs.length ≤ 8 ∧ x.c.exp ≤ 200 ∧ x.a.exp ≤ 200
structure ShrI (w W : World) (l : List XMass) (k : Nat) : Prop where
  ext : Ext w W
  ok : ∀ z ∈ l.take k, OkS z.data
theorem getD_all {α : Type} {P : α → Prop} {l : List α} {d : α} (h : ∀ x ∈ l, P x) (hd : P d) (i : Nat) : P (l[i]?.getD d) := by
  rcases Nat.lt_or_ge i l.length with hi | hi
  · exact h _ (getD_mem d hi)
  · rw [List.getElem?_eq_none hi]; exact hd
theorem meetsM_fine : ∀ (m : List PMeeting) (l : List PMass), (∀ x ∈ l, FineM x) → ∀ x ∈ (meetsM m l).1, FineM x
  | [], _, h => h
  | y :: m, l, h => by
    unfold meetsM
    split
    · split
      · refine meetsM_fine m _ fun x hx => ?_
        rcases List.mem_or_eq_of_mem_set hx with hx | rfl
        · rcases List.mem_or_eq_of_mem_set hx with hx | rfl
          · exact h x hx
          · exact (meetM_fine (getD_all h fineM_zero _)).1
        · exact doneM_fine _ _
      · intro x hx; cases hx
    · intro x hx; cases hx
theorem FineM.limM {x : PMass} (h : FineM x) : LimM x := ⟨h.1.1, h.2.1.1, h.2.2.1.1, h.2.2.2.1⟩
structure LawP (l : List PMass) (m : List PMeeting) (out : List PMass) (R : Nat) (c1 a1 d1 b1 x1 y1 : PDyad) : Prop where
  rounds : roundsP l.length m = ((R : Int), 0)
  meet : meetP l m = (out, 0)
  ne : l ≠ []
  one : out ≠ []
  len : out.length = l.length
  wf : ∀ y ∈ out, mayM y ∧ LimM y
  fc : farD (l.map fun z => z.c) = (c1, 0)
  fa : farD (l.map fun z => z.a) = (a1, 0)
  gc : farD (out.map fun z => z.c) = (d1, 0)
  ga : farD (out.map fun z => z.a) = (b1, 0)
  bc : boundD c1 l.length R = (x1, 0)
  ba : boundD a1 l.length R = (y1, 0)
  mc : mayD d1 ∧ mayD x1
  ma : mayD b1 ∧ mayD y1
  lim : Limbs c1.limbs ∧ Limbs a1.limbs ∧ Limbs d1.limbs ∧ Limbs b1.limbs ∧ Limbs x1.limbs ∧ Limbs y1.limbs
  cc : cmpD d1 x1 ≤ 0
  ca : cmpD b1 y1 ≤ 0
theorem farD_fine (l : List PDyad) : Fine (farD l).1 := by
  unfold farD
  split
  · exact fine_zero
  · exact subD_fine _ _
theorem boundsD_fine (m : Nat) : ∀ (k : Nat) (x : PDyad), Fine x → Fine (boundsD m k x).1
  | 0, _, h => h
  | k + 1, x, h => by
    unfold boundsD
    split
    · exact boundsD_fine m k _ (by
        unfold stepD
        split
        · split
          · exact subD_fine _ _
          · exact fine_zero
        · exact fine_zero)
    · exact fine_zero
theorem run_map {n : Nat} {m : List PMeeting} {f : PMass → PDyad} (hf : f PMass.zero = PDyad.zero) {l o : List PMass} (h : Run n m (fun i => ivK 400 (f (l[i]?.getD PMass.zero))) (fun i => ivK 400 (f (o[i]?.getD PMass.zero)))) : Run n m (fun i => ivK 400 ((l.map f)[i]?.getD PDyad.zero)) (fun i => ivK 400 ((o.map f)[i]?.getD PDyad.zero)) := by
  have e : ∀ (l : List PMass) (i : Nat), (l.map f)[i]?.getD PDyad.zero = f (l[i]?.getD PMass.zero) := fun l i => by
    rw [List.getElem?_map]
    cases l[i]? with
    | none => exact hf.symm
    | some x => rfl
  simp only [e]; exact h
theorem small_ivk {K k : Nat} {x : PDyad} (hk : K + 256 = k) (hl : Limbs x.limbs) (h : x.limbs.length ≤ 8) : (ivK K x).natAbs ≤ 2 ^ k := hk ▸ small_iv hl h
theorem law_plain {l : List PMass} {m : List PMeeting} (h0 : askedP l.length m = 0) (hl : ∀ y ∈ l, OkS y ∧ LimM y) : ∃ out R c1 a1 d1 b1 x1 y1, LawP l m out R c1 a1 d1 b1 x1 y1 := by
  obtain ⟨h2, h8, h64, hm⟩ := asked_ok h0
  have n2 : 2 ≤ l.length := by omega
  obtain ⟨k0, hk0⟩ : ∃ k : Nat, 400 + 256 = k := ⟨_, rfl⟩
  have hsz : ∀ y ∈ l, SzM 400 200 (2 ^ k0) y := fun y hy => by
    obtain ⟨⟨k1, k2, k3, k4, k5⟩, k6⟩ := hl y hy
    exact ⟨k1, ⟨k6.1, k6.2.1⟩, ⟨k1.2.2.1, by omega, small_ivk hk0 k6.2.2.1 k2⟩, ⟨k1.2.2.2, by omega, small_ivk hk0 k6.2.2.2 k3⟩⟩
  have hf : ∀ y ∈ l, FineM y := fun y hy => (hl y hy).2.fine (hl y hy).1.1
  obtain ⟨g1, g2, g3, g4, g5⟩ := meetsM_iv (K := 400) (B := 2 ^ k0) (by omega) (four_pow (by omega)) m l 200 (by omega) hm hsz
  have hof := meetsM_fine m l hf
  have hmeet : meetP l m = meetsM m l := by
    unfold meetP
    rw [if_pos h0, if_pos fun y hy => (hl y hy).1.1]
  generalize meetsM m l = T at *
  obtain ⟨out, e⟩ := T
  dsimp only at g1 g2 g3 g4 g5 hof
  subst g1
  obtain ⟨R, hR⟩ : ∃ R, (rfold l.length (0, initJ l.length) m).1 = R := ⟨_, rfl⟩
  have hb := rfold_bound (n := l.length) m 0 (initJ l.length) 0 (by show ((l.length : Nat) : Int) ≤ _; exact Int.le_refl _) (by show ((0 : Nat) : Int) * _ + ((l.length : Int) - ((l.length : Nat) : Int)) ≤ 0; omega)
  rw [hR] at hb
  have hR64 : R ≤ 64 := by
    have : (R : Int) * 1 ≤ (R : Int) * ((l.length : Int) - 1) := Int.mul_le_mul_of_nonneg_left (by omega) (by omega)
    omega
  have hsz2 : ∀ y ∈ out, SzM 400 264 (2 ^ k0) y := fun y hy => (g3 y hy).up (by omega)
  have mem_c : ∀ {E : Nat} {q : List PMass}, (∀ y ∈ q, SzM 400 E (2 ^ k0) y) → ∀ y ∈ q.map (fun z => z.c), Sz 400 E (2 ^ k0) y := fun h y hy => by
    obtain ⟨z, hz, rfl⟩ := List.mem_map.1 hy; exact (h z hz).c
  have mem_a : ∀ {E : Nat} {q : List PMass}, (∀ y ∈ q, SzM 400 E (2 ^ k0) y) → ∀ y ∈ q.map (fun z => z.a), Sz 400 E (2 ^ k0) y := fun h y hy => by
    obtain ⟨z, hz, rfl⟩ := List.mem_map.1 hy; exact (h z hz).a
  obtain ⟨⟨p1, p2, p3⟩, ⟨p4, p5⟩, ⟨p6, p7⟩, p8⟩ := shrinks_one (by omega) n2 (l := l.map fun z => z.c) (out := out.map fun z => z.c) (by rw [List.length_map]) (by rw [List.length_map, g2]) hR hR64 hm (mem_c hsz) (mem_c hsz2) (run_map rfl g4)
  obtain ⟨⟨q1, q2, q3⟩, ⟨q4, q5⟩, ⟨q6, q7⟩, q8⟩ := shrinks_one (by omega) n2 (l := l.map fun z => z.a) (out := out.map fun z => z.a) (by rw [List.length_map]) (by rw [List.length_map, g2]) hR hR64 hm (mem_a hsz) (mem_a hsz2) (run_map rfl g5)
  have hbd : ∀ z : PDyad, mayD z → z.neg = false → boundD z l.length R = boundsD (l.length - 1) (R / (l.length - 1)) z := fun z h1 h2 => by
    unfold boundD
    rw [if_pos ⟨h1, h2⟩, if_pos ⟨by omega, by omega, by omega, by omega⟩]
    have e1 : ((l.length : Int) - 1).toNat = l.length - 1 := by omega
    rw [e1, Int.toNat_natCast]
  have pe : ∀ {p : PDyad × Int}, p.2 = 0 → p = (p.1, 0) := fun h => by rw [← h]
  refine ⟨out, R, (farD (l.map fun z => z.c)).1, (farD (l.map fun z => z.a)).1, (farD (out.map fun z => z.c)).1, (farD (out.map fun z => z.a)).1, (boundsD (l.length - 1) (R / (l.length - 1)) (farD (l.map fun z => z.c)).1).1, (boundsD (l.length - 1) (R / (l.length - 1)) (farD (l.map fun z => z.a)).1).1, ?_⟩
  refine ⟨?_, hmeet, fun h => by rw [h] at n2; simp at n2, fun h => by rw [h] at g2; simp at g2; omega, g2, fun y hy => ⟨(g3 y hy).may, (hof y hy).limM⟩, pe p1, pe q1, pe p4, pe q4, (hbd _ p2 p3).trans (pe p6), (hbd _ q2 q3).trans (pe q6), ⟨p5, p7⟩, ⟨q5, q7⟩, ⟨(farD_fine _).1, (farD_fine _).1, (farD_fine _).1, (farD_fine _).1, (boundsD_fine _ _ _ (farD_fine _)).1, (boundsD_fine _ _ _ (farD_fine _)).1⟩, p8, q8⟩
  unfold roundsP
  rw [if_pos h0, Int.toNat_natCast, hR]
end Go.Hx
namespace Go.Proofs.YtgcbnagfdfgpnaaDoor
open Go.RowKit Go.Hx
attribute [local go_sem] XDyad.cells XMass.cells detUpon undIn
set_option maxRecDepth 100000 in
set_option maxHeartbeats 4000000 in
theorem spreadShrinks_any (x : LX XMass) (m : LX PMeeting) (w : World) (hx : x.ok w w.heap.size XMass.cells) (hxs : ∀ z ∈ x.l, z.ok w w.heap.size) (lx : ∀ z ∈ x.l, LimM z.data) (hm : m.ok w w.heap.size PMeeting.cells) (hT : Tab w) :
    Calls Tryd.prog 7 #[.slice x.A x.l.length x.c, .slice m.A m.l.length m.c] w fun e w' => e = .returned (.bool true) ∧ Ext w w' := by
  have HM := Lib.hid hm
  have HT := Lib.hid hT
  have HXO := Lib.hid hx
  have HXS := Lib.hid hxs
  have LXX := Lib.hid lx
  obtain ⟨l, A, c⟩ := x
  have HX := Lib.hid hx.1
  clear hm hT hxs lx hx
  dsimp only at *
  go_enter Tryd.func7, Tryd.ntmps7
  go_wp2_with fail
  refine (law30_alive _ HT.out).mono ?_
  rintro e w0 ⟨rfl, hE0⟩
  have HE0 := Lib.hid hE0
  clear hE0
  go_wp2_with fail
  refine (ref30_Great ⟨l, A, c⟩ _ (HXO.out.ext HE0.out) (fun z hz => (HXS.out z hz).ext HE0.out)).mono ?_
  rintro e w1 ⟨bg, rfl, hbg, hE1⟩
  have HE1 := Lib.hid (HE0.out.trans hE1)
  clear hE1 HE0
  cases bg with
  | true =>
    go_wp2_with fail
    go_ret
    exact ⟨rfl, HE1.out⟩
  | false =>
  have HG := Lib.hid (hbg rfl)
  clear hbg
  dsimp only at HG
  by_cases h64 : (64 : Int) < (m.l.length : Int)
  · go_wp2_with fail
    go_ret
    exact ⟨rfl, HE1.out⟩
  have HI0 : Hid (ShrI w w1 l 0) := Lib.hid ⟨HE1.out, by simp⟩
  clear HE1
  go_wp2_with fail
  clear h64
  go_loopw [6] (fun i W => ∃ (k : Nat), k ≤ l.length ∧ i = .int .i64 k ∧ Hid (ShrI w W l k)) (fun i _ => l.length - (intOf i).toNat)
  case atStart => exact ⟨0, by omega, rfl, HI0⟩
  case round =>
    obtain ⟨k, hk, rfl, HI⟩ := hrel
    clear HI0
    by_cases hlt : k < l.length
    · obtain ⟨z, hz⟩ : ∃ z, l[k]? = some z := ⟨_, List.getElem?_eq_getElem hlt⟩
      have HZ := Lib.hid hz
      have HZM := Lib.hid (List.mem_of_getElem? hz)
      obtain ⟨b1, o1, rfl, hb1, hrow⟩ := Sl.row (size := 12) (fun _ => rfl) HX.out hz
      have R_z : Hid (∀ W, Ext w W → RowAt W b1 (o1 + k * 12) z.cells) := Lib.hid fun W hW => hrow.below hW.below hb1
      have hki : (k : Int) < (l.length : Int) := by omega
      have hk20 : k < 20 := by have := HG.out.1; omega
      have hok := Lib.hid ((HXS.out z HZM.out).ext HI.out.ext)
      clear hz hb1 hrow
      by_cases hmay : mayM z.data
      rotate_left
      · have HC : Hid (chk (decide (mayM z.data)) = 8) := Lib.hid (chk_no hmay)
        clear hmay
        go_wp2_with (first | ((with_reducible refine wpl_load 47 (.tmp 46) ?_ ?_ b1 (o1 + k * 12) z.cells ?_ ?_ ?_ ?_); (exact rfl); (exact rfl); (exact rfl); (exact aggMass); (exact R_z.out _ HI.out.ext)) | fail)
        refine (mass_Check z _ hok.out).mono ?_
        rw [HC.out]
        rintro e w2 ⟨rfl, hE2⟩
        have HE2 := Lib.hid (HI.out.ext.trans hE2)
        clear hE2
        go_wp2_with fail
        go_ret
        exact ⟨rfl, HE2.out⟩
      have HC : Hid (chk (decide (mayM z.data)) = 0) := Lib.hid (chk_yes hmay)
      have HMY := Lib.hid hmay
      clear hmay
      go_wp2_with (first | ((with_reducible refine wpl_load 47 (.tmp 46) ?_ ?_ b1 (o1 + k * 12) z.cells ?_ ?_ ?_ ?_); (exact rfl); (exact rfl); (exact rfl); (exact aggMass); (exact R_z.out _ HI.out.ext)) | fail)
      refine (mass_Check z _ hok.out).mono ?_
      rw [HC.out]
      rintro e w2 ⟨rfl, hE2⟩
      have HE2 := Lib.hid (HI.out.ext.trans hE2)
      clear hE2
      have hc0 : w2.cell? ⟨b1, o1 + k * 12 + 6 + 1, none⟩ = some (.slice z.c.limbs.A z.c.limbs.l.length z.c.limbs.c) := R_z.out w2 HE2.out 7 _ rfl
      have hc1 : w2.cell? ⟨b1, o1 + k * 12 + 9 + 1, none⟩ = some (.slice z.a.limbs.A z.a.limbs.l.length z.a.limbs.c) := R_z.out w2 HE2.out 10 _ rfl
      have hc2 : w2.cell? ⟨b1, o1 + k * 12 + 6 + 2, none⟩ = some (.int .i64 z.c.exp) := R_z.out w2 HE2.out 8 _ rfl
      have hc3 : w2.cell? ⟨b1, o1 + k * 12 + 9 + 2, none⟩ = some (.int .i64 z.a.exp) := R_z.out w2 HE2.out 11 _ rfl
      by_cases q1 : (8 : Int) < (z.c.limbs.l.length : Int)
      · go_wp2_with fail
        go_ret
        exact ⟨rfl, HE2.out⟩
      by_cases q2 : (8 : Int) < (z.a.limbs.l.length : Int)
      · go_wp2_with fail
        go_ret
        exact ⟨rfl, HE2.out⟩
      by_cases q3 : (200 : Int) < z.c.exp
      · go_wp2_with fail
        go_ret
        exact ⟨rfl, HE2.out⟩
      by_cases q4 : (200 : Int) < z.a.exp
      · go_wp2_with fail
        go_ret
        exact ⟨rfl, HE2.out⟩
      have HI2 : Hid (ShrI w w2 l (k + 1)) := Lib.hid ⟨HE2.out, fun x hx => by
        rw [take_snoc HZ.out] at hx
        rcases List.mem_append.1 hx with hx | hx
        · exact HI.out.ok x hx
        · simp only [List.mem_singleton] at hx; subst hx; exact ⟨HMY.out, by show x.c.limbs.l.length ≤ 8; omega, by show x.a.limbs.l.length ≤ 8; omega, by show x.c.exp ≤ 200; omega, by show x.a.exp ≤ 200; omega⟩⟩
      go_wp2_with fail
      go_roundw
      case rel => exact ⟨k + 1, by omega, by go_num, HI2⟩
      case measure => simp [intOf]; omega
    · have hki : ¬ (k : Int) < (l.length : Int) := by omega
      have hkl : k = l.length := by omega
      have HOK : Hid (∀ z ∈ l, OkS z.data) := Lib.hid fun z hz => HI.out.ok z (by rw [hkl, List.take_length]; exact hz)
      have HW : Hid (Ext w wr) := Lib.hid HI.out.ext
      have HALL : Hid (∀ y ∈ l.map XMass.data, OkS y ∧ LimM y) := Lib.hid fun y hy => by
        obtain ⟨z, hz, rfl⟩ := List.mem_map.1 hy
        exact ⟨HOK.out z hz, LXX.out z hz⟩
      have HLN : Hid ((l.map XMass.data).length = l.length) := Lib.hid (by rw [List.length_map])
      clear hkl HI
      by_cases h0 : askedP l.length m.l = 0
      rotate_left
      · obtain ⟨v, hv⟩ : ∃ v, askedP l.length m.l = v := ⟨_, rfl⟩
        rw [hv] at h0
        have HRP : Hid (roundsP l.length m.l = (0, v)) := Lib.hid (by unfold roundsP; rw [hv, if_neg h0])
        have HMP : Hid (meetP (l.map XMass.data) m.l = ([], v)) := Lib.hid (by unfold meetP; rw [List.length_map, hv, if_neg h0])
        have d0 : (v != 0) = true := by simpa using h0
        clear hv h0
        go_wp2_with fail
        refine (spread_Rounds l.length m _ (HM.out.ext HW.out)).mono ?_
        rw [HRP.out]
        rintro e w2 ⟨rfl, hE2⟩
        have HE2 := Lib.hid (HW.out.trans hE2)
        clear hE2
        go_wp2_with fail
        refine (spread_Meet ⟨l, A, c⟩ m _ (HXO.out.ext HE2.out) (fun z hz => (HXS.out z hz).ext HE2.out) (HM.out.ext HE2.out) LXX.out (HT.out.ext HE2.out)).mono ?_
        dsimp only
        rw [HMP.out]
        rintro e w3 ⟨z, rfl, _, _, _, hE3⟩
        have HE3 := Lib.hid (HE2.out.trans hE3)
        clear hE3
        go_wp2_with fail
        go_ret
        exact ⟨by simp, HE3.out⟩
      obtain ⟨out, R, c1, a1, d1, b1, x1, y1, hP⟩ := law_plain (l := l.map XMass.data) (m := m.l) (by rw [List.length_map]; exact h0) HALL.out
      have HP := Lib.hid hP
      have HRP : Hid (roundsP l.length m.l = ((R : Int), 0)) := Lib.hid (by have := HP.out.rounds; rwa [List.length_map] at this)
      clear h0 hP
      go_wp2_with fail
      refine (spread_Rounds l.length m _ (HM.out.ext HW.out)).mono ?_
      rw [HRP.out]
      rintro e w2 ⟨rfl, hE2⟩
      have HE2 := Lib.hid (HW.out.trans hE2)
      clear hE2
      go_wp2_with fail
      refine (spread_Meet ⟨l, A, c⟩ m _ (HXO.out.ext HE2.out) (fun z hz => (HXS.out z hz).ext HE2.out) (HM.out.ext HE2.out) LXX.out (HT.out.ext HE2.out)).mono ?_
      dsimp only
      rw [HP.out.meet]
      rintro e w3 ⟨⟨zl, zA, zc⟩, rfl, hzd, hzo, hzm, hE3⟩
      dsimp only at hzd hzo hzm
      have HZD := Lib.hid hzd
      have HZO : Hid (LX.ok w3 w3.heap.size XMass.cells ⟨zl, zA, zc⟩) := Lib.hid hzo.ok
      have HZS : Hid (∀ z ∈ zl, z.ok w3 w3.heap.size) := Lib.hid fun z hz => (hzm z hz).ok
      have HE3 := Lib.hid (HE2.out.trans hE3)
      clear hzd hzo hzm hE3 HE2 HW
      go_wp2_with fail
      refine (mean_Far ⟨l, A, c⟩ _ (HXO.out.ext HE3.out) (fun z hz => (HXS.out z hz).ext HE3.out) LXX.out (fun z hz => (HOK.out z hz).1) (by have := HP.out.ne; simpa using this) (by have := HG.out.1; show l.length ≤ 4096; omega) (by have := HP.out.fc; rw [List.map_map] at this; exact congrArg Prod.snd this) (by have := HP.out.fa; rw [List.map_map] at this; exact congrArg Prod.snd this) (HT.out.ext HE3.out)).mono ?_
      dsimp only
      rintro e w4 ⟨cD, aD, rfl, hcd, had, hcm, ham, hE4⟩
      have HCD : Hid (cD.data = c1) := Lib.hid (hcd.trans (by have := HP.out.fc; rw [List.map_map] at this; exact congrArg Prod.fst this))
      have HAD : Hid (aD.data = a1) := Lib.hid (had.trans (by have := HP.out.fa; rw [List.map_map] at this; exact congrArg Prod.fst this))
      have HCM : Hid (cD.ok w4 w4.heap.size) := Lib.hid hcm.ok
      have HAM : Hid (aD.ok w4 w4.heap.size) := Lib.hid ham.ok
      have HE4 := Lib.hid (HE3.out.trans hE4)
      have HF4 := Lib.hid hE4
      clear hcd had hcm ham hE4
      go_wp2_with fail
      refine calls_nm fun W5 hW => ?_
      have B11 : Hid (Blk W5 w4.heap.size 24 [.bool cD.neg, .slice cD.limbs.A cD.limbs.l.length cD.limbs.c, .int .i64 cD.exp]) := Lib.hid (by rw [hW]; exact Blk.alloc (Blk.new rfl) _)
      have B12 : Hid (Blk W5 (w4.heap.size + 1) 24 [.bool aD.neg, .slice aD.limbs.A aD.limbs.l.length aD.limbs.c, .int .i64 aD.exp]) := Lib.hid (by rw [hW]; exact Blk.new (by simp))
      have E5 : Hid (Ext w4 W5) := Lib.hid (by rw [hW]; exact Ext.alloc' (Ext.alloc _ _) _)
      clear hW
      refine (mean_Far ⟨zl, zA, zc⟩ _ (HZO.out.ext (HF4.out.trans E5.out)) (fun z hz => (HZS.out z hz).ext (HF4.out.trans E5.out)) (fun z hz => (HP.out.wf z.data (by rw [← HZD.out]; exact List.mem_map_of_mem hz)).2) (fun z hz => (HP.out.wf z.data (by rw [← HZD.out]; exact List.mem_map_of_mem hz)).1) (by have := HP.out.one; rw [← HZD.out] at this; simpa using this) (by have := HP.out.len; rw [← HZD.out, List.length_map, List.length_map] at this; have := HG.out.1; show zl.length ≤ 4096; omega) (by have := HP.out.gc; rw [← HZD.out, List.map_map] at this; exact congrArg Prod.snd this) (by have := HP.out.ga; rw [← HZD.out, List.map_map] at this; exact congrArg Prod.snd this) (HT.out.ext (HE4.out.trans E5.out))).mono ?_
      dsimp only
      rintro e w6 ⟨dD, bD, rfl, hcd, had, hcm, ham, hE6⟩
      have HDD : Hid (dD.data = d1) := Lib.hid (hcd.trans (by have := HP.out.gc; rw [← HZD.out, List.map_map] at this; exact congrArg Prod.fst this))
      have HBD : Hid (bD.data = b1) := Lib.hid (had.trans (by have := HP.out.ga; rw [← HZD.out, List.map_map] at this; exact congrArg Prod.fst this))
      have HDM : Hid (dD.ok w6 w6.heap.size) := Lib.hid hcm.ok
      have HBM : Hid (bD.ok w6 w6.heap.size) := Lib.hid ham.ok
      have E6 := Lib.hid (E5.out.trans hE6)
      have B11 := Lib.hid (B11.out.ext hE6)
      have B12 := Lib.hid (B12.out.ext hE6)
      clear hcd had hcm ham hE6 E5
      have HBC : Hid (boundD c1 (l.length : Int) R = (x1, 0)) := Lib.hid (by have := HP.out.bc; rwa [List.length_map] at this)
      have HBA : Hid (boundD a1 (l.length : Int) R = (y1, 0)) := Lib.hid (by have := HP.out.ba; rwa [List.length_map] at this)
      obtain ⟨v1, hv1⟩ : ∃ v, cmpD d1 x1 = v := ⟨_, rfl⟩
      obtain ⟨v2, hv2⟩ : ∃ v, cmpD b1 y1 = v := ⟨_, rfl⟩
      have HV1 := Lib.hid hv1
      have HV2 := Lib.hid hv2
      have dv1 : decide (v1 ≤ 0) = true := decide_eq_true (by rw [← hv1]; exact HP.out.cc)
      have dv2 : decide (v2 ≤ 0) = true := decide_eq_true (by rw [← hv2]; exact HP.out.ca)
      have LC : Hid (Limbs cD.limbs.l) := Lib.hid (by have := HP.out.lim.1; rw [← HCD.out] at this; exact this)
      have LA : Hid (Limbs aD.limbs.l) := Lib.hid (by have := HP.out.lim.2.1; rw [← HAD.out] at this; exact this)
      have LD : Hid (Limbs dD.limbs.l) := Lib.hid (by have := HP.out.lim.2.2.1; rw [← HDD.out] at this; exact this)
      have LB : Hid (Limbs bD.limbs.l) := Lib.hid (by have := HP.out.lim.2.2.2.1; rw [← HBD.out] at this; exact this)
      have HT6 := Lib.hid (HT.out.ext (HE4.out.trans E6.out))
      replace HCM := Lib.hid (HCM.out.ext E6.out)
      replace HAM := Lib.hid (HAM.out.ext E6.out)
      have HE6 := Lib.hid (HE4.out.trans E6.out)
      clear hv1 hv2 HE4 E6 HF4 HE3 HZO HZS HZD HALL HOK HLN HRP HXO HXS LXX HX HM HT
      go_wp2_with (first | ((with_reducible refine wpl_load 24 (.tmp 11) ?_ ?_ (w4.heap.size) 0 [.bool cD.neg, .slice cD.limbs.A cD.limbs.l.length cD.limbs.c, .int .i64 cD.exp] ?_ ?_ ?_ ?_); (exact rfl); (exact rfl); (exact rfl); (exact aggDyad); (exact (B11.out.ext (by repeat (first | exact Ext.refl _ | assumption | refine Ext.alloc' ?_ _ | refine Ext.drewN' ?_ _ | refine Ext.drew' ?_ | (refine Ext.trans ?_ (by assumption))))).row)) | fail)
      refine calls_nm fun W7 hW => ?_
      have E7 : Ext w6 W7 := by rw [hW]; exact Ext.alloc' (Ext.alloc _ _) _
      have B14 : Hid (Blk W7 w6.heap.size 24 [.bool dD.neg, .slice dD.limbs.A dD.limbs.l.length dD.limbs.c, .int .i64 dD.exp]) := Lib.hid (by rw [hW]; exact Blk.alloc (Blk.new rfl) _)
      have B15 : Hid (Blk W7 (w6.heap.size + 1) 24 [.bool bD.neg, .slice bD.limbs.A bD.limbs.l.length bD.limbs.c, .int .i64 bD.exp]) := Lib.hid (by rw [hW]; exact Blk.new (by simp))
      clear hW
      replace HCM := Lib.hid (HCM.out.ext E7)
      replace HAM := Lib.hid (HAM.out.ext E7)
      replace HDM := Lib.hid (HDM.out.ext E7)
      replace HBM := Lib.hid (HBM.out.ext E7)
      replace HT6 := Lib.hid (HT6.out.ext E7)
      replace HE6 := Lib.hid (HE6.out.trans E7)
      replace B11 := Lib.hid (B11.out.ext E7)
      replace B12 := Lib.hid (B12.out.ext E7)
      clear E7
      refine (spread_Bound cD l.length R _ HCM.out LC.out HT6.out).mono ?_
      rw [HCD.out, HBC.out]
      dsimp only
      rintro e w8 ⟨xD, rfl, hxd, hxm, E8⟩
      have HXD := Lib.hid hxd
      have HXM : Hid (xD.ok w8 w8.heap.size) := Lib.hid hxm.ok
      have LX_ : Hid (Limbs xD.limbs.l) := Lib.hid (by have := HP.out.lim.2.2.2.2.1; rw [← hxd] at this; exact this)
      clear hxd hxm B11
      replace HCM := Lib.hid (HCM.out.ext E8)
      replace HAM := Lib.hid (HAM.out.ext E8)
      replace HDM := Lib.hid (HDM.out.ext E8)
      replace HBM := Lib.hid (HBM.out.ext E8)
      replace HT6 := Lib.hid (HT6.out.ext E8)
      replace HE6 := Lib.hid (HE6.out.trans E8)
      replace B12 := Lib.hid (B12.out.ext E8)
      replace B14 := Lib.hid (B14.out.ext E8)
      replace B15 := Lib.hid (B15.out.ext E8)
      clear E8
      go_wp2_with (first | ((with_reducible refine wpl_load 24 (.tmp 12) ?_ ?_ ((w4.heap.size + 1)) 0 [.bool aD.neg, .slice aD.limbs.A aD.limbs.l.length aD.limbs.c, .int .i64 aD.exp] ?_ ?_ ?_ ?_); (exact rfl); (exact rfl); (exact rfl); (exact aggDyad); (exact (B12.out.ext (by repeat (first | exact Ext.refl _ | assumption | refine Ext.alloc' ?_ _ | refine Ext.drewN' ?_ _ | refine Ext.drew' ?_ | (refine Ext.trans ?_ (by assumption))))).row)) | fail)
      refine calls_nm fun W9 hW => ?_
      have E9 : Ext w8 W9 := by rw [hW]; exact Ext.alloc _ _
      have B17 : Hid (Blk W9 w8.heap.size 24 [.bool xD.neg, .slice xD.limbs.A xD.limbs.l.length xD.limbs.c, .int .i64 xD.exp]) := Lib.hid (by rw [hW]; exact Blk.new rfl)
      clear hW
      replace HCM := Lib.hid (HCM.out.ext E9)
      replace HAM := Lib.hid (HAM.out.ext E9)
      replace HDM := Lib.hid (HDM.out.ext E9)
      replace HBM := Lib.hid (HBM.out.ext E9)
      replace HT6 := Lib.hid (HT6.out.ext E9)
      replace HE6 := Lib.hid (HE6.out.trans E9)
      replace HXM := Lib.hid (HXM.out.ext E9)
      replace B12 := Lib.hid (B12.out.ext E9)
      replace B14 := Lib.hid (B14.out.ext E9)
      replace B15 := Lib.hid (B15.out.ext E9)
      clear E9
      refine (spread_Bound aD l.length R _ HAM.out LA.out HT6.out).mono ?_
      rw [HAD.out, HBA.out]
      dsimp only
      rintro e w10 ⟨yD, rfl, hyd, hym, E10⟩
      have HYD := Lib.hid hyd
      have HYM : Hid (yD.ok w10 w10.heap.size) := Lib.hid hym.ok
      have LY : Hid (Limbs yD.limbs.l) := Lib.hid (by have := HP.out.lim.2.2.2.2.2; rw [← hyd] at this; exact this)
      clear hyd hym B12
      replace HCM := Lib.hid (HCM.out.ext E10)
      replace HAM := Lib.hid (HAM.out.ext E10)
      replace HDM := Lib.hid (HDM.out.ext E10)
      replace HBM := Lib.hid (HBM.out.ext E10)
      replace HT6 := Lib.hid (HT6.out.ext E10)
      replace HE6 := Lib.hid (HE6.out.trans E10)
      replace HXM := Lib.hid (HXM.out.ext E10)
      replace B14 := Lib.hid (B14.out.ext E10)
      replace B15 := Lib.hid (B15.out.ext E10)
      replace B17 := Lib.hid (B17.out.ext E10)
      clear E10
      go_wp2_with (first | ((with_reducible refine wpl_load 24 (.tmp 14) ?_ ?_ (w6.heap.size) 0 [.bool dD.neg, .slice dD.limbs.A dD.limbs.l.length dD.limbs.c, .int .i64 dD.exp] ?_ ?_ ?_ ?_); (exact rfl); (exact rfl); (exact rfl); (exact aggDyad); (exact (B14.out.ext (by repeat (first | exact Ext.refl _ | assumption | refine Ext.alloc' ?_ _ | refine Ext.drewN' ?_ _ | refine Ext.drew' ?_ | (refine Ext.trans ?_ (by assumption))))).row)) | ((with_reducible refine wpl_load 24 (.tmp 17) ?_ ?_ (w8.heap.size) 0 [.bool xD.neg, .slice xD.limbs.A xD.limbs.l.length xD.limbs.c, .int .i64 xD.exp] ?_ ?_ ?_ ?_); (exact rfl); (exact rfl); (exact rfl); (exact aggDyad); (exact (B17.out.ext (by repeat (first | exact Ext.refl _ | assumption | refine Ext.alloc' ?_ _ | refine Ext.drewN' ?_ _ | refine Ext.drew' ?_ | (refine Ext.trans ?_ (by assumption))))).row)) | fail)
      refine calls_nm fun W11 hW => ?_
      have E11 : Ext w10 W11 := by rw [hW]; exact Ext.alloc _ _
      have B19 : Hid (Blk W11 w10.heap.size 24 [.bool yD.neg, .slice yD.limbs.A yD.limbs.l.length yD.limbs.c, .int .i64 yD.exp]) := Lib.hid (by rw [hW]; exact Blk.new rfl)
      clear hW
      replace HCM := Lib.hid (HCM.out.ext E11)
      replace HAM := Lib.hid (HAM.out.ext E11)
      replace HDM := Lib.hid (HDM.out.ext E11)
      replace HBM := Lib.hid (HBM.out.ext E11)
      replace HT6 := Lib.hid (HT6.out.ext E11)
      replace HE6 := Lib.hid (HE6.out.trans E11)
      replace HXM := Lib.hid (HXM.out.ext E11)
      replace HYM := Lib.hid (HYM.out.ext E11)
      replace B14 := Lib.hid (B14.out.ext E11)
      replace B15 := Lib.hid (B15.out.ext E11)
      replace B17 := Lib.hid (B17.out.ext E11)
      clear E11
      refine (dyad_Cmp dD xD _ HDM.out HXM.out LD.out LX_.out (by rw [HDD.out]; exact HP.out.mc.1) (by rw [HXD.out]; exact HP.out.mc.2)).mono ?_
      rw [HDD.out, HXD.out, HV1.out]
      rintro e w12 ⟨rfl, E12⟩
      replace HCM := Lib.hid (HCM.out.ext E12)
      replace HAM := Lib.hid (HAM.out.ext E12)
      replace HDM := Lib.hid (HDM.out.ext E12)
      replace HBM := Lib.hid (HBM.out.ext E12)
      replace HT6 := Lib.hid (HT6.out.ext E12)
      replace HE6 := Lib.hid (HE6.out.trans E12)
      replace HXM := Lib.hid (HXM.out.ext E12)
      replace HYM := Lib.hid (HYM.out.ext E12)
      replace B15 := Lib.hid (B15.out.ext E12)
      replace B19 := Lib.hid (B19.out.ext E12)
      clear E12
      go_wp2_with (first | ((with_reducible refine wpl_load 24 (.tmp 15) ?_ ?_ ((w6.heap.size + 1)) 0 [.bool bD.neg, .slice bD.limbs.A bD.limbs.l.length bD.limbs.c, .int .i64 bD.exp] ?_ ?_ ?_ ?_); (exact rfl); (exact rfl); (exact rfl); (exact aggDyad); (exact (B15.out.ext (by repeat (first | exact Ext.refl _ | assumption | refine Ext.alloc' ?_ _ | refine Ext.drewN' ?_ _ | refine Ext.drew' ?_ | (refine Ext.trans ?_ (by assumption))))).row)) | ((with_reducible refine wpl_load 24 (.tmp 19) ?_ ?_ (w10.heap.size) 0 [.bool yD.neg, .slice yD.limbs.A yD.limbs.l.length yD.limbs.c, .int .i64 yD.exp] ?_ ?_ ?_ ?_); (exact rfl); (exact rfl); (exact rfl); (exact aggDyad); (exact (B19.out.ext (by repeat (first | exact Ext.refl _ | assumption | refine Ext.alloc' ?_ _ | refine Ext.drewN' ?_ _ | refine Ext.drew' ?_ | (refine Ext.trans ?_ (by assumption))))).row)) | fail)
      refine (dyad_Cmp bD yD _ HBM.out HYM.out LB.out LY.out (by rw [HBD.out]; exact HP.out.ma.1) (by rw [HYD.out]; exact HP.out.ma.2)).mono ?_
      rw [HBD.out, HYD.out, HV2.out]
      rintro e w13 ⟨rfl, E13⟩
      replace HE6 := Lib.hid (HE6.out.trans E13)
      clear E13
      go_wp2_with fail
      go_ret
      exact ⟨rfl, HE6.out⟩
end Go.Proofs.YtgcbnagfdfgpnaaDoor
