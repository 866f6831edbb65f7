import Derived.Test.YtneooimijbfmgaaGreatProg
import Derived.KernelRfl
import Derived.Test.YtneooimijbfmgaaGreatCrAS
set_option linter.unusedVariables false
set_option linter.unusedSimpArgs false
set_option linter.unusedSectionVars false
/- Plain models: clocks, dyads, masses. -/
namespace Go.Vc
open Classical
def zClock : List D := [dn 0, dn 0, dn 0, dn 0, dn 0]
/-- a clock's tick -/
noncomputable def m_etick (c : List D) : List DV := if p_clock c then
    if gI c 1 = 2147483647 then [.a zClock, vb false, vn 10]
    else if gI c 0 ≤ gI c 1 + 1 - gI c 2 ∧ gI c 3 < 65535 then [.a [dn (gI c 0), dn (gI c 1 + 1), dn (gI c 1 + 1), dn (gI c 3 + 1), dn (gI c 4)], vb true, vn 0]
    else [.a [dn (gI c 0), dn (gI c 1 + 1), dn (gI c 2), dn (gI c 3), dn (gI c 4)], vb false, vn 0]
  else [.a zClock, vb false, vn 8]
theorem clock_b {x0 x1 x2 x3 x4 : Int} (h : p_clock [dn x0, dn x1, dn x2, dn x3, dn x4]) : 1 ≤ x0 ∧ x0 ≤ 64 ∧ 0 ≤ x2 ∧ x2 ≤ x1 ∧ x1 ≤ 2147483647 ∧ 0 ≤ x3 ∧ x3 ≤ 65535 ∧ 0 ≤ x4 ∧ x4 ≤ 65536 ∧ (x1 - x2 ≥ x0 → x3 = 65535) := h
theorem etick_no {c : List D} (h : ¬ p_clock c) : m_etick c = [.a zClock, vb false, vn 8] := if_neg h
theorem etick_max {x0 x1 x2 x3 x4 : Int} (h : p_clock [dn x0, dn x1, dn x2, dn x3, dn x4]) (h1 : x1 = 2147483647) : m_etick [dn x0, dn x1, dn x2, dn x3, dn x4] = [.a zClock, vb false, vn 10] := by
  unfold m_etick; rw [if_pos h]; exact if_pos h1
theorem etick_turn {x0 x1 x2 x3 x4 : Int} (h : p_clock [dn x0, dn x1, dn x2, dn x3, dn x4]) (h1 : x1 ≠ 2147483647) (h2 : x0 ≤ x1 + 1 - x2) (h3 : x3 < 65535) : m_etick [dn x0, dn x1, dn x2, dn x3, dn x4] = [.a [dn x0, dn (x1 + 1), dn (x1 + 1), dn (x3 + 1), dn x4], vb true, vn 0] := by
  unfold m_etick; rw [if_pos h]; exact (if_neg h1).trans (if_pos ⟨h2, h3⟩)
theorem etick_stay {x0 x1 x2 x3 x4 : Int} (h : p_clock [dn x0, dn x1, dn x2, dn x3, dn x4]) (h1 : x1 ≠ 2147483647) (h2 : ¬ (x0 ≤ x1 + 1 - x2 ∧ x3 < 65535)) : m_etick [dn x0, dn x1, dn x2, dn x3, dn x4] = [.a [dn x0, dn (x1 + 1), dn x2, dn x3, dn x4], vb false, vn 0] := by
  unfold m_etick; rw [if_pos h]; exact (if_neg h1).trans (if_neg h2)
/-- a number's dyad -/
def dyOf (n : Int) : List D := [db (decide (n < 0)), .fs (if n = 0 then [] else [[d32 n.natAbs]]), dn 0]
/-- a mass that begins -/
def massOf (v : Int) (first : Bool) : List D := [db (decide (v < 0)), .fs (if v = 0 then [] else [[d32 v.natAbs]]), dn 0, db false, .fs [[d32 1]], dn 0, db false, .fs (if first = true then [[d32 1]] else []), dn 0, db (decide (v < 0)), .fs (if v = 0 then [] else [[d32 v.natAbs]]), dn 0]
theorem e_timer_nil : e_timer [] = 0 := by
  unfold e_timer; rw [if_neg (by simp), if_pos (show upto _ _ from fun i hi => by simp at hi; omega)]
theorem e_desc_nil : e_desc [] = 0 := by
  unfold e_desc; rw [if_neg (by simp), if_pos (show upto _ _ from fun i hi => by simp at hi; omega)]
theorem nil_of {l : List (List D)} (h : l.length ≤ [].length (α := List D)) : l = [] := List.length_eq_zero_iff.1 (by simpa using h)
theorem nil_of0 {l : List (List D)} (h : l.length ≤ 0) : l = [] := List.length_eq_zero_iff.1 (by omega)
theorem shp_nil {ks : List Kd} : Shp ks [] := fun cs hc => by cases hc
theorem e_seen_nil : e_seen [] = 0 := by
  unfold e_seen; rw [if_neg (by simp), if_pos (show upto _ _ from fun i hi => by simp at hi; omega)]
theorem e_past_nil : e_past [] = 0 := by
  unfold e_past; rw [if_neg (by simp), if_pos (show upto _ _ from fun i hi => by simp at hi; omega)]
/-- tags -/
def u32 (x : Int) : Int := IntKind.wrap .u32 x
def fold1 (x : Int) (k : Int) : Int := bXor .u32 x (Int.fdiv x ((2 : Int) ^ min (Int.toNat k) (IntKind.bits .u32)))
def stir (x : Int) : Int := fold1 (u32 (fold1 (u32 (fold1 (u32 (x * 2654435769)) 15 * 2654435769)) 13 * 2654435769)) 16
/-- into a falling list -/
def insR (x : Int) : List Int → List Int
  | [] => [x]
  | y :: l => if x < y then y :: insR x l else x :: y :: l
def tagOf (e n j : Int) : Int := stir (u32 ((e * 8 + n) * 4 + j))
def m_tags (e n : Int) : List (List D) := ((insR (tagOf e n 3) (insR (tagOf e n 2) (insR (tagOf e n 1) [tagOf e n 0]))).reverse).map fun x => [d32 x]
theorem bx32 (x y : Int) : 0 ≤ bXor .u32 x y ∧ bXor .u32 x y ≤ 4294967295 := by
  have : ∀ z : Int, 0 ≤ IntKind.wrap .u32 z ∧ IntKind.wrap .u32 z ≤ 4294967295 := fun z => by
    have h1 : 0 ≤ z % 4294967296 := Int.emod_nonneg z (by decide)
    have h2 : z % 4294967296 < 4294967296 := Int.emod_lt_of_pos z (by decide)
    show 0 ≤ z % 4294967296 ∧ z % 4294967296 ≤ 4294967295
    omega
  exact this _
theorem tag_rng (e n j : Int) : 0 ≤ tagOf e n j ∧ tagOf e n j ≤ 4294967295 := by
  unfold tagOf stir fold1
  exact bx32 _ _
/-- so many tags -/
def tagsUp (e n i : Int) : List (List D) := (List.range i.toNat).map fun (j : Nat) => [d32 (tagOf e n (j : Int))]
theorem tagsUp_suc {e n i : Int} (h : 0 ≤ i) : tagsUp e n (i + 1) = tagsUp e n i ++ [[d32 (tagOf e n i)]] := by
  unfold tagsUp
  rw [show (i + 1).toNat = i.toNat + 1 by omega, List.range_succ, List.map_append]
  simp [show ((i.toNat : Nat) : Int) = i by omega]
theorem tagsUp_len {e n i : Int} : (tagsUp e n i).length = i.toNat := by simp [tagsUp]
theorem tag_i32 {e n j : Int} : DShs [s32] [d32 (tagOf e n j)] := dshs_cons.2 ⟨dsh_int.2 (rng32.2 (tag_rng e n j)), dshs_nil.2 trivial⟩
theorem tagOf_eq {e n j : Int} (h : 0 ≤ e ∧ e ≤ 65535) (h2 : 0 ≤ n ∧ n ≤ 7) (h3 : 0 ≤ j ∧ j < 4) : stir (IntKind.wrap .u32 (w64 (w64 (w64 (w64 (e * 8) + n) * 4) + j))) = tagOf e n j := by
  rw [w64_id (x := e * 8) (by omega) (by omega), w64_id (x := e * 8 + n) (by omega) (by omega), w64_id (x := (e * 8 + n) * 4) (by omega) (by omega), w64_id (by omega) (by omega)]
  rfl
/-- so many tags are there -/
def tgU (e n : Int) (l : List (List D)) (i : Int) : Prop := l = tagsUp e n i
theorem tgU.zero {e n : Int} : tgU e n [] 0 := rfl
theorem tgU.suc {e n i : Int} {l : List (List D)} (h : tgU e n l i) (hi : 0 ≤ i) : tgU e n (l ++ [[d32 (tagOf e n i)]]) (i + 1) := by unfold tgU at *; rw [h, tagsUp_suc hi]
theorem tgU.len {e n i : Int} {l : List (List D)} (h : tgU e n l i) : l.length = i.toNat := by unfold tgU at h; rw [h, tagsUp_len]
/-- the tags, those ahead of a place rising -/
def tgI (e n : Int) (l : List (List D)) (i : Int) : Prop := LS [s32] l ∧ l.length = 4 ∧ l.Perm (tagsUp e n 4) ∧ ∀ a b : Nat, a < b → (b : Int) < i → nth l a 0 ≤ nth l b 0
/-- .. while one of them goes down -/
def tgJ (e n : Int) (l : List (List D)) (i j : Int) : Prop := LS [s32] l ∧ l.length = 4 ∧ l.Perm (tagsUp e n 4) ∧ (∀ a b : Nat, a < b → (b : Int) ≤ i → (a : Int) ≠ j → (b : Int) ≠ j → nth l a 0 ≤ nth l b 0) ∧ ∀ b : Nat, j < b → (b : Int) ≤ i → nth l j.toNat 0 ≤ nth l b 0
theorem tgI.into {e n : Int} {l : List (List D)} {i : Int} (h : tgI e n l i) : tgJ e n l i i := by
  obtain ⟨h1, h2, h3, h4⟩ := h
  exact ⟨h1, h2, h3, fun a b ha hb hna hnb => h4 a b ha (by omega), fun b hb hb2 => by omega⟩
theorem tgJ.out {e n : Int} {l : List (List D)} {i j : Int} (h : tgJ e n l i j) (hj : 0 ≤ j) (hs : j = 0 ∨ nth l (j - 1).toNat 0 ≤ nth l j.toNat 0) : tgI e n l (i + 1) := by
  obtain ⟨h1, h2, h3, h4, h5⟩ := h
  refine ⟨h1, h2, h3, fun a b hab hb => ?_⟩
  by_cases ha : (a : Int) = j
  · have := h5 b (by omega) (by omega)
    rw [show j.toNat = a by omega] at this
    exact this
  · by_cases hbj : (b : Int) = j
    · rcases hs with hs | hs
      · omega
      · by_cases ha1 : (a : Int) = j - 1
        · rw [show (j - 1).toNat = a by omega, show j.toNat = b by omega] at hs; exact hs
        · have := h4 a (j - 1).toNat (by omega) (by omega) ha (by omega)
          rw [show j.toNat = b by omega] at hs
          exact Int.le_trans this hs
    · exact h4 a b hab (by omega) ha hbj
theorem nth_set {l : List (List D)} {k i : Nat} {c : List D} (h : k < l.length) : nth (l.set k c) i 0 = if i = k then gI c 0 else nth l i 0 := by
  unfold nth
  rw [List.getElem?_set]
  by_cases hk : k = i
  · subst hk; rw [if_pos rfl, if_pos h, if_pos rfl]; rfl
  · rw [if_neg hk, if_neg (Ne.symm hk)]
theorem tgJ.swap {e n : Int} {l : List (List D)} {i j a b : Int} (h : tgJ e n l i j) (hj : 0 < j) (hij : j ≤ i) (hi : i < 4) (ha : l[j.toNat]? = some [d32 a]) (hb : l[(j - 1).toNat]? = some [d32 b]) (hab : a < b) : tgJ e n ((l.set j.toNat [d32 b]).set (j - 1).toNat [d32 a]) i (j - 1) := by
  obtain ⟨h1, h2, h3, h4, h5⟩ := h
  have hjl : j.toNat < l.length := by omega
  have hjl2 : (j - 1).toNat < l.length := by omega
  have na : nth l j.toNat 0 = a := nth_1 ha
  have nb : nth l (j - 1).toNat 0 = b := nth_1 hb
  have key : ∀ q : Nat, nth ((l.set j.toNat [d32 b]).set (j - 1).toNat [d32 a]) q 0 = if q = (j - 1).toNat then a else if q = j.toNat then b else nth l q 0 := fun q => by
    rw [nth_set (by rw [List.length_set]; exact hjl2), nth_set hjl]
    rfl
  have da := h1.nth ha
  have db := h1.nth hb
  refine ⟨?_, by simp [h2], ?_, fun p q hpq hq hp hq2 => ?_, fun q hq hq2 => ?_⟩
  · exact LS.set (LS.set h1 (by omega) db) (by rw [List.length_set]; omega) da
  · have ea : l[j.toNat] = [d32 a] := (List.getElem?_eq_some_iff.1 ha).2
    have eb : l[(j - 1).toNat] = [d32 b] := (List.getElem?_eq_some_iff.1 hb).2
    have q := List.set_set_perm hjl hjl2
    rw [ea, eb] at q
    exact q.trans h3
  · rw [key p, key q, if_neg (show ¬ p = (j - 1).toNat by omega), if_neg (show ¬ q = (j - 1).toNat by omega)]
    by_cases e1 : p = j.toNat
    · have e2 : ¬ q = j.toNat := by omega
      rw [if_pos e1, if_neg e2]
      have := h4 (j - 1).toNat q (by omega) hq (by omega) (by omega)
      rw [nb] at this; exact this
    · rw [if_neg e1]
      by_cases e2 : q = j.toNat
      · rw [if_pos e2]
        have := h4 p (j - 1).toNat (by omega) (by omega) (by omega) (by omega)
        rw [nb] at this; exact this
      · rw [if_neg e2]; exact h4 p q hpq hq (by omega) (by omega)
  · rw [key (j - 1).toNat, key q, if_pos rfl, if_neg (show ¬ q = (j - 1).toNat by omega)]
    by_cases e1 : q = j.toNat
    · rw [if_pos e1]; omega
    · rw [if_neg e1]
      have := h5 q (by omega) hq2
      rw [na] at this; exact this
theorem tgI.of {e n : Int} : tgI e n (tagsUp e n 4) 1 := by
  refine ⟨?_, rfl, .refl _, fun a b h1 h2 => by omega⟩
  · refine LS.mk (by simp [tagsUp]) fun cs hc => ?_
    unfold tagsUp at hc
    obtain ⟨j, _, rfl⟩ := List.mem_map.1 hc
    exact dshs_cons.2 ⟨dsh_int.2 (rng32.2 (tag_rng e n j)), dshs_nil.2 trivial⟩
/-- the tags that are there, rising -/
def p_tags (e n : Int) (l : List (List D)) : Prop := l.length = 4 ∧ l.Perm (tagsUp e n 4) ∧ ∀ i j : Nat, i < j → j < 4 → nth l i 0 ≤ nth l j 0
theorem tgU.fin {e n i : Int} {l : List (List D)} (h : tgU e n l i) (hi : i = 4) : tgI e n l 1 := by unfold tgU at h; rw [h, hi]; exact tgI.of
theorem tgJ.shp {e n i j : Int} {l : List (List D)} (h : tgJ e n l i j) : Shp [Kd.int .u32] l := h.1.shp
theorem tgI.sh {e n i : Int} {l : List (List D)} (h : tgI e n l i) : LSh [s32] l := ⟨by rw [h.2.1]; decide, h.1⟩
theorem tgJ.len {e n i j : Int} {l : List (List D)} (h : tgJ e n l i j) : l.length = 4 := h.2.1
theorem tgJ.step {e n : Int} {l : List (List D)} {i j a b c d : Int} (hd : decide (a < b) = true) (h : tgJ e n l i j) (hj : 0 < j) (hij : j ≤ i) (hi : i < 4) (ha : l[j.toNat]? = some [d32 a]) (hb : l[(j - 1).toNat]? = some [d32 b]) (hc : l[(j - 1).toNat]? = some [d32 c]) (hd2 : l[j.toNat]? = some [d32 d]) : tgJ e n ((l.set j.toNat [d32 c]).set (j - 1).toNat [d32 d]) i (j - 1) := by
  have e1 : c = b := (nth_1 hc).symm.trans (nth_1 hb)
  have e2 : d = a := (nth_1 hd2).symm.trans (nth_1 ha)
  rw [e1, e2]
  exact h.swap hj hij hi ha hb (of_decide_eq_true hd)
theorem tgJ.stop {e n : Int} {l : List (List D)} {i j a b : Int} (hd : decide (a < b) = false) (h : tgJ e n l i j) (hj : 0 ≤ j) (ha : l[j.toNat]? = some [d32 a]) (hb : l[(j - 1).toNat]? = some [d32 b]) : tgI e n l (i + 1) := h.out hj (Or.inr (by
  rw [nth_1 ha, nth_1 hb]
  have := of_decide_eq_false hd
  omega))
theorem u64_len {n : Nat} (h : n ≤ 8) : 0 ≤ IntKind.u64.wrap (n : Int) ∧ IntKind.u64.wrap (n : Int) < 16 := by
  have : IntKind.u64.wrap (n : Int) = (n : Int) % 18446744073709551616 := rfl
  omega
theorem tgI.fin' {e n i : Int} {l : List (List D)} (h : tgI e n l i) (hi : i = 4) : p_tags e n l := by subst hi; exact ⟨h.2.1, h.2.2.1, fun i j h1 h2 => h.2.2.2 i j h1 (by omega)⟩
theorem tagsUp_mem {e n i : Int} {c : List D} (h : c ∈ tagsUp e n i) : ∃ x, c = [d32 x] := by
  unfold tagsUp at h
  obtain ⟨j, _, rfl⟩ := List.mem_map.1 h
  exact ⟨_, rfl⟩
/-- so they are told -/
theorem p_tags_one {e n : Int} {l r : List (List D)} (h : p_tags e n l) (h' : p_tags e n r) : l = r := by
  have pw : ∀ {l : List (List D)}, p_tags e n l → l.Pairwise fun c d => gI c 0 ≤ gI d 0 := fun {l} h => by
    rw [List.pairwise_iff_getElem]
    intro i j hi hj hij
    have := h.2.2 i j hij (by have := h.1; omega)
    simpa [nth, hi, hj] using this
  refine List.Perm.eq_of_pairwise (fun a b ha hb h1 h2 => ?_) (pw h) (pw h') (h.2.1.trans h'.2.1.symm)
  obtain ⟨x, rfl⟩ := tagsUp_mem (h.2.1.mem_iff.1 ha)
  obtain ⟨y, rfl⟩ := tagsUp_mem (h'.2.1.mem_iff.1 hb)
  have e : x = y := Int.le_antisymm h1 h2
  rw [e]
attribute [irreducible] tgU tgI tgJ
end Go.Vc

/- What a node that may be has, told in full. -/
namespace Go.Vc
theorem node_f {x0 x1 x3 x4 x5 x6 x7 x10 x13 x16 x19 x21 x22 x25 x26 x28 x29 : Int} {b2 b8 b11 b14 b17 b20 b24 : Bool} {l9 l12 l15 l18 l23 l27 l30 l31 l32 : List (List D)} (h : p_nodeW [dn x0, dn x1, db b2, dn x3, dn x4, dn x5, dn x6, dn x7, db b8, D.fs l9, dn x10, db b11, D.fs l12, dn x13, db b14, D.fs l15, dn x16, db b17, D.fs l18, dn x19, db b20, dn x21, dn x22, D.fs l23, db b24, dn x25, dn x26, D.fs l27, dn x28, dn x29, D.fs l30, D.fs l31, D.fs l32]) : 0 ≤ x0 ∧ x0 ≤ 7 ∧ (b2 = false → x1 = 0 ∧ x3 = 0 ∧ x4 = 0 ∧ x5 = 0 ∧ x6 = 0 ∧ x7 = 0 ∧ b8 = false ∧ l9 = [] ∧ x10 = 0 ∧ b11 = false ∧ l12 = [] ∧ x13 = 0 ∧ b14 = false ∧ l15 = [] ∧ x16 = 0 ∧ b17 = false ∧ l18 = [] ∧ x19 = 0 ∧ b20 = false ∧ x21 = 0 ∧ x22 = 0 ∧ l23 = [] ∧ b24 = false ∧ x25 = 0 ∧ x26 = 0 ∧ l27 = [] ∧ x28 = 0 ∧ x29 = 0 ∧ l30 = [] ∧ l31 = [] ∧ l32 = []) ∧ (b2 = true → -2147483647 ≤ x1 ∧ x1 ≤ 2147483647 ∧ p_clock [dn x3, dn x4, dn x5, dn x6, dn x7] ∧ p_part [db b8, D.fs l9, dn x10, db b11, D.fs l12, dn x13, db b14, D.fs l15, dn x16, db b17, D.fs l18, dn x19, db b20, dn x21, dn x22, D.fs l23] ∧ (¬ x7 ≤ x6 → [db b8, D.fs l9, dn x10, db b11, D.fs l12, dn x13, db b14, D.fs l15, dn x16, db b17, D.fs l18, dn x19, db b20, dn x21, dn x22, D.fs l23] = zPart) ∧ (b24 = false → x25 = 0 ∧ x26 = 0) ∧ (b24 = true → x7 ≤ x6 ∧ 0 ≤ x25 ∧ x25 ≤ 1048575 ∧ 0 ≤ x26 ∧ x26 < 8 ∧ x26 ≠ x0) ∧ e_seen l27 = 0 ∧ e_timer l32 = 0 ∧ x28 = x0 ∧ e_past l31 = 0 ∧ (0 < l31.length → nth l31 (l31.length - 1) 0 < x6) ∧ 1 ≤ x29 ∧ x29 ≤ 6 ∧ ((l30.length : Nat) : Int) ≤ x29) := by
  obtain ⟨h1, h2, h3, h4⟩ := h
  refine ⟨h1, h2, fun hb => ?_, fun hb => ?_⟩
  · have h5 := h3 hb
    simp only [downC, List.cons.injEq, D.raw.injEq, D.fs.injEq, Value.int.injEq, Value.bool.injEq, true_and, and_true] at h5
    obtain ⟨_, ex1, _, ex3, ex4, ex5, ex6, ex7, eb8, el9, ex10, eb11, el12, ex13, eb14, el15, ex16, eb17, el18, ex19, eb20, ex21, ex22, el23, eb24, ex25, ex26, el27, ex28, ex29, el30, el31, el32⟩ := h5
    exact ⟨ex1, ex3, ex4, ex5, ex6, ex7, eb8, el9, ex10, eb11, el12, ex13, eb14, el15, ex16, eb17, el18, ex19, eb20, ex21, ex22, el23, eb24, ex25, ex26, el27, ex28, ex29, el30, el31, el32⟩
  · obtain ⟨⟨⟨k1, k2⟩, k3, k4, k5, ⟨k6, k7⟩, k8, k9, k10, k11, k12⟩, k13, k14, k15⟩ := h4 hb
    exact ⟨k1, k2, k3, k4, k5, k6, k7, k8, k9, k10, k11, k12, k13, k14, k15⟩

/-- a node that is seeded, its tags being told -/
noncomputable def sded (a : List D) (f : Bool) (l : List (List D)) : List D := a.take 8 ++ massOf (gI a 1) f ++ [db true, dn (gI a 1), dn (gI a 1), .fs l] ++ a.drop 24
/-- may it be seeded? -/
def p_seed (a : List D) : Prop := p_nodeW a ∧ gB a 2 = true ∧ gI a 7 ≤ gI a 6 ∧ (a.drop 8).take 16 = zPart
/-- what Seed answers -/
def o_seed (a : List D) (f : Bool) (d : List D) (x : Int) : Prop := (x = 0 → p_nodeW a ∧ ∃ l, LSh [s32] l ∧ p_tags (gI a 6) (gI a 0) l ∧ d = sded a f l) ∧ (p_seed a → x = 0)
theorem o_seed.no {a d : List D} {f : Bool} {x : Int} (h : x ≠ 0) (h' : ¬ p_seed a) : o_seed a f d x := ⟨fun e => absurd e h, fun e => absurd e h'⟩
attribute [irreducible] o_seed
end Go.Vc

/- A node's tick, a new node; plain. -/
namespace Go.Vc
open Classical
def turnsC (a : List D) : Prop := gI a 3 ≤ gI a 4 + 1 - gI a 5 ∧ gI a 6 < 65535
/-- may it tick? -/
def p_tick (a : List D) : Prop := p_nodeW a ∧ gB a 2 = true ∧ gI a 4 ≠ 2147483647
/-- a tick that turns nothing -/
def stayC (a : List D) : List D := a.take 4 ++ [dn (gI a 4 + 1)] ++ a.drop 5
/-- its part in the next epoch -/
noncomputable def partT (a : List D) (f : Bool) (l : List (List D)) : List D := if gI a 7 ≤ gI a 6 + 1 then massOf (gI a 1) f ++ [db true, dn (gI a 1), dn (gI a 1), .fs l] else zPart
/-- what is frozen, nothing having been -/
noncomputable def pastT (a : List D) : List (List D) := if gI a 7 ≤ gI a 6 then [dn (gI a 6) :: partC a] else []
/-- a tick that turns its epoch -/
noncomputable def turnC (a : List D) (f : Bool) (l : List (List D)) : List D := a.take 4 ++ [dn (gI a 4 + 1), dn (gI a 4 + 1), dn (gI a 6 + 1), dn (gI a 7)] ++ partT a f l ++ [db false, dn 0, dn 0] ++ (a.drop 27).take 4 ++ [.fs (pastT a), .fs []]
/-- what Tick answers -/
def o_tick (a : List D) (f : Bool) (d : List D) (t : Bool) (x : Int) : Prop := (x = 0 → p_tick a) ∧ (p_tick a → x = 0 ∧ ((¬ turnsC a ∧ t = false ∧ d = stayC a) ∨ (turnsC a ∧ t = true ∧ ∃ l, LSh [s32] l ∧ (gI a 7 ≤ gI a 6 + 1 → p_tags (gI a 6 + 1) (gI a 0) l) ∧ d = turnC a f l)))
theorem o_tick.no {a d : List D} {f t : Bool} {x : Int} (h : x ≠ 0) (h' : ¬ p_tick a) : o_tick a f d t x := ⟨fun e => absurd e h, fun e => absurd e h'⟩
theorem o_tick.stay {a d : List D} {f : Bool} (h : p_tick a) (h1 : ¬ turnsC a) (hd : d = stayC a) : o_tick a f d false 0 := ⟨fun _ => h, fun _ => ⟨rfl, .inl ⟨h1, rfl, hd⟩⟩⟩
theorem o_tick.turn {a d : List D} {f : Bool} {l : List (List D)} (h : p_tick a) (h1 : turnsC a) (h2 : LSh [s32] l) (h3 : gI a 7 ≤ gI a 6 + 1 → p_tags (gI a 6 + 1) (gI a 0) l) (hd : d = turnC a f l) : o_tick a f d true 0 := ⟨fun _ => h, fun _ => ⟨rfl, .inr ⟨h1, rfl, l, h2, h3, hd⟩⟩⟩
theorem not_if8 {p : Prop} (h : ¬ (if p then (0 : Int) else 8) ≠ 0) : p := by
  by_cases hp : p
  · exact hp
  · rw [if_neg hp] at h; exact absurd (by decide) h
theorem not_if8' {p : Prop} {x : Int} (hx : x = if p then (0 : Int) else 8) (h : ¬ x ≠ 0) : p := not_if8 (hx ▸ h)
theorem if8 {p : Prop} (h : (if p then (0 : Int) else 8) ≠ 0) : ¬ p := fun hp => by rw [if_pos hp] at h; exact h rfl
theorem etick_out {x0 x1 x2 x3 x4 y0 y1 y2 y3 y4 x : Int} {t : Bool} (hp : p_clock [dn x0, dn x1, dn x2, dn x3, dn x4]) (h : [DV.a [dn y0, dn y1, dn y2, dn y3, dn y4], vb t, vn x] = m_etick [dn x0, dn x1, dn x2, dn x3, dn x4]) :
    (x1 = 2147483647 ∧ x = 10) ∨ (x1 ≠ 2147483647 ∧ x = 0 ∧ y0 = x0 ∧ y1 = x1 + 1 ∧ y4 = x4 ∧ ((t = true ∧ x0 ≤ x1 + 1 - x2 ∧ x3 < 65535 ∧ y2 = x1 + 1 ∧ y3 = x3 + 1) ∨ (t = false ∧ ¬ (x0 ≤ x1 + 1 - x2 ∧ x3 < 65535) ∧ y2 = x2 ∧ y3 = x3))) := by
  by_cases h1 : x1 = 2147483647
  · rw [etick_max hp h1] at h
    simp only [List.cons.injEq, DV.a.injEq, DV.c.injEq, D.raw.injEq, Value.int.injEq, Value.bool.injEq, true_and, and_true] at h
    exact .inl ⟨h1, h.2.2⟩
  · refine .inr ⟨h1, ?_⟩
    by_cases h2 : x0 ≤ x1 + 1 - x2 ∧ x3 < 65535
    · rw [etick_turn hp h1 h2.1 h2.2] at h
      simp only [List.cons.injEq, DV.a.injEq, DV.c.injEq, D.raw.injEq, Value.int.injEq, Value.bool.injEq, true_and, and_true] at h
      obtain ⟨⟨g0, g1, g2, g3, g4⟩, g5, g6⟩ := h
      exact ⟨g6, g0, g1, g4, .inl ⟨g5, h2.1, h2.2, g2, g3⟩⟩
    · rw [etick_stay hp h1 h2] at h
      simp only [List.cons.injEq, DV.a.injEq, DV.c.injEq, D.raw.injEq, Value.int.injEq, Value.bool.injEq, true_and, and_true] at h
      obtain ⟨⟨g0, g1, g2, g3, g4⟩, g5, g6⟩ := h
      exact ⟨g6, g0, g1, g4, .inr ⟨g5, h2, g2, g3⟩⟩
theorem turn_tt {x0 x1 x3 x4 x5 x6 x7 x10 x13 x16 x19 x21 x22 x25 x26 x28 x29 : Int} {b2 b8 b11 b14 b17 b20 b24 f : Bool} {l9 l12 l15 l18 l23 l27 l30 l31 l32 l : List (List D)} (h1 : x7 ≤ x6) (h2 : x7 ≤ x6 + 1) : [dn x0, dn x1, db b2, dn x3, dn (x4 + 1), dn (x4 + 1), dn (x6 + 1), dn x7] ++ (massOf x1 f ++ [db true, dn x1, dn x1, D.fs l]) ++ [db false, dn 0, dn 0, D.fs l27, dn x28, dn x29, D.fs l30, D.fs [dn x6 :: [db b8, D.fs l9, dn x10, db b11, D.fs l12, dn x13, db b14, D.fs l15, dn x16, db b17, D.fs l18, dn x19, db b20, dn x21, dn x22, D.fs l23]], D.fs []] = turnC [dn x0, dn x1, db b2, dn x3, dn x4, dn x5, dn x6, dn x7, db b8, D.fs l9, dn x10, db b11, D.fs l12, dn x13, db b14, D.fs l15, dn x16, db b17, D.fs l18, dn x19, db b20, dn x21, dn x22, D.fs l23, db b24, dn x25, dn x26, D.fs l27, dn x28, dn x29, D.fs l30, D.fs l31, D.fs l32] f l := by
  have e1 : pastT [dn x0, dn x1, db b2, dn x3, dn x4, dn x5, dn x6, dn x7, db b8, D.fs l9, dn x10, db b11, D.fs l12, dn x13, db b14, D.fs l15, dn x16, db b17, D.fs l18, dn x19, db b20, dn x21, dn x22, D.fs l23, db b24, dn x25, dn x26, D.fs l27, dn x28, dn x29, D.fs l30, D.fs l31, D.fs l32] = [dn x6 :: [db b8, D.fs l9, dn x10, db b11, D.fs l12, dn x13, db b14, D.fs l15, dn x16, db b17, D.fs l18, dn x19, db b20, dn x21, dn x22, D.fs l23]] := if_pos h1
  have e2 : partT [dn x0, dn x1, db b2, dn x3, dn x4, dn x5, dn x6, dn x7, db b8, D.fs l9, dn x10, db b11, D.fs l12, dn x13, db b14, D.fs l15, dn x16, db b17, D.fs l18, dn x19, db b20, dn x21, dn x22, D.fs l23, db b24, dn x25, dn x26, D.fs l27, dn x28, dn x29, D.fs l30, D.fs l31, D.fs l32] f l = massOf x1 f ++ [db true, dn x1, dn x1, D.fs l] := if_pos h2
  unfold turnC
  rw [e1, e2]
  rfl
theorem turn_ft {x0 x1 x3 x4 x5 x6 x7 x10 x13 x16 x19 x21 x22 x25 x26 x28 x29 : Int} {b2 b8 b11 b14 b17 b20 b24 f : Bool} {l9 l12 l15 l18 l23 l27 l30 l31 l32 l : List (List D)} (h1 : ¬ x7 ≤ x6) (h2 : x7 ≤ x6 + 1) : [dn x0, dn x1, db b2, dn x3, dn (x4 + 1), dn (x4 + 1), dn (x6 + 1), dn x7] ++ (massOf x1 f ++ [db true, dn x1, dn x1, D.fs l]) ++ [db false, dn 0, dn 0, D.fs l27, dn x28, dn x29, D.fs l30, D.fs [], D.fs []] = turnC [dn x0, dn x1, db b2, dn x3, dn x4, dn x5, dn x6, dn x7, db b8, D.fs l9, dn x10, db b11, D.fs l12, dn x13, db b14, D.fs l15, dn x16, db b17, D.fs l18, dn x19, db b20, dn x21, dn x22, D.fs l23, db b24, dn x25, dn x26, D.fs l27, dn x28, dn x29, D.fs l30, D.fs l31, D.fs l32] f l := by
  have e1 : pastT [dn x0, dn x1, db b2, dn x3, dn x4, dn x5, dn x6, dn x7, db b8, D.fs l9, dn x10, db b11, D.fs l12, dn x13, db b14, D.fs l15, dn x16, db b17, D.fs l18, dn x19, db b20, dn x21, dn x22, D.fs l23, db b24, dn x25, dn x26, D.fs l27, dn x28, dn x29, D.fs l30, D.fs l31, D.fs l32] = [] := if_neg h1
  have e2 : partT [dn x0, dn x1, db b2, dn x3, dn x4, dn x5, dn x6, dn x7, db b8, D.fs l9, dn x10, db b11, D.fs l12, dn x13, db b14, D.fs l15, dn x16, db b17, D.fs l18, dn x19, db b20, dn x21, dn x22, D.fs l23, db b24, dn x25, dn x26, D.fs l27, dn x28, dn x29, D.fs l30, D.fs l31, D.fs l32] f l = massOf x1 f ++ [db true, dn x1, dn x1, D.fs l] := if_pos h2
  unfold turnC
  rw [e1, e2]
  rfl
theorem turn_ff {x0 x1 x3 x4 x5 x6 x7 x10 x13 x16 x19 x21 x22 x25 x26 x28 x29 : Int} {b2 b8 b11 b14 b17 b20 b24 f : Bool} {l9 l12 l15 l18 l23 l27 l30 l31 l32 l : List (List D)} (h1 : ¬ x7 ≤ x6) (h2 : ¬ x7 ≤ x6 + 1) : [dn x0, dn x1, db b2, dn x3, dn (x4 + 1), dn (x4 + 1), dn (x6 + 1), dn x7] ++ zPart ++ [db false, dn 0, dn 0, D.fs l27, dn x28, dn x29, D.fs l30, D.fs [], D.fs []] = turnC [dn x0, dn x1, db b2, dn x3, dn x4, dn x5, dn x6, dn x7, db b8, D.fs l9, dn x10, db b11, D.fs l12, dn x13, db b14, D.fs l15, dn x16, db b17, D.fs l18, dn x19, db b20, dn x21, dn x22, D.fs l23, db b24, dn x25, dn x26, D.fs l27, dn x28, dn x29, D.fs l30, D.fs l31, D.fs l32] f l := by
  have e1 : pastT [dn x0, dn x1, db b2, dn x3, dn x4, dn x5, dn x6, dn x7, db b8, D.fs l9, dn x10, db b11, D.fs l12, dn x13, db b14, D.fs l15, dn x16, db b17, D.fs l18, dn x19, db b20, dn x21, dn x22, D.fs l23, db b24, dn x25, dn x26, D.fs l27, dn x28, dn x29, D.fs l30, D.fs l31, D.fs l32] = [] := if_neg h1
  have e2 : partT [dn x0, dn x1, db b2, dn x3, dn x4, dn x5, dn x6, dn x7, db b8, D.fs l9, dn x10, db b11, D.fs l12, dn x13, db b14, D.fs l15, dn x16, db b17, D.fs l18, dn x19, db b20, dn x21, dn x22, D.fs l23, db b24, dn x25, dn x26, D.fs l27, dn x28, dn x29, D.fs l30, D.fs l31, D.fs l32] f l = zPart := if_neg h2
  unfold turnC
  rw [e1, e2]
  rfl
theorem freeze_out {e x : Int} {p : List D} {l : List (List D)} (h : [vl l, vn x] = if 0 ≤ e ∧ e ≤ 65535 then (if p_part p then [vl [dn e :: p], vn 0] else [vl [], vn 8]) else [vl [], vn 2]) (h0 : 0 ≤ e) (h1 : e ≤ 65535) (hp : p_part p) : l = [dn e :: p] ∧ x = 0 := by
  rw [if_pos ⟨h0, h1⟩, if_pos hp] at h
  simp only [List.cons.injEq, DV.c.injEq, D.raw.injEq, D.fs.injEq, Value.int.injEq, true_and, and_true] at h
  exact h
theorem bno1 {b : Bool} (h1 : b = false) (h2 : b = true) : False := by rw [h1] at h2; cases h2
theorem bno2 {b : Bool} (h1 : b = true) (h2 : ¬ b = true) : False := h2 h1
theorem bnot {b : Bool} (h : ¬ b = false) : b = true := by cases b; exact absurd rfl h; rfl
/-- a node that is new -/
def newC (id x m : Int) (c : List D) : List D := [dn id, dn x, db true] ++ c ++ zPart ++ [db false, dn 0, dn 0, .fs [], dn id, dn m, .fs [], .fs [], .fs []]
def p_new (id x m : Int) (c : List D) : Prop := 0 ≤ id ∧ id ≤ 7 ∧ 1 ≤ m ∧ m ≤ 6 ∧ inV x ∧ p_clock c
noncomputable def m_new (id x m : Int) (c : List D) : List DV := if p_new id x m c then [.a (newC id x m c), vn 0] else [.a (downC 0), vn 2]
theorem new_no {id x m : Int} {c : List D} (h : ¬ p_new id x m c) : m_new id x m c = [.a (downC 0), vn 2] := if_neg h
theorem new_yes {id x m : Int} {c : List D} (h : p_new id x m c) : m_new id x m c = [.a (newC id x m c), vn 0] := if_pos h
theorem if8' {p : Prop} {x : Int} (hx : x = if p then (0 : Int) else 8) (h : x ≠ 0) : ¬ p := if8 (hx ▸ h)
end Go.Vc

/- Nodes that may be; the nodes of the chapter's example. -/
namespace Go.Vc
open Classical
theorem node_mk {x0 x1 x3 x4 x5 x6 x7 x10 x13 x16 x19 x21 x22 x25 x26 x28 x29 : Int} {b8 b11 b14 b17 b20 b24 : Bool} {l9 l12 l15 l18 l23 l27 l30 l31 l32 : List (List D)} (h0 : 0 ≤ x0) (h1 : x0 ≤ 7) (k : -2147483647 ≤ x1 ∧ x1 ≤ 2147483647 ∧ p_clock [dn x3, dn x4, dn x5, dn x6, dn x7] ∧ p_part [db b8, D.fs l9, dn x10, db b11, D.fs l12, dn x13, db b14, D.fs l15, dn x16, db b17, D.fs l18, dn x19, db b20, dn x21, dn x22, D.fs l23] ∧ (¬ x7 ≤ x6 → [db b8, D.fs l9, dn x10, db b11, D.fs l12, dn x13, db b14, D.fs l15, dn x16, db b17, D.fs l18, dn x19, db b20, dn x21, dn x22, D.fs l23] = zPart) ∧ (b24 = false → x25 = 0 ∧ x26 = 0) ∧ (b24 = true → x7 ≤ x6 ∧ 0 ≤ x25 ∧ x25 ≤ 1048575 ∧ 0 ≤ x26 ∧ x26 < 8 ∧ x26 ≠ x0) ∧ e_seen l27 = 0 ∧ e_timer l32 = 0 ∧ x28 = x0 ∧ e_past l31 = 0 ∧ (0 < l31.length → nth l31 (l31.length - 1) 0 < x6) ∧ 1 ≤ x29 ∧ x29 ≤ 6 ∧ ((l30.length : Nat) : Int) ≤ x29) :
    p_nodeW [dn x0, dn x1, db true, dn x3, dn x4, dn x5, dn x6, dn x7, db b8, D.fs l9, dn x10, db b11, D.fs l12, dn x13, db b14, D.fs l15, dn x16, db b17, D.fs l18, dn x19, db b20, dn x21, dn x22, D.fs l23, db b24, dn x25, dn x26, D.fs l27, dn x28, dn x29, D.fs l30, D.fs l31, D.fs l32] := by
  obtain ⟨k1, k2, k3, k4, k5, k6, k7, k8, k9, k10, k11, k12, k13, k14, k15⟩ := k
  exact ⟨h0, h1, fun h => Bool.noConfusion (show true = false from h), fun _ => ⟨up_mk ⟨⟨k1, k2⟩, k3, k4, k5, ⟨k6, k7⟩, k8, k9, k10, k11, k12⟩, k13, k14, k15⟩⟩
theorem e_least_nil : e_least [] = 0 := by
  unfold e_least; rw [if_neg (by simp), if_pos (show upto _ _ from fun i hi => by simp at hi; omega)]
theorem limb_one {v : Int} (h : v ≠ 0) : p_limb [[d32 v]] := ⟨by simp, fun _ => by show v ≠ 0; exact h⟩
theorem limb_nil : p_limb [] := ⟨by simp, fun h => by simp at h⟩
theorem dy_ok (v : Int) : p_dy (dyOf v) := by
  unfold dyOf
  by_cases h : v = 0
  · subst h
    exact ⟨limb_nil, by show (0 : Int) ≤ 0; omega, by show (0 : Int) ≤ 1024; omega, fun _ => ⟨rfl, by show decide ((0 : Int) < 0) = false; decide⟩, fun h => by simp [gL] at h⟩
  · rw [if_neg h]
    refine ⟨limb_one (by omega), by show (0 : Int) ≤ 0; omega, by show (0 : Int) ≤ 1024; omega, fun h => by simp [gL] at h, fun _ h => ?_⟩
    exact absurd (show (0 : Int) < 0 from h) (by omega)
theorem dy_fst (f : Bool) : p_dy [db false, .fs (if f = true then [[d32 1]] else []), dn 0] := by
  cases f
  · exact dy_ok 0
  · exact dy_ok 1
theorem part_of {v : Int} (f : Bool) {l : List (List D)} (hv : inV v) (hl : e_least l = 0) : p_part (massOf v f ++ [db true, dn v, dn v, .fs l]) :=
  ⟨⟨⟨dy_ok v, dy_ok 1, dy_fst f, dy_ok v⟩, rfl, fun h => by simp [massOf, gL] at h⟩, ⟨fun _ => ⟨hv, hv, Int.le_refl v⟩, fun h => Bool.noConfusion (show true = false from h)⟩, hl⟩
theorem part_z : p_part zPart := ⟨⟨⟨dy_ok 0, dy_ok 0, dy_ok 0, dy_ok 0⟩, rfl, fun _ => rfl⟩, ⟨fun h => Bool.noConfusion (show false = true from h), fun _ => ⟨rfl, rfl⟩⟩, e_least_nil⟩
/-- tags that differ may be -/
theorem tags_least {e n : Int} {l : List (List D)} (h : p_tags e n l) (hn : (tagsUp e n 4).Nodup) : e_least l = 0 := by
  obtain ⟨h1, h2, h3⟩ := h
  have hd : l.Nodup := h2.nodup_iff.2 hn
  unfold e_least
  rw [if_neg (by omega), if_pos]
  intro i hi h0
  have h4 := h3 (i - 1) i (by omega) (by omega)
  rcases Int.lt_or_eq_of_le h4 with h | h
  · exact h
  · exfalso
    have hi1 : i < l.length := by omega
    have hi0 : i - 1 < l.length := by omega
    have key : ∀ (k : Nat) (hk : k < l.length), l[k] = [d32 (nth l k 0)] := fun k hk => by
      obtain ⟨x, hx⟩ := tagsUp_mem (h2.mem_iff.1 (List.getElem_mem hk))
      rw [hx, nth_1 (show l[k]? = some [d32 x] by rw [List.getElem?_eq_getElem hk, hx])]
    have he : l[i - 1] = l[i] := by rw [key _ hi0, key _ hi1, h]
    have := (List.getElem_inj hd).1 he
    omega
theorem tags_ne {e n : Int} (h : tagOf e n 0 ≠ tagOf e n 1 ∧ tagOf e n 0 ≠ tagOf e n 2 ∧ tagOf e n 0 ≠ tagOf e n 3 ∧ tagOf e n 1 ≠ tagOf e n 2 ∧ tagOf e n 1 ≠ tagOf e n 3 ∧ tagOf e n 2 ≠ tagOf e n 3) : (tagsUp e n 4).Nodup := by
  show ([[d32 (tagOf e n 0)], [d32 (tagOf e n 1)], [d32 (tagOf e n 2)], [d32 (tagOf e n 3)]] : List (List D)).Nodup
  simp only [List.nodup_cons, List.mem_cons, List.cons.injEq, D.raw.injEq, Value.int.injEq, true_and, and_true, List.not_mem_nil, or_false, not_or, not_false_eq_true, List.nodup_nil]
  obtain ⟨h1, h2, h3, h4, h5, h6⟩ := h
  exact ⟨⟨h1, h2, h3⟩, ⟨h4, h5⟩, h6⟩
theorem tags_01 : (tagsUp 0 1 4).Nodup := tags_ne (by decide)
theorem tags_11 : (tagsUp 1 1 4).Nodup := tags_ne (by decide)
end Go.Vc

/- The nodes of the chapter's example. -/
namespace Go.Vc
open Classical
theorem may_A  : p_nodeW [dn 1, dn 5, db true, dn 2, dn 0, dn 0, dn 0, dn 0, db false, D.fs [], dn 0, db false, D.fs [], dn 0, db false, D.fs [], dn 0, db false, D.fs [], dn 0, db false, dn 0, dn 0, D.fs [], db false, dn 0, dn 0, D.fs [], dn 1, dn 3, D.fs [], D.fs [], D.fs []] := by
  refine node_mk (of_decide_eq_true rfl) (of_decide_eq_true rfl) ?_
  refine ⟨of_decide_eq_true rfl, of_decide_eq_true rfl, ?_, ?_, fun h => absurd (of_decide_eq_true rfl) h, fun _ => ⟨rfl, rfl⟩, fun h => Bool.noConfusion h, e_seen_nil, e_timer_nil, rfl, ?_, ?_, of_decide_eq_true rfl, of_decide_eq_true rfl, of_decide_eq_true rfl⟩
  · exact ⟨of_decide_eq_true rfl, of_decide_eq_true rfl, of_decide_eq_true rfl, of_decide_eq_true rfl, of_decide_eq_true rfl, of_decide_eq_true rfl, of_decide_eq_true rfl, of_decide_eq_true rfl, of_decide_eq_true rfl, fun h => absurd h (of_decide_eq_true rfl)⟩
  · exact part_z
  · exact e_past_nil
  · exact fun h => absurd h (of_decide_eq_true rfl)
theorem may_S {l : List (List D)} (h : p_tags 0 1 l) : p_nodeW [dn 1, dn 5, db true, dn 2, dn 0, dn 0, dn 0, dn 0, db false, D.fs [[d32 5]], dn 0, db false, D.fs [[d32 1]], dn 0, db false, D.fs [[d32 1]], dn 0, db false, D.fs [[d32 5]], dn 0, db true, dn 5, dn 5, D.fs l, db false, dn 0, dn 0, D.fs [], dn 1, dn 3, D.fs [], D.fs [], D.fs []] := by
  refine node_mk (of_decide_eq_true rfl) (of_decide_eq_true rfl) ?_
  refine ⟨of_decide_eq_true rfl, of_decide_eq_true rfl, ?_, ?_, fun h => absurd (of_decide_eq_true rfl) h, fun _ => ⟨rfl, rfl⟩, fun h => Bool.noConfusion h, e_seen_nil, e_timer_nil, rfl, ?_, ?_, of_decide_eq_true rfl, of_decide_eq_true rfl, of_decide_eq_true rfl⟩
  · exact ⟨of_decide_eq_true rfl, of_decide_eq_true rfl, of_decide_eq_true rfl, of_decide_eq_true rfl, of_decide_eq_true rfl, of_decide_eq_true rfl, of_decide_eq_true rfl, of_decide_eq_true rfl, of_decide_eq_true rfl, fun h => absurd h (of_decide_eq_true rfl)⟩
  · exact part_of (v := 5) true ⟨of_decide_eq_true rfl, of_decide_eq_true rfl⟩ (tags_least h tags_01)
  · exact e_past_nil
  · exact fun h => absurd h (of_decide_eq_true rfl)
theorem may_S1 {l : List (List D)} (h : p_tags 0 1 l) : p_nodeW [dn 1, dn 5, db true, dn 2, dn 1, dn 0, dn 0, dn 0, db false, D.fs [[d32 5]], dn 0, db false, D.fs [[d32 1]], dn 0, db false, D.fs [[d32 1]], dn 0, db false, D.fs [[d32 5]], dn 0, db true, dn 5, dn 5, D.fs l, db false, dn 0, dn 0, D.fs [], dn 1, dn 3, D.fs [], D.fs [], D.fs []] := by
  refine node_mk (of_decide_eq_true rfl) (of_decide_eq_true rfl) ?_
  refine ⟨of_decide_eq_true rfl, of_decide_eq_true rfl, ?_, ?_, fun h => absurd (of_decide_eq_true rfl) h, fun _ => ⟨rfl, rfl⟩, fun h => Bool.noConfusion h, e_seen_nil, e_timer_nil, rfl, ?_, ?_, of_decide_eq_true rfl, of_decide_eq_true rfl, of_decide_eq_true rfl⟩
  · exact ⟨of_decide_eq_true rfl, of_decide_eq_true rfl, of_decide_eq_true rfl, of_decide_eq_true rfl, of_decide_eq_true rfl, of_decide_eq_true rfl, of_decide_eq_true rfl, of_decide_eq_true rfl, of_decide_eq_true rfl, fun h => absurd h (of_decide_eq_true rfl)⟩
  · exact part_of (v := 5) true ⟨of_decide_eq_true rfl, of_decide_eq_true rfl⟩ (tags_least h tags_01)
  · exact e_past_nil
  · exact fun h => absurd h (of_decide_eq_true rfl)
theorem may_S2 {l r : List (List D)} (h : p_tags 0 1 l) (h2 : p_tags 1 1 r) : p_nodeW [dn 1, dn 5, db true, dn 2, dn 2, dn 2, dn 1, dn 0, db false, D.fs [[d32 5]], dn 0, db false, D.fs [[d32 1]], dn 0, db false, D.fs [], dn 0, db false, D.fs [[d32 5]], dn 0, db true, dn 5, dn 5, D.fs r, db false, dn 0, dn 0, D.fs [], dn 1, dn 3, D.fs [], D.fs [[dn 0, db false, D.fs [[d32 5]], dn 0, db false, D.fs [[d32 1]], dn 0, db false, D.fs [[d32 1]], dn 0, db false, D.fs [[d32 5]], dn 0, db true, dn 5, dn 5, D.fs l]], D.fs []] := by
  refine node_mk (of_decide_eq_true rfl) (of_decide_eq_true rfl) ?_
  refine ⟨of_decide_eq_true rfl, of_decide_eq_true rfl, ?_, ?_, fun h => absurd (of_decide_eq_true rfl) h, fun _ => ⟨rfl, rfl⟩, fun h => Bool.noConfusion h, e_seen_nil, e_timer_nil, rfl, ?_, ?_, of_decide_eq_true rfl, of_decide_eq_true rfl, of_decide_eq_true rfl⟩
  · exact ⟨of_decide_eq_true rfl, of_decide_eq_true rfl, of_decide_eq_true rfl, of_decide_eq_true rfl, of_decide_eq_true rfl, of_decide_eq_true rfl, of_decide_eq_true rfl, of_decide_eq_true rfl, of_decide_eq_true rfl, fun h => absurd h (of_decide_eq_true rfl)⟩
  · exact part_of (v := 5) false ⟨of_decide_eq_true rfl, of_decide_eq_true rfl⟩ (tags_least h2 tags_11)
  · have hp : p_part [db false, D.fs [[d32 5]], dn 0, db false, D.fs [[d32 1]], dn 0, db false, D.fs [[d32 1]], dn 0, db false, D.fs [[d32 5]], dn 0, db true, dn 5, dn 5, D.fs l] := part_of (v := 5) true ⟨of_decide_eq_true rfl, of_decide_eq_true rfl⟩ (tags_least h tags_01)
    unfold e_past
    rw [if_neg (of_decide_eq_true rfl), if_pos]
    intro i hi
    have h0 : i = 0 := by simp at hi; omega
    subst h0
    exact ⟨of_decide_eq_true rfl, of_decide_eq_true rfl, hp⟩
  · exact fun _ => of_decide_eq_true rfl
theorem new_A : m_new 1 5 3 [dn 2, dn 0, dn 0, dn 0, dn 0] = [.a [dn 1, dn 5, db true, dn 2, dn 0, dn 0, dn 0, dn 0, db false, D.fs [], dn 0, db false, D.fs [], dn 0, db false, D.fs [], dn 0, db false, D.fs [], dn 0, db false, dn 0, dn 0, D.fs [], db false, dn 0, dn 0, D.fs [], dn 1, dn 3, D.fs [], D.fs [], D.fs []], vn 0] := new_yes ⟨of_decide_eq_true rfl, of_decide_eq_true rfl, of_decide_eq_true rfl, of_decide_eq_true rfl, ⟨of_decide_eq_true rfl, of_decide_eq_true rfl⟩, ⟨of_decide_eq_true rfl, of_decide_eq_true rfl, of_decide_eq_true rfl, of_decide_eq_true rfl, of_decide_eq_true rfl, of_decide_eq_true rfl, of_decide_eq_true rfl, of_decide_eq_true rfl, of_decide_eq_true rfl, fun h => absurd h (of_decide_eq_true rfl)⟩⟩
theorem seed_A {d : List D} {x : Int} (h : o_seed [dn 1, dn 5, db true, dn 2, dn 0, dn 0, dn 0, dn 0, db false, D.fs [], dn 0, db false, D.fs [], dn 0, db false, D.fs [], dn 0, db false, D.fs [], dn 0, db false, dn 0, dn 0, D.fs [], db false, dn 0, dn 0, D.fs [], dn 1, dn 3, D.fs [], D.fs [], D.fs []] true d x) : x = 0 ∧ ∃ l, LSh [s32] l ∧ p_tags 0 1 l ∧ d = [dn 1, dn 5, db true, dn 2, dn 0, dn 0, dn 0, dn 0, db false, D.fs [[d32 5]], dn 0, db false, D.fs [[d32 1]], dn 0, db false, D.fs [[d32 1]], dn 0, db false, D.fs [[d32 5]], dn 0, db true, dn 5, dn 5, D.fs l, db false, dn 0, dn 0, D.fs [], dn 1, dn 3, D.fs [], D.fs [], D.fs []] := by
  unfold o_seed at h
  have e := h.2 ⟨may_A, rfl, of_decide_eq_true rfl, rfl⟩
  obtain ⟨_, l, h1, h2, h3⟩ := h.1 e
  exact ⟨e, l, h1, h2, h3⟩
theorem tick_S {d : List D} {t : Bool} {x : Int} {l : List (List D)} (h : p_tags 0 1 l) (ho : o_tick [dn 1, dn 5, db true, dn 2, dn 0, dn 0, dn 0, dn 0, db false, D.fs [[d32 5]], dn 0, db false, D.fs [[d32 1]], dn 0, db false, D.fs [[d32 1]], dn 0, db false, D.fs [[d32 5]], dn 0, db true, dn 5, dn 5, D.fs l, db false, dn 0, dn 0, D.fs [], dn 1, dn 3, D.fs [], D.fs [], D.fs []] false d t x) : x = 0 ∧ t = false ∧ d = [dn 1, dn 5, db true, dn 2, dn 1, dn 0, dn 0, dn 0, db false, D.fs [[d32 5]], dn 0, db false, D.fs [[d32 1]], dn 0, db false, D.fs [[d32 1]], dn 0, db false, D.fs [[d32 5]], dn 0, db true, dn 5, dn 5, D.fs l, db false, dn 0, dn 0, D.fs [], dn 1, dn 3, D.fs [], D.fs [], D.fs []] := by
  obtain ⟨e, ho⟩ := ho.2 ⟨may_S h, rfl, of_decide_eq_true rfl⟩
  rcases ho with ⟨_, h2, h3⟩ | ⟨⟨h1, _⟩, _⟩
  · exact ⟨e, h2, h3⟩
  · exact absurd h1 (of_decide_eq_true rfl)
theorem tick_S1 {d : List D} {t : Bool} {x : Int} {l : List (List D)} (h : p_tags 0 1 l) (ho : o_tick [dn 1, dn 5, db true, dn 2, dn 1, dn 0, dn 0, dn 0, db false, D.fs [[d32 5]], dn 0, db false, D.fs [[d32 1]], dn 0, db false, D.fs [[d32 1]], dn 0, db false, D.fs [[d32 5]], dn 0, db true, dn 5, dn 5, D.fs l, db false, dn 0, dn 0, D.fs [], dn 1, dn 3, D.fs [], D.fs [], D.fs []] false d t x) : x = 0 ∧ t = true ∧ ∃ r, LSh [s32] r ∧ p_tags 1 1 r ∧ d = [dn 1, dn 5, db true, dn 2, dn 2, dn 2, dn 1, dn 0, db false, D.fs [[d32 5]], dn 0, db false, D.fs [[d32 1]], dn 0, db false, D.fs [], dn 0, db false, D.fs [[d32 5]], dn 0, db true, dn 5, dn 5, D.fs r, db false, dn 0, dn 0, D.fs [], dn 1, dn 3, D.fs [], D.fs [[dn 0, db false, D.fs [[d32 5]], dn 0, db false, D.fs [[d32 1]], dn 0, db false, D.fs [[d32 1]], dn 0, db false, D.fs [[d32 5]], dn 0, db true, dn 5, dn 5, D.fs l]], D.fs []] := by
  obtain ⟨e, ho⟩ := ho.2 ⟨may_S1 h, rfl, of_decide_eq_true rfl⟩
  rcases ho with ⟨h1, _⟩ | ⟨_, h2, r, h3, h4, h5⟩
  · exact absurd ⟨of_decide_eq_true rfl, of_decide_eq_true rfl⟩ h1
  · exact ⟨e, h2, r, h3, h4 (of_decide_eq_true rfl), h5⟩
theorem ls_1 {v : Int} (h0 : 0 ≤ v) (h1 : v ≤ 4294967295) : LSh [s32] [[d32 v]] := ⟨of_decide_eq_true rfl, .mk (of_decide_eq_true rfl) fun cs hc => by
  rw [List.mem_singleton] at hc
  subst hc
  exact dshs_cons.2 ⟨dsh_int.2 ⟨h0, h1⟩, dshs_nil.2 trivial⟩⟩
theorem ls_5 : LSh [s32] [[d32 5]] := ls_1 (of_decide_eq_true rfl) (of_decide_eq_true rfl)
theorem ls_one : LSh [s32] [[d32 1]] := ls_1 (of_decide_eq_true rfl) (of_decide_eq_true rfl)
theorem dec_no {p : Prop} [Decidable p] (hp : p) (h : decide p = false) : False := by rw [decide_eq_true hp] at h; cases h
theorem sh_F {l : List (List D)} (hl : l.length ≤ 9223372036854775807 ∧ LS [s32] l) : DShs frozS [dn 0, db false, D.fs [[d32 5]], dn 0, db false, D.fs [[d32 1]], dn 0, db false, D.fs [[d32 1]], dn 0, db false, D.fs [[d32 5]], dn 0, db true, dn 5, dn 5, D.fs l] := by
  obtain ⟨h1, h2⟩ := hl
  simp only [dshs_cons, dshs_nil, dsh_int, dsh_bool, dsh_sl, rng64, true_and, and_true]
  repeat' apply And.intro
  all_goals first
    | exact of_decide_eq_true rfl
    | exact ls_nil
    | exact ls_5.2
    | exact ls_one.2
    | assumption
theorem ls_F {l : List (List D)} (hl : l.length ≤ 9223372036854775807 ∧ LS [s32] l) : LSh frozS [[dn 0, db false, D.fs [[d32 5]], dn 0, db false, D.fs [[d32 1]], dn 0, db false, D.fs [[d32 1]], dn 0, db false, D.fs [[d32 5]], dn 0, db true, dn 5, dn 5, D.fs l]] := ⟨of_decide_eq_true rfl, .mk (of_decide_eq_true rfl) fun cs hc => by
  rw [List.mem_singleton] at hc
  subst hc
  exact sh_F hl⟩
theorem sh_F1 {r : List (List D)} (hl : r.length ≤ 9223372036854775807 ∧ LS [s32] r) : DShs frozS [dn 1, db false, D.fs [[d32 5]], dn 0, db false, D.fs [[d32 1]], dn 0, db false, D.fs [], dn 0, db false, D.fs [[d32 5]], dn 0, db true, dn 5, dn 5, D.fs r] := by
  obtain ⟨h1, h2⟩ := hl
  simp only [dshs_cons, dshs_nil, dsh_int, dsh_bool, dsh_sl, rng64, true_and, and_true]
  repeat' apply And.intro
  all_goals first
    | exact of_decide_eq_true rfl
    | exact ls_nil
    | exact ls_5.2
    | exact ls_one.2
    | assumption
theorem ls_F2 {l r : List (List D)} (hl : l.length ≤ 9223372036854775807 ∧ LS [s32] l) (hr : r.length ≤ 9223372036854775807 ∧ LS [s32] r) : LS frozS ([[dn 0, db false, D.fs [[d32 5]], dn 0, db false, D.fs [[d32 1]], dn 0, db false, D.fs [[d32 1]], dn 0, db false, D.fs [[d32 5]], dn 0, db true, dn 5, dn 5, D.fs l]] ++ [[dn 1, db false, D.fs [[d32 5]], dn 0, db false, D.fs [[d32 1]], dn 0, db false, D.fs [], dn 0, db false, D.fs [[d32 5]], dn 0, db true, dn 5, dn 5, D.fs r]]) := .mk (of_decide_eq_true rfl) fun cs hc => by
  rcases List.mem_append.1 hc with hc | hc
  · rw [List.mem_singleton] at hc; subst hc; exact sh_F hl
  · rw [List.mem_singleton] at hc; subst hc; exact sh_F1 hr
theorem sh_A : DShs nodeS [dn 1, dn 5, db true, dn 2, dn 0, dn 0, dn 0, dn 0, db false, D.fs [], dn 0, db false, D.fs [], dn 0, db false, D.fs [], dn 0, db false, D.fs [], dn 0, db false, dn 0, dn 0, D.fs [], db false, dn 0, dn 0, D.fs [], dn 1, dn 3, D.fs [], D.fs [], D.fs []] := by
  simp only [dshs_cons, dshs_nil, dsh_int, dsh_bool, dsh_sl, rng64, true_and, and_true]
  repeat' apply And.intro
  all_goals first
    | exact of_decide_eq_true rfl
    | exact ls_nil
    | exact ls_5.2
    | exact ls_one.2
    | assumption
theorem sh_S {l : List (List D)} (hl : l.length ≤ 9223372036854775807 ∧ LS [s32] l) : DShs nodeS [dn 1, dn 5, db true, dn 2, dn 0, dn 0, dn 0, dn 0, db false, D.fs [[d32 5]], dn 0, db false, D.fs [[d32 1]], dn 0, db false, D.fs [[d32 1]], dn 0, db false, D.fs [[d32 5]], dn 0, db true, dn 5, dn 5, D.fs l, db false, dn 0, dn 0, D.fs [], dn 1, dn 3, D.fs [], D.fs [], D.fs []] := by
  obtain ⟨h1, h2⟩ := hl
  simp only [dshs_cons, dshs_nil, dsh_int, dsh_bool, dsh_sl, rng64, true_and, and_true]
  repeat' apply And.intro
  all_goals first
    | exact of_decide_eq_true rfl
    | exact ls_nil
    | exact ls_5.2
    | exact ls_one.2
    | assumption
theorem sh_S1 {l : List (List D)} (hl : l.length ≤ 9223372036854775807 ∧ LS [s32] l) : DShs nodeS [dn 1, dn 5, db true, dn 2, dn 1, dn 0, dn 0, dn 0, db false, D.fs [[d32 5]], dn 0, db false, D.fs [[d32 1]], dn 0, db false, D.fs [[d32 1]], dn 0, db false, D.fs [[d32 5]], dn 0, db true, dn 5, dn 5, D.fs l, db false, dn 0, dn 0, D.fs [], dn 1, dn 3, D.fs [], D.fs [], D.fs []] := by
  obtain ⟨h1, h2⟩ := hl
  simp only [dshs_cons, dshs_nil, dsh_int, dsh_bool, dsh_sl, rng64, true_and, and_true]
  repeat' apply And.intro
  all_goals first
    | exact of_decide_eq_true rfl
    | exact ls_nil
    | exact ls_5.2
    | exact ls_one.2
    | assumption
theorem sh_S2 {l r : List (List D)} (hl : l.length ≤ 9223372036854775807 ∧ LS [s32] l) (hr : r.length ≤ 9223372036854775807 ∧ LS [s32] r) : DShs nodeS [dn 1, dn 5, db true, dn 2, dn 2, dn 2, dn 1, dn 0, db false, D.fs [[d32 5]], dn 0, db false, D.fs [[d32 1]], dn 0, db false, D.fs [], dn 0, db false, D.fs [[d32 5]], dn 0, db true, dn 5, dn 5, D.fs r, db false, dn 0, dn 0, D.fs [], dn 1, dn 3, D.fs [], D.fs [[dn 0, db false, D.fs [[d32 5]], dn 0, db false, D.fs [[d32 1]], dn 0, db false, D.fs [[d32 1]], dn 0, db false, D.fs [[d32 5]], dn 0, db true, dn 5, dn 5, D.fs l]], D.fs []] := by
  have hf := (ls_F hl).2
  obtain ⟨h1, h2⟩ := hl
  obtain ⟨h3, h4⟩ := hr
  simp only [dshs_cons, dshs_nil, dsh_int, dsh_bool, dsh_sl, rng64, true_and, and_true]
  repeat' apply And.intro
  all_goals first
    | exact of_decide_eq_true rfl
    | exact ls_nil
    | exact ls_5.2
    | exact ls_one.2
    | assumption
theorem sh_D : DShs nodeS [dn 1, dn 0, db false, dn 0, dn 0, dn 0, dn 0, dn 0, db false, D.fs [], dn 0, db false, D.fs [], dn 0, db false, D.fs [], dn 0, db false, D.fs [], dn 0, db false, dn 0, dn 0, D.fs [], db false, dn 0, dn 0, D.fs [], dn 0, dn 0, D.fs [], D.fs [], D.fs []] := by
  simp only [dshs_cons, dshs_nil, dsh_int, dsh_bool, dsh_sl, rng64, true_and, and_true]
  repeat' apply And.intro
  all_goals first
    | exact of_decide_eq_true rfl
    | exact ls_nil
    | exact ls_5.2
    | exact ls_one.2
    | assumption
theorem sh_M : DShs massS [db false, D.fs [[d32 5]], dn 0, db false, D.fs [[d32 1]], dn 0, db false, D.fs [[d32 1]], dn 0, db false, D.fs [[d32 5]], dn 0] := by
  simp only [dshs_cons, dshs_nil, dsh_int, dsh_bool, dsh_sl, rng64, true_and, and_true]
  repeat' apply And.intro
  all_goals first
    | exact of_decide_eq_true rfl
    | exact ls_nil
    | exact ls_5.2
    | exact ls_one.2
    | assumption
theorem sh_C : DShs clockS [dn 2, dn 0, dn 0, dn 0, dn 0] := by
  simp only [dshs_cons, dshs_nil, dsh_int, dsh_bool, dsh_sl, rng64, true_and, and_true]
  repeat' apply And.intro
  all_goals first
    | exact of_decide_eq_true rfl
    | exact ls_nil
    | exact ls_5.2
    | exact ls_one.2
    | assumption
end Go.Vc

/- A new life that waits for its epoch. -/
namespace Go.Vc
open Classical
/-- a new node behind so many ticks -/
def agC (i id x m ep : Int) : List D := [dn id, dn x, db true, dn 64, dn i, dn 0, dn ep, dn (ep + 1), db false, D.fs [], dn 0, db false, D.fs [], dn 0, db false, D.fs [], dn 0, db false, D.fs [], dn 0, db false, dn 0, dn 0, D.fs [], db false, dn 0, dn 0, D.fs [], dn id, dn m, D.fs [], D.fs [], D.fs []]
def p_ag (id x m ep : Int) : Prop := 0 ≤ id ∧ id ≤ 7 ∧ 1 ≤ m ∧ m ≤ 6 ∧ inV x ∧ 0 ≤ ep ∧ ep ≤ 65535
theorem may_ag {i id x m ep : Int} (h : p_ag id x m ep) (h0 : 0 ≤ i) (h1 : i ≤ 63) : p_nodeW (agC i id x m ep) := by
  obtain ⟨g1, g2, g3, g4, ⟨g5, g6⟩, g7, g8⟩ := h
  unfold agC
  refine node_mk g1 g2 ⟨g5, g6, ?_, part_z, fun _ => rfl, fun _ => ⟨rfl, rfl⟩, fun h => Bool.noConfusion h, e_seen_nil, e_timer_nil, rfl, e_past_nil, fun h => absurd h (by decide), g3, g4, by show ((0 : Nat) : Int) ≤ m; omega⟩
  show (1 : Int) ≤ 64 ∧ (64 : Int) ≤ 64 ∧ (0 : Int) ≤ 0 ∧ 0 ≤ i ∧ i ≤ 2147483647 ∧ 0 ≤ ep ∧ ep ≤ 65535 ∧ 0 ≤ ep + 1 ∧ ep + 1 ≤ 65536 ∧ (i - 0 ≥ 64 → ep = 65535)
  refine ⟨?_, ?_, ?_, ?_, ?_, ?_, ?_, ?_, ?_, ?_⟩ <;> omega
theorem tick_ag {i id x m ep : Int} {f : Bool} {d : List D} {t : Bool} {y : Int} (ho : o_tick (agC i id x m ep) f d t y) (h : p_ag id x m ep) (h0 : 0 ≤ i) (h1 : i < 63) : y = 0 ∧ t = false ∧ d = agC (i + 1) id x m ep := by
  obtain ⟨e, ho⟩ := ho.2 ⟨may_ag h h0 (by omega), rfl, by show i ≠ 2147483647; omega⟩
  rcases ho with ⟨_, h2, h3⟩ | ⟨⟨h4, _⟩, _⟩
  · exact ⟨e, h2, h3⟩
  · exact absurd (show (64 : Int) ≤ i + 1 - 0 from h4) (by omega)
theorem new_ag {id x m ep : Int} {c : List DV} (h : c = m_new id x m [dn 64, dn 0, dn 0, dn ep, dn (ep + 1)]) (hp : p_ag id x m ep) : c = [.a (agC 0 id x m ep), vn 0] := by
  obtain ⟨g1, g2, g3, g4, ⟨g5, g6⟩, g7, g8⟩ := hp
  rw [h]
  refine new_yes ⟨g1, g2, g3, g4, ⟨g5, g6⟩, ?_⟩
  show (1 : Int) ≤ 64 ∧ (64 : Int) ≤ 64 ∧ (0 : Int) ≤ 0 ∧ (0 : Int) ≤ 0 ∧ (0 : Int) ≤ 2147483647 ∧ 0 ≤ ep ∧ ep ≤ 65535 ∧ 0 ≤ ep + 1 ∧ ep + 1 ≤ 65536 ∧ ((0 : Int) - 0 ≥ 64 → ep = 65535)
  refine ⟨?_, ?_, ?_, ?_, ?_, ?_, ?_, ?_, ?_, ?_⟩ <;> omega
theorem sh_ag {i id x m ep : Int} (h : p_ag id x m ep) (h0 : 0 ≤ i) (h1 : i ≤ 63) : DShs nodeS (agC i id x m ep) := by
  obtain ⟨g1, g2, g3, g4, ⟨g5, g6⟩, g7, g8⟩ := h
  unfold agC
  simp only [dshs_cons, dshs_nil, dsh_int, dsh_bool, dsh_sl, rng64, true_and, and_true]
  repeat' apply And.intro
  all_goals first
    | omega
    | exact of_decide_eq_true rfl
    | exact ls_nil
theorem sh_down {x : Int} (h0 : 0 ≤ x) (h1 : x ≤ 7) : DShs nodeS [dn x, dn 0, db false, dn 0, dn 0, dn 0, dn 0, dn 0, db false, D.fs [], dn 0, db false, D.fs [], dn 0, db false, D.fs [], dn 0, db false, D.fs [], dn 0, db false, dn 0, dn 0, D.fs [], db false, dn 0, dn 0, D.fs [], dn 0, dn 0, D.fs [], D.fs [], D.fs []] := by
  simp only [dshs_cons, dshs_nil, dsh_int, dsh_bool, dsh_sl, rng64, true_and, and_true]
  repeat' apply And.intro
  all_goals first
    | omega
    | exact of_decide_eq_true rfl
    | exact ls_nil
theorem sh_Z : DShs partS [db false, D.fs [], dn 0, db false, D.fs [], dn 0, db false, D.fs [], dn 0, db false, D.fs [], dn 0, db false, dn 0, dn 0, D.fs []] := by
  simp only [dshs_cons, dshs_nil, dsh_int, dsh_bool, dsh_sl, rng64, true_and, and_true]
  repeat' apply And.intro
  all_goals first
    | exact of_decide_eq_true rfl
    | exact ls_nil
theorem sh_clk {ep : Int} (h0 : 0 ≤ ep) (h1 : ep ≤ 65535) : DShs clockS [dn 64, dn 0, dn 0, dn ep, dn (ep + 1)] := by
  simp only [dshs_cons, dshs_nil, dsh_int, dsh_bool, dsh_sl, rng64, true_and, and_true]
  repeat' apply And.intro
  all_goals omega
theorem LS.app1 {q : List Sh} {l : List (List D)} {c : List D} (h : LS q l) (hn : l.length ≤ 1048576) (hc : DShs q c) : LS q (l ++ [c]) := .mk (by rw [List.length_append, List.length_singleton]; omega) fun x hx => by
  rcases List.mem_append.1 hx with hx | hx
  · exact h.els x hx
  · rw [List.mem_singleton] at hx; subst hx; exact hc
/-- such a node, told cell by cell -/
def ag1 (i id x m ep : Int) (ds : List DV) : Prop := ds = vn i :: (agC i id x m ep).map DV.c
end Go.Vc

namespace Go.Vc
open Classical
noncomputable def f_epochCheck (aa : List DV) : List DV := [vn (if p_clock (ai aa 0) then 0 else 8)]
noncomputable def t_epochCheck : ConT := ⟨[rkS clockS], [kn], fun aa => DShs clockS (ai aa 0), fun aa rs => rs = f_epochCheck aa⟩
theorem fn_epochCheck : ∀ aa, t_epochCheck.pre aa → ∀ rs, t_epochCheck.post aa rs → rs = f_epochCheck aa := fun _ _ _ h => h
noncomputable def V_epochCheck : Prop := ∀ (x0 x1 x2 x3 x4 : Int), Ob (DShs clockS [dn x0, dn x1, dn x2, dn x3, dn x4]) → ∀ (R : List DV → Prop), Ob (∀ (res : List DV), res = [vn (if p_clock [dn x0, dn x1, dn x2, dn x3, dn x4] then (0 : Int) else (8 : Int))] → R res) → (x0 < (1 : Int) → Ob (R [vn (8 : Int)])) ∧ (¬x0 < (1 : Int) → (x0 > (64 : Int) → Ob (R [vn (8 : Int)])) ∧ (¬x0 > (64 : Int) → (x2 < (0 : Int) → Ob (R [vn (8 : Int)])) ∧ (¬x2 < (0 : Int) → (x2 > x1 → Ob (R [vn (8 : Int)])) ∧ (¬x2 > x1 → (x1 > (2147483647 : Int) → Ob (R [vn (8 : Int)])) ∧ (¬x1 > (2147483647 : Int) → (x3 < (0 : Int) → Ob (R [vn (8 : Int)])) ∧ (¬x3 < (0 : Int) → (x3 > (65535 : Int) → Ob (R [vn (8 : Int)])) ∧ (¬x3 > (65535 : Int) → (x4 < (0 : Int) → Ob (R [vn (8 : Int)])) ∧ (¬x4 < (0 : Int) → (x4 > (65536 : Int) → Ob (R [vn (8 : Int)])) ∧ (¬x4 > (65536 : Int) → ∀ (x6 : Int), x6 = w64 (x1 - x2) → (x6 ≥ x0 → (x3 ≠ (65535 : Int) → Ob (R [vn (8 : Int)])) ∧ (¬x3 ≠ (65535 : Int) → Ob (R [vn (0 : Int)]))) ∧ (¬x6 ≥ x0 → Ob (R [vn (0 : Int)])))))))))))
set_option maxRecDepth 100000 in
theorem vcEq_epochCheck : vcFn Go.Proofs.Tryz.prog k0 (cxf [] [] [] []) 3000 109 Go.Proofs.Tryz.f109 (bodyOf Go.Proofs.Tryz.f109) t_epochCheck = V_epochCheck := by kernel_rfl
set_option maxHeartbeats 4000000 in
set_option maxRecDepth 20000 in
theorem vcPf_epochCheck : V_epochCheck := by
  delta V_epochCheck
  simp only [ob_iff, and_imp, List.cons_append, List.nil_append, dshs_cons, dshs_nil, dsh_int, dsh_bool, dsh_sl, rng64, rng32, true_and, and_true, List.cons.injEq, DV.c.injEq, DV.a.injEq, D.raw.injEq, D.fs.injEq, Value.bool.injEq, Value.int.injEq]
  repeat' first | assumption | exact DShs.tail (DSh_nth (by assumption) (by assumption)) | exact shp32 (by assumption) | exact shp64 (by assumption) | exact shp2 (by assumption) | exact shpF (by assumption) | with_reducible intro _ | with_reducible apply And.intro
  all_goals (try (have e := w64_id' ‹_ = w64 (_ - _)› (by omega) (by omega); subst e))
  all_goals first
    | assumption
    | omega
    | (apply ‹∀ res : List DV, _ = _ → _›; simp [p_clock, gI]; try omega)

theorem con_epochCheck : Con Go.Proofs.Tryz.prog k0 109 t_epochCheck :=
  con_of (cxf_ok mixOk (fun p hp => by cases hp) (fun p hp => by cases hp)) Go.Proofs.Tryz.func109 rfl rfl rfl rfl vcEq_epochCheck vcPf_epochCheck
end Go.Vc

namespace Go.Vc
open Classical
noncomputable def f_nodeNew (aa : List DV) : List DV := m_new (ni aa 0) (ni aa 1) (ni aa 2) (ai aa 3)
noncomputable def t_nodeNew : ConT := ⟨[kn, kn, kn, rkS clockS], [rkS nodeS, kn], fun aa => DShs clockS (ai aa 3), fun aa rs => rs = f_nodeNew aa⟩
theorem fn_nodeNew : ∀ aa, t_nodeNew.pre aa → ∀ rs, t_nodeNew.post aa rs → rs = f_nodeNew aa := fun _ _ _ h => h
noncomputable def V_nodeNew : Prop := ∀ (x0 x1 x2 x3 x4 x5 x6 x7 : Int), Ob (DShs clockS [dn x3, dn x4, dn x5, dn x6, dn x7]) → ∀ (R : List DV → Prop), Ob (∀ (res : List DV), res = m_new x0 x1 x2 [dn x3, dn x4, dn x5, dn x6, dn x7] → R res) → (x0 < (0 : Int) → Ob (R [DV.a [dn (0 : Int), dn (0 : Int), db false, dn (0 : Int), dn (0 : Int), dn (0 : Int), dn (0 : Int), dn (0 : Int), db false, D.fs [], dn (0 : Int), db false, D.fs [], dn (0 : Int), db false, D.fs [], dn (0 : Int), db false, D.fs [], dn (0 : Int), db false, dn (0 : Int), dn (0 : Int), D.fs [], db false, dn (0 : Int), dn (0 : Int), D.fs [], dn (0 : Int), dn (0 : Int), D.fs [], D.fs [], D.fs []], vn (2 : Int)])) ∧ (¬x0 < (0 : Int) → (x0 ≥ (8 : Int) → Ob (R [DV.a [dn (0 : Int), dn (0 : Int), db false, dn (0 : Int), dn (0 : Int), dn (0 : Int), dn (0 : Int), dn (0 : Int), db false, D.fs [], dn (0 : Int), db false, D.fs [], dn (0 : Int), db false, D.fs [], dn (0 : Int), db false, D.fs [], dn (0 : Int), db false, dn (0 : Int), dn (0 : Int), D.fs [], db false, dn (0 : Int), dn (0 : Int), D.fs [], dn (0 : Int), dn (0 : Int), D.fs [], D.fs [], D.fs []], vn (2 : Int)])) ∧ (¬x0 ≥ (8 : Int) → (x2 < (1 : Int) → Ob (R [DV.a [dn (0 : Int), dn (0 : Int), db false, dn (0 : Int), dn (0 : Int), dn (0 : Int), dn (0 : Int), dn (0 : Int), db false, D.fs [], dn (0 : Int), db false, D.fs [], dn (0 : Int), db false, D.fs [], dn (0 : Int), db false, D.fs [], dn (0 : Int), db false, dn (0 : Int), dn (0 : Int), D.fs [], db false, dn (0 : Int), dn (0 : Int), D.fs [], dn (0 : Int), dn (0 : Int), D.fs [], D.fs [], D.fs []], vn (2 : Int)])) ∧ (¬x2 < (1 : Int) → (x2 > (6 : Int) → Ob (R [DV.a [dn (0 : Int), dn (0 : Int), db false, dn (0 : Int), dn (0 : Int), dn (0 : Int), dn (0 : Int), dn (0 : Int), db false, D.fs [], dn (0 : Int), db false, D.fs [], dn (0 : Int), db false, D.fs [], dn (0 : Int), db false, D.fs [], dn (0 : Int), db false, dn (0 : Int), dn (0 : Int), D.fs [], db false, dn (0 : Int), dn (0 : Int), D.fs [], dn (0 : Int), dn (0 : Int), D.fs [], D.fs [], D.fs []], vn (2 : Int)])) ∧ (¬x2 > (6 : Int) → (x1 ≥ (-2147483647 : Int) → (x1 ≤ (2147483647 : Int) → Ob (DShs clockS [dn x3, dn x4, dn x5, dn x6, dn x7]) ∧ ∀ (x9 : Int), Ob ([vn x9] = [vn (if p_clock [dn x3, dn x4, dn x5, dn x6, dn x7] then (0 : Int) else (8 : Int))]) → (x9 ≠ (0 : Int) → Ob (R [DV.a [dn (0 : Int), dn (0 : Int), db false, dn (0 : Int), dn (0 : Int), dn (0 : Int), dn (0 : Int), dn (0 : Int), db false, D.fs [], dn (0 : Int), db false, D.fs [], dn (0 : Int), db false, D.fs [], dn (0 : Int), db false, D.fs [], dn (0 : Int), db false, dn (0 : Int), dn (0 : Int), D.fs [], db false, dn (0 : Int), dn (0 : Int), D.fs [], dn (0 : Int), dn (0 : Int), D.fs [], D.fs [], D.fs []], vn (2 : Int)])) ∧ (¬x9 ≠ (0 : Int) → Ob (R [DV.a [dn x0, dn x1, db true, dn x3, dn x4, dn x5, dn x6, dn x7, db false, D.fs [], dn (0 : Int), db false, D.fs [], dn (0 : Int), db false, D.fs [], dn (0 : Int), db false, D.fs [], dn (0 : Int), db false, dn (0 : Int), dn (0 : Int), D.fs [], db false, dn (0 : Int), dn (0 : Int), D.fs [], dn x0, dn x2, D.fs [], D.fs [], D.fs []], vn (0 : Int)]))) ∧ (¬x1 ≤ (2147483647 : Int) → Ob (R [DV.a [dn (0 : Int), dn (0 : Int), db false, dn (0 : Int), dn (0 : Int), dn (0 : Int), dn (0 : Int), dn (0 : Int), db false, D.fs [], dn (0 : Int), db false, D.fs [], dn (0 : Int), db false, D.fs [], dn (0 : Int), db false, D.fs [], dn (0 : Int), db false, dn (0 : Int), dn (0 : Int), D.fs [], db false, dn (0 : Int), dn (0 : Int), D.fs [], dn (0 : Int), dn (0 : Int), D.fs [], D.fs [], D.fs []], vn (2 : Int)]))) ∧ (¬x1 ≥ (-2147483647 : Int) → Ob (R [DV.a [dn (0 : Int), dn (0 : Int), db false, dn (0 : Int), dn (0 : Int), dn (0 : Int), dn (0 : Int), dn (0 : Int), db false, D.fs [], dn (0 : Int), db false, D.fs [], dn (0 : Int), db false, D.fs [], dn (0 : Int), db false, D.fs [], dn (0 : Int), db false, dn (0 : Int), dn (0 : Int), D.fs [], db false, dn (0 : Int), dn (0 : Int), D.fs [], dn (0 : Int), dn (0 : Int), D.fs [], D.fs [], D.fs []], vn (2 : Int)]))))))
set_option maxRecDepth 100000 in
theorem vcEq_nodeNew : vcFn Go.Proofs.Tryz.prog k0 (cxf [(109, t_epochCheck)] [] [] [(109, f_epochCheck)]) 3000 29 Go.Proofs.Tryz.f29 (bodyOf Go.Proofs.Tryz.f29) t_nodeNew = V_nodeNew := by kernel_rfl
set_option maxHeartbeats 4000000 in
set_option maxRecDepth 20000 in
theorem vcPf_nodeNew : V_nodeNew := by
  delta V_nodeNew
  simp only [ob_iff, and_imp, forall_exists_index, true_and, and_true, List.cons.injEq, DV.c.injEq, DV.a.injEq, D.raw.injEq, D.fs.injEq, Value.bool.injEq, Value.int.injEq]
  intro x0 x1 x2 x3 x4 x5 x6 x7 hs R hR
  repeat' first | assumption | exact DShs.tail (DSh_nth (by assumption) (by assumption)) | exact shp32 (by assumption) | exact shp64 (by assumption) | exact shp2 (by assumption) | exact shpF (by assumption) | with_reducible intro _ | with_reducible apply And.intro
  all_goals first
    | (refine hR _ (Eq.symm (new_yes ?_))
       refine ⟨by omega, by omega, by omega, by omega, ⟨by omega, by omega⟩, ?_⟩
       exact not_if8' (by assumption) (by assumption))
    | (refine hR _ (new_no fun hp => ?_).symm
       obtain ⟨h1, h2, h3, h4, ⟨h5, h6⟩, h7⟩ := hp
       first
         | omega
         | exact if8' (by assumption) (by assumption) h7)

theorem con_nodeNew : Con Go.Proofs.Tryz.prog k0 29 t_nodeNew :=
  con_of (cxf_ok mixOk (fun p hp => by
    simp only [List.mem_cons, List.not_mem_nil, or_false] at hp
    subst hp
    exact con_epochCheck) (fun p hp => by
    simp only [List.mem_cons, List.not_mem_nil, or_false] at hp
    subst hp
    · intro t ht; cases ht; exact fn_epochCheck)) Go.Proofs.Tryz.func29 rfl rfl rfl rfl vcEq_nodeNew vcPf_nodeNew
end Go.Vc
