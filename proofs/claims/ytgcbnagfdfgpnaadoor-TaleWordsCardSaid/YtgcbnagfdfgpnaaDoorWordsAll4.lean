/- Parts of a proof, joined: Bits3, DyadP. -/
import Derived.Test.YtgcbnagfdfgpnaaDoorWordsAll18
import Derived.Test.YtgcbnagfdfgpnaaDoorWordsAll20
section
namespace Go.Hx
open Go.RowKit
abbrev B32 : Nat := 4294967296
theorem B32_pow (k : Nat) : B32 ^ k = 2 ^ (32 * k) := by rw [Nat.pow_mul]
/-- limbs -/
def Limbs (l : List Nat) : Prop := ∀ x ∈ l, x < B32
structure DigI (w : World) (a : List Nat) (k : Nat) (v : Value) (l : List Nat) (wr : World) : Prop where
  own : Go.Hx.Own wr w.heap.size 5 1 cU8 v l
  len : l.length = 32 * k
  bits : Bits l
  sum : val 2 l = val B32 (a.take k)
  ext : Ext w wr
structure DigJ (w : World) (a : List Nat) (k x m n : Nat) (v : Value) (l : List Nat) (wr : World) : Prop where
  own : Go.Hx.Own wr w.heap.size 5 1 cU8 v l
  len : l.length = 32 * k + m
  bits : Bits l
  sum : val 2 l = val B32 (a.take k) + 2 ^ (32 * k) * (x % 2 ^ m)
  left : n = x / 2 ^ m
  ext : Ext w wr
theorem DigI.begin {w wr : World} {a : List Nat} {k : Nat} {v : Value} {l : List Nat} (h : DigI w a k v l wr) (x : Nat) : DigJ w a k x 0 x v l wr :=
  ⟨h.own, h.len, h.bits, by rw [h.sum]; simp [Nat.mod_one], by simp, h.ext⟩
theorem DigJ.next {w wr w2 : World} {a : List Nat} {k x m n r2 r3 : Nat} {v v' : Value} {l : List Nat} (h : DigJ w a k x m n v l wr) (h2 : n % 2 = r2) (h3 : n / 2 = r3)
    (hown : Go.Hx.Own w2 w.heap.size 5 1 cU8 v' (l ++ [r2])) (hg : wr.grownBy w2 v.ownBlock) : DigJ w a k x (m + 1) r3 v' (l ++ [r2]) w2 := by
  subst h2 h3
  refine ⟨hown, by simp [h.len]; omega, bits_snoc h.bits (Nat.mod_lt _ (by omega)), ?_, ?_, Own.below h.own h.ext hg (Nat.le_refl _) h.ext.size⟩
  · rw [val_snoc, h.sum, h.len, Nat.pow_add, h.left, Nat.add_assoc, Nat.mul_assoc, ← Nat.mul_add, Nat.pow_succ, Nat.mod_mul]
  · rw [h.left, Nat.div_div_eq_div_mul, Nat.pow_succ]
theorem DigJ.done {w wr : World} {a : List Nat} {k x n : Nat} {v : Value} {l : List Nat} (h : DigJ w a k x 32 n v l wr) (hx : a[k]? = some x) (hlt : x < B32) : DigI w a (k + 1) v l wr :=
  ⟨h.own, by rw [h.len]; omega, h.bits, by rw [h.sum, val_take_succ hx, B32_pow, Nat.mod_eq_of_lt (by simpa using hlt)], h.ext⟩
structure LimI (w : World) (d : List Nat) (k : Nat) (v : Value) (l : List Nat) (wr : World) : Prop where
  own : Go.Hx.Own wr w.heap.size 33 1 cU32 v l
  len : l.length = k
  limbs : Limbs l
  sum : val B32 l = val 2 (d.take (32 * k))
  near : k = 0 ∨ 32 * (k - 1) < d.length
  ext : Ext w wr
theorem LimI.next {w wr w2 : World} {d : List Nat} {k n : Nat} {v v' : Value} {l : List Nat} (h : LimI w d k v l wr) (hlt : 32 * k < d.length) (hd : Bits d) (hn : n = val 2 ((d.drop (32 * k)).take 32))
    (hown : Go.Hx.Own w2 w.heap.size 33 1 cU32 v' (l ++ [n])) (hg : wr.grownBy w2 v.ownBlock) : LimI w d (k + 1) v' (l ++ [n]) w2 := by
  have hn2 : n < B32 := by
    rw [hn]
    refine Nat.lt_of_lt_of_le (val_lt _ fun x hx => hd x (List.mem_of_mem_drop (List.mem_of_mem_take hx))) ?_
    show 2 ^ _ ≤ 2 ^ 32
    exact Nat.pow_le_pow_right (by omega) (by rw [List.length_take]; omega)
  refine ⟨hown, by simp [h.len], fun x hx => ?_, ?_, .inr (by simpa using hlt), Own.below h.own h.ext hg (Nat.le_refl _) h.ext.size⟩
  · rcases List.mem_append.1 hx with hx | hx
    · exact h.limbs x hx
    · simp only [List.mem_singleton] at hx; rw [hx]; exact hn2
  · rw [val_snoc, h.sum, h.len, B32_pow, hn, show 32 * (k + 1) = 32 * k + 32 by omega, List.take_add, val_append, List.length_take, Nat.min_eq_left (by omega)]
theorem LimI.done {w wr : World} {n k : Nat} {v : Value} {l : List Nat} (h : LimI w (digs 2 n) k v l wr) (hk : (digs 2 n).length ≤ 32 * k) : l = digs B32 n := by
  have hs := h.sum
  rw [List.take_of_length_le hk, val_digs (by omega)] at hs
  rw [← hs]
  refine (digs_val (by decide) l h.limbs fun h0 => ?_).symm
  rcases h.near with hz | hz
  · have := h.len
    rw [hz] at this
    rw [List.eq_nil_of_length_eq_zero this] at h0
    cases h0
  · have hne : l ≠ [] := fun e => by rw [e] at h0; cases h0
    obtain ⟨m, hm⟩ : ∃ m, l = m ++ [0] := ⟨l.dropLast, by
      have := List.dropLast_concat_getLast hne
      rw [List.getLast?_eq_some_getLast hne] at h0
      injection h0 with h0
      rw [h0] at this
      exact this.symm⟩
    have hml : m.length = k - 1 := by have := h.len; rw [hm] at this; simp at this; omega
    have hv : val B32 l = val B32 m := by rw [hm, val_snoc]; simp
    have hlt : val B32 m < B32 ^ m.length := val_lt m fun x hx => h.limbs x (by rw [hm]; exact List.mem_append_left _ hx)
    rw [hml, B32_pow, ← hv, hs] at hlt
    have := (digs_length (b := 2) (by omega) n (32 * (k - 1))).2 hlt
    omega
/-- the bits from k to t as a number -/
theorem val_step {d : List Nat} {k t x : Nat} (h : d[k]? = some x) (hk : k < t) : val 2 ((d.drop k).take (t - k)) = x + 2 * val 2 ((d.drop (k + 1)).take (t - (k + 1))) := by
  have hlt := (List.getElem?_eq_some_iff.1 h).1
  have hx := (List.getElem?_eq_some_iff.1 h).2
  rw [List.drop_eq_getElem_cons hlt, hx, show t - k = (t - (k + 1)) + 1 by omega, List.take_succ_cons, val_cons]
end Go.Hx
namespace Go.Proofs.YtgcbnagfdfgpnaaDoor
open Go.RowKit Go.Hx
set_option maxRecDepth 100000 in
set_option maxHeartbeats 4000000 in
theorem ref01_Digits (x : LX Nat) (w : World) (hx : x.ok w w.heap.size cU32) (hb : Limbs x.l) (hl : x.l.length ≤ 1000) :
    Calls Tryd.prog 121 #[.slice x.A x.l.length x.c] w fun e w' => ∃ z : LX Nat, e = .returned (.slice z.A z.l.length z.c) ∧ z.l = digs 2 (val B32 x.l) ∧ Go.Hx.Own w' w.heap.size 5 1 cU8 (.slice z.A z.l.length z.c) z.l ∧ Ext w w' := by
  obtain ⟨l, A, c⟩ := x
  obtain ⟨hx, hx1, hx2⟩ := hx
  dsimp only at *
  unfold maxLen at hx2
  have HX := Lib.hid hx
  have HB := Lib.hid hb
  clear hx hb
  go_enter Tryd.func121, Tryd.ntmps121
  go_wp2_with fail
  go_loopw [3, 4] (fun v i wr => ∃ k : Nat, ∃ l', k ≤ l.length ∧ i = .int .i64 k ∧ Hid (DigI w l k v l' wr)) (fun _ i _ => l.length - (intOf i).toNat)
  case atStart => exact ⟨0, [], by omega, rfl, ⟨Go.Hx.Own.nil _ _ _ _ _, rfl, (fun _ h => by cases h), rfl, Ext.refl _⟩⟩
  case round =>
    obtain ⟨k, l', hk, rfl, HI⟩ := hrel
    by_cases hlt : k < l.length
    · obtain ⟨b, off, rfl, _, r⟩ := Sl.row (size := 1) (fun _ => rfl) (HX.out.below HI.out.ext) (List.getElem?_eq_getElem hlt)
      obtain ⟨x, hxk⟩ : ∃ x, l[k] = x := ⟨_, rfl⟩
      have hc : wr.cell? ⟨b, off + k, none⟩ = some (.int .u32 x) := by have := r 0 _ rfl; rw [hxk] at this; simpa using this
      have hki : (k : Int) < (l.length : Int) := by omega
      have HXK := Lib.hid (show l[k]? = some x by rw [List.getElem?_eq_getElem hlt, hxk])
      have HXL := Lib.hid (show x < B32 by rw [← hxk]; exact HB.out _ (List.getElem_mem hlt))
      clear r hxk
      go_wp2_with fail
      obtain ⟨wo, rfl⟩ : ∃ wo : World, wo = wr := ⟨_, rfl⟩
      go_loopw [3, 5, 6] (fun v n j wr => ∃ m nn : Nat, ∃ l2, m ≤ 32 ∧ j = .int .i64 m ∧ n = .int .u32 nn ∧ nn < B32 ∧ Hid (DigJ w l k x m nn v l2 wr)) (fun _ _ j _ => 32 - (intOf j).toNat)
      case atStart => exact ⟨0, x, l', by omega, rfl, rfl, HXL.out, Lib.hid (HI.out.begin x)⟩
      case round =>
        obtain ⟨m, nn, l2, hm, rfl, rfl, hnn, HJ⟩ := hrel
        by_cases hlm : m < 32
        · obtain ⟨r2, hr2⟩ : ∃ r, nn % 2 = r := ⟨_, rfl⟩
          obtain ⟨r3, hr3⟩ : ∃ r, nn / 2 = r := ⟨_, rfl⟩
          have e2 : (nn : Int) % 2 = (r2 : Int) := by omega
          have e3 : (nn : Int) / 2 = (r3 : Int) := by omega
          have hb2 : (r2 : Int) ≤ 1 := by omega
          have hb3 : (r3 : Int) ≤ 4294967295 := by have : nn < 4294967296 := hnn; omega
          have hnn3 : r3 < B32 := by omega
          have hmi : (m : Int) < 32 := by omega
          have HR2 := Lib.hid hr2
          have HR3 := Lib.hid hr3
          have HN3 := Lib.hid hnn3
          have HW := Lib.hid (show l2.length = 32 * k + m from HJ.out.len)
          clear hr2 hr3 hnn3
          go_wp2_with (at_builtin; go_must (refine app_one elu8 rfl (.tmp 21) (.tmp 25) rfl wr w.heap.size cU8 _ l2 r2 rfl HJ.out.own _ 1 rfl (by simp) rfl rfl (by have := HW.out; omega) (by have := HW.out; unfold maxLen; omega) HJ.out.ext.size ?_); intro v' w2 hown' hgrow _)
          go_roundw
          case rel => exact ⟨m + 1, r3, _, by omega, by go_num, (by first | rfl | rw [e3]), HN3.out, Lib.hid (HJ.out.next HR2.out HR3.out hown' hgrow)⟩
          case measure => simp [intOf]; omega
        · have hme : m = 32 := by omega
          have HK := Lib.hid (show DigI w l (k + 1) _ l2 wr from by subst hme; exact HJ.out.done HXK.out HXL.out)
          clear hme
          go_wp2_with fail
          go_roundw
          case rel => exact ⟨k + 1, l2, by omega, by go_num, HK⟩
          case measure => simp [intOf]; omega
    · have HE := Lib.hid (show val 2 l' = val B32 l by have := HI.out.sum; rwa [List.take_of_length_le (by omega)] at this)
      obtain ⟨A', c', rfl, hok⟩ := HI.out.own.form
      go_wp2_with fail
      refine (ref01_Cut ⟨l', A', c'⟩ _ hok HI.out.bits).mono ?_
      rintro e w1 ⟨k2, hk2, hcut, rfl, rfl⟩
      go_wp2_with fail
      go_ret
      have hl : (l'.take k2).length = k2 := by rw [List.length_take]; exact Nat.min_eq_left hk2
      exact ⟨⟨l'.take k2, A', c'⟩, by rw [hl]; rfl, hcut.trans (by rw [HE.out]), Own.front (enc := cU8) (size := 1) (fun _ => rfl) HI.out.own hk2, HI.out.ext⟩

set_option maxRecDepth 100000 in
set_option maxHeartbeats 4000000 in
theorem ref01_Limbs (x : LX Nat) (w : World) (hx : x.ok w w.heap.size cU8) (hb : Bits x.l) (hl : x.l.length ≤ 100000) :
    Calls Tryd.prog 83 #[.slice x.A x.l.length x.c] w fun e w' => ∃ z : LX Nat, e = .returned (.slice z.A z.l.length z.c) ∧ z.l = digs B32 (val 2 x.l) ∧ Go.Hx.Own w' w.heap.size 33 1 cU32 (.slice z.A z.l.length z.c) z.l ∧ Ext w w' := by
  obtain ⟨l, A, c⟩ := x
  dsimp only at *
  go_enter Tryd.func83, Tryd.ntmps83
  go_wp2_with fail
  refine (ref01_Cut ⟨l, A, c⟩ _ hx hb).mono ?_
  rintro e w1 ⟨k2, hk2, hcut, rfl, rfl⟩
  obtain ⟨n0, hn⟩ : ∃ n, val 2 l = n := ⟨_, rfl⟩
  rw [hn] at hcut
  have HN := Lib.hid hn
  have HC := Lib.hid hcut
  have hD : (digs 2 n0).length = k2 := by rw [← hcut, List.length_take]; exact Nat.min_eq_left hk2
  have HX := Lib.hid (show Sl w1 w1.heap.size cU8 A (digs 2 n0) by rw [← hcut]; exact (LX.ok.front hx k2).1)
  have hkl : (k2 : Int) ≤ 100000 := by have hk2' : k2 ≤ l.length := hk2; omega
  have HD := Lib.hid hD
  clear hx hb hn hcut hD hk2 hl
  go_wp2_with fail
  go_loopw [3, 4] (fun v i wr => ∃ k : Nat, ∃ l', 32 * k ≤ k2 + 31 ∧ i = .int .i64 (32 * k : Nat) ∧ Hid (LimI w1 (digs 2 n0) k v l' wr)) (fun _ i _ => k2 + 32 - (intOf i).toNat)
  case atStart => exact ⟨0, [], by omega, rfl, ⟨Go.Hx.Own.nil _ _ _ _ _, rfl, (fun _ h => by cases h), rfl, .inl rfl, Ext.refl _⟩⟩
  case round =>
    obtain ⟨k, l', hk, rfl, HI⟩ := hrel
    by_cases hlt : 32 * k < k2
    · by_cases hcase : 32 * k + 32 ≤ k2
      · have HT := Lib.hid (show 32 * k < (32 * k + 32) ∧ (32 * k + 32) ≤ k2 ∧ (32 * k + 32) ≤ 32 * k + 32 ∧ ((32 * k + 32) = 32 * k + 32 ∨ (32 * k + 32) = k2) by omega)
        go_wp2_with fail
        all_goals
          obtain ⟨wo, rfl⟩ : ∃ wo : World, wo = wr := ⟨_, rfl⟩
          go_loop [5, 6] (fun n j => ∃ i : Int, ∃ nn : Nat, 32 * k - 1 ≤ i ∧ i < ((32 * k + 32) : Nat) ∧ j = .int .i64 i ∧ n = .int .u32 nn ∧ Hid (nn = val 2 (((digs 2 n0).drop (i + 1).toNat).take ((32 * k + 32) - (i + 1).toNat)))) (fun _ j => (intOf j + 1).toNat)
          case atStart => exact ⟨(((32 * k + 32) : Nat) : Int) - 1, 0, by omega, by omega, (by first | rfl | go_num), rfl, Lib.hid (by rw [show ((((32 * k + 32) : Nat) : Int) - 1 + 1).toNat = (32 * k + 32) by omega]; simp)⟩
          case round =>
            obtain ⟨i, nn, hi0, hi1, rfl, rfl, HV⟩ := hrel
            by_cases hge : 32 * k ≤ i
            · obtain ⟨j, rfl⟩ : ∃ j : Nat, i = (j : Int) := ⟨i.toNat, by omega⟩
              have hjl : j < (digs 2 n0).length := by have := HD.out; have := HT.out; omega
              obtain ⟨b, off, rfl, _, r⟩ := Sl.row (size := 1) (fun _ => rfl) (HX.out.below HI.out.ext) (List.getElem?_eq_getElem hjl)
              obtain ⟨p, hp⟩ : ∃ p, (digs 2 n0)[j] = p := ⟨_, rfl⟩
              have hc : wo.cell? ⟨b, off + j, none⟩ = some (.int .u8 p) := by have := r 0 _ rfl; rw [hp] at this; simpa using this
              have hpd : (digs 2 n0)[j]? = some p := by rw [List.getElem?_eq_getElem hjl, hp]
              have hp1 : (p : Int) ≤ 1 := by have := digs_lt (b := 2) (by omega) n0 _ (List.getElem_mem hjl); omega
              have hv : nn = val 2 (((digs 2 n0).drop (j + 1)).take ((32 * k + 32) - (j + 1))) := HV.out
              have hnn : (nn : Int) ≤ 2147483647 := by
                have h1 := val_lt (b := 2) (((digs 2 n0).drop (j + 1)).take ((32 * k + 32) - (j + 1))) (fun x hx => digs_lt (by omega) n0 x (List.mem_of_mem_drop (List.mem_of_mem_take hx)))
                have h2 : (((digs 2 n0).drop (j + 1)).take ((32 * k + 32) - (j + 1))).length ≤ 31 := by rw [List.length_take]; omega
                have h3 := Nat.pow_le_pow_right (n := 2) (by omega) h2
                rw [← hv] at h1
                omega
              have HV2 := Lib.hid (show 2 * nn + p = val 2 (((digs 2 n0).drop j).take ((32 * k + 32) - j)) by rw [val_step hpd (by omega), ← hv]; omega)
              have hji : (j : Int) < (k2 : Int) := by have := HT.out; omega
              have hgi : (32 * k : Int) ≤ (j : Int) := hge
              clear r hp hpd hv hjl HV
              go_wp2_with fail
              go_round
              case rel => exact ⟨(j : Int) - 1, 2 * nn + p, by omega, by omega, by go_num, (by congr 1), Lib.hid (by rw [show ((j : Int) - 1 + 1).toNat = j by omega]; exact HV2.out)⟩
              case measure => simp [intOf]
            · have hie : i = 32 * k - 1 := by omega
              have HV2 := Lib.hid (show nn = val 2 (((digs 2 n0).drop (32 * k)).take 32) by
                have := HV.out
                rw [hie, show ((32 * k : Int) - 1 + 1).toNat = 32 * k by omega] at this
                rw [this]
                by_cases h : (32 * k + 32) = 32 * k + 32
                · congr 2; omega
                · rw [List.take_of_length_le (by rw [List.length_drop, HD.out]; have := HT.out; omega), List.take_of_length_le (by rw [List.length_drop, HD.out]; have := HT.out; omega)])
              have HW := Lib.hid (show l'.length = k from HI.out.len)
              have hkb : (32 * k : Int) ≤ 100000 := by omega
              clear HV hie
              go_wp2_with (at_builtin; go_must (refine app_one elu32 rfl (.tmp 34) (.tmp 36) rfl wo w1.heap.size cU32 _ l' nn rfl HI.out.own _ 1 rfl (by simp) rfl rfl (by have := HW.out; omega) (by have := HW.out; unfold maxLen; omega) HI.out.ext.size ?_); intro v' w2 hown' hgrow _)
              go_roundw
              case rel => exact ⟨k + 1, _, by omega, by go_num, Lib.hid (HI.out.next (by rw [HD.out]; omega) (Bits.digs n0) HV2.out hown' hgrow)⟩
              case measure => simp [intOf]; omega
      · have HT := Lib.hid (show 32 * k < k2 ∧ k2 ≤ k2 ∧ k2 ≤ 32 * k + 32 ∧ (k2 = 32 * k + 32 ∨ k2 = k2) by omega)
        go_wp2_with fail
        all_goals
          obtain ⟨wo, rfl⟩ : ∃ wo : World, wo = wr := ⟨_, rfl⟩
          go_loop [5, 6] (fun n j => ∃ i : Int, ∃ nn : Nat, 32 * k - 1 ≤ i ∧ i < (k2 : Nat) ∧ j = .int .i64 i ∧ n = .int .u32 nn ∧ Hid (nn = val 2 (((digs 2 n0).drop (i + 1).toNat).take (k2 - (i + 1).toNat)))) (fun _ j => (intOf j + 1).toNat)
          case atStart => exact ⟨((k2 : Nat) : Int) - 1, 0, by omega, by omega, (by first | rfl | go_num), rfl, Lib.hid (by rw [show (((k2 : Nat) : Int) - 1 + 1).toNat = k2 by omega]; simp)⟩
          case round =>
            obtain ⟨i, nn, hi0, hi1, rfl, rfl, HV⟩ := hrel
            by_cases hge : 32 * k ≤ i
            · obtain ⟨j, rfl⟩ : ∃ j : Nat, i = (j : Int) := ⟨i.toNat, by omega⟩
              have hjl : j < (digs 2 n0).length := by have := HD.out; have := HT.out; omega
              obtain ⟨b, off, rfl, _, r⟩ := Sl.row (size := 1) (fun _ => rfl) (HX.out.below HI.out.ext) (List.getElem?_eq_getElem hjl)
              obtain ⟨p, hp⟩ : ∃ p, (digs 2 n0)[j] = p := ⟨_, rfl⟩
              have hc : wo.cell? ⟨b, off + j, none⟩ = some (.int .u8 p) := by have := r 0 _ rfl; rw [hp] at this; simpa using this
              have hpd : (digs 2 n0)[j]? = some p := by rw [List.getElem?_eq_getElem hjl, hp]
              have hp1 : (p : Int) ≤ 1 := by have := digs_lt (b := 2) (by omega) n0 _ (List.getElem_mem hjl); omega
              have hv : nn = val 2 (((digs 2 n0).drop (j + 1)).take (k2 - (j + 1))) := HV.out
              have hnn : (nn : Int) ≤ 2147483647 := by
                have h1 := val_lt (b := 2) (((digs 2 n0).drop (j + 1)).take (k2 - (j + 1))) (fun x hx => digs_lt (by omega) n0 x (List.mem_of_mem_drop (List.mem_of_mem_take hx)))
                have h2 : (((digs 2 n0).drop (j + 1)).take (k2 - (j + 1))).length ≤ 31 := by rw [List.length_take]; omega
                have h3 := Nat.pow_le_pow_right (n := 2) (by omega) h2
                rw [← hv] at h1
                omega
              have HV2 := Lib.hid (show 2 * nn + p = val 2 (((digs 2 n0).drop j).take (k2 - j)) by rw [val_step hpd (by omega), ← hv]; omega)
              have hji : (j : Int) < (k2 : Int) := by have := HT.out; omega
              have hgi : (32 * k : Int) ≤ (j : Int) := hge
              clear r hp hpd hv hjl HV
              go_wp2_with fail
              go_round
              case rel => exact ⟨(j : Int) - 1, 2 * nn + p, by omega, by omega, by go_num, (by congr 1), Lib.hid (by rw [show ((j : Int) - 1 + 1).toNat = j by omega]; exact HV2.out)⟩
              case measure => simp [intOf]
            · have hie : i = 32 * k - 1 := by omega
              have HV2 := Lib.hid (show nn = val 2 (((digs 2 n0).drop (32 * k)).take 32) by
                have := HV.out
                rw [hie, show ((32 * k : Int) - 1 + 1).toNat = 32 * k by omega] at this
                rw [this]
                by_cases h : k2 = 32 * k + 32
                · congr 2; omega
                · rw [List.take_of_length_le (by rw [List.length_drop, HD.out]; have := HT.out; omega), List.take_of_length_le (by rw [List.length_drop, HD.out]; have := HT.out; omega)])
              have HW := Lib.hid (show l'.length = k from HI.out.len)
              have hkb : (32 * k : Int) ≤ 100000 := by omega
              clear HV hie
              go_wp2_with (at_builtin; go_must (refine app_one elu32 rfl (.tmp 34) (.tmp 36) rfl wo w1.heap.size cU32 _ l' nn rfl HI.out.own _ 1 rfl (by simp) rfl rfl (by have := HW.out; omega) (by have := HW.out; unfold maxLen; omega) HI.out.ext.size ?_); intro v' w2 hown' hgrow _)
              go_roundw
              case rel => exact ⟨k + 1, _, by omega, by go_num, Lib.hid (HI.out.next (by rw [HD.out]; omega) (Bits.digs n0) HV2.out hown' hgrow)⟩
              case measure => simp [intOf]; omega
    · have HE := Lib.hid (HI.out.done (by have := HD.out; omega))
      obtain ⟨A', c', rfl, hok⟩ := HI.out.own.form
      go_wp2_with fail
      go_ret
      exact ⟨⟨l', A', c'⟩, rfl, by rw [HN.out]; exact HE.out, HI.out.own, HI.out.ext⟩
end Go.Proofs.YtgcbnagfdfgpnaaDoor
end
section
namespace Go.Hx
open Go.RowKit
def mayL (l : List Nat) : Prop := l.length ≤ 40 ∧ l.getLast? ≠ some 0
instance (l : List Nat) : Decidable (mayL l) := by unfold mayL; infer_instance
def mayD (x : PDyad) : Prop := mayL x.limbs ∧ (0 ≤ x.exp ∧ x.exp ≤ 1024) ∧ (if x.limbs = [] then x.exp = 0 ∧ x.neg = false else x.exp = 0 ∨ x.limbs[0]?.getD 0 % 2 = 1)
instance (x : PDyad) : Decidable (mayD x) := by unfold mayD; infer_instance
def finD (neg : Bool) (n k : Nat) : PDyad × Int := if 40 < (digs B32 n).length ∨ 1024 < k then (PDyad.zero, 10) else (⟨neg, digs B32 n, k⟩, 0)
def formD (neg : Bool) : Nat → Nat → PDyad × Int
  | 0, n => if n = 0 then (PDyad.zero, 0) else finD neg n 0
  | k + 1, n => if n = 0 then (PDyad.zero, 0) else if n % 2 = 0 then formD neg k (n / 2) else finD neg n (k + 1)
def numD (x : PDyad) (k : Nat) : Nat := 2 ^ (k - x.exp.toNat) * val B32 x.limbs
def plusS (s : Bool) (m : Nat) (t : Bool) (n : Nat) : Bool × Nat := if s = t then (s, m + n) else if n ≤ m then (s, m - n) else (t, n - m)
def sumD (x y : PDyad) : PDyad × Int :=
  formD (plusS x.neg (numD x (max x.exp.toNat y.exp.toNat)) y.neg (numD y (max x.exp.toNat y.exp.toNat))).1 (max x.exp.toNat y.exp.toNat) (plusS x.neg (numD x (max x.exp.toNat y.exp.toNat)) y.neg (numD y (max x.exp.toNat y.exp.toNat))).2
def halfD (x : PDyad) : PDyad × Int := if mayD x then formD x.neg (x.exp.toNat + 1) (val B32 x.limbs) else (PDyad.zero, 8)
def addD (x y : PDyad) : PDyad × Int := if mayD x ∧ mayD y then sumD x y else (PDyad.zero, 8)
def minusD (x : PDyad) : PDyad := if x.limbs = [] then x else { x with neg := !x.neg }
def subD (x y : PDyad) : PDyad × Int := if mayD x ∧ mayD y then sumD x (minusD y) else (PDyad.zero, 8)

theorem formD_zero (neg : Bool) : ∀ k, formD neg k 0 = (PDyad.zero, 0)
  | 0 => by simp [formD]
  | k + 1 => by simp [formD]
theorem formD_even {neg : Bool} {k n : Nat} (h0 : n ≠ 0) (h : n % 2 = 0) : formD neg (k + 1) n = formD neg k (n / 2) := by simp [formD, h0, h]
theorem formD_end {neg : Bool} {k n : Nat} (h0 : n ≠ 0) (h : k = 0 ∨ n % 2 = 1) : formD neg k n = finD neg n k := by
  cases k with
  | zero => simp [formD, h0]
  | succ k =>
    have h1 : n % 2 = 1 := h.resolve_left (by omega)
    simp [formD, h0, h1]
theorem digs_head {n : Nat} (h : n ≠ 0) : (digs B32 n)[0]?.getD 0 % 2 = n % 2 := by
  rw [digs_pos (by decide) h]
  show n % 4294967296 % 2 = n % 2
  omega
theorem mayD_fin {neg : Bool} {n k : Nat} (h0 : n ≠ 0) (h : k = 0 ∨ n % 2 = 1) : mayD ⟨neg, digs B32 n, k⟩ ↔ ¬ (40 < (digs B32 n).length ∨ 1024 < k) := by
  have hne : digs B32 n ≠ [] := fun e => h0 ((digs_nil (by decide)).1 e)
  unfold mayD mayL
  simp only [hne, if_false]
  rw [digs_head h0]
  constructor
  · rintro ⟨⟨h1, _⟩, ⟨_, h2⟩, _⟩
    omega
  · intro h1
    refine ⟨⟨by omega, digs_last (by decide) n⟩, ⟨by omega, by omega⟩, ?_⟩
    rcases h with h | h
    · left; omega
    · right; exact h
theorem finD_may {neg : Bool} {n k : Nat} (h0 : n ≠ 0) (h : k = 0 ∨ n % 2 = 1) : finD neg n k = if mayD ⟨neg, digs B32 n, k⟩ then (⟨neg, digs B32 n, k⟩, 0) else (PDyad.zero, 10) := by
  unfold finD
  by_cases hc : 40 < (digs B32 n).length ∨ 1024 < k
  · rw [if_pos hc, if_neg (fun hm => (mayD_fin h0 h).1 hm hc)]
  · rw [if_neg hc, if_pos ((mayD_fin h0 h).2 hc)]
end Go.Hx
namespace Go.Proofs.YtgcbnagfdfgpnaaDoor
open Go.RowKit Go.Hx
set_option maxRecDepth 100000 in
set_option maxHeartbeats 1000000 in
theorem ref01_May (x : LX Nat) (w : World) (hx : x.ok w w.heap.size cU32) :
    Calls Tryd.prog 90 #[.slice x.A x.l.length x.c] w fun e w' => e = .returned (.bool (decide (mayL x.l))) ∧ w' = w := by
  obtain ⟨l, A, c⟩ := x
  obtain ⟨hx, hx1, hx2⟩ := hx
  dsimp only at *
  unfold maxLen at hx2
  by_cases h1 : l.length ≤ 40
  · have d1 : decide ((l.length : Int) ≤ 40) = true := by simp; omega
    by_cases h2 : l.length = 0
    · have d2 : ((l.length : Int) == 0) = true := by rw [beq_iff_eq]; omega
      have HR := Lib.hid (show decide (mayL l) = true by rw [List.eq_nil_of_length_eq_zero h2]; decide)
      clear h1 h2 hx
      go_enter Tryd.func90, Tryd.ntmps90
      go_wp2_with fail
      go_ret
      exact ⟨ret_bool HR.out.symm, rfl⟩
    · have d2 : ((l.length : Int) == 0) = false := by rw [beq_eq_false_iff_ne]; omega
      obtain ⟨j, hj⟩ : ∃ j, l.length = j + 1 := ⟨l.length - 1, by omega⟩
      have hlt : j < l.length := by omega
      obtain ⟨b, off, rfl, _, r⟩ := Sl.row (size := 1) (fun _ => rfl) hx (List.getElem?_eq_getElem hlt)
      obtain ⟨p, hp⟩ : ∃ p, l[j] = p := ⟨_, rfl⟩
      have hc : w.cell? ⟨b, off + j, none⟩ = some (.int .u32 p) := by have := r 0 _ rfl; rw [hp] at this; simpa using this
      have hsub : IntKind.i64.wrap ((l.length : Int) - 1) = (j : Int) := by rw [IntWalk.i64_in _ (by omega)]; omega
      have hsub2 : (l.length : Int) - 1 = (j : Int) := by omega
      have hlast : l.getLast? = some p := by rw [List.getLast?_eq_getElem?, hj]; simp [List.getElem?_eq_getElem hlt, hp]
      have hji : (j : Int) < (l.length : Int) := by omega
      by_cases h3 : p = 0
      · have d3 : ((p : Int) != 0) = false := by simp [h3]
        have HR := Lib.hid (show decide (mayL l) = false from decide_eq_false fun h => h.2 (by rw [hlast, h3]))
        clear h1 h2 h3 hx r hp hj hlast
        go_enter Tryd.func90, Tryd.ntmps90
        go_wp2_with fail
        go_ret
        exact ⟨ret_bool HR.out.symm, rfl⟩
      · have d3 : ((p : Int) != 0) = true := by simp [h3]
        have HR := Lib.hid (show decide (mayL l) = true from decide_eq_true ⟨h1, by rw [hlast]; simpa using h3⟩)
        clear h1 h2 h3 hx r hp hj hlast
        go_enter Tryd.func90, Tryd.ntmps90
        go_wp2_with fail
        go_ret
        exact ⟨ret_bool HR.out.symm, rfl⟩
  · have d1 : decide ((l.length : Int) ≤ 40) = false := by simp; omega
    have HR := Lib.hid (show decide (mayL l) = false from decide_eq_false fun h => h1 h.1)
    clear h1 hx
    go_enter Tryd.func90, Tryd.ntmps90
    go_wp2_with fail
    go_ret
    exact ⟨ret_bool HR.out.symm, rfl⟩
end Go.Proofs.YtgcbnagfdfgpnaaDoor
end
