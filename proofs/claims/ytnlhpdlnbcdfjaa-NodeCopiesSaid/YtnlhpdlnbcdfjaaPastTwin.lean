/- Copies of lists of frozen parts. Printed by gen_pasttwin.py. -/
import Derived.Test.YtnlhpdlnbcdfjaaOwnSet
import Derived.Test.YtnlhpdlnbcdfjaaTwin3
import Derived.Test.YtnlhpdlnbcdfjaaPastSame
import Derived.Test.YtnlhpdlnbcdfjaaChainApp
namespace Go.Hx
open Go.RowKit
theorem Own.grown {α β : Type} {w w' : World} {B B' e e' size size' : Nat} {enc : α → List Value} {enc' : β → List Value} {v v' : Value} {l : List α} {l' : List β} (h : Go.Hx.Own w B e size enc v l) (o : Go.Hx.Own w B' e' size' enc' v' l') (hne : e ≠ e') (hg : w.grownBy w' v'.ownBlock) : Go.Hx.Own w' B e size enc v l := by
  refine Go.Hx.Own.kept h hg ?_
  cases hv : v.ownBlock with
  | none => exact .inl rfl
  | some g => exact .inr fun e => Go.Hx.Own.ne h o hne hv e.symm
section
variable {β : Type} {w w' : World} {B B' e' size' : Nat} {enc' : β → List Value} {v' : Value} {l' : List β}
theorem XDyad.mine.grown {x : XDyad} (h : x.mine w B) (o : Go.Hx.Own w B' e' size' enc' v' l') (nu32 : 91 ≠ e') (hg : w.grownBy w' v'.ownBlock) : x.mine w' B := ⟨Own.grown h.limbs o nu32 hg⟩
theorem XMass.mine.grown {x : XMass} (h : x.mine w B) (o : Go.Hx.Own w B' e' size' enc' v' l') (nu32 : 91 ≠ e') (hg : w.grownBy w' v'.ownBlock) : x.mine w' B := ⟨h.s.grown o nu32 hg, h.w.grown o nu32 hg, h.c.grown o nu32 hg, h.a.grown o nu32 hg⟩
theorem XPart.mine.grown {x : XPart} (h : x.mine w B) (o : Go.Hx.Own w B' e' size' enc' v' l') (nu32 : 91 ≠ e') (hg : w.grownBy w' v'.ownBlock) : x.mine w' B := ⟨h.held.grown o nu32 hg, Own.grown h.least o nu32 hg⟩
theorem XFrozen.mine.grown {x : XFrozen} (h : x.mine w B) (o : Go.Hx.Own w B' e' size' enc' v' l') (nu32 : 91 ≠ e') (hg : w.grownBy w' v'.ownBlock) : x.mine w' B := ⟨h.part.grown o nu32 hg⟩
end
theorem map_set_same {α β : Type} {f : α → β} {l : List α} {k : Nat} {a b : α} (h : l[k]? = some a) (e : f b = f a) : (l.set k b).map f = l.map f := by
  obtain ⟨l1, l2, rfl, rfl⟩ := split_at h
  rw [set_split]
  simp [e]
/-- k parts are copied -/
structure PTw (w : World) (x : List XFrozen) (A : Option Addr) (c k : Nat) (l : List XFrozen) (wr : World) : Prop where
  len : l.length = x.length
  own : Go.Hx.Own wr w.heap.size 82 17 XFrozen.cells (.slice A l.length c) l
  data : l.map XFrozen.data = x.map XFrozen.data
  done : ∀ j z, j < k → l[j]? = some z → XFrozen.mine wr w.heap.size z
  left : ∀ j, k ≤ j → l[j]? = x[j]?
  ext : Ext w wr
theorem PTw.next {w wr w2 w3 : World} {x l : List XFrozen} {c k g : Nat} (h : PTw w x (some ⟨g, 0, none⟩) c k l wr) {a : XFrozen} (ha : l[k]? = some a) {y : XPart} (hy : y.data = a.part.data) (hm : y.mine w2 wr.heap.size) (hE : Ext wr w2)
    {cur : List Value} (hB : Blk w2 g 82 cur) (hb : w.heap.size ≤ g) (hn : l.length ≤ c) (hc : c ≤ maxLen) (hl : cur.length = c * 17) (ht : cur.take (l.length * 17) = l.flatMap XFrozen.cells)
    (hR : Blk w3 g 82 (cur.take (k * 17 + 1) ++ y.cells ++ cur.drop (k * 17 + 1 + 16))) (hO : Only w2 w3 g) : PTw w x (some ⟨g, 0, none⟩) c (k + 1) (l.set k ⟨a.epoch, y⟩) w3 := by
  have hlt := (List.getElem?_eq_some_iff.1 ha).1
  have hlen : (cur.take (k * 17 + 1) ++ y.cells ++ cur.drop (k * 17 + 1 + 16)).length = cur.length := by
    rw [List.length_append, List.length_append, List.length_take, List.length_drop, XPart.cells_length, Nat.min_eq_left (by omega)]; omega
  have hS : Shape (fun e => e = 82) w.heap.size w2 w3 := Shape.only (T := fun e => e = 82) (Shape.refl _ _ _) hB hO hR hlen rfl hb
  have hy' : XFrozen.mine w3 w.heap.size ⟨a.epoch, y⟩ := ⟨(hm.lower h.ext.size).shape hS (by decide)⟩
  refine ⟨by rw [List.length_set]; exact h.len, ?_, ?_, fun j z hj hz => ?_, fun j hj => ?_, Only.ext (h.ext.trans hE) hO hb⟩
  · have := Own.of_blk (enc := XFrozen.cells) (l := l.set k ⟨a.epoch, y⟩) (c := c) (fun _ => rfl) hR hb (by rw [List.length_set]; exact hn) hc (hlen.trans hl) (by
      rw [List.length_set]
      exact cells_set (enc := XFrozen.cells) (size := 17) (off := 1) (vs := y.cells) (y := ⟨a.epoch, y⟩) (fun _ => rfl) ha (by rw [XPart.cells_length]; decide) rfl ht)
    exact this
  · rw [← h.data]; exact map_set_same ha (by simp [XFrozen.data, hy])
  · by_cases e : j = k
    · subst e
      rw [List.getElem?_set_self hlt] at hz
      cases hz
      exact hy'
    · rw [List.getElem?_set_ne (Ne.symm e)] at hz
      exact ((h.done j z (by omega) hz).ext hE).shape hS (by decide)
  · rw [List.getElem?_set, if_neg (by omega)]; exact h.left j (by omega)
/-- k parts are copied, appended one by one -/
structure RTw (w : World) (x : List XFrozen) (k : Nat) (v : Value) (l : List XFrozen) (wr : World) : Prop where
  len : l.length = k
  own : Go.Hx.Own wr w.heap.size 82 17 XFrozen.cells v l
  data : l.map XFrozen.data = (x.take k).map XFrozen.data
  mine : ∀ z ∈ l, XFrozen.mine wr w.heap.size z
  ext : Ext w wr
theorem RTw.next {w wr w1 w2 : World} {x l : List XFrozen} {k : Nat} {v v' : Value} (h : RTw w x k v l wr) {a : XFrozen} (ha : x[k]? = some a) {y : XPart} (hy : y.data = a.part.data) (hm : y.mine w1 w.heap.size) (hE : Ext wr w1)
    (hown : Go.Hx.Own w2 w.heap.size 82 17 XFrozen.cells v' (l ++ [⟨a.epoch, y⟩])) (hg : w1.grownBy w2 v.ownBlock) : RTw w x (k + 1) v' (l ++ [⟨a.epoch, y⟩]) w2 := by
  have ho := h.own.ext hE
  have hb := h.ext.trans hE
  refine ⟨by simp [h.len], hown, ?_, fun z hz => ?_, Own.below ho hb hg (Nat.le_refl _) hb.size⟩
  · rw [take_snoc ha, List.map_append, List.map_append, h.data]
    simp [XFrozen.data, hy]
  · rcases List.mem_append.1 hz with hz | hz
    · exact ((h.mine z hz).ext hE).grown ho (by decide) hg
    · simp only [List.mem_singleton] at hz
      subst hz
      exact ⟨hm.grown ho (by decide) hg⟩
end Go.Hx
namespace Go.Proofs.Ytnlhpdlnbcdfjaa
open Go.RowKit Go.Hx
attribute [local go_sem] detUpon undUpon undIn

set_option maxRecDepth 100000 in
set_option maxHeartbeats 1000000 in
theorem past_Twin (x : LX XFrozen) (w : World) (hx : x.ok w w.heap.size XFrozen.cells) (hxs : ∀ z ∈ x.l, XFrozen.ok w w.heap.size z) (hs : x.l.length ≤ 1000000) (hss : ∀ z ∈ x.l, (XFrozen.data z).small) :
    Calls Try.prog 37 #[.slice x.A x.l.length x.c] w fun e w' => ∃ y : LX XFrozen, e = .returned (.slice y.A y.l.length y.c) ∧ y.l.map XFrozen.data = x.l.map XFrozen.data ∧ Go.Hx.Own w' w.heap.size 82 17 XFrozen.cells (.slice y.A y.l.length y.c) y.l ∧ (∀ z ∈ y.l, XFrozen.mine w' w.heap.size z) ∧ Ext w w' := by
  have HXS := Lib.hid hxs
  have HSS := Lib.hid hss
  have HX := Lib.hid hx
  have HS := Lib.hid hs
  clear hx hs hxs hss
  go_enter Try.func37, Try.ntmps37
  go_wp2_with fail
  refine (clone_Frozen x _ HX.out HS.out).mono ?_
  rintro e w1 ⟨⟨l, A, c⟩, rfl, rfl, _, hown, hE1⟩
  have HI0 : Hid (PTw w x.l A c 0 x.l w1) := Lib.hid ⟨rfl, hown, rfl, (fun _ _ h => by omega), fun _ _ => rfl, hE1⟩
  have hb : (x.l.length : Int) ≤ 1000000 := by have := HS.out; omega
  dsimp only
  clear hown hE1
  go_wp2_with fail
  go_loopw [9] (fun i wr => ∃ k : Nat, ∃ l', k ≤ x.l.length ∧ i = .int .i64 k ∧ Hid (PTw w x.l A c k l' wr)) (fun i _ => x.l.length - (intOf i).toNat)
  case atStart => exact ⟨0, _, Nat.zero_le _, rfl, HI0⟩
  case round =>
    obtain ⟨k, l', hk, rfl, HI⟩ := hrel
    by_cases hlt : k < x.l.length
    · obtain ⟨a, ha⟩ : ∃ a, l'[k]? = some a := ⟨_, List.getElem?_eq_getElem (by rw [HI.out.len]; exact hlt)⟩
      have hxa : x.l[k]? = some a := by rw [← HI.out.left k (Nat.le_refl _)]; exact ha
      have HM := Lib.hid (List.mem_of_getElem? hxa)
      obtain ⟨g, rfl⟩ := Own.place (k := k) (by rw [HI.out.len]; exact hlt) HI.out.own
      obtain ⟨cur, hB, hb1, hn, hc, hl, ht⟩ := Own.blk HI.out.own
      obtain ⟨g', o', hg', _, r1⟩ := Sl.row (size := 17) (fun _ => rfl) (Go.Hx.Own.ok HI.out.own).1 ha
      obtain ⟨rfl, rfl⟩ : g = g' ∧ o' = 0 := by injection hg' with h; injection h with h1 h2; exact ⟨h1, h2.symm⟩
      have gR : Hid (RowAt wr g (k * 17 + 1) a.part.cells) := Lib.hid (show RowAt wr g (k * 17 + 1) a.part.cells from fun j u hu => by have := r1 (j + 1) u hu; rwa [Nat.zero_add, ← Nat.add_assoc, Nat.add_right_comm] at this)
      have HA := Lib.hid ha
      have HB := Lib.hid hB
      have HL := Lib.hid (show l'.length ≤ c ∧ cur.length = c * 17 from ⟨hn, hl⟩)
      have HT := Lib.hid ht
      have HC := Lib.hid hc
      have HG := Lib.hid hb1
      have HLT := Lib.hid (show k < l'.length by rw [HI.out.len]; exact hlt)
      have hli : (k : Int) < (x.l.length : Int) := by omega
      clear ha hxa r1 hg' hB hn hc hl ht hb1
      go_wp2_with (first | ((with_reducible refine wpl_load 32 (.tmp 17) ?_ ?_ g (k * 17 + 1) a.part.cells ?_ ?_ ?_ ?_); (exact rfl); (exact rfl); (exact rfl); (exact aggPart); (exact gR.out)) | (go_at_call 34; refine (past_TwinPart a.part _ ((HXS.out a HM.out).part.ext HI.out.ext) (HSS.out a HM.out)).mono ?_; rintro e w2 ⟨y, rfl, hyd, hym, hE2⟩; have HE2 := Lib.hid hE2; have HYD := Lib.hid hyd; have HYM := Lib.hid hym; clear hE2 hyd hym) | ((with_reducible refine wpl_store 32 (.tmp 21) (.tmp 19) ?_ ?_ g (k * 17 + 1) 82 cur y.cells ?_ ?_ ?_ ?_ ?_ ?_ ?_); (exact rfl); (exact rfl); (exact rfl); (exact rfl); (exact aggPart); (exact HB.out.ext HE2.out); (exact by rw [XPart.cells_length]; have := HL.out; have := HLT.out; omega); (exact rfl); (intro w3 BR hO; have HR := Lib.hid BR; have HO := Lib.hid hO; clear BR hO)) | fail)
      go_roundw
      case rel => exact ⟨k + 1, _, by omega, by go_num, Lib.hid (HI.out.next HA.out HYD.out HYM.out HE2.out (HB.out.ext HE2.out) HG.out HL.out.1 HC.out HL.out.2 HT.out HR.out HO.out)⟩
      case measure => simp [intOf]; omega
    · go_wp2
      go_ret
      have h := HI.out
      refine ⟨⟨l', A, c⟩, by rw [h.len]; rfl, h.data, h.own, fun z hz => ?_, h.ext⟩
      obtain ⟨j, hj⟩ := List.getElem?_of_mem hz
      have hj1 : j < l'.length := (List.getElem?_eq_some_iff.1 hj).1
      rw [h.len] at hj1
      exact h.done j z (Nat.lt_of_lt_of_le hj1 (Nat.le_of_not_lt hlt)) hj

set_option maxRecDepth 100000 in
set_option maxHeartbeats 1000000 in
theorem ref20_Twin (x : LX XFrozen) (w : World) (hx : x.ok w w.heap.size XFrozen.cells) (hxs : ∀ z ∈ x.l, XFrozen.ok w w.heap.size z) (hs : x.l.length ≤ 1000000) (hss : ∀ z ∈ x.l, (XFrozen.data z).small) :
    Calls Try.prog 33 #[.slice x.A x.l.length x.c] w fun e w' => ∃ y : LX XFrozen, e = .returned (.slice y.A y.l.length y.c) ∧ y.l.map XFrozen.data = x.l.map XFrozen.data ∧ Go.Hx.Own w' w.heap.size 82 17 XFrozen.cells (.slice y.A y.l.length y.c) y.l ∧ (∀ z ∈ y.l, XFrozen.mine w' w.heap.size z) ∧ Ext w w' := by
  obtain ⟨l, A, c⟩ := x
  dsimp only at *
  have HXS := Lib.hid hxs
  have HSS := Lib.hid hss
  have HX := Lib.hid hx.1
  have HS := Lib.hid hs
  have hb : (l.length : Int) ≤ 1000000 := by omega
  clear hx hs hxs hss
  go_enter Try.func33, Try.ntmps33
  go_wp2_with fail
  go_loopw [3, 4] (fun v i wr => ∃ k : Nat, ∃ l', k ≤ l.length ∧ i = .int .i64 k ∧ Hid (RTw w l k v l' wr)) (fun _ i _ => l.length - (intOf i).toNat)
  case atStart => exact ⟨0, [], Nat.zero_le _, rfl, Lib.hid ⟨rfl, Go.Hx.Own.nil _ _ _ _ _, rfl, (fun _ h => by cases h), Ext.refl _⟩⟩
  case round =>
    obtain ⟨k, l', hk, rfl, HI⟩ := hrel
    by_cases hlt : k < l.length
    · obtain ⟨a, ha⟩ : ∃ a, l[k]? = some a := ⟨_, List.getElem?_eq_getElem hlt⟩
      have HM := Lib.hid (List.mem_of_getElem? ha)
      obtain ⟨g, o, rfl, hg, r1⟩ := Sl.row (size := 17) (fun _ => rfl) HX.out ha
      have HA := Lib.hid ha
      have G0 : Hid (∀ W, Ext w W → W.cell? ⟨g, o + k * 17, none⟩ = some (.int .i64 a.epoch)) := Lib.hid fun W hW => hW.cell (r1 0 _ rfl)
      have gR : Hid (∀ W, Ext w W → RowAt W g (o + k * 17 + 1) a.part.cells) := Lib.hid fun W hW j u hu => by rw [Nat.add_assoc _ 1 j, Nat.add_comm 1 j]; exact hW.cell (r1 (j + 1) u hu)
      have hli : (k : Int) < (l.length : Int) := by omega
      have HW := Lib.hid (show l'.length = k from HI.out.len)
      clear ha r1 hg
      go_wp2_with fail
      refine wp_region_chain (Ext w) (Ext wr) (fun i => if i = 11 ∨ i = 13 ∨ i = 14 then 1 else 0) (by kernel_rfl) (by kernel_rfl) HI.out.ext.drew' (Ext.drew _) ?_
      iterate 11 (first | (refine ctext_load_row 32 _ rfl rfl rfl _ _ a.part.cells rfl aggPart gR.out (fun K hK => ?_); go_simp; refine hK _ ?_; clear hK K) | (refine ctext_det rfl rfl ?_; apply Exists.intro; refine ⟨fun w hC => ?_, fun K hK => ?_⟩; (first | (go_simp; exact rfl) | (go_simp; rw [G0.out _ hC]; exact ⟨rfl, rfl⟩)); go_simp; refine hK _ ?_; clear hK K))
      refine ctext_chain (fun v => ∃ y : XPart, v = .agg #[.bool y.held.s.neg, .slice y.held.s.limbs.A y.held.s.limbs.l.length y.held.s.limbs.c, .int .i64 y.held.s.exp, .bool y.held.w.neg, .slice y.held.w.limbs.A y.held.w.limbs.l.length y.held.w.limbs.c, .int .i64 y.held.w.exp, .bool y.held.c.neg, .slice y.held.c.limbs.A y.held.c.limbs.l.length y.held.c.limbs.c, .int .i64 y.held.c.exp, .bool y.held.a.neg, .slice y.held.a.limbs.A y.held.a.limbs.l.length y.held.a.limbs.c, .int .i64 y.held.a.exp, .bool y.edge.has, .int .i64 y.edge.min, .int .i64 y.edge.max, .slice y.least.A y.least.l.length y.least.c]) (fun v W => ∃ y : XPart, v = .agg #[.bool y.held.s.neg, .slice y.held.s.limbs.A y.held.s.limbs.l.length y.held.s.limbs.c, .int .i64 y.held.s.exp, .bool y.held.w.neg, .slice y.held.w.limbs.A y.held.w.limbs.l.length y.held.w.limbs.c, .int .i64 y.held.w.exp, .bool y.held.c.neg, .slice y.held.c.limbs.A y.held.c.limbs.l.length y.held.c.limbs.c, .int .i64 y.held.c.exp, .bool y.held.a.neg, .slice y.held.a.limbs.A y.held.a.limbs.l.length y.held.a.limbs.c, .int .i64 y.held.a.exp, .bool y.edge.has, .int .i64 y.edge.min, .int .i64 y.edge.max, .slice y.least.A y.least.l.length y.least.c] ∧ y.data = a.part.data ∧ y.mine W w.heap.size ∧ Ext wr W) rfl rfl ⟨_, XPart.zero, rfl⟩ (fun w1 hC hJ Φ hΦ => ?_) (fun v hv K hK => ?_)
      · go_simp
        refine (ref20_TwinPart a.part _ ((HXS.out a HM.out).part.ext hC) (HSS.out a HM.out)).mono ?_
        rintro e w2 ⟨y, rfl, h1, h2, hE2⟩
        exact ⟨_, rfl, hΦ _ _ ⟨y, rfl⟩ (hC.trans hE2) ⟨y, rfl, h1, h2.lower hC.size, hJ.trans hE2⟩⟩
      obtain ⟨y0, rfl⟩ := hv
      go_simp; refine hK _ ?_; clear hK K
      iterate 1 (first | (refine ctext_load_row 32 _ rfl rfl rfl _ _ a.part.cells rfl aggPart gR.out (fun K hK => ?_); go_simp; refine hK _ ?_; clear hK K) | (refine ctext_det rfl rfl ?_; apply Exists.intro; refine ⟨fun w hC => ?_, fun K hK => ?_⟩; (first | (go_simp; exact rfl) | (go_simp; rw [G0.out _ hC]; exact ⟨rfl, rfl⟩)); go_simp; refine hK _ ?_; clear hK K))
      refine ctext_chain (fun v => ∃ g, v = .slice (some ⟨g, 0, none⟩) 1 1) (fun v W => ∃ W0 g, ∃ y : XPart, v = .slice (some ⟨g, 0, none⟩) 1 1 ∧ g = W0.heap.size ∧ W = W0.alloc (.cells (XFrozen.cells ⟨a.epoch, y⟩).toArray 82) ∧ y.data = a.part.data ∧ y.mine W0 w.heap.size ∧ Ext wr W0) rfl rfl ⟨_, 0, rfl⟩ (fun w1 hC hJ Φ hΦ => ?_) (fun v hv K hK => ?_)
      · obtain ⟨y, he, h1, h2, h3⟩ := hJ
        go_simp
        refine hΦ _ _ ⟨_, rfl⟩ (hC.alloc' _) ⟨w1, _, y, rfl, rfl, ?_, h1, h2, h3⟩
        have he2 : XPart.cells y0 = XPart.cells y := by
          injection he with he
          exact congrArg Array.toList he
        show w1.alloc (.cells (Value.int .i64 a.epoch :: XPart.cells y0).toArray 82) = w1.alloc (.cells (Value.int .i64 a.epoch :: XPart.cells y).toArray 82)
        rw [he2]
      obtain ⟨g2, rfl⟩ := hv
      go_simp; refine hK _ ?_; clear hK K
      refine ctext_chain (fun _ => True) (fun v W => ∃ l2, RTw w l (k + 1) v l2 W) rfl rfl ⟨undef, trivial⟩ (fun w1 hC hJ Φ hΦ => ?_) (fun v hv K hK => ?_)
      · obtain ⟨W0, g3, y, he, rfl, rfl, h1, h2, h3⟩ := hJ
        simp only [Value.slice.injEq, Option.some.injEq, Addr.mk.injEq, and_true] at he
        subst he
        refine und_app_one elFrozen (.tmp 11) (.tmp 24) rfl W0 w.heap.size XFrozen.cells _ l' ⟨a.epoch, y⟩ rfl (HI.out.own.ext h3) _ 1 rfl rfl rfl rfl (by have := HS.out; have := HW.out; omega) (by have := HS.out; have := HW.out; unfold maxLen; omega) (HI.out.ext.trans h3).size (fun v' w2 hown' hgrow => ?_)
        have := HI.out.next HA.out h1 h2 h3 hown' hgrow
        exact hΦ _ _ trivial this.ext ⟨_, this⟩
      go_simp; refine hK _ ?_; clear hK K
      iterate 1 (first | (refine ctext_load_row 32 _ rfl rfl rfl _ _ a.part.cells rfl aggPart gR.out (fun K hK => ?_); go_simp; refine hK _ ?_; clear hK K) | (refine ctext_det rfl rfl ?_; apply Exists.intro; refine ⟨fun w hC => ?_, fun K hK => ?_⟩; (first | (go_simp; exact rfl) | (go_simp; rw [G0.out _ hC]; exact ⟨rfl, rfl⟩)); go_simp; refine hK _ ?_; clear hK K))
      refine ctext_nil ?_
      rintro w2 _ ⟨l2, hR⟩
      have HR := Lib.hid hR
      clear hR
      go_wp2
      go_roundw
      case rel => exact ⟨k + 1, _, by omega, by go_num, HR⟩
      case measure => simp [intOf]; omega
    · have hk' : k = l.length := by omega
      go_wp2
      go_ret
      have h := HI.out
      obtain ⟨A', c', rfl, _⟩ := h.own.form
      exact ⟨⟨l', A', c'⟩, rfl, by rw [h.data, hk', List.take_length], h.own, h.mine, h.ext⟩
end Go.Proofs.Ytnlhpdlnbcdfjaa
