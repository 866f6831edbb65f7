/- A node that a call owns is written over. Printed by gen_spoil.py. -/
import Derived.Test.YtnlhpdlnbcdfjaaSpoil
namespace Go.Hx
open Go.RowKit
def T5 (e : Nat) : Prop := e = 91 ∨ e = 82 ∨ e = 3 ∨ e = 79 ∨ e = 84
structure SpI (w : World) (B : Nat) (cN : List Value) (pA : Option Addr) (pl : List XFrozen) (wr : World) : Prop where
  shape : Shape T5 B w wr
  blk : Blk wr w.heap.size 42 cN
  room : TRoom wr B 82 pA (pl.length * 17)
  past : ∀ g j a, pA = some ⟨g, 0, none⟩ → pl[j]? = some a → RowAt wr g (j * 17 + 1) (XFrozen.part a).cells
section
variable {w wr w2 : World} {B : Nat} {cN : List Value} {pA : Option Addr} {pl : List XFrozen}
theorem SpI.typed (h : SpI w B cN pA pl wr) {g j : Nat} {a : XFrozen} (hA : pA = some ⟨g, 0, none⟩) (ha : pl[j]? = some a) : ∃ cur, wr.heap[g]? = some (.cells cur 82 (0, 0)) := by
  have hlt := (List.getElem?_eq_some_iff.1 ha).1
  rcases h.room with h0 | ⟨g', cur, hA', _, hg, _⟩
  · omega
  · rw [hA] at hA'
    cases hA'
    exact ⟨cur, hg⟩
theorem SpI.step {T : Nat → Prop} (h : SpI w B cN pA pl wr) (k : Shape T B wr w2) (hT : ∀ e, T e → T5 e ∧ e ≠ 82 ∧ e ≠ 42) : SpI w B cN pA pl w2 :=
  ⟨h.shape.trans (k.mono fun e he => (hT e he).1), h.blk.shape k (fun he => (hT _ he).2.2 rfl), h.room.shape k, fun g j a hA ha => by
    obtain ⟨cur, hg⟩ := h.typed hA ha
    exact (h.past g j a hA ha).shape k hg fun he => (hT _ he).2.1 rfl⟩
theorem SpI.epoch {g i : Nat} (h : SpI w B cN (some ⟨g, 0, none⟩) pl wr) {cur : Array Value} (hg : wr.heap[g]? = some (.cells cur 82 (0, 0))) (hb : B ≤ g) (u : Value) : SpI w B cN (some ⟨g, 0, none⟩) pl (wr.setCell ⟨g, i * 17, none⟩ u) := by
  have k : Shape (fun e => e = 82) B wr (wr.setCell ⟨g, i * 17, none⟩ u) := (Shape.refl (fun e => e = 82) B wr).set hg rfl hb _ _
  refine ⟨h.shape.trans (k.mono fun e he => .inr (.inl he)), h.blk.shape k (by decide), h.room.shape k, fun g' j a hA ha t v hv => ?_⟩
  have ht : t < 16 := by have := (List.getElem?_eq_some_iff.1 hv).1; simpa [XPart.cells_length] using this
  simp only [Option.some.injEq, Addr.mk.injEq, and_true] at hA
  subst hA
  rw [← h.past g j a rfl ha t v hv]
  exact World.cell?_setCell_other _ _ _ _ (fun e => by simp only [Addr.mk.injEq, and_true, true_and] at e; omega)
end
end Go.Hx
namespace Go.Proofs.Ytnlhpdlnbcdfjaa
open Go.RowKit Go.Hx
set_option maxRecDepth 100000 in
set_option maxHeartbeats 4000000 in
theorem spoil (x : XNode) (w : World) (B : Nat) (hB : B ≤ w.heap.size) (hx : x.mine w B) (hs : x.data.small) :
    Calls Try.prog 18 #[.agg #[.int .i64 x.id, .int .i64 x.value, .bool x.up, .int .i64 x.clock.len, .int .i64 x.clock.tick, .int .i64 x.clock.since, .int .i64 x.clock.epoch, .int .i64 x.clock.from_, .bool x.part.held.s.neg, .slice x.part.held.s.limbs.A x.part.held.s.limbs.l.length x.part.held.s.limbs.c, .int .i64 x.part.held.s.exp, .bool x.part.held.w.neg, .slice x.part.held.w.limbs.A x.part.held.w.limbs.l.length x.part.held.w.limbs.c, .int .i64 x.part.held.w.exp, .bool x.part.held.c.neg, .slice x.part.held.c.limbs.A x.part.held.c.limbs.l.length x.part.held.c.limbs.c, .int .i64 x.part.held.c.exp, .bool x.part.held.a.neg, .slice x.part.held.a.limbs.A x.part.held.a.limbs.l.length x.part.held.a.limbs.c, .int .i64 x.part.held.a.exp, .bool x.part.edge.has, .int .i64 x.part.edge.min, .int .i64 x.part.edge.max, .slice x.part.least.A x.part.least.l.length x.part.least.c, .bool x.wait.out, .int .i64 x.wait.number, .int .i64 x.wait.to, .slice x.heard.A x.heard.l.length x.heard.c, .int .i64 x.cache.own, .int .i64 x.cache.cap, .slice x.cache.list.A x.cache.list.l.length x.cache.list.c, .slice x.past.A x.past.l.length x.past.c, .slice x.timers.A x.timers.l.length x.timers.c]] w fun e w' => (∃ v, e = .returned v) ∧ Shape T5 B w w' := by
  obtain ⟨id, value, up, clock, part, wait, ⟨hl, hA, hc⟩, ⟨own, cap, ⟨cl, cA, cc⟩⟩, ⟨pl, pA, pc⟩, ⟨tl, tA, tc⟩⟩ := x
  obtain ⟨h1, h2, h3, h4, h5, h6⟩ := hx.fresh
  obtain ⟨s1, s2, s3, s4, s5, s6⟩ := hs
  have hown := hx.past
  dsimp only [XNode.data, XCache.data, PCache.small] at *
  have HR : Hid (∀ z ∈ part.rows, z.l.length ≤ 1000000) := Lib.hid fun z hz => by
    simp only [XPart.rows, List.mem_cons, List.not_mem_nil, or_false] at hz
    rcases hz with rfl | rfl | rfl | rfl | rfl
    · exact s1.1.1
    · exact s1.1.2.1
    · exact s1.1.2.2.1
    · exact s1.1.2.2.2
    · exact s1.2
  have HRS : Hid (∀ a ∈ pl, ∀ z ∈ (XFrozen.part a).rows, z.l.length ≤ 1000000) := Lib.hid fun a ha z hz => by
    have s1 := s5 _ (List.mem_map.2 ⟨a, ha, rfl⟩)
    simp only [XPart.rows, List.mem_cons, List.not_mem_nil, or_false] at hz
    rcases hz with rfl | rfl | rfl | rfl | rfl
    · exact s1.1.1
    · exact s1.1.2.1
    · exact s1.1.2.2.1
    · exact s1.1.2.2.2
    · exact s1.2
  have hnp : (pl.length : Int) ≤ 1000000 := by rw [List.length_map] at s4; omega
  have hnh : (hl.length : Int) ≤ 1000000 := by omega
  have hnt : (tl.length : Int) ≤ 1000000 := by omega
  have hnc : (cl.length : Int) ≤ 1000000 := by have : cl.length ≤ 1000000 := s3; omega
  have H1 := Lib.hid h1
  have H2 := Lib.hid h2
  have H3 := Lib.hid h3.list
  have H5 := Lib.hid h5
  have H6 := Lib.hid h6
  have HB := Lib.hid hB
  have HI0 : Hid (SpI w B [.int .i64 id, .int .i64 value, .bool up, .int .i64 clock.len, .int .i64 clock.tick, .int .i64 clock.since, .int .i64 clock.epoch, .int .i64 clock.from_, .bool part.held.s.neg, .slice part.held.s.limbs.A part.held.s.limbs.l.length part.held.s.limbs.c, .int .i64 part.held.s.exp, .bool part.held.w.neg, .slice part.held.w.limbs.A part.held.w.limbs.l.length part.held.w.limbs.c, .int .i64 part.held.w.exp, .bool part.held.c.neg, .slice part.held.c.limbs.A part.held.c.limbs.l.length part.held.c.limbs.c, .int .i64 part.held.c.exp, .bool part.held.a.neg, .slice part.held.a.limbs.A part.held.a.limbs.l.length part.held.a.limbs.c, .int .i64 part.held.a.exp, .bool part.edge.has, .int .i64 part.edge.min, .int .i64 part.edge.max, .slice part.least.A part.least.l.length part.least.c, .bool wait.out, .int .i64 wait.number, .int .i64 wait.to, .slice hA hl.length hc, .int .i64 own, .int .i64 cap, .slice cA cl.length cc, .slice pA pl.length pc, .slice tA tl.length tc] pA pl (w.alloc (.cells #[.int .i64 id, .int .i64 value, .bool up, .int .i64 clock.len, .int .i64 clock.tick, .int .i64 clock.since, .int .i64 clock.epoch, .int .i64 clock.from_, .bool part.held.s.neg, .slice part.held.s.limbs.A part.held.s.limbs.l.length part.held.s.limbs.c, .int .i64 part.held.s.exp, .bool part.held.w.neg, .slice part.held.w.limbs.A part.held.w.limbs.l.length part.held.w.limbs.c, .int .i64 part.held.w.exp, .bool part.held.c.neg, .slice part.held.c.limbs.A part.held.c.limbs.l.length part.held.c.limbs.c, .int .i64 part.held.c.exp, .bool part.held.a.neg, .slice part.held.a.limbs.A part.held.a.limbs.l.length part.held.a.limbs.c, .int .i64 part.held.a.exp, .bool part.edge.has, .int .i64 part.edge.min, .int .i64 part.edge.max, .slice part.least.A part.least.l.length part.least.c, .bool wait.out, .int .i64 wait.number, .int .i64 wait.to, .slice hA hl.length hc, .int .i64 own, .int .i64 cap, .slice cA cl.length cc, .slice pA pl.length pc, .slice tA tl.length tc] 42))) := Lib.hid ⟨.of_ext (Ext.alloc _ _), Blk.new rfl, h4.ext (Ext.alloc _ _), fun g j a hA' ha t v hv => by
    subst hA'
    obtain ⟨b, o, hbo, _, r1⟩ := Sl.row (size := 17) (fun _ => rfl) (Go.Hx.Own.ok hown).1 ha
    simp only [Option.some.injEq, Addr.mk.injEq, and_true] at hbo
    obtain ⟨rfl, rfl⟩ := hbo
    have := r1 (t + 1) v hv
    rw [Nat.zero_add, ← Nat.add_assoc, Nat.add_right_comm] at this
    exact (Ext.alloc _ _).cell this⟩
  clear h1 h2 h3 h4 h5 h6 s1 s2 s3 s4 s5 s6 hown hx hB
  obtain ⟨c0, f0⟩ := HI0.out.blk.rules
  go_enter Try.func18, Try.ntmps18
  go_wp2_with (first | ((with_reducible refine wpl_load 32 (.tmp 6) ?_ ?_ (w.heap.size) 8 part.cells ?_ ?_ ?_ ?_); (exact rfl); (exact rfl); (exact rfl); (exact aggPart); (exact HI0.out.blk.part 8 16)) | fail)
  refine (spoilPart part _ B (by have := HB.out; simp; omega) (H1.out.ext (Ext.alloc _ _)) HR.out).mono ?_
  rintro e w1 ⟨⟨v, rfl⟩, hS⟩
  have HI1 := Lib.hid (HI0.out.step hS (by rintro e rfl; exact ⟨.inl rfl, by decide, by decide⟩))
  clear hS c0 f0 HI0 HR H1
  go_wp2_with fail
  go_loopw [2] (fun i wr => ∃ k : Nat, k ≤ pl.length ∧ i = .int .i64 k ∧ Hid (SpI w B [.int .i64 id, .int .i64 value, .bool up, .int .i64 clock.len, .int .i64 clock.tick, .int .i64 clock.since, .int .i64 clock.epoch, .int .i64 clock.from_, .bool part.held.s.neg, .slice part.held.s.limbs.A part.held.s.limbs.l.length part.held.s.limbs.c, .int .i64 part.held.s.exp, .bool part.held.w.neg, .slice part.held.w.limbs.A part.held.w.limbs.l.length part.held.w.limbs.c, .int .i64 part.held.w.exp, .bool part.held.c.neg, .slice part.held.c.limbs.A part.held.c.limbs.l.length part.held.c.limbs.c, .int .i64 part.held.c.exp, .bool part.held.a.neg, .slice part.held.a.limbs.A part.held.a.limbs.l.length part.held.a.limbs.c, .int .i64 part.held.a.exp, .bool part.edge.has, .int .i64 part.edge.min, .int .i64 part.edge.max, .slice part.least.A part.least.l.length part.least.c, .bool wait.out, .int .i64 wait.number, .int .i64 wait.to, .slice hA hl.length hc, .int .i64 own, .int .i64 cap, .slice cA cl.length cc, .slice pA pl.length pc, .slice tA tl.length tc] pA pl wr)) (fun i _ => pl.length - (intOf i).toNat)
  case atStart => exact ⟨0, by omega, rfl, HI1⟩
  case round =>
    obtain ⟨k, hk, rfl, HI⟩ := hrel
    clear HI1
    obtain ⟨c0, f0⟩ := HI.out.blk.rules
    by_cases hlt : k < pl.length
    · obtain ⟨a, ha⟩ : ∃ a, pl[k]? = some a := ⟨_, List.getElem?_eq_getElem hlt⟩
      obtain ⟨g, u, rfl, hb, hcell, hf, cur, hcur⟩ := HI.out.room.at (j := k * 17) (by omega)
      have hrow := Lib.hid (HI.out.past g k a rfl ha)
      have HM := Lib.hid (List.mem_of_getElem? ha)
      have HG := Lib.hid hb
      have hki : (k : Int) < (pl.length : Int) := by omega
      clear ha hcell hf hcur hb
      go_wp2_with (first | ((with_reducible refine wpl_load 32 (.tmp 20) ?_ ?_ (g) (k * 17 + 1) a.part.cells ?_ ?_ ?_ ?_); (exact rfl); (exact rfl); (exact rfl); (exact aggPart); (exact hrow.out)) | fail)
      refine (spoilPart a.part _ B (Nat.le_trans HB.out HI.out.shape.size) ((H5.out a HM.out).part.shape HI.out.shape) (HRS.out a HM.out)).mono ?_
      rintro e w2 ⟨⟨v, rfl⟩, hS⟩
      have HJ := Lib.hid (HI.out.step hS (by rintro e rfl; exact ⟨.inl rfl, by decide, by decide⟩))
      clear hS c0 f0
      obtain ⟨c2, f2⟩ := HJ.out.blk.rules
      obtain ⟨g', u', hg', _, hcell, hf, cur', hcur'⟩ := HJ.out.room.at (j := k * 17) (by omega)
      simp only [Option.some.injEq, Addr.mk.injEq, and_true] at hg'
      subst hg'
      have HK := Lib.hid (HJ.out.epoch (i := k) hcur' HG.out (.int .i64 (-7)))
      clear hcur'
      go_wp2_with fail
      go_roundw
      case rel => exact ⟨k + 1, by omega, by go_num, HK⟩
      case measure => simp [intOf]; omega
    · go_wp2_with fail
      obtain ⟨wo, rfl⟩ : ∃ wo : World, wo = wr := ⟨_, rfl⟩
      go_loopw [3] (fun i wr => ∃ k : Nat, k ≤ hl.length ∧ i = .int .i64 k ∧ Hid (SpI w B [.int .i64 id, .int .i64 value, .bool up, .int .i64 clock.len, .int .i64 clock.tick, .int .i64 clock.since, .int .i64 clock.epoch, .int .i64 clock.from_, .bool part.held.s.neg, .slice part.held.s.limbs.A part.held.s.limbs.l.length part.held.s.limbs.c, .int .i64 part.held.s.exp, .bool part.held.w.neg, .slice part.held.w.limbs.A part.held.w.limbs.l.length part.held.w.limbs.c, .int .i64 part.held.w.exp, .bool part.held.c.neg, .slice part.held.c.limbs.A part.held.c.limbs.l.length part.held.c.limbs.c, .int .i64 part.held.c.exp, .bool part.held.a.neg, .slice part.held.a.limbs.A part.held.a.limbs.l.length part.held.a.limbs.c, .int .i64 part.held.a.exp, .bool part.edge.has, .int .i64 part.edge.min, .int .i64 part.edge.max, .slice part.least.A part.least.l.length part.least.c, .bool wait.out, .int .i64 wait.number, .int .i64 wait.to, .slice hA hl.length hc, .int .i64 own, .int .i64 cap, .slice cA cl.length cc, .slice pA pl.length pc, .slice tA tl.length tc] pA pl wr)) (fun i _ => hl.length - (intOf i).toNat)
      case atStart => exact ⟨0, by omega, rfl, HI⟩
      case round =>
        clear HI c0 f0 hlt
        obtain ⟨m, hm, rfl, HI⟩ := hrel
        obtain ⟨c0, f0⟩ := HI.out.blk.rules
        by_cases hlt : m < hl.length
        · obtain ⟨g, u, rfl, hb, hcell, hf, cur, hcur⟩ := (H2.out.shape HI.out.shape).at (j := m) (by omega)
          have HK := Lib.hid (HI.out.step ((Shape.refl (fun e => e = 3) B wr).set hcur rfl hb (m) (.int .i64 (-7))) (by rintro e rfl; exact ⟨by unfold T5; decide, by decide, by decide⟩))
          have hki : (m : Int) < (hl.length : Int) := by omega
          clear hcur hb
          go_wp2_with fail
          go_roundw
          case rel => exact ⟨m + 1, by omega, by go_num, HK⟩
          case measure => simp [intOf]; omega
        · go_wp2_with fail
          obtain ⟨wo, rfl⟩ : ∃ wo : World, wo = wr := ⟨_, rfl⟩
          go_loopw [4] (fun i wr => ∃ k : Nat, k ≤ tl.length ∧ i = .int .i64 k ∧ Hid (SpI w B [.int .i64 id, .int .i64 value, .bool up, .int .i64 clock.len, .int .i64 clock.tick, .int .i64 clock.since, .int .i64 clock.epoch, .int .i64 clock.from_, .bool part.held.s.neg, .slice part.held.s.limbs.A part.held.s.limbs.l.length part.held.s.limbs.c, .int .i64 part.held.s.exp, .bool part.held.w.neg, .slice part.held.w.limbs.A part.held.w.limbs.l.length part.held.w.limbs.c, .int .i64 part.held.w.exp, .bool part.held.c.neg, .slice part.held.c.limbs.A part.held.c.limbs.l.length part.held.c.limbs.c, .int .i64 part.held.c.exp, .bool part.held.a.neg, .slice part.held.a.limbs.A part.held.a.limbs.l.length part.held.a.limbs.c, .int .i64 part.held.a.exp, .bool part.edge.has, .int .i64 part.edge.min, .int .i64 part.edge.max, .slice part.least.A part.least.l.length part.least.c, .bool wait.out, .int .i64 wait.number, .int .i64 wait.to, .slice hA hl.length hc, .int .i64 own, .int .i64 cap, .slice cA cl.length cc, .slice pA pl.length pc, .slice tA tl.length tc] pA pl wr)) (fun i _ => tl.length - (intOf i).toNat)
          case atStart => exact ⟨0, by omega, rfl, HI⟩
          case round =>
            clear HI c0 f0 hlt
            obtain ⟨m, hm, rfl, HI⟩ := hrel
            obtain ⟨c0, f0⟩ := HI.out.blk.rules
            by_cases hlt : m < tl.length
            · obtain ⟨g, u, rfl, hb, hcell, hf, cur, hcur⟩ := (H6.out.shape HI.out.shape).at (j := m * 2) (by omega)
              have HK := Lib.hid (HI.out.step ((Shape.refl (fun e => e = 79) B wr).set hcur rfl hb (m * 2) (.int .i64 (-7))) (by rintro e rfl; exact ⟨by unfold T5; decide, by decide, by decide⟩))
              have hki : (m : Int) < (tl.length : Int) := by omega
              clear hcur hb
              go_wp2_with fail
              go_roundw
              case rel => exact ⟨m + 1, by omega, by go_num, HK⟩
              case measure => simp [intOf]; omega
            · go_wp2_with fail
              obtain ⟨wo, rfl⟩ : ∃ wo : World, wo = wr := ⟨_, rfl⟩
              go_loopw [5] (fun i wr => ∃ k : Nat, k ≤ cl.length ∧ i = .int .i64 k ∧ Hid (SpI w B [.int .i64 id, .int .i64 value, .bool up, .int .i64 clock.len, .int .i64 clock.tick, .int .i64 clock.since, .int .i64 clock.epoch, .int .i64 clock.from_, .bool part.held.s.neg, .slice part.held.s.limbs.A part.held.s.limbs.l.length part.held.s.limbs.c, .int .i64 part.held.s.exp, .bool part.held.w.neg, .slice part.held.w.limbs.A part.held.w.limbs.l.length part.held.w.limbs.c, .int .i64 part.held.w.exp, .bool part.held.c.neg, .slice part.held.c.limbs.A part.held.c.limbs.l.length part.held.c.limbs.c, .int .i64 part.held.c.exp, .bool part.held.a.neg, .slice part.held.a.limbs.A part.held.a.limbs.l.length part.held.a.limbs.c, .int .i64 part.held.a.exp, .bool part.edge.has, .int .i64 part.edge.min, .int .i64 part.edge.max, .slice part.least.A part.least.l.length part.least.c, .bool wait.out, .int .i64 wait.number, .int .i64 wait.to, .slice hA hl.length hc, .int .i64 own, .int .i64 cap, .slice cA cl.length cc, .slice pA pl.length pc, .slice tA tl.length tc] pA pl wr)) (fun i _ => cl.length - (intOf i).toNat)
              case atStart => exact ⟨0, by omega, rfl, HI⟩
              case round =>
                clear HI c0 f0 hlt
                obtain ⟨m, hm, rfl, HI⟩ := hrel
                obtain ⟨c0, f0⟩ := HI.out.blk.rules
                by_cases hlt : m < cl.length
                · obtain ⟨g, u, rfl, hb, hcell, hf, cur, hcur⟩ := (H3.out.shape HI.out.shape).at (j := m * 2) (by omega)
                  have HK := Lib.hid (HI.out.step ((Shape.refl (fun e => e = 84) B wr).set hcur rfl hb (m * 2) (.int .i64 (-7))) (by rintro e rfl; exact ⟨by unfold T5; decide, by decide, by decide⟩))
                  have hki : (m : Int) < (cl.length : Int) := by omega
                  clear hcur hb
                  go_wp2_with fail
                  go_roundw
                  case rel => exact ⟨m + 1, by omega, by go_num, HK⟩
                  case measure => simp [intOf]; omega
                · go_wp2_with fail
                  go_end0
                  exact ⟨⟨_, rfl⟩, HI.out.shape⟩
end Go.Proofs.Ytnlhpdlnbcdfjaa
