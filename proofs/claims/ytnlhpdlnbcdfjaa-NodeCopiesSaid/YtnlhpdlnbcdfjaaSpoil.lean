/- Data that a call owns is written over. -/
import Derived.Test.YtnlhpdlnbcdfjaaGreat
import Derived.Test.YtnlhpdlnbcdfjaaOwnSet
import Derived.Test.YtnlhpdlnbcdfjaaNodeTwin
namespace Go.Hx
open Go.RowKit
theorem Blk.shape {T : Nat → Prop} {base g t : Nat} {cs : List Value} {w w' : World} (h : Blk w g t cs) (k : Shape T base w w') (hT : ¬T t) : Blk w' g t cs := by
  rcases k.block g h.lt with h1 | ⟨_, c1, c2, e', hT', h2, _⟩
  · exact h1.trans h
  · unfold Blk at h
    rw [h] at h2
    cases h2
    exact absurd hT' hT
/-- the slices of a part -/
def XPart.rows (x : XPart) : List (LX Nat) := [x.held.s.limbs, x.held.w.limbs, x.held.c.limbs, x.held.a.limbs, x.least]
theorem XPart.fresh.rows {w : World} {B : Nat} {x : XPart} (h : x.fresh w B) : ∀ z ∈ x.rows, TRoom w B 91 z.A z.l.length := by
  intro z hz
  simp only [XPart.rows, List.mem_cons, List.not_mem_nil, or_false] at hz
  rcases hz with rfl | rfl | rfl | rfl | rfl
  · simpa using h.held.s.limbs
  · simpa using h.held.w.limbs
  · simpa using h.held.c.limbs
  · simpa using h.held.a.limbs
  · simpa using h.least
def cSl (z : LX Nat) : Value := .slice z.A z.l.length z.c
end Go.Hx
namespace Go.Proofs.Ytnlhpdlnbcdfjaa
open Go.RowKit Go.Hx
set_option maxRecDepth 100000 in
set_option maxHeartbeats 1000000 in
theorem spoilPart (x : XPart) (w : World) (B : Nat) (hB : B ≤ w.heap.size) (hx : x.fresh w B) (hl : ∀ z ∈ x.rows, z.l.length ≤ 1000000) :
    Calls Try.prog 44 #[.agg x.cells.toArray] w fun e w' => (∃ v, e = .returned v) ∧ Shape (fun e => e = 91) B w w' := by
  have HX := Lib.hid hx.rows
  have HL := Lib.hid hl
  have HB := Lib.hid hB
  clear hx hl hB
  show Calls Try.prog 44 #[.agg #[.bool x.held.s.neg, .slice x.held.s.limbs.A x.held.s.limbs.l.length x.held.s.limbs.c, .int .i64 x.held.s.exp, .bool x.held.w.neg, .slice x.held.w.limbs.A x.held.w.limbs.l.length x.held.w.limbs.c, .int .i64 x.held.w.exp, .bool x.held.c.neg, .slice x.held.c.limbs.A x.held.c.limbs.l.length x.held.c.limbs.c, .int .i64 x.held.c.exp, .bool x.held.a.neg, .slice x.held.a.limbs.A x.held.a.limbs.l.length x.held.a.limbs.c, .int .i64 x.held.a.exp, .bool x.edge.has, .int .i64 x.edge.min, .int .i64 x.edge.max, .slice x.least.A x.least.l.length x.least.c]] w _
  go_enter Try.func44, Try.ntmps44
  go_wp2_with fail
  have hB0 : Blk ((w.alloc (.cells x.cells.toArray 32)).alloc (.cells (x.rows.map cSl).toArray 24)) (w.heap.size + 1) 24 (x.rows.map cSl) := Blk.new (by simp)
  have hS0 : Shape (fun e => e = 91) B w ((w.alloc (.cells x.cells.toArray 32)).alloc (.cells (x.rows.map cSl).toArray 24)) := .of_ext (Ext.alloc' (Ext.alloc _ _) _)
  go_loopw [3] (fun i wr => ∃ k : Nat, k ≤ 5 ∧ i = .int .i64 k ∧ Hid (Shape (fun e => e = 91) B w wr ∧ Blk wr (w.heap.size + 1) 24 (x.rows.map cSl))) (fun i _ => 5 - (intOf i).toNat)
  case atStart => exact ⟨0, by omega, rfl, ⟨hS0, hB0⟩⟩
  case round =>
    clear hB0 hS0
    obtain ⟨k, hk, rfl, HI⟩ := hrel
    by_cases hlt : k < 5
    · obtain ⟨⟨zl, zA, zc⟩, hz⟩ : ∃ z, x.rows[k]? = some z := ⟨_, List.getElem?_eq_getElem (by simpa [XPart.rows] using hlt)⟩
      have HZ := Lib.hid hz
      have hn : (zl.length : Int) ≤ 1000000 := by have := HL.out _ (List.mem_of_getElem? hz); dsimp only at this; omega
      have hki : (k : Int) < 5 := by omega
      have hcell : wr.cell? ⟨w.heap.size + 1, k, none⟩ = some (.slice zA zl.length zc) := by rw [HI.out.2.cell, List.getElem?_map, hz]; rfl
      clear hz
      go_wp2_with fail
      clear hcell
      obtain ⟨wo, rfl⟩ : ∃ wo : World, wo = wr := ⟨_, rfl⟩
      go_loopw [4] (fun j wr => ∃ m : Nat, m ≤ zl.length ∧ j = .int .i64 m ∧ Hid (Shape (fun e => e = 91) B w wr ∧ Blk wr (w.heap.size + 1) 24 (x.rows.map cSl))) (fun j _ => zl.length - (intOf j).toNat)
      case atStart => exact ⟨0, by omega, rfl, HI⟩
      case round =>
        obtain ⟨m, hm, rfl, HJ⟩ := hrel
        have hcell : wr.cell? ⟨w.heap.size + 1, k, none⟩ = some (.slice zA zl.length zc) := by rw [HJ.out.2.cell, List.getElem?_map, HZ.out]; rfl
        by_cases hlm : m < zl.length
        · obtain ⟨g, u, rfl, hb, hc, hf, cur, hcur⟩ := ((HX.out _ (List.mem_of_getElem? HZ.out)).shape HJ.out.1).at hlm
          have hmi : (m : Int) < (zl.length : Int) := by omega
          have HN : Hid (Shape (fun e => e = 91) B w (wr.setCell ⟨g, m, none⟩ (.int .u32 7)) ∧ Blk (wr.setCell ⟨g, m, none⟩ (.int .u32 7)) (w.heap.size + 1) 24 (x.rows.map cSl)) := by
            have hS := (Shape.refl (fun e => e = 91) B wr).set hcur rfl hb m (.int .u32 7)
            exact ⟨HJ.out.1.trans hS, HJ.out.2.shape hS (by decide)⟩
          clear hcur hb
          go_wp2_with fail
          go_roundw
          case rel => exact ⟨m + 1, by omega, by go_num, HN⟩
          case measure => simp [intOf]; omega
        · have hme : m = zl.length := by omega
          go_wp2_with fail
          go_roundw
          case rel => exact ⟨k + 1, by omega, by go_num, HJ⟩
          case measure => simp [intOf]; omega
    · go_wp2_with fail
      go_end0
      exact ⟨⟨_, rfl⟩, HI.out.1⟩
end Go.Proofs.Ytnlhpdlnbcdfjaa
