/- The program's numbers under way: a limb of a number that is shifted. -/
import Derived.Test.YtgcbnagfdfgpnaaDoorOfD
namespace Go.Proofs.YtgcbnagfdfgpnaaDoor
open Go.RowKit Go.Hx
set_option maxRecDepth 100000 in
set_option maxHeartbeats 1000000 in
theorem sum_at1 (gp g n x : Nat) (s : Bool) (v1 v2 : Value) (l : List Nat) (w : World) (hp : w.cell? ⟨gp, 0, none⟩ = some (.pointer (some ⟨g, 0, none⟩))) (hB : Blk w g 139 (.bool s :: v1 :: v2 :: W32 l)) (hl : l.length = 74) (hx : l[n]?.getD 0 = x) (hx2 : x < B32) :
    Calls Tryd.prog 156 #[.int .i64 n, .pointer (some ⟨gp, 0, none⟩)] w fun e w' => e = .returned (.int .u64 x) ∧ w' = w := by
  by_cases hn : n < 74
  · have hlt : n < l.length := by omega
    have hc : w.cell? ⟨g, 3 + n, none⟩ = some (.int .u32 x) := by
      rw [hB.cell (3 + n), Nat.add_comm 3 n]
      show (W32 l)[n]? = _
      rw [List.getElem?_eq_getElem hlt] at hx
      exact W32.get (by rw [List.getElem?_eq_getElem hlt]; exact congrArg some hx)
    have hni : (n : Int) < 74 := by omega
    have hz64 : IntKind.u64.wrap (x : Int) = (x : Int) := wr64 x (Nat.lt_of_lt_of_le hx2 (by decide))
    clear hB hl hx hx2 hlt hn
    go_enter Tryd.func156, Tryd.ntmps156
    go_wp2_with fail
    go_ret
    exact ⟨rfl, rfl⟩
  · have hx0 : x = 0 := by rw [← hx]; exact getD_out (by omega)
    have hni : ¬ (n : Int) < 74 := by omega
    clear hB hl hx hx2 hn
    subst hx0
    go_enter Tryd.func156, Tryd.ntmps156
    go_wp2_with fail
    go_ret
    exact ⟨rfl, rfl⟩
set_option maxRecDepth 100000 in
set_option maxHeartbeats 1000000 in
theorem sum_at (g i k z : Nat) (s : Bool) (v1 v2 : Value) (l : List Nat) (w : World) (hB : Blk w g 139 (.bool s :: v1 :: v2 :: W32 l)) (hl : l.length = 74) (bl : Limbs l) (hi : i ≤ 100) (hk : k ≤ 5000) (hz : val B32 l / 2 ^ k / B32 ^ i % B32 = z) :
    Calls Tryd.prog 133 #[.pointer (some ⟨g, 0, none⟩), .int .i64 i, .int .i64 k] w fun e w' => e = .returned (.int .u32 z) ∧ Ext w w' := by
  obtain ⟨q, hq⟩ : ∃ q, k / 32 = q := ⟨_, rfl⟩
  obtain ⟨r, hr⟩ : ∃ r, k % 32 = r := ⟨_, rfl⟩
  have hqi : (k : Int) / 32 = (q : Int) := by omega
  have hri : (k : Int) % 32 = (r : Int) := by omega
  obtain ⟨iq, hiq⟩ : ∃ n, i + q = n := ⟨_, rfl⟩
  obtain ⟨iq1, hiq1⟩ : ∃ n, iq + 1 = n := ⟨_, rfl⟩
  have hw1 : IntKind.i64.wrap ((i : Int) + (q : Int)) = (iq : Int) := by rw [IntWalk.i64_in _ (by omega)]; omega
  have hw2 : IntKind.i64.wrap ((iq : Int) + 1) = (iq1 : Int) := by rw [IntWalk.i64_in _ (by omega)]; omega
  obtain ⟨x0, hx0⟩ : ∃ x, l[iq]?.getD 0 = x := ⟨_, rfl⟩
  obtain ⟨x1, hx1⟩ : ∃ x, l[iq1]?.getD 0 = x := ⟨_, rfl⟩
  have hl0 : x0 < B32 := by rw [← hx0]; exact bl.get _
  have hl1 : x1 < B32 := by rw [← hx1]; exact bl.get _
  have hr32 : r < 32 := by omega
  obtain ⟨A, hA⟩ : ∃ A, x1 * B32 + x0 = A := ⟨_, rfl⟩
  have hl0' : x0 < 4294967296 := hl0
  have hl1' : x1 < 4294967296 := hl1
  have hA' : x1 * 4294967296 + x0 = A := hA
  have hsh : IntKind.u64.wrap ((x1 : Int) * 4294967296) = ((x1 * 4294967296 : Nat) : Int) := by rw [← wr64 (x1 * 4294967296) (by omega)]; rfl
  have hor : bits .or .u64 ((x1 * 4294967296 : Nat) : Int) (x0 : Int) = (A : Int) := by
    rw [n64_or _ _ (by omega) (by omega), Nat.or_comm, Nat.mul_comm x1, show (4294967296 : Nat) = 2 ^ 32 from rfl, or_low (by simpa using hl0'), ← hA']
    congr 1
    omega
  have hfin : A / 2 ^ r % B32 = z := by
    rw [← hz, ← at_val, ← val_get (by decide) l bl, ← val_get (by decide) l bl, hq, hr, hiq, hiq1, hx0, hx1, hA]
  have HSH := Lib.hid hsh
  have HOR := Lib.hid hor
  have hfi : ((A / 2 ^ r : Nat) : Int) % 4294967296 = (z : Int) := by
    have h1 : (A / 2 ^ r) % 4294967296 = z := hfin
    rw [← h1]; rfl
  have hdv : (A : Int) / 2 ^ r = ((A / 2 ^ r : Nat) : Int) := by push_cast; rfl
  obtain ⟨D, hD⟩ : ∃ D, A / 2 ^ r = D := ⟨_, rfl⟩
  rw [hD] at hfi hdv
  have HFI := Lib.hid hfi
  have HDV := Lib.hid hdv
  have HB := Lib.hid hB
  have HX0 := Lib.hid (And.intro hx0 hl0)
  have HX1 := Lib.hid (And.intro hx1 hl1)
  have HL := Lib.hid hl
  obtain ⟨Y, hY⟩ : ∃ Y, x1 * 4294967296 = Y := ⟨_, rfl⟩
  rw [hY] at hsh hor
  clear hB hx0 hx1 hl0 hl1 hl0' hl1' hA hA' hfin hl bl hq hr hiq hiq1 hz hD hY HSH HOR HDV hfi
  go_enter Tryd.func133, Tryd.ntmps133
  have hcp : (w.alloc (.cells #[.pointer (some ⟨g, 0, none⟩)] 132)).cell? ⟨w.heap.size, 0, none⟩ = some (.pointer (some ⟨g, 0, none⟩)) := (Blk.new (cs := [.pointer (some ⟨g, 0, none⟩)]) rfl).cell 0
  have HCP := Lib.hid hcp
  clear hcp
  go_wp2_with fail
  refine (sum_at1 w.heap.size g iq1 x1 s v1 v2 l _ HCP.out (HB.out.alloc _) HL.out HX1.out.1 HX1.out.2).mono ?_
  rintro e w' ⟨rfl, rfl⟩
  go_wp2_with fail
  refine (sum_at1 w.heap.size g iq x0 s v1 v2 l _ HCP.out (HB.out.alloc _) HL.out HX0.out.1 HX0.out.2).mono ?_
  rintro e w' ⟨rfl, rfl⟩
  go_wp2_with fail
  rw [HFI.out]
  go_ret
  exact ⟨rfl, Ext.alloc _ _⟩
end Go.Proofs.YtgcbnagfdfgpnaaDoor
