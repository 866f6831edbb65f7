/- The program's numbers under way: widening a dyad. -/
import Derived.Test.YtgcbnagfdfgpnaaDoorWide
namespace Go.Proofs.YtgcbnagfdfgpnaaDoor
open Go.RowKit Go.Hx
theorem aggWide : AggTy Tryd.prog 136 74 := ⟨⟨_, Tryd.underlying136, rfl⟩, by kernel_rfl⟩
theorem zeroWide : Tryd.zeroCells136 = (W32 (List.replicate 74 0)).toArray := by kernel_rfl
set_option maxRecDepth 100000 in
set_option maxHeartbeats 1000000 in
theorem dyad_widen (x : XDyad) (e k : Nat) (w : World) (hx : x.ok w w.heap.size) (hb : Limbs x.limbs.l) (hl : x.limbs.l.length ≤ 40) (hk : (k : Int) = (e : Int) - x.exp) (hk2 : k ≤ 1024) :
    Calls Tryd.prog 71 #[.agg #[.bool x.neg, .slice x.limbs.A x.limbs.l.length x.limbs.c, .int .i64 x.exp], .int .i64 e] w fun e w' => ∃ l : List Nat, e = .returned (.agg (W32 l).toArray) ∧ l.length = 74 ∧ Limbs l ∧ val B32 l = 2 ^ k * val B32 x.limbs.l ∧ Ext w w' := by
  have hsub : IntKind.i64.wrap ((e : Int) - x.exp) = (k : Int) := by rw [← hk, IntWalk.i64_in _ (by omega)]
  have HX := Lib.hid hx
  have HB := Lib.hid hb
  have HLN := Lib.hid hl
  obtain ⟨q, hq⟩ : ∃ q, k / 32 = q := ⟨_, rfl⟩
  obtain ⟨r, hr⟩ : ∃ r, k % 32 = r := ⟨_, rfl⟩
  have hqi : (k : Int) / 32 = (q : Int) := by omega
  have hri : (k : Int) % 32 = (r : Int) := by omega
  have hq32 : q ≤ 32 := by omega
  have hr32 : r < 32 := by omega
  have HQ := Lib.hid hq
  have HR := Lib.hid hr
  clear hx hb hl hk hk2 hq hr
  go_enter Tryd.func71, Tryd.ntmps71
  go_wp2_with fail
  go_loopw [16] (fun i wr => ∃ j : Nat, ∃ l, j ≤ x.limbs.l.length ∧ i = .int .i64 j ∧ Hid (WidI x.limbs.l k j l) ∧ Hid (Blk wr (w.heap.size + 1) 136 (W32 l)) ∧ Hid (Ext w wr)) (fun i _ => x.limbs.l.length - (intOf i).toNat)
  case atStart => exact ⟨0, List.replicate 74 0, by omega, rfl, Lib.hid (WidI.begin _ _), Lib.hid (by rw [zeroWide]; exact Blk.new (by simp)), Lib.hid (Ext.alloc' (Ext.alloc _ _) _)⟩
  case round =>
    obtain ⟨i, l, hi, rfl, HI, HBk, HE⟩ := hrel
    have hl40 := HLN.out
    by_cases hlt : i < x.limbs.l.length
    · obtain ⟨b, off, hA, _, rr⟩ := Sl.row (size := 1) (fun _ => rfl) (HX.out.limbs.1.below HE.out.below) (List.getElem?_eq_getElem hlt)
      obtain ⟨z, hz⟩ : ∃ z, x.limbs.l[i] = z := ⟨_, rfl⟩
      have hc : wr.cell? ⟨b, off + i, none⟩ = some (.int .u32 z) := by have := rr 0 _ rfl; rw [hz] at this; simpa using this
      have HZ := Lib.hid (show x.limbs.l[i]? = some z by rw [List.getElem?_eq_getElem hlt, hz])
      have hzl : z < 4294967296 := by rw [← hz]; exact HB.out _ (List.getElem_mem hlt)
      have hii : (i : Int) < (x.limbs.l.length : Int) := by omega
      clear rr hz
      rw [hA]
      obtain ⟨iq, hiq⟩ : ∃ n, i + q = n := ⟨_, rfl⟩
      obtain ⟨iq1, hiq1⟩ : ∃ n, iq + 1 = n := ⟨_, rfl⟩
      have hw1 : IntKind.i64.wrap ((i : Int) + (q : Int)) = (iq : Int) := by have := HLN.out; rw [IntWalk.i64_in _ (by omega)]; omega
      have hw2 : IntKind.i64.wrap ((iq : Int) + 1) = (iq1 : Int) := by have := HLN.out; rw [IntWalk.i64_in _ (by omega)]; omega
      have hb1 : (iq : Int) < 74 := by have := HLN.out; omega
      have hb2 : (iq1 : Int) < 74 := by have := HLN.out; omega
      obtain ⟨c, hcc, hc0⟩ := RowAt.wide (HBk.out.row) (n := iq) (by rw [HI.out.len]; omega)
      obtain ⟨c1, hcc1, hc1'⟩ := RowAt.wide (HBk.out.row) (n := iq1) (by rw [HI.out.len]; omega)
      rw [Nat.zero_add] at hc0 hc1'
      have f0 : ∀ j, wr.frozen? ⟨w.heap.size + 1, j, none⟩ = false := HBk.out.free
      have hne : iq ≠ iq1 := by omega
      have hc1 : ∀ u, (wr.setCell ⟨w.heap.size + 1, iq, none⟩ u).cell? ⟨w.heap.size + 1, iq1, none⟩ = some (.int .u32 c1) := fun u => by
        rw [(HBk.out.set iq u).cell iq1, List.getElem?_set_ne hne, ← HBk.out.cell iq1]; exact hc1'
      have f1 : ∀ u j, (wr.setCell ⟨w.heap.size + 1, iq, none⟩ u).frozen? ⟨w.heap.size + 1, j, none⟩ = false := fun u => (HBk.out.set iq u).free
      have hz64 : IntKind.u64.wrap (z : Int) = (z : Int) := wr64 z (by omega)
      obtain ⟨S, hS⟩ : ∃ S, z * 2 ^ r = S := ⟨_, rfl⟩
      have hS64 : S < 18446744073709551616 := by
        have h1 : 2 ^ r ≤ 2 ^ 32 := Nat.pow_le_pow_right (by omega) (by omega)
        have h2 : z * 2 ^ r ≤ 4294967295 * 2 ^ 32 := Nat.mul_le_mul (by omega) h1
        rw [hS] at h2
        omega
      have hsh : IntKind.u64.wrap ((z : Int) * 2 ^ r) = (S : Int) := by
        rw [← hS, ← wr64 (z * 2 ^ r) (by rw [hS]; exact hS64)]
        congr 1
      obtain ⟨lo, hlo⟩ : ∃ n, S % 4294967296 = n := ⟨_, rfl⟩
      obtain ⟨hh, hhh⟩ : ∃ n, S / 4294967296 = n := ⟨_, rfl⟩
      have hloi : (S : Int) % 4294967296 = (lo : Int) := by omega
      have hhi1 : (S : Int) / 4294967296 = (hh : Int) := by omega
      have hhi2 : (hh : Int) % 4294967296 = (hh : Int) := by omega
      have hN := HI.out.next HZ.out hzl (lo := lo) (hi := hh) (c := c) (by have := HLN.out; rw [HQ.out]; omega) (by rw [HQ.out, hiq]; exact hcc) (by rw [HR.out, hS]; exact hlo) (by rw [HR.out, hS]; exact hhh)
      rw [HQ.out, hiq, hiq1] at hN
      obtain ⟨hN, hv, hhl⟩ := hN
      have hc10 : c1 = 0 := by rw [← hcc1]; exact HI.out.zero _ (by rw [HQ.out]; omega)
      have hcl : c < B32 := by rw [← hcc]; exact HI.out.limbs.get _
      have hol : lo < B32 := by show lo < 4294967296; omega
      obtain ⟨v, hvv⟩ : ∃ v, c ||| lo = v := ⟨_, rfl⟩
      rw [hvv] at hN hv
      have hor : bits .or .u32 (c : Int) (lo : Int) = (v : Int) := by rw [n32_or _ _ hcl hol, hvv]
      have hor2 : bits .or .u32 (c1 : Int) (hh : Int) = (hh : Int) := by rw [n32_or _ _ (by rw [hc10]; decide) hhl, hc10, Nat.zero_or]
      have HN := Lib.hid hN
      clear hcc hcc1 hc1' hS hS64 hlo hhh hN hv hhl hc10 hcl hol hvv hne hzl hiq hiq1
      go_wp2_with fail
      go_roundw
      case rel =>
        have hln := HLN.out
        exact ⟨i + 1, _, by omega, by go_num, HN, Lib.hid (by rw [← W32.set, ← W32.set]; exact (HBk.out.set iq _).set iq1 _), Lib.hid (by
        exact (HE.out.setCell' (p := ⟨w.heap.size + 1, iq, none⟩) (by show w.heap.size ≤ w.heap.size + 1; omega) _).setCell' (p := ⟨w.heap.size + 1, iq1, none⟩) (by show w.heap.size ≤ w.heap.size + 1; omega) _)⟩
      case measure => have hln := HLN.out; simp [intOf]; omega
    · have hie : i = x.limbs.l.length := by omega
      have HD : Hid (val B32 l = 2 ^ k * val B32 x.limbs.l) := Lib.hid (by have := HI.out; rw [hie] at this; exact this.done)
      have hii : ¬ (i : Int) < (x.limbs.l.length : Int) := by omega
      clear hie
      have hT : AggTy Tryd.prog 136 (W32 l).length := by rw [W32.len, HI.out.len]; exact aggWide
      have HT := Lib.hid hT
      clear hT
      go_wp2_with (first | ((with_reducible refine wpl_load 136 (.tmp 4) ?_ ?_ (w.heap.size + 1) 0 (W32 l) ?_ ?_ ?_ ?_); (exact rfl); (exact rfl); (exact rfl); (exact HT.out); (exact HBk.out.row)) | ((with_reducible refine wpl_store 136 (.tmp 4) (.tmp 49) ?_ ?_ (w.heap.size + 1) 0 136 (W32 l) (W32 l) ?_ ?_ ?_ ?_ ?_ ?_ ?_); (exact rfl); (exact rfl); (exact rfl); (exact rfl); (exact HT.out); (exact HBk.out); (exact by omega); (exact W32.one l); (intro w4 BR hO)) | fail)
      rw [show (W32 l).take 0 ++ W32 l ++ (W32 l).drop (0 + (W32 l).length) = W32 l by simp] at BR
      exact bodyPost_ret (results_c rfl rfl BR HT.out) rfl ⟨l, rfl, HI.out.len, HI.out.limbs, HD.out, Only.ext HE.out hO (by omega)⟩
end Go.Proofs.YtgcbnagfdfgpnaaDoor
