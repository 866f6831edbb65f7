/- Words cut at a slash, and what must be. Printed by gen_cutt.py. -/
import Derived.Test.YtgcbnagfdfgpnaaDoorWordsAll23
import Derived.Test.YtgcbnagfdfgpnaaDoorWordsAll24
import Derived.Test.YtgcbnagfdfgpnaaDoorWordsAll5
import Derived.Lib.SmallJoins
namespace Go.Hx
open Go.RowKit
/-- a text's parts ahead of and behind its first slash -/
def cutL (s : List UInt8) : List UInt8 × List UInt8 × Bool :=
  if 0 ≤ Lib.indexByte s 47 then (s.take (Lib.indexByte s 47).toNat, s.drop ((Lib.indexByte s 47).toNat + 1), true) else (s, [], false)
end Go.Hx
namespace Go.Proofs.YtgcbnagfdfgpnaaDoor
open Go.RowKit Go.Hx
theorem results_tmp3 {P : Program} {fn : Func} {a b c : Tmp} (h : fn.results = #[.tmp a, .tmp b, .tmp c]) (tmps : Array Value) (w : World) {v : Value} (hv : v = .tuple #[tmps.getD a undef, tmps.getD b undef, tmps.getD c undef]) : (results fn tmps).run P w = .ok v w := by
  subst hv
  simp [results, h]
attribute [local go_sem] detUpon undIn
theorem must_yes (w : World) : Calls Tryd.prog 78 #[.bool true] w fun e w' => e = .returned (.tuple #[]) ∧ w' = w := by
  go_enter Tryd.func78, Tryd.ntmps78
  go_wp2_with fail
  first | go_end0 | refine bodyPost_ret (results_none rfl _ _ _) rfl ?_
  exact ⟨rfl, rfl⟩
theorem must_no (w : World) : Calls Tryd.prog 78 #[.bool false] w fun e w' => e = .panicked [{ v := wrongV, recovered := false }] ∧ w' = w := by
  go_enter Tryd.func78, Tryd.ntmps78
  go_wp2_with fail
  exact ⟨rfl, rfl, rfl⟩
set_option maxRecDepth 100000 in
theorem cut_in (s : List UInt8) (h : s.length < 65536) (w : World) : Calls Tryd.prog 125 #[.string ⟨s.toArray⟩, .string ⟨#[47]⟩] w fun e w' => e = .returned (.tuple #[.string ⟨(cutL s).1.toArray⟩, .string ⟨(cutL s).2.1.toArray⟩, .bool (cutL s).2.2]) ∧ Ext w w' := by
  obtain ⟨i, hi⟩ : ∃ i, Lib.indexByte s 47 = i := ⟨_, rfl⟩
  have hix := Tryd.stringslite_Index_one ⟨s.toArray⟩ 47 w
  have HI : Hid (Lib.indexByte s 47 = i) := Lib.hid hi
  rw [show (ByteArray.mk s.toArray).data.toList = s from rfl, hi] at hix
  clear hi
  go_enter Tryd.func125, Tryd.ntmps125
  by_cases h0 : 0 ≤ i
  · go_wp2_with fail
    refine hix.mono ?_
    rintro e w1 ⟨rfl, rfl⟩
    go_wp2_with fail
    have hlt : i.toNat < s.length := by
      have := Lib.indexByte_some (l := s) (c := 47) (o := i.toNat) (by rw [HI.out]; omega)
      exact (List.getElem?_eq_some_iff.1 this.1).1
    have HS1 : Hid (∀ W, (Instr.slice 9 (.string ⟨s.toArray⟩) none (some (.int .i64 i)) none).run Tryd.prog W = .ok (.string ⟨(s.take i.toNat).toArray⟩) W) := Lib.hid fun W => by
      rw [run_slice_string_h W 9 ⟨s.toArray⟩ Tryd.underlying9 .i64 i h0 (by show i ≤ (s.length : Int); omega), Go.ByteArray.extract_mk]
      simp
    have HS2 : Hid (∀ W, (Instr.slice 9 (.string ⟨s.toArray⟩) (some (.int .i64 (i + 1))) none none).run Tryd.prog W = .ok (.string ⟨(s.drop (i.toNat + 1)).toArray⟩) W) := Lib.hid fun W => by
      rw [run_slice_string_l W 9 ⟨s.toArray⟩ Tryd.underlying9 .i64 (i + 1) (by omega) (by show i + 1 ≤ (s.length : Int); omega), Go.ByteArray.extract_mk]
      rw [show (i + 1).toNat = i.toNat + 1 by omega, show (ByteArray.mk s.toArray).size = s.length from rfl, List.take_of_length_le (by rw [List.length_drop]; omega)]
    have hw1 : IntKind.i64.wrap (i + 1) = i + 1 := by rw [IntWalk.i64_in _ (by omega)]
    refine wp_region_flow (Ext w1) (fun _ => True) Ext (fun _ => .det) [] (by kernel_rfl) (by kernel_rfl) (by kernel_rfl) (Ext.drew _) trivial (keeps_true _) ?_
    iterate 12 (refine ftext_det rfl rfl ?_; apply Exists.intro; refine ⟨fun w hC => ?_, fun K hK => ?_⟩; (first | (go_simp; exact rfl) | (go_simp; exact ⟨rfl, rfl⟩) | (have h1 := HS1.out w; go_simp; first | exact rfl | exact ⟨rfl, rfl⟩) | (have h1 := HS2.out w; go_simp; first | exact rfl | exact ⟨rfl, rfl⟩)); go_simp; refine hK _ ?_; clear hK K)
    refine ftext_nil ?_
    rintro w2 hC _ _
    go_wp2_with fail
    refine bodyPost_ret (results_tmp3 rfl _ _ rfl) rfl ?_
    have hc : cutL s = (s.take i.toNat, s.drop (i.toNat + 1), true) := by unfold cutL; rw [HI.out, if_pos h0]
    rw [hc]
    exact ⟨rfl, hC⟩
  · go_wp2_with fail
    refine hix.mono ?_
    rintro e w1 ⟨rfl, rfl⟩
    go_wp2_with fail
    refine bodyPost_ret (results_tmp3 rfl _ _ rfl) rfl ?_
    have hc : cutL s = (s, [], false) := by unfold cutL; rw [HI.out, if_neg (by omega)]
    rw [hc]
    exact ⟨rfl, Ext.refl _⟩
theorem cut_slash (s : List UInt8) (h : s.length < 65536) (w : World) : Calls Tryd.prog 76 #[.string ⟨s.toArray⟩, .string ⟨#[47]⟩] w fun e w' => e = .returned (.tuple #[.string ⟨(cutL s).1.toArray⟩, .string ⟨(cutL s).2.1.toArray⟩, .bool (cutL s).2.2]) ∧ Ext w w' := by
  go_enter Tryd.func76, Tryd.ntmps76
  go_wp2_with fail
  refine (cut_in s h _).mono ?_
  rintro e w1 ⟨rfl, hE⟩
  go_wp2_with fail
  refine bodyPost_ret (results_tmp3 rfl _ _ rfl) rfl ?_
  exact ⟨rfl, hE⟩
/-- the library's error variable of range lies -/
def Era (w : World) : Prop := ∃ t p, w.cell? ⟨3, 0, none⟩ = some (.iface t p)
theorem Era.ext {w w' : World} (h : Era w) (k : Ext w w') : Era w' := by
  obtain ⟨t, p, h⟩ := h
  exact ⟨t, p, k.cell h⟩
theorem atoi_any (s : List UInt8) (h : s.length < 65536) (w : World) (hs : Esy w) (hr : Era w) :
    Calls Tryd.prog 77 #[.string ⟨s.toArray⟩] w fun e w' => (∃ v, e = .returned (.tuple #[.int .i64 v, .nilIface]) ∧ Lib.atoiAll s = .ok v ∧ Ext w w') ∨ (∃ u t p, e = .returned (.tuple #[.int .i64 u, .iface t p]) ∧ (∀ v, Lib.atoiAll s ≠ .ok v) ∧ Ext w w') := by
  have hsz : (ByteArray.mk s.toArray).size = s.length := rfl
  by_cases ho : ∃ v, Lib.atoiAll s = .ok v
  · obtain ⟨v, ha⟩ := ho
    refine (Tryd.strconv_Atoi_ok ⟨s.toArray⟩ (by omega) v ha w).mono ?_
    rintro e w1 ⟨rfl, h1⟩
    refine .inl ⟨v, rfl, ha, ?_⟩
    rcases h1 with rfl | ⟨t, rfl⟩
    · exact Ext.refl _
    · exact Go.Joins.below_bytesWorld _ w _ _ (Nat.le_refl _)
  have hno : ∀ v, Lib.atoiAll s ≠ .ok v := fun v hv => ho ⟨v, hv⟩
  by_cases hg : Lib.atoiAll s = .range
  · obtain ⟨t, p, hc⟩ := hr
    refine (Tryd.strconv_Atoi_range ⟨s.toArray⟩ (by omega) hg (.iface t p) w hc (.inr ⟨t, p, rfl⟩)).mono ?_
    rintro e w1 ⟨N, rfl, _, _, hB⟩
    exact .inr ⟨_, _, _, rfl, hno, hB⟩
  · obtain ⟨t, p, hc⟩ := hs
    refine (Tryd.strconv_Atoi_other ⟨s.toArray⟩ (by omega) hno hg (.iface t p) w hc (.inr ⟨t, p, rfl⟩)).mono ?_
    rintro e w1 ⟨N, rfl, _, _, hB⟩
    exact .inr ⟨_, _, _, rfl, hno, hB⟩
end Go.Proofs.YtgcbnagfdfgpnaaDoor
