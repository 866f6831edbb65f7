/- Numbers in digits to the base of 16, by the library. Printed by gen_hext.py. -/
import Derived.Test.YtgcbnagfdfgpnaaDoorWordsAll15
import Derived.Test.YtgcbnagfdfgpnaaDoorWordsAll7
namespace Go.Hx
open Go.RowKit
/-- a digit to the base of 16 -/
def hexd (d : Nat) : UInt8 := UInt8.ofNat (if d < 10 then 48 + d else 87 + d)
/-- the digits of a number to the base of 16, with no 0 ahead -/
def hexL (n : Nat) : List UInt8 := if n < 16 then [hexd n] else hexL (n / 16) ++ [hexd (n % 16)]
termination_by n
decreasing_by omega
theorem hexL_small {n : Nat} (h : n < 16) : hexL n = [hexd n] := by rw [hexL, if_pos h]
theorem hexL_step {n : Nat} (h : ¬ n < 16) : hexL n = hexL (n / 16) ++ [hexd (n % 16)] := by rw [hexL, if_neg h]
def cU8s (l : List UInt8) : List Value := l.map fun b => .int .u8 (b.toNat : Int)
theorem hexd_toNat {d : Nat} (h : d < 16) : (hexd d).toNat = if d < 10 then 48 + d else 87 + d := by
  unfold hexd
  rw [UInt8.toNat_ofNat']
  split <;> omega
/-- the array of digits, filled from its end -/
def fillL (k : Nat) (tail : List UInt8) : List Value := List.replicate k (.int .u8 0) ++ cU8s tail
theorem fillL_set (k : Nat) (tail : List UInt8) (d : UInt8) : (fillL (k + 1) tail).set k (.int .u8 (d.toNat : Int)) = fillL k (d :: tail) := by
  unfold fillL cU8s
  rw [List.replicate_succ', List.append_assoc, List.set_append_right _ _ (by simp)]
  simp
theorem fillL_cell (k : Nat) (tail : List UInt8) : (fillL (k + 1) tail)[k]? = some (.int .u8 0) := by
  unfold fillL
  rw [List.getElem?_append_left (by simp)]
  simp
theorem n64_and15 (m : Nat) (h : m < 4294967296) : bits .and .u64 (m : Int) 15 = ((m % 16 : Nat) : Int) := by
  have h1 : (BitVec.ofInt 64 (m : Int)).toNat = m := by
    rw [BitVec.ofInt_natCast, BitVec.toNat_ofNat]; exact Nat.mod_eq_of_lt (by omega)
  have h2 : (BitVec.ofInt 64 (15 : Int)).toNat = 15 := by decide
  show IntKind.u64.wrap ((BitVec.ofInt 64 (m : Int) &&& BitVec.ofInt 64 (15 : Int)).toNat : Int) = _
  rw [BitVec.toNat_and, h1, h2, show (15 : Nat) = 2 ^ 4 - 1 from rfl, Nat.and_two_pow_sub_one_eq_mod]
  simp only [IntKind.wrap, IntKind.signed, IntKind.bits]
  simp
  omega
def digs36 : ByteArray := ⟨#[48, 49, 50, 51, 52, 53, 54, 55, 56, 57, 97, 98, 99, 100, 101, 102, 103, 104, 105, 106, 107, 108, 109, 110, 111, 112, 113, 114, 115, 116, 117, 118, 119, 120, 121, 122]⟩
theorem digs36_at (d : Nat) (hd : d < 16) (h : d < digs36.size) : digs36[d] = hexd d := by
  have : ∀ d : Fin 16, digs36[d.val]'(Nat.lt_trans d.isLt (by decide)) = hexd d.val := by decide
  exact this ⟨d, hd⟩
theorem big_16 {m k u : Nat} (h : m * 16 ^ k ≤ u) (hu : u < 4294967296) (hm : 16 ≤ m) : k < 7 := by
  rcases Nat.lt_or_ge k 7 with hk | hk
  · exact hk
  · have h1 : 16 ^ 7 ≤ 16 ^ k := Nat.pow_le_pow_right (by decide) hk
    have h2 := Nat.mul_le_mul hm h1
    have h3 : 16 * 16 ^ 7 = 4294967296 := by decide
    omega
end Go.Hx
namespace Go.Proofs.YtgcbnagfdfgpnaaDoor
open Go.RowKit Go.Hx
/-- what the library's table of zeros at the end says of 16 -/
def Tz (w : World) : Prop := w.cell? ⟨5, 15, none⟩ = some (.int .u8 4)
theorem Tz.ext {w w' : World} (h : Tz w) (k : Ext w w') : Tz w' := k.cell h
theorem tz64_16 (w : World) (h : Tz w) : Calls Tryd.prog 183 #[.int .u64 16] w fun e w' => e = .returned (.int .i64 4) ∧ w' = w := by
  have HC : w.cell? ⟨5, 15, none⟩ = some (.int .u8 4) := h
  clear h
  have e1 : bits .and .u64 16 (IntKind.u64.wrap (-16)) = 16 := by kernel_rfl
  have e2 : IntKind.u64.wrap (16 * 285870213051353865) / 288230376151711744 = 15 := by kernel_rfl
  go_enter Tryd.func183, Tryd.ntmps183
  go_wp2_with fail
  go_ret
  trivial
theorem tz_16 (w : World) (h : Tz w) : Calls Tryd.prog 179 #[.int .u64 16] w fun e w' => e = .returned (.int .i64 4) ∧ w' = w := by
  go_enter Tryd.func179, Tryd.ntmps179
  go_wp2_with fail
  refine (tz64_16 _ h).mono ?_
  rintro e w1 ⟨rfl, rfl⟩
  go_wp2_with fail
  go_ret
  trivial
theorem pow2_16 (w : World) : Calls Tryd.prog 178 #[.int .i64 16] w fun e w' => e = .returned (.bool true) ∧ w' = w := by
  have e1 : bits .and .i64 16 15 = 0 := by kernel_rfl
  go_enter Tryd.func178, Tryd.ntmps178
  go_wp2_with fail
  go_ret
  trivial
structure BitsI (w W : World) (u k m : Nat) (tail : List UInt8) : Prop where
  ext : Ext w W
  blk : Blk W w.heap.size 243 (fillL (65 - k) tail)
  len : tail.length = k
  big : m * 16 ^ k ≤ u
  eq : hexL u = hexL m ++ tail
set_option maxRecDepth 100000 in
set_option maxHeartbeats 2000000 in
theorem bits_16 (u : Nat) (hu : u < 4294967296) (w : World) (h : Tz w) : Calls Tryd.prog 163 #[.slice none 0 0, .int .u64 u, .int .i64 16, .bool false, .bool false] w fun e w' => e = .returned (.tuple #[.slice none 0 0, .string ⟨(hexL u).toArray⟩]) ∧ Ext w w' := by
  have HU := Lib.hid hu
  have HT := Lib.hid h
  clear hu h
  go_enter Tryd.func163, Tryd.ntmps163
  go_wp2_with fail
  have hz : Tryd.zeroCells243 = (fillL 65 []).toArray := by kernel_rfl
  rw [hz]
  obtain ⟨W0, hW⟩ : ∃ W, W = w.alloc (.cells (fillL 65 []).toArray 243) := ⟨_, rfl⟩
  rw [← hW]
  have HI0 : Hid (BitsI w W0 u 0 u []) := Lib.hid ⟨by rw [hW]; exact Ext.alloc _ _, by rw [hW]; exact Blk.new rfl, rfl, by simp, by simp⟩
  clear hW hz
  refine (pow2_16 _).mono ?_
  rintro e w1 ⟨rfl, rfl⟩
  go_wp2_with fail
  refine (tz_16 _ (HT.out.ext HI0.out.ext)).mono ?_
  rintro e w2 ⟨rfl, rfl⟩
  go_wp2_with fail
  go_loopw [1, 13] (fun x i W => ∃ (k n m : Nat) (tail : List UInt8), n + k = 65 ∧ k ≤ 7 ∧ x = .int .u64 m ∧ i = .int .i64 n ∧ m < 4294967296 ∧ Hid (BitsI w W u k m tail)) (fun x _ _ => (intOf x).toNat)
  case atStart => exact ⟨0, 65, u, [], rfl, by decide, rfl, rfl, HU.out, HI0⟩
  case round =>
    obtain ⟨k, n, m, tail, hnk, hk7, rfl, rfl, hm, HI⟩ := hrel
    clear HI0
    have hn1 : 1 ≤ n := by omega
    obtain ⟨n, rfl⟩ : ∃ n', n = n' + 1 := ⟨n - 1, by omega⟩
    have hk65 : 65 - k = n + 1 := by omega
    have hB : Blk wr w.heap.size 243 (fillL (n + 1) tail) := by rw [← hk65]; exact HI.out.blk
    have hcell : wr.cell? ⟨w.heap.size, n, none⟩ = some (.int .u8 0) := by rw [hB.cell n]; exact fillL_cell n tail
    have hfree : wr.frozen? ⟨w.heap.size, n, none⟩ = false := hB.free n
    have HB := Lib.hid hB
    have e1 : (((n + 1 : Nat) : Int) - 1) = (n : Int) := by omega
    by_cases h16 : (16 : Int) ≤ (m : Int)
    · have e2 := n64_and15 m hm
      have hd : m % 16 < 16 := Nat.mod_lt _ (by decide)
      have hdi : ((m % 16 : Nat) : Int) < 36 := by omega
      have hidx : ∀ h, (⟨#[48, 49, 50, 51, 52, 53, 54, 55, 56, 57, 97, 98, 99, 100, 101, 102, 103, 104, 105, 106, 107, 108, 109, 110, 111, 112, 113, 114, 115, 116, 117, 118, 119, 120, 121, 122]⟩ : ByteArray)[m % 16]'h = hexd (m % 16) := fun h => digs36_at _ hd h
      have HNI : Hid (BitsI w (wr.setCell ⟨w.heap.size, n, none⟩ (.int .u8 ((hexd (m % 16)).toNat : Int))) u (k + 1) (m / 16) (hexd (m % 16) :: tail)) := Lib.hid ⟨by
          have := HI.out.ext
          exact Below.setCell this (Nat.le_refl _) _, by
          have := HB.out.set n (.int .u8 ((hexd (m % 16)).toNat : Int))
          rw [fillL_set] at this
          rw [show 65 - (k + 1) = n by omega]; exact this, by rw [List.length_cons, HI.out.len], by
          refine Nat.le_trans ?_ HI.out.big
          rw [Nat.pow_succ', ← Nat.mul_assoc]
          exact Nat.mul_le_mul_right _ (Nat.div_mul_le_self m 16), by
          rw [HI.out.eq, hexL_step (by omega), List.append_assoc]; rfl⟩
      have hk6 := big_16 HI.out.big HU.out (by omega)
      clear hB
      go_wp2_with fail
      go_roundw
      case rel => exact ⟨k + 1, n, m / 16, hexd (m % 16) :: tail, by omega, by omega, by go_num, rfl, by omega, HNI⟩
      case measure => simp [intOf]; omega
    · have hd : m < 16 := by omega
      have hdi : (m : Int) < 36 := by omega
      have hidx : ∀ h, (⟨#[48, 49, 50, 51, 52, 53, 54, 55, 56, 57, 97, 98, 99, 100, 101, 102, 103, 104, 105, 106, 107, 108, 109, 110, 111, 112, 113, 114, 115, 116, 117, 118, 119, 120, 121, 122]⟩ : ByteArray)[m]'h = hexd m := fun h => digs36_at _ hd h
      have hal : Tryd.prog.arrayLen 243 = 65 := by kernel_rfl
      have hsl : ∀ W, (Instr.sliceAt 243 (.pointer (some ⟨w.heap.size, 0, none⟩)) (some (.int .i64 (n : Int))) none none).run Tryd.prog W = .ok (.slice (some ⟨w.heap.size, n, none⟩) (65 - n) (65 - n)) W := fun W => by
        rw [run_sliceAt_array_l W 243 ⟨w.heap.size, 0, none⟩ (by simp [Program.arrayLen, Program.elem, Tryd.underlying243]) .i64 (n : Int) (by omega) (by rw [hal]; omega)]
        go_simp
        omega
      have hlu : hexL u = hexd m :: tail := by rw [HI.out.eq, hexL_small hd]; rfl
      have hln : (hexL u).length = 65 - n := by rw [hlu, List.length_cons, HI.out.len]; omega
      have hB2 : Blk (wr.setCell ⟨w.heap.size, n, none⟩ (.int .u8 ((hexd m).toNat : Int))) w.heap.size 243 (fillL n (hexL u)) := by
        have := HB.out.set n (.int .u8 ((hexd m).toNat : Int))
        rw [fillL_set] at this
        rw [hlu]; exact this
      have HE2 : Hid (Ext w (wr.setCell ⟨w.heap.size, n, none⟩ (.int .u8 ((hexd m).toNat : Int)))) := Lib.hid (by
        have := HI.out.ext
        exact Below.setCell this (Nat.le_refl _) _)
      have hcv : (convert 105 9 (.slice (some ⟨w.heap.size, n, none⟩) (65 - n) (65 - n))).run Tryd.prog (wr.setCell ⟨w.heap.size, n, none⟩ (.int .u8 ((hexd m).toNat : Int))) = .ok (.string ⟨(hexL u).toArray⟩) (wr.setCell ⟨w.heap.size, n, none⟩ (.int .u8 ((hexd m).toNat : Int))) := by
        have h := run_convert_bytes_back (P := Tryd.prog) (wr.setCell ⟨w.heap.size, n, none⟩ (.int .u8 ((hexd m).toNat : Int))) 105 9 5 ⟨w.heap.size, n, none⟩ (65 - n) (hexL u) Tryd.underlying105 Tryd.underlying5 Tryd.underlying9 (fun j hj => by
          rw [add_none, hB2.cell (n + j)]
          unfold fillL cU8s
          rw [List.getElem?_append_right (by simp)]
          simp [hj])
        rw [hln] at h
        exact h
      clear hB2 hB hlu hln
      go_wp2_with fail
      go_ret2
      exact ⟨rfl, HE2.out⟩
theorem fmt_16i (u : Nat) (hu : u < 4294967296) (w : World) (h : Tz w) : Calls Tryd.prog 140 #[.int .u64 u, .int .i64 16] w fun e w' => e = .returned (.string ⟨(hexL u).toArray⟩) ∧ Ext w w' := by
  go_enter Tryd.func140, Tryd.ntmps140
  go_wp2_with fail
  refine (bits_16 u hu _ h).mono ?_
  rintro e w1 ⟨rfl, hE⟩
  go_wp2_with fail
  go_ret
  exact ⟨rfl, hE⟩
theorem fmt_16 (u : Nat) (hu : u < 4294967296) (w : World) (h : Tz w) : Calls Tryd.prog 107 #[.int .u64 u, .int .i64 16] w fun e w' => e = .returned (.string ⟨(hexL u).toArray⟩) ∧ Ext w w' := by
  go_enter Tryd.func107, Tryd.ntmps107
  go_wp2_with (go_at_call 140; refine (fmt_16i u hu _ h).mono ?_; rintro e w' ⟨rfl, hE⟩)
  go_ret
  exact ⟨rfl, hE⟩
end Go.Proofs.YtgcbnagfdfgpnaaDoor
