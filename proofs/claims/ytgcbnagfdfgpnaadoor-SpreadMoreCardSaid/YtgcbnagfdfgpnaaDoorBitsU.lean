/- The library's sums, differences, lengths and zeros of 32 bits. -/
import Derived.Test.YtgcbnagfdfgpnaaDoorCheckD
import Derived.Test.YtgcbnagfdfgpnaaDoorWideP
import Derived.Lib.Walk
import Derived.Lib.Strings
import Derived.Lib.Small
namespace Go.Hx
open Go.RowKit
theorem n32_and (a b : Nat) (ha : a < B32) (hb : b < B32) : bits .and .u32 (a : Int) (b : Int) = ((a &&& b : Nat) : Int) := by
  have hx : a &&& b < 2 ^ 32 := Nat.and_lt_two_pow _ (by simpa using hb)
  have h1 : (BitVec.ofInt 32 (a : Int)).toNat = a := by
    rw [BitVec.ofInt_natCast, BitVec.toNat_ofNat]; exact Nat.mod_eq_of_lt (by simpa using ha)
  have h2 : (BitVec.ofInt 32 (b : Int)).toNat = b := by
    rw [BitVec.ofInt_natCast, BitVec.toNat_ofNat]; exact Nat.mod_eq_of_lt (by simpa using hb)
  show IntKind.u32.wrap ((BitVec.ofInt 32 (a : Int) &&& BitVec.ofInt 32 (b : Int)).toNat : Int) = _
  rw [BitVec.toNat_and, h1, h2]
  simp only [IntKind.wrap, IntKind.signed, IntKind.bits]
  simp
  omega
theorem n32_or (a b : Nat) (ha : a < B32) (hb : b < B32) : bits .or .u32 (a : Int) (b : Int) = ((a ||| b : Nat) : Int) := by
  have hx : a ||| b < 2 ^ 32 := Nat.or_lt_two_pow (by simpa using ha) (by simpa using hb)
  have h1 : (BitVec.ofInt 32 (a : Int)).toNat = a := by
    rw [BitVec.ofInt_natCast, BitVec.toNat_ofNat]; exact Nat.mod_eq_of_lt (by simpa using ha)
  have h2 : (BitVec.ofInt 32 (b : Int)).toNat = b := by
    rw [BitVec.ofInt_natCast, BitVec.toNat_ofNat]; exact Nat.mod_eq_of_lt (by simpa using hb)
  show IntKind.u32.wrap ((BitVec.ofInt 32 (a : Int) ||| BitVec.ofInt 32 (b : Int)).toNat : Int) = _
  rw [BitVec.toNat_or, h1, h2]
  simp only [IntKind.wrap, IntKind.signed, IntKind.bits]
  simp
  omega
theorem n32_xor (a b : Nat) (ha : a < B32) (hb : b < B32) : bits .xor .u32 (a : Int) (b : Int) = ((a ^^^ b : Nat) : Int) := by
  have hx : a ^^^ b < 2 ^ 32 := Nat.xor_lt_two_pow (by simpa using ha) (by simpa using hb)
  have h1 : (BitVec.ofInt 32 (a : Int)).toNat = a := by
    rw [BitVec.ofInt_natCast, BitVec.toNat_ofNat]; exact Nat.mod_eq_of_lt (by simpa using ha)
  have h2 : (BitVec.ofInt 32 (b : Int)).toNat = b := by
    rw [BitVec.ofInt_natCast, BitVec.toNat_ofNat]; exact Nat.mod_eq_of_lt (by simpa using hb)
  show IntKind.u32.wrap ((BitVec.ofInt 32 (a : Int) ^^^ BitVec.ofInt 32 (b : Int)).toNat : Int) = _
  rw [BitVec.toNat_xor, h1, h2]
  simp only [IntKind.wrap, IntKind.signed, IntKind.bits]
  simp
  omega
theorem n64_or (a b : Nat) (ha : a < 2 ^ 64) (hb : b < 2 ^ 64) : bits .or .u64 (a : Int) (b : Int) = ((a ||| b : Nat) : Int) := by
  have hx : a ||| b < 2 ^ 64 := Nat.or_lt_two_pow (by simpa using ha) (by simpa using hb)
  have h1 : (BitVec.ofInt 64 (a : Int)).toNat = a := by
    rw [BitVec.ofInt_natCast, BitVec.toNat_ofNat]; exact Nat.mod_eq_of_lt (by simpa using ha)
  have h2 : (BitVec.ofInt 64 (b : Int)).toNat = b := by
    rw [BitVec.ofInt_natCast, BitVec.toNat_ofNat]; exact Nat.mod_eq_of_lt (by simpa using hb)
  show IntKind.u64.wrap ((BitVec.ofInt 64 (a : Int) ||| BitVec.ofInt 64 (b : Int)).toNat : Int) = _
  rw [BitVec.toNat_or, h1, h2]
  simp only [IntKind.wrap, IntKind.signed, IntKind.bits]
  simp
  omega
theorem wr64 (n : Nat) (h : n < 2 ^ 64) : IntKind.u64.wrap (n : Int) = (n : Int) := by
  simp only [IntKind.wrap, IntKind.signed, IntKind.bits]
  simp
  omega
theorem bit_cases {x : Nat} (h : x < 2) : x = 0 ∨ x = 1 := by omega
/-- what Sub32 says of a borrow -/
theorem borrow_top {x y d c : Nat} (hx : x < B32) (hy : y < B32) (hc : c ≤ 1) (hd : d < B32) (he : d + y + c = x + B32 * (if x < y + c then 1 else 0)) :
    (((B32 - 1) ^^^ x) &&& y ||| ((B32 - 1) ^^^ (x ^^^ y)) &&& d) / 2 ^ 31 = if x < y + c then 1 else 0 := by
  rw [Nat.or_div_two_pow, Nat.and_div_two_pow, Nat.and_div_two_pow, Nat.xor_div_two_pow, Nat.xor_div_two_pow, Nat.xor_div_two_pow]
  have e1 : (B32 - 1) / 2 ^ 31 = 1 := by decide
  rw [e1]
  have hx2 : x / 2 ^ 31 < 2 := Nat.div_lt_of_lt_mul (by simpa using hx)
  have hy2 : y / 2 ^ 31 < 2 := Nat.div_lt_of_lt_mul (by simpa using hy)
  have hd2 : d / 2 ^ 31 < 2 := Nat.div_lt_of_lt_mul (by simpa using hd)
  have hB : B32 = 4294967296 := rfl
  rw [hB] at he hx hy hd
  split at he <;> rename_i hlt <;> simp only [hlt, if_true, if_false] <;>
    rcases bit_cases hx2 with hx3 | hx3 <;> rcases bit_cases hy2 with hy3 | hy3 <;> rcases bit_cases hd2 with hd3 | hd3 <;> rw [hx3, hy3, hd3] <;> first | rfl | (exfalso; omega)
theorem idx_len (i : Int) (h0 : 0 ≤ i) (h1 : i ≤ 255) {h : i.toNat < Lib.len8tab.size} : (((Lib.len8tab[i.toNat]'h).toNat : Nat) : Int) = ((Lib.bitLen i.toNat : Nat) : Int) := by
  rw [← Lib.len8_of i h0 h1]
  simp only [Lib.len8, ByteArray.getElem?_lt' _ _ h, Option.getD_some]
theorem len24 (x : Int) (h0 : 0 ≤ x) (h1 : x ≤ 4294967295) (h2 : 256 ≤ x / 65536) {h : (x / 65536 / 256).toNat < Lib.len8tab.size} : RowKit.wrap64 (24 + RowKit.wrap64 (((Lib.len8tab[(x / 65536 / 256).toNat]'h).toNat : Nat) : Int)) = ((Lib.bitLen x.toNat : Nat) : Int) := by
  rw [idx_len (x / 65536 / 256) (by omega) (by omega)]
  have l := Lib.bitLen_le8' (x / 65536 / 256) (by omega) (by omega)
  have e : (x / 65536 / 256).toNat = x.toNat / 16777216 := by omega
  have s := Lib.bitLen_shift24 x.toNat (by omega) (by omega)
  rw [e] at l ⊢
  unfold RowKit.wrap64
  omega
/-- the table of the library lies as its initialiser laid it -/
def Tab (w : World) : Prop := ∀ j, j < 32 → w.cell? ⟨0, j, none⟩ = some (.int .u8 (Lib.deBruijn32tab.getD j 0))
theorem Tab.ext {w w' : World} (h : Tab w) (k : Ext w w') : Tab w' := fun j hj => k.cell (h j hj)
end Go.Hx
namespace Go.Proofs.YtgcbnagfdfgpnaaDoor
open Go.RowKit Go.Hx
set_option maxRecDepth 100000 in
set_option maxHeartbeats 1000000 in
theorem bits_Add32 (x y c s t : Nat) (w : World) (hx : x < B32) (hy : y < B32) (hc : c ≤ 1) (hs : (x + y + c) % B32 = s) (ht : (x + y + c) / B32 = t) :
    Calls Tryd.prog 115 #[.int .u32 x, .int .u32 y, .int .u32 c] w fun e w' => e = .returned (.tuple #[.int .u32 s, .int .u32 t]) ∧ w' = w := by
  have hB : B32 = 4294967296 := rfl
  rw [hB] at hx hy hs ht
  have e0 : IntKind.u64.wrap (x : Int) = (x : Int) := wr64 x (by omega)
  have e1 : IntKind.u64.wrap (y : Int) = (y : Int) := wr64 y (by omega)
  have e2 : IntKind.u64.wrap ((x : Int) + (y : Int)) = ((x + y : Nat) : Int) := by rw [← wr64 (x + y) (by omega)]; rfl
  have e3 : IntKind.u64.wrap (((x + y : Nat) : Int) + (c : Int)) = ((x + y + c : Nat) : Int) := by rw [← wr64 (x + y + c) (by omega)]; rfl
  have HS := Lib.hid hs
  have HT := Lib.hid ht
  obtain ⟨a, ha⟩ : ∃ a, x + y + c = a := ⟨_, rfl⟩
  have HA := Lib.hid ha
  have hA : a < 8589934592 := by omega
  rw [ha] at e3
  have f1 : Hid ((a : Int) % 4294967296 = (s : Int)) := Lib.hid (by omega)
  have f2 : Hid ((a : Int) / 4294967296 % 4294967296 = (t : Int)) := Lib.hid (by omega)
  have e4 : IntKind.u64.wrap (c : Int) = (c : Int) := wr64 c (by omega)
  have HE := Lib.hid (And.intro e0 (And.intro e1 (And.intro e2 (And.intro e4 e3))))
  clear hs ht ha hx hy hc e0 e1 e2 e3 e4
  go_enter Tryd.func115, Tryd.ntmps115
  go_wp2_with fail
  rw [HE.out.1, HE.out.2.1, HE.out.2.2.1, HE.out.2.2.2.1, HE.out.2.2.2.2, f1.out, f2.out]
  go_ret2
  exact ⟨rfl, rfl⟩
set_option maxRecDepth 100000 in
set_option maxHeartbeats 1000000 in
theorem bits_Sub32 (x y c s t : Nat) (w : World) (hx : x < B32) (hy : y < B32) (hc : c ≤ 1) (ht : (if x < y + c then 1 else 0) = t) (hs : s < B32) (hst : s + y + c = x + B32 * t) :
    Calls Tryd.prog 117 #[.int .u32 x, .int .u32 y, .int .u32 c] w fun e w' => e = .returned (.tuple #[.int .u32 s, .int .u32 t]) ∧ w' = w := by
  have hb := borrow_top hx hy hc hs (by rw [ht]; exact hst)
  rw [ht] at hb
  have hxl : (B32 - 1) ^^^ x < B32 := Nat.xor_lt_two_pow (n := 32) (by decide) (by simpa using hx)
  have hxy : x ^^^ y < B32 := Nat.xor_lt_two_pow (n := 32) (by simpa using hx) (by simpa using hy)
  have hxz : (B32 - 1) ^^^ (x ^^^ y) < B32 := Nat.xor_lt_two_pow (n := 32) (by decide) (by simpa using hxy)
  have hal : ((B32 - 1) ^^^ x) &&& y < B32 := Nat.and_lt_two_pow (n := 32) _ (by simpa using hy)
  have hbl : ((B32 - 1) ^^^ (x ^^^ y)) &&& s < B32 := Nat.and_lt_two_pow (n := 32) _ (by simpa using hs)
  have hmax : IntKind.u32.max = ((B32 - 1 : Nat) : Int) := by decide
  have ht1 : t ≤ 1 := by rw [← ht]; split <;> omega
  have e0 : ((x : Int) - (y : Int) - (c : Int)) % 4294967296 = (s : Int) := by have hB : B32 = 4294967296 := rfl; rw [hB] at hst hs; omega
  have e1 : bits .or .u32 (bits .and .u32 (bits .xor .u32 IntKind.u32.max (x : Int)) (y : Int)) (bits .and .u32 (bits .xor .u32 IntKind.u32.max (bits .xor .u32 (x : Int) (y : Int))) (s : Int)) / 2147483648 = (t : Int) := by
    rw [hmax, n32_xor _ _ (by decide) hx, n32_and _ _ hxl hy, n32_xor _ _ hx hy, n32_xor _ _ (by decide) hxy, n32_and _ _ hxz hs, n32_or _ _ hal hbl, ← hb]
    rfl
  have E0 := Lib.hid e0
  have E1 := Lib.hid e1
  clear e0 e1 hmax hxl hxy hxz hal hbl hb ht hs hst hx hy hc ht1
  go_enter Tryd.func117, Tryd.ntmps117
  go_wp2_with fail
  all_goals first
    | (rename_i h; exact absurd h (by decide))
    | (rw [E0.out, E1.out]
       go_ret2
       exact ⟨rfl, rfl⟩)
theorem tz_key (x a : Nat) (hx : x < 4294967296) (hx0 : x ≠ 0) (hlow : x &&& (4294967296 - x) = a) :
    bits BinOp.and IntKind.u32 (x : Int) (-(x : Int) % 4294967296) * 125613361 % 4294967296 / 134217728 = ((a * 125613361 % 4294967296 / 134217728 : Nat) : Int) := by
  have e1 : -(x : Int) % 4294967296 = ((4294967296 - x : Nat) : Int) := by omega
  rw [e1, n32_and x _ hx (by show _ < 4294967296; omega), hlow]
  omega
set_option maxRecDepth 100000 in
set_option maxHeartbeats 1000000 in
theorem bits_tz (x : Nat) (w : World) (hx : x < B32) (hx0 : x ≠ 0) (hT : Tab w) :
    Calls Tryd.prog 131 #[.int .u32 x] w fun e w' => e = .returned (.int .i64 (tz x)) ∧ w' = w := by
  obtain ⟨hlow, hk⟩ := Lib.lowest_bit 32 x hx0 hx
  obtain ⟨hi, htab⟩ := Lib.deBruijn32_at _ hk
  have hcell := hT _ hi
  rw [htab, ctz_tz hx0 hx] at hcell
  rw [ctz_tz hx0 hx] at hlow hi hk
  have h0 : ((x : Int) == 0) = false := by simp; exact hx0
  have key := tz_key x _ hx hx0 hlow
  obtain ⟨idx, hidx⟩ : ∃ idx, 2 ^ tz x * 125613361 % 4294967296 / 134217728 = idx := ⟨_, rfl⟩
  rw [hidx] at hcell hi key
  obtain ⟨k, hkk⟩ : ∃ k, tz x = k := ⟨_, rfl⟩
  rw [hkk] at hcell hk
  have HK := Lib.hid hkk
  clear hlow hx0 hx hT hidx htab hkk
  go_enter Tryd.func131, Tryd.ntmps131
  go_wp2_with (simp only [key])
  go_ret
  exact ⟨by rw [HK.out] <;> rfl, rfl⟩
set_option maxRecDepth 100000 in
set_option maxHeartbeats 4000000 in
theorem bits_Len32 (x0 : Nat) (w : World) (hx : x0 < B32) :
    Calls Tryd.prog 132 #[.int .u32 x0] w fun e w' => e = .returned (.int .i64 (bl x0)) ∧ w' = w := by
  rw [← bitLen_bl (x := x0) (Nat.lt_of_lt_of_le hx (by decide))]
  obtain ⟨x, hxx⟩ : ∃ x : Int, x = (x0 : Int) := ⟨_, rfl⟩
  have h0 : 0 ≤ x := by omega
  have h1 : x ≤ 4294967295 := by have : x0 < 4294967296 := hx; omega
  have hn : x0 = x.toNat := by omega
  rw [hn]
  rw [show ((x.toNat : Nat) : Int) = x by omega]
  clear hn hxx hx
  have hu : Tryd.prog.underlying 9 = some .string := Tryd.underlying9
  go_enter Tryd.func132, Tryd.ntmps132
  go_wp2
  all_goals first
    | (exfalso; rename_i h; rw [Lib.len8tab_size] at h; omega)
    | (go_ret
       refine ⟨congrArg Ending.returned (congrArg (Value.int IntKind.i64) ?_), rfl⟩
       first
         | exact len24 x h0 h1 (by assumption)
         | (rw [idx_len (x / 65536) (by omega) (by omega)]
            have l := Lib.bitLen_le8' (x / 65536) (by omega) (by omega)
            have e : (x / 65536).toNat = x.toNat / 65536 := by omega
            have s := Lib.bitLen_shift16 x.toNat (by omega) (by omega)
            rw [e] at l ⊢
            unfold RowKit.wrap64
            omega)
         | (rw [idx_len (x / 256) (by omega) (by omega)]
            have l := Lib.bitLen_le8' (x / 256) (by omega) (by omega)
            have e : (x / 256).toNat = x.toNat / 256 := by omega
            have s := Lib.bitLen_shift8 x.toNat (by omega) (by omega)
            rw [e] at l ⊢
            unfold RowKit.wrap64
            omega)
         | (rw [idx_len x (by omega) (by omega)]
            have l := Lib.bitLen_le8' x (by omega) (by omega)
            unfold RowKit.wrap64
            omega))
end Go.Proofs.YtgcbnagfdfgpnaaDoor
