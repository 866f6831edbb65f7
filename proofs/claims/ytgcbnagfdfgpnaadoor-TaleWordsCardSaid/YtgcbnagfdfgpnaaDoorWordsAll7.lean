/- Parts of a proof, joined: BitsU, Wide, Widen. -/
import Derived.Test.YtgcbnagfdfgpnaaDoorWordsAll6
import Derived.Test.YtgcbnagfdfgpnaaDoorWordsAll21
import Derived.Lib.Walk
import Derived.Lib.Strings
import Derived.Lib.Small
section
namespace Go.Hx
open Go.RowKit
theorem n32_and (a b : Nat) (ha : a < B32) (hb : b < B32) : bits .and .u32 (a : Int) (b : Int) = ((a &&& b : Nat) : Int) := by
  have hx : a &&& b < 2 ^ 32 := Nat.and_lt_two_pow _ (by simpa using hb)
  have h1 : (BitVec.ofInt 32 (a : Int)).toNat = a := by
    rw [BitVec.ofInt_natCast, BitVec.toNat_ofNat]; exact Nat.mod_eq_of_lt (by simpa using ha)
  have h2 : (BitVec.ofInt 32 (b : Int)).toNat = b := by
    rw [BitVec.ofInt_natCast, BitVec.toNat_ofNat]; exact Nat.mod_eq_of_lt (by simpa using hb)
  show IntKind.u32.wrap ((BitVec.ofInt 32 (a : Int) &&& BitVec.ofInt 32 (b : Int)).toNat : Int) = _
  rw [BitVec.toNat_and, h1, h2]
  simp only [IntKind.wrap, IntKind.signed, IntKind.bits]
  simp
  omega
theorem n32_or (a b : Nat) (ha : a < B32) (hb : b < B32) : bits .or .u32 (a : Int) (b : Int) = ((a ||| b : Nat) : Int) := by
  have hx : a ||| b < 2 ^ 32 := Nat.or_lt_two_pow (by simpa using ha) (by simpa using hb)
  have h1 : (BitVec.ofInt 32 (a : Int)).toNat = a := by
    rw [BitVec.ofInt_natCast, BitVec.toNat_ofNat]; exact Nat.mod_eq_of_lt (by simpa using ha)
  have h2 : (BitVec.ofInt 32 (b : Int)).toNat = b := by
    rw [BitVec.ofInt_natCast, BitVec.toNat_ofNat]; exact Nat.mod_eq_of_lt (by simpa using hb)
  show IntKind.u32.wrap ((BitVec.ofInt 32 (a : Int) ||| BitVec.ofInt 32 (b : Int)).toNat : Int) = _
  rw [BitVec.toNat_or, h1, h2]
  simp only [IntKind.wrap, IntKind.signed, IntKind.bits]
  simp
  omega
theorem n32_xor (a b : Nat) (ha : a < B32) (hb : b < B32) : bits .xor .u32 (a : Int) (b : Int) = ((a ^^^ b : Nat) : Int) := by
  have hx : a ^^^ b < 2 ^ 32 := Nat.xor_lt_two_pow (by simpa using ha) (by simpa using hb)
  have h1 : (BitVec.ofInt 32 (a : Int)).toNat = a := by
    rw [BitVec.ofInt_natCast, BitVec.toNat_ofNat]; exact Nat.mod_eq_of_lt (by simpa using ha)
  have h2 : (BitVec.ofInt 32 (b : Int)).toNat = b := by
    rw [BitVec.ofInt_natCast, BitVec.toNat_ofNat]; exact Nat.mod_eq_of_lt (by simpa using hb)
  show IntKind.u32.wrap ((BitVec.ofInt 32 (a : Int) ^^^ BitVec.ofInt 32 (b : Int)).toNat : Int) = _
  rw [BitVec.toNat_xor, h1, h2]
  simp only [IntKind.wrap, IntKind.signed, IntKind.bits]
  simp
  omega
theorem n64_or (a b : Nat) (ha : a < 2 ^ 64) (hb : b < 2 ^ 64) : bits .or .u64 (a : Int) (b : Int) = ((a ||| b : Nat) : Int) := by
  have hx : a ||| b < 2 ^ 64 := Nat.or_lt_two_pow (by simpa using ha) (by simpa using hb)
  have h1 : (BitVec.ofInt 64 (a : Int)).toNat = a := by
    rw [BitVec.ofInt_natCast, BitVec.toNat_ofNat]; exact Nat.mod_eq_of_lt (by simpa using ha)
  have h2 : (BitVec.ofInt 64 (b : Int)).toNat = b := by
    rw [BitVec.ofInt_natCast, BitVec.toNat_ofNat]; exact Nat.mod_eq_of_lt (by simpa using hb)
  show IntKind.u64.wrap ((BitVec.ofInt 64 (a : Int) ||| BitVec.ofInt 64 (b : Int)).toNat : Int) = _
  rw [BitVec.toNat_or, h1, h2]
  simp only [IntKind.wrap, IntKind.signed, IntKind.bits]
  simp
  omega
theorem wr64 (n : Nat) (h : n < 2 ^ 64) : IntKind.u64.wrap (n : Int) = (n : Int) := by
  simp only [IntKind.wrap, IntKind.signed, IntKind.bits]
  simp
  omega
theorem bit_cases {x : Nat} (h : x < 2) : x = 0 ∨ x = 1 := by omega
/-- what Sub32 says of a borrow -/
theorem borrow_top {x y d c : Nat} (hx : x < B32) (hy : y < B32) (hc : c ≤ 1) (hd : d < B32) (he : d + y + c = x + B32 * (if x < y + c then 1 else 0)) :
    (((B32 - 1) ^^^ x) &&& y ||| ((B32 - 1) ^^^ (x ^^^ y)) &&& d) / 2 ^ 31 = if x < y + c then 1 else 0 := by
  rw [Nat.or_div_two_pow, Nat.and_div_two_pow, Nat.and_div_two_pow, Nat.xor_div_two_pow, Nat.xor_div_two_pow, Nat.xor_div_two_pow]
  have e1 : (B32 - 1) / 2 ^ 31 = 1 := by decide
  rw [e1]
  have hx2 : x / 2 ^ 31 < 2 := Nat.div_lt_of_lt_mul (by simpa using hx)
  have hy2 : y / 2 ^ 31 < 2 := Nat.div_lt_of_lt_mul (by simpa using hy)
  have hd2 : d / 2 ^ 31 < 2 := Nat.div_lt_of_lt_mul (by simpa using hd)
  have hB : B32 = 4294967296 := rfl
  rw [hB] at he hx hy hd
  split at he <;> rename_i hlt <;> simp only [hlt, if_true, if_false] <;>
    rcases bit_cases hx2 with hx3 | hx3 <;> rcases bit_cases hy2 with hy3 | hy3 <;> rcases bit_cases hd2 with hd3 | hd3 <;> rw [hx3, hy3, hd3] <;> first | rfl | (exfalso; omega)
theorem idx_len (i : Int) (h0 : 0 ≤ i) (h1 : i ≤ 255) {h : i.toNat < Lib.len8tab.size} : (((Lib.len8tab[i.toNat]'h).toNat : Nat) : Int) = ((Lib.bitLen i.toNat : Nat) : Int) := by
  rw [← Lib.len8_of i h0 h1]
  simp only [Lib.len8, ByteArray.getElem?_lt' _ _ h, Option.getD_some]
theorem len24 (x : Int) (h0 : 0 ≤ x) (h1 : x ≤ 4294967295) (h2 : 256 ≤ x / 65536) {h : (x / 65536 / 256).toNat < Lib.len8tab.size} : RowKit.wrap64 (24 + RowKit.wrap64 (((Lib.len8tab[(x / 65536 / 256).toNat]'h).toNat : Nat) : Int)) = ((Lib.bitLen x.toNat : Nat) : Int) := by
  rw [idx_len (x / 65536 / 256) (by omega) (by omega)]
  have l := Lib.bitLen_le8' (x / 65536 / 256) (by omega) (by omega)
  have e : (x / 65536 / 256).toNat = x.toNat / 16777216 := by omega
  have s := Lib.bitLen_shift24 x.toNat (by omega) (by omega)
  rw [e] at l ⊢
  unfold RowKit.wrap64
  omega
/-- the table of the library lies as its initialiser laid it -/
def Tab (w : World) : Prop := ∀ j, j < 32 → w.cell? ⟨0, j, none⟩ = some (.int .u8 (Lib.deBruijn32tab.getD j 0))
theorem Tab.ext {w w' : World} (h : Tab w) (k : Ext w w') : Tab w' := fun j hj => k.cell (h j hj)
end Go.Hx
namespace Go.Proofs.YtgcbnagfdfgpnaaDoor
open Go.RowKit Go.Hx
set_option maxRecDepth 100000 in
set_option maxHeartbeats 1000000 in
theorem bits_Add32 (x y c s t : Nat) (w : World) (hx : x < B32) (hy : y < B32) (hc : c ≤ 1) (hs : (x + y + c) % B32 = s) (ht : (x + y + c) / B32 = t) :
    Calls Tryd.prog 115 #[.int .u32 x, .int .u32 y, .int .u32 c] w fun e w' => e = .returned (.tuple #[.int .u32 s, .int .u32 t]) ∧ w' = w := by
  have hB : B32 = 4294967296 := rfl
  rw [hB] at hx hy hs ht
  have e0 : IntKind.u64.wrap (x : Int) = (x : Int) := wr64 x (by omega)
  have e1 : IntKind.u64.wrap (y : Int) = (y : Int) := wr64 y (by omega)
  have e2 : IntKind.u64.wrap ((x : Int) + (y : Int)) = ((x + y : Nat) : Int) := by rw [← wr64 (x + y) (by omega)]; rfl
  have e3 : IntKind.u64.wrap (((x + y : Nat) : Int) + (c : Int)) = ((x + y + c : Nat) : Int) := by rw [← wr64 (x + y + c) (by omega)]; rfl
  have HS := Lib.hid hs
  have HT := Lib.hid ht
  obtain ⟨a, ha⟩ : ∃ a, x + y + c = a := ⟨_, rfl⟩
  have HA := Lib.hid ha
  have hA : a < 8589934592 := by omega
  rw [ha] at e3
  have f1 : Hid ((a : Int) % 4294967296 = (s : Int)) := Lib.hid (by omega)
  have f2 : Hid ((a : Int) / 4294967296 % 4294967296 = (t : Int)) := Lib.hid (by omega)
  have e4 : IntKind.u64.wrap (c : Int) = (c : Int) := wr64 c (by omega)
  have HE := Lib.hid (And.intro e0 (And.intro e1 (And.intro e2 (And.intro e4 e3))))
  clear hs ht ha hx hy hc e0 e1 e2 e3 e4
  go_enter Tryd.func115, Tryd.ntmps115
  go_wp2_with fail
  rw [HE.out.1, HE.out.2.1, HE.out.2.2.1, HE.out.2.2.2.1, HE.out.2.2.2.2, f1.out, f2.out]
  go_ret2
  exact ⟨rfl, rfl⟩
set_option maxRecDepth 100000 in
set_option maxHeartbeats 1000000 in
theorem bits_Sub32 (x y c s t : Nat) (w : World) (hx : x < B32) (hy : y < B32) (hc : c ≤ 1) (ht : (if x < y + c then 1 else 0) = t) (hs : s < B32) (hst : s + y + c = x + B32 * t) :
    Calls Tryd.prog 117 #[.int .u32 x, .int .u32 y, .int .u32 c] w fun e w' => e = .returned (.tuple #[.int .u32 s, .int .u32 t]) ∧ w' = w := by
  have hb := borrow_top hx hy hc hs (by rw [ht]; exact hst)
  rw [ht] at hb
  have hxl : (B32 - 1) ^^^ x < B32 := Nat.xor_lt_two_pow (n := 32) (by decide) (by simpa using hx)
  have hxy : x ^^^ y < B32 := Nat.xor_lt_two_pow (n := 32) (by simpa using hx) (by simpa using hy)
  have hxz : (B32 - 1) ^^^ (x ^^^ y) < B32 := Nat.xor_lt_two_pow (n := 32) (by decide) (by simpa using hxy)
  have hal : ((B32 - 1) ^^^ x) &&& y < B32 := Nat.and_lt_two_pow (n := 32) _ (by simpa using hy)
  have hbl : ((B32 - 1) ^^^ (x ^^^ y)) &&& s < B32 := Nat.and_lt_two_pow (n := 32) _ (by simpa using hs)
  have hmax : IntKind.u32.max = ((B32 - 1 : Nat) : Int) := by decide
  have ht1 : t ≤ 1 := by rw [← ht]; split <;> omega
  have e0 : ((x : Int) - (y : Int) - (c : Int)) % 4294967296 = (s : Int) := by have hB : B32 = 4294967296 := rfl; rw [hB] at hst hs; omega
  have e1 : bits .or .u32 (bits .and .u32 (bits .xor .u32 IntKind.u32.max (x : Int)) (y : Int)) (bits .and .u32 (bits .xor .u32 IntKind.u32.max (bits .xor .u32 (x : Int) (y : Int))) (s : Int)) / 2147483648 = (t : Int) := by
    rw [hmax, n32_xor _ _ (by decide) hx, n32_and _ _ hxl hy, n32_xor _ _ hx hy, n32_xor _ _ (by decide) hxy, n32_and _ _ hxz hs, n32_or _ _ hal hbl, ← hb]
    rfl
  have E0 := Lib.hid e0
  have E1 := Lib.hid e1
  clear e0 e1 hmax hxl hxy hxz hal hbl hb ht hs hst hx hy hc ht1
  go_enter Tryd.func117, Tryd.ntmps117
  go_wp2_with fail
  all_goals first
    | (rename_i h; exact absurd h (by decide))
    | (rw [E0.out, E1.out]
       go_ret2
       exact ⟨rfl, rfl⟩)
theorem tz_key (x a : Nat) (hx : x < 4294967296) (hx0 : x ≠ 0) (hlow : x &&& (4294967296 - x) = a) :
    bits BinOp.and IntKind.u32 (x : Int) (-(x : Int) % 4294967296) * 125613361 % 4294967296 / 134217728 = ((a * 125613361 % 4294967296 / 134217728 : Nat) : Int) := by
  have e1 : -(x : Int) % 4294967296 = ((4294967296 - x : Nat) : Int) := by omega
  rw [e1, n32_and x _ hx (by show _ < 4294967296; omega), hlow]
  omega
set_option maxRecDepth 100000 in
set_option maxHeartbeats 1000000 in
theorem bits_tz (x : Nat) (w : World) (hx : x < B32) (hx0 : x ≠ 0) (hT : Tab w) :
    Calls Tryd.prog 131 #[.int .u32 x] w fun e w' => e = .returned (.int .i64 (tz x)) ∧ w' = w := by
  obtain ⟨hlow, hk⟩ := Lib.lowest_bit 32 x hx0 hx
  obtain ⟨hi, htab⟩ := Lib.deBruijn32_at _ hk
  have hcell := hT _ hi
  rw [htab, ctz_tz hx0 hx] at hcell
  rw [ctz_tz hx0 hx] at hlow hi hk
  have h0 : ((x : Int) == 0) = false := by simp; exact hx0
  have key := tz_key x _ hx hx0 hlow
  obtain ⟨idx, hidx⟩ : ∃ idx, 2 ^ tz x * 125613361 % 4294967296 / 134217728 = idx := ⟨_, rfl⟩
  rw [hidx] at hcell hi key
  obtain ⟨k, hkk⟩ : ∃ k, tz x = k := ⟨_, rfl⟩
  rw [hkk] at hcell hk
  have HK := Lib.hid hkk
  clear hlow hx0 hx hT hidx htab hkk
  go_enter Tryd.func131, Tryd.ntmps131
  go_wp2_with (simp only [key])
  go_ret
  exact ⟨by rw [HK.out] <;> rfl, rfl⟩
set_option maxRecDepth 100000 in
set_option maxHeartbeats 4000000 in
theorem bits_Len32 (x0 : Nat) (w : World) (hx : x0 < B32) :
    Calls Tryd.prog 132 #[.int .u32 x0] w fun e w' => e = .returned (.int .i64 (bl x0)) ∧ w' = w := by
  rw [← bitLen_bl (x := x0) (Nat.lt_of_lt_of_le hx (by decide))]
  obtain ⟨x, hxx⟩ : ∃ x : Int, x = (x0 : Int) := ⟨_, rfl⟩
  have h0 : 0 ≤ x := by omega
  have h1 : x ≤ 4294967295 := by have : x0 < 4294967296 := hx; omega
  have hn : x0 = x.toNat := by omega
  rw [hn]
  rw [show ((x.toNat : Nat) : Int) = x by omega]
  clear hn hxx hx
  have hu : Tryd.prog.underlying 9 = some .string := Tryd.underlying9
  go_enter Tryd.func132, Tryd.ntmps132
  go_wp2
  all_goals first
    | (exfalso; rename_i h; rw [Lib.len8tab_size] at h; omega)
    | (go_ret
       refine ⟨congrArg Ending.returned (congrArg (Value.int IntKind.i64) ?_), rfl⟩
       first
         | exact len24 x h0 h1 (by assumption)
         | (rw [idx_len (x / 65536) (by omega) (by omega)]
            have l := Lib.bitLen_le8' (x / 65536) (by omega) (by omega)
            have e : (x / 65536).toNat = x.toNat / 65536 := by omega
            have s := Lib.bitLen_shift16 x.toNat (by omega) (by omega)
            rw [e] at l ⊢
            unfold RowKit.wrap64
            omega)
         | (rw [idx_len (x / 256) (by omega) (by omega)]
            have l := Lib.bitLen_le8' (x / 256) (by omega) (by omega)
            have e : (x / 256).toNat = x.toNat / 256 := by omega
            have s := Lib.bitLen_shift8 x.toNat (by omega) (by omega)
            rw [e] at l ⊢
            unfold RowKit.wrap64
            omega)
         | (rw [idx_len x (by omega) (by omega)]
            have l := Lib.bitLen_le8' x (by omega) (by omega)
            unfold RowKit.wrap64
            omega))
end Go.Proofs.YtgcbnagfdfgpnaaDoor
end
section
namespace Go.Hx
open Go.RowKit
/-- the cells of limbs -/
def W32 (l : List Nat) : List Value := l.map fun x : Nat => .int .u32 (x : Int)
theorem W32.len (l : List Nat) : (W32 l).length = l.length := by simp [W32]
theorem W32.get {l : List Nat} {n x : Nat} (h : l[n]? = some x) : (W32 l)[n]? = some (.int .u32 x) := by simp [W32, h]
theorem W32.set (l : List Nat) (n x : Nat) : (W32 l).set n (.int .u32 x) = W32 (l.set n x) := by simp [W32, List.map_set]
theorem W32.one (l : List Nat) : (W32 l).all (·.oneCell') = true := by
  simp only [W32, List.all_map, List.all_eq_true]
  intro x _; rfl
theorem RowAt.wide {w : World} {b o : Nat} {l : List Nat} (h : RowAt w b o (W32 l)) {n : Nat} (hn : n < l.length) : ∃ p, l[n]?.getD 0 = p ∧ w.cell? ⟨b, o + n, none⟩ = some (.int .u32 p) := by
  refine ⟨l[n], by rw [List.getElem?_eq_getElem hn]; rfl, h n _ (W32.get (List.getElem?_eq_getElem hn))⟩
end Go.Hx
namespace Go.Proofs.YtgcbnagfdfgpnaaDoor
open Go.RowKit Go.Hx
set_option maxRecDepth 100000 in
set_option maxHeartbeats 1000000 in
theorem wide_below (b1 o1 b2 o2 : Nat) (l m : List Nat) (w : World) (hl : l.length = 74) (hm : m.length = 74) (h1 : RowAt w b1 o1 (W32 l)) (h2 : RowAt w b2 o2 (W32 m)) (bl : Limbs l) (bm : Limbs m) :
    Calls Tryd.prog 116 #[.pointer (some ⟨b1, o1, none⟩), .pointer (some ⟨b2, o2, none⟩)] w fun e w' => e = .returned (.bool (decide (val B32 l < val B32 m))) ∧ ∃ j, w' = w.drewN j := by
  have H1 := Lib.hid h1
  have H2 := Lib.hid h2
  have HL := Lib.hid hl
  have HM := Lib.hid hm
  have HBL := Lib.hid bl
  have HBM := Lib.hid bm
  clear h1 h2 hl hm bl bm
  go_enter Tryd.func116, Tryd.ntmps116
  go_wp2
  go_loopw [5] (fun i wr => ∃ k : Int, -1 ≤ k ∧ k < 74 ∧ i = .int .i64 k ∧ Hid (OrderI l m (k + 1).toNat) ∧ ∃ j, wr = w.drewN j) (fun i _ => (intOf i + 1).toNat)
  case atStart => exact ⟨73, by omega, by omega, rfl, Lib.hid ⟨fun j hj => by rw [getD_out (by have := HL.out; omega), getD_out (by have := HM.out; omega)]⟩, 0, rfl⟩
  case round =>
    obtain ⟨k, hk0, hk1, rfl, HI, j, rfl⟩ := hrel
    by_cases hk : 0 ≤ k
    · obtain ⟨n, rfl⟩ : ∃ n : Nat, k = (n : Int) := ⟨k.toNat, by omega⟩
      have hn : n < 74 := by omega
      obtain ⟨p, hp, cp⟩ := RowAt.wide H1.out (n := n) (by have := HL.out; omega)
      obtain ⟨q, hq, cq⟩ := RowAt.wide H2.out (n := n) (by have := HM.out; omega)
      have HP := Lib.hid hp
      have HQ := Lib.hid hq
      clear hp hq
      have HN : Hid (OrderI l m (n + 1)) := Lib.hid (by have := HI.out; rwa [show ((n : Int) + 1).toNat = n + 1 by omega] at this)
      by_cases q0 : p = q
      · have e0 : ((p : Int) != (q : Int)) = false := by rw [bne_eq_false_iff_eq]; omega
        have HE := Lib.hid q0
        clear q0
        go_wp2
        go_quiet (fail)
        go_wp2
        go_roundw
        case rel => exact ⟨(n : Int) - 1, by omega, by omega, by go_num, Lib.hid ⟨fun t ht => by
          rcases Nat.lt_or_ge n t with h | h
          · exact HN.out.same t (by omega)
          · have : t = n := by omega
            subst this
            rw [HP.out, HQ.out, HE.out]⟩, _, rfl⟩
        case measure => simp [intOf]
      · have e0 : ((p : Int) != (q : Int)) = true := by rw [bne_iff_ne]; omega
        have HD : Hid (decide (p < q) = decide (val B32 l < val B32 m)) := Lib.hid (by
          rcases Nat.lt_or_gt_of_ne q0 with h | h
          · rw [decide_eq_true h, decide_eq_true (HN.out.differL HBL.out HP.out HQ.out h)]
          · have := HN.out.swap.differL HBM.out HQ.out HP.out h
            rw [decide_eq_false (by omega : ¬ p < q), decide_eq_false (by omega)])
        clear q0
        go_wp2
        go_quiet (fail)
        go_wp2
        go_quiet (fail)
        go_wp2
        go_ret
        exact ⟨ret_bool HD.out, _, by rw [World.drewN_drewN, World.drewN_drewN]⟩
    · have hk' : k = -1 := by omega
      have HE : Hid (decide (val B32 l < val B32 m) = false) := Lib.hid (decide_eq_false (by
        have := HI.out
        rw [hk'] at this
        have := OrderI.allSame this
        omega))
      clear hk'
      go_wp2
      go_ret
      exact ⟨ret_bool HE.out.symm, _, rfl⟩
end Go.Proofs.YtgcbnagfdfgpnaaDoor
end
section
namespace Go.Proofs.YtgcbnagfdfgpnaaDoor
open Go.RowKit Go.Hx
theorem aggWide : AggTy Tryd.prog 136 74 := ⟨⟨_, Tryd.underlying136, rfl⟩, by kernel_rfl⟩
theorem zeroWide : Tryd.zeroCells136 = (W32 (List.replicate 74 0)).toArray := by kernel_rfl
set_option maxRecDepth 100000 in
set_option maxHeartbeats 1000000 in
theorem dyad_widen (x : XDyad) (e k : Nat) (w : World) (hx : x.ok w w.heap.size) (hb : Limbs x.limbs.l) (hl : x.limbs.l.length ≤ 40) (hk : (k : Int) = (e : Int) - x.exp) (hk2 : k ≤ 1024) :
    Calls Tryd.prog 71 #[.agg #[.bool x.neg, .slice x.limbs.A x.limbs.l.length x.limbs.c, .int .i64 x.exp], .int .i64 e] w fun e w' => ∃ l : List Nat, e = .returned (.agg (W32 l).toArray) ∧ l.length = 74 ∧ Limbs l ∧ val B32 l = 2 ^ k * val B32 x.limbs.l ∧ Ext w w' := by
  have hsub : IntKind.i64.wrap ((e : Int) - x.exp) = (k : Int) := by rw [← hk, IntWalk.i64_in _ (by omega)]
  have HX := Lib.hid hx
  have HB := Lib.hid hb
  have HLN := Lib.hid hl
  obtain ⟨q, hq⟩ : ∃ q, k / 32 = q := ⟨_, rfl⟩
  obtain ⟨r, hr⟩ : ∃ r, k % 32 = r := ⟨_, rfl⟩
  have hqi : (k : Int) / 32 = (q : Int) := by omega
  have hri : (k : Int) % 32 = (r : Int) := by omega
  have hq32 : q ≤ 32 := by omega
  have hr32 : r < 32 := by omega
  have HQ := Lib.hid hq
  have HR := Lib.hid hr
  clear hx hb hl hk hk2 hq hr
  go_enter Tryd.func71, Tryd.ntmps71
  go_wp2_with fail
  go_loopw [16] (fun i wr => ∃ j : Nat, ∃ l, j ≤ x.limbs.l.length ∧ i = .int .i64 j ∧ Hid (WidI x.limbs.l k j l) ∧ Hid (Blk wr (w.heap.size + 1) 136 (W32 l)) ∧ Hid (Ext w wr)) (fun i _ => x.limbs.l.length - (intOf i).toNat)
  case atStart => exact ⟨0, List.replicate 74 0, by omega, rfl, Lib.hid (WidI.begin _ _), Lib.hid (by rw [zeroWide]; exact Blk.new (by simp)), Lib.hid (Ext.alloc' (Ext.alloc _ _) _)⟩
  case round =>
    obtain ⟨i, l, hi, rfl, HI, HBk, HE⟩ := hrel
    have hl40 := HLN.out
    by_cases hlt : i < x.limbs.l.length
    · obtain ⟨b, off, hA, _, rr⟩ := Sl.row (size := 1) (fun _ => rfl) (HX.out.limbs.1.below HE.out.below) (List.getElem?_eq_getElem hlt)
      obtain ⟨z, hz⟩ : ∃ z, x.limbs.l[i] = z := ⟨_, rfl⟩
      have hc : wr.cell? ⟨b, off + i, none⟩ = some (.int .u32 z) := by have := rr 0 _ rfl; rw [hz] at this; simpa using this
      have HZ := Lib.hid (show x.limbs.l[i]? = some z by rw [List.getElem?_eq_getElem hlt, hz])
      have hzl : z < 4294967296 := by rw [← hz]; exact HB.out _ (List.getElem_mem hlt)
      have hii : (i : Int) < (x.limbs.l.length : Int) := by omega
      clear rr hz
      rw [hA]
      obtain ⟨iq, hiq⟩ : ∃ n, i + q = n := ⟨_, rfl⟩
      obtain ⟨iq1, hiq1⟩ : ∃ n, iq + 1 = n := ⟨_, rfl⟩
      have hw1 : IntKind.i64.wrap ((i : Int) + (q : Int)) = (iq : Int) := by have := HLN.out; rw [IntWalk.i64_in _ (by omega)]; omega
      have hw2 : IntKind.i64.wrap ((iq : Int) + 1) = (iq1 : Int) := by have := HLN.out; rw [IntWalk.i64_in _ (by omega)]; omega
      have hb1 : (iq : Int) < 74 := by have := HLN.out; omega
      have hb2 : (iq1 : Int) < 74 := by have := HLN.out; omega
      obtain ⟨c, hcc, hc0⟩ := RowAt.wide (HBk.out.row) (n := iq) (by rw [HI.out.len]; omega)
      obtain ⟨c1, hcc1, hc1'⟩ := RowAt.wide (HBk.out.row) (n := iq1) (by rw [HI.out.len]; omega)
      rw [Nat.zero_add] at hc0 hc1'
      have f0 : ∀ j, wr.frozen? ⟨w.heap.size + 1, j, none⟩ = false := HBk.out.free
      have hne : iq ≠ iq1 := by omega
      have hc1 : ∀ u, (wr.setCell ⟨w.heap.size + 1, iq, none⟩ u).cell? ⟨w.heap.size + 1, iq1, none⟩ = some (.int .u32 c1) := fun u => by
        rw [(HBk.out.set iq u).cell iq1, List.getElem?_set_ne hne, ← HBk.out.cell iq1]; exact hc1'
      have f1 : ∀ u j, (wr.setCell ⟨w.heap.size + 1, iq, none⟩ u).frozen? ⟨w.heap.size + 1, j, none⟩ = false := fun u => (HBk.out.set iq u).free
      have hz64 : IntKind.u64.wrap (z : Int) = (z : Int) := wr64 z (by omega)
      obtain ⟨S, hS⟩ : ∃ S, z * 2 ^ r = S := ⟨_, rfl⟩
      have hS64 : S < 18446744073709551616 := by
        have h1 : 2 ^ r ≤ 2 ^ 32 := Nat.pow_le_pow_right (by omega) (by omega)
        have h2 : z * 2 ^ r ≤ 4294967295 * 2 ^ 32 := Nat.mul_le_mul (by omega) h1
        rw [hS] at h2
        omega
      have hsh : IntKind.u64.wrap ((z : Int) * 2 ^ r) = (S : Int) := by
        rw [← hS, ← wr64 (z * 2 ^ r) (by rw [hS]; exact hS64)]
        congr 1
      obtain ⟨lo, hlo⟩ : ∃ n, S % 4294967296 = n := ⟨_, rfl⟩
      obtain ⟨hh, hhh⟩ : ∃ n, S / 4294967296 = n := ⟨_, rfl⟩
      have hloi : (S : Int) % 4294967296 = (lo : Int) := by omega
      have hhi1 : (S : Int) / 4294967296 = (hh : Int) := by omega
      have hhi2 : (hh : Int) % 4294967296 = (hh : Int) := by omega
      have hN := HI.out.next HZ.out hzl (lo := lo) (hi := hh) (c := c) (by have := HLN.out; rw [HQ.out]; omega) (by rw [HQ.out, hiq]; exact hcc) (by rw [HR.out, hS]; exact hlo) (by rw [HR.out, hS]; exact hhh)
      rw [HQ.out, hiq, hiq1] at hN
      obtain ⟨hN, hv, hhl⟩ := hN
      have hc10 : c1 = 0 := by rw [← hcc1]; exact HI.out.zero _ (by rw [HQ.out]; omega)
      have hcl : c < B32 := by rw [← hcc]; exact HI.out.limbs.get _
      have hol : lo < B32 := by show lo < 4294967296; omega
      obtain ⟨v, hvv⟩ : ∃ v, c ||| lo = v := ⟨_, rfl⟩
      rw [hvv] at hN hv
      have hor : bits .or .u32 (c : Int) (lo : Int) = (v : Int) := by rw [n32_or _ _ hcl hol, hvv]
      have hor2 : bits .or .u32 (c1 : Int) (hh : Int) = (hh : Int) := by rw [n32_or _ _ (by rw [hc10]; decide) hhl, hc10, Nat.zero_or]
      have HN := Lib.hid hN
      clear hcc hcc1 hc1' hS hS64 hlo hhh hN hv hhl hc10 hcl hol hvv hne hzl hiq hiq1
      go_wp2_with fail
      go_roundw
      case rel =>
        have hln := HLN.out
        exact ⟨i + 1, _, by omega, by go_num, HN, Lib.hid (by rw [← W32.set, ← W32.set]; exact (HBk.out.set iq _).set iq1 _), Lib.hid (by
        exact (HE.out.setCell' (p := ⟨w.heap.size + 1, iq, none⟩) (by show w.heap.size ≤ w.heap.size + 1; omega) _).setCell' (p := ⟨w.heap.size + 1, iq1, none⟩) (by show w.heap.size ≤ w.heap.size + 1; omega) _)⟩
      case measure => have hln := HLN.out; simp [intOf]; omega
    · have hie : i = x.limbs.l.length := by omega
      have HD : Hid (val B32 l = 2 ^ k * val B32 x.limbs.l) := Lib.hid (by have := HI.out; rw [hie] at this; exact this.done)
      have hii : ¬ (i : Int) < (x.limbs.l.length : Int) := by omega
      clear hie
      have hT : AggTy Tryd.prog 136 (W32 l).length := by rw [W32.len, HI.out.len]; exact aggWide
      have HT := Lib.hid hT
      clear hT
      go_wp2_with (first | ((with_reducible refine wpl_load 136 (.tmp 4) ?_ ?_ (w.heap.size + 1) 0 (W32 l) ?_ ?_ ?_ ?_); (exact rfl); (exact rfl); (exact rfl); (exact HT.out); (exact HBk.out.row)) | ((with_reducible refine wpl_store 136 (.tmp 4) (.tmp 49) ?_ ?_ (w.heap.size + 1) 0 136 (W32 l) (W32 l) ?_ ?_ ?_ ?_ ?_ ?_ ?_); (exact rfl); (exact rfl); (exact rfl); (exact rfl); (exact HT.out); (exact HBk.out); (exact by omega); (exact W32.one l); (intro w4 BR hO)) | fail)
      rw [show (W32 l).take 0 ++ W32 l ++ (W32 l).drop (0 + (W32 l).length) = W32 l by simp] at BR
      exact bodyPost_ret (results_c rfl rfl BR HT.out) rfl ⟨l, rfl, HI.out.len, HI.out.limbs, HD.out, Only.ext HE.out hO (by omega)⟩
end Go.Proofs.YtgcbnagfdfgpnaaDoor
end
