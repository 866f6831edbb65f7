/- The reference's numbers as bits: what its functions answer. -/
import Derived.Test.YtgcbnagfdfgpnaaDoorRows
import Derived.Test.YtgcbnagfdfgpnaaDoorChainApp
import Derived.Test.YtgcbnagfdfgpnaaDoorNat
namespace Go.Hx
open Go.RowKit
theorem getD_of {l : List Nat} {k x : Nat} (h : l[k]? = some x) : l[k]?.getD 0 = x := by simp [h]
theorem getD_out {l : List Nat} {k : Nat} (h : l.length ≤ k) : l[k]?.getD 0 = 0 := by simp [h]
/-- a value is a list of bits -/
def Bits (l : List Nat) : Prop := ∀ x ∈ l, x < 2
theorem Bits.digs (n : Nat) : Bits (digs 2 n) := digs_lt (by omega) n
theorem Bits.get {l : List Nat} (h : Bits l) (k : Nat) : l[k]?.getD 0 ≤ 1 := by
  rcases Nat.lt_or_ge k l.length with hk | hk
  · rw [getD_of (List.getElem?_eq_getElem hk)]
    have := h _ (List.getElem_mem hk)
    omega
  · rw [getD_out hk]; omega
theorem Own.front {α : Type} {w : World} {base e size c : Nat} {enc : α → List Value} {A : Option Addr} {l : List α} (hs : ∀ x, (enc x).length = size) (h : Go.Hx.Own w base e size enc (.slice A l.length c) l) {k : Nat} (hk : k ≤ l.length) : Go.Hx.Own w base e size enc (.slice A (l.take k).length c) (l.take k) := by
  have hl : ∀ m : List α, (m.flatMap enc).length = m.length * size := fun m => by
    induction m with
    | nil => simp
    | cons x m ih => rw [List.flatMap_cons, List.length_append, ih, hs, List.length_cons, Nat.add_mul]; omega
  refine ⟨hl _, ?_⟩
  rcases h.2 with ⟨h1, h2⟩ | ⟨g, cap, cur, hv, hb, hg, hn, hm, hz, ht⟩
  · injection h1 with h1 h3 h4
    have : l = [] := List.eq_nil_of_length_eq_zero h2
    subst this
    exact .inl ⟨by simp [h1, h4], by simp⟩
  · injection hv with h1 h3 h4
    refine .inr ⟨g, cap, cur, by rw [h1, h4], hb, hg, by rw [List.length_take]; omega, hm, hz, ?_⟩
    rw [List.length_take, Nat.min_eq_left hk]
    have : cur.toList.take (k * size) = (cur.toList.take (l.length * size)).take (k * size) := by
      rw [List.take_take, Nat.min_eq_left (Nat.mul_le_mul_right _ hk)]
    rw [this, ht]
    conv => lhs; rw [← List.take_append_drop k l]
    rw [List.flatMap_append, List.take_append_of_le_length (by rw [hl, List.length_take, Nat.min_eq_left hk]; omega), List.take_of_length_le (by rw [hl, List.length_take, Nat.min_eq_left hk]; omega)]
theorem val_take_getD {l : List Nat} (b k : Nat) : val b (l.take (k + 1)) = val b (l.take k) + b ^ k * l[k]?.getD 0 := by
  rcases Nat.lt_or_ge k l.length with hk | hk
  · rw [getD_of (List.getElem?_eq_getElem hk)]
    exact val_take_succ (List.getElem?_eq_getElem hk)
  · rw [getD_out hk, List.take_of_length_le (by omega), List.take_of_length_le hk]; simp
end Go.Hx
namespace Go.Proofs.YtgcbnagfdfgpnaaDoor
open Go.RowKit Go.Hx
theorem elu8 : ElTy Tryd.prog 105 5 1 1 := ElTy.mk' (z := .int .u8 0) Tryd.underlying105 (by kernel_rfl) rfl (by decide)

set_option maxRecDepth 100000 in
theorem ref01_bit (x : LX Nat) (k : Nat) (w : World) (hx : x.ok w w.heap.size cU8) {p : Nat} (hp : x.l[k]?.getD 0 = p) :
    Calls Tryd.prog 174 #[.slice x.A x.l.length x.c, .int .i64 k] w fun e w' => e = .returned (.int .u8 p) ∧ w' = w := by
  obtain ⟨l, A, c⟩ := x
  obtain ⟨hx, hx1, hx2⟩ := hx
  dsimp only at *
  unfold maxLen at hx2
  by_cases hlt : k < l.length
  · obtain ⟨b, off, rfl, _, r⟩ := Sl.row (size := 1) (fun _ => rfl) hx (List.getElem?_eq_getElem hlt)
    have hc : w.cell? ⟨b, off + k, none⟩ = some (.int .u8 l[k]) := by have := r 0 _ rfl; simpa using this
    have hki : (k : Int) < (l.length : Int) := by omega
    have HG := Lib.hid ((getD_of (List.getElem?_eq_getElem hlt)).symm.trans hp)
    clear hx r hp
    go_enter Tryd.func174, Tryd.ntmps174
    go_wp2
    go_ret
    exact ⟨ret_int (by rw [HG.out]), rfl⟩
  · have hki : ¬ (k : Int) < (l.length : Int) := by omega
    have HG := Lib.hid ((getD_out (l := l) (k := k) (by omega)).symm.trans hp)
    clear hx hlt hp
    go_enter Tryd.func174, Tryd.ntmps174
    go_wp2
    go_ret
    exact ⟨ret_int (by rw [← HG.out]; rfl), rfl⟩

set_option maxRecDepth 100000 in
set_option maxHeartbeats 400000 in
theorem ref01_Cut (x : LX Nat) (w : World) (hx : x.ok w w.heap.size cU8) (hb : Bits x.l) :
    Calls Tryd.prog 84 #[.slice x.A x.l.length x.c] w fun e w' => ∃ k, k ≤ x.l.length ∧ x.l.take k = digs 2 (val 2 x.l) ∧ e = .returned (.slice x.A k x.c) ∧ w' = w := by
  obtain ⟨l, A, c⟩ := x
  obtain ⟨hx, hx1, hx2⟩ := hx
  dsimp only at *
  unfold maxLen at hx2
  have HX := Lib.hid hx
  have HB := Lib.hid hb
  clear hx hb
  go_enter Tryd.func84, Tryd.ntmps84
  go_wp2
  go_loop [3] (fun i => ∃ k : Nat, k ≤ l.length ∧ i = .int .i64 k ∧ Hid (val 2 (l.drop k) = 0)) (fun i => (intOf i).toNat)
  case atStart => exact ⟨l.length, Nat.le_refl _, rfl, Lib.hid (by simp)⟩
  case round =>
    obtain ⟨k, hk, rfl, hv⟩ := hrel
    by_cases h0 : k = 0
    · subst h0
      go_wp2
      go_ret
      exact ⟨0, Nat.zero_le _, digs_cut (by omega) 0 (Nat.zero_le _) HB.out hv.out (.inl rfl), rfl, rfl⟩
    · obtain ⟨j, rfl⟩ : ∃ j, k = j + 1 := ⟨k - 1, by omega⟩
      have hlt : j < l.length := by omega
      obtain ⟨b, off, rfl, _, r⟩ := Sl.row (size := 1) (fun _ => rfl) HX.out (List.getElem?_eq_getElem hlt)
      have hc : w.cell? ⟨b, off + j, none⟩ = some (.int .u8 l[j]) := by have := r 0 _ rfl; simpa using this
      have hki : (j : Int) < (l.length : Int) := by omega
      have hsub : IntKind.i64.wrap ((↑(j + 1) : Int) - 1) = (j : Int) := by rw [IntWalk.i64_in _ (by omega)]; omega
      clear r h0
      by_cases hz : l[j] = 0
      · have HZ : Hid (val 2 (l.drop j) = 0) := Lib.hid (by
          rw [List.drop_eq_getElem_cons hlt, val_cons, hz, hv.out])
        rw [hz] at hc
        clear hz
        go_wp2
        go_round
        case rel => exact ⟨j, by omega, by go_num, HZ⟩
        case measure => simp [intOf]
      · have HZ : Hid (l.take (j + 1) = digs 2 (val 2 l)) := Lib.hid (digs_cut (by omega) (j + 1) hk HB.out hv.out (.inr ⟨l[j], by simp, hz⟩))
        have hzi : ((l[j] : Int) == 0) = false := by simp [hz]
        clear hz
        go_wp2
        go_ret
        exact ⟨j + 1, hk, HZ.out, rfl, rfl⟩

end Go.Proofs.YtgcbnagfdfgpnaaDoor
