/- The lives of a node: what trace.Lives and the reference answer. -/
import Derived.Test.YtnlhpdlnbcdfjaaEv
namespace Go.Proofs.Ytnlhpdlnbcdfjaa
open Go.RowKit Go.Hx

def keep (node : Int) (x : PEvent) : Bool := x.node == node && !(x.kind == 1 || x.kind == 5 || x.kind == 6)
def cut (s : List (List PEvent) × List PEvent) (x : PEvent) : List (List PEvent) × List PEvent := if x.kind = 7 ∧ s.2 ≠ [] then (s.1 ++ [s.2], [x]) else (s.1, s.2 ++ [x])
def fin (s : List (List PEvent) × List PEvent) : List (List PEvent) := if s.2 = [] then s.1 else s.1 ++ [s.2]
def lives (l : List PEvent) (node : Int) : List (List PEvent) := fin ((l.filter (keep node)).foldl cut ([], []))
def cL (L : LX PEvent) : List Value := [.slice L.A L.l.length L.c]
abbrev LX.val (L : LX PEvent) : Value := .slice L.A L.l.length L.c
theorem elLives : ElTy Try.prog 52 50 1 24 := ElTy.mk' (z := .slice none 0 0) Try.underlying52 (by kernel_rfl) rfl (by decide)

abbrev OwnE (w : World) (base : Nat) (v : Value) (l : List PEvent) : Prop := Own w base 56 5 PEvent.cells v l
abbrev OwnL (w : World) (base : Nat) (v : Value) (l : List (LX PEvent)) : Prop := Own w base 50 1 cL v l

structure LivesAt (w : World) (base : Nat) (vo vr : Value) (Ls : List (LX PEvent)) (run : List PEvent) : Prop where
  outs : OwnL w base vo Ls
  run : OwnE w base vr run
  els : ∀ L ∈ Ls, OwnE w base (LX.val L) L.l ∧ (vr.ownBlock = none ∨ (LX.val L).ownBlock ≠ vr.ownBlock)

section
variable {W w1 : World} {base : Nat} {vo vr v' : Value} {Ls : List (LX PEvent)} {run : List PEvent}
theorem livesAt_nil (w : World) (base : Nat) : LivesAt w base (.slice none 0 0) (.slice none 0 0) [] [] := ⟨Own.nil _ _ _ _ _, Own.nil _ _ _ _ _, fun _ h => by cases h⟩
theorem own_type {L : LX PEvent} (h : OwnE W base (LX.val L) L.l) (ho : OwnL W base vo Ls) : (LX.val L).ownBlock = none ∨ (LX.val L).ownBlock ≠ vo.ownBlock := by
  cases hL : (LX.val L).ownBlock with
  | none => exact .inl rfl
  | some g => exact .inr (fun he => (Own.ne h ho (by decide) hL) he.symm)
theorem LivesAt.push (L : LX PEvent) (hL : OwnE W base (LX.val L) L.l) (ho : OwnL W base vo Ls) (he : ∀ L ∈ Ls, OwnE W base (LX.val L) L.l)
    (hn : OwnL w1 base v' (Ls ++ [L])) (hg : W.grownBy w1 vo.ownBlock) : LivesAt w1 base v' (.slice none 0 0) (Ls ++ [L]) [] := by
  refine ⟨hn, Own.nil _ _ _ _ _, fun M hM => ⟨?_, .inl rfl⟩⟩
  rcases List.mem_append.1 hM with hM | hM
  · exact (he M hM).kept hg (own_type (he M hM) ho)
  · obtain rfl : M = L := by simpa using hM
    exact hL.kept hg (own_type hL ho)
theorem LivesAt.add {x : PEvent} (h : LivesAt W base vo vr Ls run) (hn : OwnE w1 base v' (run ++ [x])) (hg : W.grownBy w1 vr.ownBlock) (hat : v'.ownBlock = vr.ownBlock ∨ ∃ g, v'.ownBlock = some g ∧ W.heap.size ≤ g) : LivesAt w1 base vo v' Ls (run ++ [x]) := by
  have ho : vo.ownBlock = none ∨ vo.ownBlock ≠ vr.ownBlock := by
    cases hv : vo.ownBlock with
    | none => exact .inl rfl
    | some g => exact .inr (fun he => (Own.ne h.outs h.run (by decide) hv) he.symm)
  refine ⟨h.outs.kept hg ho, hn, fun M hM => ?_⟩
  obtain ⟨h1, h2⟩ := h.els M hM
  refine ⟨h1.kept hg ?_, ?_⟩
  · rcases h2 with h2 | h2
    · cases hM' : (LX.val M).ownBlock with
      | none => exact .inl rfl
      | some g => exact .inr (by rw [h2]; simp)
    · exact .inr h2
  · cases hM' : (LX.val M).ownBlock with
    | none =>
      cases hv : v'.ownBlock with
      | none => exact .inl rfl
      | some g => exact .inr (by simp)
    | some g =>
      have hlt := (World.ownsRow.lt h1 g hM').2
      rcases hat with hat | ⟨g', hg', hge⟩
      · rw [hat]
        rcases h2 with h2 | h2
        · exact .inl h2
        · rw [hM'] at h2; exact .inr h2
      · exact .inr (by rw [hg']; intro he; injection he with he; omega)
theorem LivesAt.grow {row : Option Nat} (h : LivesAt W base vo vr Ls run) (hg : W.grownBy w1 row) (hr : row = none) : LivesAt w1 base vo vr Ls run := by
  subst hr
  have k : ∀ v : Value, v.ownBlock = none ∨ v.ownBlock ≠ none := fun v => by cases v.ownBlock <;> simp
  exact ⟨h.outs.kept hg (k _), h.run.kept hg (k _), fun M hM => ⟨(h.els M hM).1.kept hg (k _), (h.els M hM).2⟩⟩
end
end Go.Proofs.Ytnlhpdlnbcdfjaa
