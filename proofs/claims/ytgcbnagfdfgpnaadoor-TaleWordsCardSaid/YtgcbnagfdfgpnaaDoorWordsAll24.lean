/- What is wrong is caught: the deferred closure's two contracts, and what the catcher answers. -/
import Derived.Defers
import Derived.Recover
import Derived.Test.YtgcbnagfdfgpnaaDoorWordsAll1
namespace Go.Proofs.YtgcbnagfdfgpnaaDoor
open Go.RowKit Go.Hx
/-- what reading leaves by -/
def wrongV : Value := .iface 193 (.agg #[])
set_option maxRecDepth 100000 in
theorem caught_idle (p : Addr) (w : World) :
    CallsD Tryd.prog 124 #[.pointer (some p)] .returning w fun e u' w' => e = .returned (.tuple #[]) ∧ u' = .returning ∧ w' = w := by
  refine callsD_of_wpS Tryd.func124 rfl fun c₀ cs hu => ?_
  apply wpS_seq
  apply wpS_region
  simp [wpOpsS, go_sem, recoverD, hu, Tryd.ntmps124, Exit.thenS]
  apply wpS_seq
  apply wpS_region
  simp [wpOpsS, go_sem, Exit.thenS]
  refine wpS_cond (t := false) (by simp [Act.eval, Array.replicate]) ?_
  simp only [Bool.false_eq_true, if_false]
  refine wpS_of_wp (wp_skip ?_)
  cases c₀
  simp_all [bodyPostS, results, Tryd.results124]
set_option maxRecDepth 100000 in
theorem caught_wrong (p : Addr) (x : Bool) (older : List PanicEntry) (w : World) (hp : p.block < w.heap.size) (hc : w.cell? p = some (.bool x)) (hz : w.frozen? p = false) :
    CallsD Tryd.prog 124 #[.pointer (some p)] (.panicking ({ v := wrongV, recovered := false } :: older)) w fun e u' w' => e = .returned (.tuple #[]) ∧ u' = .panicking ({ v := wrongV, recovered := true } :: older) ∧ w' = (w.alloc (.cells #[] 193)).setCell p (.bool false) := by
  refine callsD_of_wpS Tryd.func124 rfl fun c₀ cs hu => ?_
  unfold wrongV at hu ⊢
  have hta : ∀ w : World, (Instr.typeAssert (.iface 193 (.agg #[])) 20 193 true).run Tryd.prog w = .ok (.tuple #[.agg #[], .bool true]) w := fun w => by kernel_rfl
  apply wpS_seq
  apply wpS_region
  simp [wpOpsS, go_sem, recoverD, hu, Tryd.ntmps124, Exit.thenS]
  apply wpS_seq
  apply wpS_region
  simp [wpOpsS, go_sem, Exit.thenS]
  refine wpS_cond (t := true) (by simp [Act.eval, Array.replicate]) ?_
  simp only [if_true]
  apply wpS_seq
  apply wpS_seq
  apply wpS_region
  simp [wpOpsS, go_sem, Exit.thenS, hta]
  have hc2 : (w.alloc (.cells #[] 193)).cell? p = some (.bool x) := by rw [← hc]; exact (Ext.alloc w _).below.cell hp
  have hz2 : (w.alloc (.cells #[] 193)).frozen? p = false := by rw [← hz]; exact World.frozen?_alloc_old w _ p (by omega)
  apply wpS_seq
  apply wpS_region
  simp [wpOpsS, go_sem, Exit.thenS]
  refine wpS_cond (t := false) (by simp [Act.eval, Array.replicate]) ?_
  simp only [Bool.false_eq_true, if_false]
  refine wpS_of_wp (wp_skip ?_)
  apply wpS_region
  simp [wpOpsS, go_sem, hc2, hz2, bodyPostS, results, Tryd.results124]
/-- what was done was good, or it was left by what is wrong -/
theorem tale_caught (b1 b2 : Nat) (w : World) (G B : World → Prop)
    (H : Calls Tryd.prog 75 #[.pointer (some ⟨b1, 0, none⟩), .pointer (some ⟨b2, 0, none⟩)] (w.alloc (.cells #[.bool false] 4)) fun e w' => (e = .returned (.tuple #[]) ∧ G w') ∨ (e = .panicked [{ v := wrongV, recovered := false }] ∧ B w'))
    (hG : ∀ W, G W → Blk W w.heap.size 4 [.bool false]) (hB : ∀ W, B W → Blk W w.heap.size 4 [.bool false]) :
    Calls Tryd.prog 74 #[.func (.func 75) #[] #[.pointer (some ⟨b1, 0, none⟩), .pointer (some ⟨b2, 0, none⟩)]] w fun e w' => (e = .returned (.bool true) ∧ ∃ w1, G w1 ∧ w' = w1.setCell ⟨w.heap.size, 0, none⟩ (.bool true)) ∨ (e = .returned (.bool false) ∧ ∃ w1, B w1 ∧ w' = (w1.alloc (.cells #[] 193)).setCell ⟨w.heap.size, 0, none⟩ (.bool false)) := by
  have hmf : ∀ (fn : Fn) (first cap : Array Value) (w : World), (Instr.makeFunc fn first cap).run Tryd.prog w = .ok (.func fn first cap) w := fun _ _ _ _ => rfl
  go_enter_defers Tryd.func74, Tryd.ntmps74
  go_wp2_with fail
  refine H.mono ?_
  rintro e w1 (⟨rfl, h1⟩ | ⟨rfl, h1⟩)
  · have hB1 := hG _ h1
    have hc : w1.cell? ⟨w.heap.size, 0, none⟩ = some (.bool false) := hB1.cell 0
    have hz : w1.frozen? ⟨w.heap.size, 0, none⟩ = false := hB1.free 0
    go_wp2_with fail
    refine leaves_cons (f := 124) (args := #[.pointer (some ⟨w.heap.size, 0, none⟩)]) (by simp) (by simp [go_sem]) ?_
    refine (caught_idle ⟨w.heap.size, 0, none⟩ _).mono ?_
    rintro e u' w'' ⟨rfl, rfl, rfl⟩
    have hc2 : (w1.setCell ⟨w.heap.size, 0, none⟩ (.bool true)).cell? ⟨w.heap.size, 0, none⟩ = some (.bool true) := (hB1.set 0 (.bool true)).cell 0
    simp only [Leaves, settle, results, Tryd.results74]
    exact ⟨.bool true, by simp [go_sem, hc2], .inl ⟨rfl, w1, h1, rfl⟩⟩
  · have hB1 := hB _ h1
    have hc : w1.cell? ⟨w.heap.size, 0, none⟩ = some (.bool false) := hB1.cell 0
    have hz : w1.frozen? ⟨w.heap.size, 0, none⟩ = false := hB1.free 0
    refine leaves_cons (f := 124) (args := #[.pointer (some ⟨w.heap.size, 0, none⟩)]) (by simp) (by simp [go_sem]) ?_
    refine (caught_wrong ⟨w.heap.size, 0, none⟩ false [] _ hB1.lt hc hz).mono ?_
    rintro e u' w'' ⟨rfl, rfl, rfl⟩
    have hc2 : ((w1.alloc (.cells #[] 193)).setCell ⟨w.heap.size, 0, none⟩ (.bool false)).cell? ⟨w.heap.size, 0, none⟩ = some (.bool false) := ((hB1.alloc _).set 0 (.bool false)).cell 0
    simp [Leaves, settle, results, Tryd.results74, go_sem, hc2]
    exact ⟨w1, h1, rfl⟩
end Go.Proofs.YtgcbnagfdfgpnaaDoor
