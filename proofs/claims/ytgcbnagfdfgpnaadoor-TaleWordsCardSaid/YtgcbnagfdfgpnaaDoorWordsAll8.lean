/- Parts of a proof, joined: OfD, AtD. -/
import Derived.Test.YtgcbnagfdfgpnaaDoorWordsAll7
import Derived.Test.YtgcbnagfdfgpnaaDoorWordsAll5
section
namespace Go.Hx
open Go.RowKit
theorem W32.inj {l m : List Nat} (h : Value.agg (W32 l).toArray = Value.agg (W32 m).toArray) : l = m := by
  have h1 : W32 l = W32 m := congrArg (fun v : Value => match v with | .agg a => a.toList | _ => []) h
  unfold W32 at h1
  exact (List.map_inj_right (fun a b hab => by
    have : (a : Int) = (b : Int) := congrArg (fun v : Value => match v with | .int _ n => n | _ => 0) hab
    omega)).1 h1
theorem fold_set (off : Nat) : ∀ (xs : List Value) (n : Nat) (cs : List Value), off + n + xs.length ≤ cs.length → (xs.zipIdx n).foldl (fun (c : Array Value) (p : Value × Nat) => c.setIfInBounds (off + p.2) p.1) cs.toArray = (cs.take (off + n) ++ xs ++ cs.drop (off + n + xs.length)).toArray
  | [], n, cs, _ => by simp
  | x :: xs, n, cs, h => by
    have hlen : off + n < cs.length := by simp only [List.length_cons] at h; omega
    have ih := fold_set off xs (n + 1) (cs.set (off + n) x) (by rw [List.length_set]; simp only [List.length_cons] at h; omega)
    rw [List.zipIdx_cons, List.foldl_cons]
    dsimp only
    rw [show cs.toArray.setIfInBounds (off + n) x = (cs.set (off + n) x).toArray by simp, ih]
    congr 1
    rw [show off + (n + 1) = off + n + 1 by omega, List.take_add_one, List.getElem?_set, if_pos rfl, if_pos hlen, List.length_cons]
    rw [List.take_set_of_le (by omega), List.drop_set_of_lt (by omega)]
    simp [Nat.add_comm, Nat.add_left_comm, Nat.add_assoc]
theorem fold_arr {β : Type} (f : β → Value × Nat → β) (b : β) (p : List Value) : Array.foldl f b p.toArray.zipIdx = List.foldl f b p.zipIdx := by
  rw [← Array.foldl_toList, Array.toList_zipIdx]
theorem fill_cons {place : Nat → Option (Nat × Nat)} {cells : Array Value} {i : Nat} {v : Value} {rest : List (Nat × Value)} {off size : Nat} (h1 : place i = some (off, size)) (h2 : v.cells.size = size) (h3 : off + size ≤ cells.size) :
    Instr.fill place cells ((i, v) :: rest) = Instr.fill place (v.cells.zipIdx.foldl (fun (c : Array Value) (p : Value × Nat) => c.setIfInBounds (off + p.2) p.1) cells) rest := by
  have h4 : ¬ (v.cells.size ≠ size || off + v.cells.size > cells.size) = true := by
    simp [h2]; omega
  rw [Instr.fill, h1]
  dsimp only
  rw [if_neg h4]
theorem fill_two {n m : Nat} (Z p q : List Value) (hp : p.length = n) (hq : q.length = m) (hZ : Z.length = n + m) :
    Instr.fill (fun i => (#[(0, n), (n, m)] : Array (Nat × Nat))[i]?) Z.toArray [(0, .agg p.toArray), (1, .agg q.toArray)] = some (p ++ q).toArray := by
  have e1 := fold_set 0 p 0 Z (by omega)
  have e2 := fold_set n q 0 (p ++ Z.drop n) (by simp; omega)
  have s1 : (Z.take (0 + 0) ++ p ++ Z.drop (0 + 0 + p.length)) = p ++ Z.drop n := by simp [hp]
  have s2 : ((p ++ Z.drop n).take (n + 0) ++ q ++ (p ++ Z.drop n).drop (n + 0 + q.length)) = p ++ q := by
    rw [Nat.add_zero, List.take_left' hp, List.drop_eq_nil_of_le (by simp; omega), List.append_nil]
  rw [s1] at e1
  rw [s2] at e2
  rw [fill_cons (off := 0) (size := n) rfl (by simp [Value.cells, hp]) (by simp; omega)]
  rw [show (Value.agg p.toArray).cells = p.toArray from rfl, fold_arr, e1]
  rw [fill_cons (off := n) (size := m) rfl (by simp [Value.cells, hq]) (by simp; omega)]
  rw [show (Value.agg q.toArray).cells = q.toArray from rfl, fold_arr, e2]
  rfl
theorem det_build {o : Oper} {a : Act} {w : World} {P : Program} {t : TypeId} {parts : Array (Nat × Operand)} {cells : Array Value} {vals : List (Nat × Value)} (ho : o.op = .build t parts) (hv : parts.toList.map (fun p => (p.1, a.eval p.2)) = vals) (hb : (Instr.build t vals.toArray).run P w = .ok (.agg cells) w) :
    detUpon w (.agg cells) ((execOp a.eval o).run P w) := by
  have h : parts.map (fun p => (p.1, a.eval p.2)) = vals.toArray := by
    rw [← hv]; cases parts; simp
  unfold execOp
  simp only [ho]
  have h2 : (parts.map fun (i, x) => (i, a.eval x)) = vals.toArray := h
  rw [h2]
  simp only [Sem.run_bind, hb, Result.andThen_ok, Sem.run_pure]
  exact ⟨rfl, rfl⟩
end Go.Hx
namespace Go.Proofs.YtgcbnagfdfgpnaaDoor
open Go.RowKit Go.Hx
attribute [local go_sem] detUpon undIn
theorem built_sum (w : World) (a b c : Value) (l : List Nat) (hl : l.length = 74) : (Instr.build 139 #[(0, .agg #[a, b, c]), (1, .agg (W32 l).toArray)]).run Tryd.prog w = .ok (.agg ([a, b, c] ++ W32 l).toArray) w := by
  refine run_build w _ _ _ ?_
  have h0 : ∀ parts, Tryd.prog.built 139 parts = Instr.fill (fun i => (#[(0, 3), (3, 74)] : Array (Nat × Nat))[i]?) ([Value.bool false, Value.slice none 0 0, Value.int .i64 0] ++ W32 (List.replicate 74 0)).toArray parts := fun parts => by kernel_rfl
  rw [h0]
  exact fill_two _ [a, b, c] (W32 l) rfl (by rw [W32.len, hl]) (by rw [List.length_append, W32.len]; simp)
set_option maxRecDepth 100000 in
set_option maxHeartbeats 1000000 in
theorem dyad_of (x : XDyad) (e k : Nat) (w : World) (hx : x.ok w w.heap.size) (hb : Limbs x.limbs.l) (hl : x.limbs.l.length ≤ 40) (hk : (k : Int) = (e : Int) - x.exp) (hk2 : k ≤ 1024) :
    Calls Tryd.prog 69 #[.agg #[.bool x.neg, .slice x.limbs.A x.limbs.l.length x.limbs.c, .int .i64 x.exp], .int .i64 e] w fun r w' => ∃ (g : Nat) (l : List Nat), r = .returned (.pointer (some ⟨g, 0, none⟩)) ∧ w.heap.size ≤ g ∧ Blk w' g 139 ([Value.bool x.neg, Value.slice none 0 0, Value.int .i64 e] ++ W32 l) ∧ l.length = 74 ∧ Limbs l ∧ val B32 l = 2 ^ k * val B32 x.limbs.l ∧ Ext w w' := by
  have HX := Lib.hid hx
  have HB := Lib.hid hb
  have HL := Lib.hid hl
  have HK := Lib.hid hk
  have HK2 := Lib.hid hk2
  clear hx hb hl hk hk2
  go_enter Tryd.func69, Tryd.ntmps69
  have BX : Blk (w.alloc (.cells #[.bool x.neg, .slice x.limbs.A x.limbs.l.length x.limbs.c, .int .i64 x.exp] 24)) w.heap.size 24 [.bool x.neg, .slice x.limbs.A x.limbs.l.length x.limbs.c, .int .i64 x.exp] := Blk.new rfl
  have hE0 : Ext w (w.alloc (.cells #[.bool x.neg, .slice x.limbs.A x.limbs.l.length x.limbs.c, .int .i64 x.exp] 24)) := Ext.alloc _ _
  go_wp2_with fail
  obtain ⟨WX, hWX⟩ : ∃ W0, W0 = w.alloc (.cells #[.bool x.neg, .slice x.limbs.A x.limbs.l.length x.limbs.c, .int .i64 x.exp] 24) := ⟨_, rfl⟩
  rw [← hWX] at BX hE0 ⊢
  clear hWX
  have G0 : Hid (∀ W, Ext WX W → W.cell? ⟨w.heap.size, 0, none⟩ = some (.bool x.neg)) := Lib.hid fun W hW => hW.cell (BX.cell 0)
  refine wp_region_flowTail 9 (Ext WX) (fun _ => True) Ext (fun i => if i = 6 then .row (fun v => ∃ l : List Nat, v = .agg (W32 l).toArray ∧ l.length = 74 ∧ Limbs l) (fun v _ => ∃ l : List Nat, v = .agg (W32 l).toArray ∧ val B32 l = 2 ^ k * val B32 x.limbs.l) else if i = 8 then .last else .det) [6] (by kernel_rfl) (by kernel_rfl) (by kernel_rfl) (Ext.drew _) trivial (keeps_true _) ?_
  iterate 4 (refine ftext_det rfl rfl ?_; apply Exists.intro; refine ⟨fun w hC => ?_, fun K hK => ?_⟩; (first | (go_simp; exact rfl) | (go_simp; rw [G0.out _ hC]; exact ⟨rfl, rfl⟩)); go_simp; refine hK _ ?_; clear hK K)
  refine ftext_load_row 24 _ rfl rfl rfl (w.heap.size) 0 [.bool x.neg, .slice x.limbs.A x.limbs.l.length x.limbs.c, .int .i64 x.exp] rfl aggDyad (fun w hC => (BX.ext hC).row) (fun K hK => ?_)
  go_simp; refine hK _ ?_; clear hK K
  (refine ftext_det rfl rfl ?_; apply Exists.intro; refine ⟨fun w hC => ?_, fun K hK => ?_⟩; (first | (go_simp; exact rfl) | (go_simp; rw [G0.out _ hC]; exact ⟨rfl, rfl⟩)); go_simp; refine hK _ ?_; clear hK K)
  refine ftext_row _ _ rfl rfl ?_ (fun v w1 w2 h _ => h) (fun w1 hC hJ Φ hΦ => ?_) (fun v hv K hK => ?_)
  · exact ⟨_, List.replicate 74 0, rfl, by simp, Limbs.zeros _⟩
  · go_simp
    refine (dyad_widen x e k _ (HX.out.ext (hE0.trans hC)) HB.out HL.out HK.out HK2.out).mono ?_
    rintro r w2 ⟨l, rfl, h1, h2, h3, hE2⟩
    exact ⟨_, rfl, hΦ _ _ ⟨l, rfl, h1, h2⟩ (hC.trans hE2) hE2 ⟨l, rfl, h3⟩⟩
  obtain ⟨l, rfl, hl74, hlim⟩ := hv
  go_simp; refine hK _ ?_; clear hK K
  have HLIM := Lib.hid hlim
  clear hlim
  refine ftext_det rfl rfl ⟨.agg ([Value.bool x.neg, Value.slice none 0 0, Value.int .i64 e] ++ W32 l).toArray, fun w1 hC => ?_, fun K hK => ?_⟩
  · exact det_build rfl rfl (built_sum w1 (.bool x.neg) (.slice none 0 0) (.int .i64 e) l hl74)
  refine hK _ ?_; clear hK K
  refine ftext_last (fun v => ∃ g : Nat, v = .pointer (some ⟨g, 0, none⟩)) (fun v W => ∃ g : Nat, v = .pointer (some ⟨g, 0, none⟩) ∧ Blk W g 139 ([Value.bool x.neg, Value.slice none 0 0, Value.int .i64 e] ++ W32 l) ∧ WX.heap.size ≤ g ∧ val B32 l = 2 ^ k * val B32 x.limbs.l) rfl rfl ⟨_, 0, rfl⟩ (fun w1 hC hJ _ Φ hΦ => ?_) (fun v hv K hK => ?_)
  · obtain ⟨l', hl', hval⟩ := hJ
    have hll := W32.inj hl'
    subst hll
    go_simp
    exact hΦ _ _ ⟨_, rfl⟩ (hC.trans (Ext.alloc _ _)) ⟨_, rfl, Blk.new rfl, hC.size, hval⟩
  obtain ⟨g, rfl⟩ := hv
  go_simp; refine hK _ ?_; clear hK K
  refine ftext_nil ?_
  rintro w1 hC ⟨g', hg', BG, hgs, hval⟩ _
  have hgg : g = g' := congrArg (fun v : Value => match v with | .pointer (some p) => p.block | _ => 0) hg'
  subst hgg
  have HG := Lib.hid BG
  have HV := Lib.hid hval
  have HE := Lib.hid (hE0.trans hC)
  have HGS := Lib.hid (Nat.le_trans hE0.size hgs)
  have HL74 := Lib.hid hl74
  clear hgs BG hval hC hl74 hg'
  simp only [List.drop_succ_cons, List.drop_zero]
  refine wplIn_assign Open.wide _ rfl rfl ?_
  refine wpListIn_nil ?_
  go_wp2_with fail
  go_ret
  exact ⟨g, l, rfl, HGS.out, HG.out, HL74.out, HLIM.out, HV.out, HE.out⟩
end Go.Proofs.YtgcbnagfdfgpnaaDoor
end
section
namespace Go.Proofs.YtgcbnagfdfgpnaaDoor
open Go.RowKit Go.Hx
set_option maxRecDepth 100000 in
set_option maxHeartbeats 1000000 in
theorem sum_at1 (gp g n x : Nat) (s : Bool) (v1 v2 : Value) (l : List Nat) (w : World) (hp : w.cell? ⟨gp, 0, none⟩ = some (.pointer (some ⟨g, 0, none⟩))) (hB : Blk w g 139 (.bool s :: v1 :: v2 :: W32 l)) (hl : l.length = 74) (hx : l[n]?.getD 0 = x) (hx2 : x < B32) :
    Calls Tryd.prog 156 #[.int .i64 n, .pointer (some ⟨gp, 0, none⟩)] w fun e w' => e = .returned (.int .u64 x) ∧ w' = w := by
  by_cases hn : n < 74
  · have hlt : n < l.length := by omega
    have hc : w.cell? ⟨g, 3 + n, none⟩ = some (.int .u32 x) := by
      rw [hB.cell (3 + n), Nat.add_comm 3 n]
      show (W32 l)[n]? = _
      rw [List.getElem?_eq_getElem hlt] at hx
      exact W32.get (by rw [List.getElem?_eq_getElem hlt]; exact congrArg some hx)
    have hni : (n : Int) < 74 := by omega
    have hz64 : IntKind.u64.wrap (x : Int) = (x : Int) := wr64 x (Nat.lt_of_lt_of_le hx2 (by decide))
    clear hB hl hx hx2 hlt hn
    go_enter Tryd.func156, Tryd.ntmps156
    go_wp2_with fail
    go_ret
    exact ⟨rfl, rfl⟩
  · have hx0 : x = 0 := by rw [← hx]; exact getD_out (by omega)
    have hni : ¬ (n : Int) < 74 := by omega
    clear hB hl hx hx2 hn
    subst hx0
    go_enter Tryd.func156, Tryd.ntmps156
    go_wp2_with fail
    go_ret
    exact ⟨rfl, rfl⟩
set_option maxRecDepth 100000 in
set_option maxHeartbeats 1000000 in
theorem sum_at (g i k z : Nat) (s : Bool) (v1 v2 : Value) (l : List Nat) (w : World) (hB : Blk w g 139 (.bool s :: v1 :: v2 :: W32 l)) (hl : l.length = 74) (bl : Limbs l) (hi : i ≤ 100) (hk : k ≤ 5000) (hz : val B32 l / 2 ^ k / B32 ^ i % B32 = z) :
    Calls Tryd.prog 133 #[.pointer (some ⟨g, 0, none⟩), .int .i64 i, .int .i64 k] w fun e w' => e = .returned (.int .u32 z) ∧ Ext w w' := by
  obtain ⟨q, hq⟩ : ∃ q, k / 32 = q := ⟨_, rfl⟩
  obtain ⟨r, hr⟩ : ∃ r, k % 32 = r := ⟨_, rfl⟩
  have hqi : (k : Int) / 32 = (q : Int) := by omega
  have hri : (k : Int) % 32 = (r : Int) := by omega
  obtain ⟨iq, hiq⟩ : ∃ n, i + q = n := ⟨_, rfl⟩
  obtain ⟨iq1, hiq1⟩ : ∃ n, iq + 1 = n := ⟨_, rfl⟩
  have hw1 : IntKind.i64.wrap ((i : Int) + (q : Int)) = (iq : Int) := by rw [IntWalk.i64_in _ (by omega)]; omega
  have hw2 : IntKind.i64.wrap ((iq : Int) + 1) = (iq1 : Int) := by rw [IntWalk.i64_in _ (by omega)]; omega
  obtain ⟨x0, hx0⟩ : ∃ x, l[iq]?.getD 0 = x := ⟨_, rfl⟩
  obtain ⟨x1, hx1⟩ : ∃ x, l[iq1]?.getD 0 = x := ⟨_, rfl⟩
  have hl0 : x0 < B32 := by rw [← hx0]; exact bl.get _
  have hl1 : x1 < B32 := by rw [← hx1]; exact bl.get _
  have hr32 : r < 32 := by omega
  obtain ⟨A, hA⟩ : ∃ A, x1 * B32 + x0 = A := ⟨_, rfl⟩
  have hl0' : x0 < 4294967296 := hl0
  have hl1' : x1 < 4294967296 := hl1
  have hA' : x1 * 4294967296 + x0 = A := hA
  have hsh : IntKind.u64.wrap ((x1 : Int) * 4294967296) = ((x1 * 4294967296 : Nat) : Int) := by rw [← wr64 (x1 * 4294967296) (by omega)]; rfl
  have hor : bits .or .u64 ((x1 * 4294967296 : Nat) : Int) (x0 : Int) = (A : Int) := by
    rw [n64_or _ _ (by omega) (by omega), Nat.or_comm, Nat.mul_comm x1, show (4294967296 : Nat) = 2 ^ 32 from rfl, or_low (by simpa using hl0'), ← hA']
    congr 1
    omega
  have hfin : A / 2 ^ r % B32 = z := by
    rw [← hz, ← at_val, ← val_get (by decide) l bl, ← val_get (by decide) l bl, hq, hr, hiq, hiq1, hx0, hx1, hA]
  have HSH := Lib.hid hsh
  have HOR := Lib.hid hor
  have hfi : ((A / 2 ^ r : Nat) : Int) % 4294967296 = (z : Int) := by
    have h1 : (A / 2 ^ r) % 4294967296 = z := hfin
    rw [← h1]; rfl
  have hdv : (A : Int) / 2 ^ r = ((A / 2 ^ r : Nat) : Int) := by push_cast; rfl
  obtain ⟨D, hD⟩ : ∃ D, A / 2 ^ r = D := ⟨_, rfl⟩
  rw [hD] at hfi hdv
  have HFI := Lib.hid hfi
  have HDV := Lib.hid hdv
  have HB := Lib.hid hB
  have HX0 := Lib.hid (And.intro hx0 hl0)
  have HX1 := Lib.hid (And.intro hx1 hl1)
  have HL := Lib.hid hl
  obtain ⟨Y, hY⟩ : ∃ Y, x1 * 4294967296 = Y := ⟨_, rfl⟩
  rw [hY] at hsh hor
  clear hB hx0 hx1 hl0 hl1 hl0' hl1' hA hA' hfin hl bl hq hr hiq hiq1 hz hD hY HSH HOR HDV hfi
  go_enter Tryd.func133, Tryd.ntmps133
  have hcp : (w.alloc (.cells #[.pointer (some ⟨g, 0, none⟩)] 132)).cell? ⟨w.heap.size, 0, none⟩ = some (.pointer (some ⟨g, 0, none⟩)) := (Blk.new (cs := [.pointer (some ⟨g, 0, none⟩)]) rfl).cell 0
  have HCP := Lib.hid hcp
  clear hcp
  go_wp2_with fail
  refine (sum_at1 w.heap.size g iq1 x1 s v1 v2 l _ HCP.out (HB.out.alloc _) HL.out HX1.out.1 HX1.out.2).mono ?_
  rintro e w' ⟨rfl, rfl⟩
  go_wp2_with fail
  refine (sum_at1 w.heap.size g iq x0 s v1 v2 l _ HCP.out (HB.out.alloc _) HL.out HX0.out.1 HX0.out.2).mono ?_
  rintro e w' ⟨rfl, rfl⟩
  go_wp2_with fail
  rw [HFI.out]
  go_ret
  exact ⟨rfl, Ext.alloc _ _⟩
end Go.Proofs.YtgcbnagfdfgpnaaDoor
end
