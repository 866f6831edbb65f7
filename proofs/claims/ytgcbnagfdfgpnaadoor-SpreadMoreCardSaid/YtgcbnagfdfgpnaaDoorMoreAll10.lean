/- The law SpreadMore answers true from any state in which the library's table lies. Printed by gen_lawsm.py. -/
import Derived.Test.YtgcbnagfdfgpnaaDoorMoreAll9
import Derived.Test.YtgcbnagfdfgpnaaDoorFlowF
namespace Go.Hx
open Go.RowKit
section
variable {Fi : Fence} {P : Program} {o : Oper} {a : Act} {Φ : Value → World → Prop}
/-- 'append([]T{}, l...)' -/
theorem und_app_zero {α : Type} {t e size bytes : Nat} (E : ElTy P t e size bytes) (s x : Operand) (ho : o.op = .call { callee := .builtin .append, args := #[s, x], argTypes := #[t, t] })
    (W : World) (base : Nat) (enc : α → List Value) (g : Nat) (ys : List α) (hs : a.eval s = .slice (some ⟨g, 0, none⟩) 0 0) (hown : Go.Hx.Own W base e size enc (.slice (some ⟨g, 0, none⟩) 0 0) ([] : List α))
    (A : Option Addr) (n c : Nat) (hx : a.eval x = .slice A n c) (hn : ys.length = n) (hsl : Sl W W.heap.size enc A ys) (hl : ∀ y, (enc y).length = size)
    (hbytes : ys.length * bytes ≤ 140737488355328) (h63 : ys.length ≤ maxLen) (hbase : base ≤ W.heap.size)
    (h : ∀ v' w', Go.Hx.Own w' base e size enc v' ys → Ext W w' → Φ v' w') :
    undIn Fi P Φ ((execOp a.eval o).run P W) := by
  subst hn
  obtain ⟨i, z, hi, hz, hsz, hby, hzs⟩ := E.info
  have key : ∃ v' w', (Builtin.append_ #[t, t] o.type #[.slice (some ⟨g, 0, none⟩) 0 0, .slice A ys.length c]).run P W = .ok v' w' ∧ Go.Hx.Own w' base e size enc v' ys ∧ Ext W w' := by
    by_cases hy : ys = []
    · subst hy
      have hsrc : Src P i.size t (.slice A 0 c) 0 [] W := by
        cases A with
        | none => exact Src.ofNil W E.ht c
        | some a => exact Src.ofSlice W E.ht a 0 c [] (by simp) (by simp) (by simp)
      exact ⟨_, W, run_append_nothing W t t o.type e i E.ht hi _ 0 0 (Nat.le_refl _) _ hsrc, hown, Ext.refl _⟩
    · obtain ⟨b, off, hA, hb, hrow⟩ := hsl.resolve_left hy
      subst hA
      have hlen : (ys.flatMap enc).length = ys.length * size := by
        clear hx hsl hbytes h63 h hy hrow
        induction ys with
        | nil => simp
        | cons y ys ih => rw [List.flatMap_cons, List.length_append, ih, hl, List.length_cons, Nat.add_mul]; omega
      have h0 : 0 < ys.length := List.length_pos_iff.2 hy
      obtain ⟨v', w', hr, h2, h3⟩ := run_append_arg_grows (P := P) W t o.type e i z size bytes E.ht hi hz hsz hby hzs E.pos ⟨g, 0, none⟩ 0 0 [] (by simp) (by simp) ⟨b, off, none⟩ ys.length c (ys.flatMap enc) hlen
        (fun j u hu => by rw [add_none]; exact hrow j u hu) (by omega) (by omega) (by simpa using hbytes)
      refine ⟨v', w', hr, Go.Hx.Own.lower ?_ hbase, ⟨h3.os, h3.tape, h3.output, h3.size, fun k hk => h3.block k hk (by simp)⟩⟩
      unfold Go.Hx.Own
      simpa using h2
  obtain ⟨v', w', hr, h2, h3⟩ := key
  unfold execOp
  simp only [ho, resolve, invoke, builtin, Sem.run_bind, Sem.run_pure, Result.andThen_ok, List.map_toArray, List.map_cons, List.map_nil, hs, hx, hr]
  exact h v' w' h2 h3
end
theorem more_len {n : Nat} (l : List PMeeting) : (rfold n (0, initJ n) l).1 ≤ l.length := by
  have := rfold_bound2 (n := n) l 0 (initJ n)
  omega
/-- what is asked of more meetings -/
inductive MoreP (n : Int) (l : List PMeeting) (ra : Int × Int) (ja : Bool × Int) (rc : Int × Int) : Prop where
  | bad (x : Int) (hx : x ≠ 0) (h1 : ra = (0, x)) (h2 : ja = (false, x)) (h3 : rc.2 ≠ 0)
  | ok (r : Nat) (p : Int) (hn : 2 ≤ n ∧ n ≤ 8) (hr : r ≤ l.length) (hp : r * (n - 1) = p) (hpl : p ≤ l.length) (h1 : ra = ((r : Int), 0)) (h2 : ja = (decide (0 < r), 0)) (h3 : rc.2 ≠ 0 ∨ rc = ((r : Int), 0) ∨ rc = ((r : Int) + 1, 0))
theorem asked_more {n : Int} {l : List PMeeting} {x : PMeeting} (h : askedP n (l ++ [x]) = 0) : askedP n l = 0 := by
  obtain ⟨h2, h8, hl, hx⟩ := asked_ok h
  exact asked_of h2 h8 (by rw [List.length_append] at hl; omega) fun y hy => hx y (List.mem_append_left _ hy)
theorem moreP (n : Int) (l : List PMeeting) (x : PMeeting) : MoreP n l (roundsP n l) (joinsP n l) (roundsP n (l ++ [x])) := by
  by_cases h : askedP n l = 0
  · obtain ⟨h2, h8, hl, hx⟩ := asked_ok h
    obtain ⟨N, rfl⟩ : ∃ N : Nat, n = (N : Int) := ⟨n.toNat, by omega⟩
    have hb := rfold_bound (n := N) l 0 (initJ N) 0 (Int.le_refl _) (by show ((0 : Nat) : Int) * _ + ((N : Int) - (N : Int)) ≤ 0; simp)
    refine .ok (rfold N (0, initJ N) l).1 _ ⟨h2, h8⟩ (more_len l) rfl (by omega) (by unfold roundsP; rw [if_pos h, Int.toNat_natCast]) ?_ ?_
    · unfold joinsP
      rw [if_pos h, Int.toNat_natCast]
      have hj := joins_rounds l (initJ N) (Inv.init N) (by show (N : Int) ≠ 1; omega) hx
      rw [Prod.mk.injEq]
      refine ⟨?_, rfl⟩
      rw [decide_eq_decide]
      exact hj.symm
    · by_cases h3 : askedP N (l ++ [x]) = 0
      · right
        unfold roundsP
        rw [if_pos h3, Int.toNat_natCast]
        rcases rfold_one (n := N) l (0, initJ N) x with h4 | h4
        · left; rw [h4]
        · right; rw [h4]; rfl
      · left
        unfold roundsP
        rw [if_neg h3]; exact h3
  · refine .bad (askedP n l) h (by unfold roundsP; rw [if_neg h]) (by unfold joinsP; rw [if_neg h]) ?_
    have h3 : askedP n (l ++ [x]) ≠ 0 := fun h3 => h (asked_more h3)
    unfold roundsP
    rw [if_neg h3]; exact h3
end Go.Hx
namespace Go.Proofs.YtgcbnagfdfgpnaaDoor
open Go.RowKit Go.Hx
theorem aggMeet : AggTy Tryd.prog 37 2 := ⟨⟨_, Tryd.underlying37, rfl⟩, by kernel_rfl⟩
attribute [local go_sem] detUpon undIn
set_option maxRecDepth 100000 in
set_option maxHeartbeats 1000000 in
theorem spreadMore_any (n : Int) (m : LX PMeeting) (one : PMeeting) (w : World) (hm : m.ok w w.heap.size PMeeting.cells) (hT : Tab w) :
    Calls Tryd.prog 4 #[.int .i64 n, .slice m.A m.l.length m.c, .agg #[.int .i64 one.asks, .int .i64 one.asked]] w fun e w' => e = .returned (.bool true) ∧ Ext w w' := by
  have HM := Lib.hid hm
  have HT := Lib.hid hT
  clear hm hT
  obtain ⟨l, A, c⟩ := m
  dsimp only at *
  go_enter Tryd.func4, Tryd.ntmps4
  have HBO : Hid (Blk (w.alloc (.cells #[.int .i64 one.asks, .int .i64 one.asked] 37)) w.heap.size 37 [.int .i64 one.asks, .int .i64 one.asked]) := Lib.hid (Blk.new rfl)
  go_wp2_with fail
  refine (law30_alive _ (HT.out.ext (Ext.alloc _ _))).mono ?_
  rintro e w1 ⟨rfl, hE1⟩
  have HB1 := Lib.hid (HBO.out.ext hE1)
  have HE1 : Hid (Ext w w1) := Lib.hid ((Ext.alloc _ _).trans hE1)
  clear HBO hE1
  by_cases h63 : (63 : Int) < (l.length : Int)
  · go_wp2_with fail
    go_ret
    exact ⟨rfl, HE1.out⟩
  have HLN : Hid (l.length ≤ 63) := Lib.hid (by omega)
  go_wp2_with fail
  obtain ⟨ra, hra⟩ : ∃ r, roundsP n l = r := ⟨_, rfl⟩
  obtain ⟨ja, hja⟩ : ∃ r, joinsP n l = r := ⟨_, rfl⟩
  have HRA := Lib.hid hra
  have HJA := Lib.hid hja
  refine (spread_Rounds n ⟨l, A, c⟩ _ (HM.out.ext HE1.out)).mono ?_
  dsimp only
  rw [hra]
  rintro e w2 ⟨rfl, hE2⟩
  have HB2 := Lib.hid (HB1.out.ext hE2)
  have HE2 := Lib.hid (HE1.out.trans hE2)
  clear HB1 HE1 hE2 hra
  go_wp2_with fail
  refine (spread_Joins n ⟨l, A, c⟩ _ (HM.out.ext HE2.out)).mono ?_
  dsimp only
  rw [hja]
  rintro e w3 ⟨rfl, hE3⟩
  have HB3 := Lib.hid (HB2.out.ext hE3)
  have HE3 := Lib.hid (HE2.out.trans hE3)
  clear HB2 HE2 hE3 hja
  have HX := Lib.hid (HM.out.ext HE3.out)
  go_wp2_with fail
  go_loopw [12, 13] (fun vo i wr => ∃ (k : Nat) (o : List PMeeting), k ≤ l.length ∧ i = .int .i64 (k : Nat) ∧ Hid (o = (l.take k).map PMeeting.turn) ∧ Hid (Go.Hx.Own wr w3.heap.size 37 2 PMeeting.cells vo o ∧ Ext w3 wr)) (fun _ i _ => l.length - (intOf i).toNat)
  case atStart => exact ⟨0, [], by omega, rfl, Lib.hid rfl, Lib.hid ⟨Go.Hx.Own.nil _ _ _ _ _, Ext.refl _⟩⟩
  case round =>
    obtain ⟨k, o, hk, rfl, HK, HO⟩ := hrel
    obtain ⟨A0, c0, rfl, hok0⟩ := HO.out.1.form
    clear hok0
    by_cases hlt : k < l.length
    · have hki : (k : Int) < (l.length : Int) := by omega
      have hk63 : k < 63 := by have := HLN.out; omega
      have hw1 : IntKind.i64.wrap ((k : Int) + 1) = ((k + 1 : Nat) : Int) := by rw [IntWalk.i64_in _ (by omega)]; omega
      obtain ⟨b, off, rfl, hbb, r0⟩ := Sl.row (size := 2) (fun _ => rfl) HX.out.1 (List.getElem?_eq_getElem hlt)
      obtain ⟨z, hz⟩ : ∃ z, l[k] = z := ⟨_, rfl⟩
      have HG : Hid (∀ W : World, Ext w3 W → W.cell? ⟨b, off + k * 2, none⟩ = some (.int .i64 z.asks) ∧ W.cell? ⟨b, off + k * 2 + 1, none⟩ = some (.int .i64 z.asked)) := Lib.hid fun W hW => by
        have h0 := r0 0 _ rfl
        have h1 := r0 1 _ rfl
        rw [hz] at h0 h1
        exact ⟨hW.cell (by simpa using h0), hW.cell (by simpa using h1)⟩
      have HOL : Hid (o.length ≤ 1000) := Lib.hid (by rw [HK.out]; simp only [List.length_map, List.length_take]; omega)
      have HK2 : Hid (o ++ [⟨z.asked, z.asks⟩] = (l.take (k + 1)).map PMeeting.turn) := Lib.hid (by
        rw [List.take_succ_eq_append_getElem hlt, List.map_append, ← HK.out, hz]; rfl)
      clear r0 hz hbb
      go_wp2_with fail
      obtain ⟨WX, hWX⟩ : ∃ W0, W0 = wr := ⟨_, rfl⟩
      rw [← hWX] at HO ⊢
      clear hWX
      refine wp_region_flowTail 14 (fun W => Ext w3 W) (fun W => Go.Hx.Own W w3.heap.size 37 2 PMeeting.cells (.slice A0 o.length c0) o) Ext (fun i => if i = 12 then .free (fun v => ∃ g : Nat, v = .slice (some ⟨g, 0, none⟩) 1 1) (fun v W => ∃ g : Nat, v = .slice (some ⟨g, 0, none⟩) 1 1 ∧ Blk W g 37 [.int .i64 z.asked, .int .i64 z.asks]) else if i = 13 then .last else .det) [] (by kernel_rfl) (by kernel_rfl) (by kernel_rfl) HO.out.2.drew' (Go.Hx.Own.ext HO.out.1 (Ext.drew _)) (fun w1 w2 h1 h2 => Go.Hx.Own.ext h1 h2) ?_
      iterate 12 (refine ftext_det rfl rfl ?_; apply Exists.intro; refine ⟨fun w hC => ?_, fun K hK => ?_⟩; (first | (go_simp; exact rfl) | (go_simp; exact ⟨rfl, rfl⟩) | (obtain ⟨h1, h2⟩ := HG.out _ hC; go_simp; first | exact rfl | exact ⟨rfl, rfl⟩)); go_simp; refine hK _ ?_; clear hK K)
      refine ftext_free _ _ rfl rfl ⟨_, 0, rfl⟩ (fun v w1 w2 ⟨g, h1, h2⟩ hR => ⟨g, h1, h2.ext hR⟩) (fun w1 hC Φ hΦ => ?_) (fun v hv K hK => ?_)
      · go_simp
        exact hΦ _ _ ⟨_, rfl⟩ (hC.trans (Ext.alloc _ _)) (Ext.alloc _ _) ⟨_, rfl, Blk.new rfl⟩
      obtain ⟨ga, rfl⟩ := hv
      go_simp; refine hK _ ?_; clear hK K
      refine ftext_last (fun v => ∃ (z : LX PMeeting), v = .slice z.A z.l.length z.c) (fun v W => Go.Hx.Own W w3.heap.size 37 2 PMeeting.cells v (o ++ [⟨z.asked, z.asks⟩])) rfl rfl ⟨_, ⟨[], none, 0⟩, rfl⟩ (fun w1 hC hJ hF Φ hΦ => ?_) (fun v hv K hK => ?_)
      · obtain ⟨_, g', hg', hBg⟩ := hF
        have hgg : ga = g' := congrArg (fun v : Value => match v with | .slice (some p) _ _ => p.block | _ => 0) hg'
        subst hgg
        refine und_app_many elMeet (.tmp 45) (.tmp 57) rfl w1 w3.heap.size PMeeting.cells (.slice A0 o.length c0) o [⟨z.asked, z.asks⟩] rfl hJ (some ⟨ga, 0, none⟩) 1 1 rfl rfl (.inr ⟨ga, 0, rfl, hBg.lt, hBg.row⟩) (fun _ => rfl) (fun _ => rfl) (by have := HOL.out; simp only [List.length_singleton]; omega) (by have := HOL.out; simp only [List.length_singleton]; unfold maxLen; omega) hC.size (fun v' w' h1 h2 => ?_)
        obtain ⟨A9, c9, hv9, _⟩ := h1.form
        exact hΦ _ _ ⟨⟨o ++ [⟨z.asked, z.asks⟩], A9, c9⟩, hv9⟩ (Go.Hx.Own.below hJ hC h2 (Nat.le_refl _) hC.size) h1
      obtain ⟨z9, rfl⟩ := hv
      go_simp; refine hK _ ?_; clear hK K
      refine ftext_nil ?_
      rintro w1 hC hOn _
      have HO2 : Hid (Go.Hx.Own w1 w3.heap.size 37 2 PMeeting.cells (.slice z9.A z9.l.length z9.c) (o ++ [⟨z.asked, z.asks⟩]) ∧ Ext w3 w1) := Lib.hid ⟨hOn, hC⟩
      clear hC hOn
      simp only [List.drop_succ_cons, List.drop_zero]
      refine wplIn_assign Open.wide _ rfl rfl ?_
      refine wpListIn_nil ?_
      go_wp2_with fail
      go_roundw
      case rel => exact ⟨k + 1, _, by omega, rfl, HK2, HO2⟩
      case measure => simp [intOf]; omega
    · have hki : ¬ (k : Int) < (l.length : Int) := by omega
      have HF : Hid (o = l.map PMeeting.turn) := Lib.hid (by rw [HK.out, show k = l.length by omega, List.take_length])
      go_wp2_with fail
      refine (spread_Rounds n ⟨o, A0, c0⟩ _ HO.out.1.ok).mono ?_
      dsimp only
      rw [HF.out, rounds_turn, HRA.out]
      rintro e w4 ⟨rfl, hE4⟩
      have HB4 := Lib.hid ((HB3.out.ext HO.out.2).ext hE4)
      have HE4 := Lib.hid ((HE3.out.trans HO.out.2).trans hE4)
      have HX4 := Lib.hid (HM.out.ext HE4.out)
      obtain ⟨lm, hlm⟩ : ∃ r, l ++ [one] = r := ⟨_, rfl⟩
      obtain ⟨rc, hrc⟩ : ∃ r, roundsP n lm = r := ⟨_, rfl⟩
      have HLM := Lib.hid hlm
      have HRC := Lib.hid hrc
      have HP : Hid (MoreP n l (roundsP n l) (joinsP n l) (roundsP n lm)) := Lib.hid (by rw [← hlm]; exact moreP n l one)
      clear HO HF HK hki hk hrc hE4 hlm
      clear HB3 HE3 HX HM
      obtain ⟨a0, e0⟩ := ra
      obtain ⟨j0, f0⟩ := ja
      obtain ⟨c9, h9⟩ := rc
      go_wp2_with fail
      refine FF.wp_region_flowTail 12 (Ext w4) (fun _ => True) Ext (fun i => if i = 1 then .seq else if i = 3 then .seq else if i = 5 then .free (fun v => ∃ g : Nat, v = .slice (some ⟨g, 0, none⟩) 1 1) (fun v W => ∃ g : Nat, v = .slice (some ⟨g, 0, none⟩) 1 1 ∧ Blk W g 37 [.int .i64 one.asks, .int .i64 one.asked]) else if i = 6 then .last else if i = 7 then .last else .det) [1, 3] (by kernel_rfl) (by kernel_rfl) (by kernel_rfl) (Ext.drew _) trivial (FF.keeps_true _) ?_
      (refine FF.ftext_det rfl rfl ?_; apply Exists.intro; refine ⟨fun w hC => ?_, fun K hK => ?_⟩; (first | (go_simp; exact rfl) | (go_simp; exact ⟨rfl, rfl⟩)); go_simp; refine hK _ ?_; clear hK K)
      refine FF.ftext_seq (fun v => ∃ g : Nat, v = .slice (some ⟨g, 0, none⟩) 0 0) (fun v W => Go.Hx.Own W w4.heap.size 37 2 PMeeting.cells v ([] : List PMeeting)) rfl rfl ⟨_, 0, rfl⟩ (fun v w1 w2 h1 hR => Go.Hx.Own.ext h1 hR) (fun w1 hC hJ hF Φ hΦ => ?_) (fun v hv K hK => ?_)
      · go_simp
        exact hΦ _ _ ⟨_, rfl⟩ (hC.trans (Ext.alloc _ _)) (Ext.alloc _ _) ((own_new w1 _ rfl).lower hC.size)
      obtain ⟨g1, rfl⟩ := hv
      go_simp; refine hK _ ?_; clear hK K
      (refine FF.ftext_det rfl rfl ?_; apply Exists.intro; refine ⟨fun w hC => ?_, fun K hK => ?_⟩; (first | (go_simp; exact rfl) | (go_simp; exact ⟨rfl, rfl⟩)); go_simp; refine hK _ ?_; clear hK K)
      refine FF.ftext_seq (fun v => ∃ (A : Option Addr) (c : Nat), v = .slice A l.length c) (fun v W => Go.Hx.Own W w4.heap.size 37 2 PMeeting.cells v l) rfl rfl ⟨_, none, 0, rfl⟩ (fun v w1 w2 h1 hR => Go.Hx.Own.ext h1 hR) (fun w1 hC hJ hF Φ hΦ => ?_) (fun v hv K hK => ?_)
      · refine und_app_zero elMeet (.tmp 67) (.tmp 68) rfl w1 w4.heap.size PMeeting.cells g1 l rfl hJ A l.length c rfl rfl (HX4.out.ext hC).1 (fun _ => rfl) (by have := HLN.out; omega) (by have := HLN.out; unfold maxLen; omega) hC.size (fun v' w' h1 h2 => ?_)
        obtain ⟨A9, c9, hv9, _⟩ := h1.form
        exact hΦ _ _ ⟨A9, c9, hv9⟩ (hC.trans h2) h2 h1
      obtain ⟨A1, c1, rfl⟩ := hv
      go_simp; refine hK _ ?_; clear hK K
      refine FF.ftext_load_row 37 _ rfl rfl rfl w.heap.size 0 [.int .i64 one.asks, .int .i64 one.asked] rfl aggMeet (fun w hC => (HB4.out.ext hC).row) (fun K hK => ?_)
      go_simp; refine hK _ ?_; clear hK K
      refine FF.ftext_free _ _ rfl rfl ⟨_, 0, rfl⟩ (fun v w1 w2 ⟨g, h1, h2⟩ hR => ⟨g, h1, h2.ext hR⟩) (fun w1 hC Φ hΦ => ?_) (fun v hv K hK => ?_)
      · go_simp
        exact hΦ _ _ ⟨_, rfl⟩ (hC.trans (Ext.alloc _ _)) (Ext.alloc _ _) ⟨_, rfl, Blk.new rfl⟩
      obtain ⟨ga, rfl⟩ := hv
      go_simp; refine hK _ ?_; clear hK K
      refine FF.ftext_last (fun v => ∃ (A : Option Addr) (c : Nat), v = .slice A lm.length c) (fun v W => Go.Hx.Own W w4.heap.size 37 2 PMeeting.cells v lm) rfl rfl ⟨_, none, 0, rfl⟩ (fun w1 hC hJ hF Φ hΦ => ?_) (fun v hv K hK => ?_)
      · obtain ⟨_, g', hg', hBg⟩ := hF
        have hgg : ga = g' := congrArg (fun v : Value => match v with | .slice (some p) _ _ => p.block | _ => 0) hg'
        subst hgg
        refine und_app_many elMeet (.tmp 69) (.tmp 71) rfl w1 w4.heap.size PMeeting.cells (.slice A1 l.length c1) l [one] rfl hJ (some ⟨ga, 0, none⟩) 1 1 rfl rfl (.inr ⟨ga, 0, rfl, hBg.lt, hBg.row⟩) (fun _ => rfl) (fun _ => rfl) (by have := HLN.out; simp only [List.length_singleton]; omega) (by have := HLN.out; simp only [List.length_singleton]; unfold maxLen; omega) hC.size (fun v' w' h1 h2 => ?_)
        rw [HLM.out] at h1
        obtain ⟨A9, c9, hv9, _⟩ := h1.form
        exact hΦ _ _ ⟨A9, c9, hv9⟩ (Go.Hx.Own.below hJ hC h2 (Nat.le_refl _) hC.size) h1
      obtain ⟨A2, c2, rfl⟩ := hv
      go_simp; refine hK _ ?_; clear hK K
      refine FF.ftext_last (fun v => v = .tuple #[.int .i64 c9, .int .i64 h9]) (fun _ _ => True) rfl rfl ⟨_, rfl⟩ (fun w1 hC hJ hF Φ hΦ => ?_) (fun v hv K hK => ?_)
      · have HJ := Lib.hid hJ
        clear hJ
        go_simp
        refine (spread_Rounds n ⟨lm, A2, c2⟩ _ HJ.out.ok).mono ?_
        dsimp only
        rw [HRC.out]
        rintro e w2 ⟨rfl, hE2⟩
        exact ⟨_, rfl, hΦ _ _ rfl (hC.trans hE2) trivial⟩
      subst hv
      go_simp; refine hK _ ?_; clear hK K
      iterate 4 (refine FF.ftext_det rfl rfl ?_; apply Exists.intro; refine ⟨fun w hC => ?_, fun K hK => ?_⟩; (first | (go_simp; exact rfl) | (go_simp; exact ⟨rfl, rfl⟩)); go_simp; refine hK _ ?_; clear hK K)
      refine FF.ftext_nil ?_
      rintro w5 hC _ _
      have HE5 : Hid (Ext w w5) := Lib.hid (HE4.out.trans hC)
      clear hC
      simp only [List.drop_succ_cons, List.drop_zero]
      refine wplIn_assign Open.wide _ rfl rfl ?_
      refine wpListIn_nil ?_
      have hP := HP.out
      rw [HRA.out, HJA.out, HRC.out] at hP
      rcases hP with ⟨x, hx, h1, h2, h3⟩ | ⟨r, p, hn, hr, hp, hpl, h1, h2, h3⟩
      · injection h1 with h11 h12
        injection h2 with h21 h22
        subst h11 h12 h21 h22
        have hh : h9 ≠ 0 := h3
        go_wp2_with fail
        go_ret
        exact ⟨rfl, HE5.out⟩
      · injection h1 with h11 h12
        injection h2 with h21 h22
        subst h11 h12 h22
        have hr63 : r ≤ 63 := by have := HLN.out; omega
        have hw1 : IntKind.i64.wrap (n - 1) = n - 1 := IntWalk.i64_in _ (by omega)
        have hw2 : IntKind.i64.wrap ((r : Int) * (n - 1)) = p := by rw [hp]; exact IntWalk.i64_in _ (by
          have h0 : 0 ≤ (r : Int) * (n - 1) := Int.mul_nonneg (by omega) (by omega)
          have := HLN.out
          omega)
        have hw3 : IntKind.i64.wrap ((r : Int) + 1) = (r : Int) + 1 := IntWalk.i64_in _ (by omega)
        have hle : ¬ (l.length : Int) < p := by omega
        have hr0 : ¬ (r : Int) < 0 := by omega
        have hne : ¬ ((r : Int) + 1 = (r : Int)) := by omega
        clear hp hpl hn hr hr63
        by_cases hpos : (0 : Int) < (r : Int)
        · have hj : j0 = true := by rw [h21, decide_eq_true_eq]; omega
          subst hj
          clear h21
          rcases h3 with h3 | h3 | h3
          · have hh : h9 ≠ 0 := h3
            go_wp2_with fail
            go_ret
            exact ⟨rfl, HE5.out⟩
          · injection h3 with h31 h32
            subst h31 h32
            go_wp2_with fail
            go_ret
            exact ⟨rfl, HE5.out⟩
          · injection h3 with h31 h32
            subst h31 h32
            go_wp2_with fail
            go_ret
            exact ⟨rfl, HE5.out⟩
        · have hj : j0 = false := by rw [h21, decide_eq_false_iff_not]; omega
          subst hj
          clear h21
          rcases h3 with h3 | h3 | h3
          · have hh : h9 ≠ 0 := h3
            go_wp2_with fail
            go_ret
            exact ⟨rfl, HE5.out⟩
          · injection h3 with h31 h32
            subst h31 h32
            go_wp2_with fail
            go_ret
            exact ⟨rfl, HE5.out⟩
          · injection h3 with h31 h32
            subst h31 h32
            go_wp2_with fail
            go_ret
            exact ⟨rfl, HE5.out⟩
end Go.Proofs.YtgcbnagfdfgpnaaDoor
