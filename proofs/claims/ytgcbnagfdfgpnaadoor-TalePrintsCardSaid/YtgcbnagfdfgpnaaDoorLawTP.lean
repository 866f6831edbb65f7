/- The law TalePrints answers true from any state in which the library's table of powers lies. Printed by gen_lawtp.py. -/
import Derived.Test.YtgcbnagfdfgpnaaDoorRef32e
import Derived.Test.YtgcbnagfdfgpnaaDoorShape
namespace Go.Hx
open Go.RowKit
/-- a row that came of an append: nothing, or own memory -/
def AppRow {α : Type} (W : World) (base e size : Nat) (enc : α → List Value) (ys : List α) (v : Value) : Prop := ∃ A c, v = .slice A ys.length c ∧ ys.length ≤ c ∧ c ≤ maxLen ∧ (ys = [] ∨ Go.Hx.Own W base e size enc v ys)
section
variable {α : Type} {W W' : World} {base e size : Nat} {enc : α → List Value} {ys : List α} {v : Value}
theorem AppRow.ext (h : AppRow W base e size enc ys v) (k : Ext W W') : AppRow W' base e size enc ys v := by
  obtain ⟨A, c, h1, h2, h3, h4⟩ := h
  exact ⟨A, c, h1, h2, h3, h4.imp id fun h => Go.Hx.Own.ext h k⟩
theorem AppRow.shape {T : Nat → Prop} {b : Nat} (h : AppRow W base e size enc ys v) (k : Shape T b W W') (hT : ¬T e) : AppRow W' base e size enc ys v := by
  obtain ⟨A, c, h1, h2, h3, h4⟩ := h
  exact ⟨A, c, h1, h2, h3, h4.imp id fun h => Go.Hx.Own.shape h k hT⟩
theorem AppRow.ok {A : Option Addr} {c : Nat} (h : AppRow W base e size enc ys (.slice A ys.length c)) : LX.ok W W.heap.size enc ⟨ys, A, c⟩ := by
  obtain ⟨A', c', h1, h2, h3, h4⟩ := h
  rcases h4 with rfl | h4
  · cases h1
    exact ⟨.inl rfl, h2, h3⟩
  · exact Go.Hx.Own.ok h4
end
section
variable {Fi : Fence} {P : Program} {o : Oper} {a : Act} {Φ : Value → World → Prop}
/-- 'append([]T{}, l...)' -/
theorem und_app_came {α : Type} {t e size bytes : Nat} (E : ElTy P t e size bytes) (s x : Operand) (ho : o.op = .call { callee := .builtin .append, args := #[s, x], argTypes := #[t, t] })
    (W : World) (base : Nat) (enc : α → List Value) (g : Nat) (ys : List α) (hs : a.eval s = .slice (some ⟨g, 0, none⟩) 0 0)
    (A : Option Addr) (n c : Nat) (hx : a.eval x = .slice A n c) (hn : ys.length = n) (hsl : Sl W W.heap.size enc A ys) (hl : ∀ y, (enc y).length = size)
    (hbytes : ys.length * bytes ≤ 140737488355328) (h63 : ys.length ≤ maxLen) (hbase : base ≤ W.heap.size)
    (h : ∀ v' w', AppRow w' base e size enc ys v' → Ext W w' → Φ v' w') :
    undIn Fi P Φ ((execOp a.eval o).run P W) := by
  subst hn
  obtain ⟨i, z, hi, hz, hsz, hby, hzs⟩ := E.info
  have key : ∃ v' w', (Builtin.append_ #[t, t] o.type #[.slice (some ⟨g, 0, none⟩) 0 0, .slice A ys.length c]).run P W = .ok v' w' ∧ AppRow w' base e size enc ys v' ∧ Ext W w' := by
    by_cases hy : ys = []
    · subst hy
      have hsrc : Src P i.size t (.slice A 0 c) 0 [] W := by
        cases A with
        | none => exact Src.ofNil W E.ht c
        | some a => exact Src.ofSlice W E.ht a 0 c [] (by simp) (by simp) (by simp)
      exact ⟨_, W, run_append_nothing W t t o.type e i E.ht hi _ 0 0 (Nat.le_refl _) _ hsrc, ⟨_, _, rfl, Nat.le_refl _, Nat.zero_le _, .inl rfl⟩, Ext.refl _⟩
    · obtain ⟨b, off, hA, hb, hrow⟩ := hsl.resolve_left hy
      subst hA
      have hlen : (ys.flatMap enc).length = ys.length * size := by
        clear hx hsl hbytes h63 h hy hrow
        induction ys with
        | nil => simp
        | cons y ys ih => rw [List.flatMap_cons, List.length_append, ih, hl, List.length_cons, Nat.add_mul]; omega
      have h0 : 0 < ys.length := List.length_pos_iff.2 hy
      obtain ⟨v', w', hr, h2, h3⟩ := run_append_arg_grows (P := P) W t o.type e i z size bytes E.ht hi hz hsz hby hzs E.pos ⟨g, 0, none⟩ 0 0 [] (by simp) (by simp) ⟨b, off, none⟩ ys.length c (ys.flatMap enc) hlen
        (fun j u hu => by rw [add_none]; exact hrow j u hu) (by omega) (by omega) (by simpa using hbytes)
      have hO : Go.Hx.Own w' base e size enc v' ys := Go.Hx.Own.lower (by unfold Go.Hx.Own; simpa using h2) hbase
      obtain ⟨A9, c9, h9, h8⟩ := hO.form
      exact ⟨v', w', hr, ⟨A9, c9, h9, h8.2.1, h8.2.2, .inr hO⟩, ⟨h3.os, h3.tape, h3.output, h3.size, fun k hk => h3.block k hk (by simp)⟩⟩
  obtain ⟨v', w', hr, h2, h3⟩ := key
  unfold execOp
  simp only [ho, resolve, invoke, builtin, Sem.run_bind, Sem.run_pure, Result.andThen_ok, List.map_toArray, List.map_cons, List.map_nil, hs, hx, hr]
  exact h v' w' h2 h3
end
end Go.Hx
namespace Go.Proofs.YtgcbnagfdfgpnaaDoor
open Go.RowKit Go.Hx
attribute [local go_sem] PStep.cells XTale.cells detUpon undIn
theorem elintT : ElTy Tryd.prog 61 3 1 8 := ElTy.mk' (z := .int .i64 0) Tryd.underlying61 (by kernel_rfl) rfl (by decide)
theorem elStepT : ElTy Tryd.prog 62 115 5 40 := ElTy.mk' (z := .agg #[.int .u8 0, .int .i64 0, .int .i64 0, .int .i64 0, .int .u64 0]) Tryd.underlying62 (by kernel_rfl) rfl (by decide)
set_option maxRecDepth 100000 in
set_option maxHeartbeats 4000000 in
theorem talePrints_any (x : XTale) (w : World) (hx : x.ok w w.heap.size) (hw : x.data.wf) (hT : Pow w) (hs : x.steps.l.length * 40 ≤ 140737488355328) :
    Calls Tryd.prog 6 #[.agg #[.int .i64 x.conf.nodes, .int .i64 x.conf.len, .int .i64 x.conf.patience, .int .i64 x.conf.cap, .slice x.values.A x.values.l.length x.values.c, .slice x.steps.A x.steps.l.length x.steps.c]] w fun e w' => e = .returned (.bool true) ∧ Ext w w' := by
  have HX := Lib.hid hx
  have HW := Lib.hid hw
  have HT := Lib.hid hT
  have HS := Lib.hid hs
  have HM5 : Hid (x.values.l.length ≤ maxLen) := Lib.hid (Nat.le_trans hx.values.2.1 hx.values.2.2)
  have HM9 : Hid (x.steps.l.length ≤ maxLen) := Lib.hid (Nat.le_trans hx.steps.2.1 hx.steps.2.2)
  clear hx hw hT hs
  have HB0 : Hid (Blk (w.alloc (.cells #[.int .i64 x.conf.nodes, .int .i64 x.conf.len, .int .i64 x.conf.patience, .int .i64 x.conf.cap, .slice x.values.A x.values.l.length x.values.c, .slice x.steps.A x.steps.l.length x.steps.c] 64)) w.heap.size 64 [.int .i64 x.conf.nodes, .int .i64 x.conf.len, .int .i64 x.conf.patience, .int .i64 x.conf.cap, .slice x.values.A x.values.l.length x.values.c, .slice x.steps.A x.steps.l.length x.steps.c]) := Lib.hid (Blk.new rfl)
  have hc4 : (w.alloc (.cells #[.int .i64 x.conf.nodes, .int .i64 x.conf.len, .int .i64 x.conf.patience, .int .i64 x.conf.cap, .slice x.values.A x.values.l.length x.values.c, .slice x.steps.A x.steps.l.length x.steps.c] 64)).cell? ⟨w.heap.size, 4, none⟩ = some (.slice x.values.A x.values.l.length x.values.c) := HB0.out.cell 4
  have hc5 : (w.alloc (.cells #[.int .i64 x.conf.nodes, .int .i64 x.conf.len, .int .i64 x.conf.patience, .int .i64 x.conf.cap, .slice x.values.A x.values.l.length x.values.c, .slice x.steps.A x.steps.l.length x.steps.c] 64)).cell? ⟨w.heap.size, 5, none⟩ = some (.slice x.steps.A x.steps.l.length x.steps.c) := HB0.out.cell 5
  go_enter Tryd.func6, Tryd.ntmps6
  by_cases hv : (200 : Int) < (x.values.l.length : Int)
  · go_wp2_with fail
    go_ret
    exact ⟨rfl, Ext.alloc _ _⟩
  have HV : Hid (x.values.l.length ≤ 200) := Lib.hid (by omega)
  by_cases hs1 : (80 : Int) < (x.steps.l.length : Int) ∧ (x.steps.l.length : Int) ≤ 512
  · obtain ⟨hs1, hs2⟩ := hs1
    go_wp2_with fail
    go_ret
    exact ⟨rfl, Ext.alloc _ _⟩
  have HGO : ∀ Q : Prop, ((¬ (80 : Int) < (x.steps.l.length : Int)) → Q) → ((80 : Int) < (x.steps.l.length : Int) → ¬ (x.steps.l.length : Int) ≤ 512 → Q) → Q := fun Q h1 h2 => by
    by_cases h : (80 : Int) < (x.steps.l.length : Int)
    · exact h2 h fun hh => hs1 ⟨h, hh⟩
    · exact h1 h
  clear hs1
  refine HGO _ (fun hs1 => ?_) (fun hs1 hs2 => ?_)
  all_goals clear HGO
  · go_wp2_with fail
    obtain ⟨WX, hWX⟩ : ∃ W, W = w.alloc (.cells #[.int .i64 x.conf.nodes, .int .i64 x.conf.len, .int .i64 x.conf.patience, .int .i64 x.conf.cap, .slice x.values.A x.values.l.length x.values.c, .slice x.steps.A x.steps.l.length x.steps.c] 64) := ⟨_, rfl⟩
    have HBX : Hid (Blk WX w.heap.size 64 [.int .i64 x.conf.nodes, .int .i64 x.conf.len, .int .i64 x.conf.patience, .int .i64 x.conf.cap, .slice x.values.A x.values.l.length x.values.c, .slice x.steps.A x.steps.l.length x.steps.c]) := Lib.hid (by rw [hWX]; exact HB0.out)
    have HEX : Hid (Ext w WX) := Lib.hid (by rw [hWX]; exact Ext.alloc _ _)
    have HSZ : Hid (WX.heap.size = w.heap.size + 1) := Lib.hid (by rw [hWX]; exact Array.size_push _)
    rw [← hWX]
    clear hWX hc4 hc5 HB0
    have HRC : Hid (∀ W : World, Ext WX W → RowAt W w.heap.size 0 [.int .i64 x.conf.nodes, .int .i64 x.conf.len, .int .i64 x.conf.patience, .int .i64 x.conf.cap]) := Lib.hid fun W hW j u hu => (HBX.out.ext hW).row j u (by
      show ([.int .i64 x.conf.nodes, .int .i64 x.conf.len, .int .i64 x.conf.patience, .int .i64 x.conf.cap] ++ [.slice x.values.A x.values.l.length x.values.c, .slice x.steps.A x.steps.l.length x.steps.c])[j]? = some u
      rw [List.getElem?_append_left (List.getElem?_eq_some_iff.1 hu).1]; exact hu)
    have HG4 : Hid (∀ W : World, Ext WX W → W.cell? ⟨w.heap.size, 4, none⟩ = some (.slice x.values.A x.values.l.length x.values.c)) := Lib.hid fun W hW => (HBX.out.ext hW).cell 4
    have HG5 : Hid (∀ W : World, Ext WX W → W.cell? ⟨w.heap.size, 5, none⟩ = some (.slice x.steps.A x.steps.l.length x.steps.c)) := Lib.hid fun W hW => (HBX.out.ext hW).cell 5
    refine wp_region_flowTail 12 (Ext WX) (fun _ => True) Ext (fun i => if i = 2 then .free (fun v => ∃ g : Nat, v = .slice (some ⟨g, 0, none⟩) 0 0) (fun _ _ => True) else if i = 5 then .seq else if i = 6 then .free (fun v => ∃ g : Nat, v = .slice (some ⟨g, 0, none⟩) 0 0) (fun _ _ => True) else if i = 9 then .seq else if i = 11 then .free (fun v => ∃ g : Nat, v = .pointer (some ⟨g, 0, none⟩)) (fun v W => ∃ g : Nat, v = .pointer (some ⟨g, 0, none⟩) ∧ Blk W g 64 [.int .i64 0, .int .i64 0, .int .i64 0, .int .i64 0, .slice none 0 0, .slice none 0 0] ∧ WX.heap.size ≤ g) else .det) [5, 9] (by kernel_rfl) (by kernel_rfl) (by kernel_rfl) (Ext.drew _) trivial (keeps_true _) ?_
    (refine ftext_det rfl rfl ?_; apply Exists.intro; refine ⟨fun w hC => ?_, fun K hK => ?_⟩; (first | (go_simp; exact rfl) | (go_simp; exact ⟨rfl, rfl⟩) | (have h1 := trivial; go_simp; first | exact rfl | exact ⟨rfl, rfl⟩)); go_simp; refine hK _ ?_; clear hK K)
    refine ftext_load_row 60 _ rfl rfl rfl w.heap.size 0 [.int .i64 x.conf.nodes, .int .i64 x.conf.len, .int .i64 x.conf.patience, .int .i64 x.conf.cap] rfl aggConf (fun w hC => HRC.out _ hC) (fun K hK => ?_)
    go_simp; refine hK _ ?_; clear hK K
    refine ftext_free _ _ rfl rfl ⟨_, 0, rfl⟩ (fun _ => keeps_true _) (fun w1 hC Φ hΦ => ?_) (fun v hv K hK => ?_)
    · go_simp
      exact hΦ _ _ ⟨_, rfl⟩ (hC.trans (Ext.alloc _ _)) (Ext.alloc _ _) trivial
    obtain ⟨g2, rfl⟩ := hv
    go_simp; refine hK _ ?_; clear hK K
    (refine ftext_det rfl rfl ?_; apply Exists.intro; refine ⟨fun w hC => ?_, fun K hK => ?_⟩; (first | (go_simp; exact rfl) | (go_simp; exact ⟨rfl, rfl⟩) | (have h1 := trivial; go_simp; first | exact rfl | exact ⟨rfl, rfl⟩)); go_simp; refine hK _ ?_; clear hK K)
    (refine ftext_det rfl rfl ?_; apply Exists.intro; refine ⟨fun w hC => ?_, fun K hK => ?_⟩; (first | (go_simp; exact rfl) | (go_simp; exact ⟨rfl, rfl⟩) | (have h1 := HG4.out _ hC; go_simp; first | exact rfl | exact ⟨rfl, rfl⟩)); go_simp; refine hK _ ?_; clear hK K)
    refine ftext_seq (fun v => ∃ A c, v = .slice A x.values.l.length c) (fun v W => AppRow W WX.heap.size 3 1 cInt x.values.l v) rfl rfl ⟨_, none, 0, rfl⟩ (fun v w1 w2 h1 hR => h1.ext hR) (fun w1 hC hJ Φ hΦ => ?_) (fun v hv K hK => ?_)
    · refine und_app_came elintT (.tmp 26) (.tmp 28) rfl w1 WX.heap.size cInt g2 x.values.l rfl x.values.A x.values.l.length x.values.c rfl rfl (HX.out.values.ext (HEX.out.trans hC)).1 (fun _ => rfl) (by have := HV.out; omega) HM5.out hC.size (fun v' w' h1 h2 => ?_)
      obtain ⟨A, c, hv', hr'⟩ := h1
      exact hΦ _ _ ⟨A, c, hv'⟩ (hC.trans h2) h2 ⟨A, c, hv', hr'⟩
    obtain ⟨A5, c5, rfl⟩ := hv
    go_simp; refine hK _ ?_; clear hK K
    refine ftext_free _ _ rfl rfl ⟨_, 0, rfl⟩ (fun _ => keeps_true _) (fun w1 hC Φ hΦ => ?_) (fun v hv K hK => ?_)
    · go_simp
      exact hΦ _ _ ⟨_, rfl⟩ (hC.trans (Ext.alloc _ _)) (Ext.alloc _ _) trivial
    obtain ⟨g6, rfl⟩ := hv
    go_simp; refine hK _ ?_; clear hK K
    (refine ftext_det rfl rfl ?_; apply Exists.intro; refine ⟨fun w hC => ?_, fun K hK => ?_⟩; (first | (go_simp; exact rfl) | (go_simp; exact ⟨rfl, rfl⟩) | (have h1 := trivial; go_simp; first | exact rfl | exact ⟨rfl, rfl⟩)); go_simp; refine hK _ ?_; clear hK K)
    (refine ftext_det rfl rfl ?_; apply Exists.intro; refine ⟨fun w hC => ?_, fun K hK => ?_⟩; (first | (go_simp; exact rfl) | (go_simp; exact ⟨rfl, rfl⟩) | (have h1 := HG5.out _ hC; go_simp; first | exact rfl | exact ⟨rfl, rfl⟩)); go_simp; refine hK _ ?_; clear hK K)
    refine ftext_seq (fun v => ∃ A c, v = .slice A x.steps.l.length c) (fun v W => AppRow W WX.heap.size 3 1 cInt x.values.l (.slice A5 x.values.l.length c5) ∧ AppRow W WX.heap.size 115 5 PStep.cells x.steps.l v) rfl rfl ⟨_, none, 0, rfl⟩ (fun v w1 w2 h1 hR => ⟨h1.1.ext hR, h1.2.ext hR⟩) (fun w1 hC hJ Φ hΦ => ?_) (fun v hv K hK => ?_)
    · refine und_app_came elStepT (.tmp 30) (.tmp 32) rfl w1 WX.heap.size PStep.cells g6 x.steps.l rfl x.steps.A x.steps.l.length x.steps.c rfl rfl (HX.out.steps.ext (HEX.out.trans hC)).1 (fun _ => rfl) HS.out HM9.out hC.size (fun v' w' h1 h2 => ?_)
      obtain ⟨A, c, hv', hr'⟩ := h1
      exact hΦ _ _ ⟨A, c, hv'⟩ (hC.trans h2) h2 ⟨hJ.ext h2, A, c, hv', hr'⟩
    obtain ⟨A9, c9, rfl⟩ := hv
    go_simp; refine hK _ ?_; clear hK K
    (refine ftext_det rfl rfl ?_; apply Exists.intro; refine ⟨fun w hC => ?_, fun K hK => ?_⟩; (first | (go_simp; exact rfl) | (go_simp; exact ⟨rfl, rfl⟩) | (have h1 := trivial; go_simp; first | exact rfl | exact ⟨rfl, rfl⟩)); go_simp; refine hK _ ?_; clear hK K)
    refine ftext_free _ _ rfl rfl ⟨_, 0, rfl⟩ (fun v w1 w2 h hR => by obtain ⟨g, h0, h1, h2⟩ := h; exact ⟨g, h0, h1.ext hR, h2⟩) (fun w1 hC Φ hΦ => ?_) (fun v hv K hK => ?_)
    · go_simp
      exact hΦ _ _ ⟨_, rfl⟩ (hC.trans (Ext.alloc _ _)) (Ext.alloc _ _) ⟨_, rfl, Blk.new rfl, hC.size⟩
    obtain ⟨gt, rfl⟩ := hv
    go_simp; refine hK _ ?_; clear hK K
    refine ftext_nil ?_
    rintro w1 hC hJ hF
    obtain ⟨_, g, hg, Bg, hgs⟩ := hF
    have hgg : gt = g := congrArg (fun v : Value => match v with | .pointer (some p) => p.block | _ => 0) hg
    subst hgg
    simp only [List.drop_succ_cons, List.drop_zero]
    refine wplIn_store Open.wide 64 (.tmp 3) (.tmp 34) rfl rfl gt 0 64 [.int .i64 0, .int .i64 0, .int .i64 0, .int .i64 0, .slice none 0 0, .slice none 0 0] [.int .i64 x.conf.nodes, .int .i64 x.conf.len, .int .i64 x.conf.patience, .int .i64 x.conf.cap, .slice A5 x.values.l.length c5, .slice A9 x.steps.l.length c9] rfl rfl aggTale Bg (by simp) rfl ?_
    intro w2 BR hO
    refine wpListIn_nil ?_
    have HSH : Shape (fun e => e = 64) WX.heap.size w1 w2 := Shape.only (T := fun e => e = 64) (Shape.refl _ _ _) Bg hO BR rfl rfl hgs
    have HBT : Hid (Blk w2 gt 64 [.int .i64 x.conf.nodes, .int .i64 x.conf.len, .int .i64 x.conf.patience, .int .i64 x.conf.cap, .slice A5 x.values.l.length c5, .slice A9 x.steps.l.length c9]) := Lib.hid BR
    have HE2 : Hid (Ext WX w2) := Lib.hid (Only.ext hC hO hgs)
    have HY : Hid (XTale.ok w2 w2.heap.size ⟨x.conf, ⟨x.values.l, A5, c5⟩, ⟨x.steps.l, A9, c9⟩⟩) := Lib.hid ⟨(hJ.1.shape HSH (by decide)).ok, (hJ.2.shape HSH (by decide)).ok⟩
    clear hC hJ hg Bg hgs BR hO HSH
    have HBX2 := Lib.hid (HBX.out.ext HE2.out)
    have HE2' := Lib.hid (HEX.out.trans HE2.out)
    clear HE2 HBX HRC HG4 HG5 HEX HSZ
    have hrT : RowAt w2 gt 0 [.int .i64 x.conf.nodes, .int .i64 x.conf.len, .int .i64 x.conf.patience, .int .i64 x.conf.cap, .slice A5 x.values.l.length c5, .slice A9 x.steps.l.length c9] := HBT.out.row
    go_wp2_with (first | ((with_reducible refine wpl_load 64 (.tmp 3) ?_ ?_ (gt) 0 [.int .i64 x.conf.nodes, .int .i64 x.conf.len, .int .i64 x.conf.patience, .int .i64 x.conf.cap, .slice A5 x.values.l.length c5, .slice A9 x.steps.l.length c9] ?_ ?_ ?_ ?_); (exact rfl); (exact rfl); (exact rfl); (exact aggTale); (exact hrT)) | fail)
    clear hrT
    refine (tale_Print ⟨x.conf, ⟨x.values.l, A5, c5⟩, ⟨x.steps.l, A9, c9⟩⟩ _ HY.out HW.out (HT.out.ext HE2'.out)).mono ?_
    rintro e w3 ⟨rfl, hE3⟩
    have HY3 := Lib.hid (HY.out.ext hE3)
    have HBT3 := Lib.hid (HBT.out.ext hE3)
    have HBX3 := Lib.hid (HBX2.out.ext hE3)
    have HE3 := Lib.hid (HE2'.out.trans hE3)
    clear hE3 HY HBT HBX2 HE2'
    have hrX : RowAt w3 w.heap.size 0 [.int .i64 x.conf.nodes, .int .i64 x.conf.len, .int .i64 x.conf.patience, .int .i64 x.conf.cap, .slice x.values.A x.values.l.length x.values.c, .slice x.steps.A x.steps.l.length x.steps.c] := HBX3.out.row
    go_wp2_with (first | ((with_reducible refine wpl_load 64 (.tmp 1) ?_ ?_ (w.heap.size) 0 [.int .i64 x.conf.nodes, .int .i64 x.conf.len, .int .i64 x.conf.patience, .int .i64 x.conf.cap, .slice x.values.A x.values.l.length x.values.c, .slice x.steps.A x.steps.l.length x.steps.c] ?_ ?_ ?_ ?_); (exact rfl); (exact rfl); (exact rfl); (exact aggTale); (exact hrX)) | fail)
    clear hrX
    refine (ref_Print x _ (HX.out.ext HE3.out) HW.out).mono ?_
    rintro e w4 ⟨rfl, hE4⟩
    have HY4 := Lib.hid (HY3.out.ext hE4)
    have HBT4 := Lib.hid (HBT3.out.ext hE4)
    have HBX4 := Lib.hid (HBX3.out.ext hE4)
    have HE4 := Lib.hid (HE3.out.trans hE4)
    clear hE4 HY3 HBT3 HBX3 HE3
    have hrX : RowAt w4 w.heap.size 0 [.int .i64 x.conf.nodes, .int .i64 x.conf.len, .int .i64 x.conf.patience, .int .i64 x.conf.cap, .slice x.values.A x.values.l.length x.values.c, .slice x.steps.A x.steps.l.length x.steps.c] := HBX4.out.row
    have hrT : RowAt w4 gt 0 [.int .i64 x.conf.nodes, .int .i64 x.conf.len, .int .i64 x.conf.patience, .int .i64 x.conf.cap, .slice A5 x.values.l.length c5, .slice A9 x.steps.l.length c9] := HBT4.out.row
    have HPP : Hid (printP (XTale.data ⟨x.conf, ⟨x.values.l, A5, c5⟩, ⟨x.steps.l, A9, c9⟩⟩) = printP x.data) := Lib.hid rfl
    rw [HPP.out]
    obtain ⟨pp, hpp⟩ : ∃ p, printP x.data = p := ⟨_, rfl⟩
    rw [hpp]
    obtain ⟨ps, pe⟩ := pp
    clear hpp HPP
    go_wp2_with (first | ((with_reducible refine wpl_load 64 (.tmp 3) ?_ ?_ (gt) 0 [.int .i64 x.conf.nodes, .int .i64 x.conf.len, .int .i64 x.conf.patience, .int .i64 x.conf.cap, .slice A5 x.values.l.length c5, .slice A9 x.steps.l.length c9] ?_ ?_ ?_ ?_); (exact rfl); (exact rfl); (exact rfl); (exact aggTale); (exact hrT)) | ((with_reducible refine wpl_load 64 (.tmp 1) ?_ ?_ (w.heap.size) 0 [.int .i64 x.conf.nodes, .int .i64 x.conf.len, .int .i64 x.conf.patience, .int .i64 x.conf.cap, .slice x.values.A x.values.l.length x.values.c, .slice x.steps.A x.steps.l.length x.steps.c] ?_ ?_ ?_ ?_); (exact rfl); (exact rfl); (exact rfl); (exact aggTale); (exact hrX)) | fail)
    clear hrT hrX
    refine (ref_SameT ⟨x.conf, ⟨x.values.l, A5, c5⟩, ⟨x.steps.l, A9, c9⟩⟩ x _ HY4.out (HX.out.ext HE4.out) rfl).mono ?_
    rintro e w5 ⟨rfl, hE5⟩
    go_wp2_with fail
    go_ret
    exact ⟨rfl, HE4.out.trans hE5⟩
  · go_wp2_with fail
    obtain ⟨WX, hWX⟩ : ∃ W, W = w.alloc (.cells #[.int .i64 x.conf.nodes, .int .i64 x.conf.len, .int .i64 x.conf.patience, .int .i64 x.conf.cap, .slice x.values.A x.values.l.length x.values.c, .slice x.steps.A x.steps.l.length x.steps.c] 64) := ⟨_, rfl⟩
    have HBX : Hid (Blk WX w.heap.size 64 [.int .i64 x.conf.nodes, .int .i64 x.conf.len, .int .i64 x.conf.patience, .int .i64 x.conf.cap, .slice x.values.A x.values.l.length x.values.c, .slice x.steps.A x.steps.l.length x.steps.c]) := Lib.hid (by rw [hWX]; exact HB0.out)
    have HEX : Hid (Ext w WX) := Lib.hid (by rw [hWX]; exact Ext.alloc _ _)
    have HSZ : Hid (WX.heap.size = w.heap.size + 1) := Lib.hid (by rw [hWX]; exact Array.size_push _)
    rw [← hWX]
    clear hWX hc4 hc5 HB0
    have HRC : Hid (∀ W : World, Ext WX W → RowAt W w.heap.size 0 [.int .i64 x.conf.nodes, .int .i64 x.conf.len, .int .i64 x.conf.patience, .int .i64 x.conf.cap]) := Lib.hid fun W hW j u hu => (HBX.out.ext hW).row j u (by
      show ([.int .i64 x.conf.nodes, .int .i64 x.conf.len, .int .i64 x.conf.patience, .int .i64 x.conf.cap] ++ [.slice x.values.A x.values.l.length x.values.c, .slice x.steps.A x.steps.l.length x.steps.c])[j]? = some u
      rw [List.getElem?_append_left (List.getElem?_eq_some_iff.1 hu).1]; exact hu)
    have HG4 : Hid (∀ W : World, Ext WX W → W.cell? ⟨w.heap.size, 4, none⟩ = some (.slice x.values.A x.values.l.length x.values.c)) := Lib.hid fun W hW => (HBX.out.ext hW).cell 4
    have HG5 : Hid (∀ W : World, Ext WX W → W.cell? ⟨w.heap.size, 5, none⟩ = some (.slice x.steps.A x.steps.l.length x.steps.c)) := Lib.hid fun W hW => (HBX.out.ext hW).cell 5
    refine wp_region_flowTail 12 (Ext WX) (fun _ => True) Ext (fun i => if i = 2 then .free (fun v => ∃ g : Nat, v = .slice (some ⟨g, 0, none⟩) 0 0) (fun _ _ => True) else if i = 5 then .seq else if i = 6 then .free (fun v => ∃ g : Nat, v = .slice (some ⟨g, 0, none⟩) 0 0) (fun _ _ => True) else if i = 9 then .seq else if i = 11 then .free (fun v => ∃ g : Nat, v = .pointer (some ⟨g, 0, none⟩)) (fun v W => ∃ g : Nat, v = .pointer (some ⟨g, 0, none⟩) ∧ Blk W g 64 [.int .i64 0, .int .i64 0, .int .i64 0, .int .i64 0, .slice none 0 0, .slice none 0 0] ∧ WX.heap.size ≤ g) else .det) [5, 9] (by kernel_rfl) (by kernel_rfl) (by kernel_rfl) (Ext.drew _) trivial (keeps_true _) ?_
    (refine ftext_det rfl rfl ?_; apply Exists.intro; refine ⟨fun w hC => ?_, fun K hK => ?_⟩; (first | (go_simp; exact rfl) | (go_simp; exact ⟨rfl, rfl⟩) | (have h1 := trivial; go_simp; first | exact rfl | exact ⟨rfl, rfl⟩)); go_simp; refine hK _ ?_; clear hK K)
    refine ftext_load_row 60 _ rfl rfl rfl w.heap.size 0 [.int .i64 x.conf.nodes, .int .i64 x.conf.len, .int .i64 x.conf.patience, .int .i64 x.conf.cap] rfl aggConf (fun w hC => HRC.out _ hC) (fun K hK => ?_)
    go_simp; refine hK _ ?_; clear hK K
    refine ftext_free _ _ rfl rfl ⟨_, 0, rfl⟩ (fun _ => keeps_true _) (fun w1 hC Φ hΦ => ?_) (fun v hv K hK => ?_)
    · go_simp
      exact hΦ _ _ ⟨_, rfl⟩ (hC.trans (Ext.alloc _ _)) (Ext.alloc _ _) trivial
    obtain ⟨g2, rfl⟩ := hv
    go_simp; refine hK _ ?_; clear hK K
    (refine ftext_det rfl rfl ?_; apply Exists.intro; refine ⟨fun w hC => ?_, fun K hK => ?_⟩; (first | (go_simp; exact rfl) | (go_simp; exact ⟨rfl, rfl⟩) | (have h1 := trivial; go_simp; first | exact rfl | exact ⟨rfl, rfl⟩)); go_simp; refine hK _ ?_; clear hK K)
    (refine ftext_det rfl rfl ?_; apply Exists.intro; refine ⟨fun w hC => ?_, fun K hK => ?_⟩; (first | (go_simp; exact rfl) | (go_simp; exact ⟨rfl, rfl⟩) | (have h1 := HG4.out _ hC; go_simp; first | exact rfl | exact ⟨rfl, rfl⟩)); go_simp; refine hK _ ?_; clear hK K)
    refine ftext_seq (fun v => ∃ A c, v = .slice A x.values.l.length c) (fun v W => AppRow W WX.heap.size 3 1 cInt x.values.l v) rfl rfl ⟨_, none, 0, rfl⟩ (fun v w1 w2 h1 hR => h1.ext hR) (fun w1 hC hJ Φ hΦ => ?_) (fun v hv K hK => ?_)
    · refine und_app_came elintT (.tmp 26) (.tmp 28) rfl w1 WX.heap.size cInt g2 x.values.l rfl x.values.A x.values.l.length x.values.c rfl rfl (HX.out.values.ext (HEX.out.trans hC)).1 (fun _ => rfl) (by have := HV.out; omega) HM5.out hC.size (fun v' w' h1 h2 => ?_)
      obtain ⟨A, c, hv', hr'⟩ := h1
      exact hΦ _ _ ⟨A, c, hv'⟩ (hC.trans h2) h2 ⟨A, c, hv', hr'⟩
    obtain ⟨A5, c5, rfl⟩ := hv
    go_simp; refine hK _ ?_; clear hK K
    refine ftext_free _ _ rfl rfl ⟨_, 0, rfl⟩ (fun _ => keeps_true _) (fun w1 hC Φ hΦ => ?_) (fun v hv K hK => ?_)
    · go_simp
      exact hΦ _ _ ⟨_, rfl⟩ (hC.trans (Ext.alloc _ _)) (Ext.alloc _ _) trivial
    obtain ⟨g6, rfl⟩ := hv
    go_simp; refine hK _ ?_; clear hK K
    (refine ftext_det rfl rfl ?_; apply Exists.intro; refine ⟨fun w hC => ?_, fun K hK => ?_⟩; (first | (go_simp; exact rfl) | (go_simp; exact ⟨rfl, rfl⟩) | (have h1 := trivial; go_simp; first | exact rfl | exact ⟨rfl, rfl⟩)); go_simp; refine hK _ ?_; clear hK K)
    (refine ftext_det rfl rfl ?_; apply Exists.intro; refine ⟨fun w hC => ?_, fun K hK => ?_⟩; (first | (go_simp; exact rfl) | (go_simp; exact ⟨rfl, rfl⟩) | (have h1 := HG5.out _ hC; go_simp; first | exact rfl | exact ⟨rfl, rfl⟩)); go_simp; refine hK _ ?_; clear hK K)
    refine ftext_seq (fun v => ∃ A c, v = .slice A x.steps.l.length c) (fun v W => AppRow W WX.heap.size 3 1 cInt x.values.l (.slice A5 x.values.l.length c5) ∧ AppRow W WX.heap.size 115 5 PStep.cells x.steps.l v) rfl rfl ⟨_, none, 0, rfl⟩ (fun v w1 w2 h1 hR => ⟨h1.1.ext hR, h1.2.ext hR⟩) (fun w1 hC hJ Φ hΦ => ?_) (fun v hv K hK => ?_)
    · refine und_app_came elStepT (.tmp 30) (.tmp 32) rfl w1 WX.heap.size PStep.cells g6 x.steps.l rfl x.steps.A x.steps.l.length x.steps.c rfl rfl (HX.out.steps.ext (HEX.out.trans hC)).1 (fun _ => rfl) HS.out HM9.out hC.size (fun v' w' h1 h2 => ?_)
      obtain ⟨A, c, hv', hr'⟩ := h1
      exact hΦ _ _ ⟨A, c, hv'⟩ (hC.trans h2) h2 ⟨hJ.ext h2, A, c, hv', hr'⟩
    obtain ⟨A9, c9, rfl⟩ := hv
    go_simp; refine hK _ ?_; clear hK K
    (refine ftext_det rfl rfl ?_; apply Exists.intro; refine ⟨fun w hC => ?_, fun K hK => ?_⟩; (first | (go_simp; exact rfl) | (go_simp; exact ⟨rfl, rfl⟩) | (have h1 := trivial; go_simp; first | exact rfl | exact ⟨rfl, rfl⟩)); go_simp; refine hK _ ?_; clear hK K)
    refine ftext_free _ _ rfl rfl ⟨_, 0, rfl⟩ (fun v w1 w2 h hR => by obtain ⟨g, h0, h1, h2⟩ := h; exact ⟨g, h0, h1.ext hR, h2⟩) (fun w1 hC Φ hΦ => ?_) (fun v hv K hK => ?_)
    · go_simp
      exact hΦ _ _ ⟨_, rfl⟩ (hC.trans (Ext.alloc _ _)) (Ext.alloc _ _) ⟨_, rfl, Blk.new rfl, hC.size⟩
    obtain ⟨gt, rfl⟩ := hv
    go_simp; refine hK _ ?_; clear hK K
    refine ftext_nil ?_
    rintro w1 hC hJ hF
    obtain ⟨_, g, hg, Bg, hgs⟩ := hF
    have hgg : gt = g := congrArg (fun v : Value => match v with | .pointer (some p) => p.block | _ => 0) hg
    subst hgg
    simp only [List.drop_succ_cons, List.drop_zero]
    refine wplIn_store Open.wide 64 (.tmp 3) (.tmp 34) rfl rfl gt 0 64 [.int .i64 0, .int .i64 0, .int .i64 0, .int .i64 0, .slice none 0 0, .slice none 0 0] [.int .i64 x.conf.nodes, .int .i64 x.conf.len, .int .i64 x.conf.patience, .int .i64 x.conf.cap, .slice A5 x.values.l.length c5, .slice A9 x.steps.l.length c9] rfl rfl aggTale Bg (by simp) rfl ?_
    intro w2 BR hO
    refine wpListIn_nil ?_
    have HSH : Shape (fun e => e = 64) WX.heap.size w1 w2 := Shape.only (T := fun e => e = 64) (Shape.refl _ _ _) Bg hO BR rfl rfl hgs
    have HBT : Hid (Blk w2 gt 64 [.int .i64 x.conf.nodes, .int .i64 x.conf.len, .int .i64 x.conf.patience, .int .i64 x.conf.cap, .slice A5 x.values.l.length c5, .slice A9 x.steps.l.length c9]) := Lib.hid BR
    have HE2 : Hid (Ext WX w2) := Lib.hid (Only.ext hC hO hgs)
    have HY : Hid (XTale.ok w2 w2.heap.size ⟨x.conf, ⟨x.values.l, A5, c5⟩, ⟨x.steps.l, A9, c9⟩⟩) := Lib.hid ⟨(hJ.1.shape HSH (by decide)).ok, (hJ.2.shape HSH (by decide)).ok⟩
    clear hC hJ hg Bg hgs BR hO HSH
    have HBX2 := Lib.hid (HBX.out.ext HE2.out)
    have HE2' := Lib.hid (HEX.out.trans HE2.out)
    clear HE2 HBX HRC HG4 HG5 HEX HSZ
    have hrT : RowAt w2 gt 0 [.int .i64 x.conf.nodes, .int .i64 x.conf.len, .int .i64 x.conf.patience, .int .i64 x.conf.cap, .slice A5 x.values.l.length c5, .slice A9 x.steps.l.length c9] := HBT.out.row
    go_wp2_with (first | ((with_reducible refine wpl_load 64 (.tmp 3) ?_ ?_ (gt) 0 [.int .i64 x.conf.nodes, .int .i64 x.conf.len, .int .i64 x.conf.patience, .int .i64 x.conf.cap, .slice A5 x.values.l.length c5, .slice A9 x.steps.l.length c9] ?_ ?_ ?_ ?_); (exact rfl); (exact rfl); (exact rfl); (exact aggTale); (exact hrT)) | fail)
    clear hrT
    refine (tale_Print ⟨x.conf, ⟨x.values.l, A5, c5⟩, ⟨x.steps.l, A9, c9⟩⟩ _ HY.out HW.out (HT.out.ext HE2'.out)).mono ?_
    rintro e w3 ⟨rfl, hE3⟩
    have HY3 := Lib.hid (HY.out.ext hE3)
    have HBT3 := Lib.hid (HBT.out.ext hE3)
    have HBX3 := Lib.hid (HBX2.out.ext hE3)
    have HE3 := Lib.hid (HE2'.out.trans hE3)
    clear hE3 HY HBT HBX2 HE2'
    have hrX : RowAt w3 w.heap.size 0 [.int .i64 x.conf.nodes, .int .i64 x.conf.len, .int .i64 x.conf.patience, .int .i64 x.conf.cap, .slice x.values.A x.values.l.length x.values.c, .slice x.steps.A x.steps.l.length x.steps.c] := HBX3.out.row
    go_wp2_with (first | ((with_reducible refine wpl_load 64 (.tmp 1) ?_ ?_ (w.heap.size) 0 [.int .i64 x.conf.nodes, .int .i64 x.conf.len, .int .i64 x.conf.patience, .int .i64 x.conf.cap, .slice x.values.A x.values.l.length x.values.c, .slice x.steps.A x.steps.l.length x.steps.c] ?_ ?_ ?_ ?_); (exact rfl); (exact rfl); (exact rfl); (exact aggTale); (exact hrX)) | fail)
    clear hrX
    refine (ref_Print x _ (HX.out.ext HE3.out) HW.out).mono ?_
    rintro e w4 ⟨rfl, hE4⟩
    have HY4 := Lib.hid (HY3.out.ext hE4)
    have HBT4 := Lib.hid (HBT3.out.ext hE4)
    have HBX4 := Lib.hid (HBX3.out.ext hE4)
    have HE4 := Lib.hid (HE3.out.trans hE4)
    clear hE4 HY3 HBT3 HBX3 HE3
    have hrX : RowAt w4 w.heap.size 0 [.int .i64 x.conf.nodes, .int .i64 x.conf.len, .int .i64 x.conf.patience, .int .i64 x.conf.cap, .slice x.values.A x.values.l.length x.values.c, .slice x.steps.A x.steps.l.length x.steps.c] := HBX4.out.row
    have hrT : RowAt w4 gt 0 [.int .i64 x.conf.nodes, .int .i64 x.conf.len, .int .i64 x.conf.patience, .int .i64 x.conf.cap, .slice A5 x.values.l.length c5, .slice A9 x.steps.l.length c9] := HBT4.out.row
    have HPP : Hid (printP (XTale.data ⟨x.conf, ⟨x.values.l, A5, c5⟩, ⟨x.steps.l, A9, c9⟩⟩) = printP x.data) := Lib.hid rfl
    rw [HPP.out]
    obtain ⟨pp, hpp⟩ : ∃ p, printP x.data = p := ⟨_, rfl⟩
    rw [hpp]
    obtain ⟨ps, pe⟩ := pp
    clear hpp HPP
    go_wp2_with (first | ((with_reducible refine wpl_load 64 (.tmp 3) ?_ ?_ (gt) 0 [.int .i64 x.conf.nodes, .int .i64 x.conf.len, .int .i64 x.conf.patience, .int .i64 x.conf.cap, .slice A5 x.values.l.length c5, .slice A9 x.steps.l.length c9] ?_ ?_ ?_ ?_); (exact rfl); (exact rfl); (exact rfl); (exact aggTale); (exact hrT)) | ((with_reducible refine wpl_load 64 (.tmp 1) ?_ ?_ (w.heap.size) 0 [.int .i64 x.conf.nodes, .int .i64 x.conf.len, .int .i64 x.conf.patience, .int .i64 x.conf.cap, .slice x.values.A x.values.l.length x.values.c, .slice x.steps.A x.steps.l.length x.steps.c] ?_ ?_ ?_ ?_); (exact rfl); (exact rfl); (exact rfl); (exact aggTale); (exact hrX)) | fail)
    clear hrT hrX
    refine (ref_SameT ⟨x.conf, ⟨x.values.l, A5, c5⟩, ⟨x.steps.l, A9, c9⟩⟩ x _ HY4.out (HX.out.ext HE4.out) rfl).mono ?_
    rintro e w5 ⟨rfl, hE5⟩
    go_wp2_with fail
    go_ret
    exact ⟨rfl, HE4.out.trans hE5⟩
end Go.Proofs.YtgcbnagfdfgpnaaDoor
