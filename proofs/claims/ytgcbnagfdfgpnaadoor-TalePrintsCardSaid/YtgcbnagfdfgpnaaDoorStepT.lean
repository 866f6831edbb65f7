/- Tales: a step's line, the first line. Printed by gen_stept.py. -/
import Derived.Test.YtgcbnagfdfgpnaaDoorNumT
import Derived.Test.YtgcbnagfdfgpnaaDoorKit
import Derived.Test.YtgcbnagfdfgpnaaDoorOwnSet
namespace Go.Proofs.YtgcbnagfdfgpnaaDoor
open Go.RowKit Go.Hx
attribute [local go_sem] PStep.cells XTale.cells detUpon undIn
/-- a step that may be told -/
structure StepOk (x : PStep) : Prop where
  op : 1 ≤ x.op ∧ x.op ≤ 12
  id : inI64 x.id
  arg : inI64 x.arg
  extra : inI64 x.extra
  draw : 0 ≤ x.draw ∧ x.draw < 18446744073709551616
theorem names_cell {w : World} {g : Nat} (h : Blk w g 9 (namesL.flatMap encS)) {k : Nat} (hk : k < 13) : w.cell? ⟨g, k, none⟩ = some (.string ⟨(nameL k).toArray⟩) := by
  rw [h.cell k]
  have : ∀ k : Fin 13, (namesL.flatMap encS)[k.val]? = some (.string ⟨(nameL k.val).toArray⟩) := by
    intro k
    match k with
    | ⟨0, _⟩ => rfl
    | ⟨1, _⟩ => rfl
    | ⟨2, _⟩ => rfl
    | ⟨3, _⟩ => rfl
    | ⟨4, _⟩ => rfl
    | ⟨5, _⟩ => rfl
    | ⟨6, _⟩ => rfl
    | ⟨7, _⟩ => rfl
    | ⟨8, _⟩ => rfl
    | ⟨9, _⟩ => rfl
    | ⟨10, _⟩ => rfl
    | ⟨11, _⟩ => rfl
    | ⟨12, _⟩ => rfl
  exact this ⟨k, hk⟩
theorem offs_mem {op : Int} {k : Nat} (h : k ∈ offs op) : k = 1 ∨ k = 2 ∨ k = 3 := by
  unfold offs at h
  split at h
  · simpa using .inl (List.mem_singleton.1 h)
  · split at h
    · exact .inl (List.mem_singleton.1 h)
    · split at h
      · exact .inr (.inl (List.mem_singleton.1 h))
      · split at h
        · rcases List.mem_cons.1 h with h | h
          · exact .inr (.inl h)
          · exact .inr (.inr (List.mem_singleton.1 h))
        · rcases List.mem_cons.1 h with h | h
          · exact .inl h
          · rcases List.mem_cons.1 h with h | h
            · exact .inr (.inl h)
            · exact .inr (.inr (List.mem_singleton.1 h))
theorem offs_len (op : Int) : (offs op).length ≤ 3 := by
  unfold offs
  split
  · simp
  · split
    · simp
    · split
      · simp
      · split <;> simp
theorem NumR.ptr {b g n : Nat} {x : PStep} {w w' : World} (h : NumR b x.op w w' g n) (hB : Blk w b 115 x.cells) : PtrI w' g ((offs x.op).map fun k => ⟨b, k, none⟩) ((offs x.op).map x.fld) := by
  refine ⟨by simp, fun j p hp => ?_, fun j p v hp hv => ?_⟩
  · rw [h.blk.cell j]
    unfold ptrs
    rw [List.getElem?_map] at hp ⊢
    cases hq : (offs x.op)[j]? with
    | none => rw [hq] at hp; cases hp
    | some k => rw [hq] at hp; cases hp; rfl
  · rw [List.getElem?_map] at hp hv
    cases hq : (offs x.op)[j]? with
    | none => rw [hq] at hp; cases hp
    | some k =>
      rw [hq] at hp hv
      cases hp; cases hv
      refine h.ext.cell ?_
      rw [hB.cell k]
      rcases offs_mem (List.mem_of_getElem? hq) with rfl | rfl | rfl <;> rfl
theorem nums_in {x : PStep} (h : StepOk x) : ∀ v ∈ (offs x.op).map x.fld, inI64 v := fun v hv => by
  obtain ⟨k, hk, rfl⟩ := List.mem_map.1 hv
  rcases offs_mem hk with rfl | rfl | rfl
  · exact h.id
  · exact h.arg
  · exact h.extra
theorem name_len (k : Nat) : (nameL k).length ≤ 10 := by
  unfold nameL
  rw [Int.toNat_natCast]
  rcases Nat.lt_or_ge k 13 with h | h
  · have : ∀ k : Fin 13, (namesL[k.val]?.getD []).length ≤ 10 := by decide
    exact this ⟨k, h⟩
  · rw [List.getElem?_eq_none (by rw [names_len]; exact h)]; simp
set_option maxRecDepth 100000 in
set_option maxHeartbeats 2000000 in
theorem tale_step (x : PStep) (w : World) (hx : StepOk x) (hT : Pow w) :
    Calls Tryd.prog 60 #[.agg #[.int .u8 x.op, .int .i64 x.id, .int .i64 x.arg, .int .i64 x.extra, .int .u64 x.draw]] w fun e w' => e = .returned (.string ⟨(stepL x).toArray⟩) ∧ Ext w w' := by
  obtain ⟨op, id, arg, extra, draw⟩ := x
  obtain ⟨k, rfl⟩ : ∃ k : Nat, op = (k : Int) := ⟨op.toNat, by have := hx.op.1; dsimp only at this; omega⟩
  obtain ⟨draw, rfl⟩ : ∃ k : Nat, draw = (k : Int) := ⟨draw.toNat, by have := hx.draw.1; dsimp only at this; omega⟩
  have HX := Lib.hid hx
  have HT := Lib.hid hT
  have hk1 : 1 ≤ k := by have := hx.op.1; dsimp only at this; omega
  have hk13 : k < 13 := by have := hx.op.2; dsimp only at this; omega
  have hk13i : (k : Int) < 13 := by omega
  have HDR : Hid (draw < 18446744073709551616) := Lib.hid (by have := hx.draw.2; dsimp only at this; omega)
  clear hx hT
  have HB0 : Hid (Blk (w.alloc (.cells #[.int .u8 k, .int .i64 id, .int .i64 arg, .int .i64 extra, .int .u64 draw] 115)) w.heap.size 115 [.int .u8 k, .int .i64 id, .int .i64 arg, .int .i64 extra, .int .u64 draw]) := Lib.hid (Blk.new rfl)
  have HE0 : Hid (Ext w (w.alloc (.cells #[.int .u8 k, .int .i64 id, .int .i64 arg, .int .i64 extra, .int .u64 draw] 115))) := Lib.hid (Ext.alloc _ _)
  obtain ⟨b, hb⟩ : ∃ b, w.heap.size = b := ⟨_, rfl⟩
  go_enter Tryd.func60, Tryd.ntmps60
  go_wp2_with fail
  refine calls_nm fun W0 hW => ?_
  rw [← hW] at HB0 HE0
  clear hW
  rw [hb] at HB0
  clear hb
  refine (tale_numbers b ⟨k, id, arg, extra, draw⟩ W0 HB0.out).mono ?_
  rintro e w1 ⟨g, n, rfl, hN⟩
  have HP := Lib.hid (hN.ptr HB0.out)
  have HBX := Lib.hid (HB0.out.ext hN.ext)
  have HE1 := Lib.hid (HE0.out.trans hN.ext)
  have HNN : Hid (n = ((offs (k : Int)).map (PStep.fld ⟨k, id, arg, extra, draw⟩)).length) := Lib.hid (by rw [List.length_map]; exact hN.len)
  clear hN HB0 HE0
  obtain ⟨LN, hLN⟩ : ∃ L, lineL (nameL k) ((offs (k : Int)).map (PStep.fld ⟨k, id, arg, extra, draw⟩)) = L := ⟨_, rfl⟩
  have HLN := Lib.hid hLN
  have HLL : Hid (LN.length ≤ 100) := Lib.hid (by
    have h1 := lineL_len (nameL k) _ (nums_in HX.out)
    have h2 := name_len k
    have h3 := offs_len k
    dsimp only at h1
    rw [List.length_map, hLN] at h1
    omega)
  clear hLN
  go_wp2_with fail
  obtain ⟨WX, hWX⟩ : ∃ W, W = w1 := ⟨_, rfl⟩
  rw [← hWX] at HP HBX HE1 ⊢
  clear hWX
  have HG0 : Hid (∀ W : World, Ext WX W → W.cell? ⟨b, 0, none⟩ = some (.int .u8 k)) := Lib.hid fun W hW => (HBX.out.ext hW).cell 0
  refine wp_region_flow (Ext WX) (fun _ => True) Ext (fun i => if i = 0 then .row (fun v => ∃ g, v = .slice (some ⟨g, 0, none⟩) 13 13) (fun v W => ∃ g, v = .slice (some ⟨g, 0, none⟩) 13 13 ∧ Blk W g 9 (namesL.flatMap encS)) else if i = 4 then .row (fun v => v = .string ⟨(nameL k).toArray⟩) (fun _ _ => True) else if i = 6 then .row (fun v => v = .string ⟨LN.toArray⟩) (fun _ _ => True) else .det) [0, 4, 6] (by kernel_rfl) (by kernel_rfl) (by kernel_rfl) (Ext.drew _) trivial (keeps_true _) ?_
  refine ftext_row _ _ rfl rfl ⟨_, 0, rfl⟩ (fun v w1 w2 h hR => by obtain ⟨g, h0, h1⟩ := h; exact ⟨g, h0, h1.ext hR⟩) (fun w1 hC hJ Φ hΦ => ?_) (fun v hv K hK => ?_)
  · go_simp
    refine (tale_names _).mono ?_
    rintro e w2 ⟨g2, rfl, hE2, _, hB2⟩
    exact ⟨_, rfl, hΦ _ _ ⟨_, rfl⟩ (hC.trans hE2) hE2 ⟨_, rfl, hB2⟩⟩
  obtain ⟨gN, rfl⟩ := hv
  go_simp; refine hK _ ?_; clear hK K
  iterate 3 (refine ftext_det rfl rfl ?_; apply Exists.intro; refine ⟨fun w hC => ?_, fun K hK => ?_⟩; (first | (go_simp; exact rfl) | (go_simp; exact ⟨rfl, rfl⟩) | (have h1 := HG0.out _ hC; go_simp; first | exact rfl | exact ⟨rfl, rfl⟩)); go_simp; refine hK _ ?_; clear hK K)
  refine ftext_row _ _ rfl rfl ⟨_, rfl⟩ (fun _ => keeps_true _) (fun w1 hC hJ Φ hΦ => ?_) (fun v hv K hK => ?_)
  · obtain ⟨g2, hg, hB2⟩ := hJ
    have hgg : gN = g2 := congrArg (fun v : Value => match v with | .slice (some p) _ _ => p.block | _ => 0) hg
    subst hgg
    have hc := names_cell hB2 hk13
    go_simp
    exact hΦ _ _ rfl hC (Ext.refl _) trivial
  subst hv
  go_simp; refine hK _ ?_; clear hK K
  iterate 1 (refine ftext_det rfl rfl ?_; apply Exists.intro; refine ⟨fun w hC => ?_, fun K hK => ?_⟩; (first | (go_simp; exact rfl) | (go_simp; exact ⟨rfl, rfl⟩)); go_simp; refine hK _ ?_; clear hK K)
  refine ftext_row _ _ rfl rfl ⟨_, rfl⟩ (fun _ => keeps_true _) (fun w1 hC hJ Φ hΦ => ?_) (fun v hv K hK => ?_)
  · go_simp
    rw [HNN.out]
    refine (tale_line (nameL k) g _ _ ((offs (k : Int)).map (PStep.fld ⟨k, id, arg, extra, draw⟩)) _ (HP.out.ext hC) (nums_in HX.out) (by have := name_len k; omega) (by rw [List.length_map]; have := offs_len k; omega) (HT.out.ext (HE1.out.trans hC))).mono ?_
    rw [HLN.out]
    rintro e w2 ⟨rfl, hE2⟩
    exact ⟨_, rfl, hΦ _ _ rfl (hC.trans hE2) hE2 trivial⟩
  subst hv
  go_simp; refine hK _ ?_; clear hK K
  iterate 1 (refine ftext_det rfl rfl ?_; apply Exists.intro; refine ⟨fun w hC => ?_, fun K hK => ?_⟩; (first | (go_simp; exact rfl) | (go_simp; exact ⟨rfl, rfl⟩)); go_simp; refine hK _ ?_; clear hK K)
  refine ftext_nil ?_
  rintro w3 hC _ _
  have hdc : w3.cell? ⟨b, 4, none⟩ = some (.int .u64 draw) := (HBX.out.ext hC).cell 4
  have HE3 := Lib.hid (HE1.out.trans hC)
  clear hC
  cases hd : drw k with
  | true =>
    have HR : Hid (stepL ⟨k, id, arg, extra, draw⟩ = LN ++ 32 :: Lib.decDigits draw) := Lib.hid (by unfold stepL; dsimp only; rw [HLN.out, if_pos hd, Int.toNat_natCast])
    have HNL : Hid ((Lib.decDigits draw).length ≤ 20) := Lib.hid (by rw [Lib.decDigits_length]; exact Lib.nDigits_le20 draw HDR.out)
    have a1 : ∀ W, (Op.stringOp .add ⟨#[32]⟩ ⟨(Lib.decDigits draw).toArray⟩).run Tryd.prog W = .ok (.string ⟨(32 :: Lib.decDigits draw).toArray⟩) W := fun W => run_string_add_lists W [32] (Lib.decDigits draw) (by simp) (by have := HNL.out; omega)
    have a2 : ∀ W, (Op.stringOp .add ⟨LN.toArray⟩ ⟨(32 :: Lib.decDigits draw).toArray⟩).run Tryd.prog W = .ok (.string ⟨(LN ++ 32 :: Lib.decDigits draw).toArray⟩) W := fun W => run_string_add_lists W _ _ (by have := HLL.out; omega) (by have := HNL.out; rw [List.length_cons]; omega)
    go_wp2_with (go_at_call 107; refine (fmt_uint draw HDR.out _ (HT.out.ext HE3.out)).mono ?_; rintro e w4 ⟨rfl, hE4⟩)
    go_ret
    exact ⟨by rw [HR.out] <;> rfl, HE3.out.trans hE4⟩
  | false =>
    have HR : Hid (stepL ⟨k, id, arg, extra, draw⟩ = LN) := Lib.hid (by unfold stepL; dsimp only; rw [HLN.out, if_neg (by rw [hd]; decide), List.append_nil])
    go_wp2_with fail
    go_ret
    exact ⟨by rw [HR.out] <;> rfl, HE3.out⟩
def encP (p : Addr) : List Value := [.pointer (some p)]
theorem elPtr : ElTy Tryd.prog 169 173 1 8 := ElTy.mk' (z := .pointer none) Tryd.underlying169 (by kernel_rfl) rfl (by decide)
/-- pointers to the values of a tale so far -/
def vptr (A : Option Addr) (j : Nat) : Addr := match A with
  | some a => ⟨a.block, a.off + j, none⟩
  | none => ⟨0, 0, none⟩
structure HeadI (w W : World) (b : Nat) (A : Option Addr) (k : Nat) (v : Value) : Prop where
  ext : Ext w W
  own : Go.Hx.Own W (w.heap.size + 1) 173 1 encP v ([⟨b, 0, none⟩, ⟨b, 1, none⟩, ⟨b, 2, none⟩, ⟨b, 3, none⟩] ++ (List.range k).map (vptr A))
set_option maxRecDepth 100000 in
set_option maxHeartbeats 2000000 in
theorem tale_head (x : XTale) (w : World) (hx : x.ok w w.heap.size) (hc : inI64 x.conf.nodes ∧ inI64 x.conf.len ∧ inI64 x.conf.patience ∧ inI64 x.conf.cap) (hv : ∀ v ∈ x.values.l, inI64 v) (hn : x.values.l.length ≤ 900) (hT : Pow w) :
    Calls Tryd.prog 59 #[.agg #[.int .i64 x.conf.nodes, .int .i64 x.conf.len, .int .i64 x.conf.patience, .int .i64 x.conf.cap, .slice x.values.A x.values.l.length x.values.c, .slice x.steps.A x.steps.l.length x.steps.c]] w fun e w' => e = .returned (.string ⟨(headL x.data).toArray⟩) ∧ Ext w w' := by
  have HSL := Lib.hid hx.values.1
  obtain ⟨cf, ⟨l, A, c⟩, ⟨sl0, sA, sc⟩⟩ := x
  have HC := Lib.hid hc
  have HV := Lib.hid hv
  have HT := Lib.hid hT
  have HN := Lib.hid hn
  clear hx hc hv hn hT
  dsimp only at *
  obtain ⟨sl, hsl⟩ : ∃ n, sl0.length = n := ⟨_, rfl⟩
  rw [hsl]
  clear hsl
  have HB0 : Hid (Blk (w.alloc (.cells #[.int .i64 cf.nodes, .int .i64 cf.len, .int .i64 cf.patience, .int .i64 cf.cap, .slice A l.length c, .slice sA sl sc] 64)) w.heap.size 64 [.int .i64 cf.nodes, .int .i64 cf.len, .int .i64 cf.patience, .int .i64 cf.cap, .slice A l.length c, .slice sA sl sc]) := Lib.hid (Blk.new rfl)
  have HB1 : Hid (Blk ((w.alloc (.cells #[.int .i64 cf.nodes, .int .i64 cf.len, .int .i64 cf.patience, .int .i64 cf.cap, .slice A l.length c, .slice sA sl sc] 64)).alloc (.cells #[.pointer (some ⟨w.heap.size, 0, none⟩), .pointer (some ⟨w.heap.size, 1, none⟩), .pointer (some ⟨w.heap.size, 2, none⟩), .pointer (some ⟨w.heap.size, 3, none⟩)] 173)) w.heap.size 64 [.int .i64 cf.nodes, .int .i64 cf.len, .int .i64 cf.patience, .int .i64 cf.cap, .slice A l.length c, .slice sA sl sc]) := Lib.hid (HB0.out.alloc _)
  have BP : Blk ((w.alloc (.cells #[.int .i64 cf.nodes, .int .i64 cf.len, .int .i64 cf.patience, .int .i64 cf.cap, .slice A l.length c, .slice sA sl sc] 64)).alloc (.cells #[.pointer (some ⟨w.heap.size, 0, none⟩), .pointer (some ⟨w.heap.size, 1, none⟩), .pointer (some ⟨w.heap.size, 2, none⟩), .pointer (some ⟨w.heap.size, 3, none⟩)] 173)) (w.heap.size + 1) 173 [.pointer (some ⟨w.heap.size, 0, none⟩), .pointer (some ⟨w.heap.size, 1, none⟩), .pointer (some ⟨w.heap.size, 2, none⟩), .pointer (some ⟨w.heap.size, 3, none⟩)] := Blk.new (by simp)
  have HI0 : Hid (HeadI w ((w.alloc (.cells #[.int .i64 cf.nodes, .int .i64 cf.len, .int .i64 cf.patience, .int .i64 cf.cap, .slice A l.length c, .slice sA sl sc] 64)).alloc (.cells #[.pointer (some ⟨w.heap.size, 0, none⟩), .pointer (some ⟨w.heap.size, 1, none⟩), .pointer (some ⟨w.heap.size, 2, none⟩), .pointer (some ⟨w.heap.size, 3, none⟩)] 173)) w.heap.size A 0 (.slice (some ⟨w.heap.size + 1, 0, none⟩) 4 4)) := Lib.hid ⟨Ext.alloc' (Ext.alloc _ _) _, Own.of_blk (size := 1) (enc := encP) (c := 4) (l := [(⟨w.heap.size, 0, none⟩ : Addr), ⟨w.heap.size, 1, none⟩, ⟨w.heap.size, 2, none⟩, ⟨w.heap.size, 3, none⟩]) (fun _ => rfl) BP (Nat.le_refl _) (Nat.le_refl _) (by unfold maxLen; decide) rfl rfl⟩
  clear HB0 BP
  go_enter Tryd.func59, Tryd.ntmps59
  have hcv0 : ((w.alloc (.cells #[.int .i64 cf.nodes, .int .i64 cf.len, .int .i64 cf.patience, .int .i64 cf.cap, .slice A l.length c, .slice sA sl sc] 64)).alloc (.cells #[.pointer (some ⟨w.heap.size, 0, none⟩), .pointer (some ⟨w.heap.size, 1, none⟩), .pointer (some ⟨w.heap.size, 2, none⟩), .pointer (some ⟨w.heap.size, 3, none⟩)] 173)).cell? ⟨w.heap.size, 4, none⟩ = some (.slice A l.length c) := HB1.out.cell 4
  go_wp2_with fail
  clear hcv0
  go_loopw [3, 17] (fun v i W => ∃ (k : Nat), k ≤ l.length ∧ i = .int .i64 k ∧ Hid (HeadI w W w.heap.size A k v ∧ Blk W w.heap.size 64 [.int .i64 cf.nodes, .int .i64 cf.len, .int .i64 cf.patience, .int .i64 cf.cap, .slice A l.length c, .slice sA sl sc])) (fun _ i _ => l.length - (intOf i).toNat)
  case atStart => exact ⟨0, by omega, rfl, Lib.hid ⟨HI0.out, HB1.out⟩⟩
  case round =>
    obtain ⟨k, hk, rfl, HI⟩ := hrel
    clear HI0 HB1
    obtain ⟨A0, c0, rfl, hok0⟩ := HI.out.1.own.form
    clear hok0
    have HOW := Lib.hid HI.out.1.own
    have HEW := Lib.hid HI.out.1.ext
    have HBW := Lib.hid HI.out.2
    have HPL : Hid (([(⟨w.heap.size, 0, none⟩ : Addr), ⟨w.heap.size, 1, none⟩, ⟨w.heap.size, 2, none⟩, ⟨w.heap.size, 3, none⟩] ++ (List.range k).map (vptr A)).length = 4 + k) := Lib.hid (by rw [List.length_append, List.length_map, List.length_range]; rfl)
    obtain ⟨ps, hps⟩ : ∃ ps, [(⟨w.heap.size, 0, none⟩ : Addr), ⟨w.heap.size, 1, none⟩, ⟨w.heap.size, 2, none⟩, ⟨w.heap.size, 3, none⟩] ++ (List.range k).map (vptr A) = ps := ⟨_, rfl⟩
    rw [hps] at HOW HPL ⊢
    have HPS := Lib.hid hps
    clear hps HI
    have hcv : wr.cell? ⟨w.heap.size, 4, none⟩ = some (.slice A l.length c) := HBW.out.cell 4
    by_cases hlt : k < l.length
    · obtain ⟨z, hz⟩ : ∃ z, l[k]? = some z := ⟨_, List.getElem?_eq_getElem hlt⟩
      obtain ⟨b1, o1, rfl, hb1, hrow⟩ := Sl.row (size := 1) (fun _ => rfl) HSL.out hz
      have hki : (k : Int) < (l.length : Int) := by omega
      have hk9 : k < 900 := by have := HN.out; omega
      clear hz hb1 hrow
      go_wp2_with (at_builtin; go_must (refine app_one elPtr rfl (.tmp 20) (.tmp 25) rfl wr (w.heap.size + 1) encP _ ps (⟨b1, o1 + k, none⟩ : Addr) rfl HOW.out _ 1 rfl (by simp) rfl rfl (by have := HPL.out; omega) (by have := HPL.out; unfold maxLen; omega) (by have := HBW.out.lt; omega) ?_); intro v' w4 hown' hgrow hat)
      have HI2 : Hid (HeadI w w4 w.heap.size (some ⟨b1, o1, none⟩) (k + 1) v' ∧ Blk w4 w.heap.size 64 [.int .i64 cf.nodes, .int .i64 cf.len, .int .i64 cf.patience, .int .i64 cf.cap, .slice (some ⟨b1, o1, none⟩) l.length c, .slice sA sl sc]) := Lib.hid ⟨⟨Own.below (Own.lower HOW.out (Nat.le_succ _)) HEW.out hgrow (Nat.le_refl _) HEW.out.size, by
        rw [List.range_succ, List.map_append, ← List.append_assoc, HPS.out]; exact hown'⟩, (hgrow.block _ HBW.out.lt (fun e => by have := Own.below_block HOW.out _ e.symm; omega)).trans HBW.out⟩
      clear hown' hgrow hat
      go_roundw
      case rel => exact ⟨k + 1, by omega, by go_num, HI2⟩
      case measure => simp [intOf]; omega
    · have hki : ¬ (k : Int) < (l.length : Int) := by omega
      have hkl : k = l.length := by omega
      obtain ⟨g, rfl⟩ := Own.place (k := 0) (by have := HPL.out; omega) HOW.out
      have HPT : Hid (PtrI wr g ps ([cf.nodes, cf.len, cf.patience, cf.cap] ++ l)) := Lib.hid (by
        obtain ⟨cur, hcur, _, _, _, _, ht⟩ := Own.blk HOW.out
        refine ⟨by rw [HPL.out, hkl]; simp; omega, fun j p hp => ?_, fun j p v hp hv => ?_⟩
        · have hj := (List.getElem?_eq_some_iff.1 hp).1
          rw [hcur.cell j]
          have h1 := flatMap_get (enc := encP) (size := 1) (fun _ => rfl) ps j p 0 _ hp rfl
          rw [← ht, Nat.mul_one, Nat.add_zero, Nat.mul_one, List.getElem?_take_of_lt hj] at h1
          exact h1
        · rw [← HPS.out] at hp
          match j, hp, hv with
          | 0, hp, hv => cases hp; cases hv; exact HBW.out.cell 0
          | 1, hp, hv => cases hp; cases hv; exact HBW.out.cell 1
          | 2, hp, hv => cases hp; cases hv; exact HBW.out.cell 2
          | 3, hp, hv => cases hp; cases hv; exact HBW.out.cell 3
          | j + 4, hp, hv =>
            have hv' : l[j]? = some v := hv
            have hp' : ((List.range k).map (vptr A))[j]? = some p := hp
            rw [List.getElem?_map, List.getElem?_range (by have := (List.getElem?_eq_some_iff.1 hv').1; omega)] at hp'
            obtain ⟨b1, o1, rfl, hb1, hrow⟩ := Sl.row (size := 1) (fun _ => rfl) HSL.out hv'
            cases hp'
            have := hrow.below HEW.out.below hb1 0 _ rfl
            simpa [vptr] using this)
      have HLN : Hid (ps.length = ([cf.nodes, cf.len, cf.patience, cf.cap] ++ l).length) := Lib.hid (by rw [HPL.out, hkl]; simp; omega)
      have HVI : Hid (∀ v ∈ [cf.nodes, cf.len, cf.patience, cf.cap] ++ l, inI64 v) := Lib.hid fun v hv => by
        rcases List.mem_append.1 hv with hv | hv
        · simp only [List.mem_cons, List.not_mem_nil, or_false] at hv
          rcases hv with rfl | rfl | rfl | rfl
          · exact HC.out.1
          · exact HC.out.2.1
          · exact HC.out.2.2.1
          · exact HC.out.2.2.2
        · exact HV.out v hv
      clear hkl
      go_wp2_with fail
      rw [HLN.out]
      refine (tale_line [119, 111, 114, 108, 100] g _ ps _ _ HPT.out HVI.out (by simp) (by simp; have := HN.out; omega) (HT.out.ext HEW.out)).mono ?_
      rintro e w2 ⟨rfl, hE2⟩
      go_wp2_with fail
      go_ret
      exact ⟨rfl, HEW.out.trans hE2⟩
end Go.Proofs.YtgcbnagfdfgpnaaDoor
