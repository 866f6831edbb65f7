/- Parts of a proof, joined: StepT, MayT, PrintT, Ref32, Ref32b. -/
import Derived.Test.YtgcbnagfdfgpnaaDoorWordsAll34
import Derived.Test.YtgcbnagfdfgpnaaDoorWordsAll29
import Derived.Test.YtgcbnagfdfgpnaaDoorWordsAll2
section
namespace Go.Proofs.YtgcbnagfdfgpnaaDoor
open Go.RowKit Go.Hx
attribute [local go_sem] PStep.cells XTale.cells detUpon undIn
/-- a step that may be told -/
structure StepOk (x : PStep) : Prop where
  op : 1 ≤ x.op ∧ x.op ≤ 12
  id : inI64 x.id
  arg : inI64 x.arg
  extra : inI64 x.extra
  draw : 0 ≤ x.draw ∧ x.draw < 18446744073709551616
theorem names_cell {w : World} {g : Nat} (h : Blk w g 9 (namesL.flatMap encS)) {k : Nat} (hk : k < 13) : w.cell? ⟨g, k, none⟩ = some (.string ⟨(nameL k).toArray⟩) := by
  rw [h.cell k]
  have : ∀ k : Fin 13, (namesL.flatMap encS)[k.val]? = some (.string ⟨(nameL k.val).toArray⟩) := by
    intro k
    match k with
    | ⟨0, _⟩ => rfl
    | ⟨1, _⟩ => rfl
    | ⟨2, _⟩ => rfl
    | ⟨3, _⟩ => rfl
    | ⟨4, _⟩ => rfl
    | ⟨5, _⟩ => rfl
    | ⟨6, _⟩ => rfl
    | ⟨7, _⟩ => rfl
    | ⟨8, _⟩ => rfl
    | ⟨9, _⟩ => rfl
    | ⟨10, _⟩ => rfl
    | ⟨11, _⟩ => rfl
    | ⟨12, _⟩ => rfl
  exact this ⟨k, hk⟩
theorem offs_mem {op : Int} {k : Nat} (h : k ∈ offs op) : k = 1 ∨ k = 2 ∨ k = 3 := by
  unfold offs at h
  split at h
  · simpa using .inl (List.mem_singleton.1 h)
  · split at h
    · exact .inl (List.mem_singleton.1 h)
    · split at h
      · exact .inr (.inl (List.mem_singleton.1 h))
      · split at h
        · rcases List.mem_cons.1 h with h | h
          · exact .inr (.inl h)
          · exact .inr (.inr (List.mem_singleton.1 h))
        · rcases List.mem_cons.1 h with h | h
          · exact .inl h
          · rcases List.mem_cons.1 h with h | h
            · exact .inr (.inl h)
            · exact .inr (.inr (List.mem_singleton.1 h))
theorem offs_len (op : Int) : (offs op).length ≤ 3 := by
  unfold offs
  split
  · simp
  · split
    · simp
    · split
      · simp
      · split <;> simp
theorem NumR.ptr {b g n : Nat} {x : PStep} {w w' : World} (h : NumR b x.op w w' g n) (hB : Blk w b 115 x.cells) : PtrI w' g ((offs x.op).map fun k => ⟨b, k, none⟩) ((offs x.op).map x.fld) := by
  refine ⟨by simp, fun j p hp => ?_, fun j p v hp hv => ?_⟩
  · rw [h.blk.cell j]
    unfold ptrs
    rw [List.getElem?_map] at hp ⊢
    cases hq : (offs x.op)[j]? with
    | none => rw [hq] at hp; cases hp
    | some k => rw [hq] at hp; cases hp; rfl
  · rw [List.getElem?_map] at hp hv
    cases hq : (offs x.op)[j]? with
    | none => rw [hq] at hp; cases hp
    | some k =>
      rw [hq] at hp hv
      cases hp; cases hv
      refine h.ext.cell ?_
      rw [hB.cell k]
      rcases offs_mem (List.mem_of_getElem? hq) with rfl | rfl | rfl <;> rfl
theorem nums_in {x : PStep} (h : StepOk x) : ∀ v ∈ (offs x.op).map x.fld, inI64 v := fun v hv => by
  obtain ⟨k, hk, rfl⟩ := List.mem_map.1 hv
  rcases offs_mem hk with rfl | rfl | rfl
  · exact h.id
  · exact h.arg
  · exact h.extra
theorem name_len (k : Nat) : (nameL k).length ≤ 10 := by
  unfold nameL
  rw [Int.toNat_natCast]
  rcases Nat.lt_or_ge k 13 with h | h
  · have : ∀ k : Fin 13, (namesL[k.val]?.getD []).length ≤ 10 := by decide
    exact this ⟨k, h⟩
  · rw [List.getElem?_eq_none (by rw [names_len]; exact h)]; simp
set_option maxRecDepth 100000 in
set_option maxHeartbeats 2000000 in
theorem tale_step (x : PStep) (w : World) (hx : StepOk x) (hT : Pow w) :
    Calls Tryd.prog 60 #[.agg #[.int .u8 x.op, .int .i64 x.id, .int .i64 x.arg, .int .i64 x.extra, .int .u64 x.draw]] w fun e w' => e = .returned (.string ⟨(stepL x).toArray⟩) ∧ Ext w w' := by
  obtain ⟨op, id, arg, extra, draw⟩ := x
  obtain ⟨k, rfl⟩ : ∃ k : Nat, op = (k : Int) := ⟨op.toNat, by have := hx.op.1; dsimp only at this; omega⟩
  obtain ⟨draw, rfl⟩ : ∃ k : Nat, draw = (k : Int) := ⟨draw.toNat, by have := hx.draw.1; dsimp only at this; omega⟩
  have HX := Lib.hid hx
  have HT := Lib.hid hT
  have hk1 : 1 ≤ k := by have := hx.op.1; dsimp only at this; omega
  have hk13 : k < 13 := by have := hx.op.2; dsimp only at this; omega
  have hk13i : (k : Int) < 13 := by omega
  have HDR : Hid (draw < 18446744073709551616) := Lib.hid (by have := hx.draw.2; dsimp only at this; omega)
  clear hx hT
  have HB0 : Hid (Blk (w.alloc (.cells #[.int .u8 k, .int .i64 id, .int .i64 arg, .int .i64 extra, .int .u64 draw] 115)) w.heap.size 115 [.int .u8 k, .int .i64 id, .int .i64 arg, .int .i64 extra, .int .u64 draw]) := Lib.hid (Blk.new rfl)
  have HE0 : Hid (Ext w (w.alloc (.cells #[.int .u8 k, .int .i64 id, .int .i64 arg, .int .i64 extra, .int .u64 draw] 115))) := Lib.hid (Ext.alloc _ _)
  obtain ⟨b, hb⟩ : ∃ b, w.heap.size = b := ⟨_, rfl⟩
  go_enter Tryd.func60, Tryd.ntmps60
  go_wp2_with fail
  refine calls_nm fun W0 hW => ?_
  rw [← hW] at HB0 HE0
  clear hW
  rw [hb] at HB0
  clear hb
  refine (tale_numbers b ⟨k, id, arg, extra, draw⟩ W0 HB0.out).mono ?_
  rintro e w1 ⟨g, n, rfl, hN⟩
  have HP := Lib.hid (hN.ptr HB0.out)
  have HBX := Lib.hid (HB0.out.ext hN.ext)
  have HE1 := Lib.hid (HE0.out.trans hN.ext)
  have HNN : Hid (n = ((offs (k : Int)).map (PStep.fld ⟨k, id, arg, extra, draw⟩)).length) := Lib.hid (by rw [List.length_map]; exact hN.len)
  clear hN HB0 HE0
  obtain ⟨LN, hLN⟩ : ∃ L, lineL (nameL k) ((offs (k : Int)).map (PStep.fld ⟨k, id, arg, extra, draw⟩)) = L := ⟨_, rfl⟩
  have HLN := Lib.hid hLN
  have HLL : Hid (LN.length ≤ 100) := Lib.hid (by
    have h1 := lineL_len (nameL k) _ (nums_in HX.out)
    have h2 := name_len k
    have h3 := offs_len k
    dsimp only at h1
    rw [List.length_map, hLN] at h1
    omega)
  clear hLN
  go_wp2_with fail
  obtain ⟨WX, hWX⟩ : ∃ W, W = w1 := ⟨_, rfl⟩
  rw [← hWX] at HP HBX HE1 ⊢
  clear hWX
  have HG0 : Hid (∀ W : World, Ext WX W → W.cell? ⟨b, 0, none⟩ = some (.int .u8 k)) := Lib.hid fun W hW => (HBX.out.ext hW).cell 0
  refine wp_region_flow (Ext WX) (fun _ => True) Ext (fun i => if i = 0 then .row (fun v => ∃ g, v = .slice (some ⟨g, 0, none⟩) 13 13) (fun v W => ∃ g, v = .slice (some ⟨g, 0, none⟩) 13 13 ∧ Blk W g 9 (namesL.flatMap encS)) else if i = 4 then .row (fun v => v = .string ⟨(nameL k).toArray⟩) (fun _ _ => True) else if i = 6 then .row (fun v => v = .string ⟨LN.toArray⟩) (fun _ _ => True) else .det) [0, 4, 6] (by kernel_rfl) (by kernel_rfl) (by kernel_rfl) (Ext.drew _) trivial (keeps_true _) ?_
  refine ftext_row _ _ rfl rfl ⟨_, 0, rfl⟩ (fun v w1 w2 h hR => by obtain ⟨g, h0, h1⟩ := h; exact ⟨g, h0, h1.ext hR⟩) (fun w1 hC hJ Φ hΦ => ?_) (fun v hv K hK => ?_)
  · go_simp
    refine (tale_names _).mono ?_
    rintro e w2 ⟨g2, rfl, hE2, _, hB2⟩
    exact ⟨_, rfl, hΦ _ _ ⟨_, rfl⟩ (hC.trans hE2) hE2 ⟨_, rfl, hB2⟩⟩
  obtain ⟨gN, rfl⟩ := hv
  go_simp; refine hK _ ?_; clear hK K
  iterate 3 (refine ftext_det rfl rfl ?_; apply Exists.intro; refine ⟨fun w hC => ?_, fun K hK => ?_⟩; (first | (go_simp; exact rfl) | (go_simp; exact ⟨rfl, rfl⟩) | (have h1 := HG0.out _ hC; go_simp; first | exact rfl | exact ⟨rfl, rfl⟩)); go_simp; refine hK _ ?_; clear hK K)
  refine ftext_row _ _ rfl rfl ⟨_, rfl⟩ (fun _ => keeps_true _) (fun w1 hC hJ Φ hΦ => ?_) (fun v hv K hK => ?_)
  · obtain ⟨g2, hg, hB2⟩ := hJ
    have hgg : gN = g2 := congrArg (fun v : Value => match v with | .slice (some p) _ _ => p.block | _ => 0) hg
    subst hgg
    have hc := names_cell hB2 hk13
    go_simp
    exact hΦ _ _ rfl hC (Ext.refl _) trivial
  subst hv
  go_simp; refine hK _ ?_; clear hK K
  iterate 1 (refine ftext_det rfl rfl ?_; apply Exists.intro; refine ⟨fun w hC => ?_, fun K hK => ?_⟩; (first | (go_simp; exact rfl) | (go_simp; exact ⟨rfl, rfl⟩)); go_simp; refine hK _ ?_; clear hK K)
  refine ftext_row _ _ rfl rfl ⟨_, rfl⟩ (fun _ => keeps_true _) (fun w1 hC hJ Φ hΦ => ?_) (fun v hv K hK => ?_)
  · go_simp
    rw [HNN.out]
    refine (tale_line (nameL k) g _ _ ((offs (k : Int)).map (PStep.fld ⟨k, id, arg, extra, draw⟩)) _ (HP.out.ext hC) (nums_in HX.out) (by have := name_len k; omega) (by rw [List.length_map]; have := offs_len k; omega) (HT.out.ext (HE1.out.trans hC))).mono ?_
    rw [HLN.out]
    rintro e w2 ⟨rfl, hE2⟩
    exact ⟨_, rfl, hΦ _ _ rfl (hC.trans hE2) hE2 trivial⟩
  subst hv
  go_simp; refine hK _ ?_; clear hK K
  iterate 1 (refine ftext_det rfl rfl ?_; apply Exists.intro; refine ⟨fun w hC => ?_, fun K hK => ?_⟩; (first | (go_simp; exact rfl) | (go_simp; exact ⟨rfl, rfl⟩)); go_simp; refine hK _ ?_; clear hK K)
  refine ftext_nil ?_
  rintro w3 hC _ _
  have hdc : w3.cell? ⟨b, 4, none⟩ = some (.int .u64 draw) := (HBX.out.ext hC).cell 4
  have HE3 := Lib.hid (HE1.out.trans hC)
  clear hC
  cases hd : drw k with
  | true =>
    have HR : Hid (stepL ⟨k, id, arg, extra, draw⟩ = LN ++ 32 :: Lib.decDigits draw) := Lib.hid (by unfold stepL; dsimp only; rw [HLN.out, if_pos hd, Int.toNat_natCast])
    have HNL : Hid ((Lib.decDigits draw).length ≤ 20) := Lib.hid (by rw [Lib.decDigits_length]; exact Lib.nDigits_le20 draw HDR.out)
    have a1 : ∀ W, (Op.stringOp .add ⟨#[32]⟩ ⟨(Lib.decDigits draw).toArray⟩).run Tryd.prog W = .ok (.string ⟨(32 :: Lib.decDigits draw).toArray⟩) W := fun W => run_string_add_lists W [32] (Lib.decDigits draw) (by simp) (by have := HNL.out; omega)
    have a2 : ∀ W, (Op.stringOp .add ⟨LN.toArray⟩ ⟨(32 :: Lib.decDigits draw).toArray⟩).run Tryd.prog W = .ok (.string ⟨(LN ++ 32 :: Lib.decDigits draw).toArray⟩) W := fun W => run_string_add_lists W _ _ (by have := HLL.out; omega) (by have := HNL.out; rw [List.length_cons]; omega)
    go_wp2_with (go_at_call 107; refine (fmt_uint draw HDR.out _ (HT.out.ext HE3.out)).mono ?_; rintro e w4 ⟨rfl, hE4⟩)
    go_ret
    exact ⟨by rw [HR.out] <;> rfl, HE3.out.trans hE4⟩
  | false =>
    have HR : Hid (stepL ⟨k, id, arg, extra, draw⟩ = LN) := Lib.hid (by unfold stepL; dsimp only; rw [HLN.out, if_neg (by rw [hd]; decide), List.append_nil])
    go_wp2_with fail
    go_ret
    exact ⟨by rw [HR.out] <;> rfl, HE3.out⟩
def encP (p : Addr) : List Value := [.pointer (some p)]
theorem elPtr : ElTy Tryd.prog 169 173 1 8 := ElTy.mk' (z := .pointer none) Tryd.underlying169 (by kernel_rfl) rfl (by decide)
/-- pointers to the values of a tale so far -/
def vptr (A : Option Addr) (j : Nat) : Addr := match A with
  | some a => ⟨a.block, a.off + j, none⟩
  | none => ⟨0, 0, none⟩
structure HeadI (w W : World) (b : Nat) (A : Option Addr) (k : Nat) (v : Value) : Prop where
  ext : Ext w W
  own : Go.Hx.Own W (w.heap.size + 1) 173 1 encP v ([⟨b, 0, none⟩, ⟨b, 1, none⟩, ⟨b, 2, none⟩, ⟨b, 3, none⟩] ++ (List.range k).map (vptr A))
set_option maxRecDepth 100000 in
set_option maxHeartbeats 2000000 in
theorem tale_head (x : XTale) (w : World) (hx : x.ok w w.heap.size) (hc : inI64 x.conf.nodes ∧ inI64 x.conf.len ∧ inI64 x.conf.patience ∧ inI64 x.conf.cap) (hv : ∀ v ∈ x.values.l, inI64 v) (hn : x.values.l.length ≤ 900) (hT : Pow w) :
    Calls Tryd.prog 59 #[.agg #[.int .i64 x.conf.nodes, .int .i64 x.conf.len, .int .i64 x.conf.patience, .int .i64 x.conf.cap, .slice x.values.A x.values.l.length x.values.c, .slice x.steps.A x.steps.l.length x.steps.c]] w fun e w' => e = .returned (.string ⟨(headL x.data).toArray⟩) ∧ Ext w w' := by
  have HSL := Lib.hid hx.values.1
  obtain ⟨cf, ⟨l, A, c⟩, ⟨sl0, sA, sc⟩⟩ := x
  have HC := Lib.hid hc
  have HV := Lib.hid hv
  have HT := Lib.hid hT
  have HN := Lib.hid hn
  clear hx hc hv hn hT
  dsimp only at *
  obtain ⟨sl, hsl⟩ : ∃ n, sl0.length = n := ⟨_, rfl⟩
  rw [hsl]
  clear hsl
  have HB0 : Hid (Blk (w.alloc (.cells #[.int .i64 cf.nodes, .int .i64 cf.len, .int .i64 cf.patience, .int .i64 cf.cap, .slice A l.length c, .slice sA sl sc] 64)) w.heap.size 64 [.int .i64 cf.nodes, .int .i64 cf.len, .int .i64 cf.patience, .int .i64 cf.cap, .slice A l.length c, .slice sA sl sc]) := Lib.hid (Blk.new rfl)
  have HB1 : Hid (Blk ((w.alloc (.cells #[.int .i64 cf.nodes, .int .i64 cf.len, .int .i64 cf.patience, .int .i64 cf.cap, .slice A l.length c, .slice sA sl sc] 64)).alloc (.cells #[.pointer (some ⟨w.heap.size, 0, none⟩), .pointer (some ⟨w.heap.size, 1, none⟩), .pointer (some ⟨w.heap.size, 2, none⟩), .pointer (some ⟨w.heap.size, 3, none⟩)] 173)) w.heap.size 64 [.int .i64 cf.nodes, .int .i64 cf.len, .int .i64 cf.patience, .int .i64 cf.cap, .slice A l.length c, .slice sA sl sc]) := Lib.hid (HB0.out.alloc _)
  have BP : Blk ((w.alloc (.cells #[.int .i64 cf.nodes, .int .i64 cf.len, .int .i64 cf.patience, .int .i64 cf.cap, .slice A l.length c, .slice sA sl sc] 64)).alloc (.cells #[.pointer (some ⟨w.heap.size, 0, none⟩), .pointer (some ⟨w.heap.size, 1, none⟩), .pointer (some ⟨w.heap.size, 2, none⟩), .pointer (some ⟨w.heap.size, 3, none⟩)] 173)) (w.heap.size + 1) 173 [.pointer (some ⟨w.heap.size, 0, none⟩), .pointer (some ⟨w.heap.size, 1, none⟩), .pointer (some ⟨w.heap.size, 2, none⟩), .pointer (some ⟨w.heap.size, 3, none⟩)] := Blk.new (by simp)
  have HI0 : Hid (HeadI w ((w.alloc (.cells #[.int .i64 cf.nodes, .int .i64 cf.len, .int .i64 cf.patience, .int .i64 cf.cap, .slice A l.length c, .slice sA sl sc] 64)).alloc (.cells #[.pointer (some ⟨w.heap.size, 0, none⟩), .pointer (some ⟨w.heap.size, 1, none⟩), .pointer (some ⟨w.heap.size, 2, none⟩), .pointer (some ⟨w.heap.size, 3, none⟩)] 173)) w.heap.size A 0 (.slice (some ⟨w.heap.size + 1, 0, none⟩) 4 4)) := Lib.hid ⟨Ext.alloc' (Ext.alloc _ _) _, Own.of_blk (size := 1) (enc := encP) (c := 4) (l := [(⟨w.heap.size, 0, none⟩ : Addr), ⟨w.heap.size, 1, none⟩, ⟨w.heap.size, 2, none⟩, ⟨w.heap.size, 3, none⟩]) (fun _ => rfl) BP (Nat.le_refl _) (Nat.le_refl _) (by unfold maxLen; decide) rfl rfl⟩
  clear HB0 BP
  go_enter Tryd.func59, Tryd.ntmps59
  have hcv0 : ((w.alloc (.cells #[.int .i64 cf.nodes, .int .i64 cf.len, .int .i64 cf.patience, .int .i64 cf.cap, .slice A l.length c, .slice sA sl sc] 64)).alloc (.cells #[.pointer (some ⟨w.heap.size, 0, none⟩), .pointer (some ⟨w.heap.size, 1, none⟩), .pointer (some ⟨w.heap.size, 2, none⟩), .pointer (some ⟨w.heap.size, 3, none⟩)] 173)).cell? ⟨w.heap.size, 4, none⟩ = some (.slice A l.length c) := HB1.out.cell 4
  go_wp2_with fail
  clear hcv0
  go_loopw [3, 17] (fun v i W => ∃ (k : Nat), k ≤ l.length ∧ i = .int .i64 k ∧ Hid (HeadI w W w.heap.size A k v ∧ Blk W w.heap.size 64 [.int .i64 cf.nodes, .int .i64 cf.len, .int .i64 cf.patience, .int .i64 cf.cap, .slice A l.length c, .slice sA sl sc])) (fun _ i _ => l.length - (intOf i).toNat)
  case atStart => exact ⟨0, by omega, rfl, Lib.hid ⟨HI0.out, HB1.out⟩⟩
  case round =>
    obtain ⟨k, hk, rfl, HI⟩ := hrel
    clear HI0 HB1
    obtain ⟨A0, c0, rfl, hok0⟩ := HI.out.1.own.form
    clear hok0
    have HOW := Lib.hid HI.out.1.own
    have HEW := Lib.hid HI.out.1.ext
    have HBW := Lib.hid HI.out.2
    have HPL : Hid (([(⟨w.heap.size, 0, none⟩ : Addr), ⟨w.heap.size, 1, none⟩, ⟨w.heap.size, 2, none⟩, ⟨w.heap.size, 3, none⟩] ++ (List.range k).map (vptr A)).length = 4 + k) := Lib.hid (by rw [List.length_append, List.length_map, List.length_range]; rfl)
    obtain ⟨ps, hps⟩ : ∃ ps, [(⟨w.heap.size, 0, none⟩ : Addr), ⟨w.heap.size, 1, none⟩, ⟨w.heap.size, 2, none⟩, ⟨w.heap.size, 3, none⟩] ++ (List.range k).map (vptr A) = ps := ⟨_, rfl⟩
    rw [hps] at HOW HPL ⊢
    have HPS := Lib.hid hps
    clear hps HI
    have hcv : wr.cell? ⟨w.heap.size, 4, none⟩ = some (.slice A l.length c) := HBW.out.cell 4
    by_cases hlt : k < l.length
    · obtain ⟨z, hz⟩ : ∃ z, l[k]? = some z := ⟨_, List.getElem?_eq_getElem hlt⟩
      obtain ⟨b1, o1, rfl, hb1, hrow⟩ := Sl.row (size := 1) (fun _ => rfl) HSL.out hz
      have hki : (k : Int) < (l.length : Int) := by omega
      have hk9 : k < 900 := by have := HN.out; omega
      clear hz hb1 hrow
      go_wp2_with (at_builtin; go_must (refine app_one elPtr rfl (.tmp 20) (.tmp 25) rfl wr (w.heap.size + 1) encP _ ps (⟨b1, o1 + k, none⟩ : Addr) rfl HOW.out _ 1 rfl (by simp) rfl rfl (by have := HPL.out; omega) (by have := HPL.out; unfold maxLen; omega) (by have := HBW.out.lt; omega) ?_); intro v' w4 hown' hgrow hat)
      have HI2 : Hid (HeadI w w4 w.heap.size (some ⟨b1, o1, none⟩) (k + 1) v' ∧ Blk w4 w.heap.size 64 [.int .i64 cf.nodes, .int .i64 cf.len, .int .i64 cf.patience, .int .i64 cf.cap, .slice (some ⟨b1, o1, none⟩) l.length c, .slice sA sl sc]) := Lib.hid ⟨⟨Own.below (Own.lower HOW.out (Nat.le_succ _)) HEW.out hgrow (Nat.le_refl _) HEW.out.size, by
        rw [List.range_succ, List.map_append, ← List.append_assoc, HPS.out]; exact hown'⟩, (hgrow.block _ HBW.out.lt (fun e => by have := Own.below_block HOW.out _ e.symm; omega)).trans HBW.out⟩
      clear hown' hgrow hat
      go_roundw
      case rel => exact ⟨k + 1, by omega, by go_num, HI2⟩
      case measure => simp [intOf]; omega
    · have hki : ¬ (k : Int) < (l.length : Int) := by omega
      have hkl : k = l.length := by omega
      obtain ⟨g, rfl⟩ := Own.place (k := 0) (by have := HPL.out; omega) HOW.out
      have HPT : Hid (PtrI wr g ps ([cf.nodes, cf.len, cf.patience, cf.cap] ++ l)) := Lib.hid (by
        obtain ⟨cur, hcur, _, _, _, _, ht⟩ := Own.blk HOW.out
        refine ⟨by rw [HPL.out, hkl]; simp; omega, fun j p hp => ?_, fun j p v hp hv => ?_⟩
        · have hj := (List.getElem?_eq_some_iff.1 hp).1
          rw [hcur.cell j]
          have h1 := flatMap_get (enc := encP) (size := 1) (fun _ => rfl) ps j p 0 _ hp rfl
          rw [← ht, Nat.mul_one, Nat.add_zero, Nat.mul_one, List.getElem?_take_of_lt hj] at h1
          exact h1
        · rw [← HPS.out] at hp
          match j, hp, hv with
          | 0, hp, hv => cases hp; cases hv; exact HBW.out.cell 0
          | 1, hp, hv => cases hp; cases hv; exact HBW.out.cell 1
          | 2, hp, hv => cases hp; cases hv; exact HBW.out.cell 2
          | 3, hp, hv => cases hp; cases hv; exact HBW.out.cell 3
          | j + 4, hp, hv =>
            have hv' : l[j]? = some v := hv
            have hp' : ((List.range k).map (vptr A))[j]? = some p := hp
            rw [List.getElem?_map, List.getElem?_range (by have := (List.getElem?_eq_some_iff.1 hv').1; omega)] at hp'
            obtain ⟨b1, o1, rfl, hb1, hrow⟩ := Sl.row (size := 1) (fun _ => rfl) HSL.out hv'
            cases hp'
            have := hrow.below HEW.out.below hb1 0 _ rfl
            simpa [vptr] using this)
      have HLN : Hid (ps.length = ([cf.nodes, cf.len, cf.patience, cf.cap] ++ l).length) := Lib.hid (by rw [HPL.out, hkl]; simp; omega)
      have HVI : Hid (∀ v ∈ [cf.nodes, cf.len, cf.patience, cf.cap] ++ l, inI64 v) := Lib.hid fun v hv => by
        rcases List.mem_append.1 hv with hv | hv
        · simp only [List.mem_cons, List.not_mem_nil, or_false] at hv
          rcases hv with rfl | rfl | rfl | rfl
          · exact HC.out.1
          · exact HC.out.2.1
          · exact HC.out.2.2.1
          · exact HC.out.2.2.2
        · exact HV.out v hv
      clear hkl
      go_wp2_with fail
      rw [HLN.out]
      refine (tale_line [119, 111, 114, 108, 100] g _ ps _ _ HPT.out HVI.out (by simp) (by simp; have := HN.out; omega) (HT.out.ext HEW.out)).mono ?_
      rintro e w2 ⟨rfl, hE2⟩
      go_wp2_with fail
      go_ret
      exact ⟨rfl, HEW.out.trans hE2⟩
end Go.Proofs.YtgcbnagfdfgpnaaDoor
end
section
namespace Go.Proofs.YtgcbnagfdfgpnaaDoor
open Go.RowKit Go.Hx
theorem aggConf : AggTy Tryd.prog 60 4 := ⟨⟨_, Tryd.underlying60, rfl⟩, by kernel_rfl⟩
theorem aggStep : AggTy Tryd.prog 115 5 := ⟨⟨_, Tryd.underlying115, rfl⟩, by kernel_rfl⟩
theorem stoodStep : Tryd.prog.stoodInHeld 115 = false := by kernel_rfl
theorem underStep : Tryd.prog.underlying 115 = some (.struct (Tryd.prog.fieldsOf 115)) := by kernel_rfl
theorem eqAsStep (w : World) (x y : PStep) : (Op.equalIn 10000 115 (.agg #[.int .u8 x.op, .int .i64 x.id, .int .i64 x.arg, .int .i64 x.extra, .int .u64 x.draw]) (.agg #[.int .u8 y.op, .int .i64 y.id, .int .i64 y.arg, .int .i64 y.extra, .int .u64 y.draw])).run Tryd.prog w = .ok (decide (x = y)) w := by
  rw [show (10000 : Nat) = 9999 + 1 from rfl, run_equalIn_struct w 9999 115 _ _ underStep stoodStep]
  simp only [Program.fieldsOf, Tryd.underlying115]
  simp [go_sem, Tryd.underlying3, Tryd.underlying113, Tryd.underlying5]
  obtain ⟨x0, x1, x2, x3, x4⟩ := x
  obtain ⟨y0, y1, y2, y3, y4⟩ := y
  simp only [PStep.mk.injEq]
  repeat' split
  all_goals simp_all
theorem neqStep (w : World) (x y : PStep) : (binOp .neq 115 (.agg #[.int .u8 x.op, .int .i64 x.id, .int .i64 x.arg, .int .i64 x.extra, .int .u64 x.draw]) (.agg #[.int .u8 y.op, .int .i64 y.id, .int .i64 y.arg, .int .i64 y.extra, .int .u64 y.draw])).run Tryd.prog w = .ok (.bool (!decide (x = y))) w := by
  rw [run_neq_struct, eqAsStep]; rfl
theorem eqlStep (w : World) (x y : PStep) : (binOp .eql 115 (.agg #[.int .u8 x.op, .int .i64 x.id, .int .i64 x.arg, .int .i64 x.extra, .int .u64 x.draw]) (.agg #[.int .u8 y.op, .int .i64 y.id, .int .i64 y.arg, .int .i64 y.extra, .int .u64 y.draw])).run Tryd.prog w = .ok (.bool (decide (x = y))) w := by
  rw [run_eql_struct, eqAsStep]; rfl

theorem blkI_ok {W : World} {g : Nat} {l : List Int} (hB : Blk W g 3 (l.map fun x => Value.int .i64 x)) (hl : l.length ≤ 1000) : (⟨l, some ⟨g, 0, none⟩, l.length⟩ : LX Int).ok W W.heap.size cInt := by
  have e : l.flatMap cInt = l.map fun x => Value.int .i64 x := by
    clear hB hl
    induction l with
    | nil => rfl
    | cons x l ih => rw [List.flatMap_cons, List.map_cons, ih]; rfl
  exact ⟨.inr ⟨g, 0, rfl, hB.lt, by rw [e]; exact hB.row⟩, Nat.le_refl _, by show l.length ≤ maxLen; unfold maxLen; omega⟩
/-- the cells of a step of which some numbers are 0 -/
def zerC (z : PStep) (j : Nat) : List Value := ((offs z.op).take j).foldl (fun cs k => cs.set k (.int .i64 0)) z.cells
structure ZerI (w W : World) (b5 b6 g : Nat) (z : PStep) (j : Nat) : Prop where
  ext : Ext w W
  c5 : Blk W b5 115 [.int .u8 z.op, .int .i64 z.id, .int .i64 z.arg, .int .i64 z.extra, .int .u64 z.draw]
  c6 : Blk W b6 115 (zerC z j)
  ptr : Blk W g 173 (ptrs b6 (offs z.op))
  gb : b6 < g
  lt : b5 < b6 ∧ w.heap.size ≤ b6
theorem zerC_len (z : PStep) (j : Nat) : (zerC z j).length = 5 := by
  unfold zerC
  have : ∀ (l : List Nat) (cs : List Value), (l.foldl (fun cs k => cs.set k (.int .i64 0)) cs).length = cs.length := fun l => by
    induction l with
    | nil => intro cs; rfl
    | cons k l ih => intro cs; rw [List.foldl_cons, ih, List.length_set]
  rw [this]; rfl
theorem ZerI.cell {w W : World} {b5 b6 g j o : Nat} {z : PStep} (h : ZerI w W b5 b6 g z j) (ho : (offs z.op)[j]? = some o) : ∃ u, W.cell? ⟨b6, o, none⟩ = some u := by
  have ho5 : o < (zerC z j).length := by
    rw [zerC_len]
    rcases offs_mem (List.mem_of_getElem? ho) with rfl | rfl | rfl <;> decide
  exact ⟨_, by rw [h.c6.cell o, List.getElem?_eq_getElem ho5]⟩
theorem ZerI.set {w W : World} {b5 b6 g j o : Nat} {z : PStep} (h : ZerI w W b5 b6 g z j) (ho : (offs z.op)[j]? = some o) : ZerI w (W.setCell ⟨b6, o, none⟩ (.int .i64 0)) b5 b6 g z (j + 1) := by
  have hb := h.gb
  have hl := h.lt
  refine ⟨h.ext.setCell' (by show w.heap.size ≤ b6; omega) _, h.c5.far (by show b5 ≠ b6; omega) _, ?_, h.ptr.far (by show g ≠ b6; omega) _, hb, hl⟩
  have e : zerC z (j + 1) = (zerC z j).set o (.int .i64 0) := by unfold zerC; rw [take_snoc ho, List.foldl_append]; rfl
  rw [e]
  exact h.c6.set o _
theorem zerC_rest (z : PStep) : (if drw z.op = true then (zerC z (offs z.op).length).set 4 (.int .u64 0) else zerC z (offs z.op).length) = [.int .u8 (restS z).op, .int .i64 (restS z).id, .int .i64 (restS z).arg, .int .i64 (restS z).extra, .int .u64 (restS z).draw] := by
  unfold zerC
  rw [List.take_length]
  have ho : offs z.op = [1] ∨ offs z.op = [2] ∨ offs z.op = [2, 3] ∨ offs z.op = [1, 2, 3] := by
    unfold offs
    split
    · exact .inl rfl
    · split
      · exact .inl rfl
      · split
        · exact .inr (.inl rfl)
        · split
          · exact .inr (.inr (.inl rfl))
          · exact .inr (.inr (.inr rfl))
  unfold restS
  dsimp only
  rcases ho with h | h | h | h <;> rw [h] <;> cases drw z.op <;> rfl
theorem ZerI.done {w W : World} {b5 b6 g j : Nat} {z : PStep} (h : ZerI w W b5 b6 g z j) (hj : (offs z.op).length ≤ j) : ZerI w W b5 b6 g z (offs z.op).length := by
  have e : zerC z j = zerC z (offs z.op).length := by unfold zerC; rw [List.take_of_length_le hj, List.take_length]
  exact ⟨h.ext, h.c5, e ▸ h.c6, h.ptr, h.gb, h.lt⟩
attribute [local go_sem] PStep.cells XTale.cells detUpon undIn
set_option maxRecDepth 100000 in
set_option maxHeartbeats 2000000 in
theorem tale_may (x : XTale) (w : World) (hx : x.ok w w.heap.size) (hw : x.data.wf) :
    Calls Tryd.prog 57 #[.agg #[.int .i64 x.conf.nodes, .int .i64 x.conf.len, .int .i64 x.conf.patience, .int .i64 x.conf.cap, .slice x.values.A x.values.l.length x.values.c, .slice x.steps.A x.steps.l.length x.steps.c]] w fun e w' => e = .returned (.bool (mayT x.data)) ∧ Ext w w' := by
  obtain ⟨cf, ⟨l, A, c⟩, ⟨sl, sA, sc⟩⟩ := x
  have HV := Lib.hid hx.values
  have HS := Lib.hid hx.steps.1
  clear hx hw
  dsimp only at *
  have HB0 : Hid (Blk (w.alloc (.cells #[.int .i64 cf.nodes, .int .i64 cf.len, .int .i64 cf.patience, .int .i64 cf.cap, .slice A l.length c, .slice sA sl.length sc] 64)) w.heap.size 64 [.int .i64 cf.nodes, .int .i64 cf.len, .int .i64 cf.patience, .int .i64 cf.cap, .slice A l.length c, .slice sA sl.length sc]) := Lib.hid (Blk.new rfl)
  have hrow0 : RowAt (w.alloc (.cells #[.int .i64 cf.nodes, .int .i64 cf.len, .int .i64 cf.patience, .int .i64 cf.cap, .slice A l.length c, .slice sA sl.length sc] 64)) w.heap.size 0 [.int .i64 cf.nodes, .int .i64 cf.len, .int .i64 cf.patience, .int .i64 cf.cap] := HB0.out.part 0 4
  go_enter Tryd.func57, Tryd.ntmps57
  go_wp2_with (first | ((with_reducible refine wpl_load 60 (.tmp 11) ?_ ?_ (w.heap.size) 0 [.int .i64 cf.nodes, .int .i64 cf.len, .int .i64 cf.patience, .int .i64 cf.cap] ?_ ?_ ?_ ?_); (exact rfl); (exact rfl); (exact rfl); (exact aggConf); (exact hrow0)) | fail)
  refine calls_nm fun W0 hW => ?_
  have HBT : Hid (Blk W0 w.heap.size 64 [.int .i64 cf.nodes, .int .i64 cf.len, .int .i64 cf.patience, .int .i64 cf.cap, .slice A l.length c, .slice sA sl.length sc]) := Lib.hid (by rw [hW]; exact (HB0.out.alloc _).alloc _)
  have HBL : Hid (Blk W0 (w.heap.size + 2) 3 [.int .i64 cf.nodes, .int .i64 cf.len, .int .i64 cf.patience, .int .i64 cf.cap]) := Lib.hid (by rw [hW]; exact Blk.new (by simp))
  have HE0 : Hid (Ext w W0) := Lib.hid (by rw [hW]; exact Ext.alloc' (Ext.alloc' (Ext.alloc _ _) _) _)
  clear hW HB0 hrow0
  obtain ⟨mt, hmt⟩ : ∃ m, mayT (⟨cf, l, sl⟩ : PTale) = m := ⟨_, rfl⟩
  have HMT : Hid (mayT (XTale.data ⟨cf, ⟨l, A, c⟩, ⟨sl, sA, sc⟩⟩) = mt) := Lib.hid hmt
  have HM2 := Lib.hid hmt
  clear hmt
  refine (tale_small ⟨[cf.nodes, cf.len, cf.patience, cf.cap], some ⟨w.heap.size + 2, 0, none⟩, 4⟩ _ (blkI_ok HBL.out (by simp))).mono ?_
  dsimp only
  have hcv : ∀ W, Ext W0 W → W.cell? ⟨w.heap.size, 4, none⟩ = some (.slice A l.length c) := fun W hW => (HBT.out.ext hW).cell 4
  have hcs : ∀ W, Ext W0 W → W.cell? ⟨w.heap.size, 5, none⟩ = some (.slice sA sl.length sc) := fun W hW => (HBT.out.ext hW).cell 5
  have HCV := Lib.hid hcv
  have HCS := Lib.hid hcs
  clear hcv hcs
  cases h1 : [cf.nodes, cf.len, cf.patience, cf.cap].all smallB with
  | false =>
    have HR : Hid (mt = false) := Lib.hid (by rw [← HM2.out]; unfold mayT; dsimp only; simp only [List.all_cons, List.all_nil, Bool.and_true, ← Bool.and_assoc] at h1; rw [h1]; rfl)
    clear h1
    rintro e w1 ⟨rfl, hE1⟩
    have HEX := Lib.hid (HE0.out.trans hE1)
    go_wp2_with fail
    go_ret
    exact ⟨by rw [HMT.out, HR.out] <;> rfl, HEX.out⟩
  | true =>
  have H1 := Lib.hid h1
  clear h1
  rintro e w1 ⟨rfl, hE1⟩
  have HE1 := Lib.hid (HE0.out.trans hE1)
  have hc1 := HCV.out w1 hE1
  have HF1 := Lib.hid hE1
  clear hE1
  go_wp2_with fail
  refine (tale_small ⟨l, A, c⟩ _ (HV.out.ext HE1.out)).mono ?_
  dsimp only
  clear hc1
  cases h2 : l.all smallB with
  | false =>
    have HR : Hid (mt = false) := Lib.hid (by rw [← HM2.out]; unfold mayT; dsimp only; rw [h2]; simp)
    clear h2
    rintro e w2 ⟨rfl, hE2⟩
    have HEX := Lib.hid (HE1.out.trans hE2)
    go_wp2_with fail
    go_ret
    exact ⟨by rw [HMT.out, HR.out] <;> rfl, HEX.out⟩
  | true =>
  have H2 := Lib.hid h2
  clear h2
  rintro e w2 ⟨rfl, hE2⟩
  have HE2 := Lib.hid (HE1.out.trans hE2)
  have HF2 := Lib.hid (HF1.out.trans hE2)
  have hc1 := HCV.out w2 HF2.out
  have hc2 := HCS.out w2 HF2.out
  clear hE2 HF1
  by_cases h3 : (100 : Int) < (l.length : Int)
  · have HR : Hid (mt = false) := Lib.hid (by rw [← HM2.out]; unfold mayT; dsimp only; rw [decide_eq_false (by omega)]; simp)
    go_wp2_with fail
    go_ret
    exact ⟨by rw [HMT.out, HR.out] <;> rfl, HE2.out⟩
  by_cases h4 : (512 : Int) < (sl.length : Int)
  · have HR : Hid (mt = false) := Lib.hid (by rw [← HM2.out]; unfold mayT; dsimp only; rw [decide_eq_false (by omega)]; simp)
    go_wp2_with fail
    go_ret
    exact ⟨by rw [HMT.out, HR.out] <;> rfl, HE2.out⟩
  have HSN : Hid (sl.length ≤ 512) := Lib.hid (by omega)
  have HMS : Hid (mt = sl.all mayS) := Lib.hid (by
    rw [← HM2.out]; unfold mayT; dsimp only
    have h1 := H1.out
    simp only [List.all_cons, List.all_nil, Bool.and_true, ← Bool.and_assoc] at h1
    rw [h1, H2.out, decide_eq_true ⟨by omega, by omega⟩]; rfl)
  go_wp2_with fail
  clear hc1 hc2 h3 h4
  go_loopw [45] (fun i W => ∃ (k : Nat), k ≤ sl.length ∧ i = .int .i64 k ∧ Hid (Ext w W ∧ (sl.take k).all mayS = true)) (fun i _ => sl.length - (intOf i).toNat)
  case atStart => exact ⟨0, by omega, rfl, Lib.hid ⟨HE2.out, rfl⟩⟩
  case round =>
    obtain ⟨k, hk, rfl, HI⟩ := hrel
    clear HE2 HF2 HE1 HE0
    have HEX := Lib.hid HI.out.1
    by_cases hlt : k < sl.length
    · obtain ⟨z, hz⟩ : ∃ z, sl[k]? = some z := ⟨_, List.getElem?_eq_getElem hlt⟩
      have HZ := Lib.hid hz
      have HZM := Lib.hid (List.mem_of_getElem? hz)
      obtain ⟨b1, o1, rfl, hb1, hrow⟩ := Sl.row (size := 5) (fun _ => rfl) HS.out hz
      have HRZ : Hid (RowAt wr b1 (o1 + k * 5) [.int .u8 z.op, .int .i64 z.id, .int .i64 z.arg, .int .i64 z.extra, .int .u64 z.draw]) := Lib.hid (hrow.below HEX.out.below hb1)
      have hki : (k : Int) < (sl.length : Int) := by omega
      have hk5 : k < 512 := by have := HSN.out; omega
      have HNO : ∀ z ∈ sl, mayS z = false → Hid (mt = false) := fun z hz h => Lib.hid (by rw [HMS.out, List.all_eq_false]; exact ⟨z, hz, by rw [h]; decide⟩)
      have HB5 : Hid (Blk (wr.alloc (.cells #[.int .u8 z.op, .int .i64 z.id, .int .i64 z.arg, .int .i64 z.extra, .int .u64 z.draw] 115)) wr.heap.size 115 [.int .u8 z.op, .int .i64 z.id, .int .i64 z.arg, .int .i64 z.extra, .int .u64 z.draw]) := Lib.hid (Blk.new rfl)
      clear hz hb1 hrow
      by_cases o1' : z.op < 1
      · have HR := HNO z HZM.out (by unfold mayS; rw [decide_eq_false (by omega)]; rfl)
        clear HNO
        go_wp2_with (first | ((with_reducible refine wpl_load 115 (.tmp 47) ?_ ?_ (b1) (o1 + k * 5) [.int .u8 z.op, .int .i64 z.id, .int .i64 z.arg, .int .i64 z.extra, .int .u64 z.draw] ?_ ?_ ?_ ?_); (exact rfl); (exact rfl); (exact rfl); (exact aggStep); (exact HRZ.out)) | fail)
        go_ret
        exact ⟨by rw [HMT.out, HR.out] <;> rfl, HEX.out.trans (Ext.alloc _ _)⟩
      by_cases o2' : (12 : Int) < z.op
      · have HR := HNO z HZM.out (by unfold mayS; rw [decide_eq_false (by omega)]; rfl)
        clear HNO
        go_wp2_with (first | ((with_reducible refine wpl_load 115 (.tmp 47) ?_ ?_ (b1) (o1 + k * 5) [.int .u8 z.op, .int .i64 z.id, .int .i64 z.arg, .int .i64 z.extra, .int .u64 z.draw] ?_ ?_ ?_ ?_); (exact rfl); (exact rfl); (exact rfl); (exact aggStep); (exact HRZ.out)) | fail)
        go_ret
        exact ⟨by rw [HMT.out, HR.out] <;> rfl, HEX.out.trans (Ext.alloc _ _)⟩
      have HOP : Hid (1 ≤ z.op ∧ z.op ≤ 12) := Lib.hid ⟨by omega, by omega⟩
      go_wp2_with (first | ((with_reducible refine wpl_load 115 (.tmp 47) ?_ ?_ (b1) (o1 + k * 5) [.int .u8 z.op, .int .i64 z.id, .int .i64 z.arg, .int .i64 z.extra, .int .u64 z.draw] ?_ ?_ ?_ ?_); (exact rfl); (exact rfl); (exact rfl); (exact aggStep); (exact HRZ.out)) | fail)
      clear o1' o2'
      refine calls_nm fun W1 hW => ?_
      have HB5 : Hid (Blk W1 wr.heap.size 115 [.int .u8 z.op, .int .i64 z.id, .int .i64 z.arg, .int .i64 z.extra, .int .u64 z.draw]) := Lib.hid (by rw [hW]; exact HB5.out.alloc _)
      have HBL : Hid (Blk W1 (wr.heap.size + 1) 3 [.int .i64 z.id, .int .i64 z.arg, .int .i64 z.extra]) := Lib.hid (by rw [hW]; exact Blk.new (by simp))
      have HW1 : Hid (Ext wr W1) := Lib.hid (by rw [hW]; exact Ext.alloc' (Ext.alloc _ _) _)
      clear hW
      obtain ⟨b5, hb5⟩ : ∃ b, wr.heap.size = b := ⟨_, rfl⟩
      rw [hb5] at HB5 HBL ⊢
      clear hb5
      refine (tale_small ⟨[z.id, z.arg, z.extra], some ⟨b5 + 1, 0, none⟩, 3⟩ _ (blkI_ok HBL.out (by simp))).mono ?_
      dsimp only
      cases h5 : [z.id, z.arg, z.extra].all smallB with
      | false =>
        have HR := HNO z HZM.out (by
          simp only [List.all_cons, List.all_nil, Bool.and_true, ← Bool.and_assoc] at h5
          unfold mayS; rw [h5]; simp)
        clear h5 HNO
        rintro e w2 ⟨rfl, hE2⟩
        have HEZ := Lib.hid (HEX.out.trans (HW1.out.trans hE2))
        go_wp2_with fail
        go_ret
        exact ⟨by rw [HMT.out, HR.out] <;> rfl, HEZ.out⟩
      | true =>
      have H5 := Lib.hid h5
      clear h5
      rintro e w2 ⟨rfl, hE2⟩
      replace HB5 := Lib.hid (HB5.out.ext hE2)
      have HE2 := Lib.hid (HEX.out.trans (HW1.out.trans hE2))
      have HL5 : Hid (b5 < w2.heap.size) := Lib.hid HB5.out.lt
      have hr5 : RowAt w2 b5 0 [.int .u8 z.op, .int .i64 z.id, .int .i64 z.arg, .int .i64 z.extra, .int .u64 z.draw] := HB5.out.row
      clear hE2 HBL HW1 HRZ
      go_wp2_with (first | ((with_reducible refine wpl_load 115 (.tmp 5) ?_ ?_ (b5) 0 [.int .u8 z.op, .int .i64 z.id, .int .i64 z.arg, .int .i64 z.extra, .int .u64 z.draw] ?_ ?_ ?_ ?_); (exact rfl); (exact rfl); (exact rfl); (exact aggStep); (exact hr5)) | fail)
      clear hr5
      refine calls_nm fun W3 hW => ?_
      have HB6 : Hid (Blk W3 w2.heap.size 115 [.int .u8 z.op, .int .i64 z.id, .int .i64 z.arg, .int .i64 z.extra, .int .u64 z.draw]) := Lib.hid (by rw [hW]; exact Blk.new rfl)
      replace HB5 : Hid (Blk W3 b5 115 [.int .u8 z.op, .int .i64 z.id, .int .i64 z.arg, .int .i64 z.extra, .int .u64 z.draw]) := Lib.hid (by rw [hW]; exact HB5.out.alloc _)
      have HE3 : Hid (Ext w W3) := Lib.hid (by rw [hW]; exact HE2.out.trans (Ext.alloc _ _))
      have HLT : Hid (b5 < w2.heap.size ∧ w.heap.size ≤ w2.heap.size) := Lib.hid ⟨HL5.out, HE2.out.size⟩
      clear hW HE2
      obtain ⟨b6, hb6⟩ : ∃ b, w2.heap.size = b := ⟨_, rfl⟩
      rw [hb6] at HB6 HLT ⊢
      clear hb6
      refine (tale_numbers b6 z _ HB6.out).mono ?_
      rintro e w4 ⟨g, n, rfl, hN⟩
      have HZ0 : Hid (ZerI w w4 b5 b6 g z 0) := Lib.hid ⟨HE3.out.trans hN.ext, HB5.out.ext hN.ext, HB6.out.ext hN.ext, hN.blk, by have := hN.low; have := HB6.out.lt; omega, HLT.out⟩
      have HNN := Lib.hid hN.len
      clear hN HB5 HB6 HE3
      go_wp2_with fail
      go_loopw [75] (fun i W => ∃ (j : Nat), j ≤ n ∧ i = .int .i64 j ∧ Hid (ZerI w W b5 b6 g z j)) (fun i _ => n - (intOf i).toNat)
      case atStart => exact ⟨0, by omega, rfl, HZ0⟩
      case round =>
        obtain ⟨j, hj, rfl, HZ⟩ := hrel
        clear HZ0
        have hn3 : n ≤ 3 := by rw [HNN.out]; exact offs_len _
        by_cases hltj : j < n
        · obtain ⟨o, ho⟩ : ∃ o, (offs z.op)[j]? = some o := ⟨_, List.getElem?_eq_getElem (by rw [← HNN.out]; exact hltj)⟩
          have hcp : wr.cell? ⟨g, j, none⟩ = some (.pointer (some ⟨b6, o, none⟩)) := by
            rw [HZ.out.ptr.cell j]; unfold ptrs; rw [List.getElem?_map, ho]; rfl
          obtain ⟨u, hu⟩ := HZ.out.cell ho
          have hfz : wr.frozen? ⟨b6, o, none⟩ = false := HZ.out.c6.free o
          have HZ2 := Lib.hid (HZ.out.set ho)
          have hji : (j : Int) < (n : Int) := by omega
          clear ho
          go_wp2_with fail
          go_roundw
          case rel => exact ⟨j + 1, by omega, by go_num, HZ2⟩
          case measure => simp [intOf]; omega
        · have hji : ¬ (j : Int) < (n : Int) := by omega
          have HZN := Lib.hid (HZ.out.done (by have := HNN.out; omega))
          clear HZ HNN
          have hop5 : wr.cell? ⟨b5, 0, none⟩ = some (.int .u8 z.op) := HZN.out.c5.cell 0
          have hlt6 := HZN.out.lt
          obtain ⟨bq, hbq⟩ : ∃ v, decide (restS z = ⟨z.op, 0, 0, 0, 0⟩) = v := ⟨_, rfl⟩
          have heq : ∀ W, (Op.equalIn 10000 115 (.agg #[.int .u8 (restS z).op, .int .i64 (restS z).id, .int .i64 (restS z).arg, .int .i64 (restS z).extra, .int .u64 (restS z).draw]) (.agg #[.int .u8 z.op, .int .i64 0, .int .i64 0, .int .i64 0, .int .u64 0])).run Tryd.prog W = .ok bq W := fun W => by rw [← hbq]; exact eqAsStep W (restS z) ⟨z.op, 0, 0, 0, 0⟩
          have HEF : Hid (Ext w wr) := Lib.hid HZN.out.ext
          have HMZ : Hid (mayS z = bq) := Lib.hid (by
            have h5 := H5.out
            simp only [List.all_cons, List.all_nil, Bool.and_true, ← Bool.and_assoc] at h5
            unfold mayS
            rw [decide_eq_true HOP.out, h5, hbq]; rfl)
          have HK2 : bq = true → Hid ((sl.take (k + 1)).all mayS = true) := fun hb => Lib.hid (by rw [take_snoc HZ.out, List.all_append, HI.out.2]; simp [HMZ.out, hb])
          have HKN : bq = false → Hid (mt = false) := fun hb => HNO z HZM.out (HMZ.out.trans hb)
          clear hbq HNO HI
          cases hd : drw z.op with
          | true =>
            have hc4 : ∃ u, wr.cell? ⟨b6, 4, none⟩ = some u := ⟨_, by rw [HZN.out.c6.cell 4, List.getElem?_eq_getElem (by rw [zerC_len]; decide)]⟩
            obtain ⟨u4, hc4⟩ := hc4
            have hf4 : wr.frozen? ⟨b6, 4, none⟩ = false := HZN.out.c6.free 4
            have hr6 : RowAt (wr.setCell ⟨b6, 4, none⟩ (.int .u64 0)) b6 0 [.int .u8 (restS z).op, .int .i64 (restS z).id, .int .i64 (restS z).arg, .int .i64 (restS z).extra, .int .u64 (restS z).draw] := by
              have h1 := zerC_rest z
              rw [if_pos hd] at h1
              have h2 := (HZN.out.c6.set 4 (.int .u64 0)).row
              rwa [h1] at h2
            have hop6 : (wr.setCell ⟨b6, 4, none⟩ (.int .u64 0)).cell? ⟨b5, 0, none⟩ = some (.int .u8 z.op) := (HZN.out.c5.far (by show b5 ≠ b6; omega) _).cell 0
            have HEF2 : Hid (Ext w (wr.setCell ⟨b6, 4, none⟩ (.int .u64 0))) := Lib.hid (HEF.out.setCell' (by show w.heap.size ≤ b6; omega) _)
            clear HZN hlt6
            cases hb : bq with
            | true =>
              have HK3 := HK2 hb
              rw [hb] at heq
              clear HK2 HKN hb
              go_wp2_with (first | ((with_reducible refine wpl_load 115 (.tmp 6) ?_ ?_ (b6) 0 [.int .u8 (restS z).op, .int .i64 (restS z).id, .int .i64 (restS z).arg, .int .i64 (restS z).extra, .int .u64 (restS z).draw] ?_ ?_ ?_ ?_); (exact rfl); (exact rfl); (exact rfl); (exact aggStep); (exact hr6)) | fail)
              go_roundw
              case rel => exact ⟨k + 1, by omega, by go_num, Lib.hid ⟨HEF2.out, HK3.out⟩⟩
              case measure => simp [intOf]; omega
            | false =>
              have HR := HKN hb
              rw [hb] at heq
              clear HK2 HKN hb
              go_wp2_with (first | ((with_reducible refine wpl_load 115 (.tmp 6) ?_ ?_ (b6) 0 [.int .u8 (restS z).op, .int .i64 (restS z).id, .int .i64 (restS z).arg, .int .i64 (restS z).extra, .int .u64 (restS z).draw] ?_ ?_ ?_ ?_); (exact rfl); (exact rfl); (exact rfl); (exact aggStep); (exact hr6)) | fail)
              go_ret
              exact ⟨by rw [HMT.out, HR.out] <;> rfl, HEF2.out⟩
          | false =>
            have hr6 : RowAt wr b6 0 [.int .u8 (restS z).op, .int .i64 (restS z).id, .int .i64 (restS z).arg, .int .i64 (restS z).extra, .int .u64 (restS z).draw] := by
              have h1 := zerC_rest z
              rw [if_neg (by rw [hd]; decide)] at h1
              have h2 := HZN.out.c6.row
              rwa [h1] at h2
            clear HZN hlt6
            cases hb : bq with
            | true =>
              have HK3 := HK2 hb
              rw [hb] at heq
              clear HK2 HKN hb
              go_wp2_with (first | ((with_reducible refine wpl_load 115 (.tmp 6) ?_ ?_ (b6) 0 [.int .u8 (restS z).op, .int .i64 (restS z).id, .int .i64 (restS z).arg, .int .i64 (restS z).extra, .int .u64 (restS z).draw] ?_ ?_ ?_ ?_); (exact rfl); (exact rfl); (exact rfl); (exact aggStep); (exact hr6)) | fail)
              go_roundw
              case rel => exact ⟨k + 1, by omega, by go_num, Lib.hid ⟨HEF.out, HK3.out⟩⟩
              case measure => simp [intOf]; omega
            | false =>
              have HR := HKN hb
              rw [hb] at heq
              clear HK2 HKN hb
              go_wp2_with (first | ((with_reducible refine wpl_load 115 (.tmp 6) ?_ ?_ (b6) 0 [.int .u8 (restS z).op, .int .i64 (restS z).id, .int .i64 (restS z).arg, .int .i64 (restS z).extra, .int .u64 (restS z).draw] ?_ ?_ ?_ ?_); (exact rfl); (exact rfl); (exact rfl); (exact aggStep); (exact hr6)) | fail)
              go_ret
              exact ⟨by rw [HMT.out, HR.out] <;> rfl, HEF.out⟩
    · have hki : ¬ (k : Int) < (sl.length : Int) := by omega
      have HR : Hid (mt = true) := Lib.hid (by rw [HMS.out]; have := HI.out.2; rwa [show k = sl.length by omega, List.take_length] at this)
      go_wp2_with fail
      go_ret
      exact ⟨by rw [HMT.out, HR.out] <;> rfl, HEX.out⟩
end Go.Proofs.YtgcbnagfdfgpnaaDoor
end
section
namespace Go.Hx
open Go.RowKit
theorem Ext.trans' {a b c : World} {B : Nat} (h : Ext a b) (k : Below B b c) (hB : a.heap.size ≤ B) : Ext a c := Below.trans h (k.mono hB)
end Go.Hx
namespace Go.Proofs.YtgcbnagfdfgpnaaDoor
open Go.RowKit Go.Hx
theorem aggTale : AggTy Tryd.prog 64 6 := ⟨⟨_, Tryd.underlying64, rfl⟩, by kernel_rfl⟩
attribute [local go_sem] PStep.cells XTale.cells detUpon undIn
theorem step_len {x : PStep} (h : StepOk x) : (stepL x).length ≤ 100 := by
  unfold stepL
  have h1 := lineL_len (nameL x.op) _ (nums_in h)
  have h2 : (nameL x.op).length ≤ 10 := by
    obtain ⟨k, hk⟩ : ∃ k : Nat, x.op = (k : Int) := ⟨x.op.toNat, by have := h.op.1; omega⟩
    rw [hk]; exact name_len k
  have h3 := offs_len x.op
  rw [List.length_map] at h1
  rw [List.length_append]
  split
  · have h4 := Lib.nDigits_le20 x.draw.toNat (by have := h.draw; omega)
    rw [List.length_cons, Lib.decDigits_length]
    omega
  · rw [List.length_nil]; omega
theorem steps_len : ∀ (l : List PStep), (∀ x ∈ l, StepOk x) → (stepsL l).length ≤ 101 * l.length
  | [], _ => Nat.le_refl _
  | x :: l, h => by
    have h1 := steps_len l (fun y hy => h y (List.mem_cons_of_mem _ hy))
    have h2 := step_len (h x (List.mem_cons_self ..))
    unfold stepsL at *
    simp only [List.flatMap_cons, List.length_append, List.length_cons, List.length_nil] at *
    omega
theorem stepsL_snoc (l : List PStep) (x : PStep) : stepsL (l ++ [x]) = stepsL l ++ (stepL x ++ [10]) := by
  unfold stepsL; rw [List.flatMap_append]; simp
theorem may_ok {t : PTale} (hw : t.wf) (h : mayT t = true) : (∀ x ∈ t.steps, StepOk x) ∧ t.values.length ≤ 100 ∧ t.steps.length ≤ 512 := by
  unfold mayT at h
  simp only [Bool.and_eq_true] at h
  obtain ⟨⟨_, h2⟩, h3⟩ := h
  have h2 := of_decide_eq_true h2
  refine ⟨fun x hx => ?_, h2.1, h2.2⟩
  have h4 := List.all_eq_true.1 h3 x hx
  obtain ⟨_, w2, w3, w4, w5⟩ := hw.2.2 x hx
  unfold mayS at h4
  simp only [Bool.and_eq_true] at h4
  have h5 := of_decide_eq_true h4.1.1
  exact ⟨h5, w2, w3, w4, by omega⟩
/-- while steps are printed -/
structure PriI (w W : World) (B : Nat) (t : PTale) (k : Nat) : Prop where
  ext : Ext w W
  bld : Bld B (headL t ++ [10] ++ stepsL (t.steps.take k)) W
  low : w.heap.size ≤ B
set_option maxRecDepth 100000 in
set_option maxHeartbeats 2000000 in
theorem tale_Print (x : XTale) (w : World) (hx : x.ok w w.heap.size) (hw : x.data.wf) (hT : Pow w) :
    Calls Tryd.prog 24 #[.agg #[.int .i64 x.conf.nodes, .int .i64 x.conf.len, .int .i64 x.conf.patience, .int .i64 x.conf.cap, .slice x.values.A x.values.l.length x.values.c, .slice x.steps.A x.steps.l.length x.steps.c]] w fun e w' => e = .returned (.tuple #[.string ⟨(printP x.data).1.toArray⟩, .int .i64 (printP x.data).2]) ∧ Ext w w' := by
  have HX := Lib.hid hx
  have HW := Lib.hid hw
  have HT := Lib.hid hT
  have HS := Lib.hid hx.steps.1
  clear hx hw hT
  have HB0 : Hid (Blk (w.alloc (.cells #[.int .i64 x.conf.nodes, .int .i64 x.conf.len, .int .i64 x.conf.patience, .int .i64 x.conf.cap, .slice x.values.A x.values.l.length x.values.c, .slice x.steps.A x.steps.l.length x.steps.c] 64)) w.heap.size 64 [.int .i64 x.conf.nodes, .int .i64 x.conf.len, .int .i64 x.conf.patience, .int .i64 x.conf.cap, .slice x.values.A x.values.l.length x.values.c, .slice x.steps.A x.steps.l.length x.steps.c]) := Lib.hid (Blk.new rfl)
  have hr0 : RowAt (w.alloc (.cells #[.int .i64 x.conf.nodes, .int .i64 x.conf.len, .int .i64 x.conf.patience, .int .i64 x.conf.cap, .slice x.values.A x.values.l.length x.values.c, .slice x.steps.A x.steps.l.length x.steps.c] 64)) w.heap.size 0 [.int .i64 x.conf.nodes, .int .i64 x.conf.len, .int .i64 x.conf.patience, .int .i64 x.conf.cap, .slice x.values.A x.values.l.length x.values.c, .slice x.steps.A x.steps.l.length x.steps.c] := HB0.out.row
  go_enter Tryd.func24, Tryd.ntmps24
  go_wp2_with (first | ((with_reducible refine wpl_load 64 (.tmp 1) ?_ ?_ (w.heap.size) 0 [.int .i64 x.conf.nodes, .int .i64 x.conf.len, .int .i64 x.conf.patience, .int .i64 x.conf.cap, .slice x.values.A x.values.l.length x.values.c, .slice x.steps.A x.steps.l.length x.steps.c] ?_ ?_ ?_ ?_); (exact rfl); (exact rfl); (exact rfl); (exact aggTale); (exact hr0)) | fail)
  clear hr0
  refine calls_nm fun W0 hW => ?_
  have HBT : Hid (Blk W0 w.heap.size 64 [.int .i64 x.conf.nodes, .int .i64 x.conf.len, .int .i64 x.conf.patience, .int .i64 x.conf.cap, .slice x.values.A x.values.l.length x.values.c, .slice x.steps.A x.steps.l.length x.steps.c]) := Lib.hid (by rw [hW]; exact HB0.out)
  have HE0 : Hid (Ext w W0) := Lib.hid (by rw [hW]; exact Ext.alloc _ _)
  clear hW HB0
  refine (tale_may x _ (HX.out.ext HE0.out) HW.out).mono ?_
  cases hm : mayT x.data with
  | false =>
    have HR : Hid (printP x.data = ([], 8)) := Lib.hid (by unfold printP; rw [if_neg (by rw [hm]; decide)])
    clear hm
    rintro e w1 ⟨rfl, hE1⟩
    have HE1 := Lib.hid (HE0.out.trans hE1)
    go_wp2_with fail
    go_ret2
    exact ⟨by rw [HR.out] <;> rfl, HE1.out⟩
  | true =>
  have HOK := Lib.hid (may_ok HW.out hm)
  have HPR : Hid (printP x.data = if 65536 < (textL x.data).length then ([], 4) else (textL x.data, 0)) := Lib.hid (by unfold printP; rw [if_pos hm])
  clear hm
  rintro e w1 ⟨rfl, hE1⟩
  have HE1 := Lib.hid (HE0.out.trans hE1)
  have HB1 := Lib.hid (HBT.out.ext hE1)
  clear hE1 HE0 HBT
  have hr1 : RowAt (w1.alloc (.cells #[.pointer none, .slice none 0 0] 107)) w.heap.size 0 [.int .i64 x.conf.nodes, .int .i64 x.conf.len, .int .i64 x.conf.patience, .int .i64 x.conf.cap, .slice x.values.A x.values.l.length x.values.c, .slice x.steps.A x.steps.l.length x.steps.c] := (HB1.out.alloc _).row
  go_wp2_with (first | ((with_reducible refine wpl_load 64 (.tmp 1) ?_ ?_ (w.heap.size) 0 [.int .i64 x.conf.nodes, .int .i64 x.conf.len, .int .i64 x.conf.patience, .int .i64 x.conf.cap, .slice x.values.A x.values.l.length x.values.c, .slice x.steps.A x.steps.l.length x.steps.c] ?_ ?_ ?_ ?_); (exact rfl); (exact rfl); (exact rfl); (exact aggTale); (exact hr1)) | fail)
  clear hr1
  refine calls_nm fun W2 hW => ?_
  have HBL : Hid (Bld w1.heap.size [] W2) := Lib.hid (by rw [hW]; exact Lib.fresh_isBuilder 107 5 w1)
  have HB2 : Hid (Blk W2 w.heap.size 64 [.int .i64 x.conf.nodes, .int .i64 x.conf.len, .int .i64 x.conf.patience, .int .i64 x.conf.cap, .slice x.values.A x.values.l.length x.values.c, .slice x.steps.A x.steps.l.length x.steps.c]) := Lib.hid (by rw [hW]; exact HB1.out.alloc _)
  have HE2 : Hid (Ext w W2) := Lib.hid (by rw [hW]; exact HE1.out.trans (Ext.alloc _ _))
  have HLB : Hid (w.heap.size < w1.heap.size) := Lib.hid HB1.out.lt
  clear hW HB1 HE1
  obtain ⟨B, hB⟩ : ∃ B, w1.heap.size = B := ⟨_, rfl⟩
  rw [hB] at HBL HLB ⊢
  clear hB
  refine (tale_head x _ (HX.out.ext HE2.out) HW.out.1 HW.out.2.1 (by have := HOK.out.2.1; show x.data.values.length ≤ 900; omega) (HT.out.ext HE2.out)).mono ?_
  rintro e w3 ⟨rfl, hE3⟩
  have HBL3 := Lib.hid (HBL.out.ext hE3)
  have HB3 := Lib.hid (HB2.out.ext hE3)
  have HE3 := Lib.hid (HE2.out.trans hE3)
  have HHL : Hid ((headL x.data).length ≤ 3000) := Lib.hid (by
    have h1 := lineL_len [119, 111, 114, 108, 100] ([x.data.conf.nodes, x.data.conf.len, x.data.conf.patience, x.data.conf.cap] ++ x.data.values) (fun v hv => by
      rcases List.mem_append.1 hv with hv | hv
      · simp only [List.mem_cons, List.not_mem_nil, or_false] at hv
        rcases hv with rfl | rfl | rfl | rfl
        · exact HW.out.1.1
        · exact HW.out.1.2.1
        · exact HW.out.1.2.2.1
        · exact HW.out.1.2.2.2
      · exact HW.out.2.1 v hv)
    have h2 := HOK.out.2.1
    rw [List.length_append] at h1
    simp only [List.length_cons, List.length_nil] at h1
    unfold headL
    omega)
  have a1 : ∀ W, (Op.stringOp .add ⟨(headL x.data).toArray⟩ ⟨#[10]⟩).run Tryd.prog W = .ok (.string ⟨(headL x.data ++ [10]).toArray⟩) W := fun W => run_string_add_lists W _ [10] (by have := HHL.out; omega) (by simp)
  clear hE3 HBL HB2 HE2
  go_wp2_with fail
  refine (bld_write B _ [] _ HBL3.out (by have := HHL.out; simp [ByteArray.size]; omega)).mono ?_
  rintro e w4 ⟨rfl, hB4, hb4⟩
  have HI0 : Hid (PriI w w4 B x.data 0) := Lib.hid ⟨HE3.out.trans' hb4 (Nat.le_of_lt HLB.out), by simpa [stepsL] using hB4, Nat.le_of_lt HLB.out⟩
  have HB4 : Hid (Blk w4 w.heap.size 64 [.int .i64 x.conf.nodes, .int .i64 x.conf.len, .int .i64 x.conf.patience, .int .i64 x.conf.cap, .slice x.values.A x.values.l.length x.values.c, .slice x.steps.A x.steps.l.length x.steps.c]) := Lib.hid ((hb4.block _ HLB.out).trans HB3.out)
  have hcs : w4.cell? ⟨w.heap.size, 5, none⟩ = some (.slice x.steps.A x.steps.l.length x.steps.c) := HB4.out.cell 5
  clear hB4 hb4 HBL3 HB3 HE3 a1 HB4
  go_wp2_with fail
  clear hcs
  obtain ⟨cf, vs, ⟨sl, sA, sc⟩⟩ := x
  dsimp only at *
  go_loopw [17] (fun i W => ∃ (k : Nat), k ≤ sl.length ∧ i = .int .i64 k ∧ Hid (PriI w W B (XTale.data ⟨cf, vs, ⟨sl, sA, sc⟩⟩) k)) (fun i _ => sl.length - (intOf i).toNat)
  case atStart => exact ⟨0, by omega, rfl, HI0⟩
  case round =>
    obtain ⟨k, hk, rfl, HI⟩ := hrel
    clear HI0
    by_cases hlt : k < sl.length
    · obtain ⟨z, hz⟩ : ∃ z, sl[k]? = some z := ⟨_, List.getElem?_eq_getElem hlt⟩
      have HZ := Lib.hid hz
      have HZO : Hid (StepOk z) := Lib.hid (HOK.out.1 z (List.mem_of_getElem? hz))
      obtain ⟨b1, o1, rfl, hb1, hrow⟩ := Sl.row (size := 5) (fun _ => rfl) HS.out hz
      have HRZ : Hid (RowAt wr b1 (o1 + k * 5) [.int .u8 z.op, .int .i64 z.id, .int .i64 z.arg, .int .i64 z.extra, .int .u64 z.draw]) := Lib.hid (hrow.below HI.out.ext.below hb1)
      have hki : (k : Int) < (sl.length : Int) := by omega
      have hk5 : k < 512 := by have := HOK.out.2.2; have : sl.length ≤ 512 := this; omega
      have HSZ : Hid ((stepL z).length ≤ 100) := Lib.hid (step_len HZO.out)
      have HSS : Hid ((stepsL (sl.take k)).length ≤ 60000) := Lib.hid (by
        have h1 := steps_len (sl.take k) (fun y hy => HOK.out.1 y (List.mem_of_mem_take hy))
        rw [List.length_take] at h1
        omega)
      have a1 : ∀ W, (Op.stringOp .add ⟨(stepL z).toArray⟩ ⟨#[10]⟩).run Tryd.prog W = .ok (.string ⟨(stepL z ++ [10]).toArray⟩) W := fun W => run_string_add_lists W _ [10] (by have := HSZ.out; omega) (by simp)
      clear hz hb1 hrow
      go_wp2_with (first | ((with_reducible refine wpl_load 115 (.tmp 19) ?_ ?_ (b1) (o1 + k * 5) [.int .u8 z.op, .int .i64 z.id, .int .i64 z.arg, .int .i64 z.extra, .int .u64 z.draw] ?_ ?_ ?_ ?_); (exact rfl); (exact rfl); (exact rfl); (exact aggStep); (exact HRZ.out)) | fail)
      refine calls_nm fun W5 hW => ?_
      have HE5 : Hid (Ext wr W5) := Lib.hid (by rw [hW]; exact Ext.alloc _ _)
      clear hW HRZ
      refine (tale_step z _ HZO.out (HT.out.ext (HI.out.ext.trans HE5.out))).mono ?_
      rintro e w6 ⟨rfl, hE6⟩
      have HE6 := Lib.hid (HI.out.ext.trans (HE5.out.trans hE6))
      have HB6 := Lib.hid (HI.out.bld.ext (HE5.out.trans hE6))
      clear hE6 HE5
      go_wp2_with fail
      refine (bld_write B _ _ _ HB6.out (by have := HHL.out; have := HSS.out; have := HSZ.out; simp [ByteArray.size, XTale.data] at *; omega)).mono ?_
      rintro e w7 ⟨rfl, hB7, hb7⟩
      have HI2 : Hid (PriI w w7 B (XTale.data ⟨cf, vs, ⟨sl, some ⟨b1, o1, none⟩, sc⟩⟩) (k + 1)) := Lib.hid ⟨HE6.out.trans' hb7 HI.out.low, by
        show Bld B (_ ++ stepsL (sl.take (k + 1))) w7
        rw [take_snoc HZ.out, stepsL_snoc, ← List.append_assoc]
        exact hB7, HI.out.low⟩
      clear hB7 hb7 a1
      go_wp2_with fail
      go_roundw
      case rel => exact ⟨k + 1, by omega, by go_num, HI2⟩
      case measure => simp [intOf]; omega
    · have hki : ¬ (k : Int) < (sl.length : Int) := by omega
      have HBF : Hid (Bld B (textL (XTale.data ⟨cf, vs, ⟨sl, sA, sc⟩⟩)) wr) := Lib.hid (by
        have := HI.out.bld
        rw [show (XTale.data ⟨cf, vs, ⟨sl, sA, sc⟩⟩).steps.take k = sl by show sl.take k = sl; rw [List.take_of_length_le (by omega)]] at this
        exact this)
      have HEF := Lib.hid HI.out.ext
      have HLF := Lib.hid HI.out.low
      clear HI
      obtain ⟨tx, htx⟩ : ∃ t, textL (XTale.data ⟨cf, vs, ⟨sl, sA, sc⟩⟩) = t := ⟨_, rfl⟩
      rw [htx] at HBF HPR
      clear htx
      have hbl : (Lib.byteCells tx).length = tx.length := by simp [Lib.byteCells]
      by_cases hlen : (65536 : Int) < (tx.length : Int)
      · have HR := Lib.hid (HPR.out.trans (if_pos (by omega)))
        clear HPR
        go_wp2_with (first | (go_at_call 61; refine (Tryd.Builder_Len B B _ _ HBF.out).mono ?_; rintro e w8 ⟨rfl, rfl⟩) | fail)
        go_ret2
        exact ⟨by rw [HR.out] <;> rfl, HEF.out⟩
      · have HR := Lib.hid (HPR.out.trans (if_neg (by omega)))
        clear HPR
        go_wp2_with (first | (go_at_call 61; refine (Tryd.Builder_Len B B _ _ HBF.out).mono ?_; rintro e w8 ⟨rfl, rfl⟩) | fail)
        refine (Tryd.Builder_String_any B B tx _ HBF.out (Nat.le_of_lt HBF.out.lt)).mono ?_
        rintro e w9 ⟨rfl, hb9⟩
        have HE9 := Lib.hid (HEF.out.trans' hb9 HLF.out)
        go_wp2_with fail
        go_ret2
        exact ⟨by rw [HR.out] <;> rfl, HE9.out⟩
end Go.Proofs.YtgcbnagfdfgpnaaDoor
end
section
namespace Go.Proofs.YtgcbnagfdfgpnaaDoor
open Go.RowKit Go.Hx
theorem results_tmp4 {P : Program} {fn : Func} {a b c d : Tmp} (h : fn.results = #[.tmp a, .tmp b, .tmp c, .tmp d]) (tmps : Array Value) (w : World) {v : Value} (hv : v = .tuple #[tmps.getD a undef, tmps.getD b undef, tmps.getD c undef, tmps.getD d undef]) : (results fn tmps).run P w = .ok v w := by
  subst hv
  simp [results, h]
attribute [local go_sem] PStep.cells XTale.cells detUpon undIn
set_option maxRecDepth 100000 in
set_option maxHeartbeats 2000000 in
theorem ref_small (n : Int) (w : World) : Calls Tryd.prog 108 #[.int .i64 n] w fun e w' => e = .returned (.bool (smallB n)) ∧ w' = w := by
  by_cases h1 : -2147483647 ≤ n
  · by_cases h2 : n ≤ 2147483647
    · have HR : Hid (smallB n = true) := Lib.hid (decide_eq_true ⟨h1, h2⟩)
      go_enter Tryd.func108, Tryd.ntmps108
      go_wp2_with fail
      go_ret
      exact ⟨by rw [HR.out] <;> rfl, rfl⟩
    · have HR : Hid (smallB n = false) := Lib.hid (decide_eq_false (by omega))
      go_enter Tryd.func108, Tryd.ntmps108
      go_wp2_with fail
      go_ret
      exact ⟨by rw [HR.out] <;> rfl, rfl⟩
  · have HR : Hid (smallB n = false) := Lib.hid (decide_eq_false (by omega))
    go_enter Tryd.func108, Tryd.ntmps108
    go_wp2_with fail
    go_ret
    exact ⟨by rw [HR.out] <;> rfl, rfl⟩
def hId (op : Int) : Bool := decide ((1 ≤ op ∧ op ≤ 5) ∨ 10 ≤ op)
def hArg (op : Int) : Bool := decide ((6 ≤ op ∧ op ≤ 9) ∨ 11 ≤ op)
def hExt (op : Int) : Bool := decide (op = 9 ∨ 11 ≤ op)
def hDraw (op : Int) : Bool := decide ((2 ≤ op ∧ op ≤ 5) ∨ op = 9 ∨ op = 12)
set_option maxRecDepth 100000 in
set_option maxHeartbeats 2000000 in
theorem ref_has (op : Int) (h0 : 0 ≤ op) (w : World) : Calls Tryd.prog 141 #[.int .u8 op] w fun e w' => e = .returned (.tuple #[.bool (hId op), .bool (hArg op), .bool (hExt op), .bool (hDraw op)]) ∧ w' = w := by
  by_cases h1 : op = 0
  · subst h1
    go_enter Tryd.func141, Tryd.ntmps141
    go_wp2_with fail
    refine bodyPost_ret (results_tmp4 rfl _ _ rfl) rfl ?_
    exact ⟨rfl, rfl⟩
  by_cases h2 : op = 1
  · subst h2
    go_enter Tryd.func141, Tryd.ntmps141
    go_wp2_with fail
    refine bodyPost_ret (results_tmp4 rfl _ _ rfl) rfl ?_
    exact ⟨rfl, rfl⟩
  by_cases h3 : op = 2
  · subst h3
    go_enter Tryd.func141, Tryd.ntmps141
    go_wp2_with fail
    refine bodyPost_ret (results_tmp4 rfl _ _ rfl) rfl ?_
    exact ⟨rfl, rfl⟩
  by_cases h4 : op = 3
  · subst h4
    go_enter Tryd.func141, Tryd.ntmps141
    go_wp2_with fail
    refine bodyPost_ret (results_tmp4 rfl _ _ rfl) rfl ?_
    exact ⟨rfl, rfl⟩
  by_cases h5 : op = 4
  · subst h5
    go_enter Tryd.func141, Tryd.ntmps141
    go_wp2_with fail
    refine bodyPost_ret (results_tmp4 rfl _ _ rfl) rfl ?_
    exact ⟨rfl, rfl⟩
  by_cases h6 : op = 5
  · subst h6
    go_enter Tryd.func141, Tryd.ntmps141
    go_wp2_with fail
    refine bodyPost_ret (results_tmp4 rfl _ _ rfl) rfl ?_
    exact ⟨rfl, rfl⟩
  by_cases h7 : op = 6
  · subst h7
    go_enter Tryd.func141, Tryd.ntmps141
    go_wp2_with fail
    refine bodyPost_ret (results_tmp4 rfl _ _ rfl) rfl ?_
    exact ⟨rfl, rfl⟩
  by_cases h8 : op = 7
  · subst h8
    go_enter Tryd.func141, Tryd.ntmps141
    go_wp2_with fail
    refine bodyPost_ret (results_tmp4 rfl _ _ rfl) rfl ?_
    exact ⟨rfl, rfl⟩
  by_cases h9 : op = 8
  · subst h9
    go_enter Tryd.func141, Tryd.ntmps141
    go_wp2_with fail
    refine bodyPost_ret (results_tmp4 rfl _ _ rfl) rfl ?_
    exact ⟨rfl, rfl⟩
  by_cases h10 : op = 9
  · subst h10
    go_enter Tryd.func141, Tryd.ntmps141
    go_wp2_with fail
    refine bodyPost_ret (results_tmp4 rfl _ _ rfl) rfl ?_
    exact ⟨rfl, rfl⟩
  by_cases h11 : op = 10
  · subst h11
    go_enter Tryd.func141, Tryd.ntmps141
    go_wp2_with fail
    refine bodyPost_ret (results_tmp4 rfl _ _ rfl) rfl ?_
    exact ⟨rfl, rfl⟩
  by_cases h12 : op = 11
  · subst h12
    go_enter Tryd.func141, Tryd.ntmps141
    go_wp2_with fail
    refine bodyPost_ret (results_tmp4 rfl _ _ rfl) rfl ?_
    exact ⟨rfl, rfl⟩
  by_cases h13 : op = 12
  · subst h13
    go_enter Tryd.func141, Tryd.ntmps141
    go_wp2_with fail
    refine bodyPost_ret (results_tmp4 rfl _ _ rfl) rfl ?_
    exact ⟨rfl, rfl⟩
  have HR : Hid (hId op = true ∧ hArg op = true ∧ hExt op = true ∧ hDraw op = false) := Lib.hid ⟨decide_eq_true (by omega), decide_eq_true (by omega), decide_eq_true (by omega), decide_eq_false (by omega)⟩
  have q1 : 1 ≤ op := by omega
  have q2 : 2 ≤ op := by omega
  have q5 : ¬ op ≤ 5 := by omega
  have q6 : 6 ≤ op := by omega
  have q9 : ¬ op ≤ 9 := by omega
  have q10 : 10 ≤ op := by omega
  have q11 : 11 ≤ op := by omega
  have d9 : (op == 9) = false := by rw [beq_eq_false_iff_ne]; omega
  have d12 : (op == 12) = false := by rw [beq_eq_false_iff_ne]; omega
  clear h1 h2 h3 h4 h5 h6 h7 h8 h9 h10 h11 h12 h13
  go_enter Tryd.func141, Tryd.ntmps141
  go_wp2_with fail
  refine bodyPost_ret (results_tmp4 rfl _ _ rfl) rfl ?_
  exact ⟨by rw [HR.out.1, HR.out.2.1, HR.out.2.2.1, HR.out.2.2.2] <;> rfl, rfl⟩
def mayS2 (x : PStep) : Bool := decide (1 ≤ x.op ∧ x.op ≤ 12) && (smallB x.id && smallB x.arg && smallB x.extra) && ((hId x.op || x.id == 0) && (hArg x.op || x.arg == 0) && (hExt x.op || x.extra == 0) && (hDraw x.op || x.draw == 0))
theorem mayS2_eq (x : PStep) : mayS2 x = mayS x := by
  unfold mayS2 mayS
  by_cases h : 1 ≤ x.op ∧ x.op ≤ 12
  · rw [decide_eq_true h]
    congr 1
    obtain ⟨op, id, arg, extra, draw⟩ := x
    dsimp only at h ⊢
    have hc : op = 1 ∨ op = 2 ∨ op = 3 ∨ op = 4 ∨ op = 5 ∨ op = 6 ∨ op = 7 ∨ op = 8 ∨ op = 9 ∨ op = 10 ∨ op = 11 ∨ op = 12 := by omega
    rcases hc with rfl | rfl | rfl | rfl | rfl | rfl | rfl | rfl | rfl | rfl | rfl | rfl
    · have e1 : offs 1 = [1] := rfl
      have e2 : drw 1 = false := rfl
      have e3 : hId 1 = true := rfl
      have e4 : hArg 1 = false := rfl
      have e5 : hExt 1 = false := rfl
      have e6 : hDraw 1 = false := rfl
      unfold restS
      dsimp only
      rw [e1, e2, e3, e4, e5, e6, Bool.eq_iff_iff]
      simp [and_assoc]
    · have e1 : offs 2 = [1] := rfl
      have e2 : drw 2 = true := rfl
      have e3 : hId 2 = true := rfl
      have e4 : hArg 2 = false := rfl
      have e5 : hExt 2 = false := rfl
      have e6 : hDraw 2 = true := rfl
      unfold restS
      dsimp only
      rw [e1, e2, e3, e4, e5, e6, Bool.eq_iff_iff]
      simp
    · have e1 : offs 3 = [1] := rfl
      have e2 : drw 3 = true := rfl
      have e3 : hId 3 = true := rfl
      have e4 : hArg 3 = false := rfl
      have e5 : hExt 3 = false := rfl
      have e6 : hDraw 3 = true := rfl
      unfold restS
      dsimp only
      rw [e1, e2, e3, e4, e5, e6, Bool.eq_iff_iff]
      simp
    · have e1 : offs 4 = [1] := rfl
      have e2 : drw 4 = true := rfl
      have e3 : hId 4 = true := rfl
      have e4 : hArg 4 = false := rfl
      have e5 : hExt 4 = false := rfl
      have e6 : hDraw 4 = true := rfl
      unfold restS
      dsimp only
      rw [e1, e2, e3, e4, e5, e6, Bool.eq_iff_iff]
      simp
    · have e1 : offs 5 = [1] := rfl
      have e2 : drw 5 = true := rfl
      have e3 : hId 5 = true := rfl
      have e4 : hArg 5 = false := rfl
      have e5 : hExt 5 = false := rfl
      have e6 : hDraw 5 = true := rfl
      unfold restS
      dsimp only
      rw [e1, e2, e3, e4, e5, e6, Bool.eq_iff_iff]
      simp
    · have e1 : offs 6 = [2] := rfl
      have e2 : drw 6 = false := rfl
      have e3 : hId 6 = false := rfl
      have e4 : hArg 6 = true := rfl
      have e5 : hExt 6 = false := rfl
      have e6 : hDraw 6 = false := rfl
      unfold restS
      dsimp only
      rw [e1, e2, e3, e4, e5, e6, Bool.eq_iff_iff]
      simp [and_assoc]
    · have e1 : offs 7 = [2] := rfl
      have e2 : drw 7 = false := rfl
      have e3 : hId 7 = false := rfl
      have e4 : hArg 7 = true := rfl
      have e5 : hExt 7 = false := rfl
      have e6 : hDraw 7 = false := rfl
      unfold restS
      dsimp only
      rw [e1, e2, e3, e4, e5, e6, Bool.eq_iff_iff]
      simp [and_assoc]
    · have e1 : offs 8 = [2] := rfl
      have e2 : drw 8 = false := rfl
      have e3 : hId 8 = false := rfl
      have e4 : hArg 8 = true := rfl
      have e5 : hExt 8 = false := rfl
      have e6 : hDraw 8 = false := rfl
      unfold restS
      dsimp only
      rw [e1, e2, e3, e4, e5, e6, Bool.eq_iff_iff]
      simp [and_assoc]
    · have e1 : offs 9 = [2, 3] := rfl
      have e2 : drw 9 = true := rfl
      have e3 : hId 9 = false := rfl
      have e4 : hArg 9 = true := rfl
      have e5 : hExt 9 = true := rfl
      have e6 : hDraw 9 = true := rfl
      unfold restS
      dsimp only
      rw [e1, e2, e3, e4, e5, e6, Bool.eq_iff_iff]
      simp
    · have e1 : offs 10 = [1] := rfl
      have e2 : drw 10 = false := rfl
      have e3 : hId 10 = true := rfl
      have e4 : hArg 10 = false := rfl
      have e5 : hExt 10 = false := rfl
      have e6 : hDraw 10 = false := rfl
      unfold restS
      dsimp only
      rw [e1, e2, e3, e4, e5, e6, Bool.eq_iff_iff]
      simp [and_assoc]
    · have e1 : offs 11 = [1, 2, 3] := rfl
      have e2 : drw 11 = false := rfl
      have e3 : hId 11 = true := rfl
      have e4 : hArg 11 = true := rfl
      have e5 : hExt 11 = true := rfl
      have e6 : hDraw 11 = false := rfl
      unfold restS
      dsimp only
      rw [e1, e2, e3, e4, e5, e6, Bool.eq_iff_iff]
      simp
    · have e1 : offs 12 = [1, 2, 3] := rfl
      have e2 : drw 12 = true := rfl
      have e3 : hId 12 = true := rfl
      have e4 : hArg 12 = true := rfl
      have e5 : hExt 12 = true := rfl
      have e6 : hDraw 12 = true := rfl
      unfold restS
      dsimp only
      rw [e1, e2, e3, e4, e5, e6, Bool.eq_iff_iff]
      simp
  · rw [decide_eq_false h]; rfl
set_option maxRecDepth 100000 in
set_option maxHeartbeats 2000000 in
theorem ref_mayStep (x : PStep) (w : World) (h0 : 0 ≤ x.op) : Calls Tryd.prog 109 #[.agg #[.int .u8 x.op, .int .i64 x.id, .int .i64 x.arg, .int .i64 x.extra, .int .u64 x.draw]] w fun e w' => e = .returned (.bool (mayS x)) ∧ Ext w w' := by
  rw [← mayS2_eq]
  have HB : Hid (Blk (w.alloc (.cells #[.int .u8 x.op, .int .i64 x.id, .int .i64 x.arg, .int .i64 x.extra, .int .u64 x.draw] 115)) w.heap.size 115 [.int .u8 x.op, .int .i64 x.id, .int .i64 x.arg, .int .i64 x.extra, .int .u64 x.draw]) := Lib.hid (Blk.new rfl)
  have HE0 : Hid (Ext w (w.alloc (.cells #[.int .u8 x.op, .int .i64 x.id, .int .i64 x.arg, .int .i64 x.extra, .int .u64 x.draw] 115))) := Lib.hid (Ext.alloc _ _)
  obtain ⟨W, hW⟩ : ∃ W, W = w.alloc (.cells #[.int .u8 x.op, .int .i64 x.id, .int .i64 x.arg, .int .i64 x.extra, .int .u64 x.draw] 115) := ⟨_, rfl⟩
  go_enter Tryd.func109, Tryd.ntmps109
  go_wp2_with fail
  rw [← hW] at HB HE0
  refine (ref_has x.op h0 _).mono ?_
  rintro e w1 ⟨rfl, rfl⟩
  rw [← hW]
  have hc0 : W.cell? ⟨w.heap.size, 0, none⟩ = some (.int .u8 x.op) := HB.out.cell 0
  have hc1 : W.cell? ⟨w.heap.size, 1, none⟩ = some (.int .i64 x.id) := HB.out.cell 1
  have hc2 : W.cell? ⟨w.heap.size, 2, none⟩ = some (.int .i64 x.arg) := HB.out.cell 2
  have hc3 : W.cell? ⟨w.heap.size, 3, none⟩ = some (.int .i64 x.extra) := HB.out.cell 3
  have hc4 : W.cell? ⟨w.heap.size, 4, none⟩ = some (.int .u64 x.draw) := HB.out.cell 4
  clear HB hW
  obtain ⟨hI, hhI⟩ : ∃ v, hId x.op = v := ⟨_, rfl⟩
  obtain ⟨hA, hhA⟩ : ∃ v, hArg x.op = v := ⟨_, rfl⟩
  obtain ⟨hX, hhX⟩ : ∃ v, hExt x.op = v := ⟨_, rfl⟩
  obtain ⟨hD, hhD⟩ : ∃ v, hDraw x.op = v := ⟨_, rfl⟩
  have HR : Hid (mayS2 x = (decide (1 ≤ x.op ∧ x.op ≤ 12) && (smallB x.id && smallB x.arg && smallB x.extra) && ((hI || x.id == 0) && (hA || x.arg == 0) && (hX || x.extra == 0) && (hD || x.draw == 0)))) := Lib.hid (by rw [← hhI, ← hhA, ← hhX, ← hhD]; rfl)
  rw [hhI, hhA, hhX, hhD]
  clear hhI hhA hhX hhD
  by_cases o1 : x.op < 1
  · have HR2 := Lib.hid (show mayS2 x = false by rw [HR.out, decide_eq_false (by omega)]; rfl)
    go_wp2_with fail
    go_ret
    exact ⟨by rw [HR2.out] <;> rfl, HE0.out⟩
  by_cases o2 : (12 : Int) < x.op
  · have HR2 := Lib.hid (show mayS2 x = false by rw [HR.out, decide_eq_false (by omega)]; rfl)
    go_wp2_with fail
    go_ret
    exact ⟨by rw [HR2.out] <;> rfl, HE0.out⟩
  replace HR : Hid (mayS2 x = ((smallB x.id && smallB x.arg && smallB x.extra) && ((hI || x.id == 0) && (hA || x.arg == 0) && (hX || x.extra == 0) && (hD || x.draw == 0)))) := Lib.hid (by rw [HR.out, decide_eq_true ⟨by omega, by omega⟩, Bool.true_and])
  go_wp2_with fail
  refine (ref_small x.id _).mono ?_
  rintro e w2 ⟨rfl, rfl⟩
  obtain ⟨s0, hs0⟩ : ∃ v, smallB x.id = v := ⟨_, rfl⟩
  rw [hs0] at HR ⊢
  clear hs0
  cases s0 with
  | false =>
    have HR2 := Lib.hid (show mayS2 x = false by rw [HR.out]; simp)
    go_wp2_with fail
    go_ret
    exact ⟨by rw [HR2.out] <;> rfl, HE0.out⟩
  | true =>
  go_wp2_with fail
  refine (ref_small x.arg _).mono ?_
  rintro e w3 ⟨rfl, rfl⟩
  obtain ⟨s1, hs1⟩ : ∃ v, smallB x.arg = v := ⟨_, rfl⟩
  rw [hs1] at HR ⊢
  clear hs1
  cases s1 with
  | false =>
    have HR2 := Lib.hid (show mayS2 x = false by rw [HR.out]; simp)
    go_wp2_with fail
    go_ret
    exact ⟨by rw [HR2.out] <;> rfl, HE0.out⟩
  | true =>
  go_wp2_with fail
  refine (ref_small x.extra _).mono ?_
  rintro e w4 ⟨rfl, rfl⟩
  obtain ⟨s2, hs2⟩ : ∃ v, smallB x.extra = v := ⟨_, rfl⟩
  rw [hs2] at HR ⊢
  clear hs2
  cases s2 with
  | false =>
    have HR2 := Lib.hid (show mayS2 x = false by rw [HR.out]; simp)
    go_wp2_with fail
    go_ret
    exact ⟨by rw [HR2.out] <;> rfl, HE0.out⟩
  | true =>
  have HE3 := HE0
  clear HE0
  cases hI with
  | true =>
    cases hA with
    | true =>
      cases hX with
      | true =>
        cases hD with
        | true =>
          have HR2 := Lib.hid (show mayS2 x = true by rw [HR.out]; simp [*])
          go_wp2_with fail
          go_ret
          exact ⟨by rw [HR2.out] <;> rfl, HE3.out⟩
        | false =>
          by_cases z3 : x.draw = 0
          · have d3 : (x.draw == 0) = true := by rw [z3]; rfl
            have HR2 := Lib.hid (show mayS2 x = true by rw [HR.out]; simp [*])
            go_wp2_with fail
            go_ret
            exact ⟨by rw [HR2.out] <;> rfl, HE3.out⟩
          · have d3 : (x.draw == 0) = false := by rw [beq_eq_false_iff_ne]; exact z3
            have HR2 := Lib.hid (show mayS2 x = false by rw [HR.out]; simp [*])
            go_wp2_with fail
            go_ret
            exact ⟨by rw [HR2.out] <;> rfl, HE3.out⟩
      | false =>
        by_cases z2 : x.extra = 0
        · have d2 : (x.extra == 0) = true := by rw [z2]; rfl
          cases hD with
          | true =>
            have HR2 := Lib.hid (show mayS2 x = true by rw [HR.out]; simp [*])
            go_wp2_with fail
            go_ret
            exact ⟨by rw [HR2.out] <;> rfl, HE3.out⟩
          | false =>
            by_cases z3 : x.draw = 0
            · have d3 : (x.draw == 0) = true := by rw [z3]; rfl
              have HR2 := Lib.hid (show mayS2 x = true by rw [HR.out]; simp [*])
              go_wp2_with fail
              go_ret
              exact ⟨by rw [HR2.out] <;> rfl, HE3.out⟩
            · have d3 : (x.draw == 0) = false := by rw [beq_eq_false_iff_ne]; exact z3
              have HR2 := Lib.hid (show mayS2 x = false by rw [HR.out]; simp [*])
              go_wp2_with fail
              go_ret
              exact ⟨by rw [HR2.out] <;> rfl, HE3.out⟩
        · have d2 : (x.extra == 0) = false := by rw [beq_eq_false_iff_ne]; exact z2
          have HR2 := Lib.hid (show mayS2 x = false by rw [HR.out]; simp [*])
          go_wp2_with fail
          go_ret
          exact ⟨by rw [HR2.out] <;> rfl, HE3.out⟩
    | false =>
      by_cases z1 : x.arg = 0
      · have d1 : (x.arg == 0) = true := by rw [z1]; rfl
        cases hX with
        | true =>
          cases hD with
          | true =>
            have HR2 := Lib.hid (show mayS2 x = true by rw [HR.out]; simp [*])
            go_wp2_with fail
            go_ret
            exact ⟨by rw [HR2.out] <;> rfl, HE3.out⟩
          | false =>
            by_cases z3 : x.draw = 0
            · have d3 : (x.draw == 0) = true := by rw [z3]; rfl
              have HR2 := Lib.hid (show mayS2 x = true by rw [HR.out]; simp [*])
              go_wp2_with fail
              go_ret
              exact ⟨by rw [HR2.out] <;> rfl, HE3.out⟩
            · have d3 : (x.draw == 0) = false := by rw [beq_eq_false_iff_ne]; exact z3
              have HR2 := Lib.hid (show mayS2 x = false by rw [HR.out]; simp [*])
              go_wp2_with fail
              go_ret
              exact ⟨by rw [HR2.out] <;> rfl, HE3.out⟩
        | false =>
          by_cases z2 : x.extra = 0
          · have d2 : (x.extra == 0) = true := by rw [z2]; rfl
            cases hD with
            | true =>
              have HR2 := Lib.hid (show mayS2 x = true by rw [HR.out]; simp [*])
              go_wp2_with fail
              go_ret
              exact ⟨by rw [HR2.out] <;> rfl, HE3.out⟩
            | false =>
              by_cases z3 : x.draw = 0
              · have d3 : (x.draw == 0) = true := by rw [z3]; rfl
                have HR2 := Lib.hid (show mayS2 x = true by rw [HR.out]; simp [*])
                go_wp2_with fail
                go_ret
                exact ⟨by rw [HR2.out] <;> rfl, HE3.out⟩
              · have d3 : (x.draw == 0) = false := by rw [beq_eq_false_iff_ne]; exact z3
                have HR2 := Lib.hid (show mayS2 x = false by rw [HR.out]; simp [*])
                go_wp2_with fail
                go_ret
                exact ⟨by rw [HR2.out] <;> rfl, HE3.out⟩
          · have d2 : (x.extra == 0) = false := by rw [beq_eq_false_iff_ne]; exact z2
            have HR2 := Lib.hid (show mayS2 x = false by rw [HR.out]; simp [*])
            go_wp2_with fail
            go_ret
            exact ⟨by rw [HR2.out] <;> rfl, HE3.out⟩
      · have d1 : (x.arg == 0) = false := by rw [beq_eq_false_iff_ne]; exact z1
        have HR2 := Lib.hid (show mayS2 x = false by rw [HR.out]; simp [*])
        go_wp2_with fail
        go_ret
        exact ⟨by rw [HR2.out] <;> rfl, HE3.out⟩
  | false =>
    by_cases z0 : x.id = 0
    · have d0 : (x.id == 0) = true := by rw [z0]; rfl
      cases hA with
      | true =>
        cases hX with
        | true =>
          cases hD with
          | true =>
            have HR2 := Lib.hid (show mayS2 x = true by rw [HR.out]; simp [*])
            go_wp2_with fail
            go_ret
            exact ⟨by rw [HR2.out] <;> rfl, HE3.out⟩
          | false =>
            by_cases z3 : x.draw = 0
            · have d3 : (x.draw == 0) = true := by rw [z3]; rfl
              have HR2 := Lib.hid (show mayS2 x = true by rw [HR.out]; simp [*])
              go_wp2_with fail
              go_ret
              exact ⟨by rw [HR2.out] <;> rfl, HE3.out⟩
            · have d3 : (x.draw == 0) = false := by rw [beq_eq_false_iff_ne]; exact z3
              have HR2 := Lib.hid (show mayS2 x = false by rw [HR.out]; simp [*])
              go_wp2_with fail
              go_ret
              exact ⟨by rw [HR2.out] <;> rfl, HE3.out⟩
        | false =>
          by_cases z2 : x.extra = 0
          · have d2 : (x.extra == 0) = true := by rw [z2]; rfl
            cases hD with
            | true =>
              have HR2 := Lib.hid (show mayS2 x = true by rw [HR.out]; simp [*])
              go_wp2_with fail
              go_ret
              exact ⟨by rw [HR2.out] <;> rfl, HE3.out⟩
            | false =>
              by_cases z3 : x.draw = 0
              · have d3 : (x.draw == 0) = true := by rw [z3]; rfl
                have HR2 := Lib.hid (show mayS2 x = true by rw [HR.out]; simp [*])
                go_wp2_with fail
                go_ret
                exact ⟨by rw [HR2.out] <;> rfl, HE3.out⟩
              · have d3 : (x.draw == 0) = false := by rw [beq_eq_false_iff_ne]; exact z3
                have HR2 := Lib.hid (show mayS2 x = false by rw [HR.out]; simp [*])
                go_wp2_with fail
                go_ret
                exact ⟨by rw [HR2.out] <;> rfl, HE3.out⟩
          · have d2 : (x.extra == 0) = false := by rw [beq_eq_false_iff_ne]; exact z2
            have HR2 := Lib.hid (show mayS2 x = false by rw [HR.out]; simp [*])
            go_wp2_with fail
            go_ret
            exact ⟨by rw [HR2.out] <;> rfl, HE3.out⟩
      | false =>
        by_cases z1 : x.arg = 0
        · have d1 : (x.arg == 0) = true := by rw [z1]; rfl
          cases hX with
          | true =>
            cases hD with
            | true =>
              have HR2 := Lib.hid (show mayS2 x = true by rw [HR.out]; simp [*])
              go_wp2_with fail
              go_ret
              exact ⟨by rw [HR2.out] <;> rfl, HE3.out⟩
            | false =>
              by_cases z3 : x.draw = 0
              · have d3 : (x.draw == 0) = true := by rw [z3]; rfl
                have HR2 := Lib.hid (show mayS2 x = true by rw [HR.out]; simp [*])
                go_wp2_with fail
                go_ret
                exact ⟨by rw [HR2.out] <;> rfl, HE3.out⟩
              · have d3 : (x.draw == 0) = false := by rw [beq_eq_false_iff_ne]; exact z3
                have HR2 := Lib.hid (show mayS2 x = false by rw [HR.out]; simp [*])
                go_wp2_with fail
                go_ret
                exact ⟨by rw [HR2.out] <;> rfl, HE3.out⟩
          | false =>
            by_cases z2 : x.extra = 0
            · have d2 : (x.extra == 0) = true := by rw [z2]; rfl
              cases hD with
              | true =>
                have HR2 := Lib.hid (show mayS2 x = true by rw [HR.out]; simp [*])
                go_wp2_with fail
                go_ret
                exact ⟨by rw [HR2.out] <;> rfl, HE3.out⟩
              | false =>
                by_cases z3 : x.draw = 0
                · have d3 : (x.draw == 0) = true := by rw [z3]; rfl
                  have HR2 := Lib.hid (show mayS2 x = true by rw [HR.out]; simp [*])
                  go_wp2_with fail
                  go_ret
                  exact ⟨by rw [HR2.out] <;> rfl, HE3.out⟩
                · have d3 : (x.draw == 0) = false := by rw [beq_eq_false_iff_ne]; exact z3
                  have HR2 := Lib.hid (show mayS2 x = false by rw [HR.out]; simp [*])
                  go_wp2_with fail
                  go_ret
                  exact ⟨by rw [HR2.out] <;> rfl, HE3.out⟩
            · have d2 : (x.extra == 0) = false := by rw [beq_eq_false_iff_ne]; exact z2
              have HR2 := Lib.hid (show mayS2 x = false by rw [HR.out]; simp [*])
              go_wp2_with fail
              go_ret
              exact ⟨by rw [HR2.out] <;> rfl, HE3.out⟩
        · have d1 : (x.arg == 0) = false := by rw [beq_eq_false_iff_ne]; exact z1
          have HR2 := Lib.hid (show mayS2 x = false by rw [HR.out]; simp [*])
          go_wp2_with fail
          go_ret
          exact ⟨by rw [HR2.out] <;> rfl, HE3.out⟩
    · have d0 : (x.id == 0) = false := by rw [beq_eq_false_iff_ne]; exact z0
      have HR2 := Lib.hid (show mayS2 x = false by rw [HR.out]; simp [*])
      go_wp2_with fail
      go_ret
      exact ⟨by rw [HR2.out] <;> rfl, HE3.out⟩
end Go.Proofs.YtgcbnagfdfgpnaaDoor
end
section
namespace Go.Proofs.YtgcbnagfdfgpnaaDoor
open Go.RowKit Go.Hx
attribute [local go_sem] PStep.cells XTale.cells detUpon undIn
set_option maxRecDepth 100000 in
set_option maxHeartbeats 2000000 in
theorem ref_May (x : XTale) (w : World) (hx : x.ok w w.heap.size) (hw : x.data.wf) :
    Calls Tryd.prog 63 #[.agg #[.int .i64 x.conf.nodes, .int .i64 x.conf.len, .int .i64 x.conf.patience, .int .i64 x.conf.cap, .slice x.values.A x.values.l.length x.values.c, .slice x.steps.A x.steps.l.length x.steps.c]] w fun e w' => e = .returned (.bool (mayT x.data)) ∧ Ext w w' := by
  obtain ⟨cf, ⟨l, A, c⟩, ⟨sl, sA, sc⟩⟩ := x
  have HV := Lib.hid hx.values.1
  have HS := Lib.hid hx.steps.1
  have HW : Hid (∀ z ∈ sl, 0 ≤ z.op) := Lib.hid fun z hz => (hw.2.2 z hz).1.1
  clear hx hw
  dsimp only at *
  have HB0 : Hid (Blk (w.alloc (.cells #[.int .i64 cf.nodes, .int .i64 cf.len, .int .i64 cf.patience, .int .i64 cf.cap, .slice A l.length c, .slice sA sl.length sc] 64)) w.heap.size 64 [.int .i64 cf.nodes, .int .i64 cf.len, .int .i64 cf.patience, .int .i64 cf.cap, .slice A l.length c, .slice sA sl.length sc]) := Lib.hid (Blk.new rfl)
  have hrow0 : RowAt (w.alloc (.cells #[.int .i64 cf.nodes, .int .i64 cf.len, .int .i64 cf.patience, .int .i64 cf.cap, .slice A l.length c, .slice sA sl.length sc] 64)) w.heap.size 0 [.int .i64 cf.nodes, .int .i64 cf.len, .int .i64 cf.patience, .int .i64 cf.cap] := HB0.out.part 0 4
  obtain ⟨W, hW⟩ : ∃ W, W = (w.alloc (.cells #[.int .i64 cf.nodes, .int .i64 cf.len, .int .i64 cf.patience, .int .i64 cf.cap, .slice A l.length c, .slice sA sl.length sc] 64)).alloc (.cells #[.int .i64 cf.nodes, .int .i64 cf.len, .int .i64 cf.patience, .int .i64 cf.cap] 60) := ⟨_, rfl⟩
  have HB1 : Hid (Blk W w.heap.size 64 [.int .i64 cf.nodes, .int .i64 cf.len, .int .i64 cf.patience, .int .i64 cf.cap, .slice A l.length c, .slice sA sl.length sc]) := Lib.hid (by rw [hW]; exact HB0.out.alloc _)
  have HB2 : Hid (Blk W (w.heap.size + 1) 60 [.int .i64 cf.nodes, .int .i64 cf.len, .int .i64 cf.patience, .int .i64 cf.cap]) := Lib.hid (by rw [hW]; exact Blk.new (by simp))
  have HE0 : Hid (Ext w W) := Lib.hid (by rw [hW]; exact Ext.alloc' (Ext.alloc _ _) _)
  obtain ⟨mt, hmt⟩ : ∃ m, mayT (⟨cf, l, sl⟩ : PTale) = m := ⟨_, rfl⟩
  have HMT : Hid (mayT (XTale.data ⟨cf, ⟨l, A, c⟩, ⟨sl, sA, sc⟩⟩) = mt) := Lib.hid hmt
  have HMS : Hid (mt = ((smallB cf.nodes && smallB cf.len && smallB cf.patience && smallB cf.cap) && l.all smallB && decide (l.length ≤ 100 ∧ sl.length ≤ 512) && sl.all mayS)) := Lib.hid (by rw [← hmt]; rfl)
  clear hmt
  go_enter Tryd.func63, Tryd.ntmps63
  go_wp2_with (first | ((with_reducible refine wpl_load 60 (.tmp 6) ?_ ?_ (w.heap.size) 0 [.int .i64 cf.nodes, .int .i64 cf.len, .int .i64 cf.patience, .int .i64 cf.cap] ?_ ?_ ?_ ?_); (exact rfl); (exact rfl); (exact rfl); (exact aggConf); (exact hrow0)) | fail)
  rw [← hW]
  clear hW HB0 hrow0
  have hc0 : W.cell? ⟨w.heap.size + 1, 1, none⟩ = some (.int .i64 cf.len) := HB2.out.cell 1
  have hc1 : W.cell? ⟨w.heap.size + 1, 2, none⟩ = some (.int .i64 cf.patience) := HB2.out.cell 2
  have hc2 : W.cell? ⟨w.heap.size + 1, 3, none⟩ = some (.int .i64 cf.cap) := HB2.out.cell 3
  have hc4 : W.cell? ⟨w.heap.size, 4, none⟩ = some (.slice A l.length c) := HB1.out.cell 4
  have hc5 : W.cell? ⟨w.heap.size, 5, none⟩ = some (.slice sA sl.length sc) := HB1.out.cell 5
  refine (ref_small cf.nodes _).mono ?_
  rintro e w2 ⟨rfl, hw⟩
  rw [hw]
  clear hw
  obtain ⟨s0, hs0⟩ : ∃ v, smallB cf.nodes = v := ⟨_, rfl⟩
  rw [hs0] at HMS ⊢
  clear hs0
  cases s0 with
  | false =>
    have HR : Hid (mt = false) := Lib.hid (by rw [HMS.out]; simp)
    go_wp2_with fail
    go_ret
    exact ⟨by rw [HMT.out, HR.out] <;> rfl, HE0.out⟩
  | true =>
  go_wp2_with fail
  refine (ref_small cf.len _).mono ?_
  rintro e w3 ⟨rfl, hw⟩
  rw [hw]
  clear hw
  obtain ⟨s1, hs1⟩ : ∃ v, smallB cf.len = v := ⟨_, rfl⟩
  rw [hs1] at HMS ⊢
  clear hs1
  cases s1 with
  | false =>
    have HR : Hid (mt = false) := Lib.hid (by rw [HMS.out]; simp)
    go_wp2_with fail
    go_ret
    exact ⟨by rw [HMT.out, HR.out] <;> rfl, HE0.out⟩
  | true =>
  go_wp2_with fail
  refine (ref_small cf.patience _).mono ?_
  rintro e w4 ⟨rfl, hw⟩
  rw [hw]
  clear hw
  obtain ⟨s2, hs2⟩ : ∃ v, smallB cf.patience = v := ⟨_, rfl⟩
  rw [hs2] at HMS ⊢
  clear hs2
  cases s2 with
  | false =>
    have HR : Hid (mt = false) := Lib.hid (by rw [HMS.out]; simp)
    go_wp2_with fail
    go_ret
    exact ⟨by rw [HMT.out, HR.out] <;> rfl, HE0.out⟩
  | true =>
  go_wp2_with fail
  refine (ref_small cf.cap _).mono ?_
  rintro e w5 ⟨rfl, hw⟩
  rw [hw]
  clear hw
  obtain ⟨s3, hs3⟩ : ∃ v, smallB cf.cap = v := ⟨_, rfl⟩
  rw [hs3] at HMS ⊢
  clear hs3
  cases s3 with
  | false =>
    have HR : Hid (mt = false) := Lib.hid (by rw [HMS.out]; simp)
    go_wp2_with fail
    go_ret
    exact ⟨by rw [HMT.out, HR.out] <;> rfl, HE0.out⟩
  | true =>
  by_cases h3 : (100 : Int) < (l.length : Int)
  · have HR : Hid (mt = false) := Lib.hid (by rw [HMS.out, decide_eq_false (by omega)]; simp)
    go_wp2_with fail
    go_ret
    exact ⟨by rw [HMT.out, HR.out] <;> rfl, HE0.out⟩
  by_cases h4 : (512 : Int) < (sl.length : Int)
  · have HR : Hid (mt = false) := Lib.hid (by rw [HMS.out, decide_eq_false (by omega)]; simp)
    go_wp2_with fail
    go_ret
    exact ⟨by rw [HMT.out, HR.out] <;> rfl, HE0.out⟩
  replace HMS : Hid (mt = (l.all smallB && sl.all mayS)) := Lib.hid (by rw [HMS.out, decide_eq_true ⟨by omega, by omega⟩]; simp)
  have HLN : Hid (l.length ≤ 100 ∧ sl.length ≤ 512) := Lib.hid ⟨by omega, by omega⟩
  go_wp2_with fail
  clear h3 h4 hc0 hc1 hc2 hc4 hc5
  go_loopw [4] (fun i wr => ∃ (k : Nat), k ≤ l.length ∧ i = .int .i64 k ∧ Hid (Ext w wr ∧ Ext W wr ∧ (l.take k).all smallB = true)) (fun i _ => l.length - (intOf i).toNat)
  case atStart => exact ⟨0, by omega, rfl, Lib.hid ⟨HE0.out, Ext.refl _, rfl⟩⟩
  case round =>
    obtain ⟨k, hk, rfl, HI⟩ := hrel
    have hc4 : wr.cell? ⟨w.heap.size, 4, none⟩ = some (.slice A l.length c) := (HB1.out.ext HI.out.2.1).cell 4
    by_cases hlt : k < l.length
    · obtain ⟨z, hz⟩ : ∃ z, l[k]? = some z := ⟨_, List.getElem?_eq_getElem hlt⟩
      have HZ := Lib.hid hz
      obtain ⟨b1, o1, rfl, hb1, hrow⟩ := Sl.row (size := 1) (fun _ => rfl) HV.out hz
      have hc : wr.cell? ⟨b1, o1 + k, none⟩ = some (.int .i64 z) := by have := hrow.below HI.out.1.below hb1 0 _ rfl; simpa using this
      have hki : (k : Int) < (l.length : Int) := by omega
      have hk9 : k < 100 := by have := HLN.out; omega
      clear hz hb1 hrow
      go_wp2_with fail
      refine (ref_small z _).mono ?_
      rintro e w2 ⟨rfl, hw⟩
      rw [hw]
      clear hw
      cases hs : smallB z with
      | true =>
        have HI2 : Hid (Ext w wr ∧ Ext W wr ∧ (l.take (k + 1)).all smallB = true) := Lib.hid ⟨HI.out.1, HI.out.2.1, by rw [take_snoc HZ.out, List.all_append, HI.out.2.2]; simp [hs]⟩
        clear hs
        go_wp2_with fail
        go_roundw
        case rel => exact ⟨k + 1, by omega, by go_num, HI2⟩
        case measure => simp [intOf]; omega
      | false =>
        have HR : Hid (mt = false) := Lib.hid (by rw [HMS.out, List.all_eq_false.2 ⟨z, List.mem_of_getElem? HZ.out, by rw [hs]; decide⟩]; rfl)
        clear hs
        go_wp2_with fail
        go_ret
        exact ⟨by rw [HMT.out, HR.out] <;> rfl, HI.out.1⟩
    · have hki : ¬ (k : Int) < (l.length : Int) := by omega
      have HM3 : Hid (mt = sl.all mayS) := Lib.hid (by have := HI.out.2.2; rw [show k = l.length by omega, List.take_length] at this; rw [HMS.out, this, Bool.true_and])
      go_wp2_with fail
      clear hc4
      go_loopw [5] (fun i W2 => ∃ (k : Nat), k ≤ sl.length ∧ i = .int .i64 k ∧ Hid (Ext w W2 ∧ Ext W W2 ∧ (sl.take k).all mayS = true)) (fun i _ => sl.length - (intOf i).toNat)
      case atStart => exact ⟨0, by omega, rfl, Lib.hid ⟨HI.out.1, HI.out.2.1, rfl⟩⟩
      case round =>
        obtain ⟨k, hk, rfl, HI⟩ := hrel
        have hc5 : wr.cell? ⟨w.heap.size, 5, none⟩ = some (.slice sA sl.length sc) := (HB1.out.ext HI.out.2.1).cell 5
        by_cases hlt : k < sl.length
        · obtain ⟨z, hz⟩ : ∃ z, sl[k]? = some z := ⟨_, List.getElem?_eq_getElem hlt⟩
          have HZ := Lib.hid hz
          obtain ⟨b1, o1, rfl, hb1, hrow⟩ := Sl.row (size := 5) (fun _ => rfl) HS.out hz
          have HRZ : Hid (RowAt wr b1 (o1 + k * 5) [.int .u8 z.op, .int .i64 z.id, .int .i64 z.arg, .int .i64 z.extra, .int .u64 z.draw]) := Lib.hid (hrow.below HI.out.1.below hb1)
          have hki : (k : Int) < (sl.length : Int) := by omega
          have hk9 : k < 512 := by have := HLN.out; omega
          have HOP : Hid (0 ≤ z.op) := Lib.hid (HW.out z (List.mem_of_getElem? hz))
          clear hz hb1 hrow
          go_wp2_with (first | ((with_reducible refine wpl_load 115 (.tmp 66) ?_ ?_ (b1) (o1 + k * 5) [.int .u8 z.op, .int .i64 z.id, .int .i64 z.arg, .int .i64 z.extra, .int .u64 z.draw] ?_ ?_ ?_ ?_); (exact rfl); (exact rfl); (exact rfl); (exact aggStep); (exact HRZ.out)) | fail)
          refine (ref_mayStep z _ HOP.out).mono ?_
          rintro e w3 ⟨rfl, hE3⟩
          have HE3 := Lib.hid hE3
          clear hE3 hc5
          cases hs : mayS z with
          | true =>
            have HI2 : Hid (Ext w w3 ∧ Ext W w3 ∧ (sl.take (k + 1)).all mayS = true) := Lib.hid ⟨HI.out.1.trans HE3.out, HI.out.2.1.trans HE3.out, by rw [take_snoc HZ.out, List.all_append, HI.out.2.2]; simp [hs]⟩
            clear hs
            go_wp2_with fail
            go_roundw
            case rel => exact ⟨k + 1, by omega, by go_num, HI2⟩
            case measure => simp [intOf]; omega
          | false =>
            have HR : Hid (mt = false) := Lib.hid (by rw [HM3.out, List.all_eq_false.2 ⟨z, List.mem_of_getElem? HZ.out, by rw [hs]; decide⟩])
            clear hs
            go_wp2_with fail
            go_ret
            exact ⟨by rw [HMT.out, HR.out] <;> rfl, HI.out.1.trans HE3.out⟩
        · have hki : ¬ (k : Int) < (sl.length : Int) := by omega
          have HR : Hid (mt = true) := Lib.hid (by have := HI.out.2.2; rw [show k = sl.length by omega, List.take_length] at this; rw [HM3.out, this])
          go_wp2_with fail
          go_ret
          exact ⟨by rw [HMT.out, HR.out] <;> rfl, HI.out.1⟩
theorem dec_small {u : Nat} (h : u < 10) : Lib.decDigits u = [UInt8.ofNat (48 + u)] := by rw [Lib.decDigits, dif_pos h]
theorem dec_big {u : Nat} (h : ¬ u < 10) : Lib.decDigits u = Lib.decDigits (u / 10) ++ [UInt8.ofNat (48 + u % 10)] := by rw [Lib.decDigits, dif_neg h]
/-- while digits are written -/
def NatI (u m : Nat) (out : List UInt8) : Prop := (m ≠ 0 ∧ Lib.decDigits u = Lib.decDigits m ++ out) ∨ (m = 0 ∧ out = Lib.decDigits u)
theorem NatI.next {u m : Nat} {out : List UInt8} (h : NatI u m out) (hm : m ≠ 0) : NatI u (m / 10) (UInt8.ofNat (48 + m % 10) :: out) := by
  rcases h with ⟨_, h⟩ | ⟨h, _⟩
  · by_cases h10 : m < 10
    · refine .inr ⟨by omega, ?_⟩
      rw [h, dec_small h10, show m % 10 = m by omega]; rfl
    · refine .inl ⟨by omega, ?_⟩
      rw [h, dec_big h10, List.append_assoc]; rfl
  · exact absurd h hm
theorem NatI.len {u m : Nat} {out : List UInt8} (h : NatI u m out) (hu : u < 18446744073709551616) : out.length ≤ 20 := by
  have h1 := Lib.nDigits_le20 u hu
  rw [← Lib.decDigits_length] at h1
  rcases h with ⟨_, h⟩ | ⟨_, h⟩
  · rw [h, List.length_append] at h1; omega
  · rw [h]; exact h1
set_option maxRecDepth 100000 in
set_option maxHeartbeats 2000000 in
theorem ref_Natural (u : Nat) (hu : u < 18446744073709551616) (w : World) :
    Calls Tryd.prog 123 #[.int .u64 u] w fun e w' => e = .returned (.string ⟨(Lib.decDigits u).toArray⟩) ∧ Ext w w' := by
  by_cases h0 : u = 0
  · subst h0
    have HR : Hid (Lib.decDigits 0 = [48]) := Lib.hid (dec_small (by decide))
    go_enter Tryd.func123, Tryd.ntmps123
    go_wp2_with fail
    go_ret
    exact ⟨by rw [HR.out] <;> rfl, Ext.refl _⟩
  have d0 : ((u : Int) == 0) = false := by rw [beq_eq_false_iff_ne]; omega
  have HU := Lib.hid hu
  have HI0 : Hid (NatI u u []) := Lib.hid (.inl ⟨h0, by rw [List.append_nil]⟩)
  clear hu h0
  go_enter Tryd.func123, Tryd.ntmps123
  go_wp2_with fail
  clear d0
  go_loopw [0, 3] (fun t s W => ∃ (m : Nat) (out : List UInt8), m < 18446744073709551616 ∧ t = .int .u64 m ∧ s = .string ⟨out.toArray⟩ ∧ Hid (NatI u m out ∧ Ext w W)) (fun t _ _ => (intOf t).toNat)
  case atStart => exact ⟨u, [], HU.out, rfl, rfl, Lib.hid ⟨HI0.out, Ext.refl _⟩⟩
  case round =>
    obtain ⟨m, out, hm, rfl, rfl, HI⟩ := hrel
    clear HI0
    by_cases hm0 : m = 0
    · have HR : Hid (out = Lib.decDigits u) := Lib.hid (by rcases HI.out.1 with h | h; exact absurd hm0 h.1; exact h.2)
      have d1 : ¬ ((0 : Int) < (m : Int)) := by omega
      clear hm0
      go_wp2_with fail
      go_ret
      exact ⟨by rw [HR.out] <;> rfl, HI.out.2⟩
    · have d1 : (0 : Int) < (m : Int) := by omega
      have HN : Hid (NatI u (m / 10) (UInt8.ofNat (48 + m % 10) :: out)) := Lib.hid (HI.out.1.next hm0)
      have HM0 := Lib.hid hm0
      obtain ⟨q, hq⟩ : ∃ q, m / 10 = q := ⟨_, rfl⟩
      obtain ⟨r, hr⟩ : ∃ r, m % 10 = r := ⟨_, rfl⟩
      have hqi : (m : Int) / 10 = (q : Int) := by omega
      have hri : (m : Int) % 10 = (r : Int) := by omega
      have hqi2 : (m : Int).tdiv 10 = (q : Int) := by rw [← hq]; exact (Int.ofNat_tdiv m 10).symm
      have hri2 : (m : Int).tmod 10 = (r : Int) := by rw [← hr]; exact (Int.ofNat_tmod m 10).symm
      have hr10 : r < 10 := by omega
      have hlt : q < m := by omega
      have hw1 : IntKind.u64.wrap (48 + (r : Int)) = 48 + (r : Int) := by rw [IntKind.wrap_u64]; omega
      have hw2 : IntKind.u8.wrap (48 + (r : Int)) = 48 + (r : Int) := by rw [IntKind.wrap_u8]; omega
      have HLL : Hid (out.length ≤ 20) := Lib.hid (HI.out.1.len HU.out)
      have hb : ((UInt8.ofNat (48 + r)).toNat : Int) = 48 + (r : Int) := by rw [UInt8.toNat_ofNat']; omega
      have hcv : (convert 105 9 (.slice (some ⟨wr.heap.size, 0, none⟩) 1 1)).run Tryd.prog (wr.alloc (.cells #[.int .u8 (48 + (r : Int))] 5)) = .ok (.string ⟨#[UInt8.ofNat (48 + r)]⟩) (wr.alloc (.cells #[.int .u8 (48 + (r : Int))] 5)) := by
        have h := run_convert_bytes_back (P := Tryd.prog) (wr.alloc (.cells #[.int .u8 (48 + (r : Int))] 5)) 105 9 5 ⟨wr.heap.size, 0, none⟩ 1 [UInt8.ofNat (48 + r)] Tryd.underlying105 Tryd.underlying5 Tryd.underlying9 (fun j hj => by
          have hj0 : j = 0 := by simpa using hj
          subst hj0
          rw [Lib.add_plain]
          have hB : Blk (wr.alloc (.cells #[.int .u8 (48 + (r : Int))] 5)) wr.heap.size 5 [.int .u8 (48 + (r : Int))] := Blk.new rfl
          rw [hB.cell (0 + 0), List.getElem_cons_zero, hb]; rfl)
        exact h
      have a1 : ∀ W, (Op.stringOp .add ⟨#[UInt8.ofNat (48 + r)]⟩ ⟨out.toArray⟩).run Tryd.prog W = .ok (.string ⟨(UInt8.ofNat (48 + r) :: out).toArray⟩) W := fun W => run_string_add_lists W [_] out (by simp) (by have := HLL.out; omega)
      rw [hq, hr] at HN
      obtain ⟨ch, hch⟩ : ∃ c, UInt8.ofNat (48 + r) = c := ⟨_, rfl⟩
      rw [hch] at hcv HN
      simp only [hch] at a1
      clear hq hr hb hm0 hch
      go_wp2_with fail
      go_roundw
      case rel => exact ⟨q, _, by omega, rfl, rfl, Lib.hid ⟨HN.out, HI.out.2.trans (Ext.alloc _ _)⟩⟩
      case measure => simp [intOf]; omega
set_option maxRecDepth 100000 in
set_option maxHeartbeats 2000000 in
theorem ref_Whole (n : Int) (hn : smallB n = true) (w : World) :
    Calls Tryd.prog 110 #[.int .i64 n] w fun e w' => e = .returned (.string ⟨(Lib.itoa n).toArray⟩) ∧ Ext w w' := by
  have hs := of_decide_eq_true hn
  by_cases h0 : n < 0
  · obtain ⟨u, rfl⟩ : ∃ u : Nat, n = -(u : Int) := ⟨n.natAbs, by omega⟩
    have HR : Hid (Lib.itoa (-(u : Int)) = 45 :: Lib.decDigits u) := Lib.hid (Lib.itoa_neg u (by omega))
    have hu : u < 18446744073709551616 := by omega
    have hw1 : IntKind.u64.wrap (u : Int) = (u : Int) := by rw [IntKind.wrap_u64]; omega
    have hw2 : IntKind.i64.wrap (u : Int) = (u : Int) := by rw [IntWalk.i64_in _ (by omega)]
    have a1 : ∀ W, (Op.stringOp .add ⟨#[45]⟩ ⟨(Lib.decDigits u).toArray⟩).run Tryd.prog W = .ok (.string ⟨(45 :: Lib.decDigits u).toArray⟩) W := fun W => run_string_add_lists W [45] _ (by simp) (by rw [Lib.decDigits_length]; have := Lib.nDigits_le20 u hu; omega)
    clear hs hn
    go_enter Tryd.func110, Tryd.ntmps110
    go_wp2_with (go_at_call 123; refine (ref_Natural u hu _).mono ?_; rintro e w2 ⟨rfl, hE2⟩)
    go_ret
    exact ⟨by rw [HR.out] <;> rfl, hE2⟩
  · obtain ⟨u, rfl⟩ : ∃ u : Nat, n = (u : Int) := ⟨n.toNat, by omega⟩
    have HR : Hid (Lib.itoa (u : Int) = Lib.decDigits u) := Lib.hid (Lib.itoa_nonneg u)
    have hu : u < 18446744073709551616 := by omega
    have hw1 : IntKind.u64.wrap (u : Int) = (u : Int) := by rw [IntKind.wrap_u64]; omega
    clear hs hn
    go_enter Tryd.func110, Tryd.ntmps110
    go_wp2_with (go_at_call 123; refine (ref_Natural u hu _).mono ?_; rintro e w2 ⟨rfl, hE2⟩)
    go_ret
    exact ⟨by rw [HR.out] <;> rfl, hE2⟩
set_option maxRecDepth 100000 in
set_option maxHeartbeats 2000000 in
theorem ref_name (k : Nat) (hk : k < 13) (w : World) :
    Calls Tryd.prog 142 #[.int .u8 k] w fun e w' => e = .returned (.string ⟨(nameL k).toArray⟩) ∧ Ext w w' := by
  have hB : Blk (w.alloc (.cells (namesL.flatMap encS).toArray 9)) w.heap.size 9 (namesL.flatMap encS) := Blk.new rfl
  have H1 : Hid ((namesL.flatMap encS)[k]? = some (.string ⟨(nameL k).toArray⟩)) := Lib.hid ((hB.cell k).symm.trans (names_cell hB hk))
  have hki : (k : Int) < 13 := by omega
  have hki2 : ¬ (13 : Int) ≤ (k : Int) := by omega
  have hw1 : IntKind.i64.wrap (k : Int) = (k : Int) := by rw [IntWalk.i64_in _ (by omega)]
  clear hB
  go_enter Tryd.func142, Tryd.ntmps142
  go_wp2_with fail
  go_ret
  exact ⟨congrArg Ending.returned (List.getElem?_eq_some_iff.1 H1.out).2, Ext.alloc _ _⟩
end Go.Proofs.YtgcbnagfdfgpnaaDoor
end
