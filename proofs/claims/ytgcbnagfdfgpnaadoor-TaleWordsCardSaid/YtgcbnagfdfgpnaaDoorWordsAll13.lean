/- Parts of a proof, joined: ReadT, ReadU. -/
import Derived.Test.YtgcbnagfdfgpnaaDoorWordsAll27
import Derived.Test.YtgcbnagfdfgpnaaDoorWordsAll31
import Derived.Test.YtgcbnagfdfgpnaaDoorChainP
import Derived.Test.YtgcbnagfdfgpnaaDoorWordsAll12
section
namespace Go.Hx
open Go.RowKit
section
open Go
variable {Fi : Fence} {P : Program} {ops : Array Oper} {o : Oper} {rest : List Oper} {a : Act}
/-- a call in a line, that returns or is left by a panic -/
theorem wplIn_calls {n : Nat} {Q : Exit → Act → World → Prop} {w : World} {c : Call} {f : FuncId} {args : Array Value} {R : Ending → World → Prop} (hop : Open Fi) (ho : o.op = .call c) (hw : Region.wanted o (yielded ops a.tmps) = true)
    (hr : (execOp a.eval o).run P w = .ok (.enter f args) w) (hc : Calls P f args w R) (h1 : ∀ v w', R (.returned v) w' → wpListIn Fi n P ops Q rest (a.put o.dst v) w') (h2 : ∀ ch w', R (.panicked ch) w' → Q (.panic ch) a w') (h3 : ∀ w', ¬ R .outgrown w') : wpListIn Fi n P ops Q (o :: rest) a w := by
  refine wpListIn_step fun K hK => ?_
  rw [if_pos hw]
  have hsem : o.semAt Fi.round a.eval = execOp a.eval o := Oper.semAt_eq _ _ _ (fun c => by rw [ho]; intro h; cases h)
  unfold Oper.wpIn
  refine ⟨fun f _ => hop.fn f, ?_⟩
  rw [hsem, hr]
  refine ⟨fun hd => (by rw [hop.depth] at hd; cases hd), CallsIn.mono (hop.calls hc) ?_⟩
  intro e w' he
  cases e with
  | returned v => exact hK _ _ (h1 v w' he)
  | panicked ch => exact h2 ch w' he
  | outgrown => exact absurd he (h3 w')
end
theorem But.cell {w w' : World} {b : Nat} (h : But w w' b) {b1 : Nat} (hb : ¬ b1 = b) {v : Value} (hc : w.cell? ⟨b1, 0, none⟩ = some v) : w'.cell? ⟨b1, 0, none⟩ = some v := by
  have h1 := World.block_lt_of_cell? w _ hc
  unfold World.cell? at *
  rw [h.block _ h1 hb]
  exact hc
theorem But.of {w w' : World} (h : Ext w w') (b : Nat) : But w w' b := ⟨h.os, h.tape, h.output, h.size, fun k hk _ => h.block k hk⟩
structure RdI (w0 w W : World) (b : Nat) (ng : Bool) (v : Value) (l : List Nat) (ex : Int) : Prop where
  ext : Ext w0 W
  but : But w W b
  blk : Blk W b 24 [.bool ng, v, .int .i64 ex]
  own : Go.Hx.Own W w.heap.size 33 1 cU32 v l
structure LeftI (w0 w W : World) (b : Nat) : Prop where
  ext : Ext w0 W
  but : But w W b
  blk : ∃ cs, Blk W b 24 cs
theorem RdI.left {w0 w W : World} {b : Nat} {ng : Bool} {v : Value} {l : List Nat} {ex : Int} (h : RdI w0 w W b ng v l ex) : LeftI w0 w W b := ⟨h.ext, h.but, _, h.blk⟩
theorem RdI.more {w0 w W W' : World} {b : Nat} {ng : Bool} {v : Value} {l : List Nat} {ex : Int} (h : RdI w0 w W b ng v l ex) (k : Ext W W') : RdI w0 w W' b ng v l ex :=
  ⟨h.ext.trans k, h.but.trans (But.of k b), h.blk.ext k, h.own.ext k⟩
theorem RdI.set {w0 w W : World} {b : Nat} {ng ng' : Bool} {v v' : Value} {l : List Nat} {ex ex' : Int} (h : RdI w0 w W b ng v l ex) (j : Nat) (u : Value) (hb : w0.heap.size ≤ b ∧ b < w.heap.size) (hv : v' = v) (hc : [Value.bool ng, v, .int .i64 ex].set j u = [.bool ng', v', .int .i64 ex']) : RdI w0 w (W.setCell ⟨b, j, none⟩ u) b ng' v' l ex' := by
  subst hv
  refine ⟨h.ext.setCell' hb.1 _, h.but.trans (But.set _ _ _ _), by rw [← hc]; exact h.blk.set j u, h.own.far (fun e => ?_) _⟩
  have := h.own.below_block _ e
  have := hb.2
  simp at *
  omega
/-- the row grew, the block was not told yet -/
structure RdJ (w0 w W : World) (b : Nat) (ng : Bool) (v v' : Value) (l : List Nat) (ex : Int) : Prop where
  ext : Ext w0 W
  but : But w W b
  blk : Blk W b 24 [.bool ng, v, .int .i64 ex]
  own : Go.Hx.Own W w.heap.size 33 1 cU32 v' l
theorem RdI.grown {w0 w W W' : World} {b : Nat} {ng : Bool} {v v' : Value} {l l' : List Nat} {ex : Int} (h : RdI w0 w W b ng v l ex) (ho : Go.Hx.Own W' w.heap.size 33 1 cU32 v' l') (hg : W.grownBy W' v.ownBlock) (hb : w0.heap.size ≤ b ∧ b < w.heap.size) : RdJ w0 w W' b ng v v' l' ex := by
  have hk : ∀ k, k < w.heap.size → W'.heap[k]? = W.heap[k]? := fun k hk => hg.block k (Nat.lt_of_lt_of_le hk h.but.size) fun e => by have := h.own.below_block k e.symm; omega
  refine ⟨Own.below h.own h.ext hg (by omega) h.ext.size, ⟨hg.os.trans h.but.os, hg.tape.trans h.but.tape, hg.output.trans h.but.output, Nat.le_trans h.but.size hg.size, fun k h1 h2 => (hk k h1).trans (h.but.block k h1 h2)⟩, (hk b hb.2).trans h.blk, ho⟩
theorem RdJ.store {w0 w W : World} {b : Nat} {ng : Bool} {v v' : Value} {l : List Nat} {ex : Int} (h : RdJ w0 w W b ng v v' l ex) (hb : w0.heap.size ≤ b ∧ b < w.heap.size) : RdI w0 w (W.setCell ⟨b, 1, none⟩ v') b ng v' l ex := by
  refine ⟨h.ext.setCell' hb.1 _, h.but.trans (But.set _ _ _ _), h.blk.set 1 v', h.own.far (fun e => ?_) _⟩
  have := h.own.below_block _ e
  have := hb.2
  simp at *
  omega
def cellLen : Option Value → Nat
  | some (.slice _ n _) => n
  | _ => 0
def strSz : Value → Nat
  | .string b => b.size
  | _ => 0
/-- the word is that of the dyad that was read -/
def GoodR (s : List UInt8) (a : PDyad) : Prop := readQ s = some a ∧ mayD a ∧ wordL a = s
def BadR (s : List UInt8) : Prop := ∀ a, ¬ GoodR s a
theorem cutS_eq (s : List UInt8) : (cutS s).1 = Lib.trimPrefix s [45] ∧ (cutS s).2 = Lib.hasPrefix s [45] := by
  unfold cutS Lib.trimPrefix Lib.hasPrefix
  cases s with
  | nil => simp
  | cons a r =>
    by_cases h : a = 45
    · subst h; simp [List.isPrefixOf]
    · have h2 : ((45 : UInt8) == a) = false := by simpa using fun e => h e.symm
      simp [List.isPrefixOf, h, h2]
theorem cutS_len (s : List UInt8) : (cutS s).1.length ≤ s.length := by
  unfold cutS
  split <;> simp
theorem cutL_len (s : List UInt8) : (cutL s).1.length ≤ s.length ∧ (cutL s).2.1.length ≤ s.length := by
  unfold cutL
  split
  · simp only [List.length_take, List.length_drop]; omega
  · simp
end Go.Hx
namespace Go.Proofs.YtgcbnagfdfgpnaaDoor
open Go.RowKit Go.Hx
set_option linter.unusedVariables false
set_option linter.unusedSimpArgs false
attribute [local go_sem] detUpon undIn
set_option maxRecDepth 100000 in
set_option maxHeartbeats 4000000 in
theorem read_in (s : List UInt8) (b1 b2 : Nat) (w0 w : World) (hs : s.length ≤ 2000) (hE0 : Ext w0 w) (hb0 : w0.heap.size ≤ b2) (hne : ¬ b1 = b2) (h1 : w.cell? ⟨b1, 0, none⟩ = some (.string ⟨s.toArray⟩)) (hB : Blk w b2 24 [.bool false, .slice none 0 0, .int .i64 0])
    (hEs : Esy w0) (hEr : Era w0) (hT : Tz w0) (hP : Pow w0) :
    Calls Tryd.prog 75 #[.pointer (some ⟨b1, 0, none⟩), .pointer (some ⟨b2, 0, none⟩)] w fun e w' => (e = .returned (.tuple #[]) ∧ ∃ ng v l ex, RdI w0 w w' b2 ng v l ex ∧ GoodR s ⟨ng, l, ex⟩) ∨ (e = .panicked [{ v := wrongV, recovered := false }] ∧ BadR s ∧ LeftI w0 w w' b2) := by
  have hcl := cutL_len s
  have hcs := cut_slash s (by omega) w
  obtain ⟨⟨pa, pb, has⟩, hcut⟩ : ∃ p, cutL s = p := ⟨_, rfl⟩
  rw [hcut] at hcs hcl
  dsimp only at hcs hcl
  have HCUT := Lib.hid hcut
  have HCL := Lib.hid hcl
  have HS := Lib.hid hs
  have HB2L : Hid (w0.heap.size ≤ b2 ∧ b2 < w.heap.size) := Lib.hid ⟨hb0, hB.lt⟩
  have HTA := Lib.hid (And.intro hEs (And.intro hEr (And.intro hT hP)))
  have HNE := Lib.hid hne
  have HI0 : Hid (RdI w0 w w b2 false (.slice none 0 0) [] 0) := Lib.hid ⟨hE0, But.of (Ext.refl _) _, hB, Own.nil _ _ _ _ _⟩
  clear hcut hcl hs hb0 hB hEs hEr hT hP hne hE0
  go_enter Tryd.func75, Tryd.ntmps75
  go_wp2_with fail
  refine hcs.mono ?_
  rintro e w1 ⟨rfl, hE1⟩
  have HI1 := Lib.hid (HI0.out.more hE1)
  clear hcs hE1 HI0
  cases has with
  | true =>
    go_wp2_with fail
    refine (atoi_any pb (by have := HCL.out; have := HS.out; omega) _ (HTA.out.1.ext HI1.out.ext) (HTA.out.2.1.ext HI1.out.ext)).mono ?_
    rintro e w2 (⟨ex, rfl, hv, hE⟩ | ⟨u, t, p, rfl, hv, hE⟩)
    · have HEX : Hid (expQ s = some (pa, ex)) := Lib.hid (by unfold expQ; rw [HCUT.out]; simp only [if_true]; rw [hv])
      have HI2 := Lib.hid (HI1.out.more hE)
      clear hv hE HI1
      go_wp2_with fail
      refine (must_yes _).mono ?_
      rintro e w3 ⟨rfl, rfl⟩
      have hf0 := HI2.out.blk.free 2
      have hc0 : w3.cell? ⟨b2, 2, none⟩ = some (.int .i64 0) := HI2.out.blk.cell 2
      have HI : Hid (RdI w0 w (w3.setCell ⟨b2, 2, none⟩ (.int .i64 ex)) b2 false (.slice none 0 0) [] ex) := Lib.hid (HI2.out.set 2 _ HB2L.out rfl rfl)
      go_wp2_with fail
      clear hf0 hc0
      generalize w3.setCell ⟨b2, 2, none⟩ (.int .i64 ex) = w4 at *
      clear HI2
      have hcp := Tryd.strings_CutPrefix ⟨pa.toArray⟩ ⟨#[45]⟩ w4
      have hcs2 := cutS_eq pa
      obtain ⟨⟨ps, ng⟩, hps⟩ : ∃ p, cutS pa = p := ⟨_, rfl⟩
      have HPS := Lib.hid hps
      have HPL : Hid (ps.length ≤ pa.length) := Lib.hid (by have := cutS_len pa; rw [hps] at this; exact this)
      rw [show (ByteArray.mk pa.toArray).data.toList = pa from rfl, show (ByteArray.mk #[45]).data.toList = [45] from rfl, ← hcs2.1, ← hcs2.2, hps] at hcp
      dsimp only at hcp
      clear hcs2 hps

      refine hcp.mono ?_
      rintro e w5 ⟨rfl, rfl⟩
      clear hcp
      have hf0 := HI.out.blk.free 0
      have hc0 : w5.cell? ⟨b2, 0, none⟩ = some (.bool false) := HI.out.blk.cell 0
      have HI2 : Hid (RdI w0 w (w5.setCell ⟨b2, 0, none⟩ (.bool ng)) b2 ng (.slice none 0 0) [] ex) := Lib.hid (HI.out.set 0 _ HB2L.out rfl rfl)
      have hsz : ((ByteArray.mk ps.toArray).size : Int) = (ps.length : Int) := rfl
      by_cases h320 : ps.length ≤ 320
      · have h320i : (ps.length : Int) ≤ 320 := by omega
        go_wp2_with fail
        refine (must_yes _).mono ?_
        rintro e w6 ⟨rfl, rfl⟩
        clear hf0 hc0
        generalize w5.setCell ⟨b2, 0, none⟩ (.bool ng) = w6 at *
        have H320 := Lib.hid h320
        clear h320 h320i hsz HI
        go_wp2_with fail
        go_loopw [2] (fun sv W => ∃ (cur : List UInt8) (l : List Nat) (v : Value), cur.length ≤ 320 ∧ sv = .string ⟨cur.toArray⟩ ∧ Hid (RdI w0 w W b2 ng v l ex ∧ Limbs l ∧ l.length + cur.length ≤ 320 ∧ limP ps = (limP cur).map (l ++ ·))) (fun sv _ => strSz sv)
        case atStart => exact ⟨ps, [], _, H320.out, rfl, Lib.hid ⟨HI2.out, (fun x hx => by cases hx), by have := H320.out; simpa using this, by cases limP ps <;> rfl⟩⟩
        case round =>
          obtain ⟨cur, l, v, hcur, rfl, HJ⟩ := hrel
          obtain ⟨A, c, rfl, hlx⟩ := HJ.out.1.own.form
          have hsz : ((ByteArray.mk cur.toArray).size : Int) = (cur.length : Int) := rfl
          by_cases h0 : cur = []
          · subst h0
            have HLP : Hid (limP ps = some l ∧ Limbs l ∧ l.length ≤ 320) := Lib.hid ⟨by rw [HJ.out.2.2.2, limP_nil]; simp, HJ.out.2.1, by have := HJ.out.2.2.1; simpa using this⟩
            have HRI := Lib.hid HJ.out.1
            clear HJ hlx hcur
            go_wp2_with fail
            go_loopw [] (fun W => ∃ (k : Nat) (A : Option Addr) (c : Nat), k ≤ l.length ∧ Hid (RdI w0 w W b2 ng (.slice A (l.take k).length c) (l.take k) ex ∧ val B32 (l.drop k) = 0)) (fun W => cellLen (W.cell? ⟨b2, 1, none⟩))
            case atStart => exact ⟨l.length, A, c, by omega, Lib.hid ⟨by rw [List.take_length]; exact HRI.out, by rw [List.drop_length]; rfl⟩⟩
            case round =>
              obtain ⟨k, A, c, hk, HK⟩ := hrel
              clear HRI
              have hkl : (l.take k).length = k := by rw [List.length_take]; omega
              rw [hkl] at HK
              have hc1 : wr.cell? ⟨b2, 1, none⟩ = some (.slice A k c) := HK.out.1.blk.cell 1
              have hf1 := HK.out.1.blk.free 1
              have HKL := Lib.hid hkl
              clear hkl
              by_cases hk0 : k = 0
              · subst hk0
                have HVZ : Hid (val B32 l = 0 ∧ l.take 0 = digs B32 (val B32 l)) := Lib.hid (by
                  have h1 := HK.out.2
                  rw [List.drop_zero] at h1
                  exact ⟨h1, by rw [h1, digs_zero]; rfl⟩)
                have HFIN : Hid (l.take 0 = digs B32 (val B32 l)) := Lib.hid HVZ.out.2
                go_wp2_with fail
                clear HVZ
                have HRQ : Hid (readQ s = some ⟨ng, l.take 0, ex⟩) := Lib.hid (by
                  unfold readQ
                  rw [HEX.out]
                  simp only [HPS.out]
                  rw [if_neg (by have := H320.out; omega), HLP.out.1, HFIN.out])
                have HFL : Hid (Limbs (l.take 0) ∧ (l.take 0).length ≤ 320) := Lib.hid ⟨fun x hx => HLP.out.2.1 x (List.mem_of_mem_take hx), by have := HLP.out.2.2; rw [List.length_take]; omega⟩
                obtain ⟨WX, rfl⟩ : ∃ W, W = wr := ⟨_, rfl⟩
                have HFX : Hid (XDyad.ok WX WX.heap.size ⟨ng, ⟨l.take 0, A, c⟩, ex⟩) := Lib.hid (XDyad.mine.ok (x := ⟨ng, ⟨l.take 0, A, c⟩, ex⟩) ⟨by rw [HKL.out]; exact HK.out.1.own⟩)
                obtain ⟨lf, hlf⟩ : ∃ x, l.take 0 = x := ⟨_, rfl⟩
                obtain ⟨kf, HKE⟩ : ∃ x, Hid (0 = x) := ⟨_, Lib.hid rfl⟩
                have HKF : Hid (lf.length = kf) := Lib.hid (by rw [← hlf, HKL.out]; exact HKE.out)
                have HRI : Hid (RdI w0 w WX b2 ng (.slice A kf c) lf ex) := Lib.hid (by rw [← hlf, ← HKE.out]; exact HK.out.1)
                rw [hlf] at HRQ HFL HFX
                clear hlf HK HFIN HKL hc1 hf1 HKE
                have HFB : Hid (Blk WX b2 24 [.bool ng, .slice A kf c, .int .i64 ex]) := Lib.hid HRI.out.blk
                by_cases hm : mayD ⟨ng, lf, ex⟩
                · obtain ⟨wd, hwd⟩ : ∃ x, wordL ⟨ng, lf, ex⟩ = x := ⟨_, rfl⟩
                  have HCK : Hid (∀ W, Ext WX W → Calls Tryd.prog 34 #[.agg #[.bool ng, .slice A kf c, .int .i64 ex]] W fun e w' => e = .returned (.int .i64 0) ∧ Ext W w') := Lib.hid (fun W hC => by
                    have h := dyad_Check ⟨ng, ⟨lf, A, c⟩, ex⟩ W (HFX.out.ext hC)
                    rw [show decide (mayD (XDyad.data ⟨ng, ⟨lf, A, c⟩, ex⟩)) = true from decide_eq_true hm] at h
                    dsimp only at h
                    rw [HKF.out] at h
                    exact h)
                  have HCW : Hid (∀ W, Ext WX W → Calls Tryd.prog 72 #[.agg #[.bool ng, .slice A kf c, .int .i64 ex]] W fun e w' => e = .returned (.string ⟨wd.toArray⟩) ∧ Ext W w') := Lib.hid (fun W hC => by
                    have h := tale_word ⟨ng, ⟨lf, A, c⟩, ex⟩ W (HFX.out.ext hC) HFL.out.1 (by have := hm.1.1; dsimp only at *; omega) ⟨by have := hm.2.1; dsimp only at *; omega, by have := hm.2.1; dsimp only at *; omega⟩ (HTA.out.2.2.1.ext (HRI.out.ext.trans hC)) (HTA.out.2.2.2.ext (HRI.out.ext.trans hC))
                    rw [show wordL (XDyad.data ⟨ng, ⟨lf, A, c⟩, ex⟩) = wd from hwd] at h
                    dsimp only at h
                    rw [HKF.out] at h
                    exact h)
                  have HTX : Hid (∀ W, Ext WX W → W.cell? ⟨b1, 0, none⟩ = some (.string ⟨s.toArray⟩)) := Lib.hid (fun W hC => hC.cell (HRI.out.but.cell HNE.out h1))
                  have HMW : Hid (mayD ⟨ng, lf, ex⟩ ∧ wordL ⟨ng, lf, ex⟩ = wd) := Lib.hid ⟨hm, hwd⟩
                  clear hm hwd
                  by_cases hw : wd = s
                  · have heq : (wd == s) = true := by rw [hw]; exact beq_self_eq_true _
                    have HG : Hid (GoodR s ⟨ng, lf, ex⟩) := Lib.hid ⟨HRQ.out, HMW.out.1, HMW.out.2.trans hw⟩
                    clear hw
                    refine wp_region_flowTail 9 (Ext WX) (fun _ => True) Ext (fun i => if i = 1 then .row (fun v => v = .int .i64 0) (fun _ _ => True) else if i = 5 then .row (fun v => v = .string ⟨wd.toArray⟩) (fun _ _ => True) else .det) [1, 5] (by kernel_rfl) (by kernel_rfl) (by kernel_rfl) (Ext.drew _) trivial (keeps_true _) ?_
                    refine ftext_load_row 24 _ rfl rfl rfl b2 0 [.bool ng, .slice A kf c, .int .i64 ex] rfl aggDyadW (fun W hC => (HFB.out.ext hC).row) (fun K hK => ?_)
                    go_simp; refine hK _ ?_; clear hK K
                    refine ftext_row _ _ rfl rfl ⟨_, rfl⟩ (fun _ => keeps_true _) (fun W hC hJ Φ hΦ => ?_) (fun v hv K hK => ?_)
                    · go_simp
                      refine (HCK.out _ hC).mono ?_
                      rintro e W2 ⟨rfl, hE2⟩
                      exact ⟨_, rfl, hΦ _ _ rfl (hC.trans hE2) hE2 trivial⟩
                    subst hv
                    go_simp; refine hK _ ?_; clear hK K
                    iterate 2 (refine ftext_det rfl rfl ?_; apply Exists.intro; refine ⟨fun w hC => ?_, fun K hK => ?_⟩; (first | (go_simp; exact rfl) | (go_simp; exact ⟨rfl, rfl⟩)); go_simp; refine hK _ ?_; clear hK K)
                    refine ftext_load_row 24 _ rfl rfl rfl b2 0 [.bool ng, .slice A kf c, .int .i64 ex] rfl aggDyadW (fun W hC => (HFB.out.ext hC).row) (fun K hK => ?_)
                    go_simp; refine hK _ ?_; clear hK K
                    refine ftext_row _ _ rfl rfl ⟨_, rfl⟩ (fun _ => keeps_true _) (fun W hC hJ Φ hΦ => ?_) (fun v hv K hK => ?_)
                    · go_simp
                      refine (HCW.out _ hC).mono ?_
                      rintro e W2 ⟨rfl, hE2⟩
                      exact ⟨_, rfl, hΦ _ _ rfl (hC.trans hE2) hE2 trivial⟩
                    subst hv
                    go_simp; refine hK _ ?_; clear hK K
                    iterate 3 (refine ftext_det rfl rfl ?_; apply Exists.intro; refine ⟨fun w hC => ?_, fun K hK => ?_⟩; (first | (go_simp; exact rfl) | (go_simp; exact ⟨rfl, rfl⟩) | (have h1 := HTX.out _ hC; go_simp; first | exact rfl | exact ⟨rfl, rfl⟩)); go_simp; refine hK _ ?_; clear hK K)
                    refine ftext_nil ?_
                    rintro W2 hC _ _
                    have HL := Lib.hid (HRI.out.more hC)
                    clear hC
                    simp only [List.drop_succ_cons, List.drop_zero]
                    refine wplIn_calls Open.wide rfl rfl (by kernel_rfl) (must_yes W2) ?_ ?_ ?_
                    · rintro v w9 ⟨h, rfl⟩
                      injection h with h
                      subst h
                      refine wpListIn_nil ?_
                      first | go_end0 | refine ⟨rfl, _, results_none rfl _ _ _, ?_⟩
                      exact .inl ⟨rfl, _, _, _, _, HL.out, HG.out⟩
                    · rintro v w9 ⟨h, _⟩; cases h
                    · rintro w9 ⟨h, _⟩; cases h
                  · have heq : (wd == s) = false := by simpa using hw
                    have HBAD : Hid (BadR s) := Lib.hid (fun a h => by
                      have h1 := h.1
                      rw [HRQ.out] at h1
                      injection h1 with h1
                      refine hw ?_
                      rw [← HMW.out.2, h1]
                      exact h.2.2)
                    clear hw
                    refine wp_region_flowTail 9 (Ext WX) (fun _ => True) Ext (fun i => if i = 1 then .row (fun v => v = .int .i64 0) (fun _ _ => True) else if i = 5 then .row (fun v => v = .string ⟨wd.toArray⟩) (fun _ _ => True) else .det) [1, 5] (by kernel_rfl) (by kernel_rfl) (by kernel_rfl) (Ext.drew _) trivial (keeps_true _) ?_
                    refine ftext_load_row 24 _ rfl rfl rfl b2 0 [.bool ng, .slice A kf c, .int .i64 ex] rfl aggDyadW (fun W hC => (HFB.out.ext hC).row) (fun K hK => ?_)
                    go_simp; refine hK _ ?_; clear hK K
                    refine ftext_row _ _ rfl rfl ⟨_, rfl⟩ (fun _ => keeps_true _) (fun W hC hJ Φ hΦ => ?_) (fun v hv K hK => ?_)
                    · go_simp
                      refine (HCK.out _ hC).mono ?_
                      rintro e W2 ⟨rfl, hE2⟩
                      exact ⟨_, rfl, hΦ _ _ rfl (hC.trans hE2) hE2 trivial⟩
                    subst hv
                    go_simp; refine hK _ ?_; clear hK K
                    iterate 2 (refine ftext_det rfl rfl ?_; apply Exists.intro; refine ⟨fun w hC => ?_, fun K hK => ?_⟩; (first | (go_simp; exact rfl) | (go_simp; exact ⟨rfl, rfl⟩)); go_simp; refine hK _ ?_; clear hK K)
                    refine ftext_load_row 24 _ rfl rfl rfl b2 0 [.bool ng, .slice A kf c, .int .i64 ex] rfl aggDyadW (fun W hC => (HFB.out.ext hC).row) (fun K hK => ?_)
                    go_simp; refine hK _ ?_; clear hK K
                    refine ftext_row _ _ rfl rfl ⟨_, rfl⟩ (fun _ => keeps_true _) (fun W hC hJ Φ hΦ => ?_) (fun v hv K hK => ?_)
                    · go_simp
                      refine (HCW.out _ hC).mono ?_
                      rintro e W2 ⟨rfl, hE2⟩
                      exact ⟨_, rfl, hΦ _ _ rfl (hC.trans hE2) hE2 trivial⟩
                    subst hv
                    go_simp; refine hK _ ?_; clear hK K
                    iterate 3 (refine ftext_det rfl rfl ?_; apply Exists.intro; refine ⟨fun w hC => ?_, fun K hK => ?_⟩; (first | (go_simp; exact rfl) | (go_simp; exact ⟨rfl, rfl⟩) | (have h1 := HTX.out _ hC; go_simp; first | exact rfl | exact ⟨rfl, rfl⟩)); go_simp; refine hK _ ?_; clear hK K)
                    refine ftext_nil ?_
                    rintro W2 hC _ _
                    have HL : Hid (LeftI w0 w W2 b2) := Lib.hid (HRI.out.more hC).left
                    clear hC
                    simp only [List.drop_succ_cons, List.drop_zero]
                    refine wplIn_calls Open.wide rfl rfl (by kernel_rfl) (must_no W2) ?_ ?_ ?_
                    · rintro v w9 ⟨h, _⟩; cases h
                    · rintro ch w9 ⟨h, rfl⟩
                      injection h with h
                      subst h
                      exact ⟨rfl, .inr ⟨rfl, HBAD.out, HL.out⟩⟩
                    · rintro w9 ⟨h, _⟩; cases h
                · have HBAD : Hid (BadR s) := Lib.hid (fun a h => by
                    have h1 := h.1
                    rw [HRQ.out] at h1
                    injection h1 with h1
                    exact hm (h1 ▸ h.2.1))
                  obtain ⟨wd, hwd⟩ : ∃ x, wordL ⟨ng, lf, ex⟩ = x := ⟨_, rfl⟩
                  have HCK : Hid (∀ W, Ext WX W → Calls Tryd.prog 34 #[.agg #[.bool ng, .slice A kf c, .int .i64 ex]] W fun e w' => e = .returned (.int .i64 8) ∧ Ext W w') := Lib.hid (fun W hC => by
                    have h := dyad_Check ⟨ng, ⟨lf, A, c⟩, ex⟩ W (HFX.out.ext hC)
                    rw [show decide (mayD (XDyad.data ⟨ng, ⟨lf, A, c⟩, ex⟩)) = false from decide_eq_false hm] at h
                    dsimp only at h
                    rw [HKF.out] at h
                    exact h)
                  refine wp_region_flowTail 9 (Ext WX) (fun _ => True) Ext (fun i => if i = 1 then .row (fun v => v = .int .i64 8) (fun _ _ => True) else if i = 5 then .row (fun v => v = .string ⟨wd.toArray⟩) (fun _ _ => True) else .det) [1, 5] (by kernel_rfl) (by kernel_rfl) (by kernel_rfl) (Ext.drew _) trivial (keeps_true _) ?_
                  refine ftext_load_row 24 _ rfl rfl rfl b2 0 [.bool ng, .slice A kf c, .int .i64 ex] rfl aggDyadW (fun W hC => (HFB.out.ext hC).row) (fun K hK => ?_)
                  go_simp; refine hK _ ?_; clear hK K
                  refine ftext_row _ _ rfl rfl ⟨_, rfl⟩ (fun _ => keeps_true _) (fun W hC hJ Φ hΦ => ?_) (fun v hv K hK => ?_)
                  · go_simp
                    refine (HCK.out _ hC).mono ?_
                    rintro e W2 ⟨rfl, hE2⟩
                    exact ⟨_, rfl, hΦ _ _ rfl (hC.trans hE2) hE2 trivial⟩
                  subst hv
                  go_simp; refine hK _ ?_; clear hK K
                  iterate 2 (refine ftext_det rfl rfl ?_; apply Exists.intro; refine ⟨fun w hC => ?_, fun K hK => ?_⟩; (first | (go_simp; exact rfl) | (go_simp; exact ⟨rfl, rfl⟩)); go_simp; refine hK _ ?_; clear hK K)
                  iterate 4 (refine ftext_skip rfl rfl rfl rfl rfl (fun K hK => ?_); go_simp; refine hK _ ?_; clear hK K)
                  (refine ftext_det rfl rfl ?_; apply Exists.intro; refine ⟨fun w hC => ?_, fun K hK => ?_⟩; (first | (go_simp; exact rfl) | (go_simp; exact ⟨rfl, rfl⟩)); go_simp; refine hK _ ?_; clear hK K)
                  refine ftext_nil ?_
                  rintro W2 hC _ _
                  have HL : Hid (LeftI w0 w W2 b2) := Lib.hid (HRI.out.more hC).left
                  clear hC
                  simp only [List.drop_succ_cons, List.drop_zero]
                  refine wplIn_calls Open.wide rfl rfl (by kernel_rfl) (must_no W2) ?_ ?_ ?_
                  · rintro v w9 ⟨h, _⟩; cases h
                  · rintro ch w9 ⟨h, rfl⟩
                    injection h with h
                    subst h
                    exact ⟨rfl, .inr ⟨rfl, HBAD.out, HL.out⟩⟩
                  · rintro w9 ⟨h, _⟩; cases h
              · obtain ⟨j, rfl⟩ : ∃ j, k = j + 1 := ⟨k - 1, by omega⟩
                have hlt : j < (l.take (j + 1)).length := by rw [HKL.out]; omega
                have hlt2 : j < l.length := by omega
                obtain ⟨A', c', hAe, hlx⟩ := HK.out.1.own.form
                rw [HKL.out] at hAe
                injection hAe with hA1 _ hA2
                subst hA1 hA2
                obtain ⟨b, off, rfl, _, r⟩ := Sl.row (size := 1) (fun _ => rfl) hlx.1 (List.getElem?_eq_getElem hlt)
                obtain ⟨p, hp⟩ : ∃ p, (l.take (j + 1))[j] = p := ⟨_, rfl⟩
                have hp2 : l[j]? = some p := by rw [← hp, List.getElem_take, List.getElem?_eq_getElem hlt2]
                have hcj : wr.cell? ⟨b, off + j, none⟩ = some (.int .u32 p) := by have := r 0 _ rfl; rw [hp] at this; simpa using this
                have hlx1 := hlx.2.1
                have hlx2 := hlx.2.2
                dsimp only at hlx1 hlx2
                have hjc : (j : Int) < (c : Int) := by rw [HKL.out] at hlx1; omega
                have hcm : (c : Int) ≤ 9223372036854775807 := by unfold maxLen at hlx2; omega
                have hjc2 : (j : Int) ≤ (c : Int) := by omega
                have HP := Lib.hid hp2
                clear r hp hp2 hlx hlt hlx1 hlx2
                by_cases hz : p = 0
                · subst hz
                  have HNX : Hid (RdI w0 w (wr.setCell ⟨b2, 1, none⟩ (.slice (some ⟨b, off, none⟩) j c)) b2 ng (.slice (some ⟨b, off, none⟩) (l.take j).length c) (l.take j) ex ∧ val B32 (l.drop j) = 0) := Lib.hid ⟨by
                    have hjl : (l.take j).length = j := by rw [List.length_take]; omega
                    have h1 : Go.Hx.Own wr w.heap.size 33 1 cU32 (.slice (some ⟨b, off, none⟩) (l.take (j + 1)).length c) (l.take (j + 1)) := by rw [HKL.out]; exact HK.out.1.own
                    have h2 := Own.front (enc := cU32) (size := 1) (fun _ => rfl) h1 (k := j) (by rw [HKL.out]; omega)
                    rw [List.take_take, Nat.min_eq_left (by omega), hjl] at h2
                    rw [hjl]
                    exact RdJ.store ⟨HK.out.1.ext, HK.out.1.but, HK.out.1.blk, h2⟩ HB2L.out, by
                    rw [drop_cons HP.out, val_cons, HK.out.2]
                    rfl⟩
                  have hlen : cellLen ((wr.setCell ⟨b2, 1, none⟩ (.slice (some ⟨b, off, none⟩) j c)).cell? ⟨b2, 1, none⟩) = j := by
                    have h1 : (wr.setCell ⟨b2, 1, none⟩ (.slice (some ⟨b, off, none⟩) j c)).cell? ⟨b2, 1, none⟩ = some (.slice (some ⟨b, off, none⟩) (l.take j).length c) := HNX.out.1.blk.cell 1
                    rw [h1]
                    show (l.take j).length = j
                    rw [List.length_take]; omega
                  have HLEN := Lib.hid hlen
                  have HC1 := Lib.hid hc1
                  clear hlen
                  go_wp2_with fail
                  go_roundw
                  case rel => exact ⟨j, _, _, by omega, HNX⟩
                  case measure => rw [HLEN.out, HC1.out]; exact Nat.lt_succ_self j
                · have hzi : ((p : Int) == 0) = false := by simp [hz]
                  have HFIN : Hid (l.take (j + 1) = digs B32 (val B32 l)) := Lib.hid (digs_cut (by decide) (j + 1) (by omega) HLP.out.2.1 HK.out.2 (.inr ⟨p, HP.out, hz⟩))
                  go_wp2_with fail
                  clear hjc hcm hjc2 HP hz hzi hcj hlt2 hk0
                  have HRQ : Hid (readQ s = some ⟨ng, l.take (j + 1), ex⟩) := Lib.hid (by
                    unfold readQ
                    rw [HEX.out]
                    simp only [HPS.out]
                    rw [if_neg (by have := H320.out; omega), HLP.out.1, HFIN.out])
                  have HFL : Hid (Limbs (l.take (j + 1)) ∧ (l.take (j + 1)).length ≤ 320) := Lib.hid ⟨fun x hx => HLP.out.2.1 x (List.mem_of_mem_take hx), by have := HLP.out.2.2; rw [List.length_take]; omega⟩
                  obtain ⟨WX, rfl⟩ : ∃ W, W = wr := ⟨_, rfl⟩
                  have HFX : Hid (XDyad.ok WX WX.heap.size ⟨ng, ⟨l.take (j + 1), (some ⟨b, off, none⟩), c⟩, ex⟩) := Lib.hid (XDyad.mine.ok (x := ⟨ng, ⟨l.take (j + 1), (some ⟨b, off, none⟩), c⟩, ex⟩) ⟨by rw [HKL.out]; exact HK.out.1.own⟩)
                  obtain ⟨lf, hlf⟩ : ∃ x, l.take (j + 1) = x := ⟨_, rfl⟩
                  obtain ⟨kf, HKE⟩ : ∃ x, Hid ((j + 1) = x) := ⟨_, Lib.hid rfl⟩
                  have HKF : Hid (lf.length = kf) := Lib.hid (by rw [← hlf, HKL.out]; exact HKE.out)
                  have HRI : Hid (RdI w0 w WX b2 ng (.slice (some ⟨b, off, none⟩) kf c) lf ex) := Lib.hid (by rw [← hlf, ← HKE.out]; exact HK.out.1)
                  rw [hlf] at HRQ HFL HFX
                  clear hlf HK HFIN HKL hc1 hf1 HKE
                  have HFB : Hid (Blk WX b2 24 [.bool ng, .slice (some ⟨b, off, none⟩) kf c, .int .i64 ex]) := Lib.hid HRI.out.blk
                  by_cases hm : mayD ⟨ng, lf, ex⟩
                  · obtain ⟨wd, hwd⟩ : ∃ x, wordL ⟨ng, lf, ex⟩ = x := ⟨_, rfl⟩
                    have HCK : Hid (∀ W, Ext WX W → Calls Tryd.prog 34 #[.agg #[.bool ng, .slice (some ⟨b, off, none⟩) kf c, .int .i64 ex]] W fun e w' => e = .returned (.int .i64 0) ∧ Ext W w') := Lib.hid (fun W hC => by
                      have h := dyad_Check ⟨ng, ⟨lf, (some ⟨b, off, none⟩), c⟩, ex⟩ W (HFX.out.ext hC)
                      rw [show decide (mayD (XDyad.data ⟨ng, ⟨lf, (some ⟨b, off, none⟩), c⟩, ex⟩)) = true from decide_eq_true hm] at h
                      dsimp only at h
                      rw [HKF.out] at h
                      exact h)
                    have HCW : Hid (∀ W, Ext WX W → Calls Tryd.prog 72 #[.agg #[.bool ng, .slice (some ⟨b, off, none⟩) kf c, .int .i64 ex]] W fun e w' => e = .returned (.string ⟨wd.toArray⟩) ∧ Ext W w') := Lib.hid (fun W hC => by
                      have h := tale_word ⟨ng, ⟨lf, (some ⟨b, off, none⟩), c⟩, ex⟩ W (HFX.out.ext hC) HFL.out.1 (by have := hm.1.1; dsimp only at *; omega) ⟨by have := hm.2.1; dsimp only at *; omega, by have := hm.2.1; dsimp only at *; omega⟩ (HTA.out.2.2.1.ext (HRI.out.ext.trans hC)) (HTA.out.2.2.2.ext (HRI.out.ext.trans hC))
                      rw [show wordL (XDyad.data ⟨ng, ⟨lf, (some ⟨b, off, none⟩), c⟩, ex⟩) = wd from hwd] at h
                      dsimp only at h
                      rw [HKF.out] at h
                      exact h)
                    have HTX : Hid (∀ W, Ext WX W → W.cell? ⟨b1, 0, none⟩ = some (.string ⟨s.toArray⟩)) := Lib.hid (fun W hC => hC.cell (HRI.out.but.cell HNE.out h1))
                    have HMW : Hid (mayD ⟨ng, lf, ex⟩ ∧ wordL ⟨ng, lf, ex⟩ = wd) := Lib.hid ⟨hm, hwd⟩
                    clear hm hwd
                    by_cases hw : wd = s
                    · have heq : (wd == s) = true := by rw [hw]; exact beq_self_eq_true _
                      have HG : Hid (GoodR s ⟨ng, lf, ex⟩) := Lib.hid ⟨HRQ.out, HMW.out.1, HMW.out.2.trans hw⟩
                      clear hw
                      refine wp_region_flowTail 9 (Ext WX) (fun _ => True) Ext (fun i => if i = 1 then .row (fun v => v = .int .i64 0) (fun _ _ => True) else if i = 5 then .row (fun v => v = .string ⟨wd.toArray⟩) (fun _ _ => True) else .det) [1, 5] (by kernel_rfl) (by kernel_rfl) (by kernel_rfl) (Ext.drew _) trivial (keeps_true _) ?_
                      refine ftext_load_row 24 _ rfl rfl rfl b2 0 [.bool ng, .slice (some ⟨b, off, none⟩) kf c, .int .i64 ex] rfl aggDyadW (fun W hC => (HFB.out.ext hC).row) (fun K hK => ?_)
                      go_simp; refine hK _ ?_; clear hK K
                      refine ftext_row _ _ rfl rfl ⟨_, rfl⟩ (fun _ => keeps_true _) (fun W hC hJ Φ hΦ => ?_) (fun v hv K hK => ?_)
                      · go_simp
                        refine (HCK.out _ hC).mono ?_
                        rintro e W2 ⟨rfl, hE2⟩
                        exact ⟨_, rfl, hΦ _ _ rfl (hC.trans hE2) hE2 trivial⟩
                      subst hv
                      go_simp; refine hK _ ?_; clear hK K
                      iterate 2 (refine ftext_det rfl rfl ?_; apply Exists.intro; refine ⟨fun w hC => ?_, fun K hK => ?_⟩; (first | (go_simp; exact rfl) | (go_simp; exact ⟨rfl, rfl⟩)); go_simp; refine hK _ ?_; clear hK K)
                      refine ftext_load_row 24 _ rfl rfl rfl b2 0 [.bool ng, .slice (some ⟨b, off, none⟩) kf c, .int .i64 ex] rfl aggDyadW (fun W hC => (HFB.out.ext hC).row) (fun K hK => ?_)
                      go_simp; refine hK _ ?_; clear hK K
                      refine ftext_row _ _ rfl rfl ⟨_, rfl⟩ (fun _ => keeps_true _) (fun W hC hJ Φ hΦ => ?_) (fun v hv K hK => ?_)
                      · go_simp
                        refine (HCW.out _ hC).mono ?_
                        rintro e W2 ⟨rfl, hE2⟩
                        exact ⟨_, rfl, hΦ _ _ rfl (hC.trans hE2) hE2 trivial⟩
                      subst hv
                      go_simp; refine hK _ ?_; clear hK K
                      iterate 3 (refine ftext_det rfl rfl ?_; apply Exists.intro; refine ⟨fun w hC => ?_, fun K hK => ?_⟩; (first | (go_simp; exact rfl) | (go_simp; exact ⟨rfl, rfl⟩) | (have h1 := HTX.out _ hC; go_simp; first | exact rfl | exact ⟨rfl, rfl⟩)); go_simp; refine hK _ ?_; clear hK K)
                      refine ftext_nil ?_
                      rintro W2 hC _ _
                      have HL := Lib.hid (HRI.out.more hC)
                      clear hC
                      simp only [List.drop_succ_cons, List.drop_zero]
                      refine wplIn_calls Open.wide rfl rfl (by kernel_rfl) (must_yes W2) ?_ ?_ ?_
                      · rintro v w9 ⟨h, rfl⟩
                        injection h with h
                        subst h
                        refine wpListIn_nil ?_
                        first | go_end0 | refine ⟨rfl, _, results_none rfl _ _ _, ?_⟩
                        exact .inl ⟨rfl, _, _, _, _, HL.out, HG.out⟩
                      · rintro v w9 ⟨h, _⟩; cases h
                      · rintro w9 ⟨h, _⟩; cases h
                    · have heq : (wd == s) = false := by simpa using hw
                      have HBAD : Hid (BadR s) := Lib.hid (fun a h => by
                        have h1 := h.1
                        rw [HRQ.out] at h1
                        injection h1 with h1
                        refine hw ?_
                        rw [← HMW.out.2, h1]
                        exact h.2.2)
                      clear hw
                      refine wp_region_flowTail 9 (Ext WX) (fun _ => True) Ext (fun i => if i = 1 then .row (fun v => v = .int .i64 0) (fun _ _ => True) else if i = 5 then .row (fun v => v = .string ⟨wd.toArray⟩) (fun _ _ => True) else .det) [1, 5] (by kernel_rfl) (by kernel_rfl) (by kernel_rfl) (Ext.drew _) trivial (keeps_true _) ?_
                      refine ftext_load_row 24 _ rfl rfl rfl b2 0 [.bool ng, .slice (some ⟨b, off, none⟩) kf c, .int .i64 ex] rfl aggDyadW (fun W hC => (HFB.out.ext hC).row) (fun K hK => ?_)
                      go_simp; refine hK _ ?_; clear hK K
                      refine ftext_row _ _ rfl rfl ⟨_, rfl⟩ (fun _ => keeps_true _) (fun W hC hJ Φ hΦ => ?_) (fun v hv K hK => ?_)
                      · go_simp
                        refine (HCK.out _ hC).mono ?_
                        rintro e W2 ⟨rfl, hE2⟩
                        exact ⟨_, rfl, hΦ _ _ rfl (hC.trans hE2) hE2 trivial⟩
                      subst hv
                      go_simp; refine hK _ ?_; clear hK K
                      iterate 2 (refine ftext_det rfl rfl ?_; apply Exists.intro; refine ⟨fun w hC => ?_, fun K hK => ?_⟩; (first | (go_simp; exact rfl) | (go_simp; exact ⟨rfl, rfl⟩)); go_simp; refine hK _ ?_; clear hK K)
                      refine ftext_load_row 24 _ rfl rfl rfl b2 0 [.bool ng, .slice (some ⟨b, off, none⟩) kf c, .int .i64 ex] rfl aggDyadW (fun W hC => (HFB.out.ext hC).row) (fun K hK => ?_)
                      go_simp; refine hK _ ?_; clear hK K
                      refine ftext_row _ _ rfl rfl ⟨_, rfl⟩ (fun _ => keeps_true _) (fun W hC hJ Φ hΦ => ?_) (fun v hv K hK => ?_)
                      · go_simp
                        refine (HCW.out _ hC).mono ?_
                        rintro e W2 ⟨rfl, hE2⟩
                        exact ⟨_, rfl, hΦ _ _ rfl (hC.trans hE2) hE2 trivial⟩
                      subst hv
                      go_simp; refine hK _ ?_; clear hK K
                      iterate 3 (refine ftext_det rfl rfl ?_; apply Exists.intro; refine ⟨fun w hC => ?_, fun K hK => ?_⟩; (first | (go_simp; exact rfl) | (go_simp; exact ⟨rfl, rfl⟩) | (have h1 := HTX.out _ hC; go_simp; first | exact rfl | exact ⟨rfl, rfl⟩)); go_simp; refine hK _ ?_; clear hK K)
                      refine ftext_nil ?_
                      rintro W2 hC _ _
                      have HL : Hid (LeftI w0 w W2 b2) := Lib.hid (HRI.out.more hC).left
                      clear hC
                      simp only [List.drop_succ_cons, List.drop_zero]
                      refine wplIn_calls Open.wide rfl rfl (by kernel_rfl) (must_no W2) ?_ ?_ ?_
                      · rintro v w9 ⟨h, _⟩; cases h
                      · rintro ch w9 ⟨h, rfl⟩
                        injection h with h
                        subst h
                        exact ⟨rfl, .inr ⟨rfl, HBAD.out, HL.out⟩⟩
                      · rintro w9 ⟨h, _⟩; cases h
                  · have HBAD : Hid (BadR s) := Lib.hid (fun a h => by
                      have h1 := h.1
                      rw [HRQ.out] at h1
                      injection h1 with h1
                      exact hm (h1 ▸ h.2.1))
                    obtain ⟨wd, hwd⟩ : ∃ x, wordL ⟨ng, lf, ex⟩ = x := ⟨_, rfl⟩
                    have HCK : Hid (∀ W, Ext WX W → Calls Tryd.prog 34 #[.agg #[.bool ng, .slice (some ⟨b, off, none⟩) kf c, .int .i64 ex]] W fun e w' => e = .returned (.int .i64 8) ∧ Ext W w') := Lib.hid (fun W hC => by
                      have h := dyad_Check ⟨ng, ⟨lf, (some ⟨b, off, none⟩), c⟩, ex⟩ W (HFX.out.ext hC)
                      rw [show decide (mayD (XDyad.data ⟨ng, ⟨lf, (some ⟨b, off, none⟩), c⟩, ex⟩)) = false from decide_eq_false hm] at h
                      dsimp only at h
                      rw [HKF.out] at h
                      exact h)
                    refine wp_region_flowTail 9 (Ext WX) (fun _ => True) Ext (fun i => if i = 1 then .row (fun v => v = .int .i64 8) (fun _ _ => True) else if i = 5 then .row (fun v => v = .string ⟨wd.toArray⟩) (fun _ _ => True) else .det) [1, 5] (by kernel_rfl) (by kernel_rfl) (by kernel_rfl) (Ext.drew _) trivial (keeps_true _) ?_
                    refine ftext_load_row 24 _ rfl rfl rfl b2 0 [.bool ng, .slice (some ⟨b, off, none⟩) kf c, .int .i64 ex] rfl aggDyadW (fun W hC => (HFB.out.ext hC).row) (fun K hK => ?_)
                    go_simp; refine hK _ ?_; clear hK K
                    refine ftext_row _ _ rfl rfl ⟨_, rfl⟩ (fun _ => keeps_true _) (fun W hC hJ Φ hΦ => ?_) (fun v hv K hK => ?_)
                    · go_simp
                      refine (HCK.out _ hC).mono ?_
                      rintro e W2 ⟨rfl, hE2⟩
                      exact ⟨_, rfl, hΦ _ _ rfl (hC.trans hE2) hE2 trivial⟩
                    subst hv
                    go_simp; refine hK _ ?_; clear hK K
                    iterate 2 (refine ftext_det rfl rfl ?_; apply Exists.intro; refine ⟨fun w hC => ?_, fun K hK => ?_⟩; (first | (go_simp; exact rfl) | (go_simp; exact ⟨rfl, rfl⟩)); go_simp; refine hK _ ?_; clear hK K)
                    iterate 4 (refine ftext_skip rfl rfl rfl rfl rfl (fun K hK => ?_); go_simp; refine hK _ ?_; clear hK K)
                    (refine ftext_det rfl rfl ?_; apply Exists.intro; refine ⟨fun w hC => ?_, fun K hK => ?_⟩; (first | (go_simp; exact rfl) | (go_simp; exact ⟨rfl, rfl⟩)); go_simp; refine hK _ ?_; clear hK K)
                    refine ftext_nil ?_
                    rintro W2 hC _ _
                    have HL : Hid (LeftI w0 w W2 b2) := Lib.hid (HRI.out.more hC).left
                    clear hC
                    simp only [List.drop_succ_cons, List.drop_zero]
                    refine wplIn_calls Open.wide rfl rfl (by kernel_rfl) (must_no W2) ?_ ?_ ?_
                    · rintro v w9 ⟨h, _⟩; cases h
                    · rintro ch w9 ⟨h, rfl⟩
                      injection h with h
                      subst h
                      exact ⟨rfl, .inr ⟨rfl, HBAD.out, HL.out⟩⟩
                    · rintro w9 ⟨h, _⟩; cases h
          · have hpos : 0 < cur.length := List.length_pos_iff.2 h0
            have hposi : (0 : Int) < (cur.length : Int) := by omega
            obtain ⟨q, hq⟩ : ∃ q, cur.length - 8 = q := ⟨_, rfl⟩
            have HQ := Lib.hid hq
            have HS1 : ∀ W, (Instr.slice 9 (.string ⟨cur.toArray⟩) (some (.int .i64 (q : Int))) none none).run Tryd.prog W = .ok (.string ⟨(cur.drop q).toArray⟩) W := fun W => by
              rw [run_slice_string_l W 9 ⟨cur.toArray⟩ Tryd.underlying9 .i64 (q : Int) (by omega) (by show (q : Int) ≤ (cur.length : Int); omega), Go.ByteArray.extract_mk]
              rw [show ((q : Int)).toNat = q by omega, show (ByteArray.mk cur.toArray).size = cur.length from rfl, List.take_of_length_le (by rw [List.length_drop]; omega)]
            have HS2 : Hid (∀ W, (Instr.slice 9 (.string ⟨cur.toArray⟩) none (some (.int .i64 (q : Int))) none).run Tryd.prog W = .ok (.string ⟨(cur.take q).toArray⟩) W) := Lib.hid fun W => by
              rw [run_slice_string_h W 9 ⟨cur.toArray⟩ Tryd.underlying9 .i64 (q : Int) (by omega) (by show (q : Int) ≤ (cur.length : Int); omega), Go.ByteArray.extract_mk]
              simp
            have hmax : max (0 : Int) ((cur.length : Int) - 8) = (q : Int) := by omega
            have hcne : Hid (cur.drop q ≠ [] ∧ (cur.drop q).length ≤ 8) := Lib.hid ⟨fun e => by have := congrArg List.length e; rw [List.length_drop] at this; simp at this; omega, by rw [List.length_drop]; omega⟩
            have hcur320 : (cur.length : Int) ≤ 320 := by omega
            clear hlx hq
            go_wp2_with fail
            refine (parse_16 (cur.drop q) hcne.out.1 hcne.out.2 _ (HTA.out.1.ext HJ.out.1.ext)).mono ?_
            rintro e w7 (⟨n, rfl, hn, hn32, hE⟩ | ⟨u, t, p, rfl, hno, hE⟩)
            · have HK := Lib.hid (HJ.out.1.more hE)
              have HN : Hid (hexs (cur.drop q) 0 = some n ∧ n < B32) := Lib.hid ⟨hn, hn32⟩
              have hni : (n : Int) < 4294967296 := by omega
              clear hn hE hn32
              go_wp2_with fail
              refine (must_yes _).mono ?_
              rintro e w8 ⟨rfl, rfl⟩
              have hw32 : IntKind.u32.wrap (n : Int) = (n : Int) := by rw [IntKind.wrap_u32]; omega
              go_wp2_with fail
              refine CP.wp_region_chain (fun W => W.cell? ⟨b2, 1, none⟩ = some (.slice A l.length c)) (fun W => RdI w0 w W b2 ng (.slice A l.length c) l ex) (fun i => if i = 1 then 0 else if i = 4 ∨ i = 5 then 1 else if i = 10 then 2 else 3) (by kernel_rfl) (by kernel_rfl) (HK.out.blk.cell 1) (HK.out.more (Ext.drew _)) ?_
              (refine CP.ctext_pure rfl rfl ?_; apply Exists.intro; refine ⟨fun W => ?_, fun K hK => ?_⟩; (first | (go_simp; exact rfl) | (go_simp; exact ⟨rfl, rfl⟩) | (have h1 := HS2.out W; go_simp; first | exact rfl | exact ⟨rfl, rfl⟩)); go_simp; refine hK _ ?_; clear hK K)
              refine CP.ctext_det rfl rfl ?_; apply Exists.intro; refine ⟨fun W hC => ?_, fun K hK => ?_⟩
              · go_simp; first | exact rfl | exact ⟨rfl, rfl⟩
              go_simp; refine hK _ ?_; clear hK K
              iterate 2 (refine CP.ctext_pure rfl rfl ?_; apply Exists.intro; refine ⟨fun W => ?_, fun K hK => ?_⟩; (first | (go_simp; exact rfl) | (go_simp; exact ⟨rfl, rfl⟩) | (have h1 := HS2.out W; go_simp; first | exact rfl | exact ⟨rfl, rfl⟩)); go_simp; refine hK _ ?_; clear hK K)
              refine CP.ctext_chain (fun v => ∃ g c2, v = .slice (some ⟨g, 0, none⟩) 1 c2) (fun v W => RdI w0 w W b2 ng (.slice A l.length c) l ex ∧ ∃ g c2, v = .slice (some ⟨g, 0, none⟩) 1 c2 ∧ Sl W W.heap.size cU32 (some ⟨g, 0, none⟩) [n]) rfl rfl ⟨_, 0, 0, rfl⟩ (fun W hC hJ Φ hΦ => ?_) (fun v hv K hK => ?_)
              · go_simp
                refine hΦ _ _ ⟨_, _, rfl⟩ ((Ext.alloc W _).cell hC) ⟨hJ.more (Ext.alloc _ _), _, _, rfl, .inr ⟨_, _, rfl, ?_, ?_⟩⟩
                · simp
                · exact Blk.row (Blk.new rfl)
              obtain ⟨gb, cb, rfl⟩ := hv
              go_simp; refine hK _ ?_; clear hK K
              refine CP.ctext_chain (fun v => ∃ A2 c2, v = .slice A2 (l ++ [n]).length c2) (fun v W => RdJ w0 w W b2 ng (.slice A l.length c) v (l ++ [n]) ex) rfl rfl ⟨_, none, 0, rfl⟩ (fun W hC hJ Φ hΦ => ?_) (fun v hv K hK => ?_)
              · obtain ⟨hJ1, g, c2, hg, hsl⟩ := hJ
                injection hg with hg1 _ hg2
                injection hg1 with hg1
                injection hg1 with hg1
                subst hg1 hg2
                refine und_app_many elu32 (.tmp 55) (.tmp 58) rfl W w.heap.size cU32 _ l [n] rfl hJ1.own (some ⟨gb, 0, none⟩) 1 _ rfl rfl hsl (fun _ => rfl) (fun _ => rfl) (by have := HJ.out.2.2.1; simp; omega) (by have := HJ.out.2.2.1; unfold maxLen; simp; omega) hJ1.but.size ?_
                intro v' w' hown' hgrow
                obtain ⟨A', c', rfl, _⟩ := hown'.form
                exact hΦ _ _ ⟨_, _, rfl⟩ ((hJ1.grown hown' hgrow HB2L.out).blk.cell 1) (hJ1.grown hown' hgrow HB2L.out)
              obtain ⟨A2, c2, rfl⟩ := hv
              go_simp; refine hK _ ?_; clear hK K
              iterate 4 (refine CP.ctext_pure rfl rfl ?_; apply Exists.intro; refine ⟨fun W => ?_, fun K hK => ?_⟩; (first | (go_simp; exact rfl) | (go_simp; exact ⟨rfl, rfl⟩) | (have h1 := HS2.out W; go_simp; first | exact rfl | exact ⟨rfl, rfl⟩)); go_simp; refine hK _ ?_; clear hK K)
              refine CP.ctext_bar (fun v => v = undef) (fun _ _ => True) (fun _ W => RdI w0 w W b2 ng (.slice A2 (l ++ [n]).length c2) (l ++ [n]) ex) rfl rfl ⟨_, rfl⟩ (fun _ _ => ⟨w, trivial⟩) (fun W hC hJ Φ hΦ => ?_) (fun v hv K hK => ?_)
              · have hz := hJ.blk.free 1
                go_simp
                exact hΦ _ _ rfl trivial (by have h9 := hJ.store HB2L.out; simp only [List.length_append, List.length_cons, List.length_nil] at h9 ⊢; exact h9)
              subst hv
              go_simp; refine hK _ ?_; clear hK K
              iterate 1 (refine CP.ctext_pure rfl rfl ?_; apply Exists.intro; refine ⟨fun W => ?_, fun K hK => ?_⟩; (first | (go_simp; exact rfl) | (go_simp; exact ⟨rfl, rfl⟩) | (have h1 := HS2.out W; go_simp; first | exact rfl | exact ⟨rfl, rfl⟩)); go_simp; refine hK _ ?_; clear hK K)
              refine CP.ctext_nil ?_
              rintro W2 _ hW2
              have HNX := Lib.hid hW2
              clear hW2
              have HLN : Hid (Limbs (l ++ [n]) ∧ (l ++ [n]).length + (cur.take q).length ≤ 320 ∧ limP ps = (limP (cur.take q)).map ((l ++ [n]) ++ ·)) := Lib.hid ⟨fun x hx => by
                rcases List.mem_append.1 hx with hx | hx
                · exact HJ.out.2.1 x hx
                · rw [List.mem_singleton.1 hx]; exact HN.out.2, by
                have h1 := HJ.out.2.2.1
                have h2 := HQ.out
                rw [List.length_append, List.length_take]
                simp only [List.length_cons, List.length_nil]
                omega, by
                rw [HJ.out.2.2.2, limP_step h0, HQ.out, HN.out.1]
                cases limP (cur.take q) <;> simp⟩
              go_wp2_with fail
              go_roundw
              case rel => exact ⟨cur.take q, l ++ [n], _, by rw [List.length_take]; omega, rfl, Lib.hid ⟨HNX.out, HLN.out.1, HLN.out.2.1, HLN.out.2.2⟩⟩
              case measure => simp [strSz, ByteArray.size]; have := HQ.out; omega
            · have HBAD : Hid (BadR s) := Lib.hid (fun a h => by
                have h1 := h.1
                unfold readQ at h1
                rw [HEX.out] at h1
                simp only [HPS.out] at h1
                have h2 : limP cur = none := by rw [limP_step h0, HQ.out, hno]
                rw [if_neg (by have := H320.out; omega), HJ.out.2.2.2, h2] at h1
                cases h1)
              have HL := Lib.hid (HJ.out.1.more hE).left
              clear hno hE
              go_wp2_with fail
              refine (must_no _).mono ?_
              rintro e w8 ⟨rfl, rfl⟩
              go_wp2_with fail
              exact ⟨rfl, .inr ⟨rfl, HBAD.out, HL.out⟩⟩
      · have h320i : ¬ (ps.length : Int) ≤ 320 := by omega
        have HBAD : Hid (BadR s) := Lib.hid (fun a h => by
          have h1 := h.1
          unfold readQ at h1
          rw [HEX.out] at h1
          simp only [HPS.out] at h1
          rw [if_pos (by omega)] at h1
          cases h1)
        go_wp2_with fail
        rw [decide_eq_false (show ¬ (ps.length : Int) ≤ 320 by omega)]
        refine (must_no _).mono ?_
        rintro e w6 ⟨rfl, rfl⟩
        go_wp2_with fail
        exact ⟨rfl, .inr ⟨rfl, HBAD.out, HI2.out.left⟩⟩
    · have HBAD : Hid (BadR s) := Lib.hid (fun a h => by
        have h1 := h.1
        unfold readQ expQ at h1
        rw [HCUT.out] at h1
        simp only [if_true] at h1
        revert h1 hv
        generalize Lib.atoiAll pb = q
        intro hv h1
        cases q <;> first | exact hv _ rfl | simp at h1)
      have HL := Lib.hid (HI1.out.more hE).left
      clear hv hE HI1
      go_wp2_with fail
      refine (must_no _).mono ?_
      rintro e w3 ⟨rfl, rfl⟩
      go_wp2_with fail
      exact ⟨rfl, .inr ⟨rfl, HBAD.out, HL.out⟩⟩
  | false =>
    have HEX : Hid (expQ s = some (pa, 0)) := Lib.hid (by unfold expQ; rw [HCUT.out]; rfl)
    have HI := HI1
    obtain ⟨w4, hw4⟩ : ∃ W, w1 = W := ⟨_, rfl⟩
    subst hw4
    clear HI1
    have hcp := Tryd.strings_CutPrefix ⟨pa.toArray⟩ ⟨#[45]⟩ w1
    have hcs2 := cutS_eq pa
    obtain ⟨⟨ps, ng⟩, hps⟩ : ∃ p, cutS pa = p := ⟨_, rfl⟩
    have HPS := Lib.hid hps
    have HPL : Hid (ps.length ≤ pa.length) := Lib.hid (by have := cutS_len pa; rw [hps] at this; exact this)
    rw [show (ByteArray.mk pa.toArray).data.toList = pa from rfl, show (ByteArray.mk #[45]).data.toList = [45] from rfl, ← hcs2.1, ← hcs2.2, hps] at hcp
    dsimp only at hcp
    clear hcs2 hps
    go_wp2_with fail
    refine hcp.mono ?_
    rintro e w5 ⟨rfl, rfl⟩
    clear hcp
    have hf0 := HI.out.blk.free 0
    have hc0 : w5.cell? ⟨b2, 0, none⟩ = some (.bool false) := HI.out.blk.cell 0
    have HI2 : Hid (RdI w0 w (w5.setCell ⟨b2, 0, none⟩ (.bool ng)) b2 ng (.slice none 0 0) [] (0 : Int)) := Lib.hid (HI.out.set 0 _ HB2L.out rfl rfl)
    have hsz : ((ByteArray.mk ps.toArray).size : Int) = (ps.length : Int) := rfl
    by_cases h320 : ps.length ≤ 320
    · have h320i : (ps.length : Int) ≤ 320 := by omega
      go_wp2_with fail
      refine (must_yes _).mono ?_
      rintro e w6 ⟨rfl, rfl⟩
      clear hf0 hc0
      generalize w5.setCell ⟨b2, 0, none⟩ (.bool ng) = w6 at *
      have H320 := Lib.hid h320
      clear h320 h320i hsz HI
      go_wp2_with fail
      go_loopw [2] (fun sv W => ∃ (cur : List UInt8) (l : List Nat) (v : Value), cur.length ≤ 320 ∧ sv = .string ⟨cur.toArray⟩ ∧ Hid (RdI w0 w W b2 ng v l (0 : Int) ∧ Limbs l ∧ l.length + cur.length ≤ 320 ∧ limP ps = (limP cur).map (l ++ ·))) (fun sv _ => strSz sv)
      case atStart => exact ⟨ps, [], _, H320.out, rfl, Lib.hid ⟨HI2.out, (fun x hx => by cases hx), by have := H320.out; simpa using this, by cases limP ps <;> rfl⟩⟩
      case round =>
        obtain ⟨cur, l, v, hcur, rfl, HJ⟩ := hrel
        obtain ⟨A, c, rfl, hlx⟩ := HJ.out.1.own.form
        have hsz : ((ByteArray.mk cur.toArray).size : Int) = (cur.length : Int) := rfl
        by_cases h0 : cur = []
        · subst h0
          have HLP : Hid (limP ps = some l ∧ Limbs l ∧ l.length ≤ 320) := Lib.hid ⟨by rw [HJ.out.2.2.2, limP_nil]; simp, HJ.out.2.1, by have := HJ.out.2.2.1; simpa using this⟩
          have HRI := Lib.hid HJ.out.1
          clear HJ hlx hcur
          go_wp2_with fail
          go_loopw [] (fun W => ∃ (k : Nat) (A : Option Addr) (c : Nat), k ≤ l.length ∧ Hid (RdI w0 w W b2 ng (.slice A (l.take k).length c) (l.take k) (0 : Int) ∧ val B32 (l.drop k) = 0)) (fun W => cellLen (W.cell? ⟨b2, 1, none⟩))
          case atStart => exact ⟨l.length, A, c, by omega, Lib.hid ⟨by rw [List.take_length]; exact HRI.out, by rw [List.drop_length]; rfl⟩⟩
          case round =>
            obtain ⟨k, A, c, hk, HK⟩ := hrel
            clear HRI
            have hkl : (l.take k).length = k := by rw [List.length_take]; omega
            rw [hkl] at HK
            have hc1 : wr.cell? ⟨b2, 1, none⟩ = some (.slice A k c) := HK.out.1.blk.cell 1
            have hf1 := HK.out.1.blk.free 1
            have HKL := Lib.hid hkl
            clear hkl
            by_cases hk0 : k = 0
            · subst hk0
              have HVZ : Hid (val B32 l = 0 ∧ l.take 0 = digs B32 (val B32 l)) := Lib.hid (by
                have h1 := HK.out.2
                rw [List.drop_zero] at h1
                exact ⟨h1, by rw [h1, digs_zero]; rfl⟩)
              have HFIN : Hid (l.take 0 = digs B32 (val B32 l)) := Lib.hid HVZ.out.2
              go_wp2_with fail
              clear HVZ
              have HRQ : Hid (readQ s = some ⟨ng, l.take 0, (0 : Int)⟩) := Lib.hid (by
                unfold readQ
                rw [HEX.out]
                simp only [HPS.out]
                rw [if_neg (by have := H320.out; omega), HLP.out.1, HFIN.out])
              have HFL : Hid (Limbs (l.take 0) ∧ (l.take 0).length ≤ 320) := Lib.hid ⟨fun x hx => HLP.out.2.1 x (List.mem_of_mem_take hx), by have := HLP.out.2.2; rw [List.length_take]; omega⟩
              obtain ⟨WX, rfl⟩ : ∃ W, W = wr := ⟨_, rfl⟩
              have HFX : Hid (XDyad.ok WX WX.heap.size ⟨ng, ⟨l.take 0, A, c⟩, (0 : Int)⟩) := Lib.hid (XDyad.mine.ok (x := ⟨ng, ⟨l.take 0, A, c⟩, (0 : Int)⟩) ⟨by rw [HKL.out]; exact HK.out.1.own⟩)
              obtain ⟨lf, hlf⟩ : ∃ x, l.take 0 = x := ⟨_, rfl⟩
              obtain ⟨kf, HKE⟩ : ∃ x, Hid (0 = x) := ⟨_, Lib.hid rfl⟩
              have HKF : Hid (lf.length = kf) := Lib.hid (by rw [← hlf, HKL.out]; exact HKE.out)
              have HRI : Hid (RdI w0 w WX b2 ng (.slice A kf c) lf (0 : Int)) := Lib.hid (by rw [← hlf, ← HKE.out]; exact HK.out.1)
              rw [hlf] at HRQ HFL HFX
              clear hlf HK HFIN HKL hc1 hf1 HKE
              have HFB : Hid (Blk WX b2 24 [.bool ng, .slice A kf c, .int .i64 (0 : Int)]) := Lib.hid HRI.out.blk
              by_cases hm : mayD ⟨ng, lf, (0 : Int)⟩
              · obtain ⟨wd, hwd⟩ : ∃ x, wordL ⟨ng, lf, (0 : Int)⟩ = x := ⟨_, rfl⟩
                have HCK : Hid (∀ W, Ext WX W → Calls Tryd.prog 34 #[.agg #[.bool ng, .slice A kf c, .int .i64 (0 : Int)]] W fun e w' => e = .returned (.int .i64 0) ∧ Ext W w') := Lib.hid (fun W hC => by
                  have h := dyad_Check ⟨ng, ⟨lf, A, c⟩, (0 : Int)⟩ W (HFX.out.ext hC)
                  rw [show decide (mayD (XDyad.data ⟨ng, ⟨lf, A, c⟩, (0 : Int)⟩)) = true from decide_eq_true hm] at h
                  dsimp only at h
                  rw [HKF.out] at h
                  exact h)
                have HCW : Hid (∀ W, Ext WX W → Calls Tryd.prog 72 #[.agg #[.bool ng, .slice A kf c, .int .i64 (0 : Int)]] W fun e w' => e = .returned (.string ⟨wd.toArray⟩) ∧ Ext W w') := Lib.hid (fun W hC => by
                  have h := tale_word ⟨ng, ⟨lf, A, c⟩, (0 : Int)⟩ W (HFX.out.ext hC) HFL.out.1 (by have := hm.1.1; dsimp only at *; omega) ⟨by have := hm.2.1; dsimp only at *; omega, by have := hm.2.1; dsimp only at *; omega⟩ (HTA.out.2.2.1.ext (HRI.out.ext.trans hC)) (HTA.out.2.2.2.ext (HRI.out.ext.trans hC))
                  rw [show wordL (XDyad.data ⟨ng, ⟨lf, A, c⟩, (0 : Int)⟩) = wd from hwd] at h
                  dsimp only at h
                  rw [HKF.out] at h
                  exact h)
                have HTX : Hid (∀ W, Ext WX W → W.cell? ⟨b1, 0, none⟩ = some (.string ⟨s.toArray⟩)) := Lib.hid (fun W hC => hC.cell (HRI.out.but.cell HNE.out h1))
                have HMW : Hid (mayD ⟨ng, lf, (0 : Int)⟩ ∧ wordL ⟨ng, lf, (0 : Int)⟩ = wd) := Lib.hid ⟨hm, hwd⟩
                clear hm hwd
                by_cases hw : wd = s
                · have heq : (wd == s) = true := by rw [hw]; exact beq_self_eq_true _
                  have HG : Hid (GoodR s ⟨ng, lf, (0 : Int)⟩) := Lib.hid ⟨HRQ.out, HMW.out.1, HMW.out.2.trans hw⟩
                  clear hw
                  refine wp_region_flowTail 9 (Ext WX) (fun _ => True) Ext (fun i => if i = 1 then .row (fun v => v = .int .i64 0) (fun _ _ => True) else if i = 5 then .row (fun v => v = .string ⟨wd.toArray⟩) (fun _ _ => True) else .det) [1, 5] (by kernel_rfl) (by kernel_rfl) (by kernel_rfl) (Ext.drew _) trivial (keeps_true _) ?_
                  refine ftext_load_row 24 _ rfl rfl rfl b2 0 [.bool ng, .slice A kf c, .int .i64 (0 : Int)] rfl aggDyadW (fun W hC => (HFB.out.ext hC).row) (fun K hK => ?_)
                  go_simp; refine hK _ ?_; clear hK K
                  refine ftext_row _ _ rfl rfl ⟨_, rfl⟩ (fun _ => keeps_true _) (fun W hC hJ Φ hΦ => ?_) (fun v hv K hK => ?_)
                  · go_simp
                    refine (HCK.out _ hC).mono ?_
                    rintro e W2 ⟨rfl, hE2⟩
                    exact ⟨_, rfl, hΦ _ _ rfl (hC.trans hE2) hE2 trivial⟩
                  subst hv
                  go_simp; refine hK _ ?_; clear hK K
                  iterate 2 (refine ftext_det rfl rfl ?_; apply Exists.intro; refine ⟨fun w hC => ?_, fun K hK => ?_⟩; (first | (go_simp; exact rfl) | (go_simp; exact ⟨rfl, rfl⟩)); go_simp; refine hK _ ?_; clear hK K)
                  refine ftext_load_row 24 _ rfl rfl rfl b2 0 [.bool ng, .slice A kf c, .int .i64 (0 : Int)] rfl aggDyadW (fun W hC => (HFB.out.ext hC).row) (fun K hK => ?_)
                  go_simp; refine hK _ ?_; clear hK K
                  refine ftext_row _ _ rfl rfl ⟨_, rfl⟩ (fun _ => keeps_true _) (fun W hC hJ Φ hΦ => ?_) (fun v hv K hK => ?_)
                  · go_simp
                    refine (HCW.out _ hC).mono ?_
                    rintro e W2 ⟨rfl, hE2⟩
                    exact ⟨_, rfl, hΦ _ _ rfl (hC.trans hE2) hE2 trivial⟩
                  subst hv
                  go_simp; refine hK _ ?_; clear hK K
                  iterate 3 (refine ftext_det rfl rfl ?_; apply Exists.intro; refine ⟨fun w hC => ?_, fun K hK => ?_⟩; (first | (go_simp; exact rfl) | (go_simp; exact ⟨rfl, rfl⟩) | (have h1 := HTX.out _ hC; go_simp; first | exact rfl | exact ⟨rfl, rfl⟩)); go_simp; refine hK _ ?_; clear hK K)
                  refine ftext_nil ?_
                  rintro W2 hC _ _
                  have HL := Lib.hid (HRI.out.more hC)
                  clear hC
                  simp only [List.drop_succ_cons, List.drop_zero]
                  refine wplIn_calls Open.wide rfl rfl (by kernel_rfl) (must_yes W2) ?_ ?_ ?_
                  · rintro v w9 ⟨h, rfl⟩
                    injection h with h
                    subst h
                    refine wpListIn_nil ?_
                    first | go_end0 | refine ⟨rfl, _, results_none rfl _ _ _, ?_⟩
                    exact .inl ⟨rfl, _, _, _, _, HL.out, HG.out⟩
                  · rintro v w9 ⟨h, _⟩; cases h
                  · rintro w9 ⟨h, _⟩; cases h
                · have heq : (wd == s) = false := by simpa using hw
                  have HBAD : Hid (BadR s) := Lib.hid (fun a h => by
                    have h1 := h.1
                    rw [HRQ.out] at h1
                    injection h1 with h1
                    refine hw ?_
                    rw [← HMW.out.2, h1]
                    exact h.2.2)
                  clear hw
                  refine wp_region_flowTail 9 (Ext WX) (fun _ => True) Ext (fun i => if i = 1 then .row (fun v => v = .int .i64 0) (fun _ _ => True) else if i = 5 then .row (fun v => v = .string ⟨wd.toArray⟩) (fun _ _ => True) else .det) [1, 5] (by kernel_rfl) (by kernel_rfl) (by kernel_rfl) (Ext.drew _) trivial (keeps_true _) ?_
                  refine ftext_load_row 24 _ rfl rfl rfl b2 0 [.bool ng, .slice A kf c, .int .i64 (0 : Int)] rfl aggDyadW (fun W hC => (HFB.out.ext hC).row) (fun K hK => ?_)
                  go_simp; refine hK _ ?_; clear hK K
                  refine ftext_row _ _ rfl rfl ⟨_, rfl⟩ (fun _ => keeps_true _) (fun W hC hJ Φ hΦ => ?_) (fun v hv K hK => ?_)
                  · go_simp
                    refine (HCK.out _ hC).mono ?_
                    rintro e W2 ⟨rfl, hE2⟩
                    exact ⟨_, rfl, hΦ _ _ rfl (hC.trans hE2) hE2 trivial⟩
                  subst hv
                  go_simp; refine hK _ ?_; clear hK K
                  iterate 2 (refine ftext_det rfl rfl ?_; apply Exists.intro; refine ⟨fun w hC => ?_, fun K hK => ?_⟩; (first | (go_simp; exact rfl) | (go_simp; exact ⟨rfl, rfl⟩)); go_simp; refine hK _ ?_; clear hK K)
                  refine ftext_load_row 24 _ rfl rfl rfl b2 0 [.bool ng, .slice A kf c, .int .i64 (0 : Int)] rfl aggDyadW (fun W hC => (HFB.out.ext hC).row) (fun K hK => ?_)
                  go_simp; refine hK _ ?_; clear hK K
                  refine ftext_row _ _ rfl rfl ⟨_, rfl⟩ (fun _ => keeps_true _) (fun W hC hJ Φ hΦ => ?_) (fun v hv K hK => ?_)
                  · go_simp
                    refine (HCW.out _ hC).mono ?_
                    rintro e W2 ⟨rfl, hE2⟩
                    exact ⟨_, rfl, hΦ _ _ rfl (hC.trans hE2) hE2 trivial⟩
                  subst hv
                  go_simp; refine hK _ ?_; clear hK K
                  iterate 3 (refine ftext_det rfl rfl ?_; apply Exists.intro; refine ⟨fun w hC => ?_, fun K hK => ?_⟩; (first | (go_simp; exact rfl) | (go_simp; exact ⟨rfl, rfl⟩) | (have h1 := HTX.out _ hC; go_simp; first | exact rfl | exact ⟨rfl, rfl⟩)); go_simp; refine hK _ ?_; clear hK K)
                  refine ftext_nil ?_
                  rintro W2 hC _ _
                  have HL : Hid (LeftI w0 w W2 b2) := Lib.hid (HRI.out.more hC).left
                  clear hC
                  simp only [List.drop_succ_cons, List.drop_zero]
                  refine wplIn_calls Open.wide rfl rfl (by kernel_rfl) (must_no W2) ?_ ?_ ?_
                  · rintro v w9 ⟨h, _⟩; cases h
                  · rintro ch w9 ⟨h, rfl⟩
                    injection h with h
                    subst h
                    exact ⟨rfl, .inr ⟨rfl, HBAD.out, HL.out⟩⟩
                  · rintro w9 ⟨h, _⟩; cases h
              · have HBAD : Hid (BadR s) := Lib.hid (fun a h => by
                  have h1 := h.1
                  rw [HRQ.out] at h1
                  injection h1 with h1
                  exact hm (h1 ▸ h.2.1))
                obtain ⟨wd, hwd⟩ : ∃ x, wordL ⟨ng, lf, (0 : Int)⟩ = x := ⟨_, rfl⟩
                have HCK : Hid (∀ W, Ext WX W → Calls Tryd.prog 34 #[.agg #[.bool ng, .slice A kf c, .int .i64 (0 : Int)]] W fun e w' => e = .returned (.int .i64 8) ∧ Ext W w') := Lib.hid (fun W hC => by
                  have h := dyad_Check ⟨ng, ⟨lf, A, c⟩, (0 : Int)⟩ W (HFX.out.ext hC)
                  rw [show decide (mayD (XDyad.data ⟨ng, ⟨lf, A, c⟩, (0 : Int)⟩)) = false from decide_eq_false hm] at h
                  dsimp only at h
                  rw [HKF.out] at h
                  exact h)
                refine wp_region_flowTail 9 (Ext WX) (fun _ => True) Ext (fun i => if i = 1 then .row (fun v => v = .int .i64 8) (fun _ _ => True) else if i = 5 then .row (fun v => v = .string ⟨wd.toArray⟩) (fun _ _ => True) else .det) [1, 5] (by kernel_rfl) (by kernel_rfl) (by kernel_rfl) (Ext.drew _) trivial (keeps_true _) ?_
                refine ftext_load_row 24 _ rfl rfl rfl b2 0 [.bool ng, .slice A kf c, .int .i64 (0 : Int)] rfl aggDyadW (fun W hC => (HFB.out.ext hC).row) (fun K hK => ?_)
                go_simp; refine hK _ ?_; clear hK K
                refine ftext_row _ _ rfl rfl ⟨_, rfl⟩ (fun _ => keeps_true _) (fun W hC hJ Φ hΦ => ?_) (fun v hv K hK => ?_)
                · go_simp
                  refine (HCK.out _ hC).mono ?_
                  rintro e W2 ⟨rfl, hE2⟩
                  exact ⟨_, rfl, hΦ _ _ rfl (hC.trans hE2) hE2 trivial⟩
                subst hv
                go_simp; refine hK _ ?_; clear hK K
                iterate 2 (refine ftext_det rfl rfl ?_; apply Exists.intro; refine ⟨fun w hC => ?_, fun K hK => ?_⟩; (first | (go_simp; exact rfl) | (go_simp; exact ⟨rfl, rfl⟩)); go_simp; refine hK _ ?_; clear hK K)
                iterate 4 (refine ftext_skip rfl rfl rfl rfl rfl (fun K hK => ?_); go_simp; refine hK _ ?_; clear hK K)
                (refine ftext_det rfl rfl ?_; apply Exists.intro; refine ⟨fun w hC => ?_, fun K hK => ?_⟩; (first | (go_simp; exact rfl) | (go_simp; exact ⟨rfl, rfl⟩)); go_simp; refine hK _ ?_; clear hK K)
                refine ftext_nil ?_
                rintro W2 hC _ _
                have HL : Hid (LeftI w0 w W2 b2) := Lib.hid (HRI.out.more hC).left
                clear hC
                simp only [List.drop_succ_cons, List.drop_zero]
                refine wplIn_calls Open.wide rfl rfl (by kernel_rfl) (must_no W2) ?_ ?_ ?_
                · rintro v w9 ⟨h, _⟩; cases h
                · rintro ch w9 ⟨h, rfl⟩
                  injection h with h
                  subst h
                  exact ⟨rfl, .inr ⟨rfl, HBAD.out, HL.out⟩⟩
                · rintro w9 ⟨h, _⟩; cases h
            · obtain ⟨j, rfl⟩ : ∃ j, k = j + 1 := ⟨k - 1, by omega⟩
              have hlt : j < (l.take (j + 1)).length := by rw [HKL.out]; omega
              have hlt2 : j < l.length := by omega
              obtain ⟨A', c', hAe, hlx⟩ := HK.out.1.own.form
              rw [HKL.out] at hAe
              injection hAe with hA1 _ hA2
              subst hA1 hA2
              obtain ⟨b, off, rfl, _, r⟩ := Sl.row (size := 1) (fun _ => rfl) hlx.1 (List.getElem?_eq_getElem hlt)
              obtain ⟨p, hp⟩ : ∃ p, (l.take (j + 1))[j] = p := ⟨_, rfl⟩
              have hp2 : l[j]? = some p := by rw [← hp, List.getElem_take, List.getElem?_eq_getElem hlt2]
              have hcj : wr.cell? ⟨b, off + j, none⟩ = some (.int .u32 p) := by have := r 0 _ rfl; rw [hp] at this; simpa using this
              have hlx1 := hlx.2.1
              have hlx2 := hlx.2.2
              dsimp only at hlx1 hlx2
              have hjc : (j : Int) < (c : Int) := by rw [HKL.out] at hlx1; omega
              have hcm : (c : Int) ≤ 9223372036854775807 := by unfold maxLen at hlx2; omega
              have hjc2 : (j : Int) ≤ (c : Int) := by omega
              have HP := Lib.hid hp2
              clear r hp hp2 hlx hlt hlx1 hlx2
              by_cases hz : p = 0
              · subst hz
                have HNX : Hid (RdI w0 w (wr.setCell ⟨b2, 1, none⟩ (.slice (some ⟨b, off, none⟩) j c)) b2 ng (.slice (some ⟨b, off, none⟩) (l.take j).length c) (l.take j) (0 : Int) ∧ val B32 (l.drop j) = 0) := Lib.hid ⟨by
                  have hjl : (l.take j).length = j := by rw [List.length_take]; omega
                  have h1 : Go.Hx.Own wr w.heap.size 33 1 cU32 (.slice (some ⟨b, off, none⟩) (l.take (j + 1)).length c) (l.take (j + 1)) := by rw [HKL.out]; exact HK.out.1.own
                  have h2 := Own.front (enc := cU32) (size := 1) (fun _ => rfl) h1 (k := j) (by rw [HKL.out]; omega)
                  rw [List.take_take, Nat.min_eq_left (by omega), hjl] at h2
                  rw [hjl]
                  exact RdJ.store ⟨HK.out.1.ext, HK.out.1.but, HK.out.1.blk, h2⟩ HB2L.out, by
                  rw [drop_cons HP.out, val_cons, HK.out.2]
                  rfl⟩
                have hlen : cellLen ((wr.setCell ⟨b2, 1, none⟩ (.slice (some ⟨b, off, none⟩) j c)).cell? ⟨b2, 1, none⟩) = j := by
                  have h1 : (wr.setCell ⟨b2, 1, none⟩ (.slice (some ⟨b, off, none⟩) j c)).cell? ⟨b2, 1, none⟩ = some (.slice (some ⟨b, off, none⟩) (l.take j).length c) := HNX.out.1.blk.cell 1
                  rw [h1]
                  show (l.take j).length = j
                  rw [List.length_take]; omega
                have HLEN := Lib.hid hlen
                have HC1 := Lib.hid hc1
                clear hlen
                go_wp2_with fail
                go_roundw
                case rel => exact ⟨j, _, _, by omega, HNX⟩
                case measure => rw [HLEN.out, HC1.out]; exact Nat.lt_succ_self j
              · have hzi : ((p : Int) == 0) = false := by simp [hz]
                have HFIN : Hid (l.take (j + 1) = digs B32 (val B32 l)) := Lib.hid (digs_cut (by decide) (j + 1) (by omega) HLP.out.2.1 HK.out.2 (.inr ⟨p, HP.out, hz⟩))
                go_wp2_with fail
                clear hjc hcm hjc2 HP hz hzi hcj hlt2 hk0
                have HRQ : Hid (readQ s = some ⟨ng, l.take (j + 1), (0 : Int)⟩) := Lib.hid (by
                  unfold readQ
                  rw [HEX.out]
                  simp only [HPS.out]
                  rw [if_neg (by have := H320.out; omega), HLP.out.1, HFIN.out])
                have HFL : Hid (Limbs (l.take (j + 1)) ∧ (l.take (j + 1)).length ≤ 320) := Lib.hid ⟨fun x hx => HLP.out.2.1 x (List.mem_of_mem_take hx), by have := HLP.out.2.2; rw [List.length_take]; omega⟩
                obtain ⟨WX, rfl⟩ : ∃ W, W = wr := ⟨_, rfl⟩
                have HFX : Hid (XDyad.ok WX WX.heap.size ⟨ng, ⟨l.take (j + 1), (some ⟨b, off, none⟩), c⟩, (0 : Int)⟩) := Lib.hid (XDyad.mine.ok (x := ⟨ng, ⟨l.take (j + 1), (some ⟨b, off, none⟩), c⟩, (0 : Int)⟩) ⟨by rw [HKL.out]; exact HK.out.1.own⟩)
                obtain ⟨lf, hlf⟩ : ∃ x, l.take (j + 1) = x := ⟨_, rfl⟩
                obtain ⟨kf, HKE⟩ : ∃ x, Hid ((j + 1) = x) := ⟨_, Lib.hid rfl⟩
                have HKF : Hid (lf.length = kf) := Lib.hid (by rw [← hlf, HKL.out]; exact HKE.out)
                have HRI : Hid (RdI w0 w WX b2 ng (.slice (some ⟨b, off, none⟩) kf c) lf (0 : Int)) := Lib.hid (by rw [← hlf, ← HKE.out]; exact HK.out.1)
                rw [hlf] at HRQ HFL HFX
                clear hlf HK HFIN HKL hc1 hf1 HKE
                have HFB : Hid (Blk WX b2 24 [.bool ng, .slice (some ⟨b, off, none⟩) kf c, .int .i64 (0 : Int)]) := Lib.hid HRI.out.blk
                by_cases hm : mayD ⟨ng, lf, (0 : Int)⟩
                · obtain ⟨wd, hwd⟩ : ∃ x, wordL ⟨ng, lf, (0 : Int)⟩ = x := ⟨_, rfl⟩
                  have HCK : Hid (∀ W, Ext WX W → Calls Tryd.prog 34 #[.agg #[.bool ng, .slice (some ⟨b, off, none⟩) kf c, .int .i64 (0 : Int)]] W fun e w' => e = .returned (.int .i64 0) ∧ Ext W w') := Lib.hid (fun W hC => by
                    have h := dyad_Check ⟨ng, ⟨lf, (some ⟨b, off, none⟩), c⟩, (0 : Int)⟩ W (HFX.out.ext hC)
                    rw [show decide (mayD (XDyad.data ⟨ng, ⟨lf, (some ⟨b, off, none⟩), c⟩, (0 : Int)⟩)) = true from decide_eq_true hm] at h
                    dsimp only at h
                    rw [HKF.out] at h
                    exact h)
                  have HCW : Hid (∀ W, Ext WX W → Calls Tryd.prog 72 #[.agg #[.bool ng, .slice (some ⟨b, off, none⟩) kf c, .int .i64 (0 : Int)]] W fun e w' => e = .returned (.string ⟨wd.toArray⟩) ∧ Ext W w') := Lib.hid (fun W hC => by
                    have h := tale_word ⟨ng, ⟨lf, (some ⟨b, off, none⟩), c⟩, (0 : Int)⟩ W (HFX.out.ext hC) HFL.out.1 (by have := hm.1.1; dsimp only at *; omega) ⟨by have := hm.2.1; dsimp only at *; omega, by have := hm.2.1; dsimp only at *; omega⟩ (HTA.out.2.2.1.ext (HRI.out.ext.trans hC)) (HTA.out.2.2.2.ext (HRI.out.ext.trans hC))
                    rw [show wordL (XDyad.data ⟨ng, ⟨lf, (some ⟨b, off, none⟩), c⟩, (0 : Int)⟩) = wd from hwd] at h
                    dsimp only at h
                    rw [HKF.out] at h
                    exact h)
                  have HTX : Hid (∀ W, Ext WX W → W.cell? ⟨b1, 0, none⟩ = some (.string ⟨s.toArray⟩)) := Lib.hid (fun W hC => hC.cell (HRI.out.but.cell HNE.out h1))
                  have HMW : Hid (mayD ⟨ng, lf, (0 : Int)⟩ ∧ wordL ⟨ng, lf, (0 : Int)⟩ = wd) := Lib.hid ⟨hm, hwd⟩
                  clear hm hwd
                  by_cases hw : wd = s
                  · have heq : (wd == s) = true := by rw [hw]; exact beq_self_eq_true _
                    have HG : Hid (GoodR s ⟨ng, lf, (0 : Int)⟩) := Lib.hid ⟨HRQ.out, HMW.out.1, HMW.out.2.trans hw⟩
                    clear hw
                    refine wp_region_flowTail 9 (Ext WX) (fun _ => True) Ext (fun i => if i = 1 then .row (fun v => v = .int .i64 0) (fun _ _ => True) else if i = 5 then .row (fun v => v = .string ⟨wd.toArray⟩) (fun _ _ => True) else .det) [1, 5] (by kernel_rfl) (by kernel_rfl) (by kernel_rfl) (Ext.drew _) trivial (keeps_true _) ?_
                    refine ftext_load_row 24 _ rfl rfl rfl b2 0 [.bool ng, .slice (some ⟨b, off, none⟩) kf c, .int .i64 (0 : Int)] rfl aggDyadW (fun W hC => (HFB.out.ext hC).row) (fun K hK => ?_)
                    go_simp; refine hK _ ?_; clear hK K
                    refine ftext_row _ _ rfl rfl ⟨_, rfl⟩ (fun _ => keeps_true _) (fun W hC hJ Φ hΦ => ?_) (fun v hv K hK => ?_)
                    · go_simp
                      refine (HCK.out _ hC).mono ?_
                      rintro e W2 ⟨rfl, hE2⟩
                      exact ⟨_, rfl, hΦ _ _ rfl (hC.trans hE2) hE2 trivial⟩
                    subst hv
                    go_simp; refine hK _ ?_; clear hK K
                    iterate 2 (refine ftext_det rfl rfl ?_; apply Exists.intro; refine ⟨fun w hC => ?_, fun K hK => ?_⟩; (first | (go_simp; exact rfl) | (go_simp; exact ⟨rfl, rfl⟩)); go_simp; refine hK _ ?_; clear hK K)
                    refine ftext_load_row 24 _ rfl rfl rfl b2 0 [.bool ng, .slice (some ⟨b, off, none⟩) kf c, .int .i64 (0 : Int)] rfl aggDyadW (fun W hC => (HFB.out.ext hC).row) (fun K hK => ?_)
                    go_simp; refine hK _ ?_; clear hK K
                    refine ftext_row _ _ rfl rfl ⟨_, rfl⟩ (fun _ => keeps_true _) (fun W hC hJ Φ hΦ => ?_) (fun v hv K hK => ?_)
                    · go_simp
                      refine (HCW.out _ hC).mono ?_
                      rintro e W2 ⟨rfl, hE2⟩
                      exact ⟨_, rfl, hΦ _ _ rfl (hC.trans hE2) hE2 trivial⟩
                    subst hv
                    go_simp; refine hK _ ?_; clear hK K
                    iterate 3 (refine ftext_det rfl rfl ?_; apply Exists.intro; refine ⟨fun w hC => ?_, fun K hK => ?_⟩; (first | (go_simp; exact rfl) | (go_simp; exact ⟨rfl, rfl⟩) | (have h1 := HTX.out _ hC; go_simp; first | exact rfl | exact ⟨rfl, rfl⟩)); go_simp; refine hK _ ?_; clear hK K)
                    refine ftext_nil ?_
                    rintro W2 hC _ _
                    have HL := Lib.hid (HRI.out.more hC)
                    clear hC
                    simp only [List.drop_succ_cons, List.drop_zero]
                    refine wplIn_calls Open.wide rfl rfl (by kernel_rfl) (must_yes W2) ?_ ?_ ?_
                    · rintro v w9 ⟨h, rfl⟩
                      injection h with h
                      subst h
                      refine wpListIn_nil ?_
                      first | go_end0 | refine ⟨rfl, _, results_none rfl _ _ _, ?_⟩
                      exact .inl ⟨rfl, _, _, _, _, HL.out, HG.out⟩
                    · rintro v w9 ⟨h, _⟩; cases h
                    · rintro w9 ⟨h, _⟩; cases h
                  · have heq : (wd == s) = false := by simpa using hw
                    have HBAD : Hid (BadR s) := Lib.hid (fun a h => by
                      have h1 := h.1
                      rw [HRQ.out] at h1
                      injection h1 with h1
                      refine hw ?_
                      rw [← HMW.out.2, h1]
                      exact h.2.2)
                    clear hw
                    refine wp_region_flowTail 9 (Ext WX) (fun _ => True) Ext (fun i => if i = 1 then .row (fun v => v = .int .i64 0) (fun _ _ => True) else if i = 5 then .row (fun v => v = .string ⟨wd.toArray⟩) (fun _ _ => True) else .det) [1, 5] (by kernel_rfl) (by kernel_rfl) (by kernel_rfl) (Ext.drew _) trivial (keeps_true _) ?_
                    refine ftext_load_row 24 _ rfl rfl rfl b2 0 [.bool ng, .slice (some ⟨b, off, none⟩) kf c, .int .i64 (0 : Int)] rfl aggDyadW (fun W hC => (HFB.out.ext hC).row) (fun K hK => ?_)
                    go_simp; refine hK _ ?_; clear hK K
                    refine ftext_row _ _ rfl rfl ⟨_, rfl⟩ (fun _ => keeps_true _) (fun W hC hJ Φ hΦ => ?_) (fun v hv K hK => ?_)
                    · go_simp
                      refine (HCK.out _ hC).mono ?_
                      rintro e W2 ⟨rfl, hE2⟩
                      exact ⟨_, rfl, hΦ _ _ rfl (hC.trans hE2) hE2 trivial⟩
                    subst hv
                    go_simp; refine hK _ ?_; clear hK K
                    iterate 2 (refine ftext_det rfl rfl ?_; apply Exists.intro; refine ⟨fun w hC => ?_, fun K hK => ?_⟩; (first | (go_simp; exact rfl) | (go_simp; exact ⟨rfl, rfl⟩)); go_simp; refine hK _ ?_; clear hK K)
                    refine ftext_load_row 24 _ rfl rfl rfl b2 0 [.bool ng, .slice (some ⟨b, off, none⟩) kf c, .int .i64 (0 : Int)] rfl aggDyadW (fun W hC => (HFB.out.ext hC).row) (fun K hK => ?_)
                    go_simp; refine hK _ ?_; clear hK K
                    refine ftext_row _ _ rfl rfl ⟨_, rfl⟩ (fun _ => keeps_true _) (fun W hC hJ Φ hΦ => ?_) (fun v hv K hK => ?_)
                    · go_simp
                      refine (HCW.out _ hC).mono ?_
                      rintro e W2 ⟨rfl, hE2⟩
                      exact ⟨_, rfl, hΦ _ _ rfl (hC.trans hE2) hE2 trivial⟩
                    subst hv
                    go_simp; refine hK _ ?_; clear hK K
                    iterate 3 (refine ftext_det rfl rfl ?_; apply Exists.intro; refine ⟨fun w hC => ?_, fun K hK => ?_⟩; (first | (go_simp; exact rfl) | (go_simp; exact ⟨rfl, rfl⟩) | (have h1 := HTX.out _ hC; go_simp; first | exact rfl | exact ⟨rfl, rfl⟩)); go_simp; refine hK _ ?_; clear hK K)
                    refine ftext_nil ?_
                    rintro W2 hC _ _
                    have HL : Hid (LeftI w0 w W2 b2) := Lib.hid (HRI.out.more hC).left
                    clear hC
                    simp only [List.drop_succ_cons, List.drop_zero]
                    refine wplIn_calls Open.wide rfl rfl (by kernel_rfl) (must_no W2) ?_ ?_ ?_
                    · rintro v w9 ⟨h, _⟩; cases h
                    · rintro ch w9 ⟨h, rfl⟩
                      injection h with h
                      subst h
                      exact ⟨rfl, .inr ⟨rfl, HBAD.out, HL.out⟩⟩
                    · rintro w9 ⟨h, _⟩; cases h
                · have HBAD : Hid (BadR s) := Lib.hid (fun a h => by
                    have h1 := h.1
                    rw [HRQ.out] at h1
                    injection h1 with h1
                    exact hm (h1 ▸ h.2.1))
                  obtain ⟨wd, hwd⟩ : ∃ x, wordL ⟨ng, lf, (0 : Int)⟩ = x := ⟨_, rfl⟩
                  have HCK : Hid (∀ W, Ext WX W → Calls Tryd.prog 34 #[.agg #[.bool ng, .slice (some ⟨b, off, none⟩) kf c, .int .i64 (0 : Int)]] W fun e w' => e = .returned (.int .i64 8) ∧ Ext W w') := Lib.hid (fun W hC => by
                    have h := dyad_Check ⟨ng, ⟨lf, (some ⟨b, off, none⟩), c⟩, (0 : Int)⟩ W (HFX.out.ext hC)
                    rw [show decide (mayD (XDyad.data ⟨ng, ⟨lf, (some ⟨b, off, none⟩), c⟩, (0 : Int)⟩)) = false from decide_eq_false hm] at h
                    dsimp only at h
                    rw [HKF.out] at h
                    exact h)
                  refine wp_region_flowTail 9 (Ext WX) (fun _ => True) Ext (fun i => if i = 1 then .row (fun v => v = .int .i64 8) (fun _ _ => True) else if i = 5 then .row (fun v => v = .string ⟨wd.toArray⟩) (fun _ _ => True) else .det) [1, 5] (by kernel_rfl) (by kernel_rfl) (by kernel_rfl) (Ext.drew _) trivial (keeps_true _) ?_
                  refine ftext_load_row 24 _ rfl rfl rfl b2 0 [.bool ng, .slice (some ⟨b, off, none⟩) kf c, .int .i64 (0 : Int)] rfl aggDyadW (fun W hC => (HFB.out.ext hC).row) (fun K hK => ?_)
                  go_simp; refine hK _ ?_; clear hK K
                  refine ftext_row _ _ rfl rfl ⟨_, rfl⟩ (fun _ => keeps_true _) (fun W hC hJ Φ hΦ => ?_) (fun v hv K hK => ?_)
                  · go_simp
                    refine (HCK.out _ hC).mono ?_
                    rintro e W2 ⟨rfl, hE2⟩
                    exact ⟨_, rfl, hΦ _ _ rfl (hC.trans hE2) hE2 trivial⟩
                  subst hv
                  go_simp; refine hK _ ?_; clear hK K
                  iterate 2 (refine ftext_det rfl rfl ?_; apply Exists.intro; refine ⟨fun w hC => ?_, fun K hK => ?_⟩; (first | (go_simp; exact rfl) | (go_simp; exact ⟨rfl, rfl⟩)); go_simp; refine hK _ ?_; clear hK K)
                  iterate 4 (refine ftext_skip rfl rfl rfl rfl rfl (fun K hK => ?_); go_simp; refine hK _ ?_; clear hK K)
                  (refine ftext_det rfl rfl ?_; apply Exists.intro; refine ⟨fun w hC => ?_, fun K hK => ?_⟩; (first | (go_simp; exact rfl) | (go_simp; exact ⟨rfl, rfl⟩)); go_simp; refine hK _ ?_; clear hK K)
                  refine ftext_nil ?_
                  rintro W2 hC _ _
                  have HL : Hid (LeftI w0 w W2 b2) := Lib.hid (HRI.out.more hC).left
                  clear hC
                  simp only [List.drop_succ_cons, List.drop_zero]
                  refine wplIn_calls Open.wide rfl rfl (by kernel_rfl) (must_no W2) ?_ ?_ ?_
                  · rintro v w9 ⟨h, _⟩; cases h
                  · rintro ch w9 ⟨h, rfl⟩
                    injection h with h
                    subst h
                    exact ⟨rfl, .inr ⟨rfl, HBAD.out, HL.out⟩⟩
                  · rintro w9 ⟨h, _⟩; cases h
        · have hpos : 0 < cur.length := List.length_pos_iff.2 h0
          have hposi : (0 : Int) < (cur.length : Int) := by omega
          obtain ⟨q, hq⟩ : ∃ q, cur.length - 8 = q := ⟨_, rfl⟩
          have HQ := Lib.hid hq
          have HS1 : ∀ W, (Instr.slice 9 (.string ⟨cur.toArray⟩) (some (.int .i64 (q : Int))) none none).run Tryd.prog W = .ok (.string ⟨(cur.drop q).toArray⟩) W := fun W => by
            rw [run_slice_string_l W 9 ⟨cur.toArray⟩ Tryd.underlying9 .i64 (q : Int) (by omega) (by show (q : Int) ≤ (cur.length : Int); omega), Go.ByteArray.extract_mk]
            rw [show ((q : Int)).toNat = q by omega, show (ByteArray.mk cur.toArray).size = cur.length from rfl, List.take_of_length_le (by rw [List.length_drop]; omega)]
          have HS2 : Hid (∀ W, (Instr.slice 9 (.string ⟨cur.toArray⟩) none (some (.int .i64 (q : Int))) none).run Tryd.prog W = .ok (.string ⟨(cur.take q).toArray⟩) W) := Lib.hid fun W => by
            rw [run_slice_string_h W 9 ⟨cur.toArray⟩ Tryd.underlying9 .i64 (q : Int) (by omega) (by show (q : Int) ≤ (cur.length : Int); omega), Go.ByteArray.extract_mk]
            simp
          have hmax : max (0 : Int) ((cur.length : Int) - 8) = (q : Int) := by omega
          have hcne : Hid (cur.drop q ≠ [] ∧ (cur.drop q).length ≤ 8) := Lib.hid ⟨fun e => by have := congrArg List.length e; rw [List.length_drop] at this; simp at this; omega, by rw [List.length_drop]; omega⟩
          have hcur320 : (cur.length : Int) ≤ 320 := by omega
          clear hlx hq
          go_wp2_with fail
          refine (parse_16 (cur.drop q) hcne.out.1 hcne.out.2 _ (HTA.out.1.ext HJ.out.1.ext)).mono ?_
          rintro e w7 (⟨n, rfl, hn, hn32, hE⟩ | ⟨u, t, p, rfl, hno, hE⟩)
          · have HK := Lib.hid (HJ.out.1.more hE)
            have HN : Hid (hexs (cur.drop q) 0 = some n ∧ n < B32) := Lib.hid ⟨hn, hn32⟩
            have hni : (n : Int) < 4294967296 := by omega
            clear hn hE hn32
            go_wp2_with fail
            refine (must_yes _).mono ?_
            rintro e w8 ⟨rfl, rfl⟩
            have hw32 : IntKind.u32.wrap (n : Int) = (n : Int) := by rw [IntKind.wrap_u32]; omega
            go_wp2_with fail
            refine CP.wp_region_chain (fun W => W.cell? ⟨b2, 1, none⟩ = some (.slice A l.length c)) (fun W => RdI w0 w W b2 ng (.slice A l.length c) l (0 : Int)) (fun i => if i = 1 then 0 else if i = 4 ∨ i = 5 then 1 else if i = 10 then 2 else 3) (by kernel_rfl) (by kernel_rfl) (HK.out.blk.cell 1) (HK.out.more (Ext.drew _)) ?_
            (refine CP.ctext_pure rfl rfl ?_; apply Exists.intro; refine ⟨fun W => ?_, fun K hK => ?_⟩; (first | (go_simp; exact rfl) | (go_simp; exact ⟨rfl, rfl⟩) | (have h1 := HS2.out W; go_simp; first | exact rfl | exact ⟨rfl, rfl⟩)); go_simp; refine hK _ ?_; clear hK K)
            refine CP.ctext_det rfl rfl ?_; apply Exists.intro; refine ⟨fun W hC => ?_, fun K hK => ?_⟩
            · go_simp; first | exact rfl | exact ⟨rfl, rfl⟩
            go_simp; refine hK _ ?_; clear hK K
            iterate 2 (refine CP.ctext_pure rfl rfl ?_; apply Exists.intro; refine ⟨fun W => ?_, fun K hK => ?_⟩; (first | (go_simp; exact rfl) | (go_simp; exact ⟨rfl, rfl⟩) | (have h1 := HS2.out W; go_simp; first | exact rfl | exact ⟨rfl, rfl⟩)); go_simp; refine hK _ ?_; clear hK K)
            refine CP.ctext_chain (fun v => ∃ g c2, v = .slice (some ⟨g, 0, none⟩) 1 c2) (fun v W => RdI w0 w W b2 ng (.slice A l.length c) l (0 : Int) ∧ ∃ g c2, v = .slice (some ⟨g, 0, none⟩) 1 c2 ∧ Sl W W.heap.size cU32 (some ⟨g, 0, none⟩) [n]) rfl rfl ⟨_, 0, 0, rfl⟩ (fun W hC hJ Φ hΦ => ?_) (fun v hv K hK => ?_)
            · go_simp
              refine hΦ _ _ ⟨_, _, rfl⟩ ((Ext.alloc W _).cell hC) ⟨hJ.more (Ext.alloc _ _), _, _, rfl, .inr ⟨_, _, rfl, ?_, ?_⟩⟩
              · simp
              · exact Blk.row (Blk.new rfl)
            obtain ⟨gb, cb, rfl⟩ := hv
            go_simp; refine hK _ ?_; clear hK K
            refine CP.ctext_chain (fun v => ∃ A2 c2, v = .slice A2 (l ++ [n]).length c2) (fun v W => RdJ w0 w W b2 ng (.slice A l.length c) v (l ++ [n]) (0 : Int)) rfl rfl ⟨_, none, 0, rfl⟩ (fun W hC hJ Φ hΦ => ?_) (fun v hv K hK => ?_)
            · obtain ⟨hJ1, g, c2, hg, hsl⟩ := hJ
              injection hg with hg1 _ hg2
              injection hg1 with hg1
              injection hg1 with hg1
              subst hg1 hg2
              refine und_app_many elu32 (.tmp 55) (.tmp 58) rfl W w.heap.size cU32 _ l [n] rfl hJ1.own (some ⟨gb, 0, none⟩) 1 _ rfl rfl hsl (fun _ => rfl) (fun _ => rfl) (by have := HJ.out.2.2.1; simp; omega) (by have := HJ.out.2.2.1; unfold maxLen; simp; omega) hJ1.but.size ?_
              intro v' w' hown' hgrow
              obtain ⟨A', c', rfl, _⟩ := hown'.form
              exact hΦ _ _ ⟨_, _, rfl⟩ ((hJ1.grown hown' hgrow HB2L.out).blk.cell 1) (hJ1.grown hown' hgrow HB2L.out)
            obtain ⟨A2, c2, rfl⟩ := hv
            go_simp; refine hK _ ?_; clear hK K
            iterate 4 (refine CP.ctext_pure rfl rfl ?_; apply Exists.intro; refine ⟨fun W => ?_, fun K hK => ?_⟩; (first | (go_simp; exact rfl) | (go_simp; exact ⟨rfl, rfl⟩) | (have h1 := HS2.out W; go_simp; first | exact rfl | exact ⟨rfl, rfl⟩)); go_simp; refine hK _ ?_; clear hK K)
            refine CP.ctext_bar (fun v => v = undef) (fun _ _ => True) (fun _ W => RdI w0 w W b2 ng (.slice A2 (l ++ [n]).length c2) (l ++ [n]) (0 : Int)) rfl rfl ⟨_, rfl⟩ (fun _ _ => ⟨w, trivial⟩) (fun W hC hJ Φ hΦ => ?_) (fun v hv K hK => ?_)
            · have hz := hJ.blk.free 1
              go_simp
              exact hΦ _ _ rfl trivial (by have h9 := hJ.store HB2L.out; simp only [List.length_append, List.length_cons, List.length_nil] at h9 ⊢; exact h9)
            subst hv
            go_simp; refine hK _ ?_; clear hK K
            iterate 1 (refine CP.ctext_pure rfl rfl ?_; apply Exists.intro; refine ⟨fun W => ?_, fun K hK => ?_⟩; (first | (go_simp; exact rfl) | (go_simp; exact ⟨rfl, rfl⟩) | (have h1 := HS2.out W; go_simp; first | exact rfl | exact ⟨rfl, rfl⟩)); go_simp; refine hK _ ?_; clear hK K)
            refine CP.ctext_nil ?_
            rintro W2 _ hW2
            have HNX := Lib.hid hW2
            clear hW2
            have HLN : Hid (Limbs (l ++ [n]) ∧ (l ++ [n]).length + (cur.take q).length ≤ 320 ∧ limP ps = (limP (cur.take q)).map ((l ++ [n]) ++ ·)) := Lib.hid ⟨fun x hx => by
              rcases List.mem_append.1 hx with hx | hx
              · exact HJ.out.2.1 x hx
              · rw [List.mem_singleton.1 hx]; exact HN.out.2, by
              have h1 := HJ.out.2.2.1
              have h2 := HQ.out
              rw [List.length_append, List.length_take]
              simp only [List.length_cons, List.length_nil]
              omega, by
              rw [HJ.out.2.2.2, limP_step h0, HQ.out, HN.out.1]
              cases limP (cur.take q) <;> simp⟩
            go_wp2_with fail
            go_roundw
            case rel => exact ⟨cur.take q, l ++ [n], _, by rw [List.length_take]; omega, rfl, Lib.hid ⟨HNX.out, HLN.out.1, HLN.out.2.1, HLN.out.2.2⟩⟩
            case measure => simp [strSz, ByteArray.size]; have := HQ.out; omega
          · have HBAD : Hid (BadR s) := Lib.hid (fun a h => by
              have h1 := h.1
              unfold readQ at h1
              rw [HEX.out] at h1
              simp only [HPS.out] at h1
              have h2 : limP cur = none := by rw [limP_step h0, HQ.out, hno]
              rw [if_neg (by have := H320.out; omega), HJ.out.2.2.2, h2] at h1
              cases h1)
            have HL := Lib.hid (HJ.out.1.more hE).left
            clear hno hE
            go_wp2_with fail
            refine (must_no _).mono ?_
            rintro e w8 ⟨rfl, rfl⟩
            go_wp2_with fail
            exact ⟨rfl, .inr ⟨rfl, HBAD.out, HL.out⟩⟩
    · have h320i : ¬ (ps.length : Int) ≤ 320 := by omega
      have HBAD : Hid (BadR s) := Lib.hid (fun a h => by
        have h1 := h.1
        unfold readQ at h1
        rw [HEX.out] at h1
        simp only [HPS.out] at h1
        rw [if_pos (by omega)] at h1
        cases h1)
      go_wp2_with fail
      rw [decide_eq_false (show ¬ (ps.length : Int) ≤ 320 by omega)]
      refine (must_no _).mono ?_
      rintro e w6 ⟨rfl, rfl⟩
      go_wp2_with fail
      exact ⟨rfl, .inr ⟨rfl, HBAD.out, HI2.out.left⟩⟩
end Go.Proofs.YtgcbnagfdfgpnaaDoor
end
section
namespace Go.Proofs.YtgcbnagfdfgpnaaDoor
open Go.RowKit Go.Hx
set_option linter.unusedVariables false
set_option linter.unusedSimpArgs false
set_option maxRecDepth 100000 in
set_option maxHeartbeats 4000000 in
theorem tale_Read (s : List UInt8) (w : World) (hs : s.length ≤ 2000) (hEs : Esy w) (hEr : Era w) (hT : Tz w) (hP : Pow w) :
    Calls Tryd.prog 32 #[.string ⟨s.toArray⟩] w fun e w' => ∃ y : XDyad, e = .returned (.tuple #[.agg #[.bool y.neg, .slice y.limbs.A y.limbs.l.length y.limbs.c, .int .i64 y.exp], .int .i64 (chkR s (readQ s)).2]) ∧ y.data = (chkR s (readQ s)).1 ∧ y.mine w' w.heap.size ∧ Ext w w' := by
  obtain ⟨n, hn⟩ : ∃ n, w.heap.size = n := ⟨_, rfl⟩
  have hs1 : (w.alloc (.cells #[.string ⟨s.toArray⟩] 9)).heap.size = n + 1 := by rw [← hn]; exact Array.size_push _
  have hs2 : ((w.alloc (.cells #[.string ⟨s.toArray⟩] 9)).alloc (.cells #[.bool false, .slice none 0 0, .int .i64 0] 24)).heap.size = n + 2 := by rw [show ((w.alloc (.cells #[.string ⟨s.toArray⟩] 9)).alloc (.cells #[.bool false, .slice none 0 0, .int .i64 0] 24)).heap.size = (w.alloc (.cells #[.string ⟨s.toArray⟩] 9)).heap.size + 1 from Array.size_push _, hs1]
  have hs3 : (((w.alloc (.cells #[.string ⟨s.toArray⟩] 9)).alloc (.cells #[.bool false, .slice none 0 0, .int .i64 0] 24)).alloc (.cells #[.bool false, .slice none 0 0, .int .i64 0] 24)).heap.size = n + 3 := by rw [show (((w.alloc (.cells #[.string ⟨s.toArray⟩] 9)).alloc (.cells #[.bool false, .slice none 0 0, .int .i64 0] 24)).alloc (.cells #[.bool false, .slice none 0 0, .int .i64 0] 24)).heap.size = ((w.alloc (.cells #[.string ⟨s.toArray⟩] 9)).alloc (.cells #[.bool false, .slice none 0 0, .int .i64 0] 24)).heap.size + 1 from Array.size_push _, hs2]
  have B1 : Blk (w.alloc (.cells #[.string ⟨s.toArray⟩] 9)) n 9 [.string ⟨s.toArray⟩] := Blk.new hn.symm
  have B2 : Blk ((w.alloc (.cells #[.string ⟨s.toArray⟩] 9)).alloc (.cells #[.bool false, .slice none 0 0, .int .i64 0] 24)) (n + 1) 24 [.bool false, .slice none 0 0, .int .i64 0] := Blk.new hs1.symm
  have B3 : Blk (((w.alloc (.cells #[.string ⟨s.toArray⟩] 9)).alloc (.cells #[.bool false, .slice none 0 0, .int .i64 0] 24)).alloc (.cells #[.bool false, .slice none 0 0, .int .i64 0] 24)) (n + 2) 24 [.bool false, .slice none 0 0, .int .i64 0] := Blk.new hs2.symm
  have B31 := (B1.alloc (.cells #[.bool false, .slice none 0 0, .int .i64 0] 24)).alloc (.cells #[.bool false, .slice none 0 0, .int .i64 0] 24)
  have B32 := B2.alloc (.cells #[.bool false, .slice none 0 0, .int .i64 0] 24)
  have E3 : Ext w (((w.alloc (.cells #[.string ⟨s.toArray⟩] 9)).alloc (.cells #[.bool false, .slice none 0 0, .int .i64 0] 24)).alloc (.cells #[.bool false, .slice none 0 0, .int .i64 0] 24)) := Ext.alloc' (Ext.alloc' (Ext.alloc _ _) _) _
  obtain ⟨w3, hw3⟩ : ∃ W, (((w.alloc (.cells #[.string ⟨s.toArray⟩] 9)).alloc (.cells #[.bool false, .slice none 0 0, .int .i64 0] 24)).alloc (.cells #[.bool false, .slice none 0 0, .int .i64 0] 24)) = W := ⟨_, rfl⟩
  rw [hw3] at hs3 B3 B31 B32 E3
  have B34 : Blk (w3.alloc (.cells #[.bool false] 4)) (n + 3) 4 [.bool false] := Blk.new hs3.symm
  have E4 : Ext w (w3.alloc (.cells #[.bool false] 4)) := E3.alloc' _
  have H := read_in s n (n + 2) w (w3.alloc (.cells #[.bool false] 4)) hs E4 (by omega) (by omega) ((B31.alloc _).cell 0) (B3.alloc _) hEs hEr hT hP
  have HC := tale_caught n (n + 2) w3 (fun W => ∃ ng v l ex, RdI w (w3.alloc (.cells #[.bool false] 4)) W (n + 2) ng v l ex ∧ GoodR s ⟨ng, l, ex⟩) (fun W => BadR s ∧ LeftI w (w3.alloc (.cells #[.bool false] 4)) W (n + 2)) H
    (fun W ⟨ng, v, l, ex, h, _⟩ => by rw [hs3]; exact h.but.blk B34 (by omega)) (fun W ⟨_, h⟩ => by rw [hs3]; exact h.but.blk B34 (by omega))
  rw [hs3] at HC
  have HB32 := Lib.hid (B32.alloc (.cells #[.bool false] 4))
  have HSZ : Hid ((w3.alloc (.cells #[.bool false] 4)).heap.size = n + 4) := Lib.hid (by rw [show (w3.alloc (.cells #[.bool false] 4)).heap.size = w3.heap.size + 1 from Array.size_push _, hs3])
  have HN := Lib.hid hn
  clear H B34 E4 E3 B31 B32 B3 B2 B1 hs3 hEs hEr hT hP hs
  go_enter Tryd.func32, Tryd.ntmps32
  go_wp2_with fail
  refine HC.mono ?_
  rintro e w5 (⟨rfl, w4, ⟨ng, v, l, ex, hI, hG⟩, rfl⟩ | ⟨rfl, w4, ⟨hb, hL⟩, rfl⟩)
  · obtain ⟨A, c, rfl, hlx⟩ := hI.own.form
    have HR : Hid (chkR s (readQ s) = (⟨ng, l, ex⟩, 0)) := Lib.hid (by unfold chkR; rw [hG.1]; exact if_pos hG.2)
    have BA : Blk (w4.setCell ⟨n + 3, 0, none⟩ (.bool true)) (n + 2) 24 [.bool ng, .slice A l.length c, .int .i64 ex] := hI.blk.far (by simp) _
    have BO : Blk (w4.setCell ⟨n + 3, 0, none⟩ (.bool true)) (n + 1) 24 [.bool false, .slice none 0 0, .int .i64 0] := (hI.but.blk HB32.out (by omega)).far (by simp) _
    have HM : Hid (XDyad.mine (w4.setCell ⟨n + 3, 0, none⟩ (.bool true)) w.heap.size ⟨ng, ⟨l, A, c⟩, ex⟩) := Lib.hid ⟨(hI.own.far (fun e => by have := hI.own.below_block _ e; have := HSZ.out; simp at *; omega) _).lower (by rw [HSZ.out, HN.out]; omega)⟩
    have HE : Hid (Ext w (w4.setCell ⟨n + 3, 0, none⟩ (.bool true))) := Lib.hid (hI.ext.setCell' (by rw [HN.out]; simp) _)
    generalize w4.setCell ⟨n + 3, 0, none⟩ (.bool true) = w5 at *
    clear hI hG hlx HC HB32
    go_wp2_with (first | ((with_reducible refine wpl_load 24 (.tmp 4) ?_ ?_ (n + 2) 0 [.bool ng, .slice A l.length c, .int .i64 ex] ?_ ?_ ?_ ?_); (exact rfl); (exact rfl); (exact rfl); (exact aggDyadW); (exact BA.row)) | ((with_reducible refine wpl_store 24 (.tmp 2) (.tmp 11) ?_ ?_ (n + 1) 0 24 [.bool false, .slice none 0 0, .int .i64 0] [.bool ng, .slice A l.length c, .int .i64 ex] ?_ ?_ ?_ ?_ ?_ ?_ ?_); (exact rfl); (exact rfl); (exact rfl); (exact rfl); (exact aggDyadW); (exact BO); (exact by simp); (exact rfl); (intro w6 BR2 hO2)) | fail)
    exact bodyPost_ret (results_ct rfl rfl BR2 aggDyadW) rfl ⟨⟨ng, ⟨l, A, c⟩, ex⟩, by rw [HR.out] <;> rfl, by rw [HR.out] <;> rfl, HM.out.only BO hO2 BR2 rfl (by decide), Only.ext HE.out hO2 (by rw [HN.out]; omega)⟩
  · have HR : Hid (chkR s (readQ s) = (PDyad.zero, 320)) := Lib.hid (by
      unfold chkR
      cases hq : readQ s with
      | none => rfl
      | some a => exact if_neg fun h => hb a ⟨hq, h⟩)
    have BO : Blk ((w4.alloc (.cells #[] 193)).setCell ⟨n + 3, 0, none⟩ (.bool false)) (n + 1) 24 [.bool false, .slice none 0 0, .int .i64 0] := ((hL.but.blk HB32.out (by omega)).alloc _).far (by simp) _
    have HE : Hid (Ext w ((w4.alloc (.cells #[] 193)).setCell ⟨n + 3, 0, none⟩ (.bool false))) := Lib.hid ((hL.ext.alloc' _).setCell' (by rw [HN.out]; simp) _)
    generalize (w4.alloc (.cells #[] 193)).setCell ⟨n + 3, 0, none⟩ (.bool false) = w5 at *
    clear hb hL HC HB32
    go_wp2_with (first | ((with_reducible refine wpl_store 24 (.tmp 2) (.tmp 10) ?_ ?_ (n + 1) 0 24 [.bool false, .slice none 0 0, .int .i64 0] [.bool false, .slice none 0 0, .int .i64 0] ?_ ?_ ?_ ?_ ?_ ?_ ?_); (exact rfl); (exact rfl); (exact rfl); (exact rfl); (exact aggDyadW); (exact BO); (exact by simp); (exact rfl); (intro w6 BR2 hO2)) | fail)
    exact bodyPost_ret (results_ct rfl rfl BR2 aggDyadW) rfl ⟨XDyad.zero, by rw [HR.out] <;> rfl, by rw [HR.out] <;> rfl, XDyad.zero_mine _ _, Only.ext HE.out hO2 (by rw [HN.out]; omega)⟩
end Go.Proofs.YtgcbnagfdfgpnaaDoor
end
