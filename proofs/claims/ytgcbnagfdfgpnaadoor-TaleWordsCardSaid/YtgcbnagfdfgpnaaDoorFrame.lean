/- The frame of a row 'the law answers true, the input reads as it did': what a contract of the law still owes. -/
import Derived.Test.YtgcbnagfdfgpnaaDoorData
import Derived.ProofKit
import Derived.OpenShut
import Derived.Deep.Slices
import Derived.Carry
namespace Go.Hx
open Go.ChangeShapes Go.WideShapes Go.ChangeAt Go.RowKit Go.Deep

section
variable {H : Type} {enc : TypeId × Value → H} {P : Program}

theorem trodAll_kept (hl : laidOutB P = true) {W W' : World} (hb : Below W.heap.size W W') : ∀ {ts : List TypeId} {vs : List Value} {ds : List (DataW H)} {ps : List MemPlace}, (∀ t ∈ ts, P.readableRec t = true ∧ t < P.types.size) →
    DataW.TrodAll enc P W 0 (fun _ => true) true ts vs ds ps → (∀ x ∈ ps, x.block < W.heap.size) → DataW.TrodAll enc P W' 0 (fun b => decide (b < W.heap.size)) true ts vs ds ps
  | [], [], [], _, _, h, _ => h
  | t :: ts, v :: vs, d :: ds, ps, ht, h, hlt => by
    obtain ⟨p, q, h1, h2, rfl⟩ := h
    refine ⟨p, q, Below.trod hl (ht t (by simp)).1 (ht t (by simp)).2 h1 hb (fun x hx => hlt x (by simp [hx])), ?_, rfl⟩
    exact trodAll_kept hl hb (fun t' h' => ht t' (by simp [h'])) h2 (fun x hx => hlt x (by simp [hx]))
  | [], _ :: _, _, _, _, h, _ => h.elim
  | [], [], _ :: _, _, _, h, _ => h.elim
  | _ :: _, [], _, _, _, h, _ => h.elim
  | _ :: _, _ :: _, [], _, _, h, _ => h.elim

/-- THE ROW's POST: the law answered true and turned nothing -/
theorem post_true {f : Func} {s : ChangeSpec} {W W' : World} {args : Array Value} {ds : List (DataW H)} {before : List MemPlace} {tb : TypeId}
    (hl : laidOutB P = true) (hps : ∀ t ∈ f.params.toList, P.readableRec t = true ∧ t < P.types.size) (hres : f.resultTypes = #[tb]) (hb : P.underlying tb = some .bool)
    (hvars : s.vars = []) (hs : s.fn H (ds ++ []) = { results := [.lit (.bool true)], args := ds })
    (hW : DataW.Whole enc P f.params.toList s.vars false W args.toList ds [] before) (hE : Ext W W') : s.post enc P f false true false false W args (.bool true) W' := by
  have hW' := hW
  have hlt : ∀ p ∈ before, p.block < W.heap.size := fun p hp => hW.lt p hp
  obtain ⟨p, q, hA, hV, rfl, hfz, hnd⟩ := hW
  rw [hvars] at hV
  have hq : q = [] := hV
  subst hq
  refine ⟨ds, [], p ++ [], [], p, [], hW', ?_, ?_, ?_, World.keptBut_mono (fun x hx => ⟨by simpa using hx, .inr (.inl hx)⟩) (hE.below.frame (· ∈ p)), fun h => by cases h⟩
  · rw [hs, hres]
    exact trodAll_mk1 (shut_bool hb true)
  · rw [hs]
    exact trodAll_kept hl hE.below hps hA (fun x hx => hlt x (by simp [hx]))
  · rw [hvars, hs]
    rfl

variable {w : World} {base : Nat} {spare : Nat → Bool} {held : Bool} {fuel : Nat} {cs : List Value} {x : DataW H × List MemPlace}

theorem spot_of_cell {w : World} {a : Addr} {v : Value} {k : Nat} (h : w.cell? (a.add k) = some v) : ∃ b off, a = ⟨b, off, none⟩ ∨ 0 < k := by
  obtain ⟨b, off, s⟩ := a
  exact ⟨b, off, by
    rcases Nat.eq_zero_or_pos k with h0 | h0
    · subst h0
      left
      have : (⟨b, off, s⟩ : Addr).add 0 = ⟨b, off, s⟩ := rfl
      rw [this] at h
      cases s with
      | none => rfl
      | some s => simp [World.cell?] at h; split at h <;> simp_all
    · exact .inr h0⟩

/-- A SLICE, OPENED -/
theorem open_list {α : Type} [Inhabited α] {t e size : Nat} {enc' : α → List Value} {ok : α → Prop} (ht : P.underlying t = some (.slice e)) (hC : P.cellsOf e = size) (hpos : 0 < size)
    (helem : ∀ n cs' y, DataW.trod enc P w base spare held n e cs' = some y → ∃ X : α, cs' = enc' X ∧ ok X) (h : DataW.trod enc P w base spare held fuel t cs = some x) :
    ∃ L : LX α, cs = [.slice L.A L.l.length L.c] ∧ L.ok w w.heap.size enc' ∧ ∀ X ∈ L.l, ok X := by
  rcases open_slice ht h with ⟨h0, _⟩ | ⟨a, len, cap, m, n, D, Pl, rfl, _, hlc, hcm, hmm, _, hi⟩
  · exact ⟨⟨[], none, 0⟩, h0, LX.ok.nil, fun X hX => by cases hX⟩
  · rw [hC] at hi
    have hle : len ≤ m := by rw [hmm]; split <;> omega
    obtain ⟨f, hf⟩ := choose_lt (α := α) (n := len) (p := fun i X => w.cells? base (a.add (i * size)) size = some (enc' X) ∧ ok X) (fun i hil => by
      obtain ⟨cs', h1, h2⟩ := hi i (by omega)
      obtain ⟨X, hX, hok⟩ := helem _ _ _ h2
      exact ⟨X, by rw [h1, hX], hok⟩)
    refine ⟨⟨(List.range len).map f, some a, cap⟩, by simp, ⟨?_, by simpa using hlc, hcm⟩, fun X hX => ?_⟩
    · rcases Nat.eq_zero_or_pos len with h0 | h0
      · subst h0; exact .inl rfl
      · right
        have hlen : ∀ i, i < len → (enc' (f i)).length = size := fun i hil => (World.cells?_some (hf i hil).1).2.1
        obtain ⟨b, off, s⟩ := a
        have hs : s = none := by
          have h1 := (World.cells?_some (hf 0 h0).1).2.2 0 hpos
          rw [Nat.zero_mul] at h1
          have h2 : (enc' (f 0))[0]? = some ((enc' (f 0))[0]'(by have := hlen 0 h0; omega)) := List.getElem?_eq_getElem _
          rw [h2] at h1
          have e1 : ((⟨b, off, s⟩ : Addr).add 0).add 0 = ⟨b, off, s⟩ := rfl
          rw [e1] at h1
          simpa [Addr.add] using World.cell?_spot h1
        subst hs
        have hrow : ∀ i j u, i < len → (enc' (f i))[j]? = some u → w.cell? ⟨b, off + (i * size + j), none⟩ = some u := fun i j u hil hu => by
          have hj : j < size := by rw [← hlen i hil]; exact (List.getElem?_eq_some_iff.1 hu).1
          have h1 := (World.cells?_some (hf i hil).1).2.2 j hj
          rw [add_none, add_none, hu, Nat.add_assoc] at h1
          exact h1
        have hget : ∀ (k : Nat) (g : Nat → α) (i0 : Nat), (∀ i, i < k → (enc' (g i)).length = size) → ∀ j u, (((List.range k).map g).flatMap enc')[j]? = some u → ∃ i r, i < k ∧ (enc' (g i))[r]? = some u ∧ j = i * size + r := by
          intro k
          induction k with
          | zero => intro g i0 _ j u hu; simp at hu
          | succ k ih =>
            intro g i0 hg j u hu
            rw [List.range_succ, List.map_append, List.flatMap_append] at hu
            have hlk : (((List.range k).map g).flatMap enc').length = k * size := by
              clear ih hu
              induction k with
              | zero => simp
              | succ k ihk =>
                rw [List.range_succ, List.map_append, List.flatMap_append, List.length_append, ihk (fun i hi => hg i (by omega))]
                have := hg k (by omega)
                simp [this, Nat.add_mul]
            rw [List.getElem?_append] at hu
            split at hu
            · obtain ⟨i, r, h1, h2, h3⟩ := ih g i0 (fun i hi => hg i (by omega)) j u hu
              exact ⟨i, r, by omega, h2, h3⟩
            · rename_i hge
              rw [hlk] at hu hge
              exact ⟨k, j - k * size, by omega, by simpa using hu, by omega⟩
        refine ⟨b, off, rfl, ?_, fun j u hu => ?_⟩
        · have h2 : (enc' (f 0))[0]? = some ((enc' (f 0))[0]'(by have := hlen 0 h0; omega)) := List.getElem?_eq_getElem _
          exact World.block_lt_of_cell? w _ (hrow 0 0 _ h0 h2)
        · obtain ⟨i, r, h1, h2, rfl⟩ := hget len f 0 hlen j u hu
          exact hrow i r u h1 h2
    · simp only [List.mem_map, List.mem_range] at hX
      obtain ⟨i, hil, rfl⟩ := hX
      exact (hf i hil).2

theorem glue {cs A R : List Value} {o a : Nat} (h : (cs.drop o).take a = A) (hr : cs.drop (o + a) = R) : cs.drop o = A ++ R := by
  rw [← h, ← hr, ← List.drop_drop, List.take_append_drop]
theorem inI64_of {n : Int} (h : (Lit.int .i64 n).wf = true) : inI64 n := by
  simpa [Lit.wf, IntKind.min, IntKind.max, IntKind.signed, IntKind.bits, inI64] using h
theorem inU8_of {n : Int} (h : (Lit.int .u8 n).wf = true) : 0 ≤ n ∧ n ≤ 255 := by
  simpa [Lit.wf, IntKind.min, IntKind.max, IntKind.signed, IntKind.bits] using h
theorem inU64_of {n : Int} (h : (Lit.int .u64 n).wf = true) : 0 ≤ n ∧ n ≤ 18446744073709551615 := by
  simpa [Lit.wf, IntKind.min, IntKind.max, IntKind.signed, IntKind.bits] using h
theorem inU32_of {n : Int} (h : (Lit.int .u32 n).wf = true) : 0 ≤ n ∧ n ≤ 4294967295 := by
  simpa [Lit.wf, IntKind.min, IntKind.max, IntKind.signed, IntKind.bits] using h
end
end Go.Hx
