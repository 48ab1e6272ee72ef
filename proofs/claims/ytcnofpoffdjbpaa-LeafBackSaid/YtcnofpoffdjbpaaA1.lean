/- Abstract memory and the model's: what stands for what; a block that turns. No program in sight. -/
import Derived.Test.YtcnofpoffdjbpaaA0
namespace Go.Proofs.Ytcnofpoffdjbpaa.AE
open Go Go.RowKit
set_option linter.unusedVariables false
set_option linter.unusedSimpArgs false

def upd {α : Type} (f : Nat → α) (n : Nat) (v : α) : Nat → α := fun m => if m = n then v else f m
theorem upd_same {α : Type} (f : Nat → α) (n : Nat) (v : α) : upd f n v n = v := if_pos rfl
theorem upd_ne {α : Type} (f : Nat → α) (n : Nat) (v : α) {m : Nat} (h : m ≠ n) : upd f n v m = f m := if_neg h
def Rng.has (r : Rng) (b i : Nat) : Prop := r.b = b ∧ r.o ≤ i ∧ i < r.o + r.c

/-- What the abstract memory stands for: each owned block lies in a range of cells that nobody else has; all else is as it was when the call began. -/
structure SR (B : Nat) (w0 : World) (σ : Sig) (h : AHeap) (w : World) : Prop where
  old : Below B w0 w
  hB : B ≤ w.heap.size
  blk : ∀ n k, h n = some k → ∃ r, σ n = some r ∧ r.sz = k.sz ∧ B ≤ r.b ∧ k.es.length * k.sz ≤ r.c ∧ k.es.length < big ∧
    (∀ i, r.has r.b i → (w.cell? ⟨r.b, i, none⟩).isSome = true ∧ w.frozen? ⟨r.b, i, none⟩ = false) ∧
    ∀ (i : Nat) (e : List AV), k.es[i]? = some e → e.length = k.sz ∧ ∀ (j : Nat) (a : AV), e[j]? = some a → a.one = true ∧ ∃ v, v.oneCell' = true ∧ w.cell? ⟨r.b, r.o + i * k.sz + j, none⟩ = some v ∧ VR σ w (Held σ h) B a v
  dis : ∀ n m r s b i, (h n).isSome → (h m).isSome → σ n = some r → σ m = some s → r.has b i → s.has b i → n = m

theorem held_iff {σ : Sig} {h : AHeap} {b i : Nat} : Held σ h b i ↔ ∃ n r, (h n).isSome ∧ σ n = some r ∧ r.has b i := Iff.rfl

/-- Nothing in memory is of a name that has no range. -/
theorem SR.none_of {B : Nat} {w0 w : World} {σ : Sig} {h : AHeap} (hs : SR B w0 σ h w) {n : Nat} (hn : σ n = none) : h n = none := by
  cases hh : h n with
  | none => rfl
  | some k => obtain ⟨r, h1, _⟩ := hs.blk n k hh; rw [hn] at h1; cases h1

section
variable {B : Nat} {w0 w w' : World} {σ : Sig} {h : AHeap}
/-- One block is made, or turned; those of D are given up for it. -/
theorem SR.turn (hs : SR B w0 σ h w) (D : Nat → Bool) (k : Nat) (r : Rng) (blk : Blk)
    (hk : σ k = none ∨ (D k = true ∧ σ k = some r)) (hbel : Below B w w')
    (hcell : ∀ b i v, w.cell? ⟨b, i, none⟩ = some v → (∀ n s, D n = true → (h n).isSome → σ n = some s → ¬ s.has b i) → w'.cell? ⟨b, i, none⟩ = some v)
    (hfrz : ∀ b i, (w.cell? ⟨b, i, none⟩).isSome = true → w'.frozen? ⟨b, i, none⟩ = w.frozen? ⟨b, i, none⟩)
    (hB : B ≤ r.b)
    (hroom : ∀ i, r.has r.b i → (w'.cell? ⟨r.b, i, none⟩).isSome = true ∧ w'.frozen? ⟨r.b, i, none⟩ = false ∧ (w.cell? ⟨r.b, i, none⟩ = none ∨ ∃ n s, D n = true ∧ (h n).isSome ∧ σ n = some s ∧ s.has r.b i))
    (hsz : r.sz = blk.sz) (hlen : blk.es.length * blk.sz ≤ r.c) (hbig : blk.es.length < big)
    (hcont : ∀ (i : Nat) (e : List AV), blk.es[i]? = some e → e.length = blk.sz ∧ ∀ (j : Nat) (a : AV), e[j]? = some a → a.one = true ∧ ∃ v, v.oneCell' = true ∧ w'.cell? ⟨r.b, r.o + i * blk.sz + j, none⟩ = some v ∧ VR σ w (Held σ h) B a v) :
    SR B w0 (upd σ k (some r)) (upd (fun m => if D m = true then none else h m) k (some blk)) w' ∧
      ∀ a v, VR σ w (Held σ h) B a v → VR (upd σ k (some r)) w' (Held (upd σ k (some r)) (upd (fun m => if D m = true then none else h m) k (some blk))) B a v := by
  have hσ : ∀ n s, σ n = some s → upd σ k (some r) n = some s := fun n s hn => by
    by_cases e : n = k
    · subst e
      rcases hk with hk | ⟨_, hk⟩
      · rw [hk] at hn; cases hn
      · rw [upd_same]; rw [hk] at hn; exact hn
    · rw [upd_ne _ _ _ e]; exact hn
  have held : ∀ b i, Held (upd σ k (some r)) (upd (fun m => if D m = true then none else h m) k (some blk)) b i → w.cell? ⟨b, i, none⟩ = none ∨ Held σ h b i := by
    rintro b i ⟨n, s, h1, h2, h3⟩
    by_cases e : n = k
    · subst e
      rw [upd_same] at h2
      cases h2
      obtain ⟨h4, h5, h6⟩ := h3
      subst h4
      rcases (hroom i ⟨rfl, h5, h6⟩).2.2 with h7 | ⟨m, s, _, h8, h9, h10⟩
      · exact .inl h7
      · exact .inr ⟨m, s, h8, h9, h10⟩
    · rw [upd_ne _ _ _ e] at h1 h2
      split at h1
      · cases h1
      · exact .inr ⟨n, s, h1, h2, h3⟩
  have keep : ∀ a v, VR σ w (Held σ h) B a v → VR (upd σ k (some r)) w' (Held (upd σ k (some r)) (upd (fun m => if D m = true then none else h m) k (some blk))) B a v := by
    intro a v hv
    refine hv.mono hσ (fun b i u hu hx => ⟨hcell b i u hu fun n s hd hn hsn hh => hx ⟨n, s, hn, hsn, hh⟩, fun hx' => ?_⟩) (Nat.le_refl _)
    rcases held b i hx' with h1 | h1
    · rw [h1] at hu; cases hu
    · exact hx h1
  refine ⟨⟨hs.old.trans hbel, Nat.le_trans hs.hB hbel.size, fun n kb hn => ?_, fun n m s t b i hn hm h1 h2 h3 h4 => ?_⟩, keep⟩
  · by_cases e : n = k
    · subst e
      rw [upd_same] at hn
      cases hn
      refine ⟨r, upd_same _ _ _, hsz, hB, hlen, hbig, fun i hi => ⟨(hroom i hi).1, (hroom i hi).2.1⟩, fun i e he => ?_⟩
      obtain ⟨h1, h2⟩ := hcont i e he
      refine ⟨h1, fun j a ha => ?_⟩
      obtain ⟨h3, v, h4, h5, h6⟩ := h2 j a ha
      exact ⟨h3, v, h4, h5, keep _ _ h6⟩
    · rw [upd_ne _ _ _ e] at hn
      split at hn
      · cases hn
      · rename_i hd
        obtain ⟨s, h1, h2, h3, h4, h4', h5, h6⟩ := hs.blk n kb hn
        have away : ∀ i, s.has s.b i → ∀ m t, D m = true → (h m).isSome → σ m = some t → ¬ t.has s.b i := fun i hi m t hdm hm ht hh =>
          hd ((hs.dis n m s t s.b i (by rw [hn]; rfl) hm h1 ht hi hh) ▸ hdm)
        refine ⟨s, hσ _ _ h1, h2, h3, h4, h4', fun i hi => ?_, fun i e he => ?_⟩
        · obtain ⟨h7, h8⟩ := h5 i hi
          obtain ⟨u, hu⟩ := Option.isSome_iff_exists.1 h7
          exact ⟨by rw [hcell _ _ _ hu (away i hi)]; rfl, by rw [hfrz _ _ h7, h8]⟩
        · obtain ⟨h7, h8⟩ := h6 i e he
          refine ⟨h7, fun j a ha => ?_⟩
          obtain ⟨h9, v, h10, h11, h12⟩ := h8 j a ha
          refine ⟨h9, v, h10, hcell _ _ _ h11 (away _ ⟨rfl, by omega, ?_⟩), keep _ _ h12⟩
          have hj := (List.getElem?_eq_some_iff.1 ha).1
          have hi := (List.getElem?_eq_some_iff.1 he).1
          have : (i + 1) * kb.sz ≤ kb.es.length * kb.sz := Nat.mul_le_mul_right _ hi
          rw [Nat.succ_mul] at this
          omega
  · by_cases e : n = k
    · by_cases e' : m = k
      · omega
      · exfalso
        subst e
        rw [upd_same] at h1
        cases h1
        rw [upd_ne _ _ _ e'] at hm h2
        split at hm
        · cases hm
        · rename_i hd
          obtain ⟨h5, h6, h7⟩ := h3
          subst h5
          obtain ⟨mb, hmb⟩ := Option.isSome_iff_exists.1 hm
          obtain ⟨t', q1, _, _, _, _, q5, _⟩ := hs.blk m mb hmb
          rw [h2] at q1
          cases q1
          have hq := h4
          obtain ⟨q6, q7, q8⟩ := h4
          rcases (hroom i ⟨rfl, h6, h7⟩).2.2 with h8 | ⟨x, s, hdx, hx, hsx, hh⟩
          · have := (q5 i (by rw [q6]; exact hq)).1
            rw [q6, h8] at this
            cases this
          · have := hs.dis m x t s r.b i hm hx h2 hsx hq hh
            subst this
            exact hd hdx
    · by_cases e' : m = k
      · exfalso
        subst e'
        rw [upd_same] at h2
        cases h2
        rw [upd_ne _ _ _ e] at hn h1
        split at hn
        · cases hn
        · rename_i hd
          obtain ⟨h5, h6, h7⟩ := h4
          subst h5
          obtain ⟨nb, hnb⟩ := Option.isSome_iff_exists.1 hn
          obtain ⟨t', q1, _, _, _, _, q5, _⟩ := hs.blk n nb hnb
          rw [h1] at q1
          cases q1
          have hq := h3
          obtain ⟨q6, q7, q8⟩ := h3
          rcases (hroom i ⟨rfl, h6, h7⟩).2.2 with h8 | ⟨x, s', hdx, hx, hsx, hh⟩
          · have := (q5 i (by rw [q6]; exact hq)).1
            rw [q6, h8] at this
            cases this
          · have := hs.dis n x s s' r.b i hn hx h1 hsx hq hh
            subst this
            exact hd hdx
      · rw [upd_ne _ _ _ e] at hn h1
        rw [upd_ne _ _ _ e'] at hm h2
        split at hn
        · cases hn
        · split at hm
          · cases hm
          · exact hs.dis n m s t b i hn hm h1 h2 h3 h4

/-- Blocks are given up. -/
theorem SR.drop (hs : SR B w0 σ h w) (D : Nat → Bool) :
    SR B w0 σ (fun m => if D m = true then none else h m) w ∧ ∀ a v, VR σ w (Held σ h) B a v → VR σ w (Held σ (fun m => if D m = true then none else h m)) B a v := by
  have held : ∀ b i, Held σ (fun m => if D m = true then none else h m) b i → Held σ h b i := by
    rintro b i ⟨n, s, h1, h2, h3⟩
    dsimp only at h1
    split at h1
    · cases h1
    · exact ⟨n, s, h1, h2, h3⟩
  have keep : ∀ a v, VR σ w (Held σ h) B a v → VR σ w (Held σ (fun m => if D m = true then none else h m)) B a v := fun a v hv =>
    hv.mono (fun _ _ q => q) (fun b i u hu hx => ⟨hu, fun q => hx (held b i q)⟩) (Nat.le_refl _)
  refine ⟨⟨hs.old, hs.hB, fun n kb hn => ?_, fun n m s t b i hn hm => ?_⟩, keep⟩
  · split at hn
    · cases hn
    · obtain ⟨s, h1, h2, h3, h4, h4', h5, h6⟩ := hs.blk n kb hn
      refine ⟨s, h1, h2, h3, h4, h4', h5, fun i e he => ?_⟩
      obtain ⟨h7, h8⟩ := h6 i e he
      refine ⟨h7, fun j a ha => ?_⟩
      obtain ⟨h9, v, h10, h11, h12⟩ := h8 j a ha
      exact ⟨h9, v, h10, h11, keep _ _ h12⟩
  · split at hn
    · cases hn
    · split at hm
      · cases hm
      · exact hs.dis n m s t b i hn hm

/-- A new block. -/
theorem SR.alloc (hs : SR B w0 σ h w) (k : Nat) (hk : σ k = none) (ccs : Array Value) (t : TypeId) (blk : Blk) (hlen : blk.es.length * blk.sz ≤ ccs.size) (hbig : blk.es.length < big)
    (hcont : ∀ (i : Nat) (e : List AV), blk.es[i]? = some e → e.length = blk.sz ∧ ∀ (j : Nat) (a : AV), e[j]? = some a → a.one = true ∧ ∃ v, v.oneCell' = true ∧ ccs[i * blk.sz + j]? = some v ∧ VR σ w (Held σ h) B a v) :
    SR B w0 (upd σ k (some ⟨w.heap.size, 0, ccs.size, blk.sz⟩)) (upd h k (some blk)) (w.alloc (.cells ccs t)) ∧
      ∀ a v, VR σ w (Held σ h) B a v → VR (upd σ k (some ⟨w.heap.size, 0, ccs.size, blk.sz⟩)) (w.alloc (.cells ccs t)) (Held (upd σ k (some ⟨w.heap.size, 0, ccs.size, blk.sz⟩)) (upd h k (some blk))) B a v := by
  have lt : ∀ b i, (w.cell? ⟨b, i, none⟩).isSome = true → b < w.heap.size := fun b i hb => by
    rcases Nat.lt_or_ge b w.heap.size with q | q
    · exact q
    · simp [World.cell?, Array.getElem?_eq_none q] at hb
  have := hs.turn (w' := w.alloc (.cells ccs t)) (fun _ => false) k ⟨w.heap.size, 0, ccs.size, blk.sz⟩ blk (.inl hk) ((Below.refl B w).alloc hs.hB _)
    (fun b i v hv _ => by rw [World.cell?_alloc_lt _ _ _ (lt b i (by rw [hv]; rfl))]; exact hv)
    (fun b i hb => RowKit.frozen?_alloc_cells _ _ _ _) hs.hB
    (fun i hi => ⟨by
        simp only [World.cell?_alloc_new]
        have := hi.2.2
        simp only [Nat.zero_add] at this
        rw [Array.getElem?_eq_getElem this]
        rfl, by
        rw [RowKit.frozen?_alloc_cells]
        simp [World.frozen?], .inl (by simp [World.cell?])⟩) rfl (by simpa using hlen) hbig
    (fun i e he => by
      obtain ⟨h1, h2⟩ := hcont i e he
      refine ⟨h1, fun j a ha => ?_⟩
      obtain ⟨h3, v, h4, h5, h6⟩ := h2 j a ha
      exact ⟨h3, v, h4, by simpa using h5, h6⟩)
  simpa using this
/-- The world's other parts do not matter. -/
theorem SR.drew (hs : SR B w0 σ h w) (n : Nat) : SR B w0 σ h { w with drawn := n } ∧ ∀ a v, VR σ w (Held σ h) B a v → VR σ { w with drawn := n } (Held σ h) B a v := by
  have keep : ∀ a v, VR σ w (Held σ h) B a v → VR σ { w with drawn := n } (Held σ h) B a v := fun a v hv => VR.mono (w := w) (w' := { w with drawn := n }) (fun _ _ q => q) (fun b i u hu hx => ⟨hu, hx⟩) (Nat.le_refl _) hv
  refine ⟨⟨⟨hs.old.os, hs.old.tape, hs.old.output, hs.old.size, hs.old.block⟩, hs.hB, fun m kb hm => ?_, hs.dis⟩, keep⟩
  obtain ⟨s, h1, h2, h3, h4, h4', h5, h6⟩ := hs.blk m kb hm
  refine ⟨s, h1, h2, h3, h4, h4', h5, fun i e he => ?_⟩
  obtain ⟨h7, h8⟩ := h6 i e he
  refine ⟨h7, fun j a ha => ?_⟩
  obtain ⟨h9, v, h10, h11, h12⟩ := h8 j a ha
  exact ⟨h9, v, h10, h11, keep _ _ h12⟩
end
end Go.Proofs.Ytcnofpoffdjbpaa.AE
