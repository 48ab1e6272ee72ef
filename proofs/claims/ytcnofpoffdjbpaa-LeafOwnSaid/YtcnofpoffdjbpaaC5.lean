/- Calls whose arguments are owned rows that are only read, and whose answers are owned. No program in sight. -/
import Derived.Test.YtcnofpoffdjbpaaC4
namespace Go.Proofs.Ytcnofpoffdjbpaa.AE
open Go Go.RowKit
set_option linter.unusedVariables false
set_option linter.unusedSimpArgs false
variable {P : Program}
/-- Values that no told row is in. -/
def free1 : AV → Bool
  | .sl [] => true
  | .sl _ | .ip _ | .agg _ | .tup _ | .fn .. | .iface .. => false
  | _ => true
def free2 : AV → Bool
  | .agg cs => cs.all free1
  | a => free1 a
def freeV : AV → Bool
  | .tup vs => vs.all free2
  | a => free2 a
theorem free1_ok {σ σ' : Sig} {w w' : World} {X X' : Nat → Nat → Prop} {B B' : Nat} {a : AV} {v : Value} (hσ : ∀ n r, σ n = some r → σ' n = some r) (hp : free1 a = true) (h : VR σ w X B a v) : VR σ' w' X' B' a v := by
  cases h with
  | undef v => exact .undef v
  | bool b => exact .bool b
  | int k n h => exact .int k n h
  | str s h => exact .str s h
  | zs a => exact .zs a
  | sl es a cap size vs hcap hb h hv =>
    cases es with
    | nil => exact .sl [] a cap size vs hcap hb (fun i e he => by simp at he) (fun i e he => by simp at he)
    | cons _ _ => simp [free1] at hp
  | hs n off len a cap r hr hcap hb h => exact .hs n off len a cap r (hσ _ _ hr) hcap hb h
  | nilp => exact .nilp
  | ptr n e j r hr => exact .ptr n e j r (hσ _ _ hr)
  | ip cs ad vs hs h hv => simp [free1] at hp
  | agg cs vs hl hv => simp [free1] at hp
  | tup cs vs hl hv => simp [free1] at hp
  | fn f xs ys us vs hl hm ha hv => simp [free1] at hp
  | nilf => exact .nilf
  | iface t a v h => simp [free1] at hp
  | niliface => exact .niliface
theorem free2_ok {σ σ' : Sig} {w w' : World} {X X' : Nat → Nat → Prop} {B B' : Nat} {a : AV} {v : Value} (hσ : ∀ n r, σ n = some r → σ' n = some r) (hp : free2 a = true) (h : VR σ w X B a v) : VR σ' w' X' B' a v := by
  unfold free2 at hp
  split at hp
  · obtain ⟨us, rfl, h1⟩ := VR.agg_iff.1 h
    exact VR.agg_iff.2 ⟨us, rfl, h1.1, fun j c v hc hv => free1_ok hσ (List.all_eq_true.1 hp c (List.mem_of_getElem? hc)) (h1.2 j c v hc hv)⟩
  · exact free1_ok hσ hp h
theorem freeV_ok {σ σ' : Sig} {w w' : World} {X X' : Nat → Nat → Prop} {B B' : Nat} {a : AV} {v : Value} (hσ : ∀ n r, σ n = some r → σ' n = some r) (hp : freeV a = true) (h : VR σ w X B a v) : VR σ' w' X' B' a v := by
  unfold freeV at hp
  split at hp
  · obtain ⟨us, rfl, h1⟩ := VR.tup_iff.1 h
    exact VR.tup_iff.2 ⟨us, rfl, h1.1, fun j c v hc hv => free2_ok hσ (List.all_eq_true.1 hp c (List.mem_of_getElem? hc)) (h1.2 j c v hc hv)⟩
  · exact free2_ok hσ hp h
def mergeH (nx : Nat) (h h' : AHeap) : AHeap := fun n => if n < nx then h n else h' n
theorem mergeH_no {nx : Nat} {h : AHeap} (hf : ∀ n, nx ≤ n → h n = none) : mergeH nx h noH = h := by
  funext n
  unfold mergeH
  split
  · rfl
  · rw [hf n (by omega)]
theorem mergeH_upd {nx m : Nat} {h h' : AHeap} {b : Option Blk} (hm : nx ≤ m) : mergeH nx h (upd h' m b) = upd (mergeH nx h h') m b := by
  funext n
  by_cases e : n = m
  · subst e; rw [upd_same]; unfold mergeH; rw [if_neg (by omega), upd_same]
  · rw [upd_ne _ _ _ e]
    unfold mergeH
    rw [upd_ne _ _ _ e]
/-- The owned rows that it is handed are told; what it answers lies in new memory. -/
theorem aCalls_toldR {f : FuncId} {args : List AV} {h : AHeap} {nx : Nat} {R : AV → AHeap → Nat → Prop} (hf : aCalls P f (args.map fun a => weakA (toldA h a)) noH nx (fun e h' k' => ∃ v, e = .ret v ∧ R v h' k'))
    (hfree : ∀ v h' k', R v h' k' → freeV v = true ∧ ∀ n k, h' n = some k → ∀ e ∈ k.es, ∀ c ∈ e, free1 c = true) : aCalls P f args h nx (fun e h'' k' => ∃ v h', e = .ret v ∧ R v h' k' ∧ h'' = mergeH nx h h' ∧ nx ≤ k' ∧ ∀ n, nx ≤ n → h n = none) := by
  intro B w0 O σ w vs hs hx hk hv
  have hv2 : VRs σ w (Held σ noH) w.heap.size (args.map fun a => weakA (toldA h a)) vs.toList := ⟨by simpa using hv.1, fun j c u hc hu => by
    rw [List.getElem?_map] at hc
    obtain ⟨d, hd, rfl⟩ := Option.map_eq_some_iff.1 hc
    exact ((hv.2 j d u hd hu).toldA hs).weakA.anyB⟩
  have hs2 : SR w.heap.size w σ noH w := ⟨Below.refl _ _, Nat.le_refl _, (fun n k hn => by simp [noH] at hn), (fun n m r s b i hn => by simp [noH] at hn)⟩
  refine (hf w.heap.size w ⟨σ, noH, w, nx⟩ σ w vs hs2 hx (.refl _ _ _ _) hv2).mono ?_
  rintro e w' ⟨ae, h', nx', σ', g1, g2, g3, g4, v, rfl, g7⟩
  obtain ⟨f1, f2⟩ := hfree v h' nx' g7
  cases g1 with
  | ret _ u hu =>
  have ltn : ∀ n, (h n).isSome = true → n < nx := fun n hn => by
    rcases Nat.lt_or_ge n nx with q | q
    · exact q
    · rw [hs.none_of (hx n q)] at hn; cases hn
  have hσ : ∀ n, n < nx → σ' n = σ n := fun n hn => g4.σ n hn
  have lt : ∀ b i, (w.cell? ⟨b, i, none⟩).isSome = true → b < w.heap.size := fun b i hb => by
    rcases Nat.lt_or_ge b w.heap.size with q | q
    · exact q
    · simp [World.cell?, Array.getElem?_eq_none q] at hb
  have hcell : ∀ b i, (w.cell? ⟨b, i, none⟩).isSome = true → w'.cell? ⟨b, i, none⟩ = w.cell? ⟨b, i, none⟩ := fun b i hb => World.cell?_of_block (w := w) (a := ⟨b, i, none⟩) (g2.old.block b (lt b i hb))
  have hfrz : ∀ b i, (w.cell? ⟨b, i, none⟩).isSome = true → w'.frozen? ⟨b, i, none⟩ = w.frozen? ⟨b, i, none⟩ := fun b i hb => World.frozen?_of_block (w := w) (a := ⟨b, i, none⟩) (g2.old.block b (lt b i hb))
  have low : ∀ n, n < nx → mergeH nx h h' n = h n := fun n hn => if_pos hn
  have high : ∀ n, ¬ n < nx → mergeH nx h h' n = h' n := fun n hn => if_neg hn
  have newb : ∀ n r b i, ¬ n < nx → (mergeH nx h h' n).isSome = true → σ' n = some r → r.has b i → w.heap.size ≤ b := fun n r b i hn hm hr hh => by
    rw [high n hn] at hm
    obtain ⟨k, hk'⟩ := Option.isSome_iff_exists.1 hm
    obtain ⟨r', q1, q2, q3, _⟩ := g2.blk n k hk'
    rw [hr] at q1
    cases q1
    rw [← hh.1]
    exact q3
  have held : ∀ b i, b < w.heap.size → Held σ' (mergeH nx h h') b i → Held σ h b i := by
    rintro b i hb ⟨n, r, q1, q2, q3⟩
    by_cases hn : n < nx
    · rw [low n hn] at q1
      exact ⟨n, r, q1, by rw [← hσ n hn]; exact q2, q3⟩
    · have := newb n r b i hn q1 q2 q3
      omega
  have keep : ∀ a v, VR σ w (Held σ h) B a v → VR σ' w' (Held σ' (mergeH nx h h')) B a v := fun a v hv => by
    refine hv.mono (fun n r hn => ?_) (fun b i u hu hx => ⟨by rw [hcell b i (by rw [hu]; rfl)]; exact hu, fun q => hx (held b i (lt b i (by rw [hu]; rfl)) q)⟩) (Nat.le_refl _)
    rw [hσ n (by
      rcases Nat.lt_or_ge n nx with q | q
      · exact q
      · rw [hx n q] at hn; cases hn)]
    exact hn
  refine ⟨.ret v, mergeH nx h h', nx', σ', .ret v u (freeV_ok (fun _ _ q => q) f1 hu), ⟨hs.old.trans ⟨g2.old.os, g2.old.tape, g2.old.output, g2.old.size, fun b hb => g2.old.block b (Nat.lt_of_lt_of_le hb hs.hB)⟩, Nat.le_trans hs.hB g2.old.size, fun n k hn => ?_, fun n m r s b i h1 h2 h3 h4 h5 h6 => ?_⟩, g3, hk.trans keep g4.nx (fun n hn => g4.σ n hn), v, h', rfl, g7, rfl, g4.nx, fun n hn => hs.none_of (hx n hn)⟩
  · by_cases hlt : n < nx
    · rw [low n hlt] at hn
      obtain ⟨r, q1, q2, q3, q4, q5, q6, q7⟩ := hs.blk n k hn
      refine ⟨r, by rw [hσ n hlt]; exact q1, q2, q3, q4, q5, fun i hi => ?_, fun i e he => ?_⟩
      · obtain ⟨p1, p2⟩ := q6 i hi
        rw [hcell _ _ p1, hfrz _ _ p1]
        exact ⟨p1, p2⟩
      · obtain ⟨p1, p2⟩ := q7 i e he
        refine ⟨p1, fun j a ha => ?_⟩
        obtain ⟨p3, u, p4, p5, p6⟩ := p2 j a ha
        exact ⟨p3, u, p4, by rw [hcell _ _ (by rw [p5]; rfl)]; exact p5, keep _ _ p6⟩
    · rw [high n hlt] at hn
      obtain ⟨r, q1, q2, q3, q4, q5, q6, q7⟩ := g2.blk n k hn
      refine ⟨r, q1, q2, Nat.le_trans hs.hB q3, q4, q5, q6, fun i e he => ?_⟩
      obtain ⟨p1, p2⟩ := q7 i e he
      refine ⟨p1, fun j a ha => ?_⟩
      obtain ⟨p3, u, p4, p5, p6⟩ := p2 j a ha
      exact ⟨p3, u, p4, p5, free1_ok (fun _ _ q => q) (f2 n k hn e (List.mem_of_getElem? he) a (List.mem_of_getElem? ha)) p6⟩
  · by_cases hn : n < nx
    · by_cases hm : m < nx
      · rw [low n hn] at h1
        rw [low m hm] at h2
        exact hs.dis n m r s b i h1 h2 (by rw [← hσ n hn]; exact h3) (by rw [← hσ m hm]; exact h4) h5 h6
      · have q1 := newb m s b i hm h2 h4 h6
        rw [low n hn] at h1
        obtain ⟨k, hk'⟩ := Option.isSome_iff_exists.1 h1
        obtain ⟨r', z1, z2, z3, z4, z5, z6, _⟩ := hs.blk n k hk'
        rw [← hσ n hn, h3] at z1
        cases z1
        have := lt _ _ (z6 i ⟨rfl, h5.2.1, h5.2.2⟩).1
        have := h5.1
        omega
    · by_cases hm : m < nx
      · have q1 := newb n r b i hn h1 h3 h5
        rw [low m hm] at h2
        obtain ⟨k, hk'⟩ := Option.isSome_iff_exists.1 h2
        obtain ⟨r', z1, z2, z3, z4, z5, z6, _⟩ := hs.blk m k hk'
        rw [← hσ m hm, h4] at z1
        cases z1
        have := lt _ _ (z6 i ⟨rfl, h6.2.1, h6.2.2⟩).1
        have := h6.1
        omega
      · rw [high n hn] at h1
        rw [high m hm] at h2
        exact g2.dis n m r s b i h1 h2 h3 h4 h5 h6
section
variable {nt : Nat} {Q : AX → St → Prop} {ops : Array Oper} {rest : List Oper} {tm : Nat → AV} {h : AHeap} {k : Nat} {df : List ADef} {ty : TypeId} {pos : String} {after : Array Edge} {d : Nat}
/-- A call that reads owned rows and answers owned ones. -/
theorem W_toldR {c : Call} {f : FuncId} {args : List AV} {R : AV → AHeap → Nat → Prop} (hd : decide (d < nt) = true) (ha : calleeT h tm c = some (f, args)) (hc : callable P f = true) (hf : aCalls P f args noH k (fun e h' k' => ∃ v, e = .ret v ∧ R v h' k'))
    (hfree : ∀ v h' k', R v h' k' → freeV v = true ∧ ∀ n b, h' n = some b → ∀ e ∈ b.es, ∀ c ∈ e, free1 c = true) (hr : ∀ v h' k', R v h' k' → k ≤ k' → (∀ n, k ≤ n → h n = none) → aOps P nt ops rest Q ⟨upd tm d v, mergeH k h h', k', df⟩) :
    aOps P nt ops (⟨some d, .call c, ty, pos, after, none⟩ :: rest) Q ⟨tm, h, k, df⟩ := by
  unfold calleeT at ha
  obtain ⟨⟨f', args'⟩, h1, h2⟩ := Option.map_eq_some_iff.1 ha
  simp only [Prod.mk.injEq] at h2
  obtain ⟨rfl, rfl⟩ := h2
  exact aOps_call rfl hd rfl h1 hc (aCalls_toldR hf hfree) (fun a h' k' ⟨v, h2, e1, e2, e3, e4, e5⟩ => by cases e1; subst e3; exact hr _ h2 k' e2 e4 e5) (fun a h' k' ⟨v, h2, e1, _⟩ => by cases e1)
end
end Go.Proofs.Ytcnofpoffdjbpaa.AE
