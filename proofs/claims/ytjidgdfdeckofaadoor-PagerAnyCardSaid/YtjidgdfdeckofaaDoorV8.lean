/- Texts D1, D2, D3. -/
import Derived.Test.YtjidgdfdeckofaaDoorV7
import Derived.RangeFuncIn
import Derived.RangeFuncRecord
import Derived.RangeFuncLeaves
import Derived.Test.YtjidgdfdeckofaaDoorV6
/- Ranges over functions. No program in sight. -/
namespace Go.Proofs.YtjidgdfdeckofaaDoor.AE
open Go Go.RowKit
set_option linter.unusedVariables false
set_option linter.unusedSimpArgs false
variable {P : Program}
/-! ### the book-keeping turns -/
theorem cell_put {w : World} {l : Nat} {o o' : Obj} (hl : w.heap[l]? = some o) (ho : bookB o = true) (ho' : bookB o' = true) (a : Addr) : (w.putObj l o').cell? a = w.cell? a := by
  unfold World.cell?
  by_cases e : a.block = l
  · subst e
    rw [World.putObj_heap_same (Array.getElem?_eq_some_iff.1 hl).1, hl]
    cases o <;> cases o' <;> simp_all [bookB]
  · rw [World.putObj_heap_other e]
theorem frozen_put {w : World} {l : Nat} {o o' : Obj} (hl : w.heap[l]? = some o) (ho : bookB o = true) (ho' : bookB o' = true) (a : Addr) : (w.putObj l o').frozen? a = w.frozen? a := by
  unfold World.frozen?
  by_cases e : a.block = l
  · subst e
    rw [World.putObj_heap_same (Array.getElem?_eq_some_iff.1 hl).1, hl]
    cases o <;> cases o' <;> simp_all [bookB]
  · rw [World.putObj_heap_other e]
section
variable {B : Nat} {w0 w w' : World} {σ : Sig} {h : AHeap}
/-- A world with the same cells. -/
theorem VR.cells_eq {σ : Sig} {X : Nat → Nat → Prop} {B : Nat} {a : AV} {v : Value} (hc : ∀ a, w'.cell? a = w.cell? a) (hv : VR σ w X B a v) : VR σ w' X B a v := hv.mono (fun _ _ q => q) (fun b i u hu hx => ⟨by rw [hc]; exact hu, hx⟩) (Nat.le_refl _)
theorem SR.cells_eq (hs : SR B w0 σ h w) (hc : ∀ a, w'.cell? a = w.cell? a) (hf : ∀ a, w'.frozen? a = w.frozen? a) (hbel : Below B w w') : SR B w0 σ h w' := by
  refine ⟨hs.old.trans hbel, Nat.le_trans hs.hB hbel.size, fun n k hn => ?_, hs.dis⟩
  obtain ⟨r, h1, h2, h3, h4, h5, h6, h7⟩ := hs.blk n k hn
  refine ⟨r, h1, h2, h3, h4, h5, fun i hi => by rw [hc, hf]; exact h6 i hi, fun i e he => ?_⟩
  obtain ⟨g1, g2⟩ := h7 i e he
  refine ⟨g1, fun j a ha => ?_⟩
  obtain ⟨g3, v, g4, g5, g6⟩ := g2 j a ha
  exact ⟨g3, v, g4, by rw [hc]; exact g5, g6.cells_eq hc⟩
theorem below_put {l : Nat} {o : Obj} (hl : B ≤ l) : Below B w (w.putObj l o) := ⟨rfl, rfl, rfl, by simp, fun k hk => World.putObj_heap_other (by omega)⟩
theorem cell_new {o : Obj} (ho : bookB o = true) (a : Addr) : (w.alloc o).cell? a = w.cell? a := by
  unfold World.cell?
  by_cases e : a.block < w.heap.size
  · rw [Below.heap_alloc _ _ _ e]
  · by_cases e2 : a.block = w.heap.size
    · rw [e2, World.alloc_heap_new, Array.getElem?_eq_none (Nat.le_refl _)]
      cases o <;> simp_all [bookB]
    · rw [Array.getElem?_eq_none (by simp; omega), Array.getElem?_eq_none (by omega)]
theorem frozen_new {o : Obj} (ho : bookB o = true) (a : Addr) : (w.alloc o).frozen? a = w.frozen? a := by
  unfold World.frozen?
  by_cases e : a.block < w.heap.size
  · rw [Below.heap_alloc _ _ _ e]
  · by_cases e2 : a.block = w.heap.size
    · rw [e2, World.alloc_heap_new, Array.getElem?_eq_none (Nat.le_refl _)]
      cases o <;> simp_all [bookB]
    · rw [Array.getElem?_eq_none (by simp; omega), Array.getElem?_eq_none (by omega)]
theorem oth_alloc {o : Obj} : Oth w (w.alloc o) := .old (by simp) fun b hb => Below.heap_alloc _ _ b hb
end
/-! ### the record of a range -/
/-- The record lies there, ready or busy; its block for deferred calls is empty; its temporaries stand for tm. -/
def bkInv (l : Nat) (rec : Loop) (tm : Nat → AV) (σ : Sig) (w : World) (X : Nat → Nat → Prop) (B : Nat) : Prop :=
  (w.heap[l]? = some (.loop rec) ∧ B ≤ l) ∧ (w.heap[rec.defers]? = some (.deferred (some [])) ∧ B ≤ rec.defers) ∧ TR σ w X B tm rec.tmps
theorem bkInv.pres {l : Nat} {rec : Loop} {tm : Nat → AV} {σ σ' : Sig} {w w' : World} {X X' : Nat → Nat → Prop} {B : Nat} (h : bkInv l rec tm σ w X B) (k : Kv σ w X B σ' w' X') : bkInv l rec tm σ' w' X' B :=
  ⟨⟨k.oth.keep _ _ h.1.1 rfl, h.1.2⟩, ⟨k.oth.keep _ _ h.2.1.1 rfl, h.2.1.2⟩, fun t => k.vr _ _ (h.2.2 t)⟩
@[instance_reducible] def rndB (r : Option Nat) (l : Nat) (rec : Loop) (tm : Nat → AV) : Rnd := ⟨r, bkInv l rec tm, bkInv.pres⟩
def putPs (tm : Nat → AV) : List Tmp → List AV → Nat → AV
  | p :: ps, a :: cs => putPs (upd tm p a) ps cs
  | _, _ => tm
theorem TR.putPs {σ : Sig} {w : World} {X : Nat → Nat → Prop} {B nt : Nat} : ∀ (ps : List Tmp) (cs : List AV) (vs : List Value) (tm : Nat → AV) (tmps : Array Value), TR σ w X B tm tmps → tmps.size = nt → (∀ p ∈ ps, p < nt) → VRs σ w X B cs vs →
    TR σ w X B (putPs tm ps cs) ((ps.zip vs).foldl (fun t (p, v) => t.setIfInBounds p v) tmps) ∧ ((ps.zip vs).foldl (fun t (p, v) => t.setIfInBounds p v) tmps).size = nt
  | [], _, _, tm, tmps, ht, hn, _, _ => ⟨by simpa [AE.putPs] using ht, by simpa using hn⟩
  | _ :: _, [], vs, tm, tmps, ht, hn, _, hv => by
    have : vs = [] := List.eq_nil_of_length_eq_zero hv.1.symm
    subst this
    exact ⟨by simpa [AE.putPs] using ht, by simpa using hn⟩
  | p :: ps, a :: cs, [], tm, tmps, ht, hn, _, hv => by have := hv.1; simp at this
  | p :: ps, a :: cs, v :: vs, tm, tmps, ht, hn, hp, hv => by
    have hlt : p < tmps.size := by rw [hn]; exact hp p (by simp)
    have := TR.putPs ps cs vs (upd tm p a) (tmps.setIfInBounds p v) (ht.put hlt hv.head) (by simpa using hn) (fun q hq => hp q (by simp [hq])) hv.tail
    simpa [AE.putPs] using this
/-! ### yield -/
def aYields [ρ : Rnd] (P : Program) (l : Nat) (args : List AV) (h : AHeap) (nx : Nat) (R : AHeap → Nat → Prop) : Prop :=
  ∀ B w0 O σ w (vs : Array Value), SR B w0 σ h w → (∀ n, nx ≤ n → σ n = none) → Keep B O σ h w nx → VRs σ w (Held σ h) B args vs.toList → ρ.inv σ w (Held σ h) B →
    ∃ fn tmps assign body, (Instr.yield l vs).run P w = .ok (.round l fn tmps assign body) w ∧
      RoundIn fnc 0 P l fn tmps assign body w fun e w' => e = .returned (.bool true) ∧ ∃ h' nx' σ', SR B w0 σ' h' w' ∧ (∀ n, nx' ≤ n → σ' n = none) ∧ Keep B O σ' h' w' nx' ∧ ρ.inv σ' w' (Held σ' h') B ∧ R h' nx'
/-- A call of yield. -/
theorem y_ [ρ : Rnd] {nt : Nat} {Q : AX → St → Prop} {ops : Array Oper} {rest : List Oper} {tm : Nat → AV} {h : AHeap} {k : Nat} {df : List ADef} {d l : Nat} {x : Operand} {asl : Array Operand} {ts : Array TypeId} {ty : TypeId} {pos : String} {after : Array Edge} {args : List AV} {R : AHeap → Nat → Prop}
    (hy : aYields P l args h k R) (hr : ∀ h' k', R h' k' → aOps P nt ops rest Q ⟨upd tm d (.bool true), h', k', df⟩) (hx : evA tm x = .fn (.yield l) [] []) (hd : decide (d < nt) = true) (ha : asl.toList.map (evA tm) = args) :
    aOps P nt ops (⟨some d, .call ⟨.value x, asl, ts⟩, ty, pos, after, none⟩ :: rest) Q ⟨tm, h, k, df⟩ := fun B w0 O σ act w hrl hk => by
  have hw := guardA_ok (ops := ops) (o := ⟨some d, .call ⟨.value x, asl, ts⟩, ty, pos, after, none⟩) hrl.tr rfl
  refine wpl_step hw (by intro c e; cases e) ?_
  have h1 := hrl.tr.eval x
  rw [hx] at h1
  generalize hcc : act.eval x = cc at h1
  cases h1 with
  | fn _ _ _ us vs hl hm hau hv =>
  have eu : us = #[] := Array.eq_empty_of_size_eq_zero (by simpa using hl.symm)
  have ev : vs = #[] := Array.eq_empty_of_size_eq_zero (by simpa using hm.symm)
  subst eu ev
  have h2 := args_rel hrl.tr asl
  rw [ha] at h2
  obtain ⟨fn, tmps, assign, body, e1, e2⟩ := hy B w0 ⟨σ, h, w, k⟩ σ w _ hrl.sr hrl.nx (.refl _ _ _ _) h2 hrl.iv
  have he : (execOp act.eval ⟨some d, .call ⟨.value x, asl, ts⟩, ty, pos, after, none⟩).run P w = .ok (.round l fn tmps assign body) w := by
    simp only [execOp, resolve, hcc, Deferred.ofValue, pure_bind, invoke]
    simpa using e1
  rw [he]
  refine ⟨fun h => (by cases h), e2.mono ?_⟩
  rintro e w' ⟨rfl, h', nx', σ', g1, g2, g3, g4, g5⟩
  have hput := hrl.put g1 g3.vr g2 (some d) (by exact hd) (VR.bool true)
  exact hr h' nx' g5 B w0 O σ' _ w' hput (hk.trans g3.vr g3.nx g3.σ)
/-! ### a function that is called while a range is on its way -/
def aCallsB [ρ : Rnd] (P : Program) (f : FuncId) (args : List AV) (h : AHeap) (nx : Nat) (K : AHeap → Nat → Prop) : Prop :=
  ∀ B w0 O σ w (vs : Array Value), SR B w0 σ h w → (∀ n, nx ≤ n → σ n = none) → Keep B O σ h w nx → VRs σ w (Held σ h) B args vs.toList → ρ.inv σ w (Held σ h) B →
    CallsIn fnc 0 P f vs w fun e w' => (∃ v, e = .returned v) ∧ ∃ h' nx' σ', SR B w0 σ' h' w' ∧ (∀ n, nx' ≤ n → σ' n = none) ∧ Keep B O σ' h' w' nx' ∧ ρ.inv σ' w' (Held σ' h') B ∧ K h' nx'
/-- A function's frame at its begin. -/
theorem rel0 [ρ : Rnd] {nt B : Nat} {w0 w : World} {σ : Sig} {h : AHeap} {nx : Nat} {args : List AV} {vs : Array Value} {m : Nat} (hs : SR B w0 σ h w) (hx : ∀ n, nx ≤ n → σ n = none) (hv : VRs σ w (Held σ h) B args vs.toList) (hn : m = nt) (ha : args.length ≤ nt) (hi : ρ.inv σ w (Held σ h) B) :
    Rel B w0 nt σ ⟨tm0 args, h, nx, []⟩ { tmps := vs ++ Array.replicate (m - vs.size) undef, defers := [] } w := by
  refine ⟨hs, fun t => ?_, ?_, hx, trivial, hi⟩
  · have hl := hv.1
    simp only [tm0]
    by_cases ht : t < args.length
    · rw [List.getElem?_eq_getElem ht]
      simp only [Option.getD_some]
      have h2 : (vs ++ Array.replicate (m - vs.size) undef).getD t undef = vs.toList[t]'(by omega) := by
        simp only [Array.length_toList] at hl
        rw [Array.getD_eq_getD_getElem?, Array.getElem?_append_left (by omega)]
        simp [show t < vs.size by omega]
      rw [h2]
      exact hv.2 t _ _ (List.getElem?_eq_getElem ht) (List.getElem?_eq_getElem _)
    · rw [List.getElem?_eq_none (by omega)]
      simp only [Option.getD_none]
      have h2 : (vs ++ Array.replicate (m - vs.size) undef).getD t undef = undef := by
        simp only [Array.length_toList] at hl
        rw [Array.getD_eq_getD_getElem?, Array.getElem?_append_right (by omega)]
        rw [Array.getElem?_replicate]
        split <;> rfl
      rw [h2]
      exact VR.tup_iff.2 ⟨[], rfl, .nil⟩
  · have hl := hv.1
    simp only [Array.length_toList] at hl
    simp
    omega
theorem aCallsB_body [ρ : Rnd] (hro : ρ.r = none) {nt : Nat} {f : FuncId} {fn : Func} {c : Code} {args : List AV} {h : AHeap} {nx : Nat} {K : AHeap → Nat → Prop} (hf : P.funcs[f]? = some fn) (hb : fn.body = some c) (hn : fn.ntmps = nt) (ha : args.length ≤ nt) (hrs : fn.results.toList = [])
    (hw : aWp P nt c (fun e s => (e = .norm ∨ e = .ret) ∧ s.df = [] ∧ K s.h s.nx) ⟨tm0 args, h, nx, []⟩) : aCallsB P f args h nx K := by
  intro B w0 O σ w vs hs hx hk hv hi
  refine callsIn_of_wp_marks hf hb trivial (wpIn_mono (hw B w0 O σ _ w (rel0 hs hx hv hn ha hi) hk) ?_) hro
  rintro e a w' ⟨ax, s, σ', h1, h2, h3, h4, h5, h6⟩
  have hd2 := h2.df
  rw [h5] at hd2
  have hd3 := hd2.nil
  obtain ⟨cv, q1, q2⟩ := resA_ok (P := P) h2 (fn := fn) (v := .tup []) (by rw [hrs]; rfl)
  have fin : LeavesInM fnc 0 P fn a.tmps (fun e w' => (∃ v, e = .returned v) ∧ ∃ h' nx' σ', SR B w0 σ' h' w' ∧ (∀ n, nx' ≤ n → σ' n = none) ∧ Keep B O σ' h' w' nx' ∧ ρ.inv σ' w' (Held σ' h') B ∧ K h' nx') a.defers .returning w' := by
    rw [hd3]
    exact ⟨cv, q1, ⟨_, rfl⟩, s.h, s.nx, σ', h2.sr, h2.nx, h3, h2.iv, h6⟩
  rcases h4 with rfl | rfl
  · cases h1; exact fin
  · cases h1; exact fin
/-! ### a round -/
theorem aYields_of {nt : Nat} {tm : Nat → AV} {l : Nat} {rec : Loop} {args : List AV} {h : AHeap} {nx : Nat} {A : St → Prop} {R : AHeap → Nat → Prop} (hrd : rec.state = .ready) (hpd : rec.pending = none) (hnt : rec.tmps.size = nt) (hps : ∀ p ∈ rec.params.toList, p < nt) (hpl : args.length = rec.params.size)
    (h1 : ∀ ρ : Rnd, ρ.r = some l → @aWp ρ P nt rec.assign (fun e s => e = .norm ∧ s.df = [] ∧ A s) ⟨putPs tm rec.params.toList args, h, nx, []⟩)
    (h2 : ∀ s, s.df = [] → A s → ∀ ρ : Rnd, ρ.r = some l → @aWp ρ P nt rec.body (fun e s' => e = .norm ∧ s'.df = [] ∧ R s'.h s'.nx) s) : @aYields (rndB none l rec tm) P l args h nx R := by
  intro B w0 O σ w vs hs hx hk hv hi
  obtain ⟨⟨i1, i2⟩, ⟨i3, i4⟩, i5⟩ := hi
  have hvl : vs.size = rec.params.size := by rw [← hpl, hv.1]; simp
  refine ⟨_, _, _, _, run_yield i1 hvl, roundIn_of_wpIn (F := @fnc (rndB none l rec tm)) trivial ?_⟩
  obtain ⟨t1, t2⟩ := TR.putPs rec.params.toList args vs.toList tm rec.tmps i5 hnt hps hv
  have hfold : (rec.params.zip vs).foldl (fun t (x : Tmp × Value) => t.setIfInBounds x.1 x.2) rec.tmps = (rec.params.toList.zip vs.toList).foldl (fun t (x : Tmp × Value) => t.setIfInBounds x.1 x.2) rec.tmps := by
    rw [← Array.foldl_toList, Array.toList_zip]
  have hrel0 : @Rel (rndB (some l) l rec tm) B w0 nt σ ⟨putPs tm rec.params.toList args, h, nx, []⟩ { tmps := (rec.params.toList.zip vs.toList).foldl (fun t (x : Tmp × Value) => t.setIfInBounds x.1 x.2) rec.tmps, defers := [] } w :=
    @Rel.mk (rndB (some l) l rec tm) _ _ _ _ _ _ _ hs t1 t2 hx trivial ⟨⟨i1, i2⟩, ⟨i3, i4⟩, i5⟩
  have hw1 := h1 (rndB (some l) l rec tm) rfl B w0 ⟨σ, h, w, nx⟩ σ _ w hrel0 (.refl _ _ _ _)
  rw [← hfold] at hw1
  refine wpIn_mono hw1 ?_
  rintro e a1 w1 ⟨ax, s, σ1, x1, ⟨r1, r2, r3, r4, hd1, ⟨j1, j2⟩, ⟨j3, j4⟩, j5⟩, x3, rfl, x4, x5⟩
  cases x1
  refine ⟨_, run_beginRound j1 hrd, ?_⟩
  have hlt := (Array.getElem?_eq_some_iff.1 j1).1
  have hne : rec.defers ≠ l := fun e => by rw [e, j1] at j3; cases j3
  obtain ⟨w2, hw2⟩ : ∃ w2, w1.putObj l (.loop { rec with state := .busy }) = w2 := ⟨_, rfl⟩
  rw [hw2]
  have c2 : ∀ a, w2.cell? a = w1.cell? a := fun a => by rw [← hw2]; exact cell_put j1 rfl rfl a
  have f2 : ∀ a, w2.frozen? a = w1.frozen? a := fun a => by rw [← hw2]; exact frozen_put j1 rfl rfl a
  have b2 : Below B w1 w2 := by rw [← hw2]; exact below_put j2
  have l2 : w2.heap[l]? = some (.loop { rec with state := .busy }) := by rw [← hw2]; exact World.putObj_heap_same hlt
  have o2 : ∀ k, k ≠ l → w2.heap[k]? = w1.heap[k]? := fun k hk => by rw [← hw2]; exact World.putObj_heap_other hk
  have s2 : w2.heap.size = w1.heap.size := by rw [← hw2]; simp
  have v2 : ∀ a v, VR σ1 w1 (Held σ1 s.h) B a v → VR σ1 w2 (Held σ1 s.h) B a v := fun a v q => q.cells_eq c2
  rw [x4] at hd1
  have hrel2 : @Rel (rndB (some l) l { rec with state := .busy } tm) B w0 nt σ1 s a1 w2 :=
    @Rel.mk (rndB (some l) l { rec with state := .busy } tm) _ _ _ _ _ _ _ (r1.cells_eq c2 f2 b2) (fun t => v2 _ _ (r2 t)) r3 r4 (by rw [x4, hd1.nil]; trivial) ⟨⟨l2, j2⟩, ⟨by show w2.heap[rec.defers]? = _; rw [o2 _ hne]; exact j3, j4⟩, fun t => v2 _ _ (j5 t)⟩
  have hw3 := h2 s x4 x5 (rndB (some l) l { rec with state := .busy } tm) rfl B w0 ⟨σ1, s.h, w2, s.nx⟩ σ1 a1 w2 hrel2 (.refl _ _ _ _)
  refine wpIn_mono hw3 ?_
  rintro e a3 w3 ⟨ax, s3, σ3, y1, ⟨p1, p2, p3, p4, p5, ⟨k1, k2⟩, ⟨k3, k4⟩, k5⟩, y3, rfl, y4, y5⟩
  cases y1
  have hrun := run_endRound (P := P) none k1
  simp only [Option.isNone_none, if_true] at hrun
  refine ⟨_, _, hrun, rfl, ?_⟩
  have hrec : ({ rec with state := .ready, pending := none } : Loop) = rec := by
    cases rec
    simp only at hrd hpd
    subst hrd hpd
    rfl
  rw [hrec]
  obtain ⟨w4, hw4⟩ : ∃ w4, w3.putObj l (.loop rec) = w4 := ⟨_, rfl⟩
  rw [hw4]
  have c4 : ∀ a, w4.cell? a = w3.cell? a := fun a => by rw [← hw4]; exact cell_put k1 rfl rfl a
  have f4 : ∀ a, w4.frozen? a = w3.frozen? a := fun a => by rw [← hw4]; exact frozen_put k1 rfl rfl a
  have b4 : Below B w3 w4 := by rw [← hw4]; exact below_put k2
  have l4 : w4.heap[l]? = some (.loop rec) := by rw [← hw4]; exact World.putObj_heap_same (Array.getElem?_eq_some_iff.1 k1).1
  have o4 : ∀ k, k ≠ l → w4.heap[k]? = w3.heap[k]? := fun k hk => by rw [← hw4]; exact World.putObj_heap_other hk
  have s4 : w4.heap.size = w3.heap.size := by rw [← hw4]; simp
  have v4 : ∀ a v, VR σ3 w3 (Held σ3 s3.h) B a v → VR σ3 w4 (Held σ3 s3.h) B a v := fun a v q => q.cells_eq c4
  have kv : Kv σ w (Held σ h) B σ3 w4 (Held σ3 s3.h) := by
    refine ⟨fun a v q => v4 _ _ (y3.vr.vr _ _ (v2 _ _ (x3.vr.vr _ _ q))), ?_, fun b o hb ho => ?_⟩
    · have e1 := x3.vr.oth.size
      have e2 := y3.vr.oth.size
      simp only at e1 e2
      omega
    · have e1 := x3.vr.oth.keep b o hb ho
      by_cases e : b = l
      · subst e
        rw [i1] at hb
        cases hb
        exact l4
      · rw [o4 b e]
        exact y3.vr.oth.keep b o (by show w2.heap[b]? = _; rw [o2 b e]; exact e1) ho
  refine ⟨s3.h, s3.nx, σ3, p1.cells_eq c4 f4 b4, p4, ?_, ⟨⟨l4, k2⟩, ⟨by rw [o4 _ hne]; exact k3, k4⟩, fun t => v4 _ _ (k5 t)⟩, y5⟩
  have n1 := x3.nx
  have n2 := y3.nx
  simp only at n1 n2
  exact hk.trans kv (Nat.le_trans n1 n2) (fun n hn => (y3.σ n (by simp only; omega)).trans (x3.σ n hn))
/-! ### the statement -/
theorem aWp_range [ρ : Rnd] (hro : ρ.r = none) (lo : Nat) (hlo : ∀ σ w X B, ρ.inv σ w X B → lo ≤ w.heap.size) {nt : Nat} {Q : AX → St → Prop} {st : St} {g : Operand} {ps : Array Tmp} {assign body : Code} {gf : FuncId} {cap : List AV} (hg : evA st.tm g = .fn (.func gf) [] cap) (hc : callable P gf = true)
    {K : AHeap → Nat → Prop}
    (hit : ∀ (l : Nat) (ρ' : Rnd), ρ'.r = none →
      (∀ (args : List AV) (h : AHeap) (nx : Nat) (A : St → Prop) (R : AHeap → Nat → Prop), args.length = ps.size → (∀ p ∈ ps.toList, p < nt) →
        (∀ ρb : Rnd, ρb.r = some l → @aWp ρb P nt assign (fun e s => e = .norm ∧ s.df = [] ∧ A s) ⟨putPs st.tm ps.toList args, h, nx, []⟩) →
        (∀ s, s.df = [] → A s → ∀ ρb : Rnd, ρb.r = some l → @aWp ρb P nt body (fun e s' => e = .norm ∧ s'.df = [] ∧ R s'.h s'.nx) s) → @aYields ρ' P l args h nx R) →
      @aCallsB ρ' P gf (.fn (.yield l) [] [] :: cap) st.h st.nx K)
    (hr : ∀ D h' nx', K h' nx' → Q .norm ⟨st.tm, h', nx', ⟨.yield D, [.hs lo 0 0], []⟩ :: st.df⟩) : aWp P nt (.rangeFunc g ps assign body) Q st := by
  intro B w0 O σ act w hrl hk
  refine wpIn_rangeFunc fun fn _ => ?_
  obtain ⟨rec, hrec⟩ : ∃ rec : Loop, rec = { state := .ready, pending := none, fn, tmps := act.tmps, params := ps, assign, body, defers := w.heap.size } := ⟨_, rfl⟩
  obtain ⟨w1, hw1⟩ : ∃ w1, (w.alloc (.deferred (some []))).alloc (.loop rec) = w1 := ⟨_, rfl⟩
  have hfr : (@fnc ρ).round = none := hro
  have hent := run_enterLoop_outer (P := P) (w := w) fn act.tmps ps assign body
  rw [← hrec, hw1] at hent
  have h1 := hrl.tr.eval g
  rw [hg] at h1
  generalize hcc : act.eval g = cc at h1
  cases h1 with
  | fn _ _ _ us vs hl hm hau hv =>
  have eu : us = #[] := Array.eq_empty_of_size_eq_zero (by simpa using hl.symm)
  subst eu
  have c1 : ∀ a, w1.cell? a = w.cell? a := fun a => by rw [← hw1, cell_new rfl, cell_new rfl]
  have f1 : ∀ a, w1.frozen? a = w.frozen? a := fun a => by rw [← hw1, frozen_new rfl, frozen_new rfl]
  have o1 : Oth w w1 := by rw [← hw1]; exact oth_alloc.trans oth_alloc
  have b1 : Below B w w1 := by
    rw [← hw1]
    exact ((Below.refl B w).alloc hrl.sr.hB _).alloc (Nat.le_trans hrl.sr.hB (by simp)) _
  have l1 : w1.heap[w.heap.size + 1]? = some (.loop rec) := by
    rw [← hw1]; have := World.alloc_heap_new (w.alloc (.deferred (some []))) (.loop rec); rwa [World.size_alloc] at this
  have d1 : w1.heap[w.heap.size]? = some (.deferred (some [])) := by
    rw [← hw1]; exact (Below.heap_alloc _ _ _ (by simp)).trans (World.alloc_heap_new w _)
  have v1 : Kv σ w (Held σ st.h) B σ w1 (Held σ st.h) := ⟨fun a v q => q.cells_eq c1, o1⟩
  have hB := hrl.sr.hB
  have hinv : bkInv (w.heap.size + 1) rec st.tm σ w1 (Held σ st.h) B := ⟨⟨l1, by omega⟩, ⟨by rw [hrec]; exact d1, by rw [hrec]; exact hB⟩, fun t => by rw [hrec]; exact v1.vr _ _ (hrl.tr t)⟩
  have q1 : rec.state = .ready := by rw [hrec]
  have q2 : rec.pending = none := by rw [hrec]
  have q3 : rec.tmps = act.tmps := by rw [hrec]
  have q4 : rec.params = ps := by rw [hrec]
  have q5 : rec.assign = assign := by rw [hrec]
  have q6 : rec.body = body := by rw [hrec]
  have hcall := hit (w.heap.size + 1) (rndB none (w.heap.size + 1) rec st.tm) rfl (fun args h nx A R e1 e2 e3 e4 => aYields_of (nt := nt) q1 q2 (by rw [q3]; exact hrl.nt) (by rw [q4]; exact e2) (by rw [q4]; exact e1) (by rw [q4, q5]; exact e3) (by rw [q6]; exact e4))
    B w0 ⟨σ, st.h, w1, st.nx⟩ σ w1 (#[.func (.yield (w.heap.size + 1)) #[] #[]] ++ vs) (hrl.sr.cells_eq c1 f1 b1) hrl.nx (.refl _ _ _ _)
    (by rw [Array.toList_append]; exact VRs.cons (.fn _ [] [] #[] #[] rfl rfl (fun j c v q => by simp at q) (fun j c v q => by simp at q)) ⟨by simpa using hm, fun j c v q r => v1.vr _ _ (hv j c v q (by simpa using r))⟩) hinv
  refine ⟨w.heap.size + 1, [{ target := .collected w.heap.size, args := #[] }], w1, ⟨.fn (.func gf) vs, #[.func (.yield (w.heap.size + 1)) #[] #[]]⟩, w1, gf, #[.func (.yield (w.heap.size + 1)) #[] #[]] ++ vs, w1, by rw [hfr]; exact hent, ?_, fun _ _ => trivial, ?_, fun h => (by cases h), ?_⟩
  · simp only [rangeCall, resolve, hcc, Deferred.ofValue, pure_bind]
    simp [Act.eval]
  · simp only [invoke]
    exact run_callFunc hc _ w1
  · have hfe : @fnc (rndB none (w.heap.size + 1) rec st.tm) = @fnc ρ := by show Fence.mk _ _ _ _ = Fence.mk _ _ _ _; rw [hro]; rfl
    rw [hfe] at hcall
    refine hcall.mono ?_
    rintro e w3 ⟨⟨v, rfl⟩, h', nx', σ', g1, g2, g3, ⟨⟨g4, g5⟩, ⟨g6, g7⟩, g8⟩, g9⟩
    have hend := run_endLoop (P := P) g4 (by rw [hrec]; simp)
    rw [q2] at hend
    refine ⟨_, _, hend, ?_⟩
    obtain ⟨w4, hw4⟩ : ∃ w4, w3.putObj (w.heap.size + 1) (.loop { rec with state := .exhausted, pending := none }) = w4 := ⟨_, rfl⟩
    rw [hw4]
    have c4 : ∀ a, w4.cell? a = w3.cell? a := fun a => by rw [← hw4]; exact cell_put g4 rfl rfl a
    have f4 : ∀ a, w4.frozen? a = w3.frozen? a := fun a => by rw [← hw4]; exact frozen_put g4 rfl rfl a
    have b4 : Below B w3 w4 := by rw [← hw4]; exact below_put g5
    have o4 : ∀ k, k ≠ w.heap.size + 1 → w4.heap[k]? = w3.heap[k]? := fun k hk => by rw [← hw4]; exact World.putObj_heap_other hk
    have s4 : w4.heap.size = w3.heap.size := by rw [← hw4]; simp
    have dd : rec.defers = w.heap.size := by rw [hrec]
    rw [dd] at g6 g7
    have kv : Kv σ w (Held σ st.h) B σ' w4 (Held σ' h') := by
      refine ⟨fun a v q => (g3.vr.vr _ _ (v1.vr _ _ q)).cells_eq c4, ?_, fun b o hb ho => ?_⟩
      · have e1 := o1.size
        have e2 := g3.vr.oth.size
        simp only at e2
        omega
      · have hlt := (Array.getElem?_eq_some_iff.1 hb).1
        rw [o4 b (by omega)]
        exact g3.vr.oth.keep b o (o1.keep b o hb ho) ho
    refine ⟨.norm, ⟨st.tm, h', nx', ⟨.yield w.heap.size, [.hs lo 0 0], []⟩ :: st.df⟩, σ', .norm, ⟨g1.cells_eq c4 f4 b4, fun t => kv.vr _ _ (hrl.tr t), hrl.nt, g2, ⟨⟨rfl, by rw [o4 _ (by omega)]; exact g6, g7, ?_⟩, hrl.df.mono kv⟩, ρ.pres hrl.iv kv⟩, hk.trans kv g3.nx g3.σ, hr _ _ _ g9⟩
    intro lo' off len e
    cases e
    exact hlo _ _ _ _ hrl.iv
/-! ### a function with a range in it -/
def mkOk (n0 : Nat) (df : List ADef) : Prop := df = [] ∨ ∃ D, df = [⟨.yield D, [.hs n0 0 0], []⟩]
def bodyM (P : Program) (fn : Func) (n0 : Nat) (R : AEnd → AHeap → Nat → Prop) : AX → St → Prop
  | .norm, s | .ret, s => mkOk n0 s.df ∧ ∃ v, resA P ⟨s.tm, s.h, s.nx, []⟩ fn.results.toList = some v ∧ R (.ret v) s.h s.nx
  | .pan v, s => mkOk n0 s.df ∧ R (.pan v) s.h s.nx
  | _, _ => False
@[instance_reducible] def rndF (n0 : Nat) : Rnd := ⟨none, fun _ w _ _ => n0 ≤ w.heap.size, fun h k => Nat.le_trans h k.oth.size⟩
theorem aCallsM_body {nt : Nat} {f : FuncId} {fn : Func} {c : Code} {args : List AV} {h : AHeap} {nx : Nat} {R : AEnd → AHeap → Nat → Prop} (hf : P.funcs[f]? = some fn) (hb : fn.body = some c) (hn : fn.ntmps = nt) (ha : args.length ≤ nt)
    (hw : ∀ (n0 : Nat) (ρ : Rnd), ρ.r = none → (∀ σ w X B, ρ.inv σ w X B → n0 ≤ w.heap.size) → @aWp ρ P nt c (bodyM P fn n0 R) ⟨tm0 args, h, nx, []⟩) : aCalls P f args h nx R := by
  intro B w0 O σ w vs hs hx hk hv
  have hw1 := hw w.heap.size (rndF w.heap.size) rfl (fun _ _ _ _ q => q) B w0 ⟨σ, h, w, nx⟩ σ _ w (@rel0 (rndF w.heap.size) _ _ _ _ _ _ _ _ _ _ hs hx hv hn ha (Nat.le_refl _)) (.refl _ _ _ _)
  have hfe : @fnc (rndF w.heap.size) = Fence.wide := rfl
  rw [hfe] at hw1
  refine callsIn_wide.1 (callsIn_of_wp_marks (n := 0) hf hb trivial (wpIn_mono hw1 ?_) rfl)
  rintro e a w' ⟨ax, s, σ', h1, ⟨r1, r2, r3, r4, r5, r6⟩, h3, h4⟩
  -- the marks are taken off
  have off : ∀ (u : FrameMode) (hu : u ≠ .run) (R' : Ending → World → Prop), mkOk w.heap.size s.df → (∀ w'' : World, Rel B w0 nt σ' ⟨s.tm, s.h, s.nx, []⟩ { a with defers := [] } w'' → Keep B O σ' s.h w'' s.nx → Kv σ' w' (Held σ' s.h) B σ' w'' (Held σ' s.h) ∨ (∀ a v, VR σ' w' (Held σ' s.h) B a v → VR σ' w'' (Held σ' s.h) B a v) → LeavesIn Fence.wide 0 P fn a.tmps R' [] u w'') → LeavesInM Fence.wide 0 P fn a.tmps R' a.defers u w' := by
    intro u hu R' hm hres
    rcases hm with hm | ⟨D, hm⟩
    · rw [hm] at r5
      rw [r5.nil]
      exact hres w' ⟨r1, r2, r3, r4, trivial, trivial⟩ (hk.trans h3.vr h3.nx h3.σ) (.inl .refl)
    · rw [hm] at r5
      obtain ⟨d, hd, hD1, hD2, hD3⟩ : ∃ d, a.defers = [d] ∧ d = { target := .collected D, args := #[] } ∧ w'.heap[D]? = some (.deferred (some [])) ∧ (B ≤ D ∧ w.heap.size ≤ D) := by
        match hdd : a.defers, r5 with
        | [], r5 => exact r5.elim
        | [d], ⟨⟨g1, g2, g3, g4⟩, _⟩ => exact ⟨d, rfl, g1, g2, g3, g4 _ _ _ rfl⟩
        | d :: d' :: ds, ⟨_, r5⟩ => exact r5.elim
      rw [hd, hD1]
      obtain ⟨w2, hw2⟩ : ∃ w2, w'.putObj D (.deferred none) = w2 := ⟨_, rfl⟩
      have ht := run_takeDeferred (P := P) hD2
      rw [hw2] at ht
      have c2 : ∀ a, w2.cell? a = w'.cell? a := fun a => by rw [← hw2]; exact cell_put hD2 rfl rfl a
      have f2 : ∀ a, w2.frozen? a = w'.frozen? a := fun a => by rw [← hw2]; exact frozen_put hD2 rfl rfl a
      have b2 : Below B w' w2 := by rw [← hw2]; exact below_put hD3.1
      have o2 : ∀ k, k ≠ D → w2.heap[k]? = w'.heap[k]? := fun k hk => by rw [← hw2]; exact World.putObj_heap_other hk
      have v2 : ∀ a v, VR σ' w' (Held σ' s.h) B a v → VR σ' w2 (Held σ' s.h) B a v := fun a v q => q.cells_eq c2
      have kv : Kv σ w (Held σ h) B σ' w2 (Held σ' s.h) := by
        refine ⟨fun a v q => v2 _ _ (h3.vr.vr _ _ q), ?_, fun b o hb ho => ?_⟩
        · have e2 := h3.vr.oth.size
          have : w2.heap.size = w'.heap.size := by rw [← hw2]; simp
          simp only at e2
          omega
        · have hlt := (Array.getElem?_eq_some_iff.1 hb).1
          rw [o2 b (by omega)]
          exact h3.vr.oth.keep b o hb ho
      exact ⟨hu, .inl ⟨D, w2, rfl, ht, hres w2 ⟨r1.cells_eq c2 f2 b2, fun t => v2 _ _ (r2 t), r3, r4, trivial, trivial⟩ (hk.trans kv h3.nx h3.σ) (.inr v2)⟩⟩
  have fin : (mkOk w.heap.size s.df ∧ ∃ v, resA P ⟨s.tm, s.h, s.nx, []⟩ fn.results.toList = some v ∧ R (.ret v) s.h s.nx) → LeavesInM Fence.wide 0 P fn a.tmps (fun e w' => ∃ ae h' nx' σ', ER σ' w' (Held σ' h') B ae e ∧ SR B w0 σ' h' w' ∧ (∀ n, nx' ≤ n → σ' n = none) ∧ Keep B O σ' h' w' nx' ∧ R ae h' nx') a.defers .returning w' := by
    rintro ⟨hm, v, hv1, hv2⟩
    refine off .returning (by simp) _ hm fun w'' q1 q2 _ => ?_
    obtain ⟨cv, h5, h6⟩ := resA_ok (P := P) q1 (fn := fn) (v := v) hv1
    exact ⟨cv, h5, _, _, _, _, .ret v cv h6, q1.sr, q1.nx, q2, hv2⟩
  cases h1 with
  | norm => exact fin h4
  | ex id => exact h4.elim
  | gt l => exact h4.elim
  | ret => exact fin h4
  | pan v u hv' =>
    refine off _ (by simp) _ h4.1 fun w'' q1 q2 q3 => ?_
    have hv2 : VR σ' w'' (Held σ' s.h) B v u := q3.elim (fun k => k.vr _ _ hv') (fun k => k _ _ hv')
    exact ⟨_, _, _, _, .pan v u hv2, q1.sr, q1.nx, q2, h4.2⟩
end Go.Proofs.YtjidgdfdeckofaaDoor.AE

/- Answers that hold empty rows without room (they stay such), and weaker answers. -/
namespace Go.Proofs.YtjidgdfdeckofaaDoor.AE
open Go Go.RowKit Go.Proofs Go.Proofs.YtjidgdfdeckofaaDoor
set_option linter.unusedVariables false
set_option maxHeartbeats 1600000
def fzz1 (nx : Nat) (h : AHeap) : AV → Option AV
  | .zs => some .zs
  | a => frz1 nx h a
def fzzL (nx : Nat) (h : AHeap) : List AV → Option (List AV)
  | [] => some []
  | a :: l => (fzz1 nx h a).bind fun b => (fzzL nx h l).map fun m => b :: m
def fzz2 (nx : Nat) (h : AHeap) : AV → Option AV
  | .agg cs => (fzzL nx h cs).map .agg
  | a => fzz1 nx h a
def fzzM (nx : Nat) (h : AHeap) : List AV → Option (List AV)
  | [] => some []
  | a :: l => (fzz2 nx h a).bind fun b => (fzzM nx h l).map fun m => b :: m
def fzzV (nx : Nat) (h : AHeap) : AV → Option AV
  | .tup vs => (fzzM nx h vs).map .tup
  | a => fzz2 nx h a
section
variable {B : Nat} {w0 w : World} {σ : Sig} {h : AHeap} {nx : Nat}
theorem fzz1_ok (hs : SR B w0 σ h w) {a b : AV} {v : Value} (hf : fzz1 nx h a = some b) (hv : VR σ w (Held σ h) B a v) : VR σ w (Held σ (fun m => if decide (nx ≤ m) = true then none else h m)) B b v := by
  unfold fzz1 at hf
  split at hf
  · cases hf; exact (hs.drop (fun m => decide (nx ≤ m))).2 _ _ hv
  · exact frz1_ok hs hf hv
theorem fzzL_ok (hs : SR B w0 σ h w) : ∀ {xs bs : List AV} {vs : List Value}, fzzL nx h xs = some bs → VRs σ w (Held σ h) B xs vs → VRs σ w (Held σ (fun m => if decide (nx ≤ m) = true then none else h m)) B bs vs
  | [], bs, vs, hf, hv => by
    simp [fzzL] at hf
    subst hf
    have : vs = [] := List.eq_nil_of_length_eq_zero hv.1.symm
    subst this
    exact .nil
  | a :: xs, bs, vs, hf, hv => by
    simp only [fzzL, Option.bind_eq_some_iff, Option.map_eq_some_iff] at hf
    obtain ⟨b, h1, bs', h2, rfl⟩ := hf
    cases vs with
    | nil => have := hv.1; simp at this
    | cons v vs => exact .cons (fzz1_ok hs h1 hv.head) (fzzL_ok hs h2 hv.tail)
theorem fzz2_ok (hs : SR B w0 σ h w) {a b : AV} {v : Value} (hf : fzz2 nx h a = some b) (hv : VR σ w (Held σ h) B a v) : VR σ w (Held σ (fun m => if decide (nx ≤ m) = true then none else h m)) B b v := by
  unfold fzz2 at hf
  split at hf
  · obtain ⟨bs, h1, rfl⟩ := Option.map_eq_some_iff.1 hf
    obtain ⟨us, rfl, h2⟩ := VR.agg_iff.1 hv
    exact VR.agg_iff.2 ⟨us, rfl, fzzL_ok hs h1 h2⟩
  · exact fzz1_ok hs hf hv
theorem fzzM_ok (hs : SR B w0 σ h w) : ∀ {xs bs : List AV} {vs : List Value}, fzzM nx h xs = some bs → VRs σ w (Held σ h) B xs vs → VRs σ w (Held σ (fun m => if decide (nx ≤ m) = true then none else h m)) B bs vs
  | [], bs, vs, hf, hv => by
    simp [fzzM] at hf
    subst hf
    have : vs = [] := List.eq_nil_of_length_eq_zero hv.1.symm
    subst this
    exact .nil
  | a :: xs, bs, vs, hf, hv => by
    simp only [fzzM, Option.bind_eq_some_iff, Option.map_eq_some_iff] at hf
    obtain ⟨b, h1, bs', h2, rfl⟩ := hf
    cases vs with
    | nil => have := hv.1; simp at this
    | cons v vs => exact .cons (fzz2_ok hs h1 hv.head) (fzzM_ok hs h2 hv.tail)
theorem fzzV_ok (hs : SR B w0 σ h w) {a b : AV} {v : Value} (hf : fzzV nx h a = some b) (hv : VR σ w (Held σ h) B a v) : VR σ w (Held σ (fun m => if decide (nx ≤ m) = true then none else h m)) B b v := by
  unfold fzzV at hf
  split at hf
  · obtain ⟨bs, h1, rfl⟩ := Option.map_eq_some_iff.1 hf
    obtain ⟨us, rfl, h2⟩ := VR.tup_iff.1 hv
    exact VR.tup_iff.2 ⟨us, rfl, fzzM_ok hs h1 h2⟩
  · exact fzz2_ok hs hf hv
variable {P : Program} {nt : Nat}
def endZ (P : Program) (fn : Func) (nx : Nat) (h : AHeap) (v : AV) : AX → St → Prop
  | .norm, s | .ret, s => s.df = [] ∧ nx ≤ s.nx ∧ HAgree nx h s.h ∧ ∃ a, resA P s fn.results.toList = some a ∧ fzzV nx s.h a = some v
  | _, _ => False
theorem aFun_bodyZ {f : FuncId} {fn : Func} {c : Code} {args : List AV} {v : AV} (hf : P.funcs[f]? = some fn) (hb : fn.body = some c) (hn : fn.ntmps = nt) (ha : args.length ≤ nt)
    (hw : (∀ a ∈ args, Real a) → ∀ h nx, (∀ n, nx ≤ n → h n = none) → aWp P nt c (endZ P fn nx h v) ⟨tm0 args, h, nx, []⟩) : aFun P f args v := fun h nx => aCalls_real fun hreal hfresh => by
  have h1 : aCalls P f args h nx (fun e h' k' => ∃ a, e = .ret a ∧ fzzV nx h' a = some v ∧ (∀ n, n < nx → h' n = h n) ∧ nx ≤ k') := by
    refine aCalls_body hf hb hn ha (aWp_mono (hw hreal h nx hfresh) ?_)
    rintro e s hs
    cases e with
    | norm => obtain ⟨q1, q2, q3, a, q4, q5⟩ := hs; exact ⟨q1, a, q4, a, rfl, q5, q3, q2⟩
    | ret => obtain ⟨q1, q2, q3, a, q4, q5⟩ := hs; exact ⟨q1, a, q4, a, rfl, q5, q3, q2⟩
    | ex id => exact hs.elim
    | gt l => exact hs.elim
    | pan v => exact hs.elim
  intro B w0 O σ w vs hs hx hk hv
  refine (h1 B w0 O σ w vs hs hx hk hv).mono ?_
  rintro e w' ⟨ae, h', nx', σ', g1, g2, g3, g4, a, rfl, g5, g6, g7⟩
  cases g1 with
  | ret _ u hu =>
  obtain ⟨d1, d2⟩ := g2.drop (fun m => decide (nx ≤ m))
  have hfz := fzzV_ok g2 g5 hu
  have he : (fun m => if decide (nx ≤ m) = true then none else h' m) = h := by
    funext m
    by_cases hm : nx ≤ m
    · simp [hm, hfresh m hm]
    · simp [hm, g6 m (by omega)]
  rw [he] at d1 d2 hfz
  exact ⟨.ret v, h, nx', σ', .ret v u hfz, d1, g3, g4.trans d2 (Nat.le_refl _) (fun _ _ => rfl), rfl, rfl, g7⟩
theorem W_endZ {fn : Func} {tm : Nat → AV} {h h0 : AHeap} {k nx : Nat} {v a : AV} {rs : List ResultVar} (hrs : fn.results = rs.toArray) (hk : nx ≤ k) (hh : HAgree nx h0 h) (hr : resA P ⟨tm, h, k, []⟩ rs = some a) (hf : fzzV nx h a = some v) : endZ P fn nx h0 v .ret ⟨tm, h, k, []⟩ :=
  ⟨rfl, hk, hh, a, by rw [hrs]; exact hr, hf⟩
theorem aFun_weak {f : FuncId} {args : List AV} {v v' : AV} (hv : ∀ (σ : Sig) (w : World) (X : Nat → Nat → Prop) (B : Nat) (u : Value), VR σ w X B v u → VR σ w X B v' u) (hf : aFun P f args v) : aFun P f args v' := fun h nx => by
  intro B w0 O σ w vs hs hx hk hq
  refine (hf h nx B w0 O σ w vs hs hx hk hq).mono ?_
  rintro e w' ⟨ae, h', nx', σ', g1, g2, g3, g4, rfl, rfl, g7⟩
  cases g1 with
  | ret _ u hu => exact ⟨.ret v', h', nx', σ', .ret v' u (hv _ _ _ _ _ hu), g2, g3, g4, rfl, rfl, g7⟩
theorem weak_tup {σ : Sig} {w : World} {X : Nat → Nat → Prop} {B : Nat} {u : Value} {vs : List AV} (h : VR σ w X B (.tup vs) u) : VR σ w X B (.tup (vs.map weakA)) u := by
  obtain ⟨us, rfl, h1⟩ := VR.tup_iff.1 h
  exact VR.tup_iff.2 ⟨us, rfl, h1.weak⟩
end
/-! ### an empty row without room becomes a row of one's own -/
section
variable {P : Program} {nt : Nat} {Q : AX → St → Prop} {ops : Array Oper} {l : List Oper} {tm : Nat → AV} {h : AHeap} {k : Nat} {df : List ADef}
theorem new_Rel [ρ : Rnd] {B : Nat} {w0 w : World} {O : Orig} {σ : Sig} {act : Act} (sz : Nat) (hr : Rel B w0 nt σ ⟨tm, h, k, df⟩ act w) (hk : Keep B O σ h w k) :
    Rel B w0 nt (upd σ k (some ⟨B, 0, 0, sz⟩)) ⟨tm, upd h k (some ⟨sz, []⟩), k + 1, df⟩ act w ∧ Keep B O (upd σ k (some ⟨B, 0, 0, sz⟩)) (upd h k (some ⟨sz, []⟩)) w (k + 1) := by
  obtain ⟨t1, t2⟩ := hr.sr.none0 (hr.nx k (Nat.le_refl _)) sz
  refine ⟨⟨t1, fun t => t2 _ _ (hr.tr t), hr.nt, fun n hn => ?_, hr.df.mono t2, ρ.pres hr.iv t2⟩, hk.trans t2 (Nat.le_succ _) (fun n hn => upd_ne _ _ _ (by omega))⟩
  dsimp only at hn
  rw [upd_ne _ _ _ (by omega)]
  exact hr.nx n (by dsimp only; omega)
theorem aWp_new [ρ : Rnd] {c : Code} (sz : Nat) (hw : aWp P nt c Q ⟨tm, upd h k (some ⟨sz, []⟩), k + 1, df⟩) : aWp P nt c Q ⟨tm, h, k, df⟩ := fun B w0 O σ act w hr hk =>
  have q := new_Rel sz hr hk
  hw B w0 O _ act w q.1 q.2
theorem aOps_new [ρ : Rnd] (sz : Nat) (hw : aOps P nt ops l Q ⟨tm, upd h k (some ⟨sz, []⟩), k + 1, df⟩) : aOps P nt ops l Q ⟨tm, h, k, df⟩ := fun B w0 O σ act w hr hk =>
  have q := new_Rel sz hr hk
  hw B w0 O _ act w q.1 q.2
theorem VR.zs_hs {σ : Sig} {w : World} {X : Nat → Nat → Prop} {B : Nat} {v : Value} {m : Nat} {r : AE.Rng} (hm : σ m = some r) (hv : VR σ w X B .zs v) : VR σ w X B (.hs m 0 0) v := by
  cases hv with
  | zs a => exact .hs _ _ _ a 0 r hm (Nat.le_refl _) (by decide) (.inl rfl)
theorem Sub.zsT {st : St} {t m sz : Nat} (ht : st.tm t = .zs) (hm : st.h m = some ⟨sz, []⟩) : Sub st ⟨upd st.tm t (.hs m 0 0), st.h, st.nx, st.df⟩ := ⟨Nat.le_refl _, fun ρ B w0 nt σ act w hr => by
  obtain ⟨r, q1, _⟩ := hr.sr.blk m _ hm
  refine ⟨⟨hr.sr, fun u => ?_, hr.nt, hr.nx, hr.df, hr.iv⟩, fun _ _ q => q⟩
  by_cases e : u = t
  · subst e; dsimp only; rw [upd_same]; exact (show VR _ _ _ _ .zs _ from ht ▸ hr.tr u).zs_hs q1
  · dsimp only; rw [upd_ne _ _ _ e]; exact hr.tr u⟩
/-- Cells told otherwise. -/
theorem Sub.re {st : St} {m : Nat} {bm bm' : Blk} (hm : st.h m = some bm) (hsz : bm'.sz = bm.sz) (hl : bm'.es.length = bm.es.length)
    (hc : ∀ (ρ : Rnd) B w0 nt σ act w, Rel B w0 nt σ st act w → ∀ (i : Nat) (e' : List AV), bm'.es[i]? = some e' → ∃ e, bm.es[i]? = some e ∧ e'.length = e.length ∧ ∀ (j : Nat) (a' : AV), e'[j]? = some a' → ∃ a, e[j]? = some a ∧ (a.one = true → a'.one = true) ∧ ∀ v, VR σ w (Held σ st.h) B a v → VR σ w (Held σ st.h) B a' v) :
    Sub st ⟨st.tm, upd st.h m (some bm'), st.nx, st.df⟩ := ⟨Nat.le_refl _, fun ρ B w0 nt σ act w hr => by
  have hsome : ∀ n, (upd st.h m (some bm') n).isSome = (st.h n).isSome := fun n => by
    by_cases e : n = m
    · subst e; rw [upd_same, hm]; rfl
    · rw [upd_ne _ _ _ e]
  have hheld : Held σ (upd st.h m (some bm')) = Held σ st.h := by
    funext q i
    apply propext
    constructor
    · rintro ⟨n, r, h1, h2⟩; exact ⟨n, r, by rw [← hsome]; exact h1, h2⟩
    · rintro ⟨n, r, h1, h2⟩; exact ⟨n, r, by rw [hsome]; exact h1, h2⟩
  have keep : ∀ a v, VR σ w (Held σ st.h) B a v → VR σ w (Held σ (upd st.h m (some bm'))) B a v := fun a v q => by rw [hheld]; exact q
  refine ⟨⟨⟨hr.sr.old, hr.sr.hB, fun n k hn => ?_, fun n n' r s q i h1 h2 => ?_⟩, fun t => keep _ _ (hr.tr t), hr.nt, hr.nx, hr.df.mono ⟨keep, .refl _⟩, ρ.pres hr.iv ⟨keep, .refl _⟩⟩, keep⟩
  · dsimp only at hn
    by_cases e : n = m
    · subst e
      rw [upd_same] at hn
      cases hn
      obtain ⟨r, q1, q2, q3, q4, q5, q6, q7⟩ := hr.sr.blk n bm hm
      refine ⟨r, q1, by rw [hsz]; exact q2, q3, by rw [hsz, hl]; exact q4, by rw [hl]; exact q5, q6, fun i e' he => ?_⟩
      obtain ⟨e, h0, hle, hj⟩ := hc ρ B w0 nt σ act w hr i e' he
      obtain ⟨g1, g2⟩ := q7 i e h0
      refine ⟨by rw [hle, hsz]; exact g1, fun j a' ha => ?_⟩
      obtain ⟨a, ha0, ho, hv⟩ := hj j a' ha
      obtain ⟨g3, v, g4, g5, g6⟩ := g2 j a ha0
      exact ⟨ho g3, v, g4, by rw [hsz]; exact g5, by rw [hheld]; exact hv v g6⟩
    · rw [upd_ne _ _ _ e] at hn
      obtain ⟨r, q1, q2, q3, q4, q5, q6, q7⟩ := hr.sr.blk n k hn
      refine ⟨r, q1, q2, q3, q4, q5, q6, fun i e he => ⟨(q7 i e he).1, fun j a ha => ?_⟩⟩
      obtain ⟨g3, v, g4, g5, g6⟩ := (q7 i e he).2 j a ha
      exact ⟨g3, v, g4, g5, by rw [hheld]; exact g6⟩
  · dsimp only at h1 h2
    rw [hsome] at h1 h2
    exact hr.sr.dis n n' r s q i h1 h2⟩
/-- The one cell at j of a block of one element. -/
theorem Sub.zsH {st : St} {m z sz j sz' : Nat} {cs : List AV} (hm : st.h m = some ⟨sz, [cs]⟩) (hj : cs[j]? = some .zs) (hz : st.h z = some ⟨sz', []⟩) : Sub st ⟨st.tm, upd st.h m (some ⟨sz, [cs.set j (.hs z 0 0)]⟩), st.nx, st.df⟩ := by
  refine Sub.re hm rfl rfl fun ρ B w0 nt σ act w hr i e' he => ?_
  obtain ⟨r, q1, _⟩ := hr.sr.blk z _ hz
  cases i with
  | succ i => simp at he
  | zero =>
    simp at he
    subst he
    refine ⟨cs, rfl, by simp, fun i a' ha => ?_⟩
    rw [List.getElem?_set] at ha
    by_cases e : j = i
    · subst e
      rw [if_pos rfl] at ha
      split at ha <;> cases ha
      exact ⟨.zs, hj, fun _ => rfl, fun v hv => hv.zs_hs q1⟩
    · rw [if_neg e] at ha
      exact ⟨a', ha, id, fun _ q => q⟩
end
theorem fzz_tup (nx : Nat) (h : AHeap) (vs : List AV) : fzzV nx h (.tup vs) = (fzzM nx h vs).map .tup := rfl
theorem fzz_nil (nx : Nat) (h : AHeap) : fzzM nx h [] = some [] := rfl
theorem fzz_cons (nx : Nat) (h : AHeap) (a : AV) (l : List AV) : fzzM nx h (a :: l) = (fzz2 nx h a).bind fun b => (fzzM nx h l).map fun m => b :: m := rfl
theorem fzz2_agg (nx : Nat) (h : AHeap) (cs : List AV) : fzz2 nx h (.agg cs) = (fzzL nx h cs).map .agg := rfl
theorem fzzV_agg (nx : Nat) (h : AHeap) (cs : List AV) : fzzV nx h (.agg cs) = (fzzL nx h cs).map .agg := rfl
theorem fzzL_nil (nx : Nat) (h : AHeap) : fzzL nx h [] = some [] := rfl
theorem fzzL_cons (nx : Nat) (h : AHeap) (a : AV) (l : List AV) : fzzL nx h (a :: l) = (fzz1 nx h a).bind fun b => (fzzL nx h l).map fun m => b :: m := rfl
theorem fzz1_hs (nx : Nat) (h : AHeap) (n off len : Nat) : fzz1 nx h (.hs n off len) = if nx ≤ n then (h n).bind fun k => if off + len ≤ k.es.length then some (.sl ((k.es.drop off).take len)) else none else none := rfl
theorem fzz1_int (nx : Nat) (h : AHeap) (k : IntKind) (n : Int) : fzz1 nx h (.int k n) = some (.int k n) := rfl
theorem fzz2_int (nx : Nat) (h : AHeap) (k : IntKind) (n : Int) : fzz2 nx h (.int k n) = some (.int k n) := rfl
theorem fzz1_zs (nx : Nat) (h : AHeap) : fzz1 nx h .zs = some .zs := rfl
theorem fzz1_sl (nx : Nat) (h : AHeap) (es : List (List AV)) : fzz1 nx h (.sl es) = some (.sl es) := rfl
theorem FYZ : type_of% (And.intro fzz_tup <| And.intro fzz_nil <| And.intro fzz_cons <| And.intro fzz2_agg <| And.intro fzzV_agg <| And.intro fzzL_nil <| And.intro fzzL_cons <| And.intro fzz1_hs <| And.intro fzz1_int <| And.intro fzz2_int <| And.intro fzz1_zs fzz1_sl) :=
  And.intro fzz_tup <| And.intro fzz_nil <| And.intro fzz_cons <| And.intro fzz2_agg <| And.intro fzzV_agg <| And.intro fzzL_nil <| And.intro fzzL_cons <| And.intro fzz1_hs <| And.intro fzz1_int <| And.intro fzz2_int <| And.intro fzz1_zs fzz1_sl
end Go.Proofs.YtjidgdfdeckofaaDoor.AE

/- Functions that may panic, with memory turned. -/
namespace Go.Proofs.YtjidgdfdeckofaaDoor.AE
open Go Go.RowKit Go.Proofs Go.Proofs.YtjidgdfdeckofaaDoor
set_option linter.unusedVariables false
set_option maxHeartbeats 1600000
section
variable {P : Program} {nt : Nat} {Q : AX → St → Prop} {ops : Array Oper} {rest : List Oper} {tm : Nat → AV} {h : AHeap} {k : Nat} {df : List ADef} {ty : TypeId} {pos : String} {after : Array Edge} {d : Nat} {guard : Option (Nat × Bool)} {f : FuncId} {args : List AV}
theorem aRP_body {f : FuncId} {fn : Func} {c : Code} {args : List AV} {nx : Nat} {R : AEnd → AHeap → Nat → Prop} (hf : P.funcs[f]? = some fn) (hb : fn.body = some c) (hn : fn.ntmps = nt) (ha : args.length ≤ nt)
    (hw : (∀ a ∈ args, Real a) → (∀ n, nx ≤ n → h n = none) → aWp P nt c (bodyA P fn R) ⟨tm0 args, h, nx, []⟩) : aCalls P f args h nx R :=
  aCalls_real fun hreal hfresh => aCalls_body hf hb hn ha (hw hreal hfresh)
theorem W_endP {fn : Func} {tm : Nat → AV} {R : AEnd → AHeap → Nat → Prop} {v : AV} {rs : List ResultVar} (hrs : fn.results = rs.toArray) (hr : resA P ⟨tm, h, k, []⟩ rs = some v) (hR : R (.ret v) h k) : bodyA P fn R .ret ⟨tm, h, k, []⟩ :=
  ⟨rfl, v, by rw [hrs]; exact hr, hR⟩
/-- A call that may panic. -/
theorem RP_ [ρ : Rnd] {c : Call} {R : AEnd → AHeap → Nat → Prop} (hf : aCalls P f args h k R) (hr : ∀ a h' k', R (.ret a) h' k' → aOps P nt ops rest Q ⟨upd tm d a, h', k', df⟩) (hp : ∀ a h' k', R (.pan a) h' k' → Q (.pan a) ⟨tm, h', k', df⟩) (hg : guardA ops tm guard = some true := by rfl) (hd : decide (d < nt) = true := by rfl) (ha : calleeA tm c = some (f, args) := by first | rfl | (simp (disch := first | rfl | decide | omega | assumption | (simp only [LL]; omega)) only [WS, NB, WY, FX.out]; first | done | rfl)) (hc : callable P f = true := by simp only [WS]) :
    aOps P nt ops (⟨some d, .call c, ty, pos, after, guard⟩ :: rest) Q ⟨tm, h, k, df⟩ := aOps_call hg hd rfl ha hc hf hr hp
theorem dbgW [ρ : Rnd] {c : Code} {st : St} (hw : ∀ (c' : Code) (Q' : AX → St → Prop), aWp P nt c' Q' st) : aWp P nt c Q st := hw _ _
theorem dbgO [ρ : Rnd] {l : List Oper} {st : St} (hw : ∀ (o' : Array Oper) (Q' : AX → St → Prop), aOps P nt o' l Q' st) : aOps P nt ops l Q st := hw _ _
end
end Go.Proofs.YtjidgdfdeckofaaDoor.AE
