/- An operation on abstract values: the model's does the like. No program in sight. -/
import Derived.Test.YtcnofpoffdjbpaaB1
import Derived.Laws.Build
namespace Go.Proofs.Ytcnofpoffdjbpaa.AE
open Go Go.RowKit
set_option linter.unusedVariables false
set_option linter.unusedSimpArgs false
variable {P : Program}
section
variable {σ : Sig} {w w0 : World} {X : Nat → Nat → Prop} {B : Nat} {h h' : AHeap} {k k' : Nat} {tm : Nat → AV} {act : Act}
/-- What an operation yields: a value, or nothing. -/
def Gives (r : Result Next) (cv : Value) (w' : World) : Prop := r = .ok (.value cv) w' ∨ (r = .ok .skip w' ∧ cv = undef)
theorem Gives.of {s : Sem Value} {cv : Value} {w' : World} (h : s.run P w = .ok cv w') : Gives ((do pure (.value (← s)) : Sem Next).run P w) cv w' := .inl (by rw [Sem.run_bind, h]; rfl)
theorem VRo.of {tm : Nat → AV} (ht : TR σ w X B tm act.tmps) (o : Option Operand) : VRo σ w X B (o.map (evA tm)) (o.map act.eval) := by
  cases o with
  | none => exact .none
  | some o => exact .some _ _ (ht.eval o)
theorem parts_rel (ht : TR σ w X B tm act.tmps) (ps : Array (Nat × Operand)) :
    (ps.toList.map fun p => (p.1, evA tm p.2)).map (·.1) = (ps.toList.map fun p => (p.1, act.eval p.2)).map (·.1) ∧
    ∀ (j : Nat) (p : Nat × AV) (q : Nat × Value), (ps.toList.map fun p => (p.1, evA tm p.2))[j]? = some p → (ps.toList.map fun p => (p.1, act.eval p.2))[j]? = some q → VR σ w X B p.2 q.2 := by
  refine ⟨by simp, fun j p q h1 h2 => ?_⟩
  rw [List.getElem?_map] at h1 h2
  cases hj : ps.toList[j]? with
  | none => rw [hj] at h1; cases h1
  | some o =>
    rw [hj] at h1 h2
    cases h1
    cases h2
    exact ht.eval _
theorem args_rel (ht : TR σ w X B tm act.tmps) (as : Array Operand) : VRs σ w X B (as.toList.map (evA tm)) ((as.map act.eval).toList) := by
  refine ⟨by simp, fun j c v h1 h2 => ?_⟩
  rw [Array.toList_map, List.getElem?_map] at h2
  rw [List.getElem?_map] at h1
  cases hj : as.toList[j]? with
  | none => rw [hj] at h1; cases h1
  | some o =>
    rw [hj] at h1 h2
    cases h1
    cases h2
    exact ht.eval _
theorem VRs.one {c : AV} {vs : List Value} (h : VRs σ w X B [c] vs) : ∃ v, vs = [v] ∧ VR σ w X B c v := by
  obtain ⟨v, h1, h2⟩ := h.get (j := 0) rfl
  have := h.1
  cases vs with
  | nil => cases h1
  | cons u us =>
    cases us with
    | nil => exact ⟨u, rfl, h.head⟩
    | cons _ _ => simp at this
theorem VRs.two {c d : AV} {vs : List Value} (h : VRs σ w X B [c, d] vs) : ∃ v u, vs = [v, u] ∧ VR σ w X B c v ∧ VR σ w X B d u := by
  cases vs with
  | nil => have := h.1; simp at this
  | cons v us =>
    obtain ⟨u, rfl, hu⟩ := h.tail.one
    exact ⟨v, u, rfl, h.head, hu⟩
theorem aBuiltin_ok (hs : SR B w0 σ h w) (hf : ∀ n, k ≤ n → n < k' → σ n = none) {b : Builtin} {ts : Array TypeId} {args : List AV} {vs : Array Value} {ty : TypeId} {v : AV} (hl : aBuiltin P h k b ts.toList args = some (v, h', k'))
    (hv : VRs σ w (Held σ h) B args vs.toList) : ∃ cv w', (∀ consts, Gives ((builtin b ts ty consts vs).run P w) cv w') ∧ Out B w0 σ h w k k' v h' cv w' := by
  obtain ⟨tl⟩ := ts
  obtain ⟨vl⟩ := vs
  simp only at hl hv
  unfold aBuiltin at hl
  split at hl
  · obtain ⟨v', h1, h2⟩ := Option.map_eq_some_iff.1 hl
    cases h2
    obtain ⟨u, rfl, hu⟩ := hv.one
    obtain ⟨cv, h3, h4⟩ := aLen_ok (P := P) (ty := ty) h1 hu
    exact ⟨cv, w, fun _ => Gives.of h3, Out.same hs h4⟩
  · split at hl <;> cases hl
    rename_i ht
    obtain ⟨u, rfl, hu⟩ := hv.one
    cases hu with
    | zs a =>
      unfold elemT at ht
      split at ht
      · rename_i t _ e he
        have h3 : (Builtin.cap_ #[t] ty #[.slice a 0 0]).run P w = .ok (goInt 0) w := by simp [Builtin.cap_, run_underlying he]
        exact ⟨goInt 0, w, fun _ => Gives.of h3, Out.same hs (.int _ _ (by decide))⟩
      · cases ht
  · obtain ⟨⟨v', h''⟩, h1, h2⟩ := Option.map_eq_some_iff.1 hl
    cases h2
    obtain ⟨u, x, rfl, hu, hx⟩ := hv.two
    obtain ⟨cv, w', h3, h4⟩ := aAppend_ok (P := P) (ty := ty) hs (hf k (Nat.le_refl _) (by omega)) h1 hu hx
    exact ⟨cv, w', fun _ => Gives.of h3, h4⟩
  · obtain ⟨⟨v', h''⟩, h1, h2⟩ := Option.map_eq_some_iff.1 hl
    cases h2
    obtain ⟨u, x, rfl, hu, hx⟩ := hv.two
    obtain ⟨cv, w', h3, h4⟩ := aCopy_ok (P := P) (ty := ty) (k := k) hs h1 hu hx
    exact ⟨cv, w', fun _ => Gives.of h3, h4⟩
  · obtain ⟨h'', h1, h2⟩ := Option.map_eq_some_iff.1 hl
    cases h2
    obtain ⟨u, rfl, hu⟩ := hv.one
    obtain ⟨w', h3, h4⟩ := aClear_ok (P := P) (ty := ty) (k := k) hs h1 hu
    exact ⟨_, w', fun _ => Gives.of h3, h4⟩
  · obtain ⟨v', h1, h2⟩ := Option.map_eq_some_iff.1 hl
    cases h2
    obtain ⟨u, x, rfl, hu, hx⟩ := hv.two
    obtain ⟨cv, h3, h4⟩ := aMin_ok (P := P) (ts := ⟨tl⟩) (ty := ty) h1 hu hx
    exact ⟨cv, w, fun _ => Gives.of h3, Out.same hs h4⟩
  · obtain ⟨v', h1, h2⟩ := Option.map_eq_some_iff.1 hl
    cases h2
    obtain ⟨u, x, rfl, hu, hx⟩ := hv.two
    obtain ⟨cv, h3, h4⟩ := aMax_ok (P := P) (ts := ⟨tl⟩) (ty := ty) h1 hu hx
    exact ⟨cv, w, fun _ => Gives.of h3, Out.same hs h4⟩
  · cases hl
theorem build_run (t : TypeId) (ps : Array (Nat × Operand)) (ρ : Operand → Value) (dst : Option Tmp) (ty : TypeId) (pos : String) (after : Array Edge) (guard : Option (Nat × Bool)) :
    execOp ρ ⟨dst, .build t ps, ty, pos, after, guard⟩ = (do pure (.value (← Instr.build t (ps.toList.map fun p => (p.1, ρ p.2)).toArray)) : Sem Next) := by
  have : (ps.map fun x => (x.1, ρ x.2)) = (ps.toList.map fun p => (p.1, ρ p.2)).toArray := by
    apply Array.ext'
    simp
  rw [← this]
  rfl
theorem buildSlice_run (t : TypeId) (len : Nat) (ps : Array (Nat × Operand)) (ρ : Operand → Value) (dst : Option Tmp) (ty : TypeId) (pos : String) (after : Array Edge) (guard : Option (Nat × Bool)) :
    execOp ρ ⟨dst, .buildSlice t len ps, ty, pos, after, guard⟩ = (do pure (.value (← Instr.buildSlice t len (ps.toList.map fun p => (p.1, ρ p.2)).toArray)) : Sem Next) := by
  have : (ps.map fun x => (x.1, ρ x.2)) = (ps.toList.map fun p => (p.1, ρ p.2)).toArray := by
    apply Array.ext'
    simp
  rw [← this]
  rfl
set_option maxHeartbeats 4000000 in
theorem aop_ok {o : Oper} {v : AV} (hs : SR B w0 σ h w) (ht : TR σ w (Held σ h) B tm act.tmps) (hf : ∀ n, k ≤ n → n < k' → σ n = none) (hl : aop P o.op tm h k = some (v, h', k')) :
    ∃ cv w', Gives ((execOp act.eval o).run P w) cv w' ∧ Out B w0 σ h w k k' v h' cv w' := by
  obtain ⟨dst, op, ty, pos, after, guard⟩ := o
  simp only at hl
  cases op with
  | move x =>
    simp only [aop, Option.some.injEq, Prod.mk.injEq] at hl
    obtain ⟨rfl, rfl, rfl⟩ := hl
    exact ⟨_, _, .inl rfl, Out.same hs (ht.eval x)⟩
  | assign x =>
    simp only [aop, Option.some.injEq, Prod.mk.injEq] at hl
    obtain ⟨rfl, rfl, rfl⟩ := hl
    exact ⟨_, _, .inl rfl, Out.same hs (ht.eval x)⟩
  | pick c a b =>
    simp only [aop] at hl
    split at hl <;> try (cases hl; done)
    rename_i cb hc
    cases hl
    have h1 := ht.eval c
    rw [hc] at h1
    generalize hcc : act.eval c = cc at h1
    cases h1
    refine ⟨_, w, .inl ?_, Out.same hs (VR.pick (ht.eval a) (ht.eval b))⟩
    simp [execOp, hcc, asBool]
  | alloc t =>
    simp only [aop, Option.map_eq_some_iff] at hl
    obtain ⟨⟨v', h''⟩, h1, h2⟩ := hl
    cases h2
    obtain ⟨cv, w', h3, h4⟩ := aAlloc_ok hs (hf k (Nat.le_refl _) (by omega)) h1
    exact ⟨cv, w', Gives.of h3, h4⟩
  | box t x =>
    simp only [aop, Option.map_eq_some_iff] at hl
    obtain ⟨⟨v', h''⟩, h1, h2⟩ := hl
    cases h2
    obtain ⟨cv, w', h3, h4⟩ := aBox_ok (P := P) (t := t) hs (hf k (Nat.le_refl _) (by omega)) h1 (ht.eval x)
    exact ⟨cv, w', Gives.of h3, h4⟩
  | build t ps =>
    simp only [aop] at hl
    split at hl <;> try (cases hl; done)
    rename_i hall
    obtain ⟨v', h1, h2⟩ := Option.map_eq_some_iff.1 hl
    cases h2
    obtain ⟨p1, p2⟩ := parts_rel ht ps
    obtain ⟨cv, h3, h4⟩ := aBuild_ok (P := P) (w := w) (cparts := ps.toList.map fun p => (p.1, act.eval p.2)) h1 p1 (fun j p q hp hq => ⟨by
      rw [List.getElem?_map] at hp
      obtain ⟨o, ho, rfl⟩ := Option.map_eq_some_iff.1 hp
      have := List.all_eq_true.1 hall o (List.mem_of_getElem? ho)
      cases hq : evA tm o.2 <;> simp_all [AV.okPart, AV.one], p2 j p q hp hq⟩)
    exact ⟨cv, w, by rw [build_run]; exact Gives.of h3, Out.same hs h4⟩
  | buildSlice t len ps =>
    simp only [aop, Option.map_eq_some_iff] at hl
    obtain ⟨⟨v', h''⟩, h1, h2⟩ := hl
    cases h2
    obtain ⟨p1, p2⟩ := parts_rel ht ps
    obtain ⟨cv, w', h3, h4⟩ := aBuildSlice_ok (P := P) (cparts := ps.toList.map fun p => (p.1, act.eval p.2)) hs (hf k (Nat.le_refl _) (by omega)) h1 p1 p2
    exact ⟨cv, w', by rw [buildSlice_run]; exact Gives.of h3, h4⟩
  | load t a =>
    simp only [aop, Option.map_eq_some_iff] at hl
    obtain ⟨v', h1, h2⟩ := hl
    cases h2
    obtain ⟨cv, h3, h4⟩ := aLoad_ok (P := P) hs h1 (ht.eval a)
    exact ⟨cv, w, Gives.of h3, Out.same hs h4⟩
  | store t a x =>
    simp only [aop, Option.map_eq_some_iff] at hl
    obtain ⟨h'', h1, h2⟩ := hl
    cases h2
    obtain ⟨w', h3, h4, h5⟩ := aStore_ok (P := P) hs h1 (ht.eval a) (ht.eval x)
    refine ⟨undef, w', .inr ⟨?_, rfl⟩, σ, h4, fun _ _ => rfl, h5, .undef _⟩
    simp only [execOp, Sem.run_bind, h3, Result.andThen_ok]
    rfl
  | nilCheck x =>
    simp only [aop] at hl
    have h1 := ht.eval x
    split at hl <;> try (cases hl; done)
    · rename_i n e j hx
      cases hl
      rw [hx] at h1
      have h1' := h1
      generalize hcc : act.eval x = cc at h1
      cases h1
      refine ⟨_, w, .inl ?_, Out.same hs (hcc ▸ h1')⟩
      simp [execOp, hcc]
    · rename_i cs hx
      cases hl
      rw [hx] at h1
      obtain ⟨b, o, hcc⟩ := h1.ip_iff
      refine ⟨_, w, .inl ?_, Out.same hs (hcc ▸ h1)⟩
      simp [execOp, hcc]
  | binOp op t x y _ =>
    simp only [aop, Option.map_eq_some_iff] at hl
    obtain ⟨v', h1, h2⟩ := hl
    cases h2
    obtain ⟨cv, h3, h4⟩ := aBin_ok (P := P) h1 (ht.eval x) (ht.eval y) x y
    exact ⟨cv, w, Gives.of h3, Out.same hs h4⟩
  | unOp op _ x =>
    simp only [aop, Option.map_eq_some_iff] at hl
    obtain ⟨v', h1, h2⟩ := hl
    cases h2
    obtain ⟨cv, h3, h4⟩ := aUn_ok (P := P) h1 (ht.eval x)
    exact ⟨cv, w, Gives.of h3, Out.same hs h4⟩
  | convert s d x =>
    simp only [aop] at hl
    split at hl
    · rename_i v' h1
      cases hl
      obtain ⟨cv, h3, h4⟩ := aConv_ok (P := P) hs h1 (ht.eval x)
      exact ⟨cv, w, Gives.of h3, Out.same hs h4⟩
    · obtain ⟨⟨v', h''⟩, h1, h2⟩ := Option.map_eq_some_iff.1 hl
      cases h2
      obtain ⟨cv, w', h3, h4⟩ := aBytes_ok (P := P) hs (hf k (Nat.le_refl _) (by omega)) h1 (ht.eval x)
      exact ⟨cv, w', Gives.of h3, h4⟩
  | makeInterface t x =>
    simp only [aop] at hl
    split at hl <;> cases hl
    rename_i hc
    exact ⟨_, w, Gives.of (run_makeInterface w t _ hc), Out.same hs (.iface _ _ _ (ht.eval x))⟩
  | makeFunc f as bs =>
    simp only [aop, Option.some.injEq, Prod.mk.injEq] at hl
    obtain ⟨rfl, rfl, rfl⟩ := hl
    have h1 := args_rel ht as
    have h2 := args_rel ht bs
    refine ⟨.func f (as.map act.eval) (bs.map act.eval), w, .inl rfl, Out.same hs (.fn f _ _ _ _ (by simp) (by simp) (fun j c v hc hv => h1.2 j c v hc (by simpa using hv)) (fun j c v hc hv => h2.2 j c v hc (by simpa using hv)))⟩
  | makeSlice t l c =>
    simp only [aop, Option.map_eq_some_iff] at hl
    obtain ⟨⟨v', h''⟩, h1, h2⟩ := hl
    cases h2
    obtain ⟨cv, w', h3, h4⟩ := aMake_ok (P := P) hs (hf k (Nat.le_refl _) (by omega)) h1 (ht.eval l) (ht.eval c)
    exact ⟨cv, w', Gives.of h3, h4⟩
  | slice t x lo hi mx =>
    simp only [aop, Option.map_eq_some_iff] at hl
    obtain ⟨v', h1, h2⟩ := hl
    cases h2
    obtain ⟨cv, h3, h4⟩ := aSlice_ok (P := P) hs h1 (ht.eval x) (VRo.of ht lo) (VRo.of ht hi) (VRo.of ht mx)
    exact ⟨cv, w, Gives.of h3, Out.same hs h4⟩
  | fieldAddr t x f =>
    simp only [aop, Option.map_eq_some_iff] at hl
    obtain ⟨v', h1, h2⟩ := hl
    cases h2
    obtain ⟨cv, h3, h4⟩ := aField_ok (P := P) (w := w) h1 (ht.eval x)
    exact ⟨cv, w, Gives.of h3, Out.same hs h4⟩
  | field t x f =>
    simp only [aop, Option.map_eq_some_iff] at hl
    obtain ⟨v', h1, h2⟩ := hl
    cases h2
    obtain ⟨cv, h3, h4⟩ := aFieldOf_ok (P := P) (w := w) h1 (ht.eval x)
    exact ⟨cv, w, Gives.of h3, Out.same hs h4⟩
  | indexAddr t x i =>
    simp only [aop, Option.map_eq_some_iff] at hl
    obtain ⟨v', h1, h2⟩ := hl
    cases h2
    obtain ⟨cv, h3, h4⟩ := aIndexAddr_ok (P := P) hs h1 (ht.eval x) (ht.eval i)
    exact ⟨cv, w, Gives.of h3, Out.same hs h4⟩
  | index t x i =>
    simp only [aop, Option.map_eq_some_iff] at hl
    obtain ⟨v', h1, h2⟩ := hl
    cases h2
    obtain ⟨cv, h3, h4⟩ := aIndex_ok (P := P) (w := w) h1 (ht.eval x) (ht.eval i)
    exact ⟨cv, w, Gives.of h3, Out.same hs h4⟩
  | extract x i =>
    simp only [aop, Option.map_eq_some_iff] at hl
    obtain ⟨v', h1, h2⟩ := hl
    cases h2
    obtain ⟨cv, h3, h4⟩ := aExtract_ok (P := P) (w := w) h1 (ht.eval x)
    exact ⟨cv, w, Gives.of h3, Out.same hs h4⟩
  | call c =>
    obtain ⟨callee, args, ts⟩ := c
    cases callee with
    | builtin b =>
      simp only [aop] at hl
      obtain ⟨cv, w', h3, h4⟩ := aBuiltin_ok (P := P) hs hf (vs := args.map act.eval) (ty := ty) hl (args_rel ht args)
      refine ⟨cv, w', ?_, h4⟩
      simp only [execOp, resolve, pure_bind, invoke]
      exact h3 _
    | _ => simp [aop] at hl
  | _ => simp [aop] at hl
end
end Go.Proofs.Ytcnofpoffdjbpaa.AE
