/- A region that draws its order, walked along a plan: an order of its operations in which each one may be taken next. -/
import Derived.Test.YtijmldjghhndoaaHelp
import Derived.KernelRfl
namespace Go.Proofs.Ytijmldjghhndoaa.Hy
open Go.RowKit Go.Proofs.YtijmldjghhndoaaW.PrintWords Go.Proofs.YtijmldjghhndoaaW.PrintLast Go.Proofs.YtijmldjghhndoaaW.PrintMore
set_option linter.unusedVariables false

theorem undrew {w w1 : World} (h : Below w.drew.heap.size w.drew w1) : Below w.heap.size w w1 := ⟨h.os, h.tape, h.output, h.size, h.block⟩
/-- pure: yields in every world; quiet: yields in every world that meets S; loud: it alone may come up; last: the same, and behind it S is not asked for. -/
inductive PK where
  | pure | quiet | loud | last
def PK.free : PK → Bool
  | .pure | .last => true
  | _ => false
def planOk (ops : Array Oper) (ds : List Nat) : List (Nat × PK) → Array Bool → Bool
  | [], l => Region.ready .any ops l == []
  | (i, k) :: r, l => (match k with
    | .pure => anyB .any ops l (l.setIfInBounds i true) i
    | .quiet => takeB .any ops ds l (l.setIfInBounds i true) i
    | .loud => readyB .any ops l (l.setIfInBounds i true) i && !ds.contains i
    | .last => readyB .any ops l (l.setIfInBounds i true) i && ds.contains i && r.all (fun p => p.2.free)) && planOk ops ds r (l.setIfInBounds i true)
def planOps (ops : Array Oper) : List (Nat × PK) → List (PK × Oper)
  | [] => []
  | (i, k) :: r => (match ops[i]? with | some o => [(k, o)] | none => []) ++ planOps ops r
def planWp (P : Program) (ops : Array Oper) (Q : Exit → Act → World → Prop) (S : World → Prop) : List (PK × Oper) → Act → World → Prop
  | [], a, w => Q .normal a w
  | (.pure, o) :: r, a, w => ∃ v, Yields P ops o v a ∧ planWp P ops Q S r (a.put o.dst v) w
  | (.quiet, o) :: r, a, w => ∃ v, YieldsIf P ops S o v a ∧ planWp P ops Q S r (a.put o.dst v) w
  | (.loud, o) :: r, a, w => ∀ K : Act → World → Prop, (∀ a' w', S w' → planWp P ops Q S r a' w' → K a' w') → if Region.wanted o (yielded ops a.tmps) = true then o.wp P a w K Q else K (a.put o.dst undef) w
  | (.last, o) :: r, a, w => ∀ K : Act → World → Prop, (∀ a' w', planWp P ops Q S r a' w' → K a' w') → if Region.wanted o (yielded ops a.tmps) = true then o.wp P a w K Q else K (a.put o.dst undef) w
section
variable {P : Program} {ops : Array Oper} {Q : Exit → Act → World → Prop} {S : World → Prop} {ds : List Nat}
theorem plan_sound (hQ : ∀ c a w d v, Q (.panic c) { a with tmps := a.tmps.setIfInBounds d v } w → Q (.panic c) a w) : ∀ (plan : List (Nat × PK)) (l : Array Bool) (a : Act) (w : World) (n : Nat),
    planOk ops ds plan l = true → S w ∨ (∀ p ∈ plan, p.2.free = true) → planWp P ops Q S (planOps ops plan) a w → plan.length ≤ n → wpAnyLast P .any ops Q S ds n l a w
  | [], l, a, w, n, hok, _, h, _ => done_ (by simpa [planOk] using hok) h
  | (i, k) :: r, l, a, w, n, hok, hS, h, hn => by
    have hQ' : ∀ (dst : Option Tmp) v c a w, Q (.panic c) (Act.put a dst v) w → Q (.panic c) a w := by
      intro dst v c a w h
      cases dst with
      | none => exact h
      | some d => exact hQ c a w d v h
    obtain ⟨n, rfl⟩ : ∃ m, n = m + 1 := ⟨n - 1, by simp at hn; omega⟩
    have hn' : r.length ≤ n := by simpa using hn
    simp only [planOk, Bool.and_eq_true] at hok
    obtain ⟨hk, hok⟩ := hok
    unfold planOps at h
    have hi : ∃ o, ops[i]? = some o := by
      cases ho : ops[i]? with
      | some o => exact ⟨o, rfl⟩
      | none =>
        exfalso
        have hm : i ∈ Region.ready .any ops l := by
          cases k <;> simp only [anyB, takeB, readyB, Bool.and_eq_true, beq_iff_eq] at hk
          · simpa using hk.1.2
          · simpa using hk.1.1.1.2
          · rw [hk.1.1]; simp
          · rw [hk.1.1.1]; simp
        obtain ⟨_, o, h2, _⟩ := mem_ready.1 hm
        rw [ho] at h2
        cases h2
    obtain ⟨o, ho⟩ := hi
    rw [ho] at h
    simp only [List.cons_append, List.nil_append] at h
    cases k with
    | pure =>
      obtain ⟨v, hy, h⟩ := h
      exact pure_ (l.setIfInBounds i true) ho rfl hk (hQ' _ _) hy rfl (plan_sound hQ r _ _ w n hok (hS.imp id fun q p hp => q p (List.mem_cons_of_mem _ hp)) h hn')
    | quiet =>
      obtain ⟨v, hy, h⟩ := h
      have hS1 : S w := by
        rcases hS with hS | hS
        · exact hS
        · have := hS _ List.mem_cons_self
          cases this
      exact take_ (l.setIfInBounds i true) ho rfl hk (hQ' _ _) hy hS1 rfl (plan_sound hQ r _ _ w n hok (.inl hS1) h hn')
    | loud =>
      simp only [Bool.and_eq_true, Bool.not_eq_true', List.contains_eq_mem, decide_eq_false_iff_not] at hk
      refine one_ (l.setIfInBounds i true) ho rfl hk.1 hk.2 fun K hK => h K fun a' w' hS' hp => ?_
      exact hK a' w' hS' (fun _ => plan_sound hQ r _ a' w' n hok (.inl hS') hp hn')
    | last =>
      simp only [Bool.and_eq_true, List.contains_eq_mem, decide_eq_true_eq] at hk
      refine last_ (l.setIfInBounds i true) ho rfl hk.1.1 hk.1.2 fun K hK => h K fun a' w' hp => ?_
      refine hK a' w' ?_
      refine plan_sound hQ r _ a' w' n hok (.inr fun p hm => List.all_eq_true.1 hk.2 p hm) hp hn'
/-- The region, along the plan. -/
theorem plan_region {id : Nat} {a : Act} {w : World} (plan : List (Nat × PK)) (ds : List Nat) (S : World → Prop) (hm : P.follows .mixedOrders = true) (hok : planOk ops ds plan (Array.replicate ops.size false) = true) (hn : plan.length ≤ ops.size)
    (hQ : ∀ c a w d v, Q (.panic c) { a with tmps := a.tmps.setIfInBounds d v } w → Q (.panic c) a w) (hS : S w.drew) (h : S w.drew → planWp P ops Q S (planOps ops plan) a w.drew) : (Code.region id ops true).wp P Q a w :=
  wp_region_last_drew hm hS fun hS => plan_sound (ds := ds) hQ plan _ a w.drew ops.size hok (.inl hS) (h hS) hn
/-- The same; the world is a letter from here on. -/
theorem plan_regionW {id : Nat} {a : Act} {w : World} (plan : List (Nat × PK)) (ds : List Nat) (S : World → Prop) (hm : P.follows .mixedOrders = true) (hok : planOk ops ds plan (Array.replicate ops.size false) = true) (hn : plan.length ≤ ops.size)
    (hQ : ∀ c a w d v, Q (.panic c) { a with tmps := a.tmps.setIfInBounds d v } w → Q (.panic c) a w) (hS : ∀ w', Below w.heap.size w w' → S w') (h : ∀ w', Below w.heap.size w w' → S w' → planWp P ops Q S (planOps ops plan) a w') : (Code.region id ops true).wp P Q a w :=
  plan_region plan ds S hm hok hn hQ (hS _ (below_drew (Below.refl _ _))) (h w.drew (below_drew (Below.refl _ _)))
theorem plan_nil {a : Act} {w : World} (h : Q .normal a w) : planWp P ops Q S [] a w := h
theorem plan_pure {o : Oper} {r : List (PK × Oper)} {a : Act} {w : World} (v : Value) (hg : Region.wanted o (yielded ops a.tmps) = true) (hy : ∀ w', (execOp a.eval o).run P w' = .ok (.value v) w') (h : planWp P ops Q S r (a.put o.dst v) w) : planWp P ops Q S ((.pure, o) :: r) a w := ⟨v, .inl ⟨hg, hy⟩, h⟩
theorem plan_quiet {o : Oper} {r : List (PK × Oper)} {a : Act} {w : World} (v : Value) (hg : Region.wanted o (yielded ops a.tmps) = true) (hy : ∀ w', S w' → (execOp a.eval o).run P w' = .ok (.value v) w') (h : planWp P ops Q S r (a.put o.dst v) w) : planWp P ops Q S ((.quiet, o) :: r) a w := ⟨v, .inl ⟨hg, hy⟩, h⟩
theorem plan_loud {o : Oper} {r : List (PK × Oper)} {a : Act} {w : World} (hg : Region.wanted o (yielded ops a.tmps) = true) (h : ∀ K : Act → World → Prop, (∀ a' w', S w' → planWp P ops Q S r a' w' → K a' w') → o.wp P a w K Q) : planWp P ops Q S ((.loud, o) :: r) a w := fun K hK => by
  rw [if_pos hg]
  exact h K hK
theorem plan_last {o : Oper} {r : List (PK × Oper)} {a : Act} {w : World} (hg : Region.wanted o (yielded ops a.tmps) = true) (h : ∀ K : Act → World → Prop, (∀ a' w', planWp P ops Q S r a' w' → K a' w') → o.wp P a w K Q) : planWp P ops Q S ((.last, o) :: r) a w := fun K hK => by
  rw [if_pos hg]
  exact h K hK
theorem plan_value {o : Oper} {r : List (PK × Oper)} {a : Act} {w w1 : World} (v : Value) (hg : Region.wanted o (yielded ops a.tmps) = true) (hrun : (execOp a.eval o).run P w = .ok (.value v) w1) (hS : S w1) (h : planWp P ops Q S r (a.put o.dst v) w1) : planWp P ops Q S ((.loud, o) :: r) a w := fun K hK =>
  value_ hg rfl hrun (hK _ _ hS h)
theorem plan_valueL {o : Oper} {r : List (PK × Oper)} {a : Act} {w w1 : World} (v : Value) (hg : Region.wanted o (yielded ops a.tmps) = true) (hrun : (execOp a.eval o).run P w = .ok (.value v) w1) (h : planWp P ops Q S r (a.put o.dst v) w1) : planWp P ops Q S ((.last, o) :: r) a w := fun K hK =>
  value_ hg rfl hrun (hK _ _ h)
theorem plan_loudK {o : Oper} {r : List (PK × Oper)} {a : Act} {w : World} (h : ∀ K : Act → World → Prop, (∀ a' w', S w' → planWp P ops Q S r a' w' → K a' w') → if Region.wanted o (yielded ops a.tmps) = true then o.wp P a w K Q else K (a.put o.dst undef) w) : planWp P ops Q S ((.loud, o) :: r) a w := h
theorem plan_lastK {o : Oper} {r : List (PK × Oper)} {a : Act} {w : World} (h : ∀ K : Act → World → Prop, (∀ a' w', planWp P ops Q S r a' w' → K a' w') → if Region.wanted o (yielded ops a.tmps) = true then o.wp P a w K Q else K (a.put o.dst undef) w) : planWp P ops Q S ((.last, o) :: r) a w := h
/-- A call of a Go function, by its contract. -/
theorem plan_call {o : Oper} {r : List (PK × Oper)} {a : Act} {w : World} {f : FuncId} {fn : Func} {xs : Array Operand} {ts : Array TypeId} (hf : P.funcs[f]? = some fn) (hname : (fn.name == "runtime.NumGoroutine") = false) (hb : fn.body.isSome = true) (args : Array Value)
    (hg : Region.wanted o (yielded ops a.tmps) = true) (hop : o.op = .call { callee := .value (.func f), args := xs, argTypes := ts }) (hargs : xs.map a.eval = args)
    (h : Calls P f args w fun e w' => ∃ v, e = .returned v ∧ S w' ∧ planWp P ops Q S r (a.put o.dst v) w') : planWp P ops Q S ((.loud, o) :: r) a w := fun K hK =>
  goes_ hf hname hb args hg rfl hop hargs (h.mono fun e w' ⟨v, he, hS, hp⟩ => ⟨v, he, hK _ _ hS hp⟩)
theorem plan_callL {o : Oper} {r : List (PK × Oper)} {a : Act} {w : World} {f : FuncId} {fn : Func} {xs : Array Operand} {ts : Array TypeId} (hf : P.funcs[f]? = some fn) (hname : (fn.name == "runtime.NumGoroutine") = false) (hb : fn.body.isSome = true) (args : Array Value)
    (hg : Region.wanted o (yielded ops a.tmps) = true) (hop : o.op = .call { callee := .value (.func f), args := xs, argTypes := ts }) (hargs : xs.map a.eval = args)
    (h : Calls P f args w fun e w' => ∃ v, e = .returned v ∧ planWp P ops Q S r (a.put o.dst v) w') : planWp P ops Q S ((.last, o) :: r) a w := fun K hK =>
  goes_ hf hname hb args hg rfl hop hargs (h.mono fun e w' ⟨v, he, hp⟩ => ⟨v, he, hK _ _ hp⟩)
theorem plan_skipS {o : Oper} {r : List (PK × Oper)} {a : Act} {w w1 : World} (hg : Region.wanted o (yielded ops a.tmps) = true) (hd : o.dst = none) (hrun : (execOp a.eval o).run P w = .ok .skip w1) (hS : S w1) (h : planWp P ops Q S r a w1) : planWp P ops Q S ((.loud, o) :: r) a w := fun K hK => by
  have := skip_ (ops := ops) (Q := Q) hg hd hrun (hK _ _ hS h)
  rwa [← hd] at this
theorem plan_skip {o : Oper} {r : List (PK × Oper)} {a : Act} {w w1 : World} (hg : Region.wanted o (yielded ops a.tmps) = true) (hd : o.dst = none) (hrun : (execOp a.eval o).run P w = .ok .skip w1) (h : planWp P ops Q S r a w1) : planWp P ops Q S ((.last, o) :: r) a w := fun K hK =>
  by
  have := skip_ (ops := ops) (Q := Q) hg hd hrun (hK _ _ h)
  rwa [← hd] at this
end
end Go.Proofs.Ytijmldjghhndoaa.Hy
