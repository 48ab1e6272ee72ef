/- Functions that turn memory that they are handed. No program in sight. -/
import Derived.Test.YtcnofpoffdjbpaaC1
namespace Go.Proofs.Ytcnofpoffdjbpaa.AE
open Go Go.RowKit
set_option linter.unusedVariables false
set_option linter.unusedSimpArgs false
variable {P : Program}
section
variable {nt : Nat} {Q : AX → St → Prop} {ops : Array Oper} {rest : List Oper} {tm : Nat → AV} {h : AHeap} {k : Nat} {df : List ADef} {d : Nat} {ty : TypeId} {pos : String} {after : Array Edge} {v : AV}
/-- It answers v, and memory is h2 behind it. -/
def aEff (P : Program) (f : FuncId) (args : List AV) (h : AHeap) (nx : Nat) (v : AV) (h2 : AHeap) : Prop := aCalls P f args h nx (fun e h' k' => e = .ret v ∧ h' = h2 ∧ nx ≤ k')
theorem aEff_body {f : FuncId} {fn : Func} {c : Code} {args : List AV} {nx : Nat} {h2 : AHeap} (hf : P.funcs[f]? = some fn) (hb : fn.body = some c) (hn : fn.ntmps = nt) (ha : args.length ≤ nt)
    (hw : (∀ a ∈ args, Real a) → (∀ n, nx ≤ n → h n = none) → (∀ n, nx ≤ n → h2 n = none) ∧ aWp P nt c (endQ P fn nx h2 v) ⟨tm0 args, h, nx, []⟩) : aEff P f args h nx v h2 := aCalls_real fun hreal hfresh => by
  obtain ⟨hf2, hw⟩ := hw hreal hfresh
  have h1 : aCalls P f args h nx (fun e h' k' => ∃ a, e = .ret a ∧ frzV nx h' a = some v ∧ (∀ n, n < nx → h' n = h2 n) ∧ nx ≤ k') := by
    refine aCalls_body hf hb hn ha (aWp_mono hw ?_)
    rintro e s hs
    cases e with
    | norm => obtain ⟨q1, q2, q3, a, q4, q5⟩ := hs; exact ⟨q1, a, q4, a, rfl, q5, q3, q2⟩
    | ret => obtain ⟨q1, q2, q3, a, q4, q5⟩ := hs; exact ⟨q1, a, q4, a, rfl, q5, q3, q2⟩
    | ex id => exact hs.elim
    | gt l => exact hs.elim
    | pan v => exact hs.elim
  intro B w0 O σ w vs hs hx hk hv
  refine (h1 B w0 O σ w vs hs hx hk hv).mono ?_
  rintro e w' ⟨ae, h', nx', σ', g1, g2, g3, g4, a, rfl, g5, g6, g7⟩
  cases g1 with
  | ret _ u hu =>
  obtain ⟨d1, d2⟩ := g2.drop (fun m => decide (nx ≤ m))
  have hfz := frzV_ok g2 g5 hu
  have he : (fun m => if decide (nx ≤ m) = true then none else h' m) = h2 := by
    funext m
    by_cases hm : nx ≤ m
    · simp [hm, hf2 m hm]
    · simp [hm, g6 m (by omega)]
  rw [he] at d1 d2 hfz
  exact ⟨.ret v, h2, nx', σ', .ret v u hfz, d1, g3, g4.trans d2 (Nat.le_refl _) (fun _ _ => rfl), rfl, rfl, g7⟩
/-- A call that turns memory. -/
theorem W_eff {c : Call} {f : FuncId} {args : List AV} {h2 : AHeap} (hd : decide (d < nt) = true) (ha : calleeA tm c = some (f, args)) (hc : callable P f = true) (hf : aEff P f args h k v h2) (hr : ∀ k', k ≤ k' → aOps P nt ops rest Q ⟨upd tm d v, h2, k', df⟩) :
    aOps P nt ops (⟨some d, .call c, ty, pos, after, none⟩ :: rest) Q ⟨tm, h, k, df⟩ :=
  aOps_call rfl hd rfl ha hc hf (fun a h' k' ⟨e1, e2, e3⟩ => by cases e1; subst e2; exact hr k' e3) (fun a h' k' ⟨e1, _⟩ => by cases e1)
/-- The same, where the arguments are told without room. -/
theorem W_effW {c : Call} {f : FuncId} {args : List AV} {h2 : AHeap} (hd : decide (d < nt) = true) (ha : calleeW tm c = some (f, args)) (hc : callable P f = true) (hf : aEff P f args h k v h2) (hr : ∀ k', k ≤ k' → aOps P nt ops rest Q ⟨upd tm d v, h2, k', df⟩) :
    aOps P nt ops (⟨some d, .call c, ty, pos, after, none⟩ :: rest) Q ⟨tm, h, k, df⟩ := by
  unfold calleeW at ha
  obtain ⟨⟨f', args'⟩, h1, h2⟩ := Option.map_eq_some_iff.1 ha
  simp only [Prod.mk.injEq] at h2
  obtain ⟨rfl, rfl⟩ := h2
  exact aOps_call rfl hd rfl h1 hc (fun B w0 O σ w vs q1 q2 q3 q4 => hf B w0 O σ w vs q1 q2 q3 q4.weak) (fun a h' k' ⟨e1, e2, e3⟩ => by cases e1; subst e2; exact hr k' e3) (fun a h' k' ⟨e1, _⟩ => by cases e1)
/-- The same, within a region that draws its order: one block is turned. -/
theorem D_c {opl : List Oper} {i : Nat} {acc : List Ac} {K : (Nat → AV) → AHeap → Prop} (R : List Nat) {m : Nat} {b : Option Blk} {c : Call} {f : FuncId} {args : List AV} (ha : calleeW tm c = some (f, args)) (hc : callable P f = true) (hf : ∀ (g : AHeap) (nx : Nat), RdEq g h R → aEff P f args g nx v (upd g m b))
    (hr : DrawP P opl k K (i + 1) rest (upd tm d v) (upd h m b) (acc ++ [⟨v, R, [(m, b)]⟩])) : DrawP P opl k K i (⟨some d, .call c, ty, pos, after, none⟩ :: rest) tm h acc :=
  .cons (a := ⟨v, R, [(m, b)]⟩) (.inr ⟨rfl, .inr ⟨c, f, args, rfl, ha, hc, fun g nx hg => aCalls_mono (hf g nx (rdEq_of hg)) fun e h' k' q => ⟨q.1, q.2.1⟩⟩⟩) hr
end
end Go.Proofs.Ytcnofpoffdjbpaa.AE
