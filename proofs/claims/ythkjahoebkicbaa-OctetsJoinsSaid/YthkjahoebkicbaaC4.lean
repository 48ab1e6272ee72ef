/- Functions that end as they will; rows frozen within memory. No program in sight. -/
import Derived.Test.YthkjahoebkicbaaC2
namespace Go.Proofs.Ythkjahoebkicbaa.AE
open Go Go.RowKit
set_option linter.unusedVariables false
set_option linter.unusedSimpArgs false
variable {P : Program}
section
variable {nt : Nat} {h : AHeap} {nx : Nat}
def endR (P : Program) (fn : Func) (R : AV → AHeap → Nat → Prop) : AX → St → Prop
  | .norm, s | .ret, s => s.df = [] ∧ ∃ a, resA P s fn.results.toList = some a ∧ R a s.h s.nx
  | _, _ => False
theorem aR_body {f : FuncId} {fn : Func} {c : Code} {args : List AV} {R : AV → AHeap → Nat → Prop} (hf : P.funcs[f]? = some fn) (hb : fn.body = some c) (hn : fn.ntmps = nt) (ha : args.length ≤ nt)
    (hw : (∀ a ∈ args, Real a) → (∀ n, nx ≤ n → h n = none) → aWp P nt c (endR P fn R) ⟨tm0 args, h, nx, []⟩) : aCalls P f args h nx (fun e h' k' => ∃ a, e = .ret a ∧ R a h' k') := aCalls_real fun hreal hfresh => by
  refine aCalls_body hf hb hn ha (aWp_mono (hw hreal hfresh) ?_)
  rintro e s hs
  cases e with
  | norm => obtain ⟨q1, a, q2, q3⟩ := hs; exact ⟨q1, a, q2, a, rfl, q3⟩
  | ret => obtain ⟨q1, a, q2, q3⟩ := hs; exact ⟨q1, a, q2, a, rfl, q3⟩
  | ex id => exact hs.elim
  | gt l => exact hs.elim
  | pan v => exact hs.elim
/-- What is of no use any more is let go at the end. -/
theorem aCalls_clean {f : FuncId} {args : List AV} {R R' : AV → AHeap → Nat → Prop} (hc : aCalls P f args h nx (fun e h' k' => ∃ a, e = .ret a ∧ R a h' k'))
    (hR : ∀ a h' k', R a h' k' → ∃ D : Nat → Bool, R' a (fun i => if D i = true then none else h' i) k') : aCalls P f args h nx (fun e h' k' => ∃ a, e = .ret a ∧ R' a h' k') := by
  intro B w0 O σ w vs hs hx hk hv
  refine (hc B w0 O σ w vs hs hx hk hv).mono ?_
  rintro e w' ⟨ae, h', nx', σ', g1, g2, g3, g4, a, rfl, g5⟩
  obtain ⟨D, hD⟩ := hR a h' nx' g5
  obtain ⟨d1, d2⟩ := g2.drop D
  cases g1 with
  | ret _ u hu =>
  exact ⟨_, _, nx', σ', .ret _ u (d2 _ _ hu), d1, g3, g4.trans d2 (Nat.le_refl _) (fun _ _ => rfl), a, rfl, hD⟩
theorem W_endR {fn : Func} {tm : Nat → AV} {k : Nat} {rs : List ResultVar} {a : AV} {R : AV → AHeap → Nat → Prop} (hrs : fn.results.toList = rs) (hr : resA P ⟨tm, h, k, []⟩ rs = some a) (hR : R a h k) : endR P fn R .ret ⟨tm, h, k, []⟩ := ⟨rfl, a, by rw [hrs]; exact hr, hR⟩
theorem W_endRn {fn : Func} {tm : Nat → AV} {k : Nat} {rs : List ResultVar} {a : AV} {R : AV → AHeap → Nat → Prop} (hrs : fn.results.toList = rs) (hr : resA P ⟨tm, h, k, []⟩ rs = some a) (hR : R a h k) : endR P fn R .norm ⟨tm, h, k, []⟩ := ⟨rfl, a, by rw [hrs]; exact hr, hR⟩
end
theorem frzN_one {n : Nat} {b : Blk} {a : AV} (h : a.one = true) : (frzN n b a).one = true := by
  unfold frzN
  split
  · split <;> rfl
  · exact h
/-- A row that lies in memory is frozen. -/
theorem Sub.freezeH {st : St} {m z : Nat} {b bm : Blk} (hz : st.h z = some b) (hm : st.h m = some bm) (hne : m ≠ z) : Sub st ⟨st.tm, upd (upd st.h z none) m (some ⟨bm.sz, bm.es.map fun e => e.map (frzN z b)⟩), st.nx, st.df⟩ := ⟨Nat.le_refl _, fun B w0 nt σ act w hr => by
  obtain ⟨d1, d2⟩ := hr.sr.drop (fun i => decide (i = z))
  have hfz := fun (off len : Nat) (v : Value) (hl : off + len ≤ b.es.length) (hv : VR σ w (Held σ st.h) B (.hs z off len) v) => VR.freeze hr.sr (fun i => decide (i = z)) hz (by simp) hl hv
  rw [kill_eq] at d1 d2
  simp only [kill_eq] at hfz
  have hm1 : upd st.h z none m = some bm := by rw [upd_ne _ _ _ hne]; exact hm
  have hsome : ∀ n, (upd (upd st.h z none) m (some ⟨bm.sz, bm.es.map fun e => e.map (frzN z b)⟩) n).isSome = (upd st.h z none n).isSome := fun n => by
    by_cases e : n = m
    · subst e; rw [upd_same, hm1]; rfl
    · rw [upd_ne _ _ _ e]
  have hheld : Held σ (upd (upd st.h z none) m (some ⟨bm.sz, bm.es.map fun e => e.map (frzN z b)⟩)) = Held σ (upd st.h z none) := by
    funext q i
    apply propext
    constructor
    · rintro ⟨n, r, h1, h2⟩; exact ⟨n, r, by rw [← hsome]; exact h1, h2⟩
    · rintro ⟨n, r, h1, h2⟩; exact ⟨n, r, by rw [hsome]; exact h1, h2⟩
  have keep : ∀ a v, VR σ w (Held σ st.h) B a v → VR σ w (Held σ (upd (upd st.h z none) m (some ⟨bm.sz, bm.es.map fun e => e.map (frzN z b)⟩))) B a v := fun a v q => by rw [hheld]; exact d2 a v q
  refine ⟨⟨⟨d1.old, d1.hB, fun n k hn => ?_, fun n n' r s q i h1 h2 => ?_⟩, fun t => keep _ _ (hr.tr t), hr.nt, hr.nx, hr.df.mono keep⟩, keep⟩
  · dsimp only at hn
    by_cases e : n = m
    · subst e
      rw [upd_same] at hn
      cases hn
      obtain ⟨r, q1, q2, q3, q4, q5, q6, q7⟩ := hr.sr.blk n bm hm
      refine ⟨r, q1, q2, q3, by simpa using q4, by simpa using q5, q6, fun i e he => ?_⟩
      rw [List.getElem?_map] at he
      obtain ⟨e0, h0, rfl⟩ := Option.map_eq_some_iff.1 he
      obtain ⟨g1, g2⟩ := q7 i e0 h0
      refine ⟨by simpa using g1, fun j a ha => ?_⟩
      rw [List.getElem?_map] at ha
      obtain ⟨a0, ha0, rfl⟩ := Option.map_eq_some_iff.1 ha
      obtain ⟨g3, v, g4, g5, g6⟩ := g2 j a0 ha0
      refine ⟨frzN_one g3, v, g4, g5, ?_⟩
      rw [hheld]
      unfold frzN
      split
      · split
        · rename_i hc
          obtain ⟨rfl, hl⟩ := hc
          exact hfz _ _ _ hl g6
        · exact d2 _ _ g6
      · exact d2 _ _ g6
    · rw [upd_ne _ _ _ e] at hn
      obtain ⟨r, q1, q2, q3, q4, q5, q6, q7⟩ := d1.blk n k hn
      refine ⟨r, q1, q2, q3, q4, q5, q6, fun i e he => ⟨(q7 i e he).1, fun j a ha => ?_⟩⟩
      obtain ⟨g3, v, g4, g5, g6⟩ := (q7 i e he).2 j a ha
      exact ⟨g3, v, g4, g5, by rw [hheld]; exact g6⟩
  · dsimp only at h1 h2
    rw [hsome] at h1 h2
    exact d1.dis n n' r s q i h1 h2⟩
def nilA (v : AV) (h : AHeap) (k : Nat) : Option (AV × AHeap × Nat) := match v with
  | .ptr n e j => some (.ptr n e j, h, k)
  | .ip cs => some (.ip cs, h, k)
  | _ => none
/-- A pointer that is asked whether it is none. -/
theorem NL : (∀ (P : Program) (x : Operand) (tm : Nat → AV) (h : AHeap) (k : Nat), aop P (.nilCheck x) tm h k = nilA (evA tm x) h k) ∧ (∀ (n e j : Nat) (h : AHeap) (k : Nat), nilA (.ptr n e j) h k = some (.ptr n e j, h, k)) ∧ (∀ (cs : List AV) (h : AHeap) (k : Nat), nilA (.ip cs) h k = some (.ip cs, h, k)) :=
  ⟨fun _ _ _ _ _ => rfl, fun _ _ _ _ _ => rfl, fun _ _ _ => rfl⟩
/-- A call that reads what is owned, within a region that draws its order. -/
theorem D_e {opl : List Oper} {i k : Nat} {acc : List Ac} {K : (Nat → AV) → AHeap → Prop} {rest : List Oper} {tm : Nat → AV} {h : AHeap} {d : Nat} {ty : TypeId} {pos : String} {after : Array Edge} {v : AV} (R : List Nat) {c : Call} {f : FuncId} {args : List AV} (ha : calleeW tm c = some (f, args)) (hc : callable P f = true) (hf : ∀ (g : AHeap) (nx : Nat), RdEq g h R → aEff P f args g nx v g)
    (hr : DrawP P opl k K (i + 1) rest (upd tm d v) h (acc ++ [⟨v, R, []⟩])) : DrawP P opl k K i (⟨some d, .call c, ty, pos, after, none⟩ :: rest) tm h acc :=
  .cons (a := ⟨v, R, []⟩) (.inr ⟨rfl, .inr (.inl ⟨c, f, args, rfl, ha, hc, fun g nx hg => aCalls_mono (hf g nx (rdEq_of hg)) fun e h' k' q => ⟨q.1, q.2.1⟩⟩)⟩) hr
end Go.Proofs.Ythkjahoebkicbaa.AE
