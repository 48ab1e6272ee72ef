/- Regions whose order is drawn, as a walk wants them. No program in sight. -/
import Derived.Test.YtcnofpoffdjbpaaB8
namespace Go.Proofs.Ytcnofpoffdjbpaa.AE
open Go Go.RowKit
set_option linter.unusedVariables false
set_option linter.unusedSimpArgs false
def RdEq (g h : AHeap) : List Nat → Prop
  | [] => True
  | m :: R => g m = h m ∧ RdEq g h R
theorem rdEq_of {g h : AHeap} : ∀ {R : List Nat}, (∀ m ∈ R, g m = h m) → RdEq g h R
  | [], _ => trivial
  | m :: R, hr => ⟨hr m (by simp), rdEq_of fun m hm => hr m (by simp [hm])⟩
/-! ### names that do not meet -/
def nAll (ps : List (List Nat)) (j m : Nat) : Nat → List Ac → Prop
  | _, [] => True
  | i, a :: as => (i = j ∨ ordB ps i j = true ∨ (m ∉ a.rd ∧ m ∉ a.ws.map (·.1))) ∧ nAll ps j m (i + 1) as
def nWs (ps : List (List Nat)) (as : List Ac) (j : Nat) : List (Nat × Option Blk) → Prop
  | [] => True
  | w :: ws => nAll ps j w.1 0 as ∧ nWs ps as j ws
def nOk (ps : List (List Nat)) (as : List Ac) : Nat → List Ac → Prop
  | _, [] => True
  | j, b :: bs => nWs ps as j b.ws ∧ nOk ps as (j + 1) bs
theorem nAll_get {ps : List (List Nat)} {j m : Nat} : ∀ {as : List Ac} {q : Nat}, nAll ps j m q as → ∀ (i : Nat) a, as[i]? = some a → q + i = j ∨ ordB ps (q + i) j = true ∨ (m ∉ a.rd ∧ m ∉ a.ws.map (·.1))
  | [], q, _, i, a, h => by simp at h
  | x :: as, q, h, 0, a, ha => by
    simp at ha
    subst ha
    exact h.1
  | x :: as, q, h, i + 1, a, ha => by
    have := nAll_get h.2 i a (by simpa using ha)
    rwa [show q + 1 + i = q + (i + 1) by omega] at this
theorem nWs_get {ps : List (List Nat)} {as : List Ac} {j : Nat} : ∀ {ws : List (Nat × Option Blk)}, nWs ps as j ws → ∀ m ∈ ws.map (·.1), nAll ps j m 0 as
  | [], _, m, hm => by simp at hm
  | w :: ws, h, m, hm => by
    simp only [List.map_cons, List.mem_cons] at hm
    rcases hm with rfl | hm
    · exact h.1
    · exact nWs_get h.2 m hm
theorem nOk_get {ps : List (List Nat)} {as : List Ac} : ∀ {bs : List Ac} {q : Nat}, nOk ps as q bs → ∀ (j : Nat) b, bs[j]? = some b → nWs ps as (q + j) b.ws
  | [], q, _, j, b, h => by simp at h
  | x :: bs, q, h, 0, b, hb => by
    simp at hb
    subst hb
    exact h.1
  | x :: bs, q, h, j + 1, b, hb => by
    have := nOk_get h.2 j b (by simpa using hb)
    rwa [show q + 1 + j = q + (j + 1) by omega] at this
theorem namesOk_of {ops : List Oper} {as : List Ac} (h : nOk (preds ops) as 0 as) : namesOk ops as := fun i j a b ha hb hne m hm hmb => by
  have h1 := nOk_get h j b hb
  rw [Nat.zero_add] at h1
  have h2 := nAll_get (nWs_get h1 m hmb) i a ha
  rw [Nat.zero_add] at h2
  rcases h2 with h2 | h2 | ⟨h2, h3⟩
  · exact absurd h2 hne
  · exact h2
  · rcases hm with hm | hm
    · exact absurd hm h2
    · exact absurd hm h3
section
variable {P : Program} {ops : List Oper} {k i : Nat} {rest : List Oper} {tm : Nat → AV} {h : AHeap} {acc : List Ac} {d : Nat} {op : Op} {ty : TypeId} {pos : String} {after : Array Edge} {v : AV} {K : (Nat → AV) → AHeap → Prop}
/-- What is left of a region whose order is drawn, walked in the text's order. -/
def DrawP (P : Program) (ops : List Oper) (k : Nat) (K : (Nat → AV) → AHeap → Prop) (i : Nat) (rest : List Oper) (tm : Nat → AV) (h : AHeap) (acc : List Ac) : Prop :=
  ∃ as tm' h', Acts P ops.toArray k i rest tm h as tm' h' ∧ nOk (preds ops) (acc ++ as) 0 (acc ++ as) ∧ K tm' h'
theorem DrawP.cons {o : Oper} {a : Ac} (ha : ActOk P ops.toArray o tm h (k + i) a) (hr : DrawP P ops k K (i + 1) rest (putA tm o.dst a.v) (ovr h a.ws) (acc ++ [a])) : DrawP P ops k K i (o :: rest) tm h acc := by
  obtain ⟨as, tm', h', h1, h2, h3⟩ := hr
  exact ⟨a :: as, tm', h', .cons a ha h1, by simpa using h2, h3⟩
theorem D_nil (hn : nOk (preds ops) acc 0 acc) (hK : K tm h) : DrawP P ops k K i [] tm h acc := ⟨[], tm, h, .nil i tm h, by simpa using hn, hK⟩
theorem D_q (ha : ∀ g : AHeap, aop P op tm g (k + i) = some (v, g, k + i)) (hr : DrawP P ops k K (i + 1) rest (upd tm d v) h (acc ++ [⟨v, [], []⟩])) : DrawP P ops k K i (⟨some d, op, ty, pos, after, none⟩ :: rest) tm h acc :=
  .cons (a := ⟨v, [], []⟩) (.inr ⟨rfl, .inl fun g _ => ⟨_, ha g, Nat.le_refl _, Nat.le_succ _⟩⟩) hr
theorem D_r (R : List Nat) (ha : ∀ g : AHeap, RdEq g h R → aop P op tm g (k + i) = some (v, g, k + i)) (hr : DrawP P ops k K (i + 1) rest (upd tm d v) h (acc ++ [⟨v, R, []⟩])) : DrawP P ops k K i (⟨some d, op, ty, pos, after, none⟩ :: rest) tm h acc :=
  .cons (a := ⟨v, R, []⟩) (.inr ⟨rfl, .inl fun g hg => ⟨_, ha g (rdEq_of hg), Nat.le_refl _, Nat.le_succ _⟩⟩) hr
theorem D_m (R : List Nat) {b : Option Blk} (ha : ∀ g : AHeap, RdEq g h R → aop P op tm g (k + i) = some (v, upd g (k + i) b, k + i + 1)) (hr : DrawP P ops k K (i + 1) rest (upd tm d v) (upd h (k + i) b) (acc ++ [⟨v, R, [(k + i, b)]⟩])) : DrawP P ops k K i (⟨some d, op, ty, pos, after, none⟩ :: rest) tm h acc :=
  .cons (a := ⟨v, R, [(k + i, b)]⟩) (.inr ⟨rfl, .inl fun g hg => ⟨_, ha g (rdEq_of hg), Nat.le_succ _, Nat.le_refl _⟩⟩) hr
theorem D_a (R : List Nat) {m : Nat} {b : Option Blk} (ha : ∀ g : AHeap, RdEq g h R → aop P op tm g (k + i) = some (v, upd (upd g m none) (k + i) b, k + i + 1)) (hr : DrawP P ops k K (i + 1) rest (upd tm d v) (upd (upd h m none) (k + i) b) (acc ++ [⟨v, R, [(m, none), (k + i, b)]⟩])) : DrawP P ops k K i (⟨some d, op, ty, pos, after, none⟩ :: rest) tm h acc :=
  .cons (a := ⟨v, R, [(m, none), (k + i, b)]⟩) (.inr ⟨rfl, .inl fun g hg => ⟨_, ha g (rdEq_of hg), Nat.le_succ _, Nat.le_refl _⟩⟩) hr
theorem D_s (R : List Nat) {m : Nat} {b : Option Blk} (ha : ∀ g : AHeap, RdEq g h R → aop P op tm g (k + i) = some (v, upd g m b, k + i)) (hr : DrawP P ops k K (i + 1) rest tm (upd h m b) (acc ++ [⟨v, R, [(m, b)]⟩])) : DrawP P ops k K i (⟨none, op, ty, pos, after, none⟩ :: rest) tm h acc :=
  .cons (a := ⟨v, R, [(m, b)]⟩) (.inr ⟨rfl, .inl fun g hg => ⟨_, ha g (rdEq_of hg), Nat.le_refl _, Nat.le_succ _⟩⟩) hr
theorem D_w (R : List Nat) {m : Nat} {b : Option Blk} (ha : ∀ g : AHeap, RdEq g h R → aop P op tm g (k + i) = some (v, upd g m b, k + i)) (hr : DrawP P ops k K (i + 1) rest (upd tm d v) (upd h m b) (acc ++ [⟨v, R, [(m, b)]⟩])) : DrawP P ops k K i (⟨some d, op, ty, pos, after, none⟩ :: rest) tm h acc :=
  .cons (a := ⟨v, R, [(m, b)]⟩) (.inr ⟨rfl, .inl fun g hg => ⟨_, ha g (rdEq_of hg), Nat.le_refl _, Nat.le_succ _⟩⟩) hr
theorem D_qG {j : Nat} {b : Bool} (hg : guardA ops.toArray tm (some (j, b)) = some true) (ha : ∀ g : AHeap, aop P op tm g (k + i) = some (v, g, k + i)) (hr : DrawP P ops k K (i + 1) rest (upd tm d v) h (acc ++ [⟨v, [], []⟩])) : DrawP P ops k K i (⟨some d, op, ty, pos, after, some (j, b)⟩ :: rest) tm h acc :=
  .cons (a := ⟨v, [], []⟩) (.inr ⟨hg, .inl fun g _ => ⟨_, ha g, Nat.le_refl _, Nat.le_succ _⟩⟩) hr
theorem D_rG (R : List Nat) {j : Nat} {b : Bool} (hg : guardA ops.toArray tm (some (j, b)) = some true) (ha : ∀ g : AHeap, RdEq g h R → aop P op tm g (k + i) = some (v, g, k + i)) (hr : DrawP P ops k K (i + 1) rest (upd tm d v) h (acc ++ [⟨v, R, []⟩])) : DrawP P ops k K i (⟨some d, op, ty, pos, after, some (j, b)⟩ :: rest) tm h acc :=
  .cons (a := ⟨v, R, []⟩) (.inr ⟨hg, .inl fun g hg => ⟨_, ha g (rdEq_of hg), Nat.le_refl _, Nat.le_succ _⟩⟩) hr
theorem D_skip {j : Nat} {b : Bool} (hg : guardA ops.toArray tm (some (j, b)) = some false) (hr : DrawP P ops k K (i + 1) rest (upd tm d (.tup [])) h (acc ++ [⟨.tup [], [], []⟩])) : DrawP P ops k K i (⟨some d, op, ty, pos, after, some (j, b)⟩ :: rest) tm h acc :=
  .cons (a := ⟨.tup [], [], []⟩) (.inl ⟨hg, rfl, rfl⟩) hr
theorem aFun_act {f : FuncId} {args : List AV} (hf : aFun P f args v) (g : AHeap) (nx : Nat) : aCalls P f args g nx (fun e h' k' => e = .ret v ∧ h' = ovr g []) := aCalls_mono (hf g nx) fun e h' k' q => ⟨q.1, q.2.1⟩
theorem D_f {c : Call} {f : FuncId} {args : List AV} (ha : calleeW tm c = some (f, args)) (hc : callable P f = true) (hf : aFun P f args v) (hr : DrawP P ops k K (i + 1) rest (upd tm d v) h (acc ++ [⟨v, [], []⟩])) : DrawP P ops k K i (⟨some d, .call c, ty, pos, after, none⟩ :: rest) tm h acc :=
  .cons (a := ⟨v, [], []⟩) (.inr ⟨rfl, .inr ⟨c, f, args, rfl, ha, hc, fun g nx _ => aFun_act hf g nx⟩⟩) hr
theorem D_fG {j : Nat} {b : Bool} {c : Call} {f : FuncId} {args : List AV} (hg : guardA ops.toArray tm (some (j, b)) = some true) (ha : calleeW tm c = some (f, args)) (hc : callable P f = true) (hf : aFun P f args v) (hr : DrawP P ops k K (i + 1) rest (upd tm d v) h (acc ++ [⟨v, [], []⟩])) : DrawP P ops k K i (⟨some d, .call c, ty, pos, after, some (j, b)⟩ :: rest) tm h acc :=
  .cons (a := ⟨v, [], []⟩) (.inr ⟨hg, .inr ⟨c, f, args, rfl, ha, hc, fun g nx _ => aFun_act hf g nx⟩⟩) hr
/-- The rule, as a walk wants it. -/
theorem W_draw {nt : Nat} {Q : AX → St → Prop} {id : Nat} {df : List ADef} (hm : P.follows .mixedOrders = true) (hok : drawOk ops = true) (hdst : ops.all (fun o => dstOk nt o.dst) = true)
    (h1 : DrawP P ops k (fun tm' h' => ∀ k', k + ops.length ≤ k' → Q .norm ⟨tm', h', k', df⟩) 0 ops tm h []) : aWp P nt (.region id ops.toArray true) Q ⟨tm, h, k, df⟩ := by
  obtain ⟨as, tm', h', h2, h3, h4⟩ := h1
  exact aWp_draw hm hok hdst h2 (namesOk_of (by simpa using h3)) h4
end
end Go.Proofs.Ytcnofpoffdjbpaa.AE
