/- Helpers for walks: ranges, shifts. -/
import Derived.Test.YthkjahoebkicbaaBM
import Derived.Test.YthkjahoebkicbaaOct
import Derived.Test.YthkjahoebkicbaaCrc
import Derived.Test.YthkjahoebkicbaaTF
namespace Go.Proofs.Ythkjahoebkicbaa.AE
open Go Go.RowKit Go.Proofs Go.Proofs.Ythkjahoebkicbaa
set_option linter.unusedVariables false
theorem inU64 {n : Int} (h : InR .u64 n) : 0 ≤ n ∧ n < 18446744073709551616 := by
  obtain ⟨h1, h2⟩ := h
  simp [IntKind.min, IntKind.max, IntKind.signed, IntKind.bits] at h1 h2
  omega
theorem inU32 {n : Int} (h : InR .u32 n) : 0 ≤ n ∧ n < 4294967296 := by
  obtain ⟨h1, h2⟩ := h
  simp [IntKind.min, IntKind.max, IntKind.signed, IntKind.bits] at h1 h2
  omega
theorem inU8 {n : Int} (h : InR .u8 n) : 0 ≤ n ∧ n < 256 := by
  obtain ⟨h1, h2⟩ := h
  simp [IntKind.min, IntKind.max, IntKind.signed, IntKind.bits] at h1 h2
  omega
theorem inI64 {n : Int} (h : InR .i64 n) : -9223372036854775808 ≤ n ∧ n < 9223372036854775808 := by
  obtain ⟨h1, h2⟩ := h
  simp [IntKind.min, IntKind.max, IntKind.signed, IntKind.bits] at h1 h2
  omega
theorem Real.num {k : IntKind} {l : List Int} (h : Real (.sl (numB k l))) : l.length < 4611686018427387904 ∧ ∀ n ∈ l, InR k n := by
  obtain ⟨h1, h2⟩ := h.sl
  simp [numB, big] at h1
  exact ⟨h1, fun n hn => (h2 [.int k n] (by simp only [numB, List.mem_map]; exact ⟨n, hn, rfl⟩) (.int k n) (by simp)).int⟩
theorem Real.BY {l : List Int} (h : Real (.sl (numB .u8 l))) : Pl.BY l := fun n hn => inU8 (h.num.2 n hn)
theorem shrU64 {n : Int} {k : Nat} (hk : k ≤ 8) : n.fdiv (2 ^ (min (8 * (k : Int)).toNat IntKind.u64.bits)) = n / 256 ^ k := by
  have h1 : min (8 * (k : Int)).toNat IntKind.u64.bits = 8 * k := by simp [IntKind.bits]; omega
  rw [h1, Pl.two_256, Int.fdiv_eq_ediv_of_nonneg _ (by have : (0 : Int) < 256 ^ k := Int.pow_pos (by decide); omega)]
theorem wrapB_mod (n : Int) : IntKind.u8.wrap n = n % 256 := by simp [IntKind.wrap, IntKind.signed, IntKind.bits]
theorem num_sz (k : IntKind) (l : List Int) : (numB k l).all (fun e => e.length == 1) = true := by simp [numB]
theorem putI_take (k : Nat) (n : Int) : (Pl.putI k n).take k = Pl.putI k n := List.take_of_length_le (by rw [Pl.putI_length]; omega)
theorem numB_get (k : IntKind) (l : List Int) (i : Nat) (x : Int) (h : l[i]? = some x) : (numB k l)[i]? = some [.int k x] := by simp [numB, h]
theorem numB_len (k : IntKind) (l : List Int) : (numB k l).length = l.length := by simp [numB]
theorem take_len {α : Type} (l : List α) (n : Nat) (h : l.length = n) : l.take n = l := List.take_of_length_le (by omega)
section
variable {P : Program} {nt : Nat} {Q : AX → St → Prop} {ops : Array Oper} {rest : List Oper} {tm : Nat → AV} {h : AHeap} {k : Nat} {df : List ADef} {ty : TypeId} {pos : String} {after : Array Edge} {d : Nat} {v : AV}
/-! the same rules, the callee's number looked at first -/
theorem Q_fun {c : Call} {f : FuncId} {args : List AV} (h0 : c.callee = .value (.func f)) (hd : decide (d < nt) = true) (ha : calleeW tm c = some (f, args)) (hc : callable P f = true) (hf : aFun P f args v) (hr : ∀ k', k ≤ k' → aOps P nt ops rest Q ⟨upd tm d v, h, k', df⟩) :
    aOps P nt ops (⟨some d, .call c, ty, pos, after, none⟩ :: rest) Q ⟨tm, h, k, df⟩ := W_fun hd ha hc hf hr
theorem Q_funG {c : Call} {f : FuncId} {args : List AV} {j : Nat} {b : Bool} (h0 : c.callee = .value (.func f)) (hg : guardA ops tm (some (j, b)) = some true) (hd : decide (d < nt) = true) (ha : calleeW tm c = some (f, args)) (hc : callable P f = true) (hf : aFun P f args v) (hr : ∀ k', k ≤ k' → aOps P nt ops rest Q ⟨upd tm d v, h, k', df⟩) :
    aOps P nt ops (⟨some d, .call c, ty, pos, after, some (j, b)⟩ :: rest) Q ⟨tm, h, k, df⟩ := W_funG hg hd ha hc hf hr
theorem Q_own {c : Call} {f : FuncId} {args : List AV} {sz : Nat} {es : List (List AV)} (h0 : c.callee = .value (.func f)) (hd : decide (d < nt) = true) (ha : calleeW tm c = some (f, args)) (hc : callable P f = true) (hf : aOwn P f args sz es) (hr : ∀ m k', k ≤ m → m < k' → aOps P nt ops rest Q ⟨upd tm d (.hs m 0 es.length), upd h m (some ⟨sz, es⟩), k', df⟩) :
    aOps P nt ops (⟨some d, .call c, ty, pos, after, none⟩ :: rest) Q ⟨tm, h, k, df⟩ := W_own hd ha hc hf hr
theorem Q_ownM {c : Call} {f : FuncId} {args : List AV} {mk : AV → AV} {sz : Nat} {es : List (List AV)} (h0 : c.callee = .value (.func f)) (hd : decide (d < nt) = true) (ha : calleeW tm c = some (f, args)) (hc : callable P f = true) (hf : aOwnM P f args mk sz es) (hr : ∀ m k', k ≤ m → m < k' → aOps P nt ops rest Q ⟨upd tm d (mk (.hs m 0 es.length)), upd h m (some ⟨sz, es⟩), k', df⟩) :
    aOps P nt ops (⟨some d, .call c, ty, pos, after, none⟩ :: rest) Q ⟨tm, h, k, df⟩ := W_ownM hd ha hc hf hr
end
section
variable {P : Program} {ops : List Oper} {k i : Nat} {rest : List Oper} {tm : Nat → AV} {h : AHeap} {acc : List Ac} {d : Nat} {ty : TypeId} {pos : String} {after : Array Edge} {v : AV} {K : (Nat → AV) → AHeap → Prop}
theorem Q_f {c : Call} {f : FuncId} {args : List AV} (h0 : c.callee = .value (.func f)) (ha : calleeW tm c = some (f, args)) (hc : callable P f = true) (hf : aFun P f args v) (hr : DrawP P ops k K (i + 1) rest (upd tm d v) h (acc ++ [⟨v, [], []⟩])) : DrawP P ops k K i (⟨some d, .call c, ty, pos, after, none⟩ :: rest) tm h acc := D_f ha hc hf hr
theorem Q_fG {j : Nat} {b : Bool} {c : Call} {f : FuncId} {args : List AV} (h0 : c.callee = .value (.func f)) (hg : guardA ops.toArray tm (some (j, b)) = some true) (ha : calleeW tm c = some (f, args)) (hc : callable P f = true) (hf : aFun P f args v) (hr : DrawP P ops k K (i + 1) rest (upd tm d v) h (acc ++ [⟨v, [], []⟩])) : DrawP P ops k K i (⟨some d, .call c, ty, pos, after, some (j, b)⟩ :: rest) tm h acc := D_fG hg ha hc hf hr
end

/-! ### the same rules, in short: FX is what is known -/
/-- What is known. -/
structure Fx (p : Prop) : Prop where
  out : p
theorem Fx0 : Fx (∀ α : Type, ([] : List α).length = 0) := ⟨fun _ => rfl⟩
theorem cl_ {p : Prop} (h : p := by first | rfl | (simp (disch := first | rfl | decide | omega | assumption | (simp only [LL]; omega)) only [WS, NB, WY, FX.out]; first | done | rfl)) : p := h
theorem cr_ {p : Prop} (h : p := by first | rfl | (simp (disch := first | rfl | decide | omega | assumption | (simp only [LL]; omega)) only [WS, NB, WY, RES, FX.out]; first | done | rfl)) : p := h
theorem ha_ {n : Nat} {h0 h : AHeap} (hh : HAgree n h0 h := by intro m hm; first | rfl | (simp (disch := first | assumption | omega) only [upd_ne, FX.out]; first | done | rfl)) : HAgree n h0 h := hh
section
variable {P : Program} {nt : Nat} {Q Q' : AX → St → Prop} {ops : Array Oper} {rest : List Oper} {tm : Nat → AV} {h h' : AHeap} {k k' : Nat} {df : List ADef} {op : Op} {ty : TypeId} {pos : String} {after : Array Edge} {d : Nat} {v : AV} {guard : Option (Nat × Bool)} {c : Code} {st : St}
theorem v_ (hr : aOps P nt ops rest Q ⟨upd tm d v, h', k', df⟩) (hg : guardA ops tm guard = some true := by first | rfl | (simp (disch := first | rfl | decide | omega | assumption | (simp only [LL]; omega)) only [WS, NB, WY, FX.out]; first | done | rfl)) (hd : decide (d < nt) = true := by rfl) (ha : aop P op tm h k = some (v, h', k') := by simp (disch := first | rfl | decide | omega | assumption | (simp only [LL]; omega)) only [WS, NB, WY, FX.out]; first | done | rfl) (hk : k ≤ k' := by first | exact Nat.le_refl _ | exact Nat.le_succ _) :
    aOps P nt ops (⟨some d, op, ty, pos, after, guard⟩ :: rest) Q ⟨tm, h, k, df⟩ := aOps_val hg hd ha hk hr
theorem u_ (hr : aOps P nt ops rest Q ⟨tm, h', k, df⟩) (ha : aop P op tm h k = some (v, h', k) := by simp (disch := first | rfl | decide | omega | assumption | (simp only [LL]; omega)) only [WS, NB, WY, FX.out]; first | done | rfl) : aOps P nt ops (⟨none, op, ty, pos, after, none⟩ :: rest) Q ⟨tm, h, k, df⟩ := W_unit ha hr
theorem k_ {j : Nat} {b : Bool} (hr : aOps P nt ops rest Q ⟨upd tm d (.tup []), h, k, df⟩) (hg : guardA ops tm (some (j, b)) = some false := by first | rfl | (simp (disch := first | rfl | decide | omega | assumption | (simp only [LL]; omega)) only [WS, NB, WY, FX.out]; first | done | rfl)) (hd : decide (d < nt) = true := by rfl) : aOps P nt ops (⟨some d, op, ty, pos, after, some (j, b)⟩ :: rest) Q ⟨tm, h, k, df⟩ := W_skip hg hd hr
theorem nl_ (hr : aWp P nt c Q ⟨tm, h, k, df⟩) : aOps P nt ops [] (AX.andThen (aWp P nt c Q) Q') ⟨tm, h, k, df⟩ := W_nil hr
theorem nz_ (hr : Q .norm ⟨tm, h, k, df⟩) : aOps P nt ops [] Q ⟨tm, h, k, df⟩ := W_nil hr
theorem sq_ {x y : Code} (hr : aWp P nt x (AX.andThen (aWp P nt y Q) Q) st) : aWp P nt (.seq x y) Q st := aWp_seq hr
theorem rg_ {id : Nat} {l : List Oper} (hr : aOps P nt l.toArray l Q st) : aWp P nt (.region id l.toArray false) Q st := aWp_region hr
theorem ct_ {x y : Code} {o : Operand} (hr : aWp P nt x Q st) (hc : evA st.tm o = .bool true := by first | rfl | (simp (disch := first | rfl | decide | omega | assumption | (simp only [LL]; omega)) only [WS, NB, WY, FX.out]; first | done | rfl)) : aWp P nt (.cond o x y) Q st := aWp_cond_t hc hr
theorem cf_ {x y : Code} {o : Operand} (hr : aWp P nt y Q st) (hc : evA st.tm o = .bool false := by first | rfl | (simp (disch := first | rfl | decide | omega | assumption | (simp only [LL]; omega)) only [WS, NB, WY, FX.out]; first | done | rfl)) : aWp P nt (.cond o x y) Q st := aWp_cond_f hc hr
theorem bk_ {id : Nat} (hr : aWp P nt c (AX.inBlock id Q) st) : aWp P nt (.block id c) Q st := aWp_block hr
theorem sc_ (hr : aWp P nt c (AX.noGoto Q) st) : aWp P nt (.scope c) Q st := aWp_scope hr
theorem sk_ (hr : Q .norm st) : aWp P nt .skip Q st := aWp_skip hr
theorem ex_ {id : Nat} (hr : Q (.ex id) st) : aWp P nt (.exit id) Q st := aWp_exit hr
theorem rt_ (hr : Q .ret st) : aWp P nt .ret Q st := aWp_ret hr
end
section
variable {P : Program} {nt : Nat} {Q : AX → St → Prop} {ops : Array Oper} {rest : List Oper} {tm : Nat → AV} {h : AHeap} {k : Nat} {df : List ADef} {ty : TypeId} {pos : String} {after : Array Edge} {d : Nat} {v : AV} {guard : Option (Nat × Bool)} {c : Call} {f : FuncId} {args : List AV}
theorem f_ (hf : aFun P f args v) (hr : ∀ k', k ≤ k' → aOps P nt ops rest Q ⟨upd tm d v, h, k', df⟩) (h0 : c.callee = .value (.func f) := by rfl) (hg : guardA ops tm guard = some true := by first | rfl | (simp (disch := first | rfl | decide | omega | assumption | (simp only [LL]; omega)) only [WS, NB, WY, FX.out]; first | done | rfl)) (hd : decide (d < nt) = true := by rfl) (ha : calleeW tm c = some (f, args) := by first | rfl | (simp (disch := first | rfl | decide | omega | assumption | (simp only [LL]; omega)) only [WS, NB, WY, FX.out]; first | done | rfl)) (hc : callable P f = true := by simp only [WS]) :
    aOps P nt ops (⟨some d, .call c, ty, pos, after, guard⟩ :: rest) Q ⟨tm, h, k, df⟩ := aOps_fun hg hd rfl ha hc hf hr
theorem o_ {sz : Nat} {es : List (List AV)} (hf : aOwn P f args sz es) (hr : ∀ m k', k ≤ m → m < k' → aOps P nt ops rest Q ⟨upd tm d (.hs m 0 es.length), upd h m (some ⟨sz, es⟩), k', df⟩) (h0 : c.callee = .value (.func f) := by rfl) (hd : decide (d < nt) = true := by rfl) (ha : calleeW tm c = some (f, args) := by first | rfl | (simp (disch := first | rfl | decide | omega | assumption | (simp only [LL]; omega)) only [WS, NB, WY, FX.out]; first | done | rfl)) (hc : callable P f = true := by simp only [WS]) :
    aOps P nt ops (⟨some d, .call c, ty, pos, after, none⟩ :: rest) Q ⟨tm, h, k, df⟩ := W_own hd ha hc hf hr
theorem oa_ {sz : Nat} {es : List (List AV)} (hf : aOwn P f args sz es) (hr : ∀ m k', k ≤ m → m < k' → aOps P nt ops rest Q ⟨upd tm d (.hs m 0 es.length), upd h m (some ⟨sz, es⟩), k', df⟩) (h0 : c.callee = .value (.func f) := by rfl) (hd : decide (d < nt) = true := by rfl) (ha : calleeA tm c = some (f, args) := by first | rfl | (simp (disch := first | rfl | decide | omega | assumption | (simp only [LL]; omega)) only [WS, NB, WY, FX.out]; first | done | rfl)) (hc : callable P f = true := by simp only [WS]) :
    aOps P nt ops (⟨some d, .call c, ty, pos, after, none⟩ :: rest) Q ⟨tm, h, k, df⟩ := W_ownA hd ha hc hf hr
theorem om_ {mk : AV → AV} {sz : Nat} {es : List (List AV)} (hf : aOwnM P f args mk sz es) (hr : ∀ m k', k ≤ m → m < k' → aOps P nt ops rest Q ⟨upd tm d (mk (.hs m 0 es.length)), upd h m (some ⟨sz, es⟩), k', df⟩) (h0 : c.callee = .value (.func f) := by rfl) (hd : decide (d < nt) = true := by rfl) (ha : calleeW tm c = some (f, args) := by first | rfl | (simp (disch := first | rfl | decide | omega | assumption | (simp only [LL]; omega)) only [WS, NB, WY, FX.out]; first | done | rfl)) (hc : callable P f = true := by simp only [WS]) :
    aOps P nt ops (⟨some d, .call c, ty, pos, after, none⟩ :: rest) Q ⟨tm, h, k, df⟩ := W_ownM hd ha hc hf hr
theorem o2_ {mk : AV → AV → AV} {sz1 sz2 : Nat} {es1 es2 : List (List AV)} (hf : aOwn2 P f args mk sz1 es1 sz2 es2) (hr : ∀ m1 m2 k', k ≤ m1 ∧ k ≤ m2 ∧ m1 ≠ m2 ∧ m1 < k' ∧ m2 < k' → aOps P nt ops rest Q ⟨upd tm d (mk (.hs m1 0 es1.length) (.hs m2 0 es2.length)), upd (upd h m1 (some ⟨sz1, es1⟩)) m2 (some ⟨sz2, es2⟩), k', df⟩) (h0 : c.callee = .value (.func f) := by rfl) (hd : decide (d < nt) = true := by rfl) (ha : calleeW tm c = some (f, args) := by first | rfl | (simp (disch := first | rfl | decide | omega | assumption | (simp only [LL]; omega)) only [WS, NB, WY, FX.out]; first | done | rfl)) (hc : callable P f = true := by simp only [WS]) :
    aOps P nt ops (⟨some d, .call c, ty, pos, after, none⟩ :: rest) Q ⟨tm, h, k, df⟩ := W_own2 hd ha hc hf hr
theorem e_ {h2 : AHeap} (hf : aEff P f args h k v h2) (hr : ∀ k', k ≤ k' → aOps P nt ops rest Q ⟨upd tm d v, h2, k', df⟩) (h0 : c.callee = .value (.func f) := by rfl) (hg : guardA ops tm guard = some true := by first | rfl | (simp (disch := first | rfl | decide | omega | assumption | (simp only [LL]; omega)) only [WS, NB, WY, FX.out]; first | done | rfl)) (hd : decide (d < nt) = true := by rfl) (ha : calleeA tm c = some (f, args) := by first | rfl | (simp (disch := first | rfl | decide | omega | assumption | (simp only [LL]; omega)) only [WS, NB, WY, FX.out]; first | done | rfl)) (hc : callable P f = true := by first | simp only [WS] | assumption) :
    aOps P nt ops (⟨some d, .call c, ty, pos, after, guard⟩ :: rest) Q ⟨tm, h, k, df⟩ := aOps_call hg hd rfl ha hc hf (fun a h' k' ⟨e1, e2, e3⟩ => by cases e1; subst e2; exact hr k' e3) (fun a h' k' ⟨e1, _⟩ => by cases e1)
theorem t_ (hf : aFun P f args v) (hr : ∀ k', k ≤ k' → aOps P nt ops rest Q ⟨upd tm d v, h, k', df⟩) (h0 : c.callee = .value (.func f) := by rfl) (hd : decide (d < nt) = true := by rfl) (ha : calleeT h tm c = some (f, args) := by first | rfl | (simp (disch := first | rfl | decide | omega | assumption | (simp only [LL]; omega)) only [WS, NB, WY, FX.out]; first | done | rfl)) (hp : plainV v = true := by rfl) (hc : callable P f = true := by simp only [WS]) :
    aOps P nt ops (⟨some d, .call c, ty, pos, after, none⟩ :: rest) Q ⟨tm, h, k, df⟩ := W_told hd ha hc hf hp hr
/-- A call that does whatever R says. -/
theorem R_ {R : AEnd → AHeap → Nat → Prop} (hf : aCalls P f args h k R) (hp : ∀ a h' k', ¬ R (.pan a) h' k') (hr : ∀ a h' k', R (.ret a) h' k' → aOps P nt ops rest Q ⟨upd tm d a, h', k', df⟩) (h0 : c.callee = .value (.func f) := by rfl) (hg : guardA ops tm guard = some true := by first | rfl | (simp (disch := first | rfl | decide | omega | assumption | (simp only [LL]; omega)) only [WS, NB, WY, FX.out]; first | done | rfl)) (hd : decide (d < nt) = true := by rfl) (ha : calleeA tm c = some (f, args) := by first | rfl | (simp (disch := first | rfl | decide | omega | assumption | (simp only [LL]; omega)) only [WS, NB, WY, FX.out]; first | done | rfl)) (hc : callable P f = true := by simp only [WS]) :
    aOps P nt ops (⟨some d, .call c, ty, pos, after, guard⟩ :: rest) Q ⟨tm, h, k, df⟩ := aOps_call hg hd rfl ha hc hf hr (fun a h' k' q => absurd q (hp a h' k'))
end
section
variable {P : Program} {ops : List Oper} {k i : Nat} {rest : List Oper} {tm : Nat → AV} {h : AHeap} {acc : List Ac} {d : Nat} {op : Op} {ty : TypeId} {pos : String} {after : Array Edge} {v : AV} {K : (Nat → AV) → AHeap → Prop} {guard : Option (Nat × Bool)} {c : Call} {f : FuncId} {args : List AV} {m : Nat} {b : Option Blk}
theorem dq_ (hr : DrawP P ops k K (i + 1) rest (upd tm d v) h (acc ++ [⟨v, [], []⟩])) (hg : guardA ops.toArray tm guard = some true := by first | rfl | (simp (disch := first | rfl | decide | omega | assumption | (simp only [LL]; omega)) only [WS, NB, WY, FX.out]; first | done | rfl)) (ha : ∀ g : AHeap, aop P op tm g (k + i) = some (v, g, k + i) := by intro g; simp (disch := first | rfl | decide | omega | assumption | (simp only [LL]; omega)) only [WS, NB, WY, FX.out]; first | done | rfl) : DrawP P ops k K i (⟨some d, op, ty, pos, after, guard⟩ :: rest) tm h acc :=
  .cons (a := ⟨v, [], []⟩) (.inr ⟨hg, .inl fun g _ => ⟨_, ha g, Nat.le_refl _, Nat.le_succ _⟩⟩) hr
theorem dr_ (R : List Nat) (hr : DrawP P ops k K (i + 1) rest (upd tm d v) h (acc ++ [⟨v, R, []⟩])) (hg : guardA ops.toArray tm guard = some true := by first | rfl | (simp (disch := first | rfl | decide | omega | assumption | (simp only [LL]; omega)) only [WS, NB, WY, FX.out]; first | done | rfl)) (ha : ∀ g : AHeap, RdEq g h R → aop P op tm g (k + i) = some (v, g, k + i) := by intro g hq; simp only [RdEq] at hq; simp (disch := first | rfl | decide | omega | assumption | (simp only [LL]; omega)) only [WS, NB, WY, FX.out, hq]; first | done | rfl) : DrawP P ops k K i (⟨some d, op, ty, pos, after, guard⟩ :: rest) tm h acc :=
  .cons (a := ⟨v, R, []⟩) (.inr ⟨hg, .inl fun g hg => ⟨_, ha g (rdEq_of hg), Nat.le_refl _, Nat.le_succ _⟩⟩) hr
theorem dm_ (R : List Nat) (hr : DrawP P ops k K (i + 1) rest (upd tm d v) (upd h (k + i) b) (acc ++ [⟨v, R, [(k + i, b)]⟩])) (ha : ∀ g : AHeap, RdEq g h R → aop P op tm g (k + i) = some (v, upd g (k + i) b, k + i + 1) := by intro g hq; simp only [RdEq] at hq; simp (disch := first | rfl | decide | omega | assumption | (simp only [LL]; omega)) only [WS, NB, WY, FX.out, hq]; first | done | rfl) : DrawP P ops k K i (⟨some d, op, ty, pos, after, none⟩ :: rest) tm h acc := D_m R ha hr
theorem da_ (R : List Nat) (hr : DrawP P ops k K (i + 1) rest (upd tm d v) (upd (upd h m none) (k + i) b) (acc ++ [⟨v, R, [(m, none), (k + i, b)]⟩])) (ha : ∀ g : AHeap, RdEq g h R → aop P op tm g (k + i) = some (v, upd (upd g m none) (k + i) b, k + i + 1) := by intro g hq; simp only [RdEq] at hq; simp (disch := first | rfl | decide | omega | assumption | (simp only [LL]; omega)) only [WS, NB, WY, FX.out, hq]; first | done | rfl) : DrawP P ops k K i (⟨some d, op, ty, pos, after, none⟩ :: rest) tm h acc := D_a R ha hr
theorem ds_ (R : List Nat) (hr : DrawP P ops k K (i + 1) rest tm (upd h m b) (acc ++ [⟨v, R, [(m, b)]⟩])) (ha : ∀ g : AHeap, RdEq g h R → aop P op tm g (k + i) = some (v, upd g m b, k + i) := by intro g hq; simp only [RdEq] at hq; simp (disch := first | rfl | decide | omega | assumption | (simp only [LL]; omega)) only [WS, NB, WY, FX.out, hq]; first | done | rfl) : DrawP P ops k K i (⟨none, op, ty, pos, after, none⟩ :: rest) tm h acc := D_s R ha hr
theorem dz_ (d : Nat) (R : List Nat) {sz n : Nat} {es : List (List AV)} (hr : DrawP P ops k K (i + 1) rest (upd tm d (.sl es)) h (acc ++ [⟨.sl es, R, []⟩])) (hg : guardA ops.toArray tm guard = some true := by exact cl_) (ha : ∀ g : AHeap, RdEq g h R → aop P op tm g (k + i) = some (.hs (k + i) 0 n, upd g (k + i) (some ⟨sz, es⟩), k + i + 1) := by intro g hq; simp only [RdEq] at hq; simp (disch := first | rfl | decide | omega | assumption | (simp only [LL]; omega)) only [WS, NB, WY, FX.out, hq]; first | done | rfl) (hn : n = es.length := by exact cl_) : DrawP P ops k K i (⟨some d, op, ty, pos, after, guard⟩ :: rest) tm h acc :=
  .cons (a := ⟨.sl es, R, []⟩) (.inr ⟨hg, .inr (.inr (.inr ⟨sz, es, rfl, rfl, fun g hq => hn ▸ ha g (rdEq_of hq)⟩))⟩) hr
theorem dw_ (R : List Nat) (hr : DrawP P ops k K (i + 1) rest (upd tm d v) (upd h m b) (acc ++ [⟨v, R, [(m, b)]⟩])) (ha : ∀ g : AHeap, RdEq g h R → aop P op tm g (k + i) = some (v, upd g m b, k + i) := by intro g hq; simp only [RdEq] at hq; simp (disch := first | rfl | decide | omega | assumption | (simp only [LL]; omega)) only [WS, NB, WY, FX.out, hq]; first | done | rfl) : DrawP P ops k K i (⟨some d, op, ty, pos, after, none⟩ :: rest) tm h acc := D_w R ha hr
theorem dk_ {j : Nat} {b : Bool} (hr : DrawP P ops k K (i + 1) rest (upd tm d (.tup [])) h (acc ++ [⟨.tup [], [], []⟩])) (hg : guardA ops.toArray tm (some (j, b)) = some false := by first | rfl | (simp (disch := first | rfl | decide | omega | assumption | (simp only [LL]; omega)) only [WS, NB, WY, FX.out]; first | done | rfl)) : DrawP P ops k K i (⟨some d, op, ty, pos, after, some (j, b)⟩ :: rest) tm h acc := D_skip hg hr
theorem df_ (hf : aFun P f args v) (hr : DrawP P ops k K (i + 1) rest (upd tm d v) h (acc ++ [⟨v, [], []⟩])) (h0 : c.callee = .value (.func f) := by rfl) (hg : guardA ops.toArray tm guard = some true := by first | rfl | (simp (disch := first | rfl | decide | omega | assumption | (simp only [LL]; omega)) only [WS, NB, WY, FX.out]; first | done | rfl)) (ha : calleeW tm c = some (f, args) := by first | rfl | (simp (disch := first | rfl | decide | omega | assumption | (simp only [LL]; omega)) only [WS, NB, WY, FX.out]; first | done | rfl)) (hc : callable P f = true := by simp only [WS]) : DrawP P ops k K i (⟨some d, .call c, ty, pos, after, guard⟩ :: rest) tm h acc :=
  .cons (a := ⟨v, [], []⟩) (.inr ⟨hg, .inr (.inl ⟨c, f, args, rfl, ha, hc, fun g nx _ => aFun_act hf g nx⟩)⟩) hr
theorem do_ {sz : Nat} {es : List (List AV)} (hf : ∀ (g : AHeap) (nx : Nat), aCalls P f args g nx (fun e h' k' => ∃ m, e = .ret (.hs m 0 es.length) ∧ h' = upd g m (some ⟨sz, es⟩) ∧ nx ≤ m ∧ m < k'))
    (hr : DrawP P ops k K (i + 1) rest (upd tm d (.hs (k + i) 0 es.length)) (upd h (k + i) (some ⟨sz, es⟩)) (acc ++ [⟨.hs (k + i) 0 es.length, [], [(k + i, some ⟨sz, es⟩)]⟩])) (h0 : c.callee = .value (.func f) := by rfl) (ha : calleeW tm c = some (f, args) := by first | rfl | (simp (disch := first | rfl | decide | omega | assumption | (simp only [LL]; omega)) only [WS, NB, WY, FX.out]; first | done | rfl)) (hc : callable P f = true := by simp only [WS]) : DrawP P ops k K i (⟨some d, .call c, ty, pos, after, none⟩ :: rest) tm h acc := D_o ha hc hf hr
theorem dn_ (hK : K tm h) (hn : nOk (preds ops) acc 0 acc := by simp only [List.nil_append, List.cons_append]; repeat' (first | exact True.intro | exact .inl rfl | exact .inr (.inl rfl) | exact .inr (.inr ⟨by simp <;> omega, by simp <;> omega⟩) | exact .inr (.inr ⟨by simp, by simp⟩) | refine ⟨?_, ?_⟩)) : DrawP P ops k K i [] tm h acc := D_nil hn hK
end
section
variable {P : Program} {tm : Nat → AV} {h h0 : AHeap} {k nx : Nat} {a v : AV} {rs : List ResultVar} {fn : Func}
theorem end_ (hrs : fn.results = rs.toArray) (hk : nx ≤ k := by omega) (hh : HAgree nx h0 h := by exact ha_) (hr : resA P ⟨tm, h, k, []⟩ rs = some a := by first | rfl | (simp (disch := first | rfl | decide | omega | assumption | (simp only [LL]; omega)) only [WS, NB, WY, RES, FX.out]; first | done | rfl)) (hf : frzV nx h a = some v := by first | rfl | (simp (disch := first | rfl | decide | omega | assumption | (simp only [LL]; omega)) only [WS, NB, WY, FY, FX.out]; first | done | rfl)) : endQ P fn nx h0 v .ret ⟨tm, h, k, []⟩ := W_end hk hh (by rw [hrs]) hr hf
theorem endo_ {sz : Nat} {es rest : List (List AV)} (m : Nat) (hrs : fn.results = rs.toArray) (hr : resA P ⟨tm, h, k, []⟩ rs = some (.hs m 0 es.length) := by first | rfl | (simp (disch := first | rfl | decide | omega | assumption | (simp only [LL]; omega)) only [WS, NB, WY, RES, FX.out]; first | done | rfl)) (h3 : h m = some ⟨sz, es ++ rest⟩ := by first | rfl | (simp (disch := first | rfl | decide | omega | assumption | (simp only [LL]; omega)) only [WS, NB, WY, FX.out, List.append_nil]; first | done | rfl)) (hk : nx ≤ k := by omega) (hh : HAgree nx h0 h := by exact ha_) (h1 : nx ≤ m := by omega) (h2 : m < k := by omega) : endOwnQ P fn nx h0 sz es .ret ⟨tm, h, k, []⟩ :=
  W_endOwn hk hh (by rw [hrs]) hr (.inl ⟨m, rest, rfl, h1, h2, h3⟩)
theorem endm_ {mk : AV → AV} {sz : Nat} {es : List (List AV)} (m : Nat) (hrs : fn.results = rs.toArray) (hr : resA P ⟨tm, h, k, []⟩ rs = some (mk (.hs m 0 es.length)) := by first | rfl | (simp (disch := first | rfl | decide | omega | assumption | (simp only [LL]; omega)) only [WS, NB, WY, RES, FX.out]; first | done | rfl)) (h3 : h m = some ⟨sz, es⟩ := by first | rfl | (simp (disch := first | rfl | decide | omega | assumption | (simp only [LL]; omega)) only [WS, NB, WY, FX.out]; first | done | rfl)) (hk : nx ≤ k := by omega) (hh : HAgree nx h0 h := by exact ha_) (h1 : nx ≤ m := by omega) (h2 : m < k := by omega) : endOwnM P fn nx h0 mk sz es .ret ⟨tm, h, k, []⟩ :=
  W_endOwnM m hk hh (by rw [hrs]) hr h1 h2 h3
theorem end2_ {mk : AV → AV → AV} {sz1 sz2 : Nat} {es1 es2 : List (List AV)} (m1 m2 : Nat) (hrs : fn.results = rs.toArray) (hr : resA P ⟨tm, h, k, []⟩ rs = some (mk (.hs m1 0 es1.length) (.hs m2 0 es2.length)) := by first | rfl | (simp (disch := first | rfl | decide | omega | assumption | (simp only [LL]; omega)) only [WS, NB, WY, RES, FX.out]; first | done | rfl)) (h3 : h m1 = some ⟨sz1, es1⟩ := by first | rfl | (simp (disch := first | rfl | decide | omega | assumption | (simp only [LL]; omega)) only [WS, NB, WY, FX.out]; first | done | rfl)) (h4 : h m2 = some ⟨sz2, es2⟩ := by first | rfl | (simp (disch := first | rfl | decide | omega | assumption | (simp only [LL]; omega)) only [WS, NB, WY, FX.out]; first | done | rfl)) (hk : nx ≤ k := by omega) (hh : HAgree nx h0 h := by exact ha_)
    (h1 : nx ≤ m1 ∧ nx ≤ m2 ∧ m1 ≠ m2 ∧ m1 < k ∧ m2 < k := by refine ⟨?_, ?_, ?_, ?_, ?_⟩ <;> (first | omega | (simp only []; omega))) : endOwn2 P fn nx h0 mk sz1 es1 sz2 es2 .ret ⟨tm, h, k, []⟩ := W_endOwn2 m1 m2 hk hh (by rw [hrs]) hr h1 h3 h4
end
section
variable {P : Program} {nt : Nat} {Q : AX → St → Prop} {tm : Nat → AV} {h : AHeap} {k : Nat} {df : List ADef} {b : Blk}
theorem fz_ {ops : Array Oper} {l : List Oper} (t : Nat) {n off len : Nat} (hr : aOps P nt ops l Q ⟨upd tm t (.sl ((b.es.drop off).take len)), upd h n none, k, df⟩) (ht : tm t = .hs n off len := by first | rfl | (simp (disch := first | rfl | decide | omega | assumption | (simp only [LL]; omega)) only [WS, NB, WY, FX.out]; first | done | rfl)) (hn : h n = some b := by first | rfl | (simp (disch := first | rfl | decide | omega | assumption | (simp only [LL]; omega)) only [WS, NB, WY, FX.out]; first | done | rfl)) (hl : off + len ≤ b.es.length := by first | omega | (simp (disch := first | rfl | decide | omega | assumption | (simp only [LL]; omega)) only [WS, NB, WY, FX.out]; first | done | omega)) : aOps P nt ops l Q ⟨tm, h, k, df⟩ := W_freeze t ht hn hl hr
theorem fi_ {ops l : List Oper} (t n : Nat) {cs : List AV} (hr : aOps P nt ops.toArray l Q ⟨upd tm t (.agg (cs.map (frzN n b))), upd h n none, k, df⟩) (ht : tm t = .agg cs := by first | rfl | (simp (disch := first | rfl | decide | omega | assumption | (simp only [LL]; omega)) only [WS, NB, WY, FX.out]; first | done | rfl)) (hn : h n = some b := by first | rfl | (simp (disch := first | rfl | decide | omega | assumption | (simp only [LL]; omega)) only [WS, NB, WY, FX.out]; first | done | rfl)) : aOps P nt ops.toArray l Q ⟨tm, h, k, df⟩ := W_freezeIn t n ht hn hr
end
end Go.Proofs.Ythkjahoebkicbaa.AE
