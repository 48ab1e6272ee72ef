/- Texts BM. -/
import Derived.Test.YtjidgdfdeckofaaDoorAM
import Derived.Orders
import Derived.Laws.Cover3
import Derived.Laws.Pointers
/- The abstract walk: rules, rewrite rules, regions that draw their order, owned rows. No program in sight. -/
/- The rules by which a walk on abstract values goes. No program in sight. -/
namespace Go.Proofs.YtjidgdfdeckofaaDoor.AE
open Go Go.RowKit
set_option linter.unusedVariables false
set_option linter.unusedSimpArgs false
section
variable {P : Program} {nt : Nat} {Q : AX → St → Prop} {ops : Array Oper} {rest : List Oper} {tm : Nat → AV} {h h' : AHeap} {k k' : Nat} {df : List ADef} {op : Op} {ty : TypeId} {pos : String} {after : Array Edge} {d : Nat} {v : AV}
/-- An operation that answers. -/
theorem W_val [ρ : Rnd] (hd : decide (d < nt) = true) (ha : aop P op tm h k = some (v, h', k')) (hk : k ≤ k') (hr : aOps P nt ops rest Q ⟨upd tm d v, h', k', df⟩) : aOps P nt ops (⟨some d, op, ty, pos, after, none⟩ :: rest) Q ⟨tm, h, k, df⟩ :=
  aOps_val rfl hd ha hk hr
theorem W_same [ρ : Rnd] (hd : decide (d < nt) = true) (ha : aop P op tm h k = some (v, h', k)) (hr : aOps P nt ops rest Q ⟨upd tm d v, h', k, df⟩) : aOps P nt ops (⟨some d, op, ty, pos, after, none⟩ :: rest) Q ⟨tm, h, k, df⟩ :=
  aOps_val rfl hd ha (Nat.le_refl _) hr
theorem W_new [ρ : Rnd] (hd : decide (d < nt) = true) (ha : aop P op tm h k = some (v, h', k + 1)) (hr : aOps P nt ops rest Q ⟨upd tm d v, h', k + 1, df⟩) : aOps P nt ops (⟨some d, op, ty, pos, after, none⟩ :: rest) Q ⟨tm, h, k, df⟩ :=
  aOps_val rfl hd ha (Nat.le_succ _) hr
theorem W_unit [ρ : Rnd] (ha : aop P op tm h k = some (v, h', k)) (hr : aOps P nt ops rest Q ⟨tm, h', k, df⟩) : aOps P nt ops (⟨none, op, ty, pos, after, none⟩ :: rest) Q ⟨tm, h, k, df⟩ :=
  aOps_val rfl rfl ha (Nat.le_refl _) hr
/-- A guarded operation that is wanted; one that is not. -/
theorem W_want [ρ : Rnd] {j : Nat} {b : Bool} (hg : guardA ops tm (some (j, b)) = some true) (hd : decide (d < nt) = true) (ha : aop P op tm h k = some (v, h', k')) (hk : k ≤ k') (hr : aOps P nt ops rest Q ⟨upd tm d v, h', k', df⟩) : aOps P nt ops (⟨some d, op, ty, pos, after, some (j, b)⟩ :: rest) Q ⟨tm, h, k, df⟩ :=
  aOps_val hg hd ha hk hr
theorem W_skip [ρ : Rnd] {j : Nat} {b : Bool} (hg : guardA ops tm (some (j, b)) = some false) (hd : decide (d < nt) = true) (hr : aOps P nt ops rest Q ⟨upd tm d (.tup []), h, k, df⟩) : aOps P nt ops (⟨some d, op, ty, pos, after, some (j, b)⟩ :: rest) Q ⟨tm, h, k, df⟩ :=
  aOps_skip hg hd hr
/-- A call of a function that leaves memory as it was. -/
theorem W_fun [ρ : Rnd] {c : Call} {f : FuncId} {args : List AV} (hd : decide (d < nt) = true) (ha : calleeW tm c = some (f, args)) (hc : callable P f = true) (hf : aFun P f args v) (hr : ∀ k', k ≤ k' → aOps P nt ops rest Q ⟨upd tm d v, h, k', df⟩) :
    aOps P nt ops (⟨some d, .call c, ty, pos, after, none⟩ :: rest) Q ⟨tm, h, k, df⟩ := aOps_fun rfl hd rfl ha hc hf hr
theorem W_funG [ρ : Rnd] {c : Call} {f : FuncId} {args : List AV} {j : Nat} {b : Bool} (hg : guardA ops tm (some (j, b)) = some true) (hd : decide (d < nt) = true) (ha : calleeW tm c = some (f, args)) (hc : callable P f = true) (hf : aFun P f args v) (hr : ∀ k', k ≤ k' → aOps P nt ops rest Q ⟨upd tm d v, h, k', df⟩) :
    aOps P nt ops (⟨some d, .call c, ty, pos, after, some (j, b)⟩ :: rest) Q ⟨tm, h, k, df⟩ := aOps_fun hg hd rfl ha hc hf hr
theorem W_nil [ρ : Rnd] (hr : Q .norm ⟨tm, h, k, df⟩) : aOps P nt ops [] Q ⟨tm, h, k, df⟩ := aOps_nil hr
end
/-! ### types, in short -/
inductive TK where
  | int (k : IntKind)
  | bool
  | str
  | slice (e : TypeId)
  | ptr (e : TypeId)
  | strct
  | arr (len : Nat) (e : TypeId)
  | other
def kT (P : Program) (t : TypeId) : Option TK := (P.underlying t).map fun
  | .int k => .int k
  | .bool => .bool
  | .string => .str
  | .slice e => .slice e
  | .pointer e => .ptr e
  | .struct _ => .strct
  | .array n e => .arr n e
  | _ => .other
def aggK : Option TK → Bool
  | some .strct | some (.arr _ _) => true
  | _ => false
def loadK : Option TK → Option Nat → List AV → Option AV
  | some .strct, some n, cs | some (.arr _ _), some n, cs => if n ≤ cs.length then some (.agg (cs.take n)) else none
  | some .strct, none, _ | some (.arr _ _), none, _ => none
  | some _, _, cs => cs.head?
  | none, _, _ => none
def elemK : Option TK → Option TypeId
  | some (.slice e) => some e
  | _ => none
def arrK : Option TK → Option (Nat × TypeId)
  | some (.arr n e) => some (n, e)
  | _ => none
def intK : Option TK → Option IntKind
  | some (.int k) => some k
  | _ => none
section
variable (P : Program) (tm : Nat → AV) (h : AHeap) (k : Nat) (x y z : Operand) (t u : TypeId) (v w : AV)
theorem aLoad_eq : aLoad P h t v = (aPlace h v).bind (loadK (kT P t) (sizeT P t)) := by
  unfold aLoad aggT kT
  congr 1
  funext cs
  cases hu : P.underlying t with
  | none => cases sizeT P t <;> rfl
  | some d => cases d <;> cases sizeT P t <;> rfl
theorem aLen_sl (es : List (List AV)) : aLen P t (.sl es) = (elemK (kT P t)).map fun _ => .int .i64 es.length := by
  unfold aLen kT
  cases hu : P.underlying t with
  | none => rfl
  | some d => cases d <;> rfl
theorem aLen_zs : aLen P t .zs = (elemK (kT P t)).map fun _ => .int .i64 0 := by
  unfold aLen kT
  cases hu : P.underlying t with
  | none => rfl
  | some d => cases d <;> rfl
theorem aLen_hs (n off len : Nat) : aLen P t (.hs n off len) = (elemK (kT P t)).map fun _ => .int .i64 len := by
  unfold aLen kT
  cases hu : P.underlying t with
  | none => rfl
  | some d => cases d <;> rfl
theorem aLen_str (l : List Int) (hu : P.underlying t = some .string) : aLen P t (.str l) = some (.int .i64 l.length) := by simp [aLen, hu]
theorem aIndexAddr_sl (es : List (List AV)) (kd : IntKind) (i : Int) : aIndexAddr P h t (.sl es) (.int kd i) = (elemK (kT P t)).bind fun e => (sizeT P e).bind fun n => if 0 ≤ i then (es[i.toNat]?).bind fun c => if c.length = n then some (.ip c) else none else none := by
  unfold aIndexAddr kT
  cases hu : P.underlying t with
  | none => rfl
  | some d => cases d <;> rfl
theorem aIndexAddr_hs (m off len : Nat) (kd : IntKind) (i : Int) : aIndexAddr P h t (.hs m off len) (.int kd i) = (elemK (kT P t)).bind fun e => (sizeT P e).bind fun n => (h m).bind fun kb => if 0 ≤ i ∧ i < len ∧ kb.sz = n then some (.ptr m (off + i.toNat) 0) else none := by
  unfold aIndexAddr kT
  cases hu : P.underlying t with
  | none => rfl
  | some d => cases d <;> rfl
theorem aIndexAddr_ptr (m q j : Nat) (kd : IntKind) (i : Int) : aIndexAddr P h t (.ptr m q j) (.int kd i) = (arrK (kT P t)).bind fun a => (sizeT P a.2).bind fun n => if 0 ≤ i ∧ i < a.1 ∧ n ≠ 0 then some (.ptr m q (j + i.toNat * n)) else none := by
  unfold aIndexAddr kT
  cases hu : P.underlying t with
  | none => rfl
  | some d => cases d <;> rfl
theorem aIndex_agg (cs : List AV) (kd : IntKind) (i : Int) : aIndex P t (.agg cs) (.int kd i) = (arrK (kT P t)).bind fun a => (sizeT P a.2).bind fun n => (aggT P a.2).bind fun g => if 0 ≤ i ∧ i < a.1 then aPart cs (i.toNat * n) n g else none := by
  unfold aIndex kT
  cases hu : P.underlying t with
  | none => rfl
  | some d => cases d <;> rfl
theorem aBuildSlice_eq (n : Nat) (ps : List (Nat × AV)) : aBuildSlice P h k t n ps = (elemK (kT P t)).bind fun e => (zeroT P e).bind fun zs => if sizeT P e = some zs.length ∧ zs.all AV.one = true ∧ n * zs.length ≤ 16777216 ∧ n < 16777216 ∧ zs ≠ [] then
      (aRows zs.length (List.replicate n zs) ps).map fun es => (.hs k 0 n, upd h k (some ⟨zs.length, es⟩)) else none := by
  unfold aBuildSlice kT
  cases hu : P.underlying t with
  | none => rfl
  | some d => cases d <;> rfl
theorem aMake_eq (ka kb : IntKind) (l c : Int) : aMake P h k t (.int ka l) (.int kb c) = (elemK (kT P t)).bind fun e => (zeroT P e).bind fun zs => (byteT P e).bind fun by_ => if sizeT P e = some zs.length ∧ zs.all AV.one = true ∧ 0 ≤ l ∧ l ≤ c ∧ (by_ : Int) * c ≤ 140737488355328 ∧ c < 4611686018427387904 then
        some (.hs k 0 l.toNat, upd h k (some ⟨zs.length, List.replicate l.toNat zs⟩)) else none := by
  unfold aMake kT
  cases hu : P.underlying t with
  | none => rfl
  | some d => cases d <;> rfl
/-- What is appended, by the second argument's kind. -/
def newsK (P : Program) (h : AHeap) (e : TypeId) (n : Nat) : Option TK → AV → Option (List (List AV))
  | some (.int _), .int _ m => (zeroT P e).bind fun zs => if 0 ≤ m ∧ m < 4611686018427387904 ∧ zs.length = n ∧ zs.all AV.one = true then some (List.replicate m.toNat zs) else none
  | some .str, .str l => aRow h n (.str l)
  | some (.slice _), .str _ => none
  | some (.slice _), y => aRow h n y
  | _, _ => none
theorem aAppend_eq : aAppend P h k t u v w = (elemK (kT P t)).bind fun e => (sizeT P e).bind fun n => (byteT P e).bind fun by_ => (aRow h n v).bind fun xs => (newsK P h e n (kT P u) w).bind fun ys => (zeroT P e).bind fun zs =>
      if (xs.length + ys.length) * by_ ≤ 140737488355328 ∧ xs.length + ys.length < 4611686018427387904 ∧ v.mayGrow = true ∧ 0 < n ∧ zs.length = n then
        some (.hs k 0 (xs.length + ys.length), upd (killT h v) k (some ⟨n, xs ++ ys⟩)) else none := by
  have hn : ∀ e n, aNews P h e n u w = newsK P h e n (kT P u) w := fun e n => by
    unfold aNews kT
    cases hu : P.underlying u with
    | none => cases w <;> rfl
    | some d => cases d <;> cases w <;> rfl
  simp only [← hn]
  unfold aAppend kT
  cases hu : P.underlying t with
  | none => rfl
  | some d => cases d <;> rfl
theorem aConv_int (kd : IntKind) (n : Int) : aConv P h t u (.int kd n) = (kT P t).bind fun _ => (intK (kT P u)).map fun j => .int j (j.wrap n) := by
  unfold aConv kT
  cases hu : P.underlying t with
  | none => rfl
  | some d =>
    cases hv : P.underlying u with
    | none => cases d <;> rfl
    | some d' => cases d <;> cases d' <;> simp [intK, aRow] <;> split <;> rfl
def pickO : AV → AV → AV → Option AV
  | .bool c, a, b => some (pickA c a b)
  | _, _, _ => none
theorem aop_pick : aop P (.pick x y z) tm h k = (pickO (evA tm x) (evA tm y) (evA tm z)).map fun v => (v, h, k) := by
  simp only [aop]
  cases evA tm x <;> rfl
def convO (h : AHeap) (k : Nat) (b : Option (AV × AHeap)) : Option AV → Option (AV × AHeap × Nat)
  | some v => some (v, h, k)
  | none => b.map fun r => (r.1, r.2, k + 1)
theorem aop_conv : aop P (.convert t u x) tm h k = convO h k (aBytes P h k t u (evA tm x)) (aConv P h t u (evA tm x)) := by
  simp only [aop]
  cases aConv P h t u (evA tm x) <;> rfl
/-- Bytes told as a text. -/
theorem aConv_str (v : AV) {e : TypeId} {es : List (List AV)} {l : List Int} (hs : P.underlying t = some (.slice e)) (he : P.underlying e = some (.int .u8)) (hd : P.underlying u = some .string) (hr : aRow h 1 v = some es) (ho : octsOf es = some l) (hx : ∀ l, v ≠ .str l) : aConv P h t u v = some (.str l) := by
  unfold aConv
  rw [hs, hd]
  cases v <;> simp [he, hr, ho] <;> exact absurd rfl (hx _)
end
theorem evA_int (tm : Nat → AV) (k : IntKind) (n : Int) (h : InR k n) : evA tm (.const (.int k n)) = .int k n := by simp [evA, avOf, avOf1, h]
theorem evA_str (tm : Nat → AV) (s : ByteArray) (h : s.size < big) : evA tm (.const (.string s)) = .str (octs s) := by simp [evA, avOf, avOf1, h]
theorem wrapI {n : Int} (h1 : -9223372036854775808 ≤ n) (h2 : n ≤ 9223372036854775807) : IntKind.i64.wrap n = n := by rw [IntKind.wrap_i64]; omega
theorem wrapU {n : Int} (h1 : 0 ≤ n) (h2 : n ≤ 18446744073709551615) : IntKind.u64.wrap n = n := by
  simp [IntKind.wrap, IntKind.signed, IntKind.bits]
  omega
theorem wrapB {n : Int} (h1 : 0 ≤ n) (h2 : n ≤ 255) : IntKind.u8.wrap n = n := by
  simp [IntKind.wrap, IntKind.signed, IntKind.bits]
  omega
theorem elemT_eq (P : Program) (t : TypeId) : elemT P t = elemK (kT P t) := by
  unfold elemT kT
  cases hu : P.underlying t with
  | none => rfl
  | some d => cases d <;> rfl
/-- Is it a text's type? -/
def strK : Option TK → Option Unit
  | some .str => some ()
  | _ => none
section
variable (P : Program) (h : AHeap) (t u : TypeId)
theorem aLen_s (l : List Int) : aLen P t (.str l) = (strK (kT P t)).map fun _ => .int .i64 l.length := by
  unfold aLen kT
  cases hu : P.underlying t with
  | none => rfl
  | some d => cases d <;> rfl
theorem aSlice_sl (es : List (List AV)) (lo hi : Option AV) : aSlice P h t (.sl es) lo hi none = (elemK (kT P t)).bind fun e => (sizeT P e).bind fun n => (bndOr 0 lo).bind fun l => (bndOr es.length hi).bind fun u =>
      if 0 ≤ l ∧ l ≤ u ∧ u ≤ es.length ∧ es.all (fun c => c.length == n) = true then some (.sl ((es.take u.toNat).drop l.toNat)) else none := by
  unfold aSlice kT
  cases hu : P.underlying t with
  | none => rfl
  | some d => cases d <;> rfl
theorem aSlice_hs (m off len : Nat) (lo hi : Option AV) : aSlice P h t (.hs m off len) lo hi none = (elemK (kT P t)).bind fun e => (sizeT P e).bind fun n => (h m).bind fun kb => (bndOr 0 lo).bind fun l => (bndOr len hi).bind fun u =>
      if 0 ≤ l ∧ l ≤ u ∧ u ≤ len ∧ kb.sz = n then some (.hs m (off + l.toNat) (u.toNat - l.toNat)) else none := by
  unfold aSlice kT
  cases hu : P.underlying t with
  | none => rfl
  | some d => cases d <;> rfl
theorem aSlice_zs (lo hi : Option AV) : aSlice P h t .zs lo hi none = (elemK (kT P t)).bind fun e => (sizeT P e).bind fun n => (bndOr 0 lo).bind fun l => (bndOr 0 hi).bind fun u => if l = 0 ∧ u = 0 then some .zs else none := by
  unfold aSlice kT
  cases hu : P.underlying t with
  | none => rfl
  | some d => cases d <;> rfl
theorem aSlice_m (x : AV) (lo hi : Option AV) (kd : IntKind) (m : Int) (hx : x = .zs ∨ (∃ es, x = .sl es) ∨ ∃ a b c, x = .hs a b c) : aSlice P h t x lo hi (some (.int kd m)) = (elemK (kT P t)).bind fun e => (sizeT P e).bind fun n => (bndOr 0 lo).bind fun l => (bndOr (-1) hi).bind fun u => if l = 0 ∧ u = 0 ∧ m = 0 then some .zs else none := by
  rcases hx with rfl | ⟨es, rfl⟩ | ⟨a, b, c, rfl⟩ <;> unfold aSlice kT <;> cases hu : P.underlying t with
  | none => rfl
  | some d => cases d <;> rfl
theorem aSlice_s (s : List Int) (lo hi : Option AV) : aSlice P h t (.str s) lo hi none = (strK (kT P t)).bind fun _ => (bndOr 0 lo).bind fun l => (bndOr s.length hi).bind fun u => if 0 ≤ l ∧ l ≤ u ∧ u ≤ s.length then some (.str ((s.take u.toNat).drop l.toNat)) else none := by
  unfold aSlice kT
  cases hu : P.underlying t with
  | none => rfl
  | some d => cases d <;> rfl
theorem aCopy_hs (m off len : Nat) (y : AV) : aCopy P h t u (.hs m off len) y = (elemK (kT P t)).bind fun e => (sizeT P e).bind fun n => (h m).bind fun kb => (aRow h n y).bind fun ys =>
      if kb.sz = n ∧ off + len ≤ kb.es.length then some (.int .i64 (min ys.length len : Nat), upd h m (some ⟨n, rowPut kb.es off (ys.take len)⟩)) else none := by
  unfold aCopy kT
  cases hu : P.underlying t with
  | none => rfl
  | some d => cases d <;> rfl
theorem aCopy_zs (y : AV) : aCopy P h t u .zs y = (elemK (kT P t)).bind fun e => (sizeT P e).bind fun n => (aRow h n y).bind fun ys => some (.int .i64 0, h) := by
  unfold aCopy kT
  cases hu : P.underlying t with
  | none => rfl
  | some d => cases d <;> rfl
theorem aClear_hs (m off len : Nat) : aClear P h t (.hs m off len) = (elemK (kT P t)).bind fun e => (zeroT P e).bind fun zs => (h m).bind fun kb =>
      if kb.sz = zs.length ∧ off + len ≤ kb.es.length ∧ zs.all AV.one = true then some (upd h m (some ⟨kb.sz, rowPut kb.es off (List.replicate len zs)⟩)) else none := by
  unfold aClear kT
  cases hu : P.underlying t with
  | none => rfl
  | some d => cases d <;> rfl
theorem aClear_zs : aClear P h t .zs = (elemK (kT P t)).map fun _ => h := by
  unfold aClear kT
  cases hu : P.underlying t with
  | none => rfl
  | some d => cases d <;> rfl
end
/-- What follows is looked at only when what comes first is known. -/
@[congr] theorem obind_congr {α β : Type} {x y : Option α} (f : α → Option β) (h : x = y) : x.bind f = y.bind f := by rw [h]
@[congr] theorem omap_congr {α β : Type} {x y : Option α} (f : α → β) (h : x = y) : x.map f = y.map f := by rw [h]
theorem AW0 : (∀ (tm : Nat → AV) (t : Nat), evA tm (.tmp t) = tm t) ∧
    (∀ (tm : Nat → AV) (f : Nat), evA tm (.func f) = .fn (.func f) [] []) ∧
    (∀ (tm : Nat → AV) (b : Bool), evA tm (.const (.bool b)) = .bool b) ∧
    (∀ (tm : Nat → AV) , evA tm (.const (.slice none 0 0)) = .zs) ∧
    (∀ (tm : Nat → AV) , evA tm (.const (.pointer none)) = .nilp) ∧
    (∀ (P : Program) (tm : Nat → AV) (h : AHeap) (k : Nat) (x : Operand), aop P (.move x) tm h k = some (evA tm x, h, k)) ∧
    (∀ (P : Program) (tm : Nat → AV) (h : AHeap) (k : Nat) (x : Operand), aop P (.assign x) tm h k = some (evA tm x, h, k)) ∧
    (∀ (P : Program) (tm : Nat → AV) (h : AHeap) (k : Nat) (x y z : Operand), aop P (.pick x y z) tm h k = (pickO (evA tm x) (evA tm y) (evA tm z)).map fun v => (v, h, k)) ∧
    (∀ (P : Program) (tm : Nat → AV) (h : AHeap) (k : Nat) (t : TypeId), aop P (.alloc t) tm h k = (aAlloc P h k t).map fun r => (r.1, r.2, k + 1)) ∧
    (∀ (P : Program) (tm : Nat → AV) (h : AHeap) (k : Nat) (t : TypeId) (x : Operand), aop P (.box t x) tm h k = (aBox h k (evA tm x)).map fun r => (r.1, r.2, k + 1)) ∧
    (∀ (P : Program) (tm : Nat → AV) (h : AHeap) (k : Nat) (t : TypeId) (x : Operand), aop P (.load t x) tm h k = ((aPlace h (evA tm x)).bind (loadK (kT P t) (sizeT P t))).map fun v => (v, h, k)) ∧
    (∀ (P : Program) (tm : Nat → AV) (h : AHeap) (k : Nat) (t : TypeId) (x y : Operand), aop P (.store t x y) tm h k = (aStore P h t (evA tm x) (evA tm y)).map fun h2 => (.undef, h2, k)) ∧
    (∀ (P : Program) (tm : Nat → AV) (h : AHeap) (k : Nat) (t u : TypeId) (x y : Operand) (o : BinOp), aop P (.binOp o t x y u) tm h k = (aBin P o t (evA tm x) (evA tm y)).map fun v => (v, h, k)) ∧
    (∀ (P : Program) (tm : Nat → AV) (h : AHeap) (k : Nat) (t : TypeId) (x : Operand) (o : UnOp), aop P (.unOp o t x) tm h k = (aUn o (evA tm x)).map fun v => (v, h, k)) ∧
    (∀ (P : Program) (tm : Nat → AV) (h : AHeap) (k : Nat) (t u : TypeId) (x : Operand), aop P (.convert t u x) tm h k = convO h k (aBytes P h k t u (evA tm x)) (aConv P h t u (evA tm x))) ∧
    (∀ (P : Program) (tm : Nat → AV) (h : AHeap) (k : Nat) (t : TypeId) (x : Operand) (f : Nat), aop P (.fieldAddr t x f) tm h k = (aField P t (evA tm x) f).map fun v => (v, h, k)) ∧
    (∀ (P : Program) (tm : Nat → AV) (h : AHeap) (k : Nat) (t : TypeId) (x : Operand) (f : Nat), aop P (.field t x f) tm h k = (aFieldOf P t (evA tm x) f).map fun v => (v, h, k)) ∧
    (∀ (P : Program) (tm : Nat → AV) (h : AHeap) (k : Nat) (t : TypeId) (x y : Operand), aop P (.indexAddr t x y) tm h k = (aIndexAddr P h t (evA tm x) (evA tm y)).map fun v => (v, h, k)) ∧
    (∀ (P : Program) (tm : Nat → AV) (h : AHeap) (k : Nat) (t : TypeId) (x y : Operand), aop P (.index t x y) tm h k = (aIndex P t (evA tm x) (evA tm y)).map fun v => (v, h, k)) ∧
    (∀ (P : Program) (tm : Nat → AV) (h : AHeap) (k : Nat) (x : Operand) (i : Nat), aop P (.extract x i) tm h k = (aExtract (evA tm x) i).map fun v => (v, h, k)) ∧
    (∀ (P : Program) (tm : Nat → AV) (h : AHeap) (k : Nat) (t : TypeId) (x y : Operand), aop P (.makeSlice t x y) tm h k = (aMake P h k t (evA tm x) (evA tm y)).map fun r => (r.1, r.2, k + 1)) ∧
    (∀ (P : Program) (tm : Nat → AV) (h : AHeap) (k : Nat) (f : Fn) (as bs : Array Operand), aop P (.makeFunc f as bs) tm h k = some (.fn f (as.toList.map (evA tm)) (bs.toList.map (evA tm)), h, k)) ∧
    (∀ (P : Program) (tm : Nat → AV) (h : AHeap) (k : Nat) (t : TypeId) (n : Nat) (ps : List (Nat × Operand)), aop P (.buildSlice t n ps.toArray) tm h k = (aBuildSlice P h k t n (ps.map fun p => (p.1, evA tm p.2))).map fun r => (r.1, r.2, k + 1)) ∧
    (∀ (P : Program) (tm : Nat → AV) (h : AHeap) (k : Nat) (t : TypeId) (ps : List (Nat × Operand)), aop P (.build t ps.toArray) tm h k = if (ps.all fun p => (evA tm p.2).okPart) = true then (aBuild P t (ps.map fun p => (p.1, evA tm p.2))).map fun v => (v, h, k) else none) :=
  ⟨(fun tm t => rfl),
   (fun tm f => rfl),
   (fun tm b => rfl),
   (fun tm => rfl),
   (fun tm => rfl),
   (fun P tm h k x => rfl),
   (fun P tm h k x => rfl),
   (fun P tm h k x y z => aop_pick P tm h k x y z),
   (fun P tm h k t => rfl),
   (fun P tm h k t x => rfl),
   (fun P tm h k t x => by rw [← aLoad_eq]; rfl),
   (fun P tm h k t x y => rfl),
   (fun P tm h k t u x y o => rfl),
   (fun P tm h k t x o => rfl),
   (fun P tm h k t u x => aop_conv P tm h k x t u),
   (fun P tm h k t x f => rfl),
   (fun P tm h k t x f => rfl),
   (fun P tm h k t x y => rfl),
   (fun P tm h k t x y => rfl),
   (fun P tm h k x i => rfl),
   (fun P tm h k t x y => rfl),
   (fun P tm h k f as bs => rfl),
   (fun P tm h k t n ps => rfl),
   (fun P tm h k t ps => rfl)⟩
theorem AW1 : (∀ (P : Program) (tm : Nat → AV) (h : AHeap) (k : Nat) (b : Builtin) (as : List Operand) (ts : List TypeId), aop P (.call ⟨.builtin b, as.toArray, ts.toArray⟩) tm h k = aBuiltin P h k b ts (as.map (evA tm))) ∧
    (∀ (P : Program) (tm : Nat → AV) (h : AHeap) (k : Nat) (t : TypeId) (x : Operand) (lo hi mx : Option Operand), aop P (.slice t x lo hi mx) tm h k = (aSlice P h t (evA tm x) (lo.map (evA tm)) (hi.map (evA tm)) (mx.map (evA tm))).map fun v => (v, h, k)) ∧
    (∀ (a b : AV), pickA true a b = a) ∧
    (∀ (a b : AV), pickA false a b = b) ∧
    (∀ (c a b : Bool), pickA c (.bool a) (.bool b) = .bool (if c = true then a else b)) ∧
    (∀ (c : Bool) (a b : AV), pickO (.bool c) a b = some (pickA c a b)) ∧
    (∀ (h : AHeap) (k : Nat) (b : Option (AV × AHeap)) (v : AV), convO h k b (some v) = some (v, h, k)) ∧
    (∀ (h : AHeap) (k : Nat) (b : Bool), aBox h k (.bool b) = some (.ptr k 0 0, upd h k (some ⟨1, [[.bool b]]⟩))) ∧
    (∀ (b : Bool), AV.one (.bool b) = true) ∧
    (∀ (b : Bool), AV.cells (.bool b) = [.bool b]) ∧
    (∀ (b : Bool), AV.okPart (.bool b) = true) ∧
    (∀ (h : AHeap) (k : Nat) (kd : IntKind) (n : Int), aBox h k (.int kd n) = some (.ptr k 0 0, upd h k (some ⟨1, [[.int kd n]]⟩))) ∧
    (∀ (kd : IntKind) (n : Int), AV.one (.int kd n) = true) ∧
    (∀ (kd : IntKind) (n : Int), AV.cells (.int kd n) = [.int kd n]) ∧
    (∀ (kd : IntKind) (n : Int), AV.okPart (.int kd n) = true) ∧
    (∀ (h : AHeap) (k : Nat) (l : List Int), aBox h k (.str l) = some (.ptr k 0 0, upd h k (some ⟨1, [[.str l]]⟩))) ∧
    (∀ (l : List Int), AV.one (.str l) = true) ∧
    (∀ (l : List Int), AV.cells (.str l) = [.str l]) ∧
    (∀ (l : List Int), AV.okPart (.str l) = true) ∧
    (∀ (h : AHeap) (k : Nat) , aBox h k (.zs) = some (.ptr k 0 0, upd h k (some ⟨1, [[.zs]]⟩))) ∧
    (AV.one .zs = true) ∧
    (AV.cells (.zs) = [.zs]) ∧
    (AV.okPart (.zs) = true) ∧
    (∀ (h : AHeap) (k : Nat) (es : List (List AV)), aBox h k (.sl es) = some (.ptr k 0 0, upd h k (some ⟨1, [[.sl es]]⟩))) :=
  ⟨(fun P tm h k b as ts => rfl),
   (fun P tm h k t x lo hi mx => rfl),
   (fun a b => by unfold pickA; split <;> simp),
   (fun a b => by unfold pickA; split <;> simp),
   (fun c a b => rfl),
   (fun c a b => rfl),
   (fun h k b v => rfl),
   (fun h k b => rfl),
   (fun b => rfl),
   (fun b => rfl),
   (fun b => rfl),
   (fun h k kd n => rfl),
   (fun kd n => rfl),
   (fun kd n => rfl),
   (fun kd n => rfl),
   (fun h k l => rfl),
   (fun l => rfl),
   (fun l => rfl),
   (fun l => rfl),
   (fun h k => rfl),
   (rfl),
   (rfl),
   (rfl),
   (fun h k es => rfl)⟩
theorem AW2 : (∀ (es : List (List AV)), AV.one (.sl es) = true) ∧
    (∀ (es : List (List AV)), AV.cells (.sl es) = [.sl es]) ∧
    (∀ (es : List (List AV)), AV.okPart (.sl es) = true) ∧
    (∀ (h : AHeap) (k : Nat) (n o l : Nat), aBox h k (.hs n o l) = some (.ptr k 0 0, upd h k (some ⟨1, [[.hs n o l]]⟩))) ∧
    (∀ (n o l : Nat), AV.one (.hs n o l) = true) ∧
    (∀ (n o l : Nat), AV.cells (.hs n o l) = [.hs n o l]) ∧
    (∀ (n o l : Nat), AV.okPart (.hs n o l) = true) ∧
    (∀ (h : AHeap) (k : Nat) , aBox h k (.nilp) = some (.ptr k 0 0, upd h k (some ⟨1, [[.nilp]]⟩))) ∧
    (AV.one .nilp = true) ∧
    (AV.cells (.nilp) = [.nilp]) ∧
    (AV.okPart (.nilp) = true) ∧
    (∀ (h : AHeap) (k : Nat) (n e j : Nat), aBox h k (.ptr n e j) = some (.ptr k 0 0, upd h k (some ⟨1, [[.ptr n e j]]⟩))) ∧
    (∀ (n e j : Nat), AV.one (.ptr n e j) = true) ∧
    (∀ (n e j : Nat), AV.cells (.ptr n e j) = [.ptr n e j]) ∧
    (∀ (n e j : Nat), AV.okPart (.ptr n e j) = true) ∧
    (∀ (h : AHeap) (k : Nat) (cs : List AV), aBox h k (.ip cs) = some (.ptr k 0 0, upd h k (some ⟨1, [[.ip cs]]⟩))) ∧
    (∀ (cs : List AV), AV.one (.ip cs) = true) ∧
    (∀ (cs : List AV), AV.cells (.ip cs) = [.ip cs]) ∧
    (∀ (cs : List AV), AV.okPart (.ip cs) = true) ∧
    (∀ (h : AHeap) (k : Nat) (f : Fn) (as bs : List AV), aBox h k (.fn f as bs) = some (.ptr k 0 0, upd h k (some ⟨1, [[.fn f as bs]]⟩))) ∧
    (∀ (f : Fn) (as bs : List AV), AV.one (.fn f as bs) = true) ∧
    (∀ (f : Fn) (as bs : List AV), AV.cells (.fn f as bs) = [.fn f as bs]) ∧
    (∀ (f : Fn) (as bs : List AV), AV.okPart (.fn f as bs) = true) ∧
    (∀ (h : AHeap) (k : Nat) , aBox h k (.nilf) = some (.ptr k 0 0, upd h k (some ⟨1, [[.nilf]]⟩))) :=
  ⟨(fun es => rfl),
   (fun es => rfl),
   (fun es => rfl),
   (fun h k n o l => rfl),
   (fun n o l => rfl),
   (fun n o l => rfl),
   (fun n o l => rfl),
   (fun h k => rfl),
   (rfl),
   (rfl),
   (rfl),
   (fun h k n e j => rfl),
   (fun n e j => rfl),
   (fun n e j => rfl),
   (fun n e j => rfl),
   (fun h k cs => rfl),
   (fun cs => rfl),
   (fun cs => rfl),
   (fun cs => rfl),
   (fun h k f as bs => rfl),
   (fun f as bs => rfl),
   (fun f as bs => rfl),
   (fun f as bs => rfl),
   (fun h k => rfl)⟩
theorem AW3 : (AV.one .nilf = true) ∧
    (AV.cells (.nilf) = [.nilf]) ∧
    (AV.okPart (.nilf) = true) ∧
    (∀ (h : AHeap) (k : Nat) (t : TypeId) (v : AV), aBox h k (.iface t v) = some (.ptr k 0 0, upd h k (some ⟨1, [[.iface t v]]⟩))) ∧
    (∀ (t : TypeId) (v : AV), AV.one (.iface t v) = true) ∧
    (∀ (t : TypeId) (v : AV), AV.cells (.iface t v) = [.iface t v]) ∧
    (∀ (t : TypeId) (v : AV), AV.okPart (.iface t v) = true) ∧
    (∀ (h : AHeap) (k : Nat) , aBox h k (.niliface) = some (.ptr k 0 0, upd h k (some ⟨1, [[.niliface]]⟩))) ∧
    (AV.one .niliface = true) ∧
    (AV.cells (.niliface) = [.niliface]) ∧
    (AV.okPart (.niliface) = true) ∧
    (∀ (cs : List AV), AV.okPart (.agg cs) = true) ∧
    (∀ (cs : List AV), AV.cells (.agg cs) = cs) ∧
    (∀ (h : AHeap) (k : Nat) (cs : List AV), aBox h k (.agg cs) = if cs.all AV.one = true then some (.ptr k 0 0, upd h k (some ⟨cs.length, [cs]⟩)) else none) ∧
    (∀ (P : Program) (h : AHeap) (k : Nat) (t : TypeId), aAlloc P h k t = (zeroT P t).bind fun zs => if zs.all AV.one = true then some (.ptr k 0 0, upd h k (some ⟨zs.length, [zs]⟩)) else none) ∧
    (∀ (h : AHeap) (n e j : Nat), aPlace h (.ptr n e j) = (h n).bind fun b => (b.es[e]?).map (·.drop j)) ∧
    (∀ (h : AHeap) (cs : List AV), aPlace h (.ip cs) = some cs) ∧
    (∀ (n : Nat) (cs : List AV), loadK (some .strct) (some n) cs = if n ≤ cs.length then some (.agg (cs.take n)) else none) ∧
    (∀ (m : Nat) (e : TypeId) (n : Nat) (cs : List AV), loadK (some (.arr m e)) (some n) cs = if n ≤ cs.length then some (.agg (cs.take n)) else none) ∧
    (∀ (j : IntKind) (n : Nat) (c : AV) (cs : List AV), loadK (some (.int j)) (some n) (c :: cs) = some c) ∧
    (∀ (n : Nat) (c : AV) (cs : List AV), loadK (some .bool) (some n) (c :: cs) = some c) ∧
    (∀ (n : Nat) (c : AV) (cs : List AV), loadK (some .str) (some n) (c :: cs) = some c) ∧
    (∀ (e : TypeId) (n : Nat) (c : AV) (cs : List AV), loadK (some (.slice e)) (some n) (c :: cs) = some c) ∧
    (∀ (e : TypeId) (n : Nat) (c : AV) (cs : List AV), loadK (some (.ptr e)) (some n) (c :: cs) = some c) :=
  ⟨(rfl),
   (rfl),
   (rfl),
   (fun h k t v => rfl),
   (fun t v => rfl),
   (fun t v => rfl),
   (fun t v => rfl),
   (fun h k => rfl),
   (rfl),
   (rfl),
   (rfl),
   (fun cs => rfl),
   (fun cs => rfl),
   (fun h k cs => rfl),
   (fun P h k t => rfl),
   (fun h n e j => rfl),
   (fun h cs => rfl),
   (fun n cs => rfl),
   (fun m e n cs => rfl),
   (fun j n c cs => rfl),
   (fun n c cs => rfl),
   (fun n c cs => rfl),
   (fun e n c cs => rfl),
   (fun e n c cs => rfl)⟩
theorem AW4 : (∀ (n : Nat) (c : AV) (cs : List AV), loadK (some .other) (some n) (c :: cs) = some c) ∧
    (∀ (e : TypeId), elemK (some (.slice e)) = some e) ∧
    (∀ (n : Nat) (e : TypeId), arrK (some (.arr n e)) = some (n, e)) ∧
    (∀ (j : IntKind), intK (some (.int j)) = some j) ∧
    (∀ (P : Program) (h : AHeap) (t : TypeId) (n e j : Nat) (v : AV), aStore P h t (.ptr n e j) v = (h n).bind fun b => (b.es[e]?).bind fun c => if sizeT P t = some v.cells.length ∧ v.cells.all AV.one = true ∧ j + v.cells.length ≤ c.length then some (upd h n (some ⟨b.sz, b.es.set e (splice c j v.cells)⟩)) else none) ∧
    (∀ (l : List AV) (j : Nat) (cs : List AV), splice l j cs = l.take j ++ cs ++ l.drop (j + cs.length)) ∧
    (∀ (P : Program) (t : TypeId) (n e j f : Nat), aField P t (.ptr n e j) f = (offT P t f).bind fun o => some (.ptr n e (j + o))) ∧
    (∀ (P : Program) (t : TypeId) (cs : List AV) (f : Nat), aField P t (.ip cs) f = (offT P t f).bind fun o => some (.ip (cs.drop o))) ∧
    (∀ (P : Program) (t : TypeId) (cs : List AV) (f : Nat), aFieldOf P t (.agg cs) f = (partT P t f).bind fun p => aPart cs p.1 p.2.1 p.2.2) ∧
    (∀ (cs : List AV) (o s : Nat), aPart cs o s true = if o + s ≤ cs.length then some (.agg ((cs.drop o).take s)) else none) ∧
    (∀ (cs : List AV) (o s : Nat), aPart cs o s false = cs[o]?) ∧
    (∀ (P : Program) (h : AHeap) (t : TypeId) (es : List (List AV)) (kd : IntKind) (i : Int), aIndexAddr P h t (.sl es) (.int kd i) = (elemK (kT P t)).bind fun e => (sizeT P e).bind fun n => if 0 ≤ i then (es[i.toNat]?).bind fun c => if c.length = n then some (.ip c) else none else none) ∧
    (∀ (P : Program) (h : AHeap) (t : TypeId) (m off len : Nat) (kd : IntKind) (i : Int), aIndexAddr P h t (.hs m off len) (.int kd i) = (elemK (kT P t)).bind fun e => (sizeT P e).bind fun n => (h m).bind fun kb => if 0 ≤ i ∧ i < len ∧ kb.sz = n then some (.ptr m (off + i.toNat) 0) else none) ∧
    (∀ (P : Program) (h : AHeap) (t : TypeId) (m q j : Nat) (kd : IntKind) (i : Int), aIndexAddr P h t (.ptr m q j) (.int kd i) = (arrK (kT P t)).bind fun a => (sizeT P a.2).bind fun n => if 0 ≤ i ∧ i < a.1 ∧ n ≠ 0 then some (.ptr m q (j + i.toNat * n)) else none) ∧
    (∀ (P : Program) (t : TypeId) (cs : List AV) (kd : IntKind) (i : Int), aIndex P t (.agg cs) (.int kd i) = (arrK (kT P t)).bind fun a => (sizeT P a.2).bind fun n => (aggT P a.2).bind fun g => if 0 ≤ i ∧ i < a.1 then aPart cs (i.toNat * n) n g else none) ∧
    (∀ (P : Program) (t : TypeId) (es : List (List AV)), aLen P t (.sl es) = (elemK (kT P t)).map fun _ => .int .i64 es.length) ∧
    (∀ (P : Program) (t : TypeId), aLen P t .zs = (elemK (kT P t)).map fun _ => .int .i64 0) ∧
    (∀ (P : Program) (t : TypeId) (n off len : Nat), aLen P t (.hs n off len) = (elemK (kT P t)).map fun _ => .int .i64 len) ∧
    (∀ (P : Program) (h : AHeap) (k : Nat) (t : TypeId) (n : Nat) (ps : List (Nat × AV)), aBuildSlice P h k t n ps = (elemK (kT P t)).bind fun e => (zeroT P e).bind fun zs => if sizeT P e = some zs.length ∧ zs.all AV.one = true ∧ n * zs.length ≤ 16777216 ∧ n < 16777216 ∧ zs ≠ [] then (aRows zs.length (List.replicate n zs) ps).map fun es => (.hs k 0 n, upd h k (some ⟨zs.length, es⟩)) else none) ∧
    (∀ (P : Program) (h : AHeap) (k : Nat) (t : TypeId) (ka kb : IntKind) (l c : Int), aMake P h k t (.int ka l) (.int kb c) = (elemK (kT P t)).bind fun e => (zeroT P e).bind fun zs => (byteT P e).bind fun by_ => if sizeT P e = some zs.length ∧ zs.all AV.one = true ∧ 0 ≤ l ∧ l ≤ c ∧ (by_ : Int) * c ≤ 140737488355328 ∧ c < 4611686018427387904 then some (.hs k 0 l.toNat, upd h k (some ⟨zs.length, List.replicate l.toNat zs⟩)) else none) ∧
    (∀ (P : Program) (h : AHeap) (k : Nat) (t u : TypeId) (v w : AV), aAppend P h k t u v w = (elemK (kT P t)).bind fun e => (sizeT P e).bind fun n => (byteT P e).bind fun by_ => (aRow h n v).bind fun xs => (newsK P h e n (kT P u) w).bind fun ys => (zeroT P e).bind fun zs => if (xs.length + ys.length) * by_ ≤ 140737488355328 ∧ xs.length + ys.length < 4611686018427387904 ∧ v.mayGrow = true ∧ 0 < n ∧ zs.length = n then some (.hs k 0 (xs.length + ys.length), upd (killT h v) k (some ⟨n, xs ++ ys⟩)) else none) ∧
    (∀ (P : Program) (h : AHeap) (t u : TypeId) (kd : IntKind) (n : Int), aConv P h t u (.int kd n) = (kT P t).bind fun _ => (intK (kT P u)).map fun j => .int j (j.wrap n)) ∧
    (∀ (h : AHeap) (n : Nat), aRow h n .zs = some []) ∧
    (∀ (h : AHeap) (n : Nat) (es : List (List AV)), aRow h n (.sl es) = if es.all (fun e => e.length == n) = true then some es else none) :=
  ⟨(fun n c cs => rfl),
   (fun e => rfl),
   (fun n e => rfl),
   (fun j => rfl),
   (fun P h t n e j v => rfl),
   (fun l j cs => rfl),
   (fun P t n e j f => rfl),
   (fun P t cs f => rfl),
   (fun P t cs f => rfl),
   (fun cs o s => by simp [aPart]),
   (fun cs o s => by simp [aPart]),
   (fun P h t es kd i => aIndexAddr_sl _ _ _ _ _ _ ),
   (fun P h t m off len kd i => aIndexAddr_hs _ _ _ _ _ _ _ _ ),
   (fun P h t m q j kd i => aIndexAddr_ptr _ _ _ _ _ _ _ _ ),
   (fun P t cs kd i => aIndex_agg _ _ _ _ _ ),
   (fun P t es => aLen_sl _ _ _ ),
   (fun P t => aLen_zs _ _ ),
   (fun P t n off len => aLen_hs _ _ _ _ _ ),
   (fun P h k t n ps => aBuildSlice_eq _ _ _ _ _ _ ),
   (fun P h k t ka kb l c => aMake_eq _ _ _ _ _ _ _ _ ),
   (fun P h k t u v w => aAppend_eq _ _ _ _ _ _ _ ),
   (fun P h t u kd n => aConv_int _ _ _ _ _ _ ),
   (fun h n => rfl),
   (fun h n es => rfl)⟩
theorem AW5 : (∀ (h : AHeap) (n m off len : Nat), aRow h n (.hs m off len) = (h m).bind fun k => if k.sz = n ∧ off + len ≤ k.es.length then some ((k.es.drop off).take len) else none) ∧
    (∀ (h : AHeap) (l : List Int), aRow h 1 (.str l) = some (l.map fun c => [.int .u8 c])) ∧
    (∀ (P : Program) (h : AHeap) (e : TypeId) (n : Nat) (j kd : IntKind) (m : Int), newsK P h e n (some (.int j)) (.int kd m) = (zeroT P e).bind fun zs => if 0 ≤ m ∧ m < 4611686018427387904 ∧ zs.length = n ∧ zs.all AV.one = true then some (List.replicate m.toNat zs) else none) ∧
    (∀ (P : Program) (h : AHeap) (e : TypeId) (n : Nat) (l : List Int), newsK P h e n (some .str) (.str l) = aRow h n (.str l)) ∧
    (∀ (P : Program) (h : AHeap) (e : TypeId) (n : Nat) (d : TypeId), newsK P h e n (some (.slice d)) .zs = aRow h n .zs) ∧
    (∀ (P : Program) (h : AHeap) (e : TypeId) (n : Nat) (d : TypeId) (es : List (List AV)), newsK P h e n (some (.slice d)) (.sl es) = aRow h n (.sl es)) ∧
    (∀ (P : Program) (h : AHeap) (e : TypeId) (n : Nat) (d : TypeId) (a b c : Nat), newsK P h e n (some (.slice d)) (.hs a b c) = aRow h n (.hs a b c)) ∧
    (AV.mayGrow .zs = true) ∧
    (∀ (a b c : Nat), AV.mayGrow (.hs a b c) = true) ∧
    (∀ (h : AHeap), killT h .zs = h) ∧
    (∀ (h : AHeap) (a b c : Nat), killT h (.hs a b c) = upd h a none) ∧
    (∀ (n : Nat) (es : List (List AV)), aRows n es [] = some es) ∧
    (∀ (n i : Nat) (es : List (List AV)) (a : AV) (r : List (Nat × AV)), aRows n es ((i, a) :: r) = if a.cells.length = n ∧ i < es.length ∧ a.cells.all AV.one = true then aRows n (es.set i a.cells) r else none) ∧
    (∀ (P : Program) (t : TypeId) (ps : List (Nat × AV)), aBuild P t ps = (placesT P t).bind fun pl => (zeroT P t).bind fun zs => (aFill (fun i => pl[i]?) zs ps).map .agg) ∧
    (∀ (p : Nat → Option (Nat × Nat)) (cs : List AV), aFill p cs [] = some cs) ∧
    (∀ (p : Nat → Option (Nat × Nat)) (cs : List AV) (i : Nat) (a : AV) (r : List (Nat × AV)), aFill p cs ((i, a) :: r) = (p i).bind fun o => if a.cells.length = o.2 ∧ o.1 + o.2 ≤ cs.length then aFill p (splice cs o.1 a.cells) r else none) ∧
    (∀ (P : Program) (h : AHeap) (k : Nat) (t : TypeId) (x : AV), aBuiltin P h k .len [t] [x] = (aLen P t x).map fun v => (v, h, k)) ∧
    (∀ (P : Program) (h : AHeap) (k : Nat) (t u : TypeId) (x y : AV), aBuiltin P h k .append [t, u] [x, y] = (aAppend P h k t u x y).map fun r => (r.1, r.2, k + 1)) ∧
    (∀ (P : Program) (h : AHeap) (k : Nat) (t u : TypeId) (x y : AV), aBuiltin P h k .copy [t, u] [x, y] = (aCopy P h t u x y).map fun r => (r.1, r.2, k)) ∧
    (∀ (P : Program) (h : AHeap) (k : Nat) (t : TypeId) (x : AV), aBuiltin P h k .clear [t] [x] = (aClear P h t x).map fun g => (.tup [], g, k)) ∧
    (∀ (P : Program) (h : AHeap) (k : Nat) (t u : TypeId) (x y : AV), aBuiltin P h k .min [t, u] [x, y] = (aMin x y).map fun v => (v, h, k)) ∧
    (∀ (P : Program) (h : AHeap) (k : Nat) (t u : TypeId) (x y : AV), aBuiltin P h k .max [t, u] [x, y] = (aMax x y).map fun v => (v, h, k)) ∧
    (∀ (kd : IntKind) (a b : Int), aMin (.int kd a) (.int kd b) = some (.int kd (if b < a then b else a))) ∧
    (∀ (kd : IntKind) (a b : Int), aMax (.int kd a) (.int kd b) = some (.int kd (if a < b then b else a))) :=
  ⟨(fun h n m off len => rfl),
   (fun h l => rfl),
   (fun P h e n j kd m => rfl),
   (fun P h e n l => rfl),
   (fun P h e n d => rfl),
   (fun P h e n d es => rfl),
   (fun P h e n d a b c => rfl),
   (rfl),
   (fun a b c => rfl),
   (fun h => rfl),
   (fun h a b c => rfl),
   (fun n es => rfl),
   (fun n i es a r => rfl),
   (fun P t ps => rfl),
   (fun p cs => rfl),
   (fun p cs i a r => by rw [aFill]; cases p i <;> rfl),
   (fun P h k t x => rfl),
   (fun P h k t u x y => rfl),
   (fun P h k t u x y => rfl),
   (fun P h k t x => rfl),
   (fun P h k t u x y => rfl),
   (fun P h k t u x y => rfl),
   (fun kd a b => by simp [aMin]),
   (fun kd a b => by simp [aMax])⟩
theorem AW6 : (∀ (P : Program) (t : TypeId) (kd : IntKind) (a b : Int), aBin P .add t (.int kd a) (.int kd b) = some (.int kd (kd.wrap (a + b)))) ∧
    (∀ (P : Program) (t : TypeId) (kd : IntKind) (a b : Int), aBin P .sub t (.int kd a) (.int kd b) = some (.int kd (kd.wrap (a - b)))) ∧
    (∀ (P : Program) (t : TypeId) (kd : IntKind) (a b : Int), aBin P .mul t (.int kd a) (.int kd b) = some (.int kd (kd.wrap (a * b)))) ∧
    (∀ (P : Program) (t : TypeId) (kd : IntKind) (a b : Int), aBin P .and t (.int kd a) (.int kd b) = some (.int kd (bits .and kd a b))) ∧
    (∀ (P : Program) (t : TypeId) (kd : IntKind) (a b : Int), aBin P .or t (.int kd a) (.int kd b) = some (.int kd (bits .or kd a b))) ∧
    (∀ (P : Program) (t : TypeId) (kd : IntKind) (a b : Int), aBin P .xor t (.int kd a) (.int kd b) = some (.int kd (bits .xor kd a b))) ∧
    (∀ (P : Program) (t : TypeId) (kd : IntKind) (a b : Int), aBin P .eql t (.int kd a) (.int kd b) = some (.bool (decide (a = b)))) ∧
    (∀ (P : Program) (t : TypeId) (kd : IntKind) (a b : Int), aBin P .neq t (.int kd a) (.int kd b) = some (.bool (!decide (a = b)))) ∧
    (∀ (P : Program) (t : TypeId) (kd : IntKind) (a b : Int), aBin P .lss t (.int kd a) (.int kd b) = some (.bool (decide (a < b)))) ∧
    (∀ (P : Program) (t : TypeId) (kd : IntKind) (a b : Int), aBin P .leq t (.int kd a) (.int kd b) = some (.bool (decide (a ≤ b)))) ∧
    (∀ (P : Program) (t : TypeId) (kd : IntKind) (a b : Int), aBin P .gtr t (.int kd a) (.int kd b) = some (.bool (decide (b < a)))) ∧
    (∀ (P : Program) (t : TypeId) (kd : IntKind) (a b : Int), aBin P .geq t (.int kd a) (.int kd b) = some (.bool (decide (b ≤ a)))) ∧
    (∀ (P : Program) (t : TypeId) (kd : IntKind) (a b : Int), aBin P .quo t (.int kd a) (.int kd b) = if b = 0 then none else some (.int kd (kd.wrap (a.tdiv b)))) ∧
    (∀ (P : Program) (t : TypeId) (kd : IntKind) (a b : Int), aBin P .rem t (.int kd a) (.int kd b) = if b = 0 then none else some (.int kd (a.tmod b))) ∧
    (∀ (P : Program) (t : TypeId) (kd : IntKind) (a b : Int) (j : IntKind), aBin P .shl t (.int kd a) (.int j b) = if 0 ≤ b then some (.int kd (kd.wrap (a * 2 ^ (min b.toNat kd.bits)))) else none) ∧
    (∀ (P : Program) (t : TypeId) (kd : IntKind) (a b : Int) (j : IntKind), aBin P .shr t (.int kd a) (.int j b) = if 0 ≤ b then some (.int kd (a.fdiv (2 ^ (min b.toNat kd.bits)))) else none) ∧
    (∀ (P : Program) (t : TypeId) (l m : List Int), aBin P .eql t (.str l) (.str m) = some (.bool (decide (l = m)))) ∧
    (∀ (P : Program) (t : TypeId) (l m : List Int), aBin P .neq t (.str l) (.str m) = some (.bool (!decide (l = m)))) ∧
    (∀ (P : Program) (t : TypeId) (a b : Bool), aBin P .eql t (.bool a) (.bool b) = if boolT P t = true then some (.bool (decide (a = b))) else none) ∧
    (∀ (P : Program) (t : TypeId) (a b : Bool), aBin P .neq t (.bool a) (.bool b) = if boolT P t = true then some (.bool (!decide (a = b))) else none) ∧
    (∀ (P : Program) (t : TypeId) (a b : List AV), aBin P .eql t (.agg a) (.agg b) = (eqT P t).bind fun os => (eqCells a b os).map .bool) ∧
    (∀ (P : Program) (t : TypeId) (a b : List AV), aBin P .neq t (.agg a) (.agg b) = (eqT P t).bind fun os => (eqCells a b os).map fun r => .bool (!r)) ∧
    (∀ (a b : List AV), eqCells a b [] = some true) ∧
    (∀ (a b : List AV) (o g : Nat) (os : List (Nat × Nat)), eqCells a b ((o, g) :: os) = (a[o]?).bind fun c => (b[o]?).bind fun d => (eqOne g c d).bind fun r => (eqCells a b os).map fun s => r && s) :=
  ⟨(fun P t kd a b => by simp [aBin, aArith]),
   (fun P t kd a b => by simp [aBin, aArith]),
   (fun P t kd a b => by simp [aBin, aArith]),
   (fun P t kd a b => by simp [aBin, aArith]),
   (fun P t kd a b => by simp [aBin, aArith]),
   (fun P t kd a b => by simp [aBin, aArith]),
   (fun P t kd a b => by simp [aBin, aArith]),
   (fun P t kd a b => by simp [aBin, aArith]),
   (fun P t kd a b => by simp [aBin, aArith]),
   (fun P t kd a b => by simp [aBin, aArith]),
   (fun P t kd a b => by simp [aBin, aArith]),
   (fun P t kd a b => by simp [aBin, aArith]),
   (fun P t kd a b => by simp [aBin, aArith]),
   (fun P t kd a b => by simp [aBin, aArith]),
   (fun P t kd a b j => rfl),
   (fun P t kd a b j => rfl),
   (fun P t l m => rfl),
   (fun P t l m => rfl),
   (fun P t a b => rfl),
   (fun P t a b => rfl),
   (fun P t a b => rfl),
   (fun P t a b => rfl),
   (fun a b => rfl),
   (fun a b o g os => rfl)⟩
theorem AW7 : (∀ (k : IntKind) (a b : Int), eqOne 0 (.int k a) (.int k b) = some (decide (a = b))) ∧
    (∀ (a b : Bool), eqOne 1 (.bool a) (.bool b) = some (decide (a = b))) ∧
    (∀ (a b : List Int), eqOne 2 (.str a) (.str b) = some (decide (a = b))) ∧
    (∀ (b : Bool), aUn .not (.bool b) = some (.bool (!b))) ∧
    (∀ (kd : IntKind) (a : Int), aUn .neg (.int kd a) = some (.int kd (kd.wrap (0 - a)))) ∧
    (∀ (kd : IntKind) (a : Int), aUn .xor (.int kd a) = some (.int kd (bits .xor kd (if kd.signed then -1 else kd.max) a))) ∧
    (∀ (vs : List AV) (i : Nat), aExtract (.tup vs) i = vs[i]?) ∧
    (∀ (l : List AV) (t : Nat), tm0 l t = (l[t]?).getD (.tup [])) ∧
    (∀ (tm : Nat → AV) (f : Nat) (as : Array Operand) (ts : Array TypeId), calleeA tm ⟨.value (.func f), as, ts⟩ = some (f, as.toList.map (evA tm))) ∧
    (∀ (tm : Nat → AV) (f : Nat) (as : List Operand) (ts : Array TypeId), calleeW tm ⟨.value (.func f), as.toArray, ts⟩ = some (f, as.map fun x => weakA (evA tm x))) ∧
    (weakA .zs = .sl []) ∧
    (∀ (cs : List AV), weakA (.agg cs) = .agg (cs.map weak1)) ∧
    (∀ (b : Bool), weakA (.bool b) = .bool b) ∧
    (∀ (b : Bool), weak1 (.bool b) = .bool b) ∧
    (∀ (kd : IntKind) (n : Int), weakA (.int kd n) = .int kd n) ∧
    (∀ (kd : IntKind) (n : Int), weak1 (.int kd n) = .int kd n) ∧
    (∀ (l : List Int), weakA (.str l) = .str l) ∧
    (∀ (l : List Int), weak1 (.str l) = .str l) ∧
    (weak1 .zs = .sl []) ∧
    (∀ (es : List (List AV)), weakA (.sl es) = .sl es) ∧
    (∀ (es : List (List AV)), weak1 (.sl es) = .sl es) ∧
    (∀ (n o l : Nat), weakA (.hs n o l) = .hs n o l) ∧
    (∀ (n o l : Nat), weak1 (.hs n o l) = .hs n o l) ∧
    (weakA (.nilp) = .nilp) :=
  ⟨(fun k a b => by simp [eqOne]),
   (fun a b => rfl),
   (fun a b => rfl),
   (fun b => rfl),
   (fun kd a => rfl),
   (fun kd a => rfl),
   (fun vs i => rfl),
   (fun l t => rfl),
   (fun tm f as ts => by simp [calleeA, evA]),
   (fun tm f as ts => by simp [calleeW, calleeA, evA]),
   (rfl),
   (fun cs => rfl),
   (fun b => rfl),
   (fun b => rfl),
   (fun kd n => rfl),
   (fun kd n => rfl),
   (fun l => rfl),
   (fun l => rfl),
   (rfl),
   (fun es => rfl),
   (fun es => rfl),
   (fun n o l => rfl),
   (fun n o l => rfl),
   (rfl)⟩
theorem AW8 : (weak1 (.nilp) = .nilp) ∧
    (∀ (n e j : Nat), weakA (.ptr n e j) = .ptr n e j) ∧
    (∀ (n e j : Nat), weak1 (.ptr n e j) = .ptr n e j) ∧
    (∀ (cs : List AV), weakA (.ip cs) = .ip cs) ∧
    (∀ (cs : List AV), weak1 (.ip cs) = .ip cs) ∧
    (∀ (f : Fn) (as bs : List AV), weakA (.fn f as bs) = .fn f as bs) ∧
    (∀ (f : Fn) (as bs : List AV), weak1 (.fn f as bs) = .fn f as bs) ∧
    (weakA (.nilf) = .nilf) ∧
    (weak1 (.nilf) = .nilf) ∧
    (∀ (t : TypeId) (v : AV), weakA (.iface t v) = .iface t v) ∧
    (∀ (t : TypeId) (v : AV), weak1 (.iface t v) = .iface t v) ∧
    (weakA (.niliface) = .niliface) ∧
    (weak1 (.niliface) = .niliface) ∧
    (∀ (d : Int), bndOr d none = some d) ∧
    (∀ (d : Int) (kd : IntKind) (i : Int), bndOr d (some (.int kd i)) = some i) ∧
    (∀ (P : Program) (t : TypeId) (l : List Int), aLen P t (.str l) = (strK (kT P t)).map fun _ => .int .i64 l.length) ∧
    (∀ (P : Program) (h : AHeap) (t : TypeId) (es : List (List AV)) (lo hi : Option AV), aSlice P h t (.sl es) lo hi none = (elemK (kT P t)).bind fun e => (sizeT P e).bind fun n => (bndOr 0 lo).bind fun l => (bndOr es.length hi).bind fun u => if 0 ≤ l ∧ l ≤ u ∧ u ≤ es.length ∧ es.all (fun c => c.length == n) = true then some (.sl ((es.take u.toNat).drop l.toNat)) else none) ∧
    (∀ (P : Program) (h : AHeap) (t : TypeId) (m off len : Nat) (lo hi : Option AV), aSlice P h t (.hs m off len) lo hi none = (elemK (kT P t)).bind fun e => (sizeT P e).bind fun n => (h m).bind fun kb => (bndOr 0 lo).bind fun l => (bndOr len hi).bind fun u => if 0 ≤ l ∧ l ≤ u ∧ u ≤ len ∧ kb.sz = n then some (.hs m (off + l.toNat) (u.toNat - l.toNat)) else none) ∧
    (∀ (P : Program) (h : AHeap) (t : TypeId) (lo hi : Option AV), aSlice P h t .zs lo hi none = (elemK (kT P t)).bind fun e => (sizeT P e).bind fun n => (bndOr 0 lo).bind fun l => (bndOr 0 hi).bind fun u => if l = 0 ∧ u = 0 then some .zs else none) ∧
    (∀ (P : Program) (h : AHeap) (t : TypeId) (s : List Int) (lo hi : Option AV), aSlice P h t (.str s) lo hi none = (strK (kT P t)).bind fun _ => (bndOr 0 lo).bind fun l => (bndOr s.length hi).bind fun u => if 0 ≤ l ∧ l ≤ u ∧ u ≤ s.length then some (.str ((s.take u.toNat).drop l.toNat)) else none) ∧
    (∀ (P : Program) (h : AHeap) (t u : TypeId) (m off len : Nat) (y : AV), aCopy P h t u (.hs m off len) y = (elemK (kT P t)).bind fun e => (sizeT P e).bind fun n => (h m).bind fun kb => (aRow h n y).bind fun ys => if kb.sz = n ∧ off + len ≤ kb.es.length then some (.int .i64 (min ys.length len : Nat), upd h m (some ⟨n, rowPut kb.es off (ys.take len)⟩)) else none) ∧
    (∀ (P : Program) (h : AHeap) (t u : TypeId) (y : AV), aCopy P h t u .zs y = (elemK (kT P t)).bind fun e => (sizeT P e).bind fun n => (aRow h n y).bind fun ys => some (.int .i64 0, h)) ∧
    (∀ (P : Program) (h : AHeap) (t : TypeId) (m off len : Nat), aClear P h t (.hs m off len) = (elemK (kT P t)).bind fun e => (zeroT P e).bind fun zs => (h m).bind fun kb => if kb.sz = zs.length ∧ off + len ≤ kb.es.length ∧ zs.all AV.one = true then some (upd h m (some ⟨kb.sz, rowPut kb.es off (List.replicate len zs)⟩)) else none) ∧
    (∀ (P : Program) (h : AHeap) (t : TypeId), aClear P h t .zs = (elemK (kT P t)).map fun _ => h) :=
  ⟨(rfl),
   (fun n e j => rfl),
   (fun n e j => rfl),
   (fun cs => rfl),
   (fun cs => rfl),
   (fun f as bs => rfl),
   (fun f as bs => rfl),
   (rfl),
   (rfl),
   (fun t v => rfl),
   (fun t v => rfl),
   (rfl),
   (rfl),
   (fun d => rfl),
   (fun d kd i => rfl),
   (fun P t l => aLen_s _ _ _ ),
   (fun P h t es lo hi => aSlice_sl _ _ _ _ _ _ ),
   (fun P h t m off len lo hi => aSlice_hs _ _ _ _ _ _ _ _ ),
   (fun P h t lo hi => aSlice_zs _ _ _ _ _ ),
   (fun P h t s lo hi => aSlice_s _ _ _ _ _ _ ),
   (fun P h t u m off len y => aCopy_hs _ _ _ _ _ _ _ _ ),
   (fun P h t u y => aCopy_zs _ _ _ _ _ ),
   (fun P h t m off len => aClear_hs _ _ _ _ _ _ ),
   (fun P h t => aClear_zs _ _ _ )⟩
theorem AW9 : (∀ (P : Program) (h : AHeap) (t : TypeId) (lo hi : Option AV) (kd : IntKind) (m : Int), aSlice P h t .zs lo hi (some (.int kd m)) = (elemK (kT P t)).bind fun e => (sizeT P e).bind fun n => (bndOr 0 lo).bind fun l => (bndOr (-1) hi).bind fun u => if l = 0 ∧ u = 0 ∧ m = 0 then some .zs else none) ∧
    (∀ (P : Program) (h : AHeap) (t : TypeId) (es : List (List AV)) (lo hi : Option AV) (kd : IntKind) (m : Int), aSlice P h t (.sl es) lo hi (some (.int kd m)) = (elemK (kT P t)).bind fun e => (sizeT P e).bind fun n => (bndOr 0 lo).bind fun l => (bndOr (-1) hi).bind fun u => if l = 0 ∧ u = 0 ∧ m = 0 then some .zs else none) ∧
    (∀ (P : Program) (h : AHeap) (t : TypeId) (a b c : Nat) (lo hi : Option AV) (kd : IntKind) (m : Int), aSlice P h t (.hs a b c) lo hi (some (.int kd m)) = (elemK (kT P t)).bind fun e => (sizeT P e).bind fun n => (bndOr 0 lo).bind fun l => (bndOr (-1) hi).bind fun u => if l = 0 ∧ u = 0 ∧ m = 0 then some .zs else none) ∧
    (strK (some .str) = some ()) ∧
    (∀ (P : Program) (h : AHeap) (k : Nat) (t : TypeId), aBuiltin P h k .cap [t] [.zs] = if (elemK (kT P t)).isSome = true then some (.int .i64 0, h, k) else none) ∧
    (∀ (e : TypeId), (some e).isSome = true) ∧
    (∀ (α β : Type) (f : α → β), Option.map f none = none) ∧
    (∀ (f : Operand → AV), Option.map f none = none) ∧
    (∀ (α β : Type) (f : α → Option β) (a : α), (some a).bind f = f a) ∧
    (∀ (α β : Type) (f : α → β) (a : α), (some a).map f = some (f a)) ∧
    (∀ (α : Type) (a d : α), (some a).getD d = a) ∧
    (∀ (α : Type) (d : α), (none : Option α).getD d = d) ∧
    (∀ (α : Type) (p : α → Bool), ([] : List α).all p = true) ∧
    (∀ (α : Type) (p : α → Bool) (a : α) (l : List α), (a :: l).all p = (p a && l.all p)) ∧
    (∀ (b : Bool), (true && b) = b) ∧
    (∀ (b : Bool), (b && true) = b) ∧
    (∀ (α : Type) (a : α) (l : List α), (a :: l)[0]? = some a) ∧
    (∀ (α : Type) (a : α) (l : List α) (i : Nat), (a :: l)[i + 1]? = l[i]?) ∧
    (∀ (α : Type) (a : α) (l : List α), (a :: l).length = l.length + 1) ∧
    (∀ (α : Type), ([] : List α).length = 0) ∧
    (∀ (α : Type) (l : List α), l.drop 0 = l) ∧
    (∀ (α : Type) (a : α) (l : List α) (n : Nat), (a :: l).drop (n + 1) = l.drop n) ∧
    (∀ (α : Type) (l : List α), l.take 0 = []) ∧
    (∀ (α : Type) (a : α) (l : List α) (n : Nat), (a :: l).take (n + 1) = a :: l.take n) :=
  ⟨(fun P h t lo hi kd m => aSlice_m P h t _ lo hi kd m (.inl rfl)),
   (fun P h t es lo hi kd m => aSlice_m P h t _ lo hi kd m (.inr (.inl ⟨_, rfl⟩))),
   (fun P h t a b c lo hi kd m => aSlice_m P h t _ lo hi kd m (.inr (.inr ⟨_, _, _, rfl⟩))),
   (rfl),
   (fun P h k t => by rw [← elemT_eq]; rfl),
   (fun e => rfl),
   (fun α β f => rfl),
   (fun f => rfl),
   (fun α β f a => rfl),
   (fun α β f a => rfl),
   (fun α a d => rfl),
   (fun α d => rfl),
   (fun α p => rfl),
   (fun α p a l => by simp),
   (fun b => by simp),
   (fun b => by simp),
   (fun α a l => rfl),
   (fun α a l i => rfl),
   (fun α a l => rfl),
   (fun α => rfl),
   (fun α l => rfl),
   (fun α a l n => rfl),
   (fun α l => by simp),
   (fun α a l n => rfl)⟩
theorem AW10 : (∀ (α : Type) (n : Nat), ([] : List α).drop n = []) ∧
    (∀ (α : Type) (n : Nat), ([] : List α).take n = []) ∧
    (∀ (α : Type) (l : List α), [] ++ l = l) ∧
    (∀ (α : Type) (a : α) (l m : List α), (a :: l) ++ m = a :: (l ++ m)) ∧
    (∀ (α : Type) (l : List α), l ++ [] = l) ∧
    (∀ (α : Type) (a b : α) (l : List α), (a :: l).set 0 b = b :: l) ∧
    (∀ (α : Type) (a b : α) (l : List α) (i : Nat), (a :: l).set (i + 1) b = a :: l.set i b) ∧
    (∀ (α β : Type) (f : α → β), [].map f = []) ∧
    (∀ (α β : Type) (f : α → β) (a : α) (l : List α), (a :: l).map f = f a :: l.map f) ∧
    (∀ (α : Type) (a : α), List.replicate 0 a = []) ∧
    (∀ (α : Type) (a : α) (n : Nat), List.replicate (n + 1) a = a :: List.replicate n a) ∧
    (∀ (α : Type) (a : α) (l : List α), (a :: l).head? = some a) ∧
    (∀ (n : Nat), ((n : Nat) : Int).toNat = n) ∧
    (∀ (n : Nat), 0 ≤ (n : Int) ↔ True) ∧
    (∀ (a : Nat), 0 + a = a) ∧
    (∀ (a : Nat), a + 0 = a) ∧
    (∀ (α : Type) (a b : α), some a = some b ↔ a = b) ∧
    (∀ (α : Type) (a : α), a = a ↔ True) ∧
    (∀ (p : Prop), (True ∧ p) ↔ p) ∧
    (∀ (p : Prop), (p ∧ True) ↔ p) ∧
    (∀ (α : Type) (a b : α), (if True then a else b) = a) ∧
    (∀ (α : Type) (a b : α), (if False then a else b) = b) ∧
    (∀ (α : Type) (a : α) (l : List α), (a :: l ≠ []) ↔ True) ∧
    (∀ (n : Nat), 0 ≤ n ↔ True) :=
  ⟨(fun α n => by simp),
   (fun α n => by simp),
   (fun α l => rfl),
   (fun α a l m => rfl),
   (fun α l => by simp),
   (fun α a b l => rfl),
   (fun α a b l i => rfl),
   (fun α β f => rfl),
   (fun α β f a l => rfl),
   (fun α a => rfl),
   (fun α a n => rfl),
   (fun α a l => rfl),
   (fun n => by simp),
   (fun n => by simp),
   (fun a => by simp),
   (fun a => rfl),
   (fun α a b => by simp),
   (fun α a => by simp),
   (fun p => by simp),
   (fun p => by simp),
   (fun α a b => by simp),
   (fun α a b => by simp),
   (fun α a l => by simp),
   (fun n => by simp)⟩
end Go.Proofs.YtjidgdfdeckofaaDoor.AE
/- Loops, conditions, ends, as a walk wants them. No program in sight. -/
namespace Go.Proofs.YtjidgdfdeckofaaDoor.AE
open Go Go.RowKit
set_option linter.unusedVariables false
set_option linter.unusedSimpArgs false
section
variable {P : Program} {nt : Nat} {Q : AX → St → Prop} {st : St} {c x y : Code} {o : Operand}
theorem aWp_cond_t [ρ : Rnd] (hc : evA st.tm o = .bool true) (h : aWp P nt x Q st) : aWp P nt (.cond o x y) Q st := aWp_cond hc h
theorem aWp_cond_f [ρ : Rnd] (hc : evA st.tm o = .bool false) (h : aWp P nt y Q st) : aWp P nt (.cond o x y) Q st := aWp_cond hc h
/-- Temporaries that are none of W hold what they held; blocks whose names are below n are what they were. -/
def Agree (W : List Nat) (base tm : Nat → AV) : Prop := ∀ t, W.contains t = false → tm t = base t
def HAgree (n : Nat) (h0 h : AHeap) : Prop := ∀ m, m < n → h m = h0 m
theorem Agree.refl (W : List Nat) (base : Nat → AV) : Agree W base base := fun _ _ => rfl
theorem Agree.upd {W : List Nat} {base tm : Nat → AV} {d : Nat} {v : AV} (hd : W.contains d = true) (h : Agree W base tm) : Agree W base (upd tm d v) := fun t ht => by
  rw [upd_ne]
  · exact h t ht
  · rintro rfl
    rw [hd] at ht
    cases ht
theorem HAgree.refl (n : Nat) (h : AHeap) : HAgree n h h := fun _ _ => rfl
theorem HAgree.upd {n k : Nat} {h0 h : AHeap} {b : Option Blk} (hk : n ≤ k) (ha : HAgree n h0 h) : HAgree n h0 (upd h k b) := fun m hm => by
  rw [upd_ne _ _ _ (by omega)]
  exact ha m hm
theorem HAgree.trans {n n' : Nat} {a b c : AHeap} (h : HAgree n a b) (k : HAgree n' b c) (hn : n ≤ n') : HAgree n a c := fun m hm => by rw [k m (by omega), h m hm]
theorem HAgree.upd_r {n k : Nat} {h0 h : AHeap} {b : Option Blk} (hk : n ≤ k) (ha : HAgree n h0 h) : HAgree n (AE.upd h0 k b) h := fun m hm => by
  rw [upd_ne _ _ _ (by omega)]
  exact ha m hm
/-- A loop in whose rounds only temporaries of W and blocks from n0 on turn. -/
theorem W_loop [ρ : Rnd] {tm : Nat → AV} {h : AHeap} {k : Nat} {df : List ADef} (W : List Nat) (n0 : Nat) (I : Nat → (Nat → AV) → AHeap → Nat → Prop) (n : Nat) (hn0 : n0 ≤ k) (h0 : I n tm h k)
    (round : ∀ n tm' h' k', I n tm' h' k' → (∀ t, W.contains t = false → tm' t = tm t) → (∀ m, m < n0 → h' m = h m) → n0 ≤ k' →
      aWp P nt c (AX.andThen (fun s => ∃ m, m < n ∧ I m s.tm s.h s.nx ∧ Agree W tm s.tm ∧ HAgree n0 h s.h ∧ n0 ≤ s.nx ∧ s.df = df) Q) ⟨tm', h', k', df⟩) : aWp P nt (.loop c) Q ⟨tm, h, k, df⟩ := by
  refine aWp_loop (fun n s => I n s.tm s.h s.nx ∧ Agree W tm s.tm ∧ HAgree n0 h s.h ∧ n0 ≤ s.nx ∧ s.df = df) n ⟨h0, .refl _ _, .refl _ _, hn0, rfl⟩ ?_
  rintro n ⟨tm', h', k', df'⟩ ⟨h1, h2, h3, h4, h5⟩
  simp only at h5
  subst h5
  exact round n tm' h' k' h1 h2 h3 h4
/-- The end of a function that leaves memory as it was. -/
theorem W_end {fn : Func} {tm : Nat → AV} {h h0 : AHeap} {k nx : Nat} {v a : AV} {rs : List ResultVar} (hk : nx ≤ k) (hh : HAgree nx h0 h) (hrs : fn.results.toList = rs) (hr : resA P ⟨tm, h, k, []⟩ rs = some a) (hf : frzV nx h a = some v) : endQ P fn nx h0 v .ret ⟨tm, h, k, []⟩ :=
  ⟨rfl, hk, hh, a, by rw [hrs]; exact hr, hf⟩
end
theorem resA_tmp (P : Program) (s : St) (t : Nat) : resA P s [.tmp t] = some (s.tm t) := rfl
theorem resA_tmp2 (P : Program) (s : St) (t u : Nat) : resA P s [.tmp t, .tmp u] = some (.tup [s.tm t, s.tm u]) := rfl
theorem resA_tmp3 (P : Program) (s : St) (t u v : Nat) : resA P s [.tmp t, .tmp u, .tmp v] = some (.tup [s.tm t, s.tm u, s.tm v]) := rfl
theorem resA_none (P : Program) (s : St) : resA P s [] = some (.tup []) := rfl
theorem frz_tup (nx : Nat) (h : AHeap) (vs : List AV) : frzV nx h (.tup vs) = (frzM nx h vs).map .tup := rfl
theorem frz_nil (nx : Nat) (h : AHeap) : frzM nx h [] = some [] := rfl
theorem frz_cons (nx : Nat) (h : AHeap) (a : AV) (l : List AV) : frzM nx h (a :: l) = (frz2 nx h a).bind fun b => (frzM nx h l).map fun m => b :: m := rfl
theorem frz2_agg (nx : Nat) (h : AHeap) (cs : List AV) : frz2 nx h (.agg cs) = (frzL nx h cs).map .agg := rfl
theorem frzV_agg (nx : Nat) (h : AHeap) (cs : List AV) : frzV nx h (.agg cs) = (frzL nx h cs).map .agg := rfl
theorem frzL_nil (nx : Nat) (h : AHeap) : frzL nx h [] = some [] := rfl
theorem frzL_cons (nx : Nat) (h : AHeap) (a : AV) (l : List AV) : frzL nx h (a :: l) = (frz1 nx h a).bind fun b => (frzL nx h l).map fun m => b :: m := rfl
theorem frz1_hs (nx : Nat) (h : AHeap) (n off len : Nat) : frz1 nx h (.hs n off len) = if nx ≤ n then (h n).bind fun k => if off + len ≤ k.es.length then some (.sl ((k.es.drop off).take len)) else none else none := rfl
theorem frz2_hs (nx : Nat) (h : AHeap) (n off len : Nat) : frz2 nx h (.hs n off len) = frz1 nx h (.hs n off len) := rfl
theorem frzV_hs (nx : Nat) (h : AHeap) (n off len : Nat) : frzV nx h (.hs n off len) = frz1 nx h (.hs n off len) := rfl
/-- What a function answers, by rules. -/
def tupOf : List AV → AV
  | [v] => v
  | vs => .tup vs
def resC (P : Program) (h : AHeap) (t : TypeId) : AV → Option AV
  | .ptr n e j => aLoad P h t (.ptr n e j)
  | _ => none
theorem RES : (∀ (P : Program) (s : St) (rs : List ResultVar), resA P s rs = (resAll P s rs).map tupOf) ∧
    (∀ (P : Program) (s : St), resAll P s [] = some []) ∧
    (∀ (P : Program) (tm : Nat → AV) (h : AHeap) (k : Nat) (df : List ADef) (t : Nat) (rs : List ResultVar), resAll P ⟨tm, h, k, df⟩ (.tmp t :: rs) = (resAll P ⟨tm, h, k, df⟩ rs).map fun vs => tm t :: vs) ∧
    (∀ (P : Program) (tm : Nat → AV) (h : AHeap) (k : Nat) (df : List ADef) (a : Nat) (t : TypeId) (rs : List ResultVar), resAll P ⟨tm, h, k, df⟩ (.cell a t :: rs) = (resC P h t (tm a)).bind fun v => (resAll P ⟨tm, h, k, df⟩ rs).map fun vs => v :: vs) ∧
    (∀ (P : Program) (h : AHeap) (t : TypeId) (n e j : Nat), resC P h t (.ptr n e j) = (aPlace h (.ptr n e j)).bind (loadK (kT P t) (sizeT P t))) ∧
    (∀ v : AV, tupOf [v] = v) ∧ (tupOf [] = .tup []) ∧ (∀ (a b : AV) (l : List AV), tupOf (a :: b :: l) = .tup (a :: b :: l)) :=
  ⟨fun P s rs => by unfold resA; congr 1, fun P s => rfl, fun P tm h k df t rs => rfl, fun P tm h k df a t rs => by
    rw [resAll]
    simp only [resOne]
    cases tm a <;> rfl, fun P h t n e j => by rw [← aLoad_eq]; rfl, fun v => rfl, rfl, fun a b l => rfl⟩
theorem FZ : (∀ (nx : Nat) (h : AHeap) (b : Bool), frz1 nx h (.bool b) = some (.bool b)) ∧
    (∀ (nx : Nat) (h : AHeap) (b : Bool), frz2 nx h (.bool b) = some (.bool b)) ∧
    (∀ (nx : Nat) (h : AHeap) (b : Bool), frzV nx h (.bool b) = some (.bool b)) ∧
    (∀ (nx : Nat) (h : AHeap) (k : IntKind) (n : Int), frz1 nx h (.int k n) = some (.int k n)) ∧
    (∀ (nx : Nat) (h : AHeap) (k : IntKind) (n : Int), frz2 nx h (.int k n) = some (.int k n)) ∧
    (∀ (nx : Nat) (h : AHeap) (k : IntKind) (n : Int), frzV nx h (.int k n) = some (.int k n)) ∧
    (∀ (nx : Nat) (h : AHeap) (l : List Int), frz1 nx h (.str l) = some (.str l)) ∧
    (∀ (nx : Nat) (h : AHeap) (l : List Int), frz2 nx h (.str l) = some (.str l)) ∧
    (∀ (nx : Nat) (h : AHeap) (l : List Int), frzV nx h (.str l) = some (.str l)) ∧
    (∀ (nx : Nat) (h : AHeap) , frz1 nx h (.zs) = some (.sl [])) ∧
    (∀ (nx : Nat) (h : AHeap) , frz2 nx h (.zs) = some (.sl [])) ∧
    (∀ (nx : Nat) (h : AHeap) , frzV nx h (.zs) = some (.sl [])) ∧
    (∀ (nx : Nat) (h : AHeap) (es : List (List AV)), frz1 nx h (.sl es) = some (.sl es)) ∧
    (∀ (nx : Nat) (h : AHeap) (es : List (List AV)), frz2 nx h (.sl es) = some (.sl es)) ∧
    (∀ (nx : Nat) (h : AHeap) (es : List (List AV)), frzV nx h (.sl es) = some (.sl es)) ∧
    (∀ (nx : Nat) (h : AHeap) , frz1 nx h (.nilp) = some (.nilp)) ∧
    (∀ (nx : Nat) (h : AHeap) , frz2 nx h (.nilp) = some (.nilp)) ∧
    (∀ (nx : Nat) (h : AHeap) , frzV nx h (.nilp) = some (.nilp)) ∧
    (∀ (nx : Nat) (h : AHeap) , frz1 nx h (.niliface) = some (.niliface)) ∧
    (∀ (nx : Nat) (h : AHeap) , frz2 nx h (.niliface) = some (.niliface)) ∧
    (∀ (nx : Nat) (h : AHeap) , frzV nx h (.niliface) = some (.niliface)) ∧
    (∀ (nx : Nat) (h : AHeap) (t : TypeId) (v : AV), frz1 nx h (.iface t v) = some (.iface t v)) ∧
    (∀ (nx : Nat) (h : AHeap) (t : TypeId) (v : AV), frz2 nx h (.iface t v) = some (.iface t v)) ∧
    (∀ (nx : Nat) (h : AHeap) (t : TypeId) (v : AV), frzV nx h (.iface t v) = some (.iface t v)) :=
  ⟨(fun nx h b => rfl), (fun nx h b => rfl), (fun nx h b => rfl), (fun nx h k  n => rfl), (fun nx h k  n => rfl), (fun nx h k  n => rfl), (fun nx h l => rfl), (fun nx h l => rfl), (fun nx h l => rfl), (fun nx h => rfl), (fun nx h => rfl), (fun nx h => rfl), (fun nx h es => rfl), (fun nx h es => rfl), (fun nx h es => rfl), (fun nx h => rfl), (fun nx h => rfl), (fun nx h => rfl), (fun nx h => rfl), (fun nx h => rfl), (fun nx h => rfl), (fun nx h t  v => rfl), (fun nx h t  v => rfl), (fun nx h t  v => rfl)⟩
end Go.Proofs.YtjidgdfdeckofaaDoor.AE
/- Regions whose order is drawn: whatever the order, the walk in the text's order tells the outcome, if what is not ordered does not meet. No program in sight. -/
namespace Go.Proofs.YtjidgdfdeckofaaDoor.AE
open Go Go.RowKit
set_option linter.unusedVariables false
set_option linter.unusedSimpArgs false
variable {P : Program}
def ovr (h : AHeap) : List (Nat × Option Blk) → AHeap
  | [] => h
  | w :: ws => ovr (upd h w.1 w.2) ws
/-- What an operation does: its value, what it reads, what it writes. -/
structure Ac where
  v : AV
  rd : List Nat
  ws : List (Nat × Option Blk)
/-- What holds an owned row may name it otherwise. -/
def RenOk (mk : AV → AV) : Prop := ∀ (σ : Sig) (w : World) (X : Nat → Nat → Prop) (B : Nat) (m n len : Nat) (r : Rng) (u : Value), σ m = some r → σ n = some r → VR σ w X B (mk (.hs m 0 len)) u → VR σ w X B (mk (.hs n 0 len)) u
theorem RenOk.id : RenOk fun v => v := fun σ w X B m n len r u hm hn hv => by
  cases hv with
  | hs _ _ _ ad cap r' hr' hcap hb hor =>
  rw [hm] at hr'
  cases hr'
  exact .hs _ _ _ ad cap r hn hcap hb hor
theorem RenOk.agg {c d : List AV} : RenOk fun v => .agg (c ++ v :: d) := fun σ w X B m n len r u hm hn hv => by
  obtain ⟨us, rfl, h1⟩ := VR.agg_iff.1 hv
  refine VR.agg_iff.2 ⟨us, rfl, by simpa using h1.1, fun j x v hx hu => ?_⟩
  by_cases hj : j = c.length
  · subst hj
    simp at hx
    subst hx
    exact RenOk.id σ w X B m n len r v hm hn (h1.2 c.length _ v (by simp) hu)
  · refine h1.2 j x v ?_ hu
    rcases Nat.lt_or_ge j c.length with q | q
    · rw [List.getElem?_append_left q] at hx ⊢; exact hx
    · rw [List.getElem?_append_right q] at hx ⊢
      obtain ⟨t, ht⟩ : ∃ t, j - c.length = t + 1 := ⟨j - c.length - 1, by omega⟩
      rw [ht] at hx ⊢
      exact hx
/-- That an operation does this, at temporaries tm, wherever what it reads is as in h; kk: the name that it may give. -/
def ActOk (P : Program) (ops : Array Oper) (o : Oper) (tm : Nat → AV) (h : AHeap) (kk : Nat) (a : Ac) : Prop :=
  (guardA ops tm o.guard = some false ∧ a.v = .tup [] ∧ a.ws = []) ∨
  (guardA ops tm o.guard = some true ∧
    ((∀ g : AHeap, (∀ m ∈ a.rd, g m = h m) → ∃ k', aop P o.op tm g kk = some (a.v, ovr g a.ws, k') ∧ kk ≤ k' ∧ k' ≤ kk + 1) ∨
     (∃ cl f args, o.op = .call cl ∧ calleeW tm cl = some (f, args) ∧ callable P f = true ∧ ∀ (g : AHeap) (nx : Nat), (∀ m ∈ a.rd, g m = h m) → aCalls P f args g nx (fun e h' k' => e = .ret a.v ∧ h' = ovr g a.ws)) ∨
     (∃ cl f args sz es mk, RenOk mk ∧ o.op = .call cl ∧ calleeW tm cl = some (f, args) ∧ callable P f = true ∧ a.v = mk (.hs kk 0 es.length) ∧ a.ws = [(kk, some ⟨sz, es⟩)] ∧ ∀ (g : AHeap) (nx : Nat), aCalls P f args g nx (fun e h' k' => ∃ m, e = .ret (mk (.hs m 0 es.length)) ∧ h' = upd g m (some ⟨sz, es⟩) ∧ nx ≤ m ∧ m < k')) ∨
     (∃ sz es, a.v = .sl es ∧ a.ws = [] ∧ ∀ g : AHeap, (∀ m ∈ a.rd, g m = h m) → aop P o.op tm g kk = some (.hs kk 0 es.length, upd g kk (some ⟨sz, es⟩), kk + 1))))
inductive Acts (P : Program) (ops : Array Oper) (k : Nat) : Nat → List Oper → (Nat → AV) → AHeap → List Ac → (Nat → AV) → AHeap → Prop
  | nil (i : Nat) (tm : Nat → AV) (h : AHeap) : Acts P ops k i [] tm h [] tm h
  | cons {i : Nat} {o : Oper} {rest : List Oper} {tm tm' : Nat → AV} {h h' : AHeap} (a : Ac) {as : List Ac} (h1 : ActOk P ops o tm h (k + i) a) (h2 : Acts P ops k (i + 1) rest (putA tm o.dst a.v) (ovr h a.ws) as tm' h') : Acts P ops k i (o :: rest) tm h (a :: as) tm' h'
/-! ### which comes ahead of which -/
def predsL : List Oper → List (List Nat) → List (List Nat)
  | [], acc => acc
  | o :: os, acc => predsL os (acc ++ [((o.after.toList.filter fun e => Region.binds .any e).flatMap fun e => e.on :: acc.getD e.on []).eraseDups])
def preds (ops : List Oper) : List (List Nat) := predsL ops []
def edgesOk : Nat → List Oper → Bool
  | _, [] => true
  | i, o :: os => (o.after.toList.all fun e => !Region.binds .any e || decide (e.on < i)) && edgesOk (i + 1) os
/-- The slots that an operation looks at, or writes. -/
def slots (ops : Array Oper) (o : Oper) : List Nat :=
  o.dst.toList ++ (o.op.operands.toList.filterMap fun | .tmp t => some t | _ => none) ++ (match o.guard with | some (j, _) => ((ops[j]?).bind (·.dst)).toList | none => [])
def ordB (ps : List (List Nat)) (i j : Nat) : Bool := if j < i then (ps.getD i []).contains j else (ps.getD j []).contains i
def slotsOk (ops : List Oper) : Bool :=
  let ps := preds ops
  ops.zipIdx.all fun (o, i) => ops.zipIdx.all fun (o', j) => i == j || (match o'.dst with | some d => !(slots ops.toArray o).contains d || ordB ps i j | none => true)
def plainOps (ops : List Oper) : Bool := ops.all fun o => match o.op with | .select .. => false | _ => true
def drawOk (ops : List Oper) : Bool := edgesOk 0 ops && slotsOk ops && plainOps ops
/-- No two that are not ordered meet in memory. -/
def namesOk (ops : List Oper) (as : List Ac) : Prop :=
  ∀ i j a b, as[i]? = some a → as[j]? = some b → i ≠ j → ∀ m, m ∈ a.rd ∨ m ∈ a.ws.map (·.1) → m ∈ b.ws.map (·.1) → ordB (preds ops) i j = true
section
/-- All that comes ahead of an operation that is ready has been done. -/
def Closed (ops : List Oper) (S : Nat → Bool) : Prop := ∀ i o, S i = true → ops[i]? = some o → ∀ e ∈ o.after, Region.binds .any e = true → S e.on = true
theorem getD_append {α : Type} (l m : List α) (i : Nat) (d : α) (h : i < l.length) : (l ++ m).getD i d = l.getD i d := by
  simp [List.getD, List.getElem?_append_left h]
theorem predsL_get : ∀ (os : List Oper) (acc : List (List Nat)) (i : Nat), i < acc.length → (predsL os acc).getD i [] = acc.getD i []
  | [], acc, i, _ => rfl
  | o :: os, acc, i, h => by
    rw [predsL, predsL_get os _ i (by simp; omega), getD_append _ _ _ _ h]
theorem mem_eraseDups {α : Type} [BEq α] [LawfulBEq α] {l : List α} {a : α} (h : a ∈ l.eraseDups) : a ∈ l := by
  exact List.mem_eraseDups.1 h
theorem predsL_sound {ops : List Oper} {S : Nat → Bool} (hc : Closed ops S) : ∀ (os : List Oper) (acc : List (List Nat)) (n : Nat), acc.length = n → (∀ j o, os[j]? = some o → ops[n + j]? = some o) → edgesOk n os = true →
    (∀ i o, i < n → ops[i]? = some o → (∀ e ∈ o.after, Region.binds .any e = true → S e.on = true) → ∀ j ∈ acc.getD i [], S j = true) →
    ∀ i o, i < n + os.length → ops[i]? = some o → (∀ e ∈ o.after, Region.binds .any e = true → S e.on = true) → ∀ j ∈ (predsL os acc).getD i [], S j = true
  | [], acc, n, hn, hops, he, h, i, o, hi, ho, hr, j, hj => h i o (by simpa using hi) ho hr j hj
  | x :: os, acc, n, hn, hops, he, h, i, o, hi, ho, hr, j, hj => by
    simp only [edgesOk, Bool.and_eq_true] at he
    have hx := hops 0 x rfl
    rw [Nat.add_zero] at hx
    refine predsL_sound hc os _ (n + 1) (by simp [hn]) (fun j o hj => by rw [show n + 1 + j = n + (j + 1) by omega]; exact hops (j + 1) o (by simpa using hj)) he.2 ?_ i o (by simp at hi; omega) ho hr j hj
    intro i o hi ho hr j hj
    by_cases hin : i < n
    · rw [getD_append _ _ _ _ (by omega)] at hj
      exact h i o hin ho hr j hj
    · obtain rfl : i = n := by omega
      rw [hx] at ho
      cases ho
      have hj2 : j ∈ ((x.after.toList.filter fun e => Region.binds .any e).flatMap fun e => e.on :: acc.getD e.on []).eraseDups := by
        have : (acc ++ [((x.after.toList.filter fun e => Region.binds .any e).flatMap fun e => e.on :: acc.getD e.on []).eraseDups]).getD i [] = ((x.after.toList.filter fun e => Region.binds .any e).flatMap fun e => e.on :: acc.getD e.on []).eraseDups := by
          rw [List.getD, List.getElem?_append_right (by omega), hn]
          simp
        rwa [this] at hj
      obtain ⟨e, he1, he2⟩ := List.mem_flatMap.1 (mem_eraseDups hj2)
      obtain ⟨he3, he4⟩ := List.mem_filter.1 he1
      have he5 := hr e (by simpa using he3) (by simpa using he4)
      rcases List.mem_cons.1 he2 with rfl | he6
      · exact he5
      · have hlt : e.on < i := by
          have := List.all_eq_true.1 he.1 e he3
          simp only [he4, Bool.not_true, Bool.false_or, decide_eq_true_eq] at this
          exact this
        cases hoe : ops[e.on]? with
        | none =>
          exfalso
          have h1 : ops.length ≤ e.on := by simpa using hoe
          have h2 := (List.getElem?_eq_some_iff.1 hx).1
          omega
        | some oe => exact h e.on oe hlt hoe (fun e' h1 h2 => hc e.on oe he5 hoe e' h1 h2) j he6
theorem preds_sound {ops : List Oper} {S : Nat → Bool} (hc : Closed ops S) (he : edgesOk 0 ops = true) {i : Nat} {o : Oper} (ho : ops[i]? = some o) (hr : ∀ e ∈ o.after, Region.binds .any e = true → S e.on = true) {j : Nat} (hj : j ∈ (preds ops).getD i []) : S j = true :=
  predsL_sound hc ops [] 0 rfl (fun j o h => by simpa using h) he (fun i o hi => by omega) i o (by have := (List.getElem?_eq_some_iff.1 ho).1; omega) ho hr j hj
/-! ### states behind some of the operations -/
def tmAt (S : Nat → Bool) : Nat → List Oper → List Ac → (Nat → AV) → (Nat → AV)
  | i, o :: os, a :: as, tm => tmAt S (i + 1) os as (if S i = true then putA tm o.dst a.v else tm)
  | _, _, _, tm => tm
def hAt (S : Nat → Bool) : Nat → List Ac → AHeap → AHeap
  | i, a :: as, h => hAt S (i + 1) as (if S i = true then ovr h a.ws else h)
  | _, [], h => h
theorem putA_other {tm : Nat → AV} {d : Option Nat} {v : AV} {t : Nat} (h : d ≠ some t) : putA tm d v t = tm t := by
  cases d with
  | none => rfl
  | some d => exact upd_ne _ _ _ (fun e => h (by rw [e]))
theorem putA_same {tm tm' : Nat → AV} {d : Option Nat} {v : AV} {t : Nat} (h : d = some t) : putA tm d v t = putA tm' d v t := by
  subst h
  simp [putA, upd_same]
theorem ovr_other : ∀ {ws : List (Nat × Option Blk)} {h : AHeap} {m : Nat}, m ∉ ws.map (·.1) → ovr h ws m = h m
  | [], _, _, _ => rfl
  | w :: ws, h, m, hm => by
    simp only [List.map_cons, List.mem_cons, not_or] at hm
    rw [ovr, ovr_other hm.2, upd_ne _ _ _ hm.1]
theorem ovr_same : ∀ {ws : List (Nat × Option Blk)} {h h' : AHeap} {m : Nat}, m ∈ ws.map (·.1) → ovr h ws m = ovr h' ws m
  | w :: ws, h, h', m, hm => by
    by_cases hw : m ∈ ws.map (·.1)
    · rw [ovr, ovr]
      exact ovr_same hw
    · simp only [List.map_cons, List.mem_cons] at hm
      rw [ovr, ovr, ovr_other hw, ovr_other hw]
      rcases hm with rfl | hm
      · rw [upd_same, upd_same]
      · exact absurd hm hw
/-- What is looked at is the same, if the same operations have written it. -/
theorem tmAt_congr {S S' : Nat → Bool} {t : Nat} : ∀ {i : Nat} {os : List Oper} {as : List Ac} {tm tm' : Nat → AV}, (∀ j o, os[j]? = some o → o.dst = some t → S (i + j) = S' (i + j)) → tm t = tm' t → tmAt S i os as tm t = tmAt S' i os as tm' t
  | i, [], as, tm, tm', _, h => by simpa [tmAt] using h
  | i, o :: os, [], tm, tm', _, h => by simpa [tmAt] using h
  | i, o :: os, a :: as, tm, tm', hd, h => by
    rw [tmAt, tmAt]
    refine tmAt_congr (fun j o' hj ho => by rw [show i + 1 + j = i + (j + 1) by omega]; exact hd (j + 1) o' (by simpa using hj) ho) ?_
    by_cases ho : o.dst = some t
    · have := hd 0 o rfl ho
      rw [Nat.add_zero] at this
      rw [← this]
      split
      · exact putA_same ho
      · exact h
    · split <;> split <;> simp only [putA_other ho, h]
theorem hAt_congr {S S' : Nat → Bool} {m : Nat} : ∀ {i : Nat} {as : List Ac} {h h' : AHeap}, (∀ (j : Nat) a, as[j]? = some a → m ∈ a.ws.map (·.1) → S (i + j) = S' (i + j)) → h m = h' m → hAt S i as h m = hAt S' i as h' m
  | i, [], h, h', _, hm => by simpa [hAt] using hm
  | i, a :: as, h, h', hd, hm => by
    rw [hAt, hAt]
    refine hAt_congr (fun j a' hj ha => by rw [show i + 1 + j = i + (j + 1) by omega]; exact hd (j + 1) a' (by simpa using hj) ha) ?_
    by_cases ha : m ∈ a.ws.map (·.1)
    · have := hd 0 a rfl ha
      rw [Nat.add_zero] at this
      rw [← this]
      split
      · exact ovr_same ha
      · exact hm
    · split <;> split <;> simp only [ovr_other ha, hm]
def setS (S : Nat → Bool) (i : Nat) : Nat → Bool := fun j => decide (j = i) || S j
/-- One operation more. -/
theorem tmAt_step {S : Nat → Bool} : ∀ {i0 : Nat} {os : List Oper} {as : List Ac} {tm : Nat → AV} {i : Nat} {o : Oper} {a : Ac}, os[i]? = some o → as[i]? = some a → S (i0 + i) = false → (∀ (j : Nat) o', i < j → os[j]? = some o' → (∃ d, o.dst = some d ∧ o'.dst = some d) → S (i0 + j) = false) →
    tmAt (setS S (i0 + i)) i0 os as tm = putA (tmAt S i0 os as tm) o.dst a.v
  | i0, [], as, tm, i, o, a, ho, _, _, _ => by simp at ho
  | i0, x :: os, [], tm, i, o, a, _, ha, _, _ => by simp at ha
  | i0, x :: os, y :: as, tm, 0, o, a, ho, ha, hS, hl => by
    simp at ho ha
    subst ho ha
    rw [tmAt, tmAt]
    rw [Nat.add_zero] at hS ⊢
    have h1 : setS S i0 i0 = true := by simp [setS]
    rw [if_pos h1, if_neg (by rw [hS]; decide)]
    funext t
    by_cases ht : x.dst = some t
    · -- nothing behind writes t
      have hno : ∀ (j : Nat) o', os[j]? = some o' → o'.dst = some t → S (i0 + 1 + j) = false := fun j o' hj ho' => by
        have := hl (j + 1) o' (by omega) (by simpa using hj) ⟨t, ht, ho'⟩
        rwa [show i0 + 1 + j = i0 + (j + 1) by omega]
      have e1 : tmAt (setS S i0) (i0 + 1) os as (putA tm x.dst y.v) t = putA tm x.dst y.v t := by
        have := tmAt_congr (S := setS S i0) (S' := fun _ => false) (t := t) (i := i0 + 1) (os := os) (as := as) (tm := putA tm x.dst y.v) (tm' := putA tm x.dst y.v) (fun j o' hj ho' => by simp [setS, hno j o' hj ho']; omega) rfl
        rw [this]
        clear this hno hl
        generalize putA tm x.dst y.v = f
        generalize i0 + 1 = q
        induction os generalizing as q with
        | nil => simp [tmAt]
        | cons z os ih =>
          cases as with
          | nil => simp [tmAt]
          | cons b as => rw [tmAt]; simpa using ih as (q + 1)
      rw [e1]
      exact putA_same ht
    · rw [putA_other ht]
      refine tmAt_congr (fun j o' hj ho' => by simp [setS]; omega) (putA_other ht)
  | i0, x :: os, y :: as, tm, i + 1, o, a, ho, ha, hS, hl => by
    rw [tmAt, tmAt]
    have h1 : setS S (i0 + (i + 1)) i0 = S i0 := by simp [setS]
    rw [h1, show i0 + (i + 1) = i0 + 1 + i by omega]
    exact tmAt_step (by simpa using ho) (by simpa using ha) (by rwa [show i0 + 1 + i = i0 + (i + 1) by omega]) (fun j o' hj ho' hd => by
      have := hl (j + 1) o' (by omega) (by simpa using ho') hd
      rwa [show i0 + 1 + j = i0 + (j + 1) by omega])
theorem hAt_none : ∀ {as : List Ac} {h : AHeap} {m q : Nat} {S : Nat → Bool}, (∀ (j : Nat) a, as[j]? = some a → m ∈ a.ws.map (·.1) → S (q + j) = false) → hAt S q as h m = h m
  | [], _, _, _, _, _ => rfl
  | a :: as, h, m, q, S, hd => by
    rw [hAt, hAt_none (fun j a' hj ha => by rw [show q + 1 + j = q + (j + 1) by omega]; exact hd (j + 1) a' (by simpa using hj) ha)]
    by_cases ha : m ∈ a.ws.map (·.1)
    · have := hd 0 a rfl ha
      rw [Nat.add_zero] at this
      rw [this]
      simp
    · split
      · rw [ovr_other ha]
      · rfl
theorem hAt_step {S : Nat → Bool} : ∀ {i0 : Nat} {as : List Ac} {h : AHeap} {i : Nat} {a : Ac}, as[i]? = some a → S (i0 + i) = false → (∀ (j : Nat) b, i < j → as[j]? = some b → (∃ m, m ∈ a.ws.map (·.1) ∧ m ∈ b.ws.map (·.1)) → S (i0 + j) = false) →
    hAt (setS S (i0 + i)) i0 as h = ovr (hAt S i0 as h) a.ws
  | i0, [], h, i, a, ha, _, _ => by simp at ha
  | i0, y :: as, h, 0, a, ha, hS, hl => by
    simp at ha
    subst ha
    rw [hAt, hAt]
    rw [Nat.add_zero] at hS ⊢
    have h1 : setS S i0 i0 = true := by simp [setS]
    rw [if_pos h1, if_neg (by rw [hS]; decide)]
    funext m
    by_cases hm : m ∈ y.ws.map (·.1)
    · rw [hAt_none (fun j b hj hb => by
        have := hl (j + 1) b (by omega) (by simpa using hj) ⟨m, hm, hb⟩
        simp [setS, show i0 + 1 + j = i0 + (j + 1) by omega, this])]
      exact ovr_same hm
    · rw [ovr_other hm]
      exact hAt_congr (fun j b hj hb => by simp [setS]; omega) (ovr_other hm)
  | i0, y :: as, h, i + 1, a, ha, hS, hl => by
    rw [hAt, hAt]
    have h1 : setS S (i0 + (i + 1)) i0 = S i0 := by simp [setS]
    rw [h1, show i0 + (i + 1) = i0 + 1 + i by omega]
    exact hAt_step (by simpa using ha) (by rwa [show i0 + 1 + i = i0 + (i + 1) by omega]) (fun j b hj hb hd => by
      have := hl (j + 1) b (by omega) (by simpa using hb) hd
      rwa [show i0 + 1 + j = i0 + (j + 1) by omega])
end
end Go.Proofs.YtjidgdfdeckofaaDoor.AE
/- Regions whose order is drawn: the rule. No program in sight. -/
namespace Go.Proofs.YtjidgdfdeckofaaDoor.AE
open Go Go.RowKit
set_option linter.unusedVariables false
set_option linter.unusedSimpArgs false
variable {P : Program}
section
theorem SR.rename {B : Nat} {w0 w : World} {σ : Sig} {h : AHeap} (hs : SR B w0 σ h w) {m kk : Nat} {blk : Blk} {r : Rng} (hm : h m = some blk) (hσ : σ m = some r) (hk : σ kk = none) :
    SR B w0 (upd σ kk (some r)) (upd (upd h m none) kk (some blk)) w ∧ Kv σ w (Held σ h) B (upd σ kk (some r)) w (Held (upd σ kk (some r)) (upd (upd h m none) kk (some blk))) := by
  obtain ⟨r', q1, q2, q3, q4, q5, q6, q7⟩ := hs.blk m blk hm
  rw [hσ] at q1
  cases q1
  have := hs.turn (fun i => decide (i = m)) kk r blk (.inl hk) (Below.refl B w) (fun b i v hv _ => hv) (fun b i _ => rfl) (.refl _) q3
    (fun i hi => ⟨(q6 i hi).1, (q6 i hi).2, .inr ⟨m, r, by simp, by rw [hm]; rfl, hσ, hi⟩⟩) q2 q4 q5 q7
  rw [kill_eq] at this
  exact this
theorem aop_congr {op : Op} {tm tm' : Nat → AV} {g : AHeap} {k : Nat} (h : ∀ x ∈ op.operands, evA tm x = evA tm' x) : aop P op tm g k = aop P op tm' g k := by
  have one : ∀ x, op.operands = #[x] → evA tm x = evA tm' x := fun x e => h x (by rw [e]; simp)
  have two : ∀ x y, op.operands = #[x, y] → evA tm x = evA tm' x ∧ evA tm y = evA tm' y := fun x y e => ⟨h x (by rw [e]; simp), h y (by rw [e]; simp)⟩
  cases op with
  | move x => simp only [aop, one x rfl]
  | assign x => simp only [aop, one x rfl]
  | pick c a b =>
    have h1 := h c (by simp [Op.operands])
    have h2 := h a (by simp [Op.operands])
    have h3 := h b (by simp [Op.operands])
    simp only [aop, h1, h2, h3]
  | alloc t => rfl
  | box t x => simp only [aop, one x rfl]
  | build t ps =>
    have h1 : ∀ p ∈ ps.toList, evA tm p.2 = evA tm' p.2 := fun p hp => h p.2 (by simp only [Op.operands, List.mem_toArray, List.mem_map]; exact ⟨p, hp, rfl⟩)
    have h2 : (ps.toList.map fun p => (p.1, evA tm p.2)) = (ps.toList.map fun p => (p.1, evA tm' p.2)) := List.map_congr_left fun p hp => by rw [h1 p hp]
    have h3 : (ps.toList.all fun p => (evA tm p.2).okPart) = (ps.toList.all fun p => (evA tm' p.2).okPart) := by
      rw [Bool.eq_iff_iff, List.all_eq_true, List.all_eq_true]
      exact ⟨fun q p hp => by rw [← h1 p hp]; exact q p hp, fun q p hp => by rw [h1 p hp]; exact q p hp⟩
    simp only [aop, h2, h3]
  | buildSlice t n ps =>
    have h1 : ∀ p ∈ ps.toList, evA tm p.2 = evA tm' p.2 := fun p hp => h p.2 (by simp only [Op.operands, List.mem_toArray, List.mem_map]; exact ⟨p, hp, rfl⟩)
    have h2 : (ps.toList.map fun p => (p.1, evA tm p.2)) = (ps.toList.map fun p => (p.1, evA tm' p.2)) := List.map_congr_left fun p hp => by rw [h1 p hp]
    simp only [aop, h2]
  | load t a => simp only [aop, one a rfl]
  | store t a x => simp only [aop, (two a x rfl).1, (two a x rfl).2]
  | nilCheck x => simp only [aop, one x rfl]
  | binOp o t x y u => simp only [aop, (two x y rfl).1, (two x y rfl).2]
  | unOp o t x => simp only [aop, one x rfl]
  | convert s d x => simp only [aop, one x rfl]
  | makeInterface t x => simp only [aop, one x rfl]
  | makeFunc f as bs =>
    have h1 : as.toList.map (evA tm) = as.toList.map (evA tm') := List.map_congr_left fun x hx => h x (by simp only [Op.operands, Array.mem_append]; left; simpa using hx)
    have h2 : bs.toList.map (evA tm) = bs.toList.map (evA tm') := List.map_congr_left fun x hx => h x (by simp only [Op.operands, Array.mem_append]; right; simpa using hx)
    simp only [aop, h1, h2]
  | makeSlice t l c => simp only [aop, (two l c rfl).1, (two l c rfl).2]
  | slice t x lo hi mx =>
    have h0 := h x (by simp [Op.operands])
    have h1 : lo.map (evA tm) = lo.map (evA tm') := by
      cases lo with
      | none => rfl
      | some y => simp only [Option.map_some]; rw [h y (by simp [Op.operands])]
    have h2 : hi.map (evA tm) = hi.map (evA tm') := by
      cases hi with
      | none => rfl
      | some y => simp only [Option.map_some]; rw [h y (by simp [Op.operands])]
    have h3 : mx.map (evA tm) = mx.map (evA tm') := by
      cases mx with
      | none => rfl
      | some y => simp only [Option.map_some]; rw [h y (by simp [Op.operands])]
    simp only [aop, h0, h1, h2, h3]
  | fieldAddr t x f => simp only [aop, one x rfl]
  | field t x f => simp only [aop, one x rfl]
  | indexAddr t x i => simp only [aop, (two x i rfl).1, (two x i rfl).2]
  | index t x i => simp only [aop, (two x i rfl).1, (two x i rfl).2]
  | extract x i => simp only [aop, one x rfl]
  | call c =>
    obtain ⟨callee, args, ts⟩ := c
    cases callee with
    | builtin b =>
      have h1 : args.toList.map (evA tm) = args.toList.map (evA tm') := List.map_congr_left fun x hx => h x (by simp only [Op.operands, Call.operands, Array.mem_append]; right; simpa using hx)
      simp only [aop, h1]
    | _ => rfl
  | _ => rfl
theorem calleeW_congr {c : Call} {tm tm' : Nat → AV} (h : ∀ x ∈ c.operands, evA tm x = evA tm' x) : calleeW tm c = calleeW tm' c := by
  obtain ⟨callee, args, ts⟩ := c
  have h1 : args.toList.map (evA tm) = args.toList.map (evA tm') := List.map_congr_left fun x hx => h x (by simp only [Call.operands, Array.mem_append]; right; simpa using hx)
  unfold calleeW calleeA
  cases callee with
  | value f => simp only [h f (by simp [Call.operands]), h1]
  | _ => rfl
theorem guardA_congr {ops : Array Oper} {g : Option (Nat × Bool)} {tm tm' : Nat → AV} (h : ∀ j b d, g = some (j, b) → (ops[j]?).bind (·.dst) = some d → tm d = tm' d) : guardA ops tm g = guardA ops tm' g := by
  unfold guardA
  cases g with
  | none => rfl
  | some p =>
    obtain ⟨j, b⟩ := p
    simp only
    cases hd : (ops[j]?).bind (·.dst) with
    | none => rfl
    | some d => simp only [h j b d rfl hd]
theorem slots_eval {ops : Array Oper} {o : Oper} {tm tm' : Nat → AV} (h : ∀ t ∈ slots ops o, tm t = tm' t) : (∀ x ∈ o.op.operands, evA tm x = evA tm' x) ∧ guardA ops tm o.guard = guardA ops tm' o.guard := by
  refine ⟨fun x hx => ?_, guardA_congr fun j b d hg hd => h d ?_⟩
  · cases x with
    | tmp t =>
      refine h t ?_
      unfold slots
      simp only [List.mem_append, List.mem_filterMap]
      exact .inl (.inr ⟨.tmp t, by simpa using hx, rfl⟩)
    | const v => rfl
    | func f => rfl
    | global g => rfl
  · unfold slots
    rw [hg]
    simp only [List.mem_append, hd]
    right
    simp
theorem tmAt_false : ∀ (q : Nat) (os : List Oper) (as : List Ac) (tm : Nat → AV) (S : Nat → Bool), (∀ j, q ≤ j → S j = false) → tmAt S q os as tm = tm
  | q, [], as, tm, S, _ => by simp [tmAt]
  | q, o :: os, [], tm, S, _ => by simp [tmAt]
  | q, o :: os, a :: as, tm, S, h => by
    rw [tmAt, if_neg (by rw [h q (Nat.le_refl _)]; decide)]
    exact tmAt_false (q + 1) os as tm S fun j hj => h j (by omega)
theorem hAt_false : ∀ (q : Nat) (as : List Ac) (h : AHeap) (S : Nat → Bool), (∀ j, q ≤ j → S j = false) → hAt S q as h = h
  | q, [], h, S, _ => by simp [hAt]
  | q, a :: as, h, S, hs => by
    rw [hAt, if_neg (by rw [hs q (Nat.le_refl _)]; decide)]
    exact hAt_false (q + 1) as h S fun j hj => hs j (by omega)
theorem acts_get {ops : Array Oper} {k : Nat} : ∀ {i0 : Nat} {os : List Oper} {tm : Nat → AV} {h : AHeap} {as : List Ac} {tm' : Nat → AV} {h' : AHeap}, Acts P ops k i0 os tm h as tm' h' →
    as.length = os.length ∧ tm' = tmAt (fun _ => true) i0 os as tm ∧ h' = hAt (fun _ => true) i0 as h ∧
    ∀ (i : Nat) o a, os[i]? = some o → as[i]? = some a → ActOk P ops o (tmAt (fun j => decide (j < i0 + i)) i0 os as tm) (hAt (fun j => decide (j < i0 + i)) i0 as h) (k + (i0 + i)) a := by
  intro i0 os tm h as tm' h' ha
  induction ha with
  | nil i tm h => exact ⟨rfl, rfl, rfl, fun i o a ho => by simp at ho⟩
  | @cons i o rest tm tm' h h' a as h1 h2 ih =>
    obtain ⟨q1, q2, q3, q4⟩ := ih
    refine ⟨by simp [q1], by rw [q2, tmAt]; simp, by rw [q3, hAt]; simp, fun j o' a' ho ha => ?_⟩
    cases j with
    | zero =>
      simp at ho ha
      subst ho ha
      rw [tmAt_false _ _ _ _ _ (fun j hj => by simp; omega), hAt_false _ _ _ _ (fun j hj => by simp; omega)]
      exact h1
    | succ j =>
      have := q4 j o' a' (by simpa using ho) (by simpa using ha)
      rw [tmAt, hAt]
      have e : (decide (i < i + (j + 1))) = true := by simp
      simp only [e, if_true]
      rwa [show i + 1 + j = i + (j + 1) by omega] at this
/-- A region whose order is drawn, in all orders. -/
def aAny [ρ : Rnd] (P : Program) (nt : Nat) (ops : List Oper) (Q : AX → St → Prop) (st : St) : Prop :=
  ∀ B w0 O σ act w, Rel B w0 nt σ st act w → Keep B O σ st.h w st.nx → wpAnyIn fnc 0 P .any ops.toArray (post nt B w0 O Q) ops.toArray.size (Array.replicate ops.toArray.size false) act { w with drawn := w.drawn + 1 }
/-- THE RULE. -/
theorem any_draw [ρ : Rnd] {nt : Nat} {Q : AX → St → Prop} {ops : List Oper} {id : Nat} {tm tm' : Nat → AV} {h h' : AHeap} {k : Nat} {df : List ADef} {as : List Ac} (hok : drawOk ops = true) (hdst : ops.all (fun o => dstOk nt o.dst) = true)
    (ha : Acts P ops.toArray k 0 ops tm h as tm' h') (hn : namesOk ops as) (hq : ∀ k', k + ops.length ≤ k' → Q .norm ⟨tm', h', k', df⟩) : aAny P nt ops Q ⟨tm, h, k, df⟩ := by
  obtain ⟨hlen, htm', hh', hact⟩ := acts_get ha
  simp only [Nat.zero_add] at hact
  simp only [drawOk, Bool.and_eq_true] at hok
  obtain ⟨⟨hedge, hslot⟩, _⟩ := hok
  have slotOrd : ∀ i j o o' d, ops[i]? = some o → ops[j]? = some o' → i ≠ j → o'.dst = some d → d ∈ slots ops.toArray o → ordB (preds ops) i j = true := fun i j o o' d hi hj hne hd hmem => by
    unfold slotsOk at hslot
    have h1 := List.all_eq_true.1 hslot (o, i) (List.mem_zipIdx_iff_getElem?.2 hi)
    have h2 := List.all_eq_true.1 h1 (o', j) (List.mem_zipIdx_iff_getElem?.2 hj)
    have hc : (slots ops.toArray o).contains d = true := by simpa using hmem
    simp only [hd, hc, Bool.or_eq_true, beq_iff_eq, Bool.not_true, Bool.false_or] at h2
    rcases h2 with h2 | h2
    · exact absurd h2 hne
    · exact h2
  intro B w0 O σ act w hr hk
  have key : ∀ (fuel : Nat) (listed : Array Bool) (S : Nat → Bool) (act : Act) (w : World) (σ : Sig) (nx : Nat), listed.size = ops.length → (∀ j, j < ops.length → listed.getD j false = S j) → (∀ j, ops.length ≤ j → S j = false) → Closed ops S →
      ((List.range ops.length).filter fun j => !S j).length ≤ fuel → Rel B w0 nt σ ⟨tmAt S 0 ops as tm, hAt S 0 as h, nx, df⟩ act w → Keep B O σ (hAt S 0 as h) w nx → k + ops.length ≤ nx → (∀ j, j < ops.length → S j = false → σ (k + j) = none) →
      wpAnyIn fnc 0 P .any ops.toArray (post nt B w0 O Q) fuel listed act w := by
    have fin : ∀ (listed : Array Bool) (S : Nat → Bool) (act : Act) (w : World) (σ : Sig) (nx : Nat), listed.size = ops.length → (∀ j, j < ops.length → listed.getD j false = S j) → (∀ j, ops.length ≤ j → S j = false) → Rel B w0 nt σ ⟨tmAt S 0 ops as tm, hAt S 0 as h, nx, df⟩ act w → Keep B O σ (hAt S 0 as h) w nx → k + ops.length ≤ nx →
        (∀ j, j < ops.length → S j = true) → post nt B w0 O Q .normal act w := fun listed S act w σ nx hsz hl hge hr hk hnx hall => by
      have e1 : tmAt S 0 ops as tm = tm' := by
        rw [htm']
        funext t
        exact tmAt_congr (fun j o hj _ => by rw [Nat.zero_add]; exact hall j (List.getElem?_eq_some_iff.1 hj).1) rfl
      have e2 : hAt S 0 as h = h' := by
        rw [hh']
        funext m
        exact hAt_congr (fun j a hj _ => by rw [Nat.zero_add]; exact hall j (by rw [← hlen]; exact (List.getElem?_eq_some_iff.1 hj).1)) rfl
      rw [e1, e2] at hr
      rw [e2] at hk
      exact ⟨_, _, _, .norm, hr, hk, hq nx hnx⟩
    have least : ∀ (listed : Array Bool) (S : Nat → Bool), listed.size = ops.length → (∀ j, j < ops.length → listed.getD j false = S j) → Region.ready .any ops.toArray listed = [] → ∀ j, j < ops.length → S j = true := fun listed S hsz hl hready => by
      intro j
      induction j using Nat.strongRecOn with
      | _ j ih =>
        intro hj
        cases hS : S j with
        | true => rfl
        | false =>
          exfalso
          have hmem : j ∈ Region.ready .any ops.toArray listed := by
            rw [mem_ready]
            have h1 := hl j hj
            refine ⟨?_, ops[j], by simp [hj], fun e he hb => ?_⟩
            · simp only [Array.getD_eq_getD_getElem?] at h1 ⊢
              have : j < listed.size := by omega
              rw [Array.getElem?_eq_getElem this] at h1 ⊢
              simp only [Option.getD_some] at h1 ⊢
              rw [h1, hS]
            · have hlt : e.on < j := by
                have : ∀ (os : List Oper) (q : Nat), edgesOk q os = true → ∀ (i : Nat) o, os[i]? = some o → ∀ e ∈ o.after, Region.binds .any e = true → e.on < q + i := by
                  intro os
                  induction os with
                  | nil => intro q _ i o ho; simp at ho
                  | cons x os ihx =>
                    intro q hq i o ho e he hb
                    simp only [edgesOk, Bool.and_eq_true] at hq
                    cases i with
                    | zero =>
                      simp at ho
                      subst ho
                      have := List.all_eq_true.1 hq.1 e (by simpa using he)
                      simp only [hb, Bool.not_true, Bool.false_or, decide_eq_true_eq] at this
                      omega
                    | succ i =>
                      have := ihx (q + 1) hq.2 i o (by simpa using ho) e he hb
                      omega
                have := this ops 0 hedge j ops[j] (List.getElem?_eq_getElem hj) e he hb
                omega
              rw [hl e.on (by omega)]
              exact ih e.on hlt (by omega)
          rw [hready] at hmem
          cases hmem
    intro fuel
    induction fuel with
    | zero =>
      intro listed S act w σ nx hsz hl hge hc hcnt hr hk hnx hfree
      have hall : ∀ j, j < ops.length → S j = true := fun j hj => by
        cases hS : S j with
        | true => rfl
        | false =>
          exfalso
          have : j ∈ (List.range ops.length).filter fun j => !S j := by simp [hj, hS]
          have := List.length_pos_of_mem this
          omega
      refine ⟨?_, fin listed S act w σ nx hsz hl hge hr hk hnx hall⟩
      apply List.eq_nil_iff_forall_not_mem.2
      intro j hj
      obtain ⟨h1, o, ho, _⟩ := mem_ready.1 hj
      have hlt : j < ops.length := by simpa using (Array.getElem?_eq_some_iff.1 ho).1
      have h2 := hl j hlt
      rw [hall j hlt] at h2
      simp only [Array.getD_eq_getD_getElem?] at h1 h2
      have : j < listed.size := by omega
      rw [Array.getElem?_eq_getElem this] at h1 h2
      simp only [Option.getD_some] at h1 h2
      rw [h1] at h2
      cases h2
    | succ fuel ih =>
      intro listed S act w σ nx hsz hl hge hc hcnt hr hk hnx hfree
      refine ⟨fun hready => fin listed S act w σ nx hsz hl hge hr hk hnx (least listed S hsz hl hready), fun i hi => ?_⟩
      obtain ⟨h1, o, ho, hedges⟩ := mem_ready.1 hi
      have ho' : ops[i]? = some o := by simpa using ho
      have hlt : i < ops.length := (List.getElem?_eq_some_iff.1 ho').1
      have hSi : S i = false := by
        have h2 := hl i hlt
        simp only [Array.getD_eq_getD_getElem?] at h1 h2
        have : i < listed.size := by omega
        rw [Array.getElem?_eq_getElem this] at h1 h2
        simp only [Option.getD_some] at h1 h2
        rw [h1] at h2
        exact h2.symm
      have hsome : ∀ j, listed.getD j false = true → S j = true := fun j hj => by
        by_cases hjl : j < ops.length
        · rw [← hl j hjl]; exact hj
        · rw [Array.getD_eq_getD_getElem?, Array.getElem?_eq_none (by omega)] at hj
          cases hj
      have hedges' : ∀ e ∈ o.after, Region.binds .any e = true → S e.on = true := fun e he hb => hsome _ (hedges e he hb)
      obtain ⟨a, haa⟩ : ∃ a, as[i]? = some a := ⟨as[i]'(by omega), List.getElem?_eq_getElem _⟩
      have before : ∀ j, j ∈ (preds ops).getD i [] → S j = true := fun j hj => preds_sound hc hedge ho' hedges' hj
      have behind : ∀ j o'', ops[j]? = some o'' → i ∈ (preds ops).getD j [] → S j = false := fun j o'' hj hmem => by
        cases hS : S j with
        | false => rfl
        | true =>
          have := preds_sound hc hedge hj (hc j o'' hS hj) hmem
          rw [hSi] at this
          cases this
      have ord : ∀ j o'', ops[j]? = some o'' → i ≠ j → ordB (preds ops) i j = true → S j = decide (j < i) := fun j o'' hj hne hord => by
        unfold ordB at hord
        split at hord
        · rename_i hji
          rw [before j (by simpa using hord)]
          simp [hji]
        · rename_i hji
          rw [behind j o'' hj (by simpa using hord)]
          simp [hji]
      -- what it looks at is what the text's order gives
      have hlook : ∀ t ∈ slots ops.toArray o, tmAt S 0 ops as tm t = tmAt (fun j => decide (j < i)) 0 ops as tm t := fun t ht => tmAt_congr (fun j o'' hj hd => by
        rw [Nat.zero_add]
        by_cases hne : i = j
        · subst hne
          rw [hSi]
          simp
        · exact ord j o'' hj hne (slotOrd i j o o'' t ho' hj hne hd ht)) rfl
      obtain ⟨hev, hgd⟩ := slots_eval hlook
      have hmem : ∀ m, m ∈ a.rd ∨ m ∈ a.ws.map (·.1) → ∀ (j : Nat) b, as[j]? = some b → m ∈ b.ws.map (·.1) → i ≠ j → S j = decide (j < i) := fun m hm' j b hb hmb hne => by
        have hjl : j < ops.length := by rw [← hlen]; exact (List.getElem?_eq_some_iff.1 hb).1
        exact ord j _ (List.getElem?_eq_getElem hjl) hne (hn i j a b haa hb hne m hm' hmb)
      have hread : ∀ m ∈ a.rd, hAt S 0 as h m = hAt (fun j => decide (j < i)) 0 as h m := fun m hm' => hAt_congr (fun j b hj hmb => by
        rw [Nat.zero_add]
        by_cases hne : i = j
        · subst hne
          rw [hSi]
          simp
        · exact hmem m (.inl hm') j b hj hmb hne) rfl
      have hstep : tmAt (setS S i) 0 ops as tm = putA (tmAt S 0 ops as tm) o.dst a.v := by
        have := tmAt_step (S := S) (i0 := 0) (os := ops) (as := as) (tm := tm) ho' haa (by rw [Nat.zero_add]; exact hSi) (fun j o'' hij hj ⟨d, hd1, hd2⟩ => by
          rw [Nat.zero_add, ord j o'' hj (by omega) (slotOrd i j o o'' d ho' hj (by omega) hd2 (by unfold slots; simp [hd1]))]
          simp
          omega)
        rwa [Nat.zero_add] at this
      have hheap : hAt (setS S i) 0 as h = ovr (hAt S 0 as h) a.ws := by
        have := hAt_step (S := S) (i0 := 0) (as := as) (h := h) haa (by rw [Nat.zero_add]; exact hSi) (fun j b hij hj ⟨m, hm1, hm2⟩ => by
          rw [Nat.zero_add, hmem m (.inr hm1) j b hj hm2 (by omega)]
          simp
          omega)
        rwa [Nat.zero_add] at this
      have hdo : dstOk nt o.dst = true := List.all_eq_true.1 hdst o (List.mem_of_getElem? ho')
      -- what follows
      have next : ∀ (σ' : Sig) (act' : Act) (w' : World) (nx' : Nat), Rel B w0 nt σ' ⟨putA (tmAt S 0 ops as tm) o.dst a.v, ovr (hAt S 0 as h) a.ws, nx', df⟩ act' w' → Keep B O σ' (ovr (hAt S 0 as h) a.ws) w' nx' → nx ≤ nx' → (∀ j, j < ops.length → S j = false → j ≠ i → σ' (k + j) = none) →
          wpAnyIn fnc 0 P .any ops.toArray (post nt B w0 O Q) fuel (listed.setIfInBounds i true) act' w' := fun σ' act' w' nx' hr' hk' hnn hfree' => by
        refine ih (listed.setIfInBounds i true) (setS S i) act' w' σ' nx' (by simp [hsz]) (fun j hj => ?_) (fun j hj => ?_) (fun j o'' hj ho'' e he hb => ?_) ?_ (by rw [hstep, hheap]; exact hr') (by rw [hheap]; exact hk') (by omega) (fun j hj hjs => ?_)
        · by_cases hji : j = i
          · subst hji
            have : j < listed.size := by omega
            simp [setS, Array.getD_eq_getD_getElem?, this]
          · have : (listed.setIfInBounds i true).getD j false = listed.getD j false := by
              simp only [Array.getD_eq_getD_getElem?]
              rw [Array.getElem?_setIfInBounds_ne (by omega)]
            rw [this, hl j hj]
            simp [setS, hji]
        · have h3 := hge j hj
          simp [setS, h3]
          omega
        · simp only [setS, Bool.or_eq_true, decide_eq_true_eq] at hj ⊢
          rcases hj with rfl | hj
          · rw [ho'] at ho''
            cases ho''
            exact .inr (hedges' e he hb)
          · exact .inr (hc j o'' hj ho'' e he hb)
        · have hsub : ((List.range ops.length).filter fun j => !setS S i j).length < ((List.range ops.length).filter fun j => !S j).length := by
            have e1 : ((List.range ops.length).filter fun j => !setS S i j) = ((List.range ops.length).filter fun j => !S j).filter fun j => !decide (j = i) := by
              rw [List.filter_filter]
              congr 1
              funext j
              simp [setS]
            rw [e1]
            refine Nat.lt_of_le_of_ne (List.length_filter_le _ _) fun heq => ?_
            have hmi : i ∈ (List.range ops.length).filter fun j => !S j := by simp [hlt, hSi]
            have := List.length_filter_eq_length_iff.1 heq i hmi
            simp at this
          omega
        · simp only [setS, Bool.or_eq_false_iff, decide_eq_false_iff_not] at hjs
          exact hfree' j hj hjs.2 hjs.1
      -- the operation itself
      unfold wpOpIn
      rw [ho]
      simp only
      have hOnx : O.nx ≤ k := by
        have := ‹Keep B O _ h _ k›.nx
        exact this
      have hact' := hact i o a ho' haa
      rcases hact' with ⟨hg, hv, hws⟩ | ⟨hg, hdo2⟩
      · have hw := guardA_ok hr.tr (o := o) (ops := ops.toArray) (b := false) (by rw [hgd]; exact hg)
        rw [if_neg (by rw [hw]; decide)]
        refine ⟨fun _ _ => trivial, next σ _ w nx ?_ ?_ (Nat.le_refl _) (fun j hj hjs hne => hfree j hj hjs)⟩
        · rw [hv, hws]
          exact hr.put hr.sr .refl hr.nx o.dst hdo (VR.tup_iff.2 ⟨[], rfl, .nil⟩)
        · rw [hws]
          exact hk
      · have hw := guardA_ok hr.tr (o := o) (ops := ops.toArray) (b := true) (by rw [hgd]; exact hg)
        rw [if_pos (by rw [hw])]
        rcases hdo2 with hop | ⟨cl, f, args, hcl, hca, hcb, hcalls⟩ | ⟨cl, f, args, sz, es, mk, hmk, hcl, hca, hcb, hav, haw, hcalls⟩ | ⟨sz, es, hav, haw, hop⟩
        · obtain ⟨k', ha1, ha2, ha3⟩ := hop (hAt S 0 as h) hread
          rw [← aop_congr hev] at ha1
          obtain ⟨cv, w', g1, σ', g2, g3, g4, g5⟩ := aop_ok hr.sr hr.tr (fun n h1 h2 => by
            obtain rfl : n = k + i := by omega
            exact hfree i hlt hSi) ha1
          have hnx' : ∀ n, nx ≤ n → σ' n = none := fun n hn' => by rw [g3 n (by omega)]; exact hr.nx n hn'
          have hr' := hr.put g2 g4 hnx' o.dst hdo g5
          have hk' : Keep B O σ' (ovr (hAt S 0 as h) a.ws) w' nx := ⟨hk.vr.trans g4, hk.nx, fun n hn' => (g3 n (.inl (by omega))).trans (hk.σ n hn')⟩
          have := next σ' _ w' nx hr' hk' (Nat.le_refl _) (fun j hj hjs hne => by rw [g3 (k + j) (by omega)]; exact hfree j hj hjs)
          refine wpo_step (by first | exact aop_plain ha1 | exact aop_plain ‹_›) ?_
          rcases g1 with g1 | ⟨g1, rfl⟩
          · rw [g1]; exact this
          · rw [g1]; exact this
        · obtain ⟨dst, op, ty, pos, after, guard⟩ := o
          simp only at hcl
          subst hcl
          have hca2 : calleeW (tmAt S 0 ops as tm) cl = some (f, args) := by
            rw [calleeW_congr (tm' := tmAt (fun j => decide (j < i)) 0 ops as tm) (fun x hx => hev x hx)]
            exact hca
          unfold calleeW at hca2
          obtain ⟨⟨f', args'⟩, e1, e2⟩ := Option.map_eq_some_iff.1 hca2
          simp only [Prod.mk.injEq] at e2
          obtain ⟨rfl, rfl⟩ := e2
          obtain ⟨vs, e3, e4⟩ := calleeA_ok (P := P) (dst := dst) (ty := ty) (pos := pos) (after := after) (guard := guard) hr.tr e1 hcb
          refine wpo_step (by intro c e; cases e) ?_
          rw [e3]
          refine up_enter ((hcalls (hAt S 0 as h) nx hread B w0 ⟨σ, hAt S 0 as h, w, nx⟩ σ w vs hr.sr hr.nx (.refl _ _ _ _) e4.weak).mono ?_)
          rintro e w' ⟨ae, h'', nx', σ', c1, c2, c3, c4, rfl, rfl⟩
          cases c1 with
          | ret _ v hv =>
          exact next σ' _ w' nx' (hr.put c2 c4.vr c3 dst hdo hv) (hk.trans c4.vr c4.nx c4.σ) c4.nx (fun j hj hjs hne => by rw [c4.σ (k + j) (by simp only; omega)]; exact hfree j hj hjs)
        · obtain ⟨dst, op, ty, pos, after, guard⟩ := o
          simp only at hcl
          subst hcl
          have hca2 : calleeW (tmAt S 0 ops as tm) cl = some (f, args) := by
            rw [calleeW_congr (tm' := tmAt (fun j => decide (j < i)) 0 ops as tm) (fun x hx => hev x hx)]
            exact hca
          unfold calleeW at hca2
          obtain ⟨⟨f', args'⟩, e1, e2⟩ := Option.map_eq_some_iff.1 hca2
          simp only [Prod.mk.injEq] at e2
          obtain ⟨rfl, rfl⟩ := e2
          obtain ⟨vs, e3, e4⟩ := calleeA_ok (P := P) (dst := dst) (ty := ty) (pos := pos) (after := after) (guard := guard) hr.tr e1 hcb
          refine wpo_step (by intro c e; cases e) ?_
          rw [e3]
          refine up_enter ((hcalls (hAt S 0 as h) nx B w0 ⟨σ, hAt S 0 as h, w, nx⟩ σ w vs hr.sr hr.nx (.refl _ _ _ _) e4.weak).mono ?_)
          rintro e w' ⟨ae, h'', nx', σ', c1, c2, c3, c4, m, rfl, rfl, c5, c6⟩
          cases c1 with
          | ret _ v hv =>
          have hki : σ (k + i) = none := hfree i hlt hSi
          have hki2 : σ' (k + i) = none := by rw [c4.σ (k + i) (by simp only; omega)]; exact hki
          have hm0 : hAt S 0 as h m = none := hr.sr.none_of (hr.nx m c5)
          obtain ⟨r, b1, b2⟩ := c2.blk m _ (upd_same _ _ _)
          obtain ⟨t1, t2⟩ := c2.rename (upd_same _ _ _) b1 hki2
          have hheq : upd (upd (upd (hAt S 0 as h) m (some ⟨sz, es⟩)) m none) (k + i) (some ⟨sz, es⟩) = ovr (hAt S 0 as h) a.ws := by
            rw [haw]
            show _ = upd (hAt S 0 as h) (k + i) (some ⟨sz, es⟩)
            funext q
            by_cases e : q = k + i
            · subst e; rw [upd_same, upd_same]
            · rw [upd_ne _ _ _ e, upd_ne _ _ _ e]
              by_cases e' : q = m
              · subst e'; rw [upd_same, hm0]
              · rw [upd_ne _ _ _ e', upd_ne _ _ _ e']
          rw [hheq] at t1 t2
          have hv2 : VR (upd σ' (k + i) (some r)) w' (Held (upd σ' (k + i) (some r)) (ovr (hAt S 0 as h) a.ws)) B a.v v := by
            rw [hav]
            have hv3 := t2 _ _ hv
            have hmk2 : m ≠ k + i := fun e => by omega
            exact hmk _ _ _ _ m (k + i) _ r v (by rw [upd_ne _ _ _ hmk2]; exact b1) (upd_same _ _ _) hv3
          have hnx2 : ∀ n, nx' ≤ n → upd σ' (k + i) (some r) n = none := fun n hn => by
            have h9 : k + i < nx' := by have := c4.nx; simp only at this; omega
            rw [upd_ne _ _ _ (by omega)]
            exact c3 n hn
          have hvr : Kv σ w (Held σ (hAt S 0 as h)) B (upd σ' (k + i) (some r)) w' (Held (upd σ' (k + i) (some r)) (ovr (hAt S 0 as h) a.ws)) := c4.vr.trans t2
          refine next (upd σ' (k + i) (some r)) _ w' nx' (hr.put t1 hvr hnx2 dst hdo hv2) ⟨hk.vr.trans hvr, by have h8 := hk.nx; have h9 := c4.nx; simp only at h8 h9; omega, fun n hn => ?_⟩ c4.nx (fun j hj hjs hne => ?_)
          · rw [upd_ne _ _ _ (by omega), c4.σ n (by simp only; omega)]
            exact hk.σ n hn
          · rw [upd_ne _ _ _ (by omega), c4.σ (k + j) (by simp only; omega)]
            exact hfree j hj hjs
        · have ha1 := hop (hAt S 0 as h) hread
          rw [← aop_congr hev] at ha1
          have hki : σ (k + i) = none := hfree i hlt hSi
          obtain ⟨cv, w', g1, σ', g2, g3, g4, g5⟩ := aop_ok hr.sr hr.tr (fun n h1 h2 => by
            obtain rfl : n = k + i := by omega
            exact hki) ha1
          have hnx' : ∀ n, nx ≤ n → σ' n = none := fun n hn' => by rw [g3 n (by omega)]; exact hr.nx n hn'
          obtain ⟨d1, d2⟩ := g2.drop (fun n => decide (n = k + i))
          have hfz := VR.freeze g2 (fun n => decide (n = k + i)) (upd_same _ _ _) (by simp) (by simp) g5
          have h0 : hAt S 0 as h (k + i) = none := hr.sr.none_of hki
          have heq : (fun m => if decide (m = k + i) = true then none else upd (hAt S 0 as h) (k + i) (some ⟨sz, es⟩) m) = ovr (hAt S 0 as h) a.ws := by
            rw [haw]
            show _ = hAt S 0 as h
            funext m
            by_cases e : m = k + i
            · subst e; simp [h0]
            · simp [e, upd_ne _ _ _ e]
          rw [heq] at d1 d2 hfz
          have hv2 : VR σ' w' (Held σ' (ovr (hAt S 0 as h) a.ws)) B a.v cv := by
            rw [hav]
            simpa using hfz
          have hvr : Kv σ w (Held σ (hAt S 0 as h)) B σ' w' (Held σ' (ovr (hAt S 0 as h) a.ws)) := g4.trans d2
          have hr' := hr.put d1 hvr hnx' o.dst hdo hv2
          have hk' : Keep B O σ' (ovr (hAt S 0 as h) a.ws) w' nx := ⟨hk.vr.trans hvr, hk.nx, fun n hn' => (g3 n (.inl (by omega))).trans (hk.σ n hn')⟩
          have := next σ' _ w' nx hr' hk' (Nat.le_refl _) (fun j hj hjs hne => by rw [g3 (k + j) (by omega)]; exact hfree j hj hjs)
          refine wpo_step (by first | exact aop_plain ha1 | exact aop_plain ‹_›) ?_
          rcases g1 with g1 | ⟨g1, rfl⟩
          · rw [g1]; exact this
          · rw [g1]; exact this
  -- the begin
  have hdw : ({ w with drawn := w.drawn + 1 } : World) = w.drew := rfl
  obtain ⟨d1, d2⟩ := hr.sr.drew (w.drawn + 1)
  have hS0 : tmAt (fun _ => false) 0 ops as tm = tm := tmAt_false _ _ _ _ _ fun _ _ => rfl
  have hH0 : hAt (fun _ => false) 0 as h = h := hAt_false _ _ _ _ fun _ _ => rfl
  have := key ops.length (Array.replicate ops.length false) (fun _ => false) act { w with drawn := w.drawn + 1 } σ (k + ops.length) (by simp) (fun j hj => by simp [Array.getD_eq_getD_getElem?, hj]) (fun _ _ => rfl) (fun i o h => by cases h) (Nat.le_trans (List.length_filter_le _ _) (by simp))
    (by rw [hS0, hH0]; exact ⟨d1, fun t => d2 _ _ (hr.tr t), hr.nt, fun n hn' => hr.nx n (by have : k + ops.length ≤ n := hn'; simp only; omega), hr.df.mono d2, ρ.pres hr.iv d2⟩)
    (by rw [hH0]; exact ⟨hk.vr.trans d2, by have := hk.nx; simp only at this; omega, hk.σ⟩) (Nat.le_refl _) (fun j hj _ => hr.nx (k + j) (by simp only; omega))
  simpa using this
theorem aWp_draw [ρ : Rnd] {nt : Nat} {Q : AX → St → Prop} {ops : List Oper} {id : Nat} {tm tm' : Nat → AV} {h h' : AHeap} {k : Nat} {df : List ADef} {as : List Ac} (hm : P.follows .mixedOrders = true) (hok : drawOk ops = true) (hdst : ops.all (fun o => dstOk nt o.dst) = true)
    (ha : Acts P ops.toArray k 0 ops tm h as tm' h') (hn : namesOk ops as) (hq : ∀ k', k + ops.length ≤ k' → Q .norm ⟨tm', h', k', df⟩) : aWp P nt (.region id ops.toArray true) Q ⟨tm, h, k, df⟩ :=
  fun B w0 O σ act w hr hk => wpIn_region_any hm (any_draw (id := id) hok hdst ha hn hq B w0 O σ act w hr hk)
end
end Go.Proofs.YtjidgdfdeckofaaDoor.AE
/- Regions whose order is drawn, as a walk wants them. No program in sight. -/
namespace Go.Proofs.YtjidgdfdeckofaaDoor.AE
open Go Go.RowKit
set_option linter.unusedVariables false
set_option linter.unusedSimpArgs false
def RdEq (g h : AHeap) : List Nat → Prop
  | [] => True
  | m :: R => g m = h m ∧ RdEq g h R
theorem rdEq_of {g h : AHeap} : ∀ {R : List Nat}, (∀ m ∈ R, g m = h m) → RdEq g h R
  | [], _ => trivial
  | m :: R, hr => ⟨hr m (by simp), rdEq_of fun m hm => hr m (by simp [hm])⟩
/-! ### names that do not meet -/
def nAll (ps : List (List Nat)) (j m : Nat) : Nat → List Ac → Prop
  | _, [] => True
  | i, a :: as => (i = j ∨ ordB ps i j = true ∨ (m ∉ a.rd ∧ m ∉ a.ws.map (·.1))) ∧ nAll ps j m (i + 1) as
def nWs (ps : List (List Nat)) (as : List Ac) (j : Nat) : List (Nat × Option Blk) → Prop
  | [] => True
  | w :: ws => nAll ps j w.1 0 as ∧ nWs ps as j ws
def nOk (ps : List (List Nat)) (as : List Ac) : Nat → List Ac → Prop
  | _, [] => True
  | j, b :: bs => nWs ps as j b.ws ∧ nOk ps as (j + 1) bs
theorem nAll_get {ps : List (List Nat)} {j m : Nat} : ∀ {as : List Ac} {q : Nat}, nAll ps j m q as → ∀ (i : Nat) a, as[i]? = some a → q + i = j ∨ ordB ps (q + i) j = true ∨ (m ∉ a.rd ∧ m ∉ a.ws.map (·.1))
  | [], q, _, i, a, h => by simp at h
  | x :: as, q, h, 0, a, ha => by
    simp at ha
    subst ha
    exact h.1
  | x :: as, q, h, i + 1, a, ha => by
    have := nAll_get h.2 i a (by simpa using ha)
    rwa [show q + 1 + i = q + (i + 1) by omega] at this
theorem nWs_get {ps : List (List Nat)} {as : List Ac} {j : Nat} : ∀ {ws : List (Nat × Option Blk)}, nWs ps as j ws → ∀ m ∈ ws.map (·.1), nAll ps j m 0 as
  | [], _, m, hm => by simp at hm
  | w :: ws, h, m, hm => by
    simp only [List.map_cons, List.mem_cons] at hm
    rcases hm with rfl | hm
    · exact h.1
    · exact nWs_get h.2 m hm
theorem nOk_get {ps : List (List Nat)} {as : List Ac} : ∀ {bs : List Ac} {q : Nat}, nOk ps as q bs → ∀ (j : Nat) b, bs[j]? = some b → nWs ps as (q + j) b.ws
  | [], q, _, j, b, h => by simp at h
  | x :: bs, q, h, 0, b, hb => by
    simp at hb
    subst hb
    exact h.1
  | x :: bs, q, h, j + 1, b, hb => by
    have := nOk_get h.2 j b (by simpa using hb)
    rwa [show q + 1 + j = q + (j + 1) by omega] at this
theorem namesOk_of {ops : List Oper} {as : List Ac} (h : nOk (preds ops) as 0 as) : namesOk ops as := fun i j a b ha hb hne m hm hmb => by
  have h1 := nOk_get h j b hb
  rw [Nat.zero_add] at h1
  have h2 := nAll_get (nWs_get h1 m hmb) i a ha
  rw [Nat.zero_add] at h2
  rcases h2 with h2 | h2 | ⟨h2, h3⟩
  · exact absurd h2 hne
  · exact h2
  · rcases hm with hm | hm
    · exact absurd hm h2
    · exact absurd hm h3
section
variable {P : Program} {ops : List Oper} {k i : Nat} {rest : List Oper} {tm : Nat → AV} {h : AHeap} {acc : List Ac} {d : Nat} {op : Op} {ty : TypeId} {pos : String} {after : Array Edge} {v : AV} {K : (Nat → AV) → AHeap → Prop}
/-- What is left of a region whose order is drawn, walked in the text's order. -/
def DrawP (P : Program) (ops : List Oper) (k : Nat) (K : (Nat → AV) → AHeap → Prop) (i : Nat) (rest : List Oper) (tm : Nat → AV) (h : AHeap) (acc : List Ac) : Prop :=
  ∃ as tm' h', Acts P ops.toArray k i rest tm h as tm' h' ∧ nOk (preds ops) (acc ++ as) 0 (acc ++ as) ∧ K tm' h'
theorem DrawP.cons {o : Oper} {a : Ac} (ha : ActOk P ops.toArray o tm h (k + i) a) (hr : DrawP P ops k K (i + 1) rest (putA tm o.dst a.v) (ovr h a.ws) (acc ++ [a])) : DrawP P ops k K i (o :: rest) tm h acc := by
  obtain ⟨as, tm', h', h1, h2, h3⟩ := hr
  exact ⟨a :: as, tm', h', .cons a ha h1, by simpa using h2, h3⟩
theorem D_nil (hn : nOk (preds ops) acc 0 acc) (hK : K tm h) : DrawP P ops k K i [] tm h acc := ⟨[], tm, h, .nil i tm h, by simpa using hn, hK⟩
theorem D_q (ha : ∀ g : AHeap, aop P op tm g (k + i) = some (v, g, k + i)) (hr : DrawP P ops k K (i + 1) rest (upd tm d v) h (acc ++ [⟨v, [], []⟩])) : DrawP P ops k K i (⟨some d, op, ty, pos, after, none⟩ :: rest) tm h acc :=
  .cons (a := ⟨v, [], []⟩) (.inr ⟨rfl, .inl fun g _ => ⟨_, ha g, Nat.le_refl _, Nat.le_succ _⟩⟩) hr
theorem D_r (R : List Nat) (ha : ∀ g : AHeap, RdEq g h R → aop P op tm g (k + i) = some (v, g, k + i)) (hr : DrawP P ops k K (i + 1) rest (upd tm d v) h (acc ++ [⟨v, R, []⟩])) : DrawP P ops k K i (⟨some d, op, ty, pos, after, none⟩ :: rest) tm h acc :=
  .cons (a := ⟨v, R, []⟩) (.inr ⟨rfl, .inl fun g hg => ⟨_, ha g (rdEq_of hg), Nat.le_refl _, Nat.le_succ _⟩⟩) hr
theorem D_m (R : List Nat) {b : Option Blk} (ha : ∀ g : AHeap, RdEq g h R → aop P op tm g (k + i) = some (v, upd g (k + i) b, k + i + 1)) (hr : DrawP P ops k K (i + 1) rest (upd tm d v) (upd h (k + i) b) (acc ++ [⟨v, R, [(k + i, b)]⟩])) : DrawP P ops k K i (⟨some d, op, ty, pos, after, none⟩ :: rest) tm h acc :=
  .cons (a := ⟨v, R, [(k + i, b)]⟩) (.inr ⟨rfl, .inl fun g hg => ⟨_, ha g (rdEq_of hg), Nat.le_succ _, Nat.le_refl _⟩⟩) hr
theorem D_a (R : List Nat) {m : Nat} {b : Option Blk} (ha : ∀ g : AHeap, RdEq g h R → aop P op tm g (k + i) = some (v, upd (upd g m none) (k + i) b, k + i + 1)) (hr : DrawP P ops k K (i + 1) rest (upd tm d v) (upd (upd h m none) (k + i) b) (acc ++ [⟨v, R, [(m, none), (k + i, b)]⟩])) : DrawP P ops k K i (⟨some d, op, ty, pos, after, none⟩ :: rest) tm h acc :=
  .cons (a := ⟨v, R, [(m, none), (k + i, b)]⟩) (.inr ⟨rfl, .inl fun g hg => ⟨_, ha g (rdEq_of hg), Nat.le_succ _, Nat.le_refl _⟩⟩) hr
theorem D_s (R : List Nat) {m : Nat} {b : Option Blk} (ha : ∀ g : AHeap, RdEq g h R → aop P op tm g (k + i) = some (v, upd g m b, k + i)) (hr : DrawP P ops k K (i + 1) rest tm (upd h m b) (acc ++ [⟨v, R, [(m, b)]⟩])) : DrawP P ops k K i (⟨none, op, ty, pos, after, none⟩ :: rest) tm h acc :=
  .cons (a := ⟨v, R, [(m, b)]⟩) (.inr ⟨rfl, .inl fun g hg => ⟨_, ha g (rdEq_of hg), Nat.le_refl _, Nat.le_succ _⟩⟩) hr
theorem D_w (R : List Nat) {m : Nat} {b : Option Blk} (ha : ∀ g : AHeap, RdEq g h R → aop P op tm g (k + i) = some (v, upd g m b, k + i)) (hr : DrawP P ops k K (i + 1) rest (upd tm d v) (upd h m b) (acc ++ [⟨v, R, [(m, b)]⟩])) : DrawP P ops k K i (⟨some d, op, ty, pos, after, none⟩ :: rest) tm h acc :=
  .cons (a := ⟨v, R, [(m, b)]⟩) (.inr ⟨rfl, .inl fun g hg => ⟨_, ha g (rdEq_of hg), Nat.le_refl _, Nat.le_succ _⟩⟩) hr
theorem D_qG {j : Nat} {b : Bool} (hg : guardA ops.toArray tm (some (j, b)) = some true) (ha : ∀ g : AHeap, aop P op tm g (k + i) = some (v, g, k + i)) (hr : DrawP P ops k K (i + 1) rest (upd tm d v) h (acc ++ [⟨v, [], []⟩])) : DrawP P ops k K i (⟨some d, op, ty, pos, after, some (j, b)⟩ :: rest) tm h acc :=
  .cons (a := ⟨v, [], []⟩) (.inr ⟨hg, .inl fun g _ => ⟨_, ha g, Nat.le_refl _, Nat.le_succ _⟩⟩) hr
theorem D_rG (R : List Nat) {j : Nat} {b : Bool} (hg : guardA ops.toArray tm (some (j, b)) = some true) (ha : ∀ g : AHeap, RdEq g h R → aop P op tm g (k + i) = some (v, g, k + i)) (hr : DrawP P ops k K (i + 1) rest (upd tm d v) h (acc ++ [⟨v, R, []⟩])) : DrawP P ops k K i (⟨some d, op, ty, pos, after, some (j, b)⟩ :: rest) tm h acc :=
  .cons (a := ⟨v, R, []⟩) (.inr ⟨hg, .inl fun g hg => ⟨_, ha g (rdEq_of hg), Nat.le_refl _, Nat.le_succ _⟩⟩) hr
theorem D_skip {j : Nat} {b : Bool} (hg : guardA ops.toArray tm (some (j, b)) = some false) (hr : DrawP P ops k K (i + 1) rest (upd tm d (.tup [])) h (acc ++ [⟨.tup [], [], []⟩])) : DrawP P ops k K i (⟨some d, op, ty, pos, after, some (j, b)⟩ :: rest) tm h acc :=
  .cons (a := ⟨.tup [], [], []⟩) (.inl ⟨hg, rfl, rfl⟩) hr
theorem aFun_act {f : FuncId} {args : List AV} (hf : aFun P f args v) (g : AHeap) (nx : Nat) : aCalls P f args g nx (fun e h' k' => e = .ret v ∧ h' = ovr g []) := aCalls_mono (hf g nx) fun e h' k' q => ⟨q.1, q.2.1⟩
theorem D_f {c : Call} {f : FuncId} {args : List AV} (ha : calleeW tm c = some (f, args)) (hc : callable P f = true) (hf : aFun P f args v) (hr : DrawP P ops k K (i + 1) rest (upd tm d v) h (acc ++ [⟨v, [], []⟩])) : DrawP P ops k K i (⟨some d, .call c, ty, pos, after, none⟩ :: rest) tm h acc :=
  .cons (a := ⟨v, [], []⟩) (.inr ⟨rfl, .inr (.inl ⟨c, f, args, rfl, ha, hc, fun g nx _ => aFun_act hf g nx⟩)⟩) hr
theorem D_fG {j : Nat} {b : Bool} {c : Call} {f : FuncId} {args : List AV} (hg : guardA ops.toArray tm (some (j, b)) = some true) (ha : calleeW tm c = some (f, args)) (hc : callable P f = true) (hf : aFun P f args v) (hr : DrawP P ops k K (i + 1) rest (upd tm d v) h (acc ++ [⟨v, [], []⟩])) : DrawP P ops k K i (⟨some d, .call c, ty, pos, after, some (j, b)⟩ :: rest) tm h acc :=
  .cons (a := ⟨v, [], []⟩) (.inr ⟨hg, .inr (.inl ⟨c, f, args, rfl, ha, hc, fun g nx _ => aFun_act hf g nx⟩)⟩) hr
/-- A call that answers an owned row: its name is the operation's. -/
theorem D_o {c : Call} {f : FuncId} {args : List AV} {sz : Nat} {es : List (List AV)} (ha : calleeW tm c = some (f, args)) (hc : callable P f = true) (hf : ∀ (g : AHeap) (nx : Nat), aCalls P f args g nx (fun e h' k' => ∃ m, e = .ret (.hs m 0 es.length) ∧ h' = upd g m (some ⟨sz, es⟩) ∧ nx ≤ m ∧ m < k'))
    (hr : DrawP P ops k K (i + 1) rest (upd tm d (.hs (k + i) 0 es.length)) (upd h (k + i) (some ⟨sz, es⟩)) (acc ++ [⟨.hs (k + i) 0 es.length, [], [(k + i, some ⟨sz, es⟩)]⟩])) : DrawP P ops k K i (⟨some d, .call c, ty, pos, after, none⟩ :: rest) tm h acc :=
  .cons (a := ⟨.hs (k + i) 0 es.length, [], [(k + i, some ⟨sz, es⟩)]⟩) (.inr ⟨rfl, .inr (.inr (.inl ⟨c, f, args, sz, es, fun v => v, RenOk.id, rfl, ha, hc, rfl, rfl, hf⟩))⟩) hr
theorem D_oM {c : Call} {f : FuncId} {args : List AV} {mk : AV → AV} {sz : Nat} {es : List (List AV)} (hmk : RenOk mk) (ha : calleeW tm c = some (f, args)) (hc : callable P f = true) (hf : ∀ (g : AHeap) (nx : Nat), aCalls P f args g nx (fun e h' k' => ∃ m, e = .ret (mk (.hs m 0 es.length)) ∧ h' = upd g m (some ⟨sz, es⟩) ∧ nx ≤ m ∧ m < k'))
    (hr : DrawP P ops k K (i + 1) rest (upd tm d (mk (.hs (k + i) 0 es.length))) (upd h (k + i) (some ⟨sz, es⟩)) (acc ++ [⟨mk (.hs (k + i) 0 es.length), [], [(k + i, some ⟨sz, es⟩)]⟩])) : DrawP P ops k K i (⟨some d, .call c, ty, pos, after, none⟩ :: rest) tm h acc :=
  .cons (a := ⟨mk (.hs (k + i) 0 es.length), [], [(k + i, some ⟨sz, es⟩)]⟩) (.inr ⟨rfl, .inr (.inr (.inl ⟨c, f, args, sz, es, mk, hmk, rfl, ha, hc, rfl, rfl, hf⟩))⟩) hr
/-- The rule, as a walk wants it. -/
theorem W_draw [ρ : Rnd] {nt : Nat} {Q : AX → St → Prop} {id : Nat} {df : List ADef} (hm : P.follows .mixedOrders = true) (hok : drawOk ops = true) (hdst : ops.all (fun o => dstOk nt o.dst) = true)
    (h1 : DrawP P ops k (fun tm' h' => ∀ k', k + ops.length ≤ k' → Q .norm ⟨tm', h', k', df⟩) 0 ops tm h []) : aWp P nt (.region id ops.toArray true) Q ⟨tm, h, k, df⟩ := by
  obtain ⟨as, tm', h', h2, h3, h4⟩ := h1
  exact aWp_draw hm hok hdst h2 (namesOk_of (by simpa using h3)) h4
end
end Go.Proofs.YtjidgdfdeckofaaDoor.AE
/- Functions that answer an owned row; rows that are told to a function that only reads. No program in sight. -/
namespace Go.Proofs.YtjidgdfdeckofaaDoor.AE
open Go Go.RowKit
set_option linter.unusedVariables false
set_option linter.unusedSimpArgs false
variable {P : Program}
section
variable {B : Nat} {w0 w : World} {σ : Sig} {h : AHeap} {nx : Nat}
/-- Less of a block is told. -/
theorem SR.trunc (hs : SR B w0 σ h w) {m sz : Nat} {es rest : List (List AV)} (hm : h m = some ⟨sz, es ++ rest⟩) : SR B w0 σ (upd h m (some ⟨sz, es⟩)) w ∧ Held σ (upd h m (some ⟨sz, es⟩)) = Held σ h := by
  have hh : Held σ (upd h m (some ⟨sz, es⟩)) = Held σ h := by
    funext b i
    refine propext ⟨?_, ?_⟩
    · rintro ⟨n, r, h1, h2⟩
      refine ⟨n, r, ?_, h2⟩
      by_cases e : n = m
      · subst e; rw [hm]; rfl
      · rwa [upd_ne _ _ _ e] at h1
    · rintro ⟨n, r, h1, h2⟩
      refine ⟨n, r, ?_, h2⟩
      by_cases e : n = m
      · subst e; rw [upd_same]; rfl
      · rwa [upd_ne _ _ _ e]
  refine ⟨⟨hs.old, hs.hB, fun n k hn => ?_, fun n n' r s b i h1 h2 => hs.dis n n' r s b i ?_ ?_⟩, hh⟩
  · rw [hh]
    by_cases e : n = m
    · subst e
      rw [upd_same] at hn
      cases hn
      obtain ⟨r, q1, q2, q3, q4, q5, q6, q7⟩ := hs.blk n _ hm
      simp only [List.length_append] at q4 q5
      rw [Nat.add_mul] at q4
      refine ⟨r, q1, q2, q3, by simp only; omega, by simp only; omega, q6, fun i e he => q7 i e ?_⟩
      simp only at he ⊢
      rw [List.getElem?_append_left (List.getElem?_eq_some_iff.1 he).1]
      exact he
    · rw [upd_ne _ _ _ e] at hn
      exact hs.blk n k hn
  · by_cases e : n = m
    · subst e; rw [hm]; rfl
    · rwa [upd_ne _ _ _ e] at h1
  · by_cases e : n' = m
    · subst e; rw [hm]; rfl
    · rwa [upd_ne _ _ _ e] at h2
/-- An empty block of no cells. -/
theorem SR.none0 (hs : SR B w0 σ h w) {k : Nat} (hk : σ k = none) (sz : Nat) : SR B w0 (upd σ k (some ⟨B, 0, 0, sz⟩)) (upd h k (some ⟨sz, []⟩)) w ∧ Kv σ w (Held σ h) B (upd σ k (some ⟨B, 0, 0, sz⟩)) w (Held (upd σ k (some ⟨B, 0, 0, sz⟩)) (upd h k (some ⟨sz, []⟩))) := by
  have := hs.turn (w' := w) (fun _ => false) k ⟨B, 0, 0, sz⟩ ⟨sz, []⟩ (.inl hk) (Below.refl B w) (fun b i v hv _ => hv) (fun b i _ => rfl) (.refl _) (Nat.le_refl _) (fun i hi => absurd hi.2.2 (by simp)) rfl (by simp) (by simp [big]) (fun i e he => by simp at he)
  simpa using this
/-- Where blocks begin does not matter to a value. -/
theorem VR.anyB {X : Nat → Nat → Prop} {B' : Nat} {a : AV} {v : Value} (h : VR σ w X B a v) : VR σ w X B' a v := by
  induction h with
  | undef v => exact .undef v
  | bool b => exact .bool b
  | int k n h => exact .int k n h
  | str s h => exact .str s h
  | zs a => exact .zs a
  | sl es a cap size vs hcap hb h hv ih => exact .sl es a cap size vs hcap hb h ih
  | hs n off len a cap r hr hcap hb h => exact .hs n off len a cap r hr hcap hb h
  | nilp => exact .nilp
  | ptr n e j r hr => exact .ptr n e j r hr
  | ip cs ad vs hs h hv ih => exact .ip cs ad vs hs h ih
  | agg cs vs hl hv ih => exact .agg cs vs hl ih
  | tup cs vs hl hv ih => exact .tup cs vs hl ih
  | fn f as bs us vs hl hm ha hv iha ihv => exact .fn f as bs us vs hl hm iha ihv
  | nilf => exact .nilf
  | iface t a v h ih => exact .iface t a v ih
  | niliface => exact .niliface
end
/-! ### an owned row as a result -/
def aOwn (P : Program) (f : FuncId) (args : List AV) (sz : Nat) (es : List (List AV)) : Prop := ∀ h nx, aCalls P f args h nx (fun e h' k' => ∃ m, e = .ret (.hs m 0 es.length) ∧ h' = upd h m (some ⟨sz, es⟩) ∧ nx ≤ m ∧ m < k')
def ownV (nx : Nat) (s : St) (a : AV) (sz : Nat) (es : List (List AV)) : Prop := (∃ m rest, a = .hs m 0 es.length ∧ nx ≤ m ∧ m < s.nx ∧ s.h m = some ⟨sz, es ++ rest⟩) ∨ (a = .zs ∧ es = [])
def endOwn (P : Program) (fn : Func) (nx : Nat) (h : AHeap) (sz : Nat) (es : List (List AV)) (s : St) : Prop := s.df = [] ∧ nx ≤ s.nx ∧ HAgree nx h s.h ∧ ∃ a, resA P s fn.results.toList = some a ∧ ownV nx s a sz es
def endOwnQ (P : Program) (fn : Func) (nx : Nat) (h : AHeap) (sz : Nat) (es : List (List AV)) : AX → St → Prop
  | .norm, s | .ret, s => endOwn P fn nx h sz es s
  | _, _ => False
theorem aOwn_body {nt : Nat} {f : FuncId} {fn : Func} {c : Code} {args : List AV} {sz : Nat} {es : List (List AV)} (hf : P.funcs[f]? = some fn) (hb : fn.body = some c) (hn : fn.ntmps = nt) (ha : args.length ≤ nt)
    (hw : (∀ a ∈ args, Real a) → ∀ h nx, (∀ n, nx ≤ n → h n = none) → aWp P nt c (endOwnQ P fn nx h sz es) ⟨tm0 args, h, nx, []⟩) : aOwn P f args sz es := fun h nx => aCalls_real fun hreal hfresh => by
  have h1 : aCalls P f args h nx (fun e h' k' => ∃ a s, e = .ret a ∧ h' = s.h ∧ k' = s.nx ∧ nx ≤ s.nx ∧ HAgree nx h s.h ∧ ownV nx s a sz es) := by
    refine aCalls_body hf hb hn ha (aWp_mono (hw hreal h nx hfresh) ?_)
    rintro e s hs
    cases e with
    | norm => obtain ⟨q1, q2, q3, a, q4, q5⟩ := hs; exact ⟨q1, a, q4, a, s, rfl, rfl, rfl, q2, q3, q5⟩
    | ret => obtain ⟨q1, q2, q3, a, q4, q5⟩ := hs; exact ⟨q1, a, q4, a, s, rfl, rfl, rfl, q2, q3, q5⟩
    | ex id => exact hs.elim
    | gt l => exact hs.elim
    | pan v => exact hs.elim
  intro B w0 O σ w vs hs hx hk hv
  refine (h1 B w0 O σ w vs hs hx hk hv).mono ?_
  rintro e w' ⟨ae, h', nx', σ', g1, g2, g3, g4, a, s, rfl, rfl, rfl, g5, g6, g7⟩
  cases g1 with
  | ret _ u hu =>
  rcases g7 with ⟨m, rest, rfl, q1, q2, q3⟩ | ⟨rfl, rfl⟩
  · obtain ⟨d1, d2⟩ := g2.drop (fun i => decide (nx ≤ i ∧ i ≠ m))
    have he : (fun i => if decide (nx ≤ i ∧ i ≠ m) = true then none else s.h i) m = some ⟨sz, es ++ rest⟩ := by simp [q3]
    obtain ⟨t1, t2⟩ := d1.trunc he
    have hq : upd (fun i => if decide (nx ≤ i ∧ i ≠ m) = true then none else s.h i) m (some ⟨sz, es⟩) = upd h m (some ⟨sz, es⟩) := by
      funext i
      by_cases e : i = m
      · subst e; rw [upd_same, upd_same]
      · rw [upd_ne _ _ _ e, upd_ne _ _ _ e]
        by_cases hi : nx ≤ i
        · simp [hi, e, hfresh i hi]
        · simp [hi, g6 i (by omega)]
    have keep : ∀ a v, VR σ' w' (Held σ' s.h) B a v → VR σ' w' (Held σ' (upd h m (some ⟨sz, es⟩))) B a v := fun a v hv => by
      rw [← hq, t2]
      exact d2 a v hv
    refine ⟨_, upd h m (some ⟨sz, es⟩), s.nx, σ', .ret _ u (keep _ _ hu), hq ▸ t1, g3, g4.trans ⟨keep, .refl _⟩ (Nat.le_refl _) (fun _ _ => rfl), m, rfl, rfl, q1, q2⟩
  · obtain ⟨d1, d2⟩ := g2.drop (fun i => decide (nx ≤ i))
    have he : (fun i => if decide (nx ≤ i) = true then none else s.h i) = h := by
      funext i
      by_cases hi : nx ≤ i
      · simp [hi, hfresh i hi]
      · simp [hi, g6 i (by omega)]
    rw [he] at d1 d2
    obtain ⟨t1, t2⟩ := d1.none0 (g3 s.nx (Nat.le_refl _)) sz
    refine ⟨.ret (.hs s.nx 0 0), _, s.nx + 1, _, .ret _ u ?_, t1, fun n hn => ?_, (g4.trans d2 (Nat.le_refl _) (fun _ _ => rfl)).trans t2 (Nat.le_succ _) (fun n hn => upd_ne _ _ _ (by omega)), s.nx, rfl, rfl, g5, Nat.lt_succ_self _⟩
    · cases hu with
      | zs ad => exact .hs _ _ _ ad 0 _ (upd_same _ _ _) (Nat.le_refl _) (by decide) (.inl rfl)
    · rw [upd_ne _ _ _ (by omega)]
      exact g3 n (by omega)
theorem W_endOwn {fn : Func} {tm : Nat → AV} {h h0 : AHeap} {k nx : Nat} {a : AV} {rs : List ResultVar} {sz : Nat} {es : List (List AV)} (hk : nx ≤ k) (hh : HAgree nx h0 h) (hrs : fn.results.toList = rs) (hr : resA P ⟨tm, h, k, []⟩ rs = some a) (ho : ownV nx ⟨tm, h, k, []⟩ a sz es) : endOwnQ P fn nx h0 sz es .ret ⟨tm, h, k, []⟩ :=
  ⟨rfl, hk, hh, a, by rw [hrs]; exact hr, ho⟩
section
variable {nt : Nat} {Q : AX → St → Prop} {ops : Array Oper} {rest : List Oper} {tm : Nat → AV} {h : AHeap} {k : Nat} {df : List ADef} {ty : TypeId} {pos : String} {after : Array Edge} {d : Nat} {v : AV}
theorem W_own [ρ : Rnd] {c : Call} {f : FuncId} {args : List AV} {sz : Nat} {es : List (List AV)} (hd : decide (d < nt) = true) (ha : calleeW tm c = some (f, args)) (hc : callable P f = true) (hf : aOwn P f args sz es) (hr : ∀ m k', k ≤ m → m < k' → aOps P nt ops rest Q ⟨upd tm d (.hs m 0 es.length), upd h m (some ⟨sz, es⟩), k', df⟩) :
    aOps P nt ops (⟨some d, .call c, ty, pos, after, none⟩ :: rest) Q ⟨tm, h, k, df⟩ := by
  unfold calleeW at ha
  obtain ⟨⟨f', args'⟩, h1, h2⟩ := Option.map_eq_some_iff.1 ha
  simp only [Prod.mk.injEq] at h2
  obtain ⟨rfl, rfl⟩ := h2
  exact aOps_call rfl hd rfl h1 hc (fun B w0 O σ w vs q1 q2 q3 q4 => hf h k B w0 O σ w vs q1 q2 q3 q4.weak) (fun a h' k' ⟨m, e1, e2, e3, e4⟩ => by cases e1; subst e2; exact hr m k' e3 e4) (fun a h' k' ⟨m, e1, _⟩ => by cases e1)
end
section
variable {nt : Nat} {Q : AX → St → Prop} {ops : Array Oper} {rest : List Oper} {tm : Nat → AV} {h : AHeap} {k : Nat} {df : List ADef} {ty : TypeId} {pos : String} {after : Array Edge} {d : Nat} {v : AV}
/-- The same, its arguments as they are. -/
theorem W_ownA [ρ : Rnd] {c : Call} {f : FuncId} {args : List AV} {sz : Nat} {es : List (List AV)} (hd : decide (d < nt) = true) (ha : calleeA tm c = some (f, args)) (hc : callable P f = true) (hf : aOwn P f args sz es) (hr : ∀ m k', k ≤ m → m < k' → aOps P nt ops rest Q ⟨upd tm d (.hs m 0 es.length), upd h m (some ⟨sz, es⟩), k', df⟩) :
    aOps P nt ops (⟨some d, .call c, ty, pos, after, none⟩ :: rest) Q ⟨tm, h, k, df⟩ :=
  aOps_call rfl hd rfl ha hc (hf h k) (fun a h' k' ⟨m, e1, e2, e3, e4⟩ => by cases e1; subst e2; exact hr m k' e3 e4) (fun a h' k' ⟨m, e1, _⟩ => by cases e1)
/-- A temporary's row is frozen. -/
theorem W_freeze [ρ : Rnd] {l : List Oper} (t : Nat) {n off len : Nat} {b : Blk} (ht : tm t = .hs n off len) (hn : h n = some b) (hl : off + len ≤ b.es.length) (hr : aOps P nt ops l Q ⟨upd tm t (.sl ((b.es.drop off).take len)), upd h n none, k, df⟩) : aOps P nt ops l Q ⟨tm, h, k, df⟩ :=
  aOps_sub (Sub.freeze (st := ⟨tm, h, k, df⟩) ht hn hl) hr
end
/-- Frozen. -/
theorem aOwn.fn {f : FuncId} {args : List AV} {sz : Nat} {es : List (List AV)} (hf : aOwn P f args sz es) : aFun P f args (.sl es) := fun h nx => aCalls_real fun hreal hfresh => by
  intro B w0 O σ w vs hs hx hk hv
  refine (hf h nx B w0 O σ w vs hs hx hk hv).mono ?_
  rintro e w' ⟨ae, h', nx', σ', g1, g2, g3, g4, m, rfl, rfl, q1, q2⟩
  cases g1 with
  | ret _ u hu =>
  obtain ⟨d1, d2⟩ := g2.drop (fun i => decide (i = m))
  have hfz := VR.freeze g2 (fun i => decide (i = m)) (k := ⟨sz, es⟩) (upd_same _ _ _) (by simp) (by simp) hu
  have he : (fun i => if decide (i = m) = true then none else upd h m (some ⟨sz, es⟩) i) = h := by
    funext i
    by_cases e : i = m
    · subst e; simp [hfresh i q1]
    · simp [e, upd_ne]
  rw [he] at d1 d2 hfz
  simp only [List.drop_zero, List.take_length] at hfz
  exact ⟨.ret (.sl es), h, nx', σ', .ret _ u hfz, d1, g3, g4.trans d2 (Nat.le_refl _) (fun _ _ => rfl), rfl, rfl, by omega⟩
/-- An owned row within a result. -/
def aOwnM (P : Program) (f : FuncId) (args : List AV) (mk : AV → AV) (sz : Nat) (es : List (List AV)) : Prop := ∀ h nx, aCalls P f args h nx (fun e h' k' => ∃ m, e = .ret (mk (.hs m 0 es.length)) ∧ h' = upd h m (some ⟨sz, es⟩) ∧ nx ≤ m ∧ m < k')
def endOwnM (P : Program) (fn : Func) (nx : Nat) (h : AHeap) (mk : AV → AV) (sz : Nat) (es : List (List AV)) : AX → St → Prop
  | .norm, s | .ret, s => s.df = [] ∧ nx ≤ s.nx ∧ HAgree nx h s.h ∧ ∃ m, resA P s fn.results.toList = some (mk (.hs m 0 es.length)) ∧ nx ≤ m ∧ m < s.nx ∧ s.h m = some ⟨sz, es⟩
  | _, _ => False
theorem aOwnM_body {nt : Nat} {f : FuncId} {fn : Func} {c : Code} {args : List AV} {mk : AV → AV} {sz : Nat} {es : List (List AV)} (hf : P.funcs[f]? = some fn) (hb : fn.body = some c) (hn : fn.ntmps = nt) (ha : args.length ≤ nt)
    (hw : (∀ a ∈ args, Real a) → ∀ h nx, (∀ n, nx ≤ n → h n = none) → aWp P nt c (endOwnM P fn nx h mk sz es) ⟨tm0 args, h, nx, []⟩) : aOwnM P f args mk sz es := fun h nx => aCalls_real fun hreal hfresh => by
  have h1 : aCalls P f args h nx (fun e h' k' => ∃ m, e = .ret (mk (.hs m 0 es.length)) ∧ nx ≤ k' ∧ HAgree nx h h' ∧ nx ≤ m ∧ m < k' ∧ h' m = some ⟨sz, es⟩) := by
    refine aCalls_body hf hb hn ha (aWp_mono (hw hreal h nx hfresh) ?_)
    rintro e s hs
    cases e with
    | norm => obtain ⟨q1, q2, q3, m, q4, q5, q6, q7⟩ := hs; exact ⟨q1, _, q4, m, rfl, q2, q3, q5, q6, q7⟩
    | ret => obtain ⟨q1, q2, q3, m, q4, q5, q6, q7⟩ := hs; exact ⟨q1, _, q4, m, rfl, q2, q3, q5, q6, q7⟩
    | ex id => exact hs.elim
    | gt l => exact hs.elim
    | pan v => exact hs.elim
  intro B w0 O σ w vs hs hx hk hv
  refine (h1 B w0 O σ w vs hs hx hk hv).mono ?_
  rintro e w' ⟨ae, h', nx', σ', g1, g2, g3, g4, m, rfl, g5, g6, q1, q2, q3⟩
  cases g1 with
  | ret _ u hu =>
  obtain ⟨d1, d2⟩ := g2.drop (fun i => decide (nx ≤ i ∧ i ≠ m))
  have hq : (fun i => if decide (nx ≤ i ∧ i ≠ m) = true then none else h' i) = upd h m (some ⟨sz, es⟩) := by
    funext i
    by_cases e : i = m
    · subst e; rw [upd_same]; simp [q3]
    · rw [upd_ne _ _ _ e]
      by_cases hi : nx ≤ i
      · simp [hi, e, hfresh i hi]
      · simp [hi, g6 i (by omega)]
  rw [hq] at d1 d2
  exact ⟨_, _, nx', σ', .ret _ u (d2 _ _ hu), d1, g3, g4.trans d2 (Nat.le_refl _) (fun _ _ => rfl), m, rfl, rfl, q1, q2⟩
theorem W_endOwnM {fn : Func} {tm : Nat → AV} {h h0 : AHeap} {k nx : Nat} {rs : List ResultVar} {mk : AV → AV} {sz : Nat} {es : List (List AV)} (m : Nat) (hk : nx ≤ k) (hh : HAgree nx h0 h) (hrs : fn.results.toList = rs) (hr : resA P ⟨tm, h, k, []⟩ rs = some (mk (.hs m 0 es.length))) (h1 : nx ≤ m) (h2 : m < k) (h3 : h m = some ⟨sz, es⟩) : endOwnM P fn nx h0 mk sz es .ret ⟨tm, h, k, []⟩ :=
  ⟨rfl, hk, hh, m, by rw [hrs]; exact hr, h1, h2, h3⟩
section
variable {nt : Nat} {Q : AX → St → Prop} {ops : Array Oper} {rest : List Oper} {tm : Nat → AV} {h : AHeap} {k : Nat} {df : List ADef} {ty : TypeId} {pos : String} {after : Array Edge} {d : Nat} {v : AV}
theorem W_ownM [ρ : Rnd] {c : Call} {f : FuncId} {args : List AV} {mk : AV → AV} {sz : Nat} {es : List (List AV)} (hd : decide (d < nt) = true) (ha : calleeW tm c = some (f, args)) (hc : callable P f = true) (hf : aOwnM P f args mk sz es) (hr : ∀ m k', k ≤ m → m < k' → aOps P nt ops rest Q ⟨upd tm d (mk (.hs m 0 es.length)), upd h m (some ⟨sz, es⟩), k', df⟩) :
    aOps P nt ops (⟨some d, .call c, ty, pos, after, none⟩ :: rest) Q ⟨tm, h, k, df⟩ := by
  unfold calleeW at ha
  obtain ⟨⟨f', args'⟩, h1, h2⟩ := Option.map_eq_some_iff.1 ha
  simp only [Prod.mk.injEq] at h2
  obtain ⟨rfl, rfl⟩ := h2
  exact aOps_call rfl hd rfl h1 hc (fun B w0 O σ w vs q1 q2 q3 q4 => hf h k B w0 O σ w vs q1 q2 q3 q4.weak) (fun a h' k' ⟨m, e1, e2, e3, e4⟩ => by cases e1; subst e2; exact hr m k' e3 e4) (fun a h' k' ⟨m, e1, _⟩ => by cases e1)
end
/-- A row within a struct is frozen. -/
def frzN (n : Nat) (b : Blk) : AV → AV
  | .hs m off len => if m = n ∧ off + len ≤ b.es.length then .sl ((b.es.drop off).take len) else .hs m off len
  | a => a
theorem Sub.freezeIn {st : St} {t n : Nat} {b : Blk} {cs : List AV} (ht : st.tm t = .agg cs) (hn : st.h n = some b) : Sub st ⟨upd st.tm t (.agg (cs.map (frzN n b))), upd st.h n none, st.nx, st.df⟩ := ⟨Nat.le_refl _, fun ρ B w0 nt σ act w hr => by
  obtain ⟨d1, d2⟩ := hr.sr.drop (fun i => decide (i = n))
  have hv := hr.tr t
  rw [ht] at hv
  obtain ⟨us, hus, h1⟩ := VR.agg_iff.1 hv
  have hf : VR σ w (Held σ (fun m => if decide (m = n) = true then none else st.h m)) B (.agg (cs.map (frzN n b))) (.agg us.toArray) := VR.agg_iff.2 ⟨us, rfl, by simpa using h1.1, fun j c v hc hv => by
    rw [List.getElem?_map] at hc
    obtain ⟨d, hd, rfl⟩ := Option.map_eq_some_iff.1 hc
    have h2 := h1.2 j d v hd hv
    unfold frzN
    split
    · rename_i m off len
      split
      · rename_i hq
        obtain ⟨rfl, hq2⟩ := hq
        exact VR.freeze hr.sr (fun i => decide (i = m)) hn (by simp) hq2 h2
      · exact d2 _ _ h2
    · exact d2 _ _ h2⟩
  rw [kill_eq] at d1 d2 hf
  refine ⟨⟨d1, fun i => ?_, hr.nt, hr.nx, hr.df.mono d2, ρ.pres hr.iv d2⟩, d2.vr⟩
  by_cases hi : i = t
  · subst hi
    simp only [upd_same]
    rw [hus]
    exact hf
  · simp only [upd_ne _ _ _ hi]
    exact d2 _ _ (hr.tr i)⟩
theorem W_freezeIn [ρ : Rnd] {nt : Nat} {Q : AX → St → Prop} {ops l : List Oper} {tm : Nat → AV} {h : AHeap} {k : Nat} {df : List ADef} (t n : Nat) {b : Blk} {cs : List AV} (ht : tm t = .agg cs) (hn : h n = some b) (hr : aOps P nt ops.toArray l Q ⟨upd tm t (.agg (cs.map (frzN n b))), upd h n none, k, df⟩) : aOps P nt ops.toArray l Q ⟨tm, h, k, df⟩ :=
  aOps_sub (Sub.freezeIn (st := ⟨tm, h, k, df⟩) ht hn) hr
theorem FN : (∀ (n : Nat) (b : Blk) (m off len : Nat), frzN n b (.hs m off len) = if m = n ∧ off + len ≤ b.es.length then .sl ((b.es.drop off).take len) else .hs m off len) ∧ (∀ (n : Nat) (b : Blk) (es : List (List AV)), frzN n b (.sl es) = .sl es) ∧ (∀ (n : Nat) (b : Blk), frzN n b .zs = .zs) ∧ (∀ (n : Nat) (b : Blk) (k : IntKind) (i : Int), frzN n b (.int k i) = .int k i) ∧ (∀ (n : Nat) (b : Blk) (c : Bool), frzN n b (.bool c) = .bool c) ∧ (∀ (n : Nat) (b : Blk) (l : List Int), frzN n b (.str l) = .str l) :=
  ⟨fun _ _ _ _ _ => rfl, fun _ _ _ => rfl, fun _ _ => rfl, fun _ _ _ _ => rfl, fun _ _ _ => rfl, fun _ _ _ => rfl⟩
/-! ### is a row nil? -/
section
variable {nt : Nat} {Q : AX → St → Prop} {ops : Array Oper} {rest : List Oper} {tm : Nat → AV} {h : AHeap} {k : Nat} {df : List ADef} {ty : TypeId} {pos : String} {after : Array Edge} {d : Nat}
def rowV : AV → Option Nat
  | .sl es => some es.length
  | .zs => some 0
  | .hs _ _ l => some l
  | _ => none
theorem rowV_ok {σ : Sig} {w : World} {X : Nat → Nat → Prop} {B : Nat} {a : AV} {v : Value} {n : Nat} (h : VR σ w X B a v) (hr : rowV a = some n) : ∃ ad l c, v = .slice ad l c ∧ (ad = none → n = 0) := by
  cases h <;> simp [rowV] at hr
  · subst hr; exact ⟨_, _, _, rfl, fun _ => rfl⟩
  · rename_i es a cap size vs hcap hb h hv
    subst hr
    refine ⟨_, _, _, rfl, fun he => ?_⟩
    subst he
    cases es with
    | nil => rfl
    | cons e es => obtain ⟨_, ad, q, _⟩ := h 0 e rfl; cases q
  · rename_i m off len a cap r hσ hcap hb hor
    subst hr
    refine ⟨_, _, _, rfl, fun he => ?_⟩
    subst he
    rcases hor with hor | ⟨q, _⟩
    · omega
    · cases q
theorem W_isnil [ρ : Rnd] {x : Operand} {t e u : TypeId} {n : Nat} (hd : decide (d < nt) = true) (hr : rowV (evA tm x) = some n) (ht : P.underlying t = some (.slice e)) (h1 : n = 0 → aOps P nt ops rest Q ⟨upd tm d (.bool true), h, k, df⟩) (h2 : aOps P nt ops rest Q ⟨upd tm d (.bool false), h, k, df⟩) :
    aOps P nt ops (⟨some d, .binOp .eql t x (.const (.slice none 0 0)) u, ty, pos, after, none⟩ :: rest) Q ⟨tm, h, k, df⟩ := fun B w0 O σ act w hr' hk => by
  have hv := hr'.tr.eval x
  obtain ⟨ad, l, c, hx, hz⟩ := rowV_ok hv hr
  have hw := guardA_ok (o := ⟨some d, .binOp .eql t x (.const (.slice none 0 0)) u, ty, pos, after, none⟩) (ops := ops) (b := true) hr'.tr rfl
  refine wpl_step hw (by intro c e; cases e) ?_
  have hrun : (execOp act.eval ⟨some d, .binOp .eql t x (.const (.slice none 0 0)) u, ty, pos, after, none⟩).run P w = .ok (.value (.bool ad.isNone)) w := by
    have hy : act.eval (.const (.slice none 0 0)) = .slice none 0 0 := rfl
    simp [execOp, hx, hy, eqGuard, binOp, Go.run_equal_slice_nil w t e ad l c ht]
  rw [hrun]
  have hput := hr'.put hr'.sr .refl hr'.nx (some d) hd (VR.bool (σ := σ) (w := w) (X := Held σ h) (B := B) ad.isNone)
  cases ad with
  | none => exact h1 (hz rfl) B w0 O σ _ w hput hk
  | some a => exact h2 B w0 O σ _ w hput hk
end
/-! ### rows that are told -/
def plain1 : AV → Bool
  | .bool _ | .int .. | .str _ => true
  | _ => false
def plainV : AV → Bool
  | .tup vs => vs.all plain1
  | a => plain1 a
def told1 (h : AHeap) : AV → AV
  | .hs n off len => match h n with
    | some k => if off + len ≤ k.es.length then .sl ((k.es.drop off).take len) else .hs n off len
    | none => .hs n off len
  | a => a
def toldA (h : AHeap) : AV → AV
  | .agg cs => .agg (cs.map (told1 h))
  | a => told1 h a
section
variable {B : Nat} {w0 w : World} {σ : Sig} {h : AHeap} {nx : Nat}
abbrev noH : AHeap := fun _ => none
theorem VR.told1 (hs : SR B w0 σ h w) {a : AV} {v : Value} (hv : VR σ w (Held σ h) B a v) : VR σ w (Held σ noH) B (told1 h a) v := by
  obtain ⟨d1, d2⟩ := hs.drop (fun _ => true)
  simp only [if_true] at d1 d2
  unfold AE.told1
  split
  · rename_i n off len
    split
    · rename_i k hk
      split
      · have := VR.freeze hs (fun _ => true) hk rfl (by assumption) hv
        simpa using this
      · exact d2 _ _ hv
    · exact d2 _ _ hv
  · exact d2 _ _ hv
theorem VR.toldA (hs : SR B w0 σ h w) {a : AV} {v : Value} (hv : VR σ w (Held σ h) B a v) : VR σ w (Held σ noH) B (toldA h a) v := by
  unfold AE.toldA
  split
  · rename_i cs
    obtain ⟨us, rfl, h1⟩ := VR.agg_iff.1 hv
    refine VR.agg_iff.2 ⟨us, rfl, by simpa using h1.1, fun j c v hc hv => ?_⟩
    rw [List.getElem?_map] at hc
    obtain ⟨d, hd, rfl⟩ := Option.map_eq_some_iff.1 hc
    exact (h1.2 j d v hd hv).told1 hs
  · exact hv.told1 hs
theorem plain1_ok {σ σ' : Sig} {w w' : World} {X X' : Nat → Nat → Prop} {B B' : Nat} {a : AV} {v : Value} (hp : plain1 a = true) (h : VR σ w X B a v) : VR σ' w' X' B' a v := by
  cases h <;> first | (simp [plain1] at hp; done) | (constructor <;> assumption) | constructor
theorem plainV_ok {σ σ' : Sig} {w w' : World} {X X' : Nat → Nat → Prop} {B B' : Nat} {a : AV} {v : Value} (hp : plainV a = true) (h : VR σ w X B a v) : VR σ' w' X' B' a v := by
  unfold plainV at hp
  split at hp
  · rename_i vs
    obtain ⟨us, rfl, h1⟩ := VR.tup_iff.1 h
    refine VR.tup_iff.2 ⟨us, rfl, h1.1, fun j c v hc hv => plain1_ok ?_ (h1.2 j c v hc hv)⟩
    exact List.all_eq_true.1 hp c (List.mem_of_getElem? hc)
  · exact plain1_ok hp h
theorem aCalls_told {f : FuncId} {args : List AV} {v : AV} (hf : aFun P f (args.map fun a => weakA (toldA h a)) v) (hp : plainV v = true) : aCalls P f args h nx (fun e h' k' => e = .ret v ∧ h' = h ∧ nx ≤ k') := by
  intro B w0 O σ w vs hs hx hk hv
  have hv2 : VRs σ w (Held σ noH) w.heap.size (args.map fun a => weakA (toldA h a)) vs.toList := ⟨by simpa using hv.1, fun j c u hc hu => by
    rw [List.getElem?_map] at hc
    obtain ⟨d, hd, rfl⟩ := Option.map_eq_some_iff.1 hc
    exact ((hv.2 j d u hd hu).toldA hs).weakA.anyB⟩
  have hs2 : SR w.heap.size w σ noH w := ⟨Below.refl _ _, Nat.le_refl _, (fun n k hn => by simp [noH] at hn), (fun n m r s b i hn => by simp [noH] at hn)⟩
  refine (hf noH nx w.heap.size w ⟨σ, noH, w, nx⟩ σ w vs hs2 hx (.refl _ _ _ _) hv2).mono ?_
  rintro e w' ⟨ae, h', nx', σ', g1, g2, g3, g4, rfl, rfl, g7⟩
  cases g1 with
  | ret _ u hu =>
  have hσ : ∀ n, (h n).isSome = true → σ' n = σ n := fun n hn => g4.σ n (by
    rcases Nat.lt_or_ge n nx with q | q
    · exact q
    · rw [hs.none_of (hx n q)] at hn; cases hn)
  have lt : ∀ b i, (w.cell? ⟨b, i, none⟩).isSome = true → b < w.heap.size := fun b i hb => by
    rcases Nat.lt_or_ge b w.heap.size with q | q
    · exact q
    · simp [World.cell?, Array.getElem?_eq_none q] at hb
  have hcell : ∀ b i, (w.cell? ⟨b, i, none⟩).isSome = true → w'.cell? ⟨b, i, none⟩ = w.cell? ⟨b, i, none⟩ := fun b i hb => World.cell?_of_block (w := w) (a := ⟨b, i, none⟩) (g2.old.block b (lt b i hb))
  have hfrz : ∀ b i, (w.cell? ⟨b, i, none⟩).isSome = true → w'.frozen? ⟨b, i, none⟩ = w.frozen? ⟨b, i, none⟩ := fun b i hb => World.frozen?_of_block (w := w) (a := ⟨b, i, none⟩) (g2.old.block b (lt b i hb))
  have held : ∀ b i, Held σ' h b i → Held σ h b i := by
    rintro b i ⟨n, r, q1, q2, q3⟩
    exact ⟨n, r, q1, by rw [← hσ n q1]; exact q2, q3⟩
  have keep : ∀ a v, VR σ w (Held σ h) B a v → VR σ' w' (Held σ' h) B a v := fun a v hv => by
    refine hv.mono (fun n r hn => ?_) (fun b i u hu hx => ⟨by rw [hcell b i (by rw [hu]; rfl)]; exact hu, fun q => hx (held b i q)⟩) (Nat.le_refl _)
    rw [g4.σ n (by
      rcases Nat.lt_or_ge n nx with q | q
      · exact q
      · rw [hx n q] at hn; cases hn)]
    exact hn
  refine ⟨.ret v, h, nx', σ', .ret v u (plainV_ok hp hu), ⟨hs.old.trans ⟨g2.old.os, g2.old.tape, g2.old.output, g2.old.size, fun b hb => g2.old.block b (Nat.lt_of_lt_of_le hb hs.hB)⟩, Nat.le_trans hs.hB g2.old.size, fun n k hn => ?_, fun n m r s b i h1 h2 h3 h4 => hs.dis n m r s b i h1 h2 ?_ ?_⟩, g3, hk.trans ⟨keep, g4.vr.oth⟩ g4.nx (fun n hn => g4.σ n hn), rfl, rfl, g4.nx⟩
  · obtain ⟨r, q1, q2, q3, q4, q5, q6, q7⟩ := hs.blk n k hn
    refine ⟨r, by rw [hσ n (by rw [hn]; rfl)]; exact q1, q2, q3, q4, q5, fun i hi => ?_, fun i e he => ?_⟩
    · obtain ⟨p1, p2⟩ := q6 i hi
      rw [hcell _ _ p1, hfrz _ _ p1]
      exact ⟨p1, p2⟩
    · obtain ⟨p1, p2⟩ := q7 i e he
      refine ⟨p1, fun j a ha => ?_⟩
      obtain ⟨p3, u, p4, p5, p6⟩ := p2 j a ha
      exact ⟨p3, u, p4, by rw [hcell _ _ (by rw [p5]; rfl)]; exact p5, keep _ _ p6⟩
  · rw [← hσ n h1]; exact h3
  · rw [← hσ m h2]; exact h4
end
section
variable {nt : Nat} {Q : AX → St → Prop} {ops : Array Oper} {rest : List Oper} {tm : Nat → AV} {h : AHeap} {k : Nat} {df : List ADef} {ty : TypeId} {pos : String} {after : Array Edge} {d : Nat} {v : AV}
/-- A call's function and arguments, rows told. -/
def calleeT (h : AHeap) (tm : Nat → AV) (c : Call) : Option (FuncId × List AV) := (calleeA tm c).map fun p => (p.1, p.2.map fun a => weakA (toldA h a))
theorem W_told [ρ : Rnd] {c : Call} {f : FuncId} {args : List AV} (hd : decide (d < nt) = true) (ha : calleeT h tm c = some (f, args)) (hc : callable P f = true) (hf : aFun P f args v) (hp : plainV v = true) (hr : ∀ k', k ≤ k' → aOps P nt ops rest Q ⟨upd tm d v, h, k', df⟩) :
    aOps P nt ops (⟨some d, .call c, ty, pos, after, none⟩ :: rest) Q ⟨tm, h, k, df⟩ := by
  unfold calleeT at ha
  obtain ⟨⟨f', args'⟩, h1, h2⟩ := Option.map_eq_some_iff.1 ha
  simp only [Prod.mk.injEq] at h2
  obtain ⟨rfl, rfl⟩ := h2
  exact aOps_call rfl hd rfl h1 hc (aCalls_told hf hp) (fun a h' k' ⟨e1, e2, e3⟩ => by cases e1; subst e2; exact hr k' e3) (fun a h' k' ⟨e1, _⟩ => by cases e1)
end
end Go.Proofs.YtjidgdfdeckofaaDoor.AE
/- Rows of numbers; loops by the slots that stay. No program in sight. -/
namespace Go.Proofs.YtjidgdfdeckofaaDoor.AE
open Go Go.RowKit
set_option linter.unusedVariables false
set_option linter.unusedSimpArgs false
/-- Numbers as a row's elements. -/
def numB (k : IntKind) (l : List Int) : List (List AV) := l.map fun c => [.int k c]
/-- A row, written over from a place on. -/
def rowI (l : List Int) (o : Nat) (m : List Int) : List Int := l.take o ++ m ++ l.drop (o + m.length)
theorem octsOf_num : ∀ l : List Int, octsOf (numB .u8 l) = some l
  | [] => rfl
  | a :: l => by
    have := octsOf_num l
    unfold numB at this ⊢
    simp only [List.map_cons, octsOf, this, Option.map_some]
def u8K : Option TK → Option Unit
  | some (.int .u8) => some ()
  | _ => none
theorem aConv_b (P : Program) (h : AHeap) (t u : TypeId) (x : AV) (hx : x = .zs ∨ (∃ es, x = .sl es) ∨ ∃ a b c, x = .hs a b c) : aConv P h t u x = (elemK (kT P t)).bind fun e => (strK (kT P u)).bind fun _ => (u8K (kT P e)).bind fun _ => (aRow h 1 x).bind fun r => (octsOf r).map .str := by
  have key : ∀ e, (match P.underlying e with
    | some (.int .u8) => (aRow h 1 x).bind fun es => (octsOf es).map AV.str
    | _ => none) = (u8K (kT P e)).bind fun _ => (aRow h 1 x).bind fun r => (octsOf r).map AV.str := fun e => by
    unfold kT
    cases P.underlying e with
    | none => rfl
    | some d =>
      cases d <;> try rfl
      rename_i k
      cases k <;> rfl
  rcases hx with rfl | ⟨es, rfl⟩ | ⟨a, b, c, rfl⟩ <;> unfold aConv kT <;> cases ht : P.underlying t with
  | none => cases hu : P.underlying u <;> rfl
  | some d =>
    cases hu : P.underlying u with
    | none => cases d <;> rfl
    | some d' => cases d <;> cases d' <;> first | rfl | exact key _
theorem NB : (∀ (k : IntKind) (l : List Int), (numB k l).length = l.length) ∧
    (∀ (k : IntKind) (l : List Int) (n : Nat), (numB k l).drop n = numB k (l.drop n)) ∧
    (∀ (k : IntKind) (l : List Int) (n : Nat), (numB k l).take n = numB k (l.take n)) ∧
    (∀ (k : IntKind) (l : List Int) (m : List Int), numB k l ++ numB k m = numB k (l ++ m)) ∧
    (∀ (k : IntKind) (c : Int), [[AV.int k c]] = numB k [c]) ∧
    (∀ (k : IntKind) (l : List Int) (c : Int), [AV.int k c] :: numB k l = numB k (c :: l)) ∧
    (∀ (k : IntKind) (l : List Int) (i : Nat), (numB k l)[i]? = (l[i]?).map fun c => [.int k c]) ∧
    (∀ (k : IntKind) (l : List Int), (numB k l).all (fun e => e.length == 1) = true) ∧
    (∀ (k : IntKind) (c : Int) (n : Nat), List.replicate n [AV.int k c] = numB k (List.replicate n c)) ∧
    (∀ (k : IntKind) (l : List Int) (i : Nat) (c : Int), (numB k l).set i [AV.int k c] = numB k (l.set i c)) ∧
    (∀ (k : IntKind) (l : List Int) (o : Nat) (m : List Int), rowPut (numB k l) o (numB k m) = numB k (rowI l o m)) ∧
    (∀ (l : List Int), octsOf (numB .u8 l) = some l) ∧
    (∀ (l : List Int), (l.map fun c => [AV.int .u8 c]) = numB .u8 l) ∧
    (∀ (k : IntKind), numB k [] = []) ∧
    (octsOf [] = some []) ∧
    (∀ (α : Type) (l : List α), l.take l.length = l) ∧
    (∀ (α : Type) (l m : List α), (l ++ m).take (l.length + m.length) = l ++ m) ∧
    (∀ (α : Type) (l m : List α), (l ++ m).length = l.length + m.length) ∧
    (∀ (α : Type) (n : Nat) (a : α), (List.replicate n a).length = n) ∧
    (∀ (α : Type) (l : List α) (i : Nat) (a : α), (l.set i a).length = l.length) ∧
    (∀ (l : List Int) (m : List Int), rowI l 0 m = m ++ l.drop m.length) ∧
    (u8K (some (.int .u8)) = some ()) ∧
    (∀ (P : Program) (h : AHeap) (t u : TypeId) (es : List (List AV)), aConv P h t u (.sl es) = (elemK (kT P t)).bind fun e => (strK (kT P u)).bind fun _ => (u8K (kT P e)).bind fun _ => (aRow h 1 (.sl es)).bind fun r => (octsOf r).map .str) ∧
    (∀ (P : Program) (h : AHeap) (t u : TypeId) (a b c : Nat), aConv P h t u (.hs a b c) = (elemK (kT P t)).bind fun e => (strK (kT P u)).bind fun _ => (u8K (kT P e)).bind fun _ => (aRow h 1 (.hs a b c)).bind fun r => (octsOf r).map .str) ∧
    (∀ (P : Program) (h : AHeap) (t u : TypeId), aConv P h t u .zs = (elemK (kT P t)).bind fun e => (strK (kT P u)).bind fun _ => (u8K (kT P e)).bind fun _ => (aRow h 1 .zs).bind fun r => (octsOf r).map .str) ∧
    (∀ (a : Nat), a * 1 = a) ∧
    (∀ (a : Nat), a * 0 = 0) ∧
    (∀ (α : Type) (c : Prop) (_i : Decidable c) (a b : α), c → @ite α c _i a b = a) ∧
    (∀ (α : Type) (c : Prop) (_i : Decidable c) (a b : α), ¬ c → @ite α c _i a b = b) ∧
    (Int.toNat 0 = 0) ∧
    (Int.toNat 1 = 1) ∧
    (Int.toNat 2 = 2) ∧
    (Int.toNat 3 = 3) ∧
    (Int.toNat 4 = 4) ∧
    (Int.toNat 5 = 5) ∧
    (Int.toNat 6 = 6) ∧
    (Int.toNat 7 = 7) ∧
    (Int.toNat 8 = 8) ∧
    (Int.toNat 9 = 9) ∧
    (Int.toNat 10 = 10) ∧
    (Int.toNat 11 = 11) ∧
    (Int.toNat 12 = 12) ∧
    (Int.toNat 13 = 13) ∧
    (Int.toNat 14 = 14) ∧
    (Int.toNat 15 = 15) ∧
    (Int.toNat 16 = 16) ∧
    (Int.toNat 24 = 24) ∧
    (Int.toNat 32 = 32) ∧
    (Int.toNat 60 = 60) ∧
    (Int.toNat 64 = 64) ∧
    (∀ (a : Nat), a - 0 = a) ∧
    ((!true) = false) ∧
    ((!false) = true) ∧
    (∀ (b : Bool), (false && b) = false) ∧
    (∀ (b : Bool), (b && false) = false) ∧
    (∀ (α : Type) (l : List α) (n : Nat), (l.take n).take n = l.take n) :=
  ⟨(fun k l => by simp [numB]),
   (fun k l n => by simp [numB]),
   (fun k l n => by simp [numB]),
   (fun k l m => by simp [numB]),
   (fun k c => rfl),
   (fun k l c => rfl),
   (fun k l i => by simp [numB]),
   (fun k l => by simp [numB]),
   (fun k c n => by simp [numB]),
   (fun k l i c => by simp [numB, List.map_set]),
   (fun k l o m => by simp [numB, rowPut, rowI]),
   (fun l => octsOf_num l),
   (fun l => rfl),
   (fun k => rfl),
   (rfl),
   (fun α l => by simp),
   (fun α l m => by rw [← List.length_append, List.take_length]),
   (fun α l m => by simp),
   (fun α n a => by simp),
   (fun α l i a => by simp),
   (fun l m => by simp [rowI]),
   (rfl),
   (fun P h t u es => aConv_b P h t u _ (.inr (.inl ⟨_, rfl⟩))),
   (fun P h t u a b c => aConv_b P h t u _ (.inr (.inr ⟨_, _, _, rfl⟩))),
   (fun P h t u => aConv_b P h t u _ (.inl rfl)),
   (fun a => by simp),
   (fun a => rfl),
   (fun α c _i a b => fun h => if_pos h),
   (fun α c _i a b => fun h => if_neg h),
   (rfl),
   (rfl),
   (rfl),
   (rfl),
   (rfl),
   (rfl),
   (rfl),
   (rfl),
   (rfl),
   (rfl),
   (rfl),
   (rfl),
   (rfl),
   (rfl),
   (rfl),
   (rfl),
   (rfl),
   (rfl),
   (rfl),
   (rfl),
   (rfl),
   (fun a => rfl),
   (rfl),
   (rfl),
   (fun b => rfl),
   (fun b => by simp),
   (fun α l n => by rw [List.take_take, Nat.min_self])⟩
theorem LL : (∀ (α : Type) (l m : List α), (l ++ m).length = l.length + m.length) ∧ (∀ (α : Type) (a : α) (l : List α), (a :: l).length = l.length + 1) ∧ (∀ α : Type, ([] : List α).length = 0) ∧ (∀ (α : Type) (n : Nat) (a : α), (List.replicate n a).length = n) :=
  ⟨fun _ _ _ => by simp, fun _ _ _ => rfl, fun _ => rfl, fun _ _ _ => by simp⟩
theorem WY : (∀ (tm : Nat → AV) (k : IntKind) (n : Int), InR k n → evA tm (.const (.int k n)) = .int k n) ∧ (∀ (α : Type) (f : Nat → α) (n : Nat) (v : α), upd f n v n = v) ∧ (∀ (α : Type) (f : Nat → α) (n : Nat) (v : α) (m : Nat), m ≠ n → upd f n v m = f m) :=
  ⟨evA_int, fun _ => upd_same, fun _ f n v m h => upd_ne f n v h⟩
theorem FY : type_of% (And.intro FZ <| And.intro frz_tup <| And.intro frz_nil <| And.intro frz_cons <| And.intro frz2_agg <| And.intro frzV_agg <| And.intro frzL_nil <| And.intro frzL_cons <| And.intro frz1_hs <| And.intro frz2_hs frzV_hs) :=
  And.intro FZ <| And.intro frz_tup <| And.intro frz_nil <| And.intro frz_cons <| And.intro frz2_agg <| And.intro frzV_agg <| And.intro frzL_nil <| And.intro frzL_cons <| And.intro frz1_hs <| And.intro frz2_hs frzV_hs
/-- Temporaries of S hold what they held. -/
def KAgree (S : List Nat) (base tm : Nat → AV) : Prop := ∀ t, S.contains t = true → tm t = base t
theorem KAgree.refl (S : List Nat) (base : Nat → AV) : KAgree S base base := fun _ _ => rfl
theorem KAgree.upd {S : List Nat} {base tm : Nat → AV} {d : Nat} {v : AV} (hd : S.contains d = false) (h : KAgree S base tm) : KAgree S base (AE.upd tm d v) := fun t ht => by
  rw [upd_ne]
  · exact h t ht
  · rintro rfl
    rw [hd] at ht
    cases ht
def KAll (base tm : Nat → AV) : List Nat → Prop
  | [] => True
  | t :: S => tm t = base t ∧ KAll base tm S
theorem KAgree.of {base tm : Nat → AV} : ∀ {S : List Nat}, KAll base tm S → KAgree S base tm
  | [], _, t, ht => by simp at ht
  | s :: S, h, t, ht => by
    simp only [List.contains_cons, Bool.or_eq_true, beq_iff_eq] at ht
    rcases ht with rfl | ht
    · exact h.1
    · exact KAgree.of h.2 t ht
section
variable {P : Program} {nt : Nat} {Q : AX → St → Prop} {c : Code}
theorem W_loopK [ρ : Rnd] {tm : Nat → AV} {h : AHeap} {k : Nat} {df : List ADef} (S : List Nat) (n0 : Nat) (I : Nat → (Nat → AV) → AHeap → Nat → Prop) (n : Nat) (hn0 : n0 ≤ k) (h0 : I n tm h k)
    (round : ∀ n tm' h' k', I n tm' h' k' → (∀ t, S.contains t = true → tm' t = tm t) → (∀ m, m < n0 → h' m = h m) → n0 ≤ k' →
      aWp P nt c (AX.andThen (fun s => ∃ m, m < n ∧ I m s.tm s.h s.nx ∧ KAgree S tm s.tm ∧ HAgree n0 h s.h ∧ n0 ≤ s.nx ∧ s.df = df) Q) ⟨tm', h', k', df⟩) : aWp P nt (.loop c) Q ⟨tm, h, k, df⟩ := by
  refine aWp_loop (fun n s => I n s.tm s.h s.nx ∧ KAgree S tm s.tm ∧ HAgree n0 h s.h ∧ n0 ≤ s.nx ∧ s.df = df) n ⟨h0, .refl _ _, .refl _ _, hn0, rfl⟩ ?_
  rintro n ⟨tm', h', k', df'⟩ ⟨h1, h2, h3, h4, h5⟩
  simp only at h5
  subst h5
  exact round n tm' h' k' h1 h2 h3 h4
end
end Go.Proofs.YtjidgdfdeckofaaDoor.AE
/- Functions that turn memory that they are handed. No program in sight. -/
namespace Go.Proofs.YtjidgdfdeckofaaDoor.AE
open Go Go.RowKit
set_option linter.unusedVariables false
set_option linter.unusedSimpArgs false
variable {P : Program}
section
variable {nt : Nat} {Q : AX → St → Prop} {ops : Array Oper} {rest : List Oper} {tm : Nat → AV} {h : AHeap} {k : Nat} {df : List ADef} {d : Nat} {ty : TypeId} {pos : String} {after : Array Edge} {v : AV}
/-- It answers v, and memory is h2 behind it. -/
def aEff (P : Program) (f : FuncId) (args : List AV) (h : AHeap) (nx : Nat) (v : AV) (h2 : AHeap) : Prop := aCalls P f args h nx (fun e h' k' => e = .ret v ∧ h' = h2 ∧ nx ≤ k')
theorem aEff_body {f : FuncId} {fn : Func} {c : Code} {args : List AV} {nx : Nat} {h2 : AHeap} (hf : P.funcs[f]? = some fn) (hb : fn.body = some c) (hn : fn.ntmps = nt) (ha : args.length ≤ nt)
    (hw : (∀ a ∈ args, Real a) → (∀ n, nx ≤ n → h n = none) → (∀ n, nx ≤ n → h2 n = none) ∧ aWp P nt c (endQ P fn nx h2 v) ⟨tm0 args, h, nx, []⟩) : aEff P f args h nx v h2 := aCalls_real fun hreal hfresh => by
  obtain ⟨hf2, hw⟩ := hw hreal hfresh
  have h1 : aCalls P f args h nx (fun e h' k' => ∃ a, e = .ret a ∧ frzV nx h' a = some v ∧ (∀ n, n < nx → h' n = h2 n) ∧ nx ≤ k') := by
    refine aCalls_body hf hb hn ha (aWp_mono hw ?_)
    rintro e s hs
    cases e with
    | norm => obtain ⟨q1, q2, q3, a, q4, q5⟩ := hs; exact ⟨q1, a, q4, a, rfl, q5, q3, q2⟩
    | ret => obtain ⟨q1, q2, q3, a, q4, q5⟩ := hs; exact ⟨q1, a, q4, a, rfl, q5, q3, q2⟩
    | ex id => exact hs.elim
    | gt l => exact hs.elim
    | pan v => exact hs.elim
  intro B w0 O σ w vs hs hx hk hv
  refine (h1 B w0 O σ w vs hs hx hk hv).mono ?_
  rintro e w' ⟨ae, h', nx', σ', g1, g2, g3, g4, a, rfl, g5, g6, g7⟩
  cases g1 with
  | ret _ u hu =>
  obtain ⟨d1, d2⟩ := g2.drop (fun m => decide (nx ≤ m))
  have hfz := frzV_ok g2 g5 hu
  have he : (fun m => if decide (nx ≤ m) = true then none else h' m) = h2 := by
    funext m
    by_cases hm : nx ≤ m
    · simp [hm, hf2 m hm]
    · simp [hm, g6 m (by omega)]
  rw [he] at d1 d2 hfz
  exact ⟨.ret v, h2, nx', σ', .ret v u hfz, d1, g3, g4.trans d2 (Nat.le_refl _) (fun _ _ => rfl), rfl, rfl, g7⟩
/-- A call that turns memory. -/
theorem W_eff [ρ : Rnd] {c : Call} {f : FuncId} {args : List AV} {h2 : AHeap} (hd : decide (d < nt) = true) (ha : calleeA tm c = some (f, args)) (hc : callable P f = true) (hf : aEff P f args h k v h2) (hr : ∀ k', k ≤ k' → aOps P nt ops rest Q ⟨upd tm d v, h2, k', df⟩) :
    aOps P nt ops (⟨some d, .call c, ty, pos, after, none⟩ :: rest) Q ⟨tm, h, k, df⟩ :=
  aOps_call rfl hd rfl ha hc hf (fun a h' k' ⟨e1, e2, e3⟩ => by cases e1; subst e2; exact hr k' e3) (fun a h' k' ⟨e1, _⟩ => by cases e1)
/-- The same, where the arguments are told without room. -/
theorem W_effW [ρ : Rnd] {c : Call} {f : FuncId} {args : List AV} {h2 : AHeap} (hd : decide (d < nt) = true) (ha : calleeW tm c = some (f, args)) (hc : callable P f = true) (hf : aEff P f args h k v h2) (hr : ∀ k', k ≤ k' → aOps P nt ops rest Q ⟨upd tm d v, h2, k', df⟩) :
    aOps P nt ops (⟨some d, .call c, ty, pos, after, none⟩ :: rest) Q ⟨tm, h, k, df⟩ := by
  unfold calleeW at ha
  obtain ⟨⟨f', args'⟩, h1, h2⟩ := Option.map_eq_some_iff.1 ha
  simp only [Prod.mk.injEq] at h2
  obtain ⟨rfl, rfl⟩ := h2
  exact aOps_call rfl hd rfl h1 hc (fun B w0 O σ w vs q1 q2 q3 q4 => hf B w0 O σ w vs q1 q2 q3 q4.weak) (fun a h' k' ⟨e1, e2, e3⟩ => by cases e1; subst e2; exact hr k' e3) (fun a h' k' ⟨e1, _⟩ => by cases e1)
theorem W_effG [ρ : Rnd] {c : Call} {f : FuncId} {args : List AV} {h2 : AHeap} {j : Nat} {b : Bool} (hg : guardA ops tm (some (j, b)) = some true) (hd : decide (d < nt) = true) (ha : calleeA tm c = some (f, args)) (hc : callable P f = true) (hf : aEff P f args h k v h2) (hr : ∀ k', k ≤ k' → aOps P nt ops rest Q ⟨upd tm d v, h2, k', df⟩) :
    aOps P nt ops (⟨some d, .call c, ty, pos, after, some (j, b)⟩ :: rest) Q ⟨tm, h, k, df⟩ :=
  aOps_call hg hd rfl ha hc hf (fun a h' k' ⟨e1, e2, e3⟩ => by cases e1; subst e2; exact hr k' e3) (fun a h' k' ⟨e1, _⟩ => by cases e1)
/-- A call that does whatever R says. -/
theorem W_R [ρ : Rnd] {c : Call} {f : FuncId} {args : List AV} {R : AEnd → AHeap → Nat → Prop} (hd : decide (d < nt) = true) (ha : calleeA tm c = some (f, args)) (hc : callable P f = true) (hf : aCalls P f args h k R) (hp : ∀ a h' k', ¬ R (.pan a) h' k') (hr : ∀ a h' k', R (.ret a) h' k' → aOps P nt ops rest Q ⟨upd tm d a, h', k', df⟩) :
    aOps P nt ops (⟨some d, .call c, ty, pos, after, none⟩ :: rest) Q ⟨tm, h, k, df⟩ :=
  aOps_call rfl hd rfl ha hc hf hr (fun a h' k' q => absurd q (hp a h' k'))
/-- A block is cut shorter. -/
theorem Sub.trunc {st : St} {m sz : Nat} {es rest : List (List AV)} (hm : st.h m = some ⟨sz, es ++ rest⟩) : Sub st ⟨st.tm, upd st.h m (some ⟨sz, es⟩), st.nx, st.df⟩ := ⟨Nat.le_refl _, fun ρ B w0 nt σ act w hr => by
  obtain ⟨h1, h2⟩ := hr.sr.trunc hm
  have h3 : ∀ a v, VR σ w (Held σ st.h) B a v → VR σ w (Held σ (upd st.h m (some ⟨sz, es⟩))) B a v := fun a v q => by rw [h2]; exact q
  exact ⟨⟨h1, fun t => h3 _ _ (hr.tr t), hr.nt, hr.nx, hr.df.mono ⟨h3, .refl _⟩, ρ.pres hr.iv ⟨h3, .refl _⟩⟩, h3⟩⟩
/-- It answers two owned rows within a value. -/
def aOwn2 (P : Program) (f : FuncId) (args : List AV) (mk : AV → AV → AV) (sz1 : Nat) (es1 : List (List AV)) (sz2 : Nat) (es2 : List (List AV)) : Prop := ∀ h nx, aCalls P f args h nx (fun e h' k' => ∃ m1 m2, e = .ret (mk (.hs m1 0 es1.length) (.hs m2 0 es2.length)) ∧ h' = upd (upd h m1 (some ⟨sz1, es1⟩)) m2 (some ⟨sz2, es2⟩) ∧ nx ≤ m1 ∧ nx ≤ m2 ∧ m1 ≠ m2 ∧ m1 < k' ∧ m2 < k')
def endOwn2 (P : Program) (fn : Func) (nx : Nat) (h : AHeap) (mk : AV → AV → AV) (sz1 : Nat) (es1 : List (List AV)) (sz2 : Nat) (es2 : List (List AV)) : AX → St → Prop
  | .norm, s | .ret, s => s.df = [] ∧ nx ≤ s.nx ∧ HAgree nx h s.h ∧ ∃ m1 m2, resA P s fn.results.toList = some (mk (.hs m1 0 es1.length) (.hs m2 0 es2.length)) ∧ nx ≤ m1 ∧ nx ≤ m2 ∧ m1 ≠ m2 ∧ m1 < s.nx ∧ m2 < s.nx ∧ s.h m1 = some ⟨sz1, es1⟩ ∧ s.h m2 = some ⟨sz2, es2⟩
  | _, _ => False
theorem aOwn2_body {f : FuncId} {fn : Func} {c : Code} {args : List AV} {mk : AV → AV → AV} {sz1 sz2 : Nat} {es1 es2 : List (List AV)} (hf : P.funcs[f]? = some fn) (hb : fn.body = some c) (hn : fn.ntmps = nt) (ha : args.length ≤ nt)
    (hw : (∀ a ∈ args, Real a) → ∀ h nx, (∀ n, nx ≤ n → h n = none) → aWp P nt c (endOwn2 P fn nx h mk sz1 es1 sz2 es2) ⟨tm0 args, h, nx, []⟩) : aOwn2 P f args mk sz1 es1 sz2 es2 := fun h nx => aCalls_real fun hreal hfresh => by
  have h1 : aCalls P f args h nx (fun e h' k' => ∃ m1 m2, e = .ret (mk (.hs m1 0 es1.length) (.hs m2 0 es2.length)) ∧ nx ≤ k' ∧ HAgree nx h h' ∧ nx ≤ m1 ∧ nx ≤ m2 ∧ m1 ≠ m2 ∧ m1 < k' ∧ m2 < k' ∧ h' m1 = some ⟨sz1, es1⟩ ∧ h' m2 = some ⟨sz2, es2⟩) := by
    refine aCalls_body hf hb hn ha (aWp_mono (hw hreal h nx hfresh) ?_)
    rintro e s hs
    cases e with
    | norm => obtain ⟨q1, q2, q3, m1, m2, q4, q5⟩ := hs; exact ⟨q1, _, q4, m1, m2, rfl, q2, q3, q5⟩
    | ret => obtain ⟨q1, q2, q3, m1, m2, q4, q5⟩ := hs; exact ⟨q1, _, q4, m1, m2, rfl, q2, q3, q5⟩
    | ex id => exact hs.elim
    | gt l => exact hs.elim
    | pan v => exact hs.elim
  intro B w0 O σ w vs hs hx hk hv
  refine (h1 B w0 O σ w vs hs hx hk hv).mono ?_
  rintro e w' ⟨ae, h', nx', σ', g1, g2, g3, g4, m1, m2, rfl, g5, g6, q1, q2, q3, q4, q5, q6, q7⟩
  cases g1 with
  | ret _ u hu =>
  obtain ⟨d1, d2⟩ := g2.drop (fun i => decide (nx ≤ i ∧ i ≠ m1 ∧ i ≠ m2))
  have hq : (fun i => if decide (nx ≤ i ∧ i ≠ m1 ∧ i ≠ m2) = true then none else h' i) = upd (upd h m1 (some ⟨sz1, es1⟩)) m2 (some ⟨sz2, es2⟩) := by
    funext i
    by_cases e : i = m2
    · subst e; rw [upd_same]; simp [q7]
    · rw [upd_ne _ _ _ e]
      by_cases e' : i = m1
      · subst e'; rw [upd_same]; simp [q6]
      · rw [upd_ne _ _ _ e']
        by_cases hi : nx ≤ i
        · simp [hi, e, e', hfresh i hi]
        · simp [hi, g6 i (by omega)]
  rw [hq] at d1 d2
  exact ⟨_, _, nx', σ', .ret _ u (d2 _ _ hu), d1, g3, g4.trans d2 (Nat.le_refl _) (fun _ _ => rfl), m1, m2, rfl, rfl, q1, q2, q3, q4, q5⟩
theorem W_endOwn2 {fn : Func} {h0 : AHeap} {nx : Nat} {rs : List ResultVar} {mk : AV → AV → AV} {sz1 sz2 : Nat} {es1 es2 : List (List AV)} (m1 m2 : Nat) (hk : nx ≤ k) (hh : HAgree nx h0 h) (hrs : fn.results.toList = rs) (hr : resA P ⟨tm, h, k, []⟩ rs = some (mk (.hs m1 0 es1.length) (.hs m2 0 es2.length))) (h1 : nx ≤ m1 ∧ nx ≤ m2 ∧ m1 ≠ m2 ∧ m1 < k ∧ m2 < k) (h3 : h m1 = some ⟨sz1, es1⟩) (h4 : h m2 = some ⟨sz2, es2⟩) : endOwn2 P fn nx h0 mk sz1 es1 sz2 es2 .ret ⟨tm, h, k, []⟩ :=
  ⟨rfl, hk, hh, m1, m2, by rw [hrs]; exact hr, h1.1, h1.2.1, h1.2.2.1, h1.2.2.2.1, h1.2.2.2.2, h3, h4⟩
theorem W_own2 [ρ : Rnd] {c : Call} {f : FuncId} {args : List AV} {mk : AV → AV → AV} {sz1 sz2 : Nat} {es1 es2 : List (List AV)} (hd : decide (d < nt) = true) (ha : calleeW tm c = some (f, args)) (hc : callable P f = true) (hf : aOwn2 P f args mk sz1 es1 sz2 es2) (hr : ∀ m1 m2 k', k ≤ m1 ∧ k ≤ m2 ∧ m1 ≠ m2 ∧ m1 < k' ∧ m2 < k' → aOps P nt ops rest Q ⟨upd tm d (mk (.hs m1 0 es1.length) (.hs m2 0 es2.length)), upd (upd h m1 (some ⟨sz1, es1⟩)) m2 (some ⟨sz2, es2⟩), k', df⟩) :
    aOps P nt ops (⟨some d, .call c, ty, pos, after, none⟩ :: rest) Q ⟨tm, h, k, df⟩ := by
  unfold calleeW at ha
  obtain ⟨⟨f', args'⟩, h1, h2⟩ := Option.map_eq_some_iff.1 ha
  simp only [Prod.mk.injEq] at h2
  obtain ⟨rfl, rfl⟩ := h2
  exact aOps_call rfl hd rfl h1 hc (fun B w0 O σ w vs q1 q2 q3 q4 => hf h k B w0 O σ w vs q1 q2 q3 q4.weak) (fun a h' k' ⟨m1, m2, e1, e2, e3, e4, e5, e6, e7⟩ => by cases e1; subst e2; exact hr m1 m2 k' ⟨e3, e4, e5, e6, e7⟩) (fun a h' k' ⟨m1, m2, e1, _⟩ => by cases e1)
/-- The same, within a region that draws its order: one block is turned. -/
theorem D_c {opl : List Oper} {i : Nat} {acc : List Ac} {K : (Nat → AV) → AHeap → Prop} (R : List Nat) {m : Nat} {b : Option Blk} {c : Call} {f : FuncId} {args : List AV} (ha : calleeW tm c = some (f, args)) (hc : callable P f = true) (hf : ∀ (g : AHeap) (nx : Nat), RdEq g h R → aEff P f args g nx v (upd g m b))
    (hr : DrawP P opl k K (i + 1) rest (upd tm d v) (upd h m b) (acc ++ [⟨v, R, [(m, b)]⟩])) : DrawP P opl k K i (⟨some d, .call c, ty, pos, after, none⟩ :: rest) tm h acc :=
  .cons (a := ⟨v, R, [(m, b)]⟩) (.inr ⟨rfl, .inr (.inl ⟨c, f, args, rfl, ha, hc, fun g nx hg => aCalls_mono (hf g nx (rdEq_of hg)) fun e h' k' q => ⟨q.1, q.2.1⟩⟩)⟩) hr
end
end Go.Proofs.YtjidgdfdeckofaaDoor.AE
