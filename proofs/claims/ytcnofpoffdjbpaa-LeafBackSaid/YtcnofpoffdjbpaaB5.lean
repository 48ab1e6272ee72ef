/- The rules by which a walk on abstract values goes. No program in sight. -/
import Derived.Test.YtcnofpoffdjbpaaB4
namespace Go.Proofs.Ytcnofpoffdjbpaa.AE
open Go Go.RowKit
set_option linter.unusedVariables false
set_option linter.unusedSimpArgs false

section
variable {P : Program} {nt : Nat} {Q : AX → St → Prop} {ops : Array Oper} {rest : List Oper} {tm : Nat → AV} {h h' : AHeap} {k k' : Nat} {df : List ADef} {op : Op} {ty : TypeId} {pos : String} {after : Array Edge} {d : Nat} {v : AV}
/-- An operation that answers. -/
theorem W_val (hd : decide (d < nt) = true) (ha : aop P op tm h k = some (v, h', k')) (hk : k ≤ k') (hr : aOps P nt ops rest Q ⟨upd tm d v, h', k', df⟩) : aOps P nt ops (⟨some d, op, ty, pos, after, none⟩ :: rest) Q ⟨tm, h, k, df⟩ :=
  aOps_val rfl hd ha hk hr
theorem W_same (hd : decide (d < nt) = true) (ha : aop P op tm h k = some (v, h', k)) (hr : aOps P nt ops rest Q ⟨upd tm d v, h', k, df⟩) : aOps P nt ops (⟨some d, op, ty, pos, after, none⟩ :: rest) Q ⟨tm, h, k, df⟩ :=
  aOps_val rfl hd ha (Nat.le_refl _) hr
theorem W_new (hd : decide (d < nt) = true) (ha : aop P op tm h k = some (v, h', k + 1)) (hr : aOps P nt ops rest Q ⟨upd tm d v, h', k + 1, df⟩) : aOps P nt ops (⟨some d, op, ty, pos, after, none⟩ :: rest) Q ⟨tm, h, k, df⟩ :=
  aOps_val rfl hd ha (Nat.le_succ _) hr
theorem W_unit (ha : aop P op tm h k = some (v, h', k)) (hr : aOps P nt ops rest Q ⟨tm, h', k, df⟩) : aOps P nt ops (⟨none, op, ty, pos, after, none⟩ :: rest) Q ⟨tm, h, k, df⟩ :=
  aOps_val rfl rfl ha (Nat.le_refl _) hr
/-- A guarded operation that is wanted; one that is not. -/
theorem W_want {j : Nat} {b : Bool} (hg : guardA ops tm (some (j, b)) = some true) (hd : decide (d < nt) = true) (ha : aop P op tm h k = some (v, h', k')) (hk : k ≤ k') (hr : aOps P nt ops rest Q ⟨upd tm d v, h', k', df⟩) : aOps P nt ops (⟨some d, op, ty, pos, after, some (j, b)⟩ :: rest) Q ⟨tm, h, k, df⟩ :=
  aOps_val hg hd ha hk hr
theorem W_skip {j : Nat} {b : Bool} (hg : guardA ops tm (some (j, b)) = some false) (hd : decide (d < nt) = true) (hr : aOps P nt ops rest Q ⟨upd tm d (.tup []), h, k, df⟩) : aOps P nt ops (⟨some d, op, ty, pos, after, some (j, b)⟩ :: rest) Q ⟨tm, h, k, df⟩ :=
  aOps_skip hg hd hr
/-- A call of a function that leaves memory as it was. -/
theorem W_fun {c : Call} {f : FuncId} {args : List AV} (hd : decide (d < nt) = true) (ha : calleeW tm c = some (f, args)) (hc : callable P f = true) (hf : aFun P f args v) (hr : ∀ k', k ≤ k' → aOps P nt ops rest Q ⟨upd tm d v, h, k', df⟩) :
    aOps P nt ops (⟨some d, .call c, ty, pos, after, none⟩ :: rest) Q ⟨tm, h, k, df⟩ := aOps_fun rfl hd rfl ha hc hf hr
theorem W_funG {c : Call} {f : FuncId} {args : List AV} {j : Nat} {b : Bool} (hg : guardA ops tm (some (j, b)) = some true) (hd : decide (d < nt) = true) (ha : calleeW tm c = some (f, args)) (hc : callable P f = true) (hf : aFun P f args v) (hr : ∀ k', k ≤ k' → aOps P nt ops rest Q ⟨upd tm d v, h, k', df⟩) :
    aOps P nt ops (⟨some d, .call c, ty, pos, after, some (j, b)⟩ :: rest) Q ⟨tm, h, k, df⟩ := aOps_fun hg hd rfl ha hc hf hr
theorem W_nil (hr : Q .norm ⟨tm, h, k, df⟩) : aOps P nt ops [] Q ⟨tm, h, k, df⟩ := aOps_nil hr
end

/-! ### types, in short -/
inductive TK where
  | int (k : IntKind)
  | bool
  | str
  | slice (e : TypeId)
  | ptr (e : TypeId)
  | strct
  | arr (len : Nat) (e : TypeId)
  | other
def kT (P : Program) (t : TypeId) : Option TK := (P.underlying t).map fun
  | .int k => .int k
  | .bool => .bool
  | .string => .str
  | .slice e => .slice e
  | .pointer e => .ptr e
  | .struct _ => .strct
  | .array n e => .arr n e
  | _ => .other
def aggK : Option TK → Bool
  | some .strct | some (.arr _ _) => true
  | _ => false
def loadK : Option TK → Option Nat → List AV → Option AV
  | some .strct, some n, cs | some (.arr _ _), some n, cs => if n ≤ cs.length then some (.agg (cs.take n)) else none
  | some .strct, none, _ | some (.arr _ _), none, _ => none
  | some _, _, cs => cs.head?
  | none, _, _ => none
def elemK : Option TK → Option TypeId
  | some (.slice e) => some e
  | _ => none
def arrK : Option TK → Option (Nat × TypeId)
  | some (.arr n e) => some (n, e)
  | _ => none
def intK : Option TK → Option IntKind
  | some (.int k) => some k
  | _ => none
section
variable (P : Program) (tm : Nat → AV) (h : AHeap) (k : Nat) (x y z : Operand) (t u : TypeId) (v w : AV)
theorem aLoad_eq : aLoad P h t v = (aPlace h v).bind (loadK (kT P t) (sizeT P t)) := by
  unfold aLoad aggT kT
  congr 1
  funext cs
  cases hu : P.underlying t with
  | none => cases sizeT P t <;> rfl
  | some d => cases d <;> cases sizeT P t <;> rfl
theorem aLen_sl (es : List (List AV)) : aLen P t (.sl es) = (elemK (kT P t)).map fun _ => .int .i64 es.length := by
  unfold aLen kT
  cases hu : P.underlying t with
  | none => rfl
  | some d => cases d <;> rfl
theorem aLen_zs : aLen P t .zs = (elemK (kT P t)).map fun _ => .int .i64 0 := by
  unfold aLen kT
  cases hu : P.underlying t with
  | none => rfl
  | some d => cases d <;> rfl
theorem aLen_hs (n off len : Nat) : aLen P t (.hs n off len) = (elemK (kT P t)).map fun _ => .int .i64 len := by
  unfold aLen kT
  cases hu : P.underlying t with
  | none => rfl
  | some d => cases d <;> rfl
theorem aLen_str (l : List Int) (hu : P.underlying t = some .string) : aLen P t (.str l) = some (.int .i64 l.length) := by simp [aLen, hu]
theorem aIndexAddr_sl (es : List (List AV)) (kd : IntKind) (i : Int) : aIndexAddr P h t (.sl es) (.int kd i) = (elemK (kT P t)).bind fun e => (sizeT P e).bind fun n => if 0 ≤ i then (es[i.toNat]?).bind fun c => if c.length = n then some (.ip c) else none else none := by
  unfold aIndexAddr kT
  cases hu : P.underlying t with
  | none => rfl
  | some d => cases d <;> rfl
theorem aIndexAddr_hs (m off len : Nat) (kd : IntKind) (i : Int) : aIndexAddr P h t (.hs m off len) (.int kd i) = (elemK (kT P t)).bind fun e => (sizeT P e).bind fun n => (h m).bind fun kb => if 0 ≤ i ∧ i < len ∧ kb.sz = n then some (.ptr m (off + i.toNat) 0) else none := by
  unfold aIndexAddr kT
  cases hu : P.underlying t with
  | none => rfl
  | some d => cases d <;> rfl
theorem aIndexAddr_ptr (m q j : Nat) (kd : IntKind) (i : Int) : aIndexAddr P h t (.ptr m q j) (.int kd i) = (arrK (kT P t)).bind fun a => (sizeT P a.2).bind fun n => if 0 ≤ i ∧ i < a.1 ∧ n ≠ 0 then some (.ptr m q (j + i.toNat * n)) else none := by
  unfold aIndexAddr kT
  cases hu : P.underlying t with
  | none => rfl
  | some d => cases d <;> rfl
theorem aIndex_agg (cs : List AV) (kd : IntKind) (i : Int) : aIndex P t (.agg cs) (.int kd i) = (arrK (kT P t)).bind fun a => (sizeT P a.2).bind fun n => (aggT P a.2).bind fun g => if 0 ≤ i ∧ i < a.1 then aPart cs (i.toNat * n) n g else none := by
  unfold aIndex kT
  cases hu : P.underlying t with
  | none => rfl
  | some d => cases d <;> rfl
theorem aBuildSlice_eq (n : Nat) (ps : List (Nat × AV)) : aBuildSlice P h k t n ps = (elemK (kT P t)).bind fun e => (zeroT P e).bind fun zs => if sizeT P e = some zs.length ∧ zs.all AV.one = true ∧ n * zs.length ≤ 16777216 ∧ n < 16777216 ∧ zs ≠ [] then
      (aRows zs.length (List.replicate n zs) ps).map fun es => (.hs k 0 n, upd h k (some ⟨zs.length, es⟩)) else none := by
  unfold aBuildSlice kT
  cases hu : P.underlying t with
  | none => rfl
  | some d => cases d <;> rfl
theorem aMake_eq (ka kb : IntKind) (l c : Int) : aMake P h k t (.int ka l) (.int kb c) = (elemK (kT P t)).bind fun e => (zeroT P e).bind fun zs => (byteT P e).bind fun by_ => if sizeT P e = some zs.length ∧ zs.all AV.one = true ∧ 0 ≤ l ∧ l ≤ c ∧ (by_ : Int) * c ≤ 140737488355328 ∧ c < 4611686018427387904 then
        some (.hs k 0 l.toNat, upd h k (some ⟨zs.length, List.replicate l.toNat zs⟩)) else none := by
  unfold aMake kT
  cases hu : P.underlying t with
  | none => rfl
  | some d => cases d <;> rfl
/-- What is appended, by the second argument's kind. -/
def newsK (P : Program) (h : AHeap) (e : TypeId) (n : Nat) : Option TK → AV → Option (List (List AV))
  | some (.int _), .int _ m => (zeroT P e).bind fun zs => if 0 ≤ m ∧ m < 4611686018427387904 ∧ zs.length = n ∧ zs.all AV.one = true then some (List.replicate m.toNat zs) else none
  | some .str, .str l => aRow h n (.str l)
  | some (.slice _), .str _ => none
  | some (.slice _), y => aRow h n y
  | _, _ => none
theorem aAppend_eq : aAppend P h k t u v w = (elemK (kT P t)).bind fun e => (sizeT P e).bind fun n => (byteT P e).bind fun by_ => (aRow h n v).bind fun xs => (newsK P h e n (kT P u) w).bind fun ys => (zeroT P e).bind fun zs =>
      if (xs.length + ys.length) * by_ ≤ 140737488355328 ∧ xs.length + ys.length < 4611686018427387904 ∧ v.mayGrow = true ∧ 0 < n ∧ zs.length = n then
        some (.hs k 0 (xs.length + ys.length), upd (killT h v) k (some ⟨n, xs ++ ys⟩)) else none := by
  have hn : ∀ e n, aNews P h e n u w = newsK P h e n (kT P u) w := fun e n => by
    unfold aNews kT
    cases hu : P.underlying u with
    | none => cases w <;> rfl
    | some d => cases d <;> cases w <;> rfl
  simp only [← hn]
  unfold aAppend kT
  cases hu : P.underlying t with
  | none => rfl
  | some d => cases d <;> rfl
theorem aConv_int (kd : IntKind) (n : Int) : aConv P h t u (.int kd n) = (kT P t).bind fun _ => (intK (kT P u)).map fun j => .int j (j.wrap n) := by
  unfold aConv kT
  cases hu : P.underlying t with
  | none => rfl
  | some d =>
    cases hv : P.underlying u with
    | none => cases d <;> rfl
    | some d' => cases d <;> cases d' <;> simp [intK, aRow] <;> split <;> rfl
def pickO : AV → AV → AV → Option AV
  | .bool c, a, b => some (pickA c a b)
  | _, _, _ => none
theorem aop_pick : aop P (.pick x y z) tm h k = (pickO (evA tm x) (evA tm y) (evA tm z)).map fun v => (v, h, k) := by
  simp only [aop]
  cases evA tm x <;> rfl
def convO (h : AHeap) (k : Nat) (b : Option (AV × AHeap)) : Option AV → Option (AV × AHeap × Nat)
  | some v => some (v, h, k)
  | none => b.map fun r => (r.1, r.2, k + 1)
theorem aop_conv : aop P (.convert t u x) tm h k = convO h k (aBytes P h k t u (evA tm x)) (aConv P h t u (evA tm x)) := by
  simp only [aop]
  cases aConv P h t u (evA tm x) <;> rfl
/-- Bytes told as a text. -/
theorem aConv_str (v : AV) {e : TypeId} {es : List (List AV)} {l : List Int} (hs : P.underlying t = some (.slice e)) (he : P.underlying e = some (.int .u8)) (hd : P.underlying u = some .string) (hr : aRow h 1 v = some es) (ho : octsOf es = some l) (hx : ∀ l, v ≠ .str l) : aConv P h t u v = some (.str l) := by
  unfold aConv
  rw [hs, hd]
  cases v <;> simp [he, hr, ho] <;> exact absurd rfl (hx _)
end
theorem evA_int (tm : Nat → AV) (k : IntKind) (n : Int) (h : InR k n) : evA tm (.const (.int k n)) = .int k n := by simp [evA, avOf, avOf1, h]
theorem evA_str (tm : Nat → AV) (s : ByteArray) (h : s.size < big) : evA tm (.const (.string s)) = .str (octs s) := by simp [evA, avOf, avOf1, h]
theorem wrapI {n : Int} (h1 : -9223372036854775808 ≤ n) (h2 : n ≤ 9223372036854775807) : IntKind.i64.wrap n = n := by rw [IntKind.wrap_i64]; omega
theorem wrapU {n : Int} (h1 : 0 ≤ n) (h2 : n ≤ 18446744073709551615) : IntKind.u64.wrap n = n := by
  simp [IntKind.wrap, IntKind.signed, IntKind.bits]
  omega
theorem wrapB {n : Int} (h1 : 0 ≤ n) (h2 : n ≤ 255) : IntKind.u8.wrap n = n := by
  simp [IntKind.wrap, IntKind.signed, IntKind.bits]
  omega
theorem elemT_eq (P : Program) (t : TypeId) : elemT P t = elemK (kT P t) := by
  unfold elemT kT
  cases hu : P.underlying t with
  | none => rfl
  | some d => cases d <;> rfl
/-- Is it a text's type? -/
def strK : Option TK → Option Unit
  | some .str => some ()
  | _ => none
section
variable (P : Program) (h : AHeap) (t u : TypeId)
theorem aLen_s (l : List Int) : aLen P t (.str l) = (strK (kT P t)).map fun _ => .int .i64 l.length := by
  unfold aLen kT
  cases hu : P.underlying t with
  | none => rfl
  | some d => cases d <;> rfl
theorem aSlice_sl (es : List (List AV)) (lo hi : Option AV) : aSlice P h t (.sl es) lo hi none = (elemK (kT P t)).bind fun e => (sizeT P e).bind fun n => (bndOr 0 lo).bind fun l => (bndOr es.length hi).bind fun u =>
      if 0 ≤ l ∧ l ≤ u ∧ u ≤ es.length ∧ es.all (fun c => c.length == n) = true then some (.sl ((es.take u.toNat).drop l.toNat)) else none := by
  unfold aSlice kT
  cases hu : P.underlying t with
  | none => rfl
  | some d => cases d <;> rfl
theorem aSlice_hs (m off len : Nat) (lo hi : Option AV) : aSlice P h t (.hs m off len) lo hi none = (elemK (kT P t)).bind fun e => (sizeT P e).bind fun n => (h m).bind fun kb => (bndOr 0 lo).bind fun l => (bndOr len hi).bind fun u =>
      if 0 ≤ l ∧ l ≤ u ∧ u ≤ len ∧ kb.sz = n then some (.hs m (off + l.toNat) (u.toNat - l.toNat)) else none := by
  unfold aSlice kT
  cases hu : P.underlying t with
  | none => rfl
  | some d => cases d <;> rfl
theorem aSlice_zs (lo hi : Option AV) : aSlice P h t .zs lo hi none = (elemK (kT P t)).bind fun e => (sizeT P e).bind fun n => (bndOr 0 lo).bind fun l => (bndOr 0 hi).bind fun u => if l = 0 ∧ u = 0 then some .zs else none := by
  unfold aSlice kT
  cases hu : P.underlying t with
  | none => rfl
  | some d => cases d <;> rfl
theorem aSlice_m (x : AV) (lo hi : Option AV) (kd : IntKind) (m : Int) (hx : x = .zs ∨ (∃ es, x = .sl es) ∨ ∃ a b c, x = .hs a b c) : aSlice P h t x lo hi (some (.int kd m)) = (elemK (kT P t)).bind fun e => (sizeT P e).bind fun n => (bndOr 0 lo).bind fun l => (bndOr (-1) hi).bind fun u => if l = 0 ∧ u = 0 ∧ m = 0 then some .zs else none := by
  rcases hx with rfl | ⟨es, rfl⟩ | ⟨a, b, c, rfl⟩ <;> unfold aSlice kT <;> cases hu : P.underlying t with
  | none => rfl
  | some d => cases d <;> rfl
theorem aSlice_s (s : List Int) (lo hi : Option AV) : aSlice P h t (.str s) lo hi none = (strK (kT P t)).bind fun _ => (bndOr 0 lo).bind fun l => (bndOr s.length hi).bind fun u => if 0 ≤ l ∧ l ≤ u ∧ u ≤ s.length then some (.str ((s.take u.toNat).drop l.toNat)) else none := by
  unfold aSlice kT
  cases hu : P.underlying t with
  | none => rfl
  | some d => cases d <;> rfl
theorem aCopy_hs (m off len : Nat) (y : AV) : aCopy P h t u (.hs m off len) y = (elemK (kT P t)).bind fun e => (sizeT P e).bind fun n => (h m).bind fun kb => (aRow h n y).bind fun ys =>
      if kb.sz = n ∧ off + len ≤ kb.es.length then some (.int .i64 (min ys.length len : Nat), upd h m (some ⟨n, rowPut kb.es off (ys.take len)⟩)) else none := by
  unfold aCopy kT
  cases hu : P.underlying t with
  | none => rfl
  | some d => cases d <;> rfl
theorem aCopy_zs (y : AV) : aCopy P h t u .zs y = (elemK (kT P t)).bind fun e => (sizeT P e).bind fun n => (aRow h n y).bind fun ys => some (.int .i64 0, h) := by
  unfold aCopy kT
  cases hu : P.underlying t with
  | none => rfl
  | some d => cases d <;> rfl
theorem aClear_hs (m off len : Nat) : aClear P h t (.hs m off len) = (elemK (kT P t)).bind fun e => (zeroT P e).bind fun zs => (h m).bind fun kb =>
      if kb.sz = zs.length ∧ off + len ≤ kb.es.length ∧ zs.all AV.one = true then some (upd h m (some ⟨kb.sz, rowPut kb.es off (List.replicate len zs)⟩)) else none := by
  unfold aClear kT
  cases hu : P.underlying t with
  | none => rfl
  | some d => cases d <;> rfl
theorem aClear_zs : aClear P h t .zs = (elemK (kT P t)).map fun _ => h := by
  unfold aClear kT
  cases hu : P.underlying t with
  | none => rfl
  | some d => cases d <;> rfl
end
theorem AW0 : (∀ (tm : Nat → AV) (t : Nat), evA tm (.tmp t) = tm t) ∧
    (∀ (tm : Nat → AV) (f : Nat), evA tm (.func f) = .fn (.func f) [] []) ∧
    (∀ (tm : Nat → AV) (b : Bool), evA tm (.const (.bool b)) = .bool b) ∧
    (∀ (tm : Nat → AV) , evA tm (.const (.slice none 0 0)) = .zs) ∧
    (∀ (tm : Nat → AV) , evA tm (.const (.pointer none)) = .nilp) ∧
    (∀ (P : Program) (tm : Nat → AV) (h : AHeap) (k : Nat) (x : Operand), aop P (.move x) tm h k = some (evA tm x, h, k)) ∧
    (∀ (P : Program) (tm : Nat → AV) (h : AHeap) (k : Nat) (x : Operand), aop P (.assign x) tm h k = some (evA tm x, h, k)) ∧
    (∀ (P : Program) (tm : Nat → AV) (h : AHeap) (k : Nat) (x y z : Operand), aop P (.pick x y z) tm h k = (pickO (evA tm x) (evA tm y) (evA tm z)).map fun v => (v, h, k)) ∧
    (∀ (P : Program) (tm : Nat → AV) (h : AHeap) (k : Nat) (t : TypeId), aop P (.alloc t) tm h k = (aAlloc P h k t).map fun r => (r.1, r.2, k + 1)) ∧
    (∀ (P : Program) (tm : Nat → AV) (h : AHeap) (k : Nat) (t : TypeId) (x : Operand), aop P (.box t x) tm h k = (aBox h k (evA tm x)).map fun r => (r.1, r.2, k + 1)) ∧
    (∀ (P : Program) (tm : Nat → AV) (h : AHeap) (k : Nat) (t : TypeId) (x : Operand), aop P (.load t x) tm h k = ((aPlace h (evA tm x)).bind (loadK (kT P t) (sizeT P t))).map fun v => (v, h, k)) ∧
    (∀ (P : Program) (tm : Nat → AV) (h : AHeap) (k : Nat) (t : TypeId) (x y : Operand), aop P (.store t x y) tm h k = (aStore P h t (evA tm x) (evA tm y)).map fun h2 => (.undef, h2, k)) ∧
    (∀ (P : Program) (tm : Nat → AV) (h : AHeap) (k : Nat) (t u : TypeId) (x y : Operand) (o : BinOp), aop P (.binOp o t x y u) tm h k = (aBin P o t (evA tm x) (evA tm y)).map fun v => (v, h, k)) ∧
    (∀ (P : Program) (tm : Nat → AV) (h : AHeap) (k : Nat) (t : TypeId) (x : Operand) (o : UnOp), aop P (.unOp o t x) tm h k = (aUn o (evA tm x)).map fun v => (v, h, k)) ∧
    (∀ (P : Program) (tm : Nat → AV) (h : AHeap) (k : Nat) (t u : TypeId) (x : Operand), aop P (.convert t u x) tm h k = convO h k (aBytes P h k t u (evA tm x)) (aConv P h t u (evA tm x))) ∧
    (∀ (P : Program) (tm : Nat → AV) (h : AHeap) (k : Nat) (t : TypeId) (x : Operand) (f : Nat), aop P (.fieldAddr t x f) tm h k = (aField P t (evA tm x) f).map fun v => (v, h, k)) ∧
    (∀ (P : Program) (tm : Nat → AV) (h : AHeap) (k : Nat) (t : TypeId) (x : Operand) (f : Nat), aop P (.field t x f) tm h k = (aFieldOf P t (evA tm x) f).map fun v => (v, h, k)) ∧
    (∀ (P : Program) (tm : Nat → AV) (h : AHeap) (k : Nat) (t : TypeId) (x y : Operand), aop P (.indexAddr t x y) tm h k = (aIndexAddr P h t (evA tm x) (evA tm y)).map fun v => (v, h, k)) ∧
    (∀ (P : Program) (tm : Nat → AV) (h : AHeap) (k : Nat) (t : TypeId) (x y : Operand), aop P (.index t x y) tm h k = (aIndex P t (evA tm x) (evA tm y)).map fun v => (v, h, k)) ∧
    (∀ (P : Program) (tm : Nat → AV) (h : AHeap) (k : Nat) (x : Operand) (i : Nat), aop P (.extract x i) tm h k = (aExtract (evA tm x) i).map fun v => (v, h, k)) ∧
    (∀ (P : Program) (tm : Nat → AV) (h : AHeap) (k : Nat) (t : TypeId) (x y : Operand), aop P (.makeSlice t x y) tm h k = (aMake P h k t (evA tm x) (evA tm y)).map fun r => (r.1, r.2, k + 1)) ∧
    (∀ (P : Program) (tm : Nat → AV) (h : AHeap) (k : Nat) (f : Fn) (as bs : Array Operand), aop P (.makeFunc f as bs) tm h k = some (.fn f (as.toList.map (evA tm)) (bs.toList.map (evA tm)), h, k)) ∧
    (∀ (P : Program) (tm : Nat → AV) (h : AHeap) (k : Nat) (t : TypeId) (n : Nat) (ps : List (Nat × Operand)), aop P (.buildSlice t n ps.toArray) tm h k = (aBuildSlice P h k t n (ps.map fun p => (p.1, evA tm p.2))).map fun r => (r.1, r.2, k + 1)) ∧
    (∀ (P : Program) (tm : Nat → AV) (h : AHeap) (k : Nat) (t : TypeId) (ps : List (Nat × Operand)), aop P (.build t ps.toArray) tm h k = if (ps.all fun p => (evA tm p.2).okPart) = true then (aBuild P t (ps.map fun p => (p.1, evA tm p.2))).map fun v => (v, h, k) else none) :=
  ⟨(fun tm t => rfl),
   (fun tm f => rfl),
   (fun tm b => rfl),
   (fun tm => rfl),
   (fun tm => rfl),
   (fun P tm h k x => rfl),
   (fun P tm h k x => rfl),
   (fun P tm h k x y z => aop_pick P tm h k x y z),
   (fun P tm h k t => rfl),
   (fun P tm h k t x => rfl),
   (fun P tm h k t x => by rw [← aLoad_eq]; rfl),
   (fun P tm h k t x y => rfl),
   (fun P tm h k t u x y o => rfl),
   (fun P tm h k t x o => rfl),
   (fun P tm h k t u x => aop_conv P tm h k x t u),
   (fun P tm h k t x f => rfl),
   (fun P tm h k t x f => rfl),
   (fun P tm h k t x y => rfl),
   (fun P tm h k t x y => rfl),
   (fun P tm h k x i => rfl),
   (fun P tm h k t x y => rfl),
   (fun P tm h k f as bs => rfl),
   (fun P tm h k t n ps => rfl),
   (fun P tm h k t ps => rfl)⟩
theorem AW1 : (∀ (P : Program) (tm : Nat → AV) (h : AHeap) (k : Nat) (b : Builtin) (as : List Operand) (ts : List TypeId), aop P (.call ⟨.builtin b, as.toArray, ts.toArray⟩) tm h k = aBuiltin P h k b ts (as.map (evA tm))) ∧
    (∀ (P : Program) (tm : Nat → AV) (h : AHeap) (k : Nat) (t : TypeId) (x : Operand) (lo hi mx : Option Operand), aop P (.slice t x lo hi mx) tm h k = (aSlice P h t (evA tm x) (lo.map (evA tm)) (hi.map (evA tm)) (mx.map (evA tm))).map fun v => (v, h, k)) ∧
    (∀ (a b : AV), pickA true a b = a) ∧
    (∀ (a b : AV), pickA false a b = b) ∧
    (∀ (c a b : Bool), pickA c (.bool a) (.bool b) = .bool (if c = true then a else b)) ∧
    (∀ (c : Bool) (a b : AV), pickO (.bool c) a b = some (pickA c a b)) ∧
    (∀ (h : AHeap) (k : Nat) (b : Option (AV × AHeap)) (v : AV), convO h k b (some v) = some (v, h, k)) ∧
    (∀ (h : AHeap) (k : Nat) (b : Bool), aBox h k (.bool b) = some (.ptr k 0 0, upd h k (some ⟨1, [[.bool b]]⟩))) ∧
    (∀ (b : Bool), AV.one (.bool b) = true) ∧
    (∀ (b : Bool), AV.cells (.bool b) = [.bool b]) ∧
    (∀ (b : Bool), AV.okPart (.bool b) = true) ∧
    (∀ (h : AHeap) (k : Nat) (kd : IntKind) (n : Int), aBox h k (.int kd n) = some (.ptr k 0 0, upd h k (some ⟨1, [[.int kd n]]⟩))) ∧
    (∀ (kd : IntKind) (n : Int), AV.one (.int kd n) = true) ∧
    (∀ (kd : IntKind) (n : Int), AV.cells (.int kd n) = [.int kd n]) ∧
    (∀ (kd : IntKind) (n : Int), AV.okPart (.int kd n) = true) ∧
    (∀ (h : AHeap) (k : Nat) (l : List Int), aBox h k (.str l) = some (.ptr k 0 0, upd h k (some ⟨1, [[.str l]]⟩))) ∧
    (∀ (l : List Int), AV.one (.str l) = true) ∧
    (∀ (l : List Int), AV.cells (.str l) = [.str l]) ∧
    (∀ (l : List Int), AV.okPart (.str l) = true) ∧
    (∀ (h : AHeap) (k : Nat) , aBox h k (.zs) = some (.ptr k 0 0, upd h k (some ⟨1, [[.zs]]⟩))) ∧
    (AV.one .zs = true) ∧
    (AV.cells (.zs) = [.zs]) ∧
    (AV.okPart (.zs) = true) ∧
    (∀ (h : AHeap) (k : Nat) (es : List (List AV)), aBox h k (.sl es) = some (.ptr k 0 0, upd h k (some ⟨1, [[.sl es]]⟩))) :=
  ⟨(fun P tm h k b as ts => rfl),
   (fun P tm h k t x lo hi mx => rfl),
   (fun a b => by unfold pickA; split <;> simp),
   (fun a b => by unfold pickA; split <;> simp),
   (fun c a b => rfl),
   (fun c a b => rfl),
   (fun h k b v => rfl),
   (fun h k b => rfl),
   (fun b => rfl),
   (fun b => rfl),
   (fun b => rfl),
   (fun h k kd n => rfl),
   (fun kd n => rfl),
   (fun kd n => rfl),
   (fun kd n => rfl),
   (fun h k l => rfl),
   (fun l => rfl),
   (fun l => rfl),
   (fun l => rfl),
   (fun h k => rfl),
   (rfl),
   (rfl),
   (rfl),
   (fun h k es => rfl)⟩
theorem AW2 : (∀ (es : List (List AV)), AV.one (.sl es) = true) ∧
    (∀ (es : List (List AV)), AV.cells (.sl es) = [.sl es]) ∧
    (∀ (es : List (List AV)), AV.okPart (.sl es) = true) ∧
    (∀ (h : AHeap) (k : Nat) (n o l : Nat), aBox h k (.hs n o l) = some (.ptr k 0 0, upd h k (some ⟨1, [[.hs n o l]]⟩))) ∧
    (∀ (n o l : Nat), AV.one (.hs n o l) = true) ∧
    (∀ (n o l : Nat), AV.cells (.hs n o l) = [.hs n o l]) ∧
    (∀ (n o l : Nat), AV.okPart (.hs n o l) = true) ∧
    (∀ (h : AHeap) (k : Nat) , aBox h k (.nilp) = some (.ptr k 0 0, upd h k (some ⟨1, [[.nilp]]⟩))) ∧
    (AV.one .nilp = true) ∧
    (AV.cells (.nilp) = [.nilp]) ∧
    (AV.okPart (.nilp) = true) ∧
    (∀ (h : AHeap) (k : Nat) (n e j : Nat), aBox h k (.ptr n e j) = some (.ptr k 0 0, upd h k (some ⟨1, [[.ptr n e j]]⟩))) ∧
    (∀ (n e j : Nat), AV.one (.ptr n e j) = true) ∧
    (∀ (n e j : Nat), AV.cells (.ptr n e j) = [.ptr n e j]) ∧
    (∀ (n e j : Nat), AV.okPart (.ptr n e j) = true) ∧
    (∀ (h : AHeap) (k : Nat) (cs : List AV), aBox h k (.ip cs) = some (.ptr k 0 0, upd h k (some ⟨1, [[.ip cs]]⟩))) ∧
    (∀ (cs : List AV), AV.one (.ip cs) = true) ∧
    (∀ (cs : List AV), AV.cells (.ip cs) = [.ip cs]) ∧
    (∀ (cs : List AV), AV.okPart (.ip cs) = true) ∧
    (∀ (h : AHeap) (k : Nat) (f : Fn) (as bs : List AV), aBox h k (.fn f as bs) = some (.ptr k 0 0, upd h k (some ⟨1, [[.fn f as bs]]⟩))) ∧
    (∀ (f : Fn) (as bs : List AV), AV.one (.fn f as bs) = true) ∧
    (∀ (f : Fn) (as bs : List AV), AV.cells (.fn f as bs) = [.fn f as bs]) ∧
    (∀ (f : Fn) (as bs : List AV), AV.okPart (.fn f as bs) = true) ∧
    (∀ (h : AHeap) (k : Nat) , aBox h k (.nilf) = some (.ptr k 0 0, upd h k (some ⟨1, [[.nilf]]⟩))) :=
  ⟨(fun es => rfl),
   (fun es => rfl),
   (fun es => rfl),
   (fun h k n o l => rfl),
   (fun n o l => rfl),
   (fun n o l => rfl),
   (fun n o l => rfl),
   (fun h k => rfl),
   (rfl),
   (rfl),
   (rfl),
   (fun h k n e j => rfl),
   (fun n e j => rfl),
   (fun n e j => rfl),
   (fun n e j => rfl),
   (fun h k cs => rfl),
   (fun cs => rfl),
   (fun cs => rfl),
   (fun cs => rfl),
   (fun h k f as bs => rfl),
   (fun f as bs => rfl),
   (fun f as bs => rfl),
   (fun f as bs => rfl),
   (fun h k => rfl)⟩
theorem AW3 : (AV.one .nilf = true) ∧
    (AV.cells (.nilf) = [.nilf]) ∧
    (AV.okPart (.nilf) = true) ∧
    (∀ (h : AHeap) (k : Nat) (t : TypeId) (v : AV), aBox h k (.iface t v) = some (.ptr k 0 0, upd h k (some ⟨1, [[.iface t v]]⟩))) ∧
    (∀ (t : TypeId) (v : AV), AV.one (.iface t v) = true) ∧
    (∀ (t : TypeId) (v : AV), AV.cells (.iface t v) = [.iface t v]) ∧
    (∀ (t : TypeId) (v : AV), AV.okPart (.iface t v) = true) ∧
    (∀ (h : AHeap) (k : Nat) , aBox h k (.niliface) = some (.ptr k 0 0, upd h k (some ⟨1, [[.niliface]]⟩))) ∧
    (AV.one .niliface = true) ∧
    (AV.cells (.niliface) = [.niliface]) ∧
    (AV.okPart (.niliface) = true) ∧
    (∀ (cs : List AV), AV.okPart (.agg cs) = true) ∧
    (∀ (cs : List AV), AV.cells (.agg cs) = cs) ∧
    (∀ (h : AHeap) (k : Nat) (cs : List AV), aBox h k (.agg cs) = if cs.all AV.one = true then some (.ptr k 0 0, upd h k (some ⟨cs.length, [cs]⟩)) else none) ∧
    (∀ (P : Program) (h : AHeap) (k : Nat) (t : TypeId), aAlloc P h k t = (zeroT P t).bind fun zs => if zs.all AV.one = true then some (.ptr k 0 0, upd h k (some ⟨zs.length, [zs]⟩)) else none) ∧
    (∀ (h : AHeap) (n e j : Nat), aPlace h (.ptr n e j) = (h n).bind fun b => (b.es[e]?).map (·.drop j)) ∧
    (∀ (h : AHeap) (cs : List AV), aPlace h (.ip cs) = some cs) ∧
    (∀ (n : Nat) (cs : List AV), loadK (some .strct) (some n) cs = if n ≤ cs.length then some (.agg (cs.take n)) else none) ∧
    (∀ (m : Nat) (e : TypeId) (n : Nat) (cs : List AV), loadK (some (.arr m e)) (some n) cs = if n ≤ cs.length then some (.agg (cs.take n)) else none) ∧
    (∀ (j : IntKind) (n : Nat) (c : AV) (cs : List AV), loadK (some (.int j)) (some n) (c :: cs) = some c) ∧
    (∀ (n : Nat) (c : AV) (cs : List AV), loadK (some .bool) (some n) (c :: cs) = some c) ∧
    (∀ (n : Nat) (c : AV) (cs : List AV), loadK (some .str) (some n) (c :: cs) = some c) ∧
    (∀ (e : TypeId) (n : Nat) (c : AV) (cs : List AV), loadK (some (.slice e)) (some n) (c :: cs) = some c) ∧
    (∀ (e : TypeId) (n : Nat) (c : AV) (cs : List AV), loadK (some (.ptr e)) (some n) (c :: cs) = some c) :=
  ⟨(rfl),
   (rfl),
   (rfl),
   (fun h k t v => rfl),
   (fun t v => rfl),
   (fun t v => rfl),
   (fun t v => rfl),
   (fun h k => rfl),
   (rfl),
   (rfl),
   (rfl),
   (fun cs => rfl),
   (fun cs => rfl),
   (fun h k cs => rfl),
   (fun P h k t => rfl),
   (fun h n e j => rfl),
   (fun h cs => rfl),
   (fun n cs => rfl),
   (fun m e n cs => rfl),
   (fun j n c cs => rfl),
   (fun n c cs => rfl),
   (fun n c cs => rfl),
   (fun e n c cs => rfl),
   (fun e n c cs => rfl)⟩
theorem AW4 : (∀ (n : Nat) (c : AV) (cs : List AV), loadK (some .other) (some n) (c :: cs) = some c) ∧
    (∀ (e : TypeId), elemK (some (.slice e)) = some e) ∧
    (∀ (n : Nat) (e : TypeId), arrK (some (.arr n e)) = some (n, e)) ∧
    (∀ (j : IntKind), intK (some (.int j)) = some j) ∧
    (∀ (P : Program) (h : AHeap) (t : TypeId) (n e j : Nat) (v : AV), aStore P h t (.ptr n e j) v = (h n).bind fun b => (b.es[e]?).bind fun c => if sizeT P t = some v.cells.length ∧ v.cells.all AV.one = true ∧ j + v.cells.length ≤ c.length then some (upd h n (some ⟨b.sz, b.es.set e (splice c j v.cells)⟩)) else none) ∧
    (∀ (l : List AV) (j : Nat) (cs : List AV), splice l j cs = l.take j ++ cs ++ l.drop (j + cs.length)) ∧
    (∀ (P : Program) (t : TypeId) (n e j f : Nat), aField P t (.ptr n e j) f = (offT P t f).bind fun o => some (.ptr n e (j + o))) ∧
    (∀ (P : Program) (t : TypeId) (cs : List AV) (f : Nat), aField P t (.ip cs) f = (offT P t f).bind fun o => some (.ip (cs.drop o))) ∧
    (∀ (P : Program) (t : TypeId) (cs : List AV) (f : Nat), aFieldOf P t (.agg cs) f = (partT P t f).bind fun p => aPart cs p.1 p.2.1 p.2.2) ∧
    (∀ (cs : List AV) (o s : Nat), aPart cs o s true = if o + s ≤ cs.length then some (.agg ((cs.drop o).take s)) else none) ∧
    (∀ (cs : List AV) (o s : Nat), aPart cs o s false = cs[o]?) ∧
    (∀ (P : Program) (h : AHeap) (t : TypeId) (es : List (List AV)) (kd : IntKind) (i : Int), aIndexAddr P h t (.sl es) (.int kd i) = (elemK (kT P t)).bind fun e => (sizeT P e).bind fun n => if 0 ≤ i then (es[i.toNat]?).bind fun c => if c.length = n then some (.ip c) else none else none) ∧
    (∀ (P : Program) (h : AHeap) (t : TypeId) (m off len : Nat) (kd : IntKind) (i : Int), aIndexAddr P h t (.hs m off len) (.int kd i) = (elemK (kT P t)).bind fun e => (sizeT P e).bind fun n => (h m).bind fun kb => if 0 ≤ i ∧ i < len ∧ kb.sz = n then some (.ptr m (off + i.toNat) 0) else none) ∧
    (∀ (P : Program) (h : AHeap) (t : TypeId) (m q j : Nat) (kd : IntKind) (i : Int), aIndexAddr P h t (.ptr m q j) (.int kd i) = (arrK (kT P t)).bind fun a => (sizeT P a.2).bind fun n => if 0 ≤ i ∧ i < a.1 ∧ n ≠ 0 then some (.ptr m q (j + i.toNat * n)) else none) ∧
    (∀ (P : Program) (t : TypeId) (cs : List AV) (kd : IntKind) (i : Int), aIndex P t (.agg cs) (.int kd i) = (arrK (kT P t)).bind fun a => (sizeT P a.2).bind fun n => (aggT P a.2).bind fun g => if 0 ≤ i ∧ i < a.1 then aPart cs (i.toNat * n) n g else none) ∧
    (∀ (P : Program) (t : TypeId) (es : List (List AV)), aLen P t (.sl es) = (elemK (kT P t)).map fun _ => .int .i64 es.length) ∧
    (∀ (P : Program) (t : TypeId), aLen P t .zs = (elemK (kT P t)).map fun _ => .int .i64 0) ∧
    (∀ (P : Program) (t : TypeId) (n off len : Nat), aLen P t (.hs n off len) = (elemK (kT P t)).map fun _ => .int .i64 len) ∧
    (∀ (P : Program) (h : AHeap) (k : Nat) (t : TypeId) (n : Nat) (ps : List (Nat × AV)), aBuildSlice P h k t n ps = (elemK (kT P t)).bind fun e => (zeroT P e).bind fun zs => if sizeT P e = some zs.length ∧ zs.all AV.one = true ∧ n * zs.length ≤ 16777216 ∧ n < 16777216 ∧ zs ≠ [] then (aRows zs.length (List.replicate n zs) ps).map fun es => (.hs k 0 n, upd h k (some ⟨zs.length, es⟩)) else none) ∧
    (∀ (P : Program) (h : AHeap) (k : Nat) (t : TypeId) (ka kb : IntKind) (l c : Int), aMake P h k t (.int ka l) (.int kb c) = (elemK (kT P t)).bind fun e => (zeroT P e).bind fun zs => (byteT P e).bind fun by_ => if sizeT P e = some zs.length ∧ zs.all AV.one = true ∧ 0 ≤ l ∧ l ≤ c ∧ (by_ : Int) * c ≤ 140737488355328 ∧ c < 4611686018427387904 then some (.hs k 0 l.toNat, upd h k (some ⟨zs.length, List.replicate l.toNat zs⟩)) else none) ∧
    (∀ (P : Program) (h : AHeap) (k : Nat) (t u : TypeId) (v w : AV), aAppend P h k t u v w = (elemK (kT P t)).bind fun e => (sizeT P e).bind fun n => (byteT P e).bind fun by_ => (aRow h n v).bind fun xs => (newsK P h e n (kT P u) w).bind fun ys => (zeroT P e).bind fun zs => if (xs.length + ys.length) * by_ ≤ 140737488355328 ∧ xs.length + ys.length < 4611686018427387904 ∧ v.mayGrow = true ∧ 0 < n ∧ zs.length = n then some (.hs k 0 (xs.length + ys.length), upd (killT h v) k (some ⟨n, xs ++ ys⟩)) else none) ∧
    (∀ (P : Program) (h : AHeap) (t u : TypeId) (kd : IntKind) (n : Int), aConv P h t u (.int kd n) = (kT P t).bind fun _ => (intK (kT P u)).map fun j => .int j (j.wrap n)) ∧
    (∀ (h : AHeap) (n : Nat), aRow h n .zs = some []) ∧
    (∀ (h : AHeap) (n : Nat) (es : List (List AV)), aRow h n (.sl es) = if es.all (fun e => e.length == n) = true then some es else none) :=
  ⟨(fun n c cs => rfl),
   (fun e => rfl),
   (fun n e => rfl),
   (fun j => rfl),
   (fun P h t n e j v => rfl),
   (fun l j cs => rfl),
   (fun P t n e j f => rfl),
   (fun P t cs f => rfl),
   (fun P t cs f => rfl),
   (fun cs o s => by simp [aPart]),
   (fun cs o s => by simp [aPart]),
   (fun P h t es kd i => aIndexAddr_sl _ _ _ _ _ _ ),
   (fun P h t m off len kd i => aIndexAddr_hs _ _ _ _ _ _ _ _ ),
   (fun P h t m q j kd i => aIndexAddr_ptr _ _ _ _ _ _ _ _ ),
   (fun P t cs kd i => aIndex_agg _ _ _ _ _ ),
   (fun P t es => aLen_sl _ _ _ ),
   (fun P t => aLen_zs _ _ ),
   (fun P t n off len => aLen_hs _ _ _ _ _ ),
   (fun P h k t n ps => aBuildSlice_eq _ _ _ _ _ _ ),
   (fun P h k t ka kb l c => aMake_eq _ _ _ _ _ _ _ _ ),
   (fun P h k t u v w => aAppend_eq _ _ _ _ _ _ _ ),
   (fun P h t u kd n => aConv_int _ _ _ _ _ _ ),
   (fun h n => rfl),
   (fun h n es => rfl)⟩
theorem AW5 : (∀ (h : AHeap) (n m off len : Nat), aRow h n (.hs m off len) = (h m).bind fun k => if k.sz = n ∧ off + len ≤ k.es.length then some ((k.es.drop off).take len) else none) ∧
    (∀ (h : AHeap) (l : List Int), aRow h 1 (.str l) = some (l.map fun c => [.int .u8 c])) ∧
    (∀ (P : Program) (h : AHeap) (e : TypeId) (n : Nat) (j kd : IntKind) (m : Int), newsK P h e n (some (.int j)) (.int kd m) = (zeroT P e).bind fun zs => if 0 ≤ m ∧ m < 4611686018427387904 ∧ zs.length = n ∧ zs.all AV.one = true then some (List.replicate m.toNat zs) else none) ∧
    (∀ (P : Program) (h : AHeap) (e : TypeId) (n : Nat) (l : List Int), newsK P h e n (some .str) (.str l) = aRow h n (.str l)) ∧
    (∀ (P : Program) (h : AHeap) (e : TypeId) (n : Nat) (d : TypeId), newsK P h e n (some (.slice d)) .zs = aRow h n .zs) ∧
    (∀ (P : Program) (h : AHeap) (e : TypeId) (n : Nat) (d : TypeId) (es : List (List AV)), newsK P h e n (some (.slice d)) (.sl es) = aRow h n (.sl es)) ∧
    (∀ (P : Program) (h : AHeap) (e : TypeId) (n : Nat) (d : TypeId) (a b c : Nat), newsK P h e n (some (.slice d)) (.hs a b c) = aRow h n (.hs a b c)) ∧
    (AV.mayGrow .zs = true) ∧
    (∀ (a b c : Nat), AV.mayGrow (.hs a b c) = true) ∧
    (∀ (h : AHeap), killT h .zs = h) ∧
    (∀ (h : AHeap) (a b c : Nat), killT h (.hs a b c) = upd h a none) ∧
    (∀ (n : Nat) (es : List (List AV)), aRows n es [] = some es) ∧
    (∀ (n i : Nat) (es : List (List AV)) (a : AV) (r : List (Nat × AV)), aRows n es ((i, a) :: r) = if a.cells.length = n ∧ i < es.length ∧ a.cells.all AV.one = true then aRows n (es.set i a.cells) r else none) ∧
    (∀ (P : Program) (t : TypeId) (ps : List (Nat × AV)), aBuild P t ps = (placesT P t).bind fun pl => (zeroT P t).bind fun zs => (aFill (fun i => pl[i]?) zs ps).map .agg) ∧
    (∀ (p : Nat → Option (Nat × Nat)) (cs : List AV), aFill p cs [] = some cs) ∧
    (∀ (p : Nat → Option (Nat × Nat)) (cs : List AV) (i : Nat) (a : AV) (r : List (Nat × AV)), aFill p cs ((i, a) :: r) = (p i).bind fun o => if a.cells.length = o.2 ∧ o.1 + o.2 ≤ cs.length then aFill p (splice cs o.1 a.cells) r else none) ∧
    (∀ (P : Program) (h : AHeap) (k : Nat) (t : TypeId) (x : AV), aBuiltin P h k .len [t] [x] = (aLen P t x).map fun v => (v, h, k)) ∧
    (∀ (P : Program) (h : AHeap) (k : Nat) (t u : TypeId) (x y : AV), aBuiltin P h k .append [t, u] [x, y] = (aAppend P h k t u x y).map fun r => (r.1, r.2, k + 1)) ∧
    (∀ (P : Program) (h : AHeap) (k : Nat) (t u : TypeId) (x y : AV), aBuiltin P h k .copy [t, u] [x, y] = (aCopy P h t u x y).map fun r => (r.1, r.2, k)) ∧
    (∀ (P : Program) (h : AHeap) (k : Nat) (t : TypeId) (x : AV), aBuiltin P h k .clear [t] [x] = (aClear P h t x).map fun g => (.tup [], g, k)) ∧
    (∀ (P : Program) (h : AHeap) (k : Nat) (t u : TypeId) (x y : AV), aBuiltin P h k .min [t, u] [x, y] = (aMin x y).map fun v => (v, h, k)) ∧
    (∀ (P : Program) (h : AHeap) (k : Nat) (t u : TypeId) (x y : AV), aBuiltin P h k .max [t, u] [x, y] = (aMax x y).map fun v => (v, h, k)) ∧
    (∀ (kd : IntKind) (a b : Int), aMin (.int kd a) (.int kd b) = some (.int kd (if b < a then b else a))) ∧
    (∀ (kd : IntKind) (a b : Int), aMax (.int kd a) (.int kd b) = some (.int kd (if a < b then b else a))) :=
  ⟨(fun h n m off len => rfl),
   (fun h l => rfl),
   (fun P h e n j kd m => rfl),
   (fun P h e n l => rfl),
   (fun P h e n d => rfl),
   (fun P h e n d es => rfl),
   (fun P h e n d a b c => rfl),
   (rfl),
   (fun a b c => rfl),
   (fun h => rfl),
   (fun h a b c => rfl),
   (fun n es => rfl),
   (fun n i es a r => rfl),
   (fun P t ps => rfl),
   (fun p cs => rfl),
   (fun p cs i a r => by rw [aFill]; cases p i <;> rfl),
   (fun P h k t x => rfl),
   (fun P h k t u x y => rfl),
   (fun P h k t u x y => rfl),
   (fun P h k t x => rfl),
   (fun P h k t u x y => rfl),
   (fun P h k t u x y => rfl),
   (fun kd a b => by simp [aMin]),
   (fun kd a b => by simp [aMax])⟩
theorem AW6 : (∀ (P : Program) (t : TypeId) (kd : IntKind) (a b : Int), aBin P .add t (.int kd a) (.int kd b) = some (.int kd (kd.wrap (a + b)))) ∧
    (∀ (P : Program) (t : TypeId) (kd : IntKind) (a b : Int), aBin P .sub t (.int kd a) (.int kd b) = some (.int kd (kd.wrap (a - b)))) ∧
    (∀ (P : Program) (t : TypeId) (kd : IntKind) (a b : Int), aBin P .mul t (.int kd a) (.int kd b) = some (.int kd (kd.wrap (a * b)))) ∧
    (∀ (P : Program) (t : TypeId) (kd : IntKind) (a b : Int), aBin P .and t (.int kd a) (.int kd b) = some (.int kd (bits .and kd a b))) ∧
    (∀ (P : Program) (t : TypeId) (kd : IntKind) (a b : Int), aBin P .or t (.int kd a) (.int kd b) = some (.int kd (bits .or kd a b))) ∧
    (∀ (P : Program) (t : TypeId) (kd : IntKind) (a b : Int), aBin P .xor t (.int kd a) (.int kd b) = some (.int kd (bits .xor kd a b))) ∧
    (∀ (P : Program) (t : TypeId) (kd : IntKind) (a b : Int), aBin P .eql t (.int kd a) (.int kd b) = some (.bool (decide (a = b)))) ∧
    (∀ (P : Program) (t : TypeId) (kd : IntKind) (a b : Int), aBin P .neq t (.int kd a) (.int kd b) = some (.bool (!decide (a = b)))) ∧
    (∀ (P : Program) (t : TypeId) (kd : IntKind) (a b : Int), aBin P .lss t (.int kd a) (.int kd b) = some (.bool (decide (a < b)))) ∧
    (∀ (P : Program) (t : TypeId) (kd : IntKind) (a b : Int), aBin P .leq t (.int kd a) (.int kd b) = some (.bool (decide (a ≤ b)))) ∧
    (∀ (P : Program) (t : TypeId) (kd : IntKind) (a b : Int), aBin P .gtr t (.int kd a) (.int kd b) = some (.bool (decide (b < a)))) ∧
    (∀ (P : Program) (t : TypeId) (kd : IntKind) (a b : Int), aBin P .geq t (.int kd a) (.int kd b) = some (.bool (decide (b ≤ a)))) ∧
    (∀ (P : Program) (t : TypeId) (kd : IntKind) (a b : Int), aBin P .quo t (.int kd a) (.int kd b) = if b = 0 then none else some (.int kd (kd.wrap (a.tdiv b)))) ∧
    (∀ (P : Program) (t : TypeId) (kd : IntKind) (a b : Int), aBin P .rem t (.int kd a) (.int kd b) = if b = 0 then none else some (.int kd (a.tmod b))) ∧
    (∀ (P : Program) (t : TypeId) (kd : IntKind) (a b : Int) (j : IntKind), aBin P .shl t (.int kd a) (.int j b) = if 0 ≤ b then some (.int kd (kd.wrap (a * 2 ^ (min b.toNat kd.bits)))) else none) ∧
    (∀ (P : Program) (t : TypeId) (kd : IntKind) (a b : Int) (j : IntKind), aBin P .shr t (.int kd a) (.int j b) = if 0 ≤ b then some (.int kd (a.fdiv (2 ^ (min b.toNat kd.bits)))) else none) ∧
    (∀ (P : Program) (t : TypeId) (l m : List Int), aBin P .eql t (.str l) (.str m) = some (.bool (decide (l = m)))) ∧
    (∀ (P : Program) (t : TypeId) (l m : List Int), aBin P .neq t (.str l) (.str m) = some (.bool (!decide (l = m)))) ∧
    (∀ (P : Program) (t : TypeId) (a b : Bool), aBin P .eql t (.bool a) (.bool b) = if boolT P t = true then some (.bool (decide (a = b))) else none) ∧
    (∀ (P : Program) (t : TypeId) (a b : Bool), aBin P .neq t (.bool a) (.bool b) = if boolT P t = true then some (.bool (!decide (a = b))) else none) ∧
    (∀ (P : Program) (t : TypeId) (a b : List AV), aBin P .eql t (.agg a) (.agg b) = (eqT P t).bind fun os => (eqCells a b os).map .bool) ∧
    (∀ (P : Program) (t : TypeId) (a b : List AV), aBin P .neq t (.agg a) (.agg b) = (eqT P t).bind fun os => (eqCells a b os).map fun r => .bool (!r)) ∧
    (∀ (a b : List AV), eqCells a b [] = some true) ∧
    (∀ (a b : List AV) (o g : Nat) (os : List (Nat × Nat)), eqCells a b ((o, g) :: os) = (a[o]?).bind fun c => (b[o]?).bind fun d => (eqOne g c d).bind fun r => (eqCells a b os).map fun s => r && s) :=
  ⟨(fun P t kd a b => by simp [aBin, aArith]),
   (fun P t kd a b => by simp [aBin, aArith]),
   (fun P t kd a b => by simp [aBin, aArith]),
   (fun P t kd a b => by simp [aBin, aArith]),
   (fun P t kd a b => by simp [aBin, aArith]),
   (fun P t kd a b => by simp [aBin, aArith]),
   (fun P t kd a b => by simp [aBin, aArith]),
   (fun P t kd a b => by simp [aBin, aArith]),
   (fun P t kd a b => by simp [aBin, aArith]),
   (fun P t kd a b => by simp [aBin, aArith]),
   (fun P t kd a b => by simp [aBin, aArith]),
   (fun P t kd a b => by simp [aBin, aArith]),
   (fun P t kd a b => by simp [aBin, aArith]),
   (fun P t kd a b => by simp [aBin, aArith]),
   (fun P t kd a b j => rfl),
   (fun P t kd a b j => rfl),
   (fun P t l m => rfl),
   (fun P t l m => rfl),
   (fun P t a b => rfl),
   (fun P t a b => rfl),
   (fun P t a b => rfl),
   (fun P t a b => rfl),
   (fun a b => rfl),
   (fun a b o g os => rfl)⟩
theorem AW7 : (∀ (k : IntKind) (a b : Int), eqOne 0 (.int k a) (.int k b) = some (decide (a = b))) ∧
    (∀ (a b : Bool), eqOne 1 (.bool a) (.bool b) = some (decide (a = b))) ∧
    (∀ (a b : List Int), eqOne 2 (.str a) (.str b) = some (decide (a = b))) ∧
    (∀ (b : Bool), aUn .not (.bool b) = some (.bool (!b))) ∧
    (∀ (kd : IntKind) (a : Int), aUn .neg (.int kd a) = some (.int kd (kd.wrap (0 - a)))) ∧
    (∀ (kd : IntKind) (a : Int), aUn .xor (.int kd a) = some (.int kd (bits .xor kd (if kd.signed then -1 else kd.max) a))) ∧
    (∀ (vs : List AV) (i : Nat), aExtract (.tup vs) i = vs[i]?) ∧
    (∀ (l : List AV) (t : Nat), tm0 l t = (l[t]?).getD (.tup [])) ∧
    (∀ (tm : Nat → AV) (f : Nat) (as : Array Operand) (ts : Array TypeId), calleeA tm ⟨.value (.func f), as, ts⟩ = some (f, as.toList.map (evA tm))) ∧
    (∀ (tm : Nat → AV) (f : Nat) (as : List Operand) (ts : Array TypeId), calleeW tm ⟨.value (.func f), as.toArray, ts⟩ = some (f, as.map fun x => weakA (evA tm x))) ∧
    (weakA .zs = .sl []) ∧
    (∀ (cs : List AV), weakA (.agg cs) = .agg (cs.map weak1)) ∧
    (∀ (b : Bool), weakA (.bool b) = .bool b) ∧
    (∀ (b : Bool), weak1 (.bool b) = .bool b) ∧
    (∀ (kd : IntKind) (n : Int), weakA (.int kd n) = .int kd n) ∧
    (∀ (kd : IntKind) (n : Int), weak1 (.int kd n) = .int kd n) ∧
    (∀ (l : List Int), weakA (.str l) = .str l) ∧
    (∀ (l : List Int), weak1 (.str l) = .str l) ∧
    (weak1 .zs = .sl []) ∧
    (∀ (es : List (List AV)), weakA (.sl es) = .sl es) ∧
    (∀ (es : List (List AV)), weak1 (.sl es) = .sl es) ∧
    (∀ (n o l : Nat), weakA (.hs n o l) = .hs n o l) ∧
    (∀ (n o l : Nat), weak1 (.hs n o l) = .hs n o l) ∧
    (weakA (.nilp) = .nilp) :=
  ⟨(fun k a b => by simp [eqOne]),
   (fun a b => rfl),
   (fun a b => rfl),
   (fun b => rfl),
   (fun kd a => rfl),
   (fun kd a => rfl),
   (fun vs i => rfl),
   (fun l t => rfl),
   (fun tm f as ts => by simp [calleeA, evA]),
   (fun tm f as ts => by simp [calleeW, calleeA, evA]),
   (rfl),
   (fun cs => rfl),
   (fun b => rfl),
   (fun b => rfl),
   (fun kd n => rfl),
   (fun kd n => rfl),
   (fun l => rfl),
   (fun l => rfl),
   (rfl),
   (fun es => rfl),
   (fun es => rfl),
   (fun n o l => rfl),
   (fun n o l => rfl),
   (rfl)⟩
theorem AW8 : (weak1 (.nilp) = .nilp) ∧
    (∀ (n e j : Nat), weakA (.ptr n e j) = .ptr n e j) ∧
    (∀ (n e j : Nat), weak1 (.ptr n e j) = .ptr n e j) ∧
    (∀ (cs : List AV), weakA (.ip cs) = .ip cs) ∧
    (∀ (cs : List AV), weak1 (.ip cs) = .ip cs) ∧
    (∀ (f : Fn) (as bs : List AV), weakA (.fn f as bs) = .fn f as bs) ∧
    (∀ (f : Fn) (as bs : List AV), weak1 (.fn f as bs) = .fn f as bs) ∧
    (weakA (.nilf) = .nilf) ∧
    (weak1 (.nilf) = .nilf) ∧
    (∀ (t : TypeId) (v : AV), weakA (.iface t v) = .iface t v) ∧
    (∀ (t : TypeId) (v : AV), weak1 (.iface t v) = .iface t v) ∧
    (weakA (.niliface) = .niliface) ∧
    (weak1 (.niliface) = .niliface) ∧
    (∀ (d : Int), bndOr d none = some d) ∧
    (∀ (d : Int) (kd : IntKind) (i : Int), bndOr d (some (.int kd i)) = some i) ∧
    (∀ (P : Program) (t : TypeId) (l : List Int), aLen P t (.str l) = (strK (kT P t)).map fun _ => .int .i64 l.length) ∧
    (∀ (P : Program) (h : AHeap) (t : TypeId) (es : List (List AV)) (lo hi : Option AV), aSlice P h t (.sl es) lo hi none = (elemK (kT P t)).bind fun e => (sizeT P e).bind fun n => (bndOr 0 lo).bind fun l => (bndOr es.length hi).bind fun u => if 0 ≤ l ∧ l ≤ u ∧ u ≤ es.length ∧ es.all (fun c => c.length == n) = true then some (.sl ((es.take u.toNat).drop l.toNat)) else none) ∧
    (∀ (P : Program) (h : AHeap) (t : TypeId) (m off len : Nat) (lo hi : Option AV), aSlice P h t (.hs m off len) lo hi none = (elemK (kT P t)).bind fun e => (sizeT P e).bind fun n => (h m).bind fun kb => (bndOr 0 lo).bind fun l => (bndOr len hi).bind fun u => if 0 ≤ l ∧ l ≤ u ∧ u ≤ len ∧ kb.sz = n then some (.hs m (off + l.toNat) (u.toNat - l.toNat)) else none) ∧
    (∀ (P : Program) (h : AHeap) (t : TypeId) (lo hi : Option AV), aSlice P h t .zs lo hi none = (elemK (kT P t)).bind fun e => (sizeT P e).bind fun n => (bndOr 0 lo).bind fun l => (bndOr 0 hi).bind fun u => if l = 0 ∧ u = 0 then some .zs else none) ∧
    (∀ (P : Program) (h : AHeap) (t : TypeId) (s : List Int) (lo hi : Option AV), aSlice P h t (.str s) lo hi none = (strK (kT P t)).bind fun _ => (bndOr 0 lo).bind fun l => (bndOr s.length hi).bind fun u => if 0 ≤ l ∧ l ≤ u ∧ u ≤ s.length then some (.str ((s.take u.toNat).drop l.toNat)) else none) ∧
    (∀ (P : Program) (h : AHeap) (t u : TypeId) (m off len : Nat) (y : AV), aCopy P h t u (.hs m off len) y = (elemK (kT P t)).bind fun e => (sizeT P e).bind fun n => (h m).bind fun kb => (aRow h n y).bind fun ys => if kb.sz = n ∧ off + len ≤ kb.es.length then some (.int .i64 (min ys.length len : Nat), upd h m (some ⟨n, rowPut kb.es off (ys.take len)⟩)) else none) ∧
    (∀ (P : Program) (h : AHeap) (t u : TypeId) (y : AV), aCopy P h t u .zs y = (elemK (kT P t)).bind fun e => (sizeT P e).bind fun n => (aRow h n y).bind fun ys => some (.int .i64 0, h)) ∧
    (∀ (P : Program) (h : AHeap) (t : TypeId) (m off len : Nat), aClear P h t (.hs m off len) = (elemK (kT P t)).bind fun e => (zeroT P e).bind fun zs => (h m).bind fun kb => if kb.sz = zs.length ∧ off + len ≤ kb.es.length ∧ zs.all AV.one = true then some (upd h m (some ⟨kb.sz, rowPut kb.es off (List.replicate len zs)⟩)) else none) ∧
    (∀ (P : Program) (h : AHeap) (t : TypeId), aClear P h t .zs = (elemK (kT P t)).map fun _ => h) :=
  ⟨(rfl),
   (fun n e j => rfl),
   (fun n e j => rfl),
   (fun cs => rfl),
   (fun cs => rfl),
   (fun f as bs => rfl),
   (fun f as bs => rfl),
   (rfl),
   (rfl),
   (fun t v => rfl),
   (fun t v => rfl),
   (rfl),
   (rfl),
   (fun d => rfl),
   (fun d kd i => rfl),
   (fun P t l => aLen_s _ _ _ ),
   (fun P h t es lo hi => aSlice_sl _ _ _ _ _ _ ),
   (fun P h t m off len lo hi => aSlice_hs _ _ _ _ _ _ _ _ ),
   (fun P h t lo hi => aSlice_zs _ _ _ _ _ ),
   (fun P h t s lo hi => aSlice_s _ _ _ _ _ _ ),
   (fun P h t u m off len y => aCopy_hs _ _ _ _ _ _ _ _ ),
   (fun P h t u y => aCopy_zs _ _ _ _ _ ),
   (fun P h t m off len => aClear_hs _ _ _ _ _ _ ),
   (fun P h t => aClear_zs _ _ _ )⟩
theorem AW9 : (∀ (P : Program) (h : AHeap) (t : TypeId) (lo hi : Option AV) (kd : IntKind) (m : Int), aSlice P h t .zs lo hi (some (.int kd m)) = (elemK (kT P t)).bind fun e => (sizeT P e).bind fun n => (bndOr 0 lo).bind fun l => (bndOr (-1) hi).bind fun u => if l = 0 ∧ u = 0 ∧ m = 0 then some .zs else none) ∧
    (∀ (P : Program) (h : AHeap) (t : TypeId) (es : List (List AV)) (lo hi : Option AV) (kd : IntKind) (m : Int), aSlice P h t (.sl es) lo hi (some (.int kd m)) = (elemK (kT P t)).bind fun e => (sizeT P e).bind fun n => (bndOr 0 lo).bind fun l => (bndOr (-1) hi).bind fun u => if l = 0 ∧ u = 0 ∧ m = 0 then some .zs else none) ∧
    (∀ (P : Program) (h : AHeap) (t : TypeId) (a b c : Nat) (lo hi : Option AV) (kd : IntKind) (m : Int), aSlice P h t (.hs a b c) lo hi (some (.int kd m)) = (elemK (kT P t)).bind fun e => (sizeT P e).bind fun n => (bndOr 0 lo).bind fun l => (bndOr (-1) hi).bind fun u => if l = 0 ∧ u = 0 ∧ m = 0 then some .zs else none) ∧
    (strK (some .str) = some ()) ∧
    (∀ (P : Program) (h : AHeap) (k : Nat) (t : TypeId), aBuiltin P h k .cap [t] [.zs] = if (elemK (kT P t)).isSome = true then some (.int .i64 0, h, k) else none) ∧
    (∀ (e : TypeId), (some e).isSome = true) ∧
    (∀ (α β : Type) (f : α → β), Option.map f none = none) ∧
    (∀ (f : Operand → AV), Option.map f none = none) ∧
    (∀ (α β : Type) (f : α → Option β) (a : α), (some a).bind f = f a) ∧
    (∀ (α β : Type) (f : α → β) (a : α), (some a).map f = some (f a)) ∧
    (∀ (α : Type) (a d : α), (some a).getD d = a) ∧
    (∀ (α : Type) (d : α), (none : Option α).getD d = d) ∧
    (∀ (α : Type) (p : α → Bool), ([] : List α).all p = true) ∧
    (∀ (α : Type) (p : α → Bool) (a : α) (l : List α), (a :: l).all p = (p a && l.all p)) ∧
    (∀ (b : Bool), (true && b) = b) ∧
    (∀ (b : Bool), (b && true) = b) ∧
    (∀ (α : Type) (a : α) (l : List α), (a :: l)[0]? = some a) ∧
    (∀ (α : Type) (a : α) (l : List α) (i : Nat), (a :: l)[i + 1]? = l[i]?) ∧
    (∀ (α : Type) (a : α) (l : List α), (a :: l).length = l.length + 1) ∧
    (∀ (α : Type), ([] : List α).length = 0) ∧
    (∀ (α : Type) (l : List α), l.drop 0 = l) ∧
    (∀ (α : Type) (a : α) (l : List α) (n : Nat), (a :: l).drop (n + 1) = l.drop n) ∧
    (∀ (α : Type) (l : List α), l.take 0 = []) ∧
    (∀ (α : Type) (a : α) (l : List α) (n : Nat), (a :: l).take (n + 1) = a :: l.take n) :=
  ⟨(fun P h t lo hi kd m => aSlice_m P h t _ lo hi kd m (.inl rfl)),
   (fun P h t es lo hi kd m => aSlice_m P h t _ lo hi kd m (.inr (.inl ⟨_, rfl⟩))),
   (fun P h t a b c lo hi kd m => aSlice_m P h t _ lo hi kd m (.inr (.inr ⟨_, _, _, rfl⟩))),
   (rfl),
   (fun P h k t => by rw [← elemT_eq]; rfl),
   (fun e => rfl),
   (fun α β f => rfl),
   (fun f => rfl),
   (fun α β f a => rfl),
   (fun α β f a => rfl),
   (fun α a d => rfl),
   (fun α d => rfl),
   (fun α p => rfl),
   (fun α p a l => by simp),
   (fun b => by simp),
   (fun b => by simp),
   (fun α a l => rfl),
   (fun α a l i => rfl),
   (fun α a l => rfl),
   (fun α => rfl),
   (fun α l => rfl),
   (fun α a l n => rfl),
   (fun α l => by simp),
   (fun α a l n => rfl)⟩
theorem AW10 : (∀ (α : Type) (n : Nat), ([] : List α).drop n = []) ∧
    (∀ (α : Type) (n : Nat), ([] : List α).take n = []) ∧
    (∀ (α : Type) (l : List α), [] ++ l = l) ∧
    (∀ (α : Type) (a : α) (l m : List α), (a :: l) ++ m = a :: (l ++ m)) ∧
    (∀ (α : Type) (l : List α), l ++ [] = l) ∧
    (∀ (α : Type) (a b : α) (l : List α), (a :: l).set 0 b = b :: l) ∧
    (∀ (α : Type) (a b : α) (l : List α) (i : Nat), (a :: l).set (i + 1) b = a :: l.set i b) ∧
    (∀ (α β : Type) (f : α → β), [].map f = []) ∧
    (∀ (α β : Type) (f : α → β) (a : α) (l : List α), (a :: l).map f = f a :: l.map f) ∧
    (∀ (α : Type) (a : α), List.replicate 0 a = []) ∧
    (∀ (α : Type) (a : α) (n : Nat), List.replicate (n + 1) a = a :: List.replicate n a) ∧
    (∀ (α : Type) (a : α) (l : List α), (a :: l).head? = some a) ∧
    (∀ (n : Nat), ((n : Nat) : Int).toNat = n) ∧
    (∀ (n : Nat), 0 ≤ (n : Int) ↔ True) ∧
    (∀ (a : Nat), 0 + a = a) ∧
    (∀ (a : Nat), a + 0 = a) ∧
    (∀ (α : Type) (a b : α), some a = some b ↔ a = b) ∧
    (∀ (α : Type) (a : α), a = a ↔ True) ∧
    (∀ (p : Prop), (True ∧ p) ↔ p) ∧
    (∀ (p : Prop), (p ∧ True) ↔ p) ∧
    (∀ (α : Type) (a b : α), (if True then a else b) = a) ∧
    (∀ (α : Type) (a b : α), (if False then a else b) = b) ∧
    (∀ (α : Type) (a : α) (l : List α), (a :: l ≠ []) ↔ True) ∧
    (∀ (n : Nat), 0 ≤ n ↔ True) :=
  ⟨(fun α n => by simp),
   (fun α n => by simp),
   (fun α l => rfl),
   (fun α a l m => rfl),
   (fun α l => by simp),
   (fun α a b l => rfl),
   (fun α a b l i => rfl),
   (fun α β f => rfl),
   (fun α β f a l => rfl),
   (fun α a => rfl),
   (fun α a n => rfl),
   (fun α a l => rfl),
   (fun n => by simp),
   (fun n => by simp),
   (fun a => by simp),
   (fun a => rfl),
   (fun α a b => by simp),
   (fun α a => by simp),
   (fun p => by simp),
   (fun p => by simp),
   (fun α a b => by simp),
   (fun α a b => by simp),
   (fun α a l => by simp),
   (fun n => by simp)⟩
end Go.Proofs.Ytcnofpoffdjbpaa.AE
