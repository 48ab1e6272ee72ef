/- Helpers for walks: ranges, shifts. -/
import Derived.Test.YtijmldjghhndoaaBM
import Derived.Test.YtijmldjghhndoaaOct
import Derived.Test.YtijmldjghhndoaaCrc
import Derived.Test.YtijmldjghhndoaaTF
namespace Go.Proofs.Ytijmldjghhndoaa.AE
open Go Go.RowKit Go.Proofs Go.Proofs.Ytijmldjghhndoaa
set_option linter.unusedVariables false
theorem inU64 {n : Int} (h : InR .u64 n) : 0 ≤ n ∧ n < 18446744073709551616 := by
  obtain ⟨h1, h2⟩ := h
  simp [IntKind.min, IntKind.max, IntKind.signed, IntKind.bits] at h1 h2
  omega
theorem inU32 {n : Int} (h : InR .u32 n) : 0 ≤ n ∧ n < 4294967296 := by
  obtain ⟨h1, h2⟩ := h
  simp [IntKind.min, IntKind.max, IntKind.signed, IntKind.bits] at h1 h2
  omega
theorem inU8 {n : Int} (h : InR .u8 n) : 0 ≤ n ∧ n < 256 := by
  obtain ⟨h1, h2⟩ := h
  simp [IntKind.min, IntKind.max, IntKind.signed, IntKind.bits] at h1 h2
  omega
theorem inI64 {n : Int} (h : InR .i64 n) : -9223372036854775808 ≤ n ∧ n < 9223372036854775808 := by
  obtain ⟨h1, h2⟩ := h
  simp [IntKind.min, IntKind.max, IntKind.signed, IntKind.bits] at h1 h2
  omega
theorem Real.num {k : IntKind} {l : List Int} (h : Real (.sl (numB k l))) : l.length < 4611686018427387904 ∧ ∀ n ∈ l, InR k n := by
  obtain ⟨h1, h2⟩ := h.sl
  simp [numB, big] at h1
  exact ⟨h1, fun n hn => (h2 [.int k n] (by simp only [numB, List.mem_map]; exact ⟨n, hn, rfl⟩) (.int k n) (by simp)).int⟩
theorem Real.BY {l : List Int} (h : Real (.sl (numB .u8 l))) : Pl.BY l := fun n hn => inU8 (h.num.2 n hn)
theorem shrU64 {n : Int} {k : Nat} (hk : k ≤ 8) : n.fdiv (2 ^ (min (8 * (k : Int)).toNat IntKind.u64.bits)) = n / 256 ^ k := by
  have h1 : min (8 * (k : Int)).toNat IntKind.u64.bits = 8 * k := by simp [IntKind.bits]; omega
  rw [h1, Pl.two_256, Int.fdiv_eq_ediv_of_nonneg _ (by have : (0 : Int) < 256 ^ k := Int.pow_pos (by decide); omega)]
theorem wrapB_mod (n : Int) : IntKind.u8.wrap n = n % 256 := by simp [IntKind.wrap, IntKind.signed, IntKind.bits]
theorem num_sz (k : IntKind) (l : List Int) : (numB k l).all (fun e => e.length == 1) = true := by simp [numB]
theorem putI_take (k : Nat) (n : Int) : (Pl.putI k n).take k = Pl.putI k n := List.take_of_length_le (by rw [Pl.putI_length]; omega)
theorem numB_get (k : IntKind) (l : List Int) (i : Nat) (x : Int) (h : l[i]? = some x) : (numB k l)[i]? = some [.int k x] := by simp [numB, h]
theorem numB_len (k : IntKind) (l : List Int) : (numB k l).length = l.length := by simp [numB]
theorem take_len {α : Type} (l : List α) (n : Nat) (h : l.length = n) : l.take n = l := List.take_of_length_le (by omega)
section
variable {P : Program} {nt : Nat} {Q : AX → St → Prop} {ops : Array Oper} {rest : List Oper} {tm : Nat → AV} {h : AHeap} {k : Nat} {df : List ADef} {ty : TypeId} {pos : String} {after : Array Edge} {d : Nat} {v : AV}
/-! the same rules, the callee's number looked at first -/
theorem Q_fun {c : Call} {f : FuncId} {args : List AV} (h0 : c.callee = .value (.func f)) (hd : decide (d < nt) = true) (ha : calleeW tm c = some (f, args)) (hc : callable P f = true) (hf : aFun P f args v) (hr : ∀ k', k ≤ k' → aOps P nt ops rest Q ⟨upd tm d v, h, k', df⟩) :
    aOps P nt ops (⟨some d, .call c, ty, pos, after, none⟩ :: rest) Q ⟨tm, h, k, df⟩ := W_fun hd ha hc hf hr
theorem Q_funG {c : Call} {f : FuncId} {args : List AV} {j : Nat} {b : Bool} (h0 : c.callee = .value (.func f)) (hg : guardA ops tm (some (j, b)) = some true) (hd : decide (d < nt) = true) (ha : calleeW tm c = some (f, args)) (hc : callable P f = true) (hf : aFun P f args v) (hr : ∀ k', k ≤ k' → aOps P nt ops rest Q ⟨upd tm d v, h, k', df⟩) :
    aOps P nt ops (⟨some d, .call c, ty, pos, after, some (j, b)⟩ :: rest) Q ⟨tm, h, k, df⟩ := W_funG hg hd ha hc hf hr
theorem Q_own {c : Call} {f : FuncId} {args : List AV} {sz : Nat} {es : List (List AV)} (h0 : c.callee = .value (.func f)) (hd : decide (d < nt) = true) (ha : calleeW tm c = some (f, args)) (hc : callable P f = true) (hf : aOwn P f args sz es) (hr : ∀ m k', k ≤ m → m < k' → aOps P nt ops rest Q ⟨upd tm d (.hs m 0 es.length), upd h m (some ⟨sz, es⟩), k', df⟩) :
    aOps P nt ops (⟨some d, .call c, ty, pos, after, none⟩ :: rest) Q ⟨tm, h, k, df⟩ := W_own hd ha hc hf hr
theorem Q_ownM {c : Call} {f : FuncId} {args : List AV} {mk : AV → AV} {sz : Nat} {es : List (List AV)} (h0 : c.callee = .value (.func f)) (hd : decide (d < nt) = true) (ha : calleeW tm c = some (f, args)) (hc : callable P f = true) (hf : aOwnM P f args mk sz es) (hr : ∀ m k', k ≤ m → m < k' → aOps P nt ops rest Q ⟨upd tm d (mk (.hs m 0 es.length)), upd h m (some ⟨sz, es⟩), k', df⟩) :
    aOps P nt ops (⟨some d, .call c, ty, pos, after, none⟩ :: rest) Q ⟨tm, h, k, df⟩ := W_ownM hd ha hc hf hr
end
section
variable {P : Program} {ops : List Oper} {k i : Nat} {rest : List Oper} {tm : Nat → AV} {h : AHeap} {acc : List Ac} {d : Nat} {ty : TypeId} {pos : String} {after : Array Edge} {v : AV} {K : (Nat → AV) → AHeap → Prop}
theorem Q_f {c : Call} {f : FuncId} {args : List AV} (h0 : c.callee = .value (.func f)) (ha : calleeW tm c = some (f, args)) (hc : callable P f = true) (hf : aFun P f args v) (hr : DrawP P ops k K (i + 1) rest (upd tm d v) h (acc ++ [⟨v, [], []⟩])) : DrawP P ops k K i (⟨some d, .call c, ty, pos, after, none⟩ :: rest) tm h acc := D_f ha hc hf hr
theorem Q_fG {j : Nat} {b : Bool} {c : Call} {f : FuncId} {args : List AV} (h0 : c.callee = .value (.func f)) (hg : guardA ops.toArray tm (some (j, b)) = some true) (ha : calleeW tm c = some (f, args)) (hc : callable P f = true) (hf : aFun P f args v) (hr : DrawP P ops k K (i + 1) rest (upd tm d v) h (acc ++ [⟨v, [], []⟩])) : DrawP P ops k K i (⟨some d, .call c, ty, pos, after, some (j, b)⟩ :: rest) tm h acc := D_fG hg ha hc hf hr
end
end Go.Proofs.Ytijmldjghhndoaa.AE
