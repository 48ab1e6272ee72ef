/- Layer 7's node, in plain words. -/
import Derived.Test.YtcnofpoffdjbpaaG9
namespace Go.Proofs.Ytcnofpoffdjbpaa.AE
open Go Go.RowKit Go.Proofs Go.Proofs.Ytcnofpoffdjbpaa
set_option linter.unusedVariables false
def nodeV (l : List (Int × Int)) (kids : List Int) : AV := .agg [.sl (itemB l), .sl (numB .i64 kids)]
def okI (l : List (Int × Int)) (kids : List Int) (i : Nat) : Prop := (0 < i → (l.getD (i - 1) (0, 0)).1 < (l.getD i (0, 0)).1) ∧ (0 < kids.length → (l.getD i (0, 0)).2 ≤ 0)
def okK (kids : List Int) (i : Nat) : Prop := (1 ≤ kids.getD i 0 ∧ kids.getD i 0 ≤ 2048) ∧ kids.getD i 0 ∉ kids.take i
instance (l : List (Int × Int)) (kids : List Int) (i : Nat) : Decidable (okI l kids i) := inferInstanceAs (Decidable (_ ∧ _))
instance (kids : List Int) (i : Nat) : Decidable (okK kids i) := inferInstanceAs (Decidable (_ ∧ _))
/-- P7.1: a node that may be. -/
def okN (l : List (Int × Int)) (kids : List Int) : Prop := (1 ≤ l.length ∧ l.length ≤ 3) ∧ (0 < kids.length → kids.length = l.length + 1) ∧ (∀ i, i < l.length → okI l kids i) ∧ (∀ i, i < kids.length → okK kids i)
instance (l : List (Int × Int)) (kids : List Int) : Decidable (okN l kids) := inferInstanceAs (Decidable (_ ∧ _))
def chk (l : List (Int × Int)) (kids : List Int) : Int := if okN l kids then 0 else 9
theorem chk_bad {l : List (Int × Int)} {kids : List Int} (h : ¬ okN l kids) : chk l kids = 9 := if_neg h
theorem chk_ok {l : List (Int × Int)} {kids : List Int} (h : okN l kids) : chk l kids = 0 := if_pos h
theorem getD_of {α : Type} {l : List α} {i : Nat} {x d : α} (h : l[i]? = some x) : l.getD i d = x := by simp [List.getD, h]
theorem Real.items {l : List (Int × Int)} (h : Real (.sl (itemB l))) : l.length < 4611686018427387904 ∧ ∀ x ∈ l, (0 ≤ x.1 ∧ x.1 < 18446744073709551616) ∧ 0 ≤ x.2 ∧ x.2 < 18446744073709551616 := by
  obtain ⟨h1, h2⟩ := h.sl
  simp [itemB, big] at h1
  exact ⟨h1, fun x hx => ⟨inU64 ((h2 [.int .u64 x.1, .int .u64 x.2] (by simp only [itemB, List.mem_map]; exact ⟨x, hx, rfl⟩) (.int .u64 x.1) (by simp)).int), inU64 ((h2 [.int .u64 x.1, .int .u64 x.2] (by simp only [itemB, List.mem_map]; exact ⟨x, hx, rfl⟩) (.int .u64 x.2) (by simp)).int)⟩⟩
theorem Real.node {l : List (Int × Int)} {kids : List Int} (h : Real (nodeV l kids)) : Real (.sl (itemB l)) ∧ Real (.sl (numB .i64 kids)) := ⟨h.agg _ (by simp), h.agg _ (by simp)⟩
end Go.Proofs.Ytcnofpoffdjbpaa.AE
