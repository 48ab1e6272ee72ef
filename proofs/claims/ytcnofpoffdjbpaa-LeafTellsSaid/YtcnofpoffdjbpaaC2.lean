/- Helpers for walks: ranges, shifts. -/
import Derived.Test.YtcnofpoffdjbpaaBM
import Derived.Test.YtcnofpoffdjbpaaOct
import Derived.Test.YtcnofpoffdjbpaaCrc
import Derived.Test.YtcnofpoffdjbpaaTF
namespace Go.Proofs.Ytcnofpoffdjbpaa.AE
open Go Go.RowKit Go.Proofs Go.Proofs.Ytcnofpoffdjbpaa
set_option linter.unusedVariables false
theorem inU64 {n : Int} (h : InR .u64 n) : 0 ≤ n ∧ n < 18446744073709551616 := by
  obtain ⟨h1, h2⟩ := h
  simp [IntKind.min, IntKind.max, IntKind.signed, IntKind.bits] at h1 h2
  omega
theorem inU32 {n : Int} (h : InR .u32 n) : 0 ≤ n ∧ n < 4294967296 := by
  obtain ⟨h1, h2⟩ := h
  simp [IntKind.min, IntKind.max, IntKind.signed, IntKind.bits] at h1 h2
  omega
theorem inU8 {n : Int} (h : InR .u8 n) : 0 ≤ n ∧ n < 256 := by
  obtain ⟨h1, h2⟩ := h
  simp [IntKind.min, IntKind.max, IntKind.signed, IntKind.bits] at h1 h2
  omega
theorem inI64 {n : Int} (h : InR .i64 n) : -9223372036854775808 ≤ n ∧ n < 9223372036854775808 := by
  obtain ⟨h1, h2⟩ := h
  simp [IntKind.min, IntKind.max, IntKind.signed, IntKind.bits] at h1 h2
  omega
theorem Real.num {k : IntKind} {l : List Int} (h : Real (.sl (numB k l))) : l.length < 4611686018427387904 ∧ ∀ n ∈ l, InR k n := by
  obtain ⟨h1, h2⟩ := h.sl
  simp [numB, big] at h1
  exact ⟨h1, fun n hn => (h2 [.int k n] (by simp only [numB, List.mem_map]; exact ⟨n, hn, rfl⟩) (.int k n) (by simp)).int⟩
theorem Real.BY {l : List Int} (h : Real (.sl (numB .u8 l))) : Pl.BY l := fun n hn => inU8 (h.num.2 n hn)
theorem shrU64 {n : Int} {k : Nat} (hk : k ≤ 8) : n.fdiv (2 ^ (min (8 * (k : Int)).toNat IntKind.u64.bits)) = n / 256 ^ k := by
  have h1 : min (8 * (k : Int)).toNat IntKind.u64.bits = 8 * k := by simp [IntKind.bits]; omega
  rw [h1, Pl.two_256, Int.fdiv_eq_ediv_of_nonneg _ (by have : (0 : Int) < 256 ^ k := Int.pow_pos (by decide); omega)]
theorem wrapB_mod (n : Int) : IntKind.u8.wrap n = n % 256 := by simp [IntKind.wrap, IntKind.signed, IntKind.bits]
theorem num_sz (k : IntKind) (l : List Int) : (numB k l).all (fun e => e.length == 1) = true := by simp [numB]
theorem putI_take (k : Nat) (n : Int) : (Pl.putI k n).take k = Pl.putI k n := List.take_of_length_le (by rw [Pl.putI_length]; omega)
end Go.Proofs.Ytcnofpoffdjbpaa.AE
