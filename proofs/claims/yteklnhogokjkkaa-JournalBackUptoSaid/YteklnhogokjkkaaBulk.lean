/- What the bound of an Upto statement gives: a slice that comes in is as long as its datum, and so below the bound. -/
import Derived.Test.YteklnhogokjkkaaRows
import Derived.Lib.SmallJoins
namespace Go.Proofs.Yteklnhogokjkkaa.Bulk
theorem all_ge {H : Type} (l : List (DataW H)) : l.length ≤ Rows.uptoBulkAll l := by
  induction l with
  | nil => simp [Rows.uptoBulkAll]
  | cons x r ih =>
    have h1 : 1 ≤ Rows.uptoBulk x := by
      cases x with
      | lit l => cases l <;> simp [Rows.uptoBulk]
      | _ => simp [Rows.uptoBulk]
    simp only [Rows.uptoBulkAll, List.length_cons]
    omega
theorem len_le {H : Type} (d : DataW H) : Go.Joins.sliceLen d ≤ Rows.uptoBulk d := by
  cases d with
  | slice elems spare =>
    have h1 := all_ge elems
    simp only [Go.Joins.sliceLen, Rows.uptoBulk]
    omega
  | _ => simp [Go.Joins.sliceLen]
theorem part_le {H : Type} {d : DataW H} {l : List (DataW H)} (h : d ∈ l) : Rows.uptoBulk d ≤ Rows.uptoBulkAll l := by
  induction l with
  | nil => cases h
  | cons x r ih =>
    simp only [Rows.uptoBulkAll]
    rcases List.mem_cons.1 h with e | e
    · subst e
      omega
    · have := ih e
      omega
theorem small {H : Type} {d : DataW H} {l : List (DataW H)} (hk : Rows.uptoSmall H l = true) (h : d ∈ l) : Rows.uptoBulk d ≤ 1048576 := by
  have hb : Rows.uptoBulkAll l ≤ 1048576 := of_decide_eq_true hk
  exact Nat.le_trans (part_le h) hb
theorem slice_small {H : Type} {enc : TypeId × Value → H} {P : Program} {w : World} {base : Nat} {spare : Nat → Bool} {held : Bool} {t e : TypeId} {a : Option Addr} {len cap : Nat} {d : DataW H} {ps : List MemPlace} {l : List (DataW H)}
    (hk : Rows.uptoSmall H l = true) (hm : d ∈ l) (ht : P.underlying t = some (.slice e)) (h : ∃ fuel, DataW.trod enc P w base spare held fuel t [.slice a len cap] = some (d, ps)) : len * 1 ≤ 1048576 := by
  obtain ⟨fuel, hf⟩ := h
  have h1 := Go.Joins.sliceLen_trod ht hf
  have h2 := len_le d
  have h3 := small hk hm
  omega
end Go.Proofs.Yteklnhogokjkkaa.Bulk
