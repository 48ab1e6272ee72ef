/- Numbers that fit their widths, one by one. No program in sight. -/
import Derived.Test.YthkjahoebkicbaaOct
namespace Go.Proofs.Ythkjahoebkicbaa.AE
open Go Go.RowKit Go.Proofs Go.Proofs.Ythkjahoebkicbaa
theorem flat_nil_r (ws : List Int) : Pl.flat ws [] = [] := by cases ws <;> rfl
theorem flat_take (ws vs : List Int) (i : Nat) (w v : Int) (h1 : ws[i]? = some w) (h2 : vs[i]? = some v) : Pl.flat (ws.take (i + 1)) (vs.take (i + 1)) = Pl.flat (ws.take i) (vs.take i) ++ Pl.putI w.toNat v := by
  induction i generalizing ws vs with
  | zero =>
    cases ws with
    | nil => simp at h1
    | cons a ws => cases vs with
      | nil => simp at h2
      | cons b vs =>
        simp at h1 h2
        subst h1 h2
        simp [Pl.flat, flat_nil_r]
  | succ i ih =>
    cases ws with
    | nil => simp at h1
    | cons a ws => cases vs with
      | nil => simp at h2
      | cons b vs =>
        simp only [List.getElem?_cons_succ] at h1 h2
        simp only [List.take_succ_cons, Pl.flat]
        rw [ih ws vs h1 h2, List.append_assoc]
theorem fits_get {ws vs : List Int} (h : Pl.fits ws vs) {i : Nat} {w v : Int} (h1 : ws[i]? = some w) (h2 : vs[i]? = some v) : 1 ≤ w ∧ w ≤ 8 ∧ 0 ≤ v ∧ v < 256 ^ w.toNat := by
  induction i generalizing ws vs with
  | zero =>
    cases ws with
    | nil => simp at h1
    | cons a ws => cases vs with
      | nil => simp at h2
      | cons b vs =>
        simp at h1 h2
        subst h1 h2
        exact h.1
  | succ i ih =>
    cases ws with
    | nil => simp at h1
    | cons a ws => cases vs with
      | nil => simp at h2
      | cons b vs => exact ih h.2 (by simpa using h1) (by simpa using h2)
end Go.Proofs.Ythkjahoebkicbaa.AE
