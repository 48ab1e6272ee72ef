/- Layer 15's arguments, opened: rows of records. -/
import Derived.Test.YteklnhogokjkkaaO5
namespace Go.Proofs.Yteklnhogokjkkaa.AE
open Go Go.RowKit Go.Proofs
open Go.ChangeShapes Go.WideShapes Go.Deep
set_option linter.unusedVariables false
set_option maxRecDepth 100000
section
variable {H : Type} {enc : TypeId × Value → H} {w : World} {base : Nat} {spare : Nat → Bool} {held : Bool}
theorem opens_recs : OpensA enc Try.prog w base spare held 41 (fun l : List Rec => [.sl (l.map fun r => [.int .i64 r.q, .int .i64 r.root, .int .i64 r.room, .sl (pagesB r.pages)])]) (fun l => l.length * 48 ≤ 140737488351232 ∧ ∀ r ∈ l, okSz r) := by
  intro fuel cs x hx hw
  obtain ⟨a, h1, h2, h3⟩ := opensA_slice (F := fun r : Rec => [.int .i64 r.q, .int .i64 r.root, .int .i64 r.room, .sl (pagesB r.pages)]) Try.underlying41 (by rw [show Try.prog.bytesOf 24 = 48 from by kernel_rfl]; decide) (by rw [show Try.prog.cellsOf 24 = 4 from by kernel_rfl]; decide) opens_rec fuel cs x hx hw
  exact ⟨a, h1, by rw [show Try.prog.bytesOf 24 = 48 from by kernel_rfl] at h2; exact h2, h3⟩
end
end Go.Proofs.Yteklnhogokjkkaa.AE
