/- Layer 1's arguments, opened. -/
import Derived.Test.YthkjahoebkicbaaO0
namespace Go.Proofs.Ythkjahoebkicbaa.AE
open Go Go.RowKit Go.Proofs
open Go.ChangeShapes Go.WideShapes Go.Deep
set_option linter.unusedVariables false
section
variable {H : Type} {enc : TypeId × Value → H} {w : World} {base : Nat} {spare : Nat → Bool} {held : Bool}
theorem opens_ints : OpensA enc Try.prog w base spare held 46 (fun l : List Int => [.sl (numB .i64 l)]) (fun l => l.length * 8 ≤ 140737488351232 ∧ ∀ x ∈ l, InR .i64 x) := by
  intro fuel cs x hx hw
  obtain ⟨a, h1, h2, h3⟩ := opensA_slice (F := fun n : Int => [.int .i64 n]) Try.underlying46 (by rw [show Try.prog.bytesOf 3 = 8 from by kernel_rfl]; decide) (by rw [show Try.prog.cellsOf 3 = 1 from by kernel_rfl]; decide) (opensA_int Try.underlying3) fuel cs x hx hw
  exact ⟨a, h1, by rw [show Try.prog.bytesOf 3 = 8 from by kernel_rfl] at h2; exact h2, h3⟩
theorem opens_u64s : OpensA enc Try.prog w base spare held 47 (fun l : List Int => [.sl (numB .u64 l)]) (fun l => l.length * 8 ≤ 140737488351232 ∧ ∀ x ∈ l, InR .u64 x) := by
  intro fuel cs x hx hw
  obtain ⟨a, h1, h2, h3⟩ := opensA_slice (F := fun n : Int => [.int .u64 n]) Try.underlying47 (by rw [show Try.prog.bytesOf 22 = 8 from by kernel_rfl]; decide) (by rw [show Try.prog.cellsOf 22 = 1 from by kernel_rfl]; decide) (opensA_int Try.underlying22) fuel cs x hx hw
  exact ⟨a, h1, by rw [show Try.prog.bytesOf 22 = 8 from by kernel_rfl] at h2; exact h2, h3⟩
end
end Go.Proofs.Ythkjahoebkicbaa.AE
