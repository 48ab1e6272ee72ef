/- Layer 7's arguments, opened. -/
import Derived.Test.YtcnofpoffdjbpaaO0
import Derived.Test.YtcnofpoffdjbpaaN0
namespace Go.Proofs.Ytcnofpoffdjbpaa.AE
open Go Go.RowKit Go.Proofs
open Go.ChangeShapes Go.WideShapes Go.Deep
set_option linter.unusedVariables false
section
variable {H : Type} {enc : TypeId × Value → H} {w : World} {base : Nat} {spare : Nat → Bool} {held : Bool}
theorem opens_octs : OpensA enc Try.prog w base spare held 27 (fun l : List Int => [.sl (numB .u8 l)]) (fun l => l.length ≤ 140737488351232) := by
  intro fuel cs x hx hw
  obtain ⟨a, h1, h2, _⟩ := opensA_slice (F := fun n : Int => [.int .u8 n]) Try.underlying27 (by rw [show Try.prog.bytesOf 5 = 1 from by kernel_rfl]; decide) (by rw [show Try.prog.cellsOf 5 = 1 from by kernel_rfl]; decide) (opensA_int Try.underlying5) fuel cs x hx hw
  exact ⟨a, h1, by rw [show Try.prog.bytesOf 5 = 1 from by kernel_rfl, Nat.mul_one] at h2; exact h2⟩
theorem opens_ints : OpensA enc Try.prog w base spare held 23 (fun l : List Int => [.sl (numB .i64 l)]) (fun l => l.length * 8 ≤ 140737488351232) := by
  intro fuel cs x hx hw
  obtain ⟨a, h1, h2, _⟩ := opensA_slice (F := fun n : Int => [.int .i64 n]) Try.underlying23 (by rw [show Try.prog.bytesOf 3 = 8 from by kernel_rfl]; decide) (by rw [show Try.prog.cellsOf 3 = 1 from by kernel_rfl]; decide) (opensA_int Try.underlying3) fuel cs x hx hw
  exact ⟨a, h1, by rw [show Try.prog.bytesOf 3 = 8 from by kernel_rfl] at h2; exact h2⟩
theorem opens_item : OpensA enc Try.prog w base spare held 42 (fun x : Int × Int => [.int .u64 x.1, .int .u64 x.2]) (fun x => InR .u64 x.1 ∧ InR .u64 x.2) :=
  opensA_struct2 (F := fun n : Int => [.int .u64 n]) (G := fun n : Int => [.int .u64 n]) Try.underlying42 rfl (by kernel_rfl) (by kernel_rfl) (opensA_int Try.underlying37) (opensA_int Try.underlying37)
theorem opens_items : OpensA enc Try.prog w base spare held 22 (fun l : List (Int × Int) => [.sl (itemB l)]) (fun l => l.length * 16 ≤ 140737488351232) := by
  intro fuel cs x hx hw
  obtain ⟨a, h1, h2, _⟩ := opensA_slice (F := fun x : Int × Int => [.int .u64 x.1, .int .u64 x.2]) Try.underlying22 (by rw [show Try.prog.bytesOf 42 = 16 from by kernel_rfl]; decide) (by rw [show Try.prog.cellsOf 42 = 2 from by kernel_rfl]; decide) opens_item fuel cs x hx hw
  exact ⟨a, h1, by rw [show Try.prog.bytesOf 42 = 16 from by kernel_rfl] at h2; exact h2⟩
theorem opens_node : OpensA enc Try.prog w base spare held 25 (fun p : List (Int × Int) × List Int => [.sl (itemB p.1), .sl (numB .i64 p.2)]) (fun p => p.1.length * 16 ≤ 140737488351232 ∧ p.2.length * 8 ≤ 140737488351232) :=
  opensA_struct2 (F := fun l : List (Int × Int) => [.sl (itemB l)]) (G := fun l : List Int => [.sl (numB .i64 l)]) Try.underlying25 rfl (by kernel_rfl) (by kernel_rfl) opens_items opens_ints
end
end Go.Proofs.Ytcnofpoffdjbpaa.AE
