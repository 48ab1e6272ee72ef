/- Texts O8. -/
import Derived.Test.YtjidgdfdeckofaaDoorO0
import Derived.Test.YtjidgdfdeckofaaDoorV15
/- Layer 16's arguments, opened: a host. -/
namespace Go.Proofs.YtjidgdfdeckofaaDoor.AE
open Go Go.RowKit Go.Proofs
open Go.ChangeShapes Go.WideShapes Go.Deep
set_option linter.unusedVariables false
section
variable {H : Type} {enc : TypeId × Value → H} {w : World} {base : Nat} {spare : Nat → Bool} {held : Bool}
theorem opens_octs : OpensA enc Tryd.prog w base spare held 40 (fun l : List Int => [.sl (numB .u8 l)]) (fun l => l.length ≤ 140737488351232) := by
  intro fuel cs x hx hw
  obtain ⟨a, h1, h2, _⟩ := opensA_slice (F := fun n : Int => [.int .u8 n]) Tryd.underlying40 (by rw [show Tryd.prog.bytesOf 5 = 1 from by kernel_rfl]; decide) (by rw [show Tryd.prog.cellsOf 5 = 1 from by kernel_rfl]; decide) (opensA_int Tryd.underlying5) fuel cs x hx hw
  exact ⟨a, h1, by rw [show Tryd.prog.bytesOf 5 = 1 from by kernel_rfl, Nat.mul_one] at h2; exact h2⟩
theorem opens_secs : OpensA enc Tryd.prog w base spare held 22 (fun S : List (List Int) => [.sl (secB S)]) (fun S => S.length * 24 ≤ 140737488351232 ∧ ∀ s ∈ S, s.length ≤ 140737488351232) := by
  intro fuel cs x hx hw
  obtain ⟨a, h1, h2, h3⟩ := opensA_slice (F := fun l : List Int => [.sl (numB .u8 l)]) Tryd.underlying22 (by rw [show Tryd.prog.bytesOf 40 = 24 from by kernel_rfl]; decide) (by rw [show Tryd.prog.cellsOf 40 = 1 from by kernel_rfl]; decide) opens_octs fuel cs x hx hw
  exact ⟨a, h1, by rw [show Tryd.prog.bytesOf 40 = 24 from by kernel_rfl] at h2; exact h2, h3⟩
theorem opens_act : OpensA enc Tryd.prog w base spare held 57 actB (fun a => InR .i64 a.1 ∧ InR .i64 a.2.1 ∧ a.2.2.length ≤ 140737488351232) :=
  opensA_struct3 (F := fun n : Int => [.int .i64 n]) (G := fun n : Int => [.int .i64 n]) (I := fun l : List Int => [.sl (numB .u8 l)]) Tryd.underlying57 rfl (by kernel_rfl) (by kernel_rfl) (by kernel_rfl) (opensA_int Tryd.underlying3) (opensA_int Tryd.underlying3) opens_octs
theorem opens_acts : OpensA enc Tryd.prog w base spare held 23 (fun W : List Act3 => [.sl (actsB W)]) (fun W => W.length * 40 ≤ 140737488351232 ∧ ∀ a ∈ W, a.2.2.length ≤ 140737488351232) := by
  intro fuel cs x hx hw
  obtain ⟨a, h1, h2, h3⟩ := opensA_slice (F := actB) Tryd.underlying23 (by rw [show Tryd.prog.bytesOf 57 = 40 from by kernel_rfl]; decide) (by rw [show Tryd.prog.cellsOf 57 = 3 from by kernel_rfl]; decide) opens_act fuel cs x hx hw
  exact ⟨a, h1, by rw [show Tryd.prog.bytesOf 57 = 40 from by kernel_rfl] at h2; exact h2, fun b hb => (h3 b hb).2.2⟩
theorem opens_host : OpensA enc Tryd.prog w base spare held 25 (fun p : List (List Int) × List Act3 × Int => [.sl (secB p.1), .sl (actsB p.2.1), .int .i64 p.2.2]) (fun p => True) := by
  intro fuel cs x hx hw
  obtain ⟨a, h1, _⟩ := opensA_struct3 (F := fun S : List (List Int) => [.sl (secB S)]) (G := fun W : List Act3 => [.sl (actsB W)]) (I := fun n : Int => [.int .i64 n]) Tryd.underlying25 rfl (by kernel_rfl) (by kernel_rfl) (by kernel_rfl) opens_secs opens_acts (opensA_int Tryd.underlying3) fuel cs x hx hw
  exact ⟨a, h1, trivial⟩
end
end Go.Proofs.YtjidgdfdeckofaaDoor.AE
