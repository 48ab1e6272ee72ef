/- Layer 4's arguments, opened. -/
import Derived.Test.YtnlanfcboiemaaaDoorO0
import Derived.Test.YtnlanfcboiemaaaDoorS4
namespace Go.Proofs.YtnlanfcboiemaaaDoor.AE
open Go Go.RowKit Go.Proofs
open Go.ChangeShapes Go.WideShapes Go.Deep
set_option linter.unusedVariables false
set_option maxRecDepth 100000
section
variable {H : Type} {enc : TypeId × Value → H} {w : World} {base : Nat} {spare : Nat → Bool} {held : Bool}
theorem opens_octs : OpensA enc Tryd.prog w base spare held 31 (fun l : List Int => [.sl (numB .u8 l)]) (fun l => l.length ≤ 140737488351232) := by
  intro fuel cs x hx hw
  obtain ⟨a, h1, h2, _⟩ := opensA_slice (F := fun n : Int => [.int .u8 n]) Tryd.underlying31 (by rw [show Tryd.prog.bytesOf 5 = 1 from by kernel_rfl]; decide) (by rw [show Tryd.prog.cellsOf 5 = 1 from by kernel_rfl]; decide) (opensA_int Tryd.underlying5) fuel cs x hx hw
  exact ⟨a, h1, by rw [show Tryd.prog.bytesOf 5 = 1 from by kernel_rfl, Nat.mul_one] at h2; exact h2⟩
theorem opens_sup : OpensA enc Tryd.prog w base spare held 23 Sup.cells (fun _ => True) := by
  intro fuel cs x h hw
  obtain ⟨xs, n, _, rfl, hl, hlen, hf⟩ := DataW.trod_struct Tryd.underlying23 h
  have cz : Tryd.prog.cellsOf 3 = 1 := by kernel_rfl
  have cz7 : Tryd.prog.cellsOf 23 = 7 := by kernel_rfl
  rw [cz7] at hl
  have one : ∀ (j : Nat) y, DataW.trod enc Tryd.prog w base spare held n 3 ((cs.drop j).take (Tryd.prog.cellsOf 3)) = some y → ∃ m : Int, cs[j]? = some (.int .i64 m) ∧ InR .i64 m := fun j y hy => by
    rw [cz] at hy
    obtain ⟨m, e1, _, e3⟩ := DataW.trod_int Tryd.underlying3 hy
    refine ⟨m, ?_, by simpa [Lit.wf, InR] using e3⟩
    have h0 : ((cs.drop j).take 1)[0]? = some (Value.int .i64 m) := by rw [e1]; rfl
    rw [List.getElem?_take, if_pos (by decide), List.getElem?_drop] at h0
    simpa using h0
  have hlen7 : xs.length = 7 := hlen
  match xs, hlen7 with
  | [y0, y1, y2, y3, y4, y5, y6], _ =>
    obtain ⟨m0, a0, b0⟩ := one 0 y0 (hf 0 _ rfl)
    obtain ⟨m1, a1, b1⟩ := one 1 y1 (hf 1 _ rfl)
    obtain ⟨m2, a2, b2⟩ := one 2 y2 (hf 2 _ rfl)
    obtain ⟨m3, a3, b3⟩ := one 3 y3 (hf 3 _ rfl)
    obtain ⟨m4, a4, b4⟩ := one 4 y4 (hf 4 _ rfl)
    obtain ⟨m5, a5, b5⟩ := one 5 y5 (hf 5 _ rfl)
    obtain ⟨m6, a6, b6⟩ := one 6 y6 (hf 6 _ rfl)
    have ecs : cs = [.int .i64 m0, .int .i64 m1, .int .i64 m2, .int .i64 m3, .int .i64 m4, .int .i64 m5, .int .i64 m6] := by
      apply List.ext_getElem?
      intro i
      match i with
      | 0 => exact a0
      | 1 => exact a1
      | 2 => exact a2
      | 3 => exact a3
      | 4 => exact a4
      | 5 => exact a5
      | 6 => exact a6
      | i + 7 => rw [List.getElem?_eq_none (by omega), List.getElem?_eq_none (by simp)]
    refine ⟨⟨m0, m1, m2, m3, m4, m5, m6⟩, ?_, trivial⟩
    rw [ecs]
    exact ⟨.cons (.int _ _ b0) (.cons (.int _ _ b1) (.cons (.int _ _ b2) (.cons (.int _ _ b3) (.cons (.int _ _ b4) (.cons (.int _ _ b5) (.cons (.int _ _ b6) .nil)))))), by simp [Sup.cells, AV.one], by simp [Value.oneCell']⟩
end
end Go.Proofs.YtnlanfcboiemaaaDoor.AE
