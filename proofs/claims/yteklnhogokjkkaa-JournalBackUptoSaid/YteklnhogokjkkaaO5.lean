/- Layer 15's arguments, opened. -/
import Derived.Test.YteklnhogokjkkaaO0
import Derived.Test.YteklnhogokjkkaaJ0
import Derived.Lib.SmallJoins
namespace Go.Proofs.Yteklnhogokjkkaa.AE
open Go Go.RowKit Go.Proofs
open Go.ChangeShapes Go.WideShapes Go.Deep
set_option linter.unusedVariables false
set_option maxRecDepth 100000
section
variable {H : Type} {enc : TypeId × Value → H} {w : World} {base : Nat} {spare : Nat → Bool} {held : Bool}
theorem opensA_struct4 {P : Program} {α β γ δ : Type} {t : TypeId} {f0 f1 f2 f3 : Field} {F : α → List AV} {G : β → List AV} {I : γ → List AV} {K : δ → List AV} {Q : α → Prop} {R : β → Prop} {S : γ → Prop} {T : δ → Prop} (ht : P.underlying t = some (.struct #[f0, f1, f2, f3])) (h0 : f0.offset = 0) (h1 : f1.offset = P.cellsOf f0.type) (h1' : f2.offset = P.cellsOf f0.type + P.cellsOf f1.type) (h1'' : f3.offset = P.cellsOf f0.type + P.cellsOf f1.type + P.cellsOf f2.type) (h2 : P.cellsOf t = P.cellsOf f0.type + P.cellsOf f1.type + P.cellsOf f2.type + P.cellsOf f3.type)
    (a0 : OpensA enc P w base spare held f0.type F Q) (a1 : OpensA enc P w base spare held f1.type G R) (a2 : OpensA enc P w base spare held f2.type I S) (a3 : OpensA enc P w base spare held f3.type K T) : OpensA enc P w base spare held t (fun p : α × β × γ × δ => F p.1 ++ (G p.2.1 ++ (I p.2.2.1 ++ K p.2.2.2))) (fun p => Q p.1 ∧ R p.2.1 ∧ S p.2.2.1 ∧ T p.2.2.2) := by
  intro fuel cs x h hw
  obtain ⟨y0, y1, y2, y3, n, rfl, hl, g0, g1, g2, g3⟩ := Go.Joins.trod_struct4 ht h
  have hw2 : ∀ (j : Nat) t' d, [f0.type, f1.type, f2.type, f3.type][j]? = some t' → [y0.1, y1.1, y2.1, y3.1][j]? = some d → ∀ n ∈ DataW.weights P t' d, n ≤ reachBytes := fun j t' d ht' hd n hn => hw n (by
    simp only [DataW.weights, ht]
    exact each_memA ht' hd n hn)
  obtain ⟨b0, k0, q0⟩ := a0 _ _ _ g0 (hw2 0 _ _ rfl rfl)
  obtain ⟨b1, k1, q1⟩ := a1 _ _ _ g1 (hw2 1 _ _ rfl rfl)
  obtain ⟨b2, k2, q2⟩ := a2 _ _ _ g2 (hw2 2 _ _ rfl rfl)
  obtain ⟨b3, k3, q3⟩ := a3 _ _ _ g3 (hw2 3 _ _ rfl rfl)
  refine ⟨(b0, b1, b2, b3), ?_, q0, q1, q2, q3⟩
  have e : cs = (cs.drop f0.offset).take (P.cellsOf f0.type) ++ ((cs.drop f1.offset).take (P.cellsOf f1.type) ++ ((cs.drop f2.offset).take (P.cellsOf f2.type) ++ (cs.drop f3.offset).take (P.cellsOf f3.type))) := by
    rw [h0, h1, h1', h1'', List.drop_zero, List.take_of_length_le (l := cs.drop (P.cellsOf f0.type + P.cellsOf f1.type + P.cellsOf f2.type)) (by simp; omega), show cs.drop (P.cellsOf f0.type + P.cellsOf f1.type + P.cellsOf f2.type) = (cs.drop (P.cellsOf f0.type + P.cellsOf f1.type)).drop (P.cellsOf f2.type) by rw [List.drop_drop], List.take_append_drop, show cs.drop (P.cellsOf f0.type + P.cellsOf f1.type) = (cs.drop (P.cellsOf f0.type)).drop (P.cellsOf f1.type) by rw [List.drop_drop], List.take_append_drop, List.take_append_drop]
  rw [e]
  exact k0.append (k1.append (k2.append k3))
theorem opens_octs : OpensA enc Try.prog w base spare held 25 (fun l : List Int => [.sl (numB .u8 l)]) (fun l => l.length ≤ 140737488351232) := by
  intro fuel cs x hx hw
  obtain ⟨a, h1, h2, _⟩ := opensA_slice (F := fun n : Int => [.int .u8 n]) Try.underlying25 (by rw [show Try.prog.bytesOf 5 = 1 from by kernel_rfl]; decide) (by rw [show Try.prog.cellsOf 5 = 1 from by kernel_rfl]; decide) (opensA_int Try.underlying5) fuel cs x hx hw
  exact ⟨a, h1, by rw [show Try.prog.bytesOf 5 = 1 from by kernel_rfl, Nat.mul_one] at h2; exact h2⟩
theorem opens_page : OpensA enc Try.prog w base spare held 58 (fun p : Pg => [.int .i64 p.1, .sl (numB .u8 p.2)]) (fun p => p.2.length ≤ 140737488351232) := by
  intro fuel cs x hx hw
  obtain ⟨a, h1, _, h2⟩ := opensA_struct2 (F := fun n : Int => [.int .i64 n]) (G := fun l : List Int => [.sl (numB .u8 l)]) Try.underlying58 rfl (by kernel_rfl) (by kernel_rfl) (opensA_int Try.underlying3) opens_octs fuel cs x hx hw
  exact ⟨a, h1, h2⟩
theorem opens_pages : OpensA enc Try.prog w base spare held 22 (fun l : List Pg => [.sl (pagesB l)]) (fun l => l.length * 32 ≤ 140737488351232 ∧ ∀ p ∈ l, p.2.length ≤ 140737488351232) := by
  intro fuel cs x hx hw
  obtain ⟨a, h1, h2, h3⟩ := opensA_slice (F := fun p : Pg => [.int .i64 p.1, .sl (numB .u8 p.2)]) Try.underlying22 (by rw [show Try.prog.bytesOf 58 = 32 from by kernel_rfl]; decide) (by rw [show Try.prog.cellsOf 58 = 2 from by kernel_rfl]; decide) opens_page fuel cs x hx hw
  exact ⟨a, h1, by rw [show Try.prog.bytesOf 58 = 32 from by kernel_rfl] at h2; exact h2, h3⟩
def okSz (r : Rec) : Prop := r.pages.length * 32 ≤ 140737488351232 ∧ ∀ p ∈ r.pages, p.2.length ≤ 140737488351232
theorem opens_rec : OpensA enc Try.prog w base spare held 24 (fun r : Rec => [.int .i64 r.q, .int .i64 r.root, .int .i64 r.room, .sl (pagesB r.pages)]) okSz := by
  intro fuel cs x hx hw
  obtain ⟨⟨a, b, c, d⟩, h1, _, _, _, h2⟩ := opensA_struct4 (F := fun n : Int => [.int .i64 n]) (G := fun n : Int => [.int .i64 n]) (I := fun n : Int => [.int .i64 n]) (K := fun l : List Pg => [.sl (pagesB l)]) Try.underlying24 rfl (by kernel_rfl) (by kernel_rfl) (by kernel_rfl) (by kernel_rfl) (opensA_int Try.underlying3) (opensA_int Try.underlying3) (opensA_int Try.underlying3) opens_pages fuel cs x hx hw
  exact ⟨⟨a, b, c, d⟩, h1, h2⟩
end
end Go.Proofs.Yteklnhogokjkkaa.AE
