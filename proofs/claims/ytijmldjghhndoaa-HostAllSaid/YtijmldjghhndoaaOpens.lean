/- What came in, opened as a kind tells it: rows of rows, structs. -/
import Derived.Test.YtijmldjghhndoaaHelp
import Derived.Deep.Slices
import Derived.Deep.Strs
import Derived.SizedLaws
namespace Go.Proofs.Ytijmldjghhndoaa.Hy
open Go.RowKit Go.Proofs.YtijmldjghhndoaaW.PrintWords Go.Proofs.YtijmldjghhndoaaW.PrintLast Go.Proofs.YtijmldjghhndoaaW.PrintMore
open Go.ChangeShapes Go.WideShapes Go.Deep
set_option linter.unusedVariables false

section
variable {H : Type} (enc : TypeId × Value → H) (P : Program) (w : World) (base : Nat) (spare : Nat → Bool) (held : Bool)
/-- All that a type's cells tell is of this kind, if its weights are small. -/
def OpensK {α : Type} (t : TypeId) (d : Kd α) (Q : α → Prop) : Prop := ∀ (fuel : Nat) (cs : List Value) (x : DataW H × List MemPlace), DataW.trod enc P w base spare held fuel t cs = some x → (∀ n ∈ x.1.weights P t, n ≤ reachBytes) → ∃ a : α, d.K w a cs ∧ Q a
variable {enc P w base spare held}
theorem opens_int {t : TypeId} {k : IntKind} (ht : P.underlying t = some (.int k)) : OpensK enc P w base spare held t (Kd.int k) (fun n => (Lit.int k n).wf = true) := by
  intro fuel cs x h _
  obtain ⟨n, rfl, _, hw⟩ := DataW.trod_int ht h
  exact ⟨n, rfl, hw⟩
theorem opens_bool {t : TypeId} (ht : P.underlying t = some .bool) : OpensK enc P w base spare held t Kd.bool (fun _ => True) := by
  intro fuel cs x h _
  obtain ⟨b, rfl, _⟩ := DataW.trod_bool ht h
  exact ⟨b, rfl, trivial⟩
theorem weightsAll_mem {e : TypeId} : ∀ {l : List (DataW H)} {d : DataW H}, d ∈ l → ∀ n ∈ d.weights P e, n ∈ DataW.weightsAll P e l
  | d0 :: l, d, hd, n, hn => by
    simp only [DataW.weightsAll, List.mem_append]
    rcases List.mem_cons.1 hd with rfl | hd
    · exact .inl hn
    · exact .inr (weightsAll_mem hd n hn)
  | [], d, hd, _, _ => by cases hd
theorem opens_slice {α : Type} {t e : TypeId} {d : Kd α} {Q : α → Prop} (ht : P.underlying t = some (.slice e)) (hc : P.cellsOf e = d.sz) (he : OpensK enc P w base spare held e d Q) :
    OpensK enc P w base spare held t (Kd.slice e d) (fun xs => xs.length * P.bytesOf e ≤ reachBytes ∧ ∀ x ∈ xs, Q x) := by
  intro fuel cs x h hw
  rcases open_slice ht h with ⟨rfl, rfl⟩ | ⟨a, len, cap, m, n, D, Pl, rfl, hb, hl, hm, hmm, rfl, hx⟩
  · exact ⟨[], ⟨none, 0, rfl, Nat.le_refl _, Kd.C_nil _ _⟩, by simp, fun x hx => by cases hx⟩
  · have hlm : len ≤ m := by rw [hmm]; split <;> omega
    have hself : ((List.range len).map D).length + ((List.range (m - len)).map fun j => D (len + j)).length = m := by simp; omega
    have hw1 : m * P.bytesOf e ≤ reachBytes := by
      rw [← hself]
      exact hw _ (by simp [DataW.weights, ht])
    have hwi : ∀ i, i < len → ∀ k ∈ (D i).weights P e, k ≤ reachBytes := fun i hi k hk => hw k (by
      simp only [DataW.weights, ht, List.mem_cons, List.mem_append]
      exact .inr (.inl (weightsAll_mem (List.mem_map.2 ⟨i, List.mem_range.2 hi, rfl⟩) k hk)))
    have each : ∀ i : Fin len, ∃ (y : α) (c : List Value), w.cells? base (a.add (i * P.cellsOf e)) (P.cellsOf e) = some c ∧ d.K w y c ∧ Q y := fun i => by
      obtain ⟨c, h1, h2⟩ := hx i (Nat.lt_of_lt_of_le i.2 hlm)
      obtain ⟨y, h3, h4⟩ := he n c _ h2 (hwi i i.2)
      exact ⟨y, c, h1, h3, h4⟩
    refine ⟨List.ofFn fun i => (each i).choose, ⟨some a, cap, by simp, by simpa using hl, ⟨rfl, ?_, fun _ => ⟨a, rfl, fun j p hj => ?_⟩⟩⟩, ?_, fun x hx => ?_⟩
    · rw [List.length_ofFn]
      unfold maxLen at hm
      omega
    · have hj1 := (List.getElem?_eq_some_iff.1 hj).1
      have hj2 : j < len := by simpa using hj1
      have hp : (each ⟨j, hj2⟩).choose = p := by
        have := (List.getElem?_eq_some_iff.1 hj).2
        rw [List.getElem_ofFn] at this
        exact this
      obtain ⟨c, h1, h2, _⟩ := (each ⟨j, hj2⟩).choose_spec
      rw [hp] at h2
      obtain ⟨_, h4, h5⟩ := World.cells?_some h1
      refine ⟨c, by rw [h4, hc], h2, fun i u hu => ?_⟩
      have hi : i < P.cellsOf e := by rw [← h4]; exact (List.getElem?_eq_some_iff.1 hu).1
      have := h5 i hi
      rw [Deep.add_add, hu, hc] at this
      exact this
    · rw [List.length_ofFn]
      exact Nat.le_trans (Nat.mul_le_mul_right _ hlm) hw1
    · obtain ⟨i, hi⟩ := List.mem_ofFn.1 hx
      rw [← hi]
      exact (each i).choose_spec.choose_spec.2.2
end
end Go.Proofs.Ytijmldjghhndoaa.Hy
