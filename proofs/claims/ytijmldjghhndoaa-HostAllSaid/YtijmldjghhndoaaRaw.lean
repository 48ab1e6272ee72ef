/- Cells as they stand: what a shallow copy keeps. -/
import Derived.Test.YtijmldjghhndoaaNest
import Derived.WalkSpells
namespace Go.Proofs.Ytijmldjghhndoaa.Hy
open Go.RowKit Go.Proofs.YtijmldjghhndoaaW.PrintWords Go.Proofs.YtijmldjghhndoaaW.PrintLast Go.Proofs.YtijmldjghhndoaaW.PrintMore
set_option linter.unusedVariables false

/-- A row that is read, as its cells. -/
theorem C_raw {α : Type} {d : Kd α} {w : World} {A : Option Addr} {n : Nat} {xs : List α} (h : d.C w A n xs) :
    ∃ ls : List (List Value), ls.length = xs.length ∧ (Kd.raw d.sz).C w A n ls ∧ ∀ (j : Nat) x, xs[j]? = some x → ∃ cs, ls[j]? = some cs ∧ cs.length = d.sz ∧ d.K w x cs := by
  obtain ⟨hl, hm, hc⟩ := h
  rcases Nat.eq_zero_or_pos n with h0 | h0
  · refine ⟨[], ?_, ⟨?_, hm, fun hp => by omega⟩, fun j x hx => ?_⟩
    · simp; omega
    · simp; omega
    · have := (List.getElem?_eq_some_iff.1 hx).1
      omega
  · obtain ⟨ad, rfl, hcell⟩ := hc h0
    have each : ∀ j : Fin xs.length, ∃ c : List Value, c.length = d.sz ∧ d.K w xs[j] c ∧ ∀ i u, c[i]? = some u → w.cell? (ad.add (j * d.sz + i)) = some u := fun j => hcell j _ (List.getElem?_eq_getElem j.2)
    refine ⟨List.ofFn fun j => (each j).choose, by simp, ⟨by simp [hl], hm, fun _ => ⟨ad, rfl, fun j p hj => ?_⟩⟩, fun j x hx => ?_⟩
    · have hlt := (List.getElem?_eq_some_iff.1 hj).1
      have hlt' : j < xs.length := by simpa using hlt
      have hp : p = (each ⟨j, hlt'⟩).choose := by
        have := (List.getElem?_eq_some_iff.1 hj).2
        rw [List.getElem_ofFn] at this
        exact this.symm
      have hs := (each ⟨j, hlt'⟩).choose_spec
      rw [← hp] at hs
      exact ⟨p, hs.1, ⟨rfl, hs.1, d.K_one hs.2.1⟩, hs.2.2⟩
    · have hlt := (List.getElem?_eq_some_iff.1 hx).1
      have hxe : xs[j] = x := (List.getElem?_eq_some_iff.1 hx).2
      refine ⟨(each ⟨j, hlt⟩).choose, ?_, (each ⟨j, hlt⟩).choose_spec.1, ?_⟩
      · rw [List.getElem?_eq_getElem (by simpa using hlt), List.getElem_ofFn]
      · have := (each ⟨j, hlt⟩).choose_spec.2.1
        simp only [Fin.getElem_fin] at this
        rw [← hxe]
        exact this
/-- A row of cells of one's own. -/
theorem raw_own {sz e base : Nat} {w : World} {ok : Nat → Prop} {v : Value} {ls : List (List Value)} (h : (Kd.raw sz).R e w base ok v ls) : w.ownsRow base e sz v ls.length ls.flatten ∧ ∀ cs ∈ ls, cs.length = sz := by
  obtain ⟨_, inner, ho, hl, hr⟩ := h
  have key : ∀ (ls : List (List Value)) (inner : List Value), inner.length = ls.length * sz → (∀ (j : Nat) p, ls[j]? = some p → (inner.drop (j * sz)).take sz = p ∧ ((inner.drop (j * sz)).take sz).length = sz) → inner = ls.flatten ∧ ∀ cs ∈ ls, cs.length = sz := by
    intro ls
    induction ls with
    | nil =>
      intro inner hl _
      simp at hl
      exact ⟨by simp [hl], fun cs h => by cases h⟩
    | cons p ls ih =>
      intro inner hl h
      have h0 := h 0 p rfl
      simp only [Nat.zero_mul, List.drop_zero] at h0
      have h1 := ih (inner.drop sz) (by rw [List.length_drop, hl, List.length_cons, Nat.add_mul]; omega) (fun j q hq => by
        have := h (j + 1) q (by simpa using hq)
        rw [List.drop_drop]
        rwa [show sz + j * sz = (j + 1) * sz by rw [Nat.add_mul]; omega])
      refine ⟨?_, fun cs hc => ?_⟩
      · rw [List.flatten_cons, ← h1.1, ← h0.1, List.take_append_drop]
      · rcases List.mem_cons.1 hc with rfl | hc
        · rw [← h0.1]; exact h0.2
        · exact h1.2 cs hc
  obtain ⟨h1, h2⟩ := key ls inner hl (fun j p hj => ⟨(hr j p hj).1, (hr j p hj).2.1⟩)
  rw [← h1]
  exact ⟨ho, h2⟩
end Go.Proofs.Ytijmldjghhndoaa.Hy
