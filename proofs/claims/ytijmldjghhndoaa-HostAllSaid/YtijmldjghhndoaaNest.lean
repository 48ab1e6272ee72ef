/- Rows of rows of the call's own, told by their cells. -/
import Derived.Test.YtijmldjghhndoaaHelp
namespace Go.Proofs.Ytijmldjghhndoaa.Hy
open Go.RowKit Go.Proofs.YtijmldjghhndoaaW.PrintWords Go.Proofs.YtijmldjghhndoaaW.PrintLast Go.Proofs.YtijmldjghhndoaaW.PrintMore
set_option linter.unusedVariables false

/-- Cells that are rows of the call's own, each in a block of its own. -/
structure Nest {α : Type} (d : Kd α) (e : Nat) (w : World) (base : Nat) (vs : List Value) (xs : List (List α)) : Prop where
  len : vs.length = xs.length
  row : ∀ (j : Nat) v x, vs[j]? = some v → xs[j]? = some x → d.R e w base (fun k => some k = v.ownBlock) v x
  apart : ∀ (i j : Nat) u v k, vs[i]? = some u → vs[j]? = some v → u.ownBlock = some k → v.ownBlock = some k → i = j
/-- Three cells of a block of three are written. -/
theorem set3 {W : World} {g t : Nat} {x0 x1 x2 : Value} (h : W.heap[g]? = some (.cells #[x0, x1, x2] t (0, 0))) (u0 u1 u2 : Value) :
    ∃ W3, W3 = ((W.setCell ⟨g, 0, none⟩ u0).setCell ⟨g, 1, none⟩ u1).setCell ⟨g, 2, none⟩ u2 ∧ W3.heap[g]? = some (.cells #[u0, u1, u2] t (0, 0)) ∧ W3.cell? ⟨g, 0, none⟩ = some u0 ∧ W3.cell? ⟨g, 1, none⟩ = some u1 ∧ W3.cell? ⟨g, 2, none⟩ = some u2 ∧ (∀ k, k ≠ g → W3.heap[k]? = W.heap[k]?) ∧
      (∀ w : World, Below w.heap.size w W → w.heap.size ≤ g → Below w.heap.size w W3) := by
  have h1 := hb_set h 0 u0
  have h2 := hb_set h1 1 u1
  have h3 := hb_set h2 2 u2
  refine ⟨_, rfl, by simpa using h3, by simpa using hb_cell h3 0, by simpa using hb_cell h3 1, by simpa using hb_cell h3 2, fun k hk => ?_, fun w hb hg => below_set (below_set (below_set hb hg) hg) hg⟩
  rw [Below.heap_setCell _ _ _ _ hk, Below.heap_setCell _ _ _ _ hk, Below.heap_setCell _ _ _ _ hk]
namespace Nest
variable {α : Type} {d : Kd α} {e e' base : Nat} {w w1 : World} {vs us : List Value} {xs ys : List (List α)}
theorem nil (d : Kd α) (e : Nat) (w : World) (base : Nat) : Nest d e w base [] [] := ⟨rfl, fun j v x h => by simp at h, fun i j u v k h => by simp at h⟩
/-- What its blocks are. -/
theorem lt (h : Nest d e w base vs xs) {v : Value} (hv : v ∈ vs) {k : Nat} (hk : v.ownBlock = some k) : base ≤ k ∧ k < w.heap.size ∧ ∃ cells, w.heap[k]? = some (.cells cells e (0, 0)) := by
  obtain ⟨j, hj⟩ := List.mem_iff_getElem?.1 hv
  have hl : j < xs.length := by rw [← h.len]; exact (List.getElem?_eq_some_iff.1 hj).1
  have hR := h.row j v _ hj (List.getElem?_eq_getElem hl)
  exact ⟨Kd.R_base hR k hk, Kd.R_lt hR k hk, Kd.R_typed hR k hk⟩
theorem step (h : Nest d e w base vs xs) (hm : ∀ v ∈ vs, ∀ k, v.ownBlock = some k → w1.heap[k]? = w.heap[k]?) : Nest d e w1 base vs xs :=
  ⟨h.len, fun j v x hv hx => Kd.R_move (h.row j v x hv hx) (fun k hk => hm v (List.mem_of_getElem? hv) k hk.symm), h.apart⟩
theorem below (h : Nest d e w base vs xs) (hb : Below w.heap.size w w1) : Nest d e w1 base vs xs :=
  h.step fun v hv k hk => hb.block k (h.lt hv hk).2.1
theorem grown (h : Nest d e w base vs xs) {row : Option Nat} (hg : w.grownBy w1 row) (hne : ∀ v ∈ vs, ∀ k, v.ownBlock = some k → some k ≠ row) : Nest d e w1 base vs xs :=
  h.step fun v hv k hk => hg.block k (h.lt hv hk).2.1 (hne v hv k hk)
/-- Another block, of another type, has been written. -/
theorem set (h : Nest d e w base vs xs) {g t : Nat} {cells : Array Value} (hg : w.heap[g]? = some (.cells cells t (0, 0))) (ht : e ≠ t) (j : Nat) (u : Value) : Nest d e (w.setCell ⟨g, j, none⟩ u) base vs xs :=
  h.step fun v hv k hk => Below.heap_setCell w ⟨g, j, none⟩ u k (by
    rintro rfl
    obtain ⟨_, _, cs, hc⟩ := h.lt hv hk
    rw [hc] at hg
    simp at hg
    exact ht hg.2)
theorem typed (h : Nest d e w base vs xs) {g t : Nat} {cells : Array Value} (hg : w.heap[g]? = some (.cells cells t (0, 0))) (ht : e ≠ t) {v : Value} (hv : v ∈ vs) {k : Nat} (hk : v.ownBlock = some k) : k ≠ g := by
  rintro rfl
  obtain ⟨_, _, cs, hc⟩ := h.lt hv hk
  rw [hc] at hg
  simp at hg
  exact ht hg.2
theorem snoc (h : Nest d e w base vs xs) {v : Value} {x : List α} {ok : Nat → Prop} (hE : d.E = []) (hR : d.R e w base ok v x) (hne : ∀ u ∈ vs, ∀ k, u.ownBlock = some k → v.ownBlock ≠ some k) : Nest d e w base (vs ++ [v]) (xs ++ [x]) := by
  refine ⟨by simp [h.len], fun j u y hu hy => ?_, fun i j u y k hu hy hk hk' => ?_⟩
  · rcases Nat.lt_or_ge j vs.length with hj | hj
    · rw [List.getElem?_append_left hj] at hu
      rw [List.getElem?_append_left (by rw [← h.len]; exact hj)] at hy
      exact h.row j u y hu hy
    · rw [List.getElem?_append_right hj] at hu
      rw [List.getElem?_append_right (by rw [← h.len]; exact hj), ← h.len] at hy
      have hj0 : j - vs.length = 0 := by
        have := (List.getElem?_eq_some_iff.1 hu).1
        simp at this
        omega
      rw [hj0] at hu hy
      simp at hu hy
      subst hu hy
      exact Kd.R_tight hE hR
  · have key : ∀ (i : Nat) u, (vs ++ [v])[i]? = some u → (i < vs.length ∧ vs[i]? = some u) ∨ (i = vs.length ∧ u = v) := by
      intro i u hu
      rcases Nat.lt_or_ge i vs.length with hj | hj
      · rw [List.getElem?_append_left hj] at hu
        exact .inl ⟨hj, hu⟩
      · rw [List.getElem?_append_right hj] at hu
        have hj0 : i - vs.length = 0 := by
          have := (List.getElem?_eq_some_iff.1 hu).1
          simp at this
          omega
        rw [hj0] at hu
        simp at hu
        exact .inr ⟨by omega, hu.symm⟩
    rcases key i u hu with ⟨h1, h2⟩ | ⟨h1, h2⟩ <;> rcases key j y hy with ⟨h3, h4⟩ | ⟨h3, h4⟩
    · exact h.apart i j u y k h2 h4 hk hk'
    · subst h4
      exact absurd hk' (hne u (List.mem_of_getElem? h2) k hk)
    · subst h2
      exact absurd hk (hne y (List.mem_of_getElem? h4) k hk')
    · omega
/-- A part of it. -/
theorem sub (h : Nest d e w base vs xs) (n m : Nat) : Nest d e w base ((vs.drop n).take m) ((xs.drop n).take m) := by
  have get : ∀ {β : Type} (l : List β) (j : Nat) b, ((l.drop n).take m)[j]? = some b → l[n + j]? = some b := by
    intro β l j b hb
    rw [List.getElem?_take] at hb
    split at hb
    · rwa [List.getElem?_drop] at hb
    · cases hb
  refine ⟨by simp [h.len], fun j v x hv hx => h.row _ v x (get _ _ _ hv) (get _ _ _ hx), fun i j u v k hu hv hk hk' => ?_⟩
  have := h.apart _ _ u v k (get _ _ _ hu) (get _ _ _ hv) hk hk'
  omega
theorem take (h : Nest d e w base vs xs) (m : Nat) : Nest d e w base (vs.take m) (xs.take m) := by simpa using h.sub 0 m
theorem drop (h : Nest d e w base vs xs) (n : Nat) : Nest d e w base (vs.drop n) (xs.drop n) := by
  have := h.sub n (vs.length)
  rwa [List.take_of_length_le (by simp), List.take_of_length_le (by rw [h.len]; simp)] at this
theorem left (h : Nest d e w base (vs ++ us) (xs ++ ys)) (hl : vs.length = xs.length) : Nest d e w base vs xs := by
  have := h.take vs.length
  rwa [List.take_left', hl, List.take_left'] at this <;> rfl
theorem right (h : Nest d e w base (vs ++ us) (xs ++ ys)) (hl : vs.length = xs.length) : Nest d e w base us ys := by
  have := h.drop vs.length
  rwa [List.drop_left', hl, List.drop_left'] at this <;> rfl
theorem across (h : Nest d e w base (vs ++ us) (xs ++ ys)) {u v : Value} (hu : u ∈ vs) (hv : v ∈ us) {k : Nat} (hk : u.ownBlock = some k) : v.ownBlock ≠ some k := by
  intro hk'
  obtain ⟨i, hi⟩ := List.mem_iff_getElem?.1 hu
  obtain ⟨j, hj⟩ := List.mem_iff_getElem?.1 hv
  have hl := (List.getElem?_eq_some_iff.1 hi).1
  have := h.apart i (vs.length + j) u v k (by rw [List.getElem?_append_left hl]; exact hi) (by rw [List.getElem?_append_right (by omega), Nat.add_sub_cancel_left]; exact hj) hk hk'
  omega
theorem join (h : Nest d e w base vs xs) (h' : Nest d e w base us ys) (hne : ∀ u ∈ vs, ∀ v ∈ us, ∀ k, u.ownBlock = some k → v.ownBlock ≠ some k) : Nest d e w base (vs ++ us) (xs ++ ys) := by
  have key : ∀ (i : Nat) u, (vs ++ us)[i]? = some u → (i < vs.length ∧ vs[i]? = some u) ∨ (vs.length ≤ i ∧ us[i - vs.length]? = some u) := by
    intro i u hu
    rcases Nat.lt_or_ge i vs.length with hj | hj
    · rw [List.getElem?_append_left hj] at hu
      exact .inl ⟨hj, hu⟩
    · rw [List.getElem?_append_right hj] at hu
      exact .inr ⟨hj, hu⟩
  refine ⟨by simp [h.len, h'.len], fun j u y hu hy => ?_, fun i j u y k hu hy hk hk' => ?_⟩
  · rcases key j u hu with ⟨h1, h2⟩ | ⟨h1, h2⟩
    · rw [List.getElem?_append_left (by rw [← h.len]; exact h1)] at hy
      exact h.row j u y h2 hy
    · rw [List.getElem?_append_right (by rw [← h.len]; exact h1), ← h.len] at hy
      exact h'.row _ u y h2 hy
  · rcases key i u hu with ⟨h1, h2⟩ | ⟨h1, h2⟩ <;> rcases key j y hy with ⟨h3, h4⟩ | ⟨h3, h4⟩
    · exact h.apart i j u y k h2 h4 hk hk'
    · exact absurd hk' (hne u (List.mem_of_getElem? h2) y (List.mem_of_getElem? h4) k hk)
    · exact absurd hk (hne y (List.mem_of_getElem? h4) u (List.mem_of_getElem? h2) k hk')
    · have := h'.apart _ _ u y k h2 h4 hk hk'
      omega
/-- One cell is another row. -/
theorem put (h : Nest d e w base vs xs) {v : Value} {x : List α} {ok : Nat → Prop} {i : Nat} (hE : d.E = []) (hR : d.R e w base ok v x) (hne : ∀ (j : Nat) u, j ≠ i → vs[j]? = some u → ∀ k, u.ownBlock = some k → v.ownBlock ≠ some k) : Nest d e w base (vs.set i v) (xs.set i x) := by
  have key : ∀ (j : Nat) u, (vs.set i v)[j]? = some u → (j = i ∧ u = v) ∨ (j ≠ i ∧ vs[j]? = some u) := by
    intro j u hu
    by_cases hj : i = j
    · subst hj
      rw [List.getElem?_set_self'] at hu
      rcases hq : vs[i]? with _ | q
      · rw [hq] at hu
        simp at hu
      · rw [hq] at hu
        simp at hu
        exact .inl ⟨rfl, hu.symm⟩
    · rw [List.getElem?_set_ne hj] at hu
      exact .inr ⟨fun h => hj h.symm, hu⟩
  refine ⟨by simp [h.len], fun j u y hu hy => ?_, fun a b u y k hu hy hk hk' => ?_⟩
  · rcases key j u hu with ⟨h1, h2⟩ | ⟨h1, h2⟩
    · subst h1 h2
      rw [List.getElem?_set_self'] at hy
      rcases hq : xs[j]? with _ | q
      · rw [hq] at hy
        simp at hy
      · rw [hq] at hy
        simp at hy
        subst hy
        exact Kd.R_tight hE hR
    · rw [List.getElem?_set_ne (fun h => h1 h.symm)] at hy
      exact h.row j u y h2 hy
  · rcases key a u hu with ⟨h1, h2⟩ | ⟨h1, h2⟩ <;> rcases key b y hy with ⟨h3, h4⟩ | ⟨h3, h4⟩
    · omega
    · subst h2
      exact absurd hk (hne b y h3 h4 k hk')
    · subst h4
      exact absurd hk' (hne a u h1 h2 k hk)
    · exact h.apart a b u y k h2 h4 hk hk'
/-- The first row of what waits takes a place ahead. -/
theorem swap {u0 : Value} {x : List α} (h : Nest d e w base (vs ++ u0 :: us) (xs ++ x :: ys)) (hl : vs.length = xs.length) (hE : d.E = []) (i : Nat) : Nest d e w base (vs.set i u0 ++ us) (xs.set i x ++ ys) := by
  have h1 := h.left hl
  have h2 := h.right hl
  have hR := h2.row 0 u0 x rfl rfl
  have h3 : Nest d e w base us ys := by simpa using h2.drop 1
  refine join (h1.put hE hR fun j u _ hu k hk => h.across (List.mem_of_getElem? hu) List.mem_cons_self hk) h3 fun u hu v hv k hk => ?_
  rcases List.mem_or_eq_of_mem_set hu with hu | rfl
  · exact h.across hu (List.mem_cons_of_mem _ hv) hk
  · intro hk'
    obtain ⟨j, hj⟩ := List.mem_iff_getElem?.1 hv
    have := h2.apart 0 (j + 1) u v k rfl (by simpa using hj) hk hk'
    omega
/-- What waited first is gone. -/
theorem skip {u0 : Value} {x : List α} (h : Nest d e w base (vs ++ u0 :: us) (xs ++ x :: ys)) (hl : vs.length = xs.length) : Nest d e w base (vs ++ us) (xs ++ ys) :=
  join (h.left hl) (by simpa using (h.right hl).drop 1) fun u hu v hv k hk => h.across hu (List.mem_cons_of_mem _ hv) hk
/-- The first part, cut. -/
theorem cut (h : Nest d e w base (vs ++ us) (xs ++ ys)) (hl : vs.length = xs.length) (m : Nat) : Nest d e w base (vs.take m ++ us) (xs.take m ++ ys) :=
  join ((h.left hl).take m) (h.right hl) fun u hu v hv k hk => h.across (List.mem_of_mem_take hu) hv hk
/-- One row more at the end of the first part. -/
theorem mid (h : Nest d e w base (vs ++ us) (xs ++ ys)) (hl : vs.length = xs.length) {v : Value} {x : List α} {ok : Nat → Prop} (hE : d.E = []) (hR : d.R e w base ok v x) (hne : ∀ u ∈ vs ++ us, ∀ k, u.ownBlock = some k → v.ownBlock ≠ some k) : Nest d e w base ((vs ++ [v]) ++ us) ((xs ++ [x]) ++ ys) :=
  join ((h.left hl).snoc hE hR fun u hu => hne u (List.mem_append_left _ hu)) (h.right hl) fun u hu v' hv k hk hk' => by
    rcases List.mem_append.1 hu with hu | hu
    · exact h.across hu hv hk hk'
    · rw [List.mem_singleton] at hu
      subst hu
      exact hne v' (List.mem_append_right _ hv) k hk' hk
theorem lower (h : Nest d e w base vs xs) {b : Nat} (hb : b ≤ base) : Nest d e w b vs xs := ⟨h.len, fun j v x hv hx => Kd.R_lower (h.row j v x hv hx) hb, h.apart⟩
/-- The row of these cells, as the print tells it. -/
theorem asS (h : Nest d e w base vs xs) (hE : d.E = []) {v : Value} (ho : w.ownsRow base e' 1 v vs.length vs) (hee : e ≠ e') : Kd.S (Kd.slice e d) e' w base (fun _ => True) v xs := by
  rw [h.len] at ho
  have hty := own_typed ho
  obtain ⟨f, hf⟩ := Kd.reps_tag (d := Kd.slice e d) (w := w) (base := base) (ok := fun k => True ∧ some k ≠ v.ownBlock) (xs := xs) (inner := vs)
    (fun j k => ∃ u, vs[j]? = some u ∧ some k = u.ownBlock) (fun i j k ⟨u, hu, hk⟩ ⟨u', hu', hk'⟩ => h.apart i j u u' k hu hu' hk.symm hk'.symm)
    (fun j k ⟨u, hu, hk⟩ => ⟨trivial, fun hv => by
      obtain ⟨cs, hc⟩ := hty k hv.symm
      exact h.typed hc hee (List.mem_of_getElem? hu) hk.symm rfl⟩)
    (by rw [h.len]; simp [Kd.slice]) (fun j x hj => by
      have hl : j < vs.length := by rw [h.len]; exact (List.getElem?_eq_some_iff.1 hj).1
      have hv : vs[j]? = some vs[j] := List.getElem?_eq_getElem hl
      have e1 : (vs.drop (j * (Kd.slice e d).sz)).take (Kd.slice e d).sz = [vs[j]] := by
        show (vs.drop (j * 1)).take 1 = [vs[j]]
        rw [Nat.mul_one, List.drop_eq_getElem_cons hl]
        rfl
      rw [e1]
      exact ⟨vs[j], rfl, Kd.R_mono (h.row j _ x hv hj) (fun k hk => ⟨_, hv, hk⟩)⟩)
  refine ⟨f, fun _ _ => trivial, vs, by rw [List.length_zipIdx]; exact ho, hf⟩
/-- A row that the print tells, by its cells. -/
theorem ofS {ok : Nat → Prop} {v : Value} (h : Kd.S (Kd.slice e d) e' w base ok v xs) (hE : d.E = []) : ∃ vs, w.ownsRow base e' 1 v xs.length vs ∧ Nest d e w base vs xs := by
  obtain ⟨f, h0, inner, ho, hr⟩ := h
  rw [List.length_zipIdx] at ho
  have hl : inner.length = xs.length := by have := ho.1; simp [Kd.tag, Kd.slice] at this; exact this
  have key : ∀ (j : Nat) u x, inner[j]? = some u → xs[j]? = some x → d.R e w base (fun k => (ok k ∧ some k ≠ v.ownBlock) ∧ f k = j) u x := by
    intro j u x hu hx
    have h1 := hr.2 j (x, j) (Kd.zip_at hx)
    have hlt := (List.getElem?_eq_some_iff.1 hu).1
    have e1 : (inner.drop (j * (Kd.tag f (Kd.slice e d)).sz)).take (Kd.tag f (Kd.slice e d)).sz = [u] := by
      show (inner.drop (j * 1)).take 1 = [u]
      rw [Nat.mul_one, List.drop_eq_getElem_cons hlt, (List.getElem?_eq_some_iff.1 hu).2]
      rfl
    rw [e1] at h1
    obtain ⟨u', hu', hR⟩ := h1
    simp only [List.cons.injEq, and_true] at hu'
    subst hu'
    exact hR
  refine ⟨inner, ho, hl, fun j u x hu hx => Kd.R_tight hE (key j u x hu hx), fun i j u u' k hu hu' hk hk' => ?_⟩
  have hi := (List.getElem?_eq_some_iff.1 hu).1
  have hj := (List.getElem?_eq_some_iff.1 hu').1
  have h1 := (key i u _ hu (List.getElem?_eq_getElem (by omega))).1 k hk
  have h2 := (key j u' _ hu' (List.getElem?_eq_getElem (by omega))).1 k hk'
  rw [← h1.2, ← h2.2]
end Nest
end Go.Proofs.Ytijmldjghhndoaa.Hy
