/- Small lemmas on memory for the hand-made contracts. -/
import Derived.Test.YtijmldjghhndoaaH0
namespace Go.Proofs.Ytijmldjghhndoaa.Hy
open Go.RowKit Go.Proofs.YtijmldjghhndoaaW.PrintWords Go.Proofs.YtijmldjghhndoaaW.PrintLast Go.Proofs.YtijmldjghhndoaaW.PrintMore
set_option linter.unusedVariables false

theorem hb_set {w : World} {g t : Nat} {cs : Array Value} (h : w.heap[g]? = some (.cells cs t (0, 0))) (j : Nat) (u : Value) : (w.setCell ⟨g, j, none⟩ u).heap[g]? = some (.cells (cs.setIfInBounds j u) t (0, 0)) := by
  simp [World.setCell, Array.getElem?_modify, h]
theorem hb_free {w : World} {g t : Nat} {cs : Array Value} (h : w.heap[g]? = some (.cells cs t (0, 0))) (j : Nat) : w.frozen? ⟨g, j, none⟩ = false := by
  simp [World.frozen?, h]
theorem hb_cell {w : World} {g t : Nat} {cs : Array Value} (h : w.heap[g]? = some (.cells cs t (0, 0))) (j : Nat) : w.cell? ⟨g, j, none⟩ = cs[j]? := cell_of_row w g j cs t (0, 0) h
theorem hb_new (w : World) (cs : Array Value) (t : Nat) : (w.alloc (.cells cs t)).heap[w.heap.size]? = some (.cells cs t (0, 0)) := heap_alloc_new w _
theorem made_at (z : Value) (n j : Nat) (h : j < n) : (madeCells #[z] n)[j]? = some z := by
  rw [← Array.getElem?_toList, toList_madeCells_one]
  simp [h]
theorem hb_other (w : World) {g g' : Nat} (i j : Nat) (u : Value) (h : g ≠ g') : (w.setCell ⟨g', j, none⟩ u).cell? ⟨g, i, none⟩ = w.cell? ⟨g, i, none⟩ := World.cell?_setCell_other w _ _ u (fun e => h (congrArg Addr.block e).symm)
theorem hb_keep (w : World) {g g' : Nat} (j : Nat) (u : Value) (h : g ≠ g') : (w.setCell ⟨g', j, none⟩ u).heap[g]? = w.heap[g]? := Below.heap_setCell w ⟨g', j, none⟩ u g h
theorem add_of_add' (a : Addr) (i j : Nat) : (a.add i).add j = a.add (i + j) := by
  unfold Addr.add
  by_cases hi : i = 0 <;> by_cases hj : j = 0 <;> simp [hi, hj, Nat.add_assoc]
/-- The cells of whole numbers that are read. -/
theorem C_int {k : IntKind} {w : World} {A : Option Addr} {n : Nat} {l : List Int} (h : Kd.C (Kd.int k) w A n l) (hp : 0 < n) : ∃ ad, A = some ad ∧ ∀ i, i < n → w.cell? (ad.add i) = some (.int k (l.getD i 0)) := by
  obtain ⟨ad, e, hc⟩ := h.2.2 hp
  refine ⟨ad, e, fun i hi => ?_⟩
  have hl : i < l.length := by have := h.1; omega
  obtain ⟨c, hs, hK, hu⟩ := hc i _ (List.getElem?_eq_getElem hl)
  have hK' : c = [Value.int k l[i]] := hK
  subst hK'
  have := hu 0 _ rfl
  rw [List.getD_eq_getElem?_getD, List.getElem?_eq_getElem hl]
  simpa [Kd.int, Kd.scalar] using this
/-- A row of one's own, cut at its head. -/
theorem own_cut {w : World} {base e size n cap m : Nat} {a : Addr} {xs : List Value} (h : w.ownsRow base e size (.slice (some a) n cap) n xs) (hm : m ≤ n) : w.ownsRow base e size (.slice (some a) m cap) m (xs.take (m * size)) := by
  obtain ⟨h1, h2⟩ := h
  refine ⟨by rw [List.length_take, h1]; exact Nat.min_eq_left (Nat.mul_le_mul_right _ hm), ?_⟩
  rcases h2 with ⟨h2, _⟩ | ⟨g, cap', cur, he, hg, hh, h3, h4, h5, h6⟩
  · cases h2
  · injection he with ea en ec
    injection ea with ea
    subst ea ec
    refine .inr ⟨g, cap, cur, rfl, hg, hh, by omega, h4, h5, ?_⟩
    rw [← h6, List.take_take, Nat.min_eq_left (Nat.mul_le_mul_right _ hm)]
theorem below_row {w W : World} {g : Nat} {cs : Array Value} (h : Below w.heap.size w W) (hg : w.heap.size ≤ g) : Below w.heap.size w (W.setRow g cs) :=
  ⟨h.os, h.tape, h.output, by simpa [World.setRow] using h.size, fun k hk => by
    have : (W.setRow g cs).heap[k]? = W.heap[k]? := by
      simp [World.setRow, Array.getElem?_modify, show g ≠ k by omega]
    rw [this]
    exact h.block k hk⟩
/-- make([]T, l, c) of one-cell elements. -/
theorem make_cap {P : Program} {t e bytes : Nat} {z : Value} (ht : P.underlying t = some (.slice e)) (hinfo : (P.info? e).map (fun i => (i.zero, i.size, i.bytes)) = some (some z, 1, bytes)) (hz : z.cells = #[z])
    (l c : Int) (m n : Nat) (hl : l = (m : Int)) (hc : c = (n : Int)) (hmn : m ≤ n) (hb : bytes * n ≤ 281474976710656) (h63 : n ≤ 9223372036854775807) (W : World) :
    (Instr.makeSlice t (.int .i64 l) (.int .i64 c)).run P W = .ok (.slice (some ⟨W.heap.size, 0, none⟩) m n) (W.alloc (.cells (madeCells #[z] n) e)) := by
  obtain ⟨i0, hi, hzz⟩ := Option.map_eq_some_iff.1 hinfo
  simp only [Prod.mk.injEq] at hzz
  obtain ⟨hz0, hz1, hz2⟩ := hzz
  subst hl hc
  have hb' : (i0.bytes : Int) * (n : Int) ≤ 281474976710656 := by
    rw [hz2]
    have h : ((bytes * n : Nat) : Int) ≤ 281474976710656 := by omega
    rwa [Int.natCast_mul] at h
  have := run_make (P := P) W t e i0 z ht hi hz0 .i64 .i64 (m : Int) (n : Int) (by omega) (by omega) hb' (by omega)
  rw [hz1, hz, Nat.mul_one] at this
  simpa using this
theorem int_cells (k : IntKind) (n : Int) : (Value.int k n).cells = #[.int k n] := rfl
/-- The first cells of a block of one's own. -/
theorem own_head {w : World} {g t base m cap : Nat} {cs : Array Value} {xs : List Value} (h : w.heap[g]? = some (.cells cs t (0, 0))) (hb : base ≤ g) (hm : m ≤ cap) (hc : cap ≤ maxLen) (hs : cs.size = cap) (hx : cs.toList.take m = xs) : w.ownsRow base t 1 (.slice (some ⟨g, 0, none⟩) m cap) m xs := by
  refine ⟨?_, .inr ⟨g, cap, cs, rfl, hb, h, hm, hc, by omega, by rw [Nat.mul_one]; exact hx⟩⟩
  rw [← hx, List.length_take]
  simp
  omega
end Go.Proofs.Ytijmldjghhndoaa.Hy
