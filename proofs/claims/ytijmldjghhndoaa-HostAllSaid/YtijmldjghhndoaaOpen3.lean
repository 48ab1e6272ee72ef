/- A host that came in. -/
import Derived.Test.YtijmldjghhndoaaOpens
import Derived.Test.YtijmldjghhndoaaH0
namespace Go.Proofs.Ytijmldjghhndoaa.Hy
open Go.RowKit Go.Proofs.YtijmldjghhndoaaW.PrintWords Go.Proofs.YtijmldjghhndoaaW.PrintLast Go.Proofs.YtijmldjghhndoaaW.PrintMore
open Go.ChangeShapes Go.WideShapes Go.Deep
set_option linter.unusedVariables false

section
variable {H : Type} {enc : TypeId × Value → H} {w : World} {base : Nat} {spare : Nat → Bool} {held : Bool}
/-- Octets that came in. -/
def OK8 (xs : List Int) : Prop := xs.length * 1 ≤ 140737488351232 ∧ ∀ x ∈ xs, (Lit.int .u8 x).wf = true
theorem opens_bytes : OpensK enc Try.prog w base spare held 26 (Kd.slice 5 (Kd.int .u8)) OK8 := by
  have h := opens_slice (enc := enc) (w := w) (base := base) (spare := spare) (held := held) (d := Kd.int .u8) Try.underlying26 (by kernel_rfl) (opens_int Try.underlying5)
  intro fuel cs x hx hw
  obtain ⟨a, hk, h1, h2⟩ := h fuel cs x hx hw
  exact ⟨a, hk, by rw [show Try.prog.bytesOf 5 = 1 from by kernel_rfl] at h1; exact h1, h2⟩
theorem opens_rows : OpensK enc Try.prog w base spare held 22 (Kd.slice 26 (Kd.slice 5 (Kd.int .u8))) (fun xs => xs.length * 24 ≤ 140737488351232 ∧ ∀ x ∈ xs, OK8 x) := by
  have h := opens_slice (enc := enc) (w := w) (base := base) (spare := spare) (held := held) (d := Kd.slice 5 (Kd.int .u8)) Try.underlying22 (by kernel_rfl) opens_bytes
  intro fuel cs x hx hw
  obtain ⟨a, hk, h1, h2⟩ := h fuel cs x hx hw
  exact ⟨a, hk, by rw [show Try.prog.bytesOf 26 = 24 from by kernel_rfl] at h1; exact h1, h2⟩
theorem opens_bools : OpensK enc Try.prog w base spare held 41 (Kd.slice 4 Kd.bool) (fun xs => xs.length * 1 ≤ 140737488351232) := by
  have h := opens_slice (enc := enc) (w := w) (base := base) (spare := spare) (held := held) (d := Kd.bool) Try.underlying41 (by kernel_rfl) (opens_bool Try.underlying4)
  intro fuel cs x hx hw
  obtain ⟨a, hk, h1, h2⟩ := h fuel cs x hx hw
  exact ⟨a, hk, by rw [show Try.prog.bytesOf 4 = 1 from by kernel_rfl] at h1; exact h1⟩
theorem each_mem {P : Program} : ∀ {ts : List TypeId} {ds : List (DataW H)} {j : Nat} {t : TypeId} {d : DataW H}, ts[j]? = some t → ds[j]? = some d → ∀ n ∈ d.weights P t, n ∈ DataW.weightsEach P ts ds := fun ht hd n hn => DataW.weights_mem_each ht hd n hn
theorem opens_act : OpensK enc Try.prog w base spare held 46 k46 (fun a => (Lit.int .i64 a.f0).wf = true ∧ (Lit.int .i64 a.f1).wf = true ∧ OK8 a.f2) := by
  intro fuel cs x h hw
  obtain ⟨y0, y1, y2, n, rfl, hl, g0, g1, g2⟩ := trod_struct3 Try.underlying46 h
  have hw2 : ∀ (j : Nat) t d, [3, 3, 26][j]? = some t → [y0.1, y1.1, y2.1][j]? = some d → ∀ n ∈ DataW.weights Try.prog t d, n ≤ reachBytes := fun j t d ht hd n hn => hw n (by
    simp only [DataW.weights, Try.underlying46]
    exact each_mem ht hd n hn)
  obtain ⟨f0, k0, q0⟩ := opens_int (k := .i64) Try.underlying3 _ _ _ g0 (hw2 0 _ _ rfl rfl)
  obtain ⟨f1, k1, q1⟩ := opens_int (k := .i64) Try.underlying3 _ _ _ g1 (hw2 1 _ _ rfl rfl)
  obtain ⟨f2, k2, q2⟩ := opens_bytes _ _ _ g2 (hw2 2 _ _ rfl rfl)
  obtain ⟨A, c, k2, l2, hC⟩ := k2
  rw [show Try.prog.cellsOf 46 = 3 from by kernel_rfl] at hl
  match cs, hl with
  | [c0, c1, c2], _ =>
    have e0 : [c0] = [Value.int .i64 f0] := k0
    have e1 : [c1] = [Value.int .i64 f1] := k1
    have e2 : [c2] = [Value.slice A f2.length c] := k2
    simp only [List.cons.injEq, and_true] at e0 e1 e2
    subst e0 e1 e2
    exact ⟨⟨f0, f1, f2⟩, k46_mk w ⟨f0, f1, f2⟩ l2 hC, q0, q1, q2⟩
theorem opens_acts : OpensK enc Try.prog w base spare held 23 (Kd.slice 46 k46) (fun xs => xs.length * 40 ≤ 140737488351232 ∧ ∀ a ∈ xs, (Lit.int .i64 a.f0).wf = true ∧ (Lit.int .i64 a.f1).wf = true ∧ OK8 a.f2) := by
  have h := opens_slice (enc := enc) (w := w) (base := base) (spare := spare) (held := held) (d := k46) Try.underlying23 (by kernel_rfl) opens_act
  intro fuel cs x hx hw
  obtain ⟨a, hk, h1, h2⟩ := h fuel cs x hx hw
  exact ⟨a, hk, by rw [show Try.prog.bytesOf 46 = 40 from by kernel_rfl] at h1; exact h1, h2⟩
/-- A host that came in. -/
theorem open_state {v : Value} {d : DataW H} {ps : List MemPlace} (h : DataW.Trod enc Try.prog w base spare held 25 v d ps) (hv : ∃ cs, v = .agg cs) (hw : ∀ n ∈ d.weights Try.prog 25, n ≤ reachBytes) :
    ∃ (A0 A1 : Option Addr) (c0 c1 : Nat) (l0 : List (List Int)) (l1 : List S46) (cap : Int), v = .agg #[.slice A0 l0.length c0, .slice A1 l1.length c1, .int .i64 cap] ∧ l0.length ≤ c0 ∧ l1.length ≤ c1 ∧ Kd.C (Kd.slice 5 (Kd.int .u8)) w A0 l0.length l0 ∧ Kd.C k46 w A1 l1.length l1 ∧
      l0.length * 24 ≤ 140737488351232 ∧ (∀ x ∈ l0, OK8 x) ∧ l1.length * 40 ≤ 140737488351232 ∧ (∀ a ∈ l1, (Lit.int .i64 a.f0).wf = true ∧ (Lit.int .i64 a.f1).wf = true ∧ OK8 a.f2) ∧ (Lit.int .i64 cap).wf = true := by
  obtain ⟨cs, rfl⟩ := hv
  obtain ⟨fuel, h⟩ := h
  obtain ⟨y0, y1, y2, n, hx, hl, g0, g1, g2⟩ := trod_struct3 Try.underlying25 h
  simp only [Prod.mk.injEq] at hx
  obtain ⟨rfl, rfl⟩ := hx
  have hw2 : ∀ (j : Nat) t d, [22, 23, 3][j]? = some t → [y0.1, y1.1, y2.1][j]? = some d → ∀ n ∈ DataW.weights Try.prog t d, n ≤ reachBytes := fun j t d ht hd n hn => hw n (by
    simp only [DataW.weights, Try.underlying25]
    exact each_mem ht hd n hn)
  obtain ⟨l0, k0, q0⟩ := opens_rows _ _ _ g0 (hw2 0 _ _ rfl rfl)
  obtain ⟨l1, k1, q1⟩ := opens_acts _ _ _ g1 (hw2 1 _ _ rfl rfl)
  obtain ⟨cap, k2, q2⟩ := opens_int (k := .i64) Try.underlying3 _ _ _ g2 (hw2 2 _ _ rfl rfl)
  obtain ⟨A0, c0, k0, i0, C0⟩ := k0
  obtain ⟨A1, c1, k1, i1, C1⟩ := k1
  rw [show Try.prog.cellsOf 25 = 3 from by kernel_rfl] at hl
  obtain ⟨lst⟩ := cs
  simp only [Value.cells] at hl k0 k1 k2
  match lst, hl with
  | [x0, x1, x2], _ =>
    have e0 : [x0] = [Value.slice A0 l0.length c0] := k0
    have e1 : [x1] = [Value.slice A1 l1.length c1] := k1
    have e2 : [x2] = [Value.int .i64 cap] := k2
    simp only [List.cons.injEq, and_true] at e0 e1 e2
    subst e0 e1 e2
    exact ⟨A0, A1, c0, c1, l0, l1, cap, rfl, i0, i1, C0, C1, q0.1, q0.2, q1.1, q1.2, q2⟩
theorem open_keep {A1 : Option Addr} {n c1 : Nat} {d : DataW H} {ps : List MemPlace} (h : DataW.Trod enc Try.prog w base spare held 41 (.slice A1 n c1) d ps) (hw : ∀ n ∈ d.weights Try.prog 41, n ≤ reachBytes) : ∃ l : List Bool, n = l.length ∧ l.length ≤ c1 ∧ Kd.C Kd.bool w A1 l.length l := by
  obtain ⟨fuel, h⟩ := h
  obtain ⟨l, ⟨A, c, hk, hl, hC⟩, _⟩ := opens_bools _ _ _ h hw
  simp [Value.cells] at hk
  obtain ⟨rfl, rfl, rfl⟩ := hk
  exact ⟨l, rfl, hl, hC⟩
theorem open_octets {A1 : Option Addr} {n c1 : Nat} {d : DataW H} {ps : List MemPlace} (h : DataW.Trod enc Try.prog w base spare held 26 (.slice A1 n c1) d ps) (hw : ∀ n ∈ d.weights Try.prog 26, n ≤ reachBytes) : ∃ l : List Int, n = l.length ∧ l.length ≤ c1 ∧ Kd.C (Kd.int .u8) w A1 l.length l ∧ OK8 l := by
  obtain ⟨fuel, h⟩ := h
  obtain ⟨l, ⟨A, c, hk, hl, hC⟩, hq⟩ := opens_bytes _ _ _ h hw
  simp [Value.cells] at hk
  obtain ⟨rfl, rfl, rfl⟩ := hk
  exact ⟨l, rfl, hl, hC, hq⟩
end
end Go.Proofs.Ytijmldjghhndoaa.Hy
