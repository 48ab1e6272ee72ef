/- The operations that make memory, on abstract values; and that the model's do the like. No program in sight. -/
import Derived.Test.YtcnofpoffdjbpaaA2
import Derived.Laws.MakeOwn
namespace Go.Proofs.Ytcnofpoffdjbpaa.AE
open Go Go.RowKit
set_option linter.unusedVariables false
set_option linter.unusedSimpArgs false
variable {P : Program}

theorem flatten_get {α : Type} {n : Nat} : ∀ {es : List (List α)}, (∀ e ∈ es, e.length = n) → ∀ {i j : Nat} {e : List α} {a : α}, es[i]? = some e → e[j]? = some a → es.flatten[i * n + j]? = some a
  | [], _, i, j, e, a, h, _ => by simp at h
  | x :: es, hn, 0, j, e, a, h, h2 => by
    simp at h
    subst h
    have hj := (List.getElem?_eq_some_iff.1 h2).1
    rw [List.flatten_cons, Nat.zero_mul, Nat.zero_add, List.getElem?_append_left hj]
    exact h2
  | x :: es, hn, i + 1, j, e, a, h, h2 => by
    have hx := hn x (by simp)
    rw [List.flatten_cons, List.getElem?_append_right (by rw [hx, Nat.succ_mul]; omega), show (i + 1) * n + j - x.length = i * n + j by rw [hx, Nat.succ_mul]; omega]
    exact flatten_get (fun e he => hn e (by simp [he])) (by simpa using h) h2
theorem flatten_length {α : Type} {n : Nat} : ∀ {es : List (List α)}, (∀ e ∈ es, e.length = n) → es.flatten.length = es.length * n
  | [], _ => by simp
  | x :: es, hn => by
    rw [List.flatten_cons, List.length_append, flatten_length (fun e he => hn e (by simp [he])), hn x (by simp), List.length_cons, Nat.succ_mul]
    omega

section
variable {B : Nat} {w0 w w' : World} {σ : Sig} {h : AHeap}
/-- A new row: its elements, and room behind them. -/
theorem SR.row (hs : SR B w0 σ h w) (k : Nat) (hk : σ k = none) (es : List (List AV)) (sz : Nat) (hsz : ∀ e ∈ es, e.length = sz) (hbig : es.length < big) (vs rest : List Value) (t : TypeId)
    (hv : VRs σ w (Held σ h) B es.flatten vs) (h1 : ∀ e ∈ es, ∀ a ∈ e, a.one = true) :
    SR B w0 (upd σ k (some ⟨w.heap.size, 0, (vs ++ rest).length, sz⟩)) (upd h k (some ⟨sz, es⟩)) (w.alloc (.cells (vs ++ rest).toArray t)) ∧
      ∀ a v, VR σ w (Held σ h) B a v → VR (upd σ k (some ⟨w.heap.size, 0, (vs ++ rest).length, sz⟩)) (w.alloc (.cells (vs ++ rest).toArray t)) (Held (upd σ k (some ⟨w.heap.size, 0, (vs ++ rest).length, sz⟩)) (upd h k (some ⟨sz, es⟩))) B a v := by
  have := hs.alloc k hk (vs ++ rest).toArray t ⟨sz, es⟩ (by
    have h2 := flatten_length hsz
    have h3 := hv.1
    simp
    omega) hbig (fun i e he => ⟨hsz e (List.mem_of_getElem? he), fun j a ha => by
      have h2 := flatten_get hsz he ha
      obtain ⟨v, h3, h4⟩ := hv.get h2
      have ho := h1 e (List.mem_of_getElem? he) a (List.mem_of_getElem? ha)
      exact ⟨ho, v, h4.oneCell ho, by
        have hl := (List.getElem?_eq_some_iff.1 h3).1
        simp only [List.getElem?_toArray]
        rw [List.getElem?_append_left hl]
        exact h3, h4⟩⟩)
  simpa using this
end
theorem mem_flatten_one {es : List (List AV)} (h : es.all (fun e => e.all AV.one) = true) : ∀ e ∈ es, ∀ a ∈ e, a.one = true := fun e he a ha => List.all_eq_true.1 (List.all_eq_true.1 h e he) a ha

/-! ### A variable -/
def aAlloc (P : Program) (h : AHeap) (k : Nat) (t : TypeId) : Option (AV × AHeap) :=
  (zeroT P t).bind fun zs => if zs.all AV.one = true then some (.ptr k 0 0, upd h k (some ⟨zs.length, [zs]⟩)) else none
def aBox (h : AHeap) (k : Nat) (a : AV) : Option (AV × AHeap) :=
  if a.cells.all AV.one = true then some (.ptr k 0 0, upd h k (some ⟨a.cells.length, [a.cells]⟩)) else none
section
variable {B : Nat} {w0 w : World} {σ : Sig} {h h' : AHeap} {k : Nat} {t : TypeId} {a v : AV} {ca : Value}
theorem SR.var (hs : SR B w0 σ h w) (hk : σ k = none) (cs : List AV) (vs : List Value) (t : TypeId) (hv : VRs σ w (Held σ h) B cs vs) (h1 : cs.all AV.one = true) :
    Out B w0 σ h w k (k + 1) (.ptr k 0 0) (upd h k (some ⟨cs.length, [cs]⟩)) (.pointer (some ⟨w.heap.size, 0, none⟩)) (w.alloc (.cells vs.toArray t)) := by
  obtain ⟨h2, h3⟩ := hs.row k hk [cs] cs.length (by simp) (by simp [big]) vs [] t (by simpa using hv) (mem_flatten_one (by simpa using h1))
  simp only [List.append_nil] at h2 h3
  refine ⟨_, h2, fun n hn => upd_ne _ _ _ (by omega), h3, ?_⟩
  have := VR.ptr (σ := upd σ k (some ⟨w.heap.size, 0, vs.length, cs.length⟩)) (w := w.alloc (.cells vs.toArray t)) (X := Held (upd σ k (some ⟨w.heap.size, 0, vs.length, cs.length⟩)) (upd h k (some ⟨cs.length, [cs]⟩))) (B := B) k 0 0 ⟨w.heap.size, 0, vs.length, cs.length⟩ (upd_same _ _ _)
  simpa using this
theorem aAlloc_ok (hs : SR B w0 σ h w) (hk : σ k = none) (hl : aAlloc P h k t = some (v, h')) :
    ∃ cv w', (Instr.alloc t true (.tuple #[])).run P w = .ok cv w' ∧ Out B w0 σ h w k (k + 1) v h' cv w' := by
  unfold aAlloc zeroT at hl
  simp only [Option.bind_eq_some_iff, Option.map_eq_some_iff] at hl
  obtain ⟨zs, ⟨z, ⟨i, hi, hz⟩, rfl⟩, hl⟩ := hl
  split at hl
  · rename_i h1
    cases hl
    refine ⟨_, _, ?_, hs.var hk _ z.cells.toList t (.of1 _) h1⟩
    simp [Instr.alloc, zeroValue, typeInfo, hi, hz, newVar, newRow]
  · cases hl
theorem aBox_ok (hs : SR B w0 σ h w) (hk : σ k = none) (hl : aBox h k a = some (v, h')) (hv : VR σ w (Held σ h) B a ca) :
    ∃ cv w', (Instr.box t ca).run P w = .ok cv w' ∧ Out B w0 σ h w k (k + 1) v h' cv w' := by
  unfold aBox at hl
  split at hl
  · rename_i h1
    cases hl
    refine ⟨_, _, ?_, hs.var hk _ ca.cells.toList t (hv.cells (by cases a <;> simp_all [AV.one, AV.cells])) h1⟩
    simp [Instr.box, newVar, newRow]
  · cases hl
end

/-! ### A struct out of its parts -/
def aFill (place : Nat → Option (Nat × Nat)) (cells : List AV) : List (Nat × AV) → Option (List AV)
  | [] => some cells
  | (i, a) :: rest => match place i with
    | none => none
    | some (off, size) => if a.cells.length = size ∧ off + size ≤ cells.length then aFill place (splice cells off a.cells) rest else none
def placesT (P : Program) (t : TypeId) : Option (List (Nat × Nat)) :=
  match P.underlying t with
  | some (.struct fields) => fields.toList.mapM fun f => (P.info? f.type).map fun i => (f.offset, i.size)
  | _ => none
def aBuild (P : Program) (t : TypeId) (parts : List (Nat × AV)) : Option AV :=
  (placesT P t).bind fun ps => (zeroT P t).bind fun zs => (aFill (fun i => ps[i]?) zs parts).map .agg
theorem foldl_set (off : Nat) : ∀ (vs : List Value) (i : Nat) (z : Array Value), off + i + vs.length ≤ z.size →
    ((vs.zipIdx i).foldl (fun cs (c, j) => cs.setIfInBounds (off + j) c) z).toList = z.toList.take (off + i) ++ vs ++ z.toList.drop (off + i + vs.length)
  | [], i, z, _ => by simp
  | v :: vs, i, z, h => by
    simp only [List.length_cons] at h
    rw [List.zipIdx_cons, List.foldl_cons, foldl_set off vs (i + 1) _ (by simp; omega)]
    simp only [Array.toList_setIfInBounds, List.length_cons]
    rw [List.take_set, List.drop_set_of_lt (by omega)]
    have hlt : off + i < z.toList.length := by simp; omega
    rw [show off + (i + 1) = (off + i) + 1 by omega, List.take_succ_eq_append_getElem hlt, List.set_append, if_neg (by simp; omega)]
    have h0 : off + i - (z.toList.take (off + i)).length = 0 := by simp; omega
    rw [h0, show off + i + 1 + vs.length = off + i + (vs.length + 1) by omega]
    simp
section
variable {σ : Sig} {w : World} {X : Nat → Nat → Prop} {B : Nat}
theorem aFill_ok {place : Nat → Option (Nat × Nat)} : ∀ {parts : List (Nat × AV)} {cparts : List (Nat × Value)} {zs cs : List AV} {zv : Array Value}, aFill place zs parts = some cs → VRs σ w X B zs zv.toList →
    parts.map (·.1) = cparts.map (·.1) → (∀ (j : Nat) p q, parts[j]? = some p → cparts[j]? = some q → (p.2.one = true ∨ ∃ l, p.2 = .agg l) ∧ VR σ w X B p.2 q.2) → ∃ cv, Instr.fill place zv cparts = some cv ∧ VRs σ w X B cs cv.toList
  | [], [], zs, cs, zv, h, hz, _, _ => by
    simp only [aFill, Option.some.injEq] at h
    subst h
    exact ⟨zv, rfl, hz⟩
  | [], q :: qs, _, _, _, _, _, hm, _ => by simp at hm
  | p :: ps, [], _, _, _, _, _, hm, _ => by simp at hm
  | (i, a) :: ps, (i', u) :: qs, zs, cs, zv, h, hz, hm, hp => by
    simp only [List.map_cons, List.cons.injEq] at hm
    obtain ⟨rfl, hm⟩ := hm
    obtain ⟨h1, h2⟩ := hp 0 _ _ rfl rfl
    have hc := h2.cells h1
    simp only [aFill] at h
    unfold Instr.fill
    cases hq : place i with
    | none => simp [hq] at h
    | some os =>
      obtain ⟨off, size⟩ := os
      simp only [hq] at h ⊢
      split at h
      · rename_i hsz
        have hcl := hc.1
        have hzl := hz.1
        simp only [Array.length_toList] at hcl hzl
        rw [if_neg (by simp; omega)]
        refine aFill_ok (zv := _) h ?_ hm (fun j p q hj hk => hp (j + 1) p q (by simpa using hj) (by simpa using hk))
        have hf := foldl_set off u.cells.toList 0 zv (by simp; omega)
        simp only [Nat.add_zero] at hf
        rw [← Array.foldl_toList, Array.toList_zipIdx, hf]
        unfold splice
        have := ((hz.take off).append hc).append (hz.drop (off + a.cells.length))
        rw [hc.1] at this
        rwa [hc.1]
      · cases h
theorem aBuild_ok {t : TypeId} {parts : List (Nat × AV)} {cparts : List (Nat × Value)} {v : AV} (h : aBuild P t parts = some v) (hm : parts.map (·.1) = cparts.map (·.1))
    (hp : ∀ (j : Nat) p q, parts[j]? = some p → cparts[j]? = some q → (p.2.one = true ∨ ∃ l, p.2 = .agg l) ∧ VR σ w X B p.2 q.2) : ∃ cv, (Instr.build t cparts.toArray).run P w = .ok cv w ∧ VR σ w X B v cv := by
  unfold aBuild at h
  simp only [Option.bind_eq_some_iff, Option.map_eq_some_iff] at h
  obtain ⟨ps, h1, zs, h2, cs, h3, rfl⟩ := h
  unfold zeroT at h2
  simp only [Option.bind_eq_some_iff, Option.map_eq_some_iff] at h2
  obtain ⟨z, ⟨i, hi, hz⟩, rfl⟩ := h2
  obtain ⟨cv, h4, h5⟩ := aFill_ok h3 (zv := z.cells) (.of1 _) hm hp
  refine ⟨.agg cv, run_build w t cparts.toArray cv ?_, VR.agg_iff.2 ⟨cv.toList, by simp, h5⟩⟩
  unfold placesT at h1
  cases hu : P.underlying t with
  | none => simp [hu] at h1
  | some d =>
    cases d <;> simp [hu] at h1
    simp [Program.built, hi, hu, hz, h1]
    exact h4
end

/-! ### A row out of its parts -/
def aRows (n : Nat) (es : List (List AV)) : List (Nat × AV) → Option (List (List AV))
  | [] => some es
  | (i, a) :: rest => if a.cells.length = n ∧ i < es.length ∧ a.cells.all AV.one = true then aRows n (es.set i a.cells) rest else none
def aBuildSlice (P : Program) (h : AHeap) (k : Nat) (t : TypeId) (len : Nat) (parts : List (Nat × AV)) : Option (AV × AHeap) :=
  match P.underlying t with
  | some (.slice e) => (zeroT P e).bind fun zs => if sizeT P e = some zs.length ∧ zs.all AV.one = true ∧ len * zs.length ≤ 16777216 ∧ len < 16777216 ∧ zs ≠ [] then
      (aRows zs.length (List.replicate len zs) parts).map fun es => (.hs k 0 len, upd h k (some ⟨zs.length, es⟩)) else none
  | _ => none
theorem aRows_len {n : Nat} : ∀ {parts : List (Nat × AV)} {es es' : List (List AV)}, aRows n es parts = some es' → (∀ e ∈ es, e.length = n ∧ e.all AV.one = true) → es'.length = es.length ∧ ∀ e ∈ es', e.length = n ∧ e.all AV.one = true
  | [], es, es', h, hn => by simp [aRows] at h; subst h; exact ⟨rfl, hn⟩
  | (i, a) :: ps, es, es', h, hn => by
    simp only [aRows] at h
    split at h
    · rename_i hq
      obtain ⟨h1, h2⟩ := aRows_len h (fun e he => by
        rcases List.mem_or_eq_of_mem_set he with h3 | rfl
        · exact hn e h3
        · exact ⟨hq.1, hq.2.2⟩)
      exact ⟨by simpa using h1, h2⟩
    · cases h
theorem set_flatten {n : Nat} : ∀ {es : List (List AV)} {i : Nat} {c : List AV}, (∀ e ∈ es, e.length = n) → c.length = n → i < es.length → (es.set i c).flatten = splice es.flatten (i * n) c
  | [], i, c, _, _, h => by simp at h
  | x :: es, 0, c, hn, hc, _ => by
    have hx := hn x (by simp)
    simp [splice, hc, ← hx]
  | x :: es, i + 1, c, hn, hc, h => by
    have hx := hn x (by simp)
    have ih := set_flatten (es := es) (i := i) (c := c) (fun e he => hn e (by simp [he])) hc (by simpa using h)
    rw [List.set_cons_succ, List.flatten_cons, ih]
    unfold splice
    have e1 : (x ++ es.flatten).take (i * n + n) = x ++ es.flatten.take (i * n) := by
      rw [List.take_append, List.take_of_length_le (l := x) (by omega), show i * n + n - x.length = i * n by omega]
    have e2 : (x ++ es.flatten).drop (i * n + n + c.length) = es.flatten.drop (i * n + c.length) := by
      rw [List.drop_append, List.drop_eq_nil_of_le (as := x) (by omega), show i * n + n + c.length - x.length = i * n + c.length by omega, List.nil_append]
    rw [List.flatten_cons, Nat.succ_mul, e1, e2]
    simp
section
variable {B : Nat} {w0 w : World} {σ : Sig} {h h' : AHeap} {k : Nat}
theorem aRows_ok {n : Nat} : ∀ {parts : List (Nat × AV)} {cparts : List (Nat × Value)} {es es' : List (List AV)} {zv : Array Value}, aRows n es parts = some es' → (∀ e ∈ es, e.length = n) → VRs σ w (Held σ h) B es.flatten zv.toList →
    parts.map (·.1) = cparts.map (·.1) → (∀ (j : Nat) p q, parts[j]? = some p → cparts[j]? = some q → VR σ w (Held σ h) B p.2 q.2) → ∃ cv, Instr.fill (fun i => some (i * n, n)) zv cparts = some cv ∧ VRs σ w (Held σ h) B es'.flatten cv.toList
  | [], [], zs, cs, zv, h, _, hz, _, _ => by
    simp only [aRows, Option.some.injEq] at h
    subst h
    exact ⟨zv, rfl, hz⟩
  | [], q :: qs, _, _, _, _, _, _, hm, _ => by simp at hm
  | p :: ps, [], _, _, _, _, _, _, hm, _ => by simp at hm
  | (i, a) :: ps, (i', u) :: qs, es, es', zv, h, hn, hz, hm, hp => by
    simp only [List.map_cons, List.cons.injEq] at hm
    obtain ⟨rfl, hm⟩ := hm
    simp only [aRows] at h
    split at h
    · rename_i hq
      have hc := (hp 0 _ _ rfl rfl).cells (by
        have := hq.2.2
        cases a <;> simp_all [AV.one, AV.cells])
      have hcl := hc.1
      have hzl := hz.1
      simp only [Array.length_toList] at hcl hzl
      have hfl := flatten_length hn
      have hmul : (i + 1) * n ≤ es.length * n := Nat.mul_le_mul_right _ hq.2.1
      rw [Nat.succ_mul] at hmul
      have hq1 := hq.1
      unfold Instr.fill
      simp only
      rw [if_neg (by simp; omega)]
      refine aRows_ok (zv := _) h (fun e he => ?_) ?_ hm (fun j p q hj hk => hp (j + 1) p q (by simpa using hj) (by simpa using hk))
      · rcases List.mem_or_eq_of_mem_set he with h3 | rfl
        · exact hn e h3
        · exact hq.1
      · have hf := foldl_set (i * n) u.cells.toList 0 zv (by simp; omega)
        simp only [Nat.add_zero] at hf
        rw [← Array.foldl_toList, Array.toList_zipIdx, hf, set_flatten hn hq.1 hq.2.1]
        unfold splice
        have := ((hz.take (i * n)).append hc).append (hz.drop (i * n + a.cells.length))
        rw [hc.1] at this
        rwa [hc.1]
    · cases h
/-- An owned row's value. -/
theorem VR.row {X : Nat → Nat → Prop} {w : World} {b c sz len cap : Nat} (hlc : len ≤ cap) (hb : len < big) (hc : cap * sz ≤ c) : VR (upd σ k (some ⟨b, 0, c, sz⟩)) w X B (.hs k 0 len) (.slice (some ⟨b, 0, none⟩) len cap) :=
  .hs k 0 len _ cap ⟨b, 0, c, sz⟩ (upd_same _ _ _) hlc hb (.inr ⟨by simp, by simpa using hc⟩)
theorem zeros_flatten (z : List Value) : ∀ (n : Nat), (List.replicate n z).flatten = (List.range (n * z.length)).map fun i => z[i % z.length]!
  | 0 => by simp
  | n + 1 => by
    rw [List.replicate_succ', List.flatten_append, zeros_flatten z n, Nat.succ_mul, List.range_add, List.map_append]
    congr 1
    simp only [List.flatten_cons, List.flatten_nil, List.append_nil, List.map_map]
    apply List.ext_getElem?
    intro i
    by_cases hi : i < z.length
    · simp [hi, Nat.mul_comm n, Nat.mul_add_mod, Nat.mod_eq_of_lt hi]
    · simp [hi]
theorem VRs.replicate {X : Nat → Nat → Prop} {cs : List AV} {vs : List Value} (hv : VRs σ w X B cs vs) : ∀ n, VRs σ w X B (List.replicate n cs).flatten (List.replicate n vs).flatten
  | 0 => by simpa using VRs.nil
  | n + 1 => by
    rw [List.replicate_succ, List.replicate_succ, List.flatten_cons, List.flatten_cons]
    exact hv.append (VRs.replicate hv n)
theorem aBuildSlice_ok (hs : SR B w0 σ h w) (hk : σ k = none) {t : TypeId} {len : Nat} {parts : List (Nat × AV)} {cparts : List (Nat × Value)} {v : AV} (hl : aBuildSlice P h k t len parts = some (v, h')) (hm : parts.map (·.1) = cparts.map (·.1))
    (hp : ∀ (j : Nat) p q, parts[j]? = some p → cparts[j]? = some q → VR σ w (Held σ h) B p.2 q.2) : ∃ cv w', (Instr.buildSlice t len cparts.toArray).run P w = .ok cv w' ∧ Out B w0 σ h w k (k + 1) v h' cv w' := by
  unfold aBuildSlice at hl
  cases hu : P.underlying t with
  | none => simp [hu] at hl
  | some d =>
  cases d <;> simp only [hu] at hl <;> try (cases hl; done)
  rename_i e
  simp only [Option.bind_eq_some_iff] at hl
  obtain ⟨zs, hz, hl⟩ := hl
  split at hl
  · rename_i hq
    obtain ⟨hsz, hone, h16, hlen, hne⟩ := hq
    simp only [Option.map_eq_some_iff, Prod.mk.injEq] at hl
    obtain ⟨es, hes, rfl, rfl⟩ := hl
    unfold zeroT at hz
    simp only [Option.bind_eq_some_iff, Option.map_eq_some_iff] at hz
    obtain ⟨z, ⟨i, hi, hz⟩, rfl⟩ := hz
    have hsi : i.size = z.cells.size := by simpa [sizeT, hi] using hsz
    have hrl : ∀ e ∈ List.replicate len (z.cells.toList.map avOf1), e.length = z.cells.size ∧ e.all AV.one = true := fun e he => by
      rw [(List.mem_replicate.1 he).2]
      exact ⟨by simp, hone⟩
    simp only [List.length_map, Array.length_toList] at hes h16
    obtain ⟨hel, hen⟩ := aRows_len hes hrl
    have hzv : VRs σ w (Held σ h) B (List.replicate len (z.cells.toList.map avOf1)).flatten ((Array.range (len * z.cells.size)).map (z.cells[· % z.cells.size]!)).toList := by
      have := (VRs.of1 (σ := σ) (w := w) (X := Held σ h) (B := B) z.cells.toList).replicate len
      have hzz : (fun i => z.cells.toList[i % z.cells.size]!) = fun i => z.cells[i % z.cells.size]! := by
        funext i
        simp [getElem!_def]
      rw [zeros_flatten, Array.length_toList, hzz] at this
      rw [Array.toList_map, Array.toList_range]
      exact this
    obtain ⟨cv, h1, h2⟩ := aRows_ok hes (fun e he => (hrl e he).1) hzv hm hp
    have hel' : es.length = len := by simpa using hel
    obtain ⟨h3, h4⟩ := hs.row k hk es z.cells.size (fun e he => (hen e he).1) (by unfold big; omega) cv.toList [] e h2 (fun e he a ha => List.all_eq_true.1 (hen e he).2 a ha)
    have hcl : cv.toList.length = len * z.cells.size := by rw [← h2.1, flatten_length (fun e he => (hen e he).1), hel']
    have hrun : (Instr.buildSlice t len cparts.toArray).run P w = .ok (.slice (some ⟨w.heap.size, 0, none⟩) len len) (w.alloc (.cells cv e)) := by
      have h16' : ¬ (16777216 < len * z.cells.size) := by omega
      unfold Instr.buildSlice
      rw [Sem.run_bind, run_underlying hu]
      by_cases hn : len = 0
      · subst hn
        have h9 : Instr.fill (fun i => some (i * z.cells.size, z.cells.size)) #[] cparts = some cv := by simpa [Array.range_zero'] using h1
        simp [sizeOf, typeInfo, hi, hsi, newRow, h9, Array.range_zero']
      · have hzz : z.cells.size ≠ 0 := by
          intro h0
          apply hne
          have : z.cells = #[] := by simpa using h0
          simp [this]
        have hm0 : ¬ (len * z.cells.size = 0) := Nat.mul_ne_zero hn hzz
        simp [sizeOf, typeInfo, hi, hsi, zeroValue, hz, h16', newRow, h1, hm0]
    simp only [List.append_nil, Array.toArray_toList] at h3 h4
    have hzl : (z.cells.toList.map avOf1).length = z.cells.size := by simp
    rw [hzl]
    exact ⟨_, _, hrun, upd σ k (some ⟨w.heap.size, 0, cv.toList.length, z.cells.size⟩), h3, fun n hn => upd_ne _ _ _ (by omega), h4, VR.row (Nat.le_refl _) (by unfold big; omega) (by omega)⟩
  · cases hl

/-! ### make -/
def aMake (P : Program) (h : AHeap) (k : Nat) (t : TypeId) (l c : AV) : Option (AV × AHeap) :=
  match P.underlying t, l, c with
  | some (.slice e), .int _ l, .int _ c => (zeroT P e).bind fun zs => (byteT P e).bind fun by_ =>
      if sizeT P e = some zs.length ∧ zs.all AV.one = true ∧ 0 ≤ l ∧ l ≤ c ∧ (by_ : Int) * c ≤ 140737488355328 ∧ c < 4611686018427387904 then
        some (.hs k 0 l.toNat, upd h k (some ⟨zs.length, List.replicate l.toNat zs⟩)) else none
  | _, _, _ => none
theorem aMake_ok (hs : SR B w0 σ h w) (hk : σ k = none) {t : TypeId} {l c v : AV} {cl cc : Value} (hl : aMake P h k t l c = some (v, h')) (hvl : VR σ w (Held σ h) B l cl) (hvc : VR σ w (Held σ h) B c cc) :
    ∃ cv w', (Instr.makeSlice t cl cc).run P w = .ok cv w' ∧ Out B w0 σ h w k (k + 1) v h' cv w' := by
  unfold aMake at hl
  split at hl
  · rename_i e kl l kc c hu
    cases hvl
    cases hvc
    simp only [Option.bind_eq_some_iff] at hl
    obtain ⟨zs, hz, by_, hb, hl⟩ := hl
    split at hl
    · rename_i hq
      obtain ⟨hsz, hone, h0, hlc, hby, hbig⟩ := hq
      cases hl
      unfold zeroT at hz
      simp only [Option.bind_eq_some_iff, Option.map_eq_some_iff] at hz
      obtain ⟨z, ⟨i, hi, hz⟩, rfl⟩ := hz
      have hbi : i.bytes = by_ := by simpa [byteT, hi] using hb
      have hsi : i.size = z.cells.size := by simpa [sizeT, hi] using hsz
      have hrun := run_make (P := P) w t e i z hu hi hz kl kc l c h0 hlc (by rw [hbi]; omega) (by omega)
      have hmc : madeCells z.cells (c.toNat * i.size) = ((List.replicate l.toNat z.cells.toList).flatten ++ (List.replicate (c.toNat - l.toNat) z.cells.toList).flatten).toArray := by
        apply Array.ext'
        rw [← List.flatten_append, List.replicate_append_replicate, show l.toNat + (c.toNat - l.toNat) = c.toNat by omega, zeros_flatten, hsi]
        unfold madeCells
        rw [Array.toList_map, Array.toList_range]
        simp [getElem!_def]
      rw [hmc] at hrun
      obtain ⟨h3, h4⟩ := hs.row k hk (List.replicate l.toNat (z.cells.toList.map avOf1)) z.cells.size (fun e he => by rw [(List.mem_replicate.1 he).2]; simp) (by simp [big]; omega) (List.replicate l.toNat z.cells.toList).flatten (List.replicate (c.toNat - l.toNat) z.cells.toList).flatten e
        ((VRs.of1 _).replicate _) (fun e he a ha => by rw [(List.mem_replicate.1 he).2] at ha; exact List.all_eq_true.1 hone a ha)
      have hzl : (z.cells.toList.map avOf1).length = z.cells.size := by simp
      rw [hzl]
      refine ⟨_, _, hrun, upd σ k (some ⟨w.heap.size, 0, ((List.replicate l.toNat z.cells.toList).flatten ++ (List.replicate (c.toNat - l.toNat) z.cells.toList).flatten).length, z.cells.size⟩), h3, fun n hn => upd_ne _ _ _ (by omega), h4, ?_⟩
      refine VR.row (by omega) (by unfold big; omega) ?_
      rw [List.length_append, flatten_length (n := z.cells.size) (fun e he => by rw [(List.mem_replicate.1 he).2]; simp), flatten_length (n := z.cells.size) (fun e he => by rw [(List.mem_replicate.1 he).2]; simp), List.length_replicate, List.length_replicate, ← Nat.add_mul]
      exact Nat.mul_le_mul_right _ (by omega)
    · cases hl
  · cases hl
end
end Go.Proofs.Ytcnofpoffdjbpaa.AE
