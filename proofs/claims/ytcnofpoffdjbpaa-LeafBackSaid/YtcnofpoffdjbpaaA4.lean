/- Rows: append, copy, clear, on abstract values; and that the model's do the like. No program in sight. -/
import Derived.Test.YtcnofpoffdjbpaaA3
namespace Go.Proofs.Ytcnofpoffdjbpaa.AE
open Go Go.RowKit
set_option linter.unusedVariables false
set_option linter.unusedSimpArgs false
variable {P : Program}

/-- A row's elements; n: how many cells an element has. -/
def aRow (h : AHeap) (n : Nat) : AV → Option (List (List AV))
  | .zs => some []
  | .sl es => if es.all (fun e => e.length == n) = true then some es else none
  | .hs m off len => (h m).bind fun k => if k.sz = n ∧ off + len ≤ k.es.length then some ((k.es.drop off).take len) else none
  | .str l => if n = 1 then some (l.map fun c => [.int .u8 c]) else none
  | _ => none
def killT (h : AHeap) : AV → AHeap
  | .hs m _ _ => upd h m none
  | _ => h
theorem kill_eq (h : AHeap) (m : Nat) : (fun i => if decide (i = m) = true then none else h i) = upd h m none := by
  funext i
  unfold upd
  simp
theorem Addr.add_none (b o j : Nat) : (⟨b, o, none⟩ : Addr).add j = ⟨b, o + j, none⟩ := Addr.add_mid b o j

section
variable {B : Nat} {w0 w : World} {σ : Sig} {h h' : AHeap} {k : Nat}
/-- What a row's value reads. -/
structure RowOf (σ : Sig) (w : World) (X : Nat → Nat → Prop) (B : Nat) (n : Nat) (es : List (List AV)) (a : Option Addr) (cap : Nat) (vs : List Value) : Prop where
  rel : VRs σ w X B es.flatten vs
  one : ∀ e ∈ es, ∀ a ∈ e, a.one = true
  cell : ∀ v ∈ vs, v.oneCell' = true
  szs : ∀ e ∈ es, e.length = n
  cap : es.length ≤ cap
  big : es.length < big
  at_ : es ≠ [] → ∃ ad, a = some ad ∧ ad.spot = none ∧ w.rangeAt ad.block ad.off vs
theorem RowOf.length {X : Nat → Nat → Prop} {n : Nat} {es : List (List AV)} {a : Option Addr} {cap : Nat} {vs : List Value} (hr : RowOf σ w X B n es a cap vs) : vs.length = es.length * n := by
  rw [← hr.rel.1, flatten_length hr.szs]
/-- Elements' cells, one behind the other. -/
theorem rel_flatten {X : Nat → Nat → Prop} {n : Nat} {Q : Nat → Value → Prop} : ∀ (es : List (List AV)) (i0 : Nat), (∀ e ∈ es, e.length = n) →
    (∀ (i : Nat) (e : List AV), es[i]? = some e → ∀ (j : Nat) (c : AV), e[j]? = some c → ∃ v, VR σ w X B c v ∧ Q ((i0 + i) * n + j) v) → ∃ vs, VRs σ w X B es.flatten vs ∧ ∀ (j : Nat) v, vs[j]? = some v → Q (i0 * n + j) v
  | [], i0, _, _ => ⟨[], .nil, fun j v hv => by simp at hv⟩
  | e :: es, i0, hn, hx => by
    obtain ⟨us, h1, h2⟩ := list_of (n := e.length) (Q := fun j v => ∀ c, e[j]? = some c → VR σ w X B c v ∧ Q (i0 * n + j) v) (fun j hj => by
      obtain ⟨v, q1, q2⟩ := hx 0 e rfl j e[j] (List.getElem?_eq_getElem hj)
      exact ⟨v, fun c hc => by rw [List.getElem?_eq_getElem hj] at hc; cases hc; exact ⟨q1, q2⟩⟩)
    obtain ⟨vs, h3, h4⟩ := rel_flatten es (i0 + 1) (fun e he => hn e (by simp [he])) (fun i e he j c hc => by
      have := hx (i + 1) e (by simpa using he) j c hc
      rwa [show i0 + 1 + i = i0 + (i + 1) by omega])
    have hel := hn e (by simp)
    refine ⟨us ++ vs, ?_, fun j v hv => ?_⟩
    · rw [List.flatten_cons]
      exact VRs.append ⟨h1.symm, fun j c v hc hv => (h2 j v hv c hc).1⟩ h3
    · by_cases hj : j < us.length
      · rw [List.getElem?_append_left hj] at hv
        exact (h2 j v hv e[j] (List.getElem?_eq_getElem (by omega))).2
      · rw [List.getElem?_append_right (by omega)] at hv
        have := h4 _ v hv
        rw [Nat.succ_mul] at this
        rwa [show i0 * n + n + (j - us.length) = i0 * n + j by omega] at this
theorem aRow_ok (hs : SR B w0 σ h w) {n : Nat} {x : AV} {cx : Value} {es : List (List AV)} (hl : aRow h n x = some es) (hv : VR σ w (Held σ h) B x cx) (hx : ∀ l, x ≠ .str l) :
    ∃ a cap vs, cx = .slice a es.length cap ∧ RowOf σ w (Held σ h) B n es a cap vs := by
  unfold aRow at hl
  split at hl
  · cases hl
    cases hv with
    | zs a => exact ⟨a, 0, [], rfl, ⟨.nil, by simp, by simp, by simp, Nat.le_refl _, by unfold AE.big; decide, fun h => absurd rfl h⟩⟩
  · rename_i es0
    split at hl
    · rename_i hall
      cases hl
      have hn : ∀ e ∈ es, e.length = n := fun e he => by simpa using List.all_eq_true.1 hall e he
      cases hv with
      | sl _ a cap size vs hcap hb h1 h2 =>
      obtain ⟨us, h3, h4⟩ := rel_flatten (σ := σ) (w := w) (B := B) (X := Held σ h) (n := n) (Q := fun q v => ∃ i j e c, es[i]? = some e ∧ e[j]? = some c ∧ q = i * n + j ∧ v = vs i j) es 0 hn (fun i e he j c hc => ⟨vs i j, h2 i e he j c hc, i, j, e, c, he, hc, by rw [Nat.zero_add], rfl⟩)
      refine ⟨a, cap, us, rfl, ⟨h3, fun e he c hc => ?_, fun v hv => ?_, hn, hcap, hb, fun hne => ?_⟩⟩
      · obtain ⟨i, hi⟩ := List.mem_iff_getElem?.1 he
        obtain ⟨j, hj⟩ := List.mem_iff_getElem?.1 hc
        obtain ⟨_, _, _, _, h5⟩ := h1 i e hi
        exact (h5 j c hj).1
      · obtain ⟨q, hq⟩ := List.mem_iff_getElem?.1 hv
        obtain ⟨i, j, e, c, hi, hj, _, rfl⟩ := h4 q v hq
        obtain ⟨_, _, _, _, h5⟩ := h1 i e hi
        exact (h5 j c hj).2.1
      · obtain ⟨e, es', rfl⟩ := List.exists_cons_of_ne_nil hne
        obtain ⟨_, ad, rfl, h6, _⟩ := h1 0 e rfl
        refine ⟨ad, rfl, h6, fun q v hq => ?_⟩
        obtain ⟨i, j, e2, c, hi, hj, hqq, rfl⟩ := h4 q v hq
        obtain ⟨h7, ad2, h8, _, h9⟩ := h1 i e2 hi
        cases h8
        have hn2 := hn e2 (List.mem_of_getElem? hi)
        have := (h9 j c hj).2.2.1
        rw [← h7, hn2] at this
        rw [Nat.zero_mul, Nat.zero_add] at hqq
        rw [hqq, ← Nat.add_assoc]
        exact this
    · cases hl
  · rename_i m off len
    cases hh : h m with
    | none => simp [hh] at hl
    | some kb =>
      simp only [hh, Option.bind_some] at hl
      split at hl
      · rename_i hq
        cases hl
        cases hv with
        | hs _ _ _ a cap r hr hcap hb hor =>
        obtain ⟨r', q1, q2, q3, q4, q4', q5, q6⟩ := hs.blk m kb hh
        rw [hr] at q1
        cases q1
        have hlen : ((kb.es.drop off).take len).length = len := by simp; omega
        have get : ∀ (i : Nat) (e : List AV), ((kb.es.drop off).take len)[i]? = some e → kb.es[off + i]? = some e := fun i e he => by
          rw [List.getElem?_take] at he
          split at he
          · rwa [List.getElem?_drop] at he
          · cases he
        have hn : ∀ e ∈ (kb.es.drop off).take len, e.length = n := fun e he => by
          obtain ⟨i, hi⟩ := List.mem_iff_getElem?.1 he
          rw [← hq.1]
          exact (q6 _ _ (get i e hi)).1
        obtain ⟨us, h3, h4⟩ := rel_flatten (σ := σ) (w := w) (B := B) (X := Held σ h) (n := n) (Q := fun q v => v.oneCell' = true ∧ w.cell? ⟨r.b, r.o + off * r.sz + q, none⟩ = some v) _ 0 hn (fun i e he j c hc => by
          obtain ⟨_, v, q8, q9, q10⟩ := (q6 _ _ (get i e he)).2 j c hc
          refine ⟨v, q10, q8, ?_⟩
          have e1 : r.o + off * r.sz + ((0 + i) * n + j) = r.o + (off + i) * kb.sz + j := by
            rw [q2, ← hq.1, Nat.zero_add, Nat.add_mul]
            omega
          rw [e1]
          exact q9)
        refine ⟨a, cap, us, by rw [hlen], ⟨h3, fun e he c hc => ?_, fun v hv => ?_, hn, by rw [hlen]; exact hcap, by rw [hlen]; exact hb, fun hne => ?_⟩⟩
        · obtain ⟨i, hi⟩ := List.mem_iff_getElem?.1 he
          obtain ⟨j, hj⟩ := List.mem_iff_getElem?.1 hc
          exact ((q6 _ _ (get i e hi)).2 j c hj).1
        · obtain ⟨q, hq⟩ := List.mem_iff_getElem?.1 hv
          exact (h4 q v hq).1
        · rcases hor with hc0 | ⟨ha, _⟩
          · exfalso
            apply hne
            apply List.eq_nil_of_length_eq_zero
            omega
          · exact ⟨_, ha, rfl, fun q v hqv => by
              have := (h4 q v hqv).2
              rw [Nat.zero_mul, Nat.zero_add] at this
              exact this⟩
      · cases hl
  · exact absurd rfl (hx _)
  · cases hl
/-- What may be appended. -/
theorem aSrc_ok (hs : SR B w0 σ h w) {n : Nat} {tx : TypeId} {x : AV} {cx : Value} {es : List (List AV)} (hl : aRow h n x = some es) (hv : VR σ w (Held σ h) B x cx)
    (hk : (∃ l, x = .str l) → P.underlying tx = some .string) (hk2 : (∀ l, x ≠ .str l) → ∃ e, P.underlying tx = some (.slice e)) :
    ∃ vs, Src P n tx cx es.length vs w ∧ VRs σ w (Held σ h) B es.flatten vs ∧ (∀ e ∈ es, ∀ a ∈ e, a.one = true) ∧ (∀ e ∈ es, e.length = n) := by
  by_cases hx : ∃ l, x = .str l
  · obtain ⟨l, rfl⟩ := hx
    simp only [aRow] at hl
    split at hl <;> try cases hl
    rename_i h1
    subst h1
    cases hv with
    | str s hb =>
    refine ⟨byteCells s, ?_, ?_, fun e he a ha => ?_, fun e he => ?_⟩
    · have := Src.ofString (P := P) w (tx := tx) (hk ⟨_, rfl⟩) s
      have e1 : ((octs s).map fun c => [AV.int .u8 c]).length = s.size := by
        rw [List.length_map]
        unfold octs
        rw [List.length_map, Array.length_toList]
        rfl
      rw [e1]
      exact this
    · have e2 : ((octs s).map fun c => [AV.int .u8 c]).flatten = s.data.toList.map fun b => AV.int .u8 (b.toNat : Int) := by
        unfold octs
        rw [List.map_map]
        induction s.data.toList with
        | nil => rfl
        | cons b l ih => simp [ih]
      rw [e2]
      refine ⟨by simp [byteCells], fun j c v hc hv => ?_⟩
      unfold byteCells at hv
      rw [List.getElem?_map] at hc hv
      cases hb : s.data.toList[j]? with
      | none => simp [hb] at hc
      | some b =>
        simp only [hb, Option.map_some, Option.some.injEq] at hc hv
        subst hc hv
        refine .int _ _ ⟨?_, ?_⟩
        · simp [IntKind.min, IntKind.signed]
        · have := b.toNat_lt
          simp [IntKind.max, IntKind.signed, IntKind.bits]
          omega
    · obtain ⟨c, _, rfl⟩ := List.mem_map.1 he
      simp at ha
      subst ha
      rfl
    · obtain ⟨c, _, rfl⟩ := List.mem_map.1 he
      rfl
  · obtain ⟨a, cap, vs, rfl, hr⟩ := aRow_ok hs hl hv (fun l e => hx ⟨l, e⟩)
    obtain ⟨e', he'⟩ := hk2 (fun l e => hx ⟨l, e⟩)
    refine ⟨vs, ?_, hr.rel, hr.one, hr.szs⟩
    cases a with
    | none =>
      have h0 : es = [] := by
        apply Classical.byContradiction
        intro hne
        obtain ⟨ad, h1, _⟩ := hr.at_ hne
        cases h1
      subst h0
      have hv0 : vs = [] := by
        have := hr.rel.1
        simp at this
        exact List.eq_nil_of_length_eq_zero this.symm
      subst hv0
      exact Src.ofNil w he' cap
    | some ad =>
      refine Src.ofSlice w he' ad es.length cap vs hr.length (fun j u hu => ?_) hr.cell
      have hne : es ≠ [] := by
        rintro rfl
        have := hr.length
        have hj := (List.getElem?_eq_some_iff.1 hu).1
        simp at this
        subst this
        simp at hj
      obtain ⟨ad', h1, h2, h3⟩ := hr.at_ hne
      cases h1
      obtain ⟨b, o, sp⟩ := ad
      cases h2
      rw [Addr.add_none]
      exact h3 j u hu
end
end Go.Proofs.Ytcnofpoffdjbpaa.AE
