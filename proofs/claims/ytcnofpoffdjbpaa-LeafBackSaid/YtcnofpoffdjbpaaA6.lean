/- copy and clear, on abstract values; and that the model's do the like. No program in sight. -/
import Derived.Test.YtcnofpoffdjbpaaA5
namespace Go.Proofs.Ytcnofpoffdjbpaa.AE
open Go Go.RowKit
set_option linter.unusedVariables false
set_option linter.unusedSimpArgs false
variable {P : Program}

def rowPut (l : List (List AV)) (off : Nat) (ys : List (List AV)) : List (List AV) := l.take off ++ ys ++ l.drop (off + ys.length)
theorem rowPut_length {l ys : List (List AV)} {off : Nat} (h : off + ys.length ≤ l.length) : (rowPut l off ys).length = l.length := by simp [rowPut]; omega
theorem rowPut_get {l ys : List (List AV)} {j : Nat} (h : j + ys.length ≤ l.length) (i : Nat) (a : List AV) (hi : (rowPut l j ys)[i]? = some a) :
    (j ≤ i ∧ i < j + ys.length ∧ ys[i - j]? = some a) ∨ ((i < j ∨ j + ys.length ≤ i) ∧ l[i]? = some a) := by
  unfold rowPut at hi
  by_cases h1 : i < j
  · rw [List.append_assoc, List.getElem?_append_left (by simp; omega), List.getElem?_take, if_pos h1] at hi
    exact .inr ⟨.inl h1, hi⟩
  · by_cases h2 : i < j + ys.length
    · rw [List.append_assoc, List.getElem?_append_right (by simp; omega), List.getElem?_append_left (by simp; omega)] at hi
      exact .inl ⟨by omega, h2, by rw [show (l.take j).length = j by simp; omega] at hi; exact hi⟩
    · rw [List.getElem?_append_right (by simp; omega), List.getElem?_drop] at hi
      refine .inr ⟨.inr (by omega), ?_⟩
      rw [show j + ys.length + (i - (l.take j ++ ys).length) = i by simp; omega] at hi
      exact hi
section
variable {B : Nat} {w0 w w' : World} {σ : Sig} {h h' : AHeap} {k : Nat}
/-- Whole elements of an owned row are written. -/
theorem SR.put (hs : SR B w0 σ h w) {m off n : Nat} {kb : Blk} {r : Rng} (hh : h m = some kb) (hr : σ m = some r) (hsz : kb.sz = n) {ys : List (List AV)} (hfit : off + ys.length ≤ kb.es.length) {news : List Value}
    (hy : VRs σ w (Held σ h) B ys.flatten news) (hy1 : ∀ e ∈ ys, ∀ a ∈ e, a.one = true) (hyn : ∀ e ∈ ys, e.length = n) :
    w.there r.b (r.o + off * n) news.length ∧ SR B w0 σ (upd h m (some ⟨n, rowPut kb.es off ys⟩)) (w.setCells r.b (r.o + off * n) news) ∧
      ∀ a v, VR σ w (Held σ h) B a v → VR σ (w.setCells r.b (r.o + off * n) news) (Held σ (upd h m (some ⟨n, rowPut kb.es off ys⟩))) B a v := by
  obtain ⟨r', q1, q2, q3, q4, q4', q5, q6⟩ := hs.blk m kb hh
  rw [hr] at q1
  cases q1
  have hnl : news.length = ys.length * n := by rw [← hy.1, flatten_length hyn]
  rw [hsz] at q2 q4 q6
  have hmul : (off + ys.length) * n ≤ kb.es.length * n := Nat.mul_le_mul_right _ hfit
  rw [Nat.add_mul] at hmul
  have hin : ∀ i, i < news.length → r.has r.b (r.o + off * n + i) := fun i hi => ⟨rfl, by omega, by omega⟩
  have hthere : w.there r.b (r.o + off * n) news.length := fun i hi => q5 _ (hin i hi)
  have hsome : ∀ i, i < news.length → (w.cell? ⟨r.b, r.o + off * n + i, none⟩).isSome = true := fun i hi => (hthere i hi).1
  have hupd : upd (fun i => if decide (i = m) = true then none else h i) m (some ⟨n, rowPut kb.es off ys⟩) = upd h m (some ⟨n, rowPut kb.es off ys⟩) := by
    funext i
    unfold upd
    split
    · rfl
    · simp [*]
  have hσ : upd σ m (some r) = σ := by
    funext i
    unfold upd
    split
    · subst_vars; exact hr.symm
    · rfl
  have := hs.turn (w' := w.setCells r.b (r.o + off * n) news) (fun i => decide (i = m)) m r ⟨n, rowPut kb.es off ys⟩ (.inr ⟨by simp, hr⟩) (setCells_below q3 _ _ _ (Below.refl _ _))
    (fun b i v hv hx => by
      rw [World.cell?_setCells_out]
      · exact hv
      · intro hb _
        simp only at hb
        subst hb
        by_cases hq : r.has r.b i
        · exact absurd hq (hx m r (by simp) (by rw [hh]; rfl) hr)
        · have q8 : ¬ (r.o ≤ i ∧ i < r.o + r.c) := fun q => hq ⟨rfl, q.1, q.2⟩
          show i < _ ∨ _ ≤ i
          omega)
    (fun b i hb => World.frozen?_setCells _ _ _ _ _) q3
    (fun i hi => ⟨by
        by_cases hq : r.o + off * n ≤ i ∧ i < r.o + off * n + news.length
        · obtain ⟨x, rfl⟩ : ∃ x, i = r.o + off * n + x := ⟨i - (r.o + off * n), by omega⟩
          rw [World.cell?_setCells_in _ _ _ _ hsome x (by omega)]
          rfl
        · rw [World.cell?_setCells_out]
          · exact (q5 i hi).1
          · intro _ _
            show i < _ ∨ _ ≤ i
            omega, by rw [World.frozen?_setCells]; exact (q5 i hi).2, .inr ⟨m, r, by simp, by rw [hh]; rfl, hr, hi⟩⟩) q2 (by simp only [rowPut_length hfit]; exact q4) (by simp only [rowPut_length hfit]; exact q4')
    (fun i e he => by
      rcases rowPut_get hfit i e he with ⟨h1, h2, h3⟩ | ⟨h1, h2⟩
      · have hen := hyn e (List.mem_of_getElem? h3)
        refine ⟨hen, fun j a ha => ?_⟩
        obtain ⟨v, h5, h6⟩ := hy.get (flatten_get hyn h3 ha)
        have ho := hy1 e (List.mem_of_getElem? h3) a (List.mem_of_getElem? ha)
        refine ⟨ho, v, h6.oneCell ho, ?_, h6⟩
        have hlt := (List.getElem?_eq_some_iff.1 h5).1
        have ee : i * n = off * n + (i - off) * n := by rw [← Nat.add_mul]; congr 1; omega
        show (w.setCells _ _ _).cell? ⟨r.b, r.o + i * n + j, none⟩ = some v
        rw [show r.o + i * n + j = r.o + off * n + ((i - off) * n + j) by omega, World.cell?_setCells_in _ _ _ _ hsome _ hlt]
        rw [List.getElem?_eq_getElem hlt] at h5
        exact h5
      · obtain ⟨h3, h4⟩ := q6 i e h2
        refine ⟨h3, fun j a ha => ?_⟩
        obtain ⟨h5, v, h6, h7, h8⟩ := h4 j a ha
        refine ⟨h5, v, h6, ?_, h8⟩
        have hj := (List.getElem?_eq_some_iff.1 ha).1
        rw [World.cell?_setCells_out]
        · exact h7
        · intro _ _
          show r.o + i * n + j < _ ∨ _ ≤ r.o + i * n + j
          rcases h1 with h1 | h1
          · have ed : (i + 1) * n ≤ off * n := Nat.mul_le_mul_right _ h1
            rw [Nat.succ_mul] at ed
            omega
          · have ed : (off + ys.length) * n ≤ i * n := Nat.mul_le_mul_right _ h1
            rw [Nat.add_mul] at ed
            omega)
  rw [hupd, hσ] at this
  exact ⟨hthere, this⟩

/-! ### copy -/
def aCopy (P : Program) (h : AHeap) (dT sT : TypeId) (x y : AV) : Option (AV × AHeap) :=
  match P.underlying dT, x with
  | some (.slice e), .hs m off len => (sizeT P e).bind fun n => (h m).bind fun kb => (aRow h n y).bind fun ys =>
      if kb.sz = n ∧ off + len ≤ kb.es.length then some (.int .i64 (min ys.length len : Nat), upd h m (some ⟨n, rowPut kb.es off (ys.take len)⟩)) else none
  | some (.slice e), .zs => (sizeT P e).bind fun n => (aRow h n y).bind fun ys => some (.int .i64 0, h)
  | _, _ => none
theorem InR_len {n : Nat} (h : n < big) : InR .i64 n := by
  unfold big at h
  constructor
  · simp [IntKind.min, IntKind.signed, IntKind.bits]
    try omega
  · simp [IntKind.max, IntKind.signed, IntKind.bits]
    omega
theorem flatten_take {n : Nat} : ∀ {es : List (List AV)} (c : Nat), (∀ e ∈ es, e.length = n) → (es.take c).flatten = es.flatten.take (c * n)
  | [], c, _ => by simp
  | x :: es, 0, _ => by simp
  | x :: es, c + 1, hn => by
    have hx := hn x (by simp)
    rw [List.take_succ_cons, List.flatten_cons, List.flatten_cons, flatten_take c (fun e he => hn e (by simp [he])), List.take_append, List.take_of_length_le (l := x) (by rw [hx, Nat.succ_mul]; omega)]
    rw [hx, Nat.succ_mul, Nat.add_sub_cancel]
theorem aCopy_ok (hs : SR B w0 σ h w) {dT sT ty : TypeId} {x y v : AV} {cx cy : Value} (hl : aCopy P h dT sT x y = some (v, h')) (hx : VR σ w (Held σ h) B x cx) (hy : VR σ w (Held σ h) B y cy) :
    ∃ cv w', (Builtin.copy_ #[dT, sT] ty #[cx, cy]).run P w = .ok cv w' ∧ Out B w0 σ h w k k v h' cv w' := by
  unfold aCopy at hl
  split at hl
  · rename_i e m off len hu
    simp only [Option.bind_eq_some_iff] at hl
    obtain ⟨n, hn, kb, hh, ys, hys, hl⟩ := hl
    split at hl <;> try (cases hl; done)
    rename_i hq
    cases hl
    obtain ⟨i, hi, hin⟩ : ∃ i, P.info? e = some i ∧ i.size = n := by
      unfold sizeT at hn
      simpa using hn
    cases hx with
    | hs _ _ _ a cap r hr hcap hb hor =>
    obtain ⟨r', q1, q2, _⟩ := hs.blk m kb hh
    rw [hr] at q1
    cases q1
    -- the source
    obtain ⟨vs, hlen, hfirst, hrel, hone, hszs, hbig⟩ : ∃ vs : List Value, (∀ u, (Builtin.lenOf cy).run P u = .ok ys.length u) ∧ (∀ c, c ≤ ys.length → (Builtin.firstCells n c cy).run P w = .ok (vs.take (c * n)).toArray w) ∧ VRs σ w (Held σ h) B ys.flatten vs ∧ (∀ e ∈ ys, ∀ a ∈ e, a.one = true) ∧ (∀ e ∈ ys, e.length = n) ∧ ys.length < big := by
      by_cases hstr : ∃ l, y = .str l
      · obtain ⟨l, rfl⟩ := hstr
        have hys' := hys
        simp only [aRow] at hys'
        split at hys' <;> try (cases hys'; done)
        rename_i h1
        subst h1
        cases hys'
        cases hy with
        | str s hb =>
        have hol : ((octs s).map fun c => [AV.int .u8 c]).length = s.size := by
          rw [List.length_map]
          unfold octs
          rw [List.length_map, Array.length_toList]
          rfl
        refine ⟨byteCells s, fun u => by rw [hol]; rfl, fun c hc => ?_, ?_, ?_, ?_, by rw [hol]; exact hb⟩
        · rw [hol] at hc
          simp only [Builtin.firstCells, Nat.mul_one]
          rw [Sem.run_pure]
          congr 1
          apply Array.ext'
          unfold byteCells
          rw [← List.map_take]
          simp
        · refine ⟨by rw [flatten_length (n := 1) (by simp), hol, byteCells_length, Nat.mul_one], fun j c v hc hv => ?_⟩
          have e2 : ((octs s).map fun c => [AV.int .u8 c]).flatten = s.data.toList.map fun b => AV.int .u8 (b.toNat : Int) := by
            unfold octs
            rw [List.map_map]
            induction s.data.toList with
            | nil => rfl
            | cons b l ih => simp [ih]
          rw [e2] at hc
          unfold byteCells at hv
          rw [List.getElem?_map] at hc hv
          cases hb : s.data.toList[j]? with
          | none => simp [hb] at hc
          | some b =>
            simp only [hb, Option.map_some, Option.some.injEq] at hc hv
            subst hc hv
            refine .int _ _ ⟨?_, ?_⟩
            · simp [IntKind.min, IntKind.signed]
            · have := b.toNat_lt
              simp [IntKind.max, IntKind.signed, IntKind.bits]
              omega
        · intro e he a ha
          obtain ⟨c, _, rfl⟩ := List.mem_map.1 he
          simp at ha
          subst ha
          rfl
        · intro e he
          obtain ⟨c, _, rfl⟩ := List.mem_map.1 he
          rfl
      · obtain ⟨a2, cap2, vs, rfl, hR⟩ := aRow_ok hs hys hy (fun l e => hstr ⟨l, e⟩)
        refine ⟨vs, fun u => rfl, fun c hc => ?_, hR.rel, hR.one, hR.szs, hR.big⟩
        by_cases hne : ys = []
        · subst hne
          simp at hc
          subst hc
          cases a2 <;> simp [Builtin.firstCells, loadCells, loadCellsFrom]
        · obtain ⟨ad, rfl, hsp, hat⟩ := hR.at_ hne
          obtain ⟨b, o, sp⟩ := ad
          cases hsp
          refine run_firstCells_some w n c ⟨b, o, none⟩ ys.length cap2 (vs.take (c * n)) ?_ (fun j v hj => ?_)
          · rw [List.length_take, hR.length]
            have := Nat.mul_le_mul_right n hc
            omega
          · rw [Addr.add_none]
            refine hat j v ?_
            rw [List.getElem?_take] at hj
            split at hj
            · exact hj
            · cases hj
    have hmin : Nat.min ys.length len = min ys.length len := rfl
    have hvl : vs.length = ys.length * n := by rw [← hrel.1, flatten_length hszs]
    have htl : (ys.take len).length = min ys.length len := by simp [Nat.min_comm]
    have hvt : vs.take (min ys.length len * n) = vs.take (len * n) := by
      by_cases hle : ys.length ≤ len
      · rw [Nat.min_eq_left hle, List.take_of_length_le (by omega), List.take_of_length_le (by have := Nat.mul_le_mul_right n hle; omega)]
      · rw [Nat.min_eq_right (by omega)]
    have hput := hs.put hh hr hq.1 (off := off) (ys := ys.take len) (news := vs.take (len * n)) (by rw [htl]; omega) (by rw [flatten_take _ hszs]; exact hrel.take _) (fun e he => hone e (List.mem_of_mem_take he)) (fun e he => hszs e (List.mem_of_mem_take he))
    obtain ⟨hthere, hsr, hkeep⟩ := hput
    have hrs : r.sz = n := by rw [q2, hq.1]
    have hall : ∀ v ∈ vs.take (len * n), v.oneCell' = true := fun v hv => by
      obtain ⟨j, hj⟩ := List.mem_iff_getElem?.1 (List.mem_of_mem_take hv)
      have hj2 : j < ys.flatten.length := by rw [hrel.1]; exact (List.getElem?_eq_some_iff.1 hj).1
      have hm := List.getElem_mem hj2
      obtain ⟨e, he, ha⟩ := List.mem_flatten.1 hm
      exact (hrel.2 j _ v (List.getElem?_eq_getElem hj2) hj).oneCell (hone e he _ ha)
    have hst := run_storeCells_cells (P := P) r.b (r.o + off * n) (vs.take (len * n)) 0 w (fun j hj => by simpa using (hthere j hj).1) (fun j hj => by simpa using (hthere j hj).2) hall
    simp only [Nat.add_zero] at hst
    have hfc := hfirst (min ys.length len) (Nat.min_le_left _ _)
    rw [hvt] at hfc
    have hmn : min ys.length len < big := by omega
    refine ⟨goInt (min ys.length len : Nat), w.setCells r.b (r.o + off * n) (vs.take (len * n)), ?_, σ, hsr, fun _ _ => rfl, hkeep, .int _ _ (InR_len hmn)⟩
    rcases hor with hc0 | ⟨rfl, _⟩
    · have hl0 : len = 0 := by omega
      subst hl0
      simp only [Nat.zero_mul, List.take_zero, World.setCells, Nat.min_zero] at hst hfc ⊢
      cases a <;> simp [Builtin.copy_, run_underlying hu, hlen, sizeOf, typeInfo, hi, hin, hmin, hfc, storeCells, Nat.min_zero]
    · rw [hrs]
      simp [Builtin.copy_, run_underlying hu, hlen, sizeOf, typeInfo, hi, hin, hmin, hfc, hst]
  · rename_i e hu
    simp only [Option.bind_eq_some_iff] at hl
    obtain ⟨n, hn, ys, hys, hl⟩ := hl
    cases hl
    obtain ⟨i, hi, hin⟩ : ∃ i, P.info? e = some i ∧ i.size = n := by
      unfold sizeT at hn
      simpa using hn
    cases hx with
    | zs a =>
    refine ⟨goInt 0, w, ?_, Out.same hs (.int _ _ (by decide))⟩
    by_cases hstr : ∃ l, y = .str l
    · obtain ⟨l, rfl⟩ := hstr
      cases hy with
      | str s hb =>
      have : s.extract 0 0 = ByteArray.empty := by
        apply ByteArray.ext
        simp
      cases a <;> simp [Builtin.copy_, run_underlying hu, Builtin.lenOf, Builtin.firstCells, sizeOf, typeInfo, hi, storeCells, Nat.min_def, this]
    · obtain ⟨a2, cap2, vs, rfl, hR⟩ := aRow_ok hs hys hy (fun l e => hstr ⟨l, e⟩)
      cases a <;> cases a2 <;> simp [Builtin.copy_, run_underlying hu, Builtin.lenOf, Builtin.firstCells, sizeOf, typeInfo, hi, storeCells, loadCells, loadCellsFrom, Nat.min_def]
  · cases hl

/-! ### clear -/
def aClear (P : Program) (h : AHeap) (t : TypeId) (x : AV) : Option AHeap :=
  match P.underlying t, x with
  | some (.slice e), .hs m off len => (zeroT P e).bind fun zs => (h m).bind fun kb =>
      if kb.sz = zs.length ∧ off + len ≤ kb.es.length ∧ zs.all AV.one = true then some (upd h m (some ⟨kb.sz, rowPut kb.es off (List.replicate len zs)⟩)) else none
  | some (.slice e), .zs => some h
  | _, _ => none
theorem aClear_ok (hs : SR B w0 σ h w) {t ty : TypeId} {x : AV} {cx : Value} (hl : aClear P h t x = some h') (hx : VR σ w (Held σ h) B x cx) :
    ∃ w', (Builtin.clear_ #[t] ty #[cx]).run P w = .ok (.tuple #[]) w' ∧ Out B w0 σ h w k k (.tup []) h' (.tuple #[]) w' := by
  have ht : ∀ (σ' : Sig) (u : World) (X : Nat → Nat → Prop), VR σ' u X B (.tup []) (.tuple #[]) := fun _ _ _ => VR.tup_iff.2 ⟨[], rfl, .nil⟩
  unfold aClear at hl
  split at hl
  · rename_i e m off len hu
    simp only [Option.bind_eq_some_iff] at hl
    obtain ⟨zs, hz, kb, hh, hl⟩ := hl
    split at hl <;> try (cases hl; done)
    rename_i hq
    obtain ⟨h1, h2, h3⟩ := hq
    cases hl
    unfold zeroT at hz
    simp only [Option.bind_eq_some_iff, Option.map_eq_some_iff] at hz
    obtain ⟨z, ⟨i, hi, hz⟩, rfl⟩ := hz
    cases hx with
    | hs _ _ _ a cap r hr hcap hb hor =>
    obtain ⟨r', q1, q2, _⟩ := hs.blk m kb hh
    rw [hr] at q1
    cases q1
    have hzn : ∀ e ∈ List.replicate len (z.cells.toList.map avOf1), e.length = kb.sz := fun e he => by rw [(List.mem_replicate.1 he).2, h1]
    obtain ⟨hthere, hsr, hkeep⟩ := hs.put hh hr rfl (off := off) (ys := List.replicate len (z.cells.toList.map avOf1)) (news := (List.replicate len z.cells.toList).flatten) (by simpa using h2) ((VRs.of1 _).replicate _)
      (fun e he a ha => by rw [(List.mem_replicate.1 he).2] at ha; exact List.all_eq_true.1 h3 a ha) hzn
    have hall : ∀ v ∈ (List.replicate len z.cells.toList).flatten, v.oneCell' = true := fun v hv => by
      obtain ⟨l, hl, hv⟩ := List.mem_flatten.1 hv
      rw [(List.mem_replicate.1 hl).2] at hv
      obtain ⟨j, hj⟩ := List.mem_iff_getElem?.1 hv
      have h5 : (z.cells.toList.map avOf1)[j]? = some (avOf1 v) := by rw [List.getElem?_map, hj]; rfl
      exact (VR.of1 (σ := σ) (w := w) (X := Held σ h) (B := B) v).oneCell (List.all_eq_true.1 h3 _ (List.mem_of_getElem? h5))
    have hst := run_storeCells_cells (P := P) r.b (r.o + off * kb.sz) (List.replicate len z.cells.toList).flatten 0 w (fun j hj => by simpa using (hthere j hj).1) (fun j hj => by simpa using (hthere j hj).2) hall
    simp only [Nat.add_zero] at hst
    have hzc : (Builtin.zeroCells z.cells len).toList = (List.replicate len z.cells.toList).flatten := by
      unfold Builtin.zeroCells
      rw [zeros_flatten, Array.toList_map, Array.toList_range]
      simp [getElem!_def]
    refine ⟨_, ?_, σ, hsr, fun _ _ => rfl, hkeep, ht _ _ _⟩
    by_cases hl0 : len = 0
    · subst hl0
      cases a <;> simp [Builtin.clear_, run_underlying hu, World.setCells]
    · rcases hor with hc0 | ⟨rfl, _⟩
      · omega
      · obtain ⟨len', rfl⟩ : ∃ l, len = l + 1 := ⟨len - 1, by omega⟩
        rw [q2]
        simp [Builtin.clear_, run_underlying hu, zeroValue, typeInfo, hi, hz, hzc, hst]
  · rename_i e hu
    cases hl
    cases hx with
    | zs a =>
    refine ⟨w, ?_, Out.same hs (ht _ _ _)⟩
    cases a <;> simp [Builtin.clear_, run_underlying hu]
  · cases hl
end
end Go.Proofs.Ytcnofpoffdjbpaa.AE
