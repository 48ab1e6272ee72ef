/- The operations that touch memory, on abstract values; and that the model's do the like. No program in sight. -/
import Derived.Test.YtcnofpoffdjbpaaA1
import Derived.Deep.MidRow
namespace Go.Proofs.Ytcnofpoffdjbpaa.AE
open Go Go.RowKit
set_option linter.unusedVariables false
set_option linter.unusedSimpArgs false

/-- What an operation leaves: memory that turned, names k .. k' that are new, and a value. -/
def Out (B : Nat) (w0 : World) (σ : Sig) (h : AHeap) (w : World) (k k' : Nat) (a : AV) (h' : AHeap) (v : Value) (w' : World) : Prop :=
  ∃ σ' : Sig, SR B w0 σ' h' w' ∧ (∀ n, n < k ∨ k' ≤ n → σ' n = σ n) ∧ (∀ b u, VR σ w (Held σ h) B b u → VR σ' w' (Held σ' h') B b u) ∧ VR σ' w' (Held σ' h') B a v
theorem Out.same {B : Nat} {w0 w : World} {σ : Sig} {h : AHeap} {k : Nat} {a : AV} {v : Value} (hs : SR B w0 σ h w) (hv : VR σ w (Held σ h) B a v) : Out B w0 σ h w k k a h v w :=
  ⟨σ, hs, fun _ _ => rfl, fun _ _ q => q, hv⟩

variable {P : Program}
def sizeT (P : Program) (t : TypeId) : Option Nat := (P.info? t).map (·.size)
def byteT (P : Program) (t : TypeId) : Option Nat := (P.info? t).map (·.bytes)
def avOf1 : Value → AV
  | .bool b => .bool b
  | .int k n => if InR k n then .int k n else .undef
  | .string s => if s.size < big then .str (octs s) else .undef
  | .slice none 0 0 => .zs
  | .pointer none => .nilp
  | .nilFunc => .nilf
  | .nilIface => .niliface
  | _ => .undef
def avOf : Value → AV
  | .agg cs => .agg (cs.toList.map avOf1)
  | v => avOf1 v
def zeroT (P : Program) (t : TypeId) : Option (List AV) := ((P.info? t).bind (·.zero)).map fun v => v.cells.toList.map avOf1
def aggT (P : Program) (t : TypeId) : Option Bool := (P.underlying t).map fun d => match d with | .struct _ | .array _ _ => true | _ => false

section
variable {σ : Sig} {w : World} {X : Nat → Nat → Prop} {B : Nat}
theorem VR.of1 (v : Value) : VR σ w X B (avOf1 v) v := by
  unfold avOf1
  split
  · exact .bool _
  · split
    · exact .int _ _ (by assumption)
    · exact .undef _
  · split
    · exact .str _ (by assumption)
    · exact .undef _
  · exact .zs _
  · exact .nilp
  · exact .nilf
  · exact .niliface
  · exact .undef _
theorem VRs.of1 (vs : List Value) : VRs σ w X B (vs.map avOf1) vs := ⟨by simp, fun j c v h1 h2 => by
  rw [List.getElem?_map, h2] at h1
  cases h1
  exact .of1 v⟩
theorem VR.of (v : Value) : VR σ w X B (avOf v) v := by
  unfold avOf
  split
  · exact VR.agg_iff.2 ⟨_, by simp, .of1 _⟩
  · exact .of1 v
end

/-! ### Places -/
def aPlace (h : AHeap) : AV → Option (List AV)
  | .ptr n e j => (h n).bind fun k => (k.es[e]?).map (·.drop j)
  | .ip cs => some cs
  | _ => none
/-- The cells of a list of abstract values stand there. -/
theorem list_of {α : Type} {n : Nat} {Q : Nat → α → Prop} (h : ∀ j, j < n → ∃ v, Q j v) : ∃ vs : List α, vs.length = n ∧ ∀ (j : Nat) v, vs[j]? = some v → Q j v := by
  induction n with
  | zero => exact ⟨[], rfl, fun j v hv => by simp at hv⟩
  | succ n ih =>
    obtain ⟨vs, h1, h2⟩ := ih fun j hj => h j (by omega)
    obtain ⟨v, hv⟩ := h n (by omega)
    refine ⟨vs ++ [v], by simp [h1], fun j u hu => ?_⟩
    by_cases hj : j < n
    · rw [List.getElem?_append_left (by omega)] at hu
      exact h2 j u hu
    · rw [List.getElem?_append_right (by omega)] at hu
      have hj' := (List.getElem?_eq_some_iff.1 hu).1
      simp at hj'
      obtain rfl : j = n := by omega
      simp [h1] at hu
      exact hu ▸ hv
theorem place_cells {B : Nat} {w0 w : World} {σ : Sig} {h : AHeap} {a : AV} {ca : Value} {cs : List AV} (hs : SR B w0 σ h w) (hp : aPlace h a = some cs) (hv : VR σ w (Held σ h) B a ca) :
    ∃ (b o : Nat) (vs : List Value), ca = .pointer (some ⟨b, o, none⟩) ∧ VRs σ w (Held σ h) B cs vs ∧ w.rangeAt b o vs ∧ (∀ c ∈ cs, c.one = true) ∧ (∀ v ∈ vs, v.oneCell' = true) := by
  unfold aPlace at hp
  split at hp
  · rename_i n e j
    cases hv with
    | ptr _ _ _ r hr =>
    cases hh : h n with
    | none => simp [hh] at hp
    | some k =>
      simp only [hh, Option.bind_some, Option.map_eq_some_iff] at hp
      obtain ⟨es, he, rfl⟩ := hp
      obtain ⟨r', h1, h2, h3, h4, h4', h5, h6⟩ := hs.blk n k hh
      rw [hr] at h1
      cases h1
      obtain ⟨h7, h8⟩ := h6 e es he
      obtain ⟨vs, hl, hvs⟩ := list_of (n := es.length) (Q := fun i v => ∀ a, es[i]? = some a → a.one = true ∧ v.oneCell' = true ∧ w.cell? ⟨r.b, r.o + e * k.sz + i, none⟩ = some v ∧ VR σ w (Held σ h) B a v) (fun i hi => by
        obtain ⟨q1, v, q2, q3, q4⟩ := h8 i es[i] (List.getElem?_eq_getElem hi)
        exact ⟨v, fun a ha => by rw [List.getElem?_eq_getElem hi] at ha; cases ha; exact ⟨q1, q2, q3, q4⟩⟩)
      have hg : ∀ (i : Nat) v, vs[i]? = some v → ∃ a, es[i]? = some a := fun i v hv => ⟨es[i]'(by have := (List.getElem?_eq_some_iff.1 hv).1; omega), List.getElem?_eq_getElem _⟩
      refine ⟨r.b, _, vs.drop j, rfl, ⟨by simp [hl], fun i c v hc hv => ?_⟩, fun i v hv => ?_, fun c hc => ?_, fun v hv => ?_⟩
      · rw [List.getElem?_drop] at hc hv
        exact (hvs _ v hv c hc).2.2.2
      · rw [List.getElem?_drop] at hv
        obtain ⟨a, ha⟩ := hg _ _ hv
        have := (hvs _ v hv a ha).2.2.1
        rw [h2]
        rw [show r.o + e * k.sz + j + i = r.o + e * k.sz + (j + i) by omega]
        exact this
      · obtain ⟨i, hi⟩ := List.mem_iff_getElem?.1 (List.mem_of_mem_drop hc)
        exact (h8 i c hi).1
      · obtain ⟨i, hi⟩ := List.mem_iff_getElem?.1 (List.mem_of_mem_drop hv)
        obtain ⟨a, ha⟩ := hg _ _ hi
        exact (hvs i v hi a ha).2.1
  · cases hp
    cases hv with
    | ip _ ad vs hsp h1 h2 =>
    obtain ⟨b, o, sp⟩ := ad
    cases hsp
    refine ⟨b, o, (List.range cs.length).map vs, rfl, ⟨by simp, fun i c v hc hv => ?_⟩, fun i v hv => ?_, fun c hc => ?_, fun v hv => ?_⟩
    · have hi := (List.getElem?_eq_some_iff.1 hc).1
      simp [hi] at hv
      subst hv
      exact h2 i c hc
    · have hi := (List.getElem?_eq_some_iff.1 hv).1
      simp at hi
      simp [hi] at hv
      subst hv
      exact (h1 i cs[i] (List.getElem?_eq_getElem hi)).2.2.1
    · obtain ⟨i, hi⟩ := List.mem_iff_getElem?.1 hc
      exact (h1 i c hi).1
    · simp only [List.mem_map, List.mem_range] at hv
      obtain ⟨i, hi, rfl⟩ := hv
      exact (h1 i cs[i] (List.getElem?_eq_getElem hi)).2.1
  · cases hp

/-! ### load -/
def aLoad (P : Program) (h : AHeap) (t : TypeId) (a : AV) : Option AV :=
  (aPlace h a).bind fun cs => match aggT P t, sizeT P t with
    | some true, some n => if n ≤ cs.length then some (.agg (cs.take n)) else none
    | some false, _ => cs.head?
    | _, _ => none
theorem aLoad_ok {B : Nat} {w0 w : World} {σ : Sig} {h : AHeap} {t : TypeId} {a v : AV} {ca : Value} (hs : SR B w0 σ h w) (hl : aLoad P h t a = some v) (hv : VR σ w (Held σ h) B a ca) :
    ∃ cv, (Instr.loadAt t ca).run P w = .ok cv w ∧ VR σ w (Held σ h) B v cv := by
  unfold aLoad at hl
  cases hp : aPlace h a with
  | none => simp [hp] at hl
  | some cs =>
    simp only [hp, Option.bind_some] at hl
    obtain ⟨b, o, vs, rfl, h1, h2, h3, h4⟩ := place_cells hs hp hv
    split at hl
    · rename_i n ht hz
      split at hl
      · rename_i hn
        cases hl
        unfold aggT at ht
        obtain ⟨d, hd, hq⟩ := Option.map_eq_some_iff.1 ht
        have hlen : (vs.take n).length = n := by have := h1.1; simp; omega
        refine ⟨.agg (vs.take n).toArray, run_loadAt_mid w b o t (vs.take n) d (fun j v hj => h2 j v ?_) hd (by cases d <;> simp_all) (by rw [hlen]; exact hz), VR.agg_iff.2 ⟨_, rfl, h1.take n⟩⟩
        rw [List.getElem?_take] at hj
        split at hj
        · exact hj
        · cases hj
      · cases hl
    · rename_i ht
      unfold aggT at ht
      obtain ⟨d, hd, hq⟩ := Option.map_eq_some_iff.1 ht
      cases cs with
      | nil => cases hl
      | cons c cs =>
        cases hl
        cases vs with
        | nil => have := h1.1; simp at this
        | cons u vs =>
          refine ⟨u, ?_, h1.head⟩
          have hu := h2 0 u rfl
          have hagg : (isAgg t).run P w = .ok false w := by
            unfold isAgg
            rw [Sem.run_bind, run_underlying hd w]
            cases d <;> simp_all
          simp only [Nat.add_zero] at hu
          simp [Instr.loadAt, Instr.sureAddr, loadVar, Sem.run_bind, hagg, hu]
    · cases hl

/-! ### store -/
def splice (l : List AV) (j : Nat) (cs : List AV) : List AV := l.take j ++ cs ++ l.drop (j + cs.length)
def aStore (P : Program) (h : AHeap) (t : TypeId) (a v : AV) : Option AHeap :=
  match a with
  | .ptr n e j => (h n).bind fun k => (k.es[e]?).bind fun c =>
      if sizeT P t = some v.cells.length ∧ v.cells.all AV.one = true ∧ j + v.cells.length ≤ c.length then some (upd h n (some ⟨k.sz, k.es.set e (splice c j v.cells)⟩)) else none
  | _ => none
theorem splice_length {l cs : List AV} {j : Nat} (h : j + cs.length ≤ l.length) : (splice l j cs).length = l.length := by simp [splice]; omega
theorem splice_get {l cs : List AV} {j : Nat} (h : j + cs.length ≤ l.length) (i : Nat) (a : AV) (hi : (splice l j cs)[i]? = some a) :
    (j ≤ i ∧ i < j + cs.length ∧ cs[i - j]? = some a) ∨ ((i < j ∨ j + cs.length ≤ i) ∧ l[i]? = some a) := by
  unfold splice at hi
  by_cases h1 : i < j
  · rw [List.append_assoc, List.getElem?_append_left (by simp; omega), List.getElem?_take, if_pos h1] at hi
    exact .inr ⟨.inl h1, hi⟩
  · by_cases h2 : i < j + cs.length
    · rw [List.append_assoc, List.getElem?_append_right (by simp; omega), List.getElem?_append_left (by simp; omega)] at hi
      exact .inl ⟨by omega, h2, by rw [show (l.take j).length = j by simp; omega] at hi; exact hi⟩
    · rw [List.getElem?_append_right (by simp; omega), List.getElem?_drop] at hi
      refine .inr ⟨.inr (by omega), ?_⟩
      rw [show j + cs.length + (i - (l.take j ++ cs).length) = i by simp; omega] at hi
      exact hi
theorem big_lt {b : Nat} : b < big ↔ b < 4611686018427387904 := Iff.rfl
/-- Some cells of an element of an owned block are written. -/
theorem SR.write {B : Nat} {w0 w : World} {σ : Sig} {h : AHeap} (hs : SR B w0 σ h w) {n e j : Nat} {k : Blk} {c cs : List AV} {vs : List Value} {r : Rng} (hh : h n = some k) (hr : σ n = some r) (hc : k.es[e]? = some c) (hj : j + cs.length ≤ c.length)
    (hv : VRs σ w (Held σ h) B cs vs) (h1 : ∀ a ∈ cs, a.one = true) (h2 : ∀ v ∈ vs, v.oneCell' = true) :
    w.there r.b (r.o + e * r.sz + j) vs.length ∧ SR B w0 σ (upd h n (some ⟨k.sz, k.es.set e (splice c j cs)⟩)) (w.setCells r.b (r.o + e * r.sz + j) vs) ∧
      ∀ a v, VR σ w (Held σ h) B a v → VR σ (w.setCells r.b (r.o + e * r.sz + j) vs) (Held σ (upd h n (some ⟨k.sz, k.es.set e (splice c j cs)⟩))) B a v := by
  obtain ⟨r', q1, q2, q3, q4, q4', q5, q6⟩ := hs.blk n k hh
  rw [hr] at q1
  cases q1
  have hcl := (q6 e c hc).1
  have he := (List.getElem?_eq_some_iff.1 hc).1
  have hlen : vs.length = cs.length := hv.1.symm
  have hmul : (e + 1) * k.sz ≤ k.es.length * k.sz := Nat.mul_le_mul_right _ he
  rw [Nat.succ_mul] at hmul
  have hin : ∀ i, i < vs.length → r.has r.b (r.o + e * r.sz + j + i) := fun i hi => ⟨rfl, by omega, by rw [q2]; omega⟩
  have hthere : w.there r.b (r.o + e * r.sz + j) vs.length := fun i hi => q5 _ (hin i hi)
  have hsome : ∀ i, i < vs.length → (w.cell? ⟨r.b, r.o + e * r.sz + j + i, none⟩).isSome = true := fun i hi => (hthere i hi).1
  have hupd : upd (fun m => if decide (m = n) = true then none else h m) n (some ⟨k.sz, k.es.set e (splice c j cs)⟩) = upd h n (some ⟨k.sz, k.es.set e (splice c j cs)⟩) := by
    funext m
    unfold upd
    split
    · rfl
    · simp [*]
  have hσ : upd σ n (some r) = σ := by
    funext m
    unfold upd
    split
    · subst_vars; exact hr.symm
    · rfl
  have hbel : Below B w (w.setCells r.b (r.o + e * r.sz + j) vs) := by
    generalize r.o + e * r.sz + j = o
    clear hsome hthere hin hlen hv h2
    suffices ∀ (vs : List Value) (o : Nat) (u : World), Below B w u → Below B w (u.setCells r.b o vs) from this vs o w (Below.refl _ _)
    intro vs
    induction vs with
    | nil => intro o u hu; exact hu
    | cons v vs ih => intro o u hu; exact ih _ _ (hu.setCell q3 v)
  have := hs.turn (w' := w.setCells r.b (r.o + e * r.sz + j) vs) (fun m => decide (m = n)) n r ⟨k.sz, k.es.set e (splice c j cs)⟩ (.inr ⟨by simp, hr⟩) hbel
    (fun b i v hv hx => by
      rw [World.cell?_setCells_out]
      · exact hv
      · intro hb _
        simp only at hb
        subst hb
        by_cases hq : r.has r.b i
        · exact absurd hq (hx n r (by simp) (by rw [hh]; rfl) hr)
        · have q8 : ¬ (r.o ≤ i ∧ i < r.o + r.c) := fun q => hq ⟨rfl, q.1, q.2⟩
          have := hin 0
          rw [q2] at *
          show i < _ ∨ _ ≤ i
          omega)
    (fun b i hb => World.frozen?_setCells _ _ _ _ _) q3
    (fun i hi => ⟨by
        by_cases hq : r.o + e * r.sz + j ≤ i ∧ i < r.o + e * r.sz + j + vs.length
        · obtain ⟨x, rfl⟩ : ∃ x, i = r.o + e * r.sz + j + x := ⟨i - (r.o + e * r.sz + j), by omega⟩
          rw [World.cell?_setCells_in _ _ _ _ hsome x (by omega)]
          rfl
        · rw [World.cell?_setCells_out]
          · exact (q5 i hi).1
          · intro _ _
            show i < _ ∨ _ ≤ i
            omega, by rw [World.frozen?_setCells]; exact (q5 i hi).2, .inr ⟨n, r, by simp, by rw [hh]; rfl, hr, hi⟩⟩) q2 (by simpa using q4) (by simpa using q4')
    (fun i x hx => by
      by_cases hie : i = e
      · subst hie
        simp [he] at hx
        subst hx
        refine ⟨by rw [splice_length hj]; exact hcl, fun y a ha => ?_⟩
        rcases splice_get hj y a ha with ⟨h3, h4, h5⟩ | ⟨h3, h4⟩
        · obtain ⟨v, h6, h7⟩ := hv.get h5
          refine ⟨h1 a (List.mem_of_getElem? h5), v, h2 v (List.mem_of_getElem? h6), ?_, h7⟩
          have hlt : y - j < vs.length := by omega
          rw [show r.o + i * k.sz + y = r.o + i * r.sz + j + (y - j) by rw [q2]; omega, World.cell?_setCells_in _ _ _ _ hsome _ hlt]
          rw [List.getElem?_eq_getElem hlt] at h6
          exact h6
        · obtain ⟨h5, v, h6, h7, h8⟩ := (q6 i c hc).2 y a h4
          refine ⟨h5, v, h6, ?_, h8⟩
          rw [World.cell?_setCells_out]
          · exact h7
          · intro _ _
            show r.o + i * k.sz + y < _ ∨ _ ≤ r.o + i * k.sz + y
            rw [q2]
            omega
      · rw [List.getElem?_set_ne (by omega)] at hx
        obtain ⟨h3, h4⟩ := q6 i x hx
        refine ⟨h3, fun y a ha => ?_⟩
        obtain ⟨h5, v, h6, h7, h8⟩ := h4 y a ha
        refine ⟨h5, v, h6, ?_, h8⟩
        rw [World.cell?_setCells_out]
        · exact h7
        · intro _ _
          have hy := (List.getElem?_eq_some_iff.1 ha).1
          show r.o + i * k.sz + y < _ ∨ _ ≤ r.o + i * k.sz + y
          rw [q2]
          rw [h3] at hy
          rcases Nat.lt_or_gt_of_ne hie with hlt | hgt
          · have : (i + 1) * k.sz ≤ e * k.sz := Nat.mul_le_mul_right _ hlt
            rw [Nat.succ_mul] at this
            omega
          · have : (e + 1) * k.sz ≤ i * k.sz := Nat.mul_le_mul_right _ hgt
            rw [Nat.succ_mul] at this
            omega)
  rw [hupd, hσ] at this
  exact ⟨hthere, this⟩
theorem aStore_ok {B : Nat} {w0 w : World} {σ : Sig} {h h' : AHeap} {t : TypeId} {a v : AV} {ca cv : Value} (hs : SR B w0 σ h w) (hl : aStore P h t a v = some h') (hv : VR σ w (Held σ h) B a ca) (hv2 : VR σ w (Held σ h) B v cv) :
    ∃ w', (Instr.storeAt t ca cv).run P w = .ok () w' ∧ SR B w0 σ h' w' ∧ ∀ b u, VR σ w (Held σ h) B b u → VR σ w' (Held σ h') B b u := by
  unfold aStore at hl
  split at hl
  · rename_i n e j
    cases hv with
    | ptr _ _ _ r hr =>
    cases hh : h n with
    | none => simp [hh] at hl
    | some k =>
      simp only [hh, Option.bind_some, Option.bind_eq_some_iff] at hl
      obtain ⟨c, hc, hl⟩ := hl
      split at hl
      · rename_i hq
        cases hl
        have hcs : VRs σ w (Held σ h) B v.cells cv.cells.toList := by
          refine hv2.cells ?_
          cases v <;> simp_all [AV.one, AV.cells]
        have hall : ∀ a ∈ v.cells, a.one = true := fun a ha => List.all_eq_true.1 hq.2.1 a ha
        have hall2 : ∀ u ∈ cv.cells.toList, u.oneCell' = true := fun u hu => by
          obtain ⟨i, hi⟩ := List.mem_iff_getElem?.1 hu
          have hil := (List.getElem?_eq_some_iff.1 hi).1
          have hi2 : i < v.cells.length := by rw [hcs.1]; exact hil
          exact (hcs.2 i _ u (List.getElem?_eq_getElem hi2) hi).oneCell (hall _ (List.getElem_mem hi2))
        obtain ⟨h1, h2, h3⟩ := hs.write hh hr hc hq.2.2 hcs hall hall2
        refine ⟨_, ?_, h2, h3⟩
        have hz : (P.info? t).map (·.size) = some cv.cells.size := by
          have := hq.1
          unfold sizeT at this
          rw [this, hcs.1]
          simp
        have key : (storeVar t ⟨r.b, r.o + e * r.sz + j, none⟩ cv).run P w = .ok () (w.setCells r.b (r.o + e * r.sz + j) cv.cells.toList) := by
          have := run_storeVar_mid (P := P) w r.b (r.o + e * r.sz + j) t cv.cells (by simpa using h1) hz (by
            rw [Array.all_eq_true_iff_forall_mem]
            intro u hu
            exact hall2 u (by simpa using hu))
          have heq : storeVar t ⟨r.b, r.o + e * r.sz + j, none⟩ (.agg cv.cells) = storeVar t ⟨r.b, r.o + e * r.sz + j, none⟩ cv := rfl
          rw [← heq]
          exact this
        simp only [Instr.storeAt, Instr.sureAddr, Sem.run_bind, Sem.run_pure, Result.andThen_ok, key]
      · cases hl
  · cases hl
end Go.Proofs.Ytcnofpoffdjbpaa.AE
