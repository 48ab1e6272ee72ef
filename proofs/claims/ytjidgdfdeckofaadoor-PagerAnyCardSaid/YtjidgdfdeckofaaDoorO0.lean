/- Texts O0. -/
import Derived.Test.YtjidgdfdeckofaaDoorV5
import Derived.Deep.Slices
import Derived.Deep.Strs
import Derived.SizedLaws
import Derived.ChangeArms
/- What came in, opened as abstract values; a law's end. No program in sight. -/
namespace Go.Proofs.YtjidgdfdeckofaaDoor.AE
open Go Go.RowKit Go.Proofs
open Go.ChangeShapes Go.WideShapes Go.Deep
set_option linter.unusedVariables false
abbrev noS : Sig := fun _ => none
section
variable {H : Type} (enc : TypeId × Value → H) (P : Program) (w : World) (base : Nat) (spare : Nat → Bool) (held : Bool)
/-- Cells that stand for abstract ones. -/
def Cel (w : World) (cs : List AV) (vs : List Value) : Prop := VRs noS w (Held noS noH) 0 cs vs ∧ (∀ c ∈ cs, c.one = true) ∧ ∀ v ∈ vs, v.oneCell' = true
/-- All that a type's cells tell is told by F of something, if its weights are small. -/
def OpensA {α : Type} (t : TypeId) (F : α → List AV) (Q : α → Prop) : Prop := ∀ (fuel : Nat) (cs : List Value) (x : DataW H × List MemPlace), DataW.trod enc P w base spare held fuel t cs = some x → (∀ n ∈ x.1.weights P t, n ≤ reachBytes) → ∃ a : α, Cel w (F a) cs ∧ Q a
variable {enc P w base spare held}
theorem notHeld {b i : Nat} : ¬ Held noS noH b i := by
  rintro ⟨n, r, h, _⟩
  simp [noH] at h
theorem opensA_int {t : TypeId} {k : IntKind} (ht : P.underlying t = some (.int k)) : OpensA enc P w base spare held t (fun n : Int => [.int k n]) (fun n => InR k n) := by
  intro fuel cs x h _
  obtain ⟨n, rfl, _, hw⟩ := DataW.trod_int ht h
  have hr : InR k n := by simpa [Lit.wf, InR] using hw
  exact ⟨n, ⟨.cons (.int k n hr) .nil, by simp [AV.one], by simp [Value.oneCell']⟩, hr⟩
theorem opensA_bool {t : TypeId} (ht : P.underlying t = some .bool) : OpensA enc P w base spare held t (fun b : Bool => [.bool b]) (fun _ => True) := by
  intro fuel cs x h _
  obtain ⟨b, rfl, _⟩ := DataW.trod_bool ht h
  exact ⟨b, ⟨.cons (.bool b) .nil, by simp [AV.one], by simp [Value.oneCell']⟩, trivial⟩
theorem weightsAll_memA {e : TypeId} : ∀ {l : List (DataW H)} {d : DataW H}, d ∈ l → ∀ n ∈ d.weights P e, n ∈ DataW.weightsAll P e l
  | d0 :: l, d, hd, n, hn => by
    simp only [DataW.weightsAll, List.mem_append]
    rcases List.mem_cons.1 hd with rfl | hd
    · exact .inl hn
    · exact .inr (weightsAll_memA hd n hn)
  | [], d, hd, _, _ => by cases hd
theorem opensA_slice {α : Type} {t e : TypeId} {F : α → List AV} {Q : α → Prop} (ht : P.underlying t = some (.slice e)) (hb0 : 0 < P.bytesOf e) (hz0 : P.cellsOf e ≠ 0) (he : OpensA enc P w base spare held e F Q) :
    OpensA enc P w base spare held t (fun xs : List α => [.sl (xs.map F)]) (fun xs => xs.length * P.bytesOf e ≤ reachBytes ∧ ∀ x ∈ xs, Q x) := by
  intro fuel cs x h hw
  rcases open_slice ht h with ⟨rfl, rfl⟩ | ⟨a, len, cap, m, n, D, Pl, rfl, hb, hl, hm, hmm, rfl, hx⟩
  · refine ⟨[], ⟨.cons (.sl [] none 0 0 (fun _ _ => Go.undef) (Nat.le_refl _) (by simp [big]) (fun i e h => by simp at h) (fun i e h => by simp at h)) .nil, by simp [AV.one], by simp [Value.oneCell']⟩, by simp, fun x hx => by cases hx⟩
  · have hlm : len ≤ m := by rw [hmm]; split <;> omega
    have hself : ((List.range len).map D).length + ((List.range (m - len)).map fun j => D (len + j)).length = m := by simp; omega
    have hw1 : m * P.bytesOf e ≤ reachBytes := by
      rw [← hself]
      exact hw _ (by simp [DataW.weights, ht])
    have hwi : ∀ i, i < len → ∀ k ∈ (D i).weights P e, k ≤ reachBytes := fun i hi k hk => hw k (by
      simp only [DataW.weights, ht, List.mem_cons, List.mem_append]
      exact .inr (.inl (weightsAll_memA (List.mem_map.2 ⟨i, List.mem_range.2 hi, rfl⟩) k hk)))
    have each : ∀ i : Fin len, ∃ (y : α) (c : List Value), w.cells? base (a.add (i * P.cellsOf e)) (P.cellsOf e) = some c ∧ Cel w (F y) c ∧ Q y := fun i => by
      obtain ⟨c, h1, h2⟩ := hx i (Nat.lt_of_lt_of_le i.2 hlm)
      obtain ⟨y, h3, h4⟩ := he n c _ h2 (hwi i i.2)
      exact ⟨y, c, h1, h3, h4⟩
    let Y : Fin len → α := fun i => (each i).choose
    let C : Fin len → List Value := fun i => (each i).choose_spec.choose
    have hYC : ∀ i : Fin len, w.cells? base (a.add (i * P.cellsOf e)) (P.cellsOf e) = some (C i) ∧ Cel w (F (Y i)) (C i) ∧ Q (Y i) := fun i => (each i).choose_spec.choose_spec
    have hlen : ((List.ofFn Y).map F).length = len := by simp
    have hmle : len ≤ reachBytes := by
      have h2 : m ≤ m * P.bytesOf e := Nat.le_mul_of_pos_right _ hb0
      omega
    have get : ∀ (i : Nat) (c : List AV), ((List.ofFn Y).map F)[i]? = some c → ∃ hi : i < len, c = F (Y ⟨i, hi⟩) := fun i c hc => by
      rw [List.getElem?_map] at hc
      obtain ⟨y, hy, rfl⟩ := Option.map_eq_some_iff.1 hc
      have hi := (List.getElem?_eq_some_iff.1 hy).1
      simp at hi
      refine ⟨hi, ?_⟩
      rw [List.getElem?_eq_getElem (by simpa using hi), List.getElem_ofFn] at hy
      rw [Option.some.inj hy]
    have spot : ∀ i : Fin len, 0 < P.cellsOf e → ∀ j u, (C i)[j]? = some u → a.spot = none ∧ w.cell? ⟨a.block, a.off + i * P.cellsOf e + j, none⟩ = some u := fun i hs j u hu => by
      obtain ⟨_, h4, h5⟩ := World.cells?_some (hYC i).1
      have hj : j < P.cellsOf e := by rw [← h4]; exact (List.getElem?_eq_some_iff.1 hu).1
      have h6 := h5 j hj
      rw [Deep.add_add, hu] at h6
      have h8 : w.cell? (a.add 0) ≠ none ∨ 0 < len := .inr (by have := i.2; omega)
      have h0 : a.spot = none := by
        obtain ⟨_, q4, q5⟩ := World.cells?_some (hYC ⟨0, by have := i.2; omega⟩).1
        have q6 := q5 0 hs
        rw [Deep.add_add] at q6
        simp only [Nat.zero_mul, Nat.add_zero, Addr.add, if_true] at q6
        rw [List.getElem?_eq_getElem (by rw [q4]; exact hs)] at q6
        unfold World.cell? at q6
        split at q6
        · split at q6
          · cases q6
          · rename_i q7
            simpa using q7
        · cases q6
      refine ⟨h0, ?_⟩
      rw [← h6]
      congr 1
      unfold Addr.add
      obtain ⟨b, o, s⟩ := a
      simp only at h0
      subst h0
      split <;> simp <;> omega
    refine ⟨List.ofFn Y, ⟨.cons ?_ .nil, by simp [AV.one], by simp [Value.oneCell']⟩, ?_, fun x hx => ?_⟩
    · have key : VR noS w (Held noS noH) 0 (.sl ((List.ofFn Y).map F)) (.slice (some a) ((List.ofFn Y).map F).length cap) := by
        refine .sl _ (some a) cap (P.cellsOf e) (fun i j => if hi : i < len then ((C ⟨i, hi⟩)[j]?).getD Go.undef else Go.undef) (by rw [hlen]; exact hl) (by rw [hlen]; unfold reachBytes at hmle; unfold big; omega) (fun i c hc => ?_) (fun i c hc j b hb => ?_)
        · obtain ⟨hi, rfl⟩ := get i c hc
          obtain ⟨g1, g2, g3⟩ := hYC ⟨i, hi⟩
          obtain ⟨_, g4, _⟩ := World.cells?_some g1
          have hsz : (F (Y ⟨i, hi⟩)).length = P.cellsOf e := by rw [g2.1.1, g4]
          by_cases hs : 0 < P.cellsOf e
          · obtain ⟨u0, hu0⟩ : ∃ u, (C ⟨i, hi⟩)[0]? = some u := ⟨(C ⟨i, hi⟩)[0]'(by rw [g4]; exact hs), List.getElem?_eq_getElem _⟩
            refine ⟨hsz, a, rfl, (spot ⟨i, hi⟩ hs 0 u0 hu0).1, fun j b hb => ?_⟩
            obtain ⟨u, hu, hv⟩ := g2.1.get hb
            simp only [hi, dite_true, hu, Option.getD_some]
            exact ⟨g2.2.1 b (List.mem_of_getElem? hb), g2.2.2 u (List.mem_of_getElem? hu), (spot ⟨i, hi⟩ hs j u hu).2, notHeld⟩
          · exfalso
            have hz : P.cellsOf e = 0 := by omega
            exact hz0 hz
        · obtain ⟨hi, rfl⟩ := get i c hc
          obtain ⟨g1, g2, g3⟩ := hYC ⟨i, hi⟩
          obtain ⟨u, hu, hv⟩ := g2.1.get hb
          simp only [hi, dite_true, hu, Option.getD_some]
          exact hv
      rwa [hlen] at key
    · rw [List.length_ofFn]
      exact Nat.le_trans (Nat.mul_le_mul_right _ hlm) hw1
    · obtain ⟨i, hi⟩ := List.mem_ofFn.1 hx
      rw [← hi]
      exact (hYC i).2.2
theorem Cel.append {xs ys : List AV} {us vs : List Value} (h : Cel w xs us) (k : Cel w ys vs) : Cel w (xs ++ ys) (us ++ vs) :=
  ⟨h.1.append k.1, fun c hc => (List.mem_append.1 hc).elim (h.2.1 c) (k.2.1 c), fun v hv => (List.mem_append.1 hv).elim (h.2.2 v) (k.2.2 v)⟩
theorem each_memA {ts : List TypeId} {ds : List (DataW H)} {j : Nat} {t : TypeId} {d : DataW H} (ht : ts[j]? = some t) (hd : ds[j]? = some d) : ∀ n ∈ d.weights P t, n ∈ DataW.weightsEach P ts ds := fun n hn => DataW.weights_mem_each ht hd n hn
theorem opensA_struct2 {α β : Type} {t : TypeId} {f0 f1 : Field} {F : α → List AV} {G : β → List AV} {Q : α → Prop} {R : β → Prop} (ht : P.underlying t = some (.struct #[f0, f1])) (h0 : f0.offset = 0) (h1 : f1.offset = P.cellsOf f0.type) (h2 : P.cellsOf t = P.cellsOf f0.type + P.cellsOf f1.type)
    (a0 : OpensA enc P w base spare held f0.type F Q) (a1 : OpensA enc P w base spare held f1.type G R) : OpensA enc P w base spare held t (fun p : α × β => F p.1 ++ G p.2) (fun p => Q p.1 ∧ R p.2) := by
  intro fuel cs x h hw
  obtain ⟨y0, y1, n, rfl, hl, g0, g1⟩ := trod_struct2 ht h
  have hw2 : ∀ (j : Nat) t' d, [f0.type, f1.type][j]? = some t' → [y0.1, y1.1][j]? = some d → ∀ n ∈ DataW.weights P t' d, n ≤ reachBytes := fun j t' d ht' hd n hn => hw n (by
    simp only [DataW.weights, ht]
    exact each_memA ht' hd n hn)
  obtain ⟨b0, k0, q0⟩ := a0 _ _ _ g0 (hw2 0 _ _ rfl rfl)
  obtain ⟨b1, k1, q1⟩ := a1 _ _ _ g1 (hw2 1 _ _ rfl rfl)
  refine ⟨(b0, b1), ?_, q0, q1⟩
  have e : cs = (cs.drop f0.offset).take (P.cellsOf f0.type) ++ (cs.drop f1.offset).take (P.cellsOf f1.type) := by
    rw [h0, h1, List.drop_zero, List.take_of_length_le (l := cs.drop _) (by simp; omega), List.take_append_drop]
  rw [e]
  exact k0.append k1
theorem opensA_struct3 {α β γ : Type} {t : TypeId} {f0 f1 f2 : Field} {F : α → List AV} {G : β → List AV} {I : γ → List AV} {Q : α → Prop} {R : β → Prop} {S : γ → Prop} (ht : P.underlying t = some (.struct #[f0, f1, f2])) (h0 : f0.offset = 0) (h1 : f1.offset = P.cellsOf f0.type) (h1' : f2.offset = P.cellsOf f0.type + P.cellsOf f1.type) (h2 : P.cellsOf t = P.cellsOf f0.type + P.cellsOf f1.type + P.cellsOf f2.type)
    (a0 : OpensA enc P w base spare held f0.type F Q) (a1 : OpensA enc P w base spare held f1.type G R) (a2 : OpensA enc P w base spare held f2.type I S) : OpensA enc P w base spare held t (fun p : α × β × γ => F p.1 ++ (G p.2.1 ++ I p.2.2)) (fun p => Q p.1 ∧ R p.2.1 ∧ S p.2.2) := by
  intro fuel cs x h hw
  obtain ⟨y0, y1, y2, n, rfl, hl, g0, g1, g2⟩ := trod_struct3 ht h
  have hw2 : ∀ (j : Nat) t' d, [f0.type, f1.type, f2.type][j]? = some t' → [y0.1, y1.1, y2.1][j]? = some d → ∀ n ∈ DataW.weights P t' d, n ≤ reachBytes := fun j t' d ht' hd n hn => hw n (by
    simp only [DataW.weights, ht]
    exact each_memA ht' hd n hn)
  obtain ⟨b0, k0, q0⟩ := a0 _ _ _ g0 (hw2 0 _ _ rfl rfl)
  obtain ⟨b1, k1, q1⟩ := a1 _ _ _ g1 (hw2 1 _ _ rfl rfl)
  obtain ⟨b2, k2, q2⟩ := a2 _ _ _ g2 (hw2 2 _ _ rfl rfl)
  refine ⟨(b0, b1, b2), ?_, q0, q1, q2⟩
  have e : cs = (cs.drop f0.offset).take (P.cellsOf f0.type) ++ ((cs.drop f1.offset).take (P.cellsOf f1.type) ++ (cs.drop f2.offset).take (P.cellsOf f2.type)) := by
    rw [h0, h1, h1', List.drop_zero, List.take_of_length_le (l := cs.drop (P.cellsOf f0.type + P.cellsOf f1.type)) (by simp; omega), ← List.drop_drop, List.take_append_drop, List.take_append_drop]
  rw [e]
  exact k0.append (k1.append k2)
/-- What came in is of this kind. -/
theorem open_one {α : Type} {t : TypeId} {F : α → AV} {Q : α → Prop} (h : OpensA enc P w base spare held t (fun a => [F a]) Q) {v : Value} {d : DataW H} {ps : List MemPlace} (hd : DataW.Trod enc P w base spare held t v d ps) (hv : v.cells = #[v]) (hw : ∀ n ∈ d.weights P t, n ≤ reachBytes) : ∃ a, VR noS w (Held noS noH) 0 (F a) v ∧ Q a := by
  obtain ⟨fuel, hd⟩ := hd
  obtain ⟨a, h1, h2⟩ := h _ _ _ hd hw
  rw [hv] at h1
  exact ⟨a, h1.1.head, h2⟩
theorem open_agg {α : Type} {t : TypeId} {F : α → List AV} {Q : α → Prop} (h : OpensA enc P w base spare held t F Q) {cs : Array Value} {d : DataW H} {ps : List MemPlace} (hd : DataW.Trod enc P w base spare held t (.agg cs) d ps) (hw : ∀ n ∈ d.weights P t, n ≤ reachBytes) : ∃ a, VR noS w (Held noS noH) 0 (.agg (F a)) (.agg cs) ∧ Q a := by
  obtain ⟨fuel, hd⟩ := hd
  obtain ⟨a, h1, h2⟩ := h _ _ _ hd hw
  exact ⟨a, VR.agg_iff.2 ⟨cs.toList, by simp, h1.1⟩, h2⟩
/-- A law's run, out of its walk. -/
theorem law_run {f : FuncId} {args : List AV} {v : AV} {vs : Array Value} (hf : aFun P f args v) (hv : VRs noS w (Held noS noH) 0 args vs.toList) {u : Value} (hu : ∀ σ w' X B c, VR σ w' X B v c → c = u) : Calls P f vs w fun e w' => e = .returned u ∧ Below w.heap.size w w' := by
  have hs : SR w.heap.size w noS noH w := ⟨Below.refl _ _, Nat.le_refl _, (fun n k hn => by simp [noH] at hn), (fun n m r s b i hn => by simp [noH] at hn)⟩
  refine (hf noH 0 w.heap.size w ⟨noS, noH, w, 0⟩ noS w vs hs (fun n _ => rfl) (.refl _ _ _ _) ⟨hv.1, fun j c u h1 h2 => (hv.2 j c u h1 h2).anyB⟩).mono ?_
  rintro e w' ⟨ae, h', nx', σ', g1, g2, g3, g4, rfl, rfl, g5⟩
  cases g1 with
  | ret _ c hc => exact ⟨by rw [hu _ _ _ _ _ hc], g2.old⟩
theorem law_true {σ : Sig} {w' : World} {X : Nat → Nat → Prop} {B : Nat} {b : Bool} {c : Value} (h : VR σ w' X B (.bool b) c) : c = .bool b := by
  cases h; rfl
end
end Go.Proofs.YtjidgdfdeckofaaDoor.AE
