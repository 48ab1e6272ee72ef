/- Conversions, places, cuts, lengths, on abstract values; and that the model's do the like. No program in sight. -/
import Derived.Test.YtcnofpoffdjbpaaA8
namespace Go.Proofs.Ytcnofpoffdjbpaa.AE
open Go Go.RowKit
set_option linter.unusedVariables false
set_option linter.unusedSimpArgs false
variable {P : Program}

/-! ### places -/
def offT (P : Program) (t : TypeId) (f : Nat) : Option Nat :=
  match P.underlying t with
  | some (.struct fs) => (fs[f]?).bind fun fl => (sizeT P fl.type).bind fun s => if s = 0 then none else some fl.offset
  | _ => none
def aField (P : Program) (t : TypeId) (x : AV) (f : Nat) : Option AV :=
  (offT P t f).bind fun o => match x with
    | .ptr n e j => some (.ptr n e (j + o))
    | .ip cs => some (.ip (cs.drop o))
    | _ => none
theorem run_sizeT {t : TypeId} {s : Nat} (h : sizeT P t = some s) (w : World) : (sizeOf t).run P w = .ok s w := by
  unfold sizeT at h
  obtain ⟨i, hi, rfl⟩ := Option.map_eq_some_iff.1 h
  simp [sizeOf, typeInfo, hi]
theorem offT_ok {t : TypeId} {f o : Nat} (h : offT P t f = some o) : ∃ fs fl, P.underlying t = some (.struct fs) ∧ fs[f]? = some fl ∧ fl.offset = o ∧ ∀ (a : Addr) (w : World), (fieldPlace a fl).run P w = .ok (a.add o) w := by
  unfold offT at h
  split at h <;> try (cases h; done)
  rename_i fs hu
  simp only [Option.bind_eq_some_iff] at h
  obtain ⟨fl, hf, s, hs, h⟩ := h
  split at h <;> cases h
  rename_i h0
  exact ⟨fs, fl, hu, hf, rfl, fun a w => by simp [fieldPlace, run_sizeT hs, h0]⟩
section
variable {σ : Sig} {w : World} {X : Nat → Nat → Prop} {B : Nat}
theorem VR.ip_iff {cs : List AV} {v : Value} (h : VR σ w X B (.ip cs) v) : ∃ b o, v = .pointer (some ⟨b, o, none⟩) := by
  cases h with
  | ip _ ad vs hs _ _ =>
  obtain ⟨b, o, sp⟩ := ad
  cases hs
  exact ⟨b, o, rfl⟩
theorem VR.ip_drop {cs : List AV} {b p : Nat} (h : VR σ w X B (.ip cs) (.pointer (some ⟨b, p, none⟩))) (o : Nat) : VR σ w X B (.ip (cs.drop o)) (.pointer (some ⟨b, p + o, none⟩)) := by
  cases h with
  | ip _ _ vs hs h hv =>
  refine .ip _ _ (fun j => vs (o + j)) rfl (fun j c hc => ?_) (fun j c hc => ?_)
  · rw [List.getElem?_drop] at hc
    have := h _ c hc
    simp only
    rw [Nat.add_assoc]
    exact this
  · rw [List.getElem?_drop] at hc
    exact hv _ c hc
theorem aField_ok {t : TypeId} {x v : AV} {cx : Value} {f : Nat} (h : aField P t x f = some v) (hx : VR σ w X B x cx) : ∃ cv, (Instr.fieldAt t cx f).run P w = .ok cv w ∧ VR σ w X B v cv := by
  unfold aField at h
  simp only [Option.bind_eq_some_iff] at h
  obtain ⟨o, ho, h⟩ := h
  obtain ⟨fs, fl, hu, hf, rfl, hrun⟩ := offT_ok ho
  split at h <;> cases h
  · rename_i n e j
    cases hx with
    | ptr _ _ _ r hr =>
    refine ⟨.pointer (some ⟨r.b, r.o + e * r.sz + (j + fl.offset), none⟩), ?_, by rw [← Nat.add_assoc]; have := VR.ptr (σ := σ) (w := w) (X := X) (B := B) n e (j + fl.offset) r hr; rwa [← Nat.add_assoc] at this⟩
    simp [Instr.fieldAt, run_underlying hu, hf, Instr.sureAddr, hrun, Addr.add_none, Nat.add_assoc]
  · obtain ⟨b, o, rfl⟩ := hx.ip_iff
    refine ⟨_, ?_, hx.ip_drop fl.offset⟩
    simp [Instr.fieldAt, run_underlying hu, hf, Instr.sureAddr, hrun, Addr.add_none]

def aIndexAddr (P : Program) (h : AHeap) (t : TypeId) (x i : AV) : Option AV :=
  match P.underlying t, x, i with
  | some (.slice e), .sl es, .int _ i => (sizeT P e).bind fun n => if 0 ≤ i then (es[i.toNat]?).bind fun c => if c.length = n then some (.ip c) else none else none
  | some (.slice e), .hs m off len, .int _ i => (sizeT P e).bind fun n => (h m).bind fun kb => if 0 ≤ i ∧ i < len ∧ kb.sz = n then some (.ptr m (off + i.toNat) 0) else none
  | some (.array len e), .ptr m q j, .int _ i => (sizeT P e).bind fun n => if 0 ≤ i ∧ i < len ∧ n ≠ 0 then some (.ptr m q (j + i.toNat * n)) else none
  | some (.array len e), .ip cs, .int _ i => (sizeT P e).bind fun n => if 0 ≤ i ∧ i < len ∧ n ≠ 0 then some (.ip (cs.drop (i.toNat * n))) else none
  | _, _, _ => none
theorem aIndexAddr_ok {w0 : World} {h : AHeap} (hs : SR B w0 σ h w) {t : TypeId} {x i v : AV} {cx ci : Value} (hl : aIndexAddr P h t x i = some v) (hx : VR σ w (Held σ h) B x cx) (hi : VR σ w (Held σ h) B i ci) : ∃ cv, (Instr.indexAt t cx ci).run P w = .ok cv w ∧ VR σ w (Held σ h) B v cv := by
  unfold aIndexAddr at hl
  split at hl
  · rename_i e es k i hu
    cases hi
    simp only [Option.bind_eq_some_iff] at hl
    obtain ⟨n, hn, hl⟩ := hl
    split at hl <;> try (cases hl; done)
    rename_i h0
    simp only [Option.bind_eq_some_iff] at hl
    obtain ⟨c, hc, hl⟩ := hl
    split at hl <;> cases hl
    rename_i hcn
    have hlt := (List.getElem?_eq_some_iff.1 hc).1
    cases hx with
    | sl _ a cap size vs hcap hb h1 h2 =>
    obtain ⟨h3, ad, rfl, hsp, h4⟩ := h1 _ _ hc
    obtain ⟨b, o, sp⟩ := ad
    cases hsp
    have hsz : size = n := by omega
    subst hsz
    refine ⟨.pointer (some ⟨b, o + i.toNat * size, none⟩), ?_, .ip c _ (fun j => vs i.toNat j) rfl (fun j d hd => ?_) (fun j d hd => h2 _ _ hc j d hd)⟩
    · have hif : 0 ≤ i ∧ i < (es.length : Int) := ⟨h0, by omega⟩
      simp [Instr.indexAt, run_underlying hu, asIntOf, hif, run_sizeT hn, Addr.add_none]
    · obtain ⟨q1, q2, q3, q4⟩ := h4 j d hd
      exact ⟨q1, q2, q3, q4⟩
  · rename_i e m off len k i hu
    cases hi
    simp only [Option.bind_eq_some_iff] at hl
    obtain ⟨n, hn, kb, hh, hl⟩ := hl
    split at hl <;> cases hl
    rename_i hq
    obtain ⟨h0, h1, h2⟩ := hq
    cases hx with
    | hs _ _ _ a cap r hr hcap hb hor =>
    obtain ⟨r', q1, q2, _⟩ := hs.blk m kb hh
    rw [hr] at q1
    cases q1
    rcases hor with hor | ⟨rfl, _⟩
    · omega
    · refine ⟨.pointer (some ⟨r.b, r.o + off * r.sz + i.toNat * n, none⟩), ?_, ?_⟩
      · have hif : 0 ≤ i ∧ i < (len : Int) := ⟨h0, h1⟩
        simp [Instr.indexAt, run_underlying hu, asIntOf, hif, run_sizeT hn, Addr.add_none]
      · have := VR.ptr (σ := σ) (w := w) (X := Held σ h) (B := B) m (off + i.toNat) 0 r hr
        rw [Nat.add_mul, ← Nat.add_assoc, Nat.add_zero] at this
        rw [← h2, ← q2]
        exact this
  · rename_i len e m q j k i hu
    cases hi
    simp only [Option.bind_eq_some_iff] at hl
    obtain ⟨n, hn, hl⟩ := hl
    split at hl <;> cases hl
    rename_i hq
    cases hx with
    | ptr _ _ _ r hr =>
    refine ⟨.pointer (some ⟨r.b, r.o + q * r.sz + j + i.toNat * n, none⟩), ?_, ?_⟩
    · have hif : 0 ≤ i ∧ i < (len : Int) := ⟨hq.1, hq.2.1⟩
      simp [Instr.indexAt, run_underlying hu, asIntOf, Instr.sureAddr, hif, run_sizeT hn, Addr.add_none]
    · have := VR.ptr (σ := σ) (w := w) (X := Held σ h) (B := B) m q (j + i.toNat * n) r hr
      rwa [← Nat.add_assoc] at this
  · rename_i len e cs k i hu
    cases hi
    simp only [Option.bind_eq_some_iff] at hl
    obtain ⟨n, hn, hl⟩ := hl
    split at hl <;> cases hl
    rename_i hq
    obtain ⟨b, o, rfl⟩ := hx.ip_iff
    refine ⟨_, ?_, hx.ip_drop (i.toNat * n)⟩
    have hif : 0 ≤ i ∧ i < (len : Int) := ⟨hq.1, hq.2.1⟩
    simp [Instr.indexAt, run_underlying hu, asIntOf, Instr.sureAddr, hif, run_sizeT hn, Addr.add_none]
  · cases hl
/-! ### parts of a value -/
def aExtract : AV → Nat → Option AV
  | .tup vs, i => vs[i]?
  | _, _ => none
theorem aExtract_ok {x v : AV} {cx : Value} {i : Nat} (h : aExtract x i = some v) (hx : VR σ w X B x cx) : ∃ cv, (Instr.extract cx i).run P w = .ok cv w ∧ VR σ w X B v cv := by
  unfold aExtract at h
  split at h
  · obtain ⟨us, rfl, h1⟩ := VR.tup_iff.1 hx
    obtain ⟨u, h2, h3⟩ := h1.get h
    exact ⟨u, by simp [Instr.extract, h2], h3⟩
  · cases h
/-- A field's offset, how many cells it has, and whether it is a struct or an array. -/
def partT (P : Program) (t : TypeId) (f : Nat) : Option (Nat × Nat × Bool) :=
  match P.underlying t with
  | some (.struct fs) => (fs[f]?).bind fun fl => (sizeT P fl.type).bind fun s => (aggT P fl.type).map fun g => (fl.offset, s, g)
  | _ => none
theorem run_isAgg {t : TypeId} {g : Bool} (h : aggT P t = some g) (w : World) : (isAgg t).run P w = .ok g w := by
  unfold aggT at h
  obtain ⟨d, hd, rfl⟩ := Option.map_eq_some_iff.1 h
  unfold isAgg
  rw [Sem.run_bind, run_underlying hd w]
  cases d <;> rfl
def aPart (cs : List AV) (o s : Nat) (g : Bool) : Option AV :=
  if g = true then (if o + s ≤ cs.length then some (.agg ((cs.drop o).take s)) else none) else cs[o]?
theorem aPart_ok {cs : List AV} {vs : List Value} {t : TypeId} {o s : Nat} {g : Bool} {v : AV} (hv : VRs σ w X B cs vs) (hs : sizeT P t = some s) (hg : aggT P t = some g) (h : aPart cs o s g = some v) :
    ∃ cv, (part t vs.toArray o).run P w = .ok cv w ∧ VR σ w X B v cv := by
  unfold aPart at h
  cases g
  · simp only [Bool.false_eq_true, if_false] at h
    obtain ⟨u, h2, h3⟩ := hv.get h
    exact ⟨u, by simp [part, run_isAgg hg, h2], h3⟩
  · simp only [if_true] at h
    split at h <;> cases h
    refine ⟨_, by simp [part, run_isAgg hg, run_sizeT hs]; rfl, VR.agg_iff.2 ⟨(vs.drop o).take s, ?_, (hv.drop o).take s⟩⟩
    congr 1
def aFieldOf (P : Program) (t : TypeId) (x : AV) (f : Nat) : Option AV :=
  match x with
  | .agg cs => (partT P t f).bind fun p => aPart cs p.1 p.2.1 p.2.2
  | _ => none
theorem aFieldOf_ok {t : TypeId} {x v : AV} {cx : Value} {f : Nat} (h : aFieldOf P t x f = some v) (hx : VR σ w X B x cx) : ∃ cv, (Instr.field t cx f).run P w = .ok cv w ∧ VR σ w X B v cv := by
  unfold aFieldOf at h
  split at h
  · simp only [Option.bind_eq_some_iff] at h
    obtain ⟨⟨o, s, g⟩, hp, h⟩ := h
    obtain ⟨us, rfl, h1⟩ := VR.agg_iff.1 hx
    unfold partT at hp
    split at hp <;> try (cases hp; done)
    rename_i fs hu
    simp only [Option.bind_eq_some_iff, Option.map_eq_some_iff] at hp
    obtain ⟨fl, hf, s', hs, g', hg, hp⟩ := hp
    cases hp
    obtain ⟨cv, h2, h3⟩ := aPart_ok (P := P) h1 hs hg h
    exact ⟨cv, by simp [Instr.field, run_underlying hu, hf, asAgg, h2], h3⟩
  · cases h
def aIndex (P : Program) (t : TypeId) (x i : AV) : Option AV :=
  match P.underlying t, x, i with
  | some (.array len e), .agg cs, .int _ i => (sizeT P e).bind fun n => (aggT P e).bind fun g => if 0 ≤ i ∧ i < len then aPart cs (i.toNat * n) n g else none
  | some .string, .str l, .int _ i => if 0 ≤ i then (l[i.toNat]?).map fun c => .int .u8 c else none
  | _, _, _ => none
theorem aIndex_ok {t : TypeId} {x i v : AV} {cx ci : Value} (h : aIndex P t x i = some v) (hx : VR σ w X B x cx) (hi : VR σ w X B i ci) : ∃ cv, (Instr.index t cx ci).run P w = .ok cv w ∧ VR σ w X B v cv := by
  unfold aIndex at h
  split at h
  · rename_i len e cs k i hu
    cases hi
    simp only [Option.bind_eq_some_iff] at h
    obtain ⟨n, hn, g, hg, h⟩ := h
    split at h <;> try (cases h; done)
    rename_i hq
    obtain ⟨us, rfl, h1⟩ := VR.agg_iff.1 hx
    obtain ⟨cv, h2, h3⟩ := aPart_ok (P := P) h1 hn hg h
    have hif : 0 ≤ i ∧ i < (len : Int) := hq
    exact ⟨cv, by simp [Instr.index, run_underlying hu, asIntOf, hif, run_sizeT hn, h2], h3⟩
  · rename_i l k i hu
    cases hi
    split at h <;> try (cases h; done)
    rename_i h0
    obtain ⟨c, hc, rfl⟩ := Option.map_eq_some_iff.1 h
    generalize hl : AV.str l = a at hx
    cases hx <;> cases hl
    rename_i s hb
    unfold octs at hc
    rw [List.getElem?_map] at hc
    obtain ⟨b, hb2, rfl⟩ := Option.map_eq_some_iff.1 hc
    have hq : s[i.toNat]? = some b := by
      have h1 := (List.getElem?_eq_some_iff.1 hb2).1
      simp only [Array.length_toList] at h1
      have h2 : i.toNat < s.size := h1
      rw [getElem?_pos s i.toNat h2]
      congr 1
      have := (List.getElem?_eq_some_iff.1 hb2).2
      rw [← this]
      simp
      rfl
    refine ⟨.int .u8 b.toNat, ?_, .int _ _ ⟨?_, ?_⟩⟩
    · simp [Instr.index, run_underlying hu, asIntOf, h0, hq]
    · simp [IntKind.min, IntKind.signed]
    · have := b.toNat_lt
      simp [IntKind.max, IntKind.signed, IntKind.bits]
      omega
  · cases h
end
end Go.Proofs.Ytcnofpoffdjbpaa.AE
