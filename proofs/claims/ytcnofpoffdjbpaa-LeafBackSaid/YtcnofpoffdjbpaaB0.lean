/- Cuts, conversions, lengths, on abstract values; and that the model's do the like. No program in sight. -/
import Derived.Test.YtcnofpoffdjbpaaA9
import Derived.Laws.Slices
namespace Go.Proofs.Ytcnofpoffdjbpaa.AE
open Go Go.RowKit
set_option linter.unusedVariables false
set_option linter.unusedSimpArgs false
variable {P : Program}

def bndOr (d : Int) : Option AV → Option Int
  | none => some d
  | some (.int _ i) => some i
  | _ => none
def aSlice (P : Program) (h : AHeap) (t : TypeId) (x : AV) (lo hi mx : Option AV) : Option AV :=
  match P.underlying t, x, mx with
  | some (.slice e), .sl es, none => (sizeT P e).bind fun n => (bndOr 0 lo).bind fun l => (bndOr es.length hi).bind fun u =>
      if 0 ≤ l ∧ l ≤ u ∧ u ≤ es.length ∧ es.all (fun c => c.length == n) = true then some (.sl ((es.take u.toNat).drop l.toNat)) else none
  | some (.slice e), .hs m off len, none => (sizeT P e).bind fun n => (h m).bind fun kb => (bndOr 0 lo).bind fun l => (bndOr len hi).bind fun u =>
      if 0 ≤ l ∧ l ≤ u ∧ u ≤ len ∧ kb.sz = n then some (.hs m (off + l.toNat) (u.toNat - l.toNat)) else none
  | some (.slice e), .zs, none => (sizeT P e).bind fun n => (bndOr 0 lo).bind fun l => (bndOr 0 hi).bind fun u => if l = 0 ∧ u = 0 then some .zs else none
  | some (.slice e), .zs, some (.int _ m) => (sizeT P e).bind fun n => (bndOr 0 lo).bind fun l => (bndOr (-1) hi).bind fun u => if l = 0 ∧ u = 0 ∧ m = 0 then some .zs else none
  | some (.slice e), .sl _, some (.int _ m) => (sizeT P e).bind fun n => (bndOr 0 lo).bind fun l => (bndOr (-1) hi).bind fun u => if l = 0 ∧ u = 0 ∧ m = 0 then some .zs else none
  | some (.slice e), .hs _ _ _, some (.int _ m) => (sizeT P e).bind fun n => (bndOr 0 lo).bind fun l => (bndOr (-1) hi).bind fun u => if l = 0 ∧ u = 0 ∧ m = 0 then some .zs else none
  | some .string, .str s, none => (bndOr 0 lo).bind fun l => (bndOr s.length hi).bind fun u => if 0 ≤ l ∧ l ≤ u ∧ u ≤ s.length then some (.str ((s.take u.toNat).drop l.toNat)) else none
  | _, _, _ => none
section
variable {σ : Sig} {w : World} {X : Nat → Nat → Prop} {B : Nat}
/-- An optional operand's value. -/
inductive VRo (σ : Sig) (w : World) (X : Nat → Nat → Prop) (B : Nat) : Option AV → Option Value → Prop
  | none : VRo σ w X B none none
  | some (a : AV) (v : Value) (h : VR σ w X B a v) : VRo σ w X B (some a) (some v)
theorem run_bounds {isSlice : Bool} {len cap : Nat} {lo hi : Option AV} {clo chi : Option Value} {l u : Int} (h1 : VRo σ w X B lo clo) (h2 : VRo σ w X B hi chi) (hl : bndOr 0 lo = some l) (hu : bndOr len hi = some u) (h0 : 0 ≤ l) (hlu : l ≤ u) (hul : u ≤ len) (hlc : len ≤ cap) :
    (Instr.sliceBounds isSlice len cap clo chi none).run P w = .ok (l.toNat, u.toNat, cap) w := by
  have hi' : ∀ (c : BoundsCode), (Instr.sliceBounds isSlice len cap clo chi none).run P w = .ok (l.toNat, u.toNat, cap) w := fun _ => by
    cases h2 with
    | none =>
      simp only [bndOr, Option.some.injEq] at hu
      subst hu
      cases h1 with
      | none =>
        simp only [bndOr, Option.some.injEq] at hl
        subst hl
        simp [Instr.sliceBounds]
      | some a v hv =>
        cases a <;> simp only [bndOr] at hl <;> cases hl
        cases hv
        simp [Instr.sliceBounds, Instr.sliceBound, asIntOf, h0, hlu]
    | some b v2 hv2 =>
      cases b <;> simp only [bndOr] at hu <;> cases hu
      cases hv2
      have hu0 : 0 ≤ u := by omega
      have huc : u ≤ (cap : Int) := by omega
      have hut : ((u.toNat : Nat) : Int) = u := by omega
      cases h1 with
      | none =>
        simp only [bndOr, Option.some.injEq] at hl
        subst hl
        simp [Instr.sliceBounds, Instr.sliceBound, asIntOf, hu0, huc]
      | some a v hv =>
        cases a <;> simp only [bndOr] at hl <;> cases hl
        cases hv
        simp [Instr.sliceBounds, Instr.sliceBound, asIntOf, h0, hlu, hu0, huc, hut]
  exact hi' .index
theorem run_bounds3 {isSlice : Bool} {len cap : Nat} {lo hi : Option AV} {clo chi : Option Value} {k : IntKind} (h1 : VRo σ w X B lo clo) (h2 : VRo σ w X B hi chi) (hl : bndOr 0 lo = some 0) (hu : bndOr (-1) hi = some 0) :
    (Instr.sliceBounds isSlice len cap clo chi (some (.int k 0))).run P w = .ok (0, 0, 0) w := by
  cases h2 with
  | none => simp [bndOr] at hu
  | some b v2 hv2 =>
    cases b <;> simp only [bndOr] at hu <;> cases hu
    cases hv2
    cases h1 with
    | none => simp [Instr.sliceBounds, Instr.sliceBound, asIntOf]
    | some a v hv =>
      cases a <;> simp only [bndOr] at hl <;> cases hl
      cases hv
      simp [Instr.sliceBounds, Instr.sliceBound, asIntOf]
theorem octs_extract (s : ByteArray) (l u : Nat) : octs (s.extract l u) = ((octs s).take u).drop l := by
  unfold octs
  rw [← List.map_take, ← List.map_drop, ByteArray.data_extract, Array.toList_extract]
  rw [List.drop_take]
theorem aSlice_ok {w0 : World} {h : AHeap} (hs : SR B w0 σ h w) {t : TypeId} {x v : AV} {cx : Value} {lo hi mx : Option AV} {clo chi cmx : Option Value} (hl : aSlice P h t x lo hi mx = some v) (hx : VR σ w (Held σ h) B x cx)
    (h1 : VRo σ w (Held σ h) B lo clo) (h2 : VRo σ w (Held σ h) B hi chi) (h3 : VRo σ w (Held σ h) B mx cmx) : ∃ cv, (Instr.sliceAt t cx clo chi cmx).run P w = .ok cv w ∧ VR σ w (Held σ h) B v cv := by
  have key : ∀ {e : TypeId} {a : Option Addr} {len cap n l u m : Nat}, P.underlying t = some (.slice e) → sizeT P e = some n → (Instr.sliceBounds true len cap clo chi cmx).run P w = .ok (l, u, m) w →
      (Instr.sliceAt t (.slice a len cap) clo chi cmx).run P w = .ok (.slice (if m = l then a else a.map (·.add (l * n))) (u - l) (m - l)) w := fun hu hn hb => by
    simp [Instr.sliceAt, run_underlying hu, Instr.slice, hb, run_sizeT hn]
  unfold aSlice at hl
  split at hl
  · rename_i e es hu
    cases h3
    simp only [Option.bind_eq_some_iff] at hl
    obtain ⟨n, hn, l, hlo, u, hhi, hl⟩ := hl
    split at hl <;> cases hl
    rename_i hq
    obtain ⟨q1, q2, q3, q4⟩ := hq
    cases hx with
    | sl _ a cap size vs hcap hb g1 g2 =>
    have hlen : ((es.take u.toNat).drop l.toNat).length = u.toNat - l.toNat := by simp; omega
    refine ⟨_, key hu hn (run_bounds h1 h2 hlo hhi q1 q2 q3 hcap), ?_⟩
    rw [← hlen]
    have get : ∀ (i : Nat) (e : List AV), ((es.take u.toNat).drop l.toNat)[i]? = some e → es[l.toNat + i]? = some e := fun i e he => by
      rw [List.getElem?_drop, List.getElem?_take] at he
      split at he
      · exact he
      · cases he
    refine .sl _ _ _ n (fun i j => vs (l.toNat + i) j) (by rw [hlen]; omega) (by rw [hlen]; omega) (fun i e he => ?_) (fun i e he j c hc => g2 _ _ (get i e he) j c hc)
    obtain ⟨g3, ad, rfl, hsp, g4⟩ := g1 _ _ (get i e he)
    have hn' : e.length = n := by simpa using List.all_eq_true.1 q4 e (List.mem_of_getElem? (get i e he))
    have hsz : size = n := by omega
    subst hsz
    have hi := (List.getElem?_eq_some_iff.1 he).1
    rw [hlen] at hi
    obtain ⟨b, o, sp⟩ := ad
    cases hsp
    rw [if_neg (by omega)]
    refine ⟨g3, ⟨b, o + l.toNat * size, none⟩, by simp [Addr.add_none], rfl, fun j c hc => ?_⟩
    obtain ⟨p1, p2, p3, p4⟩ := g4 j c hc
    have ee : o + (l.toNat + i) * size + j = o + l.toNat * size + i * size + j := by rw [Nat.add_mul]; omega
    rw [ee] at p3 p4
    exact ⟨p1, p2, p3, p4⟩
  · rename_i e m off len hu
    cases h3
    simp only [Option.bind_eq_some_iff] at hl
    obtain ⟨n, hn, kb, hh, l, hlo, u, hhi, hl⟩ := hl
    split at hl <;> cases hl
    rename_i hq
    obtain ⟨q1, q2, q3, q4⟩ := hq
    cases hx with
    | hs _ _ _ a cap r hr hcap hb hor =>
    obtain ⟨r', z1, z2, _⟩ := hs.blk m kb hh
    rw [hr] at z1
    cases z1
    refine ⟨_, key hu hn (run_bounds h1 h2 hlo hhi q1 q2 q3 hcap), ?_⟩
    refine .hs m _ _ _ _ r hr (by omega) (by omega) ?_
    by_cases hc : cap - l.toNat = 0
    · exact .inl hc
    · rcases hor with hor | ⟨rfl, hor⟩
      · omega
      · right
        rw [if_neg (by omega)]
        have hrs : r.sz = n := by rw [z2, q4]
        refine ⟨?_, ?_⟩
        · simp [Addr.add_none, hrs, Nat.add_mul, Nat.add_assoc]
        · rw [show off + l.toNat + (cap - l.toNat) = off + cap by omega]
          exact hor
  · rename_i e hu
    cases h3
    simp only [Option.bind_eq_some_iff] at hl
    obtain ⟨n, hn, l, hlo, u, hhi, hl⟩ := hl
    split at hl <;> cases hl
    rename_i hq
    obtain ⟨rfl, rfl⟩ := hq
    cases hx with
    | zs a => exact ⟨_, key hu hn (run_bounds (len := 0) (cap := 0) h1 h2 hlo hhi (by omega) (by omega) (by omega) (by omega)), .zs _⟩
  · rename_i e k m hu
    simp only [Option.bind_eq_some_iff] at hl
    obtain ⟨n, hn, l, hlo, u, hhi, hl⟩ := hl
    split at hl <;> cases hl
    rename_i hq
    obtain ⟨rfl, rfl, rfl⟩ := hq
    cases h3 with
    | some _ _ h3 =>
    cases h3
    cases hx with
    | zs a => exact ⟨_, key hu hn (run_bounds3 h1 h2 hlo hhi), .zs _⟩
  · rename_i e es k m hu
    simp only [Option.bind_eq_some_iff] at hl
    obtain ⟨n, hn, l, hlo, u, hhi, hl⟩ := hl
    split at hl <;> cases hl
    rename_i hq
    obtain ⟨rfl, rfl, rfl⟩ := hq
    cases h3 with
    | some _ _ h3 =>
    cases h3
    cases hx with
    | sl _ a cap size vs hcap hb g1 g2 => exact ⟨_, key hu hn (run_bounds3 h1 h2 hlo hhi), .zs _⟩
  · rename_i e m off len k mm hu
    simp only [Option.bind_eq_some_iff] at hl
    obtain ⟨n, hn, l, hlo, u, hhi, hl⟩ := hl
    split at hl <;> cases hl
    rename_i hq
    obtain ⟨rfl, rfl, rfl⟩ := hq
    cases h3 with
    | some _ _ h3 =>
    cases h3
    cases hx with
    | hs _ _ _ a cap r hr hcap hb hor => exact ⟨_, key hu hn (run_bounds3 h1 h2 hlo hhi), .zs _⟩
  · rename_i s hu
    cases h3
    simp only [Option.bind_eq_some_iff] at hl
    obtain ⟨l, hlo, u, hhi, hl⟩ := hl
    split at hl <;> cases hl
    rename_i hq
    obtain ⟨q1, q2, q3⟩ := hq
    generalize hc : AV.str s = a at hx
    cases hx <;> cases hc
    rename_i s hb
    have hol : (octs s).length = s.size := by
      unfold octs
      rw [List.length_map, Array.length_toList]
      rfl
    rw [hol] at hhi q3
    have hrb := run_bounds (P := P) (isSlice := false) (len := s.size) (cap := s.size) h1 h2 hlo hhi q1 q2 q3 (Nat.le_refl _)
    refine ⟨.string (s.extract l.toNat u.toNat), by simp [Instr.sliceAt, run_underlying hu, Instr.slice, hrb], ?_⟩
    rw [← octs_extract]
    exact .str _ (by simp; omega)
  · cases hl
/-! ### conversions that make no memory -/
def octsOf : List (List AV) → Option (List Int)
  | [] => some []
  | [.int .u8 n] :: es => (octsOf es).map fun l => n :: l
  | _ => none
def aConv (P : Program) (h : AHeap) (src dst : TypeId) (x : AV) : Option AV :=
  match P.underlying src, P.underlying dst, x with
  | some _, some (.int k), .int _ n => some (.int k (k.wrap n))
  | some .string, some .string, .str l => some (.str l)
  | some (.slice e), some .string, .str _ => none
  | some (.slice e), some .string, x => match P.underlying e with
    | some (.int .u8) => (aRow h 1 x).bind fun es => (octsOf es).map .str
    | _ => none
  | _, _, _ => none
theorem octsOf_ok : ∀ {es : List (List AV)} {l : List Int} {vs : List Value}, octsOf es = some l → VRs σ w X B es.flatten vs → vs = l.map (Value.int .u8) ∧ ∀ n ∈ l, 0 ≤ n ∧ n < 256
  | [], l, vs, h, hv => by
    simp [octsOf] at h
    subst h
    have := hv.1
    simp at this
    exact ⟨List.eq_nil_of_length_eq_zero this.symm, by simp⟩
  | e :: es, l, vs, h, hv => by
    unfold octsOf at h
    split at h
    · rename_i heq; cases heq
    · rename_i n es' heq
      cases heq
      obtain ⟨l', hl', rfl⟩ := Option.map_eq_some_iff.1 h
      rw [List.flatten_cons] at hv
      cases vs with
      | nil => have := hv.1; simp at this
      | cons v vs =>
        have h1 := hv.head
        cases h1 with
        | int _ _ hr =>
        obtain ⟨h2, h3⟩ := octsOf_ok hl' (vs := vs) hv.tail
        subst h2
        refine ⟨by simp, fun m hm => ?_⟩
        rcases List.mem_cons.1 hm with rfl | hm
        · obtain ⟨q1, q2⟩ := hr
          simp [IntKind.min, IntKind.max, IntKind.signed, IntKind.bits] at q1 q2
          exact ⟨q1, by omega⟩
        · exact h3 m hm
    · cases h
theorem octs_fold : ∀ (l : List Int) (s : ByteArray), (∀ n ∈ l, 0 ≤ n ∧ n < 256) → octs (l.foldl (fun r n => r.push (UInt8.ofNat n.toNat)) s) = octs s ++ l
  | [], s, _ => by simp
  | n :: l, s, h => by
    rw [List.foldl_cons, octs_fold l _ fun m hm => h m (by simp [hm])]
    have h1 := h n (by simp)
    have : octs (s.push (UInt8.ofNat n.toNat)) = octs s ++ [n] := by
      unfold octs
      simp [ByteArray.push]
      omega
    rw [this]
    simp
theorem aConv_ok {w0 : World} {h : AHeap} (hs : SR B w0 σ h w) {src dst : TypeId} {x v : AV} {cx : Value} (hl : aConv P h src dst x = some v) (hx : VR σ w (Held σ h) B x cx) : ∃ cv, (convert src dst cx).run P w = .ok cv w ∧ VR σ w (Held σ h) B v cv := by
  unfold aConv at hl
  split at hl
  · rename_i d k _ n hs' hd
    cases hl
    cases hx
    exact ⟨_, by simp [convert, run_underlying hs', run_underlying hd, Conv.intToInt], .int _ _ (InR_wrap _ _)⟩
  · rename_i l hs' hd
    cases hl
    refine ⟨cx, ?_, hx⟩
    generalize hc : AV.str l = a at hx
    cases hx <;> cases hc
    simp [convert, run_underlying hs', run_underlying hd]
  · cases hl
  · rename_i _ e hu hd hne
    split at hl <;> try (cases hl; done)
    rename_i he
    simp only [Option.bind_eq_some_iff, Option.map_eq_some_iff] at hl
    obtain ⟨es, hes, l, hl, rfl⟩ := hl
    obtain ⟨a, cap, vs, rfl, hR⟩ := aRow_ok hs hes hx hne
    obtain ⟨rfl, hrg⟩ := octsOf_ok hl hR.rel
    have hlen := hR.length
    rw [List.length_map, Nat.mul_one] at hlen
    have hb := hR.big
    have hfold := octs_fold l ByteArray.empty hrg
    have hsz : (l.foldl (fun r n => r.push (UInt8.ofNat n.toNat)) ByteArray.empty).size = l.length := by
      have := congrArg List.length hfold
      unfold octs at this
      rw [List.length_map, Array.length_toList] at this
      simpa using this
    have hvr : VR σ w (Held σ h) B (.str l) (.string (l.foldl (fun r n => r.push (UInt8.ofNat n.toNat)) ByteArray.empty)) := by
      have := VR.str (σ := σ) (w := w) (X := Held σ h) (B := B) _ (show (l.foldl (fun r n => r.push (UInt8.ofNat n.toNat)) ByteArray.empty).size < big by omega)
      rw [hfold] at this
      simpa [octs] using this
    refine ⟨_, ?_, hvr⟩
    rw [run_convert_bytes_string w src dst e a _ _ hu he hd]
    cases a with
    | none =>
      have h0 : es = [] := by
        apply Classical.byContradiction
        intro hne'
        obtain ⟨ad, h1, _⟩ := hR.at_ hne'
        cases h1
      subst h0
      have : l = [] := List.eq_nil_of_length_eq_zero (by simpa using hlen)
      subst this
      rfl
    | some ad =>
      refine run_bytesToString w ad es.length cap l ?_
      by_cases hne' : es = []
      · subst hne'
        have : l = [] := List.eq_nil_of_length_eq_zero (by simpa using hlen)
        subst this
        rfl
      · obtain ⟨ad', h1, h2, h3⟩ := hR.at_ hne'
        cases h1
        obtain ⟨b, o, sp⟩ := ad
        cases h2
        have := run_loadCells_list (P := P) w ⟨b, o, none⟩ (l.map (Value.int .u8)) (fun j v hv => by
          rw [Addr.add_none]
          exact h3 j v hv)
        rwa [List.length_map, hlen] at this
  · cases hl
/-! ### lengths, the least and the greatest -/
def aLen (P : Program) (t : TypeId) (x : AV) : Option AV :=
  match P.underlying t, x with
  | some (.slice _), .zs => some (.int .i64 0)
  | some (.slice _), .sl es => some (.int .i64 es.length)
  | some (.slice _), .hs _ _ len => some (.int .i64 len)
  | some .string, .str l => some (.int .i64 l.length)
  | _, _ => none
theorem octs_length (s : ByteArray) : (octs s).length = s.size := by
  unfold octs
  rw [List.length_map, Array.length_toList]
  rfl
theorem aLen_ok {t ty : TypeId} {x v : AV} {cx : Value} (h : aLen P t x = some v) (hx : VR σ w X B x cx) : ∃ cv, (Builtin.len_ #[t] ty #[cx]).run P w = .ok cv w ∧ VR σ w X B v cv := by
  unfold aLen at h
  split at h <;> cases h
  · rename_i hu
    cases hx
    exact ⟨goInt 0, by simp [Builtin.len_, run_underlying hu], .int _ _ (by decide)⟩
  · rename_i es hu
    cases hx with
    | sl _ a cap size vs hcap hb h1 h2 => exact ⟨goInt es.length, by simp [Builtin.len_, run_underlying hu], .int _ _ (InR_len hb)⟩
  · rename_i m off len hu
    cases hx with
    | hs _ _ _ a cap r hr hcap hb hor => exact ⟨goInt len, by simp [Builtin.len_, run_underlying hu], .int _ _ (InR_len hb)⟩
  · rename_i l hu
    generalize hc : AV.str l = a at hx
    cases hx <;> cases hc
    rename_i s hb
    rw [octs_length]
    exact ⟨goInt s.size, by simp [Builtin.len_, run_underlying hu], .int _ _ (InR_len hb)⟩
def aMin (x y : AV) : Option AV := match x, y with | .int k a, .int j b => if k = j then some (.int k (if b < a then b else a)) else none | _, _ => none
def aMax (x y : AV) : Option AV := match x, y with | .int k a, .int j b => if k = j then some (.int k (if a < b then b else a)) else none | _, _ => none
theorem aMin_ok {ts : Array TypeId} {ty : TypeId} {x y v : AV} {cx cy : Value} (h : aMin x y = some v) (hx : VR σ w X B x cx) (hy : VR σ w X B y cy) : ∃ cv, (Builtin.min_ ts ty #[cx, cy]).run P w = .ok cv w ∧ VR σ w X B v cv := by
  unfold aMin at h
  split at h <;> try (cases h; done)
  split at h <;> cases h
  subst_vars
  cases hx with
  | int _ _ ha =>
  cases hy with
  | int _ _ hb =>
  refine ⟨_, run_min_int2 w ts ty _ _ _ _, .int _ _ ?_⟩
  split <;> assumption
theorem aMax_ok {ts : Array TypeId} {ty : TypeId} {x y v : AV} {cx cy : Value} (h : aMax x y = some v) (hx : VR σ w X B x cx) (hy : VR σ w X B y cy) : ∃ cv, (Builtin.max_ ts ty #[cx, cy]).run P w = .ok cv w ∧ VR σ w X B v cv := by
  unfold aMax at h
  split at h <;> try (cases h; done)
  split at h <;> cases h
  subst_vars
  cases hx with
  | int _ _ ha =>
  cases hy with
  | int _ _ hb =>
  refine ⟨_, run_max_int2 w ts ty _ _ _ _, .int _ _ ?_⟩
  split <;> assumption
end
end Go.Proofs.Ytcnofpoffdjbpaa.AE
