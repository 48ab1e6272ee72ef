/- append, copy, clear, on abstract values; and that the model's do the like. No program in sight. -/
import Derived.Test.YtcnofpoffdjbpaaA4
namespace Go.Proofs.Ytcnofpoffdjbpaa.AE
open Go Go.RowKit
set_option linter.unusedVariables false
set_option linter.unusedSimpArgs false
variable {P : Program}

section
variable {B : Nat} {w0 w w' : World} {σ : Sig} {h h' : AHeap} {k : Nat}
theorem setCells_below {r : Nat} (hr : B ≤ r) : ∀ (vs : List Value) (o : Nat) (u : World), Below B w u → Below B w (u.setCells r o vs)
  | [], _, _, hu => hu
  | v :: vs, o, u, hu => setCells_below hr vs (o + 1) _ (hu.setCell hr v)
/-- A row is appended to in its place: its block is given up for one that begins where the row does. -/
theorem SR.inPlace (hs : SR B w0 σ h w) (hk : σ k = none) {m off len cap n : Nat} {kb : Blk} {r : Rng} (hh : h m = some kb) (hr : σ m = some r) (hsz : kb.sz = n) (hol : off + len ≤ kb.es.length) (hroom : (off + cap) * n ≤ r.c)
    {ys : List (List AV)} {news : List Value} (hy : VRs σ w (Held σ h) B ys.flatten news) (hy1 : ∀ e ∈ ys, ∀ a ∈ e, a.one = true) (hyn : ∀ e ∈ ys, e.length = n) (hfit : len + ys.length ≤ cap) (hbig : len + ys.length < big) :
    w.there r.b (r.o + off * n + len * n) news.length ∧ Out B w0 σ h w k (k + 1) (.hs k 0 (len + ys.length)) (upd (upd h m none) k (some ⟨n, (kb.es.drop off).take len ++ ys⟩))
      (.slice (some ⟨r.b, r.o + off * n, none⟩) (len + ys.length) cap) (w.setCells r.b (r.o + off * n + len * n) news) := by
  obtain ⟨r', q1, q2, q3, q4, q4', q5, q6⟩ := hs.blk m kb hh
  rw [hr] at q1
  cases q1
  have hnl : news.length = ys.length * n := by rw [← hy.1, flatten_length hyn]
  rw [hsz] at q2 q4 q6
  have hmul : (len + ys.length) * n ≤ cap * n := Nat.mul_le_mul_right _ hfit
  have ea : (off + cap) * n = off * n + cap * n := Nat.add_mul _ _ _
  have eb : (len + ys.length) * n = len * n + ys.length * n := Nat.add_mul _ _ _
  have hin : ∀ i, r.o + off * n ≤ i → i < r.o + off * n + cap * n → r.has r.b i := fun i h1 h2 => ⟨rfl, by omega, by omega⟩
  have hthere : w.there r.b (r.o + off * n + len * n) news.length := fun i hi => q5 _ (hin _ (by omega) (by omega))
  have hsome : ∀ i, i < news.length → (w.cell? ⟨r.b, r.o + off * n + len * n + i, none⟩).isSome = true := fun i hi => (hthere i hi).1
  have hxl : ((kb.es.drop off).take len).length = len := by simp; omega
  have get : ∀ (i : Nat) (e : List AV), i < len → ((kb.es.drop off).take len)[i]? = some e → kb.es[off + i]? = some e := fun i e hi he => by
    rwa [List.getElem?_take, if_pos hi, List.getElem?_drop] at he
  have := hs.turn (w' := w.setCells r.b (r.o + off * n + len * n) news) (fun i => decide (i = m)) k ⟨r.b, r.o + off * n, cap * n, n⟩ ⟨n, (kb.es.drop off).take len ++ ys⟩ (.inl hk) (setCells_below q3 _ _ _ (Below.refl _ _))
    (fun b i v hv hx => by
      rw [World.cell?_setCells_out]
      · exact hv
      · intro hb _
        simp only at hb
        subst hb
        by_cases hq : r.has r.b i
        · exact absurd hq (hx m r (by simp) (by rw [hh]; rfl) hr)
        · have q8 : ¬ (r.o ≤ i ∧ i < r.o + r.c) := fun q => hq ⟨rfl, q.1, q.2⟩
          show i < _ ∨ _ ≤ i
          omega)
    (fun b i hb => World.frozen?_setCells _ _ _ _ _) q3
    (fun i hi => by
      obtain ⟨_, hi1, hi2⟩ := hi
      have hi3 := hin i hi1 hi2
      refine ⟨?_, by rw [World.frozen?_setCells]; exact (q5 i hi3).2, .inr ⟨m, r, by simp, by rw [hh]; rfl, hr, hi3⟩⟩
      by_cases hq : r.o + off * n + len * n ≤ i ∧ i < r.o + off * n + len * n + news.length
      · obtain ⟨x, rfl⟩ : ∃ x, i = r.o + off * n + len * n + x := ⟨i - (r.o + off * n + len * n), by omega⟩
        rw [World.cell?_setCells_in _ _ _ _ hsome x (by omega)]
        rfl
      · rw [World.cell?_setCells_out]
        · exact (q5 i hi3).1
        · intro _ _
          show i < _ ∨ _ ≤ i
          omega) rfl (by simp only [List.length_append, hxl]; exact hmul) (by simp only [List.length_append, hxl]; exact hbig)
    (fun i e he => by
      by_cases hi : i < len
      · rw [List.getElem?_append_left (by omega)] at he
        obtain ⟨h1, h2⟩ := q6 _ _ (get i e hi he)
        refine ⟨h1, fun j a ha => ?_⟩
        obtain ⟨h3, v, h4, h5, h6⟩ := h2 j a ha
        refine ⟨h3, v, h4, ?_, h6⟩
        have hj := (List.getElem?_eq_some_iff.1 ha).1
        have ec : (off + i) * n = off * n + i * n := Nat.add_mul _ _ _
        have ed : (i + 1) * n ≤ len * n := Nat.mul_le_mul_right _ hi
        rw [Nat.succ_mul] at ed
        rw [World.cell?_setCells_out]
        · show w.cell? ⟨r.b, r.o + off * n + i * n + j, none⟩ = some v
          rw [show r.o + off * n + i * n + j = r.o + (off + i) * n + j by omega]
          exact h5
        · intro _ _
          show r.o + off * n + i * n + j < _ ∨ _
          omega
      · rw [List.getElem?_append_right (by omega), hxl] at he
        have hen := hyn e (List.mem_of_getElem? he)
        refine ⟨hen, fun j a ha => ?_⟩
        have hf := flatten_get hyn he ha
        obtain ⟨v, h3, h4⟩ := hy.get hf
        have ho := hy1 e (List.mem_of_getElem? he) a (List.mem_of_getElem? ha)
        refine ⟨ho, v, h4.oneCell ho, ?_, h4⟩
        have hlt := (List.getElem?_eq_some_iff.1 h3).1
        have ee : i * n = len * n + (i - len) * n := by rw [← Nat.add_mul]; congr 1; omega
        show (w.setCells _ _ _).cell? ⟨r.b, r.o + off * n + i * n + j, none⟩ = some v
        rw [show r.o + off * n + i * n + j = r.o + off * n + len * n + ((i - len) * n + j) by omega, World.cell?_setCells_in _ _ _ _ hsome _ hlt]
        rw [List.getElem?_eq_getElem hlt] at h3
        exact h3)
  rw [kill_eq] at this
  refine ⟨hthere, _, this.1, fun i hi => upd_ne _ _ _ (by omega), this.2, ?_⟩
  exact .hs k 0 _ _ cap ⟨r.b, r.o + off * n, cap * n, n⟩ (upd_same _ _ _) hfit hbig (.inr ⟨by simp, by simp⟩)
/-- A row that is empty and has no room, named anew. -/
theorem SR.noRoom (hs : SR B w0 σ h w) (hk : σ k = none) (x : AV) (a : Option Addr) (n : Nat) :
    Out B w0 σ h w k (k + 1) (.hs k 0 0) (upd (killT h x) k (some ⟨n, []⟩)) (.slice a 0 0) w := by
  have key : ∀ D : Nat → Bool, Out B w0 σ h w k (k + 1) (.hs k 0 0) (upd (fun i => if D i = true then none else h i) k (some ⟨n, []⟩)) (.slice a 0 0) w := fun D => by
    have := hs.turn (w' := w) D k ⟨B, 0, 0, n⟩ ⟨n, []⟩ (.inl hk) (Below.refl _ _) (fun b i v hv _ => hv) (fun _ _ _ => rfl) (Nat.le_refl _)
      (fun i hi => absurd hi.2.2 (by have := hi.2.1; simp)) rfl (by simp) (by simp [big]) (fun i e he => by simp at he)
    exact ⟨_, this.1, fun i hi => upd_ne _ _ _ (by omega), this.2, .hs k 0 0 _ 0 ⟨B, 0, 0, n⟩ (upd_same _ _ _) (Nat.le_refl _) (by simp [big]) (.inl rfl)⟩
  cases x
  case hs m off len =>
    have := key fun i => decide (i = m)
    rwa [kill_eq] at this
  all_goals exact key fun _ => false
/-- A row is copied to a new one. -/
theorem SR.grown (hs : SR B w0 σ h w) (hk : σ k = none) (x : AV) {n need : Nat} {es : List (List AV)} {vs rest : List Value} (t : TypeId) (hv : VRs σ w (Held σ h) B es.flatten vs) (h1 : ∀ e ∈ es, ∀ a ∈ e, a.one = true) (hn : ∀ e ∈ es, e.length = n) (hbig : es.length < big)
    {cap : Nat} (hcap : es.length ≤ cap) (hrest : cap * n ≤ (vs ++ rest).length) :
    Out B w0 σ h w k (k + 1) (.hs k 0 es.length) (upd (killT h x) k (some ⟨n, es⟩)) (.slice (some ⟨w.heap.size, 0, none⟩) es.length cap) (w.drew.alloc (.cells (vs ++ rest).toArray t)) := by
  obtain ⟨d1, d2⟩ := hs.drew (w.drawn + 1)
  have hdw : ({ w with drawn := w.drawn + 1 } : World) = w.drew := rfl
  rw [hdw] at d1 d2
  have key : ∀ D : Nat → Bool, Out B w0 σ h w k (k + 1) (.hs k 0 es.length) (upd (fun i => if D i = true then none else h i) k (some ⟨n, es⟩)) (.slice (some ⟨w.heap.size, 0, none⟩) es.length cap) (w.drew.alloc (.cells (vs ++ rest).toArray t)) := fun D => by
    obtain ⟨e1, e2⟩ := d1.drop D
    obtain ⟨f1, f2⟩ := e1.row k hk es n hn hbig vs rest t ⟨hv.1, fun j c v hc hw => e2 _ _ (d2 _ _ (hv.2 j c v hc hw))⟩ h1
    exact ⟨_, f1, fun i hi => upd_ne _ _ _ (by omega), fun b u hb => f2 _ _ (e2 _ _ (d2 _ _ hb)), VR.row hcap hbig hrest⟩
  cases x
  case hs m off len =>
    have := key fun i => decide (i = m)
    rwa [kill_eq] at this
  all_goals exact key fun _ => false
end

/-! ### append -/
/-- What is appended: a row's elements, a string's octets, or so many zeros. -/
def aNews (P : Program) (h : AHeap) (e : TypeId) (n : Nat) (tx : TypeId) (y : AV) : Option (List (List AV)) :=
  match P.underlying tx, y with
  | some (.int _), .int _ m => (zeroT P e).bind fun zs => if 0 ≤ m ∧ m < 4611686018427387904 ∧ zs.length = n ∧ zs.all AV.one = true then some (List.replicate m.toNat zs) else none
  | some .string, .str l => aRow h n (.str l)
  | some (.slice _), .str _ => none
  | some (.slice _), y => aRow h n y
  | _, _ => none
def AV.mayGrow : AV → Bool
  | .zs | .hs .. => true
  | _ => false
def aAppend (P : Program) (h : AHeap) (k : Nat) (t tx : TypeId) (x y : AV) : Option (AV × AHeap) :=
  match P.underlying t with
  | some (.slice e) => (sizeT P e).bind fun n => (byteT P e).bind fun by_ => (aRow h n x).bind fun xs => (aNews P h e n tx y).bind fun ys => (zeroT P e).bind fun zs =>
      if (xs.length + ys.length) * by_ ≤ 140737488355328 ∧ xs.length + ys.length < 4611686018427387904 ∧ x.mayGrow = true ∧ 0 < n ∧ zs.length = n then
        some (.hs k 0 (xs.length + ys.length), upd (killT h x) k (some ⟨n, xs ++ ys⟩)) else none
  | _ => none
/-- What the model's append does with its second argument. -/
structure News (P : Program) (w : World) (t tx e : TypeId) (i : TypeInfo) (cy : Value) (m : Nat) (news : List Value) : Prop where
  nothing : m = 0 → ∀ (ty : TypeId) (a : Option Addr) (len cap : Nat), len ≤ cap → (Builtin.append_ #[t, tx] ty #[.slice a len cap, cy]).run P w = .ok (.slice a len cap) w
  room : ∀ (ty : TypeId) (b off len cap : Nat), len + m ≤ cap → (∀ j, j < news.length → (w.cell? ⟨b, off + len * i.size + j, none⟩).isSome = true) → (∀ j, j < news.length → w.frozen? ⟨b, off + len * i.size + j, none⟩ = false) →
    (Builtin.append_ #[t, tx] ty #[.slice (some ⟨b, off, none⟩) len cap, cy]).run P w = .ok (.slice (some ⟨b, off, none⟩) (len + m) cap) (w.setCells b (off + len * i.size) news)
  grow : ∀ (ty : TypeId) (z : Value) (a : Option Addr) (len cap : Nat) (olds : List Value), i.zero = some z → (Builtin.firstCells i.size len (.slice a len cap)).run P w.drew = .ok olds.toArray w.drew → len ≤ cap → cap < len + m → ((len + m : Nat) : Int) ≤ 9223372036854775807 → m * i.bytes ≤ 281474976710656 →
    Builtin.nextslicecap (len + m) cap * i.bytes ≤ 281474976710656 → (Builtin.append_ #[t, tx] ty #[.slice a len cap, cy]).run P w =
      .ok (.slice (some ⟨w.heap.size, 0, none⟩) (len + m) (grownCap w (len + m) cap e)) (w.drew.alloc (.cells ((olds ++ news).toArray ++ Builtin.zeroCells z.cells (grownCap w (len + m) cap e - (len + m))) e))
section
variable {B : Nat} {w0 w : World} {σ : Sig} {h h' : AHeap} {k : Nat}
theorem News.ofSrc {t tx e : TypeId} {i : TypeInfo} {cy : Value} {m : Nat} {news : List Value} (ht : P.underlying t = some (.slice e)) (hi : P.info? e = some i) (hs : Src P i.size tx cy m news w) : News P w t tx e i cy m news where
  nothing := fun h0 ty a len cap hle => by
    subst h0
    have hn : news = [] := by have := hs.newsLen; simpa using this
    subst hn
    rcases hs.kind with ⟨e', hk⟩ | hk <;> (simp [Builtin.append_, run_underlying ht, run_underlying hk, sizeOf, typeInfo, hi, hs.len, hle, hs.cells]; cases a <;> simp [storeCells])
  room := fun ty b off len cap hfit hc hf => run_append_room_src w t tx ty e i ht hi b off len cap cy m news hs hfit hc hf
  grow := fun ty z a len cap olds hz hold _ hg h63 _ hfit => run_append_grow_src w t tx ty e i z ht hi hz a len cap olds hold cy m news hs hg h63 hfit
theorem News.ofZeros {t tx e : TypeId} {i : TypeInfo} {z : Value} {kn kq : IntKind} {m : Nat} (ht : P.underlying t = some (.slice e)) (htx : P.underlying tx = some (.int kn)) (hi : P.info? e = some i) (hz : i.zero = some z) (hsz : i.size = z.cells.size) (h0 : 0 < i.size) (h1 : ∀ v ∈ z.cells.toList, v.oneCell' = true) (hm : m < 4611686018427387904) (h48 : m * i.bytes ≤ 281474976710656) :
    News P w t tx e i (.int kq m) m (List.replicate m z.cells.toList).flatten where
  nothing := fun h0 ty a len cap hle => by
    subst h0
    have hw : IntKind.i64.wrap 0 = 0 := by decide
    simp [Builtin.append_, run_underlying ht, run_underlying htx, sizeOf, typeInfo, hi, asInt, asIntOf, hle, hw]
    cases a <;> simp [storeCells]
  room := fun ty b off len cap hfit hc hf => by
    have hw : IntKind.i64.wrap (m : Int) = m := by rw [IntKind.wrap_i64]; omega
    have h48i : ¬ (281474976710656 < (m : Int) * (i.bytes : Int)) := by
      rw [← Int.natCast_mul]
      omega
    have hneg : ¬ ((m : Int) < 0) := by omega
    have hzc : (Builtin.zeroCells z.cells m).toList = (List.replicate m z.cells.toList).flatten := by
      unfold Builtin.zeroCells
      rw [zeros_flatten, Array.toList_map, Array.toList_range]
      simp [getElem!_def]
    have hst := run_storeCells_cells (P := P) b (off + len * i.size) (List.replicate m z.cells.toList).flatten 0 w (by simpa using hc) (by simpa using hf) (fun v hv => by
      obtain ⟨l, hl, hv⟩ := List.mem_flatten.1 hv
      rw [(List.mem_replicate.1 hl).2] at hv
      exact h1 v hv)
    simp only [Nat.add_zero] at hst
    by_cases hm0 : m = 0
    · subst hm0
      have hw0 : IntKind.i64.wrap 0 = 0 := by decide
      simp at hfit
      simp [Builtin.append_, run_underlying ht, run_underlying htx, sizeOf, typeInfo, hi, asInt, asIntOf, hw0, hfit, Addr.add_lit, storeCells, World.setCells]
    · have hns : ¬ (m * i.size = 0) := Nat.mul_ne_zero hm0 (by omega)
      simp [Builtin.append_, run_underlying ht, run_underlying htx, sizeOf, typeInfo, zeroValue, hi, hz, asInt, asIntOf, hw, hneg, h48i, hns, hfit, Addr.add_lit, hzc, hst]
  grow := fun ty z' a len cap olds hz' hold hlc hg h63 h48' hfit => by
    rw [hz] at hz'
    cases hz'
    by_cases hm0 : m = 0
    · subst hm0
      omega
    · rw [Go.Lib.run_append_grow_zeros w t tx ty e i z kq kn ht htx hi hz a len cap olds hold m (by omega) h0 hg h63 h48 hfit]
      congr 3
      have hzc : (Builtin.zeroCells z.cells m) = (List.replicate m z.cells.toList).flatten.toArray := by
        apply Array.ext'
        unfold Builtin.zeroCells
        rw [zeros_flatten, Array.toList_map, Array.toList_range]
        simp [getElem!_def]
      rw [hzc]
      simp
theorem aNews_ok (hs : SR B w0 σ h w) {t tx e : TypeId} {i : TypeInfo} {n : Nat} {y : AV} {cy : Value} {ys : List (List AV)} (ht : P.underlying t = some (.slice e)) (hi : P.info? e = some i) (hin : i.size = n) (h0 : 0 < n) (hl : aNews P h e n tx y = some ys) (hv : VR σ w (Held σ h) B y cy)
    (hb : ys.length * i.bytes ≤ 281474976710656) :
    ∃ news, News P w t tx e i cy ys.length news ∧ VRs σ w (Held σ h) B ys.flatten news ∧ (∀ e ∈ ys, ∀ a ∈ e, a.one = true) ∧ (∀ e ∈ ys, e.length = n) := by
  unfold aNews at hl
  split at hl
  · rename_i kn kq m hu
    cases hv
    simp only [Option.bind_eq_some_iff] at hl
    obtain ⟨zs, hz, hl⟩ := hl
    split at hl
    · rename_i hq
      obtain ⟨h1, h2, h3, h4⟩ := hq
      cases hl
      unfold zeroT at hz
      simp only [Option.bind_eq_some_iff, Option.map_eq_some_iff] at hz
      obtain ⟨z, ⟨i', hi', hz⟩, rfl⟩ := hz
      rw [hi] at hi'
      cases hi'
      simp only [List.length_map, Array.length_toList] at h3
      have hcells : ∀ v ∈ z.cells.toList, v.oneCell' = true := fun v hv => by
        obtain ⟨j, hj⟩ := List.mem_iff_getElem?.1 hv
        have h5 : (z.cells.toList.map avOf1)[j]? = some (avOf1 v) := by rw [List.getElem?_map, hj]; rfl
        exact (VR.of1 (σ := σ) (w := w) (X := Held σ h) (B := B) v).oneCell (List.all_eq_true.1 h4 _ (List.mem_of_getElem? h5))
      have hm : ((m.toNat : Nat) : Int) = m := by omega
      have := News.ofZeros (w := w) (kq := kq) (m := m.toNat) ht hu hi hz (by rw [hin, h3]) (by omega) hcells (by omega) (by simpa using hb)
      rw [hm] at this
      refine ⟨_, by simpa using this, (VRs.of1 _).replicate _, fun e he a ha => ?_, fun e he => ?_⟩
      · rw [(List.mem_replicate.1 he).2] at ha
        exact List.all_eq_true.1 h4 a ha
      · rw [(List.mem_replicate.1 he).2]
        simpa using h3
    · cases hl
  · rename_i l hu
    obtain ⟨vs, h1, h2, h3, h4⟩ := aSrc_ok (P := P) (tx := tx) hs hl hv (fun _ => hu) (fun hx => absurd rfl (hx l))
    exact ⟨vs, News.ofSrc ht hi (hin ▸ h1), h2, h3, h4⟩
  · cases hl
  · rename_i _ e' hu hne
    obtain ⟨vs, h1, h2, h3, h4⟩ := aSrc_ok (P := P) (tx := tx) hs hl hv (fun ⟨l, hx⟩ => absurd hx (hne l)) (fun _ => ⟨e', hu⟩)
    exact ⟨vs, News.ofSrc ht hi (hin ▸ h1), h2, h3, h4⟩
  · cases hl
theorem aAppend_ok (hs : SR B w0 σ h w) (hk : σ k = none) {t tx ty : TypeId} {x y v : AV} {cx cy : Value} (hl : aAppend P h k t tx x y = some (v, h')) (hx : VR σ w (Held σ h) B x cx) (hy : VR σ w (Held σ h) B y cy) :
    ∃ cv w', (Builtin.append_ #[t, tx] ty #[cx, cy]).run P w = .ok cv w' ∧ Out B w0 σ h w k (k + 1) v h' cv w' := by
  unfold aAppend at hl
  cases ht : P.underlying t with
  | none => simp [ht] at hl
  | some d =>
  cases d <;> simp only [ht] at hl <;> try (cases hl; done)
  rename_i e
  simp only [Option.bind_eq_some_iff] at hl
  obtain ⟨n, hn, by_, hby, xs, hxs, ys, hys, zs, hzs, hl⟩ := hl
  split at hl
  · rename_i hq
    obtain ⟨q1, q2, q3, q4, q5⟩ := hq
    cases hl
    unfold zeroT at hzs
    simp only [Option.bind_eq_some_iff, Option.map_eq_some_iff] at hzs
    obtain ⟨z, ⟨i, hi, hz⟩, rfl⟩ := hzs
    have hin : i.size = n := by simpa [sizeT, hi] using hn
    have hib : i.bytes = by_ := by simpa [byteT, hi] using hby
    have hyb : ys.length * i.bytes ≤ 140737488355328 := Nat.le_trans (Nat.mul_le_mul_right _ (Nat.le_add_left _ xs.length)) (hib ▸ q1)
    obtain ⟨news, hN, hyr, hy1, hyn⟩ := aNews_ok hs ht hi hin q4 hys hy (by omega)
    obtain ⟨a, cap, vs, rfl, hR⟩ := aRow_ok hs hxs hx (fun l e => by subst e; cases q3)
    by_cases hg : cap < xs.length + ys.length
    · -- a new row
      have hcg := grownCap_ge w (xs.length + ys.length) cap e
      have hold : (Builtin.firstCells i.size xs.length (.slice a xs.length cap)).run P w.drew = .ok vs.toArray w.drew := by
        by_cases hne : xs = []
        · subst hne
          have hv0 : vs = [] := List.eq_nil_of_length_eq_zero (by have := hR.length; simpa using this)
          subst hv0
          cases a <;> simp [Builtin.firstCells, loadCells, loadCellsFrom]
        · obtain ⟨ad, rfl, hsp, hat⟩ := hR.at_ hne
          obtain ⟨b, o, sp⟩ := ad
          cases hsp
          exact run_firstCells_some w.drew i.size xs.length ⟨b, o, none⟩ xs.length cap vs (by rw [hin]; exact hR.length) (fun j v hj => by
            rw [Addr.add_none]
            exact hat j v hj)
      have hrun := hN.grow ty z a xs.length cap vs hz hold hR.cap hg (by omega) (by omega) (growslice_fits hg (by rw [hib]; exact q1))
      have hcc : (vs ++ news).toArray ++ Builtin.zeroCells z.cells (grownCap w (xs.length + ys.length) cap e - (xs.length + ys.length)) = ((vs ++ news) ++ (Builtin.zeroCells z.cells (grownCap w (xs.length + ys.length) cap e - (xs.length + ys.length))).toList).toArray := by
        apply Array.ext'
        simp
      rw [hcc] at hrun
      refine ⟨_, _, hrun, ?_⟩
      have hzsz : z.cells.size = n := by simpa using q5
      have := hs.grown hk x (n := n) (need := 0) (es := xs ++ ys) (vs := vs ++ news) (rest := (Builtin.zeroCells z.cells (grownCap w (xs.length + ys.length) cap e - (xs.length + ys.length))).toList) (cap := grownCap w (xs.length + ys.length) cap e) e
        (by rw [List.flatten_append]; exact hR.rel.append hyr) (fun e he => (List.mem_append.1 he).elim (hR.one e) (hy1 e)) (fun e he => (List.mem_append.1 he).elim (hR.szs e) (hyn e)) (by rw [List.length_append]; unfold big; omega) (by rw [List.length_append]; exact hcg) (by
          have e1 := hR.length
          have e2 : news.length = ys.length * n := by rw [← hyr.1, flatten_length hyn]
          simp only [List.length_append, Array.length_toList, size_zeroCells, hzsz]
          rw [e1, e2, ← Nat.add_mul, ← Nat.add_mul]
          exact Nat.mul_le_mul_right _ (by omega))
      simpa using this
    · by_cases hnil : ys = []
      · subst hnil
        have hrun := hN.nothing rfl ty a xs.length cap hR.cap
        cases x with
        | zs =>
          simp only [aRow, Option.some.injEq] at hxs
          subst hxs
          cases hx
          exact ⟨_, _, hrun, by simpa using hs.noRoom hk .zs a n⟩
        | hs m off len =>
          by_cases hc0 : cap = 0
          · subst hc0
            have hx0 : xs = [] := List.eq_nil_of_length_eq_zero (by have := hR.cap; omega)
            subst hx0
            exact ⟨_, _, hrun, by simpa using hs.noRoom hk (.hs m off len) a n⟩
          · simp only [aRow, Option.bind_eq_some_iff] at hxs
            obtain ⟨kb, hh, hxs⟩ := hxs
            split at hxs <;> try (cases hxs; done)
            rename_i hq
            cases hxs
            have hlen : ((kb.es.drop off).take len).length = len := by simp; omega
            rw [hlen] at hx hrun hg ⊢
            cases hx with
            | hs _ _ _ _ _ r hr hcap hb hor =>
            rcases hor with hor | ⟨rfl, hor⟩
            · exact absurd hor hc0
            · obtain ⟨r', q6, q7, _⟩ := hs.blk m kb hh
              rw [hr] at q6
              cases q6
              have hrs : r.sz = n := by rw [q7, hq.1]
              rw [hrs] at hor hrun ⊢
              have := (hs.inPlace hk hh hr hq.1 hq.2 hor (cap := cap) (ys := []) (news := []) (by simpa using VRs.nil) (by simp) (by simp) (by simp; omega) (by simp; omega)).2
              refine ⟨_, _, hrun, ?_⟩
              simpa [World.setCells, killT] using this
        | _ => cases q3
      · -- room
        cases x with
        | zs =>
          simp only [aRow, Option.some.injEq] at hxs
          subst hxs
          cases hx
          have : 0 < ys.length := List.length_pos_iff.2 hnil
          exact absurd (by simpa using this) hg
        | hs m off len =>
          have hyp : 0 < ys.length := List.length_pos_iff.2 hnil
          simp only [aRow, Option.bind_eq_some_iff] at hxs
          obtain ⟨kb, hh, hxs⟩ := hxs
          split at hxs <;> try (cases hxs; done)
          rename_i hq
          cases hxs
          have hlen : ((kb.es.drop off).take len).length = len := by simp; omega
          rw [hlen] at hx hg q2 ⊢
          cases hx with
          | hs _ _ _ _ _ r hr hcap hb hor =>
          rcases hor with hor | ⟨rfl, hor⟩
          · omega
          · obtain ⟨r', q6, q7, _⟩ := hs.blk m kb hh
            rw [hr] at q6
            cases q6
            have hrs : r.sz = n := by rw [q7, hq.1]
            rw [hrs] at hor ⊢
            obtain ⟨hthere, hout⟩ := hs.inPlace hk hh hr hq.1 hq.2 hor (cap := cap) hyr hy1 hyn (by omega) (by unfold big; omega)
            have hrun := hN.room ty r.b (r.o + off * n) len cap (by omega) (fun j hj => by rw [hin]; exact (hthere j hj).1) (fun j hj => by rw [hin]; exact (hthere j hj).2)
            rw [hin] at hrun
            exact ⟨_, _, hrun, by simpa [killT] using hout⟩
        | _ => cases q3
  · cases hl
end
end Go.Proofs.Ytcnofpoffdjbpaa.AE
