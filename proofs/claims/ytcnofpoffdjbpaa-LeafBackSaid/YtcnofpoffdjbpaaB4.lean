/- What a walk may forget or freeze; functions that leave memory as it was. No program in sight. -/
import Derived.Test.YtcnofpoffdjbpaaB3
namespace Go.Proofs.Ytcnofpoffdjbpaa.AE
open Go Go.RowKit
set_option linter.unusedVariables false
set_option linter.unusedSimpArgs false
variable {P : Program}

/-- A state that says less, of the same memory. -/
def Sub (st st' : St) : Prop := st.nx ≤ st'.nx ∧ ∀ B w0 nt σ act w, Rel B w0 nt σ st act w → Rel B w0 nt σ st' act w ∧ ∀ a v, VR σ w (Held σ st.h) B a v → VR σ w (Held σ st'.h) B a v
theorem Sub.refl (st : St) : Sub st st := ⟨Nat.le_refl _, fun B w0 nt σ act w h => ⟨h, fun _ _ q => q⟩⟩
theorem Sub.trans {a b c : St} (h : Sub a b) (k : Sub b c) : Sub a c := ⟨Nat.le_trans h.1 k.1, fun B w0 nt σ act w q =>
  ⟨(k.2 B w0 nt σ act w (h.2 B w0 nt σ act w q).1).1, fun x v hv => (k.2 B w0 nt σ act w (h.2 B w0 nt σ act w q).1).2 x v ((h.2 B w0 nt σ act w q).2 x v hv)⟩⟩
section
variable {nt : Nat} {Q : AX → St → Prop} {st st' : St} {c : Code} {ops : Array Oper} {l : List Oper}
theorem aWp_sub (hs : Sub st st') (h : aWp P nt c Q st') : aWp P nt c Q st := fun B w0 O σ act w hr hk =>
  h B w0 O σ act w (hs.2 B w0 nt σ act w hr).1 (hk.trans (hs.2 B w0 nt σ act w hr).2 hs.1 (fun _ _ => rfl))
theorem aOps_sub (hs : Sub st st') (h : aOps P nt ops l Q st') : aOps P nt ops l Q st := fun B w0 O σ act w hr hk =>
  h B w0 O σ act w (hs.2 B w0 nt σ act w hr).1 (hk.trans (hs.2 B w0 nt σ act w hr).2 hs.1 (fun _ _ => rfl))
/-- Blocks are forgotten. -/
theorem Sub.drop (D : Nat → Bool) : Sub st ⟨st.tm, fun m => if D m = true then none else st.h m, st.nx, st.df⟩ := ⟨Nat.le_refl _, fun B w0 nt σ act w hr => by
  obtain ⟨h1, h2⟩ := hr.sr.drop D
  exact ⟨⟨h1, fun t => h2 _ _ (hr.tr t), hr.nt, hr.nx, hr.df.mono h2⟩, h2⟩⟩
/-- The next name may be a later one. -/
theorem Sub.later {k : Nat} (hk : st.nx ≤ k) : Sub st ⟨st.tm, st.h, k, st.df⟩ := ⟨hk, fun B w0 nt σ act w hr =>
  ⟨⟨hr.sr, hr.tr, hr.nt, fun n hn => hr.nx n (by have : k ≤ n := hn; omega), hr.df⟩, fun _ _ q => q⟩⟩
/-- What nobody will write any more is read without its block. -/
theorem VR.freeze {B : Nat} {w0 w : World} {σ : Sig} {h : AHeap} (hs : SR B w0 σ h w) (D : Nat → Bool) {n off len : Nat} {k : Blk} {v : Value} (hn : h n = some k) (hD : D n = true) (hl : off + len ≤ k.es.length) (hv : VR σ w (Held σ h) B (.hs n off len) v) :
    VR σ w (Held σ (fun m => if D m = true then none else h m)) B (.sl ((k.es.drop off).take len)) v := by
  obtain ⟨d1, d2⟩ := hs.drop D
  cases hv with
  | hs _ _ _ a cap r hr hcap hb hor =>
  obtain ⟨r', q1, q2, q3, q4, q4', q5, q6⟩ := hs.blk n k hn
  rw [hr] at q1
  cases q1
  have hlen : ((k.es.drop off).take len).length = len := by simp; omega
  have get : ∀ (i : Nat) (e : List AV), ((k.es.drop off).take len)[i]? = some e → i < len ∧ k.es[off + i]? = some e := fun i e he => by
    rw [List.getElem?_take] at he
    split at he
    · rw [List.getElem?_drop] at he
      exact ⟨by assumption, he⟩
    · cases he
  have read : ∀ i j : Nat, ∃ u, ∀ (e : List AV) (c : AV), ((k.es.drop off).take len)[i]? = some e → e[j]? = some c → c.one = true ∧ u.oneCell' = true ∧ w.cell? ⟨r.b, r.o + (off + i) * k.sz + j, none⟩ = some u ∧ VR σ w (Held σ h) B c u := fun i j => by
    cases he : ((k.es.drop off).take len)[i]? with
    | none => exact ⟨Go.undef, fun e c h => by cases h⟩
    | some e =>
      cases hc : e[j]? with
      | none => exact ⟨Go.undef, fun e' c h1 h2 => by cases h1; rw [hc] at h2; cases h2⟩
      | some c =>
        obtain ⟨h1, u, h2, h3, h4⟩ := (q6 _ _ (get i e he).2).2 j c hc
        exact ⟨u, fun e' c' g1 g2 => by cases g1; rw [hc] at g2; cases g2; exact ⟨h1, h2, h3, h4⟩⟩
  suffices key : VR σ w (Held σ (fun m => if D m = true then none else h m)) B (.sl ((k.es.drop off).take len)) (.slice a ((k.es.drop off).take len).length cap) by
    rwa [hlen] at key
  refine .sl _ a cap k.sz (fun i j => (read i j).choose) (by rw [hlen]; exact hcap) (by rw [hlen]; exact hb) (fun i e he => ?_) (fun i e he j c hc => d2 _ _ ((read i j).choose_spec e c he hc).2.2.2)
  obtain ⟨h1, h2⟩ := get i e he
  have hel := (q6 _ _ h2).1
  rcases hor with hor | ⟨rfl, hor⟩
  · omega
  · refine ⟨hel, _, rfl, rfl, fun j c hc => ?_⟩
    obtain ⟨g1, g2, g3, g4⟩ := (read i j).choose_spec e c he hc
    have e1 : r.o + off * r.sz + i * k.sz + j = r.o + (off + i) * k.sz + j := by rw [q2, Nat.add_mul]; omega
    refine ⟨g1, g2, by rw [e1]; exact g3, ?_⟩
    rintro ⟨m, s, p1, p2, p3⟩
    simp only at p1
    split at p1
    · cases p1
    · rename_i hm
      have hj := (List.getElem?_eq_some_iff.1 hc).1
      have hi := (List.getElem?_eq_some_iff.1 h2).1
      have hmul : (off + i + 1) * k.sz ≤ k.es.length * k.sz := Nat.mul_le_mul_right _ hi
      rw [Nat.succ_mul] at hmul
      have hin : r.has r.b (r.o + off * r.sz + i * k.sz + j) := ⟨rfl, by omega, by rw [e1]; omega⟩
      have := hs.dis m n s r _ _ p1 (by rw [hn]; rfl) p2 hr p3 hin
      subst this
      exact hm hD
/-- A temporary's row is frozen. -/
theorem Sub.freeze {t n off len : Nat} {k : Blk} (ht : st.tm t = .hs n off len) (hn : st.h n = some k) (hl : off + len ≤ k.es.length) : Sub st ⟨upd st.tm t (.sl ((k.es.drop off).take len)), upd st.h n none, st.nx, st.df⟩ := ⟨Nat.le_refl _, fun B w0 nt σ act w hr => by
  obtain ⟨d1, d2⟩ := hr.sr.drop (fun i => decide (i = n))
  have hv := hr.tr t
  rw [ht] at hv
  have hf := VR.freeze hr.sr (fun i => decide (i = n)) hn (by simp) hl hv
  rw [kill_eq] at d1 d2 hf
  refine ⟨⟨d1, fun i => ?_, hr.nt, hr.nx, hr.df.mono d2⟩, d2⟩
  by_cases hi : i = t
  · subst hi
    simp only [upd_same]
    exact hf
  · simp only [upd_ne _ _ _ hi]
    exact d2 _ _ (hr.tr i)⟩
/-- The blocks that may be there have names. -/
theorem aWp_fresh (h : (∀ n, st.nx ≤ n → st.h n = none) → aWp P nt c Q st) : aWp P nt c Q st := fun B w0 O σ act w hr hk =>
  h (fun n hn => hr.sr.none_of (hr.nx n hn)) B w0 O σ act w hr hk
/-- There is a value that it stands for. -/
def Real (a : AV) : Prop := ∃ σ w X B v, VR σ w X B a v
theorem aWp_real (t : Nat) (h : Real (st.tm t) → aWp P nt c Q st) : aWp P nt c Q st := fun B w0 O σ act w hr hk =>
  h ⟨_, _, _, _, _, hr.tr t⟩ B w0 O σ act w hr hk
theorem aCalls_real {f : FuncId} {args : List AV} {h : AHeap} {nx : Nat} {R : AEnd → AHeap → Nat → Prop} (hc : (∀ a ∈ args, Real a) → (∀ n, nx ≤ n → h n = none) → aCalls P f args h nx R) : aCalls P f args h nx R := fun B w0 O σ w vs hs hx hk hv =>
  hc (fun a ha => by
    obtain ⟨j, hj⟩ := List.mem_iff_getElem?.1 ha
    obtain ⟨v, h1, h2⟩ := hv.get hj
    exact ⟨_, _, _, _, v, h2⟩) (fun n hn => hs.none_of (hx n hn)) B w0 O σ w vs hs hx hk hv
theorem Real.int {k : IntKind} {n : Int} (h : Real (.int k n)) : InR k n := by
  obtain ⟨σ, w, X, B, v, h⟩ := h
  cases h
  assumption
theorem Real.sl {es : List (List AV)} (h : Real (.sl es)) : es.length < big ∧ ∀ e ∈ es, ∀ c ∈ e, Real c := by
  obtain ⟨σ, w, X, B, v, h⟩ := h
  cases h with
  | sl _ a cap size vs hcap hb h1 h2 =>
  refine ⟨hb, fun e he c hc => ?_⟩
  obtain ⟨i, hi⟩ := List.mem_iff_getElem?.1 he
  obtain ⟨j, hj⟩ := List.mem_iff_getElem?.1 hc
  exact ⟨_, _, _, _, _, h2 i e hi j c hj⟩
theorem Real.str {l : List Int} (h : Real (.str l)) : l.length < big ∧ ∀ n ∈ l, 0 ≤ n ∧ n < 256 := by
  obtain ⟨σ, w, X, B, v, h⟩ := h
  cases h with
  | str s hb =>
  refine ⟨by rw [octs_length]; exact hb, fun n hn => ?_⟩
  unfold octs at hn
  obtain ⟨b, _, rfl⟩ := List.mem_map.1 hn
  have := b.toNat_lt
  omega
theorem Real.agg {cs : List AV} (h : Real (.agg cs)) : ∀ c ∈ cs, Real c := by
  obtain ⟨σ, w, X, B, v, h⟩ := h
  intro c hc
  obtain ⟨vs, _, hv⟩ := VR.agg_iff.1 h
  obtain ⟨j, hj⟩ := List.mem_iff_getElem?.1 hc
  obtain ⟨u, _, h2⟩ := hv.get hj
  exact ⟨_, _, _, _, u, h2⟩

/-! ### an empty row without room is an empty row -/
theorem VR.weakZ {σ : Sig} {w : World} {X : Nat → Nat → Prop} {B : Nat} {v : Value} (h : VR σ w X B .zs v) : VR σ w X B (.sl []) v := by
  cases h with
  | zs a => exact .sl [] a 0 0 (fun _ _ => Go.undef) (Nat.le_refl _) (by decide) (fun i e h => by simp at h) (fun i e h => by simp at h)
def weak1 : AV → AV
  | .zs => .sl []
  | a => a
def weakA : AV → AV
  | .agg cs => .agg (cs.map weak1)
  | a => weak1 a
theorem VR.weak1 {σ : Sig} {w : World} {X : Nat → Nat → Prop} {B : Nat} {a : AV} {v : Value} (h : VR σ w X B a v) : VR σ w X B (weak1 a) v := by
  cases a <;> first | exact h | exact h.weakZ
theorem VR.weakA {σ : Sig} {w : World} {X : Nat → Nat → Prop} {B : Nat} {a : AV} {v : Value} (h : VR σ w X B a v) : VR σ w X B (weakA a) v := by
  cases a with
  | agg cs =>
    obtain ⟨us, rfl, h1⟩ := VR.agg_iff.1 h
    refine VR.agg_iff.2 ⟨us, rfl, by simpa using h1.1, fun j c v hc hv => ?_⟩
    rw [List.getElem?_map] at hc
    obtain ⟨d, hd, rfl⟩ := Option.map_eq_some_iff.1 hc
    exact (h1.2 j d v hd hv).weak1
  | _ => exact h.weak1
theorem VRs.weak {σ : Sig} {w : World} {X : Nat → Nat → Prop} {B : Nat} {as : List AV} {vs : List Value} (h : VRs σ w X B as vs) : VRs σ w X B (as.map weakA) vs := ⟨by simpa using h.1, fun j c v hc hv => by
  rw [List.getElem?_map] at hc
  obtain ⟨d, hd, rfl⟩ := Option.map_eq_some_iff.1 hc
  exact (h.2 j d v hd hv).weakA⟩
/-- A call, its arguments told without room. -/
def calleeW (tm : Nat → AV) (c : Call) : Option (FuncId × List AV) := (calleeA tm c).map fun p => (p.1, p.2.map weakA)

/-! ### functions that leave memory as it was -/
def frz1 (nx : Nat) (h : AHeap) : AV → Option AV
  | .hs n off len => if nx ≤ n then (h n).bind fun k => if off + len ≤ k.es.length then some (.sl ((k.es.drop off).take len)) else none else none
  | .ptr .. => none
  | .fn .. => none
  | .agg _ => none
  | .tup _ => none
  | .zs => some (.sl [])
  | a => some a
def frzL (nx : Nat) (h : AHeap) : List AV → Option (List AV)
  | [] => some []
  | a :: l => (frz1 nx h a).bind fun b => (frzL nx h l).map fun m => b :: m
def frz2 (nx : Nat) (h : AHeap) : AV → Option AV
  | .agg cs => (frzL nx h cs).map .agg
  | a => frz1 nx h a
def frzM (nx : Nat) (h : AHeap) : List AV → Option (List AV)
  | [] => some []
  | a :: l => (frz2 nx h a).bind fun b => (frzM nx h l).map fun m => b :: m
def frzV (nx : Nat) (h : AHeap) : AV → Option AV
  | .tup vs => (frzM nx h vs).map .tup
  | a => frz2 nx h a
section
variable {B : Nat} {w0 w : World} {σ : Sig} {h : AHeap} {nx : Nat}
theorem frz1_ok (hs : SR B w0 σ h w) {a b : AV} {v : Value} (hf : frz1 nx h a = some b) (hv : VR σ w (Held σ h) B a v) : VR σ w (Held σ (fun m => if decide (nx ≤ m) = true then none else h m)) B b v := by
  obtain ⟨d1, d2⟩ := hs.drop (fun m => decide (nx ≤ m))
  unfold frz1 at hf
  split at hf
  · rename_i n off len
    split at hf <;> try (cases hf; done)
    rename_i hn
    simp only [Option.bind_eq_some_iff] at hf
    obtain ⟨k, hk, hf⟩ := hf
    split at hf <;> cases hf
    exact VR.freeze hs (fun m => decide (nx ≤ m)) hk (by simpa using hn) (by assumption) hv
  · cases hf
  · cases hf
  · cases hf
  · cases hf
  · cases hf
    exact (d2 _ _ hv).weakZ
  · cases hf
    exact d2 _ _ hv
theorem frzL_ok (hs : SR B w0 σ h w) : ∀ {as bs : List AV} {vs : List Value}, frzL nx h as = some bs → VRs σ w (Held σ h) B as vs → VRs σ w (Held σ (fun m => if decide (nx ≤ m) = true then none else h m)) B bs vs
  | [], bs, vs, hf, hv => by
    simp [frzL] at hf
    subst hf
    have : vs = [] := List.eq_nil_of_length_eq_zero hv.1.symm
    subst this
    exact .nil
  | a :: as, bs, vs, hf, hv => by
    simp only [frzL, Option.bind_eq_some_iff, Option.map_eq_some_iff] at hf
    obtain ⟨b, h1, bs', h2, rfl⟩ := hf
    cases vs with
    | nil => have := hv.1; simp at this
    | cons v vs => exact .cons (frz1_ok hs h1 hv.head) (frzL_ok hs h2 hv.tail)
theorem frz2_ok (hs : SR B w0 σ h w) {a b : AV} {v : Value} (hf : frz2 nx h a = some b) (hv : VR σ w (Held σ h) B a v) : VR σ w (Held σ (fun m => if decide (nx ≤ m) = true then none else h m)) B b v := by
  unfold frz2 at hf
  split at hf
  · obtain ⟨bs, h1, rfl⟩ := Option.map_eq_some_iff.1 hf
    obtain ⟨us, rfl, h2⟩ := VR.agg_iff.1 hv
    exact VR.agg_iff.2 ⟨us, rfl, frzL_ok hs h1 h2⟩
  · exact frz1_ok hs hf hv
theorem frzM_ok (hs : SR B w0 σ h w) : ∀ {as bs : List AV} {vs : List Value}, frzM nx h as = some bs → VRs σ w (Held σ h) B as vs → VRs σ w (Held σ (fun m => if decide (nx ≤ m) = true then none else h m)) B bs vs
  | [], bs, vs, hf, hv => by
    simp [frzM] at hf
    subst hf
    have : vs = [] := List.eq_nil_of_length_eq_zero hv.1.symm
    subst this
    exact .nil
  | a :: as, bs, vs, hf, hv => by
    simp only [frzM, Option.bind_eq_some_iff, Option.map_eq_some_iff] at hf
    obtain ⟨b, h1, bs', h2, rfl⟩ := hf
    cases vs with
    | nil => have := hv.1; simp at this
    | cons v vs => exact .cons (frz2_ok hs h1 hv.head) (frzM_ok hs h2 hv.tail)
theorem frzV_ok (hs : SR B w0 σ h w) {a b : AV} {v : Value} (hf : frzV nx h a = some b) (hv : VR σ w (Held σ h) B a v) : VR σ w (Held σ (fun m => if decide (nx ≤ m) = true then none else h m)) B b v := by
  unfold frzV at hf
  split at hf
  · obtain ⟨bs, h1, rfl⟩ := Option.map_eq_some_iff.1 hf
    obtain ⟨us, rfl, h2⟩ := VR.tup_iff.1 hv
    exact VR.tup_iff.2 ⟨us, rfl, frzM_ok hs h1 h2⟩
  · exact frz2_ok hs hf hv
end
/-- It answers v, and memory is as it was. -/
def aFun (P : Program) (f : FuncId) (args : List AV) (v : AV) : Prop := ∀ h nx, aCalls P f args h nx (fun e h' k' => e = .ret v ∧ h' = h ∧ nx ≤ k')
/-- What a walk shows of it at its end. -/
def endA (P : Program) (fn : Func) (nx : Nat) (h : AHeap) (v : AV) (s : St) : Prop := s.df = [] ∧ nx ≤ s.nx ∧ (∀ n, n < nx → s.h n = h n) ∧ ∃ a, resA P s fn.results.toList = some a ∧ frzV nx s.h a = some v
def endQ (P : Program) (fn : Func) (nx : Nat) (h : AHeap) (v : AV) : AX → St → Prop
  | .norm, s | .ret, s => endA P fn nx h v s
  | _, _ => False
theorem aFun_body {f : FuncId} {fn : Func} {c : Code} {args : List AV} {v : AV} (hf : P.funcs[f]? = some fn) (hb : fn.body = some c) (hn : fn.ntmps = nt) (ha : args.length ≤ nt)
    (hw : (∀ a ∈ args, Real a) → ∀ h nx, (∀ n, nx ≤ n → h n = none) → aWp P nt c (endQ P fn nx h v) ⟨tm0 args, h, nx, []⟩) : aFun P f args v := fun h nx => aCalls_real fun hreal hfresh => by
  have h1 : aCalls P f args h nx (fun e h' k' => ∃ a, e = .ret a ∧ frzV nx h' a = some v ∧ (∀ n, n < nx → h' n = h n) ∧ nx ≤ k') := by
    refine aCalls_body hf hb hn ha (aWp_mono (hw hreal h nx hfresh) ?_)
    rintro e s hs
    cases e with
    | norm => obtain ⟨q1, q2, q3, a, q4, q5⟩ := hs; exact ⟨q1, a, q4, a, rfl, q5, q3, q2⟩
    | ret => obtain ⟨q1, q2, q3, a, q4, q5⟩ := hs; exact ⟨q1, a, q4, a, rfl, q5, q3, q2⟩
    | ex id => exact hs.elim
    | gt l => exact hs.elim
    | pan v => exact hs.elim
  intro B w0 O σ w vs hs hx hk hv
  refine (h1 B w0 O σ w vs hs hx hk hv).mono ?_
  rintro e w' ⟨ae, h', nx', σ', g1, g2, g3, g4, a, rfl, g5, g6, g7⟩
  cases g1 with
  | ret _ u hu =>
  obtain ⟨d1, d2⟩ := g2.drop (fun m => decide (nx ≤ m))
  have hfz := frzV_ok g2 g5 hu
  have he : (fun m => if decide (nx ≤ m) = true then none else h' m) = h := by
    funext m
    by_cases hm : nx ≤ m
    · simp [hm, hfresh m hm]
    · simp [hm, g6 m (by omega)]
  rw [he] at d1 d2 hfz
  exact ⟨.ret v, h, nx', σ', .ret v u hfz, d1, g3, g4.trans d2 (Nat.le_refl _) (fun _ _ => rfl), rfl, rfl, g7⟩
theorem aOps_fun {o : Oper} {rest : List Oper} {cl : Call} {f : FuncId} {args : List AV} {v : AV} (hg : guardA ops st.tm o.guard = some true) (hd : dstOk nt o.dst = true) (ho : o.op = .call cl) (ha : calleeW st.tm cl = some (f, args)) (hc : callable P f = true)
    (hcall : aFun P f args v) (hret : ∀ k', st.nx ≤ k' → aOps P nt ops rest Q ⟨putA st.tm o.dst v, st.h, k', st.df⟩) : aOps P nt ops (o :: rest) Q st := by
  unfold calleeW at ha
  obtain ⟨⟨f', args'⟩, h1, h2⟩ := Option.map_eq_some_iff.1 ha
  simp only [Prod.mk.injEq] at h2
  obtain ⟨rfl, rfl⟩ := h2
  exact aOps_call hg hd ho h1 hc (fun B w0 O σ w vs q1 q2 q3 q4 => hcall st.h st.nx B w0 O σ w vs q1 q2 q3 q4.weak) (fun a h' k' ⟨e1, e2, e3⟩ => by cases e1; subst e2; exact hret k' e3) (fun a h' k' ⟨e1, _⟩ => by cases e1)
end
end Go.Proofs.Ytcnofpoffdjbpaa.AE
