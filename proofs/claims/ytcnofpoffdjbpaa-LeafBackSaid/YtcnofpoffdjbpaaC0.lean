/- Functions that answer an owned row; rows that are told to a function that only reads. No program in sight. -/
import Derived.Test.YtcnofpoffdjbpaaB9
import Derived.Laws.Cover3
import Derived.Laws.Pointers
namespace Go.Proofs.Ytcnofpoffdjbpaa.AE
open Go Go.RowKit
set_option linter.unusedVariables false
set_option linter.unusedSimpArgs false
variable {P : Program}
section
variable {B : Nat} {w0 w : World} {σ : Sig} {h : AHeap} {nx : Nat}
/-- Less of a block is told. -/
theorem SR.trunc (hs : SR B w0 σ h w) {m sz : Nat} {es rest : List (List AV)} (hm : h m = some ⟨sz, es ++ rest⟩) : SR B w0 σ (upd h m (some ⟨sz, es⟩)) w ∧ Held σ (upd h m (some ⟨sz, es⟩)) = Held σ h := by
  have hh : Held σ (upd h m (some ⟨sz, es⟩)) = Held σ h := by
    funext b i
    refine propext ⟨?_, ?_⟩
    · rintro ⟨n, r, h1, h2⟩
      refine ⟨n, r, ?_, h2⟩
      by_cases e : n = m
      · subst e; rw [hm]; rfl
      · rwa [upd_ne _ _ _ e] at h1
    · rintro ⟨n, r, h1, h2⟩
      refine ⟨n, r, ?_, h2⟩
      by_cases e : n = m
      · subst e; rw [upd_same]; rfl
      · rwa [upd_ne _ _ _ e]
  refine ⟨⟨hs.old, hs.hB, fun n k hn => ?_, fun n n' r s b i h1 h2 => hs.dis n n' r s b i ?_ ?_⟩, hh⟩
  · rw [hh]
    by_cases e : n = m
    · subst e
      rw [upd_same] at hn
      cases hn
      obtain ⟨r, q1, q2, q3, q4, q5, q6, q7⟩ := hs.blk n _ hm
      simp only [List.length_append] at q4 q5
      rw [Nat.add_mul] at q4
      refine ⟨r, q1, q2, q3, by simp only; omega, by simp only; omega, q6, fun i e he => q7 i e ?_⟩
      simp only at he ⊢
      rw [List.getElem?_append_left (List.getElem?_eq_some_iff.1 he).1]
      exact he
    · rw [upd_ne _ _ _ e] at hn
      exact hs.blk n k hn
  · by_cases e : n = m
    · subst e; rw [hm]; rfl
    · rwa [upd_ne _ _ _ e] at h1
  · by_cases e : n' = m
    · subst e; rw [hm]; rfl
    · rwa [upd_ne _ _ _ e] at h2
/-- An empty block of no cells. -/
theorem SR.none0 (hs : SR B w0 σ h w) {k : Nat} (hk : σ k = none) (sz : Nat) : SR B w0 (upd σ k (some ⟨B, 0, 0, sz⟩)) (upd h k (some ⟨sz, []⟩)) w ∧ ∀ a v, VR σ w (Held σ h) B a v → VR (upd σ k (some ⟨B, 0, 0, sz⟩)) w (Held (upd σ k (some ⟨B, 0, 0, sz⟩)) (upd h k (some ⟨sz, []⟩))) B a v := by
  have := hs.turn (w' := w) (fun _ => false) k ⟨B, 0, 0, sz⟩ ⟨sz, []⟩ (.inl hk) (Below.refl B w) (fun b i v hv _ => hv) (fun b i _ => rfl) (Nat.le_refl _) (fun i hi => absurd hi.2.2 (by simp)) rfl (by simp) (by simp [big]) (fun i e he => by simp at he)
  simpa using this
/-- Where blocks begin does not matter to a value. -/
theorem VR.anyB {X : Nat → Nat → Prop} {B' : Nat} {a : AV} {v : Value} (h : VR σ w X B a v) : VR σ w X B' a v := by
  induction h with
  | undef v => exact .undef v
  | bool b => exact .bool b
  | int k n h => exact .int k n h
  | str s h => exact .str s h
  | zs a => exact .zs a
  | sl es a cap size vs hcap hb h hv ih => exact .sl es a cap size vs hcap hb h ih
  | hs n off len a cap r hr hcap hb h => exact .hs n off len a cap r hr hcap hb h
  | nilp => exact .nilp
  | ptr n e j r hr => exact .ptr n e j r hr
  | ip cs ad vs hs h hv ih => exact .ip cs ad vs hs h ih
  | agg cs vs hl hv ih => exact .agg cs vs hl ih
  | tup cs vs hl hv ih => exact .tup cs vs hl ih
  | fn f as bs us vs hl hm ha hv iha ihv => exact .fn f as bs us vs hl hm iha ihv
  | nilf => exact .nilf
  | iface t a v h ih => exact .iface t a v ih
  | niliface => exact .niliface
end
/-! ### an owned row as a result -/
def aOwn (P : Program) (f : FuncId) (args : List AV) (sz : Nat) (es : List (List AV)) : Prop := ∀ h nx, aCalls P f args h nx (fun e h' k' => ∃ m, e = .ret (.hs m 0 es.length) ∧ h' = upd h m (some ⟨sz, es⟩) ∧ nx ≤ m ∧ m < k')
def ownV (nx : Nat) (s : St) (a : AV) (sz : Nat) (es : List (List AV)) : Prop := (∃ m rest, a = .hs m 0 es.length ∧ nx ≤ m ∧ m < s.nx ∧ s.h m = some ⟨sz, es ++ rest⟩) ∨ (a = .zs ∧ es = [])
def endOwn (P : Program) (fn : Func) (nx : Nat) (h : AHeap) (sz : Nat) (es : List (List AV)) (s : St) : Prop := s.df = [] ∧ nx ≤ s.nx ∧ HAgree nx h s.h ∧ ∃ a, resA P s fn.results.toList = some a ∧ ownV nx s a sz es
def endOwnQ (P : Program) (fn : Func) (nx : Nat) (h : AHeap) (sz : Nat) (es : List (List AV)) : AX → St → Prop
  | .norm, s | .ret, s => endOwn P fn nx h sz es s
  | _, _ => False
theorem aOwn_body {nt : Nat} {f : FuncId} {fn : Func} {c : Code} {args : List AV} {sz : Nat} {es : List (List AV)} (hf : P.funcs[f]? = some fn) (hb : fn.body = some c) (hn : fn.ntmps = nt) (ha : args.length ≤ nt)
    (hw : (∀ a ∈ args, Real a) → ∀ h nx, (∀ n, nx ≤ n → h n = none) → aWp P nt c (endOwnQ P fn nx h sz es) ⟨tm0 args, h, nx, []⟩) : aOwn P f args sz es := fun h nx => aCalls_real fun hreal hfresh => by
  have h1 : aCalls P f args h nx (fun e h' k' => ∃ a s, e = .ret a ∧ h' = s.h ∧ k' = s.nx ∧ nx ≤ s.nx ∧ HAgree nx h s.h ∧ ownV nx s a sz es) := by
    refine aCalls_body hf hb hn ha (aWp_mono (hw hreal h nx hfresh) ?_)
    rintro e s hs
    cases e with
    | norm => obtain ⟨q1, q2, q3, a, q4, q5⟩ := hs; exact ⟨q1, a, q4, a, s, rfl, rfl, rfl, q2, q3, q5⟩
    | ret => obtain ⟨q1, q2, q3, a, q4, q5⟩ := hs; exact ⟨q1, a, q4, a, s, rfl, rfl, rfl, q2, q3, q5⟩
    | ex id => exact hs.elim
    | gt l => exact hs.elim
    | pan v => exact hs.elim
  intro B w0 O σ w vs hs hx hk hv
  refine (h1 B w0 O σ w vs hs hx hk hv).mono ?_
  rintro e w' ⟨ae, h', nx', σ', g1, g2, g3, g4, a, s, rfl, rfl, rfl, g5, g6, g7⟩
  cases g1 with
  | ret _ u hu =>
  rcases g7 with ⟨m, rest, rfl, q1, q2, q3⟩ | ⟨rfl, rfl⟩
  · obtain ⟨d1, d2⟩ := g2.drop (fun i => decide (nx ≤ i ∧ i ≠ m))
    have he : (fun i => if decide (nx ≤ i ∧ i ≠ m) = true then none else s.h i) m = some ⟨sz, es ++ rest⟩ := by simp [q3]
    obtain ⟨t1, t2⟩ := d1.trunc he
    have hq : upd (fun i => if decide (nx ≤ i ∧ i ≠ m) = true then none else s.h i) m (some ⟨sz, es⟩) = upd h m (some ⟨sz, es⟩) := by
      funext i
      by_cases e : i = m
      · subst e; rw [upd_same, upd_same]
      · rw [upd_ne _ _ _ e, upd_ne _ _ _ e]
        by_cases hi : nx ≤ i
        · simp [hi, e, hfresh i hi]
        · simp [hi, g6 i (by omega)]
    have keep : ∀ a v, VR σ' w' (Held σ' s.h) B a v → VR σ' w' (Held σ' (upd h m (some ⟨sz, es⟩))) B a v := fun a v hv => by
      rw [← hq, t2]
      exact d2 a v hv
    refine ⟨_, upd h m (some ⟨sz, es⟩), s.nx, σ', .ret _ u (keep _ _ hu), hq ▸ t1, g3, g4.trans keep (Nat.le_refl _) (fun _ _ => rfl), m, rfl, rfl, q1, q2⟩
  · obtain ⟨d1, d2⟩ := g2.drop (fun i => decide (nx ≤ i))
    have he : (fun i => if decide (nx ≤ i) = true then none else s.h i) = h := by
      funext i
      by_cases hi : nx ≤ i
      · simp [hi, hfresh i hi]
      · simp [hi, g6 i (by omega)]
    rw [he] at d1 d2
    obtain ⟨t1, t2⟩ := d1.none0 (g3 s.nx (Nat.le_refl _)) sz
    refine ⟨.ret (.hs s.nx 0 0), _, s.nx + 1, _, .ret _ u ?_, t1, fun n hn => ?_, (g4.trans d2 (Nat.le_refl _) (fun _ _ => rfl)).trans t2 (Nat.le_succ _) (fun n hn => upd_ne _ _ _ (by omega)), s.nx, rfl, rfl, g5, Nat.lt_succ_self _⟩
    · cases hu with
      | zs ad => exact .hs _ _ _ ad 0 _ (upd_same _ _ _) (Nat.le_refl _) (by decide) (.inl rfl)
    · rw [upd_ne _ _ _ (by omega)]
      exact g3 n (by omega)
theorem W_endOwn {fn : Func} {tm : Nat → AV} {h h0 : AHeap} {k nx : Nat} {a : AV} {rs : List ResultVar} {sz : Nat} {es : List (List AV)} (hk : nx ≤ k) (hh : HAgree nx h0 h) (hrs : fn.results.toList = rs) (hr : resA P ⟨tm, h, k, []⟩ rs = some a) (ho : ownV nx ⟨tm, h, k, []⟩ a sz es) : endOwnQ P fn nx h0 sz es .ret ⟨tm, h, k, []⟩ :=
  ⟨rfl, hk, hh, a, by rw [hrs]; exact hr, ho⟩
section
variable {nt : Nat} {Q : AX → St → Prop} {ops : Array Oper} {rest : List Oper} {tm : Nat → AV} {h : AHeap} {k : Nat} {df : List ADef} {ty : TypeId} {pos : String} {after : Array Edge} {d : Nat} {v : AV}
theorem W_own {c : Call} {f : FuncId} {args : List AV} {sz : Nat} {es : List (List AV)} (hd : decide (d < nt) = true) (ha : calleeW tm c = some (f, args)) (hc : callable P f = true) (hf : aOwn P f args sz es) (hr : ∀ m k', k ≤ m → m < k' → aOps P nt ops rest Q ⟨upd tm d (.hs m 0 es.length), upd h m (some ⟨sz, es⟩), k', df⟩) :
    aOps P nt ops (⟨some d, .call c, ty, pos, after, none⟩ :: rest) Q ⟨tm, h, k, df⟩ := by
  unfold calleeW at ha
  obtain ⟨⟨f', args'⟩, h1, h2⟩ := Option.map_eq_some_iff.1 ha
  simp only [Prod.mk.injEq] at h2
  obtain ⟨rfl, rfl⟩ := h2
  exact aOps_call rfl hd rfl h1 hc (fun B w0 O σ w vs q1 q2 q3 q4 => hf h k B w0 O σ w vs q1 q2 q3 q4.weak) (fun a h' k' ⟨m, e1, e2, e3, e4⟩ => by cases e1; subst e2; exact hr m k' e3 e4) (fun a h' k' ⟨m, e1, _⟩ => by cases e1)
end
section
variable {nt : Nat} {Q : AX → St → Prop} {ops : Array Oper} {rest : List Oper} {tm : Nat → AV} {h : AHeap} {k : Nat} {df : List ADef} {ty : TypeId} {pos : String} {after : Array Edge} {d : Nat} {v : AV}
/-- The same, its arguments as they are. -/
theorem W_ownA {c : Call} {f : FuncId} {args : List AV} {sz : Nat} {es : List (List AV)} (hd : decide (d < nt) = true) (ha : calleeA tm c = some (f, args)) (hc : callable P f = true) (hf : aOwn P f args sz es) (hr : ∀ m k', k ≤ m → m < k' → aOps P nt ops rest Q ⟨upd tm d (.hs m 0 es.length), upd h m (some ⟨sz, es⟩), k', df⟩) :
    aOps P nt ops (⟨some d, .call c, ty, pos, after, none⟩ :: rest) Q ⟨tm, h, k, df⟩ :=
  aOps_call rfl hd rfl ha hc (hf h k) (fun a h' k' ⟨m, e1, e2, e3, e4⟩ => by cases e1; subst e2; exact hr m k' e3 e4) (fun a h' k' ⟨m, e1, _⟩ => by cases e1)
/-- A temporary's row is frozen. -/
theorem W_freeze {l : List Oper} (t : Nat) {n off len : Nat} {b : Blk} (ht : tm t = .hs n off len) (hn : h n = some b) (hl : off + len ≤ b.es.length) (hr : aOps P nt ops l Q ⟨upd tm t (.sl ((b.es.drop off).take len)), upd h n none, k, df⟩) : aOps P nt ops l Q ⟨tm, h, k, df⟩ :=
  aOps_sub (Sub.freeze (st := ⟨tm, h, k, df⟩) ht hn hl) hr
end
/-- Frozen. -/
theorem aOwn.fn {f : FuncId} {args : List AV} {sz : Nat} {es : List (List AV)} (hf : aOwn P f args sz es) : aFun P f args (.sl es) := fun h nx => aCalls_real fun hreal hfresh => by
  intro B w0 O σ w vs hs hx hk hv
  refine (hf h nx B w0 O σ w vs hs hx hk hv).mono ?_
  rintro e w' ⟨ae, h', nx', σ', g1, g2, g3, g4, m, rfl, rfl, q1, q2⟩
  cases g1 with
  | ret _ u hu =>
  obtain ⟨d1, d2⟩ := g2.drop (fun i => decide (i = m))
  have hfz := VR.freeze g2 (fun i => decide (i = m)) (k := ⟨sz, es⟩) (upd_same _ _ _) (by simp) (by simp) hu
  have he : (fun i => if decide (i = m) = true then none else upd h m (some ⟨sz, es⟩) i) = h := by
    funext i
    by_cases e : i = m
    · subst e; simp [hfresh i q1]
    · simp [e, upd_ne]
  rw [he] at d1 d2 hfz
  simp only [List.drop_zero, List.take_length] at hfz
  exact ⟨.ret (.sl es), h, nx', σ', .ret _ u hfz, d1, g3, g4.trans d2 (Nat.le_refl _) (fun _ _ => rfl), rfl, rfl, by omega⟩
/-- An owned row within a result. -/
def aOwnM (P : Program) (f : FuncId) (args : List AV) (mk : AV → AV) (sz : Nat) (es : List (List AV)) : Prop := ∀ h nx, aCalls P f args h nx (fun e h' k' => ∃ m, e = .ret (mk (.hs m 0 es.length)) ∧ h' = upd h m (some ⟨sz, es⟩) ∧ nx ≤ m ∧ m < k')
def endOwnM (P : Program) (fn : Func) (nx : Nat) (h : AHeap) (mk : AV → AV) (sz : Nat) (es : List (List AV)) : AX → St → Prop
  | .norm, s | .ret, s => s.df = [] ∧ nx ≤ s.nx ∧ HAgree nx h s.h ∧ ∃ m, resA P s fn.results.toList = some (mk (.hs m 0 es.length)) ∧ nx ≤ m ∧ m < s.nx ∧ s.h m = some ⟨sz, es⟩
  | _, _ => False
theorem aOwnM_body {nt : Nat} {f : FuncId} {fn : Func} {c : Code} {args : List AV} {mk : AV → AV} {sz : Nat} {es : List (List AV)} (hf : P.funcs[f]? = some fn) (hb : fn.body = some c) (hn : fn.ntmps = nt) (ha : args.length ≤ nt)
    (hw : (∀ a ∈ args, Real a) → ∀ h nx, (∀ n, nx ≤ n → h n = none) → aWp P nt c (endOwnM P fn nx h mk sz es) ⟨tm0 args, h, nx, []⟩) : aOwnM P f args mk sz es := fun h nx => aCalls_real fun hreal hfresh => by
  have h1 : aCalls P f args h nx (fun e h' k' => ∃ m, e = .ret (mk (.hs m 0 es.length)) ∧ nx ≤ k' ∧ HAgree nx h h' ∧ nx ≤ m ∧ m < k' ∧ h' m = some ⟨sz, es⟩) := by
    refine aCalls_body hf hb hn ha (aWp_mono (hw hreal h nx hfresh) ?_)
    rintro e s hs
    cases e with
    | norm => obtain ⟨q1, q2, q3, m, q4, q5, q6, q7⟩ := hs; exact ⟨q1, _, q4, m, rfl, q2, q3, q5, q6, q7⟩
    | ret => obtain ⟨q1, q2, q3, m, q4, q5, q6, q7⟩ := hs; exact ⟨q1, _, q4, m, rfl, q2, q3, q5, q6, q7⟩
    | ex id => exact hs.elim
    | gt l => exact hs.elim
    | pan v => exact hs.elim
  intro B w0 O σ w vs hs hx hk hv
  refine (h1 B w0 O σ w vs hs hx hk hv).mono ?_
  rintro e w' ⟨ae, h', nx', σ', g1, g2, g3, g4, m, rfl, g5, g6, q1, q2, q3⟩
  cases g1 with
  | ret _ u hu =>
  obtain ⟨d1, d2⟩ := g2.drop (fun i => decide (nx ≤ i ∧ i ≠ m))
  have hq : (fun i => if decide (nx ≤ i ∧ i ≠ m) = true then none else h' i) = upd h m (some ⟨sz, es⟩) := by
    funext i
    by_cases e : i = m
    · subst e; rw [upd_same]; simp [q3]
    · rw [upd_ne _ _ _ e]
      by_cases hi : nx ≤ i
      · simp [hi, e, hfresh i hi]
      · simp [hi, g6 i (by omega)]
  rw [hq] at d1 d2
  exact ⟨_, _, nx', σ', .ret _ u (d2 _ _ hu), d1, g3, g4.trans d2 (Nat.le_refl _) (fun _ _ => rfl), m, rfl, rfl, q1, q2⟩
theorem W_endOwnM {fn : Func} {tm : Nat → AV} {h h0 : AHeap} {k nx : Nat} {rs : List ResultVar} {mk : AV → AV} {sz : Nat} {es : List (List AV)} (m : Nat) (hk : nx ≤ k) (hh : HAgree nx h0 h) (hrs : fn.results.toList = rs) (hr : resA P ⟨tm, h, k, []⟩ rs = some (mk (.hs m 0 es.length))) (h1 : nx ≤ m) (h2 : m < k) (h3 : h m = some ⟨sz, es⟩) : endOwnM P fn nx h0 mk sz es .ret ⟨tm, h, k, []⟩ :=
  ⟨rfl, hk, hh, m, by rw [hrs]; exact hr, h1, h2, h3⟩
section
variable {nt : Nat} {Q : AX → St → Prop} {ops : Array Oper} {rest : List Oper} {tm : Nat → AV} {h : AHeap} {k : Nat} {df : List ADef} {ty : TypeId} {pos : String} {after : Array Edge} {d : Nat} {v : AV}
theorem W_ownM {c : Call} {f : FuncId} {args : List AV} {mk : AV → AV} {sz : Nat} {es : List (List AV)} (hd : decide (d < nt) = true) (ha : calleeW tm c = some (f, args)) (hc : callable P f = true) (hf : aOwnM P f args mk sz es) (hr : ∀ m k', k ≤ m → m < k' → aOps P nt ops rest Q ⟨upd tm d (mk (.hs m 0 es.length)), upd h m (some ⟨sz, es⟩), k', df⟩) :
    aOps P nt ops (⟨some d, .call c, ty, pos, after, none⟩ :: rest) Q ⟨tm, h, k, df⟩ := by
  unfold calleeW at ha
  obtain ⟨⟨f', args'⟩, h1, h2⟩ := Option.map_eq_some_iff.1 ha
  simp only [Prod.mk.injEq] at h2
  obtain ⟨rfl, rfl⟩ := h2
  exact aOps_call rfl hd rfl h1 hc (fun B w0 O σ w vs q1 q2 q3 q4 => hf h k B w0 O σ w vs q1 q2 q3 q4.weak) (fun a h' k' ⟨m, e1, e2, e3, e4⟩ => by cases e1; subst e2; exact hr m k' e3 e4) (fun a h' k' ⟨m, e1, _⟩ => by cases e1)
end
/-- A row within a struct is frozen. -/
def frzN (n : Nat) (b : Blk) : AV → AV
  | .hs m off len => if m = n ∧ off + len ≤ b.es.length then .sl ((b.es.drop off).take len) else .hs m off len
  | a => a
theorem Sub.freezeIn {st : St} {t n : Nat} {b : Blk} {cs : List AV} (ht : st.tm t = .agg cs) (hn : st.h n = some b) : Sub st ⟨upd st.tm t (.agg (cs.map (frzN n b))), upd st.h n none, st.nx, st.df⟩ := ⟨Nat.le_refl _, fun B w0 nt σ act w hr => by
  obtain ⟨d1, d2⟩ := hr.sr.drop (fun i => decide (i = n))
  have hv := hr.tr t
  rw [ht] at hv
  obtain ⟨us, hus, h1⟩ := VR.agg_iff.1 hv
  have hf : VR σ w (Held σ (fun m => if decide (m = n) = true then none else st.h m)) B (.agg (cs.map (frzN n b))) (.agg us.toArray) := VR.agg_iff.2 ⟨us, rfl, by simpa using h1.1, fun j c v hc hv => by
    rw [List.getElem?_map] at hc
    obtain ⟨d, hd, rfl⟩ := Option.map_eq_some_iff.1 hc
    have h2 := h1.2 j d v hd hv
    unfold frzN
    split
    · rename_i m off len
      split
      · rename_i hq
        obtain ⟨rfl, hq2⟩ := hq
        exact VR.freeze hr.sr (fun i => decide (i = m)) hn (by simp) hq2 h2
      · exact d2 _ _ h2
    · exact d2 _ _ h2⟩
  rw [kill_eq] at d1 d2 hf
  refine ⟨⟨d1, fun i => ?_, hr.nt, hr.nx, hr.df.mono d2⟩, d2⟩
  by_cases hi : i = t
  · subst hi
    simp only [upd_same]
    rw [hus]
    exact hf
  · simp only [upd_ne _ _ _ hi]
    exact d2 _ _ (hr.tr i)⟩
theorem W_freezeIn {nt : Nat} {Q : AX → St → Prop} {ops l : List Oper} {tm : Nat → AV} {h : AHeap} {k : Nat} {df : List ADef} (t n : Nat) {b : Blk} {cs : List AV} (ht : tm t = .agg cs) (hn : h n = some b) (hr : aOps P nt ops.toArray l Q ⟨upd tm t (.agg (cs.map (frzN n b))), upd h n none, k, df⟩) : aOps P nt ops.toArray l Q ⟨tm, h, k, df⟩ :=
  aOps_sub (Sub.freezeIn (st := ⟨tm, h, k, df⟩) ht hn) hr
theorem FN : (∀ (n : Nat) (b : Blk) (m off len : Nat), frzN n b (.hs m off len) = if m = n ∧ off + len ≤ b.es.length then .sl ((b.es.drop off).take len) else .hs m off len) ∧ (∀ (n : Nat) (b : Blk) (es : List (List AV)), frzN n b (.sl es) = .sl es) ∧ (∀ (n : Nat) (b : Blk), frzN n b .zs = .zs) ∧ (∀ (n : Nat) (b : Blk) (k : IntKind) (i : Int), frzN n b (.int k i) = .int k i) ∧ (∀ (n : Nat) (b : Blk) (c : Bool), frzN n b (.bool c) = .bool c) ∧ (∀ (n : Nat) (b : Blk) (l : List Int), frzN n b (.str l) = .str l) :=
  ⟨fun _ _ _ _ _ => rfl, fun _ _ _ => rfl, fun _ _ => rfl, fun _ _ _ _ => rfl, fun _ _ _ => rfl, fun _ _ _ => rfl⟩
/-! ### is a row nil? -/
section
variable {nt : Nat} {Q : AX → St → Prop} {ops : Array Oper} {rest : List Oper} {tm : Nat → AV} {h : AHeap} {k : Nat} {df : List ADef} {ty : TypeId} {pos : String} {after : Array Edge} {d : Nat}
def rowV : AV → Option Nat
  | .sl es => some es.length
  | .zs => some 0
  | .hs _ _ l => some l
  | _ => none
theorem rowV_ok {σ : Sig} {w : World} {X : Nat → Nat → Prop} {B : Nat} {a : AV} {v : Value} {n : Nat} (h : VR σ w X B a v) (hr : rowV a = some n) : ∃ ad l c, v = .slice ad l c ∧ (ad = none → n = 0) := by
  cases h <;> simp [rowV] at hr
  · subst hr; exact ⟨_, _, _, rfl, fun _ => rfl⟩
  · rename_i es a cap size vs hcap hb h hv
    subst hr
    refine ⟨_, _, _, rfl, fun he => ?_⟩
    subst he
    cases es with
    | nil => rfl
    | cons e es => obtain ⟨_, ad, q, _⟩ := h 0 e rfl; cases q
  · rename_i m off len a cap r hσ hcap hb hor
    subst hr
    refine ⟨_, _, _, rfl, fun he => ?_⟩
    subst he
    rcases hor with hor | ⟨q, _⟩
    · omega
    · cases q
theorem W_isnil {x : Operand} {t e u : TypeId} {n : Nat} (hd : decide (d < nt) = true) (hr : rowV (evA tm x) = some n) (ht : P.underlying t = some (.slice e)) (h1 : n = 0 → aOps P nt ops rest Q ⟨upd tm d (.bool true), h, k, df⟩) (h2 : aOps P nt ops rest Q ⟨upd tm d (.bool false), h, k, df⟩) :
    aOps P nt ops (⟨some d, .binOp .eql t x (.const (.slice none 0 0)) u, ty, pos, after, none⟩ :: rest) Q ⟨tm, h, k, df⟩ := fun B w0 O σ act w hr' hk => by
  have hv := hr'.tr.eval x
  obtain ⟨ad, l, c, hx, hz⟩ := rowV_ok hv hr
  have hw := guardA_ok (o := ⟨some d, .binOp .eql t x (.const (.slice none 0 0)) u, ty, pos, after, none⟩) (ops := ops) (b := true) hr'.tr rfl
  unfold wpList
  rw [if_pos (by rw [hw])]
  left
  unfold Oper.wp
  have hrun : (execOp act.eval ⟨some d, .binOp .eql t x (.const (.slice none 0 0)) u, ty, pos, after, none⟩).run P w = .ok (.value (.bool ad.isNone)) w := by
    have hy : act.eval (.const (.slice none 0 0)) = .slice none 0 0 := rfl
    simp [execOp, hx, hy, eqGuard, binOp, Go.run_equal_slice_nil w t e ad l c ht]
  rw [hrun]
  have hput := hr'.put hr'.sr (fun _ _ q => q) hr'.nx (some d) hd (VR.bool (σ := σ) (w := w) (X := Held σ h) (B := B) ad.isNone)
  cases ad with
  | none => exact h1 (hz rfl) B w0 O σ _ w hput hk
  | some a => exact h2 B w0 O σ _ w hput hk
end
/-! ### rows that are told -/
def plain1 : AV → Bool
  | .bool _ | .int .. | .str _ => true
  | _ => false
def plainV : AV → Bool
  | .tup vs => vs.all plain1
  | a => plain1 a
def told1 (h : AHeap) : AV → AV
  | .hs n off len => match h n with
    | some k => if off + len ≤ k.es.length then .sl ((k.es.drop off).take len) else .hs n off len
    | none => .hs n off len
  | a => a
def toldA (h : AHeap) : AV → AV
  | .agg cs => .agg (cs.map (told1 h))
  | a => told1 h a
section
variable {B : Nat} {w0 w : World} {σ : Sig} {h : AHeap} {nx : Nat}
abbrev noH : AHeap := fun _ => none
theorem VR.told1 (hs : SR B w0 σ h w) {a : AV} {v : Value} (hv : VR σ w (Held σ h) B a v) : VR σ w (Held σ noH) B (told1 h a) v := by
  obtain ⟨d1, d2⟩ := hs.drop (fun _ => true)
  simp only [if_true] at d1 d2
  unfold AE.told1
  split
  · rename_i n off len
    split
    · rename_i k hk
      split
      · have := VR.freeze hs (fun _ => true) hk rfl (by assumption) hv
        simpa using this
      · exact d2 _ _ hv
    · exact d2 _ _ hv
  · exact d2 _ _ hv
theorem VR.toldA (hs : SR B w0 σ h w) {a : AV} {v : Value} (hv : VR σ w (Held σ h) B a v) : VR σ w (Held σ noH) B (toldA h a) v := by
  unfold AE.toldA
  split
  · rename_i cs
    obtain ⟨us, rfl, h1⟩ := VR.agg_iff.1 hv
    refine VR.agg_iff.2 ⟨us, rfl, by simpa using h1.1, fun j c v hc hv => ?_⟩
    rw [List.getElem?_map] at hc
    obtain ⟨d, hd, rfl⟩ := Option.map_eq_some_iff.1 hc
    exact (h1.2 j d v hd hv).told1 hs
  · exact hv.told1 hs
theorem plain1_ok {σ σ' : Sig} {w w' : World} {X X' : Nat → Nat → Prop} {B B' : Nat} {a : AV} {v : Value} (hp : plain1 a = true) (h : VR σ w X B a v) : VR σ' w' X' B' a v := by
  cases h <;> first | (simp [plain1] at hp; done) | (constructor <;> assumption) | constructor
theorem plainV_ok {σ σ' : Sig} {w w' : World} {X X' : Nat → Nat → Prop} {B B' : Nat} {a : AV} {v : Value} (hp : plainV a = true) (h : VR σ w X B a v) : VR σ' w' X' B' a v := by
  unfold plainV at hp
  split at hp
  · rename_i vs
    obtain ⟨us, rfl, h1⟩ := VR.tup_iff.1 h
    refine VR.tup_iff.2 ⟨us, rfl, h1.1, fun j c v hc hv => plain1_ok ?_ (h1.2 j c v hc hv)⟩
    exact List.all_eq_true.1 hp c (List.mem_of_getElem? hc)
  · exact plain1_ok hp h
theorem aCalls_told {f : FuncId} {args : List AV} {v : AV} (hf : aFun P f (args.map fun a => weakA (toldA h a)) v) (hp : plainV v = true) : aCalls P f args h nx (fun e h' k' => e = .ret v ∧ h' = h ∧ nx ≤ k') := by
  intro B w0 O σ w vs hs hx hk hv
  have hv2 : VRs σ w (Held σ noH) w.heap.size (args.map fun a => weakA (toldA h a)) vs.toList := ⟨by simpa using hv.1, fun j c u hc hu => by
    rw [List.getElem?_map] at hc
    obtain ⟨d, hd, rfl⟩ := Option.map_eq_some_iff.1 hc
    exact ((hv.2 j d u hd hu).toldA hs).weakA.anyB⟩
  have hs2 : SR w.heap.size w σ noH w := ⟨Below.refl _ _, Nat.le_refl _, (fun n k hn => by simp [noH] at hn), (fun n m r s b i hn => by simp [noH] at hn)⟩
  refine (hf noH nx w.heap.size w ⟨σ, noH, w, nx⟩ σ w vs hs2 hx (.refl _ _ _ _) hv2).mono ?_
  rintro e w' ⟨ae, h', nx', σ', g1, g2, g3, g4, rfl, rfl, g7⟩
  cases g1 with
  | ret _ u hu =>
  have hσ : ∀ n, (h n).isSome = true → σ' n = σ n := fun n hn => g4.σ n (by
    rcases Nat.lt_or_ge n nx with q | q
    · exact q
    · rw [hs.none_of (hx n q)] at hn; cases hn)
  have lt : ∀ b i, (w.cell? ⟨b, i, none⟩).isSome = true → b < w.heap.size := fun b i hb => by
    rcases Nat.lt_or_ge b w.heap.size with q | q
    · exact q
    · simp [World.cell?, Array.getElem?_eq_none q] at hb
  have hcell : ∀ b i, (w.cell? ⟨b, i, none⟩).isSome = true → w'.cell? ⟨b, i, none⟩ = w.cell? ⟨b, i, none⟩ := fun b i hb => World.cell?_of_block (w := w) (a := ⟨b, i, none⟩) (g2.old.block b (lt b i hb))
  have hfrz : ∀ b i, (w.cell? ⟨b, i, none⟩).isSome = true → w'.frozen? ⟨b, i, none⟩ = w.frozen? ⟨b, i, none⟩ := fun b i hb => World.frozen?_of_block (w := w) (a := ⟨b, i, none⟩) (g2.old.block b (lt b i hb))
  have held : ∀ b i, Held σ' h b i → Held σ h b i := by
    rintro b i ⟨n, r, q1, q2, q3⟩
    exact ⟨n, r, q1, by rw [← hσ n q1]; exact q2, q3⟩
  have keep : ∀ a v, VR σ w (Held σ h) B a v → VR σ' w' (Held σ' h) B a v := fun a v hv => by
    refine hv.mono (fun n r hn => ?_) (fun b i u hu hx => ⟨by rw [hcell b i (by rw [hu]; rfl)]; exact hu, fun q => hx (held b i q)⟩) (Nat.le_refl _)
    rw [g4.σ n (by
      rcases Nat.lt_or_ge n nx with q | q
      · exact q
      · rw [hx n q] at hn; cases hn)]
    exact hn
  refine ⟨.ret v, h, nx', σ', .ret v u (plainV_ok hp hu), ⟨hs.old.trans ⟨g2.old.os, g2.old.tape, g2.old.output, g2.old.size, fun b hb => g2.old.block b (Nat.lt_of_lt_of_le hb hs.hB)⟩, Nat.le_trans hs.hB g2.old.size, fun n k hn => ?_, fun n m r s b i h1 h2 h3 h4 => hs.dis n m r s b i h1 h2 ?_ ?_⟩, g3, hk.trans keep g4.nx (fun n hn => g4.σ n hn), rfl, rfl, g4.nx⟩
  · obtain ⟨r, q1, q2, q3, q4, q5, q6, q7⟩ := hs.blk n k hn
    refine ⟨r, by rw [hσ n (by rw [hn]; rfl)]; exact q1, q2, q3, q4, q5, fun i hi => ?_, fun i e he => ?_⟩
    · obtain ⟨p1, p2⟩ := q6 i hi
      rw [hcell _ _ p1, hfrz _ _ p1]
      exact ⟨p1, p2⟩
    · obtain ⟨p1, p2⟩ := q7 i e he
      refine ⟨p1, fun j a ha => ?_⟩
      obtain ⟨p3, u, p4, p5, p6⟩ := p2 j a ha
      exact ⟨p3, u, p4, by rw [hcell _ _ (by rw [p5]; rfl)]; exact p5, keep _ _ p6⟩
  · rw [← hσ n h1]; exact h3
  · rw [← hσ m h2]; exact h4
end
section
variable {nt : Nat} {Q : AX → St → Prop} {ops : Array Oper} {rest : List Oper} {tm : Nat → AV} {h : AHeap} {k : Nat} {df : List ADef} {ty : TypeId} {pos : String} {after : Array Edge} {d : Nat} {v : AV}
/-- A call's function and arguments, rows told. -/
def calleeT (h : AHeap) (tm : Nat → AV) (c : Call) : Option (FuncId × List AV) := (calleeA tm c).map fun p => (p.1, p.2.map fun a => weakA (toldA h a))
theorem W_told {c : Call} {f : FuncId} {args : List AV} (hd : decide (d < nt) = true) (ha : calleeT h tm c = some (f, args)) (hc : callable P f = true) (hf : aFun P f args v) (hp : plainV v = true) (hr : ∀ k', k ≤ k' → aOps P nt ops rest Q ⟨upd tm d v, h, k', df⟩) :
    aOps P nt ops (⟨some d, .call c, ty, pos, after, none⟩ :: rest) Q ⟨tm, h, k, df⟩ := by
  unfold calleeT at ha
  obtain ⟨⟨f', args'⟩, h1, h2⟩ := Option.map_eq_some_iff.1 ha
  simp only [Prod.mk.injEq] at h2
  obtain ⟨rfl, rfl⟩ := h2
  exact aOps_call rfl hd rfl h1 hc (aCalls_told hf hp) (fun a h' k' ⟨e1, e2, e3⟩ => by cases e1; subst e2; exact hr k' e3) (fun a h' k' ⟨e1, _⟩ => by cases e1)
end
end Go.Proofs.Ytcnofpoffdjbpaa.AE
