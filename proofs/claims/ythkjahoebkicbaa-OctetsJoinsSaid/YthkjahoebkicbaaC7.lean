/- Octets that the text spells: a row that is laid and turned to its own type at once. No program in sight. -/
import Derived.Test.YthkjahoebkicbaaC4
import Derived.Lib.SmallJoins
namespace Go.Proofs.Ythkjahoebkicbaa.AE
open Go Go.RowKit
set_option linter.unusedVariables false
set_option linter.unusedSimpArgs false
variable {P : Program}
section
variable {B : Nat} {w0 w : World} {σ : Sig} {h h' : AHeap} {k : Nat}
theorem aBuildLit_ok (hs : SR B w0 σ h w) (hk : σ k = none) {t te : TypeId} {len : Nat} {parts : List (Nat × AV)} {cparts : List (Nat × Value)} {v : AV} (hl : aBuildSlice P h k t len parts = some (v, h')) (htt : P.underlying t = some (.slice te)) (hte : P.underlying te = some (.int .u8)) (hm : parts.map (·.1) = cparts.map (·.1))
    (hp : ∀ (j : Nat) p q, parts[j]? = some p → cparts[j]? = some q → VR σ w (Held σ h) B p.2 q.2) : ∃ cv w1 w', (Instr.buildSlice t len cparts.toArray).run P w = .ok cv w1 ∧ (convert t t cv).run P w1 = .ok cv w' ∧ Out B w0 σ h w k (k + 1) v h' cv w' := by
  unfold aBuildSlice at hl
  rw [htt] at hl
  simp only [Option.bind_eq_some_iff] at hl
  obtain ⟨zs, hz, hl⟩ := hl
  split at hl
  · rename_i hq
    obtain ⟨hsz, hone, h16, hlen, hne⟩ := hq
    simp only [Option.map_eq_some_iff, Prod.mk.injEq] at hl
    obtain ⟨es, hes, rfl, rfl⟩ := hl
    unfold zeroT at hz
    simp only [Option.bind_eq_some_iff, Option.map_eq_some_iff] at hz
    obtain ⟨z, ⟨i, hi, hz⟩, rfl⟩ := hz
    have hsi : i.size = z.cells.size := by simpa [sizeT, hi] using hsz
    have hrl : ∀ e ∈ List.replicate len (z.cells.toList.map avOf1), e.length = z.cells.size ∧ e.all AV.one = true := fun e he => by
      rw [(List.mem_replicate.1 he).2]
      exact ⟨by simp, hone⟩
    simp only [List.length_map, Array.length_toList] at hes h16
    obtain ⟨hel, hen⟩ := aRows_len hes hrl
    have hzv : VRs σ w (Held σ h) B (List.replicate len (z.cells.toList.map avOf1)).flatten ((Array.range (len * z.cells.size)).map (z.cells[· % z.cells.size]!)).toList := by
      have := (VRs.of1 (σ := σ) (w := w) (X := Held σ h) (B := B) z.cells.toList).replicate len
      have hzz : (fun i => z.cells.toList[i % z.cells.size]!) = fun i => z.cells[i % z.cells.size]! := by
        funext i
        simp [getElem!_def]
      rw [zeros_flatten, Array.length_toList, hzz] at this
      rw [Array.toList_map, Array.toList_range]
      exact this
    obtain ⟨cv, h1, h2⟩ := aRows_ok hes (fun e he => (hrl e he).1) hzv hm hp
    have hel' : es.length = len := by simpa using hel
    have hcl : cv.toList.length = len * z.cells.size := by rw [← h2.1, flatten_length (fun e he => (hen e he).1), hel']
    have hrun : (Instr.buildSlice t len cparts.toArray).run P w = .ok (.slice (some ⟨w.heap.size, 0, none⟩) len len) (w.alloc (.cells cv te)) := by
      have h16' : ¬ (16777216 < len * z.cells.size) := by omega
      unfold Instr.buildSlice
      rw [Sem.run_bind, run_underlying htt]
      by_cases hn : len = 0
      · subst hn
        have h9 : Instr.fill (fun i => some (i * z.cells.size, z.cells.size)) #[] cparts = some cv := by simpa [Array.range_zero'] using h1
        simp [sizeOf, typeInfo, hi, hsi, newRow, h9, Array.range_zero']
      · have hzz : z.cells.size ≠ 0 := by
          intro h0
          apply hne
          have : z.cells = #[] := by simpa using h0
          simp [this]
        have hm0 : ¬ (len * z.cells.size = 0) := Nat.mul_ne_zero hn hzz
        simp [sizeOf, typeInfo, hi, hsi, zeroValue, hz, h16', newRow, h1, hm0]
    obtain ⟨h3, h4⟩ := hs.rowW k hk es z.cells.size (fun e he => (hen e he).1) (by unfold big; omega) cv.toList [] te (cv.size, cv.size + 1) h2 (fun e he a ha => List.all_eq_true.1 (hen e he).2 a ha) (w.alloc (.cells cv te (cv.size, cv.size + 1))) (by rw [List.append_nil, Array.toArray_toList]; rfl) rfl rfl rfl (.inr (by simp))
    simp only [List.append_nil, Array.toArray_toList] at h3 h4
    have hzl : (z.cells.toList.map avOf1).length = z.cells.size := by simp
    rw [hzl]
    exact ⟨_, _, _, hrun, Lib.run_convert_bytes_const w t te cv len len htt hte, upd σ k (some ⟨w.heap.size, 0, cv.toList.length, z.cells.size⟩), h3, fun n hn => upd_ne _ _ _ (by omega), h4, VR.row (Nat.le_refl _) (by unfold big; omega) (by omega)⟩
  · cases hl
end
section
variable {nt : Nat} {Q : AX → St → Prop} {ops : Array Oper} {rest : List Oper} {tm : Nat → AV} {h h' : AHeap} {k : Nat} {df : List ADef} {ty ty2 : TypeId} {pos pos2 : String} {after after2 : Array Edge} {d d2 : Nat} {v : AV}
/-- A row of octets that the text spells. -/
theorem lit_ {guard : Option (Nat × Bool)} {t te : TypeId} {n : Nat} {ps : Array (Nat × Operand)} (hr : aOps P nt ops rest Q ⟨upd (upd tm d v) d2 v, h', k + 1, df⟩) (htt : P.underlying t = some (.slice te)) (hte : P.underlying te = some (.int .u8))
    (hg : guardA ops tm guard = some true := by first | rfl | (simp (disch := first | rfl | decide | omega | assumption | (simp only [LL]; omega)) only [WS, NB, WY, FX.out]; first | done | rfl))
    (ha : aop P (.buildSlice t n ps) tm h k = some (v, h', k + 1) := by simp (disch := first | rfl | decide | omega | assumption | (simp only [LL]; omega)) only [WS, NB, WY, FX.out]; first | done | rfl)
    (hg2 : guardA ops (upd tm d v) guard = some true := by first | rfl | (simp (disch := first | rfl | decide | omega | assumption | (simp only [LL]; omega)) only [WS, NB, WY, FX.out]; first | done | rfl))
    (hd : decide (d < nt) = true := by rfl) (hd2 : decide (d2 < nt) = true := by rfl) :
    aOps P nt ops (⟨some d, .buildSlice t n ps, ty, pos, after, guard⟩ :: ⟨some d2, .convert t t (.tmp d), ty2, pos2, after2, guard⟩ :: rest) Q ⟨tm, h, k, df⟩ := fun B w0 O σ act w hrl hk => by
  have hw := guardA_ok (ops := ops) (o := ⟨some d, .buildSlice t n ps, ty, pos, after, guard⟩) hrl.tr hg
  simp only [aop, Option.map_eq_some_iff] at ha
  obtain ⟨⟨v', h''⟩, h1, h2⟩ := ha
  simp only [Prod.mk.injEq] at h2
  obtain ⟨rfl, rfl, _⟩ := h2
  obtain ⟨p1, p2⟩ := parts_rel hrl.tr ps
  obtain ⟨cv, w1, w', h3, h4, σ', q1, q2, q3, q4⟩ := aBuildLit_ok (P := P) (cparts := ps.toList.map fun p => (p.1, act.eval p.2)) hrl.sr (hrl.nx k (Nat.le_refl _)) h1 htt hte p1 p2
  have nx' : ∀ m, k + 1 ≤ m → σ' m = none := fun m hm => by rw [q2 m (.inr hm)]; exact hrl.nx m (Nat.le_of_succ_le hm)
  have hr1 := hrl.put q1 q3 nx' (some d) hd q4
  have hr2 := hr1.put q1 (fun _ _ q => q) nx' (some d2) hd2 q4
  have hfin := hr B w0 O σ' _ w' hr2 (hk.trans q3 (Nat.le_succ _) (fun m hm => q2 m (.inl hm)))
  have hw2 := guardA_ok (ops := ops) (o := ⟨some d2, .convert t t (.tmp d), ty2, pos2, after2, guard⟩) hr1.tr hg2
  unfold wpList
  rw [if_pos (by rw [hw])]
  left
  unfold Oper.wp
  have e1 : (execOp act.eval ⟨some d, .buildSlice t n ps, ty, pos, after, guard⟩).run P w = .ok (.value cv) w1 := by
    rw [buildSlice_run, Sem.run_bind, h3]
    rfl
  rw [e1]
  show wpList P ops _ _ _ w1
  unfold wpList
  rw [if_pos (by rw [hw2])]
  left
  unfold Oper.wp
  have hev : (act.put (some d) cv).eval (.tmp d) = cv := by
    have hlt : d < act.tmps.size := by rw [hrl.nt]; simpa using hd
    simp [Act.eval, Act.put, hlt]
  have e2 : (execOp (act.put (some d) cv).eval ⟨some d2, .convert t t (.tmp d), ty2, pos2, after2, guard⟩).run P w1 = .ok (.value cv) w' := by
    simp only [execOp, hev, Sem.run_bind, h4]
    rfl
  rw [e2]
  exact hfin
end
/-! ### a call that reads memory and answers a row of one's own -/
def aOwnH (P : Program) (f : FuncId) (args : List AV) (h : AHeap) (nx : Nat) (sz : Nat) (es : List (List AV)) : Prop := aCalls P f args h nx (fun e h' k' => ∃ m, e = .ret (.hs m 0 es.length) ∧ h' = upd h m (some ⟨sz, es⟩) ∧ nx ≤ m ∧ m < k')
theorem aOwnH_body {nt : Nat} {f : FuncId} {fn : Func} {c : Code} {args : List AV} {sz : Nat} {es : List (List AV)} {h : AHeap} {nx : Nat} (hf : P.funcs[f]? = some fn) (hb : fn.body = some c) (hn : fn.ntmps = nt) (ha : args.length ≤ nt)
    (hw : (∀ a ∈ args, Real a) → (∀ n, nx ≤ n → h n = none) → aWp P nt c (endOwnQ P fn nx h sz es) ⟨tm0 args, h, nx, []⟩) : aOwnH P f args h nx sz es := aCalls_real fun hreal hfresh => by
  have h1 : aCalls P f args h nx (fun e h' k' => ∃ a s, e = .ret a ∧ h' = s.h ∧ k' = s.nx ∧ nx ≤ s.nx ∧ HAgree nx h s.h ∧ ownV nx s a sz es) := by
    refine aCalls_body hf hb hn ha (aWp_mono (hw hreal hfresh) ?_)
    rintro e s hs
    cases e with
    | norm => obtain ⟨q1, q2, q3, a, q4, q5⟩ := hs; exact ⟨q1, a, q4, a, s, rfl, rfl, rfl, q2, q3, q5⟩
    | ret => obtain ⟨q1, q2, q3, a, q4, q5⟩ := hs; exact ⟨q1, a, q4, a, s, rfl, rfl, rfl, q2, q3, q5⟩
    | ex id => exact hs.elim
    | gt l => exact hs.elim
    | pan v => exact hs.elim
  intro B w0 O σ w vs hs hx hk hv
  refine (h1 B w0 O σ w vs hs hx hk hv).mono ?_
  rintro e w' ⟨ae, h', nx', σ', g1, g2, g3, g4, a, s, rfl, rfl, rfl, g5, g6, g7⟩
  cases g1 with
  | ret _ u hu =>
  rcases g7 with ⟨m, rest, rfl, q1, q2, q3⟩ | ⟨rfl, rfl⟩
  · obtain ⟨d1, d2⟩ := g2.drop (fun i => decide (nx ≤ i ∧ i ≠ m))
    have he : (fun i => if decide (nx ≤ i ∧ i ≠ m) = true then none else s.h i) m = some ⟨sz, es ++ rest⟩ := by simp [q3]
    obtain ⟨t1, t2⟩ := d1.trunc he
    have hq : upd (fun i => if decide (nx ≤ i ∧ i ≠ m) = true then none else s.h i) m (some ⟨sz, es⟩) = upd h m (some ⟨sz, es⟩) := by
      funext i
      by_cases e : i = m
      · subst e; rw [upd_same, upd_same]
      · rw [upd_ne _ _ _ e, upd_ne _ _ _ e]
        by_cases hi : nx ≤ i
        · simp [hi, e, hfresh i hi]
        · simp [hi, g6 i (by omega)]
    have keep : ∀ a v, VR σ' w' (Held σ' s.h) B a v → VR σ' w' (Held σ' (upd h m (some ⟨sz, es⟩))) B a v := fun a v hv => by
      rw [← hq, t2]
      exact d2 a v hv
    refine ⟨_, upd h m (some ⟨sz, es⟩), s.nx, σ', .ret _ u (keep _ _ hu), hq ▸ t1, g3, g4.trans keep (Nat.le_refl _) (fun _ _ => rfl), m, rfl, rfl, q1, q2⟩
  · obtain ⟨d1, d2⟩ := g2.drop (fun i => decide (nx ≤ i))
    have he : (fun i => if decide (nx ≤ i) = true then none else s.h i) = h := by
      funext i
      by_cases hi : nx ≤ i
      · simp [hi, hfresh i hi]
      · simp [hi, g6 i (by omega)]
    rw [he] at d1 d2
    obtain ⟨t1, t2⟩ := d1.none0 (g3 s.nx (Nat.le_refl _)) sz
    refine ⟨.ret (.hs s.nx 0 0), _, s.nx + 1, _, .ret _ u ?_, t1, fun n hn => ?_, (g4.trans d2 (Nat.le_refl _) (fun _ _ => rfl)).trans t2 (Nat.le_succ _) (fun n hn => upd_ne _ _ _ (by omega)), s.nx, rfl, rfl, g5, Nat.lt_succ_self _⟩
    · cases hu with
      | zs ad => exact .hs _ _ _ ad 0 _ (upd_same _ _ _) (Nat.le_refl _) (by decide) (.inl rfl)
    · rw [upd_ne _ _ _ (by omega)]
      exact g3 n (by omega)
section
variable {nt : Nat} {Q : AX → St → Prop} {ops : Array Oper} {rest : List Oper} {tm : Nat → AV} {h : AHeap} {k : Nat} {df : List ADef} {ty : TypeId} {pos : String} {after : Array Edge} {d : Nat}
theorem oh_ {c : Call} {f : FuncId} {args : List AV} {sz : Nat} {es : List (List AV)} (hf : aOwnH P f args h k sz es) (hr : ∀ m k', k ≤ m → m < k' → aOps P nt ops rest Q ⟨upd tm d (.hs m 0 es.length), upd h m (some ⟨sz, es⟩), k', df⟩) (h0 : c.callee = .value (.func f) := by rfl) (hd : decide (d < nt) = true := by rfl) (ha : calleeA tm c = some (f, args) := by first | rfl | (simp (disch := first | rfl | decide | omega | assumption | (simp only [LL]; omega)) only [WS, NB, WY, FX.out]; first | done | rfl)) (hc : callable P f = true := by simp only [WS]) :
    aOps P nt ops (⟨some d, .call c, ty, pos, after, none⟩ :: rest) Q ⟨tm, h, k, df⟩ :=
  aOps_call rfl hd rfl ha hc hf (fun a h' k' ⟨m, e1, e2, e3, e4⟩ => by cases e1; subst e2; exact hr m k' e3 e4) (fun a h' k' ⟨m, e1, _⟩ => by cases e1)
end
theorem aOwnM.fn_tup {P : Program} {f : FuncId} {args : List AV} {sz : Nat} {es : List (List AV)} {e : Int} (hf : aOwnM P f args (fun v => .tup [v, .int .i64 e]) sz es) : aFun P f args (.tup [.sl es, .int .i64 e]) := fun h nx => aCalls_real fun hreal hfresh => by
  intro B w0 O σ w vs hs hx hk hv
  refine (hf h nx B w0 O σ w vs hs hx hk hv).mono ?_
  rintro e w' ⟨ae, h', nx', σ', g1, g2, g3, g4, m, rfl, rfl, q1, q2⟩
  cases g1 with
  | ret _ u hu =>
  obtain ⟨d1, d2⟩ := g2.drop (fun i => decide (i = m))
  obtain ⟨us, rfl, hus⟩ := VR.tup_iff.1 hu
  obtain ⟨u0, u1, rfl, hu0, hu1⟩ := hus.two
  have hfz := VR.freeze g2 (fun i => decide (i = m)) (k := ⟨sz, es⟩) (upd_same _ _ _) (by simp) (by simp) hu0
  have he : (fun i => if decide (i = m) = true then none else upd h m (some ⟨sz, es⟩) i) = h := by
    funext i
    by_cases e : i = m
    · subst e; simp [hfresh i q1]
    · simp [e, upd_ne]
  have hu1' := d2 _ _ hu1
  rw [he] at d1 d2 hfz hu1'
  simp only [List.drop_zero, List.take_length] at hfz
  exact ⟨.ret _, h, nx', σ', .ret _ _ (VR.tup_iff.2 ⟨[u0, u1], rfl, .cons hfz (.cons hu1' .nil)⟩), d1, g3, g4.trans d2 (Nat.le_refl _) (fun _ _ => rfl), rfl, rfl, by omega⟩
/-! ### a loop of so many rounds, each walked -/
def aRounds (P : Program) (nt : Nat) (c : Code) (Q : AX → St → Prop) : Nat → St → Prop
  | 0, _ => False
  | n + 1, s => aWp P nt c (AX.andThen (aRounds P nt c Q n) Q) s
theorem aWp_rounds (n : Nat) {nt : Nat} {c : Code} {Q : AX → St → Prop} {st : St} (h : aRounds P nt c Q n st) : aWp P nt (.loop c) Q st := by
  refine aWp_loop (fun m s => aRounds P nt c Q m s) n h ?_
  intro m s hs
  cases m with
  | zero => exact hs.elim
  | succ m =>
    refine aWp_mono hs ?_
    intro e s' h'
    cases e with
    | norm => exact ⟨m, Nat.lt_succ_self m, h'⟩
    | ex id => exact h'
    | gt l => exact h'
    | ret => exact h'
    | pan v => exact h'
/-! ### only some temporaries are kept -/
def KeepOk (tm tm' : Nat → AV) : Prop := ∀ t, tm' t = .undef ∨ tm' t = tm t
abbrev noT : Nat → AV := fun _ => .undef
theorem kp0_ {tm : Nat → AV} : KeepOk tm noT := fun _ => .inl rfl
theorem kp_ (t : Nat) {tm acc : Nat → AV} {v : AV} (h : KeepOk tm acc) (ht : tm t = v := by simp (disch := first | rfl | decide | omega | assumption | (simp only [LL]; omega)) only [WS, NB, WY, FX.out]; first | done | rfl) : KeepOk tm (upd acc t v) := fun u => by
  by_cases e : u = t
  · subst e; rw [upd_same]; exact .inr ht.symm
  · rw [upd_ne _ _ _ e]; exact h u
theorem Sub.keep {tm tm' : Nat → AV} {h : AHeap} {k : Nat} {df : List ADef} (hk : KeepOk tm tm') : Sub ⟨tm, h, k, df⟩ ⟨tm', h, k, df⟩ := ⟨Nat.le_refl _, fun B w0 nt σ act w hr => ⟨⟨hr.sr, fun t => by
  rcases hk t with e | e
  · show VR _ _ _ _ (tm' t) _
    rw [e]; exact .undef _
  · show VR _ _ _ _ (tm' t) _
    rw [e]; exact hr.tr t, hr.nt, hr.nx, hr.df⟩, fun _ _ q => q⟩⟩
theorem keep_ {nt : Nat} {c : Code} {Q : AX → St → Prop} {tm tm' : Nat → AV} {h : AHeap} {k : Nat} {df : List ADef} (hk : KeepOk tm tm') (hr : aWp P nt c Q ⟨tm', h, k, df⟩) : aWp P nt c Q ⟨tm, h, k, df⟩ := aWp_sub (Sub.keep hk) hr
theorem keepO_ {nt : Nat} {ops : Array Oper} {l : List Oper} {Q : AX → St → Prop} {tm tm' : Nat → AV} {h : AHeap} {k : Nat} {df : List ADef} (hk : KeepOk tm tm') (hr : aOps P nt ops l Q ⟨tm', h, k, df⟩) : aOps P nt ops l Q ⟨tm, h, k, df⟩ := aOps_sub (Sub.keep hk) hr
end Go.Proofs.Ythkjahoebkicbaa.AE
