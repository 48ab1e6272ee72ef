/- Texts C7, C8. -/
import Derived.Test.YtjidgdfdeckofaaDoorV6
import Derived.Lib.SmallJoins
/- Octets that the text spells: a row that is laid and turned to its own type at once. No program in sight. -/
namespace Go.Proofs.YtjidgdfdeckofaaDoor.AE
open Go Go.RowKit
set_option linter.unusedVariables false
set_option linter.unusedSimpArgs false
variable {P : Program}
section
variable {B : Nat} {w0 w : World} {σ : Sig} {h h' : AHeap} {k : Nat}
theorem aBuildLit_ok (hs : SR B w0 σ h w) (hk : σ k = none) {t te : TypeId} {len : Nat} {parts : List (Nat × AV)} {cparts : List (Nat × Value)} {v : AV} (hl : aBuildSlice P h k t len parts = some (v, h')) (htt : P.underlying t = some (.slice te)) (hte : P.underlying te = some (.int .u8)) (hm : parts.map (·.1) = cparts.map (·.1))
    (hp : ∀ (j : Nat) p q, parts[j]? = some p → cparts[j]? = some q → VR σ w (Held σ h) B p.2 q.2) : ∃ cv w1 w', (Instr.buildSlice t len cparts.toArray).run P w = .ok cv w1 ∧ (convert t t cv).run P w1 = .ok cv w' ∧ Out B w0 σ h w k (k + 1) v h' cv w' := by
  unfold aBuildSlice at hl
  rw [htt] at hl
  simp only [Option.bind_eq_some_iff] at hl
  obtain ⟨zs, hz, hl⟩ := hl
  split at hl
  · rename_i hq
    obtain ⟨hsz, hone, h16, hlen, hne⟩ := hq
    simp only [Option.map_eq_some_iff, Prod.mk.injEq] at hl
    obtain ⟨es, hes, rfl, rfl⟩ := hl
    unfold zeroT at hz
    simp only [Option.bind_eq_some_iff, Option.map_eq_some_iff] at hz
    obtain ⟨z, ⟨i, hi, hz⟩, rfl⟩ := hz
    have hsi : i.size = z.cells.size := by simpa [sizeT, hi] using hsz
    have hrl : ∀ e ∈ List.replicate len (z.cells.toList.map avOf1), e.length = z.cells.size ∧ e.all AV.one = true := fun e he => by
      rw [(List.mem_replicate.1 he).2]
      exact ⟨by simp, hone⟩
    simp only [List.length_map, Array.length_toList] at hes h16
    obtain ⟨hel, hen⟩ := aRows_len hes hrl
    have hzv : VRs σ w (Held σ h) B (List.replicate len (z.cells.toList.map avOf1)).flatten ((Array.range (len * z.cells.size)).map (z.cells[· % z.cells.size]!)).toList := by
      have := (VRs.of1 (σ := σ) (w := w) (X := Held σ h) (B := B) z.cells.toList).replicate len
      have hzz : (fun i => z.cells.toList[i % z.cells.size]!) = fun i => z.cells[i % z.cells.size]! := by
        funext i
        simp [getElem!_def]
      rw [zeros_flatten, Array.length_toList, hzz] at this
      rw [Array.toList_map, Array.toList_range]
      exact this
    obtain ⟨cv, h1, h2⟩ := aRows_ok hes (fun e he => (hrl e he).1) hzv hm hp
    have hel' : es.length = len := by simpa using hel
    have hcl : cv.toList.length = len * z.cells.size := by rw [← h2.1, flatten_length (fun e he => (hen e he).1), hel']
    have hrun : (Instr.buildSlice t len cparts.toArray).run P w = .ok (.slice (some ⟨w.heap.size, 0, none⟩) len len) (w.alloc (.cells cv te)) := by
      have h16' : ¬ (16777216 < len * z.cells.size) := by omega
      unfold Instr.buildSlice
      rw [Sem.run_bind, run_underlying htt]
      by_cases hn : len = 0
      · subst hn
        have h9 : Instr.fill (fun i => some (i * z.cells.size, z.cells.size)) #[] cparts = some cv := by simpa [Array.range_zero'] using h1
        simp [sizeOf, typeInfo, hi, hsi, newRow, h9, Array.range_zero']
      · have hzz : z.cells.size ≠ 0 := by
          intro h0
          apply hne
          have : z.cells = #[] := by simpa using h0
          simp [this]
        have hm0 : ¬ (len * z.cells.size = 0) := Nat.mul_ne_zero hn hzz
        simp [sizeOf, typeInfo, hi, hsi, zeroValue, hz, h16', newRow, h1, hm0]
    obtain ⟨h3, h4⟩ := hs.rowW k hk es z.cells.size (fun e he => (hen e he).1) (by unfold big; omega) cv.toList [] te (cv.size, cv.size + 1) h2 (fun e he a ha => List.all_eq_true.1 (hen e he).2 a ha) (w.alloc (.cells cv te (cv.size, cv.size + 1))) (by rw [List.append_nil, Array.toArray_toList]; rfl) rfl rfl rfl (.inr (by simp))
    simp only [List.append_nil, Array.toArray_toList] at h3 h4
    have hzl : (z.cells.toList.map avOf1).length = z.cells.size := by simp
    rw [hzl]
    exact ⟨_, _, _, hrun, Lib.run_convert_bytes_const w t te cv len len htt hte, upd σ k (some ⟨w.heap.size, 0, cv.toList.length, z.cells.size⟩), h3, fun n hn => upd_ne _ _ _ (by omega), h4, VR.row (Nat.le_refl _) (by unfold big; omega) (by omega)⟩
  · cases hl
end
section
variable {nt : Nat} {Q : AX → St → Prop} {ops : Array Oper} {rest : List Oper} {tm : Nat → AV} {h h' : AHeap} {k : Nat} {df : List ADef} {ty ty2 : TypeId} {pos pos2 : String} {after after2 : Array Edge} {d d2 : Nat} {v : AV}
/-- A row of octets that the text spells. -/
theorem lit_ [ρ : Rnd] {guard : Option (Nat × Bool)} {t te : TypeId} {n : Nat} {ps : Array (Nat × Operand)} (hr : aOps P nt ops rest Q ⟨upd (upd tm d v) d2 v, h', k + 1, df⟩) (htt : P.underlying t = some (.slice te)) (hte : P.underlying te = some (.int .u8))
    (hg : guardA ops tm guard = some true := by first | rfl | (simp (disch := first | rfl | decide | omega | assumption | (simp only [LL]; omega)) only [WS, NB, WY, FX.out]; first | done | rfl))
    (ha : aop P (.buildSlice t n ps) tm h k = some (v, h', k + 1) := by simp (disch := first | rfl | decide | omega | assumption | (simp only [LL]; omega)) only [WS, NB, WY, FX.out]; first | done | rfl)
    (hg2 : guardA ops (upd tm d v) guard = some true := by first | rfl | (simp (disch := first | rfl | decide | omega | assumption | (simp only [LL]; omega)) only [WS, NB, WY, FX.out]; first | done | rfl))
    (hd : decide (d < nt) = true := by rfl) (hd2 : decide (d2 < nt) = true := by rfl) :
    aOps P nt ops (⟨some d, .buildSlice t n ps, ty, pos, after, guard⟩ :: ⟨some d2, .convert t t (.tmp d), ty2, pos2, after2, guard⟩ :: rest) Q ⟨tm, h, k, df⟩ := fun B w0 O σ act w hrl hk => by
  have hw := guardA_ok (ops := ops) (o := ⟨some d, .buildSlice t n ps, ty, pos, after, guard⟩) hrl.tr hg
  simp only [aop, Option.map_eq_some_iff] at ha
  obtain ⟨⟨v', h''⟩, h1, h2⟩ := ha
  simp only [Prod.mk.injEq] at h2
  obtain ⟨rfl, rfl, _⟩ := h2
  obtain ⟨p1, p2⟩ := parts_rel hrl.tr ps
  obtain ⟨cv, w1, w', h3, h4, σ', q1, q2, q3, q4⟩ := aBuildLit_ok (P := P) (cparts := ps.toList.map fun p => (p.1, act.eval p.2)) hrl.sr (hrl.nx k (Nat.le_refl _)) h1 htt hte p1 p2
  have nx' : ∀ m, k + 1 ≤ m → σ' m = none := fun m hm => by rw [q2 m (.inr hm)]; exact hrl.nx m (Nat.le_of_succ_le hm)
  have hr1 := hrl.put q1 q3 nx' (some d) hd q4
  have hr2 := hr1.put q1 .refl nx' (some d2) hd2 q4
  have hfin := hr B w0 O σ' _ w' hr2 (hk.trans q3 (Nat.le_succ _) (fun m hm => q2 m (.inl hm)))
  have hw2 := guardA_ok (ops := ops) (o := ⟨some d2, .convert t t (.tmp d), ty2, pos2, after2, guard⟩) hr1.tr hg2
  refine wpl_step hw (by intro c e; cases e) ?_
  have e1 : (execOp act.eval ⟨some d, .buildSlice t n ps, ty, pos, after, guard⟩).run P w = .ok (.value cv) w1 := by
    rw [buildSlice_run, Sem.run_bind, h3]
    rfl
  rw [e1]
  show wpListIn fnc 0 P ops _ _ _ w1
  refine wpl_step hw2 (by intro c e; cases e) ?_
  have hev : (act.put (some d) cv).eval (.tmp d) = cv := by
    have hlt : d < act.tmps.size := by rw [hrl.nt]; simpa using hd
    simp [Act.eval, Act.put, hlt]
  have e2 : (execOp (act.put (some d) cv).eval ⟨some d2, .convert t t (.tmp d), ty2, pos2, after2, guard⟩).run P w1 = .ok (.value cv) w' := by
    simp only [execOp, hev, Sem.run_bind, h4]
    rfl
  rw [e2]
  exact hfin
end
/-! ### a call that reads memory and answers a row of one's own -/
def aOwnH (P : Program) (f : FuncId) (args : List AV) (h : AHeap) (nx : Nat) (sz : Nat) (es : List (List AV)) : Prop := aCalls P f args h nx (fun e h' k' => ∃ m, e = .ret (.hs m 0 es.length) ∧ h' = upd h m (some ⟨sz, es⟩) ∧ nx ≤ m ∧ m < k')
theorem aOwnH_body {nt : Nat} {f : FuncId} {fn : Func} {c : Code} {args : List AV} {sz : Nat} {es : List (List AV)} {h : AHeap} {nx : Nat} (hf : P.funcs[f]? = some fn) (hb : fn.body = some c) (hn : fn.ntmps = nt) (ha : args.length ≤ nt)
    (hw : (∀ a ∈ args, Real a) → (∀ n, nx ≤ n → h n = none) → aWp P nt c (endOwnQ P fn nx h sz es) ⟨tm0 args, h, nx, []⟩) : aOwnH P f args h nx sz es := aCalls_real fun hreal hfresh => by
  have h1 : aCalls P f args h nx (fun e h' k' => ∃ a s, e = .ret a ∧ h' = s.h ∧ k' = s.nx ∧ nx ≤ s.nx ∧ HAgree nx h s.h ∧ ownV nx s a sz es) := by
    refine aCalls_body hf hb hn ha (aWp_mono (hw hreal hfresh) ?_)
    rintro e s hs
    cases e with
    | norm => obtain ⟨q1, q2, q3, a, q4, q5⟩ := hs; exact ⟨q1, a, q4, a, s, rfl, rfl, rfl, q2, q3, q5⟩
    | ret => obtain ⟨q1, q2, q3, a, q4, q5⟩ := hs; exact ⟨q1, a, q4, a, s, rfl, rfl, rfl, q2, q3, q5⟩
    | ex id => exact hs.elim
    | gt l => exact hs.elim
    | pan v => exact hs.elim
  intro B w0 O σ w vs hs hx hk hv
  refine (h1 B w0 O σ w vs hs hx hk hv).mono ?_
  rintro e w' ⟨ae, h', nx', σ', g1, g2, g3, g4, a, s, rfl, rfl, rfl, g5, g6, g7⟩
  cases g1 with
  | ret _ u hu =>
  rcases g7 with ⟨m, rest, rfl, q1, q2, q3⟩ | ⟨rfl, rfl⟩
  · obtain ⟨d1, d2⟩ := g2.drop (fun i => decide (nx ≤ i ∧ i ≠ m))
    have he : (fun i => if decide (nx ≤ i ∧ i ≠ m) = true then none else s.h i) m = some ⟨sz, es ++ rest⟩ := by simp [q3]
    obtain ⟨t1, t2⟩ := d1.trunc he
    have hq : upd (fun i => if decide (nx ≤ i ∧ i ≠ m) = true then none else s.h i) m (some ⟨sz, es⟩) = upd h m (some ⟨sz, es⟩) := by
      funext i
      by_cases e : i = m
      · subst e; rw [upd_same, upd_same]
      · rw [upd_ne _ _ _ e, upd_ne _ _ _ e]
        by_cases hi : nx ≤ i
        · simp [hi, e, hfresh i hi]
        · simp [hi, g6 i (by omega)]
    have keep : ∀ a v, VR σ' w' (Held σ' s.h) B a v → VR σ' w' (Held σ' (upd h m (some ⟨sz, es⟩))) B a v := fun a v hv => by
      rw [← hq, t2]
      exact d2 a v hv
    refine ⟨_, upd h m (some ⟨sz, es⟩), s.nx, σ', .ret _ u (keep _ _ hu), hq ▸ t1, g3, g4.trans ⟨keep, .refl _⟩ (Nat.le_refl _) (fun _ _ => rfl), m, rfl, rfl, q1, q2⟩
  · obtain ⟨d1, d2⟩ := g2.drop (fun i => decide (nx ≤ i))
    have he : (fun i => if decide (nx ≤ i) = true then none else s.h i) = h := by
      funext i
      by_cases hi : nx ≤ i
      · simp [hi, hfresh i hi]
      · simp [hi, g6 i (by omega)]
    rw [he] at d1 d2
    obtain ⟨t1, t2⟩ := d1.none0 (g3 s.nx (Nat.le_refl _)) sz
    refine ⟨.ret (.hs s.nx 0 0), _, s.nx + 1, _, .ret _ u ?_, t1, fun n hn => ?_, (g4.trans d2 (Nat.le_refl _) (fun _ _ => rfl)).trans t2 (Nat.le_succ _) (fun n hn => upd_ne _ _ _ (by omega)), s.nx, rfl, rfl, g5, Nat.lt_succ_self _⟩
    · cases hu with
      | zs ad => exact .hs _ _ _ ad 0 _ (upd_same _ _ _) (Nat.le_refl _) (by decide) (.inl rfl)
    · rw [upd_ne _ _ _ (by omega)]
      exact g3 n (by omega)
section
variable {nt : Nat} {Q : AX → St → Prop} {ops : Array Oper} {rest : List Oper} {tm : Nat → AV} {h : AHeap} {k : Nat} {df : List ADef} {ty : TypeId} {pos : String} {after : Array Edge} {d : Nat}
theorem oh_ [ρ : Rnd] {c : Call} {f : FuncId} {args : List AV} {sz : Nat} {es : List (List AV)} (hf : aOwnH P f args h k sz es) (hr : ∀ m k', k ≤ m → m < k' → aOps P nt ops rest Q ⟨upd tm d (.hs m 0 es.length), upd h m (some ⟨sz, es⟩), k', df⟩) (h0 : c.callee = .value (.func f) := by rfl) (hd : decide (d < nt) = true := by rfl) (ha : calleeA tm c = some (f, args) := by first | rfl | (simp (disch := first | rfl | decide | omega | assumption | (simp only [LL]; omega)) only [WS, NB, WY, FX.out]; first | done | rfl)) (hc : callable P f = true := by simp only [WS]) :
    aOps P nt ops (⟨some d, .call c, ty, pos, after, none⟩ :: rest) Q ⟨tm, h, k, df⟩ :=
  aOps_call rfl hd rfl ha hc hf (fun a h' k' ⟨m, e1, e2, e3, e4⟩ => by cases e1; subst e2; exact hr m k' e3 e4) (fun a h' k' ⟨m, e1, _⟩ => by cases e1)
end
theorem aOwnM.fn_tup {P : Program} {f : FuncId} {args : List AV} {sz : Nat} {es : List (List AV)} {e : Int} (hf : aOwnM P f args (fun v => .tup [v, .int .i64 e]) sz es) : aFun P f args (.tup [.sl es, .int .i64 e]) := fun h nx => aCalls_real fun hreal hfresh => by
  intro B w0 O σ w vs hs hx hk hv
  refine (hf h nx B w0 O σ w vs hs hx hk hv).mono ?_
  rintro e w' ⟨ae, h', nx', σ', g1, g2, g3, g4, m, rfl, rfl, q1, q2⟩
  cases g1 with
  | ret _ u hu =>
  obtain ⟨d1, d2⟩ := g2.drop (fun i => decide (i = m))
  obtain ⟨us, rfl, hus⟩ := VR.tup_iff.1 hu
  obtain ⟨u0, u1, rfl, hu0, hu1⟩ := hus.two
  have hfz := VR.freeze g2 (fun i => decide (i = m)) (k := ⟨sz, es⟩) (upd_same _ _ _) (by simp) (by simp) hu0
  have he : (fun i => if decide (i = m) = true then none else upd h m (some ⟨sz, es⟩) i) = h := by
    funext i
    by_cases e : i = m
    · subst e; simp [hfresh i q1]
    · simp [e, upd_ne]
  have hu1' := d2 _ _ hu1
  rw [he] at d1 d2 hfz hu1'
  simp only [List.drop_zero, List.take_length] at hfz
  exact ⟨.ret _, h, nx', σ', .ret _ _ (VR.tup_iff.2 ⟨[u0, u1], rfl, .cons hfz (.cons hu1' .nil)⟩), d1, g3, g4.trans d2 (Nat.le_refl _) (fun _ _ => rfl), rfl, rfl, by omega⟩
/-! ### a loop of so many rounds, each walked -/
def aRounds [ρ : Rnd] (P : Program) (nt : Nat) (c : Code) (Q : AX → St → Prop) : Nat → St → Prop
  | 0, _ => False
  | n + 1, s => aWp P nt c (AX.andThen (aRounds P nt c Q n) Q) s
theorem aWp_rounds [ρ : Rnd] (n : Nat) {nt : Nat} {c : Code} {Q : AX → St → Prop} {st : St} (h : aRounds P nt c Q n st) : aWp P nt (.loop c) Q st := by
  refine aWp_loop (fun m s => aRounds P nt c Q m s) n h ?_
  intro m s hs
  cases m with
  | zero => exact hs.elim
  | succ m =>
    refine aWp_mono hs ?_
    intro e s' h'
    cases e with
    | norm => exact ⟨m, Nat.lt_succ_self m, h'⟩
    | ex id => exact h'
    | gt l => exact h'
    | ret => exact h'
    | pan v => exact h'
/-! ### only some temporaries are kept -/
def KeepOk (tm tm' : Nat → AV) : Prop := ∀ t, tm' t = .undef ∨ tm' t = tm t
abbrev noT : Nat → AV := fun _ => .undef
theorem kp0_ {tm : Nat → AV} : KeepOk tm noT := fun _ => .inl rfl
theorem kp_ (t : Nat) {tm acc : Nat → AV} {v : AV} (h : KeepOk tm acc) (ht : tm t = v := by simp (disch := first | rfl | decide | omega | assumption | (simp only [LL]; omega)) only [WS, NB, WY, FX.out]; first | done | rfl) : KeepOk tm (upd acc t v) := fun u => by
  by_cases e : u = t
  · subst e; rw [upd_same]; exact .inr ht.symm
  · rw [upd_ne _ _ _ e]; exact h u
theorem Sub.keep {tm tm' : Nat → AV} {h : AHeap} {k : Nat} {df : List ADef} (hk : KeepOk tm tm') : Sub ⟨tm, h, k, df⟩ ⟨tm', h, k, df⟩ := ⟨Nat.le_refl _, fun ρ B w0 nt σ act w hr => ⟨⟨hr.sr, fun t => by
  rcases hk t with e | e
  · show VR _ _ _ _ (tm' t) _
    rw [e]; exact .undef _
  · show VR _ _ _ _ (tm' t) _
    rw [e]; exact hr.tr t, hr.nt, hr.nx, hr.df, hr.iv⟩, fun _ _ q => q⟩⟩
theorem keep_ [ρ : Rnd] {nt : Nat} {c : Code} {Q : AX → St → Prop} {tm tm' : Nat → AV} {h : AHeap} {k : Nat} {df : List ADef} (hk : KeepOk tm tm') (hr : aWp P nt c Q ⟨tm', h, k, df⟩) : aWp P nt c Q ⟨tm, h, k, df⟩ := aWp_sub (Sub.keep hk) hr
theorem keepO_ [ρ : Rnd] {nt : Nat} {ops : Array Oper} {l : List Oper} {Q : AX → St → Prop} {tm tm' : Nat → AV} {h : AHeap} {k : Nat} {df : List ADef} (hk : KeepOk tm tm') (hr : aOps P nt ops l Q ⟨tm', h, k, df⟩) : aOps P nt ops l Q ⟨tm, h, k, df⟩ := aOps_sub (Sub.keep hk) hr
end Go.Proofs.YtjidgdfdeckofaaDoor.AE

/- A region that draws its order, out of which a call panics. No program in sight. -/
namespace Go.Proofs.YtjidgdfdeckofaaDoor.AE
open Go Go.RowKit
set_option linter.unusedVariables false
set_option linter.unusedSimpArgs false
variable {P : Program}
/-- The rule: what is done ahead of the panic only computes. -/
theorem aWp_drawPan {nt : Nat} {Q : AX → St → Prop} {ops : List Oper} {id : Nat} {tm : Nat → AV} {h : AHeap} {k : Nat} {df : List ADef} {acs : List Ac} {p : Nat} {pdst : Option Nat} {cl : Call} {pty : TypeId} {ppos : String} {pafter : Array Edge} {f : FuncId} {args : List AV}
    (hm : P.follows .mixedOrders = true) (hok : drawOk ops = true) (hdst : ops.all (fun o => dstOk nt o.dst) = true) (hp : ops[p]? = some ⟨pdst, .call cl, pty, ppos, pafter, none⟩) (hlen : acs.length = ops.length)
    (hact : ∀ (i : Nat) o a, i ≠ p → ((preds ops).getD i []).contains p = false → ops[i]? = some o → acs[i]? = some a → guardA ops.toArray (tmAt (fun j => decide (j < i)) 0 ops acs tm) o.guard = some true ∧ aop P o.op (tmAt (fun j => decide (j < i)) 0 ops acs tm) h (k + i) = some (a.v, h, k + i))
    (hcw : calleeW (tmAt (fun j => decide (j < p)) 0 ops acs tm) cl = some (f, args)) (hcb : callable P f = true)
    (hcalls : ∀ tm1 : Nat → AV, (∀ t, (∀ o ∈ ops, o.dst ≠ some t) → tm1 t = tm t) → ∀ nx, k + ops.length ≤ nx → aCalls P f args h nx (fun e h' k' => ∃ v, e = .pan v ∧ Q (.pan v) ⟨tm1, h', k', df⟩)) : aWp P nt (.region id ops.toArray true) Q ⟨tm, h, k, df⟩ := by

  simp only [drawOk, Bool.and_eq_true] at hok
  obtain ⟨⟨hedge, hslot⟩, _⟩ := hok
  have slotOrd : ∀ i j o o' d, ops[i]? = some o → ops[j]? = some o' → i ≠ j → o'.dst = some d → d ∈ slots ops.toArray o → ordB (preds ops) i j = true := fun i j o o' d hi hj hne hd hmem => by
    unfold slotsOk at hslot
    have h1 := List.all_eq_true.1 hslot (o, i) (List.mem_zipIdx_iff_getElem?.2 hi)
    have h2 := List.all_eq_true.1 h1 (o', j) (List.mem_zipIdx_iff_getElem?.2 hj)
    have hc : (slots ops.toArray o).contains d = true := by simpa using hmem
    simp only [hd, hc, Bool.or_eq_true, beq_iff_eq, Bool.not_true, Bool.false_or] at h2
    rcases h2 with h2 | h2
    · exact absurd h2 hne
    · exact h2
  intro B w0 O σ act w hr hk
  refine wpR.2 (wp_region_any hm ?_)
  have key : ∀ (fuel : Nat) (listed : Array Bool) (S : Nat → Bool) (act : Act) (w : World) (σ : Sig) (nx : Nat), listed.size = ops.length → (∀ j, j < ops.length → listed.getD j false = S j) → (∀ j, ops.length ≤ j → S j = false) → Closed ops S → S p = false → (∀ j, ((preds ops).getD j []).contains p = true → S j = false) →
      ((List.range ops.length).filter fun j => !S j).length ≤ fuel → Rel B w0 nt σ ⟨tmAt S 0 ops acs tm, h, nx, df⟩ act w → Keep B O σ (h) w nx → k + ops.length ≤ nx → (∀ j, j < ops.length → S j = false → σ (k + j) = none) →
      wpAny P .any ops.toArray (post nt B w0 O Q) fuel listed act w := by
    have least : ∀ (listed : Array Bool) (S : Nat → Bool), listed.size = ops.length → (∀ j, j < ops.length → listed.getD j false = S j) → Region.ready .any ops.toArray listed = [] → ∀ j, j < ops.length → S j = true := fun listed S hsz hl hready => by
      intro j
      induction j using Nat.strongRecOn with
      | _ j ih =>
        intro hj
        cases hS : S j with
        | true => rfl
        | false =>
          exfalso
          have hmem : j ∈ Region.ready .any ops.toArray listed := by
            rw [mem_ready]
            have h1 := hl j hj
            refine ⟨?_, ops[j], by simp [hj], fun e he hb => ?_⟩
            · simp only [Array.getD_eq_getD_getElem?] at h1 ⊢
              have : j < listed.size := by omega
              rw [Array.getElem?_eq_getElem this] at h1 ⊢
              simp only [Option.getD_some] at h1 ⊢
              rw [h1, hS]
            · have hlt : e.on < j := by
                have : ∀ (os : List Oper) (q : Nat), edgesOk q os = true → ∀ (i : Nat) o, os[i]? = some o → ∀ e ∈ o.after, Region.binds .any e = true → e.on < q + i := by
                  intro os
                  induction os with
                  | nil => intro q _ i o ho; simp at ho
                  | cons x os ihx =>
                    intro q hq i o ho e he hb
                    simp only [edgesOk, Bool.and_eq_true] at hq
                    cases i with
                    | zero =>
                      simp at ho
                      subst ho
                      have := List.all_eq_true.1 hq.1 e (by simpa using he)
                      simp only [hb, Bool.not_true, Bool.false_or, decide_eq_true_eq] at this
                      omega
                    | succ i =>
                      have := ihx (q + 1) hq.2 i o (by simpa using ho) e he hb
                      omega
                have := this ops 0 hedge j ops[j] (List.getElem?_eq_getElem hj) e he hb
                omega
              rw [hl e.on (by omega)]
              exact ih e.on hlt (by omega)
          rw [hready] at hmem
          cases hmem
    intro fuel
    induction fuel with
    | zero =>
      intro listed S act w σ nx hsz hl hge hc hsp hsd hcnt hr hk hnx hfree
      have hall : ∀ j, j < ops.length → S j = true := fun j hj => by
        cases hS : S j with
        | true => rfl
        | false =>
          exfalso
          have : j ∈ (List.range ops.length).filter fun j => !S j := by simp [hj, hS]
          have := List.length_pos_of_mem this
          omega
      exact absurd (hall p (List.getElem?_eq_some_iff.1 hp).1) (by rw [hsp]; decide)
    | succ fuel ih =>
      intro listed S act w σ nx hsz hl hge hc hsp hsd hcnt hr hk hnx hfree
      refine ⟨fun hready => absurd (least listed S hsz hl hready p (List.getElem?_eq_some_iff.1 hp).1) (by rw [hsp]; decide), fun i hi => ?_⟩
      obtain ⟨h1, o, ho, hedges⟩ := mem_ready.1 hi
      have ho' : ops[i]? = some o := by simpa using ho
      have hlt : i < ops.length := (List.getElem?_eq_some_iff.1 ho').1
      have hSi : S i = false := by
        have h2 := hl i hlt
        simp only [Array.getD_eq_getD_getElem?] at h1 h2
        have : i < listed.size := by omega
        rw [Array.getElem?_eq_getElem this] at h1 h2
        simp only [Option.getD_some] at h1 h2
        rw [h1] at h2
        exact h2.symm
      have hsome : ∀ j, listed.getD j false = true → S j = true := fun j hj => by
        by_cases hjl : j < ops.length
        · rw [← hl j hjl]; exact hj
        · rw [Array.getD_eq_getD_getElem?, Array.getElem?_eq_none (by omega)] at hj
          cases hj
      have hedges' : ∀ e ∈ o.after, Region.binds .any e = true → S e.on = true := fun e he hb => hsome _ (hedges e he hb)
      obtain ⟨a, haa⟩ : ∃ a, acs[i]? = some a := ⟨acs[i]'(by omega), List.getElem?_eq_getElem _⟩
      have before : ∀ j, j ∈ (preds ops).getD i [] → S j = true := fun j hj => preds_sound hc hedge ho' hedges' hj
      have behind : ∀ j o'', ops[j]? = some o'' → i ∈ (preds ops).getD j [] → S j = false := fun j o'' hj hmem => by
        cases hS : S j with
        | false => rfl
        | true =>
          have := preds_sound hc hedge hj (hc j o'' hS hj) hmem
          rw [hSi] at this
          cases this
      have ord : ∀ j o'', ops[j]? = some o'' → i ≠ j → ordB (preds ops) i j = true → S j = decide (j < i) := fun j o'' hj hne hord => by
        unfold ordB at hord
        split at hord
        · rename_i hji
          rw [before j (by simpa using hord)]
          simp [hji]
        · rename_i hji
          rw [behind j o'' hj (by simpa using hord)]
          simp [hji]
      -- what it looks at is what the text's order gives
      have hlook : ∀ t ∈ slots ops.toArray o, tmAt S 0 ops acs tm t = tmAt (fun j => decide (j < i)) 0 ops acs tm t := fun t ht => tmAt_congr (fun j o'' hj hd => by
        rw [Nat.zero_add]
        by_cases hne : i = j
        · subst hne
          rw [hSi]
          simp
        · exact ord j o'' hj hne (slotOrd i j o o'' t ho' hj hne hd ht)) rfl
      obtain ⟨hev, hgd⟩ := slots_eval hlook
      have hpi : ((preds ops).getD i []).contains p = false := by
        cases hc2 : ((preds ops).getD i []).contains p with
        | false => rfl
        | true => exact absurd (before p (by simpa using hc2)) (by rw [hsp]; decide)
      by_cases hip : i = p
      · subst hip
        rw [hp] at ho'
        cases ho'
        unfold wpOp
        rw [ho]
        simp only
        have hw := guardA_ok hr.tr (o := ⟨pdst, .call cl, pty, ppos, pafter, none⟩) (ops := ops.toArray) (b := true) rfl
        rw [if_pos (by rw [hw])]
        left
        have hca2 : calleeW (tmAt S 0 ops acs tm) cl = some (f, args) := by
          rw [calleeW_congr (tm' := tmAt (fun j => decide (j < i)) 0 ops acs tm) (fun x hx => hev x hx)]
          exact hcw
        unfold calleeW at hca2
        obtain ⟨⟨f', args'⟩, e1, e2⟩ := Option.map_eq_some_iff.1 hca2
        simp only [Prod.mk.injEq] at e2
        obtain ⟨rfl, rfl⟩ := e2
        obtain ⟨vs, e3, e4⟩ := calleeA_ok (P := P) (dst := pdst) (ty := pty) (pos := ppos) (after := pafter) (guard := none) hr.tr e1 hcb
        unfold Oper.wp
        rw [e3]
        have hother : ∀ t, (∀ o ∈ ops, o.dst ≠ some t) → tmAt S 0 ops acs tm t = tm t := fun t ht => by
          rw [tmAt_congr (S := S) (S' := fun _ => false) (t := t) (i := 0) (os := ops) («as» := acs) (tm := tm) (tm' := tm) (fun j o'' hj hd => absurd hd (ht o'' (List.mem_of_getElem? hj))) rfl]
          rw [tmAt_false _ _ _ _ _ (fun _ _ => rfl)]
        refine (hcalls (tmAt S 0 ops acs tm) hother nx hnx B w0 ⟨σ, h, w, nx⟩ σ w vs hr.sr hr.nx (.refl _ _ _ _) e4.weak).mono ?_
        rintro e w' ⟨ae, h'', nx', σ', c1, c2, c3, c4, v, rfl, hQ⟩
        cases c1 with
        | pan _ u hu => exact ⟨.pan v, _, σ', .pan v u hu, ⟨c2, fun t => c4.vr _ _ (hr.tr t), hr.nt, c3, hr.df.mono c4.vr, trivial⟩, hk.trans c4.vr c4.nx c4.σ, hQ⟩
      have hstep : tmAt (setS S i) 0 ops acs tm = putA (tmAt S 0 ops acs tm) o.dst a.v := by
        have := tmAt_step (S := S) (i0 := 0) (os := ops) («as» := acs) (tm := tm) ho' haa (by rw [Nat.zero_add]; exact hSi) (fun j o'' hij hj ⟨d, hd1, hd2⟩ => by
          rw [Nat.zero_add, ord j o'' hj (by omega) (slotOrd i j o o'' d ho' hj (by omega) hd2 (by unfold slots; simp [hd1]))]
          simp
          omega)
        rwa [Nat.zero_add] at this
      have hdo : dstOk nt o.dst = true := List.all_eq_true.1 hdst o (List.mem_of_getElem? ho')
      -- what follows
      have next : ∀ (σ' : Sig) (act' : Act) (w' : World) (nx' : Nat), Rel B w0 nt σ' ⟨putA (tmAt S 0 ops acs tm) o.dst a.v, h, nx', df⟩ act' w' → Keep B O σ' (h) w' nx' → nx ≤ nx' → (∀ j, j < ops.length → S j = false → j ≠ i → σ' (k + j) = none) →
          wpAny P .any ops.toArray (post nt B w0 O Q) fuel (listed.setIfInBounds i true) act' w' := fun σ' act' w' nx' hr' hk' hnn hfree' => by
        refine ih (listed.setIfInBounds i true) (setS S i) act' w' σ' nx' (by simp [hsz]) (fun j hj => ?_) (fun j hj => ?_) (fun j o'' hj ho'' e he hb => ?_) (by simp [setS, hsp]; exact fun e => hip e.symm) (fun j hj => by simp [setS, hsd j hj]; intro e; subst e; rw [hpi] at hj; cases hj) ?_ (by rw [hstep]; exact hr') hk' (by omega) (fun j hj hjs => ?_)
        · by_cases hji : j = i
          · subst hji
            have : j < listed.size := by omega
            simp [setS, Array.getD_eq_getD_getElem?, this]
          · have : (listed.setIfInBounds i true).getD j false = listed.getD j false := by
              simp only [Array.getD_eq_getD_getElem?]
              rw [Array.getElem?_setIfInBounds_ne (by omega)]
            rw [this, hl j hj]
            simp [setS, hji]
        · have h3 := hge j hj
          simp [setS, h3]
          omega
        · simp only [setS, Bool.or_eq_true, decide_eq_true_eq] at hj ⊢
          rcases hj with rfl | hj
          · rw [ho'] at ho''
            cases ho''
            exact .inr (hedges' e he hb)
          · exact .inr (hc j o'' hj ho'' e he hb)
        · have hsub : ((List.range ops.length).filter fun j => !setS S i j).length < ((List.range ops.length).filter fun j => !S j).length := by
            have e1 : ((List.range ops.length).filter fun j => !setS S i j) = ((List.range ops.length).filter fun j => !S j).filter fun j => !decide (j = i) := by
              rw [List.filter_filter]
              congr 1
              funext j
              simp [setS]
            rw [e1]
            refine Nat.lt_of_le_of_ne (List.length_filter_le _ _) fun heq => ?_
            have hmi : i ∈ (List.range ops.length).filter fun j => !S j := by simp [hlt, hSi]
            have := List.length_filter_eq_length_iff.1 heq i hmi
            simp at this
          omega
        · simp only [setS, Bool.or_eq_false_iff, decide_eq_false_iff_not] at hjs
          exact hfree' j hj hjs.2 hjs.1
      -- the operation itself
      unfold wpOp
      rw [ho]
      simp only
      have hOnx : O.nx ≤ k := by
        have := ‹Keep B O _ h _ k›.nx
        exact this
      obtain ⟨hg, ha1⟩ := hact i o a hip hpi ho' haa
      have hw := guardA_ok hr.tr (o := o) (ops := ops.toArray) (b := true) (by rw [hgd]; exact hg)
      rw [if_pos (by rw [hw])]
      left
      rw [← aop_congr hev] at ha1
      obtain ⟨cv, w', g1, σ', g2, g3, g4, g5⟩ := aop_ok hr.sr hr.tr (fun n h1 h2 => by
        obtain rfl : n = k + i := by omega
        exact hfree i hlt hSi) ha1
      have hnx' : ∀ n, nx ≤ n → σ' n = none := fun n hn' => by rw [g3 n (by omega)]; exact hr.nx n hn'
      have hr' := hr.put g2 g4 hnx' o.dst hdo g5
      have hk' : Keep B O σ' h w' nx := ⟨hk.vr.trans g4, hk.nx, fun n hn' => (g3 n (.inl (by omega))).trans (hk.σ n hn')⟩
      have := next σ' _ w' nx hr' hk' (Nat.le_refl _) (fun j hj hjs hne => by rw [g3 (k + j) (by omega)]; exact hfree j hj hjs)
      unfold Oper.wp
      rcases g1 with g1 | ⟨g1, rfl⟩
      · rw [g1]; exact this
      · rw [g1]; exact this
  -- the begin
  have hdw : ({ w with drawn := w.drawn + 1 } : World) = w.drew := rfl
  obtain ⟨d1, d2⟩ := hr.sr.drew (w.drawn + 1)
  have hS0 : tmAt (fun _ => false) 0 ops acs tm = tm := tmAt_false _ _ _ _ _ fun _ _ => rfl
  have := key ops.length (Array.replicate ops.length false) (fun _ => false) act { w with drawn := w.drawn + 1 } σ (k + ops.length) (by simp) (fun j hj => by simp [Array.getD_eq_getD_getElem?, hj]) (fun _ _ => rfl) (fun i o h => by cases h) rfl (fun _ _ => rfl) (Nat.le_trans (List.length_filter_le _ _) (by simp))
    (by rw [hS0]; exact ⟨d1, fun t => d2 _ _ (hr.tr t), hr.nt, fun n hn' => hr.nx n (by have : k + ops.length ≤ n := hn'; simp only; omega), hr.df.mono d2, trivial⟩)
    (by exact ⟨hk.vr.trans d2, by have := hk.nx; simp only at this; omega, hk.σ⟩) (Nat.le_refl _) (fun j hj _ => hr.nx (k + j) (by simp only; omega))
  simpa using this

/-! ### as a walk wants it -/
/-- What is done ahead of the panic, in the text's order; what comes behind the call is left out. -/
inductive PanA (P : Program) (ops : List Oper) (k : Nat) (h : AHeap) (p : Nat) (f : FuncId) (args : List AV) : Nat → List Oper → (Nat → AV) → List Ac → Prop
  | nil (i : Nat) (tm : Nat → AV) : PanA P ops k h p f args i [] tm []
  | act {i : Nat} {o : Oper} {rest : List Oper} {tm : Nat → AV} {acs : List Ac} (v : AV) (hne : i ≠ p) (hg : guardA ops.toArray tm o.guard = some true) (ha : aop P o.op tm h (k + i) = some (v, h, k + i)) (hr : PanA P ops k h p f args (i + 1) rest (putA tm o.dst v) acs) : PanA P ops k h p f args i (o :: rest) tm (⟨v, [], []⟩ :: acs)
  | skip {i : Nat} {o : Oper} {rest : List Oper} {tm : Nat → AV} {acs : List Ac} (hne : i ≠ p) (hs : ((preds ops).getD i []).contains p = true) (hr : PanA P ops k h p f args (i + 1) rest (putA tm o.dst (.tup [])) acs) : PanA P ops k h p f args i (o :: rest) tm (⟨.tup [], [], []⟩ :: acs)
  | call {i : Nat} {o : Oper} {cl : Call} {rest : List Oper} {tm : Nat → AV} {acs : List Ac} (hi : i = p) (ho : o.op = .call cl) (hc : calleeW tm cl = some (f, args)) (hr : PanA P ops k h p f args (i + 1) rest (putA tm o.dst (.tup [])) acs) : PanA P ops k h p f args i (o :: rest) tm (⟨.tup [], [], []⟩ :: acs)
theorem panA_get {ops : List Oper} {k p : Nat} {h : AHeap} {f : FuncId} {args : List AV} : ∀ {i0 : Nat} {os : List Oper} {tm : Nat → AV} {acs : List Ac}, PanA P ops k h p f args i0 os tm acs →
    acs.length = os.length ∧
    (∀ (i : Nat) o a, i0 + i ≠ p → ((preds ops).getD (i0 + i) []).contains p = false → os[i]? = some o → acs[i]? = some a → guardA ops.toArray (tmAt (fun j => decide (j < i0 + i)) i0 os acs tm) o.guard = some true ∧ aop P o.op (tmAt (fun j => decide (j < i0 + i)) i0 os acs tm) h (k + (i0 + i)) = some (a.v, h, k + (i0 + i))) ∧
    (∀ (i : Nat) o cl, i0 + i = p → os[i]? = some o → o.op = .call cl → calleeW (tmAt (fun j => decide (j < i0 + i)) i0 os acs tm) cl = some (f, args)) := by
  intro i0 os tm acs ha
  have base : ∀ {i : Nat} {os : List Oper} {acs : List Ac} {tm : Nat → AV}, tmAt (fun j => decide (j < i + 0)) i os acs tm = tm := fun {i os acs tm} => tmAt_false _ _ _ _ _ fun j hj => by simp; omega
  have step : ∀ {i j : Nat} {o : Oper} {os : List Oper} {a : Ac} {acs : List Ac} {tm : Nat → AV}, tmAt (fun q => decide (q < i + (j + 1))) i (o :: os) (a :: acs) tm = tmAt (fun q => decide (q < i + 1 + j)) (i + 1) os acs (putA tm o.dst a.v) := fun {i j o os a acs tm} => by
    rw [tmAt, if_pos (by simp), show i + (j + 1) = i + 1 + j by omega]
  induction ha with
  | nil i tm => exact ⟨rfl, fun i o a _ _ ho => by simp at ho, fun i o cl _ ho => by simp at ho⟩
  | @act i o rest tm acs v hne hg ha hr ih =>
    obtain ⟨q1, q2, q3⟩ := ih
    refine ⟨by simp [q1], fun j o' a' h1 h2 ho haa => ?_, fun j o' cl h1 ho hop => ?_⟩
    · cases j with
      | zero =>
        simp at ho haa
        subst ho haa
        rw [base, Nat.add_zero]
        exact ⟨hg, ha⟩
      | succ j =>
        have := q2 j o' a' (by omega) (by rw [show i + 1 + j = i + (j + 1) by omega]; exact h2) (by simpa using ho) (by simpa using haa)
        rw [step, show i + (j + 1) = i + 1 + j by omega]
        exact this
    · cases j with
      | zero => exact absurd h1 (by omega)
      | succ j =>
        rw [step]
        exact q3 j o' cl (by omega) (by simpa using ho) hop
  | @skip i o rest tm acs hne hs hr ih =>
    obtain ⟨q1, q2, q3⟩ := ih
    refine ⟨by simp [q1], fun j o' a' h1 h2 ho haa => ?_, fun j o' cl h1 ho hop => ?_⟩
    · cases j with
      | zero => rw [Nat.add_zero, hs] at h2; cases h2
      | succ j =>
        have := q2 j o' a' (by omega) (by rw [show i + 1 + j = i + (j + 1) by omega]; exact h2) (by simpa using ho) (by simpa using haa)
        rw [step, show i + (j + 1) = i + 1 + j by omega]
        exact this
    · cases j with
      | zero => exact absurd h1 (by omega)
      | succ j =>
        rw [step]
        exact q3 j o' cl (by omega) (by simpa using ho) hop
  | @call i o cl rest tm acs hi ho0 hc hr ih =>
    obtain ⟨q1, q2, q3⟩ := ih
    refine ⟨by simp [q1], fun j o' a' h1 h2 ho haa => ?_, fun j o' cl' h1 ho hop => ?_⟩
    · cases j with
      | zero => exact absurd hi (by omega)
      | succ j =>
        have := q2 j o' a' (by omega) (by rw [show i + 1 + j = i + (j + 1) by omega]; exact h2) (by simpa using ho) (by simpa using haa)
        rw [step, show i + (j + 1) = i + 1 + j by omega]
        exact this
    · cases j with
      | zero =>
        simp at ho
        subst ho
        rw [ho0] at hop
        cases hop
        rw [base]
        exact hc
      | succ j =>
        rw [step]
        exact q3 j o' cl' (by omega) (by simpa using ho) hop
section
variable {ops : List Oper} {k p i : Nat} {h : AHeap} {f : FuncId} {args : List AV} {rest : List Oper} {tm : Nat → AV} {d : Nat} {op : Op} {ty : TypeId} {pos : String} {after : Array Edge} {guard : Option (Nat × Bool)} {v : AV} {o : Oper} {c : Call}
def Pan (P : Program) (ops : List Oper) (k : Nat) (h : AHeap) (p : Nat) (f : FuncId) (args : List AV) (i : Nat) (rest : List Oper) (tm : Nat → AV) : Prop := ∃ acs, PanA P ops k h p f args i rest tm acs
theorem pe_ : Pan P ops k h p f args i [] tm := ⟨_, .nil i tm⟩
theorem pq_ (hr : Pan P ops k h p f args (i + 1) rest (upd tm d v)) (hne : i ≠ p := by decide) (hg : guardA ops.toArray tm guard = some true := by first | rfl | (simp (disch := first | rfl | decide | omega | assumption | (simp only [LL]; omega)) only [WS, NB, WY, FX.out]; first | done | rfl)) (ha : aop P op tm h (k + i) = some (v, h, k + i) := by first | rfl | (simp (disch := first | rfl | decide | omega | assumption | (simp only [LL]; omega)) only [WS, NB, WY, FX.out]; first | done | rfl)) : Pan P ops k h p f args i (⟨some d, op, ty, pos, after, guard⟩ :: rest) tm := by
  obtain ⟨acs, hr⟩ := hr
  exact ⟨_, .act v hne hg ha hr⟩
theorem ps_ (hr : Pan P ops k h p f args (i + 1) rest (putA tm o.dst (.tup []))) (hne : i ≠ p := by decide) (hs : ((preds ops).getD i []).contains p = true := by rfl) : Pan P ops k h p f args i (o :: rest) tm := by
  obtain ⟨acs, hr⟩ := hr
  exact ⟨_, .skip hne hs hr⟩
theorem pc_ (hr : Pan P ops k h p f args (i + 1) rest (putA tm o.dst (.tup []))) (hi : i = p := by rfl) (ho : o.op = .call c := by rfl) (hc : calleeW tm c = some (f, args) := by first | rfl | (simp (disch := first | rfl | decide | omega | assumption | (simp only [LL]; omega)) only [WS, NB, WY, FX.out]; first | done | rfl)) : Pan P ops k h p f args i (o :: rest) tm := by
  obtain ⟨acs, hr⟩ := hr
  exact ⟨_, .call hi ho hc hr⟩
/-- A call panics, whatever memory is. -/
def aPan (P : Program) (f : FuncId) (args : List AV) (v : AV) : Prop := ∀ (h : AHeap) (nx : Nat), aCalls P f args h nx (fun e h' k' => e = .pan v ∧ h' = h ∧ nx ≤ k')
theorem W_drawPanR {nt : Nat} {Q : AX → St → Prop} {id : Nat} {df : List ADef} {pdst : Option Nat} (p : Nat) (hm : P.follows .mixedOrders = true) (hok : drawOk ops = true) (hdst : ops.all (fun o => dstOk nt o.dst) = true) (hp : ops[p]? = some ⟨pdst, .call c, ty, pos, after, none⟩)
    (h1 : Pan P ops k h p f args 0 ops tm) (hcb : callable P f = true)
    (hcalls : ∀ tm1 : Nat → AV, (∀ t, (ops.all fun o => o.dst != some t) = true → tm1 t = tm t) → ∀ nx, k + ops.length ≤ nx → aCalls P f args h nx (fun e h' k' => ∃ v, e = .pan v ∧ Q (.pan v) ⟨tm1, h', k', df⟩)) : aWp P nt (.region id ops.toArray true) Q ⟨tm, h, k, df⟩ := by
  obtain ⟨acs, h1⟩ := h1
  obtain ⟨q1, q2, q3⟩ := panA_get h1
  simp only [Nat.zero_add] at q2 q3
  exact aWp_drawPan hm hok hdst hp q1 q2 (q3 p _ _ rfl hp rfl) hcb fun tm1 ht nx hnx => hcalls tm1 (fun t hq => ht t fun o ho => by
    have := List.all_eq_true.1 hq o ho
    simpa using this) nx hnx
theorem W_drawPan {nt : Nat} {Q : AX → St → Prop} {id : Nat} {df : List ADef} {pdst : Option Nat} (p : Nat) (hf : aPan P f args v) (hm : P.follows .mixedOrders = true) (hok : drawOk ops = true) (hdst : ops.all (fun o => dstOk nt o.dst) = true) (hp : ops[p]? = some ⟨pdst, .call c, ty, pos, after, none⟩)
    (h1 : Pan P ops k h p f args 0 ops tm) (hcb : callable P f = true)
    (hq : ∀ tm1 : Nat → AV, (∀ t, (ops.all fun o => o.dst != some t) = true → tm1 t = tm t) → ∀ k', k + ops.length ≤ k' → Q (.pan v) ⟨tm1, h, k', df⟩) : aWp P nt (.region id ops.toArray true) Q ⟨tm, h, k, df⟩ :=
  W_drawPanR p hm hok hdst hp h1 hcb fun tm1 ht nx hnx => aCalls_mono (hf h nx) fun e h' k' ⟨e1, e2, e3⟩ => ⟨v, e1, by subst e2; exact hq tm1 ht k' (by omega)⟩
end
section
variable {nt : Nat} {Q : AX → St → Prop} {ops : Array Oper} {rest : List Oper} {tm : Nat → AV} {h : AHeap} {k : Nat} {df : List ADef} {ty : TypeId} {pos : String} {after : Array Edge} {d : Nat} {v : AV} {guard : Option (Nat × Bool)} {c : Call} {f : FuncId} {args : List AV}
/-- A call that panics. -/
theorem p_ (hf : aPan P f args v) (hr : ∀ k', k ≤ k' → Q (.pan v) ⟨tm, h, k', df⟩) (h0 : c.callee = .value (.func f) := by rfl) (hg : guardA ops tm guard = some true := by first | rfl | (simp (disch := first | rfl | decide | omega | assumption | (simp only [LL]; omega)) only [WS, NB, WY, FX.out]; first | done | rfl)) (hd : decide (d < nt) = true := by rfl) (ha : calleeA tm c = some (f, args) := by first | rfl | (simp (disch := first | rfl | decide | omega | assumption | (simp only [LL]; omega)) only [WS, NB, WY, FX.out]; first | done | rfl)) (hc : callable P f = true := by simp only [WS]) :
    aOps P nt ops (⟨some d, .call c, ty, pos, after, guard⟩ :: rest) Q ⟨tm, h, k, df⟩ := aOps_call hg hd rfl ha hc (hf h k) (fun a h' k' ⟨e1, _⟩ => by cases e1) (fun a h' k' ⟨e1, e2, e3⟩ => by cases e1; subst e2; exact hr k' e3)
end
end Go.Proofs.YtjidgdfdeckofaaDoor.AE
