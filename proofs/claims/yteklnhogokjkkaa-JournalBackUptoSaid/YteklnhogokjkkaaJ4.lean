/- Layer 15: Decode. -/
import Derived.Test.YteklnhogokjkkaaJ2
import Derived.Test.YteklnhogokjkkaaJ3
namespace Go.Proofs.Yteklnhogokjkkaa.AE
open Go Go.RowKit Go.Proofs Go.Proofs.Yteklnhogokjkkaa
set_option linter.unusedVariables false
set_option linter.unusedSimpArgs false
set_option maxRecDepth 100000
set_option maxHeartbeats 8000000
theorem dec1_idle (o n e : Nat) (h : AHeap) (nx : Nat) : aCallsD Try.prog 31 [.ptr o 0 0, .ptr n 0 0, .ptr e 0 0] .idle h nx .idle (fun h' k' => h' = h ∧ nx ≤ k') := by
  refine aCallsD_body Try.func31 rfl rfl (by simp [Try.ntmps31]) ?_
  rw [Try.ntmps31]
  refine S_seq ?_
  refine S_region ?_
  refine S_rec_idle rfl ?_
  refine S_assert_nil rfl (by rw [Try.underlying29]; exact ⟨rfl, fun ms q => by cases q⟩) (z := .int .i64 0) (fun w => by rfl) rfl ?_
  have FX := Fx0
  repeat refine S_val (by (have FX := Fx0; exact cl_)) (Nat.le_refl _) rfl ?_
  refine S_nil ?_
  refine S_of ?_
  have FX := Fx0
  repeat (first | refine v_ ?_ | refine u_ ?_ | refine nl_ ?_ | (refine nz_ ?_; first | (show aWp _ _ _ _ _) | skip) | refine sq_ ?_ | refine rg_ ?_ | refine k_ ?_ | refine ct_ ?_ | refine cf_ ?_ | refine bk_ ?_ | refine sc_ ?_ | (refine sk_ ?_; first | (show aWp _ _ _ _ _) | skip) | (refine ex_ ?_; first | (show aWp _ _ _ _ _) | skip) | refine rt_ ?_)
  exact ⟨rfl, rfl, ⟨_, rfl⟩, rfl, Nat.le_refl _⟩
theorem dec1_pan (o n e : Nat) (x : Int) (h : AHeap) (nx : Nat) (a : List AV) (b c : AV) (hne : o ≠ n ∧ o ≠ e ∧ n ≠ e) (ho : h o = some ⟨4, [a]⟩) (hal : a.length = 4) (hn : h n = some ⟨1, [[b]]⟩) (he : h e = some ⟨1, [[c]]⟩) :
    aCallsD Try.prog 31 [.ptr o 0 0, .ptr n 0 0, .ptr e 0 0] (.pan (.iface 29 (.int .i64 x)) false) h nx (.pan (.iface 29 (.int .i64 x)) true) (fun h' k' => h' = upd (upd (upd h o (some ⟨4, [[.int .i64 0, .int .i64 0, .int .i64 0, .zs]]⟩)) n (some ⟨1, [[.int .i64 0]]⟩)) e (some ⟨1, [[.int .i64 x]]⟩) ∧ nx ≤ k') := by
  obtain ⟨h1, h2, h3⟩ := hne
  obtain ⟨a0, a1, a2, a3, rfl⟩ : ∃ a0 a1 a2 a3, a = [a0, a1, a2, a3] := by
    match a, hal with
    | [a0, a1, a2, a3], _ => exact ⟨a0, a1, a2, a3, rfl⟩
  refine aCallsD_body Try.func31 rfl rfl (by simp [Try.ntmps31]) ?_
  rw [Try.ntmps31]
  refine S_seq ?_
  refine S_region ?_
  refine S_rec_pan rfl ?_
  refine S_assert_hit rfl (by rw [Try.underlying29]; exact ⟨rfl, fun ms q => by cases q⟩) rfl ?_
  have FX := Fx0
  repeat refine S_val (by (have FX := Fx0; exact cl_)) (Nat.le_refl _) rfl ?_
  refine S_nil ?_
  refine S_of ?_
  have FX := Fx.mk (And.intro @ho <| And.intro @hn <| @he)
  repeat (first | refine v_ ?_ | refine u_ ?_ | refine nl_ ?_ | (refine nz_ ?_; first | (show aWp _ _ _ _ _) | skip) | refine sq_ ?_ | refine rg_ ?_ | refine k_ ?_ | refine ct_ ?_ | refine cf_ ?_ | refine bk_ ?_ | refine sc_ ?_ | (refine sk_ ?_; first | (show aWp _ _ _ _ _) | skip) | (refine ex_ ?_; first | (show aWp _ _ _ _ _) | skip) | refine rt_ ?_)
  exact ⟨rfl, rfl, ⟨_, rfl⟩, rfl, Nat.le_refl _⟩
/-- A closure is put off. -/
theorem dfr0_ {P : Program} {nt : Nat} {Q : AX → St → Prop} {ops : Array Oper} {rest : List Oper} {tm : Nat → AV} {h : AHeap} {k : Nat} {df : List ADef} {ty : TypeId} {pos : String} {after : Array Edge} {x : Operand} {ts : Array TypeId} {f : Fn} {cap : List AV}
    (hr : aOps P nt ops rest Q ⟨tm, h, k, ⟨f, cap, []⟩ :: df⟩) (hx : evA tm x = .fn f [] cap := by first | rfl | (simp (disch := first | rfl | decide | omega | assumption | (simp only [LL]; omega)) only [WS, NB, WY, FX.out]; first | done | rfl)) : aOps P nt ops (⟨none, .defer ⟨.value x, #[], ts⟩, ty, pos, after, none⟩ :: rest) Q ⟨tm, h, k, df⟩ := dfr_ (first := []) (by show aOps P nt ops rest Q ⟨tm, h, k, ⟨f, cap, [] ++ (#[] : Array Operand).toList.map (evA tm)⟩ :: df⟩; simpa using hr) hx rfl
theorem strings_HasPrefix (a b : List Int) : aFun Try.prog 33 [.str a, .str b] (.bool (decide (b <+: a))) := by
  have e0 : aFun Try.prog 45 [.str a, .str b] (.bool (decide (b <+: a))) := by
    by_cases h : b.length ≤ a.length
    · have d1 : decide ((b.length : Int) ≤ (a.length : Int)) = true := decide_eq_true (by omega)
      have hb : (b.length : Int) ≤ (a.length : Int) := by omega
      have e2 : decide (a.take b.length = b) = decide (b <+: a) := by
        refine decide_eq_decide.2 ?_
        rw [List.prefix_iff_eq_take]
        exact ⟨Eq.symm, Eq.symm⟩
      refine aFun_body Try.func45 rfl rfl (by simp [Try.ntmps45]) fun hreal h nx hfresh => ?_
      rw [Try.ntmps45]
      have FX := Fx.mk (And.intro @d1 <| And.intro @hb <| @e2)
      repeat (first | refine v_ ?_ | refine u_ ?_ | refine nl_ ?_ | (refine nz_ ?_; first | (show aWp _ _ _ _ _) | skip) | refine sq_ ?_ | refine rg_ ?_ | refine k_ ?_ | refine ct_ ?_ | refine cf_ ?_ | refine bk_ ?_ | refine sc_ ?_ | (refine sk_ ?_; first | (show aWp _ _ _ _ _) | skip) | (refine ex_ ?_; first | (show aWp _ _ _ _ _) | skip) | refine rt_ ?_)
      (have FX := Fx0; exact end_ Try.results45)
    · have d1 : decide ((b.length : Int) ≤ (a.length : Int)) = false := decide_eq_false (by omega)
      have e : decide (b <+: a) = false := decide_eq_false fun q => h q.length_le
      rw [e]
      refine aFun_body Try.func45 rfl rfl (by simp [Try.ntmps45]) fun hreal h nx hfresh => ?_
      rw [Try.ntmps45]
      have FX := Fx.mk (@d1)
      repeat (first | refine v_ ?_ | refine u_ ?_ | refine nl_ ?_ | (refine nz_ ?_; first | (show aWp _ _ _ _ _) | skip) | refine sq_ ?_ | refine rg_ ?_ | refine k_ ?_ | refine ct_ ?_ | refine cf_ ?_ | refine bk_ ?_ | refine sc_ ?_ | (refine sk_ ?_; first | (show aWp _ _ _ _ _) | skip) | (refine ex_ ?_; first | (show aWp _ _ _ _ _) | skip) | refine rt_ ?_)
      (have FX := Fx0; exact end_ Try.results45)
  refine aFun_body Try.func33 rfl rfl (by simp [Try.ntmps33]) fun hreal h nx hfresh => ?_
  rw [Try.ntmps33]
  have FX := Fx0
  repeat (first | refine v_ ?_ | refine u_ ?_ | refine f_ (e0) fun kf hkf => ?_ | refine nl_ ?_ | (refine nz_ ?_; first | (show aWp _ _ _ _ _) | skip) | refine sq_ ?_ | refine rg_ ?_ | refine k_ ?_ | refine ct_ ?_ | refine cf_ ?_ | refine bk_ ?_ | refine sc_ ?_ | (refine sk_ ?_; first | (show aWp _ _ _ _ _) | skip) | (refine ex_ ?_; first | (show aWp _ _ _ _ _) | skip) | refine rt_ ?_)
  (have FX := Fx0; exact end_ Try.results33)
theorem bytes_EqualJ (a b : List Int) : aFun Try.prog 36 [.sl (numB .u8 a), .sl (numB .u8 b)] (.bool (decide (a = b))) := by
  refine aFun_body Try.func36 rfl rfl (by simp [Try.ntmps36]) fun hreal h nx hfresh => ?_
  rw [Try.ntmps36]
  have FX := Fx0
  repeat (first | refine v_ ?_ | refine u_ ?_ | refine nl_ ?_ | (refine nz_ ?_; first | (show aWp _ _ _ _ _) | skip) | refine sq_ ?_ | refine rg_ ?_ | refine k_ ?_ | refine ct_ ?_ | refine cf_ ?_ | refine bk_ ?_ | refine sc_ ?_ | (refine sk_ ?_; first | (show aWp _ _ _ _ _) | skip) | (refine ex_ ?_; first | (show aWp _ _ _ _ _) | skip) | refine rt_ ?_)
  (have FX := Fx0; exact end_ Try.results36)
/-- A function that puts off one call and leaves memory as it was. -/
theorem aFun_defer {P : Program} {nt : Nat} {f : FuncId} {fn : Func} {c : Code} {args : List AV} {v : AV} (hf : P.funcs[f]? = some fn) (hb : fn.body = some c) (hn : fn.ntmps = nt) (ha : args.length ≤ nt)
    (hw : (∀ a ∈ args, Real a) → ∀ h nx, (∀ n, nx ≤ n → h n = none) → aWp P nt c (bodyD P fn (fun e h' k' => ∃ a, e = .ret a ∧ frzV nx h' a = some v ∧ (∀ n, n < nx → h' n = h n) ∧ nx ≤ k')) ⟨tm0 args, h, nx, []⟩) : aFun P f args v := fun h nx => aCalls_real fun hreal hfresh => by
  have h1 : aCalls P f args h nx (fun e h' k' => ∃ a, e = .ret a ∧ frzV nx h' a = some v ∧ (∀ n, n < nx → h' n = h n) ∧ nx ≤ k') := aCalls_defer hf hb hn ha (hw hreal h nx hfresh)
  intro B w0 O σ w vs hs hx hk hv
  refine (h1 B w0 O σ w vs hs hx hk hv).mono ?_
  rintro e w' ⟨ae, h', nx', σ', g1, g2, g3, g4, a, rfl, g5, g6, g7⟩
  cases g1 with
  | ret _ u hu =>
  obtain ⟨d1, d2⟩ := g2.drop (fun m => decide (nx ≤ m))
  have hfz := frzV_ok g2 g5 hu
  have he : (fun m => if decide (nx ≤ m) = true then none else h' m) = h := by
    funext m
    by_cases hm : nx ≤ m
    · simp [hm, hfresh m hm]
    · simp [hm, g6 m (by omega)]
  rw [he] at d1 d2 hfz
  exact ⟨.ret v, h, nx', σ', .ret v u hfz, d1, g3, g4.trans d2 (Nat.le_refl _) (fun _ _ => rfl), rfl, rfl, g7⟩
theorem aCallsD_mono {P : Program} {f : FuncId} {args : List AV} {m m' : SM} {h : AHeap} {nx : Nat} {R R' : AHeap → Nat → Prop} (hc : aCallsD P f args m h nx m' R) (hR : ∀ h' k', R h' k' → R' h' k') : aCallsD P f args m h nx m' R' := fun B w0 O σ w vs u q1 q2 q3 q4 q5 => by
  refine (hc B w0 O σ w vs u q1 q2 q3 q4 q5).mono ?_
  rintro e u' w' ⟨h1, h', nx', σ', h2, h3, h4, h5, h6⟩
  exact ⟨h1, h', nx', σ', h2, h3, h4, h5, hR _ _ h6⟩
theorem runP_le {b : List Int} : ∀ {n : Nat} {l : List Pg} {a : Nat}, runP b n = .ok (l, a) → a ≤ 22 + 67 * n
  | 0, l, a, h => by cases h; exact Nat.le_refl _
  | n + 1, l, a, h => by
    rw [runP] at h
    split at h
    · cases h
    rename_i l0 a0 h0
    split at h
    · cases h
    rename_i p a1 h1
    cases h
    have := runP_le h0
    unfold pageD at h1
    split at h1
    · cases h1
    split at h1
    · cases h1
    split at h1
    · cases h1
    cases h1
    omega
/-- Decode's end by a panic. -/
theorem dec_pan {h h1 : AHeap} {nx : Nat} {tm : Nat → AV} {k : Nat} {v : AV} {x : Int} {a : List AV} {b c : AV} (hv : v = .tup [.agg [.int .i64 0, .int .i64 0, .int .i64 0, .sl []], .int .i64 0, .int .i64 x])
    (t2 : tm 2 = .ptr nx 0 0) (t3 : tm 3 = .ptr (nx + 1) 0 0) (t4 : tm 4 = .ptr (nx + 2) 0 0) (ho : h1 nx = some ⟨4, [a]⟩) (hal : a.length = 4) (hn : h1 (nx + 1) = some ⟨1, [[b]]⟩) (he : h1 (nx + 2) = some ⟨1, [[c]]⟩) (hh : ∀ n, n < nx → h1 n = h n) (hk : nx ≤ k) :
    bodyD Try.prog Try.f13 (fun e h' k' => ∃ a, e = .ret a ∧ frzV nx h' a = some v ∧ (∀ n, n < nx → h' n = h n) ∧ nx ≤ k') (.pan (.iface 29 (.int .i64 x))) ⟨tm, h1, k, [⟨.func 31, [.ptr nx 0 0, .ptr (nx + 1) 0 0, .ptr (nx + 2) 0 0], []⟩]⟩ := by
  subst hv
  refine .inr ⟨_, _, rfl, by simp only [WS], aCallsD_mono (dec1_pan nx (nx + 1) (nx + 2) x h1 k a b c ⟨by omega, by omega, by omega⟩ ho hal hn he) ?_⟩
  rintro h' k' ⟨rfl, hk'⟩
  refine ⟨.tup [.agg [.int .i64 0, .int .i64 0, .int .i64 0, .zs], .int .i64 0, .int .i64 x], ?_, _, rfl, ?_, fun n hn => ?_, by omega⟩
  · rw [Try.results13]
    (have FX := Fx.mk (And.intro @t2 <| And.intro @t3 <| @t4); exact cr_)
  · rfl
  · simp (disch := first | assumption | omega) only [upd_same, upd_ne, hh]
/-- Decode's end without one. -/
theorem dec_ret {h h1 : AHeap} {nx : Nat} {tm : Nat → AV} {k : Nat} {v : AV} {n : Int} {a0 a1 a2 a3 : AV}
    (t2 : tm 2 = .ptr nx 0 0) (t3 : tm 3 = .ptr (nx + 1) 0 0) (t4 : tm 4 = .ptr (nx + 2) 0 0) (ho : h1 nx = some ⟨4, [[a0, a1, a2, a3]]⟩) (hn : h1 (nx + 1) = some ⟨1, [[.int .i64 n]]⟩) (he : h1 (nx + 2) = some ⟨1, [[.int .i64 0]]⟩)
    (hv : frzV nx h1 (.tup [.agg [a0, a1, a2, a3], .int .i64 n, .int .i64 0]) = some v) (hh : ∀ n, n < nx → h1 n = h n) (hk : nx ≤ k) :
    bodyD Try.prog Try.f13 (fun e h' k' => ∃ a, e = .ret a ∧ frzV nx h' a = some v ∧ (∀ n, n < nx → h' n = h n) ∧ nx ≤ k') .ret ⟨tm, h1, k, [⟨.func 31, [.ptr nx 0 0, .ptr (nx + 1) 0 0, .ptr (nx + 2) 0 0], []⟩]⟩ := by
  refine .inr ⟨_, _, rfl, by simp only [WS], aCallsD_mono (dec1_idle nx (nx + 1) (nx + 2) h1 k) ?_⟩
  rintro h' k' ⟨rfl, hk'⟩
  refine ⟨.tup [.agg [a0, a1, a2, a3], .int .i64 n, .int .i64 0], ?_, _, rfl, hv, hh, by omega⟩
  rw [Try.results13]
  (have FX := Fx.mk (And.intro @t2 <| And.intro @t3 <| And.intro @t4 <| And.intro @ho <| And.intro @hn <| @he); exact cr_)
end Go.Proofs.Yteklnhogokjkkaa.AE
