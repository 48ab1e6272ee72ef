/- Texts U11, U12, U13. -/
import Derived.Test.YtjidgdfdeckofaaDoorV23
import Derived.Test.YtjidgdfdeckofaaDoorU8
import Derived.Test.YtjidgdfdeckofaaDoorV12
import Derived.Test.YtjidgdfdeckofaaDoorV19
/- Layer 16: run. -/
namespace Go.Proofs.YtjidgdfdeckofaaDoor.AE
open Go Go.RowKit Go.Proofs Go.Proofs.YtjidgdfdeckofaaDoor
set_option linter.unusedVariables false
set_option linter.unusedSimpArgs false
set_option maxRecDepth 100000
set_option maxHeartbeats 8000000
def zeroC : List AV := [.zs, .zs, .int .i64 0, .int .i64 0, .int .i64 0, .int .i64 0, .int .i64 0, .int .i64 0, .int .i64 0, .int .i64 0, .zs, .int .i64 0, .int .i64 0, .int .i64 0, .int .i64 0]
theorem run1_idle (o n e : Nat) (h : AHeap) (nx : Nat) : aCallsD Tryd.prog 55 [.ptr o 0 0, .ptr n 0 0, .ptr e 0 0] .idle h nx .idle (fun h' k' => h' = h ∧ nx ≤ k') := by
  refine aCallsD_body Tryd.func55 rfl rfl (by simp [Tryd.ntmps55]) ?_
  rw [Tryd.ntmps55]
  refine S_seq ?_
  refine S_region ?_
  refine S_rec_idle rfl ?_
  refine S_assert_nil rfl (by rw [Tryd.underlying31]; exact ⟨rfl, fun ms q => by cases q⟩) (z := .int .i64 0) (fun w => by rfl) rfl ?_
  have FX := Fx0
  repeat refine S_val (by (have FX := Fx0; exact cl_)) (Nat.le_refl _) rfl ?_
  refine S_nil ?_
  refine S_of ?_
  have FX := Fx0
  repeat (first | refine v_ ?_ | refine u_ ?_ | refine nl_ ?_ | (refine nz_ ?_; first | (show aWp _ _ _ _ _) | skip) | refine sq_ ?_ | refine rg_ ?_ | refine k_ ?_ | refine ct_ ?_ | refine cf_ ?_ | refine bk_ ?_ | refine sc_ ?_ | (refine sk_ ?_; first | (show aWp _ _ _ _ _) | skip) | (refine ex_ ?_; first | (show aWp _ _ _ _ _) | skip) | refine rt_ ?_)
  exact ⟨rfl, rfl, ⟨_, rfl⟩, rfl, Nat.le_refl _⟩
theorem run1_pan (o n e : Nat) (x : Int) (h : AHeap) (nx : Nat) (a : List AV) (b c : AV) (hne : o ≠ n ∧ o ≠ e ∧ n ≠ e) (ho : h o = some ⟨15, [a]⟩) (hal : a.length = 15) (hn : h n = some ⟨1, [[b]]⟩) (he : h e = some ⟨1, [[c]]⟩) :
    aCallsD Tryd.prog 55 [.ptr o 0 0, .ptr n 0 0, .ptr e 0 0] (.pan (.iface 31 (.int .i64 x)) false) h nx (.pan (.iface 31 (.int .i64 x)) true) (fun h' k' => h' = upd (upd (upd h o (some ⟨15, [zeroC]⟩)) n (some ⟨1, [[.zs]]⟩)) e (some ⟨1, [[.int .i64 x]]⟩) ∧ nx ≤ k') := by
  obtain ⟨h1, h2, h3⟩ := hne
  unfold zeroC
  obtain ⟨a0, a1, a2, a3, a4, a5, a6, a7, a8, a9, a10, a11, a12, a13, a14, rfl⟩ : ∃ a0 a1 a2 a3 a4 a5 a6 a7 a8 a9 a10 a11 a12 a13 a14, a = [a0, a1, a2, a3, a4, a5, a6, a7, a8, a9, a10, a11, a12, a13, a14] := by
    match a, hal with
    | [a0, a1, a2, a3, a4, a5, a6, a7, a8, a9, a10, a11, a12, a13, a14], _ => exact ⟨a0, a1, a2, a3, a4, a5, a6, a7, a8, a9, a10, a11, a12, a13, a14, rfl⟩
  refine aCallsD_body Tryd.func55 rfl rfl (by simp [Tryd.ntmps55]) ?_
  rw [Tryd.ntmps55]
  refine S_seq ?_
  refine S_region ?_
  refine S_rec_pan rfl ?_
  refine S_assert_hit rfl (by rw [Tryd.underlying31]; exact ⟨rfl, fun ms q => by cases q⟩) rfl ?_
  have FX := Fx0
  repeat refine S_val (by (have FX := Fx0; exact cl_)) (Nat.le_refl _) rfl ?_
  refine S_nil ?_
  refine S_of ?_
  have FX := Fx.mk (And.intro @ho <| And.intro @hn <| @he)
  repeat (first | refine v_ ?_ | refine u_ ?_ | refine nl_ ?_ | (refine nz_ ?_; first | (show aWp _ _ _ _ _) | skip) | refine sq_ ?_ | refine rg_ ?_ | refine k_ ?_ | refine ct_ ?_ | refine cf_ ?_ | refine bk_ ?_ | refine sc_ ?_ | (refine sk_ ?_; first | (show aWp _ _ _ _ _) | skip) | (refine ex_ ?_; first | (show aWp _ _ _ _ _) | skip) | refine rt_ ?_)
  exact ⟨rfl, rfl, ⟨_, rfl⟩, rfl, Nat.le_refl _⟩
theorem aEff_defer {P : Program} {nt : Nat} {f : FuncId} {fn : Func} {c : Code} {args : List AV} {v : AV} {h : AHeap} {nx : Nat} (hf : P.funcs[f]? = some fn) (hb : fn.body = some c) (hn : fn.ntmps = nt) (ha : args.length ≤ nt)
    (hw : (∀ a ∈ args, Real a) → (∀ n, nx ≤ n → h n = none) → aWp P nt c (bodyD P fn (fun e h' k' => ∃ a, e = .ret a ∧ frzV nx h' a = some v ∧ (∀ n, n < nx → h' n = h n) ∧ nx ≤ k')) ⟨tm0 args, h, nx, []⟩) : aEff P f args h nx v h := aCalls_real fun hreal hfresh => by
  have h1 : aCalls P f args h nx (fun e h' k' => ∃ a, e = .ret a ∧ frzV nx h' a = some v ∧ (∀ n, n < nx → h' n = h n) ∧ nx ≤ k') := aCalls_defer hf hb hn ha (hw hreal hfresh)
  intro B w0 O σ w vs hs hx hk hv
  refine (h1 B w0 O σ w vs hs hx hk hv).mono ?_
  rintro e w' ⟨ae, h', nx', σ', g1, g2, g3, g4, a, rfl, g5, g6, g7⟩
  cases g1 with
  | ret _ u hu =>
  obtain ⟨d1, d2⟩ := g2.drop (fun m => decide (nx ≤ m))
  have hfz := frzV_ok g2 g5 hu
  have he : (fun m => if decide (nx ≤ m) = true then none else h' m) = h := by
    funext m
    by_cases hm : nx ≤ m
    · simp [hm, hfresh m hm]
    · simp [hm, g6 m (by omega)]
  rw [he] at d1 d2 hfz
  exact ⟨.ret v, h, nx', σ', .ret v u hfz, d1, g3, g4.trans d2 (Nat.le_refl _) (fun _ _ => rfl), rfl, rfl, g7⟩
open Classical in
noncomputable def runV (s : PgS) (r : Except Int (PgS × List Act3)) : AV := if s.ok then match r with
    | .ok (s', L') => .tup [s'.av, .sl (actsB L'), .int .i64 0]
    | .error e => .tup [PgS.zero.av, .sl [], .int .i64 e]
  else .tup [PgS.zero.av, .sl [], .int .i64 9]
theorem pager_run (s : PgS) (g : FuncId) (cap : List AV) (r : Except Int (PgS × List Act3)) {h : AHeap} {nx : Nat} (hcb : callable Tryd.prog g = true)
    (hg : s.ok → ∀ (H : AHeap) (k m w a : Nat), nx ≤ m → nx ≤ w → nx ≤ a → (∀ q, q < nx → H q = h q) → cAt H m w a s [] → aCalls Tryd.prog g (.ptr m 0 0 :: cap) H k (metR H k m w a r)) :
    aEff Tryd.prog 31 [s.av, .fn (.func g) [] cap] h nx (runV s r) h := by
  have ck := pager_Check s
  refine aEff_defer Tryd.func31 rfl rfl (by simp [Tryd.ntmps31]) fun hreal hfresh => ?_
  rw [Tryd.ntmps31]
  by_cases hok : s.ok
  case neg =>
    rw [PgS.chk_bad hok] at ck
    have d9 : decide ((9 : Int) = 0) = false := rfl
    have hv : runV s r = .tup [PgS.zero.av, .sl [], .int .i64 9] := if_neg hok
    rw [PgS.av_eq] at ck ⊢
    have FX := Fx.mk (And.intro @d9 <| @Bool.not_false)
    repeat (first | refine v_ ?_ | refine u_ ?_ | refine f_ (ck) fun kf hkf => ?_ | refine nl_ ?_ | (refine nz_ ?_; first | (show aWp _ _ _ _ _) | skip) | refine sq_ ?_ | refine rg_ ?_ | refine k_ ?_ | refine ct_ ?_ | refine cf_ ?_ | refine bk_ ?_ | refine sc_ ?_ | (refine sk_ ?_; first | (show aWp _ _ _ _ _) | skip) | (refine ex_ ?_; first | (show aWp _ _ _ _ _) | skip) | refine rt_ ?_)
    refine .inl ⟨rfl, .tup [.agg zeroC, .zs, .int .i64 9], ?_, _, rfl, ?_, fun n hn => ?_, by first | omega | (simp only; omega)⟩
    · rw [Tryd.results31]
      unfold zeroC
      (have FX := Fx0; exact cr_)
    · rw [hv]; rfl
    · simp (disch := omega) only [upd_ne]
  rw [PgS.chk_ok hok] at ck
  have d0 : decide ((0 : Int) = 0) = true := rfl
  obtain ⟨o1, o2, o3, o4, o5, o6, o7, o8, o9⟩ := id hok
  obtain ⟨u1, u2, u3, u4, u5, u6, u7⟩ := s.sup.ok_iff.1 o2
  have cl := pager_Clone s o1 (by omega) (fun b hb => by rcases o3 b hb with q | q <;> omega)
  rw [PgS.av_eq] at ck cl ⊢
  unfold PgS.cells at cl
  have i2 := actsB_len s.W
  have FX := Fx.mk (And.intro @d0 <| And.intro @Bool.not_true <| @i2)
  repeat (first | refine dfr0_ ?_ | refine v_ ?_ | refine u_ ?_ | refine f_ (ck) fun kf hkf => ?_ | refine om_ (cl) fun mf kf hmf hkf => ?_ | refine nl_ ?_ | (refine nz_ ?_; first | (show aWp _ _ _ _ _) | skip) | refine sq_ ?_ | refine rg_ ?_ | refine k_ ?_ | refine ct_ ?_ | refine cf_ ?_ | refine bk_ ?_ | refine sc_ ?_ | (refine sk_ ?_; first | (show aWp _ _ _ _ _) | skip) | (refine ex_ ?_; first | (show aWp _ _ _ _ _) | skip) | refine rt_ ?_)
  refine aOps_new 3 ?_
  refine aOps_sub (Sub.zsH (m := kf) (j := 15) (z := kf + 1) (sz' := 3) (by (have FX := Fx0; exact cl_)) rfl (by (have FX := Fx0; exact cl_))) ?_
  refine RP_ (hg hok _ _ kf mf (kf + 1) (by omega) (by omega) (by omega) (fun q hq => by simp (disch := omega) only [upd_ne]) ⟨by unfold callB; dsimp only [List.set, List.length_nil]; (have FX := Fx0; exact cl_), by (have FX := Fx0; exact cl_), by show _ = some (Blk.mk 3 []); (have FX := Fx0; exact cl_), by omega, by omega, by omega⟩) ?_ ?_ (hc := hcb)
  · rintro av H k2 ⟨r1, r2, r3⟩
    cases r with
    | error e => cases r3
    | ok p =>
    obtain ⟨s', L'⟩ := p
    obtain ⟨r3, w', a', r4, r5, r6, r7, hc⟩ := r3
    cases r3
    have dm := hc.hm
    unfold callB at dm
    have b1 : H (nx + 1) = some ⟨15, [[.zs, .zs, .int .i64 0, .int .i64 0, .int .i64 0, .int .i64 0, .int .i64 0, .int .i64 0, .int .i64 0, .int .i64 0, .zs, .int .i64 0, .int .i64 0, .int .i64 0, .int .i64 0]]⟩ := by
      rw [r2 (nx + 1) (by first | omega | (simp only; omega)) (by omega) (by omega) (by omega)]
      (have FX := Fx0; exact cl_)
    have b2 : H (nx + 1 + 1) = some ⟨1, [[.zs]]⟩ := by
      rw [r2 (nx + 1 + 1) (by first | omega | (simp only; omega)) (by omega) (by omega) (by omega)]
      (have FX := Fx0; exact cl_)
    have b3 : H (nx + 1 + 1 + 1) = some ⟨1, [[.int .i64 0]]⟩ := by
      rw [r2 (nx + 1 + 1 + 1) (by first | omega | (simp only; omega)) (by omega) (by omega) (by omega)]
      (have FX := Fx0; exact cl_)
    have b0 : ∀ q, q < nx → H q = h q := fun q hq => by
      rw [r2 q (by first | omega | (simp only; omega)) (by omega) (by omega) (by omega)]
      simp (disch := omega) only [upd_ne]
    show aOps _ _ _ _ _ _
    have FX := Fx0
    repeat (first | refine v_ ?_ | refine u_ ?_ | refine nl_ ?_ | (refine nz_ ?_; first | (show aWp _ _ _ _ _) | skip) | refine sq_ ?_ | refine rg_ ?_ | refine k_ ?_ | refine ct_ ?_ | refine cf_ ?_ | refine bk_ ?_ | refine sc_ ?_ | (refine sk_ ?_; first | (show aWp _ _ _ _ _) | skip) | (refine ex_ ?_; first | (show aWp _ _ _ _ _) | skip) | refine rt_ ?_)
    have FX := Fx.mk (And.intro @NL <| And.intro @dm <| And.intro @b1 <| And.intro @b2 <| @b3)
    refine W_draw mixed rfl rfl ?_
    repeat (first | refine dq_ ?_ | refine dr_ [kf] ?_ | refine dm_ [nx + 1, nx + 1 + 1, nx + 1 + 1 + 1] ?_ | refine da_ [nx + 1, nx + 1 + 1, nx + 1 + 1 + 1] ?_ | refine ds_ [kf] ?_ | refine ds_ [nx + 1, nx + 1 + 1, nx + 1 + 1 + 1] ?_ | refine dw_ [kf] ?_ | refine dk_ ?_ | refine dn_ ?_)
    refine fun kd hkd => ?_
    simp only [List.length_cons, List.length_nil] at hkd
    first | (show aWp _ _ _ _ _) | skip
    have FX := Fx0
    repeat (first | refine v_ ?_ | refine u_ ?_ | refine nl_ ?_ | (refine nz_ ?_; first | (show aWp _ _ _ _ _) | skip) | refine sq_ ?_ | refine rg_ ?_ | refine k_ ?_ | refine ct_ ?_ | refine cf_ ?_ | refine bk_ ?_ | refine sc_ ?_ | (refine sk_ ?_; first | (show aWp _ _ _ _ _) | skip) | (refine ex_ ?_; first | (show aWp _ _ _ _ _) | skip) | refine rt_ ?_)
    refine .inr ⟨_, _, rfl, by simp only [WS], aCallsD_mono (run1_idle _ _ _ _ _) ?_⟩
    rintro h3 k3 ⟨rfl, hk3⟩
    refine ⟨.tup [.agg [.sl (secB s'.S), .hs w' 0 s'.W.length, .int .i64 s'.cap, .int .i64 s'.sup.e, .int .i64 s'.sup.v, .int .i64 s'.sup.j, .int .i64 s'.sup.p, .int .i64 s'.sup.d, .int .i64 s'.sup.s, .int .i64 s'.sup.r, .sl (secB s'.pages), .int .i64 s'.root, .int .i64 s'.room, .int .i64 s'.seq, .int .i64 s'.tail], .hs a' 0 L'.length, .int .i64 0], ?_, _, rfl, ?_, fun q hq => ?_, by (try simp only at hk3 r1); omega⟩
    · rw [Tryd.results31]
      (have FX := Fx0; exact cr_)
    · rw [show runV s (.ok (s', L')) = .tup [s'.av, .sl (actsB L'), .int .i64 0] from by unfold runV; rw [if_pos hok], PgS.av_eq]
      have hw9 := hc.hw
      have ha9 := hc.ha
      have hw8 : nx ≤ w' := by (try simp only at r4); omega
      have ha8 : nx ≤ a' := by (try simp only at r5); omega
      have e1 := actsB_len s'.W
      have e2 := actsB_len L'
      have t1 : (actsB s'.W).take s'.W.length = actsB s'.W := take_len _ _ e1
      have t2 : (actsB L').take L'.length = actsB L' := take_len _ _ e2
      have x1 : w' ≠ nx + 1 := by (try simp only at r4); omega
      have x2 : w' ≠ nx + 1 + 1 := by (try simp only at r4); omega
      have x3 : w' ≠ nx + 1 + 1 + 1 := by (try simp only at r4); omega
      have x4 : a' ≠ nx + 1 := by (try simp only at r5); omega
      have x5 : a' ≠ nx + 1 + 1 := by (try simp only at r5); omega
      have x6 : a' ≠ nx + 1 + 1 + 1 := by (try simp only at r5); omega
      first | rfl | (simp (disch := first | rfl | decide | omega | assumption | (simp only [LL]; omega)) only [WS, NB, WY, FY, hw9, ha9, e1, e2, t1, t2]; first | done | rfl)
    · simp (disch := omega) only [upd_ne]
      exact b0 q hq
  · rintro av H k2 ⟨r1, r2, r3⟩
    cases r with
    | ok p => cases r3.1
    | error e =>
      cases r3
      have b1 : H (nx + 1) = some ⟨15, [[.zs, .zs, .int .i64 0, .int .i64 0, .int .i64 0, .int .i64 0, .int .i64 0, .int .i64 0, .int .i64 0, .int .i64 0, .zs, .int .i64 0, .int .i64 0, .int .i64 0, .int .i64 0]]⟩ := by
        rw [r2 (nx + 1) (by first | omega | (simp only; omega)) (by omega) (by omega) (by omega)]
        (have FX := Fx0; exact cl_)
      have b2 : H (nx + 1 + 1) = some ⟨1, [[.zs]]⟩ := by
        rw [r2 (nx + 1 + 1) (by first | omega | (simp only; omega)) (by omega) (by omega) (by omega)]
        (have FX := Fx0; exact cl_)
      have b3 : H (nx + 1 + 1 + 1) = some ⟨1, [[.int .i64 0]]⟩ := by
        rw [r2 (nx + 1 + 1 + 1) (by first | omega | (simp only; omega)) (by omega) (by omega) (by omega)]
        (have FX := Fx0; exact cl_)
      have b0 : ∀ q, q < nx → H q = h q := fun q hq => by
        rw [r2 q (by first | omega | (simp only; omega)) (by omega) (by omega) (by omega)]
        simp (disch := omega) only [upd_ne]
      refine .inr ⟨_, _, rfl, by simp only [WS], aCallsD_mono (run1_pan (nx + 1) (nx + 1 + 1) (nx + 1 + 1 + 1) e _ _ _ _ _ ⟨by omega, by omega, by omega⟩ b1 rfl b2 b3) ?_⟩
      rintro h3 k3 ⟨rfl, hk3⟩
      refine ⟨.tup [.agg zeroC, .zs, .int .i64 e], ?_, _, rfl, ?_, fun q hq => ?_, by (try simp only at hk3 r1); omega⟩
      · rw [Tryd.results31]
        unfold zeroC
        (have FX := Fx0; exact cr_)
      · rw [show runV s (.error e) = .tup [PgS.zero.av, .sl [], .int .i64 e] from by unfold runV; rw [if_pos hok]]
        rfl
      · simp (disch := omega) only [upd_ne]
        exact b0 q hq
end Go.Proofs.YtjidgdfdeckofaaDoor.AE

/- Layer 16: Extend, Checkpoint, Read. -/
namespace Go.Proofs.YtjidgdfdeckofaaDoor.AE
open Go Go.RowKit Go.Proofs Go.Proofs.YtjidgdfdeckofaaDoor
set_option linter.unusedVariables false
set_option linter.unusedSimpArgs false
set_option maxRecDepth 100000
set_option maxHeartbeats 8000000
def extP (s : PgS) (L : List Act3) (room : Int) : Except Int (PgS × List Act3) :=
  if room < 0 ∨ 65536 < room then .error 4 else if s.size < s.sup.base + room then doP s L [(2, s.sup.base + room, [])] else .ok (s, L)
theorem base_bd {s : Sup} (h : s.ok) : 4 ≤ s.base ∧ s.base ≤ 4000 := by
  obtain ⟨_, _, h3, h4, _⟩ := s.ok_iff.1 h
  unfold Sup.base
  omega
theorem runV_form (s : PgS) (r : Except Int (PgS × List Act3)) : ∃ (t : PgS) (X : List Act3) (E : Int), runV s r = .tup [t.av, .sl (actsB X), .int .i64 E] := by
  unfold runV
  split
  · split
    · exact ⟨_, _, _, rfl⟩
    · exact ⟨_, [], _, rfl⟩
  · exact ⟨_, [], _, rfl⟩
end Go.Proofs.YtjidgdfdeckofaaDoor.AE

/- Layer 16 in plain words: a commit. No program in sight. -/
namespace Go.Proofs.YtjidgdfdeckofaaDoor.AE
open Go Go.RowKit Go.Proofs Go.Proofs.YtjidgdfdeckofaaDoor
open PgS
set_option linter.unusedVariables false
theorem waitP_write {s : PgS} {a : Act3} (h1 : a.1 = 1) (hW : s.W.length < 4096) (hr : 0 ≤ a.2.1 ∧ a.2.1 < s.size) (hd : a.2.2.length = 64) : waitP s a = .ok { s with W := s.W ++ [a] } := by
  unfold waitP
  rw [if_neg (by omega), if_neg (by omega), if_neg (by omega), if_neg (by omega)]
theorem size_snoc {s : PgS} {a : Act3} (h1 : a.1 ≠ 2) : PgS.size { s with W := s.W ++ [a] } = s.size := by
  show sizeH _ (s.W ++ [a]) = _
  rw [sizeH_snoc, if_neg h1]
  rfl
theorem doP_writes : ∀ (l : List Act3) (s : PgS) (L : List Act3), (∀ x ∈ l, x.1 = 1 ∧ (0 ≤ x.2.1 ∧ x.2.1 < s.size) ∧ x.2.2.length = 64) → s.W.length + l.length ≤ 4096 → doP s L l = .ok ({ s with W := s.W ++ l }, L ++ l)
  | [], s, L, _, _ => by simp [doP]
  | a :: l, s, L, h, hW => by
    obtain ⟨h1, h2, h3⟩ := h a (by simp)
    rw [List.length_cons] at hW
    have hd : do1 s L a = .ok ({ s with W := s.W ++ [a] }, L ++ [a]) := by
      unfold do1
      rw [if_neg (by omega), waitP_write h1 (by omega) h2 h3]
    rw [doP_cons_ok hd, doP_writes l _ _ (fun x hx => ?_) (by simp; omega)]
    · simp
    · rw [size_snoc (by omega)]
      exact h x (by simp [hx])
theorem do1_bar (s : PgS) (L : List Act3) : do1 s L barA = .ok (flushP s, L ++ [barA]) := rfl
theorem doP_bar (s : PgS) (L : List Act3) : doP s L [barA] = .ok (flushP s, L ++ [barA]) := by rw [doP_cons_ok (do1_bar s L)]; rfl
theorem do1_size {s s' : PgS} {L L' : List Act3} {a : Act3} (h : s.okHost) (ha : a.1 = 1 ∨ a.1 = 3) (hd : do1 s L a = .ok (s', L')) : s'.size = s.size := by
  unfold do1 at hd
  split at hd
  · cases hd; exact size_flush h
  · rename_i h3
    split at hd
    · cases hd
    · rename_i hw
      cases hd
      rw [(waitP_ok hw).1]
      exact size_snoc (by omega)
theorem doP_size : ∀ (l : List Act3) {s s' : PgS} {L L' : List Act3}, s.okHost → (∀ x ∈ l, goodA x ∧ (x.1 = 1 ∨ x.1 = 3)) → doP s L l = .ok (s', L') → s'.size = s.size
  | [], s, s', L, L', _, _, hd => by cases hd; rfl
  | a :: l, s, s', L, L', h, ha, hd => by
    cases h1 : do1 s L a with
    | error e => rw [doP_cons_err h1] at hd; cases hd
    | ok p =>
      obtain ⟨s1, L1⟩ := p
      rw [doP_cons_ok h1] at hd
      rw [doP_size l (do1_host h (ha a (by simp)).1 h1) (fun x hx => ha x (by simp [hx])) hd, do1_size h (ha a (by simp)).2 h1]
theorem ckA_all (s : PgS) : ∀ x ∈ ckA s, goodA x ∧ (x.1 = 1 ∨ x.1 = 3) := fun x hx => by
  unfold ckA at hx
  rcases List.mem_append.1 hx with q | q
  · obtain ⟨i, _, rfl⟩ := List.mem_map.1 q
    exact ⟨.inl rfl, .inl rfl⟩
  · rw [List.mem_singleton.1 q]
    exact ⟨.inr ⟨.inr rfl, rfl⟩, .inr rfl⟩
theorem ckB_all (s : PgS) : ∀ x ∈ ckB s, goodA x ∧ (x.1 = 1 ∨ x.1 = 3) := fun x hx => by
  simp only [ckB, List.mem_cons, List.not_mem_nil, or_false] at hx
  rcases hx with rfl | rfl
  · exact ⟨.inl rfl, .inl rfl⟩
  · exact ⟨.inr ⟨.inr rfl, rfl⟩, .inr rfl⟩
theorem doP_end_bar {s s' : PgS} {L L' : List Act3} {l : List Act3} (hd : doP s L (l ++ [barA]) = .ok (s', L')) : s'.W = [] := by
  rw [doP_append] at hd
  cases h1 : doP s L l with
  | error e => rw [h1] at hd; cases hd
  | ok p =>
    obtain ⟨s1, L1⟩ := p
    rw [h1] at hd
    dsimp only at hd
    rw [doP_bar] at hd
    cases hd
    rfl
/-- What a checkpoint leaves. -/
structure ckOk (s t : PgS) (L L' : List Act3) : Prop where
  w : t.W = []
  size : t.size = s.size
  host : t.okHost
  cap : t.cap = s.cap
  sup : t.sup = nextS s
  pages : t.pages = s.pages
  root : t.root = s.root
  room : t.room = s.room
  seq : t.seq = s.seq
  tail : t.tail = 0
  nok : (nextS s).ok
  acts : L' = L ++ ckA s ++ ckB s
theorem ckP_ok {s t : PgS} {L L' : List Act3} (h : s.okHost) (hd : ckP s L = .ok (t, L')) : ckOk s t L L' := by
  unfold ckP at hd
  cases h1 : doP s L (ckA s) with
  | error e => rw [h1] at hd; cases hd
  | ok p =>
    obtain ⟨s1, L1⟩ := p
    rw [h1] at hd
    dsimp only at hd
    split at hd
    · rename_i hn
      cases h2 : doP s1 L1 (ckB s) with
      | error e => rw [h2] at hd; cases hd
      | ok p =>
        obtain ⟨s2, L2⟩ := p
        rw [h2] at hd
        cases hd
        have o1 := doP_host _ h (fun x hx => (ckA_all s x hx).1) h1
        have o2 := doP_host _ o1 (fun x hx => (ckB_all s x hx).1) h2
        obtain ⟨⟨a1, a2, a3, a4, a5, a6, a7⟩, aL⟩ := doP_same _ h1
        obtain ⟨⟨b1, b2, b3, b4, b5, b6, b7⟩, bL⟩ := doP_same _ h2
        have z1 := doP_size _ h (ckA_all s) h1
        have z2 := doP_size _ o1 (ckB_all s) h2
        have w2 : s2.W = [] := doP_end_bar (l := [(1, (nextS s).e.tmod 2, (nextS s).sector)]) h2
        exact ⟨w2, z2.trans z1, o2, b1.trans a1, rfl, b3.trans a3, b4.trans a4, b5.trans a5, b6.trans a6, rfl, hn, by rw [bL, aL]⟩
    · cases hd
/-- A record's place. -/
def layOk (s : PgS) (b : List Int) : Prop := (2 + s.tail + ((b.length / 64 : Nat) : Int)) ≤ s.size
theorem doP_lay {s : PgS} {L : List Act3} {b : List Int} {at_ : Int} {n : Nat} (hb : b.length = 64 * n) (h0 : 0 ≤ at_) (hn : at_ + (n : Int) ≤ s.size) (hW : s.W.length + n ≤ 4096) : doP s L (layA at_ b) = .ok ({ s with W := s.W ++ layA at_ b }, L ++ layA at_ b) := by
  have hl : (layA at_ b).length = n := by simp [layA]; omega
  refine doP_writes _ _ _ (fun x hx => ?_) (by omega)
  unfold layA at hx
  obtain ⟨i, hi, rfl⟩ := List.mem_map.1 hx
  have hi := List.mem_range.1 hi
  refine ⟨rfl, ⟨by dsimp only; omega, by dsimp only; omega⟩, ?_⟩
  dsimp only
  unfold chunk64
  simp
  omega
def comR (s : PgS) (pages : List (List Int)) (root room : Int) : Rec := ⟨s.seq + 1, root, room, changedP s.pages (wholeP pages)⟩
def comB (s : PgS) (pages : List (List Int)) (root room : Int) : List Int := (comR s pages root room).enc
def comN (s : PgS) (pages : List (List Int)) (root room : Int) : Nat := (comB s pages root room).length / 64
open Classical in
/-- May it be committed? The error, else 0. -/
noncomputable def comE (s : PgS) (pages : List (List Int)) (root room : Int) : Int :=
  if s.sup.p < (pages.length : Int) then 3 else if ¬ PgS.pagesOk pages then 1 else if root < 0 ∨ s.sup.p < root ∨ room < 0 ∨ 65536 < room then 4 else if s.size < s.sup.base + room then 51
  else if 256 < (changedP s.pages (wholeP pages)).length then 3 else if 1099511627776 ≤ s.seq ∨ 1099511627776 ≤ s.sup.e then 51 else if ¬ (comR s pages root room).ok then 9
  else if s.sup.j < (comN s pages root room : Int) then 51 else 0
noncomputable def comC (s : PgS) (pages : List (List Int)) (root room : Int) (L : List Act3) : Except Int (PgS × List Act3) :=
  if s.sup.j < s.tail + (comN s pages root room : Int) then ckP (flushP s) (L ++ [barA]) else .ok (flushP s, L ++ [barA])
def comL (s2 : PgS) (b : List Int) : PgS := flushP { s2 with W := s2.W ++ layA (2 + s2.tail) b }
def comZ (s : PgS) (room : Int) (s3 : PgS) (L3 : List Act3) : Except Int (PgS × List Act3) := if s.size = s.sup.base + room then .ok (s3, L3) else doP s3 L3 [(2, s.sup.base + room, []), barA]
def comT (s4 : PgS) (pages : List (List Int)) (root room : Int) (n : Nat) : PgS := { s4 with seq := s4.seq + 1, tail := s4.tail + (n : Int), root := root, room := room, pages := wholeP pages }
noncomputable def comP (s : PgS) (pages : List (List Int)) (root room : Int) (L : List Act3) : Except Int (PgS × List Act3) :=
  if comE s pages root room ≠ 0 then .error (comE s pages root room) else match comC s pages root room L with
  | .error e => .error e
  | .ok (s2, L2) => match comZ s room (comL s2 (comB s pages root room)) (L2 ++ layA (2 + s2.tail) (comB s pages root room) ++ [barA]) with
    | .error e => .error e
    | .ok (s4, L4) => .ok (comT s4 pages root room (comN s pages root room), L4)
/-- Ahead of the record. -/
structure comF (s t : PgS) (n : Nat) (L L2 : List Act3) : Prop where
  w : t.W = []
  size : t.size = s.size
  host : t.okHost
  sok : t.sup.ok
  j : t.sup.j = s.sup.j
  p : t.sup.p = s.sup.p
  tail : 0 ≤ t.tail ∧ t.tail + (n : Int) ≤ s.sup.j
  seq : t.seq = s.seq
  len : L2.length ≤ L.length + 3000
theorem nextS_jp (s : PgS) : (nextS s).j = s.sup.j ∧ (nextS s).p = s.sup.p := ⟨rfl, rfl⟩
theorem comC_ok {s s2 : PgS} {pages : List (List Int)} {root room : Int} {L L2 : List Act3} (hok : s.ok) (hj : (comN s pages root room : Int) ≤ s.sup.j) (h : comC s pages root room L = .ok (s2, L2)) : comF s s2 (comN s pages root room) L L2 := by
  obtain ⟨o1, o2, o3, o4, o5, o6, o7, o8, o9⟩ := id hok
  obtain ⟨v1, v2, v3, v4, v5, v6, v7⟩ := s.sup.ok_iff.1 o2
  unfold comC at h
  split at h
  · have k := ckP_ok (flush_host o1) h
    refine ⟨k.w, k.size.trans (size_flush o1), k.host, by rw [k.sup]; exact k.nok, by rw [k.sup]; rfl, by rw [k.sup]; rfl, by rw [k.tail]; omega, k.seq, ?_⟩
    rw [k.acts]
    have h1 : (ckA (flushP s)).length = s.sup.p.toNat + 1 := by
      show ((List.range s.sup.p.toNat).map _ ++ [barA]).length = _
      simp
    have h2 : (ckB (flushP s)).length = 2 := rfl
    rw [List.length_append, List.length_append, List.length_append, h1, h2]
    simp
    omega
  · cases h
    exact ⟨rfl, size_flush o1, flush_host o1, o2, rfl, rfl, ⟨o8.1, by show s.tail + _ ≤ _; omega⟩, rfl, by simp⟩
end Go.Proofs.YtjidgdfdeckofaaDoor.AE
