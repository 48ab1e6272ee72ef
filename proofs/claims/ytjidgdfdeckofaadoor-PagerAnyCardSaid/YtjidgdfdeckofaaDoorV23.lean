/- Texts U9, U10. -/
import Derived.Test.YtjidgdfdeckofaaDoorV21
import Derived.Test.YtjidgdfdeckofaaDoorV9
/- Layer 16: checkpoint. -/
namespace Go.Proofs.YtjidgdfdeckofaaDoor.AE
open Go Go.RowKit Go.Proofs Go.Proofs.YtjidgdfdeckofaaDoor
set_option linter.unusedVariables false
set_option linter.unusedSimpArgs false
set_option maxRecDepth 100000
set_option maxHeartbeats 8000000
theorem must_no (e : Int) (he : e ≠ 0) : aPan Tryd.prog 14 [.int .i64 e] (errV e) := by
  intro h nx
  refine aCalls_body Tryd.func14 rfl rfl (by simp [Tryd.ntmps14]) ?_
  rw [Tryd.ntmps14]
  have cc : Tryd.prog.concrete 31 = true := by rfl
  have d1 : decide (e = 0) = false := decide_eq_false he
  have FX := Fx.mk (And.intro @d1 <| And.intro @Bool.not_false <| @aop_mi)
  repeat (first | refine v_ ?_ | refine u_ ?_ | refine nl_ ?_ | (refine nz_ ?_; first | (show aWp _ _ _ _ _) | skip) | refine sq_ ?_ | refine rg_ ?_ | refine k_ ?_ | refine ct_ ?_ | refine cf_ ?_ | refine bk_ ?_ | refine sc_ ?_ | (refine sk_ ?_; first | (show aWp _ _ _ _ _) | skip) | (refine ex_ ?_; first | (show aWp _ _ _ _ _) | skip) | refine rt_ ?_)
  refine pn_ ?_
  exact ⟨rfl, rfl, rfl, Nat.le_refl _⟩
def ckM (s : PgS) : List Act3 := (List.range s.sup.p.toNat).map (fun i : Nat => ((1 : Int), 2 + s.sup.j + (i : Int), pad64 (pageP s.pages i)))
theorem ckA_eq (s : PgS) : ckA s = ckM s ++ [barA] := rfl
theorem ckM_len (s : PgS) : (ckM s).length = s.sup.p.toNat := by simp [ckM]
theorem ckM_get (s : PgS) {i : Nat} (h : i < s.sup.p.toNat) : (ckM s)[i]? = some (1, 2 + s.sup.j + (i : Int), pad64 (pageP s.pages i)) := by simp [ckM, h]
theorem ckM_good (s : PgS) : ∀ x ∈ ckM s, goodA x := fun x hx => by
  unfold ckM at hx
  obtain ⟨i, _, rfl⟩ := List.mem_map.1 hx
  exact .inl rfl
theorem ckB_good (s : PgS) : ∀ x ∈ ckB s, goodA x := fun x hx => by
  simp only [ckB, List.mem_cons, List.not_mem_nil, or_false] at hx
  rcases hx with rfl | rfl
  · exact .inl rfl
  · exact .inr ⟨.inr rfl, rfl⟩
theorem bar_good : ∀ x ∈ [barA], goodA x := fun x hx => by
  simp only [List.mem_cons, List.not_mem_nil, or_false] at hx
  subst hx
  exact .inr ⟨.inr rfl, rfl⟩
theorem doP_at' {s s' : PgS} {L L' : List Act3} {l : List Act3} {i : Nat} {x : Act3} (h : doP s L (l.take i) = .ok (s', L')) (hx : l[i]? = some x) : doP s L (l.take (i + 1)) = doP s' L' [x] := by
  rw [List.take_add_one, hx, doP_append, h]
  rfl
theorem doP_bad' {s s' : PgS} {L L' : List Act3} {l : List Act3} {i : Nat} {x : Act3} {e : Int} (h : doP s L (l.take i) = .ok (s', L')) (hx : l[i]? = some x) (hd : doP s' L' [x] = .error e) : doP s L l = .error e := by
  have h1 := doP_at' h hx
  rw [← List.take_append_drop (i + 1) l, doP_append, h1, hd]
theorem ckP_errA {s : PgS} {L : List Act3} {e : Int} (h : doP s L (ckM s) = .error e) : ckP s L = .error e := by
  unfold ckP
  rw [ckA_eq, doP_append, h]
theorem pad_put (b : List Int) (h : b.length = 0 ∨ b.length = 64) : List.take 64 b ++ List.drop (List.take 64 b).length (List.replicate 64 (0 : Int)) = pad64 b := by
  have e : List.take 64 b = b := List.take_of_length_le (by omega)
  rw [e]
  unfold pad64
  rw [List.drop_replicate]
theorem pad_len (b : List Int) (h : b.length = 0 ∨ b.length = 64) : (pad64 b).length = 64 := by unfold pad64; simp; omega
theorem pagesOk_at {l : List (List Int)} (h : PgS.pagesOk l) (i : Nat) : (pageP l i).length = 0 ∨ (pageP l i).length = 64 := by
  rcases pageP_mem l i with q | q
  · rw [q]; exact .inl rfl
  · exact h _ q
theorem pager_checkpoint (s : PgS) (L : List Act3) (m w a : Nat) (hok : s.okHost) (hsup : s.sup.ok) (hpg : PgS.pagesOk s.pages) (hpl : s.pages.length ≤ 65536) (hL : L.length ≤ 900000) {h : AHeap} {nx : Nat} (hc : cAt h m w a s L) :
    aCalls Tryd.prog 35 [.ptr m 0 0] h nx (metR h nx m w a (ckP s L)) := by
  obtain ⟨g1, g2, g3, g4, g5, g6, g7⟩ := s.sup.ok_iff.1 hsup
  have pl := super_PlacesP s.sup hsup
  unfold Sup.av Sup.cells Sup.placesP at pl
  refine aRP_body Tryd.func35 rfl rfl (by simp [Tryd.ntmps35]) fun hreal hfresh => ?_
  rw [Tryd.ntmps35]
  have m0 := name_lt hfresh hc.hm
  have w0 := name_lt hfresh hc.hw
  have a0 := name_lt hfresh hc.ha
  have hm := hc.hm
  unfold callB at hm
  obtain ⟨N, hN⟩ : ∃ N : Nat, s.sup.p = (N : Int) := ⟨s.sup.p.toNat, by omega⟩
  have hMl : (ckM s).length = N := by rw [ckM_len]; omega
  have FX := Fx.mk (And.intro @NL <| And.intro @hm <| @hN)
  repeat (first | refine v_ ?_ | refine u_ ?_ | refine f_ (pl) fun kf hkf => ?_ | refine nl_ ?_ | (refine nz_ ?_; first | (show aWp _ _ _ _ _) | skip) | refine sq_ ?_ | refine rg_ ?_ | refine k_ ?_ | refine ct_ ?_ | refine cf_ ?_ | refine bk_ ?_ | refine sc_ ?_ | (refine sk_ ?_; first | (show aWp _ _ _ _ _) | skip) | (refine ex_ ?_; first | (show aWp _ _ _ _ _) | skip) | refine rt_ ?_)
  refine W_loopK [0, 3, 27] 0 (fun r tm h' q => ∃ (i : Nat) (s1 : PgS) (L1 : List Act3) (w1 a1 : Nat), i ≤ N ∧ r = N - i ∧ tm 28 = .int .i64 i ∧ doP s L ((ckM s).take i) = .ok (s1, L1) ∧ cAt h' m w1 a1 s1 L1 ∧ keepX h h' nx m w a ∧ (w1 = w ∨ nx ≤ w1) ∧ (a1 = a ∨ nx ≤ a1) ∧ w1 < q ∧ a1 < q ∧ nx ≤ q) N (by first | omega | (simp only; omega)) ⟨0, s, L, w, a, Nat.zero_le _, rfl, rfl, by rw [List.take_zero]; rfl, hc, fun q hq _ _ _ => rfl, .inl rfl, .inl rfl, by first | omega | (simp only; omega), by first | omega | (simp only; omega), by first | omega | (simp only; omega)⟩ ?_
  rintro r tm' h' k' ⟨i, s1, L1, w1, a1, hi, rfl, h28, hst, hc1, hkeep, hw1, ha1, wk, ak, hk0⟩ hag hh hk'
  have bm := hc1.hm
  unfold callB at bm
  have f0 : tm' 0 = .ptr m 0 0 := by rw [hag 0 rfl]; rfl
  have f3 : tm' 3 = .int .i64 (2 + s.sup.j) := by rw [hag 3 rfl]; rfl
  have f27 : tm' 27 = .int .i64 (N : Int) := by rw [hag 27 rfl]; rfl
  have hok1 : s1.okHost := doP_host _ hok (fun b hb => ckM_good s b (List.mem_of_mem_take hb)) hst
  obtain ⟨⟨e1, e2, e3, e4, e5, e6, e7⟩, eL⟩ := doP_same _ hst
  have hlen := do_len hst
  by_cases hlt : i < N
  · have hd : decide ((i : Int) < (N : Int)) = true := decide_eq_true (by omega)
    have hwi : IntKind.i64.wrap (i + 1) = ((i + 1 : Nat) : Int) := by rw [wrapI] <;> omega
    have hwa : IntKind.i64.wrap (2 + s.sup.j + (i : Int)) = 2 + s.sup.j + (i : Int) := by rw [wrapI] <;> omega
    have pg := pager_page s1.pages i (by rw [e3]; omega)
    have FX := Fx.mk (And.intro @NL <| And.intro @f0 <| And.intro @f3 <| And.intro @f27 <| And.intro @h28 <| And.intro @hd <| @bm)
    repeat (first | refine v_ ?_ | refine u_ ?_ | refine nl_ ?_ | (refine nz_ ?_; first | (show aWp _ _ _ _ _) | skip) | refine sq_ ?_ | refine rg_ ?_ | refine k_ ?_ | refine ct_ ?_ | refine cf_ ?_ | refine bk_ ?_ | refine sc_ ?_ | (refine sk_ ?_; first | (show aWp _ _ _ _ _) | skip) | (refine ex_ ?_; first | (show aWp _ _ _ _ _) | skip) | refine rt_ ?_)
    have FX := Fx.mk (And.intro @NL <| And.intro @f0 <| And.intro @f3 <| And.intro @f27 <| And.intro @h28 <| @bm)
    repeat (first | refine v_ ?_ | refine u_ ?_ | refine f_ (pg) fun kf hkf => ?_ | refine nl_ ?_ | (refine nz_ ?_; first | (show aWp _ _ _ _ _) | skip) | refine k_ ?_)
    rw [e3] at pg
    have h64 := pagesOk_at hpg i
    refine aWp_sub (Sub.row (t := 7) (r := k') (n := 64) (sz := 1) (es := numB .u8 (pad64 (pageP s.pages i))) rfl (by rw [← pad_put _ h64, ← e3]; exact upd_same _ _ _) (by rw [numB_len, pad_len _ h64])) ?_
    have FX := Fx.mk (And.intro @NL <| And.intro @f0 <| And.intro @f3 <| And.intro @f27 <| And.intro @h28 <| And.intro @bm <| @hwa)
    repeat (first | refine v_ ?_ | refine u_ ?_ | refine nl_ ?_ | (refine nz_ ?_; first | (show aWp _ _ _ _ _) | skip) | refine sq_ ?_ | refine rg_ ?_ | refine k_ ?_ | refine ct_ ?_ | refine cf_ ?_ | refine bk_ ?_ | refine sc_ ?_ | (refine sk_ ?_; first | (show aWp _ _ _ _ _) | skip) | (refine ex_ ?_; first | (show aWp _ _ _ _ _) | skip) | refine rt_ ?_)
    refine aOps_sub (Sub.acts (t := 47) (l := [(1, 2 + s.sup.j + (i : Int), pad64 (pageP s.pages i))]) rfl (by (have FX := Fx0; exact cl_)) rfl rfl) ?_
    have hx0 := ckM_get s (show i < s.sup.p.toNat by omega)
    refine RP_ (pager_do s1 L1 [(1, 2 + s.sup.j + (i : Int), pad64 (pageP s.pages i))] m w1 a1 hok1 (fun x hx => by simp at hx; subst hx; exact .inl rfl) (by simp; omega) ⟨by unfold callB; (have FX := Fx.mk (@bm); exact cl_), by (have FX := Fx.mk (@hc1.hw); exact cl_), by (have FX := Fx.mk (@hc1.ha); exact cl_), hc1.wa, hc1.wm, hc1.am⟩) ?_ ?_
    · rintro av H k2 ⟨r1, r2, r3⟩
      cases hdp : doP s1 L1 [(1, 2 + s.sup.j + (i : Int), pad64 (pageP s.pages i))] with
      | error e =>
        rw [hdp] at r3
        cases r3
      | ok p =>
        obtain ⟨s2, L2⟩ := p
        rw [hdp] at r3
        obtain ⟨r3, w2, a2, r4, r5, r6, r7, r8⟩ := r3
        cases r3
        have hst2 := doP_at' hst hx0
        rw [hdp] at hst2
        show aOps _ _ _ _ _ _
        have FX := Fx.mk (And.intro @f0 <| And.intro @f3 <| And.intro @f27 <| And.intro @h28 <| @hwi)
        repeat (first | refine v_ ?_ | refine u_ ?_ | refine nl_ ?_ | (refine nz_ ?_; first | (show aWp _ _ _ _ _) | skip) | refine sq_ ?_ | refine rg_ ?_ | refine k_ ?_ | refine ct_ ?_ | refine cf_ ?_ | refine bk_ ?_ | refine sc_ ?_ | (refine sk_ ?_; first | (show aWp _ _ _ _ _) | skip) | (refine ex_ ?_; first | (show aWp _ _ _ _ _) | skip) | refine rt_ ?_)
        refine ⟨N - (i + 1), by omega, ⟨i + 1, s2, L2, w2, a2, by omega, rfl, ?_, hst2, r8, ?_, ?_, ?_, ?_, ?_, ?_⟩, ?_, ?_, ?_, rfl⟩
        · (have FX := Fx0; exact cl_)
        · intro q hq q1 q2 q3
          dsimp only
          rw [r2 q (by simp only; omega) q1 (by omega) (by omega)]
          simp (disch := omega) only [upd_ne]
          exact hkeep q hq q1 q2 q3
        · (try simp only at r4); omega
        · (try simp only at r5); omega
        · (try simp only at r6); first | omega | (simp only; omega)
        · (try simp only at r7); first | omega | (simp only; omega)
        · (try simp only at r1); first | omega | (simp only; omega)
        · repeat (refine KAgree.upd rfl ?_)
          exact hag
        · exact fun q hq => absurd hq (Nat.not_lt_zero q)
        · (try simp only at r1); first | omega | (simp only; omega)
    · rintro av H k2 ⟨r1, r2, r3⟩
      cases hdp : doP s1 L1 [(1, 2 + s.sup.j + (i : Int), pad64 (pageP s.pages i))] with
      | ok p =>
        rw [hdp] at r3
        cases r3.1
      | error e =>
        rw [hdp] at r3
        cases r3
        refine ⟨rfl, ?_⟩
        rw [ckP_errA (doP_bad' hst hx0 hdp)]
        refine ⟨by simp only at r1; first | omega | (simp only; omega), fun q hq q1 q2 q3 => ?_, rfl⟩
        dsimp only
        rw [r2 q (by simp only; omega) q1 (by omega) (by omega)]
        simp (disch := omega) only [upd_ne]
        exact hkeep q hq q1 q2 q3
  obtain rfl : i = N := by omega
  have hd : decide ((i : Int) < (i : Int)) = false := by simp
  rw [List.take_of_length_le (by omega)] at hst
  have ho1 : s1.okHost := hok1
  have FX := Fx.mk (And.intro @NL <| And.intro @f0 <| And.intro @f3 <| And.intro @f27 <| And.intro @h28 <| And.intro @hd <| @bm)
  repeat (first | refine v_ ?_ | refine u_ ?_ | refine nl_ ?_ | (refine nz_ ?_; first | (show aWp _ _ _ _ _) | skip) | refine sq_ ?_ | refine rg_ ?_ | refine k_ ?_ | refine ct_ ?_ | refine cf_ ?_ | refine bk_ ?_ | refine sc_ ?_ | (refine sk_ ?_; first | (show aWp _ _ _ _ _) | skip) | (refine ex_ ?_; first | (show aWp _ _ _ _ _) | skip) | refine rt_ ?_)
  refine aOps_sub (Sub.acts (t := 52) (l := [barA]) rfl (by (have FX := Fx0; exact cl_)) rfl rfl) ?_
  refine RP_ (pager_do s1 L1 [barA] m w1 a1 hok1 (fun x hx => by simp at hx; subst hx; exact .inr ⟨.inr rfl, rfl⟩) (by simp; omega) ⟨by unfold callB; (have FX := Fx.mk (@bm); exact cl_), by (have FX := Fx.mk (@hc1.hw); exact cl_), by (have FX := Fx.mk (@hc1.ha); exact cl_), hc1.wa, hc1.wm, hc1.am⟩) ?_ ?_
  case refine_2 =>
    rintro av H k2 ⟨r1, r2, r3⟩
    cases hdp : doP s1 L1 [barA] with
    | ok p =>
      rw [hdp] at r3
      cases r3.1
    | error e =>
      rw [hdp] at r3
      cases r3
      refine ⟨rfl, ?_⟩
      rw [show ckP s L = .error e by unfold ckP; rw [ckA_eq, doP_append, hst]; dsimp only; rw [hdp]]
      refine ⟨by simp only at r1; first | omega | (simp only; omega), fun q hq q1 q2 q3 => ?_, rfl⟩
      dsimp only
      rw [r2 q (by simp only; omega) q1 (by omega) (by omega)]
      simp (disch := omega) only [upd_ne]
      exact hkeep q hq q1 q2 q3
  rintro av H k2 ⟨r1, r2, r3⟩
  cases hdp : doP s1 L1 [barA] with
  | error e =>
    rw [hdp] at r3
    cases r3
  | ok p =>
  obtain ⟨s2, L2⟩ := p
  rw [hdp] at r3
  obtain ⟨r3, w2, a2, r4, r5, r6, r7, hc2⟩ := r3
  cases r3
  have hA : doP s L (ckA s) = .ok (s2, L2) := by rw [ckA_eq, doP_append, hst]; exact hdp
  obtain ⟨⟨u1, u2, u3, u4, u5, u6, u7⟩, uL⟩ := doP_same _ hA
  have hok2 : s2.okHost := doP_host [barA] hok1 (fun x hx => by simp at hx; subst hx; exact .inr ⟨.inr rfl, rfl⟩) hdp
  have hkeep2 : keepX h H nx m w a := fun q hq q1 q2 q3 => by
    rw [r2 q (by simp only; omega) q1 (by omega) (by omega)]
    simp (disch := omega) only [upd_ne]
    exact hkeep q hq q1 q2 q3
  have hw2 : w2 = w ∨ nx ≤ w2 := by (try simp only at r4); omega
  have ha2 : a2 = a ∨ nx ≤ a2 := by (try simp only at r5); omega
  have hk2 : nx ≤ k2 := by simp only at r1; omega
  have cm := hc2.hm
  unfold callB at cm
  rw [u1, u2, u3, u4, u5, u6, u7] at cm
  have we : IntKind.i64.wrap (s.sup.e + 1) = s.sup.e + 1 := by rw [wrapI] <;> omega
  show aOps _ _ _ _ _ _
  have FX := Fx.mk (And.intro @NL <| And.intro @f0 <| And.intro @f3 <| And.intro @cm <| @we)
  repeat (first | refine v_ ?_ | refine u_ ?_ | refine nl_ ?_ | (refine nz_ ?_; first | (show aWp _ _ _ _ _) | skip) | refine sq_ ?_ | refine rg_ ?_ | refine k_ ?_ | refine ct_ ?_ | refine cf_ ?_ | refine bk_ ?_ | refine sc_ ?_ | (refine sk_ ?_; first | (show aWp _ _ _ _ _) | skip) | (refine ex_ ?_; first | (show aWp _ _ _ _ _) | skip) | refine rt_ ?_)
  have FX := Fx.mk (And.intro @NL <| And.intro @f0 <| @cm)
  refine W_draw mixed rfl rfl ?_
  repeat (first | refine dq_ ?_ | refine dr_ [m] ?_ | refine dm_ [k2] ?_ | refine da_ [k2] ?_ | refine ds_ [m] ?_ | refine ds_ [k2] ?_ | refine dw_ [m] ?_ | refine dk_ ?_ | refine dn_ ?_)
  refine fun kd hkd => ?_
  simp only [List.length_cons, List.length_nil] at hkd
  first | (show aWp _ _ _ _ _) | skip
  have hav : ∀ v, aFun Tryd.prog 52 [(nextS s).av] v → aFun Tryd.prog 52 [.agg [.int .i64 (s.sup.e + 1), .int .i64 s.sup.v, .int .i64 s.sup.j, .int .i64 s.sup.p, .int .i64 s.room, .int .i64 s.seq, .int .i64 s.root]] v := fun v h => h
  by_cases hn : (nextS s).ok
  case neg =>
    have en := hav _ (super_Encode_bad (nextS s) hn)
    have FX := Fx.mk (And.intro @NL <| And.intro @f0 <| @cm)
    repeat (first | refine v_ ?_ | refine u_ ?_ | refine f_ (en) fun kf hkf => ?_ | refine p_ ((must_no 4 (by decide))) fun kf hkf => ?_ | refine nl_ ?_ | (refine nz_ ?_; first | (show aWp _ _ _ _ _) | skip) | refine sq_ ?_ | refine rg_ ?_ | refine k_ ?_ | refine ct_ ?_ | refine cf_ ?_ | refine bk_ ?_ | refine sc_ ?_ | (refine sk_ ?_; first | (show aWp _ _ _ _ _) | skip) | (refine ex_ ?_; first | (show aWp _ _ _ _ _) | skip) | refine rt_ ?_)
    refine ⟨rfl, ?_⟩
    rw [show ckP s L = .error 4 by unfold ckP; rw [hA]; dsimp only; rw [if_neg hn]]
    refine ⟨by first | omega | (simp only; omega), fun q hq q1 q2 q3 => ?_, rfl⟩
    simp (disch := omega) only [upd_ne]
    exact hkeep2 q hq q1 q2 q3
  have en := hav _ (super_Encode (nextS s) hn).fn_tup
  have FX := Fx.mk (And.intro @NL <| And.intro @f0 <| @cm)
  repeat (first | refine v_ ?_ | refine u_ ?_ | refine f_ (en) fun kf hkf => ?_ | refine f_ (must_ok) fun kf hkf => ?_ | refine nl_ ?_ | (refine nz_ ?_; first | (show aWp _ _ _ _ _) | skip) | refine sq_ ?_ | refine rg_ ?_ | refine k_ ?_ | refine ct_ ?_ | refine cf_ ?_ | refine bk_ ?_ | refine sc_ ?_ | (refine sk_ ?_; first | (show aWp _ _ _ _ _) | skip) | (refine ex_ ?_; first | (show aWp _ _ _ _ _) | skip) | refine rt_ ?_)
  have hL2 : L2.length + (ckB s).length ≤ 1000000 := by rw [uL, ckA_eq, List.length_append, List.length_append, hMl, show (ckB s).length = 2 from rfl, show [barA].length = 1 from rfl]; omega
  -- DBG
  refine aOps_sub (Sub.acts (t := 95) (l := ckB s) rfl (by (have FX := Fx0; exact cl_)) rfl rfl) ?_
  refine RP_ (pager_do s2 L2 (ckB s) m w2 a2 hok2 (ckB_good s) hL2 ⟨by unfold callB; rw [u1, u2, u3, u4, u5, u6, u7]; (have FX := Fx.mk (@cm); exact cl_), by (have FX := Fx.mk (@hc2.hw); exact cl_), by (have FX := Fx.mk (@hc2.ha); exact cl_), hc2.wa, hc2.wm, hc2.am⟩) ?_ ?_
  case refine_2 =>
    rintro av H3 k3 ⟨r1, r2, r3⟩
    cases hdp : doP s2 L2 (ckB s) with
    | ok p =>
      rw [hdp] at r3
      cases r3.1
    | error e =>
      rw [hdp] at r3
      cases r3
      refine ⟨rfl, ?_⟩
      rw [show ckP s L = .error e by unfold ckP; rw [hA]; dsimp only; rw [if_pos hn, hdp]]
      refine ⟨by (try simp only at r1); first | omega | (simp only; omega), fun q hq q1 q2 q3 => ?_, rfl⟩
      dsimp only
      rw [r2 q (by simp only; omega) q1 (by omega) (by omega)]
      simp (disch := omega) only [upd_ne]
      exact hkeep2 q hq q1 q2 q3
  rintro av H3 k3 ⟨r1, r2, r3⟩
  cases hdp : doP s2 L2 (ckB s) with
  | error e =>
    rw [hdp] at r3
    cases r3
  | ok p =>
  obtain ⟨s3, L3⟩ := p
  rw [hdp] at r3
  obtain ⟨r3, w3, a3, r4, r5, r6, r7, hc3⟩ := r3
  cases r3
  obtain ⟨⟨v1, v2, v3, v4, v5, v6, v7⟩, vL⟩ := doP_same _ hdp
  have dm := hc3.hm
  unfold callB at dm
  have hnx : H3 k2 = some ⟨7, [[.int .i64 (s.sup.e + 1), .int .i64 s.sup.v, .int .i64 s.sup.j, .int .i64 s.sup.p, .int .i64 s.room, .int .i64 s.seq, .int .i64 s.root]]⟩ := by
    rw [r2 k2 (by first | omega | (simp only; omega)) (by omega) (by omega) (by omega)]
    (have FX := Fx0; exact cl_)
  show aOps _ _ _ _ _ _
  have FX := Fx.mk (And.intro @NL <| And.intro @f0 <| And.intro @dm <| @hnx)
  repeat (first | refine v_ ?_ | refine u_ ?_ | refine nl_ ?_ | (refine nz_ ?_; first | (show aWp _ _ _ _ _) | skip) | refine sq_ ?_ | refine rg_ ?_ | refine k_ ?_ | refine ct_ ?_ | refine cf_ ?_ | refine bk_ ?_ | refine sc_ ?_ | (refine sk_ ?_; first | (show aWp _ _ _ _ _) | skip) | (refine ex_ ?_; first | (show aWp _ _ _ _ _) | skip) | refine rt_ ?_)
  refine ⟨rfl, .tup [], by rw [Tryd.results35]; rfl, ?_⟩
  rw [show ckP s L = .ok ({ s3 with sup := nextS s, tail := 0 }, L3) by unfold ckP; rw [hA]; dsimp only; rw [if_pos hn, hdp]]
  refine ⟨by (try simp only at r1); first | omega | (simp only; omega), fun q hq q1 q2 q3 => ?_, rfl, w3, a3, ?_, ?_, ?_, ?_, ⟨?_, ?_, ?_, hc3.wa, hc3.wm, hc3.am⟩⟩
  · simp (disch := omega) only [upd_ne]
    rw [r2 q (by first | omega | (simp only; omega)) q1 (by omega) (by omega)]
    simp (disch := omega) only [upd_ne]
    exact hkeep2 q hq q1 q2 q3
  · (try simp only at r4); omega
  · (try simp only at r5); omega
  · (try simp only at r6); first | omega | (simp only; omega)
  · (try simp only at r7); first | omega | (simp only; omega)
  · rw [v1, v3, v4, v5, v6, u1, u3, u4, u5, u6] at dm
    show _ = some (Blk.mk 16 [[.sl (secB s3.S), .hs w3 0 s3.W.length, .int .i64 s3.cap, .int .i64 (s.sup.e + 1), .int .i64 s.sup.v, .int .i64 s.sup.j, .int .i64 s.sup.p, .int .i64 s.room, .int .i64 s.seq, .int .i64 s.root, .sl (secB s3.pages), .int .i64 s3.root, .int .i64 s3.room, .int .i64 s3.seq, .int .i64 0, .hs a3 0 L3.length]])
    rw [v1, v3, v4, v5, v6, u1, u3, u4, u5, u6]
    (have FX := Fx0; exact cl_)
  · have := hc3.hw
    have n1 := hc3.wm
    (have FX := Fx.mk (@this); exact cl_)
  · have := hc3.ha
    have n1 := hc3.am
    (have FX := Fx.mk (@this); exact cl_)
end Go.Proofs.YtjidgdfdeckofaaDoor.AE

/- Layer 16: lay. -/
namespace Go.Proofs.YtjidgdfdeckofaaDoor.AE
open Go Go.RowKit Go.Proofs Go.Proofs.YtjidgdfdeckofaaDoor
set_option linter.unusedVariables false
set_option linter.unusedSimpArgs false
set_option maxRecDepth 100000
set_option maxHeartbeats 8000000
theorem Chunk_oct (b : List Int) (h : AHeap) (nx : Nat) : aCalls Tryd.prog 64 [.sl (numB .u8 b), .int .i64 64] h nx (fun e h' k' => ∃ a, e = .ret a ∧ ∃ p q, a = .fn (.func 81) [] [.ptr p 0 0, .ptr q 0 0] ∧ nx ≤ p ∧ p < q ∧ q < k' ∧ h' p = some ⟨1, [[.sl (numB .u8 b)]]⟩ ∧ h' q = some ⟨1, [[.int .i64 64]]⟩ ∧ ∀ z, z < nx → h' z = h z) := by
  refine aR_body Tryd.func64 rfl rfl (by simp [Tryd.ntmps64]) fun hreal hfresh => ?_
  rw [Tryd.ntmps64]
  have FX := Fx0
  repeat (first | refine v_ ?_ | refine u_ ?_ | refine nl_ ?_ | (refine nz_ ?_; first | (show aWp _ _ _ _ _) | skip) | refine sq_ ?_ | refine rg_ ?_ | refine k_ ?_ | refine ct_ ?_ | refine cf_ ?_ | refine bk_ ?_ | refine sc_ ?_ | (refine sk_ ?_; first | (show aWp _ _ _ _ _) | skip) | (refine ex_ ?_; first | (show aWp _ _ _ _ _) | skip) | refine rt_ ?_)
  refine ⟨rfl, _, by rw [Tryd.results64]; rfl, nx, nx + 1, rfl, Nat.le_refl _, by omega, by first | omega | (simp only; omega), ?_, ?_, fun z hz => ?_⟩
  · (have FX := Fx0; exact cl_)
  · (have FX := Fx0; exact cl_)
  · simp (disch := omega) only [upd_ne]
theorem doP_pre {s s' : PgS} {L L' : List Act3} {l : List Act3} (h : doP s L l = .ok (s', L')) (i : Nat) : ∃ s1 L1, doP s L (l.take i) = .ok (s1, L1) := by
  rw [← List.take_append_drop i l, doP_append] at h
  cases hd : doP s L (l.take i) with
  | error e => rw [hd] at h; cases h
  | ok r => exact ⟨r.1, r.2, rfl⟩
theorem layA_get {at_ : Int} {b : List Int} {n j : Nat} (hb : b.length = 64 * n) (hj : j < n) : (layA at_ b)[j]? = some (1, at_ + (j : Int), chunk64 b j) := by
  unfold layA
  rw [List.getElem?_map, List.getElem?_range (by omega)]
  rfl
theorem layA_good (at_ : Int) (b : List Int) : ∀ x ∈ layA at_ b, goodA x := fun x hx => by
  unfold layA at hx
  obtain ⟨i, _, rfl⟩ := List.mem_map.1 hx
  exact .inl rfl
theorem pager_lay (s s' : PgS) (L L' : List Act3) (m w a : Nat) (at_ : Int) (b : List Int) (n : Nat) (hok : s.okHost) (hbl : b.length = 64 * n) (hn : n ≤ 4096) (hat : 0 ≤ at_ ∧ at_ ≤ 1000000) (hL : L.length ≤ 900000) (hd : doP s L (layA at_ b) = .ok (s', L')) {h : AHeap} {nx : Nat} (hc : cAt h m w a s L) :
    aCalls Tryd.prog 36 [.ptr m 0 0, .int .i64 at_, .sl (numB .u8 b)] h nx (metR h nx m w a (.ok (s', L'))) := by
  refine aCalls_real fun hreal hfresh => ?_
  refine aCallsM_body Tryd.func36 rfl rfl (by simp [Tryd.ntmps36]) ?_
  rw [Tryd.ntmps36]
  intro n0 ρ hr hn0
  have m0 := name_lt hfresh hc.hm
  have w0 := name_lt hfresh hc.hw
  have a0 := name_lt hfresh hc.ha
  have FX := Fx0
  repeat (first | refine v_ ?_ | refine u_ ?_ | refine nl_ ?_ | (refine nz_ ?_; first | (show aWp _ _ _ _ _) | skip) | refine sq_ ?_ | refine rg_ ?_ | refine k_ ?_ | refine ct_ ?_ | refine cf_ ?_ | refine bk_ ?_ | refine sc_ ?_ | (refine sk_ ?_; first | (show aWp _ _ _ _ _) | skip) | (refine ex_ ?_; first | (show aWp _ _ _ _ _) | skip) | refine rt_ ?_)
  refine R_ (Chunk_oct b _ _) (by rintro a h' k' ⟨_, e, _⟩; cases e) ?_
  rintro av h1 k1 ⟨_, e, p, q, rfl, p1, p2, p3, bp, bq, hk1⟩
  cases e
  show aOps _ _ _ _ _ _
  have FX := Fx0
  repeat (first | refine v_ ?_ | refine u_ ?_ | refine nl_ ?_ | (refine nz_ ?_; first | (show aWp _ _ _ _ _) | skip) | refine sq_ ?_ | refine rg_ ?_ | refine k_ ?_ | refine ct_ ?_ | refine cf_ ?_ | refine bk_ ?_ | refine sc_ ?_ | (refine sk_ ?_; first | (show aWp _ _ _ _ _) | skip) | (refine ex_ ?_; first | (show aWp _ _ _ _ _) | skip) | refine rt_ ?_)
  have T1 : True := trivial
  refine aWp_range hr n0 hn0 (gf := 81) (cap := [.ptr p 0 0, .ptr q 0 0]) (K := fun h2 k2 => nx + 2 ≤ k2 ∧ keepX h h2 nx m w a ∧ ∃ w' a', (w' = w ∨ nx ≤ w') ∧ (a' = a ∨ nx ≤ a') ∧ w' < k2 ∧ a' < k2 ∧ cAt h2 m w' a' s' L') rfl (by simp only [WS]) ?_ ?_
  · intro l ρ' hr' hyy
    refine aCallsB_body hr' Tryd.func81 rfl rfl (by simp [Tryd.ntmps81]) (by rw [Tryd.results81]) ?_
    rw [Tryd.ntmps81]
    have FX := Fx0
    repeat (first | refine v_ ?_ | refine u_ ?_ | refine nl_ ?_ | (refine nz_ ?_; first | (show aWp _ _ _ _ _) | skip) | refine sq_ ?_ | refine rg_ ?_ | refine k_ ?_ | refine ct_ ?_ | refine cf_ ?_ | refine bk_ ?_ | refine sc_ ?_ | (refine sk_ ?_; first | (show aWp _ _ _ _ _) | skip) | (refine ex_ ?_; first | (show aWp _ _ _ _ _) | skip) | refine rt_ ?_)
    have bc : h1 nx = some ⟨1, [[.ptr m 0 0]]⟩ := by rw [hk1 nx (by first | omega | (simp only; omega))]; (have FX := Fx0; exact cl_)
    have ba : h1 (nx + 1) = some ⟨1, [[.int .i64 at_]]⟩ := by rw [hk1 (nx + 1) (by first | omega | (simp only; omega))]; (have FX := Fx0; exact cl_)
    have kx : ∀ z, z < nx → h1 z = h z := fun z hz => by rw [hk1 z (by first | omega | (simp only; omega))]; simp (disch := omega) only [upd_ne]
    have cA1 : cAt h1 m w a s L := ⟨by rw [kx m m0]; exact hc.hm, by rw [kx w w0]; exact hc.hw, by rw [kx a a0]; exact hc.ha, hc.wa, hc.wm, hc.am⟩
    have pk : nx + 2 ≤ p := by (try simp only at p1); omega
    have e1 := numB_len .u8 b
    refine W_loopK [0, 1, 2] 0 (fun r tm h' k' => ∃ (j : Nat) (s1 : PgS) (L1 : List Act3) (w1 a1 : Nat), j ≤ n ∧ r = n - j ∧ tm 4 = .int .i64 ((64 * j : Nat) : Int) ∧ doP s L ((layA at_ b).take j) = .ok (s1, L1) ∧ cAt h' m w1 a1 s1 L1 ∧ keepX h h' nx m w a ∧ (w1 = w ∨ k1 ≤ w1) ∧ (a1 = a ∨ k1 ≤ a1) ∧ w1 < k' ∧ a1 < k' ∧ k1 ≤ k' ∧ h' nx = some ⟨1, [[.ptr m 0 0]]⟩ ∧ h' (nx + 1) = some ⟨1, [[.int .i64 (at_ + (j : Int))]]⟩ ∧ h' p = some ⟨1, [[.sl (numB .u8 b)]]⟩ ∧ h' q = some ⟨1, [[.int .i64 64]]⟩) n (by first | omega | (simp only; omega)) ⟨0, s, L, w, a, Nat.zero_le _, rfl, rfl, by rw [List.take_zero]; rfl, cA1, fun z hz _ _ _ => kx z hz, .inl rfl, .inl rfl, by first | omega | (simp only; omega), by first | omega | (simp only; omega), by first | omega | (simp only; omega), bc, by rw [ba]; simp, bp, bq⟩ ?_
    rintro r tm' h' k' ⟨j, s1, L1, w1, a1, hj, rfl, h4, hst, hc1, hkeep, hw1, ha1, wk, ak, hk0, gc, ga, gp, gq⟩ hag hh hk'
    have f0 : tm' 0 = .fn (.yield l) [] [] := by rw [hag 0 rfl]; rfl
    have f1 : tm' 1 = .ptr p 0 0 := by rw [hag 1 rfl]; rfl
    have f2 : tm' 2 = .ptr q 0 0 := by rw [hag 2 rfl]; rfl
    by_cases hlt : j < n
    · have hd0 : decide (((64 * j : Nat) : Int) < (b.length : Int)) = true := decide_eq_true (by omega)
      have FX := Fx.mk (And.intro @h4 <| And.intro @f0 <| And.intro @f1 <| And.intro @f2 <| And.intro @gp <| And.intro @gq <| And.intro @e1 <| @hd0)
      repeat (first | refine v_ ?_ | refine u_ ?_ | refine nl_ ?_ | (refine nz_ ?_; first | (show aWp _ _ _ _ _) | skip) | refine sq_ ?_ | refine rg_ ?_ | refine k_ ?_ | refine ct_ ?_ | refine cf_ ?_ | refine bk_ ?_ | refine sc_ ?_ | (refine sk_ ?_; first | (show aWp _ _ _ _ _) | skip) | (refine ex_ ?_; first | (show aWp _ _ _ _ _) | skip) | refine rt_ ?_)
      have hdl : (List.drop ((64 * j : Nat) : Int).toNat (List.take ((b.length : Nat) : Int).toNat (numB .u8 b))).length = b.length - 64 * j := by simp [e1]; omega
      have hmin : (if ((List.drop (64 * j) b).length : Int) < 64 then ((List.drop (64 * j) b).length : Int) else 64) = 64 := by rw [List.length_drop]; split <;> omega
      have hwr : IntKind.i64.wrap (((64 * j : Nat) : Int) + 64) = ((64 * (j + 1) : Nat) : Int) := by rw [wrapI] <;> omega
      have FX := Fx.mk (And.intro @h4 <| And.intro @f0 <| And.intro @f1 <| And.intro @f2 <| And.intro @gp <| And.intro @gq <| And.intro @e1 <| And.intro @num_sz <| And.intro @hdl <| @hmin)
      refine W_draw mixed rfl rfl ?_
      repeat (first | refine dq_ ?_ | refine dr_ [p, q] ?_ | refine dm_ [p, q] ?_ | refine da_ [p, q] ?_ | refine ds_ [p, q] ?_ | refine dw_ [p, q] ?_ | refine dk_ ?_ | refine dn_ ?_)
      refine fun kd hkd => ?_
      simp only [List.length_cons, List.length_nil] at hkd
      first | (show aWp _ _ _ _ _) | skip
      have FX := Fx.mk (And.intro @h4 <| And.intro @f0 <| And.intro @f1 <| And.intro @f2 <| And.intro @gp <| And.intro @gq <| @hwr)
      repeat (first | refine v_ ?_ | refine u_ ?_ | refine nl_ ?_ | (refine nz_ ?_; first | (show aWp _ _ _ _ _) | skip) | refine sq_ ?_ | refine rg_ ?_ | refine k_ ?_ | refine ct_ ?_ | refine cf_ ?_ | refine bk_ ?_ | refine sc_ ?_ | (refine sk_ ?_; first | (show aWp _ _ _ _ _) | skip) | (refine ex_ ?_; first | (show aWp _ _ _ _ _) | skip) | refine rt_ ?_)
      have hch : ((numB .u8 b).take (((64 * (j + 1) : Nat) : Int)).toNat).drop (((64 * j : Nat) : Int)).toNat = numB .u8 (chunk64 b j) := by
        rw [Int.toNat_natCast, Int.toNat_natCast]
        unfold chunk64 numB
        rw [List.map_take, List.map_drop, List.drop_take, show 64 * (j + 1) - 64 * j = 64 by omega]
      refine s3_ (e := 5) (n := 1) (es := numB .u8 b) (l := ((64 * j : Nat) : Int)) (u := ((64 * (j + 1) : Nat) : Int)) (m := ((64 * (j + 1) : Nat) : Int)) ?_ (by (have FX := Fx0; exact cl_)) (by (have FX := Fx.mk (@h4); exact cl_)) (by (have FX := Fx0; exact cl_)) (by (have FX := Fx0; exact cl_)) Tryd.underlying40 rfl (num_sz _ _) ⟨by omega, by omega, by omega, by rw [e1]; omega⟩
      rw [hch]
      have hok1 : s1.okHost := doP_host _ hok (fun x hx => layA_good _ _ x (List.mem_of_mem_take hx)) hst
      have hlen := do_len hst
      obtain ⟨s2, L2, hst2⟩ := doP_pre hd (j + 1)
      have hdo := hst2
      rw [doP_at' hst (layA_get hbl hlt)] at hdo
      have hwb : IntKind.i64.wrap (at_ + (j : Int) + 1) = at_ + ((j + 1 : Nat) : Int) := by rw [wrapI] <;> omega
      have bm := hc1.hm
      unfold callB at bm
      refine y_ (hyy [.sl (numB .u8 (chunk64 b j))] h' kd (fun s => s.tm 6 = .sl (numB .u8 (chunk64 b j)) ∧ s.tm 3 = .ptr nx 0 0 ∧ s.tm 4 = .ptr (nx + 1) 0 0 ∧ s.h = h' ∧ s.nx = kd)
        (fun h2 k2 => ∃ w2 a2, cAt h2 m w2 a2 s2 L2 ∧ keepX h h2 nx m w a ∧ (w2 = w ∨ k1 ≤ w2) ∧ (a2 = a ∨ k1 ≤ a2) ∧ w2 < k2 ∧ a2 < k2 ∧ k1 ≤ k2 ∧ h2 nx = some ⟨1, [[.ptr m 0 0]]⟩ ∧ h2 (nx + 1) = some ⟨1, [[.int .i64 (at_ + ((j + 1 : Nat) : Int))]]⟩ ∧ h2 p = some ⟨1, [[.sl (numB .u8 b)]]⟩ ∧ h2 q = some ⟨1, [[.int .i64 64]]⟩) rfl (by decide) ?_ ?_) ?_ (by (have FX := Fx0; exact cl_)) rfl (by (have FX := Fx0; exact cl_))
      · intro ρb hρb
        show aWp _ _ _ _ _
        have FX := Fx0
        repeat (first | refine v_ ?_ | refine u_ ?_ | refine nl_ ?_ | (refine nz_ ?_; first | (show aWp _ _ _ _ _) | skip) | refine sq_ ?_ | refine rg_ ?_ | refine k_ ?_ | refine ct_ ?_ | refine cf_ ?_ | refine bk_ ?_ | refine sc_ ?_ | (refine sk_ ?_; first | (show aWp _ _ _ _ _) | skip) | (refine ex_ ?_; first | (show aWp _ _ _ _ _) | skip) | refine rt_ ?_)
        exact ⟨rfl, rfl, rfl, rfl, rfl, rfl, rfl⟩
      · rintro ⟨tmS, hS, kS, dfS⟩ hdf ⟨y6, y3, y4, y5, y7⟩ ρb hρb
        simp only at hdf y6 y3 y4 y5 y7
        subst hdf y5 y7
        show aWp _ _ _ _ _
        have FX := Fx.mk (And.intro @y3 <| And.intro @y4 <| And.intro @y6 <| And.intro @gc <| @ga)
        repeat (first | refine v_ ?_ | refine u_ ?_ | refine nl_ ?_ | (refine nz_ ?_; first | (show aWp _ _ _ _ _) | skip) | refine sq_ ?_ | refine rg_ ?_ | refine k_ ?_ | refine ct_ ?_ | refine cf_ ?_ | refine bk_ ?_ | refine sc_ ?_ | (refine sk_ ?_; first | (show aWp _ _ _ _ _) | skip) | (refine ex_ ?_; first | (show aWp _ _ _ _ _) | skip) | refine rt_ ?_)
        refine aOps_sub (Sub.acts (t := 14) (l := [(1, at_ + (j : Int), chunk64 b j)]) (by (have FX := Fx0; exact cl_)) (by (have FX := Fx0; exact cl_)) rfl rfl) ?_
        refine RP_ (pager_do s1 L1 [(1, at_ + (j : Int), chunk64 b j)] m w1 a1 hok1 (fun x hx => by simp at hx; subst hx; exact .inl rfl) (by simp; omega) ⟨by unfold callB; (have FX := Fx.mk (@bm); exact cl_), by (have FX := Fx.mk (@hc1.hw); exact cl_), by (have FX := Fx.mk (@hc1.ha); exact cl_), hc1.wa, hc1.wm, hc1.am⟩) ?_ ?_
        · rintro av H k3 ⟨r1, r2, r3⟩
          rw [hdo] at r3
          obtain ⟨r3, w2, a2, r4, r5, r6, r7, hc2⟩ := r3
          cases r3
          have gc3 : H nx = some ⟨1, [[.ptr m 0 0]]⟩ := by
            rw [r2 nx (by first | omega | (simp only; omega)) (by omega) (by omega) (by omega)]
            (have FX := Fx.mk (@gc); exact cl_)
          have ga3 : H (nx + 1) = some ⟨1, [[.int .i64 (at_ + (j : Int))]]⟩ := by
            rw [r2 (nx + 1) (by first | omega | (simp only; omega)) (by omega) (by omega) (by omega)]
            (have FX := Fx.mk (@ga); exact cl_)
          have gp3 : H p = some ⟨1, [[.sl (numB .u8 b)]]⟩ := by
            rw [r2 p (by first | omega | (simp only; omega)) (by omega) (by omega) (by omega)]
            (have FX := Fx.mk (@gp); exact cl_)
          have gq3 : H q = some ⟨1, [[.int .i64 64]]⟩ := by
            rw [r2 q (by first | omega | (simp only; omega)) (by omega) (by omega) (by omega)]
            (have FX := Fx.mk (@gq); exact cl_)
          have hk3 : keepX h H nx m w a := fun z hz q1 q2 q3 => by
            rw [r2 z (by first | omega | (simp only; omega)) q1 (by omega) (by omega)]
            simp (disch := omega) only [upd_ne]
            exact hkeep z hz q1 q2 q3
          (try simp only at r4)
          (try simp only at r5)
          (try simp only at r6)
          (try simp only at r7)
          (try simp only at r1)
          have b1 := hc2.wm
          have b2 := hc2.am
          show aOps _ _ _ _ _ _
          have FX := Fx.mk (And.intro @y3 <| And.intro @y4 <| And.intro @gc3 <| And.intro @ga3 <| @hwb)
          repeat (first | refine v_ ?_ | refine u_ ?_ | refine nl_ ?_ | (refine nz_ ?_; first | (show aWp _ _ _ _ _) | skip) | refine sq_ ?_ | refine rg_ ?_ | refine k_ ?_ | refine ct_ ?_ | refine cf_ ?_ | refine bk_ ?_ | refine sc_ ?_ | (refine sk_ ?_; first | (show aWp _ _ _ _ _) | skip) | (refine ex_ ?_; first | (show aWp _ _ _ _ _) | skip) | refine rt_ ?_)
          refine ⟨rfl, rfl, w2, a2, ⟨?_, ?_, ?_, hc2.wa, hc2.wm, hc2.am⟩, ?_, by omega, by omega, by first | omega | (simp only; omega), by first | omega | (simp only; omega), by first | omega | (simp only; omega), ?_, ?_, ?_, ?_⟩
          · have := hc2.hm
            (have FX := Fx.mk (@this); exact cl_)
          · have := hc2.hw
            (have FX := Fx.mk (@this); exact cl_)
          · have := hc2.ha
            (have FX := Fx.mk (@this); exact cl_)
          · intro z hz q1 q2 q3
            simp (disch := omega) only [upd_ne]
            exact hk3 z hz q1 q2 q3
          · (have FX := Fx.mk (@gc3); exact cl_)
          · (have FX := Fx0; exact cl_)
          · (have FX := Fx.mk (@gp3); exact cl_)
          · (have FX := Fx.mk (@gq3); exact cl_)
        · rintro av H k3 ⟨r1, r2, r3⟩
          rw [hdo] at r3
          cases r3.1
      · rintro h2 k2 ⟨w2, a2, z1, z2, z3, z4, z5, z6, z7, z8, z9, z10, z11⟩
        show aOps _ _ _ _ _ _
        have FX := Fx.mk (And.intro @h4 <| And.intro @f0 <| And.intro @f1 <| And.intro @f2 <| And.intro @z10 <| And.intro @z11 <| And.intro @Bool.not_true <| @hwr)
        repeat (first | refine v_ ?_ | refine u_ ?_ | refine nl_ ?_ | (refine nz_ ?_; first | (show aWp _ _ _ _ _) | skip) | refine sq_ ?_ | refine rg_ ?_ | refine k_ ?_ | refine ct_ ?_ | refine cf_ ?_ | refine bk_ ?_ | refine sc_ ?_ | (refine sk_ ?_; first | (show aWp _ _ _ _ _) | skip) | (refine ex_ ?_; first | (show aWp _ _ _ _ _) | skip) | refine rt_ ?_)
        -- DBG
        refine ⟨n - (j + 1), by omega, ⟨j + 1, s2, L2, w2, a2, by omega, rfl, ?_, hst2, z1, z2, z3, z4, ?_, ?_, ?_, z8, z9, z10, z11⟩, ?_, ?_, ?_, rfl⟩
        · (have FX := Fx0; exact cl_)
        · first | exact z5 | (simp only; omega)
        · first | exact z6 | (simp only; omega)
        · first | exact z7 | (simp only; omega)
        · repeat (refine KAgree.upd rfl ?_)
          exact hag
        · exact fun q hq => absurd hq (Nat.not_lt_zero q)
        · first | omega | (simp only; omega)
    · obtain rfl : j = n := by omega
      have hd0 : decide (((64 * j : Nat) : Int) < (b.length : Int)) = false := decide_eq_false (by omega)
      have FX := Fx.mk (And.intro @h4 <| And.intro @f0 <| And.intro @f1 <| And.intro @f2 <| And.intro @gp <| And.intro @gq <| And.intro @e1 <| @hd0)
      repeat (first | refine v_ ?_ | refine u_ ?_ | refine nl_ ?_ | (refine nz_ ?_; first | (show aWp _ _ _ _ _) | skip) | refine sq_ ?_ | refine rg_ ?_ | refine k_ ?_ | refine ct_ ?_ | refine cf_ ?_ | refine bk_ ?_ | refine sc_ ?_ | (refine sk_ ?_; first | (show aWp _ _ _ _ _) | skip) | (refine ex_ ?_; first | (show aWp _ _ _ _ _) | skip) | refine rt_ ?_)
      have hll : (layA at_ b).length = j := by simp [layA]; omega
      rw [List.take_of_length_le (by omega), hd] at hst
      cases hst
      exact ⟨.inl rfl, rfl, by first | omega | (simp only; omega), hkeep, w1, a1, by omega, by omega, by first | omega | (simp only; omega), by first | omega | (simp only; omega), hc1⟩
  · rintro D h2 k2 ⟨g1, g2, w', a', g3, g4, g5, g6, g7⟩
    exact ⟨.inr ⟨D, rfl⟩, .tup [], by rw [Tryd.results36]; rfl, by first | omega | (simp only; omega), g2, rfl, w', a', g3, g4, g5, g6, g7⟩
end Go.Proofs.YtjidgdfdeckofaaDoor.AE
