/- Texts U22. -/
import Derived.Test.YtjidgdfdeckofaaDoorV24
import Derived.Test.YtjidgdfdeckofaaDoorV26
import Derived.Test.YtjidgdfdeckofaaDoorU14
/- Layer 16: Open. -/
namespace Go.Proofs.YtjidgdfdeckofaaDoor.AE
open Go Go.RowKit Go.Proofs Go.Proofs.YtjidgdfdeckofaaDoor
set_option linter.unusedVariables false
set_option linter.unusedSimpArgs false
set_option maxRecDepth 100000
set_option maxHeartbeats 8000000
theorem opn1_idle (o n e : Nat) (h : AHeap) (nx : Nat) : aCallsD Tryd.prog 12 [.ptr o 0 0, .ptr n 0 0, .ptr e 0 0] .idle h nx .idle (fun h' k' => h' = h ∧ nx ≤ k') := by
  refine aCallsD_body Tryd.func12 rfl rfl (by simp [Tryd.ntmps12]) ?_
  rw [Tryd.ntmps12]
  refine S_seq ?_
  refine S_region ?_
  refine S_rec_idle rfl ?_
  refine S_assert_nil rfl (by rw [Tryd.underlying31]; exact ⟨rfl, fun ms q => by cases q⟩) (z := .int .i64 0) (fun w => by rfl) rfl ?_
  have FX := Fx0
  repeat refine S_val (by (have FX := Fx0; exact cl_)) (Nat.le_refl _) rfl ?_
  refine S_nil ?_
  refine S_of ?_
  have FX := Fx0
  repeat (first | refine v_ ?_ | refine u_ ?_ | refine nl_ ?_ | (refine nz_ ?_; first | (show aWp _ _ _ _ _) | skip) | refine sq_ ?_ | refine rg_ ?_ | refine k_ ?_ | refine ct_ ?_ | refine cf_ ?_ | refine bk_ ?_ | refine sc_ ?_ | (refine sk_ ?_; first | (show aWp _ _ _ _ _) | skip) | (refine ex_ ?_; first | (show aWp _ _ _ _ _) | skip) | refine rt_ ?_)
  exact ⟨rfl, rfl, ⟨_, rfl⟩, rfl, Nat.le_refl _⟩
theorem opn1_pan (o n e : Nat) (x : Int) (h : AHeap) (nx : Nat) (a : List AV) (b c : AV) (hne : o ≠ n ∧ o ≠ e ∧ n ≠ e) (ho : h o = some ⟨15, [a]⟩) (hal : a.length = 15) (hn : h n = some ⟨1, [[b]]⟩) (he : h e = some ⟨1, [[c]]⟩) :
    aCallsD Tryd.prog 12 [.ptr o 0 0, .ptr n 0 0, .ptr e 0 0] (.pan (.iface 31 (.int .i64 x)) false) h nx (.pan (.iface 31 (.int .i64 x)) true) (fun h' k' => h' = upd (upd (upd h o (some ⟨15, [zeroC]⟩)) n (some ⟨1, [[.zs]]⟩)) e (some ⟨1, [[.int .i64 x]]⟩) ∧ nx ≤ k') := by
  obtain ⟨h1, h2, h3⟩ := hne
  unfold zeroC
  obtain ⟨a0, a1, a2, a3, a4, a5, a6, a7, a8, a9, a10, a11, a12, a13, a14, rfl⟩ : ∃ a0 a1 a2 a3 a4 a5 a6 a7 a8 a9 a10 a11 a12 a13 a14, a = [a0, a1, a2, a3, a4, a5, a6, a7, a8, a9, a10, a11, a12, a13, a14] := by
    match a, hal with
    | [a0, a1, a2, a3, a4, a5, a6, a7, a8, a9, a10, a11, a12, a13, a14], _ => exact ⟨a0, a1, a2, a3, a4, a5, a6, a7, a8, a9, a10, a11, a12, a13, a14, rfl⟩
  refine aCallsD_body Tryd.func12 rfl rfl (by simp [Tryd.ntmps12]) ?_
  rw [Tryd.ntmps12]
  refine S_seq ?_
  refine S_region ?_
  refine S_rec_pan rfl ?_
  refine S_assert_hit rfl (by rw [Tryd.underlying31]; exact ⟨rfl, fun ms q => by cases q⟩) rfl ?_
  have FX := Fx0
  repeat refine S_val (by (have FX := Fx0; exact cl_)) (Nat.le_refl _) rfl ?_
  refine S_nil ?_
  refine S_of ?_
  have FX := Fx.mk (And.intro @ho <| And.intro @hn <| @he)
  repeat (first | refine v_ ?_ | refine u_ ?_ | refine nl_ ?_ | (refine nz_ ?_; first | (show aWp _ _ _ _ _) | skip) | refine sq_ ?_ | refine rg_ ?_ | refine k_ ?_ | refine ct_ ?_ | refine cf_ ?_ | refine bk_ ?_ | refine sc_ ?_ | (refine sk_ ?_; first | (show aWp _ _ _ _ _) | skip) | (refine ex_ ?_; first | (show aWp _ _ _ _ _) | skip) | refine rt_ ?_)
  exact ⟨rfl, rfl, ⟨_, rfl⟩, rfl, Nat.le_refl _⟩
theorem pager_Open (S : List (List Int)) (W : List Act3) (cap : Int) : aFun Tryd.prog 5 [hostV S W cap] (opV (opP S W cap)) := by
  by_cases hok : okH S W cap
  case neg =>
    have hc := host_Crash S W cap []
    rw [if_neg hok] at hc
    rw [show opV (opP S W cap) = .tup [.agg [.sl [], .sl [], .int .i64 0, .int .i64 0, .int .i64 0, .int .i64 0, .int .i64 0, .int .i64 0, .int .i64 0, .int .i64 0, .sl [], .int .i64 0, .int .i64 0, .int .i64 0, .int .i64 0], .sl [], .int .i64 9] by unfold opP; rw [if_neg hok]; rfl]
    unfold hostV at hc ⊢
    change aFun _ _ [_, .sl []] (.tup [.agg [.sl [], .sl [], .int .i64 0], .int .i64 9]) at hc
    have d9 : decide ((9 : Int) = 0) = false := rfl
    refine aFun_body Tryd.func5 rfl rfl (by simp [Tryd.ntmps5]) fun hreal h nx hfresh => ?_
    rw [Tryd.ntmps5]
    have FX := Fx.mk (And.intro @d9 <| @Bool.not_false)
    repeat (first | refine v_ ?_ | refine u_ ?_ | refine f_ (hc) fun kf hkf => ?_ | refine nl_ ?_ | (refine nz_ ?_; first | (show aWp _ _ _ _ _) | skip) | refine sq_ ?_ | refine rg_ ?_ | refine k_ ?_ | refine ct_ ?_ | refine cf_ ?_ | refine bk_ ?_ | refine sc_ ?_ | (refine sk_ ?_; first | (show aWp _ _ _ _ _) | skip) | (refine ex_ ?_; first | (show aWp _ _ _ _ _) | skip) | refine rt_ ?_)
    have FX := Fx0
    refine W_draw mixed rfl rfl ?_
    repeat (first | refine dq_ ?_ | refine dr_ [nx + 1 + 1 + 1] ?_ | refine ds_ [nx + 1] ?_ | refine ds_ [nx + 1 + 1] ?_ | refine ds_ [nx + 1 + 1 + 1] ?_ | refine dn_ ?_)
    refine fun kd hkd => ?_
    simp only [List.length_cons, List.length_nil] at hkd
    show aWp _ _ _ _ _
    have FX := Fx0
    repeat (first | refine v_ ?_ | refine u_ ?_ | refine nl_ ?_ | (refine nz_ ?_; first | (show aWp _ _ _ _ _) | skip) | refine sq_ ?_ | refine rg_ ?_ | refine k_ ?_ | refine ct_ ?_ | refine cf_ ?_ | refine bk_ ?_ | refine sc_ ?_ | (refine sk_ ?_; first | (show aWp _ _ _ _ _) | skip) | (refine ex_ ?_; first | (show aWp _ _ _ _ _) | skip) | refine rt_ ?_)
    (have FX := Fx0; exact end_ Tryd.results5)
  have hc := host_CrashZ S W cap [] hok
  rw [runH_nil] at hc
  rw [show opP S W cap = opS S cap by unfold opP; rw [if_pos hok]]
  unfold hostV at hc ⊢
  have bz : (AV.sl (boolB [])) = AV.sl [] := rfl
  rw [bz] at hc
  obtain ⟨oc1, oc2, oc3, oc4, oc5⟩ := hok
  have e1 := secB_len S
  have d0 : decide ((0 : Int) = 0) = true := rfl
  refine aFun_defer Tryd.func5 rfl rfl (by simp [Tryd.ntmps5]) fun hreal h nx hfresh => ?_
  rw [Tryd.ntmps5]
  by_cases c1 : S.length < 2
  · rw [show opS S cap = .error 21 from if_pos c1]
    have d1 : decide ((S.length : Int) < 2) = true := decide_eq_true (by omega)
    have FX := Fx.mk (And.intro @d0 <| And.intro @Bool.not_true <| And.intro @e1 <| @d1)
    repeat (first | refine dfr0_ ?_ | refine v_ ?_ | refine u_ ?_ | refine f_ (hc) fun kf hkf => ?_ | refine nl_ ?_ | (refine nz_ ?_; first | (show aWp _ _ _ _ _) | skip) | refine sq_ ?_ | refine rg_ ?_ | refine k_ ?_ | refine ct_ ?_ | refine cf_ ?_ | refine bk_ ?_ | refine sc_ ?_ | (refine sk_ ?_; first | (show aWp _ _ _ _ _) | skip) | (refine ex_ ?_; first | (show aWp _ _ _ _ _) | skip) | refine rt_ ?_)
    have cc : Tryd.prog.concrete 31 = true := by rfl
    have FX := Fx.mk (@aop_mi)
    repeat (first | refine v_ ?_ | refine u_ ?_ | refine nl_ ?_ | (refine nz_ ?_; first | (show aWp _ _ _ _ _) | skip) | refine sq_ ?_ | refine rg_ ?_ | refine k_ ?_ | refine ct_ ?_ | refine cf_ ?_ | refine bk_ ?_ | refine sc_ ?_ | (refine sk_ ?_; first | (show aWp _ _ _ _ _) | skip) | (refine ex_ ?_; first | (show aWp _ _ _ _ _) | skip) | refine rt_ ?_)
    refine pn_ ?_
    refine .inr ⟨_, _, rfl, by simp only [WS], aCallsD_mono (opn1_pan (nx + 1) (nx + 1 + 1) (nx + 1 + 1 + 1) 21 _ _ _ _ _ ⟨by omega, by omega, by omega⟩ (by (have FX := Fx0; exact cl_)) rfl (by (have FX := Fx0; exact cl_)) (by (have FX := Fx0; exact cl_))) ?_⟩
    rintro h3 k3 ⟨rfl, hk3⟩
    refine ⟨.tup [.agg zeroC, .zs, .int .i64 21], ?_, _, rfl, ?_, fun q hq => ?_, by (try simp only at hk3); first | omega | (simp only; omega)⟩
    · rw [Tryd.results5]
      unfold zeroC
      (have FX := Fx0; exact cr_)
    · rfl
    · simp (disch := omega) only [upd_ne]
  have d1 : decide ((S.length : Int) < 2) = false := decide_eq_false (by omega)
  have FX := Fx.mk (And.intro @d0 <| And.intro @Bool.not_true <| And.intro @e1 <| @d1)
  repeat (first | refine dfr0_ ?_ | refine v_ ?_ | refine u_ ?_ | refine f_ (hc) fun kf hkf => ?_ | refine nl_ ?_ | (refine nz_ ?_; first | (show aWp _ _ _ _ _) | skip) | refine sq_ ?_ | refine rg_ ?_ | refine k_ ?_ | refine ct_ ?_ | refine cf_ ?_ | refine bk_ ?_ | refine sc_ ?_ | (refine sk_ ?_; first | (show aWp _ _ _ _ _) | skip) | (refine ex_ ?_; first | (show aWp _ _ _ _ _) | skip) | refine rt_ ?_)
  obtain ⟨s0, hs0⟩ : ∃ s0, S[0]? = some s0 := ⟨S[0]'(by omega), List.getElem?_eq_getElem _⟩
  obtain ⟨s1, hs1⟩ : ∃ s1, S[1]? = some s1 := ⟨S[1]'(by omega), List.getElem?_eq_getElem _⟩
  have g0 := secB_get S 0 s0 hs0
  have g1 := secB_get S 1 s1 hs1
  have nw := super_Newest s0 s1
  have hnk := newer_ok s0 s1
  unfold Sup.newerV at nw
  have hop : opS S cap = (if (Sup.newer s0 s1).2.2 ≠ 0 then .error (Sup.newer s0 s1).2.2 else if (S.length : Int) < (Sup.newer s0 s1).1.base then .error 21 else
    match rcStep (Sup.newer s0 s1).1.p (stPages S (Sup.newer s0 s1).1, (Sup.newer s0 s1).1.r, (Sup.newer s0 s1).1.d) (jScan S (Sup.newer s0 s1).1).1 with
    | none => .error 21
    | some st => opE S cap (Sup.newer s0 s1).1 st) := by
    unfold opS
    rw [if_neg (by omega), getD_some hs0, getD_some hs1]
    rfl
  generalize Sup.newer s0 s1 = nwr at nw hnk hop
  obtain ⟨sp, ix, er⟩ := nwr
  dsimp only at nw hnk hop
  unfold Sup.av Sup.cells at nw
  obtain ⟨kp, rfl⟩ : ∃ kp, kp = kf := ⟨_, rfl⟩
  have FX := Fx.mk (And.intro @NL <| And.intro @e1 <| And.intro @g0 <| @g1)
  refine W_draw mixed rfl rfl ?_
  repeat (first | refine dq_ ?_ | refine df_ (nw) ?_ | refine dr_ [nx, nx + 1 + 1 + 1] ?_ | refine dm_ [kp + (0 + 1 + 1 + 1 + 1 + 1 + 1 + 1 + 1 + 1 + 1 + 1 + 1 + 1)] ?_ | refine da_ [kp + (0 + 1 + 1 + 1 + 1 + 1 + 1 + 1 + 1 + 1 + 1 + 1 + 1 + 1)] ?_ | refine ds_ [nx, nx + 1 + 1 + 1] ?_ | refine ds_ [kp + (0 + 1 + 1 + 1 + 1 + 1 + 1 + 1 + 1 + 1 + 1 + 1 + 1 + 1)] ?_ | refine dw_ [nx, nx + 1 + 1 + 1] ?_ | refine dk_ ?_ | refine dn_ ?_)
  refine fun kd hkd => ?_
  simp only [List.length_cons, List.length_nil] at hkd
  first | (show aWp _ _ _ _ _) | skip
  by_cases c2 : er = 0
  case neg =>
    rw [hop, if_pos c2]
    have FX := Fx0
    repeat (first | refine v_ ?_ | refine u_ ?_ | refine p_ ((must_no er c2)) fun kf hkf => ?_ | refine nl_ ?_ | (refine nz_ ?_; first | (show aWp _ _ _ _ _) | skip) | refine sq_ ?_ | refine rg_ ?_ | refine k_ ?_ | refine ct_ ?_ | refine cf_ ?_ | refine bk_ ?_ | refine sc_ ?_ | (refine sk_ ?_; first | (show aWp _ _ _ _ _) | skip) | (refine ex_ ?_; first | (show aWp _ _ _ _ _) | skip) | refine rt_ ?_)
    refine .inr ⟨_, _, rfl, by simp only [WS], aCallsD_mono (opn1_pan (nx + 1) (nx + 1 + 1) (nx + 1 + 1 + 1) er _ _ _ _ _ ⟨by omega, by omega, by omega⟩ (by (have FX := Fx0; exact cl_)) rfl (by (have FX := Fx0; exact cl_)) (by (have FX := Fx0; exact cl_))) ?_⟩
    rintro h3 k3 ⟨rfl, hk3⟩
    refine ⟨.tup [.agg zeroC, .zs, .int .i64 er], ?_, _, rfl, ?_, fun q hq => ?_, by (try simp only at hk3); first | omega | (simp only; omega)⟩
    · rw [Tryd.results5]
      unfold zeroC
      (have FX := Fx0; exact cr_)
    · rfl
    · simp (disch := omega) only [upd_ne]
  subst c2
  have spk := hnk rfl
  have pl := super_PlacesP sp spk
  unfold Sup.av Sup.cells Sup.placesP at pl
  rw [if_neg (by simp)] at hop
  by_cases c3 : (S.length : Int) < sp.base
  · have d3 : decide ((S.length : Int) < sp.base) = true := decide_eq_true c3
    rw [hop, if_pos c3]
    have FX := Fx.mk (And.intro @e1 <| @d3)
    repeat (first | refine v_ ?_ | refine u_ ?_ | refine f_ (must_ok) fun kf hkf => ?_ | refine f_ (pl) fun kf hkf => ?_ | refine nl_ ?_ | (refine nz_ ?_; first | (show aWp _ _ _ _ _) | skip) | refine sq_ ?_ | refine rg_ ?_ | refine k_ ?_ | refine ct_ ?_ | refine cf_ ?_ | refine bk_ ?_ | refine sc_ ?_ | (refine sk_ ?_; first | (show aWp _ _ _ _ _) | skip) | (refine ex_ ?_; first | (show aWp _ _ _ _ _) | skip) | refine rt_ ?_)
    have cc : Tryd.prog.concrete 31 = true := by rfl
    have FX := Fx.mk (@aop_mi)
    repeat (first | refine v_ ?_ | refine u_ ?_ | refine nl_ ?_ | (refine nz_ ?_; first | (show aWp _ _ _ _ _) | skip) | refine sq_ ?_ | refine rg_ ?_ | refine k_ ?_ | refine ct_ ?_ | refine cf_ ?_ | refine bk_ ?_ | refine sc_ ?_ | (refine sk_ ?_; first | (show aWp _ _ _ _ _) | skip) | (refine ex_ ?_; first | (show aWp _ _ _ _ _) | skip) | refine rt_ ?_)
    refine pn_ ?_
    refine .inr ⟨_, _, rfl, by simp only [WS], aCallsD_mono (opn1_pan (nx + 1) (nx + 1 + 1) (nx + 1 + 1 + 1) 21 _ _ _ _ _ ⟨by omega, by omega, by omega⟩ (by (have FX := Fx0; exact cl_)) rfl (by (have FX := Fx0; exact cl_)) (by (have FX := Fx0; exact cl_))) ?_⟩
    rintro h3 k3 ⟨rfl, hk3⟩
    refine ⟨.tup [.agg zeroC, .zs, .int .i64 21], ?_, _, rfl, ?_, fun q hq => ?_, by (try simp only at hk3); first | omega | (simp only; omega)⟩
    · rw [Tryd.results5]
      unfold zeroC
      (have FX := Fx0; exact cr_)
    · rfl
    · simp (disch := omega) only [upd_ne]
  have d3 : decide ((S.length : Int) < sp.base) = false := decide_eq_false c3
  rw [if_neg c3] at hop
  obtain ⟨v1, v2, v3, v4, v5, v6, v7⟩ := sp.ok_iff.1 spk
  obtain ⟨jn, hjn⟩ : ∃ jn : Nat, sp.j = (jn : Int) := ⟨sp.j.toNat, by omega⟩
  obtain ⟨pn, hpn⟩ : ∃ pn : Nat, sp.p = (pn : Int) := ⟨sp.p.toNat, by omega⟩
  have hbs : sp.base = ((2 + jn + pn : Nat) : Int) := by unfold Sup.base; omega
  have hfr : 2 + sp.j = ((2 + jn : Nat) : Int) := by omega
  have hSb : 2 + jn + pn ≤ S.length := by omega
  obtain ⟨ps, hps⟩ : ∃ ps, stPages S sp = ps := ⟨_, rfl⟩
  have hps1 : ps = (S.drop (2 + jn)).take pn := by rw [← hps]; unfold stPages; rw [hjn, hpn]; rfl
  have hpl : ps.length = pn := by rw [hps1]; simp; omega
  have hjs : (jScan S sp) = scanS ((S.drop 2).take jn).flatten (sp.s + 1) := by unfold jScan jOct; rw [hjn]; rfl
  have hp64 : PgS.pagesOk ps := fun b hb => .inr (oc3 b (by rw [hps1] at hb; exact List.mem_of_mem_drop (List.mem_of_mem_take hb)))
  have cs := Clone_sec ps (by omega)
  have hcut : ((secB S).take (2 + jn + pn)).drop (2 + jn) = secB ps := by
    rw [hps1, List.drop_take, Nat.add_sub_cancel_left]
    unfold secB
    rw [List.map_take, List.map_drop]
  have hsz : (secB S).all (fun c => c.length == 1) = true := by simp [secB]
  have ht1 : ((2 + jn + pn : Nat) : Int).toNat = 2 + jn + pn := Int.toNat_natCast _
  have ht2 : ((2 + jn : Nat) : Int).toNat = 2 + jn := Int.toNat_natCast _
  have hlo : ((2 + jn : Nat) : Int) ≤ ((2 + jn + pn : Nat) : Int) := by omega
  have hhi : ((2 + jn + pn : Nat) : Int) ≤ (S.length : Int) := by omega
  have e5 := secB_len ps
  rw [hfr, hbs] at pl
  rw [hbs] at d3
  have FX := Fx.mk (And.intro @e1 <| @d3)
  repeat (first | refine v_ ?_ | refine u_ ?_ | refine f_ (must_ok) fun kf hkf => ?_ | refine f_ (pl) fun kf hkf => ?_ | refine nl_ ?_ | (refine nz_ ?_; first | (show aWp _ _ _ _ _) | skip) | refine sq_ ?_ | refine rg_ ?_ | refine k_ ?_ | refine ct_ ?_ | refine cf_ ?_ | refine bk_ ?_ | refine sc_ ?_ | (refine sk_ ?_; first | (show aWp _ _ _ _ _) | skip) | (refine ex_ ?_; first | (show aWp _ _ _ _ _) | skip) | refine rt_ ?_)
  obtain ⟨m, rfl⟩ : ∃ m, m = kf := ⟨_, rfl⟩
  have FX := Fx.mk (And.intro @e1 <| And.intro @e5 <| And.intro @hcut <| And.intro @hsz <| And.intro @ht1 <| And.intro @ht2 <| And.intro @hlo <| @hhi)
  repeat (first | refine v_ ?_ | refine u_ ?_ | refine o_ (cs) fun mf kf hmf hkf => ?_ | refine nl_ ?_ | (refine nz_ ?_; first | (show aWp _ _ _ _ _) | skip) | refine sq_ ?_ | refine rg_ ?_ | refine k_ ?_ | refine ct_ ?_ | refine cf_ ?_ | refine bk_ ?_ | refine sc_ ?_ | (refine sk_ ?_; first | (show aWp _ _ _ _ _) | skip) | (refine ex_ ?_; first | (show aWp _ _ _ _ _) | skip) | refine rt_ ?_)
  obtain ⟨⟨L, N⟩, hLN⟩ : ∃ t, jScan S sp = t := ⟨_, rfl⟩
  have rpl := fun h nx => @pager_replay S cap sp ps sp.r sp.d m mf 2 jn spk oc3 (by omega) (by omega) (by omega) h nx
  rw [show ((2 : Nat) : Int) = 2 from rfl] at rpl
  rw [hLN] at hjs
  rw [hps, hLN] at hop
  have hgm : mf ≠ m := by omega
  have hgn : nx + 1 + 1 + 1 < m ∧ nx + 1 + 1 + 1 < mf := by omega
  refine RP_ (rpl _ _ (by unfold opB; (have FX := Fx.mk (@e5); exact cl_)) (by (have FX := Fx0; exact cl_)) hgm hjs.symm) ?_ ?_
  rotate_left
  · rintro av H k2 ⟨r1, r2, r3⟩
    cases hrc : rcStep sp.p (ps, sp.r, sp.d) L with
    | some st => rw [hrc] at r3; cases r3.1
    | none =>
      rw [hrc] at r3 hop
      cases r3
      rw [hop]
      have b1 : H (nx + 1) = some ⟨15, [[.zs, .zs, .int .i64 0, .int .i64 0, .int .i64 0, .int .i64 0, .int .i64 0, .int .i64 0, .int .i64 0, .int .i64 0, .zs, .int .i64 0, .int .i64 0, .int .i64 0, .int .i64 0]]⟩ := by
        rw [r2 (nx + 1) (by first | omega | (simp only; omega)) (by omega) (by omega)]
        (have FX := Fx0; exact cl_)
      have b2 : H (nx + 1 + 1) = some ⟨1, [[.zs]]⟩ := by
        rw [r2 (nx + 1 + 1) (by first | omega | (simp only; omega)) (by omega) (by omega)]
        (have FX := Fx0; exact cl_)
      have b3 : H (nx + 1 + 1 + 1) = some ⟨1, [[.int .i64 0]]⟩ := by
        rw [r2 (nx + 1 + 1 + 1) (by first | omega | (simp only; omega)) (by omega) (by omega)]
        (have FX := Fx0; exact cl_)
      have bh : H nx = some ⟨3, [[.sl (secB S), .zs, .int .i64 cap]]⟩ := by
        rw [r2 nx (by first | omega | (simp only; omega)) (by omega) (by omega)]
        (have FX := Fx0; exact cl_)
      have b0 : ∀ q, q < nx → H q = h q := fun q hq => by
        rw [r2 q (by first | omega | (simp only; omega)) (by omega) (by omega)]
        simp (disch := omega) only [upd_ne]
      refine .inr ⟨_, _, rfl, by simp only [WS], aCallsD_mono (opn1_pan (nx + 1) (nx + 1 + 1) (nx + 1 + 1 + 1) 21 _ _ _ _ _ ⟨by omega, by omega, by omega⟩ b1 rfl b2 b3) ?_⟩
      rintro h3 k3 ⟨rfl, hk3⟩
      refine ⟨.tup [.agg zeroC, .zs, .int .i64 21], ?_, _, rfl, ?_, fun q hq => ?_, by (try simp only at hk3); first | omega | (simp only; omega)⟩
      · rw [Tryd.results5]
        unfold zeroC
        (have FX := Fx0; exact cr_)
      · rfl
      · simp (disch := omega) only [upd_ne]
        exact b0 q hq
  rintro av H k2 ⟨r1, r2, r3⟩
  cases hrc : rcStep sp.p (ps, sp.r, sp.d) L with
  | none => rw [hrc] at r3; cases r3
  | some st =>
    rw [hrc] at r3 hop
    obtain ⟨r3, hm2, hg2⟩ := r3
    cases r3
    dsimp only at hop
    rw [hop]
    have b1 : H (nx + 1) = some ⟨15, [[.zs, .zs, .int .i64 0, .int .i64 0, .int .i64 0, .int .i64 0, .int .i64 0, .int .i64 0, .int .i64 0, .int .i64 0, .zs, .int .i64 0, .int .i64 0, .int .i64 0, .int .i64 0]]⟩ := by
      rw [r2 (nx + 1) (by first | omega | (simp only; omega)) (by omega) (by omega)]
      (have FX := Fx0; exact cl_)
    have b2 : H (nx + 1 + 1) = some ⟨1, [[.zs]]⟩ := by
      rw [r2 (nx + 1 + 1) (by first | omega | (simp only; omega)) (by omega) (by omega)]
      (have FX := Fx0; exact cl_)
    have b3 : H (nx + 1 + 1 + 1) = some ⟨1, [[.int .i64 0]]⟩ := by
      rw [r2 (nx + 1 + 1 + 1) (by first | omega | (simp only; omega)) (by omega) (by omega)]
      (have FX := Fx0; exact cl_)
    have bh : H nx = some ⟨3, [[.sl (secB S), .zs, .int .i64 cap]]⟩ := by
      rw [r2 nx (by first | omega | (simp only; omega)) (by omega) (by omega)]
      (have FX := Fx0; exact cl_)
    have b0 : ∀ q, q < nx → H q = h q := fun q hq => by
      rw [r2 q (by first | omega | (simp only; omega)) (by omega) (by omega)]
      simp (disch := omega) only [upd_ne]
    unfold opB at hm2
    obtain ⟨g1r, g2r, g3r, ⟨tN, g4r⟩, g5r⟩ := scan_run (jOct S sp).length (jOct S sp) (sp.s + 1) (Nat.le_refl _)
    rw [show scanS (jOct S sp) (sp.s + 1) = (L, N) from hLN] at g1r g2r g3r g4r g5r
    have hst := rcStep_pages _ _ _ _ hp64 (fun r hr => g1r.get r hr) hrc
    have hsl := rcStep_len _ _ _ _ hrc
    dsimp only at hsl
    have hsb := rcStep_bounds _ _ _ _ (by dsimp only; omega) (by dsimp only; omega) (fun r hr => g1r.get r hr) hrc
    have wh := pager_whole st.1 (by omega) (fun b hb => by rcases hst b hb with q | q <;> omega)
    have e6 := secB_len st.1
    refine aOps_sub (Sub.freezeH (z := mf) (m := m) hg2 hm2 (by omega)) ?_
    have f1 : frzN mf ⟨1, secB st.1⟩ (.hs mf 0 ps.length) = .sl (secB st.1) := by
      show (if mf = mf ∧ 0 + ps.length ≤ (secB st.1).length then AV.sl (((secB st.1).drop 0).take ps.length) else .hs mf 0 ps.length) = _
      rw [if_pos ⟨rfl, by omega⟩, List.drop_zero, take_len _ _ (by omega)]
    have f3 : ∀ es, frzN mf ⟨1, secB st.1⟩ (.sl es) = .sl es := fun es => rfl
    have f4 : ∀ k n, frzN mf ⟨1, secB st.1⟩ (.int k n) = .int k n := fun _ _ => rfl
    have f5 : frzN mf ⟨1, secB st.1⟩ .zs = .zs := rfl
    simp only [List.map_cons, List.map_nil, f1, f3, f4, f5]
    have hwb : IntKind.i64.wrap (((2 + jn + pn : Nat) : Int) + st.2.2) = sp.base + st.2.2 := by rw [wrapI] <;> omega
    have x1 : nx + 1 ≠ mf := by omega
    have x2 : nx + 1 + 1 ≠ mf := by omega
    have x3 : nx + 1 + 1 + 1 ≠ mf := by omega
    have x4 : nx ≠ mf := by omega
    have y1 : nx + 1 ≠ m := by omega
    have y2 : nx + 1 + 1 ≠ m := by omega
    have y3 : nx + 1 + 1 + 1 ≠ m := by omega
    have y4 : nx ≠ m := by omega
    have nk2 : m < k2 ∧ mf < k2 := by (try simp only at r1); omega
    show aOps _ _ _ _ _ _
    have FX := Fx.mk (And.intro @NL <| And.intro @bh <| And.intro @hwb <| @e1)
    repeat (first | refine v_ ?_ | refine u_ ?_ | refine f_ (wh) fun kf hkf => ?_ | refine nl_ ?_ | (refine nz_ ?_; first | (show aWp _ _ _ _ _) | skip) | refine sq_ ?_ | refine rg_ ?_ | refine k_ ?_ | refine ct_ ?_ | refine cf_ ?_ | refine bk_ ?_ | refine sc_ ?_ | (refine sk_ ?_; first | (show aWp _ _ _ _ _) | skip) | (refine ex_ ?_; first | (show aWp _ _ _ _ _) | skip) | refine rt_ ?_)
    have hv0 : opT S cap sp st = ⟨S, [], cap, sp, wholeP st.1, st.2.1, st.2.2, sp.s + (L.length : Int), (N : Int) / 64⟩ := by unfold opT; rw [hLN]
    by_cases c4 : sp.base + st.2.2 = (S.length : Int)
    · have d4 : decide (sp.base + st.2.2 = (S.length : Int)) = true := decide_eq_true c4
      rw [show opE S cap sp st = .ok (opT S cap sp st, []) from if_pos c4, hv0]
      have FX := Fx.mk (And.intro @d4 <| @Bool.not_true)
      repeat (first | refine v_ ?_ | refine u_ ?_ | refine nl_ ?_ | (refine nz_ ?_; first | (show aWp _ _ _ _ _) | skip) | refine sq_ ?_ | refine rg_ ?_ | refine k_ ?_ | refine ct_ ?_ | refine cf_ ?_ | refine bk_ ?_ | refine sc_ ?_ | (refine sk_ ?_; first | (show aWp _ _ _ _ _) | skip) | (refine ex_ ?_; first | (show aWp _ _ _ _ _) | skip) | refine rt_ ?_)
      have FX := Fx.mk (And.intro @NL <| And.intro @b1 <| And.intro @b2 <| @b3)
      refine W_draw mixed rfl rfl ?_
      repeat (first | refine dq_ ?_ | refine dr_ [m] ?_ | refine dm_ [nx + 1, nx + 1 + 1, nx + 1 + 1 + 1] ?_ | refine da_ [nx + 1, nx + 1 + 1, nx + 1 + 1 + 1] ?_ | refine ds_ [m] ?_ | refine ds_ [nx + 1, nx + 1 + 1, nx + 1 + 1 + 1] ?_ | refine dw_ [m] ?_ | refine dk_ ?_ | refine dn_ ?_)
      refine fun kd hkd => ?_
      simp only [List.length_cons, List.length_nil] at hkd
      first | (show aWp _ _ _ _ _) | skip
      have FX := Fx0
      repeat (first | refine v_ ?_ | refine u_ ?_ | refine nl_ ?_ | (refine nz_ ?_; first | (show aWp _ _ _ _ _) | skip) | refine sq_ ?_ | refine rg_ ?_ | refine k_ ?_ | refine ct_ ?_ | refine cf_ ?_ | refine bk_ ?_ | refine sc_ ?_ | (refine sk_ ?_; first | (show aWp _ _ _ _ _) | skip) | (refine ex_ ?_; first | (show aWp _ _ _ _ _) | skip) | refine rt_ ?_)
      refine .inr ⟨_, _, rfl, by simp only [WS], aCallsD_mono (opn1_idle _ _ _ _ _) ?_⟩
      rintro h3 k3 ⟨rfl, hk3⟩
      refine ⟨.tup [.agg [.sl (secB S), .zs, .int .i64 cap, .int .i64 sp.e, .int .i64 sp.v, .int .i64 sp.j, .int .i64 sp.p, .int .i64 sp.d, .int .i64 sp.s, .int .i64 sp.r, .sl (secB (wholeP st.1)), .int .i64 st.2.1, .int .i64 st.2.2, .int .i64 (sp.s + (L.length : Int)), .int .i64 ((N : Int) / 64)], .zs, .int .i64 0], ?_, _, rfl, ?_, fun q hq => ?_, by (try simp only at hk3 r1); omega⟩
      · rw [Tryd.results5]
        (have FX := Fx0; exact cr_)
      · rw [show opV (.ok ((⟨S, [], cap, sp, wholeP st.1, st.2.1, st.2.2, sp.s + (L.length : Int), (N : Int) / 64⟩ : PgS), [])) = .tup [PgS.av ⟨S, [], cap, sp, wholeP st.1, st.2.1, st.2.2, sp.s + (L.length : Int), (N : Int) / 64⟩, .sl [], .int .i64 0] from rfl, PgS.av_eq]
        rfl
      · simp (disch := omega) only [upd_ne]
        exact b0 q hq
    · have d4 : decide (sp.base + st.2.2 = (S.length : Int)) = false := decide_eq_false c4
      rw [show opE S cap sp st = doP (opT S cap sp st) [] [(2, sp.base + st.2.2, []), barA] from if_neg c4, hv0]
      have FX := Fx.mk (And.intro @NL <| And.intro @d4 <| @Bool.not_false)
      repeat (first | refine v_ ?_ | refine u_ ?_ | refine nl_ ?_ | (refine nz_ ?_; first | (show aWp _ _ _ _ _) | skip) | refine sq_ ?_ | refine rg_ ?_ | refine k_ ?_ | refine ct_ ?_ | refine cf_ ?_ | refine bk_ ?_ | refine sc_ ?_ | (refine sk_ ?_; first | (show aWp _ _ _ _ _) | skip) | (refine ex_ ?_; first | (show aWp _ _ _ _ _) | skip) | refine rt_ ?_)
      obtain ⟨T, hT⟩ : ∃ T : PgS, (⟨S, [], cap, sp, wholeP st.1, st.2.1, st.2.2, sp.s + (L.length : Int), (N : Int) / 64⟩ : PgS) = T := ⟨_, rfl⟩
      rw [hT]
      have okT : T.okHost := by rw [← hT]; exact ⟨oc1, oc2, oc3, by simp, by simp⟩
      have hl0 : (actsB []).length = 0 := rfl
      refine aOps_sub (Sub.acts (t := 105) (l := [(2, sp.base + st.2.2, []), barA]) rfl (by (have FX := Fx0; exact cl_)) rfl rfl) ?_
      refine aOps_new 3 ?_
      refine aOps_new 3 ?_
      refine aOps_sub (Sub.zsH (m := m) (j := 1) (z := kf + 1) (sz' := 3) (by (have FX := Fx0; exact cl_)) rfl (by (have FX := Fx0; exact cl_))) ?_
      refine aOps_sub (Sub.zsH (m := m) (j := 15) (z := kf + 1 + 1) (sz' := 3) (by (have FX := Fx0; exact cl_)) rfl (by (have FX := Fx0; exact cl_))) ?_
      have hst0 : T.W = [] := by rw [← hT]
      refine RP_ (pager_do T [] [(2, sp.base + st.2.2, []), barA] m (kf + 1) (kf + 1 + 1) okT lenbar_good (by simp) ⟨by rw [← hT]; unfold callB; dsimp only [List.set, List.length_nil]; (have FX := Fx0; exact cl_), by rw [hst0]; show _ = some (Blk.mk 3 []); (have FX := Fx0; exact cl_), by show _ = some (Blk.mk 3 []); (have FX := Fx0; exact cl_), by omega, by omega, by omega⟩) ?_ ?_
      · rintro av H5 k5 ⟨p1, p2, p3⟩
        cases hdp : doP T [] [(2, sp.base + st.2.2, []), barA] with
        | error e => rw [hdp] at p3; cases p3
        | ok pr =>
        obtain ⟨s', L'⟩ := pr
        rw [hdp] at p3
        obtain ⟨p3, w', a', p4, p5, p6, p7, hc5⟩ := p3
        cases p3
        have dm := hc5.hm
        unfold callB at dm
        have q1 : H5 (nx + 1) = some ⟨15, [[.zs, .zs, .int .i64 0, .int .i64 0, .int .i64 0, .int .i64 0, .int .i64 0, .int .i64 0, .int .i64 0, .int .i64 0, .zs, .int .i64 0, .int .i64 0, .int .i64 0, .int .i64 0]]⟩ := by
          rw [p2 (nx + 1) (by first | omega | (simp only; omega)) (by omega) (by omega) (by omega)]
          (have FX := Fx.mk (@b1); exact cl_)
        have q2 : H5 (nx + 1 + 1) = some ⟨1, [[.zs]]⟩ := by
          rw [p2 (nx + 1 + 1) (by first | omega | (simp only; omega)) (by omega) (by omega) (by omega)]
          (have FX := Fx.mk (@b2); exact cl_)
        have q3 : H5 (nx + 1 + 1 + 1) = some ⟨1, [[.int .i64 0]]⟩ := by
          rw [p2 (nx + 1 + 1 + 1) (by first | omega | (simp only; omega)) (by omega) (by omega) (by omega)]
          (have FX := Fx.mk (@b3); exact cl_)
        have q0 : ∀ q, q < nx → H5 q = h q := fun q hq => by
          rw [p2 q (by first | omega | (simp only; omega)) (by omega) (by omega) (by omega)]
          simp (disch := omega) only [upd_ne]
          exact b0 q hq
        show aOps _ _ _ _ _ _
        have FX := Fx0
        repeat (first | refine v_ ?_ | refine u_ ?_ | refine nl_ ?_ | (refine nz_ ?_; first | (show aWp _ _ _ _ _) | skip) | refine sq_ ?_ | refine rg_ ?_ | refine k_ ?_ | refine ct_ ?_ | refine cf_ ?_ | refine bk_ ?_ | refine sc_ ?_ | (refine sk_ ?_; first | (show aWp _ _ _ _ _) | skip) | (refine ex_ ?_; first | (show aWp _ _ _ _ _) | skip) | refine rt_ ?_)
        have FX := Fx.mk (And.intro @NL <| And.intro @dm <| And.intro @q1 <| And.intro @q2 <| @q3)
        refine W_draw mixed rfl rfl ?_
        repeat (first | refine dq_ ?_ | refine dr_ [m] ?_ | refine dm_ [nx + 1, nx + 1 + 1, nx + 1 + 1 + 1] ?_ | refine da_ [nx + 1, nx + 1 + 1, nx + 1 + 1 + 1] ?_ | refine ds_ [m] ?_ | refine ds_ [nx + 1, nx + 1 + 1, nx + 1 + 1 + 1] ?_ | refine dw_ [m] ?_ | refine dk_ ?_ | refine dn_ ?_)
        refine fun kd hkd => ?_
        simp only [List.length_cons, List.length_nil] at hkd
        first | (show aWp _ _ _ _ _) | skip
        have FX := Fx0
        repeat (first | refine v_ ?_ | refine u_ ?_ | refine nl_ ?_ | (refine nz_ ?_; first | (show aWp _ _ _ _ _) | skip) | refine sq_ ?_ | refine rg_ ?_ | refine k_ ?_ | refine ct_ ?_ | refine cf_ ?_ | refine bk_ ?_ | refine sc_ ?_ | (refine sk_ ?_; first | (show aWp _ _ _ _ _) | skip) | (refine ex_ ?_; first | (show aWp _ _ _ _ _) | skip) | refine rt_ ?_)
        refine .inr ⟨_, _, rfl, by simp only [WS], aCallsD_mono (opn1_idle _ _ _ _ _) ?_⟩
        rintro h3 k3 ⟨rfl, hk3⟩
        refine ⟨.tup [.agg [.sl (secB s'.S), .hs w' 0 s'.W.length, .int .i64 s'.cap, .int .i64 s'.sup.e, .int .i64 s'.sup.v, .int .i64 s'.sup.j, .int .i64 s'.sup.p, .int .i64 s'.sup.d, .int .i64 s'.sup.s, .int .i64 s'.sup.r, .sl (secB s'.pages), .int .i64 s'.root, .int .i64 s'.room, .int .i64 s'.seq, .int .i64 s'.tail], .hs a' 0 L'.length, .int .i64 0], ?_, _, rfl, ?_, fun q hq => ?_, by (try simp only at hk3 p1); omega⟩
        · rw [Tryd.results5]
          (have FX := Fx0; exact cr_)
        · rw [show opV (.ok (s', L')) = .tup [s'.av, .sl (actsB L'), .int .i64 0] from rfl, PgS.av_eq]
          have hw9 := hc5.hw
          have ha9 := hc5.ha
          have hw8 : nx + 1 + 1 + 1 < w' := by (try simp only at p4); omega
          have ha8 : nx + 1 + 1 + 1 < a' := by (try simp only at p5); omega
          have i1 := actsB_len s'.W
          have i2 := actsB_len L'
          have t1 : (actsB s'.W).take s'.W.length = actsB s'.W := take_len _ _ i1
          have t2 : (actsB L').take L'.length = actsB L' := take_len _ _ i2
          have z1 : w' ≠ nx + 1 := by omega
          have z2 : w' ≠ nx + 1 + 1 := by omega
          have z3 : w' ≠ nx + 1 + 1 + 1 := by omega
          have z4 : a' ≠ nx + 1 := by omega
          have z5 : a' ≠ nx + 1 + 1 := by omega
          have z6 : a' ≠ nx + 1 + 1 + 1 := by omega
          have z7 : nx ≤ w' := by omega
          have z8 : nx ≤ a' := by omega
          first | rfl | (simp (disch := first | rfl | decide | omega | assumption | (simp only [LL]; omega)) only [WS, NB, WY, FY, hw9, ha9, i1, i2, t1, t2]; first | done | rfl)
        · simp (disch := omega) only [upd_ne]
          exact q0 q hq
      · rintro av H5 k5 ⟨p1, p2, p3⟩
        cases hdp : doP T [] [(2, sp.base + st.2.2, []), barA] with
        | ok pr => rw [hdp] at p3; cases p3.1
        | error e =>
          rw [hdp] at p3
          cases p3
          have q1 : H5 (nx + 1) = some ⟨15, [[.zs, .zs, .int .i64 0, .int .i64 0, .int .i64 0, .int .i64 0, .int .i64 0, .int .i64 0, .int .i64 0, .int .i64 0, .zs, .int .i64 0, .int .i64 0, .int .i64 0, .int .i64 0]]⟩ := by
            rw [p2 (nx + 1) (by first | omega | (simp only; omega)) (by omega) (by omega) (by omega)]
            (have FX := Fx.mk (@b1); exact cl_)
          have q2 : H5 (nx + 1 + 1) = some ⟨1, [[.zs]]⟩ := by
            rw [p2 (nx + 1 + 1) (by first | omega | (simp only; omega)) (by omega) (by omega) (by omega)]
            (have FX := Fx.mk (@b2); exact cl_)
          have q3 : H5 (nx + 1 + 1 + 1) = some ⟨1, [[.int .i64 0]]⟩ := by
            rw [p2 (nx + 1 + 1 + 1) (by first | omega | (simp only; omega)) (by omega) (by omega) (by omega)]
            (have FX := Fx.mk (@b3); exact cl_)
          have q0 : ∀ q, q < nx → H5 q = h q := fun q hq => by
            rw [p2 q (by first | omega | (simp only; omega)) (by omega) (by omega) (by omega)]
            simp (disch := omega) only [upd_ne]
            exact b0 q hq
          refine .inr ⟨_, _, rfl, by simp only [WS], aCallsD_mono (opn1_pan (nx + 1) (nx + 1 + 1) (nx + 1 + 1 + 1) e _ _ _ _ _ ⟨by omega, by omega, by omega⟩ q1 rfl q2 q3) ?_⟩
          rintro h3 k3 ⟨rfl, hk3⟩
          refine ⟨.tup [.agg zeroC, .zs, .int .i64 e], ?_, _, rfl, ?_, fun q hq => ?_, by (try simp only at hk3 p1); omega⟩
          · rw [Tryd.results5]
            unfold zeroC
            (have FX := Fx0; exact cr_)
          · rfl
          · simp (disch := omega) only [upd_ne]
            exact q0 q hq
end Go.Proofs.YtjidgdfdeckofaaDoor.AE
