/- Texts U8. -/
import Derived.Test.YtjidgdfdeckofaaDoorV20
import Derived.Test.YtjidgdfdeckofaaDoorV16
import Derived.Test.YtjidgdfdeckofaaDoorV15
/- Layer 16: Check. -/
namespace Go.Proofs.YtjidgdfdeckofaaDoor.AE
open Go Go.RowKit Go.Proofs Go.Proofs.YtjidgdfdeckofaaDoor
set_option linter.unusedVariables false
set_option linter.unusedSimpArgs false
set_option maxRecDepth 100000
set_option maxHeartbeats 8000000
open Classical in
theorem pager_Check (s : PgS) : aFun Tryd.prog 7 [s.av] (.int .i64 s.chk) := by
  have i1 := secB_len s.pages
  have ln := host_Length s.S s.W s.cap
  have sc := super_Check s.sup
  have od := pager_odd s.pages
  have z0 : decide ((0 : Int) = 0) = true := rfl
  have z4 : decide ((4 : Int) = 0) = false := rfl
  have z9 : decide ((9 : Int) = 0) = false := rfl
  have wb : (0 : Int) = 0 := rfl
  rw [PgS.av_eq]
  unfold hostV Sup.av Sup.cells at *
  by_cases c1 : okH s.S s.W s.cap
  case neg =>
    rw [if_neg c1] at ln
    rw [show s.chk = 9 from PgS.chk_bad (fun q => by obtain ⟨q1, q2, q3, q4, ⟨q5, q6⟩, ⟨q7, q8⟩, ⟨q9, q10⟩, ⟨q11, q12⟩, q13⟩ := q; exact absurd q1 c1)]
    refine aFun_body Tryd.func7 rfl rfl (by simp [Tryd.ntmps7]) fun hreal h nx hfresh => ?_
    rw [Tryd.ntmps7]
    have FX := Fx.mk (And.intro @i1 <| And.intro @z0 <| And.intro @z4 <| And.intro @z9 <| And.intro @Bool.not_false <| And.intro @Bool.not_true <| @z0)
    repeat (first | refine v_ ?_ | refine u_ ?_ | refine f_ (ln) fun kf hkf => ?_ | refine nl_ ?_ | (refine nz_ ?_; first | (show aWp _ _ _ _ _) | skip) | refine sq_ ?_ | refine rg_ ?_ | refine k_ ?_ | refine ct_ ?_ | refine cf_ ?_ | refine bk_ ?_ | refine sc_ ?_ | (refine sk_ ?_; first | (show aWp _ _ _ _ _) | skip) | (refine ex_ ?_; first | (show aWp _ _ _ _ _) | skip) | refine rt_ ?_)
    have FX := Fx.mk (And.intro @i1 <| And.intro @wb <| @z0)
    refine W_draw mixed rfl rfl ?_
    repeat (first | refine dq_ ?_ | refine dr_ [nx] ?_ | refine dm_ [nx] ?_ | refine da_ [nx] ?_ | refine ds_ [nx] ?_ | refine dw_ [nx] ?_ | refine dk_ ?_ | refine dn_ ?_)
    refine fun kd hkd => ?_
    simp only [List.length_cons, List.length_nil] at hkd
    first | (show aWp _ _ _ _ _) | skip
    have FX := Fx0
    repeat (first | refine v_ ?_ | refine u_ ?_ | refine nl_ ?_ | (refine nz_ ?_; first | (show aWp _ _ _ _ _) | skip) | refine sq_ ?_ | refine rg_ ?_ | refine k_ ?_ | refine ct_ ?_ | refine cf_ ?_ | refine bk_ ?_ | refine sc_ ?_ | (refine sk_ ?_; first | (show aWp _ _ _ _ _) | skip) | (refine ex_ ?_; first | (show aWp _ _ _ _ _) | skip) | refine rt_ ?_)
    (have FX := Fx0; exact end_ Tryd.results7)
  rw [if_pos c1] at ln
  change aFun _ _ _ (.tup [.int .i64 s.size, .int .i64 0]) at ln
  by_cases c2 : s.sup.ok
  case neg =>
    rw [show s.sup.chk = 4 from if_neg c2] at sc
    rw [show s.chk = 9 from PgS.chk_bad (fun q => by obtain ⟨q1, q2, q3, q4, ⟨q5, q6⟩, ⟨q7, q8⟩, ⟨q9, q10⟩, ⟨q11, q12⟩, q13⟩ := q; exact absurd q2 c2)]
    refine aFun_body Tryd.func7 rfl rfl (by simp [Tryd.ntmps7]) fun hreal h nx hfresh => ?_
    rw [Tryd.ntmps7]
    have FX := Fx.mk (And.intro @i1 <| And.intro @z0 <| And.intro @z4 <| And.intro @z9 <| And.intro @Bool.not_false <| And.intro @Bool.not_true <| @z0)
    repeat (first | refine v_ ?_ | refine u_ ?_ | refine f_ (ln) fun kf hkf => ?_ | refine f_ (sc) fun kf hkf => ?_ | refine nl_ ?_ | (refine nz_ ?_; first | (show aWp _ _ _ _ _) | skip) | refine sq_ ?_ | refine rg_ ?_ | refine k_ ?_ | refine ct_ ?_ | refine cf_ ?_ | refine bk_ ?_ | refine sc_ ?_ | (refine sk_ ?_; first | (show aWp _ _ _ _ _) | skip) | (refine ex_ ?_; first | (show aWp _ _ _ _ _) | skip) | refine rt_ ?_)
    have FX := Fx.mk (And.intro @i1 <| And.intro @wb <| @z0)
    refine W_draw mixed rfl rfl ?_
    repeat (first | refine dq_ ?_ | refine dr_ [nx] ?_ | refine dm_ [nx] ?_ | refine da_ [nx] ?_ | refine ds_ [nx] ?_ | refine dw_ [nx] ?_ | refine dk_ ?_ | refine dn_ ?_)
    refine fun kd hkd => ?_
    simp only [List.length_cons, List.length_nil] at hkd
    first | (show aWp _ _ _ _ _) | skip
    have FX := Fx0
    repeat (first | refine v_ ?_ | refine u_ ?_ | refine nl_ ?_ | (refine nz_ ?_; first | (show aWp _ _ _ _ _) | skip) | refine sq_ ?_ | refine rg_ ?_ | refine k_ ?_ | refine ct_ ?_ | refine cf_ ?_ | refine bk_ ?_ | refine sc_ ?_ | (refine sk_ ?_; first | (show aWp _ _ _ _ _) | skip) | (refine ex_ ?_; first | (show aWp _ _ _ _ _) | skip) | refine rt_ ?_)
    (have FX := Fx0; exact end_ Tryd.results7)
  rw [show s.sup.chk = 0 from if_pos c2] at sc
  have ba := pager_base s.sup c2
  unfold Sup.av Sup.cells at ba
  by_cases c3 : PgS.pagesOk s.pages
  case neg =>
    rw [decide_eq_true c3] at od
    rw [show s.chk = 9 from PgS.chk_bad (fun q => by obtain ⟨q1, q2, q3, q4, ⟨q5, q6⟩, ⟨q7, q8⟩, ⟨q9, q10⟩, ⟨q11, q12⟩, q13⟩ := q; exact absurd q3 c3)]
    refine aFun_body Tryd.func7 rfl rfl (by simp [Tryd.ntmps7]) fun hreal h nx hfresh => ?_
    rw [Tryd.ntmps7]
    have FX := Fx.mk (And.intro @i1 <| And.intro @z0 <| And.intro @z4 <| And.intro @z9 <| And.intro @Bool.not_false <| And.intro @Bool.not_true <| @z0)
    repeat (first | refine v_ ?_ | refine u_ ?_ | refine f_ (ln) fun kf hkf => ?_ | refine f_ (sc) fun kf hkf => ?_ | refine f_ (od) fun kf hkf => ?_ | refine nl_ ?_ | (refine nz_ ?_; first | (show aWp _ _ _ _ _) | skip) | refine sq_ ?_ | refine rg_ ?_ | refine k_ ?_ | refine ct_ ?_ | refine cf_ ?_ | refine bk_ ?_ | refine sc_ ?_ | (refine sk_ ?_; first | (show aWp _ _ _ _ _) | skip) | (refine ex_ ?_; first | (show aWp _ _ _ _ _) | skip) | refine rt_ ?_)
    have FX := Fx.mk (And.intro @i1 <| And.intro @wb <| @z0)
    refine W_draw mixed rfl rfl ?_
    repeat (first | refine dq_ ?_ | refine dr_ [nx] ?_ | refine dm_ [nx] ?_ | refine da_ [nx] ?_ | refine ds_ [nx] ?_ | refine dw_ [nx] ?_ | refine dk_ ?_ | refine dn_ ?_)
    refine fun kd hkd => ?_
    simp only [List.length_cons, List.length_nil] at hkd
    first | (show aWp _ _ _ _ _) | skip
    have FX := Fx0
    repeat (first | refine v_ ?_ | refine u_ ?_ | refine nl_ ?_ | (refine nz_ ?_; first | (show aWp _ _ _ _ _) | skip) | refine sq_ ?_ | refine rg_ ?_ | refine k_ ?_ | refine ct_ ?_ | refine cf_ ?_ | refine bk_ ?_ | refine sc_ ?_ | (refine sk_ ?_; first | (show aWp _ _ _ _ _) | skip) | (refine ex_ ?_; first | (show aWp _ _ _ _ _) | skip) | refine rt_ ?_)
    (have FX := Fx0; exact end_ Tryd.results7)
  rw [decide_eq_false (fun q => q c3)] at od
  by_cases c4 : (s.pages.length : Int) ≤ s.sup.p
  case neg =>
    have d4 : decide (s.sup.p < (s.pages.length : Int)) = true := decide_eq_true (by omega)
    rw [show s.chk = 9 from PgS.chk_bad (fun q => by obtain ⟨q1, q2, q3, q4, ⟨q5, q6⟩, ⟨q7, q8⟩, ⟨q9, q10⟩, ⟨q11, q12⟩, q13⟩ := q; exact absurd q4 c4)]
    refine aFun_body Tryd.func7 rfl rfl (by simp [Tryd.ntmps7]) fun hreal h nx hfresh => ?_
    rw [Tryd.ntmps7]
    have FX := Fx.mk (And.intro @i1 <| And.intro @z0 <| And.intro @z4 <| And.intro @z9 <| And.intro @Bool.not_false <| And.intro @Bool.not_true <| @d4)
    repeat (first | refine v_ ?_ | refine u_ ?_ | refine f_ (ln) fun kf hkf => ?_ | refine f_ (sc) fun kf hkf => ?_ | refine f_ (od) fun kf hkf => ?_ | refine nl_ ?_ | (refine nz_ ?_; first | (show aWp _ _ _ _ _) | skip) | refine sq_ ?_ | refine rg_ ?_ | refine k_ ?_ | refine ct_ ?_ | refine cf_ ?_ | refine bk_ ?_ | refine sc_ ?_ | (refine sk_ ?_; first | (show aWp _ _ _ _ _) | skip) | (refine ex_ ?_; first | (show aWp _ _ _ _ _) | skip) | refine rt_ ?_)
    have FX := Fx.mk (And.intro @i1 <| And.intro @wb <| @d4)
    refine W_draw mixed rfl rfl ?_
    repeat (first | refine dq_ ?_ | refine dr_ [nx] ?_ | refine dm_ [nx] ?_ | refine da_ [nx] ?_ | refine ds_ [nx] ?_ | refine dw_ [nx] ?_ | refine dk_ ?_ | refine dn_ ?_)
    refine fun kd hkd => ?_
    simp only [List.length_cons, List.length_nil] at hkd
    first | (show aWp _ _ _ _ _) | skip
    have FX := Fx0
    repeat (first | refine v_ ?_ | refine u_ ?_ | refine nl_ ?_ | (refine nz_ ?_; first | (show aWp _ _ _ _ _) | skip) | refine sq_ ?_ | refine rg_ ?_ | refine k_ ?_ | refine ct_ ?_ | refine cf_ ?_ | refine bk_ ?_ | refine sc_ ?_ | (refine sk_ ?_; first | (show aWp _ _ _ _ _) | skip) | (refine ex_ ?_; first | (show aWp _ _ _ _ _) | skip) | refine rt_ ?_)
    (have FX := Fx0; exact end_ Tryd.results7)
  have d4 : decide (s.sup.p < (s.pages.length : Int)) = false := decide_eq_false (by omega)
  by_cases c5 : 0 ≤ s.root
  case neg =>
    have d5 : decide (s.root < 0) = true := decide_eq_true (by omega)
    rw [show s.chk = 9 from PgS.chk_bad (fun q => by obtain ⟨q1, q2, q3, q4, ⟨q5, q6⟩, ⟨q7, q8⟩, ⟨q9, q10⟩, ⟨q11, q12⟩, q13⟩ := q; exact absurd q5 c5)]
    refine aFun_body Tryd.func7 rfl rfl (by simp [Tryd.ntmps7]) fun hreal h nx hfresh => ?_
    rw [Tryd.ntmps7]
    have FX := Fx.mk (And.intro @i1 <| And.intro @z0 <| And.intro @z4 <| And.intro @z9 <| And.intro @Bool.not_false <| And.intro @Bool.not_true <| And.intro @d4 <| @d5)
    repeat (first | refine v_ ?_ | refine u_ ?_ | refine f_ (ln) fun kf hkf => ?_ | refine f_ (sc) fun kf hkf => ?_ | refine f_ (od) fun kf hkf => ?_ | refine nl_ ?_ | (refine nz_ ?_; first | (show aWp _ _ _ _ _) | skip) | refine sq_ ?_ | refine rg_ ?_ | refine k_ ?_ | refine ct_ ?_ | refine cf_ ?_ | refine bk_ ?_ | refine sc_ ?_ | (refine sk_ ?_; first | (show aWp _ _ _ _ _) | skip) | (refine ex_ ?_; first | (show aWp _ _ _ _ _) | skip) | refine rt_ ?_)
    have FX := Fx.mk (And.intro @i1 <| And.intro @wb <| And.intro @d4 <| @d5)
    refine W_draw mixed rfl rfl ?_
    repeat (first | refine dq_ ?_ | refine dr_ [nx] ?_ | refine dm_ [nx] ?_ | refine da_ [nx] ?_ | refine ds_ [nx] ?_ | refine dw_ [nx] ?_ | refine dk_ ?_ | refine dn_ ?_)
    refine fun kd hkd => ?_
    simp only [List.length_cons, List.length_nil] at hkd
    first | (show aWp _ _ _ _ _) | skip
    have FX := Fx0
    repeat (first | refine v_ ?_ | refine u_ ?_ | refine nl_ ?_ | (refine nz_ ?_; first | (show aWp _ _ _ _ _) | skip) | refine sq_ ?_ | refine rg_ ?_ | refine k_ ?_ | refine ct_ ?_ | refine cf_ ?_ | refine bk_ ?_ | refine sc_ ?_ | (refine sk_ ?_; first | (show aWp _ _ _ _ _) | skip) | (refine ex_ ?_; first | (show aWp _ _ _ _ _) | skip) | refine rt_ ?_)
    (have FX := Fx0; exact end_ Tryd.results7)
  have d5 : decide (s.root < 0) = false := decide_eq_false (by omega)
  by_cases c6 : s.root ≤ s.sup.p
  case neg =>
    have d6 : decide (s.sup.p < s.root) = true := decide_eq_true (by omega)
    rw [show s.chk = 9 from PgS.chk_bad (fun q => by obtain ⟨q1, q2, q3, q4, ⟨q5, q6⟩, ⟨q7, q8⟩, ⟨q9, q10⟩, ⟨q11, q12⟩, q13⟩ := q; exact absurd q6 c6)]
    refine aFun_body Tryd.func7 rfl rfl (by simp [Tryd.ntmps7]) fun hreal h nx hfresh => ?_
    rw [Tryd.ntmps7]
    have FX := Fx.mk (And.intro @i1 <| And.intro @z0 <| And.intro @z4 <| And.intro @z9 <| And.intro @Bool.not_false <| And.intro @Bool.not_true <| And.intro @d4 <| And.intro @d5 <| @d6)
    repeat (first | refine v_ ?_ | refine u_ ?_ | refine f_ (ln) fun kf hkf => ?_ | refine f_ (sc) fun kf hkf => ?_ | refine f_ (od) fun kf hkf => ?_ | refine nl_ ?_ | (refine nz_ ?_; first | (show aWp _ _ _ _ _) | skip) | refine sq_ ?_ | refine rg_ ?_ | refine k_ ?_ | refine ct_ ?_ | refine cf_ ?_ | refine bk_ ?_ | refine sc_ ?_ | (refine sk_ ?_; first | (show aWp _ _ _ _ _) | skip) | (refine ex_ ?_; first | (show aWp _ _ _ _ _) | skip) | refine rt_ ?_)
    have FX := Fx.mk (And.intro @i1 <| And.intro @wb <| And.intro @d4 <| And.intro @d5 <| @d6)
    refine W_draw mixed rfl rfl ?_
    repeat (first | refine dq_ ?_ | refine dr_ [nx] ?_ | refine dm_ [nx] ?_ | refine da_ [nx] ?_ | refine ds_ [nx] ?_ | refine dw_ [nx] ?_ | refine dk_ ?_ | refine dn_ ?_)
    refine fun kd hkd => ?_
    simp only [List.length_cons, List.length_nil] at hkd
    first | (show aWp _ _ _ _ _) | skip
    have FX := Fx0
    repeat (first | refine v_ ?_ | refine u_ ?_ | refine nl_ ?_ | (refine nz_ ?_; first | (show aWp _ _ _ _ _) | skip) | refine sq_ ?_ | refine rg_ ?_ | refine k_ ?_ | refine ct_ ?_ | refine cf_ ?_ | refine bk_ ?_ | refine sc_ ?_ | (refine sk_ ?_; first | (show aWp _ _ _ _ _) | skip) | (refine ex_ ?_; first | (show aWp _ _ _ _ _) | skip) | refine rt_ ?_)
    (have FX := Fx0; exact end_ Tryd.results7)
  have d6 : decide (s.sup.p < s.root) = false := decide_eq_false (by omega)
  by_cases c7 : 0 ≤ s.room
  case neg =>
    have d7 : decide (s.room < 0) = true := decide_eq_true (by omega)
    rw [show s.chk = 9 from PgS.chk_bad (fun q => by obtain ⟨q1, q2, q3, q4, ⟨q5, q6⟩, ⟨q7, q8⟩, ⟨q9, q10⟩, ⟨q11, q12⟩, q13⟩ := q; exact absurd q7 c7)]
    refine aFun_body Tryd.func7 rfl rfl (by simp [Tryd.ntmps7]) fun hreal h nx hfresh => ?_
    rw [Tryd.ntmps7]
    have FX := Fx.mk (And.intro @i1 <| And.intro @z0 <| And.intro @z4 <| And.intro @z9 <| And.intro @Bool.not_false <| And.intro @Bool.not_true <| And.intro @d4 <| And.intro @d5 <| And.intro @d6 <| @d7)
    repeat (first | refine v_ ?_ | refine u_ ?_ | refine f_ (ln) fun kf hkf => ?_ | refine f_ (sc) fun kf hkf => ?_ | refine f_ (od) fun kf hkf => ?_ | refine nl_ ?_ | (refine nz_ ?_; first | (show aWp _ _ _ _ _) | skip) | refine sq_ ?_ | refine rg_ ?_ | refine k_ ?_ | refine ct_ ?_ | refine cf_ ?_ | refine bk_ ?_ | refine sc_ ?_ | (refine sk_ ?_; first | (show aWp _ _ _ _ _) | skip) | (refine ex_ ?_; first | (show aWp _ _ _ _ _) | skip) | refine rt_ ?_)
    have FX := Fx.mk (And.intro @i1 <| And.intro @wb <| And.intro @d4 <| And.intro @d5 <| And.intro @d6 <| @d7)
    refine W_draw mixed rfl rfl ?_
    repeat (first | refine dq_ ?_ | refine dr_ [nx] ?_ | refine dm_ [nx] ?_ | refine da_ [nx] ?_ | refine ds_ [nx] ?_ | refine dw_ [nx] ?_ | refine dk_ ?_ | refine dn_ ?_)
    refine fun kd hkd => ?_
    simp only [List.length_cons, List.length_nil] at hkd
    first | (show aWp _ _ _ _ _) | skip
    have FX := Fx0
    repeat (first | refine v_ ?_ | refine u_ ?_ | refine nl_ ?_ | (refine nz_ ?_; first | (show aWp _ _ _ _ _) | skip) | refine sq_ ?_ | refine rg_ ?_ | refine k_ ?_ | refine ct_ ?_ | refine cf_ ?_ | refine bk_ ?_ | refine sc_ ?_ | (refine sk_ ?_; first | (show aWp _ _ _ _ _) | skip) | (refine ex_ ?_; first | (show aWp _ _ _ _ _) | skip) | refine rt_ ?_)
    (have FX := Fx0; exact end_ Tryd.results7)
  have d7 : decide (s.room < 0) = false := decide_eq_false (by omega)
  by_cases c8 : s.room ≤ 65536
  case neg =>
    have d8 : decide (65536 < s.room) = true := decide_eq_true (by omega)
    rw [show s.chk = 9 from PgS.chk_bad (fun q => by obtain ⟨q1, q2, q3, q4, ⟨q5, q6⟩, ⟨q7, q8⟩, ⟨q9, q10⟩, ⟨q11, q12⟩, q13⟩ := q; exact absurd q8 c8)]
    refine aFun_body Tryd.func7 rfl rfl (by simp [Tryd.ntmps7]) fun hreal h nx hfresh => ?_
    rw [Tryd.ntmps7]
    have FX := Fx.mk (And.intro @i1 <| And.intro @z0 <| And.intro @z4 <| And.intro @z9 <| And.intro @Bool.not_false <| And.intro @Bool.not_true <| And.intro @d4 <| And.intro @d5 <| And.intro @d6 <| And.intro @d7 <| @d8)
    repeat (first | refine v_ ?_ | refine u_ ?_ | refine f_ (ln) fun kf hkf => ?_ | refine f_ (sc) fun kf hkf => ?_ | refine f_ (od) fun kf hkf => ?_ | refine nl_ ?_ | (refine nz_ ?_; first | (show aWp _ _ _ _ _) | skip) | refine sq_ ?_ | refine rg_ ?_ | refine k_ ?_ | refine ct_ ?_ | refine cf_ ?_ | refine bk_ ?_ | refine sc_ ?_ | (refine sk_ ?_; first | (show aWp _ _ _ _ _) | skip) | (refine ex_ ?_; first | (show aWp _ _ _ _ _) | skip) | refine rt_ ?_)
    have FX := Fx.mk (And.intro @i1 <| And.intro @wb <| And.intro @d4 <| And.intro @d5 <| And.intro @d6 <| And.intro @d7 <| @d8)
    refine W_draw mixed rfl rfl ?_
    repeat (first | refine dq_ ?_ | refine dr_ [nx] ?_ | refine dm_ [nx] ?_ | refine da_ [nx] ?_ | refine ds_ [nx] ?_ | refine dw_ [nx] ?_ | refine dk_ ?_ | refine dn_ ?_)
    refine fun kd hkd => ?_
    simp only [List.length_cons, List.length_nil] at hkd
    first | (show aWp _ _ _ _ _) | skip
    have FX := Fx0
    repeat (first | refine v_ ?_ | refine u_ ?_ | refine nl_ ?_ | (refine nz_ ?_; first | (show aWp _ _ _ _ _) | skip) | refine sq_ ?_ | refine rg_ ?_ | refine k_ ?_ | refine ct_ ?_ | refine cf_ ?_ | refine bk_ ?_ | refine sc_ ?_ | (refine sk_ ?_; first | (show aWp _ _ _ _ _) | skip) | (refine ex_ ?_; first | (show aWp _ _ _ _ _) | skip) | refine rt_ ?_)
    (have FX := Fx0; exact end_ Tryd.results7)
  have d8 : decide (65536 < s.room) = false := decide_eq_false (by omega)
  by_cases c9 : s.sup.s ≤ s.seq
  case neg =>
    have d9 : decide (s.seq < s.sup.s) = true := decide_eq_true (by omega)
    rw [show s.chk = 9 from PgS.chk_bad (fun q => by obtain ⟨q1, q2, q3, q4, ⟨q5, q6⟩, ⟨q7, q8⟩, ⟨q9, q10⟩, ⟨q11, q12⟩, q13⟩ := q; exact absurd q9 c9)]
    refine aFun_body Tryd.func7 rfl rfl (by simp [Tryd.ntmps7]) fun hreal h nx hfresh => ?_
    rw [Tryd.ntmps7]
    have FX := Fx.mk (And.intro @i1 <| And.intro @z0 <| And.intro @z4 <| And.intro @z9 <| And.intro @Bool.not_false <| And.intro @Bool.not_true <| And.intro @d4 <| And.intro @d5 <| And.intro @d6 <| And.intro @d7 <| And.intro @d8 <| @d9)
    repeat (first | refine v_ ?_ | refine u_ ?_ | refine f_ (ln) fun kf hkf => ?_ | refine f_ (sc) fun kf hkf => ?_ | refine f_ (od) fun kf hkf => ?_ | refine nl_ ?_ | (refine nz_ ?_; first | (show aWp _ _ _ _ _) | skip) | refine sq_ ?_ | refine rg_ ?_ | refine k_ ?_ | refine ct_ ?_ | refine cf_ ?_ | refine bk_ ?_ | refine sc_ ?_ | (refine sk_ ?_; first | (show aWp _ _ _ _ _) | skip) | (refine ex_ ?_; first | (show aWp _ _ _ _ _) | skip) | refine rt_ ?_)
    have FX := Fx.mk (And.intro @i1 <| And.intro @wb <| And.intro @d4 <| And.intro @d5 <| And.intro @d6 <| And.intro @d7 <| And.intro @d8 <| @d9)
    refine W_draw mixed rfl rfl ?_
    repeat (first | refine dq_ ?_ | refine dr_ [nx] ?_ | refine dm_ [nx] ?_ | refine da_ [nx] ?_ | refine ds_ [nx] ?_ | refine dw_ [nx] ?_ | refine dk_ ?_ | refine dn_ ?_)
    refine fun kd hkd => ?_
    simp only [List.length_cons, List.length_nil] at hkd
    first | (show aWp _ _ _ _ _) | skip
    have FX := Fx0
    repeat (first | refine v_ ?_ | refine u_ ?_ | refine nl_ ?_ | (refine nz_ ?_; first | (show aWp _ _ _ _ _) | skip) | refine sq_ ?_ | refine rg_ ?_ | refine k_ ?_ | refine ct_ ?_ | refine cf_ ?_ | refine bk_ ?_ | refine sc_ ?_ | (refine sk_ ?_; first | (show aWp _ _ _ _ _) | skip) | (refine ex_ ?_; first | (show aWp _ _ _ _ _) | skip) | refine rt_ ?_)
    (have FX := Fx0; exact end_ Tryd.results7)
  have d9 : decide (s.seq < s.sup.s) = false := decide_eq_false (by omega)
  by_cases c10 : s.seq ≤ 1099511627776
  case neg =>
    have d10 : decide (1099511627776 < s.seq) = true := decide_eq_true (by omega)
    rw [show s.chk = 9 from PgS.chk_bad (fun q => by obtain ⟨q1, q2, q3, q4, ⟨q5, q6⟩, ⟨q7, q8⟩, ⟨q9, q10⟩, ⟨q11, q12⟩, q13⟩ := q; exact absurd q10 c10)]
    refine aFun_body Tryd.func7 rfl rfl (by simp [Tryd.ntmps7]) fun hreal h nx hfresh => ?_
    rw [Tryd.ntmps7]
    have FX := Fx.mk (And.intro @i1 <| And.intro @z0 <| And.intro @z4 <| And.intro @z9 <| And.intro @Bool.not_false <| And.intro @Bool.not_true <| And.intro @d4 <| And.intro @d5 <| And.intro @d6 <| And.intro @d7 <| And.intro @d8 <| And.intro @d9 <| @d10)
    repeat (first | refine v_ ?_ | refine u_ ?_ | refine f_ (ln) fun kf hkf => ?_ | refine f_ (sc) fun kf hkf => ?_ | refine f_ (od) fun kf hkf => ?_ | refine nl_ ?_ | (refine nz_ ?_; first | (show aWp _ _ _ _ _) | skip) | refine sq_ ?_ | refine rg_ ?_ | refine k_ ?_ | refine ct_ ?_ | refine cf_ ?_ | refine bk_ ?_ | refine sc_ ?_ | (refine sk_ ?_; first | (show aWp _ _ _ _ _) | skip) | (refine ex_ ?_; first | (show aWp _ _ _ _ _) | skip) | refine rt_ ?_)
    have FX := Fx.mk (And.intro @i1 <| And.intro @wb <| And.intro @d4 <| And.intro @d5 <| And.intro @d6 <| And.intro @d7 <| And.intro @d8 <| And.intro @d9 <| @d10)
    refine W_draw mixed rfl rfl ?_
    repeat (first | refine dq_ ?_ | refine dr_ [nx] ?_ | refine dm_ [nx] ?_ | refine da_ [nx] ?_ | refine ds_ [nx] ?_ | refine dw_ [nx] ?_ | refine dk_ ?_ | refine dn_ ?_)
    refine fun kd hkd => ?_
    simp only [List.length_cons, List.length_nil] at hkd
    first | (show aWp _ _ _ _ _) | skip
    have FX := Fx0
    repeat (first | refine v_ ?_ | refine u_ ?_ | refine nl_ ?_ | (refine nz_ ?_; first | (show aWp _ _ _ _ _) | skip) | refine sq_ ?_ | refine rg_ ?_ | refine k_ ?_ | refine ct_ ?_ | refine cf_ ?_ | refine bk_ ?_ | refine sc_ ?_ | (refine sk_ ?_; first | (show aWp _ _ _ _ _) | skip) | (refine ex_ ?_; first | (show aWp _ _ _ _ _) | skip) | refine rt_ ?_)
    (have FX := Fx0; exact end_ Tryd.results7)
  have d10 : decide (1099511627776 < s.seq) = false := decide_eq_false (by omega)
  by_cases c11 : 0 ≤ s.tail
  case neg =>
    have d11 : decide (s.tail < 0) = true := decide_eq_true (by omega)
    rw [show s.chk = 9 from PgS.chk_bad (fun q => by obtain ⟨q1, q2, q3, q4, ⟨q5, q6⟩, ⟨q7, q8⟩, ⟨q9, q10⟩, ⟨q11, q12⟩, q13⟩ := q; exact absurd q11 c11)]
    refine aFun_body Tryd.func7 rfl rfl (by simp [Tryd.ntmps7]) fun hreal h nx hfresh => ?_
    rw [Tryd.ntmps7]
    have FX := Fx.mk (And.intro @i1 <| And.intro @z0 <| And.intro @z4 <| And.intro @z9 <| And.intro @Bool.not_false <| And.intro @Bool.not_true <| And.intro @d4 <| And.intro @d5 <| And.intro @d6 <| And.intro @d7 <| And.intro @d8 <| And.intro @d9 <| And.intro @d10 <| @d11)
    repeat (first | refine v_ ?_ | refine u_ ?_ | refine f_ (ln) fun kf hkf => ?_ | refine f_ (sc) fun kf hkf => ?_ | refine f_ (od) fun kf hkf => ?_ | refine nl_ ?_ | (refine nz_ ?_; first | (show aWp _ _ _ _ _) | skip) | refine sq_ ?_ | refine rg_ ?_ | refine k_ ?_ | refine ct_ ?_ | refine cf_ ?_ | refine bk_ ?_ | refine sc_ ?_ | (refine sk_ ?_; first | (show aWp _ _ _ _ _) | skip) | (refine ex_ ?_; first | (show aWp _ _ _ _ _) | skip) | refine rt_ ?_)
    have FX := Fx.mk (And.intro @i1 <| And.intro @wb <| And.intro @d4 <| And.intro @d5 <| And.intro @d6 <| And.intro @d7 <| And.intro @d8 <| And.intro @d9 <| And.intro @d10 <| @d11)
    refine W_draw mixed rfl rfl ?_
    repeat (first | refine dq_ ?_ | refine dr_ [nx] ?_ | refine dm_ [nx] ?_ | refine da_ [nx] ?_ | refine ds_ [nx] ?_ | refine dw_ [nx] ?_ | refine dk_ ?_ | refine dn_ ?_)
    refine fun kd hkd => ?_
    simp only [List.length_cons, List.length_nil] at hkd
    first | (show aWp _ _ _ _ _) | skip
    have FX := Fx0
    repeat (first | refine v_ ?_ | refine u_ ?_ | refine nl_ ?_ | (refine nz_ ?_; first | (show aWp _ _ _ _ _) | skip) | refine sq_ ?_ | refine rg_ ?_ | refine k_ ?_ | refine ct_ ?_ | refine cf_ ?_ | refine bk_ ?_ | refine sc_ ?_ | (refine sk_ ?_; first | (show aWp _ _ _ _ _) | skip) | (refine ex_ ?_; first | (show aWp _ _ _ _ _) | skip) | refine rt_ ?_)
    (have FX := Fx0; exact end_ Tryd.results7)
  have d11 : decide (s.tail < 0) = false := decide_eq_false (by omega)
  by_cases c12 : s.tail ≤ s.sup.j
  case neg =>
    have d12 : decide (s.sup.j < s.tail) = true := decide_eq_true (by omega)
    rw [show s.chk = 9 from PgS.chk_bad (fun q => by obtain ⟨q1, q2, q3, q4, ⟨q5, q6⟩, ⟨q7, q8⟩, ⟨q9, q10⟩, ⟨q11, q12⟩, q13⟩ := q; exact absurd q12 c12)]
    refine aFun_body Tryd.func7 rfl rfl (by simp [Tryd.ntmps7]) fun hreal h nx hfresh => ?_
    rw [Tryd.ntmps7]
    have FX := Fx.mk (And.intro @i1 <| And.intro @z0 <| And.intro @z4 <| And.intro @z9 <| And.intro @Bool.not_false <| And.intro @Bool.not_true <| And.intro @d4 <| And.intro @d5 <| And.intro @d6 <| And.intro @d7 <| And.intro @d8 <| And.intro @d9 <| And.intro @d10 <| And.intro @d11 <| @d12)
    repeat (first | refine v_ ?_ | refine u_ ?_ | refine f_ (ln) fun kf hkf => ?_ | refine f_ (sc) fun kf hkf => ?_ | refine f_ (od) fun kf hkf => ?_ | refine nl_ ?_ | (refine nz_ ?_; first | (show aWp _ _ _ _ _) | skip) | refine sq_ ?_ | refine rg_ ?_ | refine k_ ?_ | refine ct_ ?_ | refine cf_ ?_ | refine bk_ ?_ | refine sc_ ?_ | (refine sk_ ?_; first | (show aWp _ _ _ _ _) | skip) | (refine ex_ ?_; first | (show aWp _ _ _ _ _) | skip) | refine rt_ ?_)
    have FX := Fx.mk (And.intro @i1 <| And.intro @wb <| And.intro @d4 <| And.intro @d5 <| And.intro @d6 <| And.intro @d7 <| And.intro @d8 <| And.intro @d9 <| And.intro @d10 <| And.intro @d11 <| @d12)
    refine W_draw mixed rfl rfl ?_
    repeat (first | refine dq_ ?_ | refine dr_ [nx] ?_ | refine dm_ [nx] ?_ | refine da_ [nx] ?_ | refine ds_ [nx] ?_ | refine dw_ [nx] ?_ | refine dk_ ?_ | refine dn_ ?_)
    refine fun kd hkd => ?_
    simp only [List.length_cons, List.length_nil] at hkd
    first | (show aWp _ _ _ _ _) | skip
    have FX := Fx0
    repeat (first | refine v_ ?_ | refine u_ ?_ | refine nl_ ?_ | (refine nz_ ?_; first | (show aWp _ _ _ _ _) | skip) | refine sq_ ?_ | refine rg_ ?_ | refine k_ ?_ | refine ct_ ?_ | refine cf_ ?_ | refine bk_ ?_ | refine sc_ ?_ | (refine sk_ ?_; first | (show aWp _ _ _ _ _) | skip) | (refine ex_ ?_; first | (show aWp _ _ _ _ _) | skip) | refine rt_ ?_)
    (have FX := Fx0; exact end_ Tryd.results7)
  have d12 : decide (s.sup.j < s.tail) = false := decide_eq_false (by omega)
  have wb : IntKind.i64.wrap (s.sup.base + s.room) = s.sup.base + s.room := by
    obtain ⟨_, _, h3, h4, h5, _, _⟩ := s.sup.ok_iff.1 c2
    unfold Sup.base
    rw [wrapI] <;> omega
  by_cases c13 : s.sup.base + s.room ≤ s.size
  case neg =>
    have d13 : decide (s.size < s.sup.base + s.room) = true := decide_eq_true (by omega)
    rw [show s.chk = 9 from PgS.chk_bad (fun q => by obtain ⟨q1, q2, q3, q4, ⟨q5, q6⟩, ⟨q7, q8⟩, ⟨q9, q10⟩, ⟨q11, q12⟩, q13⟩ := q; exact absurd q13 c13)]
    refine aFun_body Tryd.func7 rfl rfl (by simp [Tryd.ntmps7]) fun hreal h nx hfresh => ?_
    rw [Tryd.ntmps7]
    have FX := Fx.mk (And.intro @i1 <| And.intro @z0 <| And.intro @z4 <| And.intro @z9 <| And.intro @Bool.not_false <| And.intro @Bool.not_true <| And.intro @d4 <| And.intro @d5 <| And.intro @d6 <| And.intro @d7 <| And.intro @d8 <| And.intro @d9 <| And.intro @d10 <| And.intro @d11 <| And.intro @d12 <| @d13)
    repeat (first | refine v_ ?_ | refine u_ ?_ | refine f_ (ln) fun kf hkf => ?_ | refine f_ (sc) fun kf hkf => ?_ | refine f_ (od) fun kf hkf => ?_ | refine nl_ ?_ | (refine nz_ ?_; first | (show aWp _ _ _ _ _) | skip) | refine sq_ ?_ | refine rg_ ?_ | refine k_ ?_ | refine ct_ ?_ | refine cf_ ?_ | refine bk_ ?_ | refine sc_ ?_ | (refine sk_ ?_; first | (show aWp _ _ _ _ _) | skip) | (refine ex_ ?_; first | (show aWp _ _ _ _ _) | skip) | refine rt_ ?_)
    have FX := Fx.mk (And.intro @i1 <| And.intro @wb <| And.intro @d4 <| And.intro @d5 <| And.intro @d6 <| And.intro @d7 <| And.intro @d8 <| And.intro @d9 <| And.intro @d10 <| And.intro @d11 <| And.intro @d12 <| @d13)
    refine W_draw mixed rfl rfl ?_
    repeat (first | refine dq_ ?_ | refine df_ (ba) ?_ | refine dr_ [nx] ?_ | refine dm_ [nx] ?_ | refine da_ [nx] ?_ | refine ds_ [nx] ?_ | refine dw_ [nx] ?_ | refine dk_ ?_ | refine dn_ ?_)
    refine fun kd hkd => ?_
    simp only [List.length_cons, List.length_nil] at hkd
    first | (show aWp _ _ _ _ _) | skip
    have FX := Fx0
    repeat (first | refine v_ ?_ | refine u_ ?_ | refine nl_ ?_ | (refine nz_ ?_; first | (show aWp _ _ _ _ _) | skip) | refine sq_ ?_ | refine rg_ ?_ | refine k_ ?_ | refine ct_ ?_ | refine cf_ ?_ | refine bk_ ?_ | refine sc_ ?_ | (refine sk_ ?_; first | (show aWp _ _ _ _ _) | skip) | (refine ex_ ?_; first | (show aWp _ _ _ _ _) | skip) | refine rt_ ?_)
    (have FX := Fx0; exact end_ Tryd.results7)
  have d13 : decide (s.size < s.sup.base + s.room) = false := decide_eq_false (by omega)
  rw [show s.chk = 0 from PgS.chk_ok ⟨c1, c2, c3, c4, ⟨c5, c6⟩, ⟨c7, c8⟩, ⟨c9, c10⟩, ⟨c11, c12⟩, c13⟩]
  refine aFun_body Tryd.func7 rfl rfl (by simp [Tryd.ntmps7]) fun hreal h nx hfresh => ?_
  rw [Tryd.ntmps7]
  have FX := Fx.mk (And.intro @i1 <| And.intro @z0 <| And.intro @d4 <| And.intro @d5 <| And.intro @d6 <| And.intro @d7 <| @d8)
  repeat (first | refine v_ ?_ | refine u_ ?_ | refine f_ (ln) fun kf hkf => ?_ | refine f_ (sc) fun kf hkf => ?_ | refine f_ (od) fun kf hkf => ?_ | refine nl_ ?_ | (refine nz_ ?_; first | (show aWp _ _ _ _ _) | skip) | refine sq_ ?_ | refine rg_ ?_ | refine k_ ?_ | refine ct_ ?_ | refine cf_ ?_ | refine bk_ ?_ | refine sc_ ?_ | (refine sk_ ?_; first | (show aWp _ _ _ _ _) | skip) | (refine ex_ ?_; first | (show aWp _ _ _ _ _) | skip) | refine rt_ ?_)
  have FX := Fx.mk (And.intro @i1 <| And.intro @wb <| And.intro @d9 <| And.intro @d10 <| And.intro @d11 <| And.intro @d12 <| @d13)
  refine W_draw mixed rfl rfl ?_
  repeat (first | refine dq_ ?_ | refine df_ (ba) ?_ | refine dr_ [nx] ?_ | refine dm_ [nx] ?_ | refine da_ [nx] ?_ | refine ds_ [nx] ?_ | refine dw_ [nx] ?_ | refine dk_ ?_ | refine dn_ ?_)
  refine fun kd hkd => ?_
  simp only [List.length_cons, List.length_nil] at hkd
  first | (show aWp _ _ _ _ _) | skip
  have FX := Fx0
  repeat (first | refine v_ ?_ | refine u_ ?_ | refine nl_ ?_ | (refine nz_ ?_; first | (show aWp _ _ _ _ _) | skip) | refine sq_ ?_ | refine rg_ ?_ | refine k_ ?_ | refine ct_ ?_ | refine cf_ ?_ | refine bk_ ?_ | refine sc_ ?_ | (refine sk_ ?_; first | (show aWp _ _ _ _ _) | skip) | (refine ex_ ?_; first | (show aWp _ _ _ _ _) | skip) | refine rt_ ?_)
  (have FX := Fx0; exact end_ Tryd.results7)
end Go.Proofs.YtjidgdfdeckofaaDoor.AE
