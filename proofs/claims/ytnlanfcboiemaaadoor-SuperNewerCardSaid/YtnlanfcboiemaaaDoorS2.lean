/- Layer 4: Places, both; the page's Check; HasPrefix, Trim. -/
import Derived.Test.YtnlanfcboiemaaaDoorS1

namespace Go.Proofs.YtnlanfcboiemaaaDoor.AE
open Go Go.RowKit Go.Proofs Go.Proofs.YtnlanfcboiemaaaDoor
set_option linter.unusedVariables false
set_option linter.unusedSimpArgs false
set_option maxRecDepth 100000
set_option maxHeartbeats 8000000
def w64 (n : Int) : Int := IntKind.i64.wrap n
/-- Where all stands. -/
def Sup.places (s : Sup) : AV := .tup [.int .i64 2, .int .i64 (w64 (2 + s.j)), .int .i64 (w64 (w64 (2 + s.j) + s.p)), .int .i64 (w64 (w64 (w64 (2 + s.j) + s.p) + s.d))]
theorem super_Places (s : Sup) : aFun Tryd.prog 10 [s.av] s.places := by
  unfold Sup.av Sup.cells Sup.places w64
  refine aFun_body Tryd.func10 rfl rfl (by simp [Tryd.ntmps10]) fun hreal h nx hfresh => ?_
  rw [Tryd.ntmps10]
  have FX := Fx0
  repeat (first | refine v_ ?_ | refine u_ ?_ | refine nl_ ?_ | (refine nz_ ?_; first | (show aWp _ _ _ _ _) | skip) | refine sq_ ?_ | refine rg_ ?_ | refine k_ ?_ | refine ct_ ?_ | refine cf_ ?_ | refine bk_ ?_ | refine sc_ ?_ | (refine sk_ ?_; first | (show aWp _ _ _ _ _) | skip) | (refine ex_ ?_; first | (show aWp _ _ _ _ _) | skip) | refine rt_ ?_)
  have FX := Fx0
  refine W_draw mixed rfl rfl ?_
  repeat (first | refine dq_ ?_ | refine dr_ [nx] ?_ | refine dm_ [nx] ?_ | refine da_ [nx] ?_ | refine ds_ [nx] ?_ | refine dw_ [nx] ?_ | refine dk_ ?_ | refine dn_ ?_)
  refine fun kd hkd => ?_
  simp only [List.length_cons, List.length_nil] at hkd
  first | (show aWp _ _ _ _ _) | skip
  have FX := Fx0
  repeat (first | refine v_ ?_ | refine u_ ?_ | refine nl_ ?_ | (refine nz_ ?_; first | (show aWp _ _ _ _ _) | skip) | refine sq_ ?_ | refine rg_ ?_ | refine k_ ?_ | refine ct_ ?_ | refine cf_ ?_ | refine bk_ ?_ | refine sc_ ?_ | (refine sk_ ?_; first | (show aWp _ _ _ _ _) | skip) | (refine ex_ ?_; first | (show aWp _ _ _ _ _) | skip) | refine rt_ ?_)
  (have FX := Fx0; exact end_ Tryd.results10)
theorem ref04_Places (s : Sup) : aFun Tryd.prog 11 [s.av] s.places := by
  unfold Sup.av Sup.cells Sup.places w64
  refine aFun_body Tryd.func11 rfl rfl (by simp [Tryd.ntmps11]) fun hreal h nx hfresh => ?_
  rw [Tryd.ntmps11]
  have FX := Fx0
  repeat (first | refine v_ ?_ | refine u_ ?_ | refine nl_ ?_ | (refine nz_ ?_; first | (show aWp _ _ _ _ _) | skip) | refine sq_ ?_ | refine rg_ ?_ | refine k_ ?_ | refine ct_ ?_ | refine cf_ ?_ | refine bk_ ?_ | refine sc_ ?_ | (refine sk_ ?_; first | (show aWp _ _ _ _ _) | skip) | (refine ex_ ?_; first | (show aWp _ _ _ _ _) | skip) | refine rt_ ?_)
  have FX := Fx0
  refine W_draw mixed rfl rfl ?_
  repeat (first | refine dq_ ?_ | refine dr_ [nx] ?_ | refine dm_ [nx] ?_ | refine da_ [nx] ?_ | refine ds_ [nx] ?_ | refine dw_ [nx] ?_ | refine dk_ ?_ | refine dn_ ?_)
  refine fun kd hkd => ?_
  simp only [List.length_cons, List.length_nil] at hkd
  first | (show aWp _ _ _ _ _) | skip
  have FX := Fx0
  repeat (first | refine v_ ?_ | refine u_ ?_ | refine nl_ ?_ | (refine nz_ ?_; first | (show aWp _ _ _ _ _) | skip) | refine sq_ ?_ | refine rg_ ?_ | refine k_ ?_ | refine ct_ ?_ | refine cf_ ?_ | refine bk_ ?_ | refine sc_ ?_ | (refine sk_ ?_; first | (show aWp _ _ _ _ _) | skip) | (refine ex_ ?_; first | (show aWp _ _ _ _ _) | skip) | refine rt_ ?_)
  (have FX := Fx0; exact end_ Tryd.results11)
theorem ref04_within (n lo hi : Int) : aFun Tryd.prog 24 [.int .i64 n, .int .i64 lo, .int .i64 hi] (.bool (decide (lo ≤ n ∧ n ≤ hi))) := by
  by_cases h1 : lo ≤ n
  · have d1 : decide (lo ≤ n) = true := decide_eq_true h1
    have d2 : decide (lo ≤ n ∧ n ≤ hi) = decide (n ≤ hi) := by simp [h1]
    rw [d2]
    refine aFun_body Tryd.func24 rfl rfl (by simp [Tryd.ntmps24]) fun hreal h nx hfresh => ?_
    rw [Tryd.ntmps24]
    have FX := Fx.mk (@d1)
    repeat (first | refine v_ ?_ | refine u_ ?_ | refine nl_ ?_ | (refine nz_ ?_; first | (show aWp _ _ _ _ _) | skip) | refine sq_ ?_ | refine rg_ ?_ | refine k_ ?_ | refine ct_ ?_ | refine cf_ ?_ | refine bk_ ?_ | refine sc_ ?_ | (refine sk_ ?_; first | (show aWp _ _ _ _ _) | skip) | (refine ex_ ?_; first | (show aWp _ _ _ _ _) | skip) | refine rt_ ?_)
    (have FX := Fx0; exact end_ Tryd.results24)
  · have d1 : decide (lo ≤ n) = false := decide_eq_false h1
    have d2 : decide (lo ≤ n ∧ n ≤ hi) = false := by simp [h1]
    rw [d2]
    refine aFun_body Tryd.func24 rfl rfl (by simp [Tryd.ntmps24]) fun hreal h nx hfresh => ?_
    rw [Tryd.ntmps24]
    have FX := Fx.mk (@d1)
    repeat (first | refine v_ ?_ | refine u_ ?_ | refine nl_ ?_ | (refine nz_ ?_; first | (show aWp _ _ _ _ _) | skip) | refine sq_ ?_ | refine rg_ ?_ | refine k_ ?_ | refine ct_ ?_ | refine cf_ ?_ | refine bk_ ?_ | refine sc_ ?_ | (refine sk_ ?_; first | (show aWp _ _ _ _ _) | skip) | (refine ex_ ?_; first | (show aWp _ _ _ _ _) | skip) | refine rt_ ?_)
    (have FX := Fx0; exact end_ Tryd.results24)
theorem ref04_Check (s : Sup) : aFun Tryd.prog 13 [s.av] (.int .i64 s.chk) := by
  have w0 := ref04_within s.e 0 1099511627776
  have w1 := ref04_within s.v 0 65536
  have w2 := ref04_within s.j 1 1024
  have w3 := ref04_within s.p 1 2048
  have w4 := ref04_within s.d 0 65536
  have w5 := ref04_within s.s 0 1099511627776
  have w6 := ref04_within s.r 0 s.p
  have hk := s.ok_iff
  unfold Sup.chk
  unfold Sup.av Sup.cells
  by_cases c0 : 0 ≤ s.e ∧ s.e ≤ 1099511627776
  · rw [decide_eq_true c0] at w0
    by_cases c1 : 0 ≤ s.v ∧ s.v ≤ 65536
    · rw [decide_eq_true c1] at w1
      by_cases c2 : 1 ≤ s.j ∧ s.j ≤ 1024
      · rw [decide_eq_true c2] at w2
        by_cases c3 : 1 ≤ s.p ∧ s.p ≤ 2048
        · rw [decide_eq_true c3] at w3
          by_cases c4 : 0 ≤ s.d ∧ s.d ≤ 65536
          · rw [decide_eq_true c4] at w4
            by_cases c5 : 0 ≤ s.s ∧ s.s ≤ 1099511627776
            · rw [decide_eq_true c5] at w5
              by_cases c6 : 0 ≤ s.r ∧ s.r ≤ s.p
              · rw [decide_eq_true c6] at w6
                rw [if_pos (hk.2 ⟨c0, c1, c2, c3, c4, c5, c6⟩)]
                refine aFun_body Tryd.func13 rfl rfl (by simp [Tryd.ntmps13]) fun hreal h nx hfresh => ?_
                rw [Tryd.ntmps13]
                have FX := Fx.mk (@Bool.not_true)
                repeat (first | refine v_ ?_ | refine u_ ?_ | refine f_ (w0) fun kf hkf => ?_ | refine f_ (w1) fun kf hkf => ?_ | refine f_ (w2) fun kf hkf => ?_ | refine f_ (w3) fun kf hkf => ?_ | refine f_ (w4) fun kf hkf => ?_ | refine f_ (w5) fun kf hkf => ?_ | refine f_ (w6) fun kf hkf => ?_ | refine nl_ ?_ | (refine nz_ ?_; first | (show aWp _ _ _ _ _) | skip) | refine sq_ ?_ | refine rg_ ?_ | refine k_ ?_ | refine ct_ ?_ | refine cf_ ?_ | refine bk_ ?_ | refine sc_ ?_ | (refine sk_ ?_; first | (show aWp _ _ _ _ _) | skip) | (refine ex_ ?_; first | (show aWp _ _ _ _ _) | skip) | refine rt_ ?_)
                (have FX := Fx0; exact end_ Tryd.results13)
              · rw [decide_eq_false c6] at w6
                rw [if_neg fun q => c6 (hk.1 q).2.2.2.2.2.2]
                refine aFun_body Tryd.func13 rfl rfl (by simp [Tryd.ntmps13]) fun hreal h nx hfresh => ?_
                rw [Tryd.ntmps13]
                have FX := Fx.mk (@Bool.not_true)
                repeat (first | refine v_ ?_ | refine u_ ?_ | refine f_ (w0) fun kf hkf => ?_ | refine f_ (w1) fun kf hkf => ?_ | refine f_ (w2) fun kf hkf => ?_ | refine f_ (w3) fun kf hkf => ?_ | refine f_ (w4) fun kf hkf => ?_ | refine f_ (w5) fun kf hkf => ?_ | refine f_ (w6) fun kf hkf => ?_ | refine nl_ ?_ | (refine nz_ ?_; first | (show aWp _ _ _ _ _) | skip) | refine sq_ ?_ | refine rg_ ?_ | refine k_ ?_ | refine ct_ ?_ | refine cf_ ?_ | refine bk_ ?_ | refine sc_ ?_ | (refine sk_ ?_; first | (show aWp _ _ _ _ _) | skip) | (refine ex_ ?_; first | (show aWp _ _ _ _ _) | skip) | refine rt_ ?_)
                (have FX := Fx0; exact end_ Tryd.results13)
            · rw [decide_eq_false c5] at w5
              rw [if_neg fun q => c5 (hk.1 q).2.2.2.2.2.1]
              refine aFun_body Tryd.func13 rfl rfl (by simp [Tryd.ntmps13]) fun hreal h nx hfresh => ?_
              rw [Tryd.ntmps13]
              have FX := Fx.mk (@Bool.not_true)
              repeat (first | refine v_ ?_ | refine u_ ?_ | refine f_ (w0) fun kf hkf => ?_ | refine f_ (w1) fun kf hkf => ?_ | refine f_ (w2) fun kf hkf => ?_ | refine f_ (w3) fun kf hkf => ?_ | refine f_ (w4) fun kf hkf => ?_ | refine f_ (w5) fun kf hkf => ?_ | refine f_ (w6) fun kf hkf => ?_ | refine nl_ ?_ | (refine nz_ ?_; first | (show aWp _ _ _ _ _) | skip) | refine sq_ ?_ | refine rg_ ?_ | refine k_ ?_ | refine ct_ ?_ | refine cf_ ?_ | refine bk_ ?_ | refine sc_ ?_ | (refine sk_ ?_; first | (show aWp _ _ _ _ _) | skip) | (refine ex_ ?_; first | (show aWp _ _ _ _ _) | skip) | refine rt_ ?_)
              (have FX := Fx0; exact end_ Tryd.results13)
          · rw [decide_eq_false c4] at w4
            rw [if_neg fun q => c4 (hk.1 q).2.2.2.2.1]
            refine aFun_body Tryd.func13 rfl rfl (by simp [Tryd.ntmps13]) fun hreal h nx hfresh => ?_
            rw [Tryd.ntmps13]
            have FX := Fx.mk (@Bool.not_true)
            repeat (first | refine v_ ?_ | refine u_ ?_ | refine f_ (w0) fun kf hkf => ?_ | refine f_ (w1) fun kf hkf => ?_ | refine f_ (w2) fun kf hkf => ?_ | refine f_ (w3) fun kf hkf => ?_ | refine f_ (w4) fun kf hkf => ?_ | refine f_ (w5) fun kf hkf => ?_ | refine f_ (w6) fun kf hkf => ?_ | refine nl_ ?_ | (refine nz_ ?_; first | (show aWp _ _ _ _ _) | skip) | refine sq_ ?_ | refine rg_ ?_ | refine k_ ?_ | refine ct_ ?_ | refine cf_ ?_ | refine bk_ ?_ | refine sc_ ?_ | (refine sk_ ?_; first | (show aWp _ _ _ _ _) | skip) | (refine ex_ ?_; first | (show aWp _ _ _ _ _) | skip) | refine rt_ ?_)
            (have FX := Fx0; exact end_ Tryd.results13)
        · rw [decide_eq_false c3] at w3
          rw [if_neg fun q => c3 (hk.1 q).2.2.2.1]
          refine aFun_body Tryd.func13 rfl rfl (by simp [Tryd.ntmps13]) fun hreal h nx hfresh => ?_
          rw [Tryd.ntmps13]
          have FX := Fx.mk (@Bool.not_true)
          repeat (first | refine v_ ?_ | refine u_ ?_ | refine f_ (w0) fun kf hkf => ?_ | refine f_ (w1) fun kf hkf => ?_ | refine f_ (w2) fun kf hkf => ?_ | refine f_ (w3) fun kf hkf => ?_ | refine f_ (w4) fun kf hkf => ?_ | refine f_ (w5) fun kf hkf => ?_ | refine f_ (w6) fun kf hkf => ?_ | refine nl_ ?_ | (refine nz_ ?_; first | (show aWp _ _ _ _ _) | skip) | refine sq_ ?_ | refine rg_ ?_ | refine k_ ?_ | refine ct_ ?_ | refine cf_ ?_ | refine bk_ ?_ | refine sc_ ?_ | (refine sk_ ?_; first | (show aWp _ _ _ _ _) | skip) | (refine ex_ ?_; first | (show aWp _ _ _ _ _) | skip) | refine rt_ ?_)
          (have FX := Fx0; exact end_ Tryd.results13)
      · rw [decide_eq_false c2] at w2
        rw [if_neg fun q => c2 (hk.1 q).2.2.1]
        refine aFun_body Tryd.func13 rfl rfl (by simp [Tryd.ntmps13]) fun hreal h nx hfresh => ?_
        rw [Tryd.ntmps13]
        have FX := Fx.mk (@Bool.not_true)
        repeat (first | refine v_ ?_ | refine u_ ?_ | refine f_ (w0) fun kf hkf => ?_ | refine f_ (w1) fun kf hkf => ?_ | refine f_ (w2) fun kf hkf => ?_ | refine f_ (w3) fun kf hkf => ?_ | refine f_ (w4) fun kf hkf => ?_ | refine f_ (w5) fun kf hkf => ?_ | refine f_ (w6) fun kf hkf => ?_ | refine nl_ ?_ | (refine nz_ ?_; first | (show aWp _ _ _ _ _) | skip) | refine sq_ ?_ | refine rg_ ?_ | refine k_ ?_ | refine ct_ ?_ | refine cf_ ?_ | refine bk_ ?_ | refine sc_ ?_ | (refine sk_ ?_; first | (show aWp _ _ _ _ _) | skip) | (refine ex_ ?_; first | (show aWp _ _ _ _ _) | skip) | refine rt_ ?_)
        (have FX := Fx0; exact end_ Tryd.results13)
    · rw [decide_eq_false c1] at w1
      rw [if_neg fun q => c1 (hk.1 q).2.1]
      refine aFun_body Tryd.func13 rfl rfl (by simp [Tryd.ntmps13]) fun hreal h nx hfresh => ?_
      rw [Tryd.ntmps13]
      have FX := Fx.mk (@Bool.not_true)
      repeat (first | refine v_ ?_ | refine u_ ?_ | refine f_ (w0) fun kf hkf => ?_ | refine f_ (w1) fun kf hkf => ?_ | refine f_ (w2) fun kf hkf => ?_ | refine f_ (w3) fun kf hkf => ?_ | refine f_ (w4) fun kf hkf => ?_ | refine f_ (w5) fun kf hkf => ?_ | refine f_ (w6) fun kf hkf => ?_ | refine nl_ ?_ | (refine nz_ ?_; first | (show aWp _ _ _ _ _) | skip) | refine sq_ ?_ | refine rg_ ?_ | refine k_ ?_ | refine ct_ ?_ | refine cf_ ?_ | refine bk_ ?_ | refine sc_ ?_ | (refine sk_ ?_; first | (show aWp _ _ _ _ _) | skip) | (refine ex_ ?_; first | (show aWp _ _ _ _ _) | skip) | refine rt_ ?_)
      (have FX := Fx0; exact end_ Tryd.results13)
  · rw [decide_eq_false c0] at w0
    rw [if_neg fun q => c0 (hk.1 q).1]
    refine aFun_body Tryd.func13 rfl rfl (by simp [Tryd.ntmps13]) fun hreal h nx hfresh => ?_
    rw [Tryd.ntmps13]
    have FX := Fx.mk (@Bool.not_true)
    repeat (first | refine v_ ?_ | refine u_ ?_ | refine f_ (w0) fun kf hkf => ?_ | refine f_ (w1) fun kf hkf => ?_ | refine f_ (w2) fun kf hkf => ?_ | refine f_ (w3) fun kf hkf => ?_ | refine f_ (w4) fun kf hkf => ?_ | refine f_ (w5) fun kf hkf => ?_ | refine f_ (w6) fun kf hkf => ?_ | refine nl_ ?_ | (refine nz_ ?_; first | (show aWp _ _ _ _ _) | skip) | refine sq_ ?_ | refine rg_ ?_ | refine k_ ?_ | refine ct_ ?_ | refine cf_ ?_ | refine bk_ ?_ | refine sc_ ?_ | (refine sk_ ?_; first | (show aWp _ _ _ _ _) | skip) | (refine ex_ ?_; first | (show aWp _ _ _ _ _) | skip) | refine rt_ ?_)
    (have FX := Fx0; exact end_ Tryd.results13)
end Go.Proofs.YtnlanfcboiemaaaDoor.AE
