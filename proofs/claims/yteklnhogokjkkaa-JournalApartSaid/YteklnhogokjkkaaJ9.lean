/- Layer 15's laws: JournalApart, JournalBack (in narrow bounds). -/
import Derived.Test.YteklnhogokjkkaaJ8
namespace Go.Proofs.Yteklnhogokjkkaa.AE
open Go Go.RowKit Go.Proofs Go.Proofs.Yteklnhogokjkkaa
set_option linter.unusedVariables false
set_option linter.unusedSimpArgs false
set_option maxRecDepth 100000
set_option maxHeartbeats 8000000
theorem law_Apart (a b : Rec) (ha : a.pages.length * 32 ≤ 140737488351232 ∧ ∀ p ∈ a.pages, p.2.length ≤ 140737488351232) (hb : b.pages.length * 32 ≤ 140737488351232 ∧ ∀ p ∈ b.pages, p.2.length ≤ 140737488351232) : aFun Try.prog 8 [a.av, b.av] (.bool true) := by
  have al := law_alive
  have ofa := law_Of a ha.1 (fun p hp => by have := ha.2 p hp; omega)
  have ofb := law_Of b hb.1 (fun p hp => by have := hb.2 p hp; omega)
  have n0 := law_num 0
  have n9 := law_num 9
  have d0 : decide ((0 : Int) = 0) = true := rfl
  have d9 : decide ((9 : Int) = 0) = false := rfl
  have d00 : decide (((0 : Nat) : Int) = 0) = true := rfl
  by_cases hoa : a.ok
  · have ea := (journal_Encode a hoa).fn_tup
    have pa := enc_pos a
    have la : decide (((a.enc.length : Nat) : Int) = 0) = false := decide_eq_false (by omega)
    by_cases hob : b.ok
    · have eb := (journal_Encode b hob).fn_tup
      have sb := SameBytes a.enc b.enc
      have sm := law_same a b
      have hiff : decide (a.enc = b.enc) = decide (a = b) := decide_eq_decide.2 ⟨fun h => by
        have h1 := dec_enc0 hoa
        rw [h, dec_enc0 hob] at h1
        cases h1
        rfl, fun h => by rw [h]⟩
      rw [hiff] at sb
      generalize decide (a = b) = t at sb sm
      have dt : (decide (t = t)) = true := decide_eq_true rfl
      simp only [Rec.av_eq] at *
      refine aFun_body Try.func8 rfl rfl (by simp [Try.ntmps8]) fun hreal h nx hfresh => ?_
      rw [Try.ntmps8]
      have FX := Fx.mk (And.intro @d0 <| And.intro @Bool.not_true <| And.intro @Bool.not_false <| @decide_true)
      repeat (first | refine v_ ?_ | refine u_ ?_ | refine f_ (al) fun kf hkf => ?_ | refine f_ (ofa) fun kf hkf => ?_ | refine f_ (ofb) fun kf hkf => ?_ | refine f_ (ea) fun kf hkf => ?_ | refine f_ (eb) fun kf hkf => ?_ | refine f_ (n0) fun kf hkf => ?_ | refine nl_ ?_ | (refine nz_ ?_; first | (show aWp _ _ _ _ _) | skip) | refine sq_ ?_ | refine rg_ ?_ | refine k_ ?_ | refine ct_ ?_ | refine cf_ ?_ | refine bk_ ?_ | refine sc_ ?_ | (refine sk_ ?_; first | (show aWp _ _ _ _ _) | skip) | (refine ex_ ?_; first | (show aWp _ _ _ _ _) | skip) | refine rt_ ?_)
      have FX := Fx.mk (And.intro @dt <| @decide_true)
      refine W_draw mixed rfl rfl ?_
      repeat (first | refine dq_ ?_ | refine df_ (sb) ?_ | refine df_ (ofa) ?_ | refine df_ (sm) ?_ | refine dr_ [nx, nx + 1] ?_ | refine dk_ ?_ | refine dn_ ?_)
      refine fun kd hkd => ?_
      simp only [List.length_cons, List.length_nil] at hkd
      first | (show aWp _ _ _ _ _) | skip
      have FX := Fx0
      repeat (first | refine v_ ?_ | refine u_ ?_ | refine nl_ ?_ | (refine nz_ ?_; first | (show aWp _ _ _ _ _) | skip) | refine sq_ ?_ | refine rg_ ?_ | refine k_ ?_ | refine ct_ ?_ | refine cf_ ?_ | refine bk_ ?_ | refine sc_ ?_ | (refine sk_ ?_; first | (show aWp _ _ _ _ _) | skip) | (refine ex_ ?_; first | (show aWp _ _ _ _ _) | skip) | refine rt_ ?_)
      (have FX := Fx0; exact end_ Try.results8)
    · have eb := journal_Encode_bad b hob
      simp only [Rec.av_eq] at *
      refine aFun_body Try.func8 rfl rfl (by simp [Try.ntmps8]) fun hreal h nx hfresh => ?_
      rw [Try.ntmps8]
      have FX := Fx.mk (And.intro @d0 <| And.intro @d9 <| And.intro @d00 <| And.intro @la <| And.intro @Bool.not_true <| And.intro @Bool.not_false <| @decide_true)
      repeat (first | refine v_ ?_ | refine u_ ?_ | refine f_ (al) fun kf hkf => ?_ | refine f_ (ofa) fun kf hkf => ?_ | refine f_ (ofb) fun kf hkf => ?_ | refine f_ (ea) fun kf hkf => ?_ | refine f_ (eb) fun kf hkf => ?_ | refine f_ (n0) fun kf hkf => ?_ | refine f_ (n9) fun kf hkf => ?_ | refine nl_ ?_ | (refine nz_ ?_; first | (show aWp _ _ _ _ _) | skip) | refine sq_ ?_ | refine rg_ ?_ | refine k_ ?_ | refine ct_ ?_ | refine cf_ ?_ | refine bk_ ?_ | refine sc_ ?_ | (refine sk_ ?_; first | (show aWp _ _ _ _ _) | skip) | (refine ex_ ?_; first | (show aWp _ _ _ _ _) | skip) | refine rt_ ?_)
      (have FX := Fx0; exact end_ Try.results8)
  · have ea := journal_Encode_bad a hoa
    by_cases hob : b.ok
    · have eb := (journal_Encode b hob).fn_tup
      simp only [Rec.av_eq] at *
      refine aFun_body Try.func8 rfl rfl (by simp [Try.ntmps8]) fun hreal h nx hfresh => ?_
      rw [Try.ntmps8]
      have FX := Fx.mk (And.intro @d9 <| And.intro @d00 <| And.intro @Bool.not_true <| And.intro @Bool.not_false <| @decide_true)
      repeat (first | refine v_ ?_ | refine u_ ?_ | refine f_ (al) fun kf hkf => ?_ | refine f_ (ofa) fun kf hkf => ?_ | refine f_ (ofb) fun kf hkf => ?_ | refine f_ (ea) fun kf hkf => ?_ | refine f_ (eb) fun kf hkf => ?_ | refine f_ (n9) fun kf hkf => ?_ | refine nl_ ?_ | (refine nz_ ?_; first | (show aWp _ _ _ _ _) | skip) | refine sq_ ?_ | refine rg_ ?_ | refine k_ ?_ | refine ct_ ?_ | refine cf_ ?_ | refine bk_ ?_ | refine sc_ ?_ | (refine sk_ ?_; first | (show aWp _ _ _ _ _) | skip) | (refine ex_ ?_; first | (show aWp _ _ _ _ _) | skip) | refine rt_ ?_)
      (have FX := Fx0; exact end_ Try.results8)
    · have eb := journal_Encode_bad b hob
      simp only [Rec.av_eq] at *
      refine aFun_body Try.func8 rfl rfl (by simp [Try.ntmps8]) fun hreal h nx hfresh => ?_
      rw [Try.ntmps8]
      have FX := Fx.mk (And.intro @d9 <| And.intro @d00 <| And.intro @Bool.not_true <| And.intro @Bool.not_false <| @decide_true)
      repeat (first | refine v_ ?_ | refine u_ ?_ | refine f_ (al) fun kf hkf => ?_ | refine f_ (ofa) fun kf hkf => ?_ | refine f_ (ofb) fun kf hkf => ?_ | refine f_ (ea) fun kf hkf => ?_ | refine f_ (eb) fun kf hkf => ?_ | refine f_ (n9) fun kf hkf => ?_ | refine nl_ ?_ | (refine nz_ ?_; first | (show aWp _ _ _ _ _) | skip) | refine sq_ ?_ | refine rg_ ?_ | refine k_ ?_ | refine ct_ ?_ | refine cf_ ?_ | refine bk_ ?_ | refine sc_ ?_ | (refine sk_ ?_; first | (show aWp _ _ _ _ _) | skip) | (refine ex_ ?_; first | (show aWp _ _ _ _ _) | skip) | refine rt_ ?_)
      (have FX := Fx0; exact end_ Try.results8)
end Go.Proofs.Yteklnhogokjkkaa.AE
