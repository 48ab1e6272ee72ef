/- Layer 15's law JournalBack (in the bounds of its Upto form). -/
import Derived.Test.YteklnhogokjkkaaJ8
namespace Go.Proofs.Yteklnhogokjkkaa.AE
open Go Go.RowKit Go.Proofs Go.Proofs.Yteklnhogokjkkaa
set_option linter.unusedVariables false
set_option linter.unusedSimpArgs false
set_option maxRecDepth 100000
set_option maxHeartbeats 8000000
theorem law_Back (r : Rec) (more b : List Int) (hz : r.pages.length * 32 ≤ 140737488351232 ∧ ∀ p ∈ r.pages, p.2.length ≤ 140737488351232) (hm : more.length ≤ 1048576) (hb : b.length ≤ 140737488351232) : aFun Try.prog 4 [r.av, .sl (numB .u8 more), .sl (numB .u8 b)] (.bool true) := by
  have al := law_alive
  have of := law_Of r hz.1 (fun p hp => by have := hz.2 p hp; omega)
  have n0 := law_num 0
  have n8 := law_num 8
  have n9 := law_num 9
  have n21 := law_num 21
  have d0 : decide ((0 : Int) = 0) = true := rfl
  have d8 : decide ((8 : Int) = 0) = false := rfl
  have d9 : decide ((9 : Int) = 0) = false := rfl
  have d21 : decide ((21 : Int) = 0) = false := rfl
  have d00 : decide (((0 : Nat) : Int) = 0) = true := rfl
  have db := journal_Decode b
  have sR := law_same r r
  rw [decide_eq_true rfl] at sR
  simp only [Rec.av_eq] at *
  refine aFun_body Try.func4 rfl rfl (by simp [Try.ntmps4]) fun hreal h nx hfresh => ?_
  rw [Try.ntmps4]
  have FX := Fx.mk (@Bool.not_true)
  repeat (first | refine v_ ?_ | refine u_ ?_ | refine f_ (al) fun kf hkf => ?_ | refine nl_ ?_ | (refine nz_ ?_; first | (show aWp _ _ _ _ _) | skip) | refine sq_ ?_ | refine rg_ ?_ | refine k_ ?_ | refine ct_ ?_ | refine cf_ ?_ | refine bk_ ?_ | refine sc_ ?_ | (refine sk_ ?_; first | (show aWp _ _ _ _ _) | skip) | (refine ex_ ?_; first | (show aWp _ _ _ _ _) | skip) | refine rt_ ?_)
  obtain ⟨k0, rfl⟩ : ∃ q, q = kf := ⟨kf, rfl⟩
  have hk0 := hkf
  by_cases hok : r.ok
  · have hl := enc_le r hok
    have en := (journal_Encode r hok).fn_tup
    have cp := CopyBytes r.enc (by omega)
    have de := journal_Decode (r.enc ++ more)
    rw [decV_ok (dec_enc hok more)] at de
    simp only [Rec.av_eq] at en de
    obtain ⟨X, hX⟩ : ∃ X, r.enc = X := ⟨_, rfl⟩
    rw [hX] at hl en cp de
    have dX : decide ((X.length : Int) = (X.length : Int)) = true := decide_eq_true rfl
    have FX := Fx.mk (And.intro @d0 <| And.intro @Bool.not_true <| And.intro @Bool.not_false <| @decide_true)
    repeat (first | refine v_ ?_ | refine u_ ?_ | refine f_ (of) fun kf hkf => ?_ | refine f_ (en) fun kf hkf => ?_ | refine f_ (n0) fun kf hkf => ?_ | refine nl_ ?_ | (refine nz_ ?_; first | (show aWp _ _ _ _ _) | skip) | refine sq_ ?_ | refine rg_ ?_ | refine k_ ?_ | refine ct_ ?_ | refine cf_ ?_ | refine bk_ ?_ | refine sc_ ?_ | (refine sk_ ?_; first | (show aWp _ _ _ _ _) | skip) | (refine ex_ ?_; first | (show aWp _ _ _ _ _) | skip) | refine rt_ ?_)
    have FX := Fx0
    repeat (first | refine v_ ?_ | refine u_ ?_ | refine o_ (cp) fun mf kf hmf hkf => ?_ | refine nl_ ?_ | (refine nz_ ?_; first | (show aWp _ _ _ _ _) | skip) | refine sq_ ?_ | refine rg_ ?_ | refine k_ ?_ | refine ct_ ?_ | refine cf_ ?_ | refine bk_ ?_ | refine sc_ ?_ | (refine sk_ ?_; first | (show aWp _ _ _ _ _) | skip) | (refine ex_ ?_; first | (show aWp _ _ _ _ _) | skip) | refine rt_ ?_)
    have FX := Fx0; refine fz_ 32 ?_
    have FX := Fx.mk (And.intro @d0 <| And.intro @dX <| And.intro @Bool.not_true <| And.intro @Bool.not_false <| @decide_true)
    repeat (first | refine v_ ?_ | refine u_ ?_ | refine f_ (de) fun kf hkf => ?_ | refine f_ (n0) fun kf hkf => ?_ | refine f_ (sR) fun kf hkf => ?_ | refine nl_ ?_ | (refine nz_ ?_; first | (show aWp _ _ _ _ _) | skip) | refine sq_ ?_ | refine rg_ ?_ | refine k_ ?_ | refine ct_ ?_ | refine cf_ ?_ | refine bk_ ?_ | refine sc_ ?_ | (refine sk_ ?_; first | (show aWp _ _ _ _ _) | skip) | (refine ex_ ?_; first | (show aWp _ _ _ _ _) | skip) | refine rt_ ?_)
    cases hd : decR b with
    | error e =>
      rw [decV_err hd] at db
      have e1 : decide (e = 0) = false := decide_eq_false (by rcases decR_errs hd with rfl | rfl <;> decide)
      have ne := law_num e
      have FX := Fx.mk (And.intro @e1 <| And.intro @d0 <| And.intro @d00 <| And.intro @Bool.not_true <| And.intro @Bool.not_false <| @decide_true)
      repeat (first | refine v_ ?_ | refine u_ ?_ | refine f_ (db) fun kf hkf => ?_ | refine f_ (ne) fun kf hkf => ?_ | refine nl_ ?_ | (refine nz_ ?_; first | (show aWp _ _ _ _ _) | skip) | refine sq_ ?_ | refine rg_ ?_ | refine k_ ?_ | refine ct_ ?_ | refine cf_ ?_ | refine bk_ ?_ | refine sc_ ?_ | (refine sk_ ?_; first | (show aWp _ _ _ _ _) | skip) | (refine ex_ ?_; first | (show aWp _ _ _ _ _) | skip) | refine rt_ ?_)
      (have FX := Fx0; exact end_ Try.results4)
    | ok pr =>
      obtain ⟨r', n⟩ := pr
      rw [decV_ok hd, Rec.av_eq] at db
      obtain ⟨o1, o2, o3, o4⟩ := decR_ok hd
      have en2 := (journal_Encode r' o1).fn_tup
      rw [Rec.av_eq, o2] at en2
      have sB := SameBytes (b.take n) (b.take n)
      rw [decide_eq_true rfl] at sB
      have hn : (n : Int) ≤ (b.length : Int) := by omega
      have dn : decide ((n : Int) ≤ (b.length : Int)) = true := decide_eq_true hn
      have FX := Fx.mk (And.intro @d0 <| And.intro @hn <| And.intro @dn <| And.intro @Bool.not_true <| And.intro @Bool.not_false <| @decide_true)
      repeat (first | refine v_ ?_ | refine u_ ?_ | refine f_ (db) fun kf hkf => ?_ | refine f_ (n0) fun kf hkf => ?_ | refine f_ (en2) fun kf hkf => ?_ | refine f_ (sB) fun kf hkf => ?_ | refine nl_ ?_ | (refine nz_ ?_; first | (show aWp _ _ _ _ _) | skip) | refine sq_ ?_ | refine rg_ ?_ | refine k_ ?_ | refine ct_ ?_ | refine cf_ ?_ | refine bk_ ?_ | refine sc_ ?_ | (refine sk_ ?_; first | (show aWp _ _ _ _ _) | skip) | (refine ex_ ?_; first | (show aWp _ _ _ _ _) | skip) | refine rt_ ?_)
      (have FX := Fx0; exact end_ Try.results4)
  · have en := journal_Encode_bad r hok
    simp only [Rec.av_eq] at en
    have FX := Fx.mk (And.intro @d9 <| And.intro @Bool.not_true <| And.intro @Bool.not_false <| @decide_true)
    repeat (first | refine v_ ?_ | refine u_ ?_ | refine f_ (of) fun kf hkf => ?_ | refine f_ (en) fun kf hkf => ?_ | refine f_ (n9) fun kf hkf => ?_ | refine nl_ ?_ | (refine nz_ ?_; first | (show aWp _ _ _ _ _) | skip) | refine sq_ ?_ | refine rg_ ?_ | refine k_ ?_ | refine ct_ ?_ | refine cf_ ?_ | refine bk_ ?_ | refine sc_ ?_ | (refine sk_ ?_; first | (show aWp _ _ _ _ _) | skip) | (refine ex_ ?_; first | (show aWp _ _ _ _ _) | skip) | refine rt_ ?_)
    cases hd : decR b with
    | error e =>
      rw [decV_err hd] at db
      have e1 : decide (e = 0) = false := decide_eq_false (by rcases decR_errs hd with rfl | rfl <;> decide)
      have ne := law_num e
      have FX := Fx.mk (And.intro @e1 <| And.intro @d0 <| And.intro @d00 <| And.intro @Bool.not_true <| And.intro @Bool.not_false <| @decide_true)
      repeat (first | refine v_ ?_ | refine u_ ?_ | refine f_ (db) fun kf hkf => ?_ | refine f_ (ne) fun kf hkf => ?_ | refine nl_ ?_ | (refine nz_ ?_; first | (show aWp _ _ _ _ _) | skip) | refine sq_ ?_ | refine rg_ ?_ | refine k_ ?_ | refine ct_ ?_ | refine cf_ ?_ | refine bk_ ?_ | refine sc_ ?_ | (refine sk_ ?_; first | (show aWp _ _ _ _ _) | skip) | (refine ex_ ?_; first | (show aWp _ _ _ _ _) | skip) | refine rt_ ?_)
      (have FX := Fx0; exact end_ Try.results4)
    | ok pr =>
      obtain ⟨r', n⟩ := pr
      rw [decV_ok hd, Rec.av_eq] at db
      obtain ⟨o1, o2, o3, o4⟩ := decR_ok hd
      have en2 := (journal_Encode r' o1).fn_tup
      rw [Rec.av_eq, o2] at en2
      have sB := SameBytes (b.take n) (b.take n)
      rw [decide_eq_true rfl] at sB
      have hn : (n : Int) ≤ (b.length : Int) := by omega
      have dn : decide ((n : Int) ≤ (b.length : Int)) = true := decide_eq_true hn
      have FX := Fx.mk (And.intro @d0 <| And.intro @hn <| And.intro @dn <| And.intro @Bool.not_true <| And.intro @Bool.not_false <| @decide_true)
      repeat (first | refine v_ ?_ | refine u_ ?_ | refine f_ (db) fun kf hkf => ?_ | refine f_ (n0) fun kf hkf => ?_ | refine f_ (en2) fun kf hkf => ?_ | refine f_ (sB) fun kf hkf => ?_ | refine nl_ ?_ | (refine nz_ ?_; first | (show aWp _ _ _ _ _) | skip) | refine sq_ ?_ | refine rg_ ?_ | refine k_ ?_ | refine ct_ ?_ | refine cf_ ?_ | refine bk_ ?_ | refine sc_ ?_ | (refine sk_ ?_; first | (show aWp _ _ _ _ _) | skip) | (refine ex_ ?_; first | (show aWp _ _ _ _ _) | skip) | refine rt_ ?_)
      (have FX := Fx0; exact end_ Try.results4)
end Go.Proofs.Yteklnhogokjkkaa.AE
