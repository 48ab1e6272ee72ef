/- Layer 15's law JournalTells. -/
import Derived.Test.YteklnhogokjkkaaJ8
import Derived.Test.YteklnhogokjkkaaJ14
namespace Go.Proofs.Yteklnhogokjkkaa.AE
open Go Go.RowKit Go.Proofs Go.Proofs.Yteklnhogokjkkaa
set_option linter.unusedVariables false
set_option linter.unusedSimpArgs false
set_option maxRecDepth 100000
set_option maxHeartbeats 8000000
theorem law_all (l : List Rec) : aFun Try.prog 20 [.sl (recsB l), .sl (recsB l)] (.bool true) := by
  have ll := recsB_len l
  refine aFun_body Try.func20 rfl rfl (by simp [Try.ntmps20]) fun hreal h nx hfresh => ?_
  rw [Try.ntmps20]
  have hal : l.length < 4611686018427387904 := by
    have := (hreal (.sl (recsB l)) (by simp)).sl.1
    rwa [ll] at this
  have FX := Fx.mk (And.intro @ll <| And.intro @decide_true <| @Bool.not_true)
  repeat (first | refine v_ ?_ | refine u_ ?_ | refine nl_ ?_ | (refine nz_ ?_; first | (show aWp _ _ _ _ _) | skip) | refine sq_ ?_ | refine rg_ ?_ | refine k_ ?_ | refine ct_ ?_ | refine cf_ ?_ | refine bk_ ?_ | refine sc_ ?_ | (refine sk_ ?_; first | (show aWp _ _ _ _ _) | skip) | (refine ex_ ?_; first | (show aWp _ _ _ _ _) | skip) | refine rt_ ?_)
  refine W_loopK [0, 1] nx (fun r tm h q => ∃ i : Nat, i ≤ l.length ∧ r = l.length - i ∧ tm 5 = .int .i64 i) l.length (by omega) ⟨0, by omega, rfl, by (have FX := Fx0; exact cl_)⟩ ?_
  rintro r tm' h' k' ⟨i, hi, rfl, h5⟩ hag hh hk'
  by_cases hlt : i < l.length
  · have hd : decide ((i : Int) < (l.length : Int)) = true := decide_eq_true (by omega)
    have hw : IntKind.i64.wrap (i + 1) = ((i + 1 : Nat) : Int) := by rw [wrapI] <;> omega
    obtain ⟨x, hx⟩ : ∃ x, l[i]? = some x := ⟨_, List.getElem?_eq_getElem hlt⟩
    have ea := recsB_get l i x hx
    have sm := law_same x x
    rw [decide_eq_true rfl, Rec.av_eq] at sm
    have FX := Fx.mk (And.intro @hag <| And.intro @h5 <| And.intro @ll <| @hd)
    repeat (first | refine v_ ?_ | refine u_ ?_ | refine nl_ ?_ | (refine nz_ ?_; first | (show aWp _ _ _ _ _) | skip) | refine sq_ ?_ | refine rg_ ?_ | refine k_ ?_ | refine ct_ ?_ | refine cf_ ?_ | refine bk_ ?_ | refine sc_ ?_ | (refine sk_ ?_; first | (show aWp _ _ _ _ _) | skip) | (refine ex_ ?_; first | (show aWp _ _ _ _ _) | skip) | refine rt_ ?_)
    have FX := Fx.mk (And.intro @hag <| And.intro @h5 <| And.intro @ea <| @Bool.not_true)
    refine W_draw mixed rfl rfl ?_
    repeat (first | refine dq_ ?_ | refine df_ (sm) ?_ | refine dr_ [nx] ?_ | refine dk_ ?_ | refine dn_ ?_)
    refine fun kd hkd => ?_
    simp only [List.length_cons, List.length_nil] at hkd
    first | (show aWp _ _ _ _ _) | skip
    have FX := Fx.mk (And.intro @hag <| And.intro @h5 <| @hw)
    repeat (first | refine v_ ?_ | refine u_ ?_ | refine nl_ ?_ | (refine nz_ ?_; first | (show aWp _ _ _ _ _) | skip) | refine sq_ ?_ | refine rg_ ?_ | refine k_ ?_ | refine ct_ ?_ | refine cf_ ?_ | refine bk_ ?_ | refine sc_ ?_ | (refine sk_ ?_; first | (show aWp _ _ _ _ _) | skip) | (refine ex_ ?_; first | (show aWp _ _ _ _ _) | skip) | refine rt_ ?_)
    refine ⟨l.length - (i + 1), by omega, ⟨i + 1, by omega, rfl, by (have FX := Fx0; exact cl_)⟩, ?_, ?_, by first | omega | (simp only; omega), rfl⟩
    · repeat (refine KAgree.upd rfl ?_)
      first | exact KAgree.refl _ _ | exact hag
    · exact (by have FX := Fx.mk (@hh); exact ha_)
  obtain rfl : i = l.length := by omega
  have hd : decide ((l.length : Int) < (l.length : Int)) = false := decide_eq_false (by omega)
  have FX := Fx.mk (And.intro @hag <| And.intro @h5 <| And.intro @ll <| @hd)
  repeat (first | refine v_ ?_ | refine u_ ?_ | refine nl_ ?_ | (refine nz_ ?_; first | (show aWp _ _ _ _ _) | skip) | refine sq_ ?_ | refine rg_ ?_ | refine k_ ?_ | refine ct_ ?_ | refine cf_ ?_ | refine bk_ ?_ | refine sc_ ?_ | (refine sk_ ?_; first | (show aWp _ _ _ _ _) | skip) | (refine ex_ ?_; first | (show aWp _ _ _ _ _) | skip) | refine rt_ ?_)
  (have FX := Fx.mk (And.intro @hag <| @hh); exact end_ Try.results20)
theorem law_Tells (r : Rec) (b : List Int) (next : Int) (hz : r.pages.length * 32 ≤ 140737488351232 ∧ ∀ p ∈ r.pages, p.2.length ≤ 140737488351232) (hb : b.length ≤ 140737488351232) : aFun Try.prog 3 [r.av, .sl (numB .u8 b), .int .i64 next] (.bool true) := by
  have al := law_alive
  have of := law_Of r hz.1 (fun p hp => by have := hz.2 p hp; omega)
  have cf := Copy_fn b (by omega)
  obtain ⟨E, e, en1, en2⟩ : ∃ (E : List Int) (e : Int), aFun Try.prog 11 [r.av] (.tup [.sl (numB .u8 E), .int .i64 e]) ∧ aFun Try.prog 12 [r.av] (.tup [.sl (numB .u8 E), .int .i64 e]) := by
    by_cases hok : r.ok
    · exact ⟨_, _, (journal_Encode r hok).fn_tup, ref15_Encode r hok⟩
    · exact ⟨[], 9, journal_Encode_bad r hok, ref15_Encode_bad r hok⟩
  have d1 := journal_Decode b
  have d2 := ref15_Decode b
  unfold decV at d1 d2
  obtain ⟨⟨X, n, g⟩, hX⟩ : ∃ t, decS b = t := ⟨_, rfl⟩
  rw [hX] at d1 d2
  have s1 := journal_Scan b next (by omega)
  have s2 := ref15_Scan b next (by omega)
  unfold scanV at s1 s2
  obtain ⟨⟨L, m⟩, hL⟩ : ∃ t, scanS b next = t := ⟨_, rfl⟩
  rw [hL] at s1 s2
  have a1 := law_all L
  have sE := SameBytes E E
  have sB := SameBytes b b
  have sX := law_same X X
  have sR := law_same r r
  have k1 := journal_Check r
  have k2 := ref15_Check r
  have ne := law_num e
  have ng := law_num g
  have nk := law_num r.chk
  rw [decide_eq_true rfl] at sE sB sX sR
  simp only [Rec.av_eq] at *
  refine aFun_body Try.func3 rfl rfl (by simp [Try.ntmps3]) fun hreal h nx hfresh => ?_
  rw [Try.ntmps3]
  have FX := Fx.mk (And.intro @decide_true <| And.intro @Bool.not_true <| @Bool.not_false)
  repeat (first | refine v_ ?_ | refine u_ ?_ | refine f_ (of) fun kf hkf => ?_ | refine f_ (cf) fun kf hkf => ?_ | refine nl_ ?_ | (refine nz_ ?_; first | (show aWp _ _ _ _ _) | skip) | refine sq_ ?_ | refine rg_ ?_ | refine k_ ?_ | refine ct_ ?_ | refine cf_ ?_ | refine bk_ ?_ | refine sc_ ?_ | (refine sk_ ?_; first | (show aWp _ _ _ _ _) | skip) | (refine ex_ ?_; first | (show aWp _ _ _ _ _) | skip) | refine rt_ ?_)
  obtain ⟨k7, rfl⟩ : ∃ q, q = kf := ⟨kf, rfl⟩
  have hk7 := hkf
  have FX := Fx.mk (And.intro @decide_true <| And.intro @Bool.not_true <| @Bool.not_false)
  repeat (first | refine v_ ?_ | refine u_ ?_ | refine f_ (en1) fun kf hkf => ?_ | refine f_ (en2) fun kf hkf => ?_ | refine f_ (d1) fun kf hkf => ?_ | refine f_ (d2) fun kf hkf => ?_ | refine f_ (s1) fun kf hkf => ?_ | refine f_ (s2) fun kf hkf => ?_ | refine f_ (sE) fun kf hkf => ?_ | refine f_ (ne) fun kf hkf => ?_ | refine f_ (sX) fun kf hkf => ?_ | refine f_ (ng) fun kf hkf => ?_ | refine f_ (a1) fun kf hkf => ?_ | refine nl_ ?_ | (refine nz_ ?_; first | (show aWp _ _ _ _ _) | skip) | refine sq_ ?_ | refine rg_ ?_ | refine k_ ?_ | refine ct_ ?_ | refine cf_ ?_ | refine bk_ ?_ | refine sc_ ?_ | (refine sk_ ?_; first | (show aWp _ _ _ _ _) | skip) | (refine ex_ ?_; first | (show aWp _ _ _ _ _) | skip) | refine rt_ ?_)
  have FX := Fx.mk (@decide_true)
  first | refine keep_ (kp_ 1 <| kp_ 3 <| kp_ 7 <| kp_ 8 <| kp0_) ?_ | refine keepO_ (kp_ 1 <| kp_ 3 <| kp_ 7 <| kp_ 8 <| kp0_) ?_
  have FX := Fx.mk (@decide_true)
  refine W_draw mixed rfl rfl ?_
  repeat (first | refine dq_ ?_ | refine df_ (k1) ?_ | refine df_ (nk) ?_ | refine df_ (k2) ?_ | refine df_ (sR) ?_ | refine df_ (sB) ?_ | refine df_ (al) ?_ | refine dr_ [nx, k7] ?_ | refine dk_ ?_ | refine dn_ ?_)
  refine fun kd hkd => ?_
  simp only [List.length_cons, List.length_nil] at hkd
  first | (show aWp _ _ _ _ _) | skip
  have FX := Fx0
  repeat (first | refine v_ ?_ | refine u_ ?_ | refine nl_ ?_ | (refine nz_ ?_; first | (show aWp _ _ _ _ _) | skip) | refine sq_ ?_ | refine rg_ ?_ | refine k_ ?_ | refine ct_ ?_ | refine cf_ ?_ | refine bk_ ?_ | refine sc_ ?_ | (refine sk_ ?_; first | (show aWp _ _ _ _ _) | skip) | (refine ex_ ?_; first | (show aWp _ _ _ _ _) | skip) | refine rt_ ?_)
  (have FX := Fx0; exact end_ Try.results3)
end Go.Proofs.Yteklnhogokjkkaa.AE
