/- Layer 15's page: Check, put, get, Encode. -/
import Derived.Test.YteklnhogokjkkaaJ3
import Derived.Test.YteklnhogokjkkaaJ2
import Derived.Test.YteklnhogokjkkaaG3
import Derived.Test.YteklnhogokjkkaaG4
import Derived.Test.YteklnhogokjkkaaG8
namespace Go.Proofs.Yteklnhogokjkkaa.AE
open Go Go.RowKit Go.Proofs Go.Proofs.Yteklnhogokjkkaa
set_option linter.unusedVariables false
set_option linter.unusedSimpArgs false
set_option maxRecDepth 100000
set_option maxHeartbeats 8000000
theorem ref15_Check (r : Rec) : aFun Try.prog 22 [r.av] (.int .i64 r.chk) := by
  rw [Rec.av_eq]
  by_cases h1 : r.q < 1
  · rw [show r.chk = 9 from if_neg (by unfold Rec.ok; omega)]
    have e1 := decide_eq_true h1
    refine aFun_body Try.func22 rfl rfl (by simp [Try.ntmps22]) fun hreal h nx hfresh => ?_
    rw [Try.ntmps22]
    have FX := Fx.mk (And.intro @e1 <| And.intro @Bool.not_true <| @Bool.not_false)
    repeat (first | refine v_ ?_ | refine u_ ?_ | refine nl_ ?_ | (refine nz_ ?_; first | (show aWp _ _ _ _ _) | skip) | refine sq_ ?_ | refine rg_ ?_ | refine k_ ?_ | refine ct_ ?_ | refine cf_ ?_ | refine bk_ ?_ | refine sc_ ?_ | (refine sk_ ?_; first | (show aWp _ _ _ _ _) | skip) | (refine ex_ ?_; first | (show aWp _ _ _ _ _) | skip) | refine rt_ ?_)
    (have FX := Fx0; exact end_ Try.results22)
  have e1 := decide_eq_false h1
  by_cases h2 : 1099511627776 < r.q
  · rw [show r.chk = 9 from if_neg (by unfold Rec.ok; omega)]
    have e2 := decide_eq_true h2
    refine aFun_body Try.func22 rfl rfl (by simp [Try.ntmps22]) fun hreal h nx hfresh => ?_
    rw [Try.ntmps22]
    have FX := Fx.mk (And.intro @e1 <| And.intro @e2 <| And.intro @Bool.not_true <| @Bool.not_false)
    repeat (first | refine v_ ?_ | refine u_ ?_ | refine nl_ ?_ | (refine nz_ ?_; first | (show aWp _ _ _ _ _) | skip) | refine sq_ ?_ | refine rg_ ?_ | refine k_ ?_ | refine ct_ ?_ | refine cf_ ?_ | refine bk_ ?_ | refine sc_ ?_ | (refine sk_ ?_; first | (show aWp _ _ _ _ _) | skip) | (refine ex_ ?_; first | (show aWp _ _ _ _ _) | skip) | refine rt_ ?_)
    (have FX := Fx0; exact end_ Try.results22)
  have e2 := decide_eq_false h2
  by_cases h3 : r.root < 0
  · rw [show r.chk = 9 from if_neg (by unfold Rec.ok; omega)]
    have e3 := decide_eq_true h3
    refine aFun_body Try.func22 rfl rfl (by simp [Try.ntmps22]) fun hreal h nx hfresh => ?_
    rw [Try.ntmps22]
    have FX := Fx.mk (And.intro @e1 <| And.intro @e2 <| And.intro @e3 <| And.intro @Bool.not_true <| @Bool.not_false)
    repeat (first | refine v_ ?_ | refine u_ ?_ | refine nl_ ?_ | (refine nz_ ?_; first | (show aWp _ _ _ _ _) | skip) | refine sq_ ?_ | refine rg_ ?_ | refine k_ ?_ | refine ct_ ?_ | refine cf_ ?_ | refine bk_ ?_ | refine sc_ ?_ | (refine sk_ ?_; first | (show aWp _ _ _ _ _) | skip) | (refine ex_ ?_; first | (show aWp _ _ _ _ _) | skip) | refine rt_ ?_)
    (have FX := Fx0; exact end_ Try.results22)
  have e3 := decide_eq_false h3
  by_cases h4 : 2048 < r.root
  · rw [show r.chk = 9 from if_neg (by unfold Rec.ok; omega)]
    have e4 := decide_eq_true h4
    refine aFun_body Try.func22 rfl rfl (by simp [Try.ntmps22]) fun hreal h nx hfresh => ?_
    rw [Try.ntmps22]
    have FX := Fx.mk (And.intro @e1 <| And.intro @e2 <| And.intro @e3 <| And.intro @e4 <| And.intro @Bool.not_true <| @Bool.not_false)
    repeat (first | refine v_ ?_ | refine u_ ?_ | refine nl_ ?_ | (refine nz_ ?_; first | (show aWp _ _ _ _ _) | skip) | refine sq_ ?_ | refine rg_ ?_ | refine k_ ?_ | refine ct_ ?_ | refine cf_ ?_ | refine bk_ ?_ | refine sc_ ?_ | (refine sk_ ?_; first | (show aWp _ _ _ _ _) | skip) | (refine ex_ ?_; first | (show aWp _ _ _ _ _) | skip) | refine rt_ ?_)
    (have FX := Fx0; exact end_ Try.results22)
  have e4 := decide_eq_false h4
  by_cases h5 : r.room < 0
  · rw [show r.chk = 9 from if_neg (by unfold Rec.ok; omega)]
    have e5 := decide_eq_true h5
    refine aFun_body Try.func22 rfl rfl (by simp [Try.ntmps22]) fun hreal h nx hfresh => ?_
    rw [Try.ntmps22]
    have FX := Fx.mk (And.intro @e1 <| And.intro @e2 <| And.intro @e3 <| And.intro @e4 <| And.intro @e5 <| And.intro @Bool.not_true <| @Bool.not_false)
    repeat (first | refine v_ ?_ | refine u_ ?_ | refine nl_ ?_ | (refine nz_ ?_; first | (show aWp _ _ _ _ _) | skip) | refine sq_ ?_ | refine rg_ ?_ | refine k_ ?_ | refine ct_ ?_ | refine cf_ ?_ | refine bk_ ?_ | refine sc_ ?_ | (refine sk_ ?_; first | (show aWp _ _ _ _ _) | skip) | (refine ex_ ?_; first | (show aWp _ _ _ _ _) | skip) | refine rt_ ?_)
    (have FX := Fx0; exact end_ Try.results22)
  have e5 := decide_eq_false h5
  by_cases h6 : 65536 < r.room
  · rw [show r.chk = 9 from if_neg (by unfold Rec.ok; omega)]
    have e6 := decide_eq_true h6
    refine aFun_body Try.func22 rfl rfl (by simp [Try.ntmps22]) fun hreal h nx hfresh => ?_
    rw [Try.ntmps22]
    have FX := Fx.mk (And.intro @e1 <| And.intro @e2 <| And.intro @e3 <| And.intro @e4 <| And.intro @e5 <| And.intro @e6 <| And.intro @Bool.not_true <| @Bool.not_false)
    repeat (first | refine v_ ?_ | refine u_ ?_ | refine nl_ ?_ | (refine nz_ ?_; first | (show aWp _ _ _ _ _) | skip) | refine sq_ ?_ | refine rg_ ?_ | refine k_ ?_ | refine ct_ ?_ | refine cf_ ?_ | refine bk_ ?_ | refine sc_ ?_ | (refine sk_ ?_; first | (show aWp _ _ _ _ _) | skip) | (refine ex_ ?_; first | (show aWp _ _ _ _ _) | skip) | refine rt_ ?_)
    (have FX := Fx0; exact end_ Try.results22)
  have e6 := decide_eq_false h6
  by_cases h7 : 256 < ((pagesB r.pages).length : Int)
  · have pl := pagesB_len r.pages
    rw [show r.chk = 9 from if_neg (by unfold Rec.ok; omega)]
    have e7 := decide_eq_true h7
    refine aFun_body Try.func22 rfl rfl (by simp [Try.ntmps22]) fun hreal h nx hfresh => ?_
    rw [Try.ntmps22]
    have FX := Fx.mk (And.intro @e1 <| And.intro @e2 <| And.intro @e3 <| And.intro @e4 <| And.intro @e5 <| And.intro @e6 <| And.intro @e7 <| And.intro @Bool.not_true <| @Bool.not_false)
    repeat (first | refine v_ ?_ | refine u_ ?_ | refine nl_ ?_ | (refine nz_ ?_; first | (show aWp _ _ _ _ _) | skip) | refine sq_ ?_ | refine rg_ ?_ | refine k_ ?_ | refine ct_ ?_ | refine cf_ ?_ | refine bk_ ?_ | refine sc_ ?_ | (refine sk_ ?_; first | (show aWp _ _ _ _ _) | skip) | (refine ex_ ?_; first | (show aWp _ _ _ _ _) | skip) | refine rt_ ?_)
    (have FX := Fx0; exact end_ Try.results22)
  have e7 := decide_eq_false h7
  have pl := pagesB_len r.pages
  rw [pl] at e7 h7
  refine aFun_body Try.func22 rfl rfl (by simp [Try.ntmps22]) fun hreal h nx hfresh => ?_
  rw [Try.ntmps22]
  have FX := Fx.mk (And.intro @e1 <| And.intro @e2 <| And.intro @e3 <| And.intro @e4 <| And.intro @e5 <| And.intro @e6 <| And.intro @e7 <| And.intro @pl <| And.intro @Bool.not_true <| @Bool.not_false)
  repeat (first | refine v_ ?_ | refine u_ ?_ | refine nl_ ?_ | (refine nz_ ?_; first | (show aWp _ _ _ _ _) | skip) | refine sq_ ?_ | refine rg_ ?_ | refine k_ ?_ | refine ct_ ?_ | refine cf_ ?_ | refine bk_ ?_ | refine sc_ ?_ | (refine sk_ ?_; first | (show aWp _ _ _ _ _) | skip) | (refine ex_ ?_; first | (show aWp _ _ _ _ _) | skip) | refine rt_ ?_)
  refine W_loopK [0, 1] (nx + 1) (fun k tm h q => ∃ i : Nat, i ≤ r.pages.length ∧ k = r.pages.length - i ∧ tm 3 = .int .i64 i ∧ ∀ j, j < i → Rec.okP r.pages j) r.pages.length (by omega) ⟨0, by omega, rfl, by (have FX := Fx0; exact cl_), fun j hj => by omega⟩ ?_
  rintro k tm' h' k' ⟨i, hi, rfl, h3', hall⟩ hag hh hk'
  have b1 : h' nx = some ⟨4, [[.int .i64 r.q, .int .i64 r.root, .int .i64 r.room, .sl (pagesB r.pages)]]⟩ := by rw [hh nx (by omega)]; (have FX := Fx0; exact cl_)
  by_cases hlt : i < r.pages.length
  · have hd : decide ((i : Int) < (r.pages.length : Int)) = true := decide_eq_true (by omega)
    have hw : IntKind.i64.wrap (i + 1) = ((i + 1 : Nat) : Int) := by rw [wrapI] <;> omega
    obtain ⟨p, hp⟩ : ∃ p, r.pages[i]? = some p := ⟨_, List.getElem?_eq_getElem hlt⟩
    have hpb := pagesB_get _ i p hp
    have gd : r.pages.getD i (0, []) = p := getD_some hp
    have okd : Rec.okP r.pages i ↔ Rec.prevN r.pages i < p.1 ∧ (1 ≤ p.1 ∧ p.1 ≤ 2048) ∧ (p.2.length = 0 ∨ p.2.length = 64) := by unfold Rec.okP; rw [gd]
    have bad : ¬ (Rec.prevN r.pages i < p.1 ∧ (1 ≤ p.1 ∧ p.1 ≤ 2048) ∧ (p.2.length = 0 ∨ p.2.length = 64)) → r.chk = 9 := fun q => if_neg fun k => q (okd.1 (k.2.2.2.2 i hlt))
    by_cases c0 : p.1 < 1
    · rw [bad (by omega)]
      have g0 := decide_eq_true c0
      have FX := Fx.mk (And.intro @hag <| And.intro @h3' <| And.intro @hd <| And.intro @hpb <| And.intro @pl <| @b1)
      repeat (first | refine v_ ?_ | refine u_ ?_ | refine nl_ ?_ | (refine nz_ ?_; first | (show aWp _ _ _ _ _) | skip) | refine sq_ ?_ | refine rg_ ?_ | refine k_ ?_ | refine ct_ ?_ | refine cf_ ?_ | refine bk_ ?_ | refine sc_ ?_ | (refine sk_ ?_; first | (show aWp _ _ _ _ _) | skip) | (refine ex_ ?_; first | (show aWp _ _ _ _ _) | skip) | refine rt_ ?_)
      have FX := Fx.mk (And.intro @hag <| And.intro @h3' <| And.intro @hpb <| And.intro @b1 <| And.intro @g0 <| And.intro @Bool.not_true <| @Bool.not_false)
      refine W_draw mixed rfl rfl ?_
      repeat (first | refine dq_ ?_ | refine dr_ [nx, k'] ?_ | refine dk_ ?_ | refine dn_ ?_)
      refine fun kd hkd => ?_
      simp only [List.length_cons, List.length_nil] at hkd
      first | (show aWp _ _ _ _ _) | skip
      have FX := Fx0
      repeat (first | refine v_ ?_ | refine u_ ?_ | refine nl_ ?_ | (refine nz_ ?_; first | (show aWp _ _ _ _ _) | skip) | refine sq_ ?_ | refine rg_ ?_ | refine k_ ?_ | refine ct_ ?_ | refine cf_ ?_ | refine bk_ ?_ | refine sc_ ?_ | (refine sk_ ?_; first | (show aWp _ _ _ _ _) | skip) | (refine ex_ ?_; first | (show aWp _ _ _ _ _) | skip) | refine rt_ ?_)
      (have FX := Fx.mk (And.intro @hag <| And.intro @b1 <| @hh); exact end_ Try.results22)
    have g0 := decide_eq_false c0
    by_cases c1 : 2048 < p.1
    · rw [bad (by omega)]
      have g1 := decide_eq_true c1
      have FX := Fx.mk (And.intro @hag <| And.intro @h3' <| And.intro @hd <| And.intro @hpb <| And.intro @pl <| @b1)
      repeat (first | refine v_ ?_ | refine u_ ?_ | refine nl_ ?_ | (refine nz_ ?_; first | (show aWp _ _ _ _ _) | skip) | refine sq_ ?_ | refine rg_ ?_ | refine k_ ?_ | refine ct_ ?_ | refine cf_ ?_ | refine bk_ ?_ | refine sc_ ?_ | (refine sk_ ?_; first | (show aWp _ _ _ _ _) | skip) | (refine ex_ ?_; first | (show aWp _ _ _ _ _) | skip) | refine rt_ ?_)
      have FX := Fx.mk (And.intro @hag <| And.intro @h3' <| And.intro @hpb <| And.intro @b1 <| And.intro @g0 <| And.intro @g1 <| And.intro @Bool.not_true <| @Bool.not_false)
      refine W_draw mixed rfl rfl ?_
      repeat (first | refine dq_ ?_ | refine dr_ [nx, k'] ?_ | refine dk_ ?_ | refine dn_ ?_)
      refine fun kd hkd => ?_
      simp only [List.length_cons, List.length_nil] at hkd
      first | (show aWp _ _ _ _ _) | skip
      have FX := Fx0
      repeat (first | refine v_ ?_ | refine u_ ?_ | refine nl_ ?_ | (refine nz_ ?_; first | (show aWp _ _ _ _ _) | skip) | refine sq_ ?_ | refine rg_ ?_ | refine k_ ?_ | refine ct_ ?_ | refine cf_ ?_ | refine bk_ ?_ | refine sc_ ?_ | (refine sk_ ?_; first | (show aWp _ _ _ _ _) | skip) | (refine ex_ ?_; first | (show aWp _ _ _ _ _) | skip) | refine rt_ ?_)
      (have FX := Fx.mk (And.intro @hag <| And.intro @b1 <| @hh); exact end_ Try.results22)
    have g1 := decide_eq_false c1
    rcases Nat.eq_zero_or_pos i with hi0 | hi0
    · have p0 : Rec.prevN r.pages i = 0 := by rw [hi0]; rfl
      rw [p0] at okd bad
      have g2 : decide ((0 : Int) < (i : Int)) = false := decide_eq_false (by omega)
      by_cases c4 : p.2.length = 0
      · have g4 : decide ((p.2.length : Int) = 0) = true := decide_eq_true (by omega)
        have FX := Fx.mk (And.intro @hag <| And.intro @h3' <| And.intro @hd <| And.intro @hpb <| And.intro @pl <| @b1)
        repeat (first | refine v_ ?_ | refine u_ ?_ | refine nl_ ?_ | (refine nz_ ?_; first | (show aWp _ _ _ _ _) | skip) | refine sq_ ?_ | refine rg_ ?_ | refine k_ ?_ | refine ct_ ?_ | refine cf_ ?_ | refine bk_ ?_ | refine sc_ ?_ | (refine sk_ ?_; first | (show aWp _ _ _ _ _) | skip) | (refine ex_ ?_; first | (show aWp _ _ _ _ _) | skip) | refine rt_ ?_)
        have FX := Fx.mk (And.intro @hag <| And.intro @h3' <| And.intro @hpb <| And.intro @b1 <| And.intro @g0 <| And.intro @g1 <| And.intro @g2 <| And.intro @g4 <| And.intro @Bool.not_true <| @Bool.not_false)
        refine W_draw mixed rfl rfl ?_
        repeat (first | refine dq_ ?_ | refine dr_ [nx, k'] ?_ | refine dk_ ?_ | refine dn_ ?_)
        refine fun kd hkd => ?_
        simp only [List.length_cons, List.length_nil] at hkd
        first | (show aWp _ _ _ _ _) | skip
        have FX := Fx.mk (And.intro @hag <| And.intro @h3' <| @hw)
        repeat (first | refine v_ ?_ | refine u_ ?_ | refine nl_ ?_ | (refine nz_ ?_; first | (show aWp _ _ _ _ _) | skip) | refine sq_ ?_ | refine rg_ ?_ | refine k_ ?_ | refine ct_ ?_ | refine cf_ ?_ | refine bk_ ?_ | refine sc_ ?_ | (refine sk_ ?_; first | (show aWp _ _ _ _ _) | skip) | (refine ex_ ?_; first | (show aWp _ _ _ _ _) | skip) | refine rt_ ?_)
        refine ⟨r.pages.length - (i + 1), by omega, ⟨i + 1, by omega, rfl, by (have FX := Fx0; exact cl_), fun j hj => ?_⟩, ?_, ?_, by first | omega | (simp only; omega), rfl⟩
        · by_cases e : j = i
          · subst e; exact okd.2 ⟨by omega, by omega, by omega⟩
          · exact hall j (by omega)
        · repeat (refine KAgree.upd rfl ?_)
          first | exact KAgree.refl _ _ | exact hag
        · exact (by have FX := Fx.mk (@hh); exact ha_)
      have g4 : decide ((p.2.length : Int) = 0) = false := decide_eq_false (by omega)
      by_cases c5 : p.2.length = 64
      · have g5 : decide ((p.2.length : Int) = 64) = true := decide_eq_true (by omega)
        have FX := Fx.mk (And.intro @hag <| And.intro @h3' <| And.intro @hd <| And.intro @hpb <| And.intro @pl <| @b1)
        repeat (first | refine v_ ?_ | refine u_ ?_ | refine nl_ ?_ | (refine nz_ ?_; first | (show aWp _ _ _ _ _) | skip) | refine sq_ ?_ | refine rg_ ?_ | refine k_ ?_ | refine ct_ ?_ | refine cf_ ?_ | refine bk_ ?_ | refine sc_ ?_ | (refine sk_ ?_; first | (show aWp _ _ _ _ _) | skip) | (refine ex_ ?_; first | (show aWp _ _ _ _ _) | skip) | refine rt_ ?_)
        have FX := Fx.mk (And.intro @hag <| And.intro @h3' <| And.intro @hpb <| And.intro @b1 <| And.intro @g0 <| And.intro @g1 <| And.intro @g2 <| And.intro @g4 <| And.intro @g5 <| And.intro @Bool.not_true <| @Bool.not_false)
        refine W_draw mixed rfl rfl ?_
        repeat (first | refine dq_ ?_ | refine dr_ [nx, k'] ?_ | refine dk_ ?_ | refine dn_ ?_)
        refine fun kd hkd => ?_
        simp only [List.length_cons, List.length_nil] at hkd
        first | (show aWp _ _ _ _ _) | skip
        have FX := Fx.mk (And.intro @hag <| And.intro @h3' <| @hw)
        repeat (first | refine v_ ?_ | refine u_ ?_ | refine nl_ ?_ | (refine nz_ ?_; first | (show aWp _ _ _ _ _) | skip) | refine sq_ ?_ | refine rg_ ?_ | refine k_ ?_ | refine ct_ ?_ | refine cf_ ?_ | refine bk_ ?_ | refine sc_ ?_ | (refine sk_ ?_; first | (show aWp _ _ _ _ _) | skip) | (refine ex_ ?_; first | (show aWp _ _ _ _ _) | skip) | refine rt_ ?_)
        refine ⟨r.pages.length - (i + 1), by omega, ⟨i + 1, by omega, rfl, by (have FX := Fx0; exact cl_), fun j hj => ?_⟩, ?_, ?_, by first | omega | (simp only; omega), rfl⟩
        · by_cases e : j = i
          · subst e; exact okd.2 ⟨by omega, by omega, by omega⟩
          · exact hall j (by omega)
        · repeat (refine KAgree.upd rfl ?_)
          first | exact KAgree.refl _ _ | exact hag
        · exact (by have FX := Fx.mk (@hh); exact ha_)
      · have g5 : decide ((p.2.length : Int) = 64) = false := decide_eq_false (by omega)
        rw [bad (by omega)]
        have FX := Fx.mk (And.intro @hag <| And.intro @h3' <| And.intro @hd <| And.intro @hpb <| And.intro @pl <| @b1)
        repeat (first | refine v_ ?_ | refine u_ ?_ | refine nl_ ?_ | (refine nz_ ?_; first | (show aWp _ _ _ _ _) | skip) | refine sq_ ?_ | refine rg_ ?_ | refine k_ ?_ | refine ct_ ?_ | refine cf_ ?_ | refine bk_ ?_ | refine sc_ ?_ | (refine sk_ ?_; first | (show aWp _ _ _ _ _) | skip) | (refine ex_ ?_; first | (show aWp _ _ _ _ _) | skip) | refine rt_ ?_)
        have FX := Fx.mk (And.intro @hag <| And.intro @h3' <| And.intro @hpb <| And.intro @b1 <| And.intro @g0 <| And.intro @g1 <| And.intro @g2 <| And.intro @g4 <| And.intro @g5 <| And.intro @Bool.not_true <| @Bool.not_false)
        refine W_draw mixed rfl rfl ?_
        repeat (first | refine dq_ ?_ | refine dr_ [nx, k'] ?_ | refine dk_ ?_ | refine dn_ ?_)
        refine fun kd hkd => ?_
        simp only [List.length_cons, List.length_nil] at hkd
        first | (show aWp _ _ _ _ _) | skip
        have FX := Fx0
        repeat (first | refine v_ ?_ | refine u_ ?_ | refine nl_ ?_ | (refine nz_ ?_; first | (show aWp _ _ _ _ _) | skip) | refine sq_ ?_ | refine rg_ ?_ | refine k_ ?_ | refine ct_ ?_ | refine cf_ ?_ | refine bk_ ?_ | refine sc_ ?_ | (refine sk_ ?_; first | (show aWp _ _ _ _ _) | skip) | (refine ex_ ?_; first | (show aWp _ _ _ _ _) | skip) | refine rt_ ?_)
        (have FX := Fx.mk (And.intro @hag <| And.intro @b1 <| @hh); exact end_ Try.results22)
    · obtain ⟨g, hg⟩ : ∃ g, r.pages[i - 1]? = some g := ⟨_, List.getElem?_eq_getElem (by omega)⟩
      have hgb := pagesB_get _ (i - 1) g hg
      have pS : Rec.prevN r.pages i = g.1 := by
        obtain ⟨j, rfl⟩ : ∃ j, i = j + 1 := ⟨i - 1, by omega⟩
        show (r.pages.getD j (0, [])).1 = g.1
        rw [getD_some (by simpa using hg)]
      rw [pS] at okd bad
      have g2 : decide ((0 : Int) < (i : Int)) = true := decide_eq_true (by omega)
      have wi : IntKind.i64.wrap ((i : Int) - 1) = ((i - 1 : Nat) : Int) := by rw [wrapI] <;> omega
      by_cases c3 : p.1 ≤ g.1
      · have g3 := decide_eq_true c3
        rw [bad (by omega)]
        have FX := Fx.mk (And.intro @hag <| And.intro @h3' <| And.intro @hd <| And.intro @hpb <| And.intro @pl <| @b1)
        repeat (first | refine v_ ?_ | refine u_ ?_ | refine nl_ ?_ | (refine nz_ ?_; first | (show aWp _ _ _ _ _) | skip) | refine sq_ ?_ | refine rg_ ?_ | refine k_ ?_ | refine ct_ ?_ | refine cf_ ?_ | refine bk_ ?_ | refine sc_ ?_ | (refine sk_ ?_; first | (show aWp _ _ _ _ _) | skip) | (refine ex_ ?_; first | (show aWp _ _ _ _ _) | skip) | refine rt_ ?_)
        have FX := Fx.mk (And.intro @hag <| And.intro @h3' <| And.intro @hpb <| And.intro @b1 <| And.intro @g0 <| And.intro @g1 <| And.intro @g2 <| And.intro @wi <| And.intro @hgb <| And.intro @g3 <| And.intro @Bool.not_true <| @Bool.not_false)
        refine W_draw mixed rfl rfl ?_
        repeat (first | refine dq_ ?_ | refine dr_ [nx, k'] ?_ | refine dk_ ?_ | refine dn_ ?_)
        refine fun kd hkd => ?_
        simp only [List.length_cons, List.length_nil] at hkd
        first | (show aWp _ _ _ _ _) | skip
        have FX := Fx0
        repeat (first | refine v_ ?_ | refine u_ ?_ | refine nl_ ?_ | (refine nz_ ?_; first | (show aWp _ _ _ _ _) | skip) | refine sq_ ?_ | refine rg_ ?_ | refine k_ ?_ | refine ct_ ?_ | refine cf_ ?_ | refine bk_ ?_ | refine sc_ ?_ | (refine sk_ ?_; first | (show aWp _ _ _ _ _) | skip) | (refine ex_ ?_; first | (show aWp _ _ _ _ _) | skip) | refine rt_ ?_)
        (have FX := Fx.mk (And.intro @hag <| And.intro @b1 <| @hh); exact end_ Try.results22)
      have g3 := decide_eq_false c3
      by_cases c4 : p.2.length = 0
      · have g4 : decide ((p.2.length : Int) = 0) = true := decide_eq_true (by omega)
        have FX := Fx.mk (And.intro @hag <| And.intro @h3' <| And.intro @hd <| And.intro @hpb <| And.intro @pl <| @b1)
        repeat (first | refine v_ ?_ | refine u_ ?_ | refine nl_ ?_ | (refine nz_ ?_; first | (show aWp _ _ _ _ _) | skip) | refine sq_ ?_ | refine rg_ ?_ | refine k_ ?_ | refine ct_ ?_ | refine cf_ ?_ | refine bk_ ?_ | refine sc_ ?_ | (refine sk_ ?_; first | (show aWp _ _ _ _ _) | skip) | (refine ex_ ?_; first | (show aWp _ _ _ _ _) | skip) | refine rt_ ?_)
        have FX := Fx.mk (And.intro @hag <| And.intro @h3' <| And.intro @hpb <| And.intro @b1 <| And.intro @g0 <| And.intro @g1 <| And.intro @g2 <| And.intro @wi <| And.intro @hgb <| And.intro @g3 <| And.intro @g4 <| And.intro @Bool.not_true <| @Bool.not_false)
        refine W_draw mixed rfl rfl ?_
        repeat (first | refine dq_ ?_ | refine dr_ [nx, k'] ?_ | refine dk_ ?_ | refine dn_ ?_)
        refine fun kd hkd => ?_
        simp only [List.length_cons, List.length_nil] at hkd
        first | (show aWp _ _ _ _ _) | skip
        have FX := Fx.mk (And.intro @hag <| And.intro @h3' <| @hw)
        repeat (first | refine v_ ?_ | refine u_ ?_ | refine nl_ ?_ | (refine nz_ ?_; first | (show aWp _ _ _ _ _) | skip) | refine sq_ ?_ | refine rg_ ?_ | refine k_ ?_ | refine ct_ ?_ | refine cf_ ?_ | refine bk_ ?_ | refine sc_ ?_ | (refine sk_ ?_; first | (show aWp _ _ _ _ _) | skip) | (refine ex_ ?_; first | (show aWp _ _ _ _ _) | skip) | refine rt_ ?_)
        refine ⟨r.pages.length - (i + 1), by omega, ⟨i + 1, by omega, rfl, by (have FX := Fx0; exact cl_), fun j hj => ?_⟩, ?_, ?_, by first | omega | (simp only; omega), rfl⟩
        · by_cases e : j = i
          · subst e; exact okd.2 ⟨by omega, by omega, by omega⟩
          · exact hall j (by omega)
        · repeat (refine KAgree.upd rfl ?_)
          first | exact KAgree.refl _ _ | exact hag
        · exact (by have FX := Fx.mk (@hh); exact ha_)
      have g4 : decide ((p.2.length : Int) = 0) = false := decide_eq_false (by omega)
      by_cases c5 : p.2.length = 64
      · have g5 : decide ((p.2.length : Int) = 64) = true := decide_eq_true (by omega)
        have FX := Fx.mk (And.intro @hag <| And.intro @h3' <| And.intro @hd <| And.intro @hpb <| And.intro @pl <| @b1)
        repeat (first | refine v_ ?_ | refine u_ ?_ | refine nl_ ?_ | (refine nz_ ?_; first | (show aWp _ _ _ _ _) | skip) | refine sq_ ?_ | refine rg_ ?_ | refine k_ ?_ | refine ct_ ?_ | refine cf_ ?_ | refine bk_ ?_ | refine sc_ ?_ | (refine sk_ ?_; first | (show aWp _ _ _ _ _) | skip) | (refine ex_ ?_; first | (show aWp _ _ _ _ _) | skip) | refine rt_ ?_)
        have FX := Fx.mk (And.intro @hag <| And.intro @h3' <| And.intro @hpb <| And.intro @b1 <| And.intro @g0 <| And.intro @g1 <| And.intro @g2 <| And.intro @wi <| And.intro @hgb <| And.intro @g3 <| And.intro @g4 <| And.intro @g5 <| And.intro @Bool.not_true <| @Bool.not_false)
        refine W_draw mixed rfl rfl ?_
        repeat (first | refine dq_ ?_ | refine dr_ [nx, k'] ?_ | refine dk_ ?_ | refine dn_ ?_)
        refine fun kd hkd => ?_
        simp only [List.length_cons, List.length_nil] at hkd
        first | (show aWp _ _ _ _ _) | skip
        have FX := Fx.mk (And.intro @hag <| And.intro @h3' <| @hw)
        repeat (first | refine v_ ?_ | refine u_ ?_ | refine nl_ ?_ | (refine nz_ ?_; first | (show aWp _ _ _ _ _) | skip) | refine sq_ ?_ | refine rg_ ?_ | refine k_ ?_ | refine ct_ ?_ | refine cf_ ?_ | refine bk_ ?_ | refine sc_ ?_ | (refine sk_ ?_; first | (show aWp _ _ _ _ _) | skip) | (refine ex_ ?_; first | (show aWp _ _ _ _ _) | skip) | refine rt_ ?_)
        refine ⟨r.pages.length - (i + 1), by omega, ⟨i + 1, by omega, rfl, by (have FX := Fx0; exact cl_), fun j hj => ?_⟩, ?_, ?_, by first | omega | (simp only; omega), rfl⟩
        · by_cases e : j = i
          · subst e; exact okd.2 ⟨by omega, by omega, by omega⟩
          · exact hall j (by omega)
        · repeat (refine KAgree.upd rfl ?_)
          first | exact KAgree.refl _ _ | exact hag
        · exact (by have FX := Fx.mk (@hh); exact ha_)
      · have g5 : decide ((p.2.length : Int) = 64) = false := decide_eq_false (by omega)
        rw [bad (by omega)]
        have FX := Fx.mk (And.intro @hag <| And.intro @h3' <| And.intro @hd <| And.intro @hpb <| And.intro @pl <| @b1)
        repeat (first | refine v_ ?_ | refine u_ ?_ | refine nl_ ?_ | (refine nz_ ?_; first | (show aWp _ _ _ _ _) | skip) | refine sq_ ?_ | refine rg_ ?_ | refine k_ ?_ | refine ct_ ?_ | refine cf_ ?_ | refine bk_ ?_ | refine sc_ ?_ | (refine sk_ ?_; first | (show aWp _ _ _ _ _) | skip) | (refine ex_ ?_; first | (show aWp _ _ _ _ _) | skip) | refine rt_ ?_)
        have FX := Fx.mk (And.intro @hag <| And.intro @h3' <| And.intro @hpb <| And.intro @b1 <| And.intro @g0 <| And.intro @g1 <| And.intro @g2 <| And.intro @wi <| And.intro @hgb <| And.intro @g3 <| And.intro @g4 <| And.intro @g5 <| And.intro @Bool.not_true <| @Bool.not_false)
        refine W_draw mixed rfl rfl ?_
        repeat (first | refine dq_ ?_ | refine dr_ [nx, k'] ?_ | refine dk_ ?_ | refine dn_ ?_)
        refine fun kd hkd => ?_
        simp only [List.length_cons, List.length_nil] at hkd
        first | (show aWp _ _ _ _ _) | skip
        have FX := Fx0
        repeat (first | refine v_ ?_ | refine u_ ?_ | refine nl_ ?_ | (refine nz_ ?_; first | (show aWp _ _ _ _ _) | skip) | refine sq_ ?_ | refine rg_ ?_ | refine k_ ?_ | refine ct_ ?_ | refine cf_ ?_ | refine bk_ ?_ | refine sc_ ?_ | (refine sk_ ?_; first | (show aWp _ _ _ _ _) | skip) | (refine ex_ ?_; first | (show aWp _ _ _ _ _) | skip) | refine rt_ ?_)
        (have FX := Fx.mk (And.intro @hag <| And.intro @b1 <| @hh); exact end_ Try.results22)
  obtain rfl : i = r.pages.length := by omega
  rw [show r.chk = 0 from if_pos (by unfold Rec.ok; exact ⟨by omega, by omega, by omega, by omega, hall⟩)]
  have hd : decide ((r.pages.length : Int) < (r.pages.length : Int)) = false := decide_eq_false (by omega)
  have FX := Fx.mk (And.intro @hag <| And.intro @h3' <| And.intro @b1 <| And.intro @pl <| @hd)
  repeat (first | refine v_ ?_ | refine u_ ?_ | refine nl_ ?_ | (refine nz_ ?_; first | (show aWp _ _ _ _ _) | skip) | refine sq_ ?_ | refine rg_ ?_ | refine k_ ?_ | refine ct_ ?_ | refine cf_ ?_ | refine bk_ ?_ | refine sc_ ?_ | (refine sk_ ?_; first | (show aWp _ _ _ _ _) | skip) | (refine ex_ ?_; first | (show aWp _ _ _ _ _) | skip) | refine rt_ ?_)
  (have FX := Fx.mk (And.intro @hag <| And.intro @b1 <| @hh); exact end_ Try.results22)
end Go.Proofs.Yteklnhogokjkkaa.AE
