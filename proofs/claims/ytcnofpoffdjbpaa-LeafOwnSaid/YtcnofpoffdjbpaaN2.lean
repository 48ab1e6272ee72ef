/- Layer 7: widths, Encode. -/
import Derived.Test.YtcnofpoffdjbpaaN1
import Derived.Test.YtcnofpoffdjbpaaG6I
import Derived.Test.YtcnofpoffdjbpaaG7
import Derived.Test.YtcnofpoffdjbpaaG10
namespace Go.Proofs.Ytcnofpoffdjbpaa.AE
open Go Go.RowKit Go.Proofs Go.Proofs.Ytcnofpoffdjbpaa
set_option linter.unusedVariables false
set_option linter.unusedSimpArgs false
set_option maxRecDepth 100000
set_option maxHeartbeats 8000000
def widL (tall : Bool) (n : Nat) : List Int := [1, 1, 2] ++ List.replicate n 8 ++ (if tall = true then List.replicate (n + 1) 4 else List.replicate n 8)
theorem widths_flat (n : Nat) (hn : 1 ≤ n ∧ n ≤ 3) : aFun Try.prog 26 [.int .i64 1, .int .i64 (n : Int)] (.sl (numB .i64 (widL false n))) := by
  have hro : ∀ a b, rowsB .i64 [a, b] = [[.sl (numB .i64 a)], [.sl (numB .i64 b)]] := fun a b => rfl
  have hfl : ∀ a b : List Int, [a, b].flatten = a ++ b := fun a b => by simp
  have c1 := (Concat_ints [[1, 1, 2], List.replicate n 8] (by rw [hfl]; simp; omega)).fn
  have c2 := (Concat_ints [[1, 1, 2] ++ List.replicate n 8, List.replicate n 8] (by rw [hfl]; simp; omega)).fn
  rw [hro, hfl] at c1 c2
  have r1 := (Repeat_int n (by omega) 8).fn
  refine aFun_body Try.func26 rfl rfl (by simp [Try.ntmps26]) fun hreal h nx hfresh => ?_
  rw [Try.ntmps26]
  have d1 : decide ((1 : Int) = 1) = true := rfl
  have FX := Fx0
  repeat (first | refine v_ ?_ | refine u_ ?_ | refine nl_ ?_ | (refine nz_ ?_; first | (show aWp _ _ _ _ _) | skip) | refine sq_ ?_ | refine rg_ ?_ | refine k_ ?_ | refine ct_ ?_ | refine cf_ ?_ | refine bk_ ?_ | refine sc_ ?_ | (refine sk_ ?_; first | (show aWp _ _ _ _ _) | skip) | (refine ex_ ?_; first | (show aWp _ _ _ _ _) | skip) | refine rt_ ?_)
  have FX := Fx0; refine fz_ 6 ?_
  have FX := Fx0; refine fz_ 7 ?_
  have FX := Fx0
  repeat (first | refine v_ ?_ | refine u_ ?_ | refine f_ (r1) fun kf hkf => ?_ | refine nl_ ?_ | (refine nz_ ?_; first | (show aWp _ _ _ _ _) | skip) | refine sq_ ?_ | refine rg_ ?_ | refine k_ ?_ | refine ct_ ?_ | refine cf_ ?_ | refine bk_ ?_ | refine sc_ ?_ | (refine sk_ ?_; first | (show aWp _ _ _ _ _) | skip) | (refine ex_ ?_; first | (show aWp _ _ _ _ _) | skip) | refine rt_ ?_)
  have FX := Fx0; refine fz_ 10 ?_
  have FX := Fx.mk (@d1)
  repeat (first | refine v_ ?_ | refine u_ ?_ | refine f_ (c1) fun kf hkf => ?_ | refine nl_ ?_ | (refine nz_ ?_; first | (show aWp _ _ _ _ _) | skip) | refine sq_ ?_ | refine rg_ ?_ | refine k_ ?_ | refine ct_ ?_ | refine cf_ ?_ | refine bk_ ?_ | refine sc_ ?_ | (refine sk_ ?_; first | (show aWp _ _ _ _ _) | skip) | (refine ex_ ?_; first | (show aWp _ _ _ _ _) | skip) | refine rt_ ?_)
  have FX := Fx0; refine fz_ 15 ?_
  have FX := Fx0
  repeat (first | refine v_ ?_ | refine u_ ?_ | refine f_ (r1) fun kf hkf => ?_ | refine nl_ ?_ | (refine nz_ ?_; first | (show aWp _ _ _ _ _) | skip) | refine sq_ ?_ | refine rg_ ?_ | refine k_ ?_ | refine ct_ ?_ | refine cf_ ?_ | refine bk_ ?_ | refine sc_ ?_ | (refine sk_ ?_; first | (show aWp _ _ _ _ _) | skip) | (refine ex_ ?_; first | (show aWp _ _ _ _ _) | skip) | refine rt_ ?_)
  have FX := Fx0; refine fz_ 18 ?_
  have FX := Fx0
  repeat (first | refine v_ ?_ | refine u_ ?_ | refine f_ (c2) fun kf hkf => ?_ | refine nl_ ?_ | (refine nz_ ?_; first | (show aWp _ _ _ _ _) | skip) | refine sq_ ?_ | refine rg_ ?_ | refine k_ ?_ | refine ct_ ?_ | refine cf_ ?_ | refine bk_ ?_ | refine sc_ ?_ | (refine sk_ ?_; first | (show aWp _ _ _ _ _) | skip) | (refine ex_ ?_; first | (show aWp _ _ _ _ _) | skip) | refine rt_ ?_)
  exact W_end (by omega) (by intro m hm; first | rfl | (simp (disch := first | assumption | omega) only [upd_ne, widL]; first | done | rfl)) (by rw [Try.results26]) (by first | rfl | (simp (disch := first | rfl | decide | omega | assumption | (simp only [LL]; omega)) only [WS, NB, WY, RES, widL]; first | done | rfl)) (by first | rfl | (simp (disch := first | rfl | decide | omega | assumption | (simp only [LL]; omega)) only [WS, NB, WY, FY, widL]; first | done | rfl))
theorem widths_tall (n : Nat) (hn : 1 ≤ n ∧ n ≤ 3) : aFun Try.prog 26 [.int .i64 2, .int .i64 (n : Int)] (.sl (numB .i64 (widL true n))) := by
  have hro : ∀ a b, rowsB .i64 [a, b] = [[.sl (numB .i64 a)], [.sl (numB .i64 b)]] := fun a b => rfl
  have hfl : ∀ a b : List Int, [a, b].flatten = a ++ b := fun a b => by simp
  have c1 := (Concat_ints [[1, 1, 2], List.replicate n 8] (by rw [hfl]; simp; omega)).fn
  have c2 := (Concat_ints [[1, 1, 2] ++ List.replicate n 8, List.replicate (n + 1) 4] (by rw [hfl]; simp; omega)).fn
  rw [hro, hfl] at c1 c2
  have r1 := (Repeat_int n (by omega) 8).fn
  have r2 := (Repeat_int (n + 1) (by omega) 4).fn
  refine aFun_body Try.func26 rfl rfl (by simp [Try.ntmps26]) fun hreal h nx hfresh => ?_
  rw [Try.ntmps26]
  have d1 : decide ((2 : Int) = 1) = false := rfl
  have hw : IntKind.i64.wrap ((n : Int) + 1) = ((n + 1 : Nat) : Int) := by rw [wrapI] <;> omega
  have FX := Fx0
  repeat (first | refine v_ ?_ | refine u_ ?_ | refine nl_ ?_ | (refine nz_ ?_; first | (show aWp _ _ _ _ _) | skip) | refine sq_ ?_ | refine rg_ ?_ | refine k_ ?_ | refine ct_ ?_ | refine cf_ ?_ | refine bk_ ?_ | refine sc_ ?_ | (refine sk_ ?_; first | (show aWp _ _ _ _ _) | skip) | (refine ex_ ?_; first | (show aWp _ _ _ _ _) | skip) | refine rt_ ?_)
  have FX := Fx0; refine fz_ 6 ?_
  have FX := Fx0; refine fz_ 7 ?_
  have FX := Fx0
  repeat (first | refine v_ ?_ | refine u_ ?_ | refine f_ (r1) fun kf hkf => ?_ | refine nl_ ?_ | (refine nz_ ?_; first | (show aWp _ _ _ _ _) | skip) | refine sq_ ?_ | refine rg_ ?_ | refine k_ ?_ | refine ct_ ?_ | refine cf_ ?_ | refine bk_ ?_ | refine sc_ ?_ | (refine sk_ ?_; first | (show aWp _ _ _ _ _) | skip) | (refine ex_ ?_; first | (show aWp _ _ _ _ _) | skip) | refine rt_ ?_)
  have FX := Fx0; refine fz_ 10 ?_
  have FX := Fx.mk (And.intro @d1 <| @hw)
  repeat (first | refine v_ ?_ | refine u_ ?_ | refine f_ (c1) fun kf hkf => ?_ | refine nl_ ?_ | (refine nz_ ?_; first | (show aWp _ _ _ _ _) | skip) | refine sq_ ?_ | refine rg_ ?_ | refine k_ ?_ | refine ct_ ?_ | refine cf_ ?_ | refine bk_ ?_ | refine sc_ ?_ | (refine sk_ ?_; first | (show aWp _ _ _ _ _) | skip) | (refine ex_ ?_; first | (show aWp _ _ _ _ _) | skip) | refine rt_ ?_)
  have FX := Fx0; refine fz_ 21 ?_
  have FX := Fx.mk (@hw)
  repeat (first | refine v_ ?_ | refine u_ ?_ | refine f_ (r2) fun kf hkf => ?_ | refine nl_ ?_ | (refine nz_ ?_; first | (show aWp _ _ _ _ _) | skip) | refine sq_ ?_ | refine rg_ ?_ | refine k_ ?_ | refine ct_ ?_ | refine cf_ ?_ | refine bk_ ?_ | refine sc_ ?_ | (refine sk_ ?_; first | (show aWp _ _ _ _ _) | skip) | (refine ex_ ?_; first | (show aWp _ _ _ _ _) | skip) | refine rt_ ?_)
  have FX := Fx0; refine fz_ 25 ?_
  have FX := Fx0
  repeat (first | refine v_ ?_ | refine u_ ?_ | refine f_ (c2) fun kf hkf => ?_ | refine nl_ ?_ | (refine nz_ ?_; first | (show aWp _ _ _ _ _) | skip) | refine sq_ ?_ | refine rg_ ?_ | refine k_ ?_ | refine ct_ ?_ | refine cf_ ?_ | refine bk_ ?_ | refine sc_ ?_ | (refine sk_ ?_; first | (show aWp _ _ _ _ _) | skip) | (refine ex_ ?_; first | (show aWp _ _ _ _ _) | skip) | refine rt_ ?_)
  exact W_end (by omega) (by intro m hm; first | rfl | (simp (disch := first | assumption | omega) only [upd_ne, widL]; first | done | rfl)) (by rw [Try.results26]) (by first | rfl | (simp (disch := first | rfl | decide | omega | assumption | (simp only [LL]; omega)) only [WS, NB, WY, RES, widL]; first | done | rfl)) (by first | rfl | (simp (disch := first | rfl | decide | omega | assumption | (simp only [LL]; omega)) only [WS, NB, WY, FY, widL]; first | done | rfl))
end Go.Proofs.Ytcnofpoffdjbpaa.AE
