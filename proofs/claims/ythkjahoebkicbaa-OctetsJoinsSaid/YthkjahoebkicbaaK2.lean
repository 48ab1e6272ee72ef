/- Layer 1: the law's example. -/
import Derived.Test.YthkjahoebkicbaaG12
import Derived.Test.YthkjahoebkicbaaG2
namespace Go.Proofs.Ythkjahoebkicbaa.AE
open Go Go.RowKit Go.Proofs Go.Proofs.Ythkjahoebkicbaa
set_option linter.unusedVariables false
set_option linter.unusedSimpArgs false
set_option maxRecDepth 100000
set_option maxHeartbeats 8000000
theorem law_num (e : Int) : aFun Try.prog 13 [.int .i64 e] (.int .i64 e) := by
  refine aFun_body Try.func13 rfl rfl (by simp [Try.ntmps13]) fun hreal h nx hfresh => ?_
  rw [Try.ntmps13]
  have := inI64 (hreal (.int .i64 e) (by simp)).int
  have hw : IntKind.i64.wrap e = e := by rw [wrapI] <;> omega
  have FX := Fx.mk (@hw)
  repeat (first | refine v_ ?_ | refine u_ ?_ | refine nl_ ?_ | (refine nz_ ?_; first | (show aWp _ _ _ _ _) | skip) | refine sq_ ?_ | refine rg_ ?_ | refine k_ ?_ | refine ct_ ?_ | refine cf_ ?_ | refine bk_ ?_ | refine sc_ ?_ | (refine sk_ ?_; first | (show aWp _ _ _ _ _) | skip) | (refine ex_ ?_; first | (show aWp _ _ _ _ _) | skip) | refine rt_ ?_)
  (have FX := Fx0; exact end_ Try.results13)
theorem Read_ex : aFun Try.prog 21 [.sl (numB .u8 [9, 2, 97, 98]), .int .i64 1] (.tup [.str [97, 98], .int .i64 4, .int .i64 0]) := by
  have gt := octets_Get [9, 2, 97, 98] 1 1
  have g0 : Pl.getS [9, 2, 97, 98] 1 1 = (2, 0) := by decide
  rw [g0] at gt
  refine aFun_body Try.func21 rfl rfl (by simp [Try.ntmps21]) fun hreal h nx hfresh => ?_
  rw [Try.ntmps21]
  have FX := Fx0
  repeat (first | refine v_ ?_ | refine u_ ?_ | refine f_ (gt) fun kf hkf => ?_ | refine nl_ ?_ | (refine nz_ ?_; first | (show aWp _ _ _ _ _) | skip) | refine sq_ ?_ | refine rg_ ?_ | refine k_ ?_ | refine ct_ ?_ | refine cf_ ?_ | refine bk_ ?_ | refine sc_ ?_ | (refine sk_ ?_; first | (show aWp _ _ _ _ _) | skip) | (refine ex_ ?_; first | (show aWp _ _ _ _ _) | skip) | refine rt_ ?_)
  (have FX := Fx0; exact end_ Try.results21)
theorem law_alive : aFun Try.prog 11 [] (.bool true) := by
  have pt := octets_Put 258 2
  have p0 : Pl.putS 258 2 = ([2, 1], 0) := by decide
  rw [p0] at pt
  have n0 := law_num 0
  refine aFun_body Try.func11 rfl rfl (by simp [Try.ntmps11]) fun hreal h nx hfresh => ?_
  rw [Try.ntmps11]
  have FX := Fx0
  repeat (first | refine v_ ?_ | refine u_ ?_ | refine f_ (pt) fun kf hkf => ?_ | refine f_ (n0) fun kf hkf => ?_ | refine nl_ ?_ | (refine nz_ ?_; first | (show aWp _ _ _ _ _) | skip) | refine sq_ ?_ | refine rg_ ?_ | refine k_ ?_ | refine ct_ ?_ | refine cf_ ?_ | refine bk_ ?_ | refine sc_ ?_ | (refine sk_ ?_; first | (show aWp _ _ _ _ _) | skip) | (refine ex_ ?_; first | (show aWp _ _ _ _ _) | skip) | refine rt_ ?_)
  have FX := Fx0; refine fz_ 11 ?_
  have FX := Fx0
  repeat (first | refine v_ ?_ | refine u_ ?_ | refine f_ (Read_ex) fun kf hkf => ?_ | refine f_ (n0) fun kf hkf => ?_ | refine nl_ ?_ | (refine nz_ ?_; first | (show aWp _ _ _ _ _) | skip) | refine sq_ ?_ | refine rg_ ?_ | refine k_ ?_ | refine ct_ ?_ | refine cf_ ?_ | refine bk_ ?_ | refine sc_ ?_ | (refine sk_ ?_; first | (show aWp _ _ _ _ _) | skip) | (refine ex_ ?_; first | (show aWp _ _ _ _ _) | skip) | refine rt_ ?_)
  (have FX := Fx0; exact end_ Try.results11)
end Go.Proofs.Ythkjahoebkicbaa.AE
