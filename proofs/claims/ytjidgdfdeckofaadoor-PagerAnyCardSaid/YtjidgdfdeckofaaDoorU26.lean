/- Texts U26. -/
import Derived.Test.YtjidgdfdeckofaaDoorV28
/- Layer 16: PagerAny. -/
namespace Go.Proofs.YtjidgdfdeckofaaDoor.AE
open Go Go.RowKit Go.Proofs Go.Proofs.YtjidgdfdeckofaaDoor
set_option linter.unusedVariables false
set_option linter.unusedSimpArgs false
set_option maxRecDepth 100000
set_option maxHeartbeats 8000000
theorem law_Any (S : List (List Int)) (W : List Act3) (cap : Int) : aFun Tryd.prog 3 [hostV S W cap] (.bool true) := by
  have al := law_alive
  have op := pager_Open S W cap
  have d0 : decide ((0 : Int) = 0) = true := rfl
  cases h : opP S W cap with
  | error e =>
    rw [h] at op
    change aFun _ _ _ (.tup [.agg [.sl [], .sl [], .int .i64 0, .int .i64 0, .int .i64 0, .int .i64 0, .int .i64 0, .int .i64 0, .int .i64 0, .int .i64 0, .sl [], .int .i64 0, .int .i64 0, .int .i64 0, .int .i64 0], .sl [], .int .i64 e]) at op
    have de : decide (e = 0) = false := decide_eq_false (opP_ne h)
    unfold hostV at op ⊢
    have d00 : decide (((0 : Nat) : Int) = 0) = true := rfl
    refine aFun_body Tryd.func3 rfl rfl (by simp [Tryd.ntmps3]) fun hreal h nx hfresh => ?_
    rw [Tryd.ntmps3]
    have FX := Fx.mk (And.intro @de <| And.intro @d0 <| And.intro @d00 <| And.intro @Bool.not_true <| And.intro @Bool.not_false <| @decide_true)
    repeat (first | refine v_ ?_ | refine u_ ?_ | refine f_ (al) fun kf hkf => ?_ | refine f_ (op) fun kf hkf => ?_ | refine nl_ ?_ | (refine nz_ ?_; first | (show aWp _ _ _ _ _) | skip) | refine sq_ ?_ | refine rg_ ?_ | refine k_ ?_ | refine ct_ ?_ | refine cf_ ?_ | refine bk_ ?_ | refine sc_ ?_ | (refine sk_ ?_; first | (show aWp _ _ _ _ _) | skip) | (refine ex_ ?_; first | (show aWp _ _ _ _ _) | skip) | refine rt_ ?_)
    (have FX := Fx0; exact end_ Tryd.results3)
  | ok p =>
    obtain ⟨s', L'⟩ := p
    obtain ⟨hok, hk⟩ := opP_ok h
    rw [h] at op
    have ck := host_Check S W cap
    rw [show chkH S W cap = 0 from if_pos hok] at ck
    have pc := pager_Check s'
    rw [PgS.chk_ok hk, PgS.av_eq] at pc
    rw [show opV (.ok (s', L')) = .tup [s'.av, .sl (actsB L'), .int .i64 0] from rfl, PgS.av_eq] at op
    unfold hostV at op ck ⊢
    refine aFun_body Tryd.func3 rfl rfl (by simp [Tryd.ntmps3]) fun hreal h nx hfresh => ?_
    rw [Tryd.ntmps3]
    have FX := Fx.mk (And.intro @d0 <| And.intro @Bool.not_true <| And.intro @Bool.not_false <| @decide_true)
    repeat (first | refine v_ ?_ | refine u_ ?_ | refine f_ (al) fun kf hkf => ?_ | refine f_ (op) fun kf hkf => ?_ | refine f_ (ck) fun kf hkf => ?_ | refine f_ (pc) fun kf hkf => ?_ | refine nl_ ?_ | (refine nz_ ?_; first | (show aWp _ _ _ _ _) | skip) | refine sq_ ?_ | refine rg_ ?_ | refine k_ ?_ | refine ct_ ?_ | refine cf_ ?_ | refine bk_ ?_ | refine sc_ ?_ | (refine sk_ ?_; first | (show aWp _ _ _ _ _) | skip) | (refine ex_ ?_; first | (show aWp _ _ _ _ _) | skip) | refine rt_ ?_)
    (have FX := Fx0; exact end_ Tryd.results3)
end Go.Proofs.YtjidgdfdeckofaaDoor.AE
