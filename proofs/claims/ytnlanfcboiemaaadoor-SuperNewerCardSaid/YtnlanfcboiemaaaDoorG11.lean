/- Layer 2's page: Open. -/
import Derived.Test.YtnlanfcboiemaaaDoorG8
namespace Go.Proofs.YtnlanfcboiemaaaDoor.AE
open Go Go.RowKit Go.Proofs Go.Proofs.YtnlanfcboiemaaaDoor
set_option linter.unusedVariables false
set_option linter.unusedSimpArgs false
set_option maxRecDepth 100000
set_option maxHeartbeats 4000000
theorem seal_iff {l : List Int} (hb : Pl.BY l) {n : Nat} (hn : l.length = n + 4) : Pl.sealS (l.take n) = l ↔ Pl.leI (l.drop n) = Pl.crcI (l.take n) := by
  have hd : (l.drop n).length = 4 := by simp; omega
  have hc := Pl.crcI_range (l.take n)
  have h1 := Pl.leI_put 4 (Pl.crcI (l.take n)) hc.1 (by omega)
  have h2 := Pl.put_leI (Pl.BY_drop hb n)
  rw [hd] at h2
  unfold Pl.sealS
  constructor
  · intro h
    have h3 : Pl.putI 4 (Pl.crcI (l.take n)) = l.drop n := by
      have h4 := congrArg (List.drop n) h
      rwa [List.drop_left' (by simp; omega)] at h4
    rw [← h3, h1]
  · intro h
    rw [← h, h2, List.take_append_drop]
theorem ref02_Open (l : List Int) (hc : l.length ≤ 10000000) : aFun Tryd.prog 35 [.sl (numB .u8 l)] (.tup [.sl (numB .u8 (Pl.openS l).1), .int .i64 (Pl.openS l).2]) := by
  by_cases h4 : l.length < 4
  · rw [show Pl.openS l = ([], 8) by unfold Pl.openS; rw [if_pos h4]]
    refine aFun_body Tryd.func35 rfl rfl (by simp [Tryd.ntmps35]) fun hreal h nx hfresh => ?_
    rw [Tryd.ntmps35]
    have hw : IntKind.i64.wrap ((l.length : Int) - 4) = (l.length : Int) - 4 := by rw [wrapI] <;> omega
    have hd : decide ((l.length : Int) - 4 < 0) = true := decide_eq_true (by omega)
    have FX := Fx.mk (And.intro @hw <| @hd)
    repeat (first | refine v_ ?_ | refine u_ ?_ | refine nl_ ?_ | (refine nz_ ?_; first | (show aWp _ _ _ _ _) | skip) | refine sq_ ?_ | refine rg_ ?_ | refine k_ ?_ | refine ct_ ?_ | refine cf_ ?_ | refine bk_ ?_ | refine sc_ ?_ | (refine sk_ ?_; first | (show aWp _ _ _ _ _) | skip) | (refine ex_ ?_; first | (show aWp _ _ _ _ _) | skip) | refine rt_ ?_)
    (have FX := Fx0; exact end_ Tryd.results35)
  obtain ⟨n, hn⟩ : ∃ n, l.length = n + 4 := ⟨l.length - 4, by omega⟩
  have hw : IntKind.i64.wrap (((n + 4 : Nat) : Int) - 4) = (n : Int) := by rw [wrapI] <;> omega
  have hd : decide ((n : Int) < 0) = false := decide_eq_false (by omega)
  have hse := (ref02_Seal (l.take n) (by simp; omega)).fn
  have hcp := (ref02_Copied (l.take n) (by simp; omega)).fn
  by_cases hs : Pl.leI (l.drop n) = Pl.crcI (l.take n)
  · rw [show Pl.openS l = (l.take n, 0) by unfold Pl.openS; rw [if_neg h4, show l.length - 4 = n by omega, if_neg (by simpa using hs)]]
    refine aFun_body Tryd.func35 rfl rfl (by simp [Tryd.ntmps35]) fun hreal h nx hfresh => ?_
    rw [Tryd.ntmps35]
    have hby := (hreal (.sl (numB .u8 l)) (by simp)).BY
    have hq : decide (Pl.sealS (l.take n) = l) = true := decide_eq_true ((seal_iff hby hn).2 hs)
    have FX := Fx.mk (And.intro @hw <| And.intro @hn <| @hd)
    repeat (first | refine v_ ?_ | refine u_ ?_ | refine nl_ ?_ | (refine nz_ ?_; first | (show aWp _ _ _ _ _) | skip) | refine sq_ ?_ | refine rg_ ?_ | refine k_ ?_ | refine ct_ ?_ | refine cf_ ?_ | refine bk_ ?_ | refine sc_ ?_ | (refine sk_ ?_; first | (show aWp _ _ _ _ _) | skip) | (refine ex_ ?_; first | (show aWp _ _ _ _ _) | skip) | refine rt_ ?_)
    have FX := Fx.mk (And.intro @hn <| @hq)
    refine W_draw mixed rfl rfl ?_
    repeat (first | refine dq_ ?_ | refine df_ (hse) ?_ | refine dr_ [nx] ?_ | refine dm_ [nx] ?_ | refine da_ [nx] ?_ | refine ds_ [nx] ?_ | refine dw_ [nx] ?_ | refine dk_ ?_ | refine dn_ ?_)
    refine fun kd hkd => ?_
    simp only [List.length_cons, List.length_nil] at hkd
    first | (show aWp _ _ _ _ _) | skip
    have FX := Fx.mk (@hn)
    repeat (first | refine v_ ?_ | refine u_ ?_ | refine f_ (hcp) fun kf hkf => ?_ | refine nl_ ?_ | (refine nz_ ?_; first | (show aWp _ _ _ _ _) | skip) | refine sq_ ?_ | refine rg_ ?_ | refine k_ ?_ | refine ct_ ?_ | refine cf_ ?_ | refine bk_ ?_ | refine sc_ ?_ | (refine sk_ ?_; first | (show aWp _ _ _ _ _) | skip) | (refine ex_ ?_; first | (show aWp _ _ _ _ _) | skip) | refine rt_ ?_)
    (have FX := Fx0; exact end_ Tryd.results35)
  · rw [show Pl.openS l = ([], 21) by unfold Pl.openS; rw [if_neg h4, show l.length - 4 = n by omega, if_pos (by simpa using hs)]]
    refine aFun_body Tryd.func35 rfl rfl (by simp [Tryd.ntmps35]) fun hreal h nx hfresh => ?_
    rw [Tryd.ntmps35]
    have hby := (hreal (.sl (numB .u8 l)) (by simp)).BY
    have hq : decide (Pl.sealS (l.take n) = l) = false := decide_eq_false (fun e => hs ((seal_iff hby hn).1 e))
    have FX := Fx.mk (And.intro @hw <| And.intro @hn <| @hd)
    repeat (first | refine v_ ?_ | refine u_ ?_ | refine nl_ ?_ | (refine nz_ ?_; first | (show aWp _ _ _ _ _) | skip) | refine sq_ ?_ | refine rg_ ?_ | refine k_ ?_ | refine ct_ ?_ | refine cf_ ?_ | refine bk_ ?_ | refine sc_ ?_ | (refine sk_ ?_; first | (show aWp _ _ _ _ _) | skip) | (refine ex_ ?_; first | (show aWp _ _ _ _ _) | skip) | refine rt_ ?_)
    have FX := Fx.mk (And.intro @hn <| @hq)
    refine W_draw mixed rfl rfl ?_
    repeat (first | refine dq_ ?_ | refine df_ (hse) ?_ | refine dr_ [nx] ?_ | refine dm_ [nx] ?_ | refine da_ [nx] ?_ | refine ds_ [nx] ?_ | refine dw_ [nx] ?_ | refine dk_ ?_ | refine dn_ ?_)
    refine fun kd hkd => ?_
    simp only [List.length_cons, List.length_nil] at hkd
    first | (show aWp _ _ _ _ _) | skip
    have FX := Fx0
    repeat (first | refine v_ ?_ | refine u_ ?_ | refine nl_ ?_ | (refine nz_ ?_; first | (show aWp _ _ _ _ _) | skip) | refine sq_ ?_ | refine rg_ ?_ | refine k_ ?_ | refine ct_ ?_ | refine cf_ ?_ | refine bk_ ?_ | refine sc_ ?_ | (refine sk_ ?_; first | (show aWp _ _ _ _ _) | skip) | (refine ex_ ?_; first | (show aWp _ _ _ _ _) | skip) | refine rt_ ?_)
    (have FX := Fx0; exact end_ Tryd.results35)
end Go.Proofs.YtnlanfcboiemaaaDoor.AE
