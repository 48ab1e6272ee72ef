/- Layer 4 and its page: the fields, Check, Places. -/
import Derived.Test.YtnlanfcboiemaaaDoorS0
namespace Go.Proofs.YtnlanfcboiemaaaDoor.AE
open Go Go.RowKit Go.Proofs Go.Proofs.YtnlanfcboiemaaaDoor
set_option linter.unusedVariables false
set_option linter.unusedSimpArgs false
set_option maxRecDepth 100000
set_option maxHeartbeats 8000000
theorem super_fields (s : Sup) (n : Nat) {h : AHeap} {nx : Nat} (hn : h n = some ⟨7, [s.cells]⟩) : aOwnH Tryd.prog 25 [.ptr n 0 0] h nx 4 (Sup.fld n s.p) := by
  unfold Sup.cells at hn
  unfold Sup.fld
  refine aOwnH_body Tryd.func25 rfl rfl (by simp [Tryd.ntmps25]) fun hreal hfresh => ?_
  rw [Tryd.ntmps25]
  have FX := Fx.mk (@hn)
  repeat (first | refine v_ ?_ | refine u_ ?_ | refine nl_ ?_ | (refine nz_ ?_; first | (show aWp _ _ _ _ _) | skip) | refine sq_ ?_ | refine rg_ ?_ | refine k_ ?_ | refine ct_ ?_ | refine cf_ ?_ | refine bk_ ?_ | refine sc_ ?_ | (refine sk_ ?_; first | (show aWp _ _ _ _ _) | skip) | (refine ex_ ?_; first | (show aWp _ _ _ _ _) | skip) | refine rt_ ?_)
  have FX := Fx.mk (And.intro @hn <| @NL)
  refine W_draw mixed rfl rfl ?_
  repeat (first | refine dq_ ?_ | refine dr_ [n] ?_ | refine dm_ [n] ?_ | refine da_ [n] ?_ | refine ds_ [n] ?_ | refine dw_ [n] ?_ | refine dk_ ?_ | refine dn_ ?_)
  refine fun kd hkd => ?_
  simp only [List.length_cons, List.length_nil] at hkd
  first | (show aWp _ _ _ _ _) | skip
  have FX := Fx0
  repeat (first | refine v_ ?_ | refine u_ ?_ | refine nl_ ?_ | (refine nz_ ?_; first | (show aWp _ _ _ _ _) | skip) | refine sq_ ?_ | refine rg_ ?_ | refine k_ ?_ | refine ct_ ?_ | refine cf_ ?_ | refine bk_ ?_ | refine sc_ ?_ | (refine sk_ ?_; first | (show aWp _ _ _ _ _) | skip) | (refine ex_ ?_; first | (show aWp _ _ _ _ _) | skip) | refine rt_ ?_)
  (have FX := Fx0; exact endo_ (rest := []) (nx + (1 + 1 + 1 + 1 + 1 + 1 + 1 + 1 + 1 + 1 + 1 + 1 + 1 + 1 + 1 + 1 + 1 + 1 + 1 + 1 + 1 + 1 + 1 + 1 + 1 + 1 + 1 + 1 + 1 + 1 + 1 + 1)) Tryd.results25)
theorem super_Check (s : Sup) : aFun Tryd.prog 23 [s.av] (.int .i64 s.chk) := by
  have cl : s.cells.length = 7 := rfl
  have ce : s.cells = [.int .i64 s.e, .int .i64 s.v, .int .i64 s.j, .int .i64 s.p, .int .i64 s.d, .int .i64 s.s, .int .i64 s.r] := rfl
  unfold Sup.av
  refine aFun_body Tryd.func23 rfl rfl (by simp [Tryd.ntmps23]) fun hreal h nx hfresh => ?_
  rw [Tryd.ntmps23]
  rw [ce]
  have FX := Fx0
  repeat (first | refine v_ ?_ | refine u_ ?_ | refine nl_ ?_ | (refine nz_ ?_; first | (show aWp _ _ _ _ _) | skip) | refine sq_ ?_ | refine rg_ ?_ | refine k_ ?_ | refine ct_ ?_ | refine cf_ ?_ | refine bk_ ?_ | refine sc_ ?_ | (refine sk_ ?_; first | (show aWp _ _ _ _ _) | skip) | (refine ex_ ?_; first | (show aWp _ _ _ _ _) | skip) | refine rt_ ?_)
  rw [← ce]
  have FX := Fx0
  repeat (first | refine v_ ?_ | refine u_ ?_ | refine oh_ (super_fields s nx (by exact cl_)) fun mf kf hmf hkf => ?_ | refine nl_ ?_ | (refine nz_ ?_; first | (show aWp _ _ _ _ _) | skip) | refine sq_ ?_ | refine rg_ ?_ | refine k_ ?_ | refine ct_ ?_ | refine cf_ ?_ | refine bk_ ?_ | refine sc_ ?_ | (refine sk_ ?_; first | (show aWp _ _ _ _ _) | skip) | (refine ex_ ?_; first | (show aWp _ _ _ _ _) | skip) | refine rt_ ?_)
  have fln : (Sup.fld nx s.p).length = 7 := rfl
  refine W_loopK [1, 5, 6] kf (fun r tm h q => ∃ i : Nat, i ≤ 7 ∧ r = 7 - i ∧ tm 7 = .int .i64 i ∧ ∀ j, j < i → Sup.low j ≤ s.val j ∧ s.val j ≤ Sup.high s.p j) 7 (by omega) ⟨0, by omega, rfl, by (have FX := Fx0; exact cl_), fun j hj => absurd hj (Nat.not_lt_zero j)⟩ ?_
  rintro r tm' h' k' ⟨i, hi, rfl, h7, hall⟩ hag hh hk'
  have b1 : h' nx = some ⟨7, [s.cells]⟩ := by rw [hh nx (by omega)]; (have FX := Fx0; exact cl_)
  have b2 : h' mf = some ⟨4, Sup.fld nx s.p⟩ := by rw [hh mf (by omega)]; (have FX := Fx0; exact cl_)
  by_cases hlt : i < 7
  · have f0 := Sup.fld_get nx s.p i hlt
    have f1 := Sup.cells_drop s i hlt
    have hd : decide ((i : Int) < ((7 : Nat) : Int)) = true := decide_eq_true (by omega)
    have hw : IntKind.i64.wrap (i + 1) = ((i + 1 : Nat) : Int) := by rw [wrapI] <;> omega
    have hi7 : (i : Int) < 7 := by omega
    have hi0 : (0 : Int) ≤ i := by omega
    have FX := Fx.mk (And.intro @hag <| And.intro @h7 <| And.intro @fln <| And.intro @b1 <| And.intro @b2 <| And.intro @hd <| @f0)
    repeat (first | refine v_ ?_ | refine u_ ?_ | refine nl_ ?_ | (refine nz_ ?_; first | (show aWp _ _ _ _ _) | skip) | refine sq_ ?_ | refine rg_ ?_ | refine k_ ?_ | refine ct_ ?_ | refine cf_ ?_ | refine bk_ ?_ | refine sc_ ?_ | (refine sk_ ?_; first | (show aWp _ _ _ _ _) | skip) | (refine ex_ ?_; first | (show aWp _ _ _ _ _) | skip) | refine rt_ ?_)
    by_cases c1 : s.val i < Sup.low i
    · have d1 : decide (s.val i < Sup.low i) = true := decide_eq_true c1
      have FX := Fx.mk (And.intro @b1 <| And.intro @f1 <| And.intro @d1 <| @NL)
      refine W_draw mixed rfl rfl ?_
      repeat (first | refine dq_ ?_ | refine dr_ [k', nx] ?_ | refine dm_ [k', nx] ?_ | refine da_ [k', nx] ?_ | refine ds_ [k', nx] ?_ | refine dw_ [k', nx] ?_ | refine dk_ ?_ | refine dn_ ?_)
      refine fun kd hkd => ?_
      simp only [List.length_cons, List.length_nil] at hkd
      first | (show aWp _ _ _ _ _) | skip
      have FX := Fx0
      repeat (first | refine v_ ?_ | refine u_ ?_ | refine nl_ ?_ | (refine nz_ ?_; first | (show aWp _ _ _ _ _) | skip) | refine sq_ ?_ | refine rg_ ?_ | refine k_ ?_ | refine ct_ ?_ | refine cf_ ?_ | refine bk_ ?_ | refine sc_ ?_ | (refine sk_ ?_; first | (show aWp _ _ _ _ _) | skip) | (refine ex_ ?_; first | (show aWp _ _ _ _ _) | skip) | refine rt_ ?_)
      have hno : s.chk = 4 := if_neg fun q => absurd (q i hlt).1 (by omega)
      (have FX := Fx.mk (And.intro @hno <| @hh); exact end_ Tryd.results23)
    have d1 : decide (s.val i < Sup.low i) = false := decide_eq_false c1
    by_cases c2 : Sup.high s.p i < s.val i
    · have d2 : decide (Sup.high s.p i < s.val i) = true := decide_eq_true c2
      have FX := Fx.mk (And.intro @b1 <| And.intro @f1 <| And.intro @d1 <| And.intro @d2 <| @NL)
      refine W_draw mixed rfl rfl ?_
      repeat (first | refine dq_ ?_ | refine dr_ [k', nx] ?_ | refine dm_ [k', nx] ?_ | refine da_ [k', nx] ?_ | refine ds_ [k', nx] ?_ | refine dw_ [k', nx] ?_ | refine dk_ ?_ | refine dn_ ?_)
      refine fun kd hkd => ?_
      simp only [List.length_cons, List.length_nil] at hkd
      first | (show aWp _ _ _ _ _) | skip
      have FX := Fx0
      repeat (first | refine v_ ?_ | refine u_ ?_ | refine nl_ ?_ | (refine nz_ ?_; first | (show aWp _ _ _ _ _) | skip) | refine sq_ ?_ | refine rg_ ?_ | refine k_ ?_ | refine ct_ ?_ | refine cf_ ?_ | refine bk_ ?_ | refine sc_ ?_ | (refine sk_ ?_; first | (show aWp _ _ _ _ _) | skip) | (refine ex_ ?_; first | (show aWp _ _ _ _ _) | skip) | refine rt_ ?_)
      have hno : s.chk = 4 := if_neg fun q => absurd (q i hlt).2 (by omega)
      (have FX := Fx.mk (And.intro @hno <| @hh); exact end_ Tryd.results23)
    have d2 : decide (Sup.high s.p i < s.val i) = false := decide_eq_false c2
    have FX := Fx.mk (And.intro @b1 <| And.intro @f1 <| And.intro @d1 <| And.intro @d2 <| @NL)
    refine W_draw mixed rfl rfl ?_
    repeat (first | refine dq_ ?_ | refine dr_ [k', nx] ?_ | refine dm_ [k', nx] ?_ | refine da_ [k', nx] ?_ | refine ds_ [k', nx] ?_ | refine dw_ [k', nx] ?_ | refine dk_ ?_ | refine dn_ ?_)
    refine fun kd hkd => ?_
    simp only [List.length_cons, List.length_nil] at hkd
    first | (show aWp _ _ _ _ _) | skip
    have FX := Fx.mk (And.intro @hag <| And.intro @h7 <| @hw)
    repeat (first | refine v_ ?_ | refine u_ ?_ | refine nl_ ?_ | (refine nz_ ?_; first | (show aWp _ _ _ _ _) | skip) | refine sq_ ?_ | refine rg_ ?_ | refine k_ ?_ | refine ct_ ?_ | refine cf_ ?_ | refine bk_ ?_ | refine sc_ ?_ | (refine sk_ ?_; first | (show aWp _ _ _ _ _) | skip) | (refine ex_ ?_; first | (show aWp _ _ _ _ _) | skip) | refine rt_ ?_)
    refine ⟨7 - (i + 1), by omega, ⟨i + 1, by omega, rfl, by (have FX := Fx0; exact cl_), fun j hj => ?_⟩, ?_, ?_, by first | omega | (simp only; omega), rfl⟩
    · by_cases e : j = i
      · subst e; exact ⟨by omega, by omega⟩
      · exact hall j (by omega)
    · repeat (refine KAgree.upd rfl ?_)
      first | exact KAgree.refl _ _ | exact hag
    · exact (by have FX := Fx.mk (@hh); exact ha_)
  obtain rfl : i = 7 := by omega
  have hd : decide (((7 : Nat) : Int) < ((7 : Nat) : Int)) = false := rfl
  have FX := Fx.mk (And.intro @hag <| And.intro @h7 <| And.intro @fln <| @hd)
  repeat (first | refine v_ ?_ | refine u_ ?_ | refine nl_ ?_ | (refine nz_ ?_; first | (show aWp _ _ _ _ _) | skip) | refine sq_ ?_ | refine rg_ ?_ | refine k_ ?_ | refine ct_ ?_ | refine cf_ ?_ | refine bk_ ?_ | refine sc_ ?_ | (refine sk_ ?_; first | (show aWp _ _ _ _ _) | skip) | (refine ex_ ?_; first | (show aWp _ _ _ _ _) | skip) | refine rt_ ?_)
  have hyes : s.chk = 0 := if_pos hall
  (have FX := Fx.mk (And.intro @hyes <| @hh); exact end_ Tryd.results23)
#print axioms super_Check
end Go.Proofs.YtnlanfcboiemaaaDoor.AE
