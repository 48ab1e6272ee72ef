/- Texts U5, U6, U7. -/
import Derived.Test.YtjidgdfdeckofaaDoorV20
import Derived.Test.YtjidgdfdeckofaaDoorV8
import Derived.Test.YtjidgdfdeckofaaDoorV12
import Derived.Test.YtjidgdfdeckofaaDoorV17
import Derived.Test.YtjidgdfdeckofaaDoorV19
import Derived.Test.YtjidgdfdeckofaaDoorV15
/- Layer 16: wait. -/
namespace Go.Proofs.YtjidgdfdeckofaaDoor.AE
open Go Go.RowKit Go.Proofs Go.Proofs.YtjidgdfdeckofaaDoor
set_option linter.unusedVariables false
set_option linter.unusedSimpArgs false
set_option maxRecDepth 100000
set_option maxHeartbeats 8000000
/-- A call on its way: block m is it, w holds what waits, a the acts. -/
def callB (s : PgS) (w a nL : Nat) : List AV := [.sl (secB s.S), .hs w 0 s.W.length, .int .i64 s.cap, .int .i64 s.sup.e, .int .i64 s.sup.v, .int .i64 s.sup.j, .int .i64 s.sup.p, .int .i64 s.sup.d, .int .i64 s.sup.s, .int .i64 s.sup.r, .sl (secB s.pages), .int .i64 s.root, .int .i64 s.room, .int .i64 s.seq, .int .i64 s.tail, .hs a 0 nL]
structure cAt (h : AHeap) (m w a : Nat) (s : PgS) (L : List Act3) : Prop where
  hm : h m = some ⟨16, [callB s w a L.length]⟩
  hw : h w = some ⟨3, actsB s.W⟩
  ha : h a = some ⟨3, actsB L⟩
  wa : w ≠ a
  wm : w ≠ m
  am : a ≠ m
/-- All else is as it was. -/
def keepX (h h' : AHeap) (nx m w a : Nat) : Prop := ∀ q, q < nx → q ≠ m → q ≠ w → q ≠ a → h' q = h q
def errV (n : Int) : AV := .iface 31 (.int .i64 n)
def actV (x : Act3) : AV := .agg [.int .i64 x.1, .int .i64 x.2.1, .sl (numB .u8 x.2.2)]
/-- What a method of a call leaves. -/
def metR (h : AHeap) (nx m w a : Nat) (r : Except Int (PgS × List Act3)) (e : AEnd) (h' : AHeap) (k' : Nat) : Prop :=
  nx ≤ k' ∧ keepX h h' nx m w a ∧ match r with
    | .error n => e = .pan (errV n)
    | .ok (s', L') => e = .ret (.tup []) ∧ ∃ w' a', (w' = w ∨ nx ≤ w') ∧ (a' = a ∨ nx ≤ a') ∧ w' < k' ∧ a' < k' ∧ cAt h' m w' a' s' L'
theorem name_lt {h : AHeap} {nx m : Nat} {b : Blk} (hfresh : ∀ n, nx ≤ n → h n = none) (hm : h m = some b) : m < nx := by
  rcases Nat.lt_or_ge m nx with q | q
  · exact q
  · rw [hfresh m q] at hm; cases hm
theorem told_host (S : List (List AV)) (W : List Act3) (w : Nat) (c : Int) (g : AHeap) (hg : g w = some ⟨3, actsB W⟩) : toldA g (.agg [.sl S, .hs w 0 W.length, .int .i64 c]) = .agg [.sl S, .sl (actsB W), .int .i64 c] := by
  simp only [toldA, List.map_cons, List.map_nil, told1, hg]
  rw [if_pos (by rw [actsB_len]; omega), List.drop_zero, take_len _ _ (actsB_len W)]
theorem len_told (s : PgS) (hok : s.okHost) (w : Nat) {g : AHeap} {k : Nat} (hg : g w = some ⟨3, actsB s.W⟩) : aEff Tryd.prog 25 [.agg [.sl (secB s.S), .hs w 0 s.W.length, .int .i64 s.cap]] g k (.tup [.int .i64 s.size, .int .i64 0]) g := by
  have hln := host_Length s.S s.W s.cap
  rw [if_pos (show okH s.S s.W s.cap from hok)] at hln
  refine aCalls_told ?_ rfl
  rw [List.map_cons, List.map_nil, told_host _ _ _ _ _ hg]
  exact hln
theorem wait_end {s : PgS} {L : List Act3} {m w a : Nat} {x y : Int} {d : List Int} {h : AHeap} {nx : Nat} (ha : h a = some ⟨3, actsB L⟩) (h1 : w ≠ a) (h3 : a ≠ m) (m0 : m < nx) (w0 : w < nx) (a0 : a < nx) (X Y : Option Blk) (c w' w'' k' : Nat) (hc : nx < c) (hw : w' = w'') (hcw : c < w') (hk : w' < k') :
    metR h nx m w a (.ok ({ s with W := s.W ++ [(x, y, d)] }, L)) (.ret (.tup [])) (upd (upd (upd (upd (upd h nx X) c Y) w none) w' (some ⟨3, actsB (s.W ++ [(x, y, d)])⟩)) m
      (some ⟨16, [[.sl (secB s.S), .hs w'' 0 (s.W.length + 1), .int .i64 s.cap, .int .i64 s.sup.e, .int .i64 s.sup.v, .int .i64 s.sup.j, .int .i64 s.sup.p, .int .i64 s.sup.d, .int .i64 s.sup.s, .int .i64 s.sup.r, .sl (secB s.pages), .int .i64 s.root, .int .i64 s.room, .int .i64 s.seq, .int .i64 s.tail, .hs a 0 L.length]]⟩)) k' := by
  subst hw
  refine ⟨by omega, fun q hq q1 q2 q3 => ?_, rfl, w', a, .inr (by omega), .inl rfl, hk, by omega, ⟨?_, ?_, ?_, by omega, by omega, h3⟩⟩
  · rw [upd_ne _ _ _ q1, upd_ne _ _ _ (by omega), upd_ne _ _ _ q2, upd_ne _ _ _ (by omega), upd_ne _ _ _ (by omega)]
  · rw [upd_same]
    show _ = some (Blk.mk 16 [[.sl (secB s.S), .hs w' 0 (s.W ++ [(x, y, d)]).length, .int .i64 s.cap, .int .i64 s.sup.e, .int .i64 s.sup.v, .int .i64 s.sup.j, .int .i64 s.sup.p, .int .i64 s.sup.d, .int .i64 s.sup.s, .int .i64 s.sup.r, .sl (secB s.pages), .int .i64 s.root, .int .i64 s.room, .int .i64 s.seq, .int .i64 s.tail, .hs a 0 L.length]])
    rw [List.length_append]
    rfl
  · rw [upd_ne _ _ _ (by omega), upd_same]
  · rw [upd_ne _ _ _ h3, upd_ne _ _ _ (by omega), upd_ne _ _ _ (by omega), upd_ne _ _ _ (by omega), upd_ne _ _ _ (by omega)]
    exact ha
theorem pager_wait (s : PgS) (L : List Act3) (m w a : Nat) (x y : Int) (d : List Int) (hok : s.okHost) (hx : x = 1 ∨ (x = 2 ∧ d = [])) {h : AHeap} {nx : Nat} (hc : cAt h m w a s L) :
    aCalls Tryd.prog 45 [.ptr m 0 0, .agg [.int .i64 x, .int .i64 y, .sl (numB .u8 d)]] h nx (metR h nx m w a (match waitP s (x, y, d) with | .error e => .error e | .ok s' => .ok (s', L))) := by
  obtain ⟨hm, hw, ha, h1, h2, h3⟩ := hc
  unfold callB at hm
  have i1 := secB_len s.S
  have i2 := actsB_len s.W
  have i3 := numB_len .u8 d
  have hWl := hok.2.2.2.1
  have t1 : (actsB s.W).take s.W.length = actsB s.W := take_len _ _ i2
  refine aRP_body Tryd.func45 rfl rfl (by simp [Tryd.ntmps45]) fun hreal hfresh => ?_
  rw [Tryd.ntmps45]
  have m0 := name_lt hfresh hm
  have w0 := name_lt hfresh hw
  have a0 := name_lt hfresh ha
  by_cases c1 : s.W.length = 4096
  · have e : waitP s (x, y, d) = .error 51 := if_pos c1
    rw [e]
    have d1 : decide ((s.W.length : Int) = 4096) = true := decide_eq_true (by omega)
    have FX := Fx.mk (And.intro @NL <| And.intro @hm <| And.intro @i2 <| @d1)
    repeat (first | refine v_ ?_ | refine u_ ?_ | refine nl_ ?_ | (refine nz_ ?_; first | (show aWp _ _ _ _ _) | skip) | refine sq_ ?_ | refine rg_ ?_ | refine k_ ?_ | refine ct_ ?_ | refine cf_ ?_ | refine bk_ ?_ | refine sc_ ?_ | (refine sk_ ?_; first | (show aWp _ _ _ _ _) | skip) | (refine ex_ ?_; first | (show aWp _ _ _ _ _) | skip) | refine rt_ ?_)
    have cc : Tryd.prog.concrete 31 = true := by rfl
    have FX := Fx.mk (@aop_mi)
    repeat (first | refine v_ ?_ | refine u_ ?_ | refine nl_ ?_ | (refine nz_ ?_; first | (show aWp _ _ _ _ _) | skip) | refine sq_ ?_ | refine rg_ ?_ | refine k_ ?_ | refine ct_ ?_ | refine cf_ ?_ | refine bk_ ?_ | refine sc_ ?_ | (refine sk_ ?_; first | (show aWp _ _ _ _ _) | skip) | (refine ex_ ?_; first | (show aWp _ _ _ _ _) | skip) | refine rt_ ?_)
    refine pn_ ?_
    exact ⟨rfl, by first | omega | (simp only; omega), fun q hq _ _ _ => upd_ne _ _ _ (by omega), rfl⟩
  have d1 : decide ((s.W.length : Int) = 4096) = false := decide_eq_false (by omega)
  by_cases c2 : y < 0
  · have e : waitP s (x, y, d) = .error 4 := by unfold waitP; rw [if_neg c1, if_pos (.inl c2)]
    rw [e]
    have d2 : decide (y < 0) = true := decide_eq_true c2
    rcases hx with rfl | ⟨rfl, rfl⟩
    · have FX := Fx.mk (And.intro @NL <| And.intro @hm <| And.intro @hw <| And.intro @i2 <| And.intro @d1 <| @d2)
      repeat (first | refine v_ ?_ | refine u_ ?_ | refine e_ (len_told s hok w (by exact cl_)) fun kf hkf => ?_ | refine nl_ ?_ | (refine nz_ ?_; first | (show aWp _ _ _ _ _) | skip) | refine sq_ ?_ | refine rg_ ?_ | refine k_ ?_ | refine ct_ ?_ | refine cf_ ?_ | refine bk_ ?_ | refine sc_ ?_ | (refine sk_ ?_; first | (show aWp _ _ _ _ _) | skip) | (refine ex_ ?_; first | (show aWp _ _ _ _ _) | skip) | refine rt_ ?_)
      have cc : Tryd.prog.concrete 31 = true := by rfl
      have FX := Fx.mk (@aop_mi)
      repeat (first | refine v_ ?_ | refine u_ ?_ | refine nl_ ?_ | (refine nz_ ?_; first | (show aWp _ _ _ _ _) | skip) | refine sq_ ?_ | refine rg_ ?_ | refine k_ ?_ | refine ct_ ?_ | refine cf_ ?_ | refine bk_ ?_ | refine sc_ ?_ | (refine sk_ ?_; first | (show aWp _ _ _ _ _) | skip) | (refine ex_ ?_; first | (show aWp _ _ _ _ _) | skip) | refine rt_ ?_)
      refine pn_ ?_
      exact ⟨rfl, by first | omega | (simp only; omega), fun q hq _ _ _ => upd_ne _ _ _ (by omega), rfl⟩
    · have FX := Fx.mk (And.intro @NL <| And.intro @hm <| And.intro @hw <| And.intro @i2 <| And.intro @d1 <| @d2)
      repeat (first | refine v_ ?_ | refine u_ ?_ | refine e_ (len_told s hok w (by exact cl_)) fun kf hkf => ?_ | refine nl_ ?_ | (refine nz_ ?_; first | (show aWp _ _ _ _ _) | skip) | refine sq_ ?_ | refine rg_ ?_ | refine k_ ?_ | refine ct_ ?_ | refine cf_ ?_ | refine bk_ ?_ | refine sc_ ?_ | (refine sk_ ?_; first | (show aWp _ _ _ _ _) | skip) | (refine ex_ ?_; first | (show aWp _ _ _ _ _) | skip) | refine rt_ ?_)
      have cc : Tryd.prog.concrete 31 = true := by rfl
      have FX := Fx.mk (@aop_mi)
      repeat (first | refine v_ ?_ | refine u_ ?_ | refine nl_ ?_ | (refine nz_ ?_; first | (show aWp _ _ _ _ _) | skip) | refine sq_ ?_ | refine rg_ ?_ | refine k_ ?_ | refine ct_ ?_ | refine cf_ ?_ | refine bk_ ?_ | refine sc_ ?_ | (refine sk_ ?_; first | (show aWp _ _ _ _ _) | skip) | (refine ex_ ?_; first | (show aWp _ _ _ _ _) | skip) | refine rt_ ?_)
      refine pn_ ?_
      exact ⟨rfl, by first | omega | (simp only; omega), fun q hq _ _ _ => upd_ne _ _ _ (by omega), rfl⟩
  have d2 : decide (y < 0) = false := decide_eq_false c2
  have sn := actsB_snoc s.W x y d
  have hl : (s.W ++ [(x, y, d)]).length = s.W.length + 1 := by simp
  rcases hx with rfl | ⟨rfl, rfl⟩
  · by_cases c3 : s.size ≤ y
    · have e : waitP s (1, y, d) = .error 4 := by unfold waitP; rw [if_neg c1, if_pos (.inr ⟨rfl, c3⟩)]
      rw [e]
      have d3 : decide (s.size ≤ y) = true := decide_eq_true c3
      have FX := Fx.mk (And.intro @NL <| And.intro @hm <| And.intro @hw <| And.intro @i2 <| And.intro @d1 <| And.intro @d2 <| @d3)
      repeat (first | refine v_ ?_ | refine u_ ?_ | refine e_ (len_told s hok w (by exact cl_)) fun kf hkf => ?_ | refine nl_ ?_ | (refine nz_ ?_; first | (show aWp _ _ _ _ _) | skip) | refine sq_ ?_ | refine rg_ ?_ | refine k_ ?_ | refine ct_ ?_ | refine cf_ ?_ | refine bk_ ?_ | refine sc_ ?_ | (refine sk_ ?_; first | (show aWp _ _ _ _ _) | skip) | (refine ex_ ?_; first | (show aWp _ _ _ _ _) | skip) | refine rt_ ?_)
      have cc : Tryd.prog.concrete 31 = true := by rfl
      have FX := Fx.mk (@aop_mi)
      repeat (first | refine v_ ?_ | refine u_ ?_ | refine nl_ ?_ | (refine nz_ ?_; first | (show aWp _ _ _ _ _) | skip) | refine sq_ ?_ | refine rg_ ?_ | refine k_ ?_ | refine ct_ ?_ | refine cf_ ?_ | refine bk_ ?_ | refine sc_ ?_ | (refine sk_ ?_; first | (show aWp _ _ _ _ _) | skip) | (refine ex_ ?_; first | (show aWp _ _ _ _ _) | skip) | refine rt_ ?_)
      refine pn_ ?_
      exact ⟨rfl, by first | omega | (simp only; omega), fun q hq _ _ _ => upd_ne _ _ _ (by omega), rfl⟩
    have d3 : decide (s.size ≤ y) = false := decide_eq_false c3
    by_cases c4 : d.length = 64
    · have e : waitP s (1, y, d) = .ok { s with W := s.W ++ [(1, y, d)] } := by unfold waitP; rw [if_neg c1, if_neg (by dsimp only; omega), if_neg (by dsimp only; omega), if_neg (by dsimp only; omega)]
      rw [e]
      have d4 : decide ((d.length : Int) = 64) = true := decide_eq_true (by omega)
      have co := (Clone_oct d (by omega)).fn
      have FX := Fx.mk (And.intro @NL <| And.intro @hm <| And.intro @hw <| And.intro @i2 <| And.intro @i3 <| And.intro @d1 <| And.intro @d2 <| And.intro @d3 <| And.intro @d4 <| @Bool.not_true)
      repeat (first | refine v_ ?_ | refine u_ ?_ | refine e_ (len_told s hok w (by exact cl_)) fun kf hkf => ?_ | refine nl_ ?_ | (refine nz_ ?_; first | (show aWp _ _ _ _ _) | skip) | refine sq_ ?_ | refine rg_ ?_ | refine k_ ?_ | refine ct_ ?_ | refine cf_ ?_ | refine bk_ ?_ | refine sc_ ?_ | (refine sk_ ?_; first | (show aWp _ _ _ _ _) | skip) | (refine ex_ ?_; first | (show aWp _ _ _ _ _) | skip) | refine rt_ ?_)
      have FX := Fx.mk (And.intro @NL <| And.intro @hm <| @hw)
      refine W_draw mixed rfl rfl ?_
      repeat (first | refine dq_ ?_ | refine dr_ [nx, m] ?_ | refine dm_ [nx, m] ?_ | refine da_ [nx, m] ?_ | refine ds_ [nx, m] ?_ | refine dw_ [nx, m] ?_ | refine dk_ ?_ | refine dn_ ?_)
      refine fun kd hkd => ?_
      simp only [List.length_cons, List.length_nil] at hkd
      first | (show aWp _ _ _ _ _) | skip
      have FX := Fx0
      repeat (first | refine v_ ?_ | refine u_ ?_ | refine nl_ ?_ | (refine nz_ ?_; first | (show aWp _ _ _ _ _) | skip) | refine sq_ ?_ | refine rg_ ?_ | refine k_ ?_ | refine ct_ ?_ | refine cf_ ?_ | refine bk_ ?_ | refine sc_ ?_ | (refine sk_ ?_; first | (show aWp _ _ _ _ _) | skip) | (refine ex_ ?_; first | (show aWp _ _ _ _ _) | skip) | refine rt_ ?_)
      have FX := Fx.mk (And.intro @NL <| And.intro @hm <| And.intro @hw <| And.intro @i2 <| And.intro @t1 <| @sn)
      refine W_draw mixed rfl rfl ?_
      repeat (first | refine dq_ ?_ | refine df_ (co) ?_ | refine dr_ [nx, m] ?_ | refine dm_ [w, kd + (0 + 1 + 1 + 1 + 1 + 1 + 1 + 1 + 1 + 1 + 1 + 1 + 1 + 1 + 1 + 1)] ?_ | refine da_ [w, kd + (0 + 1 + 1 + 1 + 1 + 1 + 1 + 1 + 1 + 1 + 1 + 1 + 1 + 1 + 1 + 1)] ?_ | refine ds_ [nx, m] ?_ | refine ds_ [w, kd + (0 + 1 + 1 + 1 + 1 + 1 + 1 + 1 + 1 + 1 + 1 + 1 + 1 + 1 + 1 + 1)] ?_ | refine dw_ [nx, m] ?_ | refine dk_ ?_ | refine dn_ ?_)
      refine fun kd hkd => ?_
      simp only [List.length_cons, List.length_nil] at hkd
      first | (show aWp _ _ _ _ _) | skip
      refine ⟨rfl, .tup [], by rw [Tryd.results45]; rfl, ?_⟩
      exact wait_end ha h1 h3 m0 w0 a0 _ _ _ _ _ _ (by first | omega | (simp only; omega)) (by first | omega | (simp only; omega)) (by first | omega | (simp only; omega)) (by first | omega | (simp only; omega))
    · have e : waitP s (1, y, d) = .error 1 := by unfold waitP; rw [if_neg c1, if_neg (by dsimp only; omega), if_pos (by dsimp only; omega)]
      rw [e]
      have d4 : decide ((d.length : Int) = 64) = false := decide_eq_false (by omega)
      have FX := Fx.mk (And.intro @NL <| And.intro @hm <| And.intro @hw <| And.intro @i2 <| And.intro @i3 <| And.intro @d1 <| And.intro @d2 <| And.intro @d3 <| And.intro @d4 <| @Bool.not_false)
      repeat (first | refine v_ ?_ | refine u_ ?_ | refine e_ (len_told s hok w (by exact cl_)) fun kf hkf => ?_ | refine nl_ ?_ | (refine nz_ ?_; first | (show aWp _ _ _ _ _) | skip) | refine sq_ ?_ | refine rg_ ?_ | refine k_ ?_ | refine ct_ ?_ | refine cf_ ?_ | refine bk_ ?_ | refine sc_ ?_ | (refine sk_ ?_; first | (show aWp _ _ _ _ _) | skip) | (refine ex_ ?_; first | (show aWp _ _ _ _ _) | skip) | refine rt_ ?_)
      have cc : Tryd.prog.concrete 31 = true := by rfl
      have FX := Fx.mk (@aop_mi)
      repeat (first | refine v_ ?_ | refine u_ ?_ | refine nl_ ?_ | (refine nz_ ?_; first | (show aWp _ _ _ _ _) | skip) | refine sq_ ?_ | refine rg_ ?_ | refine k_ ?_ | refine ct_ ?_ | refine cf_ ?_ | refine bk_ ?_ | refine sc_ ?_ | (refine sk_ ?_; first | (show aWp _ _ _ _ _) | skip) | (refine ex_ ?_; first | (show aWp _ _ _ _ _) | skip) | refine rt_ ?_)
      refine pn_ ?_
      exact ⟨rfl, by first | omega | (simp only; omega), fun q hq _ _ _ => upd_ne _ _ _ (by omega), rfl⟩
  · by_cases c3 : s.cap < y
    · have e : waitP s (2, y, []) = .error 51 := by unfold waitP; rw [if_neg c1, if_neg (by dsimp only; omega), if_neg (by dsimp only; omega), if_pos (by dsimp only; omega)]
      rw [e]
      have d3 : decide (s.cap < y) = true := decide_eq_true c3
      have FX := Fx.mk (And.intro @NL <| And.intro @hm <| And.intro @hw <| And.intro @i2 <| And.intro @i3 <| And.intro @d1 <| And.intro @d2 <| @d3)
      repeat (first | refine v_ ?_ | refine u_ ?_ | refine e_ (len_told s hok w (by exact cl_)) fun kf hkf => ?_ | refine nl_ ?_ | (refine nz_ ?_; first | (show aWp _ _ _ _ _) | skip) | refine sq_ ?_ | refine rg_ ?_ | refine k_ ?_ | refine ct_ ?_ | refine cf_ ?_ | refine bk_ ?_ | refine sc_ ?_ | (refine sk_ ?_; first | (show aWp _ _ _ _ _) | skip) | (refine ex_ ?_; first | (show aWp _ _ _ _ _) | skip) | refine rt_ ?_)
      have FX := Fx.mk (And.intro @NL <| And.intro @hm <| And.intro @hw <| @d3)
      refine W_draw mixed rfl rfl ?_
      repeat (first | refine dq_ ?_ | refine dr_ [nx, m] ?_ | refine dm_ [nx, m] ?_ | refine da_ [nx, m] ?_ | refine ds_ [nx, m] ?_ | refine dw_ [nx, m] ?_ | refine dk_ ?_ | refine dn_ ?_)
      refine fun kd hkd => ?_
      simp only [List.length_cons, List.length_nil] at hkd
      first | (show aWp _ _ _ _ _) | skip
      have cc : Tryd.prog.concrete 31 = true := by rfl
      have FX := Fx.mk (@aop_mi)
      repeat (first | refine v_ ?_ | refine u_ ?_ | refine nl_ ?_ | (refine nz_ ?_; first | (show aWp _ _ _ _ _) | skip) | refine sq_ ?_ | refine rg_ ?_ | refine k_ ?_ | refine ct_ ?_ | refine cf_ ?_ | refine bk_ ?_ | refine sc_ ?_ | (refine sk_ ?_; first | (show aWp _ _ _ _ _) | skip) | (refine ex_ ?_; first | (show aWp _ _ _ _ _) | skip) | refine rt_ ?_)
      refine pn_ ?_
      exact ⟨rfl, by first | omega | (simp only; omega), fun q hq _ _ _ => upd_ne _ _ _ (by omega), rfl⟩
    have d3 : decide (s.cap < y) = false := decide_eq_false c3
    have e : waitP s (2, y, []) = .ok { s with W := s.W ++ [(2, y, [])] } := by unfold waitP; rw [if_neg c1, if_neg (by dsimp only; omega), if_neg (by dsimp only; omega), if_neg (by dsimp only; omega)]
    rw [e]
    have co := (Clone_oct [] (by simp)).fn
    rw [numB_empty] at sn
    have FX := Fx.mk (And.intro @NL <| And.intro @hm <| And.intro @hw <| And.intro @i2 <| And.intro @i3 <| And.intro @d1 <| And.intro @d2 <| @d3)
    repeat (first | refine v_ ?_ | refine u_ ?_ | refine e_ (len_told s hok w (by exact cl_)) fun kf hkf => ?_ | refine nl_ ?_ | (refine nz_ ?_; first | (show aWp _ _ _ _ _) | skip) | refine sq_ ?_ | refine rg_ ?_ | refine k_ ?_ | refine ct_ ?_ | refine cf_ ?_ | refine bk_ ?_ | refine sc_ ?_ | (refine sk_ ?_; first | (show aWp _ _ _ _ _) | skip) | (refine ex_ ?_; first | (show aWp _ _ _ _ _) | skip) | refine rt_ ?_)
    have FX := Fx.mk (And.intro @NL <| And.intro @hm <| And.intro @hw <| @d3)
    refine W_draw mixed rfl rfl ?_
    repeat (first | refine dq_ ?_ | refine dr_ [nx, m] ?_ | refine dm_ [nx, m] ?_ | refine da_ [nx, m] ?_ | refine ds_ [nx, m] ?_ | refine dw_ [nx, m] ?_ | refine dk_ ?_ | refine dn_ ?_)
    refine fun kd hkd => ?_
    simp only [List.length_cons, List.length_nil] at hkd
    first | (show aWp _ _ _ _ _) | skip
    have FX := Fx0
    repeat (first | refine v_ ?_ | refine u_ ?_ | refine nl_ ?_ | (refine nz_ ?_; first | (show aWp _ _ _ _ _) | skip) | refine sq_ ?_ | refine rg_ ?_ | refine k_ ?_ | refine ct_ ?_ | refine cf_ ?_ | refine bk_ ?_ | refine sc_ ?_ | (refine sk_ ?_; first | (show aWp _ _ _ _ _) | skip) | (refine ex_ ?_; first | (show aWp _ _ _ _ _) | skip) | refine rt_ ?_)
    have FX := Fx.mk (And.intro @NL <| And.intro @hm <| And.intro @hw <| And.intro @i2 <| And.intro @t1 <| @sn)
    refine W_draw mixed rfl rfl ?_
    repeat (first | refine dq_ ?_ | refine df_ (co) ?_ | refine dr_ [nx, m] ?_ | refine dm_ [w, kd + (0 + 1 + 1 + 1 + 1 + 1 + 1 + 1 + 1 + 1 + 1 + 1 + 1 + 1 + 1 + 1)] ?_ | refine da_ [w, kd + (0 + 1 + 1 + 1 + 1 + 1 + 1 + 1 + 1 + 1 + 1 + 1 + 1 + 1 + 1 + 1)] ?_ | refine ds_ [nx, m] ?_ | refine ds_ [w, kd + (0 + 1 + 1 + 1 + 1 + 1 + 1 + 1 + 1 + 1 + 1 + 1 + 1 + 1 + 1 + 1)] ?_ | refine dw_ [nx, m] ?_ | refine dk_ ?_ | refine dn_ ?_)
    refine fun kd hkd => ?_
    simp only [List.length_cons, List.length_nil] at hkd
    first | (show aWp _ _ _ _ _) | skip
    refine ⟨rfl, .tup [], by rw [Tryd.results45]; rfl, ?_⟩
    exact wait_end ha h1 h3 m0 w0 a0 _ _ _ _ _ _ (by first | omega | (simp only; omega)) (by first | omega | (simp only; omega)) (by first | omega | (simp only; omega)) (by first | omega | (simp only; omega))
end Go.Proofs.YtjidgdfdeckofaaDoor.AE

/- Layer 16: do. -/
namespace Go.Proofs.YtjidgdfdeckofaaDoor.AE
open Go Go.RowKit Go.Proofs Go.Proofs.YtjidgdfdeckofaaDoor
set_option linter.unusedVariables false
set_option linter.unusedSimpArgs false
set_option maxRecDepth 100000
set_option maxHeartbeats 8000000
/-- What waits is told, in a call's block. -/
theorem Sub.frzCall {st : St} {m w a n : Nat} {s : PgS} (hm : st.h m = some ⟨16, [[.sl (secB s.S), .hs w 0 s.W.length, .int .i64 s.cap, .int .i64 s.sup.e, .int .i64 s.sup.v, .int .i64 s.sup.j, .int .i64 s.sup.p, .int .i64 s.sup.d, .int .i64 s.sup.s, .int .i64 s.sup.r, .sl (secB s.pages), .int .i64 s.root, .int .i64 s.room, .int .i64 s.seq, .int .i64 s.tail, .hs a 0 n]]⟩)
    (hw : st.h w = some ⟨3, actsB s.W⟩) (hwm : w ≠ m) (hwa : w ≠ a) :
    Sub st ⟨st.tm, upd (upd st.h w none) m (some ⟨16, [[.sl (secB s.S), .sl (actsB s.W), .int .i64 s.cap, .int .i64 s.sup.e, .int .i64 s.sup.v, .int .i64 s.sup.j, .int .i64 s.sup.p, .int .i64 s.sup.d, .int .i64 s.sup.s, .int .i64 s.sup.r, .sl (secB s.pages), .int .i64 s.root, .int .i64 s.room, .int .i64 s.seq, .int .i64 s.tail, .hs a 0 n]]⟩), st.nx, st.df⟩ := by
  have := Sub.freezeH hw hm (by omega)
  have f1 : frzN w ⟨3, actsB s.W⟩ (.hs w 0 s.W.length) = .sl (actsB s.W) := by
    show (if w = w ∧ 0 + s.W.length ≤ (actsB s.W).length then AV.sl (((actsB s.W).drop 0).take s.W.length) else .hs w 0 s.W.length) = _
    rw [if_pos ⟨rfl, by rw [actsB_len]; omega⟩, List.drop_zero, take_len _ _ (actsB_len _)]
  have f2 : frzN w ⟨3, actsB s.W⟩ (.hs a 0 n) = .hs a 0 n := by
    show (if a = w ∧ 0 + n ≤ (actsB s.W).length then _ else AV.hs a 0 n) = _
    rw [if_neg (by omega)]
  have f3 : ∀ es, frzN w ⟨3, actsB s.W⟩ (.sl es) = .sl es := fun es => rfl
  have f4 : ∀ k n, frzN w ⟨3, actsB s.W⟩ (.int k n) = .int k n := fun _ _ => rfl
  simp only [List.map_cons, List.map_nil, f1, f2, f3, f4] at this
  exact this
theorem doP_at {s s' : PgS} {L L' : List Act3} {l : List Act3} {i : Nat} {x : Act3} (h : doP s L (l.take i) = .ok (s', L')) (hx : l[i]? = some x) : doP s L (l.take (i + 1)) = do1 s' L' x := by
  rw [List.take_add_one, hx, doP_append, h]
  show doP s' L' [x] = _
  cases hd : do1 s' L' x with
  | error e => rw [doP_cons_err hd]
  | ok p => obtain ⟨s2, L2⟩ := p; rw [doP_cons_ok hd]; rfl
theorem doP_bad {s s' : PgS} {L L' : List Act3} {l : List Act3} {i : Nat} {x : Act3} {e : Int} (h : doP s L (l.take i) = .ok (s', L')) (hx : l[i]? = some x) (hd : do1 s' L' x = .error e) : doP s L l = .error e := by
  have h1 := doP_at h hx
  rw [← List.take_append_drop (i + 1) l, doP_append, h1, hd]
theorem do_len {s s' : PgS} {L L' : List Act3} {l : List Act3} {i : Nat} (h : doP s L (l.take i) = .ok (s', L')) : L'.length ≤ L.length + i := by
  rw [(doP_same _ h).2, List.length_append, List.length_take]
  omega
theorem actV_eq (x : Act3) : actV x = .agg [.int .i64 x.1, .int .i64 x.2.1, .sl (numB .u8 x.2.2)] := rfl
theorem aWp_gen [ρ : Rnd] {P : Program} {nt : Nat} {c : Code} {Q : AX → St → Prop} {tm : Nat → AV} {h : AHeap} {k : Nat} {df : List ADef} (F : (Nat → AV) → AHeap → Nat → Prop) (h0 : F tm h k) (hw : ∀ tm h k, F tm h k → aWp P nt c Q ⟨tm, h, k, df⟩) : aWp P nt c Q ⟨tm, h, k, df⟩ := hw _ _ _ h0
/-- The act is kept: what is known ahead of it. -/
def doF (T : Nat → AV) (h : AHeap) (nx m w a p a1 : Nat) (i : Nat) (x y : Int) (d : List Int) (s2 : PgS) (L1 : List Act3) (tm2 : Nat → AV) (H : AHeap) (k2 : Nat) : Prop :=
  (∀ t, [0, 7, 8].contains t = true → tm2 t = T t) ∧ tm2 5 = .ptr p 0 0 ∧ tm2 9 = .int .i64 (i : Int) ∧ H p = some ⟨3, [[.int .i64 x, .int .i64 y, .sl (numB .u8 d)]]⟩ ∧ keepX h H nx m w a ∧ p < k2 ∧ ∃ w2, cAt H m w2 a1 s2 L1 ∧ (w2 = w ∨ nx ≤ w2) ∧ w2 < k2 ∧ w2 ≠ p ∧ a1 < k2
theorem pager_do (s : PgS) (L l : List Act3) (m w a : Nat) (hok : s.okHost) (hg : ∀ x ∈ l, goodA x) (hL : L.length + l.length ≤ 1000000) {h : AHeap} {nx : Nat} (hc : cAt h m w a s L) :
    aCalls Tryd.prog 19 [.ptr m 0 0, .sl (actsB l)] h nx (metR h nx m w a (doP s L l)) := by
  have j1 := actsB_len l
  have hz0 : (AV.sl (numB .u8 [])) = AV.sl [] := rfl
  refine aRP_body Tryd.func19 rfl rfl (by simp [Tryd.ntmps19]) fun hreal hfresh => ?_
  rw [Tryd.ntmps19]
  have m0 := name_lt hfresh hc.hm
  have w0 := name_lt hfresh hc.hw
  have a0 := name_lt hfresh hc.ha
  have FX := Fx.mk (@j1)
  repeat (first | refine v_ ?_ | refine u_ ?_ | refine nl_ ?_ | (refine nz_ ?_; first | (show aWp _ _ _ _ _) | skip) | refine sq_ ?_ | refine rg_ ?_ | refine k_ ?_ | refine ct_ ?_ | refine cf_ ?_ | refine bk_ ?_ | refine sc_ ?_ | (refine sk_ ?_; first | (show aWp _ _ _ _ _) | skip) | (refine ex_ ?_; first | (show aWp _ _ _ _ _) | skip) | refine rt_ ?_)
  refine W_loopK [0, 7, 8] 0 (fun r tm h' q => ∃ (i : Nat) (s1 : PgS) (L1 : List Act3) (w1 a1 : Nat), i ≤ l.length ∧ r = l.length - i ∧ tm 9 = .int .i64 i ∧ doP s L (l.take i) = .ok (s1, L1) ∧ cAt h' m w1 a1 s1 L1 ∧ keepX h h' nx m w a ∧ (w1 = w ∨ nx ≤ w1) ∧ (a1 = a ∨ nx ≤ a1) ∧ w1 < q ∧ a1 < q ∧ nx ≤ q) l.length (by first | omega | (simp only; omega)) ⟨0, s, L, w, a, Nat.zero_le _, rfl, rfl, by rw [List.take_zero]; rfl, hc, fun q hq _ _ _ => rfl, .inl rfl, .inl rfl, w0, a0, Nat.le_refl _⟩ ?_
  rintro r tm' h' k' ⟨i, s1, L1, w1, a1, hi, rfl, h9, hst, ⟨bm, bw, ba, n1, n2, n3⟩, hkeep, hw1, ha1, wk, ak, hk0⟩ hag hh hk'
  unfold callB at bm
  by_cases hlt : i < l.length
  · have hd : decide ((i : Int) < (l.length : Int)) = true := decide_eq_true (by omega)
    have hwi : IntKind.i64.wrap (i + 1) = ((i + 1 : Nat) : Int) := by rw [wrapI] <;> omega
    obtain ⟨⟨x, y, d⟩, hx0⟩ : ∃ a, l[i]? = some a := ⟨l[i], List.getElem?_eq_getElem hlt⟩
    have hx := actsB_get l i _ hx0
    dsimp only at hx
    have hgx := hg _ (List.mem_of_getElem? hx0)
    have hok1 : s1.okHost := doP_host _ hok (fun b hb => hg b (List.mem_of_mem_take hb)) hst
    have hlen := do_len hst
    have j2 := actsB_len L1
    have tA : (actsB L1).take L1.length = actsB L1 := take_len _ _ j2
    have snA := actsB_snoc L1 x y d
    by_cases h3 : x = 3
    · subst h3
      have hd0 : d = [] := by rcases hgx with q | q <;> simp_all
      subst hd0
      rw [hz0] at hx
      have d3 : decide ((3 : Int) = 3) = true := rfl
      have flu := host_FlushZ s1.S s1.W s1.cap hok1
      unfold hostV at flu
      have mo := must_ok
      have co := (Clone_oct [] (by simp)).fn
      rw [numB_empty] at snA
      have hd1 : do1 s1 L1 (3, y, []) = .ok (flushP s1, L1 ++ [(3, y, [])]) := by unfold do1; rw [if_pos rfl]
      have hst2 := doP_at hst hx0
      rw [hd1] at hst2
      refine aWp_sub (Sub.frzCall (m := m) bm bw n2 n1) ?_
      have FX := Fx.mk (And.intro @NL <| And.intro @hag <| And.intro @hh <| And.intro @h9 <| And.intro @hd <| And.intro @hx <| And.intro @bm <| @ba)
      repeat (first | refine v_ ?_ | refine u_ ?_ | refine f_ (flu) fun kf hkf => ?_ | refine f_ (mo) fun kf hkf => ?_ | refine nl_ ?_ | (refine nz_ ?_; first | (show aWp _ _ _ _ _) | skip) | refine sq_ ?_ | refine rg_ ?_ | refine k_ ?_ | refine ct_ ?_ | refine cf_ ?_ | refine bk_ ?_ | refine sc_ ?_ | (refine sk_ ?_; first | (show aWp _ _ _ _ _) | skip) | (refine ex_ ?_; first | (show aWp _ _ _ _ _) | skip) | refine rt_ ?_)
      refine aWp_new 3 ?_
      refine aWp_sub (Sub.zsH (m := m) (j := 1) (z := kf) (sz' := 3) (by (have FX := Fx0; exact cl_)) rfl (by (have FX := Fx0; exact cl_))) ?_
      refine aWp_gen (doF tm' h nx m w a k' a1 i 3 y [] (flushP s1) L1) ⟨?_, ?_, ?_, ?_, ?_, ?_, kf, ⟨?_, ?_, ?_, ?_, ?_, n3⟩, ?_, ?_, ?_, ?_⟩ ?_
      · repeat (refine KAgree.upd rfl ?_)
        exact KAgree.refl _ _
      · (have FX := Fx0; exact cl_)
      · (have FX := Fx.mk (@h9); exact cl_)
      · (have FX := Fx.mk (@numB_empty); exact cl_)
      · intro q hq q1 q2 q3
        simp (disch := omega) only [upd_ne]
        exact hkeep q hq q1 q2 q3
      · simp only; omega
      · show _ = some (Blk.mk 16 [[.sl (secB (allH s1.S s1.W)), .hs kf 0 0, .int .i64 s1.cap, .int .i64 s1.sup.e, .int .i64 s1.sup.v, .int .i64 s1.sup.j, .int .i64 s1.sup.p, .int .i64 s1.sup.d, .int .i64 s1.sup.s, .int .i64 s1.sup.r, .sl (secB s1.pages), .int .i64 s1.root, .int .i64 s1.room, .int .i64 s1.seq, .int .i64 s1.tail, .hs a1 0 L1.length]])
        (have FX := Fx0; exact cl_)
      · show _ = some (Blk.mk 3 [])
        (have FX := Fx0; exact cl_)
      · (have FX := Fx.mk (@ba); exact cl_)
      · omega
      · omega
      · exact .inr (by omega)
      · simp only; omega
      · omega
      · simp only; omega
      · rintro tm2 H k2 ⟨hF, f5, f9, bp, hkeep2, pk2, w2, ⟨cm, cw, ca, g1, g2, g3⟩, hw2, wk2, hwp, hak2⟩
        unfold callB at cm
        have f0 : tm2 0 = .ptr m 0 0 := by rw [hF 0 rfl, hag 0 rfl]; rfl
        have f7 : tm2 7 = .sl (actsB l) := by rw [hF 7 rfl, hag 7 rfl]; rfl
        have f8 : tm2 8 = .int .i64 (l.length : Int) := by rw [hF 8 rfl, hag 8 rfl]; rfl
        have FX := Fx.mk (And.intro @NL <| And.intro @f0 <| And.intro @f5 <| And.intro @f9 <| And.intro @cm <| And.intro @bp <| And.intro @ca <| And.intro @j2 <| And.intro @tA <| @snA)
        refine W_draw mixed rfl rfl ?_
        repeat (first | refine dq_ ?_ | refine df_ (co) ?_ | refine dr_ [k', m] ?_ | refine dm_ [a1, k2 + (0 + 1 + 1 + 1 + 1 + 1 + 1 + 1 + 1 + 1 + 1 + 1 + 1 + 1)] ?_ | refine da_ [a1, k2 + (0 + 1 + 1 + 1 + 1 + 1 + 1 + 1 + 1 + 1 + 1 + 1 + 1 + 1)] ?_ | refine ds_ [k', m] ?_ | refine ds_ [a1, k2 + (0 + 1 + 1 + 1 + 1 + 1 + 1 + 1 + 1 + 1 + 1 + 1 + 1 + 1)] ?_ | refine dw_ [k', m] ?_ | refine dk_ ?_ | refine dn_ ?_)
        refine fun kd hkd => ?_
        simp only [List.length_cons, List.length_nil] at hkd
        first | (show aWp _ _ _ _ _) | skip
        have FX := Fx.mk (And.intro @f9 <| @hwi)
        repeat (first | refine v_ ?_ | refine u_ ?_ | refine nl_ ?_ | (refine nz_ ?_; first | (show aWp _ _ _ _ _) | skip) | refine sq_ ?_ | refine rg_ ?_ | refine k_ ?_ | refine ct_ ?_ | refine cf_ ?_ | refine bk_ ?_ | refine sc_ ?_ | (refine sk_ ?_; first | (show aWp _ _ _ _ _) | skip) | (refine ex_ ?_; first | (show aWp _ _ _ _ _) | skip) | refine rt_ ?_)
        refine ⟨l.length - (i + 1), by omega, ⟨i + 1, flushP s1, L1 ++ [(3, y, [])], w2, k2 + (0 + 1 + 1 + 1 + 1 + 1 + 1 + 1 + 1 + 1 + 1 + 1 + 1 + 1 + 1), by omega, rfl, ?_, hst2, ⟨?_, ?_, ?_, by omega, g2, by omega⟩, ?_, hw2, .inr (by omega), ?_, ?_, ?_⟩, ?_, ?_, ?_, rfl⟩
        · (have FX := Fx0; exact cl_)
        · unfold callB
          rw [List.length_append]
          show _ = some (Blk.mk 16 [[.sl (secB (flushP s1).S), .hs w2 0 (flushP s1).W.length, .int .i64 (flushP s1).cap, .int .i64 (flushP s1).sup.e, .int .i64 (flushP s1).sup.v, .int .i64 (flushP s1).sup.j, .int .i64 (flushP s1).sup.p, .int .i64 (flushP s1).sup.d, .int .i64 (flushP s1).sup.s, .int .i64 (flushP s1).sup.r, .sl (secB (flushP s1).pages), .int .i64 (flushP s1).root, .int .i64 (flushP s1).room, .int .i64 (flushP s1).seq, .int .i64 (flushP s1).tail, .hs (k2 + (1 + 1 + 1 + 1 + 1 + 1 + 1 + 1 + 1 + 1 + 1 + 1 + 1 + 1)) 0 (L1.length + 1)]])
          (have FX := Fx0; exact cl_)
        · (have FX := Fx.mk (@cw); exact cl_)
        · (have FX := Fx.mk (@snA); exact cl_)
        · intro q hq q1 q2 q3
          simp (disch := omega) only [upd_ne]
          exact hkeep2 q hq q1 q2 q3
        · simp only; omega
        · simp only; omega
        · simp only; omega
        · repeat (refine KAgree.upd rfl ?_)
          exact fun t ht => (hF t ht).trans (hag t ht)
        · exact fun q hq => absurd hq (Nat.not_lt_zero q)
        · simp only; omega
    · have d3 : decide (x = 3) = false := decide_eq_false h3
      have hx2 : x = 1 ∨ (x = 2 ∧ d = []) := by
        rcases hgx with q | ⟨q | q, q2⟩
        · exact .inl q
        · exact .inr ⟨q, q2⟩
        · exact absurd q h3
      have FX := Fx.mk (And.intro @NL <| And.intro @hag <| And.intro @hh <| And.intro @h9 <| And.intro @hd <| And.intro @hx <| And.intro @bm <| And.intro @ba <| @d3)
      repeat (first | refine v_ ?_ | refine u_ ?_ | refine nl_ ?_ | (refine nz_ ?_; first | (show aWp _ _ _ _ _) | skip) | refine sq_ ?_ | refine rg_ ?_ | refine k_ ?_ | refine ct_ ?_ | refine cf_ ?_ | refine bk_ ?_ | refine sc_ ?_ | (refine sk_ ?_; first | (show aWp _ _ _ _ _) | skip) | (refine ex_ ?_; first | (show aWp _ _ _ _ _) | skip) | refine rt_ ?_)
      refine RP_ (pager_wait s1 L1 m w1 a1 x y d hok1 hx2 ⟨by unfold callB; (have FX := Fx.mk (@bm); exact cl_), by (have FX := Fx.mk (@bw); exact cl_), by (have FX := Fx.mk (@ba); exact cl_), n1, n2, n3⟩) ?_ ?_
      · rintro av H k2 ⟨r1, r2, r3⟩
        cases hwp : waitP s1 (x, y, d) with
        | error e =>
          rw [hwp] at r3
          cases r3
        | ok s2 =>
          rw [hwp] at r3
          obtain ⟨r3, w2, a2, r4, r5, r6, r7, r8⟩ := r3
          cases r3
          have hd1 : do1 s1 L1 (x, y, d) = .ok (s2, L1 ++ [(x, y, d)]) := by unfold do1; rw [if_neg h3, hwp]
          have hst2 := doP_at hst hx0
          rw [hd1] at hst2
          have hr64 : d.length ≤ 64 := by
            rcases hx2 with q | ⟨_, q⟩
            · have := (waitP_ok hwp).2.2.2.1 q; dsimp only at this; omega
            · rw [q]; simp
          have co := (Clone_oct d (by omega)).fn
          have ha2 : a2 = a ∨ nx ≤ a2 := by rcases r5 with q | q <;> omega
          have ha2k : a2 ≠ k' := by rcases r5 with q | q <;> omega
          show aOps _ _ _ _ _ _
          have FX := Fx.mk (@NL)
          repeat (first | refine v_ ?_ | refine u_ ?_ | refine nl_ ?_ | (refine nz_ ?_; first | (show aWp _ _ _ _ _) | skip) | refine sq_ ?_ | refine rg_ ?_ | refine k_ ?_ | refine ct_ ?_ | refine cf_ ?_ | refine bk_ ?_ | refine sc_ ?_ | (refine sk_ ?_; first | (show aWp _ _ _ _ _) | skip) | (refine ex_ ?_; first | (show aWp _ _ _ _ _) | skip) | refine rt_ ?_)
          refine aWp_gen (doF tm' h nx m w a k' a2 i x y d s2 L1) ⟨?_, ?_, ?_, ?_, ?_, ?_, w2, r8, ?_, ?_, ?_, ?_⟩ ?_
          · repeat (refine KAgree.upd rfl ?_)
            exact KAgree.refl _ _
          · (have FX := Fx0; exact cl_)
          · (have FX := Fx.mk (@h9); exact cl_)
          · rw [r2 k' (by omega) (by omega) (by omega) (by omega)]
            (have FX := Fx0; exact cl_)
          · intro q hq q1 q2 q3
            rw [r2 q (by omega) q1 (by omega) (by omega)]
            simp (disch := omega) only [upd_ne]
            exact hkeep q hq q1 q2 q3
          · first | omega | (simp only; omega)
          · rcases r4 with q | q <;> omega
          · first | omega | (simp only; omega)
          · rcases r4 with q | q <;> omega
          · first | exact r7 | (simp only; omega)
          · rintro tm2 H k2 ⟨hF, f5, f9, bp, hkeep2, pk2, w2, ⟨cm, cw, ca, g1, g2, g3⟩, hw2, wk2, hwp, hak2⟩
            unfold callB at cm
            have f0 : tm2 0 = .ptr m 0 0 := by rw [hF 0 rfl, hag 0 rfl]; rfl
            have f7 : tm2 7 = .sl (actsB l) := by rw [hF 7 rfl, hag 7 rfl]; rfl
            have f8 : tm2 8 = .int .i64 (l.length : Int) := by rw [hF 8 rfl, hag 8 rfl]; rfl
            have FX := Fx.mk (And.intro @NL <| And.intro @f0 <| And.intro @f5 <| And.intro @f9 <| And.intro @cm <| And.intro @bp <| And.intro @ca <| And.intro @j2 <| And.intro @tA <| @snA)
            refine W_draw mixed rfl rfl ?_
            repeat (first | refine dq_ ?_ | refine df_ (co) ?_ | refine dr_ [k', m] ?_ | refine dm_ [a2, k2 + (0 + 1 + 1 + 1 + 1 + 1 + 1 + 1 + 1 + 1 + 1 + 1 + 1 + 1)] ?_ | refine da_ [a2, k2 + (0 + 1 + 1 + 1 + 1 + 1 + 1 + 1 + 1 + 1 + 1 + 1 + 1 + 1)] ?_ | refine ds_ [k', m] ?_ | refine ds_ [a2, k2 + (0 + 1 + 1 + 1 + 1 + 1 + 1 + 1 + 1 + 1 + 1 + 1 + 1 + 1)] ?_ | refine dw_ [k', m] ?_ | refine dk_ ?_ | refine dn_ ?_)
            refine fun kd hkd => ?_
            simp only [List.length_cons, List.length_nil] at hkd
            first | (show aWp _ _ _ _ _) | skip
            have FX := Fx.mk (And.intro @f9 <| @hwi)
            repeat (first | refine v_ ?_ | refine u_ ?_ | refine nl_ ?_ | (refine nz_ ?_; first | (show aWp _ _ _ _ _) | skip) | refine sq_ ?_ | refine rg_ ?_ | refine k_ ?_ | refine ct_ ?_ | refine cf_ ?_ | refine bk_ ?_ | refine sc_ ?_ | (refine sk_ ?_; first | (show aWp _ _ _ _ _) | skip) | (refine ex_ ?_; first | (show aWp _ _ _ _ _) | skip) | refine rt_ ?_)
            refine ⟨l.length - (i + 1), by omega, ⟨i + 1, s2, L1 ++ [(x, y, d)], w2, k2 + (0 + 1 + 1 + 1 + 1 + 1 + 1 + 1 + 1 + 1 + 1 + 1 + 1 + 1 + 1), by omega, rfl, ?_, hst2, ⟨?_, ?_, ?_, by omega, g2, by omega⟩, ?_, hw2, .inr (by omega), ?_, ?_, ?_⟩, ?_, ?_, ?_, rfl⟩
            · (have FX := Fx0; exact cl_)
            · unfold callB
              rw [List.length_append]
              show _ = some (Blk.mk 16 [[.sl (secB (s2).S), .hs w2 0 (s2).W.length, .int .i64 (s2).cap, .int .i64 (s2).sup.e, .int .i64 (s2).sup.v, .int .i64 (s2).sup.j, .int .i64 (s2).sup.p, .int .i64 (s2).sup.d, .int .i64 (s2).sup.s, .int .i64 (s2).sup.r, .sl (secB (s2).pages), .int .i64 (s2).root, .int .i64 (s2).room, .int .i64 (s2).seq, .int .i64 (s2).tail, .hs (k2 + (1 + 1 + 1 + 1 + 1 + 1 + 1 + 1 + 1 + 1 + 1 + 1 + 1 + 1)) 0 (L1.length + 1)]])
              (have FX := Fx0; exact cl_)
            · (have FX := Fx.mk (@cw); exact cl_)
            · (have FX := Fx.mk (@snA); exact cl_)
            · intro q hq q1 q2 q3
              simp (disch := omega) only [upd_ne]
              exact hkeep2 q hq q1 q2 q3
            · simp only; omega
            · simp only; omega
            · simp only; omega
            · repeat (refine KAgree.upd rfl ?_)
              exact fun t ht => (hF t ht).trans (hag t ht)
            · exact fun q hq => absurd hq (Nat.not_lt_zero q)
            · simp only; omega
      · rintro av H k2 ⟨r1, r2, r3⟩
        cases hwp : waitP s1 (x, y, d) with
        | ok s2 =>
          rw [hwp] at r3
          cases r3.1
        | error e =>
          rw [hwp] at r3
          cases r3
          have hd1 : do1 s1 L1 (x, y, d) = .error e := by unfold do1; rw [if_neg h3, hwp]
          refine ⟨rfl, ?_⟩
          rw [doP_bad hst hx0 hd1]
          refine ⟨by simp only; omega, fun q hq q1 q2 q3 => ?_, rfl⟩
          dsimp only
          rw [r2 q (by omega) q1 (by omega) (by omega)]
          simp (disch := omega) only [upd_ne]
          exact hkeep q hq q1 q2 q3
  obtain rfl : i = l.length := by omega
  have hd : decide ((l.length : Int) < (l.length : Int)) = false := by simp
  rw [List.take_length] at hst
  rw [hst]
  have FX := Fx.mk (And.intro @hag <| And.intro @hh <| And.intro @h9 <| @hd)
  repeat (first | refine v_ ?_ | refine u_ ?_ | refine nl_ ?_ | (refine nz_ ?_; first | (show aWp _ _ _ _ _) | skip) | refine sq_ ?_ | refine rg_ ?_ | refine k_ ?_ | refine ct_ ?_ | refine cf_ ?_ | refine bk_ ?_ | refine sc_ ?_ | (refine sk_ ?_; first | (show aWp _ _ _ _ _) | skip) | (refine ex_ ?_; first | (show aWp _ _ _ _ _) | skip) | refine rt_ ?_)
  refine ⟨rfl, .tup [], by rw [Tryd.results19]; rfl, ?_⟩
  exact ⟨by first | omega | (simp only; omega), hkeep, rfl, w1, a1, hw1, ha1, wk, ak, ⟨by unfold callB; exact bm, bw, ba, n1, n2, n3⟩⟩
end Go.Proofs.YtjidgdfdeckofaaDoor.AE

/- Layer 16: Check; how do is called. -/
namespace Go.Proofs.YtjidgdfdeckofaaDoor.AE
open Go Go.RowKit Go.Proofs Go.Proofs.YtjidgdfdeckofaaDoor
set_option linter.unusedVariables false
set_option linter.unusedSimpArgs false
set_option maxRecDepth 100000
set_option maxHeartbeats 8000000
theorem Sub.weakZ {st : St} {m : Nat} {bm : Blk} (hm : st.h m = some bm) : Sub st ⟨st.tm, upd st.h m (some ⟨bm.sz, bm.es.map fun e => e.map weak1⟩), st.nx, st.df⟩ := by
  refine Sub.re hm rfl (by simp) fun ρ B w0 nt σ act w hr i e' he => ?_
  rw [List.getElem?_map] at he
  obtain ⟨e0, h0, rfl⟩ := Option.map_eq_some_iff.1 he
  refine ⟨e0, h0, by simp, fun j a' ha => ?_⟩
  rw [List.getElem?_map] at ha
  obtain ⟨a0, ha0, rfl⟩ := Option.map_eq_some_iff.1 ha
  exact ⟨a0, ha0, fun h => by cases a0 <;> simp_all [weak1, AV.one], fun v hv => hv.weak1⟩
/-- A new row of acts is told. -/
theorem Sub.acts {st : St} {t r n : Nat} {es : List (List AV)} {l : List Act3} (ht : st.tm t = .hs r 0 n) (hr : st.h r = some ⟨3, es⟩) (he : es.map (fun e => e.map weak1) = actsB l) (hn : l.length = n) : Sub st ⟨upd st.tm t (.sl (actsB l)), upd st.h r none, st.nx, st.df⟩ := by
  subst hn
  refine Sub.trans (Sub.weakZ hr) ?_
  have := Sub.freeze (st := ⟨st.tm, upd st.h r (some ⟨3, es.map fun e => e.map weak1⟩), st.nx, st.df⟩) (t := t) ht (upd_same _ _ _) (by rw [he, actsB_len]; omega)
  have e1 : upd (upd st.h r (some ⟨3, actsB l⟩)) r none = upd st.h r none := by
    funext q
    by_cases e : q = r
    · subst e; rw [upd_same, upd_same]
    · rw [upd_ne _ _ _ e, upd_ne _ _ _ e, upd_ne _ _ _ e]
  simp only [he, List.drop_zero, e1, take_len _ _ (actsB_len l)] at this ⊢
  exact this
/-- A new row is told. -/
theorem Sub.row {st : St} {t r n sz : Nat} {es : List (List AV)} (ht : st.tm t = .hs r 0 n) (hr : st.h r = some ⟨sz, es⟩) (hn : es.length = n) : Sub st ⟨upd st.tm t (.sl es), upd st.h r none, st.nx, st.df⟩ := by
  subst hn
  have := Sub.freeze (t := t) ht hr (by simp)
  simp only [List.drop_zero, List.take_length] at this
  exact this
theorem keepX.trans {h h1 h2 : AHeap} {nx k1 m w a w1 a1 : Nat} (hk : keepX h h1 nx m w a) (hn : nx ≤ k1) (hw : w1 = w ∨ nx ≤ w1) (ha : a1 = a ∨ nx ≤ a1) (h12 : keepX h1 h2 k1 m w1 a1) : keepX h h2 nx m w a := fun q hq q1 q2 q3 => by
  rw [h12 q (by omega) q1 (by omega) (by omega)]
  exact hk q hq q1 q2 q3
end Go.Proofs.YtjidgdfdeckofaaDoor.AE
