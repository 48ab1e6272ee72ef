/- Layer 7: read, told. -/
import Derived.Test.YtcnofpoffdjbpaaN4
import Derived.Test.YtcnofpoffdjbpaaG2
import Derived.Test.YtcnofpoffdjbpaaBM
import Derived.Test.YtcnofpoffdjbpaaQ2
namespace Go.Proofs.Ytcnofpoffdjbpaa.AE
open Go Go.RowKit Go.Proofs Go.Proofs.Ytcnofpoffdjbpaa
set_option linter.unusedVariables false
set_option linter.unusedSimpArgs false
set_option maxRecDepth 100000
set_option maxHeartbeats 8000000
theorem read_next (x : List Int) (a n m1 m2 : Nat) (hn : 1 ≤ n ∧ n ≤ 8) (ha : a + n ≤ x.length) (hx : x.length ≤ 1000) {h : AHeap} {nx : Nat} (h1 : h m1 = some ⟨1, [[.sl (numB .u8 x)]]⟩) (h2 : h m2 = some ⟨1, [[.int .i64 (a : Int)]]⟩) :
    aEff Try.prog 46 [.int .i64 (n : Int), .ptr m1 0 0, .ptr m2 0 0] h nx (.int .u64 (gx x a n)) (upd h m2 (some ⟨1, [[.int .i64 ((a + n : Nat) : Int)]]⟩)) := by
  have hg := octets_Get x a n
  rw [getS_gx hn ha] at hg
  refine aEff_body Try.func46 rfl rfl (by simp [Try.ntmps46]) fun hreal hfresh => ⟨?_, ?_⟩
  · intro q hq
    by_cases e : q = m2
    · subst e; rw [hfresh q hq] at h2; cases h2
    · rw [upd_ne _ _ _ e]; exact hfresh q hq
  rw [Try.ntmps46]
  have hw : IntKind.i64.wrap ((a : Int) + n) = ((a + n : Nat) : Int) := by rw [wrapI] <;> omega
  have FX := Fx.mk (And.intro @h1 <| And.intro @h2 <| @hw)
  repeat (first | refine v_ ?_ | refine u_ ?_ | refine f_ (hg) fun kf hkf => ?_ | refine nl_ ?_ | (refine nz_ ?_; first | (show aWp _ _ _ _ _) | skip) | refine sq_ ?_ | refine rg_ ?_ | refine k_ ?_ | refine ct_ ?_ | refine cf_ ?_ | refine bk_ ?_ | refine sc_ ?_ | (refine sk_ ?_; first | (show aWp _ _ _ _ _) | skip) | (refine ex_ ?_; first | (show aWp _ _ _ _ _) | skip) | refine rt_ ?_)
  (have FX := Fx0; exact end_ Try.results46)
theorem read_next8 (x : List Int) (a m1 m2 : Nat) (ha : a + 8 ≤ x.length) (hx : x.length ≤ 1000) {h : AHeap} {nx : Nat} (h1 : h m1 = some ⟨1, [[.sl (numB .u8 x)]]⟩) (h2 : h m2 = some ⟨1, [[.int .i64 (a : Int)]]⟩) :
    aEff Try.prog 46 [.int .i64 8, .ptr m1 0 0, .ptr m2 0 0] h nx (.int .u64 (gx x a 8)) (upd h m2 (some ⟨1, [[.int .i64 ((a + 8 : Nat) : Int)]]⟩)) := read_next x a 8 m1 m2 (by decide) ha hx h1 h2
theorem read_next4 (x : List Int) (a m1 m2 : Nat) (ha : a + 4 ≤ x.length) (hx : x.length ≤ 1000) {h : AHeap} {nx : Nat} (h1 : h m1 = some ⟨1, [[.sl (numB .u8 x)]]⟩) (h2 : h m2 = some ⟨1, [[.int .i64 (a : Int)]]⟩) :
    aEff Try.prog 46 [.int .i64 4, .ptr m1 0 0, .ptr m2 0 0] h nx (.int .u64 (gx x a 4)) (upd h m2 (some ⟨1, [[.int .i64 ((a + 4 : Nat) : Int)]]⟩)) := read_next x a 4 m1 m2 (by decide) ha hx h1 h2
theorem leaf_read (x : List Int) (hx : x.length = 60) (h01 : x.getD 0 0 = 1 ∨ x.getD 0 0 = 2) : aFun Try.prog 32 [.sl (numB .u8 x)] (.agg [.sl (itemB (toldN x).1), .sl (numB .i64 (toldN x).2)]) := by
  obtain ⟨x0, e0⟩ : ∃ c, x[0]? = some c := ⟨_, List.getElem?_eq_getElem (by omega)⟩
  obtain ⟨x1, e1⟩ : ∃ c, x[1]? = some c := ⟨_, List.getElem?_eq_getElem (by omega)⟩
  have g0 := numB_get .u8 x 0 x0 e0
  have g1 := numB_get .u8 x 1 x1 e1
  refine aFun_body Try.func32 rfl rfl (by simp [Try.ntmps32]) fun hreal h nx hfresh => ?_
  rw [Try.ntmps32]
  have hby := (hreal (.sl (numB .u8 x)) (by simp)).BY
  have r0 := hby x0 (List.mem_of_getElem? e0)
  have r1 := hby x1 (List.mem_of_getElem? e1)
  have w0 : IntKind.i64.wrap x0 = x0 := by rw [wrapI] <;> omega
  have w1 : IntKind.i64.wrap x1 = x1 := by rw [wrapI] <;> omega
  have hM : tM x ≤ 3 := by unfold tM; omega
  have hm : (if 3 < x1 then 3 else x1) = ((tM x : Nat) : Int) := by
    unfold tM
    rw [List.getD_eq_getElem?_getD, e1]
    simp only [Option.getD_some]
    split <;> omega
  have hT0 := tK1_0 x
  have FX := Fx0
  repeat (first | refine v_ ?_ | refine u_ ?_ | refine nl_ ?_ | (refine nz_ ?_; first | (show aWp _ _ _ _ _) | skip) | refine sq_ ?_ | refine rg_ ?_ | refine k_ ?_ | refine ct_ ?_ | refine cf_ ?_ | refine bk_ ?_ | refine sc_ ?_ | (refine sk_ ?_; first | (show aWp _ _ _ _ _) | skip) | (refine ex_ ?_; first | (show aWp _ _ _ _ _) | skip) | refine rt_ ?_)
  have FX := Fx.mk (And.intro @e0 <| And.intro @e1 <| And.intro @g0 <| And.intro @g1 <| And.intro @w0 <| And.intro @w1 <| @hm)
  refine W_draw mixed rfl rfl ?_
  repeat (first | refine dq_ ?_ | refine dr_ [nx] ?_ | refine dm_ [nx] ?_ | refine da_ [nx] ?_ | refine ds_ [nx] ?_ | refine dw_ [nx] ?_ | refine dk_ ?_ | refine dn_ ?_)
  refine fun kd hkd => ?_
  simp only [List.length_cons, List.length_nil] at hkd
  first | (show aWp _ _ _ _ _) | skip
  have FX := Fx.mk (@hT0)
  repeat (first | refine v_ ?_ | refine u_ ?_ | refine nl_ ?_ | (refine nz_ ?_; first | (show aWp _ _ _ _ _) | skip) | refine sq_ ?_ | refine rg_ ?_ | refine k_ ?_ | refine ct_ ?_ | refine cf_ ?_ | refine bk_ ?_ | refine sc_ ?_ | (refine sk_ ?_; first | (show aWp _ _ _ _ _) | skip) | (refine ex_ ?_; first | (show aWp _ _ _ _ _) | skip) | refine rt_ ?_)
  refine W_loopK [1, 2, 3, 4, 5, 6, 24] (nx + 1) (fun r tm h q => ∃ i : Nat, i ≤ tM x ∧ r = tM x - i ∧ tm 25 = .int .i64 i ∧ kd + 1 < q ∧ h (nx + 1) = some ⟨2, [[.hs (kd + 1) 0 (tM x), .zs]]⟩ ∧ h kd = some ⟨1, [[.int .i64 ((4 + 8 * i : Nat) : Int)]]⟩ ∧ h (kd + 1) = some ⟨2, itemB (tK1 x i)⟩) (tM x) (by omega) ⟨0, Nat.zero_le _, rfl, rfl, by omega, by (have FX := Fx0; exact cl_), by (have FX := Fx0; exact cl_), by (have FX := Fx.mk (@hT0); exact cl_)⟩ ?_
  rintro r tm' h' k' ⟨i, hi, rfl, h25, hk3, b1, b2, b3⟩ hag hh hk'
  have hbox : h' nx = some ⟨1, [[.sl (numB .u8 x)]]⟩ := by rw [hh nx (by omega)]; (have FX := Fx0; exact cl_)
  by_cases hlt : i < tM x
  · have hd : decide ((i : Int) < (tM x : Int)) = true := decide_eq_true (by omega)
    have hw : IntKind.i64.wrap (i + 1) = ((i + 1 : Nat) : Int) := by rw [wrapI] <;> omega
    have t1 := tK1_len x i
    have t2 := tK1_get x i hlt
    have t3 := tK1_set x i hlt
    have t4 := itemB_len (tK1 x i)
    have t5 : 4 + 8 * (i + 1) = 4 + 8 * i + 8 := by omega
    have FX := Fx.mk (And.intro @hag <| And.intro @h25 <| And.intro @hh <| And.intro @hd <| And.intro @hw <| And.intro @b1 <| And.intro @b2 <| And.intro @b3 <| @hbox)
    repeat (first | refine v_ ?_ | refine u_ ?_ | refine nl_ ?_ | (refine nz_ ?_; first | (show aWp _ _ _ _ _) | skip) | refine sq_ ?_ | refine rg_ ?_ | refine k_ ?_ | refine ct_ ?_ | refine cf_ ?_ | refine bk_ ?_ | refine sc_ ?_ | (refine sk_ ?_; first | (show aWp _ _ _ _ _) | skip) | (refine ex_ ?_; first | (show aWp _ _ _ _ _) | skip) | refine rt_ ?_)
    have FX := Fx.mk (And.intro @hag <| And.intro @h25 <| And.intro @hh <| And.intro @hd <| And.intro @hw <| And.intro @b1 <| And.intro @b2 <| And.intro @b3 <| And.intro @hbox <| And.intro @t1 <| And.intro @t2 <| And.intro @t3 <| @t4)
    refine W_draw mixed rfl rfl ?_
    repeat (first | refine dq_ ?_ | (refine D_c [nx,kd] (by exact cl_) (by simp only [WS]) (fun g q_ hg => by simp only [RdEq] at hg; exact (read_next8 x (4 + 8 * i) nx kd (by omega) (by omega)) (by first | rfl | (simp (disch := first | rfl | decide | omega | assumption | (simp only [LL]; omega)) only [WS, NB, WY, FX.out, hg]; first | done | rfl)) (by first | rfl | (simp (disch := first | rfl | decide | omega | assumption | (simp only [LL]; omega)) only [WS, NB, WY, FX.out, hg]; first | done | rfl))) ?_) | refine dr_ [nx, nx + 1, kd + 1] ?_ | refine dm_ [nx, nx + 1, kd + 1] ?_ | refine da_ [nx, nx + 1, kd + 1] ?_ | refine ds_ [nx, nx + 1, kd + 1] ?_ | refine dw_ [nx, nx + 1, kd + 1] ?_ | refine dk_ ?_ | refine dn_ ?_)
    refine fun kd hkd => ?_
    simp only [List.length_cons, List.length_nil] at hkd
    first | (show aWp _ _ _ _ _) | skip
    have FX := Fx.mk (And.intro @hag <| And.intro @h25 <| And.intro @hh <| @hw)
    repeat (first | refine v_ ?_ | refine u_ ?_ | refine nl_ ?_ | (refine nz_ ?_; first | (show aWp _ _ _ _ _) | skip) | refine sq_ ?_ | refine rg_ ?_ | refine k_ ?_ | refine ct_ ?_ | refine cf_ ?_ | refine bk_ ?_ | refine sc_ ?_ | (refine sk_ ?_; first | (show aWp _ _ _ _ _) | skip) | (refine ex_ ?_; first | (show aWp _ _ _ _ _) | skip) | refine rt_ ?_)
    refine ⟨tM x - (i + 1), by omega, ⟨i + 1, by omega, rfl, ?_, by simp only; omega, ?_, ?_, ?_⟩, ?_, ?_, by simp only; omega, rfl⟩
    · (have FX := Fx0; exact cl_)
    · (have FX := Fx.mk (@b1); exact cl_)
    · (have FX := Fx.mk (@t5); exact cl_)
    · (have FX := Fx0; exact cl_)
    · repeat (refine KAgree.upd rfl ?_)
      first | exact KAgree.refl _ _ | exact hag
    · exact (by have FX := Fx.mk (@hh); exact ha_)
  obtain rfl : i = tM x := by omega
  have hd : decide ((tM x : Int) < (tM x : Int)) = false := by simp
  rw [tK1_all] at b3
  rcases h01 with h01 | h01
  · have hk1 : x0 = 1 := by rw [List.getD_eq_getElem?_getD, e0] at h01; exact h01
    have ht : toldN x = (tK2 x (tM x), []) := if_pos h01
    have d1 : decide ((x0 : Int) = 1) = true := decide_eq_true hk1
    rw [ht]
    have FX := Fx.mk (And.intro @hag <| And.intro @h25 <| And.intro @hh <| And.intro @hd <| And.intro @d1 <| And.intro @b1 <| And.intro @b2 <| And.intro @b3 <| @hbox)
    repeat (first | refine v_ ?_ | refine u_ ?_ | refine nl_ ?_ | (refine nz_ ?_; first | (show aWp _ _ _ _ _) | skip) | refine sq_ ?_ | refine rg_ ?_ | refine k_ ?_ | refine ct_ ?_ | refine cf_ ?_ | refine bk_ ?_ | refine sc_ ?_ | (refine sk_ ?_; first | (show aWp _ _ _ _ _) | skip) | (refine ex_ ?_; first | (show aWp _ _ _ _ _) | skip) | refine rt_ ?_)
    refine W_loopK [1, 2, 3, 4, 5, 6, 40] (nx + 1) (fun r tm h q => ∃ i : Nat, i ≤ tM x ∧ r = tM x - i ∧ tm 41 = .int .i64 i ∧ kd + 1 < q ∧ h (nx + 1) = some ⟨2, [[.hs (kd + 1) 0 (tM x), .zs]]⟩ ∧ h kd = some ⟨1, [[.int .i64 ((4 + 8 * tM x + 8 * i : Nat) : Int)]]⟩ ∧ h (kd + 1) = some ⟨2, itemB (tK2 x i)⟩) (tM x) (by omega) ⟨0, Nat.zero_le _, rfl, rfl, by omega, by (have FX := Fx.mk (@b1); exact cl_), by (have FX := Fx.mk (@b2); exact cl_), by (have FX := Fx.mk (@b3); exact cl_)⟩ ?_
    rintro r tm2 h2 k2 ⟨i, hi2, rfl, h41, hk4, c1, c2, c3⟩ hag2 hh2 hk2
    have hbox2 : h2 nx = some ⟨1, [[.sl (numB .u8 x)]]⟩ := by rw [hh2 nx (by omega), hbox]
    by_cases hlt : i < tM x
    · have hd : decide ((i : Int) < (tM x : Int)) = true := decide_eq_true (by omega)
      have hw : IntKind.i64.wrap (i + 1) = ((i + 1 : Nat) : Int) := by rw [wrapI] <;> omega
      have t1 := tK2_len x i
      have t2 := tK2_get x i hlt
      have t3 := tK2_set x i hlt
      have t4 := itemB_len (tK2 x i)
      have t5 : 4 + 8 * tM x + 8 * (i + 1) = 4 + 8 * tM x + 8 * i + 8 := by omega
      have FX := Fx.mk (And.intro @hag2 <| And.intro @hag <| And.intro @h41 <| And.intro @hh2 <| And.intro @hh <| And.intro @hd <| And.intro @hw <| And.intro @c1 <| And.intro @c2 <| And.intro @c3 <| @hbox2)
      repeat (first | refine v_ ?_ | refine u_ ?_ | refine nl_ ?_ | (refine nz_ ?_; first | (show aWp _ _ _ _ _) | skip) | refine sq_ ?_ | refine rg_ ?_ | refine k_ ?_ | refine ct_ ?_ | refine cf_ ?_ | refine bk_ ?_ | refine sc_ ?_ | (refine sk_ ?_; first | (show aWp _ _ _ _ _) | skip) | (refine ex_ ?_; first | (show aWp _ _ _ _ _) | skip) | refine rt_ ?_)
      have FX := Fx.mk (And.intro @hag2 <| And.intro @hag <| And.intro @h41 <| And.intro @hh2 <| And.intro @hh <| And.intro @hd <| And.intro @hw <| And.intro @c1 <| And.intro @c2 <| And.intro @c3 <| And.intro @hbox2 <| And.intro @t1 <| And.intro @t2 <| And.intro @t3 <| @t4)
      refine W_draw mixed rfl rfl ?_
      repeat (first | refine dq_ ?_ | (refine D_c [nx,kd] (by exact cl_) (by simp only [WS]) (fun g q_ hg => by simp only [RdEq] at hg; exact (read_next8 x (4 + 8 * tM x + 8 * i) nx kd (by omega) (by omega)) (by first | rfl | (simp (disch := first | rfl | decide | omega | assumption | (simp only [LL]; omega)) only [WS, NB, WY, FX.out, hg]; first | done | rfl)) (by first | rfl | (simp (disch := first | rfl | decide | omega | assumption | (simp only [LL]; omega)) only [WS, NB, WY, FX.out, hg]; first | done | rfl))) ?_) | refine dr_ [nx, nx + 1, kd + 1] ?_ | refine dm_ [nx, nx + 1, kd + 1] ?_ | refine da_ [nx, nx + 1, kd + 1] ?_ | refine ds_ [nx, nx + 1, kd + 1] ?_ | refine dw_ [nx, nx + 1, kd + 1] ?_ | refine dk_ ?_ | refine dn_ ?_)
      refine fun kd hkd => ?_
      simp only [List.length_cons, List.length_nil] at hkd
      first | (show aWp _ _ _ _ _) | skip
      have FX := Fx.mk (And.intro @hag2 <| And.intro @hag <| And.intro @h41 <| And.intro @hh2 <| And.intro @hh <| @hw)
      repeat (first | refine v_ ?_ | refine u_ ?_ | refine nl_ ?_ | (refine nz_ ?_; first | (show aWp _ _ _ _ _) | skip) | refine sq_ ?_ | refine rg_ ?_ | refine k_ ?_ | refine ct_ ?_ | refine cf_ ?_ | refine bk_ ?_ | refine sc_ ?_ | (refine sk_ ?_; first | (show aWp _ _ _ _ _) | skip) | (refine ex_ ?_; first | (show aWp _ _ _ _ _) | skip) | refine rt_ ?_)
      refine ⟨tM x - (i + 1), by omega, ⟨i + 1, by omega, rfl, ?_, by simp only; omega, ?_, ?_, ?_⟩, ?_, ?_, by simp only; omega, rfl⟩
      · (have FX := Fx0; exact cl_)
      · (have FX := Fx.mk (@c1); exact cl_)
      · (have FX := Fx.mk (@t5); exact cl_)
      · (have FX := Fx0; exact cl_)
      · repeat (refine KAgree.upd rfl ?_)
        exact hag2
      · exact (by have FX := Fx.mk (@hh2); exact ha_)
    obtain rfl : i = tM x := by omega
    have hd : decide ((tM x : Int) < (tM x : Int)) = false := by simp
    have q1 : (itemB (tK2 x (tM x))).length = tM x := by rw [itemB_len, tK2_len]
    have q2 := take_len _ _ q1
    have FX := Fx.mk (And.intro @hag2 <| And.intro @hag <| And.intro @h41 <| And.intro @hh2 <| And.intro @hh <| And.intro @hd <| And.intro @c1 <| And.intro @c2 <| And.intro @c3 <| @hbox2)
    repeat (first | refine v_ ?_ | refine u_ ?_ | refine nl_ ?_ | (refine nz_ ?_; first | (show aWp _ _ _ _ _) | skip) | refine sq_ ?_ | refine rg_ ?_ | refine k_ ?_ | refine ct_ ?_ | refine cf_ ?_ | refine bk_ ?_ | refine sc_ ?_ | (refine sk_ ?_; first | (show aWp _ _ _ _ _) | skip) | (refine ex_ ?_; first | (show aWp _ _ _ _ _) | skip) | refine rt_ ?_)
    (have FX := Fx.mk (And.intro @hag2 <| And.intro @hag <| And.intro @hh2 <| And.intro @hh <| And.intro @c1 <| And.intro @c3 <| And.intro @q1 <| @q2); exact end_ Try.results32)
  · have hk1 : x0 = 2 := by rw [List.getD_eq_getElem?_getD, e0] at h01; exact h01
    have d1 : decide ((x0 : Int) = 1) = false := decide_eq_false (by omega)
    have ht : toldN x = (tK2 x 0, tKd x (tM x + 1)) := if_neg (by omega)
    have hw1 : IntKind.i64.wrap ((tM x : Int) + 1) = ((tM x + 1 : Nat) : Int) := by rw [wrapI] <;> omega
    rw [ht]
    have FX := Fx.mk (And.intro @hag <| And.intro @h25 <| And.intro @hh <| And.intro @hd <| And.intro @d1 <| And.intro @b1 <| And.intro @b2 <| And.intro @b3 <| And.intro @hbox <| @hw1)
    repeat (first | refine v_ ?_ | refine u_ ?_ | refine nl_ ?_ | (refine nz_ ?_; first | (show aWp _ _ _ _ _) | skip) | refine sq_ ?_ | refine rg_ ?_ | refine k_ ?_ | refine ct_ ?_ | refine cf_ ?_ | refine bk_ ?_ | refine sc_ ?_ | (refine sk_ ?_; first | (show aWp _ _ _ _ _) | skip) | (refine ex_ ?_; first | (show aWp _ _ _ _ _) | skip) | refine rt_ ?_)
    refine W_loopK [1, 2, 3, 4, 5, 6, 54] (nx + 1) (fun r tm h q => ∃ i : Nat, i ≤ tM x + 1 ∧ r = tM x + 1 - i ∧ tm 55 = .int .i64 i ∧ kd + 1 < q ∧ h kd = some ⟨1, [[.int .i64 ((4 + 8 * tM x + 4 * i : Nat) : Int)]]⟩ ∧ h (kd + 1) = some ⟨2, itemB (tK2 x 0)⟩ ∧ ((h (nx + 1) = some ⟨2, [[.hs (kd + 1) 0 (tM x), .zs]]⟩ ∧ i = 0) ∨ ∃ m, h (nx + 1) = some ⟨2, [[.hs (kd + 1) 0 (tM x), .hs m 0 i]]⟩ ∧ kd + 1 < m ∧ m < q ∧ h m = some ⟨1, numB .i64 (tKd x i)⟩)) (tM x + 1) (by omega) ⟨0, Nat.zero_le _, rfl, rfl, by omega, by (have FX := Fx.mk (@b2); exact cl_), by (have FX := Fx.mk (@b3); exact cl_), .inl ⟨by (have FX := Fx.mk (@b1); exact cl_), rfl⟩⟩ ?_
    rintro r tm2 h2 k2 ⟨i, hi2, rfl, h55, hk4, c2, c3, hc⟩ hag2 hh2 hk2
    have hbox2 : h2 nx = some ⟨1, [[.sl (numB .u8 x)]]⟩ := by rw [hh2 nx (by omega), hbox]
    by_cases hlt : i < tM x + 1
    · have hd : decide ((i : Int) < ((tM x + 1 : Nat) : Int)) = true := decide_eq_true (by omega)
      have hw : IntKind.i64.wrap (i + 1) = ((i + 1 : Nat) : Int) := by rw [wrapI] <;> omega
      have t5 : 4 + 8 * tM x + 4 * (i + 1) = 4 + 8 * tM x + 4 * i + 4 := by omega
      have t6 := tKd_step x i
      have t7 := gx_range4 x (4 + 8 * tM x + 4 * i)
      have hwx : IntKind.i64.wrap (gx x (4 + 8 * tM x + 4 * i) 4) = gx x (4 + 8 * tM x + 4 * i) 4 := by rw [wrapI] <;> omega
      have t1 := tKd_len x i
      have t2 := take_len _ _ t1
      rcases hc with ⟨c1, rfl⟩ | ⟨m, c1, m1, m2, m3⟩
      · have t8 : tKd x (0 + 1) = [gx x (4 + 8 * tM x) 4] := rfl
        have t9 : tKd x 1 = [gx x (4 + 8 * tM x) 4] := rfl
        have hw0 : IntKind.i64.wrap (gx x (4 + 8 * tM x) 4) = gx x (4 + 8 * tM x) 4 := hwx
        have t50 : 4 + 8 * tM x + 4 * (0 + 1) = 4 + 8 * tM x + 4 := by omega
        have FX := Fx.mk (And.intro @hag2 <| And.intro @hag <| And.intro @h55 <| And.intro @hh2 <| And.intro @hh <| And.intro @hd <| And.intro @hw <| And.intro @c1 <| And.intro @c2 <| And.intro @c3 <| @hbox2)
        repeat (first | refine v_ ?_ | refine u_ ?_ | refine nl_ ?_ | (refine nz_ ?_; first | (show aWp _ _ _ _ _) | skip) | refine sq_ ?_ | refine rg_ ?_ | refine k_ ?_ | refine ct_ ?_ | refine cf_ ?_ | refine bk_ ?_ | refine sc_ ?_ | (refine sk_ ?_; first | (show aWp _ _ _ _ _) | skip) | (refine ex_ ?_; first | (show aWp _ _ _ _ _) | skip) | refine rt_ ?_)
        have FX := Fx.mk (And.intro @hag2 <| And.intro @hag <| And.intro @h55 <| And.intro @hh2 <| And.intro @hh <| And.intro @hd <| And.intro @hw <| And.intro @c1 <| And.intro @c2 <| And.intro @c3 <| And.intro @hbox2 <| @hw0)
        refine W_draw mixed rfl rfl ?_
        repeat (first | refine dq_ ?_ | (refine D_c [nx,kd] (by exact cl_) (by simp only [WS]) (fun g q_ hg => by simp only [RdEq] at hg; exact (read_next4 x (4 + 8 * tM x + 4 * 0) nx kd (by omega) (by omega)) (by first | rfl | (simp (disch := first | rfl | decide | omega | assumption | (simp only [LL]; omega)) only [WS, NB, WY, FX.out, hg]; first | done | rfl)) (by first | rfl | (simp (disch := first | rfl | decide | omega | assumption | (simp only [LL]; omega)) only [WS, NB, WY, FX.out, hg]; first | done | rfl))) ?_) | refine dr_ [nx, nx + 1] ?_ | refine dm_ [k2 + (1 + 1 + 1 + 1 + 1)] ?_ | refine da_ [k2 + (1 + 1 + 1 + 1 + 1)] ?_ | refine ds_ [nx, nx + 1] ?_ | refine ds_ [k2 + (1 + 1 + 1 + 1 + 1)] ?_ | refine dw_ [nx, nx + 1] ?_ | refine dk_ ?_ | refine dn_ ?_)
        refine fun kd hkd => ?_
        simp only [List.length_cons, List.length_nil] at hkd
        first | (show aWp _ _ _ _ _) | skip
        have FX := Fx.mk (And.intro @hag2 <| And.intro @hag <| And.intro @h55 <| And.intro @hh2 <| And.intro @hh <| @hw)
        repeat (first | refine v_ ?_ | refine u_ ?_ | refine nl_ ?_ | (refine nz_ ?_; first | (show aWp _ _ _ _ _) | skip) | refine sq_ ?_ | refine rg_ ?_ | refine k_ ?_ | refine ct_ ?_ | refine cf_ ?_ | refine bk_ ?_ | refine sc_ ?_ | (refine sk_ ?_; first | (show aWp _ _ _ _ _) | skip) | (refine ex_ ?_; first | (show aWp _ _ _ _ _) | skip) | refine rt_ ?_)
        refine ⟨tM x + 1 - (0 + 1), by omega, ⟨0 + 1, by omega, rfl, ?_, by simp only; omega, ?_, ?_, .inr ⟨k2 + (1 + 1 + 1 + 1 + 1 + 1), ?_, by omega, by simp only; omega, ?_⟩⟩, ?_, ?_, by simp only; omega, rfl⟩
        · (have FX := Fx0; exact cl_)
        · (have FX := Fx.mk (@t50); exact cl_)
        · (have FX := Fx.mk (@c3); exact cl_)
        · (have FX := Fx0; exact cl_)
        · (have FX := Fx.mk (And.intro @t8 <| @t9); exact cl_)
        · repeat (refine KAgree.upd rfl ?_)
          exact hag2
        · exact (by have FX := Fx.mk (@hh2); exact ha_)
      · have FX := Fx.mk (And.intro @hag2 <| And.intro @hag <| And.intro @h55 <| And.intro @hh2 <| And.intro @hh <| And.intro @hd <| And.intro @hw <| And.intro @c1 <| And.intro @c2 <| And.intro @c3 <| @hbox2)
        repeat (first | refine v_ ?_ | refine u_ ?_ | refine nl_ ?_ | (refine nz_ ?_; first | (show aWp _ _ _ _ _) | skip) | refine sq_ ?_ | refine rg_ ?_ | refine k_ ?_ | refine ct_ ?_ | refine cf_ ?_ | refine bk_ ?_ | refine sc_ ?_ | (refine sk_ ?_; first | (show aWp _ _ _ _ _) | skip) | (refine ex_ ?_; first | (show aWp _ _ _ _ _) | skip) | refine rt_ ?_)
        have FX := Fx.mk (And.intro @hag2 <| And.intro @hag <| And.intro @h55 <| And.intro @hh2 <| And.intro @hh <| And.intro @hd <| And.intro @hw <| And.intro @c1 <| And.intro @c2 <| And.intro @c3 <| And.intro @m3 <| And.intro @hbox2 <| And.intro @hwx <| And.intro @t1 <| @t2)
        refine W_draw mixed rfl rfl ?_
        repeat (first | refine dq_ ?_ | (refine D_c [nx,kd] (by exact cl_) (by simp only [WS]) (fun g q_ hg => by simp only [RdEq] at hg; exact (read_next4 x (4 + 8 * tM x + 4 * i) nx kd (by omega) (by omega)) (by first | rfl | (simp (disch := first | rfl | decide | omega | assumption | (simp only [LL]; omega)) only [WS, NB, WY, FX.out, hg]; first | done | rfl)) (by first | rfl | (simp (disch := first | rfl | decide | omega | assumption | (simp only [LL]; omega)) only [WS, NB, WY, FX.out, hg]; first | done | rfl))) ?_) | refine dr_ [nx, nx + 1] ?_ | refine dm_ [m, k2 + (1 + 1 + 1 + 1 + 1)] ?_ | refine da_ [m, k2 + (1 + 1 + 1 + 1 + 1)] ?_ | refine ds_ [nx, nx + 1] ?_ | refine ds_ [m, k2 + (1 + 1 + 1 + 1 + 1)] ?_ | refine dw_ [nx, nx + 1] ?_ | refine dk_ ?_ | refine dn_ ?_)
        refine fun kd hkd => ?_
        simp only [List.length_cons, List.length_nil] at hkd
        first | (show aWp _ _ _ _ _) | skip
        have FX := Fx.mk (And.intro @hag2 <| And.intro @hag <| And.intro @h55 <| And.intro @hh2 <| And.intro @hh <| @hw)
        repeat (first | refine v_ ?_ | refine u_ ?_ | refine nl_ ?_ | (refine nz_ ?_; first | (show aWp _ _ _ _ _) | skip) | refine sq_ ?_ | refine rg_ ?_ | refine k_ ?_ | refine ct_ ?_ | refine cf_ ?_ | refine bk_ ?_ | refine sc_ ?_ | (refine sk_ ?_; first | (show aWp _ _ _ _ _) | skip) | (refine ex_ ?_; first | (show aWp _ _ _ _ _) | skip) | refine rt_ ?_)
        refine ⟨tM x + 1 - (i + 1), by omega, ⟨i + 1, by omega, rfl, ?_, by simp only; omega, ?_, ?_, .inr ⟨k2 + (1 + 1 + 1 + 1 + 1 + 1), ?_, by omega, by simp only; omega, ?_⟩⟩, ?_, ?_, by simp only; omega, rfl⟩
        · (have FX := Fx0; exact cl_)
        · (have FX := Fx.mk (@t5); exact cl_)
        · (have FX := Fx.mk (@c3); exact cl_)
        · (have FX := Fx0; exact cl_)
        · (have FX := Fx.mk (@t6); exact cl_)
        · repeat (refine KAgree.upd rfl ?_)
          exact hag2
        · exact (by have FX := Fx.mk (@hh2); exact ha_)
    obtain rfl : i = tM x + 1 := by omega
    have hd : decide (((tM x + 1 : Nat) : Int) < ((tM x + 1 : Nat) : Int)) = false := by simp
    have q1 : (itemB (tK2 x 0)).length = tM x := by rw [itemB_len, tK2_len]
    have q2 := take_len _ _ q1
    have q3 : (tKd x (tM x + 1)).length = tM x + 1 := tKd_len _ _
    have q4 := take_len _ _ q3
    rcases hc with ⟨c1, h0⟩ | ⟨m, c1, m1, m2, m3⟩
    · exact absurd h0 (by omega)
    have FX := Fx.mk (And.intro @hag2 <| And.intro @hag <| And.intro @h55 <| And.intro @hh2 <| And.intro @hh <| And.intro @hd <| And.intro @c1 <| And.intro @c2 <| And.intro @c3 <| @hbox2)
    repeat (first | refine v_ ?_ | refine u_ ?_ | refine nl_ ?_ | (refine nz_ ?_; first | (show aWp _ _ _ _ _) | skip) | refine sq_ ?_ | refine rg_ ?_ | refine k_ ?_ | refine ct_ ?_ | refine cf_ ?_ | refine bk_ ?_ | refine sc_ ?_ | (refine sk_ ?_; first | (show aWp _ _ _ _ _) | skip) | (refine ex_ ?_; first | (show aWp _ _ _ _ _) | skip) | refine rt_ ?_)
    (have FX := Fx.mk (And.intro @hag2 <| And.intro @hag <| And.intro @hh2 <| And.intro @hh <| And.intro @c1 <| And.intro @c3 <| And.intro @m3 <| And.intro @q1 <| And.intro @q2 <| And.intro @q3 <| @q4); exact end_ Try.results32)
#print axioms leaf_read
end Go.Proofs.Ytcnofpoffdjbpaa.AE
