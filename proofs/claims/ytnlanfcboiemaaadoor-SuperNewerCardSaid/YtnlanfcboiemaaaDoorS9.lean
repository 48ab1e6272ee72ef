/- Layer 4's laws: SuperPlaces, SuperTells, SuperApart, SuperBack. -/
import Derived.Test.YtnlanfcboiemaaaDoorS5
import Derived.Test.YtnlanfcboiemaaaDoorS8
namespace Go.Proofs.YtnlanfcboiemaaaDoor.AE
open Go Go.RowKit Go.Proofs Go.Proofs.YtnlanfcboiemaaaDoor
set_option linter.unusedVariables false
set_option linter.unusedSimpArgs false
set_option maxRecDepth 100000
set_option maxHeartbeats 8000000
theorem law_num (e : Int) : aFun Tryd.prog 15 [.int .i64 e] (.int .i64 e) := by
  refine aFun_body Tryd.func15 rfl rfl (by simp [Tryd.ntmps15]) fun hreal h nx hfresh => ?_
  rw [Tryd.ntmps15]
  have hi := inI64 ((hreal (.int .i64 e) (by simp)).int)
  have hw : IntKind.i64.wrap e = e := by rw [wrapI] <;> omega
  have FX := Fx.mk (@hw)
  repeat (first | refine v_ ?_ | refine u_ ?_ | refine nl_ ?_ | (refine nz_ ?_; first | (show aWp _ _ _ _ _) | skip) | refine sq_ ?_ | refine rg_ ?_ | refine k_ ?_ | refine ct_ ?_ | refine cf_ ?_ | refine bk_ ?_ | refine sc_ ?_ | (refine sk_ ?_; first | (show aWp _ _ _ _ _) | skip) | (refine ex_ ?_; first | (show aWp _ _ _ _ _) | skip) | refine rt_ ?_)
  (have FX := Fx0; exact end_ Tryd.results15)
theorem enc_fn (s : Sup) (h : s.ok) : aFun Tryd.prog 14 [s.av] (.tup [.sl (numB .u8 s.sector), .int .i64 0]) := (super_Encode s h).fn_tup
theorem law_alive : aFun Tryd.prog 12 [] (.bool true) := by
  have p1 := super_Places ⟨0, 0, 4, 8, 10, 0, 0⟩
  have o1 : Sup.ok ⟨0, 0, 1, 1, 0, 0, 0⟩ := by decide
  have e1 := enc_fn ⟨0, 0, 1, 1, 0, 0, 0⟩ o1
  have t1 := super_Decode (Sup.sector ⟨0, 0, 1, 1, 0, 0, 0⟩)
  have tv : Sup.toldV (Sup.sector ⟨0, 0, 1, 1, 0, 0, 0⟩) = .tup [.agg [.int .i64 0, .int .i64 0, .int .i64 1, .int .i64 1, .int .i64 0, .int .i64 0, .int .i64 0], .int .i64 0] := by
    unfold Sup.toldV
    rw [Sup.told_sector _ o1]
    rfl
  have pv : Sup.places ⟨0, 0, 4, 8, 10, 0, 0⟩ = .tup [.int .i64 2, .int .i64 6, .int .i64 14, .int .i64 24] := rfl
  rw [tv] at t1
  rw [pv] at p1
  have a1 : Sup.av ⟨0, 0, 4, 8, 10, 0, 0⟩ = .agg [.int .i64 0, .int .i64 0, .int .i64 4, .int .i64 8, .int .i64 10, .int .i64 0, .int .i64 0] := rfl
  have a2 : Sup.av ⟨0, 0, 1, 1, 0, 0, 0⟩ = .agg [.int .i64 0, .int .i64 0, .int .i64 1, .int .i64 1, .int .i64 0, .int .i64 0, .int .i64 0] := rfl
  rw [a1] at p1
  rw [a2] at e1
  have n0 := law_num 0
  have d2 : decide ((2 : Int) = 2) = true := rfl
  have d6 : decide ((6 : Int) = 6) = true := rfl
  have d14 : decide ((14 : Int) = 14) = true := rfl
  have d24 : decide ((24 : Int) = 24) = true := rfl
  have d0 : decide ((0 : Int) = 0) = true := rfl
  have w0 : IntKind.i64.wrap (0 + 0) = 0 := rfl
  refine aFun_body Tryd.func12 rfl rfl (by simp [Tryd.ntmps12]) fun hreal h nx hfresh => ?_
  rw [Tryd.ntmps12]
  have FX := Fx.mk (And.intro @d2 <| And.intro @d6 <| And.intro @d14 <| And.intro @d24 <| And.intro @d0 <| @w0)
  repeat (first | refine v_ ?_ | refine u_ ?_ | refine f_ (p1) fun kf hkf => ?_ | refine f_ (e1) fun kf hkf => ?_ | refine f_ (t1) fun kf hkf => ?_ | refine f_ (n0) fun kf hkf => ?_ | refine nl_ ?_ | (refine nz_ ?_; first | (show aWp _ _ _ _ _) | skip) | refine sq_ ?_ | refine rg_ ?_ | refine k_ ?_ | refine ct_ ?_ | refine cf_ ?_ | refine bk_ ?_ | refine sc_ ?_ | (refine sk_ ?_; first | (show aWp _ _ _ _ _) | skip) | (refine ex_ ?_; first | (show aWp _ _ _ _ _) | skip) | refine rt_ ?_)
  (have FX := Fx0; exact end_ Tryd.results12)
theorem law_Places (s : Sup) : aFun Tryd.prog 3 [s.av] (.bool true) := by
  have p1 := super_Places s
  have p2 := ref04_Places s
  have ck := ref04_Check s
  have al := law_alive
  unfold Sup.places at p1 p2
  unfold Sup.av Sup.cells at p1 p2 ck ⊢
  have d2 : decide ((2 : Int) = 2) = true := rfl
  by_cases hok : s.ok
  · rw [show s.chk = 0 from if_pos hok] at ck
    obtain ⟨g0, g1, g2, g3, g4, g5, g6⟩ := s.ok_iff.1 hok
    have w1 : w64 (2 + s.j) = 2 + s.j := by unfold w64; rw [wrapI] <;> omega
    have w2 : w64 (2 + s.j + s.p) = 2 + s.j + s.p := by unfold w64; rw [wrapI] <;> omega
    have w3 : w64 (2 + s.j + s.p + s.d) = 2 + s.j + s.p + s.d := by unfold w64; rw [wrapI] <;> omega
    rw [w1, w2, w3] at p1 p2
    have v1 : IntKind.i64.wrap (2 + s.j - 2) = s.j := by rw [wrapI] <;> omega
    have v2 : IntKind.i64.wrap (2 + s.j + s.p - (2 + s.j)) = s.p := by rw [wrapI] <;> omega
    have v3 : IntKind.i64.wrap (2 + s.j + s.p + s.d - (2 + s.j + s.p)) = s.d := by rw [wrapI] <;> omega
    have d0 : decide ((0 : Int) = 0) = true := rfl
    refine aFun_body Tryd.func3 rfl rfl (by simp [Tryd.ntmps3]) fun hreal h nx hfresh => ?_
    rw [Tryd.ntmps3]
    have FX := Fx.mk (And.intro @d2 <| And.intro @d0 <| And.intro @v1 <| And.intro @v2 <| And.intro @v3 <| And.intro @decide_true <| And.intro @Bool.not_true <| @Bool.not_false)
    repeat (first | refine v_ ?_ | refine u_ ?_ | refine f_ (p1) fun kf hkf => ?_ | refine f_ (p2) fun kf hkf => ?_ | refine f_ (ck) fun kf hkf => ?_ | refine f_ (al) fun kf hkf => ?_ | refine nl_ ?_ | (refine nz_ ?_; first | (show aWp _ _ _ _ _) | skip) | refine sq_ ?_ | refine rg_ ?_ | refine k_ ?_ | refine ct_ ?_ | refine cf_ ?_ | refine bk_ ?_ | refine sc_ ?_ | (refine sk_ ?_; first | (show aWp _ _ _ _ _) | skip) | (refine ex_ ?_; first | (show aWp _ _ _ _ _) | skip) | refine rt_ ?_)
    (have FX := Fx0; exact end_ Tryd.results3)
  · rw [show s.chk = 4 from if_neg hok] at ck
    have d4 : decide ((4 : Int) = 0) = false := rfl
    refine aFun_body Tryd.func3 rfl rfl (by simp [Tryd.ntmps3]) fun hreal h nx hfresh => ?_
    rw [Tryd.ntmps3]
    have FX := Fx.mk (And.intro @d2 <| And.intro @d4 <| And.intro @decide_true <| And.intro @Bool.not_true <| @Bool.not_false)
    repeat (first | refine v_ ?_ | refine u_ ?_ | refine f_ (p1) fun kf hkf => ?_ | refine f_ (p2) fun kf hkf => ?_ | refine f_ (ck) fun kf hkf => ?_ | refine f_ (al) fun kf hkf => ?_ | refine nl_ ?_ | (refine nz_ ?_; first | (show aWp _ _ _ _ _) | skip) | refine sq_ ?_ | refine rg_ ?_ | refine k_ ?_ | refine ct_ ?_ | refine cf_ ?_ | refine bk_ ?_ | refine sc_ ?_ | (refine sk_ ?_; first | (show aWp _ _ _ _ _) | skip) | (refine ex_ ?_; first | (show aWp _ _ _ _ _) | skip) | refine rt_ ?_)
    (have FX := Fx0; exact end_ Tryd.results3)
theorem Sup.av_eq (s : Sup) : s.av = .agg [.int .i64 s.e, .int .i64 s.v, .int .i64 s.j, .int .i64 s.p, .int .i64 s.d, .int .i64 s.s, .int .i64 s.r] := rfl
theorem law_Tells (s : Sup) (a b : List Int) (ha : a.length ≤ 140737488351232) (hb : b.length ≤ 140737488351232) : aFun Tryd.prog 7 [s.av, .sl (numB .u8 a), .sl (numB .u8 b)] (.bool true) := by
  have ca := (CopyBytes a (by omega)).fn
  have cb := (CopyBytes b (by omega)).fn
  obtain ⟨y, e, en, er, sb, ne, dee⟩ : ∃ y e, aFun Tryd.prog 14 [s.av] (.tup [.sl (numB .u8 y), .int .i64 e]) ∧ aFun Tryd.prog 19 [s.av] (.tup [.sl (numB .u8 y), .int .i64 e]) ∧ aFun Tryd.prog 17 [.sl (numB .u8 y), .sl (numB .u8 y)] (.bool true) ∧ aFun Tryd.prog 15 [.int .i64 e] (.int .i64 e) ∧ decide (e = e) = true := by
    by_cases h1 : s.ok
    · exact ⟨_, _, enc_fn s h1, ref04_Encode s h1, by have := SameBytes s.sector s.sector; rwa [decide_eq_true rfl] at this, law_num _, decide_eq_true rfl⟩
    · exact ⟨[], 4, super_Encode_bad s h1, ref04_Encode_bad s h1, by have := SameBytes [] []; rwa [decide_eq_true rfl] at this, law_num _, decide_eq_true rfl⟩
  have da := super_Decode a
  have db := ref04_Decode a
  have na := super_Newest a b
  have nb := ref04_Newest a b
  have c1 := super_Check s
  have c2 := ref04_Check s
  have sa := SameBytes a a
  have sbb := SameBytes b b
  rw [decide_eq_true rfl] at sa sbb
  have n1 := law_num s.chk
  have al := law_alive
  unfold Sup.toldV at da db
  unfold Sup.newerV at na nb
  obtain ⟨⟨S, g⟩, hS⟩ : ∃ t, Sup.told a = t := ⟨_, rfl⟩
  obtain ⟨⟨T, i, q⟩, hT⟩ : ∃ t, Sup.newer a b = t := ⟨_, rfl⟩
  rw [hS] at da db
  rw [hT] at na nb
  have ng := law_num g
  have nq := law_num q
  simp only [Sup.av_eq] at *
  refine aFun_body Tryd.func7 rfl rfl (by simp [Tryd.ntmps7]) fun hreal h nx hfresh => ?_
  rw [Tryd.ntmps7]
  have FX := Fx.mk (And.intro @decide_true <| And.intro @Bool.not_true <| @Bool.not_false)
  repeat (first | refine v_ ?_ | refine u_ ?_ | refine f_ (ca) fun kf hkf => ?_ | refine f_ (cb) fun kf hkf => ?_ | refine f_ (en) fun kf hkf => ?_ | refine f_ (er) fun kf hkf => ?_ | refine f_ (da) fun kf hkf => ?_ | refine f_ (db) fun kf hkf => ?_ | refine f_ (na) fun kf hkf => ?_ | refine f_ (nb) fun kf hkf => ?_ | refine f_ (sb) fun kf hkf => ?_ | refine f_ (ne) fun kf hkf => ?_ | refine f_ (ng) fun kf hkf => ?_ | refine f_ (nq) fun kf hkf => ?_ | refine nl_ ?_ | (refine nz_ ?_; first | (show aWp _ _ _ _ _) | skip) | refine sq_ ?_ | refine rg_ ?_ | refine k_ ?_ | refine ct_ ?_ | refine cf_ ?_ | refine bk_ ?_ | refine sc_ ?_ | (refine sk_ ?_; first | (show aWp _ _ _ _ _) | skip) | (refine ex_ ?_; first | (show aWp _ _ _ _ _) | skip) | refine rt_ ?_)
  have FX := Fx.mk (@decide_true)
  first | refine keep_ (kp_ 1 <| kp_ 2 <| kp_ 3 <| kp_ 7 <| kp_ 8 <| kp0_) ?_ | refine keepO_ (kp_ 1 <| kp_ 2 <| kp_ 3 <| kp_ 7 <| kp_ 8 <| kp0_) ?_
  have FX := Fx.mk (@decide_true)
  refine W_draw mixed rfl rfl ?_
  repeat (first | refine dq_ ?_ | refine df_ (c1) ?_ | refine df_ (c2) ?_ | refine df_ (n1) ?_ | refine df_ (sa) ?_ | refine df_ (sbb) ?_ | refine df_ (al) ?_ | refine dr_ [nx] ?_ | refine dk_ ?_ | refine dn_ ?_)
  refine fun kd hkd => ?_
  simp only [List.length_cons, List.length_nil] at hkd
  first | (show aWp _ _ _ _ _) | skip
  have FX := Fx0
  repeat (first | refine v_ ?_ | refine u_ ?_ | refine nl_ ?_ | (refine nz_ ?_; first | (show aWp _ _ _ _ _) | skip) | refine sq_ ?_ | refine rg_ ?_ | refine k_ ?_ | refine ct_ ?_ | refine cf_ ?_ | refine bk_ ?_ | refine sc_ ?_ | (refine sk_ ?_; first | (show aWp _ _ _ _ _) | skip) | (refine ex_ ?_; first | (show aWp _ _ _ _ _) | skip) | refine rt_ ?_)
  (have FX := Fx0; exact end_ Tryd.results7)
theorem law_Apart (s t : Sup) : aFun Tryd.prog 5 [s.av, t.av] (.bool true) := by
  have al := law_alive
  have n0 := law_num 0
  have n4 := law_num 4
  have d0 : decide ((0 : Int) = 0) = true := rfl
  have d4 : decide ((4 : Int) = 0) = false := rfl
  have z0 : decide (((0 : Nat) : Int) = 0) = true := rfl
  have z64 : decide (((64 : Nat) : Int) = 0) = false := rfl
  by_cases hs : s.ok
  · have es := enc_fn s hs
    have ls := s.sector_len
    by_cases ht : t.ok
    · have et := enc_fn t ht
      have sb := SameBytes s.sector t.sector
      have hiff : decide (s.sector = t.sector) = (decide (s.e = t.e) && (decide (s.v = t.v) && (decide (s.j = t.j) && (decide (s.p = t.p) && (decide (s.d = t.d) && (decide (s.s = t.s) && decide (s.r = t.r))))))) := by
        by_cases h : s = t
        · subst h; simp
        · have h1 : s.sector ≠ t.sector := fun q => h (by
            have h2 := Sup.told_sector s hs
            rw [q, Sup.told_sector t ht] at h2
            cases h2
            rfl)
          rw [decide_eq_false h1]
          symm
          rw [Bool.eq_false_iff]
          intro q
          simp only [Bool.and_eq_true, decide_eq_true_eq] at q
          obtain ⟨q0, q1, q2, q3, q4, q5, q6⟩ := q
          apply h
          cases s
          cases t
          simp_all
      rw [hiff] at sb
      simp only [Sup.av_eq] at *
      refine aFun_body Tryd.func5 rfl rfl (by simp [Tryd.ntmps5]) fun hreal h nx hfresh => ?_
      rw [Tryd.ntmps5]
      have FX := Fx.mk (And.intro @d0 <| And.intro @decide_true <| And.intro @Bool.not_true <| @Bool.not_false)
      repeat (first | refine v_ ?_ | refine u_ ?_ | refine f_ (al) fun kf hkf => ?_ | refine f_ (es) fun kf hkf => ?_ | refine f_ (et) fun kf hkf => ?_ | refine f_ (n0) fun kf hkf => ?_ | refine f_ (n4) fun kf hkf => ?_ | refine nl_ ?_ | (refine nz_ ?_; first | (show aWp _ _ _ _ _) | skip) | refine sq_ ?_ | refine rg_ ?_ | refine k_ ?_ | refine ct_ ?_ | refine cf_ ?_ | refine bk_ ?_ | refine sc_ ?_ | (refine sk_ ?_; first | (show aWp _ _ _ _ _) | skip) | (refine ex_ ?_; first | (show aWp _ _ _ _ _) | skip) | refine rt_ ?_)
      have FX := Fx.mk (@decide_true)
      refine W_draw mixed rfl rfl ?_
      repeat (first | refine dq_ ?_ | refine df_ (sb) ?_ | refine dr_ [nx, nx + 1] ?_ | refine dk_ ?_ | refine dn_ ?_)
      refine fun kd hkd => ?_
      simp only [List.length_cons, List.length_nil] at hkd
      first | (show aWp _ _ _ _ _) | skip
      have FX := Fx0
      repeat (first | refine v_ ?_ | refine u_ ?_ | refine nl_ ?_ | (refine nz_ ?_; first | (show aWp _ _ _ _ _) | skip) | refine sq_ ?_ | refine rg_ ?_ | refine k_ ?_ | refine ct_ ?_ | refine cf_ ?_ | refine bk_ ?_ | refine sc_ ?_ | (refine sk_ ?_; first | (show aWp _ _ _ _ _) | skip) | (refine ex_ ?_; first | (show aWp _ _ _ _ _) | skip) | refine rt_ ?_)
      (have FX := Fx0; exact end_ Tryd.results5)
    · have et := super_Encode_bad t ht
      simp only [Sup.av_eq] at *
      refine aFun_body Tryd.func5 rfl rfl (by simp [Tryd.ntmps5]) fun hreal h nx hfresh => ?_
      rw [Tryd.ntmps5]
      have FX := Fx.mk (And.intro @d0 <| And.intro @d4 <| And.intro @z0 <| And.intro @z64 <| And.intro @ls <| And.intro @Bool.not_true <| @Bool.not_false)
      repeat (first | refine v_ ?_ | refine u_ ?_ | refine f_ (al) fun kf hkf => ?_ | refine f_ (es) fun kf hkf => ?_ | refine f_ (et) fun kf hkf => ?_ | refine f_ (n0) fun kf hkf => ?_ | refine f_ (n4) fun kf hkf => ?_ | refine nl_ ?_ | (refine nz_ ?_; first | (show aWp _ _ _ _ _) | skip) | refine sq_ ?_ | refine rg_ ?_ | refine k_ ?_ | refine ct_ ?_ | refine cf_ ?_ | refine bk_ ?_ | refine sc_ ?_ | (refine sk_ ?_; first | (show aWp _ _ _ _ _) | skip) | (refine ex_ ?_; first | (show aWp _ _ _ _ _) | skip) | refine rt_ ?_)
      (have FX := Fx0; exact end_ Tryd.results5)
  · have es := super_Encode_bad s hs
    by_cases ht : t.ok
    · have et := enc_fn t ht
      simp only [Sup.av_eq] at *
      refine aFun_body Tryd.func5 rfl rfl (by simp [Tryd.ntmps5]) fun hreal h nx hfresh => ?_
      rw [Tryd.ntmps5]
      have FX := Fx.mk (And.intro @d0 <| And.intro @d4 <| And.intro @z0 <| And.intro @Bool.not_true <| @Bool.not_false)
      repeat (first | refine v_ ?_ | refine u_ ?_ | refine f_ (al) fun kf hkf => ?_ | refine f_ (es) fun kf hkf => ?_ | refine f_ (et) fun kf hkf => ?_ | refine f_ (n0) fun kf hkf => ?_ | refine f_ (n4) fun kf hkf => ?_ | refine nl_ ?_ | (refine nz_ ?_; first | (show aWp _ _ _ _ _) | skip) | refine sq_ ?_ | refine rg_ ?_ | refine k_ ?_ | refine ct_ ?_ | refine cf_ ?_ | refine bk_ ?_ | refine sc_ ?_ | (refine sk_ ?_; first | (show aWp _ _ _ _ _) | skip) | (refine ex_ ?_; first | (show aWp _ _ _ _ _) | skip) | refine rt_ ?_)
      (have FX := Fx0; exact end_ Tryd.results5)
    · have et := super_Encode_bad t ht
      simp only [Sup.av_eq] at *
      refine aFun_body Tryd.func5 rfl rfl (by simp [Tryd.ntmps5]) fun hreal h nx hfresh => ?_
      rw [Tryd.ntmps5]
      have FX := Fx.mk (And.intro @d0 <| And.intro @d4 <| And.intro @z0 <| And.intro @Bool.not_true <| @Bool.not_false)
      repeat (first | refine v_ ?_ | refine u_ ?_ | refine f_ (al) fun kf hkf => ?_ | refine f_ (es) fun kf hkf => ?_ | refine f_ (et) fun kf hkf => ?_ | refine f_ (n0) fun kf hkf => ?_ | refine f_ (n4) fun kf hkf => ?_ | refine nl_ ?_ | (refine nz_ ?_; first | (show aWp _ _ _ _ _) | skip) | refine sq_ ?_ | refine rg_ ?_ | refine k_ ?_ | refine ct_ ?_ | refine cf_ ?_ | refine bk_ ?_ | refine sc_ ?_ | (refine sk_ ?_; first | (show aWp _ _ _ _ _) | skip) | (refine ex_ ?_; first | (show aWp _ _ _ _ _) | skip) | refine rt_ ?_)
      (have FX := Fx0; exact end_ Tryd.results5)
theorem law_Back (s : Sup) (b : List Int) : aFun Tryd.prog 4 [s.av, .sl (numB .u8 b)] (.bool true) := by
  refine fun h nx => aCalls_real fun hreal0 hfr0 => ?_
  have hby := (hreal0 (.sl (numB .u8 b)) (by simp)).BY
  clear hreal0 hfr0
  revert h nx
  show aFun _ _ _ _
  have al := law_alive
  have n0 := law_num 0
  have n4 := law_num 4
  have d0 : decide ((0 : Int) = 0) = true := rfl
  have d4 : decide ((4 : Int) = 0) = false := rfl
  have d64 : decide (((64 : Nat) : Int) = 64) = true := rfl
  have db := super_Decode b
  have ng := law_num (Sup.told b).2
  have zv : Sup.zero.av = .agg [.int .i64 0, .int .i64 0, .int .i64 0, .int .i64 0, .int .i64 0, .int .i64 0, .int .i64 0] := rfl
  unfold Sup.toldV at db
  obtain ⟨y, e, en, nn, hy⟩ : ∃ y e, aFun Tryd.prog 14 [s.av] (.tup [.sl (numB .u8 y), .int .i64 e]) ∧ aFun Tryd.prog 15 [.int .i64 e] (.int .i64 e) ∧ ((decide (e = 0) = true ∧ y.length = 64 ∧ aFun Tryd.prog 16 [.sl (numB .u8 y)] (.tup [s.av, .int .i64 0])) ∨ decide (e = 0) = false) := by
    by_cases h1 : s.ok
    · refine ⟨_, _, enc_fn s h1, law_num _, .inl ⟨rfl, s.sector_len, ?_⟩⟩
      have := super_Decode s.sector
      unfold Sup.toldV at this
      rwa [Sup.told_sector s h1] at this
    · exact ⟨[], 4, super_Encode_bad s h1, law_num _, .inr rfl⟩
  by_cases hg : (Sup.told b).2 = 0
  · obtain ⟨hok, hse⟩ := Sup.sector_told b hby hg
    have et := enc_fn (Sup.told b).1 hok
    rw [hse] at et
    have sb := SameBytes b b
    rw [decide_eq_true rfl] at sb
    rw [hg] at db ng
    rcases hy with ⟨de, ly, dy⟩ | de
    · simp only [Sup.av_eq] at *
      refine aFun_body Tryd.func4 rfl rfl (by simp [Tryd.ntmps4]) fun hreal h nx hfresh => ?_
      rw [Tryd.ntmps4]
      have FX := Fx.mk (And.intro @d0 <| And.intro @d64 <| And.intro @de <| And.intro @ly <| And.intro @decide_true <| And.intro @Bool.not_true <| @Bool.not_false)
      repeat (first | refine v_ ?_ | refine u_ ?_ | refine f_ (al) fun kf hkf => ?_ | refine f_ (en) fun kf hkf => ?_ | refine f_ (nn) fun kf hkf => ?_ | refine f_ (dy) fun kf hkf => ?_ | refine f_ (db) fun kf hkf => ?_ | refine f_ (ng) fun kf hkf => ?_ | refine f_ (n0) fun kf hkf => ?_ | refine f_ (et) fun kf hkf => ?_ | refine f_ (sb) fun kf hkf => ?_ | refine nl_ ?_ | (refine nz_ ?_; first | (show aWp _ _ _ _ _) | skip) | refine sq_ ?_ | refine rg_ ?_ | refine k_ ?_ | refine ct_ ?_ | refine cf_ ?_ | refine bk_ ?_ | refine sc_ ?_ | (refine sk_ ?_; first | (show aWp _ _ _ _ _) | skip) | (refine ex_ ?_; first | (show aWp _ _ _ _ _) | skip) | refine rt_ ?_)
      (have FX := Fx0; exact end_ Tryd.results4)
    · simp only [Sup.av_eq] at *
      refine aFun_body Tryd.func4 rfl rfl (by simp [Tryd.ntmps4]) fun hreal h nx hfresh => ?_
      rw [Tryd.ntmps4]
      have FX := Fx.mk (And.intro @d0 <| And.intro @d64 <| And.intro @de <| And.intro @decide_true <| And.intro @Bool.not_true <| @Bool.not_false)
      repeat (first | refine v_ ?_ | refine u_ ?_ | refine f_ (al) fun kf hkf => ?_ | refine f_ (en) fun kf hkf => ?_ | refine f_ (nn) fun kf hkf => ?_ | refine f_ (db) fun kf hkf => ?_ | refine f_ (ng) fun kf hkf => ?_ | refine f_ (n0) fun kf hkf => ?_ | refine f_ (et) fun kf hkf => ?_ | refine f_ (sb) fun kf hkf => ?_ | refine nl_ ?_ | (refine nz_ ?_; first | (show aWp _ _ _ _ _) | skip) | refine sq_ ?_ | refine rg_ ?_ | refine k_ ?_ | refine ct_ ?_ | refine cf_ ?_ | refine bk_ ?_ | refine sc_ ?_ | (refine sk_ ?_; first | (show aWp _ _ _ _ _) | skip) | (refine ex_ ?_; first | (show aWp _ _ _ _ _) | skip) | refine rt_ ?_)
      (have FX := Fx0; exact end_ Tryd.results4)
  · have dg : decide ((Sup.told b).2 = 0) = false := decide_eq_false hg
    rw [Sup.told_bad hg, zv] at db
    rcases hy with ⟨de, ly, dy⟩ | de
    · simp only [Sup.av_eq] at *
      refine aFun_body Tryd.func4 rfl rfl (by simp [Tryd.ntmps4]) fun hreal h nx hfresh => ?_
      rw [Tryd.ntmps4]
      have FX := Fx.mk (And.intro @d0 <| And.intro @d64 <| And.intro @de <| And.intro @ly <| And.intro @dg <| And.intro @decide_true <| And.intro @Bool.not_true <| @Bool.not_false)
      repeat (first | refine v_ ?_ | refine u_ ?_ | refine f_ (al) fun kf hkf => ?_ | refine f_ (en) fun kf hkf => ?_ | refine f_ (nn) fun kf hkf => ?_ | refine f_ (dy) fun kf hkf => ?_ | refine f_ (db) fun kf hkf => ?_ | refine f_ (ng) fun kf hkf => ?_ | refine f_ (n0) fun kf hkf => ?_ | refine nl_ ?_ | (refine nz_ ?_; first | (show aWp _ _ _ _ _) | skip) | refine sq_ ?_ | refine rg_ ?_ | refine k_ ?_ | refine ct_ ?_ | refine cf_ ?_ | refine bk_ ?_ | refine sc_ ?_ | (refine sk_ ?_; first | (show aWp _ _ _ _ _) | skip) | (refine ex_ ?_; first | (show aWp _ _ _ _ _) | skip) | refine rt_ ?_)
      (have FX := Fx0; exact end_ Tryd.results4)
    · simp only [Sup.av_eq] at *
      refine aFun_body Tryd.func4 rfl rfl (by simp [Tryd.ntmps4]) fun hreal h nx hfresh => ?_
      rw [Tryd.ntmps4]
      have FX := Fx.mk (And.intro @d0 <| And.intro @d64 <| And.intro @de <| And.intro @dg <| And.intro @decide_true <| And.intro @Bool.not_true <| @Bool.not_false)
      repeat (first | refine v_ ?_ | refine u_ ?_ | refine f_ (al) fun kf hkf => ?_ | refine f_ (en) fun kf hkf => ?_ | refine f_ (nn) fun kf hkf => ?_ | refine f_ (db) fun kf hkf => ?_ | refine f_ (ng) fun kf hkf => ?_ | refine f_ (n0) fun kf hkf => ?_ | refine nl_ ?_ | (refine nz_ ?_; first | (show aWp _ _ _ _ _) | skip) | refine sq_ ?_ | refine rg_ ?_ | refine k_ ?_ | refine ct_ ?_ | refine cf_ ?_ | refine bk_ ?_ | refine sc_ ?_ | (refine sk_ ?_; first | (show aWp _ _ _ _ _) | skip) | (refine ex_ ?_; first | (show aWp _ _ _ _ _) | skip) | refine rt_ ?_)
      (have FX := Fx0; exact end_ Tryd.results4)
end Go.Proofs.YtnlanfcboiemaaaDoor.AE
