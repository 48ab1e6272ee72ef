/- Layer 1's law OctetsJoins. -/
import Derived.Test.YthkjahoebkicbaaK1
import Derived.Test.YthkjahoebkicbaaK2
import Derived.Test.YthkjahoebkicbaaC7
namespace Go.Proofs.Ythkjahoebkicbaa.AE
open Go Go.RowKit Go.Proofs Go.Proofs.Ythkjahoebkicbaa
set_option linter.unusedVariables false
set_option linter.unusedSimpArgs false
set_option maxRecDepth 100000
set_option maxHeartbeats 8000000
theorem flat_le : ∀ {ws vs : List Int}, Pl.fits ws vs → (Pl.flat ws vs).length ≤ 8 * ws.length
  | [], [], _ => by simp [Pl.flat]
  | w :: ws, v :: vs, h => by
    obtain ⟨⟨h1, h2, _⟩, h3⟩ := h
    have := flat_le h3
    simp only [Pl.flat, List.length_append, Pl.putI_length, List.length_cons]
    omega
  | [], _ :: _, h => by simp [Pl.fits] at h
  | _ :: _, [], h => by simp [Pl.fits] at h
theorem Pack_any (ws vs : List Int) (hl : ws.length = vs.length) (h64 : ws.length ≤ 64) (hv : ∀ v ∈ vs, 0 ≤ v) : ∃ (A : List Int) (e : Int), (e = 0 ↔ Pl.fits ws vs) ∧ aFun Try.prog 23 [.sl (numB .i64 ws), .sl (numB .u64 vs)] (.tup [.sl (numB .u8 A), .int .i64 e]) := by
  by_cases hf : Pl.fits ws vs
  · by_cases h0 : ws.length = 0
    · obtain rfl : ws = [] := by simpa using h0
      obtain rfl : vs = [] := by simpa using hl.symm
      exact ⟨[], 0, by simp [hf], octets_Pack_nil'⟩
    · exact ⟨_, 0, by simp [hf], (octets_Pack ws vs hf (by omega) h64).fn_tup⟩
  · obtain ⟨e, h1, h2⟩ := octets_Pack_bad ws vs hl h64 hv hf
    exact ⟨[], e, by simp [hf, h1], h2⟩
theorem take_mem {l : List Int} {n : Nat} (h : ∀ v ∈ l, InR .u64 v) : ∀ v ∈ l.take n, 0 ≤ v := fun v hv => (inU64 (h v (List.mem_of_mem_take hv))).1
theorem law_Joins (w v p q : List Int) (hv : ∀ x ∈ v, InR .u64 x) (hq : ∀ x ∈ q, InR .u64 x) : aFun Try.prog 6 [.sl (numB .i64 w), .sl (numB .u64 v), .sl (numB .i64 p), .sl (numB .u64 q)] (.bool true) := by
  have al := law_alive
  have mw : (if (32 : Int) < (w.length : Int) then 32 else (w.length : Int)) = ((min w.length 32 : Nat) : Int) := by split <;> omega
  have mp : (if (32 : Int) < (p.length : Int) then 32 else (p.length : Int)) = ((min p.length 32 : Nat) : Int) := by split <;> omega
  have hM1 : ((min w.length 32 : Nat) : Int) ≤ (w.length : Int) := by omega
  have hM2 : ((min p.length 32 : Nat) : Int) ≤ (p.length : Int) := by omega
  obtain ⟨W, tw⟩ : ∃ W, w.take (min w.length 32) = W := ⟨_, rfl⟩
  obtain ⟨P, tp⟩ : ∃ P, p.take (min p.length 32) = P := ⟨_, rfl⟩
  have hW1 : W.length = min w.length 32 := by rw [← tw]; simp
  have hP1 : P.length = min p.length 32 := by rw [← tp]; simp
  have hW32 : W.length ≤ 32 := by omega
  have hP32 : P.length ≤ 32 := by omega
  generalize min w.length 32 = a at *
  generalize min p.length 32 = b at *
  subst hW1 hP1
  refine aFun_body Try.func6 rfl rfl (by simp [Try.ntmps6]) fun hreal h nx hfresh => ?_
  rw [Try.ntmps6]
  have FX := Fx.mk (@Bool.not_true)
  repeat (first | refine v_ ?_ | refine u_ ?_ | refine f_ (al) fun kf hkf => ?_ | refine nl_ ?_ | (refine nz_ ?_; first | (show aWp _ _ _ _ _) | skip) | refine sq_ ?_ | refine rg_ ?_ | refine k_ ?_ | refine ct_ ?_ | refine cf_ ?_ | refine bk_ ?_ | refine sc_ ?_ | (refine sk_ ?_; first | (show aWp _ _ _ _ _) | skip) | (refine ex_ ?_; first | (show aWp _ _ _ _ _) | skip) | refine rt_ ?_)
  obtain ⟨k0, rfl⟩ : ∃ q, q = kf := ⟨kf, rfl⟩
  have hk0 := hkf
  have FX := Fx.mk (And.intro @mw <| And.intro @mp <| And.intro @hM1 <| And.intro @hM2 <| And.intro @tw <| @tp)
  refine W_draw mixed rfl rfl ?_
  repeat (first | refine dq_ ?_ | refine dr_ [] ?_ | refine dk_ ?_ | refine dn_ ?_)
  refine fun kd hkd => ?_
  simp only [List.length_cons, List.length_nil] at hkd
  first | (show aWp _ _ _ _ _) | skip
  by_cases c1 : v.length < W.length
  · have e1 : decide ((v.length : Int) < (W.length : Int)) = true := decide_eq_true (by omega)
    have FX := Fx.mk (@e1)
    repeat (first | refine v_ ?_ | refine u_ ?_ | refine nl_ ?_ | (refine nz_ ?_; first | (show aWp _ _ _ _ _) | skip) | refine sq_ ?_ | refine rg_ ?_ | refine k_ ?_ | refine ct_ ?_ | refine cf_ ?_ | refine bk_ ?_ | refine sc_ ?_ | (refine sk_ ?_; first | (show aWp _ _ _ _ _) | skip) | (refine ex_ ?_; first | (show aWp _ _ _ _ _) | skip) | refine rt_ ?_)
    (have FX := Fx0; exact end_ Try.results6)
  have e1 : decide ((v.length : Int) < (W.length : Int)) = false := decide_eq_false (by omega)
  by_cases c2 : q.length < P.length
  · have e2 : decide ((q.length : Int) < (P.length : Int)) = true := decide_eq_true (by omega)
    have FX := Fx.mk (And.intro @e1 <| @e2)
    repeat (first | refine v_ ?_ | refine u_ ?_ | refine nl_ ?_ | (refine nz_ ?_; first | (show aWp _ _ _ _ _) | skip) | refine sq_ ?_ | refine rg_ ?_ | refine k_ ?_ | refine ct_ ?_ | refine cf_ ?_ | refine bk_ ?_ | refine sc_ ?_ | (refine sk_ ?_; first | (show aWp _ _ _ _ _) | skip) | (refine ex_ ?_; first | (show aWp _ _ _ _ _) | skip) | refine rt_ ?_)
    (have FX := Fx0; exact end_ Try.results6)
  have e2 : decide ((q.length : Int) < (P.length : Int)) = false := decide_eq_false (by omega)
  have hv0 := take_mem (n := W.length) hv
  have hq0 := take_mem (n := P.length) hq
  have hVl : (v.take W.length).length = W.length := by simp; omega
  have hQl : (q.take P.length).length = P.length := by simp; omega
  have m1 : (W.length : Int) ≤ (v.length : Int) := by omega
  have m2 : (P.length : Int) ≤ (q.length : Int) := by omega
  have FX := Fx.mk (And.intro @e1 <| @e2)
  repeat (first | refine v_ ?_ | refine u_ ?_ | refine nl_ ?_ | (refine nz_ ?_; first | (show aWp _ _ _ _ _) | skip) | refine sq_ ?_ | refine rg_ ?_ | refine k_ ?_ | refine ct_ ?_ | refine cf_ ?_ | refine bk_ ?_ | refine sc_ ?_ | (refine sk_ ?_; first | (show aWp _ _ _ _ _) | skip) | (refine ex_ ?_; first | (show aWp _ _ _ _ _) | skip) | refine rt_ ?_)
  have FX := Fx.mk (And.intro @m1 <| @m2)
  refine W_draw mixed rfl rfl ?_
  repeat (first | refine dq_ ?_ | refine dr_ [] ?_ | refine dk_ ?_ | refine dn_ ?_)
  refine fun kd hkd => ?_
  simp only [List.length_cons, List.length_nil] at hkd
  first | (show aWp _ _ _ _ _) | skip
  clear tw tp
  generalize v.take W.length = V at *
  generalize q.take P.length = Q at *
  have fa := fits_append (ws := W) (vs := V) (ps := P) (qs := Q) hVl.symm
  have ff := flat_append (ws := W) (vs := V) (ps := P) (qs := Q) hVl.symm
  have hJl : (W ++ P).length = (V ++ Q).length := by simp [hVl, hQl]
  have hJ0 : ∀ x ∈ V ++ Q, 0 ≤ x := fun x hx => (List.mem_append.1 hx).elim (hv0 x) (hq0 x)
  have n0 := law_num 0
  have d0 : decide ((0 : Int) = 0) = true := rfl
  have dz : decide (((0 : Nat) : Int) = 0) = true := rfl
  by_cases hf : Pl.fits W V ∧ Pl.fits P Q
  rotate_left
  · obtain ⟨A, e, he, hA⟩ := Pack_any W V hVl.symm (by omega) hv0
    obtain ⟨B, f, hf2, hB⟩ := Pack_any P Q hQl.symm (by omega) hq0
    obtain ⟨g, hg, hJ⟩ := octets_Pack_bad (W ++ P) (V ++ Q) hJl (by simp; omega) hJ0 (fun x => hf (fa.1 x))
    have ne := law_num e
    have nf := law_num f
    have ng := law_num g
    have dg : decide (g = 0) = false := decide_eq_false hg
    have FX := Fx0
    repeat (first | refine v_ ?_ | refine u_ ?_ | refine f_ (hA) fun kf hkf => ?_ | refine f_ (hB) fun kf hkf => ?_ | refine nl_ ?_ | (refine nz_ ?_; first | (show aWp _ _ _ _ _) | skip) | refine sq_ ?_ | refine rg_ ?_ | refine k_ ?_ | refine ct_ ?_ | refine cf_ ?_ | refine bk_ ?_ | refine sc_ ?_ | (refine sk_ ?_; first | (show aWp _ _ _ _ _) | skip) | (refine ex_ ?_; first | (show aWp _ _ _ _ _) | skip) | refine rt_ ?_)
    have FX := Fx0; refine fz_ 64 ?_
    have FX := Fx0; refine fz_ 69 ?_
    by_cases hw : Pl.fits W V
    · obtain rfl := he.2 hw
      have df : decide (f = 0) = false := decide_eq_false fun x => hf ⟨hw, hf2.1 x⟩
      have FX := Fx.mk (And.intro @Bool.not_true <| And.intro @Bool.not_false <| @decide_true)
      repeat (first | refine v_ ?_ | refine u_ ?_ | refine f_ (hJ) fun kf hkf => ?_ | refine nl_ ?_ | (refine nz_ ?_; first | (show aWp _ _ _ _ _) | skip) | refine sq_ ?_ | refine rg_ ?_ | refine k_ ?_ | refine ct_ ?_ | refine cf_ ?_ | refine bk_ ?_ | refine sc_ ?_ | (refine sk_ ?_; first | (show aWp _ _ _ _ _) | skip) | (refine ex_ ?_; first | (show aWp _ _ _ _ _) | skip) | refine rt_ ?_)
      have FX := Fx.mk (And.intro @d0 <| And.intro @df <| And.intro @dg <| And.intro @dz <| And.intro @Bool.not_true <| @Bool.not_false)
      repeat (first | refine v_ ?_ | refine u_ ?_ | refine f_ (n0) fun kf hkf => ?_ | refine f_ (nf) fun kf hkf => ?_ | refine f_ (ng) fun kf hkf => ?_ | refine nl_ ?_ | (refine nz_ ?_; first | (show aWp _ _ _ _ _) | skip) | refine sq_ ?_ | refine rg_ ?_ | refine k_ ?_ | refine ct_ ?_ | refine cf_ ?_ | refine bk_ ?_ | refine sc_ ?_ | (refine sk_ ?_; first | (show aWp _ _ _ _ _) | skip) | (refine ex_ ?_; first | (show aWp _ _ _ _ _) | skip) | refine rt_ ?_)
      (have FX := Fx0; exact end_ Try.results6)
    · have de : decide (e = 0) = false := decide_eq_false fun x => hw (he.1 x)
      have FX := Fx.mk (And.intro @Bool.not_true <| And.intro @Bool.not_false <| @decide_true)
      repeat (first | refine v_ ?_ | refine u_ ?_ | refine f_ (hJ) fun kf hkf => ?_ | refine nl_ ?_ | (refine nz_ ?_; first | (show aWp _ _ _ _ _) | skip) | refine sq_ ?_ | refine rg_ ?_ | refine k_ ?_ | refine ct_ ?_ | refine cf_ ?_ | refine bk_ ?_ | refine sc_ ?_ | (refine sk_ ?_; first | (show aWp _ _ _ _ _) | skip) | (refine ex_ ?_; first | (show aWp _ _ _ _ _) | skip) | refine rt_ ?_)
      have FX := Fx.mk (And.intro @d0 <| And.intro @de <| And.intro @dg <| And.intro @dz <| And.intro @Bool.not_true <| @Bool.not_false)
      repeat (first | refine v_ ?_ | refine u_ ?_ | refine f_ (ne) fun kf hkf => ?_ | refine f_ (nf) fun kf hkf => ?_ | refine f_ (ng) fun kf hkf => ?_ | refine nl_ ?_ | (refine nz_ ?_; first | (show aWp _ _ _ _ _) | skip) | refine sq_ ?_ | refine rg_ ?_ | refine k_ ?_ | refine ct_ ?_ | refine cf_ ?_ | refine bk_ ?_ | refine sc_ ?_ | (refine sk_ ?_; first | (show aWp _ _ _ _ _) | skip) | (refine ex_ ?_; first | (show aWp _ _ _ _ _) | skip) | refine rt_ ?_)
      (have FX := Fx0; exact end_ Try.results6)
  obtain ⟨hf1, hf2⟩ := hf
  obtain ⟨J, g, hg, hJ⟩ : ∃ (J : List Int) (e : Int), (J = Pl.flat W V ++ Pl.flat P Q ∧ e = 0) ∧ aFun Try.prog 23 [.sl (numB .i64 (W ++ P)), .sl (numB .u64 (V ++ Q))] (.tup [.sl (numB .u8 J), .int .i64 e]) := by
    by_cases h0 : (W ++ P).length = 0
    · obtain ⟨rfl, rfl⟩ : W = [] ∧ P = [] := by simpa using h0
      obtain rfl : V = [] := by simpa using hVl
      obtain rfl : Q = [] := by simpa using hQl
      exact ⟨[], 0, ⟨by simp [Pl.flat], rfl⟩, octets_Pack_nil'⟩
    · exact ⟨_, 0, ⟨ff, rfl⟩, (octets_Pack (W ++ P) (V ++ Q) (fa.2 ⟨hf1, hf2⟩) (by omega) (by simp; omega)).fn_tup⟩
  obtain ⟨hJe, rfl⟩ := hg
  have sb := SameBytes J J
  rw [decide_eq_true rfl] at sb
  have l1 := flat_le hf1
  have l2 := flat_le hf2
  by_cases w0 : W.length = 0
  · obtain rfl : W = [] := by simpa using w0
    obtain rfl : V = [] := by simpa using hVl
    have pn := octets_Pack_nil
    have FX := Fx0
    repeat (first | refine v_ ?_ | refine u_ ?_ | refine f_ (pn) fun kf hkf => ?_ | refine nl_ ?_ | (refine nz_ ?_; first | (show aWp _ _ _ _ _) | skip) | refine sq_ ?_ | refine rg_ ?_ | refine k_ ?_ | refine ct_ ?_ | refine cf_ ?_ | refine bk_ ?_ | refine sc_ ?_ | (refine sk_ ?_; first | (show aWp _ _ _ _ _) | skip) | (refine ex_ ?_; first | (show aWp _ _ _ _ _) | skip) | refine rt_ ?_)
    simp only [List.nil_append, Pl.flat] at hJ hJe
    by_cases p0 : P.length = 0
    · obtain rfl : P = [] := by simpa using p0
      obtain rfl : Q = [] := by simpa using hQl
      obtain rfl : J = [] := by simpa [Pl.flat] using hJe
      have FX := Fx0
      repeat (first | refine v_ ?_ | refine u_ ?_ | refine f_ (pn) fun kf hkf => ?_ | refine nl_ ?_ | (refine nz_ ?_; first | (show aWp _ _ _ _ _) | skip) | refine sq_ ?_ | refine rg_ ?_ | refine k_ ?_ | refine ct_ ?_ | refine cf_ ?_ | refine bk_ ?_ | refine sc_ ?_ | (refine sk_ ?_; first | (show aWp _ _ _ _ _) | skip) | (refine ex_ ?_; first | (show aWp _ _ _ _ _) | skip) | refine rt_ ?_)
      have FX := Fx0; refine fz_ 64 ?_
      have FX := Fx0; refine fz_ 69 ?_
      have FX := Fx.mk (And.intro @d0 <| And.intro @Bool.not_true <| And.intro @Bool.not_false <| @decide_true)
      repeat (first | refine v_ ?_ | refine u_ ?_ | refine f_ (hJ) fun kf hkf => ?_ | refine f_ (n0) fun kf hkf => ?_ | refine nl_ ?_ | (refine nz_ ?_; first | (show aWp _ _ _ _ _) | skip) | refine sq_ ?_ | refine rg_ ?_ | refine k_ ?_ | refine ct_ ?_ | refine cf_ ?_ | refine bk_ ?_ | refine sc_ ?_ | (refine sk_ ?_; first | (show aWp _ _ _ _ _) | skip) | (refine ex_ ?_; first | (show aWp _ _ _ _ _) | skip) | refine rt_ ?_)
      have FX := Fx0; refine fz_ 96 ?_
      have FX := Fx.mk (And.intro @d0 <| And.intro @Bool.not_true <| And.intro @Bool.not_false <| @decide_true)
      repeat (first | refine v_ ?_ | refine u_ ?_ | refine f_ (sb) fun kf hkf => ?_ | refine nl_ ?_ | (refine nz_ ?_; first | (show aWp _ _ _ _ _) | skip) | refine sq_ ?_ | refine rg_ ?_ | refine k_ ?_ | refine ct_ ?_ | refine cf_ ?_ | refine bk_ ?_ | refine sc_ ?_ | (refine sk_ ?_; first | (show aWp _ _ _ _ _) | skip) | (refine ex_ ?_; first | (show aWp _ _ _ _ _) | skip) | refine rt_ ?_)
      (have FX := Fx0; exact end_ Try.results6)
    · have pp := octets_Pack P Q hf2 (by omega) (by omega)
      obtain ⟨B, hB⟩ : ∃ B, Pl.flat P Q = B := ⟨_, rfl⟩
      rw [hB] at pp l2 hJe
      subst hJe
      have FX := Fx0
      repeat (first | refine v_ ?_ | refine u_ ?_ | refine om_ (pp) fun mf kf hmf hkf => ?_ | refine nl_ ?_ | (refine nz_ ?_; first | (show aWp _ _ _ _ _) | skip) | refine sq_ ?_ | refine rg_ ?_ | refine k_ ?_ | refine ct_ ?_ | refine cf_ ?_ | refine bk_ ?_ | refine sc_ ?_ | (refine sk_ ?_; first | (show aWp _ _ _ _ _) | skip) | (refine ex_ ?_; first | (show aWp _ _ _ _ _) | skip) | refine rt_ ?_)
      have FX := Fx0; refine fz_ 64 ?_
      have FX := Fx0; refine fz_ 69 ?_
      have FX := Fx.mk (And.intro @d0 <| And.intro @Bool.not_true <| And.intro @Bool.not_false <| @decide_true)
      repeat (first | refine v_ ?_ | refine u_ ?_ | refine f_ (hJ) fun kf hkf => ?_ | refine f_ (n0) fun kf hkf => ?_ | refine nl_ ?_ | (refine nz_ ?_; first | (show aWp _ _ _ _ _) | skip) | refine sq_ ?_ | refine rg_ ?_ | refine k_ ?_ | refine ct_ ?_ | refine cf_ ?_ | refine bk_ ?_ | refine sc_ ?_ | (refine sk_ ?_; first | (show aWp _ _ _ _ _) | skip) | (refine ex_ ?_; first | (show aWp _ _ _ _ _) | skip) | refine rt_ ?_)
      have FX := Fx0; refine fz_ 96 ?_
      have FX := Fx.mk (And.intro @d0 <| And.intro @Bool.not_true <| And.intro @Bool.not_false <| @decide_true)
      repeat (first | refine v_ ?_ | refine u_ ?_ | refine f_ (sb) fun kf hkf => ?_ | refine nl_ ?_ | (refine nz_ ?_; first | (show aWp _ _ _ _ _) | skip) | refine sq_ ?_ | refine rg_ ?_ | refine k_ ?_ | refine ct_ ?_ | refine cf_ ?_ | refine bk_ ?_ | refine sc_ ?_ | (refine sk_ ?_; first | (show aWp _ _ _ _ _) | skip) | (refine ex_ ?_; first | (show aWp _ _ _ _ _) | skip) | refine rt_ ?_)
      (have FX := Fx0; exact end_ Try.results6)
  · have pw := octets_Pack W V hf1 (by omega) (by omega)
    obtain ⟨A, hA⟩ : ∃ A, Pl.flat W V = A := ⟨_, rfl⟩
    rw [hA] at pw l1 hJe
    have FX := Fx0
    repeat (first | refine v_ ?_ | refine u_ ?_ | refine om_ (pw) fun mf kf hmf hkf => ?_ | refine nl_ ?_ | (refine nz_ ?_; first | (show aWp _ _ _ _ _) | skip) | refine sq_ ?_ | refine rg_ ?_ | refine k_ ?_ | refine ct_ ?_ | refine cf_ ?_ | refine bk_ ?_ | refine sc_ ?_ | (refine sk_ ?_; first | (show aWp _ _ _ _ _) | skip) | (refine ex_ ?_; first | (show aWp _ _ _ _ _) | skip) | refine rt_ ?_)
    obtain ⟨ma, rfl⟩ : ∃ q, q = mf := ⟨mf, rfl⟩
    have hma := hmf
    obtain ⟨ka, rfl⟩ : ∃ q, q = kf := ⟨kf, rfl⟩
    have hka := hkf
    by_cases p0 : P.length = 0
    · obtain rfl : P = [] := by simpa using p0
      obtain rfl : Q = [] := by simpa using hQl
      have pn := octets_Pack_nil
      simp only [List.append_nil, Pl.flat] at hJ hJe
      subst hJe
      have FX := Fx0
      repeat (first | refine v_ ?_ | refine u_ ?_ | refine f_ (pn) fun kf hkf => ?_ | refine nl_ ?_ | (refine nz_ ?_; first | (show aWp _ _ _ _ _) | skip) | refine sq_ ?_ | refine rg_ ?_ | refine k_ ?_ | refine ct_ ?_ | refine cf_ ?_ | refine bk_ ?_ | refine sc_ ?_ | (refine sk_ ?_; first | (show aWp _ _ _ _ _) | skip) | (refine ex_ ?_; first | (show aWp _ _ _ _ _) | skip) | refine rt_ ?_)
      have FX := Fx0; refine fz_ 64 ?_
      have FX := Fx0; refine fz_ 69 ?_
      have FX := Fx.mk (And.intro @d0 <| And.intro @Bool.not_true <| And.intro @Bool.not_false <| @decide_true)
      repeat (first | refine v_ ?_ | refine u_ ?_ | refine f_ (hJ) fun kf hkf => ?_ | refine f_ (n0) fun kf hkf => ?_ | refine nl_ ?_ | (refine nz_ ?_; first | (show aWp _ _ _ _ _) | skip) | refine sq_ ?_ | refine rg_ ?_ | refine k_ ?_ | refine ct_ ?_ | refine cf_ ?_ | refine bk_ ?_ | refine sc_ ?_ | (refine sk_ ?_; first | (show aWp _ _ _ _ _) | skip) | (refine ex_ ?_; first | (show aWp _ _ _ _ _) | skip) | refine rt_ ?_)
      have FX := Fx0; refine fz_ 96 ?_
      have FX := Fx.mk (And.intro @d0 <| And.intro @Bool.not_true <| And.intro @Bool.not_false <| @decide_true)
      repeat (first | refine v_ ?_ | refine u_ ?_ | refine f_ (sb) fun kf hkf => ?_ | refine nl_ ?_ | (refine nz_ ?_; first | (show aWp _ _ _ _ _) | skip) | refine sq_ ?_ | refine rg_ ?_ | refine k_ ?_ | refine ct_ ?_ | refine cf_ ?_ | refine bk_ ?_ | refine sc_ ?_ | (refine sk_ ?_; first | (show aWp _ _ _ _ _) | skip) | (refine ex_ ?_; first | (show aWp _ _ _ _ _) | skip) | refine rt_ ?_)
      (have FX := Fx0; exact end_ Try.results6)
    · have pp := octets_Pack P Q hf2 (by omega) (by omega)
      obtain ⟨B, hB⟩ : ∃ B, Pl.flat P Q = B := ⟨_, rfl⟩
      rw [hB] at pp l2 hJe
      subst hJe
      have FX := Fx0
      repeat (first | refine v_ ?_ | refine u_ ?_ | refine om_ (pp) fun mf kf hmf hkf => ?_ | refine nl_ ?_ | (refine nz_ ?_; first | (show aWp _ _ _ _ _) | skip) | refine sq_ ?_ | refine rg_ ?_ | refine k_ ?_ | refine ct_ ?_ | refine cf_ ?_ | refine bk_ ?_ | refine sc_ ?_ | (refine sk_ ?_; first | (show aWp _ _ _ _ _) | skip) | (refine ex_ ?_; first | (show aWp _ _ _ _ _) | skip) | refine rt_ ?_)
      have FX := Fx0; refine fz_ 64 ?_
      have FX := Fx0; refine fz_ 69 ?_
      have FX := Fx.mk (And.intro @d0 <| And.intro @Bool.not_true <| And.intro @Bool.not_false <| @decide_true)
      repeat (first | refine v_ ?_ | refine u_ ?_ | refine f_ (hJ) fun kf hkf => ?_ | refine f_ (n0) fun kf hkf => ?_ | refine nl_ ?_ | (refine nz_ ?_; first | (show aWp _ _ _ _ _) | skip) | refine sq_ ?_ | refine rg_ ?_ | refine k_ ?_ | refine ct_ ?_ | refine cf_ ?_ | refine bk_ ?_ | refine sc_ ?_ | (refine sk_ ?_; first | (show aWp _ _ _ _ _) | skip) | (refine ex_ ?_; first | (show aWp _ _ _ _ _) | skip) | refine rt_ ?_)
      have FX := Fx0; refine fz_ 96 ?_
      have FX := Fx.mk (And.intro @d0 <| And.intro @Bool.not_true <| And.intro @Bool.not_false <| @decide_true)
      repeat (first | refine v_ ?_ | refine u_ ?_ | refine f_ (sb) fun kf hkf => ?_ | refine nl_ ?_ | (refine nz_ ?_; first | (show aWp _ _ _ _ _) | skip) | refine sq_ ?_ | refine rg_ ?_ | refine k_ ?_ | refine ct_ ?_ | refine cf_ ?_ | refine bk_ ?_ | refine sc_ ?_ | (refine sk_ ?_; first | (show aWp _ _ _ _ _) | skip) | (refine ex_ ?_; first | (show aWp _ _ _ _ _) | skip) | refine rt_ ?_)
      (have FX := Fx0; exact end_ Try.results6)
end Go.Proofs.Ythkjahoebkicbaa.AE
