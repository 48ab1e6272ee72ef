/- Texts H3, H4. -/
import Derived.Test.YtjidgdfdeckofaaDoorV16
/- Layer 3: clones. -/
namespace Go.Proofs.YtjidgdfdeckofaaDoor.AE
open Go Go.RowKit Go.Proofs Go.Proofs.YtjidgdfdeckofaaDoor
set_option linter.unusedVariables false
set_option linter.unusedSimpArgs false
set_option maxRecDepth 100000
set_option maxHeartbeats 8000000
theorem secB_sz (S : List (List Int)) : (secB S).all (fun e => e.length == 1) = true := by simp [secB]
theorem actsB_sz (W : List Act3) : (actsB W).all (fun e => e.length == 3) = true := by simp [actsB, actB]
theorem Clone_oct (l : List (Int)) (hc : l.length ≤ 10000000) : aOwn Tryd.prog 43 [.sl (numB .u8 l)] 1 (numB .u8 l) := by
  have e1 := numB_len .u8 l
  have e2 := num_sz .u8 l
  have e3 : (numB .u8 l).take l.length = numB .u8 l := List.take_of_length_le (by rw [e1]; omega)
  refine aOwn_body Tryd.func43 rfl rfl (by simp [Tryd.ntmps43]) fun hreal h nx hfresh => ?_
  rw [Tryd.ntmps43]
  have FX := Fx0
  repeat (first | refine v_ ?_ | refine u_ ?_ | refine nl_ ?_ | (refine nz_ ?_; first | (show aWp _ _ _ _ _) | skip) | refine sq_ ?_ | refine rg_ ?_ | refine k_ ?_ | refine ct_ ?_ | refine cf_ ?_ | refine bk_ ?_ | refine sc_ ?_ | (refine sk_ ?_; first | (show aWp _ _ _ _ _) | skip) | (refine ex_ ?_; first | (show aWp _ _ _ _ _) | skip) | refine rt_ ?_)
  refine W_isnil (n := l.length) rfl (by first | rfl | (simp (disch := first | rfl | decide | omega | assumption | (simp only [LL]; omega)) only [WS, NB, WY, rowV, e1]; first | done | rfl)) Tryd.underlying40 (fun h0 => ?_) ?_
  · obtain rfl : l = [] := List.eq_nil_of_length_eq_zero h0
    have FX := Fx0
    repeat (first | refine v_ ?_ | refine u_ ?_ | refine nl_ ?_ | (refine nz_ ?_; first | (show aWp _ _ _ _ _) | skip) | refine sq_ ?_ | refine rg_ ?_ | refine k_ ?_ | refine ct_ ?_ | refine cf_ ?_ | refine bk_ ?_ | refine sc_ ?_ | (refine sk_ ?_; first | (show aWp _ _ _ _ _) | skip) | (refine ex_ ?_; first | (show aWp _ _ _ _ _) | skip) | refine rt_ ?_)
    refine W_endOwn (by omega) (by have FX := Fx0; exact ha_) (by rw [Tryd.results43]) (by (have FX := Fx0; exact cr_)) (.inr ⟨rfl, rfl⟩)
  · have FX := Fx.mk (And.intro @e1 <| @e2)
    repeat (first | refine v_ ?_ | refine u_ ?_ | refine nl_ ?_ | (refine nz_ ?_; first | (show aWp _ _ _ _ _) | skip) | refine sq_ ?_ | refine rg_ ?_ | refine k_ ?_ | refine ct_ ?_ | refine cf_ ?_ | refine bk_ ?_ | refine sc_ ?_ | (refine sk_ ?_; first | (show aWp _ _ _ _ _) | skip) | (refine ex_ ?_; first | (show aWp _ _ _ _ _) | skip) | refine rt_ ?_)
    (have FX := Fx.mk (And.intro @e1 <| And.intro @e2 <| @e3); exact endo_ (rest := []) (nx + 1) Tryd.results43)
theorem Clone_sec (l : List (List Int)) (hc : l.length ≤ 10000000) : aOwn Tryd.prog 16 [.sl (secB l)] 1 (secB l) := by
  have e1 := secB_len l
  have e2 := secB_sz l
  have e3 : (secB l).take l.length = secB l := List.take_of_length_le (by rw [e1]; omega)
  refine aOwn_body Tryd.func16 rfl rfl (by simp [Tryd.ntmps16]) fun hreal h nx hfresh => ?_
  rw [Tryd.ntmps16]
  have FX := Fx0
  repeat (first | refine v_ ?_ | refine u_ ?_ | refine nl_ ?_ | (refine nz_ ?_; first | (show aWp _ _ _ _ _) | skip) | refine sq_ ?_ | refine rg_ ?_ | refine k_ ?_ | refine ct_ ?_ | refine cf_ ?_ | refine bk_ ?_ | refine sc_ ?_ | (refine sk_ ?_; first | (show aWp _ _ _ _ _) | skip) | (refine ex_ ?_; first | (show aWp _ _ _ _ _) | skip) | refine rt_ ?_)
  refine W_isnil (n := l.length) rfl (by first | rfl | (simp (disch := first | rfl | decide | omega | assumption | (simp only [LL]; omega)) only [WS, NB, WY, rowV, e1]; first | done | rfl)) Tryd.underlying22 (fun h0 => ?_) ?_
  · obtain rfl : l = [] := List.eq_nil_of_length_eq_zero h0
    have FX := Fx0
    repeat (first | refine v_ ?_ | refine u_ ?_ | refine nl_ ?_ | (refine nz_ ?_; first | (show aWp _ _ _ _ _) | skip) | refine sq_ ?_ | refine rg_ ?_ | refine k_ ?_ | refine ct_ ?_ | refine cf_ ?_ | refine bk_ ?_ | refine sc_ ?_ | (refine sk_ ?_; first | (show aWp _ _ _ _ _) | skip) | (refine ex_ ?_; first | (show aWp _ _ _ _ _) | skip) | refine rt_ ?_)
    refine W_endOwn (by omega) (by have FX := Fx0; exact ha_) (by rw [Tryd.results16]) (by (have FX := Fx0; exact cr_)) (.inr ⟨rfl, rfl⟩)
  · have FX := Fx.mk (And.intro @e1 <| @e2)
    repeat (first | refine v_ ?_ | refine u_ ?_ | refine nl_ ?_ | (refine nz_ ?_; first | (show aWp _ _ _ _ _) | skip) | refine sq_ ?_ | refine rg_ ?_ | refine k_ ?_ | refine ct_ ?_ | refine cf_ ?_ | refine bk_ ?_ | refine sc_ ?_ | (refine sk_ ?_; first | (show aWp _ _ _ _ _) | skip) | (refine ex_ ?_; first | (show aWp _ _ _ _ _) | skip) | refine rt_ ?_)
    (have FX := Fx.mk (And.intro @e1 <| And.intro @e2 <| @e3); exact endo_ (rest := []) (nx + 1) Tryd.results16)
theorem Clone_act (l : List (Act3)) (hc : l.length ≤ 10000000) : aOwn Tryd.prog 65 [.sl (actsB l)] 3 (actsB l) := by
  have e1 := actsB_len l
  have e2 := actsB_sz l
  have e3 : (actsB l).take l.length = actsB l := List.take_of_length_le (by rw [e1]; omega)
  refine aOwn_body Tryd.func65 rfl rfl (by simp [Tryd.ntmps65]) fun hreal h nx hfresh => ?_
  rw [Tryd.ntmps65]
  have FX := Fx0
  repeat (first | refine v_ ?_ | refine u_ ?_ | refine nl_ ?_ | (refine nz_ ?_; first | (show aWp _ _ _ _ _) | skip) | refine sq_ ?_ | refine rg_ ?_ | refine k_ ?_ | refine ct_ ?_ | refine cf_ ?_ | refine bk_ ?_ | refine sc_ ?_ | (refine sk_ ?_; first | (show aWp _ _ _ _ _) | skip) | (refine ex_ ?_; first | (show aWp _ _ _ _ _) | skip) | refine rt_ ?_)
  refine W_isnil (n := l.length) rfl (by first | rfl | (simp (disch := first | rfl | decide | omega | assumption | (simp only [LL]; omega)) only [WS, NB, WY, rowV, e1]; first | done | rfl)) Tryd.underlying23 (fun h0 => ?_) ?_
  · obtain rfl : l = [] := List.eq_nil_of_length_eq_zero h0
    have FX := Fx0
    repeat (first | refine v_ ?_ | refine u_ ?_ | refine nl_ ?_ | (refine nz_ ?_; first | (show aWp _ _ _ _ _) | skip) | refine sq_ ?_ | refine rg_ ?_ | refine k_ ?_ | refine ct_ ?_ | refine cf_ ?_ | refine bk_ ?_ | refine sc_ ?_ | (refine sk_ ?_; first | (show aWp _ _ _ _ _) | skip) | (refine ex_ ?_; first | (show aWp _ _ _ _ _) | skip) | refine rt_ ?_)
    refine W_endOwn (by omega) (by have FX := Fx0; exact ha_) (by rw [Tryd.results65]) (by (have FX := Fx0; exact cr_)) (.inr ⟨rfl, rfl⟩)
  · have FX := Fx.mk (And.intro @e1 <| @e2)
    repeat (first | refine v_ ?_ | refine u_ ?_ | refine nl_ ?_ | (refine nz_ ?_; first | (show aWp _ _ _ _ _) | skip) | refine sq_ ?_ | refine rg_ ?_ | refine k_ ?_ | refine ct_ ?_ | refine cf_ ?_ | refine bk_ ?_ | refine sc_ ?_ | (refine sk_ ?_; first | (show aWp _ _ _ _ _) | skip) | (refine ex_ ?_; first | (show aWp _ _ _ _ _) | skip) | refine rt_ ?_)
    (have FX := Fx.mk (And.intro @e1 <| And.intro @e2 <| @e3); exact endo_ (rest := []) (nx + 1) Tryd.results65)
theorem host_Clone (S : List (List Int)) (W : List Act3) (cap : Int) (hok : okH S W cap) : aOwn2 Tryd.prog 37 [hostV S W cap] (fun a b => .agg [a, b, .int .i64 cap]) 1 (secB S) 3 (actsB W) := by
  have i1 := secB_len S
  have i2 := actsB_len W
  obtain ⟨hcap, hSl, hS, hWl, hW⟩ := hok
  have cs := Clone_sec S (by omega)
  have ca := Clone_act W (by omega)
  unfold hostV
  refine aOwn2_body Tryd.func37 rfl rfl (by simp [Tryd.ntmps37]) fun hreal h nx hfresh => ?_
  rw [Tryd.ntmps37]
  have FX := Fx0
  repeat (first | refine v_ ?_ | refine u_ ?_ | refine nl_ ?_ | (refine nz_ ?_; first | (show aWp _ _ _ _ _) | skip) | refine sq_ ?_ | refine rg_ ?_ | refine k_ ?_ | refine ct_ ?_ | refine cf_ ?_ | refine bk_ ?_ | refine sc_ ?_ | (refine sk_ ?_; first | (show aWp _ _ _ _ _) | skip) | (refine ex_ ?_; first | (show aWp _ _ _ _ _) | skip) | refine rt_ ?_)
  have FX := Fx.mk (And.intro @i1 <| @i2)
  refine W_draw mixed rfl rfl ?_
  repeat (first | refine dq_ ?_ | refine do_ (cs) ?_ | refine do_ (ca) ?_ | refine dr_ [nx] ?_ | refine dm_ [nx] ?_ | refine da_ [nx] ?_ | refine ds_ [nx] ?_ | refine dw_ [nx] ?_ | refine dk_ ?_ | refine dn_ ?_)
  refine fun kd hkd => ?_
  simp only [List.length_cons, List.length_nil] at hkd
  first | (show aWp _ _ _ _ _) | skip
  have FX := Fx.mk (And.intro @i1 <| @i2)
  repeat (first | refine v_ ?_ | refine u_ ?_ | refine nl_ ?_ | (refine nz_ ?_; first | (show aWp _ _ _ _ _) | skip) | refine sq_ ?_ | refine rg_ ?_ | refine k_ ?_ | refine ct_ ?_ | refine cf_ ?_ | refine bk_ ?_ | refine sc_ ?_ | (refine sk_ ?_; first | (show aWp _ _ _ _ _) | skip) | (refine ex_ ?_; first | (show aWp _ _ _ _ _) | skip) | refine rt_ ?_)
  have l1 : (secB S).take S.length = secB S := take_len _ _ i1
  have l2 : (actsB W).take W.length = actsB W := take_len _ _ i2
  obtain ⟨p, hp⟩ : ∃ p, nx + 1 + 1 + (1 + 1) = p := ⟨_, rfl⟩
  obtain ⟨q, hq⟩ : ∃ q, nx + 1 + 1 + (1 + 1 + 1 + 1 + 1) = q := ⟨_, rfl⟩
  rw [hp, hq]
  have hpq : nx + 1 < p ∧ p < q ∧ q < kd := by omega
  refine W_loopK [1, 2, 16, 17] (nx + 2) (fun r tm h k => ∃ i : Nat, i ≤ S.length ∧ r = S.length - i ∧ tm 18 = .int .i64 i ∧ kd ≤ k ∧ h nx = some ⟨3, [[.hs p 0 S.length, .hs q 0 W.length, .int .i64 cap]]⟩ ∧ h p = some ⟨1, secB S⟩ ∧ h q = some ⟨3, actsB W⟩) S.length (by omega) ⟨0, Nat.zero_le _, rfl, rfl, Nat.le_refl _, by (have FX := Fx0; exact cl_), by (have FX := Fx0; exact cl_), by (have FX := Fx0; exact cl_)⟩ ?_
  rintro r tm' h' k' ⟨i, hi, rfl, h18, hk3, b1, b2, b3⟩ hag hh hk'
  by_cases hlt : i < S.length
  · have hd : decide ((i : Int) < (S.length : Int)) = true := decide_eq_true (by omega)
    have hw : IntKind.i64.wrap (i + 1) = ((i + 1 : Nat) : Int) := by rw [wrapI] <;> omega
    obtain ⟨s, hx0⟩ : ∃ a, S[i]? = some a := ⟨S[i], List.getElem?_eq_getElem hlt⟩
    have hx := secB_get S i s hx0
    have hs64 := hS s (List.mem_of_getElem? hx0)
    have co := (Clone_oct s (by omega)).fn
    have hset : (secB S).set i [.sl (numB .u8 s)] = secB S := by
      apply List.ext_getElem?
      intro j
      rw [List.getElem?_set]
      by_cases e : i = j
      · subst e; rw [if_pos rfl, if_pos (by rw [i1]; exact hlt), hx]
      · rw [if_neg e]
    have FX := Fx.mk (And.intro @hag <| And.intro @h18 <| And.intro @hh <| And.intro @hd <| And.intro @hw <| And.intro @hx <| And.intro @b1 <| And.intro @b2 <| And.intro @b3 <| @i1)
    repeat (first | refine v_ ?_ | refine u_ ?_ | refine nl_ ?_ | (refine nz_ ?_; first | (show aWp _ _ _ _ _) | skip) | refine sq_ ?_ | refine rg_ ?_ | refine k_ ?_ | refine ct_ ?_ | refine cf_ ?_ | refine bk_ ?_ | refine sc_ ?_ | (refine sk_ ?_; first | (show aWp _ _ _ _ _) | skip) | (refine ex_ ?_; first | (show aWp _ _ _ _ _) | skip) | refine rt_ ?_)
    have FX := Fx.mk (And.intro @hag <| And.intro @h18 <| And.intro @hh <| And.intro @hd <| And.intro @hw <| And.intro @hx <| And.intro @b1 <| And.intro @b2 <| And.intro @b3 <| And.intro @i1 <| @hset)
    refine W_draw mixed rfl rfl ?_
    repeat (first | refine dq_ ?_ | refine df_ (co) ?_ | refine dr_ [nx, p] ?_ | refine dm_ [nx, p] ?_ | refine da_ [nx, p] ?_ | refine ds_ [nx, p] ?_ | refine dw_ [nx, p] ?_ | refine dk_ ?_ | refine dn_ ?_)
    refine fun kd hkd => ?_
    simp only [List.length_cons, List.length_nil] at hkd
    first | (show aWp _ _ _ _ _) | skip
    have FX := Fx.mk (And.intro @hag <| And.intro @h18 <| And.intro @hh <| @hw)
    repeat (first | refine v_ ?_ | refine u_ ?_ | refine nl_ ?_ | (refine nz_ ?_; first | (show aWp _ _ _ _ _) | skip) | refine sq_ ?_ | refine rg_ ?_ | refine k_ ?_ | refine ct_ ?_ | refine cf_ ?_ | refine bk_ ?_ | refine sc_ ?_ | (refine sk_ ?_; first | (show aWp _ _ _ _ _) | skip) | (refine ex_ ?_; first | (show aWp _ _ _ _ _) | skip) | refine rt_ ?_)
    refine ⟨S.length - (i + 1), by omega, ⟨i + 1, by omega, rfl, ?_, by simp only; omega, ?_, ?_, ?_⟩, ?_, ?_, by simp only; omega, rfl⟩
    · (have FX := Fx0; exact cl_)
    · (have FX := Fx.mk (@b1); exact cl_)
    · (have FX := Fx.mk (@b2); exact cl_)
    · (have FX := Fx.mk (@b3); exact cl_)
    · repeat (refine KAgree.upd rfl ?_)
      first | exact KAgree.refl _ _ | exact hag
    · exact (by have FX := Fx.mk (@hh); exact ha_)
  obtain rfl : i = S.length := by omega
  have hd : decide ((S.length : Int) < (S.length : Int)) = false := by simp
  have FX := Fx.mk (And.intro @hag <| And.intro @h18 <| And.intro @hh <| And.intro @hd <| And.intro @b1 <| And.intro @b2 <| And.intro @b3 <| @i2)
  repeat (first | refine v_ ?_ | refine u_ ?_ | refine nl_ ?_ | (refine nz_ ?_; first | (show aWp _ _ _ _ _) | skip) | refine sq_ ?_ | refine rg_ ?_ | refine k_ ?_ | refine ct_ ?_ | refine cf_ ?_ | refine bk_ ?_ | refine sc_ ?_ | (refine sk_ ?_; first | (show aWp _ _ _ _ _) | skip) | (refine ex_ ?_; first | (show aWp _ _ _ _ _) | skip) | refine rt_ ?_)
  refine W_loopK [1, 2, 31, 32] (nx + 2) (fun r tm h k => ∃ i : Nat, i ≤ W.length ∧ r = W.length - i ∧ tm 33 = .int .i64 i ∧ kd ≤ k ∧ h nx = some ⟨3, [[.hs p 0 S.length, .hs q 0 W.length, .int .i64 cap]]⟩ ∧ h p = some ⟨1, secB S⟩ ∧ h q = some ⟨3, actsB W⟩) W.length (by omega) ⟨0, Nat.zero_le _, rfl, rfl, by first | omega | (simp only; omega), by (have FX := Fx.mk (@b1); exact cl_), by (have FX := Fx.mk (@b2); exact cl_), by (have FX := Fx.mk (@b3); exact cl_)⟩ ?_
  rintro r tm2 h2 k2 ⟨i, hi2, rfl, h33, hk4, c1, c2, c3⟩ hag2 hh2 hk2
  by_cases hlt : i < W.length
  · have hd : decide ((i : Int) < (W.length : Int)) = true := decide_eq_true (by omega)
    have hw : IntKind.i64.wrap (i + 1) = ((i + 1 : Nat) : Int) := by rw [wrapI] <;> omega
    obtain ⟨a, hx0⟩ : ∃ a, W[i]? = some a := ⟨W[i], List.getElem?_eq_getElem hlt⟩
    have hx := actsB_get W i a hx0
    have ha64 : a.2.2.length ≤ 64 := by rcases hW a (List.mem_of_getElem? hx0) with z | z <;> omega
    have co := (Clone_oct a.2.2 (by omega)).fn
    have hset : (actsB W).set i [.int .i64 a.1, .int .i64 a.2.1, .sl (numB .u8 a.2.2)] = actsB W := by
      apply List.ext_getElem?
      intro j
      rw [List.getElem?_set]
      by_cases e : i = j
      · subst e; rw [if_pos rfl, if_pos (by rw [i2]; exact hlt), hx]
      · rw [if_neg e]
    have FX := Fx.mk (And.intro @hag2 <| And.intro @hag <| And.intro @h33 <| And.intro @hh2 <| And.intro @hh <| And.intro @hd <| And.intro @hw <| And.intro @hx <| And.intro @c1 <| And.intro @c2 <| And.intro @c3 <| @i2)
    repeat (first | refine v_ ?_ | refine u_ ?_ | refine nl_ ?_ | (refine nz_ ?_; first | (show aWp _ _ _ _ _) | skip) | refine sq_ ?_ | refine rg_ ?_ | refine k_ ?_ | refine ct_ ?_ | refine cf_ ?_ | refine bk_ ?_ | refine sc_ ?_ | (refine sk_ ?_; first | (show aWp _ _ _ _ _) | skip) | (refine ex_ ?_; first | (show aWp _ _ _ _ _) | skip) | refine rt_ ?_)
    have FX := Fx.mk (And.intro @hag2 <| And.intro @hag <| And.intro @h33 <| And.intro @hh2 <| And.intro @hh <| And.intro @hd <| And.intro @hw <| And.intro @hx <| And.intro @c1 <| And.intro @c2 <| And.intro @c3 <| And.intro @i2 <| @hset)
    refine W_draw mixed rfl rfl ?_
    repeat (first | refine dq_ ?_ | refine df_ (co) ?_ | refine dr_ [nx, q, k2] ?_ | refine dm_ [nx, q, k2] ?_ | refine da_ [nx, q, k2] ?_ | refine ds_ [nx, q, k2] ?_ | refine dw_ [nx, q, k2] ?_ | refine dk_ ?_ | refine dn_ ?_)
    refine fun kd hkd => ?_
    simp only [List.length_cons, List.length_nil] at hkd
    first | (show aWp _ _ _ _ _) | skip
    have FX := Fx.mk (And.intro @hag2 <| And.intro @hag <| And.intro @h33 <| And.intro @hh2 <| And.intro @hh <| @hw)
    repeat (first | refine v_ ?_ | refine u_ ?_ | refine nl_ ?_ | (refine nz_ ?_; first | (show aWp _ _ _ _ _) | skip) | refine sq_ ?_ | refine rg_ ?_ | refine k_ ?_ | refine ct_ ?_ | refine cf_ ?_ | refine bk_ ?_ | refine sc_ ?_ | (refine sk_ ?_; first | (show aWp _ _ _ _ _) | skip) | (refine ex_ ?_; first | (show aWp _ _ _ _ _) | skip) | refine rt_ ?_)

    refine ⟨W.length - (i + 1), by omega, ⟨i + 1, by omega, rfl, ?_, by simp only; omega, ?_, ?_, ?_⟩, ?_, ?_, by simp only; omega, rfl⟩
    · (have FX := Fx0; exact cl_)
    · (have FX := Fx.mk (@c1); exact cl_)
    · (have FX := Fx.mk (@c2); exact cl_)
    · (have FX := Fx.mk (@c3); exact cl_)
    · repeat (refine KAgree.upd rfl ?_)
      exact hag2
    · exact (by have FX := Fx.mk (@hh2); exact ha_)
  obtain rfl : i = W.length := by omega
  have hd : decide ((W.length : Int) < (W.length : Int)) = false := by simp
  have FX := Fx.mk (And.intro @hag2 <| And.intro @hag <| And.intro @h33 <| And.intro @hh2 <| And.intro @hh <| And.intro @hd <| And.intro @c1 <| And.intro @c2 <| @c3)
  repeat (first | refine v_ ?_ | refine u_ ?_ | refine nl_ ?_ | (refine nz_ ?_; first | (show aWp _ _ _ _ _) | skip) | refine sq_ ?_ | refine rg_ ?_ | refine k_ ?_ | refine ct_ ?_ | refine cf_ ?_ | refine bk_ ?_ | refine sc_ ?_ | (refine sk_ ?_; first | (show aWp _ _ _ _ _) | skip) | (refine ex_ ?_; first | (show aWp _ _ _ _ _) | skip) | refine rt_ ?_)

  (have FX := Fx.mk (And.intro @hag2 <| And.intro @hag <| And.intro @hh2 <| And.intro @hh <| And.intro @c1 <| And.intro @c2 <| And.intro @c3 <| And.intro @i1 <| @i2); exact end2_ p q Tryd.results37)
end Go.Proofs.YtjidgdfdeckofaaDoor.AE

/- Layer 3: wait, Write, Resize. -/
namespace Go.Proofs.YtjidgdfdeckofaaDoor.AE
open Go Go.RowKit Go.Proofs Go.Proofs.YtjidgdfdeckofaaDoor
set_option linter.unusedVariables false
set_option linter.unusedSimpArgs false
set_option maxRecDepth 100000
set_option maxHeartbeats 8000000
theorem actsB_snoc (W : List Act3) (x y : Int) (d : List Int) : actsB W ++ [[.int .i64 x, .int .i64 y, .sl (numB .u8 d)]] = actsB (W ++ [(x, y, d)]) := by simp [actsB, actB]
theorem host_wait (S : List (List Int)) (W : List Act3) (cap x y : Int) (d : List Int) (hok : okH S W cap) : aFun Tryd.prog 79 [hostV S W cap, .agg [.int .i64 x, .int .i64 y, .sl (numB .u8 d)]] (hostV S (W ++ [(x, y, d)]) cap) := by
  have cl := host_Clone S W cap hok
  have i1 := secB_len S
  have i2 := actsB_len W
  have l1 : (secB S).take S.length = secB S := take_len _ _ i1
  have l2 : (actsB W).take W.length = actsB W := take_len _ _ i2
  have sn := actsB_snoc W x y d
  have hWl := hok.2.2.2.1
  have i3 : (actsB (W ++ [(x, y, d)])).length = W.length + 1 := by rw [actsB_len]; simp
  have l3 : (actsB (W ++ [(x, y, d)])).take (W.length + 1) = actsB (W ++ [(x, y, d)]) := take_len _ _ i3
  unfold hostV at cl ⊢
  refine aFun_body Tryd.func79 rfl rfl (by simp [Tryd.ntmps79]) fun hreal h nx hfresh => ?_
  rw [Tryd.ntmps79]
  have FX := Fx.mk (And.intro @i1 <| And.intro @i2 <| And.intro @l1 <| And.intro @l2 <| @sn)
  repeat (first | refine v_ ?_ | refine u_ ?_ | refine o2_ (cl) fun ma mb kf hkf => ?_ | refine nl_ ?_ | (refine nz_ ?_; first | (show aWp _ _ _ _ _) | skip) | refine sq_ ?_ | refine rg_ ?_ | refine k_ ?_ | refine ct_ ?_ | refine cf_ ?_ | refine bk_ ?_ | refine sc_ ?_ | (refine sk_ ?_; first | (show aWp _ _ _ _ _) | skip) | (refine ex_ ?_; first | (show aWp _ _ _ _ _) | skip) | refine rt_ ?_)
  (have FX := Fx.mk (And.intro @i1 <| And.intro @i2 <| And.intro @l1 <| And.intro @l2 <| And.intro @i3 <| @l3); exact end_ Tryd.results79)
theorem numB_empty : numB .u8 [] = [] := rfl
/-- P3.1: what a write answers. -/
def wrH (S : List (List Int)) (W : List Act3) (cap at_ : Int) (d : List Int) : Int :=
  if ¬ okH S W cap then 9 else if at_ < 0 ∨ ((allH S W).length : Int) ≤ at_ then 4 else if d.length ≠ 64 then 1 else if W.length = 4096 then 51 else 0
theorem host_Write (S : List (List Int)) (W : List Act3) (cap at_ : Int) (d : List Int) : aFun Tryd.prog 54 [hostV S W cap, .int .i64 at_, .sl (numB .u8 d)] (if wrH S W cap at_ d = 0 then .tup [hostV S (W ++ [(1, at_, d)]) cap, .int .i64 0] else .tup [hostV [] [] 0, .int .i64 (wrH S W cap at_ d)]) := by
  have ck := host_Check S W cap
  have sz := host_size S W cap
  have i2 := actsB_len W
  have hn := numB_len .u8 d
  have d0 : decide ((0 : Int) = 0) = true := rfl
  by_cases hok : okH S W cap
  · rw [chkH_ok hok] at ck
    rw [size_all S W hok.2.2.2.2] at sz
    by_cases h1 : at_ < 0
    · rw [show wrH S W cap at_ d = 4 by unfold wrH; rw [if_neg (fun h => h hok), if_pos (.inl h1)]]
      have d1 : decide (at_ < 0) = true := decide_eq_true h1
      unfold hostV at ck sz ⊢
      refine aFun_body Tryd.func54 rfl rfl (by simp [Tryd.ntmps54]) fun hreal h nx hfresh => ?_
      rw [Tryd.ntmps54]
      have FX := Fx.mk (And.intro @d0 <| @d1)
      repeat (first | refine v_ ?_ | refine u_ ?_ | refine f_ (ck) fun kf hkf => ?_ | refine nl_ ?_ | (refine nz_ ?_; first | (show aWp _ _ _ _ _) | skip) | refine sq_ ?_ | refine rg_ ?_ | refine k_ ?_ | refine ct_ ?_ | refine cf_ ?_ | refine bk_ ?_ | refine sc_ ?_ | (refine sk_ ?_; first | (show aWp _ _ _ _ _) | skip) | (refine ex_ ?_; first | (show aWp _ _ _ _ _) | skip) | refine rt_ ?_)
      (have FX := Fx0; exact end_ Tryd.results54)
    have d1 : decide (at_ < 0) = false := decide_eq_false h1
    by_cases h2 : ((allH S W).length : Int) ≤ at_
    · rw [show wrH S W cap at_ d = 4 by unfold wrH; rw [if_neg (fun h => h hok), if_pos (.inr h2)]]
      have d2 : decide (((allH S W).length : Int) ≤ at_) = true := decide_eq_true h2
      unfold hostV at ck sz ⊢
      refine aFun_body Tryd.func54 rfl rfl (by simp [Tryd.ntmps54]) fun hreal h nx hfresh => ?_
      rw [Tryd.ntmps54]
      have FX := Fx.mk (And.intro @d0 <| And.intro @d1 <| @d2)
      repeat (first | refine v_ ?_ | refine u_ ?_ | refine f_ (ck) fun kf hkf => ?_ | refine f_ (sz) fun kf hkf => ?_ | refine nl_ ?_ | (refine nz_ ?_; first | (show aWp _ _ _ _ _) | skip) | refine sq_ ?_ | refine rg_ ?_ | refine k_ ?_ | refine ct_ ?_ | refine cf_ ?_ | refine bk_ ?_ | refine sc_ ?_ | (refine sk_ ?_; first | (show aWp _ _ _ _ _) | skip) | (refine ex_ ?_; first | (show aWp _ _ _ _ _) | skip) | refine rt_ ?_)
      (have FX := Fx0; exact end_ Tryd.results54)
    have d2 : decide (((allH S W).length : Int) ≤ at_) = false := decide_eq_false h2
    by_cases h3 : d.length = 64
    · have d3 : decide ((d.length : Int) = 64) = true := decide_eq_true (by omega)
      by_cases h4 : W.length = 4096
      · rw [show wrH S W cap at_ d = 51 by unfold wrH; rw [if_neg (fun h => h hok), if_neg (by omega), if_neg (by omega), if_pos h4]]
        have d4 : decide ((W.length : Int) = 4096) = true := decide_eq_true (by omega)
        unfold hostV at ck sz ⊢
        refine aFun_body Tryd.func54 rfl rfl (by simp [Tryd.ntmps54]) fun hreal h nx hfresh => ?_
        rw [Tryd.ntmps54]
        have FX := Fx.mk (And.intro @d0 <| And.intro @d1 <| And.intro @d2 <| And.intro @d3 <| And.intro @d4 <| And.intro @hn <| @i2)
        repeat (first | refine v_ ?_ | refine u_ ?_ | refine f_ (ck) fun kf hkf => ?_ | refine f_ (sz) fun kf hkf => ?_ | refine nl_ ?_ | (refine nz_ ?_; first | (show aWp _ _ _ _ _) | skip) | refine sq_ ?_ | refine rg_ ?_ | refine k_ ?_ | refine ct_ ?_ | refine cf_ ?_ | refine bk_ ?_ | refine sc_ ?_ | (refine sk_ ?_; first | (show aWp _ _ _ _ _) | skip) | (refine ex_ ?_; first | (show aWp _ _ _ _ _) | skip) | refine rt_ ?_)
        (have FX := Fx0; exact end_ Tryd.results54)
      · rw [show wrH S W cap at_ d = 0 by unfold wrH; rw [if_neg (fun h => h hok), if_neg (by omega), if_neg (by omega), if_neg h4]]
        have d4 : decide ((W.length : Int) = 4096) = false := decide_eq_false (by omega)
        have co := (Clone_oct d (by omega)).fn
        have wt := host_wait S W cap 1 at_ d hok
        rw [if_pos rfl]
        unfold hostV at ck sz wt ⊢
        refine aFun_body Tryd.func54 rfl rfl (by simp [Tryd.ntmps54]) fun hreal h nx hfresh => ?_
        rw [Tryd.ntmps54]
        have FX := Fx.mk (And.intro @d0 <| And.intro @d1 <| And.intro @d2 <| And.intro @d3 <| And.intro @d4 <| And.intro @hn <| @i2)
        repeat (first | refine v_ ?_ | refine u_ ?_ | refine f_ (ck) fun kf hkf => ?_ | refine f_ (sz) fun kf hkf => ?_ | refine nl_ ?_ | (refine nz_ ?_; first | (show aWp _ _ _ _ _) | skip) | refine sq_ ?_ | refine rg_ ?_ | refine k_ ?_ | refine ct_ ?_ | refine cf_ ?_ | refine bk_ ?_ | refine sc_ ?_ | (refine sk_ ?_; first | (show aWp _ _ _ _ _) | skip) | (refine ex_ ?_; first | (show aWp _ _ _ _ _) | skip) | refine rt_ ?_)
        have FX := Fx0
        refine W_draw mixed rfl rfl ?_
        repeat (first | refine dq_ ?_ | refine df_ (co) ?_ | refine df_ (wt) ?_ | refine dr_ [nx, nx + 1] ?_ | refine dm_ [nx, nx + 1] ?_ | refine da_ [nx, nx + 1] ?_ | refine ds_ [nx, nx + 1] ?_ | refine dw_ [nx, nx + 1] ?_ | refine dk_ ?_ | refine dn_ ?_)
        refine fun kd hkd => ?_
        simp only [List.length_cons, List.length_nil] at hkd
        first | (show aWp _ _ _ _ _) | skip
        have FX := Fx0
        repeat (first | refine v_ ?_ | refine u_ ?_ | refine nl_ ?_ | (refine nz_ ?_; first | (show aWp _ _ _ _ _) | skip) | refine sq_ ?_ | refine rg_ ?_ | refine k_ ?_ | refine ct_ ?_ | refine cf_ ?_ | refine bk_ ?_ | refine sc_ ?_ | (refine sk_ ?_; first | (show aWp _ _ _ _ _) | skip) | (refine ex_ ?_; first | (show aWp _ _ _ _ _) | skip) | refine rt_ ?_)
        (have FX := Fx0; exact end_ Tryd.results54)
    · rw [show wrH S W cap at_ d = 1 by unfold wrH; rw [if_neg (fun h => h hok), if_neg (by omega), if_pos h3]]
      have d3 : decide ((d.length : Int) = 64) = false := decide_eq_false (by omega)
      unfold hostV at ck sz ⊢
      refine aFun_body Tryd.func54 rfl rfl (by simp [Tryd.ntmps54]) fun hreal h nx hfresh => ?_
      rw [Tryd.ntmps54]
      have FX := Fx.mk (And.intro @d0 <| And.intro @d1 <| And.intro @d2 <| And.intro @d3 <| @hn)
      repeat (first | refine v_ ?_ | refine u_ ?_ | refine f_ (ck) fun kf hkf => ?_ | refine f_ (sz) fun kf hkf => ?_ | refine nl_ ?_ | (refine nz_ ?_; first | (show aWp _ _ _ _ _) | skip) | refine sq_ ?_ | refine rg_ ?_ | refine k_ ?_ | refine ct_ ?_ | refine cf_ ?_ | refine bk_ ?_ | refine sc_ ?_ | (refine sk_ ?_; first | (show aWp _ _ _ _ _) | skip) | (refine ex_ ?_; first | (show aWp _ _ _ _ _) | skip) | refine rt_ ?_)
      (have FX := Fx0; exact end_ Tryd.results54)
  · rw [chkH_bad hok] at ck
    rw [show wrH S W cap at_ d = 9 by unfold wrH; rw [if_pos hok]]
    have d9 : decide ((9 : Int) = 0) = false := rfl
    unfold hostV at ck ⊢
    refine aFun_body Tryd.func54 rfl rfl (by simp [Tryd.ntmps54]) fun hreal h nx hfresh => ?_
    rw [Tryd.ntmps54]
    have FX := Fx.mk (@d9)
    repeat (first | refine v_ ?_ | refine u_ ?_ | refine f_ (ck) fun kf hkf => ?_ | refine nl_ ?_ | (refine nz_ ?_; first | (show aWp _ _ _ _ _) | skip) | refine sq_ ?_ | refine rg_ ?_ | refine k_ ?_ | refine ct_ ?_ | refine cf_ ?_ | refine bk_ ?_ | refine sc_ ?_ | (refine sk_ ?_; first | (show aWp _ _ _ _ _) | skip) | (refine ex_ ?_; first | (show aWp _ _ _ _ _) | skip) | refine rt_ ?_)
    (have FX := Fx0; exact end_ Tryd.results54)
def rsH (S : List (List Int)) (W : List Act3) (cap n : Int) : Int :=
  if ¬ okH S W cap then 9 else if n < 0 then 4 else if cap < n ∨ W.length = 4096 then 51 else 0
theorem host_Resize (S : List (List Int)) (W : List Act3) (cap n : Int) : aFun Tryd.prog 53 [hostV S W cap, .int .i64 n] (if rsH S W cap n = 0 then .tup [hostV S (W ++ [(2, n, [])]) cap, .int .i64 0] else .tup [hostV [] [] 0, .int .i64 (rsH S W cap n)]) := by
  have ck := host_Check S W cap
  have i2 := actsB_len W
  have d0 : decide ((0 : Int) = 0) = true := rfl
  by_cases hok : okH S W cap
  · rw [chkH_ok hok] at ck
    by_cases h1 : n < 0
    · rw [show rsH S W cap n = 4 by unfold rsH; rw [if_neg (fun h => h hok), if_pos h1]]
      have d1 : decide (n < 0) = true := decide_eq_true h1
      unfold hostV at ck ⊢
      refine aFun_body Tryd.func53 rfl rfl (by simp [Tryd.ntmps53]) fun hreal h nx hfresh => ?_
      rw [Tryd.ntmps53]
      have FX := Fx.mk (And.intro @d0 <| @d1)
      repeat (first | refine v_ ?_ | refine u_ ?_ | refine f_ (ck) fun kf hkf => ?_ | refine nl_ ?_ | (refine nz_ ?_; first | (show aWp _ _ _ _ _) | skip) | refine sq_ ?_ | refine rg_ ?_ | refine k_ ?_ | refine ct_ ?_ | refine cf_ ?_ | refine bk_ ?_ | refine sc_ ?_ | (refine sk_ ?_; first | (show aWp _ _ _ _ _) | skip) | (refine ex_ ?_; first | (show aWp _ _ _ _ _) | skip) | refine rt_ ?_)
      (have FX := Fx0; exact end_ Tryd.results53)
    have d1 : decide (n < 0) = false := decide_eq_false h1
    by_cases h2 : cap < n
    · rw [show rsH S W cap n = 51 by unfold rsH; rw [if_neg (fun h => h hok), if_neg h1, if_pos (.inl h2)]]
      have d2 : decide (cap < n) = true := decide_eq_true h2
      unfold hostV at ck ⊢
      refine aFun_body Tryd.func53 rfl rfl (by simp [Tryd.ntmps53]) fun hreal h nx hfresh => ?_
      rw [Tryd.ntmps53]
      have FX := Fx.mk (And.intro @d0 <| And.intro @d1 <| @d2)
      repeat (first | refine v_ ?_ | refine u_ ?_ | refine f_ (ck) fun kf hkf => ?_ | refine nl_ ?_ | (refine nz_ ?_; first | (show aWp _ _ _ _ _) | skip) | refine sq_ ?_ | refine rg_ ?_ | refine k_ ?_ | refine ct_ ?_ | refine cf_ ?_ | refine bk_ ?_ | refine sc_ ?_ | (refine sk_ ?_; first | (show aWp _ _ _ _ _) | skip) | (refine ex_ ?_; first | (show aWp _ _ _ _ _) | skip) | refine rt_ ?_)
      (have FX := Fx0; exact end_ Tryd.results53)
    have d2 : decide (cap < n) = false := decide_eq_false h2
    by_cases h4 : W.length = 4096
    · rw [show rsH S W cap n = 51 by unfold rsH; rw [if_neg (fun h => h hok), if_neg h1, if_pos (.inr h4)]]
      have d4 : decide ((W.length : Int) = 4096) = true := decide_eq_true (by omega)
      unfold hostV at ck ⊢
      refine aFun_body Tryd.func53 rfl rfl (by simp [Tryd.ntmps53]) fun hreal h nx hfresh => ?_
      rw [Tryd.ntmps53]
      have FX := Fx.mk (And.intro @d0 <| And.intro @d1 <| And.intro @d2 <| And.intro @d4 <| @i2)
      repeat (first | refine v_ ?_ | refine u_ ?_ | refine f_ (ck) fun kf hkf => ?_ | refine nl_ ?_ | (refine nz_ ?_; first | (show aWp _ _ _ _ _) | skip) | refine sq_ ?_ | refine rg_ ?_ | refine k_ ?_ | refine ct_ ?_ | refine cf_ ?_ | refine bk_ ?_ | refine sc_ ?_ | (refine sk_ ?_; first | (show aWp _ _ _ _ _) | skip) | (refine ex_ ?_; first | (show aWp _ _ _ _ _) | skip) | refine rt_ ?_)
      (have FX := Fx0; exact end_ Tryd.results53)
    · rw [show rsH S W cap n = 0 by unfold rsH; rw [if_neg (fun h => h hok), if_neg h1, if_neg (by omega)]]
      have d4 : decide ((W.length : Int) = 4096) = false := decide_eq_false (by omega)
      have wt := host_wait S W cap 2 n [] hok
      rw [if_pos rfl]
      rw [numB_empty] at wt
      unfold hostV at ck wt ⊢
      refine aFun_body Tryd.func53 rfl rfl (by simp [Tryd.ntmps53]) fun hreal h nx hfresh => ?_
      rw [Tryd.ntmps53]
      have FX := Fx.mk (And.intro @d0 <| And.intro @d1 <| And.intro @d2 <| And.intro @d4 <| @i2)
      repeat (first | refine v_ ?_ | refine u_ ?_ | refine f_ (ck) fun kf hkf => ?_ | refine f_ (wt) fun kf hkf => ?_ | refine nl_ ?_ | (refine nz_ ?_; first | (show aWp _ _ _ _ _) | skip) | refine sq_ ?_ | refine rg_ ?_ | refine k_ ?_ | refine ct_ ?_ | refine cf_ ?_ | refine bk_ ?_ | refine sc_ ?_ | (refine sk_ ?_; first | (show aWp _ _ _ _ _) | skip) | (refine ex_ ?_; first | (show aWp _ _ _ _ _) | skip) | refine rt_ ?_)
      (have FX := Fx0; exact end_ Tryd.results53)
  · rw [chkH_bad hok] at ck
    rw [show rsH S W cap n = 9 by unfold rsH; rw [if_pos hok]]
    have d9 : decide ((9 : Int) = 0) = false := rfl
    unfold hostV at ck ⊢
    refine aFun_body Tryd.func53 rfl rfl (by simp [Tryd.ntmps53]) fun hreal h nx hfresh => ?_
    rw [Tryd.ntmps53]
    have FX := Fx.mk (@d9)
    repeat (first | refine v_ ?_ | refine u_ ?_ | refine f_ (ck) fun kf hkf => ?_ | refine nl_ ?_ | (refine nz_ ?_; first | (show aWp _ _ _ _ _) | skip) | refine sq_ ?_ | refine rg_ ?_ | refine k_ ?_ | refine ct_ ?_ | refine cf_ ?_ | refine bk_ ?_ | refine sc_ ?_ | (refine sk_ ?_; first | (show aWp _ _ _ _ _) | skip) | (refine ex_ ?_; first | (show aWp _ _ _ _ _) | skip) | refine rt_ ?_)
    (have FX := Fx0; exact end_ Tryd.results53)
end Go.Proofs.YtjidgdfdeckofaaDoor.AE
