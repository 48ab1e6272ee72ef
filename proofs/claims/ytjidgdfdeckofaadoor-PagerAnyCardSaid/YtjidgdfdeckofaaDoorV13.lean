/- Texts J5, J6, J16, S0. -/
import Derived.Test.YtjidgdfdeckofaaDoorV12
import Derived.Test.YtjidgdfdeckofaaDoorV10
import Derived.Test.YtjidgdfdeckofaaDoorV7
/- Layer 15: Decode itself. -/
namespace Go.Proofs.YtjidgdfdeckofaaDoor.AE
open Go Go.RowKit Go.Proofs Go.Proofs.YtjidgdfdeckofaaDoor
set_option linter.unusedVariables false
set_option linter.unusedSimpArgs false
set_option maxRecDepth 100000
set_option maxHeartbeats 8000000
theorem journal_Decode (b : List Int) : aFun Tryd.prog 69 [.sl (numB .u8 b)] (decV b) := by
  refine aFun_defer Tryd.func69 rfl rfl (by simp [Tryd.ntmps69]) fun hreal h nx hfresh => ?_
  have hl : b.length < 4611686018427387904 := by
    have := (hreal (.sl (numB .u8 b)) (by simp)).sl.1
    rwa [numB_len] at this
  rw [Tryd.ntmps69]
  have e4 : ∀ tm : Nat → AV, evA tm (.const (.string { data := #[102, 115, 106, 49] })) = .str magJ := fun _ => rfl
  have hp := strings_HasPrefix magJ (b.take 4)
  have hmin : (if (4 : Int) < (b.length : Int) then 4 else (b.length : Int)) = ((min b.length 4 : Nat) : Int) := by split <;> omega
  have htk : b.take (min b.length 4) = b.take 4 := by rw [List.take_eq_take_min (i := 4), Nat.min_comm]
  have hM : ((min b.length 4 : Nat) : Int) ≤ (b.length : Int) := by omega
  generalize min b.length 4 = M at hmin htk hM
  have n8 := need_yes 8
  have n21 := need_yes 21
  have p8 := need_no 8
  have p21 := need_no 21
  by_cases c1 : b.take 4 <+: magJ
  rotate_left
  · have hd : decR b = .error 21 := by unfold decR; rw [if_pos c1]
    rw [decide_eq_false c1] at hp
    have FX := Fx.mk (And.intro @e4 <| And.intro @hmin <| And.intro @htk <| @hM)
    repeat (first | refine dfr0_ ?_ | refine v_ ?_ | refine u_ ?_ | refine f_ (hp) fun kf hkf => ?_ | refine p_ (p21) fun kf hkf => ?_ | refine nl_ ?_ | (refine nz_ ?_; first | (show aWp _ _ _ _ _) | skip) | refine sq_ ?_ | refine rg_ ?_ | refine k_ ?_ | refine ct_ ?_ | refine cf_ ?_ | refine bk_ ?_ | refine sc_ ?_ | (refine sk_ ?_; first | (show aWp _ _ _ _ _) | skip) | (refine ex_ ?_; first | (show aWp _ _ _ _ _) | skip) | refine rt_ ?_)
    exact dec_pan (decV_err hd) (by (have FX := Fx0; exact cl_)) (by (have FX := Fx0; exact cl_)) (by (have FX := Fx0; exact cl_)) (by (have FX := Fx0; exact cl_)) (by rfl) (by (have FX := Fx0; exact cl_)) (by (have FX := Fx0; exact cl_)) (fun n hn => by simp (disch := first | assumption | omega) only [upd_same, upd_ne]) (by first | omega | (simp only; omega))
  rw [decide_eq_true c1] at hp
  by_cases c2 : b.length < 22
  · have hd : decR b = .error 8 := by unfold decR; rw [if_neg (by simpa using c1), if_pos c2]
    have e2 : decide ((22 : Int) ≤ (b.length : Int)) = false := decide_eq_false (by omega)
    have FX := Fx.mk (And.intro @e4 <| And.intro @hmin <| And.intro @htk <| And.intro @hM <| @e2)
    repeat (first | refine dfr0_ ?_ | refine v_ ?_ | refine u_ ?_ | refine f_ (hp) fun kf hkf => ?_ | refine f_ (n21) fun kf hkf => ?_ | refine p_ (p8) fun kf hkf => ?_ | refine nl_ ?_ | (refine nz_ ?_; first | (show aWp _ _ _ _ _) | skip) | refine sq_ ?_ | refine rg_ ?_ | refine k_ ?_ | refine ct_ ?_ | refine cf_ ?_ | refine bk_ ?_ | refine sc_ ?_ | (refine sk_ ?_; first | (show aWp _ _ _ _ _) | skip) | (refine ex_ ?_; first | (show aWp _ _ _ _ _) | skip) | refine rt_ ?_)
    exact dec_pan (decV_err hd) (by (have FX := Fx0; exact cl_)) (by (have FX := Fx0; exact cl_)) (by (have FX := Fx0; exact cl_)) (by (have FX := Fx0; exact cl_)) (by rfl) (by (have FX := Fx0; exact cl_)) (by (have FX := Fx0; exact cl_)) (fun n hn => by simp (disch := first | assumption | omega) only [upd_same, upd_ne]) (by first | omega | (simp only; omega))
  have e2 : decide ((22 : Int) ≤ (b.length : Int)) = true := decide_eq_true (by omega)
  have q20 := numJ_lt b 20 2
  have q0 := numJ_nonneg b 20 2
  obtain ⟨np, hnp⟩ : ∃ np : Nat, numJ b 20 2 = (np : Int) := ⟨(numJ b 20 2).toNat, by omega⟩
  obtain ⟨Qs, hQ⟩ : ∃ x, min (numJ b 4 8) 4611686018427387904 = x := ⟨_, rfl⟩
  have v12 : min (numJ b 12 4) 4611686018427387904 = numJ b 12 4 := Int.min_eq_left (by have := numJ_lt b 12 4; have : (256 : Int) ^ 4 = 4294967296 := rfl; omega)
  have v16 : min (numJ b 16 4) 4611686018427387904 = numJ b 16 4 := Int.min_eq_left (by have := numJ_lt b 16 4; have : (256 : Int) ^ 4 = 4294967296 := rfl; omega)
  have v20 : min (numJ b 20 2) 4611686018427387904 = (np : Int) := by rw [hnp] at q20 ⊢; exact Int.min_eq_left (by have : (256 : Int) ^ 2 = 65536 := rfl; omega)
  have hrec : ∀ l, recD b l = ⟨Qs, numJ b 12 4, numJ b 16 4, l⟩ := fun l => by unfold recD; rw [hQ]
  obtain ⟨As, hA⟩ : ∃ x, numJ b 12 4 = x := ⟨_, rfl⟩
  obtain ⟨Bs, hB⟩ : ∃ x, numJ b 16 4 = x := ⟨_, rfl⟩
  replace v12 := v12.trans hA
  replace v16 := v16.trans hB
  rw [hA, hB] at hrec
  have FX := Fx.mk (And.intro @e4 <| And.intro @hmin <| And.intro @htk <| And.intro @hM <| @e2)
  repeat (first | refine dfr0_ ?_ | refine v_ ?_ | refine u_ ?_ | refine f_ (hp) fun kf hkf => ?_ | refine f_ (n21) fun kf hkf => ?_ | refine f_ (n8) fun kf hkf => ?_ | refine nl_ ?_ | (refine nz_ ?_; first | (show aWp _ _ _ _ _) | skip) | refine sq_ ?_ | refine rg_ ?_ | refine k_ ?_ | refine ct_ ?_ | refine cf_ ?_ | refine bk_ ?_ | refine sc_ ?_ | (refine sk_ ?_; first | (show aWp _ _ _ _ _) | skip) | (refine ex_ ?_; first | (show aWp _ _ _ _ _) | skip) | refine rt_ ?_)
  obtain ⟨kr, rfl⟩ : ∃ q, q = kf := ⟨kf, rfl⟩
  have hkr := hkf
  by_cases c3 : 256 < np
  · have hd : decR b = .error 21 := by unfold decR; rw [if_neg (by simpa using c1), if_neg c2, hnp, if_pos (by omega)]
    have e3 : decide ((np : Int) ≤ 256) = false := decide_eq_false (by omega)
    have FX := Fx.mk (@e3)
    repeat (first | refine v_ ?_ | refine u_ ?_ | refine e_ (J_num b 4 kr 8 8 rfl ⟨by decide, by decide⟩ (by omega) hl hQ (by exact cl_)) fun kf hkf => ?_ | refine e_ (J_num b (4 + 8) kr 4 4 rfl ⟨by decide, by decide⟩ (by omega) hl v12 (by exact cl_)) fun kf hkf => ?_ | refine e_ (J_num b (4 + 8 + 4) kr 4 4 rfl ⟨by decide, by decide⟩ (by omega) hl v16 (by exact cl_)) fun kf hkf => ?_ | refine e_ (J_num b (4 + 8 + 4 + 4) kr 2 2 rfl ⟨by decide, by decide⟩ (by omega) hl v20 (by exact cl_)) fun kf hkf => ?_ | refine p_ (p21) fun kf hkf => ?_ | refine nl_ ?_ | (refine nz_ ?_; first | (show aWp _ _ _ _ _) | skip) | refine sq_ ?_ | refine rg_ ?_ | refine k_ ?_ | refine ct_ ?_ | refine cf_ ?_ | refine bk_ ?_ | refine sc_ ?_ | (refine sk_ ?_; first | (show aWp _ _ _ _ _) | skip) | (refine ex_ ?_; first | (show aWp _ _ _ _ _) | skip) | refine rt_ ?_)
    exact dec_pan (decV_err hd) (by (have FX := Fx0; exact cl_)) (by (have FX := Fx0; exact cl_)) (by (have FX := Fx0; exact cl_)) (by (have FX := Fx0; exact cl_)) (by rfl) (by (have FX := Fx0; exact cl_)) (by (have FX := Fx0; exact cl_)) (fun n hn => by simp (disch := first | assumption | omega) only [upd_same, upd_ne]) (by first | omega | (simp only; omega))
  have e3 : decide ((np : Int) ≤ 256) = true := decide_eq_true (by omega)
  have FX := Fx.mk (@e3)
  repeat (first | refine v_ ?_ | refine u_ ?_ | refine e_ (J_num b 4 kr 8 8 rfl ⟨by decide, by decide⟩ (by omega) hl hQ (by exact cl_)) fun kf hkf => ?_ | refine e_ (J_num b (4 + 8) kr 4 4 rfl ⟨by decide, by decide⟩ (by omega) hl v12 (by exact cl_)) fun kf hkf => ?_ | refine e_ (J_num b (4 + 8 + 4) kr 4 4 rfl ⟨by decide, by decide⟩ (by omega) hl v16 (by exact cl_)) fun kf hkf => ?_ | refine e_ (J_num b (4 + 8 + 4 + 4) kr 2 2 rfl ⟨by decide, by decide⟩ (by omega) hl v20 (by exact cl_)) fun kf hkf => ?_ | refine f_ (n21) fun kf hkf => ?_ | refine nl_ ?_ | (refine nz_ ?_; first | (show aWp _ _ _ _ _) | skip) | refine sq_ ?_ | refine rg_ ?_ | refine k_ ?_ | refine ct_ ?_ | refine cf_ ?_ | refine bk_ ?_ | refine sc_ ?_ | (refine sk_ ?_; first | (show aWp _ _ _ _ _) | skip) | (refine ex_ ?_; first | (show aWp _ _ _ _ _) | skip) | refine rt_ ?_)
  have c22 : ((4 + 8 + 4 + 4 + 2 : Nat) : Int) = ((22 : Nat) : Int) := rfl
  refine W_loopK [0, 2, 3, 4, 5, 37] nx (fun k tm h q => ∃ (i : Nat) (l : List Pg) (a : Nat) (Pv : AV), i ≤ np ∧ k = np - i ∧ tm 38 = .int .i64 i ∧ runP b i = .ok (l, a) ∧ kr < q ∧ h nx = some ⟨4, [[.int .i64 Qs, .int .i64 As, .int .i64 Bs, Pv]]⟩ ∧ h (nx + 1) = some ⟨1, [[.int .i64 0]]⟩ ∧ h (nx + 1 + 1) = some ⟨1, [[.int .i64 0]]⟩ ∧ h kr = some ⟨2, [[.sl (numB .u8 b), .int .i64 (a : Int)]]⟩ ∧ ((Pv = .zs ∧ l = []) ∨ ∃ m, Pv = .hs m 0 l.length ∧ kr < m ∧ m < q ∧ h m = some ⟨2, pagesB l⟩)) np (by omega) ⟨0, [], 22, .zs, by omega, rfl, by (have FX := Fx0; exact cl_), rfl, by omega, by (have FX := Fx0; exact cl_), by (have FX := Fx0; exact cl_), by (have FX := Fx0; exact cl_), by (have FX := Fx.mk (@c22); exact cl_), .inl ⟨rfl, rfl⟩⟩ ?_
  rintro k tm' h' k' ⟨i, l, a, Pv, hi, rfl, h38, hrun, m1, b0, b1, b2, b3, hP⟩ hag hh hk'
  obtain ⟨rl1, rl2, rl3⟩ := runP_len (by omega) hrun
  have rl4 := runP_le hrun
  have tg2 : tm' 2 = .ptr nx 0 0 := by rw [hag 2 rfl]; (have FX := Fx0; exact cl_)
  have tg3 : tm' 3 = .ptr (nx + 1) 0 0 := by rw [hag 3 rfl]; (have FX := Fx0; exact cl_)
  have tg4 : tm' 4 = .ptr (nx + 1 + 1) 0 0 := by rw [hag 4 rfl]; (have FX := Fx0; exact cl_)
  have tg5 : tm' 5 = .ptr kr 0 0 := by rw [hag 5 rfl]; (have FX := Fx0; exact cl_)
  have tg0 : tm' 0 = .sl (numB .u8 b) := by rw [hag 0 rfl]; (have FX := Fx0; exact cl_)
  have tg37 : tm' 37 = .int .i64 np := by rw [hag 37 rfl]; (have FX := Fx0; exact cl_)
  by_cases hlt : i < np
  · have hdl : decide ((i : Int) < (np : Int)) = true := decide_eq_true (by omega)
    have hw : IntKind.i64.wrap (i + 1) = ((i + 1 : Nat) : Int) := by rw [wrapI] <;> omega
    cases hpd : pageD b a with
    | error e =>
      have hd : decR b = .error e := by unfold decR; rw [if_neg (by simpa using c1), if_neg c2, hnp, if_neg (by omega), Int.toNat_natCast, runP_bad hrun hpd hlt]
      have pe := fun nx' => page_err b a kr e hl rl3 hpd (nx := nx') b3
      have FX := Fx.mk (And.intro @h38 <| And.intro @tg37 <| @hdl)
      repeat (first | refine v_ ?_ | refine u_ ?_ | refine nl_ ?_ | (refine nz_ ?_; first | (show aWp _ _ _ _ _) | skip) | refine sq_ ?_ | refine rg_ ?_ | refine k_ ?_ | refine ct_ ?_ | refine cf_ ?_ | refine bk_ ?_ | refine sc_ ?_ | (refine sk_ ?_; first | (show aWp _ _ _ _ _) | skip) | (refine ex_ ?_; first | (show aWp _ _ _ _ _) | skip) | refine rt_ ?_)
      have FX := Fx.mk (And.intro tg2 <| And.intro tg5 <| b0)
      refine W_drawPanR 3 mixed rfl rfl rfl (f := 86) (args := [.ptr kr 0 0]) ?_ (by simp only [WS]) ?_
      · repeat (first | exact pe_ | refine pc_ ?_ | refine pq_ ?_ | refine ps_ ?_)
      · intro tm1 ht nx' hnx'
        have hnx2 := Nat.le_trans (Nat.le_add_right _ _) hnx'
        refine aCalls_mono (pe nx') ?_
        rintro e' h'' k'' ⟨rfl, g1, g2⟩
        refine ⟨_, rfl, ?_⟩
        exact dec_pan (decV_err hd) (by rw [ht 2 rfl]; (have FX := Fx.mk (@tg2); exact cl_)) (by rw [ht 3 rfl]; (have FX := Fx.mk (@tg3); exact cl_)) (by rw [ht 4 rfl]; (have FX := Fx.mk (@tg4); exact cl_)) (by rw [g1 nx (by omega) (by omega)]; exact b0) (by rfl) (by rw [g1 (nx + 1) (by omega) (by omega)]; exact b1) (by rw [g1 (nx + 2) (by omega) (by omega)]; exact b2) (fun n hn => by rw [g1 n (by omega) (by omega), hh n hn]; simp (disch := first | assumption | omega) only [upd_same, upd_ne]) (by omega)
    | ok pr =>
      obtain ⟨p, a'⟩ := pr
      have hrun2 := runP_step hrun hpd
      have plen := pagesB_len l
      have pap : pagesB (l ++ [p]) = pagesB l ++ [[.int .i64 p.1, .sl (numB .u8 p.2)]] := by simp [pagesB, pageB]
      have pap0 : pagesB ([] ++ [p]) = [[.int .i64 p.1, .sl (numB .u8 p.2)]] := rfl
      have pla : (l ++ [p]).length = l.length + 1 := by simp
      have hne : kr ≠ nx := by omega
      have ptk : (pagesB l).take l.length = pagesB l := List.take_of_length_le (by omega)
      have FX := Fx.mk (And.intro @h38 <| And.intro @tg37 <| @hdl)
      repeat (first | refine v_ ?_ | refine u_ ?_ | refine nl_ ?_ | (refine nz_ ?_; first | (show aWp _ _ _ _ _) | skip) | refine sq_ ?_ | refine rg_ ?_ | refine k_ ?_ | refine ct_ ?_ | refine cf_ ?_ | refine bk_ ?_ | refine sc_ ?_ | (refine sk_ ?_; first | (show aWp _ _ _ _ _) | skip) | (refine ex_ ?_; first | (show aWp _ _ _ _ _) | skip) | refine rt_ ?_)
      rcases hP with ⟨rfl, rfl⟩ | ⟨m, rfl, hm1, hm2, hm3⟩
      · have FX := Fx.mk (And.intro @tg2 <| And.intro @tg5 <| And.intro @b0 <| @b3)
        refine W_draw mixed rfl rfl ?_
        repeat (first | refine dq_ ?_ | (refine D_c [kr] (by exact cl_) (by simp only [WS]) (fun g q_ hg => by simp only [RdEq] at hg; exact page_ok b a kr p a' hl hpd (by first | rfl | (simp (disch := first | rfl | decide | omega | assumption | (simp only [LL]; omega)) only [WS, NB, WY, FX.out, hg]; first | done | rfl))) ?_) | refine dr_ [nx] ?_ | refine dm_ [nx, k' + (0 + 1 + 1 + 1 + 1)] ?_ | refine da_ [nx, k' + (0 + 1 + 1 + 1 + 1)] ?_ | refine ds_ [nx] ?_ | refine ds_ [nx, k' + (0 + 1 + 1 + 1 + 1)] ?_ | refine dw_ [nx] ?_ | refine dk_ ?_ | refine dn_ ?_)
        refine fun kd hkd => ?_
        simp only [List.length_cons, List.length_nil] at hkd
        first | (show aWp _ _ _ _ _) | skip
        have FX := Fx.mk (And.intro @h38 <| @hw)
        repeat (first | refine v_ ?_ | refine u_ ?_ | refine nl_ ?_ | (refine nz_ ?_; first | (show aWp _ _ _ _ _) | skip) | refine sq_ ?_ | refine rg_ ?_ | refine k_ ?_ | refine ct_ ?_ | refine cf_ ?_ | refine bk_ ?_ | refine sc_ ?_ | (refine sk_ ?_; first | (show aWp _ _ _ _ _) | skip) | (refine ex_ ?_; first | (show aWp _ _ _ _ _) | skip) | refine rt_ ?_)
        refine ⟨np - (i + 1), by omega, ⟨i + 1, [] ++ [p], a', .hs (k' + (1 + 1 + 1 + 1 + 1)) 0 1, by omega, rfl, by (have FX := Fx0; exact cl_), hrun2, by first | omega | (simp only; omega), by (have FX := Fx0; exact cl_), by (have FX := Fx.mk (@b1); exact cl_), by (have FX := Fx.mk (@b2); exact cl_), by (have FX := Fx0; exact cl_), .inr ⟨k' + (1 + 1 + 1 + 1 + 1), rfl, by omega, by first | omega | (simp only; omega), by (have FX := Fx.mk (@pap0); exact cl_)⟩⟩, ?_, ?_, by first | omega | (simp only; omega), rfl⟩
        · repeat (refine KAgree.upd rfl ?_)
          first | exact KAgree.refl _ _ | exact hag
        · exact (by have FX := Fx.mk (@hh); exact ha_)
      · have FX := Fx.mk (And.intro @tg2 <| And.intro @tg5 <| And.intro @b0 <| And.intro @b3 <| And.intro @hm3 <| And.intro @plen <| @ptk)
        refine W_draw mixed rfl rfl ?_
        repeat (first | refine dq_ ?_ | (refine D_c [kr] (by exact cl_) (by simp only [WS]) (fun g q_ hg => by simp only [RdEq] at hg; exact page_ok b a kr p a' hl hpd (by first | rfl | (simp (disch := first | rfl | decide | omega | assumption | (simp only [LL]; omega)) only [WS, NB, WY, FX.out, hg]; first | done | rfl))) ?_) | refine dr_ [nx] ?_ | refine dm_ [m, k' + (0 + 1 + 1 + 1 + 1)] ?_ | refine da_ [m, k' + (0 + 1 + 1 + 1 + 1)] ?_ | refine ds_ [nx] ?_ | refine ds_ [m, k' + (0 + 1 + 1 + 1 + 1)] ?_ | refine dw_ [nx] ?_ | refine dk_ ?_ | refine dn_ ?_)
        refine fun kd hkd => ?_
        simp only [List.length_cons, List.length_nil] at hkd
        first | (show aWp _ _ _ _ _) | skip
        have FX := Fx.mk (And.intro @h38 <| @hw)
        repeat (first | refine v_ ?_ | refine u_ ?_ | refine nl_ ?_ | (refine nz_ ?_; first | (show aWp _ _ _ _ _) | skip) | refine sq_ ?_ | refine rg_ ?_ | refine k_ ?_ | refine ct_ ?_ | refine cf_ ?_ | refine bk_ ?_ | refine sc_ ?_ | (refine sk_ ?_; first | (show aWp _ _ _ _ _) | skip) | (refine ex_ ?_; first | (show aWp _ _ _ _ _) | skip) | refine rt_ ?_)
        refine ⟨np - (i + 1), by omega, ⟨i + 1, l ++ [p], a', .hs (k' + (1 + 1 + 1 + 1 + 1)) 0 (l.length + 1), by omega, rfl, by (have FX := Fx0; exact cl_), hrun2, by first | omega | (simp only; omega), by (have FX := Fx0; exact cl_), by (have FX := Fx.mk (@b1); exact cl_), by (have FX := Fx.mk (@b2); exact cl_), by (have FX := Fx0; exact cl_), .inr ⟨k' + (1 + 1 + 1 + 1 + 1), by rw [pla], by omega, by first | omega | (simp only; omega), by (have FX := Fx.mk (@pap); exact cl_)⟩⟩, ?_, ?_, by first | omega | (simp only; omega), rfl⟩
        · repeat (refine KAgree.upd rfl ?_)
          first | exact KAgree.refl _ _ | exact hag
        · exact (by have FX := Fx.mk (@hh); exact ha_)
  obtain rfl : i = np := by omega
  have hdl : decide ((i : Int) < (i : Int)) = false := decide_eq_false (by omega)
  have pd := journal_padded (a + 4) (by omega)
  have w4 : IntKind.i64.wrap ((a : Int) + 4) = ((a + 4 : Nat) : Int) := by rw [wrapI] <;> omega
  have hdR : decR b = if b.length < padN (a + 4) then .error 8 else if (⟨Qs, As, Bs, l⟩ : Rec).ok ∧ (⟨Qs, As, Bs, l⟩ : Rec).enc = b.take (padN (a + 4)) then .ok (⟨Qs, As, Bs, l⟩, padN (a + 4)) else .error 21 := by
    unfold decR
    rw [if_neg (by simpa using c1), if_neg c2, hnp, if_neg (by omega), Int.toNat_natCast, hrun]
    simp only
    rw [hrec]
  generalize padN (a + 4) = n at pd hdR
  obtain ⟨hz, zz, z0, z1, z2, z3, z4, zh, hsub⟩ : ∃ (hz : AHeap) (zz : AV), hz nx = some ⟨4, [[.int .i64 Qs, .int .i64 As, .int .i64 Bs, zz]]⟩ ∧ hz (nx + 1) = some ⟨1, [[.int .i64 0]]⟩ ∧ hz (nx + 1 + 1) = some ⟨1, [[.int .i64 0]]⟩ ∧ hz kr = some ⟨2, [[.sl (numB .u8 b), .int .i64 (a : Int)]]⟩ ∧ ((zz = .zs ∧ l = []) ∨ zz = .sl (pagesB l)) ∧ (∀ q, q < nx → hz q = h' q) ∧ Sub ⟨tm', h', k', [⟨.func 82, [.ptr nx 0 0, .ptr (nx + 1) 0 0, .ptr (nx + 1 + 1) 0 0], []⟩]⟩ ⟨tm', hz, k', [⟨.func 82, [.ptr nx 0 0, .ptr (nx + 1) 0 0, .ptr (nx + 1 + 1) 0 0], []⟩]⟩ := by
    rcases hP with ⟨rfl, rfl⟩ | ⟨m, rfl, hm1, hm2, hm3⟩
    · exact ⟨h', _, b0, b1, b2, b3, .inl ⟨rfl, rfl⟩, fun _ _ => rfl, Sub.refl _⟩
    · have plen := pagesB_len l
      refine ⟨_, .sl (pagesB l), ?_, ?_, ?_, ?_, .inr rfl, ?_, Sub.freezeH (z := m) (m := nx) (b := ⟨2, pagesB l⟩) hm3 b0 (by omega)⟩
      · rw [upd_same]
        simp [frzN, plen, List.take_of_length_le]
      · rw [upd_ne _ _ _ (by omega), upd_ne _ _ _ (by omega)]; exact b1
      · rw [upd_ne _ _ _ (by omega), upd_ne _ _ _ (by omega)]; exact b2
      · rw [upd_ne _ _ _ (by omega), upd_ne _ _ _ (by omega)]; exact b3
      · intro q hq; rw [upd_ne _ _ _ (by omega), upd_ne _ _ _ (by omega)]
  refine aWp_sub hsub ?_
  have hw1 : weak1 zz = .sl (pagesB l) := by rcases z4 with ⟨rfl, rfl⟩ | rfl <;> rfl
  have q0 : decide ((0 : Int) = 0) = true := rfl
  by_cases c5 : b.length < n
  · have hd : decR b = .error 8 := by rw [hdR, if_pos c5]
    have e5 : decide ((n : Int) ≤ (b.length : Int)) = false := decide_eq_false (by omega)
    have FX := Fx.mk (And.intro @h38 <| And.intro @tg37 <| And.intro @hdl <| And.intro @tg0 <| And.intro @tg2 <| And.intro @tg3 <| And.intro @tg4 <| And.intro @tg5 <| And.intro @z0 <| And.intro @z1 <| And.intro @z2 <| And.intro @z3 <| And.intro @NL <| And.intro @w4 <| @e5)
    repeat (first | refine v_ ?_ | refine u_ ?_ | refine f_ (pd) fun kf hkf => ?_ | refine p_ (p8) fun kf hkf => ?_ | refine nl_ ?_ | (refine nz_ ?_; first | (show aWp _ _ _ _ _) | skip) | refine sq_ ?_ | refine rg_ ?_ | refine k_ ?_ | refine ct_ ?_ | refine cf_ ?_ | refine bk_ ?_ | refine sc_ ?_ | (refine sk_ ?_; first | (show aWp _ _ _ _ _) | skip) | (refine ex_ ?_; first | (show aWp _ _ _ _ _) | skip) | refine rt_ ?_)
    exact dec_pan (decV_err hd) (by (have FX := Fx.mk (@tg2); exact cl_)) (by (have FX := Fx.mk (@tg3); exact cl_)) (by (have FX := Fx.mk (@tg4); exact cl_)) (by (have FX := Fx.mk (@z0); exact cl_)) (by rfl) (by (have FX := Fx.mk (@z1); exact cl_)) (by (have FX := Fx.mk (@z2); exact cl_)) (fun q hq => by simp (disch := first | assumption | omega) only [upd_same, upd_ne, zh, hh]) (by first | omega | (simp only; omega))
  have e5 : decide ((n : Int) ≤ (b.length : Int)) = true := decide_eq_true (by omega)
  have l5 : (n : Int) ≤ (b.length : Int) := by omega
  by_cases c6 : (⟨Qs, As, Bs, l⟩ : Rec).ok
  rotate_left
  · have hd : decR b = .error 21 := by rw [hdR, if_neg c5, if_neg (fun q => c6 q.1)]
    have en : aFun Tryd.prog 34 [.agg [.int .i64 Qs, .int .i64 As, .int .i64 Bs, .sl (pagesB l)]] (.tup [.sl [], .int .i64 9]) := journal_Encode_bad _ c6
    have d9 : decide ((9 : Int) = 0) = false := rfl
    have FX := Fx.mk (And.intro @h38 <| And.intro @tg37 <| And.intro @hdl <| And.intro @tg0 <| And.intro @tg2 <| And.intro @tg3 <| And.intro @tg4 <| And.intro @tg5 <| And.intro @z0 <| And.intro @z1 <| And.intro @z2 <| And.intro @z3 <| And.intro @NL <| And.intro @w4 <| And.intro @e5 <| And.intro @hw1 <| @d9)
    repeat (first | refine v_ ?_ | refine u_ ?_ | refine f_ (pd) fun kf hkf => ?_ | refine f_ (n8) fun kf hkf => ?_ | refine f_ (en) fun kf hkf => ?_ | refine p_ (p21) fun kf hkf => ?_ | refine nl_ ?_ | (refine nz_ ?_; first | (show aWp _ _ _ _ _) | skip) | refine sq_ ?_ | refine rg_ ?_ | refine k_ ?_ | refine ct_ ?_ | refine cf_ ?_ | refine bk_ ?_ | refine sc_ ?_ | (refine sk_ ?_; first | (show aWp _ _ _ _ _) | skip) | (refine ex_ ?_; first | (show aWp _ _ _ _ _) | skip) | refine rt_ ?_)
    exact dec_pan (decV_err hd) (by (have FX := Fx.mk (@tg2); exact cl_)) (by (have FX := Fx.mk (@tg3); exact cl_)) (by (have FX := Fx.mk (@tg4); exact cl_)) (by (have FX := Fx.mk (@z0); exact cl_)) (by rfl) (by (have FX := Fx.mk (@z1); exact cl_)) (by (have FX := Fx.mk (@z2); exact cl_)) (fun q hq => by simp (disch := first | assumption | omega) only [upd_same, upd_ne, zh, hh]) (by first | omega | (simp only; omega))
  have en : aFun Tryd.prog 34 [.agg [.int .i64 Qs, .int .i64 As, .int .i64 Bs, .sl (pagesB l)]] (.tup [.sl (numB .u8 (⟨Qs, As, Bs, l⟩ : Rec).enc), .int .i64 0]) := (journal_Encode _ c6).fn_tup
  have eq := bytes_EqualJ (⟨Qs, As, Bs, l⟩ : Rec).enc (b.take n)
  by_cases c7 : (⟨Qs, As, Bs, l⟩ : Rec).enc = b.take n
  rotate_left
  · have hd : decR b = .error 21 := by rw [hdR, if_neg c5, if_neg (fun q => c7 q.2)]
    rw [decide_eq_false c7] at eq
    have FX := Fx.mk (And.intro @h38 <| And.intro @tg37 <| And.intro @hdl <| And.intro @tg0 <| And.intro @tg2 <| And.intro @tg3 <| And.intro @tg4 <| And.intro @tg5 <| And.intro @z0 <| And.intro @z1 <| And.intro @z2 <| And.intro @z3 <| And.intro @NL <| And.intro @w4 <| And.intro @e5 <| And.intro @l5 <| And.intro @hw1 <| @q0)
    repeat (first | refine v_ ?_ | refine u_ ?_ | refine f_ (pd) fun kf hkf => ?_ | refine f_ (n8) fun kf hkf => ?_ | refine f_ (en) fun kf hkf => ?_ | refine f_ (eq) fun kf hkf => ?_ | refine p_ (p21) fun kf hkf => ?_ | refine nl_ ?_ | (refine nz_ ?_; first | (show aWp _ _ _ _ _) | skip) | refine sq_ ?_ | refine rg_ ?_ | refine k_ ?_ | refine ct_ ?_ | refine cf_ ?_ | refine bk_ ?_ | refine sc_ ?_ | (refine sk_ ?_; first | (show aWp _ _ _ _ _) | skip) | (refine ex_ ?_; first | (show aWp _ _ _ _ _) | skip) | refine rt_ ?_)
    exact dec_pan (decV_err hd) (by (have FX := Fx.mk (@tg2); exact cl_)) (by (have FX := Fx.mk (@tg3); exact cl_)) (by (have FX := Fx.mk (@tg4); exact cl_)) (by (have FX := Fx.mk (@z0); exact cl_)) (by rfl) (by (have FX := Fx.mk (@z1); exact cl_)) (by (have FX := Fx.mk (@z2); exact cl_)) (fun q hq => by simp (disch := first | assumption | omega) only [upd_same, upd_ne, zh, hh]) (by first | omega | (simp only; omega))
  have hd : decR b = .ok (⟨Qs, As, Bs, l⟩, n) := by rw [hdR, if_neg c5, if_pos ⟨c6, c7⟩]
  rw [decide_eq_true c7] at eq
  have FX := Fx.mk (And.intro @h38 <| And.intro @tg37 <| And.intro @hdl <| And.intro @tg0 <| And.intro @tg2 <| And.intro @tg3 <| And.intro @tg4 <| And.intro @tg5 <| And.intro @z0 <| And.intro @z1 <| And.intro @z2 <| And.intro @z3 <| And.intro @NL <| And.intro @w4 <| And.intro @e5 <| And.intro @l5 <| And.intro @hw1 <| @q0)
  repeat (first | refine v_ ?_ | refine u_ ?_ | refine f_ (pd) fun kf hkf => ?_ | refine f_ (n8) fun kf hkf => ?_ | refine f_ (en) fun kf hkf => ?_ | refine f_ (eq) fun kf hkf => ?_ | refine f_ (n21) fun kf hkf => ?_ | refine nl_ ?_ | (refine nz_ ?_; first | (show aWp _ _ _ _ _) | skip) | refine sq_ ?_ | refine rg_ ?_ | refine k_ ?_ | refine ct_ ?_ | refine cf_ ?_ | refine bk_ ?_ | refine sc_ ?_ | (refine sk_ ?_; first | (show aWp _ _ _ _ _) | skip) | (refine ex_ ?_; first | (show aWp _ _ _ _ _) | skip) | refine rt_ ?_)
  have hv : decV b = .tup [.agg [.int .i64 Qs, .int .i64 As, .int .i64 Bs, .sl (pagesB l)], .int .i64 (n : Int), .int .i64 0] := decV_ok hd
  rcases z4 with ⟨rfl, rfl⟩ | rfl
  · have FX := Fx.mk (And.intro tg2 <| And.intro tg3 <| And.intro tg4 <| And.intro z0 <| And.intro z1 <| z2)
    refine W_draw mixed rfl rfl ?_
    refine dr_ [nx] ?_
    refine dr_ [nx + 1] ?_
    refine ds_ [nx] ?_
    refine ds_ [nx + 1] ?_
    refine ds_ [nx + 1 + 1] ?_
    refine dn_ ?_
    refine fun kd hkd => ?_
    simp only [List.length_cons, List.length_nil] at hkd
    first | (show aWp _ _ _ _ _) | skip
    have FX := Fx0
    repeat (first | refine v_ ?_ | refine u_ ?_ | refine nl_ ?_ | (refine nz_ ?_; first | (show aWp _ _ _ _ _) | skip) | refine sq_ ?_ | refine rg_ ?_ | refine k_ ?_ | refine ct_ ?_ | refine cf_ ?_ | refine bk_ ?_ | refine sc_ ?_ | (refine sk_ ?_; first | (show aWp _ _ _ _ _) | skip) | (refine ex_ ?_; first | (show aWp _ _ _ _ _) | skip) | refine rt_ ?_)
    exact dec_ret (by (have FX := Fx.mk (@tg2); exact cl_)) (by (have FX := Fx.mk (@tg3); exact cl_)) (by (have FX := Fx.mk (@tg4); exact cl_)) (by (have FX := Fx0; exact cl_)) (by (have FX := Fx0; exact cl_)) (by (have FX := Fx0; exact cl_)) (by rw [hv]; rfl) (fun q hq => by simp (disch := first | assumption | omega) only [upd_same, upd_ne, zh, hh]) (by first | omega | (simp only; omega))
  · have FX := Fx.mk (And.intro tg2 <| And.intro tg3 <| And.intro tg4 <| And.intro z0 <| And.intro z1 <| z2)
    refine W_draw mixed rfl rfl ?_
    refine dr_ [nx] ?_
    refine dr_ [nx + 1] ?_
    refine ds_ [nx] ?_
    refine ds_ [nx + 1] ?_
    refine ds_ [nx + 1 + 1] ?_
    refine dn_ ?_
    refine fun kd hkd => ?_
    simp only [List.length_cons, List.length_nil] at hkd
    first | (show aWp _ _ _ _ _) | skip
    have FX := Fx0
    repeat (first | refine v_ ?_ | refine u_ ?_ | refine nl_ ?_ | (refine nz_ ?_; first | (show aWp _ _ _ _ _) | skip) | refine sq_ ?_ | refine rg_ ?_ | refine k_ ?_ | refine ct_ ?_ | refine cf_ ?_ | refine bk_ ?_ | refine sc_ ?_ | (refine sk_ ?_; first | (show aWp _ _ _ _ _) | skip) | (refine ex_ ?_; first | (show aWp _ _ _ _ _) | skip) | refine rt_ ?_)
    exact dec_ret (by (have FX := Fx.mk (@tg2); exact cl_)) (by (have FX := Fx.mk (@tg3); exact cl_)) (by (have FX := Fx.mk (@tg4); exact cl_)) (by (have FX := Fx0; exact cl_)) (by (have FX := Fx0; exact cl_)) (by (have FX := Fx0; exact cl_)) (by rw [hv]; rfl) (fun q hq => by simp (disch := first | assumption | omega) only [upd_same, upd_ne, zh, hh]) (by first | omega | (simp only; omega))
end Go.Proofs.YtjidgdfdeckofaaDoor.AE

/- Layer 15: Scan. -/
namespace Go.Proofs.YtjidgdfdeckofaaDoor.AE
open Go Go.RowKit Go.Proofs Go.Proofs.YtjidgdfdeckofaaDoor
set_option linter.unusedVariables false
set_option linter.unusedSimpArgs false
set_option maxRecDepth 100000
set_option maxHeartbeats 8000000
def recsB (l : List Rec) : List (List AV) := l.map fun r => [.int .i64 r.q, .int .i64 r.root, .int .i64 r.room, .sl (pagesB r.pages)]
theorem recsB_len (l : List Rec) : (recsB l).length = l.length := by simp [recsB]
theorem recsB_get (l : List Rec) (i : Nat) (r : Rec) (h : l[i]? = some r) : (recsB l)[i]? = some [.int .i64 r.q, .int .i64 r.root, .int .i64 r.room, .sl (pagesB r.pages)] := by simp [recsB, h]
def scanV (b : List Int) (next : Int) : AV := .tup [.sl (recsB (scanS b next).1), .int .i64 ((scanS b next).2 : Int)]
theorem journal_Scan (b : List Int) (next : Int) (hc : b.length ≤ 140737488355328) : aFun Tryd.prog 40 [.sl (numB .u8 b), .int .i64 next] (scanV b next) := by
  refine aFun_body Tryd.func40 rfl rfl (by simp [Tryd.ntmps40]) fun hreal h nx hfresh => ?_
  rw [Tryd.ntmps40]
  have hl : b.length < 4611686018427387904 := by
    have := (hreal (.sl (numB .u8 b)) (by simp)).sl.1
    rwa [numB_len] at this
  have hi := inI64 ((hreal (.int .i64 next) (by simp)).int)
  have z0 : decide ((0 : Int) = 0) = true := rfl
  have FX := Fx0
  repeat (first | refine v_ ?_ | refine u_ ?_ | refine nl_ ?_ | (refine nz_ ?_; first | (show aWp _ _ _ _ _) | skip) | refine sq_ ?_ | refine rg_ ?_ | refine k_ ?_ | refine ct_ ?_ | refine cf_ ?_ | refine bk_ ?_ | refine sc_ ?_ | (refine sk_ ?_; first | (show aWp _ _ _ _ _) | skip) | (refine ex_ ?_; first | (show aWp _ _ _ _ _) | skip) | refine rt_ ?_)
  refine W_loopK [0, 1] nx (fun k tm h q => ∃ (out : List Rec) (at_ : Nat), at_ ≤ b.length ∧ k = b.length - at_ ∧ 64 * out.length ≤ at_ ∧ tm 5 = .int .i64 (at_ : Int) ∧ scanS b next = (out ++ (scanS (b.drop at_) (next + out.length)).1, at_ + (scanS (b.drop at_) (next + out.length)).2) ∧ ((tm 4 = .zs ∧ out = []) ∨ ∃ m, tm 4 = .hs m 0 out.length ∧ nx ≤ m ∧ m < q ∧ h m = some ⟨4, recsB out⟩)) b.length (by omega) ⟨[], 0, by omega, by omega, by simp, by (have FX := Fx0; exact cl_), by simp, .inl ⟨by (have FX := Fx0; exact cl_), rfl⟩⟩ ?_
  rintro k tm' h' k' ⟨out, at_, hat, rfl, h64, h5, hs, h4⟩ hag hh hk'
  have de := journal_Decode (b.drop at_)
  have l5 : (at_ : Int) ≤ (b.length : Int) := by omega
  cases hd : decR (b.drop at_) with
  | error e =>
    rw [decV_err hd] at de
    rw [scan_bad hd] at hs
    simp only [List.append_nil, Nat.add_zero] at hs
    have e1 : decide (e = 0) = false := decide_eq_false (by rcases decR_errs hd with rfl | rfl <;> decide)
    unfold scanV
    rw [hs]
    rcases h4 with ⟨h4, rfl⟩ | ⟨m, h4, hm1, hm2, hm3⟩
    · have FX := Fx.mk (And.intro @hag <| And.intro @h5 <| And.intro @h4 <| And.intro @l5 <| And.intro @e1 <| And.intro @Bool.not_true <| @Bool.not_false)
      repeat (first | refine v_ ?_ | refine u_ ?_ | refine f_ (de) fun kf hkf => ?_ | refine nl_ ?_ | (refine nz_ ?_; first | (show aWp _ _ _ _ _) | skip) | refine sq_ ?_ | refine rg_ ?_ | refine k_ ?_ | refine ct_ ?_ | refine cf_ ?_ | refine bk_ ?_ | refine sc_ ?_ | (refine sk_ ?_; first | (show aWp _ _ _ _ _) | skip) | (refine ex_ ?_; first | (show aWp _ _ _ _ _) | skip) | refine rt_ ?_)
      have hr0 : recsB [] = [] := rfl
      (have FX := Fx.mk (And.intro @hag <| And.intro @hr0 <| @hh); exact end_ Tryd.results40)
    · have rln := recsB_len out
      have htk : (recsB out).take out.length = recsB out := List.take_of_length_le (by omega)
      have FX := Fx.mk (And.intro @hag <| And.intro @h5 <| And.intro @h4 <| And.intro @l5 <| And.intro @e1 <| And.intro @Bool.not_true <| @Bool.not_false)
      repeat (first | refine v_ ?_ | refine u_ ?_ | refine f_ (de) fun kf hkf => ?_ | refine nl_ ?_ | (refine nz_ ?_; first | (show aWp _ _ _ _ _) | skip) | refine sq_ ?_ | refine rg_ ?_ | refine k_ ?_ | refine ct_ ?_ | refine cf_ ?_ | refine bk_ ?_ | refine sc_ ?_ | (refine sk_ ?_; first | (show aWp _ _ _ _ _) | skip) | (refine ex_ ?_; first | (show aWp _ _ _ _ _) | skip) | refine rt_ ?_)
      (have FX := Fx.mk (And.intro @hag <| And.intro @hm3 <| And.intro @rln <| And.intro @htk <| @hh); exact end_ Tryd.results40)
  | ok pr =>
    obtain ⟨r, n⟩ := pr
    rw [decV_ok hd, Rec.av_eq] at de
    obtain ⟨⟨o1, _⟩, _, o3, o4⟩ := decR_ok hd
    rw [List.length_drop] at o3
    have rln := recsB_len out
    have htk : (recsB out).take out.length = recsB out := List.take_of_length_le (by omega)
    have hwa : IntKind.i64.wrap ((at_ : Int) + (n : Int)) = ((at_ + n : Nat) : Int) := by rw [wrapI] <;> omega
    have hqs : recsB (out ++ [r]) = recsB out ++ [[.int .i64 r.q, .int .i64 r.root, .int .i64 r.room, .sl (pagesB r.pages)]] := by simp [recsB]
    have hqz : recsB ([] ++ [r]) = [[.int .i64 r.q, .int .i64 r.root, .int .i64 r.room, .sl (pagesB r.pages)]] := rfl
    have hol : (out ++ [r]).length = out.length + 1 := by simp
    by_cases hq : r.q = next + (out.length : Int)
    · rw [scan_yes hd hq] at hs
      have hs2 : scanS b next = ((out ++ [r]) ++ (scanS (b.drop (at_ + n)) (next + ((out ++ [r]).length : Int))).1, (at_ + n) + (scanS (b.drop (at_ + n)) (next + ((out ++ [r]).length : Int))).2) := by
        rw [hs, List.drop_drop, hol, show next + ((out.length + 1 : Nat) : Int) = next + (out.length : Int) + 1 by omega]
        simp [Nat.add_assoc]
      have hwq : IntKind.i64.wrap (r.q - next) = (out.length : Int) := by rw [wrapI] <;> omega
      rcases h4 with ⟨h4, rfl⟩ | ⟨m, h4, hm1, hm2, hm3⟩
      · have hwq0 : IntKind.i64.wrap (r.q - next) = 0 := by simpa using hwq
        have FX := Fx.mk (And.intro @hag <| And.intro @h5 <| And.intro @h4 <| And.intro @l5 <| And.intro @z0 <| And.intro @hwq0 <| And.intro @hwa <| And.intro @decide_true <| And.intro @Bool.not_true <| @Bool.not_false)
        repeat (first | refine v_ ?_ | refine u_ ?_ | refine f_ (de) fun kf hkf => ?_ | refine nl_ ?_ | (refine nz_ ?_; first | (show aWp _ _ _ _ _) | skip) | refine sq_ ?_ | refine rg_ ?_ | refine k_ ?_ | refine ct_ ?_ | refine cf_ ?_ | refine bk_ ?_ | refine sc_ ?_ | (refine sk_ ?_; first | (show aWp _ _ _ _ _) | skip) | (refine ex_ ?_; first | (show aWp _ _ _ _ _) | skip) | refine rt_ ?_)
        refine ⟨b.length - (at_ + n), by omega, ⟨[] ++ [r], at_ + n, by omega, by first | rfl | omega, by rw [hol]; omega, by (have FX := Fx0; exact cl_), hs2, .inr ⟨kf + 1 + 1, by (have FX := Fx0; exact cl_), by omega, by first | omega | (simp only; omega), by (have FX := Fx.mk (@hqz); exact cl_)⟩⟩, ?_, ?_, by first | omega | (simp only; omega), rfl⟩
        · repeat (refine KAgree.upd rfl ?_)
          first | exact KAgree.refl _ _ | exact hag
        · exact (by have FX := Fx.mk (@hh); exact ha_)
      · have FX := Fx.mk (And.intro @hag <| And.intro @h5 <| And.intro @h4 <| And.intro @hm3 <| And.intro @l5 <| And.intro @z0 <| And.intro @hwq <| And.intro @hwa <| And.intro @rln <| And.intro @htk <| And.intro @decide_true <| And.intro @Bool.not_true <| @Bool.not_false)
        repeat (first | refine v_ ?_ | refine u_ ?_ | refine f_ (de) fun kf hkf => ?_ | refine nl_ ?_ | (refine nz_ ?_; first | (show aWp _ _ _ _ _) | skip) | refine sq_ ?_ | refine rg_ ?_ | refine k_ ?_ | refine ct_ ?_ | refine cf_ ?_ | refine bk_ ?_ | refine sc_ ?_ | (refine sk_ ?_; first | (show aWp _ _ _ _ _) | skip) | (refine ex_ ?_; first | (show aWp _ _ _ _ _) | skip) | refine rt_ ?_)
        refine ⟨b.length - (at_ + n), by omega, ⟨out ++ [r], at_ + n, by omega, by first | rfl | omega, by rw [hol]; omega, by (have FX := Fx0; exact cl_), hs2, .inr ⟨kf + 1 + 1, by (have FX := Fx.mk (@hol); exact cl_), by omega, by first | omega | (simp only; omega), by (have FX := Fx.mk (@hqs); exact cl_)⟩⟩, ?_, ?_, by first | omega | (simp only; omega), rfl⟩
        · repeat (refine KAgree.upd rfl ?_)
          first | exact KAgree.refl _ _ | exact hag
        · exact (by have FX := Fx.mk (@hh); exact ha_)
    · rw [scan_no hd hq] at hs
      simp only [List.append_nil, Nat.add_zero] at hs
      unfold scanV
      rw [hs]
      have hwq : decide (IntKind.i64.wrap (r.q - next) = (out.length : Int)) = false := decide_eq_false fun q => by
        unfold IntKind.wrap at q
        simp [IntKind.signed, IntKind.bits] at q
        omega
      rcases h4 with ⟨h4, rfl⟩ | ⟨m, h4, hm1, hm2, hm3⟩
      · have hwq0 : decide (IntKind.i64.wrap (r.q - next) = 0) = false := by simpa using hwq
        have FX := Fx.mk (And.intro @hag <| And.intro @h5 <| And.intro @h4 <| And.intro @l5 <| And.intro @z0 <| And.intro @hwq0 <| And.intro @decide_true <| And.intro @Bool.not_true <| @Bool.not_false)
        repeat (first | refine v_ ?_ | refine u_ ?_ | refine f_ (de) fun kf hkf => ?_ | refine nl_ ?_ | (refine nz_ ?_; first | (show aWp _ _ _ _ _) | skip) | refine sq_ ?_ | refine rg_ ?_ | refine k_ ?_ | refine ct_ ?_ | refine cf_ ?_ | refine bk_ ?_ | refine sc_ ?_ | (refine sk_ ?_; first | (show aWp _ _ _ _ _) | skip) | (refine ex_ ?_; first | (show aWp _ _ _ _ _) | skip) | refine rt_ ?_)
        have hr0 : recsB [] = [] := rfl
        (have FX := Fx.mk (And.intro @hag <| And.intro @hr0 <| @hh); exact end_ Tryd.results40)
      · have FX := Fx.mk (And.intro @hag <| And.intro @h5 <| And.intro @h4 <| And.intro @hm3 <| And.intro @l5 <| And.intro @z0 <| And.intro @hwq <| And.intro @rln <| And.intro @htk <| And.intro @decide_true <| And.intro @Bool.not_true <| @Bool.not_false)
        repeat (first | refine v_ ?_ | refine u_ ?_ | refine f_ (de) fun kf hkf => ?_ | refine nl_ ?_ | (refine nz_ ?_; first | (show aWp _ _ _ _ _) | skip) | refine sq_ ?_ | refine rg_ ?_ | refine k_ ?_ | refine ct_ ?_ | refine cf_ ?_ | refine bk_ ?_ | refine sc_ ?_ | (refine sk_ ?_; first | (show aWp _ _ _ _ _) | skip) | (refine ex_ ?_; first | (show aWp _ _ _ _ _) | skip) | refine rt_ ?_)
        (have FX := Fx.mk (And.intro @hag <| And.intro @hm3 <| And.intro @rln <| And.intro @htk <| @hh); exact end_ Tryd.results40)
end Go.Proofs.YtjidgdfdeckofaaDoor.AE

/- Layer 15, JournalScans in plain words: records one behind the other, cut off. No program in sight. -/
namespace Go.Proofs.YtjidgdfdeckofaaDoor.AE
open Go Go.RowKit Go.Proofs Go.Proofs.YtjidgdfdeckofaaDoor
set_option linter.unusedVariables false
theorem enc_pos' (r : Rec) : 0 < r.enc.length := by rw [enc_len]; unfold padN; omega
def catR (l : List Rec) : List Int := l.flatMap Rec.enc
theorem catR_cons (r : Rec) (l : List Rec) : catR (r :: l) = r.enc ++ catR l := rfl
theorem catR_snoc (l : List Rec) (r : Rec) : catR (l ++ [r]) = catR l ++ r.enc := by simp [catR]
/-- Records that may be, numbered from next on. -/
def RunR : List Rec → Int → Prop
  | [], _ => True
  | r :: l, next => r.ok ∧ r.q = next ∧ RunR l (next + 1)
theorem RunR.snoc : ∀ {l : List Rec} {next : Int} {r : Rec}, RunR l next → r.ok → r.q = next + (l.length : Int) → RunR (l ++ [r]) next
  | [], next, r, _, h1, h2 => ⟨h1, by simpa using h2, trivial⟩
  | x :: l, next, r, h, h1, h2 => ⟨h.1, h.2.1, RunR.snoc h.2.2 h1 (by rw [h2]; simp; omega)⟩
/-- What is read of less is read of more. -/
theorem decR_take {x : List Int} {m : Nat} {r : Rec} {n : Nat} (h : decR (x.take m) = .ok (r, n)) : decR x = .ok (r, n) ∧ n ≤ m := by
  obtain ⟨h1, h2, h3, _⟩ := decR_ok h
  have hn : n ≤ m ∧ n ≤ x.length := by simp at h3; omega
  have he : r.enc = x.take n := by rw [h2, List.take_take, Nat.min_eq_left hn.1]
  have hl : r.enc.length = n := by rw [he]; simp; omega
  have := dec_enc h1 (x.drop n)
  rw [he, List.take_append_drop] at this
  rw [this, ← he, hl]
  exact ⟨rfl, hn.1⟩
/-- How many records are whole within so many octets. -/
def whole : List Rec → Nat → Nat
  | [], _ => 0
  | r :: l, m => if r.enc.length ≤ m then whole l (m - r.enc.length) + 1 else 0
theorem scan_cut : ∀ (l : List Rec) (next : Int) (m : Nat), RunR l next → scanS ((catR l).take m) next = (l.take (whole l m), (catR (l.take (whole l m))).length)
  | [], next, m, _ => by
    rw [show (catR []).take m = [] from by simp [catR], scan_bad decR_nil]
    rfl
  | r :: l, next, m, h => by
    obtain ⟨h1, h2, h3⟩ := h
    have hd := dec_enc h1 (catR l)
    unfold whole
    by_cases hm : r.enc.length ≤ m
    · rw [if_pos hm]
      have ht : (catR (r :: l)).take m = r.enc ++ (catR l).take (m - r.enc.length) := by
        rw [catR_cons, List.take_append, List.take_of_length_le hm]
      rw [ht, scan_yes (dec_enc h1 _) h2, List.drop_left, scan_cut l (next + 1) (m - r.enc.length) h3, List.take_succ_cons, catR_cons, List.length_append]
    · rw [if_neg hm]
      have hb : ∃ e, decR ((catR (r :: l)).take m) = .error e := by
        cases hq : decR ((catR (r :: l)).take m) with
        | error e => exact ⟨e, rfl⟩
        | ok p =>
          obtain ⟨r', n⟩ := p
          obtain ⟨q1, q2⟩ := decR_take hq
          rw [catR_cons, hd] at q1
          cases q1
          omega
      obtain ⟨e, hb⟩ := hb
      rw [scan_bad hb]
      rfl
theorem whole_all : ∀ (l : List Rec) (m : Nat), (catR l).length ≤ m → whole l m = l.length
  | [], _, _ => rfl
  | r :: l, m, h => by
    rw [catR_cons, List.length_append] at h
    unfold whole
    rw [if_pos (by omega), whole_all l _ (by omega)]
    rfl
theorem scan_all (l : List Rec) (next : Int) (h : RunR l next) : scanS (catR l) next = (l, (catR l).length) := by
  have := scan_cut l next (catR l).length h
  rwa [List.take_length, whole_all l _ (Nat.le_refl _), List.take_length] at this
/-- Where the records end. -/
def endsR (l : List Rec) : List Int := (List.range l.length).map fun i => ((catR (l.take (i + 1))).length : Int)
theorem whole_iff : ∀ (l : List Rec) (m i : Nat), i < l.length → (i < whole l m ↔ (catR (l.take (i + 1))).length ≤ m)
  | [], m, i, h => by cases h
  | r :: l, m, i, h => by
    unfold whole
    rw [List.take_succ_cons, catR_cons, List.length_append]
    by_cases hm : r.enc.length ≤ m
    · rw [if_pos hm]
      cases i with
      | zero => simp [catR]; exact hm
      | succ i =>
        have := whole_iff l (m - r.enc.length) i (by simpa using h)
        rw [Nat.succ_lt_succ_iff, this]
        omega
    · rw [if_neg hm]
      constructor
      · intro q; omega
      · intro q; omega
end Go.Proofs.YtjidgdfdeckofaaDoor.AE

/- Layer 4 in plain words: a superblock, its bounds, its sector. No program in sight. -/
namespace Go.Proofs.YtjidgdfdeckofaaDoor.AE
open Go Go.RowKit Go.Proofs Go.Proofs.YtjidgdfdeckofaaDoor
set_option linter.unusedVariables false
structure Sup where
  e : Int
  v : Int
  j : Int
  p : Int
  d : Int
  s : Int
  r : Int
  deriving DecidableEq
namespace Sup
def zero : Sup := ⟨0, 0, 0, 0, 0, 0, 0⟩
def vals (s : Sup) : List Int := [s.e, s.v, s.j, s.p, s.d, s.s, s.r]
def cells (s : Sup) : List AV := [.int .i64 s.e, .int .i64 s.v, .int .i64 s.j, .int .i64 s.p, .int .i64 s.d, .int .i64 s.s, .int .i64 s.r]
def av (s : Sup) : AV := .agg s.cells
def width (i : Nat) : Nat := [8, 4, 4, 4, 4, 8, 4].getD i 0
def low (i : Nat) : Int := [0, 0, 1, 1, 0, 0, 0].getD i 0
def high (p : Int) (i : Nat) : Int := [1099511627776, 65536, 1024, 2048, 65536, 1099511627776, p].getD i 0
def val (s : Sup) (i : Nat) : Int := s.vals.getD i 0
/-- May it be? -/
def ok (s : Sup) : Prop := ∀ i, i < 7 → low i ≤ s.val i ∧ s.val i ≤ high s.p i
instance (s : Sup) : Decidable s.ok := inferInstanceAs (Decidable (∀ i, i < 7 → _))
theorem ok_iff (s : Sup) : s.ok ↔ (0 ≤ s.e ∧ s.e ≤ 1099511627776) ∧ (0 ≤ s.v ∧ s.v ≤ 65536) ∧ (1 ≤ s.j ∧ s.j ≤ 1024) ∧ (1 ≤ s.p ∧ s.p ≤ 2048) ∧ (0 ≤ s.d ∧ s.d ≤ 65536) ∧ (0 ≤ s.s ∧ s.s ≤ 1099511627776) ∧ 0 ≤ s.r ∧ s.r ≤ s.p := by
  constructor
  · intro h
    exact ⟨h 0 (by decide), h 1 (by decide), h 2 (by decide), h 3 (by decide), h 4 (by decide), h 5 (by decide), h 6 (by decide)⟩
  · rintro ⟨h0, h1, h2, h3, h4, h5, h6⟩ i hi
    match i, hi with
    | 0, _ => exact h0
    | 1, _ => exact h1
    | 2, _ => exact h2
    | 3, _ => exact h3
    | 4, _ => exact h4
    | 5, _ => exact h5
    | 6, _ => exact h6
def fld (n : Nat) (p : Int) : List (List AV) := [[.ptr n 0 0, .int .i64 8, .int .i64 0, .int .i64 1099511627776], [.ptr n 0 1, .int .i64 4, .int .i64 0, .int .i64 65536], [.ptr n 0 2, .int .i64 4, .int .i64 1, .int .i64 1024], [.ptr n 0 3, .int .i64 4, .int .i64 1, .int .i64 2048], [.ptr n 0 4, .int .i64 4, .int .i64 0, .int .i64 65536], [.ptr n 0 5, .int .i64 8, .int .i64 0, .int .i64 1099511627776], [.ptr n 0 6, .int .i64 4, .int .i64 0, .int .i64 p]]
theorem fld_get (n : Nat) (p : Int) (i : Nat) (hi : i < 7) : (fld n p)[i]? = some [.ptr n 0 i, .int .i64 (width i : Nat), .int .i64 (low i), .int .i64 (high p i)] := by
  match i, hi with
  | 0, _ | 1, _ | 2, _ | 3, _ | 4, _ | 5, _ | 6, _ => rfl
theorem cells_drop (s : Sup) (i : Nat) (hi : i < 7) : s.cells.drop i = .int .i64 (s.val i) :: s.cells.drop (i + 1) := by
  match i, hi with
  | 0, _ | 1, _ | 2, _ | 3, _ | 4, _ | 5, _ | 6, _ => rfl
/-- One number is another. -/
def put (s : Sup) (i : Nat) (x : Int) : Sup := match i with
  | 0 => { s with e := x }
  | 1 => { s with v := x }
  | 2 => { s with j := x }
  | 3 => { s with p := x }
  | 4 => { s with d := x }
  | 5 => { s with s := x }
  | _ => { s with r := x }
theorem cells_put (s : Sup) (i : Nat) (hi : i < 7) (x : Int) : s.cells.take i ++ [AV.int .i64 x] ++ s.cells.drop (i + 1) = (s.put i x).cells := by
  match i, hi with
  | 0, _ | 1, _ | 2, _ | 3, _ | 4, _ | 5, _ | 6, _ => rfl
def chk (s : Sup) : Int := if s.ok then 0 else 4
end Sup
end Go.Proofs.YtjidgdfdeckofaaDoor.AE
