/- Layer 15: Decode itself. -/
import Derived.Test.YteklnhogokjkkaaJ4
namespace Go.Proofs.Yteklnhogokjkkaa.AE
open Go Go.RowKit Go.Proofs Go.Proofs.Yteklnhogokjkkaa
set_option linter.unusedVariables false
set_option linter.unusedSimpArgs false
set_option maxRecDepth 100000
set_option maxHeartbeats 8000000
theorem journal_Decode (b : List Int) : aFun Try.prog 13 [.sl (numB .u8 b)] (decV b) := by
  refine aFun_defer Try.func13 rfl rfl (by simp [Try.ntmps13]) fun hreal h nx hfresh => ?_
  have hl : b.length < 4611686018427387904 := by
    have := (hreal (.sl (numB .u8 b)) (by simp)).sl.1
    rwa [numB_len] at this
  rw [Try.ntmps13]
  have e4 : ∀ tm : Nat → AV, evA tm (.const (.string { data := #[102, 115, 106, 49] })) = .str magJ := fun _ => rfl
  have hp := strings_HasPrefix magJ (b.take 4)
  have hmin : (if (4 : Int) < (b.length : Int) then 4 else (b.length : Int)) = ((min b.length 4 : Nat) : Int) := by split <;> omega
  have htk : b.take (min b.length 4) = b.take 4 := by rw [List.take_eq_take_min (i := 4), Nat.min_comm]
  have hM : ((min b.length 4 : Nat) : Int) ≤ (b.length : Int) := by omega
  generalize min b.length 4 = M at hmin htk hM
  have n8 := need_yes 8
  have n21 := need_yes 21
  have p8 := need_no 8
  have p21 := need_no 21
  by_cases c1 : b.take 4 <+: magJ
  rotate_left
  · have hd : decR b = .error 21 := by unfold decR; rw [if_pos c1]
    rw [decide_eq_false c1] at hp
    have FX := Fx.mk (And.intro @e4 <| And.intro @hmin <| And.intro @htk <| @hM)
    repeat (first | refine dfr0_ ?_ | refine v_ ?_ | refine u_ ?_ | refine f_ (hp) fun kf hkf => ?_ | refine p_ (p21) fun kf hkf => ?_ | refine nl_ ?_ | (refine nz_ ?_; first | (show aWp _ _ _ _ _) | skip) | refine sq_ ?_ | refine rg_ ?_ | refine k_ ?_ | refine ct_ ?_ | refine cf_ ?_ | refine bk_ ?_ | refine sc_ ?_ | (refine sk_ ?_; first | (show aWp _ _ _ _ _) | skip) | (refine ex_ ?_; first | (show aWp _ _ _ _ _) | skip) | refine rt_ ?_)
    exact dec_pan (decV_err hd) (by (have FX := Fx0; exact cl_)) (by (have FX := Fx0; exact cl_)) (by (have FX := Fx0; exact cl_)) (by (have FX := Fx0; exact cl_)) (by rfl) (by (have FX := Fx0; exact cl_)) (by (have FX := Fx0; exact cl_)) (fun n hn => by simp (disch := first | assumption | omega) only [upd_same, upd_ne]) (by first | omega | (simp only; omega))
  rw [decide_eq_true c1] at hp
  by_cases c2 : b.length < 22
  · have hd : decR b = .error 8 := by unfold decR; rw [if_neg (by simpa using c1), if_pos c2]
    have e2 : decide ((22 : Int) ≤ (b.length : Int)) = false := decide_eq_false (by omega)
    have FX := Fx.mk (And.intro @e4 <| And.intro @hmin <| And.intro @htk <| And.intro @hM <| @e2)
    repeat (first | refine dfr0_ ?_ | refine v_ ?_ | refine u_ ?_ | refine f_ (hp) fun kf hkf => ?_ | refine f_ (n21) fun kf hkf => ?_ | refine p_ (p8) fun kf hkf => ?_ | refine nl_ ?_ | (refine nz_ ?_; first | (show aWp _ _ _ _ _) | skip) | refine sq_ ?_ | refine rg_ ?_ | refine k_ ?_ | refine ct_ ?_ | refine cf_ ?_ | refine bk_ ?_ | refine sc_ ?_ | (refine sk_ ?_; first | (show aWp _ _ _ _ _) | skip) | (refine ex_ ?_; first | (show aWp _ _ _ _ _) | skip) | refine rt_ ?_)
    exact dec_pan (decV_err hd) (by (have FX := Fx0; exact cl_)) (by (have FX := Fx0; exact cl_)) (by (have FX := Fx0; exact cl_)) (by (have FX := Fx0; exact cl_)) (by rfl) (by (have FX := Fx0; exact cl_)) (by (have FX := Fx0; exact cl_)) (fun n hn => by simp (disch := first | assumption | omega) only [upd_same, upd_ne]) (by first | omega | (simp only; omega))
  have e2 : decide ((22 : Int) ≤ (b.length : Int)) = true := decide_eq_true (by omega)
  have q20 := numJ_lt b 20 2
  have q0 := numJ_nonneg b 20 2
  obtain ⟨np, hnp⟩ : ∃ np : Nat, numJ b 20 2 = (np : Int) := ⟨(numJ b 20 2).toNat, by omega⟩
  obtain ⟨Qs, hQ⟩ : ∃ x, min (numJ b 4 8) 4611686018427387904 = x := ⟨_, rfl⟩
  have v12 : min (numJ b 12 4) 4611686018427387904 = numJ b 12 4 := Int.min_eq_left (by have := numJ_lt b 12 4; have : (256 : Int) ^ 4 = 4294967296 := rfl; omega)
  have v16 : min (numJ b 16 4) 4611686018427387904 = numJ b 16 4 := Int.min_eq_left (by have := numJ_lt b 16 4; have : (256 : Int) ^ 4 = 4294967296 := rfl; omega)
  have v20 : min (numJ b 20 2) 4611686018427387904 = (np : Int) := by rw [hnp] at q20 ⊢; exact Int.min_eq_left (by have : (256 : Int) ^ 2 = 65536 := rfl; omega)
  have hrec : ∀ l, recD b l = ⟨Qs, numJ b 12 4, numJ b 16 4, l⟩ := fun l => by unfold recD; rw [hQ]
  obtain ⟨As, hA⟩ : ∃ x, numJ b 12 4 = x := ⟨_, rfl⟩
  obtain ⟨Bs, hB⟩ : ∃ x, numJ b 16 4 = x := ⟨_, rfl⟩
  replace v12 := v12.trans hA
  replace v16 := v16.trans hB
  rw [hA, hB] at hrec
  have FX := Fx.mk (And.intro @e4 <| And.intro @hmin <| And.intro @htk <| And.intro @hM <| @e2)
  repeat (first | refine dfr0_ ?_ | refine v_ ?_ | refine u_ ?_ | refine f_ (hp) fun kf hkf => ?_ | refine f_ (n21) fun kf hkf => ?_ | refine f_ (n8) fun kf hkf => ?_ | refine nl_ ?_ | (refine nz_ ?_; first | (show aWp _ _ _ _ _) | skip) | refine sq_ ?_ | refine rg_ ?_ | refine k_ ?_ | refine ct_ ?_ | refine cf_ ?_ | refine bk_ ?_ | refine sc_ ?_ | (refine sk_ ?_; first | (show aWp _ _ _ _ _) | skip) | (refine ex_ ?_; first | (show aWp _ _ _ _ _) | skip) | refine rt_ ?_)
  obtain ⟨kr, rfl⟩ : ∃ q, q = kf := ⟨kf, rfl⟩
  have hkr := hkf
  by_cases c3 : 256 < np
  · have hd : decR b = .error 21 := by unfold decR; rw [if_neg (by simpa using c1), if_neg c2, hnp, if_pos (by omega)]
    have e3 : decide ((np : Int) ≤ 256) = false := decide_eq_false (by omega)
    have FX := Fx.mk (@e3)
    repeat (first | refine v_ ?_ | refine u_ ?_ | refine e_ (J_num b 4 kr 8 8 rfl ⟨by decide, by decide⟩ (by omega) hl hQ (by exact cl_)) fun kf hkf => ?_ | refine e_ (J_num b (4 + 8) kr 4 4 rfl ⟨by decide, by decide⟩ (by omega) hl v12 (by exact cl_)) fun kf hkf => ?_ | refine e_ (J_num b (4 + 8 + 4) kr 4 4 rfl ⟨by decide, by decide⟩ (by omega) hl v16 (by exact cl_)) fun kf hkf => ?_ | refine e_ (J_num b (4 + 8 + 4 + 4) kr 2 2 rfl ⟨by decide, by decide⟩ (by omega) hl v20 (by exact cl_)) fun kf hkf => ?_ | refine p_ (p21) fun kf hkf => ?_ | refine nl_ ?_ | (refine nz_ ?_; first | (show aWp _ _ _ _ _) | skip) | refine sq_ ?_ | refine rg_ ?_ | refine k_ ?_ | refine ct_ ?_ | refine cf_ ?_ | refine bk_ ?_ | refine sc_ ?_ | (refine sk_ ?_; first | (show aWp _ _ _ _ _) | skip) | (refine ex_ ?_; first | (show aWp _ _ _ _ _) | skip) | refine rt_ ?_)
    exact dec_pan (decV_err hd) (by (have FX := Fx0; exact cl_)) (by (have FX := Fx0; exact cl_)) (by (have FX := Fx0; exact cl_)) (by (have FX := Fx0; exact cl_)) (by rfl) (by (have FX := Fx0; exact cl_)) (by (have FX := Fx0; exact cl_)) (fun n hn => by simp (disch := first | assumption | omega) only [upd_same, upd_ne]) (by first | omega | (simp only; omega))
  have e3 : decide ((np : Int) ≤ 256) = true := decide_eq_true (by omega)
  have FX := Fx.mk (@e3)
  repeat (first | refine v_ ?_ | refine u_ ?_ | refine e_ (J_num b 4 kr 8 8 rfl ⟨by decide, by decide⟩ (by omega) hl hQ (by exact cl_)) fun kf hkf => ?_ | refine e_ (J_num b (4 + 8) kr 4 4 rfl ⟨by decide, by decide⟩ (by omega) hl v12 (by exact cl_)) fun kf hkf => ?_ | refine e_ (J_num b (4 + 8 + 4) kr 4 4 rfl ⟨by decide, by decide⟩ (by omega) hl v16 (by exact cl_)) fun kf hkf => ?_ | refine e_ (J_num b (4 + 8 + 4 + 4) kr 2 2 rfl ⟨by decide, by decide⟩ (by omega) hl v20 (by exact cl_)) fun kf hkf => ?_ | refine f_ (n21) fun kf hkf => ?_ | refine nl_ ?_ | (refine nz_ ?_; first | (show aWp _ _ _ _ _) | skip) | refine sq_ ?_ | refine rg_ ?_ | refine k_ ?_ | refine ct_ ?_ | refine cf_ ?_ | refine bk_ ?_ | refine sc_ ?_ | (refine sk_ ?_; first | (show aWp _ _ _ _ _) | skip) | (refine ex_ ?_; first | (show aWp _ _ _ _ _) | skip) | refine rt_ ?_)
  have c22 : ((4 + 8 + 4 + 4 + 2 : Nat) : Int) = ((22 : Nat) : Int) := rfl
  refine W_loopK [0, 2, 3, 4, 5, 37] nx (fun k tm h q => ∃ (i : Nat) (l : List Pg) (a : Nat) (Pv : AV), i ≤ np ∧ k = np - i ∧ tm 38 = .int .i64 i ∧ runP b i = .ok (l, a) ∧ kr < q ∧ h nx = some ⟨4, [[.int .i64 Qs, .int .i64 As, .int .i64 Bs, Pv]]⟩ ∧ h (nx + 1) = some ⟨1, [[.int .i64 0]]⟩ ∧ h (nx + 1 + 1) = some ⟨1, [[.int .i64 0]]⟩ ∧ h kr = some ⟨2, [[.sl (numB .u8 b), .int .i64 (a : Int)]]⟩ ∧ ((Pv = .zs ∧ l = []) ∨ ∃ m, Pv = .hs m 0 l.length ∧ kr < m ∧ m < q ∧ h m = some ⟨2, pagesB l⟩)) np (by omega) ⟨0, [], 22, .zs, by omega, rfl, by (have FX := Fx0; exact cl_), rfl, by omega, by (have FX := Fx0; exact cl_), by (have FX := Fx0; exact cl_), by (have FX := Fx0; exact cl_), by (have FX := Fx.mk (@c22); exact cl_), .inl ⟨rfl, rfl⟩⟩ ?_
  rintro k tm' h' k' ⟨i, l, a, Pv, hi, rfl, h38, hrun, m1, b0, b1, b2, b3, hP⟩ hag hh hk'
  obtain ⟨rl1, rl2, rl3⟩ := runP_len (by omega) hrun
  have rl4 := runP_le hrun
  have tg2 : tm' 2 = .ptr nx 0 0 := by rw [hag 2 rfl]; (have FX := Fx0; exact cl_)
  have tg3 : tm' 3 = .ptr (nx + 1) 0 0 := by rw [hag 3 rfl]; (have FX := Fx0; exact cl_)
  have tg4 : tm' 4 = .ptr (nx + 1 + 1) 0 0 := by rw [hag 4 rfl]; (have FX := Fx0; exact cl_)
  have tg5 : tm' 5 = .ptr kr 0 0 := by rw [hag 5 rfl]; (have FX := Fx0; exact cl_)
  have tg0 : tm' 0 = .sl (numB .u8 b) := by rw [hag 0 rfl]; (have FX := Fx0; exact cl_)
  have tg37 : tm' 37 = .int .i64 np := by rw [hag 37 rfl]; (have FX := Fx0; exact cl_)
  by_cases hlt : i < np
  · have hdl : decide ((i : Int) < (np : Int)) = true := decide_eq_true (by omega)
    have hw : IntKind.i64.wrap (i + 1) = ((i + 1 : Nat) : Int) := by rw [wrapI] <;> omega
    cases hpd : pageD b a with
    | error e =>
      have hd : decR b = .error e := by unfold decR; rw [if_neg (by simpa using c1), if_neg c2, hnp, if_neg (by omega), Int.toNat_natCast, runP_bad hrun hpd hlt]
      have pe := fun nx' => page_err b a kr e hl rl3 hpd (nx := nx') b3
      have FX := Fx.mk (And.intro @h38 <| And.intro @tg37 <| @hdl)
      repeat (first | refine v_ ?_ | refine u_ ?_ | refine nl_ ?_ | (refine nz_ ?_; first | (show aWp _ _ _ _ _) | skip) | refine sq_ ?_ | refine rg_ ?_ | refine k_ ?_ | refine ct_ ?_ | refine cf_ ?_ | refine bk_ ?_ | refine sc_ ?_ | (refine sk_ ?_; first | (show aWp _ _ _ _ _) | skip) | (refine ex_ ?_; first | (show aWp _ _ _ _ _) | skip) | refine rt_ ?_)
      have FX := Fx.mk (And.intro tg2 <| And.intro tg5 <| b0)
      refine W_drawPanR 3 mixed rfl rfl rfl (f := 35) (args := [.ptr kr 0 0]) ?_ (by simp only [WS]) ?_
      · repeat (first | exact pe_ | refine pc_ ?_ | refine pq_ ?_ | refine ps_ ?_)
      · intro tm1 ht nx' hnx'
        have hnx2 := Nat.le_trans (Nat.le_add_right _ _) hnx'
        refine aCalls_mono (pe nx') ?_
        rintro e' h'' k'' ⟨rfl, g1, g2⟩
        refine ⟨_, rfl, ?_⟩
        exact dec_pan (decV_err hd) (by rw [ht 2 rfl]; (have FX := Fx.mk (@tg2); exact cl_)) (by rw [ht 3 rfl]; (have FX := Fx.mk (@tg3); exact cl_)) (by rw [ht 4 rfl]; (have FX := Fx.mk (@tg4); exact cl_)) (by rw [g1 nx (by omega) (by omega)]; exact b0) (by rfl) (by rw [g1 (nx + 1) (by omega) (by omega)]; exact b1) (by rw [g1 (nx + 2) (by omega) (by omega)]; exact b2) (fun n hn => by rw [g1 n (by omega) (by omega), hh n hn]; simp (disch := first | assumption | omega) only [upd_same, upd_ne]) (by omega)
    | ok pr =>
      obtain ⟨p, a'⟩ := pr
      have hrun2 := runP_step hrun hpd
      have plen := pagesB_len l
      have pap : pagesB (l ++ [p]) = pagesB l ++ [[.int .i64 p.1, .sl (numB .u8 p.2)]] := by simp [pagesB, pageB]
      have pap0 : pagesB ([] ++ [p]) = [[.int .i64 p.1, .sl (numB .u8 p.2)]] := rfl
      have pla : (l ++ [p]).length = l.length + 1 := by simp
      have hne : kr ≠ nx := by omega
      have ptk : (pagesB l).take l.length = pagesB l := List.take_of_length_le (by omega)
      have FX := Fx.mk (And.intro @h38 <| And.intro @tg37 <| @hdl)
      repeat (first | refine v_ ?_ | refine u_ ?_ | refine nl_ ?_ | (refine nz_ ?_; first | (show aWp _ _ _ _ _) | skip) | refine sq_ ?_ | refine rg_ ?_ | refine k_ ?_ | refine ct_ ?_ | refine cf_ ?_ | refine bk_ ?_ | refine sc_ ?_ | (refine sk_ ?_; first | (show aWp _ _ _ _ _) | skip) | (refine ex_ ?_; first | (show aWp _ _ _ _ _) | skip) | refine rt_ ?_)
      rcases hP with ⟨rfl, rfl⟩ | ⟨m, rfl, hm1, hm2, hm3⟩
      · have FX := Fx.mk (And.intro @tg2 <| And.intro @tg5 <| And.intro @b0 <| @b3)
        refine W_draw mixed rfl rfl ?_
        repeat (first | refine dq_ ?_ | (refine D_c [kr] (by exact cl_) (by simp only [WS]) (fun g q_ hg => by simp only [RdEq] at hg; exact page_ok b a kr p a' hl hpd (by first | rfl | (simp (disch := first | rfl | decide | omega | assumption | (simp only [LL]; omega)) only [WS, NB, WY, FX.out, hg]; first | done | rfl))) ?_) | refine dr_ [nx] ?_ | refine dm_ [nx, k' + (0 + 1 + 1 + 1 + 1)] ?_ | refine da_ [nx, k' + (0 + 1 + 1 + 1 + 1)] ?_ | refine ds_ [nx] ?_ | refine ds_ [nx, k' + (0 + 1 + 1 + 1 + 1)] ?_ | refine dw_ [nx] ?_ | refine dk_ ?_ | refine dn_ ?_)
        refine fun kd hkd => ?_
        simp only [List.length_cons, List.length_nil] at hkd
        first | (show aWp _ _ _ _ _) | skip
        have FX := Fx.mk (And.intro @h38 <| @hw)
        repeat (first | refine v_ ?_ | refine u_ ?_ | refine nl_ ?_ | (refine nz_ ?_; first | (show aWp _ _ _ _ _) | skip) | refine sq_ ?_ | refine rg_ ?_ | refine k_ ?_ | refine ct_ ?_ | refine cf_ ?_ | refine bk_ ?_ | refine sc_ ?_ | (refine sk_ ?_; first | (show aWp _ _ _ _ _) | skip) | (refine ex_ ?_; first | (show aWp _ _ _ _ _) | skip) | refine rt_ ?_)
        refine ⟨np - (i + 1), by omega, ⟨i + 1, [] ++ [p], a', .hs (k' + (1 + 1 + 1 + 1 + 1)) 0 1, by omega, rfl, by (have FX := Fx0; exact cl_), hrun2, by first | omega | (simp only; omega), by (have FX := Fx0; exact cl_), by (have FX := Fx.mk (@b1); exact cl_), by (have FX := Fx.mk (@b2); exact cl_), by (have FX := Fx0; exact cl_), .inr ⟨k' + (1 + 1 + 1 + 1 + 1), rfl, by omega, by first | omega | (simp only; omega), by (have FX := Fx.mk (@pap0); exact cl_)⟩⟩, ?_, ?_, by first | omega | (simp only; omega), rfl⟩
        · repeat (refine KAgree.upd rfl ?_)
          first | exact KAgree.refl _ _ | exact hag
        · exact (by have FX := Fx.mk (@hh); exact ha_)
      · have FX := Fx.mk (And.intro @tg2 <| And.intro @tg5 <| And.intro @b0 <| And.intro @b3 <| And.intro @hm3 <| And.intro @plen <| @ptk)
        refine W_draw mixed rfl rfl ?_
        repeat (first | refine dq_ ?_ | (refine D_c [kr] (by exact cl_) (by simp only [WS]) (fun g q_ hg => by simp only [RdEq] at hg; exact page_ok b a kr p a' hl hpd (by first | rfl | (simp (disch := first | rfl | decide | omega | assumption | (simp only [LL]; omega)) only [WS, NB, WY, FX.out, hg]; first | done | rfl))) ?_) | refine dr_ [nx] ?_ | refine dm_ [m, k' + (0 + 1 + 1 + 1 + 1)] ?_ | refine da_ [m, k' + (0 + 1 + 1 + 1 + 1)] ?_ | refine ds_ [nx] ?_ | refine ds_ [m, k' + (0 + 1 + 1 + 1 + 1)] ?_ | refine dw_ [nx] ?_ | refine dk_ ?_ | refine dn_ ?_)
        refine fun kd hkd => ?_
        simp only [List.length_cons, List.length_nil] at hkd
        first | (show aWp _ _ _ _ _) | skip
        have FX := Fx.mk (And.intro @h38 <| @hw)
        repeat (first | refine v_ ?_ | refine u_ ?_ | refine nl_ ?_ | (refine nz_ ?_; first | (show aWp _ _ _ _ _) | skip) | refine sq_ ?_ | refine rg_ ?_ | refine k_ ?_ | refine ct_ ?_ | refine cf_ ?_ | refine bk_ ?_ | refine sc_ ?_ | (refine sk_ ?_; first | (show aWp _ _ _ _ _) | skip) | (refine ex_ ?_; first | (show aWp _ _ _ _ _) | skip) | refine rt_ ?_)
        refine ⟨np - (i + 1), by omega, ⟨i + 1, l ++ [p], a', .hs (k' + (1 + 1 + 1 + 1 + 1)) 0 (l.length + 1), by omega, rfl, by (have FX := Fx0; exact cl_), hrun2, by first | omega | (simp only; omega), by (have FX := Fx0; exact cl_), by (have FX := Fx.mk (@b1); exact cl_), by (have FX := Fx.mk (@b2); exact cl_), by (have FX := Fx0; exact cl_), .inr ⟨k' + (1 + 1 + 1 + 1 + 1), by rw [pla], by omega, by first | omega | (simp only; omega), by (have FX := Fx.mk (@pap); exact cl_)⟩⟩, ?_, ?_, by first | omega | (simp only; omega), rfl⟩
        · repeat (refine KAgree.upd rfl ?_)
          first | exact KAgree.refl _ _ | exact hag
        · exact (by have FX := Fx.mk (@hh); exact ha_)
  obtain rfl : i = np := by omega
  have hdl : decide ((i : Int) < (i : Int)) = false := decide_eq_false (by omega)
  have pd := journal_padded (a + 4) (by omega)
  have w4 : IntKind.i64.wrap ((a : Int) + 4) = ((a + 4 : Nat) : Int) := by rw [wrapI] <;> omega
  have hdR : decR b = if b.length < padN (a + 4) then .error 8 else if (⟨Qs, As, Bs, l⟩ : Rec).ok ∧ (⟨Qs, As, Bs, l⟩ : Rec).enc = b.take (padN (a + 4)) then .ok (⟨Qs, As, Bs, l⟩, padN (a + 4)) else .error 21 := by
    unfold decR
    rw [if_neg (by simpa using c1), if_neg c2, hnp, if_neg (by omega), Int.toNat_natCast, hrun]
    simp only
    rw [hrec]
  generalize padN (a + 4) = n at pd hdR
  obtain ⟨hz, zz, z0, z1, z2, z3, z4, zh, hsub⟩ : ∃ (hz : AHeap) (zz : AV), hz nx = some ⟨4, [[.int .i64 Qs, .int .i64 As, .int .i64 Bs, zz]]⟩ ∧ hz (nx + 1) = some ⟨1, [[.int .i64 0]]⟩ ∧ hz (nx + 1 + 1) = some ⟨1, [[.int .i64 0]]⟩ ∧ hz kr = some ⟨2, [[.sl (numB .u8 b), .int .i64 (a : Int)]]⟩ ∧ ((zz = .zs ∧ l = []) ∨ zz = .sl (pagesB l)) ∧ (∀ q, q < nx → hz q = h' q) ∧ Sub ⟨tm', h', k', [⟨.func 31, [.ptr nx 0 0, .ptr (nx + 1) 0 0, .ptr (nx + 1 + 1) 0 0], []⟩]⟩ ⟨tm', hz, k', [⟨.func 31, [.ptr nx 0 0, .ptr (nx + 1) 0 0, .ptr (nx + 1 + 1) 0 0], []⟩]⟩ := by
    rcases hP with ⟨rfl, rfl⟩ | ⟨m, rfl, hm1, hm2, hm3⟩
    · exact ⟨h', _, b0, b1, b2, b3, .inl ⟨rfl, rfl⟩, fun _ _ => rfl, Sub.refl _⟩
    · have plen := pagesB_len l
      refine ⟨_, .sl (pagesB l), ?_, ?_, ?_, ?_, .inr rfl, ?_, Sub.freezeH (z := m) (m := nx) (b := ⟨2, pagesB l⟩) hm3 b0 (by omega)⟩
      · rw [upd_same]
        simp [frzN, plen, List.take_of_length_le]
      · rw [upd_ne _ _ _ (by omega), upd_ne _ _ _ (by omega)]; exact b1
      · rw [upd_ne _ _ _ (by omega), upd_ne _ _ _ (by omega)]; exact b2
      · rw [upd_ne _ _ _ (by omega), upd_ne _ _ _ (by omega)]; exact b3
      · intro q hq; rw [upd_ne _ _ _ (by omega), upd_ne _ _ _ (by omega)]
  refine aWp_sub hsub ?_
  have hw1 : weak1 zz = .sl (pagesB l) := by rcases z4 with ⟨rfl, rfl⟩ | rfl <;> rfl
  have q0 : decide ((0 : Int) = 0) = true := rfl
  by_cases c5 : b.length < n
  · have hd : decR b = .error 8 := by rw [hdR, if_pos c5]
    have e5 : decide ((n : Int) ≤ (b.length : Int)) = false := decide_eq_false (by omega)
    have FX := Fx.mk (And.intro @h38 <| And.intro @tg37 <| And.intro @hdl <| And.intro @tg0 <| And.intro @tg2 <| And.intro @tg3 <| And.intro @tg4 <| And.intro @tg5 <| And.intro @z0 <| And.intro @z1 <| And.intro @z2 <| And.intro @z3 <| And.intro @NL <| And.intro @w4 <| @e5)
    repeat (first | refine v_ ?_ | refine u_ ?_ | refine f_ (pd) fun kf hkf => ?_ | refine p_ (p8) fun kf hkf => ?_ | refine nl_ ?_ | (refine nz_ ?_; first | (show aWp _ _ _ _ _) | skip) | refine sq_ ?_ | refine rg_ ?_ | refine k_ ?_ | refine ct_ ?_ | refine cf_ ?_ | refine bk_ ?_ | refine sc_ ?_ | (refine sk_ ?_; first | (show aWp _ _ _ _ _) | skip) | (refine ex_ ?_; first | (show aWp _ _ _ _ _) | skip) | refine rt_ ?_)
    exact dec_pan (decV_err hd) (by (have FX := Fx.mk (@tg2); exact cl_)) (by (have FX := Fx.mk (@tg3); exact cl_)) (by (have FX := Fx.mk (@tg4); exact cl_)) (by (have FX := Fx.mk (@z0); exact cl_)) (by rfl) (by (have FX := Fx.mk (@z1); exact cl_)) (by (have FX := Fx.mk (@z2); exact cl_)) (fun q hq => by simp (disch := first | assumption | omega) only [upd_same, upd_ne, zh, hh]) (by first | omega | (simp only; omega))
  have e5 : decide ((n : Int) ≤ (b.length : Int)) = true := decide_eq_true (by omega)
  have l5 : (n : Int) ≤ (b.length : Int) := by omega
  by_cases c6 : (⟨Qs, As, Bs, l⟩ : Rec).ok
  rotate_left
  · have hd : decR b = .error 21 := by rw [hdR, if_neg c5, if_neg (fun q => c6 q.1)]
    have en : aFun Try.prog 11 [.agg [.int .i64 Qs, .int .i64 As, .int .i64 Bs, .sl (pagesB l)]] (.tup [.sl [], .int .i64 9]) := journal_Encode_bad _ c6
    have d9 : decide ((9 : Int) = 0) = false := rfl
    have FX := Fx.mk (And.intro @h38 <| And.intro @tg37 <| And.intro @hdl <| And.intro @tg0 <| And.intro @tg2 <| And.intro @tg3 <| And.intro @tg4 <| And.intro @tg5 <| And.intro @z0 <| And.intro @z1 <| And.intro @z2 <| And.intro @z3 <| And.intro @NL <| And.intro @w4 <| And.intro @e5 <| And.intro @hw1 <| @d9)
    repeat (first | refine v_ ?_ | refine u_ ?_ | refine f_ (pd) fun kf hkf => ?_ | refine f_ (n8) fun kf hkf => ?_ | refine f_ (en) fun kf hkf => ?_ | refine p_ (p21) fun kf hkf => ?_ | refine nl_ ?_ | (refine nz_ ?_; first | (show aWp _ _ _ _ _) | skip) | refine sq_ ?_ | refine rg_ ?_ | refine k_ ?_ | refine ct_ ?_ | refine cf_ ?_ | refine bk_ ?_ | refine sc_ ?_ | (refine sk_ ?_; first | (show aWp _ _ _ _ _) | skip) | (refine ex_ ?_; first | (show aWp _ _ _ _ _) | skip) | refine rt_ ?_)
    exact dec_pan (decV_err hd) (by (have FX := Fx.mk (@tg2); exact cl_)) (by (have FX := Fx.mk (@tg3); exact cl_)) (by (have FX := Fx.mk (@tg4); exact cl_)) (by (have FX := Fx.mk (@z0); exact cl_)) (by rfl) (by (have FX := Fx.mk (@z1); exact cl_)) (by (have FX := Fx.mk (@z2); exact cl_)) (fun q hq => by simp (disch := first | assumption | omega) only [upd_same, upd_ne, zh, hh]) (by first | omega | (simp only; omega))
  have en : aFun Try.prog 11 [.agg [.int .i64 Qs, .int .i64 As, .int .i64 Bs, .sl (pagesB l)]] (.tup [.sl (numB .u8 (⟨Qs, As, Bs, l⟩ : Rec).enc), .int .i64 0]) := (journal_Encode _ c6).fn_tup
  have eq := bytes_EqualJ (⟨Qs, As, Bs, l⟩ : Rec).enc (b.take n)
  by_cases c7 : (⟨Qs, As, Bs, l⟩ : Rec).enc = b.take n
  rotate_left
  · have hd : decR b = .error 21 := by rw [hdR, if_neg c5, if_neg (fun q => c7 q.2)]
    rw [decide_eq_false c7] at eq
    have FX := Fx.mk (And.intro @h38 <| And.intro @tg37 <| And.intro @hdl <| And.intro @tg0 <| And.intro @tg2 <| And.intro @tg3 <| And.intro @tg4 <| And.intro @tg5 <| And.intro @z0 <| And.intro @z1 <| And.intro @z2 <| And.intro @z3 <| And.intro @NL <| And.intro @w4 <| And.intro @e5 <| And.intro @l5 <| And.intro @hw1 <| @q0)
    repeat (first | refine v_ ?_ | refine u_ ?_ | refine f_ (pd) fun kf hkf => ?_ | refine f_ (n8) fun kf hkf => ?_ | refine f_ (en) fun kf hkf => ?_ | refine f_ (eq) fun kf hkf => ?_ | refine p_ (p21) fun kf hkf => ?_ | refine nl_ ?_ | (refine nz_ ?_; first | (show aWp _ _ _ _ _) | skip) | refine sq_ ?_ | refine rg_ ?_ | refine k_ ?_ | refine ct_ ?_ | refine cf_ ?_ | refine bk_ ?_ | refine sc_ ?_ | (refine sk_ ?_; first | (show aWp _ _ _ _ _) | skip) | (refine ex_ ?_; first | (show aWp _ _ _ _ _) | skip) | refine rt_ ?_)
    exact dec_pan (decV_err hd) (by (have FX := Fx.mk (@tg2); exact cl_)) (by (have FX := Fx.mk (@tg3); exact cl_)) (by (have FX := Fx.mk (@tg4); exact cl_)) (by (have FX := Fx.mk (@z0); exact cl_)) (by rfl) (by (have FX := Fx.mk (@z1); exact cl_)) (by (have FX := Fx.mk (@z2); exact cl_)) (fun q hq => by simp (disch := first | assumption | omega) only [upd_same, upd_ne, zh, hh]) (by first | omega | (simp only; omega))
  have hd : decR b = .ok (⟨Qs, As, Bs, l⟩, n) := by rw [hdR, if_neg c5, if_pos ⟨c6, c7⟩]
  rw [decide_eq_true c7] at eq
  have FX := Fx.mk (And.intro @h38 <| And.intro @tg37 <| And.intro @hdl <| And.intro @tg0 <| And.intro @tg2 <| And.intro @tg3 <| And.intro @tg4 <| And.intro @tg5 <| And.intro @z0 <| And.intro @z1 <| And.intro @z2 <| And.intro @z3 <| And.intro @NL <| And.intro @w4 <| And.intro @e5 <| And.intro @l5 <| And.intro @hw1 <| @q0)
  repeat (first | refine v_ ?_ | refine u_ ?_ | refine f_ (pd) fun kf hkf => ?_ | refine f_ (n8) fun kf hkf => ?_ | refine f_ (en) fun kf hkf => ?_ | refine f_ (eq) fun kf hkf => ?_ | refine f_ (n21) fun kf hkf => ?_ | refine nl_ ?_ | (refine nz_ ?_; first | (show aWp _ _ _ _ _) | skip) | refine sq_ ?_ | refine rg_ ?_ | refine k_ ?_ | refine ct_ ?_ | refine cf_ ?_ | refine bk_ ?_ | refine sc_ ?_ | (refine sk_ ?_; first | (show aWp _ _ _ _ _) | skip) | (refine ex_ ?_; first | (show aWp _ _ _ _ _) | skip) | refine rt_ ?_)
  have hv : decV b = .tup [.agg [.int .i64 Qs, .int .i64 As, .int .i64 Bs, .sl (pagesB l)], .int .i64 (n : Int), .int .i64 0] := decV_ok hd
  rcases z4 with ⟨rfl, rfl⟩ | rfl
  · have FX := Fx.mk (And.intro tg2 <| And.intro tg3 <| And.intro tg4 <| And.intro z0 <| And.intro z1 <| z2)
    refine W_draw mixed rfl rfl ?_
    refine dr_ [nx] ?_
    refine dr_ [nx + 1] ?_
    refine ds_ [nx] ?_
    refine ds_ [nx + 1] ?_
    refine ds_ [nx + 1 + 1] ?_
    refine dn_ ?_
    refine fun kd hkd => ?_
    simp only [List.length_cons, List.length_nil] at hkd
    first | (show aWp _ _ _ _ _) | skip
    have FX := Fx0
    repeat (first | refine v_ ?_ | refine u_ ?_ | refine nl_ ?_ | (refine nz_ ?_; first | (show aWp _ _ _ _ _) | skip) | refine sq_ ?_ | refine rg_ ?_ | refine k_ ?_ | refine ct_ ?_ | refine cf_ ?_ | refine bk_ ?_ | refine sc_ ?_ | (refine sk_ ?_; first | (show aWp _ _ _ _ _) | skip) | (refine ex_ ?_; first | (show aWp _ _ _ _ _) | skip) | refine rt_ ?_)
    exact dec_ret (by (have FX := Fx.mk (@tg2); exact cl_)) (by (have FX := Fx.mk (@tg3); exact cl_)) (by (have FX := Fx.mk (@tg4); exact cl_)) (by (have FX := Fx0; exact cl_)) (by (have FX := Fx0; exact cl_)) (by (have FX := Fx0; exact cl_)) (by rw [hv]; rfl) (fun q hq => by simp (disch := first | assumption | omega) only [upd_same, upd_ne, zh, hh]) (by first | omega | (simp only; omega))
  · have FX := Fx.mk (And.intro tg2 <| And.intro tg3 <| And.intro tg4 <| And.intro z0 <| And.intro z1 <| z2)
    refine W_draw mixed rfl rfl ?_
    refine dr_ [nx] ?_
    refine dr_ [nx + 1] ?_
    refine ds_ [nx] ?_
    refine ds_ [nx + 1] ?_
    refine ds_ [nx + 1 + 1] ?_
    refine dn_ ?_
    refine fun kd hkd => ?_
    simp only [List.length_cons, List.length_nil] at hkd
    first | (show aWp _ _ _ _ _) | skip
    have FX := Fx0
    repeat (first | refine v_ ?_ | refine u_ ?_ | refine nl_ ?_ | (refine nz_ ?_; first | (show aWp _ _ _ _ _) | skip) | refine sq_ ?_ | refine rg_ ?_ | refine k_ ?_ | refine ct_ ?_ | refine cf_ ?_ | refine bk_ ?_ | refine sc_ ?_ | (refine sk_ ?_; first | (show aWp _ _ _ _ _) | skip) | (refine ex_ ?_; first | (show aWp _ _ _ _ _) | skip) | refine rt_ ?_)
    exact dec_ret (by (have FX := Fx.mk (@tg2); exact cl_)) (by (have FX := Fx.mk (@tg3); exact cl_)) (by (have FX := Fx.mk (@tg4); exact cl_)) (by (have FX := Fx0; exact cl_)) (by (have FX := Fx0; exact cl_)) (by (have FX := Fx0; exact cl_)) (by rw [hv]; rfl) (fun q hq => by simp (disch := first | assumption | omega) only [upd_same, upd_ne, zh, hh]) (by first | omega | (simp only; omega))
end Go.Proofs.Yteklnhogokjkkaa.AE
