/- Layer 7: Decode, what it answers in memory of its own. -/
import Derived.Test.YtcnofpoffdjbpaaN18
namespace Go.Proofs.Ytcnofpoffdjbpaa.AE
open Go Go.RowKit Go.Proofs Go.Proofs.Ytcnofpoffdjbpaa
set_option linter.unusedVariables false
set_option linter.unusedSimpArgs false
set_option maxRecDepth 100000
set_option maxHeartbeats 8000000
def decQ (b : List Int) (nx : Nat) (a : AV) (h' : AHeap) (k' : Nat) : Prop :=
  ((decS b).2 ≠ 0 ∧ a = .tup [.agg [.zs, .zs], .int .i64 (decS b).2] ∧ h' = noH) ∨ ((decS b).2 = 0 ∧ ∃ nd, a = .tup [nd, .int .i64 0] ∧ nodQ noH nx (decS b).1.1 (decS b).1.2 nd h' k')
def decR (b : List Int) (nx : Nat) (a : AV) (h' : AHeap) (k' : Nat) : Prop :=
  (∀ q, q < nx → h' q = none) ∧ (((decS b).2 ≠ 0 ∧ a = .tup [.agg [.zs, .zs], .int .i64 (decS b).2]) ∨ ((decS b).2 = 0 ∧ ∃ nd, a = .tup [nd, .int .i64 0] ∧ nodR noH nx (decS b).1.1 (decS b).1.2 nd h' k'))
theorem decR_Q (b : List Int) (nx : Nat) {P : Program} {f : FuncId} {args : List AV} (hc : aCalls P f args noH nx (fun e h' k' => ∃ a, e = .ret a ∧ decR b nx a h' k')) : aCalls P f args noH nx (fun e h' k' => ∃ a, e = .ret a ∧ decQ b nx a h' k') := by
  refine aCalls_clean hc ?_
  rintro a h' k' ⟨q0, ⟨g, rfl⟩ | ⟨g, nd, rfl, q1, q2, ⟨m, rfl, q3, q4, q5, q6⟩ | ⟨m1, m2, rfl, q3, q4, q5, q6, q7, q8, q9⟩⟩⟩
  · refine ⟨fun _ => true, .inl ⟨g, rfl, by funext i; simp⟩⟩
  · refine ⟨fun i => decide (nx ≤ i ∧ i ≠ m), .inr ⟨g, _, rfl, q1, .inl ⟨m, rfl, q3, q4, q5, ?_⟩⟩⟩
    funext i
    by_cases e2 : i = m
    · subst e2; rw [upd_same]; simp [q6]
    · rw [upd_ne _ _ _ e2]
      by_cases e : nx ≤ i
      · simp [e, e2]
      · simp [e, q0 i (by omega)]
  · refine ⟨fun i => decide (nx ≤ i ∧ i ≠ m1 ∧ i ≠ m2), .inr ⟨g, _, rfl, q1, .inr ⟨m1, m2, rfl, q3, q4, q5, q6, q7, ?_⟩⟩⟩
    funext i
    by_cases e2 : i = m2
    · subst e2; rw [upd_same]; simp [q9]
    · rw [upd_ne _ _ _ e2]
      by_cases e1 : i = m1
      · subst e1; rw [upd_same]; simp [q8]
      · rw [upd_ne _ _ _ e1]
        by_cases e : nx ≤ i
        · simp [e, e1, e2]
        · simp [e, q0 i (by omega)]
theorem leaf_DecodeR (b : List Int) (nx : Nat) : aCalls Try.prog 19 [.sl (numB .u8 b)] noH nx (fun e h' k' => ∃ a, e = .ret a ∧ decQ b nx a h' k') := by
  refine decR_Q b nx ?_
  have hn := numB_len .u8 b
  have d1 : decide ((0 : Int) = 0) = true := rfl
  have d9 : decide ((9 : Int) = 0) = false := rfl
  by_cases hl : b.length = 64
  · have d0 : decide ((b.length : Int) = 64) = true := decide_eq_true (by omega)
    have op := crc_Open b (by omega)
    rcases open_cases hl with ho | ⟨ho, hx⟩
    · have hD : decS b = (([], []), 21) := by unfold decS; rw [if_neg (by omega), ho]; rfl
      have d21 : decide ((21 : Int) = 0) = false := rfl
      rw [ho] at op
      refine aR_body Try.func19 rfl rfl (by simp [Try.ntmps19]) fun hreal hfresh => ?_
      rw [Try.ntmps19]
      have FX := Fx.mk (And.intro @hn <| And.intro @d0 <| @d21)
      repeat (first | refine v_ ?_ | refine u_ ?_ | refine f_ (op) fun kf hkf => ?_ | refine nl_ ?_ | (refine nz_ ?_; first | (show aWp _ _ _ _ _) | skip) | refine sq_ ?_ | refine rg_ ?_ | refine k_ ?_ | refine ct_ ?_ | refine cf_ ?_ | refine bk_ ?_ | refine sc_ ?_ | (refine sk_ ?_; first | (show aWp _ _ _ _ _) | skip) | (refine ex_ ?_; first | (show aWp _ _ _ _ _) | skip) | refine rt_ ?_)
      refine W_endR (by rw [Try.results19]) (by (have FX := Fx0; exact cr_)) ⟨?_, .inl ⟨by rw [hD]; decide, by rw [hD]⟩⟩
      intro q hq; first | rfl | (simp (disch := first | rfl | decide | omega | assumption | (simp only [LL]; omega)) only [WS, NB, WY, noH]; first | done | rfl)
    · rw [ho] at op
      obtain ⟨x, hxe⟩ : ∃ x, (Pl.openS b).1 = x := ⟨_, rfl⟩
      rw [hxe] at op hx
      have itL := itemB_len (toldN x).1
      have nmL := numB_len .i64 (toldN x).2
      have tk1 := take_len _ _ itL
      have tk2 := take_len _ _ nmL
      obtain ⟨x0, e0⟩ : ∃ c, x[0]? = some c := ⟨_, List.getElem?_eq_getElem (by omega)⟩
      have g0 := numB_get .u8 x 0 x0 e0
      have hx0 : x.getD 0 0 = x0 := by rw [List.getD_eq_getElem?_getD, e0]; rfl
      by_cases hk : x0 = 1 ∨ x0 = 2
      · have hk2 : ¬ ((Pl.openS b).1.getD 0 0 ≠ 1 ∧ (Pl.openS b).1.getD 0 0 ≠ 2) := by rw [hxe, hx0]; omega
        by_cases hk1 : x0 = 1
        · have f1 : decide (x0 = 1) = true := decide_eq_true hk1
          refine aR_body Try.func19 rfl rfl (by simp [Try.ntmps19]) fun hreal hfresh => ?_
          rw [Try.ntmps19]
          have FX := Fx.mk (And.intro @hn <| And.intro @d0 <| And.intro @d1 <| And.intro @f1 <| And.intro @e0 <| @g0)
          repeat (first | refine v_ ?_ | refine u_ ?_ | refine f_ (op) fun kf hkf => ?_ | refine nl_ ?_ | (refine nz_ ?_; first | (show aWp _ _ _ _ _) | skip) | refine sq_ ?_ | refine rg_ ?_ | refine k_ ?_ | refine ct_ ?_ | refine cf_ ?_ | refine bk_ ?_ | refine sc_ ?_ | (refine sk_ ?_; first | (show aWp _ _ _ _ _) | skip) | (refine ex_ ?_; first | (show aWp _ _ _ _ _) | skip) | refine rt_ ?_)
          refine W_R rfl (by (have FX := Fx0; exact cl_)) (by simp only [WS]) (leaf_readR x hx (by rw [hx0]; exact hk) _ _) (by rintro a h' k' ⟨_, e, _⟩; cases e) ?_
          rintro av h9 k9 ⟨_, e, hk9, ⟨m1, rfl, hkd, q1, q2, rfl⟩ | ⟨m1, m2, rfl, q1, q2, q3, q4, q5, rfl⟩⟩
          · cases e
            have FX := Fx0
            repeat (first | refine v_ ?_ | refine u_ ?_ | refine nl_ ?_ | (refine nz_ ?_; first | (show aWp _ _ _ _ _) | skip) | refine sq_ ?_ | refine rg_ ?_ | refine k_ ?_ | refine ct_ ?_ | refine cf_ ?_ | refine bk_ ?_ | refine sc_ ?_ | (refine sk_ ?_; first | (show aWp _ _ _ _ _) | skip) | (refine ex_ ?_; first | (show aWp _ _ _ _ _) | skip) | refine rt_ ?_)
            -- DBG
            refine W_toldR rfl (by unfold calleeT; first | rfl | (simp (disch := first | rfl | decide | omega | assumption | (simp only [LL]; omega)) only [WS, NB, WY, hkd, told1, toldA, itL, nmL, tk1, tk2]; first | done | rfl)) (by simp only [WS]) (enc_told (toldN x).1 (toldN x).2 _) (enc_free _ _ _) ?_
            rintro v h5 k5 hE hk5 hfr5
            rcases hE with ⟨hok, me, rfl, me1, me2, rfl⟩ | ⟨hok, rfl, rfl⟩
            · rw [mergeH_upd me1, mergeH_no hfr5]
              have hel := numB_len .u8 (encS (toldN x).1 (toldN x).2)
              by_cases hb : encS (toldN x).1 (toldN x).2 = b
              · have hD : decS b = (toldN x, 0) := by unfold decS; rw [if_neg (by omega), if_neg (by rw [ho]; decide), if_neg hk2, hxe, if_pos ⟨hok, hb⟩]
                have eq := bytes_Equal b (encS (toldN x).1 (toldN x).2)
                rw [decide_eq_true hb.symm] at eq
                have FX := Fx.mk (@d1)
                repeat (first | refine v_ ?_ | refine u_ ?_ | refine nl_ ?_ | (refine nz_ ?_; first | (show aWp _ _ _ _ _) | skip) | refine sq_ ?_ | refine rg_ ?_ | refine k_ ?_ | refine ct_ ?_ | refine cf_ ?_ | refine bk_ ?_ | refine sc_ ?_ | (refine sk_ ?_; first | (show aWp _ _ _ _ _) | skip) | (refine ex_ ?_; first | (show aWp _ _ _ _ _) | skip) | refine rt_ ?_)
                have FX := Fx0; refine fz_ 44 ?_
                have FX := Fx.mk (And.intro @d1 <| ((fun α : Type => @List.take_length α)))
                repeat (first | refine v_ ?_ | refine u_ ?_ | refine f_ (eq) fun kf hkf => ?_ | refine nl_ ?_ | (refine nz_ ?_; first | (show aWp _ _ _ _ _) | skip) | refine sq_ ?_ | refine rg_ ?_ | refine k_ ?_ | refine ct_ ?_ | refine cf_ ?_ | refine bk_ ?_ | refine sc_ ?_ | (refine sk_ ?_; first | (show aWp _ _ _ _ _) | skip) | (refine ex_ ?_; first | (show aWp _ _ _ _ _) | skip) | refine rt_ ?_)
                -- DBG
                refine W_endR (by rw [Try.results19]) (by (have FX := Fx0; exact cr_)) ⟨?_, .inr ⟨by rw [hD], _, rfl, ?_⟩⟩
                · intro q hq; first | rfl | (simp (disch := first | rfl | decide | omega | assumption | (simp only [LL]; omega)) only [WS, NB, WY, noH]; first | done | rfl)
                · rw [hD]
                  refine ⟨by first | omega | (simp only; omega), ?_, .inl ⟨m1, by simp only [itL], hkd, by omega, by first | omega | (simp only; omega), ?_⟩⟩
                  all_goals first | (intro q hq; (first | rfl | (simp (disch := first | rfl | decide | omega | assumption | (simp only [LL]; omega)) only [WS, NB, WY, noH]; first | done | rfl))) | ((have FX := Fx0; exact cl_))
              · have hD : decS b = (([], []), 21) := by unfold decS; rw [if_neg (by omega), if_neg (by rw [ho]; decide), if_neg hk2, hxe, if_neg (fun h => hb h.2)]
                have eq := bytes_Equal b (encS (toldN x).1 (toldN x).2)
                rw [decide_eq_false (fun h => hb h.symm)] at eq
                have FX := Fx.mk (@d1)
                repeat (first | refine v_ ?_ | refine u_ ?_ | refine nl_ ?_ | (refine nz_ ?_; first | (show aWp _ _ _ _ _) | skip) | refine sq_ ?_ | refine rg_ ?_ | refine k_ ?_ | refine ct_ ?_ | refine cf_ ?_ | refine bk_ ?_ | refine sc_ ?_ | (refine sk_ ?_; first | (show aWp _ _ _ _ _) | skip) | (refine ex_ ?_; first | (show aWp _ _ _ _ _) | skip) | refine rt_ ?_)
                have FX := Fx0; refine fz_ 44 ?_
                have FX := Fx.mk (And.intro @d1 <| ((fun α : Type => @List.take_length α)))
                repeat (first | refine v_ ?_ | refine u_ ?_ | refine f_ (eq) fun kf hkf => ?_ | refine nl_ ?_ | (refine nz_ ?_; first | (show aWp _ _ _ _ _) | skip) | refine sq_ ?_ | refine rg_ ?_ | refine k_ ?_ | refine ct_ ?_ | refine cf_ ?_ | refine bk_ ?_ | refine sc_ ?_ | (refine sk_ ?_; first | (show aWp _ _ _ _ _) | skip) | (refine ex_ ?_; first | (show aWp _ _ _ _ _) | skip) | refine rt_ ?_)
                refine W_endR (by rw [Try.results19]) (by (have FX := Fx0; exact cr_)) ⟨?_, .inl ⟨by rw [hD]; decide, by rw [hD]⟩⟩
                intro q hq; first | rfl | (simp (disch := first | rfl | decide | omega | assumption | (simp only [LL]; omega)) only [WS, NB, WY, noH]; first | done | rfl)
            · rw [mergeH_no hfr5]
              have hD : decS b = (([], []), 21) := by unfold decS; rw [if_neg (by omega), if_neg (by rw [ho]; decide), if_neg hk2, hxe, if_neg (fun h => hok h.1)]
              have FX := Fx.mk (And.intro @d1 <| @d9)
              repeat (first | refine v_ ?_ | refine u_ ?_ | refine nl_ ?_ | (refine nz_ ?_; first | (show aWp _ _ _ _ _) | skip) | refine sq_ ?_ | refine rg_ ?_ | refine k_ ?_ | refine ct_ ?_ | refine cf_ ?_ | refine bk_ ?_ | refine sc_ ?_ | (refine sk_ ?_; first | (show aWp _ _ _ _ _) | skip) | (refine ex_ ?_; first | (show aWp _ _ _ _ _) | skip) | refine rt_ ?_)
              refine W_endR (by rw [Try.results19]) (by (have FX := Fx0; exact cr_)) ⟨?_, .inl ⟨by rw [hD]; decide, by rw [hD]⟩⟩
              intro q hq; first | rfl | (simp (disch := first | rfl | decide | omega | assumption | (simp only [LL]; omega)) only [WS, NB, WY, noH]; first | done | rfl)
          · cases e
            have FX := Fx0
            repeat (first | refine v_ ?_ | refine u_ ?_ | refine nl_ ?_ | (refine nz_ ?_; first | (show aWp _ _ _ _ _) | skip) | refine sq_ ?_ | refine rg_ ?_ | refine k_ ?_ | refine ct_ ?_ | refine cf_ ?_ | refine bk_ ?_ | refine sc_ ?_ | (refine sk_ ?_; first | (show aWp _ _ _ _ _) | skip) | (refine ex_ ?_; first | (show aWp _ _ _ _ _) | skip) | refine rt_ ?_)
            refine W_toldR rfl (by unfold calleeT; first | rfl | (simp (disch := first | rfl | decide | omega | assumption | (simp only [LL]; omega)) only [WS, NB, WY, d1, told1, toldA, itL, nmL, tk1, tk2]; first | done | rfl)) (by simp only [WS]) (enc_told (toldN x).1 (toldN x).2 _) (enc_free _ _ _) ?_
            rintro v h5 k5 hE hk5 hfr5
            rcases hE with ⟨hok, me, rfl, me1, me2, rfl⟩ | ⟨hok, rfl, rfl⟩
            · rw [mergeH_upd me1, mergeH_no hfr5]
              have hel := numB_len .u8 (encS (toldN x).1 (toldN x).2)
              by_cases hb : encS (toldN x).1 (toldN x).2 = b
              · have hD : decS b = (toldN x, 0) := by unfold decS; rw [if_neg (by omega), if_neg (by rw [ho]; decide), if_neg hk2, hxe, if_pos ⟨hok, hb⟩]
                have eq := bytes_Equal b (encS (toldN x).1 (toldN x).2)
                rw [decide_eq_true hb.symm] at eq
                have FX := Fx.mk (@d1)
                repeat (first | refine v_ ?_ | refine u_ ?_ | refine nl_ ?_ | (refine nz_ ?_; first | (show aWp _ _ _ _ _) | skip) | refine sq_ ?_ | refine rg_ ?_ | refine k_ ?_ | refine ct_ ?_ | refine cf_ ?_ | refine bk_ ?_ | refine sc_ ?_ | (refine sk_ ?_; first | (show aWp _ _ _ _ _) | skip) | (refine ex_ ?_; first | (show aWp _ _ _ _ _) | skip) | refine rt_ ?_)
                have FX := Fx0; refine fz_ 44 ?_
                have FX := Fx.mk (And.intro @d1 <| ((fun α : Type => @List.take_length α)))
                repeat (first | refine v_ ?_ | refine u_ ?_ | refine f_ (eq) fun kf hkf => ?_ | refine nl_ ?_ | (refine nz_ ?_; first | (show aWp _ _ _ _ _) | skip) | refine sq_ ?_ | refine rg_ ?_ | refine k_ ?_ | refine ct_ ?_ | refine cf_ ?_ | refine bk_ ?_ | refine sc_ ?_ | (refine sk_ ?_; first | (show aWp _ _ _ _ _) | skip) | (refine ex_ ?_; first | (show aWp _ _ _ _ _) | skip) | refine rt_ ?_)
                -- DBG
                refine W_endR (by rw [Try.results19]) (by (have FX := Fx0; exact cr_)) ⟨?_, .inr ⟨by rw [hD], _, rfl, ?_⟩⟩
                · intro q hq; first | rfl | (simp (disch := first | rfl | decide | omega | assumption | (simp only [LL]; omega)) only [WS, NB, WY, noH]; first | done | rfl)
                · rw [hD]
                  refine ⟨by first | omega | (simp only; omega), ?_, .inr ⟨m1, m2, by simp only [itL, numB_len], by omega, by omega, by omega, by first | omega | (simp only; omega), by first | omega | (simp only; omega), ?_, ?_⟩⟩
                  all_goals first | (intro q hq; (first | rfl | (simp (disch := first | rfl | decide | omega | assumption | (simp only [LL]; omega)) only [WS, NB, WY, noH]; first | done | rfl))) | ((have FX := Fx0; exact cl_))
              · have hD : decS b = (([], []), 21) := by unfold decS; rw [if_neg (by omega), if_neg (by rw [ho]; decide), if_neg hk2, hxe, if_neg (fun h => hb h.2)]
                have eq := bytes_Equal b (encS (toldN x).1 (toldN x).2)
                rw [decide_eq_false (fun h => hb h.symm)] at eq
                have FX := Fx.mk (@d1)
                repeat (first | refine v_ ?_ | refine u_ ?_ | refine nl_ ?_ | (refine nz_ ?_; first | (show aWp _ _ _ _ _) | skip) | refine sq_ ?_ | refine rg_ ?_ | refine k_ ?_ | refine ct_ ?_ | refine cf_ ?_ | refine bk_ ?_ | refine sc_ ?_ | (refine sk_ ?_; first | (show aWp _ _ _ _ _) | skip) | (refine ex_ ?_; first | (show aWp _ _ _ _ _) | skip) | refine rt_ ?_)
                have FX := Fx0; refine fz_ 44 ?_
                have FX := Fx.mk (And.intro @d1 <| ((fun α : Type => @List.take_length α)))
                repeat (first | refine v_ ?_ | refine u_ ?_ | refine f_ (eq) fun kf hkf => ?_ | refine nl_ ?_ | (refine nz_ ?_; first | (show aWp _ _ _ _ _) | skip) | refine sq_ ?_ | refine rg_ ?_ | refine k_ ?_ | refine ct_ ?_ | refine cf_ ?_ | refine bk_ ?_ | refine sc_ ?_ | (refine sk_ ?_; first | (show aWp _ _ _ _ _) | skip) | (refine ex_ ?_; first | (show aWp _ _ _ _ _) | skip) | refine rt_ ?_)
                refine W_endR (by rw [Try.results19]) (by (have FX := Fx0; exact cr_)) ⟨?_, .inl ⟨by rw [hD]; decide, by rw [hD]⟩⟩
                intro q hq; first | rfl | (simp (disch := first | rfl | decide | omega | assumption | (simp only [LL]; omega)) only [WS, NB, WY, noH]; first | done | rfl)
            · rw [mergeH_no hfr5]
              have hD : decS b = (([], []), 21) := by unfold decS; rw [if_neg (by omega), if_neg (by rw [ho]; decide), if_neg hk2, hxe, if_neg (fun h => hok h.1)]
              have FX := Fx.mk (And.intro @d1 <| @d9)
              repeat (first | refine v_ ?_ | refine u_ ?_ | refine nl_ ?_ | (refine nz_ ?_; first | (show aWp _ _ _ _ _) | skip) | refine sq_ ?_ | refine rg_ ?_ | refine k_ ?_ | refine ct_ ?_ | refine cf_ ?_ | refine bk_ ?_ | refine sc_ ?_ | (refine sk_ ?_; first | (show aWp _ _ _ _ _) | skip) | (refine ex_ ?_; first | (show aWp _ _ _ _ _) | skip) | refine rt_ ?_)
              refine W_endR (by rw [Try.results19]) (by (have FX := Fx0; exact cr_)) ⟨?_, .inl ⟨by rw [hD]; decide, by rw [hD]⟩⟩
              intro q hq; first | rfl | (simp (disch := first | rfl | decide | omega | assumption | (simp only [LL]; omega)) only [WS, NB, WY, noH]; first | done | rfl)
        · have f1 : decide (x0 = 1) = false := decide_eq_false hk1
          have f2 : decide (x0 = 2) = true := decide_eq_true (by omega)
          refine aR_body Try.func19 rfl rfl (by simp [Try.ntmps19]) fun hreal hfresh => ?_
          rw [Try.ntmps19]
          have FX := Fx.mk (And.intro @hn <| And.intro @d0 <| And.intro @d1 <| And.intro @f1 <| And.intro @f2 <| And.intro @e0 <| @g0)
          repeat (first | refine v_ ?_ | refine u_ ?_ | refine f_ (op) fun kf hkf => ?_ | refine nl_ ?_ | (refine nz_ ?_; first | (show aWp _ _ _ _ _) | skip) | refine sq_ ?_ | refine rg_ ?_ | refine k_ ?_ | refine ct_ ?_ | refine cf_ ?_ | refine bk_ ?_ | refine sc_ ?_ | (refine sk_ ?_; first | (show aWp _ _ _ _ _) | skip) | (refine ex_ ?_; first | (show aWp _ _ _ _ _) | skip) | refine rt_ ?_)
          refine W_R rfl (by (have FX := Fx0; exact cl_)) (by simp only [WS]) (leaf_readR x hx (by rw [hx0]; exact hk) _ _) (by rintro a h' k' ⟨_, e, _⟩; cases e) ?_
          rintro av h9 k9 ⟨_, e, hk9, ⟨m1, rfl, hkd, q1, q2, rfl⟩ | ⟨m1, m2, rfl, q1, q2, q3, q4, q5, rfl⟩⟩
          · cases e
            have FX := Fx0
            repeat (first | refine v_ ?_ | refine u_ ?_ | refine nl_ ?_ | (refine nz_ ?_; first | (show aWp _ _ _ _ _) | skip) | refine sq_ ?_ | refine rg_ ?_ | refine k_ ?_ | refine ct_ ?_ | refine cf_ ?_ | refine bk_ ?_ | refine sc_ ?_ | (refine sk_ ?_; first | (show aWp _ _ _ _ _) | skip) | (refine ex_ ?_; first | (show aWp _ _ _ _ _) | skip) | refine rt_ ?_)
            -- DBG
            refine W_toldR rfl (by unfold calleeT; first | rfl | (simp (disch := first | rfl | decide | omega | assumption | (simp only [LL]; omega)) only [WS, NB, WY, hkd, told1, toldA, itL, nmL, tk1, tk2]; first | done | rfl)) (by simp only [WS]) (enc_told (toldN x).1 (toldN x).2 _) (enc_free _ _ _) ?_
            rintro v h5 k5 hE hk5 hfr5
            rcases hE with ⟨hok, me, rfl, me1, me2, rfl⟩ | ⟨hok, rfl, rfl⟩
            · rw [mergeH_upd me1, mergeH_no hfr5]
              have hel := numB_len .u8 (encS (toldN x).1 (toldN x).2)
              by_cases hb : encS (toldN x).1 (toldN x).2 = b
              · have hD : decS b = (toldN x, 0) := by unfold decS; rw [if_neg (by omega), if_neg (by rw [ho]; decide), if_neg hk2, hxe, if_pos ⟨hok, hb⟩]
                have eq := bytes_Equal b (encS (toldN x).1 (toldN x).2)
                rw [decide_eq_true hb.symm] at eq
                have FX := Fx.mk (@d1)
                repeat (first | refine v_ ?_ | refine u_ ?_ | refine nl_ ?_ | (refine nz_ ?_; first | (show aWp _ _ _ _ _) | skip) | refine sq_ ?_ | refine rg_ ?_ | refine k_ ?_ | refine ct_ ?_ | refine cf_ ?_ | refine bk_ ?_ | refine sc_ ?_ | (refine sk_ ?_; first | (show aWp _ _ _ _ _) | skip) | (refine ex_ ?_; first | (show aWp _ _ _ _ _) | skip) | refine rt_ ?_)
                have FX := Fx0; refine fz_ 44 ?_
                have FX := Fx.mk (And.intro @d1 <| ((fun α : Type => @List.take_length α)))
                repeat (first | refine v_ ?_ | refine u_ ?_ | refine f_ (eq) fun kf hkf => ?_ | refine nl_ ?_ | (refine nz_ ?_; first | (show aWp _ _ _ _ _) | skip) | refine sq_ ?_ | refine rg_ ?_ | refine k_ ?_ | refine ct_ ?_ | refine cf_ ?_ | refine bk_ ?_ | refine sc_ ?_ | (refine sk_ ?_; first | (show aWp _ _ _ _ _) | skip) | (refine ex_ ?_; first | (show aWp _ _ _ _ _) | skip) | refine rt_ ?_)
                -- DBG
                refine W_endR (by rw [Try.results19]) (by (have FX := Fx0; exact cr_)) ⟨?_, .inr ⟨by rw [hD], _, rfl, ?_⟩⟩
                · intro q hq; first | rfl | (simp (disch := first | rfl | decide | omega | assumption | (simp only [LL]; omega)) only [WS, NB, WY, noH]; first | done | rfl)
                · rw [hD]
                  refine ⟨by first | omega | (simp only; omega), ?_, .inl ⟨m1, by simp only [itL], hkd, by omega, by first | omega | (simp only; omega), ?_⟩⟩
                  all_goals first | (intro q hq; (first | rfl | (simp (disch := first | rfl | decide | omega | assumption | (simp only [LL]; omega)) only [WS, NB, WY, noH]; first | done | rfl))) | ((have FX := Fx0; exact cl_))
              · have hD : decS b = (([], []), 21) := by unfold decS; rw [if_neg (by omega), if_neg (by rw [ho]; decide), if_neg hk2, hxe, if_neg (fun h => hb h.2)]
                have eq := bytes_Equal b (encS (toldN x).1 (toldN x).2)
                rw [decide_eq_false (fun h => hb h.symm)] at eq
                have FX := Fx.mk (@d1)
                repeat (first | refine v_ ?_ | refine u_ ?_ | refine nl_ ?_ | (refine nz_ ?_; first | (show aWp _ _ _ _ _) | skip) | refine sq_ ?_ | refine rg_ ?_ | refine k_ ?_ | refine ct_ ?_ | refine cf_ ?_ | refine bk_ ?_ | refine sc_ ?_ | (refine sk_ ?_; first | (show aWp _ _ _ _ _) | skip) | (refine ex_ ?_; first | (show aWp _ _ _ _ _) | skip) | refine rt_ ?_)
                have FX := Fx0; refine fz_ 44 ?_
                have FX := Fx.mk (And.intro @d1 <| ((fun α : Type => @List.take_length α)))
                repeat (first | refine v_ ?_ | refine u_ ?_ | refine f_ (eq) fun kf hkf => ?_ | refine nl_ ?_ | (refine nz_ ?_; first | (show aWp _ _ _ _ _) | skip) | refine sq_ ?_ | refine rg_ ?_ | refine k_ ?_ | refine ct_ ?_ | refine cf_ ?_ | refine bk_ ?_ | refine sc_ ?_ | (refine sk_ ?_; first | (show aWp _ _ _ _ _) | skip) | (refine ex_ ?_; first | (show aWp _ _ _ _ _) | skip) | refine rt_ ?_)
                refine W_endR (by rw [Try.results19]) (by (have FX := Fx0; exact cr_)) ⟨?_, .inl ⟨by rw [hD]; decide, by rw [hD]⟩⟩
                intro q hq; first | rfl | (simp (disch := first | rfl | decide | omega | assumption | (simp only [LL]; omega)) only [WS, NB, WY, noH]; first | done | rfl)
            · rw [mergeH_no hfr5]
              have hD : decS b = (([], []), 21) := by unfold decS; rw [if_neg (by omega), if_neg (by rw [ho]; decide), if_neg hk2, hxe, if_neg (fun h => hok h.1)]
              have FX := Fx.mk (And.intro @d1 <| @d9)
              repeat (first | refine v_ ?_ | refine u_ ?_ | refine nl_ ?_ | (refine nz_ ?_; first | (show aWp _ _ _ _ _) | skip) | refine sq_ ?_ | refine rg_ ?_ | refine k_ ?_ | refine ct_ ?_ | refine cf_ ?_ | refine bk_ ?_ | refine sc_ ?_ | (refine sk_ ?_; first | (show aWp _ _ _ _ _) | skip) | (refine ex_ ?_; first | (show aWp _ _ _ _ _) | skip) | refine rt_ ?_)
              refine W_endR (by rw [Try.results19]) (by (have FX := Fx0; exact cr_)) ⟨?_, .inl ⟨by rw [hD]; decide, by rw [hD]⟩⟩
              intro q hq; first | rfl | (simp (disch := first | rfl | decide | omega | assumption | (simp only [LL]; omega)) only [WS, NB, WY, noH]; first | done | rfl)
          · cases e
            have FX := Fx0
            repeat (first | refine v_ ?_ | refine u_ ?_ | refine nl_ ?_ | (refine nz_ ?_; first | (show aWp _ _ _ _ _) | skip) | refine sq_ ?_ | refine rg_ ?_ | refine k_ ?_ | refine ct_ ?_ | refine cf_ ?_ | refine bk_ ?_ | refine sc_ ?_ | (refine sk_ ?_; first | (show aWp _ _ _ _ _) | skip) | (refine ex_ ?_; first | (show aWp _ _ _ _ _) | skip) | refine rt_ ?_)
            refine W_toldR rfl (by unfold calleeT; first | rfl | (simp (disch := first | rfl | decide | omega | assumption | (simp only [LL]; omega)) only [WS, NB, WY, d1, told1, toldA, itL, nmL, tk1, tk2]; first | done | rfl)) (by simp only [WS]) (enc_told (toldN x).1 (toldN x).2 _) (enc_free _ _ _) ?_
            rintro v h5 k5 hE hk5 hfr5
            rcases hE with ⟨hok, me, rfl, me1, me2, rfl⟩ | ⟨hok, rfl, rfl⟩
            · rw [mergeH_upd me1, mergeH_no hfr5]
              have hel := numB_len .u8 (encS (toldN x).1 (toldN x).2)
              by_cases hb : encS (toldN x).1 (toldN x).2 = b
              · have hD : decS b = (toldN x, 0) := by unfold decS; rw [if_neg (by omega), if_neg (by rw [ho]; decide), if_neg hk2, hxe, if_pos ⟨hok, hb⟩]
                have eq := bytes_Equal b (encS (toldN x).1 (toldN x).2)
                rw [decide_eq_true hb.symm] at eq
                have FX := Fx.mk (@d1)
                repeat (first | refine v_ ?_ | refine u_ ?_ | refine nl_ ?_ | (refine nz_ ?_; first | (show aWp _ _ _ _ _) | skip) | refine sq_ ?_ | refine rg_ ?_ | refine k_ ?_ | refine ct_ ?_ | refine cf_ ?_ | refine bk_ ?_ | refine sc_ ?_ | (refine sk_ ?_; first | (show aWp _ _ _ _ _) | skip) | (refine ex_ ?_; first | (show aWp _ _ _ _ _) | skip) | refine rt_ ?_)
                have FX := Fx0; refine fz_ 44 ?_
                have FX := Fx.mk (And.intro @d1 <| ((fun α : Type => @List.take_length α)))
                repeat (first | refine v_ ?_ | refine u_ ?_ | refine f_ (eq) fun kf hkf => ?_ | refine nl_ ?_ | (refine nz_ ?_; first | (show aWp _ _ _ _ _) | skip) | refine sq_ ?_ | refine rg_ ?_ | refine k_ ?_ | refine ct_ ?_ | refine cf_ ?_ | refine bk_ ?_ | refine sc_ ?_ | (refine sk_ ?_; first | (show aWp _ _ _ _ _) | skip) | (refine ex_ ?_; first | (show aWp _ _ _ _ _) | skip) | refine rt_ ?_)
                -- DBG
                refine W_endR (by rw [Try.results19]) (by (have FX := Fx0; exact cr_)) ⟨?_, .inr ⟨by rw [hD], _, rfl, ?_⟩⟩
                · intro q hq; first | rfl | (simp (disch := first | rfl | decide | omega | assumption | (simp only [LL]; omega)) only [WS, NB, WY, noH]; first | done | rfl)
                · rw [hD]
                  refine ⟨by first | omega | (simp only; omega), ?_, .inr ⟨m1, m2, by simp only [itL, numB_len], by omega, by omega, by omega, by first | omega | (simp only; omega), by first | omega | (simp only; omega), ?_, ?_⟩⟩
                  all_goals first | (intro q hq; (first | rfl | (simp (disch := first | rfl | decide | omega | assumption | (simp only [LL]; omega)) only [WS, NB, WY, noH]; first | done | rfl))) | ((have FX := Fx0; exact cl_))
              · have hD : decS b = (([], []), 21) := by unfold decS; rw [if_neg (by omega), if_neg (by rw [ho]; decide), if_neg hk2, hxe, if_neg (fun h => hb h.2)]
                have eq := bytes_Equal b (encS (toldN x).1 (toldN x).2)
                rw [decide_eq_false (fun h => hb h.symm)] at eq
                have FX := Fx.mk (@d1)
                repeat (first | refine v_ ?_ | refine u_ ?_ | refine nl_ ?_ | (refine nz_ ?_; first | (show aWp _ _ _ _ _) | skip) | refine sq_ ?_ | refine rg_ ?_ | refine k_ ?_ | refine ct_ ?_ | refine cf_ ?_ | refine bk_ ?_ | refine sc_ ?_ | (refine sk_ ?_; first | (show aWp _ _ _ _ _) | skip) | (refine ex_ ?_; first | (show aWp _ _ _ _ _) | skip) | refine rt_ ?_)
                have FX := Fx0; refine fz_ 44 ?_
                have FX := Fx.mk (And.intro @d1 <| ((fun α : Type => @List.take_length α)))
                repeat (first | refine v_ ?_ | refine u_ ?_ | refine f_ (eq) fun kf hkf => ?_ | refine nl_ ?_ | (refine nz_ ?_; first | (show aWp _ _ _ _ _) | skip) | refine sq_ ?_ | refine rg_ ?_ | refine k_ ?_ | refine ct_ ?_ | refine cf_ ?_ | refine bk_ ?_ | refine sc_ ?_ | (refine sk_ ?_; first | (show aWp _ _ _ _ _) | skip) | (refine ex_ ?_; first | (show aWp _ _ _ _ _) | skip) | refine rt_ ?_)
                refine W_endR (by rw [Try.results19]) (by (have FX := Fx0; exact cr_)) ⟨?_, .inl ⟨by rw [hD]; decide, by rw [hD]⟩⟩
                intro q hq; first | rfl | (simp (disch := first | rfl | decide | omega | assumption | (simp only [LL]; omega)) only [WS, NB, WY, noH]; first | done | rfl)
            · rw [mergeH_no hfr5]
              have hD : decS b = (([], []), 21) := by unfold decS; rw [if_neg (by omega), if_neg (by rw [ho]; decide), if_neg hk2, hxe, if_neg (fun h => hok h.1)]
              have FX := Fx.mk (And.intro @d1 <| @d9)
              repeat (first | refine v_ ?_ | refine u_ ?_ | refine nl_ ?_ | (refine nz_ ?_; first | (show aWp _ _ _ _ _) | skip) | refine sq_ ?_ | refine rg_ ?_ | refine k_ ?_ | refine ct_ ?_ | refine cf_ ?_ | refine bk_ ?_ | refine sc_ ?_ | (refine sk_ ?_; first | (show aWp _ _ _ _ _) | skip) | (refine ex_ ?_; first | (show aWp _ _ _ _ _) | skip) | refine rt_ ?_)
              refine W_endR (by rw [Try.results19]) (by (have FX := Fx0; exact cr_)) ⟨?_, .inl ⟨by rw [hD]; decide, by rw [hD]⟩⟩
              intro q hq; first | rfl | (simp (disch := first | rfl | decide | omega | assumption | (simp only [LL]; omega)) only [WS, NB, WY, noH]; first | done | rfl)
      · have hD : decS b = (([], []), 22) := by unfold decS; rw [if_neg (by omega), if_neg (by rw [ho]; decide), if_pos (by rw [hxe, hx0]; omega)]
        have f1 : decide (x0 = 1) = false := decide_eq_false (by omega)
        have f2 : decide (x0 = 2) = false := decide_eq_false (by omega)
        refine aR_body Try.func19 rfl rfl (by simp [Try.ntmps19]) fun hreal hfresh => ?_
        rw [Try.ntmps19]
        have FX := Fx.mk (And.intro @hn <| And.intro @d0 <| And.intro @d1 <| And.intro @f1 <| And.intro @f2 <| And.intro @e0 <| @g0)
        repeat (first | refine v_ ?_ | refine u_ ?_ | refine f_ (op) fun kf hkf => ?_ | refine nl_ ?_ | (refine nz_ ?_; first | (show aWp _ _ _ _ _) | skip) | refine sq_ ?_ | refine rg_ ?_ | refine k_ ?_ | refine ct_ ?_ | refine cf_ ?_ | refine bk_ ?_ | refine sc_ ?_ | (refine sk_ ?_; first | (show aWp _ _ _ _ _) | skip) | (refine ex_ ?_; first | (show aWp _ _ _ _ _) | skip) | refine rt_ ?_)
        refine W_endR (by rw [Try.results19]) (by (have FX := Fx0; exact cr_)) ⟨?_, .inl ⟨by rw [hD]; decide, by rw [hD]⟩⟩
        intro q hq; first | rfl | (simp (disch := first | rfl | decide | omega | assumption | (simp only [LL]; omega)) only [WS, NB, WY, noH]; first | done | rfl)
  · have hD : decS b = (([], []), 8) := if_pos hl
    have d0 : decide ((b.length : Int) = 64) = false := decide_eq_false (by omega)
    refine aR_body Try.func19 rfl rfl (by simp [Try.ntmps19]) fun hreal hfresh => ?_
    rw [Try.ntmps19]
    have FX := Fx.mk (And.intro @hn <| @d0)
    repeat (first | refine v_ ?_ | refine u_ ?_ | refine nl_ ?_ | (refine nz_ ?_; first | (show aWp _ _ _ _ _) | skip) | refine sq_ ?_ | refine rg_ ?_ | refine k_ ?_ | refine ct_ ?_ | refine cf_ ?_ | refine bk_ ?_ | refine sc_ ?_ | (refine sk_ ?_; first | (show aWp _ _ _ _ _) | skip) | (refine ex_ ?_; first | (show aWp _ _ _ _ _) | skip) | refine rt_ ?_)
    refine W_endR (by rw [Try.results19]) (by (have FX := Fx0; exact cr_)) ⟨?_, .inl ⟨by rw [hD]; decide, by rw [hD]⟩⟩
    intro q hq; first | rfl | (simp (disch := first | rfl | decide | omega | assumption | (simp only [LL]; omega)) only [WS, NB, WY, noH]; first | done | rfl)
end Go.Proofs.Ytcnofpoffdjbpaa.AE
