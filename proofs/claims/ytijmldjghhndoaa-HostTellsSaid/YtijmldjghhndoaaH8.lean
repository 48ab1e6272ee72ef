/- Layer 3: Read. -/
import Derived.Test.YtijmldjghhndoaaH6
namespace Go.Proofs.Ytijmldjghhndoaa.AE
open Go Go.RowKit Go.Proofs Go.Proofs.Ytijmldjghhndoaa
set_option linter.unusedVariables false
set_option linter.unusedSimpArgs false
set_option maxRecDepth 100000
set_option maxHeartbeats 8000000
/-- P3.1: what a read answers. -/
def rdH (S : List (List Int)) (W : List Act3) (cap at_ : Int) : List Int × Int :=
  if ¬ okH S W cap then ([], 9) else if at_ < 0 ∨ ((allH S W).length : Int) ≤ at_ then ([], 4) else ((allH S W).getD at_.toNat [], 0)
theorem doH_get2 (S : List (List Int)) (x : Int) (y n : Nat) (d : List Int) (hx : x = 2) : (doH S (x, (y : Int), d))[n]? = if n < y then (if n < S.length then S[n]? else some z64) else none := by
  unfold doH
  rw [if_pos hx]
  simp only [Int.toNat_natCast]
  by_cases h1 : n < y
  · rw [if_pos h1]
    by_cases h2 : n < S.length
    · rw [if_pos h2, List.getElem?_append_left (by simp; omega), List.getElem?_take, if_pos h1]
    · rw [if_neg h2, List.getElem?_append_right (by simp; omega), List.getElem?_replicate, if_pos]
      simp
      omega
  · rw [if_neg h1, List.getElem?_eq_none]
    simp
    omega
theorem doH_get1 (S : List (List Int)) (x : Int) (y n : Nat) (d : List Int) (hx : x ≠ 2) : (doH S (x, (y : Int), d))[n]? = if y = n then (if n < S.length then some d else none) else S[n]? := by
  unfold doH
  rw [if_neg hx]
  simp only [Int.toNat_natCast]
  rw [List.getElem?_set]
  by_cases e : y = n
  · subst e
    simp
  · rw [if_neg e, if_neg e]
theorem host_Read (S : List (List Int)) (W : List Act3) (cap at_ : Int) : aFun Try.prog 16 [hostV S W cap, .int .i64 at_] (.tup [.sl (numB .u8 (rdH S W cap at_).1), .int .i64 (rdH S W cap at_).2]) := by
  have ck := host_Check S W cap
  have sz := host_size S W cap
  have i1 := secB_len S
  have i2 := actsB_len W
  have d0 : decide ((0 : Int) = 0) = true := rfl
  by_cases hok : okH S W cap
  · have hWl := hok.2.2.2.1
    rw [chkH_ok hok] at ck
    rw [size_all S W hok.2.2.2.2] at sz
    by_cases h1 : at_ < 0
    · rw [show rdH S W cap at_ = ([], 4) by unfold rdH; rw [if_neg (fun h => h hok), if_pos (.inl h1)]]
      have d1 : decide (at_ < 0) = true := decide_eq_true h1
      unfold hostV at ck sz ⊢
      refine aFun_body Try.func16 rfl rfl (by simp [Try.ntmps16]) fun hreal h nx hfresh => ?_
      rw [Try.ntmps16]
      repeat (first | (refine W_val rfl (by simp (disch := first | rfl | decide | omega | assumption | (simp only [LL]; omega)) only [WS, NB, WY, d0, d1]; first | done | rfl) (by first | exact Nat.le_refl _ | exact Nat.le_succ _) ?_) | (refine W_unit (by simp (disch := first | rfl | decide | omega | assumption | (simp only [LL]; omega)) only [WS, NB, WY, d0, d1]; first | done | rfl) ?_) | (refine Q_fun (by rfl) rfl (by first | rfl | (simp (disch := first | rfl | decide | omega | assumption | (simp only [LL]; omega)) only [WS, NB, WY, d0, d1]; first | done | rfl)) (by simp only [WS]) (ck) ?_; refine fun kf hkf => ?_) | (refine Q_funG (by rfl) (by first | rfl | (simp (disch := first | rfl | decide | omega | assumption | (simp only [LL]; omega)) only [WS, NB, WY, d0, d1]; first | done | rfl)) rfl (by first | rfl | (simp (disch := first | rfl | decide | omega | assumption | (simp only [LL]; omega)) only [WS, NB, WY, d0, d1]; first | done | rfl)) (by simp only [WS]) (ck) ?_; refine fun kf hkf => ?_) | (refine Q_fun (by rfl) rfl (by first | rfl | (simp (disch := first | rfl | decide | omega | assumption | (simp only [LL]; omega)) only [WS, NB, WY, d0, d1]; first | done | rfl)) (by simp only [WS]) (sz) ?_; refine fun kf hkf => ?_) | (refine Q_funG (by rfl) (by first | rfl | (simp (disch := first | rfl | decide | omega | assumption | (simp only [LL]; omega)) only [WS, NB, WY, d0, d1]; first | done | rfl)) rfl (by first | rfl | (simp (disch := first | rfl | decide | omega | assumption | (simp only [LL]; omega)) only [WS, NB, WY, d0, d1]; first | done | rfl)) (by simp only [WS]) (sz) ?_; refine fun kf hkf => ?_) | (refine W_nil ?_; first | (show aWp _ _ _ _ _) | skip) | refine aWp_seq ?_ | refine aWp_region ?_ | (refine W_skip (by first | rfl | (simp (disch := first | rfl | decide | omega | assumption | (simp only [LL]; omega)) only [WS, NB, WY, d0, d1]; first | done | rfl)) rfl ?_) | (refine W_want (by first | rfl | (simp (disch := first | rfl | decide | omega | assumption | (simp only [LL]; omega)) only [WS, NB, WY, d0, d1]; first | done | rfl)) rfl (by simp (disch := first | rfl | decide | omega | assumption | (simp only [LL]; omega)) only [WS, NB, WY, d0, d1]; first | done | rfl) (Nat.le_refl _) ?_) | (refine aWp_cond_t (by first | rfl | (simp (disch := first | rfl | decide | omega | assumption | (simp only [LL]; omega)) only [WS, NB, WY, d0, d1]; first | done | rfl)) ?_) | (refine aWp_cond_f (by first | rfl | (simp (disch := first | rfl | decide | omega | assumption | (simp only [LL]; omega)) only [WS, NB, WY, d0, d1]; first | done | rfl)) ?_) | refine aWp_block ?_ | refine aWp_scope ?_ | (refine aWp_skip ?_; first | (show aWp _ _ _ _ _) | skip) | (refine aWp_exit ?_; first | (show aWp _ _ _ _ _) | skip) | refine aWp_ret ?_)
      exact W_end (by omega) (by intro m hm; first | rfl | (simp (disch := first | assumption | omega) only [upd_ne]; first | done | rfl)) (by rw [Try.results16]) (by first | rfl | (simp (disch := first | rfl | decide | omega | assumption | (simp only [LL]; omega)) only [WS, NB, WY, RES]; first | done | rfl)) (by first | rfl | (simp (disch := first | rfl | decide | omega | assumption | (simp only [LL]; omega)) only [WS, NB, WY, FY]; first | done | rfl))
    have d1 : decide (at_ < 0) = false := decide_eq_false h1
    by_cases h2 : ((allH S W).length : Int) ≤ at_
    · rw [show rdH S W cap at_ = ([], 4) by unfold rdH; rw [if_neg (fun h => h hok), if_pos (.inr h2)]]
      have d2 : decide (((allH S W).length : Int) ≤ at_) = true := decide_eq_true h2
      unfold hostV at ck sz ⊢
      refine aFun_body Try.func16 rfl rfl (by simp [Try.ntmps16]) fun hreal h nx hfresh => ?_
      rw [Try.ntmps16]
      repeat (first | (refine W_val rfl (by simp (disch := first | rfl | decide | omega | assumption | (simp only [LL]; omega)) only [WS, NB, WY, d0, d1, d2]; first | done | rfl) (by first | exact Nat.le_refl _ | exact Nat.le_succ _) ?_) | (refine W_unit (by simp (disch := first | rfl | decide | omega | assumption | (simp only [LL]; omega)) only [WS, NB, WY, d0, d1, d2]; first | done | rfl) ?_) | (refine Q_fun (by rfl) rfl (by first | rfl | (simp (disch := first | rfl | decide | omega | assumption | (simp only [LL]; omega)) only [WS, NB, WY, d0, d1, d2]; first | done | rfl)) (by simp only [WS]) (ck) ?_; refine fun kf hkf => ?_) | (refine Q_funG (by rfl) (by first | rfl | (simp (disch := first | rfl | decide | omega | assumption | (simp only [LL]; omega)) only [WS, NB, WY, d0, d1, d2]; first | done | rfl)) rfl (by first | rfl | (simp (disch := first | rfl | decide | omega | assumption | (simp only [LL]; omega)) only [WS, NB, WY, d0, d1, d2]; first | done | rfl)) (by simp only [WS]) (ck) ?_; refine fun kf hkf => ?_) | (refine Q_fun (by rfl) rfl (by first | rfl | (simp (disch := first | rfl | decide | omega | assumption | (simp only [LL]; omega)) only [WS, NB, WY, d0, d1, d2]; first | done | rfl)) (by simp only [WS]) (sz) ?_; refine fun kf hkf => ?_) | (refine Q_funG (by rfl) (by first | rfl | (simp (disch := first | rfl | decide | omega | assumption | (simp only [LL]; omega)) only [WS, NB, WY, d0, d1, d2]; first | done | rfl)) rfl (by first | rfl | (simp (disch := first | rfl | decide | omega | assumption | (simp only [LL]; omega)) only [WS, NB, WY, d0, d1, d2]; first | done | rfl)) (by simp only [WS]) (sz) ?_; refine fun kf hkf => ?_) | (refine W_nil ?_; first | (show aWp _ _ _ _ _) | skip) | refine aWp_seq ?_ | refine aWp_region ?_ | (refine W_skip (by first | rfl | (simp (disch := first | rfl | decide | omega | assumption | (simp only [LL]; omega)) only [WS, NB, WY, d0, d1, d2]; first | done | rfl)) rfl ?_) | (refine W_want (by first | rfl | (simp (disch := first | rfl | decide | omega | assumption | (simp only [LL]; omega)) only [WS, NB, WY, d0, d1, d2]; first | done | rfl)) rfl (by simp (disch := first | rfl | decide | omega | assumption | (simp only [LL]; omega)) only [WS, NB, WY, d0, d1, d2]; first | done | rfl) (Nat.le_refl _) ?_) | (refine aWp_cond_t (by first | rfl | (simp (disch := first | rfl | decide | omega | assumption | (simp only [LL]; omega)) only [WS, NB, WY, d0, d1, d2]; first | done | rfl)) ?_) | (refine aWp_cond_f (by first | rfl | (simp (disch := first | rfl | decide | omega | assumption | (simp only [LL]; omega)) only [WS, NB, WY, d0, d1, d2]; first | done | rfl)) ?_) | refine aWp_block ?_ | refine aWp_scope ?_ | (refine aWp_skip ?_; first | (show aWp _ _ _ _ _) | skip) | (refine aWp_exit ?_; first | (show aWp _ _ _ _ _) | skip) | refine aWp_ret ?_)
      exact W_end (by omega) (by intro m hm; first | rfl | (simp (disch := first | assumption | omega) only [upd_ne]; first | done | rfl)) (by rw [Try.results16]) (by first | rfl | (simp (disch := first | rfl | decide | omega | assumption | (simp only [LL]; omega)) only [WS, NB, WY, RES]; first | done | rfl)) (by first | rfl | (simp (disch := first | rfl | decide | omega | assumption | (simp only [LL]; omega)) only [WS, NB, WY, FY]; first | done | rfl))
    have d2 : decide (((allH S W).length : Int) ≤ at_) = false := decide_eq_false h2
    obtain ⟨n, rfl⟩ : ∃ n : Nat, at_ = (n : Int) := ⟨at_.toNat, by omega⟩
    obtain ⟨s, hs⟩ : ∃ s, (allH S W)[n]? = some s := ⟨_, List.getElem?_eq_getElem (by omega)⟩
    rw [show rdH S W cap (n : Int) = (s, 0) by unfold rdH; rw [if_neg (fun h => h hok), if_neg (by omega), Int.toNat_natCast, List.getD_eq_getElem?_getD, hs]; rfl]
    unfold hostV at ck sz ⊢
    by_cases h3 : n < S.length
    · have d3 : decide ((n : Int) < (S.length : Int)) = true := decide_eq_true (by omega)
      obtain ⟨c, hc0⟩ : ∃ c, S[n]? = some c := ⟨_, List.getElem?_eq_getElem h3⟩
      have hc := secB_get S n c hc0
      have hc64 := hok.2.2.1 c (List.mem_of_getElem? hc0)
      have hct := take_len _ _ hc64
      refine aFun_body Try.func16 rfl rfl (by simp [Try.ntmps16]) fun hreal h nx hfresh => ?_
      rw [Try.ntmps16]
      repeat (first | (refine W_val rfl (by simp (disch := first | rfl | decide | omega | assumption | (simp only [LL]; omega)) only [WS, NB, WY, d0, d1, d2, i1, i2, d3, hc, hc64, hct]; first | done | rfl) (by first | exact Nat.le_refl _ | exact Nat.le_succ _) ?_) | (refine W_unit (by simp (disch := first | rfl | decide | omega | assumption | (simp only [LL]; omega)) only [WS, NB, WY, d0, d1, d2, i1, i2, d3, hc, hc64, hct]; first | done | rfl) ?_) | (refine Q_fun (by rfl) rfl (by first | rfl | (simp (disch := first | rfl | decide | omega | assumption | (simp only [LL]; omega)) only [WS, NB, WY, d0, d1, d2, i1, i2, d3, hc, hc64, hct]; first | done | rfl)) (by simp only [WS]) (ck) ?_; refine fun kf hkf => ?_) | (refine Q_funG (by rfl) (by first | rfl | (simp (disch := first | rfl | decide | omega | assumption | (simp only [LL]; omega)) only [WS, NB, WY, d0, d1, d2, i1, i2, d3, hc, hc64, hct]; first | done | rfl)) rfl (by first | rfl | (simp (disch := first | rfl | decide | omega | assumption | (simp only [LL]; omega)) only [WS, NB, WY, d0, d1, d2, i1, i2, d3, hc, hc64, hct]; first | done | rfl)) (by simp only [WS]) (ck) ?_; refine fun kf hkf => ?_) | (refine Q_fun (by rfl) rfl (by first | rfl | (simp (disch := first | rfl | decide | omega | assumption | (simp only [LL]; omega)) only [WS, NB, WY, d0, d1, d2, i1, i2, d3, hc, hc64, hct]; first | done | rfl)) (by simp only [WS]) (sz) ?_; refine fun kf hkf => ?_) | (refine Q_funG (by rfl) (by first | rfl | (simp (disch := first | rfl | decide | omega | assumption | (simp only [LL]; omega)) only [WS, NB, WY, d0, d1, d2, i1, i2, d3, hc, hc64, hct]; first | done | rfl)) rfl (by first | rfl | (simp (disch := first | rfl | decide | omega | assumption | (simp only [LL]; omega)) only [WS, NB, WY, d0, d1, d2, i1, i2, d3, hc, hc64, hct]; first | done | rfl)) (by simp only [WS]) (sz) ?_; refine fun kf hkf => ?_) | (refine W_nil ?_; first | (show aWp _ _ _ _ _) | skip) | refine aWp_seq ?_ | refine aWp_region ?_ | (refine W_skip (by first | rfl | (simp (disch := first | rfl | decide | omega | assumption | (simp only [LL]; omega)) only [WS, NB, WY, d0, d1, d2, i1, i2, d3, hc, hc64, hct]; first | done | rfl)) rfl ?_) | (refine W_want (by first | rfl | (simp (disch := first | rfl | decide | omega | assumption | (simp only [LL]; omega)) only [WS, NB, WY, d0, d1, d2, i1, i2, d3, hc, hc64, hct]; first | done | rfl)) rfl (by simp (disch := first | rfl | decide | omega | assumption | (simp only [LL]; omega)) only [WS, NB, WY, d0, d1, d2, i1, i2, d3, hc, hc64, hct]; first | done | rfl) (Nat.le_refl _) ?_) | (refine aWp_cond_t (by first | rfl | (simp (disch := first | rfl | decide | omega | assumption | (simp only [LL]; omega)) only [WS, NB, WY, d0, d1, d2, i1, i2, d3, hc, hc64, hct]; first | done | rfl)) ?_) | (refine aWp_cond_f (by first | rfl | (simp (disch := first | rfl | decide | omega | assumption | (simp only [LL]; omega)) only [WS, NB, WY, d0, d1, d2, i1, i2, d3, hc, hc64, hct]; first | done | rfl)) ?_) | refine aWp_block ?_ | refine aWp_scope ?_ | (refine aWp_skip ?_; first | (show aWp _ _ _ _ _) | skip) | (refine aWp_exit ?_; first | (show aWp _ _ _ _ _) | skip) | refine aWp_ret ?_)
      refine W_loopK [1, 2, 7, 40, 41] (nx + 1) (fun r tm h q => ∃ (i : Nat) (out : List Int), i ≤ W.length ∧ r = W.length - i ∧ tm 42 = .int .i64 i ∧ kf < q ∧ tm 8 = .bool (decide (n < (allH S (W.take i)).length)) ∧ h kf = some ⟨1, numB .u8 out⟩ ∧ out.length = 64 ∧ (∀ s, (allH S (W.take i))[n]? = some s → out = s)) W.length (by omega) ⟨0, c, Nat.zero_le _, rfl, rfl, by first | omega | (simp only; omega), ?_, ?_, hc64, ?_⟩ ?_
      · rw [show decide (n < (allH S (W.take 0)).length) = true from decide_eq_true (by simp [allH]; omega)]; first | rfl | (simp (disch := first | rfl | decide | omega | assumption | (simp only [LL]; omega)) only [WS, NB, WY]; first | done | rfl)
      · first | rfl | (simp (disch := first | rfl | decide | omega | assumption | (simp only [LL]; omega)) only [WS, NB, WY, hc64, hct]; first | done | rfl)
      · intro s' hs'; (have : S[n]? = some s' := hs'); rw [hc0] at this; cases this; rfl
      rintro r tm' h' k' ⟨i, out, hi, rfl, h42, hk3, h8, b1, hol, hout⟩ hag hh hk'
      by_cases hlt : i < W.length
      · have hd : decide ((i : Int) < (W.length : Int)) = true := decide_eq_true (by omega)
        have hw : IntKind.i64.wrap (i + 1) = ((i + 1 : Nat) : Int) := by rw [wrapI] <;> omega
        obtain ⟨⟨x, y, d⟩, hx0⟩ : ∃ a, W[i]? = some a := ⟨W[i], List.getElem?_eq_getElem hlt⟩
        have hma := hok.2.2.2.2 _ (List.mem_of_getElem? hx0)
        have hx := actsB_get W i _ hx0
        have hst := allH_step S W i _ hx0
        obtain ⟨y, rfl⟩ : ∃ z : Nat, y = (z : Int) := ⟨y.toNat, by have := mayP_at hma; simp only at this; omega⟩
        have hdr : out.drop 64 = [] := List.drop_of_length_le (by omega)
        obtain ⟨cur, hcur⟩ : ∃ c, allH S (W.take i) = c := ⟨_, rfl⟩
        rw [hcur] at h8 hout hst
        simp only at hx
        have hlen := doH_len cur (x, (y : Int), d) (by simp only; omega)
        simp only at hlen
        by_cases hx2 : x = 2
        · have e2 : decide (x = 2) = true := decide_eq_true hx2
          have hg := doH_get2 cur x y n d hx2
          rw [if_pos hx2] at hlen
          by_cases hny : n < y
          · have e3 : decide ((n : Int) < (y : Int)) = true := decide_eq_true (by omega)
            have g1 : decide (n < (doH cur (x, (y : Int), d)).length) = true := decide_eq_true (by omega)
            rw [if_pos hny] at hg
            by_cases hnc : n < cur.length
            · have e4 : decide (n < cur.length) = true := decide_eq_true hnc
              rw [if_pos hnc] at hg
              repeat (first | (refine W_val rfl (by simp (disch := first | rfl | decide | omega | assumption | (simp only [LL]; omega)) only [WS, NB, WY, hag, h42, h8, hh, hd, hw, hx, b1, hol, i1, i2, e2, e3, e4]; first | done | rfl) (by first | exact Nat.le_refl _ | exact Nat.le_succ _) ?_) | (refine W_unit (by simp (disch := first | rfl | decide | omega | assumption | (simp only [LL]; omega)) only [WS, NB, WY, hag, h42, h8, hh, hd, hw, hx, b1, hol, i1, i2, e2, e3, e4]; first | done | rfl) ?_) | (refine W_nil ?_; first | (show aWp _ _ _ _ _) | skip) | refine aWp_seq ?_ | refine aWp_region ?_ | (refine W_skip (by first | rfl | (simp (disch := first | rfl | decide | omega | assumption | (simp only [LL]; omega)) only [WS, NB, WY, hag, h42, h8, hh, hd, hw, hx, b1, hol, i1, i2, e2, e3, e4]; first | done | rfl)) rfl ?_) | (refine W_want (by first | rfl | (simp (disch := first | rfl | decide | omega | assumption | (simp only [LL]; omega)) only [WS, NB, WY, hag, h42, h8, hh, hd, hw, hx, b1, hol, i1, i2, e2, e3, e4]; first | done | rfl)) rfl (by simp (disch := first | rfl | decide | omega | assumption | (simp only [LL]; omega)) only [WS, NB, WY, hag, h42, h8, hh, hd, hw, hx, b1, hol, i1, i2, e2, e3, e4]; first | done | rfl) (Nat.le_refl _) ?_) | (refine aWp_cond_t (by first | rfl | (simp (disch := first | rfl | decide | omega | assumption | (simp only [LL]; omega)) only [WS, NB, WY, hag, h42, h8, hh, hd, hw, hx, b1, hol, i1, i2, e2, e3, e4]; first | done | rfl)) ?_) | (refine aWp_cond_f (by first | rfl | (simp (disch := first | rfl | decide | omega | assumption | (simp only [LL]; omega)) only [WS, NB, WY, hag, h42, h8, hh, hd, hw, hx, b1, hol, i1, i2, e2, e3, e4]; first | done | rfl)) ?_) | refine aWp_block ?_ | refine aWp_scope ?_ | (refine aWp_skip ?_; first | (show aWp _ _ _ _ _) | skip) | (refine aWp_exit ?_; first | (show aWp _ _ _ _ _) | skip) | refine aWp_ret ?_)
              -- DBG
              refine ⟨W.length - (i + 1), by omega, ⟨i + 1, out, by omega, rfl, ?_, by first | omega | (simp only; omega), ?_, ?_, hol, ?_⟩, ?_, ?_, by first | omega | (simp only; omega), rfl⟩
              · first | rfl | (simp (disch := first | rfl | decide | omega | assumption | (simp only [LL]; omega)) only [WS, NB, WY]; first | done | rfl)
              · first | rfl | (simp (disch := first | rfl | decide | omega | assumption | (simp only [LL]; omega)) only [WS, NB, WY, h8, hst, g1]; first | done | rfl)
              · first | rfl | (simp (disch := first | rfl | decide | omega | assumption | (simp only [LL]; omega)) only [WS, NB, WY, b1, e2, e3, e4, hol, hdr, List.append_nil]; first | done | rfl)
              · rw [hst]
                intro s' hs'; rw [hg] at hs'; exact hout s' hs'
              · repeat (refine KAgree.upd rfl ?_)
                first | exact KAgree.refl _ _ | exact hag
              · exact (by intro m hm; first | rfl | (simp (disch := first | assumption | omega) only [upd_ne, hh]; first | done | rfl))
            · have e4 : decide (n < cur.length) = false := decide_eq_false hnc
              rw [if_neg hnc] at hg
              repeat (first | (refine W_val rfl (by simp (disch := first | rfl | decide | omega | assumption | (simp only [LL]; omega)) only [WS, NB, WY, hag, h42, h8, hh, hd, hw, hx, b1, hol, i1, i2, e2, e3, e4]; first | done | rfl) (by first | exact Nat.le_refl _ | exact Nat.le_succ _) ?_) | (refine W_unit (by simp (disch := first | rfl | decide | omega | assumption | (simp only [LL]; omega)) only [WS, NB, WY, hag, h42, h8, hh, hd, hw, hx, b1, hol, i1, i2, e2, e3, e4]; first | done | rfl) ?_) | (refine W_nil ?_; first | (show aWp _ _ _ _ _) | skip) | refine aWp_seq ?_ | refine aWp_region ?_ | (refine W_skip (by first | rfl | (simp (disch := first | rfl | decide | omega | assumption | (simp only [LL]; omega)) only [WS, NB, WY, hag, h42, h8, hh, hd, hw, hx, b1, hol, i1, i2, e2, e3, e4]; first | done | rfl)) rfl ?_) | (refine W_want (by first | rfl | (simp (disch := first | rfl | decide | omega | assumption | (simp only [LL]; omega)) only [WS, NB, WY, hag, h42, h8, hh, hd, hw, hx, b1, hol, i1, i2, e2, e3, e4]; first | done | rfl)) rfl (by simp (disch := first | rfl | decide | omega | assumption | (simp only [LL]; omega)) only [WS, NB, WY, hag, h42, h8, hh, hd, hw, hx, b1, hol, i1, i2, e2, e3, e4]; first | done | rfl) (Nat.le_refl _) ?_) | (refine aWp_cond_t (by first | rfl | (simp (disch := first | rfl | decide | omega | assumption | (simp only [LL]; omega)) only [WS, NB, WY, hag, h42, h8, hh, hd, hw, hx, b1, hol, i1, i2, e2, e3, e4]; first | done | rfl)) ?_) | (refine aWp_cond_f (by first | rfl | (simp (disch := first | rfl | decide | omega | assumption | (simp only [LL]; omega)) only [WS, NB, WY, hag, h42, h8, hh, hd, hw, hx, b1, hol, i1, i2, e2, e3, e4]; first | done | rfl)) ?_) | refine aWp_block ?_ | refine aWp_scope ?_ | (refine aWp_skip ?_; first | (show aWp _ _ _ _ _) | skip) | (refine aWp_exit ?_; first | (show aWp _ _ _ _ _) | skip) | refine aWp_ret ?_)
              -- DBG
              refine ⟨W.length - (i + 1), by omega, ⟨i + 1, z64, by omega, rfl, ?_, by first | omega | (simp only; omega), ?_, ?_, rfl, ?_⟩, ?_, ?_, by first | omega | (simp only; omega), rfl⟩
              · first | rfl | (simp (disch := first | rfl | decide | omega | assumption | (simp only [LL]; omega)) only [WS, NB, WY]; first | done | rfl)
              · first | rfl | (simp (disch := first | rfl | decide | omega | assumption | (simp only [LL]; omega)) only [WS, NB, WY, h8, hst, g1]; first | done | rfl)
              · first | rfl | (simp (disch := first | rfl | decide | omega | assumption | (simp only [LL]; omega)) only [WS, NB, WY, b1, e2, e3, e4, hol, hdr, List.append_nil]; first | done | rfl)
              · rw [hst]
                intro s' hs'; rw [hg] at hs'; cases hs'; rfl
              · repeat (refine KAgree.upd rfl ?_)
                first | exact KAgree.refl _ _ | exact hag
              · exact (by intro m hm; first | rfl | (simp (disch := first | assumption | omega) only [upd_ne, hh]; first | done | rfl))
          · have e3 : decide ((n : Int) < (y : Int)) = false := decide_eq_false (by omega)
            have g1 : decide (n < (doH cur (x, (y : Int), d)).length) = false := decide_eq_false (by omega)
            rw [if_neg hny] at hg
            repeat (first | (refine W_val rfl (by simp (disch := first | rfl | decide | omega | assumption | (simp only [LL]; omega)) only [WS, NB, WY, hag, h42, h8, hh, hd, hw, hx, b1, hol, i1, i2, e2, e3]; first | done | rfl) (by first | exact Nat.le_refl _ | exact Nat.le_succ _) ?_) | (refine W_unit (by simp (disch := first | rfl | decide | omega | assumption | (simp only [LL]; omega)) only [WS, NB, WY, hag, h42, h8, hh, hd, hw, hx, b1, hol, i1, i2, e2, e3]; first | done | rfl) ?_) | (refine W_nil ?_; first | (show aWp _ _ _ _ _) | skip) | refine aWp_seq ?_ | refine aWp_region ?_ | (refine W_skip (by first | rfl | (simp (disch := first | rfl | decide | omega | assumption | (simp only [LL]; omega)) only [WS, NB, WY, hag, h42, h8, hh, hd, hw, hx, b1, hol, i1, i2, e2, e3]; first | done | rfl)) rfl ?_) | (refine W_want (by first | rfl | (simp (disch := first | rfl | decide | omega | assumption | (simp only [LL]; omega)) only [WS, NB, WY, hag, h42, h8, hh, hd, hw, hx, b1, hol, i1, i2, e2, e3]; first | done | rfl)) rfl (by simp (disch := first | rfl | decide | omega | assumption | (simp only [LL]; omega)) only [WS, NB, WY, hag, h42, h8, hh, hd, hw, hx, b1, hol, i1, i2, e2, e3]; first | done | rfl) (Nat.le_refl _) ?_) | (refine aWp_cond_t (by first | rfl | (simp (disch := first | rfl | decide | omega | assumption | (simp only [LL]; omega)) only [WS, NB, WY, hag, h42, h8, hh, hd, hw, hx, b1, hol, i1, i2, e2, e3]; first | done | rfl)) ?_) | (refine aWp_cond_f (by first | rfl | (simp (disch := first | rfl | decide | omega | assumption | (simp only [LL]; omega)) only [WS, NB, WY, hag, h42, h8, hh, hd, hw, hx, b1, hol, i1, i2, e2, e3]; first | done | rfl)) ?_) | refine aWp_block ?_ | refine aWp_scope ?_ | (refine aWp_skip ?_; first | (show aWp _ _ _ _ _) | skip) | (refine aWp_exit ?_; first | (show aWp _ _ _ _ _) | skip) | refine aWp_ret ?_)
            -- DBG
            refine ⟨W.length - (i + 1), by omega, ⟨i + 1, z64, by omega, rfl, ?_, by first | omega | (simp only; omega), ?_, ?_, rfl, ?_⟩, ?_, ?_, by first | omega | (simp only; omega), rfl⟩
            · first | rfl | (simp (disch := first | rfl | decide | omega | assumption | (simp only [LL]; omega)) only [WS, NB, WY]; first | done | rfl)
            · first | rfl | (simp (disch := first | rfl | decide | omega | assumption | (simp only [LL]; omega)) only [WS, NB, WY, h8, hst, g1]; first | done | rfl)
            · first | rfl | (simp (disch := first | rfl | decide | omega | assumption | (simp only [LL]; omega)) only [WS, NB, WY, b1, e2, e3, hol, hdr, List.append_nil]; first | done | rfl)
            · rw [hst]
              intro s' hs'; rw [hg] at hs'; cases hs'
            · repeat (refine KAgree.upd rfl ?_)
              first | exact KAgree.refl _ _ | exact hag
            · exact (by intro m hm; first | rfl | (simp (disch := first | assumption | omega) only [upd_ne, hh]; first | done | rfl))
        · have e2 : decide (x = 2) = false := decide_eq_false hx2
          have hg := doH_get1 cur x y n d hx2
          rw [if_neg hx2] at hlen
          have g1 : decide (n < (doH cur (x, (y : Int), d)).length) = decide (n < cur.length) := by
            by_cases hnc : n < cur.length
            · rw [decide_eq_true hnc]; exact decide_eq_true (by omega)
            · rw [decide_eq_false hnc]; exact decide_eq_false (by omega)
          by_cases hyn : y = n
          · have e3 : decide ((y : Int) = (n : Int)) = true := decide_eq_true (by omega)
            rw [if_pos hyn] at hg
            by_cases hnc : n < cur.length
            · have e4 : decide (n < cur.length) = true := decide_eq_true hnc
              rw [if_pos hnc] at hg
              have hd64 : d.length = 64 := by rcases hma with z | z <;> simp only at z <;> omega
              have hdt := take_len _ _ hd64
              repeat (first | (refine W_val rfl (by simp (disch := first | rfl | decide | omega | assumption | (simp only [LL]; omega)) only [WS, NB, WY, hag, h42, h8, hh, hd, hw, hx, b1, hol, i1, i2, e2, e3, e4, hd64, hdt]; first | done | rfl) (by first | exact Nat.le_refl _ | exact Nat.le_succ _) ?_) | (refine W_unit (by simp (disch := first | rfl | decide | omega | assumption | (simp only [LL]; omega)) only [WS, NB, WY, hag, h42, h8, hh, hd, hw, hx, b1, hol, i1, i2, e2, e3, e4, hd64, hdt]; first | done | rfl) ?_) | (refine W_nil ?_; first | (show aWp _ _ _ _ _) | skip) | refine aWp_seq ?_ | refine aWp_region ?_ | (refine W_skip (by first | rfl | (simp (disch := first | rfl | decide | omega | assumption | (simp only [LL]; omega)) only [WS, NB, WY, hag, h42, h8, hh, hd, hw, hx, b1, hol, i1, i2, e2, e3, e4, hd64, hdt]; first | done | rfl)) rfl ?_) | (refine W_want (by first | rfl | (simp (disch := first | rfl | decide | omega | assumption | (simp only [LL]; omega)) only [WS, NB, WY, hag, h42, h8, hh, hd, hw, hx, b1, hol, i1, i2, e2, e3, e4, hd64, hdt]; first | done | rfl)) rfl (by simp (disch := first | rfl | decide | omega | assumption | (simp only [LL]; omega)) only [WS, NB, WY, hag, h42, h8, hh, hd, hw, hx, b1, hol, i1, i2, e2, e3, e4, hd64, hdt]; first | done | rfl) (Nat.le_refl _) ?_) | (refine aWp_cond_t (by first | rfl | (simp (disch := first | rfl | decide | omega | assumption | (simp only [LL]; omega)) only [WS, NB, WY, hag, h42, h8, hh, hd, hw, hx, b1, hol, i1, i2, e2, e3, e4, hd64, hdt]; first | done | rfl)) ?_) | (refine aWp_cond_f (by first | rfl | (simp (disch := first | rfl | decide | omega | assumption | (simp only [LL]; omega)) only [WS, NB, WY, hag, h42, h8, hh, hd, hw, hx, b1, hol, i1, i2, e2, e3, e4, hd64, hdt]; first | done | rfl)) ?_) | refine aWp_block ?_ | refine aWp_scope ?_ | (refine aWp_skip ?_; first | (show aWp _ _ _ _ _) | skip) | (refine aWp_exit ?_; first | (show aWp _ _ _ _ _) | skip) | refine aWp_ret ?_)
              -- DBG
              refine ⟨W.length - (i + 1), by omega, ⟨i + 1, d, by omega, rfl, ?_, by first | omega | (simp only; omega), ?_, ?_, hd64, ?_⟩, ?_, ?_, by first | omega | (simp only; omega), rfl⟩
              · first | rfl | (simp (disch := first | rfl | decide | omega | assumption | (simp only [LL]; omega)) only [WS, NB, WY]; first | done | rfl)
              · first | rfl | (simp (disch := first | rfl | decide | omega | assumption | (simp only [LL]; omega)) only [WS, NB, WY, h8, hst, g1, e4]; first | done | rfl)
              · first | rfl | (simp (disch := first | rfl | decide | omega | assumption | (simp only [LL]; omega)) only [WS, NB, WY, b1, e2, e3, e4, hd64, hdt, hol, hdr, List.append_nil]; first | done | rfl)
              · rw [hst]
                intro s' hs'; rw [hg] at hs'; cases hs'; rfl
              · repeat (refine KAgree.upd rfl ?_)
                first | exact KAgree.refl _ _ | exact hag
              · exact (by intro m hm; first | rfl | (simp (disch := first | assumption | omega) only [upd_ne, hh]; first | done | rfl))
            · have e4 : decide (n < cur.length) = false := decide_eq_false hnc
              rw [if_neg hnc] at hg
              repeat (first | (refine W_val rfl (by simp (disch := first | rfl | decide | omega | assumption | (simp only [LL]; omega)) only [WS, NB, WY, hag, h42, h8, hh, hd, hw, hx, b1, hol, i1, i2, e2, e3, e4]; first | done | rfl) (by first | exact Nat.le_refl _ | exact Nat.le_succ _) ?_) | (refine W_unit (by simp (disch := first | rfl | decide | omega | assumption | (simp only [LL]; omega)) only [WS, NB, WY, hag, h42, h8, hh, hd, hw, hx, b1, hol, i1, i2, e2, e3, e4]; first | done | rfl) ?_) | (refine W_nil ?_; first | (show aWp _ _ _ _ _) | skip) | refine aWp_seq ?_ | refine aWp_region ?_ | (refine W_skip (by first | rfl | (simp (disch := first | rfl | decide | omega | assumption | (simp only [LL]; omega)) only [WS, NB, WY, hag, h42, h8, hh, hd, hw, hx, b1, hol, i1, i2, e2, e3, e4]; first | done | rfl)) rfl ?_) | (refine W_want (by first | rfl | (simp (disch := first | rfl | decide | omega | assumption | (simp only [LL]; omega)) only [WS, NB, WY, hag, h42, h8, hh, hd, hw, hx, b1, hol, i1, i2, e2, e3, e4]; first | done | rfl)) rfl (by simp (disch := first | rfl | decide | omega | assumption | (simp only [LL]; omega)) only [WS, NB, WY, hag, h42, h8, hh, hd, hw, hx, b1, hol, i1, i2, e2, e3, e4]; first | done | rfl) (Nat.le_refl _) ?_) | (refine aWp_cond_t (by first | rfl | (simp (disch := first | rfl | decide | omega | assumption | (simp only [LL]; omega)) only [WS, NB, WY, hag, h42, h8, hh, hd, hw, hx, b1, hol, i1, i2, e2, e3, e4]; first | done | rfl)) ?_) | (refine aWp_cond_f (by first | rfl | (simp (disch := first | rfl | decide | omega | assumption | (simp only [LL]; omega)) only [WS, NB, WY, hag, h42, h8, hh, hd, hw, hx, b1, hol, i1, i2, e2, e3, e4]; first | done | rfl)) ?_) | refine aWp_block ?_ | refine aWp_scope ?_ | (refine aWp_skip ?_; first | (show aWp _ _ _ _ _) | skip) | (refine aWp_exit ?_; first | (show aWp _ _ _ _ _) | skip) | refine aWp_ret ?_)
              -- DBG
              refine ⟨W.length - (i + 1), by omega, ⟨i + 1, out, by omega, rfl, ?_, by first | omega | (simp only; omega), ?_, ?_, hol, ?_⟩, ?_, ?_, by first | omega | (simp only; omega), rfl⟩
              · first | rfl | (simp (disch := first | rfl | decide | omega | assumption | (simp only [LL]; omega)) only [WS, NB, WY]; first | done | rfl)
              · first | rfl | (simp (disch := first | rfl | decide | omega | assumption | (simp only [LL]; omega)) only [WS, NB, WY, h8, hst, g1, e4]; first | done | rfl)
              · first | rfl | (simp (disch := first | rfl | decide | omega | assumption | (simp only [LL]; omega)) only [WS, NB, WY, b1, e2, e3, e4, hol, hdr, List.append_nil]; first | done | rfl)
              · rw [hst]
                intro s' hs'; rw [hg] at hs'; cases hs'
              · repeat (refine KAgree.upd rfl ?_)
                first | exact KAgree.refl _ _ | exact hag
              · exact (by intro m hm; first | rfl | (simp (disch := first | assumption | omega) only [upd_ne, hh]; first | done | rfl))
          · have e3 : decide ((y : Int) = (n : Int)) = false := decide_eq_false (by omega)
            rw [if_neg hyn] at hg
            repeat (first | (refine W_val rfl (by simp (disch := first | rfl | decide | omega | assumption | (simp only [LL]; omega)) only [WS, NB, WY, hag, h42, h8, hh, hd, hw, hx, b1, hol, i1, i2, e2, e3]; first | done | rfl) (by first | exact Nat.le_refl _ | exact Nat.le_succ _) ?_) | (refine W_unit (by simp (disch := first | rfl | decide | omega | assumption | (simp only [LL]; omega)) only [WS, NB, WY, hag, h42, h8, hh, hd, hw, hx, b1, hol, i1, i2, e2, e3]; first | done | rfl) ?_) | (refine W_nil ?_; first | (show aWp _ _ _ _ _) | skip) | refine aWp_seq ?_ | refine aWp_region ?_ | (refine W_skip (by first | rfl | (simp (disch := first | rfl | decide | omega | assumption | (simp only [LL]; omega)) only [WS, NB, WY, hag, h42, h8, hh, hd, hw, hx, b1, hol, i1, i2, e2, e3]; first | done | rfl)) rfl ?_) | (refine W_want (by first | rfl | (simp (disch := first | rfl | decide | omega | assumption | (simp only [LL]; omega)) only [WS, NB, WY, hag, h42, h8, hh, hd, hw, hx, b1, hol, i1, i2, e2, e3]; first | done | rfl)) rfl (by simp (disch := first | rfl | decide | omega | assumption | (simp only [LL]; omega)) only [WS, NB, WY, hag, h42, h8, hh, hd, hw, hx, b1, hol, i1, i2, e2, e3]; first | done | rfl) (Nat.le_refl _) ?_) | (refine aWp_cond_t (by first | rfl | (simp (disch := first | rfl | decide | omega | assumption | (simp only [LL]; omega)) only [WS, NB, WY, hag, h42, h8, hh, hd, hw, hx, b1, hol, i1, i2, e2, e3]; first | done | rfl)) ?_) | (refine aWp_cond_f (by first | rfl | (simp (disch := first | rfl | decide | omega | assumption | (simp only [LL]; omega)) only [WS, NB, WY, hag, h42, h8, hh, hd, hw, hx, b1, hol, i1, i2, e2, e3]; first | done | rfl)) ?_) | refine aWp_block ?_ | refine aWp_scope ?_ | (refine aWp_skip ?_; first | (show aWp _ _ _ _ _) | skip) | (refine aWp_exit ?_; first | (show aWp _ _ _ _ _) | skip) | refine aWp_ret ?_)
            -- DBG
            refine ⟨W.length - (i + 1), by omega, ⟨i + 1, out, by omega, rfl, ?_, by first | omega | (simp only; omega), ?_, ?_, hol, ?_⟩, ?_, ?_, by first | omega | (simp only; omega), rfl⟩
            · first | rfl | (simp (disch := first | rfl | decide | omega | assumption | (simp only [LL]; omega)) only [WS, NB, WY]; first | done | rfl)
            · first | rfl | (simp (disch := first | rfl | decide | omega | assumption | (simp only [LL]; omega)) only [WS, NB, WY, h8, hst, g1]; first | done | rfl)
            · first | rfl | (simp (disch := first | rfl | decide | omega | assumption | (simp only [LL]; omega)) only [WS, NB, WY, b1, e2, e3, hol, hdr, List.append_nil]; first | done | rfl)
            · rw [hst]
              intro s' hs'; rw [hg] at hs'; exact hout s' hs'
            · repeat (refine KAgree.upd rfl ?_)
              first | exact KAgree.refl _ _ | exact hag
            · exact (by intro m hm; first | rfl | (simp (disch := first | assumption | omega) only [upd_ne, hh]; first | done | rfl))
      obtain rfl : i = W.length := by omega
      have hd : decide ((W.length : Int) < (W.length : Int)) = false := by simp
      rw [List.take_length] at hout
      obtain rfl := hout s hs
      have hot := take_len _ _ hol
      repeat (first | (refine W_val rfl (by simp (disch := first | rfl | decide | omega | assumption | (simp only [LL]; omega)) only [WS, NB, WY, hag, h42, hh, hd, b1]; first | done | rfl) (by first | exact Nat.le_refl _ | exact Nat.le_succ _) ?_) | (refine W_unit (by simp (disch := first | rfl | decide | omega | assumption | (simp only [LL]; omega)) only [WS, NB, WY, hag, h42, hh, hd, b1]; first | done | rfl) ?_) | (refine W_nil ?_; first | (show aWp _ _ _ _ _) | skip) | refine aWp_seq ?_ | refine aWp_region ?_ | (refine W_skip (by first | rfl | (simp (disch := first | rfl | decide | omega | assumption | (simp only [LL]; omega)) only [WS, NB, WY, hag, h42, hh, hd, b1]; first | done | rfl)) rfl ?_) | (refine W_want (by first | rfl | (simp (disch := first | rfl | decide | omega | assumption | (simp only [LL]; omega)) only [WS, NB, WY, hag, h42, hh, hd, b1]; first | done | rfl)) rfl (by simp (disch := first | rfl | decide | omega | assumption | (simp only [LL]; omega)) only [WS, NB, WY, hag, h42, hh, hd, b1]; first | done | rfl) (Nat.le_refl _) ?_) | (refine aWp_cond_t (by first | rfl | (simp (disch := first | rfl | decide | omega | assumption | (simp only [LL]; omega)) only [WS, NB, WY, hag, h42, hh, hd, b1]; first | done | rfl)) ?_) | (refine aWp_cond_f (by first | rfl | (simp (disch := first | rfl | decide | omega | assumption | (simp only [LL]; omega)) only [WS, NB, WY, hag, h42, hh, hd, b1]; first | done | rfl)) ?_) | refine aWp_block ?_ | refine aWp_scope ?_ | (refine aWp_skip ?_; first | (show aWp _ _ _ _ _) | skip) | (refine aWp_exit ?_; first | (show aWp _ _ _ _ _) | skip) | refine aWp_ret ?_)
      exact W_end (by omega) (by intro m hm; first | rfl | (simp (disch := first | assumption | omega) only [upd_ne, hag, hh, b1, hol, hot]; first | done | rfl)) (by rw [Try.results16]) (by first | rfl | (simp (disch := first | rfl | decide | omega | assumption | (simp only [LL]; omega)) only [WS, NB, WY, RES, hag, hh, b1, hol, hot]; first | done | rfl)) (by first | rfl | (simp (disch := first | rfl | decide | omega | assumption | (simp only [LL]; omega)) only [WS, NB, WY, FY, hag, hh, b1, hol, hot]; first | done | rfl))
    · have d3 : decide ((n : Int) < (S.length : Int)) = false := decide_eq_false (by omega)
      refine aFun_body Try.func16 rfl rfl (by simp [Try.ntmps16]) fun hreal h nx hfresh => ?_
      rw [Try.ntmps16]
      repeat (first | (refine W_val rfl (by simp (disch := first | rfl | decide | omega | assumption | (simp only [LL]; omega)) only [WS, NB, WY, d0, d1, d2, i1, i2, d3]; first | done | rfl) (by first | exact Nat.le_refl _ | exact Nat.le_succ _) ?_) | (refine W_unit (by simp (disch := first | rfl | decide | omega | assumption | (simp only [LL]; omega)) only [WS, NB, WY, d0, d1, d2, i1, i2, d3]; first | done | rfl) ?_) | (refine Q_fun (by rfl) rfl (by first | rfl | (simp (disch := first | rfl | decide | omega | assumption | (simp only [LL]; omega)) only [WS, NB, WY, d0, d1, d2, i1, i2, d3]; first | done | rfl)) (by simp only [WS]) (ck) ?_; refine fun kf hkf => ?_) | (refine Q_funG (by rfl) (by first | rfl | (simp (disch := first | rfl | decide | omega | assumption | (simp only [LL]; omega)) only [WS, NB, WY, d0, d1, d2, i1, i2, d3]; first | done | rfl)) rfl (by first | rfl | (simp (disch := first | rfl | decide | omega | assumption | (simp only [LL]; omega)) only [WS, NB, WY, d0, d1, d2, i1, i2, d3]; first | done | rfl)) (by simp only [WS]) (ck) ?_; refine fun kf hkf => ?_) | (refine Q_fun (by rfl) rfl (by first | rfl | (simp (disch := first | rfl | decide | omega | assumption | (simp only [LL]; omega)) only [WS, NB, WY, d0, d1, d2, i1, i2, d3]; first | done | rfl)) (by simp only [WS]) (sz) ?_; refine fun kf hkf => ?_) | (refine Q_funG (by rfl) (by first | rfl | (simp (disch := first | rfl | decide | omega | assumption | (simp only [LL]; omega)) only [WS, NB, WY, d0, d1, d2, i1, i2, d3]; first | done | rfl)) rfl (by first | rfl | (simp (disch := first | rfl | decide | omega | assumption | (simp only [LL]; omega)) only [WS, NB, WY, d0, d1, d2, i1, i2, d3]; first | done | rfl)) (by simp only [WS]) (sz) ?_; refine fun kf hkf => ?_) | (refine W_nil ?_; first | (show aWp _ _ _ _ _) | skip) | refine aWp_seq ?_ | refine aWp_region ?_ | (refine W_skip (by first | rfl | (simp (disch := first | rfl | decide | omega | assumption | (simp only [LL]; omega)) only [WS, NB, WY, d0, d1, d2, i1, i2, d3]; first | done | rfl)) rfl ?_) | (refine W_want (by first | rfl | (simp (disch := first | rfl | decide | omega | assumption | (simp only [LL]; omega)) only [WS, NB, WY, d0, d1, d2, i1, i2, d3]; first | done | rfl)) rfl (by simp (disch := first | rfl | decide | omega | assumption | (simp only [LL]; omega)) only [WS, NB, WY, d0, d1, d2, i1, i2, d3]; first | done | rfl) (Nat.le_refl _) ?_) | (refine aWp_cond_t (by first | rfl | (simp (disch := first | rfl | decide | omega | assumption | (simp only [LL]; omega)) only [WS, NB, WY, d0, d1, d2, i1, i2, d3]; first | done | rfl)) ?_) | (refine aWp_cond_f (by first | rfl | (simp (disch := first | rfl | decide | omega | assumption | (simp only [LL]; omega)) only [WS, NB, WY, d0, d1, d2, i1, i2, d3]; first | done | rfl)) ?_) | refine aWp_block ?_ | refine aWp_scope ?_ | (refine aWp_skip ?_; first | (show aWp _ _ _ _ _) | skip) | (refine aWp_exit ?_; first | (show aWp _ _ _ _ _) | skip) | refine aWp_ret ?_)
      refine W_loopK [1, 2, 7, 40, 41] (nx + 1) (fun r tm h q => ∃ (i : Nat) (out : List Int), i ≤ W.length ∧ r = W.length - i ∧ tm 42 = .int .i64 i ∧ kf < q ∧ tm 8 = .bool (decide (n < (allH S (W.take i)).length)) ∧ h kf = some ⟨1, numB .u8 out⟩ ∧ out.length = 64 ∧ (∀ s, (allH S (W.take i))[n]? = some s → out = s)) W.length (by omega) ⟨0, z64, Nat.zero_le _, rfl, rfl, by first | omega | (simp only; omega), ?_, ?_, rfl, ?_⟩ ?_
      · rw [show decide (n < (allH S (W.take 0)).length) = false from decide_eq_false (by simp [allH]; omega)]; first | rfl | (simp (disch := first | rfl | decide | omega | assumption | (simp only [LL]; omega)) only [WS, NB, WY]; first | done | rfl)
      · first | rfl | (simp (disch := first | rfl | decide | omega | assumption | (simp only [LL]; omega)) only [WS, NB, WY, d3]; first | done | rfl)
      · intro s' hs'; (have : S[n]? = some s' := hs'); rw [List.getElem?_eq_none (by omega)] at this; cases this
      rintro r tm' h' k' ⟨i, out, hi, rfl, h42, hk3, h8, b1, hol, hout⟩ hag hh hk'
      by_cases hlt : i < W.length
      · have hd : decide ((i : Int) < (W.length : Int)) = true := decide_eq_true (by omega)
        have hw : IntKind.i64.wrap (i + 1) = ((i + 1 : Nat) : Int) := by rw [wrapI] <;> omega
        obtain ⟨⟨x, y, d⟩, hx0⟩ : ∃ a, W[i]? = some a := ⟨W[i], List.getElem?_eq_getElem hlt⟩
        have hma := hok.2.2.2.2 _ (List.mem_of_getElem? hx0)
        have hx := actsB_get W i _ hx0
        have hst := allH_step S W i _ hx0
        obtain ⟨y, rfl⟩ : ∃ z : Nat, y = (z : Int) := ⟨y.toNat, by have := mayP_at hma; simp only at this; omega⟩
        have hdr : out.drop 64 = [] := List.drop_of_length_le (by omega)
        obtain ⟨cur, hcur⟩ : ∃ c, allH S (W.take i) = c := ⟨_, rfl⟩
        rw [hcur] at h8 hout hst
        simp only at hx
        have hlen := doH_len cur (x, (y : Int), d) (by simp only; omega)
        simp only at hlen
        by_cases hx2 : x = 2
        · have e2 : decide (x = 2) = true := decide_eq_true hx2
          have hg := doH_get2 cur x y n d hx2
          rw [if_pos hx2] at hlen
          by_cases hny : n < y
          · have e3 : decide ((n : Int) < (y : Int)) = true := decide_eq_true (by omega)
            have g1 : decide (n < (doH cur (x, (y : Int), d)).length) = true := decide_eq_true (by omega)
            rw [if_pos hny] at hg
            by_cases hnc : n < cur.length
            · have e4 : decide (n < cur.length) = true := decide_eq_true hnc
              rw [if_pos hnc] at hg
              repeat (first | (refine W_val rfl (by simp (disch := first | rfl | decide | omega | assumption | (simp only [LL]; omega)) only [WS, NB, WY, hag, h42, h8, hh, hd, hw, hx, b1, hol, i1, i2, e2, e3, e4]; first | done | rfl) (by first | exact Nat.le_refl _ | exact Nat.le_succ _) ?_) | (refine W_unit (by simp (disch := first | rfl | decide | omega | assumption | (simp only [LL]; omega)) only [WS, NB, WY, hag, h42, h8, hh, hd, hw, hx, b1, hol, i1, i2, e2, e3, e4]; first | done | rfl) ?_) | (refine W_nil ?_; first | (show aWp _ _ _ _ _) | skip) | refine aWp_seq ?_ | refine aWp_region ?_ | (refine W_skip (by first | rfl | (simp (disch := first | rfl | decide | omega | assumption | (simp only [LL]; omega)) only [WS, NB, WY, hag, h42, h8, hh, hd, hw, hx, b1, hol, i1, i2, e2, e3, e4]; first | done | rfl)) rfl ?_) | (refine W_want (by first | rfl | (simp (disch := first | rfl | decide | omega | assumption | (simp only [LL]; omega)) only [WS, NB, WY, hag, h42, h8, hh, hd, hw, hx, b1, hol, i1, i2, e2, e3, e4]; first | done | rfl)) rfl (by simp (disch := first | rfl | decide | omega | assumption | (simp only [LL]; omega)) only [WS, NB, WY, hag, h42, h8, hh, hd, hw, hx, b1, hol, i1, i2, e2, e3, e4]; first | done | rfl) (Nat.le_refl _) ?_) | (refine aWp_cond_t (by first | rfl | (simp (disch := first | rfl | decide | omega | assumption | (simp only [LL]; omega)) only [WS, NB, WY, hag, h42, h8, hh, hd, hw, hx, b1, hol, i1, i2, e2, e3, e4]; first | done | rfl)) ?_) | (refine aWp_cond_f (by first | rfl | (simp (disch := first | rfl | decide | omega | assumption | (simp only [LL]; omega)) only [WS, NB, WY, hag, h42, h8, hh, hd, hw, hx, b1, hol, i1, i2, e2, e3, e4]; first | done | rfl)) ?_) | refine aWp_block ?_ | refine aWp_scope ?_ | (refine aWp_skip ?_; first | (show aWp _ _ _ _ _) | skip) | (refine aWp_exit ?_; first | (show aWp _ _ _ _ _) | skip) | refine aWp_ret ?_)
              -- DBG
              refine ⟨W.length - (i + 1), by omega, ⟨i + 1, out, by omega, rfl, ?_, by first | omega | (simp only; omega), ?_, ?_, hol, ?_⟩, ?_, ?_, by first | omega | (simp only; omega), rfl⟩
              · first | rfl | (simp (disch := first | rfl | decide | omega | assumption | (simp only [LL]; omega)) only [WS, NB, WY]; first | done | rfl)
              · first | rfl | (simp (disch := first | rfl | decide | omega | assumption | (simp only [LL]; omega)) only [WS, NB, WY, h8, hst, g1]; first | done | rfl)
              · first | rfl | (simp (disch := first | rfl | decide | omega | assumption | (simp only [LL]; omega)) only [WS, NB, WY, b1, e2, e3, e4, hol, hdr, List.append_nil]; first | done | rfl)
              · rw [hst]
                intro s' hs'; rw [hg] at hs'; exact hout s' hs'
              · repeat (refine KAgree.upd rfl ?_)
                first | exact KAgree.refl _ _ | exact hag
              · exact (by intro m hm; first | rfl | (simp (disch := first | assumption | omega) only [upd_ne, hh]; first | done | rfl))
            · have e4 : decide (n < cur.length) = false := decide_eq_false hnc
              rw [if_neg hnc] at hg
              repeat (first | (refine W_val rfl (by simp (disch := first | rfl | decide | omega | assumption | (simp only [LL]; omega)) only [WS, NB, WY, hag, h42, h8, hh, hd, hw, hx, b1, hol, i1, i2, e2, e3, e4]; first | done | rfl) (by first | exact Nat.le_refl _ | exact Nat.le_succ _) ?_) | (refine W_unit (by simp (disch := first | rfl | decide | omega | assumption | (simp only [LL]; omega)) only [WS, NB, WY, hag, h42, h8, hh, hd, hw, hx, b1, hol, i1, i2, e2, e3, e4]; first | done | rfl) ?_) | (refine W_nil ?_; first | (show aWp _ _ _ _ _) | skip) | refine aWp_seq ?_ | refine aWp_region ?_ | (refine W_skip (by first | rfl | (simp (disch := first | rfl | decide | omega | assumption | (simp only [LL]; omega)) only [WS, NB, WY, hag, h42, h8, hh, hd, hw, hx, b1, hol, i1, i2, e2, e3, e4]; first | done | rfl)) rfl ?_) | (refine W_want (by first | rfl | (simp (disch := first | rfl | decide | omega | assumption | (simp only [LL]; omega)) only [WS, NB, WY, hag, h42, h8, hh, hd, hw, hx, b1, hol, i1, i2, e2, e3, e4]; first | done | rfl)) rfl (by simp (disch := first | rfl | decide | omega | assumption | (simp only [LL]; omega)) only [WS, NB, WY, hag, h42, h8, hh, hd, hw, hx, b1, hol, i1, i2, e2, e3, e4]; first | done | rfl) (Nat.le_refl _) ?_) | (refine aWp_cond_t (by first | rfl | (simp (disch := first | rfl | decide | omega | assumption | (simp only [LL]; omega)) only [WS, NB, WY, hag, h42, h8, hh, hd, hw, hx, b1, hol, i1, i2, e2, e3, e4]; first | done | rfl)) ?_) | (refine aWp_cond_f (by first | rfl | (simp (disch := first | rfl | decide | omega | assumption | (simp only [LL]; omega)) only [WS, NB, WY, hag, h42, h8, hh, hd, hw, hx, b1, hol, i1, i2, e2, e3, e4]; first | done | rfl)) ?_) | refine aWp_block ?_ | refine aWp_scope ?_ | (refine aWp_skip ?_; first | (show aWp _ _ _ _ _) | skip) | (refine aWp_exit ?_; first | (show aWp _ _ _ _ _) | skip) | refine aWp_ret ?_)
              -- DBG
              refine ⟨W.length - (i + 1), by omega, ⟨i + 1, z64, by omega, rfl, ?_, by first | omega | (simp only; omega), ?_, ?_, rfl, ?_⟩, ?_, ?_, by first | omega | (simp only; omega), rfl⟩
              · first | rfl | (simp (disch := first | rfl | decide | omega | assumption | (simp only [LL]; omega)) only [WS, NB, WY]; first | done | rfl)
              · first | rfl | (simp (disch := first | rfl | decide | omega | assumption | (simp only [LL]; omega)) only [WS, NB, WY, h8, hst, g1]; first | done | rfl)
              · first | rfl | (simp (disch := first | rfl | decide | omega | assumption | (simp only [LL]; omega)) only [WS, NB, WY, b1, e2, e3, e4, hol, hdr, List.append_nil]; first | done | rfl)
              · rw [hst]
                intro s' hs'; rw [hg] at hs'; cases hs'; rfl
              · repeat (refine KAgree.upd rfl ?_)
                first | exact KAgree.refl _ _ | exact hag
              · exact (by intro m hm; first | rfl | (simp (disch := first | assumption | omega) only [upd_ne, hh]; first | done | rfl))
          · have e3 : decide ((n : Int) < (y : Int)) = false := decide_eq_false (by omega)
            have g1 : decide (n < (doH cur (x, (y : Int), d)).length) = false := decide_eq_false (by omega)
            rw [if_neg hny] at hg
            repeat (first | (refine W_val rfl (by simp (disch := first | rfl | decide | omega | assumption | (simp only [LL]; omega)) only [WS, NB, WY, hag, h42, h8, hh, hd, hw, hx, b1, hol, i1, i2, e2, e3]; first | done | rfl) (by first | exact Nat.le_refl _ | exact Nat.le_succ _) ?_) | (refine W_unit (by simp (disch := first | rfl | decide | omega | assumption | (simp only [LL]; omega)) only [WS, NB, WY, hag, h42, h8, hh, hd, hw, hx, b1, hol, i1, i2, e2, e3]; first | done | rfl) ?_) | (refine W_nil ?_; first | (show aWp _ _ _ _ _) | skip) | refine aWp_seq ?_ | refine aWp_region ?_ | (refine W_skip (by first | rfl | (simp (disch := first | rfl | decide | omega | assumption | (simp only [LL]; omega)) only [WS, NB, WY, hag, h42, h8, hh, hd, hw, hx, b1, hol, i1, i2, e2, e3]; first | done | rfl)) rfl ?_) | (refine W_want (by first | rfl | (simp (disch := first | rfl | decide | omega | assumption | (simp only [LL]; omega)) only [WS, NB, WY, hag, h42, h8, hh, hd, hw, hx, b1, hol, i1, i2, e2, e3]; first | done | rfl)) rfl (by simp (disch := first | rfl | decide | omega | assumption | (simp only [LL]; omega)) only [WS, NB, WY, hag, h42, h8, hh, hd, hw, hx, b1, hol, i1, i2, e2, e3]; first | done | rfl) (Nat.le_refl _) ?_) | (refine aWp_cond_t (by first | rfl | (simp (disch := first | rfl | decide | omega | assumption | (simp only [LL]; omega)) only [WS, NB, WY, hag, h42, h8, hh, hd, hw, hx, b1, hol, i1, i2, e2, e3]; first | done | rfl)) ?_) | (refine aWp_cond_f (by first | rfl | (simp (disch := first | rfl | decide | omega | assumption | (simp only [LL]; omega)) only [WS, NB, WY, hag, h42, h8, hh, hd, hw, hx, b1, hol, i1, i2, e2, e3]; first | done | rfl)) ?_) | refine aWp_block ?_ | refine aWp_scope ?_ | (refine aWp_skip ?_; first | (show aWp _ _ _ _ _) | skip) | (refine aWp_exit ?_; first | (show aWp _ _ _ _ _) | skip) | refine aWp_ret ?_)
            -- DBG
            refine ⟨W.length - (i + 1), by omega, ⟨i + 1, z64, by omega, rfl, ?_, by first | omega | (simp only; omega), ?_, ?_, rfl, ?_⟩, ?_, ?_, by first | omega | (simp only; omega), rfl⟩
            · first | rfl | (simp (disch := first | rfl | decide | omega | assumption | (simp only [LL]; omega)) only [WS, NB, WY]; first | done | rfl)
            · first | rfl | (simp (disch := first | rfl | decide | omega | assumption | (simp only [LL]; omega)) only [WS, NB, WY, h8, hst, g1]; first | done | rfl)
            · first | rfl | (simp (disch := first | rfl | decide | omega | assumption | (simp only [LL]; omega)) only [WS, NB, WY, b1, e2, e3, hol, hdr, List.append_nil]; first | done | rfl)
            · rw [hst]
              intro s' hs'; rw [hg] at hs'; cases hs'
            · repeat (refine KAgree.upd rfl ?_)
              first | exact KAgree.refl _ _ | exact hag
            · exact (by intro m hm; first | rfl | (simp (disch := first | assumption | omega) only [upd_ne, hh]; first | done | rfl))
        · have e2 : decide (x = 2) = false := decide_eq_false hx2
          have hg := doH_get1 cur x y n d hx2
          rw [if_neg hx2] at hlen
          have g1 : decide (n < (doH cur (x, (y : Int), d)).length) = decide (n < cur.length) := by
            by_cases hnc : n < cur.length
            · rw [decide_eq_true hnc]; exact decide_eq_true (by omega)
            · rw [decide_eq_false hnc]; exact decide_eq_false (by omega)
          by_cases hyn : y = n
          · have e3 : decide ((y : Int) = (n : Int)) = true := decide_eq_true (by omega)
            rw [if_pos hyn] at hg
            by_cases hnc : n < cur.length
            · have e4 : decide (n < cur.length) = true := decide_eq_true hnc
              rw [if_pos hnc] at hg
              have hd64 : d.length = 64 := by rcases hma with z | z <;> simp only at z <;> omega
              have hdt := take_len _ _ hd64
              repeat (first | (refine W_val rfl (by simp (disch := first | rfl | decide | omega | assumption | (simp only [LL]; omega)) only [WS, NB, WY, hag, h42, h8, hh, hd, hw, hx, b1, hol, i1, i2, e2, e3, e4, hd64, hdt]; first | done | rfl) (by first | exact Nat.le_refl _ | exact Nat.le_succ _) ?_) | (refine W_unit (by simp (disch := first | rfl | decide | omega | assumption | (simp only [LL]; omega)) only [WS, NB, WY, hag, h42, h8, hh, hd, hw, hx, b1, hol, i1, i2, e2, e3, e4, hd64, hdt]; first | done | rfl) ?_) | (refine W_nil ?_; first | (show aWp _ _ _ _ _) | skip) | refine aWp_seq ?_ | refine aWp_region ?_ | (refine W_skip (by first | rfl | (simp (disch := first | rfl | decide | omega | assumption | (simp only [LL]; omega)) only [WS, NB, WY, hag, h42, h8, hh, hd, hw, hx, b1, hol, i1, i2, e2, e3, e4, hd64, hdt]; first | done | rfl)) rfl ?_) | (refine W_want (by first | rfl | (simp (disch := first | rfl | decide | omega | assumption | (simp only [LL]; omega)) only [WS, NB, WY, hag, h42, h8, hh, hd, hw, hx, b1, hol, i1, i2, e2, e3, e4, hd64, hdt]; first | done | rfl)) rfl (by simp (disch := first | rfl | decide | omega | assumption | (simp only [LL]; omega)) only [WS, NB, WY, hag, h42, h8, hh, hd, hw, hx, b1, hol, i1, i2, e2, e3, e4, hd64, hdt]; first | done | rfl) (Nat.le_refl _) ?_) | (refine aWp_cond_t (by first | rfl | (simp (disch := first | rfl | decide | omega | assumption | (simp only [LL]; omega)) only [WS, NB, WY, hag, h42, h8, hh, hd, hw, hx, b1, hol, i1, i2, e2, e3, e4, hd64, hdt]; first | done | rfl)) ?_) | (refine aWp_cond_f (by first | rfl | (simp (disch := first | rfl | decide | omega | assumption | (simp only [LL]; omega)) only [WS, NB, WY, hag, h42, h8, hh, hd, hw, hx, b1, hol, i1, i2, e2, e3, e4, hd64, hdt]; first | done | rfl)) ?_) | refine aWp_block ?_ | refine aWp_scope ?_ | (refine aWp_skip ?_; first | (show aWp _ _ _ _ _) | skip) | (refine aWp_exit ?_; first | (show aWp _ _ _ _ _) | skip) | refine aWp_ret ?_)
              -- DBG
              refine ⟨W.length - (i + 1), by omega, ⟨i + 1, d, by omega, rfl, ?_, by first | omega | (simp only; omega), ?_, ?_, hd64, ?_⟩, ?_, ?_, by first | omega | (simp only; omega), rfl⟩
              · first | rfl | (simp (disch := first | rfl | decide | omega | assumption | (simp only [LL]; omega)) only [WS, NB, WY]; first | done | rfl)
              · first | rfl | (simp (disch := first | rfl | decide | omega | assumption | (simp only [LL]; omega)) only [WS, NB, WY, h8, hst, g1, e4]; first | done | rfl)
              · first | rfl | (simp (disch := first | rfl | decide | omega | assumption | (simp only [LL]; omega)) only [WS, NB, WY, b1, e2, e3, e4, hd64, hdt, hol, hdr, List.append_nil]; first | done | rfl)
              · rw [hst]
                intro s' hs'; rw [hg] at hs'; cases hs'; rfl
              · repeat (refine KAgree.upd rfl ?_)
                first | exact KAgree.refl _ _ | exact hag
              · exact (by intro m hm; first | rfl | (simp (disch := first | assumption | omega) only [upd_ne, hh]; first | done | rfl))
            · have e4 : decide (n < cur.length) = false := decide_eq_false hnc
              rw [if_neg hnc] at hg
              repeat (first | (refine W_val rfl (by simp (disch := first | rfl | decide | omega | assumption | (simp only [LL]; omega)) only [WS, NB, WY, hag, h42, h8, hh, hd, hw, hx, b1, hol, i1, i2, e2, e3, e4]; first | done | rfl) (by first | exact Nat.le_refl _ | exact Nat.le_succ _) ?_) | (refine W_unit (by simp (disch := first | rfl | decide | omega | assumption | (simp only [LL]; omega)) only [WS, NB, WY, hag, h42, h8, hh, hd, hw, hx, b1, hol, i1, i2, e2, e3, e4]; first | done | rfl) ?_) | (refine W_nil ?_; first | (show aWp _ _ _ _ _) | skip) | refine aWp_seq ?_ | refine aWp_region ?_ | (refine W_skip (by first | rfl | (simp (disch := first | rfl | decide | omega | assumption | (simp only [LL]; omega)) only [WS, NB, WY, hag, h42, h8, hh, hd, hw, hx, b1, hol, i1, i2, e2, e3, e4]; first | done | rfl)) rfl ?_) | (refine W_want (by first | rfl | (simp (disch := first | rfl | decide | omega | assumption | (simp only [LL]; omega)) only [WS, NB, WY, hag, h42, h8, hh, hd, hw, hx, b1, hol, i1, i2, e2, e3, e4]; first | done | rfl)) rfl (by simp (disch := first | rfl | decide | omega | assumption | (simp only [LL]; omega)) only [WS, NB, WY, hag, h42, h8, hh, hd, hw, hx, b1, hol, i1, i2, e2, e3, e4]; first | done | rfl) (Nat.le_refl _) ?_) | (refine aWp_cond_t (by first | rfl | (simp (disch := first | rfl | decide | omega | assumption | (simp only [LL]; omega)) only [WS, NB, WY, hag, h42, h8, hh, hd, hw, hx, b1, hol, i1, i2, e2, e3, e4]; first | done | rfl)) ?_) | (refine aWp_cond_f (by first | rfl | (simp (disch := first | rfl | decide | omega | assumption | (simp only [LL]; omega)) only [WS, NB, WY, hag, h42, h8, hh, hd, hw, hx, b1, hol, i1, i2, e2, e3, e4]; first | done | rfl)) ?_) | refine aWp_block ?_ | refine aWp_scope ?_ | (refine aWp_skip ?_; first | (show aWp _ _ _ _ _) | skip) | (refine aWp_exit ?_; first | (show aWp _ _ _ _ _) | skip) | refine aWp_ret ?_)
              -- DBG
              refine ⟨W.length - (i + 1), by omega, ⟨i + 1, out, by omega, rfl, ?_, by first | omega | (simp only; omega), ?_, ?_, hol, ?_⟩, ?_, ?_, by first | omega | (simp only; omega), rfl⟩
              · first | rfl | (simp (disch := first | rfl | decide | omega | assumption | (simp only [LL]; omega)) only [WS, NB, WY]; first | done | rfl)
              · first | rfl | (simp (disch := first | rfl | decide | omega | assumption | (simp only [LL]; omega)) only [WS, NB, WY, h8, hst, g1, e4]; first | done | rfl)
              · first | rfl | (simp (disch := first | rfl | decide | omega | assumption | (simp only [LL]; omega)) only [WS, NB, WY, b1, e2, e3, e4, hol, hdr, List.append_nil]; first | done | rfl)
              · rw [hst]
                intro s' hs'; rw [hg] at hs'; cases hs'
              · repeat (refine KAgree.upd rfl ?_)
                first | exact KAgree.refl _ _ | exact hag
              · exact (by intro m hm; first | rfl | (simp (disch := first | assumption | omega) only [upd_ne, hh]; first | done | rfl))
          · have e3 : decide ((y : Int) = (n : Int)) = false := decide_eq_false (by omega)
            rw [if_neg hyn] at hg
            repeat (first | (refine W_val rfl (by simp (disch := first | rfl | decide | omega | assumption | (simp only [LL]; omega)) only [WS, NB, WY, hag, h42, h8, hh, hd, hw, hx, b1, hol, i1, i2, e2, e3]; first | done | rfl) (by first | exact Nat.le_refl _ | exact Nat.le_succ _) ?_) | (refine W_unit (by simp (disch := first | rfl | decide | omega | assumption | (simp only [LL]; omega)) only [WS, NB, WY, hag, h42, h8, hh, hd, hw, hx, b1, hol, i1, i2, e2, e3]; first | done | rfl) ?_) | (refine W_nil ?_; first | (show aWp _ _ _ _ _) | skip) | refine aWp_seq ?_ | refine aWp_region ?_ | (refine W_skip (by first | rfl | (simp (disch := first | rfl | decide | omega | assumption | (simp only [LL]; omega)) only [WS, NB, WY, hag, h42, h8, hh, hd, hw, hx, b1, hol, i1, i2, e2, e3]; first | done | rfl)) rfl ?_) | (refine W_want (by first | rfl | (simp (disch := first | rfl | decide | omega | assumption | (simp only [LL]; omega)) only [WS, NB, WY, hag, h42, h8, hh, hd, hw, hx, b1, hol, i1, i2, e2, e3]; first | done | rfl)) rfl (by simp (disch := first | rfl | decide | omega | assumption | (simp only [LL]; omega)) only [WS, NB, WY, hag, h42, h8, hh, hd, hw, hx, b1, hol, i1, i2, e2, e3]; first | done | rfl) (Nat.le_refl _) ?_) | (refine aWp_cond_t (by first | rfl | (simp (disch := first | rfl | decide | omega | assumption | (simp only [LL]; omega)) only [WS, NB, WY, hag, h42, h8, hh, hd, hw, hx, b1, hol, i1, i2, e2, e3]; first | done | rfl)) ?_) | (refine aWp_cond_f (by first | rfl | (simp (disch := first | rfl | decide | omega | assumption | (simp only [LL]; omega)) only [WS, NB, WY, hag, h42, h8, hh, hd, hw, hx, b1, hol, i1, i2, e2, e3]; first | done | rfl)) ?_) | refine aWp_block ?_ | refine aWp_scope ?_ | (refine aWp_skip ?_; first | (show aWp _ _ _ _ _) | skip) | (refine aWp_exit ?_; first | (show aWp _ _ _ _ _) | skip) | refine aWp_ret ?_)
            -- DBG
            refine ⟨W.length - (i + 1), by omega, ⟨i + 1, out, by omega, rfl, ?_, by first | omega | (simp only; omega), ?_, ?_, hol, ?_⟩, ?_, ?_, by first | omega | (simp only; omega), rfl⟩
            · first | rfl | (simp (disch := first | rfl | decide | omega | assumption | (simp only [LL]; omega)) only [WS, NB, WY]; first | done | rfl)
            · first | rfl | (simp (disch := first | rfl | decide | omega | assumption | (simp only [LL]; omega)) only [WS, NB, WY, h8, hst, g1]; first | done | rfl)
            · first | rfl | (simp (disch := first | rfl | decide | omega | assumption | (simp only [LL]; omega)) only [WS, NB, WY, b1, e2, e3, hol, hdr, List.append_nil]; first | done | rfl)
            · rw [hst]
              intro s' hs'; rw [hg] at hs'; exact hout s' hs'
            · repeat (refine KAgree.upd rfl ?_)
              first | exact KAgree.refl _ _ | exact hag
            · exact (by intro m hm; first | rfl | (simp (disch := first | assumption | omega) only [upd_ne, hh]; first | done | rfl))
      obtain rfl : i = W.length := by omega
      have hd : decide ((W.length : Int) < (W.length : Int)) = false := by simp
      rw [List.take_length] at hout
      obtain rfl := hout s hs
      have hot := take_len _ _ hol
      repeat (first | (refine W_val rfl (by simp (disch := first | rfl | decide | omega | assumption | (simp only [LL]; omega)) only [WS, NB, WY, hag, h42, hh, hd, b1]; first | done | rfl) (by first | exact Nat.le_refl _ | exact Nat.le_succ _) ?_) | (refine W_unit (by simp (disch := first | rfl | decide | omega | assumption | (simp only [LL]; omega)) only [WS, NB, WY, hag, h42, hh, hd, b1]; first | done | rfl) ?_) | (refine W_nil ?_; first | (show aWp _ _ _ _ _) | skip) | refine aWp_seq ?_ | refine aWp_region ?_ | (refine W_skip (by first | rfl | (simp (disch := first | rfl | decide | omega | assumption | (simp only [LL]; omega)) only [WS, NB, WY, hag, h42, hh, hd, b1]; first | done | rfl)) rfl ?_) | (refine W_want (by first | rfl | (simp (disch := first | rfl | decide | omega | assumption | (simp only [LL]; omega)) only [WS, NB, WY, hag, h42, hh, hd, b1]; first | done | rfl)) rfl (by simp (disch := first | rfl | decide | omega | assumption | (simp only [LL]; omega)) only [WS, NB, WY, hag, h42, hh, hd, b1]; first | done | rfl) (Nat.le_refl _) ?_) | (refine aWp_cond_t (by first | rfl | (simp (disch := first | rfl | decide | omega | assumption | (simp only [LL]; omega)) only [WS, NB, WY, hag, h42, hh, hd, b1]; first | done | rfl)) ?_) | (refine aWp_cond_f (by first | rfl | (simp (disch := first | rfl | decide | omega | assumption | (simp only [LL]; omega)) only [WS, NB, WY, hag, h42, hh, hd, b1]; first | done | rfl)) ?_) | refine aWp_block ?_ | refine aWp_scope ?_ | (refine aWp_skip ?_; first | (show aWp _ _ _ _ _) | skip) | (refine aWp_exit ?_; first | (show aWp _ _ _ _ _) | skip) | refine aWp_ret ?_)
      exact W_end (by omega) (by intro m hm; first | rfl | (simp (disch := first | assumption | omega) only [upd_ne, hag, hh, b1, hol, hot]; first | done | rfl)) (by rw [Try.results16]) (by first | rfl | (simp (disch := first | rfl | decide | omega | assumption | (simp only [LL]; omega)) only [WS, NB, WY, RES, hag, hh, b1, hol, hot]; first | done | rfl)) (by first | rfl | (simp (disch := first | rfl | decide | omega | assumption | (simp only [LL]; omega)) only [WS, NB, WY, FY, hag, hh, b1, hol, hot]; first | done | rfl))
  · rw [chkH_bad hok] at ck
    rw [show rdH S W cap at_ = ([], 9) by unfold rdH; rw [if_pos hok]]
    have d9 : decide ((9 : Int) = 0) = false := rfl
    unfold hostV at ck ⊢
    refine aFun_body Try.func16 rfl rfl (by simp [Try.ntmps16]) fun hreal h nx hfresh => ?_
    rw [Try.ntmps16]
    repeat (first | (refine W_val rfl (by simp (disch := first | rfl | decide | omega | assumption | (simp only [LL]; omega)) only [WS, NB, WY, d9]; first | done | rfl) (by first | exact Nat.le_refl _ | exact Nat.le_succ _) ?_) | (refine W_unit (by simp (disch := first | rfl | decide | omega | assumption | (simp only [LL]; omega)) only [WS, NB, WY, d9]; first | done | rfl) ?_) | (refine Q_fun (by rfl) rfl (by first | rfl | (simp (disch := first | rfl | decide | omega | assumption | (simp only [LL]; omega)) only [WS, NB, WY, d9]; first | done | rfl)) (by simp only [WS]) (ck) ?_; refine fun kf hkf => ?_) | (refine Q_funG (by rfl) (by first | rfl | (simp (disch := first | rfl | decide | omega | assumption | (simp only [LL]; omega)) only [WS, NB, WY, d9]; first | done | rfl)) rfl (by first | rfl | (simp (disch := first | rfl | decide | omega | assumption | (simp only [LL]; omega)) only [WS, NB, WY, d9]; first | done | rfl)) (by simp only [WS]) (ck) ?_; refine fun kf hkf => ?_) | (refine W_nil ?_; first | (show aWp _ _ _ _ _) | skip) | refine aWp_seq ?_ | refine aWp_region ?_ | (refine W_skip (by first | rfl | (simp (disch := first | rfl | decide | omega | assumption | (simp only [LL]; omega)) only [WS, NB, WY, d9]; first | done | rfl)) rfl ?_) | (refine W_want (by first | rfl | (simp (disch := first | rfl | decide | omega | assumption | (simp only [LL]; omega)) only [WS, NB, WY, d9]; first | done | rfl)) rfl (by simp (disch := first | rfl | decide | omega | assumption | (simp only [LL]; omega)) only [WS, NB, WY, d9]; first | done | rfl) (Nat.le_refl _) ?_) | (refine aWp_cond_t (by first | rfl | (simp (disch := first | rfl | decide | omega | assumption | (simp only [LL]; omega)) only [WS, NB, WY, d9]; first | done | rfl)) ?_) | (refine aWp_cond_f (by first | rfl | (simp (disch := first | rfl | decide | omega | assumption | (simp only [LL]; omega)) only [WS, NB, WY, d9]; first | done | rfl)) ?_) | refine aWp_block ?_ | refine aWp_scope ?_ | (refine aWp_skip ?_; first | (show aWp _ _ _ _ _) | skip) | (refine aWp_exit ?_; first | (show aWp _ _ _ _ _) | skip) | refine aWp_ret ?_)
    exact W_end (by omega) (by intro m hm; first | rfl | (simp (disch := first | assumption | omega) only [upd_ne]; first | done | rfl)) (by rw [Try.results16]) (by first | rfl | (simp (disch := first | rfl | decide | omega | assumption | (simp only [LL]; omega)) only [WS, NB, WY, RES]; first | done | rfl)) (by first | rfl | (simp (disch := first | rfl | decide | omega | assumption | (simp only [LL]; omega)) only [WS, NB, WY, FY]; first | done | rfl))
end Go.Proofs.Ytijmldjghhndoaa.AE
