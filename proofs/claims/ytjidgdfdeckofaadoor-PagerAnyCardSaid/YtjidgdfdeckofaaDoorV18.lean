/- Texts H5, H6. -/
import Derived.Test.YtjidgdfdeckofaaDoorV17
import Derived.Test.YtjidgdfdeckofaaDoorV6
import Derived.Test.YtjidgdfdeckofaaDoorV8
/- Layer 3: do. -/
namespace Go.Proofs.YtjidgdfdeckofaaDoor.AE
open Go Go.RowKit Go.Proofs Go.Proofs.YtjidgdfdeckofaaDoor
set_option linter.unusedVariables false
set_option linter.unusedSimpArgs false
set_option maxRecDepth 100000
set_option maxHeartbeats 8000000
theorem secB_set (S : List (List Int)) (i : Nat) (d : List Int) : (secB S).set i [.sl (numB .u8 d)] = secB (S.set i d) := by simp [secB, List.map_set]
theorem secB_take (S : List (List Int)) (i : Nat) : secB S = secB (S.take i) ++ secB (S.drop i) := by rw [secB, secB, secB, ← List.map_append, List.take_append_drop]
theorem frz_sec (S : List (List Int)) (z : Nat) (b : Blk) : (secB S).map (fun e : List AV => e.map (frzN z b)) = secB S := by simp [secB, frzN]
theorem frz_snoc (S : List (List Int)) (z : Nat) : (secB S ++ [[AV.hs z 0 64]]).map (fun e : List AV => e.map (frzN z ⟨1, numB .u8 z64⟩)) = secB (S ++ [z64]) := by
  rw [List.map_append, frz_sec]
  have : frzN z ⟨1, numB .u8 z64⟩ (.hs z 0 64) = .sl (numB .u8 z64) := by
    have hl : (numB .u8 z64).length = 64 := by rw [numB_len]; rfl
    show (if z = z ∧ 0 + 64 ≤ (numB .u8 z64).length then AV.sl (((numB .u8 z64).drop 0).take 64) else .hs z 0 64) = _
    rw [if_pos ⟨rfl, by rw [hl]; decide⟩, List.drop_zero, List.take_of_length_le (by rw [hl]; decide)]
  simp [secB, this]
/-- What is left of memory. -/
def doR (h : AHeap) (nx : Nat) (S' : List (List Int)) (X : AV) (cap : Int) (m1 mb : Nat) (a : AV) (h' : AHeap) (k' : Nat) : Prop :=
  a = .tup [] ∧ nx ≤ k' ∧ ∃ m', (m' = m1 ∨ nx ≤ m') ∧ m' < k' ∧ h' = upd (upd (upd h m1 none) m' (some ⟨1, secB S'⟩)) mb (some ⟨3, [[.hs m' 0 S'.length, X, .int .i64 cap]]⟩)
def doQ (h : AHeap) (nx : Nat) (S' : List (List Int)) (X : AV) (cap : Int) (m1 mb : Nat) (a : AV) (h' : AHeap) (k' : Nat) : Prop :=
  a = .tup [] ∧ nx ≤ k' ∧ ∃ m', (m' = m1 ∨ nx ≤ m') ∧ m' < k' ∧ h' m' = some ⟨1, secB S'⟩ ∧ h' mb = some ⟨3, [[.hs m' 0 S'.length, X, .int .i64 cap]]⟩ ∧ ∀ q, q < nx → q ≠ m1 → q ≠ mb → h' q = h q
theorem host_do (S : List (List Int)) (X : AV) (cap x y : Int) (d : List Int) (m1 mb : Nat) (hy : 0 ≤ y) (hy2 : y ≤ 65536) (hS : S.length ≤ 65536) {h : AHeap} {nx : Nat} (h1 : h m1 = some ⟨1, secB S⟩) (hb : h mb = some ⟨3, [[.hs m1 0 S.length, X, .int .i64 cap]]⟩) :
    aCalls Tryd.prog 38 [.ptr mb 0 0, .agg [.int .i64 x, .int .i64 y, .sl (numB .u8 d)]] h nx (fun e h' k' => ∃ a, e = .ret a ∧ doR h nx (doH S (x, y, d)) X cap m1 mb a h' k') := aCalls_real fun hreal0 hfr => by
  have hne : m1 ≠ mb := fun e => by subst e; rw [h1] at hb; cases hb
  have n1 : m1 < nx := by
    rcases Nat.lt_or_ge m1 nx with q | q
    · exact q
    · rw [hfr m1 q] at h1; cases h1
  have nb : mb < nx := by
    rcases Nat.lt_or_ge mb nx with q | q
    · exact q
    · rw [hfr mb q] at hb; cases hb
  refine aCalls_clean (R := doQ h nx (doH S (x, y, d)) X cap m1 mb) ?_ ?_
  · obtain ⟨n, rfl⟩ : ∃ n : Nat, y = (n : Int) := ⟨y.toNat, by omega⟩
    have i1 := secB_len S
    refine aR_body Tryd.func38 rfl rfl (by simp [Tryd.ntmps38]) fun hreal hfresh => ?_
    rw [Tryd.ntmps38]
    by_cases hx : x = 2
    · have d1 : decide (x = 2) = true := decide_eq_true hx
      have hdo : doH S (x, (n : Int), d) = S.take n ++ List.replicate (n - S.length) z64 := by unfold doH; rw [if_pos hx]; simp
      rw [hdo]
      by_cases hle : n ≤ S.length
      · have hmin : (if (n : Int) < (S.length : Int) then (n : Int) else (S.length : Int)) = (n : Int) := by split <;> omega
        have hmin2 : (if (S.length : Int) < (n : Int) then (n : Int) else (S.length : Int)) = (S.length : Int) := by split <;> omega
        have hmin3 : (if (S.length : Int) < (n : Int) then (S.length : Int) else (n : Int)) = (n : Int) := by split <;> omega
        have hz : n - S.length = 0 := by omega
        have i2 : (S.take n).length = n := by simp; omega
        have hw : IntKind.i64.wrap ((n : Int) - (S.length : Int)) = (n : Int) - (S.length : Int) := by rw [wrapI] <;> omega
        have d3 : decide ((0 : Int) < (n : Int) - (S.length : Int)) = false := decide_eq_false (by omega)
        rw [hz, List.replicate_zero, List.append_nil]
        have FX := Fx.mk (And.intro @NL <| And.intro @d1 <| And.intro @h1 <| And.intro @hb <| @i1)
        repeat (first | refine v_ ?_ | refine u_ ?_ | refine nl_ ?_ | (refine nz_ ?_; first | (show aWp _ _ _ _ _) | skip) | refine sq_ ?_ | refine rg_ ?_ | refine k_ ?_ | refine ct_ ?_ | refine cf_ ?_ | refine bk_ ?_ | refine sc_ ?_ | (refine sk_ ?_; first | (show aWp _ _ _ _ _) | skip) | (refine ex_ ?_; first | (show aWp _ _ _ _ _) | skip) | refine rt_ ?_)
        have FX := Fx.mk (And.intro @d1 <| And.intro @h1 <| And.intro @hb <| And.intro @i1 <| And.intro @hmin <| And.intro @hmin2 <| @hmin3)
        refine W_draw mixed rfl rfl ?_
        repeat (first | refine dq_ ?_ | refine dr_ [nx, mb, m1] ?_ | refine dm_ [nx, mb, m1] ?_ | refine da_ [nx, mb, m1] ?_ | refine ds_ [nx, mb, m1] ?_ | refine dw_ [nx, mb, m1] ?_ | refine dk_ ?_ | refine dn_ ?_)
        refine fun kd hkd => ?_
        simp only [List.length_cons, List.length_nil] at hkd
        first | (show aWp _ _ _ _ _) | skip
        have FX := Fx.mk (And.intro @d1 <| @hw)
        repeat (first | refine v_ ?_ | refine u_ ?_ | refine nl_ ?_ | (refine nz_ ?_; first | (show aWp _ _ _ _ _) | skip) | refine sq_ ?_ | refine rg_ ?_ | refine k_ ?_ | refine ct_ ?_ | refine cf_ ?_ | refine bk_ ?_ | refine sc_ ?_ | (refine sk_ ?_; first | (show aWp _ _ _ _ _) | skip) | (refine ex_ ?_; first | (show aWp _ _ _ _ _) | skip) | refine rt_ ?_)
        refine W_loopK [29] 0 (fun r tm h' q => nx ≤ q ∧ tm 30 = .int .i64 0 ∧ h' m1 = some ⟨1, secB S⟩ ∧ h' mb = some ⟨3, [[.hs m1 0 n, X, .int .i64 cap]]⟩ ∧ ∀ q, q < nx → q ≠ m1 → q ≠ mb → h' q = h q) 0 (by omega) ⟨by first | omega | (simp only; omega), rfl, by (have FX := Fx.mk (@h1); exact cl_), by (have FX := Fx.mk (@hb); exact cl_), fun q q1 q2 q3 => by (have FX := Fx0; exact cl_)⟩ ?_
        rintro r tm' h' k' ⟨g0, g1, g2, g3, g4⟩ hag hh hk'
        refine aWp_sub (Sub.trunc (m := m1) (sz := 1) (es := secB (S.take n)) (rest := secB (S.drop n)) (by rw [← secB_take]; exact g2)) ?_
        dsimp only
        have FX := Fx.mk (And.intro @hag <| And.intro @g1 <| @d3)
        repeat (first | refine v_ ?_ | refine u_ ?_ | refine nl_ ?_ | (refine nz_ ?_; first | (show aWp _ _ _ _ _) | skip) | refine sq_ ?_ | refine rg_ ?_ | refine k_ ?_ | refine ct_ ?_ | refine cf_ ?_ | refine bk_ ?_ | refine sc_ ?_ | (refine sk_ ?_; first | (show aWp _ _ _ _ _) | skip) | (refine ex_ ?_; first | (show aWp _ _ _ _ _) | skip) | refine rt_ ?_)
        refine W_endRn (by rw [Tryd.results38]) (by (have FX := Fx0; exact cr_)) ⟨rfl, by omega, m1, .inl rfl, by omega, ?_, ?_, ?_⟩
        · (have FX := Fx0; exact cl_)
        · (have FX := Fx.mk (And.intro @g3 <| @i2); exact cl_)
        · intro q q1 q2 q3; (have FX := Fx.mk ((g4 q q1 q2 q3)); exact cl_)
      · have hmin : (if (n : Int) < (S.length : Int) then (n : Int) else (S.length : Int)) = (S.length : Int) := by split <;> omega
        have hmin3 : (if (S.length : Int) < (n : Int) then (S.length : Int) else (n : Int)) = (S.length : Int) := by split <;> omega
        have hw : IntKind.i64.wrap ((n : Int) - (S.length : Int)) = ((n - S.length : Nat) : Int) := by rw [wrapI] <;> omega
        have htk : S.take n = S := List.take_of_length_le (by omega)
        have hS0 : S ++ List.replicate 0 z64 = S := by simp
        have hSl : ∀ i, (S ++ List.replicate i z64).length = S.length + i := fun i => by simp
        rw [htk]
        have FX := Fx.mk (And.intro @NL <| And.intro @d1 <| And.intro @h1 <| And.intro @hb <| @i1)
        repeat (first | refine v_ ?_ | refine u_ ?_ | refine nl_ ?_ | (refine nz_ ?_; first | (show aWp _ _ _ _ _) | skip) | refine sq_ ?_ | refine rg_ ?_ | refine k_ ?_ | refine ct_ ?_ | refine cf_ ?_ | refine bk_ ?_ | refine sc_ ?_ | (refine sk_ ?_; first | (show aWp _ _ _ _ _) | skip) | (refine ex_ ?_; first | (show aWp _ _ _ _ _) | skip) | refine rt_ ?_)
        have FX := Fx.mk (And.intro @d1 <| And.intro @h1 <| And.intro @hb <| And.intro @i1 <| And.intro @hmin <| @hmin3)
        refine W_draw mixed rfl rfl ?_
        repeat (first | refine dq_ ?_ | refine dr_ [nx, mb, m1] ?_ | refine dm_ [nx, mb, m1] ?_ | refine da_ [nx, mb, m1] ?_ | refine ds_ [nx, mb, m1] ?_ | refine dw_ [nx, mb, m1] ?_ | refine dk_ ?_ | refine dn_ ?_)
        refine fun kd hkd => ?_
        simp only [List.length_cons, List.length_nil] at hkd
        first | (show aWp _ _ _ _ _) | skip
        have FX := Fx.mk (And.intro @d1 <| @hw)
        repeat (first | refine v_ ?_ | refine u_ ?_ | refine nl_ ?_ | (refine nz_ ?_; first | (show aWp _ _ _ _ _) | skip) | refine sq_ ?_ | refine rg_ ?_ | refine k_ ?_ | refine ct_ ?_ | refine cf_ ?_ | refine bk_ ?_ | refine sc_ ?_ | (refine sk_ ?_; first | (show aWp _ _ _ _ _) | skip) | (refine ex_ ?_; first | (show aWp _ _ _ _ _) | skip) | refine rt_ ?_)
        refine W_loopK [0, 29] 0 (fun r tm h' q => nx ≤ q ∧ ∃ i : Nat, i ≤ n - S.length ∧ r = n - S.length - i ∧ tm 30 = .int .i64 i ∧ ∃ m', (m' = m1 ∨ nx ≤ m') ∧ m' < q ∧ h' m' = some ⟨1, secB (S ++ List.replicate i z64)⟩ ∧ h' mb = some ⟨3, [[.hs m' 0 (S.length + i), X, .int .i64 cap]]⟩ ∧ ∀ q, q < nx → q ≠ m1 → q ≠ mb → h' q = h q) (n - S.length) (by omega) ⟨by first | omega | (simp only; omega), 0, Nat.zero_le _, rfl, rfl, m1, .inl rfl, by first | omega | (simp only; omega), by (have FX := Fx.mk (And.intro @h1 <| @hS0); exact cl_), by (have FX := Fx.mk (@hb); exact cl_), fun q q1 q2 q3 => by (have FX := Fx0; exact cl_)⟩ ?_
        rintro r tm' h' k' ⟨g0, i, hi, rfl, g1, m', m1', m2', g2, g3, g4⟩ hag hh hk'
        have hmb : m' ≠ mb := fun e => by subst e; rw [g2] at g3; cases g3
        by_cases hlt : i < n - S.length
        · have hd : decide ((i : Int) < ((n - S.length : Nat) : Int)) = true := decide_eq_true (by omega)
          have hwi : IntKind.i64.wrap (i + 1) = ((i + 1 : Nat) : Int) := by rw [wrapI] <;> omega
          have i3 : (secB (S ++ List.replicate i z64)).length = S.length + i := by rw [secB_len, hSl]
          have i4 : (secB (S ++ List.replicate i z64)).take (S.length + i) = secB (S ++ List.replicate i z64) := take_len _ _ i3
          have hsn : S ++ List.replicate i z64 ++ [z64] = S ++ List.replicate (i + 1) z64 := by rw [List.append_assoc, List.replicate_succ']
          have FX := Fx.mk (And.intro @hag <| And.intro @g1 <| And.intro @hd <| And.intro @g2 <| @g3)
          repeat (first | refine v_ ?_ | refine u_ ?_ | refine nl_ ?_ | (refine nz_ ?_; first | (show aWp _ _ _ _ _) | skip) | refine sq_ ?_ | refine rg_ ?_ | refine k_ ?_ | refine ct_ ?_ | refine cf_ ?_ | refine bk_ ?_ | refine sc_ ?_ | (refine sk_ ?_; first | (show aWp _ _ _ _ _) | skip) | (refine ex_ ?_; first | (show aWp _ _ _ _ _) | skip) | refine rt_ ?_)
          have FX := Fx.mk (And.intro @hag <| And.intro @g1 <| And.intro @hd <| And.intro @g2 <| And.intro @g3 <| And.intro @i3 <| @i4)
          refine W_draw mixed rfl rfl ?_
          repeat (first | refine dq_ ?_ | refine dr_ [mb] ?_ | refine dm_ [m', k' + (1 + 1 + 1 + 1 + 1 + 1)] ?_ | refine da_ [m', k' + (1 + 1 + 1 + 1 + 1 + 1)] ?_ | refine ds_ [mb] ?_ | refine ds_ [m', k' + (1 + 1 + 1 + 1 + 1 + 1)] ?_ | refine dw_ [mb] ?_ | refine dk_ ?_ | refine dn_ ?_)
          refine fun kd hkd => ?_
          simp only [List.length_cons, List.length_nil] at hkd
          first | (show aWp _ _ _ _ _) | skip
          have hmap : (secB (S ++ List.replicate i z64) ++ [[AV.hs (k' + (1 + 1 + 1 + 1 + 1)) 0 64]]).map (fun e : List AV => e.map (frzN (k' + (0 + 1 + 1 + 1 + 1 + 1)) ⟨1, numB .u8 z64⟩)) = secB (S ++ List.replicate (i + 1) z64) := by
            rw [← hsn]
            exact frz_snoc (S ++ List.replicate i z64) (k' + 5)
          refine aWp_sub (Sub.freezeH (z := k' + (0 + 1 + 1 + 1 + 1 + 1)) (m := k' + (0 + 1 + 1 + 1 + 1 + 1 + 1 + 1)) (b := ⟨1, numB .u8 z64⟩) (bm := ⟨1, secB (S ++ List.replicate i z64) ++ [[.hs (k' + (1 + 1 + 1 + 1 + 1)) 0 64]]⟩) (by (have FX := Fx0; exact cl_)) (by (have FX := Fx0; exact cl_)) (by omega)) ?_
          dsimp only
          rw [hmap]
          have FX := Fx.mk (And.intro @hag <| And.intro @g1 <| @hwi)
          repeat (first | refine v_ ?_ | refine u_ ?_ | refine nl_ ?_ | (refine nz_ ?_; first | (show aWp _ _ _ _ _) | skip) | refine sq_ ?_ | refine rg_ ?_ | refine k_ ?_ | refine ct_ ?_ | refine cf_ ?_ | refine bk_ ?_ | refine sc_ ?_ | (refine sk_ ?_; first | (show aWp _ _ _ _ _) | skip) | (refine ex_ ?_; first | (show aWp _ _ _ _ _) | skip) | refine rt_ ?_)
          refine ⟨n - S.length - (i + 1), by omega, ⟨by first | omega | (simp only; omega), i + 1, by omega, rfl, ?_, k' + (0 + 1 + 1 + 1 + 1 + 1 + 1 + 1), .inr (by omega), by first | omega | (simp only; omega), ?_, ?_, ?_⟩, ?_, ?_, by first | omega | (simp only; omega), rfl⟩
          · (have FX := Fx0; exact cl_)
          · (have FX := Fx0; exact cl_)
          · (have FX := Fx0; exact cl_)
          · intro q q1 q2 q3; (have FX := Fx.mk ((g4 q q1 q2 q3)); exact cl_)
          · repeat (refine KAgree.upd rfl ?_)
            first | exact KAgree.refl _ _ | exact hag
          · intro q hq; exact absurd hq (Nat.not_lt_zero _)
        · obtain rfl : i = n - S.length := by omega
          have hd : decide (((n - S.length : Nat) : Int) < ((n - S.length : Nat) : Int)) = false := by simp
          have FX := Fx.mk (And.intro @hag <| And.intro @g1 <| @hd)
          repeat (first | refine v_ ?_ | refine u_ ?_ | refine nl_ ?_ | (refine nz_ ?_; first | (show aWp _ _ _ _ _) | skip) | refine sq_ ?_ | refine rg_ ?_ | refine k_ ?_ | refine ct_ ?_ | refine cf_ ?_ | refine bk_ ?_ | refine sc_ ?_ | (refine sk_ ?_; first | (show aWp _ _ _ _ _) | skip) | (refine ex_ ?_; first | (show aWp _ _ _ _ _) | skip) | refine rt_ ?_)
          refine W_endRn (by rw [Tryd.results38]) (by (have FX := Fx0; exact cr_)) ⟨rfl, by omega, m', m1', by omega, ?_, ?_, ?_⟩
          · (have FX := Fx.mk (@g2); exact cl_)
          · (have FX := Fx.mk (And.intro @g3 <| @hSl); exact cl_)
          · intro q q1 q2 q3; (have FX := Fx.mk ((g4 q q1 q2 q3)); exact cl_)
    · have d1 : decide (x = 2) = false := decide_eq_false hx
      have hdo : doH S (x, (n : Int), d) = S.set n d := by unfold doH; rw [if_neg hx]; simp
      rw [hdo]
      by_cases hlt : n < S.length
      · have d2 : decide ((n : Int) < (S.length : Int)) = true := decide_eq_true (by omega)
        have hst := secB_set S n d
        obtain ⟨s, hs0⟩ : ∃ s, S[n]? = some s := ⟨_, List.getElem?_eq_getElem hlt⟩
        have hs := secB_get S n s hs0
        have i2 : (S.set n d).length = S.length := by simp
        have FX := Fx.mk (And.intro @d1 <| And.intro @h1 <| @hb)
        repeat (first | refine v_ ?_ | refine u_ ?_ | refine nl_ ?_ | (refine nz_ ?_; first | (show aWp _ _ _ _ _) | skip) | refine sq_ ?_ | refine rg_ ?_ | refine k_ ?_ | refine ct_ ?_ | refine cf_ ?_ | refine bk_ ?_ | refine sc_ ?_ | (refine sk_ ?_; first | (show aWp _ _ _ _ _) | skip) | (refine ex_ ?_; first | (show aWp _ _ _ _ _) | skip) | refine rt_ ?_)
        have FX := Fx.mk (And.intro @d1 <| And.intro @h1 <| And.intro @hb <| And.intro @i1 <| @d2)
        refine W_draw mixed rfl rfl ?_
        repeat (first | refine dq_ ?_ | refine dr_ [nx, mb] ?_ | refine dm_ [nx, mb] ?_ | refine da_ [nx, mb] ?_ | refine ds_ [nx, mb] ?_ | refine dw_ [nx, mb] ?_ | refine dk_ ?_ | refine dn_ ?_)
        refine fun kd hkd => ?_
        simp only [List.length_cons, List.length_nil] at hkd
        first | (show aWp _ _ _ _ _) | skip
        have FX := Fx.mk (And.intro @d1 <| @d2)
        repeat (first | refine v_ ?_ | refine u_ ?_ | refine nl_ ?_ | (refine nz_ ?_; first | (show aWp _ _ _ _ _) | skip) | refine sq_ ?_ | refine rg_ ?_ | refine k_ ?_ | refine ct_ ?_ | refine cf_ ?_ | refine bk_ ?_ | refine sc_ ?_ | (refine sk_ ?_; first | (show aWp _ _ _ _ _) | skip) | (refine ex_ ?_; first | (show aWp _ _ _ _ _) | skip) | refine rt_ ?_)
        have FX := Fx.mk (And.intro @d1 <| And.intro @h1 <| And.intro @hb <| And.intro @i1 <| And.intro @d2 <| And.intro @hst <| @hs)
        refine W_draw mixed rfl rfl ?_
        repeat (first | refine dq_ ?_ | refine dr_ [nx, mb, m1] ?_ | refine dm_ [nx, mb, m1] ?_ | refine da_ [nx, mb, m1] ?_ | refine ds_ [nx, mb, m1] ?_ | refine dw_ [nx, mb, m1] ?_ | refine dk_ ?_ | refine dn_ ?_)
        refine fun kd hkd => ?_
        simp only [List.length_cons, List.length_nil] at hkd
        first | (show aWp _ _ _ _ _) | skip
        have FX := Fx0
        repeat (first | refine v_ ?_ | refine u_ ?_ | refine nl_ ?_ | (refine nz_ ?_; first | (show aWp _ _ _ _ _) | skip) | refine sq_ ?_ | refine rg_ ?_ | refine k_ ?_ | refine ct_ ?_ | refine cf_ ?_ | refine bk_ ?_ | refine sc_ ?_ | (refine sk_ ?_; first | (show aWp _ _ _ _ _) | skip) | (refine ex_ ?_; first | (show aWp _ _ _ _ _) | skip) | refine rt_ ?_)
        refine W_endRn (by rw [Tryd.results38]) (by (have FX := Fx0; exact cr_)) ⟨rfl, by omega, m1, .inl rfl, by omega, ?_, ?_, ?_⟩
        · (have FX := Fx.mk (@h1); exact cl_)
        · (have FX := Fx.mk (And.intro @hb <| @i2); exact cl_)
        · intro q q1 q2 q3; (have FX := Fx0; exact cl_)
      · have d2 : decide ((n : Int) < (S.length : Int)) = false := decide_eq_false (by omega)
        rw [List.set_eq_of_length_le (by omega)]
        have FX := Fx.mk (And.intro @d1 <| And.intro @h1 <| @hb)
        repeat (first | refine v_ ?_ | refine u_ ?_ | refine nl_ ?_ | (refine nz_ ?_; first | (show aWp _ _ _ _ _) | skip) | refine sq_ ?_ | refine rg_ ?_ | refine k_ ?_ | refine ct_ ?_ | refine cf_ ?_ | refine bk_ ?_ | refine sc_ ?_ | (refine sk_ ?_; first | (show aWp _ _ _ _ _) | skip) | (refine ex_ ?_; first | (show aWp _ _ _ _ _) | skip) | refine rt_ ?_)
        have FX := Fx.mk (And.intro @d1 <| And.intro @h1 <| And.intro @hb <| And.intro @i1 <| @d2)
        refine W_draw mixed rfl rfl ?_
        repeat (first | refine dq_ ?_ | refine dr_ [nx, mb] ?_ | refine dm_ [nx, mb] ?_ | refine da_ [nx, mb] ?_ | refine ds_ [nx, mb] ?_ | refine dw_ [nx, mb] ?_ | refine dk_ ?_ | refine dn_ ?_)
        refine fun kd hkd => ?_
        simp only [List.length_cons, List.length_nil] at hkd
        first | (show aWp _ _ _ _ _) | skip
        have FX := Fx.mk (And.intro @d1 <| @d2)
        repeat (first | refine v_ ?_ | refine u_ ?_ | refine nl_ ?_ | (refine nz_ ?_; first | (show aWp _ _ _ _ _) | skip) | refine sq_ ?_ | refine rg_ ?_ | refine k_ ?_ | refine ct_ ?_ | refine cf_ ?_ | refine bk_ ?_ | refine sc_ ?_ | (refine sk_ ?_; first | (show aWp _ _ _ _ _) | skip) | (refine ex_ ?_; first | (show aWp _ _ _ _ _) | skip) | refine rt_ ?_)
        refine W_endRn (by rw [Tryd.results38]) (by (have FX := Fx0; exact cr_)) ⟨rfl, by omega, m1, .inl rfl, by omega, ?_, ?_, ?_⟩
        · (have FX := Fx.mk (@h1); exact cl_)
        · (have FX := Fx.mk (@hb); exact cl_)
        · intro q q1 q2 q3; (have FX := Fx0; exact cl_)
  · rintro a h' k' ⟨rfl, q1, m', q2, q3, q4, q5, q6⟩
    refine ⟨fun i => decide ((nx ≤ i ∨ i = m1) ∧ i ≠ m'), rfl, q1, m', q2, q3, ?_⟩
    have hmb : m' ≠ mb := fun e => by subst e; rw [q4] at q5; cases q5
    funext i
    by_cases e1 : i = mb
    · subst e1
      rw [upd_same, if_neg, q5]
      simp only [decide_eq_true_eq]
      omega
    · rw [upd_ne _ _ _ e1]
      by_cases e2 : i = m'
      · subst e2
        rw [upd_same, if_neg, q4]
        simp
      · rw [upd_ne _ _ _ e2]
        by_cases e3 : i = m1
        · subst e3
          rw [upd_same, if_pos]
          simp [e2]
        · rw [upd_ne _ _ _ e3]
          by_cases e4 : nx ≤ i
          · rw [if_pos (by simp [e4, e2]), hfr i e4]
          · rw [if_neg (by simp only [decide_eq_true_eq]; omega), q6 i (by omega) e3 e1]
end Go.Proofs.YtjidgdfdeckofaaDoor.AE

/- Layer 3: Crash. -/
namespace Go.Proofs.YtjidgdfdeckofaaDoor.AE
open Go Go.RowKit Go.Proofs Go.Proofs.YtjidgdfdeckofaaDoor
set_option linter.unusedVariables false
set_option linter.unusedSimpArgs false
set_option maxRecDepth 100000
set_option maxHeartbeats 8000000
def boolB (l : List Bool) : List (List AV) := l.map fun b => [.bool b]
theorem boolB_len (l : List Bool) : (boolB l).length = l.length := by simp [boolB]
theorem boolB_get (l : List Bool) (i : Nat) (b : Bool) (h : l[i]? = some b) : (boolB l)[i]? = some [.bool b] := by simp [boolB, h]
theorem actsB_nil : actsB [] = [] := rfl
theorem host_CrashZ (S : List (List Int)) (W : List Act3) (cap : Int) (keep : List Bool) (hok : okH S W cap) : aFun Tryd.prog 11 [hostV S W cap, .sl (boolB keep)] (.tup [.agg [.sl (secB (runH S W keep)), .zs, .int .i64 cap], .int .i64 0]) := by
  have ck := host_Check S W cap
  have d0 : decide ((0 : Int) = 0) = true := rfl
  · rw [chkH_ok hok] at ck
    have cl := host_Clone S W cap hok
    have i1 := secB_len S
    have i2 := actsB_len W
    have i3 := boolB_len keep
    have hWl := hok.2.2.2.1
    have zn := actsB_nil
    unfold hostV at ck cl ⊢
    refine aFun_bodyZ Tryd.func11 rfl rfl (by simp [Tryd.ntmps11]) fun hreal h nx hfresh => ?_
    rw [Tryd.ntmps11]
    have FX := Fx.mk (And.intro @d0 <| And.intro @i1 <| @i2)
    repeat (first | refine v_ ?_ | refine u_ ?_ | refine f_ (ck) fun kf hkf => ?_ | refine o2_ (cl) fun ma mb kf hkf => ?_ | refine nl_ ?_ | (refine nz_ ?_; first | (show aWp _ _ _ _ _) | skip) | refine sq_ ?_ | refine rg_ ?_ | refine k_ ?_ | refine ct_ ?_ | refine cf_ ?_ | refine bk_ ?_ | refine sc_ ?_ | (refine sk_ ?_; first | (show aWp _ _ _ _ _) | skip) | (refine ex_ ?_; first | (show aWp _ _ _ _ _) | skip) | refine rt_ ?_)
    refine W_loopK [1, 2, 4, 18, 19] nx (fun r tm h q => ∃ i m' : Nat, i ≤ W.length ∧ r = W.length - i ∧ tm 20 = .int .i64 i ∧ nx + 1 < m' ∧ mb < q ∧ m' < q ∧ m' ≠ mb ∧ h nx = some ⟨3, [[.hs m' 0 (runH S (W.take i) keep).length, .hs mb 0 W.length, .int .i64 cap]]⟩ ∧ h m' = some ⟨1, secB (runH S (W.take i) keep)⟩ ∧ h mb = some ⟨3, actsB W⟩ ∧ h (nx + 1) = some ⟨3, [[.zs, .zs, .int .i64 0]]⟩) W.length (by omega) ⟨0, ma, Nat.zero_le _, rfl, rfl, by omega, by first | omega | (simp only; omega), by first | omega | (simp only; omega), by omega, by (have FX := Fx0; exact cl_), by (have FX := Fx0; exact cl_), by (have FX := Fx0; exact cl_), by (have FX := Fx0; exact cl_)⟩ ?_
    rintro r tm' h' k' ⟨i, m', hi, rfl, h20, m1, m2, m3, m4, b1, b2, b3, b4⟩ hag hh hk'
    by_cases hlt : i < W.length
    · have hd : decide ((i : Int) < (W.length : Int)) = true := decide_eq_true (by omega)
      have hw : IntKind.i64.wrap (i + 1) = ((i + 1 : Nat) : Int) := by rw [wrapI] <;> omega
      obtain ⟨a, hx0⟩ : ∃ a, W[i]? = some a := ⟨W[i], List.getElem?_eq_getElem hlt⟩
      have hx := actsB_get W i a hx0
      have hst := runH_step i W keep S a hx0
      have hma := hok.2.2.2.2 a (List.mem_of_getElem? hx0)
      by_cases hk : i < keep.length
      · have dk : decide ((i : Int) < (keep.length : Int)) = true := decide_eq_true (by omega)
        obtain ⟨b, hb0⟩ : ∃ b, keep[i]? = some b := ⟨keep[i], List.getElem?_eq_getElem hk⟩
        have hb := boolB_get keep i b hb0
        rw [List.getD_eq_getElem?_getD, hb0] at hst
        cases b with
        | true =>
          simp only [Option.getD_some, if_true] at hst
          obtain ⟨r1, r2⟩ := runH_ok (W.take i) keep S hok.2.1 hok.2.2.1 (fun c hc => hok.2.2.2.2 c (List.mem_of_mem_take hc))
          have hcap := hok.1
          have hat := mayP_at hma
          have FX := Fx.mk (And.intro @hag <| And.intro @h20 <| And.intro @hh <| And.intro @hd <| And.intro @hw <| And.intro @hx <| And.intro @hb <| And.intro @b1 <| And.intro @b2 <| And.intro @b3 <| And.intro @b4 <| And.intro @i2 <| And.intro @i3 <| @dk)
          repeat (first | refine v_ ?_ | refine u_ ?_ | refine nl_ ?_ | (refine nz_ ?_; first | (show aWp _ _ _ _ _) | skip) | refine sq_ ?_ | refine rg_ ?_ | refine k_ ?_ | refine ct_ ?_ | refine cf_ ?_ | refine bk_ ?_ | refine sc_ ?_ | (refine sk_ ?_; first | (show aWp _ _ _ _ _) | skip) | (refine ex_ ?_; first | (show aWp _ _ _ _ _) | skip) | refine rt_ ?_)
          -- DBG
          refine W_R rfl (by (have FX := Fx.mk (And.intro @hag <| @hh); exact cl_)) (by simp only [WS]) (host_do (runH S (W.take i) keep) (.hs mb 0 W.length) cap a.1 a.2.1 a.2.2 m' nx hat.1 (by omega) (by omega) (by (have FX := Fx.mk (@b2); exact cl_)) (by (have FX := Fx.mk (@b1); exact cl_))) (by rintro a h' k' ⟨_, e, _⟩; cases e) ?_
          rintro av h2 k2 ⟨_, e, rfl, hk2, m'', e1, e2, rfl⟩
          cases e
          rw [← hst]
          have FX := Fx.mk (And.intro @hag <| And.intro @h20 <| And.intro @hh <| @hw)
          repeat (first | refine v_ ?_ | refine u_ ?_ | refine nl_ ?_ | (refine nz_ ?_; first | (show aWp _ _ _ _ _) | skip) | refine sq_ ?_ | refine rg_ ?_ | refine k_ ?_ | refine ct_ ?_ | refine cf_ ?_ | refine bk_ ?_ | refine sc_ ?_ | (refine sk_ ?_; first | (show aWp _ _ _ _ _) | skip) | (refine ex_ ?_; first | (show aWp _ _ _ _ _) | skip) | refine rt_ ?_)
          refine ⟨W.length - (i + 1), by omega, ⟨i + 1, m'', by omega, rfl, ?_, by omega, by simp only; omega, by simp only; omega, by omega, ?_, ?_, ?_, ?_⟩, ?_, ?_, by simp only; omega, rfl⟩
          · (have FX := Fx0; exact cl_)
          · (have FX := Fx0; exact cl_)
          · (have FX := Fx0; exact cl_)
          · (have FX := Fx.mk (@b3); exact cl_)
          · (have FX := Fx.mk (@b4); exact cl_)
          · repeat (refine KAgree.upd rfl ?_)
            first | exact KAgree.refl _ _ | exact hag
          · exact (by have FX := Fx.mk (@hh); exact ha_)
        | false =>
          simp only [Option.getD_some, if_false, Bool.false_eq_true] at hst
          have FX := Fx.mk (And.intro @hag <| And.intro @h20 <| And.intro @hh <| And.intro @hd <| And.intro @hw <| And.intro @hx <| And.intro @b1 <| And.intro @b2 <| And.intro @b3 <| And.intro @b4 <| And.intro @i2 <| And.intro @i3 <| And.intro @hb <| @dk)
          repeat (first | refine v_ ?_ | refine u_ ?_ | refine nl_ ?_ | (refine nz_ ?_; first | (show aWp _ _ _ _ _) | skip) | refine sq_ ?_ | refine rg_ ?_ | refine k_ ?_ | refine ct_ ?_ | refine cf_ ?_ | refine bk_ ?_ | refine sc_ ?_ | (refine sk_ ?_; first | (show aWp _ _ _ _ _) | skip) | (refine ex_ ?_; first | (show aWp _ _ _ _ _) | skip) | refine rt_ ?_)
          refine ⟨W.length - (i + 1), by omega, ⟨i + 1, m', by omega, rfl, ?_, m1, by simp only; omega, by simp only; omega, m4, ?_, ?_, ?_, ?_⟩, ?_, ?_, by simp only; omega, rfl⟩
          · (have FX := Fx0; exact cl_)
          · (have FX := Fx.mk (And.intro @b1 <| @hst); exact cl_)
          · (have FX := Fx.mk (And.intro @b2 <| @hst); exact cl_)
          · (have FX := Fx.mk (@b3); exact cl_)
          · (have FX := Fx.mk (@b4); exact cl_)
          · repeat (refine KAgree.upd rfl ?_)
            first | exact KAgree.refl _ _ | exact hag
          · exact (by have FX := Fx.mk (@hh); exact ha_)
      · have dk : decide ((i : Int) < (keep.length : Int)) = false := decide_eq_false (by omega)
        rw [List.getD_eq_getElem?_getD, List.getElem?_eq_none (by omega)] at hst
        simp only [Option.getD_none, if_false, Bool.false_eq_true] at hst
        have FX := Fx.mk (And.intro @hag <| And.intro @h20 <| And.intro @hh <| And.intro @hd <| And.intro @hw <| And.intro @hx <| And.intro @b1 <| And.intro @b2 <| And.intro @b3 <| And.intro @b4 <| And.intro @i2 <| And.intro @i3 <| @dk)
        repeat (first | refine v_ ?_ | refine u_ ?_ | refine nl_ ?_ | (refine nz_ ?_; first | (show aWp _ _ _ _ _) | skip) | refine sq_ ?_ | refine rg_ ?_ | refine k_ ?_ | refine ct_ ?_ | refine cf_ ?_ | refine bk_ ?_ | refine sc_ ?_ | (refine sk_ ?_; first | (show aWp _ _ _ _ _) | skip) | (refine ex_ ?_; first | (show aWp _ _ _ _ _) | skip) | refine rt_ ?_)
        refine ⟨W.length - (i + 1), by omega, ⟨i + 1, m', by omega, rfl, ?_, m1, by simp only; omega, by simp only; omega, m4, ?_, ?_, ?_, ?_⟩, ?_, ?_, by simp only; omega, rfl⟩
        · (have FX := Fx0; exact cl_)
        · (have FX := Fx.mk (And.intro @b1 <| @hst); exact cl_)
        · (have FX := Fx.mk (And.intro @b2 <| @hst); exact cl_)
        · (have FX := Fx.mk (@b3); exact cl_)
        · (have FX := Fx.mk (@b4); exact cl_)
        · repeat (refine KAgree.upd rfl ?_)
          first | exact KAgree.refl _ _ | exact hag
        · exact (by have FX := Fx.mk (@hh); exact ha_)
    obtain rfl : i = W.length := by omega
    have hd : decide ((W.length : Int) < (W.length : Int)) = false := by simp
    rw [List.take_length] at b1 b2
    have l1 : (secB (runH S W keep)).take (runH S W keep).length = secB (runH S W keep) := take_len _ _ (secB_len _)
    have FX := Fx.mk (And.intro @hag <| And.intro @h20 <| And.intro @hh <| And.intro @hd <| And.intro @b1 <| And.intro @b2 <| And.intro @b3 <| @b4)
    repeat (first | refine v_ ?_ | refine u_ ?_ | refine nl_ ?_ | (refine nz_ ?_; first | (show aWp _ _ _ _ _) | skip) | refine sq_ ?_ | refine rg_ ?_ | refine k_ ?_ | refine ct_ ?_ | refine cf_ ?_ | refine bk_ ?_ | refine sc_ ?_ | (refine sk_ ?_; first | (show aWp _ _ _ _ _) | skip) | (refine ex_ ?_; first | (show aWp _ _ _ _ _) | skip) | refine rt_ ?_)
    exact W_endZ Tryd.results11 (by omega) (by intro m hm; first | rfl | (simp (disch := first | assumption | omega) only [upd_ne, hag, hh, b1, b2, b4, l1, secB_len]; first | done | rfl)) (by first | rfl | (simp (disch := first | rfl | decide | omega | assumption | (simp only [LL]; omega)) only [WS, NB, WY, RES, hag, hh, b1, b2, b4, l1, secB_len]; first | done | rfl)) (by first | rfl | (simp (disch := first | rfl | decide | omega | assumption | (simp only [LL]; omega)) only [WS, NB, WY, FYZ, hag, hh, b1, b2, b4, l1, secB_len]; first | done | rfl))
theorem host_Crash (S : List (List Int)) (W : List Act3) (cap : Int) (keep : List Bool) : aFun Tryd.prog 11 [hostV S W cap, .sl (boolB keep)] (if okH S W cap then .tup [hostV (runH S W keep) [] cap, .int .i64 0] else .tup [hostV [] [] 0, .int .i64 9]) := by
  by_cases hok : okH S W cap
  · rw [if_pos hok]
    have e : hostV (runH S W keep) [] cap = .agg [.sl (secB (runH S W keep)), .sl [], .int .i64 cap] := rfl
    rw [e]
    refine aFun_weak (fun _ _ _ _ _ h => ?_) (host_CrashZ S W cap keep hok)
    have := weak_tup h
    simpa only [List.map_cons, List.map_nil, weakA, weak1] using this
  · have ck := host_Check S W cap
    rw [if_neg hok]
    rw [chkH_bad hok] at ck
    have d9 : decide ((9 : Int) = 0) = false := rfl
    unfold hostV at ck ⊢
    refine aFun_body Tryd.func11 rfl rfl (by simp [Tryd.ntmps11]) fun hreal h nx hfresh => ?_
    rw [Tryd.ntmps11]
    have FX := Fx.mk (@d9)
    repeat (first | refine v_ ?_ | refine u_ ?_ | refine f_ (ck) fun kf hkf => ?_ | refine nl_ ?_ | (refine nz_ ?_; first | (show aWp _ _ _ _ _) | skip) | refine sq_ ?_ | refine rg_ ?_ | refine k_ ?_ | refine ct_ ?_ | refine cf_ ?_ | refine bk_ ?_ | refine sc_ ?_ | (refine sk_ ?_; first | (show aWp _ _ _ _ _) | skip) | (refine ex_ ?_; first | (show aWp _ _ _ _ _) | skip) | refine rt_ ?_)
    (have FX := Fx0; exact end_ Tryd.results11)
end Go.Proofs.YtjidgdfdeckofaaDoor.AE
