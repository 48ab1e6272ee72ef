/- Layer 7: what LeafOwn needs: Of, Spoil, read, Encode in memory of their own. -/
import Derived.Test.YtcnofpoffdjbpaaN10
import Derived.Test.YtcnofpoffdjbpaaN12
import Derived.Test.YtcnofpoffdjbpaaN16
import Derived.Test.YtcnofpoffdjbpaaC5
namespace Go.Proofs.Ytcnofpoffdjbpaa.AE
open Go Go.RowKit Go.Proofs Go.Proofs.Ytcnofpoffdjbpaa
set_option linter.unusedVariables false
set_option linter.unusedSimpArgs false
set_option maxRecDepth 100000
set_option maxHeartbeats 8000000
theorem law_Of2 (l : List (Int × Int)) (m : List Int) (hl : l.length * 16 ≤ 140737488351232) (hm : m.length * 8 ≤ 140737488351232) : aOwn2 Try.prog 12 [nodeV l m] (fun a b => .agg [a, b]) 2 (itemB l) 1 (numB .i64 m) := by
  unfold nodeV
  refine aOwn2_body Try.func12 rfl rfl (by simp [Try.ntmps12]) fun hreal h nx hfresh => ?_
  rw [Try.ntmps12]
  have h1 := itemB_len l
  have h2 := numB_len .i64 m
  have FX := Fx0
  repeat (first | refine v_ ?_ | refine u_ ?_ | refine nl_ ?_ | (refine nz_ ?_; first | (show aWp _ _ _ _ _) | skip) | refine sq_ ?_ | refine rg_ ?_ | refine k_ ?_ | refine ct_ ?_ | refine cf_ ?_ | refine bk_ ?_ | refine sc_ ?_ | (refine sk_ ?_; first | (show aWp _ _ _ _ _) | skip) | (refine ex_ ?_; first | (show aWp _ _ _ _ _) | skip) | refine rt_ ?_)
  have FX := Fx.mk (And.intro @h1 <| And.intro @h2 <| @itemB_sz)
  refine W_draw mixed rfl rfl ?_
  repeat (first | refine dq_ ?_ | refine dr_ [nx, nx + 1] ?_ | refine dm_ [nx, nx + 1] ?_ | refine da_ [nx, nx + 1] ?_ | refine ds_ [nx, nx + 1] ?_ | refine dw_ [nx, nx + 1] ?_ | refine dk_ ?_ | refine dn_ ?_)
  refine fun kd hkd => ?_
  simp only [List.length_cons, List.length_nil] at hkd
  first | (show aWp _ _ _ _ _) | skip
  have FX := Fx.mk (And.intro @h1 <| @h2)
  repeat (first | refine v_ ?_ | refine u_ ?_ | refine nl_ ?_ | (refine nz_ ?_; first | (show aWp _ _ _ _ _) | skip) | refine sq_ ?_ | refine rg_ ?_ | refine k_ ?_ | refine ct_ ?_ | refine cf_ ?_ | refine bk_ ?_ | refine sc_ ?_ | (refine sk_ ?_; first | (show aWp _ _ _ _ _) | skip) | (refine ex_ ?_; first | (show aWp _ _ _ _ _) | skip) | refine rt_ ?_)
  (have FX := Fx.mk (And.intro @h1 <| And.intro @h2 <| And.intro (take_len _ _ h1) <| (take_len _ _ h2)); exact end2_ (nx + 1 + 1 + (1 + 1 + 1)) (nx + 1 + 1 + (1 + 1 + 1 + 1 + 1 + 1 + 1)) Try.results12)
def spQ (h : AHeap) (nx m n : Nat) (a : AV) (h' : AHeap) (k' : Nat) : Prop := a = .tup [] ∧ nx ≤ k' ∧ ∃ l' : List Int, l'.length = n ∧ h' = upd h m (some ⟨1, numB .u8 l'⟩)
def spR (h : AHeap) (nx m n : Nat) (a : AV) (h' : AHeap) (k' : Nat) : Prop := a = .tup [] ∧ nx ≤ k' ∧ ∃ l' : List Int, l'.length = n ∧ h' m = some ⟨1, numB .u8 l'⟩ ∧ ∀ q, q < nx → q ≠ m → h' q = h q
/-- Octets are written over. -/
theorem Spoil (l : List Int) (m : Nat) (hl : l.length < 4611686018427387904) {h : AHeap} {nx : Nat} (hm : h m = some ⟨1, numB .u8 l⟩) : aCalls Try.prog 23 [.hs m 0 l.length] h nx (fun e h' k' => ∃ a, e = .ret a ∧ spQ h nx m l.length a h' k') := aCalls_real fun hreal0 hfr => by
  have nm : m < nx := by
    rcases Nat.lt_or_ge m nx with q | q
    · exact q
    · rw [hfr m q] at hm; cases hm
  refine aCalls_clean (R := spR h nx m l.length) ?_ ?_
  · refine aR_body Try.func23 rfl rfl (by simp [Try.ntmps23]) fun hreal hfresh => ?_
    rw [Try.ntmps23]
    have FX := Fx0
    repeat (first | refine v_ ?_ | refine u_ ?_ | refine nl_ ?_ | (refine nz_ ?_; first | (show aWp _ _ _ _ _) | skip) | refine sq_ ?_ | refine rg_ ?_ | refine k_ ?_ | refine ct_ ?_ | refine cf_ ?_ | refine bk_ ?_ | refine sc_ ?_ | (refine sk_ ?_; first | (show aWp _ _ _ _ _) | skip) | (refine ex_ ?_; first | (show aWp _ _ _ _ _) | skip) | refine rt_ ?_)
    refine W_loopK [0] 0 (fun r tm h' q => nx ≤ q ∧ ∃ (i : Nat) (l' : List Int), i ≤ l.length ∧ r = l.length - i ∧ tm 2 = .int .i64 i ∧ l'.length = l.length ∧ h' m = some ⟨1, numB .u8 l'⟩ ∧ ∀ q, q < nx → q ≠ m → h' q = h q) l.length (by omega) ⟨by first | omega | (simp only; omega), 0, l, Nat.zero_le _, rfl, rfl, rfl, by (have FX := Fx.mk (@hm); exact cl_), fun q q1 q2 => by (have FX := Fx0; exact cl_)⟩ ?_
    rintro r tm' h' k' ⟨g0, i, l', hi, rfl, h2, hl', b1, b2⟩ hag hh hk'
    by_cases hlt : i < l.length
    · have hd : decide ((i : Int) < (l.length : Int)) = true := decide_eq_true (by omega)
      have hw : IntKind.i64.wrap (i + 1) = ((i + 1 : Nat) : Int) := by rw [wrapI] <;> omega
      obtain ⟨c, hc⟩ : ∃ c, l'[i]? = some c := ⟨_, List.getElem?_eq_getElem (by omega)⟩
      have hcn := numB_get .u8 l' i c hc
      have FX := Fx.mk (And.intro @hag <| And.intro @h2 <| And.intro @hd <| And.intro @hw <| And.intro @b1 <| And.intro @hcn <| @hl')
      repeat (first | refine v_ ?_ | refine u_ ?_ | refine nl_ ?_ | (refine nz_ ?_; first | (show aWp _ _ _ _ _) | skip) | refine sq_ ?_ | refine rg_ ?_ | refine k_ ?_ | refine ct_ ?_ | refine cf_ ?_ | refine bk_ ?_ | refine sc_ ?_ | (refine sk_ ?_; first | (show aWp _ _ _ _ _) | skip) | (refine ex_ ?_; first | (show aWp _ _ _ _ _) | skip) | refine rt_ ?_)
      refine ⟨l.length - (i + 1), by omega, ⟨by first | omega | (simp only; omega), i + 1, _, by omega, rfl, ?_, ?_, by (have FX := Fx0; exact cl_), fun q q1 q2 => by (have FX := Fx.mk ((b2 q q1 q2)); exact cl_)⟩, ?_, ?_, by first | omega | (simp only; omega), rfl⟩
      · (have FX := Fx0; exact cl_)
      · rw [List.length_set]; exact hl'
      · repeat (refine KAgree.upd rfl ?_)
        first | exact KAgree.refl _ _ | exact hag
      · intro q hq; exact absurd hq (Nat.not_lt_zero _)
    obtain rfl : i = l.length := by omega
    have hd : decide ((l.length : Int) < (l.length : Int)) = false := by simp
    have FX := Fx.mk (And.intro @hag <| And.intro @h2 <| @hd)
    repeat (first | refine v_ ?_ | refine u_ ?_ | refine nl_ ?_ | (refine nz_ ?_; first | (show aWp _ _ _ _ _) | skip) | refine sq_ ?_ | refine rg_ ?_ | refine k_ ?_ | refine ct_ ?_ | refine cf_ ?_ | refine bk_ ?_ | refine sc_ ?_ | (refine sk_ ?_; first | (show aWp _ _ _ _ _) | skip) | (refine ex_ ?_; first | (show aWp _ _ _ _ _) | skip) | refine rt_ ?_)
    refine W_endRn (by rw [Try.results23]) (by (have FX := Fx0; exact cr_)) ⟨rfl, by omega, l', hl', by (have FX := Fx.mk (@b1); exact cl_), fun q q1 q2 => by (have FX := Fx.mk ((b2 q q1 q2)); exact cl_)⟩
  · rintro a h' k' ⟨rfl, q1, l', q2, q3, q4⟩
    refine ⟨fun i => decide (nx ≤ i), rfl, q1, l', q2, ?_⟩
    funext i
    by_cases e1 : i = m
    · subst e1; rw [upd_same, if_neg (by simp; omega), q3]
    · rw [upd_ne _ _ _ e1]
      by_cases e2 : nx ≤ i
      · rw [if_pos (by simp [e2]), hfr i e2]
      · rw [if_neg (by simp [e2]), q4 i (by omega) e1]
/-- A node in memory of its own: what is left of memory. -/
def nodR (h : AHeap) (nx : Nat) (l : List (Int × Int)) (kids : List Int) (a : AV) (h' : AHeap) (k' : Nat) : Prop :=
  nx ≤ k' ∧ (∀ q, q < nx → h' q = h q) ∧ ((∃ m, a = .agg [.hs m 0 (itemB l).length, .zs] ∧ kids = [] ∧ nx ≤ m ∧ m < k' ∧ h' m = some ⟨2, itemB l⟩) ∨
    ∃ m1 m2, a = .agg [.hs m1 0 (itemB l).length, .hs m2 0 (numB .i64 kids).length] ∧ nx ≤ m1 ∧ nx ≤ m2 ∧ m1 ≠ m2 ∧ m1 < k' ∧ m2 < k' ∧ h' m1 = some ⟨2, itemB l⟩ ∧ h' m2 = some ⟨1, numB .i64 kids⟩)
def nodQ (h : AHeap) (nx : Nat) (l : List (Int × Int)) (kids : List Int) (a : AV) (h' : AHeap) (k' : Nat) : Prop :=
  nx ≤ k' ∧ ((∃ m, a = .agg [.hs m 0 (itemB l).length, .zs] ∧ kids = [] ∧ nx ≤ m ∧ m < k' ∧ h' = upd h m (some ⟨2, itemB l⟩)) ∨
    ∃ m1 m2, a = .agg [.hs m1 0 (itemB l).length, .hs m2 0 (numB .i64 kids).length] ∧ nx ≤ m1 ∧ nx ≤ m2 ∧ m1 ≠ m2 ∧ m1 < k' ∧ m2 < k' ∧ h' = upd (upd h m1 (some ⟨2, itemB l⟩)) m2 (some ⟨1, numB .i64 kids⟩))
theorem nodR_Q {P : Program} {f : FuncId} {args : List AV} {h : AHeap} {nx : Nat} {l : List (Int × Int)} {kids : List Int} (hf : ∀ n, nx ≤ n → h n = none) (hc : aCalls P f args h nx (fun e h' k' => ∃ a, e = .ret a ∧ nodR h nx l kids a h' k')) : aCalls P f args h nx (fun e h' k' => ∃ a, e = .ret a ∧ nodQ h nx l kids a h' k') := by
  refine aCalls_clean hc ?_
  rintro a h' k' ⟨q1, q2, ⟨m, rfl, q3, q4, q5, q6⟩ | ⟨m1, m2, rfl, q3, q4, q5, q6, q7, q8, q9⟩⟩
  · refine ⟨fun i => decide (nx ≤ i ∧ i ≠ m), q1, .inl ⟨m, rfl, q3, q4, q5, ?_⟩⟩
    funext i
    by_cases e2 : i = m
    · subst e2; rw [upd_same]; simp [q6]
    · rw [upd_ne _ _ _ e2]
      by_cases e : nx ≤ i
      · simp [e, e2, hf i e]
      · simp [e, q2 i (by omega)]
  · refine ⟨fun i => decide (nx ≤ i ∧ i ≠ m1 ∧ i ≠ m2), q1, .inr ⟨m1, m2, rfl, q3, q4, q5, q6, q7, ?_⟩⟩
    funext i
    by_cases e2 : i = m2
    · subst e2; rw [upd_same]; simp [q9]
    · rw [upd_ne _ _ _ e2]
      by_cases e1 : i = m1
      · subst e1; rw [upd_same]; simp [q8]
      · rw [upd_ne _ _ _ e1]
        by_cases e : nx ≤ i
        · simp [e, e1, e2, hf i e]
        · simp [e, q2 i (by omega)]
theorem leaf_readR (x : List Int) (hx : x.length = 60) (h01 : x.getD 0 0 = 1 ∨ x.getD 0 0 = 2) (h : AHeap) (nx : Nat) : aCalls Try.prog 32 [.sl (numB .u8 x)] h nx (fun e h' k' => ∃ a, e = .ret a ∧ nodQ h nx (toldN x).1 (toldN x).2 a h' k') := aCalls_real fun hreal0 hfr => by
  refine nodR_Q hfr ?_
  obtain ⟨x0, e0⟩ : ∃ c, x[0]? = some c := ⟨_, List.getElem?_eq_getElem (by omega)⟩
  obtain ⟨x1, e1⟩ : ∃ c, x[1]? = some c := ⟨_, List.getElem?_eq_getElem (by omega)⟩
  have g0 := numB_get .u8 x 0 x0 e0
  have g1 := numB_get .u8 x 1 x1 e1
  refine aR_body Try.func32 rfl rfl (by simp [Try.ntmps32]) fun hreal hfresh => ?_
  rw [Try.ntmps32]
  have hby := (hreal (.sl (numB .u8 x)) (by simp)).BY
  have r0 := hby x0 (List.mem_of_getElem? e0)
  have r1 := hby x1 (List.mem_of_getElem? e1)
  have w0 : IntKind.i64.wrap x0 = x0 := by rw [wrapI] <;> omega
  have w1 : IntKind.i64.wrap x1 = x1 := by rw [wrapI] <;> omega
  have hM : tM x ≤ 3 := by unfold tM; omega
  have hm : (if 3 < x1 then 3 else x1) = ((tM x : Nat) : Int) := by
    unfold tM
    rw [List.getD_eq_getElem?_getD, e1]
    simp only [Option.getD_some]
    split <;> omega
  have hT0 := tK1_0 x
  have FX := Fx0
  repeat (first | refine v_ ?_ | refine u_ ?_ | refine nl_ ?_ | (refine nz_ ?_; first | (show aWp _ _ _ _ _) | skip) | refine sq_ ?_ | refine rg_ ?_ | refine k_ ?_ | refine ct_ ?_ | refine cf_ ?_ | refine bk_ ?_ | refine sc_ ?_ | (refine sk_ ?_; first | (show aWp _ _ _ _ _) | skip) | (refine ex_ ?_; first | (show aWp _ _ _ _ _) | skip) | refine rt_ ?_)
  have FX := Fx.mk (And.intro @e0 <| And.intro @e1 <| And.intro @g0 <| And.intro @g1 <| And.intro @w0 <| And.intro @w1 <| @hm)
  refine W_draw mixed rfl rfl ?_
  repeat (first | refine dq_ ?_ | refine dr_ [nx] ?_ | refine dm_ [nx] ?_ | refine da_ [nx] ?_ | refine ds_ [nx] ?_ | refine dw_ [nx] ?_ | refine dk_ ?_ | refine dn_ ?_)
  refine fun kd hkd => ?_
  simp only [List.length_cons, List.length_nil] at hkd
  first | (show aWp _ _ _ _ _) | skip
  have FX := Fx.mk (@hT0)
  repeat (first | refine v_ ?_ | refine u_ ?_ | refine nl_ ?_ | (refine nz_ ?_; first | (show aWp _ _ _ _ _) | skip) | refine sq_ ?_ | refine rg_ ?_ | refine k_ ?_ | refine ct_ ?_ | refine cf_ ?_ | refine bk_ ?_ | refine sc_ ?_ | (refine sk_ ?_; first | (show aWp _ _ _ _ _) | skip) | (refine ex_ ?_; first | (show aWp _ _ _ _ _) | skip) | refine rt_ ?_)
  refine W_loopK [1, 2, 3, 4, 5, 6, 24] (nx + 1) (fun r tm h q => ∃ i : Nat, i ≤ tM x ∧ r = tM x - i ∧ tm 25 = .int .i64 i ∧ kd + 1 < q ∧ h (nx + 1) = some ⟨2, [[.hs (kd + 1) 0 (tM x), .zs]]⟩ ∧ h kd = some ⟨1, [[.int .i64 ((4 + 8 * i : Nat) : Int)]]⟩ ∧ h (kd + 1) = some ⟨2, itemB (tK1 x i)⟩) (tM x) (by omega) ⟨0, Nat.zero_le _, rfl, rfl, by omega, by (have FX := Fx0; exact cl_), by (have FX := Fx0; exact cl_), by (have FX := Fx.mk (@hT0); exact cl_)⟩ ?_
  rintro r tm' h' k' ⟨i, hi, rfl, h25, hk3, b1, b2, b3⟩ hag hh hk'
  have hbox : h' nx = some ⟨1, [[.sl (numB .u8 x)]]⟩ := by rw [hh nx (by omega)]; (have FX := Fx0; exact cl_)
  by_cases hlt : i < tM x
  · have hd : decide ((i : Int) < (tM x : Int)) = true := decide_eq_true (by omega)
    have hw : IntKind.i64.wrap (i + 1) = ((i + 1 : Nat) : Int) := by rw [wrapI] <;> omega
    have t1 := tK1_len x i
    have t2 := tK1_get x i hlt
    have t3 := tK1_set x i hlt
    have t4 := itemB_len (tK1 x i)
    have t5 : 4 + 8 * (i + 1) = 4 + 8 * i + 8 := by omega
    have FX := Fx.mk (And.intro @hag <| And.intro @h25 <| And.intro @hh <| And.intro @hd <| And.intro @hw <| And.intro @b1 <| And.intro @b2 <| And.intro @b3 <| @hbox)
    repeat (first | refine v_ ?_ | refine u_ ?_ | refine nl_ ?_ | (refine nz_ ?_; first | (show aWp _ _ _ _ _) | skip) | refine sq_ ?_ | refine rg_ ?_ | refine k_ ?_ | refine ct_ ?_ | refine cf_ ?_ | refine bk_ ?_ | refine sc_ ?_ | (refine sk_ ?_; first | (show aWp _ _ _ _ _) | skip) | (refine ex_ ?_; first | (show aWp _ _ _ _ _) | skip) | refine rt_ ?_)
    have FX := Fx.mk (And.intro @hag <| And.intro @h25 <| And.intro @hh <| And.intro @hd <| And.intro @hw <| And.intro @b1 <| And.intro @b2 <| And.intro @b3 <| And.intro @hbox <| And.intro @t1 <| And.intro @t2 <| And.intro @t3 <| @t4)
    refine W_draw mixed rfl rfl ?_
    repeat (first | refine dq_ ?_ | (refine D_c [nx,kd] (by exact cl_) (by simp only [WS]) (fun g q_ hg => by simp only [RdEq] at hg; exact (read_next8 x (4 + 8 * i) nx kd (by omega) (by omega)) (by first | rfl | (simp (disch := first | rfl | decide | omega | assumption | (simp only [LL]; omega)) only [WS, NB, WY, FX.out, hg]; first | done | rfl)) (by first | rfl | (simp (disch := first | rfl | decide | omega | assumption | (simp only [LL]; omega)) only [WS, NB, WY, FX.out, hg]; first | done | rfl))) ?_) | refine dr_ [nx, nx + 1, kd + 1] ?_ | refine dm_ [nx, nx + 1, kd + 1] ?_ | refine da_ [nx, nx + 1, kd + 1] ?_ | refine ds_ [nx, nx + 1, kd + 1] ?_ | refine dw_ [nx, nx + 1, kd + 1] ?_ | refine dk_ ?_ | refine dn_ ?_)
    refine fun kd hkd => ?_
    simp only [List.length_cons, List.length_nil] at hkd
    first | (show aWp _ _ _ _ _) | skip
    have FX := Fx.mk (And.intro @hag <| And.intro @h25 <| And.intro @hh <| @hw)
    repeat (first | refine v_ ?_ | refine u_ ?_ | refine nl_ ?_ | (refine nz_ ?_; first | (show aWp _ _ _ _ _) | skip) | refine sq_ ?_ | refine rg_ ?_ | refine k_ ?_ | refine ct_ ?_ | refine cf_ ?_ | refine bk_ ?_ | refine sc_ ?_ | (refine sk_ ?_; first | (show aWp _ _ _ _ _) | skip) | (refine ex_ ?_; first | (show aWp _ _ _ _ _) | skip) | refine rt_ ?_)
    refine ⟨tM x - (i + 1), by omega, ⟨i + 1, by omega, rfl, ?_, by simp only; omega, ?_, ?_, ?_⟩, ?_, ?_, by simp only; omega, rfl⟩
    · (have FX := Fx0; exact cl_)
    · (have FX := Fx.mk (@b1); exact cl_)
    · (have FX := Fx.mk (@t5); exact cl_)
    · (have FX := Fx0; exact cl_)
    · repeat (refine KAgree.upd rfl ?_)
      first | exact KAgree.refl _ _ | exact hag
    · exact (by have FX := Fx.mk (@hh); exact ha_)
  obtain rfl : i = tM x := by omega
  have hd : decide ((tM x : Int) < (tM x : Int)) = false := by simp
  rw [tK1_all] at b3
  rcases h01 with h01 | h01
  · have hk1 : x0 = 1 := by rw [List.getD_eq_getElem?_getD, e0] at h01; exact h01
    have ht : toldN x = (tK2 x (tM x), []) := if_pos h01
    have d1 : decide ((x0 : Int) = 1) = true := decide_eq_true hk1
    rw [ht]
    have FX := Fx.mk (And.intro @hag <| And.intro @h25 <| And.intro @hh <| And.intro @hd <| And.intro @d1 <| And.intro @b1 <| And.intro @b2 <| And.intro @b3 <| @hbox)
    repeat (first | refine v_ ?_ | refine u_ ?_ | refine nl_ ?_ | (refine nz_ ?_; first | (show aWp _ _ _ _ _) | skip) | refine sq_ ?_ | refine rg_ ?_ | refine k_ ?_ | refine ct_ ?_ | refine cf_ ?_ | refine bk_ ?_ | refine sc_ ?_ | (refine sk_ ?_; first | (show aWp _ _ _ _ _) | skip) | (refine ex_ ?_; first | (show aWp _ _ _ _ _) | skip) | refine rt_ ?_)
    refine W_loopK [1, 2, 3, 4, 5, 6, 40] (nx + 1) (fun r tm h q => ∃ i : Nat, i ≤ tM x ∧ r = tM x - i ∧ tm 41 = .int .i64 i ∧ kd + 1 < q ∧ h (nx + 1) = some ⟨2, [[.hs (kd + 1) 0 (tM x), .zs]]⟩ ∧ h kd = some ⟨1, [[.int .i64 ((4 + 8 * tM x + 8 * i : Nat) : Int)]]⟩ ∧ h (kd + 1) = some ⟨2, itemB (tK2 x i)⟩) (tM x) (by omega) ⟨0, Nat.zero_le _, rfl, rfl, by omega, by (have FX := Fx.mk (@b1); exact cl_), by (have FX := Fx.mk (@b2); exact cl_), by (have FX := Fx.mk (@b3); exact cl_)⟩ ?_
    rintro r tm2 h2 k2 ⟨i, hi2, rfl, h41, hk4, c1, c2, c3⟩ hag2 hh2 hk2
    have hbox2 : h2 nx = some ⟨1, [[.sl (numB .u8 x)]]⟩ := by rw [hh2 nx (by omega), hbox]
    by_cases hlt : i < tM x
    · have hd : decide ((i : Int) < (tM x : Int)) = true := decide_eq_true (by omega)
      have hw : IntKind.i64.wrap (i + 1) = ((i + 1 : Nat) : Int) := by rw [wrapI] <;> omega
      have t1 := tK2_len x i
      have t2 := tK2_get x i hlt
      have t3 := tK2_set x i hlt
      have t4 := itemB_len (tK2 x i)
      have t5 : 4 + 8 * tM x + 8 * (i + 1) = 4 + 8 * tM x + 8 * i + 8 := by omega
      have FX := Fx.mk (And.intro @hag2 <| And.intro @hag <| And.intro @h41 <| And.intro @hh2 <| And.intro @hh <| And.intro @hd <| And.intro @hw <| And.intro @c1 <| And.intro @c2 <| And.intro @c3 <| @hbox2)
      repeat (first | refine v_ ?_ | refine u_ ?_ | refine nl_ ?_ | (refine nz_ ?_; first | (show aWp _ _ _ _ _) | skip) | refine sq_ ?_ | refine rg_ ?_ | refine k_ ?_ | refine ct_ ?_ | refine cf_ ?_ | refine bk_ ?_ | refine sc_ ?_ | (refine sk_ ?_; first | (show aWp _ _ _ _ _) | skip) | (refine ex_ ?_; first | (show aWp _ _ _ _ _) | skip) | refine rt_ ?_)
      have FX := Fx.mk (And.intro @hag2 <| And.intro @hag <| And.intro @h41 <| And.intro @hh2 <| And.intro @hh <| And.intro @hd <| And.intro @hw <| And.intro @c1 <| And.intro @c2 <| And.intro @c3 <| And.intro @hbox2 <| And.intro @t1 <| And.intro @t2 <| And.intro @t3 <| @t4)
      refine W_draw mixed rfl rfl ?_
      repeat (first | refine dq_ ?_ | (refine D_c [nx,kd] (by exact cl_) (by simp only [WS]) (fun g q_ hg => by simp only [RdEq] at hg; exact (read_next8 x (4 + 8 * tM x + 8 * i) nx kd (by omega) (by omega)) (by first | rfl | (simp (disch := first | rfl | decide | omega | assumption | (simp only [LL]; omega)) only [WS, NB, WY, FX.out, hg]; first | done | rfl)) (by first | rfl | (simp (disch := first | rfl | decide | omega | assumption | (simp only [LL]; omega)) only [WS, NB, WY, FX.out, hg]; first | done | rfl))) ?_) | refine dr_ [nx, nx + 1, kd + 1] ?_ | refine dm_ [nx, nx + 1, kd + 1] ?_ | refine da_ [nx, nx + 1, kd + 1] ?_ | refine ds_ [nx, nx + 1, kd + 1] ?_ | refine dw_ [nx, nx + 1, kd + 1] ?_ | refine dk_ ?_ | refine dn_ ?_)
      refine fun kd hkd => ?_
      simp only [List.length_cons, List.length_nil] at hkd
      first | (show aWp _ _ _ _ _) | skip
      have FX := Fx.mk (And.intro @hag2 <| And.intro @hag <| And.intro @h41 <| And.intro @hh2 <| And.intro @hh <| @hw)
      repeat (first | refine v_ ?_ | refine u_ ?_ | refine nl_ ?_ | (refine nz_ ?_; first | (show aWp _ _ _ _ _) | skip) | refine sq_ ?_ | refine rg_ ?_ | refine k_ ?_ | refine ct_ ?_ | refine cf_ ?_ | refine bk_ ?_ | refine sc_ ?_ | (refine sk_ ?_; first | (show aWp _ _ _ _ _) | skip) | (refine ex_ ?_; first | (show aWp _ _ _ _ _) | skip) | refine rt_ ?_)
      refine ⟨tM x - (i + 1), by omega, ⟨i + 1, by omega, rfl, ?_, by simp only; omega, ?_, ?_, ?_⟩, ?_, ?_, by simp only; omega, rfl⟩
      · (have FX := Fx0; exact cl_)
      · (have FX := Fx.mk (@c1); exact cl_)
      · (have FX := Fx.mk (@t5); exact cl_)
      · (have FX := Fx0; exact cl_)
      · repeat (refine KAgree.upd rfl ?_)
        exact hag2
      · exact (by have FX := Fx.mk (@hh2); exact ha_)
    obtain rfl : i = tM x := by omega
    have hd : decide ((tM x : Int) < (tM x : Int)) = false := by simp
    have q1 : (itemB (tK2 x (tM x))).length = tM x := by rw [itemB_len, tK2_len]
    have q2 := take_len _ _ q1
    have FX := Fx.mk (And.intro @hag2 <| And.intro @hag <| And.intro @h41 <| And.intro @hh2 <| And.intro @hh <| And.intro @hd <| And.intro @c1 <| And.intro @c2 <| And.intro @c3 <| @hbox2)
    repeat (first | refine v_ ?_ | refine u_ ?_ | refine nl_ ?_ | (refine nz_ ?_; first | (show aWp _ _ _ _ _) | skip) | refine sq_ ?_ | refine rg_ ?_ | refine k_ ?_ | refine ct_ ?_ | refine cf_ ?_ | refine bk_ ?_ | refine sc_ ?_ | (refine sk_ ?_; first | (show aWp _ _ _ _ _) | skip) | (refine ex_ ?_; first | (show aWp _ _ _ _ _) | skip) | refine rt_ ?_)
    refine W_endR (by rw [Try.results32]) (by (have FX := Fx.mk (And.intro @hag2 <| And.intro @hag <| And.intro @hh2 <| And.intro @hh <| And.intro @c1 <| @c3); exact cr_)) ⟨by first | omega | (simp only; omega), ?_, .inl ⟨kd + 1, by rw [q1], rfl, by omega, by first | omega | (simp only; omega), by (have FX := Fx.mk (@c3); exact cl_)⟩⟩
    intro q hq; (have FX := Fx.mk (And.intro @hh2 <| @hh); exact cl_)
  · have hk1 : x0 = 2 := by rw [List.getD_eq_getElem?_getD, e0] at h01; exact h01
    have d1 : decide ((x0 : Int) = 1) = false := decide_eq_false (by omega)
    have ht : toldN x = (tK2 x 0, tKd x (tM x + 1)) := if_neg (by omega)
    have hw1 : IntKind.i64.wrap ((tM x : Int) + 1) = ((tM x + 1 : Nat) : Int) := by rw [wrapI] <;> omega
    rw [ht]
    have FX := Fx.mk (And.intro @hag <| And.intro @h25 <| And.intro @hh <| And.intro @hd <| And.intro @d1 <| And.intro @b1 <| And.intro @b2 <| And.intro @b3 <| And.intro @hbox <| @hw1)
    repeat (first | refine v_ ?_ | refine u_ ?_ | refine nl_ ?_ | (refine nz_ ?_; first | (show aWp _ _ _ _ _) | skip) | refine sq_ ?_ | refine rg_ ?_ | refine k_ ?_ | refine ct_ ?_ | refine cf_ ?_ | refine bk_ ?_ | refine sc_ ?_ | (refine sk_ ?_; first | (show aWp _ _ _ _ _) | skip) | (refine ex_ ?_; first | (show aWp _ _ _ _ _) | skip) | refine rt_ ?_)
    refine W_loopK [1, 2, 3, 4, 5, 6, 54] (nx + 1) (fun r tm h q => ∃ i : Nat, i ≤ tM x + 1 ∧ r = tM x + 1 - i ∧ tm 55 = .int .i64 i ∧ kd + 1 < q ∧ h kd = some ⟨1, [[.int .i64 ((4 + 8 * tM x + 4 * i : Nat) : Int)]]⟩ ∧ h (kd + 1) = some ⟨2, itemB (tK2 x 0)⟩ ∧ ((h (nx + 1) = some ⟨2, [[.hs (kd + 1) 0 (tM x), .zs]]⟩ ∧ i = 0) ∨ ∃ m, h (nx + 1) = some ⟨2, [[.hs (kd + 1) 0 (tM x), .hs m 0 i]]⟩ ∧ kd + 1 < m ∧ m < q ∧ h m = some ⟨1, numB .i64 (tKd x i)⟩)) (tM x + 1) (by omega) ⟨0, Nat.zero_le _, rfl, rfl, by omega, by (have FX := Fx.mk (@b2); exact cl_), by (have FX := Fx.mk (@b3); exact cl_), .inl ⟨by (have FX := Fx.mk (@b1); exact cl_), rfl⟩⟩ ?_
    rintro r tm2 h2 k2 ⟨i, hi2, rfl, h55, hk4, c2, c3, hc⟩ hag2 hh2 hk2
    have hbox2 : h2 nx = some ⟨1, [[.sl (numB .u8 x)]]⟩ := by rw [hh2 nx (by omega), hbox]
    by_cases hlt : i < tM x + 1
    · have hd : decide ((i : Int) < ((tM x + 1 : Nat) : Int)) = true := decide_eq_true (by omega)
      have hw : IntKind.i64.wrap (i + 1) = ((i + 1 : Nat) : Int) := by rw [wrapI] <;> omega
      have t5 : 4 + 8 * tM x + 4 * (i + 1) = 4 + 8 * tM x + 4 * i + 4 := by omega
      have t6 := tKd_step x i
      have t7 := gx_range4 x (4 + 8 * tM x + 4 * i)
      have hwx : IntKind.i64.wrap (gx x (4 + 8 * tM x + 4 * i) 4) = gx x (4 + 8 * tM x + 4 * i) 4 := by rw [wrapI] <;> omega
      have t1 := tKd_len x i
      have t2 := take_len _ _ t1
      rcases hc with ⟨c1, rfl⟩ | ⟨m, c1, m1, m2, m3⟩
      · have t8 : tKd x (0 + 1) = [gx x (4 + 8 * tM x) 4] := rfl
        have t9 : tKd x 1 = [gx x (4 + 8 * tM x) 4] := rfl
        have hw0 : IntKind.i64.wrap (gx x (4 + 8 * tM x) 4) = gx x (4 + 8 * tM x) 4 := hwx
        have t50 : 4 + 8 * tM x + 4 * (0 + 1) = 4 + 8 * tM x + 4 := by omega
        have FX := Fx.mk (And.intro @hag2 <| And.intro @hag <| And.intro @h55 <| And.intro @hh2 <| And.intro @hh <| And.intro @hd <| And.intro @hw <| And.intro @c1 <| And.intro @c2 <| And.intro @c3 <| @hbox2)
        repeat (first | refine v_ ?_ | refine u_ ?_ | refine nl_ ?_ | (refine nz_ ?_; first | (show aWp _ _ _ _ _) | skip) | refine sq_ ?_ | refine rg_ ?_ | refine k_ ?_ | refine ct_ ?_ | refine cf_ ?_ | refine bk_ ?_ | refine sc_ ?_ | (refine sk_ ?_; first | (show aWp _ _ _ _ _) | skip) | (refine ex_ ?_; first | (show aWp _ _ _ _ _) | skip) | refine rt_ ?_)
        have FX := Fx.mk (And.intro @hag2 <| And.intro @hag <| And.intro @h55 <| And.intro @hh2 <| And.intro @hh <| And.intro @hd <| And.intro @hw <| And.intro @c1 <| And.intro @c2 <| And.intro @c3 <| And.intro @hbox2 <| @hw0)
        refine W_draw mixed rfl rfl ?_
        repeat (first | refine dq_ ?_ | (refine D_c [nx,kd] (by exact cl_) (by simp only [WS]) (fun g q_ hg => by simp only [RdEq] at hg; exact (read_next4 x (4 + 8 * tM x + 4 * 0) nx kd (by omega) (by omega)) (by first | rfl | (simp (disch := first | rfl | decide | omega | assumption | (simp only [LL]; omega)) only [WS, NB, WY, FX.out, hg]; first | done | rfl)) (by first | rfl | (simp (disch := first | rfl | decide | omega | assumption | (simp only [LL]; omega)) only [WS, NB, WY, FX.out, hg]; first | done | rfl))) ?_) | refine dr_ [nx, nx + 1] ?_ | refine dm_ [k2 + (1 + 1 + 1 + 1 + 1)] ?_ | refine da_ [k2 + (1 + 1 + 1 + 1 + 1)] ?_ | refine ds_ [nx, nx + 1] ?_ | refine ds_ [k2 + (1 + 1 + 1 + 1 + 1)] ?_ | refine dw_ [nx, nx + 1] ?_ | refine dk_ ?_ | refine dn_ ?_)
        refine fun kd hkd => ?_
        simp only [List.length_cons, List.length_nil] at hkd
        first | (show aWp _ _ _ _ _) | skip
        have FX := Fx.mk (And.intro @hag2 <| And.intro @hag <| And.intro @h55 <| And.intro @hh2 <| And.intro @hh <| @hw)
        repeat (first | refine v_ ?_ | refine u_ ?_ | refine nl_ ?_ | (refine nz_ ?_; first | (show aWp _ _ _ _ _) | skip) | refine sq_ ?_ | refine rg_ ?_ | refine k_ ?_ | refine ct_ ?_ | refine cf_ ?_ | refine bk_ ?_ | refine sc_ ?_ | (refine sk_ ?_; first | (show aWp _ _ _ _ _) | skip) | (refine ex_ ?_; first | (show aWp _ _ _ _ _) | skip) | refine rt_ ?_)
        refine ⟨tM x + 1 - (0 + 1), by omega, ⟨0 + 1, by omega, rfl, ?_, by simp only; omega, ?_, ?_, .inr ⟨k2 + (1 + 1 + 1 + 1 + 1 + 1), ?_, by omega, by simp only; omega, ?_⟩⟩, ?_, ?_, by simp only; omega, rfl⟩
        · (have FX := Fx0; exact cl_)
        · (have FX := Fx.mk (@t50); exact cl_)
        · (have FX := Fx.mk (@c3); exact cl_)
        · (have FX := Fx0; exact cl_)
        · (have FX := Fx.mk (And.intro @t8 <| @t9); exact cl_)
        · repeat (refine KAgree.upd rfl ?_)
          exact hag2
        · exact (by have FX := Fx.mk (@hh2); exact ha_)
      · have FX := Fx.mk (And.intro @hag2 <| And.intro @hag <| And.intro @h55 <| And.intro @hh2 <| And.intro @hh <| And.intro @hd <| And.intro @hw <| And.intro @c1 <| And.intro @c2 <| And.intro @c3 <| @hbox2)
        repeat (first | refine v_ ?_ | refine u_ ?_ | refine nl_ ?_ | (refine nz_ ?_; first | (show aWp _ _ _ _ _) | skip) | refine sq_ ?_ | refine rg_ ?_ | refine k_ ?_ | refine ct_ ?_ | refine cf_ ?_ | refine bk_ ?_ | refine sc_ ?_ | (refine sk_ ?_; first | (show aWp _ _ _ _ _) | skip) | (refine ex_ ?_; first | (show aWp _ _ _ _ _) | skip) | refine rt_ ?_)
        have FX := Fx.mk (And.intro @hag2 <| And.intro @hag <| And.intro @h55 <| And.intro @hh2 <| And.intro @hh <| And.intro @hd <| And.intro @hw <| And.intro @c1 <| And.intro @c2 <| And.intro @c3 <| And.intro @m3 <| And.intro @hbox2 <| And.intro @hwx <| And.intro @t1 <| @t2)
        refine W_draw mixed rfl rfl ?_
        repeat (first | refine dq_ ?_ | (refine D_c [nx,kd] (by exact cl_) (by simp only [WS]) (fun g q_ hg => by simp only [RdEq] at hg; exact (read_next4 x (4 + 8 * tM x + 4 * i) nx kd (by omega) (by omega)) (by first | rfl | (simp (disch := first | rfl | decide | omega | assumption | (simp only [LL]; omega)) only [WS, NB, WY, FX.out, hg]; first | done | rfl)) (by first | rfl | (simp (disch := first | rfl | decide | omega | assumption | (simp only [LL]; omega)) only [WS, NB, WY, FX.out, hg]; first | done | rfl))) ?_) | refine dr_ [nx, nx + 1] ?_ | refine dm_ [m, k2 + (1 + 1 + 1 + 1 + 1)] ?_ | refine da_ [m, k2 + (1 + 1 + 1 + 1 + 1)] ?_ | refine ds_ [nx, nx + 1] ?_ | refine ds_ [m, k2 + (1 + 1 + 1 + 1 + 1)] ?_ | refine dw_ [nx, nx + 1] ?_ | refine dk_ ?_ | refine dn_ ?_)
        refine fun kd hkd => ?_
        simp only [List.length_cons, List.length_nil] at hkd
        first | (show aWp _ _ _ _ _) | skip
        have FX := Fx.mk (And.intro @hag2 <| And.intro @hag <| And.intro @h55 <| And.intro @hh2 <| And.intro @hh <| @hw)
        repeat (first | refine v_ ?_ | refine u_ ?_ | refine nl_ ?_ | (refine nz_ ?_; first | (show aWp _ _ _ _ _) | skip) | refine sq_ ?_ | refine rg_ ?_ | refine k_ ?_ | refine ct_ ?_ | refine cf_ ?_ | refine bk_ ?_ | refine sc_ ?_ | (refine sk_ ?_; first | (show aWp _ _ _ _ _) | skip) | (refine ex_ ?_; first | (show aWp _ _ _ _ _) | skip) | refine rt_ ?_)
        refine ⟨tM x + 1 - (i + 1), by omega, ⟨i + 1, by omega, rfl, ?_, by simp only; omega, ?_, ?_, .inr ⟨k2 + (1 + 1 + 1 + 1 + 1 + 1), ?_, by omega, by simp only; omega, ?_⟩⟩, ?_, ?_, by simp only; omega, rfl⟩
        · (have FX := Fx0; exact cl_)
        · (have FX := Fx.mk (@t5); exact cl_)
        · (have FX := Fx.mk (@c3); exact cl_)
        · (have FX := Fx0; exact cl_)
        · (have FX := Fx.mk (@t6); exact cl_)
        · repeat (refine KAgree.upd rfl ?_)
          exact hag2
        · exact (by have FX := Fx.mk (@hh2); exact ha_)
    obtain rfl : i = tM x + 1 := by omega
    have hd : decide (((tM x + 1 : Nat) : Int) < ((tM x + 1 : Nat) : Int)) = false := by simp
    have q1 : (itemB (tK2 x 0)).length = tM x := by rw [itemB_len, tK2_len]
    have q2 := take_len _ _ q1
    have q3 : (tKd x (tM x + 1)).length = tM x + 1 := tKd_len _ _
    have q4 := take_len _ _ q3
    rcases hc with ⟨c1, h0⟩ | ⟨m, c1, m1, m2, m3⟩
    · exact absurd h0 (by omega)
    have FX := Fx.mk (And.intro @hag2 <| And.intro @hag <| And.intro @h55 <| And.intro @hh2 <| And.intro @hh <| And.intro @hd <| And.intro @c1 <| And.intro @c2 <| And.intro @c3 <| @hbox2)
    repeat (first | refine v_ ?_ | refine u_ ?_ | refine nl_ ?_ | (refine nz_ ?_; first | (show aWp _ _ _ _ _) | skip) | refine sq_ ?_ | refine rg_ ?_ | refine k_ ?_ | refine ct_ ?_ | refine cf_ ?_ | refine bk_ ?_ | refine sc_ ?_ | (refine sk_ ?_; first | (show aWp _ _ _ _ _) | skip) | (refine ex_ ?_; first | (show aWp _ _ _ _ _) | skip) | refine rt_ ?_)
    refine W_endR (by rw [Try.results32]) (by (have FX := Fx.mk (And.intro @hag2 <| And.intro @hag <| And.intro @hh2 <| And.intro @hh <| And.intro @c1 <| And.intro @c3 <| @m3); exact cr_)) ⟨by first | omega | (simp only; omega), ?_, .inr ⟨kd + 1, m, by rw [q1, numB_len, q3], by omega, by omega, by omega, by first | omega | (simp only; omega), by first | omega | (simp only; omega), by (have FX := Fx.mk (@c3); exact cl_), by (have FX := Fx.mk (@m3); exact cl_)⟩⟩
    intro q hq; (have FX := Fx.mk (And.intro @hh2 <| @hh); exact cl_)
theorem free_item (l : List (Int × Int)) : ∀ e ∈ itemB l, ∀ c ∈ e, free1 c = true := by
  intro e he c hc
  obtain ⟨x, _, rfl⟩ := List.mem_map.1 he
  simp at hc
  rcases hc with rfl | rfl <;> rfl
theorem free_num (k : IntKind) (l : List Int) : ∀ e ∈ numB k l, ∀ c ∈ e, free1 c = true := by
  intro e he c hc
  obtain ⟨x, _, rfl⟩ := List.mem_map.1 he
  simp at hc
  subst hc
  rfl
/-- What Encode answers, in memory of its own. -/
def encQ (l : List (Int × Int)) (kids : List Int) (nx : Nat) (a : AV) (h' : AHeap) (k' : Nat) : Prop :=
  (okN l kids ∧ ∃ m, a = .tup [.hs m 0 (numB .u8 (encS l kids)).length, .int .i64 0] ∧ nx ≤ m ∧ m < k' ∧ h' = upd noH m (some ⟨1, numB .u8 (encS l kids)⟩)) ∨ (¬ okN l kids ∧ a = .tup [.sl [], .int .i64 9] ∧ h' = noH)
theorem enc_told (l : List (Int × Int)) (kids : List Int) (nx : Nat) : aCalls Try.prog 11 [nodeV l kids] noH nx (fun e h' k' => ∃ v, e = .ret v ∧ encQ l kids nx v h' k') := by
  by_cases hok : okN l kids
  · refine aCalls_mono (leaf_Encode l kids hok noH nx) ?_
    rintro e h' k' ⟨m, rfl, rfl, h1, h2⟩
    exact ⟨_, rfl, .inl ⟨hok, m, rfl, h1, h2, rfl⟩⟩
  · refine aCalls_mono (leaf_Encode_bad l kids hok noH nx) ?_
    rintro e h' k' ⟨rfl, rfl, h1⟩
    exact ⟨_, rfl, .inr ⟨hok, rfl, rfl⟩⟩
theorem enc_free (l : List (Int × Int)) (kids : List Int) (nx : Nat) : ∀ v h' k', encQ l kids nx v h' k' → freeV v = true ∧ ∀ n b, h' n = some b → ∀ e ∈ b.es, ∀ c ∈ e, free1 c = true := by
  rintro v h' k' (⟨_, m, rfl, _, _, rfl⟩ | ⟨_, rfl, rfl⟩)
  · refine ⟨rfl, fun n b hb => ?_⟩
    by_cases e : n = m
    · subst e; rw [upd_same] at hb; cases hb; exact free_num _ _
    · rw [upd_ne _ _ _ e] at hb; cases hb
  · exact ⟨rfl, fun n b hb => by cases hb⟩
end Go.Proofs.Ytcnofpoffdjbpaa.AE
