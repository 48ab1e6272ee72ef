/- Texts J3, J4. -/
import Derived.Test.YtjidgdfdeckofaaDoorV6
import Derived.Test.YtjidgdfdeckofaaDoorV7
import Derived.Test.YtjidgdfdeckofaaDoorV11
import Derived.Test.YtjidgdfdeckofaaDoorV9
/- Layer 15: need, number, page. -/
namespace Go.Proofs.YtjidgdfdeckofaaDoor.AE
open Go Go.RowKit Go.Proofs Go.Proofs.YtjidgdfdeckofaaDoor
set_option linter.unusedVariables false
set_option linter.unusedSimpArgs false
set_option maxRecDepth 100000
set_option maxHeartbeats 8000000
theorem need_yes (e : Int) : aFun Tryd.prog 83 [.bool true, .int .i64 e] (.tup []) := by
  refine aFun_body Tryd.func83 rfl rfl (by simp [Tryd.ntmps83]) fun hreal h nx hfresh => ?_
  rw [Tryd.ntmps83]
  have FX := Fx.mk (@Bool.not_true)
  repeat (first | refine v_ ?_ | refine u_ ?_ | refine nl_ ?_ | (refine nz_ ?_; first | (show aWp _ _ _ _ _) | skip) | refine sq_ ?_ | refine rg_ ?_ | refine k_ ?_ | refine ct_ ?_ | refine cf_ ?_ | refine bk_ ?_ | refine sc_ ?_ | (refine sk_ ?_; first | (show aWp _ _ _ _ _) | skip) | (refine ex_ ?_; first | (show aWp _ _ _ _ _) | skip) | refine rt_ ?_)
  (have FX := Fx0; exact end_ Tryd.results83)
theorem aop_mi (P : Program) (t : TypeId) (x : Operand) (tm : Nat → AV) (h : AHeap) (k : Nat) (hc : P.concrete t = true) : aop P (.makeInterface t x) tm h k = some (.iface t (evA tm x), h, k) := if_pos hc
theorem need_no (e : Int) : aPan Tryd.prog 83 [.bool false, .int .i64 e] (.iface 31 (.int .i64 e)) := by
  intro h nx
  refine aCalls_body Tryd.func83 rfl rfl (by simp [Tryd.ntmps83]) ?_
  rw [Tryd.ntmps83]
  have cc : Tryd.prog.concrete 31 = true := by rfl
  have FX := Fx.mk (And.intro @Bool.not_false <| @aop_mi)
  repeat (first | refine v_ ?_ | refine u_ ?_ | refine nl_ ?_ | (refine nz_ ?_; first | (show aWp _ _ _ _ _) | skip) | refine sq_ ?_ | refine rg_ ?_ | refine k_ ?_ | refine ct_ ?_ | refine cf_ ?_ | refine bk_ ?_ | refine sc_ ?_ | (refine sk_ ?_; first | (show aWp _ _ _ _ _) | skip) | (refine ex_ ?_; first | (show aWp _ _ _ _ _) | skip) | refine rt_ ?_)
  refine pn_ ?_
  exact ⟨rfl, rfl, rfl, Nat.le_refl _⟩
theorem getS_J {b : List Int} {a n : Nat} (hn : 1 ≤ n ∧ n ≤ 8) (ha : a + n ≤ b.length) : Pl.getS b (a : Int) (n : Int) = (numJ b a n, 0) := by
  unfold Pl.getS numJ
  rw [if_neg (by omega), if_neg (by omega), if_neg (by omega), Int.toNat_natCast, Int.toNat_natCast]
theorem numJ_nonneg (b : List Int) (a n : Nat) : 0 ≤ numJ b a n := Pl.leI_nonneg _
theorem numJ_lt (b : List Int) (a n : Nat) : numJ b a n < 256 ^ n := by
  refine Int.lt_of_lt_of_le (Pl.leI_lt _) ?_
  have : ((b.drop a).take n).length ≤ n := by simp; omega
  exact_mod_cast Nat.pow_le_pow_right (by decide) this
theorem journal_number (b : List Int) (a n m : Nat) (hn : 1 ≤ n ∧ n ≤ 8) (ha : a + n ≤ b.length) (hl : b.length < 4611686018427387904) {h : AHeap} {nx : Nat} (hm : h m = some ⟨2, [[.sl (numB .u8 b), .int .i64 (a : Int)]]⟩) :
    aEff Tryd.prog 85 [.ptr m 0 0, .int .i64 (n : Int)] h nx (.int .i64 (min (numJ b a n) 4611686018427387904)) (upd h m (some ⟨2, [[.sl (numB .u8 b), .int .i64 ((a + n : Nat) : Int)]]⟩)) := by
  have hg := octets_Get b a n
  rw [getS_J hn ha] at hg
  have h0 := numJ_nonneg b a n
  have nd := need_yes 0
  have d0 : decide ((0 : Int) = 0) = true := rfl
  have hw : IntKind.i64.wrap ((a : Int) + n) = ((a + n : Nat) : Int) := by rw [wrapI] <;> omega
  have hcl : (if 4611686018427387904 < numJ b a n then 4611686018427387904 else numJ b a n) = min (numJ b a n) 4611686018427387904 := by rw [Int.min_def]; split <;> split <;> omega
  have hcw : IntKind.i64.wrap (min (numJ b a n) 4611686018427387904) = min (numJ b a n) 4611686018427387904 := by rw [wrapI] <;> omega
  refine aEff_body Tryd.func85 rfl rfl (by simp [Tryd.ntmps85]) fun hreal hfresh => ⟨?_, ?_⟩
  · intro q hq
    by_cases e : q = m
    · subst e; rw [hfresh q hq] at hm; cases hm
    · rw [upd_ne _ _ _ e]; exact hfresh q hq
  rw [Tryd.ntmps85]
  have FX := Fx0
  repeat (first | refine v_ ?_ | refine u_ ?_ | refine nl_ ?_ | (refine nz_ ?_; first | (show aWp _ _ _ _ _) | skip) | refine sq_ ?_ | refine rg_ ?_ | refine k_ ?_ | refine ct_ ?_ | refine cf_ ?_ | refine bk_ ?_ | refine sc_ ?_ | (refine sk_ ?_; first | (show aWp _ _ _ _ _) | skip) | (refine ex_ ?_; first | (show aWp _ _ _ _ _) | skip) | refine rt_ ?_)
  have FX := Fx.mk (And.intro @hm <| @NL)
  refine W_draw mixed rfl rfl ?_
  repeat (first | refine dq_ ?_ | refine df_ (hg) ?_ | refine dr_ [m] ?_ | refine dk_ ?_ | refine dn_ ?_)
  refine fun kd hkd => ?_
  simp only [List.length_cons, List.length_nil] at hkd
  first | (show aWp _ _ _ _ _) | skip
  have FX := Fx.mk (And.intro @hm <| And.intro @NL <| And.intro @d0 <| And.intro @hw <| And.intro @hcl <| @hcw)
  repeat (first | refine v_ ?_ | refine u_ ?_ | refine f_ (nd) fun kf hkf => ?_ | refine nl_ ?_ | (refine nz_ ?_; first | (show aWp _ _ _ _ _) | skip) | refine sq_ ?_ | refine rg_ ?_ | refine k_ ?_ | refine ct_ ?_ | refine cf_ ?_ | refine bk_ ?_ | refine sc_ ?_ | (refine sk_ ?_; first | (show aWp _ _ _ _ _) | skip) | (refine ex_ ?_; first | (show aWp _ _ _ _ _) | skip) | refine rt_ ?_)
  (have FX := Fx0; exact end_ Tryd.results85)
theorem bytes_Clone (l : List Int) (hc : l.length ≤ 140737488355328) : aFun Tryd.prog 95 [.sl (numB .u8 l)] (.sl (numB .u8 l)) := by
  refine aFun_body Tryd.func95 rfl rfl (by simp [Tryd.ntmps95]) fun hreal h nx hfresh => ?_
  rw [Tryd.ntmps95]
  have FX := Fx0
  repeat (first | refine v_ ?_ | refine u_ ?_ | refine nl_ ?_ | (refine nz_ ?_; first | (show aWp _ _ _ _ _) | skip) | refine sq_ ?_ | refine rg_ ?_ | refine k_ ?_ | refine ct_ ?_ | refine cf_ ?_ | refine bk_ ?_ | refine sc_ ?_ | (refine sk_ ?_; first | (show aWp _ _ _ _ _) | skip) | (refine ex_ ?_; first | (show aWp _ _ _ _ _) | skip) | refine rt_ ?_)
  refine W_isnil (n := l.length) rfl (by first | rfl | (simp (disch := first | rfl | decide | omega | assumption | (simp only [LL]; omega)) only [WS, NB, WY, rowV]; first | done | rfl)) Tryd.underlying40 (fun h0 => ?_) ?_
  · obtain rfl : l = [] := by simpa using h0
    have FX := Fx0
    repeat (first | refine v_ ?_ | refine u_ ?_ | refine nl_ ?_ | (refine nz_ ?_; first | (show aWp _ _ _ _ _) | skip) | refine sq_ ?_ | refine rg_ ?_ | refine k_ ?_ | refine ct_ ?_ | refine cf_ ?_ | refine bk_ ?_ | refine sc_ ?_ | (refine sk_ ?_; first | (show aWp _ _ _ _ _) | skip) | (refine ex_ ?_; first | (show aWp _ _ _ _ _) | skip) | refine rt_ ?_)
    (have FX := Fx0; exact end_ Tryd.results95)
  · have FX := Fx0
    repeat (first | refine v_ ?_ | refine u_ ?_ | refine nl_ ?_ | (refine nz_ ?_; first | (show aWp _ _ _ _ _) | skip) | refine sq_ ?_ | refine rg_ ?_ | refine k_ ?_ | refine ct_ ?_ | refine cf_ ?_ | refine bk_ ?_ | refine sc_ ?_ | (refine sk_ ?_; first | (show aWp _ _ _ _ _) | skip) | (refine ex_ ?_; first | (show aWp _ _ _ _ _) | skip) | refine rt_ ?_)
    (have FX := Fx0; exact end_ Tryd.results95)
theorem J_num (b : List Int) (a m : Nat) (s : Int) (n : Nat) (hs : s = (n : Int)) (hn : 1 ≤ n ∧ n ≤ 8) (ha : a + n ≤ b.length) (hl : b.length < 4611686018427387904) {v : Int} (hv : min (numJ b a n) 4611686018427387904 = v) {h : AHeap} {nx : Nat} (hm : h m = some ⟨2, [[.sl (numB .u8 b), .int .i64 (a : Int)]]⟩) :
    aEff Tryd.prog 85 [.ptr m 0 0, .int .i64 s] h nx (.int .i64 v) (upd h m (some ⟨2, [[.sl (numB .u8 b), .int .i64 ((a + n : Nat) : Int)]]⟩)) := by
  subst hs hv
  exact journal_number b a n m hn ha hl hm
theorem page_ok (b : List Int) (a m : Nat) (p : Pg) (a' : Nat) (hl : b.length < 4611686018427387904) (hp : pageD b a = .ok (p, a')) {h : AHeap} {nx : Nat} (hm : h m = some ⟨2, [[.sl (numB .u8 b), .int .i64 (a : Int)]]⟩) :
    aEff Tryd.prog 86 [.ptr m 0 0] h nx (.agg [.int .i64 p.1, .sl (numB .u8 p.2)]) (upd h m (some ⟨2, [[.sl (numB .u8 b), .int .i64 (a' : Int)]]⟩)) := by
  have n1 := need_yes 8
  have n2 := need_yes 21
  unfold pageD at hp
  split at hp
  · cases hp
  rename_i c1
  split at hp
  · cases hp
  rename_i c2
  split at hp
  · cases hp
  rename_i c3
  obtain ⟨f, hf⟩ : ∃ f : Nat, numJ b (a + 2) 1 = (f : Int) := ⟨(numJ b (a + 2) 1).toNat, by have := numJ_nonneg b (a + 2) 1; omega⟩
  rw [hf, Int.toNat_natCast] at hp c3
  rw [hf] at c2
  cases hp
  have q2 := numJ_lt b a 2
  have q0 := numJ_nonneg b a 2
  have hv2 : min (numJ b a 2) 4611686018427387904 = numJ b a 2 := Int.min_eq_left (by have : (256 : Int) ^ 2 = 65536 := rfl; omega)
  have hv1 : min (numJ b (a + 2) 1) 4611686018427387904 = (f : Int) := by rw [hf]; exact Int.min_eq_left (by omega)
  have w1 : IntKind.i64.wrap ((b.length : Int) - a) = ((b.length - a : Nat) : Int) := by rw [wrapI] <;> omega
  have e1 : decide ((3 : Int) ≤ ((b.length - a : Nat) : Int)) = true := decide_eq_true (by omega)
  have e2 : decide ((f : Int) ≤ 1) = true := decide_eq_true (by omega)
  have w3 : IntKind.i64.wrap ((f : Int) * 64) = ((64 * f : Nat) : Int) := by rw [wrapI] <;> omega
  have w4 : IntKind.i64.wrap ((b.length : Int) - ((a + 2 + 1 : Nat) : Int)) = ((b.length - (a + 3) : Nat) : Int) := by rw [wrapI] <;> omega
  have e4 : decide (((64 * f : Nat) : Int) ≤ ((b.length - (a + 3) : Nat) : Int)) = true := decide_eq_true (by omega)
  have w5 : IntKind.i64.wrap (((a + 2 + 1 : Nat) : Int) + ((64 * f : Nat) : Int)) = ((a + 3 + 64 * f : Nat) : Int) := by rw [wrapI] <;> omega
  refine aEff_body Tryd.func86 rfl rfl (by simp [Tryd.ntmps86]) fun hreal hfresh => ⟨?_, ?_⟩
  · intro q hq
    by_cases e : q = m
    · subst e; rw [hfresh q hq] at hm; cases hm
    · rw [upd_ne _ _ _ e]; exact hfresh q hq
  have hlt : m < nx := by
    rcases Nat.lt_or_ge m nx with q | q
    · exact q
    · rw [hfresh m q] at hm; cases hm
  rw [Tryd.ntmps86]
  have FX := Fx0
  repeat (first | refine v_ ?_ | refine u_ ?_ | refine nl_ ?_ | (refine nz_ ?_; first | (show aWp _ _ _ _ _) | skip) | refine sq_ ?_ | refine rg_ ?_ | refine k_ ?_ | refine ct_ ?_ | refine cf_ ?_ | refine bk_ ?_ | refine sc_ ?_ | (refine sk_ ?_; first | (show aWp _ _ _ _ _) | skip) | (refine ex_ ?_; first | (show aWp _ _ _ _ _) | skip) | refine rt_ ?_)
  have FX := Fx.mk (And.intro @hm <| And.intro @NL <| And.intro @w1 <| @e1)
  refine W_draw mixed rfl rfl ?_
  repeat (first | refine dq_ ?_ | refine df_ (n1) ?_ | refine dr_ [m] ?_ | refine dk_ ?_ | refine dn_ ?_)
  refine fun kd hkd => ?_
  simp only [List.length_cons, List.length_nil] at hkd
  first | (show aWp _ _ _ _ _) | skip
  have FX := Fx.mk (And.intro @hm <| And.intro @w3 <| @e2)
  repeat (first | refine v_ ?_ | refine u_ ?_ | refine e_ (J_num b a m 2 2 rfl ⟨by decide, by decide⟩ (by omega) (by omega) hv2 (by exact cl_)) fun kf hkf => ?_ | refine e_ (J_num b (a + 2) m 1 1 rfl ⟨by decide, by decide⟩ (by omega) (by omega) hv1 (by exact cl_)) fun kf hkf => ?_ | refine f_ (n2) fun kf hkf => ?_ | refine nl_ ?_ | (refine nz_ ?_; first | (show aWp _ _ _ _ _) | skip) | refine sq_ ?_ | refine rg_ ?_ | refine k_ ?_ | refine ct_ ?_ | refine cf_ ?_ | refine bk_ ?_ | refine sc_ ?_ | (refine sk_ ?_; first | (show aWp _ _ _ _ _) | skip) | (refine ex_ ?_; first | (show aWp _ _ _ _ _) | skip) | refine rt_ ?_)
  have cl := bytes_Clone ((b.take (a + 3 + 64 * f)).drop (a + 2 + 1)) (by simp; omega)
  have hcl : (b.take (a + 3 + 64 * f)).drop (a + 2 + 1) = (b.drop (a + 3)).take (64 * f) := by rw [List.drop_take]; congr 1; omega
  have l1 : ((a + 2 + 1 : Nat) : Int) ≤ ((a + 3 + 64 * f : Nat) : Int) := by omega
  have l2 : ((a + 3 + 64 * f : Nat) : Int) ≤ (b.length : Int) := by omega
  have hne : m ≠ nx := by omega
  have FX := Fx.mk (And.intro @NL <| And.intro @w4 <| @e4)
  refine W_draw mixed rfl rfl ?_
  repeat (first | refine dq_ ?_ | refine df_ (n1) ?_ | refine dr_ [m] ?_ | refine dk_ ?_ | refine dn_ ?_)
  refine fun kd hkd => ?_
  simp only [List.length_cons, List.length_nil] at hkd
  first | (show aWp _ _ _ _ _) | skip
  have FX := Fx0
  repeat (first | refine v_ ?_ | refine u_ ?_ | refine nl_ ?_ | (refine nz_ ?_; first | (show aWp _ _ _ _ _) | skip) | refine sq_ ?_ | refine rg_ ?_ | refine k_ ?_ | refine ct_ ?_ | refine cf_ ?_ | refine bk_ ?_ | refine sc_ ?_ | (refine sk_ ?_; first | (show aWp _ _ _ _ _) | skip) | (refine ex_ ?_; first | (show aWp _ _ _ _ _) | skip) | refine rt_ ?_)
  have FX := Fx.mk (And.intro @NL <| And.intro @w5 <| And.intro @l1 <| @l2)
  refine W_draw mixed rfl rfl ?_
  repeat (first | refine dq_ ?_ | refine df_ (cl) ?_ | refine dr_ [m] ?_ | refine dm_ [nx] ?_ | refine da_ [nx] ?_ | refine ds_ [m] ?_ | refine ds_ [nx] ?_ | refine dw_ [m] ?_ | refine dk_ ?_ | refine dn_ ?_)
  refine fun kd hkd => ?_
  simp only [List.length_cons, List.length_nil] at hkd
  first | (show aWp _ _ _ _ _) | skip
  have FX := Fx.mk (And.intro @NL <| @w5)
  repeat (first | refine v_ ?_ | refine u_ ?_ | refine nl_ ?_ | (refine nz_ ?_; first | (show aWp _ _ _ _ _) | skip) | refine sq_ ?_ | refine rg_ ?_ | refine k_ ?_ | refine ct_ ?_ | refine cf_ ?_ | refine bk_ ?_ | refine sc_ ?_ | (refine sk_ ?_; first | (show aWp _ _ _ _ _) | skip) | (refine ex_ ?_; first | (show aWp _ _ _ _ _) | skip) | refine rt_ ?_)
  have FX := Fx.mk @hcl
  exact end_ Tryd.results86 (hh := by
    intro q hq
    by_cases e : q = m
    · subst e; simp (disch := first | assumption | omega) only [upd_same, upd_ne]
    · simp (disch := first | assumption | omega) only [upd_same, upd_ne])
theorem page_err (b : List Int) (a m : Nat) (e : Int) (hl : b.length < 4611686018427387904) (hal : a ≤ b.length) (hp : pageD b a = .error e) {h : AHeap} {nx : Nat} (hm : h m = some ⟨2, [[.sl (numB .u8 b), .int .i64 (a : Int)]]⟩) :
    aCalls Tryd.prog 86 [.ptr m 0 0] h nx (fun x h' k' => x = .pan (.iface 31 (.int .i64 e)) ∧ (∀ n, n < nx → n ≠ m → h' n = h n) ∧ nx ≤ k') := aCalls_real fun hreal hfresh => by
  have n1 := need_yes 8
  have n2 := need_yes 21
  have p1 := need_no 8
  have p2 := need_no 21
  have hlt : m < nx := by
    rcases Nat.lt_or_ge m nx with q | q
    · exact q
    · rw [hfresh m q] at hm; cases hm
  have hne : m ≠ nx := by omega
  have w1 : IntKind.i64.wrap ((b.length : Int) - a) = ((b.length - a : Nat) : Int) := by rw [wrapI] <;> omega
  refine aCalls_body Tryd.func86 rfl rfl (by simp [Tryd.ntmps86]) ?_
  rw [Tryd.ntmps86]
  unfold pageD at hp
  split at hp
  · rename_i c1
    cases hp
    have e1 : decide ((3 : Int) ≤ ((b.length - a : Nat) : Int)) = false := decide_eq_false (by omega)
    have FX := Fx0
    repeat (first | refine v_ ?_ | refine u_ ?_ | refine nl_ ?_ | (refine nz_ ?_; first | (show aWp _ _ _ _ _) | skip) | refine sq_ ?_ | refine rg_ ?_ | refine k_ ?_ | refine ct_ ?_ | refine cf_ ?_ | refine bk_ ?_ | refine sc_ ?_ | (refine sk_ ?_; first | (show aWp _ _ _ _ _) | skip) | (refine ex_ ?_; first | (show aWp _ _ _ _ _) | skip) | refine rt_ ?_)
    have FX := Fx.mk (And.intro @hm <| And.intro @NL <| And.intro @w1 <| @e1)
    refine W_drawPan 11 (p1) mixed rfl rfl rfl ?_ (by simp only [WS]) ?_
    · repeat (first | exact pe_ | refine pc_ ?_ | refine pq_ ?_ | refine ps_ ?_)
    intro tm1 ht k' hk'
    exact ⟨rfl, rfl, fun n h1 h2 => by simp (disch := first | assumption | omega) only [upd_same, upd_ne], by have := Nat.le_trans (Nat.le_add_right _ _) hk'; show nx ≤ k'; omega⟩
  rename_i c1
  have e1 : decide ((3 : Int) ≤ ((b.length - a : Nat) : Int)) = true := decide_eq_true (by omega)
  have q2 := numJ_lt b a 2
  have q1 := numJ_lt b (a + 2) 1
  have q0 := numJ_nonneg b a 2
  have hv2 : min (numJ b a 2) 4611686018427387904 = numJ b a 2 := Int.min_eq_left (by have : (256 : Int) ^ 2 = 65536 := rfl; omega)
  obtain ⟨f, hf⟩ : ∃ f : Nat, numJ b (a + 2) 1 = (f : Int) := ⟨(numJ b (a + 2) 1).toNat, by have := numJ_nonneg b (a + 2) 1; omega⟩
  rw [hf] at hp q1
  rw [Int.toNat_natCast] at hp
  have hv1 : min (numJ b (a + 2) 1) 4611686018427387904 = (f : Int) := by rw [hf]; exact Int.min_eq_left (by have : (256 : Int) ^ 1 = 256 := rfl; omega)
  split at hp
  · rename_i c2
    cases hp
    have e2 : decide ((f : Int) ≤ 1) = false := decide_eq_false (by omega)
    have FX := Fx0
    repeat (first | refine v_ ?_ | refine u_ ?_ | refine nl_ ?_ | (refine nz_ ?_; first | (show aWp _ _ _ _ _) | skip) | refine sq_ ?_ | refine rg_ ?_ | refine k_ ?_ | refine ct_ ?_ | refine cf_ ?_ | refine bk_ ?_ | refine sc_ ?_ | (refine sk_ ?_; first | (show aWp _ _ _ _ _) | skip) | (refine ex_ ?_; first | (show aWp _ _ _ _ _) | skip) | refine rt_ ?_)
    have FX := Fx.mk (And.intro @hm <| And.intro @NL <| And.intro @w1 <| @e1)
    refine W_draw mixed rfl rfl ?_
    repeat (first | refine dq_ ?_ | refine df_ (n1) ?_ | refine dr_ [m] ?_ | refine dk_ ?_ | refine dn_ ?_)
    refine fun kd hkd => ?_
    simp only [List.length_cons, List.length_nil] at hkd
    first | (show aWp _ _ _ _ _) | skip
    have FX := Fx.mk (And.intro @hm <| @e2)
    repeat (first | refine v_ ?_ | refine u_ ?_ | refine e_ (J_num b a m 2 2 rfl ⟨by decide, by decide⟩ (by omega) (by omega) hv2 (by exact cl_)) fun kf hkf => ?_ | refine e_ (J_num b (a + 2) m 1 1 rfl ⟨by decide, by decide⟩ (by omega) (by omega) hv1 (by exact cl_)) fun kf hkf => ?_ | refine p_ (p2) fun kf hkf => ?_ | refine nl_ ?_ | (refine nz_ ?_; first | (show aWp _ _ _ _ _) | skip) | refine sq_ ?_ | refine rg_ ?_ | refine k_ ?_ | refine ct_ ?_ | refine cf_ ?_ | refine bk_ ?_ | refine sc_ ?_ | (refine sk_ ?_; first | (show aWp _ _ _ _ _) | skip) | (refine ex_ ?_; first | (show aWp _ _ _ _ _) | skip) | refine rt_ ?_)
    exact ⟨rfl, rfl, fun n h1 h2 => by simp (disch := first | assumption | omega) only [upd_same, upd_ne], by first | omega | (simp only; omega)⟩
  rename_i c2
  split at hp
  · rename_i c3
    cases hp
    have e2 : decide ((f : Int) ≤ 1) = true := decide_eq_true (by omega)
    have w3 : IntKind.i64.wrap ((f : Int) * 64) = ((64 * f : Nat) : Int) := by rw [wrapI] <;> omega
    have w4 : IntKind.i64.wrap ((b.length : Int) - ((a + 2 + 1 : Nat) : Int)) = ((b.length - (a + 3) : Nat) : Int) := by rw [wrapI] <;> omega
    have e4 : decide (((64 * f : Nat) : Int) ≤ ((b.length - (a + 3) : Nat) : Int)) = false := decide_eq_false (by omega)
    have FX := Fx0
    repeat (first | refine v_ ?_ | refine u_ ?_ | refine nl_ ?_ | (refine nz_ ?_; first | (show aWp _ _ _ _ _) | skip) | refine sq_ ?_ | refine rg_ ?_ | refine k_ ?_ | refine ct_ ?_ | refine cf_ ?_ | refine bk_ ?_ | refine sc_ ?_ | (refine sk_ ?_; first | (show aWp _ _ _ _ _) | skip) | (refine ex_ ?_; first | (show aWp _ _ _ _ _) | skip) | refine rt_ ?_)
    have FX := Fx.mk (And.intro @hm <| And.intro @NL <| And.intro @w1 <| @e1)
    refine W_draw mixed rfl rfl ?_
    repeat (first | refine dq_ ?_ | refine df_ (n1) ?_ | refine dr_ [m] ?_ | refine dk_ ?_ | refine dn_ ?_)
    refine fun kd hkd => ?_
    simp only [List.length_cons, List.length_nil] at hkd
    first | (show aWp _ _ _ _ _) | skip
    have FX := Fx.mk (And.intro @hm <| And.intro @w3 <| @e2)
    repeat (first | refine v_ ?_ | refine u_ ?_ | refine e_ (J_num b a m 2 2 rfl ⟨by decide, by decide⟩ (by omega) (by omega) hv2 (by exact cl_)) fun kf hkf => ?_ | refine e_ (J_num b (a + 2) m 1 1 rfl ⟨by decide, by decide⟩ (by omega) (by omega) hv1 (by exact cl_)) fun kf hkf => ?_ | refine f_ (n2) fun kf hkf => ?_ | refine nl_ ?_ | (refine nz_ ?_; first | (show aWp _ _ _ _ _) | skip) | refine sq_ ?_ | refine rg_ ?_ | refine k_ ?_ | refine ct_ ?_ | refine cf_ ?_ | refine bk_ ?_ | refine sc_ ?_ | (refine sk_ ?_; first | (show aWp _ _ _ _ _) | skip) | (refine ex_ ?_; first | (show aWp _ _ _ _ _) | skip) | refine rt_ ?_)
    have FX := Fx.mk (And.intro @NL <| And.intro @w4 <| @e4)
    refine W_drawPan 12 (p1) mixed rfl rfl rfl ?_ (by simp only [WS]) ?_
    · repeat (first | exact pe_ | refine pc_ ?_ | refine pq_ ?_ | refine ps_ ?_)
    intro tm1 ht k' hk'
    exact ⟨rfl, rfl, fun n h1 h2 => by simp (disch := first | assumption | omega) only [upd_same, upd_ne], by have := Nat.le_trans (Nat.le_add_right _ _) hk'; show nx ≤ k'; omega⟩
  · cases hp
end Go.Proofs.YtjidgdfdeckofaaDoor.AE

/- Layer 15: Decode. -/
namespace Go.Proofs.YtjidgdfdeckofaaDoor.AE
open Go Go.RowKit Go.Proofs Go.Proofs.YtjidgdfdeckofaaDoor
set_option linter.unusedVariables false
set_option linter.unusedSimpArgs false
set_option maxRecDepth 100000
set_option maxHeartbeats 8000000
theorem dec1_idle (o n e : Nat) (h : AHeap) (nx : Nat) : aCallsD Tryd.prog 82 [.ptr o 0 0, .ptr n 0 0, .ptr e 0 0] .idle h nx .idle (fun h' k' => h' = h ∧ nx ≤ k') := by
  refine aCallsD_body Tryd.func82 rfl rfl (by simp [Tryd.ntmps82]) ?_
  rw [Tryd.ntmps82]
  refine S_seq ?_
  refine S_region ?_
  refine S_rec_idle rfl ?_
  refine S_assert_nil rfl (by rw [Tryd.underlying31]; exact ⟨rfl, fun ms q => by cases q⟩) (z := .int .i64 0) (fun w => by rfl) rfl ?_
  have FX := Fx0
  repeat refine S_val (by (have FX := Fx0; exact cl_)) (Nat.le_refl _) rfl ?_
  refine S_nil ?_
  refine S_of ?_
  have FX := Fx0
  repeat (first | refine v_ ?_ | refine u_ ?_ | refine nl_ ?_ | (refine nz_ ?_; first | (show aWp _ _ _ _ _) | skip) | refine sq_ ?_ | refine rg_ ?_ | refine k_ ?_ | refine ct_ ?_ | refine cf_ ?_ | refine bk_ ?_ | refine sc_ ?_ | (refine sk_ ?_; first | (show aWp _ _ _ _ _) | skip) | (refine ex_ ?_; first | (show aWp _ _ _ _ _) | skip) | refine rt_ ?_)
  exact ⟨rfl, rfl, ⟨_, rfl⟩, rfl, Nat.le_refl _⟩
theorem dec1_pan (o n e : Nat) (x : Int) (h : AHeap) (nx : Nat) (a : List AV) (b c : AV) (hne : o ≠ n ∧ o ≠ e ∧ n ≠ e) (ho : h o = some ⟨4, [a]⟩) (hal : a.length = 4) (hn : h n = some ⟨1, [[b]]⟩) (he : h e = some ⟨1, [[c]]⟩) :
    aCallsD Tryd.prog 82 [.ptr o 0 0, .ptr n 0 0, .ptr e 0 0] (.pan (.iface 31 (.int .i64 x)) false) h nx (.pan (.iface 31 (.int .i64 x)) true) (fun h' k' => h' = upd (upd (upd h o (some ⟨4, [[.int .i64 0, .int .i64 0, .int .i64 0, .zs]]⟩)) n (some ⟨1, [[.int .i64 0]]⟩)) e (some ⟨1, [[.int .i64 x]]⟩) ∧ nx ≤ k') := by
  obtain ⟨h1, h2, h3⟩ := hne
  obtain ⟨a0, a1, a2, a3, rfl⟩ : ∃ a0 a1 a2 a3, a = [a0, a1, a2, a3] := by
    match a, hal with
    | [a0, a1, a2, a3], _ => exact ⟨a0, a1, a2, a3, rfl⟩
  refine aCallsD_body Tryd.func82 rfl rfl (by simp [Tryd.ntmps82]) ?_
  rw [Tryd.ntmps82]
  refine S_seq ?_
  refine S_region ?_
  refine S_rec_pan rfl ?_
  refine S_assert_hit rfl (by rw [Tryd.underlying31]; exact ⟨rfl, fun ms q => by cases q⟩) rfl ?_
  have FX := Fx0
  repeat refine S_val (by (have FX := Fx0; exact cl_)) (Nat.le_refl _) rfl ?_
  refine S_nil ?_
  refine S_of ?_
  have FX := Fx.mk (And.intro @ho <| And.intro @hn <| @he)
  repeat (first | refine v_ ?_ | refine u_ ?_ | refine nl_ ?_ | (refine nz_ ?_; first | (show aWp _ _ _ _ _) | skip) | refine sq_ ?_ | refine rg_ ?_ | refine k_ ?_ | refine ct_ ?_ | refine cf_ ?_ | refine bk_ ?_ | refine sc_ ?_ | (refine sk_ ?_; first | (show aWp _ _ _ _ _) | skip) | (refine ex_ ?_; first | (show aWp _ _ _ _ _) | skip) | refine rt_ ?_)
  exact ⟨rfl, rfl, ⟨_, rfl⟩, rfl, Nat.le_refl _⟩
/-- A closure is put off. -/
theorem dfr0_ {P : Program} {nt : Nat} {Q : AX → St → Prop} {ops : Array Oper} {rest : List Oper} {tm : Nat → AV} {h : AHeap} {k : Nat} {df : List ADef} {ty : TypeId} {pos : String} {after : Array Edge} {x : Operand} {ts : Array TypeId} {f : FuncId} {cap : List AV}
    (hr : aOps P nt ops rest Q ⟨tm, h, k, ⟨.func f, cap, []⟩ :: df⟩) (hx : evA tm x = .fn (.func f) [] cap := by first | rfl | (simp (disch := first | rfl | decide | omega | assumption | (simp only [LL]; omega)) only [WS, NB, WY, FX.out]; first | done | rfl)) : aOps P nt ops (⟨none, .defer ⟨.value x, #[], ts⟩, ty, pos, after, none⟩ :: rest) Q ⟨tm, h, k, df⟩ := dfr_ (first := []) (by show aOps P nt ops rest Q ⟨tm, h, k, ⟨.func f, cap, [] ++ (#[] : Array Operand).toList.map (evA tm)⟩ :: df⟩; simpa using hr) hx rfl
theorem strings_HasPrefix (a b : List Int) : aFun Tryd.prog 84 [.str a, .str b] (.bool (decide (b <+: a))) := by
  have e0 : aFun Tryd.prog 94 [.str a, .str b] (.bool (decide (b <+: a))) := by
    by_cases h : b.length ≤ a.length
    · have d1 : decide ((b.length : Int) ≤ (a.length : Int)) = true := decide_eq_true (by omega)
      have hb : (b.length : Int) ≤ (a.length : Int) := by omega
      have e2 : decide (a.take b.length = b) = decide (b <+: a) := by
        refine decide_eq_decide.2 ?_
        rw [List.prefix_iff_eq_take]
        exact ⟨Eq.symm, Eq.symm⟩
      refine aFun_body Tryd.func94 rfl rfl (by simp [Tryd.ntmps94]) fun hreal h nx hfresh => ?_
      rw [Tryd.ntmps94]
      have FX := Fx.mk (And.intro @d1 <| And.intro @hb <| @e2)
      repeat (first | refine v_ ?_ | refine u_ ?_ | refine nl_ ?_ | (refine nz_ ?_; first | (show aWp _ _ _ _ _) | skip) | refine sq_ ?_ | refine rg_ ?_ | refine k_ ?_ | refine ct_ ?_ | refine cf_ ?_ | refine bk_ ?_ | refine sc_ ?_ | (refine sk_ ?_; first | (show aWp _ _ _ _ _) | skip) | (refine ex_ ?_; first | (show aWp _ _ _ _ _) | skip) | refine rt_ ?_)
      (have FX := Fx0; exact end_ Tryd.results94)
    · have d1 : decide ((b.length : Int) ≤ (a.length : Int)) = false := decide_eq_false (by omega)
      have e : decide (b <+: a) = false := decide_eq_false fun q => h q.length_le
      rw [e]
      refine aFun_body Tryd.func94 rfl rfl (by simp [Tryd.ntmps94]) fun hreal h nx hfresh => ?_
      rw [Tryd.ntmps94]
      have FX := Fx.mk (@d1)
      repeat (first | refine v_ ?_ | refine u_ ?_ | refine nl_ ?_ | (refine nz_ ?_; first | (show aWp _ _ _ _ _) | skip) | refine sq_ ?_ | refine rg_ ?_ | refine k_ ?_ | refine ct_ ?_ | refine cf_ ?_ | refine bk_ ?_ | refine sc_ ?_ | (refine sk_ ?_; first | (show aWp _ _ _ _ _) | skip) | (refine ex_ ?_; first | (show aWp _ _ _ _ _) | skip) | refine rt_ ?_)
      (have FX := Fx0; exact end_ Tryd.results94)
  refine aFun_body Tryd.func84 rfl rfl (by simp [Tryd.ntmps84]) fun hreal h nx hfresh => ?_
  rw [Tryd.ntmps84]
  have FX := Fx0
  repeat (first | refine v_ ?_ | refine u_ ?_ | refine f_ (e0) fun kf hkf => ?_ | refine nl_ ?_ | (refine nz_ ?_; first | (show aWp _ _ _ _ _) | skip) | refine sq_ ?_ | refine rg_ ?_ | refine k_ ?_ | refine ct_ ?_ | refine cf_ ?_ | refine bk_ ?_ | refine sc_ ?_ | (refine sk_ ?_; first | (show aWp _ _ _ _ _) | skip) | (refine ex_ ?_; first | (show aWp _ _ _ _ _) | skip) | refine rt_ ?_)
  (have FX := Fx0; exact end_ Tryd.results84)
theorem bytes_EqualJ (a b : List Int) : aFun Tryd.prog 58 [.sl (numB .u8 a), .sl (numB .u8 b)] (.bool (decide (a = b))) := by
  refine aFun_body Tryd.func58 rfl rfl (by simp [Tryd.ntmps58]) fun hreal h nx hfresh => ?_
  rw [Tryd.ntmps58]
  have FX := Fx0
  repeat (first | refine v_ ?_ | refine u_ ?_ | refine nl_ ?_ | (refine nz_ ?_; first | (show aWp _ _ _ _ _) | skip) | refine sq_ ?_ | refine rg_ ?_ | refine k_ ?_ | refine ct_ ?_ | refine cf_ ?_ | refine bk_ ?_ | refine sc_ ?_ | (refine sk_ ?_; first | (show aWp _ _ _ _ _) | skip) | (refine ex_ ?_; first | (show aWp _ _ _ _ _) | skip) | refine rt_ ?_)
  (have FX := Fx0; exact end_ Tryd.results58)
/-- A function that puts off one call and leaves memory as it was. -/
theorem aFun_defer {P : Program} {nt : Nat} {f : FuncId} {fn : Func} {c : Code} {args : List AV} {v : AV} (hf : P.funcs[f]? = some fn) (hb : fn.body = some c) (hn : fn.ntmps = nt) (ha : args.length ≤ nt)
    (hw : (∀ a ∈ args, Real a) → ∀ h nx, (∀ n, nx ≤ n → h n = none) → aWp P nt c (bodyD P fn (fun e h' k' => ∃ a, e = .ret a ∧ frzV nx h' a = some v ∧ (∀ n, n < nx → h' n = h n) ∧ nx ≤ k')) ⟨tm0 args, h, nx, []⟩) : aFun P f args v := fun h nx => aCalls_real fun hreal hfresh => by
  have h1 : aCalls P f args h nx (fun e h' k' => ∃ a, e = .ret a ∧ frzV nx h' a = some v ∧ (∀ n, n < nx → h' n = h n) ∧ nx ≤ k') := aCalls_defer hf hb hn ha (hw hreal h nx hfresh)
  intro B w0 O σ w vs hs hx hk hv
  refine (h1 B w0 O σ w vs hs hx hk hv).mono ?_
  rintro e w' ⟨ae, h', nx', σ', g1, g2, g3, g4, a, rfl, g5, g6, g7⟩
  cases g1 with
  | ret _ u hu =>
  obtain ⟨d1, d2⟩ := g2.drop (fun m => decide (nx ≤ m))
  have hfz := frzV_ok g2 g5 hu
  have he : (fun m => if decide (nx ≤ m) = true then none else h' m) = h := by
    funext m
    by_cases hm : nx ≤ m
    · simp [hm, hfresh m hm]
    · simp [hm, g6 m (by omega)]
  rw [he] at d1 d2 hfz
  exact ⟨.ret v, h, nx', σ', .ret v u hfz, d1, g3, g4.trans d2 (Nat.le_refl _) (fun _ _ => rfl), rfl, rfl, g7⟩
theorem aCallsD_mono {P : Program} {f : FuncId} {args : List AV} {m m' : SM} {h : AHeap} {nx : Nat} {R R' : AHeap → Nat → Prop} (hc : aCallsD P f args m h nx m' R) (hR : ∀ h' k', R h' k' → R' h' k') : aCallsD P f args m h nx m' R' := fun B w0 O σ w vs u q1 q2 q3 q4 q5 => by
  refine (hc B w0 O σ w vs u q1 q2 q3 q4 q5).mono ?_
  rintro e u' w' ⟨h1, h', nx', σ', h2, h3, h4, h5, h6⟩
  exact ⟨h1, h', nx', σ', h2, h3, h4, h5, hR _ _ h6⟩
theorem runP_le {b : List Int} : ∀ {n : Nat} {l : List Pg} {a : Nat}, runP b n = .ok (l, a) → a ≤ 22 + 67 * n
  | 0, l, a, h => by cases h; exact Nat.le_refl _
  | n + 1, l, a, h => by
    rw [runP] at h
    split at h
    · cases h
    rename_i l0 a0 h0
    split at h
    · cases h
    rename_i p a1 h1
    cases h
    have := runP_le h0
    unfold pageD at h1
    split at h1
    · cases h1
    split at h1
    · cases h1
    split at h1
    · cases h1
    cases h1
    omega
/-- Decode's end by a panic. -/
theorem dec_pan {h h1 : AHeap} {nx : Nat} {tm : Nat → AV} {k : Nat} {v : AV} {x : Int} {a : List AV} {b c : AV} (hv : v = .tup [.agg [.int .i64 0, .int .i64 0, .int .i64 0, .sl []], .int .i64 0, .int .i64 x])
    (t2 : tm 2 = .ptr nx 0 0) (t3 : tm 3 = .ptr (nx + 1) 0 0) (t4 : tm 4 = .ptr (nx + 2) 0 0) (ho : h1 nx = some ⟨4, [a]⟩) (hal : a.length = 4) (hn : h1 (nx + 1) = some ⟨1, [[b]]⟩) (he : h1 (nx + 2) = some ⟨1, [[c]]⟩) (hh : ∀ n, n < nx → h1 n = h n) (hk : nx ≤ k) :
    bodyD Tryd.prog Tryd.f69 (fun e h' k' => ∃ a, e = .ret a ∧ frzV nx h' a = some v ∧ (∀ n, n < nx → h' n = h n) ∧ nx ≤ k') (.pan (.iface 31 (.int .i64 x))) ⟨tm, h1, k, [⟨.func 82, [.ptr nx 0 0, .ptr (nx + 1) 0 0, .ptr (nx + 2) 0 0], []⟩]⟩ := by
  subst hv
  refine .inr ⟨_, _, rfl, by simp only [WS], aCallsD_mono (dec1_pan nx (nx + 1) (nx + 2) x h1 k a b c ⟨by omega, by omega, by omega⟩ ho hal hn he) ?_⟩
  rintro h' k' ⟨rfl, hk'⟩
  refine ⟨.tup [.agg [.int .i64 0, .int .i64 0, .int .i64 0, .zs], .int .i64 0, .int .i64 x], ?_, _, rfl, ?_, fun n hn => ?_, by omega⟩
  · rw [Tryd.results69]
    (have FX := Fx.mk (And.intro @t2 <| And.intro @t3 <| @t4); exact cr_)
  · rfl
  · simp (disch := first | assumption | omega) only [upd_same, upd_ne, hh]
/-- Decode's end without one. -/
theorem dec_ret {h h1 : AHeap} {nx : Nat} {tm : Nat → AV} {k : Nat} {v : AV} {n : Int} {a0 a1 a2 a3 : AV}
    (t2 : tm 2 = .ptr nx 0 0) (t3 : tm 3 = .ptr (nx + 1) 0 0) (t4 : tm 4 = .ptr (nx + 2) 0 0) (ho : h1 nx = some ⟨4, [[a0, a1, a2, a3]]⟩) (hn : h1 (nx + 1) = some ⟨1, [[.int .i64 n]]⟩) (he : h1 (nx + 2) = some ⟨1, [[.int .i64 0]]⟩)
    (hv : frzV nx h1 (.tup [.agg [a0, a1, a2, a3], .int .i64 n, .int .i64 0]) = some v) (hh : ∀ n, n < nx → h1 n = h n) (hk : nx ≤ k) :
    bodyD Tryd.prog Tryd.f69 (fun e h' k' => ∃ a, e = .ret a ∧ frzV nx h' a = some v ∧ (∀ n, n < nx → h' n = h n) ∧ nx ≤ k') .ret ⟨tm, h1, k, [⟨.func 82, [.ptr nx 0 0, .ptr (nx + 1) 0 0, .ptr (nx + 2) 0 0], []⟩]⟩ := by
  refine .inr ⟨_, _, rfl, by simp only [WS], aCallsD_mono (dec1_idle nx (nx + 1) (nx + 2) h1 k) ?_⟩
  rintro h' k' ⟨rfl, hk'⟩
  refine ⟨.tup [.agg [a0, a1, a2, a3], .int .i64 n, .int .i64 0], ?_, _, rfl, hv, hh, by omega⟩
  rw [Tryd.results69]
  (have FX := Fx.mk (And.intro @t2 <| And.intro @t3 <| And.intro @t4 <| And.intro @ho <| And.intro @hn <| @he); exact cr_)
end Go.Proofs.YtjidgdfdeckofaaDoor.AE
