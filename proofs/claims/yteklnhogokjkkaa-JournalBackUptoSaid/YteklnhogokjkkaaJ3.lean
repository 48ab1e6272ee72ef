/- Layer 15: need, number, page. -/
import Derived.Test.YteklnhogokjkkaaC6
import Derived.Test.YteklnhogokjkkaaC8
import Derived.Test.YteklnhogokjkkaaJ1
import Derived.Test.YteklnhogokjkkaaG2
namespace Go.Proofs.Yteklnhogokjkkaa.AE
open Go Go.RowKit Go.Proofs Go.Proofs.Yteklnhogokjkkaa
set_option linter.unusedVariables false
set_option linter.unusedSimpArgs false
set_option maxRecDepth 100000
set_option maxHeartbeats 8000000
theorem need_yes (e : Int) : aFun Try.prog 32 [.bool true, .int .i64 e] (.tup []) := by
  refine aFun_body Try.func32 rfl rfl (by simp [Try.ntmps32]) fun hreal h nx hfresh => ?_
  rw [Try.ntmps32]
  have FX := Fx.mk (@Bool.not_true)
  repeat (first | refine v_ ?_ | refine u_ ?_ | refine nl_ ?_ | (refine nz_ ?_; first | (show aWp _ _ _ _ _) | skip) | refine sq_ ?_ | refine rg_ ?_ | refine k_ ?_ | refine ct_ ?_ | refine cf_ ?_ | refine bk_ ?_ | refine sc_ ?_ | (refine sk_ ?_; first | (show aWp _ _ _ _ _) | skip) | (refine ex_ ?_; first | (show aWp _ _ _ _ _) | skip) | refine rt_ ?_)
  (have FX := Fx0; exact end_ Try.results32)
theorem aop_mi (P : Program) (t : TypeId) (x : Operand) (tm : Nat → AV) (h : AHeap) (k : Nat) (hc : P.concrete t = true) : aop P (.makeInterface t x) tm h k = some (.iface t (evA tm x), h, k) := if_pos hc
theorem need_no (e : Int) : aPan Try.prog 32 [.bool false, .int .i64 e] (.iface 29 (.int .i64 e)) := by
  intro h nx
  refine aCalls_body Try.func32 rfl rfl (by simp [Try.ntmps32]) ?_
  rw [Try.ntmps32]
  have cc : Try.prog.concrete 29 = true := by rfl
  have FX := Fx.mk (And.intro @Bool.not_false <| @aop_mi)
  repeat (first | refine v_ ?_ | refine u_ ?_ | refine nl_ ?_ | (refine nz_ ?_; first | (show aWp _ _ _ _ _) | skip) | refine sq_ ?_ | refine rg_ ?_ | refine k_ ?_ | refine ct_ ?_ | refine cf_ ?_ | refine bk_ ?_ | refine sc_ ?_ | (refine sk_ ?_; first | (show aWp _ _ _ _ _) | skip) | (refine ex_ ?_; first | (show aWp _ _ _ _ _) | skip) | refine rt_ ?_)
  refine pn_ ?_
  exact ⟨rfl, rfl, rfl, Nat.le_refl _⟩
theorem getS_J {b : List Int} {a n : Nat} (hn : 1 ≤ n ∧ n ≤ 8) (ha : a + n ≤ b.length) : Pl.getS b (a : Int) (n : Int) = (numJ b a n, 0) := by
  unfold Pl.getS numJ
  rw [if_neg (by omega), if_neg (by omega), if_neg (by omega), Int.toNat_natCast, Int.toNat_natCast]
theorem numJ_nonneg (b : List Int) (a n : Nat) : 0 ≤ numJ b a n := Pl.leI_nonneg _
theorem numJ_lt (b : List Int) (a n : Nat) : numJ b a n < 256 ^ n := by
  refine Int.lt_of_lt_of_le (Pl.leI_lt _) ?_
  have : ((b.drop a).take n).length ≤ n := by simp; omega
  exact_mod_cast Nat.pow_le_pow_right (by decide) this
theorem journal_number (b : List Int) (a n m : Nat) (hn : 1 ≤ n ∧ n ≤ 8) (ha : a + n ≤ b.length) (hl : b.length < 4611686018427387904) {h : AHeap} {nx : Nat} (hm : h m = some ⟨2, [[.sl (numB .u8 b), .int .i64 (a : Int)]]⟩) :
    aEff Try.prog 34 [.ptr m 0 0, .int .i64 (n : Int)] h nx (.int .i64 (min (numJ b a n) 4611686018427387904)) (upd h m (some ⟨2, [[.sl (numB .u8 b), .int .i64 ((a + n : Nat) : Int)]]⟩)) := by
  have hg := octets_Get b a n
  rw [getS_J hn ha] at hg
  have h0 := numJ_nonneg b a n
  have nd := need_yes 0
  have d0 : decide ((0 : Int) = 0) = true := rfl
  have hw : IntKind.i64.wrap ((a : Int) + n) = ((a + n : Nat) : Int) := by rw [wrapI] <;> omega
  have hcl : (if 4611686018427387904 < numJ b a n then 4611686018427387904 else numJ b a n) = min (numJ b a n) 4611686018427387904 := by rw [Int.min_def]; split <;> split <;> omega
  have hcw : IntKind.i64.wrap (min (numJ b a n) 4611686018427387904) = min (numJ b a n) 4611686018427387904 := by rw [wrapI] <;> omega
  refine aEff_body Try.func34 rfl rfl (by simp [Try.ntmps34]) fun hreal hfresh => ⟨?_, ?_⟩
  · intro q hq
    by_cases e : q = m
    · subst e; rw [hfresh q hq] at hm; cases hm
    · rw [upd_ne _ _ _ e]; exact hfresh q hq
  rw [Try.ntmps34]
  have FX := Fx0
  repeat (first | refine v_ ?_ | refine u_ ?_ | refine nl_ ?_ | (refine nz_ ?_; first | (show aWp _ _ _ _ _) | skip) | refine sq_ ?_ | refine rg_ ?_ | refine k_ ?_ | refine ct_ ?_ | refine cf_ ?_ | refine bk_ ?_ | refine sc_ ?_ | (refine sk_ ?_; first | (show aWp _ _ _ _ _) | skip) | (refine ex_ ?_; first | (show aWp _ _ _ _ _) | skip) | refine rt_ ?_)
  have FX := Fx.mk (And.intro @hm <| @NL)
  refine W_draw mixed rfl rfl ?_
  repeat (first | refine dq_ ?_ | refine df_ (hg) ?_ | refine dr_ [m] ?_ | refine dk_ ?_ | refine dn_ ?_)
  refine fun kd hkd => ?_
  simp only [List.length_cons, List.length_nil] at hkd
  first | (show aWp _ _ _ _ _) | skip
  have FX := Fx.mk (And.intro @hm <| And.intro @NL <| And.intro @d0 <| And.intro @hw <| And.intro @hcl <| @hcw)
  repeat (first | refine v_ ?_ | refine u_ ?_ | refine f_ (nd) fun kf hkf => ?_ | refine nl_ ?_ | (refine nz_ ?_; first | (show aWp _ _ _ _ _) | skip) | refine sq_ ?_ | refine rg_ ?_ | refine k_ ?_ | refine ct_ ?_ | refine cf_ ?_ | refine bk_ ?_ | refine sc_ ?_ | (refine sk_ ?_; first | (show aWp _ _ _ _ _) | skip) | (refine ex_ ?_; first | (show aWp _ _ _ _ _) | skip) | refine rt_ ?_)
  (have FX := Fx0; exact end_ Try.results34)
theorem bytes_Clone (l : List Int) (hc : l.length ≤ 140737488355328) : aFun Try.prog 47 [.sl (numB .u8 l)] (.sl (numB .u8 l)) := by
  refine aFun_body Try.func47 rfl rfl (by simp [Try.ntmps47]) fun hreal h nx hfresh => ?_
  rw [Try.ntmps47]
  have FX := Fx0
  repeat (first | refine v_ ?_ | refine u_ ?_ | refine nl_ ?_ | (refine nz_ ?_; first | (show aWp _ _ _ _ _) | skip) | refine sq_ ?_ | refine rg_ ?_ | refine k_ ?_ | refine ct_ ?_ | refine cf_ ?_ | refine bk_ ?_ | refine sc_ ?_ | (refine sk_ ?_; first | (show aWp _ _ _ _ _) | skip) | (refine ex_ ?_; first | (show aWp _ _ _ _ _) | skip) | refine rt_ ?_)
  refine W_isnil (n := l.length) rfl (by first | rfl | (simp (disch := first | rfl | decide | omega | assumption | (simp only [LL]; omega)) only [WS, NB, WY, rowV]; first | done | rfl)) Try.underlying25 (fun h0 => ?_) ?_
  · obtain rfl : l = [] := by simpa using h0
    have FX := Fx0
    repeat (first | refine v_ ?_ | refine u_ ?_ | refine nl_ ?_ | (refine nz_ ?_; first | (show aWp _ _ _ _ _) | skip) | refine sq_ ?_ | refine rg_ ?_ | refine k_ ?_ | refine ct_ ?_ | refine cf_ ?_ | refine bk_ ?_ | refine sc_ ?_ | (refine sk_ ?_; first | (show aWp _ _ _ _ _) | skip) | (refine ex_ ?_; first | (show aWp _ _ _ _ _) | skip) | refine rt_ ?_)
    (have FX := Fx0; exact end_ Try.results47)
  · have FX := Fx0
    repeat (first | refine v_ ?_ | refine u_ ?_ | refine nl_ ?_ | (refine nz_ ?_; first | (show aWp _ _ _ _ _) | skip) | refine sq_ ?_ | refine rg_ ?_ | refine k_ ?_ | refine ct_ ?_ | refine cf_ ?_ | refine bk_ ?_ | refine sc_ ?_ | (refine sk_ ?_; first | (show aWp _ _ _ _ _) | skip) | (refine ex_ ?_; first | (show aWp _ _ _ _ _) | skip) | refine rt_ ?_)
    (have FX := Fx0; exact end_ Try.results47)
theorem J_num (b : List Int) (a m : Nat) (s : Int) (n : Nat) (hs : s = (n : Int)) (hn : 1 ≤ n ∧ n ≤ 8) (ha : a + n ≤ b.length) (hl : b.length < 4611686018427387904) {v : Int} (hv : min (numJ b a n) 4611686018427387904 = v) {h : AHeap} {nx : Nat} (hm : h m = some ⟨2, [[.sl (numB .u8 b), .int .i64 (a : Int)]]⟩) :
    aEff Try.prog 34 [.ptr m 0 0, .int .i64 s] h nx (.int .i64 v) (upd h m (some ⟨2, [[.sl (numB .u8 b), .int .i64 ((a + n : Nat) : Int)]]⟩)) := by
  subst hs hv
  exact journal_number b a n m hn ha hl hm
theorem page_ok (b : List Int) (a m : Nat) (p : Pg) (a' : Nat) (hl : b.length < 4611686018427387904) (hp : pageD b a = .ok (p, a')) {h : AHeap} {nx : Nat} (hm : h m = some ⟨2, [[.sl (numB .u8 b), .int .i64 (a : Int)]]⟩) :
    aEff Try.prog 35 [.ptr m 0 0] h nx (.agg [.int .i64 p.1, .sl (numB .u8 p.2)]) (upd h m (some ⟨2, [[.sl (numB .u8 b), .int .i64 (a' : Int)]]⟩)) := by
  have n1 := need_yes 8
  have n2 := need_yes 21
  unfold pageD at hp
  split at hp
  · cases hp
  rename_i c1
  split at hp
  · cases hp
  rename_i c2
  split at hp
  · cases hp
  rename_i c3
  obtain ⟨f, hf⟩ : ∃ f : Nat, numJ b (a + 2) 1 = (f : Int) := ⟨(numJ b (a + 2) 1).toNat, by have := numJ_nonneg b (a + 2) 1; omega⟩
  rw [hf, Int.toNat_natCast] at hp c3
  rw [hf] at c2
  cases hp
  have q2 := numJ_lt b a 2
  have q0 := numJ_nonneg b a 2
  have hv2 : min (numJ b a 2) 4611686018427387904 = numJ b a 2 := Int.min_eq_left (by have : (256 : Int) ^ 2 = 65536 := rfl; omega)
  have hv1 : min (numJ b (a + 2) 1) 4611686018427387904 = (f : Int) := by rw [hf]; exact Int.min_eq_left (by omega)
  have w1 : IntKind.i64.wrap ((b.length : Int) - a) = ((b.length - a : Nat) : Int) := by rw [wrapI] <;> omega
  have e1 : decide ((3 : Int) ≤ ((b.length - a : Nat) : Int)) = true := decide_eq_true (by omega)
  have e2 : decide ((f : Int) ≤ 1) = true := decide_eq_true (by omega)
  have w3 : IntKind.i64.wrap ((f : Int) * 64) = ((64 * f : Nat) : Int) := by rw [wrapI] <;> omega
  have w4 : IntKind.i64.wrap ((b.length : Int) - ((a + 2 + 1 : Nat) : Int)) = ((b.length - (a + 3) : Nat) : Int) := by rw [wrapI] <;> omega
  have e4 : decide (((64 * f : Nat) : Int) ≤ ((b.length - (a + 3) : Nat) : Int)) = true := decide_eq_true (by omega)
  have w5 : IntKind.i64.wrap (((a + 2 + 1 : Nat) : Int) + ((64 * f : Nat) : Int)) = ((a + 3 + 64 * f : Nat) : Int) := by rw [wrapI] <;> omega
  refine aEff_body Try.func35 rfl rfl (by simp [Try.ntmps35]) fun hreal hfresh => ⟨?_, ?_⟩
  · intro q hq
    by_cases e : q = m
    · subst e; rw [hfresh q hq] at hm; cases hm
    · rw [upd_ne _ _ _ e]; exact hfresh q hq
  have hlt : m < nx := by
    rcases Nat.lt_or_ge m nx with q | q
    · exact q
    · rw [hfresh m q] at hm; cases hm
  rw [Try.ntmps35]
  have FX := Fx0
  repeat (first | refine v_ ?_ | refine u_ ?_ | refine nl_ ?_ | (refine nz_ ?_; first | (show aWp _ _ _ _ _) | skip) | refine sq_ ?_ | refine rg_ ?_ | refine k_ ?_ | refine ct_ ?_ | refine cf_ ?_ | refine bk_ ?_ | refine sc_ ?_ | (refine sk_ ?_; first | (show aWp _ _ _ _ _) | skip) | (refine ex_ ?_; first | (show aWp _ _ _ _ _) | skip) | refine rt_ ?_)
  have FX := Fx.mk (And.intro @hm <| And.intro @NL <| And.intro @w1 <| @e1)
  refine W_draw mixed rfl rfl ?_
  repeat (first | refine dq_ ?_ | refine df_ (n1) ?_ | refine dr_ [m] ?_ | refine dk_ ?_ | refine dn_ ?_)
  refine fun kd hkd => ?_
  simp only [List.length_cons, List.length_nil] at hkd
  first | (show aWp _ _ _ _ _) | skip
  have FX := Fx.mk (And.intro @hm <| And.intro @w3 <| @e2)
  repeat (first | refine v_ ?_ | refine u_ ?_ | refine e_ (J_num b a m 2 2 rfl ⟨by decide, by decide⟩ (by omega) (by omega) hv2 (by exact cl_)) fun kf hkf => ?_ | refine e_ (J_num b (a + 2) m 1 1 rfl ⟨by decide, by decide⟩ (by omega) (by omega) hv1 (by exact cl_)) fun kf hkf => ?_ | refine f_ (n2) fun kf hkf => ?_ | refine nl_ ?_ | (refine nz_ ?_; first | (show aWp _ _ _ _ _) | skip) | refine sq_ ?_ | refine rg_ ?_ | refine k_ ?_ | refine ct_ ?_ | refine cf_ ?_ | refine bk_ ?_ | refine sc_ ?_ | (refine sk_ ?_; first | (show aWp _ _ _ _ _) | skip) | (refine ex_ ?_; first | (show aWp _ _ _ _ _) | skip) | refine rt_ ?_)
  have cl := bytes_Clone ((b.take (a + 3 + 64 * f)).drop (a + 2 + 1)) (by simp; omega)
  have hcl : (b.take (a + 3 + 64 * f)).drop (a + 2 + 1) = (b.drop (a + 3)).take (64 * f) := by rw [List.drop_take]; congr 1; omega
  have l1 : ((a + 2 + 1 : Nat) : Int) ≤ ((a + 3 + 64 * f : Nat) : Int) := by omega
  have l2 : ((a + 3 + 64 * f : Nat) : Int) ≤ (b.length : Int) := by omega
  have hne : m ≠ nx := by omega
  have FX := Fx.mk (And.intro @NL <| And.intro @w4 <| @e4)
  refine W_draw mixed rfl rfl ?_
  repeat (first | refine dq_ ?_ | refine df_ (n1) ?_ | refine dr_ [m] ?_ | refine dk_ ?_ | refine dn_ ?_)
  refine fun kd hkd => ?_
  simp only [List.length_cons, List.length_nil] at hkd
  first | (show aWp _ _ _ _ _) | skip
  have FX := Fx0
  repeat (first | refine v_ ?_ | refine u_ ?_ | refine nl_ ?_ | (refine nz_ ?_; first | (show aWp _ _ _ _ _) | skip) | refine sq_ ?_ | refine rg_ ?_ | refine k_ ?_ | refine ct_ ?_ | refine cf_ ?_ | refine bk_ ?_ | refine sc_ ?_ | (refine sk_ ?_; first | (show aWp _ _ _ _ _) | skip) | (refine ex_ ?_; first | (show aWp _ _ _ _ _) | skip) | refine rt_ ?_)
  have FX := Fx.mk (And.intro @NL <| And.intro @w5 <| And.intro @l1 <| @l2)
  refine W_draw mixed rfl rfl ?_
  repeat (first | refine dq_ ?_ | refine df_ (cl) ?_ | refine dr_ [m] ?_ | refine dm_ [nx] ?_ | refine da_ [nx] ?_ | refine ds_ [m] ?_ | refine ds_ [nx] ?_ | refine dw_ [m] ?_ | refine dk_ ?_ | refine dn_ ?_)
  refine fun kd hkd => ?_
  simp only [List.length_cons, List.length_nil] at hkd
  first | (show aWp _ _ _ _ _) | skip
  have FX := Fx.mk (And.intro @NL <| @w5)
  repeat (first | refine v_ ?_ | refine u_ ?_ | refine nl_ ?_ | (refine nz_ ?_; first | (show aWp _ _ _ _ _) | skip) | refine sq_ ?_ | refine rg_ ?_ | refine k_ ?_ | refine ct_ ?_ | refine cf_ ?_ | refine bk_ ?_ | refine sc_ ?_ | (refine sk_ ?_; first | (show aWp _ _ _ _ _) | skip) | (refine ex_ ?_; first | (show aWp _ _ _ _ _) | skip) | refine rt_ ?_)
  have FX := Fx.mk @hcl
  exact end_ Try.results35 (hh := by
    intro q hq
    by_cases e : q = m
    · subst e; simp (disch := first | assumption | omega) only [upd_same, upd_ne]
    · simp (disch := first | assumption | omega) only [upd_same, upd_ne])
theorem page_err (b : List Int) (a m : Nat) (e : Int) (hl : b.length < 4611686018427387904) (hal : a ≤ b.length) (hp : pageD b a = .error e) {h : AHeap} {nx : Nat} (hm : h m = some ⟨2, [[.sl (numB .u8 b), .int .i64 (a : Int)]]⟩) :
    aCalls Try.prog 35 [.ptr m 0 0] h nx (fun x h' k' => x = .pan (.iface 29 (.int .i64 e)) ∧ (∀ n, n < nx → n ≠ m → h' n = h n) ∧ nx ≤ k') := aCalls_real fun hreal hfresh => by
  have n1 := need_yes 8
  have n2 := need_yes 21
  have p1 := need_no 8
  have p2 := need_no 21
  have hlt : m < nx := by
    rcases Nat.lt_or_ge m nx with q | q
    · exact q
    · rw [hfresh m q] at hm; cases hm
  have hne : m ≠ nx := by omega
  have w1 : IntKind.i64.wrap ((b.length : Int) - a) = ((b.length - a : Nat) : Int) := by rw [wrapI] <;> omega
  refine aCalls_body Try.func35 rfl rfl (by simp [Try.ntmps35]) ?_
  rw [Try.ntmps35]
  unfold pageD at hp
  split at hp
  · rename_i c1
    cases hp
    have e1 : decide ((3 : Int) ≤ ((b.length - a : Nat) : Int)) = false := decide_eq_false (by omega)
    have FX := Fx0
    repeat (first | refine v_ ?_ | refine u_ ?_ | refine nl_ ?_ | (refine nz_ ?_; first | (show aWp _ _ _ _ _) | skip) | refine sq_ ?_ | refine rg_ ?_ | refine k_ ?_ | refine ct_ ?_ | refine cf_ ?_ | refine bk_ ?_ | refine sc_ ?_ | (refine sk_ ?_; first | (show aWp _ _ _ _ _) | skip) | (refine ex_ ?_; first | (show aWp _ _ _ _ _) | skip) | refine rt_ ?_)
    have FX := Fx.mk (And.intro @hm <| And.intro @NL <| And.intro @w1 <| @e1)
    refine W_drawPan 11 (p1) mixed rfl rfl rfl ?_ (by simp only [WS]) ?_
    · repeat (first | exact pe_ | refine pc_ ?_ | refine pq_ ?_ | refine ps_ ?_)
    intro tm1 ht k' hk'
    exact ⟨rfl, rfl, fun n h1 h2 => by simp (disch := first | assumption | omega) only [upd_same, upd_ne], by have := Nat.le_trans (Nat.le_add_right _ _) hk'; show nx ≤ k'; omega⟩
  rename_i c1
  have e1 : decide ((3 : Int) ≤ ((b.length - a : Nat) : Int)) = true := decide_eq_true (by omega)
  have q2 := numJ_lt b a 2
  have q1 := numJ_lt b (a + 2) 1
  have q0 := numJ_nonneg b a 2
  have hv2 : min (numJ b a 2) 4611686018427387904 = numJ b a 2 := Int.min_eq_left (by have : (256 : Int) ^ 2 = 65536 := rfl; omega)
  obtain ⟨f, hf⟩ : ∃ f : Nat, numJ b (a + 2) 1 = (f : Int) := ⟨(numJ b (a + 2) 1).toNat, by have := numJ_nonneg b (a + 2) 1; omega⟩
  rw [hf] at hp q1
  rw [Int.toNat_natCast] at hp
  have hv1 : min (numJ b (a + 2) 1) 4611686018427387904 = (f : Int) := by rw [hf]; exact Int.min_eq_left (by have : (256 : Int) ^ 1 = 256 := rfl; omega)
  split at hp
  · rename_i c2
    cases hp
    have e2 : decide ((f : Int) ≤ 1) = false := decide_eq_false (by omega)
    have FX := Fx0
    repeat (first | refine v_ ?_ | refine u_ ?_ | refine nl_ ?_ | (refine nz_ ?_; first | (show aWp _ _ _ _ _) | skip) | refine sq_ ?_ | refine rg_ ?_ | refine k_ ?_ | refine ct_ ?_ | refine cf_ ?_ | refine bk_ ?_ | refine sc_ ?_ | (refine sk_ ?_; first | (show aWp _ _ _ _ _) | skip) | (refine ex_ ?_; first | (show aWp _ _ _ _ _) | skip) | refine rt_ ?_)
    have FX := Fx.mk (And.intro @hm <| And.intro @NL <| And.intro @w1 <| @e1)
    refine W_draw mixed rfl rfl ?_
    repeat (first | refine dq_ ?_ | refine df_ (n1) ?_ | refine dr_ [m] ?_ | refine dk_ ?_ | refine dn_ ?_)
    refine fun kd hkd => ?_
    simp only [List.length_cons, List.length_nil] at hkd
    first | (show aWp _ _ _ _ _) | skip
    have FX := Fx.mk (And.intro @hm <| @e2)
    repeat (first | refine v_ ?_ | refine u_ ?_ | refine e_ (J_num b a m 2 2 rfl ⟨by decide, by decide⟩ (by omega) (by omega) hv2 (by exact cl_)) fun kf hkf => ?_ | refine e_ (J_num b (a + 2) m 1 1 rfl ⟨by decide, by decide⟩ (by omega) (by omega) hv1 (by exact cl_)) fun kf hkf => ?_ | refine p_ (p2) fun kf hkf => ?_ | refine nl_ ?_ | (refine nz_ ?_; first | (show aWp _ _ _ _ _) | skip) | refine sq_ ?_ | refine rg_ ?_ | refine k_ ?_ | refine ct_ ?_ | refine cf_ ?_ | refine bk_ ?_ | refine sc_ ?_ | (refine sk_ ?_; first | (show aWp _ _ _ _ _) | skip) | (refine ex_ ?_; first | (show aWp _ _ _ _ _) | skip) | refine rt_ ?_)
    exact ⟨rfl, rfl, fun n h1 h2 => by simp (disch := first | assumption | omega) only [upd_same, upd_ne], by first | omega | (simp only; omega)⟩
  rename_i c2
  split at hp
  · rename_i c3
    cases hp
    have e2 : decide ((f : Int) ≤ 1) = true := decide_eq_true (by omega)
    have w3 : IntKind.i64.wrap ((f : Int) * 64) = ((64 * f : Nat) : Int) := by rw [wrapI] <;> omega
    have w4 : IntKind.i64.wrap ((b.length : Int) - ((a + 2 + 1 : Nat) : Int)) = ((b.length - (a + 3) : Nat) : Int) := by rw [wrapI] <;> omega
    have e4 : decide (((64 * f : Nat) : Int) ≤ ((b.length - (a + 3) : Nat) : Int)) = false := decide_eq_false (by omega)
    have FX := Fx0
    repeat (first | refine v_ ?_ | refine u_ ?_ | refine nl_ ?_ | (refine nz_ ?_; first | (show aWp _ _ _ _ _) | skip) | refine sq_ ?_ | refine rg_ ?_ | refine k_ ?_ | refine ct_ ?_ | refine cf_ ?_ | refine bk_ ?_ | refine sc_ ?_ | (refine sk_ ?_; first | (show aWp _ _ _ _ _) | skip) | (refine ex_ ?_; first | (show aWp _ _ _ _ _) | skip) | refine rt_ ?_)
    have FX := Fx.mk (And.intro @hm <| And.intro @NL <| And.intro @w1 <| @e1)
    refine W_draw mixed rfl rfl ?_
    repeat (first | refine dq_ ?_ | refine df_ (n1) ?_ | refine dr_ [m] ?_ | refine dk_ ?_ | refine dn_ ?_)
    refine fun kd hkd => ?_
    simp only [List.length_cons, List.length_nil] at hkd
    first | (show aWp _ _ _ _ _) | skip
    have FX := Fx.mk (And.intro @hm <| And.intro @w3 <| @e2)
    repeat (first | refine v_ ?_ | refine u_ ?_ | refine e_ (J_num b a m 2 2 rfl ⟨by decide, by decide⟩ (by omega) (by omega) hv2 (by exact cl_)) fun kf hkf => ?_ | refine e_ (J_num b (a + 2) m 1 1 rfl ⟨by decide, by decide⟩ (by omega) (by omega) hv1 (by exact cl_)) fun kf hkf => ?_ | refine f_ (n2) fun kf hkf => ?_ | refine nl_ ?_ | (refine nz_ ?_; first | (show aWp _ _ _ _ _) | skip) | refine sq_ ?_ | refine rg_ ?_ | refine k_ ?_ | refine ct_ ?_ | refine cf_ ?_ | refine bk_ ?_ | refine sc_ ?_ | (refine sk_ ?_; first | (show aWp _ _ _ _ _) | skip) | (refine ex_ ?_; first | (show aWp _ _ _ _ _) | skip) | refine rt_ ?_)
    have FX := Fx.mk (And.intro @NL <| And.intro @w4 <| @e4)
    refine W_drawPan 12 (p1) mixed rfl rfl rfl ?_ (by simp only [WS]) ?_
    · repeat (first | exact pe_ | refine pc_ ?_ | refine pq_ ?_ | refine ps_ ?_)
    intro tm1 ht k' hk'
    exact ⟨rfl, rfl, fun n h1 h2 => by simp (disch := first | assumption | omega) only [upd_same, upd_ne], by have := Nat.le_trans (Nat.le_add_right _ _) hk'; show nx ≤ k'; omega⟩
  · cases hp
end Go.Proofs.Yteklnhogokjkkaa.AE
