/- Texts H7, U0, U1. -/
import Derived.Test.YtjidgdfdeckofaaDoorV18
import Derived.Test.YtjidgdfdeckofaaDoorV15
import Derived.Test.YtjidgdfdeckofaaDoorV10
import Derived.Test.YtjidgdfdeckofaaDoorV14
import Derived.Test.YtjidgdfdeckofaaDoorV17
import Derived.Test.YtjidgdfdeckofaaDoorV7
/- Layer 3: Repeat, Flush. -/
namespace Go.Proofs.YtjidgdfdeckofaaDoor.AE
open Go Go.RowKit Go.Proofs Go.Proofs.YtjidgdfdeckofaaDoor
set_option linter.unusedVariables false
set_option linter.unusedSimpArgs false
set_option maxRecDepth 100000
set_option maxHeartbeats 8000000
theorem and_low (n : Nat) (hn : n < 18446744073709551616) : bits .and .u64 (n : Int) 4294967295 = ((n % 4294967296 : Nat) : Int) := by
  have h : IntKind.u64.wrap ((((BitVec.ofInt 64 (n : Int)) &&& (BitVec.ofInt 64 (4294967295 : Int))).toNat : Nat) : Int) = ((n % 4294967296 : Nat) : Int) := by
    rw [show (4294967295 : Int) = ((4294967295 : Nat) : Int) from rfl]
    simp only [BitVec.ofInt_natCast, BitVec.toNat_and, BitVec.toNat_ofNat]
    rw [Nat.mod_eq_of_lt (show n < 2 ^ 64 by omega), Nat.mod_eq_of_lt (show 4294967295 < 2 ^ 64 by decide), show (4294967295 : Nat) = 2 ^ 32 - 1 from rfl, Nat.and_two_pow_sub_one_eq_mod, wrapU] <;> omega
  exact h
theorem shr32 (n : Nat) : (n : Int).fdiv (2 ^ (min 32 IntKind.u64.bits)) = ((n / 4294967296 : Nat) : Int) := by
  rw [show (2 : Int) ^ (min 32 IntKind.u64.bits) = 4294967296 from by decide, Int.fdiv_eq_ediv_of_nonneg _ (by decide)]
  omega
theorem Mul64_1 (n : Nat) (hn : n < 18446744073709551616) : aFun Tryd.prog 99 [.int .u64 1, .int .u64 (n : Int)] (.tup [.int .u64 0, .int .u64 (n : Int)]) := by
  obtain ⟨p, hp⟩ : ∃ p, n % 4294967296 = p := ⟨_, rfl⟩
  obtain ⟨q, hq⟩ : ∃ q, n / 4294967296 = q := ⟨_, rfl⟩
  have hp2 : p < 4294967296 := by omega
  have hq2 : q < 4294967296 := by omega
  have a1 : bits .and .u64 (1 : Int) 4294967295 = 1 := by decide
  have a2 := and_low n hn
  have a3 : bits .and .u64 (0 : Int) 4294967295 = 0 := by decide
  have s2 := shr32 n
  have s3 := shr32 p
  have s4 := shr32 q
  rw [hp] at a2
  rw [hq] at s2
  rw [show p / 4294967296 = 0 by omega] at s3
  rw [show q / 4294967296 = 0 by omega] at s4
  have s3' : (p : Int).fdiv (2 ^ (min 32 IntKind.u64.bits)) = 0 := s3
  have s4' : (q : Int).fdiv (2 ^ (min 32 IntKind.u64.bits)) = 0 := s4
  have m1 : IntKind.u64.wrap (1 * (n : Int)) = (n : Int) := by rw [Int.one_mul, wrapU] <;> omega
  have m2 : IntKind.u64.wrap (1 * (p : Int)) = (p : Int) := by rw [Int.one_mul, wrapU] <;> omega
  have m3 : IntKind.u64.wrap (1 * (q : Int)) = (q : Int) := by rw [Int.one_mul, wrapU] <;> omega
  have m0 : IntKind.u64.wrap (0 * (p : Int)) = 0 := by rw [Int.zero_mul]; decide
  have m4 : IntKind.u64.wrap (0 * (q : Int)) = 0 := by rw [Int.zero_mul]; decide
  have m5 : IntKind.u64.wrap (0 + (q : Int)) = (q : Int) := by rw [Int.zero_add, wrapU] <;> omega
  refine aFun_body Tryd.func99 rfl rfl (by simp [Tryd.ntmps99]) fun hreal h nx hfresh => ?_
  rw [Tryd.ntmps99]
  have s1 : Int.fdiv 1 (2 ^ (min 32 IntKind.u64.bits)) = 0 := by decide
  have s0 : Int.fdiv 0 (2 ^ (min 32 IntKind.u64.bits)) = 0 := by decide
  have w0 : IntKind.u64.wrap (0 + 0) = 0 := by decide
  have FX := Fx.mk (And.intro @a1 <| And.intro @a2 <| And.intro @a3 <| And.intro @s0 <| And.intro @s1 <| And.intro @s2 <| And.intro @s3' <| And.intro @s4' <| And.intro @m0 <| And.intro @m1 <| And.intro @m2 <| And.intro @m3 <| And.intro @m4 <| And.intro @m5 <| @w0)
  repeat (first | refine v_ ?_ | refine u_ ?_ | refine nl_ ?_ | (refine nz_ ?_; first | (show aWp _ _ _ _ _) | skip) | refine sq_ ?_ | refine rg_ ?_ | refine k_ ?_ | refine ct_ ?_ | refine cf_ ?_ | refine bk_ ?_ | refine sc_ ?_ | (refine sk_ ?_; first | (show aWp _ _ _ _ _) | skip) | (refine ex_ ?_; first | (show aWp _ _ _ _ _) | skip) | refine rt_ ?_)
  (have FX := Fx0; exact end_ Tryd.results99)
theorem Mul_1 (n : Nat) (hn : n < 18446744073709551616) : aFun Tryd.prog 92 [.int .u64 1, .int .u64 (n : Int)] (.tup [.int .u64 0, .int .u64 (n : Int)]) := by
  refine aFun_body Tryd.func92 rfl rfl (by simp [Tryd.ntmps92]) fun hreal h nx hfresh => ?_
  rw [Tryd.ntmps92]
  have FX := Fx0
  repeat (first | refine v_ ?_ | refine u_ ?_ | refine f_ (Mul64_1 n hn) fun kf hkf => ?_ | refine nl_ ?_ | (refine nz_ ?_; first | (show aWp _ _ _ _ _) | skip) | refine sq_ ?_ | refine rg_ ?_ | refine k_ ?_ | refine ct_ ?_ | refine cf_ ?_ | refine bk_ ?_ | refine sc_ ?_ | (refine sk_ ?_; first | (show aWp _ _ _ _ _) | skip) | (refine ex_ ?_; first | (show aWp _ _ _ _ _) | skip) | refine rt_ ?_)
  (have FX := Fx0; exact end_ Tryd.results92)
def repB (j n : Nat) : List (List AV) := List.replicate j [AV.bool true] ++ List.replicate (n - j) [AV.bool false]
theorem repB_len (j n : Nat) (h : j ≤ n) : (repB j n).length = n := by simp [repB]; omega
theorem repB_take (j n : Nat) : (repB j n).take j = List.replicate j [AV.bool true] := List.take_left' (by simp)
theorem repB_put (n j : Nat) (h1 : 1 ≤ j) (h2 : j < n) : rowPut (repB j n) j ((List.replicate j [AV.bool true]).take (n - j)) = repB (j + min j (n - j)) n := by
  unfold rowPut repB
  rw [List.take_left' (by simp), List.take_replicate, List.length_replicate, ← List.drop_drop, List.drop_left' (by simp), List.drop_replicate, List.append_assoc, ← List.append_assoc, List.replicate_append_replicate, show min (n - j) j = min j (n - j) by omega, show n - j - min j (n - j) = n - (j + min j (n - j)) by omega]
theorem Repeat_bool (n m : Nat) (hn : 1 ≤ n ∧ n ≤ 140737488355328) {h : AHeap} {nx : Nat} (hm : h m = some ⟨1, [[.bool true]]⟩) : aEff Tryd.prog 78 [.hs m 0 1, .int .i64 (n : Int)] h nx (.sl (List.replicate n [.bool true])) h := by
  have mu := Mul_1 n (by omega)
  refine aEff_body Tryd.func78 rfl rfl (by simp [Tryd.ntmps78]) fun hreal hfresh => ⟨?_, ?_⟩
  · exact hfresh
  rw [Tryd.ntmps78]
  have hlt : m < nx := by
    rcases Nat.lt_or_ge m nx with q | q
    · exact q
    · rw [hfresh m q] at hm; cases hm
  have d1 : decide ((n : Int) < 0) = false := decide_eq_false (by omega)
  have w1 : IntKind.u64.wrap (n : Int) = (n : Int) := by rw [wrapU] <;> omega
  have w1' : IntKind.i64.wrap (n : Int) = (n : Int) := by rw [wrapI] <;> omega
  have w2 : IntKind.u64.wrap ((1 : Nat) : Int) = 1 := by decide
  have d2 : decide (9223372036854775807 < (n : Int)) = false := decide_eq_false (by omega)
  have d3 : decide ((0 : Int) < 0) = false := by decide
  have FX := Fx.mk (And.intro @d1 <| And.intro @w1 <| And.intro @w1' <| And.intro @w2 <| And.intro @d2 <| And.intro @d3 <| @hm)
  repeat (first | refine v_ ?_ | refine u_ ?_ | refine f_ (mu) fun kf hkf => ?_ | refine nl_ ?_ | (refine nz_ ?_; first | (show aWp _ _ _ _ _) | skip) | refine sq_ ?_ | refine rg_ ?_ | refine k_ ?_ | refine ct_ ?_ | refine cf_ ?_ | refine bk_ ?_ | refine sc_ ?_ | (refine sk_ ?_; first | (show aWp _ _ _ _ _) | skip) | (refine ex_ ?_; first | (show aWp _ _ _ _ _) | skip) | refine rt_ ?_)
  have hm1 : min 1 n = 1 := by omega
  have hr1 : rowPut (List.replicate n [AV.bool false]) 0 (List.take n [[AV.bool true]]) = repB 1 n := by
    rw [List.take_of_length_le (by simp; omega)]
    simp [rowPut, repB]
  refine W_loopK [7] nx (fun r tm h q => ∃ j : Nat, kf < q ∧ (1 ≤ j ∧ j ≤ n) ∧ r = n - j ∧ tm 8 = .int .i64 (j : Int) ∧ h kf = some ⟨1, repB j n⟩) (n - 1) (by omega) ⟨1, by first | omega | (simp only; omega), by omega, rfl, by (have FX := Fx.mk (@hm1); exact cl_), by (have FX := Fx.mk (@hr1); exact cl_)⟩ ?_
  rintro r tm' h' k' ⟨j, hk2, hj, rfl, h8, hmm⟩ hag hh hk'
  by_cases hlt : j < n
  · have hd : decide ((j : Int) < (n : Int)) = true := decide_eq_true (by omega)
    have hput := repB_put n j hj.1 hlt
    have hw : IntKind.i64.wrap ((j : Int) + ((min j (n - j) : Nat) : Int)) = ((j + min j (n - j) : Nat) : Int) := by rw [wrapI] <;> omega
    have htk := repB_take j n
    have hle := repB_len j n hj.2
    have FX := Fx.mk (And.intro @hag <| And.intro @h8 <| And.intro @hmm <| And.intro @hh <| @hd)
    repeat (first | refine v_ ?_ | refine u_ ?_ | refine nl_ ?_ | (refine nz_ ?_; first | (show aWp _ _ _ _ _) | skip) | refine sq_ ?_ | refine rg_ ?_ | refine k_ ?_ | refine ct_ ?_ | refine cf_ ?_ | refine bk_ ?_ | refine sc_ ?_ | (refine sk_ ?_; first | (show aWp _ _ _ _ _) | skip) | (refine ex_ ?_; first | (show aWp _ _ _ _ _) | skip) | refine rt_ ?_)
    have FX := Fx.mk (And.intro @hag <| And.intro @h8 <| And.intro @hmm <| And.intro @hle <| And.intro @htk <| And.intro @hw <| @hput)
    refine W_draw mixed rfl rfl ?_
    repeat (first | refine dq_ ?_ | refine dr_ [kf] ?_ | refine dm_ [kf] ?_ | refine da_ [kf] ?_ | refine ds_ [kf] ?_ | refine dw_ [kf] ?_ | refine dk_ ?_ | refine dn_ ?_)
    refine fun kd hkd => ?_
    simp only [List.length_cons, List.length_nil] at hkd
    first | (show aWp _ _ _ _ _) | skip
    have FX := Fx0
    repeat (first | refine v_ ?_ | refine u_ ?_ | refine nl_ ?_ | (refine nz_ ?_; first | (show aWp _ _ _ _ _) | skip) | refine sq_ ?_ | refine rg_ ?_ | refine k_ ?_ | refine ct_ ?_ | refine cf_ ?_ | refine bk_ ?_ | refine sc_ ?_ | (refine sk_ ?_; first | (show aWp _ _ _ _ _) | skip) | (refine ex_ ?_; first | (show aWp _ _ _ _ _) | skip) | refine rt_ ?_)
    refine ⟨n - (j + min j (n - j)), by omega, ⟨j + min j (n - j), by simp only; omega, by omega, rfl, ?_, ?_⟩, ?_, ?_, by simp only; omega, rfl⟩
    · (have FX := Fx0; exact cl_)
    · (have FX := Fx.mk (And.intro @hput <| @htk); exact cl_)
    · repeat (refine KAgree.upd rfl ?_)
      first | exact KAgree.refl _ _ | exact hag
    · exact (by have FX := Fx.mk (@hh); exact ha_)
  · obtain rfl : j = n := by omega
    have hd : decide ((j : Int) < (j : Int)) = false := by simp
    have he : repB j j = List.replicate j [AV.bool true] := by simp [repB]
    have he2 : (repB j j).length = j := repB_len j j (Nat.le_refl _)
    have he3 : (List.replicate j [AV.bool true]).take j = List.replicate j [AV.bool true] := List.take_of_length_le (by simp)
    have FX := Fx.mk (And.intro @hag <| And.intro @h8 <| And.intro @hmm <| And.intro @hh <| @hd)
    repeat (first | refine v_ ?_ | refine u_ ?_ | refine nl_ ?_ | (refine nz_ ?_; first | (show aWp _ _ _ _ _) | skip) | refine sq_ ?_ | refine rg_ ?_ | refine k_ ?_ | refine ct_ ?_ | refine cf_ ?_ | refine bk_ ?_ | refine sc_ ?_ | (refine sk_ ?_; first | (show aWp _ _ _ _ _) | skip) | (refine ex_ ?_; first | (show aWp _ _ _ _ _) | skip) | refine rt_ ?_)
    (have FX := Fx.mk (And.intro @hag <| And.intro @hmm <| And.intro @hh <| And.intro @he2 <| And.intro @he <| @he3); exact end_ Tryd.results78)
theorem rep_bool (n : Nat) : boolB (List.replicate n true) = List.replicate n [.bool true] := by simp [boolB]
theorem Repeat_bool0 (n m : Nat) (hn : n = 0) {h : AHeap} {nx : Nat} (hm : h m = some ⟨1, [[.bool true]]⟩) : aEff Tryd.prog 78 [.hs m 0 1, .int .i64 (n : Int)] h nx (.sl (List.replicate n [.bool true])) h := by
  have mu := Mul_1 n (by omega)
  have d1 : decide ((n : Int) < 0) = false := decide_eq_false (by omega)
  have w1 : IntKind.u64.wrap (n : Int) = (n : Int) := by rw [wrapU] <;> omega
  have w1' : IntKind.i64.wrap (n : Int) = (n : Int) := by rw [wrapI] <;> omega
  have w2 : IntKind.u64.wrap ((1 : Nat) : Int) = 1 := by decide
  have d2 : decide (9223372036854775807 < (n : Int)) = false := decide_eq_false (by omega)
  have d3 : decide ((0 : Int) < 0) = false := by decide
  refine aEff_body Tryd.func78 rfl rfl (by simp [Tryd.ntmps78]) fun hreal hfresh => ⟨?_, ?_⟩
  · exact hfresh
  rw [Tryd.ntmps78]
  have hlt : m < nx := by
    rcases Nat.lt_or_ge m nx with q | q
    · exact q
    · rw [hfresh m q] at hm; cases hm
  have hm1 : min 1 n = 0 := by omega
  have hr1 : rowPut (List.replicate n [AV.bool false]) 0 (List.take n [[AV.bool true]]) = [] := by subst hn; rfl
  have he : List.replicate n [AV.bool true] = [] := by subst hn; rfl
  have FX := Fx.mk (And.intro @d1 <| And.intro @w1 <| And.intro @w1' <| And.intro @w2 <| And.intro @d2 <| And.intro @d3 <| @hm)
  repeat (first | refine v_ ?_ | refine u_ ?_ | refine f_ (mu) fun kf hkf => ?_ | refine nl_ ?_ | (refine nz_ ?_; first | (show aWp _ _ _ _ _) | skip) | refine sq_ ?_ | refine rg_ ?_ | refine k_ ?_ | refine ct_ ?_ | refine cf_ ?_ | refine bk_ ?_ | refine sc_ ?_ | (refine sk_ ?_; first | (show aWp _ _ _ _ _) | skip) | (refine ex_ ?_; first | (show aWp _ _ _ _ _) | skip) | refine rt_ ?_)
  refine W_loopK [7] nx (fun r tm h q => kf < q ∧ tm 8 = .int .i64 0 ∧ h kf = some ⟨1, []⟩) 0 (by omega) ⟨by first | omega | (simp only; omega), by (have FX := Fx.mk (@hm1); exact cl_), by (have FX := Fx.mk (@hr1); exact cl_)⟩ ?_
  rintro r tm' h' k' ⟨hk2, h8, hmm⟩ hag hh hk'
  have hd : decide ((0 : Int) < (n : Int)) = false := decide_eq_false (by omega)
  rw [he]
  have FX := Fx.mk (And.intro @hag <| And.intro @h8 <| And.intro @hmm <| And.intro @hh <| @hd)
  repeat (first | refine v_ ?_ | refine u_ ?_ | refine nl_ ?_ | (refine nz_ ?_; first | (show aWp _ _ _ _ _) | skip) | refine sq_ ?_ | refine rg_ ?_ | refine k_ ?_ | refine ct_ ?_ | refine cf_ ?_ | refine bk_ ?_ | refine sc_ ?_ | (refine sk_ ?_; first | (show aWp _ _ _ _ _) | skip) | (refine ex_ ?_; first | (show aWp _ _ _ _ _) | skip) | refine rt_ ?_)
  (have FX := Fx.mk (And.intro @hag <| And.intro @hmm <| And.intro @hh <| @hn); exact end_ Tryd.results78)
theorem host_FlushZ (S : List (List Int)) (W : List Act3) (cap : Int) (hok : okH S W cap) : aFun Tryd.prog 44 [hostV S W cap] (.tup [.agg [.sl (secB (allH S W)), .zs, .int .i64 cap], .int .i64 0]) := by
  have hW : W.length ≤ 140737488355328 := by have := hok.2.2.2.1; omega
  have i2 := actsB_len W
  have rb : ∀ (m : Nat) (h : AHeap) (nx : Nat), h m = some ⟨1, [[.bool true]]⟩ → aEff Tryd.prog 78 [.hs m 0 1, .int .i64 (W.length : Int)] h nx (.sl (List.replicate W.length [.bool true])) h := fun m h nx hm => by
    by_cases h0 : W.length = 0
    · exact Repeat_bool0 W.length m h0 hm
    · exact Repeat_bool W.length m (by omega) hm
  have cr := host_CrashZ S W cap (List.replicate W.length true) hok
  rw [rep_bool, runH_all] at cr
  unfold hostV at cr ⊢
  refine aFun_bodyZ Tryd.func44 rfl rfl (by simp [Tryd.ntmps44]) fun hreal h nx hfresh => ?_
  rw [Tryd.ntmps44]
  have FX := Fx0
  repeat (first | refine v_ ?_ | refine u_ ?_ | refine nl_ ?_ | (refine nz_ ?_; first | (show aWp _ _ _ _ _) | skip) | refine sq_ ?_ | refine rg_ ?_ | refine k_ ?_ | refine ct_ ?_ | refine cf_ ?_ | refine bk_ ?_ | refine sc_ ?_ | (refine sk_ ?_; first | (show aWp _ _ _ _ _) | skip) | (refine ex_ ?_; first | (show aWp _ _ _ _ _) | skip) | refine rt_ ?_)
  have FX := Fx.mk (@i2)
  refine W_draw mixed rfl rfl ?_
  repeat (first | refine dq_ ?_ | (refine D_e [nx+1+1+(0+1)] (by exact cl_) (by simp only [WS]) (fun g q_ hg => by simp only [RdEq] at hg; exact (rb (nx + 1 + 1 + (0 + 1)) _ _) (by first | rfl | (simp (disch := first | rfl | decide | omega | assumption | (simp only [LL]; omega)) only [WS, NB, WY, FX.out, hg]; first | done | rfl))) ?_) | refine df_ (cr) ?_ | refine dr_ [nx, nx + 1] ?_ | refine dm_ [nx, nx + 1] ?_ | refine da_ [nx, nx + 1] ?_ | refine ds_ [nx, nx + 1] ?_ | refine dw_ [nx, nx + 1] ?_ | refine dk_ ?_ | refine dn_ ?_)
  refine fun kd hkd => ?_
  simp only [List.length_cons, List.length_nil] at hkd
  first | (show aWp _ _ _ _ _) | skip
  have FX := Fx0
  repeat (first | refine v_ ?_ | refine u_ ?_ | refine nl_ ?_ | (refine nz_ ?_; first | (show aWp _ _ _ _ _) | skip) | refine sq_ ?_ | refine rg_ ?_ | refine k_ ?_ | refine ct_ ?_ | refine cf_ ?_ | refine bk_ ?_ | refine sc_ ?_ | (refine sk_ ?_; first | (show aWp _ _ _ _ _) | skip) | (refine ex_ ?_; first | (show aWp _ _ _ _ _) | skip) | refine rt_ ?_)
  exact W_endZ Tryd.results44 (by omega) (by intro m hm; first | rfl | (simp (disch := first | assumption | omega) only [upd_ne]; first | done | rfl)) (by first | rfl | (simp (disch := first | rfl | decide | omega | assumption | (simp only [LL]; omega)) only [WS, NB, WY, RES]; first | done | rfl)) (by first | rfl | (simp (disch := first | rfl | decide | omega | assumption | (simp only [LL]; omega)) only [WS, NB, WY, FYZ]; first | done | rfl))
theorem host_Flush (S : List (List Int)) (W : List Act3) (cap : Int) (hW : W.length ≤ 140737488355328) : aFun Tryd.prog 44 [hostV S W cap] (if okH S W cap then .tup [hostV (allH S W) [] cap, .int .i64 0] else .tup [hostV [] [] 0, .int .i64 9]) := by
  have i2 := actsB_len W
  have rb : ∀ (m : Nat) (h : AHeap) (nx : Nat), h m = some ⟨1, [[.bool true]]⟩ → aEff Tryd.prog 78 [.hs m 0 1, .int .i64 (W.length : Int)] h nx (.sl (List.replicate W.length [.bool true])) h := fun m h nx hm => by
    by_cases h0 : W.length = 0
    · exact Repeat_bool0 W.length m h0 hm
    · exact Repeat_bool W.length m (by omega) hm
  have cr := host_Crash S W cap (List.replicate W.length true)
  rw [rep_bool, runH_all] at cr
  obtain ⟨A, Z, hz⟩ : ∃ (A : AV) (Z : Int), (if okH S W cap then AV.tup [hostV (allH S W) [] cap, .int .i64 0] else .tup [hostV [] [] 0, .int .i64 9]) = .tup [A, .int .i64 Z] ∧ ∃ X1 X2 X3, A = .agg [.sl X1, .sl X2, .int .i64 X3] := by
    by_cases hok : okH S W cap
    · rw [if_pos hok]; exact ⟨_, _, rfl, _, _, _, rfl⟩
    · rw [if_neg hok]; exact ⟨_, _, rfl, _, _, _, rfl⟩
  obtain ⟨hz, X1, X2, X3, rfl⟩ := hz
  rw [hz] at cr ⊢
  unfold hostV at cr ⊢
  refine aFun_body Tryd.func44 rfl rfl (by simp [Tryd.ntmps44]) fun hreal h nx hfresh => ?_
  rw [Tryd.ntmps44]
  have FX := Fx0
  repeat (first | refine v_ ?_ | refine u_ ?_ | refine nl_ ?_ | (refine nz_ ?_; first | (show aWp _ _ _ _ _) | skip) | refine sq_ ?_ | refine rg_ ?_ | refine k_ ?_ | refine ct_ ?_ | refine cf_ ?_ | refine bk_ ?_ | refine sc_ ?_ | (refine sk_ ?_; first | (show aWp _ _ _ _ _) | skip) | (refine ex_ ?_; first | (show aWp _ _ _ _ _) | skip) | refine rt_ ?_)
  have FX := Fx.mk (@i2)
  refine W_draw mixed rfl rfl ?_
  repeat (first | refine dq_ ?_ | (refine D_e [nx+1+1+(0+1)] (by exact cl_) (by simp only [WS]) (fun g q_ hg => by simp only [RdEq] at hg; exact (rb (nx + 1 + 1 + (0 + 1)) _ _) (by first | rfl | (simp (disch := first | rfl | decide | omega | assumption | (simp only [LL]; omega)) only [WS, NB, WY, FX.out, hg]; first | done | rfl))) ?_) | refine df_ (cr) ?_ | refine dr_ [nx, nx + 1] ?_ | refine dm_ [nx, nx + 1] ?_ | refine da_ [nx, nx + 1] ?_ | refine ds_ [nx, nx + 1] ?_ | refine dw_ [nx, nx + 1] ?_ | refine dk_ ?_ | refine dn_ ?_)
  refine fun kd hkd => ?_
  simp only [List.length_cons, List.length_nil] at hkd
  first | (show aWp _ _ _ _ _) | skip
  have FX := Fx0
  repeat (first | refine v_ ?_ | refine u_ ?_ | refine nl_ ?_ | (refine nz_ ?_; first | (show aWp _ _ _ _ _) | skip) | refine sq_ ?_ | refine rg_ ?_ | refine k_ ?_ | refine ct_ ?_ | refine cf_ ?_ | refine bk_ ?_ | refine sc_ ?_ | (refine sk_ ?_; first | (show aWp _ _ _ _ _) | skip) | (refine ex_ ?_; first | (show aWp _ _ _ _ _) | skip) | refine rt_ ?_)
  (have FX := Fx0; exact end_ Tryd.results44)
end Go.Proofs.YtjidgdfdeckofaaDoor.AE

/- Layer 16 in plain words: a pager, its calls. No program in sight. -/
namespace Go.Proofs.YtjidgdfdeckofaaDoor.AE
open Go Go.RowKit Go.Proofs Go.Proofs.YtjidgdfdeckofaaDoor
set_option linter.unusedVariables false
structure PgS where
  S : List (List Int)
  W : List Act3
  cap : Int
  sup : Sup
  pages : List (List Int)
  root : Int
  room : Int
  seq : Int
  tail : Int
namespace PgS
def zero : PgS := ⟨[], [], 0, Sup.zero, [], 0, 0, 0, 0⟩
/-- Its cells, the rows as they are. -/
def cells (s : PgS) (sv wv pv : AV) : List AV := [sv, wv, .int .i64 s.cap, .int .i64 s.sup.e, .int .i64 s.sup.v, .int .i64 s.sup.j, .int .i64 s.sup.p, .int .i64 s.sup.d, .int .i64 s.sup.s, .int .i64 s.sup.r, pv, .int .i64 s.root, .int .i64 s.room, .int .i64 s.seq, .int .i64 s.tail]
def av (s : PgS) : AV := .agg (s.cells (.sl (secB s.S)) (.sl (actsB s.W)) (.sl (secB s.pages)))
theorem av_eq (s : PgS) : s.av = .agg [.sl (secB s.S), .sl (actsB s.W), .int .i64 s.cap, .int .i64 s.sup.e, .int .i64 s.sup.v, .int .i64 s.sup.j, .int .i64 s.sup.p, .int .i64 s.sup.d, .int .i64 s.sup.s, .int .i64 s.sup.r, .sl (secB s.pages), .int .i64 s.root, .int .i64 s.room, .int .i64 s.seq, .int .i64 s.tail] := rfl
/-- So many sectors has its host. -/
def size (s : PgS) : Int := sizeH (s.S.length : Int) s.W
def okHost (s : PgS) : Prop := okH s.S s.W s.cap
def pagesOk (l : List (List Int)) : Prop := ∀ b ∈ l, b.length = 0 ∨ b.length = 64
end PgS
open PgS
/-- Where the data begin. -/
def Sup.base (s : Sup) : Int := 2 + s.j + s.p
/-- P16.1: may a pager be? -/
def PgS.ok (s : PgS) : Prop := okH s.S s.W s.cap ∧ s.sup.ok ∧ PgS.pagesOk s.pages ∧ (s.pages.length : Int) ≤ s.sup.p ∧ (0 ≤ s.root ∧ s.root ≤ s.sup.p) ∧ (0 ≤ s.room ∧ s.room ≤ 65536) ∧ (s.sup.s ≤ s.seq ∧ s.seq ≤ 1099511627776) ∧ (0 ≤ s.tail ∧ s.tail ≤ s.sup.j) ∧ s.sup.base + s.room ≤ s.size
open Classical in
noncomputable def PgS.chk (s : PgS) : Int := if s.ok then 0 else 9
theorem PgS.chk_ok {s : PgS} (h : s.ok) : s.chk = 0 := if_pos h
theorem PgS.chk_bad {s : PgS} (h : ¬ s.ok) : s.chk = 9 := if_neg h
/-! ### acts -/
/-- Acts that a pager does. -/
def goodA (a : Act3) : Prop := a.1 = 1 ∨ ((a.1 = 2 ∨ a.1 = 3) ∧ a.2.2 = [])
def waitP (s : PgS) (a : Act3) : Except Int PgS :=
  if s.W.length = 4096 then .error 51 else if a.2.1 < 0 ∨ (a.1 = 1 ∧ s.size ≤ a.2.1) then .error 4 else if a.1 = 1 ∧ a.2.2.length ≠ 64 then .error 1 else if a.1 = 2 ∧ s.cap < a.2.1 then .error 51 else .ok { s with W := s.W ++ [a] }
def flushP (s : PgS) : PgS := { s with S := allH s.S s.W, W := [] }
def do1 (s : PgS) (L : List Act3) (a : Act3) : Except Int (PgS × List Act3) :=
  if a.1 = 3 then .ok (flushP s, L ++ [a]) else match waitP s a with
  | .error e => .error e
  | .ok s' => .ok (s', L ++ [a])
def doP (s : PgS) (L : List Act3) : List Act3 → Except Int (PgS × List Act3)
  | [] => .ok (s, L)
  | a :: l => match do1 s L a with
    | .error e => .error e
    | .ok (s', L') => doP s' L' l
theorem doP_cons_ok {s s' : PgS} {L L' : List Act3} {a : Act3} {l : List Act3} (h : do1 s L a = .ok (s', L')) : doP s L (a :: l) = doP s' L' l := by rw [doP, h]
theorem doP_cons_err {s : PgS} {L : List Act3} {a : Act3} {l : List Act3} {e : Int} (h : do1 s L a = .error e) : doP s L (a :: l) = .error e := by rw [doP, h]
theorem doP_append : ∀ (l m : List Act3) (s : PgS) (L : List Act3), doP s L (l ++ m) = match doP s L l with | .error e => .error e | .ok (s', L') => doP s' L' m
  | [], m, s, L => rfl
  | a :: l, m, s, L => by
    rw [List.cons_append]
    cases h : do1 s L a with
    | error e => rw [doP_cons_err h, doP_cons_err h]
    | ok p => obtain ⟨s', L'⟩ := p; rw [doP_cons_ok h, doP_cons_ok h, doP_append l m s' L']
theorem size_flush {s : PgS} (h : s.okHost) : (flushP s).size = s.size := by
  obtain ⟨_, _, _, _, h5⟩ := h
  show sizeH ((allH s.S s.W).length : Int) [] = _
  exact (size_all s.S s.W h5).symm
theorem flush_host {s : PgS} (h : s.okHost) : (flushP s).okHost := ok_all h
theorem waitP_ok {s s' : PgS} {a : Act3} (h : waitP s a = .ok s') : s' = { s with W := s.W ++ [a] } ∧ s.W.length ≠ 4096 ∧ 0 ≤ a.2.1 ∧ (a.1 = 1 → a.2.1 < s.size ∧ a.2.2.length = 64) ∧ (a.1 = 2 → a.2.1 ≤ s.cap) := by
  unfold waitP at h
  split at h
  · cases h
  split at h
  · cases h
  split at h
  · cases h
  split at h
  · cases h
  cases h
  refine ⟨rfl, by assumption, by omega, by omega, by omega⟩
theorem size_cap {s : PgS} (h : s.okHost) : s.size ≤ s.cap := by
  obtain ⟨_, h2, h3, _, h5⟩ := h
  rw [show s.size = ((allH s.S s.W).length : Int) from size_all s.S s.W h5]
  exact (allH_ok h2 h3 h5).1
theorem wait_host {s s' : PgS} {a : Act3} (h : s.okHost) (hg : goodA a) (h3 : a.1 ≠ 3) (hw : waitP s a = .ok s') : s'.okHost := by
  obtain ⟨rfl, h1, h2, h4, h5⟩ := waitP_ok hw
  have hc := size_cap h
  refine ok_snoc h ?_ (by have := h.2.2.2.1; omega)
  unfold mayP
  rcases hg with g | ⟨g | g, g2⟩
  · have := h4 g; left; exact ⟨g, h2, by omega, this.2⟩
  · have := h5 g; right; exact ⟨g, h2, this, by rw [g2]; rfl⟩
  · exact absurd g h3
theorem do1_host {s s' : PgS} {L L' : List Act3} {a : Act3} (h : s.okHost) (hg : goodA a) (hd : do1 s L a = .ok (s', L')) : s'.okHost := by
  unfold do1 at hd
  split at hd
  · cases hd; exact flush_host h
  · split at hd
    · cases hd
    · rename_i hw
      cases hd
      exact wait_host h hg (by assumption) hw
theorem doP_host : ∀ (l : List Act3) {s s' : PgS} {L L' : List Act3}, s.okHost → (∀ a ∈ l, goodA a) → doP s L l = .ok (s', L') → s'.okHost
  | [], s, s', L, L', h, _, hd => by cases hd; exact h
  | a :: l, s, s', L, L', h, hg, hd => by
    cases h1 : do1 s L a with
    | error e => rw [doP_cons_err h1] at hd; cases hd
    | ok p =>
      obtain ⟨s1, L1⟩ := p
      rw [doP_cons_ok h1] at hd
      exact doP_host l (do1_host h (hg a (by simp)) h1) (fun b hb => hg b (by simp [hb])) hd
/-- All but the host stays. -/
def sameBut (s t : PgS) : Prop := t.cap = s.cap ∧ t.sup = s.sup ∧ t.pages = s.pages ∧ t.root = s.root ∧ t.room = s.room ∧ t.seq = s.seq ∧ t.tail = s.tail
theorem do1_same {s s' : PgS} {L L' : List Act3} {a : Act3} (hd : do1 s L a = .ok (s', L')) : sameBut s s' ∧ L' = L ++ [a] := by
  unfold do1 at hd
  split at hd
  · cases hd; exact ⟨⟨rfl, rfl, rfl, rfl, rfl, rfl, rfl⟩, rfl⟩
  · split at hd
    · cases hd
    · rename_i hw
      cases hd
      rw [(waitP_ok hw).1]
      exact ⟨⟨rfl, rfl, rfl, rfl, rfl, rfl, rfl⟩, rfl⟩
theorem sameBut.trans {s t u : PgS} (h : sameBut s t) (k : sameBut t u) : sameBut s u :=
  ⟨k.1.trans h.1, k.2.1.trans h.2.1, k.2.2.1.trans h.2.2.1, k.2.2.2.1.trans h.2.2.2.1, k.2.2.2.2.1.trans h.2.2.2.2.1, k.2.2.2.2.2.1.trans h.2.2.2.2.2.1, k.2.2.2.2.2.2.trans h.2.2.2.2.2.2⟩
theorem doP_same : ∀ (l : List Act3) {s s' : PgS} {L L' : List Act3}, doP s L l = .ok (s', L') → sameBut s s' ∧ L' = L ++ l
  | [], s, s', L, L', hd => by cases hd; exact ⟨⟨rfl, rfl, rfl, rfl, rfl, rfl, rfl⟩, by simp⟩
  | a :: l, s, s', L, L', hd => by
    cases h1 : do1 s L a with
    | error e => rw [doP_cons_err h1] at hd; cases hd
    | ok p =>
      obtain ⟨s1, L1⟩ := p
      rw [doP_cons_ok h1] at hd
      obtain ⟨g1, rfl⟩ := do1_same h1
      obtain ⟨g2, rfl⟩ := doP_same l hd
      exact ⟨g1.trans g2, by simp⟩
/-! ### pages -/
def pageP (l : List (List Int)) (i : Nat) : List Int := l.getD i []
def changedP (old now : List (List Int)) : List Pg := (List.range (max old.length now.length)).filterMap fun i => if pageP old i = pageP now i then none else some ((i : Int) + 1, pageP now i)
/-- Octets that are all zeros are none. -/
def nullP (b : List Int) : List Int := if trimZ b = [] then [] else b
/-- Without empty ones at the end. -/
def dropE (l : List (List Int)) : List (List Int) := (l.reverse.dropWhile (fun b => b.length == 0)).reverse
def wholeP (l : List (List Int)) : List (List Int) := dropE (l.map nullP)
def chunk64 (b : List Int) (i : Nat) : List Int := (b.drop (64 * i)).take 64
def layA (at_ : Int) (b : List Int) : List Act3 := (List.range ((b.length + 63) / 64)).map fun i : Nat => ((1 : Int), at_ + (i : Int), chunk64 b i)
def barA : Act3 := (3, 0, [])
def pad64 (b : List Int) : List Int := b ++ List.replicate (64 - b.length) 0
def ckA (s : PgS) : List Act3 := (List.range s.sup.p.toNat).map (fun i : Nat => ((1 : Int), 2 + s.sup.j + (i : Int), pad64 (pageP s.pages i))) ++ [barA]
def nextS (s : PgS) : Sup := { s.sup with e := s.sup.e + 1, s := s.seq, r := s.root, d := s.room }
def ckB (s : PgS) : List Act3 := [(1, (nextS s).e.tmod 2, (nextS s).sector), barA]
open Classical in
noncomputable def ckP (s : PgS) (L : List Act3) : Except Int (PgS × List Act3) := match doP s L (ckA s) with
  | .error e => .error e
  | .ok (s1, L1) => if (nextS s).ok then match doP s1 L1 (ckB s) with
      | .error e => .error e
      | .ok (s2, L2) => .ok ({ s2 with sup := nextS s, tail := 0 }, L2)
    else .error 4
end Go.Proofs.YtjidgdfdeckofaaDoor.AE

/- Layer 16: base, page, must, oddPages, octets. -/
namespace Go.Proofs.YtjidgdfdeckofaaDoor.AE
open Go Go.RowKit Go.Proofs Go.Proofs.YtjidgdfdeckofaaDoor
set_option linter.unusedVariables false
set_option linter.unusedSimpArgs false
set_option maxRecDepth 100000
set_option maxHeartbeats 8000000
def Sup.placesP (s : Sup) : AV := .tup [.int .i64 2, .int .i64 (2 + s.j), .int .i64 s.base, .int .i64 (s.base + s.d)]
theorem super_PlacesP (s : Sup) (h : s.ok) : aFun Tryd.prog 15 [s.av] s.placesP := by
  have := super_Places s
  unfold Sup.places w64 at this
  obtain ⟨_, _, h3, h4, h5, _, _⟩ := s.ok_iff.1 h
  rw [show IntKind.i64.wrap (2 + s.j) = 2 + s.j by rw [wrapI] <;> omega, show IntKind.i64.wrap (2 + s.j + s.p) = s.base by unfold Sup.base; rw [wrapI] <;> omega, show IntKind.i64.wrap (s.base + s.d) = s.base + s.d by unfold Sup.base; rw [wrapI] <;> omega] at this
  exact this
theorem pager_base (s : Sup) (h : s.ok) : aFun Tryd.prog 28 [s.av] (.int .i64 s.base) := by
  have pl := super_PlacesP s h
  unfold Sup.av Sup.cells Sup.placesP at *
  refine aFun_body Tryd.func28 rfl rfl (by simp [Tryd.ntmps28]) fun hreal h nx hfresh => ?_
  rw [Tryd.ntmps28]
  have FX := Fx0
  repeat (first | refine v_ ?_ | refine u_ ?_ | refine f_ (pl) fun kf hkf => ?_ | refine nl_ ?_ | (refine nz_ ?_; first | (show aWp _ _ _ _ _) | skip) | refine sq_ ?_ | refine rg_ ?_ | refine k_ ?_ | refine ct_ ?_ | refine cf_ ?_ | refine bk_ ?_ | refine sc_ ?_ | (refine sk_ ?_; first | (show aWp _ _ _ _ _) | skip) | (refine ex_ ?_; first | (show aWp _ _ _ _ _) | skip) | refine rt_ ?_)
  (have FX := Fx0; exact end_ Tryd.results28)
theorem pageP_in {l : List (List Int)} {i : Nat} {b : List Int} (h : l[i]? = some b) : pageP l i = b := by unfold pageP; rw [List.getD_eq_getElem?_getD, h]; rfl
theorem pageP_out {l : List (List Int)} {i : Nat} (h : l.length ≤ i) : pageP l i = [] := by unfold pageP; rw [List.getD_eq_getElem?_getD, List.getElem?_eq_none h]; rfl
theorem pager_page (l : List (List Int)) (i : Nat) (hl : l.length < 4611686018427387904) : aFun Tryd.prog 57 [.sl (secB l), .int .i64 (i : Int)] (.sl (numB .u8 (pageP l i))) := by
  have e1 := secB_len l
  by_cases hi : i < l.length
  · have d1 : decide ((i : Int) < (l.length : Int)) = true := decide_eq_true (by omega)
    obtain ⟨b, hb⟩ : ∃ b, l[i]? = some b := ⟨_, List.getElem?_eq_getElem hi⟩
    have hx := secB_get l i b hb
    rw [pageP_in hb]
    by_cases h0 : b.length = 0
    · obtain rfl : b = [] := List.eq_nil_of_length_eq_zero h0
      refine aFun_body Tryd.func57 rfl rfl (by simp [Tryd.ntmps57]) fun hreal h nx hfresh => ?_
      rw [Tryd.ntmps57]
      have FX := Fx.mk (And.intro @e1 <| And.intro @d1 <| @hx)
      repeat (first | refine v_ ?_ | refine u_ ?_ | refine nl_ ?_ | (refine nz_ ?_; first | (show aWp _ _ _ _ _) | skip) | refine sq_ ?_ | refine rg_ ?_ | refine k_ ?_ | refine ct_ ?_ | refine cf_ ?_ | refine bk_ ?_ | refine sc_ ?_ | (refine sk_ ?_; first | (show aWp _ _ _ _ _) | skip) | (refine ex_ ?_; first | (show aWp _ _ _ _ _) | skip) | refine rt_ ?_)
      (have FX := Fx0; exact end_ Tryd.results57)
    · have d2 : decide (0 < (b.length : Int)) = true := decide_eq_true (by omega)
      refine aFun_body Tryd.func57 rfl rfl (by simp [Tryd.ntmps57]) fun hreal h nx hfresh => ?_
      rw [Tryd.ntmps57]
      have FX := Fx.mk (And.intro @e1 <| And.intro @d1 <| And.intro @hx <| @d2)
      repeat (first | refine v_ ?_ | refine u_ ?_ | refine nl_ ?_ | (refine nz_ ?_; first | (show aWp _ _ _ _ _) | skip) | refine sq_ ?_ | refine rg_ ?_ | refine k_ ?_ | refine ct_ ?_ | refine cf_ ?_ | refine bk_ ?_ | refine sc_ ?_ | (refine sk_ ?_; first | (show aWp _ _ _ _ _) | skip) | (refine ex_ ?_; first | (show aWp _ _ _ _ _) | skip) | refine rt_ ?_)
      (have FX := Fx0; exact end_ Tryd.results57)
  · have d1 : decide ((i : Int) < (l.length : Int)) = false := decide_eq_false (by omega)
    rw [pageP_out (by omega)]
    refine aFun_body Tryd.func57 rfl rfl (by simp [Tryd.ntmps57]) fun hreal h nx hfresh => ?_
    rw [Tryd.ntmps57]
    have FX := Fx.mk (And.intro @e1 <| @d1)
    repeat (first | refine v_ ?_ | refine u_ ?_ | refine nl_ ?_ | (refine nz_ ?_; first | (show aWp _ _ _ _ _) | skip) | refine sq_ ?_ | refine rg_ ?_ | refine k_ ?_ | refine ct_ ?_ | refine cf_ ?_ | refine bk_ ?_ | refine sc_ ?_ | (refine sk_ ?_; first | (show aWp _ _ _ _ _) | skip) | (refine ex_ ?_; first | (show aWp _ _ _ _ _) | skip) | refine rt_ ?_)
    (have FX := Fx0; exact end_ Tryd.results57)
theorem must_ok : aFun Tryd.prog 14 [.int .i64 0] (.tup []) := by
  refine aFun_body Tryd.func14 rfl rfl (by simp [Tryd.ntmps14]) fun hreal h nx hfresh => ?_
  rw [Tryd.ntmps14]
  have FX := Fx0
  repeat (first | refine v_ ?_ | refine u_ ?_ | refine nl_ ?_ | (refine nz_ ?_; first | (show aWp _ _ _ _ _) | skip) | refine sq_ ?_ | refine rg_ ?_ | refine k_ ?_ | refine ct_ ?_ | refine cf_ ?_ | refine bk_ ?_ | refine sc_ ?_ | (refine sk_ ?_; first | (show aWp _ _ _ _ _) | skip) | (refine ex_ ?_; first | (show aWp _ _ _ _ _) | skip) | refine rt_ ?_)
  (have FX := Fx0; exact end_ Tryd.results14)
theorem odd1 (b : List Int) : aFun Tryd.prog 50 [.sl (numB .u8 b)] (.bool (decide (b.length ≠ 0 ∧ b.length ≠ 64))) := by
  by_cases h0 : b.length = 0
  · rw [decide_eq_false (by omega)]
    have d1 : decide (0 < (b.length : Int)) = false := decide_eq_false (by omega)
    refine aFun_body Tryd.func50 rfl rfl (by simp [Tryd.ntmps50]) fun hreal h nx hfresh => ?_
    rw [Tryd.ntmps50]
    have FX := Fx.mk (@d1)
    repeat (first | refine v_ ?_ | refine u_ ?_ | refine nl_ ?_ | (refine nz_ ?_; first | (show aWp _ _ _ _ _) | skip) | refine sq_ ?_ | refine rg_ ?_ | refine k_ ?_ | refine ct_ ?_ | refine cf_ ?_ | refine bk_ ?_ | refine sc_ ?_ | (refine sk_ ?_; first | (show aWp _ _ _ _ _) | skip) | (refine ex_ ?_; first | (show aWp _ _ _ _ _) | skip) | refine rt_ ?_)
    (have FX := Fx0; exact end_ Tryd.results50)
  · have d1 : decide (0 < (b.length : Int)) = true := decide_eq_true (by omega)
    by_cases h1 : b.length = 64
    · rw [decide_eq_false (by omega)]
      have d2 : decide ((b.length : Int) = 64) = true := decide_eq_true (by omega)
      refine aFun_body Tryd.func50 rfl rfl (by simp [Tryd.ntmps50]) fun hreal h nx hfresh => ?_
      rw [Tryd.ntmps50]
      have FX := Fx.mk (And.intro @d1 <| And.intro @d2 <| @Bool.not_true)
      repeat (first | refine v_ ?_ | refine u_ ?_ | refine nl_ ?_ | (refine nz_ ?_; first | (show aWp _ _ _ _ _) | skip) | refine sq_ ?_ | refine rg_ ?_ | refine k_ ?_ | refine ct_ ?_ | refine cf_ ?_ | refine bk_ ?_ | refine sc_ ?_ | (refine sk_ ?_; first | (show aWp _ _ _ _ _) | skip) | (refine ex_ ?_; first | (show aWp _ _ _ _ _) | skip) | refine rt_ ?_)
      (have FX := Fx0; exact end_ Tryd.results50)
    · rw [decide_eq_true (by omega)]
      have d2 : decide ((b.length : Int) = 64) = false := decide_eq_false (by omega)
      refine aFun_body Tryd.func50 rfl rfl (by simp [Tryd.ntmps50]) fun hreal h nx hfresh => ?_
      rw [Tryd.ntmps50]
      have FX := Fx.mk (And.intro @d1 <| And.intro @d2 <| @Bool.not_false)
      repeat (first | refine v_ ?_ | refine u_ ?_ | refine nl_ ?_ | (refine nz_ ?_; first | (show aWp _ _ _ _ _) | skip) | refine sq_ ?_ | refine rg_ ?_ | refine k_ ?_ | refine ct_ ?_ | refine cf_ ?_ | refine bk_ ?_ | refine sc_ ?_ | (refine sk_ ?_; first | (show aWp _ _ _ _ _) | skip) | (refine ex_ ?_; first | (show aWp _ _ _ _ _) | skip) | refine rt_ ?_)
      (have FX := Fx0; exact end_ Tryd.results50)
theorem odd_any (l : List (List Int)) : l.any (fun b => decide (b.length ≠ 0 ∧ b.length ≠ 64)) = true ↔ ¬ PgS.pagesOk l := by
  unfold PgS.pagesOk
  simp only [List.any_eq_true, decide_eq_true_eq, Classical.not_forall]
  constructor
  · rintro ⟨b, h1, h2⟩; exact ⟨b, h1, by omega⟩
  · rintro ⟨b, h1, h2⟩; exact ⟨b, h1, by omega⟩
open Classical in
theorem pager_odd (l : List (List Int)) : aFun Tryd.prog 27 [.sl (secB l)] (.bool (decide (¬ PgS.pagesOk l))) := by
  have hc : ∀ (g : AHeap) (k : Nat), aEff Tryd.prog 21 [.sl (secB l), .fn (.func 50) [] []] g k (.bool (decide (¬ PgS.pagesOk l))) g := fun g k => by
    have := Contains_sec l 50 [] (fun b => decide (b.length ≠ 0 ∧ b.length ≠ 64)) (by simp only [WS]) (h := g) (nx := k) (fun g' k' hk' hg' a ha => odd1 a g' k')
    rw [show l.any (fun b => decide (b.length ≠ 0 ∧ b.length ≠ 64)) = decide (¬ PgS.pagesOk l) by
      have := odd_any l
      by_cases h : ¬ PgS.pagesOk l
      · rw [decide_eq_true h, this.2 h]
      · rw [decide_eq_false h]; exact Bool.eq_false_iff.2 fun q => h (this.1 q)] at this
    exact this
  refine aFun_body Tryd.func27 rfl rfl (by simp [Tryd.ntmps27]) fun hreal h nx hfresh => ?_
  rw [Tryd.ntmps27]
  have FX := Fx0
  repeat (first | refine v_ ?_ | refine u_ ?_ | refine e_ ((hc _ _)) fun kf hkf => ?_ | refine nl_ ?_ | (refine nz_ ?_; first | (show aWp _ _ _ _ _) | skip) | refine sq_ ?_ | refine rg_ ?_ | refine k_ ?_ | refine ct_ ?_ | refine cf_ ?_ | refine bk_ ?_ | refine sc_ ?_ | (refine sk_ ?_; first | (show aWp _ _ _ _ _) | skip) | (refine ex_ ?_; first | (show aWp _ _ _ _ _) | skip) | refine rt_ ?_)
  (have FX := Fx0; exact end_ Tryd.results27)
end Go.Proofs.YtjidgdfdeckofaaDoor.AE
