/- Layer 1's page: Put, Get. -/
import Derived.Test.YteklnhogokjkkaaC2
namespace Go.Proofs.Yteklnhogokjkkaa.AE
open Go Go.RowKit Go.Proofs Go.Proofs.Yteklnhogokjkkaa
set_option linter.unusedVariables false
set_option linter.unusedSimpArgs false
set_option maxRecDepth 100000
set_option maxHeartbeats 4000000
theorem ref01_Put (n size : Int) : aFun Try.prog 42 [.int .u64 n, .int .i64 size] (.tup [.sl (numB .u8 (Pl.putS n size).1), .int .i64 (Pl.putS n size).2]) := by
  by_cases h1 : size < 1
  · rw [show Pl.putS n size = ([], 1) from if_pos (.inl h1)]
    refine aFun_body Try.func42 rfl rfl (by simp [Try.ntmps42]) fun hreal h nx hfresh => ?_
    rw [Try.ntmps42]
    have hd : decide (size < 1) = true := decide_eq_true h1
    have FX := Fx.mk (@hd)
    repeat (first | refine v_ ?_ | refine u_ ?_ | refine nl_ ?_ | (refine nz_ ?_; first | (show aWp _ _ _ _ _) | skip) | refine sq_ ?_ | refine rg_ ?_ | refine k_ ?_ | refine ct_ ?_ | refine cf_ ?_ | refine bk_ ?_ | refine sc_ ?_ | (refine sk_ ?_; first | (show aWp _ _ _ _ _) | skip) | (refine ex_ ?_; first | (show aWp _ _ _ _ _) | skip) | refine rt_ ?_)
    (have FX := Fx0; exact end_ Try.results42)
  have hd : decide (size < 1) = false := decide_eq_false h1
  by_cases h2 : 8 < size
  · rw [show Pl.putS n size = ([], 1) from if_pos (.inr h2)]
    refine aFun_body Try.func42 rfl rfl (by simp [Try.ntmps42]) fun hreal h nx hfresh => ?_
    rw [Try.ntmps42]
    have hd2 : decide (8 < size) = true := decide_eq_true h2
    have FX := Fx.mk (And.intro @hd <| @hd2)
    repeat (first | refine v_ ?_ | refine u_ ?_ | refine nl_ ?_ | (refine nz_ ?_; first | (show aWp _ _ _ _ _) | skip) | refine sq_ ?_ | refine rg_ ?_ | refine k_ ?_ | refine ct_ ?_ | refine cf_ ?_ | refine bk_ ?_ | refine sc_ ?_ | (refine sk_ ?_; first | (show aWp _ _ _ _ _) | skip) | (refine ex_ ?_; first | (show aWp _ _ _ _ _) | skip) | refine rt_ ?_)
    (have FX := Fx0; exact end_ Try.results42)
  obtain ⟨k, rfl⟩ : ∃ k : Nat, size = (k : Int) := ⟨size.toNat, by omega⟩
  have hk : 1 ≤ k ∧ k ≤ 8 := by omega
  have hd2 : decide (8 < (k : Int)) = false := decide_eq_false h2
  refine aFun_body Try.func42 rfl rfl (by simp [Try.ntmps42]) fun hreal h nx hfresh => ?_
  rw [Try.ntmps42]
  have hn := inU64 ((hreal (.int .u64 n) (by simp)).int)
  have hpos : ∀ i : Nat, (0 : Int) < 256 ^ i := fun i => Int.pow_pos (by decide)
  have FX := Fx.mk (And.intro @hd <| @hd2)
  repeat (first | refine v_ ?_ | refine u_ ?_ | refine nl_ ?_ | (refine nz_ ?_; first | (show aWp _ _ _ _ _) | skip) | refine sq_ ?_ | refine rg_ ?_ | refine k_ ?_ | refine ct_ ?_ | refine cf_ ?_ | refine bk_ ?_ | refine sc_ ?_ | (refine sk_ ?_; first | (show aWp _ _ _ _ _) | skip) | (refine ex_ ?_; first | (show aWp _ _ _ _ _) | skip) | refine rt_ ?_)
  refine W_loopK [1, 5] nx (fun r tm h q => ∃ i : Nat, i ≤ k ∧ r = k - i ∧ tm 7 = .int .i64 i ∧ tm 0 = .int .u64 (n / 256 ^ i) ∧ ((tm 6 = .zs ∧ i = 0) ∨ ∃ m, tm 6 = .hs m 0 i ∧ nx ≤ m ∧ m < q ∧ h m = some ⟨1, numB .u8 (Pl.putI i n)⟩)) k (by omega) ⟨0, Nat.zero_le _, rfl, rfl, by (have FX := Fx.mk (And.intro @Int.pow_zero <| @Int.ediv_one); exact cl_), .inl ⟨rfl, rfl⟩⟩ ?_
  rintro r tm' h' k' ⟨i, hi, rfl, h7, h0, h6⟩ hag hh hk'
  by_cases hlt : i < k
  · have hd : decide ((i : Int) < (k : Int)) = true := decide_eq_true (by omega)
    have hw : IntKind.i64.wrap (i + 1) = ((i + 1 : Nat) : Int) := by rw [wrapI] <;> omega
    have q0 : 0 ≤ n / 256 ^ i ∧ n / 256 ^ i ≤ n := ⟨Int.ediv_nonneg hn.1 (Int.le_of_lt (hpos i)), Int.ediv_le_self _ hn.1⟩
    have hr : (n / 256 ^ i).tmod 256 = n / 256 ^ i % 256 := Int.tmod_eq_emod_of_nonneg q0.1
    have hq : (n / 256 ^ i).tdiv 256 = n / 256 ^ (i + 1) := by rw [Int.tdiv_eq_ediv_of_nonneg q0.1, Int.pow_succ, Int.ediv_ediv_of_nonneg (Int.le_of_lt (hpos i))]
    have q1 : 0 ≤ n / 256 ^ (i + 1) ∧ n / 256 ^ (i + 1) ≤ n := ⟨Int.ediv_nonneg hn.1 (Int.le_of_lt (hpos _)), Int.ediv_le_self _ hn.1⟩
    have hwq : IntKind.u64.wrap (n / 256 ^ (i + 1)) = n / 256 ^ (i + 1) := by rw [wrapU] <;> omega
    have hwb : n / 256 ^ i % 256 % 256 = n / 256 ^ i % 256 := Int.emod_emod _ _
    have hsn := Pl.putI_snoc i n hn.1
    rcases h6 with ⟨h6, rfl⟩ | ⟨m, h6, hm1, hm2, hm3⟩
    · have hsn0 : Pl.putI (0 + 1) n = [n / 256 ^ 0 % 256] := hsn
      have FX := Fx.mk (And.intro @hag <| And.intro @h7 <| And.intro @h0 <| And.intro @h6 <| And.intro @hh <| And.intro @hd <| And.intro @hw <| And.intro @hr <| And.intro @hq <| And.intro @hwq <| And.intro @wrapB_mod <| @hwb)
      repeat (first | refine v_ ?_ | refine u_ ?_ | refine nl_ ?_ | (refine nz_ ?_; first | (show aWp _ _ _ _ _) | skip) | refine sq_ ?_ | refine rg_ ?_ | refine k_ ?_ | refine ct_ ?_ | refine cf_ ?_ | refine bk_ ?_ | refine sc_ ?_ | (refine sk_ ?_; first | (show aWp _ _ _ _ _) | skip) | (refine ex_ ?_; first | (show aWp _ _ _ _ _) | skip) | refine rt_ ?_)
      refine ⟨k - (0 + 1), by omega, ⟨0 + 1, by omega, rfl, ?_, ?_, .inr ⟨k' + 1, ?_, by omega, by simp only; omega, ?_⟩⟩, ?_, ?_, by simp only; omega, rfl⟩
      · (have FX := Fx0; exact cl_)
      · (have FX := Fx0; exact cl_)
      · (have FX := Fx0; exact cl_)
      · (have FX := Fx.mk (@hsn0); exact cl_)
      · repeat (refine KAgree.upd rfl ?_)
        first | exact KAgree.refl _ _ | exact hag
      · exact (by have FX := Fx.mk (@hh); exact ha_)
    · have FX := Fx.mk (And.intro @hag <| And.intro @h7 <| And.intro @h0 <| And.intro @h6 <| And.intro @hm3 <| And.intro @hh <| And.intro @hd <| And.intro @hw <| And.intro @hr <| And.intro @hq <| And.intro @hwq <| And.intro @wrapB_mod <| And.intro @hwb <| And.intro @Pl.putI_length <| @putI_take)
      repeat (first | refine v_ ?_ | refine u_ ?_ | refine nl_ ?_ | (refine nz_ ?_; first | (show aWp _ _ _ _ _) | skip) | refine sq_ ?_ | refine rg_ ?_ | refine k_ ?_ | refine ct_ ?_ | refine cf_ ?_ | refine bk_ ?_ | refine sc_ ?_ | (refine sk_ ?_; first | (show aWp _ _ _ _ _) | skip) | (refine ex_ ?_; first | (show aWp _ _ _ _ _) | skip) | refine rt_ ?_)
      refine ⟨k - (i + 1), by omega, ⟨i + 1, by omega, rfl, ?_, ?_, .inr ⟨k' + 1, ?_, by omega, by simp only; omega, ?_⟩⟩, ?_, ?_, by simp only; omega, rfl⟩
      · (have FX := Fx0; exact cl_)
      · (have FX := Fx0; exact cl_)
      · (have FX := Fx0; exact cl_)
      · (have FX := Fx.mk (@hsn); exact cl_)
      · repeat (refine KAgree.upd rfl ?_)
        first | exact KAgree.refl _ _ | exact hag
      · exact (by have FX := Fx.mk (@hh); exact ha_)
  · obtain rfl : i = k := by omega
    have hd : decide ((i : Int) < (i : Int)) = false := by simp
    rcases h6 with ⟨h6, rfl⟩ | ⟨m, h6, hm1, hm2, hm3⟩
    · omega
    by_cases h3 : 256 ^ i ≤ n
    · rw [show Pl.putS n i = ([], 4) by unfold Pl.putS; rw [if_neg (by omega), if_pos (by simpa using h3)]]
      have hd3 : decide (0 < n / 256 ^ i) = true := decide_eq_true (by
        have h6 : 1 ≤ n / 256 ^ i := (Int.le_ediv_iff_mul_le (hpos i)).2 (by omega)
        omega)
      have FX := Fx.mk (And.intro @hag <| And.intro @h7 <| And.intro @h0 <| And.intro @h6 <| And.intro @hm3 <| And.intro @hh <| And.intro @hd <| @hd3)
      repeat (first | refine v_ ?_ | refine u_ ?_ | refine nl_ ?_ | (refine nz_ ?_; first | (show aWp _ _ _ _ _) | skip) | refine sq_ ?_ | refine rg_ ?_ | refine k_ ?_ | refine ct_ ?_ | refine cf_ ?_ | refine bk_ ?_ | refine sc_ ?_ | (refine sk_ ?_; first | (show aWp _ _ _ _ _) | skip) | (refine ex_ ?_; first | (show aWp _ _ _ _ _) | skip) | refine rt_ ?_)
      (have FX := Fx.mk (And.intro @hag <| @hh); exact end_ Try.results42)
    · rw [show Pl.putS n i = (Pl.putI i n, 0) by unfold Pl.putS; rw [if_neg (by omega), if_neg (by simpa using h3)]; simp]
      have hd3 : decide (0 < n / 256 ^ i) = false := decide_eq_false (by rw [Int.ediv_eq_zero_of_lt (by omega) (by omega)]; omega)
      have FX := Fx.mk (And.intro @hag <| And.intro @h7 <| And.intro @h0 <| And.intro @h6 <| And.intro @hm3 <| And.intro @hh <| And.intro @hd <| @hd3)
      repeat (first | refine v_ ?_ | refine u_ ?_ | refine nl_ ?_ | (refine nz_ ?_; first | (show aWp _ _ _ _ _) | skip) | refine sq_ ?_ | refine rg_ ?_ | refine k_ ?_ | refine ct_ ?_ | refine cf_ ?_ | refine bk_ ?_ | refine sc_ ?_ | (refine sk_ ?_; first | (show aWp _ _ _ _ _) | skip) | (refine ex_ ?_; first | (show aWp _ _ _ _ _) | skip) | refine rt_ ?_)
      (have FX := Fx.mk (And.intro @hag <| And.intro @h6 <| And.intro @hm3 <| And.intro @hh <| And.intro @Pl.putI_length <| @putI_take); exact end_ Try.results42)
end Go.Proofs.Yteklnhogokjkkaa.AE
