/- Layer 1 and its page: Put. -/
import Derived.Test.YthkjahoebkicbaaC2
namespace Go.Proofs.Ythkjahoebkicbaa.AE
open Go Go.RowKit Go.Proofs Go.Proofs.Ythkjahoebkicbaa
set_option linter.unusedVariables false
set_option linter.unusedSimpArgs false
set_option maxRecDepth 100000
set_option maxHeartbeats 4000000
theorem SameBytes (a b : List Int) : aFun Try.prog 14 [.sl (numB .u8 a), .sl (numB .u8 b)] (.bool (decide (a = b))) := by
  refine aFun_body Try.func14 rfl rfl (by simp [Try.ntmps14]) fun hreal h nx hfresh => ?_
  rw [Try.ntmps14]
  have FX := Fx0
  repeat (first | refine v_ ?_ | refine u_ ?_ | refine nl_ ?_ | (refine nz_ ?_; first | (show aWp _ _ _ _ _) | skip) | refine sq_ ?_ | refine rg_ ?_ | refine k_ ?_ | refine ct_ ?_ | refine cf_ ?_ | refine bk_ ?_ | refine sc_ ?_ | (refine sk_ ?_; first | (show aWp _ _ _ _ _) | skip) | (refine ex_ ?_; first | (show aWp _ _ _ _ _) | skip) | refine rt_ ?_)
  (have FX := Fx0; exact end_ Try.results14)
theorem CopyBytes (l : List Int) (hc : l.length ≤ 140737488355328) : aOwn Try.prog 15 [.sl (numB .u8 l)] 1 (numB .u8 l) := by
  refine aOwn_body Try.func15 rfl rfl (by simp [Try.ntmps15]) fun hreal h nx hfresh => ?_
  rw [Try.ntmps15]
  have hb := (hreal (.sl (numB .u8 l)) (by simp)).num.1
  have FX := Fx.mk (And.intro @hb <| @hc)
  repeat (first | refine v_ ?_ | refine u_ ?_ | refine nl_ ?_ | (refine nz_ ?_; first | (show aWp _ _ _ _ _) | skip) | refine sq_ ?_ | refine rg_ ?_ | refine k_ ?_ | refine ct_ ?_ | refine cf_ ?_ | refine bk_ ?_ | refine sc_ ?_ | (refine sk_ ?_; first | (show aWp _ _ _ _ _) | skip) | (refine ex_ ?_; first | (show aWp _ _ _ _ _) | skip) | refine rt_ ?_)
  (have FX := Fx0; exact endo_ (rest := []) (nx) Try.results15)
theorem octets_Put (n size : Int) : aFun Try.prog 12 [.int .u64 n, .int .i64 size] (.tup [.sl (numB .u8 (Pl.putS n size).1), .int .i64 (Pl.putS n size).2]) := by
  by_cases h1 : size < 1
  · rw [show Pl.putS n size = ([], 1) from if_pos (.inl h1)]
    refine aFun_body Try.func12 rfl rfl (by simp [Try.ntmps12]) fun hreal h nx hfresh => ?_
    rw [Try.ntmps12]
    have hd : decide (size < 1) = true := decide_eq_true h1
    have FX := Fx.mk (@hd)
    repeat (first | refine v_ ?_ | refine u_ ?_ | refine nl_ ?_ | (refine nz_ ?_; first | (show aWp _ _ _ _ _) | skip) | refine sq_ ?_ | refine rg_ ?_ | refine k_ ?_ | refine ct_ ?_ | refine cf_ ?_ | refine bk_ ?_ | refine sc_ ?_ | (refine sk_ ?_; first | (show aWp _ _ _ _ _) | skip) | (refine ex_ ?_; first | (show aWp _ _ _ _ _) | skip) | refine rt_ ?_)
    (have FX := Fx0; exact end_ Try.results12)
  by_cases h2 : 8 < size
  · rw [show Pl.putS n size = ([], 1) from if_pos (.inr h2)]
    refine aFun_body Try.func12 rfl rfl (by simp [Try.ntmps12]) fun hreal h nx hfresh => ?_
    rw [Try.ntmps12]
    have hd : decide (size < 1) = false := decide_eq_false h1
    have hd2 : decide (8 < size) = true := decide_eq_true h2
    have FX := Fx.mk (And.intro @hd <| @hd2)
    repeat (first | refine v_ ?_ | refine u_ ?_ | refine nl_ ?_ | (refine nz_ ?_; first | (show aWp _ _ _ _ _) | skip) | refine sq_ ?_ | refine rg_ ?_ | refine k_ ?_ | refine ct_ ?_ | refine cf_ ?_ | refine bk_ ?_ | refine sc_ ?_ | (refine sk_ ?_; first | (show aWp _ _ _ _ _) | skip) | (refine ex_ ?_; first | (show aWp _ _ _ _ _) | skip) | refine rt_ ?_)
    (have FX := Fx0; exact end_ Try.results12)
  obtain ⟨k, rfl⟩ : ∃ k : Nat, size = (k : Int) := ⟨size.toNat, by omega⟩
  have hk : 1 ≤ k ∧ k ≤ 8 := by omega
  have hd : decide ((k : Int) < 1) = false := decide_eq_false h1
  have hd2 : decide (8 < (k : Int)) = false := decide_eq_false h2
  have hw8 : IntKind.i64.wrap (8 * (k : Int)) = 8 * (k : Int) := by rw [wrapI] <;> omega
  have hsh := fun n : Int => shrU64 (n := n) hk.2
  have hr := fun (hreal : ∀ a ∈ [AV.int .u64 n, AV.int .i64 (k : Int)], Real a) => inU64 ((hreal (.int .u64 n) (by simp)).int)
  by_cases h3 : 256 ^ k ≤ n
  · rw [show Pl.putS n k = ([], 4) by unfold Pl.putS; rw [if_neg (by omega), if_pos (by simpa using h3)]]
    refine aFun_body Try.func12 rfl rfl (by simp [Try.ntmps12]) fun hreal h nx hfresh => ?_
    rw [Try.ntmps12]
    have hn := hr hreal
    have h4 : k < 8 := by
      rcases Nat.lt_or_ge k 8 with q | q
      · exact q
      · obtain rfl : k = 8 := by omega
        omega
    have hd3 : decide ((k : Int) < 8) = true := decide_eq_true (by omega)
    have hd4 : decide (n / 256 ^ k = 0) = false := decide_eq_false (by
      have h5 : (0 : Int) < 256 ^ k := Int.pow_pos (by decide)
      have h6 : 1 ≤ n / 256 ^ k := (Int.le_ediv_iff_mul_le h5).2 (by omega)
      omega)
    have FX := Fx.mk (And.intro @hd <| And.intro @hd2 <| And.intro @hw8 <| And.intro @hsh <| And.intro @hd3 <| And.intro @hd4 <| @Bool.not_false)
    repeat (first | refine v_ ?_ | refine u_ ?_ | refine nl_ ?_ | (refine nz_ ?_; first | (show aWp _ _ _ _ _) | skip) | refine sq_ ?_ | refine rg_ ?_ | refine k_ ?_ | refine ct_ ?_ | refine cf_ ?_ | refine bk_ ?_ | refine sc_ ?_ | (refine sk_ ?_; first | (show aWp _ _ _ _ _) | skip) | (refine ex_ ?_; first | (show aWp _ _ _ _ _) | skip) | refine rt_ ?_)
    (have FX := Fx0; exact end_ Try.results12)
  rw [show Pl.putS n k = (Pl.putI k n, 0) by unfold Pl.putS; rw [if_neg (by omega), if_neg (by simpa using h3)]; simp]
  refine aFun_body Try.func12 rfl rfl (by simp [Try.ntmps12]) fun hreal h nx hfresh => ?_
  rw [Try.ntmps12]
  have hn := hr hreal
  have hd4 : decide (n / 256 ^ k = 0) = true := decide_eq_true (Int.ediv_eq_zero_of_lt (by omega) (by omega))
  have hlen : (0 : Int) ≤ k := by omega
  have put0 : ∀ i : Nat, i < k → (Pl.putI i n ++ List.replicate (k - i) 0)[i]? = some 0 := fun i hi => by
    rw [List.getElem?_append_right (by simp [Pl.putI_length]), Pl.putI_length, Nat.sub_self, List.getElem?_replicate, if_pos (by omega)]
  have put1 : ∀ i : Nat, i < k → (Pl.putI i n ++ List.replicate (k - i) 0).set i (n / 256 ^ i % 256) = Pl.putI (i + 1) n ++ List.replicate (k - (i + 1)) 0 := fun i hi => by
    rw [List.set_append_right _ _ (by simp [Pl.putI_length]), Pl.putI_length, Nat.sub_self, Pl.putI_snoc i n hn.1, List.append_assoc, show k - i = (k - (i + 1)) + 1 by omega, List.replicate_succ]
    rfl
  by_cases h4 : k < 8
  · have hd3 : decide ((k : Int) < 8) = true := decide_eq_true (by omega)
    have FX := Fx.mk (And.intro @hd <| And.intro @hd2 <| And.intro @hw8 <| And.intro @hsh <| And.intro @hd3 <| And.intro @hd4 <| @Bool.not_true)
    repeat (first | refine v_ ?_ | refine u_ ?_ | refine nl_ ?_ | (refine nz_ ?_; first | (show aWp _ _ _ _ _) | skip) | refine sq_ ?_ | refine rg_ ?_ | refine k_ ?_ | refine ct_ ?_ | refine cf_ ?_ | refine bk_ ?_ | refine sc_ ?_ | (refine sk_ ?_; first | (show aWp _ _ _ _ _) | skip) | (refine ex_ ?_; first | (show aWp _ _ _ _ _) | skip) | refine rt_ ?_)
    refine W_loopK [0, 6, 26] nx (fun r tm h _ => ∃ i : Nat, i ≤ k ∧ r = k - i ∧ tm 27 = .int .i64 i ∧ h nx = some ⟨1, numB .u8 (Pl.putI i n ++ List.replicate (k - i) 0)⟩) k (by omega) ⟨0, Nat.zero_le _, rfl, rfl, by (have FX := Fx0; exact cl_)⟩ ?_
    rintro r tm' h' k' ⟨i, hi, rfl, h27, hm⟩ hag hh hk'
    by_cases hlt : i < k
    · have hd : decide ((i : Int) < (k : Int)) = true := decide_eq_true (by omega)
      have hw : IntKind.i64.wrap (i + 1) = ((i + 1 : Nat) : Int) := by rw [wrapI] <;> omega
      have hw8 : IntKind.i64.wrap (8 * (i : Int)) = 8 * (i : Int) := by rw [wrapI] <;> omega
      have hsh := shrU64 (n := n) (k := i) (by omega)
      have p0 := put0 i hlt
      have p1 := put1 i hlt
      have FX := Fx.mk (And.intro @hag <| And.intro @h27 <| And.intro @hm <| And.intro @hh <| And.intro @hd <| And.intro @hw <| And.intro @hw8 <| And.intro @hsh <| And.intro @wrapB_mod <| And.intro @p0 <| @p1)
      repeat (first | refine v_ ?_ | refine u_ ?_ | refine nl_ ?_ | (refine nz_ ?_; first | (show aWp _ _ _ _ _) | skip) | refine sq_ ?_ | refine rg_ ?_ | refine k_ ?_ | refine ct_ ?_ | refine cf_ ?_ | refine bk_ ?_ | refine sc_ ?_ | (refine sk_ ?_; first | (show aWp _ _ _ _ _) | skip) | (refine ex_ ?_; first | (show aWp _ _ _ _ _) | skip) | refine rt_ ?_)
      refine ⟨k - (i + 1), by omega, ⟨i + 1, by omega, rfl, ?_, ?_⟩, ?_, ?_, by simp only; omega, rfl⟩
      · (have FX := Fx0; exact cl_)
      · (have FX := Fx0; exact cl_)
      · repeat (refine KAgree.upd rfl ?_)
        first | exact KAgree.refl _ _ | exact hag
      · exact (by have FX := Fx.mk (@hh); exact ha_)
    · obtain rfl : i = k := by omega
      have hd : decide ((i : Int) < (i : Int)) = false := by simp
      rw [Nat.sub_self, List.replicate_zero, List.append_nil] at hm
      have FX := Fx.mk (And.intro @hag <| And.intro @h27 <| And.intro @hm <| And.intro @hh <| And.intro @hd <| @Pl.putI_length)
      repeat (first | refine v_ ?_ | refine u_ ?_ | refine nl_ ?_ | (refine nz_ ?_; first | (show aWp _ _ _ _ _) | skip) | refine sq_ ?_ | refine rg_ ?_ | refine k_ ?_ | refine ct_ ?_ | refine cf_ ?_ | refine bk_ ?_ | refine sc_ ?_ | (refine sk_ ?_; first | (show aWp _ _ _ _ _) | skip) | (refine ex_ ?_; first | (show aWp _ _ _ _ _) | skip) | refine rt_ ?_)
      (have FX := Fx.mk (And.intro @hag <| And.intro @hm <| And.intro @hh <| And.intro @Pl.putI_length <| @putI_take); exact end_ Try.results12)
  · have hd3 : decide ((k : Int) < 8) = false := decide_eq_false (by omega)
    have FX := Fx.mk (And.intro @hd <| And.intro @hd2 <| And.intro @hw8 <| And.intro @hsh <| And.intro @hd3 <| And.intro @hd4 <| @Bool.not_true)
    repeat (first | refine v_ ?_ | refine u_ ?_ | refine nl_ ?_ | (refine nz_ ?_; first | (show aWp _ _ _ _ _) | skip) | refine sq_ ?_ | refine rg_ ?_ | refine k_ ?_ | refine ct_ ?_ | refine cf_ ?_ | refine bk_ ?_ | refine sc_ ?_ | (refine sk_ ?_; first | (show aWp _ _ _ _ _) | skip) | (refine ex_ ?_; first | (show aWp _ _ _ _ _) | skip) | refine rt_ ?_)
    refine W_loopK [0, 6, 26] nx (fun r tm h _ => ∃ i : Nat, i ≤ k ∧ r = k - i ∧ tm 27 = .int .i64 i ∧ h nx = some ⟨1, numB .u8 (Pl.putI i n ++ List.replicate (k - i) 0)⟩) k (by omega) ⟨0, Nat.zero_le _, rfl, rfl, by (have FX := Fx0; exact cl_)⟩ ?_
    rintro r tm' h' k' ⟨i, hi, rfl, h27, hm⟩ hag hh hk'
    by_cases hlt : i < k
    · have hd : decide ((i : Int) < (k : Int)) = true := decide_eq_true (by omega)
      have hw : IntKind.i64.wrap (i + 1) = ((i + 1 : Nat) : Int) := by rw [wrapI] <;> omega
      have hw8 : IntKind.i64.wrap (8 * (i : Int)) = 8 * (i : Int) := by rw [wrapI] <;> omega
      have hsh := shrU64 (n := n) (k := i) (by omega)
      have p0 := put0 i hlt
      have p1 := put1 i hlt
      have FX := Fx.mk (And.intro @hag <| And.intro @h27 <| And.intro @hm <| And.intro @hh <| And.intro @hd <| And.intro @hw <| And.intro @hw8 <| And.intro @hsh <| And.intro @wrapB_mod <| And.intro @p0 <| @p1)
      repeat (first | refine v_ ?_ | refine u_ ?_ | refine nl_ ?_ | (refine nz_ ?_; first | (show aWp _ _ _ _ _) | skip) | refine sq_ ?_ | refine rg_ ?_ | refine k_ ?_ | refine ct_ ?_ | refine cf_ ?_ | refine bk_ ?_ | refine sc_ ?_ | (refine sk_ ?_; first | (show aWp _ _ _ _ _) | skip) | (refine ex_ ?_; first | (show aWp _ _ _ _ _) | skip) | refine rt_ ?_)
      refine ⟨k - (i + 1), by omega, ⟨i + 1, by omega, rfl, ?_, ?_⟩, ?_, ?_, by simp only; omega, rfl⟩
      · (have FX := Fx0; exact cl_)
      · (have FX := Fx0; exact cl_)
      · repeat (refine KAgree.upd rfl ?_)
        first | exact KAgree.refl _ _ | exact hag
      · exact (by have FX := Fx.mk (@hh); exact ha_)
    · obtain rfl : i = k := by omega
      have hd : decide ((i : Int) < (i : Int)) = false := by simp
      rw [Nat.sub_self, List.replicate_zero, List.append_nil] at hm
      have FX := Fx.mk (And.intro @hag <| And.intro @h27 <| And.intro @hm <| And.intro @hh <| And.intro @hd <| @Pl.putI_length)
      repeat (first | refine v_ ?_ | refine u_ ?_ | refine nl_ ?_ | (refine nz_ ?_; first | (show aWp _ _ _ _ _) | skip) | refine sq_ ?_ | refine rg_ ?_ | refine k_ ?_ | refine ct_ ?_ | refine cf_ ?_ | refine bk_ ?_ | refine sc_ ?_ | (refine sk_ ?_; first | (show aWp _ _ _ _ _) | skip) | (refine ex_ ?_; first | (show aWp _ _ _ _ _) | skip) | refine rt_ ?_)
      (have FX := Fx.mk (And.intro @hag <| And.intro @hm <| And.intro @hh <| And.intro @Pl.putI_length <| @putI_take); exact end_ Try.results12)
end Go.Proofs.Ythkjahoebkicbaa.AE
