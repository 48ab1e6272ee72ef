/- Layer 1: Get. -/
import Derived.Test.YthkjahoebkicbaaC2
namespace Go.Proofs.Ythkjahoebkicbaa.AE
open Go Go.RowKit Go.Proofs Go.Proofs.Ythkjahoebkicbaa
set_option linter.unusedVariables false
set_option linter.unusedSimpArgs false
set_option maxRecDepth 100000
set_option maxHeartbeats 4000000
theorem octets_Get (l : List Int) (at_ size : Int) : aFun Try.prog 17 [.sl (numB .u8 l), .int .i64 at_, .int .i64 size] (.tup [.int .u64 (Pl.getS l at_ size).1, .int .i64 (Pl.getS l at_ size).2]) := by
  by_cases h1 : size < 1
  · rw [show Pl.getS l at_ size = (0, 1) from if_pos (.inl h1)]
    refine aFun_body Try.func17 rfl rfl (by simp [Try.ntmps17]) fun hreal h nx hfresh => ?_
    rw [Try.ntmps17]
    have hd : decide (size < 1) = true := decide_eq_true h1
    have FX := Fx.mk (@hd)
    repeat (first | refine v_ ?_ | refine u_ ?_ | refine nl_ ?_ | (refine nz_ ?_; first | (show aWp _ _ _ _ _) | skip) | refine sq_ ?_ | refine rg_ ?_ | refine k_ ?_ | refine ct_ ?_ | refine cf_ ?_ | refine bk_ ?_ | refine sc_ ?_ | (refine sk_ ?_; first | (show aWp _ _ _ _ _) | skip) | (refine ex_ ?_; first | (show aWp _ _ _ _ _) | skip) | refine rt_ ?_)
    (have FX := Fx0; exact end_ Try.results17)
  have hd : decide (size < 1) = false := decide_eq_false h1
  by_cases h2 : 8 < size
  · rw [show Pl.getS l at_ size = (0, 1) from if_pos (.inr h2)]
    refine aFun_body Try.func17 rfl rfl (by simp [Try.ntmps17]) fun hreal h nx hfresh => ?_
    rw [Try.ntmps17]
    have hd2 : decide (8 < size) = true := decide_eq_true h2
    have FX := Fx.mk (And.intro @hd <| @hd2)
    repeat (first | refine v_ ?_ | refine u_ ?_ | refine nl_ ?_ | (refine nz_ ?_; first | (show aWp _ _ _ _ _) | skip) | refine sq_ ?_ | refine rg_ ?_ | refine k_ ?_ | refine ct_ ?_ | refine cf_ ?_ | refine bk_ ?_ | refine sc_ ?_ | (refine sk_ ?_; first | (show aWp _ _ _ _ _) | skip) | (refine ex_ ?_; first | (show aWp _ _ _ _ _) | skip) | refine rt_ ?_)
    (have FX := Fx0; exact end_ Try.results17)
  have hd2 : decide (8 < size) = false := decide_eq_false h2
  by_cases h3 : at_ < 0
  · rw [show Pl.getS l at_ size = (0, 4) by unfold Pl.getS; rw [if_neg (by omega), if_pos h3]]
    refine aFun_body Try.func17 rfl rfl (by simp [Try.ntmps17]) fun hreal h nx hfresh => ?_
    rw [Try.ntmps17]
    have hd3 : decide (at_ < 0) = true := decide_eq_true h3
    have FX := Fx.mk (And.intro @hd <| And.intro @hd2 <| @hd3)
    repeat (first | refine v_ ?_ | refine u_ ?_ | refine nl_ ?_ | (refine nz_ ?_; first | (show aWp _ _ _ _ _) | skip) | refine sq_ ?_ | refine rg_ ?_ | refine k_ ?_ | refine ct_ ?_ | refine cf_ ?_ | refine bk_ ?_ | refine sc_ ?_ | (refine sk_ ?_; first | (show aWp _ _ _ _ _) | skip) | (refine ex_ ?_; first | (show aWp _ _ _ _ _) | skip) | refine rt_ ?_)
    (have FX := Fx0; exact end_ Try.results17)
  have hd3 : decide (at_ < 0) = false := decide_eq_false h3
  by_cases h4 : (l.length : Int) < at_
  · rw [show Pl.getS l at_ size = (0, 8) by unfold Pl.getS; rw [if_neg (by omega), if_neg h3, if_pos (.inl h4)]]
    refine aFun_body Try.func17 rfl rfl (by simp [Try.ntmps17]) fun hreal h nx hfresh => ?_
    rw [Try.ntmps17]
    have hd4 : decide ((l.length : Int) < at_) = true := decide_eq_true h4
    have FX := Fx.mk (And.intro @hd <| And.intro @hd2 <| And.intro @hd3 <| @hd4)
    repeat (first | refine v_ ?_ | refine u_ ?_ | refine nl_ ?_ | (refine nz_ ?_; first | (show aWp _ _ _ _ _) | skip) | refine sq_ ?_ | refine rg_ ?_ | refine k_ ?_ | refine ct_ ?_ | refine cf_ ?_ | refine bk_ ?_ | refine sc_ ?_ | (refine sk_ ?_; first | (show aWp _ _ _ _ _) | skip) | (refine ex_ ?_; first | (show aWp _ _ _ _ _) | skip) | refine rt_ ?_)
    (have FX := Fx0; exact end_ Try.results17)
  have hd4 : decide ((l.length : Int) < at_) = false := decide_eq_false h4
  by_cases h5 : (l.length : Int) - at_ < size
  · rw [show Pl.getS l at_ size = (0, 8) by unfold Pl.getS; rw [if_neg (by omega), if_neg h3, if_pos (.inr h5)]]
    refine aFun_body Try.func17 rfl rfl (by simp [Try.ntmps17]) fun hreal h nx hfresh => ?_
    rw [Try.ntmps17]
    have hl := (hreal (.sl (numB .u8 l)) (by simp)).num.1
    have hw : IntKind.i64.wrap ((l.length : Int) - at_) = (l.length : Int) - at_ := by rw [wrapI] <;> omega
    have hd5 : decide ((l.length : Int) - at_ < size) = true := decide_eq_true h5
    have FX := Fx.mk (And.intro @hd <| And.intro @hd2 <| And.intro @hd3 <| And.intro @hd4 <| And.intro @hd5 <| @hw)
    repeat (first | refine v_ ?_ | refine u_ ?_ | refine nl_ ?_ | (refine nz_ ?_; first | (show aWp _ _ _ _ _) | skip) | refine sq_ ?_ | refine rg_ ?_ | refine k_ ?_ | refine ct_ ?_ | refine cf_ ?_ | refine bk_ ?_ | refine sc_ ?_ | (refine sk_ ?_; first | (show aWp _ _ _ _ _) | skip) | (refine ex_ ?_; first | (show aWp _ _ _ _ _) | skip) | refine rt_ ?_)
    (have FX := Fx0; exact end_ Try.results17)
  rw [show Pl.getS l at_ size = (Pl.leI ((l.drop at_.toNat).take size.toNat), 0) by unfold Pl.getS; rw [if_neg (by omega), if_neg h3, if_neg (by omega)]]
  obtain ⟨a, rfl⟩ : ∃ a : Nat, at_ = (a : Int) := ⟨at_.toNat, by omega⟩
  obtain ⟨k, rfl⟩ : ∃ k : Nat, size = (k : Int) := ⟨size.toNat, by omega⟩
  simp only [Int.toNat_natCast]
  refine aFun_body Try.func17 rfl rfl (by simp [Try.ntmps17]) fun hreal h nx hfresh => ?_
  rw [Try.ntmps17]
  have hl := (hreal (.sl (numB .u8 l)) (by simp)).num.1
  have hby := (hreal (.sl (numB .u8 l)) (by simp)).BY
  have hw : IntKind.i64.wrap ((l.length : Int) - (a : Int)) = (l.length : Int) - a := by rw [wrapI] <;> omega
  have hd5 : decide ((l.length : Int) - (a : Int) < (k : Int)) = false := decide_eq_false h5
  have hw2 : IntKind.i64.wrap ((a : Int) + (k : Int)) = ((a + k : Nat) : Int) := by rw [wrapI] <;> omega
  have hlo : (a : Int) ≤ ((a + k : Nat) : Int) := by omega
  have hhi : ((a + k : Nat) : Int) ≤ (l.length : Int) := by omega
  have hm : (l.take (a + k)).drop a = (l.drop a).take k := by rw [List.drop_take, Nat.add_sub_cancel_left]
  have hml : ((l.drop a).take k).length = k := by simp; omega
  have FX := Fx.mk (And.intro @hd <| And.intro @hd2 <| And.intro @hd3 <| And.intro @hd4 <| And.intro @hd5 <| And.intro @hw <| And.intro @hw2 <| And.intro @hlo <| And.intro @hhi <| And.intro @hm <| @hml)
  repeat (first | refine v_ ?_ | refine u_ ?_ | refine nl_ ?_ | (refine nz_ ?_; first | (show aWp _ _ _ _ _) | skip) | refine sq_ ?_ | refine rg_ ?_ | refine k_ ?_ | refine ct_ ?_ | refine cf_ ?_ | refine bk_ ?_ | refine sc_ ?_ | (refine sk_ ?_; first | (show aWp _ _ _ _ _) | skip) | (refine ex_ ?_; first | (show aWp _ _ _ _ _) | skip) | refine rt_ ?_)
  have hby2 : Pl.BY ((l.drop a).take k) := Pl.BY_take (Pl.BY_drop hby a) k
  generalize (l.drop a).take k = m at hml hby2 ⊢
  refine W_loopK [38, 39, 7] nx (fun r tm h _ => ∃ i : Nat, i ≤ k ∧ r = k - i ∧ tm 40 = .int .i64 i ∧ tm 6 = .int .u64 (Pl.leI (m.take i))) k (by omega) ⟨0, Nat.zero_le _, rfl, rfl, by (have FX := Fx.mk (@Pl.leI_nil); exact cl_)⟩ ?_
  rintro r tm' h' k' ⟨i, hi, rfl, h40, h6⟩ hag hh hk'
  by_cases hlt : i < k
  · have hd : decide ((i : Int) < (k : Int)) = true := decide_eq_true (by omega)
    have hw : IntKind.i64.wrap (i + 1) = ((i + 1 : Nat) : Int) := by rw [wrapI] <;> omega
    have hw8 : IntKind.i64.wrap (8 * (i : Int)) = 8 * (i : Int) := by rw [wrapI] <;> omega
    obtain ⟨c, hc⟩ : ∃ c, m[i]? = some c := ⟨m[i]'(by omega), List.getElem?_eq_getElem _⟩
    have hcr := hby2 c (List.mem_of_getElem? hc)
    have hw9 : IntKind.u64.wrap c = c := by rw [wrapU] <;> omega
    have hsl : IntKind.u64.wrap (c * 2 ^ (min (8 * (i : Int)).toNat IntKind.u64.bits)) = c * 256 ^ i := by
      rw [show min (8 * (i : Int)).toNat IntKind.u64.bits = 8 * i by simp [IntKind.bits]; omega]
      exact Pl.wrap_shl c i (by omega) hcr
    have hti : m.take (i + 1) = m.take i ++ [c] := by rw [List.take_add_one, hc]; rfl
    have hlen : (m.take i).length = i := by simp; omega
    have hlt2 := Pl.leI_lt (m.take i)
    rw [hlen] at hlt2
    have hor := Pl.or_shl (Pl.leI (m.take i)) c i (by omega) (Pl.leI_nonneg _) hlt2 hcr
    have hle : Pl.leI (m.take (i + 1)) = Pl.leI (m.take i) + c * 256 ^ i := by rw [hti, Pl.leI_snoc _ _ hcr, hlen]
    have FX := Fx.mk (And.intro @hag <| And.intro @h40 <| And.intro @h6 <| And.intro @hh <| And.intro @hd <| And.intro @hw <| And.intro @hw8 <| And.intro @hc <| And.intro @hw9 <| And.intro @hsl <| @hor)
    repeat (first | refine v_ ?_ | refine u_ ?_ | refine nl_ ?_ | (refine nz_ ?_; first | (show aWp _ _ _ _ _) | skip) | refine sq_ ?_ | refine rg_ ?_ | refine k_ ?_ | refine ct_ ?_ | refine cf_ ?_ | refine bk_ ?_ | refine sc_ ?_ | (refine sk_ ?_; first | (show aWp _ _ _ _ _) | skip) | (refine ex_ ?_; first | (show aWp _ _ _ _ _) | skip) | refine rt_ ?_)
    refine ⟨k - (i + 1), by omega, ⟨i + 1, by omega, rfl, ?_, ?_⟩, ?_, ?_, by simp only; omega, rfl⟩
    · (have FX := Fx0; exact cl_)
    · (have FX := Fx.mk (@hle); exact cl_)
    · repeat (refine KAgree.upd rfl ?_)
      first | exact KAgree.refl _ _ | exact hag
    · exact (by have FX := Fx.mk (@hh); exact ha_)
  · obtain rfl : i = k := by omega
    have hd : decide ((i : Int) < (i : Int)) = false := by simp
    rw [List.take_of_length_le (by omega)] at h6
    have FX := Fx.mk (And.intro @hag <| And.intro @h40 <| And.intro @h6 <| And.intro @hh <| @hd)
    repeat (first | refine v_ ?_ | refine u_ ?_ | refine nl_ ?_ | (refine nz_ ?_; first | (show aWp _ _ _ _ _) | skip) | refine sq_ ?_ | refine rg_ ?_ | refine k_ ?_ | refine ct_ ?_ | refine cf_ ?_ | refine bk_ ?_ | refine sc_ ?_ | (refine sk_ ?_; first | (show aWp _ _ _ _ _) | skip) | (refine ex_ ?_; first | (show aWp _ _ _ _ _) | skip) | refine rt_ ?_)
    (have FX := Fx.mk (And.intro @hag <| And.intro @h6 <| @hh); exact end_ Try.results17)
end Go.Proofs.Ythkjahoebkicbaa.AE
