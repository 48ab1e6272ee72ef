/- Layer 1's page: Get. -/
import Derived.Test.YteklnhogokjkkaaC2
namespace Go.Proofs.Yteklnhogokjkkaa.AE
open Go Go.RowKit Go.Proofs Go.Proofs.Yteklnhogokjkkaa
set_option linter.unusedVariables false
set_option linter.unusedSimpArgs false
set_option maxRecDepth 100000
set_option maxHeartbeats 4000000
theorem leI_cons (x : Int) (l : List Int) (hx : 0 ≤ x ∧ x < 256) : Pl.leI (x :: l) = x + 256 * Pl.leI l := by
  have h1 : ((UInt8.ofNat x.toNat).toNat : Int) = x := by
    rw [UInt8.toNat_ofNat']
    omega
  show ((Fs.le (UInt8.ofNat x.toNat :: Pl.toB l) : Nat) : Int) = _
  simp only [Fs.le, Pl.leI]
  omega
theorem ref01_Get (l : List Int) (at_ size : Int) : aFun Try.prog 48 [.sl (numB .u8 l), .int .i64 at_, .int .i64 size] (.tup [.int .u64 (Pl.getS l at_ size).1, .int .i64 (Pl.getS l at_ size).2]) := by
  by_cases h1 : size < 1
  · rw [show Pl.getS l at_ size = (0, 1) from if_pos (.inl h1)]
    refine aFun_body Try.func48 rfl rfl (by simp [Try.ntmps48]) fun hreal h nx hfresh => ?_
    rw [Try.ntmps48]
    have hd : decide (size < 1) = true := decide_eq_true h1
    have FX := Fx.mk (@hd)
    repeat (first | refine v_ ?_ | refine u_ ?_ | refine nl_ ?_ | (refine nz_ ?_; first | (show aWp _ _ _ _ _) | skip) | refine sq_ ?_ | refine rg_ ?_ | refine k_ ?_ | refine ct_ ?_ | refine cf_ ?_ | refine bk_ ?_ | refine sc_ ?_ | (refine sk_ ?_; first | (show aWp _ _ _ _ _) | skip) | (refine ex_ ?_; first | (show aWp _ _ _ _ _) | skip) | refine rt_ ?_)
    (have FX := Fx0; exact end_ Try.results48)
  have hd : decide (size < 1) = false := decide_eq_false h1
  by_cases h2 : 8 < size
  · rw [show Pl.getS l at_ size = (0, 1) from if_pos (.inr h2)]
    refine aFun_body Try.func48 rfl rfl (by simp [Try.ntmps48]) fun hreal h nx hfresh => ?_
    rw [Try.ntmps48]
    have hd2 : decide (8 < size) = true := decide_eq_true h2
    have FX := Fx.mk (And.intro @hd <| @hd2)
    repeat (first | refine v_ ?_ | refine u_ ?_ | refine nl_ ?_ | (refine nz_ ?_; first | (show aWp _ _ _ _ _) | skip) | refine sq_ ?_ | refine rg_ ?_ | refine k_ ?_ | refine ct_ ?_ | refine cf_ ?_ | refine bk_ ?_ | refine sc_ ?_ | (refine sk_ ?_; first | (show aWp _ _ _ _ _) | skip) | (refine ex_ ?_; first | (show aWp _ _ _ _ _) | skip) | refine rt_ ?_)
    (have FX := Fx0; exact end_ Try.results48)
  have hd2 : decide (8 < size) = false := decide_eq_false h2
  by_cases h3 : at_ < 0
  · rw [show Pl.getS l at_ size = (0, 4) by unfold Pl.getS; rw [if_neg (by omega), if_pos h3]]
    refine aFun_body Try.func48 rfl rfl (by simp [Try.ntmps48]) fun hreal h nx hfresh => ?_
    rw [Try.ntmps48]
    have hd3 : decide (at_ < 0) = true := decide_eq_true h3
    have FX := Fx.mk (And.intro @hd <| And.intro @hd2 <| @hd3)
    repeat (first | refine v_ ?_ | refine u_ ?_ | refine nl_ ?_ | (refine nz_ ?_; first | (show aWp _ _ _ _ _) | skip) | refine sq_ ?_ | refine rg_ ?_ | refine k_ ?_ | refine ct_ ?_ | refine cf_ ?_ | refine bk_ ?_ | refine sc_ ?_ | (refine sk_ ?_; first | (show aWp _ _ _ _ _) | skip) | (refine ex_ ?_; first | (show aWp _ _ _ _ _) | skip) | refine rt_ ?_)
    (have FX := Fx0; exact end_ Try.results48)
  have hd3 : decide (at_ < 0) = false := decide_eq_false h3
  by_cases h4 : (l.length : Int) < at_
  · rw [show Pl.getS l at_ size = (0, 8) by unfold Pl.getS; rw [if_neg (by omega), if_neg h3, if_pos (.inl h4)]]
    refine aFun_body Try.func48 rfl rfl (by simp [Try.ntmps48]) fun hreal h nx hfresh => ?_
    rw [Try.ntmps48]
    have hd4 : decide ((l.length : Int) < at_) = true := decide_eq_true h4
    have FX := Fx.mk (And.intro @hd <| And.intro @hd2 <| And.intro @hd3 <| @hd4)
    repeat (first | refine v_ ?_ | refine u_ ?_ | refine nl_ ?_ | (refine nz_ ?_; first | (show aWp _ _ _ _ _) | skip) | refine sq_ ?_ | refine rg_ ?_ | refine k_ ?_ | refine ct_ ?_ | refine cf_ ?_ | refine bk_ ?_ | refine sc_ ?_ | (refine sk_ ?_; first | (show aWp _ _ _ _ _) | skip) | (refine ex_ ?_; first | (show aWp _ _ _ _ _) | skip) | refine rt_ ?_)
    (have FX := Fx0; exact end_ Try.results48)
  have hd4 : decide ((l.length : Int) < at_) = false := decide_eq_false h4
  by_cases h5 : (l.length : Int) - at_ < size
  · rw [show Pl.getS l at_ size = (0, 8) by unfold Pl.getS; rw [if_neg (by omega), if_neg h3, if_pos (.inr h5)]]
    refine aFun_body Try.func48 rfl rfl (by simp [Try.ntmps48]) fun hreal h nx hfresh => ?_
    rw [Try.ntmps48]
    have hl := (hreal (.sl (numB .u8 l)) (by simp)).num.1
    have hw : IntKind.i64.wrap ((l.length : Int) - at_) = (l.length : Int) - at_ := by rw [wrapI] <;> omega
    have hd5 : decide ((l.length : Int) - at_ < size) = true := decide_eq_true h5
    have FX := Fx.mk (And.intro @hd <| And.intro @hd2 <| And.intro @hd3 <| And.intro @hd4 <| And.intro @hd5 <| @hw)
    repeat (first | refine v_ ?_ | refine u_ ?_ | refine nl_ ?_ | (refine nz_ ?_; first | (show aWp _ _ _ _ _) | skip) | refine sq_ ?_ | refine rg_ ?_ | refine k_ ?_ | refine ct_ ?_ | refine cf_ ?_ | refine bk_ ?_ | refine sc_ ?_ | (refine sk_ ?_; first | (show aWp _ _ _ _ _) | skip) | (refine ex_ ?_; first | (show aWp _ _ _ _ _) | skip) | refine rt_ ?_)
    (have FX := Fx0; exact end_ Try.results48)
  rw [show Pl.getS l at_ size = (Pl.leI ((l.drop at_.toNat).take size.toNat), 0) by unfold Pl.getS; rw [if_neg (by omega), if_neg h3, if_neg (by omega)]]
  obtain ⟨a, rfl⟩ : ∃ a : Nat, at_ = (a : Int) := ⟨at_.toNat, by omega⟩
  obtain ⟨k, rfl⟩ : ∃ k : Nat, size = (k : Int) := ⟨size.toNat, by omega⟩
  simp only [Int.toNat_natCast]
  refine aFun_body Try.func48 rfl rfl (by simp [Try.ntmps48]) fun hreal h nx hfresh => ?_
  rw [Try.ntmps48]
  have hl := (hreal (.sl (numB .u8 l)) (by simp)).num.1
  have hby := (hreal (.sl (numB .u8 l)) (by simp)).BY
  have hw : IntKind.i64.wrap ((l.length : Int) - (a : Int)) = (l.length : Int) - a := by rw [wrapI] <;> omega
  have hd5 : decide ((l.length : Int) - (a : Int) < (k : Int)) = false := decide_eq_false h5
  have hw2 : IntKind.i64.wrap ((k : Int) - 1) = (k : Int) - 1 := by rw [wrapI] <;> omega
  have FX := Fx.mk (And.intro @hd <| And.intro @hd2 <| And.intro @hd3 <| And.intro @hd4 <| And.intro @hd5 <| And.intro @hw <| @hw2)
  repeat (first | refine v_ ?_ | refine u_ ?_ | refine nl_ ?_ | (refine nz_ ?_; first | (show aWp _ _ _ _ _) | skip) | refine sq_ ?_ | refine rg_ ?_ | refine k_ ?_ | refine ct_ ?_ | refine cf_ ?_ | refine bk_ ?_ | refine sc_ ?_ | (refine sk_ ?_; first | (show aWp _ _ _ _ _) | skip) | (refine ex_ ?_; first | (show aWp _ _ _ _ _) | skip) | refine rt_ ?_)
  have hml : ((l.drop a).take k).length = k := by simp; omega
  have hby2 : Pl.BY ((l.drop a).take k) := Pl.BY_take (Pl.BY_drop hby a) k
  have hget : ∀ i, i < k → l[a + i]? = ((l.drop a).take k)[i]? := fun i hi => by rw [List.getElem?_take, if_pos hi, List.getElem?_drop]
  generalize (l.drop a).take k = m at hml hby2 hget ⊢
  refine W_loopK [0, 1, 7] nx (fun i tm h _ => i ≤ k ∧ tm 9 = .int .i64 ((i : Int) - 1) ∧ tm 8 = .int .u64 (Pl.leI (m.drop i))) k (by omega) ⟨Nat.le_refl _, rfl, by (have FX := Fx.mk (And.intro (List.drop_of_length_le (Nat.le_of_eq hml)) <| @Pl.leI_nil); exact cl_)⟩ ?_
  rintro i tm' h' k' ⟨hi, h9, h8⟩ hag hh hk'
  by_cases hlt : 1 ≤ i
  · obtain ⟨p, rfl⟩ : ∃ q, i = q + 1 := ⟨i - 1, by omega⟩
    rw [show ((p + 1 : Nat) : Int) - 1 = (p : Int) by omega] at h9
    have hd : decide (0 ≤ (p : Int)) = true := decide_eq_true (by omega)
    have hw : IntKind.i64.wrap ((p : Int) - 1) = (p : Int) - 1 := by rw [wrapI] <;> omega
    obtain ⟨c, hc⟩ : ∃ c, m[p]? = some c := ⟨m[p]'(by omega), List.getElem?_eq_getElem _⟩
    have hc2 : l[a + p]? = some c := by rw [hget p (by omega), hc]
    have hcr := hby2 c (List.mem_of_getElem? hc)
    have hw9 : IntKind.u64.wrap c = c := by rw [wrapU] <;> omega
    have hw3 : IntKind.i64.wrap ((a : Int) + (p : Int)) = ((a + p : Nat) : Int) := by rw [wrapI] <;> omega
    have hdr : m.drop p = c :: m.drop (p + 1) := by rw [List.drop_eq_getElem_cons (by omega)]; rw [List.getElem?_eq_getElem (by omega)] at hc; rw [Option.some.inj hc]
    have hle : Pl.leI (m.drop p) = c + 256 * Pl.leI (m.drop (p + 1)) := by rw [hdr, leI_cons _ _ hcr]
    have hb := Pl.leI_lt (m.drop p)
    have hp := Pl.pow8 (k := (m.drop p).length) (by simp; omega)
    have hn1 := Pl.leI_nonneg (m.drop (p + 1))
    have hw5 : IntKind.u64.wrap (256 * Pl.leI (m.drop (p + 1))) = 256 * Pl.leI (m.drop (p + 1)) := by rw [wrapU] <;> omega
    have hw6 : IntKind.u64.wrap (256 * Pl.leI (m.drop (p + 1)) + c) = Pl.leI (m.drop p) := by rw [wrapU] <;> omega
    have FX := Fx.mk (And.intro @hag <| And.intro @h9 <| And.intro @h8 <| And.intro @hh <| And.intro @hd <| And.intro @hw <| And.intro @hc2 <| And.intro @hw9 <| And.intro @hw3 <| And.intro @hw5 <| @hw6)
    repeat (first | refine v_ ?_ | refine u_ ?_ | refine nl_ ?_ | (refine nz_ ?_; first | (show aWp _ _ _ _ _) | skip) | refine sq_ ?_ | refine rg_ ?_ | refine k_ ?_ | refine ct_ ?_ | refine cf_ ?_ | refine bk_ ?_ | refine sc_ ?_ | (refine sk_ ?_; first | (show aWp _ _ _ _ _) | skip) | (refine ex_ ?_; first | (show aWp _ _ _ _ _) | skip) | refine rt_ ?_)
    refine ⟨p, by omega, ⟨by omega, ?_, ?_⟩, ?_, ?_, by simp only; omega, rfl⟩
    · (have FX := Fx0; exact cl_)
    · (have FX := Fx0; exact cl_)
    · repeat (refine KAgree.upd rfl ?_)
      first | exact KAgree.refl _ _ | exact hag
    · exact (by have FX := Fx.mk (@hh); exact ha_)
  · obtain rfl : i = 0 := by omega
    have hd : decide ((0 : Int) ≤ ((0 : Nat) : Int) - 1) = false := by decide
    rw [List.drop_zero] at h8
    have FX := Fx.mk (And.intro @hag <| And.intro @h9 <| And.intro @h8 <| And.intro @hh <| @hd)
    repeat (first | refine v_ ?_ | refine u_ ?_ | refine nl_ ?_ | (refine nz_ ?_; first | (show aWp _ _ _ _ _) | skip) | refine sq_ ?_ | refine rg_ ?_ | refine k_ ?_ | refine ct_ ?_ | refine cf_ ?_ | refine bk_ ?_ | refine sc_ ?_ | (refine sk_ ?_; first | (show aWp _ _ _ _ _) | skip) | (refine ex_ ?_; first | (show aWp _ _ _ _ _) | skip) | refine rt_ ?_)
    (have FX := Fx.mk (And.intro @hag <| And.intro @h8 <| @hh); exact end_ Try.results48)
end Go.Proofs.Yteklnhogokjkkaa.AE
