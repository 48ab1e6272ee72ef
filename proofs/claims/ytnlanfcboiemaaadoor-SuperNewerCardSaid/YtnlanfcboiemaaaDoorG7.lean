/- Layer 2 and its page: Seal, Open. -/
import Derived.Test.YtnlanfcboiemaaaDoorG1
import Derived.Test.YtnlanfcboiemaaaDoorG2
import Derived.Test.YtnlanfcboiemaaaDoorG5
import Derived.Test.YtnlanfcboiemaaaDoorG6
namespace Go.Proofs.YtnlanfcboiemaaaDoor.AE
open Go Go.RowKit Go.Proofs Go.Proofs.YtnlanfcboiemaaaDoor
set_option linter.unusedVariables false
set_option linter.unusedSimpArgs false
set_option maxRecDepth 100000
set_option maxHeartbeats 4000000
theorem Clone_bytes (l : List Int) (hc : l.length ≤ 140737488355328) : aOwn Tryd.prog 40 [.sl (numB .u8 l)] 1 (numB .u8 l) := by
  refine aOwn_body Tryd.func40 rfl rfl (by simp [Tryd.ntmps40]) fun hreal h nx hfresh => ?_
  rw [Tryd.ntmps40]
  have FX := Fx0
  repeat (first | refine v_ ?_ | refine u_ ?_ | refine nl_ ?_ | (refine nz_ ?_; first | (show aWp _ _ _ _ _) | skip) | refine sq_ ?_ | refine rg_ ?_ | refine k_ ?_ | refine ct_ ?_ | refine cf_ ?_ | refine bk_ ?_ | refine sc_ ?_ | (refine sk_ ?_; first | (show aWp _ _ _ _ _) | skip) | (refine ex_ ?_; first | (show aWp _ _ _ _ _) | skip) | refine rt_ ?_)
  refine W_isnil (n := l.length) rfl (by first | rfl | (simp (disch := first | rfl | decide | omega | assumption | (simp only [LL]; omega)) only [WS, NB, WY, rowV]; first | done | rfl)) Tryd.underlying31 (fun h0 => ?_) ?_
  · obtain rfl : l = [] := List.eq_nil_of_length_eq_zero h0
    have FX := Fx0
    repeat (first | refine v_ ?_ | refine u_ ?_ | refine nl_ ?_ | (refine nz_ ?_; first | (show aWp _ _ _ _ _) | skip) | refine sq_ ?_ | refine rg_ ?_ | refine k_ ?_ | refine ct_ ?_ | refine cf_ ?_ | refine bk_ ?_ | refine sc_ ?_ | (refine sk_ ?_; first | (show aWp _ _ _ _ _) | skip) | (refine ex_ ?_; first | (show aWp _ _ _ _ _) | skip) | refine rt_ ?_)
    refine W_endOwn (by omega) (by have FX := Fx0; exact ha_) (by rw [Tryd.results40]) (by (have FX := Fx0; exact cr_)) (.inr ⟨rfl, rfl⟩)
  · have FX := Fx0
    repeat (first | refine v_ ?_ | refine u_ ?_ | refine nl_ ?_ | (refine nz_ ?_; first | (show aWp _ _ _ _ _) | skip) | refine sq_ ?_ | refine rg_ ?_ | refine k_ ?_ | refine ct_ ?_ | refine cf_ ?_ | refine bk_ ?_ | refine sc_ ?_ | (refine sk_ ?_; first | (show aWp _ _ _ _ _) | skip) | (refine ex_ ?_; first | (show aWp _ _ _ _ _) | skip) | refine rt_ ?_)
    (have FX := Fx0; exact endo_ (rest := []) (nx + 1) Tryd.results40)
theorem crc_Seal (l : List Int) (hc : l.length ≤ 10000000) : aOwn Tryd.prog 27 [.sl (numB .u8 l)] 1 (numB .u8 (Pl.sealS l)) := by
  refine aOwn_body Tryd.func27 rfl rfl (by simp [Tryd.ntmps27]) fun hreal h nx hfresh => ?_
  rw [Tryd.ntmps27]
  have hcr := Pl.crcI_range l
  have hw : IntKind.u64.wrap (Pl.crcI l) = Pl.crcI l := by rw [wrapU] <;> omega
  have hp : Pl.putS (Pl.crcI l) 4 = (Pl.putI 4 (Pl.crcI l), 0) := by
    unfold Pl.putS
    rw [if_neg (by omega), if_neg (by simp; omega)]
    rfl
  have hput := octets_Put (Pl.crcI l) 4
  rw [hp] at hput
  have FX := Fx.mk (@hw)
  repeat (first | refine v_ ?_ | refine u_ ?_ | refine f_ (crc_Sum l) fun kf hkf => ?_ | refine f_ (hput) fun kf hkf => ?_ | refine nl_ ?_ | (refine nz_ ?_; first | (show aWp _ _ _ _ _) | skip) | refine sq_ ?_ | refine rg_ ?_ | refine k_ ?_ | refine ct_ ?_ | refine cf_ ?_ | refine bk_ ?_ | refine sc_ ?_ | (refine sk_ ?_; first | (show aWp _ _ _ _ _) | skip) | (refine ex_ ?_; first | (show aWp _ _ _ _ _) | skip) | refine rt_ ?_)
  have hro : rowsB .u8 [l, Pl.putI 4 (Pl.crcI l)] = [[.sl (numB .u8 l)], [.sl (numB .u8 (Pl.putI 4 (Pl.crcI l)))]] := rfl
  have hfl : [l, Pl.putI 4 (Pl.crcI l)].flatten = Pl.sealS l := by simp [Pl.sealS]
  have hcat := Concat_bytes [l, Pl.putI 4 (Pl.crcI l)] (by rw [hfl, Pl.seal_len]; omega)
  rw [hro, hfl] at hcat
  have FX := Fx0; refine fz_ 14 ?_
  have FX := Fx0
  repeat (first | refine v_ ?_ | refine u_ ?_ | refine o_ (hcat) fun mf kf hmf hkf => ?_ | refine nl_ ?_ | (refine nz_ ?_; first | (show aWp _ _ _ _ _) | skip) | refine sq_ ?_ | refine rg_ ?_ | refine k_ ?_ | refine ct_ ?_ | refine cf_ ?_ | refine bk_ ?_ | refine sc_ ?_ | (refine sk_ ?_; first | (show aWp _ _ _ _ _) | skip) | (refine ex_ ?_; first | (show aWp _ _ _ _ _) | skip) | refine rt_ ?_)
  (have FX := Fx0; exact endo_ (rest := []) (mf) Tryd.results27)
#print axioms crc_Seal
theorem crc_Open (l : List Int) (hc : l.length ≤ 140737488355328) : aFun Tryd.prog 28 [.sl (numB .u8 l)] (.tup [.sl (numB .u8 (Pl.openS l).1), .int .i64 (Pl.openS l).2]) := by
  by_cases h4 : l.length < 4
  · rw [show Pl.openS l = ([], 8) by unfold Pl.openS; rw [if_pos h4]]
    have hg : Pl.getS l 0 4 = (0, 8) := by
      unfold Pl.getS
      rw [if_neg (by omega), if_neg (by omega), if_pos (by omega)]
    have hget := octets_Get l 0 4
    rw [hg] at hget
    refine aFun_body Tryd.func28 rfl rfl (by simp [Tryd.ntmps28]) fun hreal h nx hfresh => ?_
    rw [Tryd.ntmps28]
    have hw : IntKind.i64.wrap ((l.length : Int) - 4) = (l.length : Int) - 4 := by rw [wrapI] <;> omega
    have hlt : (l.length : Int) - 4 < 0 := by omega
    have FX := Fx.mk (And.intro @hw <| @hlt)
    repeat (first | refine v_ ?_ | refine u_ ?_ | refine f_ (hget) fun kf hkf => ?_ | refine nl_ ?_ | (refine nz_ ?_; first | (show aWp _ _ _ _ _) | skip) | refine sq_ ?_ | refine rg_ ?_ | refine k_ ?_ | refine ct_ ?_ | refine cf_ ?_ | refine bk_ ?_ | refine sc_ ?_ | (refine sk_ ?_; first | (show aWp _ _ _ _ _) | skip) | (refine ex_ ?_; first | (show aWp _ _ _ _ _) | skip) | refine rt_ ?_)
    (have FX := Fx0; exact end_ Tryd.results28)
  obtain ⟨n, hn⟩ : ∃ n, l.length = n + 4 := ⟨l.length - 4, by omega⟩
  have hg : Pl.getS l (n : Int) 4 = (Pl.leI ((l.drop n).take 4), 0) := by
    unfold Pl.getS
    rw [if_neg (by omega), if_neg (by omega), if_neg (by omega)]
    rfl
  have hd4 : (l.drop n).take 4 = l.drop n := List.take_of_length_le (by simp; omega)
  rw [hd4] at hg
  have hget := octets_Get l n 4
  rw [hg] at hget
  have hle := Pl.leI_lt (l.drop n)
  have hle0 := Pl.leI_nonneg (l.drop n)
  rw [show (l.drop n).length = 4 by simp; omega] at hle
  have hw9 : IntKind.u32.wrap (Pl.leI (l.drop n)) = Pl.leI (l.drop n) := Pl.u32w (by omega) (by omega)
  have hw : IntKind.i64.wrap (((n + 4 : Nat) : Int) - 4) = (n : Int) := by rw [wrapI] <;> omega
  by_cases hs : Pl.leI (l.drop n) = Pl.crcI (l.take n)
  · rw [show Pl.openS l = (l.take n, 0) by unfold Pl.openS; rw [if_neg h4, show l.length - 4 = n by omega, if_neg (by simpa using hs)]]
    refine aFun_body Tryd.func28 rfl rfl (by simp [Tryd.ntmps28]) fun hreal h nx hfresh => ?_
    rw [Tryd.ntmps28]
    have hd : decide (Pl.leI (l.drop n) = Pl.crcI (l.take n)) = true := decide_eq_true hs
    have htl : (l.take n).length = n := by simp; omega
    have FX := Fx.mk (And.intro @hw <| And.intro @hn <| And.intro @hw9 <| And.intro @hd <| @Bool.not_true)
    repeat (first | refine v_ ?_ | refine u_ ?_ | refine f_ (hget) fun kf hkf => ?_ | refine f_ (crc_Sum (l.take n)) fun kf hkf => ?_ | refine o_ (Clone_bytes (l.take n) (by omega)) fun mf kf hmf hkf => ?_ | refine nl_ ?_ | (refine nz_ ?_; first | (show aWp _ _ _ _ _) | skip) | refine sq_ ?_ | refine rg_ ?_ | refine k_ ?_ | refine ct_ ?_ | refine cf_ ?_ | refine bk_ ?_ | refine sc_ ?_ | (refine sk_ ?_; first | (show aWp _ _ _ _ _) | skip) | (refine ex_ ?_; first | (show aWp _ _ _ _ _) | skip) | refine rt_ ?_)
    (have FX := Fx.mk (@htl); exact end_ Tryd.results28)
  · rw [show Pl.openS l = ([], 21) by unfold Pl.openS; rw [if_neg h4, show l.length - 4 = n by omega, if_pos (by simpa using hs)]]
    refine aFun_body Tryd.func28 rfl rfl (by simp [Tryd.ntmps28]) fun hreal h nx hfresh => ?_
    rw [Tryd.ntmps28]
    have hd : decide (Pl.leI (l.drop n) = Pl.crcI (l.take n)) = false := decide_eq_false hs
    have FX := Fx.mk (And.intro @hw <| And.intro @hn <| And.intro @hw9 <| And.intro @hd <| @Bool.not_false)
    repeat (first | refine v_ ?_ | refine u_ ?_ | refine f_ (hget) fun kf hkf => ?_ | refine f_ (crc_Sum (l.take n)) fun kf hkf => ?_ | refine nl_ ?_ | (refine nz_ ?_; first | (show aWp _ _ _ _ _) | skip) | refine sq_ ?_ | refine rg_ ?_ | refine k_ ?_ | refine ct_ ?_ | refine cf_ ?_ | refine bk_ ?_ | refine sc_ ?_ | (refine sk_ ?_; first | (show aWp _ _ _ _ _) | skip) | (refine ex_ ?_; first | (show aWp _ _ _ _ _) | skip) | refine rt_ ?_)
    (have FX := Fx0; exact end_ Tryd.results28)
#print axioms crc_Open
end Go.Proofs.YtnlanfcboiemaaaDoor.AE
