/- crc.Seal alone (where there is no crc.Open). -/
import Derived.Test.YteklnhogokjkkaaG1
import Derived.Test.YteklnhogokjkkaaG2
import Derived.Test.YteklnhogokjkkaaG5
import Derived.Test.YteklnhogokjkkaaG6
namespace Go.Proofs.Yteklnhogokjkkaa.AE
open Go Go.RowKit Go.Proofs Go.Proofs.Yteklnhogokjkkaa
set_option linter.unusedVariables false
set_option linter.unusedSimpArgs false
set_option maxRecDepth 100000
set_option maxHeartbeats 4000000
theorem crc_Seal (l : List Int) (hc : l.length ≤ 10000000) : aOwn Try.prog 27 [.sl (numB .u8 l)] 1 (numB .u8 (Pl.sealS l)) := by
  refine aOwn_body Try.func27 rfl rfl (by simp [Try.ntmps27]) fun hreal h nx hfresh => ?_
  rw [Try.ntmps27]
  have hcr := Pl.crcI_range l
  have hw : IntKind.u64.wrap (Pl.crcI l) = Pl.crcI l := by rw [wrapU] <;> omega
  have hp : Pl.putS (Pl.crcI l) 4 = (Pl.putI 4 (Pl.crcI l), 0) := by
    unfold Pl.putS
    rw [if_neg (by omega), if_neg (by simp; omega)]
    rfl
  have hput := octets_Put (Pl.crcI l) 4
  rw [hp] at hput
  have FX := Fx.mk (@hw)
  repeat (first | refine v_ ?_ | refine u_ ?_ | refine f_ (crc_Sum l) fun kf hkf => ?_ | refine f_ (hput) fun kf hkf => ?_ | refine nl_ ?_ | (refine nz_ ?_; first | (show aWp _ _ _ _ _) | skip) | refine sq_ ?_ | refine rg_ ?_ | refine k_ ?_ | refine ct_ ?_ | refine cf_ ?_ | refine bk_ ?_ | refine sc_ ?_ | (refine sk_ ?_; first | (show aWp _ _ _ _ _) | skip) | (refine ex_ ?_; first | (show aWp _ _ _ _ _) | skip) | refine rt_ ?_)
  have hro : rowsB .u8 [l, Pl.putI 4 (Pl.crcI l)] = [[.sl (numB .u8 l)], [.sl (numB .u8 (Pl.putI 4 (Pl.crcI l)))]] := rfl
  have hfl : [l, Pl.putI 4 (Pl.crcI l)].flatten = Pl.sealS l := by simp [Pl.sealS]
  have hcat := Concat_bytes [l, Pl.putI 4 (Pl.crcI l)] (by rw [hfl, Pl.seal_len]; omega)
  rw [hro, hfl] at hcat
  have FX := Fx0; refine fz_ 14 ?_
  have FX := Fx0
  repeat (first | refine v_ ?_ | refine u_ ?_ | refine o_ (hcat) fun mf kf hmf hkf => ?_ | refine nl_ ?_ | (refine nz_ ?_; first | (show aWp _ _ _ _ _) | skip) | refine sq_ ?_ | refine rg_ ?_ | refine k_ ?_ | refine ct_ ?_ | refine cf_ ?_ | refine bk_ ?_ | refine sc_ ?_ | (refine sk_ ?_; first | (show aWp _ _ _ _ _) | skip) | (refine ex_ ?_; first | (show aWp _ _ _ _ _) | skip) | refine rt_ ?_)
  (have FX := Fx0; exact endo_ (rest := []) (mf) Try.results27)
#print axioms crc_Seal
end Go.Proofs.Yteklnhogokjkkaa.AE
