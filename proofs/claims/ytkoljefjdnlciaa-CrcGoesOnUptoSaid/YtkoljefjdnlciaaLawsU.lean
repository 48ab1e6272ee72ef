/- The pure statement of CrcGoesOn, under the bound of its Upto form. -/
import Derived.Test.YtkoljefjdnlciaaLaws2
import Derived.Test.YtkoljefjdnlciaaUptoCrcGoesOn
namespace Go.Proofs.Ytkoljefjdnlciaa.Hy
open Go.RowKit Go.Proofs.YtkoljefjdnlciaaW.PrintWords Go.Proofs.YtkoljefjdnlciaaW.PrintLast Go.Proofs.YtkoljefjdnlciaaW.PrintMore
theorem pure_CrcGoesOn : flagstonelaw02_CrcGoesOn.PureU := by
  intro a b a1 a2 ha b1 b2 hb
  have ha := by_wf ha
  have hb := by_wf hb
  unfold flagstonelaw02_CrcGoesOn.f
  have e2 : Pl.crcI (a ++ b) = Pl.rI (Fs.more (Fs.crc (Pl.toB a)) (Pl.toB b)) := by
    unfold Pl.crcI
    rw [Pl.toB_append, Fs.crc_append]
  have q1 := flagstoneplain_CopyBytes.nice a (by omega)
  have q2 := crc_Sum.nice a ha
  have q3 := crc_More.nice (Fs.crc (Pl.toB a)) b hb
  have q4 := crc_Sum.nice _ (Pl.BY_append ha hb)
  have q5 := flagstonelaw02_alive.nice
  have q6 : a.length + b.length < 140737488355328 := by omega
  rw [← e2] at q3
  rw [show Pl.rI (Fs.crc (Pl.toB a)) = Pl.crcI a from rfl] at q3
  clear e2 a1 a2 b1 b2
  generalize flagstoneplain_CopyBytes.f = f1 at q1 ⊢
  generalize crc_Sum.f = f2 at q2 q4 ⊢
  generalize crc_More.f = f3 at q3 ⊢
  generalize flagstonelaw02_alive.f = f4 at q5 ⊢
  generalize Pl.crcI a = z at q2 q3
  generalize Pl.crcI (a ++ b) = z2 at q3 q4
  rw [q1]
  simp only [Option.bind_some]
  rw [if_pos q6]
  clear q6
  rw [q2, Option.bind_some, q3, Option.bind_some, q4, Option.bind_some, if_pos rfl, q5]
  rfl
end Go.Proofs.Ytkoljefjdnlciaa.Hy
