/- The pure statements of layer 2's laws, but for CrcGoesOn. -/
import Derived.Test.YtkoljefjdnlciaaLaws2
import Derived.Test.YtkoljefjdnlciaaBurst
namespace Go.Proofs.Ytkoljefjdnlciaa.Hy
open Go.RowKit Go.Proofs.YtkoljefjdnlciaaW.PrintWords Go.Proofs.YtkoljefjdnlciaaW.PrintLast Go.Proofs.YtkoljefjdnlciaaW.PrintMore
theorem pure_CrcTells : flagstonelaw02_CrcTells.Pure := by
  intro l c h1 h2 hb hc
  have hb := by_wf hb
  obtain ⟨c0, c1⟩ := Pl.wf_u32 hc
  obtain ⟨c, rfl⟩ : ∃ r, c = Pl.rI r := ⟨Pl.iR c, (Pl.rI_iR c0 c1).symm⟩
  refine ⟨10 * l.length + 20, ?_⟩
  unfold flagstonelaw02_CrcTells.f
  have q1 := flagstoneplain_CopyBytes.nice l (by omega)
  have q2 := crc_Open.nice l hb (by omega)
  have q3 := flagstoneref02_Open.nice (10 * l.length + 20) l hb (by omega) (by omega)
  have q4 := crc_Sum.nice l hb
  have q5 := flagstoneref02_Sum.nice (10 * l.length + 20) l hb (by omega) (by omega)
  have q6 := crc_More.nice c l hb
  have q7 := flagstoneref02_More.nice (10 * l.length + 20) c l hb (by omega) (by omega)
  have q8 := crc_Seal.nice (10 * l.length + 20) l hb (by omega) (by omega)
  have q9 := flagstoneref02_Seal.nice (10 * l.length + 20) l hb (by omega) (by omega)
  have q10 := flagstoneplain_SameBytes.nice _ _ (Pl.BY_seal hb) (Pl.BY_seal hb)
  have q11 := flagstoneplain_SameBytes.nice _ _ (BY_openS hb) (BY_openS hb)
  have q12 := flagstoneplain_SameBytes.nice _ _ hb hb
  have q13 := flagstonelaw02_num.nice
  have q14 := flagstonelaw02_alive.nice
  clear c0 c1 hc h1 h2
  generalize flagstoneplain_CopyBytes.f = f1 at q1 ⊢
  generalize crc_Open.f = f2 at q2 ⊢
  generalize flagstoneref02_Open.f = f3 at q3 ⊢
  generalize crc_Sum.f = f4 at q4 ⊢
  generalize flagstoneref02_Sum.f = f5 at q5 ⊢
  generalize crc_More.f = f6 at q6 ⊢
  generalize flagstoneref02_More.f = f7 at q7 ⊢
  generalize crc_Seal.f = f8 at q8 ⊢
  generalize flagstoneref02_Seal.f = f9 at q9 ⊢
  generalize flagstoneplain_SameBytes.f = f10 at q10 q11 q12 ⊢
  generalize flagstonelaw02_num.f = f11 at q13 ⊢
  generalize flagstonelaw02_alive.f = f12 at q14 ⊢
  generalize Pl.rI (Fs.more c (Pl.toB l)) = z2 at q6 q7
  generalize Pl.rI c = z3 at q6 q7 ⊢
  generalize Pl.crcI l = z1 at q4 q5
  generalize Pl.openS l = o at q2 q3 q11
  generalize Pl.sealS l = z at q8 q9 q10
  simp only [q1, q2, q3, q4, q5, q6, q7, q8, q9, q10, q11, q12, q13, q14, Option.bind_some, beq_self_eq_true, if_true]
end Go.Proofs.Ytkoljefjdnlciaa.Hy
