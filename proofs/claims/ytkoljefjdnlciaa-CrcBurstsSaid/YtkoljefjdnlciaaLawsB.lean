/- The pure statements of layer 2's laws, but for CrcGoesOn. -/
import Derived.Test.YtkoljefjdnlciaaLaws2
import Derived.Test.YtkoljefjdnlciaaBurst
namespace Go.Proofs.Ytkoljefjdnlciaa.Hy
open Go.RowKit Go.Proofs.YtkoljefjdnlciaaW.PrintWords Go.Proofs.YtkoljefjdnlciaaW.PrintLast Go.Proofs.YtkoljefjdnlciaaW.PrintMore
theorem crc_inj {s x : List Int} (h : ∀ c, Fs.run c (Pl.toB x) ≠ Fs.run c (Pl.toB s)) : Pl.crcI x ≠ Pl.crcI s := by
  intro he
  have h1 := Pl.rI_inj he
  unfold Fs.crc Fs.more at h1
  have h2 : ~~~ (~~~ Fs.run (~~~ 0#32) (Pl.toB x)) = ~~~ (~~~ Fs.run (~~~ 0#32) (Pl.toB s)) := by rw [h1]
  simp only [BitVec.not_not] at h2
  exact h _ h2
theorem open_turned {l x : List Int} (hl : x.length = (Pl.sealS l).length) (h : ∀ c, Fs.run c (Pl.toB x) ≠ Fs.run c (Pl.toB (Pl.sealS l))) : Pl.openS x = ([], 21) := by
  have hx : x.length = l.length + 4 := by rw [hl, Pl.seal_len]
  have hgood : Fs.run (~~~ 0#32) (Pl.toB (Pl.sealS l)) = Fs.stN 32 (~~~ 0#32) := by
    rw [Pl.seal_toB]
    exact (Fs.good_iff (Pl.toB l) _ (Fs.put_length _ _)).1 (by rw [Fs.le_put]; have := (Fs.crc (Pl.toB l)).isLt; omega)
  unfold Pl.openS
  rw [if_neg (by omega)]
  split
  · rfl
  · rename_i hne
    exfalso
    have he : Pl.leI (x.drop (x.length - 4)) = Pl.crcI (x.take (x.length - 4)) := by
      by_cases hh : Pl.leI (x.drop (x.length - 4)) = Pl.crcI (x.take (x.length - 4))
      · exact hh
      · exact absurd hh hne
    have h2 := (Fs.good_iff (Pl.toB (x.take (x.length - 4))) (Pl.toB (x.drop (x.length - 4))) (by rw [Pl.toB_length, List.length_drop]; omega)).1 (by
      unfold Pl.leI Pl.crcI Pl.rI at he
      omega)
    rw [← Pl.toB_append, List.take_append_drop] at h2
    exact h _ (h2.trans hgood.symm)
theorem flagstonelaw02_CrcBursts.loop (s : List Int) (a t : Nat) (ht : t < 4294967296) (hl : a + 32 ≤ 8 * s.length) (hm : (s.length : Int) < 562949953421312) (d : Nat) : ∀ (k i : Nat) (x : List Int), 32 - i = d → i ≤ 32 → d < k → Pl.Turned s a t i x →
    ∃ x', Pl.Turned s a t 32 x' ∧ flagstonelaw02_CrcBursts.l0 k (a : Int) (t : Int) x (i : Int) = ((crc_Open.f x').bind fun bt => ((flagstonelaw02_num.f bt.2).bind fun n => (if n = 21 then (some ((bt.1.length : Int) == 0)) else (some false)))) := by
  induction d with
  | zero =>
    intro k i x hd hi hk h
    obtain ⟨k, rfl⟩ : ∃ j, k = j + 1 := ⟨k - 1, by omega⟩
    obtain rfl : i = 32 := by omega
    refine ⟨x, h, ?_⟩
    simp only [flagstonelaw02_CrcBursts.l0]
    rw [if_neg (by omega)]
  | succ d ih =>
    intro k i x hd hi hk h
    obtain ⟨k, rfl⟩ : ∃ j, k = j + 1 := ⟨k - 1, by omega⟩
    have hlen := h.2.1
    have hi32 : i < 32 := by omega
    have c1 : (i : Int) < 32 := by omega
    have c2 : (0 : Int) ≤ (i : Int) := by omega
    have c3 : (0 : Int) ≤ (((a + i) / 8 : Nat) : Int) := by omega
    have c4 : (((a + i) / 8 : Nat) : Int) < (x.length : Int) := by omega
    have c5 : (0 : Int) ≤ (((a + i) % 8 : Nat) : Int) := by omega
    have c6 : a + i < 8 * s.length := by omega
    have j1 : 32 - (i + 1) = d := by omega
    have j2 : i + 1 ≤ 32 := by omega
    have j3 : d < k := by omega
    have z1 : -9223372036854775808 ≤ (i : Int) + 1 ∧ (i : Int) + 1 < 9223372036854775808 := by omega
    have z2 : -9223372036854775808 ≤ (a : Int) + (i : Int) ∧ (a : Int) + (i : Int) < 9223372036854775808 := by omega
    have z5 : -9223372036854775808 ≤ (((a + i) / 8 : Nat) : Int) ∧ (((a + i) / 8 : Nat) : Int) < 9223372036854775808 := by omega
    have z3 : (0 : Int) ≤ ((a + i : Nat) : Int) := by omega
    have e1 : wrap64 ((i : Int) + 1) = ((i + 1 : Nat) : Int) := by rw [Pl.w64 z1.1 z1.2]; rfl
    have e2 : wrap64 ((a : Int) + (i : Int)) = ((a + i : Nat) : Int) := by rw [Pl.w64 z2.1 z2.2]; rfl
    have e3 : Int.tdiv ((a + i : Nat) : Int) 8 = (((a + i) / 8 : Nat) : Int) := by rw [Int.tdiv_eq_ediv_of_nonneg z3]; rfl
    have e4 : Int.tmod ((a + i : Nat) : Int) 8 = (((a + i) % 8 : Nat) : Int) := by rw [Int.tmod_eq_emod_of_nonneg z3]; rfl
    have e5 : wrap64 (((a + i) / 8 : Nat) : Int) = (((a + i) / 8 : Nat) : Int) := Pl.w64 z5.1 z5.2
    simp only [flagstonelaw02_CrcBursts.l0]
    rw [if_pos c1, if_pos c2]
    by_cases hb : t.testBit i = true
    · rw [if_pos ((Pl.odd_shr t i ht hi32).2 hb)]
      simp only [e1, e2, e3, e4, e5, Pl.rd_nat, Int.toNat_natCast]
      rw [if_pos c3, if_pos c4, if_pos c5]
      exact ih k (i + 1) _ j1 j2 j3 (Pl.turned_step h c6 hb)
    · rw [if_neg (fun hh => hb ((Pl.odd_shr t i ht hi32).1 hh)), e1]
      exact ih k (i + 1) _ j1 j2 j3 (Pl.turned_skip h (by simpa using hb))
theorem pure_CrcBursts : flagstonelaw02_CrcBursts.Pure := by
  intro l at_ t h1 h2 hb hat ht
  have hb := by_wf hb
  obtain ⟨t0, t1⟩ := Pl.wf_u32 ht
  obtain ⟨t, rfl⟩ := Pl.nat_of t0
  refine ⟨40, ?_⟩
  unfold flagstonelaw02_CrcBursts.f
  rw [flagstonelaw02_alive.nice, crc_Seal.nice _ l hb (by omega) (by omega)]
  simp only [Option.bind_some, if_true]
  have hs := Pl.seal_len l
  have e0 : wrap64 (8 * ((Pl.sealS l).length : Int)) = 8 * ((Pl.sealS l).length : Int) := Pl.w64 (by omega) (by omega)
  rw [e0]
  by_cases hz : (t : Int) = 0
  · rw [if_pos hz]
    simp only [flagstonelaw02_CrcBursts.j0]
    rw [if_pos trivial]
  · rw [if_neg hz, decide_eq_false (by omega)]
    simp only [flagstonelaw02_CrcBursts.j0, Bool.false_eq_true, if_false]
    obtain ⟨a, ha, hle⟩ := Pl.window at_ (8 * ((Pl.sealS l).length : Int)) (by omega) (by omega)
    rw [if_neg (by rw [Pl.w64 (by omega) (by omega)]; omega), ha]
    obtain ⟨x, hx, he⟩ := flagstonelaw02_CrcBursts.loop (Pl.sealS l) a t (by omega) (by omega) (by omega) 32 39 0 (Pl.sealS l) (by omega) (by omega) (by omega) (Pl.turned_zero (Pl.BY_seal hb) a t)
    rw [show (((0 : Nat)) : Int) = 0 from rfl] at he
    rw [he, crc_Open.nice x hx.1 (by rw [hx.2.1]; omega), open_turned hx.2.1 (fun c => Pl.turned_run hx (by omega) (by omega) (by omega) c)]
    rfl
theorem flagstonelaw02_CrcOne.loop (l0 s : List Int) (a t : Nat) (ht : t < 4294967296) (hl : a + 32 ≤ 8 * s.length) (hm : (s.length : Int) < 562949953421312) (d : Nat) : ∀ (k i : Nat) (x : List Int), 32 - i = d → i ≤ 32 → d < k → Pl.Turned s a t i x →
    ∃ x', Pl.Turned s a t 32 x' ∧ flagstonelaw02_CrcOne.l0 k l0 (a : Int) (t : Int) x (i : Int) = ((crc_Sum.f x').bind fun u => ((crc_Sum.f l0).bind fun v => (some (u != v)))) := by
  induction d with
  | zero =>
    intro k i x hd hi hk h
    obtain ⟨k, rfl⟩ : ∃ j, k = j + 1 := ⟨k - 1, by omega⟩
    obtain rfl : i = 32 := by omega
    refine ⟨x, h, ?_⟩
    simp only [flagstonelaw02_CrcOne.l0]
    rw [if_neg (by omega)]
  | succ d ih =>
    intro k i x hd hi hk h
    obtain ⟨k, rfl⟩ : ∃ j, k = j + 1 := ⟨k - 1, by omega⟩
    have hlen := h.2.1
    have hi32 : i < 32 := by omega
    have c1 : (i : Int) < 32 := by omega
    have c2 : (0 : Int) ≤ (i : Int) := by omega
    have c3 : (0 : Int) ≤ (((a + i) / 8 : Nat) : Int) := by omega
    have c4 : (((a + i) / 8 : Nat) : Int) < (x.length : Int) := by omega
    have c5 : (0 : Int) ≤ (((a + i) % 8 : Nat) : Int) := by omega
    have c6 : a + i < 8 * s.length := by omega
    have j1 : 32 - (i + 1) = d := by omega
    have j2 : i + 1 ≤ 32 := by omega
    have j3 : d < k := by omega
    have z1 : -9223372036854775808 ≤ (i : Int) + 1 ∧ (i : Int) + 1 < 9223372036854775808 := by omega
    have z2 : -9223372036854775808 ≤ (a : Int) + (i : Int) ∧ (a : Int) + (i : Int) < 9223372036854775808 := by omega
    have z5 : -9223372036854775808 ≤ (((a + i) / 8 : Nat) : Int) ∧ (((a + i) / 8 : Nat) : Int) < 9223372036854775808 := by omega
    have z3 : (0 : Int) ≤ ((a + i : Nat) : Int) := by omega
    have e1 : wrap64 ((i : Int) + 1) = ((i + 1 : Nat) : Int) := by rw [Pl.w64 z1.1 z1.2]; rfl
    have e2 : wrap64 ((a : Int) + (i : Int)) = ((a + i : Nat) : Int) := by rw [Pl.w64 z2.1 z2.2]; rfl
    have e3 : Int.tdiv ((a + i : Nat) : Int) 8 = (((a + i) / 8 : Nat) : Int) := by rw [Int.tdiv_eq_ediv_of_nonneg z3]; rfl
    have e4 : Int.tmod ((a + i : Nat) : Int) 8 = (((a + i) % 8 : Nat) : Int) := by rw [Int.tmod_eq_emod_of_nonneg z3]; rfl
    have e5 : wrap64 (((a + i) / 8 : Nat) : Int) = (((a + i) / 8 : Nat) : Int) := Pl.w64 z5.1 z5.2
    simp only [flagstonelaw02_CrcOne.l0]
    rw [if_pos c1, if_pos c2]
    by_cases hb : t.testBit i = true
    · rw [if_pos ((Pl.odd_shr t i ht hi32).2 hb)]
      simp only [e1, e2, e3, e4, e5, Pl.rd_nat, Int.toNat_natCast]
      rw [if_pos c3, if_pos c4, if_pos c5]
      exact ih k (i + 1) _ j1 j2 j3 (Pl.turned_step h c6 hb)
    · rw [if_neg (fun hh => hb ((Pl.odd_shr t i ht hi32).1 hh)), e1]
      exact ih k (i + 1) _ j1 j2 j3 (Pl.turned_skip h (by simpa using hb))
theorem pure_CrcOne : flagstonelaw02_CrcOne.Pure := by
  intro l at_ t h1 h2 hb hat ht
  have hb := by_wf hb
  obtain ⟨t0, t1⟩ := Pl.wf_u32 ht
  obtain ⟨t, rfl⟩ := Pl.nat_of t0
  refine ⟨40, ?_⟩
  unfold flagstonelaw02_CrcOne.f
  rw [flagstonelaw02_alive.nice]
  simp only [Option.bind_some, if_true]
  have e0 : wrap64 (8 * (l.length : Int)) = 8 * (l.length : Int) := Pl.w64 (by omega) (by omega)
  rw [e0]
  by_cases hz : (t : Int) = 0
  · rw [if_pos hz]
    simp only [flagstonelaw02_CrcOne.j0]
    rw [if_pos trivial]
  · rw [if_neg hz]
    by_cases h32 : 8 * (l.length : Int) < 32
    · rw [decide_eq_true h32]
      simp only [flagstonelaw02_CrcOne.j0]
      rw [if_pos trivial]
    · rw [decide_eq_false h32]
      simp only [flagstonelaw02_CrcOne.j0, Bool.false_eq_true, if_false]
      obtain ⟨a, ha, hle⟩ := Pl.window at_ (8 * (l.length : Int)) (by omega) (by omega)
      rw [if_neg (by rw [Pl.w64 (by omega) (by omega)]; omega), ha, flagstoneplain_CopyBytes.nice l (by omega)]
      simp only [Option.bind_some]
      obtain ⟨x, hx, he⟩ := flagstonelaw02_CrcOne.loop l l a t (by omega) (by omega) (by omega) 32 39 0 l (by omega) (by omega) (by omega) (Pl.turned_zero hb a t)
      rw [show (((0 : Nat)) : Int) = 0 from rfl] at he
      rw [he, crc_Sum.nice x hx.1, crc_Sum.nice l hb]
      have := crc_inj (fun c => Pl.turned_run hx (by omega) (by omega) (by omega) c)
      simp [this]
end Go.Proofs.Ytkoljefjdnlciaa.Hy
