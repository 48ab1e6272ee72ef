/- The pure statements of layer 2's laws, but for CrcGoesOn. -/
import Derived.Test.YtkoljefjdnlciaaNice2
import Derived.Test.YtkoljefjdnlciaaBurst
namespace Go.Proofs.Ytkoljefjdnlciaa.Hy
open Go.RowKit Go.Proofs.YtkoljefjdnlciaaW.PrintWords Go.Proofs.YtkoljefjdnlciaaW.PrintLast Go.Proofs.YtkoljefjdnlciaaW.PrintMore
theorem by_wf {l : List Int} (h : ∀ x ∈ l, (Lit.int .u8 x).wf = true) : Pl.BY l := fun x hx => Pl.wf_u8 (h x hx)
theorem openS_len (l : List Int) : (Pl.openS l).1.length ≤ l.length := by
  unfold Pl.openS
  split
  · simp
  · split
    · simp
    · simp [List.length_take]
theorem BY_openS {l : List Int} (h : Pl.BY l) : Pl.BY (Pl.openS l).1 := by
  unfold Pl.openS
  split
  · exact Pl.BY_nil
  · split
    · exact Pl.BY_nil
    · exact Pl.BY_take h _
theorem pure_CrcBack : flagstonelaw02_CrcBack.Pure := by
  intro l h1 h2 hb
  have hb := by_wf hb
  refine ⟨20, ?_⟩
  unfold flagstonelaw02_CrcBack.f
  rw [flagstonelaw02_alive.nice, crc_Seal.nice _ l hb (by omega) (by omega)]
  simp only [Option.bind_some, if_true]
  rw [crc_Open.nice _ (Pl.BY_seal hb) (by rw [Pl.seal_len]; omega), Pl.open_seal]
  simp only [Option.bind_some, flagstonelaw02_num.nice, if_true]
  rw [flagstoneplain_SameBytes.nice _ _ hb hb, Pl.seal_len, Pl.w64 (by omega) (by omega)]
  simp
theorem pure_CrcOwn : flagstonelaw02_CrcOwn.Pure := by
  intro l h1 h2 hb
  have hb := by_wf hb
  refine ⟨10 * l.length + 20, ?_⟩
  unfold flagstonelaw02_CrcOwn.f
  rw [flagstonelaw02_alive.nice, flagstoneplain_CopyBytes.nice l (by omega)]
  simp only [Option.bind_some, if_true]
  rw [crc_Seal.nice _ l hb (by omega) (by omega)]
  simp only [Option.bind_some]
  rw [flagstoneplain_CopyBytes.nice _ (by rw [Pl.seal_len]; omega)]
  simp only [Option.bind_some]
  rw [crc_Open.nice _ (Pl.BY_seal hb) (by rw [Pl.seal_len]; omega), Pl.open_seal]
  obtain ⟨r1, hr1⟩ := flagstoneplain_Spoil.nice (10 * l.length + 20) l (by omega) (by omega)
  obtain ⟨r2, hr2⟩ := flagstoneplain_Spoil.nice (10 * l.length + 20) (Pl.sealS l) (by rw [Pl.seal_len]; omega) (by rw [Pl.seal_len]; omega)
  rw [hr1]
  simp only [Option.bind_some]
  rw [hr2, flagstoneref02_Seal.nice _ l hb (by omega) (by omega)]
  simp only [Option.bind_some]
  rw [flagstoneplain_SameBytes.nice _ _ (Pl.BY_seal hb) (Pl.BY_seal hb), flagstoneplain_SameBytes.nice _ _ hb hb]
  simp [flagstonelaw02_num.nice]
theorem xor3_take (a b c : List Int) (ha : Pl.BY a) (hb : Pl.BY b) (hc : Pl.BY c) (n : Nat) (h1 : n ≤ a.length) (h2 : n ≤ b.length) (h3 : n ≤ c.length) (x : List Int) (hx : x.length = n)
    (h : ∀ i, i < n → x.getD i 0 = Go.bits .xor .u8 (Go.bits .xor .u8 (a.getD i 0) (b.getD i 0)) (c.getD i 0)) : Pl.toB x = Fs.xorB (Fs.xorB (Pl.toB (a.take n)) (Pl.toB (b.take n))) (Pl.toB (c.take n)) := by
  apply List.ext_getElem?
  intro i
  by_cases hi : i < n
  · have g1 : (Pl.toB x)[i]? = some (UInt8.ofNat (x.getD i 0).toNat) := by
      unfold Pl.toB
      rw [List.getElem?_map, List.getElem?_eq_getElem (by omega), List.getD_eq_getElem?_getD, List.getElem?_eq_getElem (by omega)]
      rfl
    have g2 : ∀ z : List Int, n ≤ z.length → (Pl.toB (z.take n))[i]? = some (UInt8.ofNat (z.getD i 0).toNat) := by
      intro z hz
      unfold Pl.toB
      rw [List.getElem?_map, List.getElem?_take_of_lt hi, List.getElem?_eq_getElem (by omega), List.getD_eq_getElem?_getD, List.getElem?_eq_getElem (by omega)]
      rfl
    unfold Fs.xorB
    rw [List.getElem?_zipWith, List.getElem?_zipWith, g1, g2 a h1, g2 b h2, g2 c h3, h i hi]
    have ba := Pl.BY_at ha i
    have bb := Pl.BY_at hb i
    have bc := Pl.BY_at hc i
    obtain ⟨p, hp⟩ := Pl.nat_of ba.1
    obtain ⟨q, hq⟩ := Pl.nat_of bb.1
    obtain ⟨r, hr⟩ := Pl.nat_of bc.1
    rw [hp, hq, hr]
    have x1 : p ^^^ q < 2 ^ 8 := Nat.xor_lt_two_pow (by omega) (by omega)
    rw [Pl.xor8 p q (by omega) (by omega), Pl.xor8 _ r (by omega) (by omega)]
    simp only [Int.toNat_natCast, UInt8.toNat_ofNat']
    simp only [Option.some.injEq]
    rw [Nat.mod_eq_of_lt (show p < 2 ^ 8 by omega), Nat.mod_eq_of_lt (show q < 2 ^ 8 by omega), Nat.mod_eq_of_lt (show r < 2 ^ 8 by omega), Nat.mod_eq_of_lt x1]
  · rw [List.getElem?_eq_none (by rw [Pl.toB_length]; omega), List.getElem?_eq_none (by unfold Fs.xorB; simp [Pl.toB_length, List.length_take]; omega)]
theorem flagstonelaw02_CrcLinear.loop (a b c : List Int) (ha : Pl.BY a) (hb : Pl.BY b) (hc : Pl.BY c) (n : Nat) (h1 : n ≤ a.length) (h2 : n ≤ b.length) (h3 : n ≤ c.length) (hm : n < 140737488355328) (d : Nat) : ∀ (k i : Nat) (x : List Int), n - i = d → i ≤ n → d < k →
    x.length = i → Pl.BY x → (∀ j, j < i → x.getD j 0 = Go.bits .xor .u8 (Go.bits .xor .u8 (a.getD j 0) (b.getD j 0)) (c.getD j 0)) → flagstonelaw02_CrcLinear.l0 k a b c (n : Int) x (i : Int) = some true := by
  induction d with
  | zero =>
    intro k i x hd hi hk hx hxb h
    obtain ⟨k, rfl⟩ : ∃ j, k = j + 1 := ⟨k - 1, by omega⟩
    obtain rfl : i = n := by omega
    simp only [flagstonelaw02_CrcLinear.l0]
    rw [if_neg (by omega), crc_Sum.nice x hxb]
    simp only [Option.bind_some]
    rw [if_pos (by omega), if_pos (by omega), Int.toNat_natCast, crc_Sum.nice _ (Pl.BY_take ha _)]
    simp only [Option.bind_some]
    rw [if_pos (by omega), crc_Sum.nice _ (Pl.BY_take hb _)]
    simp only [Option.bind_some]
    rw [if_pos (by omega), crc_Sum.nice _ (Pl.BY_take hc _)]
    simp only [Option.bind_some]
    have e : Pl.crcI x = Go.bits .xor .u32 (Go.bits .xor .u32 (Pl.crcI (a.take i)) (Pl.crcI (b.take i))) (Pl.crcI (c.take i)) := by
      unfold Pl.crcI
      rw [Pl.bits_xor, Pl.bits_xor, xor3_take a b c ha hb hc i h1 h2 h3 x hx h, Fs.crc_xor3 _ _ _ (by simp [Pl.toB_length, List.length_take]; omega) (by simp [Pl.toB_length, List.length_take]; omega)]
    rw [if_pos e]
    rfl
  | succ d ih =>
    intro k i x hd hi hk hx hxb h
    obtain ⟨k, rfl⟩ : ∃ j, k = j + 1 := ⟨k - 1, by omega⟩
    have e1 : wrap64 ((i : Int) + 1) = ((i + 1 : Nat) : Int) := by rw [Pl.w64 (by omega) (by omega)]; omega
    simp only [flagstonelaw02_CrcLinear.l0]
    rw [if_pos (by omega), if_pos (by omega), if_pos (by omega), if_pos (by omega), if_pos (by omega), if_pos (by omega), e1, Pl.rd_nat, Pl.rd_nat, Pl.rd_nat]
    have ba := Pl.BY_at ha i
    have bb := Pl.BY_at hb i
    have bc := Pl.BY_at hc i
    obtain ⟨p, hp⟩ := Pl.nat_of ba.1
    obtain ⟨q, hq⟩ := Pl.nat_of bb.1
    obtain ⟨r, hr⟩ := Pl.nat_of bc.1
    have x1 : p ^^^ q < 2 ^ 8 := Nat.xor_lt_two_pow (by omega) (by omega)
    have x2 : (p ^^^ q) ^^^ r < 2 ^ 8 := Nat.xor_lt_two_pow x1 (by omega)
    have hv : Go.bits .xor .u8 (Go.bits .xor .u8 (a.getD i 0) (b.getD i 0)) (c.getD i 0) = (((p ^^^ q) ^^^ r : Nat) : Int) := by
      rw [hp, hq, hr, Pl.xor8 p q (by omega) (by omega), Pl.xor8 _ r (by omega) (by omega)]
    refine ih k (i + 1) _ (by omega) (by omega) (by omega) (by simp [hx]) ?_ ?_
    · refine Pl.BY_append hxb (Pl.BY_cons ?_ Pl.BY_nil)
      rw [hv]
      omega
    · intro j hj
      by_cases hji : j < i
      · rw [List.getD_eq_getElem?_getD, List.getElem?_append_left (by omega), ← List.getD_eq_getElem?_getD]
        exact h j hji
      · obtain rfl : j = i := by omega
        rw [List.getD_eq_getElem?_getD, List.getElem?_append_right (by omega), hx, Nat.sub_self]
        rfl
theorem pure_CrcLinear : flagstonelaw02_CrcLinear.Pure := by
  intro a b c a1 a2 ha b1 b2 hb c1 c2 hc
  have ha := by_wf ha
  have hb := by_wf hb
  have hc := by_wf hc
  refine ⟨a.length + 1, ?_⟩
  unfold flagstonelaw02_CrcLinear.f
  obtain ⟨n, hn, h1, h2, h3⟩ : ∃ n : Nat, mn (mn (a.length : Int) (b.length : Int)) (c.length : Int) = (n : Int) ∧ n ≤ a.length ∧ n ≤ b.length ∧ n ≤ c.length := by
    refine ⟨(mn (mn (a.length : Int) (b.length : Int)) (c.length : Int)).toNat, ?_, ?_, ?_, ?_⟩ <;> (unfold mn; (repeat' split) <;> omega)
  rw [hn]
  have := flagstonelaw02_CrcLinear.loop a b c ha hb hc n h1 h2 h3 (by omega) n (a.length + 1) 0 [] (by omega) (by omega) (by omega) rfl Pl.BY_nil (fun j hj => by omega)
  simpa using this
end Go.Proofs.Ytkoljefjdnlciaa.Hy
