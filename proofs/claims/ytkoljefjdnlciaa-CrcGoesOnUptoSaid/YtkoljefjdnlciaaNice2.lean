/- What the printed functions of layer 2 come to, in plain words. -/
import Derived.Test.YtkoljefjdnlciaaH
import Derived.Test.YtkoljefjdnlciaaCrc
namespace Go.Proofs.Ytkoljefjdnlciaa.Hy
open Go.RowKit Go.Proofs.YtkoljefjdnlciaaW.PrintWords Go.Proofs.YtkoljefjdnlciaaW.PrintLast Go.Proofs.YtkoljefjdnlciaaW.PrintMore
theorem octets_Put.loop (n : Int) (hn : 0 ≤ n) (m : Nat) (hm : m ≤ 8) (d : Nat) : ∀ (k i : Nat), m - i = d → i ≤ m → d < k →
    octets_Put.l0 k n (Pl.putI i n ++ List.replicate (m - i) 0) (m : Int) (i : Int) = some (Pl.putI m n, 0) := by
  induction d with
  | zero =>
    intro k i hd hi hk
    obtain ⟨k, rfl⟩ : ∃ j, k = j + 1 := ⟨k - 1, by omega⟩
    obtain rfl : i = m := by omega
    simp only [octets_Put.l0]
    rw [if_neg (by omega)]
    simp
  | succ d ih =>
    intro k i hd hi hk
    obtain ⟨k, rfl⟩ : ∃ j, k = j + 1 := ⟨k - 1, by omega⟩
    have e8 : wrap64 (8 * (i : Int)) = 8 * (i : Int) := Pl.w64 (by omega) (by omega)
    have e1 : wrap64 ((i : Int) + 1) = ((i + 1 : Nat) : Int) := by rw [Pl.w64 (by omega) (by omega)]; omega
    simp only [octets_Put.l0]
    rw [if_pos (by omega), e8, if_pos (by omega), if_pos (by omega), if_pos (by simp [Pl.putI_length]; omega), e1, Pl.shr_u64 n _ i rfl (by omega)]
    have hr : m - i = (m - (i + 1)) + 1 := by omega
    have hs : (Pl.putI i n ++ List.replicate (m - i) 0).set ((i : Int)).toNat (n / 256 ^ i % 256) = Pl.putI (i + 1) n ++ List.replicate (m - (i + 1)) 0 := by
      rw [Int.toNat_natCast, List.set_append_right _ _ (by rw [Pl.putI_length]; omega), Pl.putI_length, Nat.sub_self, hr, List.replicate_succ, List.set_cons_zero, Pl.putI_snoc _ _ hn, List.append_assoc]
      rfl
    rw [hs]
    exact ih k (i + 1) (by omega) (by omega) (by omega)
theorem octets_Put.nice (k : Nat) (n size : Int) (hn : 0 ≤ n) (hn2 : n < 18446744073709551616) (hk : 12 ≤ k) : octets_Put.f k n size = some (Pl.putS n size) := by
  obtain ⟨k, rfl⟩ : ∃ j, k = j + 2 := ⟨k - 2, by omega⟩
  unfold octets_Put.f Pl.putS
  by_cases h1 : size < 1
  · rw [if_pos h1, if_pos (.inl h1)]
    simp only [octets_Put.j0]
    rw [if_pos trivial]
  · rw [if_neg h1]
    by_cases h8 : size > 8
    · rw [if_pos (.inr h8), decide_eq_true h8]
      simp only [octets_Put.j0]
      rw [if_pos trivial]
    · rw [decide_eq_false h8, if_neg (by omega)]
      obtain ⟨m, rfl⟩ := Pl.nat_of (show 0 ≤ size by omega)
      have e8 : wrap64 (8 * (m : Int)) = 8 * (m : Int) := Pl.w64 (by omega) (by omega)
      have hloop := octets_Put.loop n hn m (by omega) m k 0 (by omega) (by omega) (by omega)
      have hlen : ((List.replicate ((m : Nat) : Int).toNat (0 : Int)).length : Int) = (m : Int) := by simp
      simp only [octets_Put.j0, Bool.false_eq_true, if_false]
      rw [e8]
      simp only [Int.toNat_natCast]
      have hrest : (if (0 : Int) ≤ (m : Int) then if m ≤ 281474976710656 then (some (List.replicate m (0 : Int))).bind fun y101 => octets_Put.l0 k n y101 (y101.length : Int) 0 else none else none) = some (Pl.putI m n, 0) := by
        rw [if_pos (by omega), if_pos (by omega)]
        simp only [Option.bind_some, List.length_replicate]
        simpa [Pl.putI, Fs.put, Pl.ofB] using hloop
      by_cases h7 : (m : Int) < 8
      · rw [if_pos h7, if_pos (by omega), Pl.shr_u64 n _ m rfl (by omega)]
        by_cases hb : (256 : Int) ^ m ≤ n
        · have hq : n / 256 ^ m ≠ 0 := by
            have hp : (0 : Int) < 256 ^ m := Int.pow_pos (by omega)
            have := (Int.le_ediv_iff_mul_le hp (a := 1) (b := n)).2 (by omega)
            omega
          have hq' : (n / 256 ^ m != 0) = true := by simpa using hq
          rw [if_pos hb, hq']
          simp only [octets_Put.j1]
          rw [if_pos trivial]
        · have hq : n / 256 ^ m = 0 := Int.ediv_eq_zero_of_lt hn (by omega)
          rw [if_neg hb, hq]
          simp only [octets_Put.j1, bne_self_eq_false, Bool.false_eq_true, if_false, Int.toNat_natCast]
          exact hrest
      · have hm8 : m = 8 := by omega
        have hlt : ¬ (256 : Int) ^ m ≤ n := by rw [hm8]; simp; omega
        rw [if_neg h7, if_neg hlt]
        simp only [octets_Put.j1, Bool.false_eq_true, if_false, Int.toNat_natCast]
        exact hrest
theorem flagstoneplain_SameBytes.nice (a b : List Int) (ha : Pl.BY a) (hb : Pl.BY b) : flagstoneplain_SameBytes.f a b = some (a == b) := by
  unfold flagstoneplain_SameBytes.f
  rw [Pl.strOf_eq ha hb]
theorem flagstoneplain_CopyBytes.nice (l : List Int) (h : l.length < 140737488355328) : flagstoneplain_CopyBytes.f l = some l := by
  unfold flagstoneplain_CopyBytes.f
  rw [if_pos (by simpa using h)]
  rfl
theorem flagstonelaw02_num.nice (x : Int) : flagstonelaw02_num.f x = some x := rfl
theorem flagstonelaw02_alive.nice : flagstonelaw02_alive.f = some true := rfl
theorem crc_More.nice (c : Fs.Reg) (l : List Int) (h : Pl.BY l) : crc_More.f (Pl.rI c) l = some (Pl.rI (Fs.more c (Pl.toB l))) := by
  unfold crc_More.f
  rw [if_pos ⟨(Pl.rI_range c).1, (Pl.rI_range c).2, h⟩, Pl.iR_rI]
theorem crc_Sum.nice (l : List Int) (h : Pl.BY l) : crc_Sum.f l = some (Pl.crcI l) := by
  unfold crc_Sum.f
  have := crc_More.nice 0#32 l h
  have e : Pl.rI 0#32 = 0 := by decide
  rw [e] at this
  rw [this]
  rfl
theorem crc_Seal.nice (k : Nat) (l : List Int) (h : Pl.BY l) (hl : l.length + 4 < 140737488355328) (hk : 12 ≤ k) : crc_Seal.f k l = some (Pl.sealS l) := by
  have hr := Pl.crcI_range l
  unfold crc_Seal.f
  rw [crc_Sum.nice l h]
  simp only [Option.bind_some]
  rw [Pl.u64w hr.1 (by omega), octets_Put.nice k _ 4 hr.1 (by omega) hk]
  have e : Pl.putS (Pl.crcI l) 4 = (Pl.putI 4 (Pl.crcI l), 0) := by
    unfold Pl.putS
    rw [if_neg (by omega), if_neg (by rw [show ((4 : Int)).toNat = 4 from rfl]; omega)]
    rfl
  rw [e]
  simp only [Option.bind_some]
  unfold slices_Concat_byte_byte.f
  rw [if_pos (by simp [Pl.putI_length]; omega)]
  simp [Pl.sealS]
theorem crc_Open.nice (l : List Int) (h : Pl.BY l) (hl : l.length < 140737488355328) : crc_Open.f l = some (Pl.openS l) := by
  unfold crc_Open.f
  rw [if_pos ⟨h, hl⟩]
/-! ### the reference -/
theorem odd_and (c : Fs.Reg) : (Go.bits .and .u32 (Pl.rI c) 1 = 1) ↔ c.getLsbD 0 = true := by
  rw [← Pl.one_I, Pl.bits_and]
  have : c &&& 1#32 = Fs.bit (c.getLsbD 0) := by
    apply BitVec.eq_of_getLsbD_eq
    intro i hi
    unfold Fs.bit
    rcases i with _ | i
    · rw [BitVec.getLsbD_and]
      cases hc : c.getLsbD 0 <;> simp
    · cases c.getLsbD 0 <;> simp [BitVec.getLsbD_and]
  rw [this]
  constructor
  · intro h
    have := Pl.rI_inj h
    cases hc : c.getLsbD 0
    · rw [hc] at this
      simp [Fs.bit] at this
    · rfl
  · intro h
    rw [h]
    rfl
theorem flagstoneref02_run.inner (x1 : List Int) (x5 : Int) (d : Nat) : ∀ (k i : Nat) (c : Fs.Reg), 8 - i = d → i ≤ 8 →
    flagstoneref02_run.l1 (k + d + 1) (Pl.rI c) x1 x5 (i : Int) = flagstoneref02_run.l0 k (Pl.rI (Fs.stN d c)) x1 (wrap64 (x5 + 1)) := by
  induction d with
  | zero =>
    intro k i c hd hi
    obtain rfl : i = 8 := by omega
    simp only [flagstoneref02_run.l1]
    rw [if_neg (by decide)]
    rfl
  | succ d ih =>
    intro k i c hd hi
    have e1 : wrap64 ((i : Int) + 1) = ((i + 1 : Nat) : Int) := by rw [Pl.w64 (by omega) (by omega)]; omega
    have hst : Fs.stN (d + 1) c = Fs.stN d (Fs.st c) := rfl
    rw [show k + (d + 1) + 1 = (k + d + 1) + 1 by omega]
    simp only [flagstoneref02_run.l1]
    rw [if_pos (by omega), e1, hst]
    have hsh := Pl.rI_shr1 c
    by_cases hb : c.getLsbD 0 = true
    · rw [if_pos ((odd_and c).2 hb), hsh, ← Pl.poly_I, Pl.bits_xor]
      have : c >>> 1 ^^^ Fs.poly = Fs.st c := by unfold Fs.st; rw [if_pos hb]
      rw [this]
      exact ih k (i + 1) _ (by omega) (by omega)
    · rw [if_neg (fun h => hb ((odd_and c).1 h)), hsh]
      have : c >>> 1 = Fs.st c := by unfold Fs.st; rw [if_neg hb, BitVec.xor_zero]
      rw [this]
      exact ih k (i + 1) _ (by omega) (by omega)
theorem flagstoneref02_run.loop (l : List Int) (hb : Pl.BY l) (hl : (l.length : Int) < 9223372036854775000) (d : Nat) : ∀ (k i : Nat) (c : Fs.Reg), l.length - i = d → i ≤ l.length → 10 * d < k →
    flagstoneref02_run.l0 k (Pl.rI c) l (i : Int) = some (Pl.rI (Fs.run c (Pl.toB (l.drop i)))) := by
  induction d with
  | zero =>
    intro k i c hd hi hk
    obtain ⟨k, rfl⟩ : ∃ j, k = j + 1 := ⟨k - 1, by omega⟩
    obtain rfl : i = l.length := by omega
    simp only [flagstoneref02_run.l0]
    rw [if_neg (by omega), List.drop_length]
    rfl
  | succ d ih =>
    intro k i c hd hi hk
    obtain ⟨k, rfl⟩ : ∃ j, k = (j + 8 + 1) + 1 := ⟨k - 10, by omega⟩
    have e1 : wrap64 ((i : Int) + 1) = ((i + 1 : Nat) : Int) := by rw [Pl.w64 (by omega) (by omega)]; omega
    have h8 := Pl.BY_at hb i
    simp only [flagstoneref02_run.l0]
    rw [if_pos (by omega), if_pos (by omega), Pl.rd_nat, Int.emod_eq_of_lt h8.1 (by omega)]
    have hx := Pl.reg_I _ h8
    rw [← hx, Pl.bits_xor]
    have := flagstoneref02_run.inner l (i : Int) 8 k 0 (c ^^^ Fs.reg (UInt8.ofNat (l.getD i 0).toNat)) (by omega) (by omega)
    rw [show (((0 : Nat)) : Int) = 0 from rfl] at this
    rw [this, e1, ih k (i + 1) _ (by omega) (by omega) (by omega), Pl.drop_cons l i (by omega)]
    rfl
theorem flagstoneref02_run.nice (k : Nat) (c : Fs.Reg) (l : List Int) (hb : Pl.BY l) (hl : (l.length : Int) < 9223372036854775000) (hk : 10 * l.length < k) : flagstoneref02_run.f k (Pl.rI c) l = some (Pl.rI (Fs.run c (Pl.toB l))) := by
  unfold flagstoneref02_run.f
  have := flagstoneref02_run.loop l hb hl l.length k 0 c (by omega) (by omega) hk
  simpa using this
theorem flagstoneref02_More.nice (k : Nat) (c : Fs.Reg) (l : List Int) (hb : Pl.BY l) (hl : (l.length : Int) < 9223372036854775000) (hk : 10 * l.length < k) : flagstoneref02_More.f k (Pl.rI c) l = some (Pl.rI (Fs.more c (Pl.toB l))) := by
  unfold flagstoneref02_More.f
  rw [Pl.not_I, flagstoneref02_run.nice k _ l hb hl hk]
  simp only [Option.bind_some]
  rw [Pl.not_I]
  rfl
theorem flagstoneref02_Sum.nice (k : Nat) (l : List Int) (hb : Pl.BY l) (hl : (l.length : Int) < 9223372036854775000) (hk : 10 * l.length < k) : flagstoneref02_Sum.f k l = some (Pl.crcI l) := by
  unfold flagstoneref02_Sum.f
  have e : (4294967295 : Int) = Pl.rI (~~~ 0#32) := by decide
  rw [e, flagstoneref02_run.nice k _ l hb hl hk]
  simp only [Option.bind_some]
  rw [Pl.not_I]
  rfl
theorem flagstoneref02_Copied.nice (l : List Int) (h : l.length < 140737488355328) : flagstoneref02_Copied.f l = some l := by
  unfold flagstoneref02_Copied.f
  rw [if_pos (by simpa using h)]
  rfl
theorem putI4 (n : Int) (h0 : 0 ≤ n) : Pl.putI 4 n = [n % 256, n / 256 % 256, n / 65536 % 256, n / 16777216 % 256] := by
  rw [Pl.putI_snoc 3 n h0, Pl.putI_snoc 2 n h0, Pl.putI_snoc 1 n h0, Pl.putI_snoc 0 n h0]
  have : Pl.putI 0 n = [] := rfl
  rw [this]
  simp
theorem flagstoneref02_Seal.nice (k : Nat) (l : List Int) (hb : Pl.BY l) (hl : l.length + 4 < 140737488355328) (hk : 10 * l.length < k) : flagstoneref02_Seal.f k l = some (Pl.sealS l) := by
  have hr := Pl.crcI_range l
  unfold flagstoneref02_Seal.f
  rw [flagstoneref02_Sum.nice k l hb (by omega) hk]
  simp only [Option.bind_some]
  rw [flagstoneref02_Copied.nice l (by omega)]
  simp only [Option.bind_some]
  rw [if_pos (by simp; omega)]
  unfold Pl.sealS
  rw [putI4 _ hr.1]
theorem seal_eq (l : List Int) (hb : Pl.BY l) (h4 : 4 ≤ l.length) : Pl.sealS (l.take (l.length - 4)) = l ↔ Pl.leI (l.drop (l.length - 4)) = Pl.crcI (l.take (l.length - 4)) := by
  have hr := Pl.crcI_range (l.take (l.length - 4))
  have hd : (l.drop (l.length - 4)).length = 4 := by rw [List.length_drop]; omega
  unfold Pl.sealS
  constructor
  · intro h
    have h2 := congrArg (List.drop (l.length - 4)) h
    rw [List.drop_append_of_le_length (by rw [List.length_take]; omega), List.drop_eq_nil_of_le (by rw [List.length_take]; omega)] at h2
    rw [← h2]
    simp only [List.nil_append]
    exact Pl.leI_put 4 _ hr.1 (by omega)
  · intro h
    rw [← h]
    have := Pl.put_leI (Pl.BY_drop hb (l.length - 4))
    rw [hd] at this
    rw [this, List.take_append_drop]
theorem flagstoneref02_Open.nice (k : Nat) (l : List Int) (hb : Pl.BY l) (hl : l.length < 140737488355328) (hk : 10 * l.length < k) : flagstoneref02_Open.f k l = some (Pl.openS l) := by
  unfold flagstoneref02_Open.f Pl.openS
  rw [Pl.w64 (by omega) (by omega)]
  by_cases h4 : l.length < 4
  · rw [if_pos (by omega), if_pos h4]
  · have ht : ((l.length : Int) - 4).toNat = l.length - 4 := by omega
    rw [if_neg (by omega), if_neg h4, if_pos (by omega), if_pos (by omega), ht, flagstoneref02_Seal.nice k _ (Pl.BY_take hb _) (by rw [List.length_take]; omega) (by rw [List.length_take]; omega)]
    simp only [Option.bind_some]
    have he : ((strOfNums (Pl.sealS (l.take (l.length - 4)))).toList = (strOfNums l).toList) ↔ Pl.leI (l.drop (l.length - 4)) = Pl.crcI (l.take (l.length - 4)) := by
      rw [← seal_eq l hb (by omega)]
      have := Pl.strOf_eq (Pl.BY_seal (Pl.BY_take hb (l.length - 4))) hb
      rw [Bool.eq_iff_iff, beq_iff_eq, beq_iff_eq] at this
      exact this
    by_cases hc : Pl.leI (l.drop (l.length - 4)) = Pl.crcI (l.take (l.length - 4))
    · rw [if_pos (he.2 hc), if_neg (by simpa using hc), flagstoneref02_Copied.nice _ (by rw [List.length_take]; omega)]
      rfl
    · rw [if_neg (fun h => hc (he.1 h)), if_pos hc]
theorem flagstoneplain_Spoil.some_ (d : Nat) : ∀ (k : Nat) (l : List Int) (i : Nat), l.length - i = d → i ≤ l.length → d < k → (l.length : Int) ≤ 9223372036854775000 → ∃ r, flagstoneplain_Spoil.l0 k l (i : Int) = some r ∧ r.length = l.length := by
  induction d with
  | zero =>
    intro k l i hd hi hk hm
    obtain ⟨k, rfl⟩ : ∃ j, k = j + 1 := ⟨k - 1, by omega⟩
    refine ⟨l, ?_, rfl⟩
    simp only [flagstoneplain_Spoil.l0]
    rw [if_neg (by omega)]
  | succ d ih =>
    intro k l i hd hi hk hm
    obtain ⟨k, rfl⟩ : ∃ j, k = j + 1 := ⟨k - 1, by omega⟩
    have e1 : wrap64 ((i : Int) + 1) = ((i + 1 : Nat) : Int) := by rw [Pl.w64 (by omega) (by omega)]; omega
    obtain ⟨r, hr, hl⟩ := ih k (l.set (i : Int).toNat (Go.bits .xor .u8 IntKind.u8.max (rd l i))) (i + 1) (by simp; omega) (by simp; omega) (by omega) (by simpa using hm)
    refine ⟨r, ?_, by simpa using hl⟩
    simp only [flagstoneplain_Spoil.l0]
    rw [if_pos (by omega), if_pos (by omega), e1]
    exact hr
theorem flagstoneplain_Spoil.nice (k : Nat) (l : List Int) (hk : l.length < k) (hm : (l.length : Int) ≤ 9223372036854775000) : ∃ r, flagstoneplain_Spoil.f k l = some r := by
  obtain ⟨r, h, _⟩ := flagstoneplain_Spoil.some_ l.length k l 0 (by omega) (by omega) hk hm
  exact ⟨r, h⟩
end Go.Proofs.Ytkoljefjdnlciaa.Hy
