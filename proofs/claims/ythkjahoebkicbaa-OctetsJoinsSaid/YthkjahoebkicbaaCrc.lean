/- Plain words between the walk's whole numbers and the checksum's registers. -/
import Derived.Test.YthkjahoebkicbaaPl
namespace Go.Proofs.Ythkjahoebkicbaa.Pl
open Go.RowKit Go.Proofs.YthkjahoebkicbaaW.PrintWords Go.Proofs.YthkjahoebkicbaaW.PrintMore
open Go.Proofs.Ythkjahoebkicbaa

def rI (c : Fs.Reg) : Int := (c.toNat : Int)
def iR (x : Int) : Fs.Reg := BitVec.ofInt 32 x
theorem rI_range (c : Fs.Reg) : 0 ≤ rI c ∧ rI c < 4294967296 := by have := c.isLt; unfold rI; omega
theorem iR_rI (c : Fs.Reg) : iR (rI c) = c := by
  unfold iR rI
  rw [BitVec.ofInt_natCast]
  simp
theorem rI_iR {x : Int} (h0 : 0 ≤ x) (h1 : x < 4294967296) : rI (iR x) = x := by
  obtain ⟨n, rfl⟩ := nat_of h0
  unfold iR rI
  rw [BitVec.ofInt_natCast, BitVec.toNat_ofNat]
  omega
theorem rI_inj {a b : Fs.Reg} (h : rI a = rI b) : a = b := by rw [← iR_rI a, ← iR_rI b, h]
theorem u32w {x : Int} (h0 : 0 ≤ x) (h1 : x < 4294967296) : IntKind.u32.wrap x = x := by
  rw [IntKind.wrap_u32]
  omega
theorem bits_xor (a b : Fs.Reg) : Go.bits .xor .u32 (rI a) (rI b) = rI (a ^^^ b) := by
  have h : (IntKind.u32.wrap (((iR (rI a) ^^^ iR (rI b)).toNat : Nat) : Int)) = rI (a ^^^ b) := by
    rw [iR_rI, iR_rI]
    exact u32w (rI_range _).1 (rI_range _).2
  exact h
theorem bits_and (a b : Fs.Reg) : Go.bits .and .u32 (rI a) (rI b) = rI (a &&& b) := by
  have h : (IntKind.u32.wrap (((iR (rI a) &&& iR (rI b)).toNat : Nat) : Int)) = rI (a &&& b) := by
    rw [iR_rI, iR_rI]
    exact u32w (rI_range _).1 (rI_range _).2
  exact h
theorem rI_shr1 (c : Fs.Reg) : rI c / (2 : Int) = rI (c >>> 1) := by
  unfold rI
  rw [BitVec.toNat_ushiftRight, Nat.shiftRight_eq_div_pow]
  omega
theorem rI_shr4 (c : Fs.Reg) : rI c / (16 : Int) = rI (c >>> 4) := by
  unfold rI
  rw [BitVec.toNat_ushiftRight, Nat.shiftRight_eq_div_pow]
  omega
theorem rI_neg (c : Fs.Reg) : -rI c % 4294967296 = rI (-c) := by
  unfold rI
  rw [BitVec.toNat_neg]
  omega
theorem poly_I : rI Fs.poly = 2197175160 := by decide
theorem one_I : rI 1#32 = 1 := by decide
theorem f_I : rI 15#32 = 15 := by decide
theorem st_bv (c : Fs.Reg) : (c >>> 1) ^^^ (Fs.poly &&& -(c &&& 1#32)) = Fs.st c := by
  unfold Fs.st
  congr 1
  have h1 : c &&& 1#32 = if c.getLsbD 0 = true then 1#32 else 0#32 := by
    apply BitVec.eq_of_getLsbD_eq
    intro i hi
    rcases i with _ | i
    · cases h : c.getLsbD 0 <;> simp_all
    · cases h : c.getLsbD 0 <;> simp
  rw [h1]
  by_cases h : c.getLsbD 0 = true
  · rw [if_pos h, if_pos h]; decide
  · rw [if_neg h, if_neg h]; decide
/-- One turn of the register, as the walk spells it. -/
theorem st_walk (c : Fs.Reg) : Go.bits .xor .u32 (rI c / (2 : Int)) (Go.bits .and .u32 2197175160 (-Go.bits .and .u32 (rI c) 1 % 4294967296)) = rI (Fs.st c) := by
  rw [← one_I, bits_and, rI_neg, ← poly_I, bits_and, rI_shr1, bits_xor, st_bv]
theorem stN_succ (n : Nat) (c : Fs.Reg) : Fs.stN (n + 1) c = Fs.st (Fs.stN n c) := by
  rw [Fs.stN_add n 1]
  rfl
theorem not_I (c : Fs.Reg) : Go.bits .xor .u32 IntKind.u32.max (rI c) = rI (~~~ c) := by
  have h : rI (~~~ 0#32) = IntKind.u32.max := by decide
  rw [← h, bits_xor, BitVec.xor_comm, Fs.xor_ones]
/-- Half an octet at once. -/
theorem half_bv (c : Fs.Reg) : Fs.stN 4 c = (c >>> 4) ^^^ Fs.stN 4 (c &&& 15#32) := by
  have hs : ∀ v : Fs.Reg, v.getLsbD 0 = false → Fs.st v = v >>> 1 := by
    intro v h
    unfold Fs.st
    rw [if_neg (by rw [h]; exact Bool.false_ne_true)]
    simp
  have hd : c = ((c >>> 4) <<< 4) ^^^ (c &&& 15#32) := by
    apply BitVec.eq_of_getLsbD_eq
    intro i hi
    simp only [BitVec.getLsbD_xor, BitVec.getLsbD_shiftLeft, BitVec.getLsbD_ushiftRight, BitVec.getLsbD_and]
    have h15 : (15#32).getLsbD i = decide (i < 4) := by
      by_cases h4 : i < 4
      · have : i = 0 ∨ i = 1 ∨ i = 2 ∨ i = 3 := by omega
        rcases this with rfl | rfl | rfl | rfl <;> decide
      · rw [decide_eq_false h4]
        rw [BitVec.getLsbD_ofNat]
        have : Nat.testBit 15 i = false := Nat.testBit_lt_two_pow (Nat.lt_of_lt_of_le (by decide : 15 < 2 ^ 4) (Nat.pow_le_pow_right (by omega) (by omega)))
        simp [this]
    rw [h15]
    by_cases h4 : i < 4
    · simp [h4]
    · have e : 4 + (i - 4) = i := by omega
      simp [h4, hi, e]
  have hz : Fs.stN 4 ((c >>> 4) <<< 4) = c >>> 4 := by
    have b : ∀ k, (c >>> 4).getLsbD (28 + k) = false := by
      intro k
      rw [BitVec.getLsbD_ushiftRight]
      exact BitVec.getLsbD_of_ge _ _ (by omega)
    have e1 : Fs.st ((c >>> 4) <<< 4) = (c >>> 4) <<< 3 := by
      rw [show (c >>> 4) <<< 4 = ((c >>> 4) <<< 3) <<< 1 by rw [← BitVec.shiftLeft_add]]
      refine Fs.st_shl _ ?_
      rw [BitVec.getLsbD_shiftLeft]
      simp
    have e2 : Fs.st ((c >>> 4) <<< 3) = (c >>> 4) <<< 2 := by
      rw [show (c >>> 4) <<< 3 = ((c >>> 4) <<< 2) <<< 1 by rw [← BitVec.shiftLeft_add]]
      refine Fs.st_shl _ ?_
      rw [BitVec.getLsbD_shiftLeft]
      simp
    have e3 : Fs.st ((c >>> 4) <<< 2) = (c >>> 4) <<< 1 := by
      rw [show (c >>> 4) <<< 2 = ((c >>> 4) <<< 1) <<< 1 by rw [← BitVec.shiftLeft_add]]
      refine Fs.st_shl _ ?_
      rw [BitVec.getLsbD_shiftLeft]
      simp
    have e4 : Fs.st ((c >>> 4) <<< 1) = c >>> 4 := Fs.st_shl _ (b 3)
    show Fs.st (Fs.st (Fs.st (Fs.st _))) = _
    rw [e1, e2, e3, e4]
  conv => lhs; rw [hd]
  rw [Fs.stN_xor, hz]
theorem and15 (c : Fs.Reg) : c &&& 15#32 = BitVec.ofNat 32 (c.toNat % 16) := by
  apply BitVec.eq_of_toNat_eq
  rw [BitVec.toNat_and, BitVec.toNat_ofNat]
  have := Nat.and_two_pow_sub_one_eq_mod c.toNat 4
  simp at this ⊢
  rw [this]
  omega
theorem and15_I (c : Fs.Reg) : Go.bits .and .u32 (rI c) 15 = ((c.toNat % 16 : Nat) : Int) := by
  rw [← f_I, bits_and, and15]
  unfold rI
  rw [BitVec.toNat_ofNat]
  have : c.toNat % 16 % 2 ^ 32 = c.toNat % 16 := by omega
  rw [this]
def tabI (j : Nat) : Int := rI (Fs.stN 4 (BitVec.ofNat 32 j))
/-- Half an octet, as the walk spells it. -/
theorem half_walk (c : Fs.Reg) : Go.bits .xor .u32 (rI c / (16 : Int)) (tabI (c.toNat % 16)) = rI (Fs.stN 4 c) := by
  unfold tabI
  rw [rI_shr4, bits_xor, ← and15, ← half_bv]
theorem reg_I (x : Int) (h : 0 ≤ x ∧ x < 256) : rI (Fs.reg (UInt8.ofNat x.toNat)) = x := by
  obtain ⟨n, rfl⟩ := nat_of h.1
  unfold rI Fs.reg
  simp
  omega
theorem stN_8 (c : Fs.Reg) : Fs.stN 4 (Fs.stN 4 c) = Fs.stN 8 c := by rw [← Fs.stN_add]
theorem run_snoc (c : Fs.Reg) (l : List Int) (x : Int) : Fs.run c (toB (l ++ [x])) = Fs.stN 8 (Fs.run c (toB l) ^^^ Fs.reg (UInt8.ofNat x.toNat)) := by
  rw [toB_append, Fs.run_append]
  rfl
/-! ### what layer 2 says -/
def crcI (l : List Int) : Int := rI (Fs.crc (toB l))
def sealS (l : List Int) : List Int := l ++ putI 4 (crcI l)
def openS (l : List Int) : List Int × Int :=
  if l.length < 4 then ([], 8) else if leI (l.drop (l.length - 4)) ≠ crcI (l.take (l.length - 4)) then ([], 21) else (l.take (l.length - 4), 0)
theorem crcI_range (l : List Int) : 0 ≤ crcI l ∧ crcI l < 4294967296 := rI_range _
theorem BY_seal {l : List Int} (h : BY l) : BY (sealS l) := BY_append h (BY_put _ _)
theorem seal_len (l : List Int) : (sealS l).length = l.length + 4 := by simp [sealS, putI_length]
theorem seal_toB (l : List Int) : toB (sealS l) = Fs.seal_ (toB l) := by
  unfold sealS Fs.seal_ crcI rI
  rw [toB_append]
  congr 1
  unfold putI
  rw [toB_ofB, Int.toNat_natCast]
theorem open_seal {l : List Int} : openS (sealS l) = (l, 0) := by
  unfold openS
  have h1 : (sealS l).length - 4 = l.length := by rw [seal_len]; omega
  have h2 : (sealS l).drop l.length = putI 4 (crcI l) := by unfold sealS; rw [List.drop_left]
  have h3 : (sealS l).take l.length = l := by unfold sealS; rw [List.take_left]
  have hr := crcI_range l
  rw [if_neg (by rw [seal_len]; omega), h1, h2, h3, leI_put 4 _ hr.1 (by omega), if_neg (by simp)]
end Go.Proofs.Ythkjahoebkicbaa.Pl
