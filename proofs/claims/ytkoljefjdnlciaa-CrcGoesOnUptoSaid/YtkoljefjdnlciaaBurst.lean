/- Bits that are turned within a window of 32, as the two laws of layer 2 turn them. -/
import Derived.Test.YtkoljefjdnlciaaCrc
import Derived.Laws.BitsLemmas
namespace Go.Proofs.Ytkoljefjdnlciaa.Fs
theorem bits_at (l : Bytes) : ∀ k, (bits l).getD k false = (l.getD (k / 8) 0).toNat.testBit (k % 8) := by
  induction l with
  | nil =>
    intro k
    simp [bits]
  | cons x l ih =>
    intro k
    have e : bits (x :: l) = bits8 x ++ bits l := by simp [bits]
    rw [e]
    by_cases h : k < 8
    · rw [List.getD_eq_getElem?_getD, List.getElem?_append_left (by rw [bits8_length]; exact h), ← List.getD_eq_getElem?_getD, bits8_getD, Nat.div_eq_of_lt h, Nat.mod_eq_of_lt h]
      rfl
    · rw [List.getD_eq_getElem?_getD, List.getElem?_append_right (by rw [bits8_length]; omega), ← List.getD_eq_getElem?_getD, bits8_length, ih (k - 8)]
      have h1 : k / 8 = (k - 8) / 8 + 1 := by omega
      have h2 : (k - 8) % 8 = k % 8 := by omega
      rw [h1, h2]
      rfl
end Go.Proofs.Ytkoljefjdnlciaa.Fs
namespace Go.Proofs.Ytkoljefjdnlciaa.Pl
open Go.RowKit Go.Proofs.YtkoljefjdnlciaaW.PrintWords
theorem toB_set (l : List Int) (p : Nat) (v : Int) : toB (l.set p v) = (toB l).set p (UInt8.ofNat v.toNat) := by simp [toB, List.map_set]
theorem toB_getD (l : List Int) (p : Nat) : (toB l).getD p 0 = UInt8.ofNat (l.getD p 0).toNat := by
  simp only [toB, List.getD_eq_getElem?_getD, List.getElem?_map]
  cases l[p]? <;> rfl
theorem u8w {x : Int} (h0 : 0 ≤ x) (h1 : x < 256) : IntKind.u8.wrap x = x := by
  rw [IntKind.wrap_u8]
  omega
theorem xor8 (a b : Nat) (ha : a < 256) (hb : b < 256) : Go.bits .xor .u8 (a : Int) (b : Int) = ((a ^^^ b : Nat) : Int) := by
  have hx : a ^^^ b < 2 ^ 8 := Nat.xor_lt_two_pow (by omega) (by omega)
  have h : IntKind.u8.wrap ((((BitVec.ofInt 8 (a : Int)) ^^^ (BitVec.ofInt 8 (b : Int))).toNat : Nat) : Int) = ((a ^^^ b : Nat) : Int) := by
    simp only [BitVec.ofInt_natCast, BitVec.toNat_xor, BitVec.toNat_ofNat]
    rw [Nat.mod_eq_of_lt (by omega), Nat.mod_eq_of_lt (by omega)]
    exact u8w (by omega) (by omega)
  exact h
theorem shl8 (q : Nat) (hq : q < 8) : shl .u8 1 (q : Int) = ((2 ^ q : Nat) : Int) := by
  have : q = 0 ∨ q = 1 ∨ q = 2 ∨ q = 3 ∨ q = 4 ∨ q = 5 ∨ q = 6 ∨ q = 7 := by omega
  rcases this with rfl | rfl | rfl | rfl | rfl | rfl | rfl | rfl <;> decide
theorem odd_shr (t i : Nat) (ht : t < 4294967296) (hi : i < 32) : (Go.bits .and .u32 (shr .u32 (t : Int) (i : Int)) 1 = 1) ↔ t.testBit i = true := by
  have e1 : shr .u32 (t : Int) (i : Int) = ((t / 2 ^ i : Nat) : Int) := by
    unfold shr
    rw [Int.toNat_natCast, Nat.min_eq_left (by simp [IntKind.bits]; omega)]
    simp
  have hle : t / 2 ^ i ≤ t := Nat.div_le_self _ _
  have e2 := (bits_nat .u32 32 (by decide) (fun n h0 h1 => u32w h0 (by simpa using h1)) (t / 2 ^ i) 1 (by omega) (by decide)).1
  rw [e1, show (1 : Int) = ((1 : Nat) : Int) from rfl, e2, Nat.and_one_is_mod, Nat.testBit_eq_decide_div_mod_eq]
  simp only [decide_eq_true_eq]
  omega
/-- x is s with bits a, .., a + i - 1 turned where t says so. -/
def Turned (s : List Int) (a t i : Nat) (x : List Int) : Prop :=
  BY x ∧ x.length = s.length ∧ ∀ k, (Fs.bits (toB x)).getD k false = Bool.xor ((Fs.bits (toB s)).getD k false) (decide (a ≤ k ∧ k < a + i) && t.testBit (k - a))
theorem turned_zero {s : List Int} (h : BY s) (a t : Nat) : Turned s a t 0 s := by
  refine ⟨h, rfl, fun k => ?_⟩
  rw [decide_eq_false (by omega)]
  simp
theorem turned_skip {s x : List Int} {a t i : Nat} (h : Turned s a t i x) (ht : t.testBit i = false) : Turned s a t (i + 1) x := by
  refine ⟨h.1, h.2.1, fun k => ?_⟩
  rw [h.2.2 k]
  congr 1
  by_cases hk : k = a + i
  · subst hk
    rw [decide_eq_false (by omega), decide_eq_true (by omega), Nat.add_sub_cancel_left, ht]
    rfl
  · congr 1
    exact decide_eq_decide.2 (by omega)
theorem turned_step {s x : List Int} {a t i : Nat} (h : Turned s a t i x) (hl : a + i < 8 * s.length) (ht : t.testBit i = true) :
    Turned s a t (i + 1) (x.set ((a + i) / 8) (Go.bits .xor .u8 (x.getD ((a + i) / 8) 0) (shl .u8 1 (((a + i) % 8 : Nat) : Int)))) := by
  obtain ⟨hb, hlen, hk⟩ := h
  have hp : (a + i) / 8 < x.length := by omega
  have h8 := BY_at hb ((a + i) / 8)
  obtain ⟨n, hn⟩ := nat_of h8.1
  have hn8 : n < 256 := by omega
  have hq : (a + i) % 8 < 8 := by omega
  have hpow : 2 ^ ((a + i) % 8) < 2 ^ 8 := Nat.pow_lt_pow_right (by omega) hq
  have hx : n ^^^ 2 ^ ((a + i) % 8) < 2 ^ 8 := Nat.xor_lt_two_pow (by omega) hpow
  rw [hn, shl8 _ hq, xor8 _ _ hn8 (by omega)]
  refine ⟨fun z hz => ?_, by simpa using hlen, fun k => ?_⟩
  · rcases List.mem_or_eq_of_mem_set hz with hz | rfl
    · exact hb z hz
    · omega
  · have e0 : (toB x).getD ((a + i) / 8) 0 = UInt8.ofNat n := by rw [toB_getD, hn]; rfl
    have hk' := hk k
    rw [Fs.bits_at] at hk' ⊢
    rw [toB_set, Int.toNat_natCast]
    by_cases he : k / 8 = (a + i) / 8
    · rw [he, List.getD_eq_getElem?_getD, List.getElem?_set_self (by rw [toB_length]; exact hp), Option.getD_some]
      rw [he, e0] at hk'
      simp only [UInt8.toNat_ofNat', Nat.mod_eq_of_lt hn8] at hk'
      simp only [UInt8.toNat_ofNat', Nat.mod_eq_of_lt hx, Nat.testBit_xor, hk', Nat.testBit_two_pow]
      by_cases hki : k = a + i
      · subst hki
        rw [decide_eq_false (show ¬ (a ≤ a + i ∧ a + i < a + i) by omega), decide_eq_true (show a ≤ a + i ∧ a + i < a + (i + 1) by omega), Nat.add_sub_cancel_left, ht]
        simp
      · have h1 : ¬ (a + i) % 8 = k % 8 := by omega
        have h2 : decide (a ≤ k ∧ k < a + (i + 1)) = decide (a ≤ k ∧ k < a + i) := decide_eq_decide.2 (by omega)
        rw [h2, decide_eq_false h1, Bool.xor_false]
    · rw [List.getD_eq_getElem?_getD, List.getElem?_set_ne (fun h => he h.symm), ← List.getD_eq_getElem?_getD, hk']
      have h2 : decide (a ≤ k ∧ k < a + (i + 1)) = decide (a ≤ k ∧ k < a + i) := decide_eq_decide.2 (by omega)
      rw [h2]
theorem turned_run {s x : List Int} {a t : Nat} (h : Turned s a t 32 x) (hl : a + 32 ≤ 8 * s.length) (ht : t < 4294967296) (h0 : t ≠ 0) (c : Fs.Reg) : Fs.run c (toB x) ≠ Fs.run c (toB s) := by
  obtain ⟨hb, hlen, hk⟩ := h
  have hw : ∀ j, ((List.range 32).map t.testBit).getD j false = (decide (j < 32) && t.testBit j) := by
    intro j
    rw [List.getD_eq_getElem?_getD, List.getElem?_map]
    by_cases hj : j < 32
    · rw [List.getElem?_range hj]
      simp [hj]
    · rw [List.getElem?_eq_none (by simp; omega)]
      simp [hj]
  refine Fs.burst c (toB s) (toB x) a 32 (8 * s.length - (a + 32)) ((List.range 32).map t.testBit) (by rw [toB_length, toB_length, hlen]) (by rw [toB_length]; omega) (by simp) (Nat.le_refl _) ?_ ?_
  · intro hz
    apply h0
    apply Nat.eq_of_testBit_eq
    intro j
    rw [Nat.zero_testBit]
    by_cases hj : j < 32
    · have := Fs.ofBits_bit ((List.range 32).map t.testBit) j hj
      rw [hz, hw j] at this
      simpa [hj] using this.symm
    · exact Nat.testBit_lt_two_pow (Nat.lt_of_lt_of_le ht (by
        calc 4294967296 = 2 ^ 32 := by decide
          _ ≤ 2 ^ j := Nat.pow_le_pow_right (by omega) (by omega)))
  · intro k _
    rw [hk k]
    congr 1
    by_cases ha : a ≤ k
    · rw [if_pos ha, hw]
      congr 1
      exact decide_eq_decide.2 (by omega)
    · rw [if_neg ha, decide_eq_false (by omega)]
      rfl
/-- Where the window stands. -/
theorem window (at_ B : Int) (hB : 32 ≤ B) (hB2 : B < 4503599627370496) : ∃ a : Nat, Int.tmod (wrap64 ((wrap64 ((Int.tmod at_ (wrap64 (B - 31))) + B)) - 31)) (wrap64 (B - 31)) = (a : Int) ∧ (a : Int) + 32 ≤ B := by
  have e : wrap64 (B - 31) = B - 31 := w64 (by omega) (by omega)
  rw [e]
  have h1 : Int.tmod at_ (B - 31) < B - 31 := Int.tmod_lt_of_pos _ (by omega)
  have h2 : -(B - 31) < Int.tmod at_ (B - 31) := by
    have := Int.tmod_lt_of_pos (-at_) (b := B - 31) (by omega)
    rw [Int.neg_tmod] at this
    omega
  generalize Int.tmod at_ (B - 31) = y at h1 h2
  rw [w64 (x := y + B) (by omega) (by omega), w64 (x := y + B - 31) (by omega) (by omega), Int.tmod_eq_emod_of_nonneg (by omega)]
  have h3 := Int.emod_nonneg (y + B - 31) (show B - 31 ≠ 0 by omega)
  have h4 := Int.emod_lt_of_pos (y + B - 31) (show 0 < B - 31 by omega)
  obtain ⟨a, ha⟩ := nat_of h3
  exact ⟨a, ha, by omega⟩
end Go.Proofs.Ytkoljefjdnlciaa.Pl
