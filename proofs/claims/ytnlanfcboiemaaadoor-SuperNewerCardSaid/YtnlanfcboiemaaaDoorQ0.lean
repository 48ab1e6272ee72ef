/- One octet that is turned: the sum tells it. -/
import Derived.Test.YtnlanfcboiemaaaDoorC2
import Derived.Test.YtnlanfcboiemaaaDoorCrc
import Derived.Laws.BitsLemmas
namespace Go.Proofs.YtnlanfcboiemaaaDoor.AE
open Go Go.RowKit Go.Proofs Go.Proofs.YtnlanfcboiemaaaDoor
set_option linter.unusedVariables false
set_option linter.unusedSimpArgs false
theorem reg_inj {x y : UInt8} (h : Fs.reg x = Fs.reg y) : x = y := by
  have := congrArg BitVec.toNat h
  simp only [Fs.reg, BitVec.toNat_ofNat] at this
  have h1 := x.toNat_lt
  have h2 := y.toNat_lt
  apply UInt8.toNat_inj.1
  omega
theorem xor_cancel {a b c : Fs.Reg} (h : a ^^^ b = a ^^^ c) : b = c := by
  have := congrArg (a ^^^ ·) h
  simpa [← BitVec.xor_assoc] using this
theorem run_reg_inj (l : Fs.Bytes) : ∀ a b, Fs.run a l = Fs.run b l → a = b := by
  induction l with
  | nil => intro a b h; exact h
  | cons x l ih =>
    intro a b h
    have h1 : Fs.bst a x = Fs.bst b x := ih _ _ h
    have h2 := Fs.stN_inj 8 _ _ h1
    rw [BitVec.xor_comm a, BitVec.xor_comm b] at h2
    exact xor_cancel h2
theorem run_set (l : Fs.Bytes) : ∀ (c : Fs.Reg) (i : Nat) (x y : UInt8), l[i]? = some x → y ≠ x → Fs.run c (l.set i y) ≠ Fs.run c l := by
  induction l with
  | nil => intro c i x y h; simp at h
  | cons z l ih =>
    intro c i x y h hy he
    cases i with
    | zero =>
      simp at h
      subst h
      have h1 : Fs.bst c y = Fs.bst c z := run_reg_inj l _ _ he
      exact hy (reg_inj (xor_cancel (Fs.stN_inj 8 _ _ h1)))
    | succ i => exact ih (Fs.bst c z) i x y (by simpa using h) hy he
theorem open_turned {l x : List Int} (hl : x.length = (Pl.sealS l).length) (h : ∀ c, Fs.run c (Pl.toB x) ≠ Fs.run c (Pl.toB (Pl.sealS l))) : Pl.openS x = ([], 21) := by
  have hx : x.length = l.length + 4 := by rw [hl, Pl.seal_len]
  have hgood : Fs.run (~~~ 0#32) (Pl.toB (Pl.sealS l)) = Fs.stN 32 (~~~ 0#32) := by
    rw [Pl.seal_toB]
    exact (Fs.good_iff (Pl.toB l) _ (Fs.put_length _ _)).1 (by rw [Fs.le_put]; have := (Fs.crc (Pl.toB l)).isLt; omega)
  unfold Pl.openS
  rw [if_neg (by omega)]
  split
  · rfl
  · rename_i hne
    exfalso
    have he : Pl.leI (x.drop (x.length - 4)) = Pl.crcI (x.take (x.length - 4)) := by
      by_cases hh : Pl.leI (x.drop (x.length - 4)) = Pl.crcI (x.take (x.length - 4))
      · exact hh
      · exact absurd hh hne
    have h2 := (Fs.good_iff (Pl.toB (x.take (x.length - 4))) (Pl.toB (x.drop (x.length - 4))) (by rw [Pl.toB_length, List.length_drop]; omega)).1 (by
      unfold Pl.leI Pl.crcI Pl.rI at he
      omega)
    rw [← Pl.toB_append, List.take_append_drop] at h2
    exact h _ (h2.trans hgood.symm)
theorem xor8 (a b : Nat) (ha : a < 256) (hb : b < 256) : bits .xor .u8 (a : Int) (b : Int) = ((a ^^^ b : Nat) : Int) := by
  have hx : a ^^^ b < 2 ^ 8 := Nat.xor_lt_two_pow (by omega) (by omega)
  have h : IntKind.u8.wrap ((((BitVec.ofInt 8 (a : Int)) ^^^ (BitVec.ofInt 8 (b : Int))).toNat : Nat) : Int) = ((a ^^^ b : Nat) : Int) := by
    simp only [BitVec.ofInt_natCast, BitVec.toNat_xor, BitVec.toNat_ofNat]
    rw [Nat.mod_eq_of_lt (by omega), Nat.mod_eq_of_lt (by omega), IntKind.wrap_u8]
    omega
  exact h
theorem open_rot {p : List Int} {j : Nat} {c t : Int} (hc : (Pl.sealS p)[j]? = some c) (h0 : 0 ≤ c ∧ c < 256) (h1 : 0 < t ∧ t < 256) : Pl.openS ((Pl.sealS p).set j (bits .xor .u8 c t)) = ([], 21) := by
  refine open_turned (l := p) (by simp) fun r => ?_
  obtain ⟨c, rfl⟩ : ∃ n : Nat, c = (n : Int) := ⟨c.toNat, by omega⟩
  obtain ⟨t, rfl⟩ : ∃ n : Nat, t = (n : Int) := ⟨t.toNat, by omega⟩
  rw [xor8 c t (by omega) (by omega), show Pl.toB ((Pl.sealS p).set j ((c ^^^ t : Nat) : Int)) = (Pl.toB (Pl.sealS p)).set j (UInt8.ofNat (((c ^^^ t : Nat) : Int)).toNat) from by simp [Pl.toB, List.map_set]]
  refine run_set _ r j (UInt8.ofNat c) _ (by simp [Pl.toB, hc]) ?_
  intro e
  have hx : c ^^^ t < 2 ^ 8 := Nat.xor_lt_two_pow (by omega) (by omega)
  have e2 := congrArg UInt8.toNat e
  simp only [Int.toNat_natCast, UInt8.toNat_ofNat'] at e2
  rw [Nat.mod_eq_of_lt (by omega), Nat.mod_eq_of_lt (by omega)] at e2
  have : c ^^^ (c ^^^ t) = c ^^^ c := by rw [e2]
  rw [← Nat.xor_assoc, Nat.xor_self, Nat.zero_xor] at this
  omega
#print axioms open_rot
end Go.Proofs.YtnlanfcboiemaaaDoor.AE
