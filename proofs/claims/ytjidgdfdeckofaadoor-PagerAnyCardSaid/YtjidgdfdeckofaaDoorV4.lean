/- Texts Fs, Pl, Oct. -/
import Derived.Test.YtjidgdfdeckofaaDoorV3
/- Plain words for octets and checksums: no Go and no memory in it. -/
namespace Go.Proofs.YtjidgdfdeckofaaDoor
namespace Fs
abbrev Bytes := List UInt8

/-! ### numbers as octets, the lowest first -/
def le : Bytes → Nat
  | [] => 0
  | b :: r => b.toNat + 256 * le r
def put : Nat → Nat → Bytes
  | 0, _ => []
  | k + 1, n => UInt8.ofNat (n % 256) :: put k (n / 256)

theorem put_length (k n : Nat) : (put k n).length = k := by
  induction k generalizing n with
  | zero => rfl
  | succ k ih => simp [put, ih]
theorem le_lt (b : Bytes) : le b < 256 ^ b.length := by
  induction b with
  | nil => simp [le]
  | cons x r ih =>
    have := x.toNat_lt
    simp only [le, List.length_cons, Nat.pow_succ]
    omega
theorem le_put (k n : Nat) (h : n < 256 ^ k) : le (put k n) = n := by
  induction k generalizing n with
  | zero => simp at h; subst h; rfl
  | succ k ih =>
    rw [Nat.pow_succ] at h
    simp only [put, le]
    rw [ih (n / 256) (by omega)]
    have : (UInt8.ofNat (n % 256)).toNat = n % 256 := by simp
    omega
theorem put_le (b : Bytes) : put b.length (le b) = b := by
  induction b with
  | nil => rfl
  | cons x r ih =>
    have hx := x.toNat_lt
    have h1 : (x.toNat + 256 * le r) % 256 = x.toNat := by omega
    have h2 : (x.toNat + 256 * le r) / 256 = le r := by omega
    simp only [le, List.length_cons, put]
    rw [h1, h2, ih]
    simp
theorem put_inj (k a b : Nat) (ha : a < 256 ^ k) (hb : b < 256 ^ k) (h : put k a = put k b) : a = b := by
  rw [← le_put k a ha, ← le_put k b hb, h]
theorem le_inj (a b : Bytes) (hl : a.length = b.length) (h : le a = le b) : a = b := by
  rw [← put_le a, ← put_le b, hl, h]
theorem put_mod (k n : Nat) : put k (n % 256 ^ k) = put k n := by
  induction k generalizing n with
  | zero => rfl
  | succ k ih =>
    simp only [put]
    have h1 : n % 256 ^ (k + 1) % 256 = n % 256 := by
      rw [Nat.pow_succ, Nat.mul_comm, Nat.mod_mul_right_mod]
    have h2 : n % 256 ^ (k + 1) / 256 = (n / 256) % 256 ^ k := by
      rw [Nat.pow_succ, Nat.mul_comm, Nat.mod_mul_right_div_self]
    rw [h1, h2, ih]
theorem put_succ (k n : Nat) : put (k + 1) n = put k n ++ [UInt8.ofNat (n / 256 ^ k % 256)] := by
  induction k generalizing n with
  | zero => simp [put]
  | succ k ih =>
    rw [put, ih (n / 256), put]
    simp only [List.cons_append]
    rw [Nat.div_div_eq_div_mul, Nat.pow_succ, Nat.mul_comm (256 ^ k) 256]
theorem le_append (a b : Bytes) : le (a ++ b) = le a + 256 ^ a.length * le b := by
  induction a with
  | nil => simp [le]
  | cons x r ih =>
    simp only [List.cons_append, le, ih, List.length_cons, Nat.pow_succ]
    rw [Nat.mul_add, ← Nat.mul_assoc, Nat.mul_comm (256 ^ r.length) 256, Nat.add_assoc]

/-! ### the checksum -/
abbrev Reg := BitVec 32
def poly : Reg := 0x82f63b78#32
def st (c : Reg) : Reg := (c >>> 1) ^^^ (if c.getLsbD 0 = true then poly else 0#32)
def stN : Nat → Reg → Reg
  | 0, c => c
  | n + 1, c => stN n (st c)
def bit (b : Bool) : Reg := if b = true then 1#32 else 0#32
def runBits (c : Reg) (m : List Bool) : Reg := m.foldl (fun c b => st (c ^^^ bit b)) c
def ofBits : List Bool → Reg
  | [] => 0#32
  | b :: m => bit b ^^^ (ofBits m <<< 1)
def reg (x : UInt8) : Reg := BitVec.ofNat 32 x.toNat
def bst (c : Reg) (x : UInt8) : Reg := stN 8 (c ^^^ reg x)
def run (c : Reg) (l : Bytes) : Reg := l.foldl bst c
def more (c : Reg) (l : Bytes) : Reg := ~~~ run (~~~ c) l
def crc (l : Bytes) : Reg := more 0#32 l
def seal_ (l : Bytes) : Bytes := l ++ put 4 (crc l).toNat

theorem xor4 (a b c d : Reg) : (a ^^^ b) ^^^ (c ^^^ d) = (a ^^^ c) ^^^ (b ^^^ d) := by
  ext i hi
  simp [BitVec.getElem_xor]
  cases a[i] <;> cases b[i] <;> cases c[i] <;> cases d[i] <;> rfl
theorem st_xor (a b : Reg) : st (a ^^^ b) = st a ^^^ st b := by
  unfold st
  rw [BitVec.ushiftRight_xor_distrib, BitVec.getLsbD_xor, xor4]
  congr 1
  cases a.getLsbD 0 <;> cases b.getLsbD 0 <;> simp
theorem st_zero : st 0#32 = 0#32 := by decide
theorem stN_xor (n : Nat) (a b : Reg) : stN n (a ^^^ b) = stN n a ^^^ stN n b := by
  induction n generalizing a b with
  | zero => rfl
  | succ n ih => simp only [stN, st_xor, ih]
theorem stN_zero (n : Nat) : stN n 0#32 = 0#32 := by
  induction n with
  | zero => rfl
  | succ n ih => simp only [stN, st_zero, ih]
theorem stN_add (m n : Nat) (c : Reg) : stN (m + n) c = stN n (stN m c) := by
  induction m generalizing c with
  | zero => simp [stN]
  | succ m ih => rw [Nat.succ_add]; simp only [stN, ih]
theorem st_eq_zero (d : Reg) (h : st d = 0#32) : d = 0#32 := by
  unfold st at h
  by_cases h0 : d.getLsbD 0 = true
  · rw [if_pos h0] at h
    have := congrArg (fun v : Reg => v.getLsbD 31) h
    simp [poly] at this
  · rw [if_neg h0] at h
    have h' : d >>> 1 = 0#32 := by simpa using h
    apply BitVec.eq_of_getLsbD_eq
    intro i hi
    rcases i with _ | i
    · simpa using h0
    · have := congrArg (fun v : Reg => v.getLsbD i) h'
      simp only [BitVec.getLsbD_ushiftRight] at this
      rw [Nat.add_comm] at this
      simpa using this
theorem stN_eq_zero (n : Nat) (d : Reg) (h : stN n d = 0#32) : d = 0#32 := by
  induction n generalizing d with
  | zero => exact h
  | succ n ih => exact st_eq_zero d (ih _ h)
theorem xor_eq_zero (a b : Reg) (h : a ^^^ b = 0#32) : a = b := by
  have : a ^^^ b ^^^ b = b := by rw [h]; simp
  rwa [BitVec.xor_assoc, BitVec.xor_self, BitVec.xor_zero] at this
theorem stN_inj (n : Nat) (a b : Reg) (h : stN n a = stN n b) : a = b := by
  apply xor_eq_zero
  apply stN_eq_zero n
  rw [stN_xor, h, BitVec.xor_self]

theorem bit_xor (a b : Bool) : bit (Bool.xor a b) = bit a ^^^ bit b := by cases a <;> cases b <;> rfl
theorem runBits_append (c : Reg) (m n : List Bool) : runBits c (m ++ n) = runBits (runBits c m) n := by simp [runBits]
theorem runBits_xor (a b : Reg) (m n : List Bool) (h : m.length = n.length) : runBits (a ^^^ b) (m.zipWith Bool.xor n) = runBits a m ^^^ runBits b n := by
  induction m generalizing a b n with
  | nil =>
    cases n with
    | nil => rfl
    | cons _ _ => simp at h
  | cons x m ih =>
    cases n with
    | nil => simp at h
    | cons y n =>
      simp only [List.zipWith_cons_cons, runBits, List.foldl_cons]
      have := ih (st (a ^^^ bit x)) (st (b ^^^ bit y)) n (by simpa using h)
      simp only [runBits] at this
      rw [← this, ← st_xor, xor4, bit_xor]
theorem runBits_zeros (n : Nat) (c : Reg) : runBits c (List.replicate n false) = stN n c := by
  induction n generalizing c with
  | zero => rfl
  | succ n ih =>
    simp only [List.replicate_succ, runBits, List.foldl_cons, stN]
    have := ih (st c)
    simp only [runBits] at this
    simpa [bit] using this
theorem ofBits_high (m : List Bool) (k : Nat) (hk : m.length ≤ k) : (ofBits m).getLsbD k = false := by
  induction m generalizing k with
  | nil => simp [ofBits]
  | cons b m ih =>
    simp only [List.length_cons] at hk
    obtain ⟨k, rfl⟩ : ∃ j, k = j + 1 := ⟨k - 1, by omega⟩
    simp only [ofBits, BitVec.getLsbD_xor, BitVec.getLsbD_shiftLeft]
    rw [show k + 1 - 1 = k from rfl, ih k (by omega)]
    cases b <;> simp [bit]
theorem st_shl (v : Reg) (h : v.getLsbD 31 = false) : st (v <<< 1) = v := by
  unfold st
  have h0 : (v <<< 1).getLsbD 0 = false := by simp
  rw [if_neg (by simp)]
  rw [BitVec.xor_zero]
  apply BitVec.eq_of_getLsbD_eq
  intro i hi
  simp only [BitVec.getLsbD_ushiftRight, BitVec.getLsbD_shiftLeft]
  by_cases h31 : i = 31
  · subst h31; have := h; simp at this; simp [this]
  · have : 1 + i < 32 := by omega
    simp [this]
theorem runBits_ofBits (m : List Bool) (c : Reg) (h : m.length ≤ 32) : runBits c m = stN m.length (c ^^^ ofBits m) := by
  induction m generalizing c with
  | nil => simp [runBits, ofBits, stN]
  | cons b m ih =>
    simp only [List.length_cons] at h
    have := ih (st (c ^^^ bit b)) (by omega)
    simp only [runBits, List.foldl_cons] at this ⊢
    rw [this]
    simp only [List.length_cons, stN, ofBits]
    rw [← BitVec.xor_assoc, st_xor (c ^^^ bit b), st_shl _ (ofBits_high m 31 (by omega))]

/-! ### the bits of octets -/
def bits8 (x : UInt8) : List Bool := (List.range 8).map fun i => x.toNat.testBit i
def bits (l : Bytes) : List Bool := l.flatMap bits8
theorem bits8_length (x : UInt8) : (bits8 x).length = 8 := by simp [bits8]
theorem bits_length (l : Bytes) : (bits l).length = 8 * l.length := by
  induction l with
  | nil => rfl
  | cons x l ih => simp only [bits, List.flatMap_cons, List.length_append, bits8_length, List.length_cons] at ih ⊢; omega
theorem ofBits_bit (m : List Bool) (i : Nat) (h : i < 32) : (ofBits m).getLsbD i = m.getD i false := by
  induction m generalizing i with
  | nil => simp [ofBits]
  | cons b m ih =>
    simp only [ofBits, BitVec.getLsbD_xor, BitVec.getLsbD_shiftLeft]
    rcases i with _ | i
    · cases b <;> simp [bit]
    · rw [show i + 1 - 1 = i from rfl, ih i (by omega)]
      have h2 : (bit b).getLsbD (i + 1) = false := by
        cases b
        · simp [bit]
        · simp [bit]
      rw [h2]
      simp [h]
theorem ofBits_bits8 (x : UInt8) : ofBits (bits8 x) = reg x := by
  apply BitVec.eq_of_getLsbD_eq
  intro i hi
  rw [ofBits_bit _ _ hi, reg, BitVec.getLsbD_ofNat]
  by_cases h8 : i < 8
  · simp [bits8, List.getD_eq_getElem?_getD, h8, hi]
  · have : x.toNat.testBit i = false := Nat.testBit_lt_two_pow (Nat.lt_of_lt_of_le x.toNat_lt (Nat.pow_le_pow_right (by omega) (by omega)))
    simp [bits8, List.getD_eq_getElem?_getD, h8, this]
theorem bst_bits (c : Reg) (x : UInt8) : bst c x = runBits c (bits8 x) := by
  rw [runBits_ofBits _ _ (by rw [bits8_length]; omega), bits8_length, ofBits_bits8, bst]
theorem run_bits (c : Reg) (l : Bytes) : run c l = runBits c (bits l) := by
  induction l generalizing c with
  | nil => rfl
  | cons x l ih =>
    have : bits (x :: l) = bits8 x ++ bits l := rfl
    rw [this, runBits_append, ← bst_bits, ← ih]
    rfl
theorem run_append (c : Reg) (a b : Bytes) : run c (a ++ b) = run (run c a) b := by simp [run]

/-! ### laws -/
theorem more_append (c : Reg) (a b : Bytes) : more (more c a) b = more c (a ++ b) := by
  simp [more, run_append]
theorem crc_append (a b : Bytes) : more (crc a) b = crc (a ++ b) := more_append ..
theorem bits8_getD (x : UInt8) (i : Nat) : (bits8 x).getD i false = x.toNat.testBit i := by
  by_cases h8 : i < 8
  · simp [bits8, List.getD_eq_getElem?_getD, h8]
  · have : x.toNat.testBit i = false := Nat.testBit_lt_two_pow (Nat.lt_of_lt_of_le x.toNat_lt (Nat.pow_le_pow_right (by omega) (by omega)))
    simp [bits8, List.getD_eq_getElem?_getD, h8, this]
theorem bits_getD (l : Bytes) (i : Nat) : (bits l).getD i false = (le l).testBit i := by
  induction l generalizing i with
  | nil => simp [bits, le]
  | cons x l ih =>
    have e : bits (x :: l) = bits8 x ++ bits l := rfl
    have hx := x.toNat_lt
    have h2 : le (x :: l) = 2 ^ 8 * le l + x.toNat := by simp only [le]; omega
    rw [e, h2, Nat.testBit_two_pow_mul_add _ (by simpa using hx)]
    by_cases h8 : i < 8
    · rw [if_pos h8, ← bits8_getD]
      simp only [List.getD_eq_getElem?_getD]
      rw [List.getElem?_append_left (by rw [bits8_length]; exact h8)]
    · rw [if_neg h8, ← ih]
      simp only [List.getD_eq_getElem?_getD]
      rw [List.getElem?_append_right (by rw [bits8_length]; omega), bits8_length]
theorem ofBits_bits (l : Bytes) : ofBits (bits l) = BitVec.ofNat 32 (le l) := by
  apply BitVec.eq_of_getLsbD_eq
  intro i hi
  rw [ofBits_bit _ _ hi, bits_getD, BitVec.getLsbD_ofNat]
  simp [hi]
theorem run_le (c : Reg) (l : Bytes) (h : l.length = 4) : run c l = stN 32 (c ^^^ BitVec.ofNat 32 (le l)) := by
  have hb : (bits l).length = 32 := by rw [bits_length, h]
  rw [run_bits, runBits_ofBits _ _ (by omega), hb, ofBits_bits]

theorem xor_not (r : Reg) : r ^^^ ~~~ r = ~~~ 0#32 := by
  apply BitVec.eq_of_getLsbD_eq
  intro i hi
  simp only [BitVec.getLsbD_xor, BitVec.getLsbD_not, hi, decide_true, Bool.true_and]
  cases r.getLsbD i <;> simp
theorem xor_ones (r : Reg) : r ^^^ ~~~ 0#32 = ~~~ r := by
  apply BitVec.eq_of_getLsbD_eq
  intro i hi
  simp only [BitVec.getLsbD_xor, BitVec.getLsbD_not, hi, decide_true, Bool.true_and]
  cases r.getLsbD i <;> simp
/-- Four octets bear the sum of what stands ahead just where the register ends at one value. -/
theorem good_iff (a t : Bytes) (ht : t.length = 4) : le t = (crc a).toNat ↔ run (~~~ 0#32) (a ++ t) = stN 32 (~~~ 0#32) := by
  rw [run_append, run_le _ _ ht]
  have hlt : le t < 2 ^ 32 := by have := le_lt t; rw [ht] at this; simpa using this
  unfold crc more
  generalize run (~~~ 0#32) a = r
  constructor
  · intro h
    rw [h, BitVec.ofNat_toNat, BitVec.setWidth_eq]
    congr 1
    exact xor_not r
  · intro h
    have h1 := stN_inj _ _ _ h
    have h2 : BitVec.ofNat 32 (le t) = ~~~ r := by
      have h3 : r ^^^ (r ^^^ BitVec.ofNat 32 (le t)) = r ^^^ ~~~ 0#32 := by rw [h1]
      rw [← BitVec.xor_assoc, BitVec.xor_self, BitVec.zero_xor] at h3
      rw [h3]
      exact xor_ones r
    rw [← h2, BitVec.toNat_ofNat, Nat.mod_eq_of_lt hlt]

/-- What is turned within 32 bits in a row is told. -/
theorem burst (c : Reg) (s s' : Bytes) (a m r : Nat) (w : List Bool) (hs : s'.length = s.length) (hn : 8 * s.length = a + m + r) (hm : w.length = m) (h32 : m ≤ 32) (hw : ofBits w ≠ 0#32)
    (h : ∀ k, k < 8 * s.length → (bits s').getD k false = Bool.xor ((bits s).getD k false) (if a ≤ k then w.getD (k - a) false else false)) : run c s' ≠ run c s := by
  have he : bits s' = (bits s).zipWith Bool.xor (List.replicate a false ++ w ++ List.replicate r false) := by
    apply List.ext_getElem?
    intro k
    by_cases hk : k < 8 * s.length
    · have h1 := h k hk
      have l1 : k < (bits s').length := by rw [bits_length, hs]; exact hk
      have l2 : k < (bits s).length := by rw [bits_length]; exact hk
      simp only [List.getD_eq_getElem?_getD, List.getElem?_eq_getElem l1, List.getElem?_eq_getElem l2, Option.getD_some] at h1
      rw [List.getElem?_zipWith, List.getElem?_eq_getElem l1, List.getElem?_eq_getElem l2, h1]
      rcases Nat.lt_or_ge k a with ha | ha
      · rw [if_neg (by omega)]
        rw [List.append_assoc, List.getElem?_append_left (by simpa using ha)]
        simp [ha]
      · rw [if_pos ha, List.append_assoc, List.getElem?_append_right (by simpa using ha)]
        simp only [List.length_replicate]
        rcases Nat.lt_or_ge (k - a) m with hlt | hge
        · rw [List.getElem?_append_left (by omega), List.getElem?_eq_getElem (by omega)]
          simp
        · rw [List.getElem?_append_right (by omega), hm]
          have : w[k - a]? = none := List.getElem?_eq_none (by omega)
          rw [this, List.getElem?_replicate, if_pos (by omega)]
          simp
    · rw [List.getElem?_eq_none (by rw [bits_length, hs]; omega), List.getElem?_zipWith, List.getElem?_eq_none (by rw [bits_length]; omega)]
  intro hc
  rw [run_bits, run_bits, he] at hc
  have h0 : runBits (c ^^^ 0#32) ((bits s).zipWith Bool.xor (List.replicate a false ++ w ++ List.replicate r false)) = _ :=
    runBits_xor c 0#32 (bits s) _ (by rw [bits_length]; simp [hm]; omega)
  rw [BitVec.xor_zero] at h0
  rw [h0] at hc
  have h1 : runBits 0#32 (List.replicate a false ++ w ++ List.replicate r false) = 0#32 := by
    generalize runBits c (bits s) = x at hc
    have : x ^^^ (x ^^^ runBits 0#32 (List.replicate a false ++ w ++ List.replicate r false)) = x ^^^ x := by rw [hc]
    rwa [← BitVec.xor_assoc, BitVec.xor_self, BitVec.zero_xor] at this
  rw [runBits_append, runBits_append, runBits_zeros, runBits_zeros, stN_zero] at h1
  have h2 := stN_eq_zero _ _ h1
  rw [runBits_ofBits _ _ (by omega), BitVec.zero_xor] at h2
  exact hw (stN_eq_zero _ _ h2)

def xorB (a b : Bytes) : Bytes := a.zipWith (fun x y => UInt8.ofNat (x.toNat ^^^ y.toNat)) b
theorem reg_xor (x y : UInt8) : reg (UInt8.ofNat (x.toNat ^^^ y.toNat)) = reg x ^^^ reg y := by
  have h : x.toNat ^^^ y.toNat < 2 ^ 8 := Nat.xor_lt_two_pow x.toNat_lt y.toNat_lt
  have h2 : (UInt8.ofNat (x.toNat ^^^ y.toNat)).toNat = x.toNat ^^^ y.toNat := by
    simp only [UInt8.toNat_ofNat']; exact Nat.mod_eq_of_lt h
  unfold reg
  rw [h2]
  apply BitVec.eq_of_getLsbD_eq
  intro i hi
  simp [hi]
theorem run_xor (a b : Reg) (l m : Bytes) (h : l.length = m.length) : run (a ^^^ b) (xorB l m) = run a l ^^^ run b m := by
  induction l generalizing a b m with
  | nil =>
    cases m with
    | nil => rfl
    | cons _ _ => simp at h
  | cons x l ih =>
    cases m with
    | nil => simp at h
    | cons y m =>
      have := ih (bst a x) (bst b y) m (by simpa using h)
      simp only [run, xorB, List.zipWith_cons_cons, List.foldl_cons] at this ⊢
      rw [← this]
      congr 1
      simp only [bst]
      rw [← stN_xor, reg_xor, xor4]
/-- The sums of three texts of one length are linear. -/
theorem crc_xor3 (a b c : Bytes) (h1 : a.length = b.length) (h2 : a.length = c.length) : crc (xorB (xorB a b) c) = crc a ^^^ crc b ^^^ crc c := by
  have hl : (xorB a b).length = c.length := by simp [xorB, ← h1, h2]
  have e := run_xor (~~~ 0#32 ^^^ ~~~ 0#32) (~~~ 0#32) (xorB a b) c hl
  rw [run_xor _ _ _ _ h1] at e
  have e0 : ~~~ 0#32 ^^^ ~~~ 0#32 ^^^ ~~~ (0#32) = ~~~ (0#32 : Reg) := by decide
  rw [e0] at e
  simp only [crc, more, e]
  generalize run (~~~ 0#32) a = x
  generalize run (~~~ 0#32) b = y
  generalize run (~~~ 0#32) c = z
  apply BitVec.eq_of_getLsbD_eq
  intro i hi
  simp only [BitVec.getLsbD_xor, BitVec.getLsbD_not, hi, decide_true, Bool.true_and]
  cases x.getLsbD i <;> cases y.getLsbD i <;> cases z.getLsbD i <;> rfl
end Fs
end Go.Proofs.YtjidgdfdeckofaaDoor

/- Plain words between the print's lists of whole numbers and lists of octets: no memory in it. -/
namespace Go.Proofs.YtjidgdfdeckofaaDoor.Pl
open Go.RowKit Go.Proofs.YtjidgdfdeckofaaDoorW.PrintWords Go.Proofs.YtjidgdfdeckofaaDoorW.PrintMore
open Go.Proofs.YtjidgdfdeckofaaDoor

/-! ### whole numbers -/
theorem w64 {x : Int} (h0 : -9223372036854775808 ≤ x) (h1 : x < 9223372036854775808) : wrap64 x = x := by unfold wrap64; omega
theorem w64_range (x : Int) : -9223372036854775808 ≤ wrap64 x ∧ wrap64 x < 9223372036854775808 := by unfold wrap64; omega
theorem u64w {x : Int} (h0 : 0 ≤ x) (h1 : x < 18446744073709551616) : IntKind.u64.wrap x = x := by
  simp [IntKind.wrap, IntKind.bits, IntKind.signed]
  omega
theorem wf_i64 {x : Int} (h : (Lit.int .i64 x).wf = true) : -9223372036854775808 ≤ x ∧ x < 9223372036854775808 := by
  simp [Lit.wf, IntKind.min, IntKind.max, IntKind.bits, IntKind.signed] at h
  omega
theorem wf_u64 {x : Int} (h : (Lit.int .u64 x).wf = true) : 0 ≤ x ∧ x < 18446744073709551616 := by
  simp [Lit.wf, IntKind.min, IntKind.max, IntKind.bits, IntKind.signed] at h
  omega
theorem wf_u32 {x : Int} (h : (Lit.int .u32 x).wf = true) : 0 ≤ x ∧ x < 4294967296 := by
  simp [Lit.wf, IntKind.min, IntKind.max, IntKind.bits, IntKind.signed] at h
  omega
theorem wf_u8 {x : Int} (h : (Lit.int .u8 x).wf = true) : 0 ≤ x ∧ x < 256 := by
  simp [Lit.wf, IntKind.min, IntKind.max, IntKind.bits, IntKind.signed] at h
  omega

/-! ### octets -/
def BY (l : List Int) : Prop := ∀ x ∈ l, 0 ≤ x ∧ x < 256
def ofB (b : Fs.Bytes) : List Int := b.map fun x => (x.toNat : Int)
def toB (l : List Int) : Fs.Bytes := l.map fun x => UInt8.ofNat x.toNat
def leI (l : List Int) : Int := (Fs.le (toB l) : Int)
def putI (k : Nat) (n : Int) : List Int := ofB (Fs.put k n.toNat)
theorem ofB_length (b : Fs.Bytes) : (ofB b).length = b.length := by simp [ofB]
theorem toB_length (l : List Int) : (toB l).length = l.length := by simp [toB]
theorem putI_length (k : Nat) (n : Int) : (putI k n).length = k := by simp [putI, ofB_length, Fs.put_length]
theorem toB_ofB (b : Fs.Bytes) : toB (ofB b) = b := by
  simp [toB, ofB, Function.comp_def]
theorem ofB_toB {l : List Int} (h : BY l) : ofB (toB l) = l := by
  simp only [ofB, toB, List.map_map]
  apply List.ext_getElem
  · simp
  · intro i h1 h2
    simp only [List.getElem_map, Function.comp_apply]
    have := h l[i] (List.getElem_mem _)
    simp only [UInt8.toNat_ofNat']
    omega
theorem BY_ofB (b : Fs.Bytes) : BY (ofB b) := by
  intro x hx
  simp only [ofB, List.mem_map] at hx
  obtain ⟨y, _, rfl⟩ := hx
  have := y.toNat_lt
  omega
theorem BY_nil : BY [] := fun x hx => by cases hx
theorem BY_cons {a : Int} {l : List Int} (h0 : 0 ≤ a ∧ a < 256) (h : BY l) : BY (a :: l) := by
  intro x hx
  rcases List.mem_cons.1 hx with rfl | hx
  · exact h0
  · exact h x hx
theorem BY_append {a b : List Int} (h : BY a) (h' : BY b) : BY (a ++ b) := by
  intro x hx
  rcases List.mem_append.1 hx with hx | hx
  · exact h x hx
  · exact h' x hx
theorem BY_take {a : List Int} (h : BY a) (n : Nat) : BY (a.take n) := fun x hx => h x (List.mem_of_mem_take hx)
theorem BY_drop {a : List Int} (h : BY a) (n : Nat) : BY (a.drop n) := fun x hx => h x (List.mem_of_mem_drop hx)
theorem BY_at {l : List Int} (h : BY l) (i : Nat) : 0 ≤ l.getD i 0 ∧ l.getD i 0 < 256 := by
  rw [List.getD_eq_getElem?_getD]
  rcases Nat.lt_or_ge i l.length with hi | hi
  · rw [List.getElem?_eq_getElem hi]
    exact h _ (List.getElem_mem _)
  · rw [List.getElem?_eq_none hi]
    simp
theorem BY_rd {l : List Int} (h : BY l) (i : Int) : 0 ≤ rd l i ∧ rd l i < 256 := BY_at h _
theorem BY_put (k : Nat) (n : Int) : BY (putI k n) := BY_ofB _
theorem ofB_append (a b : Fs.Bytes) : ofB (a ++ b) = ofB a ++ ofB b := by simp [ofB]
theorem toB_append (a b : List Int) : toB (a ++ b) = toB a ++ toB b := by simp [toB]
theorem ofB_inj {a b : Fs.Bytes} (h : ofB a = ofB b) : a = b := by rw [← toB_ofB a, ← toB_ofB b, h]
theorem toB_inj {a b : List Int} (ha : BY a) (hb : BY b) (h : toB a = toB b) : a = b := by rw [← ofB_toB ha, ← ofB_toB hb, h]
theorem pow256 (k : Nat) : ((256 ^ k : Nat) : Int) = 256 ^ k := by simp
theorem leI_nonneg (l : List Int) : 0 ≤ leI l := by unfold leI; omega
theorem leI_lt (l : List Int) : leI l < 256 ^ l.length := by
  have := Fs.le_lt (toB l)
  rw [toB_length] at this
  unfold leI
  rw [← pow256]
  exact Int.ofNat_lt.2 this
theorem leI_put (k : Nat) (n : Int) (h0 : 0 ≤ n) (h : n < 256 ^ k) : leI (putI k n) = n := by
  unfold leI putI
  rw [toB_ofB, Fs.le_put]
  · omega
  · have : ((n.toNat : Nat) : Int) < ((256 ^ k : Nat) : Int) := by rw [pow256]; omega
    exact Int.ofNat_lt.1 this
theorem put_leI {l : List Int} (h : BY l) : putI l.length (leI l) = l := by
  unfold leI putI
  rw [Int.toNat_natCast, ← toB_length l, Fs.put_le, ofB_toB h]
theorem putI_inj (k : Nat) (a b : Int) (ha : 0 ≤ a) (hb : 0 ≤ b) (ha' : a < 256 ^ k) (hb' : b < 256 ^ k) (h : putI k a = putI k b) : a = b := by
  rw [← leI_put k a ha ha', ← leI_put k b hb hb', h]
theorem leI_nil : leI [] = 0 := rfl
theorem leI_snoc (l : List Int) (x : Int) (hx : 0 ≤ x ∧ x < 256) : leI (l ++ [x]) = leI l + x * 256 ^ l.length := by
  unfold leI
  rw [toB_append, Fs.le_append, toB_length]
  have : Fs.le (toB [x]) = x.toNat := by
    simp only [toB, List.map_cons, List.map_nil, Fs.le]
    simp only [UInt8.toNat_ofNat']
    omega
  rw [this, Int.natCast_add, Int.natCast_mul, pow256, Int.mul_comm]
  congr 1
  rw [show ((x.toNat : Nat) : Int) = x from by omega]
theorem putI_snoc (k : Nat) (n : Int) (h0 : 0 ≤ n) : putI (k + 1) n = putI k n ++ [n / 256 ^ k % 256] := by
  unfold putI
  rw [Fs.put_succ, ofB_append]
  congr 1
  simp only [ofB, List.map_cons, List.map_nil]
  congr 1
  obtain ⟨m, rfl⟩ := Int.eq_ofNat_of_zero_le h0
  simp only [Int.toNat_natCast, UInt8.toNat_ofNat']
  rw [← pow256]
  omega
theorem two_256 (k : Nat) : (2 : Int) ^ (8 * k) = 256 ^ k := by rw [Int.pow_mul]; rfl

/-! ### shifts and bits -/
theorem shr_u64 (n i : Int) (k : Nat) (hi : i = 8 * (k : Int)) (hk : k ≤ 8) : shr .u64 n i = n / 256 ^ k := by
  unfold shr
  have : min i.toNat IntKind.u64.bits = 8 * k := by
    rw [Nat.min_eq_left (by simp [IntKind.bits]; omega)]; omega
  rw [this, two_256]
theorem shl_u64 (x i : Int) (k : Nat) (hi : i = 8 * (k : Int)) (hk : k ≤ 7) (hx : 0 ≤ x ∧ x < 256) : shl .u64 x i = x * 256 ^ k := by
  unfold shl
  have : min i.toNat IntKind.u64.bits = 8 * k := by
    rw [Nat.min_eq_left (by simp [IntKind.bits]; omega)]; omega
  rw [this, two_256]
  have h1 : (256 : Int) ^ k ≤ 256 ^ 7 := by
    have : (256 : Nat) ^ k ≤ 256 ^ 7 := Nat.pow_le_pow_right (by omega) hk
    have h2 := Int.ofNat_le.2 this
    rwa [pow256, pow256] at h2
  have h0 : (0 : Int) ≤ 256 ^ k := Int.pow_nonneg (by omega)
  apply u64w
  · exact Int.mul_nonneg hx.1 h0
  · calc x * 256 ^ k ≤ 255 * 256 ^ k := Int.mul_le_mul_of_nonneg_right (by omega) h0
      _ ≤ 255 * 256 ^ 7 := Int.mul_le_mul_of_nonneg_left h1 (by omega)
      _ < 18446744073709551616 := by decide
theorem wrap_shl (x : Int) (k : Nat) (hk : k ≤ 7) (hx : 0 ≤ x ∧ x < 256) : IntKind.u64.wrap (x * 2 ^ (8 * k)) = x * 256 ^ k := by
  have h := shl_u64 x (8 * (k : Int)) k rfl hk hx
  unfold shl at h
  have : min (8 * (k : Int)).toNat IntKind.u64.bits = 8 * k := by
    rw [Nat.min_eq_left (by simp [IntKind.bits]; omega)]; omega
  rwa [this] at h
theorem or_shl (a x : Int) (k : Nat) (hk : k ≤ 7) (ha : 0 ≤ a) (ha' : a < 256 ^ k) (hx : 0 ≤ x ∧ x < 256) : Go.bits .or .u64 a (x * 256 ^ k) = a + x * 256 ^ k := by
  obtain ⟨m, rfl⟩ := Int.eq_ofNat_of_zero_le ha
  obtain ⟨y, rfl⟩ := Int.eq_ofNat_of_zero_le hx.1
  have hy : y < 256 := by omega
  have hm : m < 256 ^ k := by rw [← pow256] at ha'; exact Int.ofNat_lt.1 ha'
  have e : ((y : Int) * 256 ^ k) = ((y * 256 ^ k : Nat) : Int) := by simp
  have h7 : (256 : Nat) ^ k ≤ 256 ^ 7 := Nat.pow_le_pow_right (by omega) hk
  have hb : y * 256 ^ k < 2 ^ 64 := by
    calc y * 256 ^ k ≤ 255 * 256 ^ 7 := Nat.mul_le_mul (by omega) h7
      _ < 2 ^ 64 := by decide
  have hm64 : m < 2 ^ 64 := by
    calc m < 256 ^ k := hm
      _ ≤ 256 ^ 7 := h7
      _ < 2 ^ 64 := by decide
  rw [e, (bits_nat .u64 64 (by decide) (fun n h0 h1 => u64w h0 (by simpa using h1)) m (y * 256 ^ k) hm64 hb).2]
  rw [← Int.natCast_add]
  congr 1
  have h2 : (256 : Nat) ^ k = 2 ^ (8 * k) := by rw [Nat.pow_mul]
  rw [h2] at hm ⊢
  rw [Nat.or_comm, Nat.mul_comm, ← Nat.two_pow_add_eq_or_of_lt hm]
  omega

/-! ### texts -/
theorem strOf_list (l : List Int) : (strOfNums l).toList = toB l := by
  rw [ByteArray.toList_eq]
  rfl
theorem str_eq (a b : ByteArray) : a.toList = b.toList ↔ a = b := by
  constructor
  · intro h
    rw [ByteArray.toList_eq, ByteArray.toList_eq] at h
    cases a
    cases b
    congr 1
    exact Array.toList_inj.1 h
  · intro h
    rw [h]
theorem bytesOf_ofB (s : ByteArray) : bytesOf s = ofB s.data.toList := rfl
theorem BY_bytesOf (s : ByteArray) : BY (bytesOf s) := BY_ofB _
theorem bytesOf_length (s : ByteArray) : (bytesOf s).length = s.size := by simp [bytesOf]
theorem strOf_bytesOf (s : ByteArray) : strOfNums (bytesOf s) = s := by
  rw [← str_eq, strOf_list, bytesOf_ofB, toB_ofB, ByteArray.toList_eq]
theorem strOf_eq {a b : List Int} (ha : BY a) (hb : BY b) : ((strOfNums a).toList == (strOfNums b).toList) = (a == b) := by
  rw [strOf_list, strOf_list, Bool.eq_iff_iff, beq_iff_eq, beq_iff_eq]
  exact ⟨fun h => toB_inj ha hb h, fun h => by rw [h]⟩

/-! ### what layer 1 says -/
def putS (n size : Int) : List Int × Int := if size < 1 ∨ size > 8 then ([], 1) else if 256 ^ size.toNat ≤ n then ([], 4) else (putI size.toNat n, 0)
def getS (l : List Int) (at_ size : Int) : Int × Int :=
  if size < 1 ∨ size > 8 then (0, 1) else if at_ < 0 then (0, 4) else if at_ > l.length ∨ size > l.length - at_ then (0, 8) else (leI ((l.drop at_.toNat).take size.toNat), 0)
def readS (l : List Int) (at_ : Int) : ByteArray × Int × Int :=
  if at_ < 0 then (⟨#[]⟩, 0, 4) else if at_ ≥ l.length then (⟨#[]⟩, 0, 8) else if (l.length : Int) - at_ - 1 < rd l at_ then (⟨#[]⟩, 0, 8)
  else (strOfNums ((l.drop (at_ + 1).toNat).take (rd l at_).toNat), at_ + 1 + rd l at_, 0)
def textS (s : ByteArray) : List Int × Int := if s.size > 255 then ([], 5) else ((s.size : Int) :: bytesOf s, 0)
def packGo : List Int → List Int → List Int → List Int × Int
  | w :: ws, v :: vs, acc => if (putS v w).2 = 0 then packGo ws vs (acc ++ (putS v w).1) else ([], (putS v w).2)
  | _, _, acc => (acc, 0)
def packS (ws vs : List Int) : List Int × Int := if ws.length ≠ vs.length ∨ ws.length > 64 then ([], 3) else packGo ws vs []
def sumI : List Int → Int
  | [] => 0
  | w :: ws => w + sumI ws
def unpackGo : List Int → List Int → List Int
  | [], _ => []
  | w :: ws, b => leI (b.take w.toNat) :: unpackGo ws (b.drop w.toNat)
def okW (ws : List Int) : Bool := ws.all fun w => decide (1 ≤ w ∧ w ≤ 8)
def unpackS (ws b : List Int) : List Int × Int :=
  if ws.length > 64 then ([], 3) else if okW ws = false then ([], 1) else if (b.length : Int) < sumI ws then ([], 8) else if (b.length : Int) > sumI ws then ([], 23) else (unpackGo ws b, 0)

theorem pow8 {k : Nat} (h : k ≤ 8) : (256 : Int) ^ k ≤ 18446744073709551616 := by
  have : (256 : Nat) ^ k ≤ 256 ^ 8 := Nat.pow_le_pow_right (by omega) h
  have h2 := Int.ofNat_le.2 this
  rw [pow256, pow256] at h2
  exact h2
theorem rd_nat (l : List Int) (i : Nat) : rd l (i : Int) = l.getD i 0 := by simp [rd]
theorem take_snoc (l : List Int) (i : Nat) (h : i < l.length) : l.take (i + 1) = l.take i ++ [l.getD i 0] := by
  rw [List.take_add_one, List.getElem?_eq_getElem h, List.getD_eq_getElem?_getD, List.getElem?_eq_getElem h]
  rfl
theorem drop_cons (l : List Int) (i : Nat) (h : i < l.length) : l.drop i = l.getD i 0 :: l.drop (i + 1) := by
  rw [List.drop_eq_getElem_cons h, List.getD_eq_getElem?_getD, List.getElem?_eq_getElem h]
  rfl
theorem nat_of {x : Int} (h : 0 ≤ x) : ∃ n : Nat, x = (n : Int) := ⟨x.toNat, by omega⟩
/-! #### lists of widths -/
def sumN (ws : List Int) : Nat := (ws.map Int.toNat).sum
theorem sumN_snoc (ws : List Int) (w : Int) : sumN (ws ++ [w]) = sumN ws + w.toNat := by simp [sumN]
theorem sumI_snoc (ws : List Int) (w : Int) : sumI (ws ++ [w]) = sumI ws + w := by
  induction ws with
  | nil => simp [sumI]
  | cons a ws ih => simp only [List.cons_append, sumI, ih]; omega
theorem okW_take {ws : List Int} (h : okW ws = true) (i : Nat) : okW (ws.take i) = true := by
  unfold okW at h ⊢
  rw [List.all_eq_true] at h ⊢
  exact fun x hx => h x (List.mem_of_mem_take hx)
theorem okW_at {ws : List Int} (h : okW ws = true) (i : Nat) (hi : i < ws.length) : 1 ≤ ws.getD i 0 ∧ ws.getD i 0 ≤ 8 := by
  unfold okW at h
  rw [List.all_eq_true] at h
  have := h ws[i] (List.getElem_mem _)
  rw [List.getD_eq_getElem?_getD, List.getElem?_eq_getElem hi]
  simpa using this
theorem sum_ok {ws : List Int} (h : okW ws = true) : sumI ws = (sumN ws : Int) ∧ sumN ws ≤ 8 * ws.length := by
  induction ws with
  | nil => simp [sumI, sumN]
  | cons w ws ih =>
    have h0 : (1 ≤ w ∧ w ≤ 8) ∧ okW ws = true := by simpa [okW] using h
    obtain ⟨h1, h2⟩ := ih h0.2
    have e : sumN (w :: ws) = w.toNat + sumN ws := by simp [sumN]
    simp only [sumI, e, List.length_cons]
    omega
theorem sumN_take_le {ws : List Int} (i : Nat) : sumN (ws.take i) ≤ sumN ws := by
  induction ws generalizing i with
  | nil => simp [sumN]
  | cons w ws ih =>
    cases i with
    | zero => simp [sumN]
    | succ i =>
      have := ih i
      simp only [List.take_succ_cons, sumN, List.map_cons, List.sum_cons] at this ⊢
      omega
theorem unpackGo_snoc (ws : List Int) (w : Int) (b : List Int) : unpackGo (ws ++ [w]) b = unpackGo ws b ++ [leI ((b.drop (sumN ws)).take w.toNat)] := by
  induction ws generalizing b with
  | nil => simp [unpackGo, sumN]
  | cons a ws ih =>
    have e : sumN (a :: ws) = a.toNat + sumN ws := by simp [sumN]
    simp only [List.cons_append, unpackGo, ih, e, List.drop_drop]
theorem unpackGo_length (ws b : List Int) : (unpackGo ws b).length = ws.length := by
  induction ws generalizing b with
  | nil => rfl
  | cons w ws ih => simp [unpackGo, ih]
theorem okW_bad {ws : List Int} (h : okW ws = false) : ∃ p, p < ws.length ∧ ¬ (1 ≤ ws.getD p 0 ∧ ws.getD p 0 ≤ 8) ∧ okW (ws.take p) = true := by
  induction ws with
  | nil => simp [okW] at h
  | cons w ws ih =>
    by_cases hw : 1 ≤ w ∧ w ≤ 8
    · have h' : okW ws = false := by
        have := h
        simp only [okW, List.all_cons, decide_eq_true hw, Bool.true_and] at this
        exact this
      obtain ⟨p, hp, hb, ho⟩ := ih h'
      refine ⟨p + 1, by simp; omega, by simpa using hb, ?_⟩
      simp only [List.take_succ_cons, okW, List.all_cons, decide_eq_true hw, Bool.true_and]
      exact ho
    · exact ⟨0, by simp, by simpa using hw, by simp [okW]⟩
theorem leI_one (l : List Int) (i : Nat) (h : i < l.length) (hb : BY l) : leI ((l.drop i).take 1) = l.getD i 0 := by
  rw [drop_cons l i h]
  have := BY_at hb i
  simp only [List.take_succ_cons, List.take_zero]
  have e := leI_snoc [] (l.getD i 0) this
  simpa [leI_nil] using e
end Go.Proofs.YtjidgdfdeckofaaDoor.Pl

/- Plain laws of layer 1: numbers and lists of numbers as octets, there and back. -/
namespace Go.Proofs.YtjidgdfdeckofaaDoor.Pl
open Go.RowKit Go.Proofs.YtjidgdfdeckofaaDoorW.PrintWords Go.Proofs.YtjidgdfdeckofaaDoorW.PrintMore
open Go.Proofs.YtjidgdfdeckofaaDoor

theorem putS_ok {n size : Int} (h : (putS n size).2 = 0) : (1 ≤ size ∧ size ≤ 8) ∧ n < 256 ^ size.toNat ∧ (putS n size).1 = putI size.toNat n := by
  unfold putS at h ⊢
  by_cases h1 : size < 1 ∨ size > 8
  · rw [if_pos h1] at h; cases h
  rw [if_neg h1] at h ⊢
  by_cases h2 : 256 ^ size.toNat ≤ n
  · rw [if_pos h2] at h; cases h
  rw [if_neg h2]
  exact ⟨by omega, by omega, rfl⟩
theorem putS_bad {n size : Int} (h : (putS n size).2 ≠ 0) : (putS n size).1 = [] := by
  unfold putS at h ⊢
  by_cases h1 : size < 1 ∨ size > 8
  · rw [if_pos h1]
  rw [if_neg h1] at h ⊢
  by_cases h2 : 256 ^ size.toNat ≤ n
  · rw [if_pos h2]
  · rw [if_neg h2] at h; exact absurd rfl h
theorem putS_fits {n size : Int} (h1 : 1 ≤ size ∧ size ≤ 8) (h2 : n < 256 ^ size.toNat) : putS n size = (putI size.toNat n, 0) := by
  unfold putS
  rw [if_neg (by omega), if_neg (by omega)]
theorem BY_putS (n size : Int) : BY (putS n size).1 := by
  unfold putS
  split
  · exact BY_nil
  split
  · exact BY_nil
  · exact BY_put _ _
def flat : List Int → List Int → List Int
  | w :: ws, v :: vs => putI w.toNat v ++ flat ws vs
  | _, _ => []
def fits : List Int → List Int → Prop
  | w :: ws, v :: vs => (1 ≤ w ∧ w ≤ 8 ∧ 0 ≤ v ∧ v < 256 ^ w.toNat) ∧ fits ws vs
  | [], [] => True
  | _, _ => False
theorem packGo_ok (ws vs acc : List Int) (hl : ws.length = vs.length) (hv : ∀ v ∈ vs, 0 ≤ v) (h : (packGo ws vs acc).2 = 0) : fits ws vs ∧ packGo ws vs acc = (acc ++ flat ws vs, 0) := by
  induction ws generalizing vs acc with
  | nil =>
    cases vs with
    | nil => exact ⟨trivial, by simp [packGo, flat]⟩
    | cons _ _ => simp at hl
  | cons w ws ih =>
    cases vs with
    | nil => simp at hl
    | cons v vs =>
      simp only [packGo] at h ⊢
      by_cases hz : (putS v w).2 = 0
      · rw [if_pos hz] at h ⊢
        obtain ⟨h1, h2, h3⟩ := putS_ok hz
        obtain ⟨h4, h5⟩ := ih vs _ (by simpa using hl) (fun x hx => hv x (List.mem_cons_of_mem _ hx)) h
        exact ⟨⟨⟨h1.1, h1.2, hv v List.mem_cons_self, h2⟩, h4⟩, by rw [h5, h3, List.append_assoc]; rfl⟩
      · rw [if_neg hz] at h
        exact absurd h hz
theorem packGo_bad (ws vs acc : List Int) (h : (packGo ws vs acc).2 ≠ 0) : (packGo ws vs acc).1 = [] := by
  induction ws generalizing vs acc with
  | nil => cases vs <;> exact absurd rfl h
  | cons w ws ih =>
    cases vs with
    | nil => exact absurd rfl h
    | cons v vs =>
      simp only [packGo] at h ⊢
      by_cases hz : (putS v w).2 = 0
      · rw [if_pos hz] at h ⊢
        exact ih _ _ h
      · rw [if_neg hz]
theorem packGo_fits (ws vs acc : List Int) (h : fits ws vs) : packGo ws vs acc = (acc ++ flat ws vs, 0) := by
  induction ws generalizing vs acc with
  | nil =>
    cases vs with
    | nil => simp [packGo, flat]
    | cons _ _ => exact h.elim
  | cons w ws ih =>
    cases vs with
    | nil => exact h.elim
    | cons v vs =>
      obtain ⟨⟨h1, h2, h3, h4⟩, h5⟩ := h
      simp only [packGo, putS_fits ⟨h1, h2⟩ h4]
      rw [if_pos trivial, ih _ _ h5, List.append_assoc]
      rfl
theorem fits_len {ws vs : List Int} (h : fits ws vs) : ws.length = vs.length := by
  induction ws generalizing vs with
  | nil => cases vs with
    | nil => rfl
    | cons _ _ => exact h.elim
  | cons w ws ih => cases vs with
    | nil => exact h.elim
    | cons v vs => simp [ih h.2]
theorem fits_okW {ws vs : List Int} (h : fits ws vs) : okW ws = true := by
  induction ws generalizing vs with
  | nil => rfl
  | cons w ws ih => cases vs with
    | nil => exact h.elim
    | cons v vs =>
      obtain ⟨⟨h1, h2, _, _⟩, h5⟩ := h
      have := ih h5
      simp only [okW, List.all_cons, decide_eq_true (⟨h1, h2⟩ : 1 ≤ w ∧ w ≤ 8), Bool.true_and] at this ⊢
      exact this
theorem flat_len {ws vs : List Int} (h : fits ws vs) : (flat ws vs).length = sumN ws := by
  induction ws generalizing vs with
  | nil => cases vs <;> rfl
  | cons w ws ih => cases vs with
    | nil => exact h.elim
    | cons v vs =>
      have e : sumN (w :: ws) = w.toNat + sumN ws := by simp [sumN]
      simp only [flat, List.length_append, putI_length, ih h.2, e]
theorem BY_flat (ws vs : List Int) : BY (flat ws vs) := by
  induction ws generalizing vs with
  | nil => cases vs <;> exact BY_nil
  | cons w ws ih => cases vs with
    | nil => exact BY_nil
    | cons v vs => exact BY_append (BY_put _ _) (ih vs)
theorem unpack_flat {ws vs : List Int} (h : fits ws vs) : unpackGo ws (flat ws vs) = vs := by
  induction ws generalizing vs with
  | nil => cases vs with
    | nil => rfl
    | cons _ _ => exact h.elim
  | cons w ws ih => cases vs with
    | nil => exact h.elim
    | cons v vs =>
      obtain ⟨⟨h1, h2, h3, h4⟩, h5⟩ := h
      simp only [unpackGo, flat]
      rw [List.take_append_of_le_length (by rw [putI_length]; omega), List.drop_append_of_le_length (by rw [putI_length]; omega)]
      rw [List.take_of_length_le (by rw [putI_length]; omega), List.drop_eq_nil_of_le (by rw [putI_length]; omega), leI_put _ _ h3 h4, List.nil_append, ih h5]
theorem pack_unpack (ws b : List Int) (hok : okW ws = true) (hb : BY b) (hl : b.length = sumN ws) : fits ws (unpackGo ws b) ∧ flat ws (unpackGo ws b) = b := by
  induction ws generalizing b with
  | nil =>
    have : b = [] := List.eq_nil_of_length_eq_zero (by simpa [sumN] using hl)
    subst this
    exact ⟨trivial, rfl⟩
  | cons w ws ih =>
    have h0 : (1 ≤ w ∧ w ≤ 8) ∧ okW ws = true := by simpa [okW] using hok
    have e : sumN (w :: ws) = w.toNat + sumN ws := by simp [sumN]
    rw [e] at hl
    obtain ⟨h1, h2⟩ := ih (b.drop w.toNat) h0.2 (BY_drop hb _) (by rw [List.length_drop]; omega)
    have hlt : (b.take w.toNat).length = w.toNat := by rw [List.length_take]; omega
    have h3 := leI_lt (b.take w.toNat)
    rw [hlt] at h3
    refine ⟨⟨⟨h0.1.1, h0.1.2, leI_nonneg _, h3⟩, h1⟩, ?_⟩
    simp only [unpackGo, flat]
    rw [h2]
    have := put_leI (BY_take hb w.toNat)
    rw [hlt] at this
    rw [this, List.take_append_drop]
theorem packS_ok {ws vs : List Int} (hv : ∀ v ∈ vs, 0 ≤ v) (h : (packS ws vs).2 = 0) : ws.length ≤ 64 ∧ fits ws vs ∧ (packS ws vs).1 = flat ws vs := by
  unfold packS at h ⊢
  by_cases h1 : ws.length ≠ vs.length ∨ ws.length > 64
  · rw [if_pos h1] at h; cases h
  rw [if_neg h1] at h ⊢
  have h2 : ws.length = vs.length := by omega
  obtain ⟨h3, h4⟩ := packGo_ok ws vs [] h2 hv h
  exact ⟨by omega, h3, by rw [h4]; rfl⟩
theorem packS_fits {ws vs : List Int} (h64 : ws.length ≤ 64) (h : fits ws vs) : packS ws vs = (flat ws vs, 0) := by
  unfold packS
  rw [if_neg (by have := fits_len h; omega), packGo_fits _ _ _ h]
  rfl
theorem packS_bad {ws vs : List Int} (h : (packS ws vs).2 ≠ 0) : (packS ws vs).1 = [] := by
  unfold packS at h ⊢
  by_cases h1 : ws.length ≠ vs.length ∨ ws.length > 64
  · rw [if_pos h1]
  rw [if_neg h1] at h ⊢
  exact packGo_bad _ _ _ h
theorem unpackS_ok {ws b : List Int} (h : (unpackS ws b).2 = 0) : ws.length ≤ 64 ∧ okW ws = true ∧ b.length = sumN ws ∧ (unpackS ws b).1 = unpackGo ws b := by
  unfold unpackS at h ⊢
  by_cases h1 : ws.length > 64
  · rw [if_pos h1] at h; cases h
  rw [if_neg h1] at h ⊢
  cases hok : okW ws with
  | false => rw [if_pos hok] at h; cases h
  | true =>
    rw [hok] at h
    simp only [Bool.true_eq_false, if_false] at h ⊢
    rw [(sum_ok hok).1] at h ⊢
    by_cases h3 : (b.length : Int) < (sumN ws : Int)
    · rw [if_pos h3] at h; cases h
    rw [if_neg h3] at h ⊢
    by_cases h4 : (b.length : Int) > (sumN ws : Int)
    · rw [if_pos h4] at h; cases h
    rw [if_neg h4]
    exact ⟨by omega, trivial, by omega, rfl⟩
theorem unpackS_bad {ws b : List Int} (h : (unpackS ws b).2 ≠ 0) : (unpackS ws b).1 = [] := by
  unfold unpackS at h ⊢
  by_cases h1 : ws.length > 64
  · rw [if_pos h1]
  rw [if_neg h1] at h ⊢
  by_cases h2 : okW ws = false
  · rw [if_pos h2]
  rw [if_neg h2] at h ⊢
  by_cases h3 : (b.length : Int) < sumI ws
  · rw [if_pos h3]
  rw [if_neg h3] at h ⊢
  by_cases h4 : (b.length : Int) > sumI ws
  · rw [if_pos h4]
  rw [if_neg h4] at h
  exact absurd rfl h
theorem unpackS_val {ws b : List Int} (h64 : ws.length ≤ 64) (hok : okW ws = true) : unpackS ws b = if b.length < sumN ws then ([], 8) else if b.length > sumN ws then ([], 23) else (unpackGo ws b, 0) := by
  unfold unpackS
  rw [if_neg (by omega), if_neg (by simp [hok]), (sum_ok hok).1]
  have a1 : ((b.length : Int) < (sumN ws : Int)) = (b.length < sumN ws) := by simp
  have a2 : ((b.length : Int) > (sumN ws : Int)) = (b.length > sumN ws) := by simp
  simp only [a1, a2]
theorem BY_of_wf {l : List Int} (h : ∀ x ∈ l, (Lit.int .u8 x).wf = true) : BY l := fun x hx => wf_u8 (h x hx)
theorem U64_of_wf {l : List Int} (h : ∀ x ∈ l, (Lit.int .u64 x).wf = true) : ∀ v ∈ l, 0 ≤ v ∧ v < 18446744073709551616 := fun x hx => wf_u64 (h x hx)
theorem BY_textS (s : ByteArray) : BY (textS s).1 := by
  unfold textS
  split
  · exact BY_nil
  · exact BY_cons (by omega) (BY_bytesOf _)
theorem textS_read (s : ByteArray) (head : List Int) (h : s.size ≤ 255) : readS (head ++ (textS s).1) (head.length : Int) = (s, (head.length : Int) + 1 + (s.size : Int), 0) := by
  unfold textS readS
  rw [if_neg (show ¬ s.size > 255 by omega)]
  have e1 : rd (head ++ ((s.size : Int) :: bytesOf s)) (head.length : Int) = (s.size : Int) := by
    rw [rd_nat, List.getD_eq_getElem?_getD, List.getElem?_append_right (Nat.le_refl _)]
    simp
  have e2 : ((head.length : Int) + 1).toNat = head.length + 1 := by omega
  have e3 : (head ++ ((s.size : Int) :: bytesOf s)).drop (head.length + 1) = bytesOf s := by
    rw [List.drop_append, List.drop_eq_nil_of_le (by omega)]
    simp
  simp only
  rw [e1, e2, e3, if_neg (by omega), if_neg (by simp; omega), if_neg (by simp [bytesOf_length]; omega), Int.toNat_natCast, List.take_of_length_le (by rw [bytesOf_length]; omega), strOf_bytesOf]
theorem textS_cut (s : ByteArray) (m : Nat) (h : s.size ≤ 255) (hm : m < 1 + s.size) : readS ((textS s).1.take m) 0 = (⟨#[]⟩, 0, 8) := by
  have hl : ((textS s).1.take m).length = m := by
    unfold textS
    rw [if_neg (show ¬ s.size > 255 by omega), List.length_take]
    simp [bytesOf_length]
    omega
  unfold readS
  rw [hl, if_neg (by omega)]
  by_cases h0 : m = 0
  · rw [if_pos (by omega)]
  · obtain ⟨j, rfl⟩ : ∃ j, m = j + 1 := ⟨m - 1, by omega⟩
    have e : rd ((textS s).1.take (j + 1)) 0 = (s.size : Int) := by
      unfold textS
      rw [if_neg (show ¬ s.size > 255 by omega)]
      simp [rd]
    rw [e, if_neg (by omega), if_pos (by omega)]
theorem mod_range (at_ : Int) (n : Nat) (hn : 0 < n) (h : (n : Int) < 4611686018427387904) : 0 ≤ Int.tmod (wrap64 (Int.tmod at_ n + n)) n ∧ Int.tmod (wrap64 (Int.tmod at_ n + n)) n < n := by
  have h1 := Int.tmod_lt_of_pos at_ (show (0 : Int) < (n : Int) by omega)
  have h2 : -(n : Int) < Int.tmod at_ n := by
    have := Int.tmod_lt_of_pos (-at_) (show (0 : Int) < (n : Int) by omega)
    rw [Int.neg_tmod] at this
    omega
  rw [w64 (by omega) (by omega)]
  have h3 : 0 ≤ Int.tmod at_ n + n := by omega
  rw [Int.tmod_eq_emod_of_nonneg h3]
  exact ⟨Int.emod_nonneg _ (by omega), Int.emod_lt_of_pos _ (by omega)⟩
end Go.Proofs.YtjidgdfdeckofaaDoor.Pl
