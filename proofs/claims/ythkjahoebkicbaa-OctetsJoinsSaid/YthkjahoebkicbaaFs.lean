/- Plain words for octets and checksums: no Go and no memory in it. -/
namespace Go.Proofs.Ythkjahoebkicbaa
namespace Fs
abbrev Bytes := List UInt8

/-! ### numbers as octets, the lowest first -/
def le : Bytes → Nat
  | [] => 0
  | b :: r => b.toNat + 256 * le r
def put : Nat → Nat → Bytes
  | 0, _ => []
  | k + 1, n => UInt8.ofNat (n % 256) :: put k (n / 256)

theorem put_length (k n : Nat) : (put k n).length = k := by
  induction k generalizing n with
  | zero => rfl
  | succ k ih => simp [put, ih]
theorem le_lt (b : Bytes) : le b < 256 ^ b.length := by
  induction b with
  | nil => simp [le]
  | cons x r ih =>
    have := x.toNat_lt
    simp only [le, List.length_cons, Nat.pow_succ]
    omega
theorem le_put (k n : Nat) (h : n < 256 ^ k) : le (put k n) = n := by
  induction k generalizing n with
  | zero => simp at h; subst h; rfl
  | succ k ih =>
    rw [Nat.pow_succ] at h
    simp only [put, le]
    rw [ih (n / 256) (by omega)]
    have : (UInt8.ofNat (n % 256)).toNat = n % 256 := by simp
    omega
theorem put_le (b : Bytes) : put b.length (le b) = b := by
  induction b with
  | nil => rfl
  | cons x r ih =>
    have hx := x.toNat_lt
    have h1 : (x.toNat + 256 * le r) % 256 = x.toNat := by omega
    have h2 : (x.toNat + 256 * le r) / 256 = le r := by omega
    simp only [le, List.length_cons, put]
    rw [h1, h2, ih]
    simp
theorem put_inj (k a b : Nat) (ha : a < 256 ^ k) (hb : b < 256 ^ k) (h : put k a = put k b) : a = b := by
  rw [← le_put k a ha, ← le_put k b hb, h]
theorem le_inj (a b : Bytes) (hl : a.length = b.length) (h : le a = le b) : a = b := by
  rw [← put_le a, ← put_le b, hl, h]
theorem put_mod (k n : Nat) : put k (n % 256 ^ k) = put k n := by
  induction k generalizing n with
  | zero => rfl
  | succ k ih =>
    simp only [put]
    have h1 : n % 256 ^ (k + 1) % 256 = n % 256 := by
      rw [Nat.pow_succ, Nat.mul_comm, Nat.mod_mul_right_mod]
    have h2 : n % 256 ^ (k + 1) / 256 = (n / 256) % 256 ^ k := by
      rw [Nat.pow_succ, Nat.mul_comm, Nat.mod_mul_right_div_self]
    rw [h1, h2, ih]
theorem put_succ (k n : Nat) : put (k + 1) n = put k n ++ [UInt8.ofNat (n / 256 ^ k % 256)] := by
  induction k generalizing n with
  | zero => simp [put]
  | succ k ih =>
    rw [put, ih (n / 256), put]
    simp only [List.cons_append]
    rw [Nat.div_div_eq_div_mul, Nat.pow_succ, Nat.mul_comm (256 ^ k) 256]
theorem le_append (a b : Bytes) : le (a ++ b) = le a + 256 ^ a.length * le b := by
  induction a with
  | nil => simp [le]
  | cons x r ih =>
    simp only [List.cons_append, le, ih, List.length_cons, Nat.pow_succ]
    rw [Nat.mul_add, ← Nat.mul_assoc, Nat.mul_comm (256 ^ r.length) 256, Nat.add_assoc]

/-! ### the checksum -/
abbrev Reg := BitVec 32
def poly : Reg := 0x82f63b78#32
def st (c : Reg) : Reg := (c >>> 1) ^^^ (if c.getLsbD 0 = true then poly else 0#32)
def stN : Nat → Reg → Reg
  | 0, c => c
  | n + 1, c => stN n (st c)
def bit (b : Bool) : Reg := if b = true then 1#32 else 0#32
def runBits (c : Reg) (m : List Bool) : Reg := m.foldl (fun c b => st (c ^^^ bit b)) c
def ofBits : List Bool → Reg
  | [] => 0#32
  | b :: m => bit b ^^^ (ofBits m <<< 1)
def reg (x : UInt8) : Reg := BitVec.ofNat 32 x.toNat
def bst (c : Reg) (x : UInt8) : Reg := stN 8 (c ^^^ reg x)
def run (c : Reg) (l : Bytes) : Reg := l.foldl bst c
def more (c : Reg) (l : Bytes) : Reg := ~~~ run (~~~ c) l
def crc (l : Bytes) : Reg := more 0#32 l
def seal_ (l : Bytes) : Bytes := l ++ put 4 (crc l).toNat

theorem xor4 (a b c d : Reg) : (a ^^^ b) ^^^ (c ^^^ d) = (a ^^^ c) ^^^ (b ^^^ d) := by
  ext i hi
  simp [BitVec.getElem_xor]
  cases a[i] <;> cases b[i] <;> cases c[i] <;> cases d[i] <;> rfl
theorem st_xor (a b : Reg) : st (a ^^^ b) = st a ^^^ st b := by
  unfold st
  rw [BitVec.ushiftRight_xor_distrib, BitVec.getLsbD_xor, xor4]
  congr 1
  cases a.getLsbD 0 <;> cases b.getLsbD 0 <;> simp
theorem st_zero : st 0#32 = 0#32 := by decide
theorem stN_xor (n : Nat) (a b : Reg) : stN n (a ^^^ b) = stN n a ^^^ stN n b := by
  induction n generalizing a b with
  | zero => rfl
  | succ n ih => simp only [stN, st_xor, ih]
theorem stN_zero (n : Nat) : stN n 0#32 = 0#32 := by
  induction n with
  | zero => rfl
  | succ n ih => simp only [stN, st_zero, ih]
theorem stN_add (m n : Nat) (c : Reg) : stN (m + n) c = stN n (stN m c) := by
  induction m generalizing c with
  | zero => simp [stN]
  | succ m ih => rw [Nat.succ_add]; simp only [stN, ih]
theorem st_eq_zero (d : Reg) (h : st d = 0#32) : d = 0#32 := by
  unfold st at h
  by_cases h0 : d.getLsbD 0 = true
  · rw [if_pos h0] at h
    have := congrArg (fun v : Reg => v.getLsbD 31) h
    simp [poly] at this
  · rw [if_neg h0] at h
    have h' : d >>> 1 = 0#32 := by simpa using h
    apply BitVec.eq_of_getLsbD_eq
    intro i hi
    rcases i with _ | i
    · simpa using h0
    · have := congrArg (fun v : Reg => v.getLsbD i) h'
      simp only [BitVec.getLsbD_ushiftRight] at this
      rw [Nat.add_comm] at this
      simpa using this
theorem stN_eq_zero (n : Nat) (d : Reg) (h : stN n d = 0#32) : d = 0#32 := by
  induction n generalizing d with
  | zero => exact h
  | succ n ih => exact st_eq_zero d (ih _ h)
theorem xor_eq_zero (a b : Reg) (h : a ^^^ b = 0#32) : a = b := by
  have : a ^^^ b ^^^ b = b := by rw [h]; simp
  rwa [BitVec.xor_assoc, BitVec.xor_self, BitVec.xor_zero] at this
theorem stN_inj (n : Nat) (a b : Reg) (h : stN n a = stN n b) : a = b := by
  apply xor_eq_zero
  apply stN_eq_zero n
  rw [stN_xor, h, BitVec.xor_self]

theorem bit_xor (a b : Bool) : bit (Bool.xor a b) = bit a ^^^ bit b := by cases a <;> cases b <;> rfl
theorem runBits_append (c : Reg) (m n : List Bool) : runBits c (m ++ n) = runBits (runBits c m) n := by simp [runBits]
theorem runBits_xor (a b : Reg) (m n : List Bool) (h : m.length = n.length) : runBits (a ^^^ b) (m.zipWith Bool.xor n) = runBits a m ^^^ runBits b n := by
  induction m generalizing a b n with
  | nil =>
    cases n with
    | nil => rfl
    | cons _ _ => simp at h
  | cons x m ih =>
    cases n with
    | nil => simp at h
    | cons y n =>
      simp only [List.zipWith_cons_cons, runBits, List.foldl_cons]
      have := ih (st (a ^^^ bit x)) (st (b ^^^ bit y)) n (by simpa using h)
      simp only [runBits] at this
      rw [← this, ← st_xor, xor4, bit_xor]
theorem runBits_zeros (n : Nat) (c : Reg) : runBits c (List.replicate n false) = stN n c := by
  induction n generalizing c with
  | zero => rfl
  | succ n ih =>
    simp only [List.replicate_succ, runBits, List.foldl_cons, stN]
    have := ih (st c)
    simp only [runBits] at this
    simpa [bit] using this
theorem ofBits_high (m : List Bool) (k : Nat) (hk : m.length ≤ k) : (ofBits m).getLsbD k = false := by
  induction m generalizing k with
  | nil => simp [ofBits]
  | cons b m ih =>
    simp only [List.length_cons] at hk
    obtain ⟨k, rfl⟩ : ∃ j, k = j + 1 := ⟨k - 1, by omega⟩
    simp only [ofBits, BitVec.getLsbD_xor, BitVec.getLsbD_shiftLeft]
    rw [show k + 1 - 1 = k from rfl, ih k (by omega)]
    cases b <;> simp [bit]
theorem st_shl (v : Reg) (h : v.getLsbD 31 = false) : st (v <<< 1) = v := by
  unfold st
  have h0 : (v <<< 1).getLsbD 0 = false := by simp
  rw [if_neg (by simp)]
  rw [BitVec.xor_zero]
  apply BitVec.eq_of_getLsbD_eq
  intro i hi
  simp only [BitVec.getLsbD_ushiftRight, BitVec.getLsbD_shiftLeft]
  by_cases h31 : i = 31
  · subst h31; have := h; simp at this; simp [this]
  · have : 1 + i < 32 := by omega
    simp [this]
theorem runBits_ofBits (m : List Bool) (c : Reg) (h : m.length ≤ 32) : runBits c m = stN m.length (c ^^^ ofBits m) := by
  induction m generalizing c with
  | nil => simp [runBits, ofBits, stN]
  | cons b m ih =>
    simp only [List.length_cons] at h
    have := ih (st (c ^^^ bit b)) (by omega)
    simp only [runBits, List.foldl_cons] at this ⊢
    rw [this]
    simp only [List.length_cons, stN, ofBits]
    rw [← BitVec.xor_assoc, st_xor (c ^^^ bit b), st_shl _ (ofBits_high m 31 (by omega))]

/-! ### the bits of octets -/
def bits8 (x : UInt8) : List Bool := (List.range 8).map fun i => x.toNat.testBit i
def bits (l : Bytes) : List Bool := l.flatMap bits8
theorem bits8_length (x : UInt8) : (bits8 x).length = 8 := by simp [bits8]
theorem bits_length (l : Bytes) : (bits l).length = 8 * l.length := by
  induction l with
  | nil => rfl
  | cons x l ih => simp only [bits, List.flatMap_cons, List.length_append, bits8_length, List.length_cons] at ih ⊢; omega
theorem ofBits_bit (m : List Bool) (i : Nat) (h : i < 32) : (ofBits m).getLsbD i = m.getD i false := by
  induction m generalizing i with
  | nil => simp [ofBits]
  | cons b m ih =>
    simp only [ofBits, BitVec.getLsbD_xor, BitVec.getLsbD_shiftLeft]
    rcases i with _ | i
    · cases b <;> simp [bit]
    · rw [show i + 1 - 1 = i from rfl, ih i (by omega)]
      have h2 : (bit b).getLsbD (i + 1) = false := by
        cases b
        · simp [bit]
        · simp [bit]
      rw [h2]
      simp [h]
theorem ofBits_bits8 (x : UInt8) : ofBits (bits8 x) = reg x := by
  apply BitVec.eq_of_getLsbD_eq
  intro i hi
  rw [ofBits_bit _ _ hi, reg, BitVec.getLsbD_ofNat]
  by_cases h8 : i < 8
  · simp [bits8, List.getD_eq_getElem?_getD, h8, hi]
  · have : x.toNat.testBit i = false := Nat.testBit_lt_two_pow (Nat.lt_of_lt_of_le x.toNat_lt (Nat.pow_le_pow_right (by omega) (by omega)))
    simp [bits8, List.getD_eq_getElem?_getD, h8, this]
theorem bst_bits (c : Reg) (x : UInt8) : bst c x = runBits c (bits8 x) := by
  rw [runBits_ofBits _ _ (by rw [bits8_length]; omega), bits8_length, ofBits_bits8, bst]
theorem run_bits (c : Reg) (l : Bytes) : run c l = runBits c (bits l) := by
  induction l generalizing c with
  | nil => rfl
  | cons x l ih =>
    have : bits (x :: l) = bits8 x ++ bits l := rfl
    rw [this, runBits_append, ← bst_bits, ← ih]
    rfl
theorem run_append (c : Reg) (a b : Bytes) : run c (a ++ b) = run (run c a) b := by simp [run]

/-! ### laws -/
theorem more_append (c : Reg) (a b : Bytes) : more (more c a) b = more c (a ++ b) := by
  simp [more, run_append]
theorem crc_append (a b : Bytes) : more (crc a) b = crc (a ++ b) := more_append ..
theorem bits8_getD (x : UInt8) (i : Nat) : (bits8 x).getD i false = x.toNat.testBit i := by
  by_cases h8 : i < 8
  · simp [bits8, List.getD_eq_getElem?_getD, h8]
  · have : x.toNat.testBit i = false := Nat.testBit_lt_two_pow (Nat.lt_of_lt_of_le x.toNat_lt (Nat.pow_le_pow_right (by omega) (by omega)))
    simp [bits8, List.getD_eq_getElem?_getD, h8, this]
theorem bits_getD (l : Bytes) (i : Nat) : (bits l).getD i false = (le l).testBit i := by
  induction l generalizing i with
  | nil => simp [bits, le]
  | cons x l ih =>
    have e : bits (x :: l) = bits8 x ++ bits l := rfl
    have hx := x.toNat_lt
    have h2 : le (x :: l) = 2 ^ 8 * le l + x.toNat := by simp only [le]; omega
    rw [e, h2, Nat.testBit_two_pow_mul_add _ (by simpa using hx)]
    by_cases h8 : i < 8
    · rw [if_pos h8, ← bits8_getD]
      simp only [List.getD_eq_getElem?_getD]
      rw [List.getElem?_append_left (by rw [bits8_length]; exact h8)]
    · rw [if_neg h8, ← ih]
      simp only [List.getD_eq_getElem?_getD]
      rw [List.getElem?_append_right (by rw [bits8_length]; omega), bits8_length]
theorem ofBits_bits (l : Bytes) : ofBits (bits l) = BitVec.ofNat 32 (le l) := by
  apply BitVec.eq_of_getLsbD_eq
  intro i hi
  rw [ofBits_bit _ _ hi, bits_getD, BitVec.getLsbD_ofNat]
  simp [hi]
theorem run_le (c : Reg) (l : Bytes) (h : l.length = 4) : run c l = stN 32 (c ^^^ BitVec.ofNat 32 (le l)) := by
  have hb : (bits l).length = 32 := by rw [bits_length, h]
  rw [run_bits, runBits_ofBits _ _ (by omega), hb, ofBits_bits]

theorem xor_not (r : Reg) : r ^^^ ~~~ r = ~~~ 0#32 := by
  apply BitVec.eq_of_getLsbD_eq
  intro i hi
  simp only [BitVec.getLsbD_xor, BitVec.getLsbD_not, hi, decide_true, Bool.true_and]
  cases r.getLsbD i <;> simp
theorem xor_ones (r : Reg) : r ^^^ ~~~ 0#32 = ~~~ r := by
  apply BitVec.eq_of_getLsbD_eq
  intro i hi
  simp only [BitVec.getLsbD_xor, BitVec.getLsbD_not, hi, decide_true, Bool.true_and]
  cases r.getLsbD i <;> simp
/-- Four octets bear the sum of what stands ahead just where the register ends at one value. -/
theorem good_iff (a t : Bytes) (ht : t.length = 4) : le t = (crc a).toNat ↔ run (~~~ 0#32) (a ++ t) = stN 32 (~~~ 0#32) := by
  rw [run_append, run_le _ _ ht]
  have hlt : le t < 2 ^ 32 := by have := le_lt t; rw [ht] at this; simpa using this
  unfold crc more
  generalize run (~~~ 0#32) a = r
  constructor
  · intro h
    rw [h, BitVec.ofNat_toNat, BitVec.setWidth_eq]
    congr 1
    exact xor_not r
  · intro h
    have h1 := stN_inj _ _ _ h
    have h2 : BitVec.ofNat 32 (le t) = ~~~ r := by
      have h3 : r ^^^ (r ^^^ BitVec.ofNat 32 (le t)) = r ^^^ ~~~ 0#32 := by rw [h1]
      rw [← BitVec.xor_assoc, BitVec.xor_self, BitVec.zero_xor] at h3
      rw [h3]
      exact xor_ones r
    rw [← h2, BitVec.toNat_ofNat, Nat.mod_eq_of_lt hlt]

/-- What is turned within 32 bits in a row is told. -/
theorem burst (c : Reg) (s s' : Bytes) (a m r : Nat) (w : List Bool) (hs : s'.length = s.length) (hn : 8 * s.length = a + m + r) (hm : w.length = m) (h32 : m ≤ 32) (hw : ofBits w ≠ 0#32)
    (h : ∀ k, k < 8 * s.length → (bits s').getD k false = Bool.xor ((bits s).getD k false) (if a ≤ k then w.getD (k - a) false else false)) : run c s' ≠ run c s := by
  have he : bits s' = (bits s).zipWith Bool.xor (List.replicate a false ++ w ++ List.replicate r false) := by
    apply List.ext_getElem?
    intro k
    by_cases hk : k < 8 * s.length
    · have h1 := h k hk
      have l1 : k < (bits s').length := by rw [bits_length, hs]; exact hk
      have l2 : k < (bits s).length := by rw [bits_length]; exact hk
      simp only [List.getD_eq_getElem?_getD, List.getElem?_eq_getElem l1, List.getElem?_eq_getElem l2, Option.getD_some] at h1
      rw [List.getElem?_zipWith, List.getElem?_eq_getElem l1, List.getElem?_eq_getElem l2, h1]
      rcases Nat.lt_or_ge k a with ha | ha
      · rw [if_neg (by omega)]
        rw [List.append_assoc, List.getElem?_append_left (by simpa using ha)]
        simp [ha]
      · rw [if_pos ha, List.append_assoc, List.getElem?_append_right (by simpa using ha)]
        simp only [List.length_replicate]
        rcases Nat.lt_or_ge (k - a) m with hlt | hge
        · rw [List.getElem?_append_left (by omega), List.getElem?_eq_getElem (by omega)]
          simp
        · rw [List.getElem?_append_right (by omega), hm]
          have : w[k - a]? = none := List.getElem?_eq_none (by omega)
          rw [this, List.getElem?_replicate, if_pos (by omega)]
          simp
    · rw [List.getElem?_eq_none (by rw [bits_length, hs]; omega), List.getElem?_zipWith, List.getElem?_eq_none (by rw [bits_length]; omega)]
  intro hc
  rw [run_bits, run_bits, he] at hc
  have h0 : runBits (c ^^^ 0#32) ((bits s).zipWith Bool.xor (List.replicate a false ++ w ++ List.replicate r false)) = _ :=
    runBits_xor c 0#32 (bits s) _ (by rw [bits_length]; simp [hm]; omega)
  rw [BitVec.xor_zero] at h0
  rw [h0] at hc
  have h1 : runBits 0#32 (List.replicate a false ++ w ++ List.replicate r false) = 0#32 := by
    generalize runBits c (bits s) = x at hc
    have : x ^^^ (x ^^^ runBits 0#32 (List.replicate a false ++ w ++ List.replicate r false)) = x ^^^ x := by rw [hc]
    rwa [← BitVec.xor_assoc, BitVec.xor_self, BitVec.zero_xor] at this
  rw [runBits_append, runBits_append, runBits_zeros, runBits_zeros, stN_zero] at h1
  have h2 := stN_eq_zero _ _ h1
  rw [runBits_ofBits _ _ (by omega), BitVec.zero_xor] at h2
  exact hw (stN_eq_zero _ _ h2)

def xorB (a b : Bytes) : Bytes := a.zipWith (fun x y => UInt8.ofNat (x.toNat ^^^ y.toNat)) b
theorem reg_xor (x y : UInt8) : reg (UInt8.ofNat (x.toNat ^^^ y.toNat)) = reg x ^^^ reg y := by
  have h : x.toNat ^^^ y.toNat < 2 ^ 8 := Nat.xor_lt_two_pow x.toNat_lt y.toNat_lt
  have h2 : (UInt8.ofNat (x.toNat ^^^ y.toNat)).toNat = x.toNat ^^^ y.toNat := by
    simp only [UInt8.toNat_ofNat']; exact Nat.mod_eq_of_lt h
  unfold reg
  rw [h2]
  apply BitVec.eq_of_getLsbD_eq
  intro i hi
  simp [hi]
theorem run_xor (a b : Reg) (l m : Bytes) (h : l.length = m.length) : run (a ^^^ b) (xorB l m) = run a l ^^^ run b m := by
  induction l generalizing a b m with
  | nil =>
    cases m with
    | nil => rfl
    | cons _ _ => simp at h
  | cons x l ih =>
    cases m with
    | nil => simp at h
    | cons y m =>
      have := ih (bst a x) (bst b y) m (by simpa using h)
      simp only [run, xorB, List.zipWith_cons_cons, List.foldl_cons] at this ⊢
      rw [← this]
      congr 1
      simp only [bst]
      rw [← stN_xor, reg_xor, xor4]
/-- The sums of three texts of one length are linear. -/
theorem crc_xor3 (a b c : Bytes) (h1 : a.length = b.length) (h2 : a.length = c.length) : crc (xorB (xorB a b) c) = crc a ^^^ crc b ^^^ crc c := by
  have hl : (xorB a b).length = c.length := by simp [xorB, ← h1, h2]
  have e := run_xor (~~~ 0#32 ^^^ ~~~ 0#32) (~~~ 0#32) (xorB a b) c hl
  rw [run_xor _ _ _ _ h1] at e
  have e0 : ~~~ 0#32 ^^^ ~~~ 0#32 ^^^ ~~~ (0#32) = ~~~ (0#32 : Reg) := by decide
  rw [e0] at e
  simp only [crc, more, e]
  generalize run (~~~ 0#32) a = x
  generalize run (~~~ 0#32) b = y
  generalize run (~~~ 0#32) c = z
  apply BitVec.eq_of_getLsbD_eq
  intro i hi
  simp only [BitVec.getLsbD_xor, BitVec.getLsbD_not, hi, decide_true, Bool.true_and]
  cases x.getLsbD i <;> cases y.getLsbD i <;> cases z.getLsbD i <;> rfl
end Fs
end Go.Proofs.Ythkjahoebkicbaa
