/- Texts Crc, PF, C2. -/
import Derived.Test.YtjidgdfdeckofaaDoorV4
import Derived.Test.YtjidgdfdeckofaaDoorBM
import Derived.Test.YtjidgdfdeckofaaDoorV3
/- Plain words between the walk's whole numbers and the checksum's registers. -/
namespace Go.Proofs.YtjidgdfdeckofaaDoor.Pl
open Go.RowKit Go.Proofs.YtjidgdfdeckofaaDoorW.PrintWords Go.Proofs.YtjidgdfdeckofaaDoorW.PrintMore
open Go.Proofs.YtjidgdfdeckofaaDoor

def rI (c : Fs.Reg) : Int := (c.toNat : Int)
def iR (x : Int) : Fs.Reg := BitVec.ofInt 32 x
theorem rI_range (c : Fs.Reg) : 0 ≤ rI c ∧ rI c < 4294967296 := by have := c.isLt; unfold rI; omega
theorem iR_rI (c : Fs.Reg) : iR (rI c) = c := by
  unfold iR rI
  rw [BitVec.ofInt_natCast]
  simp
theorem rI_iR {x : Int} (h0 : 0 ≤ x) (h1 : x < 4294967296) : rI (iR x) = x := by
  obtain ⟨n, rfl⟩ := nat_of h0
  unfold iR rI
  rw [BitVec.ofInt_natCast, BitVec.toNat_ofNat]
  omega
theorem rI_inj {a b : Fs.Reg} (h : rI a = rI b) : a = b := by rw [← iR_rI a, ← iR_rI b, h]
theorem u32w {x : Int} (h0 : 0 ≤ x) (h1 : x < 4294967296) : IntKind.u32.wrap x = x := by
  rw [IntKind.wrap_u32]
  omega
theorem bits_xor (a b : Fs.Reg) : Go.bits .xor .u32 (rI a) (rI b) = rI (a ^^^ b) := by
  have h : (IntKind.u32.wrap (((iR (rI a) ^^^ iR (rI b)).toNat : Nat) : Int)) = rI (a ^^^ b) := by
    rw [iR_rI, iR_rI]
    exact u32w (rI_range _).1 (rI_range _).2
  exact h
theorem bits_and (a b : Fs.Reg) : Go.bits .and .u32 (rI a) (rI b) = rI (a &&& b) := by
  have h : (IntKind.u32.wrap (((iR (rI a) &&& iR (rI b)).toNat : Nat) : Int)) = rI (a &&& b) := by
    rw [iR_rI, iR_rI]
    exact u32w (rI_range _).1 (rI_range _).2
  exact h
theorem rI_shr1 (c : Fs.Reg) : rI c / (2 : Int) = rI (c >>> 1) := by
  unfold rI
  rw [BitVec.toNat_ushiftRight, Nat.shiftRight_eq_div_pow]
  omega
theorem rI_shr4 (c : Fs.Reg) : rI c / (16 : Int) = rI (c >>> 4) := by
  unfold rI
  rw [BitVec.toNat_ushiftRight, Nat.shiftRight_eq_div_pow]
  omega
theorem rI_neg (c : Fs.Reg) : -rI c % 4294967296 = rI (-c) := by
  unfold rI
  rw [BitVec.toNat_neg]
  omega
theorem poly_I : rI Fs.poly = 2197175160 := by decide
theorem one_I : rI 1#32 = 1 := by decide
theorem f_I : rI 15#32 = 15 := by decide
theorem st_bv (c : Fs.Reg) : (c >>> 1) ^^^ (Fs.poly &&& -(c &&& 1#32)) = Fs.st c := by
  unfold Fs.st
  congr 1
  have h1 : c &&& 1#32 = if c.getLsbD 0 = true then 1#32 else 0#32 := by
    apply BitVec.eq_of_getLsbD_eq
    intro i hi
    rcases i with _ | i
    · cases h : c.getLsbD 0 <;> simp_all
    · cases h : c.getLsbD 0 <;> simp
  rw [h1]
  by_cases h : c.getLsbD 0 = true
  · rw [if_pos h, if_pos h]; decide
  · rw [if_neg h, if_neg h]; decide
/-- One turn of the register, as the walk spells it. -/
theorem st_walk (c : Fs.Reg) : Go.bits .xor .u32 (rI c / (2 : Int)) (Go.bits .and .u32 2197175160 (-Go.bits .and .u32 (rI c) 1 % 4294967296)) = rI (Fs.st c) := by
  rw [← one_I, bits_and, rI_neg, ← poly_I, bits_and, rI_shr1, bits_xor, st_bv]
theorem stN_succ (n : Nat) (c : Fs.Reg) : Fs.stN (n + 1) c = Fs.st (Fs.stN n c) := by
  rw [Fs.stN_add n 1]
  rfl
theorem not_I (c : Fs.Reg) : Go.bits .xor .u32 IntKind.u32.max (rI c) = rI (~~~ c) := by
  have h : rI (~~~ 0#32) = IntKind.u32.max := by decide
  rw [← h, bits_xor, BitVec.xor_comm, Fs.xor_ones]
/-- Half an octet at once. -/
theorem half_bv (c : Fs.Reg) : Fs.stN 4 c = (c >>> 4) ^^^ Fs.stN 4 (c &&& 15#32) := by
  have hs : ∀ v : Fs.Reg, v.getLsbD 0 = false → Fs.st v = v >>> 1 := by
    intro v h
    unfold Fs.st
    rw [if_neg (by rw [h]; exact Bool.false_ne_true)]
    simp
  have hd : c = ((c >>> 4) <<< 4) ^^^ (c &&& 15#32) := by
    apply BitVec.eq_of_getLsbD_eq
    intro i hi
    simp only [BitVec.getLsbD_xor, BitVec.getLsbD_shiftLeft, BitVec.getLsbD_ushiftRight, BitVec.getLsbD_and]
    have h15 : (15#32).getLsbD i = decide (i < 4) := by
      by_cases h4 : i < 4
      · have : i = 0 ∨ i = 1 ∨ i = 2 ∨ i = 3 := by omega
        rcases this with rfl | rfl | rfl | rfl <;> decide
      · rw [decide_eq_false h4]
        rw [BitVec.getLsbD_ofNat]
        have : Nat.testBit 15 i = false := Nat.testBit_lt_two_pow (Nat.lt_of_lt_of_le (by decide : 15 < 2 ^ 4) (Nat.pow_le_pow_right (by omega) (by omega)))
        simp [this]
    rw [h15]
    by_cases h4 : i < 4
    · simp [h4]
    · have e : 4 + (i - 4) = i := by omega
      simp [h4, hi, e]
  have hz : Fs.stN 4 ((c >>> 4) <<< 4) = c >>> 4 := by
    have b : ∀ k, (c >>> 4).getLsbD (28 + k) = false := by
      intro k
      rw [BitVec.getLsbD_ushiftRight]
      exact BitVec.getLsbD_of_ge _ _ (by omega)
    have e1 : Fs.st ((c >>> 4) <<< 4) = (c >>> 4) <<< 3 := by
      rw [show (c >>> 4) <<< 4 = ((c >>> 4) <<< 3) <<< 1 by rw [← BitVec.shiftLeft_add]]
      refine Fs.st_shl _ ?_
      rw [BitVec.getLsbD_shiftLeft]
      simp
    have e2 : Fs.st ((c >>> 4) <<< 3) = (c >>> 4) <<< 2 := by
      rw [show (c >>> 4) <<< 3 = ((c >>> 4) <<< 2) <<< 1 by rw [← BitVec.shiftLeft_add]]
      refine Fs.st_shl _ ?_
      rw [BitVec.getLsbD_shiftLeft]
      simp
    have e3 : Fs.st ((c >>> 4) <<< 2) = (c >>> 4) <<< 1 := by
      rw [show (c >>> 4) <<< 2 = ((c >>> 4) <<< 1) <<< 1 by rw [← BitVec.shiftLeft_add]]
      refine Fs.st_shl _ ?_
      rw [BitVec.getLsbD_shiftLeft]
      simp
    have e4 : Fs.st ((c >>> 4) <<< 1) = c >>> 4 := Fs.st_shl _ (b 3)
    show Fs.st (Fs.st (Fs.st (Fs.st _))) = _
    rw [e1, e2, e3, e4]
  conv => lhs; rw [hd]
  rw [Fs.stN_xor, hz]
theorem and15 (c : Fs.Reg) : c &&& 15#32 = BitVec.ofNat 32 (c.toNat % 16) := by
  apply BitVec.eq_of_toNat_eq
  rw [BitVec.toNat_and, BitVec.toNat_ofNat]
  have := Nat.and_two_pow_sub_one_eq_mod c.toNat 4
  simp at this ⊢
  rw [this]
  omega
theorem and15_I (c : Fs.Reg) : Go.bits .and .u32 (rI c) 15 = ((c.toNat % 16 : Nat) : Int) := by
  rw [← f_I, bits_and, and15]
  unfold rI
  rw [BitVec.toNat_ofNat]
  have : c.toNat % 16 % 2 ^ 32 = c.toNat % 16 := by omega
  rw [this]
def tabI (j : Nat) : Int := rI (Fs.stN 4 (BitVec.ofNat 32 j))
/-- Half an octet, as the walk spells it. -/
theorem half_walk (c : Fs.Reg) : Go.bits .xor .u32 (rI c / (16 : Int)) (tabI (c.toNat % 16)) = rI (Fs.stN 4 c) := by
  unfold tabI
  rw [rI_shr4, bits_xor, ← and15, ← half_bv]
theorem reg_I (x : Int) (h : 0 ≤ x ∧ x < 256) : rI (Fs.reg (UInt8.ofNat x.toNat)) = x := by
  obtain ⟨n, rfl⟩ := nat_of h.1
  unfold rI Fs.reg
  simp
  omega
theorem stN_8 (c : Fs.Reg) : Fs.stN 4 (Fs.stN 4 c) = Fs.stN 8 c := by rw [← Fs.stN_add]
theorem run_snoc (c : Fs.Reg) (l : List Int) (x : Int) : Fs.run c (toB (l ++ [x])) = Fs.stN 8 (Fs.run c (toB l) ^^^ Fs.reg (UInt8.ofNat x.toNat)) := by
  rw [toB_append, Fs.run_append]
  rfl
/-! ### what layer 2 says -/
def crcI (l : List Int) : Int := rI (Fs.crc (toB l))
def sealS (l : List Int) : List Int := l ++ putI 4 (crcI l)
def openS (l : List Int) : List Int × Int :=
  if l.length < 4 then ([], 8) else if leI (l.drop (l.length - 4)) ≠ crcI (l.take (l.length - 4)) then ([], 21) else (l.take (l.length - 4), 0)
theorem crcI_range (l : List Int) : 0 ≤ crcI l ∧ crcI l < 4294967296 := rI_range _
theorem BY_seal {l : List Int} (h : BY l) : BY (sealS l) := BY_append h (BY_put _ _)
theorem seal_len (l : List Int) : (sealS l).length = l.length + 4 := by simp [sealS, putI_length]
theorem seal_toB (l : List Int) : toB (sealS l) = Fs.seal_ (toB l) := by
  unfold sealS Fs.seal_ crcI rI
  rw [toB_append]
  congr 1
  unfold putI
  rw [toB_ofB, Int.toNat_natCast]
theorem open_seal {l : List Int} : openS (sealS l) = (l, 0) := by
  unfold openS
  have h1 : (sealS l).length - 4 = l.length := by rw [seal_len]; omega
  have h2 : (sealS l).drop l.length = putI 4 (crcI l) := by unfold sealS; rw [List.drop_left]
  have h3 : (sealS l).take l.length = l := by unfold sealS; rw [List.take_left]
  have hr := crcI_range l
  rw [if_neg (by rw [seal_len]; omega), h1, h2, h3, leI_put 4 _ hr.1 (by omega), if_neg (by simp)]
end Go.Proofs.YtjidgdfdeckofaaDoor.Pl

/- Numbers that fit their widths, one by one. No program in sight. -/
namespace Go.Proofs.YtjidgdfdeckofaaDoor.AE
open Go Go.RowKit Go.Proofs Go.Proofs.YtjidgdfdeckofaaDoor
theorem flat_nil_r (ws : List Int) : Pl.flat ws [] = [] := by cases ws <;> rfl
theorem flat_take (ws vs : List Int) (i : Nat) (w v : Int) (h1 : ws[i]? = some w) (h2 : vs[i]? = some v) : Pl.flat (ws.take (i + 1)) (vs.take (i + 1)) = Pl.flat (ws.take i) (vs.take i) ++ Pl.putI w.toNat v := by
  induction i generalizing ws vs with
  | zero =>
    cases ws with
    | nil => simp at h1
    | cons a ws => cases vs with
      | nil => simp at h2
      | cons b vs =>
        simp at h1 h2
        subst h1 h2
        simp [Pl.flat, flat_nil_r]
  | succ i ih =>
    cases ws with
    | nil => simp at h1
    | cons a ws => cases vs with
      | nil => simp at h2
      | cons b vs =>
        simp only [List.getElem?_cons_succ] at h1 h2
        simp only [List.take_succ_cons, Pl.flat]
        rw [ih ws vs h1 h2, List.append_assoc]
theorem fits_get {ws vs : List Int} (h : Pl.fits ws vs) {i : Nat} {w v : Int} (h1 : ws[i]? = some w) (h2 : vs[i]? = some v) : 1 ≤ w ∧ w ≤ 8 ∧ 0 ≤ v ∧ v < 256 ^ w.toNat := by
  induction i generalizing ws vs with
  | zero =>
    cases ws with
    | nil => simp at h1
    | cons a ws => cases vs with
      | nil => simp at h2
      | cons b vs =>
        simp at h1 h2
        subst h1 h2
        exact h.1
  | succ i ih =>
    cases ws with
    | nil => simp at h1
    | cons a ws => cases vs with
      | nil => simp at h2
      | cons b vs => exact ih h.2 (by simpa using h1) (by simpa using h2)
end Go.Proofs.YtjidgdfdeckofaaDoor.AE

/- Helpers for walks: ranges, shifts. -/
namespace Go.Proofs.YtjidgdfdeckofaaDoor.AE
open Go Go.RowKit Go.Proofs Go.Proofs.YtjidgdfdeckofaaDoor
set_option linter.unusedVariables false
theorem inU64 {n : Int} (h : InR .u64 n) : 0 ≤ n ∧ n < 18446744073709551616 := by
  obtain ⟨h1, h2⟩ := h
  simp [IntKind.min, IntKind.max, IntKind.signed, IntKind.bits] at h1 h2
  omega
theorem inU32 {n : Int} (h : InR .u32 n) : 0 ≤ n ∧ n < 4294967296 := by
  obtain ⟨h1, h2⟩ := h
  simp [IntKind.min, IntKind.max, IntKind.signed, IntKind.bits] at h1 h2
  omega
theorem inU8 {n : Int} (h : InR .u8 n) : 0 ≤ n ∧ n < 256 := by
  obtain ⟨h1, h2⟩ := h
  simp [IntKind.min, IntKind.max, IntKind.signed, IntKind.bits] at h1 h2
  omega
theorem inI64 {n : Int} (h : InR .i64 n) : -9223372036854775808 ≤ n ∧ n < 9223372036854775808 := by
  obtain ⟨h1, h2⟩ := h
  simp [IntKind.min, IntKind.max, IntKind.signed, IntKind.bits] at h1 h2
  omega
theorem Real.num {k : IntKind} {l : List Int} (h : Real (.sl (numB k l))) : l.length < 4611686018427387904 ∧ ∀ n ∈ l, InR k n := by
  obtain ⟨h1, h2⟩ := h.sl
  simp [numB, big] at h1
  exact ⟨h1, fun n hn => (h2 [.int k n] (by simp only [numB, List.mem_map]; exact ⟨n, hn, rfl⟩) (.int k n) (by simp)).int⟩
theorem Real.BY {l : List Int} (h : Real (.sl (numB .u8 l))) : Pl.BY l := fun n hn => inU8 (h.num.2 n hn)
theorem shrU64 {n : Int} {k : Nat} (hk : k ≤ 8) : n.fdiv (2 ^ (min (8 * (k : Int)).toNat IntKind.u64.bits)) = n / 256 ^ k := by
  have h1 : min (8 * (k : Int)).toNat IntKind.u64.bits = 8 * k := by simp [IntKind.bits]; omega
  rw [h1, Pl.two_256, Int.fdiv_eq_ediv_of_nonneg _ (by have : (0 : Int) < 256 ^ k := Int.pow_pos (by decide); omega)]
theorem wrapB_mod (n : Int) : IntKind.u8.wrap n = n % 256 := by simp [IntKind.wrap, IntKind.signed, IntKind.bits]
theorem num_sz (k : IntKind) (l : List Int) : (numB k l).all (fun e => e.length == 1) = true := by simp [numB]
theorem putI_take (k : Nat) (n : Int) : (Pl.putI k n).take k = Pl.putI k n := List.take_of_length_le (by rw [Pl.putI_length]; omega)
theorem numB_get (k : IntKind) (l : List Int) (i : Nat) (x : Int) (h : l[i]? = some x) : (numB k l)[i]? = some [.int k x] := by simp [numB, h]
theorem numB_len (k : IntKind) (l : List Int) : (numB k l).length = l.length := by simp [numB]
theorem take_len {α : Type} (l : List α) (n : Nat) (h : l.length = n) : l.take n = l := List.take_of_length_le (by omega)
section
variable {P : Program} {nt : Nat} {Q : AX → St → Prop} {ops : Array Oper} {rest : List Oper} {tm : Nat → AV} {h : AHeap} {k : Nat} {df : List ADef} {ty : TypeId} {pos : String} {after : Array Edge} {d : Nat} {v : AV}
/-! the same rules, the callee's number looked at first -/
theorem Q_fun [ρ : Rnd] {c : Call} {f : FuncId} {args : List AV} (h0 : c.callee = .value (.func f)) (hd : decide (d < nt) = true) (ha : calleeW tm c = some (f, args)) (hc : callable P f = true) (hf : aFun P f args v) (hr : ∀ k', k ≤ k' → aOps P nt ops rest Q ⟨upd tm d v, h, k', df⟩) :
    aOps P nt ops (⟨some d, .call c, ty, pos, after, none⟩ :: rest) Q ⟨tm, h, k, df⟩ := W_fun hd ha hc hf hr
theorem Q_funG [ρ : Rnd] {c : Call} {f : FuncId} {args : List AV} {j : Nat} {b : Bool} (h0 : c.callee = .value (.func f)) (hg : guardA ops tm (some (j, b)) = some true) (hd : decide (d < nt) = true) (ha : calleeW tm c = some (f, args)) (hc : callable P f = true) (hf : aFun P f args v) (hr : ∀ k', k ≤ k' → aOps P nt ops rest Q ⟨upd tm d v, h, k', df⟩) :
    aOps P nt ops (⟨some d, .call c, ty, pos, after, some (j, b)⟩ :: rest) Q ⟨tm, h, k, df⟩ := W_funG hg hd ha hc hf hr
theorem Q_own [ρ : Rnd] {c : Call} {f : FuncId} {args : List AV} {sz : Nat} {es : List (List AV)} (h0 : c.callee = .value (.func f)) (hd : decide (d < nt) = true) (ha : calleeW tm c = some (f, args)) (hc : callable P f = true) (hf : aOwn P f args sz es) (hr : ∀ m k', k ≤ m → m < k' → aOps P nt ops rest Q ⟨upd tm d (.hs m 0 es.length), upd h m (some ⟨sz, es⟩), k', df⟩) :
    aOps P nt ops (⟨some d, .call c, ty, pos, after, none⟩ :: rest) Q ⟨tm, h, k, df⟩ := W_own hd ha hc hf hr
theorem Q_ownM [ρ : Rnd] {c : Call} {f : FuncId} {args : List AV} {mk : AV → AV} {sz : Nat} {es : List (List AV)} (h0 : c.callee = .value (.func f)) (hd : decide (d < nt) = true) (ha : calleeW tm c = some (f, args)) (hc : callable P f = true) (hf : aOwnM P f args mk sz es) (hr : ∀ m k', k ≤ m → m < k' → aOps P nt ops rest Q ⟨upd tm d (mk (.hs m 0 es.length)), upd h m (some ⟨sz, es⟩), k', df⟩) :
    aOps P nt ops (⟨some d, .call c, ty, pos, after, none⟩ :: rest) Q ⟨tm, h, k, df⟩ := W_ownM hd ha hc hf hr
end
section
variable {P : Program} {ops : List Oper} {k i : Nat} {rest : List Oper} {tm : Nat → AV} {h : AHeap} {acc : List Ac} {d : Nat} {ty : TypeId} {pos : String} {after : Array Edge} {v : AV} {K : (Nat → AV) → AHeap → Prop}
theorem Q_f {c : Call} {f : FuncId} {args : List AV} (h0 : c.callee = .value (.func f)) (ha : calleeW tm c = some (f, args)) (hc : callable P f = true) (hf : aFun P f args v) (hr : DrawP P ops k K (i + 1) rest (upd tm d v) h (acc ++ [⟨v, [], []⟩])) : DrawP P ops k K i (⟨some d, .call c, ty, pos, after, none⟩ :: rest) tm h acc := D_f ha hc hf hr
theorem Q_fG {j : Nat} {b : Bool} {c : Call} {f : FuncId} {args : List AV} (h0 : c.callee = .value (.func f)) (hg : guardA ops.toArray tm (some (j, b)) = some true) (ha : calleeW tm c = some (f, args)) (hc : callable P f = true) (hf : aFun P f args v) (hr : DrawP P ops k K (i + 1) rest (upd tm d v) h (acc ++ [⟨v, [], []⟩])) : DrawP P ops k K i (⟨some d, .call c, ty, pos, after, some (j, b)⟩ :: rest) tm h acc := D_fG hg ha hc hf hr
end

/-! ### the same rules, in short: FX is what is known -/
/-- What is known. -/
structure Fx (p : Prop) : Prop where
  out : p
theorem Fx0 : Fx (∀ α : Type, ([] : List α).length = 0) := ⟨fun _ => rfl⟩
theorem cl_ {p : Prop} (h : p := by first | rfl | (simp (disch := first | rfl | decide | omega | assumption | (simp only [LL]; omega)) only [WS, NB, WY, FX.out]; first | done | rfl)) : p := h
theorem cr_ {p : Prop} (h : p := by first | rfl | (simp (disch := first | rfl | decide | omega | assumption | (simp only [LL]; omega)) only [WS, NB, WY, RES, FX.out]; first | done | rfl)) : p := h
theorem ha_ {n : Nat} {h0 h : AHeap} (hh : HAgree n h0 h := by intro m hm; first | rfl | (simp (disch := first | assumption | omega) only [upd_ne, FX.out]; first | done | rfl)) : HAgree n h0 h := hh
section
variable {P : Program} {nt : Nat} {Q Q' : AX → St → Prop} {ops : Array Oper} {rest : List Oper} {tm : Nat → AV} {h h' : AHeap} {k k' : Nat} {df : List ADef} {op : Op} {ty : TypeId} {pos : String} {after : Array Edge} {d : Nat} {v : AV} {guard : Option (Nat × Bool)} {c : Code} {st : St}
theorem v_ [ρ : Rnd] (hr : aOps P nt ops rest Q ⟨upd tm d v, h', k', df⟩) (hg : guardA ops tm guard = some true := by first | rfl | (simp (disch := first | rfl | decide | omega | assumption | (simp only [LL]; omega)) only [WS, NB, WY, FX.out]; first | done | rfl)) (hd : decide (d < nt) = true := by rfl) (ha : aop P op tm h k = some (v, h', k') := by simp (disch := first | rfl | decide | omega | assumption | (simp only [LL]; omega)) only [WS, NB, WY, FX.out]; first | done | rfl) (hk : k ≤ k' := by first | exact Nat.le_refl _ | exact Nat.le_succ _) :
    aOps P nt ops (⟨some d, op, ty, pos, after, guard⟩ :: rest) Q ⟨tm, h, k, df⟩ := aOps_val hg hd ha hk hr
theorem u_ [ρ : Rnd] (hr : aOps P nt ops rest Q ⟨tm, h', k, df⟩) (ha : aop P op tm h k = some (v, h', k) := by simp (disch := first | rfl | decide | omega | assumption | (simp only [LL]; omega)) only [WS, NB, WY, FX.out]; first | done | rfl) : aOps P nt ops (⟨none, op, ty, pos, after, none⟩ :: rest) Q ⟨tm, h, k, df⟩ := W_unit ha hr
theorem k_ [ρ : Rnd] {j : Nat} {b : Bool} (hr : aOps P nt ops rest Q ⟨upd tm d (.tup []), h, k, df⟩) (hg : guardA ops tm (some (j, b)) = some false := by first | rfl | (simp (disch := first | rfl | decide | omega | assumption | (simp only [LL]; omega)) only [WS, NB, WY, FX.out]; first | done | rfl)) (hd : decide (d < nt) = true := by rfl) : aOps P nt ops (⟨some d, op, ty, pos, after, some (j, b)⟩ :: rest) Q ⟨tm, h, k, df⟩ := W_skip hg hd hr
theorem nl_ [ρ : Rnd] (hr : aWp P nt c Q ⟨tm, h, k, df⟩) : aOps P nt ops [] (AX.andThen (aWp P nt c Q) Q') ⟨tm, h, k, df⟩ := W_nil hr
theorem nz_ [ρ : Rnd] (hr : Q .norm ⟨tm, h, k, df⟩) : aOps P nt ops [] Q ⟨tm, h, k, df⟩ := W_nil hr
theorem sq_ [ρ : Rnd] {x y : Code} (hr : aWp P nt x (AX.andThen (aWp P nt y Q) Q) st) : aWp P nt (.seq x y) Q st := aWp_seq hr
theorem rg_ [ρ : Rnd] {id : Nat} {l : List Oper} (hr : aOps P nt l.toArray l Q st) : aWp P nt (.region id l.toArray false) Q st := aWp_region hr
theorem ct_ [ρ : Rnd] {x y : Code} {o : Operand} (hr : aWp P nt x Q st) (hc : evA st.tm o = .bool true := by first | rfl | (simp (disch := first | rfl | decide | omega | assumption | (simp only [LL]; omega)) only [WS, NB, WY, FX.out]; first | done | rfl)) : aWp P nt (.cond o x y) Q st := aWp_cond_t hc hr
theorem cf_ [ρ : Rnd] {x y : Code} {o : Operand} (hr : aWp P nt y Q st) (hc : evA st.tm o = .bool false := by first | rfl | (simp (disch := first | rfl | decide | omega | assumption | (simp only [LL]; omega)) only [WS, NB, WY, FX.out]; first | done | rfl)) : aWp P nt (.cond o x y) Q st := aWp_cond_f hc hr
theorem bk_ [ρ : Rnd] {id : Nat} (hr : aWp P nt c (AX.inBlock id Q) st) : aWp P nt (.block id c) Q st := aWp_block hr
theorem sc_ (hr : aWp P nt c (AX.noGoto Q) st) : aWp P nt (.scope c) Q st := aWp_scope hr
theorem sk_ [ρ : Rnd] (hr : Q .norm st) : aWp P nt .skip Q st := aWp_skip hr
theorem ex_ [ρ : Rnd] {id : Nat} (hr : Q (.ex id) st) : aWp P nt (.exit id) Q st := aWp_exit hr
theorem rt_ [ρ : Rnd] (hr : Q .ret st) : aWp P nt .ret Q st := aWp_ret hr
end
section
variable {P : Program} {nt : Nat} {Q : AX → St → Prop} {ops : Array Oper} {rest : List Oper} {tm : Nat → AV} {h : AHeap} {k : Nat} {df : List ADef} {ty : TypeId} {pos : String} {after : Array Edge} {d : Nat} {v : AV} {guard : Option (Nat × Bool)} {c : Call} {f : FuncId} {args : List AV}
theorem f_ [ρ : Rnd] (hf : aFun P f args v) (hr : ∀ k', k ≤ k' → aOps P nt ops rest Q ⟨upd tm d v, h, k', df⟩) (h0 : c.callee = .value (.func f) := by rfl) (hg : guardA ops tm guard = some true := by first | rfl | (simp (disch := first | rfl | decide | omega | assumption | (simp only [LL]; omega)) only [WS, NB, WY, FX.out]; first | done | rfl)) (hd : decide (d < nt) = true := by rfl) (ha : calleeW tm c = some (f, args) := by first | rfl | (simp (disch := first | rfl | decide | omega | assumption | (simp only [LL]; omega)) only [WS, NB, WY, FX.out]; first | done | rfl)) (hc : callable P f = true := by simp only [WS]) :
    aOps P nt ops (⟨some d, .call c, ty, pos, after, guard⟩ :: rest) Q ⟨tm, h, k, df⟩ := aOps_fun hg hd rfl ha hc hf hr
theorem o_ [ρ : Rnd] {sz : Nat} {es : List (List AV)} (hf : aOwn P f args sz es) (hr : ∀ m k', k ≤ m → m < k' → aOps P nt ops rest Q ⟨upd tm d (.hs m 0 es.length), upd h m (some ⟨sz, es⟩), k', df⟩) (h0 : c.callee = .value (.func f) := by rfl) (hd : decide (d < nt) = true := by rfl) (ha : calleeW tm c = some (f, args) := by first | rfl | (simp (disch := first | rfl | decide | omega | assumption | (simp only [LL]; omega)) only [WS, NB, WY, FX.out]; first | done | rfl)) (hc : callable P f = true := by simp only [WS]) :
    aOps P nt ops (⟨some d, .call c, ty, pos, after, none⟩ :: rest) Q ⟨tm, h, k, df⟩ := W_own hd ha hc hf hr
theorem oa_ [ρ : Rnd] {sz : Nat} {es : List (List AV)} (hf : aOwn P f args sz es) (hr : ∀ m k', k ≤ m → m < k' → aOps P nt ops rest Q ⟨upd tm d (.hs m 0 es.length), upd h m (some ⟨sz, es⟩), k', df⟩) (h0 : c.callee = .value (.func f) := by rfl) (hd : decide (d < nt) = true := by rfl) (ha : calleeA tm c = some (f, args) := by first | rfl | (simp (disch := first | rfl | decide | omega | assumption | (simp only [LL]; omega)) only [WS, NB, WY, FX.out]; first | done | rfl)) (hc : callable P f = true := by simp only [WS]) :
    aOps P nt ops (⟨some d, .call c, ty, pos, after, none⟩ :: rest) Q ⟨tm, h, k, df⟩ := W_ownA hd ha hc hf hr
theorem om_ [ρ : Rnd] {mk : AV → AV} {sz : Nat} {es : List (List AV)} (hf : aOwnM P f args mk sz es) (hr : ∀ m k', k ≤ m → m < k' → aOps P nt ops rest Q ⟨upd tm d (mk (.hs m 0 es.length)), upd h m (some ⟨sz, es⟩), k', df⟩) (h0 : c.callee = .value (.func f) := by rfl) (hd : decide (d < nt) = true := by rfl) (ha : calleeW tm c = some (f, args) := by first | rfl | (simp (disch := first | rfl | decide | omega | assumption | (simp only [LL]; omega)) only [WS, NB, WY, FX.out]; first | done | rfl)) (hc : callable P f = true := by simp only [WS]) :
    aOps P nt ops (⟨some d, .call c, ty, pos, after, none⟩ :: rest) Q ⟨tm, h, k, df⟩ := W_ownM hd ha hc hf hr
theorem o2_ [ρ : Rnd] {mk : AV → AV → AV} {sz1 sz2 : Nat} {es1 es2 : List (List AV)} (hf : aOwn2 P f args mk sz1 es1 sz2 es2) (hr : ∀ m1 m2 k', k ≤ m1 ∧ k ≤ m2 ∧ m1 ≠ m2 ∧ m1 < k' ∧ m2 < k' → aOps P nt ops rest Q ⟨upd tm d (mk (.hs m1 0 es1.length) (.hs m2 0 es2.length)), upd (upd h m1 (some ⟨sz1, es1⟩)) m2 (some ⟨sz2, es2⟩), k', df⟩) (h0 : c.callee = .value (.func f) := by rfl) (hd : decide (d < nt) = true := by rfl) (ha : calleeW tm c = some (f, args) := by first | rfl | (simp (disch := first | rfl | decide | omega | assumption | (simp only [LL]; omega)) only [WS, NB, WY, FX.out]; first | done | rfl)) (hc : callable P f = true := by simp only [WS]) :
    aOps P nt ops (⟨some d, .call c, ty, pos, after, none⟩ :: rest) Q ⟨tm, h, k, df⟩ := W_own2 hd ha hc hf hr
theorem e_ [ρ : Rnd] {h2 : AHeap} (hf : aEff P f args h k v h2) (hr : ∀ k', k ≤ k' → aOps P nt ops rest Q ⟨upd tm d v, h2, k', df⟩) (h0 : c.callee = .value (.func f) := by rfl) (hg : guardA ops tm guard = some true := by first | rfl | (simp (disch := first | rfl | decide | omega | assumption | (simp only [LL]; omega)) only [WS, NB, WY, FX.out]; first | done | rfl)) (hd : decide (d < nt) = true := by rfl) (ha : calleeA tm c = some (f, args) := by first | rfl | (simp (disch := first | rfl | decide | omega | assumption | (simp only [LL]; omega)) only [WS, NB, WY, FX.out]; first | done | rfl)) (hc : callable P f = true := by first | simp only [WS] | assumption) :
    aOps P nt ops (⟨some d, .call c, ty, pos, after, guard⟩ :: rest) Q ⟨tm, h, k, df⟩ := aOps_call hg hd rfl ha hc hf (fun a h' k' ⟨e1, e2, e3⟩ => by cases e1; subst e2; exact hr k' e3) (fun a h' k' ⟨e1, _⟩ => by cases e1)
/-! calls of function values -/
theorem xe_ [ρ : Rnd] {h2 : AHeap} (hf : aEff P f args h k v h2) (hr : ∀ k', k ≤ k' → aOps P nt ops rest Q ⟨upd tm d v, h2, k', df⟩) (hg : guardA ops tm guard = some true := by first | rfl | (simp (disch := first | rfl | decide | omega | assumption | (simp only [LL]; omega)) only [WS, NB, WY, FX.out]; first | done | rfl)) (hd : decide (d < nt) = true := by rfl) (ha : calleeA tm c = some (f, args) := by first | rfl | (simp (disch := first | rfl | decide | omega | assumption | (simp only [LL]; omega)) only [WS, NB, WY, FX.out]; first | done | rfl)) (hc : callable P f = true := by first | simp only [WS] | assumption) :
    aOps P nt ops (⟨some d, .call c, ty, pos, after, guard⟩ :: rest) Q ⟨tm, h, k, df⟩ := aOps_call hg hd rfl ha hc hf (fun a h' k' ⟨e1, e2, e3⟩ => by cases e1; subst e2; exact hr k' e3) (fun a h' k' ⟨e1, _⟩ => by cases e1)
theorem xf_ [ρ : Rnd] (hf : aFun P f args v) (hr : ∀ k', k ≤ k' → aOps P nt ops rest Q ⟨upd tm d v, h, k', df⟩) (hg : guardA ops tm guard = some true := by first | rfl | (simp (disch := first | rfl | decide | omega | assumption | (simp only [LL]; omega)) only [WS, NB, WY, FX.out]; first | done | rfl)) (hd : decide (d < nt) = true := by rfl) (ha : calleeW tm c = some (f, args) := by first | rfl | (simp (disch := first | rfl | decide | omega | assumption | (simp only [LL]; omega)) only [WS, NB, WY, FX.out]; first | done | rfl)) (hc : callable P f = true := by simp only [WS]) :
    aOps P nt ops (⟨some d, .call c, ty, pos, after, guard⟩ :: rest) Q ⟨tm, h, k, df⟩ := aOps_fun hg hd rfl ha hc hf hr
theorem t_ [ρ : Rnd] (hf : aFun P f args v) (hr : ∀ k', k ≤ k' → aOps P nt ops rest Q ⟨upd tm d v, h, k', df⟩) (h0 : c.callee = .value (.func f) := by rfl) (hd : decide (d < nt) = true := by rfl) (ha : calleeT h tm c = some (f, args) := by first | rfl | (simp (disch := first | rfl | decide | omega | assumption | (simp only [LL]; omega)) only [WS, NB, WY, FX.out]; first | done | rfl)) (hp : plainV v = true := by rfl) (hc : callable P f = true := by simp only [WS]) :
    aOps P nt ops (⟨some d, .call c, ty, pos, after, none⟩ :: rest) Q ⟨tm, h, k, df⟩ := W_told hd ha hc hf hp hr
/-- A call that does whatever R says. -/
theorem R_ [ρ : Rnd] {R : AEnd → AHeap → Nat → Prop} (hf : aCalls P f args h k R) (hp : ∀ a h' k', ¬ R (.pan a) h' k') (hr : ∀ a h' k', R (.ret a) h' k' → aOps P nt ops rest Q ⟨upd tm d a, h', k', df⟩) (h0 : c.callee = .value (.func f) := by rfl) (hg : guardA ops tm guard = some true := by first | rfl | (simp (disch := first | rfl | decide | omega | assumption | (simp only [LL]; omega)) only [WS, NB, WY, FX.out]; first | done | rfl)) (hd : decide (d < nt) = true := by rfl) (ha : calleeA tm c = some (f, args) := by first | rfl | (simp (disch := first | rfl | decide | omega | assumption | (simp only [LL]; omega)) only [WS, NB, WY, FX.out]; first | done | rfl)) (hc : callable P f = true := by simp only [WS]) :
    aOps P nt ops (⟨some d, .call c, ty, pos, after, guard⟩ :: rest) Q ⟨tm, h, k, df⟩ := aOps_call hg hd rfl ha hc hf hr (fun a h' k' q => absurd q (hp a h' k'))
end
section
variable {P : Program} {ops : List Oper} {k i : Nat} {rest : List Oper} {tm : Nat → AV} {h : AHeap} {acc : List Ac} {d : Nat} {op : Op} {ty : TypeId} {pos : String} {after : Array Edge} {v : AV} {K : (Nat → AV) → AHeap → Prop} {guard : Option (Nat × Bool)} {c : Call} {f : FuncId} {args : List AV} {m : Nat} {b : Option Blk}
theorem dq_ (hr : DrawP P ops k K (i + 1) rest (upd tm d v) h (acc ++ [⟨v, [], []⟩])) (hg : guardA ops.toArray tm guard = some true := by first | rfl | (simp (disch := first | rfl | decide | omega | assumption | (simp only [LL]; omega)) only [WS, NB, WY, FX.out]; first | done | rfl)) (ha : ∀ g : AHeap, aop P op tm g (k + i) = some (v, g, k + i) := by intro g; simp (disch := first | rfl | decide | omega | assumption | (simp only [LL]; omega)) only [WS, NB, WY, FX.out]; first | done | rfl) : DrawP P ops k K i (⟨some d, op, ty, pos, after, guard⟩ :: rest) tm h acc :=
  .cons (a := ⟨v, [], []⟩) (.inr ⟨hg, .inl fun g _ => ⟨_, ha g, Nat.le_refl _, Nat.le_succ _⟩⟩) hr
theorem dr_ (R : List Nat) (hr : DrawP P ops k K (i + 1) rest (upd tm d v) h (acc ++ [⟨v, R, []⟩])) (hg : guardA ops.toArray tm guard = some true := by first | rfl | (simp (disch := first | rfl | decide | omega | assumption | (simp only [LL]; omega)) only [WS, NB, WY, FX.out]; first | done | rfl)) (ha : ∀ g : AHeap, RdEq g h R → aop P op tm g (k + i) = some (v, g, k + i) := by intro g hq; simp only [RdEq] at hq; simp (disch := first | rfl | decide | omega | assumption | (simp only [LL]; omega)) only [WS, NB, WY, FX.out, hq]; first | done | rfl) : DrawP P ops k K i (⟨some d, op, ty, pos, after, guard⟩ :: rest) tm h acc :=
  .cons (a := ⟨v, R, []⟩) (.inr ⟨hg, .inl fun g hg => ⟨_, ha g (rdEq_of hg), Nat.le_refl _, Nat.le_succ _⟩⟩) hr
theorem dm_ (R : List Nat) (hr : DrawP P ops k K (i + 1) rest (upd tm d v) (upd h (k + i) b) (acc ++ [⟨v, R, [(k + i, b)]⟩])) (ha : ∀ g : AHeap, RdEq g h R → aop P op tm g (k + i) = some (v, upd g (k + i) b, k + i + 1) := by intro g hq; simp only [RdEq] at hq; simp (disch := first | rfl | decide | omega | assumption | (simp only [LL]; omega)) only [WS, NB, WY, FX.out, hq]; first | done | rfl) : DrawP P ops k K i (⟨some d, op, ty, pos, after, none⟩ :: rest) tm h acc := D_m R ha hr
theorem da_ (R : List Nat) (hr : DrawP P ops k K (i + 1) rest (upd tm d v) (upd (upd h m none) (k + i) b) (acc ++ [⟨v, R, [(m, none), (k + i, b)]⟩])) (ha : ∀ g : AHeap, RdEq g h R → aop P op tm g (k + i) = some (v, upd (upd g m none) (k + i) b, k + i + 1) := by intro g hq; simp only [RdEq] at hq; simp (disch := first | rfl | decide | omega | assumption | (simp only [LL]; omega)) only [WS, NB, WY, FX.out, hq]; first | done | rfl) : DrawP P ops k K i (⟨some d, op, ty, pos, after, none⟩ :: rest) tm h acc := D_a R ha hr
theorem ds_ (R : List Nat) (hr : DrawP P ops k K (i + 1) rest tm (upd h m b) (acc ++ [⟨v, R, [(m, b)]⟩])) (ha : ∀ g : AHeap, RdEq g h R → aop P op tm g (k + i) = some (v, upd g m b, k + i) := by intro g hq; simp only [RdEq] at hq; simp (disch := first | rfl | decide | omega | assumption | (simp only [LL]; omega)) only [WS, NB, WY, FX.out, hq]; first | done | rfl) : DrawP P ops k K i (⟨none, op, ty, pos, after, none⟩ :: rest) tm h acc := D_s R ha hr
theorem dz_ (d : Nat) (R : List Nat) {sz n : Nat} {es : List (List AV)} (hr : DrawP P ops k K (i + 1) rest (upd tm d (.sl es)) h (acc ++ [⟨.sl es, R, []⟩])) (hg : guardA ops.toArray tm guard = some true := by exact cl_) (ha : ∀ g : AHeap, RdEq g h R → aop P op tm g (k + i) = some (.hs (k + i) 0 n, upd g (k + i) (some ⟨sz, es⟩), k + i + 1) := by intro g hq; simp only [RdEq] at hq; simp (disch := first | rfl | decide | omega | assumption | (simp only [LL]; omega)) only [WS, NB, WY, FX.out, hq]; first | done | rfl) (hn : n = es.length := by exact cl_) : DrawP P ops k K i (⟨some d, op, ty, pos, after, guard⟩ :: rest) tm h acc :=
  .cons (a := ⟨.sl es, R, []⟩) (.inr ⟨hg, .inr (.inr (.inr ⟨sz, es, rfl, rfl, fun g hq => hn ▸ ha g (rdEq_of hq)⟩))⟩) hr
theorem dw_ (R : List Nat) (hr : DrawP P ops k K (i + 1) rest (upd tm d v) (upd h m b) (acc ++ [⟨v, R, [(m, b)]⟩])) (ha : ∀ g : AHeap, RdEq g h R → aop P op tm g (k + i) = some (v, upd g m b, k + i) := by intro g hq; simp only [RdEq] at hq; simp (disch := first | rfl | decide | omega | assumption | (simp only [LL]; omega)) only [WS, NB, WY, FX.out, hq]; first | done | rfl) : DrawP P ops k K i (⟨some d, op, ty, pos, after, none⟩ :: rest) tm h acc := D_w R ha hr
theorem dk_ {j : Nat} {b : Bool} (hr : DrawP P ops k K (i + 1) rest (upd tm d (.tup [])) h (acc ++ [⟨.tup [], [], []⟩])) (hg : guardA ops.toArray tm (some (j, b)) = some false := by first | rfl | (simp (disch := first | rfl | decide | omega | assumption | (simp only [LL]; omega)) only [WS, NB, WY, FX.out]; first | done | rfl)) : DrawP P ops k K i (⟨some d, op, ty, pos, after, some (j, b)⟩ :: rest) tm h acc := D_skip hg hr
theorem df_ (hf : aFun P f args v) (hr : DrawP P ops k K (i + 1) rest (upd tm d v) h (acc ++ [⟨v, [], []⟩])) (h0 : c.callee = .value (.func f) := by rfl) (hg : guardA ops.toArray tm guard = some true := by first | rfl | (simp (disch := first | rfl | decide | omega | assumption | (simp only [LL]; omega)) only [WS, NB, WY, FX.out]; first | done | rfl)) (ha : calleeW tm c = some (f, args) := by first | rfl | (simp (disch := first | rfl | decide | omega | assumption | (simp only [LL]; omega)) only [WS, NB, WY, FX.out]; first | done | rfl)) (hc : callable P f = true := by simp only [WS]) : DrawP P ops k K i (⟨some d, .call c, ty, pos, after, guard⟩ :: rest) tm h acc :=
  .cons (a := ⟨v, [], []⟩) (.inr ⟨hg, .inr (.inl ⟨c, f, args, rfl, ha, hc, fun g nx _ => aFun_act hf g nx⟩)⟩) hr
theorem do_ {sz : Nat} {es : List (List AV)} (hf : ∀ (g : AHeap) (nx : Nat), aCalls P f args g nx (fun e h' k' => ∃ m, e = .ret (.hs m 0 es.length) ∧ h' = upd g m (some ⟨sz, es⟩) ∧ nx ≤ m ∧ m < k'))
    (hr : DrawP P ops k K (i + 1) rest (upd tm d (.hs (k + i) 0 es.length)) (upd h (k + i) (some ⟨sz, es⟩)) (acc ++ [⟨.hs (k + i) 0 es.length, [], [(k + i, some ⟨sz, es⟩)]⟩])) (h0 : c.callee = .value (.func f) := by rfl) (ha : calleeW tm c = some (f, args) := by first | rfl | (simp (disch := first | rfl | decide | omega | assumption | (simp only [LL]; omega)) only [WS, NB, WY, FX.out]; first | done | rfl)) (hc : callable P f = true := by simp only [WS]) : DrawP P ops k K i (⟨some d, .call c, ty, pos, after, none⟩ :: rest) tm h acc := D_o ha hc hf hr
theorem doM_ {mk : AV → AV} {sz : Nat} {es : List (List AV)} (hmk : RenOk mk) (hf : ∀ (g : AHeap) (nx : Nat), aCalls P f args g nx (fun e h' k' => ∃ m, e = .ret (mk (.hs m 0 es.length)) ∧ h' = upd g m (some ⟨sz, es⟩) ∧ nx ≤ m ∧ m < k'))
    (hr : DrawP P ops k K (i + 1) rest (upd tm d (mk (.hs (k + i) 0 es.length))) (upd h (k + i) (some ⟨sz, es⟩)) (acc ++ [⟨mk (.hs (k + i) 0 es.length), [], [(k + i, some ⟨sz, es⟩)]⟩])) (h0 : c.callee = .value (.func f) := by rfl) (ha : calleeW tm c = some (f, args) := by first | rfl | (simp (disch := first | rfl | decide | omega | assumption | (simp only [LL]; omega)) only [WS, NB, WY, FX.out]; first | done | rfl)) (hc : callable P f = true := by simp only [WS]) : DrawP P ops k K i (⟨some d, .call c, ty, pos, after, none⟩ :: rest) tm h acc := D_oM hmk ha hc hf hr
theorem dn_ (hK : K tm h) (hn : nOk (preds ops) acc 0 acc := by simp only [List.nil_append, List.cons_append]; repeat' (first | exact True.intro | exact .inl rfl | exact .inr (.inl rfl) | exact .inr (.inr ⟨by simp <;> omega, by simp <;> omega⟩) | exact .inr (.inr ⟨by simp, by simp⟩) | refine ⟨?_, ?_⟩)) : DrawP P ops k K i [] tm h acc := D_nil hn hK
end
section
variable {P : Program} {tm : Nat → AV} {h h0 : AHeap} {k nx : Nat} {a v : AV} {rs : List ResultVar} {fn : Func}
theorem end_ (hrs : fn.results = rs.toArray) (hk : nx ≤ k := by omega) (hh : HAgree nx h0 h := by exact ha_) (hr : resA P ⟨tm, h, k, []⟩ rs = some a := by first | rfl | (simp (disch := first | rfl | decide | omega | assumption | (simp only [LL]; omega)) only [WS, NB, WY, RES, FX.out]; first | done | rfl)) (hf : frzV nx h a = some v := by first | rfl | (simp (disch := first | rfl | decide | omega | assumption | (simp only [LL]; omega)) only [WS, NB, WY, FY, FX.out]; first | done | rfl)) : endQ P fn nx h0 v .ret ⟨tm, h, k, []⟩ := W_end hk hh (by rw [hrs]) hr hf
theorem endo_ {sz : Nat} {es rest : List (List AV)} (m : Nat) (hrs : fn.results = rs.toArray) (hr : resA P ⟨tm, h, k, []⟩ rs = some (.hs m 0 es.length) := by first | rfl | (simp (disch := first | rfl | decide | omega | assumption | (simp only [LL]; omega)) only [WS, NB, WY, RES, FX.out]; first | done | rfl)) (h3 : h m = some ⟨sz, es ++ rest⟩ := by first | rfl | (simp (disch := first | rfl | decide | omega | assumption | (simp only [LL]; omega)) only [WS, NB, WY, FX.out, List.append_nil]; first | done | rfl)) (hk : nx ≤ k := by omega) (hh : HAgree nx h0 h := by exact ha_) (h1 : nx ≤ m := by omega) (h2 : m < k := by omega) : endOwnQ P fn nx h0 sz es .ret ⟨tm, h, k, []⟩ :=
  W_endOwn hk hh (by rw [hrs]) hr (.inl ⟨m, rest, rfl, h1, h2, h3⟩)
theorem endm_ {mk : AV → AV} {sz : Nat} {es : List (List AV)} (m : Nat) (hrs : fn.results = rs.toArray) (hr : resA P ⟨tm, h, k, []⟩ rs = some (mk (.hs m 0 es.length)) := by first | rfl | (simp (disch := first | rfl | decide | omega | assumption | (simp only [LL]; omega)) only [WS, NB, WY, RES, FX.out]; first | done | rfl)) (h3 : h m = some ⟨sz, es⟩ := by first | rfl | (simp (disch := first | rfl | decide | omega | assumption | (simp only [LL]; omega)) only [WS, NB, WY, FX.out]; first | done | rfl)) (hk : nx ≤ k := by omega) (hh : HAgree nx h0 h := by exact ha_) (h1 : nx ≤ m := by omega) (h2 : m < k := by omega) : endOwnM P fn nx h0 mk sz es .ret ⟨tm, h, k, []⟩ :=
  W_endOwnM m hk hh (by rw [hrs]) hr h1 h2 h3
theorem end2_ {mk : AV → AV → AV} {sz1 sz2 : Nat} {es1 es2 : List (List AV)} (m1 m2 : Nat) (hrs : fn.results = rs.toArray) (hr : resA P ⟨tm, h, k, []⟩ rs = some (mk (.hs m1 0 es1.length) (.hs m2 0 es2.length)) := by first | rfl | (simp (disch := first | rfl | decide | omega | assumption | (simp only [LL]; omega)) only [WS, NB, WY, RES, FX.out]; first | done | rfl)) (h3 : h m1 = some ⟨sz1, es1⟩ := by first | rfl | (simp (disch := first | rfl | decide | omega | assumption | (simp only [LL]; omega)) only [WS, NB, WY, FX.out]; first | done | rfl)) (h4 : h m2 = some ⟨sz2, es2⟩ := by first | rfl | (simp (disch := first | rfl | decide | omega | assumption | (simp only [LL]; omega)) only [WS, NB, WY, FX.out]; first | done | rfl)) (hk : nx ≤ k := by omega) (hh : HAgree nx h0 h := by exact ha_)
    (h1 : nx ≤ m1 ∧ nx ≤ m2 ∧ m1 ≠ m2 ∧ m1 < k ∧ m2 < k := by refine ⟨?_, ?_, ?_, ?_, ?_⟩ <;> (first | omega | (simp only []; omega))) : endOwn2 P fn nx h0 mk sz1 es1 sz2 es2 .ret ⟨tm, h, k, []⟩ := W_endOwn2 m1 m2 hk hh (by rw [hrs]) hr h1 h3 h4
end
section
variable {P : Program} {nt : Nat} {Q : AX → St → Prop} {tm : Nat → AV} {h : AHeap} {k : Nat} {df : List ADef} {b : Blk}
theorem fz_ [ρ : Rnd] {ops : Array Oper} {l : List Oper} (t : Nat) {n off len : Nat} (hr : aOps P nt ops l Q ⟨upd tm t (.sl ((b.es.drop off).take len)), upd h n none, k, df⟩) (ht : tm t = .hs n off len := by first | rfl | (simp (disch := first | rfl | decide | omega | assumption | (simp only [LL]; omega)) only [WS, NB, WY, FX.out]; first | done | rfl)) (hn : h n = some b := by first | rfl | (simp (disch := first | rfl | decide | omega | assumption | (simp only [LL]; omega)) only [WS, NB, WY, FX.out]; first | done | rfl)) (hl : off + len ≤ b.es.length := by first | omega | (simp (disch := first | rfl | decide | omega | assumption | (simp only [LL]; omega)) only [WS, NB, WY, FX.out]; first | done | omega)) : aOps P nt ops l Q ⟨tm, h, k, df⟩ := W_freeze t ht hn hl hr
theorem fi_ [ρ : Rnd] {ops l : List Oper} (t n : Nat) {cs : List AV} (hr : aOps P nt ops.toArray l Q ⟨upd tm t (.agg (cs.map (frzN n b))), upd h n none, k, df⟩) (ht : tm t = .agg cs := by first | rfl | (simp (disch := first | rfl | decide | omega | assumption | (simp only [LL]; omega)) only [WS, NB, WY, FX.out]; first | done | rfl)) (hn : h n = some b := by first | rfl | (simp (disch := first | rfl | decide | omega | assumption | (simp only [LL]; omega)) only [WS, NB, WY, FX.out]; first | done | rfl)) : aOps P nt ops.toArray l Q ⟨tm, h, k, df⟩ := W_freezeIn t n ht hn hr
end
end Go.Proofs.YtjidgdfdeckofaaDoor.AE
