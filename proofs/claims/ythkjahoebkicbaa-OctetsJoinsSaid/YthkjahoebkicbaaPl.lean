/- Plain words between the print's lists of whole numbers and lists of octets: no memory in it. -/
import Derived.Test.YthkjahoebkicbaaFs
import Derived.Test.YthkjahoebkicbaaMW
namespace Go.Proofs.Ythkjahoebkicbaa.Pl
open Go.RowKit Go.Proofs.YthkjahoebkicbaaW.PrintWords Go.Proofs.YthkjahoebkicbaaW.PrintMore
open Go.Proofs.Ythkjahoebkicbaa

/-! ### whole numbers -/
theorem w64 {x : Int} (h0 : -9223372036854775808 ≤ x) (h1 : x < 9223372036854775808) : wrap64 x = x := by unfold wrap64; omega
theorem w64_range (x : Int) : -9223372036854775808 ≤ wrap64 x ∧ wrap64 x < 9223372036854775808 := by unfold wrap64; omega
theorem u64w {x : Int} (h0 : 0 ≤ x) (h1 : x < 18446744073709551616) : IntKind.u64.wrap x = x := by
  simp [IntKind.wrap, IntKind.bits, IntKind.signed]
  omega
theorem wf_i64 {x : Int} (h : (Lit.int .i64 x).wf = true) : -9223372036854775808 ≤ x ∧ x < 9223372036854775808 := by
  simp [Lit.wf, IntKind.min, IntKind.max, IntKind.bits, IntKind.signed] at h
  omega
theorem wf_u64 {x : Int} (h : (Lit.int .u64 x).wf = true) : 0 ≤ x ∧ x < 18446744073709551616 := by
  simp [Lit.wf, IntKind.min, IntKind.max, IntKind.bits, IntKind.signed] at h
  omega
theorem wf_u32 {x : Int} (h : (Lit.int .u32 x).wf = true) : 0 ≤ x ∧ x < 4294967296 := by
  simp [Lit.wf, IntKind.min, IntKind.max, IntKind.bits, IntKind.signed] at h
  omega
theorem wf_u8 {x : Int} (h : (Lit.int .u8 x).wf = true) : 0 ≤ x ∧ x < 256 := by
  simp [Lit.wf, IntKind.min, IntKind.max, IntKind.bits, IntKind.signed] at h
  omega

/-! ### octets -/
def BY (l : List Int) : Prop := ∀ x ∈ l, 0 ≤ x ∧ x < 256
def ofB (b : Fs.Bytes) : List Int := b.map fun x => (x.toNat : Int)
def toB (l : List Int) : Fs.Bytes := l.map fun x => UInt8.ofNat x.toNat
def leI (l : List Int) : Int := (Fs.le (toB l) : Int)
def putI (k : Nat) (n : Int) : List Int := ofB (Fs.put k n.toNat)
theorem ofB_length (b : Fs.Bytes) : (ofB b).length = b.length := by simp [ofB]
theorem toB_length (l : List Int) : (toB l).length = l.length := by simp [toB]
theorem putI_length (k : Nat) (n : Int) : (putI k n).length = k := by simp [putI, ofB_length, Fs.put_length]
theorem toB_ofB (b : Fs.Bytes) : toB (ofB b) = b := by
  simp [toB, ofB, Function.comp_def]
theorem ofB_toB {l : List Int} (h : BY l) : ofB (toB l) = l := by
  simp only [ofB, toB, List.map_map]
  apply List.ext_getElem
  · simp
  · intro i h1 h2
    simp only [List.getElem_map, Function.comp_apply]
    have := h l[i] (List.getElem_mem _)
    simp only [UInt8.toNat_ofNat']
    omega
theorem BY_ofB (b : Fs.Bytes) : BY (ofB b) := by
  intro x hx
  simp only [ofB, List.mem_map] at hx
  obtain ⟨y, _, rfl⟩ := hx
  have := y.toNat_lt
  omega
theorem BY_nil : BY [] := fun x hx => by cases hx
theorem BY_cons {a : Int} {l : List Int} (h0 : 0 ≤ a ∧ a < 256) (h : BY l) : BY (a :: l) := by
  intro x hx
  rcases List.mem_cons.1 hx with rfl | hx
  · exact h0
  · exact h x hx
theorem BY_append {a b : List Int} (h : BY a) (h' : BY b) : BY (a ++ b) := by
  intro x hx
  rcases List.mem_append.1 hx with hx | hx
  · exact h x hx
  · exact h' x hx
theorem BY_take {a : List Int} (h : BY a) (n : Nat) : BY (a.take n) := fun x hx => h x (List.mem_of_mem_take hx)
theorem BY_drop {a : List Int} (h : BY a) (n : Nat) : BY (a.drop n) := fun x hx => h x (List.mem_of_mem_drop hx)
theorem BY_at {l : List Int} (h : BY l) (i : Nat) : 0 ≤ l.getD i 0 ∧ l.getD i 0 < 256 := by
  rw [List.getD_eq_getElem?_getD]
  rcases Nat.lt_or_ge i l.length with hi | hi
  · rw [List.getElem?_eq_getElem hi]
    exact h _ (List.getElem_mem _)
  · rw [List.getElem?_eq_none hi]
    simp
theorem BY_rd {l : List Int} (h : BY l) (i : Int) : 0 ≤ rd l i ∧ rd l i < 256 := BY_at h _
theorem BY_put (k : Nat) (n : Int) : BY (putI k n) := BY_ofB _
theorem ofB_append (a b : Fs.Bytes) : ofB (a ++ b) = ofB a ++ ofB b := by simp [ofB]
theorem toB_append (a b : List Int) : toB (a ++ b) = toB a ++ toB b := by simp [toB]
theorem ofB_inj {a b : Fs.Bytes} (h : ofB a = ofB b) : a = b := by rw [← toB_ofB a, ← toB_ofB b, h]
theorem toB_inj {a b : List Int} (ha : BY a) (hb : BY b) (h : toB a = toB b) : a = b := by rw [← ofB_toB ha, ← ofB_toB hb, h]
theorem pow256 (k : Nat) : ((256 ^ k : Nat) : Int) = 256 ^ k := by simp
theorem leI_nonneg (l : List Int) : 0 ≤ leI l := by unfold leI; omega
theorem leI_lt (l : List Int) : leI l < 256 ^ l.length := by
  have := Fs.le_lt (toB l)
  rw [toB_length] at this
  unfold leI
  rw [← pow256]
  exact Int.ofNat_lt.2 this
theorem leI_put (k : Nat) (n : Int) (h0 : 0 ≤ n) (h : n < 256 ^ k) : leI (putI k n) = n := by
  unfold leI putI
  rw [toB_ofB, Fs.le_put]
  · omega
  · have : ((n.toNat : Nat) : Int) < ((256 ^ k : Nat) : Int) := by rw [pow256]; omega
    exact Int.ofNat_lt.1 this
theorem put_leI {l : List Int} (h : BY l) : putI l.length (leI l) = l := by
  unfold leI putI
  rw [Int.toNat_natCast, ← toB_length l, Fs.put_le, ofB_toB h]
theorem putI_inj (k : Nat) (a b : Int) (ha : 0 ≤ a) (hb : 0 ≤ b) (ha' : a < 256 ^ k) (hb' : b < 256 ^ k) (h : putI k a = putI k b) : a = b := by
  rw [← leI_put k a ha ha', ← leI_put k b hb hb', h]
theorem leI_nil : leI [] = 0 := rfl
theorem leI_snoc (l : List Int) (x : Int) (hx : 0 ≤ x ∧ x < 256) : leI (l ++ [x]) = leI l + x * 256 ^ l.length := by
  unfold leI
  rw [toB_append, Fs.le_append, toB_length]
  have : Fs.le (toB [x]) = x.toNat := by
    simp only [toB, List.map_cons, List.map_nil, Fs.le]
    simp only [UInt8.toNat_ofNat']
    omega
  rw [this, Int.natCast_add, Int.natCast_mul, pow256, Int.mul_comm]
  congr 1
  rw [show ((x.toNat : Nat) : Int) = x from by omega]
theorem putI_snoc (k : Nat) (n : Int) (h0 : 0 ≤ n) : putI (k + 1) n = putI k n ++ [n / 256 ^ k % 256] := by
  unfold putI
  rw [Fs.put_succ, ofB_append]
  congr 1
  simp only [ofB, List.map_cons, List.map_nil]
  congr 1
  obtain ⟨m, rfl⟩ := Int.eq_ofNat_of_zero_le h0
  simp only [Int.toNat_natCast, UInt8.toNat_ofNat']
  rw [← pow256]
  omega
theorem two_256 (k : Nat) : (2 : Int) ^ (8 * k) = 256 ^ k := by rw [Int.pow_mul]; rfl

/-! ### shifts and bits -/
theorem shr_u64 (n i : Int) (k : Nat) (hi : i = 8 * (k : Int)) (hk : k ≤ 8) : shr .u64 n i = n / 256 ^ k := by
  unfold shr
  have : min i.toNat IntKind.u64.bits = 8 * k := by
    rw [Nat.min_eq_left (by simp [IntKind.bits]; omega)]; omega
  rw [this, two_256]
theorem shl_u64 (x i : Int) (k : Nat) (hi : i = 8 * (k : Int)) (hk : k ≤ 7) (hx : 0 ≤ x ∧ x < 256) : shl .u64 x i = x * 256 ^ k := by
  unfold shl
  have : min i.toNat IntKind.u64.bits = 8 * k := by
    rw [Nat.min_eq_left (by simp [IntKind.bits]; omega)]; omega
  rw [this, two_256]
  have h1 : (256 : Int) ^ k ≤ 256 ^ 7 := by
    have : (256 : Nat) ^ k ≤ 256 ^ 7 := Nat.pow_le_pow_right (by omega) hk
    have h2 := Int.ofNat_le.2 this
    rwa [pow256, pow256] at h2
  have h0 : (0 : Int) ≤ 256 ^ k := Int.pow_nonneg (by omega)
  apply u64w
  · exact Int.mul_nonneg hx.1 h0
  · calc x * 256 ^ k ≤ 255 * 256 ^ k := Int.mul_le_mul_of_nonneg_right (by omega) h0
      _ ≤ 255 * 256 ^ 7 := Int.mul_le_mul_of_nonneg_left h1 (by omega)
      _ < 18446744073709551616 := by decide
theorem wrap_shl (x : Int) (k : Nat) (hk : k ≤ 7) (hx : 0 ≤ x ∧ x < 256) : IntKind.u64.wrap (x * 2 ^ (8 * k)) = x * 256 ^ k := by
  have h := shl_u64 x (8 * (k : Int)) k rfl hk hx
  unfold shl at h
  have : min (8 * (k : Int)).toNat IntKind.u64.bits = 8 * k := by
    rw [Nat.min_eq_left (by simp [IntKind.bits]; omega)]; omega
  rwa [this] at h
theorem or_shl (a x : Int) (k : Nat) (hk : k ≤ 7) (ha : 0 ≤ a) (ha' : a < 256 ^ k) (hx : 0 ≤ x ∧ x < 256) : Go.bits .or .u64 a (x * 256 ^ k) = a + x * 256 ^ k := by
  obtain ⟨m, rfl⟩ := Int.eq_ofNat_of_zero_le ha
  obtain ⟨y, rfl⟩ := Int.eq_ofNat_of_zero_le hx.1
  have hy : y < 256 := by omega
  have hm : m < 256 ^ k := by rw [← pow256] at ha'; exact Int.ofNat_lt.1 ha'
  have e : ((y : Int) * 256 ^ k) = ((y * 256 ^ k : Nat) : Int) := by simp
  have h7 : (256 : Nat) ^ k ≤ 256 ^ 7 := Nat.pow_le_pow_right (by omega) hk
  have hb : y * 256 ^ k < 2 ^ 64 := by
    calc y * 256 ^ k ≤ 255 * 256 ^ 7 := Nat.mul_le_mul (by omega) h7
      _ < 2 ^ 64 := by decide
  have hm64 : m < 2 ^ 64 := by
    calc m < 256 ^ k := hm
      _ ≤ 256 ^ 7 := h7
      _ < 2 ^ 64 := by decide
  rw [e, (bits_nat .u64 64 (by decide) (fun n h0 h1 => u64w h0 (by simpa using h1)) m (y * 256 ^ k) hm64 hb).2]
  rw [← Int.natCast_add]
  congr 1
  have h2 : (256 : Nat) ^ k = 2 ^ (8 * k) := by rw [Nat.pow_mul]
  rw [h2] at hm ⊢
  rw [Nat.or_comm, Nat.mul_comm, ← Nat.two_pow_add_eq_or_of_lt hm]
  omega

/-! ### texts -/
theorem strOf_list (l : List Int) : (strOfNums l).toList = toB l := by
  rw [ByteArray.toList_eq]
  rfl
theorem str_eq (a b : ByteArray) : a.toList = b.toList ↔ a = b := by
  constructor
  · intro h
    rw [ByteArray.toList_eq, ByteArray.toList_eq] at h
    cases a
    cases b
    congr 1
    exact Array.toList_inj.1 h
  · intro h
    rw [h]
theorem bytesOf_ofB (s : ByteArray) : bytesOf s = ofB s.data.toList := rfl
theorem BY_bytesOf (s : ByteArray) : BY (bytesOf s) := BY_ofB _
theorem bytesOf_length (s : ByteArray) : (bytesOf s).length = s.size := by simp [bytesOf]
theorem strOf_bytesOf (s : ByteArray) : strOfNums (bytesOf s) = s := by
  rw [← str_eq, strOf_list, bytesOf_ofB, toB_ofB, ByteArray.toList_eq]
theorem strOf_eq {a b : List Int} (ha : BY a) (hb : BY b) : ((strOfNums a).toList == (strOfNums b).toList) = (a == b) := by
  rw [strOf_list, strOf_list, Bool.eq_iff_iff, beq_iff_eq, beq_iff_eq]
  exact ⟨fun h => toB_inj ha hb h, fun h => by rw [h]⟩

/-! ### what layer 1 says -/
def putS (n size : Int) : List Int × Int := if size < 1 ∨ size > 8 then ([], 1) else if 256 ^ size.toNat ≤ n then ([], 4) else (putI size.toNat n, 0)
def getS (l : List Int) (at_ size : Int) : Int × Int :=
  if size < 1 ∨ size > 8 then (0, 1) else if at_ < 0 then (0, 4) else if at_ > l.length ∨ size > l.length - at_ then (0, 8) else (leI ((l.drop at_.toNat).take size.toNat), 0)
def readS (l : List Int) (at_ : Int) : ByteArray × Int × Int :=
  if at_ < 0 then (⟨#[]⟩, 0, 4) else if at_ ≥ l.length then (⟨#[]⟩, 0, 8) else if (l.length : Int) - at_ - 1 < rd l at_ then (⟨#[]⟩, 0, 8)
  else (strOfNums ((l.drop (at_ + 1).toNat).take (rd l at_).toNat), at_ + 1 + rd l at_, 0)
def textS (s : ByteArray) : List Int × Int := if s.size > 255 then ([], 5) else ((s.size : Int) :: bytesOf s, 0)
def packGo : List Int → List Int → List Int → List Int × Int
  | w :: ws, v :: vs, acc => if (putS v w).2 = 0 then packGo ws vs (acc ++ (putS v w).1) else ([], (putS v w).2)
  | _, _, acc => (acc, 0)
def packS (ws vs : List Int) : List Int × Int := if ws.length ≠ vs.length ∨ ws.length > 64 then ([], 3) else packGo ws vs []
def sumI : List Int → Int
  | [] => 0
  | w :: ws => w + sumI ws
def unpackGo : List Int → List Int → List Int
  | [], _ => []
  | w :: ws, b => leI (b.take w.toNat) :: unpackGo ws (b.drop w.toNat)
def okW (ws : List Int) : Bool := ws.all fun w => decide (1 ≤ w ∧ w ≤ 8)
def unpackS (ws b : List Int) : List Int × Int :=
  if ws.length > 64 then ([], 3) else if okW ws = false then ([], 1) else if (b.length : Int) < sumI ws then ([], 8) else if (b.length : Int) > sumI ws then ([], 23) else (unpackGo ws b, 0)

theorem pow8 {k : Nat} (h : k ≤ 8) : (256 : Int) ^ k ≤ 18446744073709551616 := by
  have : (256 : Nat) ^ k ≤ 256 ^ 8 := Nat.pow_le_pow_right (by omega) h
  have h2 := Int.ofNat_le.2 this
  rw [pow256, pow256] at h2
  exact h2
theorem rd_nat (l : List Int) (i : Nat) : rd l (i : Int) = l.getD i 0 := by simp [rd]
theorem take_snoc (l : List Int) (i : Nat) (h : i < l.length) : l.take (i + 1) = l.take i ++ [l.getD i 0] := by
  rw [List.take_add_one, List.getElem?_eq_getElem h, List.getD_eq_getElem?_getD, List.getElem?_eq_getElem h]
  rfl
theorem drop_cons (l : List Int) (i : Nat) (h : i < l.length) : l.drop i = l.getD i 0 :: l.drop (i + 1) := by
  rw [List.drop_eq_getElem_cons h, List.getD_eq_getElem?_getD, List.getElem?_eq_getElem h]
  rfl
theorem nat_of {x : Int} (h : 0 ≤ x) : ∃ n : Nat, x = (n : Int) := ⟨x.toNat, by omega⟩
/-! #### lists of widths -/
def sumN (ws : List Int) : Nat := (ws.map Int.toNat).sum
theorem sumN_snoc (ws : List Int) (w : Int) : sumN (ws ++ [w]) = sumN ws + w.toNat := by simp [sumN]
theorem sumI_snoc (ws : List Int) (w : Int) : sumI (ws ++ [w]) = sumI ws + w := by
  induction ws with
  | nil => simp [sumI]
  | cons a ws ih => simp only [List.cons_append, sumI, ih]; omega
theorem okW_take {ws : List Int} (h : okW ws = true) (i : Nat) : okW (ws.take i) = true := by
  unfold okW at h ⊢
  rw [List.all_eq_true] at h ⊢
  exact fun x hx => h x (List.mem_of_mem_take hx)
theorem okW_at {ws : List Int} (h : okW ws = true) (i : Nat) (hi : i < ws.length) : 1 ≤ ws.getD i 0 ∧ ws.getD i 0 ≤ 8 := by
  unfold okW at h
  rw [List.all_eq_true] at h
  have := h ws[i] (List.getElem_mem _)
  rw [List.getD_eq_getElem?_getD, List.getElem?_eq_getElem hi]
  simpa using this
theorem sum_ok {ws : List Int} (h : okW ws = true) : sumI ws = (sumN ws : Int) ∧ sumN ws ≤ 8 * ws.length := by
  induction ws with
  | nil => simp [sumI, sumN]
  | cons w ws ih =>
    have h0 : (1 ≤ w ∧ w ≤ 8) ∧ okW ws = true := by simpa [okW] using h
    obtain ⟨h1, h2⟩ := ih h0.2
    have e : sumN (w :: ws) = w.toNat + sumN ws := by simp [sumN]
    simp only [sumI, e, List.length_cons]
    omega
theorem sumN_take_le {ws : List Int} (i : Nat) : sumN (ws.take i) ≤ sumN ws := by
  induction ws generalizing i with
  | nil => simp [sumN]
  | cons w ws ih =>
    cases i with
    | zero => simp [sumN]
    | succ i =>
      have := ih i
      simp only [List.take_succ_cons, sumN, List.map_cons, List.sum_cons] at this ⊢
      omega
theorem unpackGo_snoc (ws : List Int) (w : Int) (b : List Int) : unpackGo (ws ++ [w]) b = unpackGo ws b ++ [leI ((b.drop (sumN ws)).take w.toNat)] := by
  induction ws generalizing b with
  | nil => simp [unpackGo, sumN]
  | cons a ws ih =>
    have e : sumN (a :: ws) = a.toNat + sumN ws := by simp [sumN]
    simp only [List.cons_append, unpackGo, ih, e, List.drop_drop]
theorem unpackGo_length (ws b : List Int) : (unpackGo ws b).length = ws.length := by
  induction ws generalizing b with
  | nil => rfl
  | cons w ws ih => simp [unpackGo, ih]
theorem okW_bad {ws : List Int} (h : okW ws = false) : ∃ p, p < ws.length ∧ ¬ (1 ≤ ws.getD p 0 ∧ ws.getD p 0 ≤ 8) ∧ okW (ws.take p) = true := by
  induction ws with
  | nil => simp [okW] at h
  | cons w ws ih =>
    by_cases hw : 1 ≤ w ∧ w ≤ 8
    · have h' : okW ws = false := by
        have := h
        simp only [okW, List.all_cons, decide_eq_true hw, Bool.true_and] at this
        exact this
      obtain ⟨p, hp, hb, ho⟩ := ih h'
      refine ⟨p + 1, by simp; omega, by simpa using hb, ?_⟩
      simp only [List.take_succ_cons, okW, List.all_cons, decide_eq_true hw, Bool.true_and]
      exact ho
    · exact ⟨0, by simp, by simpa using hw, by simp [okW]⟩
theorem leI_one (l : List Int) (i : Nat) (h : i < l.length) (hb : BY l) : leI ((l.drop i).take 1) = l.getD i 0 := by
  rw [drop_cons l i h]
  have := BY_at hb i
  simp only [List.take_succ_cons, List.take_zero]
  have e := leI_snoc [] (l.getD i 0) this
  simpa [leI_nil] using e
end Go.Proofs.Ythkjahoebkicbaa.Pl
