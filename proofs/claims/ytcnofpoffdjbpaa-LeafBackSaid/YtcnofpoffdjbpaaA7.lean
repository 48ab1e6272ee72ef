/- Numbers, places, cuts, conversions, on abstract values; and that the model's do the like. No program in sight. -/
import Derived.Test.YtcnofpoffdjbpaaA6
import Derived.Laws.StructEq
import Derived.Laws.BytesString
import Derived.Laws.Small
namespace Go.Proofs.Ytcnofpoffdjbpaa.AE
open Go Go.RowKit
set_option linter.unusedVariables false
set_option linter.unusedSimpArgs false
variable {P : Program}

/-! ### numbers stay in their range -/
theorem InR_wrap (k : IntKind) (n : Int) : InR k (k.wrap n) := by
  cases k <;> simp [InR, IntKind.wrap, IntKind.min, IntKind.max, IntKind.signed, IntKind.bits] <;> (try split) <;> omega
theorem tmod_le (a b : Int) (h : 0 ≤ a) : a.tmod b ≤ a := by
  obtain ⟨m, rfl⟩ := Int.eq_ofNat_of_zero_le h
  cases b with
  | ofNat n => exact Int.ofNat_le.2 (Nat.mod_le _ _)
  | negSucc n => exact Int.ofNat_le.2 (Nat.mod_le _ _)
theorem InR_tmod (k : IntKind) (a b : Int) (h : InR k a) : InR k (a.tmod b) := by
  have h0 : k.min ≤ 0 ∧ 0 ≤ k.max := by cases k <;> decide
  obtain ⟨h1, h2⟩ := h
  rcases Int.le_total 0 a with ha | ha
  · have q1 := Int.tmod_nonneg b ha
    have q2 := tmod_le a b ha
    exact ⟨by omega, by omega⟩
  · have q1 : 0 ≤ (-a).tmod b := Int.tmod_nonneg b (by omega)
    have q2 : (-a).tmod b ≤ -a := tmod_le (-a) b (by omega)
    rw [Int.neg_tmod] at q1 q2
    exact ⟨by omega, by omega⟩
theorem InR_fdiv (k : IntKind) (a : Int) (n : Nat) (h : InR k a) : InR k (a.fdiv (2 ^ n)) := by
  have h0 : k.min ≤ 0 ∧ 0 ≤ k.max := by cases k <;> decide
  obtain ⟨h1, h2⟩ := h
  have hp : (0 : Int) < 2 ^ n := Int.pow_pos (by decide)
  rw [Int.fdiv_eq_ediv_of_nonneg _ (by omega)]
  rcases Int.le_total 0 a with ha | ha
  · have q1 := Int.ediv_nonneg ha (Int.le_of_lt hp)
    have q2 := Int.ediv_le_self (2 ^ n) ha
    exact ⟨by omega, by omega⟩
  · have q1 : a / 2 ^ n < 1 := (Int.ediv_lt_iff_lt_mul hp).2 (by omega)
    have q2 : a ≤ a / 2 ^ n := (Int.le_ediv_iff_mul_le hp).2 (by
      have h3 : (-a) * 1 ≤ (-a) * 2 ^ n := Int.mul_le_mul_of_nonneg_left (by omega) (by omega)
      rw [Int.neg_mul, Int.neg_mul] at h3
      omega)
    exact ⟨by omega, by omega⟩

/-! ### two operands -/
/-- 0: a number, 1: a bool, 2: a text. -/
def tagT (P : Program) (t : TypeId) : Option Nat :=
  match P.underlying t with
  | some (.int _) => some 0
  | some .bool => some 1
  | some .string => some 2
  | _ => none
def tagsOf (P : Program) : List Field → Option (List (Nat × Nat))
  | [] => some []
  | f :: fs => if f.name = "_" then none else (tagT P f.type).bind fun g => (tagsOf P fs).map fun l => (f.offset, g) :: l
/-- Where the fields of a struct lie whose values are numbers, bools and texts alone, and which they are. -/
def eqT (P : Program) (t : TypeId) : Option (List (Nat × Nat)) :=
  match P.underlying t with
  | some (.struct fs) => if P.stoodInHeld t = false ∧ P.eqGuardType P.depth t = false then tagsOf P fs.toList else none
  | _ => none
def eqOne : Nat → AV → AV → Option Bool
  | 0, .int k a, .int j b => if k = j then some (decide (a = b)) else none
  | 1, .bool a, .bool b => some (decide (a = b))
  | 2, .str a, .str b => some (decide (a = b))
  | _, _, _ => none
def eqCells (cs ds : List AV) : List (Nat × Nat) → Option Bool
  | [] => some true
  | (o, g) :: os => (cs[o]?).bind fun c => (ds[o]?).bind fun d => (eqOne g c d).bind fun r => (eqCells cs ds os).map fun s => r && s
def boolT (P : Program) (t : TypeId) : Bool := match P.underlying t with | some .bool => true | _ => false
theorem boolT_iff {t : TypeId} (h : boolT P t = true) : P.underlying t = some .bool := by
  unfold boolT at h
  split at h
  · assumption
  · cases h
def aArith (op : BinOp) (k : IntKind) (a b : Int) : Option AV :=
  match op with
  | .add => some (.int k (k.wrap (a + b)))
  | .sub => some (.int k (k.wrap (a - b)))
  | .mul => some (.int k (k.wrap (a * b)))
  | .quo => if b = 0 then none else some (.int k (k.wrap (a.tdiv b)))
  | .rem => if b = 0 then none else some (.int k (a.tmod b))
  | .and => some (.int k (bits .and k a b))
  | .or => some (.int k (bits .or k a b))
  | .xor => some (.int k (bits .xor k a b))
  | .andNot => some (.int k (bits .andNot k a b))
  | .eql => some (.bool (decide (a = b)))
  | .neq => some (.bool (!decide (a = b)))
  | .lss => some (.bool (decide (a < b)))
  | .leq => some (.bool (decide (a ≤ b)))
  | .gtr => some (.bool (decide (b < a)))
  | .geq => some (.bool (decide (b ≤ a)))
  | _ => none
def aBin (P : Program) (op : BinOp) (t : TypeId) (x y : AV) : Option AV :=
  match x, y with
  | .int k a, .int j b =>
    match op with
    | .shl => if 0 ≤ b then some (.int k (k.wrap (a * 2 ^ (min b.toNat k.bits)))) else none
    | .shr => if 0 ≤ b then some (.int k (a.fdiv (2 ^ (min b.toNat k.bits)))) else none
    | op => if k = j then aArith op k a b else none
  | .bool a, .bool b => match op with
    | .eql => if boolT P t = true then some (.bool (decide (a = b))) else none
    | .neq => if boolT P t = true then some (.bool (!decide (a = b))) else none
    | _ => none
  | .str a, .str b => match op with
    | .eql => some (.bool (decide (a = b)))
    | .neq => some (.bool (!decide (a = b)))
    | _ => none
  | .agg cs, .agg ds => match op with
    | .eql => (eqT P t).bind fun os => (eqCells cs ds os).map .bool
    | .neq => (eqT P t).bind fun os => (eqCells cs ds os).map fun b => .bool (!b)
    | _ => none
  | _, _ => none
theorem octs_inj {s u : ByteArray} (h : octs s = octs u) : s = u := by
  apply ByteArray.ext
  apply Array.ext'
  unfold octs at h
  have hinj : ∀ l m : List UInt8, l.map (fun b => (b.toNat : Int)) = m.map (fun b => (b.toNat : Int)) → l = m := by
    intro l
    induction l with
    | nil =>
      intro m hm
      cases m with
      | nil => rfl
      | cons => simp at hm
    | cons a l ih =>
      intro m hm
      cases m with
      | nil => simp at hm
      | cons b m =>
        simp only [List.map_cons, List.cons.injEq] at hm
        have hab : a = b := UInt8.toNat_inj.1 (by omega)
        rw [hab, ih m hm.2]
  exact hinj _ _ h
theorem str_beq (s u : ByteArray) : (s.toList == u.toList) = decide (octs s = octs u) := by
  rw [Bool.eq_iff_iff, beq_iff_eq, decide_eq_true_iff]
  constructor
  · intro h
    rw [ByteArray.toList_eq, ByteArray.toList_eq] at h
    unfold octs
    rw [h]
  · intro h
    rw [octs_inj h]
section
variable {σ : Sig} {w : World} {X : Nat → Nat → Prop} {B : Nat}
theorem eqOne_ok {d g : Nat} {t : TypeId} {x y : AV} {cx cy : Value} {r : Bool} (hg : tagT P t = some g) (h : eqOne g x y = some r) (hx : VR σ w X B x cx) (hy : VR σ w X B y cy) :
    (Op.equalIn (d + 1) t cx cy).run P w = .ok r w := by
  unfold eqOne at h
  split at h
  · split at h <;> cases h
    subst_vars
    cases hx; cases hy
    unfold tagT at hg
    split at hg <;> cases hg
    rename_i hu
    rw [run_equalIn_int w d t _ _ _ _ hu]
    simp [BEq.beq]
  · cases h
    cases hx; cases hy
    unfold tagT at hg
    split at hg <;> cases hg
    rename_i hu
    rw [run_equalIn_bool w d t _ _ hu]
    simp [BEq.beq]
  · cases h
    cases hx; cases hy
    unfold tagT at hg
    split at hg <;> cases hg
    rename_i hu
    rw [run_equalIn_string w d t _ _ hu, str_beq]
  · cases h
end
end Go.Proofs.Ytcnofpoffdjbpaa.AE
