/- Rows of numbers; loops by the slots that stay. No program in sight. -/
import Derived.Test.YtcnofpoffdjbpaaC0
namespace Go.Proofs.Ytcnofpoffdjbpaa.AE
open Go Go.RowKit
set_option linter.unusedVariables false
set_option linter.unusedSimpArgs false
/-- Numbers as a row's elements. -/
def numB (k : IntKind) (l : List Int) : List (List AV) := l.map fun c => [.int k c]
/-- A row, written over from a place on. -/
def rowI (l : List Int) (o : Nat) (m : List Int) : List Int := l.take o ++ m ++ l.drop (o + m.length)
theorem octsOf_num : ∀ l : List Int, octsOf (numB .u8 l) = some l
  | [] => rfl
  | a :: l => by
    have := octsOf_num l
    unfold numB at this ⊢
    simp only [List.map_cons, octsOf, this, Option.map_some]
def u8K : Option TK → Option Unit
  | some (.int .u8) => some ()
  | _ => none
theorem aConv_b (P : Program) (h : AHeap) (t u : TypeId) (x : AV) (hx : x = .zs ∨ (∃ es, x = .sl es) ∨ ∃ a b c, x = .hs a b c) : aConv P h t u x = (elemK (kT P t)).bind fun e => (strK (kT P u)).bind fun _ => (u8K (kT P e)).bind fun _ => (aRow h 1 x).bind fun r => (octsOf r).map .str := by
  have key : ∀ e, (match P.underlying e with
    | some (.int .u8) => (aRow h 1 x).bind fun es => (octsOf es).map AV.str
    | _ => none) = (u8K (kT P e)).bind fun _ => (aRow h 1 x).bind fun r => (octsOf r).map AV.str := fun e => by
    unfold kT
    cases P.underlying e with
    | none => rfl
    | some d =>
      cases d <;> try rfl
      rename_i k
      cases k <;> rfl
  rcases hx with rfl | ⟨es, rfl⟩ | ⟨a, b, c, rfl⟩ <;> unfold aConv kT <;> cases ht : P.underlying t with
  | none => cases hu : P.underlying u <;> rfl
  | some d =>
    cases hu : P.underlying u with
    | none => cases d <;> rfl
    | some d' => cases d <;> cases d' <;> first | rfl | exact key _
theorem NB : (∀ (k : IntKind) (l : List Int), (numB k l).length = l.length) ∧
    (∀ (k : IntKind) (l : List Int) (n : Nat), (numB k l).drop n = numB k (l.drop n)) ∧
    (∀ (k : IntKind) (l : List Int) (n : Nat), (numB k l).take n = numB k (l.take n)) ∧
    (∀ (k : IntKind) (l : List Int) (m : List Int), numB k l ++ numB k m = numB k (l ++ m)) ∧
    (∀ (k : IntKind) (c : Int), [[AV.int k c]] = numB k [c]) ∧
    (∀ (k : IntKind) (l : List Int) (c : Int), [AV.int k c] :: numB k l = numB k (c :: l)) ∧
    (∀ (k : IntKind) (l : List Int) (i : Nat), (numB k l)[i]? = (l[i]?).map fun c => [.int k c]) ∧
    (∀ (k : IntKind) (l : List Int), (numB k l).all (fun e => e.length == 1) = true) ∧
    (∀ (k : IntKind) (c : Int) (n : Nat), List.replicate n [AV.int k c] = numB k (List.replicate n c)) ∧
    (∀ (k : IntKind) (l : List Int) (i : Nat) (c : Int), (numB k l).set i [AV.int k c] = numB k (l.set i c)) ∧
    (∀ (k : IntKind) (l : List Int) (o : Nat) (m : List Int), rowPut (numB k l) o (numB k m) = numB k (rowI l o m)) ∧
    (∀ (l : List Int), octsOf (numB .u8 l) = some l) ∧
    (∀ (l : List Int), (l.map fun c => [AV.int .u8 c]) = numB .u8 l) ∧
    (∀ (k : IntKind), numB k [] = []) ∧
    (octsOf [] = some []) ∧
    (∀ (α : Type) (l : List α), l.take l.length = l) ∧
    (∀ (α : Type) (l m : List α), (l ++ m).take (l.length + m.length) = l ++ m) ∧
    (∀ (α : Type) (l m : List α), (l ++ m).length = l.length + m.length) ∧
    (∀ (α : Type) (n : Nat) (a : α), (List.replicate n a).length = n) ∧
    (∀ (α : Type) (l : List α) (i : Nat) (a : α), (l.set i a).length = l.length) ∧
    (∀ (l : List Int) (m : List Int), rowI l 0 m = m ++ l.drop m.length) ∧
    (u8K (some (.int .u8)) = some ()) ∧
    (∀ (P : Program) (h : AHeap) (t u : TypeId) (es : List (List AV)), aConv P h t u (.sl es) = (elemK (kT P t)).bind fun e => (strK (kT P u)).bind fun _ => (u8K (kT P e)).bind fun _ => (aRow h 1 (.sl es)).bind fun r => (octsOf r).map .str) ∧
    (∀ (P : Program) (h : AHeap) (t u : TypeId) (a b c : Nat), aConv P h t u (.hs a b c) = (elemK (kT P t)).bind fun e => (strK (kT P u)).bind fun _ => (u8K (kT P e)).bind fun _ => (aRow h 1 (.hs a b c)).bind fun r => (octsOf r).map .str) ∧
    (∀ (P : Program) (h : AHeap) (t u : TypeId), aConv P h t u .zs = (elemK (kT P t)).bind fun e => (strK (kT P u)).bind fun _ => (u8K (kT P e)).bind fun _ => (aRow h 1 .zs).bind fun r => (octsOf r).map .str) ∧
    (∀ (a : Nat), a * 1 = a) ∧
    (∀ (a : Nat), a * 0 = 0) ∧
    (∀ (α : Type) (c : Prop) (_i : Decidable c) (a b : α), c → @ite α c _i a b = a) ∧
    (∀ (α : Type) (c : Prop) (_i : Decidable c) (a b : α), ¬ c → @ite α c _i a b = b) ∧
    (Int.toNat 0 = 0) ∧
    (Int.toNat 1 = 1) ∧
    (Int.toNat 2 = 2) ∧
    (Int.toNat 3 = 3) ∧
    (Int.toNat 4 = 4) ∧
    (Int.toNat 5 = 5) ∧
    (Int.toNat 6 = 6) ∧
    (Int.toNat 7 = 7) ∧
    (Int.toNat 8 = 8) ∧
    (Int.toNat 9 = 9) ∧
    (Int.toNat 10 = 10) ∧
    (Int.toNat 11 = 11) ∧
    (Int.toNat 12 = 12) ∧
    (Int.toNat 13 = 13) ∧
    (Int.toNat 14 = 14) ∧
    (Int.toNat 15 = 15) ∧
    (Int.toNat 16 = 16) ∧
    (Int.toNat 24 = 24) ∧
    (Int.toNat 32 = 32) ∧
    (Int.toNat 60 = 60) ∧
    (Int.toNat 64 = 64) ∧
    (∀ (a : Nat), a - 0 = a) ∧
    ((!true) = false) ∧
    ((!false) = true) ∧
    (∀ (b : Bool), (false && b) = false) ∧
    (∀ (b : Bool), (b && false) = false) ∧
    (∀ (α : Type) (l : List α) (n : Nat), (l.take n).take n = l.take n) :=
  ⟨(fun k l => by simp [numB]),
   (fun k l n => by simp [numB]),
   (fun k l n => by simp [numB]),
   (fun k l m => by simp [numB]),
   (fun k c => rfl),
   (fun k l c => rfl),
   (fun k l i => by simp [numB]),
   (fun k l => by simp [numB]),
   (fun k c n => by simp [numB]),
   (fun k l i c => by simp [numB, List.map_set]),
   (fun k l o m => by simp [numB, rowPut, rowI]),
   (fun l => octsOf_num l),
   (fun l => rfl),
   (fun k => rfl),
   (rfl),
   (fun α l => by simp),
   (fun α l m => by rw [← List.length_append, List.take_length]),
   (fun α l m => by simp),
   (fun α n a => by simp),
   (fun α l i a => by simp),
   (fun l m => by simp [rowI]),
   (rfl),
   (fun P h t u es => aConv_b P h t u _ (.inr (.inl ⟨_, rfl⟩))),
   (fun P h t u a b c => aConv_b P h t u _ (.inr (.inr ⟨_, _, _, rfl⟩))),
   (fun P h t u => aConv_b P h t u _ (.inl rfl)),
   (fun a => by simp),
   (fun a => rfl),
   (fun α c _i a b => fun h => if_pos h),
   (fun α c _i a b => fun h => if_neg h),
   (rfl),
   (rfl),
   (rfl),
   (rfl),
   (rfl),
   (rfl),
   (rfl),
   (rfl),
   (rfl),
   (rfl),
   (rfl),
   (rfl),
   (rfl),
   (rfl),
   (rfl),
   (rfl),
   (rfl),
   (rfl),
   (rfl),
   (rfl),
   (rfl),
   (fun a => rfl),
   (rfl),
   (rfl),
   (fun b => rfl),
   (fun b => by simp),
   (fun α l n => by rw [List.take_take, Nat.min_self])⟩
theorem LL : (∀ (α : Type) (l m : List α), (l ++ m).length = l.length + m.length) ∧ (∀ (α : Type) (a : α) (l : List α), (a :: l).length = l.length + 1) ∧ (∀ α : Type, ([] : List α).length = 0) ∧ (∀ (α : Type) (n : Nat) (a : α), (List.replicate n a).length = n) :=
  ⟨fun _ _ _ => by simp, fun _ _ _ => rfl, fun _ => rfl, fun _ _ _ => by simp⟩
theorem WY : (∀ (tm : Nat → AV) (k : IntKind) (n : Int), InR k n → evA tm (.const (.int k n)) = .int k n) ∧ (∀ (α : Type) (f : Nat → α) (n : Nat) (v : α), upd f n v n = v) ∧ (∀ (α : Type) (f : Nat → α) (n : Nat) (v : α) (m : Nat), m ≠ n → upd f n v m = f m) :=
  ⟨evA_int, fun _ => upd_same, fun _ f n v m h => upd_ne f n v h⟩
theorem FY : type_of% (And.intro FZ <| And.intro frz_tup <| And.intro frz_nil <| And.intro frz_cons <| And.intro frz2_agg <| And.intro frzV_agg <| And.intro frzL_nil <| And.intro frzL_cons <| And.intro frz1_hs <| And.intro frz2_hs frzV_hs) :=
  And.intro FZ <| And.intro frz_tup <| And.intro frz_nil <| And.intro frz_cons <| And.intro frz2_agg <| And.intro frzV_agg <| And.intro frzL_nil <| And.intro frzL_cons <| And.intro frz1_hs <| And.intro frz2_hs frzV_hs
/-- Temporaries of S hold what they held. -/
def KAgree (S : List Nat) (base tm : Nat → AV) : Prop := ∀ t, S.contains t = true → tm t = base t
theorem KAgree.refl (S : List Nat) (base : Nat → AV) : KAgree S base base := fun _ _ => rfl
theorem KAgree.upd {S : List Nat} {base tm : Nat → AV} {d : Nat} {v : AV} (hd : S.contains d = false) (h : KAgree S base tm) : KAgree S base (AE.upd tm d v) := fun t ht => by
  rw [upd_ne]
  · exact h t ht
  · rintro rfl
    rw [hd] at ht
    cases ht
def KAll (base tm : Nat → AV) : List Nat → Prop
  | [] => True
  | t :: S => tm t = base t ∧ KAll base tm S
theorem KAgree.of {base tm : Nat → AV} : ∀ {S : List Nat}, KAll base tm S → KAgree S base tm
  | [], _, t, ht => by simp at ht
  | s :: S, h, t, ht => by
    simp only [List.contains_cons, Bool.or_eq_true, beq_iff_eq] at ht
    rcases ht with rfl | ht
    · exact h.1
    · exact KAgree.of h.2 t ht
section
variable {P : Program} {nt : Nat} {Q : AX → St → Prop} {c : Code}
theorem W_loopK {tm : Nat → AV} {h : AHeap} {k : Nat} {df : List ADef} (S : List Nat) (n0 : Nat) (I : Nat → (Nat → AV) → AHeap → Nat → Prop) (n : Nat) (hn0 : n0 ≤ k) (h0 : I n tm h k)
    (round : ∀ n tm' h' k', I n tm' h' k' → (∀ t, S.contains t = true → tm' t = tm t) → (∀ m, m < n0 → h' m = h m) → n0 ≤ k' →
      aWp P nt c (AX.andThen (fun s => ∃ m, m < n ∧ I m s.tm s.h s.nx ∧ KAgree S tm s.tm ∧ HAgree n0 h s.h ∧ n0 ≤ s.nx ∧ s.df = df) Q) ⟨tm', h', k', df⟩) : aWp P nt (.loop c) Q ⟨tm, h, k, df⟩ := by
  refine aWp_loop (fun n s => I n s.tm s.h s.nx ∧ KAgree S tm s.tm ∧ HAgree n0 h s.h ∧ n0 ≤ s.nx ∧ s.df = df) n ⟨h0, .refl _ _, .refl _ _, hn0, rfl⟩ ?_
  rintro n ⟨tm', h', k', df'⟩ ⟨h1, h2, h3, h4, h5⟩
  simp only at h5
  subst h5
  exact round n tm' h' k' h1 h2 h3 h4
end
end Go.Proofs.Ytcnofpoffdjbpaa.AE
