/- Abstract values and memory, and what they stand for. No program in sight. -/
import Derived.Below
import Derived.Tactics
import Derived.WalkKit
import Derived.Deep.AppendSrc
import Derived.Lib.AppendZerosOnto
import Derived.Laws.IdiomCopy
import Derived.Laws.Cells
import Derived.KernelRfl
namespace Go.Proofs.Ytcnofpoffdjbpaa.AE
open Go Go.RowKit
set_option linter.unusedVariables false
set_option linter.unusedSimpArgs false

/-- A value as the walk sees it: 'sl' is a row that nobody writes any more, told by its elements' cells; 'hs' a row that is owned, a block's name, where it begins, how many; 'zs' an empty row without room; 'ip' the place of an element that nobody writes; 'ptr' a place in an owned block: its name, the element, the cell. -/
inductive AV where
  | undef
  | bool (b : Bool)
  | int (k : IntKind) (n : Int)
  | str (l : List Int)
  | zs
  | sl (es : List (List AV))
  | hs (n off len : Nat)
  | nilp
  | ptr (n e j : Nat)
  | ip (cs : List AV)
  | agg (cs : List AV)
  | tup (vs : List AV)
  | fn (f : Fn) (first cap : List AV)
  | nilf
  | iface (t : TypeId) (v : AV)
  | niliface
  deriving Inhabited

/-- May it lie in one cell? -/
def AV.one : AV → Bool
  | .undef | .agg _ | .tup _ => false
  | _ => true
/-- Its cells. -/
def AV.cells : AV → List AV
  | .agg cs => cs
  | v => [v]
def InR (k : IntKind) (n : Int) : Prop := k.min ≤ n ∧ n ≤ k.max
instance (k : IntKind) (n : Int) : Decidable (InR k n) := inferInstanceAs (Decidable (_ ∧ _))
structure Blk where
  sz : Nat
  es : List (List AV)
abbrev AHeap := Nat → Option Blk
structure Rng where
  b : Nat
  o : Nat
  c : Nat
  sz : Nat
abbrev Sig := Nat → Option Rng
/-- The cells that an owned block has to itself. -/
def Held (σ : Sig) (h : AHeap) (b i : Nat) : Prop := ∃ n r, (h n).isSome ∧ σ n = some r ∧ r.b = b ∧ r.o ≤ i ∧ i < r.o + r.c
def octs (s : ByteArray) : List Int := s.data.toList.map fun b => (b.toNat : Int)
def big : Nat := 4611686018427387904
/-- What an abstract value stands for. X: cells that are somebody's own; B: blocks from here on were made since the call began. -/
inductive VR (σ : Sig) (w : World) (X : Nat → Nat → Prop) (B : Nat) : AV → Value → Prop
  | undef (v : Value) : VR σ w X B .undef v
  | bool (b : Bool) : VR σ w X B (.bool b) (.bool b)
  | int (k : IntKind) (n : Int) (h : InR k n) : VR σ w X B (.int k n) (.int k n)
  | str (s : ByteArray) (h : s.size < big) : VR σ w X B (.str (octs s)) (.string s)
  | zs (a : Option Addr) : VR σ w X B .zs (.slice a 0 0)
  | sl (es : List (List AV)) (a : Option Addr) (cap size : Nat) (vs : Nat → Nat → Value) (hcap : es.length ≤ cap) (hb : es.length < big)
      (h : ∀ (i : Nat) (e : List AV), es[i]? = some e → e.length = size ∧ ∃ ad, a = some ad ∧ ad.spot = none ∧ ∀ (j : Nat) (c : AV), e[j]? = some c → c.one = true ∧ (vs i j).oneCell' = true ∧ w.cell? ⟨ad.block, ad.off + i * size + j, none⟩ = some (vs i j) ∧ ¬ X ad.block (ad.off + i * size + j))
      (hv : ∀ (i : Nat) (e : List AV), es[i]? = some e → ∀ (j : Nat) (c : AV), e[j]? = some c → VR σ w X B c (vs i j)) : VR σ w X B (.sl es) (.slice a es.length cap)
  | hs (n off len : Nat) (a : Option Addr) (cap : Nat) (r : Rng) (hr : σ n = some r) (hcap : len ≤ cap) (hb : len < big)
      (h : cap = 0 ∨ (a = some ⟨r.b, r.o + off * r.sz, none⟩ ∧ (off + cap) * r.sz ≤ r.c)) : VR σ w X B (.hs n off len) (.slice a len cap)
  | nilp : VR σ w X B .nilp (.pointer none)
  | ptr (n e j : Nat) (r : Rng) (hr : σ n = some r) : VR σ w X B (.ptr n e j) (.pointer (some ⟨r.b, r.o + e * r.sz + j, none⟩))
  | ip (cs : List AV) (ad : Addr) (vs : Nat → Value) (hs : ad.spot = none)
      (h : ∀ (j : Nat) (c : AV), cs[j]? = some c → c.one = true ∧ (vs j).oneCell' = true ∧ w.cell? ⟨ad.block, ad.off + j, none⟩ = some (vs j) ∧ ¬ X ad.block (ad.off + j))
      (hv : ∀ (j : Nat) (c : AV), cs[j]? = some c → VR σ w X B c (vs j)) : VR σ w X B (.ip cs) (.pointer (some ad))
  | agg (cs : List AV) (vs : Array Value) (hl : cs.length = vs.size) (hv : ∀ (j : Nat) (c : AV) (v : Value), cs[j]? = some c → vs[j]? = some v → VR σ w X B c v) : VR σ w X B (.agg cs) (.agg vs)
  | tup (cs : List AV) (vs : Array Value) (hl : cs.length = vs.size) (hv : ∀ (j : Nat) (c : AV) (v : Value), cs[j]? = some c → vs[j]? = some v → VR σ w X B c v) : VR σ w X B (.tup cs) (.tuple vs)
  | fn (f : Fn) (as bs : List AV) (us vs : Array Value) (hl : as.length = us.size) (hm : bs.length = vs.size)
      (ha : ∀ (j : Nat) (c : AV) (v : Value), as[j]? = some c → us[j]? = some v → VR σ w X B c v) (hv : ∀ (j : Nat) (c : AV) (v : Value), bs[j]? = some c → vs[j]? = some v → VR σ w X B c v) : VR σ w X B (.fn f as bs) (.func f us vs)
  | nilf : VR σ w X B .nilf .nilFunc
  | iface (t : TypeId) (a : AV) (v : Value) (h : VR σ w X B a v) : VR σ w X B (.iface t a) (.iface t v)
  | niliface : VR σ w X B .niliface .nilIface

theorem VR.mono {σ σ' : Sig} {w w' : World} {X X' : Nat → Nat → Prop} {B B' : Nat} (hσ : ∀ n r, σ n = some r → σ' n = some r)
    (hp : ∀ b i v, w.cell? ⟨b, i, none⟩ = some v → ¬ X b i → w'.cell? ⟨b, i, none⟩ = some v ∧ ¬ X' b i) (hB : B' ≤ B) {a : AV} {v : Value} (h : VR σ w X B a v) : VR σ' w' X' B' a v := by
  induction h with
  | undef v => exact .undef v
  | bool b => exact .bool b
  | int k n h => exact .int k n h
  | str s h => exact .str s h
  | zs a => exact .zs a
  | sl es a cap size vs hcap hb h hv ih =>
    refine .sl es a cap size vs hcap hb (fun i e he => ?_) ih
    obtain ⟨h1, ad, h2, h3, h4⟩ := h i e he
    refine ⟨h1, ad, h2, h3, fun j c hc => ?_⟩
    obtain ⟨h5, h5', h6, h7⟩ := h4 j c hc
    obtain ⟨h9, h10⟩ := hp _ _ _ h6 h7
    exact ⟨h5, h5', h9, h10⟩
  | hs n off len a cap r hr hcap hb h => exact .hs n off len a cap r (hσ _ _ hr) hcap hb h
  | nilp => exact .nilp
  | ptr n e j r hr => exact .ptr n e j r (hσ _ _ hr)
  | ip cs ad vs hs h hv ih =>
    refine .ip cs ad vs hs (fun j c hc => ?_) ih
    obtain ⟨h5, h5', h6, h7⟩ := h j c hc
    obtain ⟨h9, h10⟩ := hp _ _ _ h6 h7
    exact ⟨h5, h5', h9, h10⟩
  | agg cs vs hl hv ih => exact .agg cs vs hl ih
  | tup cs vs hl hv ih => exact .tup cs vs hl ih
  | fn f as bs us vs hl hm ha hv iha ihv => exact .fn f as bs us vs hl hm iha ihv
  | nilf => exact .nilf
  | iface t a v h ih => exact .iface t a v ih
  | niliface => exact .niliface

/-- One value each. -/
def VRs (σ : Sig) (w : World) (X : Nat → Nat → Prop) (B : Nat) (cs : List AV) (vs : List Value) : Prop := cs.length = vs.length ∧ ∀ (j : Nat) (c : AV) (v : Value), cs[j]? = some c → vs[j]? = some v → VR σ w X B c v
section
variable {σ : Sig} {w : World} {X : Nat → Nat → Prop} {B : Nat}
theorem VRs.nil : VRs σ w X B [] [] := ⟨rfl, fun j c v h => by simp at h⟩
theorem VRs.cons {c : AV} {v : Value} {cs : List AV} {vs : List Value} (h : VR σ w X B c v) (k : VRs σ w X B cs vs) : VRs σ w X B (c :: cs) (v :: vs) :=
  ⟨by simp [k.1], fun j => by
    cases j with
    | zero => intro c' v' h1 h2; simp at h1 h2; subst h1 h2; exact h
    | succ j => intro c' v' h1 h2; exact k.2 j c' v' (by simpa using h1) (by simpa using h2)⟩
theorem VRs.head {c : AV} {v : Value} {cs : List AV} {vs : List Value} (h : VRs σ w X B (c :: cs) (v :: vs)) : VR σ w X B c v := h.2 0 c v rfl rfl
theorem VRs.tail {c : AV} {v : Value} {cs : List AV} {vs : List Value} (h : VRs σ w X B (c :: cs) (v :: vs)) : VRs σ w X B cs vs :=
  ⟨by simpa using h.1, fun j c' v' h1 h2 => h.2 (j + 1) c' v' (by simpa using h1) (by simpa using h2)⟩
theorem VRs.drop {cs : List AV} {vs : List Value} (h : VRs σ w X B cs vs) (n : Nat) : VRs σ w X B (cs.drop n) (vs.drop n) :=
  ⟨by simp [h.1], fun j c v h1 h2 => h.2 (n + j) c v (by simpa using h1) (by simpa using h2)⟩
theorem VRs.take {cs : List AV} {vs : List Value} (h : VRs σ w X B cs vs) (n : Nat) : VRs σ w X B (cs.take n) (vs.take n) :=
  ⟨by simp [h.1], fun j c v h1 h2 => by
    rw [List.getElem?_take] at h1 h2
    split at h1
    · rw [if_pos (by assumption)] at h2; exact h.2 j c v h1 h2
    · cases h1⟩
theorem VRs.append {cs ds : List AV} {vs us : List Value} (h : VRs σ w X B cs vs) (k : VRs σ w X B ds us) : VRs σ w X B (cs ++ ds) (vs ++ us) :=
  ⟨by simp [h.1, k.1], fun j c v h1 h2 => by
    by_cases hj : j < cs.length
    · rw [List.getElem?_append_left hj] at h1
      rw [List.getElem?_append_left (h.1 ▸ hj)] at h2
      exact h.2 j c v h1 h2
    · rw [List.getElem?_append_right (by omega)] at h1
      rw [List.getElem?_append_right (by have := h.1; omega), ← h.1] at h2
      exact k.2 _ c v h1 h2⟩
theorem VRs.get {cs : List AV} {vs : List Value} (h : VRs σ w X B cs vs) {j : Nat} {c : AV} (hc : cs[j]? = some c) : ∃ v, vs[j]? = some v ∧ VR σ w X B c v := by
  have hj : j < vs.length := by rw [← h.1]; exact (List.getElem?_eq_some_iff.1 hc).1
  exact ⟨vs[j], List.getElem?_eq_getElem hj, h.2 j c _ hc (List.getElem?_eq_getElem hj)⟩
theorem VR.agg_iff {cs : List AV} {v : Value} : VR σ w X B (.agg cs) v ↔ ∃ vs : List Value, v = .agg vs.toArray ∧ VRs σ w X B cs vs := by
  constructor
  · intro h
    cases h with
    | agg _ vs hl hv => exact ⟨vs.toList, by simp, by simpa using hl, fun j c v h1 h2 => hv j c v h1 (by simpa using h2)⟩
  · rintro ⟨vs, rfl, h⟩
    exact .agg cs _ (by simpa using h.1) (fun j c v h1 h2 => h.2 j c v h1 (by simpa using h2))
theorem VR.tup_iff {cs : List AV} {v : Value} : VR σ w X B (.tup cs) v ↔ ∃ vs : List Value, v = .tuple vs.toArray ∧ VRs σ w X B cs vs := by
  constructor
  · intro h
    cases h with
    | tup _ vs hl hv => exact ⟨vs.toList, by simp, by simpa using hl, fun j c v h1 h2 => hv j c v h1 (by simpa using h2)⟩
  · rintro ⟨vs, rfl, h⟩
    exact .tup cs _ (by simpa using h.1) (fun j c v h1 h2 => h.2 j c v h1 (by simpa using h2))
/-- The cells of a value. -/
theorem VR.cells {a : AV} {v : Value} (h : VR σ w X B a v) (hu : a.one = true ∨ ∃ cs, a = .agg cs) : VRs σ w X B a.cells v.cells.toList := by
  rcases hu with hu | ⟨cs, rfl⟩
  · have : a.cells = [a] := by cases a <;> simp_all [AV.cells, AV.one]
    rw [this]
    have h2 : v.cells = #[v] := by cases h <;> simp_all [Value.cells, AV.one]
    rw [h2]
    exact .cons h .nil
  · obtain ⟨vs, rfl, h9⟩ := VR.agg_iff.1 h
    simpa [AV.cells, Value.cells] using h9
theorem VR.oneCell {a : AV} {v : Value} (h : VR σ w X B a v) (hu : a.one = true) : v.oneCell' = true := by
  cases h <;> simp_all [AV.one, Value.oneCell']
end
end Go.Proofs.Ytcnofpoffdjbpaa.AE
