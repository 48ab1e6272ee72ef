/- Texts AM. -/
import Derived.Below
import Derived.Tactics
import Derived.WalkKit
import Derived.Deep.AppendSrc
import Derived.Lib.AppendZerosOnto
import Derived.Laws.IdiomCopy
import Derived.Laws.Cells
import Derived.KernelRfl
import Derived.Deep.MidRow
import Derived.Laws.MakeOwn
import Derived.Laws.StructEq
import Derived.Laws.BytesString
import Derived.Laws.Small
import Derived.Laws.Slices
import Derived.Lib.ConvBytes
import Derived.Laws.Build
import Derived.Deep.LoopGhost
import Derived.Scope
import Derived.TacticsIn
import Derived.OrdersIn
import Derived.RangeFuncCalls
import Derived.RangeFuncIn
/- The abstract walk: values, memory, operations, code, functions. No program in sight. -/
/- Abstract values and memory, and what they stand for. No program in sight. -/
namespace Go.Proofs.YtjidgdfdeckofaaDoor.AE
open Go Go.RowKit
set_option linter.unusedVariables false
set_option linter.unusedSimpArgs false
/-- A value as the walk sees it: 'sl' is a row that nobody writes any more, told by its elements' cells; 'hs' a row that is owned, a block's name, where it begins, how many; 'zs' an empty row without room; 'ip' the place of an element that nobody writes; 'ptr' a place in an owned block: its name, the element, the cell. -/
inductive AV where
  | undef
  | bool (b : Bool)
  | int (k : IntKind) (n : Int)
  | str (l : List Int)
  | zs
  | sl (es : List (List AV))
  | hs (n off len : Nat)
  | nilp
  | ptr (n e j : Nat)
  | ip (cs : List AV)
  | agg (cs : List AV)
  | tup (vs : List AV)
  | fn (f : Fn) (first cap : List AV)
  | nilf
  | iface (t : TypeId) (v : AV)
  | niliface
  deriving Inhabited
/-- May it lie in one cell? -/
def AV.one : AV → Bool
  | .undef | .agg _ | .tup _ => false
  | _ => true
/-- Its cells. -/
def AV.cells : AV → List AV
  | .agg cs => cs
  | v => [v]
def InR (k : IntKind) (n : Int) : Prop := k.min ≤ n ∧ n ≤ k.max
instance (k : IntKind) (n : Int) : Decidable (InR k n) := inferInstanceAs (Decidable (_ ∧ _))
structure Blk where
  sz : Nat
  es : List (List AV)
abbrev AHeap := Nat → Option Blk
structure Rng where
  b : Nat
  o : Nat
  c : Nat
  sz : Nat
abbrev Sig := Nat → Option Rng
/-- The cells that an owned block has to itself. -/
def Held (σ : Sig) (h : AHeap) (b i : Nat) : Prop := ∃ n r, (h n).isSome ∧ σ n = some r ∧ r.b = b ∧ r.o ≤ i ∧ i < r.o + r.c
def octs (s : ByteArray) : List Int := s.data.toList.map fun b => (b.toNat : Int)
def big : Nat := 4611686018427387904
/-- What an abstract value stands for. X: cells that are somebody's own; B: blocks from here on were made since the call began. -/
inductive VR (σ : Sig) (w : World) (X : Nat → Nat → Prop) (B : Nat) : AV → Value → Prop
  | undef (v : Value) : VR σ w X B .undef v
  | bool (b : Bool) : VR σ w X B (.bool b) (.bool b)
  | int (k : IntKind) (n : Int) (h : InR k n) : VR σ w X B (.int k n) (.int k n)
  | str (s : ByteArray) (h : s.size < big) : VR σ w X B (.str (octs s)) (.string s)
  | zs (a : Option Addr) : VR σ w X B .zs (.slice a 0 0)
  | sl (es : List (List AV)) (a : Option Addr) (cap size : Nat) (vs : Nat → Nat → Value) (hcap : es.length ≤ cap) (hb : es.length < big)
      (h : ∀ (i : Nat) (e : List AV), es[i]? = some e → e.length = size ∧ ∃ ad, a = some ad ∧ ad.spot = none ∧ ∀ (j : Nat) (c : AV), e[j]? = some c → c.one = true ∧ (vs i j).oneCell' = true ∧ w.cell? ⟨ad.block, ad.off + i * size + j, none⟩ = some (vs i j) ∧ ¬ X ad.block (ad.off + i * size + j))
      (hv : ∀ (i : Nat) (e : List AV), es[i]? = some e → ∀ (j : Nat) (c : AV), e[j]? = some c → VR σ w X B c (vs i j)) : VR σ w X B (.sl es) (.slice a es.length cap)
  | hs (n off len : Nat) (a : Option Addr) (cap : Nat) (r : Rng) (hr : σ n = some r) (hcap : len ≤ cap) (hb : len < big)
      (h : cap = 0 ∨ (a = some ⟨r.b, r.o + off * r.sz, none⟩ ∧ (off + cap) * r.sz ≤ r.c)) : VR σ w X B (.hs n off len) (.slice a len cap)
  | nilp : VR σ w X B .nilp (.pointer none)
  | ptr (n e j : Nat) (r : Rng) (hr : σ n = some r) : VR σ w X B (.ptr n e j) (.pointer (some ⟨r.b, r.o + e * r.sz + j, none⟩))
  | ip (cs : List AV) (ad : Addr) (vs : Nat → Value) (hs : ad.spot = none)
      (h : ∀ (j : Nat) (c : AV), cs[j]? = some c → c.one = true ∧ (vs j).oneCell' = true ∧ w.cell? ⟨ad.block, ad.off + j, none⟩ = some (vs j) ∧ ¬ X ad.block (ad.off + j))
      (hv : ∀ (j : Nat) (c : AV), cs[j]? = some c → VR σ w X B c (vs j)) : VR σ w X B (.ip cs) (.pointer (some ad))
  | agg (cs : List AV) (vs : Array Value) (hl : cs.length = vs.size) (hv : ∀ (j : Nat) (c : AV) (v : Value), cs[j]? = some c → vs[j]? = some v → VR σ w X B c v) : VR σ w X B (.agg cs) (.agg vs)
  | tup (cs : List AV) (vs : Array Value) (hl : cs.length = vs.size) (hv : ∀ (j : Nat) (c : AV) (v : Value), cs[j]? = some c → vs[j]? = some v → VR σ w X B c v) : VR σ w X B (.tup cs) (.tuple vs)
  | fn (f : Fn) (as bs : List AV) (us vs : Array Value) (hl : as.length = us.size) (hm : bs.length = vs.size)
      (ha : ∀ (j : Nat) (c : AV) (v : Value), as[j]? = some c → us[j]? = some v → VR σ w X B c v) (hv : ∀ (j : Nat) (c : AV) (v : Value), bs[j]? = some c → vs[j]? = some v → VR σ w X B c v) : VR σ w X B (.fn f as bs) (.func f us vs)
  | nilf : VR σ w X B .nilf .nilFunc
  | iface (t : TypeId) (a : AV) (v : Value) (h : VR σ w X B a v) : VR σ w X B (.iface t a) (.iface t v)
  | niliface : VR σ w X B .niliface .nilIface
theorem VR.mono {σ σ' : Sig} {w w' : World} {X X' : Nat → Nat → Prop} {B B' : Nat} (hσ : ∀ n r, σ n = some r → σ' n = some r)
    (hp : ∀ b i v, w.cell? ⟨b, i, none⟩ = some v → ¬ X b i → w'.cell? ⟨b, i, none⟩ = some v ∧ ¬ X' b i) (hB : B' ≤ B) {a : AV} {v : Value} (h : VR σ w X B a v) : VR σ' w' X' B' a v := by
  induction h with
  | undef v => exact .undef v
  | bool b => exact .bool b
  | int k n h => exact .int k n h
  | str s h => exact .str s h
  | zs a => exact .zs a
  | sl es a cap size vs hcap hb h hv ih =>
    refine .sl es a cap size vs hcap hb (fun i e he => ?_) ih
    obtain ⟨h1, ad, h2, h3, h4⟩ := h i e he
    refine ⟨h1, ad, h2, h3, fun j c hc => ?_⟩
    obtain ⟨h5, h5', h6, h7⟩ := h4 j c hc
    obtain ⟨h9, h10⟩ := hp _ _ _ h6 h7
    exact ⟨h5, h5', h9, h10⟩
  | hs n off len a cap r hr hcap hb h => exact .hs n off len a cap r (hσ _ _ hr) hcap hb h
  | nilp => exact .nilp
  | ptr n e j r hr => exact .ptr n e j r (hσ _ _ hr)
  | ip cs ad vs hs h hv ih =>
    refine .ip cs ad vs hs (fun j c hc => ?_) ih
    obtain ⟨h5, h5', h6, h7⟩ := h j c hc
    obtain ⟨h9, h10⟩ := hp _ _ _ h6 h7
    exact ⟨h5, h5', h9, h10⟩
  | agg cs vs hl hv ih => exact .agg cs vs hl ih
  | tup cs vs hl hv ih => exact .tup cs vs hl ih
  | fn f as bs us vs hl hm ha hv iha ihv => exact .fn f as bs us vs hl hm iha ihv
  | nilf => exact .nilf
  | iface t a v h ih => exact .iface t a v ih
  | niliface => exact .niliface
/-- The model's book-keeping of ranges over functions. -/
def bookB : Obj → Bool
  | .loop _ | .deferred _ => true
  | _ => false
/-- That book-keeping lies as it lay; no block is gone. -/
structure Oth (w w' : World) : Prop where
  size : w.heap.size ≤ w'.heap.size
  keep : ∀ (b : Nat) (o : Obj), w.heap[b]? = some o → bookB o = true → w'.heap[b]? = some o
theorem Oth.refl (w : World) : Oth w w := ⟨Nat.le_refl _, fun _ _ h _ => h⟩
theorem Oth.trans {w w' w'' : World} (h : Oth w w') (k : Oth w' w'') : Oth w w'' := ⟨Nat.le_trans h.size k.size, fun b o hb ho => k.keep b o (h.keep b o hb ho) ho⟩
theorem Oth.old {w w' : World} (hs : w.heap.size ≤ w'.heap.size) (h : ∀ b, b < w.heap.size → w'.heap[b]? = w.heap[b]?) : Oth w w' := ⟨hs, fun b o hb _ => by rw [h b (Array.getElem?_eq_some_iff.1 hb).1]; exact hb⟩
/-- All that stood for something still does. -/
structure Kv (σ : Sig) (w : World) (X : Nat → Nat → Prop) (B : Nat) (σ' : Sig) (w' : World) (X' : Nat → Nat → Prop) : Prop where
  vr : ∀ a v, VR σ w X B a v → VR σ' w' X' B a v
  oth : Oth w w'
instance {σ : Sig} {w : World} {X : Nat → Nat → Prop} {B : Nat} {σ' : Sig} {w' : World} {X' : Nat → Nat → Prop} : CoeFun (Kv σ w X B σ' w' X') (fun _ => ∀ a v, VR σ w X B a v → VR σ' w' X' B a v) := ⟨Kv.vr⟩
instance {σ : Sig} {w : World} {X : Nat → Nat → Prop} {B : Nat} {σ' : Sig} {w' : World} {X' : Nat → Nat → Prop} : Coe (Kv σ w X B σ' w' X') (∀ a v, VR σ w X B a v → VR σ' w' X' B a v) := ⟨Kv.vr⟩
theorem Kv.refl {σ : Sig} {w : World} {X : Nat → Nat → Prop} {B : Nat} : Kv σ w X B σ w X := ⟨fun _ _ q => q, .refl _⟩
theorem Kv.trans {σ σ' σ'' : Sig} {w w' w'' : World} {X X' X'' : Nat → Nat → Prop} {B : Nat} (h : Kv σ w X B σ' w' X') (k : Kv σ' w' X' B σ'' w'' X'') : Kv σ w X B σ'' w'' X'' := ⟨fun a v q => k.vr a v (h.vr a v q), h.oth.trans k.oth⟩
/-- One value each. -/
def VRs (σ : Sig) (w : World) (X : Nat → Nat → Prop) (B : Nat) (cs : List AV) (vs : List Value) : Prop := cs.length = vs.length ∧ ∀ (j : Nat) (c : AV) (v : Value), cs[j]? = some c → vs[j]? = some v → VR σ w X B c v
section
variable {σ : Sig} {w : World} {X : Nat → Nat → Prop} {B : Nat}
theorem VRs.nil : VRs σ w X B [] [] := ⟨rfl, fun j c v h => by simp at h⟩
theorem VRs.cons {c : AV} {v : Value} {cs : List AV} {vs : List Value} (h : VR σ w X B c v) (k : VRs σ w X B cs vs) : VRs σ w X B (c :: cs) (v :: vs) :=
  ⟨by simp [k.1], fun j => by
    cases j with
    | zero => intro c' v' h1 h2; simp at h1 h2; subst h1 h2; exact h
    | succ j => intro c' v' h1 h2; exact k.2 j c' v' (by simpa using h1) (by simpa using h2)⟩
theorem VRs.head {c : AV} {v : Value} {cs : List AV} {vs : List Value} (h : VRs σ w X B (c :: cs) (v :: vs)) : VR σ w X B c v := h.2 0 c v rfl rfl
theorem VRs.tail {c : AV} {v : Value} {cs : List AV} {vs : List Value} (h : VRs σ w X B (c :: cs) (v :: vs)) : VRs σ w X B cs vs :=
  ⟨by simpa using h.1, fun j c' v' h1 h2 => h.2 (j + 1) c' v' (by simpa using h1) (by simpa using h2)⟩
theorem VRs.drop {cs : List AV} {vs : List Value} (h : VRs σ w X B cs vs) (n : Nat) : VRs σ w X B (cs.drop n) (vs.drop n) :=
  ⟨by simp [h.1], fun j c v h1 h2 => h.2 (n + j) c v (by simpa using h1) (by simpa using h2)⟩
theorem VRs.take {cs : List AV} {vs : List Value} (h : VRs σ w X B cs vs) (n : Nat) : VRs σ w X B (cs.take n) (vs.take n) :=
  ⟨by simp [h.1], fun j c v h1 h2 => by
    rw [List.getElem?_take] at h1 h2
    split at h1
    · rw [if_pos (by assumption)] at h2; exact h.2 j c v h1 h2
    · cases h1⟩
theorem VRs.append {cs ds : List AV} {vs us : List Value} (h : VRs σ w X B cs vs) (k : VRs σ w X B ds us) : VRs σ w X B (cs ++ ds) (vs ++ us) :=
  ⟨by simp [h.1, k.1], fun j c v h1 h2 => by
    by_cases hj : j < cs.length
    · rw [List.getElem?_append_left hj] at h1
      rw [List.getElem?_append_left (h.1 ▸ hj)] at h2
      exact h.2 j c v h1 h2
    · rw [List.getElem?_append_right (by omega)] at h1
      rw [List.getElem?_append_right (by have := h.1; omega), ← h.1] at h2
      exact k.2 _ c v h1 h2⟩
theorem VRs.get {cs : List AV} {vs : List Value} (h : VRs σ w X B cs vs) {j : Nat} {c : AV} (hc : cs[j]? = some c) : ∃ v, vs[j]? = some v ∧ VR σ w X B c v := by
  have hj : j < vs.length := by rw [← h.1]; exact (List.getElem?_eq_some_iff.1 hc).1
  exact ⟨vs[j], List.getElem?_eq_getElem hj, h.2 j c _ hc (List.getElem?_eq_getElem hj)⟩
theorem VR.agg_iff {cs : List AV} {v : Value} : VR σ w X B (.agg cs) v ↔ ∃ vs : List Value, v = .agg vs.toArray ∧ VRs σ w X B cs vs := by
  constructor
  · intro h
    cases h with
    | agg _ vs hl hv => exact ⟨vs.toList, by simp, by simpa using hl, fun j c v h1 h2 => hv j c v h1 (by simpa using h2)⟩
  · rintro ⟨vs, rfl, h⟩
    exact .agg cs _ (by simpa using h.1) (fun j c v h1 h2 => h.2 j c v h1 (by simpa using h2))
theorem VR.tup_iff {cs : List AV} {v : Value} : VR σ w X B (.tup cs) v ↔ ∃ vs : List Value, v = .tuple vs.toArray ∧ VRs σ w X B cs vs := by
  constructor
  · intro h
    cases h with
    | tup _ vs hl hv => exact ⟨vs.toList, by simp, by simpa using hl, fun j c v h1 h2 => hv j c v h1 (by simpa using h2)⟩
  · rintro ⟨vs, rfl, h⟩
    exact .tup cs _ (by simpa using h.1) (fun j c v h1 h2 => h.2 j c v h1 (by simpa using h2))
/-- The cells of a value. -/
theorem VR.cells {a : AV} {v : Value} (h : VR σ w X B a v) (hu : a.one = true ∨ ∃ cs, a = .agg cs) : VRs σ w X B a.cells v.cells.toList := by
  rcases hu with hu | ⟨cs, rfl⟩
  · have : a.cells = [a] := by cases a <;> simp_all [AV.cells, AV.one]
    rw [this]
    have h2 : v.cells = #[v] := by cases h <;> simp_all [Value.cells, AV.one]
    rw [h2]
    exact .cons h .nil
  · obtain ⟨vs, rfl, h9⟩ := VR.agg_iff.1 h
    simpa [AV.cells, Value.cells] using h9
theorem VR.oneCell {a : AV} {v : Value} (h : VR σ w X B a v) (hu : a.one = true) : v.oneCell' = true := by
  cases h <;> simp_all [AV.one, Value.oneCell']
end
end Go.Proofs.YtjidgdfdeckofaaDoor.AE
/- Abstract memory and the model's: what stands for what; a block that turns. No program in sight. -/
namespace Go.Proofs.YtjidgdfdeckofaaDoor.AE
open Go Go.RowKit
set_option linter.unusedVariables false
set_option linter.unusedSimpArgs false
def upd {α : Type} (f : Nat → α) (n : Nat) (v : α) : Nat → α := fun m => if m = n then v else f m
theorem upd_same {α : Type} (f : Nat → α) (n : Nat) (v : α) : upd f n v n = v := if_pos rfl
theorem upd_ne {α : Type} (f : Nat → α) (n : Nat) (v : α) {m : Nat} (h : m ≠ n) : upd f n v m = f m := if_neg h
def Rng.has (r : Rng) (b i : Nat) : Prop := r.b = b ∧ r.o ≤ i ∧ i < r.o + r.c
/-- What the abstract memory stands for: each owned block lies in a range of cells that nobody else has; all else is as it was when the call began. -/
structure SR (B : Nat) (w0 : World) (σ : Sig) (h : AHeap) (w : World) : Prop where
  old : Below B w0 w
  hB : B ≤ w.heap.size
  blk : ∀ n k, h n = some k → ∃ r, σ n = some r ∧ r.sz = k.sz ∧ B ≤ r.b ∧ k.es.length * k.sz ≤ r.c ∧ k.es.length < big ∧
    (∀ i, r.has r.b i → (w.cell? ⟨r.b, i, none⟩).isSome = true ∧ w.frozen? ⟨r.b, i, none⟩ = false) ∧
    ∀ (i : Nat) (e : List AV), k.es[i]? = some e → e.length = k.sz ∧ ∀ (j : Nat) (a : AV), e[j]? = some a → a.one = true ∧ ∃ v, v.oneCell' = true ∧ w.cell? ⟨r.b, r.o + i * k.sz + j, none⟩ = some v ∧ VR σ w (Held σ h) B a v
  dis : ∀ n m r s b i, (h n).isSome → (h m).isSome → σ n = some r → σ m = some s → r.has b i → s.has b i → n = m
theorem held_iff {σ : Sig} {h : AHeap} {b i : Nat} : Held σ h b i ↔ ∃ n r, (h n).isSome ∧ σ n = some r ∧ r.has b i := Iff.rfl
/-- Nothing in memory is of a name that has no range. -/
theorem SR.none_of {B : Nat} {w0 w : World} {σ : Sig} {h : AHeap} (hs : SR B w0 σ h w) {n : Nat} (hn : σ n = none) : h n = none := by
  cases hh : h n with
  | none => rfl
  | some k => obtain ⟨r, h1, _⟩ := hs.blk n k hh; rw [hn] at h1; cases h1
section
variable {B : Nat} {w0 w w' : World} {σ : Sig} {h : AHeap}
/-- One block is made, or turned; those of D are given up for it. -/
theorem SR.turn (hs : SR B w0 σ h w) (D : Nat → Bool) (k : Nat) (r : Rng) (blk : Blk)
    (hk : σ k = none ∨ (D k = true ∧ σ k = some r)) (hbel : Below B w w')
    (hcell : ∀ b i v, w.cell? ⟨b, i, none⟩ = some v → (∀ n s, D n = true → (h n).isSome → σ n = some s → ¬ s.has b i) → w'.cell? ⟨b, i, none⟩ = some v)
    (hfrz : ∀ b i, (w.cell? ⟨b, i, none⟩).isSome = true → w'.frozen? ⟨b, i, none⟩ = w.frozen? ⟨b, i, none⟩)
    (hoth : Oth w w') (hB : B ≤ r.b)
    (hroom : ∀ i, r.has r.b i → (w'.cell? ⟨r.b, i, none⟩).isSome = true ∧ w'.frozen? ⟨r.b, i, none⟩ = false ∧ (w.cell? ⟨r.b, i, none⟩ = none ∨ ∃ n s, D n = true ∧ (h n).isSome ∧ σ n = some s ∧ s.has r.b i))
    (hsz : r.sz = blk.sz) (hlen : blk.es.length * blk.sz ≤ r.c) (hbig : blk.es.length < big)
    (hcont : ∀ (i : Nat) (e : List AV), blk.es[i]? = some e → e.length = blk.sz ∧ ∀ (j : Nat) (a : AV), e[j]? = some a → a.one = true ∧ ∃ v, v.oneCell' = true ∧ w'.cell? ⟨r.b, r.o + i * blk.sz + j, none⟩ = some v ∧ VR σ w (Held σ h) B a v) :
    SR B w0 (upd σ k (some r)) (upd (fun m => if D m = true then none else h m) k (some blk)) w' ∧
      Kv σ w (Held σ h) B (upd σ k (some r)) w' (Held (upd σ k (some r)) (upd (fun m => if D m = true then none else h m) k (some blk))) := by
  have hσ : ∀ n s, σ n = some s → upd σ k (some r) n = some s := fun n s hn => by
    by_cases e : n = k
    · subst e
      rcases hk with hk | ⟨_, hk⟩
      · rw [hk] at hn; cases hn
      · rw [upd_same]; rw [hk] at hn; exact hn
    · rw [upd_ne _ _ _ e]; exact hn
  have held : ∀ b i, Held (upd σ k (some r)) (upd (fun m => if D m = true then none else h m) k (some blk)) b i → w.cell? ⟨b, i, none⟩ = none ∨ Held σ h b i := by
    rintro b i ⟨n, s, h1, h2, h3⟩
    by_cases e : n = k
    · subst e
      rw [upd_same] at h2
      cases h2
      obtain ⟨h4, h5, h6⟩ := h3
      subst h4
      rcases (hroom i ⟨rfl, h5, h6⟩).2.2 with h7 | ⟨m, s, _, h8, h9, h10⟩
      · exact .inl h7
      · exact .inr ⟨m, s, h8, h9, h10⟩
    · rw [upd_ne _ _ _ e] at h1 h2
      split at h1
      · cases h1
      · exact .inr ⟨n, s, h1, h2, h3⟩
  have keep : ∀ a v, VR σ w (Held σ h) B a v → VR (upd σ k (some r)) w' (Held (upd σ k (some r)) (upd (fun m => if D m = true then none else h m) k (some blk))) B a v := by
    intro a v hv
    refine hv.mono hσ (fun b i u hu hx => ⟨hcell b i u hu fun n s hd hn hsn hh => hx ⟨n, s, hn, hsn, hh⟩, fun hx' => ?_⟩) (Nat.le_refl _)
    rcases held b i hx' with h1 | h1
    · rw [h1] at hu; cases hu
    · exact hx h1
  refine ⟨⟨hs.old.trans hbel, Nat.le_trans hs.hB hbel.size, fun n kb hn => ?_, fun n m s t b i hn hm h1 h2 h3 h4 => ?_⟩, ⟨keep, hoth⟩⟩
  · by_cases e : n = k
    · subst e
      rw [upd_same] at hn
      cases hn
      refine ⟨r, upd_same _ _ _, hsz, hB, hlen, hbig, fun i hi => ⟨(hroom i hi).1, (hroom i hi).2.1⟩, fun i e he => ?_⟩
      obtain ⟨h1, h2⟩ := hcont i e he
      refine ⟨h1, fun j a ha => ?_⟩
      obtain ⟨h3, v, h4, h5, h6⟩ := h2 j a ha
      exact ⟨h3, v, h4, h5, keep _ _ h6⟩
    · rw [upd_ne _ _ _ e] at hn
      split at hn
      · cases hn
      · rename_i hd
        obtain ⟨s, h1, h2, h3, h4, h4', h5, h6⟩ := hs.blk n kb hn
        have away : ∀ i, s.has s.b i → ∀ m t, D m = true → (h m).isSome → σ m = some t → ¬ t.has s.b i := fun i hi m t hdm hm ht hh =>
          hd ((hs.dis n m s t s.b i (by rw [hn]; rfl) hm h1 ht hi hh) ▸ hdm)
        refine ⟨s, hσ _ _ h1, h2, h3, h4, h4', fun i hi => ?_, fun i e he => ?_⟩
        · obtain ⟨h7, h8⟩ := h5 i hi
          obtain ⟨u, hu⟩ := Option.isSome_iff_exists.1 h7
          exact ⟨by rw [hcell _ _ _ hu (away i hi)]; rfl, by rw [hfrz _ _ h7, h8]⟩
        · obtain ⟨h7, h8⟩ := h6 i e he
          refine ⟨h7, fun j a ha => ?_⟩
          obtain ⟨h9, v, h10, h11, h12⟩ := h8 j a ha
          refine ⟨h9, v, h10, hcell _ _ _ h11 (away _ ⟨rfl, by omega, ?_⟩), keep _ _ h12⟩
          have hj := (List.getElem?_eq_some_iff.1 ha).1
          have hi := (List.getElem?_eq_some_iff.1 he).1
          have : (i + 1) * kb.sz ≤ kb.es.length * kb.sz := Nat.mul_le_mul_right _ hi
          rw [Nat.succ_mul] at this
          omega
  · by_cases e : n = k
    · by_cases e' : m = k
      · omega
      · exfalso
        subst e
        rw [upd_same] at h1
        cases h1
        rw [upd_ne _ _ _ e'] at hm h2
        split at hm
        · cases hm
        · rename_i hd
          obtain ⟨h5, h6, h7⟩ := h3
          subst h5
          obtain ⟨mb, hmb⟩ := Option.isSome_iff_exists.1 hm
          obtain ⟨t', q1, _, _, _, _, q5, _⟩ := hs.blk m mb hmb
          rw [h2] at q1
          cases q1
          have hq := h4
          obtain ⟨q6, q7, q8⟩ := h4
          rcases (hroom i ⟨rfl, h6, h7⟩).2.2 with h8 | ⟨x, s, hdx, hx, hsx, hh⟩
          · have := (q5 i (by rw [q6]; exact hq)).1
            rw [q6, h8] at this
            cases this
          · have := hs.dis m x t s r.b i hm hx h2 hsx hq hh
            subst this
            exact hd hdx
    · by_cases e' : m = k
      · exfalso
        subst e'
        rw [upd_same] at h2
        cases h2
        rw [upd_ne _ _ _ e] at hn h1
        split at hn
        · cases hn
        · rename_i hd
          obtain ⟨h5, h6, h7⟩ := h4
          subst h5
          obtain ⟨nb, hnb⟩ := Option.isSome_iff_exists.1 hn
          obtain ⟨t', q1, _, _, _, _, q5, _⟩ := hs.blk n nb hnb
          rw [h1] at q1
          cases q1
          have hq := h3
          obtain ⟨q6, q7, q8⟩ := h3
          rcases (hroom i ⟨rfl, h6, h7⟩).2.2 with h8 | ⟨x, s', hdx, hx, hsx, hh⟩
          · have := (q5 i (by rw [q6]; exact hq)).1
            rw [q6, h8] at this
            cases this
          · have := hs.dis n x s s' r.b i hn hx h1 hsx hq hh
            subst this
            exact hd hdx
      · rw [upd_ne _ _ _ e] at hn h1
        rw [upd_ne _ _ _ e'] at hm h2
        split at hn
        · cases hn
        · split at hm
          · cases hm
          · exact hs.dis n m s t b i hn hm h1 h2 h3 h4
/-- Blocks are given up. -/
theorem SR.drop (hs : SR B w0 σ h w) (D : Nat → Bool) :
    SR B w0 σ (fun m => if D m = true then none else h m) w ∧ Kv σ w (Held σ h) B σ w (Held σ (fun m => if D m = true then none else h m)) := by
  have held : ∀ b i, Held σ (fun m => if D m = true then none else h m) b i → Held σ h b i := by
    rintro b i ⟨n, s, h1, h2, h3⟩
    dsimp only at h1
    split at h1
    · cases h1
    · exact ⟨n, s, h1, h2, h3⟩
  have keep : ∀ a v, VR σ w (Held σ h) B a v → VR σ w (Held σ (fun m => if D m = true then none else h m)) B a v := fun a v hv =>
    hv.mono (fun _ _ q => q) (fun b i u hu hx => ⟨hu, fun q => hx (held b i q)⟩) (Nat.le_refl _)
  refine ⟨⟨hs.old, hs.hB, fun n kb hn => ?_, fun n m s t b i hn hm => ?_⟩, ⟨keep, .refl _⟩⟩
  · split at hn
    · cases hn
    · obtain ⟨s, h1, h2, h3, h4, h4', h5, h6⟩ := hs.blk n kb hn
      refine ⟨s, h1, h2, h3, h4, h4', h5, fun i e he => ?_⟩
      obtain ⟨h7, h8⟩ := h6 i e he
      refine ⟨h7, fun j a ha => ?_⟩
      obtain ⟨h9, v, h10, h11, h12⟩ := h8 j a ha
      exact ⟨h9, v, h10, h11, keep _ _ h12⟩
  · split at hn
    · cases hn
    · split at hm
      · cases hm
      · exact hs.dis n m s t b i hn hm
/-- A new block. -/
theorem SR.alloc (hs : SR B w0 σ h w) (k : Nat) (hk : σ k = none) (ccs : Array Value) (t : TypeId) (blk : Blk) (hlen : blk.es.length * blk.sz ≤ ccs.size) (hbig : blk.es.length < big)
    (hcont : ∀ (i : Nat) (e : List AV), blk.es[i]? = some e → e.length = blk.sz ∧ ∀ (j : Nat) (a : AV), e[j]? = some a → a.one = true ∧ ∃ v, v.oneCell' = true ∧ ccs[i * blk.sz + j]? = some v ∧ VR σ w (Held σ h) B a v) :
    SR B w0 (upd σ k (some ⟨w.heap.size, 0, ccs.size, blk.sz⟩)) (upd h k (some blk)) (w.alloc (.cells ccs t)) ∧
      Kv σ w (Held σ h) B (upd σ k (some ⟨w.heap.size, 0, ccs.size, blk.sz⟩)) (w.alloc (.cells ccs t)) (Held (upd σ k (some ⟨w.heap.size, 0, ccs.size, blk.sz⟩)) (upd h k (some blk))) := by
  have lt : ∀ b i, (w.cell? ⟨b, i, none⟩).isSome = true → b < w.heap.size := fun b i hb => by
    rcases Nat.lt_or_ge b w.heap.size with q | q
    · exact q
    · simp [World.cell?, Array.getElem?_eq_none q] at hb
  have := hs.turn (w' := w.alloc (.cells ccs t)) (fun _ => false) k ⟨w.heap.size, 0, ccs.size, blk.sz⟩ blk (.inl hk) ((Below.refl B w).alloc hs.hB _)
    (fun b i v hv _ => by rw [World.cell?_alloc_lt _ _ _ (lt b i (by rw [hv]; rfl))]; exact hv)
    (fun b i hb => RowKit.frozen?_alloc_cells _ _ _ _) (.old (by simp) fun b hb => Below.heap_alloc _ _ b hb) hs.hB
    (fun i hi => ⟨by
        simp only [World.cell?_alloc_new]
        have := hi.2.2
        simp only [Nat.zero_add] at this
        rw [Array.getElem?_eq_getElem this]
        rfl, by
        rw [RowKit.frozen?_alloc_cells]
        simp [World.frozen?], .inl (by simp [World.cell?])⟩) rfl (by simpa using hlen) hbig
    (fun i e he => by
      obtain ⟨h1, h2⟩ := hcont i e he
      refine ⟨h1, fun j a ha => ?_⟩
      obtain ⟨h3, v, h4, h5, h6⟩ := h2 j a ha
      exact ⟨h3, v, h4, by simpa using h5, h6⟩)
  simpa using this
/-- The world's other parts do not matter. -/
theorem SR.drew (hs : SR B w0 σ h w) (n : Nat) : SR B w0 σ h { w with drawn := n } ∧ Kv σ w (Held σ h) B σ { w with drawn := n } (Held σ h) := by
  have keep : ∀ a v, VR σ w (Held σ h) B a v → VR σ { w with drawn := n } (Held σ h) B a v := fun a v hv => VR.mono (w := w) (w' := { w with drawn := n }) (fun _ _ q => q) (fun b i u hu hx => ⟨hu, hx⟩) (Nat.le_refl _) hv
  refine ⟨⟨⟨hs.old.os, hs.old.tape, hs.old.output, hs.old.size, hs.old.block⟩, hs.hB, fun m kb hm => ?_, hs.dis⟩, ⟨keep, ⟨Nat.le_refl _, fun _ _ h _ => h⟩⟩⟩
  obtain ⟨s, h1, h2, h3, h4, h4', h5, h6⟩ := hs.blk m kb hm
  refine ⟨s, h1, h2, h3, h4, h4', h5, fun i e he => ?_⟩
  obtain ⟨h7, h8⟩ := h6 i e he
  refine ⟨h7, fun j a ha => ?_⟩
  obtain ⟨h9, v, h10, h11, h12⟩ := h8 j a ha
  exact ⟨h9, v, h10, h11, keep _ _ h12⟩
end
end Go.Proofs.YtjidgdfdeckofaaDoor.AE
/- The operations that touch memory, on abstract values; and that the model's do the like. No program in sight. -/
namespace Go.Proofs.YtjidgdfdeckofaaDoor.AE
open Go Go.RowKit
set_option linter.unusedVariables false
set_option linter.unusedSimpArgs false
theorem setCell_oth {w : World} {a : Addr} {v : Value} : Oth w (w.setCell a v) := ⟨by simp [World.setCell], fun b o hb ho => by
  by_cases e : b = a.block
  · subst e
    obtain ⟨hlt, hk'⟩ := Array.getElem?_eq_some_iff.1 hb
    show (w.heap.modify a.block _)[a.block]? = some o
    rw [Array.getElem?_eq_getElem (by rw [Array.size_modify]; exact hlt), Array.getElem_modify_self, hk']
    cases o <;> first | rfl | (simp [bookB] at ho)
  · exact (Below.heap_setCell w a v b e).trans hb⟩
theorem setCells_oth {r : Nat} : ∀ (vs : List Value) (o : Nat) (u : World), Oth u (u.setCells r o vs)
  | [], _, _ => .refl _
  | v :: vs, o, u => setCell_oth.trans (setCells_oth vs (o + 1) _)
/-- What an operation leaves: memory that turned, names k .. k' that are new, and a value. -/
def Out (B : Nat) (w0 : World) (σ : Sig) (h : AHeap) (w : World) (k k' : Nat) (a : AV) (h' : AHeap) (v : Value) (w' : World) : Prop :=
  ∃ σ' : Sig, SR B w0 σ' h' w' ∧ (∀ n, n < k ∨ k' ≤ n → σ' n = σ n) ∧ Kv σ w (Held σ h) B σ' w' (Held σ' h') ∧ VR σ' w' (Held σ' h') B a v
theorem Out.same {B : Nat} {w0 w : World} {σ : Sig} {h : AHeap} {k : Nat} {a : AV} {v : Value} (hs : SR B w0 σ h w) (hv : VR σ w (Held σ h) B a v) : Out B w0 σ h w k k a h v w :=
  ⟨σ, hs, fun _ _ => rfl, .refl, hv⟩
variable {P : Program}
def sizeT (P : Program) (t : TypeId) : Option Nat := (P.info? t).map (·.size)
def byteT (P : Program) (t : TypeId) : Option Nat := (P.info? t).map (·.bytes)
def avOf1 : Value → AV
  | .bool b => .bool b
  | .int k n => if InR k n then .int k n else .undef
  | .string s => if s.size < big then .str (octs s) else .undef
  | .slice none 0 0 => .zs
  | .pointer none => .nilp
  | .nilFunc => .nilf
  | .nilIface => .niliface
  | _ => .undef
def avOf : Value → AV
  | .agg cs => .agg (cs.toList.map avOf1)
  | v => avOf1 v
def zeroT (P : Program) (t : TypeId) : Option (List AV) := ((P.info? t).bind (·.zero)).map fun v => v.cells.toList.map avOf1
def aggT (P : Program) (t : TypeId) : Option Bool := (P.underlying t).map fun d => match d with | .struct _ | .array _ _ => true | _ => false
section
variable {σ : Sig} {w : World} {X : Nat → Nat → Prop} {B : Nat}
theorem VR.of1 (v : Value) : VR σ w X B (avOf1 v) v := by
  unfold avOf1
  split
  · exact .bool _
  · split
    · exact .int _ _ (by assumption)
    · exact .undef _
  · split
    · exact .str _ (by assumption)
    · exact .undef _
  · exact .zs _
  · exact .nilp
  · exact .nilf
  · exact .niliface
  · exact .undef _
theorem VRs.of1 (vs : List Value) : VRs σ w X B (vs.map avOf1) vs := ⟨by simp, fun j c v h1 h2 => by
  rw [List.getElem?_map, h2] at h1
  cases h1
  exact .of1 v⟩
theorem VR.of (v : Value) : VR σ w X B (avOf v) v := by
  unfold avOf
  split
  · exact VR.agg_iff.2 ⟨_, by simp, .of1 _⟩
  · exact .of1 v
end
/-! ### Places -/
def aPlace (h : AHeap) : AV → Option (List AV)
  | .ptr n e j => (h n).bind fun k => (k.es[e]?).map (·.drop j)
  | .ip cs => some cs
  | _ => none
/-- The cells of a list of abstract values stand there. -/
theorem list_of {α : Type} {n : Nat} {Q : Nat → α → Prop} (h : ∀ j, j < n → ∃ v, Q j v) : ∃ vs : List α, vs.length = n ∧ ∀ (j : Nat) v, vs[j]? = some v → Q j v := by
  induction n with
  | zero => exact ⟨[], rfl, fun j v hv => by simp at hv⟩
  | succ n ih =>
    obtain ⟨vs, h1, h2⟩ := ih fun j hj => h j (by omega)
    obtain ⟨v, hv⟩ := h n (by omega)
    refine ⟨vs ++ [v], by simp [h1], fun j u hu => ?_⟩
    by_cases hj : j < n
    · rw [List.getElem?_append_left (by omega)] at hu
      exact h2 j u hu
    · rw [List.getElem?_append_right (by omega)] at hu
      have hj' := (List.getElem?_eq_some_iff.1 hu).1
      simp at hj'
      obtain rfl : j = n := by omega
      simp [h1] at hu
      exact hu ▸ hv
theorem place_cells {B : Nat} {w0 w : World} {σ : Sig} {h : AHeap} {a : AV} {ca : Value} {cs : List AV} (hs : SR B w0 σ h w) (hp : aPlace h a = some cs) (hv : VR σ w (Held σ h) B a ca) :
    ∃ (b o : Nat) (vs : List Value), ca = .pointer (some ⟨b, o, none⟩) ∧ VRs σ w (Held σ h) B cs vs ∧ w.rangeAt b o vs ∧ (∀ c ∈ cs, c.one = true) ∧ (∀ v ∈ vs, v.oneCell' = true) := by
  unfold aPlace at hp
  split at hp
  · rename_i n e j
    cases hv with
    | ptr _ _ _ r hr =>
    cases hh : h n with
    | none => simp [hh] at hp
    | some k =>
      simp only [hh, Option.bind_some, Option.map_eq_some_iff] at hp
      obtain ⟨es, he, rfl⟩ := hp
      obtain ⟨r', h1, h2, h3, h4, h4', h5, h6⟩ := hs.blk n k hh
      rw [hr] at h1
      cases h1
      obtain ⟨h7, h8⟩ := h6 e es he
      obtain ⟨vs, hl, hvs⟩ := list_of (n := es.length) (Q := fun i v => ∀ a, es[i]? = some a → a.one = true ∧ v.oneCell' = true ∧ w.cell? ⟨r.b, r.o + e * k.sz + i, none⟩ = some v ∧ VR σ w (Held σ h) B a v) (fun i hi => by
        obtain ⟨q1, v, q2, q3, q4⟩ := h8 i es[i] (List.getElem?_eq_getElem hi)
        exact ⟨v, fun a ha => by rw [List.getElem?_eq_getElem hi] at ha; cases ha; exact ⟨q1, q2, q3, q4⟩⟩)
      have hg : ∀ (i : Nat) v, vs[i]? = some v → ∃ a, es[i]? = some a := fun i v hv => ⟨es[i]'(by have := (List.getElem?_eq_some_iff.1 hv).1; omega), List.getElem?_eq_getElem _⟩
      refine ⟨r.b, _, vs.drop j, rfl, ⟨by simp [hl], fun i c v hc hv => ?_⟩, fun i v hv => ?_, fun c hc => ?_, fun v hv => ?_⟩
      · rw [List.getElem?_drop] at hc hv
        exact (hvs _ v hv c hc).2.2.2
      · rw [List.getElem?_drop] at hv
        obtain ⟨a, ha⟩ := hg _ _ hv
        have := (hvs _ v hv a ha).2.2.1
        rw [h2]
        rw [show r.o + e * k.sz + j + i = r.o + e * k.sz + (j + i) by omega]
        exact this
      · obtain ⟨i, hi⟩ := List.mem_iff_getElem?.1 (List.mem_of_mem_drop hc)
        exact (h8 i c hi).1
      · obtain ⟨i, hi⟩ := List.mem_iff_getElem?.1 (List.mem_of_mem_drop hv)
        obtain ⟨a, ha⟩ := hg _ _ hi
        exact (hvs i v hi a ha).2.1
  · cases hp
    cases hv with
    | ip _ ad vs hsp h1 h2 =>
    obtain ⟨b, o, sp⟩ := ad
    cases hsp
    refine ⟨b, o, (List.range cs.length).map vs, rfl, ⟨by simp, fun i c v hc hv => ?_⟩, fun i v hv => ?_, fun c hc => ?_, fun v hv => ?_⟩
    · have hi := (List.getElem?_eq_some_iff.1 hc).1
      simp [hi] at hv
      subst hv
      exact h2 i c hc
    · have hi := (List.getElem?_eq_some_iff.1 hv).1
      simp at hi
      simp [hi] at hv
      subst hv
      exact (h1 i cs[i] (List.getElem?_eq_getElem hi)).2.2.1
    · obtain ⟨i, hi⟩ := List.mem_iff_getElem?.1 hc
      exact (h1 i c hi).1
    · simp only [List.mem_map, List.mem_range] at hv
      obtain ⟨i, hi, rfl⟩ := hv
      exact (h1 i cs[i] (List.getElem?_eq_getElem hi)).2.1
  · cases hp
/-! ### load -/
def aLoad (P : Program) (h : AHeap) (t : TypeId) (a : AV) : Option AV :=
  (aPlace h a).bind fun cs => match aggT P t, sizeT P t with
    | some true, some n => if n ≤ cs.length then some (.agg (cs.take n)) else none
    | some false, _ => cs.head?
    | _, _ => none
theorem aLoad_ok {B : Nat} {w0 w : World} {σ : Sig} {h : AHeap} {t : TypeId} {a v : AV} {ca : Value} (hs : SR B w0 σ h w) (hl : aLoad P h t a = some v) (hv : VR σ w (Held σ h) B a ca) :
    ∃ cv, (Instr.loadAt t ca).run P w = .ok cv w ∧ VR σ w (Held σ h) B v cv := by
  unfold aLoad at hl
  cases hp : aPlace h a with
  | none => simp [hp] at hl
  | some cs =>
    simp only [hp, Option.bind_some] at hl
    obtain ⟨b, o, vs, rfl, h1, h2, h3, h4⟩ := place_cells hs hp hv
    split at hl
    · rename_i n ht hz
      split at hl
      · rename_i hn
        cases hl
        unfold aggT at ht
        obtain ⟨d, hd, hq⟩ := Option.map_eq_some_iff.1 ht
        have hlen : (vs.take n).length = n := by have := h1.1; simp; omega
        refine ⟨.agg (vs.take n).toArray, run_loadAt_mid w b o t (vs.take n) d (fun j v hj => h2 j v ?_) hd (by cases d <;> simp_all) (by rw [hlen]; exact hz), VR.agg_iff.2 ⟨_, rfl, h1.take n⟩⟩
        rw [List.getElem?_take] at hj
        split at hj
        · exact hj
        · cases hj
      · cases hl
    · rename_i ht
      unfold aggT at ht
      obtain ⟨d, hd, hq⟩ := Option.map_eq_some_iff.1 ht
      cases cs with
      | nil => cases hl
      | cons c cs =>
        cases hl
        cases vs with
        | nil => have := h1.1; simp at this
        | cons u vs =>
          refine ⟨u, ?_, h1.head⟩
          have hu := h2 0 u rfl
          have hagg : (isAgg t).run P w = .ok false w := by
            unfold isAgg
            rw [Sem.run_bind, run_underlying hd w]
            cases d <;> simp_all
          simp only [Nat.add_zero] at hu
          simp [Instr.loadAt, Instr.sureAddr, loadVar, Sem.run_bind, hagg, hu]
    · cases hl
/-! ### store -/
def splice (l : List AV) (j : Nat) (cs : List AV) : List AV := l.take j ++ cs ++ l.drop (j + cs.length)
def aStore (P : Program) (h : AHeap) (t : TypeId) (a v : AV) : Option AHeap :=
  match a with
  | .ptr n e j => (h n).bind fun k => (k.es[e]?).bind fun c =>
      if sizeT P t = some v.cells.length ∧ v.cells.all AV.one = true ∧ j + v.cells.length ≤ c.length then some (upd h n (some ⟨k.sz, k.es.set e (splice c j v.cells)⟩)) else none
  | _ => none
theorem splice_length {l cs : List AV} {j : Nat} (h : j + cs.length ≤ l.length) : (splice l j cs).length = l.length := by simp [splice]; omega
theorem splice_get {l cs : List AV} {j : Nat} (h : j + cs.length ≤ l.length) (i : Nat) (a : AV) (hi : (splice l j cs)[i]? = some a) :
    (j ≤ i ∧ i < j + cs.length ∧ cs[i - j]? = some a) ∨ ((i < j ∨ j + cs.length ≤ i) ∧ l[i]? = some a) := by
  unfold splice at hi
  by_cases h1 : i < j
  · rw [List.append_assoc, List.getElem?_append_left (by simp; omega), List.getElem?_take, if_pos h1] at hi
    exact .inr ⟨.inl h1, hi⟩
  · by_cases h2 : i < j + cs.length
    · rw [List.append_assoc, List.getElem?_append_right (by simp; omega), List.getElem?_append_left (by simp; omega)] at hi
      exact .inl ⟨by omega, h2, by rw [show (l.take j).length = j by simp; omega] at hi; exact hi⟩
    · rw [List.getElem?_append_right (by simp; omega), List.getElem?_drop] at hi
      refine .inr ⟨.inr (by omega), ?_⟩
      rw [show j + cs.length + (i - (l.take j ++ cs).length) = i by simp; omega] at hi
      exact hi
theorem big_lt {b : Nat} : b < big ↔ b < 4611686018427387904 := Iff.rfl
/-- Some cells of an element of an owned block are written. -/
theorem SR.write {B : Nat} {w0 w : World} {σ : Sig} {h : AHeap} (hs : SR B w0 σ h w) {n e j : Nat} {k : Blk} {c cs : List AV} {vs : List Value} {r : Rng} (hh : h n = some k) (hr : σ n = some r) (hc : k.es[e]? = some c) (hj : j + cs.length ≤ c.length)
    (hv : VRs σ w (Held σ h) B cs vs) (h1 : ∀ a ∈ cs, a.one = true) (h2 : ∀ v ∈ vs, v.oneCell' = true) :
    w.there r.b (r.o + e * r.sz + j) vs.length ∧ SR B w0 σ (upd h n (some ⟨k.sz, k.es.set e (splice c j cs)⟩)) (w.setCells r.b (r.o + e * r.sz + j) vs) ∧
      Kv σ w (Held σ h) B σ (w.setCells r.b (r.o + e * r.sz + j) vs) (Held σ (upd h n (some ⟨k.sz, k.es.set e (splice c j cs)⟩))) := by
  obtain ⟨r', q1, q2, q3, q4, q4', q5, q6⟩ := hs.blk n k hh
  rw [hr] at q1
  cases q1
  have hcl := (q6 e c hc).1
  have he := (List.getElem?_eq_some_iff.1 hc).1
  have hlen : vs.length = cs.length := hv.1.symm
  have hmul : (e + 1) * k.sz ≤ k.es.length * k.sz := Nat.mul_le_mul_right _ he
  rw [Nat.succ_mul] at hmul
  have hin : ∀ i, i < vs.length → r.has r.b (r.o + e * r.sz + j + i) := fun i hi => ⟨rfl, by omega, by rw [q2]; omega⟩
  have hthere : w.there r.b (r.o + e * r.sz + j) vs.length := fun i hi => q5 _ (hin i hi)
  have hsome : ∀ i, i < vs.length → (w.cell? ⟨r.b, r.o + e * r.sz + j + i, none⟩).isSome = true := fun i hi => (hthere i hi).1
  have hupd : upd (fun m => if decide (m = n) = true then none else h m) n (some ⟨k.sz, k.es.set e (splice c j cs)⟩) = upd h n (some ⟨k.sz, k.es.set e (splice c j cs)⟩) := by
    funext m
    unfold upd
    split
    · rfl
    · simp [*]
  have hσ : upd σ n (some r) = σ := by
    funext m
    unfold upd
    split
    · subst_vars; exact hr.symm
    · rfl
  have hbel : Below B w (w.setCells r.b (r.o + e * r.sz + j) vs) := by
    generalize r.o + e * r.sz + j = o
    clear hsome hthere hin hlen hv h2
    suffices ∀ (vs : List Value) (o : Nat) (u : World), Below B w u → Below B w (u.setCells r.b o vs) from this vs o w (Below.refl _ _)
    intro vs
    induction vs with
    | nil => intro o u hu; exact hu
    | cons v vs ih => intro o u hu; exact ih _ _ (hu.setCell q3 v)
  have := hs.turn (w' := w.setCells r.b (r.o + e * r.sz + j) vs) (fun m => decide (m = n)) n r ⟨k.sz, k.es.set e (splice c j cs)⟩ (.inr ⟨by simp, hr⟩) hbel
    (fun b i v hv hx => by
      rw [World.cell?_setCells_out]
      · exact hv
      · intro hb _
        simp only at hb
        subst hb
        by_cases hq : r.has r.b i
        · exact absurd hq (hx n r (by simp) (by rw [hh]; rfl) hr)
        · have q8 : ¬ (r.o ≤ i ∧ i < r.o + r.c) := fun q => hq ⟨rfl, q.1, q.2⟩
          have := hin 0
          rw [q2] at *
          show i < _ ∨ _ ≤ i
          omega)
    (fun b i hb => World.frozen?_setCells _ _ _ _ _) (setCells_oth _ _ _) q3
    (fun i hi => ⟨by
        by_cases hq : r.o + e * r.sz + j ≤ i ∧ i < r.o + e * r.sz + j + vs.length
        · obtain ⟨x, rfl⟩ : ∃ x, i = r.o + e * r.sz + j + x := ⟨i - (r.o + e * r.sz + j), by omega⟩
          rw [World.cell?_setCells_in _ _ _ _ hsome x (by omega)]
          rfl
        · rw [World.cell?_setCells_out]
          · exact (q5 i hi).1
          · intro _ _
            show i < _ ∨ _ ≤ i
            omega, by rw [World.frozen?_setCells]; exact (q5 i hi).2, .inr ⟨n, r, by simp, by rw [hh]; rfl, hr, hi⟩⟩) q2 (by simpa using q4) (by simpa using q4')
    (fun i x hx => by
      by_cases hie : i = e
      · subst hie
        simp [he] at hx
        subst hx
        refine ⟨by rw [splice_length hj]; exact hcl, fun y a ha => ?_⟩
        rcases splice_get hj y a ha with ⟨h3, h4, h5⟩ | ⟨h3, h4⟩
        · obtain ⟨v, h6, h7⟩ := hv.get h5
          refine ⟨h1 a (List.mem_of_getElem? h5), v, h2 v (List.mem_of_getElem? h6), ?_, h7⟩
          have hlt : y - j < vs.length := by omega
          rw [show r.o + i * k.sz + y = r.o + i * r.sz + j + (y - j) by rw [q2]; omega, World.cell?_setCells_in _ _ _ _ hsome _ hlt]
          rw [List.getElem?_eq_getElem hlt] at h6
          exact h6
        · obtain ⟨h5, v, h6, h7, h8⟩ := (q6 i c hc).2 y a h4
          refine ⟨h5, v, h6, ?_, h8⟩
          rw [World.cell?_setCells_out]
          · exact h7
          · intro _ _
            show r.o + i * k.sz + y < _ ∨ _ ≤ r.o + i * k.sz + y
            rw [q2]
            omega
      · rw [List.getElem?_set_ne (by omega)] at hx
        obtain ⟨h3, h4⟩ := q6 i x hx
        refine ⟨h3, fun y a ha => ?_⟩
        obtain ⟨h5, v, h6, h7, h8⟩ := h4 y a ha
        refine ⟨h5, v, h6, ?_, h8⟩
        rw [World.cell?_setCells_out]
        · exact h7
        · intro _ _
          have hy := (List.getElem?_eq_some_iff.1 ha).1
          show r.o + i * k.sz + y < _ ∨ _ ≤ r.o + i * k.sz + y
          rw [q2]
          rw [h3] at hy
          rcases Nat.lt_or_gt_of_ne hie with hlt | hgt
          · have : (i + 1) * k.sz ≤ e * k.sz := Nat.mul_le_mul_right _ hlt
            rw [Nat.succ_mul] at this
            omega
          · have : (e + 1) * k.sz ≤ i * k.sz := Nat.mul_le_mul_right _ hgt
            rw [Nat.succ_mul] at this
            omega)
  rw [hupd, hσ] at this
  exact ⟨hthere, this⟩
theorem aStore_ok {B : Nat} {w0 w : World} {σ : Sig} {h h' : AHeap} {t : TypeId} {a v : AV} {ca cv : Value} (hs : SR B w0 σ h w) (hl : aStore P h t a v = some h') (hv : VR σ w (Held σ h) B a ca) (hv2 : VR σ w (Held σ h) B v cv) :
    ∃ w', (Instr.storeAt t ca cv).run P w = .ok () w' ∧ SR B w0 σ h' w' ∧ Kv σ w (Held σ h) B σ w' (Held σ h') := by
  unfold aStore at hl
  split at hl
  · rename_i n e j
    cases hv with
    | ptr _ _ _ r hr =>
    cases hh : h n with
    | none => simp [hh] at hl
    | some k =>
      simp only [hh, Option.bind_some, Option.bind_eq_some_iff] at hl
      obtain ⟨c, hc, hl⟩ := hl
      split at hl
      · rename_i hq
        cases hl
        have hcs : VRs σ w (Held σ h) B v.cells cv.cells.toList := by
          refine hv2.cells ?_
          cases v <;> simp_all [AV.one, AV.cells]
        have hall : ∀ a ∈ v.cells, a.one = true := fun a ha => List.all_eq_true.1 hq.2.1 a ha
        have hall2 : ∀ u ∈ cv.cells.toList, u.oneCell' = true := fun u hu => by
          obtain ⟨i, hi⟩ := List.mem_iff_getElem?.1 hu
          have hil := (List.getElem?_eq_some_iff.1 hi).1
          have hi2 : i < v.cells.length := by rw [hcs.1]; exact hil
          exact (hcs.2 i _ u (List.getElem?_eq_getElem hi2) hi).oneCell (hall _ (List.getElem_mem hi2))
        obtain ⟨h1, h2, h3⟩ := hs.write hh hr hc hq.2.2 hcs hall hall2
        refine ⟨_, ?_, h2, h3⟩
        have hz : (P.info? t).map (·.size) = some cv.cells.size := by
          have := hq.1
          unfold sizeT at this
          rw [this, hcs.1]
          simp
        have key : (storeVar t ⟨r.b, r.o + e * r.sz + j, none⟩ cv).run P w = .ok () (w.setCells r.b (r.o + e * r.sz + j) cv.cells.toList) := by
          have := run_storeVar_mid (P := P) w r.b (r.o + e * r.sz + j) t cv.cells (by simpa using h1) hz (by
            rw [Array.all_eq_true_iff_forall_mem]
            intro u hu
            exact hall2 u (by simpa using hu))
          have heq : storeVar t ⟨r.b, r.o + e * r.sz + j, none⟩ (.agg cv.cells) = storeVar t ⟨r.b, r.o + e * r.sz + j, none⟩ cv := rfl
          rw [← heq]
          exact this
        simp only [Instr.storeAt, Instr.sureAddr, Sem.run_bind, Sem.run_pure, Result.andThen_ok, key]
      · cases hl
  · cases hl
end Go.Proofs.YtjidgdfdeckofaaDoor.AE
/- The operations that make memory, on abstract values; and that the model's do the like. No program in sight. -/
namespace Go.Proofs.YtjidgdfdeckofaaDoor.AE
open Go Go.RowKit
set_option linter.unusedVariables false
set_option linter.unusedSimpArgs false
variable {P : Program}
theorem flatten_get {α : Type} {n : Nat} : ∀ {es : List (List α)}, (∀ e ∈ es, e.length = n) → ∀ {i j : Nat} {e : List α} {a : α}, es[i]? = some e → e[j]? = some a → es.flatten[i * n + j]? = some a
  | [], _, i, j, e, a, h, _ => by simp at h
  | x :: es, hn, 0, j, e, a, h, h2 => by
    simp at h
    subst h
    have hj := (List.getElem?_eq_some_iff.1 h2).1
    rw [List.flatten_cons, Nat.zero_mul, Nat.zero_add, List.getElem?_append_left hj]
    exact h2
  | x :: es, hn, i + 1, j, e, a, h, h2 => by
    have hx := hn x (by simp)
    rw [List.flatten_cons, List.getElem?_append_right (by rw [hx, Nat.succ_mul]; omega), show (i + 1) * n + j - x.length = i * n + j by rw [hx, Nat.succ_mul]; omega]
    exact flatten_get (fun e he => hn e (by simp [he])) (by simpa using h) h2
theorem flatten_length {α : Type} {n : Nat} : ∀ {es : List (List α)}, (∀ e ∈ es, e.length = n) → es.flatten.length = es.length * n
  | [], _ => by simp
  | x :: es, hn => by
    rw [List.flatten_cons, List.length_append, flatten_length (fun e he => hn e (by simp [he])), hn x (by simp), List.length_cons, Nat.succ_mul]
    omega
section
variable {B : Nat} {w0 w w' : World} {σ : Sig} {h : AHeap}
/-- A new row: its elements, and room behind them. -/
theorem SR.row (hs : SR B w0 σ h w) (k : Nat) (hk : σ k = none) (es : List (List AV)) (sz : Nat) (hsz : ∀ e ∈ es, e.length = sz) (hbig : es.length < big) (vs rest : List Value) (t : TypeId)
    (hv : VRs σ w (Held σ h) B es.flatten vs) (h1 : ∀ e ∈ es, ∀ a ∈ e, a.one = true) :
    SR B w0 (upd σ k (some ⟨w.heap.size, 0, (vs ++ rest).length, sz⟩)) (upd h k (some ⟨sz, es⟩)) (w.alloc (.cells (vs ++ rest).toArray t)) ∧
      Kv σ w (Held σ h) B (upd σ k (some ⟨w.heap.size, 0, (vs ++ rest).length, sz⟩)) (w.alloc (.cells (vs ++ rest).toArray t)) (Held (upd σ k (some ⟨w.heap.size, 0, (vs ++ rest).length, sz⟩)) (upd h k (some ⟨sz, es⟩))) := by
  have := hs.alloc k hk (vs ++ rest).toArray t ⟨sz, es⟩ (by
    have h2 := flatten_length hsz
    have h3 := hv.1
    simp
    omega) hbig (fun i e he => ⟨hsz e (List.mem_of_getElem? he), fun j a ha => by
      have h2 := flatten_get hsz he ha
      obtain ⟨v, h3, h4⟩ := hv.get h2
      have ho := h1 e (List.mem_of_getElem? he) a (List.mem_of_getElem? ha)
      exact ⟨ho, v, h4.oneCell ho, by
        have hl := (List.getElem?_eq_some_iff.1 h3).1
        simp only [List.getElem?_toArray]
        rw [List.getElem?_append_left hl]
        exact h3, h4⟩⟩)
  simpa using this
end
theorem mem_flatten_one {es : List (List AV)} (h : es.all (fun e => e.all AV.one) = true) : ∀ e ∈ es, ∀ a ∈ e, a.one = true := fun e he a ha => List.all_eq_true.1 (List.all_eq_true.1 h e he) a ha
/-! ### A variable -/
def aAlloc (P : Program) (h : AHeap) (k : Nat) (t : TypeId) : Option (AV × AHeap) :=
  (zeroT P t).bind fun zs => if zs.all AV.one = true then some (.ptr k 0 0, upd h k (some ⟨zs.length, [zs]⟩)) else none
def aBox (h : AHeap) (k : Nat) (a : AV) : Option (AV × AHeap) :=
  if a.cells.all AV.one = true then some (.ptr k 0 0, upd h k (some ⟨a.cells.length, [a.cells]⟩)) else none
section
variable {B : Nat} {w0 w : World} {σ : Sig} {h h' : AHeap} {k : Nat} {t : TypeId} {a v : AV} {ca : Value}
theorem SR.var (hs : SR B w0 σ h w) (hk : σ k = none) (cs : List AV) (vs : List Value) (t : TypeId) (hv : VRs σ w (Held σ h) B cs vs) (h1 : cs.all AV.one = true) :
    Out B w0 σ h w k (k + 1) (.ptr k 0 0) (upd h k (some ⟨cs.length, [cs]⟩)) (.pointer (some ⟨w.heap.size, 0, none⟩)) (w.alloc (.cells vs.toArray t)) := by
  obtain ⟨h2, h3⟩ := hs.row k hk [cs] cs.length (by simp) (by simp [big]) vs [] t (by simpa using hv) (mem_flatten_one (by simpa using h1))
  simp only [List.append_nil] at h2 h3
  refine ⟨_, h2, fun n hn => upd_ne _ _ _ (by omega), h3, ?_⟩
  have := VR.ptr (σ := upd σ k (some ⟨w.heap.size, 0, vs.length, cs.length⟩)) (w := w.alloc (.cells vs.toArray t)) (X := Held (upd σ k (some ⟨w.heap.size, 0, vs.length, cs.length⟩)) (upd h k (some ⟨cs.length, [cs]⟩))) (B := B) k 0 0 ⟨w.heap.size, 0, vs.length, cs.length⟩ (upd_same _ _ _)
  simpa using this
theorem aAlloc_ok (hs : SR B w0 σ h w) (hk : σ k = none) (hl : aAlloc P h k t = some (v, h')) :
    ∃ cv w', (Instr.alloc t true (.tuple #[])).run P w = .ok cv w' ∧ Out B w0 σ h w k (k + 1) v h' cv w' := by
  unfold aAlloc zeroT at hl
  simp only [Option.bind_eq_some_iff, Option.map_eq_some_iff] at hl
  obtain ⟨zs, ⟨z, ⟨i, hi, hz⟩, rfl⟩, hl⟩ := hl
  split at hl
  · rename_i h1
    cases hl
    refine ⟨_, _, ?_, hs.var hk _ z.cells.toList t (.of1 _) h1⟩
    simp [Instr.alloc, zeroValue, typeInfo, hi, hz, newVar, newRow]
  · cases hl
theorem aBox_ok (hs : SR B w0 σ h w) (hk : σ k = none) (hl : aBox h k a = some (v, h')) (hv : VR σ w (Held σ h) B a ca) :
    ∃ cv w', (Instr.box t ca).run P w = .ok cv w' ∧ Out B w0 σ h w k (k + 1) v h' cv w' := by
  unfold aBox at hl
  split at hl
  · rename_i h1
    cases hl
    refine ⟨_, _, ?_, hs.var hk _ ca.cells.toList t (hv.cells (by cases a <;> simp_all [AV.one, AV.cells])) h1⟩
    simp [Instr.box, newVar, newRow]
  · cases hl
end
/-! ### A struct out of its parts -/
def aFill (place : Nat → Option (Nat × Nat)) (cells : List AV) : List (Nat × AV) → Option (List AV)
  | [] => some cells
  | (i, a) :: rest => match place i with
    | none => none
    | some (off, size) => if a.cells.length = size ∧ off + size ≤ cells.length then aFill place (splice cells off a.cells) rest else none
def placesT (P : Program) (t : TypeId) : Option (List (Nat × Nat)) :=
  match P.underlying t with
  | some (.struct fields) => fields.toList.mapM fun f => (P.info? f.type).map fun i => (f.offset, i.size)
  | some (.array n e) => if n ≤ 64 then (P.info? e).map fun i => (List.range n).map fun q => (q * i.size, i.size) else none
  | _ => none
def aBuild (P : Program) (t : TypeId) (parts : List (Nat × AV)) : Option AV :=
  (placesT P t).bind fun ps => (zeroT P t).bind fun zs => (aFill (fun i => ps[i]?) zs parts).map .agg
theorem foldl_set (off : Nat) : ∀ (vs : List Value) (i : Nat) (z : Array Value), off + i + vs.length ≤ z.size →
    ((vs.zipIdx i).foldl (fun cs (c, j) => cs.setIfInBounds (off + j) c) z).toList = z.toList.take (off + i) ++ vs ++ z.toList.drop (off + i + vs.length)
  | [], i, z, _ => by simp
  | v :: vs, i, z, h => by
    simp only [List.length_cons] at h
    rw [List.zipIdx_cons, List.foldl_cons, foldl_set off vs (i + 1) _ (by simp; omega)]
    simp only [Array.toList_setIfInBounds, List.length_cons]
    rw [List.take_set, List.drop_set_of_lt (by omega)]
    have hlt : off + i < z.toList.length := by simp; omega
    rw [show off + (i + 1) = (off + i) + 1 by omega, List.take_succ_eq_append_getElem hlt, List.set_append, if_neg (by simp; omega)]
    have h0 : off + i - (z.toList.take (off + i)).length = 0 := by simp; omega
    rw [h0, show off + i + 1 + vs.length = off + i + (vs.length + 1) by omega]
    simp
section
variable {σ : Sig} {w : World} {X : Nat → Nat → Prop} {B : Nat}
theorem aFill_ok {place : Nat → Option (Nat × Nat)} : ∀ {parts : List (Nat × AV)} {cparts : List (Nat × Value)} {zs cs : List AV} {zv : Array Value}, aFill place zs parts = some cs → VRs σ w X B zs zv.toList →
    parts.map (·.1) = cparts.map (·.1) → (∀ (j : Nat) p q, parts[j]? = some p → cparts[j]? = some q → (p.2.one = true ∨ ∃ l, p.2 = .agg l) ∧ VR σ w X B p.2 q.2) → ∃ cv, Instr.fill place zv cparts = some cv ∧ VRs σ w X B cs cv.toList
  | [], [], zs, cs, zv, h, hz, _, _ => by
    simp only [aFill, Option.some.injEq] at h
    subst h
    exact ⟨zv, rfl, hz⟩
  | [], q :: qs, _, _, _, _, _, hm, _ => by simp at hm
  | p :: ps, [], _, _, _, _, _, hm, _ => by simp at hm
  | (i, a) :: ps, (i', u) :: qs, zs, cs, zv, h, hz, hm, hp => by
    simp only [List.map_cons, List.cons.injEq] at hm
    obtain ⟨rfl, hm⟩ := hm
    obtain ⟨h1, h2⟩ := hp 0 _ _ rfl rfl
    have hc := h2.cells h1
    simp only [aFill] at h
    unfold Instr.fill
    cases hq : place i with
    | none => simp [hq] at h
    | some os =>
      obtain ⟨off, size⟩ := os
      simp only [hq] at h ⊢
      split at h
      · rename_i hsz
        have hcl := hc.1
        have hzl := hz.1
        simp only [Array.length_toList] at hcl hzl
        rw [if_neg (by simp; omega)]
        refine aFill_ok (zv := _) h ?_ hm (fun j p q hj hk => hp (j + 1) p q (by simpa using hj) (by simpa using hk))
        have hf := foldl_set off u.cells.toList 0 zv (by simp; omega)
        simp only [Nat.add_zero] at hf
        rw [← Array.foldl_toList, Array.toList_zipIdx, hf]
        unfold splice
        have := ((hz.take off).append hc).append (hz.drop (off + a.cells.length))
        rw [hc.1] at this
        rwa [hc.1]
      · cases h
theorem aFill_more {p p' : Nat → Option (Nat × Nat)} (hp : ∀ i x, p i = some x → p' i = some x) : ∀ {parts : List (Nat × AV)} {zs cs : List AV}, aFill p zs parts = some cs → aFill p' zs parts = some cs
  | [], zs, cs, h => h
  | (i, a) :: ps, zs, cs, h => by
    simp only [aFill] at h ⊢
    cases hq : p i with
    | none => simp [hq] at h
    | some os =>
      rw [hp i os hq]
      simp only [hq] at h ⊢
      split at h
      · rename_i hc
        rw [if_pos hc]
        exact aFill_more hp h
      · cases h
theorem aBuild_ok {t : TypeId} {parts : List (Nat × AV)} {cparts : List (Nat × Value)} {v : AV} (h : aBuild P t parts = some v) (hm : parts.map (·.1) = cparts.map (·.1))
    (hp : ∀ (j : Nat) p q, parts[j]? = some p → cparts[j]? = some q → (p.2.one = true ∨ ∃ l, p.2 = .agg l) ∧ VR σ w X B p.2 q.2) : ∃ cv, (Instr.build t cparts.toArray).run P w = .ok cv w ∧ VR σ w X B v cv := by
  unfold aBuild at h
  simp only [Option.bind_eq_some_iff, Option.map_eq_some_iff] at h
  obtain ⟨ps, h1, zs, h2, cs, h3, rfl⟩ := h
  unfold zeroT at h2
  simp only [Option.bind_eq_some_iff, Option.map_eq_some_iff] at h2
  obtain ⟨z, ⟨i, hi, hz⟩, rfl⟩ := h2
  unfold placesT at h1
  split at h1
  · rename_i fields hu
    obtain ⟨cv, h4, h5⟩ := aFill_ok h3 (zv := z.cells) (.of1 _) hm hp
    refine ⟨.agg cv, run_build w t cparts.toArray cv ?_, VR.agg_iff.2 ⟨cv.toList, by simp, h5⟩⟩
    simp [Program.built, hi, hu, hz, h1]
    exact h4
  · rename_i n e hu
    split at h1
    · obtain ⟨ie, hie, rfl⟩ := Option.map_eq_some_iff.1 h1
      obtain ⟨cv, h4, h5⟩ := aFill_ok (aFill_more (p' := fun q => some (q * ie.size, ie.size)) (fun q x hx => by
        rw [List.getElem?_map] at hx
        obtain ⟨q', hq', rfl⟩ := Option.map_eq_some_iff.1 hx
        obtain ⟨_, h9⟩ := List.getElem?_eq_some_iff.1 hq'
        simp at h9
        subst h9
        rfl) h3) (zv := z.cells) (.of1 _) hm hp
      refine ⟨.agg cv, run_build w t cparts.toArray cv ?_, VR.agg_iff.2 ⟨cv.toList, by simp, h5⟩⟩
      simp [Program.built, hi, hu, hz, hie]
      exact h4
    · cases h1
  · cases h1
end
/-! ### A row out of its parts -/
def aRows (n : Nat) (es : List (List AV)) : List (Nat × AV) → Option (List (List AV))
  | [] => some es
  | (i, a) :: rest => if a.cells.length = n ∧ i < es.length ∧ a.cells.all AV.one = true then aRows n (es.set i a.cells) rest else none
def aBuildSlice (P : Program) (h : AHeap) (k : Nat) (t : TypeId) (len : Nat) (parts : List (Nat × AV)) : Option (AV × AHeap) :=
  match P.underlying t with
  | some (.slice e) => (zeroT P e).bind fun zs => if sizeT P e = some zs.length ∧ zs.all AV.one = true ∧ len * zs.length ≤ 16777216 ∧ len < 16777216 ∧ zs ≠ [] then
      (aRows zs.length (List.replicate len zs) parts).map fun es => (.hs k 0 len, upd h k (some ⟨zs.length, es⟩)) else none
  | _ => none
theorem aRows_len {n : Nat} : ∀ {parts : List (Nat × AV)} {es es' : List (List AV)}, aRows n es parts = some es' → (∀ e ∈ es, e.length = n ∧ e.all AV.one = true) → es'.length = es.length ∧ ∀ e ∈ es', e.length = n ∧ e.all AV.one = true
  | [], es, es', h, hn => by simp [aRows] at h; subst h; exact ⟨rfl, hn⟩
  | (i, a) :: ps, es, es', h, hn => by
    simp only [aRows] at h
    split at h
    · rename_i hq
      obtain ⟨h1, h2⟩ := aRows_len h (fun e he => by
        rcases List.mem_or_eq_of_mem_set he with h3 | rfl
        · exact hn e h3
        · exact ⟨hq.1, hq.2.2⟩)
      exact ⟨by simpa using h1, h2⟩
    · cases h
theorem set_flatten {n : Nat} : ∀ {es : List (List AV)} {i : Nat} {c : List AV}, (∀ e ∈ es, e.length = n) → c.length = n → i < es.length → (es.set i c).flatten = splice es.flatten (i * n) c
  | [], i, c, _, _, h => by simp at h
  | x :: es, 0, c, hn, hc, _ => by
    have hx := hn x (by simp)
    simp [splice, hc, ← hx]
  | x :: es, i + 1, c, hn, hc, h => by
    have hx := hn x (by simp)
    have ih := set_flatten (es := es) (i := i) (c := c) (fun e he => hn e (by simp [he])) hc (by simpa using h)
    rw [List.set_cons_succ, List.flatten_cons, ih]
    unfold splice
    have e1 : (x ++ es.flatten).take (i * n + n) = x ++ es.flatten.take (i * n) := by
      rw [List.take_append, List.take_of_length_le (l := x) (by omega), show i * n + n - x.length = i * n by omega]
    have e2 : (x ++ es.flatten).drop (i * n + n + c.length) = es.flatten.drop (i * n + c.length) := by
      rw [List.drop_append, List.drop_eq_nil_of_le (as := x) (by omega), show i * n + n + c.length - x.length = i * n + c.length by omega, List.nil_append]
    rw [List.flatten_cons, Nat.succ_mul, e1, e2]
    simp
section
variable {B : Nat} {w0 w : World} {σ : Sig} {h h' : AHeap} {k : Nat}
theorem aRows_ok {n : Nat} : ∀ {parts : List (Nat × AV)} {cparts : List (Nat × Value)} {es es' : List (List AV)} {zv : Array Value}, aRows n es parts = some es' → (∀ e ∈ es, e.length = n) → VRs σ w (Held σ h) B es.flatten zv.toList →
    parts.map (·.1) = cparts.map (·.1) → (∀ (j : Nat) p q, parts[j]? = some p → cparts[j]? = some q → VR σ w (Held σ h) B p.2 q.2) → ∃ cv, Instr.fill (fun i => some (i * n, n)) zv cparts = some cv ∧ VRs σ w (Held σ h) B es'.flatten cv.toList
  | [], [], zs, cs, zv, h, _, hz, _, _ => by
    simp only [aRows, Option.some.injEq] at h
    subst h
    exact ⟨zv, rfl, hz⟩
  | [], q :: qs, _, _, _, _, _, _, hm, _ => by simp at hm
  | p :: ps, [], _, _, _, _, _, _, hm, _ => by simp at hm
  | (i, a) :: ps, (i', u) :: qs, es, es', zv, h, hn, hz, hm, hp => by
    simp only [List.map_cons, List.cons.injEq] at hm
    obtain ⟨rfl, hm⟩ := hm
    simp only [aRows] at h
    split at h
    · rename_i hq
      have hc := (hp 0 _ _ rfl rfl).cells (by
        have := hq.2.2
        cases a <;> simp_all [AV.one, AV.cells])
      have hcl := hc.1
      have hzl := hz.1
      simp only [Array.length_toList] at hcl hzl
      have hfl := flatten_length hn
      have hmul : (i + 1) * n ≤ es.length * n := Nat.mul_le_mul_right _ hq.2.1
      rw [Nat.succ_mul] at hmul
      have hq1 := hq.1
      unfold Instr.fill
      simp only
      rw [if_neg (by simp; omega)]
      refine aRows_ok (zv := _) h (fun e he => ?_) ?_ hm (fun j p q hj hk => hp (j + 1) p q (by simpa using hj) (by simpa using hk))
      · rcases List.mem_or_eq_of_mem_set he with h3 | rfl
        · exact hn e h3
        · exact hq.1
      · have hf := foldl_set (i * n) u.cells.toList 0 zv (by simp; omega)
        simp only [Nat.add_zero] at hf
        rw [← Array.foldl_toList, Array.toList_zipIdx, hf, set_flatten hn hq.1 hq.2.1]
        unfold splice
        have := ((hz.take (i * n)).append hc).append (hz.drop (i * n + a.cells.length))
        rw [hc.1] at this
        rwa [hc.1]
    · cases h
/-- An owned row's value. -/
theorem VR.row {X : Nat → Nat → Prop} {w : World} {b c sz len cap : Nat} (hlc : len ≤ cap) (hb : len < big) (hc : cap * sz ≤ c) : VR (upd σ k (some ⟨b, 0, c, sz⟩)) w X B (.hs k 0 len) (.slice (some ⟨b, 0, none⟩) len cap) :=
  .hs k 0 len _ cap ⟨b, 0, c, sz⟩ (upd_same _ _ _) hlc hb (.inr ⟨by simp, by simpa using hc⟩)
theorem zeros_flatten (z : List Value) : ∀ (n : Nat), (List.replicate n z).flatten = (List.range (n * z.length)).map fun i => z[i % z.length]!
  | 0 => by simp
  | n + 1 => by
    rw [List.replicate_succ', List.flatten_append, zeros_flatten z n, Nat.succ_mul, List.range_add, List.map_append]
    congr 1
    simp only [List.flatten_cons, List.flatten_nil, List.append_nil, List.map_map]
    apply List.ext_getElem?
    intro i
    by_cases hi : i < z.length
    · simp [hi, Nat.mul_comm n, Nat.mul_add_mod, Nat.mod_eq_of_lt hi]
    · simp [hi]
theorem VRs.replicate {X : Nat → Nat → Prop} {cs : List AV} {vs : List Value} (hv : VRs σ w X B cs vs) : ∀ n, VRs σ w X B (List.replicate n cs).flatten (List.replicate n vs).flatten
  | 0 => by simpa using VRs.nil
  | n + 1 => by
    rw [List.replicate_succ, List.replicate_succ, List.flatten_cons, List.flatten_cons]
    exact hv.append (VRs.replicate hv n)
theorem aBuildSlice_ok (hs : SR B w0 σ h w) (hk : σ k = none) {t : TypeId} {len : Nat} {parts : List (Nat × AV)} {cparts : List (Nat × Value)} {v : AV} (hl : aBuildSlice P h k t len parts = some (v, h')) (hm : parts.map (·.1) = cparts.map (·.1))
    (hp : ∀ (j : Nat) p q, parts[j]? = some p → cparts[j]? = some q → VR σ w (Held σ h) B p.2 q.2) : ∃ cv w', (Instr.buildSlice t len cparts.toArray).run P w = .ok cv w' ∧ Out B w0 σ h w k (k + 1) v h' cv w' := by
  unfold aBuildSlice at hl
  cases hu : P.underlying t with
  | none => simp [hu] at hl
  | some d =>
  cases d <;> simp only [hu] at hl <;> try (cases hl; done)
  rename_i e
  simp only [Option.bind_eq_some_iff] at hl
  obtain ⟨zs, hz, hl⟩ := hl
  split at hl
  · rename_i hq
    obtain ⟨hsz, hone, h16, hlen, hne⟩ := hq
    simp only [Option.map_eq_some_iff, Prod.mk.injEq] at hl
    obtain ⟨es, hes, rfl, rfl⟩ := hl
    unfold zeroT at hz
    simp only [Option.bind_eq_some_iff, Option.map_eq_some_iff] at hz
    obtain ⟨z, ⟨i, hi, hz⟩, rfl⟩ := hz
    have hsi : i.size = z.cells.size := by simpa [sizeT, hi] using hsz
    have hrl : ∀ e ∈ List.replicate len (z.cells.toList.map avOf1), e.length = z.cells.size ∧ e.all AV.one = true := fun e he => by
      rw [(List.mem_replicate.1 he).2]
      exact ⟨by simp, hone⟩
    simp only [List.length_map, Array.length_toList] at hes h16
    obtain ⟨hel, hen⟩ := aRows_len hes hrl
    have hzv : VRs σ w (Held σ h) B (List.replicate len (z.cells.toList.map avOf1)).flatten ((Array.range (len * z.cells.size)).map (z.cells[· % z.cells.size]!)).toList := by
      have := (VRs.of1 (σ := σ) (w := w) (X := Held σ h) (B := B) z.cells.toList).replicate len
      have hzz : (fun i => z.cells.toList[i % z.cells.size]!) = fun i => z.cells[i % z.cells.size]! := by
        funext i
        simp [getElem!_def]
      rw [zeros_flatten, Array.length_toList, hzz] at this
      rw [Array.toList_map, Array.toList_range]
      exact this
    obtain ⟨cv, h1, h2⟩ := aRows_ok hes (fun e he => (hrl e he).1) hzv hm hp
    have hel' : es.length = len := by simpa using hel
    obtain ⟨h3, h4⟩ := hs.row k hk es z.cells.size (fun e he => (hen e he).1) (by unfold big; omega) cv.toList [] e h2 (fun e he a ha => List.all_eq_true.1 (hen e he).2 a ha)
    have hcl : cv.toList.length = len * z.cells.size := by rw [← h2.1, flatten_length (fun e he => (hen e he).1), hel']
    have hrun : (Instr.buildSlice t len cparts.toArray).run P w = .ok (.slice (some ⟨w.heap.size, 0, none⟩) len len) (w.alloc (.cells cv e)) := by
      have h16' : ¬ (16777216 < len * z.cells.size) := by omega
      unfold Instr.buildSlice
      rw [Sem.run_bind, run_underlying hu]
      by_cases hn : len = 0
      · subst hn
        have h9 : Instr.fill (fun i => some (i * z.cells.size, z.cells.size)) #[] cparts = some cv := by simpa [Array.range_zero'] using h1
        simp [sizeOf, typeInfo, hi, hsi, newRow, h9, Array.range_zero']
      · have hzz : z.cells.size ≠ 0 := by
          intro h0
          apply hne
          have : z.cells = #[] := by simpa using h0
          simp [this]
        have hm0 : ¬ (len * z.cells.size = 0) := Nat.mul_ne_zero hn hzz
        simp [sizeOf, typeInfo, hi, hsi, zeroValue, hz, h16', newRow, h1, hm0]
    simp only [List.append_nil, Array.toArray_toList] at h3 h4
    have hzl : (z.cells.toList.map avOf1).length = z.cells.size := by simp
    rw [hzl]
    exact ⟨_, _, hrun, upd σ k (some ⟨w.heap.size, 0, cv.toList.length, z.cells.size⟩), h3, fun n hn => upd_ne _ _ _ (by omega), h4, VR.row (Nat.le_refl _) (by unfold big; omega) (by omega)⟩
  · cases hl
/-! ### make -/
def aMake (P : Program) (h : AHeap) (k : Nat) (t : TypeId) (l c : AV) : Option (AV × AHeap) :=
  match P.underlying t, l, c with
  | some (.slice e), .int _ l, .int _ c => (zeroT P e).bind fun zs => (byteT P e).bind fun by_ =>
      if sizeT P e = some zs.length ∧ zs.all AV.one = true ∧ 0 ≤ l ∧ l ≤ c ∧ (by_ : Int) * c ≤ 140737488355328 ∧ c < 4611686018427387904 then
        some (.hs k 0 l.toNat, upd h k (some ⟨zs.length, List.replicate l.toNat zs⟩)) else none
  | _, _, _ => none
theorem aMake_ok (hs : SR B w0 σ h w) (hk : σ k = none) {t : TypeId} {l c v : AV} {cl cc : Value} (hl : aMake P h k t l c = some (v, h')) (hvl : VR σ w (Held σ h) B l cl) (hvc : VR σ w (Held σ h) B c cc) :
    ∃ cv w', (Instr.makeSlice t cl cc).run P w = .ok cv w' ∧ Out B w0 σ h w k (k + 1) v h' cv w' := by
  unfold aMake at hl
  split at hl
  · rename_i e kl l kc c hu
    cases hvl
    cases hvc
    simp only [Option.bind_eq_some_iff] at hl
    obtain ⟨zs, hz, by_, hb, hl⟩ := hl
    split at hl
    · rename_i hq
      obtain ⟨hsz, hone, h0, hlc, hby, hbig⟩ := hq
      cases hl
      unfold zeroT at hz
      simp only [Option.bind_eq_some_iff, Option.map_eq_some_iff] at hz
      obtain ⟨z, ⟨i, hi, hz⟩, rfl⟩ := hz
      have hbi : i.bytes = by_ := by simpa [byteT, hi] using hb
      have hsi : i.size = z.cells.size := by simpa [sizeT, hi] using hsz
      have hrun := run_make (P := P) w t e i z hu hi hz kl kc l c h0 hlc (by rw [hbi]; omega) (by omega)
      have hmc : madeCells z.cells (c.toNat * i.size) = ((List.replicate l.toNat z.cells.toList).flatten ++ (List.replicate (c.toNat - l.toNat) z.cells.toList).flatten).toArray := by
        apply Array.ext'
        rw [← List.flatten_append, List.replicate_append_replicate, show l.toNat + (c.toNat - l.toNat) = c.toNat by omega, zeros_flatten, hsi]
        unfold madeCells
        rw [Array.toList_map, Array.toList_range]
        simp [getElem!_def]
      rw [hmc] at hrun
      obtain ⟨h3, h4⟩ := hs.row k hk (List.replicate l.toNat (z.cells.toList.map avOf1)) z.cells.size (fun e he => by rw [(List.mem_replicate.1 he).2]; simp) (by simp [big]; omega) (List.replicate l.toNat z.cells.toList).flatten (List.replicate (c.toNat - l.toNat) z.cells.toList).flatten e
        ((VRs.of1 _).replicate _) (fun e he a ha => by rw [(List.mem_replicate.1 he).2] at ha; exact List.all_eq_true.1 hone a ha)
      have hzl : (z.cells.toList.map avOf1).length = z.cells.size := by simp
      rw [hzl]
      refine ⟨_, _, hrun, upd σ k (some ⟨w.heap.size, 0, ((List.replicate l.toNat z.cells.toList).flatten ++ (List.replicate (c.toNat - l.toNat) z.cells.toList).flatten).length, z.cells.size⟩), h3, fun n hn => upd_ne _ _ _ (by omega), h4, ?_⟩
      refine VR.row (by omega) (by unfold big; omega) ?_
      rw [List.length_append, flatten_length (n := z.cells.size) (fun e he => by rw [(List.mem_replicate.1 he).2]; simp), flatten_length (n := z.cells.size) (fun e he => by rw [(List.mem_replicate.1 he).2]; simp), List.length_replicate, List.length_replicate, ← Nat.add_mul]
      exact Nat.mul_le_mul_right _ (by omega)
    · cases hl
  · cases hl
end
end Go.Proofs.YtjidgdfdeckofaaDoor.AE
/- Rows: append, copy, clear, on abstract values; and that the model's do the like. No program in sight. -/
namespace Go.Proofs.YtjidgdfdeckofaaDoor.AE
open Go Go.RowKit
set_option linter.unusedVariables false
set_option linter.unusedSimpArgs false
variable {P : Program}
/-- A row's elements; n: how many cells an element has. -/
def aRow (h : AHeap) (n : Nat) : AV → Option (List (List AV))
  | .zs => some []
  | .sl es => if es.all (fun e => e.length == n) = true then some es else none
  | .hs m off len => (h m).bind fun k => if k.sz = n ∧ off + len ≤ k.es.length then some ((k.es.drop off).take len) else none
  | .str l => if n = 1 then some (l.map fun c => [.int .u8 c]) else none
  | _ => none
def killT (h : AHeap) : AV → AHeap
  | .hs m _ _ => upd h m none
  | _ => h
theorem kill_eq (h : AHeap) (m : Nat) : (fun i => if decide (i = m) = true then none else h i) = upd h m none := by
  funext i
  unfold upd
  simp
theorem Addr.add_none (b o j : Nat) : (⟨b, o, none⟩ : Addr).add j = ⟨b, o + j, none⟩ := Addr.add_mid b o j
section
variable {B : Nat} {w0 w : World} {σ : Sig} {h h' : AHeap} {k : Nat}
/-- What a row's value reads. -/
structure RowOf (σ : Sig) (w : World) (X : Nat → Nat → Prop) (B : Nat) (n : Nat) (es : List (List AV)) (a : Option Addr) (cap : Nat) (vs : List Value) : Prop where
  rel : VRs σ w X B es.flatten vs
  one : ∀ e ∈ es, ∀ a ∈ e, a.one = true
  cell : ∀ v ∈ vs, v.oneCell' = true
  szs : ∀ e ∈ es, e.length = n
  cap : es.length ≤ cap
  big : es.length < big
  at_ : es ≠ [] → ∃ ad, a = some ad ∧ ad.spot = none ∧ w.rangeAt ad.block ad.off vs
theorem RowOf.length {X : Nat → Nat → Prop} {n : Nat} {es : List (List AV)} {a : Option Addr} {cap : Nat} {vs : List Value} (hr : RowOf σ w X B n es a cap vs) : vs.length = es.length * n := by
  rw [← hr.rel.1, flatten_length hr.szs]
/-- Elements' cells, one behind the other. -/
theorem rel_flatten {X : Nat → Nat → Prop} {n : Nat} {Q : Nat → Value → Prop} : ∀ (es : List (List AV)) (i0 : Nat), (∀ e ∈ es, e.length = n) →
    (∀ (i : Nat) (e : List AV), es[i]? = some e → ∀ (j : Nat) (c : AV), e[j]? = some c → ∃ v, VR σ w X B c v ∧ Q ((i0 + i) * n + j) v) → ∃ vs, VRs σ w X B es.flatten vs ∧ ∀ (j : Nat) v, vs[j]? = some v → Q (i0 * n + j) v
  | [], i0, _, _ => ⟨[], .nil, fun j v hv => by simp at hv⟩
  | e :: es, i0, hn, hx => by
    obtain ⟨us, h1, h2⟩ := list_of (n := e.length) (Q := fun j v => ∀ c, e[j]? = some c → VR σ w X B c v ∧ Q (i0 * n + j) v) (fun j hj => by
      obtain ⟨v, q1, q2⟩ := hx 0 e rfl j e[j] (List.getElem?_eq_getElem hj)
      exact ⟨v, fun c hc => by rw [List.getElem?_eq_getElem hj] at hc; cases hc; exact ⟨q1, q2⟩⟩)
    obtain ⟨vs, h3, h4⟩ := rel_flatten es (i0 + 1) (fun e he => hn e (by simp [he])) (fun i e he j c hc => by
      have := hx (i + 1) e (by simpa using he) j c hc
      rwa [show i0 + 1 + i = i0 + (i + 1) by omega])
    have hel := hn e (by simp)
    refine ⟨us ++ vs, ?_, fun j v hv => ?_⟩
    · rw [List.flatten_cons]
      exact VRs.append ⟨h1.symm, fun j c v hc hv => (h2 j v hv c hc).1⟩ h3
    · by_cases hj : j < us.length
      · rw [List.getElem?_append_left hj] at hv
        exact (h2 j v hv e[j] (List.getElem?_eq_getElem (by omega))).2
      · rw [List.getElem?_append_right (by omega)] at hv
        have := h4 _ v hv
        rw [Nat.succ_mul] at this
        rwa [show i0 * n + n + (j - us.length) = i0 * n + j by omega] at this
theorem aRow_ok (hs : SR B w0 σ h w) {n : Nat} {x : AV} {cx : Value} {es : List (List AV)} (hl : aRow h n x = some es) (hv : VR σ w (Held σ h) B x cx) (hx : ∀ l, x ≠ .str l) :
    ∃ a cap vs, cx = .slice a es.length cap ∧ RowOf σ w (Held σ h) B n es a cap vs := by
  unfold aRow at hl
  split at hl
  · cases hl
    cases hv with
    | zs a => exact ⟨a, 0, [], rfl, ⟨.nil, by simp, by simp, by simp, Nat.le_refl _, by unfold AE.big; decide, fun h => absurd rfl h⟩⟩
  · rename_i es0
    split at hl
    · rename_i hall
      cases hl
      have hn : ∀ e ∈ es, e.length = n := fun e he => by simpa using List.all_eq_true.1 hall e he
      cases hv with
      | sl _ a cap size vs hcap hb h1 h2 =>
      obtain ⟨us, h3, h4⟩ := rel_flatten (σ := σ) (w := w) (B := B) (X := Held σ h) (n := n) (Q := fun q v => ∃ i j e c, es[i]? = some e ∧ e[j]? = some c ∧ q = i * n + j ∧ v = vs i j) es 0 hn (fun i e he j c hc => ⟨vs i j, h2 i e he j c hc, i, j, e, c, he, hc, by rw [Nat.zero_add], rfl⟩)
      refine ⟨a, cap, us, rfl, ⟨h3, fun e he c hc => ?_, fun v hv => ?_, hn, hcap, hb, fun hne => ?_⟩⟩
      · obtain ⟨i, hi⟩ := List.mem_iff_getElem?.1 he
        obtain ⟨j, hj⟩ := List.mem_iff_getElem?.1 hc
        obtain ⟨_, _, _, _, h5⟩ := h1 i e hi
        exact (h5 j c hj).1
      · obtain ⟨q, hq⟩ := List.mem_iff_getElem?.1 hv
        obtain ⟨i, j, e, c, hi, hj, _, rfl⟩ := h4 q v hq
        obtain ⟨_, _, _, _, h5⟩ := h1 i e hi
        exact (h5 j c hj).2.1
      · obtain ⟨e, es', rfl⟩ := List.exists_cons_of_ne_nil hne
        obtain ⟨_, ad, rfl, h6, _⟩ := h1 0 e rfl
        refine ⟨ad, rfl, h6, fun q v hq => ?_⟩
        obtain ⟨i, j, e2, c, hi, hj, hqq, rfl⟩ := h4 q v hq
        obtain ⟨h7, ad2, h8, _, h9⟩ := h1 i e2 hi
        cases h8
        have hn2 := hn e2 (List.mem_of_getElem? hi)
        have := (h9 j c hj).2.2.1
        rw [← h7, hn2] at this
        rw [Nat.zero_mul, Nat.zero_add] at hqq
        rw [hqq, ← Nat.add_assoc]
        exact this
    · cases hl
  · rename_i m off len
    cases hh : h m with
    | none => simp [hh] at hl
    | some kb =>
      simp only [hh, Option.bind_some] at hl
      split at hl
      · rename_i hq
        cases hl
        cases hv with
        | hs _ _ _ a cap r hr hcap hb hor =>
        obtain ⟨r', q1, q2, q3, q4, q4', q5, q6⟩ := hs.blk m kb hh
        rw [hr] at q1
        cases q1
        have hlen : ((kb.es.drop off).take len).length = len := by simp; omega
        have get : ∀ (i : Nat) (e : List AV), ((kb.es.drop off).take len)[i]? = some e → kb.es[off + i]? = some e := fun i e he => by
          rw [List.getElem?_take] at he
          split at he
          · rwa [List.getElem?_drop] at he
          · cases he
        have hn : ∀ e ∈ (kb.es.drop off).take len, e.length = n := fun e he => by
          obtain ⟨i, hi⟩ := List.mem_iff_getElem?.1 he
          rw [← hq.1]
          exact (q6 _ _ (get i e hi)).1
        obtain ⟨us, h3, h4⟩ := rel_flatten (σ := σ) (w := w) (B := B) (X := Held σ h) (n := n) (Q := fun q v => v.oneCell' = true ∧ w.cell? ⟨r.b, r.o + off * r.sz + q, none⟩ = some v) _ 0 hn (fun i e he j c hc => by
          obtain ⟨_, v, q8, q9, q10⟩ := (q6 _ _ (get i e he)).2 j c hc
          refine ⟨v, q10, q8, ?_⟩
          have e1 : r.o + off * r.sz + ((0 + i) * n + j) = r.o + (off + i) * kb.sz + j := by
            rw [q2, ← hq.1, Nat.zero_add, Nat.add_mul]
            omega
          rw [e1]
          exact q9)
        refine ⟨a, cap, us, by rw [hlen], ⟨h3, fun e he c hc => ?_, fun v hv => ?_, hn, by rw [hlen]; exact hcap, by rw [hlen]; exact hb, fun hne => ?_⟩⟩
        · obtain ⟨i, hi⟩ := List.mem_iff_getElem?.1 he
          obtain ⟨j, hj⟩ := List.mem_iff_getElem?.1 hc
          exact ((q6 _ _ (get i e hi)).2 j c hj).1
        · obtain ⟨q, hq⟩ := List.mem_iff_getElem?.1 hv
          exact (h4 q v hq).1
        · rcases hor with hc0 | ⟨ha, _⟩
          · exfalso
            apply hne
            apply List.eq_nil_of_length_eq_zero
            omega
          · exact ⟨_, ha, rfl, fun q v hqv => by
              have := (h4 q v hqv).2
              rw [Nat.zero_mul, Nat.zero_add] at this
              exact this⟩
      · cases hl
  · exact absurd rfl (hx _)
  · cases hl
/-- What may be appended. -/
theorem aSrc_ok (hs : SR B w0 σ h w) {n : Nat} {tx : TypeId} {x : AV} {cx : Value} {es : List (List AV)} (hl : aRow h n x = some es) (hv : VR σ w (Held σ h) B x cx)
    (hk : (∃ l, x = .str l) → P.underlying tx = some .string) (hk2 : (∀ l, x ≠ .str l) → ∃ e, P.underlying tx = some (.slice e)) :
    ∃ vs, Src P n tx cx es.length vs w ∧ VRs σ w (Held σ h) B es.flatten vs ∧ (∀ e ∈ es, ∀ a ∈ e, a.one = true) ∧ (∀ e ∈ es, e.length = n) := by
  by_cases hx : ∃ l, x = .str l
  · obtain ⟨l, rfl⟩ := hx
    simp only [aRow] at hl
    split at hl <;> try cases hl
    rename_i h1
    subst h1
    cases hv with
    | str s hb =>
    refine ⟨byteCells s, ?_, ?_, fun e he a ha => ?_, fun e he => ?_⟩
    · have := Src.ofString (P := P) w (tx := tx) (hk ⟨_, rfl⟩) s
      have e1 : ((octs s).map fun c => [AV.int .u8 c]).length = s.size := by
        rw [List.length_map]
        unfold octs
        rw [List.length_map, Array.length_toList]
        rfl
      rw [e1]
      exact this
    · have e2 : ((octs s).map fun c => [AV.int .u8 c]).flatten = s.data.toList.map fun b => AV.int .u8 (b.toNat : Int) := by
        unfold octs
        rw [List.map_map]
        induction s.data.toList with
        | nil => rfl
        | cons b l ih => simp [ih]
      rw [e2]
      refine ⟨by simp [byteCells], fun j c v hc hv => ?_⟩
      unfold byteCells at hv
      rw [List.getElem?_map] at hc hv
      cases hb : s.data.toList[j]? with
      | none => simp [hb] at hc
      | some b =>
        simp only [hb, Option.map_some, Option.some.injEq] at hc hv
        subst hc hv
        refine .int _ _ ⟨?_, ?_⟩
        · simp [IntKind.min, IntKind.signed]
        · have := b.toNat_lt
          simp [IntKind.max, IntKind.signed, IntKind.bits]
          omega
    · obtain ⟨c, _, rfl⟩ := List.mem_map.1 he
      simp at ha
      subst ha
      rfl
    · obtain ⟨c, _, rfl⟩ := List.mem_map.1 he
      rfl
  · obtain ⟨a, cap, vs, rfl, hr⟩ := aRow_ok hs hl hv (fun l e => hx ⟨l, e⟩)
    obtain ⟨e', he'⟩ := hk2 (fun l e => hx ⟨l, e⟩)
    refine ⟨vs, ?_, hr.rel, hr.one, hr.szs⟩
    cases a with
    | none =>
      have h0 : es = [] := by
        apply Classical.byContradiction
        intro hne
        obtain ⟨ad, h1, _⟩ := hr.at_ hne
        cases h1
      subst h0
      have hv0 : vs = [] := by
        have := hr.rel.1
        simp at this
        exact List.eq_nil_of_length_eq_zero this.symm
      subst hv0
      exact Src.ofNil w he' cap
    | some ad =>
      refine Src.ofSlice w he' ad es.length cap vs hr.length (fun j u hu => ?_) hr.cell
      have hne : es ≠ [] := by
        rintro rfl
        have := hr.length
        have hj := (List.getElem?_eq_some_iff.1 hu).1
        simp at this
        subst this
        simp at hj
      obtain ⟨ad', h1, h2, h3⟩ := hr.at_ hne
      cases h1
      obtain ⟨b, o, sp⟩ := ad
      cases h2
      rw [Addr.add_none]
      exact h3 j u hu
end
end Go.Proofs.YtjidgdfdeckofaaDoor.AE
/- append, copy, clear, on abstract values; and that the model's do the like. No program in sight. -/
namespace Go.Proofs.YtjidgdfdeckofaaDoor.AE
open Go Go.RowKit
set_option linter.unusedVariables false
set_option linter.unusedSimpArgs false
variable {P : Program}
section
variable {B : Nat} {w0 w w' : World} {σ : Sig} {h h' : AHeap} {k : Nat}
theorem setCells_below {r : Nat} (hr : B ≤ r) : ∀ (vs : List Value) (o : Nat) (u : World), Below B w u → Below B w (u.setCells r o vs)
  | [], _, _, hu => hu
  | v :: vs, o, u, hu => setCells_below hr vs (o + 1) _ (hu.setCell hr v)
/-- A row is appended to in its place: its block is given up for one that begins where the row does. -/
theorem SR.inPlace (hs : SR B w0 σ h w) (hk : σ k = none) {m off len cap n : Nat} {kb : Blk} {r : Rng} (hh : h m = some kb) (hr : σ m = some r) (hsz : kb.sz = n) (hol : off + len ≤ kb.es.length) (hroom : (off + cap) * n ≤ r.c)
    {ys : List (List AV)} {news : List Value} (hy : VRs σ w (Held σ h) B ys.flatten news) (hy1 : ∀ e ∈ ys, ∀ a ∈ e, a.one = true) (hyn : ∀ e ∈ ys, e.length = n) (hfit : len + ys.length ≤ cap) (hbig : len + ys.length < big) :
    w.there r.b (r.o + off * n + len * n) news.length ∧ Out B w0 σ h w k (k + 1) (.hs k 0 (len + ys.length)) (upd (upd h m none) k (some ⟨n, (kb.es.drop off).take len ++ ys⟩))
      (.slice (some ⟨r.b, r.o + off * n, none⟩) (len + ys.length) cap) (w.setCells r.b (r.o + off * n + len * n) news) := by
  obtain ⟨r', q1, q2, q3, q4, q4', q5, q6⟩ := hs.blk m kb hh
  rw [hr] at q1
  cases q1
  have hnl : news.length = ys.length * n := by rw [← hy.1, flatten_length hyn]
  rw [hsz] at q2 q4 q6
  have hmul : (len + ys.length) * n ≤ cap * n := Nat.mul_le_mul_right _ hfit
  have ea : (off + cap) * n = off * n + cap * n := Nat.add_mul _ _ _
  have eb : (len + ys.length) * n = len * n + ys.length * n := Nat.add_mul _ _ _
  have hin : ∀ i, r.o + off * n ≤ i → i < r.o + off * n + cap * n → r.has r.b i := fun i h1 h2 => ⟨rfl, by omega, by omega⟩
  have hthere : w.there r.b (r.o + off * n + len * n) news.length := fun i hi => q5 _ (hin _ (by omega) (by omega))
  have hsome : ∀ i, i < news.length → (w.cell? ⟨r.b, r.o + off * n + len * n + i, none⟩).isSome = true := fun i hi => (hthere i hi).1
  have hxl : ((kb.es.drop off).take len).length = len := by simp; omega
  have get : ∀ (i : Nat) (e : List AV), i < len → ((kb.es.drop off).take len)[i]? = some e → kb.es[off + i]? = some e := fun i e hi he => by
    rwa [List.getElem?_take, if_pos hi, List.getElem?_drop] at he
  have := hs.turn (w' := w.setCells r.b (r.o + off * n + len * n) news) (fun i => decide (i = m)) k ⟨r.b, r.o + off * n, cap * n, n⟩ ⟨n, (kb.es.drop off).take len ++ ys⟩ (.inl hk) (setCells_below q3 _ _ _ (Below.refl _ _))
    (fun b i v hv hx => by
      rw [World.cell?_setCells_out]
      · exact hv
      · intro hb _
        simp only at hb
        subst hb
        by_cases hq : r.has r.b i
        · exact absurd hq (hx m r (by simp) (by rw [hh]; rfl) hr)
        · have q8 : ¬ (r.o ≤ i ∧ i < r.o + r.c) := fun q => hq ⟨rfl, q.1, q.2⟩
          show i < _ ∨ _ ≤ i
          omega)
    (fun b i hb => World.frozen?_setCells _ _ _ _ _) (setCells_oth _ _ _) q3
    (fun i hi => by
      obtain ⟨_, hi1, hi2⟩ := hi
      have hi3 := hin i hi1 hi2
      refine ⟨?_, by rw [World.frozen?_setCells]; exact (q5 i hi3).2, .inr ⟨m, r, by simp, by rw [hh]; rfl, hr, hi3⟩⟩
      by_cases hq : r.o + off * n + len * n ≤ i ∧ i < r.o + off * n + len * n + news.length
      · obtain ⟨x, rfl⟩ : ∃ x, i = r.o + off * n + len * n + x := ⟨i - (r.o + off * n + len * n), by omega⟩
        rw [World.cell?_setCells_in _ _ _ _ hsome x (by omega)]
        rfl
      · rw [World.cell?_setCells_out]
        · exact (q5 i hi3).1
        · intro _ _
          show i < _ ∨ _ ≤ i
          omega) rfl (by simp only [List.length_append, hxl]; exact hmul) (by simp only [List.length_append, hxl]; exact hbig)
    (fun i e he => by
      by_cases hi : i < len
      · rw [List.getElem?_append_left (by omega)] at he
        obtain ⟨h1, h2⟩ := q6 _ _ (get i e hi he)
        refine ⟨h1, fun j a ha => ?_⟩
        obtain ⟨h3, v, h4, h5, h6⟩ := h2 j a ha
        refine ⟨h3, v, h4, ?_, h6⟩
        have hj := (List.getElem?_eq_some_iff.1 ha).1
        have ec : (off + i) * n = off * n + i * n := Nat.add_mul _ _ _
        have ed : (i + 1) * n ≤ len * n := Nat.mul_le_mul_right _ hi
        rw [Nat.succ_mul] at ed
        rw [World.cell?_setCells_out]
        · show w.cell? ⟨r.b, r.o + off * n + i * n + j, none⟩ = some v
          rw [show r.o + off * n + i * n + j = r.o + (off + i) * n + j by omega]
          exact h5
        · intro _ _
          show r.o + off * n + i * n + j < _ ∨ _
          omega
      · rw [List.getElem?_append_right (by omega), hxl] at he
        have hen := hyn e (List.mem_of_getElem? he)
        refine ⟨hen, fun j a ha => ?_⟩
        have hf := flatten_get hyn he ha
        obtain ⟨v, h3, h4⟩ := hy.get hf
        have ho := hy1 e (List.mem_of_getElem? he) a (List.mem_of_getElem? ha)
        refine ⟨ho, v, h4.oneCell ho, ?_, h4⟩
        have hlt := (List.getElem?_eq_some_iff.1 h3).1
        have ee : i * n = len * n + (i - len) * n := by rw [← Nat.add_mul]; congr 1; omega
        show (w.setCells _ _ _).cell? ⟨r.b, r.o + off * n + i * n + j, none⟩ = some v
        rw [show r.o + off * n + i * n + j = r.o + off * n + len * n + ((i - len) * n + j) by omega, World.cell?_setCells_in _ _ _ _ hsome _ hlt]
        rw [List.getElem?_eq_getElem hlt] at h3
        exact h3)
  rw [kill_eq] at this
  refine ⟨hthere, _, this.1, fun i hi => upd_ne _ _ _ (by omega), this.2, ?_⟩
  exact .hs k 0 _ _ cap ⟨r.b, r.o + off * n, cap * n, n⟩ (upd_same _ _ _) hfit hbig (.inr ⟨by simp, by simp⟩)
/-- A row that is empty and has no room, named anew. -/
theorem SR.noRoom (hs : SR B w0 σ h w) (hk : σ k = none) (x : AV) (a : Option Addr) (n : Nat) :
    Out B w0 σ h w k (k + 1) (.hs k 0 0) (upd (killT h x) k (some ⟨n, []⟩)) (.slice a 0 0) w := by
  have key : ∀ D : Nat → Bool, Out B w0 σ h w k (k + 1) (.hs k 0 0) (upd (fun i => if D i = true then none else h i) k (some ⟨n, []⟩)) (.slice a 0 0) w := fun D => by
    have := hs.turn (w' := w) D k ⟨B, 0, 0, n⟩ ⟨n, []⟩ (.inl hk) (Below.refl _ _) (fun b i v hv _ => hv) (fun _ _ _ => rfl) (.refl _) (Nat.le_refl _)
      (fun i hi => absurd hi.2.2 (by have := hi.2.1; simp)) rfl (by simp) (by simp [big]) (fun i e he => by simp at he)
    exact ⟨_, this.1, fun i hi => upd_ne _ _ _ (by omega), this.2, .hs k 0 0 _ 0 ⟨B, 0, 0, n⟩ (upd_same _ _ _) (Nat.le_refl _) (by simp [big]) (.inl rfl)⟩
  cases x
  case hs m off len =>
    have := key fun i => decide (i = m)
    rwa [kill_eq] at this
  all_goals exact key fun _ => false
/-- A row is copied to a new one. -/
theorem SR.grown (hs : SR B w0 σ h w) (hk : σ k = none) (x : AV) {n need : Nat} {es : List (List AV)} {vs rest : List Value} (t : TypeId) (hv : VRs σ w (Held σ h) B es.flatten vs) (h1 : ∀ e ∈ es, ∀ a ∈ e, a.one = true) (hn : ∀ e ∈ es, e.length = n) (hbig : es.length < big)
    {cap : Nat} (hcap : es.length ≤ cap) (hrest : cap * n ≤ (vs ++ rest).length) :
    Out B w0 σ h w k (k + 1) (.hs k 0 es.length) (upd (killT h x) k (some ⟨n, es⟩)) (.slice (some ⟨w.heap.size, 0, none⟩) es.length cap) (w.drew.alloc (.cells (vs ++ rest).toArray t)) := by
  obtain ⟨d1, d2⟩ := hs.drew (w.drawn + 1)
  have hdw : ({ w with drawn := w.drawn + 1 } : World) = w.drew := rfl
  rw [hdw] at d1 d2
  have key : ∀ D : Nat → Bool, Out B w0 σ h w k (k + 1) (.hs k 0 es.length) (upd (fun i => if D i = true then none else h i) k (some ⟨n, es⟩)) (.slice (some ⟨w.heap.size, 0, none⟩) es.length cap) (w.drew.alloc (.cells (vs ++ rest).toArray t)) := fun D => by
    obtain ⟨e1, e2⟩ := d1.drop D
    obtain ⟨f1, f2⟩ := e1.row k hk es n hn hbig vs rest t ⟨hv.1, fun j c v hc hw => e2 _ _ (d2 _ _ (hv.2 j c v hc hw))⟩ h1
    exact ⟨_, f1, fun i hi => upd_ne _ _ _ (by omega), d2.trans (e2.trans f2), VR.row hcap hbig hrest⟩
  cases x
  case hs m off len =>
    have := key fun i => decide (i = m)
    rwa [kill_eq] at this
  all_goals exact key fun _ => false
end
/-! ### append -/
/-- What is appended: a row's elements, a string's octets, or so many zeros. -/
def aNews (P : Program) (h : AHeap) (e : TypeId) (n : Nat) (tx : TypeId) (y : AV) : Option (List (List AV)) :=
  match P.underlying tx, y with
  | some (.int _), .int _ m => (zeroT P e).bind fun zs => if 0 ≤ m ∧ m < 4611686018427387904 ∧ zs.length = n ∧ zs.all AV.one = true then some (List.replicate m.toNat zs) else none
  | some .string, .str l => aRow h n (.str l)
  | some (.slice _), .str _ => none
  | some (.slice _), y => aRow h n y
  | _, _ => none
def AV.mayGrow : AV → Bool
  | .zs | .hs .. => true
  | _ => false
def aAppend (P : Program) (h : AHeap) (k : Nat) (t tx : TypeId) (x y : AV) : Option (AV × AHeap) :=
  match P.underlying t with
  | some (.slice e) => (sizeT P e).bind fun n => (byteT P e).bind fun by_ => (aRow h n x).bind fun xs => (aNews P h e n tx y).bind fun ys => (zeroT P e).bind fun zs =>
      if (xs.length + ys.length) * by_ ≤ 140737488355328 ∧ xs.length + ys.length < 4611686018427387904 ∧ x.mayGrow = true ∧ 0 < n ∧ zs.length = n then
        some (.hs k 0 (xs.length + ys.length), upd (killT h x) k (some ⟨n, xs ++ ys⟩)) else none
  | _ => none
/-- What the model's append does with its second argument. -/
structure News (P : Program) (w : World) (t tx e : TypeId) (i : TypeInfo) (cy : Value) (m : Nat) (news : List Value) : Prop where
  nothing : m = 0 → ∀ (ty : TypeId) (a : Option Addr) (len cap : Nat), len ≤ cap → (Builtin.append_ #[t, tx] ty #[.slice a len cap, cy]).run P w = .ok (.slice a len cap) w
  room : ∀ (ty : TypeId) (b off len cap : Nat), len + m ≤ cap → (∀ j, j < news.length → (w.cell? ⟨b, off + len * i.size + j, none⟩).isSome = true) → (∀ j, j < news.length → w.frozen? ⟨b, off + len * i.size + j, none⟩ = false) →
    (Builtin.append_ #[t, tx] ty #[.slice (some ⟨b, off, none⟩) len cap, cy]).run P w = .ok (.slice (some ⟨b, off, none⟩) (len + m) cap) (w.setCells b (off + len * i.size) news)
  grow : ∀ (ty : TypeId) (z : Value) (a : Option Addr) (len cap : Nat) (olds : List Value), i.zero = some z → (Builtin.firstCells i.size len (.slice a len cap)).run P w.drew = .ok olds.toArray w.drew → len ≤ cap → cap < len + m → ((len + m : Nat) : Int) ≤ 9223372036854775807 → m * i.bytes ≤ 281474976710656 →
    Builtin.nextslicecap (len + m) cap * i.bytes ≤ 281474976710656 → (Builtin.append_ #[t, tx] ty #[.slice a len cap, cy]).run P w =
      .ok (.slice (some ⟨w.heap.size, 0, none⟩) (len + m) (grownCap w (len + m) cap e)) (w.drew.alloc (.cells ((olds ++ news).toArray ++ Builtin.zeroCells z.cells (grownCap w (len + m) cap e - (len + m))) e))
section
variable {B : Nat} {w0 w : World} {σ : Sig} {h h' : AHeap} {k : Nat}
theorem News.ofSrc {t tx e : TypeId} {i : TypeInfo} {cy : Value} {m : Nat} {news : List Value} (ht : P.underlying t = some (.slice e)) (hi : P.info? e = some i) (hs : Src P i.size tx cy m news w) : News P w t tx e i cy m news where
  nothing := fun h0 ty a len cap hle => by
    subst h0
    have hn : news = [] := by have := hs.newsLen; simpa using this
    subst hn
    rcases hs.kind with ⟨e', hk⟩ | hk <;> (simp [Builtin.append_, run_underlying ht, run_underlying hk, sizeOf, typeInfo, hi, hs.len, hle, hs.cells]; cases a <;> simp [storeCells])
  room := fun ty b off len cap hfit hc hf => run_append_room_src w t tx ty e i ht hi b off len cap cy m news hs hfit hc hf
  grow := fun ty z a len cap olds hz hold _ hg h63 _ hfit => run_append_grow_src w t tx ty e i z ht hi hz a len cap olds hold cy m news hs hg h63 hfit
theorem News.ofZeros {t tx e : TypeId} {i : TypeInfo} {z : Value} {kn kq : IntKind} {m : Nat} (ht : P.underlying t = some (.slice e)) (htx : P.underlying tx = some (.int kn)) (hi : P.info? e = some i) (hz : i.zero = some z) (hsz : i.size = z.cells.size) (h0 : 0 < i.size) (h1 : ∀ v ∈ z.cells.toList, v.oneCell' = true) (hm : m < 4611686018427387904) (h48 : m * i.bytes ≤ 281474976710656) :
    News P w t tx e i (.int kq m) m (List.replicate m z.cells.toList).flatten where
  nothing := fun h0 ty a len cap hle => by
    subst h0
    have hw : IntKind.i64.wrap 0 = 0 := by decide
    simp [Builtin.append_, run_underlying ht, run_underlying htx, sizeOf, typeInfo, hi, asInt, asIntOf, hle, hw]
    cases a <;> simp [storeCells]
  room := fun ty b off len cap hfit hc hf => by
    have hw : IntKind.i64.wrap (m : Int) = m := by rw [IntKind.wrap_i64]; omega
    have h48i : ¬ (281474976710656 < (m : Int) * (i.bytes : Int)) := by
      rw [← Int.natCast_mul]
      omega
    have hneg : ¬ ((m : Int) < 0) := by omega
    have hzc : (Builtin.zeroCells z.cells m).toList = (List.replicate m z.cells.toList).flatten := by
      unfold Builtin.zeroCells
      rw [zeros_flatten, Array.toList_map, Array.toList_range]
      simp [getElem!_def]
    have hst := run_storeCells_cells (P := P) b (off + len * i.size) (List.replicate m z.cells.toList).flatten 0 w (by simpa using hc) (by simpa using hf) (fun v hv => by
      obtain ⟨l, hl, hv⟩ := List.mem_flatten.1 hv
      rw [(List.mem_replicate.1 hl).2] at hv
      exact h1 v hv)
    simp only [Nat.add_zero] at hst
    by_cases hm0 : m = 0
    · subst hm0
      have hw0 : IntKind.i64.wrap 0 = 0 := by decide
      simp at hfit
      simp [Builtin.append_, run_underlying ht, run_underlying htx, sizeOf, typeInfo, hi, asInt, asIntOf, hw0, hfit, Addr.add_lit, storeCells, World.setCells]
    · have hns : ¬ (m * i.size = 0) := Nat.mul_ne_zero hm0 (by omega)
      simp [Builtin.append_, run_underlying ht, run_underlying htx, sizeOf, typeInfo, zeroValue, hi, hz, asInt, asIntOf, hw, hneg, h48i, hns, hfit, Addr.add_lit, hzc, hst]
  grow := fun ty z' a len cap olds hz' hold hlc hg h63 h48' hfit => by
    rw [hz] at hz'
    cases hz'
    by_cases hm0 : m = 0
    · subst hm0
      omega
    · rw [Go.Lib.run_append_grow_zeros w t tx ty e i z kq kn ht htx hi hz a len cap olds hold m (by omega) h0 hg h63 h48 hfit]
      congr 3
      have hzc : (Builtin.zeroCells z.cells m) = (List.replicate m z.cells.toList).flatten.toArray := by
        apply Array.ext'
        unfold Builtin.zeroCells
        rw [zeros_flatten, Array.toList_map, Array.toList_range]
        simp [getElem!_def]
      rw [hzc]
      simp
theorem aNews_ok (hs : SR B w0 σ h w) {t tx e : TypeId} {i : TypeInfo} {n : Nat} {y : AV} {cy : Value} {ys : List (List AV)} (ht : P.underlying t = some (.slice e)) (hi : P.info? e = some i) (hin : i.size = n) (h0 : 0 < n) (hl : aNews P h e n tx y = some ys) (hv : VR σ w (Held σ h) B y cy)
    (hb : ys.length * i.bytes ≤ 281474976710656) :
    ∃ news, News P w t tx e i cy ys.length news ∧ VRs σ w (Held σ h) B ys.flatten news ∧ (∀ e ∈ ys, ∀ a ∈ e, a.one = true) ∧ (∀ e ∈ ys, e.length = n) := by
  unfold aNews at hl
  split at hl
  · rename_i kn kq m hu
    cases hv
    simp only [Option.bind_eq_some_iff] at hl
    obtain ⟨zs, hz, hl⟩ := hl
    split at hl
    · rename_i hq
      obtain ⟨h1, h2, h3, h4⟩ := hq
      cases hl
      unfold zeroT at hz
      simp only [Option.bind_eq_some_iff, Option.map_eq_some_iff] at hz
      obtain ⟨z, ⟨i', hi', hz⟩, rfl⟩ := hz
      rw [hi] at hi'
      cases hi'
      simp only [List.length_map, Array.length_toList] at h3
      have hcells : ∀ v ∈ z.cells.toList, v.oneCell' = true := fun v hv => by
        obtain ⟨j, hj⟩ := List.mem_iff_getElem?.1 hv
        have h5 : (z.cells.toList.map avOf1)[j]? = some (avOf1 v) := by rw [List.getElem?_map, hj]; rfl
        exact (VR.of1 (σ := σ) (w := w) (X := Held σ h) (B := B) v).oneCell (List.all_eq_true.1 h4 _ (List.mem_of_getElem? h5))
      have hm : ((m.toNat : Nat) : Int) = m := by omega
      have := News.ofZeros (w := w) (kq := kq) (m := m.toNat) ht hu hi hz (by rw [hin, h3]) (by omega) hcells (by omega) (by simpa using hb)
      rw [hm] at this
      refine ⟨_, by simpa using this, (VRs.of1 _).replicate _, fun e he a ha => ?_, fun e he => ?_⟩
      · rw [(List.mem_replicate.1 he).2] at ha
        exact List.all_eq_true.1 h4 a ha
      · rw [(List.mem_replicate.1 he).2]
        simpa using h3
    · cases hl
  · rename_i l hu
    obtain ⟨vs, h1, h2, h3, h4⟩ := aSrc_ok (P := P) (tx := tx) hs hl hv (fun _ => hu) (fun hx => absurd rfl (hx l))
    exact ⟨vs, News.ofSrc ht hi (hin ▸ h1), h2, h3, h4⟩
  · cases hl
  · rename_i _ e' hu hne
    obtain ⟨vs, h1, h2, h3, h4⟩ := aSrc_ok (P := P) (tx := tx) hs hl hv (fun ⟨l, hx⟩ => absurd hx (hne l)) (fun _ => ⟨e', hu⟩)
    exact ⟨vs, News.ofSrc ht hi (hin ▸ h1), h2, h3, h4⟩
  · cases hl
theorem aAppend_ok (hs : SR B w0 σ h w) (hk : σ k = none) {t tx ty : TypeId} {x y v : AV} {cx cy : Value} (hl : aAppend P h k t tx x y = some (v, h')) (hx : VR σ w (Held σ h) B x cx) (hy : VR σ w (Held σ h) B y cy) :
    ∃ cv w', (Builtin.append_ #[t, tx] ty #[cx, cy]).run P w = .ok cv w' ∧ Out B w0 σ h w k (k + 1) v h' cv w' := by
  unfold aAppend at hl
  cases ht : P.underlying t with
  | none => simp [ht] at hl
  | some d =>
  cases d <;> simp only [ht] at hl <;> try (cases hl; done)
  rename_i e
  simp only [Option.bind_eq_some_iff] at hl
  obtain ⟨n, hn, by_, hby, xs, hxs, ys, hys, zs, hzs, hl⟩ := hl
  split at hl
  · rename_i hq
    obtain ⟨q1, q2, q3, q4, q5⟩ := hq
    cases hl
    unfold zeroT at hzs
    simp only [Option.bind_eq_some_iff, Option.map_eq_some_iff] at hzs
    obtain ⟨z, ⟨i, hi, hz⟩, rfl⟩ := hzs
    have hin : i.size = n := by simpa [sizeT, hi] using hn
    have hib : i.bytes = by_ := by simpa [byteT, hi] using hby
    have hyb : ys.length * i.bytes ≤ 140737488355328 := Nat.le_trans (Nat.mul_le_mul_right _ (Nat.le_add_left _ xs.length)) (hib ▸ q1)
    obtain ⟨news, hN, hyr, hy1, hyn⟩ := aNews_ok hs ht hi hin q4 hys hy (by omega)
    obtain ⟨a, cap, vs, rfl, hR⟩ := aRow_ok hs hxs hx (fun l e => by subst e; cases q3)
    by_cases hg : cap < xs.length + ys.length
    · -- a new row
      have hcg := grownCap_ge w (xs.length + ys.length) cap e
      have hold : (Builtin.firstCells i.size xs.length (.slice a xs.length cap)).run P w.drew = .ok vs.toArray w.drew := by
        by_cases hne : xs = []
        · subst hne
          have hv0 : vs = [] := List.eq_nil_of_length_eq_zero (by have := hR.length; simpa using this)
          subst hv0
          cases a <;> simp [Builtin.firstCells, loadCells, loadCellsFrom]
        · obtain ⟨ad, rfl, hsp, hat⟩ := hR.at_ hne
          obtain ⟨b, o, sp⟩ := ad
          cases hsp
          exact run_firstCells_some w.drew i.size xs.length ⟨b, o, none⟩ xs.length cap vs (by rw [hin]; exact hR.length) (fun j v hj => by
            rw [Addr.add_none]
            exact hat j v hj)
      have hrun := hN.grow ty z a xs.length cap vs hz hold hR.cap hg (by omega) (by omega) (growslice_fits hg (by rw [hib]; exact q1))
      have hcc : (vs ++ news).toArray ++ Builtin.zeroCells z.cells (grownCap w (xs.length + ys.length) cap e - (xs.length + ys.length)) = ((vs ++ news) ++ (Builtin.zeroCells z.cells (grownCap w (xs.length + ys.length) cap e - (xs.length + ys.length))).toList).toArray := by
        apply Array.ext'
        simp
      rw [hcc] at hrun
      refine ⟨_, _, hrun, ?_⟩
      have hzsz : z.cells.size = n := by simpa using q5
      have := hs.grown hk x (n := n) (need := 0) (es := xs ++ ys) (vs := vs ++ news) (rest := (Builtin.zeroCells z.cells (grownCap w (xs.length + ys.length) cap e - (xs.length + ys.length))).toList) (cap := grownCap w (xs.length + ys.length) cap e) e
        (by rw [List.flatten_append]; exact hR.rel.append hyr) (fun e he => (List.mem_append.1 he).elim (hR.one e) (hy1 e)) (fun e he => (List.mem_append.1 he).elim (hR.szs e) (hyn e)) (by rw [List.length_append]; unfold big; omega) (by rw [List.length_append]; exact hcg) (by
          have e1 := hR.length
          have e2 : news.length = ys.length * n := by rw [← hyr.1, flatten_length hyn]
          simp only [List.length_append, Array.length_toList, size_zeroCells, hzsz]
          rw [e1, e2, ← Nat.add_mul, ← Nat.add_mul]
          exact Nat.mul_le_mul_right _ (by omega))
      simpa using this
    · by_cases hnil : ys = []
      · subst hnil
        have hrun := hN.nothing rfl ty a xs.length cap hR.cap
        cases x with
        | zs =>
          simp only [aRow, Option.some.injEq] at hxs
          subst hxs
          cases hx
          exact ⟨_, _, hrun, by simpa using hs.noRoom hk .zs a n⟩
        | hs m off len =>
          by_cases hc0 : cap = 0
          · subst hc0
            have hx0 : xs = [] := List.eq_nil_of_length_eq_zero (by have := hR.cap; omega)
            subst hx0
            exact ⟨_, _, hrun, by simpa using hs.noRoom hk (.hs m off len) a n⟩
          · simp only [aRow, Option.bind_eq_some_iff] at hxs
            obtain ⟨kb, hh, hxs⟩ := hxs
            split at hxs <;> try (cases hxs; done)
            rename_i hq
            cases hxs
            have hlen : ((kb.es.drop off).take len).length = len := by simp; omega
            rw [hlen] at hx hrun hg ⊢
            cases hx with
            | hs _ _ _ _ _ r hr hcap hb hor =>
            rcases hor with hor | ⟨rfl, hor⟩
            · exact absurd hor hc0
            · obtain ⟨r', q6, q7, _⟩ := hs.blk m kb hh
              rw [hr] at q6
              cases q6
              have hrs : r.sz = n := by rw [q7, hq.1]
              rw [hrs] at hor hrun ⊢
              have := (hs.inPlace hk hh hr hq.1 hq.2 hor (cap := cap) (ys := []) (news := []) (by simpa using VRs.nil) (by simp) (by simp) (by simp; omega) (by simp; omega)).2
              refine ⟨_, _, hrun, ?_⟩
              simpa [World.setCells, killT] using this
        | _ => cases q3
      · -- room
        cases x with
        | zs =>
          simp only [aRow, Option.some.injEq] at hxs
          subst hxs
          cases hx
          have : 0 < ys.length := List.length_pos_iff.2 hnil
          exact absurd (by simpa using this) hg
        | hs m off len =>
          have hyp : 0 < ys.length := List.length_pos_iff.2 hnil
          simp only [aRow, Option.bind_eq_some_iff] at hxs
          obtain ⟨kb, hh, hxs⟩ := hxs
          split at hxs <;> try (cases hxs; done)
          rename_i hq
          cases hxs
          have hlen : ((kb.es.drop off).take len).length = len := by simp; omega
          rw [hlen] at hx hg q2 ⊢
          cases hx with
          | hs _ _ _ _ _ r hr hcap hb hor =>
          rcases hor with hor | ⟨rfl, hor⟩
          · omega
          · obtain ⟨r', q6, q7, _⟩ := hs.blk m kb hh
            rw [hr] at q6
            cases q6
            have hrs : r.sz = n := by rw [q7, hq.1]
            rw [hrs] at hor ⊢
            obtain ⟨hthere, hout⟩ := hs.inPlace hk hh hr hq.1 hq.2 hor (cap := cap) hyr hy1 hyn (by omega) (by unfold big; omega)
            have hrun := hN.room ty r.b (r.o + off * n) len cap (by omega) (fun j hj => by rw [hin]; exact (hthere j hj).1) (fun j hj => by rw [hin]; exact (hthere j hj).2)
            rw [hin] at hrun
            exact ⟨_, _, hrun, by simpa [killT] using hout⟩
        | _ => cases q3
  · cases hl
end
end Go.Proofs.YtjidgdfdeckofaaDoor.AE
/- copy and clear, on abstract values; and that the model's do the like. No program in sight. -/
namespace Go.Proofs.YtjidgdfdeckofaaDoor.AE
open Go Go.RowKit
set_option linter.unusedVariables false
set_option linter.unusedSimpArgs false
variable {P : Program}
def rowPut (l : List (List AV)) (off : Nat) (ys : List (List AV)) : List (List AV) := l.take off ++ ys ++ l.drop (off + ys.length)
theorem rowPut_length {l ys : List (List AV)} {off : Nat} (h : off + ys.length ≤ l.length) : (rowPut l off ys).length = l.length := by simp [rowPut]; omega
theorem rowPut_get {l ys : List (List AV)} {j : Nat} (h : j + ys.length ≤ l.length) (i : Nat) (a : List AV) (hi : (rowPut l j ys)[i]? = some a) :
    (j ≤ i ∧ i < j + ys.length ∧ ys[i - j]? = some a) ∨ ((i < j ∨ j + ys.length ≤ i) ∧ l[i]? = some a) := by
  unfold rowPut at hi
  by_cases h1 : i < j
  · rw [List.append_assoc, List.getElem?_append_left (by simp; omega), List.getElem?_take, if_pos h1] at hi
    exact .inr ⟨.inl h1, hi⟩
  · by_cases h2 : i < j + ys.length
    · rw [List.append_assoc, List.getElem?_append_right (by simp; omega), List.getElem?_append_left (by simp; omega)] at hi
      exact .inl ⟨by omega, h2, by rw [show (l.take j).length = j by simp; omega] at hi; exact hi⟩
    · rw [List.getElem?_append_right (by simp; omega), List.getElem?_drop] at hi
      refine .inr ⟨.inr (by omega), ?_⟩
      rw [show j + ys.length + (i - (l.take j ++ ys).length) = i by simp; omega] at hi
      exact hi
section
variable {B : Nat} {w0 w w' : World} {σ : Sig} {h h' : AHeap} {k : Nat}
/-- Whole elements of an owned row are written. -/
theorem SR.put (hs : SR B w0 σ h w) {m off n : Nat} {kb : Blk} {r : Rng} (hh : h m = some kb) (hr : σ m = some r) (hsz : kb.sz = n) {ys : List (List AV)} (hfit : off + ys.length ≤ kb.es.length) {news : List Value}
    (hy : VRs σ w (Held σ h) B ys.flatten news) (hy1 : ∀ e ∈ ys, ∀ a ∈ e, a.one = true) (hyn : ∀ e ∈ ys, e.length = n) :
    w.there r.b (r.o + off * n) news.length ∧ SR B w0 σ (upd h m (some ⟨n, rowPut kb.es off ys⟩)) (w.setCells r.b (r.o + off * n) news) ∧
      Kv σ w (Held σ h) B σ (w.setCells r.b (r.o + off * n) news) (Held σ (upd h m (some ⟨n, rowPut kb.es off ys⟩))) := by
  obtain ⟨r', q1, q2, q3, q4, q4', q5, q6⟩ := hs.blk m kb hh
  rw [hr] at q1
  cases q1
  have hnl : news.length = ys.length * n := by rw [← hy.1, flatten_length hyn]
  rw [hsz] at q2 q4 q6
  have hmul : (off + ys.length) * n ≤ kb.es.length * n := Nat.mul_le_mul_right _ hfit
  rw [Nat.add_mul] at hmul
  have hin : ∀ i, i < news.length → r.has r.b (r.o + off * n + i) := fun i hi => ⟨rfl, by omega, by omega⟩
  have hthere : w.there r.b (r.o + off * n) news.length := fun i hi => q5 _ (hin i hi)
  have hsome : ∀ i, i < news.length → (w.cell? ⟨r.b, r.o + off * n + i, none⟩).isSome = true := fun i hi => (hthere i hi).1
  have hupd : upd (fun i => if decide (i = m) = true then none else h i) m (some ⟨n, rowPut kb.es off ys⟩) = upd h m (some ⟨n, rowPut kb.es off ys⟩) := by
    funext i
    unfold upd
    split
    · rfl
    · simp [*]
  have hσ : upd σ m (some r) = σ := by
    funext i
    unfold upd
    split
    · subst_vars; exact hr.symm
    · rfl
  have := hs.turn (w' := w.setCells r.b (r.o + off * n) news) (fun i => decide (i = m)) m r ⟨n, rowPut kb.es off ys⟩ (.inr ⟨by simp, hr⟩) (setCells_below q3 _ _ _ (Below.refl _ _))
    (fun b i v hv hx => by
      rw [World.cell?_setCells_out]
      · exact hv
      · intro hb _
        simp only at hb
        subst hb
        by_cases hq : r.has r.b i
        · exact absurd hq (hx m r (by simp) (by rw [hh]; rfl) hr)
        · have q8 : ¬ (r.o ≤ i ∧ i < r.o + r.c) := fun q => hq ⟨rfl, q.1, q.2⟩
          show i < _ ∨ _ ≤ i
          omega)
    (fun b i hb => World.frozen?_setCells _ _ _ _ _) (setCells_oth _ _ _) q3
    (fun i hi => ⟨by
        by_cases hq : r.o + off * n ≤ i ∧ i < r.o + off * n + news.length
        · obtain ⟨x, rfl⟩ : ∃ x, i = r.o + off * n + x := ⟨i - (r.o + off * n), by omega⟩
          rw [World.cell?_setCells_in _ _ _ _ hsome x (by omega)]
          rfl
        · rw [World.cell?_setCells_out]
          · exact (q5 i hi).1
          · intro _ _
            show i < _ ∨ _ ≤ i
            omega, by rw [World.frozen?_setCells]; exact (q5 i hi).2, .inr ⟨m, r, by simp, by rw [hh]; rfl, hr, hi⟩⟩) q2 (by simp only [rowPut_length hfit]; exact q4) (by simp only [rowPut_length hfit]; exact q4')
    (fun i e he => by
      rcases rowPut_get hfit i e he with ⟨h1, h2, h3⟩ | ⟨h1, h2⟩
      · have hen := hyn e (List.mem_of_getElem? h3)
        refine ⟨hen, fun j a ha => ?_⟩
        obtain ⟨v, h5, h6⟩ := hy.get (flatten_get hyn h3 ha)
        have ho := hy1 e (List.mem_of_getElem? h3) a (List.mem_of_getElem? ha)
        refine ⟨ho, v, h6.oneCell ho, ?_, h6⟩
        have hlt := (List.getElem?_eq_some_iff.1 h5).1
        have ee : i * n = off * n + (i - off) * n := by rw [← Nat.add_mul]; congr 1; omega
        show (w.setCells _ _ _).cell? ⟨r.b, r.o + i * n + j, none⟩ = some v
        rw [show r.o + i * n + j = r.o + off * n + ((i - off) * n + j) by omega, World.cell?_setCells_in _ _ _ _ hsome _ hlt]
        rw [List.getElem?_eq_getElem hlt] at h5
        exact h5
      · obtain ⟨h3, h4⟩ := q6 i e h2
        refine ⟨h3, fun j a ha => ?_⟩
        obtain ⟨h5, v, h6, h7, h8⟩ := h4 j a ha
        refine ⟨h5, v, h6, ?_, h8⟩
        have hj := (List.getElem?_eq_some_iff.1 ha).1
        rw [World.cell?_setCells_out]
        · exact h7
        · intro _ _
          show r.o + i * n + j < _ ∨ _ ≤ r.o + i * n + j
          rcases h1 with h1 | h1
          · have ed : (i + 1) * n ≤ off * n := Nat.mul_le_mul_right _ h1
            rw [Nat.succ_mul] at ed
            omega
          · have ed : (off + ys.length) * n ≤ i * n := Nat.mul_le_mul_right _ h1
            rw [Nat.add_mul] at ed
            omega)
  rw [hupd, hσ] at this
  exact ⟨hthere, this⟩
/-! ### copy -/
def aCopy (P : Program) (h : AHeap) (dT sT : TypeId) (x y : AV) : Option (AV × AHeap) :=
  match P.underlying dT, x with
  | some (.slice e), .hs m off len => (sizeT P e).bind fun n => (h m).bind fun kb => (aRow h n y).bind fun ys =>
      if kb.sz = n ∧ off + len ≤ kb.es.length then some (.int .i64 (min ys.length len : Nat), upd h m (some ⟨n, rowPut kb.es off (ys.take len)⟩)) else none
  | some (.slice e), .zs => (sizeT P e).bind fun n => (aRow h n y).bind fun ys => some (.int .i64 0, h)
  | _, _ => none
theorem InR_len {n : Nat} (h : n < big) : InR .i64 n := by
  unfold big at h
  constructor
  · simp [IntKind.min, IntKind.signed, IntKind.bits]
    try omega
  · simp [IntKind.max, IntKind.signed, IntKind.bits]
    omega
theorem flatten_take {n : Nat} : ∀ {es : List (List AV)} (c : Nat), (∀ e ∈ es, e.length = n) → (es.take c).flatten = es.flatten.take (c * n)
  | [], c, _ => by simp
  | x :: es, 0, _ => by simp
  | x :: es, c + 1, hn => by
    have hx := hn x (by simp)
    rw [List.take_succ_cons, List.flatten_cons, List.flatten_cons, flatten_take c (fun e he => hn e (by simp [he])), List.take_append, List.take_of_length_le (l := x) (by rw [hx, Nat.succ_mul]; omega)]
    rw [hx, Nat.succ_mul, Nat.add_sub_cancel]
theorem aCopy_ok (hs : SR B w0 σ h w) {dT sT ty : TypeId} {x y v : AV} {cx cy : Value} (hl : aCopy P h dT sT x y = some (v, h')) (hx : VR σ w (Held σ h) B x cx) (hy : VR σ w (Held σ h) B y cy) :
    ∃ cv w', (Builtin.copy_ #[dT, sT] ty #[cx, cy]).run P w = .ok cv w' ∧ Out B w0 σ h w k k v h' cv w' := by
  unfold aCopy at hl
  split at hl
  · rename_i e m off len hu
    simp only [Option.bind_eq_some_iff] at hl
    obtain ⟨n, hn, kb, hh, ys, hys, hl⟩ := hl
    split at hl <;> try (cases hl; done)
    rename_i hq
    cases hl
    obtain ⟨i, hi, hin⟩ : ∃ i, P.info? e = some i ∧ i.size = n := by
      unfold sizeT at hn
      simpa using hn
    cases hx with
    | hs _ _ _ a cap r hr hcap hb hor =>
    obtain ⟨r', q1, q2, _⟩ := hs.blk m kb hh
    rw [hr] at q1
    cases q1
    -- the source
    obtain ⟨vs, hlen, hfirst, hrel, hone, hszs, hbig⟩ : ∃ vs : List Value, (∀ u, (Builtin.lenOf cy).run P u = .ok ys.length u) ∧ (∀ c, c ≤ ys.length → (Builtin.firstCells n c cy).run P w = .ok (vs.take (c * n)).toArray w) ∧ VRs σ w (Held σ h) B ys.flatten vs ∧ (∀ e ∈ ys, ∀ a ∈ e, a.one = true) ∧ (∀ e ∈ ys, e.length = n) ∧ ys.length < big := by
      by_cases hstr : ∃ l, y = .str l
      · obtain ⟨l, rfl⟩ := hstr
        have hys' := hys
        simp only [aRow] at hys'
        split at hys' <;> try (cases hys'; done)
        rename_i h1
        subst h1
        cases hys'
        cases hy with
        | str s hb =>
        have hol : ((octs s).map fun c => [AV.int .u8 c]).length = s.size := by
          rw [List.length_map]
          unfold octs
          rw [List.length_map, Array.length_toList]
          rfl
        refine ⟨byteCells s, fun u => by rw [hol]; rfl, fun c hc => ?_, ?_, ?_, ?_, by rw [hol]; exact hb⟩
        · rw [hol] at hc
          simp only [Builtin.firstCells, Nat.mul_one]
          rw [Sem.run_pure]
          congr 1
          apply Array.ext'
          unfold byteCells
          rw [← List.map_take]
          simp
        · refine ⟨by rw [flatten_length (n := 1) (by simp), hol, byteCells_length, Nat.mul_one], fun j c v hc hv => ?_⟩
          have e2 : ((octs s).map fun c => [AV.int .u8 c]).flatten = s.data.toList.map fun b => AV.int .u8 (b.toNat : Int) := by
            unfold octs
            rw [List.map_map]
            induction s.data.toList with
            | nil => rfl
            | cons b l ih => simp [ih]
          rw [e2] at hc
          unfold byteCells at hv
          rw [List.getElem?_map] at hc hv
          cases hb : s.data.toList[j]? with
          | none => simp [hb] at hc
          | some b =>
            simp only [hb, Option.map_some, Option.some.injEq] at hc hv
            subst hc hv
            refine .int _ _ ⟨?_, ?_⟩
            · simp [IntKind.min, IntKind.signed]
            · have := b.toNat_lt
              simp [IntKind.max, IntKind.signed, IntKind.bits]
              omega
        · intro e he a ha
          obtain ⟨c, _, rfl⟩ := List.mem_map.1 he
          simp at ha
          subst ha
          rfl
        · intro e he
          obtain ⟨c, _, rfl⟩ := List.mem_map.1 he
          rfl
      · obtain ⟨a2, cap2, vs, rfl, hR⟩ := aRow_ok hs hys hy (fun l e => hstr ⟨l, e⟩)
        refine ⟨vs, fun u => rfl, fun c hc => ?_, hR.rel, hR.one, hR.szs, hR.big⟩
        by_cases hne : ys = []
        · subst hne
          simp at hc
          subst hc
          cases a2 <;> simp [Builtin.firstCells, loadCells, loadCellsFrom]
        · obtain ⟨ad, rfl, hsp, hat⟩ := hR.at_ hne
          obtain ⟨b, o, sp⟩ := ad
          cases hsp
          refine run_firstCells_some w n c ⟨b, o, none⟩ ys.length cap2 (vs.take (c * n)) ?_ (fun j v hj => ?_)
          · rw [List.length_take, hR.length]
            have := Nat.mul_le_mul_right n hc
            omega
          · rw [Addr.add_none]
            refine hat j v ?_
            rw [List.getElem?_take] at hj
            split at hj
            · exact hj
            · cases hj
    have hmin : Nat.min ys.length len = min ys.length len := rfl
    have hvl : vs.length = ys.length * n := by rw [← hrel.1, flatten_length hszs]
    have htl : (ys.take len).length = min ys.length len := by simp [Nat.min_comm]
    have hvt : vs.take (min ys.length len * n) = vs.take (len * n) := by
      by_cases hle : ys.length ≤ len
      · rw [Nat.min_eq_left hle, List.take_of_length_le (by omega), List.take_of_length_le (by have := Nat.mul_le_mul_right n hle; omega)]
      · rw [Nat.min_eq_right (by omega)]
    have hput := hs.put hh hr hq.1 (off := off) (ys := ys.take len) (news := vs.take (len * n)) (by rw [htl]; omega) (by rw [flatten_take _ hszs]; exact hrel.take _) (fun e he => hone e (List.mem_of_mem_take he)) (fun e he => hszs e (List.mem_of_mem_take he))
    obtain ⟨hthere, hsr, hkeep⟩ := hput
    have hrs : r.sz = n := by rw [q2, hq.1]
    have hall : ∀ v ∈ vs.take (len * n), v.oneCell' = true := fun v hv => by
      obtain ⟨j, hj⟩ := List.mem_iff_getElem?.1 (List.mem_of_mem_take hv)
      have hj2 : j < ys.flatten.length := by rw [hrel.1]; exact (List.getElem?_eq_some_iff.1 hj).1
      have hm := List.getElem_mem hj2
      obtain ⟨e, he, ha⟩ := List.mem_flatten.1 hm
      exact (hrel.2 j _ v (List.getElem?_eq_getElem hj2) hj).oneCell (hone e he _ ha)
    have hst := run_storeCells_cells (P := P) r.b (r.o + off * n) (vs.take (len * n)) 0 w (fun j hj => by simpa using (hthere j hj).1) (fun j hj => by simpa using (hthere j hj).2) hall
    simp only [Nat.add_zero] at hst
    have hfc := hfirst (min ys.length len) (Nat.min_le_left _ _)
    rw [hvt] at hfc
    have hmn : min ys.length len < big := by omega
    refine ⟨goInt (min ys.length len : Nat), w.setCells r.b (r.o + off * n) (vs.take (len * n)), ?_, σ, hsr, fun _ _ => rfl, hkeep, .int _ _ (InR_len hmn)⟩
    rcases hor with hc0 | ⟨rfl, _⟩
    · have hl0 : len = 0 := by omega
      subst hl0
      simp only [Nat.zero_mul, List.take_zero, World.setCells, Nat.min_zero] at hst hfc ⊢
      cases a <;> simp [Builtin.copy_, run_underlying hu, hlen, sizeOf, typeInfo, hi, hin, hmin, hfc, storeCells, Nat.min_zero]
    · rw [hrs]
      simp [Builtin.copy_, run_underlying hu, hlen, sizeOf, typeInfo, hi, hin, hmin, hfc, hst]
  · rename_i e hu
    simp only [Option.bind_eq_some_iff] at hl
    obtain ⟨n, hn, ys, hys, hl⟩ := hl
    cases hl
    obtain ⟨i, hi, hin⟩ : ∃ i, P.info? e = some i ∧ i.size = n := by
      unfold sizeT at hn
      simpa using hn
    cases hx with
    | zs a =>
    refine ⟨goInt 0, w, ?_, Out.same hs (.int _ _ (by decide))⟩
    by_cases hstr : ∃ l, y = .str l
    · obtain ⟨l, rfl⟩ := hstr
      cases hy with
      | str s hb =>
      have : s.extract 0 0 = ByteArray.empty := by
        apply ByteArray.ext
        simp
      cases a <;> simp [Builtin.copy_, run_underlying hu, Builtin.lenOf, Builtin.firstCells, sizeOf, typeInfo, hi, storeCells, Nat.min_def, this]
    · obtain ⟨a2, cap2, vs, rfl, hR⟩ := aRow_ok hs hys hy (fun l e => hstr ⟨l, e⟩)
      cases a <;> cases a2 <;> simp [Builtin.copy_, run_underlying hu, Builtin.lenOf, Builtin.firstCells, sizeOf, typeInfo, hi, storeCells, loadCells, loadCellsFrom, Nat.min_def]
  · cases hl
/-! ### clear -/
def aClear (P : Program) (h : AHeap) (t : TypeId) (x : AV) : Option AHeap :=
  match P.underlying t, x with
  | some (.slice e), .hs m off len => (zeroT P e).bind fun zs => (h m).bind fun kb =>
      if kb.sz = zs.length ∧ off + len ≤ kb.es.length ∧ zs.all AV.one = true then some (upd h m (some ⟨kb.sz, rowPut kb.es off (List.replicate len zs)⟩)) else none
  | some (.slice e), .zs => some h
  | _, _ => none
theorem aClear_ok (hs : SR B w0 σ h w) {t ty : TypeId} {x : AV} {cx : Value} (hl : aClear P h t x = some h') (hx : VR σ w (Held σ h) B x cx) :
    ∃ w', (Builtin.clear_ #[t] ty #[cx]).run P w = .ok (.tuple #[]) w' ∧ Out B w0 σ h w k k (.tup []) h' (.tuple #[]) w' := by
  have ht : ∀ (σ' : Sig) (u : World) (X : Nat → Nat → Prop), VR σ' u X B (.tup []) (.tuple #[]) := fun _ _ _ => VR.tup_iff.2 ⟨[], rfl, .nil⟩
  unfold aClear at hl
  split at hl
  · rename_i e m off len hu
    simp only [Option.bind_eq_some_iff] at hl
    obtain ⟨zs, hz, kb, hh, hl⟩ := hl
    split at hl <;> try (cases hl; done)
    rename_i hq
    obtain ⟨h1, h2, h3⟩ := hq
    cases hl
    unfold zeroT at hz
    simp only [Option.bind_eq_some_iff, Option.map_eq_some_iff] at hz
    obtain ⟨z, ⟨i, hi, hz⟩, rfl⟩ := hz
    cases hx with
    | hs _ _ _ a cap r hr hcap hb hor =>
    obtain ⟨r', q1, q2, _⟩ := hs.blk m kb hh
    rw [hr] at q1
    cases q1
    have hzn : ∀ e ∈ List.replicate len (z.cells.toList.map avOf1), e.length = kb.sz := fun e he => by rw [(List.mem_replicate.1 he).2, h1]
    obtain ⟨hthere, hsr, hkeep⟩ := hs.put hh hr rfl (off := off) (ys := List.replicate len (z.cells.toList.map avOf1)) (news := (List.replicate len z.cells.toList).flatten) (by simpa using h2) ((VRs.of1 _).replicate _)
      (fun e he a ha => by rw [(List.mem_replicate.1 he).2] at ha; exact List.all_eq_true.1 h3 a ha) hzn
    have hall : ∀ v ∈ (List.replicate len z.cells.toList).flatten, v.oneCell' = true := fun v hv => by
      obtain ⟨l, hl, hv⟩ := List.mem_flatten.1 hv
      rw [(List.mem_replicate.1 hl).2] at hv
      obtain ⟨j, hj⟩ := List.mem_iff_getElem?.1 hv
      have h5 : (z.cells.toList.map avOf1)[j]? = some (avOf1 v) := by rw [List.getElem?_map, hj]; rfl
      exact (VR.of1 (σ := σ) (w := w) (X := Held σ h) (B := B) v).oneCell (List.all_eq_true.1 h3 _ (List.mem_of_getElem? h5))
    have hst := run_storeCells_cells (P := P) r.b (r.o + off * kb.sz) (List.replicate len z.cells.toList).flatten 0 w (fun j hj => by simpa using (hthere j hj).1) (fun j hj => by simpa using (hthere j hj).2) hall
    simp only [Nat.add_zero] at hst
    have hzc : (Builtin.zeroCells z.cells len).toList = (List.replicate len z.cells.toList).flatten := by
      unfold Builtin.zeroCells
      rw [zeros_flatten, Array.toList_map, Array.toList_range]
      simp [getElem!_def]
    refine ⟨_, ?_, σ, hsr, fun _ _ => rfl, hkeep, ht _ _ _⟩
    by_cases hl0 : len = 0
    · subst hl0
      cases a <;> simp [Builtin.clear_, run_underlying hu, World.setCells]
    · rcases hor with hc0 | ⟨rfl, _⟩
      · omega
      · obtain ⟨len', rfl⟩ : ∃ l, len = l + 1 := ⟨len - 1, by omega⟩
        rw [q2]
        simp [Builtin.clear_, run_underlying hu, zeroValue, typeInfo, hi, hz, hzc, hst]
  · rename_i e hu
    cases hl
    cases hx with
    | zs a =>
    refine ⟨w, ?_, Out.same hs (ht _ _ _)⟩
    cases a <;> simp [Builtin.clear_, run_underlying hu]
  · cases hl
end
end Go.Proofs.YtjidgdfdeckofaaDoor.AE
/- Numbers, places, cuts, conversions, on abstract values; and that the model's do the like. No program in sight. -/
namespace Go.Proofs.YtjidgdfdeckofaaDoor.AE
open Go Go.RowKit
set_option linter.unusedVariables false
set_option linter.unusedSimpArgs false
variable {P : Program}
/-! ### numbers stay in their range -/
theorem InR_wrap (k : IntKind) (n : Int) : InR k (k.wrap n) := by
  cases k <;> simp [InR, IntKind.wrap, IntKind.min, IntKind.max, IntKind.signed, IntKind.bits] <;> (try split) <;> omega
theorem tmod_le (a b : Int) (h : 0 ≤ a) : a.tmod b ≤ a := by
  obtain ⟨m, rfl⟩ := Int.eq_ofNat_of_zero_le h
  cases b with
  | ofNat n => exact Int.ofNat_le.2 (Nat.mod_le _ _)
  | negSucc n => exact Int.ofNat_le.2 (Nat.mod_le _ _)
theorem InR_tmod (k : IntKind) (a b : Int) (h : InR k a) : InR k (a.tmod b) := by
  have h0 : k.min ≤ 0 ∧ 0 ≤ k.max := by cases k <;> decide
  obtain ⟨h1, h2⟩ := h
  rcases Int.le_total 0 a with ha | ha
  · have q1 := Int.tmod_nonneg b ha
    have q2 := tmod_le a b ha
    exact ⟨by omega, by omega⟩
  · have q1 : 0 ≤ (-a).tmod b := Int.tmod_nonneg b (by omega)
    have q2 : (-a).tmod b ≤ -a := tmod_le (-a) b (by omega)
    rw [Int.neg_tmod] at q1 q2
    exact ⟨by omega, by omega⟩
theorem InR_fdiv (k : IntKind) (a : Int) (n : Nat) (h : InR k a) : InR k (a.fdiv (2 ^ n)) := by
  have h0 : k.min ≤ 0 ∧ 0 ≤ k.max := by cases k <;> decide
  obtain ⟨h1, h2⟩ := h
  have hp : (0 : Int) < 2 ^ n := Int.pow_pos (by decide)
  rw [Int.fdiv_eq_ediv_of_nonneg _ (by omega)]
  rcases Int.le_total 0 a with ha | ha
  · have q1 := Int.ediv_nonneg ha (Int.le_of_lt hp)
    have q2 := Int.ediv_le_self (2 ^ n) ha
    exact ⟨by omega, by omega⟩
  · have q1 : a / 2 ^ n < 1 := (Int.ediv_lt_iff_lt_mul hp).2 (by omega)
    have q2 : a ≤ a / 2 ^ n := (Int.le_ediv_iff_mul_le hp).2 (by
      have h3 : (-a) * 1 ≤ (-a) * 2 ^ n := Int.mul_le_mul_of_nonneg_left (by omega) (by omega)
      rw [Int.neg_mul, Int.neg_mul] at h3
      omega)
    exact ⟨by omega, by omega⟩
/-! ### two operands -/
/-- 0: a number, 1: a bool, 2: a text. -/
def tagT (P : Program) (t : TypeId) : Option Nat :=
  match P.underlying t with
  | some (.int _) => some 0
  | some .bool => some 1
  | some .string => some 2
  | _ => none
def tagsOf (P : Program) : List Field → Option (List (Nat × Nat))
  | [] => some []
  | f :: fs => if f.name = "_" then none else (tagT P f.type).bind fun g => (tagsOf P fs).map fun l => (f.offset, g) :: l
/-- Where the fields of a struct lie whose values are numbers, bools and texts alone, and which they are. -/
def eqT (P : Program) (t : TypeId) : Option (List (Nat × Nat)) :=
  match P.underlying t with
  | some (.struct fs) => if P.stoodInHeld t = false ∧ P.eqGuardType P.depth t = false then tagsOf P fs.toList else none
  | _ => none
def eqOne : Nat → AV → AV → Option Bool
  | 0, .int k a, .int j b => if k = j then some (decide (a = b)) else none
  | 1, .bool a, .bool b => some (decide (a = b))
  | 2, .str a, .str b => some (decide (a = b))
  | _, _, _ => none
def eqCells (cs ds : List AV) : List (Nat × Nat) → Option Bool
  | [] => some true
  | (o, g) :: os => (cs[o]?).bind fun c => (ds[o]?).bind fun d => (eqOne g c d).bind fun r => (eqCells cs ds os).map fun s => r && s
def boolT (P : Program) (t : TypeId) : Bool := match P.underlying t with | some .bool => true | _ => false
theorem boolT_iff {t : TypeId} (h : boolT P t = true) : P.underlying t = some .bool := by
  unfold boolT at h
  split at h
  · assumption
  · cases h
def aArith (op : BinOp) (k : IntKind) (a b : Int) : Option AV :=
  match op with
  | .add => some (.int k (k.wrap (a + b)))
  | .sub => some (.int k (k.wrap (a - b)))
  | .mul => some (.int k (k.wrap (a * b)))
  | .quo => if b = 0 then none else some (.int k (k.wrap (a.tdiv b)))
  | .rem => if b = 0 then none else some (.int k (a.tmod b))
  | .and => some (.int k (bits .and k a b))
  | .or => some (.int k (bits .or k a b))
  | .xor => some (.int k (bits .xor k a b))
  | .andNot => some (.int k (bits .andNot k a b))
  | .eql => some (.bool (decide (a = b)))
  | .neq => some (.bool (!decide (a = b)))
  | .lss => some (.bool (decide (a < b)))
  | .leq => some (.bool (decide (a ≤ b)))
  | .gtr => some (.bool (decide (b < a)))
  | .geq => some (.bool (decide (b ≤ a)))
  | _ => none
def aBin (P : Program) (op : BinOp) (t : TypeId) (x y : AV) : Option AV :=
  match x, y with
  | .int k a, .int j b =>
    match op with
    | .shl => if 0 ≤ b then some (.int k (k.wrap (a * 2 ^ (min b.toNat k.bits)))) else none
    | .shr => if 0 ≤ b then some (.int k (a.fdiv (2 ^ (min b.toNat k.bits)))) else none
    | op => if k = j then aArith op k a b else none
  | .bool a, .bool b => match op with
    | .eql => if boolT P t = true then some (.bool (decide (a = b))) else none
    | .neq => if boolT P t = true then some (.bool (!decide (a = b))) else none
    | _ => none
  | .str a, .str b => match op with
    | .eql => some (.bool (decide (a = b)))
    | .neq => some (.bool (!decide (a = b)))
    | _ => none
  | .agg cs, .agg ds => match op with
    | .eql => (eqT P t).bind fun os => (eqCells cs ds os).map .bool
    | .neq => (eqT P t).bind fun os => (eqCells cs ds os).map fun b => .bool (!b)
    | _ => none
  | _, _ => none
theorem octs_inj {s u : ByteArray} (h : octs s = octs u) : s = u := by
  apply ByteArray.ext
  apply Array.ext'
  unfold octs at h
  have hinj : ∀ l m : List UInt8, l.map (fun b => (b.toNat : Int)) = m.map (fun b => (b.toNat : Int)) → l = m := by
    intro l
    induction l with
    | nil =>
      intro m hm
      cases m with
      | nil => rfl
      | cons => simp at hm
    | cons a l ih =>
      intro m hm
      cases m with
      | nil => simp at hm
      | cons b m =>
        simp only [List.map_cons, List.cons.injEq] at hm
        have hab : a = b := UInt8.toNat_inj.1 (by omega)
        rw [hab, ih m hm.2]
  exact hinj _ _ h
theorem str_beq (s u : ByteArray) : (s.toList == u.toList) = decide (octs s = octs u) := by
  rw [Bool.eq_iff_iff, beq_iff_eq, decide_eq_true_iff]
  constructor
  · intro h
    rw [ByteArray.toList_eq, ByteArray.toList_eq] at h
    unfold octs
    rw [h]
  · intro h
    rw [octs_inj h]
section
variable {σ : Sig} {w : World} {X : Nat → Nat → Prop} {B : Nat}
theorem eqOne_ok {d g : Nat} {t : TypeId} {x y : AV} {cx cy : Value} {r : Bool} (hg : tagT P t = some g) (h : eqOne g x y = some r) (hx : VR σ w X B x cx) (hy : VR σ w X B y cy) :
    (Op.equalIn (d + 1) t cx cy).run P w = .ok r w := by
  unfold eqOne at h
  split at h
  · split at h <;> cases h
    subst_vars
    cases hx; cases hy
    unfold tagT at hg
    split at hg <;> cases hg
    rename_i hu
    rw [run_equalIn_int w d t _ _ _ _ hu]
    simp [BEq.beq]
  · cases h
    cases hx; cases hy
    unfold tagT at hg
    split at hg <;> cases hg
    rename_i hu
    rw [run_equalIn_bool w d t _ _ hu]
    simp [BEq.beq]
  · cases h
    cases hx; cases hy
    unfold tagT at hg
    split at hg <;> cases hg
    rename_i hu
    rw [run_equalIn_string w d t _ _ hu, str_beq]
  · cases h
end
end Go.Proofs.YtjidgdfdeckofaaDoor.AE
/- Two operands, one operand, conversions, places, cuts, on abstract values; and that the model's do the like. No program in sight. -/
namespace Go.Proofs.YtjidgdfdeckofaaDoor.AE
open Go Go.RowKit
set_option linter.unusedVariables false
set_option linter.unusedSimpArgs false
variable {P : Program}
section
variable {σ : Sig} {w : World} {X : Nat → Nat → Prop} {B : Nat}
theorem eqCells_ok {cs ds : List AV} {us vs : List Value} (hc : VRs σ w X B cs us) (hd : VRs σ w X B ds vs) : ∀ (fs : List Field) {l : List (Nat × Nat)} {r : Bool}, tagsOf P fs = some l → eqCells cs ds l = some r → (Op.eqFields 9999 us.toArray vs.toArray fs).run P w = .ok r w
  | [], l, r, h0, h => by
    simp [tagsOf] at h0
    subst h0
    simp [eqCells] at h
    subst h
    simp [Op.eqFields]
  | f :: fs, l, r, h0, h => by
    unfold tagsOf at h0
    split at h0
    · cases h0
    · rename_i hn
      simp only [Option.bind_eq_some_iff, Option.map_eq_some_iff] at h0
      obtain ⟨g, hg, l', hl', rfl⟩ := h0
      simp only [eqCells, Option.bind_eq_some_iff, Option.map_eq_some_iff] at h
      obtain ⟨c, h1, d, h2, r1, h3, s, h4, rfl⟩ := h
      obtain ⟨u, h5, h6⟩ := hc.get h1
      obtain ⟨v, h7, h8⟩ := hd.get h2
      have hagg : (isAgg f.type).run P w = .ok false w := by
        unfold tagT at hg
        unfold isAgg
        split at hg
        · rename_i heq
          rw [Sem.run_bind, run_underlying heq w]; rfl
        · rename_i heq
          rw [Sem.run_bind, run_underlying heq w]; rfl
        · rename_i heq
          rw [Sem.run_bind, run_underlying heq w]; rfl
        · cases hg
      have hp : ∀ (xs : List Value) (x : Value), xs[f.offset]? = some x → (part f.type xs.toArray f.offset).run P w = .ok x w := fun xs x hx => by
        simp [part, Sem.run_bind, hagg, hx]
      have he : (Op.equalIn 9999 f.type u v).run P w = .ok r1 w := eqOne_ok (d := 9998) hg h3 h6 h8
      have ih := eqCells_ok hc hd fs hl' h4
      have hn' : f.name ≠ "_" := hn
      rw [Op.eqFields]
      simp only [if_pos hn', Sem.run_bind, hp _ _ h5, hp _ _ h7, he, Result.andThen_ok]
      cases r1
      · simp
      · simpa using ih
theorem eqAgg_ok {t : TypeId} {cs ds : List AV} {cx cy : Value} {os : List (Nat × Nat)} {r : Bool} (ht : eqT P t = some os) (h : eqCells cs ds os = some r) (hx : VR σ w X B (.agg cs) cx) (hy : VR σ w X B (.agg ds) cy) (x y : Operand) (op : BinOp) :
    (eqGuard op t x y cx cy).run P w = .ok () w ∧ (binOp .eql t cx cy).run P w = .ok (.bool r) w ∧ (binOp .neq t cx cy).run P w = .ok (.bool (!r)) w := by
  obtain ⟨us, rfl, h1⟩ := VR.agg_iff.1 hx
  obtain ⟨vs, rfl, h2⟩ := VR.agg_iff.1 hy
  unfold eqT at ht
  split at ht <;> try (cases ht; done)
  rename_i fs hu
  split at ht <;> try (cases ht; done)
  rename_i hq
  have hf : P.fieldsOf t = fs := by simp [Program.fieldsOf, hu]
  have he : (Op.equalIn 10000 t (.agg us.toArray) (.agg vs.toArray)).run P w = .ok r w := by
    rw [run_equalIn_struct w 9999 t _ _ (by rw [hf]; exact hu) hq.1, hf]
    exact eqCells_ok h1 h2 _ ht h
  refine ⟨?_, by rw [run_eql_struct, he]; rfl, by rw [run_neq_struct, he]; rfl⟩
  cases op <;> simp [eqGuard, hq.2]
theorem InR_bits (op : BinOp) (k : IntKind) (a b : Int) : InR k (bits op k a b) := InR_wrap k _
theorem aArith_ok {op : BinOp} {k : IntKind} {a b : Int} {v : AV} (t : TypeId) (hs : op ≠ .shl) (hs2 : op ≠ .shr) (h : aArith op k a b = some v) (ha : InR k a) : ∃ cv, (binOp op t (.int k a) (.int k b)).run P w = .ok cv w ∧ VR σ w X B v cv := by
  cases op <;> simp only [aArith] at h
  case add => cases h; exact ⟨_, by rw [binOp_add]; rfl, .int _ _ (InR_wrap _ _)⟩
  case sub => cases h; exact ⟨_, by rw [binOp_sub]; rfl, .int _ _ (InR_wrap _ _)⟩
  case mul => cases h; exact ⟨_, by rw [binOp_mul]; rfl, .int _ _ (InR_wrap _ _)⟩
  case quo =>
    split at h <;> cases h
    rename_i hb
    exact ⟨_, by rw [binOp_quo]; simp [Op.intDiv, hb], .int _ _ (InR_wrap _ _)⟩
  case rem =>
    split at h <;> cases h
    rename_i hb
    exact ⟨_, by rw [binOp_rem]; simp [Op.intDiv, hb], .int _ _ (InR_tmod _ _ _ ha)⟩
  case and => cases h; exact ⟨_, by rw [binOp_and, intBits_and]; rfl, .int _ _ (InR_bits _ _ _ _)⟩
  case or => cases h; exact ⟨_, by rw [binOp_or, intBits_or]; rfl, .int _ _ (InR_bits _ _ _ _)⟩
  case xor => cases h; exact ⟨_, by rw [binOp_xor, intBits_xor]; rfl, .int _ _ (InR_bits _ _ _ _)⟩
  case andNot => cases h; exact ⟨_, by rw [binOp_andNot]; rfl, .int _ _ (InR_bits _ _ _ _)⟩
  case eql => cases h; exact ⟨_, by rw [binOp_eql]; rfl, VR.bool (decide (a = b))⟩
  case neq => cases h; exact ⟨_, by rw [binOp_neq]; rfl, VR.bool (!decide (a = b))⟩
  case lss => cases h; exact ⟨_, by rw [binOp_lss]; rfl, .bool _⟩
  case leq => cases h; exact ⟨_, by rw [binOp_leq]; rfl, .bool _⟩
  case gtr => cases h; exact ⟨_, by rw [binOp_gtr]; rfl, .bool _⟩
  case geq => cases h; exact ⟨_, by rw [binOp_geq]; rfl, .bool _⟩
  all_goals first | (cases h; done) | exact absurd rfl hs | exact absurd rfl hs2
theorem aBin_ok {op : BinOp} {t : TypeId} {x y v : AV} {cx cy : Value} (h : aBin P op t x y = some v) (hx : VR σ w X B x cx) (hy : VR σ w X B y cy) (ox oy : Operand) :
    ∃ cv, (do eqGuard op t ox oy cx cy; binOp op t cx cy : Sem Value).run P w = .ok cv w ∧ VR σ w X B v cv := by
  unfold aBin at h
  split at h
  · rename_i k a j b
    cases hx with
    | int _ _ ha =>
    cases hy with
    | int _ _ hb =>
    simp only [eqGuard_at_int, pure_bind]
    split at h
    · split at h <;> cases h
      rename_i h0
      refine ⟨_, ?_, .int _ _ (InR_wrap _ _)⟩
      have : ¬ b < 0 := by omega
      rw [binOp_shl]
      simp [Op.shift, this]
    · split at h <;> cases h
      rename_i h0
      refine ⟨_, ?_, .int _ _ (InR_fdiv _ _ _ ha)⟩
      have : ¬ b < 0 := by omega
      rw [binOp_shr]
      simp [Op.shift, this]
    · rename_i h1 h2
      split at h <;> try (cases h; done)
      subst_vars
      exact aArith_ok t h1 h2 h ha
  · cases hx; cases hy
    simp only [eqGuard_at_bool, pure_bind]
    split at h <;> try (cases h; done)
    · split at h <;> cases h
      rename_i hb
      exact ⟨_, by simp [binOp, run_equal_bool w t _ _ (boolT_iff hb)]; rfl, by first | exact .bool _ | (simp only [BEq.beq]; exact .bool _)⟩
    · split at h <;> cases h
      rename_i hb
      exact ⟨_, by simp [binOp, run_equal_bool w t _ _ (boolT_iff hb)]; rfl, by first | exact .bool _ | (simp only [BEq.beq]; exact .bool _)⟩
  · cases hx; cases hy
    simp only [eqGuard_at_string, pure_bind]
    split at h <;> cases h
    · refine ⟨_, by simp only [binOp, Op.stringOp]; rfl, ?_⟩
      rw [str_beq]
      exact .bool _
    · refine ⟨_, by simp only [binOp, Op.stringOp]; rfl, ?_⟩
      rw [str_beq]
      exact .bool _
  · split at h
    · simp only [Option.bind_eq_some_iff, Option.map_eq_some_iff] at h
      obtain ⟨os, h1, r, h2, rfl⟩ := h
      obtain ⟨q1, q2, q3⟩ := eqAgg_ok h1 h2 hx hy ox oy .eql
      exact ⟨_, by simp only [Sem.run_bind, q1, Result.andThen_ok, q2], .bool _⟩
    · simp only [Option.bind_eq_some_iff, Option.map_eq_some_iff] at h
      obtain ⟨os, h1, r, h2, rfl⟩ := h
      obtain ⟨q1, q2, q3⟩ := eqAgg_ok h1 h2 hx hy ox oy .neq
      exact ⟨_, by simp only [Sem.run_bind, q1, Result.andThen_ok, q3], .bool _⟩
    · cases h
  · cases h
/-! ### one operand -/
def aUn (op : UnOp) : AV → Option AV
  | .int k n => match op with
    | .neg => some (.int k (k.wrap (0 - n)))
    | .xor => some (.int k (bits .xor k (if k.signed then -1 else k.max) n))
    | _ => none
  | .bool b => match op with
    | .not => some (.bool (!b))
    | _ => none
  | _ => none
theorem aUn_ok {op : UnOp} {x v : AV} {cx : Value} (h : aUn op x = some v) (hx : VR σ w X B x cx) : ∃ cv, (Op.unary op cx).run P w = .ok cv w ∧ VR σ w X B v cv := by
  unfold aUn at h
  split at h
  · cases hx
    cases op <;> simp only at h <;> cases h
    · exact ⟨_, rfl, .int _ _ (InR_wrap _ _)⟩
    · exact ⟨_, rfl, .int _ _ (InR_bits _ _ _ _)⟩
  · cases hx
    cases op <;> simp only at h <;> cases h
    exact ⟨_, rfl, .bool _⟩
  · cases h
end
end Go.Proofs.YtjidgdfdeckofaaDoor.AE
/- Conversions, places, cuts, lengths, on abstract values; and that the model's do the like. No program in sight. -/
namespace Go.Proofs.YtjidgdfdeckofaaDoor.AE
open Go Go.RowKit
set_option linter.unusedVariables false
set_option linter.unusedSimpArgs false
variable {P : Program}
/-! ### places -/
def offT (P : Program) (t : TypeId) (f : Nat) : Option Nat :=
  match P.underlying t with
  | some (.struct fs) => (fs[f]?).bind fun fl => (sizeT P fl.type).bind fun s => if s = 0 then none else some fl.offset
  | _ => none
def aField (P : Program) (t : TypeId) (x : AV) (f : Nat) : Option AV :=
  (offT P t f).bind fun o => match x with
    | .ptr n e j => some (.ptr n e (j + o))
    | .ip cs => some (.ip (cs.drop o))
    | _ => none
theorem run_sizeT {t : TypeId} {s : Nat} (h : sizeT P t = some s) (w : World) : (sizeOf t).run P w = .ok s w := by
  unfold sizeT at h
  obtain ⟨i, hi, rfl⟩ := Option.map_eq_some_iff.1 h
  simp [sizeOf, typeInfo, hi]
theorem offT_ok {t : TypeId} {f o : Nat} (h : offT P t f = some o) : ∃ fs fl, P.underlying t = some (.struct fs) ∧ fs[f]? = some fl ∧ fl.offset = o ∧ ∀ (a : Addr) (w : World), (fieldPlace a fl).run P w = .ok (a.add o) w := by
  unfold offT at h
  split at h <;> try (cases h; done)
  rename_i fs hu
  simp only [Option.bind_eq_some_iff] at h
  obtain ⟨fl, hf, s, hs, h⟩ := h
  split at h <;> cases h
  rename_i h0
  exact ⟨fs, fl, hu, hf, rfl, fun a w => by simp [fieldPlace, run_sizeT hs, h0]⟩
section
variable {σ : Sig} {w : World} {X : Nat → Nat → Prop} {B : Nat}
theorem VR.ip_iff {cs : List AV} {v : Value} (h : VR σ w X B (.ip cs) v) : ∃ b o, v = .pointer (some ⟨b, o, none⟩) := by
  cases h with
  | ip _ ad vs hs _ _ =>
  obtain ⟨b, o, sp⟩ := ad
  cases hs
  exact ⟨b, o, rfl⟩
theorem VR.ip_drop {cs : List AV} {b p : Nat} (h : VR σ w X B (.ip cs) (.pointer (some ⟨b, p, none⟩))) (o : Nat) : VR σ w X B (.ip (cs.drop o)) (.pointer (some ⟨b, p + o, none⟩)) := by
  cases h with
  | ip _ _ vs hs h hv =>
  refine .ip _ _ (fun j => vs (o + j)) rfl (fun j c hc => ?_) (fun j c hc => ?_)
  · rw [List.getElem?_drop] at hc
    have := h _ c hc
    simp only
    rw [Nat.add_assoc]
    exact this
  · rw [List.getElem?_drop] at hc
    exact hv _ c hc
theorem aField_ok {t : TypeId} {x v : AV} {cx : Value} {f : Nat} (h : aField P t x f = some v) (hx : VR σ w X B x cx) : ∃ cv, (Instr.fieldAt t cx f).run P w = .ok cv w ∧ VR σ w X B v cv := by
  unfold aField at h
  simp only [Option.bind_eq_some_iff] at h
  obtain ⟨o, ho, h⟩ := h
  obtain ⟨fs, fl, hu, hf, rfl, hrun⟩ := offT_ok ho
  split at h <;> cases h
  · rename_i n e j
    cases hx with
    | ptr _ _ _ r hr =>
    refine ⟨.pointer (some ⟨r.b, r.o + e * r.sz + (j + fl.offset), none⟩), ?_, by rw [← Nat.add_assoc]; have := VR.ptr (σ := σ) (w := w) (X := X) (B := B) n e (j + fl.offset) r hr; rwa [← Nat.add_assoc] at this⟩
    simp [Instr.fieldAt, run_underlying hu, hf, Instr.sureAddr, hrun, Addr.add_none, Nat.add_assoc]
  · obtain ⟨b, o, rfl⟩ := hx.ip_iff
    refine ⟨_, ?_, hx.ip_drop fl.offset⟩
    simp [Instr.fieldAt, run_underlying hu, hf, Instr.sureAddr, hrun, Addr.add_none]
def aIndexAddr (P : Program) (h : AHeap) (t : TypeId) (x i : AV) : Option AV :=
  match P.underlying t, x, i with
  | some (.slice e), .sl es, .int _ i => (sizeT P e).bind fun n => if 0 ≤ i then (es[i.toNat]?).bind fun c => if c.length = n then some (.ip c) else none else none
  | some (.slice e), .hs m off len, .int _ i => (sizeT P e).bind fun n => (h m).bind fun kb => if 0 ≤ i ∧ i < len ∧ kb.sz = n then some (.ptr m (off + i.toNat) 0) else none
  | some (.array len e), .ptr m q j, .int _ i => (sizeT P e).bind fun n => if 0 ≤ i ∧ i < len ∧ n ≠ 0 then some (.ptr m q (j + i.toNat * n)) else none
  | some (.array len e), .ip cs, .int _ i => (sizeT P e).bind fun n => if 0 ≤ i ∧ i < len ∧ n ≠ 0 then some (.ip (cs.drop (i.toNat * n))) else none
  | _, _, _ => none
theorem aIndexAddr_ok {w0 : World} {h : AHeap} (hs : SR B w0 σ h w) {t : TypeId} {x i v : AV} {cx ci : Value} (hl : aIndexAddr P h t x i = some v) (hx : VR σ w (Held σ h) B x cx) (hi : VR σ w (Held σ h) B i ci) : ∃ cv, (Instr.indexAt t cx ci).run P w = .ok cv w ∧ VR σ w (Held σ h) B v cv := by
  unfold aIndexAddr at hl
  split at hl
  · rename_i e es k i hu
    cases hi
    simp only [Option.bind_eq_some_iff] at hl
    obtain ⟨n, hn, hl⟩ := hl
    split at hl <;> try (cases hl; done)
    rename_i h0
    simp only [Option.bind_eq_some_iff] at hl
    obtain ⟨c, hc, hl⟩ := hl
    split at hl <;> cases hl
    rename_i hcn
    have hlt := (List.getElem?_eq_some_iff.1 hc).1
    cases hx with
    | sl _ a cap size vs hcap hb h1 h2 =>
    obtain ⟨h3, ad, rfl, hsp, h4⟩ := h1 _ _ hc
    obtain ⟨b, o, sp⟩ := ad
    cases hsp
    have hsz : size = n := by omega
    subst hsz
    refine ⟨.pointer (some ⟨b, o + i.toNat * size, none⟩), ?_, .ip c _ (fun j => vs i.toNat j) rfl (fun j d hd => ?_) (fun j d hd => h2 _ _ hc j d hd)⟩
    · have hif : 0 ≤ i ∧ i < (es.length : Int) := ⟨h0, by omega⟩
      simp [Instr.indexAt, run_underlying hu, asIntOf, hif, run_sizeT hn, Addr.add_none]
    · obtain ⟨q1, q2, q3, q4⟩ := h4 j d hd
      exact ⟨q1, q2, q3, q4⟩
  · rename_i e m off len k i hu
    cases hi
    simp only [Option.bind_eq_some_iff] at hl
    obtain ⟨n, hn, kb, hh, hl⟩ := hl
    split at hl <;> cases hl
    rename_i hq
    obtain ⟨h0, h1, h2⟩ := hq
    cases hx with
    | hs _ _ _ a cap r hr hcap hb hor =>
    obtain ⟨r', q1, q2, _⟩ := hs.blk m kb hh
    rw [hr] at q1
    cases q1
    rcases hor with hor | ⟨rfl, _⟩
    · omega
    · refine ⟨.pointer (some ⟨r.b, r.o + off * r.sz + i.toNat * n, none⟩), ?_, ?_⟩
      · have hif : 0 ≤ i ∧ i < (len : Int) := ⟨h0, h1⟩
        simp [Instr.indexAt, run_underlying hu, asIntOf, hif, run_sizeT hn, Addr.add_none]
      · have := VR.ptr (σ := σ) (w := w) (X := Held σ h) (B := B) m (off + i.toNat) 0 r hr
        rw [Nat.add_mul, ← Nat.add_assoc, Nat.add_zero] at this
        rw [← h2, ← q2]
        exact this
  · rename_i len e m q j k i hu
    cases hi
    simp only [Option.bind_eq_some_iff] at hl
    obtain ⟨n, hn, hl⟩ := hl
    split at hl <;> cases hl
    rename_i hq
    cases hx with
    | ptr _ _ _ r hr =>
    refine ⟨.pointer (some ⟨r.b, r.o + q * r.sz + j + i.toNat * n, none⟩), ?_, ?_⟩
    · have hif : 0 ≤ i ∧ i < (len : Int) := ⟨hq.1, hq.2.1⟩
      simp [Instr.indexAt, run_underlying hu, asIntOf, Instr.sureAddr, hif, run_sizeT hn, Addr.add_none]
    · have := VR.ptr (σ := σ) (w := w) (X := Held σ h) (B := B) m q (j + i.toNat * n) r hr
      rwa [← Nat.add_assoc] at this
  · rename_i len e cs k i hu
    cases hi
    simp only [Option.bind_eq_some_iff] at hl
    obtain ⟨n, hn, hl⟩ := hl
    split at hl <;> cases hl
    rename_i hq
    obtain ⟨b, o, rfl⟩ := hx.ip_iff
    refine ⟨_, ?_, hx.ip_drop (i.toNat * n)⟩
    have hif : 0 ≤ i ∧ i < (len : Int) := ⟨hq.1, hq.2.1⟩
    simp [Instr.indexAt, run_underlying hu, asIntOf, Instr.sureAddr, hif, run_sizeT hn, Addr.add_none]
  · cases hl
/-! ### parts of a value -/
def aExtract : AV → Nat → Option AV
  | .tup vs, i => vs[i]?
  | _, _ => none
theorem aExtract_ok {x v : AV} {cx : Value} {i : Nat} (h : aExtract x i = some v) (hx : VR σ w X B x cx) : ∃ cv, (Instr.extract cx i).run P w = .ok cv w ∧ VR σ w X B v cv := by
  unfold aExtract at h
  split at h
  · obtain ⟨us, rfl, h1⟩ := VR.tup_iff.1 hx
    obtain ⟨u, h2, h3⟩ := h1.get h
    exact ⟨u, by simp [Instr.extract, h2], h3⟩
  · cases h
/-- A field's offset, how many cells it has, and whether it is a struct or an array. -/
def partT (P : Program) (t : TypeId) (f : Nat) : Option (Nat × Nat × Bool) :=
  match P.underlying t with
  | some (.struct fs) => (fs[f]?).bind fun fl => (sizeT P fl.type).bind fun s => (aggT P fl.type).map fun g => (fl.offset, s, g)
  | _ => none
theorem run_isAgg {t : TypeId} {g : Bool} (h : aggT P t = some g) (w : World) : (isAgg t).run P w = .ok g w := by
  unfold aggT at h
  obtain ⟨d, hd, rfl⟩ := Option.map_eq_some_iff.1 h
  unfold isAgg
  rw [Sem.run_bind, run_underlying hd w]
  cases d <;> rfl
def aPart (cs : List AV) (o s : Nat) (g : Bool) : Option AV :=
  if g = true then (if o + s ≤ cs.length then some (.agg ((cs.drop o).take s)) else none) else cs[o]?
theorem aPart_ok {cs : List AV} {vs : List Value} {t : TypeId} {o s : Nat} {g : Bool} {v : AV} (hv : VRs σ w X B cs vs) (hs : sizeT P t = some s) (hg : aggT P t = some g) (h : aPart cs o s g = some v) :
    ∃ cv, (part t vs.toArray o).run P w = .ok cv w ∧ VR σ w X B v cv := by
  unfold aPart at h
  cases g
  · simp only [Bool.false_eq_true, if_false] at h
    obtain ⟨u, h2, h3⟩ := hv.get h
    exact ⟨u, by simp [part, run_isAgg hg, h2], h3⟩
  · simp only [if_true] at h
    split at h <;> cases h
    refine ⟨_, by simp [part, run_isAgg hg, run_sizeT hs]; rfl, VR.agg_iff.2 ⟨(vs.drop o).take s, ?_, (hv.drop o).take s⟩⟩
    congr 1
def aFieldOf (P : Program) (t : TypeId) (x : AV) (f : Nat) : Option AV :=
  match x with
  | .agg cs => (partT P t f).bind fun p => aPart cs p.1 p.2.1 p.2.2
  | _ => none
theorem aFieldOf_ok {t : TypeId} {x v : AV} {cx : Value} {f : Nat} (h : aFieldOf P t x f = some v) (hx : VR σ w X B x cx) : ∃ cv, (Instr.field t cx f).run P w = .ok cv w ∧ VR σ w X B v cv := by
  unfold aFieldOf at h
  split at h
  · simp only [Option.bind_eq_some_iff] at h
    obtain ⟨⟨o, s, g⟩, hp, h⟩ := h
    obtain ⟨us, rfl, h1⟩ := VR.agg_iff.1 hx
    unfold partT at hp
    split at hp <;> try (cases hp; done)
    rename_i fs hu
    simp only [Option.bind_eq_some_iff, Option.map_eq_some_iff] at hp
    obtain ⟨fl, hf, s', hs, g', hg, hp⟩ := hp
    cases hp
    obtain ⟨cv, h2, h3⟩ := aPart_ok (P := P) h1 hs hg h
    exact ⟨cv, by simp [Instr.field, run_underlying hu, hf, asAgg, h2], h3⟩
  · cases h
def aIndex (P : Program) (t : TypeId) (x i : AV) : Option AV :=
  match P.underlying t, x, i with
  | some (.array len e), .agg cs, .int _ i => (sizeT P e).bind fun n => (aggT P e).bind fun g => if 0 ≤ i ∧ i < len then aPart cs (i.toNat * n) n g else none
  | some .string, .str l, .int _ i => if 0 ≤ i then (l[i.toNat]?).map fun c => .int .u8 c else none
  | _, _, _ => none
theorem aIndex_ok {t : TypeId} {x i v : AV} {cx ci : Value} (h : aIndex P t x i = some v) (hx : VR σ w X B x cx) (hi : VR σ w X B i ci) : ∃ cv, (Instr.index t cx ci).run P w = .ok cv w ∧ VR σ w X B v cv := by
  unfold aIndex at h
  split at h
  · rename_i len e cs k i hu
    cases hi
    simp only [Option.bind_eq_some_iff] at h
    obtain ⟨n, hn, g, hg, h⟩ := h
    split at h <;> try (cases h; done)
    rename_i hq
    obtain ⟨us, rfl, h1⟩ := VR.agg_iff.1 hx
    obtain ⟨cv, h2, h3⟩ := aPart_ok (P := P) h1 hn hg h
    have hif : 0 ≤ i ∧ i < (len : Int) := hq
    exact ⟨cv, by simp [Instr.index, run_underlying hu, asIntOf, hif, run_sizeT hn, h2], h3⟩
  · rename_i l k i hu
    cases hi
    split at h <;> try (cases h; done)
    rename_i h0
    obtain ⟨c, hc, rfl⟩ := Option.map_eq_some_iff.1 h
    generalize hl : AV.str l = a at hx
    cases hx <;> cases hl
    rename_i s hb
    unfold octs at hc
    rw [List.getElem?_map] at hc
    obtain ⟨b, hb2, rfl⟩ := Option.map_eq_some_iff.1 hc
    have hq : s[i.toNat]? = some b := by
      have h1 := (List.getElem?_eq_some_iff.1 hb2).1
      simp only [Array.length_toList] at h1
      have h2 : i.toNat < s.size := h1
      rw [getElem?_pos s i.toNat h2]
      congr 1
      have := (List.getElem?_eq_some_iff.1 hb2).2
      rw [← this]
      simp
      rfl
    refine ⟨.int .u8 b.toNat, ?_, .int _ _ ⟨?_, ?_⟩⟩
    · simp [Instr.index, run_underlying hu, asIntOf, h0, hq]
    · simp [IntKind.min, IntKind.signed]
    · have := b.toNat_lt
      simp [IntKind.max, IntKind.signed, IntKind.bits]
      omega
  · cases h
end
end Go.Proofs.YtjidgdfdeckofaaDoor.AE
/- Cuts, conversions, lengths, on abstract values; and that the model's do the like. No program in sight. -/
namespace Go.Proofs.YtjidgdfdeckofaaDoor.AE
open Go Go.RowKit
set_option linter.unusedVariables false
set_option linter.unusedSimpArgs false
variable {P : Program}
def bndOr (d : Int) : Option AV → Option Int
  | none => some d
  | some (.int _ i) => some i
  | _ => none
def aSlice (P : Program) (h : AHeap) (t : TypeId) (x : AV) (lo hi mx : Option AV) : Option AV :=
  match P.underlying t, x, mx with
  | some (.slice e), .sl es, none => (sizeT P e).bind fun n => (bndOr 0 lo).bind fun l => (bndOr es.length hi).bind fun u =>
      if 0 ≤ l ∧ l ≤ u ∧ u ≤ es.length ∧ es.all (fun c => c.length == n) = true then some (.sl ((es.take u.toNat).drop l.toNat)) else none
  | some (.slice e), .hs m off len, none => (sizeT P e).bind fun n => (h m).bind fun kb => (bndOr 0 lo).bind fun l => (bndOr len hi).bind fun u =>
      if 0 ≤ l ∧ l ≤ u ∧ u ≤ len ∧ kb.sz = n then some (.hs m (off + l.toNat) (u.toNat - l.toNat)) else none
  | some (.slice e), .zs, none => (sizeT P e).bind fun n => (bndOr 0 lo).bind fun l => (bndOr 0 hi).bind fun u => if l = 0 ∧ u = 0 then some .zs else none
  | some (.slice e), .zs, some (.int _ m) => (sizeT P e).bind fun n => (bndOr 0 lo).bind fun l => (bndOr (-1) hi).bind fun u => if l = 0 ∧ u = 0 ∧ m = 0 then some .zs else none
  | some (.slice e), .sl _, some (.int _ m) => (sizeT P e).bind fun n => (bndOr 0 lo).bind fun l => (bndOr (-1) hi).bind fun u => if l = 0 ∧ u = 0 ∧ m = 0 then some .zs else none
  | some (.slice e), .hs _ _ _, some (.int _ m) => (sizeT P e).bind fun n => (bndOr 0 lo).bind fun l => (bndOr (-1) hi).bind fun u => if l = 0 ∧ u = 0 ∧ m = 0 then some .zs else none
  | some .string, .str s, none => (bndOr 0 lo).bind fun l => (bndOr s.length hi).bind fun u => if 0 ≤ l ∧ l ≤ u ∧ u ≤ s.length then some (.str ((s.take u.toNat).drop l.toNat)) else none
  | _, _, _ => none
section
variable {σ : Sig} {w : World} {X : Nat → Nat → Prop} {B : Nat}
/-- An optional operand's value. -/
inductive VRo (σ : Sig) (w : World) (X : Nat → Nat → Prop) (B : Nat) : Option AV → Option Value → Prop
  | none : VRo σ w X B none none
  | some (a : AV) (v : Value) (h : VR σ w X B a v) : VRo σ w X B (some a) (some v)
theorem run_bounds {isSlice : Bool} {len cap : Nat} {lo hi : Option AV} {clo chi : Option Value} {l u : Int} (h1 : VRo σ w X B lo clo) (h2 : VRo σ w X B hi chi) (hl : bndOr 0 lo = some l) (hu : bndOr len hi = some u) (h0 : 0 ≤ l) (hlu : l ≤ u) (hul : u ≤ len) (hlc : len ≤ cap) :
    (Instr.sliceBounds isSlice len cap clo chi none).run P w = .ok (l.toNat, u.toNat, cap) w := by
  have hi' : ∀ (c : BoundsCode), (Instr.sliceBounds isSlice len cap clo chi none).run P w = .ok (l.toNat, u.toNat, cap) w := fun _ => by
    cases h2 with
    | none =>
      simp only [bndOr, Option.some.injEq] at hu
      subst hu
      cases h1 with
      | none =>
        simp only [bndOr, Option.some.injEq] at hl
        subst hl
        simp [Instr.sliceBounds]
      | some a v hv =>
        cases a <;> simp only [bndOr] at hl <;> cases hl
        cases hv
        simp [Instr.sliceBounds, Instr.sliceBound, asIntOf, h0, hlu]
    | some b v2 hv2 =>
      cases b <;> simp only [bndOr] at hu <;> cases hu
      cases hv2
      have hu0 : 0 ≤ u := by omega
      have huc : u ≤ (cap : Int) := by omega
      have hut : ((u.toNat : Nat) : Int) = u := by omega
      cases h1 with
      | none =>
        simp only [bndOr, Option.some.injEq] at hl
        subst hl
        simp [Instr.sliceBounds, Instr.sliceBound, asIntOf, hu0, huc]
      | some a v hv =>
        cases a <;> simp only [bndOr] at hl <;> cases hl
        cases hv
        simp [Instr.sliceBounds, Instr.sliceBound, asIntOf, h0, hlu, hu0, huc, hut]
  exact hi' .index
theorem run_bounds3 {isSlice : Bool} {len cap : Nat} {lo hi : Option AV} {clo chi : Option Value} {k : IntKind} (h1 : VRo σ w X B lo clo) (h2 : VRo σ w X B hi chi) (hl : bndOr 0 lo = some 0) (hu : bndOr (-1) hi = some 0) :
    (Instr.sliceBounds isSlice len cap clo chi (some (.int k 0))).run P w = .ok (0, 0, 0) w := by
  cases h2 with
  | none => simp [bndOr] at hu
  | some b v2 hv2 =>
    cases b <;> simp only [bndOr] at hu <;> cases hu
    cases hv2
    cases h1 with
    | none => simp [Instr.sliceBounds, Instr.sliceBound, asIntOf]
    | some a v hv =>
      cases a <;> simp only [bndOr] at hl <;> cases hl
      cases hv
      simp [Instr.sliceBounds, Instr.sliceBound, asIntOf]
theorem octs_extract (s : ByteArray) (l u : Nat) : octs (s.extract l u) = ((octs s).take u).drop l := by
  unfold octs
  rw [← List.map_take, ← List.map_drop, ByteArray.data_extract, Array.toList_extract]
  rw [List.drop_take]
theorem aSlice_ok {w0 : World} {h : AHeap} (hs : SR B w0 σ h w) {t : TypeId} {x v : AV} {cx : Value} {lo hi mx : Option AV} {clo chi cmx : Option Value} (hl : aSlice P h t x lo hi mx = some v) (hx : VR σ w (Held σ h) B x cx)
    (h1 : VRo σ w (Held σ h) B lo clo) (h2 : VRo σ w (Held σ h) B hi chi) (h3 : VRo σ w (Held σ h) B mx cmx) : ∃ cv, (Instr.sliceAt t cx clo chi cmx).run P w = .ok cv w ∧ VR σ w (Held σ h) B v cv := by
  have key : ∀ {e : TypeId} {a : Option Addr} {len cap n l u m : Nat}, P.underlying t = some (.slice e) → sizeT P e = some n → (Instr.sliceBounds true len cap clo chi cmx).run P w = .ok (l, u, m) w →
      (Instr.sliceAt t (.slice a len cap) clo chi cmx).run P w = .ok (.slice (if m = l then a else a.map (·.add (l * n))) (u - l) (m - l)) w := fun hu hn hb => by
    simp [Instr.sliceAt, run_underlying hu, Instr.slice, hb, run_sizeT hn]
  unfold aSlice at hl
  split at hl
  · rename_i e es hu
    cases h3
    simp only [Option.bind_eq_some_iff] at hl
    obtain ⟨n, hn, l, hlo, u, hhi, hl⟩ := hl
    split at hl <;> cases hl
    rename_i hq
    obtain ⟨q1, q2, q3, q4⟩ := hq
    cases hx with
    | sl _ a cap size vs hcap hb g1 g2 =>
    have hlen : ((es.take u.toNat).drop l.toNat).length = u.toNat - l.toNat := by simp; omega
    refine ⟨_, key hu hn (run_bounds h1 h2 hlo hhi q1 q2 q3 hcap), ?_⟩
    rw [← hlen]
    have get : ∀ (i : Nat) (e : List AV), ((es.take u.toNat).drop l.toNat)[i]? = some e → es[l.toNat + i]? = some e := fun i e he => by
      rw [List.getElem?_drop, List.getElem?_take] at he
      split at he
      · exact he
      · cases he
    refine .sl _ _ _ n (fun i j => vs (l.toNat + i) j) (by rw [hlen]; omega) (by rw [hlen]; omega) (fun i e he => ?_) (fun i e he j c hc => g2 _ _ (get i e he) j c hc)
    obtain ⟨g3, ad, rfl, hsp, g4⟩ := g1 _ _ (get i e he)
    have hn' : e.length = n := by simpa using List.all_eq_true.1 q4 e (List.mem_of_getElem? (get i e he))
    have hsz : size = n := by omega
    subst hsz
    have hi := (List.getElem?_eq_some_iff.1 he).1
    rw [hlen] at hi
    obtain ⟨b, o, sp⟩ := ad
    cases hsp
    rw [if_neg (by omega)]
    refine ⟨g3, ⟨b, o + l.toNat * size, none⟩, by simp [Addr.add_none], rfl, fun j c hc => ?_⟩
    obtain ⟨p1, p2, p3, p4⟩ := g4 j c hc
    have ee : o + (l.toNat + i) * size + j = o + l.toNat * size + i * size + j := by rw [Nat.add_mul]; omega
    rw [ee] at p3 p4
    exact ⟨p1, p2, p3, p4⟩
  · rename_i e m off len hu
    cases h3
    simp only [Option.bind_eq_some_iff] at hl
    obtain ⟨n, hn, kb, hh, l, hlo, u, hhi, hl⟩ := hl
    split at hl <;> cases hl
    rename_i hq
    obtain ⟨q1, q2, q3, q4⟩ := hq
    cases hx with
    | hs _ _ _ a cap r hr hcap hb hor =>
    obtain ⟨r', z1, z2, _⟩ := hs.blk m kb hh
    rw [hr] at z1
    cases z1
    refine ⟨_, key hu hn (run_bounds h1 h2 hlo hhi q1 q2 q3 hcap), ?_⟩
    refine .hs m _ _ _ _ r hr (by omega) (by omega) ?_
    by_cases hc : cap - l.toNat = 0
    · exact .inl hc
    · rcases hor with hor | ⟨rfl, hor⟩
      · omega
      · right
        rw [if_neg (by omega)]
        have hrs : r.sz = n := by rw [z2, q4]
        refine ⟨?_, ?_⟩
        · simp [Addr.add_none, hrs, Nat.add_mul, Nat.add_assoc]
        · rw [show off + l.toNat + (cap - l.toNat) = off + cap by omega]
          exact hor
  · rename_i e hu
    cases h3
    simp only [Option.bind_eq_some_iff] at hl
    obtain ⟨n, hn, l, hlo, u, hhi, hl⟩ := hl
    split at hl <;> cases hl
    rename_i hq
    obtain ⟨rfl, rfl⟩ := hq
    cases hx with
    | zs a => exact ⟨_, key hu hn (run_bounds (len := 0) (cap := 0) h1 h2 hlo hhi (by omega) (by omega) (by omega) (by omega)), .zs _⟩
  · rename_i e k m hu
    simp only [Option.bind_eq_some_iff] at hl
    obtain ⟨n, hn, l, hlo, u, hhi, hl⟩ := hl
    split at hl <;> cases hl
    rename_i hq
    obtain ⟨rfl, rfl, rfl⟩ := hq
    cases h3 with
    | some _ _ h3 =>
    cases h3
    cases hx with
    | zs a => exact ⟨_, key hu hn (run_bounds3 h1 h2 hlo hhi), .zs _⟩
  · rename_i e es k m hu
    simp only [Option.bind_eq_some_iff] at hl
    obtain ⟨n, hn, l, hlo, u, hhi, hl⟩ := hl
    split at hl <;> cases hl
    rename_i hq
    obtain ⟨rfl, rfl, rfl⟩ := hq
    cases h3 with
    | some _ _ h3 =>
    cases h3
    cases hx with
    | sl _ a cap size vs hcap hb g1 g2 => exact ⟨_, key hu hn (run_bounds3 h1 h2 hlo hhi), .zs _⟩
  · rename_i e m off len k mm hu
    simp only [Option.bind_eq_some_iff] at hl
    obtain ⟨n, hn, l, hlo, u, hhi, hl⟩ := hl
    split at hl <;> cases hl
    rename_i hq
    obtain ⟨rfl, rfl, rfl⟩ := hq
    cases h3 with
    | some _ _ h3 =>
    cases h3
    cases hx with
    | hs _ _ _ a cap r hr hcap hb hor => exact ⟨_, key hu hn (run_bounds3 h1 h2 hlo hhi), .zs _⟩
  · rename_i s hu
    cases h3
    simp only [Option.bind_eq_some_iff] at hl
    obtain ⟨l, hlo, u, hhi, hl⟩ := hl
    split at hl <;> cases hl
    rename_i hq
    obtain ⟨q1, q2, q3⟩ := hq
    generalize hc : AV.str s = a at hx
    cases hx <;> cases hc
    rename_i s hb
    have hol : (octs s).length = s.size := by
      unfold octs
      rw [List.length_map, Array.length_toList]
      rfl
    rw [hol] at hhi q3
    have hrb := run_bounds (P := P) (isSlice := false) (len := s.size) (cap := s.size) h1 h2 hlo hhi q1 q2 q3 (Nat.le_refl _)
    refine ⟨.string (s.extract l.toNat u.toNat), by simp [Instr.sliceAt, run_underlying hu, Instr.slice, hrb], ?_⟩
    rw [← octs_extract]
    exact .str _ (by simp; omega)
  · cases hl
/-! ### conversions that make no memory -/
def octsOf : List (List AV) → Option (List Int)
  | [] => some []
  | [.int .u8 n] :: es => (octsOf es).map fun l => n :: l
  | _ => none
def aConv (P : Program) (h : AHeap) (src dst : TypeId) (x : AV) : Option AV :=
  match P.underlying src, P.underlying dst, x with
  | some _, some (.int k), .int _ n => some (.int k (k.wrap n))
  | some .string, some .string, .str l => some (.str l)
  | some (.slice e), some .string, .str _ => none
  | some (.slice e), some .string, x => match P.underlying e with
    | some (.int .u8) => (aRow h 1 x).bind fun es => (octsOf es).map .str
    | _ => none
  | _, _, _ => none
theorem octsOf_ok : ∀ {es : List (List AV)} {l : List Int} {vs : List Value}, octsOf es = some l → VRs σ w X B es.flatten vs → vs = l.map (Value.int .u8) ∧ ∀ n ∈ l, 0 ≤ n ∧ n < 256
  | [], l, vs, h, hv => by
    simp [octsOf] at h
    subst h
    have := hv.1
    simp at this
    exact ⟨List.eq_nil_of_length_eq_zero this.symm, by simp⟩
  | e :: es, l, vs, h, hv => by
    unfold octsOf at h
    split at h
    · rename_i heq; cases heq
    · rename_i n es' heq
      cases heq
      obtain ⟨l', hl', rfl⟩ := Option.map_eq_some_iff.1 h
      rw [List.flatten_cons] at hv
      cases vs with
      | nil => have := hv.1; simp at this
      | cons v vs =>
        have h1 := hv.head
        cases h1 with
        | int _ _ hr =>
        obtain ⟨h2, h3⟩ := octsOf_ok hl' (vs := vs) hv.tail
        subst h2
        refine ⟨by simp, fun m hm => ?_⟩
        rcases List.mem_cons.1 hm with rfl | hm
        · obtain ⟨q1, q2⟩ := hr
          simp [IntKind.min, IntKind.max, IntKind.signed, IntKind.bits] at q1 q2
          exact ⟨q1, by omega⟩
        · exact h3 m hm
    · cases h
theorem octs_fold : ∀ (l : List Int) (s : ByteArray), (∀ n ∈ l, 0 ≤ n ∧ n < 256) → octs (l.foldl (fun r n => r.push (UInt8.ofNat n.toNat)) s) = octs s ++ l
  | [], s, _ => by simp
  | n :: l, s, h => by
    rw [List.foldl_cons, octs_fold l _ fun m hm => h m (by simp [hm])]
    have h1 := h n (by simp)
    have : octs (s.push (UInt8.ofNat n.toNat)) = octs s ++ [n] := by
      unfold octs
      simp [ByteArray.push]
      omega
    rw [this]
    simp
theorem aConv_ok {w0 : World} {h : AHeap} (hs : SR B w0 σ h w) {src dst : TypeId} {x v : AV} {cx : Value} (hl : aConv P h src dst x = some v) (hx : VR σ w (Held σ h) B x cx) : ∃ cv, (convert src dst cx).run P w = .ok cv w ∧ VR σ w (Held σ h) B v cv := by
  unfold aConv at hl
  split at hl
  · rename_i d k _ n hs' hd
    cases hl
    cases hx
    exact ⟨_, by simp [convert, run_underlying hs', run_underlying hd, Conv.intToInt], .int _ _ (InR_wrap _ _)⟩
  · rename_i l hs' hd
    cases hl
    refine ⟨cx, ?_, hx⟩
    generalize hc : AV.str l = a at hx
    cases hx <;> cases hc
    simp [convert, run_underlying hs', run_underlying hd]
  · cases hl
  · rename_i _ e hu hd hne
    split at hl <;> try (cases hl; done)
    rename_i he
    simp only [Option.bind_eq_some_iff, Option.map_eq_some_iff] at hl
    obtain ⟨es, hes, l, hl, rfl⟩ := hl
    obtain ⟨a, cap, vs, rfl, hR⟩ := aRow_ok hs hes hx hne
    obtain ⟨rfl, hrg⟩ := octsOf_ok hl hR.rel
    have hlen := hR.length
    rw [List.length_map, Nat.mul_one] at hlen
    have hb := hR.big
    have hfold := octs_fold l ByteArray.empty hrg
    have hsz : (l.foldl (fun r n => r.push (UInt8.ofNat n.toNat)) ByteArray.empty).size = l.length := by
      have := congrArg List.length hfold
      unfold octs at this
      rw [List.length_map, Array.length_toList] at this
      simpa using this
    have hvr : VR σ w (Held σ h) B (.str l) (.string (l.foldl (fun r n => r.push (UInt8.ofNat n.toNat)) ByteArray.empty)) := by
      have := VR.str (σ := σ) (w := w) (X := Held σ h) (B := B) _ (show (l.foldl (fun r n => r.push (UInt8.ofNat n.toNat)) ByteArray.empty).size < big by omega)
      rw [hfold] at this
      simpa [octs] using this
    refine ⟨_, ?_, hvr⟩
    rw [run_convert_bytes_string w src dst e a _ _ hu he hd]
    cases a with
    | none =>
      have h0 : es = [] := by
        apply Classical.byContradiction
        intro hne'
        obtain ⟨ad, h1, _⟩ := hR.at_ hne'
        cases h1
      subst h0
      have : l = [] := List.eq_nil_of_length_eq_zero (by simpa using hlen)
      subst this
      rfl
    | some ad =>
      refine run_bytesToString w ad es.length cap l ?_
      by_cases hne' : es = []
      · subst hne'
        have : l = [] := List.eq_nil_of_length_eq_zero (by simpa using hlen)
        subst this
        rfl
      · obtain ⟨ad', h1, h2, h3⟩ := hR.at_ hne'
        cases h1
        obtain ⟨b, o, sp⟩ := ad
        cases h2
        have := run_loadCells_list (P := P) w ⟨b, o, none⟩ (l.map (Value.int .u8)) (fun j v hv => by
          rw [Addr.add_none]
          exact h3 j v hv)
        rwa [List.length_map, hlen] at this
  · cases hl
/-! ### lengths, the least and the greatest -/
def aLen (P : Program) (t : TypeId) (x : AV) : Option AV :=
  match P.underlying t, x with
  | some (.slice _), .zs => some (.int .i64 0)
  | some (.slice _), .sl es => some (.int .i64 es.length)
  | some (.slice _), .hs _ _ len => some (.int .i64 len)
  | some .string, .str l => some (.int .i64 l.length)
  | _, _ => none
theorem octs_length (s : ByteArray) : (octs s).length = s.size := by
  unfold octs
  rw [List.length_map, Array.length_toList]
  rfl
theorem aLen_ok {t ty : TypeId} {x v : AV} {cx : Value} (h : aLen P t x = some v) (hx : VR σ w X B x cx) : ∃ cv, (Builtin.len_ #[t] ty #[cx]).run P w = .ok cv w ∧ VR σ w X B v cv := by
  unfold aLen at h
  split at h <;> cases h
  · rename_i hu
    cases hx
    exact ⟨goInt 0, by simp [Builtin.len_, run_underlying hu], .int _ _ (by decide)⟩
  · rename_i es hu
    cases hx with
    | sl _ a cap size vs hcap hb h1 h2 => exact ⟨goInt es.length, by simp [Builtin.len_, run_underlying hu], .int _ _ (InR_len hb)⟩
  · rename_i m off len hu
    cases hx with
    | hs _ _ _ a cap r hr hcap hb hor => exact ⟨goInt len, by simp [Builtin.len_, run_underlying hu], .int _ _ (InR_len hb)⟩
  · rename_i l hu
    generalize hc : AV.str l = a at hx
    cases hx <;> cases hc
    rename_i s hb
    rw [octs_length]
    exact ⟨goInt s.size, by simp [Builtin.len_, run_underlying hu], .int _ _ (InR_len hb)⟩
def aMin (x y : AV) : Option AV := match x, y with | .int k a, .int j b => if k = j then some (.int k (if b < a then b else a)) else none | _, _ => none
def aMax (x y : AV) : Option AV := match x, y with | .int k a, .int j b => if k = j then some (.int k (if a < b then b else a)) else none | _, _ => none
theorem aMin_ok {ts : Array TypeId} {ty : TypeId} {x y v : AV} {cx cy : Value} (h : aMin x y = some v) (hx : VR σ w X B x cx) (hy : VR σ w X B y cy) : ∃ cv, (Builtin.min_ ts ty #[cx, cy]).run P w = .ok cv w ∧ VR σ w X B v cv := by
  unfold aMin at h
  split at h <;> try (cases h; done)
  split at h <;> cases h
  subst_vars
  cases hx with
  | int _ _ ha =>
  cases hy with
  | int _ _ hb =>
  refine ⟨_, run_min_int2 w ts ty _ _ _ _, .int _ _ ?_⟩
  split <;> assumption
theorem aMax_ok {ts : Array TypeId} {ty : TypeId} {x y v : AV} {cx cy : Value} (h : aMax x y = some v) (hx : VR σ w X B x cx) (hy : VR σ w X B y cy) : ∃ cv, (Builtin.max_ ts ty #[cx, cy]).run P w = .ok cv w ∧ VR σ w X B v cv := by
  unfold aMax at h
  split at h <;> try (cases h; done)
  split at h <;> cases h
  subst_vars
  cases hx with
  | int _ _ ha =>
  cases hy with
  | int _ _ hb =>
  refine ⟨_, run_max_int2 w ts ty _ _ _ _, .int _ _ ?_⟩
  split <;> assumption
end
end Go.Proofs.YtjidgdfdeckofaaDoor.AE
/- An operation on abstract values, and that the model's does the like. No program in sight. -/
namespace Go.Proofs.YtjidgdfdeckofaaDoor.AE
open Go Go.RowKit
set_option linter.unusedVariables false
set_option linter.unusedSimpArgs false
variable {P : Program}
def evA (tm : Nat → AV) : Operand → AV
  | .tmp t => tm t
  | .const v => avOf v
  | .func f => .fn (.func f) [] []
  | .global _ => .undef
def pickA (c : Bool) (a b : AV) : AV :=
  match a, b with
  | .bool x, .bool y => .bool (if c = true then x else y)
  | a, b => if c = true then a else b
def AV.okPart : AV → Bool
  | .undef | .tup _ => false
  | _ => true
/-- A text's octets, in a row of one's own. -/
def aBytes (P : Program) (h : AHeap) (k : Nat) (src dst : TypeId) (x : AV) : Option (AV × AHeap) :=
  match P.underlying src, P.underlying dst, x with
  | some .string, some (.slice e), .str l => match P.underlying e with
    | some (.int .u8) => some (.hs k 0 l.length, upd h k (some ⟨1, l.map fun c => [.int .u8 c]⟩))
    | _ => none
  | _, _, _ => none
def elemT (P : Program) (t : TypeId) : Option TypeId := match P.underlying t with
  | some (.slice e) => some e
  | _ => none
def aBuiltin (P : Program) (h : AHeap) (k : Nat) (b : Builtin) (ts : List TypeId) (args : List AV) : Option (AV × AHeap × Nat) :=
  match b, ts, args with
  | .len, [t], [x] => (aLen P t x).map fun v => (v, h, k)
  | .cap, [t], [.zs] => if (elemT P t).isSome = true then some (.int .i64 0, h, k) else none
  | .append, [t, tx], [x, y] => (aAppend P h k t tx x y).map fun r => (r.1, r.2, k + 1)
  | .copy, [t, tx], [x, y] => (aCopy P h t tx x y).map fun r => (r.1, r.2, k)
  | .clear, [t], [x] => (aClear P h t x).map fun h' => (.tup [], h', k)
  | .min, _, [x, y] => (aMin x y).map fun v => (v, h, k)
  | .max, _, [x, y] => (aMax x y).map fun v => (v, h, k)
  | _, _, _ => none
def aop (P : Program) (o : Op) (tm : Nat → AV) (h : AHeap) (k : Nat) : Option (AV × AHeap × Nat) :=
  match o with
  | .move x => some (evA tm x, h, k)
  | .assign x => some (evA tm x, h, k)
  | .pick c a b => match evA tm c with
    | .bool c => some (pickA c (evA tm a) (evA tm b), h, k)
    | _ => none
  | .alloc t => (aAlloc P h k t).map fun r => (r.1, r.2, k + 1)
  | .box _ x => (aBox h k (evA tm x)).map fun r => (r.1, r.2, k + 1)
  | .build t ps => if (ps.toList.all fun p => (evA tm p.2).okPart) = true then (aBuild P t (ps.toList.map fun p => (p.1, evA tm p.2))).map fun v => (v, h, k) else none
  | .buildSlice t len ps => (aBuildSlice P h k t len (ps.toList.map fun p => (p.1, evA tm p.2))).map fun r => (r.1, r.2, k + 1)
  | .load t a => (aLoad P h t (evA tm a)).map fun v => (v, h, k)
  | .store t a x => (aStore P h t (evA tm a) (evA tm x)).map fun h' => (.undef, h', k)
  | .nilCheck x => match evA tm x with
    | .ptr n e j => some (.ptr n e j, h, k)
    | .ip cs => some (.ip cs, h, k)
    | _ => none
  | .binOp op t x y _ => (aBin P op t (evA tm x) (evA tm y)).map fun v => (v, h, k)
  | .unOp op _ x => (aUn op (evA tm x)).map fun v => (v, h, k)
  | .convert s d x => match aConv P h s d (evA tm x) with
    | some v => some (v, h, k)
    | none => (aBytes P h k s d (evA tm x)).map fun r => (r.1, r.2, k + 1)
  | .makeInterface t x => if P.concrete t = true then some (.iface t (evA tm x), h, k) else none
  | .makeFunc f as bs => some (.fn f (as.toList.map (evA tm)) (bs.toList.map (evA tm)), h, k)
  | .makeSlice t l c => (aMake P h k t (evA tm l) (evA tm c)).map fun r => (r.1, r.2, k + 1)
  | .slice t x lo hi mx => (aSlice P h t (evA tm x) (lo.map (evA tm)) (hi.map (evA tm)) (mx.map (evA tm))).map fun v => (v, h, k)
  | .fieldAddr t x f => (aField P t (evA tm x) f).map fun v => (v, h, k)
  | .field t x f => (aFieldOf P t (evA tm x) f).map fun v => (v, h, k)
  | .indexAddr t x i => (aIndexAddr P h t (evA tm x) (evA tm i)).map fun v => (v, h, k)
  | .index t x i => (aIndex P t (evA tm x) (evA tm i)).map fun v => (v, h, k)
  | .extract x i => (aExtract (evA tm x) i).map fun v => (v, h, k)
  | .call ⟨.builtin b, args, ts⟩ => aBuiltin P h k b ts.toList (args.toList.map (evA tm))
  | _ => none
section
variable {σ : Sig} {w w0 : World} {X : Nat → Nat → Prop} {B : Nat} {h h' : AHeap} {k k' : Nat} {tm : Nat → AV} {act : Act}
/-- What the temporaries hold. -/
def TR (σ : Sig) (w : World) (X : Nat → Nat → Prop) (B : Nat) (tm : Nat → AV) (tmps : Array Value) : Prop := ∀ t, VR σ w X B (tm t) (tmps.getD t undef)
theorem TR.put {tmps : Array Value} (ht : TR σ w X B tm tmps) {d : Nat} (hd : d < tmps.size) {a : AV} {v : Value} (hv : VR σ w X B a v) : TR σ w X B (upd tm d a) (tmps.setIfInBounds d v) := fun t => by
  by_cases e : t = d
  · subst e
    rw [upd_same]
    simp [Array.getD, hd]
    exact hv
  · rw [upd_ne _ _ _ e]
    have := ht t
    have h2 : (tmps.setIfInBounds d v).getD t undef = tmps.getD t undef := by
      simp only [Array.getD_eq_getD_getElem?]
      rw [Array.getElem?_setIfInBounds_ne (by omega)]
    rw [h2]
    exact this
theorem TR.eval (ht : TR σ w X B tm act.tmps) (o : Operand) : VR σ w X B (evA tm o) (act.eval o) := by
  cases o with
  | tmp t => exact ht t
  | const v => exact .of v
  | func f => exact .fn _ [] [] #[] #[] rfl rfl (fun j c v h => by simp at h) (fun j c v h => by simp at h)
  | global g => exact .undef _
theorem VR.pick {c : Bool} {a b : AV} {va vb : Value} (ha : VR σ w X B a va) (hb : VR σ w X B b vb) : VR σ w X B (pickA c a b) (if c then va else vb) := by
  unfold pickA
  split
  · cases ha; cases hb
    cases c
    · exact .bool _
    · exact .bool _
  · cases c
    · exact hb
    · exact ha
/-- A new row in whatever world has it behind all that was there. -/
theorem SR.rowW (hs : SR B w0 σ h w) (k : Nat) (hk : σ k = none) (es : List (List AV)) (sz : Nat) (hsz : ∀ e ∈ es, e.length = sz) (hbig : es.length < big) (vs rest : List Value) (t : TypeId) (fz : Nat × Nat)
    (hv : VRs σ w (Held σ h) B es.flatten vs) (h1 : ∀ e ∈ es, ∀ a ∈ e, a.one = true) (w' : World) (hw : w'.heap = w.heap.push (.cells (vs ++ rest).toArray t fz)) (ho : w'.os = w.os) (hta : w'.tape = w.tape) (hou : w'.output = w.output)
    (hfz : fz.2 ≤ fz.1 ∨ (vs ++ rest).length ≤ fz.1) :
    SR B w0 (upd σ k (some ⟨w.heap.size, 0, (vs ++ rest).length, sz⟩)) (upd h k (some ⟨sz, es⟩)) w' ∧
      Kv σ w (Held σ h) B (upd σ k (some ⟨w.heap.size, 0, (vs ++ rest).length, sz⟩)) w' (Held (upd σ k (some ⟨w.heap.size, 0, (vs ++ rest).length, sz⟩)) (upd h k (some ⟨sz, es⟩))) := by
  have lt : ∀ b i, (w.cell? ⟨b, i, none⟩).isSome = true → b < w.heap.size := fun b i hb => by
    rcases Nat.lt_or_ge b w.heap.size with q | q
    · exact q
    · simp [World.cell?, Array.getElem?_eq_none q] at hb
  have old : ∀ b, b < w.heap.size → w'.heap[b]? = w.heap[b]? := fun b hb => by rw [hw, Array.getElem?_push, if_neg (by omega)]
  have new : w'.heap[w.heap.size]? = some (.cells (vs ++ rest).toArray t fz) := by rw [hw]; simp
  have := hs.turn (w' := w') (fun _ => false) k ⟨w.heap.size, 0, (vs ++ rest).length, sz⟩ ⟨sz, es⟩ (.inl hk)
    ⟨ho, hta, hou, by rw [hw]; simp, fun b hb => old b (Nat.lt_of_lt_of_le hb hs.hB)⟩
    (fun b i v hv _ => by rw [World.cell?_of_block (w := w) (a := ⟨b, i, none⟩) (old b (lt b i (by rw [hv]; rfl)))]; exact hv)
    (fun b i hb => World.frozen?_of_block (w := w) (a := ⟨b, i, none⟩) (old b (lt b i hb))) (.old (by rw [hw]; simp) old) hs.hB
    (fun i hi => ⟨by
        have hi2 := hi.2.2
        simp only [Nat.zero_add] at hi2
        simp only [World.cell?, new]
        rw [List.length_append] at hi2
        simp
        omega, by
        have hi2 := hi.2.2
        simp only [Nat.zero_add] at hi2
        simp only [World.frozen?, new]
        simp
        omega, .inl (by simp [World.cell?])⟩) rfl (by
      have h2 := flatten_length hsz
      have h3 := hv.1
      simp
      omega) hbig
    (fun i e he => ⟨hsz e (List.mem_of_getElem? he), fun j a ha => by
      obtain ⟨v, h3, h4⟩ := hv.get (flatten_get hsz he ha)
      have hone := h1 e (List.mem_of_getElem? he) a (List.mem_of_getElem? ha)
      have hl := (List.getElem?_eq_some_iff.1 h3).1
      refine ⟨hone, v, h4.oneCell hone, ?_, h4⟩
      simp only [World.cell?, new]
      simp only [Nat.zero_add, List.getElem?_toArray, Option.isSome_none, Bool.false_eq_true, if_false]
      rw [List.getElem?_append_left hl]
      exact h3⟩)
  simpa using this
theorem octs_cells (s : ByteArray) : VRs σ w X B ((octs s).map fun c => [AV.int .u8 c]).flatten (byteCells s) ∧ (∀ e ∈ (octs s).map fun c => [AV.int .u8 c], ∀ a ∈ e, a.one = true) ∧ ∀ e ∈ (octs s).map fun c => [AV.int .u8 c], e.length = 1 := by
  refine ⟨?_, fun e he a ha => ?_, fun e he => ?_⟩
  · have e2 : ((octs s).map fun c => [AV.int .u8 c]).flatten = s.data.toList.map fun b => AV.int .u8 (b.toNat : Int) := by
      unfold octs
      rw [List.map_map]
      induction s.data.toList with
      | nil => rfl
      | cons b l ih => simp [ih]
    rw [e2]
    refine ⟨by simp [byteCells], fun j c v hc hv => ?_⟩
    unfold byteCells at hv
    rw [List.getElem?_map] at hc hv
    cases hb : s.data.toList[j]? with
    | none => simp [hb] at hc
    | some b =>
      simp only [hb, Option.map_some, Option.some.injEq] at hc hv
      subst hc hv
      refine .int _ _ ⟨?_, ?_⟩
      · simp [IntKind.min, IntKind.signed]
      · have := b.toNat_lt
        simp [IntKind.max, IntKind.signed, IntKind.bits]
        omega
  · obtain ⟨c, _, rfl⟩ := List.mem_map.1 he
    simp at ha
    subst ha
    rfl
  · obtain ⟨c, _, rfl⟩ := List.mem_map.1 he
    rfl
theorem aBytes_ok (hs : SR B w0 σ h w) (hk : σ k = none) {src dst : TypeId} {x v : AV} {cx : Value} (hl : aBytes P h k src dst x = some (v, h')) (hx : VR σ w (Held σ h) B x cx) :
    ∃ cv w', (convert src dst cx).run P w = .ok cv w' ∧ Out B w0 σ h w k (k + 1) v h' cv w' := by
  unfold aBytes at hl
  split at hl <;> try (cases hl; done)
  rename_i e l hsrc hdst
  split at hl <;> cases hl
  rename_i he
  generalize hc : AV.str l = a at hx
  cases hx <;> cases hc
  rename_i s hb
  obtain ⟨q1, q2, q3⟩ := octs_cells (σ := σ) (w := w) (X := Held σ h) (B := B) s
  have hrun := Go.Lib.run_convert_string_bytes (P := P) w src dst e s hsrc hdst he
  have hcap := grownCap_ge w s.size 0 e
  have hbc : Go.Lib.bytesCells w e s = (byteCells s ++ List.replicate (grownCap w s.size 0 e - s.size) (Value.int .u8 0)).toArray := by
    apply Array.ext'
    simp [Go.Lib.bytesCells, byteCells]
  have hcl : (byteCells s ++ List.replicate (grownCap w s.size 0 e - s.size) (Value.int .u8 0)).length = grownCap w s.size 0 e := by
    rw [List.length_append, byteCells_length, List.length_replicate]
    omega
  have hheap : (Go.Lib.bytesWorld w e s).heap = w.heap.push (.cells (byteCells s ++ List.replicate (grownCap w s.size 0 e - s.size) (Value.int .u8 0)).toArray e ((byteCells s ++ List.replicate (grownCap w s.size 0 e - s.size) (Value.int .u8 0)).length, (byteCells s ++ List.replicate (grownCap w s.size 0 e - s.size) (Value.int .u8 0)).length + 1)) := by
    apply Array.ext_getElem?
    intro i
    rcases Nat.lt_trichotomy i w.heap.size with hi | hi | hi
    · rw [Go.Lib.bytesWorld_at_old w e s i hi, Array.getElem?_push, if_neg (by omega)]
    · subst hi
      rw [Go.Lib.bytesWorld_at_new, hbc]
      simp
    · rw [Array.getElem?_eq_none (by rw [Go.Lib.bytesWorld_size]; omega), Array.getElem?_eq_none (by simp; omega)]
  have hos : (Go.Lib.bytesWorld w e s).os = w.os ∧ (Go.Lib.bytesWorld w e s).tape = w.tape ∧ (Go.Lib.bytesWorld w e s).output = w.output := by
    unfold Go.Lib.bytesWorld World.freeze
    split <;> exact ⟨rfl, rfl, rfl⟩
  obtain ⟨r1, r2⟩ := hs.rowW k hk _ 1 q3 (by rw [List.length_map, octs_length]; exact hb) (byteCells s) (List.replicate (grownCap w s.size 0 e - s.size) (Value.int .u8 0)) e _ q1 q2 (Go.Lib.bytesWorld w e s) hheap hos.1 hos.2.1 hos.2.2 (.inr (Nat.le_refl _))
  refine ⟨_, _, hrun, _, r1, fun n hn => upd_ne _ _ _ (by omega), r2, ?_⟩
  rw [octs_length]
  exact VR.row hcap hb (by rw [hcl]; omega)
end
end Go.Proofs.YtjidgdfdeckofaaDoor.AE
/- An operation on abstract values: the model's does the like. No program in sight. -/
namespace Go.Proofs.YtjidgdfdeckofaaDoor.AE
open Go Go.RowKit
set_option linter.unusedVariables false
set_option linter.unusedSimpArgs false
variable {P : Program}
section
variable {σ : Sig} {w w0 : World} {X : Nat → Nat → Prop} {B : Nat} {h h' : AHeap} {k k' : Nat} {tm : Nat → AV} {act : Act}
/-- What an operation yields: a value, or nothing. -/
def Gives (r : Result Next) (cv : Value) (w' : World) : Prop := r = .ok (.value cv) w' ∨ (r = .ok .skip w' ∧ cv = undef)
theorem Gives.of {s : Sem Value} {cv : Value} {w' : World} (h : s.run P w = .ok cv w') : Gives ((do pure (.value (← s)) : Sem Next).run P w) cv w' := .inl (by rw [Sem.run_bind, h]; rfl)
theorem VRo.of {tm : Nat → AV} (ht : TR σ w X B tm act.tmps) (o : Option Operand) : VRo σ w X B (o.map (evA tm)) (o.map act.eval) := by
  cases o with
  | none => exact .none
  | some o => exact .some _ _ (ht.eval o)
theorem parts_rel (ht : TR σ w X B tm act.tmps) (ps : Array (Nat × Operand)) :
    (ps.toList.map fun p => (p.1, evA tm p.2)).map (·.1) = (ps.toList.map fun p => (p.1, act.eval p.2)).map (·.1) ∧
    ∀ (j : Nat) (p : Nat × AV) (q : Nat × Value), (ps.toList.map fun p => (p.1, evA tm p.2))[j]? = some p → (ps.toList.map fun p => (p.1, act.eval p.2))[j]? = some q → VR σ w X B p.2 q.2 := by
  refine ⟨by simp, fun j p q h1 h2 => ?_⟩
  rw [List.getElem?_map] at h1 h2
  cases hj : ps.toList[j]? with
  | none => rw [hj] at h1; cases h1
  | some o =>
    rw [hj] at h1 h2
    cases h1
    cases h2
    exact ht.eval _
theorem args_rel (ht : TR σ w X B tm act.tmps) (as : Array Operand) : VRs σ w X B (as.toList.map (evA tm)) ((as.map act.eval).toList) := by
  refine ⟨by simp, fun j c v h1 h2 => ?_⟩
  rw [Array.toList_map, List.getElem?_map] at h2
  rw [List.getElem?_map] at h1
  cases hj : as.toList[j]? with
  | none => rw [hj] at h1; cases h1
  | some o =>
    rw [hj] at h1 h2
    cases h1
    cases h2
    exact ht.eval _
theorem VRs.one {c : AV} {vs : List Value} (h : VRs σ w X B [c] vs) : ∃ v, vs = [v] ∧ VR σ w X B c v := by
  obtain ⟨v, h1, h2⟩ := h.get (j := 0) rfl
  have := h.1
  cases vs with
  | nil => cases h1
  | cons u us =>
    cases us with
    | nil => exact ⟨u, rfl, h.head⟩
    | cons _ _ => simp at this
theorem VRs.two {c d : AV} {vs : List Value} (h : VRs σ w X B [c, d] vs) : ∃ v u, vs = [v, u] ∧ VR σ w X B c v ∧ VR σ w X B d u := by
  cases vs with
  | nil => have := h.1; simp at this
  | cons v us =>
    obtain ⟨u, rfl, hu⟩ := h.tail.one
    exact ⟨v, u, rfl, h.head, hu⟩
theorem aBuiltin_ok (hs : SR B w0 σ h w) (hf : ∀ n, k ≤ n → n < k' → σ n = none) {b : Builtin} {ts : Array TypeId} {args : List AV} {vs : Array Value} {ty : TypeId} {v : AV} (hl : aBuiltin P h k b ts.toList args = some (v, h', k'))
    (hv : VRs σ w (Held σ h) B args vs.toList) : ∃ cv w', (∀ consts, Gives ((builtin b ts ty consts vs).run P w) cv w') ∧ Out B w0 σ h w k k' v h' cv w' := by
  obtain ⟨tl⟩ := ts
  obtain ⟨vl⟩ := vs
  simp only at hl hv
  unfold aBuiltin at hl
  split at hl
  · obtain ⟨v', h1, h2⟩ := Option.map_eq_some_iff.1 hl
    cases h2
    obtain ⟨u, rfl, hu⟩ := hv.one
    obtain ⟨cv, h3, h4⟩ := aLen_ok (P := P) (ty := ty) h1 hu
    exact ⟨cv, w, fun _ => Gives.of h3, Out.same hs h4⟩
  · split at hl <;> cases hl
    rename_i ht
    obtain ⟨u, rfl, hu⟩ := hv.one
    cases hu with
    | zs a =>
      unfold elemT at ht
      split at ht
      · rename_i t _ e he
        have h3 : (Builtin.cap_ #[t] ty #[.slice a 0 0]).run P w = .ok (goInt 0) w := by simp [Builtin.cap_, run_underlying he]
        exact ⟨goInt 0, w, fun _ => Gives.of h3, Out.same hs (.int _ _ (by decide))⟩
      · cases ht
  · obtain ⟨⟨v', h''⟩, h1, h2⟩ := Option.map_eq_some_iff.1 hl
    cases h2
    obtain ⟨u, x, rfl, hu, hx⟩ := hv.two
    obtain ⟨cv, w', h3, h4⟩ := aAppend_ok (P := P) (ty := ty) hs (hf k (Nat.le_refl _) (by omega)) h1 hu hx
    exact ⟨cv, w', fun _ => Gives.of h3, h4⟩
  · obtain ⟨⟨v', h''⟩, h1, h2⟩ := Option.map_eq_some_iff.1 hl
    cases h2
    obtain ⟨u, x, rfl, hu, hx⟩ := hv.two
    obtain ⟨cv, w', h3, h4⟩ := aCopy_ok (P := P) (ty := ty) (k := k) hs h1 hu hx
    exact ⟨cv, w', fun _ => Gives.of h3, h4⟩
  · obtain ⟨h'', h1, h2⟩ := Option.map_eq_some_iff.1 hl
    cases h2
    obtain ⟨u, rfl, hu⟩ := hv.one
    obtain ⟨w', h3, h4⟩ := aClear_ok (P := P) (ty := ty) (k := k) hs h1 hu
    exact ⟨_, w', fun _ => Gives.of h3, h4⟩
  · obtain ⟨v', h1, h2⟩ := Option.map_eq_some_iff.1 hl
    cases h2
    obtain ⟨u, x, rfl, hu, hx⟩ := hv.two
    obtain ⟨cv, h3, h4⟩ := aMin_ok (P := P) (ts := ⟨tl⟩) (ty := ty) h1 hu hx
    exact ⟨cv, w, fun _ => Gives.of h3, Out.same hs h4⟩
  · obtain ⟨v', h1, h2⟩ := Option.map_eq_some_iff.1 hl
    cases h2
    obtain ⟨u, x, rfl, hu, hx⟩ := hv.two
    obtain ⟨cv, h3, h4⟩ := aMax_ok (P := P) (ts := ⟨tl⟩) (ty := ty) h1 hu hx
    exact ⟨cv, w, fun _ => Gives.of h3, Out.same hs h4⟩
  · cases hl
theorem build_run (t : TypeId) (ps : Array (Nat × Operand)) (ρ : Operand → Value) (dst : Option Tmp) (ty : TypeId) (pos : String) (after : Array Edge) (guard : Option (Nat × Bool)) :
    execOp ρ ⟨dst, .build t ps, ty, pos, after, guard⟩ = (do pure (.value (← Instr.build t (ps.toList.map fun p => (p.1, ρ p.2)).toArray)) : Sem Next) := by
  have : (ps.map fun x => (x.1, ρ x.2)) = (ps.toList.map fun p => (p.1, ρ p.2)).toArray := by
    apply Array.ext'
    simp
  rw [← this]
  rfl
theorem buildSlice_run (t : TypeId) (len : Nat) (ps : Array (Nat × Operand)) (ρ : Operand → Value) (dst : Option Tmp) (ty : TypeId) (pos : String) (after : Array Edge) (guard : Option (Nat × Bool)) :
    execOp ρ ⟨dst, .buildSlice t len ps, ty, pos, after, guard⟩ = (do pure (.value (← Instr.buildSlice t len (ps.toList.map fun p => (p.1, ρ p.2)).toArray)) : Sem Next) := by
  have : (ps.map fun x => (x.1, ρ x.2)) = (ps.toList.map fun p => (p.1, ρ p.2)).toArray := by
    apply Array.ext'
    simp
  rw [← this]
  rfl
set_option maxHeartbeats 4000000 in
theorem aop_ok {o : Oper} {v : AV} (hs : SR B w0 σ h w) (ht : TR σ w (Held σ h) B tm act.tmps) (hf : ∀ n, k ≤ n → n < k' → σ n = none) (hl : aop P o.op tm h k = some (v, h', k')) :
    ∃ cv w', Gives ((execOp act.eval o).run P w) cv w' ∧ Out B w0 σ h w k k' v h' cv w' := by
  obtain ⟨dst, op, ty, pos, after, guard⟩ := o
  simp only at hl
  cases op with
  | move x =>
    simp only [aop, Option.some.injEq, Prod.mk.injEq] at hl
    obtain ⟨rfl, rfl, rfl⟩ := hl
    exact ⟨_, _, .inl rfl, Out.same hs (ht.eval x)⟩
  | assign x =>
    simp only [aop, Option.some.injEq, Prod.mk.injEq] at hl
    obtain ⟨rfl, rfl, rfl⟩ := hl
    exact ⟨_, _, .inl rfl, Out.same hs (ht.eval x)⟩
  | pick c a b =>
    simp only [aop] at hl
    split at hl <;> try (cases hl; done)
    rename_i cb hc
    cases hl
    have h1 := ht.eval c
    rw [hc] at h1
    generalize hcc : act.eval c = cc at h1
    cases h1
    refine ⟨_, w, .inl ?_, Out.same hs (VR.pick (ht.eval a) (ht.eval b))⟩
    simp [execOp, hcc, asBool]
  | alloc t =>
    simp only [aop, Option.map_eq_some_iff] at hl
    obtain ⟨⟨v', h''⟩, h1, h2⟩ := hl
    cases h2
    obtain ⟨cv, w', h3, h4⟩ := aAlloc_ok hs (hf k (Nat.le_refl _) (by omega)) h1
    exact ⟨cv, w', Gives.of h3, h4⟩
  | box t x =>
    simp only [aop, Option.map_eq_some_iff] at hl
    obtain ⟨⟨v', h''⟩, h1, h2⟩ := hl
    cases h2
    obtain ⟨cv, w', h3, h4⟩ := aBox_ok (P := P) (t := t) hs (hf k (Nat.le_refl _) (by omega)) h1 (ht.eval x)
    exact ⟨cv, w', Gives.of h3, h4⟩
  | build t ps =>
    simp only [aop] at hl
    split at hl <;> try (cases hl; done)
    rename_i hall
    obtain ⟨v', h1, h2⟩ := Option.map_eq_some_iff.1 hl
    cases h2
    obtain ⟨p1, p2⟩ := parts_rel ht ps
    obtain ⟨cv, h3, h4⟩ := aBuild_ok (P := P) (w := w) (cparts := ps.toList.map fun p => (p.1, act.eval p.2)) h1 p1 (fun j p q hp hq => ⟨by
      rw [List.getElem?_map] at hp
      obtain ⟨o, ho, rfl⟩ := Option.map_eq_some_iff.1 hp
      have := List.all_eq_true.1 hall o (List.mem_of_getElem? ho)
      cases hq : evA tm o.2 <;> simp_all [AV.okPart, AV.one], p2 j p q hp hq⟩)
    exact ⟨cv, w, by rw [build_run]; exact Gives.of h3, Out.same hs h4⟩
  | buildSlice t len ps =>
    simp only [aop, Option.map_eq_some_iff] at hl
    obtain ⟨⟨v', h''⟩, h1, h2⟩ := hl
    cases h2
    obtain ⟨p1, p2⟩ := parts_rel ht ps
    obtain ⟨cv, w', h3, h4⟩ := aBuildSlice_ok (P := P) (cparts := ps.toList.map fun p => (p.1, act.eval p.2)) hs (hf k (Nat.le_refl _) (by omega)) h1 p1 p2
    exact ⟨cv, w', by rw [buildSlice_run]; exact Gives.of h3, h4⟩
  | load t a =>
    simp only [aop, Option.map_eq_some_iff] at hl
    obtain ⟨v', h1, h2⟩ := hl
    cases h2
    obtain ⟨cv, h3, h4⟩ := aLoad_ok (P := P) hs h1 (ht.eval a)
    exact ⟨cv, w, Gives.of h3, Out.same hs h4⟩
  | store t a x =>
    simp only [aop, Option.map_eq_some_iff] at hl
    obtain ⟨h'', h1, h2⟩ := hl
    cases h2
    obtain ⟨w', h3, h4, h5⟩ := aStore_ok (P := P) hs h1 (ht.eval a) (ht.eval x)
    refine ⟨undef, w', .inr ⟨?_, rfl⟩, σ, h4, fun _ _ => rfl, h5, .undef _⟩
    simp only [execOp, Sem.run_bind, h3, Result.andThen_ok]
    rfl
  | nilCheck x =>
    simp only [aop] at hl
    have h1 := ht.eval x
    split at hl <;> try (cases hl; done)
    · rename_i n e j hx
      cases hl
      rw [hx] at h1
      have h1' := h1
      generalize hcc : act.eval x = cc at h1
      cases h1
      refine ⟨_, w, .inl ?_, Out.same hs (hcc ▸ h1')⟩
      simp [execOp, hcc]
    · rename_i cs hx
      cases hl
      rw [hx] at h1
      obtain ⟨b, o, hcc⟩ := h1.ip_iff
      refine ⟨_, w, .inl ?_, Out.same hs (hcc ▸ h1)⟩
      simp [execOp, hcc]
  | binOp op t x y _ =>
    simp only [aop, Option.map_eq_some_iff] at hl
    obtain ⟨v', h1, h2⟩ := hl
    cases h2
    obtain ⟨cv, h3, h4⟩ := aBin_ok (P := P) h1 (ht.eval x) (ht.eval y) x y
    exact ⟨cv, w, Gives.of h3, Out.same hs h4⟩
  | unOp op _ x =>
    simp only [aop, Option.map_eq_some_iff] at hl
    obtain ⟨v', h1, h2⟩ := hl
    cases h2
    obtain ⟨cv, h3, h4⟩ := aUn_ok (P := P) h1 (ht.eval x)
    exact ⟨cv, w, Gives.of h3, Out.same hs h4⟩
  | convert s d x =>
    simp only [aop] at hl
    split at hl
    · rename_i v' h1
      cases hl
      obtain ⟨cv, h3, h4⟩ := aConv_ok (P := P) hs h1 (ht.eval x)
      exact ⟨cv, w, Gives.of h3, Out.same hs h4⟩
    · obtain ⟨⟨v', h''⟩, h1, h2⟩ := Option.map_eq_some_iff.1 hl
      cases h2
      obtain ⟨cv, w', h3, h4⟩ := aBytes_ok (P := P) hs (hf k (Nat.le_refl _) (by omega)) h1 (ht.eval x)
      exact ⟨cv, w', Gives.of h3, h4⟩
  | makeInterface t x =>
    simp only [aop] at hl
    split at hl <;> cases hl
    rename_i hc
    exact ⟨_, w, Gives.of (run_makeInterface w t _ hc), Out.same hs (.iface _ _ _ (ht.eval x))⟩
  | makeFunc f as bs =>
    simp only [aop, Option.some.injEq, Prod.mk.injEq] at hl
    obtain ⟨rfl, rfl, rfl⟩ := hl
    have h1 := args_rel ht as
    have h2 := args_rel ht bs
    refine ⟨.func f (as.map act.eval) (bs.map act.eval), w, .inl rfl, Out.same hs (.fn f _ _ _ _ (by simp) (by simp) (fun j c v hc hv => h1.2 j c v hc (by simpa using hv)) (fun j c v hc hv => h2.2 j c v hc (by simpa using hv)))⟩
  | makeSlice t l c =>
    simp only [aop, Option.map_eq_some_iff] at hl
    obtain ⟨⟨v', h''⟩, h1, h2⟩ := hl
    cases h2
    obtain ⟨cv, w', h3, h4⟩ := aMake_ok (P := P) hs (hf k (Nat.le_refl _) (by omega)) h1 (ht.eval l) (ht.eval c)
    exact ⟨cv, w', Gives.of h3, h4⟩
  | slice t x lo hi mx =>
    simp only [aop, Option.map_eq_some_iff] at hl
    obtain ⟨v', h1, h2⟩ := hl
    cases h2
    obtain ⟨cv, h3, h4⟩ := aSlice_ok (P := P) hs h1 (ht.eval x) (VRo.of ht lo) (VRo.of ht hi) (VRo.of ht mx)
    exact ⟨cv, w, Gives.of h3, Out.same hs h4⟩
  | fieldAddr t x f =>
    simp only [aop, Option.map_eq_some_iff] at hl
    obtain ⟨v', h1, h2⟩ := hl
    cases h2
    obtain ⟨cv, h3, h4⟩ := aField_ok (P := P) (w := w) h1 (ht.eval x)
    exact ⟨cv, w, Gives.of h3, Out.same hs h4⟩
  | field t x f =>
    simp only [aop, Option.map_eq_some_iff] at hl
    obtain ⟨v', h1, h2⟩ := hl
    cases h2
    obtain ⟨cv, h3, h4⟩ := aFieldOf_ok (P := P) (w := w) h1 (ht.eval x)
    exact ⟨cv, w, Gives.of h3, Out.same hs h4⟩
  | indexAddr t x i =>
    simp only [aop, Option.map_eq_some_iff] at hl
    obtain ⟨v', h1, h2⟩ := hl
    cases h2
    obtain ⟨cv, h3, h4⟩ := aIndexAddr_ok (P := P) hs h1 (ht.eval x) (ht.eval i)
    exact ⟨cv, w, Gives.of h3, Out.same hs h4⟩
  | index t x i =>
    simp only [aop, Option.map_eq_some_iff] at hl
    obtain ⟨v', h1, h2⟩ := hl
    cases h2
    obtain ⟨cv, h3, h4⟩ := aIndex_ok (P := P) (w := w) h1 (ht.eval x) (ht.eval i)
    exact ⟨cv, w, Gives.of h3, Out.same hs h4⟩
  | extract x i =>
    simp only [aop, Option.map_eq_some_iff] at hl
    obtain ⟨v', h1, h2⟩ := hl
    cases h2
    obtain ⟨cv, h3, h4⟩ := aExtract_ok (P := P) (w := w) h1 (ht.eval x)
    exact ⟨cv, w, Gives.of h3, Out.same hs h4⟩
  | call c =>
    obtain ⟨callee, args, ts⟩ := c
    cases callee with
    | builtin b =>
      simp only [aop] at hl
      obtain ⟨cv, w', h3, h4⟩ := aBuiltin_ok (P := P) hs hf (vs := args.map act.eval) (ty := ty) hl (args_rel ht args)
      refine ⟨cv, w', ?_, h4⟩
      simp only [execOp, resolve, pure_bind, invoke]
      exact h3 _
    | _ => simp [aop] at hl
  | _ => simp [aop] at hl
end
end Go.Proofs.YtjidgdfdeckofaaDoor.AE
/- Code on abstract values: what holds of the abstract walk holds of the model's. No program in sight. -/
namespace Go.Proofs.YtjidgdfdeckofaaDoor.AE
open Go Go.RowKit
set_option linter.unusedVariables false
set_option linter.unusedSimpArgs false
variable {P : Program}
/-- A call that is put off. -/
structure ADef where
  f : Fn
  cap : List AV
  args : List AV
structure St where
  tm : Nat → AV
  h : AHeap
  nx : Nat
  df : List ADef
inductive AX where
  | norm
  | ex (id : Nat)
  | gt (l : Nat)
  | ret
  | pan (v : AV)
inductive AEnd where
  | ret (v : AV)
  | pan (v : AV)
/-- A call that is put off; or the mark of a range over a function (a.f = yield D): the block D for its rounds' deferred calls, which is empty. -/
def DR1 (σ : Sig) (w : World) (X : Nat → Nat → Prop) (B : Nat) (a : ADef) (d : Deferred) : Prop := match a.f with
  | .yield D => d = { target := .collected D, args := #[] } ∧ w.heap[D]? = some (.deferred (some [])) ∧ B ≤ D ∧ ∀ lo off len, a.cap = [.hs lo off len] → lo ≤ D
  | f => ∃ cs : Array Value, d.target = .fn f cs ∧ VRs σ w X B a.cap cs.toList ∧ VRs σ w X B a.args d.args.toList
def DR (σ : Sig) (w : World) (X : Nat → Nat → Prop) (B : Nat) : List ADef → List Deferred → Prop
  | [], [] => True
  | a :: as, d :: ds => DR1 σ w X B a d ∧ DR σ w X B as ds
  | _, _ => False
inductive XR (σ : Sig) (w : World) (X : Nat → Nat → Prop) (B : Nat) : AX → Exit → Prop
  | norm : XR σ w X B .norm .normal
  | ex (id : Nat) : XR σ w X B (.ex id) (.exit id)
  | gt (l : Nat) : XR σ w X B (.gt l) (.goto l)
  | ret : XR σ w X B .ret .ret
  | pan (a : AV) (v : Value) (h : VR σ w X B a v) : XR σ w X B (.pan a) (.panic [{ v, recovered := false }])
inductive ER (σ : Sig) (w : World) (X : Nat → Nat → Prop) (B : Nat) : AEnd → Ending → Prop
  | ret (a : AV) (v : Value) (h : VR σ w X B a v) : ER σ w X B (.ret a) (.returned v)
  | pan (a : AV) (v : Value) (h : VR σ w X B a v) : ER σ w X B (.pan a) (.panicked [{ v, recovered := false }])
/-- Where a walk began: all that stood for something there still does. -/
structure Orig where
  σ : Sig
  h : AHeap
  w : World
  nx : Nat
structure Keep (B : Nat) (O : Orig) (σ : Sig) (h : AHeap) (w : World) (nx : Nat) : Prop where
  vr : Kv O.σ O.w (Held O.σ O.h) B σ w (Held σ h)
  nx : O.nx ≤ nx
  σ : ∀ n, n < O.nx → σ n = O.σ n
theorem Keep.trans {B : Nat} {O : Orig} {σ σ' : Sig} {h h' : AHeap} {w w' : World} {nx nx' : Nat} (k : Keep B O σ h w nx) (k' : Kv σ w (Held σ h) B σ' w' (Held σ' h')) (hn : nx ≤ nx') (hσ : ∀ n, n < nx → σ' n = σ n) : Keep B O σ' h' w' nx' :=
  ⟨k.vr.trans k', Nat.le_trans k.nx hn, fun n hn => (hσ n (Nat.lt_of_lt_of_le hn k.nx)).trans (k.σ n hn)⟩
theorem Keep.refl {B : Nat} (σ : Sig) (h : AHeap) (w : World) (nx : Nat) : Keep B ⟨σ, h, w, nx⟩ σ h w nx := ⟨.refl, Nat.le_refl _, fun _ _ => rfl⟩
/-- In the round of which range are we; what is looked after beside the walk. -/
class Rnd where
  r : Option Nat
  inv : Sig → World → (Nat → Nat → Prop) → Nat → Prop
  pres : ∀ {σ w X B σ' w' X'}, inv σ w X B → Kv σ w X B σ' w' X' → inv σ' w' X' B
instance rnd0 : Rnd := ⟨none, fun _ _ _ _ => True, fun _ _ => trivial⟩
structure Rel [ρ : Rnd] (B : Nat) (w0 : World) (nt : Nat) (σ : Sig) (st : St) (act : Act) (w : World) : Prop where
  sr : SR B w0 σ st.h w
  tr : TR σ w (Held σ st.h) B st.tm act.tmps
  nt : act.tmps.size = nt
  nx : ∀ n, st.nx ≤ n → σ n = none
  df : DR σ w (Held σ st.h) B st.df act.defers
  iv : ρ.inv σ w (Held σ st.h) B
@[reducible] def fnc [ρ : Rnd] : Fence := { fn := fun _ => True, depth := none, alive := false, round := ρ.r }
theorem callsR [ρ : Rnd] {n : Nat} {f : FuncId} {vs : Array Value} {w : World} {R : Ending → World → Prop} (h : Calls P f vs w R) : CallsIn fnc n P f vs w R := by
  obtain ⟨r, _, _⟩ := ρ
  cases r with
  | none => exact callsIn_wide.2 h
  | some l => exact CallsIn.inRound l (callsIn_wide.2 h)
theorem wpR {n : Nat} {c : Code} {Q : Exit → Act → World → Prop} {a : Act} {w : World} : c.wpIn (@fnc rnd0) n P Q a w ↔ c.wp P Q a w := wpIn_wide
/-- One operation. -/
theorem wpl_step [ρ : Rnd] {ops : Array Oper} {o : Oper} {rest : List Oper} {Q : Exit → Act → World → Prop} {a : Act} {w : World} (hw : Region.wanted o (yielded ops a.tmps) = true) (hd : ∀ c, o.op ≠ .defer c) (h : o.uponIn fnc 0 P a (wpListIn fnc 0 P ops Q rest) Q ((execOp a.eval o).run P w)) : wpListIn fnc 0 P ops Q (o :: rest) a w := by
  unfold wpListIn
  rw [if_pos hw]
  exact ⟨fun _ _ => trivial, by rw [Oper.semAt_eq _ _ _ hd]; exact h⟩
theorem wpo_step [ρ : Rnd] {o : Oper} {K : Act → World → Prop} {Q : Exit → Act → World → Prop} {a : Act} {w : World} (hd : ∀ c, o.op ≠ .defer c) (h : o.uponIn fnc 0 P a K Q ((execOp a.eval o).run P w)) : o.wpIn fnc 0 P a w K Q :=
  ⟨fun _ _ => trivial, by rw [Oper.semAt_eq _ _ _ hd]; exact h⟩
theorem wpl_no [ρ : Rnd] {ops : Array Oper} {o : Oper} {rest : List Oper} {Q : Exit → Act → World → Prop} {a : Act} {w : World} (hw : Region.wanted o (yielded ops a.tmps) = false) (h : wpListIn fnc 0 P ops Q rest (a.put o.dst undef) w) : wpListIn fnc 0 P ops Q (o :: rest) a w := by
  unfold wpListIn
  rw [if_neg (by rw [hw]; decide)]
  exact ⟨fun _ _ => trivial, h⟩
/-- A call is entered. -/
theorem up_enter [ρ : Rnd] {o : Oper} {K : Act → World → Prop} {Q : Exit → Act → World → Prop} {a : Act} {w : World} {f : FuncId} {vs : Array Value} (h : Calls P f vs w fun
      | .returned v, w'' => K (a.put o.dst v) w''
      | .panicked chain, w'' => Q (.panic chain) a w''
      | .outgrown, _ => LetsOut Q) : o.uponIn fnc 0 P a K Q (.ok (.enter f vs) w) := ⟨fun h => (by cases h), callsR h⟩
theorem wpIn_loop_ghost {F : Fence} {n : Nat} {Q : Exit → Act → World → Prop} {a : Act} {w : World} {c : Code} (I : Nat → Act → World → Prop) (n₀ : Nat) (h₀ : I n₀ a w)
    (round : ∀ n' a w, I n' a w → c.wpIn F n P (Exit.then (fun a' w' => ∃ m, m < n' ∧ I m a' w') Q) a w) : (Code.loop c).wpIn F n P Q a w := by
  refine wpIn_loop (fun a w => ∃ n, I n a w) (fun a w => leastOf (fun n => I n a w)) ⟨n₀, h₀⟩ ?_
  intro a w hI
  refine wpIn_mono (round _ a w (leastOf_spec hI).1) ?_
  intro e a' w' hq
  cases e with
  | normal =>
    obtain ⟨n', hlt, hI'⟩ := hq
    exact show (∃ n, I n a' w') ∧ leastOf (fun n => I n a' w') < leastOf (fun n => I n a w) from ⟨⟨n', hI'⟩, Nat.lt_of_le_of_lt ((leastOf_spec ⟨n', hI'⟩).2 n' hI') hlt⟩
  | exit id => exact hq
  | goto l => exact hq
  | ret => exact hq
  | panic ch => exact hq
  | outgrown => exact hq
theorem aop_plain {op : Op} {tm : Nat → AV} {h : AHeap} {k : Nat} {x : AV × AHeap × Nat} (ha : aop P op tm h k = some x) : ∀ c, op ≠ .defer c := fun c e => by
  subst e
  simp [aop] at ha
/-- Behind the walk. -/
def post [ρ : Rnd] (nt : Nat) (B : Nat) (w0 : World) (O : Orig) (Q : AX → St → Prop) (e : Exit) (act : Act) (w : World) : Prop :=
  ∃ ax st σ, XR σ w (Held σ st.h) B ax e ∧ Rel B w0 nt σ st act w ∧ Keep B O σ st.h w st.nx ∧ Q ax st
def aWp [ρ : Rnd] (P : Program) (nt : Nat) (c : Code) (Q : AX → St → Prop) (st : St) : Prop :=
  ∀ B w0 O σ act w, Rel B w0 nt σ st act w → Keep B O σ st.h w st.nx → c.wpIn fnc 0 P (post nt B w0 O Q) act w
def aOps [ρ : Rnd] (P : Program) (nt : Nat) (ops : Array Oper) (l : List Oper) (Q : AX → St → Prop) (st : St) : Prop :=
  ∀ B w0 O σ act w, Rel B w0 nt σ st act w → Keep B O σ st.h w st.nx → wpListIn fnc 0 P ops (post nt B w0 O Q) l act w
def aCalls (P : Program) (f : FuncId) (args : List AV) (h : AHeap) (nx : Nat) (R : AEnd → AHeap → Nat → Prop) : Prop :=
  ∀ B w0 O σ w (vs : Array Value), SR B w0 σ h w → (∀ n, nx ≤ n → σ n = none) → Keep B O σ h w nx → VRs σ w (Held σ h) B args vs.toList →
    Calls P f vs w fun e w' => ∃ ae h' nx' σ', ER σ' w' (Held σ' h') B ae e ∧ SR B w0 σ' h' w' ∧ (∀ n, nx' ≤ n → σ' n = none) ∧ Keep B O σ' h' w' nx' ∧ R ae h' nx'
section
variable {nt : Nat} {Q Q' : AX → St → Prop} {st : St} {ops : Array Oper}
theorem DR1.mono {σ σ' : Sig} {w w' : World} {X X' : Nat → Nat → Prop} {B : Nat} (k : Kv σ w X B σ' w' X') {a : ADef} {d : Deferred} (h : DR1 σ w X B a d) : DR1 σ' w' X' B a d := by
  obtain ⟨f, cap, as⟩ := a
  cases f <;> first
    | (obtain ⟨h1, h2, h3⟩ := h; exact ⟨h1, k.oth.keep _ _ h2 rfl, h3⟩)
    | (obtain ⟨cs, h1, h2, h3⟩ := h; exact ⟨cs, h1, ⟨h2.1, fun j c v q r => k.vr _ _ (h2.2 j c v q r)⟩, ⟨h3.1, fun j c v q r => k.vr _ _ (h3.2 j c v q r)⟩⟩)
theorem DR.mono {σ σ' : Sig} {w w' : World} {X X' : Nat → Nat → Prop} {B : Nat} (k : Kv σ w X B σ' w' X') : ∀ {as : List ADef} {ds : List Deferred}, DR σ w X B as ds → DR σ' w' X' B as ds
  | [], [], _ => trivial
  | a :: as, d :: ds, ⟨h1, h4⟩ => ⟨h1.mono k, h4.mono k⟩
  | [], _ :: _, h => h.elim
  | _ :: _, [], h => h.elim
theorem aWp_mono [ρ : Rnd] {c : Code} (h : aWp P nt c Q st) (hq : ∀ e s, Q e s → Q' e s) : aWp P nt c Q' st := fun B w0 O σ act w hr hk =>
  wpIn_mono (h B w0 O σ act w hr hk) fun e a w ⟨ax, s, σ', h1, h2, h3, h4⟩ => ⟨ax, s, σ', h1, h2, h3, hq _ _ h4⟩
theorem aWp_skip [ρ : Rnd] (h : Q .norm st) : aWp P nt .skip Q st := fun B w0 O σ act w hr hk => wpIn_skip ⟨_, _, _, .norm, hr, hk, h⟩
theorem aWp_exit [ρ : Rnd] {id : Nat} (h : Q (.ex id) st) : aWp P nt (.exit id) Q st := fun B w0 O σ act w hr hk => wpIn_exit ⟨_, _, _, .ex id, hr, hk, h⟩
theorem aWp_ret [ρ : Rnd] (h : Q .ret st) : aWp P nt .ret Q st := fun B w0 O σ act w hr hk => wpIn_ret ⟨_, _, _, .ret, hr, hk, h⟩
/-- What follows. -/
def AX.andThen (K : St → Prop) (Q : AX → St → Prop) : AX → St → Prop
  | .norm, s => K s
  | e, s => Q e s
theorem aWp_seq [ρ : Rnd] {x y : Code} (h : aWp P nt x (AX.andThen (aWp P nt y Q) Q) st) : aWp P nt (.seq x y) Q st := fun B w0 O σ act w hr hk => by
  refine wpIn_seq (wpIn_mono (h B w0 O σ act w hr hk) ?_)
  rintro e a w ⟨ax, s, σ', h1, h2, h3, h4⟩
  cases h1 with
  | norm => exact h4 B w0 O σ' a w h2 h3
  | ex id => exact ⟨_, _, _, .ex id, h2, h3, h4⟩
  | gt l => exact ⟨_, _, _, .gt l, h2, h3, h4⟩
  | ret => exact ⟨_, _, _, .ret, h2, h3, h4⟩
  | pan a v h => exact ⟨_, _, _, .pan a v h, h2, h3, h4⟩
theorem aWp_cond [ρ : Rnd] {c : Operand} {x y : Code} {t : Bool} (hc : evA st.tm c = .bool t) (h : aWp P nt (if t = true then x else y) Q st) : aWp P nt (.cond c x y) Q st := fun B w0 O σ act w hr hk => by
  have h1 := hr.tr.eval c
  rw [hc] at h1
  generalize hcc : act.eval c = cc at h1
  cases h1
  exact wpIn_cond hcc (h B w0 O σ act w hr hk)
/-- A block's own exit ends it. -/
def AX.inBlock (id : Nat) (Q : AX → St → Prop) : AX → St → Prop
  | .ex i, s => if i = id then Q .norm s else Q (.ex i) s
  | e, s => Q e s
theorem aWp_block [ρ : Rnd] {id : Nat} {c : Code} (h : aWp P nt c (AX.inBlock id Q) st) : aWp P nt (.block id c) Q st := fun B w0 O σ act w hr hk => by
  refine wpIn_block (wpIn_mono (h B w0 O σ act w hr hk) ?_)
  rintro e a w ⟨ax, s, σ', h1, h2, h3, h4⟩
  cases h1 with
  | norm => exact ⟨_, _, _, .norm, h2, h3, h4⟩
  | ex i =>
    simp only [AX.inBlock] at h4
    simp only [Exit.inBlock]
    split at h4
    · rw [if_pos (by assumption)]; exact ⟨_, _, _, .norm, h2, h3, h4⟩
    · rw [if_neg (by assumption)]; exact ⟨_, _, _, .ex i, h2, h3, h4⟩
  | gt l => exact ⟨_, _, _, .gt l, h2, h3, h4⟩
  | ret => exact ⟨_, _, _, .ret, h2, h3, h4⟩
  | pan a v h => exact ⟨_, _, _, .pan a v h, h2, h3, h4⟩
/-- A loop: a relation that bears a number, which each round lowers. -/
theorem aWp_loop [ρ : Rnd] {c : Code} (I : Nat → St → Prop) (n : Nat) (h0 : I n st) (round : ∀ n s, I n s → aWp P nt c (AX.andThen (fun s' => ∃ m, m < n ∧ I m s') Q) s) : aWp P nt (.loop c) Q st := fun B w0 O σ act w hr hk => by
  refine wpIn_loop_ghost (fun n a w => ∃ s σ', Rel B w0 nt σ' s a w ∧ Keep B O σ' s.h w s.nx ∧ I n s) n ⟨st, σ, hr, hk, h0⟩ ?_
  rintro m a w ⟨s, σ', h1, h2, h3⟩
  refine wpIn_mono (round m s h3 B w0 O σ' a w h1 h2) ?_
  rintro e a w ⟨ax, s, σ', h1, h2, h3, h4⟩
  cases h1 with
  | norm => obtain ⟨k, h5, h6⟩ := h4; exact ⟨k, h5, s, σ', h2, h3, h6⟩
  | ex id => exact ⟨_, _, _, .ex id, h2, h3, h4⟩
  | gt l => exact ⟨_, _, _, .gt l, h2, h3, h4⟩
  | ret => exact ⟨_, _, _, .ret, h2, h3, h4⟩
  | pan a v h => exact ⟨_, _, _, .pan a v h, h2, h3, h4⟩
/-- No jump leaves a scope. -/
def AX.noGoto (Q : AX → St → Prop) : AX → St → Prop
  | .gt _, _ => False
  | e, s => Q e s
theorem aWp_scope {c : Code} (h : aWp P nt c (AX.noGoto Q) st) : aWp P nt (.scope c) Q st := fun B w0 O σ act w hr hk => by
  refine wpR.2 (wp_scope_straight (wp_mono (wpR.1 (h B w0 O σ act w hr hk)) ?_))
  rintro e a w ⟨ax, s, σ', h1, h2, h3, h4⟩
  cases h1 with
  | norm => exact ⟨_, _, _, .norm, h2, h3, h4⟩
  | ex id => exact ⟨_, _, _, .ex id, h2, h3, h4⟩
  | gt l => exact h4.elim
  | ret => exact ⟨_, _, _, .ret, h2, h3, h4⟩
  | pan a v h => exact ⟨_, _, _, .pan a v h, h2, h3, h4⟩
theorem aWp_region [ρ : Rnd] {id : Nat} {l : List Oper} (h : aOps P nt l.toArray l Q st) : aWp P nt (.region id l.toArray false) Q st := fun B w0 O σ act w hr hk => wpIn_region_lit (h B w0 O σ act w hr hk)
/-! ### operations -/
def putA (tm : Nat → AV) (d : Option Tmp) (v : AV) : Nat → AV := match d with | some d => upd tm d v | none => tm
def dstOk (nt : Nat) : Option Tmp → Bool
  | none => true
  | some d => decide (d < nt)
/-- Is the operation wanted? -/
def guardA (ops : Array Oper) (tm : Nat → AV) : Option (Nat × Bool) → Option Bool
  | none => some true
  | some (j, want) => match (ops[j]?).bind (·.dst) with
    | none => some false
    | some d => match tm d with
      | .bool b => some (b == want)
      | .tup _ => some false
      | _ => none
theorem guardA_ok {σ : Sig} {w : World} {X : Nat → Nat → Prop} {B : Nat} {tm : Nat → AV} {act : Act} (ht : TR σ w X B tm act.tmps) {o : Oper} {b : Bool} (h : guardA ops tm o.guard = some b) : Region.wanted o (yielded ops act.tmps) = b := by
  unfold guardA at h
  unfold Region.wanted
  split at h
  · rename_i hg
    cases h
    rw [hg]
  · rename_i j want hg
    rw [hg]
    simp only
    unfold yielded
    split at h
    · rename_i hd
      cases h
      rw [hd]
      simp
    · rename_i d hd
      rw [hd]
      have := ht d
      simp only [Option.bind_some]
      split at h <;> try (cases h; done)
      · rename_i b hb
        rw [hb] at this
        cases h
        rw [Array.getD_eq_getD_getElem?] at this
        cases hq : act.tmps[d]? with
        | none => rw [hq] at this; cases this
        | some v =>
          rw [hq] at this
          simp only [Option.getD_some] at this
          cases this
          simp only [Option.some.injEq, BEq.beq]
          cases b <;> cases want <;> rfl
      · rename_i vs hb
        rw [hb] at this
        cases h
        rw [Array.getD_eq_getD_getElem?] at this
        cases hq : act.tmps[d]? with
        | none => rfl
        | some v =>
          rw [hq] at this
          simp only [Option.getD_some] at this
          cases this
          rfl
theorem Rel.put [ρ : Rnd] {B : Nat} {w0 w w' : World} {σ σ' : Sig} {h' : AHeap} {nx' : Nat} {act : Act} {v : AV} {cv : Value} (hr : Rel B w0 nt σ st act w) (hs : SR B w0 σ' h' w') (hk : Kv σ w (Held σ st.h) B σ' w' (Held σ' h')) (hn : ∀ n, nx' ≤ n → σ' n = none)
    (d : Option Tmp) (hd : dstOk nt d = true) (hv : VR σ' w' (Held σ' h') B v cv) : Rel B w0 nt σ' ⟨putA st.tm d v, h', nx', st.df⟩ (act.put d cv) w' := by
  have ht : TR σ' w' (Held σ' h') B st.tm act.tmps := fun t => hk _ _ (hr.tr t)
  cases d with
  | none => exact ⟨hs, ht, hr.nt, hn, hr.df.mono hk, ρ.pres hr.iv hk⟩
  | some d =>
    have hlt : d < act.tmps.size := by
      rw [hr.nt]
      simpa [dstOk] using hd
    exact ⟨hs, ht.put hlt hv, by simp [Act.put, hr.nt], hn, hr.df.mono hk, ρ.pres hr.iv hk⟩
theorem aOps_nil [ρ : Rnd] (h : Q .norm st) : aOps P nt ops [] Q st := fun B w0 O σ act w hr hk => ⟨_, _, _, .norm, hr, hk, h⟩
theorem aOps_skip [ρ : Rnd] {o : Oper} {rest : List Oper} (hg : guardA ops st.tm o.guard = some false) (hd : dstOk nt o.dst = true) (h : aOps P nt ops rest Q ⟨putA st.tm o.dst (.tup []), st.h, st.nx, st.df⟩) : aOps P nt ops (o :: rest) Q st := fun B w0 O σ act w hr hk => by
  have hw := guardA_ok hr.tr hg
  refine wpl_no hw ?_
  refine h B w0 O σ _ w (hr.put hr.sr .refl hr.nx o.dst hd (VR.tup_iff.2 ⟨[], rfl, .nil⟩)) hk
theorem aOps_val [ρ : Rnd] {o : Oper} {rest : List Oper} {v : AV} {h' : AHeap} {k' : Nat} (hg : guardA ops st.tm o.guard = some true) (hd : dstOk nt o.dst = true) (ha : aop P o.op st.tm st.h st.nx = some (v, h', k')) (hk' : st.nx ≤ k') (h : aOps P nt ops rest Q ⟨putA st.tm o.dst v, h', k', st.df⟩) : aOps P nt ops (o :: rest) Q st := fun B w0 O σ act w hr hk => by
  have hw := guardA_ok hr.tr hg
  refine wpl_step hw (aop_plain ha) ?_
  obtain ⟨cv, w', h1, σ', h2, h3, h4, h5⟩ := aop_ok hr.sr hr.tr (fun n hn _ => hr.nx n hn) ha
  have hr' := hr.put h2 h4 (fun n hn => by rw [h3 n (.inr hn)]; exact hr.nx n (by omega)) o.dst hd h5
  have := h B w0 O σ' _ w' hr' (hk.trans h4 hk' (fun n hn => h3 n (.inl hn)))
  rcases h1 with h1 | ⟨h1, rfl⟩
  · rw [h1]; exact this
  · rw [h1]; exact this
/-- A function with a Go body. -/
def callable (P : Program) (f : FuncId) : Bool := match P.funcs[f]? with | some fn => fn.body.isSome && !(fn.name == "runtime.NumGoroutine") | none => false
theorem run_callFunc {f : FuncId} (h : callable P f = true) (args : Array Value) (w : World) : (callFunc f args).run P w = .ok (.enter f args) w := by
  unfold callable at h
  split at h
  · rename_i fn hf
    simp only [Bool.and_eq_true, Bool.not_eq_true'] at h
    have hn : ¬ fn.name = "runtime.NumGoroutine" := by simpa using h.2
    have hb : ¬ fn.body = none := fun e => by rw [e] at h; simp at h
    simp [callFunc, Sem.run_bind, hf, hn, hb]
  · cases h
/-- Which function a call enters, and with which values. -/
def calleeA (tm : Nat → AV) (c : Call) : Option (FuncId × List AV) :=
  match c.callee with
  | .value x => match evA tm x with
    | .fn (.func f) first cap => some (f, first ++ c.args.toList.map (evA tm) ++ cap)
    | _ => none
  | _ => none
theorem calleeA_ok {σ : Sig} {w : World} {X : Nat → Nat → Prop} {B : Nat} {tm : Nat → AV} {act : Act} (ht : TR σ w X B tm act.tmps) {dst : Option Tmp} {ty : TypeId} {pos : String} {after : Array Edge} {guard : Option (Nat × Bool)} {c : Call} {f : FuncId} {args : List AV} (h : calleeA tm c = some (f, args)) (hc : callable P f = true) :
    ∃ vs : Array Value, (execOp act.eval ⟨dst, .call c, ty, pos, after, guard⟩).run P w = .ok (.enter f vs) w ∧ VRs σ w X B args vs.toList := by
  obtain ⟨callee, as, ts⟩ := c
  unfold calleeA at h
  split at h <;> try (cases h; done)
  rename_i x hx
  simp only at hx
  subst hx
  split at h <;> cases h
  rename_i first cap he
  have h1 := ht.eval x
  rw [he] at h1
  generalize hcc : act.eval x = cc at h1
  cases h1 with
  | fn _ _ _ us vs hl hm ha hv =>
  have h2 := args_rel ht as
  refine ⟨us ++ as.map act.eval ++ vs, ?_, ?_⟩
  · simp only [execOp, resolve, hcc, Deferred.ofValue, pure_bind, invoke]
    exact run_callFunc hc _ w
  · rw [Array.toList_append, Array.toList_append]
    exact VRs.append (VRs.append ⟨by simpa using hl, fun j c v q r => ha j c v q (by simpa using r)⟩ h2) ⟨by simpa using hm, fun j c v q r => hv j c v q (by simpa using r)⟩
theorem aOps_call [ρ : Rnd] {o : Oper} {rest : List Oper} {c : Call} {f : FuncId} {args : List AV} {R : AEnd → AHeap → Nat → Prop} (hg : guardA ops st.tm o.guard = some true) (hd : dstOk nt o.dst = true) (ho : o.op = .call c) (ha : calleeA st.tm c = some (f, args)) (hc : callable P f = true)
    (hcall : aCalls P f args st.h st.nx R) (hret : ∀ v h' k', R (.ret v) h' k' → aOps P nt ops rest Q ⟨putA st.tm o.dst v, h', k', st.df⟩) (hpan : ∀ v h' k', R (.pan v) h' k' → Q (.pan v) ⟨st.tm, h', k', st.df⟩) : aOps P nt ops (o :: rest) Q st := fun B w0 O σ act w hr hk => by
  have hw := guardA_ok hr.tr hg
  refine wpl_step hw (by rw [ho]; intro c e; cases e) ?_
  obtain ⟨dst, op, ty, pos, after, guard⟩ := o
  simp only at ho
  subst ho
  obtain ⟨vs, h1, h2⟩ := calleeA_ok (P := P) (dst := dst) (ty := ty) (pos := pos) (after := after) (guard := guard) hr.tr ha hc
  rw [h1]
  refine up_enter ((hcall B w0 ⟨σ, st.h, w, st.nx⟩ σ w vs hr.sr hr.nx (.refl _ _ _ _) h2).mono ?_)
  rintro e w' ⟨ae, h', nx', σ', h3, h4, h5, h6, h7⟩
  cases h3 with
  | ret a v hv =>
    exact hret a h' nx' h7 B w0 O σ' _ w' (hr.put h4 h6.vr h5 dst hd hv) (hk.trans h6.vr h6.nx h6.σ)
  | pan a v hv =>
    exact ⟨_, ⟨st.tm, h', nx', st.df⟩, σ', .pan a v hv, ⟨h4, fun t => h6.vr _ _ (hr.tr t), hr.nt, h5, hr.df.mono h6.vr, ρ.pres hr.iv h6.vr⟩, hk.trans h6.vr h6.nx h6.σ, hpan a h' nx' h7⟩
/-! ### functions -/
def resOne (P : Program) (st : St) : ResultVar → Option AV
  | .tmp t => some (st.tm t)
  | .cell a t => match st.tm a with
    | .ptr n e j => aLoad P st.h t (.ptr n e j)
    | _ => none
def resAll (P : Program) (st : St) : List ResultVar → Option (List AV)
  | [] => some []
  | r :: rs => (resOne P st r).bind fun v => (resAll P st rs).map fun vs => v :: vs
/-- What a function answers. -/
def resA (P : Program) (st : St) (rs : List ResultVar) : Option AV :=
  (resAll P st rs).map fun | [v] => v | vs => .tup vs
def resM (tmps : Array Value) : ResultVar → Sem Value
  | .tmp t => pure (tmps.getD t undef)
  | .cell a t => do loadVar t (← asAddr (tmps.getD a undef))
theorem results_eq (fn : Func) (tmps : Array Value) : results fn tmps = (do let vs ← fn.results.mapM (resM tmps); pure (if h : vs.size = 1 then vs[0] else .tuple vs)) := by
  unfold results
  have : (fun r : ResultVar => (match r with | .tmp t => pure (tmps.getD t undef) | .cell a t => do loadVar t (← asAddr (tmps.getD a undef)) : Sem Value)) = resM tmps := by
    funext r
    cases r <;> rfl
  rw [← this]
  rfl
theorem resAll_ok [ρ : Rnd] {B : Nat} {w0 w : World} {σ : Sig} {act : Act} (hr : Rel B w0 nt σ st act w) : ∀ (rs : List ResultVar) {vs : List AV}, resAll P st rs = some vs →
    ∃ us : List Value, (rs.mapM (resM act.tmps)).run P w = .ok us w ∧ VRs σ w (Held σ st.h) B vs us
  | [], vs, h => by
    simp [resAll] at h
    subst h
    exact ⟨[], by simp, .nil⟩
  | r :: rs, vs, h => by
    simp only [resAll, Option.bind_eq_some_iff, Option.map_eq_some_iff] at h
    obtain ⟨v, h1, vs', h2, rfl⟩ := h
    obtain ⟨us, h3, h4⟩ := resAll_ok hr rs h2
    cases r with
    | tmp t =>
      simp only [resOne, Option.some.injEq] at h1
      subst h1
      refine ⟨act.tmps.getD t undef :: us, ?_, .cons (hr.tr t) h4⟩
      simp only [List.mapM_cons, resM, Sem.run_bind, Sem.run_pure, Result.andThen_ok, h3]
    | cell a t =>
      simp only [resOne] at h1
      split at h1 <;> try (cases h1; done)
      rename_i n e j ha
      have h5 := hr.tr a
      rw [ha] at h5
      obtain ⟨cv, h6, h7⟩ := aLoad_ok (P := P) hr.sr h1 h5
      refine ⟨cv :: us, ?_, .cons h7 h4⟩
      have h8 : (do loadVar t (← asAddr (act.tmps.getD a undef)) : Sem Value).run P w = .ok cv w := by
        generalize hcc : act.tmps.getD a undef = cc at h5 h6
        cases h5
        simpa [Instr.loadAt, Instr.sureAddr, asAddr] using h6
      rw [List.mapM_cons, Sem.run_bind]
      show ((do loadVar t (← asAddr (act.tmps.getD a undef)) : Sem Value).run P w).andThen _ = _
      rw [h8]
      simp only [Result.andThen_ok, Sem.run_bind, h3, Sem.run_pure]
theorem resA_ok [ρ : Rnd] {B : Nat} {w0 w : World} {σ : Sig} {act : Act} (hr : Rel B w0 nt σ st act w) {fn : Func} {v : AV} (h : resA P st fn.results.toList = some v) : ∃ cv, (results fn act.tmps).run P w = .ok cv w ∧ VR σ w (Held σ st.h) B v cv := by
  unfold resA at h
  obtain ⟨vs, h1, h2⟩ := Option.map_eq_some_iff.1 h
  obtain ⟨us, h3, h4⟩ := resAll_ok hr _ h1
  have hrun : ∀ cv, (if h : us.toArray.size = 1 then us.toArray[0] else .tuple us.toArray) = cv → (results fn act.tmps).run P w = .ok cv w := fun cv hcv => by
    rw [results_eq, Array.mapM_eq_mapM_toList]
    simp only [Sem.run_bind, Sem.run_map, h3, Result.andThen_ok, Sem.run_pure, hcv]
  match vs, h4, h2 with
  | [], h4, h2 =>
    have : us = [] := List.eq_nil_of_length_eq_zero h4.1.symm
    subst this
    cases h2
    exact ⟨_, hrun _ rfl, VR.tup_iff.2 ⟨[], rfl, .nil⟩⟩
  | [a], h4, h2 =>
    obtain ⟨u, rfl, hu⟩ := h4.one
    cases h2
    exact ⟨_, hrun _ rfl, hu⟩
  | a :: b :: l, h4, h2 =>
    cases h2
    have hl := h4.1
    refine ⟨.tuple us.toArray, hrun _ ?_, VR.tup_iff.2 ⟨us, rfl, h4⟩⟩
    rw [dif_neg (by simp at hl ⊢; omega)]
/-- A function's end. -/
def bodyA (P : Program) (fn : Func) (R : AEnd → AHeap → Nat → Prop) : AX → St → Prop
  | .norm, s | .ret, s => s.df = [] ∧ ∃ v, resA P s fn.results.toList = some v ∧ R (.ret v) s.h s.nx
  | .pan v, s => s.df = [] ∧ R (.pan v) s.h s.nx
  | _, _ => False
theorem DR.nil {σ : Sig} {w : World} {X : Nat → Nat → Prop} {B : Nat} : ∀ {ds : List Deferred}, DR σ w X B [] ds → ds = []
  | [], _ => rfl
  | _ :: _, h => h.elim
/-- The temporaries at the begin. -/
def tm0 (args : List AV) : Nat → AV := fun t => (args[t]?).getD (.tup [])
theorem aCalls_body {f : FuncId} {fn : Func} {c : Code} {args : List AV} {h : AHeap} {nx : Nat} {R : AEnd → AHeap → Nat → Prop} (hf : P.funcs[f]? = some fn) (hb : fn.body = some c) (hn : fn.ntmps = nt) (ha : args.length ≤ nt) (hw : aWp P nt c (bodyA P fn R) ⟨tm0 args, h, nx, []⟩) : aCalls P f args h nx R := by
  intro B w0 O σ w vs hs hx hk hv
  refine calls_of_wp hf hb (wp_mono (wpR.1 (hw B w0 O σ _ w ⟨hs, fun t => ?_, ?_, hx, trivial, trivial⟩ hk)) ?_)
  · have hl := hv.1
    simp only [tm0]
    by_cases ht : t < args.length
    · rw [List.getElem?_eq_getElem ht]
      simp only [Option.getD_some]
      have h2 : (vs ++ Array.replicate (fn.ntmps - vs.size) undef).getD t undef = vs.toList[t]'(by omega) := by
        simp only [Array.length_toList] at hl
        rw [Array.getD_eq_getD_getElem?, Array.getElem?_append_left (by omega)]
        simp [show t < vs.size by omega]
      rw [h2]
      exact hv.2 t _ _ (List.getElem?_eq_getElem ht) (List.getElem?_eq_getElem _)
    · rw [List.getElem?_eq_none (by omega)]
      simp only [Option.getD_none]
      have h2 : (vs ++ Array.replicate (fn.ntmps - vs.size) undef).getD t undef = undef := by
        simp only [Array.length_toList] at hl
        rw [Array.getD_eq_getD_getElem?, Array.getElem?_append_right (by omega)]
        rw [Array.getElem?_replicate]
        split <;> rfl
      rw [h2]
      exact VR.tup_iff.2 ⟨[], rfl, .nil⟩
  · have hl := hv.1
    simp only [Array.length_toList] at hl
    simp
    omega
  · rintro e a w' ⟨ax, s, σ', h1, h2, h3, h4⟩
    have fin : s.df = [] → (∃ v, resA P s fn.results.toList = some v ∧ R (.ret v) s.h s.nx) → a.defers = [] ∧ ∃ v, (results fn a.tmps).run P w' = .ok v w' ∧ ∃ ae h' nx' σ', ER σ' w' (Held σ' h') B ae (.returned v) ∧ SR B w0 σ' h' w' ∧ (∀ n, nx' ≤ n → σ' n = none) ∧ Keep B O σ' h' w' nx' ∧ R ae h' nx' := by
      rintro hd ⟨v, hv1, hv2⟩
      have hd2 := h2.df
      rw [hd] at hd2
      obtain ⟨cv, h5, h6⟩ := resA_ok (P := P) h2 hv1
      exact ⟨hd2.nil, cv, h5, _, _, _, _, .ret v cv h6, h2.sr, h2.nx, h3, hv2⟩
    cases h1 with
    | norm => exact fin h4.1 h4.2
    | ex id => exact h4.elim
    | gt l => exact h4.elim
    | ret => exact fin h4.1 h4.2
    | pan v u hv =>
      have hd2 := h2.df
      rw [h4.1] at hd2
      exact ⟨hd2.nil, _, _, _, _, .pan v u hv, h2.sr, h2.nx, h3, h4.2⟩
theorem aCalls_mono {f : FuncId} {args : List AV} {h : AHeap} {nx : Nat} {R R' : AEnd → AHeap → Nat → Prop} (hc : aCalls P f args h nx R) (hr : ∀ e h' k', R e h' k' → R' e h' k') : aCalls P f args h nx R' := fun B w0 O σ w vs hs hx hk hv =>
  (hc B w0 O σ w vs hs hx hk hv).mono fun e w' ⟨ae, h', nx', σ', h1, h2, h3, h4, h5⟩ => ⟨ae, h', nx', σ', h1, h2, h3, h4, hr _ _ _ h5⟩
end
end Go.Proofs.YtjidgdfdeckofaaDoor.AE
/- What a walk may forget or freeze; functions that leave memory as it was. No program in sight. -/
namespace Go.Proofs.YtjidgdfdeckofaaDoor.AE
open Go Go.RowKit
set_option linter.unusedVariables false
set_option linter.unusedSimpArgs false
variable {P : Program}
/-- A state that says less, of the same memory. -/
def Sub (st st' : St) : Prop := st.nx ≤ st'.nx ∧ ∀ (ρ : Rnd) B w0 nt σ act w, Rel B w0 nt σ st act w → Rel B w0 nt σ st' act w ∧ ∀ a v, VR σ w (Held σ st.h) B a v → VR σ w (Held σ st'.h) B a v
theorem Sub.refl (st : St) : Sub st st := ⟨Nat.le_refl _, fun ρ B w0 nt σ act w h => ⟨h, fun _ _ q => q⟩⟩
theorem Sub.trans {a b c : St} (h : Sub a b) (k : Sub b c) : Sub a c := ⟨Nat.le_trans h.1 k.1, fun ρ B w0 nt σ act w q =>
  ⟨(k.2 ρ B w0 nt σ act w (h.2 ρ B w0 nt σ act w q).1).1, fun x v hv => (k.2 ρ B w0 nt σ act w (h.2 ρ B w0 nt σ act w q).1).2 x v ((h.2 ρ B w0 nt σ act w q).2 x v hv)⟩⟩
section
variable {nt : Nat} {Q : AX → St → Prop} {st st' : St} {c : Code} {ops : Array Oper} {l : List Oper}
theorem aWp_sub [ρ : Rnd] (hs : Sub st st') (h : aWp P nt c Q st') : aWp P nt c Q st := fun B w0 O σ act w hr hk =>
  h B w0 O σ act w (hs.2 _ B w0 nt σ act w hr).1 (hk.trans ⟨(hs.2 _ B w0 nt σ act w hr).2, .refl _⟩ hs.1 (fun _ _ => rfl))
theorem aOps_sub [ρ : Rnd] (hs : Sub st st') (h : aOps P nt ops l Q st') : aOps P nt ops l Q st := fun B w0 O σ act w hr hk =>
  h B w0 O σ act w (hs.2 _ B w0 nt σ act w hr).1 (hk.trans ⟨(hs.2 _ B w0 nt σ act w hr).2, .refl _⟩ hs.1 (fun _ _ => rfl))
/-- Blocks are forgotten. -/
theorem Sub.drop (D : Nat → Bool) : Sub st ⟨st.tm, fun m => if D m = true then none else st.h m, st.nx, st.df⟩ := ⟨Nat.le_refl _, fun ρ B w0 nt σ act w hr => by
  obtain ⟨h1, h2⟩ := hr.sr.drop D
  exact ⟨⟨h1, fun t => h2 _ _ (hr.tr t), hr.nt, hr.nx, hr.df.mono h2, ρ.pres hr.iv h2⟩, h2.vr⟩⟩
/-- The next name may be a later one. -/
theorem Sub.later {k : Nat} (hk : st.nx ≤ k) : Sub st ⟨st.tm, st.h, k, st.df⟩ := ⟨hk, fun ρ B w0 nt σ act w hr =>
  ⟨⟨hr.sr, hr.tr, hr.nt, fun n hn => hr.nx n (by have : k ≤ n := hn; omega), hr.df, hr.iv⟩, fun _ _ q => q⟩⟩
/-- What nobody will write any more is read without its block. -/
theorem VR.freeze {B : Nat} {w0 w : World} {σ : Sig} {h : AHeap} (hs : SR B w0 σ h w) (D : Nat → Bool) {n off len : Nat} {k : Blk} {v : Value} (hn : h n = some k) (hD : D n = true) (hl : off + len ≤ k.es.length) (hv : VR σ w (Held σ h) B (.hs n off len) v) :
    VR σ w (Held σ (fun m => if D m = true then none else h m)) B (.sl ((k.es.drop off).take len)) v := by
  obtain ⟨d1, d2⟩ := hs.drop D
  cases hv with
  | hs _ _ _ a cap r hr hcap hb hor =>
  obtain ⟨r', q1, q2, q3, q4, q4', q5, q6⟩ := hs.blk n k hn
  rw [hr] at q1
  cases q1
  have hlen : ((k.es.drop off).take len).length = len := by simp; omega
  have get : ∀ (i : Nat) (e : List AV), ((k.es.drop off).take len)[i]? = some e → i < len ∧ k.es[off + i]? = some e := fun i e he => by
    rw [List.getElem?_take] at he
    split at he
    · rw [List.getElem?_drop] at he
      exact ⟨by assumption, he⟩
    · cases he
  have read : ∀ i j : Nat, ∃ u, ∀ (e : List AV) (c : AV), ((k.es.drop off).take len)[i]? = some e → e[j]? = some c → c.one = true ∧ u.oneCell' = true ∧ w.cell? ⟨r.b, r.o + (off + i) * k.sz + j, none⟩ = some u ∧ VR σ w (Held σ h) B c u := fun i j => by
    cases he : ((k.es.drop off).take len)[i]? with
    | none => exact ⟨Go.undef, fun e c h => by cases h⟩
    | some e =>
      cases hc : e[j]? with
      | none => exact ⟨Go.undef, fun e' c h1 h2 => by cases h1; rw [hc] at h2; cases h2⟩
      | some c =>
        obtain ⟨h1, u, h2, h3, h4⟩ := (q6 _ _ (get i e he).2).2 j c hc
        exact ⟨u, fun e' c' g1 g2 => by cases g1; rw [hc] at g2; cases g2; exact ⟨h1, h2, h3, h4⟩⟩
  suffices key : VR σ w (Held σ (fun m => if D m = true then none else h m)) B (.sl ((k.es.drop off).take len)) (.slice a ((k.es.drop off).take len).length cap) by
    rwa [hlen] at key
  refine .sl _ a cap k.sz (fun i j => (read i j).choose) (by rw [hlen]; exact hcap) (by rw [hlen]; exact hb) (fun i e he => ?_) (fun i e he j c hc => d2 _ _ ((read i j).choose_spec e c he hc).2.2.2)
  obtain ⟨h1, h2⟩ := get i e he
  have hel := (q6 _ _ h2).1
  rcases hor with hor | ⟨rfl, hor⟩
  · omega
  · refine ⟨hel, _, rfl, rfl, fun j c hc => ?_⟩
    obtain ⟨g1, g2, g3, g4⟩ := (read i j).choose_spec e c he hc
    have e1 : r.o + off * r.sz + i * k.sz + j = r.o + (off + i) * k.sz + j := by rw [q2, Nat.add_mul]; omega
    refine ⟨g1, g2, by rw [e1]; exact g3, ?_⟩
    rintro ⟨m, s, p1, p2, p3⟩
    simp only at p1
    split at p1
    · cases p1
    · rename_i hm
      have hj := (List.getElem?_eq_some_iff.1 hc).1
      have hi := (List.getElem?_eq_some_iff.1 h2).1
      have hmul : (off + i + 1) * k.sz ≤ k.es.length * k.sz := Nat.mul_le_mul_right _ hi
      rw [Nat.succ_mul] at hmul
      have hin : r.has r.b (r.o + off * r.sz + i * k.sz + j) := ⟨rfl, by omega, by rw [e1]; omega⟩
      have := hs.dis m n s r _ _ p1 (by rw [hn]; rfl) p2 hr p3 hin
      subst this
      exact hm hD
/-- A temporary's row is frozen. -/
theorem Sub.freeze {t n off len : Nat} {k : Blk} (ht : st.tm t = .hs n off len) (hn : st.h n = some k) (hl : off + len ≤ k.es.length) : Sub st ⟨upd st.tm t (.sl ((k.es.drop off).take len)), upd st.h n none, st.nx, st.df⟩ := ⟨Nat.le_refl _, fun ρ B w0 nt σ act w hr => by
  obtain ⟨d1, d2⟩ := hr.sr.drop (fun i => decide (i = n))
  have hv := hr.tr t
  rw [ht] at hv
  have hf := VR.freeze hr.sr (fun i => decide (i = n)) hn (by simp) hl hv
  rw [kill_eq] at d1 d2 hf
  refine ⟨⟨d1, fun i => ?_, hr.nt, hr.nx, hr.df.mono d2, ρ.pres hr.iv d2⟩, d2.vr⟩
  by_cases hi : i = t
  · subst hi
    simp only [upd_same]
    exact hf
  · simp only [upd_ne _ _ _ hi]
    exact d2 _ _ (hr.tr i)⟩
/-- The blocks that may be there have names. -/
theorem aWp_fresh [ρ : Rnd] (h : (∀ n, st.nx ≤ n → st.h n = none) → aWp P nt c Q st) : aWp P nt c Q st := fun B w0 O σ act w hr hk =>
  h (fun n hn => hr.sr.none_of (hr.nx n hn)) B w0 O σ act w hr hk
/-- There is a value that it stands for. -/
def Real (a : AV) : Prop := ∃ σ w X B v, VR σ w X B a v
theorem aWp_real [ρ : Rnd] (t : Nat) (h : Real (st.tm t) → aWp P nt c Q st) : aWp P nt c Q st := fun B w0 O σ act w hr hk =>
  h ⟨_, _, _, _, _, hr.tr t⟩ B w0 O σ act w hr hk
theorem aCalls_real {f : FuncId} {args : List AV} {h : AHeap} {nx : Nat} {R : AEnd → AHeap → Nat → Prop} (hc : (∀ a ∈ args, Real a) → (∀ n, nx ≤ n → h n = none) → aCalls P f args h nx R) : aCalls P f args h nx R := fun B w0 O σ w vs hs hx hk hv =>
  hc (fun a ha => by
    obtain ⟨j, hj⟩ := List.mem_iff_getElem?.1 ha
    obtain ⟨v, h1, h2⟩ := hv.get hj
    exact ⟨_, _, _, _, v, h2⟩) (fun n hn => hs.none_of (hx n hn)) B w0 O σ w vs hs hx hk hv
theorem Real.int {k : IntKind} {n : Int} (h : Real (.int k n)) : InR k n := by
  obtain ⟨σ, w, X, B, v, h⟩ := h
  cases h
  assumption
theorem Real.sl {es : List (List AV)} (h : Real (.sl es)) : es.length < big ∧ ∀ e ∈ es, ∀ c ∈ e, Real c := by
  obtain ⟨σ, w, X, B, v, h⟩ := h
  cases h with
  | sl _ a cap size vs hcap hb h1 h2 =>
  refine ⟨hb, fun e he c hc => ?_⟩
  obtain ⟨i, hi⟩ := List.mem_iff_getElem?.1 he
  obtain ⟨j, hj⟩ := List.mem_iff_getElem?.1 hc
  exact ⟨_, _, _, _, _, h2 i e hi j c hj⟩
theorem Real.str {l : List Int} (h : Real (.str l)) : l.length < big ∧ ∀ n ∈ l, 0 ≤ n ∧ n < 256 := by
  obtain ⟨σ, w, X, B, v, h⟩ := h
  cases h with
  | str s hb =>
  refine ⟨by rw [octs_length]; exact hb, fun n hn => ?_⟩
  unfold octs at hn
  obtain ⟨b, _, rfl⟩ := List.mem_map.1 hn
  have := b.toNat_lt
  omega
theorem Real.agg {cs : List AV} (h : Real (.agg cs)) : ∀ c ∈ cs, Real c := by
  obtain ⟨σ, w, X, B, v, h⟩ := h
  intro c hc
  obtain ⟨vs, _, hv⟩ := VR.agg_iff.1 h
  obtain ⟨j, hj⟩ := List.mem_iff_getElem?.1 hc
  obtain ⟨u, _, h2⟩ := hv.get hj
  exact ⟨_, _, _, _, u, h2⟩
/-! ### an empty row without room is an empty row -/
theorem VR.weakZ {σ : Sig} {w : World} {X : Nat → Nat → Prop} {B : Nat} {v : Value} (h : VR σ w X B .zs v) : VR σ w X B (.sl []) v := by
  cases h with
  | zs a => exact .sl [] a 0 0 (fun _ _ => Go.undef) (Nat.le_refl _) (by decide) (fun i e h => by simp at h) (fun i e h => by simp at h)
def weak1 : AV → AV
  | .zs => .sl []
  | a => a
def weakA : AV → AV
  | .agg cs => .agg (cs.map weak1)
  | a => weak1 a
theorem VR.weak1 {σ : Sig} {w : World} {X : Nat → Nat → Prop} {B : Nat} {a : AV} {v : Value} (h : VR σ w X B a v) : VR σ w X B (weak1 a) v := by
  cases a <;> first | exact h | exact h.weakZ
theorem VR.weakA {σ : Sig} {w : World} {X : Nat → Nat → Prop} {B : Nat} {a : AV} {v : Value} (h : VR σ w X B a v) : VR σ w X B (weakA a) v := by
  cases a with
  | agg cs =>
    obtain ⟨us, rfl, h1⟩ := VR.agg_iff.1 h
    refine VR.agg_iff.2 ⟨us, rfl, by simpa using h1.1, fun j c v hc hv => ?_⟩
    rw [List.getElem?_map] at hc
    obtain ⟨d, hd, rfl⟩ := Option.map_eq_some_iff.1 hc
    exact (h1.2 j d v hd hv).weak1
  | _ => exact h.weak1
theorem VRs.weak {σ : Sig} {w : World} {X : Nat → Nat → Prop} {B : Nat} {as : List AV} {vs : List Value} (h : VRs σ w X B as vs) : VRs σ w X B (as.map weakA) vs := ⟨by simpa using h.1, fun j c v hc hv => by
  rw [List.getElem?_map] at hc
  obtain ⟨d, hd, rfl⟩ := Option.map_eq_some_iff.1 hc
  exact (h.2 j d v hd hv).weakA⟩
/-- A call, its arguments told without room. -/
def calleeW (tm : Nat → AV) (c : Call) : Option (FuncId × List AV) := (calleeA tm c).map fun p => (p.1, p.2.map weakA)
/-! ### functions that leave memory as it was -/
def frz1 (nx : Nat) (h : AHeap) : AV → Option AV
  | .hs n off len => if nx ≤ n then (h n).bind fun k => if off + len ≤ k.es.length then some (.sl ((k.es.drop off).take len)) else none else none
  | .ptr .. => none
  | .fn .. => none
  | .agg _ => none
  | .tup _ => none
  | .zs => some (.sl [])
  | a => some a
def frzL (nx : Nat) (h : AHeap) : List AV → Option (List AV)
  | [] => some []
  | a :: l => (frz1 nx h a).bind fun b => (frzL nx h l).map fun m => b :: m
def frz2 (nx : Nat) (h : AHeap) : AV → Option AV
  | .agg cs => (frzL nx h cs).map .agg
  | a => frz1 nx h a
def frzM (nx : Nat) (h : AHeap) : List AV → Option (List AV)
  | [] => some []
  | a :: l => (frz2 nx h a).bind fun b => (frzM nx h l).map fun m => b :: m
def frzV (nx : Nat) (h : AHeap) : AV → Option AV
  | .tup vs => (frzM nx h vs).map .tup
  | a => frz2 nx h a
section
variable {B : Nat} {w0 w : World} {σ : Sig} {h : AHeap} {nx : Nat}
theorem frz1_ok (hs : SR B w0 σ h w) {a b : AV} {v : Value} (hf : frz1 nx h a = some b) (hv : VR σ w (Held σ h) B a v) : VR σ w (Held σ (fun m => if decide (nx ≤ m) = true then none else h m)) B b v := by
  obtain ⟨d1, d2⟩ := hs.drop (fun m => decide (nx ≤ m))
  unfold frz1 at hf
  split at hf
  · rename_i n off len
    split at hf <;> try (cases hf; done)
    rename_i hn
    simp only [Option.bind_eq_some_iff] at hf
    obtain ⟨k, hk, hf⟩ := hf
    split at hf <;> cases hf
    exact VR.freeze hs (fun m => decide (nx ≤ m)) hk (by simpa using hn) (by assumption) hv
  · cases hf
  · cases hf
  · cases hf
  · cases hf
  · cases hf
    exact (d2 _ _ hv).weakZ
  · cases hf
    exact d2 _ _ hv
theorem frzL_ok (hs : SR B w0 σ h w) : ∀ {as bs : List AV} {vs : List Value}, frzL nx h as = some bs → VRs σ w (Held σ h) B as vs → VRs σ w (Held σ (fun m => if decide (nx ≤ m) = true then none else h m)) B bs vs
  | [], bs, vs, hf, hv => by
    simp [frzL] at hf
    subst hf
    have : vs = [] := List.eq_nil_of_length_eq_zero hv.1.symm
    subst this
    exact .nil
  | a :: as, bs, vs, hf, hv => by
    simp only [frzL, Option.bind_eq_some_iff, Option.map_eq_some_iff] at hf
    obtain ⟨b, h1, bs', h2, rfl⟩ := hf
    cases vs with
    | nil => have := hv.1; simp at this
    | cons v vs => exact .cons (frz1_ok hs h1 hv.head) (frzL_ok hs h2 hv.tail)
theorem frz2_ok (hs : SR B w0 σ h w) {a b : AV} {v : Value} (hf : frz2 nx h a = some b) (hv : VR σ w (Held σ h) B a v) : VR σ w (Held σ (fun m => if decide (nx ≤ m) = true then none else h m)) B b v := by
  unfold frz2 at hf
  split at hf
  · obtain ⟨bs, h1, rfl⟩ := Option.map_eq_some_iff.1 hf
    obtain ⟨us, rfl, h2⟩ := VR.agg_iff.1 hv
    exact VR.agg_iff.2 ⟨us, rfl, frzL_ok hs h1 h2⟩
  · exact frz1_ok hs hf hv
theorem frzM_ok (hs : SR B w0 σ h w) : ∀ {as bs : List AV} {vs : List Value}, frzM nx h as = some bs → VRs σ w (Held σ h) B as vs → VRs σ w (Held σ (fun m => if decide (nx ≤ m) = true then none else h m)) B bs vs
  | [], bs, vs, hf, hv => by
    simp [frzM] at hf
    subst hf
    have : vs = [] := List.eq_nil_of_length_eq_zero hv.1.symm
    subst this
    exact .nil
  | a :: as, bs, vs, hf, hv => by
    simp only [frzM, Option.bind_eq_some_iff, Option.map_eq_some_iff] at hf
    obtain ⟨b, h1, bs', h2, rfl⟩ := hf
    cases vs with
    | nil => have := hv.1; simp at this
    | cons v vs => exact .cons (frz2_ok hs h1 hv.head) (frzM_ok hs h2 hv.tail)
theorem frzV_ok (hs : SR B w0 σ h w) {a b : AV} {v : Value} (hf : frzV nx h a = some b) (hv : VR σ w (Held σ h) B a v) : VR σ w (Held σ (fun m => if decide (nx ≤ m) = true then none else h m)) B b v := by
  unfold frzV at hf
  split at hf
  · obtain ⟨bs, h1, rfl⟩ := Option.map_eq_some_iff.1 hf
    obtain ⟨us, rfl, h2⟩ := VR.tup_iff.1 hv
    exact VR.tup_iff.2 ⟨us, rfl, frzM_ok hs h1 h2⟩
  · exact frz2_ok hs hf hv
end
/-- It answers v, and memory is as it was. -/
def aFun (P : Program) (f : FuncId) (args : List AV) (v : AV) : Prop := ∀ h nx, aCalls P f args h nx (fun e h' k' => e = .ret v ∧ h' = h ∧ nx ≤ k')
/-- What a walk shows of it at its end. -/
def endA (P : Program) (fn : Func) (nx : Nat) (h : AHeap) (v : AV) (s : St) : Prop := s.df = [] ∧ nx ≤ s.nx ∧ (∀ n, n < nx → s.h n = h n) ∧ ∃ a, resA P s fn.results.toList = some a ∧ frzV nx s.h a = some v
def endQ (P : Program) (fn : Func) (nx : Nat) (h : AHeap) (v : AV) : AX → St → Prop
  | .norm, s | .ret, s => endA P fn nx h v s
  | _, _ => False
theorem aFun_body {f : FuncId} {fn : Func} {c : Code} {args : List AV} {v : AV} (hf : P.funcs[f]? = some fn) (hb : fn.body = some c) (hn : fn.ntmps = nt) (ha : args.length ≤ nt)
    (hw : (∀ a ∈ args, Real a) → ∀ h nx, (∀ n, nx ≤ n → h n = none) → aWp P nt c (endQ P fn nx h v) ⟨tm0 args, h, nx, []⟩) : aFun P f args v := fun h nx => aCalls_real fun hreal hfresh => by
  have h1 : aCalls P f args h nx (fun e h' k' => ∃ a, e = .ret a ∧ frzV nx h' a = some v ∧ (∀ n, n < nx → h' n = h n) ∧ nx ≤ k') := by
    refine aCalls_body hf hb hn ha (aWp_mono (hw hreal h nx hfresh) ?_)
    rintro e s hs
    cases e with
    | norm => obtain ⟨q1, q2, q3, a, q4, q5⟩ := hs; exact ⟨q1, a, q4, a, rfl, q5, q3, q2⟩
    | ret => obtain ⟨q1, q2, q3, a, q4, q5⟩ := hs; exact ⟨q1, a, q4, a, rfl, q5, q3, q2⟩
    | ex id => exact hs.elim
    | gt l => exact hs.elim
    | pan v => exact hs.elim
  intro B w0 O σ w vs hs hx hk hv
  refine (h1 B w0 O σ w vs hs hx hk hv).mono ?_
  rintro e w' ⟨ae, h', nx', σ', g1, g2, g3, g4, a, rfl, g5, g6, g7⟩
  cases g1 with
  | ret _ u hu =>
  obtain ⟨d1, d2⟩ := g2.drop (fun m => decide (nx ≤ m))
  have hfz := frzV_ok g2 g5 hu
  have he : (fun m => if decide (nx ≤ m) = true then none else h' m) = h := by
    funext m
    by_cases hm : nx ≤ m
    · simp [hm, hfresh m hm]
    · simp [hm, g6 m (by omega)]
  rw [he] at d1 d2 hfz
  exact ⟨.ret v, h, nx', σ', .ret v u hfz, d1, g3, g4.trans d2 (Nat.le_refl _) (fun _ _ => rfl), rfl, rfl, g7⟩
theorem aOps_fun [ρ : Rnd] {o : Oper} {rest : List Oper} {cl : Call} {f : FuncId} {args : List AV} {v : AV} (hg : guardA ops st.tm o.guard = some true) (hd : dstOk nt o.dst = true) (ho : o.op = .call cl) (ha : calleeW st.tm cl = some (f, args)) (hc : callable P f = true)
    (hcall : aFun P f args v) (hret : ∀ k', st.nx ≤ k' → aOps P nt ops rest Q ⟨putA st.tm o.dst v, st.h, k', st.df⟩) : aOps P nt ops (o :: rest) Q st := by
  unfold calleeW at ha
  obtain ⟨⟨f', args'⟩, h1, h2⟩ := Option.map_eq_some_iff.1 ha
  simp only [Prod.mk.injEq] at h2
  obtain ⟨rfl, rfl⟩ := h2
  exact aOps_call hg hd ho h1 hc (fun B w0 O σ w vs q1 q2 q3 q4 => hcall st.h st.nx B w0 O σ w vs q1 q2 q3 q4.weak) (fun a h' k' ⟨e1, e2, e3⟩ => by cases e1; subst e2; exact hret k' e3) (fun a h' k' ⟨e1, _⟩ => by cases e1)
end
end Go.Proofs.YtjidgdfdeckofaaDoor.AE
