/- Layer 4 in plain words: a superblock, its bounds, its sector. No program in sight. -/
import Derived.Test.YtnlanfcboiemaaaDoorC7
namespace Go.Proofs.YtnlanfcboiemaaaDoor.AE
open Go Go.RowKit Go.Proofs Go.Proofs.YtnlanfcboiemaaaDoor
set_option linter.unusedVariables false
structure Sup where
  e : Int
  v : Int
  j : Int
  p : Int
  d : Int
  s : Int
  r : Int
  deriving DecidableEq
namespace Sup
def zero : Sup := ⟨0, 0, 0, 0, 0, 0, 0⟩
def vals (s : Sup) : List Int := [s.e, s.v, s.j, s.p, s.d, s.s, s.r]
def cells (s : Sup) : List AV := [.int .i64 s.e, .int .i64 s.v, .int .i64 s.j, .int .i64 s.p, .int .i64 s.d, .int .i64 s.s, .int .i64 s.r]
def av (s : Sup) : AV := .agg s.cells
def width (i : Nat) : Nat := [8, 4, 4, 4, 4, 8, 4].getD i 0
def low (i : Nat) : Int := [0, 0, 1, 1, 0, 0, 0].getD i 0
def high (p : Int) (i : Nat) : Int := [1099511627776, 65536, 1024, 2048, 65536, 1099511627776, p].getD i 0
def val (s : Sup) (i : Nat) : Int := s.vals.getD i 0
/-- May it be? -/
def ok (s : Sup) : Prop := ∀ i, i < 7 → low i ≤ s.val i ∧ s.val i ≤ high s.p i
instance (s : Sup) : Decidable s.ok := inferInstanceAs (Decidable (∀ i, i < 7 → _))
theorem ok_iff (s : Sup) : s.ok ↔ (0 ≤ s.e ∧ s.e ≤ 1099511627776) ∧ (0 ≤ s.v ∧ s.v ≤ 65536) ∧ (1 ≤ s.j ∧ s.j ≤ 1024) ∧ (1 ≤ s.p ∧ s.p ≤ 2048) ∧ (0 ≤ s.d ∧ s.d ≤ 65536) ∧ (0 ≤ s.s ∧ s.s ≤ 1099511627776) ∧ 0 ≤ s.r ∧ s.r ≤ s.p := by
  constructor
  · intro h
    exact ⟨h 0 (by decide), h 1 (by decide), h 2 (by decide), h 3 (by decide), h 4 (by decide), h 5 (by decide), h 6 (by decide)⟩
  · rintro ⟨h0, h1, h2, h3, h4, h5, h6⟩ i hi
    match i, hi with
    | 0, _ => exact h0
    | 1, _ => exact h1
    | 2, _ => exact h2
    | 3, _ => exact h3
    | 4, _ => exact h4
    | 5, _ => exact h5
    | 6, _ => exact h6
def fld (n : Nat) (p : Int) : List (List AV) := [[.ptr n 0 0, .int .i64 8, .int .i64 0, .int .i64 1099511627776], [.ptr n 0 1, .int .i64 4, .int .i64 0, .int .i64 65536], [.ptr n 0 2, .int .i64 4, .int .i64 1, .int .i64 1024], [.ptr n 0 3, .int .i64 4, .int .i64 1, .int .i64 2048], [.ptr n 0 4, .int .i64 4, .int .i64 0, .int .i64 65536], [.ptr n 0 5, .int .i64 8, .int .i64 0, .int .i64 1099511627776], [.ptr n 0 6, .int .i64 4, .int .i64 0, .int .i64 p]]
theorem fld_get (n : Nat) (p : Int) (i : Nat) (hi : i < 7) : (fld n p)[i]? = some [.ptr n 0 i, .int .i64 (width i : Nat), .int .i64 (low i), .int .i64 (high p i)] := by
  match i, hi with
  | 0, _ | 1, _ | 2, _ | 3, _ | 4, _ | 5, _ | 6, _ => rfl
theorem cells_drop (s : Sup) (i : Nat) (hi : i < 7) : s.cells.drop i = .int .i64 (s.val i) :: s.cells.drop (i + 1) := by
  match i, hi with
  | 0, _ | 1, _ | 2, _ | 3, _ | 4, _ | 5, _ | 6, _ => rfl
/-- One number is another. -/
def put (s : Sup) (i : Nat) (x : Int) : Sup := match i with
  | 0 => { s with e := x }
  | 1 => { s with v := x }
  | 2 => { s with j := x }
  | 3 => { s with p := x }
  | 4 => { s with d := x }
  | 5 => { s with s := x }
  | _ => { s with r := x }
theorem cells_put (s : Sup) (i : Nat) (hi : i < 7) (x : Int) : s.cells.take i ++ [AV.int .i64 x] ++ s.cells.drop (i + 1) = (s.put i x).cells := by
  match i, hi with
  | 0, _ | 1, _ | 2, _ | 3, _ | 4, _ | 5, _ | 6, _ => rfl
def chk (s : Sup) : Int := if s.ok then 0 else 4
end Sup
end Go.Proofs.YtnlanfcboiemaaaDoor.AE
