/- Layer 15, JournalScans in plain words: records one behind the other, cut off. No program in sight. -/
import Derived.Test.YteklnhogokjkkaaJ0
namespace Go.Proofs.Yteklnhogokjkkaa.AE
open Go Go.RowKit Go.Proofs Go.Proofs.Yteklnhogokjkkaa
set_option linter.unusedVariables false
theorem enc_pos' (r : Rec) : 0 < r.enc.length := by rw [enc_len]; unfold padN; omega
def catR (l : List Rec) : List Int := l.flatMap Rec.enc
theorem catR_cons (r : Rec) (l : List Rec) : catR (r :: l) = r.enc ++ catR l := rfl
theorem catR_snoc (l : List Rec) (r : Rec) : catR (l ++ [r]) = catR l ++ r.enc := by simp [catR]
/-- Records that may be, numbered from next on. -/
def RunR : List Rec → Int → Prop
  | [], _ => True
  | r :: l, next => r.ok ∧ r.q = next ∧ RunR l (next + 1)
theorem RunR.snoc : ∀ {l : List Rec} {next : Int} {r : Rec}, RunR l next → r.ok → r.q = next + (l.length : Int) → RunR (l ++ [r]) next
  | [], next, r, _, h1, h2 => ⟨h1, by simpa using h2, trivial⟩
  | x :: l, next, r, h, h1, h2 => ⟨h.1, h.2.1, RunR.snoc h.2.2 h1 (by rw [h2]; simp; omega)⟩
/-- What is read of less is read of more. -/
theorem decR_take {x : List Int} {m : Nat} {r : Rec} {n : Nat} (h : decR (x.take m) = .ok (r, n)) : decR x = .ok (r, n) ∧ n ≤ m := by
  obtain ⟨h1, h2, h3, _⟩ := decR_ok h
  have hn : n ≤ m ∧ n ≤ x.length := by simp at h3; omega
  have he : r.enc = x.take n := by rw [h2, List.take_take, Nat.min_eq_left hn.1]
  have hl : r.enc.length = n := by rw [he]; simp; omega
  have := dec_enc h1 (x.drop n)
  rw [he, List.take_append_drop] at this
  rw [this, ← he, hl]
  exact ⟨rfl, hn.1⟩
/-- How many records are whole within so many octets. -/
def whole : List Rec → Nat → Nat
  | [], _ => 0
  | r :: l, m => if r.enc.length ≤ m then whole l (m - r.enc.length) + 1 else 0
theorem scan_cut : ∀ (l : List Rec) (next : Int) (m : Nat), RunR l next → scanS ((catR l).take m) next = (l.take (whole l m), (catR (l.take (whole l m))).length)
  | [], next, m, _ => by
    rw [show (catR []).take m = [] from by simp [catR], scan_bad decR_nil]
    rfl
  | r :: l, next, m, h => by
    obtain ⟨h1, h2, h3⟩ := h
    have hd := dec_enc h1 (catR l)
    unfold whole
    by_cases hm : r.enc.length ≤ m
    · rw [if_pos hm]
      have ht : (catR (r :: l)).take m = r.enc ++ (catR l).take (m - r.enc.length) := by
        rw [catR_cons, List.take_append, List.take_of_length_le hm]
      rw [ht, scan_yes (dec_enc h1 _) h2, List.drop_left, scan_cut l (next + 1) (m - r.enc.length) h3, List.take_succ_cons, catR_cons, List.length_append]
    · rw [if_neg hm]
      have hb : ∃ e, decR ((catR (r :: l)).take m) = .error e := by
        cases hq : decR ((catR (r :: l)).take m) with
        | error e => exact ⟨e, rfl⟩
        | ok p =>
          obtain ⟨r', n⟩ := p
          obtain ⟨q1, q2⟩ := decR_take hq
          rw [catR_cons, hd] at q1
          cases q1
          omega
      obtain ⟨e, hb⟩ := hb
      rw [scan_bad hb]
      rfl
theorem whole_all : ∀ (l : List Rec) (m : Nat), (catR l).length ≤ m → whole l m = l.length
  | [], _, _ => rfl
  | r :: l, m, h => by
    rw [catR_cons, List.length_append] at h
    unfold whole
    rw [if_pos (by omega), whole_all l _ (by omega)]
    rfl
theorem scan_all (l : List Rec) (next : Int) (h : RunR l next) : scanS (catR l) next = (l, (catR l).length) := by
  have := scan_cut l next (catR l).length h
  rwa [List.take_length, whole_all l _ (Nat.le_refl _), List.take_length] at this
/-- Where the records end. -/
def endsR (l : List Rec) : List Int := (List.range l.length).map fun i => ((catR (l.take (i + 1))).length : Int)
theorem whole_iff : ∀ (l : List Rec) (m i : Nat), i < l.length → (i < whole l m ↔ (catR (l.take (i + 1))).length ≤ m)
  | [], m, i, h => by cases h
  | r :: l, m, i, h => by
    unfold whole
    rw [List.take_succ_cons, catR_cons, List.length_append]
    by_cases hm : r.enc.length ≤ m
    · rw [if_pos hm]
      cases i with
      | zero => simp [catR]; exact hm
      | succ i =>
        have := whole_iff l (m - r.enc.length) i (by simpa using h)
        rw [Nat.succ_lt_succ_iff, this]
        omega
    · rw [if_neg hm]
      constructor
      · intro q; omega
      · intro q; omega
end Go.Proofs.Yteklnhogokjkkaa.AE
