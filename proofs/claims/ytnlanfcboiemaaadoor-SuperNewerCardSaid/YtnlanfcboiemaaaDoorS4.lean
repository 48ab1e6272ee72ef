/- Layer 4 in plain words: a superblock's sector, and back. No program in sight. -/
import Derived.Test.YtnlanfcboiemaaaDoorS0
import Derived.Test.YtnlanfcboiemaaaDoorPF
import Derived.Test.YtnlanfcboiemaaaDoorS3
namespace Go.Proofs.YtnlanfcboiemaaaDoor.AE
open Go Go.RowKit Go.Proofs Go.Proofs.YtnlanfcboiemaaaDoor
set_option linter.unusedVariables false
set_option linter.unusedSimpArgs false
def mag4 : List Int := [102, 115, 116, 49]
def wid4 : List Int := [8, 4, 4, 4, 4, 8, 4]
namespace Sup
def head (s : Sup) (i : Nat) : List Int := mag4 ++ Pl.flat (wid4.take i) (s.vals.take i)
def off (i : Nat) : Nat := [0, 8, 12, 16, 20, 24, 32, 36].getD i 0
theorem wid_get (i : Nat) (hi : i < 7) : wid4[i]? = some (width i : Int) := by
  match i, hi with
  | 0, _ | 1, _ | 2, _ | 3, _ | 4, _ | 5, _ | 6, _ => rfl
theorem vals_get (s : Sup) (i : Nat) (hi : i < 7) : s.vals[i]? = some (s.val i) := by
  match i, hi with
  | 0, _ | 1, _ | 2, _ | 3, _ | 4, _ | 5, _ | 6, _ => rfl
theorem off_succ (i : Nat) (hi : i < 7) : off (i + 1) = off i + width i := by
  match i, hi with
  | 0, _ | 1, _ | 2, _ | 3, _ | 4, _ | 5, _ | 6, _ => rfl
theorem off_le (i : Nat) : off i ≤ 36 := by
  by_cases h : i < 8
  · match i, h with
    | 0, _ | 1, _ | 2, _ | 3, _ | 4, _ | 5, _ | 6, _ | 7, _ => decide
  · unfold off
    rw [List.getD_eq_getElem?_getD, List.getElem?_eq_none (by simp; omega)]
    simp
theorem width_in (i : Nat) (hi : i < 7) : width i = 4 ∨ width i = 8 := by
  match i, hi with
  | 0, _ | 1, _ | 2, _ | 3, _ | 4, _ | 5, _ | 6, _ => decide
theorem head_succ (s : Sup) (i : Nat) (hi : i < 7) : s.head (i + 1) = s.head i ++ Pl.putI (width i) (s.val i) := by
  unfold head
  rw [flat_take _ _ i _ _ (wid_get i hi) (s.vals_get i hi), List.append_assoc]
  rfl
theorem head_len (s : Sup) : ∀ i, i ≤ 7 → (s.head i).length = 4 + off i
  | 0, _ => rfl
  | i + 1, h => by
    rw [head_succ s i (by omega), List.length_append, head_len s i (by omega), Pl.putI_length, off_succ i (by omega)]
    omega
/-- Its sector. -/
def sector (s : Sup) : List Int := Pl.sealS (s.head 7 ++ List.replicate 20 0)
theorem head7_len (s : Sup) : (s.head 7 ++ List.replicate 20 0).length = 60 := by rw [List.length_append, head_len s 7 (by omega), List.length_replicate]; rfl
theorem sector_len (s : Sup) : s.sector.length = 64 := by rw [sector, Pl.seal_len, head7_len]
theorem val_fits {s : Sup} (h : s.ok) (i : Nat) (hi : i < 7) : 0 ≤ s.val i ∧ s.val i < 256 ^ (width i) := by
  have h2 := s.ok_iff.1 h
  obtain ⟨h0, h1, h3, h4, h5, h6, h7⟩ := h2
  have e0 : s.val 0 = s.e := rfl
  have e1 : s.val 1 = s.v := rfl
  have e2 : s.val 2 = s.j := rfl
  have e3 : s.val 3 = s.p := rfl
  have e4 : s.val 4 = s.d := rfl
  have e5 : s.val 5 = s.s := rfl
  have e6 : s.val 6 = s.r := rfl
  match i, hi with
  | 0, _ => rw [e0]; exact ⟨h0.1, Int.lt_of_le_of_lt h0.2 (by decide)⟩
  | 1, _ => rw [e1]; exact ⟨h1.1, Int.lt_of_le_of_lt h1.2 (by decide)⟩
  | 2, _ => rw [e2]; exact ⟨by omega, Int.lt_of_le_of_lt h3.2 (by decide)⟩
  | 3, _ => rw [e3]; exact ⟨by omega, Int.lt_of_le_of_lt h4.2 (by decide)⟩
  | 4, _ => rw [e4]; exact ⟨h5.1, Int.lt_of_le_of_lt h5.2 (by decide)⟩
  | 5, _ => rw [e5]; exact ⟨h6.1, Int.lt_of_le_of_lt h6.2 (by decide)⟩
  | 6, _ => rw [e6]; exact ⟨h7.1, Int.lt_of_le_of_lt (Int.le_trans h7.2 h4.2) (by decide)⟩
theorem fits (s : Sup) (h : s.ok) : Pl.fits wid4 s.vals := by
  have f := fun i hi => val_fits h i hi
  have t : ∀ i, i < 7 → (1 : Int) ≤ (width i : Nat) ∧ ((width i : Nat) : Int) ≤ 8 := fun i hi => by rcases width_in i hi with h | h <;> omega
  exact ⟨⟨by decide, by decide, (f 0 (by decide)).1, (f 0 (by decide)).2⟩, ⟨by decide, by decide, (f 1 (by decide)).1, (f 1 (by decide)).2⟩, ⟨by decide, by decide, (f 2 (by decide)).1, (f 2 (by decide)).2⟩, ⟨by decide, by decide, (f 3 (by decide)).1, (f 3 (by decide)).2⟩, ⟨by decide, by decide, (f 4 (by decide)).1, (f 4 (by decide)).2⟩, ⟨by decide, by decide, (f 5 (by decide)).1, (f 5 (by decide)).2⟩, ⟨by decide, by decide, (f 6 (by decide)).1, (f 6 (by decide)).2⟩, trivial⟩
/-! ### back -/
/-- The numbers that octets bear. -/
def nums (x : List Int) : List Int := Pl.unpackGo wid4 ((x.drop 4).take 36)
def num (x : List Int) (i : Nat) : Int := (nums x).getD i 0
def raw (x : List Int) : Sup := ⟨num x 0, num x 1, num x 2, num x 3, num x 4, num x 5, num x 6⟩
theorem nums_eq (x : List Int) : nums x = (raw x).vals := rfl
theorem un_get (y : List Int) (i : Nat) (hi : i < 7) : (Pl.unpackGo wid4 y)[i]? = some (Pl.leI ((y.drop (off i)).take (width i))) := by
  match i, hi with
  | 0, _ => rfl
  | 1, _ => rfl
  | 2, _ => show some (Pl.leI (((y.drop 8).drop 4).take 4)) = _; rw [List.drop_drop]; rfl
  | 3, _ => show some (Pl.leI ((((y.drop 8).drop 4).drop 4).take 4)) = _; rw [List.drop_drop, List.drop_drop]; rfl
  | 4, _ => show some (Pl.leI (((((y.drop 8).drop 4).drop 4).drop 4).take 4)) = _; rw [List.drop_drop, List.drop_drop, List.drop_drop]; rfl
  | 5, _ => show some (Pl.leI ((((((y.drop 8).drop 4).drop 4).drop 4).drop 4).take 8)) = _; rw [List.drop_drop, List.drop_drop, List.drop_drop, List.drop_drop]; rfl
  | 6, _ => show some (Pl.leI (((((((y.drop 8).drop 4).drop 4).drop 4).drop 4).drop 8).take 4)) = _; rw [List.drop_drop, List.drop_drop, List.drop_drop, List.drop_drop, List.drop_drop]; rfl
theorem num_eq (x : List Int) (i : Nat) (hi : i < 7) : num x i = Pl.leI ((x.drop (4 + off i)).take (width i)) := by
  have h1 : off i + width i ≤ 36 := by rw [← off_succ i hi]; exact off_le _
  unfold num nums
  rw [List.getD_eq_getElem?_getD, un_get _ i hi, Option.getD_some, List.drop_take, List.take_take, List.drop_drop, Nat.min_eq_left (by omega)]
theorem num_nonneg (x : List Int) (i : Nat) (hi : i < 7) : 0 ≤ num x i := by rw [num_eq x i hi]; exact Pl.leI_nonneg _
/-- Numbers above a bound are the bound. -/
def clampN (M n : Int) : Int := if M < n then M else n
def clamp (M : Int) (s : Sup) : Sup := ⟨clampN M s.e, clampN M s.v, clampN M s.j, clampN M s.p, clampN M s.d, clampN M s.s, clampN M s.r⟩
theorem clamp_ok (M : Int) (hM : 1099511627777 ≤ M) (s : Sup) : (clamp M s).ok ↔ s.ok := by
  rw [ok_iff, ok_iff]
  unfold clamp clampN
  simp only
  constructor
  · rintro ⟨h0, h1, h2, h3, h4, h5, h6⟩
    refine ⟨?_, ?_, ?_, ?_, ?_, ?_, ?_⟩ <;> split at * <;> omega
  · rintro ⟨h0, h1, h2, h3, h4, h5, h6⟩
    refine ⟨?_, ?_, ?_, ?_, ?_, ?_, ?_⟩ <;> split <;> omega
theorem clamp_eq (M : Int) (hM : 1099511627777 ≤ M) (s : Sup) (h : s.ok) : clamp M s = s := by
  obtain ⟨h0, h1, h2, h3, h4, h5, h6⟩ := s.ok_iff.1 h
  unfold clamp clampN
  rw [if_neg (by omega), if_neg (by omega), if_neg (by omega), if_neg (by omega), if_neg (by omega), if_neg (by omega), if_neg (by omega)]
/-- What a sector tells. -/
def told (b : List Int) : Sup × Int :=
  if b.length ≠ 64 then (zero, 8)
  else if (Pl.openS b).2 ≠ 0 ∨ ¬ mag4 <+: (Pl.openS b).1 ∨ ¬ ∀ x ∈ (Pl.openS b).1.drop 40, x = 0 then (zero, 21)
  else if (raw (Pl.openS b).1).ok then (raw (Pl.openS b).1, 0) else (zero, 4)
/-- What is told in a loop. -/
def part (M : Int) (x : List Int) : Nat → Sup
  | 0 => zero
  | i + 1 => (part M x i).put i (clampN M (num x i))
theorem part_all (M : Int) (x : List Int) : part M x 7 = clamp M (raw x) := rfl
theorem sector_open (s : Sup) : Pl.openS s.sector = (s.head 7 ++ List.replicate 20 0, 0) := Pl.open_seal
theorem raw_head (s : Sup) (h : s.ok) : raw (s.head 7 ++ List.replicate 20 0) = s := by
  have h1 : ((s.head 7 ++ List.replicate 20 (0 : Int)).drop 4).take 36 = Pl.flat wid4 s.vals := by
    have e : s.head 7 = mag4 ++ Pl.flat wid4 s.vals := rfl
    have hl : (Pl.flat wid4 s.vals).length = 36 := by rw [Pl.flat_len (s.fits h)]; rfl
    rw [e, List.append_assoc, List.drop_left' (by rfl), List.take_left' hl]
  have h2 : nums (s.head 7 ++ List.replicate 20 0) = s.vals := by unfold nums; rw [h1, Pl.unpack_flat (s.fits h)]
  unfold raw num
  rw [h2]
  rfl
theorem told_sector (s : Sup) (h : s.ok) : told s.sector = (s, 0) := by
  unfold told
  rw [if_neg (by rw [sector_len]; simp), sector_open, if_neg, raw_head s h, if_pos h]
  simp only [ne_eq, not_true, false_or, not_or, Classical.not_not]
  refine ⟨⟨Pl.flat wid4 s.vals ++ List.replicate 20 0, by rw [← List.append_assoc]; rfl⟩, fun x hx => ?_⟩
  rw [List.drop_left' (by rw [head_len s 7 (by omega)]; rfl)] at hx
  exact (List.mem_replicate.1 hx).2
/-- What is told is made again. -/
theorem sector_told (b : List Int) (hb : Pl.BY b) (h : (told b).2 = 0) : (told b).1.ok ∧ (told b).1.sector = b := by
  unfold told at h ⊢
  split at h
  · cases h
  rename_i hl
  rw [if_neg hl]
  split at h
  · cases h
  rename_i hc
  rw [if_neg hc]
  split at h
  · rename_i hok
    rw [if_pos hok]
    refine ⟨hok, ?_⟩
    simp only [not_or, Classical.not_not, ne_eq] at hc hl
    obtain ⟨c1, c2, c3⟩ := hc
    have ho : Pl.openS b = (b.take 60, 0) ∧ Pl.leI (b.drop 60) = Pl.crcI (b.take 60) := by
      unfold Pl.openS at c1 ⊢
      rw [if_neg (by omega)] at c1 ⊢
      rw [hl] at c1 ⊢
      split at c1
      · cases c1
      · rename_i hq
        rw [if_neg hq]
        exact ⟨rfl, by simpa using hq⟩
    rw [ho.1] at c2 c3 hok ⊢
    simp only at c2 c3 hok ⊢
    have hse : Pl.sealS (b.take 60) = b := by
      have hd : (b.drop 60).length = 4 := by simp; omega
      have h2 := Pl.put_leI (Pl.BY_drop hb 60)
      rw [hd, ho.2] at h2
      unfold Pl.sealS
      rw [h2, List.take_append_drop]
    have hlx : (b.take 60).length = 60 := by simp; omega
    have hbx : Pl.BY (b.take 60) := Pl.BY_take hb 60
    generalize b.take 60 = x at c2 c3 hok hse hlx hbx ⊢
    have hy : (((x.drop 4).take 36)).length = Pl.sumN wid4 := by rw [show Pl.sumN wid4 = 36 from rfl]; simp; omega
    obtain ⟨p1, p2⟩ := Pl.pack_unpack wid4 ((x.drop 4).take 36) (by decide) (Pl.BY_take (Pl.BY_drop hbx 4) 36) hy
    have hv : (raw x).vals = Pl.unpackGo wid4 ((x.drop 4).take 36) := rfl
    have hh : (raw x).head 7 = x.take 40 := by
      have e : (raw x).head 7 = mag4 ++ Pl.flat wid4 (raw x).vals := rfl
      obtain ⟨t, ht⟩ := c2
      rw [e, hv, p2]
      have : x.take 4 = mag4 := by rw [← ht]; rfl
      rw [← this, show (40 : Nat) = 4 + 36 from rfl, List.take_add]
    have hz : x.drop 40 = List.replicate 20 0 := by
      apply List.eq_replicate_iff.2
      exact ⟨by simp; omega, c3⟩
    unfold sector
    rw [hh, ← hz, List.take_append_drop, hse]
  · cases h
theorem told_len {b : List Int} (h : (told b).2 = 0) : b.length = 64 := by
  unfold told at h
  split at h
  · cases h
  · rename_i hl; simpa using hl
theorem told_bad {b : List Int} (h : (told b).2 ≠ 0) : (told b).1 = zero := by
  unfold told at h ⊢
  split
  · rfl
  · rename_i hl
    rw [if_neg hl] at h
    split
    · rfl
    · rename_i hc
      rw [if_neg hc] at h
      split
      · rename_i hok; rw [if_pos hok] at h; exact absurd rfl h
      · rfl
end Sup
end Go.Proofs.YtnlanfcboiemaaaDoor.AE
