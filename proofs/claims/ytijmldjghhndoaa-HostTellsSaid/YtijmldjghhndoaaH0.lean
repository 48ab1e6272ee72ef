/- Layer 3's host, in plain words. -/
import Derived.Test.YtijmldjghhndoaaC2
namespace Go.Proofs.Ytijmldjghhndoaa.AE
open Go Go.RowKit Go.Proofs Go.Proofs.Ytijmldjghhndoaa
set_option linter.unusedVariables false
set_option linter.unusedSimpArgs false
abbrev Act3 := Int × Int × List Int
def actB (a : Act3) : List AV := [.int .i64 a.1, .int .i64 a.2.1, .sl (numB .u8 a.2.2)]
def actsB (W : List Act3) : List (List AV) := W.map actB
def secB (S : List (List Int)) : List (List AV) := S.map fun s => [.sl (numB .u8 s)]
def hostV (S : List (List Int)) (W : List Act3) (cap : Int) : AV := .agg [.sl (secB S), .sl (actsB W), .int .i64 cap]
theorem secB_len (S : List (List Int)) : (secB S).length = S.length := by simp [secB]
theorem actsB_len (W : List Act3) : (actsB W).length = W.length := by simp [actsB]
theorem secB_get (S : List (List Int)) (i : Nat) (s : List Int) (h : S[i]? = some s) : (secB S)[i]? = some [.sl (numB .u8 s)] := by simp [secB, h]
theorem actsB_get (W : List Act3) (i : Nat) (a : Act3) (h : W[i]? = some a) : (actsB W)[i]? = some [.int .i64 a.1, .int .i64 a.2.1, .sl (numB .u8 a.2.2)] := by simp [actsB, actB, h]
/-- May an act wait? -/
def mayP (cap : Int) (a : Act3) : Prop := (a.1 = 1 ∧ 0 ≤ a.2.1 ∧ a.2.1 < cap ∧ a.2.2.length = 64) ∨ (a.1 = 2 ∧ 0 ≤ a.2.1 ∧ a.2.1 ≤ cap ∧ a.2.2.length = 0)
instance (cap : Int) (a : Act3) : Decidable (mayP cap a) := inferInstanceAs (Decidable (_ ∨ _))
/-- P3.1: a host that may be. -/
def okH (S : List (List Int)) (W : List Act3) (cap : Int) : Prop := (1 ≤ cap ∧ cap ≤ 65536) ∧ (S.length : Int) ≤ cap ∧ (∀ s ∈ S, s.length = 64) ∧ W.length ≤ 4096 ∧ ∀ a ∈ W, mayP cap a
instance (S : List (List Int)) (W : List Act3) (cap : Int) : Decidable (okH S W cap) := inferInstanceAs (Decidable (_ ∧ _))
def chkH (S : List (List Int)) (W : List Act3) (cap : Int) : Int := if okH S W cap then 0 else 9
def sizeH (n : Int) (W : List Act3) : Int := W.foldl (fun n a => if a.1 = 2 then a.2.1 else n) n
def z64 : List Int := List.replicate 64 0
/-- An act is done. -/
def doH (S : List (List Int)) (a : Act3) : List (List Int) := if a.1 = 2 then S.take a.2.1.toNat ++ List.replicate (a.2.1.toNat - S.length) z64 else S.set a.2.1.toNat a.2.2
def runH : List (List Int) → List Act3 → List Bool → List (List Int)
  | S, [], _ => S
  | S, _ :: _, [] => S
  | S, a :: W, b :: k => runH (if b = true then doH S a else S) W k
def allH (S : List (List Int)) (W : List Act3) : List (List Int) := W.foldl doH S
theorem runH_nil (S : List (List Int)) (W : List Act3) : runH S W [] = S := by cases W <;> rfl
theorem runH_all : ∀ (W : List Act3) (S : List (List Int)), runH S W (List.replicate W.length true) = allH S W
  | [], S => rfl
  | a :: W, S => runH_all W (doH S a)
theorem runH_step : ∀ (i : Nat) (W : List Act3) (keep : List Bool) (S : List (List Int)) (a : Act3), W[i]? = some a → runH S (W.take (i + 1)) keep = if keep.getD i false = true then doH (runH S (W.take i) keep) a else runH S (W.take i) keep
  | 0, w :: W, [], S, a, h => by
    simp at h
    subst h
    simp [runH]
  | 0, w :: W, b :: k, S, a, h => by
    simp at h
    subst h
    cases b <;> simp [runH]
  | i + 1, w :: W, [], S, a, h => by simp [runH]
  | i + 1, w :: W, b :: k, S, a, h => by
    have := runH_step i W k (if b = true then doH S w else S) a (by simpa using h)
    simpa [runH] using this
  | i, [], k, S, a, h => by simp at h
theorem allH_snoc (S : List (List Int)) (W : List Act3) (a : Act3) : allH S (W ++ [a]) = doH (allH S W) a := by simp [allH]
theorem sizeH_snoc (n : Int) (W : List Act3) (a : Act3) : sizeH n (W ++ [a]) = if a.1 = 2 then a.2.1 else sizeH n W := by simp [sizeH]
theorem allH_step (S : List (List Int)) (W : List Act3) (i : Nat) (a : Act3) (h : W[i]? = some a) : allH S (W.take (i + 1)) = doH (allH S (W.take i)) a := by
  rw [List.take_add_one, h]
  exact allH_snoc _ _ _
theorem sizeH_step (n : Int) (W : List Act3) (i : Nat) (a : Act3) (h : W[i]? = some a) : sizeH n (W.take (i + 1)) = if a.1 = 2 then a.2.1 else sizeH n (W.take i) := by
  rw [List.take_add_one, h]
  exact sizeH_snoc _ _ _
theorem doH_len (S : List (List Int)) (a : Act3) (h : 0 ≤ a.2.1) : ((doH S a).length : Int) = if a.1 = 2 then a.2.1 else (S.length : Int) := by
  unfold doH
  split
  · simp
    omega
  · simp
/-- So long it is behind all acts. -/
theorem size_all (S : List (List Int)) : ∀ (W : List Act3) {cap : Int}, (∀ a ∈ W, mayP cap a) → sizeH (S.length : Int) W = ((allH S W).length : Int) := by
  intro W
  induction W generalizing S with
  | nil => intro cap _; rfl
  | cons a W ih =>
    intro cap h
    have ha : 0 ≤ a.2.1 := by have := h a (by simp); rcases this with q | q <;> omega
    have h1 := ih (doH S a) (cap := cap) (fun b hb => h b (by simp [hb]))
    rw [doH_len S a ha] at h1
    exact h1
theorem mayP_at {cap : Int} {a : Act3} (h : mayP cap a) : 0 ≤ a.2.1 ∧ a.2.1 ≤ cap := by rcases h with q | q <;> omega
theorem doH_64 {S : List (List Int)} {a : Act3} {cap : Int} (hS : ∀ s ∈ S, s.length = 64) (ha : mayP cap a) : ∀ s ∈ doH S a, s.length = 64 := by
  intro s hs
  unfold doH at hs
  split at hs
  · rcases List.mem_append.1 hs with h | h
    · exact hS s (List.mem_of_mem_take h)
    · rw [(List.mem_replicate.1 h).2]; rfl
  · rename_i hn
    rcases List.mem_or_eq_of_mem_set hs with h | h
    · exact hS s h
    · subst h; rcases ha with q | q <;> omega
theorem doH_cap {S : List (List Int)} {a : Act3} {cap : Int} (hS : (S.length : Int) ≤ cap) (ha : mayP cap a) : ((doH S a).length : Int) ≤ cap := by
  rw [doH_len S a (mayP_at ha).1]
  split
  · exact (mayP_at ha).2
  · exact hS
theorem runH_ok : ∀ (W : List Act3) (keep : List Bool) (S : List (List Int)) {cap : Int}, (S.length : Int) ≤ cap → (∀ s ∈ S, s.length = 64) → (∀ a ∈ W, mayP cap a) → ((runH S W keep).length : Int) ≤ cap ∧ ∀ s ∈ runH S W keep, s.length = 64
  | [], _, S, cap, h1, h2, _ => ⟨h1, h2⟩
  | a :: W, [], S, cap, h1, h2, _ => ⟨h1, h2⟩
  | a :: W, b :: k, S, cap, h1, h2, h3 => by
    have ha := h3 a (by simp)
    cases b
    · exact runH_ok W k S h1 h2 fun c hc => h3 c (by simp [hc])
    · exact runH_ok W k (doH S a) (doH_cap h1 ha) (doH_64 h2 ha) fun c hc => h3 c (by simp [hc])
theorem allH_ok {W : List Act3} {S : List (List Int)} {cap : Int} (h1 : (S.length : Int) ≤ cap) (h2 : ∀ s ∈ S, s.length = 64) (h3 : ∀ a ∈ W, mayP cap a) : ((allH S W).length : Int) ≤ cap ∧ ∀ s ∈ allH S W, s.length = 64 := by
  rw [← runH_all]
  exact runH_ok _ _ _ h1 h2 h3
theorem chkH_bad {S : List (List Int)} {W : List Act3} {cap : Int} (h : ¬ okH S W cap) : chkH S W cap = 9 := if_neg h
theorem chkH_ok {S : List (List Int)} {W : List Act3} {cap : Int} (h : okH S W cap) : chkH S W cap = 0 := if_pos h
/-- Behind a crash it may be. -/
theorem ok_run {S : List (List Int)} {W : List Act3} {cap : Int} (h : okH S W cap) (keep : List Bool) : okH (runH S W keep) [] cap := by
  obtain ⟨h1, h2, h3, h4, h5⟩ := h
  obtain ⟨g1, g2⟩ := runH_ok W keep S h2 h3 h5
  exact ⟨h1, g1, g2, by simp, by simp⟩
theorem ok_all {S : List (List Int)} {W : List Act3} {cap : Int} (h : okH S W cap) : okH (allH S W) [] cap := by
  rw [← runH_all]
  exact ok_run h _
theorem ok_snoc {S : List (List Int)} {W : List Act3} {cap : Int} (h : okH S W cap) {a : Act3} (ha : mayP cap a) (hl : W.length < 4096) : okH S (W ++ [a]) cap := by
  obtain ⟨h1, h2, h3, h4, h5⟩ := h
  refine ⟨h1, h2, h3, by simp; omega, fun b hb => ?_⟩
  rcases List.mem_append.1 hb with hb | hb
  · exact h5 b hb
  · simp at hb; subst hb; exact ha
end Go.Proofs.Ytijmldjghhndoaa.AE
