/- Layer 7, plain: the node that octets tell; a node comes back from its page. -/
import Derived.Test.YtcnofpoffdjbpaaN5
namespace Go.Proofs.Ytcnofpoffdjbpaa.AE
open Go Go.RowKit Go.Proofs Go.Proofs.Ytcnofpoffdjbpaa
set_option linter.unusedVariables false
set_option linter.unusedSimpArgs false
def gx (x : List Int) (a n : Nat) : Int := Pl.leI ((x.drop a).take n)
theorem getS_gx {x : List Int} {a n : Nat} (h1 : 1 ≤ n ∧ n ≤ 8) (h2 : a + n ≤ x.length) : Pl.getS x (a : Int) (n : Int) = (gx x a n, 0) := by
  unfold Pl.getS gx
  rw [if_neg (by omega), if_neg (by omega), if_neg (by omega)]
  simp
def tM (x : List Int) : Nat := min (x.getD 1 0).toNat 3
def tK1 (x : List Int) (i : Nat) : List (Int × Int) := (List.range (tM x)).map fun j => (if j < i then gx x (4 + 8 * j) 8 else 0, 0)
def tK2 (x : List Int) (i : Nat) : List (Int × Int) := (List.range (tM x)).map fun j => (gx x (4 + 8 * j) 8, if j < i then gx x (4 + 8 * tM x + 8 * j) 8 else 0)
def tKd (x : List Int) (i : Nat) : List Int := (List.range i).map fun j => gx x (4 + 8 * tM x + 4 * j) 4
def toldN (x : List Int) : List (Int × Int) × List Int := if x.getD 0 0 = 1 then (tK2 x (tM x), []) else (tK2 x 0, tKd x (tM x + 1))
theorem gx_range (x : List Int) (a n : Nat) (h : n ≤ 8) : 0 ≤ gx x a n ∧ gx x a n < 18446744073709551616 := by
  unfold gx Pl.leI
  have h1 := Fs.le_lt (Pl.toB ((x.drop a).take n))
  rw [Pl.toB_length, List.length_take] at h1
  have h2 : 256 ^ (min n (x.drop a).length) ≤ 256 ^ 8 := Nat.pow_le_pow_right (by decide) (by omega)
  have h3 : (256 : Nat) ^ 8 = 18446744073709551616 := by decide
  omega
theorem gx_range4 (x : List Int) (a : Nat) : 0 ≤ gx x a 4 ∧ gx x a 4 < 4294967296 := by
  unfold gx Pl.leI
  have h1 := Fs.le_lt (Pl.toB ((x.drop a).take 4))
  rw [Pl.toB_length, List.length_take] at h1
  have h2 : 256 ^ (min 4 (x.drop a).length) ≤ 256 ^ 4 := Nat.pow_le_pow_right (by decide) (by omega)
  have h3 : (256 : Nat) ^ 4 = 4294967296 := by decide
  omega
theorem tK1_len (x : List Int) (i : Nat) : (tK1 x i).length = tM x := by simp [tK1]
theorem tK2_len (x : List Int) (i : Nat) : (tK2 x i).length = tM x := by simp [tK2]
theorem tKd_len (x : List Int) (i : Nat) : (tKd x i).length = i := by simp [tKd]
theorem tK1_0 (x : List Int) : itemB (tK1 x 0) = List.replicate (tM x) [.int .u64 0, .int .u64 0] := by
  apply List.ext_getElem?
  intro i
  by_cases h : i < tM x
  · simp [itemB, tK1, h, List.getElem?_range, List.getElem?_replicate]
  · simp [itemB, tK1, h, List.getElem?_range, List.getElem?_replicate]
theorem tK1_get (x : List Int) (i : Nat) (h : i < tM x) : (itemB (tK1 x i))[i]? = some [.int .u64 0, .int .u64 0] := by
  simp [itemB, tK1, h, List.getElem?_range]
theorem tK1_set (x : List Int) (i : Nat) (h : i < tM x) : (itemB (tK1 x i)).set i [.int .u64 (gx x (4 + 8 * i) 8), .int .u64 0] = itemB (tK1 x (i + 1)) := by
  apply List.ext_getElem?
  intro j
  rw [List.getElem?_set]
  by_cases e : i = j
  · subst e
    simp [itemB, tK1, h, List.getElem?_range]
  · rw [if_neg e]
    by_cases hj : j < tM x
    · simp [itemB, tK1, hj, List.getElem?_range, show (j < i + 1) = (j < i) from by rw [eq_iff_iff]; omega]
    · simp [itemB, tK1, hj, List.getElem?_range]
theorem tK2_get (x : List Int) (i : Nat) (h : i < tM x) : (itemB (tK2 x i))[i]? = some [.int .u64 (gx x (4 + 8 * i) 8), .int .u64 0] := by
  simp [itemB, tK2, h, List.getElem?_range]
theorem tK2_set (x : List Int) (i : Nat) (h : i < tM x) : (itemB (tK2 x i)).set i [.int .u64 (gx x (4 + 8 * i) 8), .int .u64 (gx x (4 + 8 * tM x + 8 * i) 8)] = itemB (tK2 x (i + 1)) := by
  apply List.ext_getElem?
  intro j
  rw [List.getElem?_set]
  by_cases e : i = j
  · subst e
    simp [itemB, tK2, h, List.getElem?_range]
  · rw [if_neg e]
    by_cases hj : j < tM x
    · simp [itemB, tK2, hj, List.getElem?_range, show (j < i + 1) = (j < i) from by rw [eq_iff_iff]; omega]
    · simp [itemB, tK2, hj, List.getElem?_range]
theorem tK1_all (x : List Int) : tK1 x (tM x) = tK2 x 0 := by
  simp only [tK1, tK2]
  refine List.map_congr_left fun j hj => ?_
  have := List.mem_range.1 hj
  simp [this]
theorem tKd_step (x : List Int) (i : Nat) : tKd x (i + 1) = tKd x i ++ [gx x (4 + 8 * tM x + 4 * i) 4] := by simp [tKd, List.range_succ]
theorem flat_gx : ∀ (ws vs : List Int) (pre post : List Int) (i : Nat) (w v : Int), Pl.fits ws vs → ws[i]? = some w → vs[i]? = some v → gx (pre ++ Pl.flat ws vs ++ post) (pre.length + Pl.sumN (ws.take i)) w.toNat = v
  | [], vs, pre, post, i, w, v, h, h1, h2 => by simp at h1
  | a :: ws, [], pre, post, i, w, v, h, h1, h2 => by simp at h2
  | a :: ws, b :: vs, pre, post, 0, w, v, h, h1, h2 => by
    simp at h1 h2
    subst h1 h2
    obtain ⟨g1, g2, g3, g4⟩ := h.1
    have e : pre ++ Pl.flat (a :: ws) (b :: vs) ++ post = pre ++ (Pl.putI a.toNat b ++ (Pl.flat ws vs ++ post)) := by simp [Pl.flat]
    unfold gx
    rw [e, List.take_zero, show Pl.sumN [] = 0 from rfl, Nat.add_zero, List.drop_left, List.take_left' (Pl.putI_length _ _), Pl.leI_put _ _ g3 g4]
  | a :: ws, b :: vs, pre, post, i + 1, w, v, h, h1, h2 => by
    have e : pre ++ Pl.flat (a :: ws) (b :: vs) ++ post = (pre ++ Pl.putI a.toNat b) ++ Pl.flat ws vs ++ post := by simp [Pl.flat]
    have := flat_gx ws vs (pre ++ Pl.putI a.toNat b) post i w v h.2 (by simpa using h1) (by simpa using h2)
    rw [e]
    rw [List.length_append, Pl.putI_length] at this
    rw [List.take_succ_cons, show Pl.sumN (a :: ws.take i) = a.toNat + Pl.sumN (ws.take i) from rfl, ← Nat.add_assoc]
    exact this
theorem enc_gx {l : List (Int × Int)} {kids : List Int} (hok : okN l kids) (hit : OkIt l) (i : Nat) (w v : Int) (h1 : (widL (tallB kids) l.length)[i]? = some w) (h2 : (valL l kids)[i]? = some v) :
    gx (padL (encF l kids)) (Pl.sumN ((widL (tallB kids) l.length).take i)) w.toNat = v := by
  have := flat_gx _ _ [] (List.replicate (60 - (encF l kids).length) 0) i w v (val_fits hok hit) h1 h2
  rw [List.nil_append, List.length_nil, Nat.zero_add] at this
  exact this
theorem sum_key : ∀ t : Bool, ∀ n < 4, ∀ j < n, (widL t n)[3 + j]? = some 8 ∧ Pl.sumN ((widL t n).take (3 + j)) = 4 + 8 * j := by decide
theorem sum_val : ∀ n < 4, ∀ j < n, (widL false n)[3 + n + j]? = some 8 ∧ Pl.sumN ((widL false n).take (3 + n + j)) = 4 + 8 * n + 8 * j := by decide
theorem sum_kid : ∀ n < 4, ∀ j < n + 1, (widL true n)[3 + n + j]? = some 4 ∧ Pl.sumN ((widL true n).take (3 + n + j)) = 4 + 8 * n + 4 * j := by decide
theorem told_enc {l : List (Int × Int)} {kids : List Int} (hok : okN l kids) (hit : OkIt l) : toldN (padL (encF l kids)) = (l, kids) ∧ ((padL (encF l kids)).getD 0 0 = 1 ∨ (padL (encF l kids)).getD 0 0 = 2) := by
  obtain ⟨t, ht⟩ := enc_head (l := l) (kids := kids) hok.1.2
  have hn := hok.1
  have hp0 : (padL (encF l kids)).getD 0 0 = kindI kids := by unfold padL; rw [ht]; rfl
  have hp1 : (padL (encF l kids)).getD 1 0 = (l.length : Int) := by unfold padL; rw [ht]; rfl
  have hM : tM (padL (encF l kids)) = l.length := by unfold tM; rw [hp1]; omega
  have key : ∀ j x, l[j]? = some x → gx (padL (encF l kids)) (4 + 8 * j) 8 = x.1 := fun j x hx => by
    have hj := (List.getElem?_eq_some_iff.1 hx).1
    obtain ⟨s1, s2⟩ := sum_key (tallB kids) l.length (by omega) j hj
    have := enc_gx hok hit (3 + j) 8 x.1 s1 (by
      have e : valL l kids = [kindI kids, (l.length : Int), 0] ++ (l.map (·.1) ++ (kids ++ (l.take (if 0 < kids.length then 0 else l.length)).map (·.2))) := by simp [valL, pre3, pre2, pre1]
      rw [e, List.getElem?_append_right (by simp), List.getElem?_append_left (by simp; omega)]
      simp [hx])
    rw [s2] at this
    exact this
  by_cases hk : 0 < kids.length
  · have hkl := hok.2.1 hk
    have hkind : kindI kids = 2 := if_pos hk
    have htall : tallB kids = true := decide_eq_true hk
    refine ⟨?_, .inr (hp0.trans hkind)⟩
    have e0 : toldN (padL (encF l kids)) = (tK2 (padL (encF l kids)) 0, tKd (padL (encF l kids)) (tM (padL (encF l kids)) + 1)) := if_neg (by rw [hp0, hkind]; decide)
    rw [e0]
    have hv0 : ∀ x ∈ l, x.2 = 0 := fun x hx => by
      obtain ⟨i, hi⟩ := List.mem_iff_getElem?.1 hx
      have h3 := (hok.2.2.1 i (List.getElem?_eq_some_iff.1 hi).1).2 hk
      rw [List.getD_eq_getElem?_getD, hi] at h3
      have h4 := (hit x hx).2.1
      have h5 : x.2 ≤ 0 := h3
      omega
    refine Prod.ext ?_ ?_
    · apply List.ext_getElem?
      intro j
      by_cases hj : j < l.length
      · obtain ⟨x, hx⟩ : ∃ x, l[j]? = some x := ⟨_, List.getElem?_eq_getElem hj⟩
        have := key j x hx
        have h2 := hv0 x (List.mem_of_getElem? hx)
        simp only [tK2, hM]
        rw [hx]
        simp [List.getElem?_range, hj, this, ← h2]
      · simp only [tK2, hM]
        rw [List.getElem?_eq_none (by simp; omega), List.getElem?_eq_none (by omega)]
    · apply List.ext_getElem?
      intro j
      simp only [tKd, hM]
      by_cases hj : j < kids.length
      · obtain ⟨x, hx⟩ : ∃ x, kids[j]? = some x := ⟨_, List.getElem?_eq_getElem hj⟩
        obtain ⟨s1, s2⟩ := sum_kid l.length (by omega) j (by omega)
        have := enc_gx hok hit (3 + l.length + j) 4 x (by rw [htall]; exact s1) (by
          have e : valL l kids = ([kindI kids, (l.length : Int), 0] ++ l.map (·.1)) ++ (kids ++ (l.take (if 0 < kids.length then 0 else l.length)).map (·.2)) := by simp [valL, pre3, pre2, pre1]
          have el : ([kindI kids, (l.length : Int), 0] ++ l.map (·.1)).length = 3 + l.length := by simp; omega
          rw [e, List.getElem?_append_right (by rw [el]; omega), el, List.getElem?_append_left (by omega), show 3 + l.length + j - (3 + l.length) = j by omega]
          exact hx)
        rw [htall, s2] at this
        rw [hx]
        have hj2 : j < l.length + 1 := by omega
        simp only [List.getElem?_map, List.getElem?_range hj2, Option.map_some]
        exact congrArg some this
      · rw [List.getElem?_eq_none (by simp; omega), List.getElem?_eq_none (by omega)]
  · have hk0 : kids = [] := List.eq_nil_of_length_eq_zero (by omega)
    subst hk0
    have hkind : kindI [] = 1 := rfl
    have htall : tallB [] = false := rfl
    refine ⟨?_, .inl (hp0.trans hkind)⟩
    have e0 : toldN (padL (encF l [])) = (tK2 (padL (encF l [])) (tM (padL (encF l []))), []) := if_pos (by rw [hp0, hkind])
    rw [e0]
    refine Prod.ext ?_ rfl
    apply List.ext_getElem?
    intro j
    by_cases hj : j < l.length
    · obtain ⟨x, hx⟩ : ∃ x, l[j]? = some x := ⟨_, List.getElem?_eq_getElem hj⟩
      have h1 := key j x hx
      obtain ⟨s1, s2⟩ := sum_val l.length (by omega) j hj
      have h2 := enc_gx hok hit (3 + l.length + j) 8 x.2 (by rw [htall]; exact s1) (by
        have e : valL l [] = ([kindI [], (l.length : Int), 0] ++ l.map (·.1)) ++ (l.map (·.2)) := by simp [valL, pre3, pre2, pre1]
        have el : ([kindI [], (l.length : Int), 0] ++ l.map (·.1)).length = 3 + l.length := by simp; omega
        rw [e, List.getElem?_append_right (by rw [el]; omega), el, show 3 + l.length + j - (3 + l.length) = j by omega, List.getElem?_map, hx]
        rfl)
      rw [htall, s2] at h2
      have h2' : gx (padL (encF l [])) (4 + 8 * l.length + 8 * j) 8 = x.2 := h2
      simp only [tK2, hM]
      rw [hx]
      simp [List.getElem?_range, hj, h1, h2']
    · simp only [tK2, hM]
      rw [List.getElem?_eq_none (by simp; omega), List.getElem?_eq_none (by omega)]
/-- What a page tells. -/
def decS (b : List Int) : (List (Int × Int) × List Int) × Int :=
  if b.length ≠ 64 then (([], []), 8) else if (Pl.openS b).2 ≠ 0 then (([], []), 21) else
  if (Pl.openS b).1.getD 0 0 ≠ 1 ∧ (Pl.openS b).1.getD 0 0 ≠ 2 then (([], []), 22) else
  if okN (toldN (Pl.openS b).1).1 (toldN (Pl.openS b).1).2 ∧ encS (toldN (Pl.openS b).1).1 (toldN (Pl.openS b).1).2 = b then (toldN (Pl.openS b).1, 0) else (([], []), 21)
theorem dec_enc {l : List (Int × Int)} {kids : List Int} (hok : okN l kids) (hit : OkIt l) : decS (encS l kids) = ((l, kids), 0) := by
  have ho : Pl.openS (encS l kids) = (padL (encF l kids), 0) := Pl.open_seal
  obtain ⟨h1, h2⟩ := told_enc hok hit
  have hF := encF_len hok hit
  have hl : (encS l kids).length = 64 := by unfold encS; rw [Pl.seal_len, padL_len hF]
  unfold decS
  rw [if_neg (by omega), ho]
  simp only
  rw [if_neg (by decide), if_neg (by rcases h2 with h2 | h2 <;> rw [h2] <;> decide), h1, if_pos ⟨hok, rfl⟩]
theorem dec_ok {b : List Int} {m : List (Int × Int) × List Int} (h : (decS b).2 = 0) (hm : (decS b).1 = m) : okN m.1 m.2 ∧ encS m.1 m.2 = b := by
  subst hm
  unfold decS at h ⊢
  split at h; · cases h
  rename_i g1
  split at h; · cases h
  rename_i g2
  split at h; · cases h
  rename_i g3
  split at h
  · rename_i g4
    rw [if_neg g1, if_neg g2, if_neg g3, if_pos g4]
    exact g4
  · cases h
theorem dec_bad {b : List Int} (h : (decS b).2 ≠ 0) : (decS b).1 = ([], []) := by
  unfold decS at h ⊢
  split; · rfl
  split; · rfl
  split; · rfl
  split
  · rename_i g1 g2 g3 g4
    rw [if_neg g1, if_neg g2, if_neg g3, if_pos g4] at h
    exact absurd rfl h
  · rfl
end Go.Proofs.Ytcnofpoffdjbpaa.AE
