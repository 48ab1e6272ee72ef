/- Plain laws of layer 1: numbers and lists of numbers as octets, there and back. -/
import Derived.Test.YthkjahoebkicbaaPl
namespace Go.Proofs.Ythkjahoebkicbaa.Pl
open Go.RowKit Go.Proofs.YthkjahoebkicbaaW.PrintWords Go.Proofs.YthkjahoebkicbaaW.PrintMore
open Go.Proofs.Ythkjahoebkicbaa

theorem putS_ok {n size : Int} (h : (putS n size).2 = 0) : (1 ≤ size ∧ size ≤ 8) ∧ n < 256 ^ size.toNat ∧ (putS n size).1 = putI size.toNat n := by
  unfold putS at h ⊢
  by_cases h1 : size < 1 ∨ size > 8
  · rw [if_pos h1] at h; cases h
  rw [if_neg h1] at h ⊢
  by_cases h2 : 256 ^ size.toNat ≤ n
  · rw [if_pos h2] at h; cases h
  rw [if_neg h2]
  exact ⟨by omega, by omega, rfl⟩
theorem putS_bad {n size : Int} (h : (putS n size).2 ≠ 0) : (putS n size).1 = [] := by
  unfold putS at h ⊢
  by_cases h1 : size < 1 ∨ size > 8
  · rw [if_pos h1]
  rw [if_neg h1] at h ⊢
  by_cases h2 : 256 ^ size.toNat ≤ n
  · rw [if_pos h2]
  · rw [if_neg h2] at h; exact absurd rfl h
theorem putS_fits {n size : Int} (h1 : 1 ≤ size ∧ size ≤ 8) (h2 : n < 256 ^ size.toNat) : putS n size = (putI size.toNat n, 0) := by
  unfold putS
  rw [if_neg (by omega), if_neg (by omega)]
theorem BY_putS (n size : Int) : BY (putS n size).1 := by
  unfold putS
  split
  · exact BY_nil
  split
  · exact BY_nil
  · exact BY_put _ _
def flat : List Int → List Int → List Int
  | w :: ws, v :: vs => putI w.toNat v ++ flat ws vs
  | _, _ => []
def fits : List Int → List Int → Prop
  | w :: ws, v :: vs => (1 ≤ w ∧ w ≤ 8 ∧ 0 ≤ v ∧ v < 256 ^ w.toNat) ∧ fits ws vs
  | [], [] => True
  | _, _ => False
theorem packGo_ok (ws vs acc : List Int) (hl : ws.length = vs.length) (hv : ∀ v ∈ vs, 0 ≤ v) (h : (packGo ws vs acc).2 = 0) : fits ws vs ∧ packGo ws vs acc = (acc ++ flat ws vs, 0) := by
  induction ws generalizing vs acc with
  | nil =>
    cases vs with
    | nil => exact ⟨trivial, by simp [packGo, flat]⟩
    | cons _ _ => simp at hl
  | cons w ws ih =>
    cases vs with
    | nil => simp at hl
    | cons v vs =>
      simp only [packGo] at h ⊢
      by_cases hz : (putS v w).2 = 0
      · rw [if_pos hz] at h ⊢
        obtain ⟨h1, h2, h3⟩ := putS_ok hz
        obtain ⟨h4, h5⟩ := ih vs _ (by simpa using hl) (fun x hx => hv x (List.mem_cons_of_mem _ hx)) h
        exact ⟨⟨⟨h1.1, h1.2, hv v List.mem_cons_self, h2⟩, h4⟩, by rw [h5, h3, List.append_assoc]; rfl⟩
      · rw [if_neg hz] at h
        exact absurd h hz
theorem packGo_bad (ws vs acc : List Int) (h : (packGo ws vs acc).2 ≠ 0) : (packGo ws vs acc).1 = [] := by
  induction ws generalizing vs acc with
  | nil => cases vs <;> exact absurd rfl h
  | cons w ws ih =>
    cases vs with
    | nil => exact absurd rfl h
    | cons v vs =>
      simp only [packGo] at h ⊢
      by_cases hz : (putS v w).2 = 0
      · rw [if_pos hz] at h ⊢
        exact ih _ _ h
      · rw [if_neg hz]
theorem packGo_fits (ws vs acc : List Int) (h : fits ws vs) : packGo ws vs acc = (acc ++ flat ws vs, 0) := by
  induction ws generalizing vs acc with
  | nil =>
    cases vs with
    | nil => simp [packGo, flat]
    | cons _ _ => exact h.elim
  | cons w ws ih =>
    cases vs with
    | nil => exact h.elim
    | cons v vs =>
      obtain ⟨⟨h1, h2, h3, h4⟩, h5⟩ := h
      simp only [packGo, putS_fits ⟨h1, h2⟩ h4]
      rw [if_pos trivial, ih _ _ h5, List.append_assoc]
      rfl
theorem fits_len {ws vs : List Int} (h : fits ws vs) : ws.length = vs.length := by
  induction ws generalizing vs with
  | nil => cases vs with
    | nil => rfl
    | cons _ _ => exact h.elim
  | cons w ws ih => cases vs with
    | nil => exact h.elim
    | cons v vs => simp [ih h.2]
theorem fits_okW {ws vs : List Int} (h : fits ws vs) : okW ws = true := by
  induction ws generalizing vs with
  | nil => rfl
  | cons w ws ih => cases vs with
    | nil => exact h.elim
    | cons v vs =>
      obtain ⟨⟨h1, h2, _, _⟩, h5⟩ := h
      have := ih h5
      simp only [okW, List.all_cons, decide_eq_true (⟨h1, h2⟩ : 1 ≤ w ∧ w ≤ 8), Bool.true_and] at this ⊢
      exact this
theorem flat_len {ws vs : List Int} (h : fits ws vs) : (flat ws vs).length = sumN ws := by
  induction ws generalizing vs with
  | nil => cases vs <;> rfl
  | cons w ws ih => cases vs with
    | nil => exact h.elim
    | cons v vs =>
      have e : sumN (w :: ws) = w.toNat + sumN ws := by simp [sumN]
      simp only [flat, List.length_append, putI_length, ih h.2, e]
theorem BY_flat (ws vs : List Int) : BY (flat ws vs) := by
  induction ws generalizing vs with
  | nil => cases vs <;> exact BY_nil
  | cons w ws ih => cases vs with
    | nil => exact BY_nil
    | cons v vs => exact BY_append (BY_put _ _) (ih vs)
theorem unpack_flat {ws vs : List Int} (h : fits ws vs) : unpackGo ws (flat ws vs) = vs := by
  induction ws generalizing vs with
  | nil => cases vs with
    | nil => rfl
    | cons _ _ => exact h.elim
  | cons w ws ih => cases vs with
    | nil => exact h.elim
    | cons v vs =>
      obtain ⟨⟨h1, h2, h3, h4⟩, h5⟩ := h
      simp only [unpackGo, flat]
      rw [List.take_append_of_le_length (by rw [putI_length]; omega), List.drop_append_of_le_length (by rw [putI_length]; omega)]
      rw [List.take_of_length_le (by rw [putI_length]; omega), List.drop_eq_nil_of_le (by rw [putI_length]; omega), leI_put _ _ h3 h4, List.nil_append, ih h5]
theorem pack_unpack (ws b : List Int) (hok : okW ws = true) (hb : BY b) (hl : b.length = sumN ws) : fits ws (unpackGo ws b) ∧ flat ws (unpackGo ws b) = b := by
  induction ws generalizing b with
  | nil =>
    have : b = [] := List.eq_nil_of_length_eq_zero (by simpa [sumN] using hl)
    subst this
    exact ⟨trivial, rfl⟩
  | cons w ws ih =>
    have h0 : (1 ≤ w ∧ w ≤ 8) ∧ okW ws = true := by simpa [okW] using hok
    have e : sumN (w :: ws) = w.toNat + sumN ws := by simp [sumN]
    rw [e] at hl
    obtain ⟨h1, h2⟩ := ih (b.drop w.toNat) h0.2 (BY_drop hb _) (by rw [List.length_drop]; omega)
    have hlt : (b.take w.toNat).length = w.toNat := by rw [List.length_take]; omega
    have h3 := leI_lt (b.take w.toNat)
    rw [hlt] at h3
    refine ⟨⟨⟨h0.1.1, h0.1.2, leI_nonneg _, h3⟩, h1⟩, ?_⟩
    simp only [unpackGo, flat]
    rw [h2]
    have := put_leI (BY_take hb w.toNat)
    rw [hlt] at this
    rw [this, List.take_append_drop]
theorem packS_ok {ws vs : List Int} (hv : ∀ v ∈ vs, 0 ≤ v) (h : (packS ws vs).2 = 0) : ws.length ≤ 64 ∧ fits ws vs ∧ (packS ws vs).1 = flat ws vs := by
  unfold packS at h ⊢
  by_cases h1 : ws.length ≠ vs.length ∨ ws.length > 64
  · rw [if_pos h1] at h; cases h
  rw [if_neg h1] at h ⊢
  have h2 : ws.length = vs.length := by omega
  obtain ⟨h3, h4⟩ := packGo_ok ws vs [] h2 hv h
  exact ⟨by omega, h3, by rw [h4]; rfl⟩
theorem packS_fits {ws vs : List Int} (h64 : ws.length ≤ 64) (h : fits ws vs) : packS ws vs = (flat ws vs, 0) := by
  unfold packS
  rw [if_neg (by have := fits_len h; omega), packGo_fits _ _ _ h]
  rfl
theorem packS_bad {ws vs : List Int} (h : (packS ws vs).2 ≠ 0) : (packS ws vs).1 = [] := by
  unfold packS at h ⊢
  by_cases h1 : ws.length ≠ vs.length ∨ ws.length > 64
  · rw [if_pos h1]
  rw [if_neg h1] at h ⊢
  exact packGo_bad _ _ _ h
theorem unpackS_ok {ws b : List Int} (h : (unpackS ws b).2 = 0) : ws.length ≤ 64 ∧ okW ws = true ∧ b.length = sumN ws ∧ (unpackS ws b).1 = unpackGo ws b := by
  unfold unpackS at h ⊢
  by_cases h1 : ws.length > 64
  · rw [if_pos h1] at h; cases h
  rw [if_neg h1] at h ⊢
  cases hok : okW ws with
  | false => rw [if_pos hok] at h; cases h
  | true =>
    rw [hok] at h
    simp only [Bool.true_eq_false, if_false] at h ⊢
    rw [(sum_ok hok).1] at h ⊢
    by_cases h3 : (b.length : Int) < (sumN ws : Int)
    · rw [if_pos h3] at h; cases h
    rw [if_neg h3] at h ⊢
    by_cases h4 : (b.length : Int) > (sumN ws : Int)
    · rw [if_pos h4] at h; cases h
    rw [if_neg h4]
    exact ⟨by omega, trivial, by omega, rfl⟩
theorem unpackS_bad {ws b : List Int} (h : (unpackS ws b).2 ≠ 0) : (unpackS ws b).1 = [] := by
  unfold unpackS at h ⊢
  by_cases h1 : ws.length > 64
  · rw [if_pos h1]
  rw [if_neg h1] at h ⊢
  by_cases h2 : okW ws = false
  · rw [if_pos h2]
  rw [if_neg h2] at h ⊢
  by_cases h3 : (b.length : Int) < sumI ws
  · rw [if_pos h3]
  rw [if_neg h3] at h ⊢
  by_cases h4 : (b.length : Int) > sumI ws
  · rw [if_pos h4]
  rw [if_neg h4] at h
  exact absurd rfl h
theorem unpackS_val {ws b : List Int} (h64 : ws.length ≤ 64) (hok : okW ws = true) : unpackS ws b = if b.length < sumN ws then ([], 8) else if b.length > sumN ws then ([], 23) else (unpackGo ws b, 0) := by
  unfold unpackS
  rw [if_neg (by omega), if_neg (by simp [hok]), (sum_ok hok).1]
  have a1 : ((b.length : Int) < (sumN ws : Int)) = (b.length < sumN ws) := by simp
  have a2 : ((b.length : Int) > (sumN ws : Int)) = (b.length > sumN ws) := by simp
  simp only [a1, a2]
theorem BY_of_wf {l : List Int} (h : ∀ x ∈ l, (Lit.int .u8 x).wf = true) : BY l := fun x hx => wf_u8 (h x hx)
theorem U64_of_wf {l : List Int} (h : ∀ x ∈ l, (Lit.int .u64 x).wf = true) : ∀ v ∈ l, 0 ≤ v ∧ v < 18446744073709551616 := fun x hx => wf_u64 (h x hx)
theorem BY_textS (s : ByteArray) : BY (textS s).1 := by
  unfold textS
  split
  · exact BY_nil
  · exact BY_cons (by omega) (BY_bytesOf _)
theorem textS_read (s : ByteArray) (head : List Int) (h : s.size ≤ 255) : readS (head ++ (textS s).1) (head.length : Int) = (s, (head.length : Int) + 1 + (s.size : Int), 0) := by
  unfold textS readS
  rw [if_neg (show ¬ s.size > 255 by omega)]
  have e1 : rd (head ++ ((s.size : Int) :: bytesOf s)) (head.length : Int) = (s.size : Int) := by
    rw [rd_nat, List.getD_eq_getElem?_getD, List.getElem?_append_right (Nat.le_refl _)]
    simp
  have e2 : ((head.length : Int) + 1).toNat = head.length + 1 := by omega
  have e3 : (head ++ ((s.size : Int) :: bytesOf s)).drop (head.length + 1) = bytesOf s := by
    rw [List.drop_append, List.drop_eq_nil_of_le (by omega)]
    simp
  simp only
  rw [e1, e2, e3, if_neg (by omega), if_neg (by simp; omega), if_neg (by simp [bytesOf_length]; omega), Int.toNat_natCast, List.take_of_length_le (by rw [bytesOf_length]; omega), strOf_bytesOf]
theorem textS_cut (s : ByteArray) (m : Nat) (h : s.size ≤ 255) (hm : m < 1 + s.size) : readS ((textS s).1.take m) 0 = (⟨#[]⟩, 0, 8) := by
  have hl : ((textS s).1.take m).length = m := by
    unfold textS
    rw [if_neg (show ¬ s.size > 255 by omega), List.length_take]
    simp [bytesOf_length]
    omega
  unfold readS
  rw [hl, if_neg (by omega)]
  by_cases h0 : m = 0
  · rw [if_pos (by omega)]
  · obtain ⟨j, rfl⟩ : ∃ j, m = j + 1 := ⟨m - 1, by omega⟩
    have e : rd ((textS s).1.take (j + 1)) 0 = (s.size : Int) := by
      unfold textS
      rw [if_neg (show ¬ s.size > 255 by omega)]
      simp [rd]
    rw [e, if_neg (by omega), if_pos (by omega)]
theorem mod_range (at_ : Int) (n : Nat) (hn : 0 < n) (h : (n : Int) < 4611686018427387904) : 0 ≤ Int.tmod (wrap64 (Int.tmod at_ n + n)) n ∧ Int.tmod (wrap64 (Int.tmod at_ n + n)) n < n := by
  have h1 := Int.tmod_lt_of_pos at_ (show (0 : Int) < (n : Int) by omega)
  have h2 : -(n : Int) < Int.tmod at_ n := by
    have := Int.tmod_lt_of_pos (-at_) (show (0 : Int) < (n : Int) by omega)
    rw [Int.neg_tmod] at this
    omega
  rw [w64 (by omega) (by omega)]
  have h3 : 0 ≤ Int.tmod at_ n + n := by omega
  rw [Int.tmod_eq_emod_of_nonneg h3]
  exact ⟨Int.emod_nonneg _ (by omega), Int.emod_lt_of_pos _ (by omega)⟩
end Go.Proofs.Ythkjahoebkicbaa.Pl
