/- Rows put together: slices.Grow, slices.Concat, slices.Clone. -/
import Derived.Test.YteklnhogokjkkaaC2
namespace Go.Proofs.Yteklnhogokjkkaa.AE
open Go Go.RowKit Go.Proofs Go.Proofs.Yteklnhogokjkkaa
set_option linter.unusedVariables false
set_option linter.unusedSimpArgs false
set_option maxRecDepth 100000
set_option maxHeartbeats 4000000
/-- Rows of numbers as a row's elements. -/
def rowsB (k : IntKind) (rows : List (List Int)) : List (List AV) := rows.map fun r => [.sl (numB k r)]
theorem Grow_bytes (n : Nat) (hn : n ≤ 100000000000) : aOwn Try.prog 50 [.zs, .int .i64 (n : Int)] 1 [] := by
  refine aOwn_body Try.func50 rfl rfl (by simp [Try.ntmps50]) fun hreal h nx hfresh => ?_
  rw [Try.ntmps50]
  have hd : decide ((n : Int) < 0) = false := decide_eq_false (by omega)
  have hw0 : IntKind.i64.wrap (0 - 0) = 0 := by rw [wrapI] <;> omega
  have hw1 : IntKind.i64.wrap ((n : Int) - 0) = n := by rw [wrapI] <;> omega
  by_cases h0 : 0 < n
  · have hd2 : decide (0 < (n : Int)) = true := decide_eq_true (by omega)
    have FX := Fx.mk (And.intro @hd <| And.intro @hw0 <| And.intro @hw1 <| @hd2)
    repeat (first | refine v_ ?_ | refine u_ ?_ | refine nl_ ?_ | (refine nz_ ?_; first | (show aWp _ _ _ _ _) | skip) | refine sq_ ?_ | refine rg_ ?_ | refine k_ ?_ | refine ct_ ?_ | refine cf_ ?_ | refine bk_ ?_ | refine sc_ ?_ | (refine sk_ ?_; first | (show aWp _ _ _ _ _) | skip) | (refine ex_ ?_; first | (show aWp _ _ _ _ _) | skip) | refine rt_ ?_)
    refine W_endOwn (by omega) (by have FX := Fx0; exact ha_) (by rw [Try.results50]) (by (have FX := Fx0; exact cr_)) (.inl ⟨nx, numB .u8 (List.replicate n 0), by (have FX := Fx0; exact cl_), by omega, by simp only; omega, by (have FX := Fx.mk (((fun α : Type => @List.nil_append α))); exact cl_)⟩)
  · obtain rfl : n = 0 := by omega
    have hd2 : decide (0 < ((0 : Nat) : Int)) = false := by decide
    have FX := Fx.mk (And.intro @hd <| And.intro @hw0 <| And.intro @hw1 <| @hd2)
    repeat (first | refine v_ ?_ | refine u_ ?_ | refine nl_ ?_ | (refine nz_ ?_; first | (show aWp _ _ _ _ _) | skip) | refine sq_ ?_ | refine rg_ ?_ | refine k_ ?_ | refine ct_ ?_ | refine cf_ ?_ | refine bk_ ?_ | refine sc_ ?_ | (refine sk_ ?_; first | (show aWp _ _ _ _ _) | skip) | (refine ex_ ?_; first | (show aWp _ _ _ _ _) | skip) | refine rt_ ?_)
    refine W_endOwn (by omega) (by have FX := Fx0; exact ha_) (by rw [Try.results50]) (by (have FX := Fx0; exact cr_)) (.inr ⟨rfl, rfl⟩)
theorem Concat_bytes (rows : List (List Int)) (hb : rows.flatten.length ≤ 100000000) : aOwn Try.prog 41 [.sl (rowsB .u8 rows)] 1 (numB .u8 rows.flatten) := by
  refine aOwn_body Try.func41 rfl rfl (by simp [Try.ntmps41]) fun hreal h nx hfresh => ?_
  rw [Try.ntmps41]
  have hrl : (rowsB .u8 rows).length = rows.length := by simp [rowsB]
  have hlb : rows.length < 4611686018427387904 := by
    have := (hreal (.sl (rowsB .u8 rows)) (by simp)).sl.1
    rw [hrl] at this
    exact this
  have hget : ∀ (i : Nat) r, rows[i]? = some r → (rowsB .u8 rows)[i]? = some [.sl (numB .u8 r)] := fun i r hr => by simp [rowsB, hr]
  have hfl : ∀ i, ((rows.take i).flatten).length ≤ 100000000 := fun i => by
    have h1 : rows.flatten = (rows.take i).flatten ++ (rows.drop i).flatten := by rw [← List.flatten_append, List.take_append_drop]
    have h2 := congrArg List.length h1
    rw [List.length_append] at h2
    omega
  have FX := Fx.mk (@hrl)
  repeat (first | refine v_ ?_ | refine u_ ?_ | refine nl_ ?_ | (refine nz_ ?_; first | (show aWp _ _ _ _ _) | skip) | refine sq_ ?_ | refine rg_ ?_ | refine k_ ?_ | refine ct_ ?_ | refine cf_ ?_ | refine bk_ ?_ | refine sc_ ?_ | (refine sk_ ?_; first | (show aWp _ _ _ _ _) | skip) | (refine ex_ ?_; first | (show aWp _ _ _ _ _) | skip) | refine rt_ ?_)
  refine W_loopK [0, 2, 9, 10] nx (fun r tm h q => ∃ i : Nat, i ≤ rows.length ∧ r = rows.length - i ∧ tm 11 = .int .i64 i ∧ tm 3 = .int .i64 ((rows.take i).flatten.length : Nat)) rows.length (by omega) ⟨0, by omega, rfl, rfl, rfl⟩ ?_
  rintro r tm' h' k' ⟨i, hi, rfl, h11, h3⟩ hag hh hk'
  by_cases hlt : i < rows.length
  · have hd : decide ((i : Int) < (rows.length : Int)) = true := decide_eq_true (by omega)
    have hw : IntKind.i64.wrap (i + 1) = ((i + 1 : Nat) : Int) := by rw [wrapI] <;> omega
    obtain ⟨x, hx⟩ : ∃ x, rows[i]? = some x := ⟨rows[i], List.getElem?_eq_getElem hlt⟩
    have hx2 := hget i x hx
    have hti : (rows.take (i + 1)).flatten.length = (rows.take i).flatten.length + x.length := by rw [List.take_add_one, hx, List.flatten_append]; simp
    have hf := hfl (i + 1)
    have hw2 : IntKind.i64.wrap (((rows.take i).flatten.length : Int) + (x.length : Int)) = ((rows.take (i + 1)).flatten.length : Int) := by rw [wrapI] <;> omega
    have hd2 : decide (((rows.take (i + 1)).flatten.length : Int) < 0) = false := decide_eq_false (by omega)
    have FX := Fx.mk (And.intro @hag <| And.intro @h11 <| And.intro @h3 <| And.intro @hh <| And.intro @hd <| And.intro @hw <| And.intro @hx2 <| And.intro @hw2 <| @hd2)
    repeat (first | refine v_ ?_ | refine u_ ?_ | refine nl_ ?_ | (refine nz_ ?_; first | (show aWp _ _ _ _ _) | skip) | refine sq_ ?_ | refine rg_ ?_ | refine k_ ?_ | refine ct_ ?_ | refine cf_ ?_ | refine bk_ ?_ | refine sc_ ?_ | (refine sk_ ?_; first | (show aWp _ _ _ _ _) | skip) | (refine ex_ ?_; first | (show aWp _ _ _ _ _) | skip) | refine rt_ ?_)
    refine ⟨rows.length - (i + 1), by omega, ⟨i + 1, by omega, rfl, ?_, ?_⟩, ?_, ?_, by simp only; omega, rfl⟩
    · (have FX := Fx0; exact cl_)
    · (have FX := Fx0; exact cl_)
    · repeat (refine KAgree.upd rfl ?_)
      first | exact KAgree.refl _ _ | exact hag
    · exact (by have FX := Fx.mk (@hh); exact ha_)
  · obtain rfl : i = rows.length := by omega
    have hd : decide ((rows.length : Int) < (rows.length : Int)) = false := by simp
    rw [List.take_length] at h3
    have FX := Fx.mk (And.intro @hag <| And.intro @h11 <| And.intro @h3 <| And.intro @hh <| And.intro @hd <| @hrl)
    repeat (first | refine v_ ?_ | refine u_ ?_ | refine oa_ (Grow_bytes rows.flatten.length (by omega)) fun mf kf hmf hkf => ?_ | refine nl_ ?_ | (refine nz_ ?_; first | (show aWp _ _ _ _ _) | skip) | refine sq_ ?_ | refine rg_ ?_ | refine k_ ?_ | refine ct_ ?_ | refine cf_ ?_ | refine bk_ ?_ | refine sc_ ?_ | (refine sk_ ?_; first | (show aWp _ _ _ _ _) | skip) | (refine ex_ ?_; first | (show aWp _ _ _ _ _) | skip) | refine rt_ ?_)
    refine W_loopK [2, 25, 26] nx (fun r tm h q => ∃ i m : Nat, i ≤ rows.length ∧ r = rows.length - i ∧ tm 27 = .int .i64 i ∧ tm 6 = .hs m 0 ((rows.take i).flatten.length) ∧ nx ≤ m ∧ m < q ∧ h m = some ⟨1, numB .u8 (rows.take i).flatten⟩) rows.length (by omega) ⟨0, mf, by omega, rfl, rfl, rfl, by omega, by omega, by (have FX := Fx0; exact cl_)⟩ ?_
    rintro r tm2 h2 k2 ⟨i, m, hi, rfl, h27, h6, hm1, hm2, hm3⟩ hag2 hh2 hk2
    by_cases hlt : i < rows.length
    · have hd : decide ((i : Int) < (rows.length : Int)) = true := decide_eq_true (by omega)
      have hw : IntKind.i64.wrap (i + 1) = ((i + 1 : Nat) : Int) := by rw [wrapI] <;> omega
      obtain ⟨x, hx⟩ : ∃ x, rows[i]? = some x := ⟨rows[i], List.getElem?_eq_getElem hlt⟩
      have hx2 := hget i x hx
      have hti : (rows.take (i + 1)).flatten = (rows.take i).flatten ++ x := by rw [List.take_add_one, hx, List.flatten_append]; simp
      have hf := hfl (i + 1)
      rw [hti, List.length_append] at hf
      have FX := Fx.mk (And.intro @hag2 <| And.intro @h27 <| And.intro @h6 <| And.intro @hm3 <| And.intro @hd <| And.intro @hw <| @hx2)
      repeat (first | refine v_ ?_ | refine u_ ?_ | refine nl_ ?_ | (refine nz_ ?_; first | (show aWp _ _ _ _ _) | skip) | refine sq_ ?_ | refine rg_ ?_ | refine k_ ?_ | refine ct_ ?_ | refine cf_ ?_ | refine bk_ ?_ | refine sc_ ?_ | (refine sk_ ?_; first | (show aWp _ _ _ _ _) | skip) | (refine ex_ ?_; first | (show aWp _ _ _ _ _) | skip) | refine rt_ ?_)
      refine ⟨rows.length - (i + 1), by omega, ⟨i + 1, k2, by omega, rfl, ?_, ?_, by omega, by simp only; omega, ?_⟩, ?_, ?_, by simp only; omega, rfl⟩
      · (have FX := Fx0; exact cl_)
      · (have FX := Fx.mk (@hti); exact cl_)
      · (have FX := Fx.mk (@hti); exact cl_)
      · repeat (refine KAgree.upd rfl ?_)
        exact hag2
      · exact (by have FX := Fx.mk (@hh2); exact ha_)
    · obtain rfl : i = rows.length := by omega
      have hd : decide ((rows.length : Int) < (rows.length : Int)) = false := by simp
      rw [List.take_length] at h6 hm3
      have FX := Fx.mk (And.intro @hag2 <| And.intro @h27 <| And.intro @h6 <| And.intro @hm3 <| @hd)
      repeat (first | refine v_ ?_ | refine u_ ?_ | refine nl_ ?_ | (refine nz_ ?_; first | (show aWp _ _ _ _ _) | skip) | refine sq_ ?_ | refine rg_ ?_ | refine k_ ?_ | refine ct_ ?_ | refine cf_ ?_ | refine bk_ ?_ | refine sc_ ?_ | (refine sk_ ?_; first | (show aWp _ _ _ _ _) | skip) | (refine ex_ ?_; first | (show aWp _ _ _ _ _) | skip) | refine rt_ ?_)
      exact W_endOwn (by omega) (by have FX := Fx.mk (And.intro @hh2 <| @hh); exact ha_) (by rw [Try.results41]) (by (have FX := Fx0; exact cr_)) (.inl ⟨m, [], by (have FX := Fx0; exact cl_), by omega, by simp only; omega, by (have FX := Fx.mk (And.intro @hm3 <| ((fun α : Type => @List.append_nil α))); exact cl_)⟩)
#print axioms Concat_bytes
end Go.Proofs.Yteklnhogokjkkaa.AE
