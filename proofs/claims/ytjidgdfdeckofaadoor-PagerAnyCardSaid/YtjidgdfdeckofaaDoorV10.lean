/- Texts G6, G7, G12, G13, J0. -/
import Derived.Test.YtjidgdfdeckofaaDoorV5
import Derived.Test.YtjidgdfdeckofaaDoorV9
/- Rows put together: slices.Grow, slices.Concat, slices.Clone. -/
namespace Go.Proofs.YtjidgdfdeckofaaDoor.AE
open Go Go.RowKit Go.Proofs Go.Proofs.YtjidgdfdeckofaaDoor
set_option linter.unusedVariables false
set_option linter.unusedSimpArgs false
set_option maxRecDepth 100000
set_option maxHeartbeats 4000000
/-- Rows of numbers as a row's elements. -/
def rowsB (k : IntKind) (rows : List (List Int)) : List (List AV) := rows.map fun r => [.sl (numB k r)]
theorem Grow_bytes (n : Nat) (hn : n ≤ 100000000000) : aOwn Tryd.prog 87 [.zs, .int .i64 (n : Int)] 1 [] := by
  refine aOwn_body Tryd.func87 rfl rfl (by simp [Tryd.ntmps87]) fun hreal h nx hfresh => ?_
  rw [Tryd.ntmps87]
  have hd : decide ((n : Int) < 0) = false := decide_eq_false (by omega)
  have hw0 : IntKind.i64.wrap (0 - 0) = 0 := by rw [wrapI] <;> omega
  have hw1 : IntKind.i64.wrap ((n : Int) - 0) = n := by rw [wrapI] <;> omega
  by_cases h0 : 0 < n
  · have hd2 : decide (0 < (n : Int)) = true := decide_eq_true (by omega)
    have FX := Fx.mk (And.intro @hd <| And.intro @hw0 <| And.intro @hw1 <| @hd2)
    repeat (first | refine v_ ?_ | refine u_ ?_ | refine nl_ ?_ | (refine nz_ ?_; first | (show aWp _ _ _ _ _) | skip) | refine sq_ ?_ | refine rg_ ?_ | refine k_ ?_ | refine ct_ ?_ | refine cf_ ?_ | refine bk_ ?_ | refine sc_ ?_ | (refine sk_ ?_; first | (show aWp _ _ _ _ _) | skip) | (refine ex_ ?_; first | (show aWp _ _ _ _ _) | skip) | refine rt_ ?_)
    refine W_endOwn (by omega) (by have FX := Fx0; exact ha_) (by rw [Tryd.results87]) (by (have FX := Fx0; exact cr_)) (.inl ⟨nx, numB .u8 (List.replicate n 0), by (have FX := Fx0; exact cl_), by omega, by simp only; omega, by (have FX := Fx.mk (((fun α : Type => @List.nil_append α))); exact cl_)⟩)
  · obtain rfl : n = 0 := by omega
    have hd2 : decide (0 < ((0 : Nat) : Int)) = false := by decide
    have FX := Fx.mk (And.intro @hd <| And.intro @hw0 <| And.intro @hw1 <| @hd2)
    repeat (first | refine v_ ?_ | refine u_ ?_ | refine nl_ ?_ | (refine nz_ ?_; first | (show aWp _ _ _ _ _) | skip) | refine sq_ ?_ | refine rg_ ?_ | refine k_ ?_ | refine ct_ ?_ | refine cf_ ?_ | refine bk_ ?_ | refine sc_ ?_ | (refine sk_ ?_; first | (show aWp _ _ _ _ _) | skip) | (refine ex_ ?_; first | (show aWp _ _ _ _ _) | skip) | refine rt_ ?_)
    refine W_endOwn (by omega) (by have FX := Fx0; exact ha_) (by rw [Tryd.results87]) (by (have FX := Fx0; exact cr_)) (.inr ⟨rfl, rfl⟩)
theorem Concat_bytes (rows : List (List Int)) (hb : rows.flatten.length ≤ 100000000) : aOwn Tryd.prog 70 [.sl (rowsB .u8 rows)] 1 (numB .u8 rows.flatten) := by
  refine aOwn_body Tryd.func70 rfl rfl (by simp [Tryd.ntmps70]) fun hreal h nx hfresh => ?_
  rw [Tryd.ntmps70]
  have hrl : (rowsB .u8 rows).length = rows.length := by simp [rowsB]
  have hlb : rows.length < 4611686018427387904 := by
    have := (hreal (.sl (rowsB .u8 rows)) (by simp)).sl.1
    rw [hrl] at this
    exact this
  have hget : ∀ (i : Nat) r, rows[i]? = some r → (rowsB .u8 rows)[i]? = some [.sl (numB .u8 r)] := fun i r hr => by simp [rowsB, hr]
  have hfl : ∀ i, ((rows.take i).flatten).length ≤ 100000000 := fun i => by
    have h1 : rows.flatten = (rows.take i).flatten ++ (rows.drop i).flatten := by rw [← List.flatten_append, List.take_append_drop]
    have h2 := congrArg List.length h1
    rw [List.length_append] at h2
    omega
  have FX := Fx.mk (@hrl)
  repeat (first | refine v_ ?_ | refine u_ ?_ | refine nl_ ?_ | (refine nz_ ?_; first | (show aWp _ _ _ _ _) | skip) | refine sq_ ?_ | refine rg_ ?_ | refine k_ ?_ | refine ct_ ?_ | refine cf_ ?_ | refine bk_ ?_ | refine sc_ ?_ | (refine sk_ ?_; first | (show aWp _ _ _ _ _) | skip) | (refine ex_ ?_; first | (show aWp _ _ _ _ _) | skip) | refine rt_ ?_)
  refine W_loopK [0, 2, 9, 10] nx (fun r tm h q => ∃ i : Nat, i ≤ rows.length ∧ r = rows.length - i ∧ tm 11 = .int .i64 i ∧ tm 3 = .int .i64 ((rows.take i).flatten.length : Nat)) rows.length (by omega) ⟨0, by omega, rfl, rfl, rfl⟩ ?_
  rintro r tm' h' k' ⟨i, hi, rfl, h11, h3⟩ hag hh hk'
  by_cases hlt : i < rows.length
  · have hd : decide ((i : Int) < (rows.length : Int)) = true := decide_eq_true (by omega)
    have hw : IntKind.i64.wrap (i + 1) = ((i + 1 : Nat) : Int) := by rw [wrapI] <;> omega
    obtain ⟨x, hx⟩ : ∃ x, rows[i]? = some x := ⟨rows[i], List.getElem?_eq_getElem hlt⟩
    have hx2 := hget i x hx
    have hti : (rows.take (i + 1)).flatten.length = (rows.take i).flatten.length + x.length := by rw [List.take_add_one, hx, List.flatten_append]; simp
    have hf := hfl (i + 1)
    have hw2 : IntKind.i64.wrap (((rows.take i).flatten.length : Int) + (x.length : Int)) = ((rows.take (i + 1)).flatten.length : Int) := by rw [wrapI] <;> omega
    have hd2 : decide (((rows.take (i + 1)).flatten.length : Int) < 0) = false := decide_eq_false (by omega)
    have FX := Fx.mk (And.intro @hag <| And.intro @h11 <| And.intro @h3 <| And.intro @hh <| And.intro @hd <| And.intro @hw <| And.intro @hx2 <| And.intro @hw2 <| @hd2)
    repeat (first | refine v_ ?_ | refine u_ ?_ | refine nl_ ?_ | (refine nz_ ?_; first | (show aWp _ _ _ _ _) | skip) | refine sq_ ?_ | refine rg_ ?_ | refine k_ ?_ | refine ct_ ?_ | refine cf_ ?_ | refine bk_ ?_ | refine sc_ ?_ | (refine sk_ ?_; first | (show aWp _ _ _ _ _) | skip) | (refine ex_ ?_; first | (show aWp _ _ _ _ _) | skip) | refine rt_ ?_)
    refine ⟨rows.length - (i + 1), by omega, ⟨i + 1, by omega, rfl, ?_, ?_⟩, ?_, ?_, by simp only; omega, rfl⟩
    · (have FX := Fx0; exact cl_)
    · (have FX := Fx0; exact cl_)
    · repeat (refine KAgree.upd rfl ?_)
      first | exact KAgree.refl _ _ | exact hag
    · exact (by have FX := Fx.mk (@hh); exact ha_)
  · obtain rfl : i = rows.length := by omega
    have hd : decide ((rows.length : Int) < (rows.length : Int)) = false := by simp
    rw [List.take_length] at h3
    have FX := Fx.mk (And.intro @hag <| And.intro @h11 <| And.intro @h3 <| And.intro @hh <| And.intro @hd <| @hrl)
    repeat (first | refine v_ ?_ | refine u_ ?_ | refine oa_ (Grow_bytes rows.flatten.length (by omega)) fun mf kf hmf hkf => ?_ | refine nl_ ?_ | (refine nz_ ?_; first | (show aWp _ _ _ _ _) | skip) | refine sq_ ?_ | refine rg_ ?_ | refine k_ ?_ | refine ct_ ?_ | refine cf_ ?_ | refine bk_ ?_ | refine sc_ ?_ | (refine sk_ ?_; first | (show aWp _ _ _ _ _) | skip) | (refine ex_ ?_; first | (show aWp _ _ _ _ _) | skip) | refine rt_ ?_)
    refine W_loopK [2, 25, 26] nx (fun r tm h q => ∃ i m : Nat, i ≤ rows.length ∧ r = rows.length - i ∧ tm 27 = .int .i64 i ∧ tm 6 = .hs m 0 ((rows.take i).flatten.length) ∧ nx ≤ m ∧ m < q ∧ h m = some ⟨1, numB .u8 (rows.take i).flatten⟩) rows.length (by omega) ⟨0, mf, by omega, rfl, rfl, rfl, by omega, by omega, by (have FX := Fx0; exact cl_)⟩ ?_
    rintro r tm2 h2 k2 ⟨i, m, hi, rfl, h27, h6, hm1, hm2, hm3⟩ hag2 hh2 hk2
    by_cases hlt : i < rows.length
    · have hd : decide ((i : Int) < (rows.length : Int)) = true := decide_eq_true (by omega)
      have hw : IntKind.i64.wrap (i + 1) = ((i + 1 : Nat) : Int) := by rw [wrapI] <;> omega
      obtain ⟨x, hx⟩ : ∃ x, rows[i]? = some x := ⟨rows[i], List.getElem?_eq_getElem hlt⟩
      have hx2 := hget i x hx
      have hti : (rows.take (i + 1)).flatten = (rows.take i).flatten ++ x := by rw [List.take_add_one, hx, List.flatten_append]; simp
      have hf := hfl (i + 1)
      rw [hti, List.length_append] at hf
      have FX := Fx.mk (And.intro @hag2 <| And.intro @h27 <| And.intro @h6 <| And.intro @hm3 <| And.intro @hd <| And.intro @hw <| @hx2)
      repeat (first | refine v_ ?_ | refine u_ ?_ | refine nl_ ?_ | (refine nz_ ?_; first | (show aWp _ _ _ _ _) | skip) | refine sq_ ?_ | refine rg_ ?_ | refine k_ ?_ | refine ct_ ?_ | refine cf_ ?_ | refine bk_ ?_ | refine sc_ ?_ | (refine sk_ ?_; first | (show aWp _ _ _ _ _) | skip) | (refine ex_ ?_; first | (show aWp _ _ _ _ _) | skip) | refine rt_ ?_)
      refine ⟨rows.length - (i + 1), by omega, ⟨i + 1, k2, by omega, rfl, ?_, ?_, by omega, by simp only; omega, ?_⟩, ?_, ?_, by simp only; omega, rfl⟩
      · (have FX := Fx0; exact cl_)
      · (have FX := Fx.mk (@hti); exact cl_)
      · (have FX := Fx.mk (@hti); exact cl_)
      · repeat (refine KAgree.upd rfl ?_)
        exact hag2
      · exact (by have FX := Fx.mk (@hh2); exact ha_)
    · obtain rfl : i = rows.length := by omega
      have hd : decide ((rows.length : Int) < (rows.length : Int)) = false := by simp
      rw [List.take_length] at h6 hm3
      have FX := Fx.mk (And.intro @hag2 <| And.intro @h27 <| And.intro @h6 <| And.intro @hm3 <| @hd)
      repeat (first | refine v_ ?_ | refine u_ ?_ | refine nl_ ?_ | (refine nz_ ?_; first | (show aWp _ _ _ _ _) | skip) | refine sq_ ?_ | refine rg_ ?_ | refine k_ ?_ | refine ct_ ?_ | refine cf_ ?_ | refine bk_ ?_ | refine sc_ ?_ | (refine sk_ ?_; first | (show aWp _ _ _ _ _) | skip) | (refine ex_ ?_; first | (show aWp _ _ _ _ _) | skip) | refine rt_ ?_)
      exact W_endOwn (by omega) (by have FX := Fx.mk (And.intro @hh2 <| @hh); exact ha_) (by rw [Tryd.results70]) (by (have FX := Fx0; exact cr_)) (.inl ⟨m, [], by (have FX := Fx0; exact cl_), by omega, by simp only; omega, by (have FX := Fx.mk (And.intro @hm3 <| ((fun α : Type => @List.append_nil α))); exact cl_)⟩)
#print axioms Concat_bytes
end Go.Proofs.YtjidgdfdeckofaaDoor.AE

/- Layer 2 and its page: Seal, Open. -/
namespace Go.Proofs.YtjidgdfdeckofaaDoor.AE
open Go Go.RowKit Go.Proofs Go.Proofs.YtjidgdfdeckofaaDoor
set_option linter.unusedVariables false
set_option linter.unusedSimpArgs false
set_option maxRecDepth 100000
set_option maxHeartbeats 4000000
theorem Clone_bytes (l : List Int) (hc : l.length ≤ 140737488355328) : aOwn Tryd.prog 43 [.sl (numB .u8 l)] 1 (numB .u8 l) := by
  refine aOwn_body Tryd.func43 rfl rfl (by simp [Tryd.ntmps43]) fun hreal h nx hfresh => ?_
  rw [Tryd.ntmps43]
  have FX := Fx0
  repeat (first | refine v_ ?_ | refine u_ ?_ | refine nl_ ?_ | (refine nz_ ?_; first | (show aWp _ _ _ _ _) | skip) | refine sq_ ?_ | refine rg_ ?_ | refine k_ ?_ | refine ct_ ?_ | refine cf_ ?_ | refine bk_ ?_ | refine sc_ ?_ | (refine sk_ ?_; first | (show aWp _ _ _ _ _) | skip) | (refine ex_ ?_; first | (show aWp _ _ _ _ _) | skip) | refine rt_ ?_)
  refine W_isnil (n := l.length) rfl (by first | rfl | (simp (disch := first | rfl | decide | omega | assumption | (simp only [LL]; omega)) only [WS, NB, WY, rowV]; first | done | rfl)) Tryd.underlying40 (fun h0 => ?_) ?_
  · obtain rfl : l = [] := List.eq_nil_of_length_eq_zero h0
    have FX := Fx0
    repeat (first | refine v_ ?_ | refine u_ ?_ | refine nl_ ?_ | (refine nz_ ?_; first | (show aWp _ _ _ _ _) | skip) | refine sq_ ?_ | refine rg_ ?_ | refine k_ ?_ | refine ct_ ?_ | refine cf_ ?_ | refine bk_ ?_ | refine sc_ ?_ | (refine sk_ ?_; first | (show aWp _ _ _ _ _) | skip) | (refine ex_ ?_; first | (show aWp _ _ _ _ _) | skip) | refine rt_ ?_)
    refine W_endOwn (by omega) (by have FX := Fx0; exact ha_) (by rw [Tryd.results43]) (by (have FX := Fx0; exact cr_)) (.inr ⟨rfl, rfl⟩)
  · have FX := Fx0
    repeat (first | refine v_ ?_ | refine u_ ?_ | refine nl_ ?_ | (refine nz_ ?_; first | (show aWp _ _ _ _ _) | skip) | refine sq_ ?_ | refine rg_ ?_ | refine k_ ?_ | refine ct_ ?_ | refine cf_ ?_ | refine bk_ ?_ | refine sc_ ?_ | (refine sk_ ?_; first | (show aWp _ _ _ _ _) | skip) | (refine ex_ ?_; first | (show aWp _ _ _ _ _) | skip) | refine rt_ ?_)
    (have FX := Fx0; exact endo_ (rest := []) (nx + 1) Tryd.results43)
theorem crc_Seal (l : List Int) (hc : l.length ≤ 10000000) : aOwn Tryd.prog 62 [.sl (numB .u8 l)] 1 (numB .u8 (Pl.sealS l)) := by
  refine aOwn_body Tryd.func62 rfl rfl (by simp [Tryd.ntmps62]) fun hreal h nx hfresh => ?_
  rw [Tryd.ntmps62]
  have hcr := Pl.crcI_range l
  have hw : IntKind.u64.wrap (Pl.crcI l) = Pl.crcI l := by rw [wrapU] <;> omega
  have hp : Pl.putS (Pl.crcI l) 4 = (Pl.putI 4 (Pl.crcI l), 0) := by
    unfold Pl.putS
    rw [if_neg (by omega), if_neg (by simp; omega)]
    rfl
  have hput := octets_Put (Pl.crcI l) 4
  rw [hp] at hput
  have FX := Fx.mk (@hw)
  repeat (first | refine v_ ?_ | refine u_ ?_ | refine f_ (crc_Sum l) fun kf hkf => ?_ | refine f_ (hput) fun kf hkf => ?_ | refine nl_ ?_ | (refine nz_ ?_; first | (show aWp _ _ _ _ _) | skip) | refine sq_ ?_ | refine rg_ ?_ | refine k_ ?_ | refine ct_ ?_ | refine cf_ ?_ | refine bk_ ?_ | refine sc_ ?_ | (refine sk_ ?_; first | (show aWp _ _ _ _ _) | skip) | (refine ex_ ?_; first | (show aWp _ _ _ _ _) | skip) | refine rt_ ?_)
  have hro : rowsB .u8 [l, Pl.putI 4 (Pl.crcI l)] = [[.sl (numB .u8 l)], [.sl (numB .u8 (Pl.putI 4 (Pl.crcI l)))]] := rfl
  have hfl : [l, Pl.putI 4 (Pl.crcI l)].flatten = Pl.sealS l := by simp [Pl.sealS]
  have hcat := Concat_bytes [l, Pl.putI 4 (Pl.crcI l)] (by rw [hfl, Pl.seal_len]; omega)
  rw [hro, hfl] at hcat
  have FX := Fx0; refine fz_ 14 ?_
  have FX := Fx0
  repeat (first | refine v_ ?_ | refine u_ ?_ | refine o_ (hcat) fun mf kf hmf hkf => ?_ | refine nl_ ?_ | (refine nz_ ?_; first | (show aWp _ _ _ _ _) | skip) | refine sq_ ?_ | refine rg_ ?_ | refine k_ ?_ | refine ct_ ?_ | refine cf_ ?_ | refine bk_ ?_ | refine sc_ ?_ | (refine sk_ ?_; first | (show aWp _ _ _ _ _) | skip) | (refine ex_ ?_; first | (show aWp _ _ _ _ _) | skip) | refine rt_ ?_)
  (have FX := Fx0; exact endo_ (rest := []) (mf) Tryd.results62)
#print axioms crc_Seal
theorem crc_Open (l : List Int) (hc : l.length ≤ 140737488355328) : aFun Tryd.prog 66 [.sl (numB .u8 l)] (.tup [.sl (numB .u8 (Pl.openS l).1), .int .i64 (Pl.openS l).2]) := by
  by_cases h4 : l.length < 4
  · rw [show Pl.openS l = ([], 8) by unfold Pl.openS; rw [if_pos h4]]
    have hg : Pl.getS l 0 4 = (0, 8) := by
      unfold Pl.getS
      rw [if_neg (by omega), if_neg (by omega), if_pos (by omega)]
    have hget := octets_Get l 0 4
    rw [hg] at hget
    refine aFun_body Tryd.func66 rfl rfl (by simp [Tryd.ntmps66]) fun hreal h nx hfresh => ?_
    rw [Tryd.ntmps66]
    have hw : IntKind.i64.wrap ((l.length : Int) - 4) = (l.length : Int) - 4 := by rw [wrapI] <;> omega
    have hlt : (l.length : Int) - 4 < 0 := by omega
    have FX := Fx.mk (And.intro @hw <| @hlt)
    repeat (first | refine v_ ?_ | refine u_ ?_ | refine f_ (hget) fun kf hkf => ?_ | refine nl_ ?_ | (refine nz_ ?_; first | (show aWp _ _ _ _ _) | skip) | refine sq_ ?_ | refine rg_ ?_ | refine k_ ?_ | refine ct_ ?_ | refine cf_ ?_ | refine bk_ ?_ | refine sc_ ?_ | (refine sk_ ?_; first | (show aWp _ _ _ _ _) | skip) | (refine ex_ ?_; first | (show aWp _ _ _ _ _) | skip) | refine rt_ ?_)
    (have FX := Fx0; exact end_ Tryd.results66)
  obtain ⟨n, hn⟩ : ∃ n, l.length = n + 4 := ⟨l.length - 4, by omega⟩
  have hg : Pl.getS l (n : Int) 4 = (Pl.leI ((l.drop n).take 4), 0) := by
    unfold Pl.getS
    rw [if_neg (by omega), if_neg (by omega), if_neg (by omega)]
    rfl
  have hd4 : (l.drop n).take 4 = l.drop n := List.take_of_length_le (by simp; omega)
  rw [hd4] at hg
  have hget := octets_Get l n 4
  rw [hg] at hget
  have hle := Pl.leI_lt (l.drop n)
  have hle0 := Pl.leI_nonneg (l.drop n)
  rw [show (l.drop n).length = 4 by simp; omega] at hle
  have hw9 : IntKind.u32.wrap (Pl.leI (l.drop n)) = Pl.leI (l.drop n) := Pl.u32w (by omega) (by omega)
  have hw : IntKind.i64.wrap (((n + 4 : Nat) : Int) - 4) = (n : Int) := by rw [wrapI] <;> omega
  by_cases hs : Pl.leI (l.drop n) = Pl.crcI (l.take n)
  · rw [show Pl.openS l = (l.take n, 0) by unfold Pl.openS; rw [if_neg h4, show l.length - 4 = n by omega, if_neg (by simpa using hs)]]
    refine aFun_body Tryd.func66 rfl rfl (by simp [Tryd.ntmps66]) fun hreal h nx hfresh => ?_
    rw [Tryd.ntmps66]
    have hd : decide (Pl.leI (l.drop n) = Pl.crcI (l.take n)) = true := decide_eq_true hs
    have htl : (l.take n).length = n := by simp; omega
    have FX := Fx.mk (And.intro @hw <| And.intro @hn <| And.intro @hw9 <| And.intro @hd <| @Bool.not_true)
    repeat (first | refine v_ ?_ | refine u_ ?_ | refine f_ (hget) fun kf hkf => ?_ | refine f_ (crc_Sum (l.take n)) fun kf hkf => ?_ | refine o_ (Clone_bytes (l.take n) (by omega)) fun mf kf hmf hkf => ?_ | refine nl_ ?_ | (refine nz_ ?_; first | (show aWp _ _ _ _ _) | skip) | refine sq_ ?_ | refine rg_ ?_ | refine k_ ?_ | refine ct_ ?_ | refine cf_ ?_ | refine bk_ ?_ | refine sc_ ?_ | (refine sk_ ?_; first | (show aWp _ _ _ _ _) | skip) | (refine ex_ ?_; first | (show aWp _ _ _ _ _) | skip) | refine rt_ ?_)
    (have FX := Fx.mk (@htl); exact end_ Tryd.results66)
  · rw [show Pl.openS l = ([], 21) by unfold Pl.openS; rw [if_neg h4, show l.length - 4 = n by omega, if_pos (by simpa using hs)]]
    refine aFun_body Tryd.func66 rfl rfl (by simp [Tryd.ntmps66]) fun hreal h nx hfresh => ?_
    rw [Tryd.ntmps66]
    have hd : decide (Pl.leI (l.drop n) = Pl.crcI (l.take n)) = false := decide_eq_false hs
    have FX := Fx.mk (And.intro @hw <| And.intro @hn <| And.intro @hw9 <| And.intro @hd <| @Bool.not_false)
    repeat (first | refine v_ ?_ | refine u_ ?_ | refine f_ (hget) fun kf hkf => ?_ | refine f_ (crc_Sum (l.take n)) fun kf hkf => ?_ | refine nl_ ?_ | (refine nz_ ?_; first | (show aWp _ _ _ _ _) | skip) | refine sq_ ?_ | refine rg_ ?_ | refine k_ ?_ | refine ct_ ?_ | refine cf_ ?_ | refine bk_ ?_ | refine sc_ ?_ | (refine sk_ ?_; first | (show aWp _ _ _ _ _) | skip) | (refine ex_ ?_; first | (show aWp _ _ _ _ _) | skip) | refine rt_ ?_)
    (have FX := Fx0; exact end_ Tryd.results66)
#print axioms crc_Open
end Go.Proofs.YtjidgdfdeckofaaDoor.AE

/- octets.Pack alone (where there is no slices.Repeat). -/
namespace Go.Proofs.YtjidgdfdeckofaaDoor.AE
open Go Go.RowKit Go.Proofs Go.Proofs.YtjidgdfdeckofaaDoor
set_option linter.unusedVariables false
set_option linter.unusedSimpArgs false
set_option maxRecDepth 100000
set_option maxHeartbeats 8000000
theorem octets_Pack (ws vs : List Int) (hf : Pl.fits ws vs) (h1 : 1 ≤ ws.length) (h64 : ws.length ≤ 64) : aOwnM Tryd.prog 60 [.sl (numB .i64 ws), .sl (numB .u64 vs)] (fun v => .tup [v, .int .i64 0]) 1 (numB .u8 (Pl.flat ws vs)) := by
  have hl := Pl.fits_len hf
  refine aOwnM_body Tryd.func60 rfl rfl (by simp [Tryd.ntmps60]) fun hreal h nx hfresh => ?_
  rw [Tryd.ntmps60]
  have d1 : decide ((ws.length : Int) = (vs.length : Int)) = true := decide_eq_true (by omega)
  have d2 : decide (64 < (ws.length : Int)) = false := decide_eq_false (by omega)
  have hfl : ∀ i, i ≤ ws.length → (Pl.flat (ws.take i) (vs.take i)).length ≤ 8 * i := by
    intro i
    induction i with
    | zero => intro _; simp [Pl.flat]
    | succ i ih =>
      intro hi
      have e1 := List.getElem?_eq_getElem (show i < ws.length by omega)
      have e2 := List.getElem?_eq_getElem (show i < vs.length by omega)
      rw [flat_take ws vs i _ _ e1 e2, List.length_append, Pl.putI_length]
      have := ih (by omega)
      have := fits_get hf e1 e2
      omega
  have FX := Fx.mk (And.intro @d1 <| @d2)
  repeat (first | refine v_ ?_ | refine u_ ?_ | refine nl_ ?_ | (refine nz_ ?_; first | (show aWp _ _ _ _ _) | skip) | refine sq_ ?_ | refine rg_ ?_ | refine k_ ?_ | refine ct_ ?_ | refine cf_ ?_ | refine bk_ ?_ | refine sc_ ?_ | (refine sk_ ?_; first | (show aWp _ _ _ _ _) | skip) | (refine ex_ ?_; first | (show aWp _ _ _ _ _) | skip) | refine rt_ ?_)
  refine W_loopK [0, 1, 21, 22] nx (fun r tm h q => ∃ i : Nat, i ≤ ws.length ∧ r = ws.length - i ∧ tm 23 = .int .i64 i ∧ ((tm 6 = .zs ∧ i = 0) ∨ ∃ m, tm 6 = .hs m 0 (Pl.flat (ws.take i) (vs.take i)).length ∧ nx ≤ m ∧ m < q ∧ h m = some ⟨1, numB .u8 (Pl.flat (ws.take i) (vs.take i))⟩)) ws.length (by omega) ⟨0, Nat.zero_le _, rfl, rfl, .inl ⟨rfl, rfl⟩⟩ ?_
  rintro r tm' h' k' ⟨i, hi, rfl, h23, h6⟩ hag hh hk'
  by_cases hlt : i < ws.length
  · have hd : decide ((i : Int) < (ws.length : Int)) = true := decide_eq_true (by omega)
    have hw : IntKind.i64.wrap (i + 1) = ((i + 1 : Nat) : Int) := by rw [wrapI] <;> omega
    obtain ⟨w, e1⟩ : ∃ w, ws[i]? = some w := ⟨ws[i], List.getElem?_eq_getElem hlt⟩
    obtain ⟨v, e2⟩ : ∃ v, vs[i]? = some v := ⟨vs[i]'(by omega), List.getElem?_eq_getElem _⟩
    obtain ⟨g1, g2, g3, g4⟩ := fits_get hf e1 e2
    have hput := octets_Put v w
    rw [Pl.putS_fits ⟨g1, g2⟩ g4] at hput
    have hpl := Pl.putI_length w.toNat v
    have hfi := hfl i (by omega)
    have hsn := flat_take ws vs i w v e1 e2
    rcases h6 with ⟨h6, rfl⟩ | ⟨m, h6, m1, m2, m3⟩
    · have hsn0 : Pl.flat (ws.take (0 + 1)) (vs.take (0 + 1)) = Pl.putI w.toNat v := by rw [hsn]; simp [Pl.flat]
      have FX := Fx.mk (And.intro @hag <| And.intro @h23 <| And.intro @h6 <| And.intro @hh <| And.intro @hd <| And.intro @hw <| And.intro @e1 <| And.intro @e2 <| @hpl)
      repeat (first | refine v_ ?_ | refine u_ ?_ | refine f_ (hput) fun kf hkf => ?_ | refine nl_ ?_ | (refine nz_ ?_; first | (show aWp _ _ _ _ _) | skip) | refine sq_ ?_ | refine rg_ ?_ | refine k_ ?_ | refine ct_ ?_ | refine cf_ ?_ | refine bk_ ?_ | refine sc_ ?_ | (refine sk_ ?_; first | (show aWp _ _ _ _ _) | skip) | (refine ex_ ?_; first | (show aWp _ _ _ _ _) | skip) | refine rt_ ?_)
      refine ⟨ws.length - (0 + 1), by omega, ⟨0 + 1, by omega, rfl, ?_, .inr ⟨kf, ?_, by omega, by simp only; omega, ?_⟩⟩, ?_, ?_, by simp only; omega, rfl⟩
      · (have FX := Fx0; exact cl_)
      · (have FX := Fx.mk (And.intro @hsn0 <| @hpl); exact cl_)
      · (have FX := Fx.mk (@hsn0); exact cl_)
      · repeat (refine KAgree.upd rfl ?_)
        first | exact KAgree.refl _ _ | exact hag
      · exact (by have FX := Fx.mk (@hh); exact ha_)
    · have FX := Fx.mk (And.intro @hag <| And.intro @h23 <| And.intro @h6 <| And.intro @m3 <| And.intro @hh <| And.intro @hd <| And.intro @hw <| And.intro @e1 <| And.intro @e2 <| @hpl)
      repeat (first | refine v_ ?_ | refine u_ ?_ | refine f_ (hput) fun kf hkf => ?_ | refine nl_ ?_ | (refine nz_ ?_; first | (show aWp _ _ _ _ _) | skip) | refine sq_ ?_ | refine rg_ ?_ | refine k_ ?_ | refine ct_ ?_ | refine cf_ ?_ | refine bk_ ?_ | refine sc_ ?_ | (refine sk_ ?_; first | (show aWp _ _ _ _ _) | skip) | (refine ex_ ?_; first | (show aWp _ _ _ _ _) | skip) | refine rt_ ?_)
      refine ⟨ws.length - (i + 1), by omega, ⟨i + 1, by omega, rfl, ?_, .inr ⟨kf, ?_, by omega, by simp only; omega, ?_⟩⟩, ?_, ?_, by simp only; omega, rfl⟩
      · (have FX := Fx0; exact cl_)
      · (have FX := Fx.mk (And.intro @hsn <| @hpl); exact cl_)
      · (have FX := Fx.mk (@hsn); exact cl_)
      · repeat (refine KAgree.upd rfl ?_)
        first | exact KAgree.refl _ _ | exact hag
      · exact (by have FX := Fx.mk (@hh); exact ha_)
  · obtain rfl : i = ws.length := by omega
    have hd : decide ((ws.length : Int) < (ws.length : Int)) = false := by simp
    rcases h6 with ⟨h6, h7⟩ | ⟨m, h6, m1, m2, m3⟩
    · omega
    · rw [List.take_length, hl, List.take_length] at h6 m3
      have FX := Fx.mk (And.intro @hag <| And.intro @h23 <| And.intro @h6 <| And.intro @m3 <| And.intro @hh <| @hd)
      repeat (first | refine v_ ?_ | refine u_ ?_ | refine nl_ ?_ | (refine nz_ ?_; first | (show aWp _ _ _ _ _) | skip) | refine sq_ ?_ | refine rg_ ?_ | refine k_ ?_ | refine ct_ ?_ | refine cf_ ?_ | refine bk_ ?_ | refine sc_ ?_ | (refine sk_ ?_; first | (show aWp _ _ _ _ _) | skip) | (refine ex_ ?_; first | (show aWp _ _ _ _ _) | skip) | refine rt_ ?_)
      (have FX := Fx.mk (And.intro @hag <| And.intro @h6 <| And.intro @m3 <| @hh); exact endm_ (m) Tryd.results60)
end Go.Proofs.YtjidgdfdeckofaaDoor.AE

/- crc.Seal is in G7 here. -/

/- Layer 15 in plain words: a record, its octets, and back. No program in sight. -/
namespace Go.Proofs.YtjidgdfdeckofaaDoor.AE
open Go Go.RowKit Go.Proofs Go.Proofs.YtjidgdfdeckofaaDoor
set_option linter.unusedVariables false
abbrev Pg := Int × List Int
structure Rec where
  q : Int
  root : Int
  room : Int
  pages : List Pg
def pageB (p : Pg) : List AV := [.int .i64 p.1, .sl (numB .u8 p.2)]
def pagesB (l : List Pg) : List (List AV) := l.map pageB
theorem pagesB_len (l : List Pg) : (pagesB l).length = l.length := by simp [pagesB]
theorem pagesB_get (l : List Pg) (i : Nat) (p : Pg) (h : l[i]? = some p) : (pagesB l)[i]? = some [.int .i64 p.1, .sl (numB .u8 p.2)] := by simp [pagesB, h, pageB]
namespace Rec
def av (r : Rec) : AV := .agg [.int .i64 r.q, .int .i64 r.root, .int .i64 r.room, .sl (pagesB r.pages)]
theorem av_eq (r : Rec) : r.av = .agg [.int .i64 r.q, .int .i64 r.root, .int .i64 r.room, .sl (pagesB r.pages)] := rfl
def zero : Rec := ⟨0, 0, 0, []⟩
/-- The number ahead of page i. -/
def prevN (l : List Pg) : Nat → Int
  | 0 => 0
  | i + 1 => (l.getD i (0, [])).1
def okP (l : List Pg) (i : Nat) : Prop := prevN l i < (l.getD i (0, [])).1 ∧ (1 ≤ (l.getD i (0, [])).1 ∧ (l.getD i (0, [])).1 ≤ 2048) ∧ ((l.getD i (0, [])).2.length = 0 ∨ (l.getD i (0, [])).2.length = 64)
instance (l : List Pg) (i : Nat) : Decidable (okP l i) := inferInstanceAs (Decidable (_ ∧ _ ∧ _))
def ok (r : Rec) : Prop := (1 ≤ r.q ∧ r.q ≤ 1099511627776) ∧ (0 ≤ r.root ∧ r.root ≤ 2048) ∧ (0 ≤ r.room ∧ r.room ≤ 65536) ∧ r.pages.length ≤ 256 ∧ ∀ i, i < r.pages.length → okP r.pages i
instance (r : Rec) : Decidable r.ok := inferInstanceAs (Decidable (_ ∧ _ ∧ _ ∧ _ ∧ ∀ i, i < r.pages.length → _))
def chk (r : Rec) : Int := if r.ok then 0 else 9
end Rec
open Rec
theorem getD_some {α : Type} {l : List α} {i : Nat} {x d : α} (h : l[i]? = some x) : l.getD i d = x := by simp [List.getD, h]
/-! ### octets -/
def magJ : List Int := [102, 115, 106, 49]
def widJ : List Int := [8, 4, 4, 2]
def pageS (p : Pg) : List Int := Pl.putI 2 p.1 ++ (((min p.2.length 1 : Nat) : Int) :: p.2)
def pgsS (l : List Pg) : List Int := l.flatMap pageS
theorem pgsS_snoc (l : List Pg) (i : Nat) (p : Pg) (h : l[i]? = some p) : pgsS (l.take (i + 1)) = pgsS (l.take i) ++ pageS p := by
  unfold pgsS
  rw [List.take_add_one, h, List.flatMap_append]
  simp
theorem pageS_len (p : Pg) : (pageS p).length = 3 + p.2.length := by simp [pageS, Pl.putI_length]; omega
namespace Rec
def vals (r : Rec) : List Int := [r.q, r.root, r.room, (r.pages.length : Int)]
def hd (r : Rec) : List Int := magJ ++ Pl.flat widJ r.vals
def raw (r : Rec) : List Int := r.hd ++ pgsS r.pages
end Rec
def padN (n : Nat) : Nat := (n + 63) / 64 * 64
def padB (b : List Int) : List Int := b ++ List.replicate (padN b.length - b.length) 0
def Rec.enc (r : Rec) : List Int := padB (Pl.sealS r.raw)
theorem flat_widJ (a b c d : Int) : Pl.flat widJ [a, b, c, d] = Pl.putI 8 a ++ (Pl.putI 4 b ++ (Pl.putI 4 c ++ Pl.putI 2 d)) := by simp [Pl.flat, widJ]
theorem hd_len (r : Rec) : r.hd.length = 22 := by simp [hd, vals, flat_widJ, Pl.putI_length, magJ]
theorem fitsJ {r : Rec} (h : r.ok) : Pl.fits widJ r.vals := by
  obtain ⟨h1, h2, h3, h4, _⟩ := h
  exact ⟨⟨by decide, by decide, by omega, by show r.q < 256 ^ 8; omega⟩, ⟨by decide, by decide, by omega, by show r.root < 256 ^ 4; omega⟩, ⟨by decide, by decide, by omega, by show r.room < 256 ^ 4; omega⟩, ⟨by decide, by decide, by omega, by show (r.pages.length : Int) < 256 ^ 2; omega⟩, trivial⟩
theorem body_le {l : List Pg} (h : ∀ i, i < l.length → okP l i) : ∀ i, i ≤ l.length → (pgsS (l.take i)).length ≤ 67 * i
  | 0, _ => by simp [pgsS]
  | i + 1, hi => by
    have e := List.getElem?_eq_getElem (show i < l.length by omega)
    rw [pgsS_snoc l i _ e, List.length_append, pageS_len]
    have h1 := body_le h i (by omega)
    have h2 := h i (by omega)
    unfold okP at h2
    rw [getD_some e] at h2
    omega
theorem padN_le (n : Nat) : n ≤ padN n := by unfold padN; omega
theorem padB_len (b : List Int) : (padB b).length = padN b.length := by have := padN_le b.length; simp [padB]; omega
theorem enc_len (r : Rec) : r.enc.length = padN (22 + (pgsS r.pages).length + 4) := by rw [Rec.enc, padB_len, Pl.seal_len, Rec.raw, List.length_append, hd_len]
/-! ### and back -/
def numJ (b : List Int) (a n : Nat) : Int := Pl.leI ((b.drop a).take n)
def pageD (b : List Int) (a : Nat) : Except Int (Pg × Nat) :=
  if b.length < a + 3 then .error 8 else if 1 < numJ b (a + 2) 1 then .error 21 else if b.length < a + 3 + 64 * (numJ b (a + 2) 1).toNat then .error 8
  else .ok ((numJ b a 2, (b.drop (a + 3)).take (64 * (numJ b (a + 2) 1).toNat)), a + 3 + 64 * (numJ b (a + 2) 1).toNat)
def runP (b : List Int) : Nat → Except Int (List Pg × Nat)
  | 0 => .ok ([], 22)
  | i + 1 => match runP b i with
    | .error e => .error e
    | .ok (l, a) => match pageD b a with
      | .error e => .error e
      | .ok (p, a') => .ok (l ++ [p], a')
theorem runP_err {b : List Int} {e : Int} {i : Nat} (h : runP b i = .error e) : ∀ n, i ≤ n → runP b n = .error e
  | 0, hn => by obtain rfl : i = 0 := by omega
                exact h
  | n + 1, hn => by
    rcases Nat.lt_or_ge n i with q | q
    · obtain rfl : i = n + 1 := by omega
      exact h
    · rw [runP, runP_err h n q]
theorem runP_step {b : List Int} {i : Nat} {l : List Pg} {a : Nat} {p : Pg} {a' : Nat} (h : runP b i = .ok (l, a)) (hp : pageD b a = .ok (p, a')) : runP b (i + 1) = .ok (l ++ [p], a') := by rw [runP, h]; simp only; rw [hp]
theorem runP_bad {b : List Int} {i : Nat} {l : List Pg} {a : Nat} {e : Int} (h : runP b i = .ok (l, a)) (hp : pageD b a = .error e) {n : Nat} (hn : i < n) : runP b n = .error e := runP_err (i := i + 1) (by rw [runP, h]; simp only; rw [hp]) n hn
theorem pageD_len {b : List Int} {a a' : Nat} {p : Pg} (h : pageD b a = .ok (p, a')) : a + 3 ≤ a' ∧ a' ≤ b.length := by
  unfold pageD at h
  split at h
  · cases h
  split at h
  · cases h
  split at h
  · cases h
  cases h
  omega
theorem runP_len {b : List Int} (hb : 22 ≤ b.length) : ∀ {n : Nat} {l : List Pg} {a : Nat}, runP b n = .ok (l, a) → l.length = n ∧ 22 + 3 * n ≤ a ∧ a ≤ b.length
  | 0, l, a, h => by cases h; exact ⟨rfl, by omega, hb⟩
  | n + 1, l, a, h => by
    rw [runP] at h
    split at h
    · cases h
    rename_i l0 a0 h0
    split at h
    · cases h
    rename_i p a1 h1
    cases h
    obtain ⟨q1, q2, q3⟩ := runP_len hb h0
    obtain ⟨q4, q5⟩ := pageD_len h1
    exact ⟨by simp [q1], by omega, q5⟩
def recD (b : List Int) (l : List Pg) : Rec := ⟨min (numJ b 4 8) 4611686018427387904, numJ b 12 4, numJ b 16 4, l⟩
def decR (b : List Int) : Except Int (Rec × Nat) :=
  if ¬ (b.take 4 <+: magJ) then .error 21 else if b.length < 22 then .error 8 else if 256 < numJ b 20 2 then .error 21 else
  match runP b (numJ b 20 2).toNat with
  | .error e => .error e
  | .ok (l, a) => if b.length < padN (a + 4) then .error 8 else if (recD b l).ok ∧ (recD b l).enc = b.take (padN (a + 4)) then .ok (recD b l, padN (a + 4)) else .error 21
def decS (b : List Int) : Rec × Int × Int := match decR b with
  | .error e => (Rec.zero, 0, e)
  | .ok (r, n) => (r, (n : Int), 0)
def decV (b : List Int) : AV := .tup [(decS b).1.av, .int .i64 (decS b).2.1, .int .i64 (decS b).2.2]
theorem decV_err {b : List Int} {e : Int} (h : decR b = .error e) : decV b = .tup [.agg [.int .i64 0, .int .i64 0, .int .i64 0, .sl []], .int .i64 0, .int .i64 e] := by
  unfold decV decS
  rw [h]
  rfl
theorem decV_ok {b : List Int} {r : Rec} {n : Nat} (h : decR b = .ok (r, n)) : decV b = .tup [r.av, .int .i64 (n : Int), .int .i64 0] := by
  unfold decV decS
  rw [h]
theorem decR_errs {b : List Int} {e : Int} (h : decR b = .error e) : e = 8 ∨ e = 21 := by
  have run : ∀ n e, runP b n = .error e → e = 8 ∨ e = 21 := by
    intro n
    induction n with
    | zero => intro e h; cases h
    | succ n ih =>
      intro e h
      rw [runP] at h
      split at h
      · rename_i e0 h0
        cases h
        exact ih _ h0
      · split at h
        · rename_i e1 h1
          cases h
          unfold pageD at h1
          split at h1
          · cases h1; exact .inl rfl
          split at h1
          · cases h1; exact .inr rfl
          split at h1
          · cases h1; exact .inl rfl
          cases h1
        · cases h
  unfold decR at h
  split at h
  · cases h; exact .inr rfl
  split at h
  · cases h; exact .inl rfl
  split at h
  · cases h; exact .inr rfl
  split at h
  · rename_i e0 h0
    cases h
    exact run _ _ h0
  · split at h
    · cases h; exact .inl rfl
    split at h
    · cases h
    · cases h; exact .inr rfl
theorem decR_ok {b : List Int} {r : Rec} {n : Nat} (h : decR b = .ok (r, n)) : r.ok ∧ r.enc = b.take n ∧ n ≤ b.length ∧ 64 ≤ n := by
  unfold decR at h
  split at h
  · cases h
  split at h
  · cases h
  split at h
  · cases h
  split at h
  · cases h
  · rename_i l a h0
    split at h
    · cases h
    split at h
    · rename_i h1
      cases h
      refine ⟨h1.1, h1.2, by omega, ?_⟩
      unfold padN
      omega
    · cases h
/-! ### a record comes back -/
theorem numJ_at {b X Y : List Int} {k a : Nat} {n : Int} (hb : b = X ++ (Pl.putI k n ++ Y)) (ha : X.length = a) (h0 : 0 ≤ n) (h1 : n < 256 ^ k) : numJ b a k = n := by
  subst hb ha
  have hl := Pl.putI_length k n
  unfold numJ
  rw [List.drop_left, List.take_append_of_le_length (by omega), List.take_of_length_le (by omega), Pl.leI_put k n h0 h1]
theorem pageD_at {b X Y : List Int} {p : Pg} {a : Nat} (hb : b = X ++ (pageS p ++ Y)) (ha : X.length = a) (h0 : 0 ≤ p.1 ∧ p.1 ≤ 2048) (hl : p.2.length = 0 ∨ p.2.length = 64) : pageD b a = .ok (p, a + (pageS p).length) := by
  have hf : numJ b (a + 2) 1 = ((min p.2.length 1 : Nat) : Int) := by
    rcases hl with hl | hl
    · refine numJ_at (X := X ++ Pl.putI 2 p.1) (Y := p.2 ++ Y) ?_ (by simp [Pl.putI_length, ha]) (by omega) (by rw [hl]; decide)
      rw [hb, hl]
      simp [pageS, hl, show Pl.putI 1 0 = [0] from rfl]
    · refine numJ_at (X := X ++ Pl.putI 2 p.1) (Y := p.2 ++ Y) ?_ (by simp [Pl.putI_length, ha]) (by omega) (by rw [hl]; decide)
      rw [hb, hl]
      simp [pageS, hl, show Pl.putI 1 1 = [1] from rfl]
  have hn : numJ b a 2 = p.1 := numJ_at (X := X) (Y := ((min p.2.length 1 : Nat) : Int) :: p.2 ++ Y) (by rw [hb]; simp [pageS]) ha h0.1 (by have := h0.2; show p.1 < 65536; omega)
  have hlen : b.length = a + (3 + p.2.length) + Y.length := by rw [hb, List.length_append, List.length_append, pageS_len, ha]; omega
  have h64 : 64 * (numJ b (a + 2) 1).toNat = p.2.length := by rw [hf]; omega
  have hd : (b.drop (a + 3)).take p.2.length = p.2 := by
    have e : b = (X ++ Pl.putI 2 p.1 ++ [((min p.2.length 1 : Nat) : Int)]) ++ (p.2 ++ Y) := by rw [hb]; simp [pageS]
    rw [e, List.drop_left' (by simp [Pl.putI_length, ha]), List.take_left']
    rfl
  unfold pageD
  rw [if_neg (by omega), if_neg (by rw [hf]; omega), h64, if_neg (by omega), hn, hd, pageS_len, show a + 3 + p.2.length = a + (3 + p.2.length) by omega]
theorem runP_at {b X Y : List Int} {l : List Pg} (hb : b = X ++ (pgsS l ++ Y)) (ha : X.length = 22) (h : ∀ i, i < l.length → okP l i) : ∀ i, i ≤ l.length → runP b i = .ok (l.take i, 22 + (pgsS (l.take i)).length)
  | 0, _ => by simp [runP, pgsS]
  | i + 1, hi => by
    have e := List.getElem?_eq_getElem (show i < l.length by omega)
    have h2 := h i (by omega)
    unfold okP at h2
    rw [getD_some e] at h2
    have hs : pgsS l = pgsS (l.take i) ++ (pageS l[i] ++ pgsS (l.drop (i + 1))) := by
      rw [← List.append_assoc, ← pgsS_snoc l i _ e]
      unfold pgsS
      rw [← List.flatMap_append, List.take_append_drop]
    have hp := pageD_at (b := b) (X := X ++ pgsS (l.take i)) (Y := pgsS (l.drop (i + 1)) ++ Y) (p := l[i]) (a := 22 + (pgsS (l.take i)).length) (by rw [hb, hs]; simp) (by simp [ha]) (by omega) h2.2.2
    rw [runP_step (runP_at hb ha h i (by omega)) hp, pgsS_snoc l i _ e, List.take_add_one, e, List.length_append]
    simp [Nat.add_assoc]
theorem dec_enc {r : Rec} (h : r.ok) (more : List Int) : decR (r.enc ++ more) = .ok (r, r.enc.length) := by
  obtain ⟨h1, h2, h3, h4, h5⟩ := h
  obtain ⟨Z, hZ⟩ : ∃ Z, r.enc ++ more = r.raw ++ Z := by
    refine ⟨Pl.putI 4 (Pl.crcI r.raw) ++ List.replicate (padN (Pl.sealS r.raw).length - (Pl.sealS r.raw).length) 0 ++ more, ?_⟩
    unfold Rec.enc padB
    rw [show Pl.sealS r.raw = r.raw ++ Pl.putI 4 (Pl.crcI r.raw) from rfl]
    simp
  have hl : 22 + (pgsS r.pages).length ≤ (r.enc ++ more).length := by rw [hZ, Rec.raw]; simp [hd_len]
  have hraw : r.raw = magJ ++ (Pl.putI 8 r.q ++ (Pl.putI 4 r.root ++ (Pl.putI 4 r.room ++ (Pl.putI 2 (r.pages.length : Int) ++ pgsS r.pages)))) := by
    unfold Rec.raw Rec.hd Rec.vals
    rw [flat_widJ]
    simp
  have n4 : numJ (r.enc ++ more) 4 8 = r.q := numJ_at (X := magJ) (by rw [hZ, hraw]; simp only [List.append_assoc]; rfl) rfl (by omega) (by show r.q < 18446744073709551616; omega)
  have n12 : numJ (r.enc ++ more) 12 4 = r.root := numJ_at (X := magJ ++ Pl.putI 8 r.q) (by rw [hZ, hraw]; simp only [List.append_assoc]; rfl) (by simp [Pl.putI_length, magJ]) (by omega) (by show r.root < 4294967296; omega)
  have n16 : numJ (r.enc ++ more) 16 4 = r.room := numJ_at (X := magJ ++ Pl.putI 8 r.q ++ Pl.putI 4 r.root) (by rw [hZ, hraw]; simp only [List.append_assoc]; rfl) (by simp [Pl.putI_length, magJ]) (by omega) (by show r.room < 4294967296; omega)
  have n20 : numJ (r.enc ++ more) 20 2 = (r.pages.length : Int) := numJ_at (X := magJ ++ Pl.putI 8 r.q ++ Pl.putI 4 r.root ++ Pl.putI 4 r.room) (by rw [hZ, hraw]; simp only [List.append_assoc]; rfl) (by simp [Pl.putI_length, magJ]) (by omega) (by show (r.pages.length : Int) < 65536; omega)
  have hrun := runP_at (b := r.enc ++ more) (X := r.hd) (Y := Z) (l := r.pages) (by rw [hZ, Rec.raw]; simp) (hd_len r) h5 r.pages.length (Nat.le_refl _)
  rw [List.take_length] at hrun
  have hrec : recD (r.enc ++ more) r.pages = r := by
    unfold recD
    rw [n4, n12, n16, Int.min_eq_left (by omega)]
  have hpn : padN (22 + (pgsS r.pages).length + 4) = r.enc.length := (enc_len r).symm
  unfold decR
  rw [if_neg (by
    simp only [Classical.not_not]
    rw [hZ, hraw, List.append_assoc, List.take_left' (show magJ.length = 4 from rfl)]
    exact List.prefix_refl _), if_neg (by omega), n20, if_neg (by omega), Int.toNat_natCast, hrun]
  simp only
  rw [hpn, if_neg (by simp), hrec, if_pos ⟨⟨h1, h2, h3, h4, h5⟩, by rw [List.take_left' rfl]⟩]
/-! ### records, one behind the other -/
def scanF : Nat → List Int → Int → List Rec × Nat
  | 0, _, _ => ([], 0)
  | k + 1, b, next => match decR b with
    | .error _ => ([], 0)
    | .ok (r, n) => if r.q = next then (r :: (scanF k (b.drop n) (next + 1)).1, n + (scanF k (b.drop n) (next + 1)).2) else ([], 0)
theorem scanF_fuel : ∀ (k k' : Nat) (b : List Int) (next : Int), b.length < k → b.length < k' → scanF k b next = scanF k' b next
  | k + 1, k' + 1, b, next, h, h' => by
    rw [scanF, scanF]
    cases hd : decR b with
    | error e => rfl
    | ok p =>
      obtain ⟨r, n⟩ := p
      obtain ⟨_, _, q3, q4⟩ := decR_ok hd
      simp only
      rw [scanF_fuel k k' (b.drop n) (next + 1) (by simp; omega) (by simp; omega)]
def scanS (b : List Int) (next : Int) : List Rec × Nat := scanF (b.length + 1) b next
theorem scan_bad {b : List Int} {next e : Int} (h : decR b = .error e) : scanS b next = ([], 0) := by
  unfold scanS scanF
  rw [h]
theorem scan_no {b : List Int} {next : Int} {r : Rec} {n : Nat} (h : decR b = .ok (r, n)) (hq : r.q ≠ next) : scanS b next = ([], 0) := by
  unfold scanS scanF
  rw [h]
  simp [hq]
theorem scan_yes {b : List Int} {next : Int} {r : Rec} {n : Nat} (h : decR b = .ok (r, n)) (hq : r.q = next) : scanS b next = (r :: (scanS (b.drop n) (next + 1)).1, n + (scanS (b.drop n) (next + 1)).2) := by
  obtain ⟨_, _, q3, q4⟩ := decR_ok h
  have e := scanF_fuel b.length ((b.drop n).length + 1) (b.drop n) (next + 1) (by simp; omega) (by omega)
  unfold scanS
  rw [scanF, h]
  simp only
  rw [if_pos hq, e]
theorem decR_nil : decR [] = .error 8 := rfl
end Go.Proofs.YtjidgdfdeckofaaDoor.AE
