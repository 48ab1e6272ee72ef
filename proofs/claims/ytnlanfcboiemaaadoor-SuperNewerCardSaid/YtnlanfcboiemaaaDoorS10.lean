/- Layer 4's laws: SuperRot, SuperNewer, SuperShort. -/
import Derived.Test.YtnlanfcboiemaaaDoorS9
import Derived.Test.YtnlanfcboiemaaaDoorQ0
namespace Go.Proofs.YtnlanfcboiemaaaDoor.AE
open Go Go.RowKit Go.Proofs Go.Proofs.YtnlanfcboiemaaaDoor
set_option linter.unusedVariables false
set_option linter.unusedSimpArgs false
set_option maxRecDepth 100000
set_option maxHeartbeats 8000000
theorem win64s (a : Int) : ∃ m j : Nat, IntKind.i64.wrap (a.tmod 64 + 64) = (m : Int) ∧ ((m : Nat) : Int).tmod 64 = (j : Int) ∧ j < 64 := by
  have h1 : a.tmod 64 < 64 := Int.tmod_lt_of_pos a (by decide)
  have h2 : -64 < a.tmod 64 := Int.lt_tmod_of_pos a (by decide)
  refine ⟨(a.tmod 64 + 64).toNat, (a.tmod 64 + 64).toNat % 64, ?_, ?_, by omega⟩
  · rw [wrapI] <;> omega
  · rw [Int.tmod_eq_emod_of_nonneg (by omega)]; omega
theorem told_rot {l : List Int} (hl : l.length = 64) (ho : Pl.openS l = ([], 21)) : Sup.told l = (Sup.zero, 21) := by
  unfold Sup.told
  rw [if_neg (by simp [hl]), if_pos (.inl (by rw [ho]; decide))]
theorem told_short {l : List Int} (hl : l.length ≠ 64) : Sup.told l = (Sup.zero, 8) := if_pos hl
theorem law_Rot (s : Sup) (at_ t : Int) : aFun Tryd.prog 6 [s.av, .int .i64 at_, .int .u8 t] (.bool true) := by
  have al := law_alive
  have n0 := law_num 0
  have n21 := law_num 21
  have n4 := law_num 4
  have d0 : decide ((0 : Int) = 0) = true := rfl
  have d21 : decide ((21 : Int) = 21) = true := rfl
  have d4 : decide ((4 : Int) = 0) = false := rfl
  by_cases h1 : s.ok
  · have e1 := super_Encode s h1
    simp only [Sup.av_eq] at *
    refine aFun_body Tryd.func6 rfl rfl (by simp [Tryd.ntmps6]) fun hreal h nx hfresh => ?_
    rw [Tryd.ntmps6]
    have ht := inU8 (Real.int (hreal (.int .u8 t) (by simp)))
    have hl := s.sector_len
    have d64 : decide (((64 : Nat) : Int) = 64) = true := rfl
    by_cases hz : t = 0
    · have dt : decide (t = 0) = true := decide_eq_true hz
      have FX := Fx.mk (And.intro @d0 <| And.intro @hl <| And.intro @d64 <| And.intro @dt <| And.intro @Bool.not_true <| @Bool.not_false)
      repeat (first | refine v_ ?_ | refine u_ ?_ | refine f_ (al) fun kf hkf => ?_ | refine om_ (e1) fun mf kf hmf hkf => ?_ | refine f_ (n0) fun kf hkf => ?_ | refine nl_ ?_ | (refine nz_ ?_; first | (show aWp _ _ _ _ _) | skip) | refine sq_ ?_ | refine rg_ ?_ | refine k_ ?_ | refine ct_ ?_ | refine cf_ ?_ | refine bk_ ?_ | refine sc_ ?_ | (refine sk_ ?_; first | (show aWp _ _ _ _ _) | skip) | (refine ex_ ?_; first | (show aWp _ _ _ _ _) | skip) | refine rt_ ?_)
      (have FX := Fx0; exact end_ Tryd.results6)
    · have dt : decide (t = 0) = false := decide_eq_false hz
      obtain ⟨m, j, hm, hj, hj64⟩ := win64s at_
      obtain ⟨c, hc⟩ : ∃ c, s.sector[j]? = some c := ⟨_, List.getElem?_eq_getElem (by omega)⟩
      have hcr := Pl.BY_seal (l := s.head 7 ++ List.replicate 20 0) (by
        refine Pl.BY_append (Pl.BY_append (fun x hx => by simp [mag4] at hx; omega) (Pl.BY_flat _ _)) fun x hx => ?_
        rw [(List.mem_replicate.1 hx).2]; decide) c (List.mem_of_getElem? hc)
      have hcn := numB_get .u8 _ j c hc
      have ho := open_rot (p := s.head 7 ++ List.replicate 20 0) (t := t) hc hcr (by omega)
      have hl2 : (s.sector.set j (bits .xor .u8 c t)).length = 64 := by rw [List.length_set, hl]
      have htk := take_len _ _ hl2
      have de := super_Decode (s.sector.set j (bits .xor .u8 c t))
      rw [toldV_zero (told_rot hl2 ho)] at de
      have FX := Fx.mk (And.intro @d0 <| And.intro @hl <| And.intro @d64 <| And.intro @dt <| And.intro @hm <| And.intro @hj <| And.intro @hcn <| And.intro @Bool.not_true <| @Bool.not_false)
      repeat (first | refine v_ ?_ | refine u_ ?_ | refine f_ (al) fun kf hkf => ?_ | refine om_ (e1) fun mf kf hmf hkf => ?_ | refine f_ (n0) fun kf hkf => ?_ | refine nl_ ?_ | (refine nz_ ?_; first | (show aWp _ _ _ _ _) | skip) | refine sq_ ?_ | refine rg_ ?_ | refine k_ ?_ | refine ct_ ?_ | refine cf_ ?_ | refine bk_ ?_ | refine sc_ ?_ | (refine sk_ ?_; first | (show aWp _ _ _ _ _) | skip) | (refine ex_ ?_; first | (show aWp _ _ _ _ _) | skip) | refine rt_ ?_)
      have FX := Fx.mk (And.intro @hl <| And.intro @hl2 <| @htk); refine fz_ 49 ?_
      have FX := Fx.mk (And.intro @d21 <| And.intro @htk <| And.intro @decide_true <| And.intro @Bool.not_true <| @Bool.not_false)
      repeat (first | refine v_ ?_ | refine u_ ?_ | refine f_ (de) fun kf hkf => ?_ | refine f_ (n21) fun kf hkf => ?_ | refine nl_ ?_ | (refine nz_ ?_; first | (show aWp _ _ _ _ _) | skip) | refine sq_ ?_ | refine rg_ ?_ | refine k_ ?_ | refine ct_ ?_ | refine cf_ ?_ | refine bk_ ?_ | refine sc_ ?_ | (refine sk_ ?_; first | (show aWp _ _ _ _ _) | skip) | (refine ex_ ?_; first | (show aWp _ _ _ _ _) | skip) | refine rt_ ?_)
      (have FX := Fx0; exact end_ Tryd.results6)
  · have e1 := super_Encode_bad s h1
    simp only [Sup.av_eq] at *
    refine aFun_body Tryd.func6 rfl rfl (by simp [Tryd.ntmps6]) fun hreal h nx hfresh => ?_
    rw [Tryd.ntmps6]
    have d00 : decide (((0 : Nat) : Int) = 0) = true := rfl
    have FX := Fx.mk (And.intro @d0 <| And.intro @d4 <| And.intro @d00 <| And.intro @Bool.not_true <| @Bool.not_false)
    repeat (first | refine v_ ?_ | refine u_ ?_ | refine f_ (al) fun kf hkf => ?_ | refine f_ (e1) fun kf hkf => ?_ | refine f_ (n4) fun kf hkf => ?_ | refine nl_ ?_ | (refine nz_ ?_; first | (show aWp _ _ _ _ _) | skip) | refine sq_ ?_ | refine rg_ ?_ | refine k_ ?_ | refine ct_ ?_ | refine cf_ ?_ | refine bk_ ?_ | refine sc_ ?_ | (refine sk_ ?_; first | (show aWp _ _ _ _ _) | skip) | (refine ex_ ?_; first | (show aWp _ _ _ _ _) | skip) | refine rt_ ?_)
    (have FX := Fx0; exact end_ Tryd.results6)
theorem law_Short (s : Sup) (at_ : Int) : aFun Tryd.prog 9 [s.av, .int .i64 at_] (.bool true) := by
  have al := law_alive
  have n0 := law_num 0
  have n8 := law_num 8
  have n4 := law_num 4
  have n21 := law_num 21
  have d0 : decide ((0 : Int) = 0) = true := rfl
  have d8 : decide ((8 : Int) = 8) = true := rfl
  have d21 : decide ((21 : Int) = 21) = true := rfl
  have d4 : decide ((4 : Int) = 0) = false := rfl
  by_cases h1 : s.ok
  · have e1 := enc_fn s h1
    simp only [Sup.av_eq] at *
    refine aFun_body Tryd.func9 rfl rfl (by simp [Tryd.ntmps9]) fun hreal h nx hfresh => ?_
    rw [Tryd.ntmps9]
    have hl := s.sector_len
    have d64 : decide (((64 : Nat) : Int) = 64) = true := rfl
    obtain ⟨m, j, hm, hj, hj64⟩ := win64s at_
    have de1 := super_Decode (s.sector.take j)
    have sh1 := told_short (l := s.sector.take j) (by rw [List.length_take]; omega)
    rw [toldV_zero sh1] at de1
    have cb := CopyBytes s.sector (by omega)
    have de2 := super_Decode (s.sector ++ [0])
    rw [toldV_zero (told_short (l := s.sector ++ [0]) (by rw [List.length_append]; simp; omega))] at de2
    have nw := super_Newest (s.sector.take j) []
    have nv : Sup.newerV (s.sector.take j) [] = .tup [.agg [.int .i64 0, .int .i64 0, .int .i64 0, .int .i64 0, .int .i64 0, .int .i64 0, .int .i64 0], .int .i64 0, .int .i64 21] := by
      unfold Sup.newerV Sup.newer
      rw [sh1, told_short (l := []) (by decide), if_pos ⟨by decide, by decide⟩]
      rfl
    rw [nv] at nw
    have nbn : numB .u8 [] = [] := rfl
    rw [nbn] at nw
    have htk := take_len _ _ hl
    have hl2 : (s.sector ++ [0]).length = 65 := by rw [List.length_append, hl]; rfl
    have htk2 : (s.sector ++ [0]).take (64 + 1) = s.sector ++ [0] := take_len _ _ hl2
    have FX := Fx.mk (And.intro @d0 <| And.intro @hl <| And.intro @d64 <| And.intro @hm <| And.intro @hj <| And.intro @htk <| And.intro @Bool.not_true <| @Bool.not_false)
    repeat (first | refine v_ ?_ | refine u_ ?_ | refine f_ (al) fun kf hkf => ?_ | refine f_ (e1) fun kf hkf => ?_ | refine f_ (n0) fun kf hkf => ?_ | refine f_ (de1) fun kf hkf => ?_ | refine o_ (cb) fun mf kf hmf hkf => ?_ | refine nl_ ?_ | (refine nz_ ?_; first | (show aWp _ _ _ _ _) | skip) | refine sq_ ?_ | refine rg_ ?_ | refine k_ ?_ | refine ct_ ?_ | refine cf_ ?_ | refine bk_ ?_ | refine sc_ ?_ | (refine sk_ ?_; first | (show aWp _ _ _ _ _) | skip) | (refine ex_ ?_; first | (show aWp _ _ _ _ _) | skip) | refine rt_ ?_)
    have FX := Fx.mk (And.intro @hl <| And.intro @hl2 <| @htk2); refine fz_ 47 ?_
    have FX := Fx.mk (And.intro @d8 <| And.intro @d0 <| And.intro @d21 <| And.intro @hj <| And.intro @hl <| @htk2)
    repeat (first | refine v_ ?_ | refine u_ ?_ | refine f_ (de2) fun kf hkf => ?_ | refine f_ (n8) fun kf hkf => ?_ | refine f_ (n21) fun kf hkf => ?_ | refine f_ (nw) fun kf hkf => ?_ | refine nl_ ?_ | (refine nz_ ?_; first | (show aWp _ _ _ _ _) | skip) | refine sq_ ?_ | refine rg_ ?_ | refine k_ ?_ | refine ct_ ?_ | refine cf_ ?_ | refine bk_ ?_ | refine sc_ ?_ | (refine sk_ ?_; first | (show aWp _ _ _ _ _) | skip) | (refine ex_ ?_; first | (show aWp _ _ _ _ _) | skip) | refine rt_ ?_)
    (have FX := Fx0; exact end_ Tryd.results9)
  · have e1 := super_Encode_bad s h1
    simp only [Sup.av_eq] at *
    refine aFun_body Tryd.func9 rfl rfl (by simp [Tryd.ntmps9]) fun hreal h nx hfresh => ?_
    rw [Tryd.ntmps9]
    have d00 : decide (((0 : Nat) : Int) = 0) = true := rfl
    have FX := Fx.mk (And.intro @d0 <| And.intro @d4 <| And.intro @d00 <| And.intro @Bool.not_true <| @Bool.not_false)
    repeat (first | refine v_ ?_ | refine u_ ?_ | refine f_ (al) fun kf hkf => ?_ | refine f_ (e1) fun kf hkf => ?_ | refine f_ (n4) fun kf hkf => ?_ | refine nl_ ?_ | (refine nz_ ?_; first | (show aWp _ _ _ _ _) | skip) | refine sq_ ?_ | refine rg_ ?_ | refine k_ ?_ | refine ct_ ?_ | refine cf_ ?_ | refine bk_ ?_ | refine sc_ ?_ | (refine sk_ ?_; first | (show aWp _ _ _ _ _) | skip) | (refine ex_ ?_; first | (show aWp _ _ _ _ _) | skip) | refine rt_ ?_)
    (have FX := Fx0; exact end_ Tryd.results9)
end Go.Proofs.YtnlanfcboiemaaaDoor.AE
