/- Layer 7: LeafShort, LeafRot: Decode where it refuses at once. -/
import Derived.Test.YtcnofpoffdjbpaaN4
import Derived.Test.YtcnofpoffdjbpaaN5
import Derived.Test.YtcnofpoffdjbpaaQ0
import Derived.Test.YtcnofpoffdjbpaaG7
namespace Go.Proofs.Ytcnofpoffdjbpaa.AE
open Go Go.RowKit Go.Proofs Go.Proofs.Ytcnofpoffdjbpaa
set_option linter.unusedVariables false
set_option linter.unusedSimpArgs false
set_option maxRecDepth 100000
set_option maxHeartbeats 8000000
theorem leaf_Decode_short (l : List Int) (hl : l.length ≠ 64) : aFun Try.prog 19 [.sl (numB .u8 l)] (.tup [.agg [.sl [], .sl []], .int .i64 8]) := by
  have hn := numB_len .u8 l
  have d0 : decide ((l.length : Int) = 64) = false := decide_eq_false (by omega)
  refine aFun_body Try.func19 rfl rfl (by simp [Try.ntmps19]) fun hreal h nx hfresh => ?_
  rw [Try.ntmps19]
  have FX := Fx.mk (And.intro @hn <| @d0)
  repeat (first | refine v_ ?_ | refine u_ ?_ | refine nl_ ?_ | (refine nz_ ?_; first | (show aWp _ _ _ _ _) | skip) | refine sq_ ?_ | refine rg_ ?_ | refine k_ ?_ | refine ct_ ?_ | refine cf_ ?_ | refine bk_ ?_ | refine sc_ ?_ | (refine sk_ ?_; first | (show aWp _ _ _ _ _) | skip) | (refine ex_ ?_; first | (show aWp _ _ _ _ _) | skip) | refine rt_ ?_)
  (have FX := Fx0; exact end_ Try.results19)
theorem leaf_Decode_rot (l : List Int) (hl : l.length = 64) (ho : Pl.openS l = ([], 21)) : aFun Try.prog 19 [.sl (numB .u8 l)] (.tup [.agg [.sl [], .sl []], .int .i64 21]) := by
  have hn := numB_len .u8 l
  have d0 : decide ((l.length : Int) = 64) = true := decide_eq_true (by omega)
  have d1 : decide ((21 : Int) = 0) = false := rfl
  have op := crc_Open l (by omega)
  rw [ho] at op
  refine aFun_body Try.func19 rfl rfl (by simp [Try.ntmps19]) fun hreal h nx hfresh => ?_
  rw [Try.ntmps19]
  have FX := Fx.mk (And.intro @hn <| And.intro @d0 <| @d1)
  repeat (first | refine v_ ?_ | refine u_ ?_ | refine f_ (op) fun kf hkf => ?_ | refine nl_ ?_ | (refine nz_ ?_; first | (show aWp _ _ _ _ _) | skip) | refine sq_ ?_ | refine rg_ ?_ | refine k_ ?_ | refine ct_ ?_ | refine cf_ ?_ | refine bk_ ?_ | refine sc_ ?_ | (refine sk_ ?_; first | (show aWp _ _ _ _ _) | skip) | (refine ex_ ?_; first | (show aWp _ _ _ _ _) | skip) | refine rt_ ?_)
  (have FX := Fx0; exact end_ Try.results19)
theorem win64 (a : Int) : ∃ m j : Nat, IntKind.i64.wrap (a.tmod 64 + 64) = (m : Int) ∧ ((m : Nat) : Int).tmod 64 = (j : Int) ∧ j < 64 := by
  have h1 : a.tmod 64 < 64 := Int.tmod_lt_of_pos a (by decide)
  have h2 : -64 < a.tmod 64 := Int.lt_tmod_of_pos a (by decide)
  refine ⟨(a.tmod 64 + 64).toNat, (a.tmod 64 + 64).toNat % 64, ?_, ?_, by omega⟩
  · rw [wrapI] <;> omega
  · rw [Int.tmod_eq_emod_of_nonneg (by omega)]; omega
theorem law_Short (l : List (Int × Int)) (k : List Int) (at_ : Int) (hs : l.length * 16 ≤ 140737488351232 ∧ k.length * 8 ≤ 140737488351232) : aFun Try.prog 8 [nodeV l k, .int .i64 at_] (.bool true) := by
  have o1 := law_Of l k hs.1 hs.2
  have al := law_alive
  have n0 := law_num 0
  have n8 := law_num 8
  have n9 := law_num 9
  have d0 : decide ((0 : Int) = 0) = true := rfl
  have d8 : decide ((8 : Int) = 8) = true := rfl
  have d9 : decide ((9 : Int) = 0) = false := rfl
  by_cases h1 : okN l k
  · have e1 := (leaf_Encode l k h1).fn_tup
    unfold nodeV at o1 e1 ⊢
    refine aFun_body Try.func8 rfl rfl (by simp [Try.ntmps8]) fun hreal h nx hfresh => ?_
    rw [Try.ntmps8]
    have it1 : OkIt l := (Real.items (Real.node (l := l) (kids := k) (hreal (nodeV l k) (by simp [nodeV]))).1).2
    have hl := encS_len (encF_len h1 it1)
    have d64 : decide (((64 : Nat) : Int) = 64) = true := rfl
    obtain ⟨m, j, hm, hj, hj64⟩ := win64 at_
    have hn := numB_len .u8 (encS l k)
    have de1 := leaf_Decode_short ((encS l k).take j) (by rw [List.length_take]; omega)
    have cb := CopyBytes (encS l k) (by omega)
    have de2 := leaf_Decode_short (encS l k ++ [0]) (by rw [List.length_append]; simp; omega)
    have htk := take_len _ _ hl
    have hl2 : (encS l k ++ [0]).length = 65 := by rw [List.length_append, hl]; rfl
    have htk2 : (encS l k ++ [0]).take (64 + 1) = encS l k ++ [0] := take_len _ _ hl2
    have FX := Fx.mk (And.intro @d0 <| And.intro @hl <| And.intro @d64 <| And.intro @hm <| And.intro @hj <| @htk)
    repeat (first | refine v_ ?_ | refine u_ ?_ | refine f_ (al) fun kf hkf => ?_ | refine f_ (o1) fun kf hkf => ?_ | refine f_ (e1) fun kf hkf => ?_ | refine f_ (n0) fun kf hkf => ?_ | refine f_ (de1) fun kf hkf => ?_ | refine o_ (cb) fun mf kf hmf hkf => ?_ | refine nl_ ?_ | (refine nz_ ?_; first | (show aWp _ _ _ _ _) | skip) | refine sq_ ?_ | refine rg_ ?_ | refine k_ ?_ | refine ct_ ?_ | refine cf_ ?_ | refine bk_ ?_ | refine sc_ ?_ | (refine sk_ ?_; first | (show aWp _ _ _ _ _) | skip) | (refine ex_ ?_; first | (show aWp _ _ _ _ _) | skip) | refine rt_ ?_)
    -- DBG
    have FX := Fx.mk (And.intro @hl <| And.intro @hl2 <| @htk2); refine fz_ 44 ?_
    have FX := Fx.mk (And.intro @d8 <| @htk2)
    repeat (first | refine v_ ?_ | refine u_ ?_ | refine f_ (de2) fun kf hkf => ?_ | refine f_ (n8) fun kf hkf => ?_ | refine nl_ ?_ | (refine nz_ ?_; first | (show aWp _ _ _ _ _) | skip) | refine sq_ ?_ | refine rg_ ?_ | refine k_ ?_ | refine ct_ ?_ | refine cf_ ?_ | refine bk_ ?_ | refine sc_ ?_ | (refine sk_ ?_; first | (show aWp _ _ _ _ _) | skip) | (refine ex_ ?_; first | (show aWp _ _ _ _ _) | skip) | refine rt_ ?_)
    (have FX := Fx0; exact end_ Try.results8)
  · have e1 := leaf_Encode_bad l k h1
    unfold nodeV at o1 e1 ⊢
    refine aFun_body Try.func8 rfl rfl (by simp [Try.ntmps8]) fun hreal h nx hfresh => ?_
    rw [Try.ntmps8]
    have d00 : decide (((0 : Nat) : Int) = 0) = true := rfl
    have FX := Fx.mk (And.intro @d0 <| And.intro @d9 <| @d00)
    repeat (first | refine v_ ?_ | refine u_ ?_ | refine f_ (al) fun kf hkf => ?_ | refine f_ (o1) fun kf hkf => ?_ | refine f_ (e1) fun kf hkf => ?_ | refine f_ (n9) fun kf hkf => ?_ | refine nl_ ?_ | (refine nz_ ?_; first | (show aWp _ _ _ _ _) | skip) | refine sq_ ?_ | refine rg_ ?_ | refine k_ ?_ | refine ct_ ?_ | refine cf_ ?_ | refine bk_ ?_ | refine sc_ ?_ | (refine sk_ ?_; first | (show aWp _ _ _ _ _) | skip) | (refine ex_ ?_; first | (show aWp _ _ _ _ _) | skip) | refine rt_ ?_)
    (have FX := Fx0; exact end_ Try.results8)
#print axioms law_Short
theorem BY_encS (l : List (Int × Int)) (k : List Int) : Pl.BY (encS l k) := by
  refine Pl.BY_seal (Pl.BY_append (Pl.BY_flat _ _) fun x hx => ?_)
  rw [List.mem_replicate] at hx
  omega
theorem law_Rot (l : List (Int × Int)) (k : List Int) (at_ t : Int) (hs : l.length * 16 ≤ 140737488351232 ∧ k.length * 8 ≤ 140737488351232) : aFun Try.prog 6 [nodeV l k, .int .i64 at_, .int .u8 t] (.bool true) := by
  have o1 := law_Of l k hs.1 hs.2
  have al := law_alive
  have n0 := law_num 0
  have n21 := law_num 21
  have n9 := law_num 9
  have d0 : decide ((0 : Int) = 0) = true := rfl
  have d21 : decide ((21 : Int) = 21) = true := rfl
  have d9 : decide ((9 : Int) = 0) = false := rfl
  by_cases h1 : okN l k
  · have e1 := leaf_Encode l k h1
    unfold nodeV at o1 e1 ⊢
    refine aFun_body Try.func6 rfl rfl (by simp [Try.ntmps6]) fun hreal h nx hfresh => ?_
    rw [Try.ntmps6]
    have it1 : OkIt l := (Real.items (Real.node (l := l) (kids := k) (hreal (nodeV l k) (by simp [nodeV]))).1).2
    have ht := inU8 (Real.int (hreal (.int .u8 t) (by simp)))
    have hl := encS_len (encF_len h1 it1)
    have d64 : decide (((64 : Nat) : Int) = 64) = true := rfl
    by_cases hz : t = 0
    · have dt : decide (t = 0) = true := decide_eq_true hz
      have FX := Fx.mk (And.intro @d0 <| And.intro @hl <| And.intro @d64 <| @dt)
      repeat (first | refine v_ ?_ | refine u_ ?_ | refine f_ (al) fun kf hkf => ?_ | refine f_ (o1) fun kf hkf => ?_ | refine om_ (e1) fun mf kf hmf hkf => ?_ | refine f_ (n0) fun kf hkf => ?_ | refine nl_ ?_ | (refine nz_ ?_; first | (show aWp _ _ _ _ _) | skip) | refine sq_ ?_ | refine rg_ ?_ | refine k_ ?_ | refine ct_ ?_ | refine cf_ ?_ | refine bk_ ?_ | refine sc_ ?_ | (refine sk_ ?_; first | (show aWp _ _ _ _ _) | skip) | (refine ex_ ?_; first | (show aWp _ _ _ _ _) | skip) | refine rt_ ?_)
      (have FX := Fx0; exact end_ Try.results6)
    · have dt : decide (t = 0) = false := decide_eq_false hz
      obtain ⟨m, j, hm, hj, hj64⟩ := win64 at_
      have hn := numB_len .u8 (encS l k)
      obtain ⟨c, hc⟩ : ∃ c, (encS l k)[j]? = some c := ⟨_, List.getElem?_eq_getElem (by omega)⟩
      have hcr := BY_encS l k c (List.mem_of_getElem? hc)
      have hcn := numB_get .u8 _ j c hc
      have ho := open_rot (p := padL (encF l k)) (t := t) hc hcr (by omega)
      have hl2 : ((encS l k).set j (bits .xor .u8 c t)).length = 64 := by rw [List.length_set, hl]
      have htk := take_len _ _ hl2
      have de := leaf_Decode_rot _ hl2 ho
      have FX := Fx.mk (And.intro @d0 <| And.intro @hl <| And.intro @d64 <| And.intro @dt <| And.intro @hm <| And.intro @hj <| @hcn)
      repeat (first | refine v_ ?_ | refine u_ ?_ | refine f_ (al) fun kf hkf => ?_ | refine f_ (o1) fun kf hkf => ?_ | refine om_ (e1) fun mf kf hmf hkf => ?_ | refine f_ (n0) fun kf hkf => ?_ | refine nl_ ?_ | (refine nz_ ?_; first | (show aWp _ _ _ _ _) | skip) | refine sq_ ?_ | refine rg_ ?_ | refine k_ ?_ | refine ct_ ?_ | refine cf_ ?_ | refine bk_ ?_ | refine sc_ ?_ | (refine sk_ ?_; first | (show aWp _ _ _ _ _) | skip) | (refine ex_ ?_; first | (show aWp _ _ _ _ _) | skip) | refine rt_ ?_)
      -- DBG
      have FX := Fx.mk (And.intro @hl <| And.intro @hl2 <| @htk); refine fz_ 50 ?_
      have FX := Fx.mk (And.intro @d21 <| @htk)
      repeat (first | refine v_ ?_ | refine u_ ?_ | refine f_ (de) fun kf hkf => ?_ | refine f_ (n21) fun kf hkf => ?_ | refine nl_ ?_ | (refine nz_ ?_; first | (show aWp _ _ _ _ _) | skip) | refine sq_ ?_ | refine rg_ ?_ | refine k_ ?_ | refine ct_ ?_ | refine cf_ ?_ | refine bk_ ?_ | refine sc_ ?_ | (refine sk_ ?_; first | (show aWp _ _ _ _ _) | skip) | (refine ex_ ?_; first | (show aWp _ _ _ _ _) | skip) | refine rt_ ?_)
      (have FX := Fx0; exact end_ Try.results6)
  · have e1 := leaf_Encode_bad l k h1
    unfold nodeV at o1 e1 ⊢
    refine aFun_body Try.func6 rfl rfl (by simp [Try.ntmps6]) fun hreal h nx hfresh => ?_
    rw [Try.ntmps6]
    have d00 : decide (((0 : Nat) : Int) = 0) = true := rfl
    have FX := Fx.mk (And.intro @d0 <| And.intro @d9 <| @d00)
    repeat (first | refine v_ ?_ | refine u_ ?_ | refine f_ (al) fun kf hkf => ?_ | refine f_ (o1) fun kf hkf => ?_ | refine f_ (e1) fun kf hkf => ?_ | refine f_ (n9) fun kf hkf => ?_ | refine nl_ ?_ | (refine nz_ ?_; first | (show aWp _ _ _ _ _) | skip) | refine sq_ ?_ | refine rg_ ?_ | refine k_ ?_ | refine ct_ ?_ | refine cf_ ?_ | refine bk_ ?_ | refine sc_ ?_ | (refine sk_ ?_; first | (show aWp _ _ _ _ _) | skip) | (refine ex_ ?_; first | (show aWp _ _ _ _ _) | skip) | refine rt_ ?_)
    (have FX := Fx0; exact end_ Try.results6)
#print axioms law_Rot
end Go.Proofs.Ytcnofpoffdjbpaa.AE
