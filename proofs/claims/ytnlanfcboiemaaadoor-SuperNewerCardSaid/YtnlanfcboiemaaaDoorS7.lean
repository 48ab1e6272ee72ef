/- Layer 4: Decode, Newest. -/
import Derived.Test.YtnlanfcboiemaaaDoorS1
import Derived.Test.YtnlanfcboiemaaaDoorS4
import Derived.Test.YtnlanfcboiemaaaDoorG2
import Derived.Test.YtnlanfcboiemaaaDoorG7
namespace Go.Proofs.YtnlanfcboiemaaaDoor.AE
open Go Go.RowKit Go.Proofs Go.Proofs.YtnlanfcboiemaaaDoor
set_option linter.unusedVariables false
set_option linter.unusedSimpArgs false
set_option maxRecDepth 100000
set_option maxHeartbeats 8000000
theorem open_len {b : List Int} (hl : b.length = 64) : Pl.openS b = ([], 21) ∨ ((Pl.openS b).2 = 0 ∧ (Pl.openS b).1.length = 60) := by
  unfold Pl.openS
  rw [if_neg (by omega)]
  split
  · exact .inl rfl
  · exact .inr ⟨rfl, by simp; omega⟩
def Sup.toldV (b : List Int) : AV := .tup [(Sup.told b).1.av, .int .i64 (Sup.told b).2]
theorem toldV_zero {b : List Int} {n : Int} (h : Sup.told b = (Sup.zero, n)) : Sup.toldV b = .tup [.agg [.int .i64 0, .int .i64 0, .int .i64 0, .int .i64 0, .int .i64 0, .int .i64 0, .int .i64 0], .int .i64 n] := by
  unfold Sup.toldV
  rw [h]
  rfl
theorem super_Decode (b : List Int) : aFun Tryd.prog 16 [.sl (numB .u8 b)] (Sup.toldV b) := by
  have d0 : decide ((0 : Int) = 0) = true := rfl
  have d21 : decide ((21 : Int) = 0) = false := rfl
  by_cases hl : b.length = 64
  rotate_left
  · rw [toldV_zero (n := 8) (by unfold Sup.told; rw [if_pos hl])]
    have dl : decide ((b.length : Int) = 64) = false := decide_eq_false (by omega)
    refine aFun_body Tryd.func16 rfl rfl (by simp [Tryd.ntmps16]) fun hreal h nx hfresh => ?_
    rw [Tryd.ntmps16]
    have FX := Fx.mk (And.intro @dl <| @Bool.not_false)
    repeat (first | refine v_ ?_ | refine u_ ?_ | refine nl_ ?_ | (refine nz_ ?_; first | (show aWp _ _ _ _ _) | skip) | refine sq_ ?_ | refine rg_ ?_ | refine k_ ?_ | refine ct_ ?_ | refine cf_ ?_ | refine bk_ ?_ | refine sc_ ?_ | (refine sk_ ?_; first | (show aWp _ _ _ _ _) | skip) | (refine ex_ ?_; first | (show aWp _ _ _ _ _) | skip) | refine rt_ ?_)
    (have FX := Fx0; exact end_ Tryd.results16)
  have dl : decide ((b.length : Int) = 64) = true := decide_eq_true (by omega)
  have op := crc_Open b (by omega)
  rcases open_len hl with ho | ⟨ho, hx⟩
  · rw [toldV_zero (n := 21) (by unfold Sup.told; rw [if_neg (by simp [hl]), if_pos (.inl (by rw [ho]; decide))])]
    rw [ho] at op
    refine aFun_body Tryd.func16 rfl rfl (by simp [Tryd.ntmps16]) fun hreal h nx hfresh => ?_
    rw [Tryd.ntmps16]
    have FX := Fx.mk (And.intro @dl <| And.intro @d21 <| And.intro @Bool.not_true <| @Bool.not_false)
    repeat (first | refine v_ ?_ | refine u_ ?_ | refine f_ (op) fun kf hkf => ?_ | refine nl_ ?_ | (refine nz_ ?_; first | (show aWp _ _ _ _ _) | skip) | refine sq_ ?_ | refine rg_ ?_ | refine k_ ?_ | refine ct_ ?_ | refine cf_ ?_ | refine bk_ ?_ | refine sc_ ?_ | (refine sk_ ?_; first | (show aWp _ _ _ _ _) | skip) | (refine ex_ ?_; first | (show aWp _ _ _ _ _) | skip) | refine rt_ ?_)
    (have FX := Fx0; exact end_ Tryd.results16)
  rw [ho] at op
  obtain ⟨x, hxx⟩ : ∃ x, (Pl.openS b).1 = x := ⟨_, rfl⟩
  have htold : ¬ (b.length ≠ 64) := by simp [hl]
  have hf := bytes_HasPrefix x mag4
  have hm4 : numB .u8 mag4 = numB .u8 [102, 115, 116, 49] := rfl
  rw [hm4] at hf
  rw [hxx] at op hx
  by_cases hp : mag4 <+: x
  rotate_left
  · rw [toldV_zero (n := 21) (by unfold Sup.told; rw [if_neg htold, if_pos (.inr (.inl (by rw [hxx]; exact hp)))])]
    rw [decide_eq_false hp] at hf
    refine aFun_body Tryd.func16 rfl rfl (by simp [Tryd.ntmps16]) fun hreal h nx hfresh => ?_
    rw [Tryd.ntmps16]
    have FX := Fx.mk (And.intro @dl <| And.intro @d0 <| And.intro @Bool.not_true <| @Bool.not_false)
    repeat (first | refine lit_ ?_ Tryd.underlying31 Tryd.underlying5 | refine v_ ?_ | refine u_ ?_ | refine f_ (op) fun kf hkf => ?_ | refine nl_ ?_ | (refine nz_ ?_; first | (show aWp _ _ _ _ _) | skip) | refine sq_ ?_ | refine rg_ ?_ | refine k_ ?_ | refine ct_ ?_ | refine cf_ ?_ | refine bk_ ?_ | refine sc_ ?_ | (refine sk_ ?_; first | (show aWp _ _ _ _ _) | skip) | (refine ex_ ?_; first | (show aWp _ _ _ _ _) | skip) | refine rt_ ?_)
    have FX := Fx0; refine fz_ 27 ?_
    have FX := Fx.mk (And.intro @dl <| And.intro @d0 <| And.intro @Bool.not_true <| @Bool.not_false)
    repeat (first | refine v_ ?_ | refine u_ ?_ | refine f_ (hf) fun kf hkf => ?_ | refine nl_ ?_ | (refine nz_ ?_; first | (show aWp _ _ _ _ _) | skip) | refine sq_ ?_ | refine rg_ ?_ | refine k_ ?_ | refine ct_ ?_ | refine cf_ ?_ | refine bk_ ?_ | refine sc_ ?_ | (refine sk_ ?_; first | (show aWp _ _ _ _ _) | skip) | (refine ex_ ?_; first | (show aWp _ _ _ _ _) | skip) | refine rt_ ?_)
    (have FX := Fx0; exact end_ Tryd.results16)
  rw [decide_eq_true hp] at hf
  have ht := bytes_Trim (x.drop 40)
  have e0 : ∀ tm : Nat → AV, evA tm (.const (.string { data := #[0] })) = .str [0] := fun _ => rfl
  have hx60 : (x.take 60).drop 40 = x.drop 40 := by rw [List.take_of_length_le (by omega)]
  have hxi : (x.length : Int) = 60 := by omega
  have i40 : Int.toNat 40 = 40 := rfl
  have l40 : (40 : Int) ≤ (x.length : Int) := by omega
  by_cases hz : ∀ y ∈ x.drop 40, y = 0
  rotate_left
  · rw [toldV_zero (n := 21) (by unfold Sup.told; rw [if_neg htold, if_pos (.inr (.inr (by rw [hxx]; exact hz)))])]
    have hne : trimZ (x.drop 40) ≠ [] := fun q => hz ((trimZ_none _).1 q)
    have dt : decide (0 < ((trimZ (x.drop 40)).length : Int)) = true := decide_eq_true (by
      have : (trimZ (x.drop 40)).length ≠ 0 := fun q => hne (List.eq_nil_of_length_eq_zero q)
      omega)
    refine aFun_body Tryd.func16 rfl rfl (by simp [Tryd.ntmps16]) fun hreal h nx hfresh => ?_
    rw [Tryd.ntmps16]
    have FX := Fx.mk (And.intro @dl <| And.intro @d0 <| And.intro @Bool.not_true <| @Bool.not_false)
    repeat (first | refine lit_ ?_ Tryd.underlying31 Tryd.underlying5 | refine v_ ?_ | refine u_ ?_ | refine f_ (op) fun kf hkf => ?_ | refine nl_ ?_ | (refine nz_ ?_; first | (show aWp _ _ _ _ _) | skip) | refine sq_ ?_ | refine rg_ ?_ | refine k_ ?_ | refine ct_ ?_ | refine cf_ ?_ | refine bk_ ?_ | refine sc_ ?_ | (refine sk_ ?_; first | (show aWp _ _ _ _ _) | skip) | (refine ex_ ?_; first | (show aWp _ _ _ _ _) | skip) | refine rt_ ?_)
    have FX := Fx0; refine fz_ 27 ?_
    have FX := Fx.mk (And.intro @dl <| And.intro @d0 <| And.intro @Bool.not_true <| And.intro @Bool.not_false <| And.intro @e0 <| And.intro @i40 <| And.intro @l40 <| @dt)
    repeat (first | refine v_ ?_ | refine u_ ?_ | refine f_ (hf) fun kf hkf => ?_ | refine f_ (ht) fun kf hkf => ?_ | refine nl_ ?_ | (refine nz_ ?_; first | (show aWp _ _ _ _ _) | skip) | refine sq_ ?_ | refine rg_ ?_ | refine k_ ?_ | refine ct_ ?_ | refine cf_ ?_ | refine bk_ ?_ | refine sc_ ?_ | (refine sk_ ?_; first | (show aWp _ _ _ _ _) | skip) | (refine ex_ ?_; first | (show aWp _ _ _ _ _) | skip) | refine rt_ ?_)
    (have FX := Fx0; exact end_ Tryd.results16)
  have hze : trimZ (x.drop 40) = [] := (trimZ_none _).2 hz
  rw [hze] at ht
  have dt : decide ((0 : Int) < ((0 : Nat) : Int)) = false := rfl
  have htv : Sup.told b = if (Sup.raw x).ok then (Sup.raw x, 0) else (Sup.zero, 4) := by
    unfold Sup.told
    rw [if_neg htold, if_neg (by rw [hxx, ho]; simp only [not_or, Classical.not_not, ne_eq]; exact ⟨trivial, hp, hz⟩), hxx]
  have cz : ([AV.int .i64 0, .int .i64 0, .int .i64 0, .int .i64 0, .int .i64 0, .int .i64 0, .int .i64 0] : List AV) = Sup.zero.cells := rfl
  refine aFun_body Tryd.func16 rfl rfl (by simp [Tryd.ntmps16]) fun hreal h nx hfresh => ?_
  rw [Tryd.ntmps16]
  have FX := Fx.mk (And.intro @dl <| And.intro @d0 <| And.intro @Bool.not_true <| @Bool.not_false)
  repeat (first | refine lit_ ?_ Tryd.underlying31 Tryd.underlying5 | refine v_ ?_ | refine u_ ?_ | refine f_ (op) fun kf hkf => ?_ | refine nl_ ?_ | (refine nz_ ?_; first | (show aWp _ _ _ _ _) | skip) | refine sq_ ?_ | refine rg_ ?_ | refine k_ ?_ | refine ct_ ?_ | refine cf_ ?_ | refine bk_ ?_ | refine sc_ ?_ | (refine sk_ ?_; first | (show aWp _ _ _ _ _) | skip) | (refine ex_ ?_; first | (show aWp _ _ _ _ _) | skip) | refine rt_ ?_)
  have FX := Fx0; refine fz_ 27 ?_
  have FX := Fx.mk (And.intro @dl <| And.intro @d0 <| And.intro @Bool.not_true <| And.intro @Bool.not_false <| And.intro @e0 <| And.intro @i40 <| And.intro @l40 <| @dt)
  repeat (first | refine v_ ?_ | refine u_ ?_ | refine f_ (hf) fun kf hkf => ?_ | refine f_ (ht) fun kf hkf => ?_ | refine nl_ ?_ | (refine nz_ ?_; first | (show aWp _ _ _ _ _) | skip) | refine sq_ ?_ | refine rg_ ?_ | refine k_ ?_ | refine ct_ ?_ | refine cf_ ?_ | refine bk_ ?_ | refine sc_ ?_ | (refine sk_ ?_; first | (show aWp _ _ _ _ _) | skip) | (refine ex_ ?_; first | (show aWp _ _ _ _ _) | skip) | refine rt_ ?_)
  obtain ⟨m6, rfl⟩ : ∃ p, p = kf := ⟨kf, rfl⟩
  have hm6 := hkf
  have FX := Fx0
  repeat (first | refine v_ ?_ | refine u_ ?_ | refine oh_ (super_fields Sup.zero m6 (by exact cl_)) fun mf kf hmf hkf => ?_ | refine nl_ ?_ | (refine nz_ ?_; first | (show aWp _ _ _ _ _) | skip) | refine sq_ ?_ | refine rg_ ?_ | refine k_ ?_ | refine ct_ ?_ | refine cf_ ?_ | refine bk_ ?_ | refine sc_ ?_ | (refine sk_ ?_; first | (show aWp _ _ _ _ _) | skip) | (refine ex_ ?_; first | (show aWp _ _ _ _ _) | skip) | refine rt_ ?_)
  have fln : (Sup.fld m6 Sup.zero.p).length = 7 := rfl
  obtain ⟨M, hM⟩ : ∃ M : Int, M = 9223372036854775807 := ⟨_, rfl⟩
  refine W_loopK [2, 4, 6, 39, 40] m6 (fun r tm h q => ∃ i : Nat, i ≤ 7 ∧ r = 7 - i ∧ tm 41 = .int .i64 i ∧ tm 7 = .int .i64 (4 + Sup.off i : Nat) ∧ kf ≤ q ∧ h m6 = some ⟨7, [(Sup.part M x i).cells]⟩ ∧ h mf = some ⟨4, Sup.fld m6 Sup.zero.p⟩) 7 (by omega) ⟨0, by omega, rfl, by (have FX := Fx0; exact cl_), by (have FX := Fx0; exact cl_), by omega, by (have FX := Fx0; exact cl_), by (have FX := Fx0; exact cl_)⟩ ?_
  rintro r tm' h' k' ⟨i, hi, rfl, h41, h7, m4, b1, b2⟩ hag hh hk'
  have b0 : h' nx = some ⟨7, [[.int .i64 0, .int .i64 0, .int .i64 0, .int .i64 0, .int .i64 0, .int .i64 0, .int .i64 0]]⟩ := by rw [hh nx (by omega)]; (have FX := Fx0; exact cl_)
  by_cases hlt : i < 7
  · have f0 := Sup.fld_get m6 Sup.zero.p i hlt
    have hd : decide ((i : Int) < ((7 : Nat) : Int)) = true := decide_eq_true (by omega)
    have hw : IntKind.i64.wrap (i + 1) = ((i + 1 : Nat) : Int) := by rw [wrapI] <;> omega
    have hi7 : (i : Int) < ((7 : Nat) : Int) := by omega
    have wi := Sup.width_in i hlt
    have hot := Sup.off_succ i hlt
    have hof := Sup.off_le (i + 1)
    have hg := octets_Get x (4 + Sup.off i : Nat) (Sup.width i : Nat)
    have hgs : Pl.getS x (4 + Sup.off i : Nat) (Sup.width i : Nat) = (Sup.num x i, 0) := by
      unfold Pl.getS
      rw [if_neg (by omega), if_neg (by omega), if_neg (by omega), Sup.num_eq x i hlt, Int.toNat_natCast, Int.toNat_natCast]
    rw [hgs] at hg
    have n0 := Sup.num_nonneg x i hlt
    have hcl : (if 9223372036854775807 < Sup.num x i then 9223372036854775807 else Sup.num x i) = Sup.clampN M (Sup.num x i) := by rw [hM]; rfl
    have hcw : IntKind.i64.wrap (Sup.clampN M (Sup.num x i)) = Sup.clampN M (Sup.num x i) := by
      rw [wrapI] <;> unfold Sup.clampN <;> split <;> omega
    have hwa : IntKind.i64.wrap (((4 + Sup.off i : Nat) : Int) + ((Sup.width i : Nat) : Int)) = ((4 + Sup.off (i + 1) : Nat) : Int) := by rw [wrapI] <;> omega
    have cl7 : (Sup.part M x i).cells.length = 7 := rfl
    have hput := (Sup.part M x i).cells_put i hlt (Sup.clampN M (Sup.num x i))
    have hi71 : i + 1 ≤ 7 := by omega
    have FX := Fx.mk (And.intro @hag <| And.intro @h41 <| And.intro @h7 <| And.intro @fln <| And.intro @b1 <| And.intro @b2 <| And.intro @hd <| And.intro @f0 <| And.intro @hw <| And.intro @hcl <| And.intro @hcw <| And.intro @hwa <| And.intro @cl7 <| And.intro @hput <| @NL)
    repeat (first | refine v_ ?_ | refine u_ ?_ | refine f_ (hg) fun kf hkf => ?_ | refine nl_ ?_ | (refine nz_ ?_; first | (show aWp _ _ _ _ _) | skip) | refine sq_ ?_ | refine rg_ ?_ | refine k_ ?_ | refine ct_ ?_ | refine cf_ ?_ | refine bk_ ?_ | refine sc_ ?_ | (refine sk_ ?_; first | (show aWp _ _ _ _ _) | skip) | (refine ex_ ?_; first | (show aWp _ _ _ _ _) | skip) | refine rt_ ?_)
    refine ⟨7 - (i + 1), by omega, ⟨i + 1, by omega, rfl, by (have FX := Fx0; exact cl_), by (have FX := Fx0; exact cl_), by first | omega | (simp only; omega), ?_, by (have FX := Fx.mk (@b2); exact cl_)⟩, ?_, ?_, by first | omega | (simp only; omega), rfl⟩
    · show upd _ m6 _ m6 = _
      rw [upd_same]
      rfl
    · repeat (refine KAgree.upd rfl ?_)
      first | exact KAgree.refl _ _ | exact hag
    · exact (by have FX := Fx.mk (@hh); exact ha_)
  obtain rfl : i = 7 := by omega
  have hd : decide (((7 : Nat) : Int) < ((7 : Nat) : Int)) = false := rfl
  rw [Sup.part_all] at b1
  have cl7 : (Sup.clamp M (Sup.raw x)).cells.length = 7 := rfl
  have t7 : (Sup.clamp M (Sup.raw x)).cells.take 7 = (Sup.clamp M (Sup.raw x)).cells := rfl
  have ck := super_Check (Sup.clamp M (Sup.raw x))
  unfold Sup.av at ck
  have ce := (rfl : (Sup.clamp M (Sup.raw x)).cells = (Sup.clamp M (Sup.raw x)).cells)
  have hco := Sup.clamp_ok M (by omega) (Sup.raw x)
  by_cases hok : (Sup.raw x).ok
  · rw [Sup.clamp_eq M (by omega) _ hok] at b1 ck cl7 t7
    rw [show (Sup.raw x).chk = 0 from if_pos hok] at ck
    rw [if_pos hok] at htv
    have FX := Fx.mk (And.intro @hag <| And.intro @h41 <| And.intro @fln <| And.intro @b1 <| And.intro @b0 <| And.intro @hd <| And.intro @cl7 <| And.intro @t7 <| And.intro @d0 <| @Bool.not_true)
    repeat (first | refine v_ ?_ | refine u_ ?_ | refine f_ (ck) fun kf hkf => ?_ | refine nl_ ?_ | (refine nz_ ?_; first | (show aWp _ _ _ _ _) | skip) | refine sq_ ?_ | refine rg_ ?_ | refine k_ ?_ | refine ct_ ?_ | refine cf_ ?_ | refine bk_ ?_ | refine sc_ ?_ | (refine sk_ ?_; first | (show aWp _ _ _ _ _) | skip) | (refine ex_ ?_; first | (show aWp _ _ _ _ _) | skip) | refine rt_ ?_)
    have hfz : ∀ h2 : AHeap, frzL nx h2 (Sup.raw x).cells = some (Sup.raw x).cells := fun _ => rfl
    have hv : Sup.toldV b = .tup [.agg (Sup.raw x).cells, .int .i64 0] := by unfold Sup.toldV; rw [htv]; rfl
    rw [hv]
    (have FX := Fx.mk (And.intro @hag <| And.intro @cl7 <| And.intro @t7 <| And.intro @hfz <| @hh); exact end_ Tryd.results16)
  · rw [show (Sup.clamp M (Sup.raw x)).chk = 4 from if_neg (fun q => hok (hco.1 q))] at ck
    rw [if_neg hok] at htv
    rw [toldV_zero htv]
    have d4 : decide ((4 : Int) = 0) = false := rfl
    have FX := Fx.mk (And.intro @hag <| And.intro @h41 <| And.intro @fln <| And.intro @b1 <| And.intro @b0 <| And.intro @hd <| And.intro @cl7 <| And.intro @t7 <| And.intro @d4 <| @Bool.not_false)
    repeat (first | refine v_ ?_ | refine u_ ?_ | refine f_ (ck) fun kf hkf => ?_ | refine nl_ ?_ | (refine nz_ ?_; first | (show aWp _ _ _ _ _) | skip) | refine sq_ ?_ | refine rg_ ?_ | refine k_ ?_ | refine ct_ ?_ | refine cf_ ?_ | refine bk_ ?_ | refine sc_ ?_ | (refine sk_ ?_; first | (show aWp _ _ _ _ _) | skip) | (refine ex_ ?_; first | (show aWp _ _ _ _ _) | skip) | refine rt_ ?_)
    (have FX := Fx.mk (And.intro @hag <| And.intro @b0 <| @hh); exact end_ Tryd.results16)
/-- The newer of two. -/
def Sup.newer (a b : List Int) : Sup × Int × Int :=
  if (Sup.told a).2 ≠ 0 ∧ (Sup.told b).2 ≠ 0 then (Sup.zero, 0, 21)
  else if (Sup.told a).2 ≠ 0 ∨ ((Sup.told b).2 = 0 ∧ (Sup.told a).1.e < (Sup.told b).1.e) then ((Sup.told b).1, 1, 0) else ((Sup.told a).1, 0, 0)
def Sup.newerV (a b : List Int) : AV := .tup [(Sup.newer a b).1.av, .int .i64 (Sup.newer a b).2.1, .int .i64 (Sup.newer a b).2.2]
theorem super_Newest (a b : List Int) : aFun Tryd.prog 21 [.sl (numB .u8 a), .sl (numB .u8 b)] (Sup.newerV a b) := by
  have da := super_Decode a
  have db := super_Decode b
  unfold Sup.toldV at da db
  have q0 : decide ((0 : Int) = 0) = true := rfl
  have q1 : decide ((0 : Int) < 2) = true := rfl
  have q2 : decide ((1 : Int) < 2) = true := rfl
  have q3 : decide ((2 : Int) < 2) = false := rfl
  have q4 : decide ((-1 : Int) < 0) = true := rfl
  have q5 : decide ((0 : Int) < 0) = false := rfl
  have q6 : decide ((1 : Int) < 0) = false := rfl
  have w1 : IntKind.i64.wrap (0 + 1) = 1 := rfl
  have w2 : IntKind.i64.wrap (1 + 1) = 2 := rfl
  have zr : Sup.zero.cells = [.int .i64 0, .int .i64 0, .int .i64 0, .int .i64 0, .int .i64 0, .int .i64 0, .int .i64 0] := rfl
  have ca : (Sup.told a).1.av = .agg [.int .i64 (Sup.told a).1.e, .int .i64 (Sup.told a).1.v, .int .i64 (Sup.told a).1.j, .int .i64 (Sup.told a).1.p, .int .i64 (Sup.told a).1.d, .int .i64 (Sup.told a).1.s, .int .i64 (Sup.told a).1.r] := rfl
  have cb : (Sup.told b).1.av = .agg [.int .i64 (Sup.told b).1.e, .int .i64 (Sup.told b).1.v, .int .i64 (Sup.told b).1.j, .int .i64 (Sup.told b).1.p, .int .i64 (Sup.told b).1.d, .int .i64 (Sup.told b).1.s, .int .i64 (Sup.told b).1.r] := rfl
  rw [ca] at da
  rw [cb] at db
  unfold Sup.newerV Sup.newer
  by_cases ha : (Sup.told a).2 = 0
  · rw [if_neg (by simp [ha])]
    rw [ha] at da
    by_cases hb : (Sup.told b).2 = 0
    · rw [hb] at db
      by_cases hlt : (Sup.told a).1.e < (Sup.told b).1.e
      · rw [if_pos (.inr ⟨hb, hlt⟩)]
        have e1 : decide ((Sup.told a).1.e < (Sup.told b).1.e) = true := decide_eq_true hlt
        rw [cb]
        refine aFun_body Tryd.func21 rfl rfl (by simp [Tryd.ntmps21]) fun hreal h nx hfresh => ?_
        rw [Tryd.ntmps21]
        have FX := Fx0
        repeat (first | refine v_ ?_ | refine u_ ?_ | refine nl_ ?_ | (refine nz_ ?_; first | (show aWp _ _ _ _ _) | skip) | refine sq_ ?_ | refine rg_ ?_ | refine k_ ?_ | refine ct_ ?_ | refine cf_ ?_ | refine bk_ ?_ | refine sc_ ?_ | (refine sk_ ?_; first | (show aWp _ _ _ _ _) | skip) | (refine ex_ ?_; first | (show aWp _ _ _ _ _) | skip) | refine rt_ ?_)
        refine aWp_rounds 3 ?_
        show aWp _ _ _ _ _
        have FX := Fx.mk (And.intro @q0 <| And.intro @q1 <| And.intro @q2 <| And.intro @q3 <| And.intro @q4 <| And.intro @q5 <| And.intro @q6 <| And.intro @w1 <| And.intro @w2 <| And.intro @e1 <| And.intro @Bool.not_true <| And.intro @Bool.not_false <| @decide_true)
        repeat (first | refine v_ ?_ | refine u_ ?_ | refine f_ (da) fun kf hkf => ?_ | refine f_ (db) fun kf hkf => ?_ | refine nl_ ?_ | (refine nz_ ?_; first | (show aWp _ _ _ _ _) | skip) | refine sq_ ?_ | refine rg_ ?_ | refine k_ ?_ | refine ct_ ?_ | refine cf_ ?_ | refine bk_ ?_ | refine sc_ ?_ | (refine sk_ ?_; first | (show aWp _ _ _ _ _) | skip) | (refine ex_ ?_; first | (show aWp _ _ _ _ _) | skip) | refine rt_ ?_)
        (have FX := Fx0; exact end_ Tryd.results21)
      · rw [if_neg (by rintro (q | ⟨_, q⟩) <;> simp_all)]
        have e1 : decide ((Sup.told a).1.e < (Sup.told b).1.e) = false := decide_eq_false hlt
        rw [ca]
        refine aFun_body Tryd.func21 rfl rfl (by simp [Tryd.ntmps21]) fun hreal h nx hfresh => ?_
        rw [Tryd.ntmps21]
        have FX := Fx0
        repeat (first | refine v_ ?_ | refine u_ ?_ | refine nl_ ?_ | (refine nz_ ?_; first | (show aWp _ _ _ _ _) | skip) | refine sq_ ?_ | refine rg_ ?_ | refine k_ ?_ | refine ct_ ?_ | refine cf_ ?_ | refine bk_ ?_ | refine sc_ ?_ | (refine sk_ ?_; first | (show aWp _ _ _ _ _) | skip) | (refine ex_ ?_; first | (show aWp _ _ _ _ _) | skip) | refine rt_ ?_)
        refine aWp_rounds 3 ?_
        show aWp _ _ _ _ _
        have FX := Fx.mk (And.intro @q0 <| And.intro @q1 <| And.intro @q2 <| And.intro @q3 <| And.intro @q4 <| And.intro @q5 <| And.intro @q6 <| And.intro @w1 <| And.intro @w2 <| And.intro @e1 <| And.intro @Bool.not_true <| And.intro @Bool.not_false <| @decide_true)
        repeat (first | refine v_ ?_ | refine u_ ?_ | refine f_ (da) fun kf hkf => ?_ | refine f_ (db) fun kf hkf => ?_ | refine nl_ ?_ | (refine nz_ ?_; first | (show aWp _ _ _ _ _) | skip) | refine sq_ ?_ | refine rg_ ?_ | refine k_ ?_ | refine ct_ ?_ | refine cf_ ?_ | refine bk_ ?_ | refine sc_ ?_ | (refine sk_ ?_; first | (show aWp _ _ _ _ _) | skip) | (refine ex_ ?_; first | (show aWp _ _ _ _ _) | skip) | refine rt_ ?_)
        (have FX := Fx0; exact end_ Tryd.results21)
    · rw [if_neg (by rintro (q | ⟨q, _⟩) <;> simp_all)]
      have e1 : decide ((Sup.told b).2 = 0) = false := decide_eq_false hb
      rw [ca]
      refine aFun_body Tryd.func21 rfl rfl (by simp [Tryd.ntmps21]) fun hreal h nx hfresh => ?_
      rw [Tryd.ntmps21]
      have FX := Fx0
      repeat (first | refine v_ ?_ | refine u_ ?_ | refine nl_ ?_ | (refine nz_ ?_; first | (show aWp _ _ _ _ _) | skip) | refine sq_ ?_ | refine rg_ ?_ | refine k_ ?_ | refine ct_ ?_ | refine cf_ ?_ | refine bk_ ?_ | refine sc_ ?_ | (refine sk_ ?_; first | (show aWp _ _ _ _ _) | skip) | (refine ex_ ?_; first | (show aWp _ _ _ _ _) | skip) | refine rt_ ?_)
      refine aWp_rounds 3 ?_
      show aWp _ _ _ _ _
      have FX := Fx.mk (And.intro @q0 <| And.intro @q1 <| And.intro @q2 <| And.intro @q3 <| And.intro @q4 <| And.intro @q5 <| And.intro @q6 <| And.intro @w1 <| And.intro @w2 <| And.intro @e1 <| And.intro @Bool.not_true <| And.intro @Bool.not_false <| @decide_true)
      repeat (first | refine v_ ?_ | refine u_ ?_ | refine f_ (da) fun kf hkf => ?_ | refine f_ (db) fun kf hkf => ?_ | refine nl_ ?_ | (refine nz_ ?_; first | (show aWp _ _ _ _ _) | skip) | refine sq_ ?_ | refine rg_ ?_ | refine k_ ?_ | refine ct_ ?_ | refine cf_ ?_ | refine bk_ ?_ | refine sc_ ?_ | (refine sk_ ?_; first | (show aWp _ _ _ _ _) | skip) | (refine ex_ ?_; first | (show aWp _ _ _ _ _) | skip) | refine rt_ ?_)
      (have FX := Fx0; exact end_ Tryd.results21)
  · have e0 : decide ((Sup.told a).2 = 0) = false := decide_eq_false ha
    by_cases hb : (Sup.told b).2 = 0
    · rw [if_neg (by simp [hb]), if_pos (.inl ha)]
      rw [hb] at db
      rw [cb]
      refine aFun_body Tryd.func21 rfl rfl (by simp [Tryd.ntmps21]) fun hreal h nx hfresh => ?_
      rw [Tryd.ntmps21]
      have FX := Fx0
      repeat (first | refine v_ ?_ | refine u_ ?_ | refine nl_ ?_ | (refine nz_ ?_; first | (show aWp _ _ _ _ _) | skip) | refine sq_ ?_ | refine rg_ ?_ | refine k_ ?_ | refine ct_ ?_ | refine cf_ ?_ | refine bk_ ?_ | refine sc_ ?_ | (refine sk_ ?_; first | (show aWp _ _ _ _ _) | skip) | (refine ex_ ?_; first | (show aWp _ _ _ _ _) | skip) | refine rt_ ?_)
      refine aWp_rounds 3 ?_
      show aWp _ _ _ _ _
      have FX := Fx.mk (And.intro @e0 <| And.intro @q0 <| And.intro @q1 <| And.intro @q2 <| And.intro @q3 <| And.intro @q4 <| And.intro @q5 <| And.intro @q6 <| And.intro @w1 <| And.intro @w2 <| And.intro @Bool.not_true <| And.intro @Bool.not_false <| @decide_true)
      repeat (first | refine v_ ?_ | refine u_ ?_ | refine f_ (da) fun kf hkf => ?_ | refine f_ (db) fun kf hkf => ?_ | refine nl_ ?_ | (refine nz_ ?_; first | (show aWp _ _ _ _ _) | skip) | refine sq_ ?_ | refine rg_ ?_ | refine k_ ?_ | refine ct_ ?_ | refine cf_ ?_ | refine bk_ ?_ | refine sc_ ?_ | (refine sk_ ?_; first | (show aWp _ _ _ _ _) | skip) | (refine ex_ ?_; first | (show aWp _ _ _ _ _) | skip) | refine rt_ ?_)
      (have FX := Fx0; exact end_ Tryd.results21)
    · rw [if_pos ⟨ha, hb⟩]
      have e1 : decide ((Sup.told b).2 = 0) = false := decide_eq_false hb
      unfold Sup.av
      rw [zr]
      refine aFun_body Tryd.func21 rfl rfl (by simp [Tryd.ntmps21]) fun hreal h nx hfresh => ?_
      rw [Tryd.ntmps21]
      have FX := Fx0
      repeat (first | refine v_ ?_ | refine u_ ?_ | refine nl_ ?_ | (refine nz_ ?_; first | (show aWp _ _ _ _ _) | skip) | refine sq_ ?_ | refine rg_ ?_ | refine k_ ?_ | refine ct_ ?_ | refine cf_ ?_ | refine bk_ ?_ | refine sc_ ?_ | (refine sk_ ?_; first | (show aWp _ _ _ _ _) | skip) | (refine ex_ ?_; first | (show aWp _ _ _ _ _) | skip) | refine rt_ ?_)
      refine aWp_rounds 3 ?_
      show aWp _ _ _ _ _
      have FX := Fx.mk (And.intro @e0 <| And.intro @e1 <| And.intro @q0 <| And.intro @q1 <| And.intro @q2 <| And.intro @q3 <| And.intro @q4 <| And.intro @q5 <| And.intro @q6 <| And.intro @w1 <| And.intro @w2 <| And.intro @Bool.not_true <| And.intro @Bool.not_false <| @decide_true)
      repeat (first | refine v_ ?_ | refine u_ ?_ | refine f_ (da) fun kf hkf => ?_ | refine f_ (db) fun kf hkf => ?_ | refine nl_ ?_ | (refine nz_ ?_; first | (show aWp _ _ _ _ _) | skip) | refine sq_ ?_ | refine rg_ ?_ | refine k_ ?_ | refine ct_ ?_ | refine cf_ ?_ | refine bk_ ?_ | refine sc_ ?_ | (refine sk_ ?_; first | (show aWp _ _ _ _ _) | skip) | (refine ex_ ?_; first | (show aWp _ _ _ _ _) | skip) | refine rt_ ?_)
      (have FX := Fx0; exact end_ Tryd.results21)
end Go.Proofs.YtnlanfcboiemaaaDoor.AE
