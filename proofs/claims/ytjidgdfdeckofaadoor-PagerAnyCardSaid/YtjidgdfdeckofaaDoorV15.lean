/- Texts S5, S7, H0. -/
import Derived.Test.YtjidgdfdeckofaaDoorV14
import Derived.Test.YtjidgdfdeckofaaDoorV9
import Derived.Test.YtjidgdfdeckofaaDoorV10
import Derived.Test.YtjidgdfdeckofaaDoorV5
/- Layer 4 and its page: Encode. -/
namespace Go.Proofs.YtjidgdfdeckofaaDoor.AE
open Go Go.RowKit Go.Proofs Go.Proofs.YtjidgdfdeckofaaDoor
set_option linter.unusedVariables false
set_option linter.unusedSimpArgs false
set_option maxRecDepth 100000
set_option maxHeartbeats 8000000
theorem super_Encode_bad (s : Sup) (hno : ¬ s.ok) : aFun Tryd.prog 52 [s.av] (.tup [.sl [], .int .i64 4]) := by
  have ce : s.cells = [.int .i64 s.e, .int .i64 s.v, .int .i64 s.j, .int .i64 s.p, .int .i64 s.d, .int .i64 s.s, .int .i64 s.r] := rfl
  have ck := super_Check s
  rw [show s.chk = 4 from if_neg hno] at ck
  have d4 : decide ((4 : Int) = 0) = false := rfl
  unfold Sup.av at ck ⊢
  rw [ce] at ck ⊢
  refine aFun_body Tryd.func52 rfl rfl (by simp [Tryd.ntmps52]) fun hreal h nx hfresh => ?_
  rw [Tryd.ntmps52]
  have FX := Fx.mk (And.intro @d4 <| @Bool.not_false)
  repeat (first | refine v_ ?_ | refine u_ ?_ | refine f_ (ck) fun kf hkf => ?_ | refine nl_ ?_ | (refine nz_ ?_; first | (show aWp _ _ _ _ _) | skip) | refine sq_ ?_ | refine rg_ ?_ | refine k_ ?_ | refine ct_ ?_ | refine cf_ ?_ | refine bk_ ?_ | refine sc_ ?_ | (refine sk_ ?_; first | (show aWp _ _ _ _ _) | skip) | (refine ex_ ?_; first | (show aWp _ _ _ _ _) | skip) | refine rt_ ?_)
  (have FX := Fx0; exact end_ Tryd.results52)
theorem super_Encode (s : Sup) (hok : s.ok) : aOwnM Tryd.prog 52 [s.av] (fun v => .tup [v, .int .i64 0]) 1 (numB .u8 s.sector) := by
  have ce : s.cells = [.int .i64 s.e, .int .i64 s.v, .int .i64 s.j, .int .i64 s.p, .int .i64 s.d, .int .i64 s.s, .int .i64 s.r] := rfl
  have ck := super_Check s
  rw [show s.chk = 0 from if_pos hok] at ck
  have d0 : decide ((0 : Int) = 0) = true := rfl
  unfold Sup.av at ck ⊢
  rw [ce] at ck ⊢
  refine aOwnM_body Tryd.func52 rfl rfl (by simp [Tryd.ntmps52]) fun hreal h nx hfresh => ?_
  rw [Tryd.ntmps52]
  have FX := Fx.mk (And.intro @d0 <| @Bool.not_true)
  repeat (first | refine lit_ ?_ Tryd.underlying40 Tryd.underlying5 | refine v_ ?_ | refine u_ ?_ | refine f_ (ck) fun kf hkf => ?_ | refine nl_ ?_ | (refine nz_ ?_; first | (show aWp _ _ _ _ _) | skip) | refine sq_ ?_ | refine rg_ ?_ | refine k_ ?_ | refine ct_ ?_ | refine cf_ ?_ | refine bk_ ?_ | refine sc_ ?_ | (refine sk_ ?_; first | (show aWp _ _ _ _ _) | skip) | (refine ex_ ?_; first | (show aWp _ _ _ _ _) | skip) | refine rt_ ?_)
  obtain ⟨kc, rfl⟩ : ∃ p, p = kf := ⟨kf, rfl⟩
  have hkc := hkf
  rw [← ce]
  have FX := Fx0
  repeat (first | refine v_ ?_ | refine u_ ?_ | refine oh_ (super_fields s nx (by exact cl_)) fun mf kf hmf hkf => ?_ | refine nl_ ?_ | (refine nz_ ?_; first | (show aWp _ _ _ _ _) | skip) | refine sq_ ?_ | refine rg_ ?_ | refine k_ ?_ | refine ct_ ?_ | refine cf_ ?_ | refine bk_ ?_ | refine sc_ ?_ | (refine sk_ ?_; first | (show aWp _ _ _ _ _) | skip) | (refine ex_ ?_; first | (show aWp _ _ _ _ _) | skip) | refine rt_ ?_)
  have fln : (Sup.fld nx s.p).length = 7 := rfl
  refine W_loopK [1, 17, 18] kc (fun r tm h q => ∃ i m : Nat, i ≤ 7 ∧ r = 7 - i ∧ tm 19 = .int .i64 i ∧ kc ≤ m ∧ m < q ∧ m ≠ mf ∧ kf ≤ q ∧ tm 5 = .hs m 0 (s.head i).length ∧ h m = some ⟨1, numB .u8 (s.head i)⟩ ∧ h mf = some ⟨4, Sup.fld nx s.p⟩) 7 (by omega) ⟨0, kc, by omega, rfl, by (have FX := Fx0; exact cl_), by omega, by omega, by omega, by omega, by (have FX := Fx0; exact cl_), by (have FX := Fx0; exact cl_), by (have FX := Fx0; exact cl_)⟩ ?_
  rintro r tm' h' k' ⟨i, m, hi, rfl, h19, m1, m2, m3, m4, h5, b3, b2⟩ hag hh hk'
  have b1 : h' nx = some ⟨7, [s.cells]⟩ := by rw [hh nx (by omega)]; (have FX := Fx0; exact cl_)
  have hln := s.head_len i hi
  by_cases hlt : i < 7
  · have f0 := Sup.fld_get nx s.p i hlt
    have f1 := Sup.cells_drop s i hlt
    have hd : decide ((i : Int) < ((7 : Nat) : Int)) = true := decide_eq_true (by omega)
    have hw : IntKind.i64.wrap (i + 1) = ((i + 1 : Nat) : Int) := by rw [wrapI] <;> omega
    have hi7 : (i : Int) < ((7 : Nat) : Int) := by omega
    have vf := Sup.val_fits hok i hlt
    have wi := Sup.width_in i hlt
    have hp := octets_Put (s.val i) (Sup.width i : Nat)
    rw [Pl.putS_fits ⟨by omega, by omega⟩ (by simpa using vf.2)] at hp
    have hv : IntKind.u64.wrap (s.val i) = s.val i := by
      have := Pl.pow8 (show Sup.width i ≤ 8 by omega)
      rw [wrapU] <;> omega
    have hpl := Pl.putI_length (Sup.width i) (s.val i)
    have hot := Sup.off_succ i hlt
    have hhs := s.head_succ i hlt
    have hof := Sup.off_le (i + 1)
    have tn : ((Sup.width i : Nat) : Int).toNat = Sup.width i := by simp
    have FX := Fx.mk (And.intro @hag <| And.intro @h19 <| And.intro @fln <| And.intro @b1 <| And.intro @b2 <| And.intro @hd <| @f0)
    repeat (first | refine v_ ?_ | refine u_ ?_ | refine nl_ ?_ | (refine nz_ ?_; first | (show aWp _ _ _ _ _) | skip) | refine sq_ ?_ | refine rg_ ?_ | refine k_ ?_ | refine ct_ ?_ | refine cf_ ?_ | refine bk_ ?_ | refine sc_ ?_ | (refine sk_ ?_; first | (show aWp _ _ _ _ _) | skip) | (refine ex_ ?_; first | (show aWp _ _ _ _ _) | skip) | refine rt_ ?_)
    have FX := Fx.mk (And.intro @b1 <| And.intro @f1 <| And.intro @hv <| @NL)
    refine W_draw mixed rfl rfl ?_
    repeat (first | refine dq_ ?_ | refine df_ (hp) ?_ | refine dr_ [k', nx] ?_ | refine dm_ [k', nx] ?_ | refine da_ [k', nx] ?_ | refine ds_ [k', nx] ?_ | refine dw_ [k', nx] ?_ | refine dk_ ?_ | refine dn_ ?_)
    refine fun kd hkd => ?_
    simp only [List.length_cons, List.length_nil] at hkd
    first | (show aWp _ _ _ _ _) | skip
    have FX := Fx.mk (And.intro @hag <| And.intro @h19 <| And.intro @h5 <| And.intro @b3 <| And.intro @hw <| @tn)
    repeat (first | refine v_ ?_ | refine u_ ?_ | refine nl_ ?_ | (refine nz_ ?_; first | (show aWp _ _ _ _ _) | skip) | refine sq_ ?_ | refine rg_ ?_ | refine k_ ?_ | refine ct_ ?_ | refine cf_ ?_ | refine bk_ ?_ | refine sc_ ?_ | (refine sk_ ?_; first | (show aWp _ _ _ _ _) | skip) | (refine ex_ ?_; first | (show aWp _ _ _ _ _) | skip) | refine rt_ ?_)
    refine ⟨7 - (i + 1), by omega, ⟨i + 1, kd, by omega, rfl, by (have FX := Fx0; exact cl_), by omega, by first | omega | (simp only; omega), by omega, by first | omega | (simp only; omega), by (have FX := Fx.mk (@hhs); exact cl_), by (have FX := Fx.mk (@hhs); exact cl_), by (have FX := Fx.mk (@b2); exact cl_)⟩, ?_, ?_, by first | omega | (simp only; omega), rfl⟩
    · repeat (refine KAgree.upd rfl ?_)
      first | exact KAgree.refl _ _ | exact hag
    · exact (by have FX := Fx.mk (@hh); exact ha_)
  obtain rfl : i = 7 := by omega
  have hd : decide (((7 : Nat) : Int) < ((7 : Nat) : Int)) = false := rfl
  have hof : Sup.off 7 = 36 := rfl
  rw [hof] at hln
  have hl40 : (((s.head 7).length : Nat) : Int) = 40 := by omega
  have hw : IntKind.i64.wrap (60 - 40) = 20 := rfl
  have t20 : Int.toNat 20 = 20 := rfl
  have hse := crc_Seal (s.head 7 ++ List.replicate 20 0) (by rw [Sup.head7_len]; decide)
  have FX := Fx.mk (And.intro @hag <| And.intro @h19 <| And.intro @fln <| And.intro @hd <| And.intro @h5 <| And.intro @b3 <| And.intro @hl40 <| And.intro @hw <| @t20)
  repeat (first | refine v_ ?_ | refine u_ ?_ | refine nl_ ?_ | (refine nz_ ?_; first | (show aWp _ _ _ _ _) | skip) | refine sq_ ?_ | refine rg_ ?_ | refine k_ ?_ | refine ct_ ?_ | refine cf_ ?_ | refine bk_ ?_ | refine sc_ ?_ | (refine sk_ ?_; first | (show aWp _ _ _ _ _) | skip) | (refine ex_ ?_; first | (show aWp _ _ _ _ _) | skip) | refine rt_ ?_)
  have FX := Fx0; refine fz_ 43 ?_
  have FX := Fx0
  repeat (first | refine v_ ?_ | refine u_ ?_ | refine o_ (hse) fun mf kf hmf hkf => ?_ | refine nl_ ?_ | (refine nz_ ?_; first | (show aWp _ _ _ _ _) | skip) | refine sq_ ?_ | refine rg_ ?_ | refine k_ ?_ | refine ct_ ?_ | refine cf_ ?_ | refine bk_ ?_ | refine sc_ ?_ | (refine sk_ ?_; first | (show aWp _ _ _ _ _) | skip) | (refine ex_ ?_; first | (show aWp _ _ _ _ _) | skip) | refine rt_ ?_)
  have hsec : s.sector = Pl.sealS (s.head 7 ++ List.replicate 20 0) := rfl
  (have FX := Fx.mk (And.intro @hsec <| @hh); exact endm_ (mf) Tryd.results52)
#print axioms super_Encode
end Go.Proofs.YtjidgdfdeckofaaDoor.AE

/- Layer 4: Decode, Newest. -/
namespace Go.Proofs.YtjidgdfdeckofaaDoor.AE
open Go Go.RowKit Go.Proofs Go.Proofs.YtjidgdfdeckofaaDoor
set_option linter.unusedVariables false
set_option linter.unusedSimpArgs false
set_option maxRecDepth 100000
set_option maxHeartbeats 8000000
theorem open_len {b : List Int} (hl : b.length = 64) : Pl.openS b = ([], 21) ∨ ((Pl.openS b).2 = 0 ∧ (Pl.openS b).1.length = 60) := by
  unfold Pl.openS
  rw [if_neg (by omega)]
  split
  · exact .inl rfl
  · exact .inr ⟨rfl, by simp; omega⟩
def Sup.toldV (b : List Int) : AV := .tup [(Sup.told b).1.av, .int .i64 (Sup.told b).2]
theorem toldV_zero {b : List Int} {n : Int} (h : Sup.told b = (Sup.zero, n)) : Sup.toldV b = .tup [.agg [.int .i64 0, .int .i64 0, .int .i64 0, .int .i64 0, .int .i64 0, .int .i64 0, .int .i64 0], .int .i64 n] := by
  unfold Sup.toldV
  rw [h]
  rfl
theorem super_Decode (b : List Int) : aFun Tryd.prog 39 [.sl (numB .u8 b)] (Sup.toldV b) := by
  have d0 : decide ((0 : Int) = 0) = true := rfl
  have d21 : decide ((21 : Int) = 0) = false := rfl
  by_cases hl : b.length = 64
  rotate_left
  · rw [toldV_zero (n := 8) (by unfold Sup.told; rw [if_pos hl])]
    have dl : decide ((b.length : Int) = 64) = false := decide_eq_false (by omega)
    refine aFun_body Tryd.func39 rfl rfl (by simp [Tryd.ntmps39]) fun hreal h nx hfresh => ?_
    rw [Tryd.ntmps39]
    have FX := Fx.mk (And.intro @dl <| @Bool.not_false)
    repeat (first | refine v_ ?_ | refine u_ ?_ | refine nl_ ?_ | (refine nz_ ?_; first | (show aWp _ _ _ _ _) | skip) | refine sq_ ?_ | refine rg_ ?_ | refine k_ ?_ | refine ct_ ?_ | refine cf_ ?_ | refine bk_ ?_ | refine sc_ ?_ | (refine sk_ ?_; first | (show aWp _ _ _ _ _) | skip) | (refine ex_ ?_; first | (show aWp _ _ _ _ _) | skip) | refine rt_ ?_)
    (have FX := Fx0; exact end_ Tryd.results39)
  have dl : decide ((b.length : Int) = 64) = true := decide_eq_true (by omega)
  have op := crc_Open b (by omega)
  rcases open_len hl with ho | ⟨ho, hx⟩
  · rw [toldV_zero (n := 21) (by unfold Sup.told; rw [if_neg (by simp [hl]), if_pos (.inl (by rw [ho]; decide))])]
    rw [ho] at op
    refine aFun_body Tryd.func39 rfl rfl (by simp [Tryd.ntmps39]) fun hreal h nx hfresh => ?_
    rw [Tryd.ntmps39]
    have FX := Fx.mk (And.intro @dl <| And.intro @d21 <| And.intro @Bool.not_true <| @Bool.not_false)
    repeat (first | refine v_ ?_ | refine u_ ?_ | refine f_ (op) fun kf hkf => ?_ | refine nl_ ?_ | (refine nz_ ?_; first | (show aWp _ _ _ _ _) | skip) | refine sq_ ?_ | refine rg_ ?_ | refine k_ ?_ | refine ct_ ?_ | refine cf_ ?_ | refine bk_ ?_ | refine sc_ ?_ | (refine sk_ ?_; first | (show aWp _ _ _ _ _) | skip) | (refine ex_ ?_; first | (show aWp _ _ _ _ _) | skip) | refine rt_ ?_)
    (have FX := Fx0; exact end_ Tryd.results39)
  rw [ho] at op
  obtain ⟨x, hxx⟩ : ∃ x, (Pl.openS b).1 = x := ⟨_, rfl⟩
  have htold : ¬ (b.length ≠ 64) := by simp [hl]
  have hf := bytes_HasPrefix x mag4
  have hm4 : numB .u8 mag4 = numB .u8 [102, 115, 116, 49] := rfl
  rw [hm4] at hf
  rw [hxx] at op hx
  by_cases hp : mag4 <+: x
  rotate_left
  · rw [toldV_zero (n := 21) (by unfold Sup.told; rw [if_neg htold, if_pos (.inr (.inl (by rw [hxx]; exact hp)))])]
    rw [decide_eq_false hp] at hf
    refine aFun_body Tryd.func39 rfl rfl (by simp [Tryd.ntmps39]) fun hreal h nx hfresh => ?_
    rw [Tryd.ntmps39]
    have FX := Fx.mk (And.intro @dl <| And.intro @d0 <| And.intro @Bool.not_true <| @Bool.not_false)
    repeat (first | refine lit_ ?_ Tryd.underlying40 Tryd.underlying5 | refine v_ ?_ | refine u_ ?_ | refine f_ (op) fun kf hkf => ?_ | refine nl_ ?_ | (refine nz_ ?_; first | (show aWp _ _ _ _ _) | skip) | refine sq_ ?_ | refine rg_ ?_ | refine k_ ?_ | refine ct_ ?_ | refine cf_ ?_ | refine bk_ ?_ | refine sc_ ?_ | (refine sk_ ?_; first | (show aWp _ _ _ _ _) | skip) | (refine ex_ ?_; first | (show aWp _ _ _ _ _) | skip) | refine rt_ ?_)
    have FX := Fx0; refine fz_ 27 ?_
    have FX := Fx.mk (And.intro @dl <| And.intro @d0 <| And.intro @Bool.not_true <| @Bool.not_false)
    repeat (first | refine v_ ?_ | refine u_ ?_ | refine f_ (hf) fun kf hkf => ?_ | refine nl_ ?_ | (refine nz_ ?_; first | (show aWp _ _ _ _ _) | skip) | refine sq_ ?_ | refine rg_ ?_ | refine k_ ?_ | refine ct_ ?_ | refine cf_ ?_ | refine bk_ ?_ | refine sc_ ?_ | (refine sk_ ?_; first | (show aWp _ _ _ _ _) | skip) | (refine ex_ ?_; first | (show aWp _ _ _ _ _) | skip) | refine rt_ ?_)
    (have FX := Fx0; exact end_ Tryd.results39)
  rw [decide_eq_true hp] at hf
  have ht := bytes_Trim (x.drop 40)
  have e0 : ∀ tm : Nat → AV, evA tm (.const (.string { data := #[0] })) = .str [0] := fun _ => rfl
  have hx60 : (x.take 60).drop 40 = x.drop 40 := by rw [List.take_of_length_le (by omega)]
  have hxi : (x.length : Int) = 60 := by omega
  have i40 : Int.toNat 40 = 40 := rfl
  have l40 : (40 : Int) ≤ (x.length : Int) := by omega
  by_cases hz : ∀ y ∈ x.drop 40, y = 0
  rotate_left
  · rw [toldV_zero (n := 21) (by unfold Sup.told; rw [if_neg htold, if_pos (.inr (.inr (by rw [hxx]; exact hz)))])]
    have hne : trimZ (x.drop 40) ≠ [] := fun q => hz ((trimZ_none _).1 q)
    have dt : decide (0 < ((trimZ (x.drop 40)).length : Int)) = true := decide_eq_true (by
      have : (trimZ (x.drop 40)).length ≠ 0 := fun q => hne (List.eq_nil_of_length_eq_zero q)
      omega)
    refine aFun_body Tryd.func39 rfl rfl (by simp [Tryd.ntmps39]) fun hreal h nx hfresh => ?_
    rw [Tryd.ntmps39]
    have FX := Fx.mk (And.intro @dl <| And.intro @d0 <| And.intro @Bool.not_true <| @Bool.not_false)
    repeat (first | refine lit_ ?_ Tryd.underlying40 Tryd.underlying5 | refine v_ ?_ | refine u_ ?_ | refine f_ (op) fun kf hkf => ?_ | refine nl_ ?_ | (refine nz_ ?_; first | (show aWp _ _ _ _ _) | skip) | refine sq_ ?_ | refine rg_ ?_ | refine k_ ?_ | refine ct_ ?_ | refine cf_ ?_ | refine bk_ ?_ | refine sc_ ?_ | (refine sk_ ?_; first | (show aWp _ _ _ _ _) | skip) | (refine ex_ ?_; first | (show aWp _ _ _ _ _) | skip) | refine rt_ ?_)
    have FX := Fx0; refine fz_ 27 ?_
    have FX := Fx.mk (And.intro @dl <| And.intro @d0 <| And.intro @Bool.not_true <| And.intro @Bool.not_false <| And.intro @e0 <| And.intro @i40 <| And.intro @l40 <| @dt)
    repeat (first | refine v_ ?_ | refine u_ ?_ | refine f_ (hf) fun kf hkf => ?_ | refine f_ (ht) fun kf hkf => ?_ | refine nl_ ?_ | (refine nz_ ?_; first | (show aWp _ _ _ _ _) | skip) | refine sq_ ?_ | refine rg_ ?_ | refine k_ ?_ | refine ct_ ?_ | refine cf_ ?_ | refine bk_ ?_ | refine sc_ ?_ | (refine sk_ ?_; first | (show aWp _ _ _ _ _) | skip) | (refine ex_ ?_; first | (show aWp _ _ _ _ _) | skip) | refine rt_ ?_)
    (have FX := Fx0; exact end_ Tryd.results39)
  have hze : trimZ (x.drop 40) = [] := (trimZ_none _).2 hz
  rw [hze] at ht
  have dt : decide ((0 : Int) < ((0 : Nat) : Int)) = false := rfl
  have htv : Sup.told b = if (Sup.raw x).ok then (Sup.raw x, 0) else (Sup.zero, 4) := by
    unfold Sup.told
    rw [if_neg htold, if_neg (by rw [hxx, ho]; simp only [not_or, Classical.not_not, ne_eq]; exact ⟨trivial, hp, hz⟩), hxx]
  have cz : ([AV.int .i64 0, .int .i64 0, .int .i64 0, .int .i64 0, .int .i64 0, .int .i64 0, .int .i64 0] : List AV) = Sup.zero.cells := rfl
  refine aFun_body Tryd.func39 rfl rfl (by simp [Tryd.ntmps39]) fun hreal h nx hfresh => ?_
  rw [Tryd.ntmps39]
  have FX := Fx.mk (And.intro @dl <| And.intro @d0 <| And.intro @Bool.not_true <| @Bool.not_false)
  repeat (first | refine lit_ ?_ Tryd.underlying40 Tryd.underlying5 | refine v_ ?_ | refine u_ ?_ | refine f_ (op) fun kf hkf => ?_ | refine nl_ ?_ | (refine nz_ ?_; first | (show aWp _ _ _ _ _) | skip) | refine sq_ ?_ | refine rg_ ?_ | refine k_ ?_ | refine ct_ ?_ | refine cf_ ?_ | refine bk_ ?_ | refine sc_ ?_ | (refine sk_ ?_; first | (show aWp _ _ _ _ _) | skip) | (refine ex_ ?_; first | (show aWp _ _ _ _ _) | skip) | refine rt_ ?_)
  have FX := Fx0; refine fz_ 27 ?_
  have FX := Fx.mk (And.intro @dl <| And.intro @d0 <| And.intro @Bool.not_true <| And.intro @Bool.not_false <| And.intro @e0 <| And.intro @i40 <| And.intro @l40 <| @dt)
  repeat (first | refine v_ ?_ | refine u_ ?_ | refine f_ (hf) fun kf hkf => ?_ | refine f_ (ht) fun kf hkf => ?_ | refine nl_ ?_ | (refine nz_ ?_; first | (show aWp _ _ _ _ _) | skip) | refine sq_ ?_ | refine rg_ ?_ | refine k_ ?_ | refine ct_ ?_ | refine cf_ ?_ | refine bk_ ?_ | refine sc_ ?_ | (refine sk_ ?_; first | (show aWp _ _ _ _ _) | skip) | (refine ex_ ?_; first | (show aWp _ _ _ _ _) | skip) | refine rt_ ?_)
  obtain ⟨m6, rfl⟩ : ∃ p, p = kf := ⟨kf, rfl⟩
  have hm6 := hkf
  have FX := Fx0
  repeat (first | refine v_ ?_ | refine u_ ?_ | refine oh_ (super_fields Sup.zero m6 (by exact cl_)) fun mf kf hmf hkf => ?_ | refine nl_ ?_ | (refine nz_ ?_; first | (show aWp _ _ _ _ _) | skip) | refine sq_ ?_ | refine rg_ ?_ | refine k_ ?_ | refine ct_ ?_ | refine cf_ ?_ | refine bk_ ?_ | refine sc_ ?_ | (refine sk_ ?_; first | (show aWp _ _ _ _ _) | skip) | (refine ex_ ?_; first | (show aWp _ _ _ _ _) | skip) | refine rt_ ?_)
  have fln : (Sup.fld m6 Sup.zero.p).length = 7 := rfl
  obtain ⟨M, hM⟩ : ∃ M : Int, M = 9223372036854775807 := ⟨_, rfl⟩
  refine W_loopK [2, 4, 6, 39, 40] m6 (fun r tm h q => ∃ i : Nat, i ≤ 7 ∧ r = 7 - i ∧ tm 41 = .int .i64 i ∧ tm 7 = .int .i64 (4 + Sup.off i : Nat) ∧ kf ≤ q ∧ h m6 = some ⟨7, [(Sup.part M x i).cells]⟩ ∧ h mf = some ⟨4, Sup.fld m6 Sup.zero.p⟩) 7 (by omega) ⟨0, by omega, rfl, by (have FX := Fx0; exact cl_), by (have FX := Fx0; exact cl_), by omega, by (have FX := Fx0; exact cl_), by (have FX := Fx0; exact cl_)⟩ ?_
  rintro r tm' h' k' ⟨i, hi, rfl, h41, h7, m4, b1, b2⟩ hag hh hk'
  have b0 : h' nx = some ⟨7, [[.int .i64 0, .int .i64 0, .int .i64 0, .int .i64 0, .int .i64 0, .int .i64 0, .int .i64 0]]⟩ := by rw [hh nx (by omega)]; (have FX := Fx0; exact cl_)
  by_cases hlt : i < 7
  · have f0 := Sup.fld_get m6 Sup.zero.p i hlt
    have hd : decide ((i : Int) < ((7 : Nat) : Int)) = true := decide_eq_true (by omega)
    have hw : IntKind.i64.wrap (i + 1) = ((i + 1 : Nat) : Int) := by rw [wrapI] <;> omega
    have hi7 : (i : Int) < ((7 : Nat) : Int) := by omega
    have wi := Sup.width_in i hlt
    have hot := Sup.off_succ i hlt
    have hof := Sup.off_le (i + 1)
    have hg := octets_Get x (4 + Sup.off i : Nat) (Sup.width i : Nat)
    have hgs : Pl.getS x (4 + Sup.off i : Nat) (Sup.width i : Nat) = (Sup.num x i, 0) := by
      unfold Pl.getS
      rw [if_neg (by omega), if_neg (by omega), if_neg (by omega), Sup.num_eq x i hlt, Int.toNat_natCast, Int.toNat_natCast]
    rw [hgs] at hg
    have n0 := Sup.num_nonneg x i hlt
    have hcl : (if 9223372036854775807 < Sup.num x i then 9223372036854775807 else Sup.num x i) = Sup.clampN M (Sup.num x i) := by rw [hM]; rfl
    have hcw : IntKind.i64.wrap (Sup.clampN M (Sup.num x i)) = Sup.clampN M (Sup.num x i) := by
      rw [wrapI] <;> unfold Sup.clampN <;> split <;> omega
    have hwa : IntKind.i64.wrap (((4 + Sup.off i : Nat) : Int) + ((Sup.width i : Nat) : Int)) = ((4 + Sup.off (i + 1) : Nat) : Int) := by rw [wrapI] <;> omega
    have cl7 : (Sup.part M x i).cells.length = 7 := rfl
    have hput := (Sup.part M x i).cells_put i hlt (Sup.clampN M (Sup.num x i))
    have hi71 : i + 1 ≤ 7 := by omega
    have FX := Fx.mk (And.intro @hag <| And.intro @h41 <| And.intro @h7 <| And.intro @fln <| And.intro @b1 <| And.intro @b2 <| And.intro @hd <| And.intro @f0 <| And.intro @hw <| And.intro @hcl <| And.intro @hcw <| And.intro @hwa <| And.intro @cl7 <| And.intro @hput <| @NL)
    repeat (first | refine v_ ?_ | refine u_ ?_ | refine f_ (hg) fun kf hkf => ?_ | refine nl_ ?_ | (refine nz_ ?_; first | (show aWp _ _ _ _ _) | skip) | refine sq_ ?_ | refine rg_ ?_ | refine k_ ?_ | refine ct_ ?_ | refine cf_ ?_ | refine bk_ ?_ | refine sc_ ?_ | (refine sk_ ?_; first | (show aWp _ _ _ _ _) | skip) | (refine ex_ ?_; first | (show aWp _ _ _ _ _) | skip) | refine rt_ ?_)
    refine ⟨7 - (i + 1), by omega, ⟨i + 1, by omega, rfl, by (have FX := Fx0; exact cl_), by (have FX := Fx0; exact cl_), by first | omega | (simp only; omega), ?_, by (have FX := Fx.mk (@b2); exact cl_)⟩, ?_, ?_, by first | omega | (simp only; omega), rfl⟩
    · show upd _ m6 _ m6 = _
      rw [upd_same]
      rfl
    · repeat (refine KAgree.upd rfl ?_)
      first | exact KAgree.refl _ _ | exact hag
    · exact (by have FX := Fx.mk (@hh); exact ha_)
  obtain rfl : i = 7 := by omega
  have hd : decide (((7 : Nat) : Int) < ((7 : Nat) : Int)) = false := rfl
  rw [Sup.part_all] at b1
  have cl7 : (Sup.clamp M (Sup.raw x)).cells.length = 7 := rfl
  have t7 : (Sup.clamp M (Sup.raw x)).cells.take 7 = (Sup.clamp M (Sup.raw x)).cells := rfl
  have ck := super_Check (Sup.clamp M (Sup.raw x))
  unfold Sup.av at ck
  have ce := (rfl : (Sup.clamp M (Sup.raw x)).cells = (Sup.clamp M (Sup.raw x)).cells)
  have hco := Sup.clamp_ok M (by omega) (Sup.raw x)
  by_cases hok : (Sup.raw x).ok
  · rw [Sup.clamp_eq M (by omega) _ hok] at b1 ck cl7 t7
    rw [show (Sup.raw x).chk = 0 from if_pos hok] at ck
    rw [if_pos hok] at htv
    have FX := Fx.mk (And.intro @hag <| And.intro @h41 <| And.intro @fln <| And.intro @b1 <| And.intro @b0 <| And.intro @hd <| And.intro @cl7 <| And.intro @t7 <| And.intro @d0 <| @Bool.not_true)
    repeat (first | refine v_ ?_ | refine u_ ?_ | refine f_ (ck) fun kf hkf => ?_ | refine nl_ ?_ | (refine nz_ ?_; first | (show aWp _ _ _ _ _) | skip) | refine sq_ ?_ | refine rg_ ?_ | refine k_ ?_ | refine ct_ ?_ | refine cf_ ?_ | refine bk_ ?_ | refine sc_ ?_ | (refine sk_ ?_; first | (show aWp _ _ _ _ _) | skip) | (refine ex_ ?_; first | (show aWp _ _ _ _ _) | skip) | refine rt_ ?_)
    have hfz : ∀ h2 : AHeap, frzL nx h2 (Sup.raw x).cells = some (Sup.raw x).cells := fun _ => rfl
    have hv : Sup.toldV b = .tup [.agg (Sup.raw x).cells, .int .i64 0] := by unfold Sup.toldV; rw [htv]; rfl
    rw [hv]
    (have FX := Fx.mk (And.intro @hag <| And.intro @cl7 <| And.intro @t7 <| And.intro @hfz <| @hh); exact end_ Tryd.results39)
  · rw [show (Sup.clamp M (Sup.raw x)).chk = 4 from if_neg (fun q => hok (hco.1 q))] at ck
    rw [if_neg hok] at htv
    rw [toldV_zero htv]
    have d4 : decide ((4 : Int) = 0) = false := rfl
    have FX := Fx.mk (And.intro @hag <| And.intro @h41 <| And.intro @fln <| And.intro @b1 <| And.intro @b0 <| And.intro @hd <| And.intro @cl7 <| And.intro @t7 <| And.intro @d4 <| @Bool.not_false)
    repeat (first | refine v_ ?_ | refine u_ ?_ | refine f_ (ck) fun kf hkf => ?_ | refine nl_ ?_ | (refine nz_ ?_; first | (show aWp _ _ _ _ _) | skip) | refine sq_ ?_ | refine rg_ ?_ | refine k_ ?_ | refine ct_ ?_ | refine cf_ ?_ | refine bk_ ?_ | refine sc_ ?_ | (refine sk_ ?_; first | (show aWp _ _ _ _ _) | skip) | (refine ex_ ?_; first | (show aWp _ _ _ _ _) | skip) | refine rt_ ?_)
    (have FX := Fx.mk (And.intro @hag <| And.intro @b0 <| @hh); exact end_ Tryd.results39)
/-- The newer of two. -/
def Sup.newer (a b : List Int) : Sup × Int × Int :=
  if (Sup.told a).2 ≠ 0 ∧ (Sup.told b).2 ≠ 0 then (Sup.zero, 0, 21)
  else if (Sup.told a).2 ≠ 0 ∨ ((Sup.told b).2 = 0 ∧ (Sup.told a).1.e < (Sup.told b).1.e) then ((Sup.told b).1, 1, 0) else ((Sup.told a).1, 0, 0)
def Sup.newerV (a b : List Int) : AV := .tup [(Sup.newer a b).1.av, .int .i64 (Sup.newer a b).2.1, .int .i64 (Sup.newer a b).2.2]
theorem super_Newest (a b : List Int) : aFun Tryd.prog 13 [.sl (numB .u8 a), .sl (numB .u8 b)] (Sup.newerV a b) := by
  have da := super_Decode a
  have db := super_Decode b
  unfold Sup.toldV at da db
  have q0 : decide ((0 : Int) = 0) = true := rfl
  have q1 : decide ((0 : Int) < 2) = true := rfl
  have q2 : decide ((1 : Int) < 2) = true := rfl
  have q3 : decide ((2 : Int) < 2) = false := rfl
  have q4 : decide ((-1 : Int) < 0) = true := rfl
  have q5 : decide ((0 : Int) < 0) = false := rfl
  have q6 : decide ((1 : Int) < 0) = false := rfl
  have w1 : IntKind.i64.wrap (0 + 1) = 1 := rfl
  have w2 : IntKind.i64.wrap (1 + 1) = 2 := rfl
  have zr : Sup.zero.cells = [.int .i64 0, .int .i64 0, .int .i64 0, .int .i64 0, .int .i64 0, .int .i64 0, .int .i64 0] := rfl
  have ca : (Sup.told a).1.av = .agg [.int .i64 (Sup.told a).1.e, .int .i64 (Sup.told a).1.v, .int .i64 (Sup.told a).1.j, .int .i64 (Sup.told a).1.p, .int .i64 (Sup.told a).1.d, .int .i64 (Sup.told a).1.s, .int .i64 (Sup.told a).1.r] := rfl
  have cb : (Sup.told b).1.av = .agg [.int .i64 (Sup.told b).1.e, .int .i64 (Sup.told b).1.v, .int .i64 (Sup.told b).1.j, .int .i64 (Sup.told b).1.p, .int .i64 (Sup.told b).1.d, .int .i64 (Sup.told b).1.s, .int .i64 (Sup.told b).1.r] := rfl
  rw [ca] at da
  rw [cb] at db
  unfold Sup.newerV Sup.newer
  by_cases ha : (Sup.told a).2 = 0
  · rw [if_neg (by simp [ha])]
    rw [ha] at da
    by_cases hb : (Sup.told b).2 = 0
    · rw [hb] at db
      by_cases hlt : (Sup.told a).1.e < (Sup.told b).1.e
      · rw [if_pos (.inr ⟨hb, hlt⟩)]
        have e1 : decide ((Sup.told a).1.e < (Sup.told b).1.e) = true := decide_eq_true hlt
        rw [cb]
        refine aFun_body Tryd.func13 rfl rfl (by simp [Tryd.ntmps13]) fun hreal h nx hfresh => ?_
        rw [Tryd.ntmps13]
        have FX := Fx0
        repeat (first | refine v_ ?_ | refine u_ ?_ | refine nl_ ?_ | (refine nz_ ?_; first | (show aWp _ _ _ _ _) | skip) | refine sq_ ?_ | refine rg_ ?_ | refine k_ ?_ | refine ct_ ?_ | refine cf_ ?_ | refine bk_ ?_ | refine sc_ ?_ | (refine sk_ ?_; first | (show aWp _ _ _ _ _) | skip) | (refine ex_ ?_; first | (show aWp _ _ _ _ _) | skip) | refine rt_ ?_)
        refine aWp_rounds 3 ?_
        show aWp _ _ _ _ _
        have FX := Fx.mk (And.intro @q0 <| And.intro @q1 <| And.intro @q2 <| And.intro @q3 <| And.intro @q4 <| And.intro @q5 <| And.intro @q6 <| And.intro @w1 <| And.intro @w2 <| And.intro @e1 <| And.intro @Bool.not_true <| And.intro @Bool.not_false <| @decide_true)
        repeat (first | refine v_ ?_ | refine u_ ?_ | refine f_ (da) fun kf hkf => ?_ | refine f_ (db) fun kf hkf => ?_ | refine nl_ ?_ | (refine nz_ ?_; first | (show aWp _ _ _ _ _) | skip) | refine sq_ ?_ | refine rg_ ?_ | refine k_ ?_ | refine ct_ ?_ | refine cf_ ?_ | refine bk_ ?_ | refine sc_ ?_ | (refine sk_ ?_; first | (show aWp _ _ _ _ _) | skip) | (refine ex_ ?_; first | (show aWp _ _ _ _ _) | skip) | refine rt_ ?_)
        (have FX := Fx0; exact end_ Tryd.results13)
      · rw [if_neg (by rintro (q | ⟨_, q⟩) <;> simp_all)]
        have e1 : decide ((Sup.told a).1.e < (Sup.told b).1.e) = false := decide_eq_false hlt
        rw [ca]
        refine aFun_body Tryd.func13 rfl rfl (by simp [Tryd.ntmps13]) fun hreal h nx hfresh => ?_
        rw [Tryd.ntmps13]
        have FX := Fx0
        repeat (first | refine v_ ?_ | refine u_ ?_ | refine nl_ ?_ | (refine nz_ ?_; first | (show aWp _ _ _ _ _) | skip) | refine sq_ ?_ | refine rg_ ?_ | refine k_ ?_ | refine ct_ ?_ | refine cf_ ?_ | refine bk_ ?_ | refine sc_ ?_ | (refine sk_ ?_; first | (show aWp _ _ _ _ _) | skip) | (refine ex_ ?_; first | (show aWp _ _ _ _ _) | skip) | refine rt_ ?_)
        refine aWp_rounds 3 ?_
        show aWp _ _ _ _ _
        have FX := Fx.mk (And.intro @q0 <| And.intro @q1 <| And.intro @q2 <| And.intro @q3 <| And.intro @q4 <| And.intro @q5 <| And.intro @q6 <| And.intro @w1 <| And.intro @w2 <| And.intro @e1 <| And.intro @Bool.not_true <| And.intro @Bool.not_false <| @decide_true)
        repeat (first | refine v_ ?_ | refine u_ ?_ | refine f_ (da) fun kf hkf => ?_ | refine f_ (db) fun kf hkf => ?_ | refine nl_ ?_ | (refine nz_ ?_; first | (show aWp _ _ _ _ _) | skip) | refine sq_ ?_ | refine rg_ ?_ | refine k_ ?_ | refine ct_ ?_ | refine cf_ ?_ | refine bk_ ?_ | refine sc_ ?_ | (refine sk_ ?_; first | (show aWp _ _ _ _ _) | skip) | (refine ex_ ?_; first | (show aWp _ _ _ _ _) | skip) | refine rt_ ?_)
        (have FX := Fx0; exact end_ Tryd.results13)
    · rw [if_neg (by rintro (q | ⟨q, _⟩) <;> simp_all)]
      have e1 : decide ((Sup.told b).2 = 0) = false := decide_eq_false hb
      rw [ca]
      refine aFun_body Tryd.func13 rfl rfl (by simp [Tryd.ntmps13]) fun hreal h nx hfresh => ?_
      rw [Tryd.ntmps13]
      have FX := Fx0
      repeat (first | refine v_ ?_ | refine u_ ?_ | refine nl_ ?_ | (refine nz_ ?_; first | (show aWp _ _ _ _ _) | skip) | refine sq_ ?_ | refine rg_ ?_ | refine k_ ?_ | refine ct_ ?_ | refine cf_ ?_ | refine bk_ ?_ | refine sc_ ?_ | (refine sk_ ?_; first | (show aWp _ _ _ _ _) | skip) | (refine ex_ ?_; first | (show aWp _ _ _ _ _) | skip) | refine rt_ ?_)
      refine aWp_rounds 3 ?_
      show aWp _ _ _ _ _
      have FX := Fx.mk (And.intro @q0 <| And.intro @q1 <| And.intro @q2 <| And.intro @q3 <| And.intro @q4 <| And.intro @q5 <| And.intro @q6 <| And.intro @w1 <| And.intro @w2 <| And.intro @e1 <| And.intro @Bool.not_true <| And.intro @Bool.not_false <| @decide_true)
      repeat (first | refine v_ ?_ | refine u_ ?_ | refine f_ (da) fun kf hkf => ?_ | refine f_ (db) fun kf hkf => ?_ | refine nl_ ?_ | (refine nz_ ?_; first | (show aWp _ _ _ _ _) | skip) | refine sq_ ?_ | refine rg_ ?_ | refine k_ ?_ | refine ct_ ?_ | refine cf_ ?_ | refine bk_ ?_ | refine sc_ ?_ | (refine sk_ ?_; first | (show aWp _ _ _ _ _) | skip) | (refine ex_ ?_; first | (show aWp _ _ _ _ _) | skip) | refine rt_ ?_)
      (have FX := Fx0; exact end_ Tryd.results13)
  · have e0 : decide ((Sup.told a).2 = 0) = false := decide_eq_false ha
    by_cases hb : (Sup.told b).2 = 0
    · rw [if_neg (by simp [hb]), if_pos (.inl ha)]
      rw [hb] at db
      rw [cb]
      refine aFun_body Tryd.func13 rfl rfl (by simp [Tryd.ntmps13]) fun hreal h nx hfresh => ?_
      rw [Tryd.ntmps13]
      have FX := Fx0
      repeat (first | refine v_ ?_ | refine u_ ?_ | refine nl_ ?_ | (refine nz_ ?_; first | (show aWp _ _ _ _ _) | skip) | refine sq_ ?_ | refine rg_ ?_ | refine k_ ?_ | refine ct_ ?_ | refine cf_ ?_ | refine bk_ ?_ | refine sc_ ?_ | (refine sk_ ?_; first | (show aWp _ _ _ _ _) | skip) | (refine ex_ ?_; first | (show aWp _ _ _ _ _) | skip) | refine rt_ ?_)
      refine aWp_rounds 3 ?_
      show aWp _ _ _ _ _
      have FX := Fx.mk (And.intro @e0 <| And.intro @q0 <| And.intro @q1 <| And.intro @q2 <| And.intro @q3 <| And.intro @q4 <| And.intro @q5 <| And.intro @q6 <| And.intro @w1 <| And.intro @w2 <| And.intro @Bool.not_true <| And.intro @Bool.not_false <| @decide_true)
      repeat (first | refine v_ ?_ | refine u_ ?_ | refine f_ (da) fun kf hkf => ?_ | refine f_ (db) fun kf hkf => ?_ | refine nl_ ?_ | (refine nz_ ?_; first | (show aWp _ _ _ _ _) | skip) | refine sq_ ?_ | refine rg_ ?_ | refine k_ ?_ | refine ct_ ?_ | refine cf_ ?_ | refine bk_ ?_ | refine sc_ ?_ | (refine sk_ ?_; first | (show aWp _ _ _ _ _) | skip) | (refine ex_ ?_; first | (show aWp _ _ _ _ _) | skip) | refine rt_ ?_)
      (have FX := Fx0; exact end_ Tryd.results13)
    · rw [if_pos ⟨ha, hb⟩]
      have e1 : decide ((Sup.told b).2 = 0) = false := decide_eq_false hb
      unfold Sup.av
      rw [zr]
      refine aFun_body Tryd.func13 rfl rfl (by simp [Tryd.ntmps13]) fun hreal h nx hfresh => ?_
      rw [Tryd.ntmps13]
      have FX := Fx0
      repeat (first | refine v_ ?_ | refine u_ ?_ | refine nl_ ?_ | (refine nz_ ?_; first | (show aWp _ _ _ _ _) | skip) | refine sq_ ?_ | refine rg_ ?_ | refine k_ ?_ | refine ct_ ?_ | refine cf_ ?_ | refine bk_ ?_ | refine sc_ ?_ | (refine sk_ ?_; first | (show aWp _ _ _ _ _) | skip) | (refine ex_ ?_; first | (show aWp _ _ _ _ _) | skip) | refine rt_ ?_)
      refine aWp_rounds 3 ?_
      show aWp _ _ _ _ _
      have FX := Fx.mk (And.intro @e0 <| And.intro @e1 <| And.intro @q0 <| And.intro @q1 <| And.intro @q2 <| And.intro @q3 <| And.intro @q4 <| And.intro @q5 <| And.intro @q6 <| And.intro @w1 <| And.intro @w2 <| And.intro @Bool.not_true <| And.intro @Bool.not_false <| @decide_true)
      repeat (first | refine v_ ?_ | refine u_ ?_ | refine f_ (da) fun kf hkf => ?_ | refine f_ (db) fun kf hkf => ?_ | refine nl_ ?_ | (refine nz_ ?_; first | (show aWp _ _ _ _ _) | skip) | refine sq_ ?_ | refine rg_ ?_ | refine k_ ?_ | refine ct_ ?_ | refine cf_ ?_ | refine bk_ ?_ | refine sc_ ?_ | (refine sk_ ?_; first | (show aWp _ _ _ _ _) | skip) | (refine ex_ ?_; first | (show aWp _ _ _ _ _) | skip) | refine rt_ ?_)
      (have FX := Fx0; exact end_ Tryd.results13)
end Go.Proofs.YtjidgdfdeckofaaDoor.AE

/- Layer 3's host, in plain words. -/
namespace Go.Proofs.YtjidgdfdeckofaaDoor.AE
open Go Go.RowKit Go.Proofs Go.Proofs.YtjidgdfdeckofaaDoor
set_option linter.unusedVariables false
set_option linter.unusedSimpArgs false
abbrev Act3 := Int × Int × List Int
def actB (a : Act3) : List AV := [.int .i64 a.1, .int .i64 a.2.1, .sl (numB .u8 a.2.2)]
def actsB (W : List Act3) : List (List AV) := W.map actB
def secB (S : List (List Int)) : List (List AV) := S.map fun s => [.sl (numB .u8 s)]
def hostV (S : List (List Int)) (W : List Act3) (cap : Int) : AV := .agg [.sl (secB S), .sl (actsB W), .int .i64 cap]
theorem secB_len (S : List (List Int)) : (secB S).length = S.length := by simp [secB]
theorem actsB_len (W : List Act3) : (actsB W).length = W.length := by simp [actsB]
theorem secB_get (S : List (List Int)) (i : Nat) (s : List Int) (h : S[i]? = some s) : (secB S)[i]? = some [.sl (numB .u8 s)] := by simp [secB, h]
theorem actsB_get (W : List Act3) (i : Nat) (a : Act3) (h : W[i]? = some a) : (actsB W)[i]? = some [.int .i64 a.1, .int .i64 a.2.1, .sl (numB .u8 a.2.2)] := by simp [actsB, actB, h]
/-- May an act wait? -/
def mayP (cap : Int) (a : Act3) : Prop := (a.1 = 1 ∧ 0 ≤ a.2.1 ∧ a.2.1 < cap ∧ a.2.2.length = 64) ∨ (a.1 = 2 ∧ 0 ≤ a.2.1 ∧ a.2.1 ≤ cap ∧ a.2.2.length = 0)
instance (cap : Int) (a : Act3) : Decidable (mayP cap a) := inferInstanceAs (Decidable (_ ∨ _))
/-- P3.1: a host that may be. -/
def okH (S : List (List Int)) (W : List Act3) (cap : Int) : Prop := (1 ≤ cap ∧ cap ≤ 65536) ∧ (S.length : Int) ≤ cap ∧ (∀ s ∈ S, s.length = 64) ∧ W.length ≤ 4096 ∧ ∀ a ∈ W, mayP cap a
instance (S : List (List Int)) (W : List Act3) (cap : Int) : Decidable (okH S W cap) := inferInstanceAs (Decidable (_ ∧ _))
def chkH (S : List (List Int)) (W : List Act3) (cap : Int) : Int := if okH S W cap then 0 else 9
def sizeH (n : Int) (W : List Act3) : Int := W.foldl (fun n a => if a.1 = 2 then a.2.1 else n) n
def z64 : List Int := List.replicate 64 0
/-- An act is done. -/
def doH (S : List (List Int)) (a : Act3) : List (List Int) := if a.1 = 2 then S.take a.2.1.toNat ++ List.replicate (a.2.1.toNat - S.length) z64 else S.set a.2.1.toNat a.2.2
def runH : List (List Int) → List Act3 → List Bool → List (List Int)
  | S, [], _ => S
  | S, _ :: _, [] => S
  | S, a :: W, b :: k => runH (if b = true then doH S a else S) W k
def allH (S : List (List Int)) (W : List Act3) : List (List Int) := W.foldl doH S
theorem runH_nil (S : List (List Int)) (W : List Act3) : runH S W [] = S := by cases W <;> rfl
theorem runH_all : ∀ (W : List Act3) (S : List (List Int)), runH S W (List.replicate W.length true) = allH S W
  | [], S => rfl
  | a :: W, S => runH_all W (doH S a)
theorem runH_step : ∀ (i : Nat) (W : List Act3) (keep : List Bool) (S : List (List Int)) (a : Act3), W[i]? = some a → runH S (W.take (i + 1)) keep = if keep.getD i false = true then doH (runH S (W.take i) keep) a else runH S (W.take i) keep
  | 0, w :: W, [], S, a, h => by
    simp at h
    subst h
    simp [runH]
  | 0, w :: W, b :: k, S, a, h => by
    simp at h
    subst h
    cases b <;> simp [runH]
  | i + 1, w :: W, [], S, a, h => by simp [runH]
  | i + 1, w :: W, b :: k, S, a, h => by
    have := runH_step i W k (if b = true then doH S w else S) a (by simpa using h)
    simpa [runH] using this
  | i, [], k, S, a, h => by simp at h
theorem allH_snoc (S : List (List Int)) (W : List Act3) (a : Act3) : allH S (W ++ [a]) = doH (allH S W) a := by simp [allH]
theorem sizeH_snoc (n : Int) (W : List Act3) (a : Act3) : sizeH n (W ++ [a]) = if a.1 = 2 then a.2.1 else sizeH n W := by simp [sizeH]
theorem allH_step (S : List (List Int)) (W : List Act3) (i : Nat) (a : Act3) (h : W[i]? = some a) : allH S (W.take (i + 1)) = doH (allH S (W.take i)) a := by
  rw [List.take_add_one, h]
  exact allH_snoc _ _ _
theorem sizeH_step (n : Int) (W : List Act3) (i : Nat) (a : Act3) (h : W[i]? = some a) : sizeH n (W.take (i + 1)) = if a.1 = 2 then a.2.1 else sizeH n (W.take i) := by
  rw [List.take_add_one, h]
  exact sizeH_snoc _ _ _
theorem doH_len (S : List (List Int)) (a : Act3) (h : 0 ≤ a.2.1) : ((doH S a).length : Int) = if a.1 = 2 then a.2.1 else (S.length : Int) := by
  unfold doH
  split
  · simp
    omega
  · simp
/-- So long it is behind all acts. -/
theorem size_all (S : List (List Int)) : ∀ (W : List Act3) {cap : Int}, (∀ a ∈ W, mayP cap a) → sizeH (S.length : Int) W = ((allH S W).length : Int) := by
  intro W
  induction W generalizing S with
  | nil => intro cap _; rfl
  | cons a W ih =>
    intro cap h
    have ha : 0 ≤ a.2.1 := by have := h a (by simp); rcases this with q | q <;> omega
    have h1 := ih (doH S a) (cap := cap) (fun b hb => h b (by simp [hb]))
    rw [doH_len S a ha] at h1
    exact h1
theorem mayP_at {cap : Int} {a : Act3} (h : mayP cap a) : 0 ≤ a.2.1 ∧ a.2.1 ≤ cap := by rcases h with q | q <;> omega
theorem doH_64 {S : List (List Int)} {a : Act3} {cap : Int} (hS : ∀ s ∈ S, s.length = 64) (ha : mayP cap a) : ∀ s ∈ doH S a, s.length = 64 := by
  intro s hs
  unfold doH at hs
  split at hs
  · rcases List.mem_append.1 hs with h | h
    · exact hS s (List.mem_of_mem_take h)
    · rw [(List.mem_replicate.1 h).2]; rfl
  · rename_i hn
    rcases List.mem_or_eq_of_mem_set hs with h | h
    · exact hS s h
    · subst h; rcases ha with q | q <;> omega
theorem doH_cap {S : List (List Int)} {a : Act3} {cap : Int} (hS : (S.length : Int) ≤ cap) (ha : mayP cap a) : ((doH S a).length : Int) ≤ cap := by
  rw [doH_len S a (mayP_at ha).1]
  split
  · exact (mayP_at ha).2
  · exact hS
theorem runH_ok : ∀ (W : List Act3) (keep : List Bool) (S : List (List Int)) {cap : Int}, (S.length : Int) ≤ cap → (∀ s ∈ S, s.length = 64) → (∀ a ∈ W, mayP cap a) → ((runH S W keep).length : Int) ≤ cap ∧ ∀ s ∈ runH S W keep, s.length = 64
  | [], _, S, cap, h1, h2, _ => ⟨h1, h2⟩
  | a :: W, [], S, cap, h1, h2, _ => ⟨h1, h2⟩
  | a :: W, b :: k, S, cap, h1, h2, h3 => by
    have ha := h3 a (by simp)
    cases b
    · exact runH_ok W k S h1 h2 fun c hc => h3 c (by simp [hc])
    · exact runH_ok W k (doH S a) (doH_cap h1 ha) (doH_64 h2 ha) fun c hc => h3 c (by simp [hc])
theorem allH_ok {W : List Act3} {S : List (List Int)} {cap : Int} (h1 : (S.length : Int) ≤ cap) (h2 : ∀ s ∈ S, s.length = 64) (h3 : ∀ a ∈ W, mayP cap a) : ((allH S W).length : Int) ≤ cap ∧ ∀ s ∈ allH S W, s.length = 64 := by
  rw [← runH_all]
  exact runH_ok _ _ _ h1 h2 h3
theorem chkH_bad {S : List (List Int)} {W : List Act3} {cap : Int} (h : ¬ okH S W cap) : chkH S W cap = 9 := if_neg h
theorem chkH_ok {S : List (List Int)} {W : List Act3} {cap : Int} (h : okH S W cap) : chkH S W cap = 0 := if_pos h
/-- Behind a crash it may be. -/
theorem ok_run {S : List (List Int)} {W : List Act3} {cap : Int} (h : okH S W cap) (keep : List Bool) : okH (runH S W keep) [] cap := by
  obtain ⟨h1, h2, h3, h4, h5⟩ := h
  obtain ⟨g1, g2⟩ := runH_ok W keep S h2 h3 h5
  exact ⟨h1, g1, g2, by simp, by simp⟩
theorem ok_all {S : List (List Int)} {W : List Act3} {cap : Int} (h : okH S W cap) : okH (allH S W) [] cap := by
  rw [← runH_all]
  exact ok_run h _
theorem ok_snoc {S : List (List Int)} {W : List Act3} {cap : Int} (h : okH S W cap) {a : Act3} (ha : mayP cap a) (hl : W.length < 4096) : okH S (W ++ [a]) cap := by
  obtain ⟨h1, h2, h3, h4, h5⟩ := h
  refine ⟨h1, h2, h3, by simp; omega, fun b hb => ?_⟩
  rcases List.mem_append.1 hb with hb | hb
  · exact h5 b hb
  · simp at hb; subst hb; exact ha
end Go.Proofs.YtjidgdfdeckofaaDoor.AE
