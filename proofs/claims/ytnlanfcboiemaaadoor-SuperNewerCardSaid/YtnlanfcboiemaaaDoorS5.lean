/- Layer 4 and its page: Encode. -/
import Derived.Test.YtnlanfcboiemaaaDoorS1
import Derived.Test.YtnlanfcboiemaaaDoorS2
import Derived.Test.YtnlanfcboiemaaaDoorS4
import Derived.Test.YtnlanfcboiemaaaDoorG1
import Derived.Test.YtnlanfcboiemaaaDoorG7
import Derived.Test.YtnlanfcboiemaaaDoorG8
import Derived.Test.YtnlanfcboiemaaaDoorG2
import Derived.Test.YtnlanfcboiemaaaDoorG3
namespace Go.Proofs.YtnlanfcboiemaaaDoor.AE
open Go Go.RowKit Go.Proofs Go.Proofs.YtnlanfcboiemaaaDoor
set_option linter.unusedVariables false
set_option linter.unusedSimpArgs false
set_option maxRecDepth 100000
set_option maxHeartbeats 8000000
theorem super_Encode_bad (s : Sup) (hno : ¬ s.ok) : aFun Tryd.prog 14 [s.av] (.tup [.sl [], .int .i64 4]) := by
  have ce : s.cells = [.int .i64 s.e, .int .i64 s.v, .int .i64 s.j, .int .i64 s.p, .int .i64 s.d, .int .i64 s.s, .int .i64 s.r] := rfl
  have ck := super_Check s
  rw [show s.chk = 4 from if_neg hno] at ck
  have d4 : decide ((4 : Int) = 0) = false := rfl
  unfold Sup.av at ck ⊢
  rw [ce] at ck ⊢
  refine aFun_body Tryd.func14 rfl rfl (by simp [Tryd.ntmps14]) fun hreal h nx hfresh => ?_
  rw [Tryd.ntmps14]
  have FX := Fx.mk (And.intro @d4 <| @Bool.not_false)
  repeat (first | refine v_ ?_ | refine u_ ?_ | refine f_ (ck) fun kf hkf => ?_ | refine nl_ ?_ | (refine nz_ ?_; first | (show aWp _ _ _ _ _) | skip) | refine sq_ ?_ | refine rg_ ?_ | refine k_ ?_ | refine ct_ ?_ | refine cf_ ?_ | refine bk_ ?_ | refine sc_ ?_ | (refine sk_ ?_; first | (show aWp _ _ _ _ _) | skip) | (refine ex_ ?_; first | (show aWp _ _ _ _ _) | skip) | refine rt_ ?_)
  (have FX := Fx0; exact end_ Tryd.results14)
theorem super_Encode (s : Sup) (hok : s.ok) : aOwnM Tryd.prog 14 [s.av] (fun v => .tup [v, .int .i64 0]) 1 (numB .u8 s.sector) := by
  have ce : s.cells = [.int .i64 s.e, .int .i64 s.v, .int .i64 s.j, .int .i64 s.p, .int .i64 s.d, .int .i64 s.s, .int .i64 s.r] := rfl
  have ck := super_Check s
  rw [show s.chk = 0 from if_pos hok] at ck
  have d0 : decide ((0 : Int) = 0) = true := rfl
  unfold Sup.av at ck ⊢
  rw [ce] at ck ⊢
  refine aOwnM_body Tryd.func14 rfl rfl (by simp [Tryd.ntmps14]) fun hreal h nx hfresh => ?_
  rw [Tryd.ntmps14]
  have FX := Fx.mk (And.intro @d0 <| @Bool.not_true)
  repeat (first | refine lit_ ?_ Tryd.underlying31 Tryd.underlying5 | refine v_ ?_ | refine u_ ?_ | refine f_ (ck) fun kf hkf => ?_ | refine nl_ ?_ | (refine nz_ ?_; first | (show aWp _ _ _ _ _) | skip) | refine sq_ ?_ | refine rg_ ?_ | refine k_ ?_ | refine ct_ ?_ | refine cf_ ?_ | refine bk_ ?_ | refine sc_ ?_ | (refine sk_ ?_; first | (show aWp _ _ _ _ _) | skip) | (refine ex_ ?_; first | (show aWp _ _ _ _ _) | skip) | refine rt_ ?_)
  obtain ⟨kc, rfl⟩ : ∃ p, p = kf := ⟨kf, rfl⟩
  have hkc := hkf
  rw [← ce]
  have FX := Fx0
  repeat (first | refine v_ ?_ | refine u_ ?_ | refine oh_ (super_fields s nx (by exact cl_)) fun mf kf hmf hkf => ?_ | refine nl_ ?_ | (refine nz_ ?_; first | (show aWp _ _ _ _ _) | skip) | refine sq_ ?_ | refine rg_ ?_ | refine k_ ?_ | refine ct_ ?_ | refine cf_ ?_ | refine bk_ ?_ | refine sc_ ?_ | (refine sk_ ?_; first | (show aWp _ _ _ _ _) | skip) | (refine ex_ ?_; first | (show aWp _ _ _ _ _) | skip) | refine rt_ ?_)
  have fln : (Sup.fld nx s.p).length = 7 := rfl
  refine W_loopK [1, 17, 18] kc (fun r tm h q => ∃ i m : Nat, i ≤ 7 ∧ r = 7 - i ∧ tm 19 = .int .i64 i ∧ kc ≤ m ∧ m < q ∧ m ≠ mf ∧ kf ≤ q ∧ tm 5 = .hs m 0 (s.head i).length ∧ h m = some ⟨1, numB .u8 (s.head i)⟩ ∧ h mf = some ⟨4, Sup.fld nx s.p⟩) 7 (by omega) ⟨0, kc, by omega, rfl, by (have FX := Fx0; exact cl_), by omega, by omega, by omega, by omega, by (have FX := Fx0; exact cl_), by (have FX := Fx0; exact cl_), by (have FX := Fx0; exact cl_)⟩ ?_
  rintro r tm' h' k' ⟨i, m, hi, rfl, h19, m1, m2, m3, m4, h5, b3, b2⟩ hag hh hk'
  have b1 : h' nx = some ⟨7, [s.cells]⟩ := by rw [hh nx (by omega)]; (have FX := Fx0; exact cl_)
  have hln := s.head_len i hi
  by_cases hlt : i < 7
  · have f0 := Sup.fld_get nx s.p i hlt
    have f1 := Sup.cells_drop s i hlt
    have hd : decide ((i : Int) < ((7 : Nat) : Int)) = true := decide_eq_true (by omega)
    have hw : IntKind.i64.wrap (i + 1) = ((i + 1 : Nat) : Int) := by rw [wrapI] <;> omega
    have hi7 : (i : Int) < ((7 : Nat) : Int) := by omega
    have vf := Sup.val_fits hok i hlt
    have wi := Sup.width_in i hlt
    have hp := octets_Put (s.val i) (Sup.width i : Nat)
    rw [Pl.putS_fits ⟨by omega, by omega⟩ (by simpa using vf.2)] at hp
    have hv : IntKind.u64.wrap (s.val i) = s.val i := by
      have := Pl.pow8 (show Sup.width i ≤ 8 by omega)
      rw [wrapU] <;> omega
    have hpl := Pl.putI_length (Sup.width i) (s.val i)
    have hot := Sup.off_succ i hlt
    have hhs := s.head_succ i hlt
    have hof := Sup.off_le (i + 1)
    have tn : ((Sup.width i : Nat) : Int).toNat = Sup.width i := by simp
    have FX := Fx.mk (And.intro @hag <| And.intro @h19 <| And.intro @fln <| And.intro @b1 <| And.intro @b2 <| And.intro @hd <| @f0)
    repeat (first | refine v_ ?_ | refine u_ ?_ | refine nl_ ?_ | (refine nz_ ?_; first | (show aWp _ _ _ _ _) | skip) | refine sq_ ?_ | refine rg_ ?_ | refine k_ ?_ | refine ct_ ?_ | refine cf_ ?_ | refine bk_ ?_ | refine sc_ ?_ | (refine sk_ ?_; first | (show aWp _ _ _ _ _) | skip) | (refine ex_ ?_; first | (show aWp _ _ _ _ _) | skip) | refine rt_ ?_)
    have FX := Fx.mk (And.intro @b1 <| And.intro @f1 <| And.intro @hv <| @NL)
    refine W_draw mixed rfl rfl ?_
    repeat (first | refine dq_ ?_ | refine df_ (hp) ?_ | refine dr_ [k', nx] ?_ | refine dm_ [k', nx] ?_ | refine da_ [k', nx] ?_ | refine ds_ [k', nx] ?_ | refine dw_ [k', nx] ?_ | refine dk_ ?_ | refine dn_ ?_)
    refine fun kd hkd => ?_
    simp only [List.length_cons, List.length_nil] at hkd
    first | (show aWp _ _ _ _ _) | skip
    have FX := Fx.mk (And.intro @hag <| And.intro @h19 <| And.intro @h5 <| And.intro @b3 <| And.intro @hw <| @tn)
    repeat (first | refine v_ ?_ | refine u_ ?_ | refine nl_ ?_ | (refine nz_ ?_; first | (show aWp _ _ _ _ _) | skip) | refine sq_ ?_ | refine rg_ ?_ | refine k_ ?_ | refine ct_ ?_ | refine cf_ ?_ | refine bk_ ?_ | refine sc_ ?_ | (refine sk_ ?_; first | (show aWp _ _ _ _ _) | skip) | (refine ex_ ?_; first | (show aWp _ _ _ _ _) | skip) | refine rt_ ?_)
    refine ⟨7 - (i + 1), by omega, ⟨i + 1, kd, by omega, rfl, by (have FX := Fx0; exact cl_), by omega, by first | omega | (simp only; omega), by omega, by first | omega | (simp only; omega), by (have FX := Fx.mk (@hhs); exact cl_), by (have FX := Fx.mk (@hhs); exact cl_), by (have FX := Fx.mk (@b2); exact cl_)⟩, ?_, ?_, by first | omega | (simp only; omega), rfl⟩
    · repeat (refine KAgree.upd rfl ?_)
      first | exact KAgree.refl _ _ | exact hag
    · exact (by have FX := Fx.mk (@hh); exact ha_)
  obtain rfl : i = 7 := by omega
  have hd : decide (((7 : Nat) : Int) < ((7 : Nat) : Int)) = false := rfl
  have hof : Sup.off 7 = 36 := rfl
  rw [hof] at hln
  have hl40 : (((s.head 7).length : Nat) : Int) = 40 := by omega
  have hw : IntKind.i64.wrap (60 - 40) = 20 := rfl
  have t20 : Int.toNat 20 = 20 := rfl
  have hse := crc_Seal (s.head 7 ++ List.replicate 20 0) (by rw [Sup.head7_len]; decide)
  have FX := Fx.mk (And.intro @hag <| And.intro @h19 <| And.intro @fln <| And.intro @hd <| And.intro @h5 <| And.intro @b3 <| And.intro @hl40 <| And.intro @hw <| @t20)
  repeat (first | refine v_ ?_ | refine u_ ?_ | refine nl_ ?_ | (refine nz_ ?_; first | (show aWp _ _ _ _ _) | skip) | refine sq_ ?_ | refine rg_ ?_ | refine k_ ?_ | refine ct_ ?_ | refine cf_ ?_ | refine bk_ ?_ | refine sc_ ?_ | (refine sk_ ?_; first | (show aWp _ _ _ _ _) | skip) | (refine ex_ ?_; first | (show aWp _ _ _ _ _) | skip) | refine rt_ ?_)
  have FX := Fx0; refine fz_ 43 ?_
  have FX := Fx0
  repeat (first | refine v_ ?_ | refine u_ ?_ | refine o_ (hse) fun mf kf hmf hkf => ?_ | refine nl_ ?_ | (refine nz_ ?_; first | (show aWp _ _ _ _ _) | skip) | refine sq_ ?_ | refine rg_ ?_ | refine k_ ?_ | refine ct_ ?_ | refine cf_ ?_ | refine bk_ ?_ | refine sc_ ?_ | (refine sk_ ?_; first | (show aWp _ _ _ _ _) | skip) | (refine ex_ ?_; first | (show aWp _ _ _ _ _) | skip) | refine rt_ ?_)
  have hsec : s.sector = Pl.sealS (s.head 7 ++ List.replicate 20 0) := rfl
  (have FX := Fx.mk (And.intro @hsec <| @hh); exact endm_ (mf) Tryd.results14)
#print axioms super_Encode
end Go.Proofs.YtnlanfcboiemaaaDoor.AE
