/- Layer 4's page: Pack, Unpack, Encode. -/
import Derived.Test.YtnlanfcboiemaaaDoorS2
import Derived.Test.YtnlanfcboiemaaaDoorS4
import Derived.Test.YtnlanfcboiemaaaDoorG1
import Derived.Test.YtnlanfcboiemaaaDoorG2
import Derived.Test.YtnlanfcboiemaaaDoorG3
import Derived.Test.YtnlanfcboiemaaaDoorG4
import Derived.Test.YtnlanfcboiemaaaDoorG8
namespace Go.Proofs.YtnlanfcboiemaaaDoor.AE
open Go Go.RowKit Go.Proofs Go.Proofs.YtnlanfcboiemaaaDoor
set_option linter.unusedVariables false
set_option linter.unusedSimpArgs false
set_option maxRecDepth 100000
set_option maxHeartbeats 8000000
theorem flat8 (ws vs : List Int) (hf : Pl.fits ws vs) : ∀ i, i ≤ ws.length → (Pl.flat (ws.take i) (vs.take i)).length ≤ 8 * i
  | 0, _ => by simp [Pl.flat]
  | i + 1, hi => by
    have hl := Pl.fits_len hf
    have e1 := List.getElem?_eq_getElem (show i < ws.length by omega)
    have e2 := List.getElem?_eq_getElem (show i < vs.length by omega)
    rw [flat_take ws vs i _ _ e1 e2, List.length_append, Pl.putI_length]
    have := flat8 ws vs hf i (by omega)
    have := fits_get hf e1 e2
    omega
theorem ref01_Pack (ws vs : List Int) (hf : Pl.fits ws vs) (h1 : 1 ≤ ws.length) (h64 : ws.length ≤ 64) : aOwnM Tryd.prog 32 [.sl (numB .i64 ws), .sl (numB .u64 vs)] (fun v => .tup [v, .int .i64 0]) 1 (numB .u8 (Pl.flat ws vs)) := by
  have hl := Pl.fits_len hf
  have hfl := flat8 ws vs hf
  refine aOwnM_body Tryd.func32 rfl rfl (by simp [Tryd.ntmps32]) fun hreal h nx hfresh => ?_
  rw [Tryd.ntmps32]
  have d1 : decide ((ws.length : Int) = (vs.length : Int)) = true := decide_eq_true (by omega)
  have d2 : decide (64 < (ws.length : Int)) = false := decide_eq_false (by omega)
  have d0 : decide ((0 : Int) = 0) = true := rfl
  have FX := Fx.mk (And.intro @d1 <| And.intro @d2 <| @Bool.not_true)
  repeat (first | refine v_ ?_ | refine u_ ?_ | refine nl_ ?_ | (refine nz_ ?_; first | (show aWp _ _ _ _ _) | skip) | refine sq_ ?_ | refine rg_ ?_ | refine k_ ?_ | refine ct_ ?_ | refine cf_ ?_ | refine bk_ ?_ | refine sc_ ?_ | (refine sk_ ?_; first | (show aWp _ _ _ _ _) | skip) | (refine ex_ ?_; first | (show aWp _ _ _ _ _) | skip) | refine rt_ ?_)
  refine W_loopK [0, 1] nx (fun r tm h q => ∃ i : Nat, i ≤ ws.length ∧ r = ws.length - i ∧ tm 7 = .int .i64 i ∧ ((tm 6 = .zs ∧ i = 0) ∨ ∃ m, tm 6 = .hs m 0 (Pl.flat (ws.take i) (vs.take i)).length ∧ nx ≤ m ∧ m < q ∧ h m = some ⟨1, numB .u8 (Pl.flat (ws.take i) (vs.take i))⟩)) ws.length (by omega) ⟨0, Nat.zero_le _, rfl, rfl, .inl ⟨rfl, rfl⟩⟩ ?_
  rintro r tm' h' k' ⟨i, hi, rfl, h23, h6⟩ hag hh hk'
  by_cases hlt : i < ws.length
  · have hd : decide ((i : Int) < (ws.length : Int)) = true := decide_eq_true (by omega)
    have hw : IntKind.i64.wrap (i + 1) = ((i + 1 : Nat) : Int) := by rw [wrapI] <;> omega
    obtain ⟨w, e1⟩ : ∃ w, ws[i]? = some w := ⟨ws[i], List.getElem?_eq_getElem hlt⟩
    obtain ⟨v, e2⟩ : ∃ v, vs[i]? = some v := ⟨vs[i]'(by omega), List.getElem?_eq_getElem _⟩
    obtain ⟨g1, g2, g3, g4⟩ := fits_get hf e1 e2
    have hput := ref01_Put v w
    rw [Pl.putS_fits ⟨g1, g2⟩ g4] at hput
    have hpl := Pl.putI_length w.toNat v
    have hfi := hfl i (by omega)
    have hsn := flat_take ws vs i w v e1 e2
    rcases h6 with ⟨h6, rfl⟩ | ⟨m, h6, m1, m2, m3⟩
    · have hsn0 : Pl.flat (ws.take (0 + 1)) (vs.take (0 + 1)) = Pl.putI w.toNat v := by rw [hsn]; simp [Pl.flat]
      have FX := Fx.mk (And.intro @hag <| And.intro @h23 <| And.intro @h6 <| And.intro @hh <| And.intro @hd <| And.intro @hw <| And.intro @e1 <| And.intro @e2 <| @hpl)
      repeat (first | refine v_ ?_ | refine u_ ?_ | refine nl_ ?_ | (refine nz_ ?_; first | (show aWp _ _ _ _ _) | skip) | refine sq_ ?_ | refine rg_ ?_ | refine k_ ?_ | refine ct_ ?_ | refine cf_ ?_ | refine bk_ ?_ | refine sc_ ?_ | (refine sk_ ?_; first | (show aWp _ _ _ _ _) | skip) | (refine ex_ ?_; first | (show aWp _ _ _ _ _) | skip) | refine rt_ ?_)
      have FX := Fx.mk (And.intro @hag <| And.intro @h23 <| And.intro @h6 <| And.intro @hh <| And.intro @hd <| And.intro @hw <| And.intro @e1 <| @e2)
      refine W_draw mixed rfl rfl ?_
      repeat (first | refine dq_ ?_ | refine df_ (hput) ?_ | refine dr_ [nx] ?_ | refine dk_ ?_ | refine dn_ ?_)
      refine fun kd hkd => ?_
      simp only [List.length_cons, List.length_nil] at hkd
      first | (show aWp _ _ _ _ _) | skip
      have FX := Fx.mk (And.intro @hag <| And.intro @h23 <| And.intro @h6 <| And.intro @hh <| And.intro @hw <| And.intro @d0 <| And.intro @hpl <| @Bool.not_true)
      repeat (first | refine v_ ?_ | refine u_ ?_ | refine nl_ ?_ | (refine nz_ ?_; first | (show aWp _ _ _ _ _) | skip) | refine sq_ ?_ | refine rg_ ?_ | refine k_ ?_ | refine ct_ ?_ | refine cf_ ?_ | refine bk_ ?_ | refine sc_ ?_ | (refine sk_ ?_; first | (show aWp _ _ _ _ _) | skip) | (refine ex_ ?_; first | (show aWp _ _ _ _ _) | skip) | refine rt_ ?_)
      refine ⟨ws.length - (0 + 1), by omega, ⟨0 + 1, by omega, rfl, ?_, .inr ⟨kd, ?_, by omega, by simp only; omega, ?_⟩⟩, ?_, ?_, by simp only; omega, rfl⟩
      · (have FX := Fx0; exact cl_)
      · (have FX := Fx.mk (And.intro @hsn0 <| @hpl); exact cl_)
      · (have FX := Fx.mk (@hsn0); exact cl_)
      · repeat (refine KAgree.upd rfl ?_)
        first | exact KAgree.refl _ _ | exact hag
      · exact (by have FX := Fx.mk (@hh); exact ha_)
    · have FX := Fx.mk (And.intro @hag <| And.intro @h23 <| And.intro @h6 <| And.intro @m3 <| And.intro @hh <| And.intro @hd <| And.intro @hw <| And.intro @e1 <| And.intro @e2 <| @hpl)
      repeat (first | refine v_ ?_ | refine u_ ?_ | refine nl_ ?_ | (refine nz_ ?_; first | (show aWp _ _ _ _ _) | skip) | refine sq_ ?_ | refine rg_ ?_ | refine k_ ?_ | refine ct_ ?_ | refine cf_ ?_ | refine bk_ ?_ | refine sc_ ?_ | (refine sk_ ?_; first | (show aWp _ _ _ _ _) | skip) | (refine ex_ ?_; first | (show aWp _ _ _ _ _) | skip) | refine rt_ ?_)
      have FX := Fx.mk (And.intro @hag <| And.intro @h23 <| And.intro @h6 <| And.intro @hh <| And.intro @hd <| And.intro @hw <| And.intro @e1 <| @e2)
      refine W_draw mixed rfl rfl ?_
      repeat (first | refine dq_ ?_ | refine df_ (hput) ?_ | refine dr_ [nx] ?_ | refine dk_ ?_ | refine dn_ ?_)
      refine fun kd hkd => ?_
      simp only [List.length_cons, List.length_nil] at hkd
      first | (show aWp _ _ _ _ _) | skip
      have FX := Fx.mk (And.intro @hag <| And.intro @h23 <| And.intro @h6 <| And.intro @m3 <| And.intro @hh <| And.intro @hw <| And.intro @d0 <| And.intro @hpl <| @Bool.not_true)
      repeat (first | refine v_ ?_ | refine u_ ?_ | refine nl_ ?_ | (refine nz_ ?_; first | (show aWp _ _ _ _ _) | skip) | refine sq_ ?_ | refine rg_ ?_ | refine k_ ?_ | refine ct_ ?_ | refine cf_ ?_ | refine bk_ ?_ | refine sc_ ?_ | (refine sk_ ?_; first | (show aWp _ _ _ _ _) | skip) | (refine ex_ ?_; first | (show aWp _ _ _ _ _) | skip) | refine rt_ ?_)
      refine ⟨ws.length - (i + 1), by omega, ⟨i + 1, by omega, rfl, ?_, .inr ⟨kd, ?_, by omega, by simp only; omega, ?_⟩⟩, ?_, ?_, by simp only; omega, rfl⟩
      · (have FX := Fx0; exact cl_)
      · (have FX := Fx.mk (And.intro @hsn <| @hpl); exact cl_)
      · (have FX := Fx.mk (@hsn); exact cl_)
      · repeat (refine KAgree.upd rfl ?_)
        first | exact KAgree.refl _ _ | exact hag
      · exact (by have FX := Fx.mk (@hh); exact ha_)
  · obtain rfl : i = ws.length := by omega
    have hd : decide ((ws.length : Int) < (ws.length : Int)) = false := by simp
    rcases h6 with ⟨h6, h7⟩ | ⟨m, h6, m1, m2, m3⟩
    · omega
    · rw [List.take_length, hl, List.take_length] at h6 m3
      have FX := Fx.mk (And.intro @hag <| And.intro @h23 <| And.intro @h6 <| And.intro @m3 <| And.intro @hh <| @hd)
      repeat (first | refine v_ ?_ | refine u_ ?_ | refine nl_ ?_ | (refine nz_ ?_; first | (show aWp _ _ _ _ _) | skip) | refine sq_ ?_ | refine rg_ ?_ | refine k_ ?_ | refine ct_ ?_ | refine cf_ ?_ | refine bk_ ?_ | refine sc_ ?_ | (refine sk_ ?_; first | (show aWp _ _ _ _ _) | skip) | (refine ex_ ?_; first | (show aWp _ _ _ _ _) | skip) | refine rt_ ?_)
      (have FX := Fx.mk (And.intro @hag <| And.intro @h6 <| And.intro @m3 <| @hh); exact endm_ (m) Tryd.results32)
theorem ref04_widths : aFun Tryd.prog 33 [] (.sl (numB .i64 wid4)) := by
  refine aFun_body Tryd.func33 rfl rfl (by simp [Tryd.ntmps33]) fun hreal h nx hfresh => ?_
  rw [Tryd.ntmps33]
  have FX := Fx0
  repeat (first | refine v_ ?_ | refine u_ ?_ | refine nl_ ?_ | (refine nz_ ?_; first | (show aWp _ _ _ _ _) | skip) | refine sq_ ?_ | refine rg_ ?_ | refine k_ ?_ | refine ct_ ?_ | refine cf_ ?_ | refine bk_ ?_ | refine sc_ ?_ | (refine sk_ ?_; first | (show aWp _ _ _ _ _) | skip) | (refine ex_ ?_; first | (show aWp _ _ _ _ _) | skip) | refine rt_ ?_)
  have e : numB .i64 wid4 = [[.int .i64 8], [.int .i64 4], [.int .i64 4], [.int .i64 4], [.int .i64 4], [.int .i64 8], [.int .i64 4]] := rfl
  rw [e]
  (have FX := Fx0; exact end_ Tryd.results33)
theorem ref04_Encode_bad (s : Sup) (hno : ¬ s.ok) : aFun Tryd.prog 19 [s.av] (.tup [.sl [], .int .i64 4]) := by
  have ce : s.cells = [.int .i64 s.e, .int .i64 s.v, .int .i64 s.j, .int .i64 s.p, .int .i64 s.d, .int .i64 s.s, .int .i64 s.r] := rfl
  have ck := ref04_Check s
  rw [show s.chk = 4 from if_neg hno] at ck
  have d4 : decide ((4 : Int) = 0) = false := rfl
  unfold Sup.av at ck ⊢
  rw [ce] at ck ⊢
  refine aFun_body Tryd.func19 rfl rfl (by simp [Tryd.ntmps19]) fun hreal h nx hfresh => ?_
  rw [Tryd.ntmps19]
  have FX := Fx.mk (And.intro @d4 <| @Bool.not_false)
  repeat (first | refine v_ ?_ | refine u_ ?_ | refine f_ (ck) fun kf hkf => ?_ | refine nl_ ?_ | (refine nz_ ?_; first | (show aWp _ _ _ _ _) | skip) | refine sq_ ?_ | refine rg_ ?_ | refine k_ ?_ | refine ct_ ?_ | refine cf_ ?_ | refine bk_ ?_ | refine sc_ ?_ | (refine sk_ ?_; first | (show aWp _ _ _ _ _) | skip) | (refine ex_ ?_; first | (show aWp _ _ _ _ _) | skip) | refine rt_ ?_)
  (have FX := Fx0; exact end_ Tryd.results19)
theorem ref04_Encode (s : Sup) (hok : s.ok) : aFun Tryd.prog 19 [s.av] (.tup [.sl (numB .u8 s.sector), .int .i64 0]) := by
  have ce : s.cells = [.int .i64 s.e, .int .i64 s.v, .int .i64 s.j, .int .i64 s.p, .int .i64 s.d, .int .i64 s.s, .int .i64 s.r] := rfl
  have ck := ref04_Check s
  rw [show s.chk = 0 from if_pos hok] at ck
  have d0 : decide ((0 : Int) = 0) = true := rfl
  have pk := (ref01_Pack wid4 s.vals (s.fits hok) (by decide) (by decide)).fn_tup
  obtain ⟨g0, g1, g2, g3, g4, g5, g6⟩ := s.ok_iff.1 hok
  have v0 : IntKind.u64.wrap s.e = s.e := by rw [wrapU] <;> omega
  have v1 : IntKind.u64.wrap s.v = s.v := by rw [wrapU] <;> omega
  have v2 : IntKind.u64.wrap s.j = s.j := by rw [wrapU] <;> omega
  have v3 : IntKind.u64.wrap s.p = s.p := by rw [wrapU] <;> omega
  have v4 : IntKind.u64.wrap s.d = s.d := by rw [wrapU] <;> omega
  have v5 : IntKind.u64.wrap s.s = s.s := by rw [wrapU] <;> omega
  have v6 : IntKind.u64.wrap s.r = s.r := by rw [wrapU] <;> omega
  have hv : s.vals = [s.e, s.v, s.j, s.p, s.d, s.s, s.r] := rfl
  have wd := ref04_widths
  have hfl : (Pl.flat wid4 s.vals).length = 36 := by rw [Pl.flat_len (s.fits hok)]; rfl
  rw [hv] at pk hfl
  have t20 : Int.toNat 20 = 20 := rfl
  unfold Sup.av at ck ⊢
  rw [ce] at ck ⊢
  refine aFun_body Tryd.func19 rfl rfl (by simp [Tryd.ntmps19]) fun hreal h nx hfresh => ?_
  rw [Tryd.ntmps19]
  have FX := Fx.mk (And.intro @d0 <| @Bool.not_true)
  repeat (first | refine v_ ?_ | refine u_ ?_ | refine f_ (ck) fun kf hkf => ?_ | refine nl_ ?_ | (refine nz_ ?_; first | (show aWp _ _ _ _ _) | skip) | refine sq_ ?_ | refine rg_ ?_ | refine k_ ?_ | refine ct_ ?_ | refine cf_ ?_ | refine bk_ ?_ | refine sc_ ?_ | (refine sk_ ?_; first | (show aWp _ _ _ _ _) | skip) | (refine ex_ ?_; first | (show aWp _ _ _ _ _) | skip) | refine rt_ ?_)
  have FX := Fx.mk (And.intro @v0 <| And.intro @v1 <| And.intro @v2 <| And.intro @v3 <| And.intro @v4 <| And.intro @v5 <| @v6)
  refine W_draw mixed rfl rfl ?_
  repeat (first | refine dz_ 32 [nx] ?_ | refine dq_ ?_ | refine df_ (wd) ?_ | refine df_ (pk) ?_ | refine dr_ [nx] ?_ | refine dm_ [nx] ?_ | refine da_ [nx] ?_ | refine ds_ [nx] ?_ | refine dw_ [nx] ?_ | refine dk_ ?_ | refine dn_ ?_)
  refine fun kd hkd => ?_
  simp only [List.length_cons, List.length_nil] at hkd
  first | (show aWp _ _ _ _ _) | skip
  obtain ⟨F, hF⟩ : ∃ F, F = Pl.flat wid4 [s.e, s.v, s.j, s.p, s.d, s.s, s.r] := ⟨_, rfl⟩
  rw [← hF] at hfl
  rw [← hF]
  have hse := ref02_Seal (s.head 7 ++ List.replicate 20 0) (by rw [Sup.head7_len]; decide)
  have hsec : s.sector = Pl.sealS (s.head 7 ++ List.replicate 20 0) := rfl
  have hh7 : s.head 7 = 102 :: 115 :: 116 :: 49 :: F := by rw [hF]; rfl
  rw [← hsec, hh7] at hse
  have hw : IntKind.i64.wrap (60 - ((1 + 1 + 1 + 1 + F.length : Nat) : Int)) = 20 := by rw [hfl]; rfl
  have hta : (102 :: 115 :: 116 :: 49 :: F).take (1 + 1 + 1 + 1 + F.length) = 102 :: 115 :: 116 :: 49 :: F := List.take_of_length_le (by simp; omega)
  rw [show List.replicate 20 (0 : Int) = [0, 0, 0, 0, 0, 0, 0, 0, 0, 0, 0, 0, 0, 0, 0, 0, 0, 0, 0, 0] from rfl] at hse
  simp only [List.cons_append] at hse
  have htb : (102 :: 115 :: 116 :: 49 :: (F ++ [0, 0, 0, 0, 0, 0, 0, 0, 0, 0, 0, 0, 0, 0, 0, 0, 0, 0, 0, 0])).take (F.length + 1 + 1 + 1 + 1 + (1 + 1 + 1 + 1 + 1 + 1 + 1 + 1 + 1 + 1 + 1 + 1 + 1 + 1 + 1 + 1 + 1 + 1 + 1 + 1)) = 102 :: 115 :: 116 :: 49 :: (F ++ [0, 0, 0, 0, 0, 0, 0, 0, 0, 0, 0, 0, 0, 0, 0, 0, 0, 0, 0, 0]) := List.take_of_length_le (by simp)
  have FX := Fx.mk (And.intro @t20 <| And.intro @hw <| @hta)
  repeat (first | refine lit_ ?_ Tryd.underlying31 Tryd.underlying5 | refine v_ ?_ | refine u_ ?_ | refine nl_ ?_ | (refine nz_ ?_; first | (show aWp _ _ _ _ _) | skip) | refine sq_ ?_ | refine rg_ ?_ | refine k_ ?_ | refine ct_ ?_ | refine cf_ ?_ | refine bk_ ?_ | refine sc_ ?_ | (refine sk_ ?_; first | (show aWp _ _ _ _ _) | skip) | (refine ex_ ?_; first | (show aWp _ _ _ _ _) | skip) | refine rt_ ?_)
  have FX := Fx0; refine fz_ 44 ?_
  have FX := Fx.mk (@htb)
  repeat (first | refine v_ ?_ | refine u_ ?_ | refine o_ (hse) fun mf kf hmf hkf => ?_ | refine nl_ ?_ | (refine nz_ ?_; first | (show aWp _ _ _ _ _) | skip) | refine sq_ ?_ | refine rg_ ?_ | refine k_ ?_ | refine ct_ ?_ | refine cf_ ?_ | refine bk_ ?_ | refine sc_ ?_ | (refine sk_ ?_; first | (show aWp _ _ _ _ _) | skip) | (refine ex_ ?_; first | (show aWp _ _ _ _ _) | skip) | refine rt_ ?_)
  (have FX := Fx0; exact end_ Tryd.results19)
end Go.Proofs.YtnlanfcboiemaaaDoor.AE
