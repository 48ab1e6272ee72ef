/- octets.Pack alone (where there is no slices.Repeat). -/
import Derived.Test.YthkjahoebkicbaaG1
import Derived.Test.YthkjahoebkicbaaPF
namespace Go.Proofs.Ythkjahoebkicbaa.AE
open Go Go.RowKit Go.Proofs Go.Proofs.Ythkjahoebkicbaa
set_option linter.unusedVariables false
set_option linter.unusedSimpArgs false
set_option maxRecDepth 100000
set_option maxHeartbeats 8000000
theorem octets_Pack (ws vs : List Int) (hf : Pl.fits ws vs) (h1 : 1 ≤ ws.length) (h64 : ws.length ≤ 64) : aOwnM Try.prog 23 [.sl (numB .i64 ws), .sl (numB .u64 vs)] (fun v => .tup [v, .int .i64 0]) 1 (numB .u8 (Pl.flat ws vs)) := by
  have hl := Pl.fits_len hf
  refine aOwnM_body Try.func23 rfl rfl (by simp [Try.ntmps23]) fun hreal h nx hfresh => ?_
  rw [Try.ntmps23]
  have d1 : decide ((ws.length : Int) = (vs.length : Int)) = true := decide_eq_true (by omega)
  have d2 : decide (64 < (ws.length : Int)) = false := decide_eq_false (by omega)
  have hfl : ∀ i, i ≤ ws.length → (Pl.flat (ws.take i) (vs.take i)).length ≤ 8 * i := by
    intro i
    induction i with
    | zero => intro _; simp [Pl.flat]
    | succ i ih =>
      intro hi
      have e1 := List.getElem?_eq_getElem (show i < ws.length by omega)
      have e2 := List.getElem?_eq_getElem (show i < vs.length by omega)
      rw [flat_take ws vs i _ _ e1 e2, List.length_append, Pl.putI_length]
      have := ih (by omega)
      have := fits_get hf e1 e2
      omega
  have FX := Fx.mk (And.intro @d1 <| @d2)
  repeat (first | refine v_ ?_ | refine u_ ?_ | refine nl_ ?_ | (refine nz_ ?_; first | (show aWp _ _ _ _ _) | skip) | refine sq_ ?_ | refine rg_ ?_ | refine k_ ?_ | refine ct_ ?_ | refine cf_ ?_ | refine bk_ ?_ | refine sc_ ?_ | (refine sk_ ?_; first | (show aWp _ _ _ _ _) | skip) | (refine ex_ ?_; first | (show aWp _ _ _ _ _) | skip) | refine rt_ ?_)
  refine W_loopK [0, 1, 21, 22] nx (fun r tm h q => ∃ i : Nat, i ≤ ws.length ∧ r = ws.length - i ∧ tm 23 = .int .i64 i ∧ ((tm 6 = .zs ∧ i = 0) ∨ ∃ m, tm 6 = .hs m 0 (Pl.flat (ws.take i) (vs.take i)).length ∧ nx ≤ m ∧ m < q ∧ h m = some ⟨1, numB .u8 (Pl.flat (ws.take i) (vs.take i))⟩)) ws.length (by omega) ⟨0, Nat.zero_le _, rfl, rfl, .inl ⟨rfl, rfl⟩⟩ ?_
  rintro r tm' h' k' ⟨i, hi, rfl, h23, h6⟩ hag hh hk'
  by_cases hlt : i < ws.length
  · have hd : decide ((i : Int) < (ws.length : Int)) = true := decide_eq_true (by omega)
    have hw : IntKind.i64.wrap (i + 1) = ((i + 1 : Nat) : Int) := by rw [wrapI] <;> omega
    obtain ⟨w, e1⟩ : ∃ w, ws[i]? = some w := ⟨ws[i], List.getElem?_eq_getElem hlt⟩
    obtain ⟨v, e2⟩ : ∃ v, vs[i]? = some v := ⟨vs[i]'(by omega), List.getElem?_eq_getElem _⟩
    obtain ⟨g1, g2, g3, g4⟩ := fits_get hf e1 e2
    have hput := octets_Put v w
    rw [Pl.putS_fits ⟨g1, g2⟩ g4] at hput
    have hpl := Pl.putI_length w.toNat v
    have hfi := hfl i (by omega)
    have hsn := flat_take ws vs i w v e1 e2
    rcases h6 with ⟨h6, rfl⟩ | ⟨m, h6, m1, m2, m3⟩
    · have hsn0 : Pl.flat (ws.take (0 + 1)) (vs.take (0 + 1)) = Pl.putI w.toNat v := by rw [hsn]; simp [Pl.flat]
      have FX := Fx.mk (And.intro @hag <| And.intro @h23 <| And.intro @h6 <| And.intro @hh <| And.intro @hd <| And.intro @hw <| And.intro @e1 <| And.intro @e2 <| @hpl)
      repeat (first | refine v_ ?_ | refine u_ ?_ | refine f_ (hput) fun kf hkf => ?_ | refine nl_ ?_ | (refine nz_ ?_; first | (show aWp _ _ _ _ _) | skip) | refine sq_ ?_ | refine rg_ ?_ | refine k_ ?_ | refine ct_ ?_ | refine cf_ ?_ | refine bk_ ?_ | refine sc_ ?_ | (refine sk_ ?_; first | (show aWp _ _ _ _ _) | skip) | (refine ex_ ?_; first | (show aWp _ _ _ _ _) | skip) | refine rt_ ?_)
      refine ⟨ws.length - (0 + 1), by omega, ⟨0 + 1, by omega, rfl, ?_, .inr ⟨kf, ?_, by omega, by simp only; omega, ?_⟩⟩, ?_, ?_, by simp only; omega, rfl⟩
      · (have FX := Fx0; exact cl_)
      · (have FX := Fx.mk (And.intro @hsn0 <| @hpl); exact cl_)
      · (have FX := Fx.mk (@hsn0); exact cl_)
      · repeat (refine KAgree.upd rfl ?_)
        first | exact KAgree.refl _ _ | exact hag
      · exact (by have FX := Fx.mk (@hh); exact ha_)
    · have FX := Fx.mk (And.intro @hag <| And.intro @h23 <| And.intro @h6 <| And.intro @m3 <| And.intro @hh <| And.intro @hd <| And.intro @hw <| And.intro @e1 <| And.intro @e2 <| @hpl)
      repeat (first | refine v_ ?_ | refine u_ ?_ | refine f_ (hput) fun kf hkf => ?_ | refine nl_ ?_ | (refine nz_ ?_; first | (show aWp _ _ _ _ _) | skip) | refine sq_ ?_ | refine rg_ ?_ | refine k_ ?_ | refine ct_ ?_ | refine cf_ ?_ | refine bk_ ?_ | refine sc_ ?_ | (refine sk_ ?_; first | (show aWp _ _ _ _ _) | skip) | (refine ex_ ?_; first | (show aWp _ _ _ _ _) | skip) | refine rt_ ?_)
      refine ⟨ws.length - (i + 1), by omega, ⟨i + 1, by omega, rfl, ?_, .inr ⟨kf, ?_, by omega, by simp only; omega, ?_⟩⟩, ?_, ?_, by simp only; omega, rfl⟩
      · (have FX := Fx0; exact cl_)
      · (have FX := Fx.mk (And.intro @hsn <| @hpl); exact cl_)
      · (have FX := Fx.mk (@hsn); exact cl_)
      · repeat (refine KAgree.upd rfl ?_)
        first | exact KAgree.refl _ _ | exact hag
      · exact (by have FX := Fx.mk (@hh); exact ha_)
  · obtain rfl : i = ws.length := by omega
    have hd : decide ((ws.length : Int) < (ws.length : Int)) = false := by simp
    rcases h6 with ⟨h6, h7⟩ | ⟨m, h6, m1, m2, m3⟩
    · omega
    · rw [List.take_length, hl, List.take_length] at h6 m3
      have FX := Fx.mk (And.intro @hag <| And.intro @h23 <| And.intro @h6 <| And.intro @m3 <| And.intro @hh <| @hd)
      repeat (first | refine v_ ?_ | refine u_ ?_ | refine nl_ ?_ | (refine nz_ ?_; first | (show aWp _ _ _ _ _) | skip) | refine sq_ ?_ | refine rg_ ?_ | refine k_ ?_ | refine ct_ ?_ | refine cf_ ?_ | refine bk_ ?_ | refine sc_ ?_ | (refine sk_ ?_; first | (show aWp _ _ _ _ _) | skip) | (refine ex_ ?_; first | (show aWp _ _ _ _ _) | skip) | refine rt_ ?_)
      (have FX := Fx.mk (And.intro @hag <| And.intro @h6 <| And.intro @m3 <| @hh); exact endm_ (m) Try.results23)
end Go.Proofs.Ythkjahoebkicbaa.AE
