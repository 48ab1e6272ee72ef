/- Layer 1: octets.Pack where it answers nothing; Read at the example; alive. -/
import Derived.Test.YthkjahoebkicbaaG12
import Derived.Test.YthkjahoebkicbaaG2
import Derived.Test.YthkjahoebkicbaaC4
namespace Go.Proofs.Ythkjahoebkicbaa.AE
open Go Go.RowKit Go.Proofs Go.Proofs.Ythkjahoebkicbaa
set_option linter.unusedVariables false
set_option linter.unusedSimpArgs false
set_option maxRecDepth 100000
set_option maxHeartbeats 8000000
/-! ### lists of widths and numbers, one behind the other -/
theorem fits_append : ∀ {ws vs ps qs : List Int}, ws.length = vs.length → (Pl.fits (ws ++ ps) (vs ++ qs) ↔ Pl.fits ws vs ∧ Pl.fits ps qs)
  | [], [], ps, qs, _ => by simp [Pl.fits]
  | w :: ws, v :: vs, ps, qs, h => by
    have := fits_append (ps := ps) (qs := qs) (show ws.length = vs.length by simpa using h)
    simp only [List.cons_append, Pl.fits, this]
    constructor
    · rintro ⟨h1, h2, h3⟩; exact ⟨⟨h1, h2⟩, h3⟩
    · rintro ⟨⟨h1, h2⟩, h3⟩; exact ⟨h1, h2, h3⟩
  | [], _ :: _, _, _, h => by simp at h
  | _ :: _, [], _, _, h => by simp at h
theorem flat_append : ∀ {ws vs ps qs : List Int}, ws.length = vs.length → Pl.flat (ws ++ ps) (vs ++ qs) = Pl.flat ws vs ++ Pl.flat ps qs
  | [], [], ps, qs, _ => by simp [Pl.flat]
  | w :: ws, v :: vs, ps, qs, h => by
    have := flat_append (ps := ps) (qs := qs) (show ws.length = vs.length by simpa using h)
    simp only [List.cons_append, Pl.flat, this, List.append_assoc]
  | [], _ :: _, _, _, h => by simp at h
  | _ :: _, [], _, _, h => by simp at h
theorem packGo_snd (ws vs acc acc' : List Int) : (Pl.packGo ws vs acc).2 = (Pl.packGo ws vs acc').2 := by
  induction ws generalizing vs acc acc' with
  | nil => simp [Pl.packGo]
  | cons w ws ih =>
    cases vs with
    | nil => simp [Pl.packGo]
    | cons v vs =>
      simp only [Pl.packGo]
      split
      · exact ih _ _ _
      · rfl
/-- The error of the first number that does not fit. -/
theorem packGo_get : ∀ (ws vs : List Int), ws.length = vs.length → (∀ v ∈ vs, 0 ≤ v) → ¬ Pl.fits ws vs → ∃ i w v, ws[i]? = some w ∧ vs[i]? = some v ∧ (Pl.putS v w).2 ≠ 0 ∧ (Pl.packGo ws vs []).2 = (Pl.putS v w).2 ∧ Pl.fits (ws.take i) (vs.take i)
  | [], [], _, _, hb => absurd (by simp [Pl.fits]) hb
  | w :: ws, v :: vs, h, hv, hb => by
    by_cases h0 : (Pl.putS v w).2 = 0
    · obtain ⟨q1, q2, q3⟩ := Pl.putS_ok h0
      have hb2 : ¬ Pl.fits ws vs := fun q => hb ⟨⟨q1.1, q1.2, hv v (by simp), q2⟩, q⟩
      obtain ⟨i, w', v', g1, g2, g3, g4, g5⟩ := packGo_get ws vs (by simpa using h) (fun x hx => hv x (by simp [hx])) hb2
      refine ⟨i + 1, w', v', by simpa using g1, by simpa using g2, g3, ?_, by simpa using ⟨⟨q1.1, q1.2, hv v (by simp), q2⟩, g5⟩⟩
      simp only [Pl.packGo, h0, if_true]
      rw [packGo_snd _ _ _ []]
      exact g4
    · exact ⟨0, w, v, rfl, rfl, h0, by simp [Pl.packGo, h0], by simp [Pl.fits]⟩
  | [], _ :: _, h, _, _ => by simp at h
  | _ :: _, [], h, _, _ => by simp at h
theorem octets_Pack_nil : aFun Try.prog 23 [.sl [], .sl []] (.tup [.zs, .int .i64 0]) := fun h nx => by
  refine aCalls_mono (R := fun e h' k' => ∃ a, e = .ret a ∧ (a = .tup [.zs, .int .i64 0] ∧ h' = h ∧ nx ≤ k')) ?_ (by rintro e h' k' ⟨a, rfl, rfl, rfl, q⟩; exact ⟨rfl, rfl, q⟩)
  refine aR_body Try.func23 rfl rfl (by simp [Try.ntmps23]) fun hreal hfresh => ?_
  rw [Try.ntmps23]
  have FX := Fx0
  repeat (first | refine v_ ?_ | refine u_ ?_ | refine nl_ ?_ | (refine nz_ ?_; first | (show aWp _ _ _ _ _) | skip) | refine sq_ ?_ | refine rg_ ?_ | refine k_ ?_ | refine ct_ ?_ | refine cf_ ?_ | refine bk_ ?_ | refine sc_ ?_ | (refine sk_ ?_; first | (show aWp _ _ _ _ _) | skip) | (refine ex_ ?_; first | (show aWp _ _ _ _ _) | skip) | refine rt_ ?_)
  refine W_loopK [21, 22] nx (fun r tm h' q => tm 23 = .int .i64 0 ∧ tm 6 = .zs ∧ h' = h) 0 (by omega) ⟨by (have FX := Fx0; exact cl_), by (have FX := Fx0; exact cl_), rfl⟩ ?_
  rintro r tm' h' k' ⟨h23, h6, rfl⟩ hag hh hk'
  have FX := Fx.mk (And.intro @hag <| And.intro @h23 <| @h6)
  repeat (first | refine v_ ?_ | refine u_ ?_ | refine nl_ ?_ | (refine nz_ ?_; first | (show aWp _ _ _ _ _) | skip) | refine sq_ ?_ | refine rg_ ?_ | refine k_ ?_ | refine ct_ ?_ | refine cf_ ?_ | refine bk_ ?_ | refine sc_ ?_ | (refine sk_ ?_; first | (show aWp _ _ _ _ _) | skip) | (refine ex_ ?_; first | (show aWp _ _ _ _ _) | skip) | refine rt_ ?_)
  exact W_endR (by rw [Try.results23]) (by (have FX := Fx0; exact cr_)) ⟨rfl, rfl, by omega⟩
theorem octets_Pack_nil' : aFun Try.prog 23 [.sl [], .sl []] (.tup [.sl [], .int .i64 0]) := by
  refine aFun_body Try.func23 rfl rfl (by simp [Try.ntmps23]) fun hreal h nx hfresh => ?_
  rw [Try.ntmps23]
  have FX := Fx0
  repeat (first | refine v_ ?_ | refine u_ ?_ | refine nl_ ?_ | (refine nz_ ?_; first | (show aWp _ _ _ _ _) | skip) | refine sq_ ?_ | refine rg_ ?_ | refine k_ ?_ | refine ct_ ?_ | refine cf_ ?_ | refine bk_ ?_ | refine sc_ ?_ | (refine sk_ ?_; first | (show aWp _ _ _ _ _) | skip) | (refine ex_ ?_; first | (show aWp _ _ _ _ _) | skip) | refine rt_ ?_)
  refine W_loopK [21, 22] nx (fun r tm h' q => tm 23 = .int .i64 0 ∧ tm 6 = .zs) 0 (by omega) ⟨by (have FX := Fx0; exact cl_), by (have FX := Fx0; exact cl_)⟩ ?_
  rintro r tm' h' k' ⟨h23, h6⟩ hag hh hk'
  have FX := Fx.mk (And.intro @hag <| And.intro @h23 <| @h6)
  repeat (first | refine v_ ?_ | refine u_ ?_ | refine nl_ ?_ | (refine nz_ ?_; first | (show aWp _ _ _ _ _) | skip) | refine sq_ ?_ | refine rg_ ?_ | refine k_ ?_ | refine ct_ ?_ | refine cf_ ?_ | refine bk_ ?_ | refine sc_ ?_ | (refine sk_ ?_; first | (show aWp _ _ _ _ _) | skip) | (refine ex_ ?_; first | (show aWp _ _ _ _ _) | skip) | refine rt_ ?_)
  (have FX := Fx.mk (@hh); exact end_ Try.results23)
theorem octets_Pack_bad (ws vs : List Int) (hl : ws.length = vs.length) (h64 : ws.length ≤ 64) (hv : ∀ v ∈ vs, 0 ≤ v) (hb : ¬ Pl.fits ws vs) : ∃ e : Int, e ≠ 0 ∧ aFun Try.prog 23 [.sl (numB .i64 ws), .sl (numB .u64 vs)] (.tup [.sl [], .int .i64 e]) := by
  obtain ⟨j, w0, v0, j1, j2, j3, _, hf⟩ := packGo_get ws vs hl hv hb
  refine ⟨(Pl.putS v0 w0).2, j3, ?_⟩
  have hj := (List.getElem?_eq_some_iff.1 j1).1
  have d1 : decide ((ws.length : Int) = (vs.length : Int)) = true := decide_eq_true (by omega)
  have d2 : decide (64 < (ws.length : Int)) = false := decide_eq_false (by omega)
  have hfl : ∀ i, i ≤ j → (Pl.flat (ws.take i) (vs.take i)).length ≤ 8 * i := by
    intro i
    induction i with
    | zero => intro _; simp [Pl.flat]
    | succ i ih =>
      intro hi
      have e1 := List.getElem?_eq_getElem (show i < ws.length by omega)
      have e2 := List.getElem?_eq_getElem (show i < vs.length by omega)
      rw [flat_take ws vs i _ _ e1 e2, List.length_append, Pl.putI_length]
      have := ih (by omega)
      have := fits_get hf (i := i) (by rw [List.getElem?_take_of_lt (by omega)]; exact e1) (by rw [List.getElem?_take_of_lt (by omega)]; exact e2)
      omega
  have j3' : decide ((Pl.putS v0 w0).2 = 0) = false := decide_eq_false j3
  have hputj := octets_Put v0 w0
  rw [Pl.putS_bad j3] at hputj
  generalize (Pl.putS v0 w0).2 = e0 at *
  refine aFun_body Try.func23 rfl rfl (by simp [Try.ntmps23]) fun hreal h nx hfresh => ?_
  rw [Try.ntmps23]
  have FX := Fx.mk (And.intro @d1 <| @d2)
  repeat (first | refine v_ ?_ | refine u_ ?_ | refine nl_ ?_ | (refine nz_ ?_; first | (show aWp _ _ _ _ _) | skip) | refine sq_ ?_ | refine rg_ ?_ | refine k_ ?_ | refine ct_ ?_ | refine cf_ ?_ | refine bk_ ?_ | refine sc_ ?_ | (refine sk_ ?_; first | (show aWp _ _ _ _ _) | skip) | (refine ex_ ?_; first | (show aWp _ _ _ _ _) | skip) | refine rt_ ?_)
  refine W_loopK [0, 1, 21, 22] nx (fun r tm h q => ∃ i : Nat, i ≤ j ∧ r = j - i ∧ tm 23 = .int .i64 i ∧ ((tm 6 = .zs ∧ i = 0) ∨ ∃ m, tm 6 = .hs m 0 (Pl.flat (ws.take i) (vs.take i)).length ∧ nx ≤ m ∧ m < q ∧ h m = some ⟨1, numB .u8 (Pl.flat (ws.take i) (vs.take i))⟩)) j (by omega) ⟨0, Nat.zero_le _, rfl, rfl, .inl ⟨rfl, rfl⟩⟩ ?_
  rintro r tm' h' k' ⟨i, hi, rfl, h23, h6⟩ hag hh hk'
  have hd : decide ((i : Int) < (ws.length : Int)) = true := decide_eq_true (by omega)
  by_cases hlt : i < j
  · have hw : IntKind.i64.wrap (i + 1) = ((i + 1 : Nat) : Int) := by rw [wrapI] <;> omega
    obtain ⟨w, e1⟩ : ∃ w, ws[i]? = some w := ⟨ws[i], List.getElem?_eq_getElem (by omega)⟩
    obtain ⟨v, e2⟩ : ∃ v, vs[i]? = some v := ⟨vs[i]'(by omega), List.getElem?_eq_getElem _⟩
    obtain ⟨g1, g2, g3, g4⟩ := fits_get hf (i := i) (w := w) (v := v) (by rw [List.getElem?_take_of_lt (by omega)]; exact e1) (by rw [List.getElem?_take_of_lt (by omega)]; exact e2)
    have hput := octets_Put v w
    rw [Pl.putS_fits ⟨g1, g2⟩ g4] at hput
    have hpl := Pl.putI_length w.toNat v
    have hfi := hfl i (by omega)
    have hsn := flat_take ws vs i w v e1 e2
    rcases h6 with ⟨h6, rfl⟩ | ⟨m, h6, m1, m2, m3⟩
    · have hsn0 : Pl.flat (ws.take (0 + 1)) (vs.take (0 + 1)) = Pl.putI w.toNat v := by rw [hsn]; simp [Pl.flat]
      have FX := Fx.mk (And.intro @hag <| And.intro @h23 <| And.intro @h6 <| And.intro @hh <| And.intro @hd <| And.intro @hw <| And.intro @e1 <| And.intro @e2 <| @hpl)
      repeat (first | refine v_ ?_ | refine u_ ?_ | refine f_ (hput) fun kf hkf => ?_ | refine nl_ ?_ | (refine nz_ ?_; first | (show aWp _ _ _ _ _) | skip) | refine sq_ ?_ | refine rg_ ?_ | refine k_ ?_ | refine ct_ ?_ | refine cf_ ?_ | refine bk_ ?_ | refine sc_ ?_ | (refine sk_ ?_; first | (show aWp _ _ _ _ _) | skip) | (refine ex_ ?_; first | (show aWp _ _ _ _ _) | skip) | refine rt_ ?_)
      refine ⟨j - (0 + 1), by omega, ⟨0 + 1, by omega, rfl, ?_, .inr ⟨kf, ?_, by omega, by simp only; omega, ?_⟩⟩, ?_, ?_, by simp only; omega, rfl⟩
      · (have FX := Fx0; exact cl_)
      · (have FX := Fx.mk (And.intro @hsn0 <| @hpl); exact cl_)
      · (have FX := Fx.mk (@hsn0); exact cl_)
      · repeat (refine KAgree.upd rfl ?_)
        first | exact KAgree.refl _ _ | exact hag
      · exact (by have FX := Fx.mk (@hh); exact ha_)
    · have FX := Fx.mk (And.intro @hag <| And.intro @h23 <| And.intro @h6 <| And.intro @m3 <| And.intro @hh <| And.intro @hd <| And.intro @hw <| And.intro @e1 <| And.intro @e2 <| @hpl)
      repeat (first | refine v_ ?_ | refine u_ ?_ | refine f_ (hput) fun kf hkf => ?_ | refine nl_ ?_ | (refine nz_ ?_; first | (show aWp _ _ _ _ _) | skip) | refine sq_ ?_ | refine rg_ ?_ | refine k_ ?_ | refine ct_ ?_ | refine cf_ ?_ | refine bk_ ?_ | refine sc_ ?_ | (refine sk_ ?_; first | (show aWp _ _ _ _ _) | skip) | (refine ex_ ?_; first | (show aWp _ _ _ _ _) | skip) | refine rt_ ?_)
      refine ⟨j - (i + 1), by omega, ⟨i + 1, by omega, rfl, ?_, .inr ⟨kf, ?_, by omega, by simp only; omega, ?_⟩⟩, ?_, ?_, by simp only; omega, rfl⟩
      · (have FX := Fx0; exact cl_)
      · (have FX := Fx.mk (And.intro @hsn <| @hpl); exact cl_)
      · (have FX := Fx.mk (@hsn); exact cl_)
      · repeat (refine KAgree.upd rfl ?_)
        first | exact KAgree.refl _ _ | exact hag
      · exact (by have FX := Fx.mk (@hh); exact ha_)
  · obtain rfl : i = j := by omega
    have FX := Fx.mk (And.intro @hag <| And.intro @h23 <| And.intro @hh <| And.intro @hd <| And.intro @j1 <| And.intro @j2 <| And.intro @j3' <| @Bool.not_false)
    repeat (first | refine v_ ?_ | refine u_ ?_ | refine f_ (hputj) fun kf hkf => ?_ | refine nl_ ?_ | (refine nz_ ?_; first | (show aWp _ _ _ _ _) | skip) | refine sq_ ?_ | refine rg_ ?_ | refine k_ ?_ | refine ct_ ?_ | refine cf_ ?_ | refine bk_ ?_ | refine sc_ ?_ | (refine sk_ ?_; first | (show aWp _ _ _ _ _) | skip) | (refine ex_ ?_; first | (show aWp _ _ _ _ _) | skip) | refine rt_ ?_)
    (have FX := Fx.mk (And.intro @hag <| @hh); exact end_ Try.results23)
end Go.Proofs.Ythkjahoebkicbaa.AE
