/- Layer 7: Encode. -/
import Derived.Test.YtcnofpoffdjbpaaN2
namespace Go.Proofs.Ytcnofpoffdjbpaa.AE
open Go Go.RowKit Go.Proofs Go.Proofs.Ytcnofpoffdjbpaa
set_option linter.unusedVariables false
set_option linter.unusedSimpArgs false
set_option maxRecDepth 100000
set_option maxHeartbeats 8000000
def tallB (kids : List Int) : Bool := decide (0 < kids.length)
def kindI (kids : List Int) : Int := if 0 < kids.length then 2 else 1
def pre1 (l : List (Int × Int)) (kids : List Int) (i : Nat) : List Int := [kindI kids, (l.length : Int), 0] ++ (l.take i).map (·.1)
def pre2 (l : List (Int × Int)) (kids : List Int) (i : Nat) : List Int := pre1 l kids l.length ++ kids.take i
def pre3 (l : List (Int × Int)) (kids : List Int) (i : Nat) : List Int := pre2 l kids kids.length ++ (l.take i).map (·.2)
def valL (l : List (Int × Int)) (kids : List Int) : List Int := pre3 l kids (if 0 < kids.length then 0 else l.length)
def encF (l : List (Int × Int)) (kids : List Int) : List Int := Pl.flat (widL (tallB kids) l.length) (valL l kids)
def padL (b : List Int) : List Int := b ++ List.replicate (60 - b.length) 0
def encS (l : List (Int × Int)) (kids : List Int) : List Int := Pl.sealS (padL (encF l kids))
theorem pre1_len (l : List (Int × Int)) (kids : List Int) (i : Nat) (h : i ≤ l.length) : (pre1 l kids i).length = 3 + i := by simp [pre1]; omega
theorem pre2_len (l : List (Int × Int)) (kids : List Int) (i : Nat) (h : i ≤ kids.length) : (pre2 l kids i).length = 3 + l.length + i := by simp [pre2, pre1]; omega
theorem pre3_len (l : List (Int × Int)) (kids : List Int) (i : Nat) (h : i ≤ l.length) : (pre3 l kids i).length = 3 + l.length + kids.length + i := by simp [pre3, pre2, pre1]; omega
theorem pre1_step (l : List (Int × Int)) (kids : List Int) (i : Nat) (x : Int × Int) (h : l[i]? = some x) : pre1 l kids (i + 1) = pre1 l kids i ++ [x.1] := by simp [pre1, List.take_add_one, h]
theorem pre2_step (l : List (Int × Int)) (kids : List Int) (i : Nat) (x : Int) (h : kids[i]? = some x) : pre2 l kids (i + 1) = pre2 l kids i ++ [x] := by simp [pre2, List.take_add_one, h]
theorem pre3_step (l : List (Int × Int)) (kids : List Int) (i : Nat) (x : Int × Int) (h : l[i]? = some x) : pre3 l kids (i + 1) = pre3 l kids i ++ [x.2] := by simp [pre3, List.take_add_one, h]
theorem pre2_0 (l : List (Int × Int)) (kids : List Int) : pre2 l kids 0 = pre1 l kids l.length := by simp [pre2]
theorem pre3_0 (l : List (Int × Int)) (kids : List Int) : pre3 l kids 0 = pre2 l kids kids.length := by simp [pre3]
theorem fits_append {a b c d : List Int} (h : Pl.fits a b) (k : Pl.fits c d) : Pl.fits (a ++ c) (b ++ d) := by
  induction a generalizing b with
  | nil => cases b with
    | nil => exact k
    | cons _ _ => exact h.elim
  | cons x a ih => cases b with
    | nil => exact h.elim
    | cons y b => exact ⟨h.1, ih h.2⟩
theorem fits_rep {w : Int} (hw : 1 ≤ w ∧ w ≤ 8) : ∀ (n : Nat) (vs : List Int), vs.length = n → (∀ v ∈ vs, 0 ≤ v ∧ v < 256 ^ w.toNat) → Pl.fits (List.replicate n w) vs
  | 0, [], _, _ => trivial
  | n + 1, v :: vs, h, hv => ⟨⟨hw.1, hw.2, (hv v (by simp)).1, (hv v (by simp)).2⟩, fits_rep hw n vs (by simpa using h) fun u hu => hv u (by simp [hu])⟩
theorem val_fits {l : List (Int × Int)} {kids : List Int} (hok : okN l kids) (hit : ∀ x ∈ l, (0 ≤ x.1 ∧ x.1 < 18446744073709551616) ∧ 0 ≤ x.2 ∧ x.2 < 18446744073709551616) : Pl.fits (widL (tallB kids) l.length) (valL l kids) := by
  obtain ⟨h1, h2, h3, h4⟩ := hok
  have hk : ∀ v ∈ kids, 1 ≤ v ∧ v ≤ 2048 := fun v hv => by
    obtain ⟨i, hi⟩ := List.mem_iff_getElem?.1 hv
    have := (h4 i (List.getElem?_eq_some_iff.1 hi).1).1
    rwa [getD_of hi] at this
  have h0 : Pl.fits [1, 1, 2] [kindI kids, (l.length : Int), 0] := by
    have e : kindI kids = 1 ∨ kindI kids = 2 := by unfold kindI; split <;> simp
    refine ⟨⟨by decide, by decide, ?_, ?_⟩, ⟨by decide, by decide, ?_, ?_⟩, ⟨by decide, by decide, by decide, by decide⟩, trivial⟩
    · rcases e with e | e <;> omega
    · rcases e with e | e <;> (rw [e]; decide)
    · omega
    · have : (256 : Int) ^ (1 : Int).toNat = 256 := by decide
      omega
  have hkeys : Pl.fits (List.replicate l.length 8) (l.map (·.1)) := fits_rep (by decide) _ _ (by simp) fun v hv => by
    obtain ⟨x, hx, rfl⟩ := List.mem_map.1 hv
    exact (hit x hx).1
  unfold valL widL tallB pre3 pre2 pre1
  by_cases hkl : 0 < kids.length
  · simp only [hkl, decide_true, if_true, List.take_zero, List.map_nil, List.append_nil, List.take_length]
    refine fits_append (fits_append h0 hkeys) (fits_rep (by decide) _ _ (h2 hkl) fun v hv => ?_)
    have := hk v hv
    have e : (256 : Int) ^ (4 : Int).toNat = 4294967296 := by decide
    omega
  · have : kids = [] := List.eq_nil_of_length_eq_zero (by omega)
    subst this
    simp only [List.length_nil, Nat.lt_irrefl, decide_false, if_false, Bool.false_eq_true, List.take_length, List.take_nil, List.append_nil]
    refine fits_append (fits_append h0 hkeys) (fits_rep (by decide) _ _ (by simp) fun v hv => ?_)
    obtain ⟨x, hx, rfl⟩ := List.mem_map.1 hv
    exact (hit x hx).2
theorem sumN_app (a b : List Int) : Pl.sumN (a ++ b) = Pl.sumN a + Pl.sumN b := by simp [Pl.sumN]
theorem sumN_rep (n : Nat) (w : Int) : Pl.sumN (List.replicate n w) = n * w.toNat := by simp [Pl.sumN]
theorem encF_len {l : List (Int × Int)} {kids : List Int} (hok : okN l kids) (hit : ∀ x ∈ l, (0 ≤ x.1 ∧ x.1 < 18446744073709551616) ∧ 0 ≤ x.2 ∧ x.2 < 18446744073709551616) : (encF l kids).length ≤ 60 := by
  unfold encF
  rw [Pl.flat_len (val_fits hok hit)]
  have h1 := hok.1
  unfold widL
  rw [sumN_app, sumN_app, sumN_rep]
  have e : Pl.sumN [1, 1, 2] = 4 := rfl
  have e8 : (8 : Int).toNat = 8 := rfl
  have e4 : (4 : Int).toNat = 4 := rfl
  split
  · rw [sumN_rep, e, e8, e4]; omega
  · rw [sumN_rep, e, e8]; omega
theorem leaf_Encode (l : List (Int × Int)) (kids : List Int) (hok : okN l kids) : aOwnM Try.prog 11 [nodeV l kids] (fun v => .tup [v, .int .i64 0]) 1 (numB .u8 (encS l kids)) := by
  have e1 := itemB_len l
  have e2 := numB_len .i64 kids
  have hck := leaf_Check l kids
  rw [chk_ok hok] at hck
  have hn := hok.1
  unfold nodeV at hck ⊢
  by_cases hk0 : 0 < kids.length
  · have hk3 := hok.2.1 hk0
    have htall : tallB kids = true := decide_eq_true hk0
    have hkind : kindI kids = 2 := if_pos hk0
    have hwid := widths_tall l.length hn
    have f3 : decide (0 < (kids.length : Int)) = true := decide_eq_true (by omega)
    refine aOwnM_body Try.func11 rfl rfl (by simp [Try.ntmps11]) fun hreal h nx hfresh => ?_
    rw [Try.ntmps11]
    have hit := (Real.node (l := l) (kids := kids) (hreal (nodeV l kids) (by simp [nodeV]))).1.items
    have hF := encF_len hok hit.2
    have hpk := octets_Pack (widL (tallB kids) l.length) (valL l kids) (val_fits hok hit.2) (by unfold widL; simp <;> omega) (by have := hok.1; unfold widL; split <;> simp <;> omega)
    rw [show Pl.flat (widL (tallB kids) l.length) (valL l kids) = encF l kids from rfl, htall] at hpk
    have hwk : IntKind.u64.wrap 2 = 2 := by decide
    have hwl : IntKind.u64.wrap (l.length : Int) = (l.length : Int) := by rw [wrapU] <;> omega
    have d0 : decide ((0 : Int) = 0) = true := rfl
    have hp10 : pre1 l kids 0 = [2, (l.length : Int), 0] := by simp [pre1, hkind]
    have FX := Fx.mk (And.intro @d0 <| And.intro @f3 <| And.intro @e1 <| And.intro @e2 <| And.intro @hwk <| @hwl)
    repeat (first | refine v_ ?_ | refine u_ ?_ | refine f_ (hck) fun kf hkf => ?_ | refine nl_ ?_ | (refine nz_ ?_; first | (show aWp _ _ _ _ _) | skip) | refine sq_ ?_ | refine rg_ ?_ | refine k_ ?_ | refine ct_ ?_ | refine cf_ ?_ | refine bk_ ?_ | refine sc_ ?_ | (refine sk_ ?_; first | (show aWp _ _ _ _ _) | skip) | (refine ex_ ?_; first | (show aWp _ _ _ _ _) | skip) | refine rt_ ?_)
    refine W_loopK [1, 5, 31, 32] (nx + 1) (fun r tm h q => ∃ i m : Nat, i ≤ l.length ∧ r = l.length - i ∧ tm 33 = .int .i64 i ∧ tm 6 = .hs m 0 (3 + i) ∧ nx + 1 ≤ m ∧ m < q ∧ h m = some ⟨1, numB .u64 (pre1 l kids i)⟩) l.length (by omega) ⟨0, _, Nat.zero_le _, rfl, rfl, rfl, ?_, ?_, by (have FX := Fx.mk (@hp10); exact cl_)⟩ ?_
    · omega
    · omega
    rintro r tm' h' k' ⟨i, m, hi, rfl, h33, h6, m1, m2, m3⟩ hag hh hk'
    by_cases hlt : i < l.length
    · have hd : decide ((i : Int) < (l.length : Int)) = true := decide_eq_true (by omega)
      have hw : IntKind.i64.wrap (i + 1) = ((i + 1 : Nat) : Int) := by rw [wrapI] <;> omega
      obtain ⟨x, hx0⟩ : ∃ x, l[i]? = some x := ⟨l[i], List.getElem?_eq_getElem hlt⟩
      have hx := itemB_get l i x hx0
      have hst := pre1_step l kids i x hx0
      have hpl := pre1_len l kids i hi
      have htk := take_len _ _ hpl
      have FX := Fx.mk (And.intro @hag <| And.intro @h33 <| And.intro @h6 <| And.intro @m3 <| And.intro @hh <| And.intro @hd <| And.intro @hw <| And.intro @hx <| And.intro @e1 <| And.intro @e2 <| And.intro @hpl <| @htk)
      repeat (first | refine v_ ?_ | refine u_ ?_ | refine nl_ ?_ | (refine nz_ ?_; first | (show aWp _ _ _ _ _) | skip) | refine sq_ ?_ | refine rg_ ?_ | refine k_ ?_ | refine ct_ ?_ | refine cf_ ?_ | refine bk_ ?_ | refine sc_ ?_ | (refine sk_ ?_; first | (show aWp _ _ _ _ _) | skip) | (refine ex_ ?_; first | (show aWp _ _ _ _ _) | skip) | refine rt_ ?_)
      refine ⟨l.length - (i + 1), by omega, ⟨i + 1, k' + 1 + 1, by omega, rfl, ?_, ?_, by omega, by simp only; omega, ?_⟩, ?_, ?_, by simp only; omega, rfl⟩
      · (have FX := Fx0; exact cl_)
      · (have FX := Fx.mk (@hpl); exact cl_)
      · (have FX := Fx.mk (@hst); exact cl_)
      · repeat (refine KAgree.upd rfl ?_)
        first | exact KAgree.refl _ _ | exact hag
      · exact (by have FX := Fx.mk (@hh); exact ha_)
    obtain rfl : i = l.length := by omega
    have hd : decide ((l.length : Int) < (l.length : Int)) = false := by simp
    have FX := Fx.mk (And.intro @hag <| And.intro @h33 <| And.intro @h6 <| And.intro @hh <| And.intro @hd <| And.intro @e1 <| @e2)
    repeat (first | refine v_ ?_ | refine u_ ?_ | refine nl_ ?_ | (refine nz_ ?_; first | (show aWp _ _ _ _ _) | skip) | refine sq_ ?_ | refine rg_ ?_ | refine k_ ?_ | refine ct_ ?_ | refine cf_ ?_ | refine bk_ ?_ | refine sc_ ?_ | (refine sk_ ?_; first | (show aWp _ _ _ _ _) | skip) | (refine ex_ ?_; first | (show aWp _ _ _ _ _) | skip) | refine rt_ ?_)
    refine W_loopK [1, 5, 44, 45] (nx + 1) (fun r tm h q => ∃ i m : Nat, i ≤ kids.length ∧ r = kids.length - i ∧ tm 46 = .int .i64 i ∧ tm 6 = .hs m 0 (3 + l.length + i) ∧ nx + 1 ≤ m ∧ m < q ∧ h m = some ⟨1, numB .u64 (pre2 l kids i)⟩) kids.length (by omega) ⟨0, m, Nat.zero_le _, rfl, rfl, by (have FX := Fx.mk (@h6); exact cl_), m1, m2, by (have FX := Fx.mk (And.intro @m3 <| @pre2_0); exact cl_)⟩ ?_
    rintro r tm2 h2 k2 ⟨i, m', hi, rfl, h46, h6', m1', m2', m3'⟩ hag2 hh2 hk2
    by_cases hlt : i < kids.length
    · have hd : decide ((i : Int) < (kids.length : Int)) = true := decide_eq_true (by omega)
      have hw : IntKind.i64.wrap (i + 1) = ((i + 1 : Nat) : Int) := by rw [wrapI] <;> omega
      obtain ⟨x, hx⟩ : ∃ x, kids[i]? = some x := ⟨kids[i], List.getElem?_eq_getElem hlt⟩
      have hxr := (hok.2.2.2 i hlt).1
      rw [getD_of hx] at hxr
      have hwx : IntKind.u64.wrap x = x := by rw [wrapU] <;> omega
      have hst := pre2_step l kids i x hx
      have hpl := pre2_len l kids i hi
      have htk := take_len _ _ hpl
      have FX := Fx.mk (And.intro @hag2 <| And.intro @hag <| And.intro @h46 <| And.intro @h6' <| And.intro @m3' <| And.intro @hh2 <| And.intro @hh <| And.intro @hd <| And.intro @hw <| And.intro @hx <| And.intro @hwx <| And.intro @e1 <| And.intro @e2 <| And.intro @hpl <| @htk)
      repeat (first | refine v_ ?_ | refine u_ ?_ | refine nl_ ?_ | (refine nz_ ?_; first | (show aWp _ _ _ _ _) | skip) | refine sq_ ?_ | refine rg_ ?_ | refine k_ ?_ | refine ct_ ?_ | refine cf_ ?_ | refine bk_ ?_ | refine sc_ ?_ | (refine sk_ ?_; first | (show aWp _ _ _ _ _) | skip) | (refine ex_ ?_; first | (show aWp _ _ _ _ _) | skip) | refine rt_ ?_)
      refine ⟨kids.length - (i + 1), by omega, ⟨i + 1, k2 + 1, by omega, rfl, ?_, ?_, by omega, by simp only; omega, ?_⟩, ?_, ?_, by simp only; omega, rfl⟩
      · (have FX := Fx0; exact cl_)
      · (have FX := Fx.mk (@hpl); exact cl_)
      · (have FX := Fx.mk (@hst); exact cl_)
      · repeat (refine KAgree.upd rfl ?_)
        exact hag2
      · exact (by have FX := Fx.mk (@hh2); exact ha_)
    obtain rfl : i = kids.length := by omega
    have hd : decide ((kids.length : Int) < (kids.length : Int)) = false := by simp
    have FX := Fx.mk (And.intro @hag2 <| And.intro @hag <| And.intro @h46 <| And.intro @h6' <| And.intro @hh2 <| And.intro @hh <| And.intro @hd <| And.intro @e1 <| @e2)
    repeat (first | refine v_ ?_ | refine u_ ?_ | refine nl_ ?_ | (refine nz_ ?_; first | (show aWp _ _ _ _ _) | skip) | refine sq_ ?_ | refine rg_ ?_ | refine k_ ?_ | refine ct_ ?_ | refine cf_ ?_ | refine bk_ ?_ | refine sc_ ?_ | (refine sk_ ?_; first | (show aWp _ _ _ _ _) | skip) | (refine ex_ ?_; first | (show aWp _ _ _ _ _) | skip) | refine rt_ ?_)
    refine W_loopK [1, 5] (nx + 1) (fun r tm h q => tm 11 = .int .i64 0 ∧ tm 6 = .hs m' 0 (3 + l.length + kids.length) ∧ nx + 1 ≤ m' ∧ m' < q ∧ h m' = some ⟨1, numB .u64 (pre3 l kids 0)⟩) 0 (by omega) ⟨rfl, by (have FX := Fx.mk (@h6'); exact cl_), m1', m2', by (have FX := Fx.mk (And.intro @m3' <| @pre3_0); exact cl_)⟩ ?_
    rintro r tm3 h3 k3 ⟨h11, h6'', m1'', m2'', m3''⟩ hag3 hh3 hk3
    have hd3 : decide ((2 : Int) = 1) = false := rfl
    have hd4 : decide ((0 : Int) < (l.length : Int)) = true := decide_eq_true (by omega)
    have FX := Fx.mk (And.intro @hag3 <| And.intro @hag2 <| And.intro @hag <| And.intro @h11 <| And.intro @h6'' <| And.intro @hh3 <| And.intro @hh2 <| And.intro @hh <| And.intro @hd3 <| And.intro @hd4 <| And.intro @e1 <| @e2)
    repeat (first | refine v_ ?_ | refine u_ ?_ | refine nl_ ?_ | (refine nz_ ?_; first | (show aWp _ _ _ _ _) | skip) | refine sq_ ?_ | refine rg_ ?_ | refine k_ ?_ | refine ct_ ?_ | refine cf_ ?_ | refine bk_ ?_ | refine sc_ ?_ | (refine sk_ ?_; first | (show aWp _ _ _ _ _) | skip) | (refine ex_ ?_; first | (show aWp _ _ _ _ _) | skip) | refine rt_ ?_)
    have hva : valL l kids = pre3 l kids 0 := by unfold valL; rw [if_pos hk0]
    rw [hva] at hpk
    have hp3 : (pre3 l kids 0).length = 3 + l.length + kids.length := pre3_len l kids 0 (Nat.zero_le _)
    have htk3 := take_len _ _ hp3
    have FX := Fx.mk (And.intro @hag3 <| And.intro @hag2 <| And.intro @hag <| And.intro @h11 <| And.intro @h6'' <| And.intro @hh3 <| And.intro @hh2 <| And.intro @hh <| And.intro @hd3 <| And.intro @e1 <| @e2)
    repeat (first | refine v_ ?_ | refine u_ ?_ | refine f_ (hwid) fun kf hkf => ?_ | refine nl_ ?_ | (refine nz_ ?_; first | (show aWp _ _ _ _ _) | skip) | refine sq_ ?_ | refine rg_ ?_ | refine k_ ?_ | refine ct_ ?_ | refine cf_ ?_ | refine bk_ ?_ | refine sc_ ?_ | (refine sk_ ?_; first | (show aWp _ _ _ _ _) | skip) | (refine ex_ ?_; first | (show aWp _ _ _ _ _) | skip) | refine rt_ ?_)
    have FX := Fx.mk (And.intro @m3'' <| And.intro @htk3 <| @hp3); refine fz_ 82 ?_
    have FX := Fx.mk (@htk3)
    repeat (first | refine v_ ?_ | refine u_ ?_ | refine om_ (hpk) fun mf kf hmf hkf => ?_ | refine nl_ ?_ | (refine nz_ ?_; first | (show aWp _ _ _ _ _) | skip) | refine sq_ ?_ | refine rg_ ?_ | refine k_ ?_ | refine ct_ ?_ | refine cf_ ?_ | refine bk_ ?_ | refine sc_ ?_ | (refine sk_ ?_; first | (show aWp _ _ _ _ _) | skip) | (refine ex_ ?_; first | (show aWp _ _ _ _ _) | skip) | refine rt_ ?_)
    have hw60 : IntKind.i64.wrap (60 - ((encF l kids).length : Int)) = ((60 - (encF l kids).length : Nat) : Int) := by rw [wrapI] <;> omega
    have htk6 : (encF l kids ++ List.replicate (60 - (encF l kids).length) 0).take ((encF l kids).length + (60 - (encF l kids).length)) = padL (encF l kids) := List.take_of_length_le (by simp)
    have hse := crc_Seal (padL (encF l kids)) (by unfold padL; simp; omega)
    have FX := Fx.mk (@hw60)
    repeat (first | refine v_ ?_ | refine u_ ?_ | refine nl_ ?_ | (refine nz_ ?_; first | (show aWp _ _ _ _ _) | skip) | refine sq_ ?_ | refine rg_ ?_ | refine k_ ?_ | refine ct_ ?_ | refine cf_ ?_ | refine bk_ ?_ | refine sc_ ?_ | (refine sk_ ?_; first | (show aWp _ _ _ _ _) | skip) | (refine ex_ ?_; first | (show aWp _ _ _ _ _) | skip) | refine rt_ ?_)
    have FX := Fx.mk (@htk6); refine fz_ 90 ?_
    have FX := Fx.mk (@htk6)
    repeat (first | refine v_ ?_ | refine u_ ?_ | refine o_ (hse) fun mf kf hmf hkf => ?_ | refine nl_ ?_ | (refine nz_ ?_; first | (show aWp _ _ _ _ _) | skip) | refine sq_ ?_ | refine rg_ ?_ | refine k_ ?_ | refine ct_ ?_ | refine cf_ ?_ | refine bk_ ?_ | refine sc_ ?_ | (refine sk_ ?_; first | (show aWp _ _ _ _ _) | skip) | (refine ex_ ?_; first | (show aWp _ _ _ _ _) | skip) | refine rt_ ?_)
    exact W_endOwnM mf (by omega) (by intro m hm; first | rfl | (simp (disch := first | assumption | omega) only [upd_ne, hag3, hh3, hh2, hh, encS]; first | done | rfl)) (by rw [Try.results11]) (by first | rfl | (simp (disch := first | rfl | decide | omega | assumption | (simp only [LL]; omega)) only [WS, NB, WY, RES, hag3, hh3, hh2, hh, encS]; first | done | rfl)) (by omega) (by omega) (by first | rfl | (simp (disch := first | rfl | decide | omega | assumption | (simp only [LL]; omega)) only [WS, NB, WY, hag3, hh3, hh2, hh, encS]; first | done | rfl))
  · have hk3 : kids.length = 0 := by omega
    have htall : tallB kids = false := decide_eq_false hk0
    have hkind : kindI kids = 1 := if_neg hk0
    have hwid := widths_flat l.length hn
    have f3 : decide (0 < (kids.length : Int)) = false := decide_eq_false (by omega)
    refine aOwnM_body Try.func11 rfl rfl (by simp [Try.ntmps11]) fun hreal h nx hfresh => ?_
    rw [Try.ntmps11]
    have hit := (Real.node (l := l) (kids := kids) (hreal (nodeV l kids) (by simp [nodeV]))).1.items
    have hF := encF_len hok hit.2
    have hpk := octets_Pack (widL (tallB kids) l.length) (valL l kids) (val_fits hok hit.2) (by unfold widL; simp <;> omega) (by have := hok.1; unfold widL; split <;> simp <;> omega)
    rw [show Pl.flat (widL (tallB kids) l.length) (valL l kids) = encF l kids from rfl, htall] at hpk
    have hwk : IntKind.u64.wrap 1 = 1 := by decide
    have hwl : IntKind.u64.wrap (l.length : Int) = (l.length : Int) := by rw [wrapU] <;> omega
    have d0 : decide ((0 : Int) = 0) = true := rfl
    have hp10 : pre1 l kids 0 = [1, (l.length : Int), 0] := by simp [pre1, hkind]
    have FX := Fx.mk (And.intro @d0 <| And.intro @f3 <| And.intro @e1 <| And.intro @e2 <| And.intro @hwk <| @hwl)
    repeat (first | refine v_ ?_ | refine u_ ?_ | refine f_ (hck) fun kf hkf => ?_ | refine nl_ ?_ | (refine nz_ ?_; first | (show aWp _ _ _ _ _) | skip) | refine sq_ ?_ | refine rg_ ?_ | refine k_ ?_ | refine ct_ ?_ | refine cf_ ?_ | refine bk_ ?_ | refine sc_ ?_ | (refine sk_ ?_; first | (show aWp _ _ _ _ _) | skip) | (refine ex_ ?_; first | (show aWp _ _ _ _ _) | skip) | refine rt_ ?_)
    refine W_loopK [1, 5, 31, 32] (nx + 1) (fun r tm h q => ∃ i m : Nat, i ≤ l.length ∧ r = l.length - i ∧ tm 33 = .int .i64 i ∧ tm 6 = .hs m 0 (3 + i) ∧ nx + 1 ≤ m ∧ m < q ∧ h m = some ⟨1, numB .u64 (pre1 l kids i)⟩) l.length (by omega) ⟨0, _, Nat.zero_le _, rfl, rfl, rfl, ?_, ?_, by (have FX := Fx.mk (@hp10); exact cl_)⟩ ?_
    · omega
    · omega
    rintro r tm' h' k' ⟨i, m, hi, rfl, h33, h6, m1, m2, m3⟩ hag hh hk'
    by_cases hlt : i < l.length
    · have hd : decide ((i : Int) < (l.length : Int)) = true := decide_eq_true (by omega)
      have hw : IntKind.i64.wrap (i + 1) = ((i + 1 : Nat) : Int) := by rw [wrapI] <;> omega
      obtain ⟨x, hx0⟩ : ∃ x, l[i]? = some x := ⟨l[i], List.getElem?_eq_getElem hlt⟩
      have hx := itemB_get l i x hx0
      have hst := pre1_step l kids i x hx0
      have hpl := pre1_len l kids i hi
      have htk := take_len _ _ hpl
      have FX := Fx.mk (And.intro @hag <| And.intro @h33 <| And.intro @h6 <| And.intro @m3 <| And.intro @hh <| And.intro @hd <| And.intro @hw <| And.intro @hx <| And.intro @e1 <| And.intro @e2 <| And.intro @hpl <| @htk)
      repeat (first | refine v_ ?_ | refine u_ ?_ | refine nl_ ?_ | (refine nz_ ?_; first | (show aWp _ _ _ _ _) | skip) | refine sq_ ?_ | refine rg_ ?_ | refine k_ ?_ | refine ct_ ?_ | refine cf_ ?_ | refine bk_ ?_ | refine sc_ ?_ | (refine sk_ ?_; first | (show aWp _ _ _ _ _) | skip) | (refine ex_ ?_; first | (show aWp _ _ _ _ _) | skip) | refine rt_ ?_)
      refine ⟨l.length - (i + 1), by omega, ⟨i + 1, k' + 1 + 1, by omega, rfl, ?_, ?_, by omega, by simp only; omega, ?_⟩, ?_, ?_, by simp only; omega, rfl⟩
      · (have FX := Fx0; exact cl_)
      · (have FX := Fx.mk (@hpl); exact cl_)
      · (have FX := Fx.mk (@hst); exact cl_)
      · repeat (refine KAgree.upd rfl ?_)
        first | exact KAgree.refl _ _ | exact hag
      · exact (by have FX := Fx.mk (@hh); exact ha_)
    obtain rfl : i = l.length := by omega
    have hd : decide ((l.length : Int) < (l.length : Int)) = false := by simp
    have FX := Fx.mk (And.intro @hag <| And.intro @h33 <| And.intro @h6 <| And.intro @hh <| And.intro @hd <| And.intro @e1 <| @e2)
    repeat (first | refine v_ ?_ | refine u_ ?_ | refine nl_ ?_ | (refine nz_ ?_; first | (show aWp _ _ _ _ _) | skip) | refine sq_ ?_ | refine rg_ ?_ | refine k_ ?_ | refine ct_ ?_ | refine cf_ ?_ | refine bk_ ?_ | refine sc_ ?_ | (refine sk_ ?_; first | (show aWp _ _ _ _ _) | skip) | (refine ex_ ?_; first | (show aWp _ _ _ _ _) | skip) | refine rt_ ?_)
    refine W_loopK [1, 5, 44, 45] (nx + 1) (fun r tm h q => ∃ i m : Nat, i ≤ kids.length ∧ r = kids.length - i ∧ tm 46 = .int .i64 i ∧ tm 6 = .hs m 0 (3 + l.length + i) ∧ nx + 1 ≤ m ∧ m < q ∧ h m = some ⟨1, numB .u64 (pre2 l kids i)⟩) kids.length (by omega) ⟨0, m, Nat.zero_le _, rfl, rfl, by (have FX := Fx.mk (@h6); exact cl_), m1, m2, by (have FX := Fx.mk (And.intro @m3 <| @pre2_0); exact cl_)⟩ ?_
    rintro r tm2 h2 k2 ⟨i, m', hi, rfl, h46, h6', m1', m2', m3'⟩ hag2 hh2 hk2
    by_cases hlt : i < kids.length
    · exact absurd hlt (by omega)
    obtain rfl : i = kids.length := by omega
    have hd : decide ((kids.length : Int) < (kids.length : Int)) = false := by simp
    have FX := Fx.mk (And.intro @hag2 <| And.intro @hag <| And.intro @h46 <| And.intro @h6' <| And.intro @hh2 <| And.intro @hh <| And.intro @hd <| And.intro @e1 <| @e2)
    repeat (first | refine v_ ?_ | refine u_ ?_ | refine nl_ ?_ | (refine nz_ ?_; first | (show aWp _ _ _ _ _) | skip) | refine sq_ ?_ | refine rg_ ?_ | refine k_ ?_ | refine ct_ ?_ | refine cf_ ?_ | refine bk_ ?_ | refine sc_ ?_ | (refine sk_ ?_; first | (show aWp _ _ _ _ _) | skip) | (refine ex_ ?_; first | (show aWp _ _ _ _ _) | skip) | refine rt_ ?_)
    refine W_loopK [1, 5] (nx + 1) (fun r tm h q => ∃ i m : Nat, i ≤ l.length ∧ r = l.length - i ∧ tm 11 = .int .i64 i ∧ tm 6 = .hs m 0 (3 + l.length + kids.length + i) ∧ nx + 1 ≤ m ∧ m < q ∧ h m = some ⟨1, numB .u64 (pre3 l kids i)⟩) l.length (by omega) ⟨0, m', Nat.zero_le _, rfl, rfl, by (have FX := Fx.mk (@h6'); exact cl_), m1', m2', by (have FX := Fx.mk (And.intro @m3' <| @pre3_0); exact cl_)⟩ ?_
    rintro r tm3 h3 k3 ⟨i, m'', hi, rfl, h11, h6'', m1'', m2'', m3''⟩ hag3 hh3 hk3
    have hd3 : decide ((1 : Int) = 1) = true := rfl
    by_cases hlt : i < l.length
    · have hd : decide ((i : Int) < (l.length : Int)) = true := decide_eq_true (by omega)
      have hw : IntKind.i64.wrap (i + 1) = ((i + 1 : Nat) : Int) := by rw [wrapI] <;> omega
      obtain ⟨x, hx0⟩ : ∃ x, l[i]? = some x := ⟨l[i], List.getElem?_eq_getElem hlt⟩
      have hx := itemB_get l i x hx0
      have hst := pre3_step l kids i x hx0
      have hpl := pre3_len l kids i hi
      have htk := take_len _ _ hpl
      have FX := Fx.mk (And.intro @hag3 <| And.intro @hag2 <| And.intro @hag <| And.intro @h11 <| And.intro @h6'' <| And.intro @m3'' <| And.intro @hh3 <| And.intro @hh2 <| And.intro @hh <| And.intro @hd <| And.intro @hd3 <| And.intro @hw <| And.intro @hx <| And.intro @e1 <| And.intro @e2 <| And.intro @hpl <| @htk)
      repeat (first | refine v_ ?_ | refine u_ ?_ | refine nl_ ?_ | (refine nz_ ?_; first | (show aWp _ _ _ _ _) | skip) | refine sq_ ?_ | refine rg_ ?_ | refine k_ ?_ | refine ct_ ?_ | refine cf_ ?_ | refine bk_ ?_ | refine sc_ ?_ | (refine sk_ ?_; first | (show aWp _ _ _ _ _) | skip) | (refine ex_ ?_; first | (show aWp _ _ _ _ _) | skip) | refine rt_ ?_)
      refine ⟨l.length - (i + 1), by omega, ⟨i + 1, k3 + 1, by omega, rfl, ?_, ?_, by omega, by simp only; omega, ?_⟩, ?_, ?_, by simp only; omega, rfl⟩
      · (have FX := Fx0; exact cl_)
      · (have FX := Fx.mk (@hpl); exact cl_)
      · (have FX := Fx.mk (@hst); exact cl_)
      · repeat (refine KAgree.upd rfl ?_)
        exact hag3
      · exact (by have FX := Fx.mk (@hh3); exact ha_)
    obtain rfl : i = l.length := by omega
    have hd : decide ((l.length : Int) < (l.length : Int)) = false := by simp
    have FX := Fx.mk (And.intro @hag3 <| And.intro @hag2 <| And.intro @hag <| And.intro @h11 <| And.intro @h6'' <| And.intro @hh3 <| And.intro @hh2 <| And.intro @hh <| And.intro @hd <| And.intro @e1 <| @e2)
    repeat (first | refine v_ ?_ | refine u_ ?_ | refine nl_ ?_ | (refine nz_ ?_; first | (show aWp _ _ _ _ _) | skip) | refine sq_ ?_ | refine rg_ ?_ | refine k_ ?_ | refine ct_ ?_ | refine cf_ ?_ | refine bk_ ?_ | refine sc_ ?_ | (refine sk_ ?_; first | (show aWp _ _ _ _ _) | skip) | (refine ex_ ?_; first | (show aWp _ _ _ _ _) | skip) | refine rt_ ?_)
    have hva : valL l kids = pre3 l kids l.length := by unfold valL; rw [if_neg hk0]
    rw [hva] at hpk
    have hp3 : (pre3 l kids l.length).length = 3 + l.length + kids.length + l.length := pre3_len l kids l.length (Nat.le_refl _)
    have htk3 := take_len _ _ hp3
    have FX := Fx.mk (And.intro @hag3 <| And.intro @hag2 <| And.intro @hag <| And.intro @h11 <| And.intro @h6'' <| And.intro @hh3 <| And.intro @hh2 <| And.intro @hh <| And.intro @hd3 <| And.intro @e1 <| @e2)
    repeat (first | refine v_ ?_ | refine u_ ?_ | refine f_ (hwid) fun kf hkf => ?_ | refine nl_ ?_ | (refine nz_ ?_; first | (show aWp _ _ _ _ _) | skip) | refine sq_ ?_ | refine rg_ ?_ | refine k_ ?_ | refine ct_ ?_ | refine cf_ ?_ | refine bk_ ?_ | refine sc_ ?_ | (refine sk_ ?_; first | (show aWp _ _ _ _ _) | skip) | (refine ex_ ?_; first | (show aWp _ _ _ _ _) | skip) | refine rt_ ?_)
    have FX := Fx.mk (And.intro @m3'' <| And.intro @htk3 <| @hp3); refine fz_ 82 ?_
    have FX := Fx.mk (@htk3)
    repeat (first | refine v_ ?_ | refine u_ ?_ | refine om_ (hpk) fun mf kf hmf hkf => ?_ | refine nl_ ?_ | (refine nz_ ?_; first | (show aWp _ _ _ _ _) | skip) | refine sq_ ?_ | refine rg_ ?_ | refine k_ ?_ | refine ct_ ?_ | refine cf_ ?_ | refine bk_ ?_ | refine sc_ ?_ | (refine sk_ ?_; first | (show aWp _ _ _ _ _) | skip) | (refine ex_ ?_; first | (show aWp _ _ _ _ _) | skip) | refine rt_ ?_)
    have hw60 : IntKind.i64.wrap (60 - ((encF l kids).length : Int)) = ((60 - (encF l kids).length : Nat) : Int) := by rw [wrapI] <;> omega
    have htk6 : (encF l kids ++ List.replicate (60 - (encF l kids).length) 0).take ((encF l kids).length + (60 - (encF l kids).length)) = padL (encF l kids) := List.take_of_length_le (by simp)
    have hse := crc_Seal (padL (encF l kids)) (by unfold padL; simp; omega)
    have FX := Fx.mk (@hw60)
    repeat (first | refine v_ ?_ | refine u_ ?_ | refine nl_ ?_ | (refine nz_ ?_; first | (show aWp _ _ _ _ _) | skip) | refine sq_ ?_ | refine rg_ ?_ | refine k_ ?_ | refine ct_ ?_ | refine cf_ ?_ | refine bk_ ?_ | refine sc_ ?_ | (refine sk_ ?_; first | (show aWp _ _ _ _ _) | skip) | (refine ex_ ?_; first | (show aWp _ _ _ _ _) | skip) | refine rt_ ?_)
    have FX := Fx.mk (@htk6); refine fz_ 90 ?_
    have FX := Fx.mk (@htk6)
    repeat (first | refine v_ ?_ | refine u_ ?_ | refine o_ (hse) fun mf kf hmf hkf => ?_ | refine nl_ ?_ | (refine nz_ ?_; first | (show aWp _ _ _ _ _) | skip) | refine sq_ ?_ | refine rg_ ?_ | refine k_ ?_ | refine ct_ ?_ | refine cf_ ?_ | refine bk_ ?_ | refine sc_ ?_ | (refine sk_ ?_; first | (show aWp _ _ _ _ _) | skip) | (refine ex_ ?_; first | (show aWp _ _ _ _ _) | skip) | refine rt_ ?_)
    exact W_endOwnM mf (by omega) (by intro m hm; first | rfl | (simp (disch := first | assumption | omega) only [upd_ne, hag3, hh3, hh2, hh, encS]; first | done | rfl)) (by rw [Try.results11]) (by first | rfl | (simp (disch := first | rfl | decide | omega | assumption | (simp only [LL]; omega)) only [WS, NB, WY, RES, hag3, hh3, hh2, hh, encS]; first | done | rfl)) (by omega) (by omega) (by first | rfl | (simp (disch := first | rfl | decide | omega | assumption | (simp only [LL]; omega)) only [WS, NB, WY, hag3, hh3, hh2, hh, encS]; first | done | rfl))
theorem leaf_Encode_bad (l : List (Int × Int)) (kids : List Int) (hok : ¬ okN l kids) : aFun Try.prog 11 [nodeV l kids] (.tup [.sl [], .int .i64 9]) := by
  have hck := leaf_Check l kids
  rw [chk_bad hok] at hck
  unfold nodeV at hck ⊢
  refine aFun_body Try.func11 rfl rfl (by simp [Try.ntmps11]) fun hreal h nx hfresh => ?_
  rw [Try.ntmps11]
  have d0 : decide ((9 : Int) = 0) = false := rfl
  have FX := Fx.mk (@d0)
  repeat (first | refine v_ ?_ | refine u_ ?_ | refine f_ (hck) fun kf hkf => ?_ | refine nl_ ?_ | (refine nz_ ?_; first | (show aWp _ _ _ _ _) | skip) | refine sq_ ?_ | refine rg_ ?_ | refine k_ ?_ | refine ct_ ?_ | refine cf_ ?_ | refine bk_ ?_ | refine sc_ ?_ | (refine sk_ ?_; first | (show aWp _ _ _ _ _) | skip) | (refine ex_ ?_; first | (show aWp _ _ _ _ _) | skip) | refine rt_ ?_)
  (have FX := Fx0; exact end_ Try.results11)
end Go.Proofs.Ytcnofpoffdjbpaa.AE
