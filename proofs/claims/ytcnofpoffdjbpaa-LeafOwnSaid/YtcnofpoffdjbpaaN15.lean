/- Layer 7's page: Encode. -/
import Derived.Test.YtcnofpoffdjbpaaQ2
import Derived.Test.YtcnofpoffdjbpaaG3
import Derived.Test.YtcnofpoffdjbpaaG8
import Derived.Test.YtcnofpoffdjbpaaN7
namespace Go.Proofs.Ytcnofpoffdjbpaa.AE
open Go Go.RowKit Go.Proofs Go.Proofs.Ytcnofpoffdjbpaa
set_option linter.unusedVariables false
set_option linter.unusedSimpArgs false
set_option maxRecDepth 100000
set_option maxHeartbeats 8000000
def hd4 (l : List (Int × Int)) (kids : List Int) : List Int := [kindI kids, (l.length : Int), 0, 0]
def pu (w : Nat) (vs : List Int) : List Int := (vs.map (Pl.putI w)).flatten
theorem pu_len (w : Nat) (vs : List Int) : (pu w vs).length = w * vs.length := by
  induction vs with
  | nil => rfl
  | cons v vs ih =>
    have e : pu w (v :: vs) = Pl.putI w v ++ pu w vs := by simp [pu]
    rw [e, List.length_append, Pl.putI_length, ih, List.length_cons, Nat.mul_succ]
    omega
theorem pu_snoc (w : Nat) (vs : List Int) (v : Int) : pu w (vs ++ [v]) = pu w vs ++ Pl.putI w v := by simp [pu]
theorem flat_app : ∀ {a b : List Int} (c d : List Int), a.length = b.length → Pl.flat (a ++ c) (b ++ d) = Pl.flat a b ++ Pl.flat c d
  | [], [], c, d, _ => rfl
  | [], _ :: _, c, d, h => by simp at h
  | _ :: _, [], c, d, h => by simp at h
  | x :: a, y :: b, c, d, h => by
    have := flat_app (a := a) (b := b) c d (by simpa using h)
    simp only [List.cons_append, Pl.flat, this, List.append_assoc]
theorem flat_rep (w : Int) : ∀ (vs : List Int), Pl.flat (List.replicate vs.length w) vs = pu w.toNat vs
  | [] => rfl
  | v :: vs => by
    have := flat_rep w vs
    simp only [List.length_cons, List.replicate_succ, Pl.flat, this]
    simp [pu]
def e1 (l : List (Int × Int)) (kids : List Int) (i : Nat) : List Int := hd4 l kids ++ pu 8 ((l.take i).map (·.1))
def e2 (l : List (Int × Int)) (kids : List Int) (i : Nat) : List Int := e1 l kids l.length ++ pu 8 ((l.take i).map (·.2))
def e3 (l : List (Int × Int)) (kids : List Int) (i : Nat) : List Int := e1 l kids l.length ++ pu 4 (kids.take i)
theorem e1_len (l : List (Int × Int)) (kids : List Int) (i : Nat) (h : i ≤ l.length) : (e1 l kids i).length = 4 + 8 * i := by
  simp only [e1, List.length_append, pu_len, List.length_map, List.length_take, hd4, List.length_cons, List.length_nil]
  rw [Nat.min_eq_left h]
theorem e2_len (l : List (Int × Int)) (kids : List Int) (i : Nat) (h : i ≤ l.length) : (e2 l kids i).length = 4 + 8 * l.length + 8 * i := by
  simp only [e2, List.length_append, pu_len, List.length_map, List.length_take, e1_len l kids l.length (Nat.le_refl _)]
  rw [Nat.min_eq_left h]
theorem e3_len (l : List (Int × Int)) (kids : List Int) (i : Nat) (h : i ≤ kids.length) : (e3 l kids i).length = 4 + 8 * l.length + 4 * i := by
  simp only [e3, List.length_append, pu_len, List.length_take, e1_len l kids l.length (Nat.le_refl _)]
  rw [Nat.min_eq_left h]
theorem e1_step (l : List (Int × Int)) (kids : List Int) (i : Nat) (x : Int × Int) (h : l[i]? = some x) : e1 l kids (i + 1) = e1 l kids i ++ Pl.putI 8 x.1 := by
  simp only [e1, List.take_add_one, h, Option.toList_some, List.map_append, List.map_cons, List.map_nil, pu_snoc, List.append_assoc]
theorem e2_step (l : List (Int × Int)) (kids : List Int) (i : Nat) (x : Int × Int) (h : l[i]? = some x) : e2 l kids (i + 1) = e2 l kids i ++ Pl.putI 8 x.2 := by
  simp only [e2, List.take_add_one, h, Option.toList_some, List.map_append, List.map_cons, List.map_nil, pu_snoc, List.append_assoc]
theorem e3_step (l : List (Int × Int)) (kids : List Int) (i : Nat) (x : Int) (h : kids[i]? = some x) : e3 l kids (i + 1) = e3 l kids i ++ Pl.putI 4 x := by
  simp only [e3, List.take_add_one, h, Option.toList_some, pu_snoc, List.append_assoc]
theorem hd4_flat (l : List (Int × Int)) (kids : List Int) (hn : l.length ≤ 3) : Pl.flat [1, 1, 2] [kindI kids, (l.length : Int), 0] = hd4 l kids := by
  have e : kindI kids = 1 ∨ kindI kids = 2 := by unfold kindI; split <;> simp
  have p1 := putI_one (kindI kids) (by rcases e with e | e <;> omega) (by rcases e with e | e <;> omega)
  have p2 := putI_one (l.length : Int) (by omega) (by omega)
  have p3 : Pl.putI 2 0 = [0, 0] := by decide
  show Pl.putI 1 (kindI kids) ++ (Pl.putI 1 (l.length : Int) ++ (Pl.putI 2 0 ++ [])) = _
  rw [p1, p2, p3]
  rfl
theorem encF_flat (l : List (Int × Int)) (hn : l.length ≤ 3) : encF l [] = e2 l [] l.length := by
  have e : valL l [] = ([kindI [], (l.length : Int), 0] ++ l.map (·.1)) ++ (l.map (·.2)) := by simp [valL, pre3, pre2, pre1]
  have ew : widL (tallB []) l.length = ([1, 1, 2] ++ List.replicate (l.map (·.1)).length 8) ++ List.replicate (l.map (·.2)).length 8 := by simp [widL, tallB]
  unfold encF
  rw [e, ew, flat_app _ _ (by simp), flat_app _ _ (by simp), flat_rep, flat_rep, hd4_flat l [] hn]
  simp only [e2, e1, List.take_length]
  rfl
theorem encF_tall (l : List (Int × Int)) (kids : List Int) (hn : l.length ≤ 3) (hk : kids.length = l.length + 1) : encF l kids = e3 l kids kids.length := by
  have h0 : 0 < kids.length := by omega
  have e : valL l kids = ([kindI kids, (l.length : Int), 0] ++ l.map (·.1)) ++ kids := by simp [valL, pre3, pre2, pre1, h0]
  have ew : widL (tallB kids) l.length = ([1, 1, 2] ++ List.replicate (l.map (·.1)).length 8) ++ List.replicate kids.length 4 := by simp [widL, tallB, h0, hk]
  unfold encF
  rw [e, ew, flat_app _ _ (by simp), flat_app _ _ (by simp), flat_rep, flat_rep, hd4_flat l kids hn]
  simp only [e3, e1, List.take_length]
  rfl
theorem ref_Encode (l : List (Int × Int)) (kids : List Int) (hok : okN l kids) : aFun Try.prog 21 [nodeV l kids] (.tup [.sl (numB .u8 (encS l kids)), .int .i64 0]) := by
  have i1 := itemB_len l
  have i2 := numB_len .i64 kids
  have hck := ref07_Check l kids
  rw [chk_ok hok] at hck
  have hn := hok.1
  unfold nodeV at hck ⊢
  by_cases hk0 : 0 < kids.length
  · have hk3 := hok.2.1 hk0
    have hkind : kindI kids = 2 := if_pos hk0
    have f3 : decide (0 < (kids.length : Int)) = true := decide_eq_true (by omega)
    refine aFun_body Try.func21 rfl rfl (by simp [Try.ntmps21]) fun hreal h nx hfresh => ?_
    rw [Try.ntmps21]
    have hit := (Real.node (l := l) (kids := kids) (hreal (nodeV l kids) (by simp [nodeV]))).1.items
    have hF := encF_len hok hit.2
    have d0 : decide ((0 : Int) = 0) = true := rfl
    have hwl : IntKind.u8.wrap (l.length : Int) = (l.length : Int) := by rw [wrapB_mod]; omega
    have q1 : [2, (l.length : Int), 0, 0] = e1 l kids 0 := by simp [e1, hd4, hkind, pu]
    have FX := Fx.mk (And.intro @d0 <| And.intro @f3 <| And.intro @i1 <| And.intro @i2 <| @hwl)
    repeat (first | refine v_ ?_ | refine u_ ?_ | refine f_ (hck) fun kf hkf => ?_ | refine nl_ ?_ | (refine nz_ ?_; first | (show aWp _ _ _ _ _) | skip) | refine sq_ ?_ | refine rg_ ?_ | refine k_ ?_ | refine ct_ ?_ | refine cf_ ?_ | refine bk_ ?_ | refine sc_ ?_ | (refine sk_ ?_; first | (show aWp _ _ _ _ _) | skip) | (refine ex_ ?_; first | (show aWp _ _ _ _ _) | skip) | refine rt_ ?_)
    refine W_loopK [1] (nx + 1) (fun r tm h q => ∃ i m : Nat, i ≤ l.length ∧ r = l.length - i ∧ tm 5 = .int .i64 i ∧ tm 4 = .hs m 0 (4 + 8 * i) ∧ nx + 1 ≤ m ∧ m < q ∧ h m = some ⟨1, numB .u8 (e1 l kids i)⟩) l.length (by omega) ⟨0, _, Nat.zero_le _, rfl, rfl, rfl, ?_, ?_, by (have FX := Fx.mk (@q1); exact cl_)⟩ ?_
    · omega
    · omega
    rintro r tm' h' k' ⟨i, m, hi, rfl, h5, h4, m1, m2, m3⟩ hag hh hk'
    have hbox : h' nx = some ⟨2, [[.sl (itemB l), .sl (numB .i64 kids)]]⟩ := by rw [hh nx (by omega)]; (have FX := Fx0; exact cl_)
    by_cases hlt : i < l.length
    · have hd : decide ((i : Int) < (l.length : Int)) = true := decide_eq_true (by omega)
      have hw : IntKind.i64.wrap (i + 1) = ((i + 1 : Nat) : Int) := by rw [wrapI] <;> omega
      obtain ⟨x, hx0⟩ : ∃ x, l[i]? = some x := ⟨l[i], List.getElem?_eq_getElem hlt⟩
      have hxr := hit.2 x (List.mem_of_getElem? hx0)
      have hx := itemB_get l i x hx0
      have hp := ref01_Put x.1 8
      rw [Pl.putS_fits (by decide) (by have e4 : (256 : Int) ^ (4 : Int).toNat = 4294967296 := by decide
                                       have e8 : (256 : Int) ^ (8 : Int).toNat = 18446744073709551616 := by decide
                                       omega)] at hp
      have hpl := Pl.putI_length 8 x.1
      have hst := e1_step l kids i x hx0
      have hpl := e1_len l kids i hi
      have htk := take_len _ _ hpl
      have FX := Fx.mk (And.intro @hag <| And.intro @h5 <| And.intro @h4 <| And.intro @m3 <| And.intro @hh <| And.intro @hd <| And.intro @hw <| And.intro @hx <| And.intro @i1 <| And.intro @i2 <| And.intro @hbox <| And.intro @hpl <| And.intro @htk <| @hpl)
      repeat (first | refine v_ ?_ | refine u_ ?_ | refine f_ (hp) fun kf hkf => ?_ | refine nl_ ?_ | (refine nz_ ?_; first | (show aWp _ _ _ _ _) | skip) | refine sq_ ?_ | refine rg_ ?_ | refine k_ ?_ | refine ct_ ?_ | refine cf_ ?_ | refine bk_ ?_ | refine sc_ ?_ | (refine sk_ ?_; first | (show aWp _ _ _ _ _) | skip) | (refine ex_ ?_; first | (show aWp _ _ _ _ _) | skip) | refine rt_ ?_)
      refine ⟨l.length - (i + 1), by omega, ⟨i + 1, _, by omega, rfl, ?_, rfl, ?_, ?_, ?_⟩, ?_, ?_, by simp only; omega, rfl⟩
      · (have FX := Fx0; exact cl_)
      · omega
      · simp only; omega
      · (have FX := Fx.mk (@hst); exact cl_)
      · repeat (refine KAgree.upd rfl ?_)
        first | exact KAgree.refl _ _ | exact hag
      · exact (by have FX := Fx.mk (@hh); exact ha_)
    obtain rfl : i = l.length := by omega
    have hd : decide ((l.length : Int) < (l.length : Int)) = false := by simp
    have FX := Fx.mk (And.intro @hag <| And.intro @h5 <| And.intro @h4 <| And.intro @hh <| And.intro @hd <| And.intro @i1 <| And.intro @i2 <| @hbox)
    repeat (first | refine v_ ?_ | refine u_ ?_ | refine nl_ ?_ | (refine nz_ ?_; first | (show aWp _ _ _ _ _) | skip) | refine sq_ ?_ | refine rg_ ?_ | refine k_ ?_ | refine ct_ ?_ | refine cf_ ?_ | refine bk_ ?_ | refine sc_ ?_ | (refine sk_ ?_; first | (show aWp _ _ _ _ _) | skip) | (refine ex_ ?_; first | (show aWp _ _ _ _ _) | skip) | refine rt_ ?_)
    refine W_loopK [1] (nx + 1) (fun r tm h q => tm 8 = .int .i64 0 ∧ tm 4 = .hs m 0 (4 + 8 * l.length) ∧ nx + 1 ≤ m ∧ m < q ∧ h m = some ⟨1, numB .u8 (e1 l kids l.length)⟩) 0 (by omega) ⟨rfl, by (have FX := Fx.mk (@h4); exact cl_), m1, m2, by (have FX := Fx.mk (@m3); exact cl_)⟩ ?_
    rintro r tm2 h2 k2 ⟨h8, h4, m1, m2, m3⟩ hag2 hh2 hk2
    have hbox2 : h2 nx = some ⟨2, [[.sl (itemB l), .sl (numB .i64 kids)]]⟩ := by rw [hh2 nx (by omega)]; exact hbox
    have g1 : decide ((0 : Int) < (l.length : Int)) = true := decide_eq_true (by omega)
    have g2 : decide ((kids.length : Int) = 0) = false := decide_eq_false (by omega)
    have FX := Fx.mk (And.intro @hag2 <| And.intro @hag <| And.intro @h8 <| And.intro @hh2 <| And.intro @hh <| And.intro @g1 <| And.intro @g2 <| And.intro @i1 <| And.intro @i2 <| @hbox2)
    repeat (first | refine v_ ?_ | refine u_ ?_ | refine nl_ ?_ | (refine nz_ ?_; first | (show aWp _ _ _ _ _) | skip) | refine sq_ ?_ | refine rg_ ?_ | refine k_ ?_ | refine ct_ ?_ | refine cf_ ?_ | refine bk_ ?_ | refine sc_ ?_ | (refine sk_ ?_; first | (show aWp _ _ _ _ _) | skip) | (refine ex_ ?_; first | (show aWp _ _ _ _ _) | skip) | refine rt_ ?_)
    have q0 : e3 l kids 0 = e1 l kids l.length := by simp [e3, pu]
    refine W_loopK [1] (nx + 1) (fun r tm h q => ∃ i m : Nat, i ≤ kids.length ∧ r = kids.length - i ∧ tm 11 = .int .i64 i ∧ tm 4 = .hs m 0 (4 + 8 * l.length + 4 * i) ∧ nx + 1 ≤ m ∧ m < q ∧ h m = some ⟨1, numB .u8 (e3 l kids i)⟩) kids.length (by omega) ⟨0, m, Nat.zero_le _, rfl, rfl, by (have FX := Fx.mk (@h4); exact cl_), m1, m2, by (have FX := Fx.mk (And.intro @m3 <| @q0); exact cl_)⟩ ?_
    rintro r tm3 h3 k3 ⟨i, m', hi3, rfl, h11, h4', m1', m2', m3'⟩ hag3 hh3 hk3'
    have hbox3 : h3 nx = some ⟨2, [[.sl (itemB l), .sl (numB .i64 kids)]]⟩ := by rw [hh3 nx (by omega)]; exact hbox2
    by_cases hlt : i < kids.length
    · have hd : decide ((i : Int) < (kids.length : Int)) = true := decide_eq_true (by omega)
      have hw : IntKind.i64.wrap (i + 1) = ((i + 1 : Nat) : Int) := by rw [wrapI] <;> omega
      obtain ⟨x, hx0⟩ : ∃ x, kids[i]? = some x := ⟨kids[i], List.getElem?_eq_getElem hlt⟩
      have hxr := (hok.2.2.2 i hlt).1
      rw [getD_of hx0] at hxr
      have hwx : IntKind.u64.wrap x = x := by rw [wrapU] <;> omega
      have hx := numB_get .i64 kids i x hx0
      have hp := ref01_Put x 4
      rw [Pl.putS_fits (by decide) (by have e4 : (256 : Int) ^ (4 : Int).toNat = 4294967296 := by decide
                                       have e8 : (256 : Int) ^ (8 : Int).toNat = 18446744073709551616 := by decide
                                       omega)] at hp
      have hpl := Pl.putI_length 4 x
      have hst := e3_step l kids i x hx0
      have hpl := e3_len l kids i hi3
      have htk := take_len _ _ hpl
      have FX := Fx.mk (And.intro @hag3 <| And.intro @hag2 <| And.intro @hag <| And.intro @h11 <| And.intro @h4' <| And.intro @m3' <| And.intro @hh3 <| And.intro @hh2 <| And.intro @hh <| And.intro @hd <| And.intro @hw <| And.intro @hx0 <| And.intro @hx <| And.intro @hwx <| And.intro @i1 <| And.intro @i2 <| And.intro @hbox3 <| And.intro @hpl <| And.intro @htk <| @hpl)
      repeat (first | refine v_ ?_ | refine u_ ?_ | refine f_ (hp) fun kf hkf => ?_ | refine nl_ ?_ | (refine nz_ ?_; first | (show aWp _ _ _ _ _) | skip) | refine sq_ ?_ | refine rg_ ?_ | refine k_ ?_ | refine ct_ ?_ | refine cf_ ?_ | refine bk_ ?_ | refine sc_ ?_ | (refine sk_ ?_; first | (show aWp _ _ _ _ _) | skip) | (refine ex_ ?_; first | (show aWp _ _ _ _ _) | skip) | refine rt_ ?_)
      refine ⟨kids.length - (i + 1), by omega, ⟨i + 1, _, by omega, rfl, ?_, rfl, ?_, ?_, ?_⟩, ?_, ?_, by simp only; omega, rfl⟩
      · (have FX := Fx0; exact cl_)
      · omega
      · simp only; omega
      · (have FX := Fx.mk (@hst); exact cl_)
      · repeat (refine KAgree.upd rfl ?_)
        exact hag3
      · exact (by have FX := Fx.mk (@hh3); exact ha_)
    obtain rfl : i = kids.length := by omega
    have hd : decide ((kids.length : Int) < (kids.length : Int)) = false := by simp
    have hFe := encF_tall l kids hn.2 hk3
    have FX := Fx.mk (And.intro @hag3 <| And.intro @hag2 <| And.intro @hag <| And.intro @h11 <| And.intro @hh3 <| And.intro @hh2 <| And.intro @hh <| And.intro @hd <| And.intro @i1 <| And.intro @i2 <| @hbox3)
    repeat (first | refine v_ ?_ | refine u_ ?_ | refine nl_ ?_ | (refine nz_ ?_; first | (show aWp _ _ _ _ _) | skip) | refine sq_ ?_ | refine rg_ ?_ | refine k_ ?_ | refine ct_ ?_ | refine cf_ ?_ | refine bk_ ?_ | refine sc_ ?_ | (refine sk_ ?_; first | (show aWp _ _ _ _ _) | skip) | (refine ex_ ?_; first | (show aWp _ _ _ _ _) | skip) | refine rt_ ?_)
    have hse := ref02_Seal (padL (encF l kids)) (by unfold padL; simp; omega)
    rw [hFe] at hF hse
    have hl4 : (e3 l kids kids.length).length = 4 + 8 * l.length + 4 * kids.length := e3_len l kids kids.length (Nat.le_refl _)
    have htk4 := take_len _ _ hl4
    have hw60 : IntKind.i64.wrap (60 - ((4 + 8 * l.length + 4 * kids.length : Nat) : Int)) = ((60 - (4 + 8 * l.length + 4 * kids.length) : Nat) : Int) := by rw [wrapI] <;> omega
    have hpd : e3 l kids kids.length ++ List.replicate (60 - (4 + 8 * l.length + 4 * kids.length)) 0 = padL (e3 l kids kids.length) := by unfold padL; rw [hl4]
    have hpl : (padL (e3 l kids kids.length)).length = 60 := padL_len hF
    have hpt : (padL (e3 l kids kids.length)).take (4 + 8 * l.length + 4 * kids.length + (60 - (4 + 8 * l.length + 4 * kids.length))) = padL (e3 l kids kids.length) := List.take_of_length_le (by rw [hpl]; omega)
    have hse0 : encS l kids = Pl.sealS (padL (e3 l kids kids.length)) := by unfold encS; rw [hFe]
    rw [hse0]
    -- DBG
    have FX := Fx.mk (And.intro @hag3 <| And.intro @hag2 <| And.intro @hag <| And.intro @h4' <| And.intro @m3' <| And.intro @hh3 <| And.intro @hh2 <| And.intro @hh <| And.intro @hw60 <| And.intro @hpd <| And.intro @hl4 <| @htk4)
    repeat (first | refine v_ ?_ | refine u_ ?_ | refine nl_ ?_ | (refine nz_ ?_; first | (show aWp _ _ _ _ _) | skip) | refine sq_ ?_ | refine rg_ ?_ | refine k_ ?_ | refine ct_ ?_ | refine cf_ ?_ | refine bk_ ?_ | refine sc_ ?_ | (refine sk_ ?_; first | (show aWp _ _ _ _ _) | skip) | (refine ex_ ?_; first | (show aWp _ _ _ _ _) | skip) | refine rt_ ?_)
    have FX := Fx.mk (And.intro @hpt <| And.intro @hpd <| @hl4); refine fz_ 99 ?_
    have FX := Fx.mk (@hpt)
    repeat (first | refine v_ ?_ | refine u_ ?_ | refine o_ (hse) fun mf kf hmf hkf => ?_ | refine nl_ ?_ | (refine nz_ ?_; first | (show aWp _ _ _ _ _) | skip) | refine sq_ ?_ | refine rg_ ?_ | refine k_ ?_ | refine ct_ ?_ | refine cf_ ?_ | refine bk_ ?_ | refine sc_ ?_ | (refine sk_ ?_; first | (show aWp _ _ _ _ _) | skip) | (refine ex_ ?_; first | (show aWp _ _ _ _ _) | skip) | refine rt_ ?_)
    (have FX := Fx.mk (And.intro @hag3 <| And.intro @hag2 <| And.intro @hag <| And.intro @h4' <| And.intro @m3' <| And.intro @hh3 <| And.intro @hh2 <| @hh); exact end_ Try.results21)
  · have hk3 : kids.length = 0 := by omega
    have hkind : kindI kids = 1 := if_neg hk0
    have f3 : decide (0 < (kids.length : Int)) = false := decide_eq_false (by omega)
    refine aFun_body Try.func21 rfl rfl (by simp [Try.ntmps21]) fun hreal h nx hfresh => ?_
    rw [Try.ntmps21]
    have hit := (Real.node (l := l) (kids := kids) (hreal (nodeV l kids) (by simp [nodeV]))).1.items
    have hF := encF_len hok hit.2
    have d0 : decide ((0 : Int) = 0) = true := rfl
    have hwl : IntKind.u8.wrap (l.length : Int) = (l.length : Int) := by rw [wrapB_mod]; omega
    have q1 : [1, (l.length : Int), 0, 0] = e1 l kids 0 := by simp [e1, hd4, hkind, pu]
    have FX := Fx.mk (And.intro @d0 <| And.intro @f3 <| And.intro @i1 <| And.intro @i2 <| @hwl)
    repeat (first | refine v_ ?_ | refine u_ ?_ | refine f_ (hck) fun kf hkf => ?_ | refine nl_ ?_ | (refine nz_ ?_; first | (show aWp _ _ _ _ _) | skip) | refine sq_ ?_ | refine rg_ ?_ | refine k_ ?_ | refine ct_ ?_ | refine cf_ ?_ | refine bk_ ?_ | refine sc_ ?_ | (refine sk_ ?_; first | (show aWp _ _ _ _ _) | skip) | (refine ex_ ?_; first | (show aWp _ _ _ _ _) | skip) | refine rt_ ?_)
    refine W_loopK [1] (nx + 1) (fun r tm h q => ∃ i m : Nat, i ≤ l.length ∧ r = l.length - i ∧ tm 5 = .int .i64 i ∧ tm 4 = .hs m 0 (4 + 8 * i) ∧ nx + 1 ≤ m ∧ m < q ∧ h m = some ⟨1, numB .u8 (e1 l kids i)⟩) l.length (by omega) ⟨0, _, Nat.zero_le _, rfl, rfl, rfl, ?_, ?_, by (have FX := Fx.mk (@q1); exact cl_)⟩ ?_
    · omega
    · omega
    rintro r tm' h' k' ⟨i, m, hi, rfl, h5, h4, m1, m2, m3⟩ hag hh hk'
    have hbox : h' nx = some ⟨2, [[.sl (itemB l), .sl (numB .i64 kids)]]⟩ := by rw [hh nx (by omega)]; (have FX := Fx0; exact cl_)
    by_cases hlt : i < l.length
    · have hd : decide ((i : Int) < (l.length : Int)) = true := decide_eq_true (by omega)
      have hw : IntKind.i64.wrap (i + 1) = ((i + 1 : Nat) : Int) := by rw [wrapI] <;> omega
      obtain ⟨x, hx0⟩ : ∃ x, l[i]? = some x := ⟨l[i], List.getElem?_eq_getElem hlt⟩
      have hxr := hit.2 x (List.mem_of_getElem? hx0)
      have hx := itemB_get l i x hx0
      have hp := ref01_Put x.1 8
      rw [Pl.putS_fits (by decide) (by have e4 : (256 : Int) ^ (4 : Int).toNat = 4294967296 := by decide
                                       have e8 : (256 : Int) ^ (8 : Int).toNat = 18446744073709551616 := by decide
                                       omega)] at hp
      have hpl := Pl.putI_length 8 x.1
      have hst := e1_step l kids i x hx0
      have hpl := e1_len l kids i hi
      have htk := take_len _ _ hpl
      have FX := Fx.mk (And.intro @hag <| And.intro @h5 <| And.intro @h4 <| And.intro @m3 <| And.intro @hh <| And.intro @hd <| And.intro @hw <| And.intro @hx <| And.intro @i1 <| And.intro @i2 <| And.intro @hbox <| And.intro @hpl <| And.intro @htk <| @hpl)
      repeat (first | refine v_ ?_ | refine u_ ?_ | refine f_ (hp) fun kf hkf => ?_ | refine nl_ ?_ | (refine nz_ ?_; first | (show aWp _ _ _ _ _) | skip) | refine sq_ ?_ | refine rg_ ?_ | refine k_ ?_ | refine ct_ ?_ | refine cf_ ?_ | refine bk_ ?_ | refine sc_ ?_ | (refine sk_ ?_; first | (show aWp _ _ _ _ _) | skip) | (refine ex_ ?_; first | (show aWp _ _ _ _ _) | skip) | refine rt_ ?_)
      refine ⟨l.length - (i + 1), by omega, ⟨i + 1, _, by omega, rfl, ?_, rfl, ?_, ?_, ?_⟩, ?_, ?_, by simp only; omega, rfl⟩
      · (have FX := Fx0; exact cl_)
      · omega
      · simp only; omega
      · (have FX := Fx.mk (@hst); exact cl_)
      · repeat (refine KAgree.upd rfl ?_)
        first | exact KAgree.refl _ _ | exact hag
      · exact (by have FX := Fx.mk (@hh); exact ha_)
    obtain rfl : i = l.length := by omega
    have hd : decide ((l.length : Int) < (l.length : Int)) = false := by simp
    have FX := Fx.mk (And.intro @hag <| And.intro @h5 <| And.intro @h4 <| And.intro @hh <| And.intro @hd <| And.intro @i1 <| And.intro @i2 <| @hbox)
    repeat (first | refine v_ ?_ | refine u_ ?_ | refine nl_ ?_ | (refine nz_ ?_; first | (show aWp _ _ _ _ _) | skip) | refine sq_ ?_ | refine rg_ ?_ | refine k_ ?_ | refine ct_ ?_ | refine cf_ ?_ | refine bk_ ?_ | refine sc_ ?_ | (refine sk_ ?_; first | (show aWp _ _ _ _ _) | skip) | (refine ex_ ?_; first | (show aWp _ _ _ _ _) | skip) | refine rt_ ?_)
    have q0 : e2 l kids 0 = e1 l kids l.length := by simp [e2, pu]
    refine W_loopK [1] (nx + 1) (fun r tm h q => ∃ i m : Nat, i ≤ l.length ∧ r = l.length - i ∧ tm 8 = .int .i64 i ∧ tm 4 = .hs m 0 (4 + 8 * l.length + 8 * i) ∧ nx + 1 ≤ m ∧ m < q ∧ h m = some ⟨1, numB .u8 (e2 l kids i)⟩) l.length (by omega) ⟨0, m, Nat.zero_le _, rfl, rfl, by (have FX := Fx.mk (@h4); exact cl_), m1, m2, by (have FX := Fx.mk (And.intro @m3 <| @q0); exact cl_)⟩ ?_
    rintro r tm2 h2 k2 ⟨i, m', hi2, rfl, h8, h4', m1', m2', m3'⟩ hag2 hh2 hk2
    have hbox2 : h2 nx = some ⟨2, [[.sl (itemB l), .sl (numB .i64 kids)]]⟩ := by rw [hh2 nx (by omega)]; exact hbox
    have g2 : decide ((kids.length : Int) = 0) = true := decide_eq_true (by omega)
    by_cases hlt : i < l.length
    · have hd : decide ((i : Int) < (l.length : Int)) = true := decide_eq_true (by omega)
      have hw : IntKind.i64.wrap (i + 1) = ((i + 1 : Nat) : Int) := by rw [wrapI] <;> omega
      obtain ⟨x, hx0⟩ : ∃ x, l[i]? = some x := ⟨l[i], List.getElem?_eq_getElem hlt⟩
      have hxr := hit.2 x (List.mem_of_getElem? hx0)
      have hx := itemB_get l i x hx0
      have hp := ref01_Put x.2 8
      rw [Pl.putS_fits (by decide) (by have e4 : (256 : Int) ^ (4 : Int).toNat = 4294967296 := by decide
                                       have e8 : (256 : Int) ^ (8 : Int).toNat = 18446744073709551616 := by decide
                                       omega)] at hp
      have hpl := Pl.putI_length 8 x.2
      have hst := e2_step l kids i x hx0
      have hpl := e2_len l kids i hi2
      have htk := take_len _ _ hpl
      have FX := Fx.mk (And.intro @hag2 <| And.intro @hag <| And.intro @h8 <| And.intro @h4' <| And.intro @m3' <| And.intro @hh2 <| And.intro @hh <| And.intro @hd <| And.intro @g2 <| And.intro @hw <| And.intro @hx <| And.intro @i1 <| And.intro @i2 <| And.intro @hbox2 <| And.intro @hpl <| And.intro @htk <| @hpl)
      repeat (first | refine v_ ?_ | refine u_ ?_ | refine f_ (hp) fun kf hkf => ?_ | refine nl_ ?_ | (refine nz_ ?_; first | (show aWp _ _ _ _ _) | skip) | refine sq_ ?_ | refine rg_ ?_ | refine k_ ?_ | refine ct_ ?_ | refine cf_ ?_ | refine bk_ ?_ | refine sc_ ?_ | (refine sk_ ?_; first | (show aWp _ _ _ _ _) | skip) | (refine ex_ ?_; first | (show aWp _ _ _ _ _) | skip) | refine rt_ ?_)
      refine ⟨l.length - (i + 1), by omega, ⟨i + 1, _, by omega, rfl, ?_, rfl, ?_, ?_, ?_⟩, ?_, ?_, by simp only; omega, rfl⟩
      · (have FX := Fx0; exact cl_)
      · omega
      · simp only; omega
      · (have FX := Fx.mk (@hst); exact cl_)
      · repeat (refine KAgree.upd rfl ?_)
        exact hag2
      · exact (by have FX := Fx.mk (@hh2); exact ha_)
    obtain rfl : i = l.length := by omega
    have hd : decide ((l.length : Int) < (l.length : Int)) = false := by simp
    have FX := Fx.mk (And.intro @hag2 <| And.intro @hag <| And.intro @h8 <| And.intro @hh2 <| And.intro @hh <| And.intro @hd <| And.intro @i1 <| And.intro @i2 <| @hbox2)
    repeat (first | refine v_ ?_ | refine u_ ?_ | refine nl_ ?_ | (refine nz_ ?_; first | (show aWp _ _ _ _ _) | skip) | refine sq_ ?_ | refine rg_ ?_ | refine k_ ?_ | refine ct_ ?_ | refine cf_ ?_ | refine bk_ ?_ | refine sc_ ?_ | (refine sk_ ?_; first | (show aWp _ _ _ _ _) | skip) | (refine ex_ ?_; first | (show aWp _ _ _ _ _) | skip) | refine rt_ ?_)
    refine W_loopK [1] (nx + 1) (fun r tm h q => tm 11 = .int .i64 0 ∧ tm 4 = .hs m' 0 (4 + 8 * l.length + 8 * l.length) ∧ nx + 1 ≤ m' ∧ m' < q ∧ h m' = some ⟨1, numB .u8 (e2 l kids l.length)⟩) 0 (by omega) ⟨rfl, by (have FX := Fx.mk (@h4'); exact cl_), m1', m2', by (have FX := Fx.mk (@m3'); exact cl_)⟩ ?_
    rintro r tm3 h3 k3 ⟨h11, h4, m1, m2, m3⟩ hag3 hh3 hk3'
    have hbox3 : h3 nx = some ⟨2, [[.sl (itemB l), .sl (numB .i64 kids)]]⟩ := by rw [hh3 nx (by omega)]; exact hbox2
    have g3 : decide ((0 : Int) < (kids.length : Int)) = false := decide_eq_false (by omega)
    have hFe : encF l kids = e2 l kids l.length := by
      have : kids = [] := List.eq_nil_of_length_eq_zero hk3
      subst this
      exact encF_flat l hn.2
    have FX := Fx.mk (And.intro @hag3 <| And.intro @hag2 <| And.intro @hag <| And.intro @h11 <| And.intro @hh3 <| And.intro @hh2 <| And.intro @hh <| And.intro @g3 <| And.intro @i1 <| And.intro @i2 <| @hbox3)
    repeat (first | refine v_ ?_ | refine u_ ?_ | refine nl_ ?_ | (refine nz_ ?_; first | (show aWp _ _ _ _ _) | skip) | refine sq_ ?_ | refine rg_ ?_ | refine k_ ?_ | refine ct_ ?_ | refine cf_ ?_ | refine bk_ ?_ | refine sc_ ?_ | (refine sk_ ?_; first | (show aWp _ _ _ _ _) | skip) | (refine ex_ ?_; first | (show aWp _ _ _ _ _) | skip) | refine rt_ ?_)
    have hse := ref02_Seal (padL (encF l kids)) (by unfold padL; simp; omega)
    rw [hFe] at hF hse
    have hl4 : (e2 l kids l.length).length = 4 + 8 * l.length + 8 * l.length := e2_len l kids l.length (Nat.le_refl _)
    have htk4 := take_len _ _ hl4
    have hw60 : IntKind.i64.wrap (60 - ((4 + 8 * l.length + 8 * l.length : Nat) : Int)) = ((60 - (4 + 8 * l.length + 8 * l.length) : Nat) : Int) := by rw [wrapI] <;> omega
    have hpd : e2 l kids l.length ++ List.replicate (60 - (4 + 8 * l.length + 8 * l.length)) 0 = padL (e2 l kids l.length) := by unfold padL; rw [hl4]
    have hpl : (padL (e2 l kids l.length)).length = 60 := padL_len hF
    have hpt : (padL (e2 l kids l.length)).take (4 + 8 * l.length + 8 * l.length + (60 - (4 + 8 * l.length + 8 * l.length))) = padL (e2 l kids l.length) := List.take_of_length_le (by rw [hpl]; omega)
    have hse0 : encS l kids = Pl.sealS (padL (e2 l kids l.length)) := by unfold encS; rw [hFe]
    rw [hse0]
    -- DBG
    have FX := Fx.mk (And.intro @hag3 <| And.intro @hag2 <| And.intro @hag <| And.intro @h4 <| And.intro @m3 <| And.intro @hh3 <| And.intro @hh2 <| And.intro @hh <| And.intro @hw60 <| And.intro @hpd <| And.intro @hl4 <| @htk4)
    repeat (first | refine v_ ?_ | refine u_ ?_ | refine nl_ ?_ | (refine nz_ ?_; first | (show aWp _ _ _ _ _) | skip) | refine sq_ ?_ | refine rg_ ?_ | refine k_ ?_ | refine ct_ ?_ | refine cf_ ?_ | refine bk_ ?_ | refine sc_ ?_ | (refine sk_ ?_; first | (show aWp _ _ _ _ _) | skip) | (refine ex_ ?_; first | (show aWp _ _ _ _ _) | skip) | refine rt_ ?_)
    have FX := Fx.mk (And.intro @hpt <| And.intro @hpd <| @hl4); refine fz_ 99 ?_
    have FX := Fx.mk (@hpt)
    repeat (first | refine v_ ?_ | refine u_ ?_ | refine o_ (hse) fun mf kf hmf hkf => ?_ | refine nl_ ?_ | (refine nz_ ?_; first | (show aWp _ _ _ _ _) | skip) | refine sq_ ?_ | refine rg_ ?_ | refine k_ ?_ | refine ct_ ?_ | refine cf_ ?_ | refine bk_ ?_ | refine sc_ ?_ | (refine sk_ ?_; first | (show aWp _ _ _ _ _) | skip) | (refine ex_ ?_; first | (show aWp _ _ _ _ _) | skip) | refine rt_ ?_)
    (have FX := Fx.mk (And.intro @hag3 <| And.intro @hag2 <| And.intro @hag <| And.intro @h4 <| And.intro @m3 <| And.intro @hh3 <| And.intro @hh2 <| @hh); exact end_ Try.results21)
theorem ref_Encode_bad (l : List (Int × Int)) (kids : List Int) (hok : ¬ okN l kids) : aFun Try.prog 21 [nodeV l kids] (.tup [.sl [], .int .i64 9]) := by
  have hck := ref07_Check l kids
  rw [chk_bad hok] at hck
  unfold nodeV at hck ⊢
  refine aFun_body Try.func21 rfl rfl (by simp [Try.ntmps21]) fun hreal h nx hfresh => ?_
  rw [Try.ntmps21]
  have d0 : decide ((9 : Int) = 0) = false := rfl
  have FX := Fx.mk (@d0)
  repeat (first | refine v_ ?_ | refine u_ ?_ | refine f_ (hck) fun kf hkf => ?_ | refine nl_ ?_ | (refine nz_ ?_; first | (show aWp _ _ _ _ _) | skip) | refine sq_ ?_ | refine rg_ ?_ | refine k_ ?_ | refine ct_ ?_ | refine cf_ ?_ | refine bk_ ?_ | refine sc_ ?_ | (refine sk_ ?_; first | (show aWp _ _ _ _ _) | skip) | (refine ex_ ?_; first | (show aWp _ _ _ _ _) | skip) | refine rt_ ?_)
  (have FX := Fx0; exact end_ Try.results21)
#print axioms ref_Encode
end Go.Proofs.Ytcnofpoffdjbpaa.AE
