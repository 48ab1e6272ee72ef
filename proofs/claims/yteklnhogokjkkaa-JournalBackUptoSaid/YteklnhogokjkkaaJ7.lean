/- Layer 15's laws: num, Of, SamePages, same. -/
import Derived.Test.YteklnhogokjkkaaJ6
import Derived.Test.YteklnhogokjkkaaG1
namespace Go.Proofs.Yteklnhogokjkkaa.AE
open Go Go.RowKit Go.Proofs Go.Proofs.Yteklnhogokjkkaa
set_option linter.unusedVariables false
set_option linter.unusedSimpArgs false
set_option maxRecDepth 100000
set_option maxHeartbeats 8000000
theorem law_num (e : Int) : aFun Try.prog 18 [.int .i64 e] (.int .i64 e) := by
  refine aFun_body Try.func18 rfl rfl (by simp [Try.ntmps18]) fun hreal h nx hfresh => ?_
  rw [Try.ntmps18]
  have hi := inI64 ((hreal (.int .i64 e) (by simp)).int)
  have hw : IntKind.i64.wrap e = e := by rw [wrapI] <;> omega
  have FX := Fx.mk (@hw)
  repeat (first | refine v_ ?_ | refine u_ ?_ | refine nl_ ?_ | (refine nz_ ?_; first | (show aWp _ _ _ _ _) | skip) | refine sq_ ?_ | refine rg_ ?_ | refine k_ ?_ | refine ct_ ?_ | refine cf_ ?_ | refine bk_ ?_ | refine sc_ ?_ | (refine sk_ ?_; first | (show aWp _ _ _ _ _) | skip) | (refine ex_ ?_; first | (show aWp _ _ _ _ _) | skip) | refine rt_ ?_)
  (have FX := Fx0; exact end_ Try.results18)
theorem Copy_fn (l : List Int) (hc : l.length ≤ 140737488355328) : aFun Try.prog 10 [.sl (numB .u8 l)] (.sl (numB .u8 l)) := by
  refine aFun_body Try.func10 rfl rfl (by simp [Try.ntmps10]) fun hreal h nx hfresh => ?_
  rw [Try.ntmps10]
  have hb := (hreal (.sl (numB .u8 l)) (by simp)).num.1
  have FX := Fx.mk (And.intro @hb <| @hc)
  repeat (first | refine v_ ?_ | refine u_ ?_ | refine nl_ ?_ | (refine nz_ ?_; first | (show aWp _ _ _ _ _) | skip) | refine sq_ ?_ | refine rg_ ?_ | refine k_ ?_ | refine ct_ ?_ | refine cf_ ?_ | refine bk_ ?_ | refine sc_ ?_ | (refine sk_ ?_; first | (show aWp _ _ _ _ _) | skip) | (refine ex_ ?_; first | (show aWp _ _ _ _ _) | skip) | refine rt_ ?_)
  (have FX := Fx0; exact end_ Try.results10)
theorem take_succ_eq {α : Type} (a b : List α) (i : Nat) (x : α) (ha : a[i]? = some x) (hb : b[i]? = some x) (h : a.take i = b.take i) : a.take (i + 1) = b.take (i + 1) := by rw [List.take_add_one, List.take_add_one, ha, hb, h]
theorem SamePages (a b : List Pg) : aFun Try.prog 39 [.sl (pagesB a), .sl (pagesB b)] (.bool (decide (a = b))) := by
  have la := pagesB_len a
  have lb := pagesB_len b
  by_cases hl : a.length = b.length
  rotate_left
  · rw [decide_eq_false (fun q => hl (by rw [q]))]
    have dl : decide ((a.length : Int) = (b.length : Int)) = false := decide_eq_false (by omega)
    refine aFun_body Try.func39 rfl rfl (by simp [Try.ntmps39]) fun hreal h nx hfresh => ?_
    rw [Try.ntmps39]
    have FX := Fx.mk (And.intro @la <| And.intro @lb <| And.intro @dl <| @Bool.not_false)
    repeat (first | refine v_ ?_ | refine u_ ?_ | refine nl_ ?_ | (refine nz_ ?_; first | (show aWp _ _ _ _ _) | skip) | refine sq_ ?_ | refine rg_ ?_ | refine k_ ?_ | refine ct_ ?_ | refine cf_ ?_ | refine bk_ ?_ | refine sc_ ?_ | (refine sk_ ?_; first | (show aWp _ _ _ _ _) | skip) | (refine ex_ ?_; first | (show aWp _ _ _ _ _) | skip) | refine rt_ ?_)
    (have FX := Fx0; exact end_ Try.results39)
  have dl : decide ((a.length : Int) = (b.length : Int)) = true := decide_eq_true (by omega)
  refine aFun_body Try.func39 rfl rfl (by simp [Try.ntmps39]) fun hreal h nx hfresh => ?_
  rw [Try.ntmps39]
  have hal : a.length < 4611686018427387904 := by
    have := (hreal (.sl (pagesB a)) (by simp)).sl.1
    rwa [la] at this
  have FX := Fx.mk (And.intro @la <| And.intro @lb <| And.intro @dl <| @Bool.not_true)
  repeat (first | refine v_ ?_ | refine u_ ?_ | refine nl_ ?_ | (refine nz_ ?_; first | (show aWp _ _ _ _ _) | skip) | refine sq_ ?_ | refine rg_ ?_ | refine k_ ?_ | refine ct_ ?_ | refine cf_ ?_ | refine bk_ ?_ | refine sc_ ?_ | (refine sk_ ?_; first | (show aWp _ _ _ _ _) | skip) | (refine ex_ ?_; first | (show aWp _ _ _ _ _) | skip) | refine rt_ ?_)
  refine W_loopK [0, 1] nx (fun r tm h q => ∃ i : Nat, i ≤ a.length ∧ r = a.length - i ∧ tm 5 = .int .i64 i ∧ a.take i = b.take i) a.length (by omega) ⟨0, by omega, rfl, by (have FX := Fx0; exact cl_), rfl⟩ ?_
  rintro r tm' h' k' ⟨i, hi, rfl, h5, htk⟩ hag hh hk'
  by_cases hlt : i < a.length
  · have hd : decide ((i : Int) < (a.length : Int)) = true := decide_eq_true (by omega)
    have hw : IntKind.i64.wrap (i + 1) = ((i + 1 : Nat) : Int) := by rw [wrapI] <;> omega
    obtain ⟨x, hx⟩ : ∃ x, a[i]? = some x := ⟨_, List.getElem?_eq_getElem hlt⟩
    obtain ⟨y, hy⟩ : ∃ y, b[i]? = some y := ⟨_, List.getElem?_eq_getElem (by omega)⟩
    have ea := pagesB_get a i x hx
    have eb := pagesB_get b i y hy
    have sb := SameBytes x.2 y.2
    have FX := Fx.mk (And.intro @hag <| And.intro @h5 <| And.intro @la <| @hd)
    repeat (first | refine v_ ?_ | refine u_ ?_ | refine nl_ ?_ | (refine nz_ ?_; first | (show aWp _ _ _ _ _) | skip) | refine sq_ ?_ | refine rg_ ?_ | refine k_ ?_ | refine ct_ ?_ | refine cf_ ?_ | refine bk_ ?_ | refine sc_ ?_ | (refine sk_ ?_; first | (show aWp _ _ _ _ _) | skip) | (refine ex_ ?_; first | (show aWp _ _ _ _ _) | skip) | refine rt_ ?_)
    by_cases e1 : x.1 = y.1
    · have f1 : decide (x.1 = y.1) = true := decide_eq_true e1
      by_cases e2 : x.2 = y.2
      · rw [decide_eq_true e2] at sb
        have FX := Fx.mk (And.intro @hag <| And.intro @h5 <| And.intro @ea <| And.intro @eb <| And.intro @f1 <| @Bool.not_true)
        refine W_draw mixed rfl rfl ?_
        repeat (first | refine dq_ ?_ | refine df_ (sb) ?_ | refine dr_ [nx] ?_ | refine dk_ ?_ | refine dn_ ?_)
        refine fun kd hkd => ?_
        simp only [List.length_cons, List.length_nil] at hkd
        first | (show aWp _ _ _ _ _) | skip
        have FX := Fx.mk (And.intro @hag <| And.intro @h5 <| @hw)
        repeat (first | refine v_ ?_ | refine u_ ?_ | refine nl_ ?_ | (refine nz_ ?_; first | (show aWp _ _ _ _ _) | skip) | refine sq_ ?_ | refine rg_ ?_ | refine k_ ?_ | refine ct_ ?_ | refine cf_ ?_ | refine bk_ ?_ | refine sc_ ?_ | (refine sk_ ?_; first | (show aWp _ _ _ _ _) | skip) | (refine ex_ ?_; first | (show aWp _ _ _ _ _) | skip) | refine rt_ ?_)
        refine ⟨a.length - (i + 1), by omega, ⟨i + 1, by omega, rfl, by (have FX := Fx0; exact cl_), take_succ_eq a b i x hx (by rw [hy, Prod.ext e1 e2]) htk⟩, ?_, ?_, by first | omega | (simp only; omega), rfl⟩
        · repeat (refine KAgree.upd rfl ?_)
          first | exact KAgree.refl _ _ | exact hag
        · exact (by have FX := Fx.mk (@hh); exact ha_)
      · rw [decide_eq_false e2] at sb
        rw [decide_eq_false (fun q => e2 (by subst q; rw [hx] at hy; cases hy; rfl))]
        have FX := Fx.mk (And.intro @hag <| And.intro @h5 <| And.intro @ea <| And.intro @eb <| And.intro @f1 <| And.intro @Bool.not_true <| @Bool.not_false)
        refine W_draw mixed rfl rfl ?_
        repeat (first | refine dq_ ?_ | refine df_ (sb) ?_ | refine dr_ [nx] ?_ | refine dk_ ?_ | refine dn_ ?_)
        refine fun kd hkd => ?_
        simp only [List.length_cons, List.length_nil] at hkd
        first | (show aWp _ _ _ _ _) | skip
        have FX := Fx0
        repeat (first | refine v_ ?_ | refine u_ ?_ | refine nl_ ?_ | (refine nz_ ?_; first | (show aWp _ _ _ _ _) | skip) | refine sq_ ?_ | refine rg_ ?_ | refine k_ ?_ | refine ct_ ?_ | refine cf_ ?_ | refine bk_ ?_ | refine sc_ ?_ | (refine sk_ ?_; first | (show aWp _ _ _ _ _) | skip) | (refine ex_ ?_; first | (show aWp _ _ _ _ _) | skip) | refine rt_ ?_)
        (have FX := Fx.mk (And.intro @hag <| @hh); exact end_ Try.results39)
    · have f1 : decide (x.1 = y.1) = false := decide_eq_false e1
      rw [decide_eq_false (fun q => e1 (by subst q; rw [hx] at hy; cases hy; rfl))]
      have FX := Fx.mk (And.intro @hag <| And.intro @h5 <| And.intro @ea <| And.intro @eb <| And.intro @f1 <| @Bool.not_false)
      refine W_draw mixed rfl rfl ?_
      repeat (first | refine dq_ ?_ | refine dr_ [nx] ?_ | refine dk_ ?_ | refine dn_ ?_)
      refine fun kd hkd => ?_
      simp only [List.length_cons, List.length_nil] at hkd
      first | (show aWp _ _ _ _ _) | skip
      have FX := Fx0
      repeat (first | refine v_ ?_ | refine u_ ?_ | refine nl_ ?_ | (refine nz_ ?_; first | (show aWp _ _ _ _ _) | skip) | refine sq_ ?_ | refine rg_ ?_ | refine k_ ?_ | refine ct_ ?_ | refine cf_ ?_ | refine bk_ ?_ | refine sc_ ?_ | (refine sk_ ?_; first | (show aWp _ _ _ _ _) | skip) | (refine ex_ ?_; first | (show aWp _ _ _ _ _) | skip) | refine rt_ ?_)
      (have FX := Fx.mk (And.intro @hag <| @hh); exact end_ Try.results39)
  obtain rfl : i = a.length := by omega
  have hd : decide ((a.length : Int) < (a.length : Int)) = false := decide_eq_false (by omega)
  have hab : a = b := by rw [List.take_length, hl, List.take_length] at htk; exact htk
  rw [decide_eq_true hab]
  have FX := Fx.mk (And.intro @hag <| And.intro @h5 <| And.intro @la <| @hd)
  repeat (first | refine v_ ?_ | refine u_ ?_ | refine nl_ ?_ | (refine nz_ ?_; first | (show aWp _ _ _ _ _) | skip) | refine sq_ ?_ | refine rg_ ?_ | refine k_ ?_ | refine ct_ ?_ | refine cf_ ?_ | refine bk_ ?_ | refine sc_ ?_ | (refine sk_ ?_; first | (show aWp _ _ _ _ _) | skip) | (refine ex_ ?_; first | (show aWp _ _ _ _ _) | skip) | refine rt_ ?_)
  (have FX := Fx.mk (And.intro @hag <| @hh); exact end_ Try.results39)
instance (a b : Rec) : Decidable (a = b) := decidable_of_iff (a.q = b.q ∧ a.root = b.root ∧ a.room = b.room ∧ a.pages = b.pages) ⟨fun ⟨h1, h2, h3, h4⟩ => by cases a; cases b; simp_all, fun h => by subst h; exact ⟨rfl, rfl, rfl, rfl⟩⟩
theorem law_same (a b : Rec) : aFun Try.prog 19 [a.av, b.av] (.bool (decide (a = b))) := by
  have sp := SamePages a.pages b.pages
  rw [Rec.av_eq, Rec.av_eq]
  by_cases h1 : a.q = b.q
  rotate_left
  · rw [decide_eq_false (fun q => h1 (by rw [q]))]
    have e1 := decide_eq_false h1
    refine aFun_body Try.func19 rfl rfl (by simp [Try.ntmps19]) fun hreal h nx hfresh => ?_
    rw [Try.ntmps19]
    have FX := Fx.mk (@e1)
    repeat (first | refine v_ ?_ | refine u_ ?_ | refine f_ (sp) fun kf hkf => ?_ | refine nl_ ?_ | (refine nz_ ?_; first | (show aWp _ _ _ _ _) | skip) | refine sq_ ?_ | refine rg_ ?_ | refine k_ ?_ | refine ct_ ?_ | refine cf_ ?_ | refine bk_ ?_ | refine sc_ ?_ | (refine sk_ ?_; first | (show aWp _ _ _ _ _) | skip) | (refine ex_ ?_; first | (show aWp _ _ _ _ _) | skip) | refine rt_ ?_)
    (have FX := Fx0; exact end_ Try.results19)
  have e1 := decide_eq_true h1
  by_cases h2 : a.root = b.root
  rotate_left
  · rw [decide_eq_false (fun q => h2 (by rw [q]))]
    have e2 := decide_eq_false h2
    refine aFun_body Try.func19 rfl rfl (by simp [Try.ntmps19]) fun hreal h nx hfresh => ?_
    rw [Try.ntmps19]
    have FX := Fx.mk (And.intro @e1 <| @e2)
    repeat (first | refine v_ ?_ | refine u_ ?_ | refine f_ (sp) fun kf hkf => ?_ | refine nl_ ?_ | (refine nz_ ?_; first | (show aWp _ _ _ _ _) | skip) | refine sq_ ?_ | refine rg_ ?_ | refine k_ ?_ | refine ct_ ?_ | refine cf_ ?_ | refine bk_ ?_ | refine sc_ ?_ | (refine sk_ ?_; first | (show aWp _ _ _ _ _) | skip) | (refine ex_ ?_; first | (show aWp _ _ _ _ _) | skip) | refine rt_ ?_)
    (have FX := Fx0; exact end_ Try.results19)
  have e2 := decide_eq_true h2
  by_cases h3 : a.room = b.room
  rotate_left
  · rw [decide_eq_false (fun q => h3 (by rw [q]))]
    have e3 := decide_eq_false h3
    refine aFun_body Try.func19 rfl rfl (by simp [Try.ntmps19]) fun hreal h nx hfresh => ?_
    rw [Try.ntmps19]
    have FX := Fx.mk (And.intro @e1 <| And.intro @e2 <| @e3)
    repeat (first | refine v_ ?_ | refine u_ ?_ | refine f_ (sp) fun kf hkf => ?_ | refine nl_ ?_ | (refine nz_ ?_; first | (show aWp _ _ _ _ _) | skip) | refine sq_ ?_ | refine rg_ ?_ | refine k_ ?_ | refine ct_ ?_ | refine cf_ ?_ | refine bk_ ?_ | refine sc_ ?_ | (refine sk_ ?_; first | (show aWp _ _ _ _ _) | skip) | (refine ex_ ?_; first | (show aWp _ _ _ _ _) | skip) | refine rt_ ?_)
    (have FX := Fx0; exact end_ Try.results19)
  have e3 := decide_eq_true h3
  have e4 : decide (a.pages = b.pages) = decide (a = b) := decide_eq_decide.2 ⟨fun h => by cases a; cases b; simp_all, fun h => by rw [h]⟩
  rw [e4] at sp
  refine aFun_body Try.func19 rfl rfl (by simp [Try.ntmps19]) fun hreal h nx hfresh => ?_
  rw [Try.ntmps19]
  have FX := Fx.mk (And.intro @e1 <| And.intro @e2 <| @e3)
  repeat (first | refine v_ ?_ | refine u_ ?_ | refine f_ (sp) fun kf hkf => ?_ | refine nl_ ?_ | (refine nz_ ?_; first | (show aWp _ _ _ _ _) | skip) | refine sq_ ?_ | refine rg_ ?_ | refine k_ ?_ | refine ct_ ?_ | refine cf_ ?_ | refine bk_ ?_ | refine sc_ ?_ | (refine sk_ ?_; first | (show aWp _ _ _ _ _) | skip) | (refine ex_ ?_; first | (show aWp _ _ _ _ _) | skip) | refine rt_ ?_)
  (have FX := Fx0; exact end_ Try.results19)
theorem law_Of (r : Rec) (hp : r.pages.length * 32 ≤ 140737488351232) (hd : ∀ p ∈ r.pages, p.2.length ≤ 140737488355328) : aFun Try.prog 9 [r.av] r.av := by
  have pl := pagesB_len r.pages
  rw [Rec.av_eq]
  refine aFun_body Try.func9 rfl rfl (by simp [Try.ntmps9]) fun hreal h nx hfresh => ?_
  rw [Try.ntmps9]
  have FX := Fx.mk (@pl)
  repeat (first | refine v_ ?_ | refine u_ ?_ | refine nl_ ?_ | (refine nz_ ?_; first | (show aWp _ _ _ _ _) | skip) | refine sq_ ?_ | refine rg_ ?_ | refine k_ ?_ | refine ct_ ?_ | refine cf_ ?_ | refine bk_ ?_ | refine sc_ ?_ | (refine sk_ ?_; first | (show aWp _ _ _ _ _) | skip) | (refine ex_ ?_; first | (show aWp _ _ _ _ _) | skip) | refine rt_ ?_)
  refine W_loopK [1, 2, 3] nx (fun k tm h q => ∃ (i : Nat) (Pv : AV), i ≤ r.pages.length ∧ k = r.pages.length - i ∧ tm 4 = .int .i64 i ∧ nx + 1 + 1 < q ∧ h nx = some ⟨4, [[.int .i64 r.q, .int .i64 r.root, .int .i64 r.room, .sl (pagesB r.pages)]]⟩ ∧ h (nx + 1) = some ⟨4, [[.int .i64 0, .int .i64 0, .int .i64 0, .zs]]⟩ ∧ h (nx + 1 + 1) = some ⟨4, [[.int .i64 r.q, .int .i64 r.root, .int .i64 r.room, Pv]]⟩ ∧ ((Pv = .zs ∧ i = 0) ∨ ∃ m, Pv = .hs m 0 i ∧ nx + 1 + 1 < m ∧ m < q ∧ h m = some ⟨2, pagesB (r.pages.take i)⟩)) r.pages.length (by omega) ⟨0, .zs, by omega, rfl, by (have FX := Fx0; exact cl_), by omega, by (have FX := Fx0; exact cl_), by (have FX := Fx0; exact cl_), by (have FX := Fx0; exact cl_), .inl ⟨rfl, rfl⟩⟩ ?_
  rintro k tm' h' k' ⟨i, Pv, hi, rfl, h4, m0, b0, b1, b2, hP⟩ hag hh hk'
  have plt : (pagesB (r.pages.take i)).length = i := by rw [pagesB_len]; simp; omega
  have ptk : (pagesB (r.pages.take i)).take i = pagesB (r.pages.take i) := List.take_of_length_le (by omega)
  by_cases hlt : i < r.pages.length
  · have hd' : decide ((i : Int) < (r.pages.length : Int)) = true := decide_eq_true (by omega)
    have hw : IntKind.i64.wrap (i + 1) = ((i + 1 : Nat) : Int) := by rw [wrapI] <;> omega
    obtain ⟨p, hpp⟩ : ∃ p, r.pages[i]? = some p := ⟨_, List.getElem?_eq_getElem hlt⟩
    have hpb := pagesB_get _ i p hpp
    have cf := Copy_fn p.2 (hd p (List.mem_of_getElem? hpp))
    have pap : pagesB (r.pages.take (i + 1)) = pagesB (r.pages.take i) ++ [[.int .i64 p.1, .sl (numB .u8 p.2)]] := by rw [List.take_add_one, hpp]; simp [pagesB, pageB]
    have pt0 : pagesB (r.pages.take 0) = [] := rfl
    have FX := Fx.mk (And.intro @hag <| And.intro @h4 <| And.intro @b0 <| And.intro @pl <| @hd')
    repeat (first | refine v_ ?_ | refine u_ ?_ | refine nl_ ?_ | (refine nz_ ?_; first | (show aWp _ _ _ _ _) | skip) | refine sq_ ?_ | refine rg_ ?_ | refine k_ ?_ | refine ct_ ?_ | refine cf_ ?_ | refine bk_ ?_ | refine sc_ ?_ | (refine sk_ ?_; first | (show aWp _ _ _ _ _) | skip) | (refine ex_ ?_; first | (show aWp _ _ _ _ _) | skip) | refine rt_ ?_)
    rcases hP with ⟨rfl, rfl⟩ | ⟨m, rfl, hm1, hm2, hm3⟩
    · rw [pt0, List.nil_append] at pap
      have FX := Fx.mk (And.intro @hag <| And.intro @h4 <| And.intro @b0 <| And.intro @b2 <| And.intro @pl <| @hpb)
      refine W_draw mixed rfl rfl ?_
      repeat (first | refine dq_ ?_ | refine df_ (cf) ?_ | refine dr_ [nx, nx + 1 + 1] ?_ | refine dm_ [nx + 1 + 1, k' + (0 + 1 + 1 + 1 + 1 + 1 + 1 + 1 + 1 + 1 + 1 + 1 + 1 + 1 + 1 + 1 + 1)] ?_ | refine da_ [nx + 1 + 1, k' + (0 + 1 + 1 + 1 + 1 + 1 + 1 + 1 + 1 + 1 + 1 + 1 + 1 + 1 + 1 + 1 + 1)] ?_ | refine ds_ [nx, nx + 1 + 1] ?_ | refine ds_ [nx + 1 + 1, k' + (0 + 1 + 1 + 1 + 1 + 1 + 1 + 1 + 1 + 1 + 1 + 1 + 1 + 1 + 1 + 1 + 1)] ?_ | refine dw_ [nx, nx + 1 + 1] ?_ | refine dk_ ?_ | refine dn_ ?_)
      refine fun kd hkd => ?_
      simp only [List.length_cons, List.length_nil] at hkd
      first | (show aWp _ _ _ _ _) | skip
      have FX := Fx.mk (And.intro @hag <| And.intro @h4 <| @hw)
      repeat (first | refine v_ ?_ | refine u_ ?_ | refine nl_ ?_ | (refine nz_ ?_; first | (show aWp _ _ _ _ _) | skip) | refine sq_ ?_ | refine rg_ ?_ | refine k_ ?_ | refine ct_ ?_ | refine cf_ ?_ | refine bk_ ?_ | refine sc_ ?_ | (refine sk_ ?_; first | (show aWp _ _ _ _ _) | skip) | (refine ex_ ?_; first | (show aWp _ _ _ _ _) | skip) | refine rt_ ?_)
      refine ⟨r.pages.length - (0 + 1), by omega, ⟨0 + 1, .hs (k' + (1 + 1 + 1 + 1 + 1 + 1 + 1 + 1 + 1 + 1 + 1 + 1 + 1 + 1 + 1 + 1 + 1)) 0 1, by omega, rfl, by (have FX := Fx0; exact cl_), by first | omega | (simp only; omega), by (have FX := Fx.mk (@b0); exact cl_), by (have FX := Fx.mk (@b1); exact cl_), by (have FX := Fx0; exact cl_), .inr ⟨k' + (1 + 1 + 1 + 1 + 1 + 1 + 1 + 1 + 1 + 1 + 1 + 1 + 1 + 1 + 1 + 1 + 1), rfl, by omega, by first | omega | (simp only; omega), by (have FX := Fx.mk (@pap); exact cl_)⟩⟩, ?_, ?_, by first | omega | (simp only; omega), rfl⟩
      · repeat (refine KAgree.upd rfl ?_)
        first | exact KAgree.refl _ _ | exact hag
      · exact (by have FX := Fx.mk (@hh); exact ha_)
    · have FX := Fx.mk (And.intro @hag <| And.intro @h4 <| And.intro @b0 <| And.intro @b2 <| And.intro @pl <| And.intro @hpb <| And.intro @hm3 <| And.intro @plt <| @ptk)
      refine W_draw mixed rfl rfl ?_
      repeat (first | refine dq_ ?_ | refine df_ (cf) ?_ | refine dr_ [nx, nx + 1 + 1] ?_ | refine dm_ [m, k' + (0 + 1 + 1 + 1 + 1 + 1 + 1 + 1 + 1 + 1 + 1 + 1 + 1 + 1 + 1 + 1 + 1)] ?_ | refine da_ [m, k' + (0 + 1 + 1 + 1 + 1 + 1 + 1 + 1 + 1 + 1 + 1 + 1 + 1 + 1 + 1 + 1 + 1)] ?_ | refine ds_ [nx, nx + 1 + 1] ?_ | refine ds_ [m, k' + (0 + 1 + 1 + 1 + 1 + 1 + 1 + 1 + 1 + 1 + 1 + 1 + 1 + 1 + 1 + 1 + 1)] ?_ | refine dw_ [nx, nx + 1 + 1] ?_ | refine dk_ ?_ | refine dn_ ?_)
      refine fun kd hkd => ?_
      simp only [List.length_cons, List.length_nil] at hkd
      first | (show aWp _ _ _ _ _) | skip
      have FX := Fx.mk (And.intro @hag <| And.intro @h4 <| @hw)
      repeat (first | refine v_ ?_ | refine u_ ?_ | refine nl_ ?_ | (refine nz_ ?_; first | (show aWp _ _ _ _ _) | skip) | refine sq_ ?_ | refine rg_ ?_ | refine k_ ?_ | refine ct_ ?_ | refine cf_ ?_ | refine bk_ ?_ | refine sc_ ?_ | (refine sk_ ?_; first | (show aWp _ _ _ _ _) | skip) | (refine ex_ ?_; first | (show aWp _ _ _ _ _) | skip) | refine rt_ ?_)
      refine ⟨r.pages.length - (i + 1), by omega, ⟨i + 1, .hs (k' + (1 + 1 + 1 + 1 + 1 + 1 + 1 + 1 + 1 + 1 + 1 + 1 + 1 + 1 + 1 + 1 + 1)) 0 (i + 1), by omega, rfl, by (have FX := Fx0; exact cl_), by first | omega | (simp only; omega), by (have FX := Fx.mk (@b0); exact cl_), by (have FX := Fx.mk (@b1); exact cl_), by (have FX := Fx0; exact cl_), .inr ⟨k' + (1 + 1 + 1 + 1 + 1 + 1 + 1 + 1 + 1 + 1 + 1 + 1 + 1 + 1 + 1 + 1 + 1), rfl, by omega, by first | omega | (simp only; omega), by (have FX := Fx.mk (@pap); exact cl_)⟩⟩, ?_, ?_, by first | omega | (simp only; omega), rfl⟩
      · repeat (refine KAgree.upd rfl ?_)
        first | exact KAgree.refl _ _ | exact hag
      · exact (by have FX := Fx.mk (@hh); exact ha_)
  obtain rfl : i = r.pages.length := by omega
  have hd' : decide ((r.pages.length : Int) < (r.pages.length : Int)) = false := decide_eq_false (by omega)
  rw [List.take_length] at ptk hP
  rcases hP with ⟨rfl, h0⟩ | ⟨m, rfl, hm1, hm2, hm3⟩
  · have hn : r.pages = [] := by simpa using h0
    have hn2 : pagesB r.pages = [] := by rw [hn]; rfl
    have FX := Fx.mk (And.intro @hag <| And.intro @h4 <| And.intro @b0 <| And.intro @b1 <| And.intro @b2 <| And.intro @pl <| @hd')
    repeat (first | refine v_ ?_ | refine u_ ?_ | refine nl_ ?_ | (refine nz_ ?_; first | (show aWp _ _ _ _ _) | skip) | refine sq_ ?_ | refine rg_ ?_ | refine k_ ?_ | refine ct_ ?_ | refine cf_ ?_ | refine bk_ ?_ | refine sc_ ?_ | (refine sk_ ?_; first | (show aWp _ _ _ _ _) | skip) | (refine ex_ ?_; first | (show aWp _ _ _ _ _) | skip) | refine rt_ ?_)
    (have FX := Fx.mk (And.intro @hag <| And.intro @hn2 <| @hh); exact end_ Try.results9)
  · have FX := Fx.mk (And.intro @hag <| And.intro @h4 <| And.intro @b0 <| And.intro @b1 <| And.intro @b2 <| And.intro @pl <| @hd')
    repeat (first | refine v_ ?_ | refine u_ ?_ | refine nl_ ?_ | (refine nz_ ?_; first | (show aWp _ _ _ _ _) | skip) | refine sq_ ?_ | refine rg_ ?_ | refine k_ ?_ | refine ct_ ?_ | refine cf_ ?_ | refine bk_ ?_ | refine sc_ ?_ | (refine sk_ ?_; first | (show aWp _ _ _ _ _) | skip) | (refine ex_ ?_; first | (show aWp _ _ _ _ _) | skip) | refine rt_ ?_)
    (have FX := Fx.mk (And.intro @hag <| And.intro @hm3 <| And.intro @pl <| And.intro @ptk <| @hh); exact end_ Try.results9)
end Go.Proofs.Yteklnhogokjkkaa.AE
