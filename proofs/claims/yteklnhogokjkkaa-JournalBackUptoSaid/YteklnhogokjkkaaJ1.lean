/- Layer 15: Check, padded. -/
import Derived.Test.YteklnhogokjkkaaJ0
import Derived.Test.YteklnhogokjkkaaC7
namespace Go.Proofs.Yteklnhogokjkkaa.AE
open Go Go.RowKit Go.Proofs Go.Proofs.Yteklnhogokjkkaa
set_option linter.unusedVariables false
set_option linter.unusedSimpArgs false
set_option maxRecDepth 100000
set_option maxHeartbeats 8000000
theorem journal_padded (n : Nat) (hn : n ≤ 140737488355328) : aFun Try.prog 28 [.int .i64 (n : Int)] (.int .i64 ((padN n : Nat) : Int)) := by
  have h1 : IntKind.i64.wrap ((n : Int) + 64) = (n : Int) + 64 := by rw [wrapI] <;> omega
  have h2 : IntKind.i64.wrap ((n : Int) + 64 - 1) = ((n + 63 : Nat) : Int) := by rw [wrapI] <;> omega
  have h3 : ((n + 63 : Nat) : Int).tdiv 64 = (((n + 63) / 64 : Nat) : Int) := by
    rw [Int.tdiv_eq_ediv_of_nonneg (by omega)]
    omega
  have h4 : IntKind.i64.wrap (((n + 63) / 64 : Nat) : Int) = (((n + 63) / 64 : Nat) : Int) := by rw [wrapI] <;> omega
  have h5 : IntKind.i64.wrap ((((n + 63) / 64 : Nat) : Int) * 64) = ((padN n : Nat) : Int) := by unfold padN; rw [wrapI] <;> omega
  refine aFun_body Try.func28 rfl rfl (by simp [Try.ntmps28]) fun hreal h nx hfresh => ?_
  rw [Try.ntmps28]
  have FX := Fx.mk (And.intro @h1 <| And.intro @h2 <| And.intro @h3 <| And.intro @h4 <| @h5)
  repeat (first | refine v_ ?_ | refine u_ ?_ | refine nl_ ?_ | (refine nz_ ?_; first | (show aWp _ _ _ _ _) | skip) | refine sq_ ?_ | refine rg_ ?_ | refine k_ ?_ | refine ct_ ?_ | refine cf_ ?_ | refine bk_ ?_ | refine sc_ ?_ | (refine sk_ ?_; first | (show aWp _ _ _ _ _) | skip) | (refine ex_ ?_; first | (show aWp _ _ _ _ _) | skip) | refine rt_ ?_)
  (have FX := Fx0; exact end_ Try.results28)
theorem journal_Check (r : Rec) : aFun Try.prog 21 [r.av] (.int .i64 r.chk) := by
  rw [Rec.av_eq]
  by_cases h1 : r.q < 1
  · rw [show r.chk = 9 from if_neg (by unfold Rec.ok; omega)]
    have e1 := decide_eq_true h1
    refine aFun_body Try.func21 rfl rfl (by simp [Try.ntmps21]) fun hreal h nx hfresh => ?_
    rw [Try.ntmps21]
    have FX := Fx.mk (And.intro @e1 <| And.intro @Bool.not_true <| @Bool.not_false)
    repeat (first | refine v_ ?_ | refine u_ ?_ | refine nl_ ?_ | (refine nz_ ?_; first | (show aWp _ _ _ _ _) | skip) | refine sq_ ?_ | refine rg_ ?_ | refine k_ ?_ | refine ct_ ?_ | refine cf_ ?_ | refine bk_ ?_ | refine sc_ ?_ | (refine sk_ ?_; first | (show aWp _ _ _ _ _) | skip) | (refine ex_ ?_; first | (show aWp _ _ _ _ _) | skip) | refine rt_ ?_)
    (have FX := Fx0; exact end_ Try.results21)
  have e1 := decide_eq_false h1
  by_cases h2 : 1099511627776 < r.q
  · rw [show r.chk = 9 from if_neg (by unfold Rec.ok; omega)]
    have e2 := decide_eq_true h2
    refine aFun_body Try.func21 rfl rfl (by simp [Try.ntmps21]) fun hreal h nx hfresh => ?_
    rw [Try.ntmps21]
    have FX := Fx.mk (And.intro @e1 <| And.intro @e2 <| And.intro @Bool.not_true <| @Bool.not_false)
    repeat (first | refine v_ ?_ | refine u_ ?_ | refine nl_ ?_ | (refine nz_ ?_; first | (show aWp _ _ _ _ _) | skip) | refine sq_ ?_ | refine rg_ ?_ | refine k_ ?_ | refine ct_ ?_ | refine cf_ ?_ | refine bk_ ?_ | refine sc_ ?_ | (refine sk_ ?_; first | (show aWp _ _ _ _ _) | skip) | (refine ex_ ?_; first | (show aWp _ _ _ _ _) | skip) | refine rt_ ?_)
    (have FX := Fx0; exact end_ Try.results21)
  have e2 := decide_eq_false h2
  by_cases h3 : r.root < 0
  · rw [show r.chk = 9 from if_neg (by unfold Rec.ok; omega)]
    have e3 := decide_eq_true h3
    refine aFun_body Try.func21 rfl rfl (by simp [Try.ntmps21]) fun hreal h nx hfresh => ?_
    rw [Try.ntmps21]
    have FX := Fx.mk (And.intro @e1 <| And.intro @e2 <| And.intro @e3 <| And.intro @Bool.not_true <| @Bool.not_false)
    repeat (first | refine v_ ?_ | refine u_ ?_ | refine nl_ ?_ | (refine nz_ ?_; first | (show aWp _ _ _ _ _) | skip) | refine sq_ ?_ | refine rg_ ?_ | refine k_ ?_ | refine ct_ ?_ | refine cf_ ?_ | refine bk_ ?_ | refine sc_ ?_ | (refine sk_ ?_; first | (show aWp _ _ _ _ _) | skip) | (refine ex_ ?_; first | (show aWp _ _ _ _ _) | skip) | refine rt_ ?_)
    (have FX := Fx0; exact end_ Try.results21)
  have e3 := decide_eq_false h3
  by_cases h4 : 2048 < r.root
  · rw [show r.chk = 9 from if_neg (by unfold Rec.ok; omega)]
    have e4 := decide_eq_true h4
    refine aFun_body Try.func21 rfl rfl (by simp [Try.ntmps21]) fun hreal h nx hfresh => ?_
    rw [Try.ntmps21]
    have FX := Fx.mk (And.intro @e1 <| And.intro @e2 <| And.intro @e3 <| And.intro @e4 <| And.intro @Bool.not_true <| @Bool.not_false)
    repeat (first | refine v_ ?_ | refine u_ ?_ | refine nl_ ?_ | (refine nz_ ?_; first | (show aWp _ _ _ _ _) | skip) | refine sq_ ?_ | refine rg_ ?_ | refine k_ ?_ | refine ct_ ?_ | refine cf_ ?_ | refine bk_ ?_ | refine sc_ ?_ | (refine sk_ ?_; first | (show aWp _ _ _ _ _) | skip) | (refine ex_ ?_; first | (show aWp _ _ _ _ _) | skip) | refine rt_ ?_)
    (have FX := Fx0; exact end_ Try.results21)
  have e4 := decide_eq_false h4
  by_cases h5 : r.room < 0
  · rw [show r.chk = 9 from if_neg (by unfold Rec.ok; omega)]
    have e5 := decide_eq_true h5
    refine aFun_body Try.func21 rfl rfl (by simp [Try.ntmps21]) fun hreal h nx hfresh => ?_
    rw [Try.ntmps21]
    have FX := Fx.mk (And.intro @e1 <| And.intro @e2 <| And.intro @e3 <| And.intro @e4 <| And.intro @e5 <| And.intro @Bool.not_true <| @Bool.not_false)
    repeat (first | refine v_ ?_ | refine u_ ?_ | refine nl_ ?_ | (refine nz_ ?_; first | (show aWp _ _ _ _ _) | skip) | refine sq_ ?_ | refine rg_ ?_ | refine k_ ?_ | refine ct_ ?_ | refine cf_ ?_ | refine bk_ ?_ | refine sc_ ?_ | (refine sk_ ?_; first | (show aWp _ _ _ _ _) | skip) | (refine ex_ ?_; first | (show aWp _ _ _ _ _) | skip) | refine rt_ ?_)
    (have FX := Fx0; exact end_ Try.results21)
  have e5 := decide_eq_false h5
  by_cases h6 : 65536 < r.room
  · rw [show r.chk = 9 from if_neg (by unfold Rec.ok; omega)]
    have e6 := decide_eq_true h6
    refine aFun_body Try.func21 rfl rfl (by simp [Try.ntmps21]) fun hreal h nx hfresh => ?_
    rw [Try.ntmps21]
    have FX := Fx.mk (And.intro @e1 <| And.intro @e2 <| And.intro @e3 <| And.intro @e4 <| And.intro @e5 <| And.intro @e6 <| And.intro @Bool.not_true <| @Bool.not_false)
    repeat (first | refine v_ ?_ | refine u_ ?_ | refine nl_ ?_ | (refine nz_ ?_; first | (show aWp _ _ _ _ _) | skip) | refine sq_ ?_ | refine rg_ ?_ | refine k_ ?_ | refine ct_ ?_ | refine cf_ ?_ | refine bk_ ?_ | refine sc_ ?_ | (refine sk_ ?_; first | (show aWp _ _ _ _ _) | skip) | (refine ex_ ?_; first | (show aWp _ _ _ _ _) | skip) | refine rt_ ?_)
    (have FX := Fx0; exact end_ Try.results21)
  have e6 := decide_eq_false h6
  by_cases h7 : 256 < ((pagesB r.pages).length : Int)
  · have pl := pagesB_len r.pages
    rw [show r.chk = 9 from if_neg (by unfold Rec.ok; omega)]
    have e7 := decide_eq_true h7
    refine aFun_body Try.func21 rfl rfl (by simp [Try.ntmps21]) fun hreal h nx hfresh => ?_
    rw [Try.ntmps21]
    have FX := Fx.mk (And.intro @e1 <| And.intro @e2 <| And.intro @e3 <| And.intro @e4 <| And.intro @e5 <| And.intro @e6 <| And.intro @e7 <| And.intro @Bool.not_true <| @Bool.not_false)
    repeat (first | refine v_ ?_ | refine u_ ?_ | refine nl_ ?_ | (refine nz_ ?_; first | (show aWp _ _ _ _ _) | skip) | refine sq_ ?_ | refine rg_ ?_ | refine k_ ?_ | refine ct_ ?_ | refine cf_ ?_ | refine bk_ ?_ | refine sc_ ?_ | (refine sk_ ?_; first | (show aWp _ _ _ _ _) | skip) | (refine ex_ ?_; first | (show aWp _ _ _ _ _) | skip) | refine rt_ ?_)
    (have FX := Fx0; exact end_ Try.results21)
  have e7 := decide_eq_false h7
  have pl := pagesB_len r.pages
  rw [pl] at e7 h7
  refine aFun_body Try.func21 rfl rfl (by simp [Try.ntmps21]) fun hreal h nx hfresh => ?_
  rw [Try.ntmps21]
  have p0 : Rec.prevN r.pages 0 = 0 := rfl
  have FX := Fx.mk (And.intro @e1 <| And.intro @e2 <| And.intro @e3 <| And.intro @e4 <| And.intro @e5 <| And.intro @e6 <| And.intro @e7 <| And.intro @pl <| And.intro @Bool.not_true <| @Bool.not_false)
  repeat (first | refine v_ ?_ | refine u_ ?_ | refine nl_ ?_ | (refine nz_ ?_; first | (show aWp _ _ _ _ _) | skip) | refine sq_ ?_ | refine rg_ ?_ | refine k_ ?_ | refine ct_ ?_ | refine cf_ ?_ | refine bk_ ?_ | refine sc_ ?_ | (refine sk_ ?_; first | (show aWp _ _ _ _ _) | skip) | (refine ex_ ?_; first | (show aWp _ _ _ _ _) | skip) | refine rt_ ?_)
  refine W_loopK [0, 1, 41, 42] (nx + 1) (fun k tm h q => ∃ i : Nat, i ≤ r.pages.length ∧ k = r.pages.length - i ∧ tm 43 = .int .i64 i ∧ tm 3 = .int .i64 (Rec.prevN r.pages i) ∧ (0 ≤ Rec.prevN r.pages i) ∧ ∀ j, j < i → Rec.okP r.pages j) r.pages.length (by omega) ⟨0, by omega, rfl, by (have FX := Fx0; exact cl_), by (have FX := Fx.mk (@p0); exact cl_), by rw [p0]; decide, fun j hj => by omega⟩ ?_
  rintro k tm' h' k' ⟨i, hi, rfl, h43, h3', h0, hall⟩ hag hh hk'
  have b1 : h' nx = some ⟨4, [[.int .i64 r.q, .int .i64 r.root, .int .i64 r.room, .sl (pagesB r.pages)]]⟩ := by rw [hh nx (by omega)]; (have FX := Fx0; exact cl_)
  by_cases hlt : i < r.pages.length
  · have hd : decide ((i : Int) < (r.pages.length : Int)) = true := decide_eq_true (by omega)
    have hw : IntKind.i64.wrap (i + 1) = ((i + 1 : Nat) : Int) := by rw [wrapI] <;> omega
    obtain ⟨p, hp⟩ : ∃ p, r.pages[i]? = some p := ⟨_, List.getElem?_eq_getElem hlt⟩
    have hpb := pagesB_get _ i p hp
    have gd : r.pages.getD i (0, []) = p := getD_some hp
    have pS : Rec.prevN r.pages (i + 1) = p.1 := by show (r.pages.getD i (0, [])).1 = p.1; rw [gd]
    have nb : (numB .u8 p.2).length = p.2.length := numB_len _ _
    have okd : Rec.okP r.pages i ↔ Rec.prevN r.pages i < p.1 ∧ (1 ≤ p.1 ∧ p.1 ≤ 2048) ∧ (p.2.length = 0 ∨ p.2.length = 64) := by unfold Rec.okP; rw [gd]
    have bad : ¬ (Rec.prevN r.pages i < p.1 ∧ (1 ≤ p.1 ∧ p.1 ≤ 2048) ∧ (p.2.length = 0 ∨ p.2.length = 64)) → r.chk = 9 := fun q => if_neg fun k => q (okd.1 (k.2.2.2.2 i hlt))
    by_cases h8 : p.1 ≤ Rec.prevN r.pages i
    · rw [bad (by omega)]
      have e8 := decide_eq_true h8
      have FX := Fx.mk (And.intro @hag <| And.intro @h43 <| And.intro @h3' <| And.intro @hd <| And.intro @hpb <| And.intro @b1 <| And.intro @e8 <| And.intro @Bool.not_true <| @Bool.not_false)
      repeat (first | refine v_ ?_ | refine u_ ?_ | refine nl_ ?_ | (refine nz_ ?_; first | (show aWp _ _ _ _ _) | skip) | refine sq_ ?_ | refine rg_ ?_ | refine k_ ?_ | refine ct_ ?_ | refine cf_ ?_ | refine bk_ ?_ | refine sc_ ?_ | (refine sk_ ?_; first | (show aWp _ _ _ _ _) | skip) | (refine ex_ ?_; first | (show aWp _ _ _ _ _) | skip) | refine rt_ ?_)
      (have FX := Fx.mk (And.intro @hag <| And.intro @b1 <| @hh); exact end_ Try.results21)
    have e8 := decide_eq_false h8
    by_cases h9 : 2048 < p.1
    · rw [bad (by omega)]
      have e9 := decide_eq_true h9
      have FX := Fx.mk (And.intro @hag <| And.intro @h43 <| And.intro @h3' <| And.intro @hd <| And.intro @hpb <| And.intro @b1 <| And.intro @e8 <| And.intro @e9 <| And.intro @Bool.not_true <| @Bool.not_false)
      repeat (first | refine v_ ?_ | refine u_ ?_ | refine nl_ ?_ | (refine nz_ ?_; first | (show aWp _ _ _ _ _) | skip) | refine sq_ ?_ | refine rg_ ?_ | refine k_ ?_ | refine ct_ ?_ | refine cf_ ?_ | refine bk_ ?_ | refine sc_ ?_ | (refine sk_ ?_; first | (show aWp _ _ _ _ _) | skip) | (refine ex_ ?_; first | (show aWp _ _ _ _ _) | skip) | refine rt_ ?_)
      (have FX := Fx.mk (And.intro @hag <| And.intro @b1 <| @hh); exact end_ Try.results21)
    have e9 := decide_eq_false h9
    by_cases h10 : p.2.length = 0
    · have e10 : decide (0 < (p.2.length : Int)) = false := decide_eq_false (by omega)
      have FX := Fx.mk (And.intro @hag <| And.intro @h43 <| And.intro @h3' <| And.intro @hd <| And.intro @hw <| And.intro @hpb <| And.intro @b1 <| And.intro @e8 <| And.intro @e9 <| And.intro @e10 <| And.intro @Bool.not_true <| @Bool.not_false)
      repeat (first | refine v_ ?_ | refine u_ ?_ | refine nl_ ?_ | (refine nz_ ?_; first | (show aWp _ _ _ _ _) | skip) | refine sq_ ?_ | refine rg_ ?_ | refine k_ ?_ | refine ct_ ?_ | refine cf_ ?_ | refine bk_ ?_ | refine sc_ ?_ | (refine sk_ ?_; first | (show aWp _ _ _ _ _) | skip) | (refine ex_ ?_; first | (show aWp _ _ _ _ _) | skip) | refine rt_ ?_)
      refine ⟨r.pages.length - (i + 1), by omega, ⟨i + 1, by omega, rfl, by (have FX := Fx0; exact cl_), by (have FX := Fx.mk (@pS); exact cl_), by omega, fun j hj => ?_⟩, ?_, ?_, by first | omega | (simp only; omega), rfl⟩
      · by_cases e : j = i
        · subst e; exact okd.2 ⟨by omega, by omega, by omega⟩
        · exact hall j (by omega)
      · repeat (refine KAgree.upd rfl ?_)
        first | exact KAgree.refl _ _ | exact hag
      · exact (by have FX := Fx.mk (@hh); exact ha_)
    have e10 : decide (0 < (p.2.length : Int)) = true := decide_eq_true (by omega)
    by_cases h11 : p.2.length = 64
    · have e11 : decide ((p.2.length : Int) = 64) = true := decide_eq_true (by omega)
      have FX := Fx.mk (And.intro @hag <| And.intro @h43 <| And.intro @h3' <| And.intro @hd <| And.intro @hw <| And.intro @hpb <| And.intro @b1 <| And.intro @e8 <| And.intro @e9 <| And.intro @e10 <| And.intro @e11 <| And.intro @Bool.not_true <| @Bool.not_false)
      repeat (first | refine v_ ?_ | refine u_ ?_ | refine nl_ ?_ | (refine nz_ ?_; first | (show aWp _ _ _ _ _) | skip) | refine sq_ ?_ | refine rg_ ?_ | refine k_ ?_ | refine ct_ ?_ | refine cf_ ?_ | refine bk_ ?_ | refine sc_ ?_ | (refine sk_ ?_; first | (show aWp _ _ _ _ _) | skip) | (refine ex_ ?_; first | (show aWp _ _ _ _ _) | skip) | refine rt_ ?_)
      refine ⟨r.pages.length - (i + 1), by omega, ⟨i + 1, by omega, rfl, by (have FX := Fx0; exact cl_), by (have FX := Fx.mk (@pS); exact cl_), by omega, fun j hj => ?_⟩, ?_, ?_, by first | omega | (simp only; omega), rfl⟩
      · by_cases e : j = i
        · subst e; exact okd.2 ⟨by omega, by omega, by omega⟩
        · exact hall j (by omega)
      · repeat (refine KAgree.upd rfl ?_)
        first | exact KAgree.refl _ _ | exact hag
      · exact (by have FX := Fx.mk (@hh); exact ha_)
    · have e11 : decide ((p.2.length : Int) = 64) = false := decide_eq_false (by omega)
      rw [bad (by omega)]
      have FX := Fx.mk (And.intro @hag <| And.intro @h43 <| And.intro @h3' <| And.intro @hd <| And.intro @hpb <| And.intro @b1 <| And.intro @e8 <| And.intro @e9 <| And.intro @e10 <| And.intro @e11 <| And.intro @Bool.not_true <| @Bool.not_false)
      repeat (first | refine v_ ?_ | refine u_ ?_ | refine nl_ ?_ | (refine nz_ ?_; first | (show aWp _ _ _ _ _) | skip) | refine sq_ ?_ | refine rg_ ?_ | refine k_ ?_ | refine ct_ ?_ | refine cf_ ?_ | refine bk_ ?_ | refine sc_ ?_ | (refine sk_ ?_; first | (show aWp _ _ _ _ _) | skip) | (refine ex_ ?_; first | (show aWp _ _ _ _ _) | skip) | refine rt_ ?_)
      (have FX := Fx.mk (And.intro @hag <| And.intro @b1 <| @hh); exact end_ Try.results21)
  obtain rfl : i = r.pages.length := by omega
  rw [show r.chk = 0 from if_pos (by unfold Rec.ok; exact ⟨by omega, by omega, by omega, by omega, hall⟩)]
  have hd : decide ((r.pages.length : Int) < (r.pages.length : Int)) = false := decide_eq_false (by omega)
  have FX := Fx.mk (And.intro @hag <| And.intro @h43 <| @hd)
  repeat (first | refine v_ ?_ | refine u_ ?_ | refine nl_ ?_ | (refine nz_ ?_; first | (show aWp _ _ _ _ _) | skip) | refine sq_ ?_ | refine rg_ ?_ | refine k_ ?_ | refine ct_ ?_ | refine cf_ ?_ | refine bk_ ?_ | refine sc_ ?_ | (refine sk_ ?_; first | (show aWp _ _ _ _ _) | skip) | (refine ex_ ?_; first | (show aWp _ _ _ _ _) | skip) | refine rt_ ?_)
  (have FX := Fx.mk (And.intro @hag <| And.intro @b1 <| @hh); exact end_ Try.results21)
end Go.Proofs.Yteklnhogokjkkaa.AE
