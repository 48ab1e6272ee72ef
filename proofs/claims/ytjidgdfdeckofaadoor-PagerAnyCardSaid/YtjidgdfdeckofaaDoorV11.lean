/- Texts J1, J2. -/
import Derived.Test.YtjidgdfdeckofaaDoorV10
import Derived.Test.YtjidgdfdeckofaaDoorV7
/- Layer 15: Check, padded. -/
namespace Go.Proofs.YtjidgdfdeckofaaDoor.AE
open Go Go.RowKit Go.Proofs Go.Proofs.YtjidgdfdeckofaaDoor
set_option linter.unusedVariables false
set_option linter.unusedSimpArgs false
set_option maxRecDepth 100000
set_option maxHeartbeats 8000000
theorem journal_padded (n : Nat) (hn : n ≤ 140737488355328) : aFun Tryd.prog 63 [.int .i64 (n : Int)] (.int .i64 ((padN n : Nat) : Int)) := by
  have h1 : IntKind.i64.wrap ((n : Int) + 64) = (n : Int) + 64 := by rw [wrapI] <;> omega
  have h2 : IntKind.i64.wrap ((n : Int) + 64 - 1) = ((n + 63 : Nat) : Int) := by rw [wrapI] <;> omega
  have h3 : ((n + 63 : Nat) : Int).tdiv 64 = (((n + 63) / 64 : Nat) : Int) := by
    rw [Int.tdiv_eq_ediv_of_nonneg (by omega)]
    omega
  have h4 : IntKind.i64.wrap (((n + 63) / 64 : Nat) : Int) = (((n + 63) / 64 : Nat) : Int) := by rw [wrapI] <;> omega
  have h5 : IntKind.i64.wrap ((((n + 63) / 64 : Nat) : Int) * 64) = ((padN n : Nat) : Int) := by unfold padN; rw [wrapI] <;> omega
  refine aFun_body Tryd.func63 rfl rfl (by simp [Tryd.ntmps63]) fun hreal h nx hfresh => ?_
  rw [Tryd.ntmps63]
  have FX := Fx.mk (And.intro @h1 <| And.intro @h2 <| And.intro @h3 <| And.intro @h4 <| @h5)
  repeat (first | refine v_ ?_ | refine u_ ?_ | refine nl_ ?_ | (refine nz_ ?_; first | (show aWp _ _ _ _ _) | skip) | refine sq_ ?_ | refine rg_ ?_ | refine k_ ?_ | refine ct_ ?_ | refine cf_ ?_ | refine bk_ ?_ | refine sc_ ?_ | (refine sk_ ?_; first | (show aWp _ _ _ _ _) | skip) | (refine ex_ ?_; first | (show aWp _ _ _ _ _) | skip) | refine rt_ ?_)
  (have FX := Fx0; exact end_ Tryd.results63)
theorem journal_Check (r : Rec) : aFun Tryd.prog 59 [r.av] (.int .i64 r.chk) := by
  rw [Rec.av_eq]
  by_cases h1 : r.q < 1
  · rw [show r.chk = 9 from if_neg (by unfold Rec.ok; omega)]
    have e1 := decide_eq_true h1
    refine aFun_body Tryd.func59 rfl rfl (by simp [Tryd.ntmps59]) fun hreal h nx hfresh => ?_
    rw [Tryd.ntmps59]
    have FX := Fx.mk (And.intro @e1 <| And.intro @Bool.not_true <| @Bool.not_false)
    repeat (first | refine v_ ?_ | refine u_ ?_ | refine nl_ ?_ | (refine nz_ ?_; first | (show aWp _ _ _ _ _) | skip) | refine sq_ ?_ | refine rg_ ?_ | refine k_ ?_ | refine ct_ ?_ | refine cf_ ?_ | refine bk_ ?_ | refine sc_ ?_ | (refine sk_ ?_; first | (show aWp _ _ _ _ _) | skip) | (refine ex_ ?_; first | (show aWp _ _ _ _ _) | skip) | refine rt_ ?_)
    (have FX := Fx0; exact end_ Tryd.results59)
  have e1 := decide_eq_false h1
  by_cases h2 : 1099511627776 < r.q
  · rw [show r.chk = 9 from if_neg (by unfold Rec.ok; omega)]
    have e2 := decide_eq_true h2
    refine aFun_body Tryd.func59 rfl rfl (by simp [Tryd.ntmps59]) fun hreal h nx hfresh => ?_
    rw [Tryd.ntmps59]
    have FX := Fx.mk (And.intro @e1 <| And.intro @e2 <| And.intro @Bool.not_true <| @Bool.not_false)
    repeat (first | refine v_ ?_ | refine u_ ?_ | refine nl_ ?_ | (refine nz_ ?_; first | (show aWp _ _ _ _ _) | skip) | refine sq_ ?_ | refine rg_ ?_ | refine k_ ?_ | refine ct_ ?_ | refine cf_ ?_ | refine bk_ ?_ | refine sc_ ?_ | (refine sk_ ?_; first | (show aWp _ _ _ _ _) | skip) | (refine ex_ ?_; first | (show aWp _ _ _ _ _) | skip) | refine rt_ ?_)
    (have FX := Fx0; exact end_ Tryd.results59)
  have e2 := decide_eq_false h2
  by_cases h3 : r.root < 0
  · rw [show r.chk = 9 from if_neg (by unfold Rec.ok; omega)]
    have e3 := decide_eq_true h3
    refine aFun_body Tryd.func59 rfl rfl (by simp [Tryd.ntmps59]) fun hreal h nx hfresh => ?_
    rw [Tryd.ntmps59]
    have FX := Fx.mk (And.intro @e1 <| And.intro @e2 <| And.intro @e3 <| And.intro @Bool.not_true <| @Bool.not_false)
    repeat (first | refine v_ ?_ | refine u_ ?_ | refine nl_ ?_ | (refine nz_ ?_; first | (show aWp _ _ _ _ _) | skip) | refine sq_ ?_ | refine rg_ ?_ | refine k_ ?_ | refine ct_ ?_ | refine cf_ ?_ | refine bk_ ?_ | refine sc_ ?_ | (refine sk_ ?_; first | (show aWp _ _ _ _ _) | skip) | (refine ex_ ?_; first | (show aWp _ _ _ _ _) | skip) | refine rt_ ?_)
    (have FX := Fx0; exact end_ Tryd.results59)
  have e3 := decide_eq_false h3
  by_cases h4 : 2048 < r.root
  · rw [show r.chk = 9 from if_neg (by unfold Rec.ok; omega)]
    have e4 := decide_eq_true h4
    refine aFun_body Tryd.func59 rfl rfl (by simp [Tryd.ntmps59]) fun hreal h nx hfresh => ?_
    rw [Tryd.ntmps59]
    have FX := Fx.mk (And.intro @e1 <| And.intro @e2 <| And.intro @e3 <| And.intro @e4 <| And.intro @Bool.not_true <| @Bool.not_false)
    repeat (first | refine v_ ?_ | refine u_ ?_ | refine nl_ ?_ | (refine nz_ ?_; first | (show aWp _ _ _ _ _) | skip) | refine sq_ ?_ | refine rg_ ?_ | refine k_ ?_ | refine ct_ ?_ | refine cf_ ?_ | refine bk_ ?_ | refine sc_ ?_ | (refine sk_ ?_; first | (show aWp _ _ _ _ _) | skip) | (refine ex_ ?_; first | (show aWp _ _ _ _ _) | skip) | refine rt_ ?_)
    (have FX := Fx0; exact end_ Tryd.results59)
  have e4 := decide_eq_false h4
  by_cases h5 : r.room < 0
  · rw [show r.chk = 9 from if_neg (by unfold Rec.ok; omega)]
    have e5 := decide_eq_true h5
    refine aFun_body Tryd.func59 rfl rfl (by simp [Tryd.ntmps59]) fun hreal h nx hfresh => ?_
    rw [Tryd.ntmps59]
    have FX := Fx.mk (And.intro @e1 <| And.intro @e2 <| And.intro @e3 <| And.intro @e4 <| And.intro @e5 <| And.intro @Bool.not_true <| @Bool.not_false)
    repeat (first | refine v_ ?_ | refine u_ ?_ | refine nl_ ?_ | (refine nz_ ?_; first | (show aWp _ _ _ _ _) | skip) | refine sq_ ?_ | refine rg_ ?_ | refine k_ ?_ | refine ct_ ?_ | refine cf_ ?_ | refine bk_ ?_ | refine sc_ ?_ | (refine sk_ ?_; first | (show aWp _ _ _ _ _) | skip) | (refine ex_ ?_; first | (show aWp _ _ _ _ _) | skip) | refine rt_ ?_)
    (have FX := Fx0; exact end_ Tryd.results59)
  have e5 := decide_eq_false h5
  by_cases h6 : 65536 < r.room
  · rw [show r.chk = 9 from if_neg (by unfold Rec.ok; omega)]
    have e6 := decide_eq_true h6
    refine aFun_body Tryd.func59 rfl rfl (by simp [Tryd.ntmps59]) fun hreal h nx hfresh => ?_
    rw [Tryd.ntmps59]
    have FX := Fx.mk (And.intro @e1 <| And.intro @e2 <| And.intro @e3 <| And.intro @e4 <| And.intro @e5 <| And.intro @e6 <| And.intro @Bool.not_true <| @Bool.not_false)
    repeat (first | refine v_ ?_ | refine u_ ?_ | refine nl_ ?_ | (refine nz_ ?_; first | (show aWp _ _ _ _ _) | skip) | refine sq_ ?_ | refine rg_ ?_ | refine k_ ?_ | refine ct_ ?_ | refine cf_ ?_ | refine bk_ ?_ | refine sc_ ?_ | (refine sk_ ?_; first | (show aWp _ _ _ _ _) | skip) | (refine ex_ ?_; first | (show aWp _ _ _ _ _) | skip) | refine rt_ ?_)
    (have FX := Fx0; exact end_ Tryd.results59)
  have e6 := decide_eq_false h6
  by_cases h7 : 256 < ((pagesB r.pages).length : Int)
  · have pl := pagesB_len r.pages
    rw [show r.chk = 9 from if_neg (by unfold Rec.ok; omega)]
    have e7 := decide_eq_true h7
    refine aFun_body Tryd.func59 rfl rfl (by simp [Tryd.ntmps59]) fun hreal h nx hfresh => ?_
    rw [Tryd.ntmps59]
    have FX := Fx.mk (And.intro @e1 <| And.intro @e2 <| And.intro @e3 <| And.intro @e4 <| And.intro @e5 <| And.intro @e6 <| And.intro @e7 <| And.intro @Bool.not_true <| @Bool.not_false)
    repeat (first | refine v_ ?_ | refine u_ ?_ | refine nl_ ?_ | (refine nz_ ?_; first | (show aWp _ _ _ _ _) | skip) | refine sq_ ?_ | refine rg_ ?_ | refine k_ ?_ | refine ct_ ?_ | refine cf_ ?_ | refine bk_ ?_ | refine sc_ ?_ | (refine sk_ ?_; first | (show aWp _ _ _ _ _) | skip) | (refine ex_ ?_; first | (show aWp _ _ _ _ _) | skip) | refine rt_ ?_)
    (have FX := Fx0; exact end_ Tryd.results59)
  have e7 := decide_eq_false h7
  have pl := pagesB_len r.pages
  rw [pl] at e7 h7
  refine aFun_body Tryd.func59 rfl rfl (by simp [Tryd.ntmps59]) fun hreal h nx hfresh => ?_
  rw [Tryd.ntmps59]
  have p0 : Rec.prevN r.pages 0 = 0 := rfl
  have FX := Fx.mk (And.intro @e1 <| And.intro @e2 <| And.intro @e3 <| And.intro @e4 <| And.intro @e5 <| And.intro @e6 <| And.intro @e7 <| And.intro @pl <| And.intro @Bool.not_true <| @Bool.not_false)
  repeat (first | refine v_ ?_ | refine u_ ?_ | refine nl_ ?_ | (refine nz_ ?_; first | (show aWp _ _ _ _ _) | skip) | refine sq_ ?_ | refine rg_ ?_ | refine k_ ?_ | refine ct_ ?_ | refine cf_ ?_ | refine bk_ ?_ | refine sc_ ?_ | (refine sk_ ?_; first | (show aWp _ _ _ _ _) | skip) | (refine ex_ ?_; first | (show aWp _ _ _ _ _) | skip) | refine rt_ ?_)
  refine W_loopK [0, 1, 41, 42] (nx + 1) (fun k tm h q => ∃ i : Nat, i ≤ r.pages.length ∧ k = r.pages.length - i ∧ tm 43 = .int .i64 i ∧ tm 3 = .int .i64 (Rec.prevN r.pages i) ∧ (0 ≤ Rec.prevN r.pages i) ∧ ∀ j, j < i → Rec.okP r.pages j) r.pages.length (by omega) ⟨0, by omega, rfl, by (have FX := Fx0; exact cl_), by (have FX := Fx.mk (@p0); exact cl_), by rw [p0]; decide, fun j hj => by omega⟩ ?_
  rintro k tm' h' k' ⟨i, hi, rfl, h43, h3', h0, hall⟩ hag hh hk'
  have b1 : h' nx = some ⟨4, [[.int .i64 r.q, .int .i64 r.root, .int .i64 r.room, .sl (pagesB r.pages)]]⟩ := by rw [hh nx (by omega)]; (have FX := Fx0; exact cl_)
  by_cases hlt : i < r.pages.length
  · have hd : decide ((i : Int) < (r.pages.length : Int)) = true := decide_eq_true (by omega)
    have hw : IntKind.i64.wrap (i + 1) = ((i + 1 : Nat) : Int) := by rw [wrapI] <;> omega
    obtain ⟨p, hp⟩ : ∃ p, r.pages[i]? = some p := ⟨_, List.getElem?_eq_getElem hlt⟩
    have hpb := pagesB_get _ i p hp
    have gd : r.pages.getD i (0, []) = p := getD_some hp
    have pS : Rec.prevN r.pages (i + 1) = p.1 := by show (r.pages.getD i (0, [])).1 = p.1; rw [gd]
    have nb : (numB .u8 p.2).length = p.2.length := numB_len _ _
    have okd : Rec.okP r.pages i ↔ Rec.prevN r.pages i < p.1 ∧ (1 ≤ p.1 ∧ p.1 ≤ 2048) ∧ (p.2.length = 0 ∨ p.2.length = 64) := by unfold Rec.okP; rw [gd]
    have bad : ¬ (Rec.prevN r.pages i < p.1 ∧ (1 ≤ p.1 ∧ p.1 ≤ 2048) ∧ (p.2.length = 0 ∨ p.2.length = 64)) → r.chk = 9 := fun q => if_neg fun k => q (okd.1 (k.2.2.2.2 i hlt))
    by_cases h8 : p.1 ≤ Rec.prevN r.pages i
    · rw [bad (by omega)]
      have e8 := decide_eq_true h8
      have FX := Fx.mk (And.intro @hag <| And.intro @h43 <| And.intro @h3' <| And.intro @hd <| And.intro @hpb <| And.intro @b1 <| And.intro @e8 <| And.intro @Bool.not_true <| @Bool.not_false)
      repeat (first | refine v_ ?_ | refine u_ ?_ | refine nl_ ?_ | (refine nz_ ?_; first | (show aWp _ _ _ _ _) | skip) | refine sq_ ?_ | refine rg_ ?_ | refine k_ ?_ | refine ct_ ?_ | refine cf_ ?_ | refine bk_ ?_ | refine sc_ ?_ | (refine sk_ ?_; first | (show aWp _ _ _ _ _) | skip) | (refine ex_ ?_; first | (show aWp _ _ _ _ _) | skip) | refine rt_ ?_)
      (have FX := Fx.mk (And.intro @hag <| And.intro @b1 <| @hh); exact end_ Tryd.results59)
    have e8 := decide_eq_false h8
    by_cases h9 : 2048 < p.1
    · rw [bad (by omega)]
      have e9 := decide_eq_true h9
      have FX := Fx.mk (And.intro @hag <| And.intro @h43 <| And.intro @h3' <| And.intro @hd <| And.intro @hpb <| And.intro @b1 <| And.intro @e8 <| And.intro @e9 <| And.intro @Bool.not_true <| @Bool.not_false)
      repeat (first | refine v_ ?_ | refine u_ ?_ | refine nl_ ?_ | (refine nz_ ?_; first | (show aWp _ _ _ _ _) | skip) | refine sq_ ?_ | refine rg_ ?_ | refine k_ ?_ | refine ct_ ?_ | refine cf_ ?_ | refine bk_ ?_ | refine sc_ ?_ | (refine sk_ ?_; first | (show aWp _ _ _ _ _) | skip) | (refine ex_ ?_; first | (show aWp _ _ _ _ _) | skip) | refine rt_ ?_)
      (have FX := Fx.mk (And.intro @hag <| And.intro @b1 <| @hh); exact end_ Tryd.results59)
    have e9 := decide_eq_false h9
    by_cases h10 : p.2.length = 0
    · have e10 : decide (0 < (p.2.length : Int)) = false := decide_eq_false (by omega)
      have FX := Fx.mk (And.intro @hag <| And.intro @h43 <| And.intro @h3' <| And.intro @hd <| And.intro @hw <| And.intro @hpb <| And.intro @b1 <| And.intro @e8 <| And.intro @e9 <| And.intro @e10 <| And.intro @Bool.not_true <| @Bool.not_false)
      repeat (first | refine v_ ?_ | refine u_ ?_ | refine nl_ ?_ | (refine nz_ ?_; first | (show aWp _ _ _ _ _) | skip) | refine sq_ ?_ | refine rg_ ?_ | refine k_ ?_ | refine ct_ ?_ | refine cf_ ?_ | refine bk_ ?_ | refine sc_ ?_ | (refine sk_ ?_; first | (show aWp _ _ _ _ _) | skip) | (refine ex_ ?_; first | (show aWp _ _ _ _ _) | skip) | refine rt_ ?_)
      refine ⟨r.pages.length - (i + 1), by omega, ⟨i + 1, by omega, rfl, by (have FX := Fx0; exact cl_), by (have FX := Fx.mk (@pS); exact cl_), by omega, fun j hj => ?_⟩, ?_, ?_, by first | omega | (simp only; omega), rfl⟩
      · by_cases e : j = i
        · subst e; exact okd.2 ⟨by omega, by omega, by omega⟩
        · exact hall j (by omega)
      · repeat (refine KAgree.upd rfl ?_)
        first | exact KAgree.refl _ _ | exact hag
      · exact (by have FX := Fx.mk (@hh); exact ha_)
    have e10 : decide (0 < (p.2.length : Int)) = true := decide_eq_true (by omega)
    by_cases h11 : p.2.length = 64
    · have e11 : decide ((p.2.length : Int) = 64) = true := decide_eq_true (by omega)
      have FX := Fx.mk (And.intro @hag <| And.intro @h43 <| And.intro @h3' <| And.intro @hd <| And.intro @hw <| And.intro @hpb <| And.intro @b1 <| And.intro @e8 <| And.intro @e9 <| And.intro @e10 <| And.intro @e11 <| And.intro @Bool.not_true <| @Bool.not_false)
      repeat (first | refine v_ ?_ | refine u_ ?_ | refine nl_ ?_ | (refine nz_ ?_; first | (show aWp _ _ _ _ _) | skip) | refine sq_ ?_ | refine rg_ ?_ | refine k_ ?_ | refine ct_ ?_ | refine cf_ ?_ | refine bk_ ?_ | refine sc_ ?_ | (refine sk_ ?_; first | (show aWp _ _ _ _ _) | skip) | (refine ex_ ?_; first | (show aWp _ _ _ _ _) | skip) | refine rt_ ?_)
      refine ⟨r.pages.length - (i + 1), by omega, ⟨i + 1, by omega, rfl, by (have FX := Fx0; exact cl_), by (have FX := Fx.mk (@pS); exact cl_), by omega, fun j hj => ?_⟩, ?_, ?_, by first | omega | (simp only; omega), rfl⟩
      · by_cases e : j = i
        · subst e; exact okd.2 ⟨by omega, by omega, by omega⟩
        · exact hall j (by omega)
      · repeat (refine KAgree.upd rfl ?_)
        first | exact KAgree.refl _ _ | exact hag
      · exact (by have FX := Fx.mk (@hh); exact ha_)
    · have e11 : decide ((p.2.length : Int) = 64) = false := decide_eq_false (by omega)
      rw [bad (by omega)]
      have FX := Fx.mk (And.intro @hag <| And.intro @h43 <| And.intro @h3' <| And.intro @hd <| And.intro @hpb <| And.intro @b1 <| And.intro @e8 <| And.intro @e9 <| And.intro @e10 <| And.intro @e11 <| And.intro @Bool.not_true <| @Bool.not_false)
      repeat (first | refine v_ ?_ | refine u_ ?_ | refine nl_ ?_ | (refine nz_ ?_; first | (show aWp _ _ _ _ _) | skip) | refine sq_ ?_ | refine rg_ ?_ | refine k_ ?_ | refine ct_ ?_ | refine cf_ ?_ | refine bk_ ?_ | refine sc_ ?_ | (refine sk_ ?_; first | (show aWp _ _ _ _ _) | skip) | (refine ex_ ?_; first | (show aWp _ _ _ _ _) | skip) | refine rt_ ?_)
      (have FX := Fx.mk (And.intro @hag <| And.intro @b1 <| @hh); exact end_ Tryd.results59)
  obtain rfl : i = r.pages.length := by omega
  rw [show r.chk = 0 from if_pos (by unfold Rec.ok; exact ⟨by omega, by omega, by omega, by omega, hall⟩)]
  have hd : decide ((r.pages.length : Int) < (r.pages.length : Int)) = false := decide_eq_false (by omega)
  have FX := Fx.mk (And.intro @hag <| And.intro @h43 <| @hd)
  repeat (first | refine v_ ?_ | refine u_ ?_ | refine nl_ ?_ | (refine nz_ ?_; first | (show aWp _ _ _ _ _) | skip) | refine sq_ ?_ | refine rg_ ?_ | refine k_ ?_ | refine ct_ ?_ | refine cf_ ?_ | refine bk_ ?_ | refine sc_ ?_ | (refine sk_ ?_; first | (show aWp _ _ _ _ _) | skip) | (refine ex_ ?_; first | (show aWp _ _ _ _ _) | skip) | refine rt_ ?_)
  (have FX := Fx.mk (And.intro @hag <| And.intro @b1 <| @hh); exact end_ Tryd.results59)
end Go.Proofs.YtjidgdfdeckofaaDoor.AE

/- Layer 15: Encode. -/
namespace Go.Proofs.YtjidgdfdeckofaaDoor.AE
open Go Go.RowKit Go.Proofs Go.Proofs.YtjidgdfdeckofaaDoor
set_option linter.unusedVariables false
set_option linter.unusedSimpArgs false
set_option maxRecDepth 100000
set_option maxHeartbeats 8000000
theorem journal_Encode_bad (r : Rec) (hno : ¬ r.ok) : aFun Tryd.prog 34 [r.av] (.tup [.sl [], .int .i64 9]) := by
  have ck := journal_Check r
  rw [show r.chk = 9 from if_neg hno] at ck
  have d9 : decide ((9 : Int) = 0) = false := rfl
  rw [Rec.av_eq] at ck ⊢
  refine aFun_body Tryd.func34 rfl rfl (by simp [Tryd.ntmps34]) fun hreal h nx hfresh => ?_
  rw [Tryd.ntmps34]
  have FX := Fx.mk (And.intro @d9 <| @Bool.not_false)
  repeat (first | refine v_ ?_ | refine u_ ?_ | refine f_ (ck) fun kf hkf => ?_ | refine nl_ ?_ | (refine nz_ ?_; first | (show aWp _ _ _ _ _) | skip) | refine sq_ ?_ | refine rg_ ?_ | refine k_ ?_ | refine ct_ ?_ | refine cf_ ?_ | refine bk_ ?_ | refine sc_ ?_ | (refine sk_ ?_; first | (show aWp _ _ _ _ _) | skip) | (refine ex_ ?_; first | (show aWp _ _ _ _ _) | skip) | refine rt_ ?_)
  (have FX := Fx0; exact end_ Tryd.results34)
def Rec.upto (r : Rec) (i : Nat) : List Int := r.hd ++ pgsS (r.pages.take i)
theorem upto_0 (r : Rec) : r.upto 0 = r.hd := by simp [Rec.upto, pgsS]
theorem upto_succ (r : Rec) (i : Nat) (p : Pg) (h : r.pages[i]? = some p) : r.upto (i + 1) = r.upto i ++ Pl.putI 2 p.1 ++ [((min p.2.length 1 : Nat) : Int)] ++ p.2 := by
  unfold Rec.upto
  rw [pgsS_snoc _ i p h]
  simp [pageS]
theorem upto_all (r : Rec) : r.upto r.pages.length = r.raw := by unfold Rec.upto Rec.raw; rw [List.take_length]
theorem upto_len (r : Rec) (h : r.ok) (i : Nat) (hi : i ≤ r.pages.length) : (r.upto i).length ≤ 22 + 67 * i := by
  have := body_le h.2.2.2.2 i hi
  unfold Rec.upto
  rw [List.length_append, hd_len]
  omega
theorem journal_Encode (r : Rec) (hok : r.ok) : aOwnM Tryd.prog 34 [r.av] (fun v => .tup [v, .int .i64 0]) 1 (numB .u8 r.enc) := by
  have ck := journal_Check r
  rw [show r.chk = 0 from if_pos hok] at ck
  have d0 : decide ((0 : Int) = 0) = true := rfl
  rw [Rec.av_eq] at ck ⊢
  have pl := pagesB_len r.pages
  have hf := fitsJ hok
  have pk := (octets_Pack widJ r.vals hf (by decide) (by decide)).fn_tup
  have e1 : widJ = [8, 4, 4, 2] := rfl
  have e2 : r.vals = [r.q, r.root, r.room, (r.pages.length : Int)] := rfl
  obtain ⟨o1, o2, o3, o4, o5⟩ := id hok
  have w1 : IntKind.u64.wrap r.q = r.q := by rw [wrapU] <;> omega
  have w2 : IntKind.u64.wrap r.root = r.root := by rw [wrapU] <;> omega
  have w3 : IntKind.u64.wrap r.room = r.room := by rw [wrapU] <;> omega
  have w4 : IntKind.u64.wrap (r.pages.length : Int) = (r.pages.length : Int) := by rw [wrapU] <;> omega
  have hpf : (Pl.flat widJ r.vals).length = 18 := by have := hd_len r; unfold Rec.hd at this; rw [List.length_append] at this; simp [magJ] at this; omega
  have hde : Pl.flat widJ r.vals = Pl.flat [8, 4, 4, 2] [r.q, r.root, r.room, (r.pages.length : Int)] := rfl
  have hdd : r.hd = [102, 115, 106, 49] ++ Pl.flat widJ r.vals := rfl
  obtain ⟨N, hN⟩ : ∃ N, Pl.flat widJ r.vals = N := ⟨_, rfl⟩
  rw [hN] at pk hpf hdd
  rw [e1, e2] at pk
  refine aOwnM_body Tryd.func34 rfl rfl (by simp [Tryd.ntmps34]) fun hreal h nx hfresh => ?_
  rw [Tryd.ntmps34]
  have FX := Fx.mk (And.intro @d0 <| And.intro @pl <| And.intro @w1 <| And.intro @w2 <| And.intro @w3 <| And.intro @w4 <| @Bool.not_true)
  repeat (first | refine lit_ ?_ Tryd.underlying40 Tryd.underlying5 | refine v_ ?_ | refine u_ ?_ | refine f_ (ck) fun kf hkf => ?_ | refine f_ (pk) fun kf hkf => ?_ | refine nl_ ?_ | (refine nz_ ?_; first | (show aWp _ _ _ _ _) | skip) | refine sq_ ?_ | refine rg_ ?_ | refine k_ ?_ | refine ct_ ?_ | refine cf_ ?_ | refine bk_ ?_ | refine sc_ ?_ | (refine sk_ ?_; first | (show aWp _ _ _ _ _) | skip) | (refine ex_ ?_; first | (show aWp _ _ _ _ _) | skip) | refine rt_ ?_)
  have FX := Fx0; refine fz_ 18 ?_
  have FX := Fx0; refine fz_ 32 ?_
  have FX := Fx.mk (And.intro @d0 <| And.intro @pl <| @hpf)
  repeat (first | refine lit_ ?_ Tryd.underlying40 Tryd.underlying5 | refine v_ ?_ | refine u_ ?_ | refine f_ (pk) fun kf hkf => ?_ | refine nl_ ?_ | (refine nz_ ?_; first | (show aWp _ _ _ _ _) | skip) | refine sq_ ?_ | refine rg_ ?_ | refine k_ ?_ | refine ct_ ?_ | refine cf_ ?_ | refine bk_ ?_ | refine sc_ ?_ | (refine sk_ ?_; first | (show aWp _ _ _ _ _) | skip) | (refine ex_ ?_; first | (show aWp _ _ _ _ _) | skip) | refine rt_ ?_)
  have hu0 : r.upto 0 = 102 :: 115 :: 106 :: 49 :: N := by rw [upto_0, hdd]; rfl
  have hul0 : (102 :: 115 :: 106 :: 49 :: N).length = 22 := by simp [hpf]
  refine W_loopK [1, 41, 42] kf (fun k tm h q => ∃ i m : Nat, i ≤ r.pages.length ∧ k = r.pages.length - i ∧ tm 43 = .int .i64 i ∧ kf ≤ m ∧ m < q ∧ tm 7 = .hs m 0 (r.upto i).length ∧ h m = some ⟨1, numB .u8 (r.upto i)⟩) r.pages.length (by omega) ⟨0, kf + 1, by omega, rfl, by (have FX := Fx0; exact cl_), by omega, by omega, by (have FX := Fx.mk (And.intro @hu0 <| @hpf); exact cl_), by (have FX := Fx.mk (@hu0); exact cl_)⟩ ?_
  rintro k tm' h' k' ⟨i, m, hi, rfl, h43, m1, m2, h7, b3⟩ hag hh hk'
  have b1 : h' nx = some ⟨4, [[.int .i64 r.q, .int .i64 r.root, .int .i64 r.room, .sl (pagesB r.pages)]]⟩ := by rw [hh nx (by omega)]; (have FX := Fx0; exact cl_)
  have hul := upto_len r hok i hi
  by_cases hlt : i < r.pages.length
  · have hd : decide ((i : Int) < (r.pages.length : Int)) = true := decide_eq_true (by omega)
    have hw : IntKind.i64.wrap (i + 1) = ((i + 1 : Nat) : Int) := by rw [wrapI] <;> omega
    obtain ⟨p, hp⟩ : ∃ p, r.pages[i]? = some p := ⟨_, List.getElem?_eq_getElem hlt⟩
    have hpb := pagesB_get _ i p hp
    have okd := o5 i hlt
    unfold Rec.okP at okd
    rw [getD_some hp] at okd
    obtain ⟨_, q2, q3⟩ := okd
    have hput := octets_Put p.1 2
    rw [Pl.putS_fits ⟨by omega, by omega⟩ (by show p.1 < 65536; omega)] at hput
    have hwp : IntKind.u64.wrap p.1 = p.1 := by rw [wrapU] <;> omega
    have hus := upto_succ r i p hp
    have hl2 := Pl.putI_length 2 p.1
    have h22 : Int.toNat 2 = 2 := rfl
    have hus2 : (r.upto (i + 1)).length = (r.upto i).length + 2 + 1 + p.2.length := by rw [hus]; simp [hl2]; omega
    obtain ⟨n, d⟩ := p
    simp only at q2 q3 hput hwp hus hl2 hpb hus2
    have htk2 : (r.upto i ++ Pl.putI 2 n).take ((r.upto i).length + 2) = r.upto i ++ Pl.putI 2 n := take_len _ _ (by rw [List.length_append, hl2])
    have htk3 : ∀ x : Int, (r.upto i ++ Pl.putI 2 n ++ [x]).take ((r.upto i).length + 2 + 1) = r.upto i ++ Pl.putI 2 n ++ [x] := fun x => take_len _ _ (by rw [List.length_append, List.length_append, hl2]; rfl)
    rcases q3 with q3 | q3
    · obtain rfl : d = [] := by simpa using q3
      rw [List.append_nil, show ((min ([] : List Int).length 1 : Nat) : Int) = 0 from rfl] at hus
      have hmn : IntKind.u8.wrap (if (1 : Int) < ((0 : Nat) : Int) then 1 else ((0 : Nat) : Int)) = 0 := rfl
      have hm0 : IntKind.u8.wrap ((0 : Nat) : Int) = 0 := rfl
      rw [List.length_nil, Nat.add_zero] at hus2
      have n0 : numB .u8 [] = [] := rfl
      have FX := Fx.mk (And.intro @hag <| And.intro @h43 <| And.intro @h7 <| And.intro @b3 <| And.intro @hd <| And.intro @hw <| And.intro @hpb <| And.intro @hwp <| And.intro @hm0 <| And.intro @hl2 <| And.intro @h22 <| And.intro @htk2 <| And.intro @htk3 <| And.intro @n0 <| And.intro ((fun α : Type => @List.length_nil α)) <| ((fun α : Type => @List.append_nil α)))
      repeat (first | refine v_ ?_ | refine u_ ?_ | refine f_ (hput) fun kf hkf => ?_ | refine nl_ ?_ | (refine nz_ ?_; first | (show aWp _ _ _ _ _) | skip) | refine sq_ ?_ | refine rg_ ?_ | refine k_ ?_ | refine ct_ ?_ | refine cf_ ?_ | refine bk_ ?_ | refine sc_ ?_ | (refine sk_ ?_; first | (show aWp _ _ _ _ _) | skip) | (refine ex_ ?_; first | (show aWp _ _ _ _ _) | skip) | refine rt_ ?_)
      refine ⟨r.pages.length - (i + 1), by omega, ⟨i + 1, kf + 1 + 1 + 1, by omega, rfl, by (have FX := Fx0; exact cl_), by omega, by first | omega | (simp only; omega), by (have FX := Fx.mk (@hus2); exact cl_), by (have FX := Fx.mk (@hus); exact cl_)⟩, ?_, ?_, by first | omega | (simp only; omega), rfl⟩
      · repeat (refine KAgree.upd rfl ?_)
        first | exact KAgree.refl _ _ | exact hag
      · exact (by have FX := Fx.mk (@hh); exact ha_)
    · rw [q3] at hus2
      rw [q3, show ((min 64 1 : Nat) : Int) = 1 from rfl] at hus
      have hmn : IntKind.u8.wrap (if (1 : Int) < ((64 : Nat) : Int) then 1 else ((64 : Nat) : Int)) = 1 := rfl
      have hm0 : IntKind.u8.wrap (1 : Int) = 1 := rfl
      have FX := Fx.mk (And.intro @hag <| And.intro @h43 <| And.intro @h7 <| And.intro @b3 <| And.intro @hd <| And.intro @hw <| And.intro @hpb <| And.intro @hwp <| And.intro @hm0 <| And.intro @hl2 <| And.intro @h22 <| And.intro @htk2 <| And.intro @htk3 <| @q3)
      repeat (first | refine v_ ?_ | refine u_ ?_ | refine f_ (hput) fun kf hkf => ?_ | refine nl_ ?_ | (refine nz_ ?_; first | (show aWp _ _ _ _ _) | skip) | refine sq_ ?_ | refine rg_ ?_ | refine k_ ?_ | refine ct_ ?_ | refine cf_ ?_ | refine bk_ ?_ | refine sc_ ?_ | (refine sk_ ?_; first | (show aWp _ _ _ _ _) | skip) | (refine ex_ ?_; first | (show aWp _ _ _ _ _) | skip) | refine rt_ ?_)
      refine ⟨r.pages.length - (i + 1), by omega, ⟨i + 1, kf + 1 + 1 + 1, by omega, rfl, by (have FX := Fx0; exact cl_), by omega, by first | omega | (simp only; omega), by (have FX := Fx.mk (@hus2); exact cl_), by (have FX := Fx.mk (@hus); exact cl_)⟩, ?_, ?_, by first | omega | (simp only; omega), rfl⟩
      · repeat (refine KAgree.upd rfl ?_)
        first | exact KAgree.refl _ _ | exact hag
      · exact (by have FX := Fx.mk (@hh); exact ha_)
  obtain rfl : i = r.pages.length := by omega
  have hd : decide ((r.pages.length : Int) < (r.pages.length : Int)) = false := decide_eq_false (by omega)
  rw [upto_all] at h7 b3 hul
  have hse := crc_Seal r.raw (by omega)
  have hsl := Pl.seal_len (l := r.raw)
  have hen : r.enc = Pl.sealS r.raw ++ List.replicate (padN (Pl.sealS r.raw).length - (Pl.sealS r.raw).length) 0 := rfl
  obtain ⟨S, hS⟩ : ∃ S, Pl.sealS r.raw = S := ⟨_, rfl⟩
  rw [hS] at hse hsl hen
  have hSL : S.length ≤ 20000 := by omega
  have hpd := journal_padded S.length (by omega)
  have hwr : IntKind.i64.wrap (((padN S.length : Nat) : Int) - (S.length : Int)) = ((padN S.length - S.length : Nat) : Int) := by
    have := padN_le S.length
    have : padN S.length ≤ S.length + 63 := by unfold padN; omega
    rw [wrapI] <;> omega
  have hMl : padN S.length - S.length ≤ 63 := by unfold padN; omega
  rw [hen]
  generalize padN S.length - S.length = M at hwr hMl ⊢
  have FX := Fx.mk (And.intro @hag <| And.intro @h43 <| And.intro @h7 <| And.intro @b3 <| @hd)
  repeat (first | refine v_ ?_ | refine u_ ?_ | refine nl_ ?_ | (refine nz_ ?_; first | (show aWp _ _ _ _ _) | skip) | refine sq_ ?_ | refine rg_ ?_ | refine k_ ?_ | refine ct_ ?_ | refine cf_ ?_ | refine bk_ ?_ | refine sc_ ?_ | (refine sk_ ?_; first | (show aWp _ _ _ _ _) | skip) | (refine ex_ ?_; first | (show aWp _ _ _ _ _) | skip) | refine rt_ ?_)
  have FX := Fx.mk (And.intro @hag <| And.intro @h7 <| @b3); refine fz_ 70 ?_
  have htk : r.raw.take r.raw.length = r.raw := List.take_length
  have FX := Fx.mk (And.intro @hwr <| @htk)
  repeat (first | refine v_ ?_ | refine u_ ?_ | refine o_ (hse) fun mf kf hmf hkf => ?_ | refine f_ (hpd) fun kf hkf => ?_ | refine nl_ ?_ | (refine nz_ ?_; first | (show aWp _ _ _ _ _) | skip) | refine sq_ ?_ | refine rg_ ?_ | refine k_ ?_ | refine ct_ ?_ | refine cf_ ?_ | refine bk_ ?_ | refine sc_ ?_ | (refine sk_ ?_; first | (show aWp _ _ _ _ _) | skip) | (refine ex_ ?_; first | (show aWp _ _ _ _ _) | skip) | refine rt_ ?_)
  (have FX := Fx.mk (@hh); exact endm_ (kf) Tryd.results34)
end Go.Proofs.YtjidgdfdeckofaaDoor.AE
