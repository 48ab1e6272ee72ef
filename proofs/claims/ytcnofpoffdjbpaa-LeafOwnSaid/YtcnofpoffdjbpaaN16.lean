/- Layer 7's page: Decode. -/
import Derived.Test.YtcnofpoffdjbpaaN13
import Derived.Test.YtcnofpoffdjbpaaN15
import Derived.Test.YtcnofpoffdjbpaaG11
namespace Go.Proofs.Ytcnofpoffdjbpaa.AE
open Go Go.RowKit Go.Proofs Go.Proofs.Ytcnofpoffdjbpaa
set_option linter.unusedVariables false
set_option linter.unusedSimpArgs false
set_option maxRecDepth 100000
set_option maxHeartbeats 8000000
theorem open_cases' {b : List Int} (hl : b.length = 64) : Pl.openS b = ([], 21) ∨ ((Pl.openS b).2 = 0 ∧ (Pl.openS b).1.length = 60) := by
  unfold Pl.openS
  rw [if_neg (by omega)]
  split
  · exact .inl rfl
  · exact .inr ⟨rfl, by simp; omega⟩
theorem ref_Decode (b : List Int) : aFun Try.prog 22 [.sl (numB .u8 b)] (.tup [nodeV (decS b).1.1 (decS b).1.2, .int .i64 (decS b).2]) := by
  unfold nodeV
  by_cases hl : b.length = 64
  · rcases open_cases' hl with ho | ⟨ho, hx⟩
    · rw [show decS b = (([], []), 21) by unfold decS; rw [if_neg (by omega), ho]; rfl]
      have hn := numB_len .u8 b
      have d0 : decide ((b.length : Int) = 64) = true := decide_eq_true (by omega)
      have d1 : decide ((21 : Int) = 0) = false := rfl
      have op := ref02_Open b (by omega)
      rw [ho] at op
      refine aFun_body Try.func22 rfl rfl (by simp [Try.ntmps22]) fun hreal h nx hfresh => ?_
      rw [Try.ntmps22]
      have FX := Fx.mk (And.intro @hn <| And.intro @d0 <| @d1)
      repeat (first | refine v_ ?_ | refine u_ ?_ | refine f_ (op) fun kf hkf => ?_ | refine nl_ ?_ | (refine nz_ ?_; first | (show aWp _ _ _ _ _) | skip) | refine sq_ ?_ | refine rg_ ?_ | refine k_ ?_ | refine ct_ ?_ | refine cf_ ?_ | refine bk_ ?_ | refine sc_ ?_ | (refine sk_ ?_; first | (show aWp _ _ _ _ _) | skip) | (refine ex_ ?_; first | (show aWp _ _ _ _ _) | skip) | refine rt_ ?_)
      (have FX := Fx0; exact end_ Try.results22)
    · have op := ref02_Open b (by omega)
      rw [ho] at op
      generalize hxe : (Pl.openS b).1 = x at op hx
      have hn := numB_len .u8 b
      have d0 : decide ((b.length : Int) = 64) = true := decide_eq_true (by omega)
      have d1 : decide ((0 : Int) = 0) = true := rfl
      have d9 : decide ((9 : Int) = 0) = false := rfl
      obtain ⟨x0, e0⟩ : ∃ c, x[0]? = some c := ⟨_, List.getElem?_eq_getElem (by omega)⟩
      have g0 := numB_get .u8 x 0 x0 e0
      have hx0 : x.getD 0 0 = x0 := by rw [List.getD_eq_getElem?_getD, e0]; rfl
      by_cases hk : x0 = 1 ∨ x0 = 2
      · have hk2 : ¬ ((Pl.openS b).1.getD 0 0 ≠ 1 ∧ (Pl.openS b).1.getD 0 0 ≠ 2) := by rw [hxe, hx0]; omega
        have rd := ref_told x hx (by rw [hx0]; exact hk)
        by_cases hok : okN (toldN x).1 (toldN x).2
        · have en := ref_Encode _ _ hok
          by_cases hb : encS (toldN x).1 (toldN x).2 = b
          · rw [show decS b = (toldN x, 0) by unfold decS; rw [if_neg (by omega), if_neg (by rw [ho]; decide), if_neg hk2, hxe, if_pos ⟨hok, hb⟩]]
            have eq : decide (encS (toldN x).1 (toldN x).2 = b) = true := decide_eq_true hb
            unfold nodeV at en
            rcases hk with hk | hk
            · have f1 : decide (x0 = 1) = true := decide_eq_true hk
              refine aFun_body Try.func22 rfl rfl (by simp [Try.ntmps22]) fun hreal h nx hfresh => ?_
              rw [Try.ntmps22]
              have FX := Fx.mk (And.intro @hn <| And.intro @d0 <| And.intro @d1 <| And.intro @f1 <| And.intro @e0 <| And.intro @g0 <| @eq)
              repeat (first | refine v_ ?_ | refine u_ ?_ | refine f_ (op) fun kf hkf => ?_ | refine f_ (rd) fun kf hkf => ?_ | refine f_ (en) fun kf hkf => ?_ | refine nl_ ?_ | (refine nz_ ?_; first | (show aWp _ _ _ _ _) | skip) | refine sq_ ?_ | refine rg_ ?_ | refine k_ ?_ | refine ct_ ?_ | refine cf_ ?_ | refine bk_ ?_ | refine sc_ ?_ | (refine sk_ ?_; first | (show aWp _ _ _ _ _) | skip) | (refine ex_ ?_; first | (show aWp _ _ _ _ _) | skip) | refine rt_ ?_)
              (have FX := Fx0; exact end_ Try.results22)
            · have f1 : decide (x0 = 1) = false := decide_eq_false (by omega)
              have f2 : decide (x0 = 2) = true := decide_eq_true hk
              refine aFun_body Try.func22 rfl rfl (by simp [Try.ntmps22]) fun hreal h nx hfresh => ?_
              rw [Try.ntmps22]
              have FX := Fx.mk (And.intro @hn <| And.intro @d0 <| And.intro @d1 <| And.intro @f1 <| And.intro @f2 <| And.intro @e0 <| And.intro @g0 <| @eq)
              repeat (first | refine v_ ?_ | refine u_ ?_ | refine f_ (op) fun kf hkf => ?_ | refine f_ (rd) fun kf hkf => ?_ | refine f_ (en) fun kf hkf => ?_ | refine nl_ ?_ | (refine nz_ ?_; first | (show aWp _ _ _ _ _) | skip) | refine sq_ ?_ | refine rg_ ?_ | refine k_ ?_ | refine ct_ ?_ | refine cf_ ?_ | refine bk_ ?_ | refine sc_ ?_ | (refine sk_ ?_; first | (show aWp _ _ _ _ _) | skip) | (refine ex_ ?_; first | (show aWp _ _ _ _ _) | skip) | refine rt_ ?_)
              (have FX := Fx0; exact end_ Try.results22)
          · rw [show decS b = (([], []), 21) by unfold decS; rw [if_neg (by omega), if_neg (by rw [ho]; decide), if_neg hk2, hxe, if_neg (fun h => hb h.2)]]
            have eq : decide (encS (toldN x).1 (toldN x).2 = b) = false := decide_eq_false hb
            unfold nodeV at en
            rcases hk with hk | hk
            · have f1 : decide (x0 = 1) = true := decide_eq_true hk
              refine aFun_body Try.func22 rfl rfl (by simp [Try.ntmps22]) fun hreal h nx hfresh => ?_
              rw [Try.ntmps22]
              have FX := Fx.mk (And.intro @hn <| And.intro @d0 <| And.intro @d1 <| And.intro @f1 <| And.intro @e0 <| And.intro @g0 <| @eq)
              repeat (first | refine v_ ?_ | refine u_ ?_ | refine f_ (op) fun kf hkf => ?_ | refine f_ (rd) fun kf hkf => ?_ | refine f_ (en) fun kf hkf => ?_ | refine nl_ ?_ | (refine nz_ ?_; first | (show aWp _ _ _ _ _) | skip) | refine sq_ ?_ | refine rg_ ?_ | refine k_ ?_ | refine ct_ ?_ | refine cf_ ?_ | refine bk_ ?_ | refine sc_ ?_ | (refine sk_ ?_; first | (show aWp _ _ _ _ _) | skip) | (refine ex_ ?_; first | (show aWp _ _ _ _ _) | skip) | refine rt_ ?_)
              (have FX := Fx0; exact end_ Try.results22)
            · have f1 : decide (x0 = 1) = false := decide_eq_false (by omega)
              have f2 : decide (x0 = 2) = true := decide_eq_true hk
              refine aFun_body Try.func22 rfl rfl (by simp [Try.ntmps22]) fun hreal h nx hfresh => ?_
              rw [Try.ntmps22]
              have FX := Fx.mk (And.intro @hn <| And.intro @d0 <| And.intro @d1 <| And.intro @f1 <| And.intro @f2 <| And.intro @e0 <| And.intro @g0 <| @eq)
              repeat (first | refine v_ ?_ | refine u_ ?_ | refine f_ (op) fun kf hkf => ?_ | refine f_ (rd) fun kf hkf => ?_ | refine f_ (en) fun kf hkf => ?_ | refine nl_ ?_ | (refine nz_ ?_; first | (show aWp _ _ _ _ _) | skip) | refine sq_ ?_ | refine rg_ ?_ | refine k_ ?_ | refine ct_ ?_ | refine cf_ ?_ | refine bk_ ?_ | refine sc_ ?_ | (refine sk_ ?_; first | (show aWp _ _ _ _ _) | skip) | (refine ex_ ?_; first | (show aWp _ _ _ _ _) | skip) | refine rt_ ?_)
              (have FX := Fx0; exact end_ Try.results22)
        · rw [show decS b = (([], []), 21) by unfold decS; rw [if_neg (by omega), if_neg (by rw [ho]; decide), if_neg hk2, hxe, if_neg (fun h => hok h.1)]]
          have en := ref_Encode_bad _ _ hok
          unfold nodeV at en
          rcases hk with hk | hk
          · have f1 : decide (x0 = 1) = true := decide_eq_true hk
            refine aFun_body Try.func22 rfl rfl (by simp [Try.ntmps22]) fun hreal h nx hfresh => ?_
            rw [Try.ntmps22]
            have FX := Fx.mk (And.intro @hn <| And.intro @d0 <| And.intro @d1 <| And.intro @d9 <| And.intro @f1 <| And.intro @e0 <| @g0)
            repeat (first | refine v_ ?_ | refine u_ ?_ | refine f_ (op) fun kf hkf => ?_ | refine f_ (rd) fun kf hkf => ?_ | refine f_ (en) fun kf hkf => ?_ | refine nl_ ?_ | (refine nz_ ?_; first | (show aWp _ _ _ _ _) | skip) | refine sq_ ?_ | refine rg_ ?_ | refine k_ ?_ | refine ct_ ?_ | refine cf_ ?_ | refine bk_ ?_ | refine sc_ ?_ | (refine sk_ ?_; first | (show aWp _ _ _ _ _) | skip) | (refine ex_ ?_; first | (show aWp _ _ _ _ _) | skip) | refine rt_ ?_)
            (have FX := Fx0; exact end_ Try.results22)
          · have f1 : decide (x0 = 1) = false := decide_eq_false (by omega)
            have f2 : decide (x0 = 2) = true := decide_eq_true hk
            refine aFun_body Try.func22 rfl rfl (by simp [Try.ntmps22]) fun hreal h nx hfresh => ?_
            rw [Try.ntmps22]
            have FX := Fx.mk (And.intro @hn <| And.intro @d0 <| And.intro @d1 <| And.intro @d9 <| And.intro @f1 <| And.intro @f2 <| And.intro @e0 <| @g0)
            repeat (first | refine v_ ?_ | refine u_ ?_ | refine f_ (op) fun kf hkf => ?_ | refine f_ (rd) fun kf hkf => ?_ | refine f_ (en) fun kf hkf => ?_ | refine nl_ ?_ | (refine nz_ ?_; first | (show aWp _ _ _ _ _) | skip) | refine sq_ ?_ | refine rg_ ?_ | refine k_ ?_ | refine ct_ ?_ | refine cf_ ?_ | refine bk_ ?_ | refine sc_ ?_ | (refine sk_ ?_; first | (show aWp _ _ _ _ _) | skip) | (refine ex_ ?_; first | (show aWp _ _ _ _ _) | skip) | refine rt_ ?_)
            (have FX := Fx0; exact end_ Try.results22)
      · rw [show decS b = (([], []), 22) by unfold decS; rw [if_neg (by omega), if_neg (by rw [ho]; decide), if_pos (by rw [hxe, hx0]; omega)]]
        have f1 : decide (x0 = 1) = false := decide_eq_false (by omega)
        have f2 : decide (x0 = 2) = false := decide_eq_false (by omega)
        refine aFun_body Try.func22 rfl rfl (by simp [Try.ntmps22]) fun hreal h nx hfresh => ?_
        rw [Try.ntmps22]
        have FX := Fx.mk (And.intro @hn <| And.intro @d0 <| And.intro @d1 <| And.intro @f1 <| And.intro @f2 <| And.intro @e0 <| @g0)
        repeat (first | refine v_ ?_ | refine u_ ?_ | refine f_ (op) fun kf hkf => ?_ | refine nl_ ?_ | (refine nz_ ?_; first | (show aWp _ _ _ _ _) | skip) | refine sq_ ?_ | refine rg_ ?_ | refine k_ ?_ | refine ct_ ?_ | refine cf_ ?_ | refine bk_ ?_ | refine sc_ ?_ | (refine sk_ ?_; first | (show aWp _ _ _ _ _) | skip) | (refine ex_ ?_; first | (show aWp _ _ _ _ _) | skip) | refine rt_ ?_)
        (have FX := Fx0; exact end_ Try.results22)
  · rw [show decS b = (([], []), 8) from if_pos hl]
    have hn := numB_len .u8 b
    have d0 : decide ((b.length : Int) = 64) = false := decide_eq_false (by omega)
    refine aFun_body Try.func22 rfl rfl (by simp [Try.ntmps22]) fun hreal h nx hfresh => ?_
    rw [Try.ntmps22]
    have FX := Fx.mk (And.intro @hn <| @d0)
    repeat (first | refine v_ ?_ | refine u_ ?_ | refine nl_ ?_ | (refine nz_ ?_; first | (show aWp _ _ _ _ _) | skip) | refine sq_ ?_ | refine rg_ ?_ | refine k_ ?_ | refine ct_ ?_ | refine cf_ ?_ | refine bk_ ?_ | refine sc_ ?_ | (refine sk_ ?_; first | (show aWp _ _ _ _ _) | skip) | (refine ex_ ?_; first | (show aWp _ _ _ _ _) | skip) | refine rt_ ?_)
    (have FX := Fx0; exact end_ Try.results22)
end Go.Proofs.Ytcnofpoffdjbpaa.AE
