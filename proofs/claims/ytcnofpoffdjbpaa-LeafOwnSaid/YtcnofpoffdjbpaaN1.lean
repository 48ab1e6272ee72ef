/- Layer 7: Check. -/
import Derived.Test.YtcnofpoffdjbpaaN0
namespace Go.Proofs.Ytcnofpoffdjbpaa.AE
open Go Go.RowKit Go.Proofs Go.Proofs.Ytcnofpoffdjbpaa
set_option linter.unusedVariables false
set_option linter.unusedSimpArgs false
set_option maxRecDepth 100000
set_option maxHeartbeats 8000000
theorem leaf_Check (l : List (Int × Int)) (kids : List Int) : aFun Try.prog 17 [nodeV l kids] (.int .i64 (chk l kids)) := by
  have e1 := itemB_len l
  have e2 := numB_len .i64 kids
  unfold nodeV
  by_cases c1 : l.length < 1
  · rw [chk_bad (fun h => by have := h.1; omega)]
    refine aFun_body Try.func17 rfl rfl (by simp [Try.ntmps17]) fun hreal h nx hfresh => ?_
    rw [Try.ntmps17]
    have d1 : decide ((l.length : Int) < 1) = true := decide_eq_true (by omega)
    have FX := Fx.mk (And.intro @d1 <| @e1)
    repeat (first | refine v_ ?_ | refine u_ ?_ | refine nl_ ?_ | (refine nz_ ?_; first | (show aWp _ _ _ _ _) | skip) | refine sq_ ?_ | refine rg_ ?_ | refine k_ ?_ | refine ct_ ?_ | refine cf_ ?_ | refine bk_ ?_ | refine sc_ ?_ | (refine sk_ ?_; first | (show aWp _ _ _ _ _) | skip) | (refine ex_ ?_; first | (show aWp _ _ _ _ _) | skip) | refine rt_ ?_)
    (have FX := Fx0; exact end_ Try.results17)
  have d1 : decide ((l.length : Int) < 1) = false := decide_eq_false (by omega)
  by_cases c2 : 3 < l.length
  · rw [chk_bad (fun h => by have := h.1; omega)]
    refine aFun_body Try.func17 rfl rfl (by simp [Try.ntmps17]) fun hreal h nx hfresh => ?_
    rw [Try.ntmps17]
    have d2 : decide (3 < (l.length : Int)) = true := decide_eq_true (by omega)
    have FX := Fx.mk (And.intro @d1 <| And.intro @d2 <| @e1)
    repeat (first | refine v_ ?_ | refine u_ ?_ | refine nl_ ?_ | (refine nz_ ?_; first | (show aWp _ _ _ _ _) | skip) | refine sq_ ?_ | refine rg_ ?_ | refine k_ ?_ | refine ct_ ?_ | refine cf_ ?_ | refine bk_ ?_ | refine sc_ ?_ | (refine sk_ ?_; first | (show aWp _ _ _ _ _) | skip) | (refine ex_ ?_; first | (show aWp _ _ _ _ _) | skip) | refine rt_ ?_)
    (have FX := Fx0; exact end_ Try.results17)
  have d2 : decide (3 < (l.length : Int)) = false := decide_eq_false (by omega)
  have hw0 : IntKind.i64.wrap ((l.length : Int) + 1) = ((l.length + 1 : Nat) : Int) := by rw [wrapI] <;> omega
  by_cases hk0 : 0 < kids.length
  · have f3 : decide (0 < (kids.length : Int)) = true := decide_eq_true (by omega)
    by_cases c3 : kids.length = l.length + 1
    · have d4 : decide ((kids.length : Int) = ((l.length + 1 : Nat) : Int)) = true := decide_eq_true (by omega)
      have hkk : 0 < kids.length → kids.length = l.length + 1 := fun _ => c3
      refine aFun_body Try.func17 rfl rfl (by simp [Try.ntmps17]) fun hreal h nx hfresh => ?_
      rw [Try.ntmps17]
      have hit := (Real.node (l := l) (kids := kids) (hreal (nodeV l kids) (by simp [nodeV]))).1.items
      have FX := Fx.mk (And.intro @d1 <| And.intro @d2 <| And.intro @f3 <| And.intro @d4 <| And.intro @e1 <| And.intro @e2 <| @hw0)
      repeat (first | refine v_ ?_ | refine u_ ?_ | refine nl_ ?_ | (refine nz_ ?_; first | (show aWp _ _ _ _ _) | skip) | refine sq_ ?_ | refine rg_ ?_ | refine k_ ?_ | refine ct_ ?_ | refine cf_ ?_ | refine bk_ ?_ | refine sc_ ?_ | (refine sk_ ?_; first | (show aWp _ _ _ _ _) | skip) | (refine ex_ ?_; first | (show aWp _ _ _ _ _) | skip) | refine rt_ ?_)
      refine W_loopK [1, 32, 33] (nx + 1) (fun r tm h _ => ∃ i : Nat, i ≤ l.length ∧ r = l.length - i ∧ tm 34 = .int .i64 i ∧ ∀ j, j < i → okI l kids j) l.length (by omega) ⟨0, Nat.zero_le _, rfl, rfl, fun j hj => absurd hj (Nat.not_lt_zero j)⟩ ?_
      rintro r tm' h' k' ⟨i, hi, rfl, h34, hp⟩ hag hh hk'
      by_cases hlt : i < l.length
      · have hd : decide ((i : Int) < (l.length : Int)) = true := decide_eq_true (by omega)
        have hw : IntKind.i64.wrap (i + 1) = ((i + 1 : Nat) : Int) := by rw [wrapI] <;> omega
        obtain ⟨x, hx0⟩ : ∃ x, l[i]? = some x := ⟨l[i], List.getElem?_eq_getElem hlt⟩
        have hx := itemB_get l i x hx0
        have hxd := getD_of (d := ((0, 0) : Int × Int)) hx0
        have hxr := hit.2 x (List.mem_of_getElem? hx0)
        by_cases hi0 : 0 < i
        · have f1 : decide (0 < (i : Int)) = true := decide_eq_true (by omega)
          have hw1 : IntKind.i64.wrap ((i : Int) - 1) = ((i - 1 : Nat) : Int) := by rw [wrapI] <;> omega
          obtain ⟨y, hy0⟩ : ∃ y, l[i - 1]? = some y := ⟨l[i - 1]'(by omega), List.getElem?_eq_getElem _⟩
          have hy := itemB_get l (i - 1) y hy0
          have hyd := getD_of (d := ((0, 0) : Int × Int)) hy0
          by_cases hq : x.1 ≤ y.1
          · have f2 : decide (x.1 ≤ y.1) = true := decide_eq_true hq
            rw [chk_bad (fun hok => by have := (hok.2.2.1 i hlt).1 hi0; rw [hxd, hyd] at this; omega)]
            have FX := Fx.mk (And.intro @hag <| And.intro @h34 <| And.intro @hh <| And.intro @hd <| And.intro @hx <| And.intro @e1 <| @e2)
            repeat (first | refine v_ ?_ | refine u_ ?_ | refine nl_ ?_ | (refine nz_ ?_; first | (show aWp _ _ _ _ _) | skip) | refine sq_ ?_ | refine rg_ ?_ | refine k_ ?_ | refine ct_ ?_ | refine cf_ ?_ | refine bk_ ?_ | refine sc_ ?_ | (refine sk_ ?_; first | (show aWp _ _ _ _ _) | skip) | (refine ex_ ?_; first | (show aWp _ _ _ _ _) | skip) | refine rt_ ?_)
            have FX := Fx.mk (And.intro @hag <| And.intro @h34 <| And.intro @hh <| And.intro @hx <| And.intro @e1 <| And.intro @e2 <| And.intro @f1 <| And.intro @f2 <| And.intro @hw1 <| @hy)
            refine W_draw mixed rfl rfl ?_
            repeat (first | refine dq_ ?_ | refine dr_ [nx, k'] ?_ | refine dm_ [nx, k'] ?_ | refine da_ [nx, k'] ?_ | refine ds_ [nx, k'] ?_ | refine dw_ [nx, k'] ?_ | refine dk_ ?_ | refine dn_ ?_)
            refine fun kd hkd => ?_
            simp only [List.length_cons, List.length_nil] at hkd
            first | (show aWp _ _ _ _ _) | skip
            have FX := Fx.mk (And.intro @hag <| @hh)
            repeat (first | refine v_ ?_ | refine u_ ?_ | refine nl_ ?_ | (refine nz_ ?_; first | (show aWp _ _ _ _ _) | skip) | refine sq_ ?_ | refine rg_ ?_ | refine k_ ?_ | refine ct_ ?_ | refine cf_ ?_ | refine bk_ ?_ | refine sc_ ?_ | (refine sk_ ?_; first | (show aWp _ _ _ _ _) | skip) | (refine ex_ ?_; first | (show aWp _ _ _ _ _) | skip) | refine rt_ ?_)
            (have FX := Fx.mk (And.intro @hag <| @hh); exact end_ Try.results17)
          · have f2 : decide (x.1 ≤ y.1) = false := decide_eq_false hq
            by_cases hv : 0 < x.2
            · have f5 : decide (0 < x.2) = true := decide_eq_true hv
              rw [chk_bad (fun hok => by have := (hok.2.2.1 i hlt).2 hk0; rw [hxd] at this; omega)]
              have FX := Fx.mk (And.intro @hag <| And.intro @h34 <| And.intro @hh <| And.intro @hd <| And.intro @hx <| And.intro @e1 <| @e2)
              repeat (first | refine v_ ?_ | refine u_ ?_ | refine nl_ ?_ | (refine nz_ ?_; first | (show aWp _ _ _ _ _) | skip) | refine sq_ ?_ | refine rg_ ?_ | refine k_ ?_ | refine ct_ ?_ | refine cf_ ?_ | refine bk_ ?_ | refine sc_ ?_ | (refine sk_ ?_; first | (show aWp _ _ _ _ _) | skip) | (refine ex_ ?_; first | (show aWp _ _ _ _ _) | skip) | refine rt_ ?_)
              have FX := Fx.mk (And.intro @hag <| And.intro @h34 <| And.intro @hh <| And.intro @hx <| And.intro @e1 <| And.intro @e2 <| And.intro @f3 <| And.intro @f5 <| And.intro @f1 <| And.intro @f2 <| And.intro @hw1 <| @hy)
              refine W_draw mixed rfl rfl ?_
              repeat (first | refine dq_ ?_ | refine dr_ [nx, k'] ?_ | refine dm_ [nx, k'] ?_ | refine da_ [nx, k'] ?_ | refine ds_ [nx, k'] ?_ | refine dw_ [nx, k'] ?_ | refine dk_ ?_ | refine dn_ ?_)
              refine fun kd hkd => ?_
              simp only [List.length_cons, List.length_nil] at hkd
              first | (show aWp _ _ _ _ _) | skip
              have FX := Fx.mk (And.intro @hag <| @hh)
              repeat (first | refine v_ ?_ | refine u_ ?_ | refine nl_ ?_ | (refine nz_ ?_; first | (show aWp _ _ _ _ _) | skip) | refine sq_ ?_ | refine rg_ ?_ | refine k_ ?_ | refine ct_ ?_ | refine cf_ ?_ | refine bk_ ?_ | refine sc_ ?_ | (refine sk_ ?_; first | (show aWp _ _ _ _ _) | skip) | (refine ex_ ?_; first | (show aWp _ _ _ _ _) | skip) | refine rt_ ?_)
              (have FX := Fx.mk (And.intro @hag <| @hh); exact end_ Try.results17)
            · have f5 : decide (0 < x.2) = false := decide_eq_false hv
              have FX := Fx.mk (And.intro @hag <| And.intro @h34 <| And.intro @hh <| And.intro @hd <| And.intro @hx <| And.intro @e1 <| @e2)
              repeat (first | refine v_ ?_ | refine u_ ?_ | refine nl_ ?_ | (refine nz_ ?_; first | (show aWp _ _ _ _ _) | skip) | refine sq_ ?_ | refine rg_ ?_ | refine k_ ?_ | refine ct_ ?_ | refine cf_ ?_ | refine bk_ ?_ | refine sc_ ?_ | (refine sk_ ?_; first | (show aWp _ _ _ _ _) | skip) | (refine ex_ ?_; first | (show aWp _ _ _ _ _) | skip) | refine rt_ ?_)
              have FX := Fx.mk (And.intro @hag <| And.intro @h34 <| And.intro @hh <| And.intro @hx <| And.intro @e1 <| And.intro @e2 <| And.intro @f3 <| And.intro @f5 <| And.intro @f1 <| And.intro @f2 <| And.intro @hw1 <| @hy)
              refine W_draw mixed rfl rfl ?_
              repeat (first | refine dq_ ?_ | refine dr_ [nx, k'] ?_ | refine dm_ [nx, k'] ?_ | refine da_ [nx, k'] ?_ | refine ds_ [nx, k'] ?_ | refine dw_ [nx, k'] ?_ | refine dk_ ?_ | refine dn_ ?_)
              refine fun kd hkd => ?_
              simp only [List.length_cons, List.length_nil] at hkd
              first | (show aWp _ _ _ _ _) | skip
              have FX := Fx.mk (And.intro @hag <| And.intro @h34 <| And.intro @hh <| @hw)
              repeat (first | refine v_ ?_ | refine u_ ?_ | refine nl_ ?_ | (refine nz_ ?_; first | (show aWp _ _ _ _ _) | skip) | refine sq_ ?_ | refine rg_ ?_ | refine k_ ?_ | refine ct_ ?_ | refine cf_ ?_ | refine bk_ ?_ | refine sc_ ?_ | (refine sk_ ?_; first | (show aWp _ _ _ _ _) | skip) | (refine ex_ ?_; first | (show aWp _ _ _ _ _) | skip) | refine rt_ ?_)
              refine ⟨l.length - (i + 1), by omega, ⟨i + 1, by omega, rfl, ?_, ?_⟩, ?_, ?_, by simp only; omega, rfl⟩
              · (have FX := Fx0; exact cl_)
              · intro j hj
                by_cases e : j < i
                · exact hp j e
                · obtain rfl : i = j := by omega
                  exact ⟨(fun _ => by rw [hxd, hyd]; omega), fun _ => by rw [hxd]; omega⟩
              · repeat (refine KAgree.upd rfl ?_)
                first | exact KAgree.refl _ _ | exact hag
              · exact (by have FX := Fx.mk (@hh); exact ha_)
        · have f1 : decide (0 < (i : Int)) = false := decide_eq_false (by omega)
          by_cases hv : 0 < x.2
          · have f5 : decide (0 < x.2) = true := decide_eq_true hv
            rw [chk_bad (fun hok => by have := (hok.2.2.1 i hlt).2 hk0; rw [hxd] at this; omega)]
            have FX := Fx.mk (And.intro @hag <| And.intro @h34 <| And.intro @hh <| And.intro @hd <| And.intro @hx <| And.intro @e1 <| @e2)
            repeat (first | refine v_ ?_ | refine u_ ?_ | refine nl_ ?_ | (refine nz_ ?_; first | (show aWp _ _ _ _ _) | skip) | refine sq_ ?_ | refine rg_ ?_ | refine k_ ?_ | refine ct_ ?_ | refine cf_ ?_ | refine bk_ ?_ | refine sc_ ?_ | (refine sk_ ?_; first | (show aWp _ _ _ _ _) | skip) | (refine ex_ ?_; first | (show aWp _ _ _ _ _) | skip) | refine rt_ ?_)
            have FX := Fx.mk (And.intro @hag <| And.intro @h34 <| And.intro @hh <| And.intro @hx <| And.intro @e1 <| And.intro @e2 <| And.intro @f3 <| And.intro @f5 <| @f1)
            refine W_draw mixed rfl rfl ?_
            repeat (first | refine dq_ ?_ | refine dr_ [nx, k'] ?_ | refine dm_ [nx, k'] ?_ | refine da_ [nx, k'] ?_ | refine ds_ [nx, k'] ?_ | refine dw_ [nx, k'] ?_ | refine dk_ ?_ | refine dn_ ?_)
            refine fun kd hkd => ?_
            simp only [List.length_cons, List.length_nil] at hkd
            first | (show aWp _ _ _ _ _) | skip
            have FX := Fx.mk (And.intro @hag <| @hh)
            repeat (first | refine v_ ?_ | refine u_ ?_ | refine nl_ ?_ | (refine nz_ ?_; first | (show aWp _ _ _ _ _) | skip) | refine sq_ ?_ | refine rg_ ?_ | refine k_ ?_ | refine ct_ ?_ | refine cf_ ?_ | refine bk_ ?_ | refine sc_ ?_ | (refine sk_ ?_; first | (show aWp _ _ _ _ _) | skip) | (refine ex_ ?_; first | (show aWp _ _ _ _ _) | skip) | refine rt_ ?_)
            (have FX := Fx.mk (And.intro @hag <| @hh); exact end_ Try.results17)
          · have f5 : decide (0 < x.2) = false := decide_eq_false hv
            have FX := Fx.mk (And.intro @hag <| And.intro @h34 <| And.intro @hh <| And.intro @hd <| And.intro @hx <| And.intro @e1 <| @e2)
            repeat (first | refine v_ ?_ | refine u_ ?_ | refine nl_ ?_ | (refine nz_ ?_; first | (show aWp _ _ _ _ _) | skip) | refine sq_ ?_ | refine rg_ ?_ | refine k_ ?_ | refine ct_ ?_ | refine cf_ ?_ | refine bk_ ?_ | refine sc_ ?_ | (refine sk_ ?_; first | (show aWp _ _ _ _ _) | skip) | (refine ex_ ?_; first | (show aWp _ _ _ _ _) | skip) | refine rt_ ?_)
            have FX := Fx.mk (And.intro @hag <| And.intro @h34 <| And.intro @hh <| And.intro @hx <| And.intro @e1 <| And.intro @e2 <| And.intro @f3 <| And.intro @f5 <| @f1)
            refine W_draw mixed rfl rfl ?_
            repeat (first | refine dq_ ?_ | refine dr_ [nx, k'] ?_ | refine dm_ [nx, k'] ?_ | refine da_ [nx, k'] ?_ | refine ds_ [nx, k'] ?_ | refine dw_ [nx, k'] ?_ | refine dk_ ?_ | refine dn_ ?_)
            refine fun kd hkd => ?_
            simp only [List.length_cons, List.length_nil] at hkd
            first | (show aWp _ _ _ _ _) | skip
            have FX := Fx.mk (And.intro @hag <| And.intro @h34 <| And.intro @hh <| @hw)
            repeat (first | refine v_ ?_ | refine u_ ?_ | refine nl_ ?_ | (refine nz_ ?_; first | (show aWp _ _ _ _ _) | skip) | refine sq_ ?_ | refine rg_ ?_ | refine k_ ?_ | refine ct_ ?_ | refine cf_ ?_ | refine bk_ ?_ | refine sc_ ?_ | (refine sk_ ?_; first | (show aWp _ _ _ _ _) | skip) | (refine ex_ ?_; first | (show aWp _ _ _ _ _) | skip) | refine rt_ ?_)
            refine ⟨l.length - (i + 1), by omega, ⟨i + 1, by omega, rfl, ?_, ?_⟩, ?_, ?_, by simp only; omega, rfl⟩
            · (have FX := Fx0; exact cl_)
            · intro j hj
              by_cases e : j < i
              · exact hp j e
              · obtain rfl : i = j := by omega
                exact ⟨(fun h => absurd h hi0), fun _ => by rw [hxd]; omega⟩
            · repeat (refine KAgree.upd rfl ?_)
              first | exact KAgree.refl _ _ | exact hag
            · exact (by have FX := Fx.mk (@hh); exact ha_)
      · obtain rfl : i = l.length := by omega
        have hd : decide ((l.length : Int) < (l.length : Int)) = false := by simp
        have FX := Fx.mk (And.intro @hag <| And.intro @h34 <| And.intro @hh <| And.intro @hd <| And.intro @e1 <| @e2)
        repeat (first | refine v_ ?_ | refine u_ ?_ | refine nl_ ?_ | (refine nz_ ?_; first | (show aWp _ _ _ _ _) | skip) | refine sq_ ?_ | refine rg_ ?_ | refine k_ ?_ | refine ct_ ?_ | refine cf_ ?_ | refine bk_ ?_ | refine sc_ ?_ | (refine sk_ ?_; first | (show aWp _ _ _ _ _) | skip) | (refine ex_ ?_; first | (show aWp _ _ _ _ _) | skip) | refine rt_ ?_)
        refine W_loopK [1, 66, 67] (nx + 1) (fun r tm h _ => ∃ i : Nat, i ≤ kids.length ∧ r = kids.length - i ∧ tm 68 = .int .i64 i ∧ ∀ j, j < i → okK kids j) kids.length (by omega) ⟨0, Nat.zero_le _, rfl, rfl, fun j hj => absurd hj (Nat.not_lt_zero j)⟩ ?_
        rintro r tm2 h2 k2 ⟨i, hi, rfl, h68, hp2⟩ hag2 hh2 hk2
        by_cases hlt : i < kids.length
        · have hd : decide ((i : Int) < (kids.length : Int)) = true := decide_eq_true (by omega)
          have hw : IntKind.i64.wrap (i + 1) = ((i + 1 : Nat) : Int) := by rw [wrapI] <;> omega
          obtain ⟨x, hx⟩ : ∃ x, kids[i]? = some x := ⟨kids[i], List.getElem?_eq_getElem hlt⟩
          have hxd := getD_of (d := (0 : Int)) hx
          by_cases q1 : x < 1
          · have f1 : decide (x < 1) = true := decide_eq_true q1
            rw [chk_bad (fun hok => by have := (hok.2.2.2 i hlt).1; rw [hxd] at this; omega)]
            have FX := Fx.mk (And.intro @hag2 <| And.intro @hag <| And.intro @h68 <| And.intro @hh2 <| And.intro @hh <| And.intro @hd <| And.intro @hx <| And.intro @f1 <| And.intro @e1 <| @e2)
            repeat (first | refine v_ ?_ | refine u_ ?_ | refine nl_ ?_ | (refine nz_ ?_; first | (show aWp _ _ _ _ _) | skip) | refine sq_ ?_ | refine rg_ ?_ | refine k_ ?_ | refine ct_ ?_ | refine cf_ ?_ | refine bk_ ?_ | refine sc_ ?_ | (refine sk_ ?_; first | (show aWp _ _ _ _ _) | skip) | (refine ex_ ?_; first | (show aWp _ _ _ _ _) | skip) | refine rt_ ?_)
            (have FX := Fx.mk (And.intro @hag2 <| And.intro @hh2 <| @hh); exact end_ Try.results17)
          have f1 : decide (x < 1) = false := decide_eq_false q1
          by_cases q2 : 2048 < x
          · have f2 : decide (2048 < x) = true := decide_eq_true q2
            rw [chk_bad (fun hok => by have := (hok.2.2.2 i hlt).1; rw [hxd] at this; omega)]
            have FX := Fx.mk (And.intro @hag2 <| And.intro @hag <| And.intro @h68 <| And.intro @hh2 <| And.intro @hh <| And.intro @hd <| And.intro @hx <| And.intro @f1 <| And.intro @f2 <| And.intro @e1 <| @e2)
            repeat (first | refine v_ ?_ | refine u_ ?_ | refine nl_ ?_ | (refine nz_ ?_; first | (show aWp _ _ _ _ _) | skip) | refine sq_ ?_ | refine rg_ ?_ | refine k_ ?_ | refine ct_ ?_ | refine cf_ ?_ | refine bk_ ?_ | refine sc_ ?_ | (refine sk_ ?_; first | (show aWp _ _ _ _ _) | skip) | (refine ex_ ?_; first | (show aWp _ _ _ _ _) | skip) | refine rt_ ?_)
            (have FX := Fx.mk (And.intro @hag2 <| And.intro @hh2 <| @hh); exact end_ Try.results17)
          have f2 : decide (2048 < x) = false := decide_eq_false q2
          by_cases q3 : x ∈ kids.take i
          · have f3 : decide (x ∈ kids.take i) = true := decide_eq_true q3
            rw [chk_bad (fun hok => by have := (hok.2.2.2 i hlt).2; rw [hxd] at this; exact this q3)]
            have FX := Fx.mk (And.intro @hag2 <| And.intro @hag <| And.intro @h68 <| And.intro @hh2 <| And.intro @hh <| And.intro @hd <| And.intro @hx <| And.intro @f1 <| And.intro @f2 <| And.intro @e1 <| And.intro @e2 <| @f3)
            repeat (first | refine v_ ?_ | refine u_ ?_ | refine f_ (Contains_int (kids.take i) x) fun kf hkf => ?_ | refine nl_ ?_ | (refine nz_ ?_; first | (show aWp _ _ _ _ _) | skip) | refine sq_ ?_ | refine rg_ ?_ | refine k_ ?_ | refine ct_ ?_ | refine cf_ ?_ | refine bk_ ?_ | refine sc_ ?_ | (refine sk_ ?_; first | (show aWp _ _ _ _ _) | skip) | (refine ex_ ?_; first | (show aWp _ _ _ _ _) | skip) | refine rt_ ?_)
            (have FX := Fx.mk (And.intro @hag2 <| And.intro @hh2 <| @hh); exact end_ Try.results17)
          have f3 : decide (x ∈ kids.take i) = false := decide_eq_false q3
          have FX := Fx.mk (And.intro @hag2 <| And.intro @hag <| And.intro @h68 <| And.intro @hh2 <| And.intro @hh <| And.intro @hd <| And.intro @hx <| And.intro @f1 <| And.intro @f2 <| And.intro @e1 <| And.intro @e2 <| And.intro @f3 <| @hw)
          repeat (first | refine v_ ?_ | refine u_ ?_ | refine f_ (Contains_int (kids.take i) x) fun kf hkf => ?_ | refine nl_ ?_ | (refine nz_ ?_; first | (show aWp _ _ _ _ _) | skip) | refine sq_ ?_ | refine rg_ ?_ | refine k_ ?_ | refine ct_ ?_ | refine cf_ ?_ | refine bk_ ?_ | refine sc_ ?_ | (refine sk_ ?_; first | (show aWp _ _ _ _ _) | skip) | (refine ex_ ?_; first | (show aWp _ _ _ _ _) | skip) | refine rt_ ?_)
          refine ⟨kids.length - (i + 1), by omega, ⟨i + 1, by omega, rfl, ?_, ?_⟩, ?_, ?_, by simp only; omega, rfl⟩
          · (have FX := Fx0; exact cl_)
          · intro j hj
            by_cases e : j < i
            · exact hp2 j e
            · obtain rfl : i = j := by omega
              exact ⟨by rw [hxd]; omega, by rw [hxd]; exact q3⟩
          · repeat (refine KAgree.upd rfl ?_)
            exact hag2
          · exact (by have FX := Fx.mk (@hh2); exact ha_)
        · obtain rfl : i = kids.length := by omega
          have hd : decide ((kids.length : Int) < (kids.length : Int)) = false := by simp
          rw [chk_ok ⟨by omega, hkk, hp, hp2⟩]
          have FX := Fx.mk (And.intro @hag2 <| And.intro @hag <| And.intro @h68 <| And.intro @hh2 <| And.intro @hh <| And.intro @hd <| And.intro @e1 <| @e2)
          repeat (first | refine v_ ?_ | refine u_ ?_ | refine nl_ ?_ | (refine nz_ ?_; first | (show aWp _ _ _ _ _) | skip) | refine sq_ ?_ | refine rg_ ?_ | refine k_ ?_ | refine ct_ ?_ | refine cf_ ?_ | refine bk_ ?_ | refine sc_ ?_ | (refine sk_ ?_; first | (show aWp _ _ _ _ _) | skip) | (refine ex_ ?_; first | (show aWp _ _ _ _ _) | skip) | refine rt_ ?_)
          (have FX := Fx.mk (And.intro @hag2 <| And.intro @hh2 <| @hh); exact end_ Try.results17)
    · rw [chk_bad (fun h => c3 (h.2.1 hk0))]
      refine aFun_body Try.func17 rfl rfl (by simp [Try.ntmps17]) fun hreal h nx hfresh => ?_
      rw [Try.ntmps17]
      have d4 : decide ((kids.length : Int) = ((l.length + 1 : Nat) : Int)) = false := decide_eq_false (by omega)
      have FX := Fx.mk (And.intro @d1 <| And.intro @d2 <| And.intro @f3 <| And.intro @d4 <| And.intro @e1 <| And.intro @e2 <| @hw0)
      repeat (first | refine v_ ?_ | refine u_ ?_ | refine nl_ ?_ | (refine nz_ ?_; first | (show aWp _ _ _ _ _) | skip) | refine sq_ ?_ | refine rg_ ?_ | refine k_ ?_ | refine ct_ ?_ | refine cf_ ?_ | refine bk_ ?_ | refine sc_ ?_ | (refine sk_ ?_; first | (show aWp _ _ _ _ _) | skip) | (refine ex_ ?_; first | (show aWp _ _ _ _ _) | skip) | refine rt_ ?_)
      (have FX := Fx0; exact end_ Try.results17)
  · have f3 : decide (0 < (kids.length : Int)) = false := decide_eq_false (by omega)
    have hkk : 0 < kids.length → kids.length = l.length + 1 := fun h => absurd h hk0
    refine aFun_body Try.func17 rfl rfl (by simp [Try.ntmps17]) fun hreal h nx hfresh => ?_
    rw [Try.ntmps17]
    have hit := (Real.node (l := l) (kids := kids) (hreal (nodeV l kids) (by simp [nodeV]))).1.items
    have FX := Fx.mk (And.intro @d1 <| And.intro @d2 <| And.intro @f3 <| And.intro @e1 <| And.intro @e2 <| @hw0)
    repeat (first | refine v_ ?_ | refine u_ ?_ | refine nl_ ?_ | (refine nz_ ?_; first | (show aWp _ _ _ _ _) | skip) | refine sq_ ?_ | refine rg_ ?_ | refine k_ ?_ | refine ct_ ?_ | refine cf_ ?_ | refine bk_ ?_ | refine sc_ ?_ | (refine sk_ ?_; first | (show aWp _ _ _ _ _) | skip) | (refine ex_ ?_; first | (show aWp _ _ _ _ _) | skip) | refine rt_ ?_)
    refine W_loopK [1, 32, 33] (nx + 1) (fun r tm h _ => ∃ i : Nat, i ≤ l.length ∧ r = l.length - i ∧ tm 34 = .int .i64 i ∧ ∀ j, j < i → okI l kids j) l.length (by omega) ⟨0, Nat.zero_le _, rfl, rfl, fun j hj => absurd hj (Nat.not_lt_zero j)⟩ ?_
    rintro r tm' h' k' ⟨i, hi, rfl, h34, hp⟩ hag hh hk'
    by_cases hlt : i < l.length
    · have hd : decide ((i : Int) < (l.length : Int)) = true := decide_eq_true (by omega)
      have hw : IntKind.i64.wrap (i + 1) = ((i + 1 : Nat) : Int) := by rw [wrapI] <;> omega
      obtain ⟨x, hx0⟩ : ∃ x, l[i]? = some x := ⟨l[i], List.getElem?_eq_getElem hlt⟩
      have hx := itemB_get l i x hx0
      have hxd := getD_of (d := ((0, 0) : Int × Int)) hx0
      have hxr := hit.2 x (List.mem_of_getElem? hx0)
      by_cases hi0 : 0 < i
      · have f1 : decide (0 < (i : Int)) = true := decide_eq_true (by omega)
        have hw1 : IntKind.i64.wrap ((i : Int) - 1) = ((i - 1 : Nat) : Int) := by rw [wrapI] <;> omega
        obtain ⟨y, hy0⟩ : ∃ y, l[i - 1]? = some y := ⟨l[i - 1]'(by omega), List.getElem?_eq_getElem _⟩
        have hy := itemB_get l (i - 1) y hy0
        have hyd := getD_of (d := ((0, 0) : Int × Int)) hy0
        by_cases hq : x.1 ≤ y.1
        · have f2 : decide (x.1 ≤ y.1) = true := decide_eq_true hq
          rw [chk_bad (fun hok => by have := (hok.2.2.1 i hlt).1 hi0; rw [hxd, hyd] at this; omega)]
          have FX := Fx.mk (And.intro @hag <| And.intro @h34 <| And.intro @hh <| And.intro @hd <| And.intro @hx <| And.intro @e1 <| @e2)
          repeat (first | refine v_ ?_ | refine u_ ?_ | refine nl_ ?_ | (refine nz_ ?_; first | (show aWp _ _ _ _ _) | skip) | refine sq_ ?_ | refine rg_ ?_ | refine k_ ?_ | refine ct_ ?_ | refine cf_ ?_ | refine bk_ ?_ | refine sc_ ?_ | (refine sk_ ?_; first | (show aWp _ _ _ _ _) | skip) | (refine ex_ ?_; first | (show aWp _ _ _ _ _) | skip) | refine rt_ ?_)
          have FX := Fx.mk (And.intro @hag <| And.intro @h34 <| And.intro @hh <| And.intro @hx <| And.intro @e1 <| And.intro @e2 <| And.intro @f1 <| And.intro @f2 <| And.intro @hw1 <| @hy)
          refine W_draw mixed rfl rfl ?_
          repeat (first | refine dq_ ?_ | refine dr_ [nx, k'] ?_ | refine dm_ [nx, k'] ?_ | refine da_ [nx, k'] ?_ | refine ds_ [nx, k'] ?_ | refine dw_ [nx, k'] ?_ | refine dk_ ?_ | refine dn_ ?_)
          refine fun kd hkd => ?_
          simp only [List.length_cons, List.length_nil] at hkd
          first | (show aWp _ _ _ _ _) | skip
          have FX := Fx.mk (And.intro @hag <| @hh)
          repeat (first | refine v_ ?_ | refine u_ ?_ | refine nl_ ?_ | (refine nz_ ?_; first | (show aWp _ _ _ _ _) | skip) | refine sq_ ?_ | refine rg_ ?_ | refine k_ ?_ | refine ct_ ?_ | refine cf_ ?_ | refine bk_ ?_ | refine sc_ ?_ | (refine sk_ ?_; first | (show aWp _ _ _ _ _) | skip) | (refine ex_ ?_; first | (show aWp _ _ _ _ _) | skip) | refine rt_ ?_)
          (have FX := Fx.mk (And.intro @hag <| @hh); exact end_ Try.results17)
        · have f2 : decide (x.1 ≤ y.1) = false := decide_eq_false hq
          have FX := Fx.mk (And.intro @hag <| And.intro @h34 <| And.intro @hh <| And.intro @hd <| And.intro @hx <| And.intro @e1 <| @e2)
          repeat (first | refine v_ ?_ | refine u_ ?_ | refine nl_ ?_ | (refine nz_ ?_; first | (show aWp _ _ _ _ _) | skip) | refine sq_ ?_ | refine rg_ ?_ | refine k_ ?_ | refine ct_ ?_ | refine cf_ ?_ | refine bk_ ?_ | refine sc_ ?_ | (refine sk_ ?_; first | (show aWp _ _ _ _ _) | skip) | (refine ex_ ?_; first | (show aWp _ _ _ _ _) | skip) | refine rt_ ?_)
          have FX := Fx.mk (And.intro @hag <| And.intro @h34 <| And.intro @hh <| And.intro @hx <| And.intro @e1 <| And.intro @e2 <| And.intro @f3 <| And.intro @f1 <| And.intro @f2 <| And.intro @hw1 <| @hy)
          refine W_draw mixed rfl rfl ?_
          repeat (first | refine dq_ ?_ | refine dr_ [nx, k'] ?_ | refine dm_ [nx, k'] ?_ | refine da_ [nx, k'] ?_ | refine ds_ [nx, k'] ?_ | refine dw_ [nx, k'] ?_ | refine dk_ ?_ | refine dn_ ?_)
          refine fun kd hkd => ?_
          simp only [List.length_cons, List.length_nil] at hkd
          first | (show aWp _ _ _ _ _) | skip
          have FX := Fx.mk (And.intro @hag <| And.intro @h34 <| And.intro @hh <| @hw)
          repeat (first | refine v_ ?_ | refine u_ ?_ | refine nl_ ?_ | (refine nz_ ?_; first | (show aWp _ _ _ _ _) | skip) | refine sq_ ?_ | refine rg_ ?_ | refine k_ ?_ | refine ct_ ?_ | refine cf_ ?_ | refine bk_ ?_ | refine sc_ ?_ | (refine sk_ ?_; first | (show aWp _ _ _ _ _) | skip) | (refine ex_ ?_; first | (show aWp _ _ _ _ _) | skip) | refine rt_ ?_)
          refine ⟨l.length - (i + 1), by omega, ⟨i + 1, by omega, rfl, ?_, ?_⟩, ?_, ?_, by simp only; omega, rfl⟩
          · (have FX := Fx0; exact cl_)
          · intro j hj
            by_cases e : j < i
            · exact hp j e
            · obtain rfl : i = j := by omega
              exact ⟨(fun _ => by rw [hxd, hyd]; omega), fun h => absurd h (by omega)⟩
          · repeat (refine KAgree.upd rfl ?_)
            first | exact KAgree.refl _ _ | exact hag
          · exact (by have FX := Fx.mk (@hh); exact ha_)
      · have f1 : decide (0 < (i : Int)) = false := decide_eq_false (by omega)
        have FX := Fx.mk (And.intro @hag <| And.intro @h34 <| And.intro @hh <| And.intro @hd <| And.intro @hx <| And.intro @e1 <| @e2)
        repeat (first | refine v_ ?_ | refine u_ ?_ | refine nl_ ?_ | (refine nz_ ?_; first | (show aWp _ _ _ _ _) | skip) | refine sq_ ?_ | refine rg_ ?_ | refine k_ ?_ | refine ct_ ?_ | refine cf_ ?_ | refine bk_ ?_ | refine sc_ ?_ | (refine sk_ ?_; first | (show aWp _ _ _ _ _) | skip) | (refine ex_ ?_; first | (show aWp _ _ _ _ _) | skip) | refine rt_ ?_)
        have FX := Fx.mk (And.intro @hag <| And.intro @h34 <| And.intro @hh <| And.intro @hx <| And.intro @e1 <| And.intro @e2 <| And.intro @f3 <| @f1)
        refine W_draw mixed rfl rfl ?_
        repeat (first | refine dq_ ?_ | refine dr_ [nx, k'] ?_ | refine dm_ [nx, k'] ?_ | refine da_ [nx, k'] ?_ | refine ds_ [nx, k'] ?_ | refine dw_ [nx, k'] ?_ | refine dk_ ?_ | refine dn_ ?_)
        refine fun kd hkd => ?_
        simp only [List.length_cons, List.length_nil] at hkd
        first | (show aWp _ _ _ _ _) | skip
        have FX := Fx.mk (And.intro @hag <| And.intro @h34 <| And.intro @hh <| @hw)
        repeat (first | refine v_ ?_ | refine u_ ?_ | refine nl_ ?_ | (refine nz_ ?_; first | (show aWp _ _ _ _ _) | skip) | refine sq_ ?_ | refine rg_ ?_ | refine k_ ?_ | refine ct_ ?_ | refine cf_ ?_ | refine bk_ ?_ | refine sc_ ?_ | (refine sk_ ?_; first | (show aWp _ _ _ _ _) | skip) | (refine ex_ ?_; first | (show aWp _ _ _ _ _) | skip) | refine rt_ ?_)
        refine ⟨l.length - (i + 1), by omega, ⟨i + 1, by omega, rfl, ?_, ?_⟩, ?_, ?_, by simp only; omega, rfl⟩
        · (have FX := Fx0; exact cl_)
        · intro j hj
          by_cases e : j < i
          · exact hp j e
          · obtain rfl : i = j := by omega
            exact ⟨(fun h => absurd h hi0), fun h => absurd h (by omega)⟩
        · repeat (refine KAgree.upd rfl ?_)
          first | exact KAgree.refl _ _ | exact hag
        · exact (by have FX := Fx.mk (@hh); exact ha_)
    · obtain rfl : i = l.length := by omega
      have hd : decide ((l.length : Int) < (l.length : Int)) = false := by simp
      have FX := Fx.mk (And.intro @hag <| And.intro @h34 <| And.intro @hh <| And.intro @hd <| And.intro @e1 <| @e2)
      repeat (first | refine v_ ?_ | refine u_ ?_ | refine nl_ ?_ | (refine nz_ ?_; first | (show aWp _ _ _ _ _) | skip) | refine sq_ ?_ | refine rg_ ?_ | refine k_ ?_ | refine ct_ ?_ | refine cf_ ?_ | refine bk_ ?_ | refine sc_ ?_ | (refine sk_ ?_; first | (show aWp _ _ _ _ _) | skip) | (refine ex_ ?_; first | (show aWp _ _ _ _ _) | skip) | refine rt_ ?_)
      refine W_loopK [1, 66, 67] (nx + 1) (fun r tm h _ => ∃ i : Nat, i ≤ kids.length ∧ r = kids.length - i ∧ tm 68 = .int .i64 i ∧ ∀ j, j < i → okK kids j) kids.length (by omega) ⟨0, Nat.zero_le _, rfl, rfl, fun j hj => absurd hj (Nat.not_lt_zero j)⟩ ?_
      rintro r tm2 h2 k2 ⟨i, hi, rfl, h68, hp2⟩ hag2 hh2 hk2
      by_cases hlt : i < kids.length
      · exact absurd hlt (by omega)
      · obtain rfl : i = kids.length := by omega
        have hd : decide ((kids.length : Int) < (kids.length : Int)) = false := by simp
        rw [chk_ok ⟨by omega, hkk, hp, hp2⟩]
        have FX := Fx.mk (And.intro @hag2 <| And.intro @hag <| And.intro @h68 <| And.intro @hh2 <| And.intro @hh <| And.intro @hd <| And.intro @e1 <| @e2)
        repeat (first | refine v_ ?_ | refine u_ ?_ | refine nl_ ?_ | (refine nz_ ?_; first | (show aWp _ _ _ _ _) | skip) | refine sq_ ?_ | refine rg_ ?_ | refine k_ ?_ | refine ct_ ?_ | refine cf_ ?_ | refine bk_ ?_ | refine sc_ ?_ | (refine sk_ ?_; first | (show aWp _ _ _ _ _) | skip) | (refine ex_ ?_; first | (show aWp _ _ _ _ _) | skip) | refine rt_ ?_)
        (have FX := Fx.mk (And.intro @hag2 <| And.intro @hh2 <| @hh); exact end_ Try.results17)
end Go.Proofs.Ytcnofpoffdjbpaa.AE
