/- Lists that are one; is a number in a row? -/
import Derived.Test.YtcnofpoffdjbpaaC2
namespace Go.Proofs.Ytcnofpoffdjbpaa.AE
open Go Go.RowKit Go.Proofs Go.Proofs.Ytcnofpoffdjbpaa
set_option linter.unusedVariables false
set_option linter.unusedSimpArgs false
set_option maxRecDepth 100000
set_option maxHeartbeats 4000000
def itemB (l : List (Int × Int)) : List (List AV) := l.map fun x => [.int .u64 x.1, .int .u64 x.2]
theorem itemB_get (l : List (Int × Int)) (i : Nat) (x : Int × Int) (h : l[i]? = some x) : (itemB l)[i]? = some [.int .u64 x.1, .int .u64 x.2] := by simp [itemB, h]
theorem itemB_len (l : List (Int × Int)) : (itemB l).length = l.length := by simp [itemB]
theorem SameInts (a b : List Int) : aFun Try.prog 29 [.sl (numB .i64 a), .sl (numB .i64 b)] (.bool (decide (a = b))) := by
  have ea := numB_len .i64 a
  have eb := numB_len .i64 b
  by_cases hl : a.length = b.length
  · refine aFun_body Try.func29 rfl rfl (by simp [Try.ntmps29]) fun hreal h nx hfresh => ?_
    rw [Try.ntmps29]
    have hla : a.length < 4611686018427387904 := by
      have := (hreal (.sl (numB .i64 a)) (by simp)).sl.1
      rw [ea] at this
      exact this
    have hd : decide ((a.length : Int) = (b.length : Int)) = true := decide_eq_true (by omega)
    have FX := Fx.mk (And.intro @ea <| And.intro @eb <| @hd)
    repeat (first | refine v_ ?_ | refine u_ ?_ | refine nl_ ?_ | (refine nz_ ?_; first | (show aWp _ _ _ _ _) | skip) | refine sq_ ?_ | refine rg_ ?_ | refine k_ ?_ | refine ct_ ?_ | refine cf_ ?_ | refine bk_ ?_ | refine sc_ ?_ | (refine sk_ ?_; first | (show aWp _ _ _ _ _) | skip) | (refine ex_ ?_; first | (show aWp _ _ _ _ _) | skip) | refine rt_ ?_)
    refine W_loopK [0, 1] nx (fun r tm h _ => ∃ i : Nat, i ≤ a.length ∧ r = a.length - i ∧ tm 5 = .int .i64 i ∧ a.take i = b.take i) a.length (by omega) ⟨0, Nat.zero_le _, rfl, rfl, rfl⟩ ?_
    rintro r tm' h' k' ⟨i, hi, rfl, h5, hp⟩ hag hh hk'
    by_cases hlt : i < a.length
    · have hd2 : decide ((i : Int) < (a.length : Int)) = true := decide_eq_true (by omega)
      have hw : IntKind.i64.wrap (i + 1) = ((i + 1 : Nat) : Int) := by rw [wrapI] <;> omega
      obtain ⟨x, hx⟩ : ∃ x, a[i]? = some x := ⟨a[i], List.getElem?_eq_getElem hlt⟩
      obtain ⟨y, hy⟩ : ∃ y, b[i]? = some y := ⟨b[i]'(by omega), List.getElem?_eq_getElem _⟩
      have hx2 := numB_get .i64 a i x hx
      have hy2 := numB_get .i64 b i y hy
      by_cases hxy : x = y
      · subst hxy
        have FX := Fx.mk (And.intro @hag <| And.intro @h5 <| And.intro @hh <| And.intro @hd2 <| @ea)
        repeat (first | refine v_ ?_ | refine u_ ?_ | refine nl_ ?_ | (refine nz_ ?_; first | (show aWp _ _ _ _ _) | skip) | refine sq_ ?_ | refine rg_ ?_ | refine k_ ?_ | refine ct_ ?_ | refine cf_ ?_ | refine bk_ ?_ | refine sc_ ?_ | (refine sk_ ?_; first | (show aWp _ _ _ _ _) | skip) | (refine ex_ ?_; first | (show aWp _ _ _ _ _) | skip) | refine rt_ ?_)
        have FX := Fx.mk (And.intro @hag <| And.intro @h5 <| And.intro @hx2 <| And.intro @hy2 <| @decide_true)
        refine W_draw mixed rfl rfl ?_
        repeat (first | refine dq_ ?_ | refine dr_ [nx] ?_ | refine dm_ [nx] ?_ | refine da_ [nx] ?_ | refine ds_ [nx] ?_ | refine dw_ [nx] ?_ | refine dk_ ?_ | refine dn_ ?_)
        refine fun kd hkd => ?_
        simp only [List.length_cons, List.length_nil] at hkd
        first | (show aWp _ _ _ _ _) | skip
        have FX := Fx.mk (And.intro @hag <| And.intro @h5 <| And.intro @hh <| @hw)
        repeat (first | refine v_ ?_ | refine u_ ?_ | refine nl_ ?_ | (refine nz_ ?_; first | (show aWp _ _ _ _ _) | skip) | refine sq_ ?_ | refine rg_ ?_ | refine k_ ?_ | refine ct_ ?_ | refine cf_ ?_ | refine bk_ ?_ | refine sc_ ?_ | (refine sk_ ?_; first | (show aWp _ _ _ _ _) | skip) | (refine ex_ ?_; first | (show aWp _ _ _ _ _) | skip) | refine rt_ ?_)
        refine ⟨a.length - (i + 1), by omega, ⟨i + 1, by omega, rfl, ?_, ?_⟩, ?_, ?_, by simp only; omega, rfl⟩
        · (have FX := Fx0; exact cl_)
        · rw [List.take_add_one, List.take_add_one, hp, hx, hy]
        · repeat (refine KAgree.upd rfl ?_)
          first | exact KAgree.refl _ _ | exact hag
        · exact (by have FX := Fx.mk (@hh); exact ha_)
      · have hne : decide (a = b) = false := decide_eq_false (fun e => hxy (by subst e; rw [hx] at hy; exact Option.some.inj hy))
        rw [hne]
        have FX := Fx.mk (And.intro @hag <| And.intro @h5 <| And.intro @hh <| And.intro @hd2 <| @ea)
        repeat (first | refine v_ ?_ | refine u_ ?_ | refine nl_ ?_ | (refine nz_ ?_; first | (show aWp _ _ _ _ _) | skip) | refine sq_ ?_ | refine rg_ ?_ | refine k_ ?_ | refine ct_ ?_ | refine cf_ ?_ | refine bk_ ?_ | refine sc_ ?_ | (refine sk_ ?_; first | (show aWp _ _ _ _ _) | skip) | (refine ex_ ?_; first | (show aWp _ _ _ _ _) | skip) | refine rt_ ?_)
        have hdx : decide (x = y) = false := decide_eq_false hxy
        have FX := Fx.mk (And.intro @hag <| And.intro @h5 <| And.intro @hx2 <| And.intro @hy2 <| @hdx)
        refine W_draw mixed rfl rfl ?_
        repeat (first | refine dq_ ?_ | refine dr_ [nx] ?_ | refine dm_ [nx] ?_ | refine da_ [nx] ?_ | refine ds_ [nx] ?_ | refine dw_ [nx] ?_ | refine dk_ ?_ | refine dn_ ?_)
        refine fun kd hkd => ?_
        simp only [List.length_cons, List.length_nil] at hkd
        first | (show aWp _ _ _ _ _) | skip
        have FX := Fx.mk (And.intro @hag <| And.intro @h5 <| @hh)
        repeat (first | refine v_ ?_ | refine u_ ?_ | refine nl_ ?_ | (refine nz_ ?_; first | (show aWp _ _ _ _ _) | skip) | refine sq_ ?_ | refine rg_ ?_ | refine k_ ?_ | refine ct_ ?_ | refine cf_ ?_ | refine bk_ ?_ | refine sc_ ?_ | (refine sk_ ?_; first | (show aWp _ _ _ _ _) | skip) | (refine ex_ ?_; first | (show aWp _ _ _ _ _) | skip) | refine rt_ ?_)
        (have FX := Fx.mk (And.intro @hag <| @hh); exact end_ Try.results29)
    · obtain rfl : i = a.length := by omega
      have hd2 : decide ((a.length : Int) < (a.length : Int)) = false := by simp
      have he : decide (a = b) = true := decide_eq_true (by rwa [List.take_length, hl, List.take_length] at hp)
      rw [he]
      have FX := Fx.mk (And.intro @hag <| And.intro @h5 <| And.intro @hh <| And.intro @hd2 <| @ea)
      repeat (first | refine v_ ?_ | refine u_ ?_ | refine nl_ ?_ | (refine nz_ ?_; first | (show aWp _ _ _ _ _) | skip) | refine sq_ ?_ | refine rg_ ?_ | refine k_ ?_ | refine ct_ ?_ | refine cf_ ?_ | refine bk_ ?_ | refine sc_ ?_ | (refine sk_ ?_; first | (show aWp _ _ _ _ _) | skip) | (refine ex_ ?_; first | (show aWp _ _ _ _ _) | skip) | refine rt_ ?_)
      (have FX := Fx.mk (And.intro @hag <| @hh); exact end_ Try.results29)
  · rw [show decide (a = b) = false from decide_eq_false (fun e => hl (by rw [e]))]
    refine aFun_body Try.func29 rfl rfl (by simp [Try.ntmps29]) fun hreal h nx hfresh => ?_
    rw [Try.ntmps29]
    have hd : decide ((a.length : Int) = (b.length : Int)) = false := decide_eq_false (by omega)
    have FX := Fx.mk (And.intro @ea <| And.intro @eb <| @hd)
    repeat (first | refine v_ ?_ | refine u_ ?_ | refine nl_ ?_ | (refine nz_ ?_; first | (show aWp _ _ _ _ _) | skip) | refine sq_ ?_ | refine rg_ ?_ | refine k_ ?_ | refine ct_ ?_ | refine cf_ ?_ | refine bk_ ?_ | refine sc_ ?_ | (refine sk_ ?_; first | (show aWp _ _ _ _ _) | skip) | (refine ex_ ?_; first | (show aWp _ _ _ _ _) | skip) | refine rt_ ?_)
    (have FX := Fx0; exact end_ Try.results29)
theorem SameItems (a b : List (Int × Int)) : aFun Try.prog 28 [.sl (itemB a), .sl (itemB b)] (.bool (decide (a = b))) := by
  have ea := itemB_len a
  have eb := itemB_len b
  by_cases hl : a.length = b.length
  · refine aFun_body Try.func28 rfl rfl (by simp [Try.ntmps28]) fun hreal h nx hfresh => ?_
    rw [Try.ntmps28]
    have hla : a.length < 4611686018427387904 := by
      have := (hreal (.sl (itemB a)) (by simp)).sl.1
      rw [ea] at this
      exact this
    have hd : decide ((a.length : Int) = (b.length : Int)) = true := decide_eq_true (by omega)
    have FX := Fx.mk (And.intro @ea <| And.intro @eb <| @hd)
    repeat (first | refine v_ ?_ | refine u_ ?_ | refine nl_ ?_ | (refine nz_ ?_; first | (show aWp _ _ _ _ _) | skip) | refine sq_ ?_ | refine rg_ ?_ | refine k_ ?_ | refine ct_ ?_ | refine cf_ ?_ | refine bk_ ?_ | refine sc_ ?_ | (refine sk_ ?_; first | (show aWp _ _ _ _ _) | skip) | (refine ex_ ?_; first | (show aWp _ _ _ _ _) | skip) | refine rt_ ?_)
    refine W_loopK [0, 1] nx (fun r tm h _ => ∃ i : Nat, i ≤ a.length ∧ r = a.length - i ∧ tm 5 = .int .i64 i ∧ a.take i = b.take i) a.length (by omega) ⟨0, Nat.zero_le _, rfl, rfl, rfl⟩ ?_
    rintro r tm' h' k' ⟨i, hi, rfl, h5, hp⟩ hag hh hk'
    by_cases hlt : i < a.length
    · have hd2 : decide ((i : Int) < (a.length : Int)) = true := decide_eq_true (by omega)
      have hw : IntKind.i64.wrap (i + 1) = ((i + 1 : Nat) : Int) := by rw [wrapI] <;> omega
      obtain ⟨x, hx⟩ : ∃ x, a[i]? = some x := ⟨a[i], List.getElem?_eq_getElem hlt⟩
      obtain ⟨y, hy⟩ : ∃ y, b[i]? = some y := ⟨b[i]'(by omega), List.getElem?_eq_getElem _⟩
      have hx2 := itemB_get a i x hx
      have hy2 := itemB_get b i y hy
      by_cases hxy : x = y
      · subst hxy
        have FX := Fx.mk (And.intro @hag <| And.intro @h5 <| And.intro @hh <| And.intro @hd2 <| @ea)
        repeat (first | refine v_ ?_ | refine u_ ?_ | refine nl_ ?_ | (refine nz_ ?_; first | (show aWp _ _ _ _ _) | skip) | refine sq_ ?_ | refine rg_ ?_ | refine k_ ?_ | refine ct_ ?_ | refine cf_ ?_ | refine bk_ ?_ | refine sc_ ?_ | (refine sk_ ?_; first | (show aWp _ _ _ _ _) | skip) | (refine ex_ ?_; first | (show aWp _ _ _ _ _) | skip) | refine rt_ ?_)
        have FX := Fx.mk (And.intro @hag <| And.intro @h5 <| And.intro @hx2 <| And.intro @hy2 <| @decide_true)
        refine W_draw mixed rfl rfl ?_
        repeat (first | refine dq_ ?_ | refine dr_ [nx] ?_ | refine dm_ [nx] ?_ | refine da_ [nx] ?_ | refine ds_ [nx] ?_ | refine dw_ [nx] ?_ | refine dk_ ?_ | refine dn_ ?_)
        refine fun kd hkd => ?_
        simp only [List.length_cons, List.length_nil] at hkd
        first | (show aWp _ _ _ _ _) | skip
        have FX := Fx.mk (And.intro @hag <| And.intro @h5 <| And.intro @hh <| @hw)
        repeat (first | refine v_ ?_ | refine u_ ?_ | refine nl_ ?_ | (refine nz_ ?_; first | (show aWp _ _ _ _ _) | skip) | refine sq_ ?_ | refine rg_ ?_ | refine k_ ?_ | refine ct_ ?_ | refine cf_ ?_ | refine bk_ ?_ | refine sc_ ?_ | (refine sk_ ?_; first | (show aWp _ _ _ _ _) | skip) | (refine ex_ ?_; first | (show aWp _ _ _ _ _) | skip) | refine rt_ ?_)
        refine ⟨a.length - (i + 1), by omega, ⟨i + 1, by omega, rfl, ?_, ?_⟩, ?_, ?_, by simp only; omega, rfl⟩
        · (have FX := Fx0; exact cl_)
        · rw [List.take_add_one, List.take_add_one, hp, hx, hy]
        · repeat (refine KAgree.upd rfl ?_)
          first | exact KAgree.refl _ _ | exact hag
        · exact (by have FX := Fx.mk (@hh); exact ha_)
      · have hne : decide (a = b) = false := decide_eq_false (fun e => hxy (by subst e; rw [hx] at hy; exact Option.some.inj hy))
        rw [hne]
        have FX := Fx.mk (And.intro @hag <| And.intro @h5 <| And.intro @hh <| And.intro @hd2 <| @ea)
        repeat (first | refine v_ ?_ | refine u_ ?_ | refine nl_ ?_ | (refine nz_ ?_; first | (show aWp _ _ _ _ _) | skip) | refine sq_ ?_ | refine rg_ ?_ | refine k_ ?_ | refine ct_ ?_ | refine cf_ ?_ | refine bk_ ?_ | refine sc_ ?_ | (refine sk_ ?_; first | (show aWp _ _ _ _ _) | skip) | (refine ex_ ?_; first | (show aWp _ _ _ _ _) | skip) | refine rt_ ?_)
        by_cases h1 : x.1 = y.1
        · have h2 : decide (x.2 = y.2) = false := decide_eq_false (fun e => hxy (Prod.ext h1 e))
          have h1' : decide (x.1 = y.1) = true := decide_eq_true h1
          have FX := Fx.mk (And.intro @hag <| And.intro @h5 <| And.intro @hx2 <| And.intro @hy2 <| And.intro @h1' <| @h2)
          refine W_draw mixed rfl rfl ?_
          repeat (first | refine dq_ ?_ | refine dr_ [nx] ?_ | refine dm_ [nx] ?_ | refine da_ [nx] ?_ | refine ds_ [nx] ?_ | refine dw_ [nx] ?_ | refine dk_ ?_ | refine dn_ ?_)
          refine fun kd hkd => ?_
          simp only [List.length_cons, List.length_nil] at hkd
          first | (show aWp _ _ _ _ _) | skip
          have FX := Fx.mk (And.intro @hag <| And.intro @h5 <| @hh)
          repeat (first | refine v_ ?_ | refine u_ ?_ | refine nl_ ?_ | (refine nz_ ?_; first | (show aWp _ _ _ _ _) | skip) | refine sq_ ?_ | refine rg_ ?_ | refine k_ ?_ | refine ct_ ?_ | refine cf_ ?_ | refine bk_ ?_ | refine sc_ ?_ | (refine sk_ ?_; first | (show aWp _ _ _ _ _) | skip) | (refine ex_ ?_; first | (show aWp _ _ _ _ _) | skip) | refine rt_ ?_)
          (have FX := Fx.mk (And.intro @hag <| @hh); exact end_ Try.results28)
        · have h1' : decide (x.1 = y.1) = false := decide_eq_false h1
          have FX := Fx.mk (And.intro @hag <| And.intro @h5 <| And.intro @hx2 <| And.intro @hy2 <| @h1')
          refine W_draw mixed rfl rfl ?_
          repeat (first | refine dq_ ?_ | refine dr_ [nx] ?_ | refine dm_ [nx] ?_ | refine da_ [nx] ?_ | refine ds_ [nx] ?_ | refine dw_ [nx] ?_ | refine dk_ ?_ | refine dn_ ?_)
          refine fun kd hkd => ?_
          simp only [List.length_cons, List.length_nil] at hkd
          first | (show aWp _ _ _ _ _) | skip
          have FX := Fx.mk (And.intro @hag <| And.intro @h5 <| @hh)
          repeat (first | refine v_ ?_ | refine u_ ?_ | refine nl_ ?_ | (refine nz_ ?_; first | (show aWp _ _ _ _ _) | skip) | refine sq_ ?_ | refine rg_ ?_ | refine k_ ?_ | refine ct_ ?_ | refine cf_ ?_ | refine bk_ ?_ | refine sc_ ?_ | (refine sk_ ?_; first | (show aWp _ _ _ _ _) | skip) | (refine ex_ ?_; first | (show aWp _ _ _ _ _) | skip) | refine rt_ ?_)
          (have FX := Fx.mk (And.intro @hag <| @hh); exact end_ Try.results28)
    · obtain rfl : i = a.length := by omega
      have hd2 : decide ((a.length : Int) < (a.length : Int)) = false := by simp
      have he : decide (a = b) = true := decide_eq_true (by rwa [List.take_length, hl, List.take_length] at hp)
      rw [he]
      have FX := Fx.mk (And.intro @hag <| And.intro @h5 <| And.intro @hh <| And.intro @hd2 <| @ea)
      repeat (first | refine v_ ?_ | refine u_ ?_ | refine nl_ ?_ | (refine nz_ ?_; first | (show aWp _ _ _ _ _) | skip) | refine sq_ ?_ | refine rg_ ?_ | refine k_ ?_ | refine ct_ ?_ | refine cf_ ?_ | refine bk_ ?_ | refine sc_ ?_ | (refine sk_ ?_; first | (show aWp _ _ _ _ _) | skip) | (refine ex_ ?_; first | (show aWp _ _ _ _ _) | skip) | refine rt_ ?_)
      (have FX := Fx.mk (And.intro @hag <| @hh); exact end_ Try.results28)
  · rw [show decide (a = b) = false from decide_eq_false (fun e => hl (by rw [e]))]
    refine aFun_body Try.func28 rfl rfl (by simp [Try.ntmps28]) fun hreal h nx hfresh => ?_
    rw [Try.ntmps28]
    have hd : decide ((a.length : Int) = (b.length : Int)) = false := decide_eq_false (by omega)
    have FX := Fx.mk (And.intro @ea <| And.intro @eb <| @hd)
    repeat (first | refine v_ ?_ | refine u_ ?_ | refine nl_ ?_ | (refine nz_ ?_; first | (show aWp _ _ _ _ _) | skip) | refine sq_ ?_ | refine rg_ ?_ | refine k_ ?_ | refine ct_ ?_ | refine cf_ ?_ | refine bk_ ?_ | refine sc_ ?_ | (refine sk_ ?_; first | (show aWp _ _ _ _ _) | skip) | (refine ex_ ?_; first | (show aWp _ _ _ _ _) | skip) | refine rt_ ?_)
    (have FX := Fx0; exact end_ Try.results28)
theorem Index_int (l : List Int) (x : Int) : aFun Try.prog 43 [.sl (numB .i64 l), .int .i64 x] (.int .i64 (if x ∈ l then (l.idxOf x : Int) else -1)) := by
  refine aFun_body Try.func43 rfl rfl (by simp [Try.ntmps43]) fun hreal h nx hfresh => ?_
  rw [Try.ntmps43]
  have hla := (hreal (.sl (numB .i64 l)) (by simp)).num.1
  have FX := Fx0
  repeat (first | refine v_ ?_ | refine u_ ?_ | refine nl_ ?_ | (refine nz_ ?_; first | (show aWp _ _ _ _ _) | skip) | refine sq_ ?_ | refine rg_ ?_ | refine k_ ?_ | refine ct_ ?_ | refine cf_ ?_ | refine bk_ ?_ | refine sc_ ?_ | (refine sk_ ?_; first | (show aWp _ _ _ _ _) | skip) | (refine ex_ ?_; first | (show aWp _ _ _ _ _) | skip) | refine rt_ ?_)
  refine W_loopK [0, 1, 7] nx (fun r tm h _ => ∃ i : Nat, i ≤ l.length ∧ r = l.length - i ∧ tm 8 = .int .i64 i ∧ x ∉ l.take i) l.length (by omega) ⟨0, Nat.zero_le _, rfl, rfl, by simp⟩ ?_
  rintro r tm' h' k' ⟨i, hi, rfl, h8, hp⟩ hag hh hk'
  by_cases hlt : i < l.length
  · have hd : decide ((i : Int) < (l.length : Int)) = true := decide_eq_true (by omega)
    have hw : IntKind.i64.wrap (i + 1) = ((i + 1 : Nat) : Int) := by rw [wrapI] <;> omega
    obtain ⟨y, hy⟩ : ∃ y, l[i]? = some y := ⟨l[i], List.getElem?_eq_getElem hlt⟩
    by_cases hxy : x = y
    · subst hxy
      have hm : x ∈ l := List.mem_of_getElem? hy
      have hix : l.idxOf x = i := by
        have h1 : l = l.take i ++ x :: l.drop (i + 1) := by
          conv => lhs; rw [← List.take_append_drop i l, List.drop_eq_getElem_cons hlt]
          rw [List.getElem?_eq_getElem hlt] at hy
          rw [Option.some.inj hy]
        rw [h1, List.idxOf_append, if_neg hp, List.idxOf_cons_self]
        simp
        omega
      have hv : (if x ∈ l then (l.idxOf x : Int) else -1) = (i : Int) := by rw [if_pos hm, hix]
      rw [hv]
      have FX := Fx.mk (And.intro @hag <| And.intro @h8 <| And.intro @hh <| And.intro @hd <| And.intro @hy <| @decide_true)
      repeat (first | refine v_ ?_ | refine u_ ?_ | refine nl_ ?_ | (refine nz_ ?_; first | (show aWp _ _ _ _ _) | skip) | refine sq_ ?_ | refine rg_ ?_ | refine k_ ?_ | refine ct_ ?_ | refine cf_ ?_ | refine bk_ ?_ | refine sc_ ?_ | (refine sk_ ?_; first | (show aWp _ _ _ _ _) | skip) | (refine ex_ ?_; first | (show aWp _ _ _ _ _) | skip) | refine rt_ ?_)
      (have FX := Fx.mk (And.intro @hag <| @hh); exact end_ Try.results43)
    · have hdx : decide (x = y) = false := decide_eq_false hxy
      have FX := Fx.mk (And.intro @hag <| And.intro @h8 <| And.intro @hh <| And.intro @hd <| And.intro @hw <| And.intro @hy <| @hdx)
      repeat (first | refine v_ ?_ | refine u_ ?_ | refine nl_ ?_ | (refine nz_ ?_; first | (show aWp _ _ _ _ _) | skip) | refine sq_ ?_ | refine rg_ ?_ | refine k_ ?_ | refine ct_ ?_ | refine cf_ ?_ | refine bk_ ?_ | refine sc_ ?_ | (refine sk_ ?_; first | (show aWp _ _ _ _ _) | skip) | (refine ex_ ?_; first | (show aWp _ _ _ _ _) | skip) | refine rt_ ?_)
      refine ⟨l.length - (i + 1), by omega, ⟨i + 1, by omega, rfl, ?_, ?_⟩, ?_, ?_, by simp only; omega, rfl⟩
      · (have FX := Fx0; exact cl_)
      · rw [List.take_add_one, hy]
        simpa using ⟨hp, hxy⟩
      · repeat (refine KAgree.upd rfl ?_)
        first | exact KAgree.refl _ _ | exact hag
      · exact (by have FX := Fx.mk (@hh); exact ha_)
  · obtain rfl : i = l.length := by omega
    have hd : decide ((l.length : Int) < (l.length : Int)) = false := by simp
    rw [List.take_length] at hp
    rw [if_neg hp]
    have FX := Fx.mk (And.intro @hag <| And.intro @h8 <| And.intro @hh <| @hd)
    repeat (first | refine v_ ?_ | refine u_ ?_ | refine nl_ ?_ | (refine nz_ ?_; first | (show aWp _ _ _ _ _) | skip) | refine sq_ ?_ | refine rg_ ?_ | refine k_ ?_ | refine ct_ ?_ | refine cf_ ?_ | refine bk_ ?_ | refine sc_ ?_ | (refine sk_ ?_; first | (show aWp _ _ _ _ _) | skip) | (refine ex_ ?_; first | (show aWp _ _ _ _ _) | skip) | refine rt_ ?_)
    (have FX := Fx.mk (And.intro @hag <| @hh); exact end_ Try.results43)
theorem Contains_int (l : List Int) (x : Int) : aFun Try.prog 30 [.sl (numB .i64 l), .int .i64 x] (.bool (decide (x ∈ l))) := by
  have hi := Index_int l x
  by_cases hx : x ∈ l
  · rw [if_pos hx] at hi
    refine aFun_body Try.func30 rfl rfl (by simp [Try.ntmps30]) fun hreal h nx hfresh => ?_
    rw [Try.ntmps30]
    have hd : decide ((0 : Int) ≤ (l.idxOf x : Int)) = true := decide_eq_true (by omega)
    have hx' : decide (x ∈ l) = true := decide_eq_true hx
    have FX := Fx.mk (@hd)
    repeat (first | refine v_ ?_ | refine u_ ?_ | refine f_ (hi) fun kf hkf => ?_ | refine nl_ ?_ | (refine nz_ ?_; first | (show aWp _ _ _ _ _) | skip) | refine sq_ ?_ | refine rg_ ?_ | refine k_ ?_ | refine ct_ ?_ | refine cf_ ?_ | refine bk_ ?_ | refine sc_ ?_ | (refine sk_ ?_; first | (show aWp _ _ _ _ _) | skip) | (refine ex_ ?_; first | (show aWp _ _ _ _ _) | skip) | refine rt_ ?_)
    (have FX := Fx.mk (@hx'); exact end_ Try.results30)
  · rw [if_neg hx] at hi
    refine aFun_body Try.func30 rfl rfl (by simp [Try.ntmps30]) fun hreal h nx hfresh => ?_
    rw [Try.ntmps30]
    have hd : decide ((0 : Int) ≤ -1) = false := rfl
    have hx' : decide (x ∈ l) = false := decide_eq_false hx
    have FX := Fx.mk (@hd)
    repeat (first | refine v_ ?_ | refine u_ ?_ | refine f_ (hi) fun kf hkf => ?_ | refine nl_ ?_ | (refine nz_ ?_; first | (show aWp _ _ _ _ _) | skip) | refine sq_ ?_ | refine rg_ ?_ | refine k_ ?_ | refine ct_ ?_ | refine cf_ ?_ | refine bk_ ?_ | refine sc_ ?_ | (refine sk_ ?_; first | (show aWp _ _ _ _ _) | skip) | (refine ex_ ?_; first | (show aWp _ _ _ _ _) | skip) | refine rt_ ?_)
    (have FX := Fx.mk (@hx'); exact end_ Try.results30)
end Go.Proofs.Ytcnofpoffdjbpaa.AE
