/- Texts S1, S2, S3, S4. -/
import Derived.Test.YtjidgdfdeckofaaDoorV13
import Derived.Test.YtjidgdfdeckofaaDoorV7
import Derived.Test.YtjidgdfdeckofaaDoorV5
/- Layer 4 and its page: the fields, Check, Places. -/
namespace Go.Proofs.YtjidgdfdeckofaaDoor.AE
open Go Go.RowKit Go.Proofs Go.Proofs.YtjidgdfdeckofaaDoor
set_option linter.unusedVariables false
set_option linter.unusedSimpArgs false
set_option maxRecDepth 100000
set_option maxHeartbeats 8000000
theorem super_fields (s : Sup) (n : Nat) {h : AHeap} {nx : Nat} (hn : h n = some ⟨7, [s.cells]⟩) : aOwnH Tryd.prog 49 [.ptr n 0 0] h nx 4 (Sup.fld n s.p) := by
  unfold Sup.cells at hn
  unfold Sup.fld
  refine aOwnH_body Tryd.func49 rfl rfl (by simp [Tryd.ntmps49]) fun hreal hfresh => ?_
  rw [Tryd.ntmps49]
  have FX := Fx.mk (@hn)
  repeat (first | refine v_ ?_ | refine u_ ?_ | refine nl_ ?_ | (refine nz_ ?_; first | (show aWp _ _ _ _ _) | skip) | refine sq_ ?_ | refine rg_ ?_ | refine k_ ?_ | refine ct_ ?_ | refine cf_ ?_ | refine bk_ ?_ | refine sc_ ?_ | (refine sk_ ?_; first | (show aWp _ _ _ _ _) | skip) | (refine ex_ ?_; first | (show aWp _ _ _ _ _) | skip) | refine rt_ ?_)
  have FX := Fx.mk (And.intro @hn <| @NL)
  refine W_draw mixed rfl rfl ?_
  repeat (first | refine dq_ ?_ | refine dr_ [n] ?_ | refine dm_ [n] ?_ | refine da_ [n] ?_ | refine ds_ [n] ?_ | refine dw_ [n] ?_ | refine dk_ ?_ | refine dn_ ?_)
  refine fun kd hkd => ?_
  simp only [List.length_cons, List.length_nil] at hkd
  first | (show aWp _ _ _ _ _) | skip
  have FX := Fx0
  repeat (first | refine v_ ?_ | refine u_ ?_ | refine nl_ ?_ | (refine nz_ ?_; first | (show aWp _ _ _ _ _) | skip) | refine sq_ ?_ | refine rg_ ?_ | refine k_ ?_ | refine ct_ ?_ | refine cf_ ?_ | refine bk_ ?_ | refine sc_ ?_ | (refine sk_ ?_; first | (show aWp _ _ _ _ _) | skip) | (refine ex_ ?_; first | (show aWp _ _ _ _ _) | skip) | refine rt_ ?_)
  (have FX := Fx0; exact endo_ (rest := []) (nx + (1 + 1 + 1 + 1 + 1 + 1 + 1 + 1 + 1 + 1 + 1 + 1 + 1 + 1 + 1 + 1 + 1 + 1 + 1 + 1 + 1 + 1 + 1 + 1 + 1 + 1 + 1 + 1 + 1 + 1 + 1 + 1)) Tryd.results49)
theorem super_Check (s : Sup) : aFun Tryd.prog 26 [s.av] (.int .i64 s.chk) := by
  have cl : s.cells.length = 7 := rfl
  have ce : s.cells = [.int .i64 s.e, .int .i64 s.v, .int .i64 s.j, .int .i64 s.p, .int .i64 s.d, .int .i64 s.s, .int .i64 s.r] := rfl
  unfold Sup.av
  refine aFun_body Tryd.func26 rfl rfl (by simp [Tryd.ntmps26]) fun hreal h nx hfresh => ?_
  rw [Tryd.ntmps26]
  rw [ce]
  have FX := Fx0
  repeat (first | refine v_ ?_ | refine u_ ?_ | refine nl_ ?_ | (refine nz_ ?_; first | (show aWp _ _ _ _ _) | skip) | refine sq_ ?_ | refine rg_ ?_ | refine k_ ?_ | refine ct_ ?_ | refine cf_ ?_ | refine bk_ ?_ | refine sc_ ?_ | (refine sk_ ?_; first | (show aWp _ _ _ _ _) | skip) | (refine ex_ ?_; first | (show aWp _ _ _ _ _) | skip) | refine rt_ ?_)
  rw [← ce]
  have FX := Fx0
  repeat (first | refine v_ ?_ | refine u_ ?_ | refine oh_ (super_fields s nx (by exact cl_)) fun mf kf hmf hkf => ?_ | refine nl_ ?_ | (refine nz_ ?_; first | (show aWp _ _ _ _ _) | skip) | refine sq_ ?_ | refine rg_ ?_ | refine k_ ?_ | refine ct_ ?_ | refine cf_ ?_ | refine bk_ ?_ | refine sc_ ?_ | (refine sk_ ?_; first | (show aWp _ _ _ _ _) | skip) | (refine ex_ ?_; first | (show aWp _ _ _ _ _) | skip) | refine rt_ ?_)
  have fln : (Sup.fld nx s.p).length = 7 := rfl
  refine W_loopK [1, 5, 6] kf (fun r tm h q => ∃ i : Nat, i ≤ 7 ∧ r = 7 - i ∧ tm 7 = .int .i64 i ∧ ∀ j, j < i → Sup.low j ≤ s.val j ∧ s.val j ≤ Sup.high s.p j) 7 (by omega) ⟨0, by omega, rfl, by (have FX := Fx0; exact cl_), fun j hj => absurd hj (Nat.not_lt_zero j)⟩ ?_
  rintro r tm' h' k' ⟨i, hi, rfl, h7, hall⟩ hag hh hk'
  have b1 : h' nx = some ⟨7, [s.cells]⟩ := by rw [hh nx (by omega)]; (have FX := Fx0; exact cl_)
  have b2 : h' mf = some ⟨4, Sup.fld nx s.p⟩ := by rw [hh mf (by omega)]; (have FX := Fx0; exact cl_)
  by_cases hlt : i < 7
  · have f0 := Sup.fld_get nx s.p i hlt
    have f1 := Sup.cells_drop s i hlt
    have hd : decide ((i : Int) < ((7 : Nat) : Int)) = true := decide_eq_true (by omega)
    have hw : IntKind.i64.wrap (i + 1) = ((i + 1 : Nat) : Int) := by rw [wrapI] <;> omega
    have hi7 : (i : Int) < 7 := by omega
    have hi0 : (0 : Int) ≤ i := by omega
    have FX := Fx.mk (And.intro @hag <| And.intro @h7 <| And.intro @fln <| And.intro @b1 <| And.intro @b2 <| And.intro @hd <| @f0)
    repeat (first | refine v_ ?_ | refine u_ ?_ | refine nl_ ?_ | (refine nz_ ?_; first | (show aWp _ _ _ _ _) | skip) | refine sq_ ?_ | refine rg_ ?_ | refine k_ ?_ | refine ct_ ?_ | refine cf_ ?_ | refine bk_ ?_ | refine sc_ ?_ | (refine sk_ ?_; first | (show aWp _ _ _ _ _) | skip) | (refine ex_ ?_; first | (show aWp _ _ _ _ _) | skip) | refine rt_ ?_)
    by_cases c1 : s.val i < Sup.low i
    · have d1 : decide (s.val i < Sup.low i) = true := decide_eq_true c1
      have FX := Fx.mk (And.intro @b1 <| And.intro @f1 <| And.intro @d1 <| @NL)
      refine W_draw mixed rfl rfl ?_
      repeat (first | refine dq_ ?_ | refine dr_ [k', nx] ?_ | refine dm_ [k', nx] ?_ | refine da_ [k', nx] ?_ | refine ds_ [k', nx] ?_ | refine dw_ [k', nx] ?_ | refine dk_ ?_ | refine dn_ ?_)
      refine fun kd hkd => ?_
      simp only [List.length_cons, List.length_nil] at hkd
      first | (show aWp _ _ _ _ _) | skip
      have FX := Fx0
      repeat (first | refine v_ ?_ | refine u_ ?_ | refine nl_ ?_ | (refine nz_ ?_; first | (show aWp _ _ _ _ _) | skip) | refine sq_ ?_ | refine rg_ ?_ | refine k_ ?_ | refine ct_ ?_ | refine cf_ ?_ | refine bk_ ?_ | refine sc_ ?_ | (refine sk_ ?_; first | (show aWp _ _ _ _ _) | skip) | (refine ex_ ?_; first | (show aWp _ _ _ _ _) | skip) | refine rt_ ?_)
      have hno : s.chk = 4 := if_neg fun q => absurd (q i hlt).1 (by omega)
      (have FX := Fx.mk (And.intro @hno <| @hh); exact end_ Tryd.results26)
    have d1 : decide (s.val i < Sup.low i) = false := decide_eq_false c1
    by_cases c2 : Sup.high s.p i < s.val i
    · have d2 : decide (Sup.high s.p i < s.val i) = true := decide_eq_true c2
      have FX := Fx.mk (And.intro @b1 <| And.intro @f1 <| And.intro @d1 <| And.intro @d2 <| @NL)
      refine W_draw mixed rfl rfl ?_
      repeat (first | refine dq_ ?_ | refine dr_ [k', nx] ?_ | refine dm_ [k', nx] ?_ | refine da_ [k', nx] ?_ | refine ds_ [k', nx] ?_ | refine dw_ [k', nx] ?_ | refine dk_ ?_ | refine dn_ ?_)
      refine fun kd hkd => ?_
      simp only [List.length_cons, List.length_nil] at hkd
      first | (show aWp _ _ _ _ _) | skip
      have FX := Fx0
      repeat (first | refine v_ ?_ | refine u_ ?_ | refine nl_ ?_ | (refine nz_ ?_; first | (show aWp _ _ _ _ _) | skip) | refine sq_ ?_ | refine rg_ ?_ | refine k_ ?_ | refine ct_ ?_ | refine cf_ ?_ | refine bk_ ?_ | refine sc_ ?_ | (refine sk_ ?_; first | (show aWp _ _ _ _ _) | skip) | (refine ex_ ?_; first | (show aWp _ _ _ _ _) | skip) | refine rt_ ?_)
      have hno : s.chk = 4 := if_neg fun q => absurd (q i hlt).2 (by omega)
      (have FX := Fx.mk (And.intro @hno <| @hh); exact end_ Tryd.results26)
    have d2 : decide (Sup.high s.p i < s.val i) = false := decide_eq_false c2
    have FX := Fx.mk (And.intro @b1 <| And.intro @f1 <| And.intro @d1 <| And.intro @d2 <| @NL)
    refine W_draw mixed rfl rfl ?_
    repeat (first | refine dq_ ?_ | refine dr_ [k', nx] ?_ | refine dm_ [k', nx] ?_ | refine da_ [k', nx] ?_ | refine ds_ [k', nx] ?_ | refine dw_ [k', nx] ?_ | refine dk_ ?_ | refine dn_ ?_)
    refine fun kd hkd => ?_
    simp only [List.length_cons, List.length_nil] at hkd
    first | (show aWp _ _ _ _ _) | skip
    have FX := Fx.mk (And.intro @hag <| And.intro @h7 <| @hw)
    repeat (first | refine v_ ?_ | refine u_ ?_ | refine nl_ ?_ | (refine nz_ ?_; first | (show aWp _ _ _ _ _) | skip) | refine sq_ ?_ | refine rg_ ?_ | refine k_ ?_ | refine ct_ ?_ | refine cf_ ?_ | refine bk_ ?_ | refine sc_ ?_ | (refine sk_ ?_; first | (show aWp _ _ _ _ _) | skip) | (refine ex_ ?_; first | (show aWp _ _ _ _ _) | skip) | refine rt_ ?_)
    refine ⟨7 - (i + 1), by omega, ⟨i + 1, by omega, rfl, by (have FX := Fx0; exact cl_), fun j hj => ?_⟩, ?_, ?_, by first | omega | (simp only; omega), rfl⟩
    · by_cases e : j = i
      · subst e; exact ⟨by omega, by omega⟩
      · exact hall j (by omega)
    · repeat (refine KAgree.upd rfl ?_)
      first | exact KAgree.refl _ _ | exact hag
    · exact (by have FX := Fx.mk (@hh); exact ha_)
  obtain rfl : i = 7 := by omega
  have hd : decide (((7 : Nat) : Int) < ((7 : Nat) : Int)) = false := rfl
  have FX := Fx.mk (And.intro @hag <| And.intro @h7 <| And.intro @fln <| @hd)
  repeat (first | refine v_ ?_ | refine u_ ?_ | refine nl_ ?_ | (refine nz_ ?_; first | (show aWp _ _ _ _ _) | skip) | refine sq_ ?_ | refine rg_ ?_ | refine k_ ?_ | refine ct_ ?_ | refine cf_ ?_ | refine bk_ ?_ | refine sc_ ?_ | (refine sk_ ?_; first | (show aWp _ _ _ _ _) | skip) | (refine ex_ ?_; first | (show aWp _ _ _ _ _) | skip) | refine rt_ ?_)
  have hyes : s.chk = 0 := if_pos hall
  (have FX := Fx.mk (And.intro @hyes <| @hh); exact end_ Tryd.results26)
#print axioms super_Check
end Go.Proofs.YtjidgdfdeckofaaDoor.AE

/- Layer 4: Places, both; the page's Check; HasPrefix, Trim. -/

namespace Go.Proofs.YtjidgdfdeckofaaDoor.AE
open Go Go.RowKit Go.Proofs Go.Proofs.YtjidgdfdeckofaaDoor
set_option linter.unusedVariables false
set_option linter.unusedSimpArgs false
set_option maxRecDepth 100000
set_option maxHeartbeats 8000000
def w64 (n : Int) : Int := IntKind.i64.wrap n
/-- Where all stands. -/
def Sup.places (s : Sup) : AV := .tup [.int .i64 2, .int .i64 (w64 (2 + s.j)), .int .i64 (w64 (w64 (2 + s.j) + s.p)), .int .i64 (w64 (w64 (w64 (2 + s.j) + s.p) + s.d))]
theorem super_Places (s : Sup) : aFun Tryd.prog 15 [s.av] s.places := by
  unfold Sup.av Sup.cells Sup.places w64
  refine aFun_body Tryd.func15 rfl rfl (by simp [Tryd.ntmps15]) fun hreal h nx hfresh => ?_
  rw [Tryd.ntmps15]
  have FX := Fx0
  repeat (first | refine v_ ?_ | refine u_ ?_ | refine nl_ ?_ | (refine nz_ ?_; first | (show aWp _ _ _ _ _) | skip) | refine sq_ ?_ | refine rg_ ?_ | refine k_ ?_ | refine ct_ ?_ | refine cf_ ?_ | refine bk_ ?_ | refine sc_ ?_ | (refine sk_ ?_; first | (show aWp _ _ _ _ _) | skip) | (refine ex_ ?_; first | (show aWp _ _ _ _ _) | skip) | refine rt_ ?_)
  have FX := Fx0
  refine W_draw mixed rfl rfl ?_
  repeat (first | refine dq_ ?_ | refine dr_ [nx] ?_ | refine dm_ [nx] ?_ | refine da_ [nx] ?_ | refine ds_ [nx] ?_ | refine dw_ [nx] ?_ | refine dk_ ?_ | refine dn_ ?_)
  refine fun kd hkd => ?_
  simp only [List.length_cons, List.length_nil] at hkd
  first | (show aWp _ _ _ _ _) | skip
  have FX := Fx0
  repeat (first | refine v_ ?_ | refine u_ ?_ | refine nl_ ?_ | (refine nz_ ?_; first | (show aWp _ _ _ _ _) | skip) | refine sq_ ?_ | refine rg_ ?_ | refine k_ ?_ | refine ct_ ?_ | refine cf_ ?_ | refine bk_ ?_ | refine sc_ ?_ | (refine sk_ ?_; first | (show aWp _ _ _ _ _) | skip) | (refine ex_ ?_; first | (show aWp _ _ _ _ _) | skip) | refine rt_ ?_)
  (have FX := Fx0; exact end_ Tryd.results15)
end Go.Proofs.YtjidgdfdeckofaaDoor.AE

/- Octets that are trimmed; what they begin with. -/
namespace Go.Proofs.YtjidgdfdeckofaaDoor.AE
open Go Go.RowKit Go.Proofs Go.Proofs.YtjidgdfdeckofaaDoor
set_option linter.unusedVariables false
set_option linter.unusedSimpArgs false
set_option maxRecDepth 100000
set_option maxHeartbeats 8000000
theorem aIndex_s (P : Program) (t : TypeId) (l : List Int) (kd : IntKind) (i : Int) : aIndex P t (.str l) (.int kd i) = (strK (kT P t)).bind fun _ => if 0 ≤ i then (l[i.toNat]?).map fun c => .int .u8 c else none := by
  unfold aIndex kT
  cases hu : P.underlying t with
  | none => rfl
  | some d => cases d <;> rfl
def trR (c : Int) (l : List Int) : List Int := (l.reverse.dropWhile (· == c)).reverse
def trL (c : Int) (l : List Int) : List Int := l.dropWhile (· == c)
theorem dropWhile_pre {c : Int} : ∀ (a b : List Int), (∀ x ∈ a, x = c) → (a ++ b).dropWhile (· == c) = b.dropWhile (· == c)
  | [], b, _ => rfl
  | x :: a, b, h => by
    have hx : x = c := h x (by simp)
    rw [List.cons_append, List.dropWhile_cons, if_pos (by simp [hx])]
    exact dropWhile_pre a b fun y hy => h y (by simp [hy])
theorem dropWhile_stop {c : Int} (l : List Int) (h : ∀ x, l.head? = some x → x ≠ c) : l.dropWhile (· == c) = l := by
  cases l with
  | nil => rfl
  | cons x l => rw [List.dropWhile_cons, if_neg (by simpa using h x rfl)]
theorem trR_of (c : Int) (l : List Int) (i : Nat) (hi : i ≤ l.length) (h1 : ∀ x ∈ l.drop i, x = c) (h2 : ∀ q x, i = q + 1 → l[q]? = some x → x ≠ c) : trR c l = l.take i := by
  have e : l.reverse = (l.drop i).reverse ++ (l.take i).reverse := by rw [← List.reverse_append, List.take_append_drop]
  unfold trR
  rw [e, dropWhile_pre _ _ (fun x hx => h1 x (by simpa using hx)), dropWhile_stop, List.reverse_reverse]
  intro x hx
  rw [List.head?_reverse, List.getLast?_eq_getElem?] at hx
  have hl : (l.take i).length = i := by simp; omega
  cases i with
  | zero => simp at hx
  | succ q =>
    rw [hl, Nat.add_sub_cancel, List.getElem?_take, if_pos (by omega)] at hx
    exact h2 q x rfl hx
theorem trL_of (c : Int) (l : List Int) (i : Nat) (h1 : ∀ x ∈ l.take i, x = c) (h2 : ∀ x, l[i]? = some x → x ≠ c) : trL c l = l.drop i := by
  unfold trL
  conv => lhs; rw [← List.take_append_drop i l]
  rw [dropWhile_pre _ _ h1, dropWhile_stop]
  intro x hx
  rw [List.head?_drop] at hx
  exact h2 x hx
/-- What is left without zeros at either end. -/
def trimZ (l : List Int) : List Int := trL 0 (trR 0 l)
theorem dropWhile_none {c : Int} : ∀ l : List Int, l.dropWhile (· == c) = [] ↔ ∀ x ∈ l, x = c
  | [] => by simp
  | x :: l => by
    rw [List.dropWhile_cons]
    by_cases h : x = c
    · rw [if_pos (by simp [h]), dropWhile_none l]
      simp [h]
    · rw [if_neg (by simpa using h)]
      simp [h]
theorem trimZ_none (l : List Int) : trimZ l = [] ↔ ∀ x ∈ l, x = 0 := by
  unfold trimZ trL trR
  rw [dropWhile_none]
  constructor
  · intro h
    have h3 : ∀ x ∈ l.reverse.dropWhile (· == (0 : Int)), x = 0 := fun x hx => h x (by simpa using hx)
    have h2 : l.reverse.dropWhile (· == (0 : Int)) = [] := by
      cases hd : l.reverse.dropWhile (· == (0 : Int)) with
      | nil => rfl
      | cons y ys =>
        have hy : y = 0 := h3 y (by rw [hd]; simp)
        have := List.head?_dropWhile_not (· == (0 : Int)) l.reverse
        rw [hd] at this
        simp [hy] at this
    intro x hx
    exact (dropWhile_none _).1 h2 x (by simpa using hx)
  · intro h x hx
    have : l.reverse.dropWhile (· == (0 : Int)) = [] := (dropWhile_none _).2 fun x hx => h x (by simpa using hx)
    rw [this] at hx
    simp at hx
theorem trimRightByte (l : List Int) (c : Int) : aFun Tryd.prog 72 [.sl (numB .u8 l), .int .u8 c] (.sl (numB .u8 (trR c l))) := by
  refine aFun_body Tryd.func72 rfl rfl (by simp [Tryd.ntmps72]) fun hreal h nx hfresh => ?_
  rw [Tryd.ntmps72]
  have hb := (hreal (.sl (numB .u8 l)) (by simp)).num.1
  have FX := Fx0
  repeat (first | refine v_ ?_ | refine u_ ?_ | refine nl_ ?_ | (refine nz_ ?_; first | (show aWp _ _ _ _ _) | skip) | refine sq_ ?_ | refine rg_ ?_ | refine k_ ?_ | refine ct_ ?_ | refine cf_ ?_ | refine bk_ ?_ | refine sc_ ?_ | (refine sk_ ?_; first | (show aWp _ _ _ _ _) | skip) | (refine ex_ ?_; first | (show aWp _ _ _ _ _) | skip) | refine rt_ ?_)
  refine W_loopK [1] nx (fun r tm h q => ∃ i : Nat, i ≤ l.length ∧ i = r ∧ tm 0 = .sl (numB .u8 (l.take i)) ∧ ∀ x ∈ l.drop i, x = c) l.length (by omega) ⟨l.length, Nat.le_refl _, rfl, by (have FX := Fx.mk (((fun α : Type => @List.take_length α))); exact cl_), fun x hx => by simp at hx⟩ ?_
  rintro r tm' h' k' ⟨i, hi, rfl, h0, hall⟩ hag hh hk'
  have hl : (l.take i).length = i := by simp; omega
  have nl := numB_len .u8 (l.take i)
  cases i with
  | zero =>
    have hd : decide ((0 : Int) < ((0 : Nat) : Int)) = false := rfl
    have FX := Fx.mk (And.intro @hag <| And.intro @h0 <| And.intro @hl <| And.intro @hd <| @numB_len)
    repeat (first | refine v_ ?_ | refine u_ ?_ | refine nl_ ?_ | (refine nz_ ?_; first | (show aWp _ _ _ _ _) | skip) | refine sq_ ?_ | refine rg_ ?_ | refine k_ ?_ | refine ct_ ?_ | refine cf_ ?_ | refine bk_ ?_ | refine sc_ ?_ | (refine sk_ ?_; first | (show aWp _ _ _ _ _) | skip) | (refine ex_ ?_; first | (show aWp _ _ _ _ _) | skip) | refine rt_ ?_)
    have e := trR_of c l 0 (by omega) hall (fun q x e => by omega)
    (have FX := Fx.mk (And.intro @h0 <| And.intro @hh <| @e); exact end_ Tryd.results72)
  | succ q =>
    have hd : decide ((0 : Int) < ((q + 1 : Nat) : Int)) = true := decide_eq_true (by omega)
    have hw : IntKind.i64.wrap (((q + 1 : Nat) : Int) - 1) = (q : Int) := by rw [wrapI] <;> omega
    obtain ⟨x, hx⟩ : ∃ x, l[q]? = some x := ⟨_, List.getElem?_eq_getElem (by omega)⟩
    have hx2 : (l.take (q + 1))[q]? = some x := by rw [List.getElem?_take, if_pos (by omega)]; exact hx
    have hx3 := numB_get .u8 _ q x hx2
    have ht : (l.take (q + 1)).take q = l.take q := by rw [List.take_take]; congr 1; omega
    by_cases hc : x = c
    · have hd2 : decide (x = c) = true := decide_eq_true hc
      have FX := Fx.mk (And.intro @hag <| And.intro @h0 <| And.intro @hl <| And.intro @hd <| And.intro @hw <| And.intro @hx3 <| And.intro @hd2 <| @numB_len)
      repeat (first | refine v_ ?_ | refine u_ ?_ | refine nl_ ?_ | (refine nz_ ?_; first | (show aWp _ _ _ _ _) | skip) | refine sq_ ?_ | refine rg_ ?_ | refine k_ ?_ | refine ct_ ?_ | refine cf_ ?_ | refine bk_ ?_ | refine sc_ ?_ | (refine sk_ ?_; first | (show aWp _ _ _ _ _) | skip) | (refine ex_ ?_; first | (show aWp _ _ _ _ _) | skip) | refine rt_ ?_)
      refine ⟨q, by omega, ⟨q, by omega, rfl, by (have FX := Fx.mk (@ht); exact cl_), fun y hy => ?_⟩, ?_, ?_, by first | omega | (simp only; omega), rfl⟩
      · rw [List.drop_eq_getElem_cons (by omega)] at hy
        rcases List.mem_cons.1 hy with hy | hy
        · rw [List.getElem?_eq_getElem (by omega)] at hx; rw [hy, Option.some.inj hx]; exact hc
        · exact hall y hy
      · repeat (refine KAgree.upd rfl ?_)
        first | exact KAgree.refl _ _ | exact hag
      · exact (by have FX := Fx.mk (@hh); exact ha_)
    · have hd2 : decide (x = c) = false := decide_eq_false hc
      have FX := Fx.mk (And.intro @hag <| And.intro @h0 <| And.intro @hl <| And.intro @hd <| And.intro @hw <| And.intro @hx3 <| And.intro @hd2 <| @numB_len)
      repeat (first | refine v_ ?_ | refine u_ ?_ | refine nl_ ?_ | (refine nz_ ?_; first | (show aWp _ _ _ _ _) | skip) | refine sq_ ?_ | refine rg_ ?_ | refine k_ ?_ | refine ct_ ?_ | refine cf_ ?_ | refine bk_ ?_ | refine sc_ ?_ | (refine sk_ ?_; first | (show aWp _ _ _ _ _) | skip) | (refine ex_ ?_; first | (show aWp _ _ _ _ _) | skip) | refine rt_ ?_)
      have e := trR_of c l (q + 1) (by omega) hall (fun q' y e hy => by
        obtain rfl : q = q' := by omega
        rw [hx] at hy; cases hy; exact hc)
      (have FX := Fx.mk (And.intro @h0 <| And.intro @hh <| @e); exact end_ Tryd.results72)
theorem trimLeftByte (l : List Int) (c : Int) : aFun Tryd.prog 71 [.sl (numB .u8 l), .int .u8 c] (.sl (numB .u8 (trL c l))) := by
  refine aFun_body Tryd.func71 rfl rfl (by simp [Tryd.ntmps71]) fun hreal h nx hfresh => ?_
  rw [Tryd.ntmps71]
  have hb := (hreal (.sl (numB .u8 l)) (by simp)).num.1
  have FX := Fx0
  repeat (first | refine v_ ?_ | refine u_ ?_ | refine nl_ ?_ | (refine nz_ ?_; first | (show aWp _ _ _ _ _) | skip) | refine sq_ ?_ | refine rg_ ?_ | refine k_ ?_ | refine ct_ ?_ | refine cf_ ?_ | refine bk_ ?_ | refine sc_ ?_ | (refine sk_ ?_; first | (show aWp _ _ _ _ _) | skip) | (refine ex_ ?_; first | (show aWp _ _ _ _ _) | skip) | refine rt_ ?_)
  refine W_loopK [1] nx (fun r tm h q => ∃ i : Nat, i ≤ l.length ∧ r = l.length - i ∧ tm 0 = .sl (numB .u8 (l.drop i)) ∧ ∀ x ∈ l.take i, x = c) l.length (by omega) ⟨0, Nat.zero_le _, rfl, by (have FX := Fx0; exact cl_), fun x hx => by simp at hx⟩ ?_
  rintro r tm' h' k' ⟨i, hi, rfl, h0, hall⟩ hag hh hk'
  by_cases hlt : i < l.length
  · obtain ⟨x, hx⟩ : ∃ x, l[i]? = some x := ⟨_, List.getElem?_eq_getElem hlt⟩
    have hdr : l.drop i = x :: l.drop (i + 1) := by rw [List.drop_eq_getElem_cons hlt]; rw [List.getElem?_eq_getElem hlt] at hx; cases hx; rfl
    have hl : (l.drop i).length = l.length - i := by simp
    have hn0 : (0 : Int) < ((l.length - i : Nat) : Int) := by omega
    have hd : decide ((0 : Int) < ((l.length - i : Nat) : Int)) = true := decide_eq_true hn0
    have hd0 : decide (((l.length - i : Nat) : Int) = 0) = false := decide_eq_false (by omega)
    have hx3 : (numB .u8 (l.drop i))[0]? = some [.int .u8 x] := by rw [hdr]; rfl
    have hu : (1 : Int) ≤ ((l.length - i : Nat) : Int) := by omega
    have ht : (l.drop i).take (l.length - i) = l.drop i := List.take_of_length_le (by omega)
    have ht1 : (l.drop i).drop 1 = l.drop (i + 1) := by rw [List.drop_drop]
    by_cases hc : x = c
    · have hd2 : decide (x = c) = true := decide_eq_true hc
      have FX := Fx.mk (And.intro @hag <| And.intro @h0 <| And.intro @hl <| And.intro @hd <| And.intro @hx3 <| And.intro @hd2 <| And.intro @numB_len <| And.intro @hu <| And.intro @ht <| @ht1)
      repeat (first | refine v_ ?_ | refine u_ ?_ | refine nl_ ?_ | (refine nz_ ?_; first | (show aWp _ _ _ _ _) | skip) | refine sq_ ?_ | refine rg_ ?_ | refine k_ ?_ | refine ct_ ?_ | refine cf_ ?_ | refine bk_ ?_ | refine sc_ ?_ | (refine sk_ ?_; first | (show aWp _ _ _ _ _) | skip) | (refine ex_ ?_; first | (show aWp _ _ _ _ _) | skip) | refine rt_ ?_)
      refine ⟨l.length - (i + 1), by omega, ⟨i + 1, by omega, rfl, by (have FX := Fx0; exact cl_), fun y hy => ?_⟩, ?_, ?_, by first | omega | (simp only; omega), rfl⟩
      · rw [List.take_add_one, hx] at hy
        rcases List.mem_append.1 hy with hy | hy
        · exact hall y hy
        · simp at hy; subst hy; exact hc
      · repeat (refine KAgree.upd rfl ?_)
        first | exact KAgree.refl _ _ | exact hag
      · exact (by have FX := Fx.mk (@hh); exact ha_)
    · have hd2 : decide (x = c) = false := decide_eq_false hc
      have FX := Fx.mk (And.intro @hag <| And.intro @h0 <| And.intro @hl <| And.intro @hd <| And.intro @hx3 <| And.intro @hd2 <| And.intro @hd0 <| @numB_len)
      repeat (first | refine v_ ?_ | refine u_ ?_ | refine nl_ ?_ | (refine nz_ ?_; first | (show aWp _ _ _ _ _) | skip) | refine sq_ ?_ | refine rg_ ?_ | refine k_ ?_ | refine ct_ ?_ | refine cf_ ?_ | refine bk_ ?_ | refine sc_ ?_ | (refine sk_ ?_; first | (show aWp _ _ _ _ _) | skip) | (refine ex_ ?_; first | (show aWp _ _ _ _ _) | skip) | refine rt_ ?_)
      have e := trL_of c l i hall (fun y hy => by rw [hx] at hy; cases hy; exact hc)
      (have FX := Fx.mk (And.intro @h0 <| And.intro @hh <| @e); exact end_ Tryd.results71)
  · obtain rfl : i = l.length := by omega
    have hl : (l.drop l.length).length = 0 := by simp
    have hd : decide ((0 : Int) < ((0 : Nat) : Int)) = false := rfl
    have hd0 : decide (((0 : Nat) : Int) = 0) = true := rfl
    have FX := Fx.mk (And.intro @hag <| And.intro @h0 <| And.intro @hl <| And.intro @hd <| And.intro @hd0 <| @numB_len)
    repeat (first | refine v_ ?_ | refine u_ ?_ | refine nl_ ?_ | (refine nz_ ?_; first | (show aWp _ _ _ _ _) | skip) | refine sq_ ?_ | refine rg_ ?_ | refine k_ ?_ | refine ct_ ?_ | refine cf_ ?_ | refine bk_ ?_ | refine sc_ ?_ | (refine sk_ ?_; first | (show aWp _ _ _ _ _) | skip) | (refine ex_ ?_; first | (show aWp _ _ _ _ _) | skip) | refine rt_ ?_)
    have e := trL_of c l l.length hall (fun y hy => by simp at hy)
    have e2 : trL c l = [] := by rw [e]; simp
    (have FX := Fx.mk (And.intro @h0 <| And.intro @hh <| @e2); exact end_ Tryd.results71)
theorem bytes_Trim (l : List Int) : aFun Tryd.prog 42 [.sl (numB .u8 l), .str [0]] (.sl (numB .u8 (trimZ l))) := by
  have i1 := aIndex_s
  have e1 : ∀ tm : Nat → AV, evA tm (.const (.string { data := #[] })) = .str [] := fun _ => rfl
  have d1 : decide (([0] : List Int) = []) = false := rfl
  have d3 : decide ((0 : Int) < 128) = true := rfl
  have d4 : decide (((1 : Nat) : Int) = 1) = true := rfl
  by_cases h0 : l = []
  · subst h0
    have e : trimZ [] = [] := rfl
    rw [e]
    have d0 : decide (((0 : Nat) : Int) = 0) = true := rfl
    refine aFun_body Tryd.func42 rfl rfl (by simp [Tryd.ntmps42]) fun hreal h nx hfresh => ?_
    rw [Tryd.ntmps42]
    have FX := Fx.mk (@d0)
    repeat (first | refine v_ ?_ | refine u_ ?_ | refine nl_ ?_ | (refine nz_ ?_; first | (show aWp _ _ _ _ _) | skip) | refine sq_ ?_ | refine rg_ ?_ | refine k_ ?_ | refine ct_ ?_ | refine cf_ ?_ | refine bk_ ?_ | refine sc_ ?_ | (refine sk_ ?_; first | (show aWp _ _ _ _ _) | skip) | (refine ex_ ?_; first | (show aWp _ _ _ _ _) | skip) | refine rt_ ?_)
    (have FX := Fx0; exact end_ Tryd.results42)
  · have d0 : decide ((l.length : Int) = 0) = false := decide_eq_false (by
      have : l.length ≠ 0 := fun q => h0 (List.eq_nil_of_length_eq_zero q)
      omega)
    refine aFun_body Tryd.func42 rfl rfl (by simp [Tryd.ntmps42]) fun hreal h nx hfresh => ?_
    rw [Tryd.ntmps42]
    have FX := Fx.mk (And.intro @d0 <| And.intro @d1 <| And.intro @d3 <| And.intro @d4 <| And.intro @e1 <| @i1)
    repeat (first | refine v_ ?_ | refine u_ ?_ | refine nl_ ?_ | (refine nz_ ?_; first | (show aWp _ _ _ _ _) | skip) | refine sq_ ?_ | refine rg_ ?_ | refine k_ ?_ | refine ct_ ?_ | refine cf_ ?_ | refine bk_ ?_ | refine sc_ ?_ | (refine sk_ ?_; first | (show aWp _ _ _ _ _) | skip) | (refine ex_ ?_; first | (show aWp _ _ _ _ _) | skip) | refine rt_ ?_)
    have FX := Fx.mk (And.intro @d0 <| And.intro @d1 <| And.intro @d3 <| And.intro @d4 <| And.intro @e1 <| @i1)
    refine W_draw mixed rfl rfl ?_
    repeat (first | refine dq_ ?_ | refine df_ (trimRightByte l 0) ?_ | refine df_ (trimLeftByte (trR 0 l) 0) ?_ | refine dr_ [nx] ?_ | refine dk_ ?_ | refine dn_ ?_)
    refine fun kd hkd => ?_
    simp only [List.length_cons, List.length_nil] at hkd
    first | (show aWp _ _ _ _ _) | skip
    have FX := Fx0
    repeat (first | refine v_ ?_ | refine u_ ?_ | refine nl_ ?_ | (refine nz_ ?_; first | (show aWp _ _ _ _ _) | skip) | refine sq_ ?_ | refine rg_ ?_ | refine k_ ?_ | refine ct_ ?_ | refine cf_ ?_ | refine bk_ ?_ | refine sc_ ?_ | (refine sk_ ?_; first | (show aWp _ _ _ _ _) | skip) | (refine ex_ ?_; first | (show aWp _ _ _ _ _) | skip) | refine rt_ ?_)
    have ez : trimZ l = trL 0 (trR 0 l) := rfl
    (have FX := Fx.mk (@ez); exact end_ Tryd.results42)
theorem bytes_Equal4 (a b : List Int) : aFun Tryd.prog 58 [.sl (numB .u8 a), .sl (numB .u8 b)] (.bool (decide (a = b))) := by
  refine aFun_body Tryd.func58 rfl rfl (by simp [Tryd.ntmps58]) fun hreal h nx hfresh => ?_
  rw [Tryd.ntmps58]
  have FX := Fx0
  repeat (first | refine v_ ?_ | refine u_ ?_ | refine nl_ ?_ | (refine nz_ ?_; first | (show aWp _ _ _ _ _) | skip) | refine sq_ ?_ | refine rg_ ?_ | refine k_ ?_ | refine ct_ ?_ | refine cf_ ?_ | refine bk_ ?_ | refine sc_ ?_ | (refine sk_ ?_; first | (show aWp _ _ _ _ _) | skip) | (refine ex_ ?_; first | (show aWp _ _ _ _ _) | skip) | refine rt_ ?_)
  (have FX := Fx0; exact end_ Tryd.results58)
theorem bytes_HasPrefix (a b : List Int) : aFun Tryd.prog 67 [.sl (numB .u8 a), .sl (numB .u8 b)] (.bool (decide (b <+: a))) := by
  by_cases h : b.length ≤ a.length
  · have d1 : decide ((b.length : Int) ≤ (a.length : Int)) = true := decide_eq_true (by omega)
    have hb : (b.length : Int) ≤ (a.length : Int) := by omega
    have e := bytes_Equal4 (a.take b.length) b
    have e2 : decide (a.take b.length = b) = decide (b <+: a) := by
      refine decide_eq_decide.2 ?_
      rw [List.prefix_iff_eq_take]
      exact ⟨Eq.symm, Eq.symm⟩
    rw [e2] at e
    refine aFun_body Tryd.func67 rfl rfl (by simp [Tryd.ntmps67]) fun hreal h nx hfresh => ?_
    rw [Tryd.ntmps67]
    have FX := Fx.mk (And.intro @d1 <| @hb)
    repeat (first | refine v_ ?_ | refine u_ ?_ | refine f_ (e) fun kf hkf => ?_ | refine nl_ ?_ | (refine nz_ ?_; first | (show aWp _ _ _ _ _) | skip) | refine sq_ ?_ | refine rg_ ?_ | refine k_ ?_ | refine ct_ ?_ | refine cf_ ?_ | refine bk_ ?_ | refine sc_ ?_ | (refine sk_ ?_; first | (show aWp _ _ _ _ _) | skip) | (refine ex_ ?_; first | (show aWp _ _ _ _ _) | skip) | refine rt_ ?_)
    (have FX := Fx0; exact end_ Tryd.results67)
  · have d1 : decide ((b.length : Int) ≤ (a.length : Int)) = false := decide_eq_false (by omega)
    have e : decide (b <+: a) = false := decide_eq_false fun q => h q.length_le
    rw [e]
    refine aFun_body Tryd.func67 rfl rfl (by simp [Tryd.ntmps67]) fun hreal h nx hfresh => ?_
    rw [Tryd.ntmps67]
    have FX := Fx.mk (@d1)
    repeat (first | refine v_ ?_ | refine u_ ?_ | refine nl_ ?_ | (refine nz_ ?_; first | (show aWp _ _ _ _ _) | skip) | refine sq_ ?_ | refine rg_ ?_ | refine k_ ?_ | refine ct_ ?_ | refine cf_ ?_ | refine bk_ ?_ | refine sc_ ?_ | (refine sk_ ?_; first | (show aWp _ _ _ _ _) | skip) | (refine ex_ ?_; first | (show aWp _ _ _ _ _) | skip) | refine rt_ ?_)
    (have FX := Fx0; exact end_ Tryd.results67)
end Go.Proofs.YtjidgdfdeckofaaDoor.AE

/- Layer 4 in plain words: a superblock's sector, and back. No program in sight. -/
namespace Go.Proofs.YtjidgdfdeckofaaDoor.AE
open Go Go.RowKit Go.Proofs Go.Proofs.YtjidgdfdeckofaaDoor
set_option linter.unusedVariables false
set_option linter.unusedSimpArgs false
def mag4 : List Int := [102, 115, 116, 49]
def wid4 : List Int := [8, 4, 4, 4, 4, 8, 4]
namespace Sup
def head (s : Sup) (i : Nat) : List Int := mag4 ++ Pl.flat (wid4.take i) (s.vals.take i)
def off (i : Nat) : Nat := [0, 8, 12, 16, 20, 24, 32, 36].getD i 0
theorem wid_get (i : Nat) (hi : i < 7) : wid4[i]? = some (width i : Int) := by
  match i, hi with
  | 0, _ | 1, _ | 2, _ | 3, _ | 4, _ | 5, _ | 6, _ => rfl
theorem vals_get (s : Sup) (i : Nat) (hi : i < 7) : s.vals[i]? = some (s.val i) := by
  match i, hi with
  | 0, _ | 1, _ | 2, _ | 3, _ | 4, _ | 5, _ | 6, _ => rfl
theorem off_succ (i : Nat) (hi : i < 7) : off (i + 1) = off i + width i := by
  match i, hi with
  | 0, _ | 1, _ | 2, _ | 3, _ | 4, _ | 5, _ | 6, _ => rfl
theorem off_le (i : Nat) : off i ≤ 36 := by
  by_cases h : i < 8
  · match i, h with
    | 0, _ | 1, _ | 2, _ | 3, _ | 4, _ | 5, _ | 6, _ | 7, _ => decide
  · unfold off
    rw [List.getD_eq_getElem?_getD, List.getElem?_eq_none (by simp; omega)]
    simp
theorem width_in (i : Nat) (hi : i < 7) : width i = 4 ∨ width i = 8 := by
  match i, hi with
  | 0, _ | 1, _ | 2, _ | 3, _ | 4, _ | 5, _ | 6, _ => decide
theorem head_succ (s : Sup) (i : Nat) (hi : i < 7) : s.head (i + 1) = s.head i ++ Pl.putI (width i) (s.val i) := by
  unfold head
  rw [flat_take _ _ i _ _ (wid_get i hi) (s.vals_get i hi), List.append_assoc]
  rfl
theorem head_len (s : Sup) : ∀ i, i ≤ 7 → (s.head i).length = 4 + off i
  | 0, _ => rfl
  | i + 1, h => by
    rw [head_succ s i (by omega), List.length_append, head_len s i (by omega), Pl.putI_length, off_succ i (by omega)]
    omega
/-- Its sector. -/
def sector (s : Sup) : List Int := Pl.sealS (s.head 7 ++ List.replicate 20 0)
theorem head7_len (s : Sup) : (s.head 7 ++ List.replicate 20 0).length = 60 := by rw [List.length_append, head_len s 7 (by omega), List.length_replicate]; rfl
theorem sector_len (s : Sup) : s.sector.length = 64 := by rw [sector, Pl.seal_len, head7_len]
theorem val_fits {s : Sup} (h : s.ok) (i : Nat) (hi : i < 7) : 0 ≤ s.val i ∧ s.val i < 256 ^ (width i) := by
  have h2 := s.ok_iff.1 h
  obtain ⟨h0, h1, h3, h4, h5, h6, h7⟩ := h2
  have e0 : s.val 0 = s.e := rfl
  have e1 : s.val 1 = s.v := rfl
  have e2 : s.val 2 = s.j := rfl
  have e3 : s.val 3 = s.p := rfl
  have e4 : s.val 4 = s.d := rfl
  have e5 : s.val 5 = s.s := rfl
  have e6 : s.val 6 = s.r := rfl
  match i, hi with
  | 0, _ => rw [e0]; exact ⟨h0.1, Int.lt_of_le_of_lt h0.2 (by decide)⟩
  | 1, _ => rw [e1]; exact ⟨h1.1, Int.lt_of_le_of_lt h1.2 (by decide)⟩
  | 2, _ => rw [e2]; exact ⟨by omega, Int.lt_of_le_of_lt h3.2 (by decide)⟩
  | 3, _ => rw [e3]; exact ⟨by omega, Int.lt_of_le_of_lt h4.2 (by decide)⟩
  | 4, _ => rw [e4]; exact ⟨h5.1, Int.lt_of_le_of_lt h5.2 (by decide)⟩
  | 5, _ => rw [e5]; exact ⟨h6.1, Int.lt_of_le_of_lt h6.2 (by decide)⟩
  | 6, _ => rw [e6]; exact ⟨h7.1, Int.lt_of_le_of_lt (Int.le_trans h7.2 h4.2) (by decide)⟩
theorem fits (s : Sup) (h : s.ok) : Pl.fits wid4 s.vals := by
  have f := fun i hi => val_fits h i hi
  have t : ∀ i, i < 7 → (1 : Int) ≤ (width i : Nat) ∧ ((width i : Nat) : Int) ≤ 8 := fun i hi => by rcases width_in i hi with h | h <;> omega
  exact ⟨⟨by decide, by decide, (f 0 (by decide)).1, (f 0 (by decide)).2⟩, ⟨by decide, by decide, (f 1 (by decide)).1, (f 1 (by decide)).2⟩, ⟨by decide, by decide, (f 2 (by decide)).1, (f 2 (by decide)).2⟩, ⟨by decide, by decide, (f 3 (by decide)).1, (f 3 (by decide)).2⟩, ⟨by decide, by decide, (f 4 (by decide)).1, (f 4 (by decide)).2⟩, ⟨by decide, by decide, (f 5 (by decide)).1, (f 5 (by decide)).2⟩, ⟨by decide, by decide, (f 6 (by decide)).1, (f 6 (by decide)).2⟩, trivial⟩
/-! ### back -/
/-- The numbers that octets bear. -/
def nums (x : List Int) : List Int := Pl.unpackGo wid4 ((x.drop 4).take 36)
def num (x : List Int) (i : Nat) : Int := (nums x).getD i 0
def raw (x : List Int) : Sup := ⟨num x 0, num x 1, num x 2, num x 3, num x 4, num x 5, num x 6⟩
theorem nums_eq (x : List Int) : nums x = (raw x).vals := rfl
theorem un_get (y : List Int) (i : Nat) (hi : i < 7) : (Pl.unpackGo wid4 y)[i]? = some (Pl.leI ((y.drop (off i)).take (width i))) := by
  match i, hi with
  | 0, _ => rfl
  | 1, _ => rfl
  | 2, _ => show some (Pl.leI (((y.drop 8).drop 4).take 4)) = _; rw [List.drop_drop]; rfl
  | 3, _ => show some (Pl.leI ((((y.drop 8).drop 4).drop 4).take 4)) = _; rw [List.drop_drop, List.drop_drop]; rfl
  | 4, _ => show some (Pl.leI (((((y.drop 8).drop 4).drop 4).drop 4).take 4)) = _; rw [List.drop_drop, List.drop_drop, List.drop_drop]; rfl
  | 5, _ => show some (Pl.leI ((((((y.drop 8).drop 4).drop 4).drop 4).drop 4).take 8)) = _; rw [List.drop_drop, List.drop_drop, List.drop_drop, List.drop_drop]; rfl
  | 6, _ => show some (Pl.leI (((((((y.drop 8).drop 4).drop 4).drop 4).drop 4).drop 8).take 4)) = _; rw [List.drop_drop, List.drop_drop, List.drop_drop, List.drop_drop, List.drop_drop]; rfl
theorem num_eq (x : List Int) (i : Nat) (hi : i < 7) : num x i = Pl.leI ((x.drop (4 + off i)).take (width i)) := by
  have h1 : off i + width i ≤ 36 := by rw [← off_succ i hi]; exact off_le _
  unfold num nums
  rw [List.getD_eq_getElem?_getD, un_get _ i hi, Option.getD_some, List.drop_take, List.take_take, List.drop_drop, Nat.min_eq_left (by omega)]
theorem num_nonneg (x : List Int) (i : Nat) (hi : i < 7) : 0 ≤ num x i := by rw [num_eq x i hi]; exact Pl.leI_nonneg _
/-- Numbers above a bound are the bound. -/
def clampN (M n : Int) : Int := if M < n then M else n
def clamp (M : Int) (s : Sup) : Sup := ⟨clampN M s.e, clampN M s.v, clampN M s.j, clampN M s.p, clampN M s.d, clampN M s.s, clampN M s.r⟩
theorem clamp_ok (M : Int) (hM : 1099511627777 ≤ M) (s : Sup) : (clamp M s).ok ↔ s.ok := by
  rw [ok_iff, ok_iff]
  unfold clamp clampN
  simp only
  constructor
  · rintro ⟨h0, h1, h2, h3, h4, h5, h6⟩
    refine ⟨?_, ?_, ?_, ?_, ?_, ?_, ?_⟩ <;> split at * <;> omega
  · rintro ⟨h0, h1, h2, h3, h4, h5, h6⟩
    refine ⟨?_, ?_, ?_, ?_, ?_, ?_, ?_⟩ <;> split <;> omega
theorem clamp_eq (M : Int) (hM : 1099511627777 ≤ M) (s : Sup) (h : s.ok) : clamp M s = s := by
  obtain ⟨h0, h1, h2, h3, h4, h5, h6⟩ := s.ok_iff.1 h
  unfold clamp clampN
  rw [if_neg (by omega), if_neg (by omega), if_neg (by omega), if_neg (by omega), if_neg (by omega), if_neg (by omega), if_neg (by omega)]
/-- What a sector tells. -/
def told (b : List Int) : Sup × Int :=
  if b.length ≠ 64 then (zero, 8)
  else if (Pl.openS b).2 ≠ 0 ∨ ¬ mag4 <+: (Pl.openS b).1 ∨ ¬ ∀ x ∈ (Pl.openS b).1.drop 40, x = 0 then (zero, 21)
  else if (raw (Pl.openS b).1).ok then (raw (Pl.openS b).1, 0) else (zero, 4)
/-- What is told in a loop. -/
def part (M : Int) (x : List Int) : Nat → Sup
  | 0 => zero
  | i + 1 => (part M x i).put i (clampN M (num x i))
theorem part_all (M : Int) (x : List Int) : part M x 7 = clamp M (raw x) := rfl
theorem sector_open (s : Sup) : Pl.openS s.sector = (s.head 7 ++ List.replicate 20 0, 0) := Pl.open_seal
theorem raw_head (s : Sup) (h : s.ok) : raw (s.head 7 ++ List.replicate 20 0) = s := by
  have h1 : ((s.head 7 ++ List.replicate 20 (0 : Int)).drop 4).take 36 = Pl.flat wid4 s.vals := by
    have e : s.head 7 = mag4 ++ Pl.flat wid4 s.vals := rfl
    have hl : (Pl.flat wid4 s.vals).length = 36 := by rw [Pl.flat_len (s.fits h)]; rfl
    rw [e, List.append_assoc, List.drop_left' (by rfl), List.take_left' hl]
  have h2 : nums (s.head 7 ++ List.replicate 20 0) = s.vals := by unfold nums; rw [h1, Pl.unpack_flat (s.fits h)]
  unfold raw num
  rw [h2]
  rfl
theorem told_sector (s : Sup) (h : s.ok) : told s.sector = (s, 0) := by
  unfold told
  rw [if_neg (by rw [sector_len]; simp), sector_open, if_neg, raw_head s h, if_pos h]
  simp only [ne_eq, not_true, false_or, not_or, Classical.not_not]
  refine ⟨⟨Pl.flat wid4 s.vals ++ List.replicate 20 0, by rw [← List.append_assoc]; rfl⟩, fun x hx => ?_⟩
  rw [List.drop_left' (by rw [head_len s 7 (by omega)]; rfl)] at hx
  exact (List.mem_replicate.1 hx).2
/-- What is told is made again. -/
theorem sector_told (b : List Int) (hb : Pl.BY b) (h : (told b).2 = 0) : (told b).1.ok ∧ (told b).1.sector = b := by
  unfold told at h ⊢
  split at h
  · cases h
  rename_i hl
  rw [if_neg hl]
  split at h
  · cases h
  rename_i hc
  rw [if_neg hc]
  split at h
  · rename_i hok
    rw [if_pos hok]
    refine ⟨hok, ?_⟩
    simp only [not_or, Classical.not_not, ne_eq] at hc hl
    obtain ⟨c1, c2, c3⟩ := hc
    have ho : Pl.openS b = (b.take 60, 0) ∧ Pl.leI (b.drop 60) = Pl.crcI (b.take 60) := by
      unfold Pl.openS at c1 ⊢
      rw [if_neg (by omega)] at c1 ⊢
      rw [hl] at c1 ⊢
      split at c1
      · cases c1
      · rename_i hq
        rw [if_neg hq]
        exact ⟨rfl, by simpa using hq⟩
    rw [ho.1] at c2 c3 hok ⊢
    simp only at c2 c3 hok ⊢
    have hse : Pl.sealS (b.take 60) = b := by
      have hd : (b.drop 60).length = 4 := by simp; omega
      have h2 := Pl.put_leI (Pl.BY_drop hb 60)
      rw [hd, ho.2] at h2
      unfold Pl.sealS
      rw [h2, List.take_append_drop]
    have hlx : (b.take 60).length = 60 := by simp; omega
    have hbx : Pl.BY (b.take 60) := Pl.BY_take hb 60
    generalize b.take 60 = x at c2 c3 hok hse hlx hbx ⊢
    have hy : (((x.drop 4).take 36)).length = Pl.sumN wid4 := by rw [show Pl.sumN wid4 = 36 from rfl]; simp; omega
    obtain ⟨p1, p2⟩ := Pl.pack_unpack wid4 ((x.drop 4).take 36) (by decide) (Pl.BY_take (Pl.BY_drop hbx 4) 36) hy
    have hv : (raw x).vals = Pl.unpackGo wid4 ((x.drop 4).take 36) := rfl
    have hh : (raw x).head 7 = x.take 40 := by
      have e : (raw x).head 7 = mag4 ++ Pl.flat wid4 (raw x).vals := rfl
      obtain ⟨t, ht⟩ := c2
      rw [e, hv, p2]
      have : x.take 4 = mag4 := by rw [← ht]; rfl
      rw [← this, show (40 : Nat) = 4 + 36 from rfl, List.take_add]
    have hz : x.drop 40 = List.replicate 20 0 := by
      apply List.eq_replicate_iff.2
      exact ⟨by simp; omega, c3⟩
    unfold sector
    rw [hh, ← hz, List.take_append_drop, hse]
  · cases h
theorem told_len {b : List Int} (h : (told b).2 = 0) : b.length = 64 := by
  unfold told at h
  split at h
  · cases h
  · rename_i hl; simpa using hl
theorem told_bad {b : List Int} (h : (told b).2 ≠ 0) : (told b).1 = zero := by
  unfold told at h ⊢
  split
  · rfl
  · rename_i hl
    rw [if_neg hl] at h
    split
    · rfl
    · rename_i hc
      rw [if_neg hc] at h
      split
      · rename_i hok; rw [if_pos hok] at h; exact absurd rfl h
      · rfl
end Sup
end Go.Proofs.YtjidgdfdeckofaaDoor.AE
