/- Octets that are trimmed; what they begin with. -/
import Derived.Test.YtnlanfcboiemaaaDoorC7
namespace Go.Proofs.YtnlanfcboiemaaaDoor.AE
open Go Go.RowKit Go.Proofs Go.Proofs.YtnlanfcboiemaaaDoor
set_option linter.unusedVariables false
set_option linter.unusedSimpArgs false
set_option maxRecDepth 100000
set_option maxHeartbeats 8000000
theorem aIndex_s (P : Program) (t : TypeId) (l : List Int) (kd : IntKind) (i : Int) : aIndex P t (.str l) (.int kd i) = (strK (kT P t)).bind fun _ => if 0 ≤ i then (l[i.toNat]?).map fun c => .int .u8 c else none := by
  unfold aIndex kT
  cases hu : P.underlying t with
  | none => rfl
  | some d => cases d <;> rfl
def trR (c : Int) (l : List Int) : List Int := (l.reverse.dropWhile (· == c)).reverse
def trL (c : Int) (l : List Int) : List Int := l.dropWhile (· == c)
theorem dropWhile_pre {c : Int} : ∀ (a b : List Int), (∀ x ∈ a, x = c) → (a ++ b).dropWhile (· == c) = b.dropWhile (· == c)
  | [], b, _ => rfl
  | x :: a, b, h => by
    have hx : x = c := h x (by simp)
    rw [List.cons_append, List.dropWhile_cons, if_pos (by simp [hx])]
    exact dropWhile_pre a b fun y hy => h y (by simp [hy])
theorem dropWhile_stop {c : Int} (l : List Int) (h : ∀ x, l.head? = some x → x ≠ c) : l.dropWhile (· == c) = l := by
  cases l with
  | nil => rfl
  | cons x l => rw [List.dropWhile_cons, if_neg (by simpa using h x rfl)]
theorem trR_of (c : Int) (l : List Int) (i : Nat) (hi : i ≤ l.length) (h1 : ∀ x ∈ l.drop i, x = c) (h2 : ∀ q x, i = q + 1 → l[q]? = some x → x ≠ c) : trR c l = l.take i := by
  have e : l.reverse = (l.drop i).reverse ++ (l.take i).reverse := by rw [← List.reverse_append, List.take_append_drop]
  unfold trR
  rw [e, dropWhile_pre _ _ (fun x hx => h1 x (by simpa using hx)), dropWhile_stop, List.reverse_reverse]
  intro x hx
  rw [List.head?_reverse, List.getLast?_eq_getElem?] at hx
  have hl : (l.take i).length = i := by simp; omega
  cases i with
  | zero => simp at hx
  | succ q =>
    rw [hl, Nat.add_sub_cancel, List.getElem?_take, if_pos (by omega)] at hx
    exact h2 q x rfl hx
theorem trL_of (c : Int) (l : List Int) (i : Nat) (h1 : ∀ x ∈ l.take i, x = c) (h2 : ∀ x, l[i]? = some x → x ≠ c) : trL c l = l.drop i := by
  unfold trL
  conv => lhs; rw [← List.take_append_drop i l]
  rw [dropWhile_pre _ _ h1, dropWhile_stop]
  intro x hx
  rw [List.head?_drop] at hx
  exact h2 x hx
/-- What is left without zeros at either end. -/
def trimZ (l : List Int) : List Int := trL 0 (trR 0 l)
theorem dropWhile_none {c : Int} : ∀ l : List Int, l.dropWhile (· == c) = [] ↔ ∀ x ∈ l, x = c
  | [] => by simp
  | x :: l => by
    rw [List.dropWhile_cons]
    by_cases h : x = c
    · rw [if_pos (by simp [h]), dropWhile_none l]
      simp [h]
    · rw [if_neg (by simpa using h)]
      simp [h]
theorem trimZ_none (l : List Int) : trimZ l = [] ↔ ∀ x ∈ l, x = 0 := by
  unfold trimZ trL trR
  rw [dropWhile_none]
  constructor
  · intro h
    have h3 : ∀ x ∈ l.reverse.dropWhile (· == (0 : Int)), x = 0 := fun x hx => h x (by simpa using hx)
    have h2 : l.reverse.dropWhile (· == (0 : Int)) = [] := by
      cases hd : l.reverse.dropWhile (· == (0 : Int)) with
      | nil => rfl
      | cons y ys =>
        have hy : y = 0 := h3 y (by rw [hd]; simp)
        have := List.head?_dropWhile_not (· == (0 : Int)) l.reverse
        rw [hd] at this
        simp [hy] at this
    intro x hx
    exact (dropWhile_none _).1 h2 x (by simpa using hx)
  · intro h x hx
    have : l.reverse.dropWhile (· == (0 : Int)) = [] := (dropWhile_none _).2 fun x hx => h x (by simpa using hx)
    rw [this] at hx
    simp at hx
theorem trimRightByte (l : List Int) (c : Int) : aFun Tryd.prog 43 [.sl (numB .u8 l), .int .u8 c] (.sl (numB .u8 (trR c l))) := by
  refine aFun_body Tryd.func43 rfl rfl (by simp [Tryd.ntmps43]) fun hreal h nx hfresh => ?_
  rw [Tryd.ntmps43]
  have hb := (hreal (.sl (numB .u8 l)) (by simp)).num.1
  have FX := Fx0
  repeat (first | refine v_ ?_ | refine u_ ?_ | refine nl_ ?_ | (refine nz_ ?_; first | (show aWp _ _ _ _ _) | skip) | refine sq_ ?_ | refine rg_ ?_ | refine k_ ?_ | refine ct_ ?_ | refine cf_ ?_ | refine bk_ ?_ | refine sc_ ?_ | (refine sk_ ?_; first | (show aWp _ _ _ _ _) | skip) | (refine ex_ ?_; first | (show aWp _ _ _ _ _) | skip) | refine rt_ ?_)
  refine W_loopK [1] nx (fun r tm h q => ∃ i : Nat, i ≤ l.length ∧ i = r ∧ tm 0 = .sl (numB .u8 (l.take i)) ∧ ∀ x ∈ l.drop i, x = c) l.length (by omega) ⟨l.length, Nat.le_refl _, rfl, by (have FX := Fx.mk (((fun α : Type => @List.take_length α))); exact cl_), fun x hx => by simp at hx⟩ ?_
  rintro r tm' h' k' ⟨i, hi, rfl, h0, hall⟩ hag hh hk'
  have hl : (l.take i).length = i := by simp; omega
  have nl := numB_len .u8 (l.take i)
  cases i with
  | zero =>
    have hd : decide ((0 : Int) < ((0 : Nat) : Int)) = false := rfl
    have FX := Fx.mk (And.intro @hag <| And.intro @h0 <| And.intro @hl <| And.intro @hd <| @numB_len)
    repeat (first | refine v_ ?_ | refine u_ ?_ | refine nl_ ?_ | (refine nz_ ?_; first | (show aWp _ _ _ _ _) | skip) | refine sq_ ?_ | refine rg_ ?_ | refine k_ ?_ | refine ct_ ?_ | refine cf_ ?_ | refine bk_ ?_ | refine sc_ ?_ | (refine sk_ ?_; first | (show aWp _ _ _ _ _) | skip) | (refine ex_ ?_; first | (show aWp _ _ _ _ _) | skip) | refine rt_ ?_)
    have e := trR_of c l 0 (by omega) hall (fun q x e => by omega)
    (have FX := Fx.mk (And.intro @h0 <| And.intro @hh <| @e); exact end_ Tryd.results43)
  | succ q =>
    have hd : decide ((0 : Int) < ((q + 1 : Nat) : Int)) = true := decide_eq_true (by omega)
    have hw : IntKind.i64.wrap (((q + 1 : Nat) : Int) - 1) = (q : Int) := by rw [wrapI] <;> omega
    obtain ⟨x, hx⟩ : ∃ x, l[q]? = some x := ⟨_, List.getElem?_eq_getElem (by omega)⟩
    have hx2 : (l.take (q + 1))[q]? = some x := by rw [List.getElem?_take, if_pos (by omega)]; exact hx
    have hx3 := numB_get .u8 _ q x hx2
    have ht : (l.take (q + 1)).take q = l.take q := by rw [List.take_take]; congr 1; omega
    by_cases hc : x = c
    · have hd2 : decide (x = c) = true := decide_eq_true hc
      have FX := Fx.mk (And.intro @hag <| And.intro @h0 <| And.intro @hl <| And.intro @hd <| And.intro @hw <| And.intro @hx3 <| And.intro @hd2 <| @numB_len)
      repeat (first | refine v_ ?_ | refine u_ ?_ | refine nl_ ?_ | (refine nz_ ?_; first | (show aWp _ _ _ _ _) | skip) | refine sq_ ?_ | refine rg_ ?_ | refine k_ ?_ | refine ct_ ?_ | refine cf_ ?_ | refine bk_ ?_ | refine sc_ ?_ | (refine sk_ ?_; first | (show aWp _ _ _ _ _) | skip) | (refine ex_ ?_; first | (show aWp _ _ _ _ _) | skip) | refine rt_ ?_)
      refine ⟨q, by omega, ⟨q, by omega, rfl, by (have FX := Fx.mk (@ht); exact cl_), fun y hy => ?_⟩, ?_, ?_, by first | omega | (simp only; omega), rfl⟩
      · rw [List.drop_eq_getElem_cons (by omega)] at hy
        rcases List.mem_cons.1 hy with hy | hy
        · rw [List.getElem?_eq_getElem (by omega)] at hx; rw [hy, Option.some.inj hx]; exact hc
        · exact hall y hy
      · repeat (refine KAgree.upd rfl ?_)
        first | exact KAgree.refl _ _ | exact hag
      · exact (by have FX := Fx.mk (@hh); exact ha_)
    · have hd2 : decide (x = c) = false := decide_eq_false hc
      have FX := Fx.mk (And.intro @hag <| And.intro @h0 <| And.intro @hl <| And.intro @hd <| And.intro @hw <| And.intro @hx3 <| And.intro @hd2 <| @numB_len)
      repeat (first | refine v_ ?_ | refine u_ ?_ | refine nl_ ?_ | (refine nz_ ?_; first | (show aWp _ _ _ _ _) | skip) | refine sq_ ?_ | refine rg_ ?_ | refine k_ ?_ | refine ct_ ?_ | refine cf_ ?_ | refine bk_ ?_ | refine sc_ ?_ | (refine sk_ ?_; first | (show aWp _ _ _ _ _) | skip) | (refine ex_ ?_; first | (show aWp _ _ _ _ _) | skip) | refine rt_ ?_)
      have e := trR_of c l (q + 1) (by omega) hall (fun q' y e hy => by
        obtain rfl : q = q' := by omega
        rw [hx] at hy; cases hy; exact hc)
      (have FX := Fx.mk (And.intro @h0 <| And.intro @hh <| @e); exact end_ Tryd.results43)
theorem trimLeftByte (l : List Int) (c : Int) : aFun Tryd.prog 42 [.sl (numB .u8 l), .int .u8 c] (.sl (numB .u8 (trL c l))) := by
  refine aFun_body Tryd.func42 rfl rfl (by simp [Tryd.ntmps42]) fun hreal h nx hfresh => ?_
  rw [Tryd.ntmps42]
  have hb := (hreal (.sl (numB .u8 l)) (by simp)).num.1
  have FX := Fx0
  repeat (first | refine v_ ?_ | refine u_ ?_ | refine nl_ ?_ | (refine nz_ ?_; first | (show aWp _ _ _ _ _) | skip) | refine sq_ ?_ | refine rg_ ?_ | refine k_ ?_ | refine ct_ ?_ | refine cf_ ?_ | refine bk_ ?_ | refine sc_ ?_ | (refine sk_ ?_; first | (show aWp _ _ _ _ _) | skip) | (refine ex_ ?_; first | (show aWp _ _ _ _ _) | skip) | refine rt_ ?_)
  refine W_loopK [1] nx (fun r tm h q => ∃ i : Nat, i ≤ l.length ∧ r = l.length - i ∧ tm 0 = .sl (numB .u8 (l.drop i)) ∧ ∀ x ∈ l.take i, x = c) l.length (by omega) ⟨0, Nat.zero_le _, rfl, by (have FX := Fx0; exact cl_), fun x hx => by simp at hx⟩ ?_
  rintro r tm' h' k' ⟨i, hi, rfl, h0, hall⟩ hag hh hk'
  by_cases hlt : i < l.length
  · obtain ⟨x, hx⟩ : ∃ x, l[i]? = some x := ⟨_, List.getElem?_eq_getElem hlt⟩
    have hdr : l.drop i = x :: l.drop (i + 1) := by rw [List.drop_eq_getElem_cons hlt]; rw [List.getElem?_eq_getElem hlt] at hx; cases hx; rfl
    have hl : (l.drop i).length = l.length - i := by simp
    have hn0 : (0 : Int) < ((l.length - i : Nat) : Int) := by omega
    have hd : decide ((0 : Int) < ((l.length - i : Nat) : Int)) = true := decide_eq_true hn0
    have hd0 : decide (((l.length - i : Nat) : Int) = 0) = false := decide_eq_false (by omega)
    have hx3 : (numB .u8 (l.drop i))[0]? = some [.int .u8 x] := by rw [hdr]; rfl
    have hu : (1 : Int) ≤ ((l.length - i : Nat) : Int) := by omega
    have ht : (l.drop i).take (l.length - i) = l.drop i := List.take_of_length_le (by omega)
    have ht1 : (l.drop i).drop 1 = l.drop (i + 1) := by rw [List.drop_drop]
    by_cases hc : x = c
    · have hd2 : decide (x = c) = true := decide_eq_true hc
      have FX := Fx.mk (And.intro @hag <| And.intro @h0 <| And.intro @hl <| And.intro @hd <| And.intro @hx3 <| And.intro @hd2 <| And.intro @numB_len <| And.intro @hu <| And.intro @ht <| @ht1)
      repeat (first | refine v_ ?_ | refine u_ ?_ | refine nl_ ?_ | (refine nz_ ?_; first | (show aWp _ _ _ _ _) | skip) | refine sq_ ?_ | refine rg_ ?_ | refine k_ ?_ | refine ct_ ?_ | refine cf_ ?_ | refine bk_ ?_ | refine sc_ ?_ | (refine sk_ ?_; first | (show aWp _ _ _ _ _) | skip) | (refine ex_ ?_; first | (show aWp _ _ _ _ _) | skip) | refine rt_ ?_)
      refine ⟨l.length - (i + 1), by omega, ⟨i + 1, by omega, rfl, by (have FX := Fx0; exact cl_), fun y hy => ?_⟩, ?_, ?_, by first | omega | (simp only; omega), rfl⟩
      · rw [List.take_add_one, hx] at hy
        rcases List.mem_append.1 hy with hy | hy
        · exact hall y hy
        · simp at hy; subst hy; exact hc
      · repeat (refine KAgree.upd rfl ?_)
        first | exact KAgree.refl _ _ | exact hag
      · exact (by have FX := Fx.mk (@hh); exact ha_)
    · have hd2 : decide (x = c) = false := decide_eq_false hc
      have FX := Fx.mk (And.intro @hag <| And.intro @h0 <| And.intro @hl <| And.intro @hd <| And.intro @hx3 <| And.intro @hd2 <| And.intro @hd0 <| @numB_len)
      repeat (first | refine v_ ?_ | refine u_ ?_ | refine nl_ ?_ | (refine nz_ ?_; first | (show aWp _ _ _ _ _) | skip) | refine sq_ ?_ | refine rg_ ?_ | refine k_ ?_ | refine ct_ ?_ | refine cf_ ?_ | refine bk_ ?_ | refine sc_ ?_ | (refine sk_ ?_; first | (show aWp _ _ _ _ _) | skip) | (refine ex_ ?_; first | (show aWp _ _ _ _ _) | skip) | refine rt_ ?_)
      have e := trL_of c l i hall (fun y hy => by rw [hx] at hy; cases hy; exact hc)
      (have FX := Fx.mk (And.intro @h0 <| And.intro @hh <| @e); exact end_ Tryd.results42)
  · obtain rfl : i = l.length := by omega
    have hl : (l.drop l.length).length = 0 := by simp
    have hd : decide ((0 : Int) < ((0 : Nat) : Int)) = false := rfl
    have hd0 : decide (((0 : Nat) : Int) = 0) = true := rfl
    have FX := Fx.mk (And.intro @hag <| And.intro @h0 <| And.intro @hl <| And.intro @hd <| And.intro @hd0 <| @numB_len)
    repeat (first | refine v_ ?_ | refine u_ ?_ | refine nl_ ?_ | (refine nz_ ?_; first | (show aWp _ _ _ _ _) | skip) | refine sq_ ?_ | refine rg_ ?_ | refine k_ ?_ | refine ct_ ?_ | refine cf_ ?_ | refine bk_ ?_ | refine sc_ ?_ | (refine sk_ ?_; first | (show aWp _ _ _ _ _) | skip) | (refine ex_ ?_; first | (show aWp _ _ _ _ _) | skip) | refine rt_ ?_)
    have e := trL_of c l l.length hall (fun y hy => by simp at hy)
    have e2 : trL c l = [] := by rw [e]; simp
    (have FX := Fx.mk (And.intro @h0 <| And.intro @hh <| @e2); exact end_ Tryd.results42)
theorem bytes_Trim (l : List Int) : aFun Tryd.prog 30 [.sl (numB .u8 l), .str [0]] (.sl (numB .u8 (trimZ l))) := by
  have i1 := aIndex_s
  have e1 : ∀ tm : Nat → AV, evA tm (.const (.string { data := #[] })) = .str [] := fun _ => rfl
  have d1 : decide (([0] : List Int) = []) = false := rfl
  have d3 : decide ((0 : Int) < 128) = true := rfl
  have d4 : decide (((1 : Nat) : Int) = 1) = true := rfl
  by_cases h0 : l = []
  · subst h0
    have e : trimZ [] = [] := rfl
    rw [e]
    have d0 : decide (((0 : Nat) : Int) = 0) = true := rfl
    refine aFun_body Tryd.func30 rfl rfl (by simp [Tryd.ntmps30]) fun hreal h nx hfresh => ?_
    rw [Tryd.ntmps30]
    have FX := Fx.mk (@d0)
    repeat (first | refine v_ ?_ | refine u_ ?_ | refine nl_ ?_ | (refine nz_ ?_; first | (show aWp _ _ _ _ _) | skip) | refine sq_ ?_ | refine rg_ ?_ | refine k_ ?_ | refine ct_ ?_ | refine cf_ ?_ | refine bk_ ?_ | refine sc_ ?_ | (refine sk_ ?_; first | (show aWp _ _ _ _ _) | skip) | (refine ex_ ?_; first | (show aWp _ _ _ _ _) | skip) | refine rt_ ?_)
    (have FX := Fx0; exact end_ Tryd.results30)
  · have d0 : decide ((l.length : Int) = 0) = false := decide_eq_false (by
      have : l.length ≠ 0 := fun q => h0 (List.eq_nil_of_length_eq_zero q)
      omega)
    refine aFun_body Tryd.func30 rfl rfl (by simp [Tryd.ntmps30]) fun hreal h nx hfresh => ?_
    rw [Tryd.ntmps30]
    have FX := Fx.mk (And.intro @d0 <| And.intro @d1 <| And.intro @d3 <| And.intro @d4 <| And.intro @e1 <| @i1)
    repeat (first | refine v_ ?_ | refine u_ ?_ | refine nl_ ?_ | (refine nz_ ?_; first | (show aWp _ _ _ _ _) | skip) | refine sq_ ?_ | refine rg_ ?_ | refine k_ ?_ | refine ct_ ?_ | refine cf_ ?_ | refine bk_ ?_ | refine sc_ ?_ | (refine sk_ ?_; first | (show aWp _ _ _ _ _) | skip) | (refine ex_ ?_; first | (show aWp _ _ _ _ _) | skip) | refine rt_ ?_)
    have FX := Fx.mk (And.intro @d0 <| And.intro @d1 <| And.intro @d3 <| And.intro @d4 <| And.intro @e1 <| @i1)
    refine W_draw mixed rfl rfl ?_
    repeat (first | refine dq_ ?_ | refine df_ (trimRightByte l 0) ?_ | refine df_ (trimLeftByte (trR 0 l) 0) ?_ | refine dr_ [nx] ?_ | refine dk_ ?_ | refine dn_ ?_)
    refine fun kd hkd => ?_
    simp only [List.length_cons, List.length_nil] at hkd
    first | (show aWp _ _ _ _ _) | skip
    have FX := Fx0
    repeat (first | refine v_ ?_ | refine u_ ?_ | refine nl_ ?_ | (refine nz_ ?_; first | (show aWp _ _ _ _ _) | skip) | refine sq_ ?_ | refine rg_ ?_ | refine k_ ?_ | refine ct_ ?_ | refine cf_ ?_ | refine bk_ ?_ | refine sc_ ?_ | (refine sk_ ?_; first | (show aWp _ _ _ _ _) | skip) | (refine ex_ ?_; first | (show aWp _ _ _ _ _) | skip) | refine rt_ ?_)
    have ez : trimZ l = trL 0 (trR 0 l) := rfl
    (have FX := Fx.mk (@ez); exact end_ Tryd.results30)
theorem bytes_Equal4 (a b : List Int) : aFun Tryd.prog 41 [.sl (numB .u8 a), .sl (numB .u8 b)] (.bool (decide (a = b))) := by
  refine aFun_body Tryd.func41 rfl rfl (by simp [Tryd.ntmps41]) fun hreal h nx hfresh => ?_
  rw [Tryd.ntmps41]
  have FX := Fx0
  repeat (first | refine v_ ?_ | refine u_ ?_ | refine nl_ ?_ | (refine nz_ ?_; first | (show aWp _ _ _ _ _) | skip) | refine sq_ ?_ | refine rg_ ?_ | refine k_ ?_ | refine ct_ ?_ | refine cf_ ?_ | refine bk_ ?_ | refine sc_ ?_ | (refine sk_ ?_; first | (show aWp _ _ _ _ _) | skip) | (refine ex_ ?_; first | (show aWp _ _ _ _ _) | skip) | refine rt_ ?_)
  (have FX := Fx0; exact end_ Tryd.results41)
theorem bytes_HasPrefix (a b : List Int) : aFun Tryd.prog 29 [.sl (numB .u8 a), .sl (numB .u8 b)] (.bool (decide (b <+: a))) := by
  by_cases h : b.length ≤ a.length
  · have d1 : decide ((b.length : Int) ≤ (a.length : Int)) = true := decide_eq_true (by omega)
    have hb : (b.length : Int) ≤ (a.length : Int) := by omega
    have e := bytes_Equal4 (a.take b.length) b
    have e2 : decide (a.take b.length = b) = decide (b <+: a) := by
      refine decide_eq_decide.2 ?_
      rw [List.prefix_iff_eq_take]
      exact ⟨Eq.symm, Eq.symm⟩
    rw [e2] at e
    refine aFun_body Tryd.func29 rfl rfl (by simp [Tryd.ntmps29]) fun hreal h nx hfresh => ?_
    rw [Tryd.ntmps29]
    have FX := Fx.mk (And.intro @d1 <| @hb)
    repeat (first | refine v_ ?_ | refine u_ ?_ | refine f_ (e) fun kf hkf => ?_ | refine nl_ ?_ | (refine nz_ ?_; first | (show aWp _ _ _ _ _) | skip) | refine sq_ ?_ | refine rg_ ?_ | refine k_ ?_ | refine ct_ ?_ | refine cf_ ?_ | refine bk_ ?_ | refine sc_ ?_ | (refine sk_ ?_; first | (show aWp _ _ _ _ _) | skip) | (refine ex_ ?_; first | (show aWp _ _ _ _ _) | skip) | refine rt_ ?_)
    (have FX := Fx0; exact end_ Tryd.results29)
  · have d1 : decide ((b.length : Int) ≤ (a.length : Int)) = false := decide_eq_false (by omega)
    have e : decide (b <+: a) = false := decide_eq_false fun q => h q.length_le
    rw [e]
    refine aFun_body Tryd.func29 rfl rfl (by simp [Tryd.ntmps29]) fun hreal h nx hfresh => ?_
    rw [Tryd.ntmps29]
    have FX := Fx.mk (@d1)
    repeat (first | refine v_ ?_ | refine u_ ?_ | refine nl_ ?_ | (refine nz_ ?_; first | (show aWp _ _ _ _ _) | skip) | refine sq_ ?_ | refine rg_ ?_ | refine k_ ?_ | refine ct_ ?_ | refine cf_ ?_ | refine bk_ ?_ | refine sc_ ?_ | (refine sk_ ?_; first | (show aWp _ _ _ _ _) | skip) | (refine ex_ ?_; first | (show aWp _ _ _ _ _) | skip) | refine rt_ ?_)
    (have FX := Fx0; exact end_ Tryd.results29)
end Go.Proofs.YtnlanfcboiemaaaDoor.AE
