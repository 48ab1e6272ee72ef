/- Texts H1, H2. -/
import Derived.Test.YtjidgdfdeckofaaDoorV15
/- Layer 3: may, Check, New. -/
namespace Go.Proofs.YtjidgdfdeckofaaDoor.AE
open Go Go.RowKit Go.Proofs Go.Proofs.YtjidgdfdeckofaaDoor
set_option linter.unusedVariables false
set_option linter.unusedSimpArgs false
set_option maxRecDepth 100000
set_option maxHeartbeats 8000000
theorem host_New (n : Int) : aFun Tryd.prog 51 [.int .i64 n] (if 1 ≤ n ∧ n ≤ 65536 then .tup [hostV [] [] n, .int .i64 0] else .tup [hostV [] [] 0, .int .i64 4]) := by
  by_cases h1 : n < 1
  · rw [if_neg (by omega)]
    unfold hostV
    have d1 : decide (n < 1) = true := decide_eq_true h1
    refine aFun_body Tryd.func51 rfl rfl (by simp [Tryd.ntmps51]) fun hreal h nx hfresh => ?_
    rw [Tryd.ntmps51]
    have FX := Fx.mk (@d1)
    repeat (first | refine v_ ?_ | refine u_ ?_ | refine nl_ ?_ | (refine nz_ ?_; first | (show aWp _ _ _ _ _) | skip) | refine sq_ ?_ | refine rg_ ?_ | refine k_ ?_ | refine ct_ ?_ | refine cf_ ?_ | refine bk_ ?_ | refine sc_ ?_ | (refine sk_ ?_; first | (show aWp _ _ _ _ _) | skip) | (refine ex_ ?_; first | (show aWp _ _ _ _ _) | skip) | refine rt_ ?_)
    (have FX := Fx0; exact end_ Tryd.results51)
  have d1 : decide (n < 1) = false := decide_eq_false h1
  by_cases h2 : 65536 < n
  · rw [if_neg (by omega)]
    unfold hostV
    have d2 : decide (65536 < n) = true := decide_eq_true h2
    refine aFun_body Tryd.func51 rfl rfl (by simp [Tryd.ntmps51]) fun hreal h nx hfresh => ?_
    rw [Tryd.ntmps51]
    have FX := Fx.mk (And.intro @d1 <| @d2)
    repeat (first | refine v_ ?_ | refine u_ ?_ | refine nl_ ?_ | (refine nz_ ?_; first | (show aWp _ _ _ _ _) | skip) | refine sq_ ?_ | refine rg_ ?_ | refine k_ ?_ | refine ct_ ?_ | refine cf_ ?_ | refine bk_ ?_ | refine sc_ ?_ | (refine sk_ ?_; first | (show aWp _ _ _ _ _) | skip) | (refine ex_ ?_; first | (show aWp _ _ _ _ _) | skip) | refine rt_ ?_)
    (have FX := Fx0; exact end_ Tryd.results51)
  · rw [if_pos (by omega)]
    unfold hostV
    have d2 : decide (65536 < n) = false := decide_eq_false h2
    refine aFun_body Tryd.func51 rfl rfl (by simp [Tryd.ntmps51]) fun hreal h nx hfresh => ?_
    rw [Tryd.ntmps51]
    have FX := Fx.mk (And.intro @d1 <| @d2)
    repeat (first | refine v_ ?_ | refine u_ ?_ | refine nl_ ?_ | (refine nz_ ?_; first | (show aWp _ _ _ _ _) | skip) | refine sq_ ?_ | refine rg_ ?_ | refine k_ ?_ | refine ct_ ?_ | refine cf_ ?_ | refine bk_ ?_ | refine sc_ ?_ | (refine sk_ ?_; first | (show aWp _ _ _ _ _) | skip) | (refine ex_ ?_; first | (show aWp _ _ _ _ _) | skip) | refine rt_ ?_)
    (have FX := Fx0; exact end_ Tryd.results51)
theorem act_may (x y cap : Int) (d : List Int) : aFun Tryd.prog 24 [.agg [.int .i64 x, .int .i64 y, .sl (numB .u8 d)], .int .i64 cap] (.bool (decide (mayP cap (x, y, d)))) := by
  have hn := numB_len .u8 d
  by_cases h1 : x = 1
  · have d1 : decide (x = 1) = true := decide_eq_true h1
    by_cases h2 : 0 ≤ y
    · have d2 : decide (0 ≤ y) = true := decide_eq_true h2
      by_cases h3 : y < cap
      · have d3 : decide (y < cap) = true := decide_eq_true h3
        by_cases h4 : d.length = 64
        · have d4 : decide ((d.length : Int) = 64) = true := decide_eq_true (by omega)
          rw [show decide (mayP cap (x, y, d)) = true from decide_eq_true (by unfold mayP; dsimp only; omega)]
          refine aFun_body Tryd.func24 rfl rfl (by simp [Tryd.ntmps24]) fun hreal h nx hfresh => ?_
          rw [Tryd.ntmps24]
          have FX := Fx.mk (And.intro @hn <| And.intro @d1 <| And.intro @d2 <| And.intro @d3 <| @d4)
          repeat (first | refine v_ ?_ | refine u_ ?_ | refine nl_ ?_ | (refine nz_ ?_; first | (show aWp _ _ _ _ _) | skip) | refine sq_ ?_ | refine rg_ ?_ | refine k_ ?_ | refine ct_ ?_ | refine cf_ ?_ | refine bk_ ?_ | refine sc_ ?_ | (refine sk_ ?_; first | (show aWp _ _ _ _ _) | skip) | (refine ex_ ?_; first | (show aWp _ _ _ _ _) | skip) | refine rt_ ?_)
          (have FX := Fx0; exact end_ Tryd.results24)
        · have d4 : decide ((d.length : Int) = 64) = false := decide_eq_false (by omega)
          rw [show decide (mayP cap (x, y, d)) = false from decide_eq_false (by unfold mayP; dsimp only; omega)]
          refine aFun_body Tryd.func24 rfl rfl (by simp [Tryd.ntmps24]) fun hreal h nx hfresh => ?_
          rw [Tryd.ntmps24]
          have FX := Fx.mk (And.intro @hn <| And.intro @d1 <| And.intro @d2 <| And.intro @d3 <| @d4)
          repeat (first | refine v_ ?_ | refine u_ ?_ | refine nl_ ?_ | (refine nz_ ?_; first | (show aWp _ _ _ _ _) | skip) | refine sq_ ?_ | refine rg_ ?_ | refine k_ ?_ | refine ct_ ?_ | refine cf_ ?_ | refine bk_ ?_ | refine sc_ ?_ | (refine sk_ ?_; first | (show aWp _ _ _ _ _) | skip) | (refine ex_ ?_; first | (show aWp _ _ _ _ _) | skip) | refine rt_ ?_)
          (have FX := Fx0; exact end_ Tryd.results24)
      · have d3 : decide (y < cap) = false := decide_eq_false h3
        rw [show decide (mayP cap (x, y, d)) = false from decide_eq_false (by unfold mayP; dsimp only; omega)]
        refine aFun_body Tryd.func24 rfl rfl (by simp [Tryd.ntmps24]) fun hreal h nx hfresh => ?_
        rw [Tryd.ntmps24]
        have FX := Fx.mk (And.intro @hn <| And.intro @d1 <| And.intro @d2 <| @d3)
        repeat (first | refine v_ ?_ | refine u_ ?_ | refine nl_ ?_ | (refine nz_ ?_; first | (show aWp _ _ _ _ _) | skip) | refine sq_ ?_ | refine rg_ ?_ | refine k_ ?_ | refine ct_ ?_ | refine cf_ ?_ | refine bk_ ?_ | refine sc_ ?_ | (refine sk_ ?_; first | (show aWp _ _ _ _ _) | skip) | (refine ex_ ?_; first | (show aWp _ _ _ _ _) | skip) | refine rt_ ?_)
        (have FX := Fx0; exact end_ Tryd.results24)
    · have d2 : decide (0 ≤ y) = false := decide_eq_false h2
      rw [show decide (mayP cap (x, y, d)) = false from decide_eq_false (by unfold mayP; dsimp only; omega)]
      refine aFun_body Tryd.func24 rfl rfl (by simp [Tryd.ntmps24]) fun hreal h nx hfresh => ?_
      rw [Tryd.ntmps24]
      have FX := Fx.mk (And.intro @hn <| And.intro @d1 <| @d2)
      repeat (first | refine v_ ?_ | refine u_ ?_ | refine nl_ ?_ | (refine nz_ ?_; first | (show aWp _ _ _ _ _) | skip) | refine sq_ ?_ | refine rg_ ?_ | refine k_ ?_ | refine ct_ ?_ | refine cf_ ?_ | refine bk_ ?_ | refine sc_ ?_ | (refine sk_ ?_; first | (show aWp _ _ _ _ _) | skip) | (refine ex_ ?_; first | (show aWp _ _ _ _ _) | skip) | refine rt_ ?_)
      (have FX := Fx0; exact end_ Tryd.results24)
  have d1 : decide (x = 1) = false := decide_eq_false h1
  by_cases h0 : x = 2
  · have d0 : decide (x = 2) = true := decide_eq_true h0
    by_cases h2 : 0 ≤ y
    · have d2 : decide (0 ≤ y) = true := decide_eq_true h2
      by_cases h3 : y ≤ cap
      · have d3 : decide (y ≤ cap) = true := decide_eq_true h3
        by_cases h4 : d.length = 0
        · have d4 : decide ((d.length : Int) = 0) = true := decide_eq_true (by omega)
          rw [show decide (mayP cap (x, y, d)) = true from decide_eq_true (by unfold mayP; dsimp only; omega)]
          refine aFun_body Tryd.func24 rfl rfl (by simp [Tryd.ntmps24]) fun hreal h nx hfresh => ?_
          rw [Tryd.ntmps24]
          have FX := Fx.mk (And.intro @hn <| And.intro @d0 <| And.intro @d1 <| And.intro @d2 <| And.intro @d3 <| @d4)
          repeat (first | refine v_ ?_ | refine u_ ?_ | refine nl_ ?_ | (refine nz_ ?_; first | (show aWp _ _ _ _ _) | skip) | refine sq_ ?_ | refine rg_ ?_ | refine k_ ?_ | refine ct_ ?_ | refine cf_ ?_ | refine bk_ ?_ | refine sc_ ?_ | (refine sk_ ?_; first | (show aWp _ _ _ _ _) | skip) | (refine ex_ ?_; first | (show aWp _ _ _ _ _) | skip) | refine rt_ ?_)
          (have FX := Fx0; exact end_ Tryd.results24)
        · have d4 : decide ((d.length : Int) = 0) = false := decide_eq_false (by omega)
          rw [show decide (mayP cap (x, y, d)) = false from decide_eq_false (by unfold mayP; dsimp only; omega)]
          refine aFun_body Tryd.func24 rfl rfl (by simp [Tryd.ntmps24]) fun hreal h nx hfresh => ?_
          rw [Tryd.ntmps24]
          have FX := Fx.mk (And.intro @hn <| And.intro @d0 <| And.intro @d1 <| And.intro @d2 <| And.intro @d3 <| @d4)
          repeat (first | refine v_ ?_ | refine u_ ?_ | refine nl_ ?_ | (refine nz_ ?_; first | (show aWp _ _ _ _ _) | skip) | refine sq_ ?_ | refine rg_ ?_ | refine k_ ?_ | refine ct_ ?_ | refine cf_ ?_ | refine bk_ ?_ | refine sc_ ?_ | (refine sk_ ?_; first | (show aWp _ _ _ _ _) | skip) | (refine ex_ ?_; first | (show aWp _ _ _ _ _) | skip) | refine rt_ ?_)
          (have FX := Fx0; exact end_ Tryd.results24)
      · have d3 : decide (y ≤ cap) = false := decide_eq_false h3
        rw [show decide (mayP cap (x, y, d)) = false from decide_eq_false (by unfold mayP; dsimp only; omega)]
        refine aFun_body Tryd.func24 rfl rfl (by simp [Tryd.ntmps24]) fun hreal h nx hfresh => ?_
        rw [Tryd.ntmps24]
        have FX := Fx.mk (And.intro @hn <| And.intro @d0 <| And.intro @d1 <| And.intro @d2 <| @d3)
        repeat (first | refine v_ ?_ | refine u_ ?_ | refine nl_ ?_ | (refine nz_ ?_; first | (show aWp _ _ _ _ _) | skip) | refine sq_ ?_ | refine rg_ ?_ | refine k_ ?_ | refine ct_ ?_ | refine cf_ ?_ | refine bk_ ?_ | refine sc_ ?_ | (refine sk_ ?_; first | (show aWp _ _ _ _ _) | skip) | (refine ex_ ?_; first | (show aWp _ _ _ _ _) | skip) | refine rt_ ?_)
        (have FX := Fx0; exact end_ Tryd.results24)
    · have d2 : decide (0 ≤ y) = false := decide_eq_false h2
      rw [show decide (mayP cap (x, y, d)) = false from decide_eq_false (by unfold mayP; dsimp only; omega)]
      refine aFun_body Tryd.func24 rfl rfl (by simp [Tryd.ntmps24]) fun hreal h nx hfresh => ?_
      rw [Tryd.ntmps24]
      have FX := Fx.mk (And.intro @hn <| And.intro @d0 <| And.intro @d1 <| @d2)
      repeat (first | refine v_ ?_ | refine u_ ?_ | refine nl_ ?_ | (refine nz_ ?_; first | (show aWp _ _ _ _ _) | skip) | refine sq_ ?_ | refine rg_ ?_ | refine k_ ?_ | refine ct_ ?_ | refine cf_ ?_ | refine bk_ ?_ | refine sc_ ?_ | (refine sk_ ?_; first | (show aWp _ _ _ _ _) | skip) | (refine ex_ ?_; first | (show aWp _ _ _ _ _) | skip) | refine rt_ ?_)
      (have FX := Fx0; exact end_ Tryd.results24)
  · have d0 : decide (x = 2) = false := decide_eq_false h0
    rw [show decide (mayP cap (x, y, d)) = false from decide_eq_false (by unfold mayP; dsimp only; omega)]
    refine aFun_body Tryd.func24 rfl rfl (by simp [Tryd.ntmps24]) fun hreal h nx hfresh => ?_
    rw [Tryd.ntmps24]
    have FX := Fx.mk (And.intro @hn <| And.intro @d0 <| @d1)
    repeat (first | refine v_ ?_ | refine u_ ?_ | refine nl_ ?_ | (refine nz_ ?_; first | (show aWp _ _ _ _ _) | skip) | refine sq_ ?_ | refine rg_ ?_ | refine k_ ?_ | refine ct_ ?_ | refine cf_ ?_ | refine bk_ ?_ | refine sc_ ?_ | (refine sk_ ?_; first | (show aWp _ _ _ _ _) | skip) | (refine ex_ ?_; first | (show aWp _ _ _ _ _) | skip) | refine rt_ ?_)
    (have FX := Fx0; exact end_ Tryd.results24)
theorem Check1 (s : List Int) : aFun Tryd.prog 20 [.sl (numB .u8 s)] (.bool (decide (s.length ≠ 64))) := by
  have hn := numB_len .u8 s
  by_cases h : s.length = 64
  · rw [show decide (s.length ≠ 64) = false from decide_eq_false (by omega)]
    have d4 : decide ((s.length : Int) = 64) = true := decide_eq_true (by omega)
    refine aFun_body Tryd.func20 rfl rfl (by simp [Tryd.ntmps20]) fun hreal h nx hfresh => ?_
    rw [Tryd.ntmps20]
    have FX := Fx.mk (And.intro @hn <| @d4)
    repeat (first | refine v_ ?_ | refine u_ ?_ | refine nl_ ?_ | (refine nz_ ?_; first | (show aWp _ _ _ _ _) | skip) | refine sq_ ?_ | refine rg_ ?_ | refine k_ ?_ | refine ct_ ?_ | refine cf_ ?_ | refine bk_ ?_ | refine sc_ ?_ | (refine sk_ ?_; first | (show aWp _ _ _ _ _) | skip) | (refine ex_ ?_; first | (show aWp _ _ _ _ _) | skip) | refine rt_ ?_)
    (have FX := Fx0; exact end_ Tryd.results20)
  · rw [show decide (s.length ≠ 64) = true from decide_eq_true (by omega)]
    have d4 : decide ((s.length : Int) = 64) = false := decide_eq_false (by omega)
    refine aFun_body Tryd.func20 rfl rfl (by simp [Tryd.ntmps20]) fun hreal h nx hfresh => ?_
    rw [Tryd.ntmps20]
    have FX := Fx.mk (And.intro @hn <| @d4)
    repeat (first | refine v_ ?_ | refine u_ ?_ | refine nl_ ?_ | (refine nz_ ?_; first | (show aWp _ _ _ _ _) | skip) | refine sq_ ?_ | refine rg_ ?_ | refine k_ ?_ | refine ct_ ?_ | refine cf_ ?_ | refine bk_ ?_ | refine sc_ ?_ | (refine sk_ ?_; first | (show aWp _ _ _ _ _) | skip) | (refine ex_ ?_; first | (show aWp _ _ _ _ _) | skip) | refine rt_ ?_)
    (have FX := Fx0; exact end_ Tryd.results20)
theorem Check2 (x y cap : Int) (d : List Int) (m : Nat) (a b : AV) {h : AHeap} {nx : Nat} (hm : h m = some ⟨3, [[a, b, .int .i64 cap]]⟩) :
    aEff Tryd.prog 23 [.agg [.int .i64 x, .int .i64 y, .sl (numB .u8 d)], .ptr m 0 0] h nx (.bool (!decide (mayP cap (x, y, d)))) h := by
  have mp := act_may x y cap d
  refine aEff_body Tryd.func23 rfl rfl (by simp [Tryd.ntmps23]) fun hreal hfresh => ⟨?_, ?_⟩
  · exact hfresh
  rw [Tryd.ntmps23]
  have hlt : m < nx := by
    rcases Nat.lt_or_ge m nx with q | q
    · exact q
    · rw [hfresh m q] at hm; cases hm
  have FX := Fx.mk (@hm)
  repeat (first | refine v_ ?_ | refine u_ ?_ | refine f_ (mp) fun kf hkf => ?_ | refine nl_ ?_ | (refine nz_ ?_; first | (show aWp _ _ _ _ _) | skip) | refine sq_ ?_ | refine rg_ ?_ | refine k_ ?_ | refine ct_ ?_ | refine cf_ ?_ | refine bk_ ?_ | refine sc_ ?_ | (refine sk_ ?_; first | (show aWp _ _ _ _ _) | skip) | (refine ex_ ?_; first | (show aWp _ _ _ _ _) | skip) | refine rt_ ?_)
  (have FX := Fx0; exact end_ Tryd.results23)
/-- Where the first stands of which it is so. -/
def idxP {α : Type} (p : α → Bool) (L : List α) : Int := if L.any p = true then (L.findIdx p : Int) else -1
theorem idx_yes {α : Type} {p : α → Bool} {L : List α} {i : Nat} {a : α} (h : L[i]? = some a) (hp : p a = true) (hn : ∀ j < i, ∀ b, L[j]? = some b → p b = false) : idxP p L = (i : Int) := by
  have hi := (List.getElem?_eq_some_iff.1 h).1
  have ha := (List.getElem?_eq_some_iff.1 h).2
  unfold idxP
  rw [if_pos (List.any_eq_true.2 ⟨a, List.mem_of_getElem? h, hp⟩)]
  congr 1
  refine (List.findIdx_eq hi).2 ⟨by rw [ha]; exact hp, fun j hj => ?_⟩
  have := hn j hj L[j] (List.getElem?_eq_getElem (by omega))
  exact this
theorem idx_no {α : Type} {p : α → Bool} {L : List α} (hn : ∀ j < L.length, ∀ b, L[j]? = some b → p b = false) : idxP p L = -1 := by
  unfold idxP
  rw [if_neg]
  intro h
  obtain ⟨a, h1, h2⟩ := List.any_eq_true.1 h
  obtain ⟨j, hj⟩ := List.mem_iff_getElem?.1 h1
  rw [hn j (List.getElem?_eq_some_iff.1 hj).1 a hj] at h2
  cases h2
theorem idx_ge {α : Type} (p : α → Bool) (L : List α) : decide (0 ≤ idxP p L) = L.any p := by
  unfold idxP
  cases L.any p <;> simp
theorem Index_sec (L : List (List Int)) (f : FuncId) (cap : List AV) (p : List Int → Bool) (hcb : callable Tryd.prog f = true) {h : AHeap} {nx : Nat} (hf : ∀ (g : AHeap) (k : Nat), nx ≤ k → (∀ q, q < nx → g q = h q) → ∀ a ∈ L, aEff Tryd.prog f (.sl (numB .u8 a) :: cap) g k (.bool (p a)) g) :
    aEff Tryd.prog 46 [.sl (secB L), .fn (.func f) [] cap] h nx (.int .i64 (idxP p L)) h := by
  have e1 := secB_len L
  refine aEff_body Tryd.func46 rfl rfl (by simp [Tryd.ntmps46]) fun hreal hfresh => ⟨?_, ?_⟩
  · exact hfresh
  rw [Tryd.ntmps46]
  have hL : L.length < 4611686018427387904 := by have := (hreal (.sl (secB L)) (by simp)).sl.1; rw [e1] at this; exact this
  have FX := Fx.mk (@e1)
  repeat (first | refine v_ ?_ | refine u_ ?_ | refine nl_ ?_ | (refine nz_ ?_; first | (show aWp _ _ _ _ _) | skip) | refine sq_ ?_ | refine rg_ ?_ | refine k_ ?_ | refine ct_ ?_ | refine cf_ ?_ | refine bk_ ?_ | refine sc_ ?_ | (refine sk_ ?_; first | (show aWp _ _ _ _ _) | skip) | (refine ex_ ?_; first | (show aWp _ _ _ _ _) | skip) | refine rt_ ?_)
  refine W_loopK [0, 1, 7] nx (fun r tm h q => ∃ i : Nat, i ≤ L.length ∧ r = L.length - i ∧ tm 8 = .int .i64 i ∧ ∀ j < i, ∀ b, L[j]? = some b → p b = false) L.length (by omega) ⟨0, Nat.zero_le _, rfl, rfl, fun j hj => absurd hj (Nat.not_lt_zero _)⟩ ?_
  rintro r tm' h' k' ⟨i, hi, rfl, h8, hno⟩ hag hh hk'
  by_cases hlt : i < L.length
  · have hd : decide ((i : Int) < (L.length : Int)) = true := decide_eq_true (by omega)
    have hw : IntKind.i64.wrap (i + 1) = ((i + 1 : Nat) : Int) := by rw [wrapI] <;> omega
    obtain ⟨a, hx0⟩ : ∃ a, L[i]? = some a := ⟨L[i], List.getElem?_eq_getElem hlt⟩
    have hx := secB_get L i a hx0
    have hc := fun (k : Nat) (hk : nx ≤ k) => hf h' k hk hh a (List.mem_of_getElem? hx0)
    by_cases hp : p a = true
    · rw [hp] at hc
      rw [idx_yes hx0 hp hno]
      have FX := Fx.mk (And.intro @hag <| And.intro @h8 <| And.intro @hh <| And.intro @hd <| And.intro @hw <| And.intro @hx <| @hcb)
      repeat (first | refine v_ ?_ | refine u_ ?_ | refine xe_ ((hc _ (by omega))) fun kf hkf => ?_ | refine nl_ ?_ | (refine nz_ ?_; first | (show aWp _ _ _ _ _) | skip) | refine sq_ ?_ | refine rg_ ?_ | refine k_ ?_ | refine ct_ ?_ | refine cf_ ?_ | refine bk_ ?_ | refine sc_ ?_ | (refine sk_ ?_; first | (show aWp _ _ _ _ _) | skip) | (refine ex_ ?_; first | (show aWp _ _ _ _ _) | skip) | refine rt_ ?_)
      (have FX := Fx.mk (And.intro @hag <| @hh); exact end_ Tryd.results46)
    · have hp : p a = false := by simpa using hp
      rw [hp] at hc
      have FX := Fx.mk (And.intro @hag <| And.intro @h8 <| And.intro @hh <| And.intro @hd <| And.intro @hw <| And.intro @hx <| @hcb)
      repeat (first | refine v_ ?_ | refine u_ ?_ | refine xe_ ((hc _ (by omega))) fun kf hkf => ?_ | refine nl_ ?_ | (refine nz_ ?_; first | (show aWp _ _ _ _ _) | skip) | refine sq_ ?_ | refine rg_ ?_ | refine k_ ?_ | refine ct_ ?_ | refine cf_ ?_ | refine bk_ ?_ | refine sc_ ?_ | (refine sk_ ?_; first | (show aWp _ _ _ _ _) | skip) | (refine ex_ ?_; first | (show aWp _ _ _ _ _) | skip) | refine rt_ ?_)
      refine ⟨L.length - (i + 1), by omega, ⟨i + 1, by omega, rfl, ?_, fun j hj b hb => ?_⟩, ?_, ?_, by simp only; omega, rfl⟩
      · (have FX := Fx0; exact cl_)
      · by_cases e : j = i
        · subst e; rw [hx0] at hb; cases hb; exact hp
        · exact hno j (by omega) b hb
      · repeat (refine KAgree.upd rfl ?_)
        first | exact KAgree.refl _ _ | exact hag
      · exact (by have FX := Fx.mk (@hh); exact ha_)
  obtain rfl : i = L.length := by omega
  have hd : decide ((L.length : Int) < (L.length : Int)) = false := by simp
  rw [idx_no hno]
  have FX := Fx.mk (And.intro @hag <| And.intro @h8 <| And.intro @hh <| @hd)
  repeat (first | refine v_ ?_ | refine u_ ?_ | refine nl_ ?_ | (refine nz_ ?_; first | (show aWp _ _ _ _ _) | skip) | refine sq_ ?_ | refine rg_ ?_ | refine k_ ?_ | refine ct_ ?_ | refine cf_ ?_ | refine bk_ ?_ | refine sc_ ?_ | (refine sk_ ?_; first | (show aWp _ _ _ _ _) | skip) | (refine ex_ ?_; first | (show aWp _ _ _ _ _) | skip) | refine rt_ ?_)
  (have FX := Fx.mk (And.intro @hag <| @hh); exact end_ Tryd.results46)
theorem Contains_sec (L : List (List Int)) (f : FuncId) (cap : List AV) (p : List Int → Bool) (hcb : callable Tryd.prog f = true) {h : AHeap} {nx : Nat} (hf : ∀ (g : AHeap) (k : Nat), nx ≤ k → (∀ q, q < nx → g q = h q) → ∀ a ∈ L, aEff Tryd.prog f (.sl (numB .u8 a) :: cap) g k (.bool (p a)) g) :
    aEff Tryd.prog 21 [.sl (secB L), .fn (.func f) [] cap] h nx (.bool (L.any p)) h := by
  have hx := Index_sec L f cap p hcb hf
  have hg := idx_ge p L
  refine aEff_body Tryd.func21 rfl rfl (by simp [Tryd.ntmps21]) fun hreal hfresh => ⟨?_, ?_⟩
  · exact hfresh
  rw [Tryd.ntmps21]
  have FX := Fx.mk (@hg)
  repeat (first | refine v_ ?_ | refine u_ ?_ | refine e_ (hx) fun kf hkf => ?_ | refine nl_ ?_ | (refine nz_ ?_; first | (show aWp _ _ _ _ _) | skip) | refine sq_ ?_ | refine rg_ ?_ | refine k_ ?_ | refine ct_ ?_ | refine cf_ ?_ | refine bk_ ?_ | refine sc_ ?_ | (refine sk_ ?_; first | (show aWp _ _ _ _ _) | skip) | (refine ex_ ?_; first | (show aWp _ _ _ _ _) | skip) | refine rt_ ?_)
  (have FX := Fx0; exact end_ Tryd.results21)
theorem Index_act (L : List (Act3)) (f : FuncId) (cap : List AV) (p : Act3 → Bool) (hcb : callable Tryd.prog f = true) {h : AHeap} {nx : Nat} (hf : ∀ (g : AHeap) (k : Nat), nx ≤ k → (∀ q, q < nx → g q = h q) → ∀ a ∈ L, aEff Tryd.prog f (.agg [.int .i64 a.1, .int .i64 a.2.1, .sl (numB .u8 a.2.2)] :: cap) g k (.bool (p a)) g) :
    aEff Tryd.prog 47 [.sl (actsB L), .fn (.func f) [] cap] h nx (.int .i64 (idxP p L)) h := by
  have e1 := actsB_len L
  refine aEff_body Tryd.func47 rfl rfl (by simp [Tryd.ntmps47]) fun hreal hfresh => ⟨?_, ?_⟩
  · exact hfresh
  rw [Tryd.ntmps47]
  have hL : L.length < 4611686018427387904 := by have := (hreal (.sl (actsB L)) (by simp)).sl.1; rw [e1] at this; exact this
  have FX := Fx.mk (@e1)
  repeat (first | refine v_ ?_ | refine u_ ?_ | refine nl_ ?_ | (refine nz_ ?_; first | (show aWp _ _ _ _ _) | skip) | refine sq_ ?_ | refine rg_ ?_ | refine k_ ?_ | refine ct_ ?_ | refine cf_ ?_ | refine bk_ ?_ | refine sc_ ?_ | (refine sk_ ?_; first | (show aWp _ _ _ _ _) | skip) | (refine ex_ ?_; first | (show aWp _ _ _ _ _) | skip) | refine rt_ ?_)
  refine W_loopK [0, 1, 7] nx (fun r tm h q => ∃ i : Nat, i ≤ L.length ∧ r = L.length - i ∧ tm 8 = .int .i64 i ∧ ∀ j < i, ∀ b, L[j]? = some b → p b = false) L.length (by omega) ⟨0, Nat.zero_le _, rfl, rfl, fun j hj => absurd hj (Nat.not_lt_zero _)⟩ ?_
  rintro r tm' h' k' ⟨i, hi, rfl, h8, hno⟩ hag hh hk'
  by_cases hlt : i < L.length
  · have hd : decide ((i : Int) < (L.length : Int)) = true := decide_eq_true (by omega)
    have hw : IntKind.i64.wrap (i + 1) = ((i + 1 : Nat) : Int) := by rw [wrapI] <;> omega
    obtain ⟨a, hx0⟩ : ∃ a, L[i]? = some a := ⟨L[i], List.getElem?_eq_getElem hlt⟩
    have hx := actsB_get L i a hx0
    have hc := fun (k : Nat) (hk : nx ≤ k) => hf h' k hk hh a (List.mem_of_getElem? hx0)
    by_cases hp : p a = true
    · rw [hp] at hc
      rw [idx_yes hx0 hp hno]
      have FX := Fx.mk (And.intro @hag <| And.intro @h8 <| And.intro @hh <| And.intro @hd <| And.intro @hw <| And.intro @hx <| @hcb)
      repeat (first | refine v_ ?_ | refine u_ ?_ | refine xe_ ((hc _ (by omega))) fun kf hkf => ?_ | refine nl_ ?_ | (refine nz_ ?_; first | (show aWp _ _ _ _ _) | skip) | refine sq_ ?_ | refine rg_ ?_ | refine k_ ?_ | refine ct_ ?_ | refine cf_ ?_ | refine bk_ ?_ | refine sc_ ?_ | (refine sk_ ?_; first | (show aWp _ _ _ _ _) | skip) | (refine ex_ ?_; first | (show aWp _ _ _ _ _) | skip) | refine rt_ ?_)
      (have FX := Fx.mk (And.intro @hag <| @hh); exact end_ Tryd.results47)
    · have hp : p a = false := by simpa using hp
      rw [hp] at hc
      have FX := Fx.mk (And.intro @hag <| And.intro @h8 <| And.intro @hh <| And.intro @hd <| And.intro @hw <| And.intro @hx <| @hcb)
      repeat (first | refine v_ ?_ | refine u_ ?_ | refine xe_ ((hc _ (by omega))) fun kf hkf => ?_ | refine nl_ ?_ | (refine nz_ ?_; first | (show aWp _ _ _ _ _) | skip) | refine sq_ ?_ | refine rg_ ?_ | refine k_ ?_ | refine ct_ ?_ | refine cf_ ?_ | refine bk_ ?_ | refine sc_ ?_ | (refine sk_ ?_; first | (show aWp _ _ _ _ _) | skip) | (refine ex_ ?_; first | (show aWp _ _ _ _ _) | skip) | refine rt_ ?_)
      refine ⟨L.length - (i + 1), by omega, ⟨i + 1, by omega, rfl, ?_, fun j hj b hb => ?_⟩, ?_, ?_, by simp only; omega, rfl⟩
      · (have FX := Fx0; exact cl_)
      · by_cases e : j = i
        · subst e; rw [hx0] at hb; cases hb; exact hp
        · exact hno j (by omega) b hb
      · repeat (refine KAgree.upd rfl ?_)
        first | exact KAgree.refl _ _ | exact hag
      · exact (by have FX := Fx.mk (@hh); exact ha_)
  obtain rfl : i = L.length := by omega
  have hd : decide ((L.length : Int) < (L.length : Int)) = false := by simp
  rw [idx_no hno]
  have FX := Fx.mk (And.intro @hag <| And.intro @h8 <| And.intro @hh <| @hd)
  repeat (first | refine v_ ?_ | refine u_ ?_ | refine nl_ ?_ | (refine nz_ ?_; first | (show aWp _ _ _ _ _) | skip) | refine sq_ ?_ | refine rg_ ?_ | refine k_ ?_ | refine ct_ ?_ | refine cf_ ?_ | refine bk_ ?_ | refine sc_ ?_ | (refine sk_ ?_; first | (show aWp _ _ _ _ _) | skip) | (refine ex_ ?_; first | (show aWp _ _ _ _ _) | skip) | refine rt_ ?_)
  (have FX := Fx.mk (And.intro @hag <| @hh); exact end_ Tryd.results47)
theorem Contains_act (L : List (Act3)) (f : FuncId) (cap : List AV) (p : Act3 → Bool) (hcb : callable Tryd.prog f = true) {h : AHeap} {nx : Nat} (hf : ∀ (g : AHeap) (k : Nat), nx ≤ k → (∀ q, q < nx → g q = h q) → ∀ a ∈ L, aEff Tryd.prog f (.agg [.int .i64 a.1, .int .i64 a.2.1, .sl (numB .u8 a.2.2)] :: cap) g k (.bool (p a)) g) :
    aEff Tryd.prog 22 [.sl (actsB L), .fn (.func f) [] cap] h nx (.bool (L.any p)) h := by
  have hx := Index_act L f cap p hcb hf
  have hg := idx_ge p L
  refine aEff_body Tryd.func22 rfl rfl (by simp [Tryd.ntmps22]) fun hreal hfresh => ⟨?_, ?_⟩
  · exact hfresh
  rw [Tryd.ntmps22]
  have FX := Fx.mk (@hg)
  repeat (first | refine v_ ?_ | refine u_ ?_ | refine e_ (hx) fun kf hkf => ?_ | refine nl_ ?_ | (refine nz_ ?_; first | (show aWp _ _ _ _ _) | skip) | refine sq_ ?_ | refine rg_ ?_ | refine k_ ?_ | refine ct_ ?_ | refine cf_ ?_ | refine bk_ ?_ | refine sc_ ?_ | (refine sk_ ?_; first | (show aWp _ _ _ _ _) | skip) | (refine ex_ ?_; first | (show aWp _ _ _ _ _) | skip) | refine rt_ ?_)
  (have FX := Fx0; exact end_ Tryd.results22)
end Go.Proofs.YtjidgdfdeckofaaDoor.AE

/- Layer 3: Check, size, Length. -/
namespace Go.Proofs.YtjidgdfdeckofaaDoor.AE
open Go Go.RowKit Go.Proofs Go.Proofs.YtjidgdfdeckofaaDoor
set_option linter.unusedVariables false
set_option linter.unusedSimpArgs false
set_option maxRecDepth 100000
set_option maxHeartbeats 8000000
theorem any_sec (S : List (List Int)) : S.any (fun s => decide (s.length ≠ 64)) = !decide (∀ s ∈ S, s.length = 64) := by
  by_cases h : ∀ s ∈ S, s.length = 64
  · rw [decide_eq_true h]
    simpa using h
  · rw [decide_eq_false h]
    simp only [Bool.not_false, List.any_eq_true]
    simp only [Classical.not_forall] at h
    obtain ⟨s, h1, h2⟩ := h
    exact ⟨s, h1, decide_eq_true h2⟩
theorem any_act (W : List Act3) (cap : Int) : W.any (fun a => !decide (mayP cap (a.1, a.2.1, a.2.2))) = !decide (∀ a ∈ W, mayP cap a) := by
  by_cases h : ∀ a ∈ W, mayP cap a
  · rw [decide_eq_true h]
    simpa using h
  · rw [decide_eq_false h]
    simp only [Bool.not_false, List.any_eq_true]
    simp only [Classical.not_forall] at h
    obtain ⟨a, h1, h2⟩ := h
    exact ⟨a, h1, by simpa using h2⟩
theorem host_Check (S : List (List Int)) (W : List Act3) (cap : Int) : aFun Tryd.prog 6 [hostV S W cap] (.int .i64 (chkH S W cap)) := by
  have i1 := secB_len S
  have i2 := actsB_len W
  have hc1 : ∀ (x : Bool), (!decide (∀ s ∈ S, s.length = 64)) = x → ∀ (g : AHeap) (k : Nat), aEff Tryd.prog 21 [.sl (secB S), .fn (.func 20) [] []] g k (.bool x) g := fun x hx g k => by
    have := Contains_sec S 20 [] (fun s => decide (s.length ≠ 64)) (by simp only [WS]) (h := g) (nx := k) (fun g' k' hk' hg' a ha => Check1 a g' k')
    rw [any_sec, hx] at this
    exact this
  have hc2 : ∀ (m : Nat) (x : Bool), (!decide (∀ a ∈ W, mayP cap a)) = x → ∀ (g : AHeap) (k : Nat), m < k → g m = some ⟨3, [[.sl (secB S), .sl (actsB W), .int .i64 cap]]⟩ → aEff Tryd.prog 22 [.sl (actsB W), .fn (.func 23) [] [.ptr m 0 0]] g k (.bool x) g := fun m x hx g k hk hg => by
    have := Contains_act W 23 [.ptr m 0 0] (fun a => !decide (mayP cap (a.1, a.2.1, a.2.2))) (by simp only [WS]) (h := g) (nx := k) (fun g' k' hk' hg' a ha => Check2 a.1 a.2.1 cap a.2.2 m _ _ (by rw [hg' m hk]; exact hg))
    rw [any_act, hx] at this
    exact this
  by_cases h1 : cap < 1
  · have d1 : decide (cap < 1) = true := decide_eq_true h1
    rw [show chkH S W cap = 9 from chkH_bad (fun h => by obtain ⟨⟨_, _⟩, _, _, _, _⟩ := h; omega)]
    unfold hostV
    refine aFun_body Tryd.func6 rfl rfl (by simp [Tryd.ntmps6]) fun hreal h nx hfresh => ?_
    rw [Tryd.ntmps6]
    have FX := Fx.mk (And.intro @i1 <| And.intro @i2 <| @d1)
    repeat (first | refine v_ ?_ | refine u_ ?_ | refine nl_ ?_ | (refine nz_ ?_; first | (show aWp _ _ _ _ _) | skip) | refine sq_ ?_ | refine rg_ ?_ | refine k_ ?_ | refine ct_ ?_ | refine cf_ ?_ | refine bk_ ?_ | refine sc_ ?_ | (refine sk_ ?_; first | (show aWp _ _ _ _ _) | skip) | (refine ex_ ?_; first | (show aWp _ _ _ _ _) | skip) | refine rt_ ?_)
    (have FX := Fx0; exact end_ Tryd.results6)
  have d1 : decide (cap < 1) = false := decide_eq_false h1
  by_cases h2 : 65536 < cap
  · have d2 : decide (65536 < cap) = true := decide_eq_true h2
    rw [show chkH S W cap = 9 from chkH_bad (fun h => by obtain ⟨⟨_, _⟩, _, _, _, _⟩ := h; omega)]
    unfold hostV
    refine aFun_body Tryd.func6 rfl rfl (by simp [Tryd.ntmps6]) fun hreal h nx hfresh => ?_
    rw [Tryd.ntmps6]
    have FX := Fx.mk (And.intro @i1 <| And.intro @i2 <| And.intro @d1 <| @d2)
    repeat (first | refine v_ ?_ | refine u_ ?_ | refine nl_ ?_ | (refine nz_ ?_; first | (show aWp _ _ _ _ _) | skip) | refine sq_ ?_ | refine rg_ ?_ | refine k_ ?_ | refine ct_ ?_ | refine cf_ ?_ | refine bk_ ?_ | refine sc_ ?_ | (refine sk_ ?_; first | (show aWp _ _ _ _ _) | skip) | (refine ex_ ?_; first | (show aWp _ _ _ _ _) | skip) | refine rt_ ?_)
    (have FX := Fx0; exact end_ Tryd.results6)
  have d2 : decide (65536 < cap) = false := decide_eq_false h2
  by_cases h3 : cap < (S.length : Int)
  · have d3 : decide (cap < (S.length : Int)) = true := decide_eq_true h3
    rw [show chkH S W cap = 9 from chkH_bad (fun h => by obtain ⟨⟨_, _⟩, _, _, _, _⟩ := h; omega)]
    unfold hostV
    refine aFun_body Tryd.func6 rfl rfl (by simp [Tryd.ntmps6]) fun hreal h nx hfresh => ?_
    rw [Tryd.ntmps6]
    have FX := Fx.mk (And.intro @i1 <| And.intro @i2 <| And.intro @d1 <| And.intro @d2 <| @d3)
    repeat (first | refine v_ ?_ | refine u_ ?_ | refine nl_ ?_ | (refine nz_ ?_; first | (show aWp _ _ _ _ _) | skip) | refine sq_ ?_ | refine rg_ ?_ | refine k_ ?_ | refine ct_ ?_ | refine cf_ ?_ | refine bk_ ?_ | refine sc_ ?_ | (refine sk_ ?_; first | (show aWp _ _ _ _ _) | skip) | (refine ex_ ?_; first | (show aWp _ _ _ _ _) | skip) | refine rt_ ?_)
    (have FX := Fx0; exact end_ Tryd.results6)
  have d3 : decide (cap < (S.length : Int)) = false := decide_eq_false h3
  by_cases h4 : ∀ s ∈ S, s.length = 64
  · have c1 := hc1 false (by rw [decide_eq_true h4]; rfl)
    by_cases h5 : 4096 < W.length
    · have d5 : decide (4096 < (W.length : Int)) = true := decide_eq_true (by omega)
      rw [show chkH S W cap = 9 from chkH_bad (fun h => by obtain ⟨⟨_, _⟩, _, _, _, _⟩ := h; omega)]
      unfold hostV
      refine aFun_body Tryd.func6 rfl rfl (by simp [Tryd.ntmps6]) fun hreal h nx hfresh => ?_
      rw [Tryd.ntmps6]
      have FX := Fx.mk (And.intro @i1 <| And.intro @i2 <| And.intro @d1 <| And.intro @d2 <| And.intro @d3 <| @d5)
      repeat (first | refine v_ ?_ | refine u_ ?_ | refine e_ ((c1 _ _)) fun kf hkf => ?_ | refine nl_ ?_ | (refine nz_ ?_; first | (show aWp _ _ _ _ _) | skip) | refine sq_ ?_ | refine rg_ ?_ | refine k_ ?_ | refine ct_ ?_ | refine cf_ ?_ | refine bk_ ?_ | refine sc_ ?_ | (refine sk_ ?_; first | (show aWp _ _ _ _ _) | skip) | (refine ex_ ?_; first | (show aWp _ _ _ _ _) | skip) | refine rt_ ?_)
      (have FX := Fx0; exact end_ Tryd.results6)
    have d5 : decide (4096 < (W.length : Int)) = false := decide_eq_false (by omega)
    by_cases h6 : ∀ a ∈ W, mayP cap a
    · rw [show chkH S W cap = 0 from chkH_ok ⟨⟨by omega, by omega⟩, by omega, h4, by omega, h6⟩]
      unfold hostV
      refine aFun_body Tryd.func6 rfl rfl (by simp [Tryd.ntmps6]) fun hreal h nx hfresh => ?_
      rw [Tryd.ntmps6]
      have c2 := hc2 nx false (by rw [decide_eq_true h6]; rfl)
      have FX := Fx.mk (And.intro @i1 <| And.intro @i2 <| And.intro @d1 <| And.intro @d2 <| And.intro @d3 <| @d5)
      repeat (first | refine v_ ?_ | refine u_ ?_ | refine e_ ((c1 _ _)) fun kf hkf => ?_ | refine e_ ((c2 _ _ (by omega)) (by exact cl_)) fun kf hkf => ?_ | refine nl_ ?_ | (refine nz_ ?_; first | (show aWp _ _ _ _ _) | skip) | refine sq_ ?_ | refine rg_ ?_ | refine k_ ?_ | refine ct_ ?_ | refine cf_ ?_ | refine bk_ ?_ | refine sc_ ?_ | (refine sk_ ?_; first | (show aWp _ _ _ _ _) | skip) | (refine ex_ ?_; first | (show aWp _ _ _ _ _) | skip) | refine rt_ ?_)
      (have FX := Fx0; exact end_ Tryd.results6)
    · rw [show chkH S W cap = 9 from chkH_bad (fun h => h6 h.2.2.2.2)]
      unfold hostV
      refine aFun_body Tryd.func6 rfl rfl (by simp [Tryd.ntmps6]) fun hreal h nx hfresh => ?_
      rw [Tryd.ntmps6]
      have c2 := hc2 nx true (by rw [decide_eq_false h6]; rfl)
      have FX := Fx.mk (And.intro @i1 <| And.intro @i2 <| And.intro @d1 <| And.intro @d2 <| And.intro @d3 <| @d5)
      repeat (first | refine v_ ?_ | refine u_ ?_ | refine e_ ((c1 _ _)) fun kf hkf => ?_ | refine e_ ((c2 _ _ (by omega)) (by exact cl_)) fun kf hkf => ?_ | refine nl_ ?_ | (refine nz_ ?_; first | (show aWp _ _ _ _ _) | skip) | refine sq_ ?_ | refine rg_ ?_ | refine k_ ?_ | refine ct_ ?_ | refine cf_ ?_ | refine bk_ ?_ | refine sc_ ?_ | (refine sk_ ?_; first | (show aWp _ _ _ _ _) | skip) | (refine ex_ ?_; first | (show aWp _ _ _ _ _) | skip) | refine rt_ ?_)
      (have FX := Fx0; exact end_ Tryd.results6)
  · have c1 := hc1 true (by rw [decide_eq_false h4]; rfl)
    rw [show chkH S W cap = 9 from chkH_bad (fun h => by obtain ⟨⟨_, _⟩, _, _, _, _⟩ := h; exact h4 (by assumption))]
    unfold hostV
    refine aFun_body Tryd.func6 rfl rfl (by simp [Tryd.ntmps6]) fun hreal h nx hfresh => ?_
    rw [Tryd.ntmps6]
    have FX := Fx.mk (And.intro @i1 <| And.intro @i2 <| And.intro @d1 <| And.intro @d2 <| @d3)
    repeat (first | refine v_ ?_ | refine u_ ?_ | refine e_ ((c1 _ _)) fun kf hkf => ?_ | refine nl_ ?_ | (refine nz_ ?_; first | (show aWp _ _ _ _ _) | skip) | refine sq_ ?_ | refine rg_ ?_ | refine k_ ?_ | refine ct_ ?_ | refine cf_ ?_ | refine bk_ ?_ | refine sc_ ?_ | (refine sk_ ?_; first | (show aWp _ _ _ _ _) | skip) | (refine ex_ ?_; first | (show aWp _ _ _ _ _) | skip) | refine rt_ ?_)
    (have FX := Fx0; exact end_ Tryd.results6)
theorem host_size (S : List (List Int)) (W : List Act3) (cap : Int) : aFun Tryd.prog 48 [hostV S W cap] (.int .i64 (sizeH (S.length : Int) W)) := by
  have i1 := secB_len S
  have i2 := actsB_len W
  unfold hostV
  refine aFun_body Tryd.func48 rfl rfl (by simp [Tryd.ntmps48]) fun hreal h nx hfresh => ?_
  rw [Tryd.ntmps48]
  have hL : W.length < 4611686018427387904 := by
    have h1 := (hreal (.agg [.sl (secB S), .sl (actsB W), .int .i64 cap]) (by simp)).agg (.sl (actsB W)) (by simp)
    have := h1.sl.1
    rw [i2] at this
    exact this
  have FX := Fx.mk (And.intro @i1 <| @i2)
  repeat (first | refine v_ ?_ | refine u_ ?_ | refine nl_ ?_ | (refine nz_ ?_; first | (show aWp _ _ _ _ _) | skip) | refine sq_ ?_ | refine rg_ ?_ | refine k_ ?_ | refine ct_ ?_ | refine cf_ ?_ | refine bk_ ?_ | refine sc_ ?_ | (refine sk_ ?_; first | (show aWp _ _ _ _ _) | skip) | (refine ex_ ?_; first | (show aWp _ _ _ _ _) | skip) | refine rt_ ?_)
  refine W_loopK [1, 10, 11] (nx + 1) (fun r tm h q => ∃ i : Nat, i ≤ W.length ∧ r = W.length - i ∧ tm 12 = .int .i64 i ∧ tm 3 = .int .i64 (sizeH (S.length : Int) (W.take i))) W.length (by omega) ⟨0, Nat.zero_le _, rfl, rfl, rfl⟩ ?_
  rintro r tm' h' k' ⟨i, hi, rfl, h12, h3⟩ hag hh hk'
  by_cases hlt : i < W.length
  · have hd : decide ((i : Int) < (W.length : Int)) = true := decide_eq_true (by omega)
    have hw : IntKind.i64.wrap (i + 1) = ((i + 1 : Nat) : Int) := by rw [wrapI] <;> omega
    obtain ⟨a, hx0⟩ : ∃ a, W[i]? = some a := ⟨W[i], List.getElem?_eq_getElem hlt⟩
    have hx := actsB_get W i a hx0
    have hst := sizeH_step (S.length : Int) W i a hx0
    by_cases ha : a.1 = 2
    · rw [if_pos ha] at hst
      have d1 : decide (a.1 = 2) = true := decide_eq_true ha
      have FX := Fx.mk (And.intro @hag <| And.intro @h12 <| And.intro @h3 <| And.intro @hh <| And.intro @hd <| And.intro @hw <| And.intro @hx <| @d1)
      repeat (first | refine v_ ?_ | refine u_ ?_ | refine nl_ ?_ | (refine nz_ ?_; first | (show aWp _ _ _ _ _) | skip) | refine sq_ ?_ | refine rg_ ?_ | refine k_ ?_ | refine ct_ ?_ | refine cf_ ?_ | refine bk_ ?_ | refine sc_ ?_ | (refine sk_ ?_; first | (show aWp _ _ _ _ _) | skip) | (refine ex_ ?_; first | (show aWp _ _ _ _ _) | skip) | refine rt_ ?_)
      refine ⟨W.length - (i + 1), by omega, ⟨i + 1, by omega, rfl, ?_, ?_⟩, ?_, ?_, by simp only; omega, rfl⟩
      · (have FX := Fx0; exact cl_)
      · (have FX := Fx.mk (@hst); exact cl_)
      · repeat (refine KAgree.upd rfl ?_)
        first | exact KAgree.refl _ _ | exact hag
      · exact (by have FX := Fx.mk (@hh); exact ha_)
    · rw [if_neg ha] at hst
      have d1 : decide (a.1 = 2) = false := decide_eq_false ha
      have FX := Fx.mk (And.intro @hag <| And.intro @h12 <| And.intro @h3 <| And.intro @hh <| And.intro @hd <| And.intro @hw <| And.intro @hx <| @d1)
      repeat (first | refine v_ ?_ | refine u_ ?_ | refine nl_ ?_ | (refine nz_ ?_; first | (show aWp _ _ _ _ _) | skip) | refine sq_ ?_ | refine rg_ ?_ | refine k_ ?_ | refine ct_ ?_ | refine cf_ ?_ | refine bk_ ?_ | refine sc_ ?_ | (refine sk_ ?_; first | (show aWp _ _ _ _ _) | skip) | (refine ex_ ?_; first | (show aWp _ _ _ _ _) | skip) | refine rt_ ?_)
      refine ⟨W.length - (i + 1), by omega, ⟨i + 1, by omega, rfl, ?_, ?_⟩, ?_, ?_, by simp only; omega, rfl⟩
      · (have FX := Fx0; exact cl_)
      · (have FX := Fx.mk (And.intro @hst <| @h3); exact cl_)
      · repeat (refine KAgree.upd rfl ?_)
        first | exact KAgree.refl _ _ | exact hag
      · exact (by have FX := Fx.mk (@hh); exact ha_)
  obtain rfl : i = W.length := by omega
  have hd : decide ((W.length : Int) < (W.length : Int)) = false := by simp
  rw [List.take_length] at h3
  have FX := Fx.mk (And.intro @hag <| And.intro @h12 <| And.intro @h3 <| And.intro @hh <| @hd)
  repeat (first | refine v_ ?_ | refine u_ ?_ | refine nl_ ?_ | (refine nz_ ?_; first | (show aWp _ _ _ _ _) | skip) | refine sq_ ?_ | refine rg_ ?_ | refine k_ ?_ | refine ct_ ?_ | refine cf_ ?_ | refine bk_ ?_ | refine sc_ ?_ | (refine sk_ ?_; first | (show aWp _ _ _ _ _) | skip) | (refine ex_ ?_; first | (show aWp _ _ _ _ _) | skip) | refine rt_ ?_)
  (have FX := Fx.mk (And.intro @hag <| @hh); exact end_ Tryd.results48)
theorem host_Length (S : List (List Int)) (W : List Act3) (cap : Int) : aFun Tryd.prog 25 [hostV S W cap] (if okH S W cap then .tup [.int .i64 (sizeH (S.length : Int) W), .int .i64 0] else .tup [.int .i64 0, .int .i64 9]) := by
  have ck := host_Check S W cap
  have sz := host_size S W cap
  by_cases h : okH S W cap
  · rw [if_pos h]
    rw [chkH_ok h] at ck
    unfold hostV at ck sz ⊢
    have d0 : decide ((0 : Int) = 0) = true := rfl
    refine aFun_body Tryd.func25 rfl rfl (by simp [Tryd.ntmps25]) fun hreal h nx hfresh => ?_
    rw [Tryd.ntmps25]
    have FX := Fx.mk (@d0)
    repeat (first | refine v_ ?_ | refine u_ ?_ | refine f_ (ck) fun kf hkf => ?_ | refine f_ (sz) fun kf hkf => ?_ | refine nl_ ?_ | (refine nz_ ?_; first | (show aWp _ _ _ _ _) | skip) | refine sq_ ?_ | refine rg_ ?_ | refine k_ ?_ | refine ct_ ?_ | refine cf_ ?_ | refine bk_ ?_ | refine sc_ ?_ | (refine sk_ ?_; first | (show aWp _ _ _ _ _) | skip) | (refine ex_ ?_; first | (show aWp _ _ _ _ _) | skip) | refine rt_ ?_)
    (have FX := Fx0; exact end_ Tryd.results25)
  · rw [if_neg h]
    rw [chkH_bad h] at ck
    unfold hostV at ck sz ⊢
    have d0 : decide ((9 : Int) = 0) = false := rfl
    refine aFun_body Tryd.func25 rfl rfl (by simp [Tryd.ntmps25]) fun hreal h nx hfresh => ?_
    rw [Tryd.ntmps25]
    have FX := Fx.mk (@d0)
    repeat (first | refine v_ ?_ | refine u_ ?_ | refine f_ (ck) fun kf hkf => ?_ | refine f_ (sz) fun kf hkf => ?_ | refine nl_ ?_ | (refine nz_ ?_; first | (show aWp _ _ _ _ _) | skip) | refine sq_ ?_ | refine rg_ ?_ | refine k_ ?_ | refine ct_ ?_ | refine cf_ ?_ | refine bk_ ?_ | refine sc_ ?_ | (refine sk_ ?_; first | (show aWp _ _ _ _ _) | skip) | (refine ex_ ?_; first | (show aWp _ _ _ _ _) | skip) | refine rt_ ?_)
    (have FX := Fx0; exact end_ Tryd.results25)
end Go.Proofs.YtjidgdfdeckofaaDoor.AE
