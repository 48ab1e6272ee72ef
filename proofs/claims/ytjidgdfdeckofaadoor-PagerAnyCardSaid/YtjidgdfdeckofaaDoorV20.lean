/- Texts U2, U3, U4. -/
import Derived.Test.YtjidgdfdeckofaaDoorV19
import Derived.Test.YtjidgdfdeckofaaDoorV8
import Derived.Test.YtjidgdfdeckofaaDoorV10
import Derived.Test.YtjidgdfdeckofaaDoorV14
/- Layer 16: octets, whole, changed. -/
namespace Go.Proofs.YtjidgdfdeckofaaDoor.AE
open Go Go.RowKit Go.Proofs Go.Proofs.YtjidgdfdeckofaaDoor
set_option linter.unusedVariables false
set_option linter.unusedSimpArgs false
set_option maxRecDepth 100000
set_option maxHeartbeats 8000000
theorem flat64 : ∀ (l : List (List Int)), (∀ s ∈ l, s.length = 64) → l.flatten.length = 64 * l.length
  | [], _ => rfl
  | a :: l, h => by
    rw [List.flatten_cons, List.length_append, flat64 l (fun s hs => h s (by simp [hs])), h a (by simp), List.length_cons]
    omega
theorem secB_cut (S : List (List Int)) (a n : Nat) : ((secB S).drop a).take n = rowsB .u8 ((S.drop a).take n) := by unfold secB rowsB; rw [List.map_take, List.map_drop]
theorem pager_octets (S : List (List Int)) (W : List Act3) (cap : Int) (a n : Nat) (hn : a + n ≤ S.length) (hl : S.length ≤ 65536) (hS : ∀ s ∈ S, s.length = 64) : aFun Tryd.prog 41 [hostV S W cap, .int .i64 (a : Int), .int .i64 (n : Int)] (.sl (numB .u8 ((S.drop a).take n).flatten)) := by
  have e1 := secB_len S
  have hf := flat64 ((S.drop a).take n) (fun s hs => hS s (List.mem_of_mem_drop (List.mem_of_mem_take hs)))
  have hf2 : ((S.drop a).take n).length ≤ n := List.length_take_le _ _
  have cc := (Concat_bytes ((S.drop a).take n) (by omega)).fn
  have hw : IntKind.i64.wrap ((a : Int) + (n : Int)) = ((a + n : Nat) : Int) := by rw [wrapI] <;> omega
  have hcut : ((secB S).take (a + n)).drop a = rowsB .u8 ((S.drop a).take n) := by rw [List.drop_take, Nat.add_sub_cancel_left]; exact secB_cut S a n
  have hsz : (secB S).all (fun c => c.length == 1) = true := by simp [secB]
  have ht1 : ((a + n : Nat) : Int).toNat = a + n := Int.toNat_natCast _
  have ht2 : (a : Int).toNat = a := Int.toNat_natCast _
  have hlo : (a : Int) ≤ ((a + n : Nat) : Int) := by omega
  have hhi : ((a + n : Nat) : Int) ≤ (S.length : Int) := by omega
  unfold hostV
  refine aFun_body Tryd.func41 rfl rfl (by simp [Tryd.ntmps41]) fun hreal h nx hfresh => ?_
  rw [Tryd.ntmps41]
  have FX := Fx.mk (And.intro @e1 <| And.intro @hw <| And.intro @hcut <| And.intro @hsz <| And.intro @ht1 <| And.intro @ht2 <| And.intro @hlo <| @hhi)
  repeat (first | refine v_ ?_ | refine u_ ?_ | refine f_ (cc) fun kf hkf => ?_ | refine nl_ ?_ | (refine nz_ ?_; first | (show aWp _ _ _ _ _) | skip) | refine sq_ ?_ | refine rg_ ?_ | refine k_ ?_ | refine ct_ ?_ | refine cf_ ?_ | refine bk_ ?_ | refine sc_ ?_ | (refine sk_ ?_; first | (show aWp _ _ _ _ _) | skip) | (refine ex_ ?_; first | (show aWp _ _ _ _ _) | skip) | refine rt_ ?_)
  (have FX := Fx0; exact end_ Tryd.results41)
/-! ### whole -/
theorem nullP_len (b : List Int) : (nullP b).length = 0 ∨ nullP b = b := by
  unfold nullP
  split
  · exact .inl rfl
  · exact .inr rfl
theorem dropE_of (l : List (List Int)) (n : Nat) (hn : n ≤ l.length) (h1 : ∀ b ∈ l.drop n, b.length = 0) (h2 : ∀ q b, n = q + 1 → l[q]? = some b → b.length ≠ 0) : dropE l = l.take n := by
  unfold dropE
  rw [show l.reverse = (l.drop n).reverse ++ (l.take n).reverse by rw [← List.reverse_append, List.take_append_drop]]
  have g : ∀ (x y : List (List Int)), (∀ b ∈ x, b.length = 0) → (x ++ y).dropWhile (fun b => b.length == 0) = y.dropWhile (fun b => b.length == 0) := by
    intro x y hx
    induction x with
    | nil => rfl
    | cons a x ih => rw [List.cons_append, List.dropWhile_cons, if_pos (by simp [hx a (by simp)]), ih (fun b hb => hx b (by simp [hb]))]
  rw [g _ _ (fun b hb => h1 b (by simpa using hb))]
  cases n with
  | zero => simp
  | succ q =>
    obtain ⟨b, hb⟩ : ∃ b, l[q]? = some b := ⟨l[q], List.getElem?_eq_getElem (by omega)⟩
    have := h2 q b rfl hb
    rw [List.take_add_one, hb]
    simp [List.dropWhile_cons, this]
theorem map_snoc (l : List (List Int)) (i : Nat) (b : List Int) (h : l[i]? = some b) : secB ((l.take i).map nullP) ++ [[.sl (numB .u8 (nullP b))]] = secB ((l.take (i + 1)).map nullP) := by
  rw [List.take_add_one, h]
  simp [secB]
theorem pager_whole (l : List (List Int)) (hl : l.length ≤ 1000000) (hb : ∀ b ∈ l, b.length ≤ 1000000) : aFun Tryd.prog 18 [.sl (secB l)] (.sl (secB (wholeP l))) := by
  have e1 := secB_len l
  have z0 : (AV.sl (numB .u8 [])) = AV.sl [] := rfl
  refine aFun_body Tryd.func18 rfl rfl (by simp [Tryd.ntmps18]) fun hreal h nx hfresh => ?_
  rw [Tryd.ntmps18]
  have FX := Fx.mk (@e1)
  repeat (first | refine v_ ?_ | refine u_ ?_ | refine nl_ ?_ | (refine nz_ ?_; first | (show aWp _ _ _ _ _) | skip) | refine sq_ ?_ | refine rg_ ?_ | refine k_ ?_ | refine ct_ ?_ | refine cf_ ?_ | refine bk_ ?_ | refine sc_ ?_ | (refine sk_ ?_; first | (show aWp _ _ _ _ _) | skip) | (refine ex_ ?_; first | (show aWp _ _ _ _ _) | skip) | refine rt_ ?_)
  refine aWp_new 1 ?_
  refine aWp_sub (Sub.zsT (t := 2) (m := nx) (sz := 1) (by (have FX := Fx0; exact cl_)) (by (have FX := Fx0; exact cl_))) ?_
  refine W_loopK [0, 6, 7] nx (fun r tm h q => ∃ i m : Nat, i ≤ l.length ∧ r = l.length - i ∧ tm 8 = .int .i64 i ∧ nx ≤ m ∧ m < q ∧ tm 2 = .hs m 0 i ∧ h m = some ⟨1, secB ((l.take i).map nullP)⟩) l.length (by first | omega | (simp only; omega)) ⟨0, nx, Nat.zero_le _, rfl, rfl, Nat.le_refl _, by simp only; omega, by (have FX := Fx0; exact cl_), by (have FX := Fx0; exact cl_)⟩ ?_
  rintro r tm' h' k' ⟨i, m, hi, rfl, h8, m1, m2, h2, hm⟩ hag hh hk'
  have e2 : (secB ((l.take i).map nullP)).length = i := by rw [secB_len, List.length_map, List.length_take]; omega
  have t2 : (secB ((l.take i).map nullP)).take i = secB ((l.take i).map nullP) := take_len _ _ e2
  by_cases hlt : i < l.length
  · have hd : decide ((i : Int) < (l.length : Int)) = true := decide_eq_true (by omega)
    have hw : IntKind.i64.wrap (i + 1) = ((i + 1 : Nat) : Int) := by rw [wrapI] <;> omega
    obtain ⟨b, hx0⟩ : ∃ a, l[i]? = some a := ⟨l[i], List.getElem?_eq_getElem hlt⟩
    have hx := secB_get l i b hx0
    have hbl := hb b (List.mem_of_getElem? hx0)
    have tr := bytes_Trim b
    have sn := map_snoc l i b hx0
    by_cases hn : trimZ b = []
    · have d1 : decide (((trimZ b).length : Int) = 0) = true := decide_eq_true (by rw [hn]; rfl)
      have en : nullP b = [] := if_pos hn
      have co := (Clone_oct (nullP b) (by rw [en]; simp)).fn
      rw [en] at co sn
      rw [z0] at co sn
      have FX := Fx.mk (And.intro @hag <| And.intro @h8 <| And.intro @h2 <| And.intro @hm <| And.intro @hh <| And.intro @hd <| And.intro @hw <| And.intro @hx <| And.intro @d1 <| And.intro @e2 <| And.intro @t2 <| @sn)
      repeat (first | refine v_ ?_ | refine u_ ?_ | refine f_ (tr) fun kf hkf => ?_ | refine f_ (co) fun kf hkf => ?_ | refine nl_ ?_ | (refine nz_ ?_; first | (show aWp _ _ _ _ _) | skip) | refine sq_ ?_ | refine rg_ ?_ | refine k_ ?_ | refine ct_ ?_ | refine cf_ ?_ | refine bk_ ?_ | refine sc_ ?_ | (refine sk_ ?_; first | (show aWp _ _ _ _ _) | skip) | (refine ex_ ?_; first | (show aWp _ _ _ _ _) | skip) | refine rt_ ?_)
      refine ⟨l.length - (i + 1), by omega, ⟨i + 1, _, by omega, rfl, ?_, ?_, ?_, rfl, ?_⟩, ?_, ?_, by simp only; omega, rfl⟩
      · (have FX := Fx0; exact cl_)
      · omega
      · simp only; omega
      · (have FX := Fx.mk (@sn); exact cl_)
      · repeat (refine KAgree.upd rfl ?_)
        first | exact KAgree.refl _ _ | exact hag
      · exact (by have FX := Fx.mk (@hh); exact ha_)
    · have hn0 : (trimZ b).length ≠ 0 := fun q => hn (List.eq_nil_of_length_eq_zero q)
      have d1 : decide (((trimZ b).length : Int) = 0) = false := decide_eq_false (by omega)
      have en : nullP b = b := if_neg hn
      have co := (Clone_oct b (by omega)).fn
      rw [en] at sn
      have FX := Fx.mk (And.intro @hag <| And.intro @h8 <| And.intro @h2 <| And.intro @hm <| And.intro @hh <| And.intro @hd <| And.intro @hw <| And.intro @hx <| And.intro @d1 <| And.intro @e2 <| And.intro @t2 <| @sn)
      repeat (first | refine v_ ?_ | refine u_ ?_ | refine f_ (tr) fun kf hkf => ?_ | refine f_ (co) fun kf hkf => ?_ | refine nl_ ?_ | (refine nz_ ?_; first | (show aWp _ _ _ _ _) | skip) | refine sq_ ?_ | refine rg_ ?_ | refine k_ ?_ | refine ct_ ?_ | refine cf_ ?_ | refine bk_ ?_ | refine sc_ ?_ | (refine sk_ ?_; first | (show aWp _ _ _ _ _) | skip) | (refine ex_ ?_; first | (show aWp _ _ _ _ _) | skip) | refine rt_ ?_)
      refine ⟨l.length - (i + 1), by omega, ⟨i + 1, _, by omega, rfl, ?_, ?_, ?_, rfl, ?_⟩, ?_, ?_, by simp only; omega, rfl⟩
      · (have FX := Fx0; exact cl_)
      · omega
      · simp only; omega
      · (have FX := Fx.mk (@sn); exact cl_)
      · repeat (refine KAgree.upd rfl ?_)
        first | exact KAgree.refl _ _ | exact hag
      · exact (by have FX := Fx.mk (@hh); exact ha_)
  obtain rfl : i = l.length := by omega
  have hd : decide ((l.length : Int) < (l.length : Int)) = false := by simp
  rw [List.take_length] at hm e2 t2
  obtain ⟨n, hnl⟩ : ∃ n, l.length = n := ⟨_, rfl⟩
  obtain ⟨O, hO⟩ : ∃ O, l.map nullP = O := ⟨_, rfl⟩
  have hOl : O.length = n := by rw [← hO, List.length_map, hnl]
  have hw0 : wholeP l = dropE O := by unfold wholeP; rw [hO]
  rw [hnl] at h2 e2 t2 hd h8 e1 hl
  rw [hO] at hm e2 t2
  rw [hw0]
  have FX := Fx.mk (And.intro @hag <| And.intro @h8 <| And.intro @h2 <| And.intro @hm <| And.intro @hh <| And.intro @hnl <| And.intro @hd <| And.intro @e1 <| @e2)
  repeat (first | refine v_ ?_ | refine u_ ?_ | refine nl_ ?_ | (refine nz_ ?_; first | (show aWp _ _ _ _ _) | skip) | refine sq_ ?_ | refine rg_ ?_ | refine k_ ?_ | refine ct_ ?_ | refine cf_ ?_ | refine bk_ ?_ | refine sc_ ?_ | (refine sk_ ?_; first | (show aWp _ _ _ _ _) | skip) | (refine ex_ ?_; first | (show aWp _ _ _ _ _) | skip) | refine rt_ ?_)
  refine W_loopK [2] nx (fun r tm h q => ∃ j : Nat, j ≤ n ∧ r = j ∧ tm 5 = .int .i64 j ∧ m < q ∧ h m = some ⟨1, secB O⟩ ∧ ∀ b ∈ O.drop j, b.length = 0) n (by first | omega | (simp only; omega)) ⟨n, Nat.le_refl _, rfl, by (have FX := Fx.mk (@h2); exact cl_), by first | omega | (simp only; omega), by (have FX := Fx.mk (@hm); exact cl_), by rw [← hOl, List.drop_length]; intro b hb; simp at hb⟩ ?_
  rintro r tm2 g k2 ⟨j, hj, rfl, h5, hk2, gm, hz⟩ hag2 hg hk3
  cases r with
  | zero =>
    have hd0 : decide ((0 : Int) < ((0 : Nat) : Int)) = false := by decide
    have hs : dropE O = O.take 0 := dropE_of O 0 (Nat.zero_le _) hz (fun q b hq => by omega)
    rw [hs]
    have c1 : (secB O).drop 0 = secB O := rfl
    have c2 : secB (O.take 0) = [] := rfl
    have FX := Fx.mk (And.intro @hag2 <| And.intro @hag <| And.intro @h5 <| And.intro @h2 <| And.intro @gm <| And.intro @hg <| And.intro @hh <| And.intro @hd0 <| @e2)
    repeat (first | refine v_ ?_ | refine u_ ?_ | refine nl_ ?_ | (refine nz_ ?_; first | (show aWp _ _ _ _ _) | skip) | refine sq_ ?_ | refine rg_ ?_ | refine k_ ?_ | refine ct_ ?_ | refine cf_ ?_ | refine bk_ ?_ | refine sc_ ?_ | (refine sk_ ?_; first | (show aWp _ _ _ _ _) | skip) | (refine ex_ ?_; first | (show aWp _ _ _ _ _) | skip) | refine rt_ ?_)
    (have FX := Fx.mk (And.intro @hag2 <| And.intro @hag <| And.intro @h2 <| And.intro @gm <| And.intro @hg <| And.intro @hh <| And.intro @e2 <| @c2); exact end_ Tryd.results18)
  | succ j =>
    have hd0 : decide ((0 : Int) < ((j + 1 : Nat) : Int)) = true := decide_eq_true (by omega)
    have hw1 : IntKind.i64.wrap (((j + 1 : Nat) : Int) - 1) = (j : Int) := by rw [wrapI] <;> omega
    obtain ⟨b, hx0⟩ : ∃ a, O[j]? = some a := ⟨O[j], List.getElem?_eq_getElem (by omega)⟩
    have hx := secB_get O j b hx0
    by_cases hb0 : b.length = 0
    · have d1 : decide ((b.length : Int) = 0) = true := decide_eq_true (by omega)
      have FX := Fx.mk (And.intro @hag2 <| And.intro @hag <| And.intro @h5 <| And.intro @h2 <| And.intro @gm <| And.intro @hg <| And.intro @hh <| And.intro @hd0 <| And.intro @hw1 <| And.intro @hx <| And.intro @d1 <| @e2)
      repeat (first | refine v_ ?_ | refine u_ ?_ | refine nl_ ?_ | (refine nz_ ?_; first | (show aWp _ _ _ _ _) | skip) | refine sq_ ?_ | refine rg_ ?_ | refine k_ ?_ | refine ct_ ?_ | refine cf_ ?_ | refine bk_ ?_ | refine sc_ ?_ | (refine sk_ ?_; first | (show aWp _ _ _ _ _) | skip) | (refine ex_ ?_; first | (show aWp _ _ _ _ _) | skip) | refine rt_ ?_)
      refine ⟨j, by omega, ⟨j, by omega, rfl, ?_, ?_, ?_, ?_⟩, ?_, ?_, by simp only; omega, rfl⟩
      · (have FX := Fx0; exact cl_)
      · simp only; omega
      · (have FX := Fx.mk (@gm); exact cl_)
      · intro c hc
        rw [List.drop_eq_getElem_cons (by omega)] at hc
        rcases List.mem_cons.1 hc with q | q
        · have hq : O[j] = b := (List.getElem?_eq_some_iff.1 hx0).2
          rw [q, hq]; exact hb0
        · exact hz c q
      · repeat (refine KAgree.upd rfl ?_)
        exact hag2
      · exact (by have FX := Fx.mk (And.intro @hg <| @hh); exact ha_)
    · have d1 : decide ((b.length : Int) = 0) = false := decide_eq_false (by omega)
      have hs : dropE O = O.take (j + 1) := dropE_of O (j + 1) (by omega) hz (fun q c hq hc => by cases hq; rw [hx0] at hc; cases hc; exact hb0)
      rw [hs]
      have c2 : (secB O).take (j + 1) = secB (O.take (j + 1)) := by unfold secB; rw [List.map_take]
      have t1 : ((j + 1 : Nat) : Int).toNat = j + 1 := Int.toNat_natCast _
      have FX := Fx.mk (And.intro @hag2 <| And.intro @hag <| And.intro @h5 <| And.intro @h2 <| And.intro @gm <| And.intro @hg <| And.intro @hh <| And.intro @hd0 <| And.intro @hw1 <| And.intro @hx <| And.intro @d1 <| And.intro @e2 <| @t1)
      repeat (first | refine v_ ?_ | refine u_ ?_ | refine nl_ ?_ | (refine nz_ ?_; first | (show aWp _ _ _ _ _) | skip) | refine sq_ ?_ | refine rg_ ?_ | refine k_ ?_ | refine ct_ ?_ | refine cf_ ?_ | refine bk_ ?_ | refine sc_ ?_ | (refine sk_ ?_; first | (show aWp _ _ _ _ _) | skip) | (refine ex_ ?_; first | (show aWp _ _ _ _ _) | skip) | refine rt_ ?_)
      (have FX := Fx.mk (And.intro @hag2 <| And.intro @hag <| And.intro @h2 <| And.intro @gm <| And.intro @hg <| And.intro @hh <| And.intro @e2 <| @c2); exact end_ Tryd.results18)
end Go.Proofs.YtjidgdfdeckofaaDoor.AE

/- Layer 16: changed. -/
namespace Go.Proofs.YtjidgdfdeckofaaDoor.AE
open Go Go.RowKit Go.Proofs Go.Proofs.YtjidgdfdeckofaaDoor
set_option linter.unusedVariables false
set_option linter.unusedSimpArgs false
set_option maxRecDepth 100000
set_option maxHeartbeats 8000000
def chgN (old now : List (List Int)) (n : Nat) : List Pg := (List.range n).filterMap fun i => if pageP old i = pageP now i then none else some ((i : Int) + 1, pageP now i)
theorem chgN_same {old now : List (List Int)} {i : Nat} (h : pageP old i = pageP now i) : chgN old now (i + 1) = chgN old now i := by unfold chgN; rw [List.range_succ, List.filterMap_append]; simp [h]
theorem chgN_new {old now : List (List Int)} {i : Nat} (h : pageP old i ≠ pageP now i) : chgN old now (i + 1) = chgN old now i ++ [((i : Int) + 1, pageP now i)] := by unfold chgN; rw [List.range_succ, List.filterMap_append]; simp [h]
theorem chgN_len (old now : List (List Int)) (i : Nat) : (chgN old now i).length ≤ i := by
  unfold chgN
  refine Nat.le_trans (List.length_filterMap_le _ _) ?_
  simp
theorem pagesB_snoc (l : List Pg) (x : Int) (d : List Int) : pagesB l ++ [[.int .i64 x, .sl (numB .u8 d)]] = pagesB (l ++ [(x, d)]) := by simp [pagesB, pageB]
theorem pageP_mem (l : List (List Int)) (i : Nat) : pageP l i = [] ∨ pageP l i ∈ l := by
  by_cases h : i < l.length
  · right; unfold pageP; rw [List.getD_eq_getElem?_getD, List.getElem?_eq_getElem h]; exact List.getElem_mem h
  · left; exact pageP_out (by omega)
theorem pager_changed (old now : List (List Int)) (h1 : old.length ≤ 1000000) (h2 : now.length ≤ 1000000) (hb : ∀ b ∈ now, b.length ≤ 1000000) : aFun Tryd.prog 33 [.sl (secB old), .sl (secB now)] (.sl (pagesB (changedP old now))) := by
  have e1 := secB_len old
  have e2 := secB_len now
  obtain ⟨n, hn⟩ : ∃ n, max old.length now.length = n := ⟨_, rfl⟩
  have hn2 : (if (old.length : Int) < (now.length : Int) then (now.length : Int) else (old.length : Int)) = (n : Int) := by split <;> omega
  have hnl : n ≤ 1000000 := by omega
  rw [show changedP old now = chgN old now n by rw [← hn]; rfl]
  refine aFun_body Tryd.func33 rfl rfl (by simp [Tryd.ntmps33]) fun hreal h nx hfresh => ?_
  rw [Tryd.ntmps33]
  have FX := Fx.mk (And.intro @e1 <| And.intro @e2 <| @hn2)
  repeat (first | refine v_ ?_ | refine u_ ?_ | refine nl_ ?_ | (refine nz_ ?_; first | (show aWp _ _ _ _ _) | skip) | refine sq_ ?_ | refine rg_ ?_ | refine k_ ?_ | refine ct_ ?_ | refine cf_ ?_ | refine bk_ ?_ | refine sc_ ?_ | (refine sk_ ?_; first | (show aWp _ _ _ _ _) | skip) | (refine ex_ ?_; first | (show aWp _ _ _ _ _) | skip) | refine rt_ ?_)
  refine aWp_new 2 ?_
  refine aWp_sub (Sub.zsT (t := 4) (m := nx) (sz := 2) (by (have FX := Fx0; exact cl_)) (by (have FX := Fx0; exact cl_))) ?_
  -- DBG
  refine W_loopK [0, 1, 11] nx (fun r tm h q => ∃ i m c : Nat, i ≤ n ∧ r = n - i ∧ tm 12 = .int .i64 i ∧ nx ≤ m ∧ m < q ∧ tm 4 = .hs m 0 c ∧ c = (chgN old now i).length ∧ h m = some ⟨2, pagesB (chgN old now i)⟩) n (by first | omega | (simp only; omega)) ⟨0, nx, 0, Nat.zero_le _, rfl, rfl, Nat.le_refl _, by simp only; omega, by (have FX := Fx0; exact cl_), rfl, by (have FX := Fx0; exact cl_)⟩ ?_
  rintro r tm' h' k' ⟨i, m, _, hi, rfl, h12, m1, m2, h4, rfl, hm⟩ hag hh hk'
  have e3 : (pagesB (chgN old now i)).length = (chgN old now i).length := by simp [pagesB]
  have t2 : (pagesB (chgN old now i)).take (chgN old now i).length = pagesB (chgN old now i) := take_len _ _ e3
  have hcl := chgN_len old now i
  by_cases hlt : i < n
  · have hd : decide ((i : Int) < (n : Int)) = true := decide_eq_true (by omega)
    have hw : IntKind.i64.wrap (i + 1) = ((i + 1 : Nat) : Int) := by rw [wrapI] <;> omega
    have p1 := pager_page now i (by omega)
    have p2 := pager_page old i (by omega)
    have q := bytes_Equal4 (pageP old i) (pageP now i)
    by_cases he : pageP old i = pageP now i
    · rw [decide_eq_true he] at q
      have hne := chgN_same he
      have FX := Fx.mk (And.intro @hag <| And.intro @h12 <| And.intro @h4 <| And.intro @hm <| And.intro @hh <| And.intro @hd <| And.intro @hw <| @Bool.not_true)
      repeat (first | refine v_ ?_ | refine u_ ?_ | refine f_ (p1) fun kf hkf => ?_ | refine f_ (p2) fun kf hkf => ?_ | refine f_ (q) fun kf hkf => ?_ | refine nl_ ?_ | (refine nz_ ?_; first | (show aWp _ _ _ _ _) | skip) | refine sq_ ?_ | refine rg_ ?_ | refine k_ ?_ | refine ct_ ?_ | refine cf_ ?_ | refine bk_ ?_ | refine sc_ ?_ | (refine sk_ ?_; first | (show aWp _ _ _ _ _) | skip) | (refine ex_ ?_; first | (show aWp _ _ _ _ _) | skip) | refine rt_ ?_)
      refine ⟨n - (i + 1), by omega, ⟨i + 1, m, _, by omega, rfl, ?_, m1, ?_, h4, ?_, ?_⟩, ?_, ?_, by simp only; omega, rfl⟩
      · (have FX := Fx0; exact cl_)
      · simp only; omega
      · rw [hne]
      · (have FX := Fx.mk (And.intro @hm <| @hne); exact cl_)
      · repeat (refine KAgree.upd rfl ?_)
        first | exact KAgree.refl _ _ | exact hag
      · exact (by have FX := Fx.mk (@hh); exact ha_)
    · rw [decide_eq_false he] at q
      have hbl : (pageP now i).length ≤ 1000000 := by
        rcases pageP_mem now i with z | z
        · rw [z]; simp
        · exact hb _ z
      have co := (Clone_oct (pageP now i) (by omega)).fn
      have hne := chgN_new he
      have hnl2 : (chgN old now (i + 1)).length = (chgN old now i).length + 1 := by rw [hne]; simp
      have sn := pagesB_snoc (chgN old now i) ((i : Int) + 1) (pageP now i)
      rw [← hne] at sn
      have hw' : IntKind.i64.wrap (i + 1) = (i : Int) + 1 := by rw [wrapI] <;> omega
      have hwe : ((i + 1 : Nat) : Int) = (i : Int) + 1 := by omega
      have FX := Fx.mk (And.intro @hag <| And.intro @h12 <| And.intro @h4 <| And.intro @hm <| And.intro @hh <| And.intro @hd <| And.intro @hw' <| And.intro @Bool.not_false <| And.intro @e3 <| And.intro @t2 <| @sn)
      repeat (first | refine v_ ?_ | refine u_ ?_ | refine f_ (p1) fun kf hkf => ?_ | refine f_ (p2) fun kf hkf => ?_ | refine f_ (q) fun kf hkf => ?_ | refine f_ (co) fun kf hkf => ?_ | refine nl_ ?_ | (refine nz_ ?_; first | (show aWp _ _ _ _ _) | skip) | refine sq_ ?_ | refine rg_ ?_ | refine k_ ?_ | refine ct_ ?_ | refine cf_ ?_ | refine bk_ ?_ | refine sc_ ?_ | (refine sk_ ?_; first | (show aWp _ _ _ _ _) | skip) | (refine ex_ ?_; first | (show aWp _ _ _ _ _) | skip) | refine rt_ ?_)
      refine ⟨n - (i + 1), by omega, ⟨i + 1, _, _, by omega, rfl, ?_, ?_, ?_, rfl, ?_, ?_⟩, ?_, ?_, by simp only; omega, rfl⟩
      · (have FX := Fx.mk (@hwe); exact cl_)
      · omega
      · simp only; omega
      · rw [hnl2]
      · (have FX := Fx.mk (@sn); exact cl_)
      · repeat (refine KAgree.upd rfl ?_)
        first | exact KAgree.refl _ _ | exact hag
      · exact (by have FX := Fx.mk (@hh); exact ha_)
  obtain rfl : i = n := by omega
  have hd : decide ((i : Int) < (i : Int)) = false := by simp
  have FX := Fx.mk (And.intro @hag <| And.intro @h12 <| And.intro @h4 <| And.intro @hm <| And.intro @hh <| @hd)
  repeat (first | refine v_ ?_ | refine u_ ?_ | refine nl_ ?_ | (refine nz_ ?_; first | (show aWp _ _ _ _ _) | skip) | refine sq_ ?_ | refine rg_ ?_ | refine k_ ?_ | refine ct_ ?_ | refine cf_ ?_ | refine bk_ ?_ | refine sc_ ?_ | (refine sk_ ?_; first | (show aWp _ _ _ _ _) | skip) | (refine ex_ ?_; first | (show aWp _ _ _ _ _) | skip) | refine rt_ ?_)
  (have FX := Fx.mk (And.intro @hag <| And.intro @h4 <| And.intro @hm <| And.intro @hh <| And.intro @e3 <| @t2); exact end_ Tryd.results33)
end Go.Proofs.YtjidgdfdeckofaaDoor.AE

/- Layer 16: Check, Clone. -/
namespace Go.Proofs.YtjidgdfdeckofaaDoor.AE
open Go Go.RowKit Go.Proofs Go.Proofs.YtjidgdfdeckofaaDoor
set_option linter.unusedVariables false
set_option linter.unusedSimpArgs false
set_option maxRecDepth 100000
set_option maxHeartbeats 8000000
/-- A host's clone: its sectors are told, what waits is owned. -/
theorem host_CloneW (S : List (List Int)) (W : List Act3) (cap : Int) (hok : okH S W cap) : aOwnM Tryd.prog 37 [hostV S W cap] (fun b => .agg ([.sl (secB S)] ++ b :: [.int .i64 cap])) 3 (actsB W) := fun h nx => aCalls_real fun hreal hfresh => by
  intro B w0 O σ w vs hs hx hk hv
  refine (host_Clone S W cap hok h nx B w0 O σ w vs hs hx hk hv).mono ?_
  rintro e w' ⟨ae, h', nx', σ', g1, g2, g3, g4, m1, m2, rfl, rfl, q1, q2, q3, q4, q5⟩
  cases g1 with
  | ret _ u hu =>
  have hl := secB_len S
  obtain ⟨d1, d2⟩ := g2.drop (fun i => decide (i = m1))
  have he : (fun i => if decide (i = m1) = true then none else upd (upd h m1 (some ⟨1, secB S⟩)) m2 (some ⟨3, actsB W⟩) i) = upd h m2 (some ⟨3, actsB W⟩) := by
    funext i
    by_cases e : i = m1
    · subst e; rw [if_pos (by simp), upd_ne _ _ _ q3]; exact (hfresh i q1).symm
    · rw [if_neg (by simpa using e)]
      by_cases e2 : i = m2
      · subst e2; rw [upd_same, upd_same]
      · rw [upd_ne _ _ _ e2, upd_ne _ _ _ e, upd_ne _ _ _ e2]
  have hb : (upd (upd h m1 (some ⟨1, secB S⟩)) m2 (some ⟨3, actsB W⟩)) m1 = some ⟨1, secB S⟩ := by rw [upd_ne _ _ _ q3, upd_same]
  obtain ⟨us, rfl, hus⟩ := VR.agg_iff.1 hu
  have hfz : VR σ' w' (Held σ' (upd h m2 (some ⟨3, actsB W⟩))) B (.agg [.sl (secB S), .hs m2 0 (actsB W).length, .int .i64 cap]) (.agg us.toArray) := by
    refine VR.agg_iff.2 ⟨us, rfl, by simpa using hus.1, fun j x v hj hv => ?_⟩
    cases j with
    | zero =>
      simp at hj
      subst hj
      have := VR.freeze g2 (fun i => decide (i = m1)) (k := ⟨1, secB S⟩) hb (by simp) (by simp) (hus.2 0 _ v rfl hv)
      rw [he] at this
      simpa using this
    | succ j =>
      have := d2 _ _ (hus.2 (j + 1) x v (by simpa using hj) hv)
      rw [he] at this
      exact this
  rw [he] at d1 d2
  exact ⟨.ret (.agg [.sl (secB S), .hs m2 0 (actsB W).length, .int .i64 cap]), _, nx', σ', .ret _ _ hfz, d1, g3, g4.trans d2 (Nat.le_refl _) (fun _ _ => rfl), m2, rfl, rfl, q2, q5⟩
theorem pager_Clone (s : PgS) (hok : s.okHost) (hp : s.pages.length ≤ 65536) (hb : ∀ b ∈ s.pages, b.length ≤ 64) : aOwnM Tryd.prog 56 [s.av] (fun v => .agg (s.cells (.sl (secB s.S)) v (.sl (secB s.pages)))) 3 (actsB s.W) := by
  have i1 := secB_len s.pages
  have i2 := actsB_len s.W
  have cw := host_CloneW s.S s.W s.cap hok
  have cs := Clone_sec s.pages (by omega)
  unfold hostV at cw
  rw [PgS.av_eq]
  unfold PgS.cells
  refine aOwnM_body Tryd.func56 rfl rfl (by simp [Tryd.ntmps56]) fun hreal h nx hfresh => ?_
  rw [Tryd.ntmps56]
  have FX := Fx0
  repeat (first | refine v_ ?_ | refine u_ ?_ | refine nl_ ?_ | (refine nz_ ?_; first | (show aWp _ _ _ _ _) | skip) | refine sq_ ?_ | refine rg_ ?_ | refine k_ ?_ | refine ct_ ?_ | refine cf_ ?_ | refine bk_ ?_ | refine sc_ ?_ | (refine sk_ ?_; first | (show aWp _ _ _ _ _) | skip) | (refine ex_ ?_; first | (show aWp _ _ _ _ _) | skip) | refine rt_ ?_)
  have FX := Fx.mk (And.intro @i1 <| @i2)
  refine W_draw mixed rfl rfl ?_
  repeat (first | refine dq_ ?_ | refine do_ (cs) ?_ | refine doM_ RenOk.agg cw ?_ | refine dr_ [nx] ?_ | refine dm_ [nx] ?_ | refine da_ [nx] ?_ | refine ds_ [nx] ?_ | refine dw_ [nx] ?_ | refine dk_ ?_ | refine dn_ ?_)
  refine fun kd hkd => ?_
  simp only [List.length_cons, List.length_nil] at hkd
  first | (show aWp _ _ _ _ _) | skip
  have FX := Fx.mk (And.intro @i1 <| @i2)
  repeat (first | refine v_ ?_ | refine u_ ?_ | refine nl_ ?_ | (refine nz_ ?_; first | (show aWp _ _ _ _ _) | skip) | refine sq_ ?_ | refine rg_ ?_ | refine k_ ?_ | refine ct_ ?_ | refine cf_ ?_ | refine bk_ ?_ | refine sc_ ?_ | (refine sk_ ?_; first | (show aWp _ _ _ _ _) | skip) | (refine ex_ ?_; first | (show aWp _ _ _ _ _) | skip) | refine rt_ ?_)
  have l1 : (secB s.pages).take s.pages.length = secB s.pages := take_len _ _ i1
  obtain ⟨p, hp⟩ : ∃ p, nx + 1 + 1 + (1 + 1) = p := ⟨_, rfl⟩
  obtain ⟨q, hq⟩ : ∃ q, nx + 1 + 1 + (1 + 1 + 1 + 1 + 1) = q := ⟨_, rfl⟩
  rw [hp, hq]
  have hpq : nx + 1 < p ∧ p < q ∧ q < kd := by omega
  refine W_loopK [1, 2, 14, 15] (nx + 2) (fun r tm h k => ∃ i : Nat, i ≤ s.pages.length ∧ r = s.pages.length - i ∧ tm 16 = .int .i64 i ∧ kd ≤ k ∧ h nx = some ⟨15, [[.sl (secB s.S), .hs p 0 s.W.length, .int .i64 s.cap, .int .i64 s.sup.e, .int .i64 s.sup.v, .int .i64 s.sup.j, .int .i64 s.sup.p, .int .i64 s.sup.d, .int .i64 s.sup.s, .int .i64 s.sup.r, .hs q 0 s.pages.length, .int .i64 s.root, .int .i64 s.room, .int .i64 s.seq, .int .i64 s.tail]]⟩ ∧ h q = some ⟨1, secB s.pages⟩ ∧ h p = some ⟨3, actsB s.W⟩ ∧ h (nx + 1) = some ⟨15, [[.zs, .zs, .int .i64 0, .int .i64 0, .int .i64 0, .int .i64 0, .int .i64 0, .int .i64 0, .int .i64 0, .int .i64 0, .zs, .int .i64 0, .int .i64 0, .int .i64 0, .int .i64 0]]⟩) s.pages.length (by first | omega | (simp only; omega)) ⟨0, Nat.zero_le _, rfl, rfl, Nat.le_refl _, by (have FX := Fx0; exact cl_), by (have FX := Fx0; exact cl_), by (have FX := Fx0; exact cl_), by (have FX := Fx0; exact cl_)⟩ ?_
  rintro r tm' h' k' ⟨i, hi, rfl, h16, hk3, b1, b2, b3, b4⟩ hag hh hk'
  by_cases hlt : i < s.pages.length
  · have hd : decide ((i : Int) < (s.pages.length : Int)) = true := decide_eq_true (by omega)
    have hw : IntKind.i64.wrap (i + 1) = ((i + 1 : Nat) : Int) := by rw [wrapI] <;> omega
    obtain ⟨b, hx0⟩ : ∃ a, s.pages[i]? = some a := ⟨s.pages[i], List.getElem?_eq_getElem hlt⟩
    have hx := secB_get s.pages i b hx0
    have hb64 := hb b (List.mem_of_getElem? hx0)
    have co := (Clone_oct b (by omega)).fn
    have hset : (secB s.pages).set i [.sl (numB .u8 b)] = secB s.pages := by
      apply List.ext_getElem?
      intro j
      rw [List.getElem?_set]
      by_cases e : i = j
      · subst e; rw [if_pos rfl, if_pos (by rw [i1]; exact hlt), hx]
      · rw [if_neg e]
    have FX := Fx.mk (And.intro @hag <| And.intro @h16 <| And.intro @hh <| And.intro @hd <| And.intro @hw <| And.intro @hx <| And.intro @b1 <| And.intro @b2 <| And.intro @b3 <| @i1)
    repeat (first | refine v_ ?_ | refine u_ ?_ | refine nl_ ?_ | (refine nz_ ?_; first | (show aWp _ _ _ _ _) | skip) | refine sq_ ?_ | refine rg_ ?_ | refine k_ ?_ | refine ct_ ?_ | refine cf_ ?_ | refine bk_ ?_ | refine sc_ ?_ | (refine sk_ ?_; first | (show aWp _ _ _ _ _) | skip) | (refine ex_ ?_; first | (show aWp _ _ _ _ _) | skip) | refine rt_ ?_)
    have FX := Fx.mk (And.intro @hag <| And.intro @h16 <| And.intro @hh <| And.intro @hd <| And.intro @hw <| And.intro @hx <| And.intro @b1 <| And.intro @b2 <| And.intro @b3 <| And.intro @i1 <| @hset)
    refine W_draw mixed rfl rfl ?_
    repeat (first | refine dq_ ?_ | refine df_ (co) ?_ | refine dr_ [nx, q] ?_ | refine dm_ [nx, q] ?_ | refine da_ [nx, q] ?_ | refine ds_ [nx, q] ?_ | refine dw_ [nx, q] ?_ | refine dk_ ?_ | refine dn_ ?_)
    refine fun kd hkd => ?_
    simp only [List.length_cons, List.length_nil] at hkd
    first | (show aWp _ _ _ _ _) | skip
    have FX := Fx.mk (And.intro @hag <| And.intro @h16 <| And.intro @hh <| @hw)
    repeat (first | refine v_ ?_ | refine u_ ?_ | refine nl_ ?_ | (refine nz_ ?_; first | (show aWp _ _ _ _ _) | skip) | refine sq_ ?_ | refine rg_ ?_ | refine k_ ?_ | refine ct_ ?_ | refine cf_ ?_ | refine bk_ ?_ | refine sc_ ?_ | (refine sk_ ?_; first | (show aWp _ _ _ _ _) | skip) | (refine ex_ ?_; first | (show aWp _ _ _ _ _) | skip) | refine rt_ ?_)
    refine ⟨s.pages.length - (i + 1), by omega, ⟨i + 1, by omega, rfl, ?_, by simp only; omega, ?_, ?_, ?_, ?_⟩, ?_, ?_, by simp only; omega, rfl⟩
    · (have FX := Fx0; exact cl_)
    · (have FX := Fx.mk (@b1); exact cl_)
    · (have FX := Fx.mk (@b2); exact cl_)
    · (have FX := Fx.mk (@b3); exact cl_)
    · (have FX := Fx.mk (@b4); exact cl_)
    · repeat (refine KAgree.upd rfl ?_)
      first | exact KAgree.refl _ _ | exact hag
    · exact (by have FX := Fx.mk (@hh); exact ha_)
  obtain rfl : i = s.pages.length := by omega
  have hd : decide ((s.pages.length : Int) < (s.pages.length : Int)) = false := by simp
  refine aWp_sub (Sub.freezeH (z := q) (m := nx) b2 b1 (by omega)) ?_
  have f1 : frzN q ⟨1, secB s.pages⟩ (.hs q 0 s.pages.length) = .sl (secB s.pages) := by
    show (if q = q ∧ 0 + s.pages.length ≤ (secB s.pages).length then AV.sl (((secB s.pages).drop 0).take s.pages.length) else .hs q 0 s.pages.length) = _
    rw [if_pos ⟨rfl, by rw [i1]; omega⟩, List.drop_zero, l1]
  have f2 : frzN q ⟨1, secB s.pages⟩ (.hs p 0 s.W.length) = .hs p 0 s.W.length := by
    show (if p = q ∧ 0 + s.W.length ≤ (secB s.pages).length then _ else AV.hs p 0 s.W.length) = _
    rw [if_neg (by omega)]
  have f3 : ∀ es, frzN q ⟨1, secB s.pages⟩ (.sl es) = .sl es := fun es => rfl
  have f4 : ∀ k n, frzN q ⟨1, secB s.pages⟩ (.int k n) = .int k n := fun _ _ => rfl
  simp only [List.map_cons, List.map_nil, f1, f2, f3, f4]
  have FX := Fx.mk (And.intro @hag <| And.intro @h16 <| And.intro @hh <| And.intro @hd <| And.intro @b1 <| And.intro @b2 <| And.intro @b3 <| @b4)
  repeat (first | refine v_ ?_ | refine u_ ?_ | refine nl_ ?_ | (refine nz_ ?_; first | (show aWp _ _ _ _ _) | skip) | refine sq_ ?_ | refine rg_ ?_ | refine k_ ?_ | refine ct_ ?_ | refine cf_ ?_ | refine bk_ ?_ | refine sc_ ?_ | (refine sk_ ?_; first | (show aWp _ _ _ _ _) | skip) | (refine ex_ ?_; first | (show aWp _ _ _ _ _) | skip) | refine rt_ ?_)
  (have FX := Fx.mk (And.intro @hag <| And.intro @hh <| And.intro @b1 <| And.intro @b2 <| And.intro @b3 <| And.intro @b4 <| @i2); exact endm_ (p) Tryd.results56)
end Go.Proofs.YtjidgdfdeckofaaDoor.AE
