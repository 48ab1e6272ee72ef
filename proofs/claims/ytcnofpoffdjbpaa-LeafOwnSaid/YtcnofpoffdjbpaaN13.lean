/- Layer 7's page: told, Encode. -/
import Derived.Test.YtcnofpoffdjbpaaQ2
import Derived.Test.YtcnofpoffdjbpaaG3
import Derived.Test.YtcnofpoffdjbpaaG4
import Derived.Test.YtcnofpoffdjbpaaG8
import Derived.Test.YtcnofpoffdjbpaaN7
namespace Go.Proofs.Ytcnofpoffdjbpaa.AE
open Go Go.RowKit Go.Proofs Go.Proofs.Ytcnofpoffdjbpaa
set_option linter.unusedVariables false
set_option linter.unusedSimpArgs false
set_option maxRecDepth 100000
set_option maxHeartbeats 8000000
def tK3 (x : List Int) (v : Nat → Int) (i : Nat) : List (Int × Int) := (List.range i).map fun j => (gx x (4 + 8 * j) 8, v j)
theorem tK3_len (x : List Int) (v : Nat → Int) (i : Nat) : (tK3 x v i).length = i := by simp [tK3]
theorem tK3_step (x : List Int) (v : Nat → Int) (i : Nat) : itemB (tK3 x v i) ++ [[.int .u64 (gx x (4 + 8 * i) 8), .int .u64 (v i)]] = itemB (tK3 x v (i + 1)) := by simp [tK3, itemB, List.range_succ]
theorem ref_told (x : List Int) (hx : x.length = 60) (h01 : x.getD 0 0 = 1 ∨ x.getD 0 0 = 2) : aFun Try.prog 37 [.sl (numB .u8 x)] (.agg [.sl (itemB (toldN x).1), .sl (numB .i64 (toldN x).2)]) := by
  obtain ⟨x0, e0⟩ : ∃ c, x[0]? = some c := ⟨_, List.getElem?_eq_getElem (by omega)⟩
  obtain ⟨x1, e1⟩ : ∃ c, x[1]? = some c := ⟨_, List.getElem?_eq_getElem (by omega)⟩
  have g0 := numB_get .u8 x 0 x0 e0
  have g1 := numB_get .u8 x 1 x1 e1
  have hx0 : x.getD 0 0 = x0 := by rw [List.getD_eq_getElem?_getD, e0]; rfl
  rcases h01 with h01 | h01
  · have ht : toldN x = (tK2 x (tM x), []) := if_pos h01
    have d1 : decide ((x0 : Int) = 1) = true := decide_eq_true (hx0.symm.trans h01)
    have d2 : decide ((x0 : Int) = 2) = false := decide_eq_false (by omega)
    rw [ht]
    refine aFun_body Try.func37 rfl rfl (by simp [Try.ntmps37]) fun hreal h nx hfresh => ?_
    rw [Try.ntmps37]
    have hby := (hreal (.sl (numB .u8 x)) (by simp)).BY
    have r0 := hby x0 (List.mem_of_getElem? e0)
    have r1 := hby x1 (List.mem_of_getElem? e1)
    have hM : tM x ≤ 3 := by unfold tM; omega
    have hm0 : (if 3 < x1 then 3 else x1) = ((tM x : Nat) : Int) := by
      unfold tM
      rw [List.getD_eq_getElem?_getD, e1]
      simp only [Option.getD_some]
      split <;> omega
    have hm : IntKind.i64.wrap ((tM x : Nat) : Int) = ((tM x : Nat) : Int) := by rw [wrapI] <;> omega
    have FX := Fx.mk (And.intro @g0 <| And.intro @g1 <| And.intro @hm0 <| @hm)
    repeat (first | refine v_ ?_ | refine u_ ?_ | refine nl_ ?_ | (refine nz_ ?_; first | (show aWp _ _ _ _ _) | skip) | refine sq_ ?_ | refine rg_ ?_ | refine k_ ?_ | refine ct_ ?_ | refine cf_ ?_ | refine bk_ ?_ | refine sc_ ?_ | (refine sk_ ?_; first | (show aWp _ _ _ _ _) | skip) | (refine ex_ ?_; first | (show aWp _ _ _ _ _) | skip) | refine rt_ ?_)
    refine W_loopK [0, 2, 3, 4] (nx + 1) (fun r tm h q => ∃ i : Nat, i ≤ tM x ∧ r = tM x - i ∧ tm 5 = .int .i64 i ∧ nx + 1 < q ∧ ((h (nx + 1) = some ⟨2, [[.zs, .zs]]⟩ ∧ i = 0) ∨ ∃ m, h (nx + 1) = some ⟨2, [[.hs m 0 i, .zs]]⟩ ∧ nx + 1 < m ∧ m < q ∧ h m = some ⟨2, itemB (tK3 x (fun j => gx x (4 + 8 * tM x + 8 * j) 8) i)⟩)) (tM x) (by omega) ⟨0, Nat.zero_le _, rfl, rfl, by omega, .inl ⟨by (have FX := Fx0; exact cl_), rfl⟩⟩ ?_
    rintro r tm' h' k' ⟨i, hi, rfl, h5, hk3, hc⟩ hag hh hk'
    by_cases hlt : i < tM x
    · have hd : decide ((i : Int) < (tM x : Int)) = true := decide_eq_true (by omega)
      have hw : IntKind.i64.wrap (i + 1) = ((i + 1 : Nat) : Int) := by rw [wrapI] <;> omega
      have w1 : IntKind.i64.wrap (8 * (i : Int)) = ((8 * i : Nat) : Int) := by rw [wrapI] <;> omega
      have w2 : IntKind.i64.wrap (4 + ((8 * i : Nat) : Int)) = ((4 + 8 * i : Nat) : Int) := by rw [wrapI] <;> omega
      have w3 : IntKind.i64.wrap (8 * (tM x : Int)) = ((8 * tM x : Nat) : Int) := by rw [wrapI] <;> omega
      have w4 : IntKind.i64.wrap (4 + ((8 * tM x : Nat) : Int)) = ((4 + 8 * tM x : Nat) : Int) := by rw [wrapI] <;> omega
      have w5 : IntKind.i64.wrap (((4 + 8 * tM x : Nat) : Int) + ((8 * i : Nat) : Int)) = ((4 + 8 * tM x + 8 * i : Nat) : Int) := by rw [wrapI] <;> omega
      have gt := ref01_Get x ((4 + 8 * i : Nat) : Int) 8
      rw [show Pl.getS x ((4 + 8 * i : Nat) : Int) 8 = (gx x (4 + 8 * i) 8, 0) from getS_gx (n := 8) (by decide) (by omega)] at gt
      have gv := ref01_Get x ((4 + 8 * tM x + 8 * i : Nat) : Int) 8
      rw [show Pl.getS x ((4 + 8 * tM x + 8 * i : Nat) : Int) 8 = (gx x (4 + 8 * tM x + 8 * i) 8, 0) from getS_gx (n := 8) (by decide) (by omega)] at gv
      have t1 := tK3_len x (fun j => gx x (4 + 8 * tM x + 8 * j) 8) i
      have t3 := tK3_step x (fun j => gx x (4 + 8 * tM x + 8 * j) 8) i
      have t4 : (itemB (tK3 x (fun j => gx x (4 + 8 * tM x + 8 * j) 8) i)).length = i := by rw [itemB_len, t1]
      have t2 := take_len _ _ t4
      rcases hc with ⟨c1, rfl⟩ | ⟨m, c1, m1, m2, m3⟩
      · have t8 : itemB (tK3 x (fun j => gx x (4 + 8 * tM x + 8 * j) 8) (0 + 1)) = [[.int .u64 (gx x (4 + 8 * 0) 8), .int .u64 ((fun j => gx x (4 + 8 * tM x + 8 * j) 8) 0)]] := rfl
        have FX := Fx.mk (And.intro @hag <| And.intro @h5 <| And.intro @hh <| And.intro @hd <| And.intro @hw <| And.intro @c1 <| And.intro @g0 <| And.intro @d1 <| And.intro @w1 <| And.intro @w2 <| And.intro @w3 <| And.intro @w4 <| @w5)
        repeat (first | refine v_ ?_ | refine u_ ?_ | refine f_ (gt) fun kf hkf => ?_ | refine f_ (gv) fun kf hkf => ?_ | refine nl_ ?_ | (refine nz_ ?_; first | (show aWp _ _ _ _ _) | skip) | refine sq_ ?_ | refine rg_ ?_ | refine k_ ?_ | refine ct_ ?_ | refine cf_ ?_ | refine bk_ ?_ | refine sc_ ?_ | (refine sk_ ?_; first | (show aWp _ _ _ _ _) | skip) | (refine ex_ ?_; first | (show aWp _ _ _ _ _) | skip) | refine rt_ ?_)
        refine ⟨tM x - (0 + 1), by omega, ⟨0 + 1, by omega, rfl, ?_, by simp only; omega, .inr ⟨kf + 1, ?_, by omega, by simp only; omega, ?_⟩⟩, ?_, ?_, by simp only; omega, rfl⟩
        · (have FX := Fx0; exact cl_)
        · (have FX := Fx.mk (@c1); exact cl_)
        · (have FX := Fx.mk (@t8); exact cl_)
        · repeat (refine KAgree.upd rfl ?_)
          first | exact KAgree.refl _ _ | exact hag
        · exact (by have FX := Fx.mk (@hh); exact ha_)
      · have FX := Fx.mk (And.intro @hag <| And.intro @h5 <| And.intro @hh <| And.intro @hd <| And.intro @hw <| And.intro @c1 <| And.intro @m3 <| And.intro @g0 <| And.intro @d1 <| And.intro @w1 <| And.intro @w2 <| And.intro @w3 <| And.intro @w4 <| And.intro @w5 <| And.intro @t2 <| And.intro @t3 <| @t4)
        repeat (first | refine v_ ?_ | refine u_ ?_ | refine f_ (gt) fun kf hkf => ?_ | refine f_ (gv) fun kf hkf => ?_ | refine nl_ ?_ | (refine nz_ ?_; first | (show aWp _ _ _ _ _) | skip) | refine sq_ ?_ | refine rg_ ?_ | refine k_ ?_ | refine ct_ ?_ | refine cf_ ?_ | refine bk_ ?_ | refine sc_ ?_ | (refine sk_ ?_; first | (show aWp _ _ _ _ _) | skip) | (refine ex_ ?_; first | (show aWp _ _ _ _ _) | skip) | refine rt_ ?_)
        refine ⟨tM x - (i + 1), by omega, ⟨i + 1, by omega, rfl, ?_, by simp only; omega, .inr ⟨kf + 1, ?_, by omega, by simp only; omega, ?_⟩⟩, ?_, ?_, by simp only; omega, rfl⟩
        · (have FX := Fx0; exact cl_)
        · (have FX := Fx.mk (@c1); exact cl_)
        · (have FX := Fx.mk (@t3); exact cl_)
        · repeat (refine KAgree.upd rfl ?_)
          first | exact KAgree.refl _ _ | exact hag
        · exact (by have FX := Fx.mk (@hh); exact ha_)
    obtain rfl : i = tM x := by omega
    have hd : decide ((tM x : Int) < (tM x : Int)) = false := by simp
    have d3 : decide ((0 : Int) ≤ (tM x : Int)) = true := decide_eq_true (by omega)
    have FX := Fx.mk (And.intro @hag <| And.intro @h5 <| And.intro @hh <| @hd)
    repeat (first | refine v_ ?_ | refine u_ ?_ | refine nl_ ?_ | (refine nz_ ?_; first | (show aWp _ _ _ _ _) | skip) | refine sq_ ?_ | refine rg_ ?_ | refine k_ ?_ | refine ct_ ?_ | refine cf_ ?_ | refine bk_ ?_ | refine sc_ ?_ | (refine sk_ ?_; first | (show aWp _ _ _ _ _) | skip) | (refine ex_ ?_; first | (show aWp _ _ _ _ _) | skip) | refine rt_ ?_)
    rcases hc with ⟨c1, c2⟩ | ⟨m, c1, m1, m2, m3⟩
    · have hz : tK3 x (fun j => gx x (4 + 8 * tM x + 8 * j) 8) (tM x) = [] := by rw [c2]; rfl
      refine W_loopK [0, 2, 3, 4] (nx + 1) (fun r tm h q => tm 9 = .int .i64 0 ∧ True ∧ h (nx + 1) = some ⟨2, [[.zs, .zs]]⟩) 0 (by omega) ⟨rfl, trivial, by (have FX := Fx.mk (@c1); exact cl_)⟩ ?_
      rintro r tm2 h2 k2 ⟨h9, hb, c1⟩ hag2 hh2 hk2
      have hfin : tK2 x (tM x) = tK3 x (fun j => gx x (4 + 8 * tM x + 8 * j) 8) (tM x) := by
        simp only [tK2, tK3]
        refine List.map_congr_left fun j hj => ?_
        have := List.mem_range.1 hj
        simp [this]
      rw [hfin]
      have FX := Fx.mk (And.intro @hag2 <| And.intro @hag <| And.intro @h9 <| And.intro @hh2 <| And.intro @hh <| And.intro @d3 <| And.intro @g0 <| And.intro @d2 <| @c1)
      repeat (first | refine v_ ?_ | refine u_ ?_ | refine nl_ ?_ | (refine nz_ ?_; first | (show aWp _ _ _ _ _) | skip) | refine sq_ ?_ | refine rg_ ?_ | refine k_ ?_ | refine ct_ ?_ | refine cf_ ?_ | refine bk_ ?_ | refine sc_ ?_ | (refine sk_ ?_; first | (show aWp _ _ _ _ _) | skip) | (refine ex_ ?_; first | (show aWp _ _ _ _ _) | skip) | refine rt_ ?_)
      (have FX := Fx.mk (And.intro @hag2 <| And.intro @hag <| And.intro @hh2 <| And.intro @hh <| And.intro @c1 <| And.intro @hb <| And.intro @hz <| @c2); exact end_ Try.results37)
    · have hz : True := trivial
      have hz2 : (itemB (tK3 x (fun j => gx x (4 + 8 * tM x + 8 * j) 8) (tM x))).length = tM x := by rw [itemB_len, tK3_len]
      have hz3 := take_len _ _ hz2
      refine W_loopK [0, 2, 3, 4] (nx + 1) (fun r tm h q => tm 9 = .int .i64 0 ∧ h m = some ⟨2, itemB (tK3 x (fun j => gx x (4 + 8 * tM x + 8 * j) 8) (tM x))⟩ ∧ h (nx + 1) = some ⟨2, [[.hs m 0 (tM x), .zs]]⟩) 0 (by omega) ⟨rfl, m3, by (have FX := Fx.mk (@c1); exact cl_)⟩ ?_
      rintro r tm2 h2 k2 ⟨h9, hb, c1⟩ hag2 hh2 hk2
      have hfin : tK2 x (tM x) = tK3 x (fun j => gx x (4 + 8 * tM x + 8 * j) 8) (tM x) := by
        simp only [tK2, tK3]
        refine List.map_congr_left fun j hj => ?_
        have := List.mem_range.1 hj
        simp [this]
      rw [hfin]
      have FX := Fx.mk (And.intro @hag2 <| And.intro @hag <| And.intro @h9 <| And.intro @hh2 <| And.intro @hh <| And.intro @d3 <| And.intro @g0 <| And.intro @d2 <| @c1)
      repeat (first | refine v_ ?_ | refine u_ ?_ | refine nl_ ?_ | (refine nz_ ?_; first | (show aWp _ _ _ _ _) | skip) | refine sq_ ?_ | refine rg_ ?_ | refine k_ ?_ | refine ct_ ?_ | refine cf_ ?_ | refine bk_ ?_ | refine sc_ ?_ | (refine sk_ ?_; first | (show aWp _ _ _ _ _) | skip) | (refine ex_ ?_; first | (show aWp _ _ _ _ _) | skip) | refine rt_ ?_)
      (have FX := Fx.mk (And.intro @hag2 <| And.intro @hag <| And.intro @hh2 <| And.intro @hh <| And.intro @c1 <| And.intro @hb <| And.intro @hz <| And.intro @hz2 <| @hz3); exact end_ Try.results37)
  · have ht : toldN x = (tK2 x 0, tKd x (tM x + 1)) := if_neg (by omega)
    have d1 : decide ((x0 : Int) = 1) = false := decide_eq_false (by omega)
    have d2 : decide ((x0 : Int) = 2) = true := decide_eq_true (by omega)
    rw [ht]
    refine aFun_body Try.func37 rfl rfl (by simp [Try.ntmps37]) fun hreal h nx hfresh => ?_
    rw [Try.ntmps37]
    have hby := (hreal (.sl (numB .u8 x)) (by simp)).BY
    have r0 := hby x0 (List.mem_of_getElem? e0)
    have r1 := hby x1 (List.mem_of_getElem? e1)
    have hM : tM x ≤ 3 := by unfold tM; omega
    have hm0 : (if 3 < x1 then 3 else x1) = ((tM x : Nat) : Int) := by
      unfold tM
      rw [List.getD_eq_getElem?_getD, e1]
      simp only [Option.getD_some]
      split <;> omega
    have hm : IntKind.i64.wrap ((tM x : Nat) : Int) = ((tM x : Nat) : Int) := by rw [wrapI] <;> omega
    have FX := Fx.mk (And.intro @g0 <| And.intro @g1 <| And.intro @hm0 <| @hm)
    repeat (first | refine v_ ?_ | refine u_ ?_ | refine nl_ ?_ | (refine nz_ ?_; first | (show aWp _ _ _ _ _) | skip) | refine sq_ ?_ | refine rg_ ?_ | refine k_ ?_ | refine ct_ ?_ | refine cf_ ?_ | refine bk_ ?_ | refine sc_ ?_ | (refine sk_ ?_; first | (show aWp _ _ _ _ _) | skip) | (refine ex_ ?_; first | (show aWp _ _ _ _ _) | skip) | refine rt_ ?_)
    refine W_loopK [0, 2, 3, 4] (nx + 1) (fun r tm h q => ∃ i : Nat, i ≤ tM x ∧ r = tM x - i ∧ tm 5 = .int .i64 i ∧ nx + 1 < q ∧ ((h (nx + 1) = some ⟨2, [[.zs, .zs]]⟩ ∧ i = 0) ∨ ∃ m, h (nx + 1) = some ⟨2, [[.hs m 0 i, .zs]]⟩ ∧ nx + 1 < m ∧ m < q ∧ h m = some ⟨2, itemB (tK3 x (fun _ => (0 : Int)) i)⟩)) (tM x) (by omega) ⟨0, Nat.zero_le _, rfl, rfl, by omega, .inl ⟨by (have FX := Fx0; exact cl_), rfl⟩⟩ ?_
    rintro r tm' h' k' ⟨i, hi, rfl, h5, hk3, hc⟩ hag hh hk'
    by_cases hlt : i < tM x
    · have hd : decide ((i : Int) < (tM x : Int)) = true := decide_eq_true (by omega)
      have hw : IntKind.i64.wrap (i + 1) = ((i + 1 : Nat) : Int) := by rw [wrapI] <;> omega
      have w1 : IntKind.i64.wrap (8 * (i : Int)) = ((8 * i : Nat) : Int) := by rw [wrapI] <;> omega
      have w2 : IntKind.i64.wrap (4 + ((8 * i : Nat) : Int)) = ((4 + 8 * i : Nat) : Int) := by rw [wrapI] <;> omega
      have w3 : IntKind.i64.wrap (8 * (tM x : Int)) = ((8 * tM x : Nat) : Int) := by rw [wrapI] <;> omega
      have w4 : IntKind.i64.wrap (4 + ((8 * tM x : Nat) : Int)) = ((4 + 8 * tM x : Nat) : Int) := by rw [wrapI] <;> omega
      have w5 : IntKind.i64.wrap (((4 + 8 * tM x : Nat) : Int) + ((8 * i : Nat) : Int)) = ((4 + 8 * tM x + 8 * i : Nat) : Int) := by rw [wrapI] <;> omega
      have gt := ref01_Get x ((4 + 8 * i : Nat) : Int) 8
      rw [show Pl.getS x ((4 + 8 * i : Nat) : Int) 8 = (gx x (4 + 8 * i) 8, 0) from getS_gx (n := 8) (by decide) (by omega)] at gt
      have gv := ref01_Get x ((4 + 8 * tM x + 8 * i : Nat) : Int) 8
      rw [show Pl.getS x ((4 + 8 * tM x + 8 * i : Nat) : Int) 8 = (gx x (4 + 8 * tM x + 8 * i) 8, 0) from getS_gx (n := 8) (by decide) (by omega)] at gv
      have t1 := tK3_len x (fun _ => (0 : Int)) i
      have t3 := tK3_step x (fun _ => (0 : Int)) i
      have t4 : (itemB (tK3 x (fun _ => (0 : Int)) i)).length = i := by rw [itemB_len, t1]
      have t2 := take_len _ _ t4
      rcases hc with ⟨c1, rfl⟩ | ⟨m, c1, m1, m2, m3⟩
      · have t8 : itemB (tK3 x (fun _ => (0 : Int)) (0 + 1)) = [[.int .u64 (gx x (4 + 8 * 0) 8), .int .u64 ((fun _ => (0 : Int)) 0)]] := rfl
        have FX := Fx.mk (And.intro @hag <| And.intro @h5 <| And.intro @hh <| And.intro @hd <| And.intro @hw <| And.intro @c1 <| And.intro @g0 <| And.intro @d1 <| And.intro @w1 <| And.intro @w2 <| And.intro @w3 <| And.intro @w4 <| @w5)
        repeat (first | refine v_ ?_ | refine u_ ?_ | refine f_ (gt) fun kf hkf => ?_ | refine f_ (gv) fun kf hkf => ?_ | refine nl_ ?_ | (refine nz_ ?_; first | (show aWp _ _ _ _ _) | skip) | refine sq_ ?_ | refine rg_ ?_ | refine k_ ?_ | refine ct_ ?_ | refine cf_ ?_ | refine bk_ ?_ | refine sc_ ?_ | (refine sk_ ?_; first | (show aWp _ _ _ _ _) | skip) | (refine ex_ ?_; first | (show aWp _ _ _ _ _) | skip) | refine rt_ ?_)
        refine ⟨tM x - (0 + 1), by omega, ⟨0 + 1, by omega, rfl, ?_, by simp only; omega, .inr ⟨kf + 1 + 1, ?_, by omega, by simp only; omega, ?_⟩⟩, ?_, ?_, by simp only; omega, rfl⟩
        · (have FX := Fx0; exact cl_)
        · (have FX := Fx.mk (@c1); exact cl_)
        · (have FX := Fx.mk (@t8); exact cl_)
        · repeat (refine KAgree.upd rfl ?_)
          first | exact KAgree.refl _ _ | exact hag
        · exact (by have FX := Fx.mk (@hh); exact ha_)
      · have FX := Fx.mk (And.intro @hag <| And.intro @h5 <| And.intro @hh <| And.intro @hd <| And.intro @hw <| And.intro @c1 <| And.intro @m3 <| And.intro @g0 <| And.intro @d1 <| And.intro @w1 <| And.intro @w2 <| And.intro @w3 <| And.intro @w4 <| And.intro @w5 <| And.intro @t2 <| And.intro @t3 <| @t4)
        repeat (first | refine v_ ?_ | refine u_ ?_ | refine f_ (gt) fun kf hkf => ?_ | refine f_ (gv) fun kf hkf => ?_ | refine nl_ ?_ | (refine nz_ ?_; first | (show aWp _ _ _ _ _) | skip) | refine sq_ ?_ | refine rg_ ?_ | refine k_ ?_ | refine ct_ ?_ | refine cf_ ?_ | refine bk_ ?_ | refine sc_ ?_ | (refine sk_ ?_; first | (show aWp _ _ _ _ _) | skip) | (refine ex_ ?_; first | (show aWp _ _ _ _ _) | skip) | refine rt_ ?_)
        refine ⟨tM x - (i + 1), by omega, ⟨i + 1, by omega, rfl, ?_, by simp only; omega, .inr ⟨kf + 1 + 1, ?_, by omega, by simp only; omega, ?_⟩⟩, ?_, ?_, by simp only; omega, rfl⟩
        · (have FX := Fx0; exact cl_)
        · (have FX := Fx.mk (@c1); exact cl_)
        · (have FX := Fx.mk (@t3); exact cl_)
        · repeat (refine KAgree.upd rfl ?_)
          first | exact KAgree.refl _ _ | exact hag
        · exact (by have FX := Fx.mk (@hh); exact ha_)
    obtain rfl : i = tM x := by omega
    have hd : decide ((tM x : Int) < (tM x : Int)) = false := by simp
    have d3 : decide ((0 : Int) ≤ (tM x : Int)) = true := decide_eq_true (by omega)
    have FX := Fx.mk (And.intro @hag <| And.intro @h5 <| And.intro @hh <| @hd)
    repeat (first | refine v_ ?_ | refine u_ ?_ | refine nl_ ?_ | (refine nz_ ?_; first | (show aWp _ _ _ _ _) | skip) | refine sq_ ?_ | refine rg_ ?_ | refine k_ ?_ | refine ct_ ?_ | refine cf_ ?_ | refine bk_ ?_ | refine sc_ ?_ | (refine sk_ ?_; first | (show aWp _ _ _ _ _) | skip) | (refine ex_ ?_; first | (show aWp _ _ _ _ _) | skip) | refine rt_ ?_)
    rcases hc with ⟨c1, c2⟩ | ⟨m, c1, m1, m2, m3⟩
    · have hz : tK3 x (fun _ => (0 : Int)) (tM x) = [] := by rw [c2]; rfl
      refine W_loopK [0, 2, 3, 4] (nx + 1) (fun r tm h q => ∃ i : Nat, i ≤ tM x + 1 ∧ r = tM x + 1 - i ∧ tm 9 = .int .i64 i ∧ nx + 1 < q ∧ True ∧ ((h (nx + 1) = some ⟨2, [[.zs, .zs]]⟩ ∧ i = 0) ∨ ∃ m', h (nx + 1) = some ⟨2, [[.zs, .hs m' 0 i]]⟩ ∧ nx + 1 < m' ∧ m' < q ∧ h m' = some ⟨1, numB .i64 (tKd x i)⟩)) (tM x + 1) (by omega) ⟨0, Nat.zero_le _, rfl, rfl, by omega, trivial, .inl ⟨by (have FX := Fx.mk (@c1); exact cl_), rfl⟩⟩ ?_
      rintro r tm2 h2 k2 ⟨i, hi2, rfl, h9, hk4, hb, hc⟩ hag2 hh2 hk2
      by_cases hlt : i < tM x + 1
      · have hd : decide ((i : Int) ≤ (tM x : Int)) = true := decide_eq_true (by omega)
        have hw : IntKind.i64.wrap (i + 1) = ((i + 1 : Nat) : Int) := by rw [wrapI] <;> omega
        have w1 : IntKind.i64.wrap (4 * (i : Int)) = ((4 * i : Nat) : Int) := by rw [wrapI] <;> omega
        have w3 : IntKind.i64.wrap (8 * (tM x : Int)) = ((8 * tM x : Nat) : Int) := by rw [wrapI] <;> omega
        have w4 : IntKind.i64.wrap (4 + ((8 * tM x : Nat) : Int)) = ((4 + 8 * tM x : Nat) : Int) := by rw [wrapI] <;> omega
        have w5 : IntKind.i64.wrap (((4 + 8 * tM x : Nat) : Int) + ((4 * i : Nat) : Int)) = ((4 + 8 * tM x + 4 * i : Nat) : Int) := by rw [wrapI] <;> omega
        have gt := ref01_Get x ((4 + 8 * tM x + 4 * i : Nat) : Int) 4
        rw [show Pl.getS x ((4 + 8 * tM x + 4 * i : Nat) : Int) 4 = (gx x (4 + 8 * tM x + 4 * i) 4, 0) from getS_gx (n := 4) (by decide) (by omega)] at gt
        have t6 := tKd_step x i
        have t7 := gx_range4 x (4 + 8 * tM x + 4 * i)
        have hwx : IntKind.i64.wrap (gx x (4 + 8 * tM x + 4 * i) 4) = gx x (4 + 8 * tM x + 4 * i) 4 := by rw [wrapI] <;> omega
        have t1 := tKd_len x i
        have t2 := take_len _ _ t1
        rcases hc with ⟨c1, rfl⟩ | ⟨m', c1, m1', m2', m3'⟩
        · have t8 : tKd x (0 + 1) = [gx x (4 + 8 * tM x) 4] := rfl
          have t9 : tKd x 1 = [gx x (4 + 8 * tM x) 4] := rfl
          have hw0 : IntKind.i64.wrap (gx x (4 + 8 * tM x) 4) = gx x (4 + 8 * tM x) 4 := hwx
          have FX := Fx.mk (And.intro @hag2 <| And.intro @hag <| And.intro @h9 <| And.intro @hh2 <| And.intro @hh <| And.intro @hd <| And.intro @hw <| And.intro @c1 <| And.intro @g0 <| And.intro @w1 <| And.intro @w3 <| And.intro @w4 <| And.intro @w5 <| And.intro @hw0 <| @d2)
          repeat (first | refine v_ ?_ | refine u_ ?_ | refine f_ (gt) fun kf hkf => ?_ | refine nl_ ?_ | (refine nz_ ?_; first | (show aWp _ _ _ _ _) | skip) | refine sq_ ?_ | refine rg_ ?_ | refine k_ ?_ | refine ct_ ?_ | refine cf_ ?_ | refine bk_ ?_ | refine sc_ ?_ | (refine sk_ ?_; first | (show aWp _ _ _ _ _) | skip) | (refine ex_ ?_; first | (show aWp _ _ _ _ _) | skip) | refine rt_ ?_)
          refine ⟨tM x + 1 - (0 + 1), by omega, ⟨0 + 1, by omega, rfl, ?_, by simp only; omega, ?_, .inr ⟨kf + 1, ?_, by omega, by simp only; omega, ?_⟩⟩, ?_, ?_, by simp only; omega, rfl⟩
          · (have FX := Fx0; exact cl_)
          · first | trivial | ((have FX := Fx.mk (@hb); exact cl_))
          · (have FX := Fx0; exact cl_)
          · (have FX := Fx.mk (And.intro @t8 <| @t9); exact cl_)
          · repeat (refine KAgree.upd rfl ?_)
            exact hag2
          · exact (by have FX := Fx.mk (@hh2); exact ha_)
        · have FX := Fx.mk (And.intro @hag2 <| And.intro @hag <| And.intro @h9 <| And.intro @hh2 <| And.intro @hh <| And.intro @hd <| And.intro @hw <| And.intro @c1 <| And.intro @m3' <| And.intro @g0 <| And.intro @w1 <| And.intro @w3 <| And.intro @w4 <| And.intro @w5 <| And.intro @hwx <| And.intro @d2 <| And.intro @t1 <| @t2)
          repeat (first | refine v_ ?_ | refine u_ ?_ | refine f_ (gt) fun kf hkf => ?_ | refine nl_ ?_ | (refine nz_ ?_; first | (show aWp _ _ _ _ _) | skip) | refine sq_ ?_ | refine rg_ ?_ | refine k_ ?_ | refine ct_ ?_ | refine cf_ ?_ | refine bk_ ?_ | refine sc_ ?_ | (refine sk_ ?_; first | (show aWp _ _ _ _ _) | skip) | (refine ex_ ?_; first | (show aWp _ _ _ _ _) | skip) | refine rt_ ?_)
          refine ⟨tM x + 1 - (i + 1), by omega, ⟨i + 1, by omega, rfl, ?_, by simp only; omega, ?_, .inr ⟨kf + 1, ?_, by omega, by simp only; omega, ?_⟩⟩, ?_, ?_, by simp only; omega, rfl⟩
          · (have FX := Fx0; exact cl_)
          · first | trivial | ((have FX := Fx.mk (@hb); exact cl_))
          · (have FX := Fx0; exact cl_)
          · (have FX := Fx.mk (@t6); exact cl_)
          · repeat (refine KAgree.upd rfl ?_)
            exact hag2
          · exact (by have FX := Fx.mk (@hh2); exact ha_)
      obtain rfl : i = tM x + 1 := by omega
      have hd : decide (((tM x + 1 : Nat) : Int) ≤ (tM x : Int)) = false := decide_eq_false (by omega)
      have q3 : (tKd x (tM x + 1)).length = tM x + 1 := tKd_len _ _
      have q4 := take_len _ _ q3
      have hfin : tK2 x 0 = tK3 x (fun _ => (0 : Int)) (tM x) := by
        simp only [tK2, tK3]
        refine List.map_congr_left fun j hj => ?_
        simp
      rw [hfin]
      rcases hc with ⟨c1, h0⟩ | ⟨m', c1, m1', m2', m3'⟩
      · exact absurd h0 (by omega)
      have FX := Fx.mk (And.intro @hag2 <| And.intro @hag <| And.intro @h9 <| And.intro @hh2 <| And.intro @hh <| And.intro @hd <| @c1)
      repeat (first | refine v_ ?_ | refine u_ ?_ | refine nl_ ?_ | (refine nz_ ?_; first | (show aWp _ _ _ _ _) | skip) | refine sq_ ?_ | refine rg_ ?_ | refine k_ ?_ | refine ct_ ?_ | refine cf_ ?_ | refine bk_ ?_ | refine sc_ ?_ | (refine sk_ ?_; first | (show aWp _ _ _ _ _) | skip) | (refine ex_ ?_; first | (show aWp _ _ _ _ _) | skip) | refine rt_ ?_)
      (have FX := Fx.mk (And.intro @hag2 <| And.intro @hag <| And.intro @hh2 <| And.intro @hh <| And.intro @c1 <| And.intro @m3' <| And.intro @hb <| And.intro @hz <| And.intro @c2 <| And.intro @q3 <| @q4); exact end_ Try.results37)
    · have hz : True := trivial
      have hz2 : (itemB (tK3 x (fun _ => (0 : Int)) (tM x))).length = tM x := by rw [itemB_len, tK3_len]
      have hz3 := take_len _ _ hz2
      refine W_loopK [0, 2, 3, 4] (nx + 1) (fun r tm h q => ∃ i : Nat, i ≤ tM x + 1 ∧ r = tM x + 1 - i ∧ tm 9 = .int .i64 i ∧ m < q ∧ h m = some ⟨2, itemB (tK3 x (fun _ => (0 : Int)) (tM x))⟩ ∧ ((h (nx + 1) = some ⟨2, [[.hs m 0 (tM x), .zs]]⟩ ∧ i = 0) ∨ ∃ m', h (nx + 1) = some ⟨2, [[.hs m 0 (tM x), .hs m' 0 i]]⟩ ∧ m < m' ∧ m' < q ∧ h m' = some ⟨1, numB .i64 (tKd x i)⟩)) (tM x + 1) (by omega) ⟨0, Nat.zero_le _, rfl, rfl, by omega, m3, .inl ⟨by (have FX := Fx.mk (@c1); exact cl_), rfl⟩⟩ ?_
      rintro r tm2 h2 k2 ⟨i, hi2, rfl, h9, hk4, hb, hc⟩ hag2 hh2 hk2
      by_cases hlt : i < tM x + 1
      · have hd : decide ((i : Int) ≤ (tM x : Int)) = true := decide_eq_true (by omega)
        have hw : IntKind.i64.wrap (i + 1) = ((i + 1 : Nat) : Int) := by rw [wrapI] <;> omega
        have w1 : IntKind.i64.wrap (4 * (i : Int)) = ((4 * i : Nat) : Int) := by rw [wrapI] <;> omega
        have w3 : IntKind.i64.wrap (8 * (tM x : Int)) = ((8 * tM x : Nat) : Int) := by rw [wrapI] <;> omega
        have w4 : IntKind.i64.wrap (4 + ((8 * tM x : Nat) : Int)) = ((4 + 8 * tM x : Nat) : Int) := by rw [wrapI] <;> omega
        have w5 : IntKind.i64.wrap (((4 + 8 * tM x : Nat) : Int) + ((4 * i : Nat) : Int)) = ((4 + 8 * tM x + 4 * i : Nat) : Int) := by rw [wrapI] <;> omega
        have gt := ref01_Get x ((4 + 8 * tM x + 4 * i : Nat) : Int) 4
        rw [show Pl.getS x ((4 + 8 * tM x + 4 * i : Nat) : Int) 4 = (gx x (4 + 8 * tM x + 4 * i) 4, 0) from getS_gx (n := 4) (by decide) (by omega)] at gt
        have t6 := tKd_step x i
        have t7 := gx_range4 x (4 + 8 * tM x + 4 * i)
        have hwx : IntKind.i64.wrap (gx x (4 + 8 * tM x + 4 * i) 4) = gx x (4 + 8 * tM x + 4 * i) 4 := by rw [wrapI] <;> omega
        have t1 := tKd_len x i
        have t2 := take_len _ _ t1
        rcases hc with ⟨c1, rfl⟩ | ⟨m', c1, m1', m2', m3'⟩
        · have t8 : tKd x (0 + 1) = [gx x (4 + 8 * tM x) 4] := rfl
          have t9 : tKd x 1 = [gx x (4 + 8 * tM x) 4] := rfl
          have hw0 : IntKind.i64.wrap (gx x (4 + 8 * tM x) 4) = gx x (4 + 8 * tM x) 4 := hwx
          have FX := Fx.mk (And.intro @hag2 <| And.intro @hag <| And.intro @h9 <| And.intro @hh2 <| And.intro @hh <| And.intro @hd <| And.intro @hw <| And.intro @c1 <| And.intro @g0 <| And.intro @w1 <| And.intro @w3 <| And.intro @w4 <| And.intro @w5 <| And.intro @hw0 <| @d2)
          repeat (first | refine v_ ?_ | refine u_ ?_ | refine f_ (gt) fun kf hkf => ?_ | refine nl_ ?_ | (refine nz_ ?_; first | (show aWp _ _ _ _ _) | skip) | refine sq_ ?_ | refine rg_ ?_ | refine k_ ?_ | refine ct_ ?_ | refine cf_ ?_ | refine bk_ ?_ | refine sc_ ?_ | (refine sk_ ?_; first | (show aWp _ _ _ _ _) | skip) | (refine ex_ ?_; first | (show aWp _ _ _ _ _) | skip) | refine rt_ ?_)
          refine ⟨tM x + 1 - (0 + 1), by omega, ⟨0 + 1, by omega, rfl, ?_, by simp only; omega, ?_, .inr ⟨kf + 1, ?_, by omega, by simp only; omega, ?_⟩⟩, ?_, ?_, by simp only; omega, rfl⟩
          · (have FX := Fx0; exact cl_)
          · first | trivial | ((have FX := Fx.mk (@hb); exact cl_))
          · (have FX := Fx0; exact cl_)
          · (have FX := Fx.mk (And.intro @t8 <| @t9); exact cl_)
          · repeat (refine KAgree.upd rfl ?_)
            exact hag2
          · exact (by have FX := Fx.mk (@hh2); exact ha_)
        · have FX := Fx.mk (And.intro @hag2 <| And.intro @hag <| And.intro @h9 <| And.intro @hh2 <| And.intro @hh <| And.intro @hd <| And.intro @hw <| And.intro @c1 <| And.intro @m3' <| And.intro @g0 <| And.intro @w1 <| And.intro @w3 <| And.intro @w4 <| And.intro @w5 <| And.intro @hwx <| And.intro @d2 <| And.intro @t1 <| @t2)
          repeat (first | refine v_ ?_ | refine u_ ?_ | refine f_ (gt) fun kf hkf => ?_ | refine nl_ ?_ | (refine nz_ ?_; first | (show aWp _ _ _ _ _) | skip) | refine sq_ ?_ | refine rg_ ?_ | refine k_ ?_ | refine ct_ ?_ | refine cf_ ?_ | refine bk_ ?_ | refine sc_ ?_ | (refine sk_ ?_; first | (show aWp _ _ _ _ _) | skip) | (refine ex_ ?_; first | (show aWp _ _ _ _ _) | skip) | refine rt_ ?_)
          refine ⟨tM x + 1 - (i + 1), by omega, ⟨i + 1, by omega, rfl, ?_, by simp only; omega, ?_, .inr ⟨kf + 1, ?_, by omega, by simp only; omega, ?_⟩⟩, ?_, ?_, by simp only; omega, rfl⟩
          · (have FX := Fx0; exact cl_)
          · first | trivial | ((have FX := Fx.mk (@hb); exact cl_))
          · (have FX := Fx0; exact cl_)
          · (have FX := Fx.mk (@t6); exact cl_)
          · repeat (refine KAgree.upd rfl ?_)
            exact hag2
          · exact (by have FX := Fx.mk (@hh2); exact ha_)
      obtain rfl : i = tM x + 1 := by omega
      have hd : decide (((tM x + 1 : Nat) : Int) ≤ (tM x : Int)) = false := decide_eq_false (by omega)
      have q3 : (tKd x (tM x + 1)).length = tM x + 1 := tKd_len _ _
      have q4 := take_len _ _ q3
      have hfin : tK2 x 0 = tK3 x (fun _ => (0 : Int)) (tM x) := by
        simp only [tK2, tK3]
        refine List.map_congr_left fun j hj => ?_
        simp
      rw [hfin]
      rcases hc with ⟨c1, h0⟩ | ⟨m', c1, m1', m2', m3'⟩
      · exact absurd h0 (by omega)
      have FX := Fx.mk (And.intro @hag2 <| And.intro @hag <| And.intro @h9 <| And.intro @hh2 <| And.intro @hh <| And.intro @hd <| @c1)
      repeat (first | refine v_ ?_ | refine u_ ?_ | refine nl_ ?_ | (refine nz_ ?_; first | (show aWp _ _ _ _ _) | skip) | refine sq_ ?_ | refine rg_ ?_ | refine k_ ?_ | refine ct_ ?_ | refine cf_ ?_ | refine bk_ ?_ | refine sc_ ?_ | (refine sk_ ?_; first | (show aWp _ _ _ _ _) | skip) | (refine ex_ ?_; first | (show aWp _ _ _ _ _) | skip) | refine rt_ ?_)
      (have FX := Fx.mk (And.intro @hag2 <| And.intro @hag <| And.intro @hh2 <| And.intro @hh <| And.intro @c1 <| And.intro @m3' <| And.intro @hb <| And.intro @hz <| And.intro @hz2 <| And.intro @hz3 <| And.intro @q3 <| @q4); exact end_ Try.results37)
end Go.Proofs.Ytcnofpoffdjbpaa.AE
