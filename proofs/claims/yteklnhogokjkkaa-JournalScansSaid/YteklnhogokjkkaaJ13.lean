/- Layer 15's page: Decode. -/
import Derived.Test.YteklnhogokjkkaaJ12
import Derived.Test.YteklnhogokjkkaaJ5
namespace Go.Proofs.Yteklnhogokjkkaa.AE
open Go Go.RowKit Go.Proofs Go.Proofs.Yteklnhogokjkkaa
set_option linter.unusedVariables false
set_option linter.unusedSimpArgs false
set_option maxRecDepth 100000
set_option maxHeartbeats 8000000
theorem aIndex_s (P : Program) (t : TypeId) (l : List Int) (kd : IntKind) (i : Int) : aIndex P t (.str l) (.int kd i) = (strK (kT P t)).bind fun _ => if 0 ≤ i then (l[i.toNat]?).map fun c => .int .u8 c else none := by
  unfold aIndex kT
  cases hu : P.underlying t with
  | none => rfl
  | some d => cases d <;> rfl
theorem ref15_Decode (b : List Int) : aFun Try.prog 14 [.sl (numB .u8 b)] (decV b) := by
  have e4 : ∀ tm : Nat → AV, evA tm (.const (.string { data := #[102, 115, 106, 49] })) = .str magJ := fun _ => rfl
  refine aFun_body Try.func14 rfl rfl (by simp [Try.ntmps14]) fun hreal h nx hfresh => ?_
  rw [Try.ntmps14]
  have hBY := (hreal (.sl (numB .u8 b)) (by simp)).BY
  have hl : b.length < 4611686018427387904 := by
    have := (hreal (.sl (numB .u8 b)) (by simp)).sl.1
    rwa [numB_len] at this
  have FX := Fx0
  repeat (first | refine v_ ?_ | refine u_ ?_ | refine nl_ ?_ | (refine nz_ ?_; first | (show aWp _ _ _ _ _) | skip) | refine sq_ ?_ | refine rg_ ?_ | refine k_ ?_ | refine ct_ ?_ | refine cf_ ?_ | refine bk_ ?_ | refine sc_ ?_ | (refine sk_ ?_; first | (show aWp _ _ _ _ _) | skip) | (refine ex_ ?_; first | (show aWp _ _ _ _ _) | skip) | refine rt_ ?_)
  refine W_loopK [0, 2] (nx + 1) (fun k tm h q => ∃ i : Nat, i ≤ 4 ∧ i ≤ b.length ∧ k = 4 - i ∧ tm 5 = .int .i64 i ∧ b.take i = magJ.take i) 4 (by omega) ⟨0, by omega, by omega, rfl, by (have FX := Fx0; exact cl_), rfl⟩ ?_
  rintro k tm' h' k' ⟨i, hi4, hib, rfl, h5, htk⟩ hag hh hk'
  have b0 : h' nx = some ⟨4, [[.int .i64 0, .int .i64 0, .int .i64 0, .zs]]⟩ := by rw [hh nx (by omega)]; (have FX := Fx0; exact cl_)
  by_cases hlt : i < 4 ∧ i < b.length
  · have d4 : decide ((i : Int) < 4) = true := decide_eq_true (by omega)
    have dl : decide ((i : Int) < (b.length : Int)) = true := decide_eq_true (by omega)
    have hw : IntKind.i64.wrap (i + 1) = ((i + 1 : Nat) : Int) := by rw [wrapI] <;> omega
    obtain ⟨c, hc⟩ : ∃ c, b[i]? = some c := ⟨_, List.getElem?_eq_getElem hlt.2⟩
    obtain ⟨g, hg⟩ : ∃ g, magJ[i]? = some g := ⟨_, List.getElem?_eq_getElem (by show i < 4; omega)⟩
    have hcn := numB_get .u8 b i c hc
    have FX := Fx.mk (And.intro @hag <| And.intro @h5 <| And.intro @d4 <| @dl)
    repeat (first | refine v_ ?_ | refine u_ ?_ | refine nl_ ?_ | (refine nz_ ?_; first | (show aWp _ _ _ _ _) | skip) | refine sq_ ?_ | refine rg_ ?_ | refine k_ ?_ | refine ct_ ?_ | refine cf_ ?_ | refine bk_ ?_ | refine sc_ ?_ | (refine sk_ ?_; first | (show aWp _ _ _ _ _) | skip) | (refine ex_ ?_; first | (show aWp _ _ _ _ _) | skip) | refine rt_ ?_)
    by_cases hcg : c = g
    · have dc : decide (c = g) = true := decide_eq_true hcg
      have htk2 : b.take (i + 1) = magJ.take (i + 1) := by rw [List.take_add_one, List.take_add_one, hc, hg, htk, hcg]
      have FX := Fx.mk (And.intro @hag <| And.intro @h5 <| And.intro @hcn <| And.intro @e4 <| And.intro @aIndex_s <| And.intro @hg <| And.intro @dc <| @Bool.not_true)
      refine W_draw mixed rfl rfl ?_
      repeat (first | refine dq_ ?_ | refine dr_ [nx] ?_ | refine dk_ ?_ | refine dn_ ?_)
      refine fun kd hkd => ?_
      simp only [List.length_cons, List.length_nil] at hkd
      first | (show aWp _ _ _ _ _) | skip
      have FX := Fx.mk (And.intro @hag <| And.intro @h5 <| @hw)
      repeat (first | refine v_ ?_ | refine u_ ?_ | refine nl_ ?_ | (refine nz_ ?_; first | (show aWp _ _ _ _ _) | skip) | refine sq_ ?_ | refine rg_ ?_ | refine k_ ?_ | refine ct_ ?_ | refine cf_ ?_ | refine bk_ ?_ | refine sc_ ?_ | (refine sk_ ?_; first | (show aWp _ _ _ _ _) | skip) | (refine ex_ ?_; first | (show aWp _ _ _ _ _) | skip) | refine rt_ ?_)
      refine ⟨4 - (i + 1), by omega, ⟨i + 1, by omega, by omega, rfl, by (have FX := Fx0; exact cl_), htk2⟩, ?_, ?_, by first | omega | (simp only; omega), rfl⟩
      · repeat (refine KAgree.upd rfl ?_)
        first | exact KAgree.refl _ _ | exact hag
      · exact (by have FX := Fx.mk (@hh); exact ha_)
    · have dc : decide (c = g) = false := decide_eq_false hcg
      have hno : ¬ b.take 4 <+: magJ := by
        rintro ⟨t, ht⟩
        have h1 : (b.take 4 ++ t)[i]? = magJ[i]? := by rw [ht]
        rw [List.getElem?_append_left (by simp; omega), List.getElem?_take, if_pos (by omega), hc, hg] at h1
        exact hcg (by simpa using h1)
      have hd : decR b = .error 21 := by unfold decR; rw [if_pos hno]
      rw [decV_err hd]
      have FX := Fx.mk (And.intro @hag <| And.intro @h5 <| And.intro @hcn <| And.intro @e4 <| And.intro @aIndex_s <| And.intro @hg <| And.intro @dc <| @Bool.not_false)
      refine W_draw mixed rfl rfl ?_
      repeat (first | refine dq_ ?_ | refine dr_ [nx] ?_ | refine dk_ ?_ | refine dn_ ?_)
      refine fun kd hkd => ?_
      simp only [List.length_cons, List.length_nil] at hkd
      first | (show aWp _ _ _ _ _) | skip
      have FX := Fx.mk (And.intro @hag <| @b0)
      repeat (first | refine v_ ?_ | refine u_ ?_ | refine nl_ ?_ | (refine nz_ ?_; first | (show aWp _ _ _ _ _) | skip) | refine sq_ ?_ | refine rg_ ?_ | refine k_ ?_ | refine ct_ ?_ | refine cf_ ?_ | refine bk_ ?_ | refine sc_ ?_ | (refine sk_ ?_; first | (show aWp _ _ _ _ _) | skip) | (refine ex_ ?_; first | (show aWp _ _ _ _ _) | skip) | refine rt_ ?_)
      (have FX := Fx.mk (And.intro @hag <| And.intro @b0 <| @hh); exact end_ Try.results14)
  have c1 : b.take 4 <+: magJ := by
    by_cases h4 : i = 4
    · rw [h4] at htk; rw [htk]; exact List.take_prefix _ _
    · have : b.take 4 = b.take i := by rw [List.take_of_length_le (by omega), List.take_of_length_le (by omega)]
      rw [this, htk]; exact List.take_prefix _ _
  have hcond : (decide ((i : Int) < 4) = false) ∨ (decide ((i : Int) < 4) = true ∧ decide ((i : Int) < (b.length : Int)) = false) := by
    by_cases h4 : i < 4
    · exact .inr ⟨decide_eq_true (by omega), decide_eq_false (by omega)⟩
    · exact .inl (decide_eq_false (by omega))
  have q0 : decide ((0 : Int) = 0) = true := rfl
  rcases hcond with x1 | ⟨x1, x2⟩
  rotate_left
  · have hd : decR b = .error 8 := by
      have : b.length ≤ i := by simpa using x2
      unfold decR; rw [if_neg (by simpa using c1), if_pos (by omega)]
    have e2 : decide ((b.length : Int) < 22) = true := by
      have : b.length ≤ i := by simpa using x2
      exact decide_eq_true (by omega)
    rw [decV_err hd]
    have FX := Fx.mk (And.intro @hag <| And.intro @h5 <| And.intro @x1 <| And.intro @x2 <| And.intro @e2 <| @b0)
    repeat (first | refine v_ ?_ | refine u_ ?_ | refine nl_ ?_ | (refine nz_ ?_; first | (show aWp _ _ _ _ _) | skip) | refine sq_ ?_ | refine rg_ ?_ | refine k_ ?_ | refine ct_ ?_ | refine cf_ ?_ | refine bk_ ?_ | refine sc_ ?_ | (refine sk_ ?_; first | (show aWp _ _ _ _ _) | skip) | (refine ex_ ?_; first | (show aWp _ _ _ _ _) | skip) | refine rt_ ?_)
    (have FX := Fx.mk (And.intro @hag <| And.intro @b0 <| @hh); exact end_ Try.results14)
  by_cases c2 : b.length < 22
  · have hd : decR b = .error 8 := by unfold decR; rw [if_neg (by simpa using c1), if_pos c2]
    have e2 : decide ((b.length : Int) < 22) = true := decide_eq_true (by omega)
    rw [decV_err hd]
    have FX := Fx.mk (And.intro @hag <| And.intro @h5 <| And.intro @x1 <| And.intro @e2 <| @b0)
    repeat (first | refine v_ ?_ | refine u_ ?_ | refine nl_ ?_ | (refine nz_ ?_; first | (show aWp _ _ _ _ _) | skip) | refine sq_ ?_ | refine rg_ ?_ | refine k_ ?_ | refine ct_ ?_ | refine cf_ ?_ | refine bk_ ?_ | refine sc_ ?_ | (refine sk_ ?_; first | (show aWp _ _ _ _ _) | skip) | (refine ex_ ?_; first | (show aWp _ _ _ _ _) | skip) | refine rt_ ?_)
    (have FX := Fx.mk (And.intro @hag <| And.intro @b0 <| @hh); exact end_ Try.results14)
  have e2 : decide ((b.length : Int) < 22) = false := decide_eq_false (by omega)
  have q20 := numJ_lt b 20 2
  have qq := numJ_nonneg b 20 2
  obtain ⟨np, hnp⟩ : ∃ np : Nat, numJ b 20 2 = (np : Int) := ⟨(numJ b 20 2).toNat, by omega⟩
  have v20 : min (numJ b 20 2) 4611686018427387904 = (np : Int) := by rw [hnp] at q20 ⊢; exact Int.min_eq_left (by have : (256 : Int) ^ 2 = 65536 := rfl; omega)
  have gt := ref15_get b 20 2 20 2 rfl rfl (by decide) (by omega) v20
  by_cases c3 : 256 < np
  · have hd : decR b = .error 21 := by unfold decR; rw [if_neg (by simpa using c1), if_neg c2, hnp, if_pos (by omega)]
    have e3 : decide ((256 : Int) < (np : Int)) = true := decide_eq_true (by omega)
    rw [decV_err hd]
    have FX := Fx.mk (And.intro @hag <| And.intro @h5 <| And.intro @x1 <| And.intro @e2 <| And.intro @e3 <| @b0)
    repeat (first | refine v_ ?_ | refine u_ ?_ | refine f_ (gt) fun kf hkf => ?_ | refine nl_ ?_ | (refine nz_ ?_; first | (show aWp _ _ _ _ _) | skip) | refine sq_ ?_ | refine rg_ ?_ | refine k_ ?_ | refine ct_ ?_ | refine cf_ ?_ | refine bk_ ?_ | refine sc_ ?_ | (refine sk_ ?_; first | (show aWp _ _ _ _ _) | skip) | (refine ex_ ?_; first | (show aWp _ _ _ _ _) | skip) | refine rt_ ?_)
    (have FX := Fx.mk (And.intro @hag <| And.intro @b0 <| @hh); exact end_ Try.results14)
  have e3 : decide ((256 : Int) < (np : Int)) = false := decide_eq_false (by omega)
  have pg := ref15_pages b np (by omega) (by omega)
  cases hrun : runP b np with
  | error e =>
    have hd : decR b = .error e := by unfold decR; rw [if_neg (by simpa using c1), if_neg c2, hnp, if_neg (by omega), Int.toNat_natCast, hrun]
    have hv : pagesV b np = .tup [.sl [], .int .i64 0, .int .i64 e] := by unfold pagesV; rw [hrun]
    rw [hv] at pg
    have ee : decide (e = 0) = false := decide_eq_false (by rcases decR_errs hd with rfl | rfl <;> decide)
    rw [decV_err hd]
    have FX := Fx.mk (And.intro @hag <| And.intro @h5 <| And.intro @x1 <| And.intro @e2 <| And.intro @e3 <| And.intro @b0 <| And.intro @ee <| @Bool.not_false)
    repeat (first | refine v_ ?_ | refine u_ ?_ | refine f_ (gt) fun kf hkf => ?_ | refine f_ (pg) fun kf hkf => ?_ | refine nl_ ?_ | (refine nz_ ?_; first | (show aWp _ _ _ _ _) | skip) | refine sq_ ?_ | refine rg_ ?_ | refine k_ ?_ | refine ct_ ?_ | refine cf_ ?_ | refine bk_ ?_ | refine sc_ ?_ | (refine sk_ ?_; first | (show aWp _ _ _ _ _) | skip) | (refine ex_ ?_; first | (show aWp _ _ _ _ _) | skip) | refine rt_ ?_)
    (have FX := Fx.mk (And.intro @hag <| And.intro @b0 <| @hh); exact end_ Try.results14)
  | ok pr =>
  obtain ⟨l, a⟩ := pr
  have rl4 := runP_le hrun
  have hv : pagesV b np = .tup [.sl (pagesB l), .int .i64 (a : Int), .int .i64 0] := by unfold pagesV; rw [hrun]
  rw [hv] at pg
  obtain ⟨Qs, hQ⟩ : ∃ x, min (numJ b 4 8) 4611686018427387904 = x := ⟨_, rfl⟩
  have v12 : min (numJ b 12 4) 4611686018427387904 = numJ b 12 4 := Int.min_eq_left (by have := numJ_lt b 12 4; have : (256 : Int) ^ 4 = 4294967296 := rfl; omega)
  have v16 : min (numJ b 16 4) 4611686018427387904 = numJ b 16 4 := Int.min_eq_left (by have := numJ_lt b 16 4; have : (256 : Int) ^ 4 = 4294967296 := rfl; omega)
  have hrec : recD b l = ⟨Qs, numJ b 12 4, numJ b 16 4, l⟩ := by unfold recD; rw [hQ]
  have g8 := ref15_get b 4 8 4 8 rfl rfl (by decide) (by omega) hQ
  have g12 := ref15_get b 12 4 12 4 rfl rfl (by decide) (by omega) v12
  have g16 := ref15_get b 16 4 16 4 rfl rfl (by decide) (by omega) v16
  generalize numJ b 12 4 = As at g12 hrec
  generalize numJ b 16 4 = Bs at g16 hrec
  have w0 : IntKind.i64.wrap ((a : Int) + 4) = ((a + 4 : Nat) : Int) := by rw [wrapI] <;> omega
  have w1 : IntKind.i64.wrap (((a + 4 : Nat) : Int) + 64) = ((a + 4 : Nat) : Int) + 64 := by rw [wrapI] <;> omega
  have w2 : IntKind.i64.wrap (((a + 4 : Nat) : Int) + 64 - 1) = ((a + 4 + 63 : Nat) : Int) := by rw [wrapI] <;> omega
  have w3 : ((a + 4 + 63 : Nat) : Int).tdiv 64 = (((a + 4 + 63) / 64 : Nat) : Int) := by
    rw [Int.tdiv_eq_ediv_of_nonneg (by omega)]
    omega
  have w4 : IntKind.i64.wrap (((a + 4 + 63) / 64 : Nat) : Int) = (((a + 4 + 63) / 64 : Nat) : Int) := by rw [wrapI] <;> omega
  have w5 : IntKind.i64.wrap ((((a + 4 + 63) / 64 : Nat) : Int) * 64) = ((padN (a + 4) : Nat) : Int) := by unfold padN; rw [wrapI] <;> omega
  have hdR : decR b = if b.length < padN (a + 4) then .error 8 else if (⟨Qs, As, Bs, l⟩ : Rec).ok ∧ (⟨Qs, As, Bs, l⟩ : Rec).enc = b.take (padN (a + 4)) then .ok (⟨Qs, As, Bs, l⟩, padN (a + 4)) else .error 21 := by
    unfold decR
    rw [if_neg (by simpa using c1), if_neg c2, hnp, if_neg (by omega), Int.toNat_natCast, hrun]
    simp only
    rw [hrec]
  generalize padN (a + 4) = N at w5 hdR
  by_cases c5 : b.length < N
  · have hd : decR b = .error 8 := by rw [hdR, if_pos c5]
    have e5 : decide ((b.length : Int) < (N : Int)) = true := decide_eq_true (by omega)
    rw [decV_err hd]
    have FX := Fx.mk (And.intro @hag <| And.intro @h5 <| And.intro @x1 <| And.intro @e2 <| And.intro @e3 <| And.intro @b0 <| And.intro @q0 <| And.intro @w0 <| And.intro @w1 <| And.intro @w2 <| And.intro @w3 <| And.intro @w4 <| And.intro @w5 <| And.intro @e5 <| @Bool.not_true)
    repeat (first | refine v_ ?_ | refine u_ ?_ | refine f_ (gt) fun kf hkf => ?_ | refine f_ (pg) fun kf hkf => ?_ | refine nl_ ?_ | (refine nz_ ?_; first | (show aWp _ _ _ _ _) | skip) | refine sq_ ?_ | refine rg_ ?_ | refine k_ ?_ | refine ct_ ?_ | refine cf_ ?_ | refine bk_ ?_ | refine sc_ ?_ | (refine sk_ ?_; first | (show aWp _ _ _ _ _) | skip) | (refine ex_ ?_; first | (show aWp _ _ _ _ _) | skip) | refine rt_ ?_)
    (have FX := Fx.mk (And.intro @hag <| And.intro @b0 <| @hh); exact end_ Try.results14)
  have e5 : decide ((b.length : Int) < (N : Int)) = false := decide_eq_false (by omega)
  have l5 : (N : Int) ≤ (b.length : Int) := by omega
  by_cases c6 : (⟨Qs, As, Bs, l⟩ : Rec).ok
  rotate_left
  · have hd : decR b = .error 21 := by rw [hdR, if_neg c5, if_neg (fun q => c6 q.1)]
    have en : aFun Try.prog 12 [.agg [.int .i64 Qs, .int .i64 As, .int .i64 Bs, .sl (pagesB l)]] (.tup [.sl [], .int .i64 9]) := ref15_Encode_bad _ c6
    have d9 : decide ((9 : Int) = 0) = false := rfl
    rw [decV_err hd]
    have FX := Fx.mk (And.intro @hag <| And.intro @h5 <| And.intro @x1 <| And.intro @e2 <| And.intro @e3 <| And.intro @b0 <| And.intro @q0 <| And.intro @w0 <| And.intro @w1 <| And.intro @w2 <| And.intro @w3 <| And.intro @w4 <| And.intro @w5 <| And.intro @e5 <| @Bool.not_true)
    repeat (first | refine v_ ?_ | refine u_ ?_ | refine f_ (gt) fun kf hkf => ?_ | refine f_ (pg) fun kf hkf => ?_ | refine f_ (g8) fun kf hkf => ?_ | refine f_ (g12) fun kf hkf => ?_ | refine f_ (g16) fun kf hkf => ?_ | refine f_ (en) fun kf hkf => ?_ | refine nl_ ?_ | (refine nz_ ?_; first | (show aWp _ _ _ _ _) | skip) | refine sq_ ?_ | refine rg_ ?_ | refine k_ ?_ | refine ct_ ?_ | refine cf_ ?_ | refine bk_ ?_ | refine sc_ ?_ | (refine sk_ ?_; first | (show aWp _ _ _ _ _) | skip) | (refine ex_ ?_; first | (show aWp _ _ _ _ _) | skip) | refine rt_ ?_)
    have FX := Fx.mk (And.intro @hag <| And.intro @d9 <| @Bool.not_false)
    refine W_draw mixed rfl rfl ?_
    repeat (first | refine dq_ ?_ | refine dr_ [nx] ?_ | refine dk_ ?_ | refine dn_ ?_)
    refine fun kd hkd => ?_
    simp only [List.length_cons, List.length_nil] at hkd
    first | (show aWp _ _ _ _ _) | skip
    have FX := Fx.mk (And.intro @hag <| @b0)
    repeat (first | refine v_ ?_ | refine u_ ?_ | refine nl_ ?_ | (refine nz_ ?_; first | (show aWp _ _ _ _ _) | skip) | refine sq_ ?_ | refine rg_ ?_ | refine k_ ?_ | refine ct_ ?_ | refine cf_ ?_ | refine bk_ ?_ | refine sc_ ?_ | (refine sk_ ?_; first | (show aWp _ _ _ _ _) | skip) | (refine ex_ ?_; first | (show aWp _ _ _ _ _) | skip) | refine rt_ ?_)
    (have FX := Fx.mk (And.intro @hag <| And.intro @b0 <| @hh); exact end_ Try.results14)
  have en : aFun Try.prog 12 [.agg [.int .i64 Qs, .int .i64 As, .int .i64 Bs, .sl (pagesB l)]] (.tup [.sl (numB .u8 (⟨Qs, As, Bs, l⟩ : Rec).enc), .int .i64 0]) := ref15_Encode _ c6
  by_cases c7 : (⟨Qs, As, Bs, l⟩ : Rec).enc = b.take N
  rotate_left
  · have hd : decR b = .error 21 := by rw [hdR, if_neg c5, if_neg (fun q => c7 q.2)]
    have e7 := decide_eq_false c7
    rw [decV_err hd]
    have FX := Fx.mk (And.intro @hag <| And.intro @h5 <| And.intro @x1 <| And.intro @e2 <| And.intro @e3 <| And.intro @b0 <| And.intro @q0 <| And.intro @w0 <| And.intro @w1 <| And.intro @w2 <| And.intro @w3 <| And.intro @w4 <| And.intro @w5 <| And.intro @e5 <| @Bool.not_true)
    repeat (first | refine v_ ?_ | refine u_ ?_ | refine f_ (gt) fun kf hkf => ?_ | refine f_ (pg) fun kf hkf => ?_ | refine f_ (g8) fun kf hkf => ?_ | refine f_ (g12) fun kf hkf => ?_ | refine f_ (g16) fun kf hkf => ?_ | refine f_ (en) fun kf hkf => ?_ | refine nl_ ?_ | (refine nz_ ?_; first | (show aWp _ _ _ _ _) | skip) | refine sq_ ?_ | refine rg_ ?_ | refine k_ ?_ | refine ct_ ?_ | refine cf_ ?_ | refine bk_ ?_ | refine sc_ ?_ | (refine sk_ ?_; first | (show aWp _ _ _ _ _) | skip) | (refine ex_ ?_; first | (show aWp _ _ _ _ _) | skip) | refine rt_ ?_)
    have FX := Fx.mk (And.intro @hag <| And.intro @q0 <| And.intro @l5 <| And.intro @e7 <| And.intro @Bool.not_true <| @Bool.not_false)
    refine W_draw mixed rfl rfl ?_
    repeat (first | refine dq_ ?_ | refine dr_ [nx] ?_ | refine dk_ ?_ | refine dn_ ?_)
    refine fun kd hkd => ?_
    simp only [List.length_cons, List.length_nil] at hkd
    first | (show aWp _ _ _ _ _) | skip
    have FX := Fx.mk (And.intro @hag <| @b0)
    repeat (first | refine v_ ?_ | refine u_ ?_ | refine nl_ ?_ | (refine nz_ ?_; first | (show aWp _ _ _ _ _) | skip) | refine sq_ ?_ | refine rg_ ?_ | refine k_ ?_ | refine ct_ ?_ | refine cf_ ?_ | refine bk_ ?_ | refine sc_ ?_ | (refine sk_ ?_; first | (show aWp _ _ _ _ _) | skip) | (refine ex_ ?_; first | (show aWp _ _ _ _ _) | skip) | refine rt_ ?_)
    (have FX := Fx.mk (And.intro @hag <| And.intro @b0 <| @hh); exact end_ Try.results14)
  have hd : decR b = .ok (⟨Qs, As, Bs, l⟩, N) := by rw [hdR, if_neg c5, if_pos ⟨c6, c7⟩]
  have e7 := decide_eq_true c7
  rw [decV_ok hd, Rec.av_eq]
  have FX := Fx.mk (And.intro @hag <| And.intro @h5 <| And.intro @x1 <| And.intro @e2 <| And.intro @e3 <| And.intro @b0 <| And.intro @q0 <| And.intro @w0 <| And.intro @w1 <| And.intro @w2 <| And.intro @w3 <| And.intro @w4 <| And.intro @w5 <| And.intro @e5 <| @Bool.not_true)
  repeat (first | refine v_ ?_ | refine u_ ?_ | refine f_ (gt) fun kf hkf => ?_ | refine f_ (pg) fun kf hkf => ?_ | refine f_ (g8) fun kf hkf => ?_ | refine f_ (g12) fun kf hkf => ?_ | refine f_ (g16) fun kf hkf => ?_ | refine f_ (en) fun kf hkf => ?_ | refine nl_ ?_ | (refine nz_ ?_; first | (show aWp _ _ _ _ _) | skip) | refine sq_ ?_ | refine rg_ ?_ | refine k_ ?_ | refine ct_ ?_ | refine cf_ ?_ | refine bk_ ?_ | refine sc_ ?_ | (refine sk_ ?_; first | (show aWp _ _ _ _ _) | skip) | (refine ex_ ?_; first | (show aWp _ _ _ _ _) | skip) | refine rt_ ?_)
  have FX := Fx.mk (And.intro @hag <| And.intro @q0 <| And.intro @l5 <| And.intro @e7 <| And.intro @Bool.not_true <| @Bool.not_false)
  refine W_draw mixed rfl rfl ?_
  repeat (first | refine dq_ ?_ | refine dr_ [nx] ?_ | refine dk_ ?_ | refine dn_ ?_)
  refine fun kd hkd => ?_
  simp only [List.length_cons, List.length_nil] at hkd
  first | (show aWp _ _ _ _ _) | skip
  have FX := Fx.mk (And.intro @hag <| @b0)
  repeat (first | refine v_ ?_ | refine u_ ?_ | refine nl_ ?_ | (refine nz_ ?_; first | (show aWp _ _ _ _ _) | skip) | refine sq_ ?_ | refine rg_ ?_ | refine k_ ?_ | refine ct_ ?_ | refine cf_ ?_ | refine bk_ ?_ | refine sc_ ?_ | (refine sk_ ?_; first | (show aWp _ _ _ _ _) | skip) | (refine ex_ ?_; first | (show aWp _ _ _ _ _) | skip) | refine rt_ ?_)
  (have FX := Fx.mk (And.intro @hag <| And.intro @b0 <| @hh); exact end_ Try.results14)
end Go.Proofs.Yteklnhogokjkkaa.AE
