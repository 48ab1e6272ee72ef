/- bits.Mul of small numbers, slices.Repeat, Concat of ints, octets.Pack. -/
import Derived.Test.YtcnofpoffdjbpaaG1
import Derived.Test.YtcnofpoffdjbpaaG6
namespace Go.Proofs.Ytcnofpoffdjbpaa.AE
open Go Go.RowKit Go.Proofs Go.Proofs.Ytcnofpoffdjbpaa
set_option linter.unusedVariables false
set_option linter.unusedSimpArgs false
set_option maxRecDepth 100000
set_option maxHeartbeats 8000000
theorem Mul64_1 (n : Nat) (hn : n ≤ 4) : aFun Try.prog 56 [.int .u64 1, .int .u64 (n : Int)] (.tup [.int .u64 0, .int .u64 (n : Int)]) := by
  have key : n = 0 ∨ n = 1 ∨ n = 2 ∨ n = 3 ∨ n = 4 := by omega
  rcases key with rfl | rfl | rfl | rfl | rfl
  all_goals
    refine aFun_body Try.func56 rfl rfl (by simp [Try.ntmps56]) fun hreal h nx hfresh => ?_
    rw [Try.ntmps56]
    have FX := Fx0
    repeat (first | refine v_ ?_ | refine u_ ?_ | refine nl_ ?_ | (refine nz_ ?_; first | (show aWp _ _ _ _ _) | skip) | refine sq_ ?_ | refine rg_ ?_ | refine k_ ?_ | refine ct_ ?_ | refine cf_ ?_ | refine bk_ ?_ | refine sc_ ?_ | (refine sk_ ?_; first | (show aWp _ _ _ _ _) | skip) | (refine ex_ ?_; first | (show aWp _ _ _ _ _) | skip) | refine rt_ ?_)
    (have FX := Fx0; exact end_ Try.results56)
theorem Mul_1 (n : Nat) (hn : n ≤ 4) : aFun Try.prog 51 [.int .u64 1, .int .u64 (n : Int)] (.tup [.int .u64 0, .int .u64 (n : Int)]) := by
  refine aFun_body Try.func51 rfl rfl (by simp [Try.ntmps51]) fun hreal h nx hfresh => ?_
  rw [Try.ntmps51]
  have FX := Fx0
  repeat (first | refine v_ ?_ | refine u_ ?_ | refine f_ (Mul64_1 n hn) fun kf hkf => ?_ | refine nl_ ?_ | (refine nz_ ?_; first | (show aWp _ _ _ _ _) | skip) | refine sq_ ?_ | refine rg_ ?_ | refine k_ ?_ | refine ct_ ?_ | refine cf_ ?_ | refine bk_ ?_ | refine sc_ ?_ | (refine sk_ ?_; first | (show aWp _ _ _ _ _) | skip) | (refine ex_ ?_; first | (show aWp _ _ _ _ _) | skip) | refine rt_ ?_)
  (have FX := Fx0; exact end_ Try.results51)
theorem rep_put (n j : Nat) (c : Int) (h1 : 1 ≤ j) (h2 : j < n) : rowI (List.replicate j c ++ List.replicate (n - j) 0) j ((List.replicate j c).take (n - j)) = List.replicate (j + min j (n - j)) c ++ List.replicate (n - (j + min j (n - j))) 0 := by
  unfold rowI
  rw [List.take_left' (by simp), List.take_replicate, List.length_replicate, ← List.drop_drop, List.drop_left' (by simp), List.drop_replicate, List.append_assoc, ← List.append_assoc, List.replicate_append_replicate, show min (n - j) j = min j (n - j) by omega, show n - j - min j (n - j) = n - (j + min j (n - j)) by omega]
theorem Repeat_int (n : Nat) (hn : 1 ≤ n ∧ n ≤ 4) (c : Int) : aOwn Try.prog 40 [.sl (numB .i64 [c]), .int .i64 (n : Int)] 1 (numB .i64 (List.replicate n c)) := by
  refine aOwn_body Try.func40 rfl rfl (by simp [Try.ntmps40]) fun hreal h nx hfresh => ?_
  rw [Try.ntmps40]
  have d1 : decide ((n : Int) < 0) = false := decide_eq_false (by omega)
  have w1 : IntKind.u64.wrap (n : Int) = (n : Int) := by rw [wrapU] <;> omega
  have w1' : IntKind.i64.wrap (n : Int) = (n : Int) := by rw [wrapI] <;> omega
  have w2 : IntKind.u64.wrap ((1 : Nat) : Int) = 1 := by decide
  have d2 : decide (9223372036854775807 < (n : Int)) = false := decide_eq_false (by omega)
  have d3 : decide ((0 : Int) < 0) = false := by decide
  have hr1 : rowI (List.replicate n 0) 0 [c] = List.replicate 1 c ++ List.replicate (n - 1) 0 := by
    simp [rowI]
  have hdr : (List.replicate n (0 : Int)).drop 1 = List.replicate (n - 1) 0 := by simp
  have ht1 : [c].take n = [c] := List.take_of_length_le (by simp; omega)
  have hm1 : min 1 n = 1 := by omega
  have FX := Fx.mk (And.intro @d1 <| And.intro @w1 <| And.intro @w1' <| And.intro @w2 <| And.intro @d2 <| @d3)
  repeat (first | refine v_ ?_ | refine u_ ?_ | refine f_ (Mul_1 n hn.2) fun kf hkf => ?_ | refine nl_ ?_ | (refine nz_ ?_; first | (show aWp _ _ _ _ _) | skip) | refine sq_ ?_ | refine rg_ ?_ | refine k_ ?_ | refine ct_ ?_ | refine cf_ ?_ | refine bk_ ?_ | refine sc_ ?_ | (refine sk_ ?_; first | (show aWp _ _ _ _ _) | skip) | (refine ex_ ?_; first | (show aWp _ _ _ _ _) | skip) | refine rt_ ?_)
  refine W_loopK [7] nx (fun r tm h q => ∃ j : Nat, kf < q ∧ (1 ≤ j ∧ j ≤ n) ∧ r = n - j ∧ tm 8 = .int .i64 (j : Int) ∧ h kf = some ⟨1, numB .i64 (List.replicate j c ++ List.replicate (n - j) 0)⟩) (n - 1) (by omega) ⟨1, by omega, by omega, rfl, by (have FX := Fx.mk (@hm1); exact cl_), by (have FX := Fx.mk (And.intro @hr1 <| And.intro @ht1 <| @hdr); exact cl_)⟩ ?_
  rintro r tm' h' k' ⟨j, hk2, hj, rfl, h8, hm⟩ hag hh hk'
  by_cases hlt : j < n
  · have hd : decide ((j : Int) < (n : Int)) = true := decide_eq_true (by omega)
    have hput := rep_put n j c hj.1 hlt
    have hw : IntKind.i64.wrap ((j : Int) + ((min j (n - j) : Nat) : Int)) = ((j + min j (n - j) : Nat) : Int) := by rw [wrapI] <;> omega
    have htk : (List.replicate j c ++ List.replicate (n - j) 0).take j = List.replicate j c := List.take_left' (by simp)
    have hle : (List.replicate j c ++ List.replicate (n - j) 0).length = n := by simp; omega
    have FX := Fx.mk (And.intro @hag <| And.intro @h8 <| And.intro @hm <| And.intro @hh <| @hd)
    repeat (first | refine v_ ?_ | refine u_ ?_ | refine nl_ ?_ | (refine nz_ ?_; first | (show aWp _ _ _ _ _) | skip) | refine sq_ ?_ | refine rg_ ?_ | refine k_ ?_ | refine ct_ ?_ | refine cf_ ?_ | refine bk_ ?_ | refine sc_ ?_ | (refine sk_ ?_; first | (show aWp _ _ _ _ _) | skip) | (refine ex_ ?_; first | (show aWp _ _ _ _ _) | skip) | refine rt_ ?_)
    have FX := Fx.mk (And.intro @hag <| And.intro @h8 <| And.intro @hm <| And.intro @hle <| And.intro @htk <| And.intro @hw <| @hput)
    refine W_draw mixed rfl rfl ?_
    repeat (first | refine dq_ ?_ | refine dr_ [kf] ?_ | refine dm_ [kf] ?_ | refine da_ [kf] ?_ | refine ds_ [kf] ?_ | refine dw_ [kf] ?_ | refine dk_ ?_ | refine dn_ ?_)
    refine fun kd hkd => ?_
    simp only [List.length_cons, List.length_nil] at hkd
    first | (show aWp _ _ _ _ _) | skip
    have FX := Fx0
    repeat (first | refine v_ ?_ | refine u_ ?_ | refine nl_ ?_ | (refine nz_ ?_; first | (show aWp _ _ _ _ _) | skip) | refine sq_ ?_ | refine rg_ ?_ | refine k_ ?_ | refine ct_ ?_ | refine cf_ ?_ | refine bk_ ?_ | refine sc_ ?_ | (refine sk_ ?_; first | (show aWp _ _ _ _ _) | skip) | (refine ex_ ?_; first | (show aWp _ _ _ _ _) | skip) | refine rt_ ?_)
    refine ⟨n - (j + min j (n - j)), by omega, ⟨j + min j (n - j), by simp only; omega, by omega, rfl, ?_, ?_⟩, ?_, ?_, by simp only; omega, rfl⟩
    · (have FX := Fx0; exact cl_)
    · (have FX := Fx.mk (And.intro @hput <| @htk); exact cl_)
    · repeat (refine KAgree.upd rfl ?_)
      first | exact KAgree.refl _ _ | exact hag
    · exact (by have FX := Fx.mk (@hh); exact ha_)
  · obtain rfl : j = n := by omega
    have hd : decide ((j : Int) < (j : Int)) = false := by simp
    rw [Nat.sub_self, List.replicate_zero, List.append_nil] at hm
    have FX := Fx.mk (And.intro @hag <| And.intro @h8 <| And.intro @hm <| And.intro @hh <| @hd)
    repeat (first | refine v_ ?_ | refine u_ ?_ | refine nl_ ?_ | (refine nz_ ?_; first | (show aWp _ _ _ _ _) | skip) | refine sq_ ?_ | refine rg_ ?_ | refine k_ ?_ | refine ct_ ?_ | refine cf_ ?_ | refine bk_ ?_ | refine sc_ ?_ | (refine sk_ ?_; first | (show aWp _ _ _ _ _) | skip) | (refine ex_ ?_; first | (show aWp _ _ _ _ _) | skip) | refine rt_ ?_)
    (have FX := Fx.mk (And.intro @hag <| And.intro @hm <| @hh); exact endo_ (rest := []) (kf) Try.results40)
theorem flat_nil_r (ws : List Int) : Pl.flat ws [] = [] := by cases ws <;> rfl
theorem flat_take (ws vs : List Int) (i : Nat) (w v : Int) (h1 : ws[i]? = some w) (h2 : vs[i]? = some v) : Pl.flat (ws.take (i + 1)) (vs.take (i + 1)) = Pl.flat (ws.take i) (vs.take i) ++ Pl.putI w.toNat v := by
  induction i generalizing ws vs with
  | zero =>
    cases ws with
    | nil => simp at h1
    | cons a ws => cases vs with
      | nil => simp at h2
      | cons b vs =>
        simp at h1 h2
        subst h1 h2
        simp [Pl.flat, flat_nil_r]
  | succ i ih =>
    cases ws with
    | nil => simp at h1
    | cons a ws => cases vs with
      | nil => simp at h2
      | cons b vs =>
        simp only [List.getElem?_cons_succ] at h1 h2
        simp only [List.take_succ_cons, Pl.flat]
        rw [ih ws vs h1 h2, List.append_assoc]
theorem fits_get {ws vs : List Int} (h : Pl.fits ws vs) {i : Nat} {w v : Int} (h1 : ws[i]? = some w) (h2 : vs[i]? = some v) : 1 ≤ w ∧ w ≤ 8 ∧ 0 ≤ v ∧ v < 256 ^ w.toNat := by
  induction i generalizing ws vs with
  | zero =>
    cases ws with
    | nil => simp at h1
    | cons a ws => cases vs with
      | nil => simp at h2
      | cons b vs =>
        simp at h1 h2
        subst h1 h2
        exact h.1
  | succ i ih =>
    cases ws with
    | nil => simp at h1
    | cons a ws => cases vs with
      | nil => simp at h2
      | cons b vs => exact ih h.2 (by simpa using h1) (by simpa using h2)
theorem octets_Pack (ws vs : List Int) (hf : Pl.fits ws vs) (h1 : 1 ≤ ws.length) (h64 : ws.length ≤ 64) : aOwnM Try.prog 25 [.sl (numB .i64 ws), .sl (numB .u64 vs)] (fun v => .tup [v, .int .i64 0]) 1 (numB .u8 (Pl.flat ws vs)) := by
  have hl := Pl.fits_len hf
  refine aOwnM_body Try.func25 rfl rfl (by simp [Try.ntmps25]) fun hreal h nx hfresh => ?_
  rw [Try.ntmps25]
  have d1 : decide ((ws.length : Int) = (vs.length : Int)) = true := decide_eq_true (by omega)
  have d2 : decide (64 < (ws.length : Int)) = false := decide_eq_false (by omega)
  have hfl : ∀ i, i ≤ ws.length → (Pl.flat (ws.take i) (vs.take i)).length ≤ 8 * i := by
    intro i
    induction i with
    | zero => intro _; simp [Pl.flat]
    | succ i ih =>
      intro hi
      have e1 := List.getElem?_eq_getElem (show i < ws.length by omega)
      have e2 := List.getElem?_eq_getElem (show i < vs.length by omega)
      rw [flat_take ws vs i _ _ e1 e2, List.length_append, Pl.putI_length]
      have := ih (by omega)
      have := fits_get hf e1 e2
      omega
  have FX := Fx.mk (And.intro @d1 <| @d2)
  repeat (first | refine v_ ?_ | refine u_ ?_ | refine nl_ ?_ | (refine nz_ ?_; first | (show aWp _ _ _ _ _) | skip) | refine sq_ ?_ | refine rg_ ?_ | refine k_ ?_ | refine ct_ ?_ | refine cf_ ?_ | refine bk_ ?_ | refine sc_ ?_ | (refine sk_ ?_; first | (show aWp _ _ _ _ _) | skip) | (refine ex_ ?_; first | (show aWp _ _ _ _ _) | skip) | refine rt_ ?_)
  refine W_loopK [0, 1, 21, 22] nx (fun r tm h q => ∃ i : Nat, i ≤ ws.length ∧ r = ws.length - i ∧ tm 23 = .int .i64 i ∧ ((tm 6 = .zs ∧ i = 0) ∨ ∃ m, tm 6 = .hs m 0 (Pl.flat (ws.take i) (vs.take i)).length ∧ nx ≤ m ∧ m < q ∧ h m = some ⟨1, numB .u8 (Pl.flat (ws.take i) (vs.take i))⟩)) ws.length (by omega) ⟨0, Nat.zero_le _, rfl, rfl, .inl ⟨rfl, rfl⟩⟩ ?_
  rintro r tm' h' k' ⟨i, hi, rfl, h23, h6⟩ hag hh hk'
  by_cases hlt : i < ws.length
  · have hd : decide ((i : Int) < (ws.length : Int)) = true := decide_eq_true (by omega)
    have hw : IntKind.i64.wrap (i + 1) = ((i + 1 : Nat) : Int) := by rw [wrapI] <;> omega
    obtain ⟨w, e1⟩ : ∃ w, ws[i]? = some w := ⟨ws[i], List.getElem?_eq_getElem hlt⟩
    obtain ⟨v, e2⟩ : ∃ v, vs[i]? = some v := ⟨vs[i]'(by omega), List.getElem?_eq_getElem _⟩
    obtain ⟨g1, g2, g3, g4⟩ := fits_get hf e1 e2
    have hput := octets_Put v w
    rw [Pl.putS_fits ⟨g1, g2⟩ g4] at hput
    have hpl := Pl.putI_length w.toNat v
    have hfi := hfl i (by omega)
    have hsn := flat_take ws vs i w v e1 e2
    rcases h6 with ⟨h6, rfl⟩ | ⟨m, h6, m1, m2, m3⟩
    · have hsn0 : Pl.flat (ws.take (0 + 1)) (vs.take (0 + 1)) = Pl.putI w.toNat v := by rw [hsn]; simp [Pl.flat]
      have FX := Fx.mk (And.intro @hag <| And.intro @h23 <| And.intro @h6 <| And.intro @hh <| And.intro @hd <| And.intro @hw <| And.intro @e1 <| And.intro @e2 <| @hpl)
      repeat (first | refine v_ ?_ | refine u_ ?_ | refine f_ (hput) fun kf hkf => ?_ | refine nl_ ?_ | (refine nz_ ?_; first | (show aWp _ _ _ _ _) | skip) | refine sq_ ?_ | refine rg_ ?_ | refine k_ ?_ | refine ct_ ?_ | refine cf_ ?_ | refine bk_ ?_ | refine sc_ ?_ | (refine sk_ ?_; first | (show aWp _ _ _ _ _) | skip) | (refine ex_ ?_; first | (show aWp _ _ _ _ _) | skip) | refine rt_ ?_)
      refine ⟨ws.length - (0 + 1), by omega, ⟨0 + 1, by omega, rfl, ?_, .inr ⟨kf, ?_, by omega, by simp only; omega, ?_⟩⟩, ?_, ?_, by simp only; omega, rfl⟩
      · (have FX := Fx0; exact cl_)
      · (have FX := Fx.mk (And.intro @hsn0 <| @hpl); exact cl_)
      · (have FX := Fx.mk (@hsn0); exact cl_)
      · repeat (refine KAgree.upd rfl ?_)
        first | exact KAgree.refl _ _ | exact hag
      · exact (by have FX := Fx.mk (@hh); exact ha_)
    · have FX := Fx.mk (And.intro @hag <| And.intro @h23 <| And.intro @h6 <| And.intro @m3 <| And.intro @hh <| And.intro @hd <| And.intro @hw <| And.intro @e1 <| And.intro @e2 <| @hpl)
      repeat (first | refine v_ ?_ | refine u_ ?_ | refine f_ (hput) fun kf hkf => ?_ | refine nl_ ?_ | (refine nz_ ?_; first | (show aWp _ _ _ _ _) | skip) | refine sq_ ?_ | refine rg_ ?_ | refine k_ ?_ | refine ct_ ?_ | refine cf_ ?_ | refine bk_ ?_ | refine sc_ ?_ | (refine sk_ ?_; first | (show aWp _ _ _ _ _) | skip) | (refine ex_ ?_; first | (show aWp _ _ _ _ _) | skip) | refine rt_ ?_)
      refine ⟨ws.length - (i + 1), by omega, ⟨i + 1, by omega, rfl, ?_, .inr ⟨kf, ?_, by omega, by simp only; omega, ?_⟩⟩, ?_, ?_, by simp only; omega, rfl⟩
      · (have FX := Fx0; exact cl_)
      · (have FX := Fx.mk (And.intro @hsn <| @hpl); exact cl_)
      · (have FX := Fx.mk (@hsn); exact cl_)
      · repeat (refine KAgree.upd rfl ?_)
        first | exact KAgree.refl _ _ | exact hag
      · exact (by have FX := Fx.mk (@hh); exact ha_)
  · obtain rfl : i = ws.length := by omega
    have hd : decide ((ws.length : Int) < (ws.length : Int)) = false := by simp
    rcases h6 with ⟨h6, h7⟩ | ⟨m, h6, m1, m2, m3⟩
    · omega
    · rw [List.take_length, hl, List.take_length] at h6 m3
      have FX := Fx.mk (And.intro @hag <| And.intro @h23 <| And.intro @h6 <| And.intro @m3 <| And.intro @hh <| @hd)
      repeat (first | refine v_ ?_ | refine u_ ?_ | refine nl_ ?_ | (refine nz_ ?_; first | (show aWp _ _ _ _ _) | skip) | refine sq_ ?_ | refine rg_ ?_ | refine k_ ?_ | refine ct_ ?_ | refine cf_ ?_ | refine bk_ ?_ | refine sc_ ?_ | (refine sk_ ?_; first | (show aWp _ _ _ _ _) | skip) | (refine ex_ ?_; first | (show aWp _ _ _ _ _) | skip) | refine rt_ ?_)
      (have FX := Fx.mk (And.intro @hag <| And.intro @h6 <| And.intro @m3 <| @hh); exact endm_ (m) Try.results25)
end Go.Proofs.Ytcnofpoffdjbpaa.AE
