/- Layer 7's laws: what they share. -/
import Derived.Test.YtcnofpoffdjbpaaN3
namespace Go.Proofs.Ytcnofpoffdjbpaa.AE
open Go Go.RowKit Go.Proofs Go.Proofs.Ytcnofpoffdjbpaa
set_option linter.unusedVariables false
set_option linter.unusedSimpArgs false
set_option maxRecDepth 100000
set_option maxHeartbeats 8000000
theorem law_num (e : Int) : aFun Try.prog 13 [.int .i64 e] (.int .i64 e) := by
  refine aFun_body Try.func13 rfl rfl (by simp [Try.ntmps13]) fun hreal h nx hfresh => ?_
  rw [Try.ntmps13]
  have FX := Fx0
  repeat (first | refine v_ ?_ | refine u_ ?_ | refine nl_ ?_ | (refine nz_ ?_; first | (show aWp _ _ _ _ _) | skip) | refine sq_ ?_ | refine rg_ ?_ | refine k_ ?_ | refine ct_ ?_ | refine cf_ ?_ | refine bk_ ?_ | refine sc_ ?_ | (refine sk_ ?_; first | (show aWp _ _ _ _ _) | skip) | (refine ex_ ?_; first | (show aWp _ _ _ _ _) | skip) | refine rt_ ?_)
  (have FX := Fx0; exact end_ Try.results13)
theorem itemB_sz (l : List (Int × Int)) : (itemB l).all (fun e => e.length == 2) = true := by simp [itemB]
theorem law_Of (l : List (Int × Int)) (m : List Int) (hl : l.length * 16 ≤ 140737488351232) (hm : m.length * 8 ≤ 140737488351232) : aFun Try.prog 12 [nodeV l m] (nodeV l m) := by
  unfold nodeV
  refine aFun_body Try.func12 rfl rfl (by simp [Try.ntmps12]) fun hreal h nx hfresh => ?_
  rw [Try.ntmps12]
  have h1 := itemB_len l
  have h2 := numB_len .i64 m
  have FX := Fx0
  repeat (first | refine v_ ?_ | refine u_ ?_ | refine nl_ ?_ | (refine nz_ ?_; first | (show aWp _ _ _ _ _) | skip) | refine sq_ ?_ | refine rg_ ?_ | refine k_ ?_ | refine ct_ ?_ | refine cf_ ?_ | refine bk_ ?_ | refine sc_ ?_ | (refine sk_ ?_; first | (show aWp _ _ _ _ _) | skip) | (refine ex_ ?_; first | (show aWp _ _ _ _ _) | skip) | refine rt_ ?_)
  have FX := Fx.mk (And.intro @h1 <| And.intro @h2 <| @itemB_sz)
  refine W_draw mixed rfl rfl ?_
  repeat (first | refine dq_ ?_ | refine dr_ [nx, nx + 1] ?_ | refine dm_ [nx, nx + 1] ?_ | refine da_ [nx, nx + 1] ?_ | refine ds_ [nx, nx + 1] ?_ | refine dw_ [nx, nx + 1] ?_ | refine dk_ ?_ | refine dn_ ?_)
  refine fun kd hkd => ?_
  simp only [List.length_cons, List.length_nil] at hkd
  first | (show aWp _ _ _ _ _) | skip
  have FX := Fx.mk (And.intro @h1 <| @h2)
  repeat (first | refine v_ ?_ | refine u_ ?_ | refine nl_ ?_ | (refine nz_ ?_; first | (show aWp _ _ _ _ _) | skip) | refine sq_ ?_ | refine rg_ ?_ | refine k_ ?_ | refine ct_ ?_ | refine cf_ ?_ | refine bk_ ?_ | refine sc_ ?_ | (refine sk_ ?_; first | (show aWp _ _ _ _ _) | skip) | (refine ex_ ?_; first | (show aWp _ _ _ _ _) | skip) | refine rt_ ?_)
  (have FX := Fx.mk (And.intro @h1 <| And.intro @h2 <| And.intro (take_len _ _ h1) <| (take_len _ _ h2)); exact end_ Try.results12)
theorem law_Alike (l : List (Int × Int)) (k : List Int) (l' : List (Int × Int)) (k' : List Int) : aFun Try.prog 15 [nodeV l k, nodeV l' k'] (.int .i64 (if l = l' ∧ k = k' then 0 else 1)) := by
  have s1 := SameItems l l'
  have s2 := SameInts k k'
  unfold nodeV
  by_cases q1 : l = l'
  · by_cases q2 : k = k'
    · have d1 : decide (l = l') = true := decide_eq_true q1
      have d2 : decide (k = k') = true := decide_eq_true q2
      rw [if_pos ⟨q1, q2⟩]
      rw [d1] at s1
      rw [d2] at s2
      refine aFun_body Try.func15 rfl rfl (by simp [Try.ntmps15]) fun hreal h nx hfresh => ?_
      rw [Try.ntmps15]
      have FX := Fx0
      repeat (first | refine v_ ?_ | refine u_ ?_ | refine f_ (s1) fun kf hkf => ?_ | refine f_ (s2) fun kf hkf => ?_ | refine nl_ ?_ | (refine nz_ ?_; first | (show aWp _ _ _ _ _) | skip) | refine sq_ ?_ | refine rg_ ?_ | refine k_ ?_ | refine ct_ ?_ | refine cf_ ?_ | refine bk_ ?_ | refine sc_ ?_ | (refine sk_ ?_; first | (show aWp _ _ _ _ _) | skip) | (refine ex_ ?_; first | (show aWp _ _ _ _ _) | skip) | refine rt_ ?_)
      (have FX := Fx0; exact end_ Try.results15)
    · have d1 : decide (l = l') = true := decide_eq_true q1
      have d2 : decide (k = k') = false := decide_eq_false q2
      rw [if_neg (fun h => q2 h.2)]
      rw [d1] at s1
      rw [d2] at s2
      refine aFun_body Try.func15 rfl rfl (by simp [Try.ntmps15]) fun hreal h nx hfresh => ?_
      rw [Try.ntmps15]
      have FX := Fx0
      repeat (first | refine v_ ?_ | refine u_ ?_ | refine f_ (s1) fun kf hkf => ?_ | refine f_ (s2) fun kf hkf => ?_ | refine nl_ ?_ | (refine nz_ ?_; first | (show aWp _ _ _ _ _) | skip) | refine sq_ ?_ | refine rg_ ?_ | refine k_ ?_ | refine ct_ ?_ | refine cf_ ?_ | refine bk_ ?_ | refine sc_ ?_ | (refine sk_ ?_; first | (show aWp _ _ _ _ _) | skip) | (refine ex_ ?_; first | (show aWp _ _ _ _ _) | skip) | refine rt_ ?_)
      (have FX := Fx0; exact end_ Try.results15)
  · have d1 : decide (l = l') = false := decide_eq_false q1
    rw [if_neg (fun h => q1 h.1)]
    rw [d1] at s1
    refine aFun_body Try.func15 rfl rfl (by simp [Try.ntmps15]) fun hreal h nx hfresh => ?_
    rw [Try.ntmps15]
    have FX := Fx0
    repeat (first | refine v_ ?_ | refine u_ ?_ | refine f_ (s1) fun kf hkf => ?_ | refine nl_ ?_ | (refine nz_ ?_; first | (show aWp _ _ _ _ _) | skip) | refine sq_ ?_ | refine rg_ ?_ | refine k_ ?_ | refine ct_ ?_ | refine cf_ ?_ | refine bk_ ?_ | refine sc_ ?_ | (refine sk_ ?_; first | (show aWp _ _ _ _ _) | skip) | (refine ex_ ?_; first | (show aWp _ _ _ _ _) | skip) | refine rt_ ?_)
    (have FX := Fx0; exact end_ Try.results15)
theorem aOwnM.fn_tup {P : Program} {f : FuncId} {args : List AV} {sz : Nat} {es : List (List AV)} {e : Int} (hf : aOwnM P f args (fun v => .tup [v, .int .i64 e]) sz es) : aFun P f args (.tup [.sl es, .int .i64 e]) := fun h nx => aCalls_real fun hreal hfresh => by
  intro B w0 O σ w vs hs hx hk hv
  refine (hf h nx B w0 O σ w vs hs hx hk hv).mono ?_
  rintro e w' ⟨ae, h', nx', σ', g1, g2, g3, g4, m, rfl, rfl, q1, q2⟩
  cases g1 with
  | ret _ u hu =>
  obtain ⟨d1, d2⟩ := g2.drop (fun i => decide (i = m))
  obtain ⟨us, rfl, hus⟩ := VR.tup_iff.1 hu
  obtain ⟨u0, u1, rfl, hu0, hu1⟩ := hus.two
  have hfz := VR.freeze g2 (fun i => decide (i = m)) (k := ⟨sz, es⟩) (upd_same _ _ _) (by simp) (by simp) hu0
  have he : (fun i => if decide (i = m) = true then none else upd h m (some ⟨sz, es⟩) i) = h := by
    funext i
    by_cases e : i = m
    · subst e; simp [hfresh i q1]
    · simp [e, upd_ne]
  have hu1' := d2 _ _ hu1
  rw [he] at d1 d2 hfz hu1'
  simp only [List.drop_zero, List.take_length] at hfz
  exact ⟨.ret _, h, nx', σ', .ret _ _ (VR.tup_iff.2 ⟨[u0, u1], rfl, .cons hfz (.cons hu1' .nil)⟩), d1, g3, g4.trans d2 (Nat.le_refl _) (fun _ _ => rfl), rfl, rfl, by omega⟩
theorem encS_len {l : List (Int × Int)} {kids : List Int} (h : (encF l kids).length ≤ 60) : (encS l kids).length = 64 := by
  unfold encS padL
  rw [Pl.seal_len]
  simp
  omega
theorem alive_F : encF [(2, 3)] [] = [1, 1, 0, 0, 2, 0, 0, 0, 0, 0, 0, 0, 3, 0, 0, 0, 0, 0, 0, 0] := by decide
theorem alive_ok : okN [(2, 3)] [] := by decide
theorem law_alive : aFun Try.prog 10 [] (.bool true) := by
  have he := (leaf_Encode [(2, 3)] [] alive_ok).fn_tup
  have hlen : (encS [(2, 3)] []).length = 64 := encS_len (by rw [alive_F]; decide)
  obtain ⟨t, ht⟩ : ∃ t, encS [(2, 3)] [] = [1, 1, 0, 0, 2, 0, 0, 0, 0, 0, 0, 0, 3] ++ t := ⟨(encS [(2, 3)] []).drop 13, by
    unfold encS padL Pl.sealS
    rw [alive_F]
    rfl⟩
  rw [ht] at he hlen
  have hit : itemB [(2, 3)] = [[.int .u64 2, .int .u64 3]] := rfl
  have hlen2 : t.length = 51 := by simpa using hlen
  have hs : octs ⟨#[1, 1, 0, 0]⟩ = [1, 1, 0, 0] := by decide
  have hnum := law_num 0
  have d1 : decide ((0 : Int) = 0) = true := rfl
  have d2 : decide (((t.length + 1 + 1 + 1 + 1 + 1 + 1 + 1 + 1 + 1 + 1 + 1 + 1 + 1 : Nat) : Int) = 64) = true := decide_eq_true (by omega)
  unfold nodeV at he
  rw [hit] at he
  refine aFun_body Try.func10 rfl rfl (by simp [Try.ntmps10]) fun hreal h nx hfresh => ?_
  rw [Try.ntmps10]
  have FX := Fx0
  repeat (first | refine v_ ?_ | refine u_ ?_ | refine nl_ ?_ | (refine nz_ ?_; first | (show aWp _ _ _ _ _) | skip) | refine sq_ ?_ | refine rg_ ?_ | refine k_ ?_ | refine ct_ ?_ | refine cf_ ?_ | refine bk_ ?_ | refine sc_ ?_ | (refine sk_ ?_; first | (show aWp _ _ _ _ _) | skip) | (refine ex_ ?_; first | (show aWp _ _ _ _ _) | skip) | refine rt_ ?_)
  have FX := Fx0; refine fi_ 6 (nx) ?_
  have FX := Fx.mk (And.intro @FN <| And.intro @d1 <| And.intro @d2 <| And.intro @hs <| @decide_true)
  repeat (first | refine v_ ?_ | refine u_ ?_ | refine f_ (he) fun kf hkf => ?_ | refine f_ (hnum) fun kf hkf => ?_ | refine nl_ ?_ | (refine nz_ ?_; first | (show aWp _ _ _ _ _) | skip) | refine sq_ ?_ | refine rg_ ?_ | refine k_ ?_ | refine ct_ ?_ | refine cf_ ?_ | refine bk_ ?_ | refine sc_ ?_ | (refine sk_ ?_; first | (show aWp _ _ _ _ _) | skip) | (refine ex_ ?_; first | (show aWp _ _ _ _ _) | skip) | refine rt_ ?_)
  -- DBG
  (have FX := Fx0; exact end_ Try.results10)
#print axioms law_alive
end Go.Proofs.Ytcnofpoffdjbpaa.AE
