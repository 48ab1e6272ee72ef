/- Layer 7's laws: LeafOwn. -/
import Derived.Test.YtcnofpoffdjbpaaN19
import Derived.Test.YtcnofpoffdjbpaaN16
namespace Go.Proofs.Ytcnofpoffdjbpaa.AE
open Go Go.RowKit Go.Proofs Go.Proofs.Ytcnofpoffdjbpaa
set_option linter.unusedVariables false
set_option linter.unusedSimpArgs false
set_option maxRecDepth 100000
set_option maxHeartbeats 8000000
theorem dec_free (b : List Int) (nx : Nat) : ∀ v h' k', decQ b nx v h' k' → freeV v = true ∧ ∀ n q, h' n = some q → ∀ e ∈ q.es, ∀ c ∈ e, free1 c = true := by
  rintro v h' k' (⟨_, rfl, rfl⟩ | ⟨_, nd, rfl, _, ⟨m, rfl, _, _, _, rfl⟩ | ⟨m1, m2, rfl, _, _, _, _, _, rfl⟩⟩)
  · exact ⟨rfl, fun n q hq => by cases hq⟩
  · refine ⟨rfl, fun n q hq => ?_⟩
    by_cases e : n = m
    · subst e; rw [upd_same] at hq; cases hq; exact free_item _
    · rw [upd_ne _ _ _ e] at hq; cases hq
  · refine ⟨rfl, fun n q hq => ?_⟩
    by_cases e : n = m2
    · subst e; rw [upd_same] at hq; cases hq; exact free_num _ _
    · rw [upd_ne _ _ _ e] at hq
      by_cases e : n = m1
      · subst e; rw [upd_same] at hq; cases hq; exact free_item _
      · rw [upd_ne _ _ _ e] at hq; cases hq
theorem aWp_nameH {P : Program} {nt : Nat} {c : Code} {Q : AX → St → Prop} {tm : Nat → AV} {h : AHeap} {k : Nat} {df : List ADef} (f : ∀ H, H = h → aWp P nt c Q ⟨tm, H, k, df⟩) : aWp P nt c Q ⟨tm, h, k, df⟩ := f h rfl
theorem law_Own (l : List (Int × Int)) (k : List Int) (b : List Int) (hs : l.length * 16 ≤ 140737488351232 ∧ k.length * 8 ≤ 140737488351232) (hb : b.length ≤ 140737488351232) : aFun Try.prog 7 [nodeV l k, .sl (numB .u8 b)] (.bool true) := by
  have o2 := law_Of2 l k hs.1 hs.2
  have cb := CopyBytes b (by omega)
  have al := law_alive
  have i1 := itemB_len l
  have i2 := numB_len .i64 k
  have i3 := numB_len .u8 b
  have tk1 := take_len _ _ i1
  have tk2 := take_len _ _ i2
  have tk3 := take_len _ _ i3
  have dr := ref_Decode b
  have d0 : decide ((0 : Int) = 0) = true := rfl
  unfold nodeV at o2 dr ⊢
  refine aFun_body Try.func7 rfl rfl (by simp [Try.ntmps7]) fun hreal h nx hfresh => ?_
  rw [Try.ntmps7]
  have FX := Fx0
  repeat (first | refine v_ ?_ | refine u_ ?_ | refine f_ (al) fun kf hkf => ?_ | refine o2_ (o2) fun ma mb kf hkf => ?_ | refine o_ (cb) fun mf kf hmf hkf => ?_ | refine nl_ ?_ | (refine nz_ ?_; first | (show aWp _ _ _ _ _) | skip) | refine sq_ ?_ | refine rg_ ?_ | refine k_ ?_ | refine ct_ ?_ | refine cf_ ?_ | refine bk_ ?_ | refine sc_ ?_ | (refine sk_ ?_; first | (show aWp _ _ _ _ _) | skip) | (refine ex_ ?_; first | (show aWp _ _ _ _ _) | skip) | refine rt_ ?_)
  obtain ⟨p, rfl⟩ : ∃ p, p = kf := ⟨kf, rfl⟩
  refine W_toldR rfl (by unfold calleeT; first | rfl | (simp (disch := first | rfl | decide | omega | assumption | (simp only [LL]; omega)) only [WS, NB, WY, told1, toldA, i1, i2, tk1, tk2]; first | done | rfl)) (by simp only [WS]) (enc_told l k _) (enc_free l k _) ?_
  rintro v h5 k5 hE hk5 hfr5
  rcases hE with ⟨hok, me, rfl, me1, me2, rfl⟩ | ⟨hok, rfl, rfl⟩
  · have er := ref_Encode l k hok
    unfold nodeV at er
    rw [mergeH_upd me1, mergeH_no hfr5]
    have sb := SameBytes (encS l k) (encS l k)
    rw [decide_eq_true rfl] at sb
    have ne := law_num 0
    have de : decide ((0 : Int) = 0) = true := rfl
    have i4 := numB_len .u8 (encS l k)
    have i5 := take_len _ _ i4
    have FX := Fx0
    repeat (first | refine v_ ?_ | refine u_ ?_ | refine f_ (er) fun kf hkf => ?_ | refine nl_ ?_ | (refine nz_ ?_; first | (show aWp _ _ _ _ _) | skip) | refine sq_ ?_ | refine rg_ ?_ | refine k_ ?_ | refine ct_ ?_ | refine cf_ ?_ | refine bk_ ?_ | refine sc_ ?_ | (refine sk_ ?_; first | (show aWp _ _ _ _ _) | skip) | (refine ex_ ?_; first | (show aWp _ _ _ _ _) | skip) | refine rt_ ?_)
    refine W_toldR rfl (by unfold calleeT; first | rfl | (simp (disch := first | rfl | decide | omega | assumption | (simp only [LL]; omega)) only [WS, NB, WY, told1, toldA, i3, tk3]; first | done | rfl)) (by simp only [WS]) (leaf_DecodeR b _) (dec_free b _) ?_
    rintro v h6 k6 hG hk6 hfr6
    rcases hG with ⟨g, rfl, rfl⟩ | ⟨g, nd, rfl, hk7, ⟨m1, rfl, hkd, q1, q2, rfl⟩ | ⟨m1, m2, rfl, q1, q2, q3, q4, q5, rfl⟩⟩
    · rw [mergeH_no hfr6]
      have hz := dec_bad g
      have am := law_Alike [] [] [] []
      rw [if_pos ⟨rfl, rfl⟩] at am
      have ng := law_num (decS b).2
      have dg : decide ((decS b).2 = (decS b).2) = true := decide_eq_true rfl
      rw [hz] at dr
      have FX := Fx0
      repeat (first | refine v_ ?_ | refine u_ ?_ | refine f_ (dr) fun kf hkf => ?_ | refine nl_ ?_ | (refine nz_ ?_; first | (show aWp _ _ _ _ _) | skip) | refine sq_ ?_ | refine rg_ ?_ | refine k_ ?_ | refine ct_ ?_ | refine cf_ ?_ | refine bk_ ?_ | refine sc_ ?_ | (refine sk_ ?_; first | (show aWp _ _ _ _ _) | skip) | (refine ex_ ?_; first | (show aWp _ _ _ _ _) | skip) | refine rt_ ?_)
      obtain ⟨p2, rfl⟩ : ∃ p2, p2 = kf := ⟨kf, rfl⟩
      refine W_R rfl (by (have FX := Fx.mk (@i3); exact cl_)) (by simp only [WS]) (Spoil b mf (by omega) (by (have FX := Fx0; exact cl_))) (by rintro a h' k' ⟨_, e, _⟩; cases e) ?_
      rintro av h9 k9 ⟨_, e, rfl, hk9, l', hl', rfl⟩
      cases e
      have FX := Fx0
      repeat (first | refine v_ ?_ | refine u_ ?_ | refine nl_ ?_ | (refine nz_ ?_; first | (show aWp _ _ _ _ _) | skip) | refine sq_ ?_ | refine rg_ ?_ | refine k_ ?_ | refine ct_ ?_ | refine cf_ ?_ | refine bk_ ?_ | refine sc_ ?_ | (refine sk_ ?_; first | (show aWp _ _ _ _ _) | skip) | (refine ex_ ?_; first | (show aWp _ _ _ _ _) | skip) | refine rt_ ?_)
      refine aWp_nameH fun H hH => ?_
      refine W_loopK [5, 7, 8, 9, 10, 11, 12, 13, 14] 0 (fun r tm h' q => k9 ≤ q ∧ ∃ (i : Nat) (l2 : List (Int × Int)), i ≤ l.length ∧ r = l.length - i ∧ tm 15 = .int .i64 i ∧ l2.length = l.length ∧ h' ma = some ⟨2, itemB l2⟩ ∧ ∀ q, q < k9 → q ≠ ma → h' q = H q) l.length (by omega) ⟨by first | omega | (simp only; omega), 0, l, Nat.zero_le _, rfl, rfl, rfl, by rw [hH]; (have FX := Fx0; exact cl_), fun q _ _ => rfl⟩ ?_
      rintro r tm' h' k' ⟨z0, i, l2, hi, rfl, h15, hl2, b1, b2⟩ hag hh hk'
      have hp : h' p = some ⟨2, [[.hs ma 0 l.length, .hs mb 0 k.length]]⟩ := by rw [b2 p (by omega) (by omega), hH]; (have FX := Fx.mk (@i1); exact cl_)
      by_cases hlt : i < l.length
      · have hd : decide ((i : Int) < (l.length : Int)) = true := decide_eq_true (by omega)
        have hw : IntKind.i64.wrap (i + 1) = ((i + 1 : Nat) : Int) := by rw [wrapI] <;> omega
        obtain ⟨c, hc⟩ : ∃ c, l2[i]? = some c := ⟨_, List.getElem?_eq_getElem (by omega)⟩
        have hcn := itemB_get l2 i c hc
        have hst : (itemB l2).set i [.int .u64 0, .int .u64 0] = itemB (l2.set i (0, 0)) := by simp [itemB, List.map_set]
        have il := itemB_len l2
        have FX := Fx.mk (And.intro @hag <| And.intro @h15 <| And.intro @hd <| And.intro @hw <| And.intro @b1 <| And.intro @hcn <| And.intro @hp <| And.intro @il <| And.intro @hl2 <| @hst)
        repeat (first | refine v_ ?_ | refine u_ ?_ | refine nl_ ?_ | (refine nz_ ?_; first | (show aWp _ _ _ _ _) | skip) | refine sq_ ?_ | refine rg_ ?_ | refine k_ ?_ | refine ct_ ?_ | refine cf_ ?_ | refine bk_ ?_ | refine sc_ ?_ | (refine sk_ ?_; first | (show aWp _ _ _ _ _) | skip) | (refine ex_ ?_; first | (show aWp _ _ _ _ _) | skip) | refine rt_ ?_)
        refine ⟨l.length - (i + 1), by omega, ⟨by first | omega | (simp only; omega), i + 1, l2.set i (0, 0), by omega, rfl, ?_, ?_, ?_, fun q q1 q2 => ?_⟩, ?_, ?_, by first | omega | (simp only; omega), rfl⟩
        · (have FX := Fx0; exact cl_)
        · rw [List.length_set]; exact hl2
        · (have FX := Fx.mk (@hst); exact cl_)
        · (have FX := Fx.mk ((b2 q q1 q2)); exact cl_)
        · repeat (refine KAgree.upd rfl ?_)
          first | exact KAgree.refl _ _ | exact hag
        · intro q hq; exact absurd hq (Nat.not_lt_zero _)
      obtain rfl : i = l.length := by omega
      have hd : decide ((l.length : Int) < (l.length : Int)) = false := by simp
      have FX := Fx.mk (And.intro @hag <| And.intro @h15 <| And.intro @hd <| @hp)
      repeat (first | refine v_ ?_ | refine u_ ?_ | refine nl_ ?_ | (refine nz_ ?_; first | (show aWp _ _ _ _ _) | skip) | refine sq_ ?_ | refine rg_ ?_ | refine k_ ?_ | refine ct_ ?_ | refine cf_ ?_ | refine bk_ ?_ | refine sc_ ?_ | (refine sk_ ?_; first | (show aWp _ _ _ _ _) | skip) | (refine ex_ ?_; first | (show aWp _ _ _ _ _) | skip) | refine rt_ ?_)
      have FX := Fx.mk (And.intro @hag <| And.intro @b2 <| And.intro @hH <| And.intro @i4 <| @i5); refine fz_ 56 ?_
      have FX := Fx.mk (And.intro @hag <| And.intro @b2 <| And.intro @hH <| And.intro @i4 <| @i5)
      repeat (first | refine v_ ?_ | refine u_ ?_ | refine f_ (sb) fun kf hkf => ?_ | refine f_ (ne) fun kf hkf => ?_ | refine nl_ ?_ | (refine nz_ ?_; first | (show aWp _ _ _ _ _) | skip) | refine sq_ ?_ | refine rg_ ?_ | refine k_ ?_ | refine ct_ ?_ | refine cf_ ?_ | refine bk_ ?_ | refine sc_ ?_ | (refine sk_ ?_; first | (show aWp _ _ _ _ _) | skip) | (refine ex_ ?_; first | (show aWp _ _ _ _ _) | skip) | refine rt_ ?_)
      skip
      have FX := Fx.mk (And.intro @FN <| And.intro @hag <| And.intro @b2 <| And.intro @hH <| And.intro @i4 <| And.intro @i5 <| And.intro @de <| And.intro @dg <| @d0)
      repeat (first | refine v_ ?_ | refine u_ ?_ | refine f_ (am) fun kf hkf => ?_ | refine f_ (ng) fun kf hkf => ?_ | refine nl_ ?_ | (refine nz_ ?_; first | (show aWp _ _ _ _ _) | skip) | refine sq_ ?_ | refine rg_ ?_ | refine k_ ?_ | refine ct_ ?_ | refine cf_ ?_ | refine bk_ ?_ | refine sc_ ?_ | (refine sk_ ?_; first | (show aWp _ _ _ _ _) | skip) | (refine ex_ ?_; first | (show aWp _ _ _ _ _) | skip) | refine rt_ ?_)
      (have FX := Fx.mk (And.intro @hag <| And.intro @b2 <| @hH); exact end_ Try.results7)
    · rw [mergeH_upd q1, mergeH_no hfr6]
      have am := law_Alike (decS b).1.1 [] (decS b).1.1 []
      rw [if_pos ⟨rfl, rfl⟩] at am
      have ng := law_num 0
      have dg : decide ((0 : Int) = 0) = true := rfl
      rw [hkd, g] at dr
      have j1 := itemB_len (decS b).1.1
      have j2 := take_len _ _ j1
      have FX := Fx0
      repeat (first | refine v_ ?_ | refine u_ ?_ | refine f_ (dr) fun kf hkf => ?_ | refine nl_ ?_ | (refine nz_ ?_; first | (show aWp _ _ _ _ _) | skip) | refine sq_ ?_ | refine rg_ ?_ | refine k_ ?_ | refine ct_ ?_ | refine cf_ ?_ | refine bk_ ?_ | refine sc_ ?_ | (refine sk_ ?_; first | (show aWp _ _ _ _ _) | skip) | (refine ex_ ?_; first | (show aWp _ _ _ _ _) | skip) | refine rt_ ?_)
      obtain ⟨p2, rfl⟩ : ∃ p2, p2 = kf := ⟨kf, rfl⟩
      refine W_R rfl (by (have FX := Fx.mk (@i3); exact cl_)) (by simp only [WS]) (Spoil b mf (by omega) (by (have FX := Fx0; exact cl_))) (by rintro a h' k' ⟨_, e, _⟩; cases e) ?_
      rintro av h9 k9 ⟨_, e, rfl, hk9, l', hl', rfl⟩
      cases e
      have FX := Fx0
      repeat (first | refine v_ ?_ | refine u_ ?_ | refine nl_ ?_ | (refine nz_ ?_; first | (show aWp _ _ _ _ _) | skip) | refine sq_ ?_ | refine rg_ ?_ | refine k_ ?_ | refine ct_ ?_ | refine cf_ ?_ | refine bk_ ?_ | refine sc_ ?_ | (refine sk_ ?_; first | (show aWp _ _ _ _ _) | skip) | (refine ex_ ?_; first | (show aWp _ _ _ _ _) | skip) | refine rt_ ?_)
      refine aWp_nameH fun H hH => ?_
      refine W_loopK [5, 7, 8, 9, 10, 11, 12, 13, 14] 0 (fun r tm h' q => k9 ≤ q ∧ ∃ (i : Nat) (l2 : List (Int × Int)), i ≤ l.length ∧ r = l.length - i ∧ tm 15 = .int .i64 i ∧ l2.length = l.length ∧ h' ma = some ⟨2, itemB l2⟩ ∧ ∀ q, q < k9 → q ≠ ma → h' q = H q) l.length (by omega) ⟨by first | omega | (simp only; omega), 0, l, Nat.zero_le _, rfl, rfl, rfl, by rw [hH]; (have FX := Fx0; exact cl_), fun q _ _ => rfl⟩ ?_
      rintro r tm' h' k' ⟨z0, i, l2, hi, rfl, h15, hl2, b1, b2⟩ hag hh hk'
      have hp : h' p = some ⟨2, [[.hs ma 0 l.length, .hs mb 0 k.length]]⟩ := by rw [b2 p (by omega) (by omega), hH]; (have FX := Fx.mk (@i1); exact cl_)
      by_cases hlt : i < l.length
      · have hd : decide ((i : Int) < (l.length : Int)) = true := decide_eq_true (by omega)
        have hw : IntKind.i64.wrap (i + 1) = ((i + 1 : Nat) : Int) := by rw [wrapI] <;> omega
        obtain ⟨c, hc⟩ : ∃ c, l2[i]? = some c := ⟨_, List.getElem?_eq_getElem (by omega)⟩
        have hcn := itemB_get l2 i c hc
        have hst : (itemB l2).set i [.int .u64 0, .int .u64 0] = itemB (l2.set i (0, 0)) := by simp [itemB, List.map_set]
        have il := itemB_len l2
        have FX := Fx.mk (And.intro @hag <| And.intro @h15 <| And.intro @hd <| And.intro @hw <| And.intro @b1 <| And.intro @hcn <| And.intro @hp <| And.intro @il <| And.intro @hl2 <| @hst)
        repeat (first | refine v_ ?_ | refine u_ ?_ | refine nl_ ?_ | (refine nz_ ?_; first | (show aWp _ _ _ _ _) | skip) | refine sq_ ?_ | refine rg_ ?_ | refine k_ ?_ | refine ct_ ?_ | refine cf_ ?_ | refine bk_ ?_ | refine sc_ ?_ | (refine sk_ ?_; first | (show aWp _ _ _ _ _) | skip) | (refine ex_ ?_; first | (show aWp _ _ _ _ _) | skip) | refine rt_ ?_)
        refine ⟨l.length - (i + 1), by omega, ⟨by first | omega | (simp only; omega), i + 1, l2.set i (0, 0), by omega, rfl, ?_, ?_, ?_, fun q q1 q2 => ?_⟩, ?_, ?_, by first | omega | (simp only; omega), rfl⟩
        · (have FX := Fx0; exact cl_)
        · rw [List.length_set]; exact hl2
        · (have FX := Fx.mk (@hst); exact cl_)
        · (have FX := Fx.mk ((b2 q q1 q2)); exact cl_)
        · repeat (refine KAgree.upd rfl ?_)
          first | exact KAgree.refl _ _ | exact hag
        · intro q hq; exact absurd hq (Nat.not_lt_zero _)
      obtain rfl : i = l.length := by omega
      have hd : decide ((l.length : Int) < (l.length : Int)) = false := by simp
      have FX := Fx.mk (And.intro @hag <| And.intro @h15 <| And.intro @hd <| @hp)
      repeat (first | refine v_ ?_ | refine u_ ?_ | refine nl_ ?_ | (refine nz_ ?_; first | (show aWp _ _ _ _ _) | skip) | refine sq_ ?_ | refine rg_ ?_ | refine k_ ?_ | refine ct_ ?_ | refine cf_ ?_ | refine bk_ ?_ | refine sc_ ?_ | (refine sk_ ?_; first | (show aWp _ _ _ _ _) | skip) | (refine ex_ ?_; first | (show aWp _ _ _ _ _) | skip) | refine rt_ ?_)
      have FX := Fx.mk (And.intro @hag <| And.intro @b2 <| And.intro @hH <| And.intro @i4 <| @i5); refine fz_ 56 ?_
      have FX := Fx.mk (And.intro @hag <| And.intro @b2 <| And.intro @hH <| And.intro @i4 <| And.intro @i5 <| And.intro @j1 <| @j2)
      repeat (first | refine v_ ?_ | refine u_ ?_ | refine f_ (sb) fun kf hkf => ?_ | refine f_ (ne) fun kf hkf => ?_ | refine nl_ ?_ | (refine nz_ ?_; first | (show aWp _ _ _ _ _) | skip) | refine sq_ ?_ | refine rg_ ?_ | refine k_ ?_ | refine ct_ ?_ | refine cf_ ?_ | refine bk_ ?_ | refine sc_ ?_ | (refine sk_ ?_; first | (show aWp _ _ _ _ _) | skip) | (refine ex_ ?_; first | (show aWp _ _ _ _ _) | skip) | refine rt_ ?_)
      have FX := Fx.mk (And.intro @hag <| And.intro @b2 <| And.intro @hH <| And.intro @j1 <| @j2); refine fi_ 66 (m1) ?_
      have FX := Fx.mk (And.intro @FN <| And.intro @hag <| And.intro @b2 <| And.intro @hH <| And.intro @i4 <| And.intro @i5 <| And.intro @j1 <| And.intro @j2 <| And.intro @de <| And.intro @dg <| @d0)
      repeat (first | refine v_ ?_ | refine u_ ?_ | refine f_ (am) fun kf hkf => ?_ | refine f_ (ng) fun kf hkf => ?_ | refine nl_ ?_ | (refine nz_ ?_; first | (show aWp _ _ _ _ _) | skip) | refine sq_ ?_ | refine rg_ ?_ | refine k_ ?_ | refine ct_ ?_ | refine cf_ ?_ | refine bk_ ?_ | refine sc_ ?_ | (refine sk_ ?_; first | (show aWp _ _ _ _ _) | skip) | (refine ex_ ?_; first | (show aWp _ _ _ _ _) | skip) | refine rt_ ?_)
      (have FX := Fx.mk (And.intro @hag <| And.intro @b2 <| @hH); exact end_ Try.results7)
    · rw [mergeH_upd q2, mergeH_upd q1, mergeH_no hfr6]
      have am := law_Alike (decS b).1.1 (decS b).1.2 (decS b).1.1 (decS b).1.2
      rw [if_pos ⟨rfl, rfl⟩] at am
      have ng := law_num 0
      have dg : decide ((0 : Int) = 0) = true := rfl
      rw [g] at dr
      have j1 := itemB_len (decS b).1.1
      have j2 := take_len _ _ j1
      have j3 := numB_len .i64 (decS b).1.2
      have j4 := take_len _ _ j3
      have FX := Fx0
      repeat (first | refine v_ ?_ | refine u_ ?_ | refine f_ (dr) fun kf hkf => ?_ | refine nl_ ?_ | (refine nz_ ?_; first | (show aWp _ _ _ _ _) | skip) | refine sq_ ?_ | refine rg_ ?_ | refine k_ ?_ | refine ct_ ?_ | refine cf_ ?_ | refine bk_ ?_ | refine sc_ ?_ | (refine sk_ ?_; first | (show aWp _ _ _ _ _) | skip) | (refine ex_ ?_; first | (show aWp _ _ _ _ _) | skip) | refine rt_ ?_)
      obtain ⟨p2, rfl⟩ : ∃ p2, p2 = kf := ⟨kf, rfl⟩
      refine W_R rfl (by (have FX := Fx.mk (@i3); exact cl_)) (by simp only [WS]) (Spoil b mf (by omega) (by (have FX := Fx0; exact cl_))) (by rintro a h' k' ⟨_, e, _⟩; cases e) ?_
      rintro av h9 k9 ⟨_, e, rfl, hk9, l', hl', rfl⟩
      cases e
      have FX := Fx0
      repeat (first | refine v_ ?_ | refine u_ ?_ | refine nl_ ?_ | (refine nz_ ?_; first | (show aWp _ _ _ _ _) | skip) | refine sq_ ?_ | refine rg_ ?_ | refine k_ ?_ | refine ct_ ?_ | refine cf_ ?_ | refine bk_ ?_ | refine sc_ ?_ | (refine sk_ ?_; first | (show aWp _ _ _ _ _) | skip) | (refine ex_ ?_; first | (show aWp _ _ _ _ _) | skip) | refine rt_ ?_)
      refine aWp_nameH fun H hH => ?_
      refine W_loopK [5, 7, 8, 9, 10, 11, 12, 13, 14] 0 (fun r tm h' q => k9 ≤ q ∧ ∃ (i : Nat) (l2 : List (Int × Int)), i ≤ l.length ∧ r = l.length - i ∧ tm 15 = .int .i64 i ∧ l2.length = l.length ∧ h' ma = some ⟨2, itemB l2⟩ ∧ ∀ q, q < k9 → q ≠ ma → h' q = H q) l.length (by omega) ⟨by first | omega | (simp only; omega), 0, l, Nat.zero_le _, rfl, rfl, rfl, by rw [hH]; (have FX := Fx0; exact cl_), fun q _ _ => rfl⟩ ?_
      rintro r tm' h' k' ⟨z0, i, l2, hi, rfl, h15, hl2, b1, b2⟩ hag hh hk'
      have hp : h' p = some ⟨2, [[.hs ma 0 l.length, .hs mb 0 k.length]]⟩ := by rw [b2 p (by omega) (by omega), hH]; (have FX := Fx.mk (@i1); exact cl_)
      by_cases hlt : i < l.length
      · have hd : decide ((i : Int) < (l.length : Int)) = true := decide_eq_true (by omega)
        have hw : IntKind.i64.wrap (i + 1) = ((i + 1 : Nat) : Int) := by rw [wrapI] <;> omega
        obtain ⟨c, hc⟩ : ∃ c, l2[i]? = some c := ⟨_, List.getElem?_eq_getElem (by omega)⟩
        have hcn := itemB_get l2 i c hc
        have hst : (itemB l2).set i [.int .u64 0, .int .u64 0] = itemB (l2.set i (0, 0)) := by simp [itemB, List.map_set]
        have il := itemB_len l2
        have FX := Fx.mk (And.intro @hag <| And.intro @h15 <| And.intro @hd <| And.intro @hw <| And.intro @b1 <| And.intro @hcn <| And.intro @hp <| And.intro @il <| And.intro @hl2 <| @hst)
        repeat (first | refine v_ ?_ | refine u_ ?_ | refine nl_ ?_ | (refine nz_ ?_; first | (show aWp _ _ _ _ _) | skip) | refine sq_ ?_ | refine rg_ ?_ | refine k_ ?_ | refine ct_ ?_ | refine cf_ ?_ | refine bk_ ?_ | refine sc_ ?_ | (refine sk_ ?_; first | (show aWp _ _ _ _ _) | skip) | (refine ex_ ?_; first | (show aWp _ _ _ _ _) | skip) | refine rt_ ?_)
        refine ⟨l.length - (i + 1), by omega, ⟨by first | omega | (simp only; omega), i + 1, l2.set i (0, 0), by omega, rfl, ?_, ?_, ?_, fun q q1 q2 => ?_⟩, ?_, ?_, by first | omega | (simp only; omega), rfl⟩
        · (have FX := Fx0; exact cl_)
        · rw [List.length_set]; exact hl2
        · (have FX := Fx.mk (@hst); exact cl_)
        · (have FX := Fx.mk ((b2 q q1 q2)); exact cl_)
        · repeat (refine KAgree.upd rfl ?_)
          first | exact KAgree.refl _ _ | exact hag
        · intro q hq; exact absurd hq (Nat.not_lt_zero _)
      obtain rfl : i = l.length := by omega
      have hd : decide ((l.length : Int) < (l.length : Int)) = false := by simp
      have FX := Fx.mk (And.intro @hag <| And.intro @h15 <| And.intro @hd <| @hp)
      repeat (first | refine v_ ?_ | refine u_ ?_ | refine nl_ ?_ | (refine nz_ ?_; first | (show aWp _ _ _ _ _) | skip) | refine sq_ ?_ | refine rg_ ?_ | refine k_ ?_ | refine ct_ ?_ | refine cf_ ?_ | refine bk_ ?_ | refine sc_ ?_ | (refine sk_ ?_; first | (show aWp _ _ _ _ _) | skip) | (refine ex_ ?_; first | (show aWp _ _ _ _ _) | skip) | refine rt_ ?_)
      have FX := Fx.mk (And.intro @hag <| And.intro @b2 <| And.intro @hH <| And.intro @i4 <| @i5); refine fz_ 56 ?_
      have FX := Fx.mk (And.intro @hag <| And.intro @b2 <| And.intro @hH <| And.intro @i4 <| And.intro @i5 <| And.intro @j1 <| And.intro @j2 <| And.intro @j3 <| @j4)
      repeat (first | refine v_ ?_ | refine u_ ?_ | refine f_ (sb) fun kf hkf => ?_ | refine f_ (ne) fun kf hkf => ?_ | refine nl_ ?_ | (refine nz_ ?_; first | (show aWp _ _ _ _ _) | skip) | refine sq_ ?_ | refine rg_ ?_ | refine k_ ?_ | refine ct_ ?_ | refine cf_ ?_ | refine bk_ ?_ | refine sc_ ?_ | (refine sk_ ?_; first | (show aWp _ _ _ _ _) | skip) | (refine ex_ ?_; first | (show aWp _ _ _ _ _) | skip) | refine rt_ ?_)
      (have FX := Fx.mk (And.intro @hag <| And.intro @b2 <| And.intro @hH <| And.intro @j1 <| @j2); refine fi_ 66 (m1) ?_); (have FX := Fx.mk (And.intro @FN <| And.intro @hag <| And.intro @b2 <| And.intro @hH <| And.intro @j3 <| @j4); refine fi_ 66 (m2) ?_)
      have FX := Fx.mk (And.intro @FN <| And.intro @hag <| And.intro @b2 <| And.intro @hH <| And.intro @i4 <| And.intro @i5 <| And.intro @j1 <| And.intro @j2 <| And.intro @j3 <| And.intro @j4 <| And.intro @de <| And.intro @dg <| @d0)
      repeat (first | refine v_ ?_ | refine u_ ?_ | refine f_ (am) fun kf hkf => ?_ | refine f_ (ng) fun kf hkf => ?_ | refine nl_ ?_ | (refine nz_ ?_; first | (show aWp _ _ _ _ _) | skip) | refine sq_ ?_ | refine rg_ ?_ | refine k_ ?_ | refine ct_ ?_ | refine cf_ ?_ | refine bk_ ?_ | refine sc_ ?_ | (refine sk_ ?_; first | (show aWp _ _ _ _ _) | skip) | (refine ex_ ?_; first | (show aWp _ _ _ _ _) | skip) | refine rt_ ?_)
      (have FX := Fx.mk (And.intro @hag <| And.intro @b2 <| @hH); exact end_ Try.results7)
  · have er := ref_Encode_bad l k hok
    unfold nodeV at er
    rw [mergeH_no hfr5]
    have sb : aFun Try.prog 14 [.sl [], .sl []] (.bool true) := by
      have := SameBytes [] []
      rwa [decide_eq_true rfl] at this
    have ne := law_num 9
    have de : decide ((9 : Int) = 9) = true := rfl
    have FX := Fx0
    repeat (first | refine v_ ?_ | refine u_ ?_ | refine f_ (er) fun kf hkf => ?_ | refine nl_ ?_ | (refine nz_ ?_; first | (show aWp _ _ _ _ _) | skip) | refine sq_ ?_ | refine rg_ ?_ | refine k_ ?_ | refine ct_ ?_ | refine cf_ ?_ | refine bk_ ?_ | refine sc_ ?_ | (refine sk_ ?_; first | (show aWp _ _ _ _ _) | skip) | (refine ex_ ?_; first | (show aWp _ _ _ _ _) | skip) | refine rt_ ?_)
    refine W_toldR rfl (by unfold calleeT; first | rfl | (simp (disch := first | rfl | decide | omega | assumption | (simp only [LL]; omega)) only [WS, NB, WY, told1, toldA, i3, tk3]; first | done | rfl)) (by simp only [WS]) (leaf_DecodeR b _) (dec_free b _) ?_
    rintro v h6 k6 hG hk6 hfr6
    rcases hG with ⟨g, rfl, rfl⟩ | ⟨g, nd, rfl, hk7, ⟨m1, rfl, hkd, q1, q2, rfl⟩ | ⟨m1, m2, rfl, q1, q2, q3, q4, q5, rfl⟩⟩
    · rw [mergeH_no hfr6]
      have hz := dec_bad g
      have am := law_Alike [] [] [] []
      rw [if_pos ⟨rfl, rfl⟩] at am
      have ng := law_num (decS b).2
      have dg : decide ((decS b).2 = (decS b).2) = true := decide_eq_true rfl
      rw [hz] at dr
      have FX := Fx0
      repeat (first | refine v_ ?_ | refine u_ ?_ | refine f_ (dr) fun kf hkf => ?_ | refine nl_ ?_ | (refine nz_ ?_; first | (show aWp _ _ _ _ _) | skip) | refine sq_ ?_ | refine rg_ ?_ | refine k_ ?_ | refine ct_ ?_ | refine cf_ ?_ | refine bk_ ?_ | refine sc_ ?_ | (refine sk_ ?_; first | (show aWp _ _ _ _ _) | skip) | (refine ex_ ?_; first | (show aWp _ _ _ _ _) | skip) | refine rt_ ?_)
      obtain ⟨p2, rfl⟩ : ∃ p2, p2 = kf := ⟨kf, rfl⟩
      refine W_R rfl (by (have FX := Fx.mk (@i3); exact cl_)) (by simp only [WS]) (Spoil b mf (by omega) (by (have FX := Fx0; exact cl_))) (by rintro a h' k' ⟨_, e, _⟩; cases e) ?_
      rintro av h9 k9 ⟨_, e, rfl, hk9, l', hl', rfl⟩
      cases e
      have FX := Fx0
      repeat (first | refine v_ ?_ | refine u_ ?_ | refine nl_ ?_ | (refine nz_ ?_; first | (show aWp _ _ _ _ _) | skip) | refine sq_ ?_ | refine rg_ ?_ | refine k_ ?_ | refine ct_ ?_ | refine cf_ ?_ | refine bk_ ?_ | refine sc_ ?_ | (refine sk_ ?_; first | (show aWp _ _ _ _ _) | skip) | (refine ex_ ?_; first | (show aWp _ _ _ _ _) | skip) | refine rt_ ?_)
      refine aWp_nameH fun H hH => ?_
      refine W_loopK [5, 7, 8, 9, 10, 11, 12, 13, 14] 0 (fun r tm h' q => k9 ≤ q ∧ ∃ (i : Nat) (l2 : List (Int × Int)), i ≤ l.length ∧ r = l.length - i ∧ tm 15 = .int .i64 i ∧ l2.length = l.length ∧ h' ma = some ⟨2, itemB l2⟩ ∧ ∀ q, q < k9 → q ≠ ma → h' q = H q) l.length (by omega) ⟨by first | omega | (simp only; omega), 0, l, Nat.zero_le _, rfl, rfl, rfl, by rw [hH]; (have FX := Fx0; exact cl_), fun q _ _ => rfl⟩ ?_
      rintro r tm' h' k' ⟨z0, i, l2, hi, rfl, h15, hl2, b1, b2⟩ hag hh hk'
      have hp : h' p = some ⟨2, [[.hs ma 0 l.length, .hs mb 0 k.length]]⟩ := by rw [b2 p (by omega) (by omega), hH]; (have FX := Fx.mk (@i1); exact cl_)
      by_cases hlt : i < l.length
      · have hd : decide ((i : Int) < (l.length : Int)) = true := decide_eq_true (by omega)
        have hw : IntKind.i64.wrap (i + 1) = ((i + 1 : Nat) : Int) := by rw [wrapI] <;> omega
        obtain ⟨c, hc⟩ : ∃ c, l2[i]? = some c := ⟨_, List.getElem?_eq_getElem (by omega)⟩
        have hcn := itemB_get l2 i c hc
        have hst : (itemB l2).set i [.int .u64 0, .int .u64 0] = itemB (l2.set i (0, 0)) := by simp [itemB, List.map_set]
        have il := itemB_len l2
        have FX := Fx.mk (And.intro @hag <| And.intro @h15 <| And.intro @hd <| And.intro @hw <| And.intro @b1 <| And.intro @hcn <| And.intro @hp <| And.intro @il <| And.intro @hl2 <| @hst)
        repeat (first | refine v_ ?_ | refine u_ ?_ | refine nl_ ?_ | (refine nz_ ?_; first | (show aWp _ _ _ _ _) | skip) | refine sq_ ?_ | refine rg_ ?_ | refine k_ ?_ | refine ct_ ?_ | refine cf_ ?_ | refine bk_ ?_ | refine sc_ ?_ | (refine sk_ ?_; first | (show aWp _ _ _ _ _) | skip) | (refine ex_ ?_; first | (show aWp _ _ _ _ _) | skip) | refine rt_ ?_)
        refine ⟨l.length - (i + 1), by omega, ⟨by first | omega | (simp only; omega), i + 1, l2.set i (0, 0), by omega, rfl, ?_, ?_, ?_, fun q q1 q2 => ?_⟩, ?_, ?_, by first | omega | (simp only; omega), rfl⟩
        · (have FX := Fx0; exact cl_)
        · rw [List.length_set]; exact hl2
        · (have FX := Fx.mk (@hst); exact cl_)
        · (have FX := Fx.mk ((b2 q q1 q2)); exact cl_)
        · repeat (refine KAgree.upd rfl ?_)
          first | exact KAgree.refl _ _ | exact hag
        · intro q hq; exact absurd hq (Nat.not_lt_zero _)
      obtain rfl : i = l.length := by omega
      have hd : decide ((l.length : Int) < (l.length : Int)) = false := by simp
      have FX := Fx.mk (And.intro @hag <| And.intro @h15 <| And.intro @hd <| @hp)
      repeat (first | refine v_ ?_ | refine u_ ?_ | refine nl_ ?_ | (refine nz_ ?_; first | (show aWp _ _ _ _ _) | skip) | refine sq_ ?_ | refine rg_ ?_ | refine k_ ?_ | refine ct_ ?_ | refine cf_ ?_ | refine bk_ ?_ | refine sc_ ?_ | (refine sk_ ?_; first | (show aWp _ _ _ _ _) | skip) | (refine ex_ ?_; first | (show aWp _ _ _ _ _) | skip) | refine rt_ ?_)
      skip
      have FX := Fx.mk (And.intro @hag <| And.intro @b2 <| And.intro @hH <| @i1)
      repeat (first | refine v_ ?_ | refine u_ ?_ | refine f_ (sb) fun kf hkf => ?_ | refine f_ (ne) fun kf hkf => ?_ | refine nl_ ?_ | (refine nz_ ?_; first | (show aWp _ _ _ _ _) | skip) | refine sq_ ?_ | refine rg_ ?_ | refine k_ ?_ | refine ct_ ?_ | refine cf_ ?_ | refine bk_ ?_ | refine sc_ ?_ | (refine sk_ ?_; first | (show aWp _ _ _ _ _) | skip) | (refine ex_ ?_; first | (show aWp _ _ _ _ _) | skip) | refine rt_ ?_)
      skip
      have FX := Fx.mk (And.intro @FN <| And.intro @hag <| And.intro @b2 <| And.intro @hH <| And.intro @i1 <| And.intro @de <| And.intro @dg <| @d0)
      repeat (first | refine v_ ?_ | refine u_ ?_ | refine f_ (am) fun kf hkf => ?_ | refine f_ (ng) fun kf hkf => ?_ | refine nl_ ?_ | (refine nz_ ?_; first | (show aWp _ _ _ _ _) | skip) | refine sq_ ?_ | refine rg_ ?_ | refine k_ ?_ | refine ct_ ?_ | refine cf_ ?_ | refine bk_ ?_ | refine sc_ ?_ | (refine sk_ ?_; first | (show aWp _ _ _ _ _) | skip) | (refine ex_ ?_; first | (show aWp _ _ _ _ _) | skip) | refine rt_ ?_)
      (have FX := Fx.mk (And.intro @hag <| And.intro @b2 <| @hH); exact end_ Try.results7)
    · rw [mergeH_upd q1, mergeH_no hfr6]
      have am := law_Alike (decS b).1.1 [] (decS b).1.1 []
      rw [if_pos ⟨rfl, rfl⟩] at am
      have ng := law_num 0
      have dg : decide ((0 : Int) = 0) = true := rfl
      rw [hkd, g] at dr
      have j1 := itemB_len (decS b).1.1
      have j2 := take_len _ _ j1
      have FX := Fx0
      repeat (first | refine v_ ?_ | refine u_ ?_ | refine f_ (dr) fun kf hkf => ?_ | refine nl_ ?_ | (refine nz_ ?_; first | (show aWp _ _ _ _ _) | skip) | refine sq_ ?_ | refine rg_ ?_ | refine k_ ?_ | refine ct_ ?_ | refine cf_ ?_ | refine bk_ ?_ | refine sc_ ?_ | (refine sk_ ?_; first | (show aWp _ _ _ _ _) | skip) | (refine ex_ ?_; first | (show aWp _ _ _ _ _) | skip) | refine rt_ ?_)
      obtain ⟨p2, rfl⟩ : ∃ p2, p2 = kf := ⟨kf, rfl⟩
      refine W_R rfl (by (have FX := Fx.mk (@i3); exact cl_)) (by simp only [WS]) (Spoil b mf (by omega) (by (have FX := Fx0; exact cl_))) (by rintro a h' k' ⟨_, e, _⟩; cases e) ?_
      rintro av h9 k9 ⟨_, e, rfl, hk9, l', hl', rfl⟩
      cases e
      have FX := Fx0
      repeat (first | refine v_ ?_ | refine u_ ?_ | refine nl_ ?_ | (refine nz_ ?_; first | (show aWp _ _ _ _ _) | skip) | refine sq_ ?_ | refine rg_ ?_ | refine k_ ?_ | refine ct_ ?_ | refine cf_ ?_ | refine bk_ ?_ | refine sc_ ?_ | (refine sk_ ?_; first | (show aWp _ _ _ _ _) | skip) | (refine ex_ ?_; first | (show aWp _ _ _ _ _) | skip) | refine rt_ ?_)
      refine aWp_nameH fun H hH => ?_
      refine W_loopK [5, 7, 8, 9, 10, 11, 12, 13, 14] 0 (fun r tm h' q => k9 ≤ q ∧ ∃ (i : Nat) (l2 : List (Int × Int)), i ≤ l.length ∧ r = l.length - i ∧ tm 15 = .int .i64 i ∧ l2.length = l.length ∧ h' ma = some ⟨2, itemB l2⟩ ∧ ∀ q, q < k9 → q ≠ ma → h' q = H q) l.length (by omega) ⟨by first | omega | (simp only; omega), 0, l, Nat.zero_le _, rfl, rfl, rfl, by rw [hH]; (have FX := Fx0; exact cl_), fun q _ _ => rfl⟩ ?_
      rintro r tm' h' k' ⟨z0, i, l2, hi, rfl, h15, hl2, b1, b2⟩ hag hh hk'
      have hp : h' p = some ⟨2, [[.hs ma 0 l.length, .hs mb 0 k.length]]⟩ := by rw [b2 p (by omega) (by omega), hH]; (have FX := Fx.mk (@i1); exact cl_)
      by_cases hlt : i < l.length
      · have hd : decide ((i : Int) < (l.length : Int)) = true := decide_eq_true (by omega)
        have hw : IntKind.i64.wrap (i + 1) = ((i + 1 : Nat) : Int) := by rw [wrapI] <;> omega
        obtain ⟨c, hc⟩ : ∃ c, l2[i]? = some c := ⟨_, List.getElem?_eq_getElem (by omega)⟩
        have hcn := itemB_get l2 i c hc
        have hst : (itemB l2).set i [.int .u64 0, .int .u64 0] = itemB (l2.set i (0, 0)) := by simp [itemB, List.map_set]
        have il := itemB_len l2
        have FX := Fx.mk (And.intro @hag <| And.intro @h15 <| And.intro @hd <| And.intro @hw <| And.intro @b1 <| And.intro @hcn <| And.intro @hp <| And.intro @il <| And.intro @hl2 <| @hst)
        repeat (first | refine v_ ?_ | refine u_ ?_ | refine nl_ ?_ | (refine nz_ ?_; first | (show aWp _ _ _ _ _) | skip) | refine sq_ ?_ | refine rg_ ?_ | refine k_ ?_ | refine ct_ ?_ | refine cf_ ?_ | refine bk_ ?_ | refine sc_ ?_ | (refine sk_ ?_; first | (show aWp _ _ _ _ _) | skip) | (refine ex_ ?_; first | (show aWp _ _ _ _ _) | skip) | refine rt_ ?_)
        refine ⟨l.length - (i + 1), by omega, ⟨by first | omega | (simp only; omega), i + 1, l2.set i (0, 0), by omega, rfl, ?_, ?_, ?_, fun q q1 q2 => ?_⟩, ?_, ?_, by first | omega | (simp only; omega), rfl⟩
        · (have FX := Fx0; exact cl_)
        · rw [List.length_set]; exact hl2
        · (have FX := Fx.mk (@hst); exact cl_)
        · (have FX := Fx.mk ((b2 q q1 q2)); exact cl_)
        · repeat (refine KAgree.upd rfl ?_)
          first | exact KAgree.refl _ _ | exact hag
        · intro q hq; exact absurd hq (Nat.not_lt_zero _)
      obtain rfl : i = l.length := by omega
      have hd : decide ((l.length : Int) < (l.length : Int)) = false := by simp
      have FX := Fx.mk (And.intro @hag <| And.intro @h15 <| And.intro @hd <| @hp)
      repeat (first | refine v_ ?_ | refine u_ ?_ | refine nl_ ?_ | (refine nz_ ?_; first | (show aWp _ _ _ _ _) | skip) | refine sq_ ?_ | refine rg_ ?_ | refine k_ ?_ | refine ct_ ?_ | refine cf_ ?_ | refine bk_ ?_ | refine sc_ ?_ | (refine sk_ ?_; first | (show aWp _ _ _ _ _) | skip) | (refine ex_ ?_; first | (show aWp _ _ _ _ _) | skip) | refine rt_ ?_)
      skip
      have FX := Fx.mk (And.intro @hag <| And.intro @b2 <| And.intro @hH <| And.intro @i1 <| And.intro @j1 <| @j2)
      repeat (first | refine v_ ?_ | refine u_ ?_ | refine f_ (sb) fun kf hkf => ?_ | refine f_ (ne) fun kf hkf => ?_ | refine nl_ ?_ | (refine nz_ ?_; first | (show aWp _ _ _ _ _) | skip) | refine sq_ ?_ | refine rg_ ?_ | refine k_ ?_ | refine ct_ ?_ | refine cf_ ?_ | refine bk_ ?_ | refine sc_ ?_ | (refine sk_ ?_; first | (show aWp _ _ _ _ _) | skip) | (refine ex_ ?_; first | (show aWp _ _ _ _ _) | skip) | refine rt_ ?_)
      have FX := Fx.mk (And.intro @hag <| And.intro @b2 <| And.intro @hH <| And.intro @j1 <| @j2); refine fi_ 66 (m1) ?_
      have FX := Fx.mk (And.intro @FN <| And.intro @hag <| And.intro @b2 <| And.intro @hH <| And.intro @i1 <| And.intro @j1 <| And.intro @j2 <| And.intro @de <| And.intro @dg <| @d0)
      repeat (first | refine v_ ?_ | refine u_ ?_ | refine f_ (am) fun kf hkf => ?_ | refine f_ (ng) fun kf hkf => ?_ | refine nl_ ?_ | (refine nz_ ?_; first | (show aWp _ _ _ _ _) | skip) | refine sq_ ?_ | refine rg_ ?_ | refine k_ ?_ | refine ct_ ?_ | refine cf_ ?_ | refine bk_ ?_ | refine sc_ ?_ | (refine sk_ ?_; first | (show aWp _ _ _ _ _) | skip) | (refine ex_ ?_; first | (show aWp _ _ _ _ _) | skip) | refine rt_ ?_)
      (have FX := Fx.mk (And.intro @hag <| And.intro @b2 <| @hH); exact end_ Try.results7)
    · rw [mergeH_upd q2, mergeH_upd q1, mergeH_no hfr6]
      have am := law_Alike (decS b).1.1 (decS b).1.2 (decS b).1.1 (decS b).1.2
      rw [if_pos ⟨rfl, rfl⟩] at am
      have ng := law_num 0
      have dg : decide ((0 : Int) = 0) = true := rfl
      rw [g] at dr
      have j1 := itemB_len (decS b).1.1
      have j2 := take_len _ _ j1
      have j3 := numB_len .i64 (decS b).1.2
      have j4 := take_len _ _ j3
      have FX := Fx0
      repeat (first | refine v_ ?_ | refine u_ ?_ | refine f_ (dr) fun kf hkf => ?_ | refine nl_ ?_ | (refine nz_ ?_; first | (show aWp _ _ _ _ _) | skip) | refine sq_ ?_ | refine rg_ ?_ | refine k_ ?_ | refine ct_ ?_ | refine cf_ ?_ | refine bk_ ?_ | refine sc_ ?_ | (refine sk_ ?_; first | (show aWp _ _ _ _ _) | skip) | (refine ex_ ?_; first | (show aWp _ _ _ _ _) | skip) | refine rt_ ?_)
      obtain ⟨p2, rfl⟩ : ∃ p2, p2 = kf := ⟨kf, rfl⟩
      refine W_R rfl (by (have FX := Fx.mk (@i3); exact cl_)) (by simp only [WS]) (Spoil b mf (by omega) (by (have FX := Fx0; exact cl_))) (by rintro a h' k' ⟨_, e, _⟩; cases e) ?_
      rintro av h9 k9 ⟨_, e, rfl, hk9, l', hl', rfl⟩
      cases e
      have FX := Fx0
      repeat (first | refine v_ ?_ | refine u_ ?_ | refine nl_ ?_ | (refine nz_ ?_; first | (show aWp _ _ _ _ _) | skip) | refine sq_ ?_ | refine rg_ ?_ | refine k_ ?_ | refine ct_ ?_ | refine cf_ ?_ | refine bk_ ?_ | refine sc_ ?_ | (refine sk_ ?_; first | (show aWp _ _ _ _ _) | skip) | (refine ex_ ?_; first | (show aWp _ _ _ _ _) | skip) | refine rt_ ?_)
      refine aWp_nameH fun H hH => ?_
      refine W_loopK [5, 7, 8, 9, 10, 11, 12, 13, 14] 0 (fun r tm h' q => k9 ≤ q ∧ ∃ (i : Nat) (l2 : List (Int × Int)), i ≤ l.length ∧ r = l.length - i ∧ tm 15 = .int .i64 i ∧ l2.length = l.length ∧ h' ma = some ⟨2, itemB l2⟩ ∧ ∀ q, q < k9 → q ≠ ma → h' q = H q) l.length (by omega) ⟨by first | omega | (simp only; omega), 0, l, Nat.zero_le _, rfl, rfl, rfl, by rw [hH]; (have FX := Fx0; exact cl_), fun q _ _ => rfl⟩ ?_
      rintro r tm' h' k' ⟨z0, i, l2, hi, rfl, h15, hl2, b1, b2⟩ hag hh hk'
      have hp : h' p = some ⟨2, [[.hs ma 0 l.length, .hs mb 0 k.length]]⟩ := by rw [b2 p (by omega) (by omega), hH]; (have FX := Fx.mk (@i1); exact cl_)
      by_cases hlt : i < l.length
      · have hd : decide ((i : Int) < (l.length : Int)) = true := decide_eq_true (by omega)
        have hw : IntKind.i64.wrap (i + 1) = ((i + 1 : Nat) : Int) := by rw [wrapI] <;> omega
        obtain ⟨c, hc⟩ : ∃ c, l2[i]? = some c := ⟨_, List.getElem?_eq_getElem (by omega)⟩
        have hcn := itemB_get l2 i c hc
        have hst : (itemB l2).set i [.int .u64 0, .int .u64 0] = itemB (l2.set i (0, 0)) := by simp [itemB, List.map_set]
        have il := itemB_len l2
        have FX := Fx.mk (And.intro @hag <| And.intro @h15 <| And.intro @hd <| And.intro @hw <| And.intro @b1 <| And.intro @hcn <| And.intro @hp <| And.intro @il <| And.intro @hl2 <| @hst)
        repeat (first | refine v_ ?_ | refine u_ ?_ | refine nl_ ?_ | (refine nz_ ?_; first | (show aWp _ _ _ _ _) | skip) | refine sq_ ?_ | refine rg_ ?_ | refine k_ ?_ | refine ct_ ?_ | refine cf_ ?_ | refine bk_ ?_ | refine sc_ ?_ | (refine sk_ ?_; first | (show aWp _ _ _ _ _) | skip) | (refine ex_ ?_; first | (show aWp _ _ _ _ _) | skip) | refine rt_ ?_)
        refine ⟨l.length - (i + 1), by omega, ⟨by first | omega | (simp only; omega), i + 1, l2.set i (0, 0), by omega, rfl, ?_, ?_, ?_, fun q q1 q2 => ?_⟩, ?_, ?_, by first | omega | (simp only; omega), rfl⟩
        · (have FX := Fx0; exact cl_)
        · rw [List.length_set]; exact hl2
        · (have FX := Fx.mk (@hst); exact cl_)
        · (have FX := Fx.mk ((b2 q q1 q2)); exact cl_)
        · repeat (refine KAgree.upd rfl ?_)
          first | exact KAgree.refl _ _ | exact hag
        · intro q hq; exact absurd hq (Nat.not_lt_zero _)
      obtain rfl : i = l.length := by omega
      have hd : decide ((l.length : Int) < (l.length : Int)) = false := by simp
      have FX := Fx.mk (And.intro @hag <| And.intro @h15 <| And.intro @hd <| @hp)
      repeat (first | refine v_ ?_ | refine u_ ?_ | refine nl_ ?_ | (refine nz_ ?_; first | (show aWp _ _ _ _ _) | skip) | refine sq_ ?_ | refine rg_ ?_ | refine k_ ?_ | refine ct_ ?_ | refine cf_ ?_ | refine bk_ ?_ | refine sc_ ?_ | (refine sk_ ?_; first | (show aWp _ _ _ _ _) | skip) | (refine ex_ ?_; first | (show aWp _ _ _ _ _) | skip) | refine rt_ ?_)
      skip
      have FX := Fx.mk (And.intro @hag <| And.intro @b2 <| And.intro @hH <| And.intro @i1 <| And.intro @j1 <| And.intro @j2 <| And.intro @j3 <| @j4)
      repeat (first | refine v_ ?_ | refine u_ ?_ | refine f_ (sb) fun kf hkf => ?_ | refine f_ (ne) fun kf hkf => ?_ | refine nl_ ?_ | (refine nz_ ?_; first | (show aWp _ _ _ _ _) | skip) | refine sq_ ?_ | refine rg_ ?_ | refine k_ ?_ | refine ct_ ?_ | refine cf_ ?_ | refine bk_ ?_ | refine sc_ ?_ | (refine sk_ ?_; first | (show aWp _ _ _ _ _) | skip) | (refine ex_ ?_; first | (show aWp _ _ _ _ _) | skip) | refine rt_ ?_)
      (have FX := Fx.mk (And.intro @hag <| And.intro @b2 <| And.intro @hH <| And.intro @j1 <| @j2); refine fi_ 66 (m1) ?_); (have FX := Fx.mk (And.intro @FN <| And.intro @hag <| And.intro @b2 <| And.intro @hH <| And.intro @j3 <| @j4); refine fi_ 66 (m2) ?_)
      have FX := Fx.mk (And.intro @FN <| And.intro @hag <| And.intro @b2 <| And.intro @hH <| And.intro @i1 <| And.intro @j1 <| And.intro @j2 <| And.intro @j3 <| And.intro @j4 <| And.intro @de <| And.intro @dg <| @d0)
      repeat (first | refine v_ ?_ | refine u_ ?_ | refine f_ (am) fun kf hkf => ?_ | refine f_ (ng) fun kf hkf => ?_ | refine nl_ ?_ | (refine nz_ ?_; first | (show aWp _ _ _ _ _) | skip) | refine sq_ ?_ | refine rg_ ?_ | refine k_ ?_ | refine ct_ ?_ | refine cf_ ?_ | refine bk_ ?_ | refine sc_ ?_ | (refine sk_ ?_; first | (show aWp _ _ _ _ _) | skip) | (refine ex_ ?_; first | (show aWp _ _ _ _ _) | skip) | refine rt_ ?_)
      (have FX := Fx.mk (And.intro @hag <| And.intro @b2 <| @hH); exact end_ Try.results7)
#print axioms law_Own
end Go.Proofs.Ytcnofpoffdjbpaa.AE
