/- Layer 15's law JournalScans. -/
import Derived.Test.YteklnhogokjkkaaJ15
import Derived.Test.YteklnhogokjkkaaJ16
namespace Go.Proofs.Yteklnhogokjkkaa.AE
open Go Go.RowKit Go.Proofs Go.Proofs.Yteklnhogokjkkaa
set_option linter.unusedVariables false
set_option linter.unusedSimpArgs false
set_option maxRecDepth 100000
set_option maxHeartbeats 8000000
theorem catR_le : ∀ (l : List Rec) (next : Int), RunR l next → (catR l).length ≤ 20000 * l.length
  | [], _, _ => by simp [catR]
  | r :: l, next, h => by
    have h1 := enc_le r h.1
    have h2 := catR_le l (next + 1) h.2.2
    rw [catR_cons, List.length_append]
    simp only [List.length_cons]
    omega
theorem endsR_len (l : List Rec) : (endsR l).length = l.length := by simp [endsR]
theorem endsR_snoc (l : List Rec) (r : Rec) : endsR (l ++ [r]) = endsR l ++ [((catR (l ++ [r])).length : Int)] := by
  unfold endsR
  rw [List.length_append, List.length_singleton, List.range_succ, List.map_append]
  congr 1
  · refine List.map_congr_left fun i hi => ?_
    rw [List.take_append_of_le_length (by have := List.mem_range.1 hi; omega)]
  · simp [List.take_of_length_le]
theorem endsR_get (l : List Rec) (i : Nat) (h : i < l.length) : (endsR l)[i]? = some ((catR (l.take (i + 1))).length : Int) := by
  unfold endsR
  rw [List.getElem?_map, List.getElem?_range h]
  rfl
theorem recsB_snoc (l : List Rec) (r : Rec) : recsB (l ++ [r]) = recsB l ++ [[.int .i64 r.q, .int .i64 r.root, .int .i64 r.room, .sl (pagesB r.pages)]] := by simp [recsB]
theorem Sub.weakT {st : St} {t : Nat} (ht : st.tm t = .zs) : Sub st ⟨upd st.tm t (.sl []), st.h, st.nx, st.df⟩ := ⟨Nat.le_refl _, fun B w0 nt σ act w hr => ⟨⟨hr.sr, fun i => by
  have h0 := hr.tr i
  by_cases hi : i = t
  · subst hi
    rw [ht] at h0
    simp only [upd_same]
    exact h0.weakZ
  · simp only [upd_ne _ _ _ hi]
    exact h0, hr.nt, hr.nx, hr.df⟩, fun _ _ q => q⟩⟩
/-- A slot's row of one's own, or none of all. -/
def rowAt (n0 : Nat) (tm : Nat → AV) (h : AHeap) (q t m sz : Nat) (es : List (List AV)) : Prop := tm t = .hs m 0 es.length ∧ n0 ≤ m ∧ m < q ∧ h m = some ⟨sz, es⟩
theorem Sub.rowT {n0 q : Nat} {tm : Nat → AV} {h : AHeap} {df : List ADef} {t m sz : Nat} {es : List (List AV)} (hr : rowAt n0 tm h q t m sz es) : Sub ⟨tm, h, q, df⟩ ⟨upd tm t (.sl es), upd h m none, q, df⟩ := by
  obtain ⟨h1, h2, h3, h4⟩ := hr
  have := Sub.freeze (st := ⟨tm, h, q, df⟩) h1 h4 (by simp)
  simpa using this
def stS (n0 : Nat) (W : List Rec) (tm : Nat → AV) (h : AHeap) (q : Nat) : Prop := (W = [] ∧ tm 7 = .zs ∧ tm 8 = .zs ∧ tm 9 = .zs) ∨ ∃ a b c, a ≠ b ∧ a ≠ c ∧ b ≠ c ∧ rowAt n0 tm h q 7 a 1 (numB .u8 (catR W)) ∧ rowAt n0 tm h q 8 b 1 (numB .i64 (endsR W)) ∧ rowAt n0 tm h q 9 c 4 (recsB W)
theorem stS_rows {P : Program} {nt : Nat} {c : Code} {Q : AX → St → Prop} {n0 : Nat} {W : List Rec} {tm : Nat → AV} {h : AHeap} {q : Nat} {df : List ADef} (hs : stS n0 W tm h q)
    (key : ∀ tm' h', (∀ t, t ≠ 7 → t ≠ 8 → t ≠ 9 → tm' t = tm t) → tm' 7 = .sl (numB .u8 (catR W)) → tm' 8 = .sl (numB .i64 (endsR W)) → tm' 9 = .sl (recsB W) → HAgree n0 h h' → aWp P nt c Q ⟨tm', h', q, df⟩) : aWp P nt c Q ⟨tm, h, q, df⟩ := by
  rcases hs with ⟨rfl, h7, h8, h9⟩ | ⟨a, b, d, ab, ad, bd, r7, r8, r9⟩
  · refine aWp_sub (Sub.weakT (t := 7) h7) (aWp_sub (Sub.weakT (t := 8) ?_) (aWp_sub (Sub.weakT (t := 9) ?_) (key _ _ ?_ ?_ ?_ ?_ ?_)))
    · simpa [upd] using h8
    · simpa [upd] using h9
    · intro t t7 t8 t9; simp [upd, t7, t8, t9]
    · simp [upd, catR, numB]
    · simp [upd, endsR, numB]
    · simp [upd, recsB]
    · exact fun m hm => rfl
  · have q7 := r7.2
    have q8 := r8.2
    have q9 := r9.2
    refine aWp_sub (Sub.rowT r7) (aWp_sub (Sub.rowT (n0 := n0) (t := 8) (m := b) (sz := 1) (es := numB .i64 (endsR W)) ⟨?_, q8.1, q8.2.1, ?_⟩) (aWp_sub (Sub.rowT (n0 := n0) (t := 9) (m := d) (sz := 4) (es := recsB W) ⟨?_, q9.1, q9.2.1, ?_⟩) (key _ _ ?_ ?_ ?_ ?_ ?_)))
    · simpa [upd] using r8.1
    · rw [upd_ne _ _ _ ab.symm]; exact q8.2.2
    · simpa [upd] using r9.1
    · rw [upd_ne _ _ _ bd.symm, upd_ne _ _ _ ad.symm]; exact q9.2.2
    · intro t t7 t8 t9; simp [upd, t7, t8, t9]
    · simp [upd]
    · simp [upd]
    · simp [upd]
    · intro m hm
      have g1 := q7.1
      have g2 := q8.1
      have g3 := q9.1
      rw [upd_ne _ _ _ (by omega), upd_ne _ _ _ (by omega), upd_ne _ _ _ (by omega)]
theorem stS_of {n0 q : Nat} {W : List Rec} {tm tm' : Nat → AV} {h : AHeap} (h7 : tm' 7 = tm 7) (h8 : tm' 8 = tm 8) (h9 : tm' 9 = tm 9) (hs : stS n0 W tm h q) : stS n0 W tm' h q := by
  unfold stS rowAt at *
  rw [h7, h8, h9]
  exact hs
theorem rowAt.mono {n0 q q' : Nat} {tm : Nat → AV} {h h' : AHeap} {t m sz : Nat} {es : List (List AV)} (hr : rowAt n0 tm h q t m sz es) (hq : q ≤ q') (hh : ∀ m, m < q → h' m = h m) : rowAt n0 tm h' q' t m sz es := ⟨hr.1, hr.2.1, Nat.lt_of_lt_of_le hr.2.2.1 hq, by rw [hh m hr.2.2.1]; exact hr.2.2.2⟩
theorem stS_mono {n0 q q' : Nat} {W : List Rec} {tm : Nat → AV} {h h' : AHeap} (hs : stS n0 W tm h q) (hq : q ≤ q') (hh : ∀ m, m < q → h' m = h m) : stS n0 W tm h' q' := by
  rcases hs with hs | ⟨a, b, c, ab, ac, bc, r7, r8, r9⟩
  · exact .inl hs
  · exact .inr ⟨a, b, c, ab, ac, bc, r7.mono hq hh, r8.mono hq hh, r9.mono hq hh⟩
theorem recsB_sz (l : List Rec) : ((recsB l).all fun c => c.length == 4) = true := by simp [recsB]
theorem whole_le : ∀ (l : List Rec) (m : Nat), whole l m ≤ l.length
  | [], m => by simp [whole]
  | r :: l, m => by
    unfold whole
    split
    · have := whole_le l (m - r.enc.length); simp only [List.length_cons]; omega
    · omega
theorem recsB_take (l : List Rec) (n : Nat) : (recsB l).take n = recsB (l.take n) := by simp [recsB, List.map_take]
theorem law_Scans (l : List Rec) (next at_ : Int) (hz : ∀ r ∈ l, r.pages.length * 32 ≤ 140737488351232 ∧ ∀ p ∈ r.pages, p.2.length ≤ 140737488351232) : aFun Try.prog 5 [.sl (recsB l), .int .i64 next, .int .i64 at_] (.bool true) := by
  have al := law_alive
  have ll := recsB_len l
  have n0 := law_num 0
  have n9 := law_num 9
  have d0 : decide ((0 : Int) = 0) = true := rfl
  have d9 : decide ((9 : Int) = 0) = false := rfl
  obtain ⟨N, w1, w2, w3, hN⟩ : ∃ N : Int, IntKind.i64.wrap (next.tmod 1000 + 1000) = next.tmod 1000 + 1000 ∧ IntKind.i64.wrap ((next.tmod 1000 + 1000).tmod 1000) = (next.tmod 1000 + 1000).tmod 1000 ∧ IntKind.i64.wrap (1 + (next.tmod 1000 + 1000).tmod 1000) = N ∧ 1 ≤ N ∧ N ≤ 1000 := by
    have h1 : next.tmod 1000 < 1000 := Int.tmod_lt_of_pos next (by decide)
    have h2 : -1000 < next.tmod 1000 := Int.lt_tmod_of_pos next (by decide)
    have h3 := Int.tmod_eq_emod_of_nonneg (a := next.tmod 1000 + 1000) (b := 1000) (by omega)
    have h4 := Int.emod_nonneg (next.tmod 1000 + 1000) (show (1000 : Int) ≠ 0 by decide)
    have h5 := Int.emod_lt_of_pos (next.tmod 1000 + 1000) (show (0 : Int) < 1000 by decide)
    refine ⟨1 + (next.tmod 1000 + 1000).tmod 1000, by rw [wrapI] <;> omega, by rw [wrapI] <;> omega, by rw [wrapI] <;> omega, by omega, by omega⟩
  refine aFun_body Try.func5 rfl rfl (by simp [Try.ntmps5]) fun hreal h nx hfresh => ?_
  rw [Try.ntmps5]
  have FX := Fx.mk (And.intro @w1 <| And.intro @w2 <| And.intro @w3 <| @Bool.not_true)
  repeat (first | refine v_ ?_ | refine u_ ?_ | refine f_ (al) fun kf hkf => ?_ | refine nl_ ?_ | (refine nz_ ?_; first | (show aWp _ _ _ _ _) | skip) | refine sq_ ?_ | refine rg_ ?_ | refine k_ ?_ | refine ct_ ?_ | refine cf_ ?_ | refine bk_ ?_ | refine sc_ ?_ | (refine sk_ ?_; first | (show aWp _ _ _ _ _) | skip) | (refine ex_ ?_; first | (show aWp _ _ _ _ _) | skip) | refine rt_ ?_)
  obtain ⟨k0, rfl⟩ : ∃ q, q = kf := ⟨kf, rfl⟩
  have hk0 := hkf
  refine aWp_mono (Q := fun e s => e = .ex 0 ∧ s.df = [] ∧ k0 ≤ s.nx ∧ HAgree nx h s.h ∧ s.tm 1 = .int .i64 N ∧ s.tm 2 = .int .i64 at_ ∧ ∃ W : List Rec, RunR W N ∧ W.length ≤ 8 ∧ stS nx W s.tm s.h s.nx) ?_ ?_
  · refine W_loopK [0, 1, 2] nx (fun n tm h q => ∃ (i : Nat) (W : List Rec), i ≤ l.length ∧ i ≤ 8 ∧ n = 8 - i ∧ RunR W N ∧ W.length ≤ i ∧ tm 10 = .int .i64 i ∧ k0 ≤ q ∧ stS nx W tm h q) 8 (by omega) ⟨0, [], by omega, by omega, by omega, trivial, by simp, by (have FX := Fx0; exact cl_), by omega, .inl ⟨rfl, by (have FX := Fx0; exact cl_), by (have FX := Fx0; exact cl_), by (have FX := Fx0; exact cl_)⟩⟩ ?_
    rintro n tm' h' k' ⟨i, W, hi, hi8, rfl, hW, hWl, h10, hk0', hst⟩ hag hh hk'
    have d1 : decide ((i : Int) < (l.length : Int)) = decide (i < l.length) := decide_eq_decide.2 (by omega)
    have d2 : decide ((i : Int) < 8) = decide (i < 8) := decide_eq_decide.2 (by omega)
    by_cases hlt : i < l.length
    rotate_left
    · rw [decide_eq_false hlt] at d1
      have FX := Fx.mk (And.intro @hag <| And.intro @h10 <| And.intro @ll <| @d1)
      repeat (first | refine v_ ?_ | refine u_ ?_ | refine nl_ ?_ | (refine nz_ ?_; first | (show aWp _ _ _ _ _) | skip) | refine sq_ ?_ | refine rg_ ?_ | refine k_ ?_ | refine ct_ ?_ | refine cf_ ?_ | refine bk_ ?_ | refine sc_ ?_ | (refine sk_ ?_; first | (show aWp _ _ _ _ _) | skip) | (refine ex_ ?_; first | (show aWp _ _ _ _ _) | skip) | refine rt_ ?_)
      exact ⟨rfl, rfl, by first | omega | (simp only; omega), hh, by (have FX := Fx.mk (@hag); exact cl_), by (have FX := Fx.mk (@hag); exact cl_), W, hW, by omega, stS_of (by (have FX := Fx0; exact cl_)) (by (have FX := Fx0; exact cl_)) (by (have FX := Fx0; exact cl_)) hst⟩
    rw [decide_eq_true hlt] at d1
    by_cases hl8 : i < 8
    rotate_left
    · rw [decide_eq_false hl8] at d2
      have FX := Fx.mk (And.intro @hag <| And.intro @h10 <| And.intro @ll <| And.intro @d1 <| @d2)
      repeat (first | refine v_ ?_ | refine u_ ?_ | refine nl_ ?_ | (refine nz_ ?_; first | (show aWp _ _ _ _ _) | skip) | refine sq_ ?_ | refine rg_ ?_ | refine k_ ?_ | refine ct_ ?_ | refine cf_ ?_ | refine bk_ ?_ | refine sc_ ?_ | (refine sk_ ?_; first | (show aWp _ _ _ _ _) | skip) | (refine ex_ ?_; first | (show aWp _ _ _ _ _) | skip) | refine rt_ ?_)
      exact ⟨rfl, rfl, by first | omega | (simp only; omega), hh, by (have FX := Fx.mk (@hag); exact cl_), by (have FX := Fx.mk (@hag); exact cl_), W, hW, by omega, stS_of (by (have FX := Fx0; exact cl_)) (by (have FX := Fx0; exact cl_)) (by (have FX := Fx0; exact cl_)) hst⟩
    rw [decide_eq_true hl8] at d2
    obtain ⟨x, hx⟩ : ∃ x, l[i]? = some x := ⟨_, List.getElem?_eq_getElem hlt⟩
    have ea := recsB_get l i x hx
    have hxz := hz x (List.mem_of_getElem? hx)
    obtain ⟨Q, hQ⟩ : ∃ Q : Int, IntKind.i64.wrap (N + (i : Int)) = Q ∧ Q = N + (i : Int) := ⟨N + (i : Int), by rw [wrapI] <;> omega, rfl⟩
    have hw : IntKind.i64.wrap ((i : Int) + 1) = ((i + 1 : Nat) : Int) := by rw [wrapI] <;> omega
    obtain ⟨y, hy⟩ : ∃ y : Rec, y = ⟨Q, x.root, x.room, x.pages⟩ := ⟨_, rfl⟩
    have of := law_Of y (by rw [hy]; exact hxz.1) (fun p hp => by rw [hy] at hp; have := hxz.2 p hp; omega)
    have hyq : y.q = Q := by rw [hy]
    have hyv : y.av = .agg [.int .i64 Q, .int .i64 x.root, .int .i64 x.room, .sl (pagesB x.pages)] := by rw [hy]; rfl
    by_cases hok : y.ok
    rotate_left
    · have en := journal_Encode_bad y hok
      rw [hyv] at of en
      clear hy
      have FX := Fx.mk (And.intro @hag <| And.intro @h10 <| And.intro @ll <| And.intro @d1 <| And.intro @d2 <| And.intro @ea <| hQ.1)
      repeat (first | refine v_ ?_ | refine u_ ?_ | refine nl_ ?_ | (refine nz_ ?_; first | (show aWp _ _ _ _ _) | skip) | refine sq_ ?_ | refine rg_ ?_ | refine k_ ?_ | refine ct_ ?_ | refine cf_ ?_ | refine bk_ ?_ | refine sc_ ?_ | (refine sk_ ?_; first | (show aWp _ _ _ _ _) | skip) | (refine ex_ ?_; first | (show aWp _ _ _ _ _) | skip) | refine rt_ ?_)
      have FX := Fx.mk (And.intro @hag <| And.intro @hh <| And.intro @h10 <| And.intro @d9 <| And.intro @hw <| @Bool.not_false)
      repeat (first | refine v_ ?_ | refine u_ ?_ | refine f_ (of) fun kf hkf => ?_ | refine f_ (en) fun kf hkf => ?_ | refine f_ (n9) fun kf hkf => ?_ | refine nl_ ?_ | (refine nz_ ?_; first | (show aWp _ _ _ _ _) | skip) | refine sq_ ?_ | refine rg_ ?_ | refine k_ ?_ | refine ct_ ?_ | refine cf_ ?_ | refine bk_ ?_ | refine sc_ ?_ | (refine sk_ ?_; first | (show aWp _ _ _ _ _) | skip) | (refine ex_ ?_; first | (show aWp _ _ _ _ _) | skip) | refine rt_ ?_)
      refine ⟨8 - (i + 1), by omega, ⟨i + 1, W, by omega, by omega, rfl, hW, by omega, by (have FX := Fx0; exact cl_), by first | omega | (simp only; omega), ?_⟩, ?_, ?_, by first | omega | (simp only; omega), rfl⟩
      · exact stS_of (by (have FX := Fx0; exact cl_)) (by (have FX := Fx0; exact cl_)) (by (have FX := Fx0; exact cl_)) (stS_mono (q' := _) hst (by first | omega | (simp only; omega)) (by have FX := Fx.mk (@hh); exact ha_))
      · repeat (refine KAgree.upd rfl ?_)
        first | exact KAgree.refl _ _ | exact hag
      · exact (by have FX := Fx.mk (@hh); exact ha_)
    have hle := enc_le y hok
    have en := (journal_Encode y hok).fn_tup
    rw [hyv] at of en
    have hBl := catR_le W N hW
    have hr := RunR.snoc hW hok
    have hcs := catR_snoc W y
    have hes := endsR_snoc W y
    rw [hcs] at hes
    have hrs := recsB_snoc W y
    rw [hyq, show y.root = x.root by rw [hy], show y.room = x.room by rw [hy], show y.pages = x.pages by rw [hy]] at hrs
    clear hy
    have rl := recsB_len W
    have el := endsR_len W
    have htk : (recsB W).take W.length = recsB W := List.take_of_length_le (by omega)
    obtain ⟨X, hX⟩ : ∃ X, y.enc = X := ⟨_, rfl⟩
    rw [hX] at hle en hcs hes
    have FX := Fx.mk (And.intro @hag <| And.intro @h10 <| And.intro @ll <| And.intro @d1 <| And.intro @d2 <| And.intro @ea <| And.intro hQ.1 <| And.intro @d0 <| And.intro @Bool.not_true <| @decide_true)
    repeat (first | refine v_ ?_ | refine u_ ?_ | refine f_ (of) fun kf hkf => ?_ | refine f_ (en) fun kf hkf => ?_ | refine f_ (n0) fun kf hkf => ?_ | refine nl_ ?_ | (refine nz_ ?_; first | (show aWp _ _ _ _ _) | skip) | refine sq_ ?_ | refine rg_ ?_ | refine k_ ?_ | refine ct_ ?_ | refine cf_ ?_ | refine bk_ ?_ | refine sc_ ?_ | (refine sk_ ?_; first | (show aWp _ _ _ _ _) | skip) | (refine ex_ ?_; first | (show aWp _ _ _ _ _) | skip) | refine rt_ ?_)
    rcases hst with ⟨rfl, h7, h8, h9⟩ | ⟨a, b, c, ab, ac, bc, ⟨h7, a1, a2, a3⟩, ⟨h8, b1, b2, b3⟩, ⟨h9, c1, c2, c3⟩⟩
    · by_cases hi0 : i = 0
      · subst hi0
        have d3 : decide ((0 : Int) = ((0 : Nat) : Int)) = true := rfl
        have FX := Fx.mk (And.intro @hag <| And.intro @h7 <| And.intro @h8 <| And.intro @h9 <| And.intro @h10 <| And.intro @d3 <| And.intro @hw <| And.intro @Bool.not_true <| @decide_true)
        repeat (first | refine v_ ?_ | refine u_ ?_ | refine nl_ ?_ | (refine nz_ ?_; first | (show aWp _ _ _ _ _) | skip) | refine sq_ ?_ | refine rg_ ?_ | refine k_ ?_ | refine ct_ ?_ | refine cf_ ?_ | refine bk_ ?_ | refine sc_ ?_ | (refine sk_ ?_; first | (show aWp _ _ _ _ _) | skip) | (refine ex_ ?_; first | (show aWp _ _ _ _ _) | skip) | refine rt_ ?_)
        have g1 : catR [y] = X := by rw [show [y] = [] ++ [y] from rfl, hcs]; rfl
        have g2 : endsR [y] = [(X.length : Int)] := by rw [show [y] = [] ++ [y] from rfl, hes]; rfl
        have g3 : recsB [y] = [[AV.int IntKind.i64 Q, AV.int IntKind.i64 x.root, AV.int IntKind.i64 x.room, AV.sl (pagesB x.pages)]] := hrs
        refine ⟨8 - (0 + 1), by omega, ⟨0 + 1, [] ++ [y], by omega, by omega, rfl, hr (by rw [hyq, hQ.2]; rfl), by simp, by (have FX := Fx0; exact cl_), by first | omega | (simp only; omega), .inr ⟨kf, kf + 1 + 1, kf + 1 + 1 + 1 + 1, by omega, by omega, by omega, ⟨by (have FX := Fx.mk (@g1); exact cl_), by omega, by first | omega | (simp only; omega), by (have FX := Fx.mk (@g1); exact cl_)⟩, ⟨by (have FX := Fx.mk (@g2); exact cl_), by omega, by first | omega | (simp only; omega), by (have FX := Fx.mk (@g2); exact cl_)⟩, ⟨by (have FX := Fx.mk (@g3); exact cl_), by omega, by first | omega | (simp only; omega), by (have FX := Fx.mk (@g3); exact cl_)⟩⟩⟩, ?_, ?_, by first | omega | (simp only; omega), rfl⟩
        · repeat (refine KAgree.upd rfl ?_)
          first | exact KAgree.refl _ _ | exact hag
        · exact (by have FX := Fx.mk (@hh); exact ha_)
      · have d3 : decide ((0 : Int) = (i : Int)) = false := decide_eq_false (by omega)
        have FX := Fx.mk (And.intro @hag <| And.intro @h7 <| And.intro @h8 <| And.intro @h9 <| And.intro @h10 <| And.intro @d3 <| @Bool.not_false)
        repeat (first | refine v_ ?_ | refine u_ ?_ | refine nl_ ?_ | (refine nz_ ?_; first | (show aWp _ _ _ _ _) | skip) | refine sq_ ?_ | refine rg_ ?_ | refine k_ ?_ | refine ct_ ?_ | refine cf_ ?_ | refine bk_ ?_ | refine sc_ ?_ | (refine sk_ ?_; first | (show aWp _ _ _ _ _) | skip) | (refine ex_ ?_; first | (show aWp _ _ _ _ _) | skip) | refine rt_ ?_)
        exact ⟨rfl, rfl, by first | omega | (simp only; omega), (by have FX := Fx.mk (@hh); exact ha_), by (have FX := Fx.mk (@hag); exact cl_), by (have FX := Fx.mk (@hag); exact cl_), [], hW, by omega, .inl ⟨rfl, by (have FX := Fx.mk (@h7); exact cl_), by (have FX := Fx.mk (@h8); exact cl_), by (have FX := Fx.mk (@h9); exact cl_)⟩⟩
    · by_cases hi0 : W.length = i
      · subst hi0
        have d3 : decide ((W.length : Int) = (W.length : Int)) = true := decide_eq_true rfl
        have FX := Fx.mk (And.intro @hag <| And.intro @h7 <| And.intro @h8 <| And.intro @h9 <| And.intro @h10 <| And.intro @rl <| And.intro @htk <| And.intro @d3 <| And.intro @hw <| And.intro @hh <| And.intro @a3 <| And.intro @b3 <| And.intro @c3 <| And.intro @Bool.not_true <| @decide_true)
        repeat (first | refine v_ ?_ | refine u_ ?_ | refine nl_ ?_ | (refine nz_ ?_; first | (show aWp _ _ _ _ _) | skip) | refine sq_ ?_ | refine rg_ ?_ | refine k_ ?_ | refine ct_ ?_ | refine cf_ ?_ | refine bk_ ?_ | refine sc_ ?_ | (refine sk_ ?_; first | (show aWp _ _ _ _ _) | skip) | (refine ex_ ?_; first | (show aWp _ _ _ _ _) | skip) | refine rt_ ?_)
        refine ⟨8 - (W.length + 1), by omega, ⟨W.length + 1, W ++ [y], by omega, by omega, rfl, hr (by rw [hyq, hQ.2]), by simp, by (have FX := Fx0; exact cl_), by first | omega | (simp only; omega), .inr ⟨kf, kf + 1 + 1, kf + 1 + 1 + 1 + 1, by omega, by omega, by omega, ⟨by (have FX := Fx.mk (@hcs); exact cl_), by omega, by first | omega | (simp only; omega), by (have FX := Fx.mk (@hcs); exact cl_)⟩, ⟨by (have FX := Fx.mk (@hes); exact cl_), by omega, by first | omega | (simp only; omega), by (have FX := Fx.mk (@hes); exact cl_)⟩, ⟨by (have FX := Fx.mk (And.intro @hrs <| @rl); exact cl_), by omega, by first | omega | (simp only; omega), by (have FX := Fx.mk (@hrs); exact cl_)⟩⟩⟩, ?_, ?_, by first | omega | (simp only; omega), rfl⟩
        · repeat (refine KAgree.upd rfl ?_)
          first | exact KAgree.refl _ _ | exact hag
        · exact (by have FX := Fx.mk (@hh); exact ha_)
      · have d3 : decide ((W.length : Int) = (i : Int)) = false := decide_eq_false (by omega)
        have FX := Fx.mk (And.intro @hag <| And.intro @h7 <| And.intro @h8 <| And.intro @h9 <| And.intro @h10 <| And.intro @rl <| And.intro @d3 <| @Bool.not_false)
        repeat (first | refine v_ ?_ | refine u_ ?_ | refine nl_ ?_ | (refine nz_ ?_; first | (show aWp _ _ _ _ _) | skip) | refine sq_ ?_ | refine rg_ ?_ | refine k_ ?_ | refine ct_ ?_ | refine cf_ ?_ | refine bk_ ?_ | refine sc_ ?_ | (refine sk_ ?_; first | (show aWp _ _ _ _ _) | skip) | (refine ex_ ?_; first | (show aWp _ _ _ _ _) | skip) | refine rt_ ?_)
        exact ⟨rfl, rfl, by first | omega | (simp only; omega), (by have FX := Fx.mk (@hh); exact ha_), by (have FX := Fx.mk (@hag); exact cl_), by (have FX := Fx.mk (@hag); exact cl_), W, hW, by omega, .inr ⟨a, b, c, ab, ac, bc, ⟨by (have FX := Fx.mk (@h7); exact cl_), a1, by first | omega | (simp only; omega), by (have FX := Fx.mk (@a3); exact cl_)⟩, ⟨by (have FX := Fx.mk (@h8); exact cl_), b1, by first | omega | (simp only; omega), by (have FX := Fx.mk (@b3); exact cl_)⟩, ⟨by (have FX := Fx.mk (@h9); exact cl_), c1, by first | omega | (simp only; omega), by (have FX := Fx.mk (@c3); exact cl_)⟩⟩⟩
  · rintro e ⟨tm', h', k', df'⟩ ⟨rfl, hdf, hk', hh, g1, g2, W, hW, hW8, hst⟩
    simp only at hdf hk' hh g1 g2 hst
    subst hdf
    show aWp _ _ _ _ _
    refine stS_rows hst fun tm2 h2 hag t7 t8 t9 hh2 => ?_
    have a1 : tm2 1 = .int .i64 N := (hag 1 (by decide) (by decide) (by decide)).trans g1
    have a2 : tm2 2 = .int .i64 at_ := (hag 2 (by decide) (by decide) (by decide)).trans g2
    clear g1 g2 hst hag
    have hh3 : ∀ m, m < nx → h2 m = h m := fun m hm => (hh2 m hm).trans (hh m hm)
    clear hh2 hh
    have rl := recsB_len W
    have el := endsR_len W
    have hwl := whole_le W
    have hwi := whole_iff W
    have heg := endsR_get W
    have hcut := fun m => scan_cut W N m hW
    have hall := scan_all W N hW
    have hBl := catR_le W N hW
    have hsc0 := fun m => journal_Scan ((catR W).take m) N (by simp; omega)
    have hsc := journal_Scan (catR W) N (by omega)
    unfold scanV at hsc hsc0
    rw [hall] at hsc
    simp only [hcut] at hsc0
    have hal := law_all W
    obtain ⟨B, hB⟩ : ∃ B, catR W = B := ⟨_, rfl⟩
    rw [hB] at t7 hBl hsc
    simp only [hB] at hsc0
    obtain ⟨D, hD⟩ : ∃ D : Nat, D = B.length / 64 := ⟨_, rfl⟩
    have e0 : (B.length : Int).tdiv 64 = (D : Int) := by rw [Int.tdiv_eq_ediv_of_nonneg (by omega)]; omega
    have e1 : IntKind.i64.wrap (D : Int) = (D : Int) := by rw [wrapI] <;> omega
    have e2 : IntKind.i64.wrap ((D : Int) + 1) = (D : Int) + 1 := by rw [wrapI] <;> omega
    have hb1 := Int.lt_tmod_of_pos at_ (show (0 : Int) < (D : Int) + 1 by omega)
    have hb2 := Int.tmod_lt_of_pos at_ (show (0 : Int) < (D : Int) + 1 by omega)
    obtain ⟨R, hR⟩ : ∃ R, at_.tmod ((D : Int) + 1) = R := ⟨_, rfl⟩
    rw [hR] at hb1 hb2
    have e3 : IntKind.i64.wrap R = R := by rw [wrapI] <;> omega
    have e4 : IntKind.i64.wrap (R + (D : Int)) = R + (D : Int) := by rw [wrapI] <;> omega
    have e5 : IntKind.i64.wrap (R + (D : Int) + 1) = R + (D : Int) + 1 := by rw [wrapI] <;> omega
    have hb3 := Int.emod_nonneg (R + (D : Int) + 1) (show (D : Int) + 1 ≠ 0 by omega)
    have hb4 := Int.emod_lt_of_pos (R + (D : Int) + 1) (show (0 : Int) < (D : Int) + 1 by omega)
    obtain ⟨J, hJ, hJD⟩ : ∃ J : Nat, (R + (D : Int) + 1).tmod ((D : Int) + 1) = (J : Int) ∧ J ≤ D := ⟨((R + (D : Int) + 1) % ((D : Int) + 1)).toNat, by rw [Int.tmod_eq_emod_of_nonneg (by omega)]; omega, by omega⟩
    have e6 : IntKind.i64.wrap (J : Int) = (J : Int) := by rw [wrapI] <;> omega
    obtain ⟨M, hM⟩ : ∃ M : Nat, M = 64 * J := ⟨_, rfl⟩
    have e7 : IntKind.i64.wrap (64 * (J : Int)) = (M : Int) := by rw [wrapI] <;> omega
    have hMB : (M : Int) ≤ (B.length : Int) := by omega
    have dD : decide ((D : Int) + 1 = 0) = false := decide_eq_false (by omega)
    have FX := Fx.mk (And.intro @a1 <| And.intro @a2 <| And.intro @t7 <| And.intro @t8 <| And.intro @t9 <| And.intro @dD <| And.intro @e0 <| And.intro @e1 <| And.intro @e2 <| And.intro @hR <| And.intro @e3 <| And.intro @e4 <| And.intro @e5 <| And.intro @hJ <| And.intro @e6 <| And.intro @e7 <| And.intro @decide_true <| @Bool.not_true)
    repeat (first | refine v_ ?_ | refine u_ ?_ | refine f_ (hsc) fun kf hkf => ?_ | refine f_ (hal) fun kf hkf => ?_ | refine nl_ ?_ | (refine nz_ ?_; first | (show aWp _ _ _ _ _) | skip) | refine sq_ ?_ | refine rg_ ?_ | refine k_ ?_ | refine ct_ ?_ | refine cf_ ?_ | refine bk_ ?_ | refine sc_ ?_ | (refine sk_ ?_; first | (show aWp _ _ _ _ _) | skip) | (refine ex_ ?_; first | (show aWp _ _ _ _ _) | skip) | refine rt_ ?_)
    obtain ⟨k1, rfl⟩ : ∃ q, q = kf := ⟨kf, rfl⟩
    have hk1 := hkf
    obtain ⟨K, hK⟩ : ∃ K, whole W M = K := ⟨_, rfl⟩
    have hKl : K ≤ W.length := by rw [← hK]; exact hwl M
    have tk := recsB_take W K
    have rz := recsB_sz W
    have hsc2 := hsc0 M
    rw [hK] at hsc2
    have hal2 := law_all (W.take K)
    obtain ⟨E, hE⟩ : ∃ E, (catR (W.take K)).length = E := ⟨_, rfl⟩
    rw [hE] at hsc2
    refine aWp_mono (Q := fun e s => e = .ex 2 ∧ s.df = [] ∧ k' ≤ s.nx ∧ (∀ m, m < nx → s.h m = h m) ∧ s.tm 1 = .int .i64 N ∧ s.tm 2 = .int .i64 (M : Int) ∧ s.tm 7 = .sl (numB .u8 B) ∧ s.tm 8 = .sl (numB .i64 (endsR W)) ∧ s.tm 9 = .sl (recsB W) ∧ s.tm 16 = .int .i64 (K : Int)) ?_ ?_
    · refine W_loopK [1, 2, 7, 8, 9] k' (fun n tm h q => ∃ k : Nat, k ≤ K ∧ n = W.length - k ∧ tm 16 = .int .i64 (k : Int)) W.length (by omega) ⟨0, by omega, by omega, by (have FX := Fx0; exact cl_)⟩ ?_
      rintro n tm3 h3 k3 ⟨k, hkK, rfl, h16⟩ hag hh4 hk3
      have d1 : decide ((k : Int) < (W.length : Int)) = decide (k < W.length) := decide_eq_decide.2 (by omega)
      have x1 : tm3 1 = .int .i64 N := (hag 1 (by decide)).trans (by (have FX := Fx.mk (@a1); exact cl_))
      have x2 : tm3 2 = .int .i64 (M : Int) := (hag 2 (by decide)).trans (by (have FX := Fx.mk (@a2); exact cl_))
      have x7 : tm3 7 = .sl (numB .u8 B) := (hag 7 (by decide)).trans (by (have FX := Fx.mk (@t7); exact cl_))
      have x8 : tm3 8 = .sl (numB .i64 (endsR W)) := (hag 8 (by decide)).trans (by (have FX := Fx.mk (@t8); exact cl_))
      have x9 : tm3 9 = .sl (recsB W) := (hag 9 (by decide)).trans (by (have FX := Fx.mk (@t9); exact cl_))
      have xh : ∀ m, m < nx → h3 m = h m := fun m hm => (hh4 m (by omega)).trans (hh3 m hm)
      by_cases hlt : k < W.length
      rotate_left
      · rw [decide_eq_false hlt] at d1
        obtain rfl : k = K := by omega
        have FX := Fx.mk (And.intro @x8 <| And.intro @h16 <| And.intro @el <| @d1)
        repeat (first | refine v_ ?_ | refine u_ ?_ | refine nl_ ?_ | (refine nz_ ?_; first | (show aWp _ _ _ _ _) | skip) | refine sq_ ?_ | refine rg_ ?_ | refine k_ ?_ | refine ct_ ?_ | refine cf_ ?_ | refine bk_ ?_ | refine sc_ ?_ | (refine sk_ ?_; first | (show aWp _ _ _ _ _) | skip) | (refine ex_ ?_; first | (show aWp _ _ _ _ _) | skip) | refine rt_ ?_)
        exact ⟨rfl, rfl, by first | omega | (simp only; omega), xh, by (have FX := Fx.mk (@x1); exact cl_), by (have FX := Fx.mk (@x2); exact cl_), by (have FX := Fx.mk (@x7); exact cl_), by (have FX := Fx.mk (@x8); exact cl_), by (have FX := Fx.mk (@x9); exact cl_), by (have FX := Fx.mk (@h16); exact cl_)⟩
      rw [decide_eq_true hlt] at d1
      have hge := heg k hlt
      have hwk := hwi M k hlt
      rw [hK] at hwk
      have d2 : decide (((catR (W.take (k + 1))).length : Int) ≤ (M : Int)) = decide (k < K) := decide_eq_decide.2 (by rw [hwk]; omega)
      generalize ((catR (W.take (k + 1))).length : Int) = G at hge d2
      have hw : IntKind.i64.wrap ((k : Int) + 1) = ((k + 1 : Nat) : Int) := by rw [wrapI] <;> omega
      by_cases hc : k < K
      · rw [decide_eq_true hc] at d2
        have FX := Fx.mk (And.intro @x8 <| And.intro @x2 <| And.intro @h16 <| And.intro @el <| And.intro @d1 <| And.intro @hge <| And.intro @d2 <| @hw)
        repeat (first | refine v_ ?_ | refine u_ ?_ | refine nl_ ?_ | (refine nz_ ?_; first | (show aWp _ _ _ _ _) | skip) | refine sq_ ?_ | refine rg_ ?_ | refine k_ ?_ | refine ct_ ?_ | refine cf_ ?_ | refine bk_ ?_ | refine sc_ ?_ | (refine sk_ ?_; first | (show aWp _ _ _ _ _) | skip) | (refine ex_ ?_; first | (show aWp _ _ _ _ _) | skip) | refine rt_ ?_)
        refine ⟨W.length - (k + 1), by omega, ⟨k + 1, by omega, rfl, by (have FX := Fx0; exact cl_)⟩, ?_, ?_, by first | omega | (simp only; omega), rfl⟩
        · repeat (refine KAgree.upd rfl ?_)
          first | exact KAgree.refl _ _ | exact hag
        · exact fun m hm => hh4 m hm
      · rw [decide_eq_false hc] at d2
        obtain rfl : k = K := by omega
        have FX := Fx.mk (And.intro @x8 <| And.intro @x2 <| And.intro @h16 <| And.intro @el <| And.intro @d1 <| And.intro @hge <| And.intro @d2 <| @hw)
        repeat (first | refine v_ ?_ | refine u_ ?_ | refine nl_ ?_ | (refine nz_ ?_; first | (show aWp _ _ _ _ _) | skip) | refine sq_ ?_ | refine rg_ ?_ | refine k_ ?_ | refine ct_ ?_ | refine cf_ ?_ | refine bk_ ?_ | refine sc_ ?_ | (refine sk_ ?_; first | (show aWp _ _ _ _ _) | skip) | (refine ex_ ?_; first | (show aWp _ _ _ _ _) | skip) | refine rt_ ?_)
        exact ⟨rfl, rfl, by first | omega | (simp only; omega), xh, by (have FX := Fx.mk (@x1); exact cl_), by (have FX := Fx.mk (@x2); exact cl_), by (have FX := Fx.mk (@x7); exact cl_), by (have FX := Fx.mk (@x8); exact cl_), by (have FX := Fx.mk (@x9); exact cl_), by (have FX := Fx.mk (@h16); exact cl_)⟩
    · rintro e ⟨tm3, h3, k3, df3⟩ ⟨rfl, hdf, hk3, xh, x1, x2, x7, x8, x9, h16⟩
      simp only at hdf hk3 xh x1 x2 x7 x8 x9 h16
      subst hdf
      show aWp _ _ _ _ _
      have dE : decide ((E : Int) = (E : Int)) = true := decide_eq_true rfl
      have hKi : (K : Int) ≤ (W.length : Int) := by omega
      by_cases h0 : K = 0
      · subst h0
        have hE0 : E = 0 := by rw [← hE]; rfl
        subst hE0
        have d0' : decide (0 < ((0 : Nat) : Int)) = false := rfl
        have FX := Fx.mk (And.intro @x1 <| And.intro @x2 <| And.intro @x7 <| And.intro @x8 <| And.intro @x9 <| And.intro @h16 <| And.intro @d0' <| And.intro @hMB <| And.intro @hKi <| And.intro @rl <| And.intro @tk <| And.intro @rz <| @dE)
        repeat (first | refine v_ ?_ | refine u_ ?_ | refine f_ (hsc2) fun kf hkf => ?_ | refine f_ (hal2) fun kf hkf => ?_ | refine nl_ ?_ | (refine nz_ ?_; first | (show aWp _ _ _ _ _) | skip) | refine sq_ ?_ | refine rg_ ?_ | refine k_ ?_ | refine ct_ ?_ | refine cf_ ?_ | refine bk_ ?_ | refine sc_ ?_ | (refine sk_ ?_; first | (show aWp _ _ _ _ _) | skip) | (refine ex_ ?_; first | (show aWp _ _ _ _ _) | skip) | refine rt_ ?_)
        (have FX := Fx.mk (@xh); exact end_ Try.results5)
      · have d0' : decide (0 < (K : Int)) = true := decide_eq_true (by omega)
        have hw : IntKind.i64.wrap ((K : Int) - 1) = ((K - 1 : Nat) : Int) := by rw [wrapI] <;> omega
        have hge := heg (K - 1) (by omega)
        rw [show K - 1 + 1 = K by omega, hE] at hge
        have FX := Fx.mk (And.intro @x1 <| And.intro @x2 <| And.intro @x7 <| And.intro @x8 <| And.intro @x9 <| And.intro @h16 <| And.intro @d0' <| And.intro @hw <| And.intro @hge <| And.intro @el <| And.intro @hMB <| And.intro @hKi <| And.intro @rl <| And.intro @tk <| And.intro @rz <| @dE)
        repeat (first | refine v_ ?_ | refine u_ ?_ | refine f_ (hsc2) fun kf hkf => ?_ | refine f_ (hal2) fun kf hkf => ?_ | refine nl_ ?_ | (refine nz_ ?_; first | (show aWp _ _ _ _ _) | skip) | refine sq_ ?_ | refine rg_ ?_ | refine k_ ?_ | refine ct_ ?_ | refine cf_ ?_ | refine bk_ ?_ | refine sc_ ?_ | (refine sk_ ?_; first | (show aWp _ _ _ _ _) | skip) | (refine ex_ ?_; first | (show aWp _ _ _ _ _) | skip) | refine rt_ ?_)
        (have FX := Fx.mk (@xh); exact end_ Try.results5)
end Go.Proofs.Yteklnhogokjkkaa.AE
