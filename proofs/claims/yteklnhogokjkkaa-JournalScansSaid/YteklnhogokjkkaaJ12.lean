/- Layer 15's page: pages. -/
import Derived.Test.YteklnhogokjkkaaJ11
import Derived.Test.YteklnhogokjkkaaJ4
namespace Go.Proofs.Yteklnhogokjkkaa.AE
open Go Go.RowKit Go.Proofs Go.Proofs.Yteklnhogokjkkaa
set_option linter.unusedVariables false
set_option linter.unusedSimpArgs false
set_option maxRecDepth 100000
set_option maxHeartbeats 8000000
theorem weak1_one {a : AV} (h : a.one = true) : (weak1 a).one = true := by cases a <;> simp_all [weak1, AV.one]
/-- An empty row without room that lies in memory is an empty row. -/
theorem Sub.weakH {st : St} {m : Nat} {bm : Blk} (hm : st.h m = some bm) : Sub st ⟨st.tm, upd st.h m (some ⟨bm.sz, bm.es.map fun e => e.map weak1⟩), st.nx, st.df⟩ := ⟨Nat.le_refl _, fun B w0 nt σ act w hr => by
  have hsome : ∀ n, (upd st.h m (some ⟨bm.sz, bm.es.map fun e => e.map weak1⟩) n).isSome = (st.h n).isSome := fun n => by
    by_cases e : n = m
    · subst e; rw [upd_same, hm]; rfl
    · rw [upd_ne _ _ _ e]
  have hheld : Held σ (upd st.h m (some ⟨bm.sz, bm.es.map fun e => e.map weak1⟩)) = Held σ st.h := by
    funext q i
    apply propext
    constructor
    · rintro ⟨n, r, h1, h2⟩; exact ⟨n, r, by rw [← hsome]; exact h1, h2⟩
    · rintro ⟨n, r, h1, h2⟩; exact ⟨n, r, by rw [hsome]; exact h1, h2⟩
  have keep : ∀ a v, VR σ w (Held σ st.h) B a v → VR σ w (Held σ (upd st.h m (some ⟨bm.sz, bm.es.map fun e => e.map weak1⟩))) B a v := fun a v q => by rw [hheld]; exact q
  refine ⟨⟨⟨hr.sr.old, hr.sr.hB, fun n k hn => ?_, fun n n' r s q i h1 h2 => ?_⟩, fun t => keep _ _ (hr.tr t), hr.nt, hr.nx, hr.df.mono keep⟩, keep⟩
  · dsimp only at hn
    by_cases e : n = m
    · subst e
      rw [upd_same] at hn
      cases hn
      obtain ⟨r, q1, q2, q3, q4, q5, q6, q7⟩ := hr.sr.blk n bm hm
      refine ⟨r, q1, q2, q3, by simpa using q4, by simpa using q5, q6, fun i e he => ?_⟩
      rw [List.getElem?_map] at he
      obtain ⟨e0, h0, rfl⟩ := Option.map_eq_some_iff.1 he
      obtain ⟨g1, g2⟩ := q7 i e0 h0
      refine ⟨by simpa using g1, fun j a ha => ?_⟩
      rw [List.getElem?_map] at ha
      obtain ⟨a0, ha0, rfl⟩ := Option.map_eq_some_iff.1 ha
      obtain ⟨g3, v, g4, g5, g6⟩ := g2 j a0 ha0
      exact ⟨weak1_one g3, v, g4, g5, by rw [hheld]; exact g6.weak1⟩
    · rw [upd_ne _ _ _ e] at hn
      obtain ⟨r, q1, q2, q3, q4, q5, q6, q7⟩ := hr.sr.blk n k hn
      refine ⟨r, q1, q2, q3, q4, q5, q6, fun i e he => ⟨(q7 i e he).1, fun j a ha => ?_⟩⟩
      obtain ⟨g3, v, g4, g5, g6⟩ := (q7 i e he).2 j a ha
      exact ⟨g3, v, g4, g5, by rw [hheld]; exact g6⟩
  · dsimp only at h1 h2
    rw [hsome] at h1 h2
    exact hr.sr.dis n n' r s q i h1 h2⟩

theorem Copied_fn (l : List Int) (hc : l.length ≤ 140737488355328) : aFun Try.prog 44 [.sl (numB .u8 l)] (.sl (numB .u8 l)) := by
  refine aFun_body Try.func44 rfl rfl (by simp [Try.ntmps44]) fun hreal h nx hfresh => ?_
  rw [Try.ntmps44]
  have FX := Fx0
  repeat (first | refine v_ ?_ | refine u_ ?_ | refine nl_ ?_ | (refine nz_ ?_; first | (show aWp _ _ _ _ _) | skip) | refine sq_ ?_ | refine rg_ ?_ | refine k_ ?_ | refine ct_ ?_ | refine cf_ ?_ | refine bk_ ?_ | refine sc_ ?_ | (refine sk_ ?_; first | (show aWp _ _ _ _ _) | skip) | (refine ex_ ?_; first | (show aWp _ _ _ _ _) | skip) | refine rt_ ?_)
  (have FX := Fx0; exact end_ Try.results44)
def pagesV (b : List Int) (n : Nat) : AV := match runP b n with
  | .error e => .tup [.sl [], .int .i64 0, .int .i64 e]
  | .ok (l, a) => .tup [.sl (pagesB l), .int .i64 (a : Int), .int .i64 0]
theorem ref15_pages (b : List Int) (n : Nat) (hn : n ≤ 256) (hb : 22 ≤ b.length) : aFun Try.prog 38 [.sl (numB .u8 b), .int .i64 (n : Int)] (pagesV b n) := by
  refine aFun_body Try.func38 rfl rfl (by simp [Try.ntmps38]) fun hreal h nx hfresh => ?_
  rw [Try.ntmps38]
  have hBY := (hreal (.sl (numB .u8 b)) (by simp)).BY
  have hl : b.length < 4611686018427387904 := by
    have := (hreal (.sl (numB .u8 b)) (by simp)).sl.1
    rwa [numB_len] at this
  have FX := Fx0
  repeat (first | refine v_ ?_ | refine u_ ?_ | refine nl_ ?_ | (refine nz_ ?_; first | (show aWp _ _ _ _ _) | skip) | refine sq_ ?_ | refine rg_ ?_ | refine k_ ?_ | refine ct_ ?_ | refine cf_ ?_ | refine bk_ ?_ | refine sc_ ?_ | (refine sk_ ?_; first | (show aWp _ _ _ _ _) | skip) | (refine ex_ ?_; first | (show aWp _ _ _ _ _) | skip) | refine rt_ ?_)
  refine W_loopK [0, 1] nx (fun k tm h q => ∃ (i : Nat) (l : List Pg) (a : Nat), i ≤ n ∧ k = n - i ∧ tm 9 = .int .i64 i ∧ tm 8 = .int .i64 (a : Int) ∧ runP b i = .ok (l, a) ∧ ((tm 7 = .zs ∧ l = []) ∨ ∃ m, tm 7 = .hs m 0 l.length ∧ nx ≤ m ∧ m < q ∧ h m = some ⟨2, pagesB l⟩)) n (by omega) ⟨0, [], 22, by omega, rfl, by (have FX := Fx0; exact cl_), by (have FX := Fx0; exact cl_), rfl, .inl ⟨by (have FX := Fx0; exact cl_), rfl⟩⟩ ?_
  rintro k tm' h' k' ⟨i, l, a, hi, rfl, h9, h8, hrun, h7⟩ hag hh hk'
  obtain ⟨rl1, rl2, rl3⟩ := runP_len (by omega) hrun
  by_cases hlt : i < n
  · have hd : decide ((i : Int) < (n : Int)) = true := decide_eq_true (by omega)
    have hw : IntKind.i64.wrap (i + 1) = ((i + 1 : Nat) : Int) := by rw [wrapI] <;> omega
    have w1 : IntKind.i64.wrap ((b.length : Int) - a) = ((b.length - a : Nat) : Int) := by rw [wrapI] <;> omega
    by_cases c1 : b.length < a + 3
    · have hv : pagesV b n = .tup [.sl [], .int .i64 0, .int .i64 8] := by unfold pagesV; rw [runP_bad hrun (show pageD b a = .error 8 from by unfold pageD; rw [if_pos c1]) hlt]
      rw [hv]
      have e1 : decide (((b.length - a : Nat) : Int) < 3) = true := decide_eq_true (by omega)
      have FX := Fx.mk (And.intro @hag <| And.intro @h9 <| And.intro @h8 <| And.intro @hd <| And.intro @w1 <| @e1)
      repeat (first | refine v_ ?_ | refine u_ ?_ | refine nl_ ?_ | (refine nz_ ?_; first | (show aWp _ _ _ _ _) | skip) | refine sq_ ?_ | refine rg_ ?_ | refine k_ ?_ | refine ct_ ?_ | refine cf_ ?_ | refine bk_ ?_ | refine sc_ ?_ | (refine sk_ ?_; first | (show aWp _ _ _ _ _) | skip) | (refine ex_ ?_; first | (show aWp _ _ _ _ _) | skip) | refine rt_ ?_)
      (have FX := Fx.mk (@hh); exact end_ Try.results38)
    have e1 : decide (((b.length - a : Nat) : Int) < 3) = false := decide_eq_false (by omega)
    have q2 := numJ_lt b a 2
    have hv2 : min (numJ b a 2) 4611686018427387904 = numJ b a 2 := Int.min_eq_left (by have : (256 : Int) ^ 2 = 65536 := rfl; omega)
    have gt := ref15_get b (a : Int) 2 a 2 rfl rfl (by decide) (by omega) hv2
    obtain ⟨c, hc⟩ : ∃ c, b[a + 2]? = some c := ⟨_, List.getElem?_eq_getElem (by omega)⟩
    have hcn := numB_get .u8 b (a + 2) c hc
    have hcr : numJ b (a + 2) 1 = c := by
      unfold numJ
      rw [Pl.leI_one b (a + 2) (by omega) hBY]
      exact getD_some hc
    have w2 : IntKind.i64.wrap ((a : Int) + 2) = ((a + 2 : Nat) : Int) := by rw [wrapI] <;> omega
    have w3 : IntKind.i64.wrap ((a : Int) + 3) = ((a + 3 : Nat) : Int) := by rw [wrapI] <;> omega
    have FX := Fx.mk (And.intro @hag <| And.intro @h9 <| And.intro @h8 <| And.intro @hd <| And.intro @w1 <| @e1)
    repeat (first | refine v_ ?_ | refine u_ ?_ | refine f_ (gt) fun kf hkf => ?_ | refine nl_ ?_ | (refine nz_ ?_; first | (show aWp _ _ _ _ _) | skip) | refine sq_ ?_ | refine rg_ ?_ | refine k_ ?_ | refine ct_ ?_ | refine cf_ ?_ | refine bk_ ?_ | refine sc_ ?_ | (refine sk_ ?_; first | (show aWp _ _ _ _ _) | skip) | (refine ex_ ?_; first | (show aWp _ _ _ _ _) | skip) | refine rt_ ?_)
    refine aOps_sub (Sub.weakH (m := kf) (bm := ⟨2, [[.int .i64 (numJ b a 2), .zs]]⟩) (by (have FX := Fx0; exact cl_))) ?_
    dsimp only
    rw [show ([[AV.int .i64 (numJ b a 2), .zs]] : List (List AV)).map (fun e : List AV => e.map weak1) = [[AV.int .i64 (numJ b a 2), .sl []]] from rfl]
    by_cases c2 : 1 < c
    · have hv : pagesV b n = .tup [.sl [], .int .i64 0, .int .i64 21] := by unfold pagesV; rw [runP_bad hrun (show pageD b a = .error 21 from by unfold pageD; rw [if_neg c1, hcr, if_pos c2]) hlt]
      rw [hv]
      have e2 : decide ((1 : Int) < c) = true := decide_eq_true c2
      have FX := Fx.mk (And.intro @hag <| And.intro @h9 <| And.intro @h8 <| And.intro @w2 <| And.intro @w3 <| And.intro @hcn <| @e2)
      repeat (first | refine v_ ?_ | refine u_ ?_ | refine nl_ ?_ | (refine nz_ ?_; first | (show aWp _ _ _ _ _) | skip) | refine sq_ ?_ | refine rg_ ?_ | refine k_ ?_ | refine ct_ ?_ | refine cf_ ?_ | refine bk_ ?_ | refine sc_ ?_ | (refine sk_ ?_; first | (show aWp _ _ _ _ _) | skip) | (refine ex_ ?_; first | (show aWp _ _ _ _ _) | skip) | refine rt_ ?_)
      (have FX := Fx.mk (@hh); exact end_ Try.results38)
    have e2 : decide ((1 : Int) < c) = false := decide_eq_false c2
    have c0 := hBY c (List.mem_of_getElem? hc)
    have plen := pagesB_len l
    have ptk : (pagesB l).take l.length = pagesB l := List.take_of_length_le (by omega)
    by_cases c3 : c = 1
    · have e3 : decide (c = 1) = true := decide_eq_true c3
      subst c3
      have w4 : IntKind.i64.wrap ((b.length : Int) - ((a + 3 : Nat) : Int)) = ((b.length - (a + 3) : Nat) : Int) := by rw [wrapI] <;> omega
      have w5 : IntKind.i64.wrap (((a + 3 : Nat) : Int) + 64) = ((a + 3 + 64 : Nat) : Int) := by rw [wrapI] <;> omega
      by_cases c4 : b.length < a + 3 + 64
      · have hv : pagesV b n = .tup [.sl [], .int .i64 0, .int .i64 8] := by unfold pagesV; rw [runP_bad hrun (show pageD b a = .error 8 from by unfold pageD; rw [if_neg c1, hcr, if_neg (by omega), if_pos (by simpa using c4)]) hlt]
        rw [hv]
        have e4 : decide (((b.length - (a + 3) : Nat) : Int) < 64) = true := decide_eq_true (by omega)
        have FX := Fx.mk (And.intro @hag <| And.intro @h9 <| And.intro @h8 <| And.intro @w2 <| And.intro @w3 <| And.intro @w4 <| And.intro @hcn <| And.intro @e2 <| And.intro @e3 <| @e4)
        repeat (first | refine v_ ?_ | refine u_ ?_ | refine nl_ ?_ | (refine nz_ ?_; first | (show aWp _ _ _ _ _) | skip) | refine sq_ ?_ | refine rg_ ?_ | refine k_ ?_ | refine ct_ ?_ | refine cf_ ?_ | refine bk_ ?_ | refine sc_ ?_ | (refine sk_ ?_; first | (show aWp _ _ _ _ _) | skip) | (refine ex_ ?_; first | (show aWp _ _ _ _ _) | skip) | refine rt_ ?_)
        (have FX := Fx.mk (@hh); exact end_ Try.results38)
      have e4 : decide (((b.length - (a + 3) : Nat) : Int) < 64) = false := decide_eq_false (by omega)
      have hpd : pageD b a = .ok ((numJ b a 2, (b.drop (a + 3)).take 64), a + 3 + 64) := by
        unfold pageD
        rw [if_neg c1, hcr, if_neg (by omega), if_neg (by simpa using c4)]
        rfl
      have hrun2 := runP_step hrun hpd
      have cl := Copied_fn ((b.take (a + 3 + 64)).drop (a + 3)) (by simp; omega)
      have hcl : (b.take (a + 3 + 64)).drop (a + 3) = (b.drop (a + 3)).take 64 := by rw [List.drop_take]; congr 1; omega
      rw [hcl] at cl
      have l1 : ((a + 3 : Nat) : Int) ≤ ((a + 3 + 64 : Nat) : Int) := by omega
      have l2 : ((a + 3 + 64 : Nat) : Int) ≤ (b.length : Int) := by omega
      have pap : pagesB (l ++ [(numJ b a 2, (b.drop (a + 3)).take 64)]) = pagesB l ++ [[.int .i64 (numJ b a 2), .sl (numB .u8 ((b.drop (a + 3)).take 64))]] := by simp [pagesB, pageB]
      have pap0 : pagesB ([] ++ [(numJ b a 2, (b.drop (a + 3)).take 64)]) = [[.int .i64 (numJ b a 2), .sl (numB .u8 ((b.drop (a + 3)).take 64))]] := rfl
      have pla : (l ++ [(numJ b a 2, (b.drop (a + 3)).take 64)]).length = l.length + 1 := by simp
      generalize (b.drop (a + 3)).take 64 = D at hpd hrun2 cl hcl pap pap0 pla
      rcases h7 with ⟨h7, rfl⟩ | ⟨m, h7, hm1, hm2, hm3⟩
      · have FX := Fx.mk (And.intro @hag <| And.intro @h9 <| And.intro @h8 <| And.intro @h7 <| And.intro @hw <| And.intro @w2 <| And.intro @w3 <| And.intro @w4 <| And.intro @w5 <| And.intro @hcn <| And.intro @e2 <| And.intro @e3 <| And.intro @e4 <| And.intro @l1 <| And.intro @l2 <| @hcl)
        repeat (first | refine v_ ?_ | refine u_ ?_ | refine f_ (cl) fun kf hkf => ?_ | refine nl_ ?_ | (refine nz_ ?_; first | (show aWp _ _ _ _ _) | skip) | refine sq_ ?_ | refine rg_ ?_ | refine k_ ?_ | refine ct_ ?_ | refine cf_ ?_ | refine bk_ ?_ | refine sc_ ?_ | (refine sk_ ?_; first | (show aWp _ _ _ _ _) | skip) | (refine ex_ ?_; first | (show aWp _ _ _ _ _) | skip) | refine rt_ ?_)
        refine ⟨n - (i + 1), by omega, ⟨i + 1, _, a + 3 + 64, by omega, rfl, by (have FX := Fx0; exact cl_), by (have FX := Fx0; exact cl_), hrun2, .inr ⟨kf + 1, by (have FX := Fx0; exact cl_), by omega, by first | omega | (simp only; omega), by (have FX := Fx.mk (@pap0); exact cl_)⟩⟩, ?_, ?_, by first | omega | (simp only; omega), rfl⟩
        · repeat (refine KAgree.upd rfl ?_)
          first | exact KAgree.refl _ _ | exact hag
        · exact (by have FX := Fx.mk (@hh); exact ha_)
      · have FX := Fx.mk (And.intro @hag <| And.intro @h9 <| And.intro @h8 <| And.intro @h7 <| And.intro @hw <| And.intro @hm3 <| And.intro @w2 <| And.intro @w3 <| And.intro @w4 <| And.intro @w5 <| And.intro @hcn <| And.intro @e2 <| And.intro @e3 <| And.intro @e4 <| And.intro @l1 <| And.intro @l2 <| And.intro @hcl <| And.intro @plen <| @ptk)
        repeat (first | refine v_ ?_ | refine u_ ?_ | refine f_ (cl) fun kf hkf => ?_ | refine nl_ ?_ | (refine nz_ ?_; first | (show aWp _ _ _ _ _) | skip) | refine sq_ ?_ | refine rg_ ?_ | refine k_ ?_ | refine ct_ ?_ | refine cf_ ?_ | refine bk_ ?_ | refine sc_ ?_ | (refine sk_ ?_; first | (show aWp _ _ _ _ _) | skip) | (refine ex_ ?_; first | (show aWp _ _ _ _ _) | skip) | refine rt_ ?_)
        refine ⟨n - (i + 1), by omega, ⟨i + 1, _, a + 3 + 64, by omega, rfl, by (have FX := Fx0; exact cl_), by (have FX := Fx0; exact cl_), hrun2, .inr ⟨kf + 1, by (have FX := Fx.mk (@pla); exact cl_), by omega, by first | omega | (simp only; omega), by (have FX := Fx.mk (@pap); exact cl_)⟩⟩, ?_, ?_, by first | omega | (simp only; omega), rfl⟩
        · repeat (refine KAgree.upd rfl ?_)
          first | exact KAgree.refl _ _ | exact hag
        · exact (by have FX := Fx.mk (@hh); exact ha_)
    · have e3 : decide (c = 1) = false := decide_eq_false c3
      obtain rfl : c = 0 := by omega
      have hpd : pageD b a = .ok ((numJ b a 2, []), a + 3) := by
        unfold pageD
        rw [if_neg c1, hcr, if_neg (by omega), if_neg (by simpa using c1)]
        rfl
      have hrun2 := runP_step hrun hpd
      have pap : pagesB (l ++ [(numJ b a 2, [])]) = pagesB l ++ [[.int .i64 (numJ b a 2), .sl []]] := by simp [pagesB, pageB, numB]
      have pap0 : pagesB ([] ++ [(numJ b a 2, [])]) = [[.int .i64 (numJ b a 2), .sl []]] := rfl
      have pla : (l ++ [((numJ b a 2, []) : Pg)]).length = l.length + 1 := by simp
      rcases h7 with ⟨h7, rfl⟩ | ⟨m, h7, hm1, hm2, hm3⟩
      · have FX := Fx.mk (And.intro @hag <| And.intro @h9 <| And.intro @h8 <| And.intro @h7 <| And.intro @hw <| And.intro @w2 <| And.intro @w3 <| And.intro @hcn <| And.intro @e2 <| @e3)
        repeat (first | refine v_ ?_ | refine u_ ?_ | refine nl_ ?_ | (refine nz_ ?_; first | (show aWp _ _ _ _ _) | skip) | refine sq_ ?_ | refine rg_ ?_ | refine k_ ?_ | refine ct_ ?_ | refine cf_ ?_ | refine bk_ ?_ | refine sc_ ?_ | (refine sk_ ?_; first | (show aWp _ _ _ _ _) | skip) | (refine ex_ ?_; first | (show aWp _ _ _ _ _) | skip) | refine rt_ ?_)
        refine ⟨n - (i + 1), by omega, ⟨i + 1, _, a + 3, by omega, rfl, by (have FX := Fx0; exact cl_), by (have FX := Fx0; exact cl_), hrun2, .inr ⟨kf + 1 + 1, by (have FX := Fx0; exact cl_), by omega, by first | omega | (simp only; omega), by (have FX := Fx.mk (@pap0); exact cl_)⟩⟩, ?_, ?_, by first | omega | (simp only; omega), rfl⟩
        · repeat (refine KAgree.upd rfl ?_)
          first | exact KAgree.refl _ _ | exact hag
        · exact (by have FX := Fx.mk (@hh); exact ha_)
      · have FX := Fx.mk (And.intro @hag <| And.intro @h9 <| And.intro @h8 <| And.intro @h7 <| And.intro @hw <| And.intro @hm3 <| And.intro @w2 <| And.intro @w3 <| And.intro @hcn <| And.intro @e2 <| And.intro @e3 <| And.intro @plen <| @ptk)
        repeat (first | refine v_ ?_ | refine u_ ?_ | refine nl_ ?_ | (refine nz_ ?_; first | (show aWp _ _ _ _ _) | skip) | refine sq_ ?_ | refine rg_ ?_ | refine k_ ?_ | refine ct_ ?_ | refine cf_ ?_ | refine bk_ ?_ | refine sc_ ?_ | (refine sk_ ?_; first | (show aWp _ _ _ _ _) | skip) | (refine ex_ ?_; first | (show aWp _ _ _ _ _) | skip) | refine rt_ ?_)
        refine ⟨n - (i + 1), by omega, ⟨i + 1, _, a + 3, by omega, rfl, by (have FX := Fx0; exact cl_), by (have FX := Fx0; exact cl_), hrun2, .inr ⟨kf + 1 + 1, by (have FX := Fx.mk (@pla); exact cl_), by omega, by first | omega | (simp only; omega), by (have FX := Fx.mk (@pap); exact cl_)⟩⟩, ?_, ?_, by first | omega | (simp only; omega), rfl⟩
        · repeat (refine KAgree.upd rfl ?_)
          first | exact KAgree.refl _ _ | exact hag
        · exact (by have FX := Fx.mk (@hh); exact ha_)
  obtain rfl : i = n := by omega
  have hd : decide ((i : Int) < (i : Int)) = false := decide_eq_false (by omega)
  have hv : pagesV b i = .tup [.sl (pagesB l), .int .i64 (a : Int), .int .i64 0] := by unfold pagesV; rw [hrun]
  rw [hv]
  have plen := pagesB_len l
  have ptk : (pagesB l).take l.length = pagesB l := List.take_of_length_le (by omega)
  rcases h7 with ⟨h7, rfl⟩ | ⟨m, h7, hm1, hm2, hm3⟩
  · have hp0 : pagesB [] = [] := rfl
    have FX := Fx.mk (And.intro @hag <| And.intro @h9 <| And.intro @h8 <| And.intro @h7 <| @hd)
    repeat (first | refine v_ ?_ | refine u_ ?_ | refine nl_ ?_ | (refine nz_ ?_; first | (show aWp _ _ _ _ _) | skip) | refine sq_ ?_ | refine rg_ ?_ | refine k_ ?_ | refine ct_ ?_ | refine cf_ ?_ | refine bk_ ?_ | refine sc_ ?_ | (refine sk_ ?_; first | (show aWp _ _ _ _ _) | skip) | (refine ex_ ?_; first | (show aWp _ _ _ _ _) | skip) | refine rt_ ?_)
    (have FX := Fx.mk (And.intro @hag <| And.intro @h7 <| And.intro @hp0 <| @hh); exact end_ Try.results38)
  · have FX := Fx.mk (And.intro @hag <| And.intro @h9 <| And.intro @h8 <| And.intro @h7 <| And.intro @hm3 <| @hd)
    repeat (first | refine v_ ?_ | refine u_ ?_ | refine nl_ ?_ | (refine nz_ ?_; first | (show aWp _ _ _ _ _) | skip) | refine sq_ ?_ | refine rg_ ?_ | refine k_ ?_ | refine ct_ ?_ | refine cf_ ?_ | refine bk_ ?_ | refine sc_ ?_ | (refine sk_ ?_; first | (show aWp _ _ _ _ _) | skip) | (refine ex_ ?_; first | (show aWp _ _ _ _ _) | skip) | refine rt_ ?_)
    (have FX := Fx.mk (And.intro @hag <| And.intro @h7 <| And.intro @hm3 <| And.intro @plen <| And.intro @ptk <| @hh); exact end_ Try.results38)
end Go.Proofs.Yteklnhogokjkkaa.AE
