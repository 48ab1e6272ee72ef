/- Texts U23, U24, U25. -/
import Derived.Test.YtjidgdfdeckofaaDoorV26
import Derived.Test.YtjidgdfdeckofaaDoorU22
import Derived.Test.YtjidgdfdeckofaaDoorU14
import Derived.Test.YtjidgdfdeckofaaDoorV20
/- Layer 16 in plain words: the page's example. No program in sight. -/
namespace Go.Proofs.YtjidgdfdeckofaaDoor.AE
open Go Go.RowKit Go.Proofs Go.Proofs.YtjidgdfdeckofaaDoor
open PgS
set_option linter.unusedVariables false
set_option maxRecDepth 10000
def pageC (c : Int) : List Int := if c = 0 then [] else c :: (List.replicate 62 0 ++ [1])
theorem pageC_len {c : Int} (h : c ≠ 0) : (pageC c).length = 64 := by unfold pageC; rw [if_neg h]; simp
/-- A new pager's superblock. -/
def spF (j : Int) : Sup := ⟨0, 9, j, 12, 0, 0, 0⟩
theorem spF_ok {j : Int} (h : 1 ≤ j ∧ j ≤ 30) : (spF j).ok := (spF j).ok_iff.2 (by unfold spF; dsimp only; omega)
theorem crP_S (sp : Sup) (k : Nat) (h : sp.base = (k : Int) + 1) : (crP sp).S = sp.sector :: List.replicate k z64 := by
  unfold crP allH
  simp only [List.foldl_cons, List.foldl_nil, doH]
  rw [if_neg (by decide), if_pos trivial, h, show ((k : Int) + 1).toNat = k + 1 by omega]
  simp [List.replicate_succ]
theorem crP_ok {sp : Sup} (hk : sp.ok) (he : sp.s = 0) (hb : sp.base ≤ 200) : (crP sp).ok := by
  obtain ⟨v1, v2, v3, v4, v5, v6, v7⟩ := sp.ok_iff.1 hk
  obtain ⟨k, hk2⟩ : ∃ k : Nat, sp.base = (k : Int) + 1 := ⟨(sp.base - 1).toNat, by unfold Sup.base; omega⟩
  have hS := crP_S sp k hk2
  have hl : (crP sp).S.length = k + 1 := by rw [hS]; simp
  have hS64 : ∀ s ∈ (crP sp).S, s.length = 64 := by
    intro s hs
    rw [hS] at hs
    rcases List.mem_cons.1 hs with rfl | hs
    · exact sp.sector_len
    · rw [(List.mem_replicate.1 hs).2]; rfl
  have hh : okH (crP sp).S [] 200 := ⟨by omega, by rw [hl]; omega, hS64, by simp, by simp⟩
  have h3 : pagesOk (crP sp).pages := fun b hb => by cases hb
  have h4 : (((crP sp).pages.length : Nat) : Int) ≤ sp.p := by show ((0 : Nat) : Int) ≤ sp.p; omega
  have h5 : (0 : Int) ≤ 0 ∧ (0 : Int) ≤ sp.p := by omega
  have h6 : (0 : Int) ≤ 0 ∧ (0 : Int) ≤ 65536 := by omega
  have h7 : sp.s ≤ 0 ∧ (0 : Int) ≤ 1099511627776 := by omega
  have h8 : (0 : Int) ≤ 0 ∧ (0 : Int) ≤ sp.j := by omega
  have h9 : sp.base + 0 ≤ sizeH ((crP sp).S.length : Int) [] := by
    rw [hl]
    show sp.base + 0 ≤ (((k + 1 : Nat)) : Int)
    omega
  exact ⟨hh, hk, h3, h4, h5, h6, h7, h8, h9⟩
theorem told_z64 : (Sup.told z64).2 ≠ 0 ∧ (Sup.told z64).1 = Sup.zero := by
  have h : (Pl.openS z64).2 ≠ 0 ∨ ¬ mag4 <+: (Pl.openS z64).1 ∨ ¬ ∀ x ∈ (Pl.openS z64).1.drop 40, x = 0 := by
    refine .inr (.inl ?_)
    unfold Pl.openS
    split
    · decide
    split
    · decide
    · decide
  unfold Sup.told
  rw [if_neg (by decide), if_pos h]
  exact ⟨by decide, rfl⟩
theorem newer_first {sp : Sup} (h : sp.ok) : Sup.newer sp.sector z64 = (sp, 0, 0) := by
  have h1 := sp.told_sector h
  have h2 := told_z64
  unfold Sup.newer
  rw [h1]
  rw [if_neg (by simp), if_neg (by simp [h2.1])]
theorem decR_zero (n : Nat) : ∃ e, decR (List.replicate n 0) = .error e := by
  unfold decR
  cases n with
  | zero => exact ⟨_, rfl⟩
  | succ n => exact ⟨21, if_pos (by
      rw [List.replicate_succ]
      intro h
      have := h.length_le
      obtain ⟨t, ht⟩ := h
      simp [magJ] at ht)⟩
def rec7 : Rec := ⟨1, 1, 0, [(1, pageC 7)]⟩
theorem rec7_ok : rec7.ok := by decide
theorem rec7_len : rec7.enc.length = 128 := by rw [enc_len]; rfl
theorem whole7 : wholeP [pageC 7] = [pageC 7] := by decide
theorem changed7 : changedP [] [pageC 7] = [(1, pageC 7)] := by decide
def S7 (sec b : List Int) : List (List Int) := sec :: z64 :: chunk64 b 0 :: chunk64 b 1 :: List.replicate 20 z64
theorem com7 : ∃ t L, comP (crP (spF 10)) [pageC 7] 1 0 [] = .ok (t, L) ∧ 0 < L.length ∧ t.S = S7 (spF 10).sector rec7.enc ∧ t.W = [] ∧ t.cap = 200 := by
  have hk : (spF 10).ok := spF_ok (by omega)
  have hb : (spF 10).base = 24 := rfl
  have hS := crP_S (spF 10) 23 (by rw [hb]; rfl)
  have hsz : (crP (spF 10)).size = 24 := by
    show sizeH ((crP (spF 10)).S.length : Int) [] = 24
    rw [hS]
    rfl
  have hR : comR (crP (spF 10)) [pageC 7] 1 0 = rec7 := by
    unfold comR
    rw [whole7, show (crP (spF 10)).pages = [] from rfl, changed7]
    rfl
  have hB : comB (crP (spF 10)) [pageC 7] 1 0 = rec7.enc := by unfold comB; rw [hR]
  have hN : comN (crP (spF 10)) [pageC 7] 1 0 = 2 := by unfold comN; rw [hB, rec7_len]
  have hpg : pagesOk [pageC 7] := fun b hb => by rw [List.mem_singleton.1 hb]; exact .inr (pageC_len (by decide))
  have hE : comE (crP (spF 10)) [pageC 7] 1 0 = 0 := by
    unfold comE
    rw [if_neg (by decide), if_neg (fun q => q hpg), if_neg (by decide), if_neg (by rw [hsz, show (crP (spF 10)).sup.base = 24 from hb]; decide), whole7, show (crP (spF 10)).pages = [] from rfl, changed7, if_neg (by decide), if_neg (by decide), hR, if_neg (fun q => q rec7_ok), hN, if_neg (by decide)]
  have hC : comC (crP (spF 10)) [pageC 7] 1 0 [] = .ok (flushP (crP (spF 10)), [] ++ [barA]) := by
    unfold comC
    rw [hN, if_neg (by decide)]
  have hZ : ∀ s3 L3, comZ (crP (spF 10)) 0 s3 L3 = .ok (s3, L3) := fun s3 L3 => by
    unfold comZ
    rw [if_pos (by rw [hsz, show (crP (spF 10)).sup.base = 24 from hb]; decide)]
  have hL : layA 2 rec7.enc = [(1, 2, chunk64 rec7.enc 0), (1, 3, chunk64 rec7.enc 1)] := by
    unfold layA
    rw [rec7_len]
    rfl
  refine ⟨comT (comL (flushP (crP (spF 10))) rec7.enc) [pageC 7] 1 0 2, [] ++ [barA] ++ layA (2 + 0) rec7.enc ++ [barA], ?_, by simp, ?_, rfl, rfl⟩
  · unfold comP
    rw [hE, if_neg (by decide), hC]
    dsimp only
    rw [hZ, hB, hN]
    rfl
  · show allH (flushP (crP (spF 10))).S ([] ++ layA (2 + 0) rec7.enc) = _
    rw [show (2 : Int) + 0 = 2 from rfl, hL]
    show allH (crP (spF 10)).S _ = _
    rw [hS]
    rfl
theorem S7_ok (sec b : List Int) (h1 : sec.length = 64) (h2 : b.length = 128) : okH (S7 sec b) [] 200 := by
  refine ⟨by omega, by show ((24 : Nat) : Int) ≤ 200; decide, fun s hs => ?_, by simp, by simp⟩
  unfold S7 at hs
  simp only [List.mem_cons] at hs
  rcases hs with rfl | rfl | rfl | rfl | hs
  · exact h1
  · rfl
  · simp [chunk64, h2]
  · simp [chunk64, h2]
  · rw [(List.mem_replicate.1 hs).2]; rfl
theorem open7 : ∃ u, opP (S7 (spF 10).sector rec7.enc) [] 200 = .ok (u, []) ∧ u.pages = [pageC 7] ∧ u.root = 1 ∧ u.seq = 1 := by
  have hk : (spF 10).ok := spF_ok (by omega)
  have hb : (spF 10).base = 24 := rfl
  have hln : (S7 (spF 10).sector rec7.enc).length = 24 := rfl
  have hnw : Sup.newer ((S7 (spF 10).sector rec7.enc).getD 0 []) ((S7 (spF 10).sector rec7.enc).getD 1 []) = (spF 10, 0, 0) := newer_first hk
  have hst : stPages (S7 (spF 10).sector rec7.enc) (spF 10) = List.replicate 12 z64 := rfl
  have hoct : jOct (S7 (spF 10).sector rec7.enc) (spF 10) = rec7.enc ++ List.replicate 512 0 := by
    show ((chunk64 rec7.enc 0 :: chunk64 rec7.enc 1 :: List.replicate 8 z64)).flatten = _
    rw [List.flatten_cons, List.flatten_cons, ← List.append_assoc]
    congr 1
  have hsc : jScan (S7 (spF 10).sector rec7.enc) (spF 10) = ([rec7], 128) := by
    unfold jScan
    rw [hoct, show (spF 10).s + 1 = rec7.q from rfl, scan_yes (dec_enc rec7_ok _) rfl, List.drop_left]
    obtain ⟨e, he⟩ := decR_zero 512
    rw [scan_bad he, rec7_len]
    rfl
  have hrc : rcStep (spF 10).p (List.replicate 12 z64, (spF 10).r, (spF 10).d) [rec7] = some (pageC 7 :: List.replicate 11 z64, 1, 0) := rfl
  have hw : wholeP (pageC 7 :: List.replicate 11 z64) = [pageC 7] := by decide
  refine ⟨opT (S7 (spF 10).sector rec7.enc) 200 (spF 10) (pageC 7 :: List.replicate 11 z64, 1, 0), ?_, hw, rfl, ?_⟩
  · unfold opP opS
    rw [if_pos (S7_ok _ _ (spF 10).sector_len rec7_len), if_neg (by rw [hln]; decide), hnw]
    dsimp only
    rw [if_neg (by decide), if_neg (by rw [hln, hb]; decide), hst, hsc]
    rw [hrc]
    dsimp only
    unfold opE
    rw [if_pos (by rw [hln, hb]; decide)]
  · show (spF 10).s + ((jScan (S7 (spF 10).sector rec7.enc) (spF 10)).1.length : Int) = 1
    rw [hsc]
    rfl
end Go.Proofs.YtjidgdfdeckofaaDoor.AE

/- Layer 16's laws: num, page, Fresh, alive. -/
namespace Go.Proofs.YtjidgdfdeckofaaDoor.AE
open Go Go.RowKit Go.Proofs Go.Proofs.YtjidgdfdeckofaaDoor
set_option linter.unusedVariables false
set_option linter.unusedSimpArgs false
set_option maxRecDepth 100000
set_option maxHeartbeats 8000000
theorem law_num (e : Int) : aFun Tryd.prog 30 [.int .i64 e] (.int .i64 e) := by
  refine aFun_body Tryd.func30 rfl rfl (by simp [Tryd.ntmps30]) fun hreal h nx hfresh => ?_
  rw [Tryd.ntmps30]
  have hi := inI64 ((hreal (.int .i64 e) (by simp)).int)
  have hw : IntKind.i64.wrap e = e := by rw [wrapI] <;> omega
  have FX := Fx.mk (@hw)
  repeat (first | refine v_ ?_ | refine u_ ?_ | refine nl_ ?_ | (refine nz_ ?_; first | (show aWp _ _ _ _ _) | skip) | refine sq_ ?_ | refine rg_ ?_ | refine k_ ?_ | refine ct_ ?_ | refine cf_ ?_ | refine bk_ ?_ | refine sc_ ?_ | (refine sk_ ?_; first | (show aWp _ _ _ _ _) | skip) | (refine ex_ ?_; first | (show aWp _ _ _ _ _) | skip) | refine rt_ ?_)
  (have FX := Fx0; exact end_ Tryd.results30)
theorem law_pageO (c : Int) (hc : c ≠ 0) : aOwn Tryd.prog 10 [.int .u8 c] 1 (numB .u8 (pageC c)) := by
  have d0 : decide (c = 0) = false := decide_eq_false hc
  rw [show pageC c = c :: (List.replicate 62 0 ++ [1]) from if_neg hc]
  refine aOwn_body Tryd.func10 rfl rfl (by simp [Tryd.ntmps10]) fun hreal h nx hfresh => ?_
  rw [Tryd.ntmps10]
  have FX := Fx.mk (@d0)
  repeat (first | refine v_ ?_ | refine u_ ?_ | refine nl_ ?_ | (refine nz_ ?_; first | (show aWp _ _ _ _ _) | skip) | refine sq_ ?_ | refine rg_ ?_ | refine k_ ?_ | refine ct_ ?_ | refine cf_ ?_ | refine bk_ ?_ | refine sc_ ?_ | (refine sk_ ?_; first | (show aWp _ _ _ _ _) | skip) | (refine ex_ ?_; first | (show aWp _ _ _ _ _) | skip) | refine rt_ ?_)
  refine endo_ (rest := []) nx Tryd.results10
theorem law_page (c : Int) (hc : c ≠ 0) : aFun Tryd.prog 10 [.int .u8 c] (.sl (numB .u8 (pageC c))) := (law_pageO c hc).fn
/-- How many sectors the journal has. -/
def jNum (j : Int) : Int := 1 + (j.tmod 30 + 30).tmod 30
theorem jNum_bd (j : Int) : 1 ≤ jNum j ∧ jNum j ≤ 30 := by
  unfold jNum
  have h1 := Int.tmod_lt_of_pos j (show (0 : Int) < 30 by decide)
  have h2 := Int.lt_tmod_of_pos j (show (0 : Int) < 30 by decide)
  have h3 := Int.tmod_lt_of_pos (j.tmod 30 + 30) (show (0 : Int) < 30 by decide)
  have h4 := Int.tmod_nonneg 30 (show 0 ≤ j.tmod 30 + 30 by omega)
  omega
theorem law_Fresh (j : Int) : aFun Tryd.prog 8 [.int .i64 j] (.tup [(crP (spF (jNum j))).av, .int .i64 0]) := by
  have jb := jNum_bd j
  have cr := pager_Create (spF (jNum j)) (spF_ok jb) rfl rfl rfl rfl (by unfold Sup.base spF; dsimp only; omega)
  generalize crP (spF (jNum j)) = s at cr ⊢
  rw [PgS.av_eq] at cr ⊢
  unfold Sup.av Sup.cells spF at cr
  dsimp only at cr
  have n0 := law_num 0
  have h1 := Int.tmod_lt_of_pos j (show (0 : Int) < 30 by decide)
  have h2 := Int.lt_tmod_of_pos j (show (0 : Int) < 30 by decide)
  have h3 := Int.tmod_lt_of_pos (j.tmod 30 + 30) (show (0 : Int) < 30 by decide)
  have h4 := Int.tmod_nonneg 30 (show 0 ≤ j.tmod 30 + 30 by omega)
  have w1 : IntKind.i64.wrap (j.tmod 30) = j.tmod 30 := by rw [wrapI] <;> omega
  have w2 : IntKind.i64.wrap (j.tmod 30 + 30) = j.tmod 30 + 30 := by rw [wrapI] <;> omega
  have w3 : IntKind.i64.wrap ((j.tmod 30 + 30).tmod 30) = (j.tmod 30 + 30).tmod 30 := by rw [wrapI] <;> omega
  have w4 : IntKind.i64.wrap (1 + (j.tmod 30 + 30).tmod 30) = jNum j := by rw [wrapI] <;> first | rfl | omega
  refine aFun_body Tryd.func8 rfl rfl (by simp [Tryd.ntmps8]) fun hreal h nx hfresh => ?_
  rw [Tryd.ntmps8]
  have FX := Fx.mk (And.intro @w1 <| And.intro @w2 <| And.intro @w3 <| @w4)
  repeat (first | refine v_ ?_ | refine u_ ?_ | refine f_ (cr) fun kf hkf => ?_ | refine nl_ ?_ | (refine nz_ ?_; first | (show aWp _ _ _ _ _) | skip) | refine sq_ ?_ | refine rg_ ?_ | refine k_ ?_ | refine ct_ ?_ | refine cf_ ?_ | refine bk_ ?_ | refine sc_ ?_ | (refine sk_ ?_; first | (show aWp _ _ _ _ _) | skip) | (refine ex_ ?_; first | (show aWp _ _ _ _ _) | skip) | refine rt_ ?_)
  obtain ⟨p, rfl⟩ : ∃ p, p = kf := ⟨_, rfl⟩
  have FX := Fx0
  refine W_draw mixed rfl rfl ?_
  repeat (first | refine dq_ ?_ | refine df_ (n0) ?_ | refine dr_ [p] ?_ | refine dm_ [nx] ?_ | refine da_ [nx] ?_ | refine ds_ [p] ?_ | refine ds_ [nx] ?_ | refine dw_ [p] ?_ | refine dk_ ?_ | refine dn_ ?_)
  refine fun kd hkd => ?_
  simp only [List.length_cons, List.length_nil] at hkd
  first | (show aWp _ _ _ _ _) | skip
  have FX := Fx0
  repeat (first | refine v_ ?_ | refine u_ ?_ | refine nl_ ?_ | (refine nz_ ?_; first | (show aWp _ _ _ _ _) | skip) | refine sq_ ?_ | refine rg_ ?_ | refine k_ ?_ | refine ct_ ?_ | refine cf_ ?_ | refine bk_ ?_ | refine sc_ ?_ | (refine sk_ ?_; first | (show aWp _ _ _ _ _) | skip) | (refine ex_ ?_; first | (show aWp _ _ _ _ _) | skip) | refine rt_ ?_)
  (have FX := Fx0; exact end_ Tryd.results8)
theorem law_alive : aFun Tryd.prog 4 [] (.bool true) := by
  have fr := law_Fresh 9
  rw [show jNum 9 = 10 from rfl] at fr
  have pg := law_page 7 (by decide)
  have hl := pageC_len (c := 7) (by decide)
  have h7 : (numB .u8 (pageC 7))[0]? = some [.int .u8 7] := rfl
  have hl2 : (numB .u8 (pageC 7)).length = 64 := by rw [numB_len, hl]
  obtain ⟨t, L, hcom, hL, hS, hW, hcap⟩ := com7
  obtain ⟨u, hop, hu1, hu2, hu3⟩ := open7
  have hok := crP_ok (spF_ok (j := 10) (by omega)) rfl (by decide)
  have cm := pager_Commit (crP (spF 10)) [pageC 7] 1 0
  rw [show runV (crP (spF 10)) (comP (crP (spF 10)) [pageC 7] 1 0 []) = .tup [t.av, .sl (actsB L), .int .i64 0] by unfold runV; rw [if_pos hok, hcom]] at cm
  have hokt : okH t.S t.W t.cap := by rw [hS, hW, hcap]; exact S7_ok _ _ (spF 10).sector_len rec7_len
  have cr := host_Crash t.S t.W t.cap []
  rw [if_pos hokt, runH_nil] at cr
  have op := pager_Open t.S [] t.cap
  rw [hS, hcap] at op
  rw [hop] at op
  rw [← hS, ← hcap] at op
  have e1 := actsB_len L
  have dL : decide (0 < (L.length : Int)) = true := decide_eq_true (by omega)
  rw [show opV (.ok (u, [])) = .tup [u.av, .sl [], .int .i64 0] from rfl] at op
  generalize crP (spF 10) = s at fr cm
  clear hop hcom hS hcap
  rw [PgS.av_eq] at fr
  rw [PgS.av_eq, PgS.av_eq] at cm
  rw [PgS.av_eq, hu1, hu2, hu3] at op
  unfold hostV at cr op
  change aFun _ _ [_, .sl []] (.tup [.agg [_, .sl [], _], _]) at cr
  change aFun _ _ [.agg [_, .sl [], _]] _ at op
  change aFun _ _ [_, .sl [[.sl (numB .u8 (pageC 7))]], _, _] _ at cm
  change aFun _ _ _ (.tup [.agg [_, _, _, _, _, _, _, _, _, _, .sl [[.sl (numB .u8 (pageC 7))]], _, _, _, _], _, _]) at op
  generalize numB .u8 (pageC 7) = P at pg cm op h7 hl2
  have d0 : decide ((0 : Int) = 0) = true := rfl
  have d1 : decide ((1 : Int) = 1) = true := rfl
  have d7 : decide ((7 : Int) = 7) = true := rfl
  refine aFun_body Tryd.func4 rfl rfl (by simp [Tryd.ntmps4]) fun hreal h nx hfresh => ?_
  rw [Tryd.ntmps4]
  have FX := Fx0
  repeat (first | refine v_ ?_ | refine u_ ?_ | refine f_ (fr) fun kf hkf => ?_ | refine nl_ ?_ | (refine nz_ ?_; first | (show aWp _ _ _ _ _) | skip) | refine sq_ ?_ | refine rg_ ?_ | refine k_ ?_ | refine ct_ ?_ | refine cf_ ?_ | refine bk_ ?_ | refine sc_ ?_ | (refine sk_ ?_; first | (show aWp _ _ _ _ _) | skip) | (refine ex_ ?_; first | (show aWp _ _ _ _ _) | skip) | refine rt_ ?_)
  obtain ⟨p, rfl⟩ : ∃ p, p = kf := ⟨_, rfl⟩
  have FX := Fx0
  refine W_draw mixed rfl rfl ?_
  repeat (first | refine dz_ 17 [p] ?_ | refine dq_ ?_ | refine df_ (pg) ?_ | refine df_ (cm) ?_ | refine dr_ [p] ?_ | refine dm_ [p] ?_ | refine da_ [p] ?_ | refine ds_ [p] ?_ | refine dw_ [p] ?_ | refine dk_ ?_ | refine dn_ ?_)
  refine fun kd hkd => ?_
  simp only [List.length_cons, List.length_nil] at hkd
  first | (show aWp _ _ _ _ _) | skip
  have d11 : decide (((1 : Nat) : Int) = 1) = true := rfl
  have FX := Fx.mk (And.intro @d0 <| And.intro @e1 <| And.intro @dL <| And.intro @d1 <| And.intro @d11 <| And.intro @d7 <| And.intro @h7 <| And.intro @hl2 <| @decide_true)
  repeat (first | refine v_ ?_ | refine u_ ?_ | refine f_ (cr) fun kf hkf => ?_ | refine f_ (op) fun kf hkf => ?_ | refine nl_ ?_ | (refine nz_ ?_; first | (show aWp _ _ _ _ _) | skip) | refine sq_ ?_ | refine rg_ ?_ | refine k_ ?_ | refine ct_ ?_ | refine cf_ ?_ | refine bk_ ?_ | refine sc_ ?_ | (refine sk_ ?_; first | (show aWp _ _ _ _ _) | skip) | (refine ex_ ?_; first | (show aWp _ _ _ _ _) | skip) | refine rt_ ?_)
  -- DBG
  (have FX := Fx0; exact end_ Tryd.results4)
end Go.Proofs.YtjidgdfdeckofaaDoor.AE

/- Layer 16 in plain words: what is opened may be. No program in sight. -/
namespace Go.Proofs.YtjidgdfdeckofaaDoor.AE
open Go Go.RowKit Go.Proofs Go.Proofs.YtjidgdfdeckofaaDoor
open PgS
set_option linter.unusedVariables false
theorem RunR.le : ∀ {l : List Rec} {next : Int}, RunR l next → l.length = 0 ∨ next + (l.length : Int) - 1 ≤ 1099511627776
  | [], _, _ => .inl rfl
  | r :: l, next, h => by
    obtain ⟨h1, h2, h3⟩ := h
    have h4 := h1.1
    rcases RunR.le h3 with q | q
    · right; simp [q]; omega
    · right; simp; omega
theorem opT_ok {S : List (List Int)} {cap : Int} {sp : Sup} {st : RSt} (hok : okH S [] cap) (hk : sp.ok) (hb : sp.base ≤ (S.length : Int)) (hrc : rcStep sp.p (stPages S sp, sp.r, sp.d) (jScan S sp).1 = some st) :
    PgS.pagesOk (opT S cap sp st).pages ∧ ((opT S cap sp st).pages.length : Int) ≤ sp.p ∧ (0 ≤ st.2.1 ∧ st.2.1 ≤ sp.p) ∧ (0 ≤ st.2.2 ∧ st.2.2 ≤ 65536) ∧ (sp.s ≤ (opT S cap sp st).seq ∧ (opT S cap sp st).seq ≤ 1099511627776) ∧ (0 ≤ (opT S cap sp st).tail ∧ (opT S cap sp st).tail ≤ sp.j) := by
  obtain ⟨v1, v2, v3, v4, v5, v6, v7⟩ := sp.ok_iff.1 hk
  obtain ⟨g1, g2, g3, g4, g5⟩ := scan_run (jOct S sp).length (jOct S sp) (sp.s + 1) (Nat.le_refl _)
  change RunR (jScan S sp).1 _ at g1
  change (jScan S sp).2 ≤ _ at g2
  have hS := hok.2.2.1
  have hp : PgS.pagesOk (stPages S sp) := fun b hb => .inr (hS b (List.mem_of_mem_drop (List.mem_of_mem_take hb)))
  have hlen : ((stPages S sp).length : Int) = sp.p := by
    unfold stPages Sup.base at *
    simp
    omega
  have hst := rcStep_pages _ _ _ _ hp (fun r hr => g1.get r hr) hrc
  have hsl := rcStep_len _ _ _ _ hrc
  dsimp only at hsl
  have hsb := rcStep_bounds _ _ _ _ (by dsimp only; omega) (by dsimp only; omega) (fun r hr => g1.get r hr) hrc
  have hj : (jOct S sp).length ≤ 64 * sp.j.toNat := by
    unfold jOct
    rw [flat64 _ (fun s hs => hS s (List.mem_of_mem_drop (List.mem_of_mem_take hs)))]
    have := List.length_take_le sp.j.toNat (S.drop 2)
    omega
  have hw := whole_len st.1
  refine ⟨whole_ok hst, ?_, hsb.1, hsb.2, ?_, ?_⟩
  · show ((wholeP st.1).length : Int) ≤ _
    omega
  · show sp.s ≤ sp.s + ((jScan S sp).1.length : Int) ∧ sp.s + ((jScan S sp).1.length : Int) ≤ _
    rcases g1.le with q | q <;> omega
  · show 0 ≤ ((jScan S sp).2 : Int) / 64 ∧ ((jScan S sp).2 : Int) / 64 ≤ _
    omega
theorem opE_ok {S : List (List Int)} {cap : Int} {sp : Sup} {st : RSt} {s' : PgS} {L' : List Act3} (hok : okH S [] cap) (hk : sp.ok) (hb : sp.base ≤ (S.length : Int)) (hrc : rcStep sp.p (stPages S sp, sp.r, sp.d) (jScan S sp).1 = some st) (h : opE S cap sp st = .ok (s', L')) : s'.ok := by
  obtain ⟨k1, k2, k3, k4, k5, k6⟩ := opT_ok (cap := cap) hok hk hb hrc
  unfold opE at h
  split at h
  · rename_i he
    cases h
    exact ⟨hok, hk, k1, k2, k3, k4, k5, k6, by show sp.base + st.2.2 ≤ (S.length : Int); omega⟩
  · have hT : (opT S cap sp st).okHost := hok
    have hho := doP_host _ hT lenbar_good h
    obtain ⟨⟨a1, a2, a3, a4, a5, a6, a7⟩, _⟩ := doP_same _ h
    have hsz : s'.size = sp.base + st.2.2 := by
      cases h1 : do1 (opT S cap sp st) [] (2, sp.base + st.2.2, []) with
      | error e => rw [doP_cons_err h1] at h; cases h
      | ok p =>
        obtain ⟨s1, L1⟩ := p
        rw [doP_cons_ok h1, doP_bar] at h
        cases h
        have o1 := do1_host hT (.inr ⟨.inl rfl, rfl⟩) h1
        rw [size_flush o1]
        unfold do1 at h1
        rw [if_neg (show ¬ (2 : Int) = 3 by decide)] at h1
        split at h1
        · cases h1
        · rename_i hw
          cases h1
          rw [(waitP_ok hw).1]
          rfl
    refine ⟨hho, ?_, ?_, ?_, ?_, ?_, ?_, ?_, ?_⟩
    · rw [a2]; exact hk
    · rw [a3]; exact k1
    · rw [a3, a2]; exact k2
    · rw [a4, a2]; exact k3
    · rw [a5]; exact k4
    · rw [a6, a2]; exact k5
    · rw [a7, a2]; exact k6
    · rw [a5, a2, hsz]
      show sp.base + st.2.2 ≤ _
      omega
theorem do1_ne {s : PgS} {L : List Act3} {a : Act3} {e : Int} (h : do1 s L a = .error e) : e ≠ 0 := by
  unfold do1 at h
  split at h
  · cases h
  · split at h
    · rename_i hw
      cases h
      unfold waitP at hw
      split at hw
      · cases hw; decide
      split at hw
      · cases hw; decide
      split at hw
      · cases hw; decide
      split at hw
      · cases hw; decide
      cases hw
    · cases h
theorem doP_ne : ∀ (l : List Act3) {s : PgS} {L : List Act3} {e : Int}, doP s L l = .error e → e ≠ 0
  | [], s, L, e, h => by cases h
  | a :: l, s, L, e, h => by
    cases h1 : do1 s L a with
    | error e' => rw [doP_cons_err h1] at h; cases h; exact do1_ne h1
    | ok p => obtain ⟨s1, L1⟩ := p; rw [doP_cons_ok h1] at h; exact doP_ne l h
theorem opP_ne {S : List (List Int)} {W : List Act3} {cap : Int} {e : Int} (h : opP S W cap = .error e) : e ≠ 0 := by
  unfold opP at h
  split at h
  · unfold opS at h
    split at h
    · cases h; decide
    split at h
    · rename_i he; cases h; exact he
    split at h
    · cases h; decide
    split at h
    · cases h; decide
    · unfold opE at h
      split at h
      · cases h
      · exact doP_ne _ h
  · cases h; decide
theorem opP_ok {S : List (List Int)} {W : List Act3} {cap : Int} {s' : PgS} {L' : List Act3} (h : opP S W cap = .ok (s', L')) : okH S W cap ∧ s'.ok := by
  unfold opP at h
  split at h
  · rename_i hok
    refine ⟨hok, ?_⟩
    have hok0 : okH S [] cap := ⟨hok.1, hok.2.1, hok.2.2.1, by simp, by simp⟩
    unfold opS at h
    split at h
    · cases h
    split at h
    · cases h
    rename_i he
    split at h
    · cases h
    rename_i hb
    have hk := newer_ok (S.getD 0 []) (S.getD 1 []) (by omega)
    generalize (Sup.newer (S.getD 0 []) (S.getD 1 [])).1 = sp at hk hb h
    cases hrc : rcStep sp.p (stPages S sp, sp.r, sp.d) (jScan S sp).1 with
    | none => rw [hrc] at h; cases h
    | some st =>
      rw [hrc] at h
      exact opE_ok hok0 hk (by omega) hrc h
  · cases h
end Go.Proofs.YtjidgdfdeckofaaDoor.AE
