/- Texts U15, U18, U19, U20, U21. -/
import Derived.Test.YtjidgdfdeckofaaDoorU14
import Derived.Test.YtjidgdfdeckofaaDoorV24
import Derived.Test.YtjidgdfdeckofaaDoorV19
import Derived.Test.YtjidgdfdeckofaaDoorV13
import Derived.Test.YtjidgdfdeckofaaDoorV20
import Derived.Test.YtjidgdfdeckofaaDoorV15
/- Layer 16: Commit, the call. -/
namespace Go.Proofs.YtjidgdfdeckofaaDoor.AE
open Go Go.RowKit Go.Proofs Go.Proofs.YtjidgdfdeckofaaDoor
set_option linter.unusedVariables false
set_option linter.unusedSimpArgs false
set_option maxRecDepth 100000
set_option maxHeartbeats 8000000
theorem pager_Commit (s : PgS) (pages : List (List Int)) (root room : Int) : aFun Tryd.prog 9 [s.av, .sl (secB pages), .int .i64 root, .int .i64 room] (runV s (comP s pages root room [])) := by
  have hr : ∀ (h : AHeap) (nx p1 p2 p3 : Nat), p1 < nx → p2 < nx → p3 < nx → h p1 = some ⟨1, [[.sl (secB pages)]]⟩ → h p2 = some ⟨1, [[.int .i64 root]]⟩ → h p3 = some ⟨1, [[.int .i64 room]]⟩ → aEff Tryd.prog 31 [s.av, .fn (.func 32) [] [.ptr p1 0 0, .ptr p2 0 0, .ptr p3 0 0]] h nx (runV s (comP s pages root room [])) h := fun h nx p1 p2 p3 l1 l2 l3 hp1 hp2 hp3 =>
    pager_run s _ [.ptr p1 0 0, .ptr p2 0 0, .ptr p3 0 0] (comP s pages root room []) (by simp only [WS]) (fun hok H k m w a x1 x2 x3 hH hc => com1 s [] m w a p1 p2 p3 pages root room hok (by simp) hc (by rw [hH p1 l1]; exact hp1) (by rw [hH p2 l2]; exact hp2) (by rw [hH p3 l3]; exact hp3) (by omega) (by omega) (by omega))
  obtain ⟨t, X, E, hv⟩ := runV_form s (comP s pages root room [])
  rw [hv] at hr ⊢
  rw [PgS.av_eq] at hr ⊢
  rw [PgS.av_eq] at hr ⊢
  refine aFun_body Tryd.func9 rfl rfl (by simp [Tryd.ntmps9]) fun hreal h nx hfresh => ?_
  rw [Tryd.ntmps9]
  have FX := Fx0
  repeat (first | refine v_ ?_ | refine u_ ?_ | refine e_ (hr _ _ (nx + 1) (nx + 1 + 1) (nx + 1 + 1 + 1) (by omega) (by omega) (by omega) (by exact cl_) (by exact cl_) (by exact cl_)) fun kf hkf => ?_ | refine nl_ ?_ | (refine nz_ ?_; first | (show aWp _ _ _ _ _) | skip) | refine sq_ ?_ | refine rg_ ?_ | refine k_ ?_ | refine ct_ ?_ | refine cf_ ?_ | refine bk_ ?_ | refine sc_ ?_ | (refine sk_ ?_; first | (show aWp _ _ _ _ _) | skip) | (refine ex_ ?_; first | (show aWp _ _ _ _ _) | skip) | refine rt_ ?_)
  -- DBG
  (have FX := Fx0; exact end_ Tryd.results9)
end Go.Proofs.YtjidgdfdeckofaaDoor.AE

/- Layer 16: Create. -/
namespace Go.Proofs.YtjidgdfdeckofaaDoor.AE
open Go Go.RowKit Go.Proofs Go.Proofs.YtjidgdfdeckofaaDoor
set_option linter.unusedVariables false
set_option linter.unusedSimpArgs false
set_option maxRecDepth 100000
set_option maxHeartbeats 8000000
/-- A new one. -/
def crP (s : Sup) : PgS := ⟨allH [] [(2, s.base, []), (1, 0, s.sector)], [], 200, s, [], 0, 0, 0, 0⟩
theorem allH_len (n : Int) (hn : 0 ≤ n) : ((allH [] [(2, n, [])]).length : Int) = n := by
  have := size_all [] [(2, n, [])] (cap := n) (by
    intro a ha
    rw [List.mem_singleton.1 ha]
    exact .inr ⟨rfl, hn, by dsimp only; omega, rfl⟩)
  rw [← this]
  rfl
theorem pager_Create (s : Sup) (hok : s.ok) (he : s.e = 0) (hs : s.s = 0) (hr : s.r = 0) (hd : s.d = 0) (hb : s.base ≤ 200) : aFun Tryd.prog 29 [.int .i64 200, s.av] (.tup [(crP s).av, .int .i64 0]) := by
  have bb := base_bd hok
  have ba := pager_base s hok
  have en := (super_Encode s hok).fn_tup
  obtain ⟨b, hb2⟩ : ∃ b, s.sector = b := ⟨_, rfl⟩
  have hlb : b.length = 64 := by rw [← hb2]; exact s.sector_len
  have hW1 : ∀ a ∈ [((2 : Int), s.base, ([] : List Int))], mayP 200 a := fun a ha => by
    rw [List.mem_singleton.1 ha]
    exact .inr ⟨rfl, by dsimp only; omega, by dsimp only; omega, rfl⟩
  have hW2 : ∀ a ∈ [((2 : Int), s.base, ([] : List Int)), (1, 0, b)], mayP 200 a := fun a ha => by
    simp only [List.mem_cons, List.not_mem_nil, or_false] at ha
    rcases ha with rfl | rfl
    · exact hW1 _ (by simp)
    · exact .inl ⟨rfl, by dsimp only; omega, by dsimp only; omega, hlb⟩
  have ok0 : okH [] [] 200 := ⟨by omega, by simp, by simp, by simp, by simp⟩
  have ok1 : okH [] [(2, s.base, [])] 200 := ⟨by omega, by simp, by simp, by simp, hW1⟩
  have ok2 : okH [] [(2, s.base, []), (1, 0, b)] 200 := ⟨by omega, by simp, by simp, by simp, hW2⟩
  have nw := host_New 200
  rw [if_pos (by omega)] at nw
  have rs := host_Resize [] [] 200 s.base
  rw [if_pos (show rsH [] [] 200 s.base = 0 by unfold rsH; rw [if_neg (fun q => q ok0), if_neg (by omega), if_neg (by simp; omega)])] at rs
  have wr := host_Write [] [(2, s.base, [])] 200 0 b
  rw [if_pos (show wrH [] [(2, s.base, [])] 200 0 b = 0 by unfold wrH; rw [if_neg (fun q => q ok1), if_neg (by rw [allH_len s.base (by omega)]; omega), if_neg (by omega), if_neg (by simp)])] at wr
  have fl := host_Flush [] [(2, s.base, []), (1, 0, b)] 200 (by simp)
  rw [if_pos ok2] at fl
  have hv : (crP s).av = .agg [.sl (secB (allH [] [(2, s.base, []), (1, 0, b)])), .sl [], .int .i64 200, .int .i64 s.e, .int .i64 s.v, .int .i64 s.j, .int .i64 s.p, .int .i64 s.d, .int .i64 s.s, .int .i64 s.r, .sl [], .int .i64 0, .int .i64 0, .int .i64 0, .int .i64 0] := by rw [PgS.av_eq, ← hb2]; rfl
  rw [hv]
  rw [hb2] at en
  generalize hS1 : secB (allH [] [(2, s.base, []), (1, 0, b)]) = S1
  unfold hostV at nw rs wr fl
  rw [hS1] at fl
  change aFun _ _ [.agg [.sl (secB []), .sl (actsB [(2, s.base, []), (1, 0, b)]), .int .i64 200]] _ at fl
  change aFun _ _ _ (.tup [.agg [.sl (secB []), .sl (actsB [(2, s.base, []), (1, 0, b)]), .int .i64 200], .int .i64 0]) at wr
  change aFun _ _ _ (.tup [.agg [.sl (secB []), .sl (actsB [(2, s.base, [])]), .int .i64 200], .int .i64 0]) at rs
  generalize actsB [(2, s.base, []), (1, 0, b)] = A2 at wr fl
  generalize actsB [(2, s.base, [])] = A1 at rs wr
  change aFun _ _ _ (.tup [.agg [.sl [], .sl [], .int .i64 200], .int .i64 0]) at nw
  change aFun _ _ [.agg [.sl [], .sl [], .int .i64 200], _] (.tup [.agg [.sl [], .sl A1, .int .i64 200], .int .i64 0]) at rs
  change aFun _ _ [.agg [.sl [], .sl A1, .int .i64 200], _, _] (.tup [.agg [.sl [], .sl A2, .int .i64 200], .int .i64 0]) at wr
  change aFun _ _ [.agg [.sl [], .sl A2, .int .i64 200]] (.tup [.agg [.sl S1, .sl [], .int .i64 200], .int .i64 0]) at fl
  unfold Sup.av Sup.cells at ba en ⊢
  rw [he, hs, hr, hd] at *
  have d0 : decide ((0 : Int) = 0) = true := rfl
  refine aFun_body Tryd.func29 rfl rfl (by simp [Tryd.ntmps29]) fun hreal h nx hfresh => ?_
  rw [Tryd.ntmps29]
  have FX := Fx.mk (And.intro @d0 <| @Bool.not_true)
  repeat (first | refine v_ ?_ | refine u_ ?_ | refine f_ (nw) fun kf hkf => ?_ | refine nl_ ?_ | (refine nz_ ?_; first | (show aWp _ _ _ _ _) | skip) | refine sq_ ?_ | refine rg_ ?_ | refine k_ ?_ | refine ct_ ?_ | refine cf_ ?_ | refine bk_ ?_ | refine sc_ ?_ | (refine sk_ ?_; first | (show aWp _ _ _ _ _) | skip) | (refine ex_ ?_; first | (show aWp _ _ _ _ _) | skip) | refine rt_ ?_)
  obtain ⟨p, rfl⟩ : ∃ p, p = kf := ⟨_, rfl⟩
  have FX := Fx.mk (And.intro @d0 <| @Bool.not_true)
  repeat (first | refine v_ ?_ | refine u_ ?_ | refine f_ (en) fun kf hkf => ?_ | refine nl_ ?_ | (refine nz_ ?_; first | (show aWp _ _ _ _ _) | skip) | refine sq_ ?_ | refine rg_ ?_ | refine k_ ?_ | refine ct_ ?_ | refine cf_ ?_ | refine bk_ ?_ | refine sc_ ?_ | (refine sk_ ?_; first | (show aWp _ _ _ _ _) | skip) | (refine ex_ ?_; first | (show aWp _ _ _ _ _) | skip) | refine rt_ ?_)
  have FX := Fx0
  refine W_draw mixed rfl rfl ?_
  repeat (first | refine dq_ ?_ | refine df_ (ba) ?_ | refine df_ (rs) ?_ | refine dr_ [nx, p] ?_ | refine dm_ [nx, p] ?_ | refine da_ [nx, p] ?_ | refine ds_ [nx, p] ?_ | refine dw_ [nx, p] ?_ | refine dk_ ?_ | refine dn_ ?_)
  refine fun kd hkd => ?_
  simp only [List.length_cons, List.length_nil] at hkd
  first | (show aWp _ _ _ _ _) | skip
  have FX := Fx.mk (And.intro @d0 <| @Bool.not_true)
  repeat (first | refine v_ ?_ | refine u_ ?_ | refine f_ (wr) fun kf hkf => ?_ | refine f_ (fl) fun kf hkf => ?_ | refine nl_ ?_ | (refine nz_ ?_; first | (show aWp _ _ _ _ _) | skip) | refine sq_ ?_ | refine rg_ ?_ | refine k_ ?_ | refine ct_ ?_ | refine cf_ ?_ | refine bk_ ?_ | refine sc_ ?_ | (refine sk_ ?_; first | (show aWp _ _ _ _ _) | skip) | (refine ex_ ?_; first | (show aWp _ _ _ _ _) | skip) | refine rt_ ?_)
  -- DBG
  (have FX := Fx0; exact end_ Tryd.results29)
end Go.Proofs.YtjidgdfdeckofaaDoor.AE

/- Layer 16 in plain words: what the journal's records make of the pages. No program in sight. -/
namespace Go.Proofs.YtjidgdfdeckofaaDoor.AE
open Go Go.RowKit Go.Proofs Go.Proofs.YtjidgdfdeckofaaDoor
open PgS
set_option linter.unusedVariables false
def pgStep (P : Int) : List (List Int) → List Pg → Option (List (List Int))
  | ps, [] => some ps
  | ps, p :: l => if P < p.1 then none else pgStep P (ps.set (p.1 - 1).toNat p.2) l
abbrev RSt := List (List Int) × Int × Int
def rcStep (P : Int) : RSt → List Rec → Option RSt
  | s, [] => some s
  | s, r :: l => if P < r.root then none else match pgStep P s.1 r.pages with
    | none => none
    | some ps => rcStep P (ps, r.root, r.room) l
theorem pgStep_append (P : Int) : ∀ (l m : List Pg) (ps : List (List Int)), pgStep P ps (l ++ m) = (pgStep P ps l).bind fun q => pgStep P q m
  | [], m, ps => rfl
  | p :: l, m, ps => by
    rw [List.cons_append, pgStep, pgStep]
    split
    · rfl
    · exact pgStep_append P l m _
theorem rcStep_append (P : Int) : ∀ (l m : List Rec) (s : RSt), rcStep P s (l ++ m) = (rcStep P s l).bind fun q => rcStep P q m
  | [], m, s => rfl
  | r :: l, m, s => by
    rw [List.cons_append, rcStep, rcStep]
    split
    · rfl
    · cases pgStep P s.1 r.pages with
      | none => rfl
      | some ps => exact rcStep_append P l m _
theorem pgStep_len (P : Int) : ∀ (l : List Pg) (ps ps' : List (List Int)), pgStep P ps l = some ps' → ps'.length = ps.length
  | [], ps, ps', h => by cases h; rfl
  | p :: l, ps, ps', h => by
    rw [pgStep] at h
    split at h
    · cases h
    · rw [pgStep_len P l _ _ h, List.length_set]
theorem rcStep_len (P : Int) : ∀ (l : List Rec) (s s' : RSt), rcStep P s l = some s' → s'.1.length = s.1.length
  | [], s, s', h => by cases h; rfl
  | r :: l, s, s', h => by
    rw [rcStep] at h
    split at h
    · cases h
    · cases hp : pgStep P s.1 r.pages with
      | none => rw [hp] at h; cases h
      | some ps =>
        rw [hp] at h
        rw [rcStep_len P l _ _ h]
        exact pgStep_len P _ _ _ hp
theorem take_snoc {α : Type} {l : List α} {i : Nat} {x : α} (h : l[i]? = some x) : l.take (i + 1) = l.take i ++ [x] := by
  rw [List.take_add_one, h]; rfl
theorem pgStep_at {P : Int} {l : List Pg} {i : Nat} {p : Pg} {ps q : List (List Int)} (h : pgStep P ps (l.take i) = some q) (hp : l[i]? = some p) (hle : ¬ P < p.1) : pgStep P ps (l.take (i + 1)) = some (q.set (p.1 - 1).toNat p.2) := by
  rw [take_snoc hp, pgStep_append, h]
  show pgStep P q [p] = _
  rw [pgStep, if_neg hle]
  rfl
theorem pgStep_bad {P : Int} {l : List Pg} {i : Nat} {p : Pg} {ps q : List (List Int)} (h : pgStep P ps (l.take i) = some q) (hp : l[i]? = some p) (hle : P < p.1) : pgStep P ps l = none := by
  have hlt : i < l.length := (List.getElem?_eq_some_iff.1 hp).1
  have he : l = l.take i ++ p :: l.drop (i + 1) := by
    have h1 := (List.getElem?_eq_some_iff.1 hp).2
    rw [← h1, List.getElem_cons_drop, List.take_append_drop]
  rw [he, pgStep_append, h]
  show pgStep P q (p :: _) = _
  rw [pgStep, if_pos hle]
theorem rcStep_at {P : Int} {l : List Rec} {i : Nat} {r : Rec} {s q : RSt} {ps : List (List Int)} (h : rcStep P s (l.take i) = some q) (hp : l[i]? = some r) (hle : ¬ P < r.root) (hg : pgStep P q.1 r.pages = some ps) : rcStep P s (l.take (i + 1)) = some (ps, r.root, r.room) := by
  rw [take_snoc hp, rcStep_append, h]
  show rcStep P q [r] = _
  rw [rcStep, if_neg hle, hg]
  rfl
theorem rcStep_bad {P : Int} {l : List Rec} {i : Nat} {r : Rec} {s q : RSt} (h : rcStep P s (l.take i) = some q) (hp : l[i]? = some r) (hb : P < r.root ∨ pgStep P q.1 r.pages = none) : rcStep P s l = none := by
  have he : l = l.take i ++ r :: l.drop (i + 1) := by
    have h1 := (List.getElem?_eq_some_iff.1 hp).2
    rw [← h1, List.getElem_cons_drop, List.take_append_drop]
  rw [he, rcStep_append, h]
  show rcStep P q (r :: _) = _
  rw [rcStep]
  split
  · rfl
  · rw [hb.resolve_left (by assumption)]
theorem RunR.get : ∀ {l : List Rec} {next : Int}, RunR l next → ∀ r ∈ l, r.ok
  | [], _, _, r, hr => by cases hr
  | x :: l, next, h, r, hr => by
    rcases List.mem_cons.1 hr with rfl | hr
    · exact h.1
    · exact RunR.get h.2.2 r hr
/-- What a scan answers. -/
theorem scan_run : ∀ (k : Nat) (b : List Int) (next : Int), b.length ≤ k → RunR (scanS b next).1 next ∧ (scanS b next).2 ≤ b.length ∧ 64 * (scanS b next).1.length ≤ (scanS b next).2 ∧ (∃ t, (scanS b next).2 = 64 * t) ∧ catR (scanS b next).1 = b.take (scanS b next).2
  | k, b, next, hk => by
    cases hd : decR b with
    | error e => rw [scan_bad hd]; exact ⟨trivial, Nat.zero_le _, Nat.le_refl _, ⟨0, rfl⟩, by simp [catR]⟩
    | ok p =>
      obtain ⟨r, n⟩ := p
      by_cases hq : r.q = next
      · rw [scan_yes hd hq]
        obtain ⟨h1, h2, h3, h4⟩ := decR_ok hd
        cases k with
        | zero => omega
        | succ k =>
          obtain ⟨i1, i2, i3, ⟨t, i4⟩, i5⟩ := scan_run k (b.drop n) (next + 1) (by simp; omega)
          have hl : r.enc.length = n := by rw [h2]; simp; omega
          obtain ⟨u, hu⟩ : ∃ u, n = 64 * u := ⟨(22 + (pgsS r.pages).length + 4 + 63) / 64, by rw [← hl, enc_len]; unfold padN; omega⟩
          simp only [List.length_drop] at i2
          refine ⟨⟨h1, hq, i1⟩, by dsimp only; omega, by simp only [List.length_cons]; omega, ⟨u + t, by dsimp only; omega⟩, ?_⟩
          dsimp only
          rw [catR_cons, i5, h2, ← List.take_add]
      · rw [scan_no hd hq]
        exact ⟨trivial, Nat.zero_le _, Nat.le_refl _, ⟨0, rfl⟩, by simp [catR]⟩
end Go.Proofs.YtjidgdfdeckofaaDoor.AE

/- Layer 16: replay. -/
namespace Go.Proofs.YtjidgdfdeckofaaDoor.AE
open Go Go.RowKit Go.Proofs Go.Proofs.YtjidgdfdeckofaaDoor
set_option linter.unusedVariables false
set_option linter.unusedSimpArgs false
set_option maxRecDepth 100000
set_option maxHeartbeats 8000000
/-- A call at an opening: the pages in memory of their own, nothing waits, no acts. -/
def opB (S : List (List Int)) (cap : Int) (sp : Sup) (g nP : Nat) (root room seq tail : Int) : List AV := [.sl (secB S), .zs, .int .i64 cap, .int .i64 sp.e, .int .i64 sp.v, .int .i64 sp.j, .int .i64 sp.p, .int .i64 sp.d, .int .i64 sp.s, .int .i64 sp.r, .hs g 0 nP, .int .i64 root, .int .i64 room, .int .i64 seq, .int .i64 tail, .zs]
def rpR (h : AHeap) (nx m g : Nat) (S : List (List Int)) (cap : Int) (sp : Sup) (nP : Nat) (L : List Rec) (N : Nat) (r : Option RSt) (e : AEnd) (h' : AHeap) (k' : Nat) : Prop :=
  nx ≤ k' ∧ (∀ q, q < nx → q ≠ m → q ≠ g → h' q = h q) ∧ match r with
  | none => e = .pan (errV 21)
  | some st => e = .ret (.tup []) ∧ h' m = some ⟨16, [opB S cap sp g nP st.2.1 st.2.2 (sp.s + L.length) ((N : Int) / 64)]⟩ ∧ h' g = some ⟨1, secB st.1⟩
def rpF (T : Nat → AV) (h : AHeap) (nx m g : Nat) (S : List (List Int)) (cap : Int) (sp : Sup) (nP k' i : Nat) (rq rr ro : Int) (rp : List Pg) (qs : List (List Int)) (qr qo : Int) (tm2 : Nat → AV) (H : AHeap) (k2 : Nat) : Prop :=
  (∀ t, [0, 6, 7, 33, 34].contains t = true → tm2 t = T t) ∧ tm2 9 = .ptr k' 0 0 ∧ tm2 35 = .int .i64 (i : Int) ∧ tm2 50 = .sl (pagesB rp) ∧ tm2 51 = .int .i64 (rp.length : Int) ∧ tm2 52 = .int .i64 0 ∧ H m = some ⟨16, [opB S cap sp g nP qr qo 0 0]⟩ ∧ H g = some ⟨1, secB qs⟩ ∧ H k' = some ⟨4, [[.int .i64 rq, .int .i64 rr, .int .i64 ro, .sl (pagesB rp)]]⟩ ∧ (∀ q, q < nx → q ≠ m → q ≠ g → H q = h q) ∧ k' < k2
theorem pager_replay (S : List (List Int)) (cap : Int) (sp : Sup) (ps : List (List Int)) (root room : Int) (m g fr n : Nat) (hsp : sp.ok) (hS : ∀ s ∈ S, s.length = 64) (hl : S.length ≤ 65536) (hn : fr + n ≤ S.length) (hps : (ps.length : Int) = sp.p) {h : AHeap} {nx : Nat}
    (hm : h m = some ⟨16, [opB S cap sp g ps.length root room 0 0]⟩) (hg : h g = some ⟨1, secB ps⟩) (hgm : g ≠ m) {L : List Rec} {N : Nat} (hL : scanS ((S.drop fr).take n).flatten (sp.s + 1) = (L, N)) :
    aCalls Tryd.prog 17 [.ptr m 0 0, .int .i64 (fr : Int), .int .i64 ((fr + n : Nat) : Int)] h nx (rpR h nx m g S cap sp ps.length L N (rcStep sp.p (ps, root, room) L)) := by
  obtain ⟨v1, v2, v3, v4, v5, v6, v7⟩ := sp.ok_iff.1 hsp
  have hf2 : ((S.drop fr).take n).length ≤ n := List.length_take_le _ _
  have hf := flat64 ((S.drop fr).take n) (fun s hs => hS s (List.mem_of_mem_drop (List.mem_of_mem_take hs)))
  have oc := pager_octets S [] cap fr n hn hl hS
  generalize ((S.drop fr).take n).flatten = oct at oc hL hf
  have sn := journal_Scan oct (sp.s + 1) (by omega)
  unfold scanV at sn
  obtain ⟨g1, g2, g3, ⟨t, g4⟩, g5⟩ := scan_run oct.length oct (sp.s + 1) (Nat.le_refl _)
  rw [hL] at sn g1 g2 g3 g4 g5
  dsimp only at sn g1 g2 g3 g4 g5
  unfold hostV at oc
  change aFun _ _ [.agg [.sl (secB S), .sl [], .int .i64 cap], _, _] _ at oc
  have e1 := recsB_len L
  unfold opB at hm
  have hsub : IntKind.i64.wrap (((fr + n : Nat) : Int) - (fr : Int)) = (n : Int) := by rw [wrapI] <;> omega
  have hws : IntKind.i64.wrap (sp.s + 1) = sp.s + 1 := by rw [wrapI] <;> omega
  refine aRP_body Tryd.func17 rfl rfl (by simp [Tryd.ntmps17]) fun hreal hfresh => ?_
  rw [Tryd.ntmps17]
  have m0 := name_lt hfresh hm
  have k0 := name_lt hfresh hg
  have FX := Fx0
  repeat (first | refine v_ ?_ | refine u_ ?_ | refine nl_ ?_ | (refine nz_ ?_; first | (show aWp _ _ _ _ _) | skip) | refine sq_ ?_ | refine rg_ ?_ | refine k_ ?_ | refine ct_ ?_ | refine cf_ ?_ | refine bk_ ?_ | refine sc_ ?_ | (refine sk_ ?_; first | (show aWp _ _ _ _ _) | skip) | (refine ex_ ?_; first | (show aWp _ _ _ _ _) | skip) | refine rt_ ?_)
  have FX := Fx.mk (And.intro @NL <| And.intro @hm <| And.intro @hsub <| @hws)
  refine W_draw mixed rfl rfl ?_
  repeat (first | refine dq_ ?_ | refine df_ (oc) ?_ | refine df_ (sn) ?_ | refine dr_ [m] ?_ | refine dm_ [m] ?_ | refine da_ [m] ?_ | refine ds_ [m] ?_ | refine dw_ [m] ?_ | refine dk_ ?_ | refine dn_ ?_)
  refine fun kd hkd => ?_
  simp only [List.length_cons, List.length_nil] at hkd
  first | (show aWp _ _ _ _ _) | skip
  have FX := Fx.mk (@e1)
  repeat (first | refine v_ ?_ | refine u_ ?_ | refine nl_ ?_ | (refine nz_ ?_; first | (show aWp _ _ _ _ _) | skip) | refine sq_ ?_ | refine rg_ ?_ | refine k_ ?_ | refine ct_ ?_ | refine cf_ ?_ | refine bk_ ?_ | refine sc_ ?_ | (refine sk_ ?_; first | (show aWp _ _ _ _ _) | skip) | (refine ex_ ?_; first | (show aWp _ _ _ _ _) | skip) | refine rt_ ?_)
  have hL47 : L.length ≤ 1000000 := by omega
  refine W_loopK [0, 6, 7, 33, 34] 0 (fun r tm h' q => ∃ (i : Nat) (st : RSt), i ≤ L.length ∧ r = L.length - i ∧ tm 35 = .int .i64 i ∧ rcStep sp.p (ps, root, room) (L.take i) = some st ∧ h' m = some ⟨16, [opB S cap sp g ps.length st.2.1 st.2.2 0 0]⟩ ∧ h' g = some ⟨1, secB st.1⟩ ∧ (∀ q, q < nx → q ≠ m → q ≠ g → h' q = h q) ∧ nx ≤ q) L.length (by first | omega | (simp only; omega)) ⟨0, (ps, root, room), Nat.zero_le _, rfl, rfl, by rw [List.take_zero]; rfl, by unfold opB; exact hm, hg, fun q _ _ _ => rfl, by first | omega | (simp only; omega)⟩ ?_
  rintro r tm' h' k' ⟨i, ⟨qs, qr, qo⟩, hi, rfl, h35, hst, bm, bg, hkeep, hk0⟩ hag hh hk'
  unfold opB at bm
  dsimp only at bm bg
  have hql := rcStep_len _ _ _ _ hst
  dsimp only at hql
  by_cases hlt : i < L.length
  · have hd : decide ((i : Int) < (L.length : Int)) = true := decide_eq_true (by omega)
    have hwi : IntKind.i64.wrap (i + 1) = ((i + 1 : Nat) : Int) := by rw [wrapI] <;> omega
    obtain ⟨⟨rq, rr, ro, rp⟩, hx0⟩ : ∃ a, L[i]? = some a := ⟨L[i], List.getElem?_eq_getElem hlt⟩
    have hx := recsB_get L i _ hx0
    dsimp only at hx
    have hrok := g1.get _ (List.mem_of_getElem? hx0)
    have e2 := pagesB_len rp
    have hr256 : rp.length ≤ 256 := hrok.2.2.2.1
    have FX := Fx.mk (And.intro @NL <| And.intro @hag <| And.intro @hh <| And.intro @h35 <| And.intro @hd <| @hx)
    repeat (first | refine v_ ?_ | refine u_ ?_ | refine nl_ ?_ | (refine nz_ ?_; first | (show aWp _ _ _ _ _) | skip) | refine sq_ ?_ | refine rg_ ?_ | refine k_ ?_ | refine ct_ ?_ | refine cf_ ?_ | refine bk_ ?_ | refine sc_ ?_ | (refine sk_ ?_; first | (show aWp _ _ _ _ _) | skip) | (refine ex_ ?_; first | (show aWp _ _ _ _ _) | skip) | refine rt_ ?_)
    by_cases c1 : sp.p < rr
    · have d1 : decide (sp.p < rr) = true := decide_eq_true c1
      have FX := Fx.mk (And.intro @NL <| And.intro @hag <| And.intro @hx <| And.intro @bm <| @d1)
      refine W_draw mixed rfl rfl ?_
      repeat (first | refine dq_ ?_ | refine dr_ [m, k'] ?_ | refine dm_ [m, k'] ?_ | refine da_ [m, k'] ?_ | refine ds_ [m, k'] ?_ | refine dw_ [m, k'] ?_ | refine dk_ ?_ | refine dn_ ?_)
      refine fun kd hkd => ?_
      simp only [List.length_cons, List.length_nil] at hkd
      first | (show aWp _ _ _ _ _) | skip
      have cc : Tryd.prog.concrete 31 = true := by rfl
      have FX := Fx.mk (@aop_mi)
      repeat (first | refine v_ ?_ | refine u_ ?_ | refine nl_ ?_ | (refine nz_ ?_; first | (show aWp _ _ _ _ _) | skip) | refine sq_ ?_ | refine rg_ ?_ | refine k_ ?_ | refine ct_ ?_ | refine cf_ ?_ | refine bk_ ?_ | refine sc_ ?_ | (refine sk_ ?_; first | (show aWp _ _ _ _ _) | skip) | (refine ex_ ?_; first | (show aWp _ _ _ _ _) | skip) | refine rt_ ?_)
      refine pn_ ?_
      rw [rcStep_bad hst hx0 (.inl c1)]
      exact ⟨rfl, by first | omega | (simp only; omega), fun q hq x1 x2 => by (try dsimp only); simp (disch := omega) only [upd_ne]; exact hkeep q hq x1 x2, rfl⟩
    have d1 : decide (sp.p < rr) = false := decide_eq_false c1
    have FX := Fx.mk (And.intro @NL <| And.intro @hag <| And.intro @hx <| And.intro @bm <| @d1)
    refine W_draw mixed rfl rfl ?_
    repeat (first | refine dq_ ?_ | refine dr_ [m, k'] ?_ | refine dm_ [m, k'] ?_ | refine da_ [m, k'] ?_ | refine ds_ [m, k'] ?_ | refine dw_ [m, k'] ?_ | refine dk_ ?_ | refine dn_ ?_)
    refine fun kd hkd => ?_
    simp only [List.length_cons, List.length_nil] at hkd
    first | (show aWp _ _ _ _ _) | skip
    have FX := Fx.mk (@e2)
    repeat (first | refine v_ ?_ | refine u_ ?_ | refine nl_ ?_ | (refine nz_ ?_; first | (show aWp _ _ _ _ _) | skip) | refine sq_ ?_ | refine rg_ ?_ | refine k_ ?_ | refine ct_ ?_ | refine cf_ ?_ | refine bk_ ?_ | refine sc_ ?_ | (refine sk_ ?_; first | (show aWp _ _ _ _ _) | skip) | (refine ex_ ?_; first | (show aWp _ _ _ _ _) | skip) | refine rt_ ?_)
    refine aWp_gen (rpF tm' h nx m g S cap sp ps.length k' i rq rr ro rp qs qr qo) ⟨?_, ?_, ?_, ?_, ?_, ?_, ?_, ?_, ?_, ?_, ?_⟩ ?_
    · repeat (refine KAgree.upd rfl ?_)
      exact KAgree.refl _ _
    · (have FX := Fx0; exact cl_)
    · (have FX := Fx.mk (@h35); exact cl_)
    · (have FX := Fx0; exact cl_)
    · (have FX := Fx0; exact cl_)
    · (have FX := Fx0; exact cl_)
    · unfold opB
      (have FX := Fx.mk (@bm); exact cl_)
    · (have FX := Fx.mk (@bg); exact cl_)
    · (have FX := Fx0; exact cl_)
    · intro q hq x1 x2
      simp (disch := omega) only [upd_ne]
      exact hkeep q hq x1 x2
    · first | omega | (simp only; omega)
    rintro tm2 H k2 ⟨hF, f9, f35, f50, f51, f52, bm2, bg2, bk2, hkeep2, hk2⟩
    have f0 : tm2 0 = .ptr m 0 0 := by rw [hF 0 rfl, hag 0 rfl]; rfl
    refine W_loopK [0, 6, 7, 9, 33, 34, 35, 50, 51] 0 (fun r tm H q => ∃ (j : Nat) (us : List (List Int)), j ≤ rp.length ∧ r = rp.length - j ∧ tm 52 = .int .i64 j ∧ pgStep sp.p qs (rp.take j) = some us ∧ H m = some ⟨16, [opB S cap sp g ps.length qr qo 0 0]⟩ ∧ H g = some ⟨1, secB us⟩ ∧ H k' = some ⟨4, [[.int .i64 rq, .int .i64 rr, .int .i64 ro, .sl (pagesB rp)]]⟩ ∧ (∀ q, q < nx → q ≠ m → q ≠ g → H q = h q) ∧ k' < q) rp.length (by first | omega | (simp only; omega)) ⟨0, qs, Nat.zero_le _, rfl, f52, by rw [List.take_zero]; rfl, bm2, bg2, bk2, hkeep2, hk2⟩ ?_
    rintro r3 tm3 H3 k3 ⟨j, us, hj, rfl, h52, hst3, bm3, bg3, bk3, hkeep3, hk3⟩ hag3 hh3 hk3'
    unfold opB at bm3
    have hul := pgStep_len _ _ _ _ hst3
    by_cases hlt2 : j < rp.length
    · have hd2 : decide ((j : Int) < (rp.length : Int)) = true := decide_eq_true (by omega)
      have hwj : IntKind.i64.wrap (j + 1) = ((j + 1 : Nat) : Int) := by rw [wrapI] <;> omega
      obtain ⟨⟨pn, pd⟩, hy0⟩ : ∃ a, rp[j]? = some a := ⟨rp[j], List.getElem?_eq_getElem hlt2⟩
      have hy := pagesB_get rp j _ hy0
      dsimp only at hy
      have hpok : Rec.okP rp j := hrok.2.2.2.2 j hlt2
      unfold Rec.okP at hpok
      rw [getD_some hy0] at hpok
      have t0 : tm3 0 = .ptr m 0 0 := (hag3 0 rfl).trans f0
      have t50 : tm3 50 = .sl (pagesB rp) := (hag3 50 rfl).trans f50
      have t51 : tm3 51 = .int .i64 (rp.length : Int) := (hag3 51 rfl).trans f51
      have FX := Fx.mk (And.intro @NL <| And.intro @t0 <| And.intro @t50 <| And.intro @t51 <| And.intro @h52 <| And.intro @hd2 <| @hy)
      repeat (first | refine v_ ?_ | refine u_ ?_ | refine nl_ ?_ | (refine nz_ ?_; first | (show aWp _ _ _ _ _) | skip) | refine sq_ ?_ | refine rg_ ?_ | refine k_ ?_ | refine ct_ ?_ | refine cf_ ?_ | refine bk_ ?_ | refine sc_ ?_ | (refine sk_ ?_; first | (show aWp _ _ _ _ _) | skip) | (refine ex_ ?_; first | (show aWp _ _ _ _ _) | skip) | refine rt_ ?_)
      by_cases c2 : sp.p < pn
      · have d2 : decide (sp.p < pn) = true := decide_eq_true c2
        have FX := Fx.mk (And.intro @NL <| And.intro @t0 <| And.intro @bm3 <| @d2)
        refine W_draw mixed rfl rfl ?_
        repeat (first | refine dq_ ?_ | refine dr_ [m, k3] ?_ | refine dm_ [m, k3] ?_ | refine da_ [m, k3] ?_ | refine ds_ [m, k3] ?_ | refine dw_ [m, k3] ?_ | refine dk_ ?_ | refine dn_ ?_)
        refine fun kd hkd => ?_
        simp only [List.length_cons, List.length_nil] at hkd
        first | (show aWp _ _ _ _ _) | skip
        have cc : Tryd.prog.concrete 31 = true := by rfl
        have FX := Fx.mk (@aop_mi)
        repeat (first | refine v_ ?_ | refine u_ ?_ | refine nl_ ?_ | (refine nz_ ?_; first | (show aWp _ _ _ _ _) | skip) | refine sq_ ?_ | refine rg_ ?_ | refine k_ ?_ | refine ct_ ?_ | refine cf_ ?_ | refine bk_ ?_ | refine sc_ ?_ | (refine sk_ ?_; first | (show aWp _ _ _ _ _) | skip) | (refine ex_ ?_; first | (show aWp _ _ _ _ _) | skip) | refine rt_ ?_)
        refine pn_ ?_
        rw [rcStep_bad hst hx0 (.inr (pgStep_bad hst3 hy0 c2))]
        exact ⟨rfl, by first | omega | (simp only; omega), fun q hq x1 x2 => by (try dsimp only); simp (disch := omega) only [upd_ne]; exact hkeep3 q hq x1 x2, rfl⟩
      have d2 : decide (sp.p < pn) = false := decide_eq_false c2
      obtain ⟨y, rfl⟩ : ∃ y : Nat, pn = (y : Int) + 1 := ⟨(pn - 1).toNat, by dsimp only at hpok; omega⟩
      have hwy : IntKind.i64.wrap ((y : Int) + 1 - 1) = (y : Int) := by rw [wrapI] <;> omega
      have hyl : y < (secB us).length := by rw [secB_len]; omega
      have hyp : y < ps.length := by omega
      have hup := secB_set us y pd
      obtain ⟨u0, hu0⟩ : ∃ u, us[y]? = some u := ⟨us[y]'(by omega), List.getElem?_eq_getElem _⟩
      have hu1 := secB_get us y u0 hu0
      have hul2 : (secB us).length = ps.length := by rw [secB_len]; omega
      have FX := Fx.mk (And.intro @NL <| And.intro @t0 <| And.intro @bm3 <| @d2)
      refine W_draw mixed rfl rfl ?_
      repeat (first | refine dq_ ?_ | refine dr_ [m, k3] ?_ | refine dm_ [m, k3] ?_ | refine da_ [m, k3] ?_ | refine ds_ [m, k3] ?_ | refine dw_ [m, k3] ?_ | refine dk_ ?_ | refine dn_ ?_)
      refine fun kd hkd => ?_
      simp only [List.length_cons, List.length_nil] at hkd
      first | (show aWp _ _ _ _ _) | skip
      have FX := Fx0
      repeat (first | refine v_ ?_ | refine u_ ?_ | refine nl_ ?_ | (refine nz_ ?_; first | (show aWp _ _ _ _ _) | skip) | refine sq_ ?_ | refine rg_ ?_ | refine k_ ?_ | refine ct_ ?_ | refine cf_ ?_ | refine bk_ ?_ | refine sc_ ?_ | (refine sk_ ?_; first | (show aWp _ _ _ _ _) | skip) | (refine ex_ ?_; first | (show aWp _ _ _ _ _) | skip) | refine rt_ ?_)
      have FX := Fx.mk (And.intro @NL <| And.intro @t0 <| And.intro @bm3 <| And.intro @bg3 <| And.intro @hwy <| And.intro @hup <| And.intro @hul2 <| @hu1)
      refine W_draw mixed rfl rfl ?_
      repeat (first | refine dq_ ?_ | refine dr_ [m, k3, g] ?_ | refine dm_ [m, k3, g] ?_ | refine da_ [m, k3, g] ?_ | refine ds_ [m, k3, g] ?_ | refine dw_ [m, k3, g] ?_ | refine dk_ ?_ | refine dn_ ?_)
      refine fun kd hkd => ?_
      simp only [List.length_cons, List.length_nil] at hkd
      first | (show aWp _ _ _ _ _) | skip
      have FX := Fx.mk (And.intro @h52 <| @hwj)
      repeat (first | refine v_ ?_ | refine u_ ?_ | refine nl_ ?_ | (refine nz_ ?_; first | (show aWp _ _ _ _ _) | skip) | refine sq_ ?_ | refine rg_ ?_ | refine k_ ?_ | refine ct_ ?_ | refine cf_ ?_ | refine bk_ ?_ | refine sc_ ?_ | (refine sk_ ?_; first | (show aWp _ _ _ _ _) | skip) | (refine ex_ ?_; first | (show aWp _ _ _ _ _) | skip) | refine rt_ ?_)
      refine ⟨rp.length - (j + 1), by omega, ⟨j + 1, us.set y pd, by omega, rfl, ?_, ?_, ?_, ?_, ?_, ?_, ?_⟩, ?_, ?_, ?_, rfl⟩
      · (have FX := Fx0; exact cl_)
      · have := pgStep_at hst3 hy0 c2
        rwa [show ((y : Int) + 1 - 1).toNat = y by omega] at this
      · unfold opB
        (have FX := Fx.mk (@bm3); exact cl_)
      · (have FX := Fx0; exact cl_)
      · (have FX := Fx.mk (@bk3); exact cl_)
      · intro q hq x1 x2
        simp (disch := omega) only [upd_ne]
        exact hkeep3 q hq x1 x2
      · simp only; omega
      · repeat (refine KAgree.upd rfl ?_)
        exact hag3
      · exact fun q hq => absurd hq (Nat.not_lt_zero q)
      · simp only; omega
    obtain rfl : j = rp.length := by omega
    have hd2 : decide ((rp.length : Int) < (rp.length : Int)) = false := by simp
    rw [List.take_length] at hst3
    have t0 : tm3 0 = .ptr m 0 0 := (hag3 0 rfl).trans f0
    have t9 : tm3 9 = .ptr k' 0 0 := (hag3 9 rfl).trans f9
    have t51 : tm3 51 = .int .i64 (rp.length : Int) := (hag3 51 rfl).trans f51
    have t35 : tm3 35 = .int .i64 (i : Int) := (hag3 35 rfl).trans f35
    have hst4 := rcStep_at hst hx0 c1 hst3
    have FX := Fx.mk (And.intro @NL <| And.intro @t0 <| And.intro @t51 <| And.intro @h52 <| @hd2)
    repeat (first | refine v_ ?_ | refine u_ ?_ | refine nl_ ?_ | (refine nz_ ?_; first | (show aWp _ _ _ _ _) | skip) | refine sq_ ?_ | refine rg_ ?_ | refine k_ ?_ | refine ct_ ?_ | refine cf_ ?_ | refine bk_ ?_ | refine sc_ ?_ | (refine sk_ ?_; first | (show aWp _ _ _ _ _) | skip) | (refine ex_ ?_; first | (show aWp _ _ _ _ _) | skip) | refine rt_ ?_)
    have FX := Fx.mk (And.intro @NL <| And.intro @t0 <| And.intro @t9 <| And.intro @bm3 <| @bk3)
    refine W_draw mixed rfl rfl ?_
    repeat (first | refine dq_ ?_ | refine dr_ [k'] ?_ | refine dm_ [m] ?_ | refine da_ [m] ?_ | refine ds_ [k'] ?_ | refine ds_ [m] ?_ | refine dw_ [k'] ?_ | refine dk_ ?_ | refine dn_ ?_)
    refine fun kd hkd => ?_
    simp only [List.length_cons, List.length_nil] at hkd
    first | (show aWp _ _ _ _ _) | skip
    have FX := Fx.mk (And.intro @t35 <| @hwi)
    repeat (first | refine v_ ?_ | refine u_ ?_ | refine nl_ ?_ | (refine nz_ ?_; first | (show aWp _ _ _ _ _) | skip) | refine sq_ ?_ | refine rg_ ?_ | refine k_ ?_ | refine ct_ ?_ | refine cf_ ?_ | refine bk_ ?_ | refine sc_ ?_ | (refine sk_ ?_; first | (show aWp _ _ _ _ _) | skip) | (refine ex_ ?_; first | (show aWp _ _ _ _ _) | skip) | refine rt_ ?_)
    refine ⟨L.length - (i + 1), by omega, ⟨i + 1, (us, rr, ro), by omega, rfl, ?_, hst4, ?_, ?_, ?_, ?_⟩, ?_, ?_, ?_, rfl⟩
    · (have FX := Fx0; exact cl_)
    · unfold opB
      (have FX := Fx0; exact cl_)
    · (have FX := Fx.mk (@bg3); exact cl_)
    · intro q hq x1 x2
      simp (disch := omega) only [upd_ne]
      exact hkeep3 q hq x1 x2
    · simp only; omega
    · repeat (refine KAgree.upd rfl ?_)
      intro t ht
      have e3 : tm3 t = tm2 t := hag3 t (by
        simp only [List.contains_eq_mem, List.mem_cons, List.not_mem_nil, or_false, decide_eq_true_eq] at ht ⊢
        omega)
      rw [e3, hF t ht]
      exact hag t ht
    · exact fun q hq => absurd hq (Nat.not_lt_zero q)
    · simp only; omega
  obtain rfl : i = L.length := by omega
  have hd : decide ((L.length : Int) < (L.length : Int)) = false := by simp
  rw [List.take_length] at hst
  rw [hst]
  have hq64 : (N : Int).tdiv 64 = (N : Int) / 64 := Int.tdiv_eq_ediv_of_nonneg (by omega)
  have hwq : IntKind.i64.wrap ((N : Int) / 64) = (N : Int) / 64 := by rw [wrapI] <;> omega
  have hwl : IntKind.i64.wrap (sp.s + (L.length : Int)) = sp.s + (L.length : Int) := by rw [wrapI] <;> omega
  have FX := Fx.mk (And.intro @NL <| And.intro @hag <| And.intro @hh <| And.intro @h35 <| And.intro @hd <| And.intro @bm <| And.intro @e1 <| And.intro @hq64 <| And.intro @hwq <| @hwl)
  repeat (first | refine v_ ?_ | refine u_ ?_ | refine nl_ ?_ | (refine nz_ ?_; first | (show aWp _ _ _ _ _) | skip) | refine sq_ ?_ | refine rg_ ?_ | refine k_ ?_ | refine ct_ ?_ | refine cf_ ?_ | refine bk_ ?_ | refine sc_ ?_ | (refine sk_ ?_; first | (show aWp _ _ _ _ _) | skip) | (refine ex_ ?_; first | (show aWp _ _ _ _ _) | skip) | refine rt_ ?_)
  refine ⟨rfl, .tup [], by rw [Tryd.results17]; rfl, ?_⟩
  refine ⟨by first | omega | (simp only; omega), fun q hq x1 x2 => ?_, rfl, ?_, ?_⟩
  · (try dsimp only)
    simp (disch := omega) only [upd_ne]
    exact hkeep q hq x1 x2
  · unfold opB
    (have FX := Fx0; exact cl_)
  · (have FX := Fx.mk (@bg); exact cl_)
end Go.Proofs.YtjidgdfdeckofaaDoor.AE

/- Layer 16 in plain words: an opening. No program in sight. -/
namespace Go.Proofs.YtjidgdfdeckofaaDoor.AE
open Go Go.RowKit Go.Proofs Go.Proofs.YtjidgdfdeckofaaDoor
open PgS
set_option linter.unusedVariables false
theorem told_ok' (b : List Int) (h : (Sup.told b).2 = 0) : (Sup.told b).1.ok := by
  unfold Sup.told at h ⊢
  split at h
  · cases h
  rename_i hl
  rw [if_neg hl]
  split at h
  · cases h
  rename_i hc
  rw [if_neg hc]
  split at h
  · rename_i hok; rw [if_pos hok]; exact hok
  · cases h
theorem newer_ok (a b : List Int) (h : (Sup.newer a b).2.2 = 0) : (Sup.newer a b).1.ok := by
  unfold Sup.newer at h ⊢
  split at h
  · cases h
  rename_i h1
  rw [if_neg h1]
  split
  · rename_i h2
    refine told_ok' b ?_
    rcases h2 with q | q
    · by_cases hb : (Sup.told b).2 = 0
      · exact hb
      · exact absurd ⟨q, hb⟩ h1
    · exact q.1
  · rename_i h2
    refine told_ok' a ?_
    by_cases ha : (Sup.told a).2 = 0
    · exact ha
    · exact absurd (.inl ha) h2
theorem pgStep_pages (P : Int) : ∀ (l : List Pg) (ps ps' : List (List Int)), pagesOk ps → (∀ p ∈ l, p.2.length = 0 ∨ p.2.length = 64) → pgStep P ps l = some ps' → pagesOk ps'
  | [], ps, ps', h, _, hs => by cases hs; exact h
  | p :: l, ps, ps', h, hl, hs => by
    rw [pgStep] at hs
    split at hs
    · cases hs
    · refine pgStep_pages P l _ _ (fun b hb => ?_) (fun q hq => hl q (by simp [hq])) hs
      rcases List.mem_or_eq_of_mem_set hb with q | rfl
      · exact h b q
      · exact hl p (by simp)
theorem rcStep_pages (P : Int) : ∀ (l : List Rec) (s s' : RSt), pagesOk s.1 → (∀ r ∈ l, r.ok) → rcStep P s l = some s' → pagesOk s'.1
  | [], s, s', h, _, hs => by cases hs; exact h
  | r :: l, s, s', h, hl, hs => by
    rw [rcStep] at hs
    split at hs
    · cases hs
    · cases hp : pgStep P s.1 r.pages with
      | none => rw [hp] at hs; cases hs
      | some ps =>
        rw [hp] at hs
        refine rcStep_pages P l _ _ (pgStep_pages P _ _ _ h (fun p hp' => ?_) hp) (fun q hq => hl q (by simp [hq])) hs
        obtain ⟨i, hi, he⟩ := List.mem_iff_getElem.1 hp'
        have := (hl r (by simp)).2.2.2.2 i hi
        unfold Rec.okP at this
        rw [getD_some (List.getElem?_eq_getElem hi), he] at this
        exact this.2.2
theorem rcStep_bounds (P : Int) : ∀ (l : List Rec) (s s' : RSt), (0 ≤ s.2.1 ∧ s.2.1 ≤ P) → (0 ≤ s.2.2 ∧ s.2.2 ≤ 65536) → (∀ r ∈ l, r.ok) → rcStep P s l = some s' → (0 ≤ s'.2.1 ∧ s'.2.1 ≤ P) ∧ (0 ≤ s'.2.2 ∧ s'.2.2 ≤ 65536)
  | [], s, s', h1, h2, _, hs => by cases hs; exact ⟨h1, h2⟩
  | r :: l, s, s', h1, h2, hl, hs => by
    have hr := hl r (by simp)
    rw [rcStep] at hs
    split at hs
    · cases hs
    · rename_i hc
      cases hp : pgStep P s.1 r.pages with
      | none => rw [hp] at hs; cases hs
      | some ps =>
        rw [hp] at hs
        exact rcStep_bounds P l (ps, r.root, r.room) s' ⟨hr.2.1.1, by dsimp only; omega⟩ hr.2.2.1 (fun q hq => hl q (by simp [hq])) hs
/-- The journal's octets. -/
def jOct (S : List (List Int)) (sp : Sup) : List Int := ((S.drop 2).take sp.j.toNat).flatten
def jScan (S : List (List Int)) (sp : Sup) : List Rec × Nat := scanS (jOct S sp) (sp.s + 1)
def stPages (S : List (List Int)) (sp : Sup) : List (List Int) := (S.drop (2 + sp.j.toNat)).take sp.p.toNat
def opT (S : List (List Int)) (cap : Int) (sp : Sup) (st : RSt) : PgS := ⟨S, [], cap, sp, wholeP st.1, st.2.1, st.2.2, sp.s + ((jScan S sp).1.length : Int), ((jScan S sp).2 : Int) / 64⟩
def opE (S : List (List Int)) (cap : Int) (sp : Sup) (st : RSt) : Except Int (PgS × List Act3) :=
  if sp.base + st.2.2 = (S.length : Int) then .ok (opT S cap sp st, []) else doP (opT S cap sp st) [] [(2, sp.base + st.2.2, []), barA]
/-- What a host has. -/
def opS (S : List (List Int)) (cap : Int) : Except Int (PgS × List Act3) :=
  if S.length < 2 then .error 21 else
  if (Sup.newer (S.getD 0 []) (S.getD 1 [])).2.2 ≠ 0 then .error (Sup.newer (S.getD 0 []) (S.getD 1 [])).2.2 else
  if (S.length : Int) < (Sup.newer (S.getD 0 []) (S.getD 1 [])).1.base then .error 21 else
  match rcStep (Sup.newer (S.getD 0 []) (S.getD 1 [])).1.p (stPages S (Sup.newer (S.getD 0 []) (S.getD 1 [])).1, (Sup.newer (S.getD 0 []) (S.getD 1 [])).1.r, (Sup.newer (S.getD 0 []) (S.getD 1 [])).1.d) (jScan S (Sup.newer (S.getD 0 []) (S.getD 1 [])).1).1 with
  | none => .error 21
  | some st => opE S cap (Sup.newer (S.getD 0 []) (S.getD 1 [])).1 st
/-- What a host that may be, or not, has. -/
def opP (S : List (List Int)) (W : List Act3) (cap : Int) : Except Int (PgS × List Act3) := if okH S W cap then opS S cap else .error 9
def opV (r : Except Int (PgS × List Act3)) : AV := match r with
  | .ok (s', L') => .tup [s'.av, .sl (actsB L'), .int .i64 0]
  | .error e => .tup [PgS.zero.av, .sl [], .int .i64 e]
end Go.Proofs.YtjidgdfdeckofaaDoor.AE
