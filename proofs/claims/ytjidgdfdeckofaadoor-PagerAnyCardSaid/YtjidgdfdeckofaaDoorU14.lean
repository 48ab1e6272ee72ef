/- Texts U14. -/
import Derived.Test.YtjidgdfdeckofaaDoorV24
import Derived.Test.YtjidgdfdeckofaaDoorV23
/- Layer 16: Commit. -/
namespace Go.Proofs.YtjidgdfdeckofaaDoor.AE
open Go Go.RowKit Go.Proofs Go.Proofs.YtjidgdfdeckofaaDoor
set_option linter.unusedVariables false
set_option linter.unusedSimpArgs false
set_option maxRecDepth 100000
set_option maxHeartbeats 8000000
theorem comP_err {s : PgS} {pages : List (List Int)} {root room : Int} {L : List Act3} {e : Int} (h : comE s pages root room = e) (he : e ≠ 0) : comP s pages root room L = .error e := by
  unfold comP
  rw [h, if_pos he]
theorem dropE_len (l : List (List Int)) : (dropE l).length ≤ l.length := by
  unfold dropE
  rw [List.length_reverse]
  exact Nat.le_trans (List.dropWhile_suffix _).length_le (by simp)
theorem dropE_mem {l : List (List Int)} {b : List Int} (h : b ∈ dropE l) : b ∈ l := by
  unfold dropE at h
  have := (List.dropWhile_suffix (p := fun b : List Int => b.length == 0) (l := l.reverse)).mem (List.mem_reverse.1 h)
  exact List.mem_reverse.1 this
theorem whole_len (l : List (List Int)) : (wholeP l).length ≤ l.length := Nat.le_trans (dropE_len _) (by simp)
theorem whole_ok {l : List (List Int)} (h : PgS.pagesOk l) : PgS.pagesOk (wholeP l) := fun b hb => by
  obtain ⟨c, hc, rfl⟩ := List.mem_map.1 (dropE_mem hb)
  rcases nullP_len c with q | q
  · exact .inl q
  · rw [q]; exact h c hc
theorem enc_bd {r : Rec} (h : r.ok) : r.enc.length ≤ 17408 := by
  have h1 := body_le h.2.2.2.2 r.pages.length (Nat.le_refl _)
  rw [List.take_length] at h1
  have h2 := h.2.2.2.1
  rw [enc_len]
  unfold padN
  omega
theorem aWp_cutP [ρ : Rnd] {P : Program} {nt : Nat} {Q : AX → St → Prop} {st : St} {x y : Code} (R : St → Prop) (h1 : aWp P nt x (fun e s => (e = .norm ∧ R s) ∨ ∃ v, e = .pan v ∧ Q (.pan v) s) st) (h2 : ∀ s, R s → aWp P nt y Q s) : aWp P nt (.seq x y) Q st := aWp_seq (aWp_mono h1 (by
  rintro e s (⟨rfl, q⟩ | ⟨v, rfl, q⟩)
  · exact h2 s q
  · exact q))
theorem lenbar_good {x : Int} : ∀ y ∈ [((2 : Int), x, ([] : List Int)), barA], goodA y := fun y hy => by
  simp only [List.mem_cons, List.not_mem_nil, or_false] at hy
  rcases hy with rfl | rfl
  · exact .inr ⟨.inl rfl, rfl⟩
  · exact .inr ⟨.inr rfl, rfl⟩
theorem comZ_keeps {s s2 s4 : PgS} {room : Int} {b : List Int} {L4 L5 : List Act3} (hZ : comZ s room (comL s2 b) L4 = .ok (s4, L5)) (hs : s2.seq = s.seq) : s4.seq = s.seq ∧ s4.tail = s2.tail := by
  unfold comZ at hZ
  split at hZ
  · cases hZ; exact ⟨hs, rfl⟩
  · obtain ⟨⟨_, _, _, _, _, z6, z7⟩, _⟩ := doP_same _ hZ
    exact ⟨z6.trans hs, z7⟩
theorem aOps_gen [ρ : Rnd] {P : Program} {nt : Nat} {ops : Array Oper} {l : List Oper} {Q : AX → St → Prop} {tm : Nat → AV} {h : AHeap} {k : Nat} {df : List ADef} (F : (Nat → AV) → AHeap → Nat → Prop) (h0 : F tm h k) (hw : ∀ tm h k, F tm h k → aOps P nt ops l Q ⟨tm, h, k, df⟩) : aOps P nt ops l Q ⟨tm, h, k, df⟩ := hw _ _ _ h0
/-- What is known between a commit's parts. -/
structure comS (h : AHeap) (nx m w a p2 p3 : Nat) (root room : Int) (now : List (List Int)) (b : List Int) (n : Nat) (sz want : Int) (s2 : PgS) (L2 : List Act3) (s : St) : Prop where
  df : s.df = []
  t0 : s.tm 0 = .ptr m 0 0
  t2 : s.tm 2 = .ptr p2 0 0
  t3 : s.tm 3 = .ptr p3 0 0
  t5 : s.tm 5 = .int .i64 sz
  t7 : s.tm 7 = .int .i64 want
  t8 : s.tm 8 = .sl (secB now)
  t10 : s.tm 10 = .sl (numB .u8 b)
  t12 : s.tm 12 = .int .i64 (n : Int)
  keep : keepX h s.h nx m w a
  le : nx ≤ s.nx
  h2 : s.h p2 = some ⟨1, [[.int .i64 root]]⟩
  h3 : s.h p3 = some ⟨1, [[.int .i64 room]]⟩
  ex : ∃ w2 a2, cAt s.h m w2 a2 s2 L2 ∧ (w2 = w ∨ nx ≤ w2) ∧ (a2 = a ∨ nx ≤ a2) ∧ w2 < s.nx ∧ a2 < s.nx
open Classical in
theorem com1 (s : PgS) (L : List Act3) (m w a p1 p2 p3 : Nat) (pages : List (List Int)) (root room : Int) (hok : s.ok) (hL : L.length ≤ 800000) {h : AHeap} {nx : Nat} (hc : cAt h m w a s L) (hp1 : h p1 = some ⟨1, [[.sl (secB pages)]]⟩) (hp2 : h p2 = some ⟨1, [[.int .i64 root]]⟩) (hp3 : h p3 = some ⟨1, [[.int .i64 room]]⟩)
    (hx1 : p1 ≠ m ∧ p1 ≠ w ∧ p1 ≠ a) (hx2 : p2 ≠ m ∧ p2 ≠ w ∧ p2 ≠ a) (hx3 : p3 ≠ m ∧ p3 ≠ w ∧ p3 ≠ a) :
    aCalls Tryd.prog 32 [.ptr m 0 0, .ptr p1 0 0, .ptr p2 0 0, .ptr p3 0 0] h nx (metR h nx m w a (comP s pages root room L)) := by
  have hc0 := hc
  obtain ⟨hm, hw, ha, n1, n2, n3⟩ := hc
  unfold callB at hm
  obtain ⟨o1, o2, o3, o4, o5, o6, o7, o8, o9⟩ := id hok
  obtain ⟨v1, v2, v3, v4, v5, v6, v7⟩ := s.sup.ok_iff.1 o2
  have bb := base_bd o2
  have ba := pager_base s.sup o2
  have pl := super_PlacesP s.sup o2
  unfold Sup.av Sup.cells Sup.placesP at pl
  unfold Sup.av Sup.cells at ba
  have e1 := secB_len pages
  have od := pager_odd pages
  refine aRP_body Tryd.func32 rfl rfl (by simp [Tryd.ntmps32]) fun hreal hfresh => ?_
  rw [Tryd.ntmps32]
  have m0 := name_lt hfresh hm
  have w0 := name_lt hfresh hw
  have a0 := name_lt hfresh ha
  have q1 := name_lt hfresh hp1
  have q2 := name_lt hfresh hp2
  have q3 := name_lt hfresh hp3
  by_cases c1 : s.sup.p < (pages.length : Int)
  · rw [comP_err (show comE s pages root room = 3 from if_pos c1) (by decide)]
    have d1 : decide (s.sup.p < (pages.length : Int)) = true := decide_eq_true c1
    have FX := Fx0
    repeat (first | refine v_ ?_ | refine u_ ?_ | refine nl_ ?_ | (refine nz_ ?_; first | (show aWp _ _ _ _ _) | skip) | refine sq_ ?_ | refine rg_ ?_ | refine k_ ?_ | refine ct_ ?_ | refine cf_ ?_ | refine bk_ ?_ | refine sc_ ?_ | (refine sk_ ?_; first | (show aWp _ _ _ _ _) | skip) | (refine ex_ ?_; first | (show aWp _ _ _ _ _) | skip) | refine rt_ ?_)
    have FX := Fx.mk (And.intro @NL <| And.intro @hm <| And.intro @hp1 <| And.intro @e1 <| @d1)
    refine W_draw mixed rfl rfl ?_
    repeat (first | refine dq_ ?_ | refine dr_ [m, p1] ?_ | refine dm_ [m, p1] ?_ | refine da_ [m, p1] ?_ | refine ds_ [m, p1] ?_ | refine dw_ [m, p1] ?_ | refine dk_ ?_ | refine dn_ ?_)
    refine fun kd hkd => ?_
    simp only [List.length_cons, List.length_nil] at hkd
    first | (show aWp _ _ _ _ _) | skip
    have cc : Tryd.prog.concrete 31 = true := by rfl
    have FX := Fx.mk (@aop_mi)
    repeat (first | refine v_ ?_ | refine u_ ?_ | refine nl_ ?_ | (refine nz_ ?_; first | (show aWp _ _ _ _ _) | skip) | refine sq_ ?_ | refine rg_ ?_ | refine k_ ?_ | refine ct_ ?_ | refine cf_ ?_ | refine bk_ ?_ | refine sc_ ?_ | (refine sk_ ?_; first | (show aWp _ _ _ _ _) | skip) | (refine ex_ ?_; first | (show aWp _ _ _ _ _) | skip) | refine rt_ ?_)
    refine pn_ ?_
    exact ⟨rfl, by first | omega | (simp only; omega), fun q hq _ _ _ => rfl, rfl⟩
  have d1 : decide (s.sup.p < (pages.length : Int)) = false := decide_eq_false c1
  by_cases c2 : PgS.pagesOk pages
  case neg =>
    rw [comP_err (show comE s pages root room = 1 by unfold comE; rw [if_neg c1, if_pos c2]) (by decide)]
    rw [decide_eq_true c2] at od
    have FX := Fx0
    repeat (first | refine v_ ?_ | refine u_ ?_ | refine nl_ ?_ | (refine nz_ ?_; first | (show aWp _ _ _ _ _) | skip) | refine sq_ ?_ | refine rg_ ?_ | refine k_ ?_ | refine ct_ ?_ | refine cf_ ?_ | refine bk_ ?_ | refine sc_ ?_ | (refine sk_ ?_; first | (show aWp _ _ _ _ _) | skip) | (refine ex_ ?_; first | (show aWp _ _ _ _ _) | skip) | refine rt_ ?_)
    have FX := Fx.mk (And.intro @NL <| And.intro @hm <| And.intro @hp1 <| And.intro @e1 <| @d1)
    refine W_draw mixed rfl rfl ?_
    repeat (first | refine dq_ ?_ | refine dr_ [m, p1] ?_ | refine dm_ [m, p1] ?_ | refine da_ [m, p1] ?_ | refine ds_ [m, p1] ?_ | refine dw_ [m, p1] ?_ | refine dk_ ?_ | refine dn_ ?_)
    refine fun kd hkd => ?_
    simp only [List.length_cons, List.length_nil] at hkd
    first | (show aWp _ _ _ _ _) | skip
    have FX := Fx.mk (@hp1)
    repeat (first | refine v_ ?_ | refine u_ ?_ | refine f_ (od) fun kf hkf => ?_ | refine nl_ ?_ | (refine nz_ ?_; first | (show aWp _ _ _ _ _) | skip) | refine sq_ ?_ | refine rg_ ?_ | refine k_ ?_ | refine ct_ ?_ | refine cf_ ?_ | refine bk_ ?_ | refine sc_ ?_ | (refine sk_ ?_; first | (show aWp _ _ _ _ _) | skip) | (refine ex_ ?_; first | (show aWp _ _ _ _ _) | skip) | refine rt_ ?_)
    have cc : Tryd.prog.concrete 31 = true := by rfl
    have FX := Fx.mk (@aop_mi)
    repeat (first | refine v_ ?_ | refine u_ ?_ | refine nl_ ?_ | (refine nz_ ?_; first | (show aWp _ _ _ _ _) | skip) | refine sq_ ?_ | refine rg_ ?_ | refine k_ ?_ | refine ct_ ?_ | refine cf_ ?_ | refine bk_ ?_ | refine sc_ ?_ | (refine sk_ ?_; first | (show aWp _ _ _ _ _) | skip) | (refine ex_ ?_; first | (show aWp _ _ _ _ _) | skip) | refine rt_ ?_)
    refine pn_ ?_
    exact ⟨rfl, by first | omega | (simp only; omega), fun q hq _ _ _ => rfl, rfl⟩
  rw [decide_eq_false (fun q => q c2)] at od
  by_cases c3 : root < 0
  · rw [comP_err (show comE s pages root room = 4 by unfold comE; rw [if_neg c1, if_neg (fun q => q c2), if_pos (.inl c3)]) (by decide)]
    have d3 : decide (root < 0) = true := decide_eq_true c3
    have FX := Fx0
    repeat (first | refine v_ ?_ | refine u_ ?_ | refine nl_ ?_ | (refine nz_ ?_; first | (show aWp _ _ _ _ _) | skip) | refine sq_ ?_ | refine rg_ ?_ | refine k_ ?_ | refine ct_ ?_ | refine cf_ ?_ | refine bk_ ?_ | refine sc_ ?_ | (refine sk_ ?_; first | (show aWp _ _ _ _ _) | skip) | (refine ex_ ?_; first | (show aWp _ _ _ _ _) | skip) | refine rt_ ?_)
    have FX := Fx.mk (And.intro @NL <| And.intro @hm <| And.intro @hp1 <| And.intro @e1 <| @d1)
    refine W_draw mixed rfl rfl ?_
    repeat (first | refine dq_ ?_ | refine dr_ [m, p1] ?_ | refine dm_ [m, p1] ?_ | refine da_ [m, p1] ?_ | refine ds_ [m, p1] ?_ | refine dw_ [m, p1] ?_ | refine dk_ ?_ | refine dn_ ?_)
    refine fun kd hkd => ?_
    simp only [List.length_cons, List.length_nil] at hkd
    first | (show aWp _ _ _ _ _) | skip
    have FX := Fx.mk (@hp1)
    repeat (first | refine v_ ?_ | refine u_ ?_ | refine f_ (od) fun kf hkf => ?_ | refine nl_ ?_ | (refine nz_ ?_; first | (show aWp _ _ _ _ _) | skip) | refine sq_ ?_ | refine rg_ ?_ | refine k_ ?_ | refine ct_ ?_ | refine cf_ ?_ | refine bk_ ?_ | refine sc_ ?_ | (refine sk_ ?_; first | (show aWp _ _ _ _ _) | skip) | (refine ex_ ?_; first | (show aWp _ _ _ _ _) | skip) | refine rt_ ?_)
    have FX := Fx.mk (And.intro @NL <| And.intro @hm <| And.intro @hp2 <| And.intro @hp3 <| @d3)
    refine W_draw mixed rfl rfl ?_
    repeat (first | refine dq_ ?_ | refine dr_ [m, p2, p3] ?_ | refine dm_ [m, p2, p3] ?_ | refine da_ [m, p2, p3] ?_ | refine ds_ [m, p2, p3] ?_ | refine dw_ [m, p2, p3] ?_ | refine dk_ ?_ | refine dn_ ?_)
    refine fun kd hkd => ?_
    simp only [List.length_cons, List.length_nil] at hkd
    first | (show aWp _ _ _ _ _) | skip
    have cc : Tryd.prog.concrete 31 = true := by rfl
    have FX := Fx.mk (@aop_mi)
    repeat (first | refine v_ ?_ | refine u_ ?_ | refine nl_ ?_ | (refine nz_ ?_; first | (show aWp _ _ _ _ _) | skip) | refine sq_ ?_ | refine rg_ ?_ | refine k_ ?_ | refine ct_ ?_ | refine cf_ ?_ | refine bk_ ?_ | refine sc_ ?_ | (refine sk_ ?_; first | (show aWp _ _ _ _ _) | skip) | (refine ex_ ?_; first | (show aWp _ _ _ _ _) | skip) | refine rt_ ?_)
    refine pn_ ?_
    exact ⟨rfl, by first | omega | (simp only; omega), fun q hq _ _ _ => rfl, rfl⟩
  have d3 : decide (root < 0) = false := decide_eq_false c3
  by_cases c4 : s.sup.p < root
  · rw [comP_err (show comE s pages root room = 4 by unfold comE; rw [if_neg c1, if_neg (fun q => q c2), if_pos (.inr (.inl c4))]) (by decide)]
    have d4 : decide (s.sup.p < root) = true := decide_eq_true c4
    have FX := Fx0
    repeat (first | refine v_ ?_ | refine u_ ?_ | refine nl_ ?_ | (refine nz_ ?_; first | (show aWp _ _ _ _ _) | skip) | refine sq_ ?_ | refine rg_ ?_ | refine k_ ?_ | refine ct_ ?_ | refine cf_ ?_ | refine bk_ ?_ | refine sc_ ?_ | (refine sk_ ?_; first | (show aWp _ _ _ _ _) | skip) | (refine ex_ ?_; first | (show aWp _ _ _ _ _) | skip) | refine rt_ ?_)
    have FX := Fx.mk (And.intro @NL <| And.intro @hm <| And.intro @hp1 <| And.intro @e1 <| @d1)
    refine W_draw mixed rfl rfl ?_
    repeat (first | refine dq_ ?_ | refine dr_ [m, p1] ?_ | refine dm_ [m, p1] ?_ | refine da_ [m, p1] ?_ | refine ds_ [m, p1] ?_ | refine dw_ [m, p1] ?_ | refine dk_ ?_ | refine dn_ ?_)
    refine fun kd hkd => ?_
    simp only [List.length_cons, List.length_nil] at hkd
    first | (show aWp _ _ _ _ _) | skip
    have FX := Fx.mk (@hp1)
    repeat (first | refine v_ ?_ | refine u_ ?_ | refine f_ (od) fun kf hkf => ?_ | refine nl_ ?_ | (refine nz_ ?_; first | (show aWp _ _ _ _ _) | skip) | refine sq_ ?_ | refine rg_ ?_ | refine k_ ?_ | refine ct_ ?_ | refine cf_ ?_ | refine bk_ ?_ | refine sc_ ?_ | (refine sk_ ?_; first | (show aWp _ _ _ _ _) | skip) | (refine ex_ ?_; first | (show aWp _ _ _ _ _) | skip) | refine rt_ ?_)
    have FX := Fx.mk (And.intro @NL <| And.intro @hm <| And.intro @hp2 <| And.intro @hp3 <| And.intro @d3 <| @d4)
    refine W_draw mixed rfl rfl ?_
    repeat (first | refine dq_ ?_ | refine dr_ [m, p2, p3] ?_ | refine dm_ [m, p2, p3] ?_ | refine da_ [m, p2, p3] ?_ | refine ds_ [m, p2, p3] ?_ | refine dw_ [m, p2, p3] ?_ | refine dk_ ?_ | refine dn_ ?_)
    refine fun kd hkd => ?_
    simp only [List.length_cons, List.length_nil] at hkd
    first | (show aWp _ _ _ _ _) | skip
    have cc : Tryd.prog.concrete 31 = true := by rfl
    have FX := Fx.mk (@aop_mi)
    repeat (first | refine v_ ?_ | refine u_ ?_ | refine nl_ ?_ | (refine nz_ ?_; first | (show aWp _ _ _ _ _) | skip) | refine sq_ ?_ | refine rg_ ?_ | refine k_ ?_ | refine ct_ ?_ | refine cf_ ?_ | refine bk_ ?_ | refine sc_ ?_ | (refine sk_ ?_; first | (show aWp _ _ _ _ _) | skip) | (refine ex_ ?_; first | (show aWp _ _ _ _ _) | skip) | refine rt_ ?_)
    refine pn_ ?_
    exact ⟨rfl, by first | omega | (simp only; omega), fun q hq _ _ _ => rfl, rfl⟩
  have d4 : decide (s.sup.p < root) = false := decide_eq_false c4
  by_cases c5 : room < 0
  · rw [comP_err (show comE s pages root room = 4 by unfold comE; rw [if_neg c1, if_neg (fun q => q c2), if_pos (.inr (.inr (.inl c5)))]) (by decide)]
    have d5 : decide (room < 0) = true := decide_eq_true c5
    have FX := Fx0
    repeat (first | refine v_ ?_ | refine u_ ?_ | refine nl_ ?_ | (refine nz_ ?_; first | (show aWp _ _ _ _ _) | skip) | refine sq_ ?_ | refine rg_ ?_ | refine k_ ?_ | refine ct_ ?_ | refine cf_ ?_ | refine bk_ ?_ | refine sc_ ?_ | (refine sk_ ?_; first | (show aWp _ _ _ _ _) | skip) | (refine ex_ ?_; first | (show aWp _ _ _ _ _) | skip) | refine rt_ ?_)
    have FX := Fx.mk (And.intro @NL <| And.intro @hm <| And.intro @hp1 <| And.intro @e1 <| @d1)
    refine W_draw mixed rfl rfl ?_
    repeat (first | refine dq_ ?_ | refine dr_ [m, p1] ?_ | refine dm_ [m, p1] ?_ | refine da_ [m, p1] ?_ | refine ds_ [m, p1] ?_ | refine dw_ [m, p1] ?_ | refine dk_ ?_ | refine dn_ ?_)
    refine fun kd hkd => ?_
    simp only [List.length_cons, List.length_nil] at hkd
    first | (show aWp _ _ _ _ _) | skip
    have FX := Fx.mk (@hp1)
    repeat (first | refine v_ ?_ | refine u_ ?_ | refine f_ (od) fun kf hkf => ?_ | refine nl_ ?_ | (refine nz_ ?_; first | (show aWp _ _ _ _ _) | skip) | refine sq_ ?_ | refine rg_ ?_ | refine k_ ?_ | refine ct_ ?_ | refine cf_ ?_ | refine bk_ ?_ | refine sc_ ?_ | (refine sk_ ?_; first | (show aWp _ _ _ _ _) | skip) | (refine ex_ ?_; first | (show aWp _ _ _ _ _) | skip) | refine rt_ ?_)
    have FX := Fx.mk (And.intro @NL <| And.intro @hm <| And.intro @hp2 <| And.intro @hp3 <| And.intro @d3 <| And.intro @d4 <| @d5)
    refine W_draw mixed rfl rfl ?_
    repeat (first | refine dq_ ?_ | refine dr_ [m, p2, p3] ?_ | refine dm_ [m, p2, p3] ?_ | refine da_ [m, p2, p3] ?_ | refine ds_ [m, p2, p3] ?_ | refine dw_ [m, p2, p3] ?_ | refine dk_ ?_ | refine dn_ ?_)
    refine fun kd hkd => ?_
    simp only [List.length_cons, List.length_nil] at hkd
    first | (show aWp _ _ _ _ _) | skip
    have cc : Tryd.prog.concrete 31 = true := by rfl
    have FX := Fx.mk (@aop_mi)
    repeat (first | refine v_ ?_ | refine u_ ?_ | refine nl_ ?_ | (refine nz_ ?_; first | (show aWp _ _ _ _ _) | skip) | refine sq_ ?_ | refine rg_ ?_ | refine k_ ?_ | refine ct_ ?_ | refine cf_ ?_ | refine bk_ ?_ | refine sc_ ?_ | (refine sk_ ?_; first | (show aWp _ _ _ _ _) | skip) | (refine ex_ ?_; first | (show aWp _ _ _ _ _) | skip) | refine rt_ ?_)
    refine pn_ ?_
    exact ⟨rfl, by first | omega | (simp only; omega), fun q hq _ _ _ => rfl, rfl⟩
  have d5 : decide (room < 0) = false := decide_eq_false c5
  by_cases c6 : 65536 < room
  · rw [comP_err (show comE s pages root room = 4 by unfold comE; rw [if_neg c1, if_neg (fun q => q c2), if_pos (.inr (.inr (.inr c6)))]) (by decide)]
    have d6 : decide (65536 < room) = true := decide_eq_true c6
    have FX := Fx0
    repeat (first | refine v_ ?_ | refine u_ ?_ | refine nl_ ?_ | (refine nz_ ?_; first | (show aWp _ _ _ _ _) | skip) | refine sq_ ?_ | refine rg_ ?_ | refine k_ ?_ | refine ct_ ?_ | refine cf_ ?_ | refine bk_ ?_ | refine sc_ ?_ | (refine sk_ ?_; first | (show aWp _ _ _ _ _) | skip) | (refine ex_ ?_; first | (show aWp _ _ _ _ _) | skip) | refine rt_ ?_)
    have FX := Fx.mk (And.intro @NL <| And.intro @hm <| And.intro @hp1 <| And.intro @e1 <| @d1)
    refine W_draw mixed rfl rfl ?_
    repeat (first | refine dq_ ?_ | refine dr_ [m, p1] ?_ | refine dm_ [m, p1] ?_ | refine da_ [m, p1] ?_ | refine ds_ [m, p1] ?_ | refine dw_ [m, p1] ?_ | refine dk_ ?_ | refine dn_ ?_)
    refine fun kd hkd => ?_
    simp only [List.length_cons, List.length_nil] at hkd
    first | (show aWp _ _ _ _ _) | skip
    have FX := Fx.mk (@hp1)
    repeat (first | refine v_ ?_ | refine u_ ?_ | refine f_ (od) fun kf hkf => ?_ | refine nl_ ?_ | (refine nz_ ?_; first | (show aWp _ _ _ _ _) | skip) | refine sq_ ?_ | refine rg_ ?_ | refine k_ ?_ | refine ct_ ?_ | refine cf_ ?_ | refine bk_ ?_ | refine sc_ ?_ | (refine sk_ ?_; first | (show aWp _ _ _ _ _) | skip) | (refine ex_ ?_; first | (show aWp _ _ _ _ _) | skip) | refine rt_ ?_)
    have FX := Fx.mk (And.intro @NL <| And.intro @hm <| And.intro @hp2 <| And.intro @hp3 <| And.intro @d3 <| And.intro @d4 <| And.intro @d5 <| @d6)
    refine W_draw mixed rfl rfl ?_
    repeat (first | refine dq_ ?_ | refine dr_ [m, p2, p3] ?_ | refine dm_ [m, p2, p3] ?_ | refine da_ [m, p2, p3] ?_ | refine ds_ [m, p2, p3] ?_ | refine dw_ [m, p2, p3] ?_ | refine dk_ ?_ | refine dn_ ?_)
    refine fun kd hkd => ?_
    simp only [List.length_cons, List.length_nil] at hkd
    first | (show aWp _ _ _ _ _) | skip
    have cc : Tryd.prog.concrete 31 = true := by rfl
    have FX := Fx.mk (@aop_mi)
    repeat (first | refine v_ ?_ | refine u_ ?_ | refine nl_ ?_ | (refine nz_ ?_; first | (show aWp _ _ _ _ _) | skip) | refine sq_ ?_ | refine rg_ ?_ | refine k_ ?_ | refine ct_ ?_ | refine cf_ ?_ | refine bk_ ?_ | refine sc_ ?_ | (refine sk_ ?_; first | (show aWp _ _ _ _ _) | skip) | (refine ex_ ?_; first | (show aWp _ _ _ _ _) | skip) | refine rt_ ?_)
    refine pn_ ?_
    exact ⟨rfl, by first | omega | (simp only; omega), fun q hq _ _ _ => rfl, rfl⟩
  have d6 : decide (65536 < room) = false := decide_eq_false c6
  have c36 : ¬ (root < 0 ∨ s.sup.p < root ∨ room < 0 ∨ 65536 < room) := by omega
  have hwr : IntKind.i64.wrap (s.sup.base + room) = s.sup.base + room := by rw [wrapI] <;> omega
  have FX := Fx0
  repeat (first | refine v_ ?_ | refine u_ ?_ | refine nl_ ?_ | (refine nz_ ?_; first | (show aWp _ _ _ _ _) | skip) | refine sq_ ?_ | refine rg_ ?_ | refine k_ ?_ | refine ct_ ?_ | refine cf_ ?_ | refine bk_ ?_ | refine sc_ ?_ | (refine sk_ ?_; first | (show aWp _ _ _ _ _) | skip) | (refine ex_ ?_; first | (show aWp _ _ _ _ _) | skip) | refine rt_ ?_)
  have FX := Fx.mk (And.intro @NL <| And.intro @hm <| And.intro @hp1 <| And.intro @e1 <| @d1)
  refine W_draw mixed rfl rfl ?_
  repeat (first | refine dq_ ?_ | refine dr_ [m, p1] ?_ | refine dm_ [m, p1] ?_ | refine da_ [m, p1] ?_ | refine ds_ [m, p1] ?_ | refine dw_ [m, p1] ?_ | refine dk_ ?_ | refine dn_ ?_)
  refine fun kd hkd => ?_
  simp only [List.length_cons, List.length_nil] at hkd
  first | (show aWp _ _ _ _ _) | skip
  have FX := Fx.mk (@hp1)
  repeat (first | refine v_ ?_ | refine u_ ?_ | refine f_ (od) fun kf hkf => ?_ | refine nl_ ?_ | (refine nz_ ?_; first | (show aWp _ _ _ _ _) | skip) | refine sq_ ?_ | refine rg_ ?_ | refine k_ ?_ | refine ct_ ?_ | refine cf_ ?_ | refine bk_ ?_ | refine sc_ ?_ | (refine sk_ ?_; first | (show aWp _ _ _ _ _) | skip) | (refine ex_ ?_; first | (show aWp _ _ _ _ _) | skip) | refine rt_ ?_)
  have FX := Fx.mk (And.intro @NL <| And.intro @hm <| And.intro @hp2 <| And.intro @hp3 <| And.intro @d3 <| And.intro @d4 <| And.intro @d5 <| @d6)
  refine W_draw mixed rfl rfl ?_
  repeat (first | refine dq_ ?_ | refine dr_ [m, p2, p3] ?_ | refine dm_ [m, p2, p3] ?_ | refine da_ [m, p2, p3] ?_ | refine ds_ [m, p2, p3] ?_ | refine dw_ [m, p2, p3] ?_ | refine dk_ ?_ | refine dn_ ?_)
  refine fun kd hkd => ?_
  simp only [List.length_cons, List.length_nil] at hkd
  first | (show aWp _ _ _ _ _) | skip
  have FX := Fx.mk (And.intro @NL <| And.intro @hm <| @hw)
  repeat (first | refine v_ ?_ | refine u_ ?_ | refine e_ (len_told s o1 w (by exact cl_)) fun kf hkf => ?_ | refine nl_ ?_ | (refine nz_ ?_; first | (show aWp _ _ _ _ _) | skip) | refine sq_ ?_ | refine rg_ ?_ | refine k_ ?_ | refine ct_ ?_ | refine cf_ ?_ | refine bk_ ?_ | refine sc_ ?_ | (refine sk_ ?_; first | (show aWp _ _ _ _ _) | skip) | (refine ex_ ?_; first | (show aWp _ _ _ _ _) | skip) | refine rt_ ?_)
  have FX := Fx.mk (And.intro @NL <| And.intro @hm <| And.intro @hp3 <| @hwr)
  refine W_draw mixed rfl rfl ?_
  repeat (first | refine dq_ ?_ | refine df_ (ba) ?_ | refine dr_ [m, p3] ?_ | refine dm_ [m, p3] ?_ | refine da_ [m, p3] ?_ | refine ds_ [m, p3] ?_ | refine dw_ [m, p3] ?_ | refine dk_ ?_ | refine dn_ ?_)
  refine fun kd hkd => ?_
  simp only [List.length_cons, List.length_nil] at hkd
  first | (show aWp _ _ _ _ _) | skip
  by_cases c7 : s.size < s.sup.base + room
  · rw [comP_err (show comE s pages root room = 51 by unfold comE; rw [if_neg c1, if_neg (fun q => q c2), if_neg c36, if_pos c7]) (by decide)]
    have d7 : decide (s.size < s.sup.base + room) = true := decide_eq_true c7
    have FX := Fx.mk (@d7)
    repeat (first | refine v_ ?_ | refine u_ ?_ | refine nl_ ?_ | (refine nz_ ?_; first | (show aWp _ _ _ _ _) | skip) | refine sq_ ?_ | refine rg_ ?_ | refine k_ ?_ | refine ct_ ?_ | refine cf_ ?_ | refine bk_ ?_ | refine sc_ ?_ | (refine sk_ ?_; first | (show aWp _ _ _ _ _) | skip) | (refine ex_ ?_; first | (show aWp _ _ _ _ _) | skip) | refine rt_ ?_)
    have cc : Tryd.prog.concrete 31 = true := by rfl
    have FX := Fx.mk (@aop_mi)
    repeat (first | refine v_ ?_ | refine u_ ?_ | refine nl_ ?_ | (refine nz_ ?_; first | (show aWp _ _ _ _ _) | skip) | refine sq_ ?_ | refine rg_ ?_ | refine k_ ?_ | refine ct_ ?_ | refine cf_ ?_ | refine bk_ ?_ | refine sc_ ?_ | (refine sk_ ?_; first | (show aWp _ _ _ _ _) | skip) | (refine ex_ ?_; first | (show aWp _ _ _ _ _) | skip) | refine rt_ ?_)
    refine pn_ ?_
    exact ⟨rfl, by first | omega | (simp only; omega), fun q hq _ _ _ => rfl, rfl⟩
  have d7 : decide (s.size < s.sup.base + room) = false := decide_eq_false c7
  have hpl : pages.length ≤ 2048 := by omega
  have wh := pager_whole pages (by omega) (fun b hb => by rcases c2 b hb with q | q <;> omega)
  obtain ⟨now, hnow⟩ : ∃ now, wholeP pages = now := ⟨_, rfl⟩
  have nl : now.length ≤ pages.length := hnow ▸ whole_len pages
  have nok : PgS.pagesOk now := hnow ▸ whole_ok c2
  have ch := pager_changed s.pages now (by omega) (by omega) (fun b hb => by rcases nok b hb with q | q <;> omega)
  obtain ⟨l, hl⟩ : ∃ l, changedP s.pages now = l := ⟨_, rfl⟩
  have e2 := pagesB_len l
  rw [hnow] at wh
  rw [hl] at ch
  have hcR : comR s pages root room = ⟨s.seq + 1, root, room, l⟩ := by unfold comR; rw [hnow, hl]
  by_cases c8 : 256 < l.length
  · rw [comP_err (show comE s pages root room = 3 by unfold comE; rw [if_neg c1, if_neg (fun q => q c2), if_neg c36, if_neg c7, hnow, hl, if_pos c8]) (by decide)]
    have d8 : decide (256 < (l.length : Int)) = true := decide_eq_true (by omega)
    have FX := Fx.mk (And.intro @NL <| And.intro @hm <| And.intro @hp1 <| And.intro @d7 <| And.intro @d8 <| @e2)
    repeat (first | refine v_ ?_ | refine u_ ?_ | refine f_ (wh) fun kf hkf => ?_ | refine f_ (ch) fun kf hkf => ?_ | refine nl_ ?_ | (refine nz_ ?_; first | (show aWp _ _ _ _ _) | skip) | refine sq_ ?_ | refine rg_ ?_ | refine k_ ?_ | refine ct_ ?_ | refine cf_ ?_ | refine bk_ ?_ | refine sc_ ?_ | (refine sk_ ?_; first | (show aWp _ _ _ _ _) | skip) | (refine ex_ ?_; first | (show aWp _ _ _ _ _) | skip) | refine rt_ ?_)
    have cc : Tryd.prog.concrete 31 = true := by rfl
    have FX := Fx.mk (@aop_mi)
    repeat (first | refine v_ ?_ | refine u_ ?_ | refine nl_ ?_ | (refine nz_ ?_; first | (show aWp _ _ _ _ _) | skip) | refine sq_ ?_ | refine rg_ ?_ | refine k_ ?_ | refine ct_ ?_ | refine cf_ ?_ | refine bk_ ?_ | refine sc_ ?_ | (refine sk_ ?_; first | (show aWp _ _ _ _ _) | skip) | (refine ex_ ?_; first | (show aWp _ _ _ _ _) | skip) | refine rt_ ?_)
    refine pn_ ?_
    exact ⟨rfl, by first | omega | (simp only; omega), fun q hq _ _ _ => rfl, rfl⟩
  have d8 : decide (256 < (l.length : Int)) = false := decide_eq_false (by omega)
  have FX := Fx.mk (And.intro @NL <| And.intro @hm <| And.intro @hp1 <| And.intro @d7 <| And.intro @d8 <| @e2)
  repeat (first | refine v_ ?_ | refine u_ ?_ | refine f_ (wh) fun kf hkf => ?_ | refine f_ (ch) fun kf hkf => ?_ | refine nl_ ?_ | (refine nz_ ?_; first | (show aWp _ _ _ _ _) | skip) | refine sq_ ?_ | refine rg_ ?_ | refine k_ ?_ | refine ct_ ?_ | refine cf_ ?_ | refine bk_ ?_ | refine sc_ ?_ | (refine sk_ ?_; first | (show aWp _ _ _ _ _) | skip) | (refine ex_ ?_; first | (show aWp _ _ _ _ _) | skip) | refine rt_ ?_)
  by_cases c9 : 1099511627776 ≤ s.seq ∨ 1099511627776 ≤ s.sup.e
  · rw [comP_err (show comE s pages root room = 51 by unfold comE; rw [if_neg c1, if_neg (fun q => q c2), if_neg c36, if_neg c7, hnow, hl, if_neg c8, if_pos c9]) (by decide)]
    have d9 : decide (1099511627776 ≤ (if s.seq < s.sup.e then s.sup.e else s.seq)) = true := decide_eq_true (by split <;> omega)
    have FX := Fx.mk (And.intro @NL <| And.intro @hm <| @d9)
    refine W_draw mixed rfl rfl ?_
    repeat (first | refine dq_ ?_ | refine dr_ [m] ?_ | refine dm_ [m] ?_ | refine da_ [m] ?_ | refine ds_ [m] ?_ | refine dw_ [m] ?_ | refine dk_ ?_ | refine dn_ ?_)
    refine fun kd hkd => ?_
    simp only [List.length_cons, List.length_nil] at hkd
    first | (show aWp _ _ _ _ _) | skip
    have cc : Tryd.prog.concrete 31 = true := by rfl
    have FX := Fx.mk (@aop_mi)
    repeat (first | refine v_ ?_ | refine u_ ?_ | refine nl_ ?_ | (refine nz_ ?_; first | (show aWp _ _ _ _ _) | skip) | refine sq_ ?_ | refine rg_ ?_ | refine k_ ?_ | refine ct_ ?_ | refine cf_ ?_ | refine bk_ ?_ | refine sc_ ?_ | (refine sk_ ?_; first | (show aWp _ _ _ _ _) | skip) | (refine ex_ ?_; first | (show aWp _ _ _ _ _) | skip) | refine rt_ ?_)
    refine pn_ ?_
    exact ⟨rfl, by first | omega | (simp only; omega), fun q hq _ _ _ => rfl, rfl⟩
  have d9 : decide (1099511627776 ≤ (if s.seq < s.sup.e then s.sup.e else s.seq)) = false := decide_eq_false (by split <;> omega)
  have hws : IntKind.i64.wrap (s.seq + 1) = s.seq + 1 := by rw [wrapI] <;> omega
  have FX := Fx.mk (And.intro @NL <| And.intro @hm <| @d9)
  refine W_draw mixed rfl rfl ?_
  repeat (first | refine dq_ ?_ | refine dr_ [m] ?_ | refine dm_ [m] ?_ | refine da_ [m] ?_ | refine ds_ [m] ?_ | refine dw_ [m] ?_ | refine dk_ ?_ | refine dn_ ?_)
  refine fun kd hkd => ?_
  simp only [List.length_cons, List.length_nil] at hkd
  first | (show aWp _ _ _ _ _) | skip
  by_cases c10 : (comR s pages root room).ok
  case neg =>
    rw [comP_err (show comE s pages root room = 9 by unfold comE; rw [if_neg c1, if_neg (fun q => q c2), if_neg c36, if_neg c7, hnow, hl, if_neg c8, if_neg c9, if_pos c10]) (by decide)]
    have en := journal_Encode_bad _ c10
    rw [hcR] at en
    unfold Rec.av at en
    dsimp only at en
    have FX := Fx0
    repeat (first | refine v_ ?_ | refine u_ ?_ | refine nl_ ?_ | (refine nz_ ?_; first | (show aWp _ _ _ _ _) | skip) | refine sq_ ?_ | refine rg_ ?_ | refine k_ ?_ | refine ct_ ?_ | refine cf_ ?_ | refine bk_ ?_ | refine sc_ ?_ | (refine sk_ ?_; first | (show aWp _ _ _ _ _) | skip) | (refine ex_ ?_; first | (show aWp _ _ _ _ _) | skip) | refine rt_ ?_)
    have FX := Fx.mk (And.intro @NL <| And.intro @hm <| And.intro @hp2 <| And.intro @hp3 <| @hws)
    refine W_draw mixed rfl rfl ?_
    repeat (first | refine dq_ ?_ | refine df_ (en) ?_ | refine dr_ [m, p2, p3] ?_ | refine dm_ [m, p2, p3] ?_ | refine da_ [m, p2, p3] ?_ | refine ds_ [m, p2, p3] ?_ | refine dw_ [m, p2, p3] ?_ | refine dk_ ?_ | refine dn_ ?_)
    refine fun kd hkd => ?_
    simp only [List.length_cons, List.length_nil] at hkd
    first | (show aWp _ _ _ _ _) | skip
    have FX := Fx0
    repeat (first | refine v_ ?_ | refine u_ ?_ | refine p_ ((must_no 9 (by decide))) fun kf hkf => ?_ | refine nl_ ?_ | (refine nz_ ?_; first | (show aWp _ _ _ _ _) | skip) | refine sq_ ?_ | refine rg_ ?_ | refine k_ ?_ | refine ct_ ?_ | refine cf_ ?_ | refine bk_ ?_ | refine sc_ ?_ | (refine sk_ ?_; first | (show aWp _ _ _ _ _) | skip) | (refine ex_ ?_; first | (show aWp _ _ _ _ _) | skip) | refine rt_ ?_)
    -- DBG
    exact ⟨rfl, by first | omega | (simp only; omega), fun q hq _ _ _ => rfl, rfl⟩
  have en := (journal_Encode _ c10).fn_tup
  obtain ⟨b, hb⟩ : ∃ b, comB s pages root room = b := ⟨_, rfl⟩
  rw [show (comR s pages root room).enc = b from hb, hcR] at en
  unfold Rec.av at en
  dsimp only at en
  obtain ⟨n, hn⟩ : ∃ n, comN s pages root room = n := ⟨_, rfl⟩
  have hbn : b.length / 64 = n := by rw [← hn, ← hb]; rfl
  have e3 := numB_len .u8 b
  have hq : (b.length : Int).tdiv 64 = (n : Int) := by rw [Int.tdiv_eq_ediv_of_nonneg (by omega), ← hbn]; omega
  have hbd : b.length ≤ 17408 := by rw [← hb]; exact enc_bd c10
  have hwn : IntKind.i64.wrap (n : Int) = (n : Int) := by rw [wrapI] <;> omega
  have FX := Fx0
  repeat (first | refine v_ ?_ | refine u_ ?_ | refine nl_ ?_ | (refine nz_ ?_; first | (show aWp _ _ _ _ _) | skip) | refine sq_ ?_ | refine rg_ ?_ | refine k_ ?_ | refine ct_ ?_ | refine cf_ ?_ | refine bk_ ?_ | refine sc_ ?_ | (refine sk_ ?_; first | (show aWp _ _ _ _ _) | skip) | (refine ex_ ?_; first | (show aWp _ _ _ _ _) | skip) | refine rt_ ?_)
  have FX := Fx.mk (And.intro @NL <| And.intro @hm <| And.intro @hp2 <| And.intro @hp3 <| @hws)
  refine W_draw mixed rfl rfl ?_
  repeat (first | refine dq_ ?_ | refine df_ (en) ?_ | refine dr_ [m, p2, p3] ?_ | refine dm_ [m, p2, p3] ?_ | refine da_ [m, p2, p3] ?_ | refine ds_ [m, p2, p3] ?_ | refine dw_ [m, p2, p3] ?_ | refine dk_ ?_ | refine dn_ ?_)
  refine fun kd hkd => ?_
  simp only [List.length_cons, List.length_nil] at hkd
  first | (show aWp _ _ _ _ _) | skip
  by_cases c11 : s.sup.j < (n : Int)
  · rw [comP_err (show comE s pages root room = 51 by unfold comE; rw [if_neg c1, if_neg (fun q => q c2), if_neg c36, if_neg c7, hnow, hl, if_neg c8, if_neg c9, if_neg (fun q => q c10), hn, if_pos c11]) (by decide)]
    have d11 : decide (s.sup.j < (n : Int)) = true := decide_eq_true c11
    have FX := Fx.mk (And.intro @NL <| And.intro @hm <| And.intro @e3 <| And.intro @hq <| And.intro @hwn <| @d11)
    repeat (first | refine v_ ?_ | refine u_ ?_ | refine f_ (must_ok) fun kf hkf => ?_ | refine nl_ ?_ | (refine nz_ ?_; first | (show aWp _ _ _ _ _) | skip) | refine sq_ ?_ | refine rg_ ?_ | refine k_ ?_ | refine ct_ ?_ | refine cf_ ?_ | refine bk_ ?_ | refine sc_ ?_ | (refine sk_ ?_; first | (show aWp _ _ _ _ _) | skip) | (refine ex_ ?_; first | (show aWp _ _ _ _ _) | skip) | refine rt_ ?_)
    have cc : Tryd.prog.concrete 31 = true := by rfl
    have FX := Fx.mk (@aop_mi)
    repeat (first | refine v_ ?_ | refine u_ ?_ | refine nl_ ?_ | (refine nz_ ?_; first | (show aWp _ _ _ _ _) | skip) | refine sq_ ?_ | refine rg_ ?_ | refine k_ ?_ | refine ct_ ?_ | refine cf_ ?_ | refine bk_ ?_ | refine sc_ ?_ | (refine sk_ ?_; first | (show aWp _ _ _ _ _) | skip) | (refine ex_ ?_; first | (show aWp _ _ _ _ _) | skip) | refine rt_ ?_)
    refine pn_ ?_
    exact ⟨rfl, by first | omega | (simp only; omega), fun q hq _ _ _ => rfl, rfl⟩
  have d11 : decide (s.sup.j < (n : Int)) = false := decide_eq_false c11
  have FX := Fx.mk (And.intro @NL <| And.intro @hm <| And.intro @e3 <| And.intro @hq <| And.intro @hwn <| @d11)
  repeat (first | refine v_ ?_ | refine u_ ?_ | refine f_ (must_ok) fun kf hkf => ?_ | refine nl_ ?_ | (refine nz_ ?_; first | (show aWp _ _ _ _ _) | skip) | refine sq_ ?_ | refine rg_ ?_ | refine k_ ?_ | refine ct_ ?_ | refine cf_ ?_ | refine bk_ ?_ | refine sc_ ?_ | (refine sk_ ?_; first | (show aWp _ _ _ _ _) | skip) | (refine ex_ ?_; first | (show aWp _ _ _ _ _) | skip) | refine rt_ ?_)
  have hE : comE s pages root room = 0 := by unfold comE; rw [if_neg c1, if_neg (fun q => q c2), if_neg c36, if_neg c7, hnow, hl, if_neg c8, if_neg c9, if_neg (fun q => q c10), hn, if_neg c11]
  refine aOps_sub (Sub.acts (t := 132) (l := [barA]) rfl (by (have FX := Fx0; exact cl_)) rfl rfl) ?_
  refine RP_ (pager_do s L [barA] m w a o1 bar_good (by simp; omega) ⟨by unfold callB; (have FX := Fx.mk (@hm); exact cl_), by (have FX := Fx.mk (@hw); exact cl_), by (have FX := Fx.mk (@ha); exact cl_), n1, n2, n3⟩) ?_ (by rintro av H k2 ⟨r1, r2, r3⟩; rw [doP_bar] at r3; cases r3.1)
  rintro av H1 k1 ⟨r1, r2, r3⟩
  rw [doP_bar] at r3
  obtain ⟨r3, w1, a1, r4, r5, r6, r7, hc1⟩ := r3
  cases r3
  have hk1 : keepX h H1 nx m w a := fun q hq z1 z2 z3 => by
    rw [r2 q (by first | omega | (simp only; omega)) z1 z2 z3]
    simp (disch := omega) only [upd_ne]
  have g2 : H1 p2 = some ⟨1, [[.int .i64 root]]⟩ := by rw [hk1 p2 q2 hx2.1 hx2.2.1 hx2.2.2]; exact hp2
  have g3 : H1 p3 = some ⟨1, [[.int .i64 room]]⟩ := by rw [hk1 p3 q3 hx3.1 hx3.2.1 hx3.2.2]; exact hp3
  have bm := hc1.hm
  unfold callB at bm
  change H1 m = some ⟨16, [[.sl (secB (allH s.S s.W)), .hs w1 0 0, .int .i64 s.cap, .int .i64 s.sup.e, .int .i64 s.sup.v, .int .i64 s.sup.j, .int .i64 s.sup.p, .int .i64 s.sup.d, .int .i64 s.sup.s, .int .i64 s.sup.r, .sl (secB s.pages), .int .i64 s.root, .int .i64 s.room, .int .i64 s.seq, .int .i64 s.tail, .hs a1 0 (L ++ [barA]).length]]⟩ at bm
  have hwt : IntKind.i64.wrap (s.tail + (n : Int)) = s.tail + (n : Int) := by rw [wrapI] <;> omega
  show aOps _ _ _ _ _ _
  have FX := Fx0
  repeat (first | refine v_ ?_ | refine u_ ?_ | refine nl_ ?_ | (refine nz_ ?_; first | (show aWp _ _ _ _ _) | skip) | refine sq_ ?_ | refine rg_ ?_ | refine k_ ?_ | refine ct_ ?_ | refine cf_ ?_ | refine bk_ ?_ | refine sc_ ?_ | (refine sk_ ?_; first | (show aWp _ _ _ _ _) | skip) | (refine ex_ ?_; first | (show aWp _ _ _ _ _) | skip) | refine rt_ ?_)
  have FX := Fx.mk (And.intro @NL <| And.intro @bm <| @hwt)
  refine W_draw mixed rfl rfl ?_
  repeat (first | refine dq_ ?_ | refine dr_ [m] ?_ | refine dm_ [m] ?_ | refine da_ [m] ?_ | refine ds_ [m] ?_ | refine dw_ [m] ?_ | refine dk_ ?_ | refine dn_ ?_)
  refine fun kd hkd => ?_
  simp only [List.length_cons, List.length_nil] at hkd
  first | (show aWp _ _ _ _ _) | skip
  refine aWp_mono (Q := fun e st => (e = .norm ∧ ∃ s2 L2, comC s pages root room L = .ok (s2, L2) ∧ comS h nx m w a p2 p3 root room now b n s.size (s.sup.base + room) s2 L2 st) ∨ ∃ v, e = .pan v ∧ st.df = [] ∧ metR h nx m w a (comP s pages root room L) (.pan v) st.h st.nx) ?_ ?_
  · by_cases ct : s.sup.j < s.tail + (n : Int)
    · have dt : decide (s.sup.j < s.tail + (n : Int)) = true := decide_eq_true ct
      have hC : comC s pages root room L = ckP (flushP s) (L ++ [barA]) := by unfold comC; rw [hn, if_pos ct]
      have FX := Fx.mk (@dt)
      repeat (first | refine v_ ?_ | refine u_ ?_ | refine nl_ ?_ | (refine nz_ ?_; first | (show aWp _ _ _ _ _) | skip) | refine sq_ ?_ | refine rg_ ?_ | refine k_ ?_ | refine ct_ ?_ | refine cf_ ?_ | refine bk_ ?_ | refine sc_ ?_ | (refine sk_ ?_; first | (show aWp _ _ _ _ _) | skip) | (refine ex_ ?_; first | (show aWp _ _ _ _ _) | skip) | refine rt_ ?_)
      refine RP_ (pager_checkpoint (flushP s) (L ++ [barA]) m w1 a1 (flush_host o1) o2 o3 (by show s.pages.length ≤ _; omega) (by simp; omega) hc1) ?_ ?_
      · rintro av H3 k3 ⟨x1, x2, x3⟩
        cases hck : ckP (flushP s) (L ++ [barA]) with
        | error e => rw [hck] at x3; cases x3
        | ok p =>
          obtain ⟨s2, L2⟩ := p
          rw [hck] at x3 hC
          obtain ⟨x3, w2, a2, x4, x5, x6, x7, hc2⟩ := x3
          cases x3
          have hk3 : keepX h H3 nx m w a := fun q hq z1 z2 z3 => by
            rw [x2 q (by (try simp only at r1); first | omega | (simp only; omega)) z1 (by (try simp only at r4); omega) (by (try simp only at r5); omega)]
            exact hk1 q hq z1 z2 z3
          show aOps _ _ _ _ _ _
          have FX := Fx0
          repeat (first | refine v_ ?_ | refine u_ ?_ | refine nl_ ?_ | (refine nz_ ?_; first | (show aWp _ _ _ _ _) | skip) | refine sq_ ?_ | refine rg_ ?_ | refine k_ ?_ | refine ct_ ?_ | refine cf_ ?_ | refine bk_ ?_ | refine sc_ ?_ | (refine sk_ ?_; first | (show aWp _ _ _ _ _) | skip) | (refine ex_ ?_; first | (show aWp _ _ _ _ _) | skip) | refine rt_ ?_)
          refine .inl ⟨rfl, _, _, hC, ⟨rfl, rfl, rfl, rfl, rfl, rfl, rfl, rfl, rfl, hk3, by (try simp only at r1 x1); first | omega | (simp only; omega), (hk3 p2 q2 hx2.1 hx2.2.1 hx2.2.2).trans hp2, (hk3 p3 q3 hx3.1 hx3.2.1 hx3.2.2).trans hp3, w2, a2, hc2, by (try simp only at r1 r4 x4); omega, by (try simp only at r1 r5 x5); omega, by first | omega | (simp only; omega), by first | omega | (simp only; omega)⟩⟩
      · rintro av H3 k3 ⟨x1, x2, x3⟩
        cases hck : ckP (flushP s) (L ++ [barA]) with
        | ok p => rw [hck] at x3; cases x3.1
        | error e =>
          rw [hck] at x3 hC
          cases x3
          refine .inr ⟨_, rfl, rfl, ?_⟩
          rw [show comP s pages root room L = .error e by unfold comP; rw [hE, if_neg (by decide), hC]]
          refine ⟨by (try simp only at r1 x1); first | omega | (simp only; omega), fun q hq z1 z2 z3 => ?_, rfl⟩
          (try dsimp only)
          rw [x2 q (by (try simp only at r1); first | omega | (simp only; omega)) z1 (by (try simp only at r4); omega) (by (try simp only at r5); omega)]
          exact hk1 q hq z1 z2 z3
    · have dt : decide (s.sup.j < s.tail + (n : Int)) = false := decide_eq_false ct
      have hC : comC s pages root room L = .ok (flushP s, L ++ [barA]) := by unfold comC; rw [hn, if_neg ct]
      have FX := Fx.mk (@dt)
      repeat (first | refine v_ ?_ | refine u_ ?_ | refine nl_ ?_ | (refine nz_ ?_; first | (show aWp _ _ _ _ _) | skip) | refine sq_ ?_ | refine rg_ ?_ | refine k_ ?_ | refine ct_ ?_ | refine cf_ ?_ | refine bk_ ?_ | refine sc_ ?_ | (refine sk_ ?_; first | (show aWp _ _ _ _ _) | skip) | (refine ex_ ?_; first | (show aWp _ _ _ _ _) | skip) | refine rt_ ?_)
      refine .inl ⟨rfl, _, _, hC, ⟨rfl, rfl, rfl, rfl, rfl, rfl, rfl, rfl, rfl, hk1, by (try simp only at r1); first | omega | (simp only; omega), g2, g3, w1, a1, hc1, by (try simp only at r4); omega, by (try simp only at r5); omega, by first | exact r6 | omega | (simp only; omega), by first | exact r7 | omega | (simp only; omega)⟩⟩
  · rintro e ⟨tm2, H2, k2, df2⟩ (⟨rfl, s2, L2, hC, hS⟩ | ⟨v, rfl, z⟩)
    case inr => exact z
    show aWp _ _ _ _ _
    have hF := comC_ok hok (by rw [hn]; omega) hC
    rw [hn] at hF
    obtain ⟨hdf, t0, t2, t3, t5, t7, t8, t10, t12, hkp, hle, g2', g3', w2, a2, hc2, hw2, ha2, wk2, ak2⟩ := hS
    simp only at hdf t0 t2 t3 t5 t7 t8 t10 t12 hkp hle g2' g3' hc2 wk2 ak2
    subst hdf
    obtain ⟨f1, f2, f3, f4, f5, f6, f7, f8, f9⟩ := hF
    have cm := hc2.hm
    unfold callB at cm
    have pl2 := super_PlacesP s2.sup f4
    unfold Sup.av Sup.cells Sup.placesP at pl2
    have b64 : b.length = 64 * n := by
      have := enc_len (comR s pages root room)
      rw [show (comR s pages root room).enc = b from hb] at this
      unfold padN at this
      omega
    have hw2t : IntKind.i64.wrap (2 + s2.tail) = 2 + s2.tail := by rw [wrapI] <;> omega
    have hsz : 2 + s2.tail + (n : Int) ≤ s2.size := by
      rw [f2]
      have : s.sup.base = 2 + s.sup.j + s.sup.p := rfl
      omega
    have hlay := doP_lay (s := s2) (L := L2) b64 (show 0 ≤ 2 + s2.tail by omega) hsz (by rw [f1]; simp; omega)
    have FX := Fx.mk (And.intro @NL <| And.intro @t0 <| And.intro @t10 <| And.intro @cm <| @hw2t)
    repeat (first | refine v_ ?_ | refine u_ ?_ | refine f_ (pl2) fun kf hkf => ?_ | refine nl_ ?_ | (refine nz_ ?_; first | (show aWp _ _ _ _ _) | skip) | refine sq_ ?_ | refine rg_ ?_ | refine k_ ?_ | refine ct_ ?_ | refine cf_ ?_ | refine bk_ ?_ | refine sc_ ?_ | (refine sk_ ?_; first | (show aWp _ _ _ _ _) | skip) | (refine ex_ ?_; first | (show aWp _ _ _ _ _) | skip) | refine rt_ ?_)
    refine RP_ (pager_lay s2 _ L2 _ m w2 a2 (2 + s2.tail) b n f3 b64 (by omega) (by omega) (by omega) hlay hc2) ?_ (by rintro av H3 k3 ⟨x1, x2, x3⟩; cases x3.1)
    rintro av H3 k3 ⟨x1, x2, x3, w3, a3, x4, x5, x6, x7, hc3⟩
    cases x3
    have hk3 : keepX h H3 nx m w a := fun q hq z1 z2 z3 => by
      rw [x2 q (by (try simp only at hle); first | omega | (simp only; omega)) z1 (by omega) (by omega)]
      exact hkp q hq z1 z2 z3
    obtain ⟨s3, hs3⟩ : ∃ s3 : PgS, { s2 with W := s2.W ++ layA (2 + s2.tail) b } = s3 := ⟨_, rfl⟩
    rw [hs3] at hc3 hlay
    have hll : (layA (2 + s2.tail) b).length = n := by simp [layA]; omega
    have ok3 : s3.okHost := doP_host _ f3 (layA_good _ _) hlay
    show aOps _ _ _ _ _ _
    have FX := Fx.mk (And.intro @NL <| @t0)
    repeat (first | refine v_ ?_ | refine u_ ?_ | refine nl_ ?_ | (refine nz_ ?_; first | (show aWp _ _ _ _ _) | skip) | refine sq_ ?_ | refine rg_ ?_ | refine k_ ?_ | refine ct_ ?_ | refine cf_ ?_ | refine bk_ ?_ | refine sc_ ?_ | (refine sk_ ?_; first | (show aWp _ _ _ _ _) | skip) | (refine ex_ ?_; first | (show aWp _ _ _ _ _) | skip) | refine rt_ ?_)
    refine aOps_sub (Sub.acts (t := 173) (l := [barA]) rfl (by (have FX := Fx0; exact cl_)) rfl rfl) ?_
    refine RP_ (pager_do s3 (L2 ++ layA (2 + s2.tail) b) [barA] m w3 a3 ok3 bar_good (by rw [List.length_append, hll]; simp; omega) ⟨by have := hc3.hm; unfold callB at this ⊢; (have FX := Fx.mk (@this); exact cl_), by (have FX := Fx.mk (@hc3.hw); exact cl_), by (have FX := Fx.mk (@hc3.ha); exact cl_), hc3.wa, hc3.wm, hc3.am⟩) ?_ (by rintro av H4 k4 ⟨x1, x2, x3⟩; rw [doP_bar] at x3; cases x3.1)
    rintro av H4 k4 ⟨z1, z2, z3⟩
    rw [doP_bar] at z3
    obtain ⟨z3, w4, a4, z4, z5, z6, z7, hc4⟩ := z3
    cases z3
    show aOps _ _ _ _ _ _
    have FX := Fx.mk (And.intro @NL <| @t0)
    repeat (first | refine v_ ?_ | refine u_ ?_ | refine nl_ ?_ | (refine nz_ ?_; first | (show aWp _ _ _ _ _) | skip) | refine sq_ ?_ | refine rg_ ?_ | refine k_ ?_ | refine ct_ ?_ | refine cf_ ?_ | refine bk_ ?_ | refine sc_ ?_ | (refine sk_ ?_; first | (show aWp _ _ _ _ _) | skip) | (refine ex_ ?_; first | (show aWp _ _ _ _ _) | skip) | refine rt_ ?_)
    have hcL : flushP s3 = comL s2 b := by rw [← hs3]; rfl
    rw [hcL] at hc4
    have hL4 : L2 ++ layA (2 + s2.tail) b ++ [barA] = L2 ++ layA (2 + s2.tail) (comB s pages root room) ++ [barA] := by rw [hb]
    have ok4 : (comL s2 b).okHost := by rw [← hcL]; exact flush_host ok3
    have hk4 : keepX h H4 nx m w a := fun q hq y1 y2 y3 => by
      rw [z2 q (by (try simp only at hle x1); first | omega | (simp only; omega)) y1 (by omega) (by omega)]
      simp (disch := omega) only [upd_ne]
      exact hk3 q hq y1 y2 y3
    have hnx4 : nx ≤ k4 := by (try simp only at hle x1 z1); omega
    have hw4 : w4 = w ∨ nx ≤ w4 := by (try simp only at hle x1 z4); omega
    have ha4 : a4 = a ∨ nx ≤ a4 := by (try simp only at hle x1 z5); omega
    generalize hL4' : L2 ++ layA (2 + s2.tail) b ++ [barA] = L4 at hc4
    have hl4 : L4.length ≤ 1000000 - 100 := by rw [← hL4', List.length_append, List.length_append, hll]; simp; omega
    have hZ0 : ∀ r, comZ s room (comL s2 b) L4 = r → comZ s room (comL s2 (comB s pages root room)) (L2 ++ layA (2 + s2.tail) (comB s pages root room) ++ [barA]) = r := fun r q => by rw [hb, hL4']; exact q
    have FX := Fx.mk (And.intro @NL <| And.intro @t5 <| @t7)
    repeat (first | refine v_ ?_ | refine u_ ?_ | refine nl_ ?_ | (refine nz_ ?_; first | (show aWp _ _ _ _ _) | skip) | refine sq_ ?_ | refine rg_ ?_ | refine k_ ?_ | refine ct_ ?_ | refine cf_ ?_ | refine bk_ ?_ | refine sc_ ?_ | (refine sk_ ?_; first | (show aWp _ _ _ _ _) | skip) | (refine ex_ ?_; first | (show aWp _ _ _ _ _) | skip) | refine rt_ ?_)
    refine aWp_mono (Q := fun e st => (e = .norm ∧ ∃ s4 L5, comZ s room (comL s2 b) L4 = .ok (s4, L5) ∧ comS h nx m w a p2 p3 root room now b n s.size (s.sup.base + room) s4 L5 st) ∨ ∃ v, e = .pan v ∧ st.df = [] ∧ metR h nx m w a (comP s pages root room L) (.pan v) st.h st.nx) ?_ ?_
    · by_cases c12 : s.size = s.sup.base + room
      · have d12 : decide (s.size = s.sup.base + room) = true := decide_eq_true c12
        have hZ : comZ s room (comL s2 b) L4 = .ok (comL s2 b, L4) := by unfold comZ; rw [if_pos c12]
        have FX := Fx.mk (And.intro @d12 <| @Bool.not_true)
        repeat (first | refine v_ ?_ | refine u_ ?_ | refine nl_ ?_ | (refine nz_ ?_; first | (show aWp _ _ _ _ _) | skip) | refine sq_ ?_ | refine rg_ ?_ | refine k_ ?_ | refine ct_ ?_ | refine cf_ ?_ | refine bk_ ?_ | refine sc_ ?_ | (refine sk_ ?_; first | (show aWp _ _ _ _ _) | skip) | (refine ex_ ?_; first | (show aWp _ _ _ _ _) | skip) | refine rt_ ?_)
        refine .inl ⟨rfl, _, _, hZ, ⟨rfl, by (have FX := Fx.mk (@t0); exact cl_), by (have FX := Fx.mk (@t2); exact cl_), by (have FX := Fx.mk (@t3); exact cl_), by (have FX := Fx.mk (@t5); exact cl_), by (have FX := Fx.mk (@t7); exact cl_), by (have FX := Fx.mk (@t8); exact cl_), by (have FX := Fx.mk (@t10); exact cl_), by (have FX := Fx.mk (@t12); exact cl_), hk4, hnx4, (hk4 p2 q2 hx2.1 hx2.2.1 hx2.2.2).trans hp2, (hk4 p3 q3 hx3.1 hx3.2.1 hx3.2.2).trans hp3, w4, a4, hc4, hw4, ha4, z6, z7⟩⟩
      · have d12 : decide (s.size = s.sup.base + room) = false := decide_eq_false c12
        have hZ : comZ s room (comL s2 b) L4 = doP (comL s2 b) L4 [(2, s.sup.base + room, []), barA] := by unfold comZ; rw [if_neg c12]
        have FX := Fx.mk (And.intro @NL <| And.intro @t0 <| And.intro @t7 <| And.intro @d12 <| @Bool.not_false)
        repeat (first | refine v_ ?_ | refine u_ ?_ | refine nl_ ?_ | (refine nz_ ?_; first | (show aWp _ _ _ _ _) | skip) | refine sq_ ?_ | refine rg_ ?_ | refine k_ ?_ | refine ct_ ?_ | refine cf_ ?_ | refine bk_ ?_ | refine sc_ ?_ | (refine sk_ ?_; first | (show aWp _ _ _ _ _) | skip) | (refine ex_ ?_; first | (show aWp _ _ _ _ _) | skip) | refine rt_ ?_)
        refine aOps_sub (Sub.acts (t := 182) (l := [(2, s.sup.base + room, []), barA]) rfl (by (have FX := Fx0; exact cl_)) rfl rfl) ?_
        refine RP_ (pager_do (comL s2 b) L4 [(2, s.sup.base + room, []), barA] m w4 a4 ok4 lenbar_good (by simp; omega) ⟨by have := hc4.hm; unfold callB at this ⊢; (have FX := Fx.mk (@this); exact cl_), by (have FX := Fx.mk (@hc4.hw); exact cl_), by (have FX := Fx.mk (@hc4.ha); exact cl_), hc4.wa, hc4.wm, hc4.am⟩) ?_ ?_
        · rintro av H5 k5 ⟨y1, y2, y3⟩
          cases hdp : doP (comL s2 b) L4 [(2, s.sup.base + room, []), barA] with
          | error e => rw [hdp] at y3; cases y3
          | ok p =>
            obtain ⟨s4, L5⟩ := p
            rw [hdp] at y3
            obtain ⟨y3, w5, a5, y4, y5, y6, y7, hc5⟩ := y3
            cases y3
            have hk5 : keepX h H5 nx m w a := fun q hq u1 u2 u3 => by
              rw [y2 q (by first | omega | (simp only; omega)) u1 (by omega) (by omega)]
              simp (disch := omega) only [upd_ne]
              exact hk4 q hq u1 u2 u3
            show aOps _ _ _ _ _ _
            have FX := Fx0
            repeat (first | refine v_ ?_ | refine u_ ?_ | refine nl_ ?_ | (refine nz_ ?_; first | (show aWp _ _ _ _ _) | skip) | refine sq_ ?_ | refine rg_ ?_ | refine k_ ?_ | refine ct_ ?_ | refine cf_ ?_ | refine bk_ ?_ | refine sc_ ?_ | (refine sk_ ?_; first | (show aWp _ _ _ _ _) | skip) | (refine ex_ ?_; first | (show aWp _ _ _ _ _) | skip) | refine rt_ ?_)
            refine .inl ⟨rfl, _, _, hZ.trans hdp, ⟨rfl, by (have FX := Fx.mk (@t0); exact cl_), by (have FX := Fx.mk (@t2); exact cl_), by (have FX := Fx.mk (@t3); exact cl_), by (have FX := Fx.mk (@t5); exact cl_), by (have FX := Fx.mk (@t7); exact cl_), by (have FX := Fx.mk (@t8); exact cl_), by (have FX := Fx.mk (@t10); exact cl_), by (have FX := Fx.mk (@t12); exact cl_), hk5, by (try simp only at y1); first | omega | (simp only; omega), (hk5 p2 q2 hx2.1 hx2.2.1 hx2.2.2).trans hp2, (hk5 p3 q3 hx3.1 hx3.2.1 hx3.2.2).trans hp3, w5, a5, hc5, by (try simp only at y4); omega, by (try simp only at y5); omega, by first | exact y6 | omega | (simp only; omega), by first | exact y7 | omega | (simp only; omega)⟩⟩
        · rintro av H5 k5 ⟨y1, y2, y3⟩
          cases hdp : doP (comL s2 b) L4 [(2, s.sup.base + room, []), barA] with
          | ok p => rw [hdp] at y3; cases y3.1
          | error e =>
            rw [hdp] at y3
            cases y3
            refine .inr ⟨_, rfl, rfl, ?_⟩
            rw [show comP s pages root room L = .error e by unfold comP; rw [hE, if_neg (by decide), hC]; dsimp only; rw [hZ0 _ (hZ.trans hdp)]]
            refine ⟨by (try simp only at y1); first | omega | (simp only; omega), fun q hq u1 u2 u3 => ?_, rfl⟩
            (try dsimp only)
            rw [y2 q (by first | omega | (simp only; omega)) u1 (by omega) (by omega)]
            simp (disch := omega) only [upd_ne]
            exact hk4 q hq u1 u2 u3
    · rintro e ⟨tm5, H6, k6, df6⟩ (⟨rfl, s4, L5, hZ, hS⟩ | ⟨v, rfl, z⟩)
      case inr => exact z
      show aWp _ _ _ _ _
      obtain ⟨hdf, t0, t2, t3, t5, t7, t8, t10, t12, hkp, hle, g2', g3', w5, a5, hc5, hw5, ha5, wk5, ak5⟩ := hS
      simp only at hdf t0 t2 t3 t5 t7 t8 t10 t12 hkp hle g2' g3' hc5 wk5 ak5
      subst hdf
      have hq4 : s4.seq = s.seq ∧ s4.tail = s2.tail := comZ_keeps hZ f8
      obtain ⟨hq4, ht4⟩ := hq4
      have e7 := hc5.hm
      unfold callB at e7
      have hws4 : IntKind.i64.wrap (s4.seq + 1) = s4.seq + 1 := by rw [wrapI] <;> omega
      have hwt4 : IntKind.i64.wrap (s4.tail + (n : Int)) = s4.tail + (n : Int) := by rw [wrapI] <;> omega
      have x2 := hx2.1
      have x3 := hx3.1
      have FX := Fx.mk (And.intro @NL <| And.intro @t0 <| And.intro @t12 <| And.intro @e7 <| And.intro @hws4 <| @hwt4)
      repeat (first | refine v_ ?_ | refine u_ ?_ | refine nl_ ?_ | (refine nz_ ?_; first | (show aWp _ _ _ _ _) | skip) | refine sq_ ?_ | refine rg_ ?_ | refine k_ ?_ | refine ct_ ?_ | refine cf_ ?_ | refine bk_ ?_ | refine sc_ ?_ | (refine sk_ ?_; first | (show aWp _ _ _ _ _) | skip) | (refine ex_ ?_; first | (show aWp _ _ _ _ _) | skip) | refine rt_ ?_)
      refine aOps_gen (fun tm H k => tm 0 = .ptr m 0 0 ∧ tm 2 = .ptr p2 0 0 ∧ tm 3 = .ptr p3 0 0 ∧ tm 8 = .sl (secB now) ∧ tm 203 = .ptr m 0 0 ∧ tm 204 = .ptr m 0 0 ∧ H m = some ⟨16, [[.sl (secB s4.S), .hs w5 0 s4.W.length, .int .i64 s4.cap, .int .i64 s4.sup.e, .int .i64 s4.sup.v, .int .i64 s4.sup.j, .int .i64 s4.sup.p, .int .i64 s4.sup.d, .int .i64 s4.sup.s, .int .i64 s4.sup.r, .sl (secB s4.pages), .int .i64 s4.root, .int .i64 s4.room, .int .i64 (s4.seq + 1), .int .i64 (s4.tail + (n : Int)), .hs a5 0 L5.length]]⟩ ∧ H p2 = some ⟨1, [[.int .i64 root]]⟩ ∧ H p3 = some ⟨1, [[.int .i64 room]]⟩ ∧ (∀ q, q ≠ m → H q = H6 q) ∧ k = k6) ⟨by (have FX := Fx.mk (@t0); exact cl_), by (have FX := Fx.mk (@t2); exact cl_), by (have FX := Fx.mk (@t3); exact cl_), by (have FX := Fx.mk (@t8); exact cl_), rfl, rfl, by rw [upd_same], by rw [upd_ne _ _ _ hx2.1, upd_ne _ _ _ hx2.1]; exact g2', by rw [upd_ne _ _ _ hx3.1, upd_ne _ _ _ hx3.1]; exact g3', fun q hq => by rw [upd_ne _ _ _ hq, upd_ne _ _ _ hq], rfl⟩ ?_
      clear e7 t0 t2 t3 t8
      rintro tm7 H7 k7 ⟨t0, t2, t3, t8, t203, t204, e8, b2, b3, hH, rfl⟩
      have FX := Fx.mk (And.intro @NL <| And.intro @t0 <| And.intro @t2 <| And.intro @t3 <| And.intro @t8 <| And.intro @t203 <| And.intro @t204 <| And.intro @e8 <| And.intro @b2 <| @b3)
      repeat (first | refine v_ ?_ | refine u_ ?_ | refine nl_ ?_ | (refine nz_ ?_; first | (show aWp _ _ _ _ _) | skip) | refine sq_ ?_ | refine rg_ ?_ | refine k_ ?_ | refine ct_ ?_ | refine cf_ ?_ | refine bk_ ?_ | refine sc_ ?_ | (refine sk_ ?_; first | (show aWp _ _ _ _ _) | skip) | (refine ex_ ?_; first | (show aWp _ _ _ _ _) | skip) | refine rt_ ?_)
      refine ⟨rfl, .tup [], by rw [Tryd.results32]; rfl, ?_⟩
      rw [show comP s pages root room L = .ok (comT s4 pages root room n, L5) by unfold comP; rw [hE, if_neg (by decide), hC]; dsimp only; rw [hZ0 _ hZ, hn]]
      refine ⟨by first | omega | (simp only; omega), fun q hq u1 u2 u3 => ?_, rfl, w5, a5, hw5, ha5, wk5, ak5, ?_⟩
      · (try dsimp only)
        simp (disch := omega) only [upd_ne]
        rw [hH q u1]
        exact hkp q hq u1 u2 u3
      · refine ⟨?_, ?_, ?_, hc5.wa, hc5.wm, hc5.am⟩
        · unfold callB comT
          rw [hnow]
          (have FX := Fx0; exact cl_)
        · show _ = some (Blk.mk 3 (actsB s4.W))
          (try dsimp only)
          simp (disch := first | exact hc5.wm | omega) only [upd_ne]
          rw [hH w5 hc5.wm]
          exact hc5.hw
        · (try dsimp only)
          simp (disch := first | exact hc5.am | omega) only [upd_ne]
          rw [hH a5 hc5.am]
          exact hc5.ha
end Go.Proofs.YtjidgdfdeckofaaDoor.AE
