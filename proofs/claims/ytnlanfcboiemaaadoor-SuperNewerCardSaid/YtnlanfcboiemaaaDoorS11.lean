/- Layer 4's law SuperNewer. -/
import Derived.Test.YtnlanfcboiemaaaDoorS10
namespace Go.Proofs.YtnlanfcboiemaaaDoor.AE
open Go Go.RowKit Go.Proofs Go.Proofs.YtnlanfcboiemaaaDoor
set_option linter.unusedVariables false
set_option linter.unusedSimpArgs false
set_option maxRecDepth 100000
set_option maxHeartbeats 8000000
/-- What is told holds anywhere. -/
def AnyW (v : AV) : Prop := ∀ {σ σ' : Sig} {w w' : World} {X X' : Nat → Nat → Prop} {B B' : Nat} {u : Value}, VR σ w X B v u → VR σ' w' X' B' v u
theorem AnyW.int (k : IntKind) (n : Int) : AnyW (.int k n) := fun h => plain1_ok rfl h
theorem AnyW.agg {l : List AV} (hl : ∀ a ∈ l, AnyW a) : AnyW (.agg l) := fun h => by
  obtain ⟨us, rfl, h1⟩ := VR.agg_iff.1 h
  exact VR.agg_iff.2 ⟨us, rfl, h1.1, fun j c v hc hv => hl c (List.mem_of_getElem? hc) (h1.2 j c v hc hv)⟩
theorem AnyW.tup {l : List AV} (hl : ∀ a ∈ l, AnyW a) : AnyW (.tup l) := fun h => by
  obtain ⟨us, rfl, h1⟩ := VR.tup_iff.1 h
  exact VR.tup_iff.2 ⟨us, rfl, h1.1, fun j c v hc hv => hl c (List.mem_of_getElem? hc) (h1.2 j c v hc hv)⟩
theorem aCalls_toldW {P : Program} {h : AHeap} {nx : Nat} {f : FuncId} {args : List AV} {v : AV} (hf : aFun P f (args.map fun a => weakA (toldA h a)) v) (hp : AnyW v) : aCalls P f args h nx (fun e h' k' => e = .ret v ∧ h' = h ∧ nx ≤ k') := by
  intro B w0 O σ w vs hs hx hk hv
  have hv2 : VRs σ w (Held σ noH) w.heap.size (args.map fun a => weakA (toldA h a)) vs.toList := ⟨by simpa using hv.1, fun j c u hc hu => by
    rw [List.getElem?_map] at hc
    obtain ⟨d, hd, rfl⟩ := Option.map_eq_some_iff.1 hc
    exact ((hv.2 j d u hd hu).toldA hs).weakA.anyB⟩
  have hs2 : SR w.heap.size w σ noH w := ⟨Below.refl _ _, Nat.le_refl _, (fun n k hn => by simp [noH] at hn), (fun n m r s b i hn => by simp [noH] at hn)⟩
  refine (hf noH nx w.heap.size w ⟨σ, noH, w, nx⟩ σ w vs hs2 hx (.refl _ _ _ _) hv2).mono ?_
  rintro e w' ⟨ae, h', nx', σ', g1, g2, g3, g4, rfl, rfl, g7⟩
  cases g1 with
  | ret _ u hu =>
  have hσ : ∀ n, (h n).isSome = true → σ' n = σ n := fun n hn => g4.σ n (by
    rcases Nat.lt_or_ge n nx with q | q
    · exact q
    · rw [hs.none_of (hx n q)] at hn; cases hn)
  have lt : ∀ b i, (w.cell? ⟨b, i, none⟩).isSome = true → b < w.heap.size := fun b i hb => by
    rcases Nat.lt_or_ge b w.heap.size with q | q
    · exact q
    · simp [World.cell?, Array.getElem?_eq_none q] at hb
  have hcell : ∀ b i, (w.cell? ⟨b, i, none⟩).isSome = true → w'.cell? ⟨b, i, none⟩ = w.cell? ⟨b, i, none⟩ := fun b i hb => World.cell?_of_block (w := w) (a := ⟨b, i, none⟩) (g2.old.block b (lt b i hb))
  have hfrz : ∀ b i, (w.cell? ⟨b, i, none⟩).isSome = true → w'.frozen? ⟨b, i, none⟩ = w.frozen? ⟨b, i, none⟩ := fun b i hb => World.frozen?_of_block (w := w) (a := ⟨b, i, none⟩) (g2.old.block b (lt b i hb))
  have held : ∀ b i, Held σ' h b i → Held σ h b i := by
    rintro b i ⟨n, r, q1, q2, q3⟩
    exact ⟨n, r, q1, by rw [← hσ n q1]; exact q2, q3⟩
  have keep : ∀ a v, VR σ w (Held σ h) B a v → VR σ' w' (Held σ' h) B a v := fun a v hv => by
    refine hv.mono (fun n r hn => ?_) (fun b i u hu hx => ⟨by rw [hcell b i (by rw [hu]; rfl)]; exact hu, fun q => hx (held b i q)⟩) (Nat.le_refl _)
    rw [g4.σ n (by
      rcases Nat.lt_or_ge n nx with q | q
      · exact q
      · rw [hx n q] at hn; cases hn)]
    exact hn
  refine ⟨.ret v, h, nx', σ', .ret v u (hp hu), ⟨hs.old.trans ⟨g2.old.os, g2.old.tape, g2.old.output, g2.old.size, fun b hb => g2.old.block b (Nat.lt_of_lt_of_le hb hs.hB)⟩, Nat.le_trans hs.hB g2.old.size, fun n k hn => ?_, fun n m r s b i h1 h2 h3 h4 => hs.dis n m r s b i h1 h2 ?_ ?_⟩, g3, hk.trans keep g4.nx (fun n hn => g4.σ n hn), rfl, rfl, g4.nx⟩
  · obtain ⟨r, q1, q2, q3, q4, q5, q6, q7⟩ := hs.blk n k hn
    refine ⟨r, by rw [hσ n (by rw [hn]; rfl)]; exact q1, q2, q3, q4, q5, fun i hi => ?_, fun i e he => ?_⟩
    · obtain ⟨p1, p2⟩ := q6 i hi
      rw [hcell _ _ p1, hfrz _ _ p1]
      exact ⟨p1, p2⟩
    · obtain ⟨p1, p2⟩ := q7 i e he
      refine ⟨p1, fun j a ha => ?_⟩
      obtain ⟨p3, u, p4, p5, p6⟩ := p2 j a ha
      exact ⟨p3, u, p4, by rw [hcell _ _ (by rw [p5]; rfl)]; exact p5, keep _ _ p6⟩
  · rw [← hσ n h1]; exact h3
  · rw [← hσ m h2]; exact h4
theorem newerV_any (a b : List Int) : AnyW (Sup.newerV a b) := AnyW.tup fun x hx => by
  simp only [List.mem_cons, List.mem_nil_iff, or_false] at hx
  rcases hx with rfl | rfl | rfl
  · refine AnyW.agg fun x hx => ?_
    simp only [Sup.cells, List.mem_cons, List.mem_nil_iff, or_false] at hx
    rcases hx with rfl | rfl | rfl | rfl | rfl | rfl | rfl <;> exact AnyW.int _ _
  · exact AnyW.int _ _
  · exact AnyW.int _ _
theorem told_row {h : AHeap} {m n : Nat} {l : List Int} (hl : l.length = n) (hm : h m = some ⟨1, numB .u8 l⟩) : weakA (toldA h (.hs m 0 n)) = .sl (numB .u8 l) := by
  have e : (numB .u8 l).length = n := by rw [numB_len, hl]
  simp only [toldA, told1, hm]
  rw [if_pos (by rw [e]; omega), List.drop_zero, List.take_of_length_le (by rw [e]; exact Nat.le_refl _)]
  rfl
theorem newest_r {h : AHeap} {nx : Nat} (m : Nat) {n : Nat} (a b : List Int) (hl : b.length = n) {v : AV} (hv : Sup.newerV a b = v) (hm : h m = some ⟨1, numB .u8 b⟩) : aEff Tryd.prog 21 [.sl (numB .u8 a), .hs m 0 n] h nx v h := by
  subst hv
  refine aCalls_toldW ?_ (newerV_any a b)
  rw [List.map_cons, List.map_cons, List.map_nil, told_row hl hm]
  exact super_Newest a b
theorem newest_l {h : AHeap} {nx : Nat} (m : Nat) {n : Nat} (b a : List Int) (hl : b.length = n) {v : AV} (hv : Sup.newerV b a = v) (hm : h m = some ⟨1, numB .u8 b⟩) : aEff Tryd.prog 21 [.hs m 0 n, .sl (numB .u8 a)] h nx v h := by
  subst hv
  refine aCalls_toldW ?_ (newerV_any b a)
  rw [List.map_cons, List.map_cons, List.map_nil, told_row hl hm]
  exact super_Newest b a
theorem newerV_ok (a b : Sup) (ha : a.ok) (hb : b.ok) : Sup.newerV a.sector b.sector = .tup [(if a.e < b.e then b else a).av, .int .i64 (if a.e < b.e then 1 else 0), .int .i64 0] := by
  unfold Sup.newerV Sup.newer
  rw [Sup.told_sector a ha, Sup.told_sector b hb]
  by_cases h : a.e < b.e
  · simp [h]
  · simp [h]
theorem newerV_rot {l : List Int} (a : Sup) (ha : a.ok) (h : Sup.told l = (Sup.zero, 21)) : Sup.newerV l a.sector = .tup [a.av, .int .i64 1, .int .i64 0] := by
  unfold Sup.newerV Sup.newer
  rw [Sup.told_sector a ha, h]
  simp
theorem law_Newer (a b : Sup) (at_ t : Int) : aFun Tryd.prog 8 [a.av, b.av, .int .i64 at_, .int .u8 t] (.bool true) := by
  have al := law_alive
  have n0 := law_num 0
  have n4 := law_num 4
  have d0 : decide ((0 : Int) = 0) = true := rfl
  have d4 : decide ((4 : Int) = 0) = false := rfl
  have d64 : decide (((64 : Nat) : Int) = 64) = true := rfl
  have d00 : decide (((0 : Nat) : Int) = 0) = true := rfl
  have hla := a.sector_len
  have hl := b.sector_len
  have ha64 : decide (((a.sector.length : Nat) : Int) = 0) = false := by rw [hla]; rfl
  by_cases ha : a.ok
  · have e1 := enc_fn a ha
    have ea := e1
    by_cases hb : b.ok
    · have e2 := super_Encode b hb
      have nw := newerV_ok a b ha hb
      by_cases h : a.e < b.e
      · have hlt : decide (a.e < b.e) = true := decide_eq_true h
        have hmx : (if a.e < b.e then b.e else a.e) = b.e := if_pos h
        rw [if_pos h, if_pos h] at nw
        simp only [Sup.av_eq] at *
        have i1 : decide ((1 : Int) = 1) = true := rfl
        have htk0 := take_len _ _ hl
        refine aFun_body Tryd.func8 rfl rfl (by simp [Tryd.ntmps8]) fun hreal h nx hfresh => ?_
        rw [Tryd.ntmps8]
        have ht := inU8 (Real.int (hreal (.int .u8 t) (by simp)))
        by_cases hz : t = 0
        · have dt : decide (t = 0) = true := decide_eq_true hz
          have FX := Fx.mk (And.intro @d0 <| And.intro @hl <| And.intro @hla <| And.intro @d64 <| And.intro @dt <| And.intro @hlt <| And.intro @hmx <| And.intro @i1 <| And.intro @htk0 <| And.intro @decide_true <| And.intro @Bool.not_true <| @Bool.not_false)
          repeat (first | refine v_ ?_ | refine u_ ?_ | refine f_ (al) fun kf hkf => ?_ | refine f_ (e1) fun kf hkf => ?_ | refine om_ (e2) fun mf kf hmf hkf => ?_ | refine f_ (n0) fun kf hkf => ?_ | refine e_ (newest_r mf _ _ hl nw (by exact cl_)) fun kf hkf => ?_ | refine nl_ ?_ | (refine nz_ ?_; first | (show aWp _ _ _ _ _) | skip) | refine sq_ ?_ | refine rg_ ?_ | refine k_ ?_ | refine ct_ ?_ | refine cf_ ?_ | refine bk_ ?_ | refine sc_ ?_ | (refine sk_ ?_; first | (show aWp _ _ _ _ _) | skip) | (refine ex_ ?_; first | (show aWp _ _ _ _ _) | skip) | refine rt_ ?_)
          (have FX := Fx0; exact end_ Tryd.results8)
        · have dt : decide (t = 0) = false := decide_eq_false hz
          obtain ⟨m, j, hm, hj, hj64⟩ := win64s at_
          obtain ⟨c, hc⟩ : ∃ c, b.sector[j]? = some c := ⟨_, List.getElem?_eq_getElem (by omega)⟩
          have hcr := Pl.BY_seal (l := b.head 7 ++ List.replicate 20 0) (by
            refine Pl.BY_append (Pl.BY_append (fun x hx => by simp [mag4] at hx; omega) (Pl.BY_flat _ _)) fun x hx => ?_
            rw [(List.mem_replicate.1 hx).2]; decide) c (List.mem_of_getElem? hc)
          have hcn := numB_get .u8 _ j c hc
          have ho := open_rot (p := b.head 7 ++ List.replicate 20 0) (t := t) hc hcr (by omega)
          have hl2 : (b.sector.set j (bits .xor .u8 c t)).length = 64 := by rw [List.length_set, hl]
          have htk := take_len _ _ hl2
          have nw2 := newerV_rot a ha (told_rot hl2 ho)
          simp only [Sup.av_eq] at nw2
          have FX := Fx.mk (And.intro @d0 <| And.intro @hl <| And.intro @hla <| And.intro @d64 <| And.intro @dt <| And.intro @hlt <| And.intro @hmx <| And.intro @i1 <| And.intro @htk0 <| And.intro @hm <| And.intro @hj <| And.intro @hcn <| And.intro @htk <| And.intro @decide_true <| And.intro @Bool.not_true <| @Bool.not_false)
          repeat (first | refine v_ ?_ | refine u_ ?_ | refine f_ (al) fun kf hkf => ?_ | refine f_ (e1) fun kf hkf => ?_ | refine om_ (e2) fun mf kf hmf hkf => ?_ | refine f_ (n0) fun kf hkf => ?_ | refine e_ (newest_r mf _ _ hl nw (by exact cl_)) fun kf hkf => ?_ | refine e_ (newest_l mf _ _ hl2 nw2 (by exact cl_)) fun kf hkf => ?_ | refine nl_ ?_ | (refine nz_ ?_; first | (show aWp _ _ _ _ _) | skip) | refine sq_ ?_ | refine rg_ ?_ | refine k_ ?_ | refine ct_ ?_ | refine cf_ ?_ | refine bk_ ?_ | refine sc_ ?_ | (refine sk_ ?_; first | (show aWp _ _ _ _ _) | skip) | (refine ex_ ?_; first | (show aWp _ _ _ _ _) | skip) | refine rt_ ?_)
          (have FX := Fx0; exact end_ Tryd.results8)
      · have hlt : decide (a.e < b.e) = false := decide_eq_false h
        have hmx : (if a.e < b.e then b.e else a.e) = a.e := if_neg h
        rw [if_neg h, if_neg h] at nw
        simp only [Sup.av_eq] at *
        have i1 : decide ((0 : Int) = 1) = false := rfl
        have htk0 := take_len _ _ hl
        refine aFun_body Tryd.func8 rfl rfl (by simp [Tryd.ntmps8]) fun hreal h nx hfresh => ?_
        rw [Tryd.ntmps8]
        have ht := inU8 (Real.int (hreal (.int .u8 t) (by simp)))
        by_cases hz : t = 0
        · have dt : decide (t = 0) = true := decide_eq_true hz
          have FX := Fx.mk (And.intro @d0 <| And.intro @hl <| And.intro @hla <| And.intro @d64 <| And.intro @dt <| And.intro @hlt <| And.intro @hmx <| And.intro @i1 <| And.intro @htk0 <| And.intro @decide_true <| And.intro @Bool.not_true <| @Bool.not_false)
          repeat (first | refine v_ ?_ | refine u_ ?_ | refine f_ (al) fun kf hkf => ?_ | refine f_ (e1) fun kf hkf => ?_ | refine om_ (e2) fun mf kf hmf hkf => ?_ | refine f_ (n0) fun kf hkf => ?_ | refine e_ (newest_r mf _ _ hl nw (by exact cl_)) fun kf hkf => ?_ | refine nl_ ?_ | (refine nz_ ?_; first | (show aWp _ _ _ _ _) | skip) | refine sq_ ?_ | refine rg_ ?_ | refine k_ ?_ | refine ct_ ?_ | refine cf_ ?_ | refine bk_ ?_ | refine sc_ ?_ | (refine sk_ ?_; first | (show aWp _ _ _ _ _) | skip) | (refine ex_ ?_; first | (show aWp _ _ _ _ _) | skip) | refine rt_ ?_)
          (have FX := Fx0; exact end_ Tryd.results8)
        · have dt : decide (t = 0) = false := decide_eq_false hz
          obtain ⟨m, j, hm, hj, hj64⟩ := win64s at_
          obtain ⟨c, hc⟩ : ∃ c, b.sector[j]? = some c := ⟨_, List.getElem?_eq_getElem (by omega)⟩
          have hcr := Pl.BY_seal (l := b.head 7 ++ List.replicate 20 0) (by
            refine Pl.BY_append (Pl.BY_append (fun x hx => by simp [mag4] at hx; omega) (Pl.BY_flat _ _)) fun x hx => ?_
            rw [(List.mem_replicate.1 hx).2]; decide) c (List.mem_of_getElem? hc)
          have hcn := numB_get .u8 _ j c hc
          have ho := open_rot (p := b.head 7 ++ List.replicate 20 0) (t := t) hc hcr (by omega)
          have hl2 : (b.sector.set j (bits .xor .u8 c t)).length = 64 := by rw [List.length_set, hl]
          have htk := take_len _ _ hl2
          have nw2 := newerV_rot a ha (told_rot hl2 ho)
          simp only [Sup.av_eq] at nw2
          have FX := Fx.mk (And.intro @d0 <| And.intro @hl <| And.intro @hla <| And.intro @d64 <| And.intro @dt <| And.intro @hlt <| And.intro @hmx <| And.intro @i1 <| And.intro @htk0 <| And.intro @hm <| And.intro @hj <| And.intro @hcn <| And.intro @htk <| And.intro @decide_true <| And.intro @Bool.not_true <| @Bool.not_false)
          repeat (first | refine v_ ?_ | refine u_ ?_ | refine f_ (al) fun kf hkf => ?_ | refine f_ (e1) fun kf hkf => ?_ | refine om_ (e2) fun mf kf hmf hkf => ?_ | refine f_ (n0) fun kf hkf => ?_ | refine e_ (newest_r mf _ _ hl nw (by exact cl_)) fun kf hkf => ?_ | refine e_ (newest_l mf _ _ hl2 nw2 (by exact cl_)) fun kf hkf => ?_ | refine nl_ ?_ | (refine nz_ ?_; first | (show aWp _ _ _ _ _) | skip) | refine sq_ ?_ | refine rg_ ?_ | refine k_ ?_ | refine ct_ ?_ | refine cf_ ?_ | refine bk_ ?_ | refine sc_ ?_ | (refine sk_ ?_; first | (show aWp _ _ _ _ _) | skip) | (refine ex_ ?_; first | (show aWp _ _ _ _ _) | skip) | refine rt_ ?_)
          (have FX := Fx0; exact end_ Tryd.results8)
    · have eb := super_Encode_bad b hb
      simp only [Sup.av_eq] at *
      refine aFun_body Tryd.func8 rfl rfl (by simp [Tryd.ntmps8]) fun hreal h nx hfresh => ?_
      rw [Tryd.ntmps8]
      have FX := Fx.mk (And.intro @d0 <| And.intro @d4 <| And.intro @d00 <| And.intro @d64 <| And.intro @ha64 <| And.intro @Bool.not_true <| @Bool.not_false)
      repeat (first | refine v_ ?_ | refine u_ ?_ | refine f_ (al) fun kf hkf => ?_ | refine f_ (ea) fun kf hkf => ?_ | refine f_ (eb) fun kf hkf => ?_ | refine f_ (n0) fun kf hkf => ?_ | refine f_ (n4) fun kf hkf => ?_ | refine nl_ ?_ | (refine nz_ ?_; first | (show aWp _ _ _ _ _) | skip) | refine sq_ ?_ | refine rg_ ?_ | refine k_ ?_ | refine ct_ ?_ | refine cf_ ?_ | refine bk_ ?_ | refine sc_ ?_ | (refine sk_ ?_; first | (show aWp _ _ _ _ _) | skip) | (refine ex_ ?_; first | (show aWp _ _ _ _ _) | skip) | refine rt_ ?_)
      (have FX := Fx0; exact end_ Tryd.results8)
  · have ea := super_Encode_bad a ha
    by_cases hb : b.ok
    · have eb := enc_fn b hb
      simp only [Sup.av_eq] at *
      refine aFun_body Tryd.func8 rfl rfl (by simp [Tryd.ntmps8]) fun hreal h nx hfresh => ?_
      rw [Tryd.ntmps8]
      have FX := Fx.mk (And.intro @d0 <| And.intro @d4 <| And.intro @d00 <| And.intro @d64 <| And.intro @ha64 <| And.intro @Bool.not_true <| @Bool.not_false)
      repeat (first | refine v_ ?_ | refine u_ ?_ | refine f_ (al) fun kf hkf => ?_ | refine f_ (ea) fun kf hkf => ?_ | refine f_ (eb) fun kf hkf => ?_ | refine f_ (n0) fun kf hkf => ?_ | refine f_ (n4) fun kf hkf => ?_ | refine nl_ ?_ | (refine nz_ ?_; first | (show aWp _ _ _ _ _) | skip) | refine sq_ ?_ | refine rg_ ?_ | refine k_ ?_ | refine ct_ ?_ | refine cf_ ?_ | refine bk_ ?_ | refine sc_ ?_ | (refine sk_ ?_; first | (show aWp _ _ _ _ _) | skip) | (refine ex_ ?_; first | (show aWp _ _ _ _ _) | skip) | refine rt_ ?_)
      (have FX := Fx0; exact end_ Tryd.results8)
    · have eb := super_Encode_bad b hb
      simp only [Sup.av_eq] at *
      refine aFun_body Tryd.func8 rfl rfl (by simp [Tryd.ntmps8]) fun hreal h nx hfresh => ?_
      rw [Tryd.ntmps8]
      have FX := Fx.mk (And.intro @d0 <| And.intro @d4 <| And.intro @d00 <| And.intro @d64 <| And.intro @ha64 <| And.intro @Bool.not_true <| @Bool.not_false)
      repeat (first | refine v_ ?_ | refine u_ ?_ | refine f_ (al) fun kf hkf => ?_ | refine f_ (ea) fun kf hkf => ?_ | refine f_ (eb) fun kf hkf => ?_ | refine f_ (n0) fun kf hkf => ?_ | refine f_ (n4) fun kf hkf => ?_ | refine nl_ ?_ | (refine nz_ ?_; first | (show aWp _ _ _ _ _) | skip) | refine sq_ ?_ | refine rg_ ?_ | refine k_ ?_ | refine ct_ ?_ | refine cf_ ?_ | refine bk_ ?_ | refine sc_ ?_ | (refine sk_ ?_; first | (show aWp _ _ _ _ _) | skip) | (refine ex_ ?_; first | (show aWp _ _ _ _ _) | skip) | refine rt_ ?_)
      (have FX := Fx0; exact end_ Tryd.results8)
end Go.Proofs.YtnlanfcboiemaaaDoor.AE
