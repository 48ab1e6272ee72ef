/- Layer 15's laws: alive, JournalElder, JournalApart. -/
import Derived.Test.YteklnhogokjkkaaJ7
namespace Go.Proofs.Yteklnhogokjkkaa.AE
open Go Go.RowKit Go.Proofs Go.Proofs.Yteklnhogokjkkaa
set_option linter.unusedVariables false
set_option linter.unusedSimpArgs false
set_option maxRecDepth 100000
set_option maxHeartbeats 8000000
theorem enc_le (r : Rec) (h : r.ok) : r.enc.length ≤ 20000 := by
  have := body_le h.2.2.2.2 r.pages.length (Nat.le_refl _)
  rw [List.take_length] at this
  have h4 := h.2.2.2.1
  rw [enc_len]
  unfold padN
  omega
theorem enc_pos (r : Rec) : 0 < r.enc.length := by rw [enc_len]; unfold padN; omega
theorem dec_enc0 {r : Rec} (h : r.ok) : decR r.enc = .ok (r, r.enc.length) := by
  have := dec_enc h []
  rwa [List.append_nil] at this
theorem scan_enc {r : Rec} (h : r.ok) : scanS r.enc r.q = ([r], r.enc.length) := by
  rw [scan_yes (dec_enc0 h) rfl, List.drop_length, scan_bad decR_nil]
  simp
theorem law_alive : aFun Try.prog 23 [] (.bool true) := by
  have hok : (⟨1, 0, 0, []⟩ : Rec).ok := by decide
  have en : aFun Try.prog 11 [.agg [.int .i64 1, .int .i64 0, .int .i64 0, .sl []]] (.tup [.sl (numB .u8 (⟨1, 0, 0, []⟩ : Rec).enc), .int .i64 0]) := (journal_Encode _ hok).fn_tup
  have hl : (⟨1, 0, 0, []⟩ : Rec).enc.length = 64 := by rw [enc_len]; rfl
  have sc := journal_Scan (⟨1, 0, 0, []⟩ : Rec).enc 1 (by rw [hl]; decide)
  have hs : scanV (⟨1, 0, 0, []⟩ : Rec).enc 1 = .tup [.sl [[.int .i64 1, .int .i64 0, .int .i64 0, .sl []]], .int .i64 64] := by
    unfold scanV
    have := scan_enc hok
    simp only at this
    rw [this, hl]
    rfl
  rw [hs] at sc
  have n0 := law_num 0
  have ht : (⟨1, 0, 0, []⟩ : Rec).enc.take 4 = [102, 115, 106, 49] := by
    unfold Rec.enc padB Pl.sealS Rec.raw Rec.hd
    rfl
  have e4 : ∀ tm : Nat → AV, evA tm (.const (.string { data := #[102, 115, 106, 49] })) = .str [102, 115, 106, 49] := fun _ => rfl
  obtain ⟨E, hE⟩ : ∃ E, (⟨1, 0, 0, []⟩ : Rec).enc = E := ⟨_, rfl⟩
  rw [hE] at en hl sc ht
  have d0 : decide ((0 : Int) = 0) = true := rfl
  have d64 : decide (((64 : Nat) : Int) = 64) = true := rfl
  have d642 : decide ((64 : Int) = 64) = true := rfl
  have l4 : (4 : Int) ≤ ((64 : Nat) : Int) := by decide
  have d1 : decide (((1 : Nat) : Int) = 1) = true := rfl
  refine aFun_body Try.func23 rfl rfl (by simp [Try.ntmps23]) fun hreal h nx hfresh => ?_
  rw [Try.ntmps23]
  have FX := Fx.mk (And.intro @d0 <| And.intro @d64 <| And.intro @d642 <| And.intro @d1 <| And.intro @l4 <| And.intro @hl <| And.intro @ht <| And.intro @e4 <| @decide_true)
  repeat (first | refine v_ ?_ | refine u_ ?_ | refine f_ (en) fun kf hkf => ?_ | refine f_ (sc) fun kf hkf => ?_ | refine f_ (n0) fun kf hkf => ?_ | refine nl_ ?_ | (refine nz_ ?_; first | (show aWp _ _ _ _ _) | skip) | refine sq_ ?_ | refine rg_ ?_ | refine k_ ?_ | refine ct_ ?_ | refine cf_ ?_ | refine bk_ ?_ | refine sc_ ?_ | (refine sk_ ?_; first | (show aWp _ _ _ _ _) | skip) | (refine ex_ ?_; first | (show aWp _ _ _ _ _) | skip) | refine rt_ ?_)
  (have FX := Fx0; exact end_ Try.results23)
theorem law_Elder (r : Rec) (next : Int) (hz : r.pages.length * 32 ≤ 140737488351232 ∧ ∀ p ∈ r.pages, p.2.length ≤ 140737488351232) : aFun Try.prog 6 [r.av, .int .i64 next] (.bool true) := by
  have al := law_alive
  have of := law_Of r hz.1 (fun p hp => by have := hz.2 p hp; omega)
  have n0 := law_num 0
  have n9 := law_num 9
  have d0 : decide ((0 : Int) = 0) = true := rfl
  have d9 : decide ((9 : Int) = 0) = false := rfl
  have d00 : decide (((0 : Nat) : Int) = 0) = true := rfl
  have d1 : decide (((1 : Nat) : Int) = 1) = true := rfl
  by_cases hok : r.ok
  · have en := (journal_Encode r hok).fn_tup
    have hle := enc_le r hok
    have sc := journal_Scan r.enc next (by omega)
    by_cases hq : next = r.q
    · have hv : scanV r.enc next = .tup [.sl [[.int .i64 r.q, .int .i64 r.root, .int .i64 r.room, .sl (pagesB r.pages)]], .int .i64 (r.enc.length : Int)] := by
        unfold scanV
        rw [hq, scan_enc hok]
        rfl
      rw [hv] at sc
      have e1 := decide_eq_true hq
      simp only [Rec.av_eq] at *
      refine aFun_body Try.func6 rfl rfl (by simp [Try.ntmps6]) fun hreal h nx hfresh => ?_
      rw [Try.ntmps6]
      have FX := Fx.mk (And.intro @d0 <| And.intro @d1 <| And.intro @e1 <| And.intro @Bool.not_true <| And.intro @Bool.not_false <| @decide_true)
      repeat (first | refine v_ ?_ | refine u_ ?_ | refine f_ (al) fun kf hkf => ?_ | refine f_ (of) fun kf hkf => ?_ | refine f_ (en) fun kf hkf => ?_ | refine f_ (n0) fun kf hkf => ?_ | refine f_ (sc) fun kf hkf => ?_ | refine nl_ ?_ | (refine nz_ ?_; first | (show aWp _ _ _ _ _) | skip) | refine sq_ ?_ | refine rg_ ?_ | refine k_ ?_ | refine ct_ ?_ | refine cf_ ?_ | refine bk_ ?_ | refine sc_ ?_ | (refine sk_ ?_; first | (show aWp _ _ _ _ _) | skip) | (refine ex_ ?_; first | (show aWp _ _ _ _ _) | skip) | refine rt_ ?_)
      (have FX := Fx0; exact end_ Try.results6)
    · have hv : scanV r.enc next = .tup [.sl [], .int .i64 0] := by
        unfold scanV
        rw [scan_no (dec_enc0 hok) (fun q => hq q.symm)]
        rfl
      rw [hv] at sc
      have e1 := decide_eq_false hq
      simp only [Rec.av_eq] at *
      refine aFun_body Try.func6 rfl rfl (by simp [Try.ntmps6]) fun hreal h nx hfresh => ?_
      rw [Try.ntmps6]
      have FX := Fx.mk (And.intro @d0 <| And.intro @d00 <| And.intro @e1 <| And.intro @Bool.not_true <| And.intro @Bool.not_false <| @decide_true)
      repeat (first | refine v_ ?_ | refine u_ ?_ | refine f_ (al) fun kf hkf => ?_ | refine f_ (of) fun kf hkf => ?_ | refine f_ (en) fun kf hkf => ?_ | refine f_ (n0) fun kf hkf => ?_ | refine f_ (sc) fun kf hkf => ?_ | refine nl_ ?_ | (refine nz_ ?_; first | (show aWp _ _ _ _ _) | skip) | refine sq_ ?_ | refine rg_ ?_ | refine k_ ?_ | refine ct_ ?_ | refine cf_ ?_ | refine bk_ ?_ | refine sc_ ?_ | (refine sk_ ?_; first | (show aWp _ _ _ _ _) | skip) | (refine ex_ ?_; first | (show aWp _ _ _ _ _) | skip) | refine rt_ ?_)
      (have FX := Fx0; exact end_ Try.results6)
  · have en := journal_Encode_bad r hok
    simp only [Rec.av_eq] at *
    refine aFun_body Try.func6 rfl rfl (by simp [Try.ntmps6]) fun hreal h nx hfresh => ?_
    rw [Try.ntmps6]
    have FX := Fx.mk (And.intro @d9 <| And.intro @d00 <| And.intro @Bool.not_true <| And.intro @Bool.not_false <| @decide_true)
    repeat (first | refine v_ ?_ | refine u_ ?_ | refine f_ (al) fun kf hkf => ?_ | refine f_ (of) fun kf hkf => ?_ | refine f_ (en) fun kf hkf => ?_ | refine f_ (n9) fun kf hkf => ?_ | refine nl_ ?_ | (refine nz_ ?_; first | (show aWp _ _ _ _ _) | skip) | refine sq_ ?_ | refine rg_ ?_ | refine k_ ?_ | refine ct_ ?_ | refine cf_ ?_ | refine bk_ ?_ | refine sc_ ?_ | (refine sk_ ?_; first | (show aWp _ _ _ _ _) | skip) | (refine ex_ ?_; first | (show aWp _ _ _ _ _) | skip) | refine rt_ ?_)
    (have FX := Fx0; exact end_ Try.results6)
end Go.Proofs.Yteklnhogokjkkaa.AE
