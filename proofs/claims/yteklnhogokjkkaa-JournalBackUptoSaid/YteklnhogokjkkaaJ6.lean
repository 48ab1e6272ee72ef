/- Layer 15: Scan. -/
import Derived.Test.YteklnhogokjkkaaJ5
namespace Go.Proofs.Yteklnhogokjkkaa.AE
open Go Go.RowKit Go.Proofs Go.Proofs.Yteklnhogokjkkaa
set_option linter.unusedVariables false
set_option linter.unusedSimpArgs false
set_option maxRecDepth 100000
set_option maxHeartbeats 8000000
def recsB (l : List Rec) : List (List AV) := l.map fun r => [.int .i64 r.q, .int .i64 r.root, .int .i64 r.room, .sl (pagesB r.pages)]
theorem recsB_len (l : List Rec) : (recsB l).length = l.length := by simp [recsB]
theorem recsB_get (l : List Rec) (i : Nat) (r : Rec) (h : l[i]? = some r) : (recsB l)[i]? = some [.int .i64 r.q, .int .i64 r.root, .int .i64 r.room, .sl (pagesB r.pages)] := by simp [recsB, h]
def scanV (b : List Int) (next : Int) : AV := .tup [.sl (recsB (scanS b next).1), .int .i64 ((scanS b next).2 : Int)]
theorem journal_Scan (b : List Int) (next : Int) (hc : b.length ≤ 140737488355328) : aFun Try.prog 15 [.sl (numB .u8 b), .int .i64 next] (scanV b next) := by
  refine aFun_body Try.func15 rfl rfl (by simp [Try.ntmps15]) fun hreal h nx hfresh => ?_
  rw [Try.ntmps15]
  have hl : b.length < 4611686018427387904 := by
    have := (hreal (.sl (numB .u8 b)) (by simp)).sl.1
    rwa [numB_len] at this
  have hi := inI64 ((hreal (.int .i64 next) (by simp)).int)
  have z0 : decide ((0 : Int) = 0) = true := rfl
  have FX := Fx0
  repeat (first | refine v_ ?_ | refine u_ ?_ | refine nl_ ?_ | (refine nz_ ?_; first | (show aWp _ _ _ _ _) | skip) | refine sq_ ?_ | refine rg_ ?_ | refine k_ ?_ | refine ct_ ?_ | refine cf_ ?_ | refine bk_ ?_ | refine sc_ ?_ | (refine sk_ ?_; first | (show aWp _ _ _ _ _) | skip) | (refine ex_ ?_; first | (show aWp _ _ _ _ _) | skip) | refine rt_ ?_)
  refine W_loopK [0, 1] nx (fun k tm h q => ∃ (out : List Rec) (at_ : Nat), at_ ≤ b.length ∧ k = b.length - at_ ∧ 64 * out.length ≤ at_ ∧ tm 5 = .int .i64 (at_ : Int) ∧ scanS b next = (out ++ (scanS (b.drop at_) (next + out.length)).1, at_ + (scanS (b.drop at_) (next + out.length)).2) ∧ ((tm 4 = .zs ∧ out = []) ∨ ∃ m, tm 4 = .hs m 0 out.length ∧ nx ≤ m ∧ m < q ∧ h m = some ⟨4, recsB out⟩)) b.length (by omega) ⟨[], 0, by omega, by omega, by simp, by (have FX := Fx0; exact cl_), by simp, .inl ⟨by (have FX := Fx0; exact cl_), rfl⟩⟩ ?_
  rintro k tm' h' k' ⟨out, at_, hat, rfl, h64, h5, hs, h4⟩ hag hh hk'
  have de := journal_Decode (b.drop at_)
  have l5 : (at_ : Int) ≤ (b.length : Int) := by omega
  cases hd : decR (b.drop at_) with
  | error e =>
    rw [decV_err hd] at de
    rw [scan_bad hd] at hs
    simp only [List.append_nil, Nat.add_zero] at hs
    have e1 : decide (e = 0) = false := decide_eq_false (by rcases decR_errs hd with rfl | rfl <;> decide)
    unfold scanV
    rw [hs]
    rcases h4 with ⟨h4, rfl⟩ | ⟨m, h4, hm1, hm2, hm3⟩
    · have FX := Fx.mk (And.intro @hag <| And.intro @h5 <| And.intro @h4 <| And.intro @l5 <| And.intro @e1 <| And.intro @Bool.not_true <| @Bool.not_false)
      repeat (first | refine v_ ?_ | refine u_ ?_ | refine f_ (de) fun kf hkf => ?_ | refine nl_ ?_ | (refine nz_ ?_; first | (show aWp _ _ _ _ _) | skip) | refine sq_ ?_ | refine rg_ ?_ | refine k_ ?_ | refine ct_ ?_ | refine cf_ ?_ | refine bk_ ?_ | refine sc_ ?_ | (refine sk_ ?_; first | (show aWp _ _ _ _ _) | skip) | (refine ex_ ?_; first | (show aWp _ _ _ _ _) | skip) | refine rt_ ?_)
      have hr0 : recsB [] = [] := rfl
      (have FX := Fx.mk (And.intro @hag <| And.intro @hr0 <| @hh); exact end_ Try.results15)
    · have rln := recsB_len out
      have htk : (recsB out).take out.length = recsB out := List.take_of_length_le (by omega)
      have FX := Fx.mk (And.intro @hag <| And.intro @h5 <| And.intro @h4 <| And.intro @l5 <| And.intro @e1 <| And.intro @Bool.not_true <| @Bool.not_false)
      repeat (first | refine v_ ?_ | refine u_ ?_ | refine f_ (de) fun kf hkf => ?_ | refine nl_ ?_ | (refine nz_ ?_; first | (show aWp _ _ _ _ _) | skip) | refine sq_ ?_ | refine rg_ ?_ | refine k_ ?_ | refine ct_ ?_ | refine cf_ ?_ | refine bk_ ?_ | refine sc_ ?_ | (refine sk_ ?_; first | (show aWp _ _ _ _ _) | skip) | (refine ex_ ?_; first | (show aWp _ _ _ _ _) | skip) | refine rt_ ?_)
      (have FX := Fx.mk (And.intro @hag <| And.intro @hm3 <| And.intro @rln <| And.intro @htk <| @hh); exact end_ Try.results15)
  | ok pr =>
    obtain ⟨r, n⟩ := pr
    rw [decV_ok hd, Rec.av_eq] at de
    obtain ⟨⟨o1, _⟩, _, o3, o4⟩ := decR_ok hd
    rw [List.length_drop] at o3
    have rln := recsB_len out
    have htk : (recsB out).take out.length = recsB out := List.take_of_length_le (by omega)
    have hwa : IntKind.i64.wrap ((at_ : Int) + (n : Int)) = ((at_ + n : Nat) : Int) := by rw [wrapI] <;> omega
    have hqs : recsB (out ++ [r]) = recsB out ++ [[.int .i64 r.q, .int .i64 r.root, .int .i64 r.room, .sl (pagesB r.pages)]] := by simp [recsB]
    have hqz : recsB ([] ++ [r]) = [[.int .i64 r.q, .int .i64 r.root, .int .i64 r.room, .sl (pagesB r.pages)]] := rfl
    have hol : (out ++ [r]).length = out.length + 1 := by simp
    by_cases hq : r.q = next + (out.length : Int)
    · rw [scan_yes hd hq] at hs
      have hs2 : scanS b next = ((out ++ [r]) ++ (scanS (b.drop (at_ + n)) (next + ((out ++ [r]).length : Int))).1, (at_ + n) + (scanS (b.drop (at_ + n)) (next + ((out ++ [r]).length : Int))).2) := by
        rw [hs, List.drop_drop, hol, show next + ((out.length + 1 : Nat) : Int) = next + (out.length : Int) + 1 by omega]
        simp [Nat.add_assoc]
      have hwq : IntKind.i64.wrap (r.q - next) = (out.length : Int) := by rw [wrapI] <;> omega
      rcases h4 with ⟨h4, rfl⟩ | ⟨m, h4, hm1, hm2, hm3⟩
      · have hwq0 : IntKind.i64.wrap (r.q - next) = 0 := by simpa using hwq
        have FX := Fx.mk (And.intro @hag <| And.intro @h5 <| And.intro @h4 <| And.intro @l5 <| And.intro @z0 <| And.intro @hwq0 <| And.intro @hwa <| And.intro @decide_true <| And.intro @Bool.not_true <| @Bool.not_false)
        repeat (first | refine v_ ?_ | refine u_ ?_ | refine f_ (de) fun kf hkf => ?_ | refine nl_ ?_ | (refine nz_ ?_; first | (show aWp _ _ _ _ _) | skip) | refine sq_ ?_ | refine rg_ ?_ | refine k_ ?_ | refine ct_ ?_ | refine cf_ ?_ | refine bk_ ?_ | refine sc_ ?_ | (refine sk_ ?_; first | (show aWp _ _ _ _ _) | skip) | (refine ex_ ?_; first | (show aWp _ _ _ _ _) | skip) | refine rt_ ?_)
        refine ⟨b.length - (at_ + n), by omega, ⟨[] ++ [r], at_ + n, by omega, by first | rfl | omega, by rw [hol]; omega, by (have FX := Fx0; exact cl_), hs2, .inr ⟨kf + 1 + 1, by (have FX := Fx0; exact cl_), by omega, by first | omega | (simp only; omega), by (have FX := Fx.mk (@hqz); exact cl_)⟩⟩, ?_, ?_, by first | omega | (simp only; omega), rfl⟩
        · repeat (refine KAgree.upd rfl ?_)
          first | exact KAgree.refl _ _ | exact hag
        · exact (by have FX := Fx.mk (@hh); exact ha_)
      · have FX := Fx.mk (And.intro @hag <| And.intro @h5 <| And.intro @h4 <| And.intro @hm3 <| And.intro @l5 <| And.intro @z0 <| And.intro @hwq <| And.intro @hwa <| And.intro @rln <| And.intro @htk <| And.intro @decide_true <| And.intro @Bool.not_true <| @Bool.not_false)
        repeat (first | refine v_ ?_ | refine u_ ?_ | refine f_ (de) fun kf hkf => ?_ | refine nl_ ?_ | (refine nz_ ?_; first | (show aWp _ _ _ _ _) | skip) | refine sq_ ?_ | refine rg_ ?_ | refine k_ ?_ | refine ct_ ?_ | refine cf_ ?_ | refine bk_ ?_ | refine sc_ ?_ | (refine sk_ ?_; first | (show aWp _ _ _ _ _) | skip) | (refine ex_ ?_; first | (show aWp _ _ _ _ _) | skip) | refine rt_ ?_)
        refine ⟨b.length - (at_ + n), by omega, ⟨out ++ [r], at_ + n, by omega, by first | rfl | omega, by rw [hol]; omega, by (have FX := Fx0; exact cl_), hs2, .inr ⟨kf + 1 + 1, by (have FX := Fx.mk (@hol); exact cl_), by omega, by first | omega | (simp only; omega), by (have FX := Fx.mk (@hqs); exact cl_)⟩⟩, ?_, ?_, by first | omega | (simp only; omega), rfl⟩
        · repeat (refine KAgree.upd rfl ?_)
          first | exact KAgree.refl _ _ | exact hag
        · exact (by have FX := Fx.mk (@hh); exact ha_)
    · rw [scan_no hd hq] at hs
      simp only [List.append_nil, Nat.add_zero] at hs
      unfold scanV
      rw [hs]
      have hwq : decide (IntKind.i64.wrap (r.q - next) = (out.length : Int)) = false := decide_eq_false fun q => by
        unfold IntKind.wrap at q
        simp [IntKind.signed, IntKind.bits] at q
        omega
      rcases h4 with ⟨h4, rfl⟩ | ⟨m, h4, hm1, hm2, hm3⟩
      · have hwq0 : decide (IntKind.i64.wrap (r.q - next) = 0) = false := by simpa using hwq
        have FX := Fx.mk (And.intro @hag <| And.intro @h5 <| And.intro @h4 <| And.intro @l5 <| And.intro @z0 <| And.intro @hwq0 <| And.intro @decide_true <| And.intro @Bool.not_true <| @Bool.not_false)
        repeat (first | refine v_ ?_ | refine u_ ?_ | refine f_ (de) fun kf hkf => ?_ | refine nl_ ?_ | (refine nz_ ?_; first | (show aWp _ _ _ _ _) | skip) | refine sq_ ?_ | refine rg_ ?_ | refine k_ ?_ | refine ct_ ?_ | refine cf_ ?_ | refine bk_ ?_ | refine sc_ ?_ | (refine sk_ ?_; first | (show aWp _ _ _ _ _) | skip) | (refine ex_ ?_; first | (show aWp _ _ _ _ _) | skip) | refine rt_ ?_)
        have hr0 : recsB [] = [] := rfl
        (have FX := Fx.mk (And.intro @hag <| And.intro @hr0 <| @hh); exact end_ Try.results15)
      · have FX := Fx.mk (And.intro @hag <| And.intro @h5 <| And.intro @h4 <| And.intro @hm3 <| And.intro @l5 <| And.intro @z0 <| And.intro @hwq <| And.intro @rln <| And.intro @htk <| And.intro @decide_true <| And.intro @Bool.not_true <| @Bool.not_false)
        repeat (first | refine v_ ?_ | refine u_ ?_ | refine f_ (de) fun kf hkf => ?_ | refine nl_ ?_ | (refine nz_ ?_; first | (show aWp _ _ _ _ _) | skip) | refine sq_ ?_ | refine rg_ ?_ | refine k_ ?_ | refine ct_ ?_ | refine cf_ ?_ | refine bk_ ?_ | refine sc_ ?_ | (refine sk_ ?_; first | (show aWp _ _ _ _ _) | skip) | (refine ex_ ?_; first | (show aWp _ _ _ _ _) | skip) | refine rt_ ?_)
        (have FX := Fx.mk (And.intro @hag <| And.intro @hm3 <| And.intro @rln <| And.intro @htk <| @hh); exact end_ Try.results15)
end Go.Proofs.Yteklnhogokjkkaa.AE
