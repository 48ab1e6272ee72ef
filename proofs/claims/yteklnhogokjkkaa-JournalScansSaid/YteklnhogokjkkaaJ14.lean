/- Layer 15's page: Scan. -/
import Derived.Test.YteklnhogokjkkaaJ13
import Derived.Test.YteklnhogokjkkaaJ6
namespace Go.Proofs.Yteklnhogokjkkaa.AE
open Go Go.RowKit Go.Proofs Go.Proofs.Yteklnhogokjkkaa
set_option linter.unusedVariables false
set_option linter.unusedSimpArgs false
set_option maxRecDepth 100000
set_option maxHeartbeats 8000000
theorem ref15_Scan (b : List Int) (next : Int) (hc : b.length ≤ 140737488355328) : aFun Try.prog 16 [.sl (numB .u8 b), .int .i64 next] (scanV b next) := by
  refine aFun_body Try.func16 rfl rfl (by simp [Try.ntmps16]) fun hreal h nx hfresh => ?_
  rw [Try.ntmps16]
  have hl : b.length < 4611686018427387904 := by
    have := (hreal (.sl (numB .u8 b)) (by simp)).sl.1
    rwa [numB_len] at this
  have hi := inI64 ((hreal (.int .i64 next) (by simp)).int)
  have z0 : decide ((0 : Int) = 0) = true := rfl
  have hn0 : IntKind.i64.wrap (next + ((([] : List Rec).length : Nat) : Int)) = next := by simp only [List.length_nil]; rw [wrapI] <;> omega
  have FX := Fx0
  repeat (first | refine v_ ?_ | refine u_ ?_ | refine nl_ ?_ | (refine nz_ ?_; first | (show aWp _ _ _ _ _) | skip) | refine sq_ ?_ | refine rg_ ?_ | refine k_ ?_ | refine ct_ ?_ | refine cf_ ?_ | refine bk_ ?_ | refine sc_ ?_ | (refine sk_ ?_; first | (show aWp _ _ _ _ _) | skip) | (refine ex_ ?_; first | (show aWp _ _ _ _ _) | skip) | refine rt_ ?_)
  refine W_loopK [0] nx (fun k tm h q => ∃ (out : List Rec) (at_ : Nat), at_ ≤ b.length ∧ k = b.length - at_ ∧ 64 * out.length ≤ at_ ∧ tm 7 = .int .i64 (at_ : Int) ∧ tm 1 = .int .i64 (IntKind.i64.wrap (next + (out.length : Int))) ∧ scanS b next = (out ++ (scanS (b.drop at_) (next + out.length)).1, at_ + (scanS (b.drop at_) (next + out.length)).2) ∧ ((tm 6 = .zs ∧ out = []) ∨ ∃ m, tm 6 = .hs m 0 out.length ∧ nx ≤ m ∧ m < q ∧ h m = some ⟨4, recsB out⟩)) b.length (by omega) ⟨[], 0, by omega, by omega, by simp, by (have FX := Fx0; exact cl_), by rw [hn0]; (have FX := Fx0; exact cl_), by simp, .inl ⟨by (have FX := Fx0; exact cl_), rfl⟩⟩ ?_
  rintro k tm' h' k' ⟨out, at_, hat, rfl, h64, h5, h1, hs, h4⟩ hag hh hk'
  have de := ref15_Decode (b.drop at_)
  have l5 : (at_ : Int) ≤ (b.length : Int) := by omega
  cases hd : decR (b.drop at_) with
  | error e =>
    rw [decV_err hd] at de
    rw [scan_bad hd] at hs
    simp only [List.append_nil, Nat.add_zero] at hs
    have e1 : decide (e = 0) = false := decide_eq_false (by rcases decR_errs hd with rfl | rfl <;> decide)
    unfold scanV
    rw [hs]
    rcases h4 with ⟨h4, rfl⟩ | ⟨m, h4, hm1, hm2, hm3⟩
    · have FX := Fx.mk (And.intro @hag <| And.intro @h5 <| And.intro @h4 <| And.intro @l5 <| And.intro @e1 <| And.intro @Bool.not_true <| @Bool.not_false)
      repeat (first | refine v_ ?_ | refine u_ ?_ | refine f_ (de) fun kf hkf => ?_ | refine nl_ ?_ | (refine nz_ ?_; first | (show aWp _ _ _ _ _) | skip) | refine sq_ ?_ | refine rg_ ?_ | refine k_ ?_ | refine ct_ ?_ | refine cf_ ?_ | refine bk_ ?_ | refine sc_ ?_ | (refine sk_ ?_; first | (show aWp _ _ _ _ _) | skip) | (refine ex_ ?_; first | (show aWp _ _ _ _ _) | skip) | refine rt_ ?_)
      have hr0 : recsB [] = [] := rfl
      (have FX := Fx.mk (And.intro @hag <| And.intro @hr0 <| @hh); exact end_ Try.results16)
    · have rln := recsB_len out
      have htk : (recsB out).take out.length = recsB out := List.take_of_length_le (by omega)
      have FX := Fx.mk (And.intro @hag <| And.intro @h5 <| And.intro @h4 <| And.intro @l5 <| And.intro @e1 <| And.intro @Bool.not_true <| @Bool.not_false)
      repeat (first | refine v_ ?_ | refine u_ ?_ | refine f_ (de) fun kf hkf => ?_ | refine nl_ ?_ | (refine nz_ ?_; first | (show aWp _ _ _ _ _) | skip) | refine sq_ ?_ | refine rg_ ?_ | refine k_ ?_ | refine ct_ ?_ | refine cf_ ?_ | refine bk_ ?_ | refine sc_ ?_ | (refine sk_ ?_; first | (show aWp _ _ _ _ _) | skip) | (refine ex_ ?_; first | (show aWp _ _ _ _ _) | skip) | refine rt_ ?_)
      (have FX := Fx.mk (And.intro @hag <| And.intro @hm3 <| And.intro @rln <| And.intro @htk <| @hh); exact end_ Try.results16)
  | ok pr =>
    obtain ⟨r, n⟩ := pr
    rw [decV_ok hd, Rec.av_eq] at de
    obtain ⟨⟨o1, _⟩, _, o3, o4⟩ := decR_ok hd
    rw [List.length_drop] at o3
    have rln := recsB_len out
    have htk : (recsB out).take out.length = recsB out := List.take_of_length_le (by omega)
    have hwa : IntKind.i64.wrap ((at_ : Int) + (n : Int)) = ((at_ + n : Nat) : Int) := by rw [wrapI] <;> omega
    have hqs : recsB (out ++ [r]) = recsB out ++ [[.int .i64 r.q, .int .i64 r.root, .int .i64 r.room, .sl (pagesB r.pages)]] := by simp [recsB]
    have hqz : recsB ([] ++ [r]) = [[.int .i64 r.q, .int .i64 r.root, .int .i64 r.room, .sl (pagesB r.pages)]] := rfl
    have hol : (out ++ [r]).length = out.length + 1 := by simp
    by_cases hq : r.q = next + (out.length : Int)
    · rw [scan_yes hd hq] at hs
      have hs2 : scanS b next = ((out ++ [r]) ++ (scanS (b.drop (at_ + n)) (next + ((out ++ [r]).length : Int))).1, (at_ + n) + (scanS (b.drop (at_ + n)) (next + ((out ++ [r]).length : Int))).2) := by
        rw [hs, List.drop_drop, hol, show next + ((out.length + 1 : Nat) : Int) = next + (out.length : Int) + 1 by omega]
        simp [Nat.add_assoc]
      have hwn : IntKind.i64.wrap (next + (out.length : Int)) = r.q := by rw [wrapI] <;> omega
      rw [hwn] at h1
      have hwp : IntKind.i64.wrap (r.q + 1) = r.q + 1 := by rw [wrapI] <;> omega
      have hwm : IntKind.i64.wrap (next + ((out ++ [r]).length : Int)) = r.q + 1 := by rw [hol, wrapI] <;> omega
      have dq : decide (r.q = r.q) = true := decide_eq_true rfl
      rcases h4 with ⟨h4, rfl⟩ | ⟨m, h4, hm1, hm2, hm3⟩
      · have FX := Fx.mk (And.intro @hag <| And.intro @h5 <| And.intro @h4 <| And.intro @l5 <| And.intro @h1 <| And.intro @z0 <| And.intro @hwp <| And.intro @hwa <| And.intro @dq <| And.intro @decide_true <| And.intro @Bool.not_true <| @Bool.not_false)
        repeat (first | refine v_ ?_ | refine u_ ?_ | refine f_ (de) fun kf hkf => ?_ | refine nl_ ?_ | (refine nz_ ?_; first | (show aWp _ _ _ _ _) | skip) | refine sq_ ?_ | refine rg_ ?_ | refine k_ ?_ | refine ct_ ?_ | refine cf_ ?_ | refine bk_ ?_ | refine sc_ ?_ | (refine sk_ ?_; first | (show aWp _ _ _ _ _) | skip) | (refine ex_ ?_; first | (show aWp _ _ _ _ _) | skip) | refine rt_ ?_)
        refine ⟨b.length - (at_ + n), by omega, ⟨[] ++ [r], at_ + n, by omega, by first | rfl | omega, by rw [hol]; omega, by (have FX := Fx0; exact cl_), by rw [hwm]; (have FX := Fx0; exact cl_), hs2, .inr ⟨kf + 1 + 1, by (have FX := Fx0; exact cl_), by omega, by first | omega | (simp only; omega), by (have FX := Fx.mk (@hqz); exact cl_)⟩⟩, ?_, ?_, by first | omega | (simp only; omega), rfl⟩
        · repeat (refine KAgree.upd rfl ?_)
          first | exact KAgree.refl _ _ | exact hag
        · exact (by have FX := Fx.mk (@hh); exact ha_)
      · have FX := Fx.mk (And.intro @hag <| And.intro @h5 <| And.intro @h4 <| And.intro @hm3 <| And.intro @l5 <| And.intro @h1 <| And.intro @z0 <| And.intro @hwp <| And.intro @hwa <| And.intro @dq <| And.intro @rln <| And.intro @htk <| And.intro @decide_true <| And.intro @Bool.not_true <| @Bool.not_false)
        repeat (first | refine v_ ?_ | refine u_ ?_ | refine f_ (de) fun kf hkf => ?_ | refine nl_ ?_ | (refine nz_ ?_; first | (show aWp _ _ _ _ _) | skip) | refine sq_ ?_ | refine rg_ ?_ | refine k_ ?_ | refine ct_ ?_ | refine cf_ ?_ | refine bk_ ?_ | refine sc_ ?_ | (refine sk_ ?_; first | (show aWp _ _ _ _ _) | skip) | (refine ex_ ?_; first | (show aWp _ _ _ _ _) | skip) | refine rt_ ?_)
        refine ⟨b.length - (at_ + n), by omega, ⟨out ++ [r], at_ + n, by omega, by first | rfl | omega, by rw [hol]; omega, by (have FX := Fx0; exact cl_), by rw [hwm]; (have FX := Fx0; exact cl_), hs2, .inr ⟨kf + 1 + 1, by (have FX := Fx.mk (@hol); exact cl_), by omega, by first | omega | (simp only; omega), by (have FX := Fx.mk (@hqs); exact cl_)⟩⟩, ?_, ?_, by first | omega | (simp only; omega), rfl⟩
        · repeat (refine KAgree.upd rfl ?_)
          first | exact KAgree.refl _ _ | exact hag
        · exact (by have FX := Fx.mk (@hh); exact ha_)
    · rw [scan_no hd hq] at hs
      simp only [List.append_nil, Nat.add_zero] at hs
      unfold scanV
      rw [hs]
      have hwq : decide (r.q = IntKind.i64.wrap (next + (out.length : Int))) = false := decide_eq_false fun q => by
        unfold IntKind.wrap at q
        simp [IntKind.signed, IntKind.bits] at q
        omega
      generalize IntKind.i64.wrap (next + (out.length : Int)) = nn at h1 hwq
      rcases h4 with ⟨h4, rfl⟩ | ⟨m, h4, hm1, hm2, hm3⟩
      · have FX := Fx.mk (And.intro @hag <| And.intro @h5 <| And.intro @h4 <| And.intro @l5 <| And.intro @h1 <| And.intro @z0 <| And.intro @hwq <| And.intro @decide_true <| And.intro @Bool.not_true <| @Bool.not_false)
        repeat (first | refine v_ ?_ | refine u_ ?_ | refine f_ (de) fun kf hkf => ?_ | refine nl_ ?_ | (refine nz_ ?_; first | (show aWp _ _ _ _ _) | skip) | refine sq_ ?_ | refine rg_ ?_ | refine k_ ?_ | refine ct_ ?_ | refine cf_ ?_ | refine bk_ ?_ | refine sc_ ?_ | (refine sk_ ?_; first | (show aWp _ _ _ _ _) | skip) | (refine ex_ ?_; first | (show aWp _ _ _ _ _) | skip) | refine rt_ ?_)
        have hr0 : recsB [] = [] := rfl
        (have FX := Fx.mk (And.intro @hag <| And.intro @hr0 <| @hh); exact end_ Try.results16)
      · have FX := Fx.mk (And.intro @hag <| And.intro @h5 <| And.intro @h4 <| And.intro @hm3 <| And.intro @l5 <| And.intro @h1 <| And.intro @z0 <| And.intro @hwq <| And.intro @rln <| And.intro @htk <| And.intro @decide_true <| And.intro @Bool.not_true <| @Bool.not_false)
        repeat (first | refine v_ ?_ | refine u_ ?_ | refine f_ (de) fun kf hkf => ?_ | refine nl_ ?_ | (refine nz_ ?_; first | (show aWp _ _ _ _ _) | skip) | refine sq_ ?_ | refine rg_ ?_ | refine k_ ?_ | refine ct_ ?_ | refine cf_ ?_ | refine bk_ ?_ | refine sc_ ?_ | (refine sk_ ?_; first | (show aWp _ _ _ _ _) | skip) | (refine ex_ ?_; first | (show aWp _ _ _ _ _) | skip) | refine rt_ ?_)
        (have FX := Fx.mk (And.intro @hag <| And.intro @hm3 <| And.intro @rln <| And.intro @htk <| @hh); exact end_ Try.results16)
end Go.Proofs.Yteklnhogokjkkaa.AE
