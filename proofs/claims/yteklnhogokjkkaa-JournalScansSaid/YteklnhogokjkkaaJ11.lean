/- Layer 15's page: put, get, Encode. -/
import Derived.Test.YteklnhogokjkkaaJ10
namespace Go.Proofs.Yteklnhogokjkkaa.AE
open Go Go.RowKit Go.Proofs Go.Proofs.Yteklnhogokjkkaa
set_option linter.unusedVariables false
set_option linter.unusedSimpArgs false
set_option maxRecDepth 100000
set_option maxHeartbeats 8000000
theorem ref15_put (n s : Int) (k : Nat) (hs : s = (k : Int)) (hk : 1 ≤ k ∧ k ≤ 8) (h0 : 0 ≤ n) (h1 : n < 256 ^ k) (h2 : n < 9223372036854775808) : aFun Try.prog 29 [.int .i64 n, .int .i64 s] (.sl (numB .u8 (Pl.putI k n))) := by
  have hp := ref01_Put n s
  have hf : Pl.putS n s = (Pl.putI k n, 0) := by
    rw [hs, Pl.putS_fits ⟨by omega, by omega⟩ (by simpa using h1), Int.toNat_natCast]
  rw [hf] at hp
  have hw : IntKind.u64.wrap n = n := by rw [wrapU] <;> omega
  refine aFun_body Try.func29 rfl rfl (by simp [Try.ntmps29]) fun hreal h nx hfresh => ?_
  rw [Try.ntmps29]
  have FX := Fx.mk (@hw)
  repeat (first | refine v_ ?_ | refine u_ ?_ | refine f_ (hp) fun kf hkf => ?_ | refine nl_ ?_ | (refine nz_ ?_; first | (show aWp _ _ _ _ _) | skip) | refine sq_ ?_ | refine rg_ ?_ | refine k_ ?_ | refine ct_ ?_ | refine cf_ ?_ | refine bk_ ?_ | refine sc_ ?_ | (refine sk_ ?_; first | (show aWp _ _ _ _ _) | skip) | (refine ex_ ?_; first | (show aWp _ _ _ _ _) | skip) | refine rt_ ?_)
  (have FX := Fx0; exact end_ Try.results29)
theorem ref15_get (b : List Int) (a s : Int) (j n : Nat) (haj : a = (j : Int)) (hs : s = (n : Int)) (hn : 1 ≤ n ∧ n ≤ 8) (ha : j + n ≤ b.length) {v : Int} (hv : min (numJ b j n) 4611686018427387904 = v) : aFun Try.prog 37 [.sl (numB .u8 b), .int .i64 a, .int .i64 s] (.int .i64 v) := by
  subst haj hs hv
  have hg := ref01_Get b j n
  rw [getS_J hn ha] at hg
  have h0 := numJ_nonneg b j n
  have hcl : (if 4611686018427387904 < numJ b j n then 4611686018427387904 else numJ b j n) = min (numJ b j n) 4611686018427387904 := by rw [Int.min_def]; split <;> split <;> omega
  have hcw : IntKind.i64.wrap (min (numJ b j n) 4611686018427387904) = min (numJ b j n) 4611686018427387904 := by rw [wrapI] <;> omega
  refine aFun_body Try.func37 rfl rfl (by simp [Try.ntmps37]) fun hreal h nx hfresh => ?_
  rw [Try.ntmps37]
  have FX := Fx.mk (And.intro @hcl <| @hcw)
  repeat (first | refine v_ ?_ | refine u_ ?_ | refine f_ (hg) fun kf hkf => ?_ | refine nl_ ?_ | (refine nz_ ?_; first | (show aWp _ _ _ _ _) | skip) | refine sq_ ?_ | refine rg_ ?_ | refine k_ ?_ | refine ct_ ?_ | refine cf_ ?_ | refine bk_ ?_ | refine sc_ ?_ | (refine sk_ ?_; first | (show aWp _ _ _ _ _) | skip) | (refine ex_ ?_; first | (show aWp _ _ _ _ _) | skip) | refine rt_ ?_)
  (have FX := Fx0; exact end_ Try.results37)
theorem ref15_Encode_bad (r : Rec) (hno : ¬ r.ok) : aFun Try.prog 12 [r.av] (.tup [.sl [], .int .i64 9]) := by
  have ck := ref15_Check r
  rw [show r.chk = 9 from if_neg hno] at ck
  have d9 : decide ((9 : Int) = 0) = false := rfl
  rw [Rec.av_eq] at ck ⊢
  refine aFun_body Try.func12 rfl rfl (by simp [Try.ntmps12]) fun hreal h nx hfresh => ?_
  rw [Try.ntmps12]
  have FX := Fx.mk (And.intro @d9 <| @Bool.not_false)
  repeat (first | refine v_ ?_ | refine u_ ?_ | refine f_ (ck) fun kf hkf => ?_ | refine nl_ ?_ | (refine nz_ ?_; first | (show aWp _ _ _ _ _) | skip) | refine sq_ ?_ | refine rg_ ?_ | refine k_ ?_ | refine ct_ ?_ | refine cf_ ?_ | refine bk_ ?_ | refine sc_ ?_ | (refine sk_ ?_; first | (show aWp _ _ _ _ _) | skip) | (refine ex_ ?_; first | (show aWp _ _ _ _ _) | skip) | refine rt_ ?_)
  (have FX := Fx0; exact end_ Try.results12)
theorem ref15_Encode (r : Rec) (hok : r.ok) : aFun Try.prog 12 [r.av] (.tup [.sl (numB .u8 r.enc), .int .i64 0]) := by
  have ck := ref15_Check r
  rw [show r.chk = 0 from if_pos hok] at ck
  have d0 : decide ((0 : Int) = 0) = true := rfl
  rw [Rec.av_eq] at ck ⊢
  have pl := pagesB_len r.pages
  obtain ⟨o1, o2, o3, o4, o5⟩ := id hok
  have p8 := ref15_put r.q 8 8 rfl (by decide) (by omega) (by show r.q < 18446744073709551616; omega) (by omega)
  have p4 := ref15_put r.root 4 4 rfl (by decide) (by omega) (by show r.root < 4294967296; omega) (by omega)
  have p4' := ref15_put r.room 4 4 rfl (by decide) (by omega) (by show r.room < 4294967296; omega) (by omega)
  have p2 := ref15_put (r.pages.length : Int) 2 2 rfl (by decide) (by omega) (by show (r.pages.length : Int) < 65536; omega) (by omega)
  have hhd : r.hd = 102 :: 115 :: 106 :: 49 :: (Pl.putI 8 r.q ++ Pl.putI 4 r.root ++ Pl.putI 4 r.room ++ Pl.putI 2 (r.pages.length : Int)) := by
    unfold Rec.hd Rec.vals
    rw [flat_widJ]
    simp [magJ]
  have l8 := Pl.putI_length 8 r.q
  have l4 := Pl.putI_length 4 r.root
  have l4' := Pl.putI_length 4 r.room
  have l2 := Pl.putI_length 2 (r.pages.length : Int)
  generalize Pl.putI 8 r.q = P8 at p8 hhd l8
  generalize Pl.putI 4 r.root = P4 at p4 hhd l4
  generalize Pl.putI 4 r.room = P4' at p4' hhd l4'
  generalize Pl.putI 2 (r.pages.length : Int) = P2 at p2 hhd l2
  have t1 : (102 :: 115 :: 106 :: 49 :: P8).take (1 + 1 + 1 + 1 + 8) = 102 :: 115 :: 106 :: 49 :: P8 := take_len _ _ (by simp [l8])
  have t2 : (102 :: 115 :: 106 :: 49 :: (P8 ++ P4)).take (1 + 1 + 1 + 1 + 8 + 4) = 102 :: 115 :: 106 :: 49 :: (P8 ++ P4) := take_len _ _ (by simp [l8, l4])
  have t3 : (102 :: 115 :: 106 :: 49 :: (P8 ++ P4 ++ P4')).take (1 + 1 + 1 + 1 + 8 + 4 + 4) = 102 :: 115 :: 106 :: 49 :: (P8 ++ P4 ++ P4') := take_len _ _ (by simp [l8, l4, l4'])
  refine aFun_body Try.func12 rfl rfl (by simp [Try.ntmps12]) fun hreal h nx hfresh => ?_
  rw [Try.ntmps12]
  have FX := Fx.mk (And.intro @d0 <| And.intro @pl <| And.intro @l8 <| And.intro @l4 <| And.intro @l4' <| And.intro @l2 <| And.intro @t1 <| And.intro @t2 <| And.intro @t3 <| @Bool.not_true)
  repeat (first | refine lit_ ?_ Try.underlying25 Try.underlying5 | refine v_ ?_ | refine u_ ?_ | refine f_ (ck) fun kf hkf => ?_ | refine f_ (p8) fun kf hkf => ?_ | refine f_ (p4) fun kf hkf => ?_ | refine f_ (p4') fun kf hkf => ?_ | refine f_ (p2) fun kf hkf => ?_ | refine nl_ ?_ | (refine nz_ ?_; first | (show aWp _ _ _ _ _) | skip) | refine sq_ ?_ | refine rg_ ?_ | refine k_ ?_ | refine ct_ ?_ | refine cf_ ?_ | refine bk_ ?_ | refine sc_ ?_ | (refine sk_ ?_; first | (show aWp _ _ _ _ _) | skip) | (refine ex_ ?_; first | (show aWp _ _ _ _ _) | skip) | refine rt_ ?_)
  have hu0 : r.upto 0 = 102 :: 115 :: 106 :: 49 :: (P8 ++ P4 ++ P4' ++ P2) := by rw [upto_0, hhd]
  have hul0 : (r.upto 0).length = 8 + 4 + 4 + 1 + 1 + 1 + 1 + 2 := by rw [hu0]; simp [l8, l4, l4', l2]
  refine W_loopK [1] kf (fun k tm h q => ∃ i m : Nat, i ≤ r.pages.length ∧ k = r.pages.length - i ∧ tm 5 = .int .i64 i ∧ kf ≤ m ∧ m < q ∧ tm 4 = .hs m 0 (r.upto i).length ∧ h m = some ⟨1, numB .u8 (r.upto i)⟩) r.pages.length (by omega) ⟨0, kf, by omega, rfl, by (have FX := Fx0; exact cl_), by omega, by omega, by (have FX := Fx.mk (@hul0); exact cl_), by (have FX := Fx.mk (@hu0); exact cl_)⟩ ?_
  rintro k tm' h' k' ⟨i, m, hi, rfl, h5, m1, m2, h4, b3⟩ hag hh hk'
  have b1 : h' nx = some ⟨4, [[.int .i64 r.q, .int .i64 r.root, .int .i64 r.room, .sl (pagesB r.pages)]]⟩ := by rw [hh nx (by omega)]; (have FX := Fx0; exact cl_)
  have hul := upto_len r hok i hi
  by_cases hlt : i < r.pages.length
  · have hd : decide ((i : Int) < (r.pages.length : Int)) = true := decide_eq_true (by omega)
    have hw : IntKind.i64.wrap (i + 1) = ((i + 1 : Nat) : Int) := by rw [wrapI] <;> omega
    obtain ⟨p, hp⟩ : ∃ p, r.pages[i]? = some p := ⟨_, List.getElem?_eq_getElem hlt⟩
    have hpb := pagesB_get _ i p hp
    have okd := o5 i hlt
    unfold Rec.okP at okd
    rw [getD_some hp] at okd
    obtain ⟨_, q2, q3⟩ := okd
    have pn := ref15_put p.1 2 2 rfl (by decide) (by omega) (by show p.1 < 65536; omega) (by omega)
    have hus := upto_succ r i p hp
    have hl2 := Pl.putI_length 2 p.1
    have hus2 : (r.upto (i + 1)).length = (r.upto i).length + 2 + 1 + p.2.length := by rw [hus]; simp [hl2]; omega
    obtain ⟨n, d⟩ := p
    simp only at q2 q3 pn hus hl2 hpb hus2
    have htk2 : (r.upto i ++ Pl.putI 2 n).take ((r.upto i).length + 2) = r.upto i ++ Pl.putI 2 n := take_len _ _ (by rw [List.length_append, hl2])
    have htk3 : ∀ x : Int, (r.upto i ++ Pl.putI 2 n ++ [x]).take ((r.upto i).length + 2 + 1) = r.upto i ++ Pl.putI 2 n ++ [x] := fun x => take_len _ _ (by rw [List.length_append, List.length_append, hl2]; rfl)
    rcases q3 with q3 | q3
    · obtain rfl : d = [] := by simpa using q3
      rw [List.append_nil, show ((min ([] : List Int).length 1 : Nat) : Int) = 0 from rfl] at hus
      rw [List.length_nil, Nat.add_zero] at hus2
      have n0 : numB .u8 [] = [] := rfl
      have z0 : decide (((0 : Nat) : Int) = 0) = true := rfl
      have FX := Fx.mk (And.intro @hag <| And.intro @h5 <| And.intro @h4 <| And.intro @b1 <| And.intro @b3 <| And.intro @pl <| And.intro @hd <| And.intro @hw <| And.intro @hpb <| And.intro @hl2 <| And.intro @htk2 <| And.intro @htk3 <| And.intro @n0 <| And.intro @z0 <| ((fun α : Type => @List.length_nil α)))
      repeat (first | refine v_ ?_ | refine u_ ?_ | refine f_ (pn) fun kf hkf => ?_ | refine nl_ ?_ | (refine nz_ ?_; first | (show aWp _ _ _ _ _) | skip) | refine sq_ ?_ | refine rg_ ?_ | refine k_ ?_ | refine ct_ ?_ | refine cf_ ?_ | refine bk_ ?_ | refine sc_ ?_ | (refine sk_ ?_; first | (show aWp _ _ _ _ _) | skip) | (refine ex_ ?_; first | (show aWp _ _ _ _ _) | skip) | refine rt_ ?_)
      refine ⟨r.pages.length - (i + 1), by omega, ⟨i + 1, kf + 1 + 1, by omega, rfl, by (have FX := Fx0; exact cl_), by omega, by first | omega | (simp only; omega), by (have FX := Fx.mk (@hus2); exact cl_), by (have FX := Fx.mk (@hus); exact cl_)⟩, ?_, ?_, by first | omega | (simp only; omega), rfl⟩
      · repeat (refine KAgree.upd rfl ?_)
        first | exact KAgree.refl _ _ | exact hag
      · exact (by have FX := Fx.mk (@hh); exact ha_)
    · rw [q3] at hus2
      rw [q3, show ((min 64 1 : Nat) : Int) = 1 from rfl] at hus
      have z0 : decide (((64 : Nat) : Int) = 0) = false := rfl
      have FX := Fx.mk (And.intro @hag <| And.intro @h5 <| And.intro @h4 <| And.intro @b1 <| And.intro @b3 <| And.intro @pl <| And.intro @hd <| And.intro @hw <| And.intro @hpb <| And.intro @hl2 <| And.intro @htk2 <| And.intro @htk3 <| And.intro @q3 <| @z0)
      repeat (first | refine v_ ?_ | refine u_ ?_ | refine f_ (pn) fun kf hkf => ?_ | refine nl_ ?_ | (refine nz_ ?_; first | (show aWp _ _ _ _ _) | skip) | refine sq_ ?_ | refine rg_ ?_ | refine k_ ?_ | refine ct_ ?_ | refine cf_ ?_ | refine bk_ ?_ | refine sc_ ?_ | (refine sk_ ?_; first | (show aWp _ _ _ _ _) | skip) | (refine ex_ ?_; first | (show aWp _ _ _ _ _) | skip) | refine rt_ ?_)
      have FX := Fx.mk (And.intro @hag <| And.intro @h5 <| And.intro @b1 <| And.intro @pl <| And.intro @hpb <| And.intro @hl2 <| And.intro @htk2 <| And.intro @htk3 <| @q3)
      refine W_draw mixed rfl rfl ?_
      repeat (first | refine dq_ ?_ | refine dr_ [nx] ?_ | refine dm_ [kf, kf + 1 + (0 + 1), kf + 1 + (0 + 1 + 1)] ?_ | refine da_ [kf, kf + 1 + (0 + 1), kf + 1 + (0 + 1 + 1)] ?_ | refine ds_ [nx] ?_ | refine ds_ [kf, kf + 1 + (0 + 1), kf + 1 + (0 + 1 + 1)] ?_ | refine dw_ [nx] ?_ | refine dk_ ?_ | refine dn_ ?_)
      refine fun kd hkd => ?_
      simp only [List.length_cons, List.length_nil] at hkd
      first | (show aWp _ _ _ _ _) | skip
      have FX := Fx.mk (And.intro @h5 <| And.intro @hag <| @hw)
      repeat (first | refine v_ ?_ | refine u_ ?_ | refine nl_ ?_ | (refine nz_ ?_; first | (show aWp _ _ _ _ _) | skip) | refine sq_ ?_ | refine rg_ ?_ | refine k_ ?_ | refine ct_ ?_ | refine cf_ ?_ | refine bk_ ?_ | refine sc_ ?_ | (refine sk_ ?_; first | (show aWp _ _ _ _ _) | skip) | (refine ex_ ?_; first | (show aWp _ _ _ _ _) | skip) | refine rt_ ?_)
      refine ⟨r.pages.length - (i + 1), by omega, ⟨i + 1, kf + 1 + (1 + 1 + 1 + 1 + 1 + 1 + 1 + 1 + 1), by omega, rfl, by (have FX := Fx0; exact cl_), by omega, by first | omega | (simp only; omega), by (have FX := Fx.mk (@hus2); exact cl_), by (have FX := Fx.mk (@hus); exact cl_)⟩, ?_, ?_, by first | omega | (simp only; omega), rfl⟩
      · repeat (refine KAgree.upd rfl ?_)
        first | exact KAgree.refl _ _ | exact hag
      · exact (by have FX := Fx.mk (@hh); exact ha_)
  obtain rfl : i = r.pages.length := by omega
  have hd : decide ((r.pages.length : Int) < (r.pages.length : Int)) = false := decide_eq_false (by omega)
  rw [upto_all] at h4 b3 hul
  have hse := ref02_Seal r.raw (by omega)
  have hsl := Pl.seal_len (l := r.raw)
  have hen : r.enc = Pl.sealS r.raw ++ List.replicate (padN (Pl.sealS r.raw).length - (Pl.sealS r.raw).length) 0 := rfl
  obtain ⟨S, hS⟩ : ∃ S, Pl.sealS r.raw = S := ⟨_, rfl⟩
  rw [hS] at hse hsl hen
  rw [hen]
  have htk : r.raw.take r.raw.length = r.raw := List.take_length
  have FX := Fx.mk (And.intro @hag <| And.intro @h5 <| And.intro @h4 <| And.intro @b1 <| And.intro @b3 <| And.intro @pl <| @hd)
  repeat (first | refine v_ ?_ | refine u_ ?_ | refine nl_ ?_ | (refine nz_ ?_; first | (show aWp _ _ _ _ _) | skip) | refine sq_ ?_ | refine rg_ ?_ | refine k_ ?_ | refine ct_ ?_ | refine cf_ ?_ | refine bk_ ?_ | refine sc_ ?_ | (refine sk_ ?_; first | (show aWp _ _ _ _ _) | skip) | (refine ex_ ?_; first | (show aWp _ _ _ _ _) | skip) | refine rt_ ?_)
  have FX := Fx.mk (And.intro @hag <| And.intro @h4 <| @b3); refine fz_ 68 ?_
  have FX := Fx.mk (@htk)
  repeat (first | refine v_ ?_ | refine u_ ?_ | refine o_ (hse) fun mf kf hmf hkf => ?_ | refine nl_ ?_ | (refine nz_ ?_; first | (show aWp _ _ _ _ _) | skip) | refine sq_ ?_ | refine rg_ ?_ | refine k_ ?_ | refine ct_ ?_ | refine cf_ ?_ | refine bk_ ?_ | refine sc_ ?_ | (refine sk_ ?_; first | (show aWp _ _ _ _ _) | skip) | (refine ex_ ?_; first | (show aWp _ _ _ _ _) | skip) | refine rt_ ?_)
  have hMl : padN S.length - S.length ≤ 63 := by unfold padN; omega
  have hMr : ∀ j, j < padN S.length - S.length → (S.length + j) % 64 ≠ 0 := fun j hj => by unfold padN at hj; omega
  have hMz : (S.length + (padN S.length - S.length)) % 64 = 0 := by unfold padN; omega
  generalize padN S.length - S.length = M at hMl hMr hMz ⊢
  obtain ⟨F, hF⟩ : ∃ F : Nat → List Int, ∀ j, F j = S ++ List.replicate j 0 := ⟨_, fun _ => rfl⟩
  have hr0 : F 0 = S := by rw [hF]; simp
  have hrs : ∀ j, F (j + 1) = F j ++ [0] := fun j => by rw [hF, hF, List.replicate_succ', List.append_assoc]
  have hFl : ∀ j, (F j).length = S.length + j := fun j => by rw [hF]; simp
  rw [← hF]
  refine W_loopK [] mf (fun k tm h q => ∃ j m : Nat, j ≤ M ∧ k = M - j ∧ mf ≤ m ∧ m < q ∧ tm 4 = .hs m 0 (S.length + j) ∧ h m = some ⟨1, numB .u8 (F j)⟩) M (by omega) ⟨0, mf, by omega, rfl, by omega, by omega, by (have FX := Fx0; exact cl_), by (have FX := Fx.mk (@hr0); exact cl_)⟩ ?_
  rintro k tm2 h2 k2 ⟨j, m', hj, rfl, n1, n2, t4, c3⟩ hag hh2 hk2
  have hrem : ((S.length + j : Nat) : Int).tmod 64 = (((S.length + j) % 64 : Nat) : Int) := by rw [Int.tmod_eq_emod_of_nonneg (by omega)]; omega
  have hjl := hFl j
  have hjt : (F j).take (S.length + j) = F j := take_len _ _ hjl
  have hrj := hrs j
  have hpu : S.length ≤ 20000 := by omega
  by_cases hlt : j < M
  · have dR : decide ((((S.length + j) % 64 : Nat) : Int) = 0) = false := decide_eq_false (by have := hMr j hlt; omega)
    have FX := Fx.mk (And.intro @hag <| And.intro @t4 <| And.intro @c3 <| And.intro @hrem <| And.intro @dR <| And.intro @hjl <| And.intro @hjt <| @Bool.not_false)
    repeat (first | refine v_ ?_ | refine u_ ?_ | refine nl_ ?_ | (refine nz_ ?_; first | (show aWp _ _ _ _ _) | skip) | refine sq_ ?_ | refine rg_ ?_ | refine k_ ?_ | refine ct_ ?_ | refine cf_ ?_ | refine bk_ ?_ | refine sc_ ?_ | (refine sk_ ?_; first | (show aWp _ _ _ _ _) | skip) | (refine ex_ ?_; first | (show aWp _ _ _ _ _) | skip) | refine rt_ ?_)
    refine ⟨M - (j + 1), by omega, ⟨j + 1, k2 + 1, by omega, rfl, by omega, by first | omega | (simp only; omega), by (have FX := Fx0; exact cl_), by (have FX := Fx.mk (@hrj); exact cl_)⟩, ?_, ?_, by first | omega | (simp only; omega), rfl⟩
    · repeat (refine KAgree.upd rfl ?_)
      first | exact KAgree.refl _ _ | exact hag
    · exact (by have FX := Fx.mk (@hh2); exact ha_)
  obtain rfl : j = M := by omega
  have dR : decide ((((S.length + j) % 64 : Nat) : Int) = 0) = true := decide_eq_true (by omega)
  have FX := Fx.mk (And.intro @hag <| And.intro @t4 <| And.intro @c3 <| And.intro @hrem <| And.intro @dR <| And.intro @hjl <| And.intro @hjt <| @Bool.not_true)
  repeat (first | refine v_ ?_ | refine u_ ?_ | refine nl_ ?_ | (refine nz_ ?_; first | (show aWp _ _ _ _ _) | skip) | refine sq_ ?_ | refine rg_ ?_ | refine k_ ?_ | refine ct_ ?_ | refine cf_ ?_ | refine bk_ ?_ | refine sc_ ?_ | (refine sk_ ?_; first | (show aWp _ _ _ _ _) | skip) | (refine ex_ ?_; first | (show aWp _ _ _ _ _) | skip) | refine rt_ ?_)
  (have FX := Fx.mk (And.intro @hag <| And.intro @t4 <| And.intro @c3 <| And.intro @hjl <| And.intro @hjt <| And.intro @hh2 <| @hh); exact end_ Try.results12)
end Go.Proofs.Yteklnhogokjkkaa.AE
