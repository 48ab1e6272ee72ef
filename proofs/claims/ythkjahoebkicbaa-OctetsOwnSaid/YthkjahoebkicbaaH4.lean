-- Laid by a program of this session's (wip/hprint.py) over the kit's print, with hand-made texts beside it. Lean checks it.
import Derived.Test.YthkjahoebkicbaaH0
import Derived.Test.YthkjahoebkicbaaH1
import Derived.Test.YthkjahoebkicbaaH2
import Derived.Deep.AppendLies
import Derived.Deep.RegionLaw
import Derived.Test.YthkjahoebkicbaaHelp
import Derived.Test.YthkjahoebkicbaaPl
namespace Go.Proofs.Ythkjahoebkicbaa.Hy
open Go.RowKit Go.Proofs.YthkjahoebkicbaaW.PrintWords Go.Proofs.YthkjahoebkicbaaW.PrintLast Go.Proofs.YthkjahoebkicbaaW.PrintMore
attribute [local go_sem] max2_int min2_int max_two min_two max_three min_three max_four min_four   -- for this text's walks alone
set_option linter.unusedVariables false
set_option linter.unusedSimpArgs false

/-! ### octets_Unpack: function 24 -/
def octets_Unpack.f (l0 : List Int) (l1 : List Int) : Option (List Int × Int) :=
  if (∀ x ∈ l1, 0 ≤ x ∧ x < 256) then some (Pl.unpackS l0 l1) else none
theorem octets_Unpack.fin {gb g_o m c n2 c2 : Nat} {A2 : Option Addr} {rest : List Int} {v0 v1 : Value} {xs : List Int} {w0 w1 : World} (hgg : gb ≠ g_o)
    (h1 : w1.heap[gb]? = some (.cells #[.slice A2 0 0] 24 (0, 0)) ∨ ∃ u, w1.heap[gb]? = some (.cells #[u] 24 (0, 0))) (h2 : w1.heap[g_o]? = some (.cells #[v0] 47 (0, 0)))
    (hn : n2 = (rest.drop m).length) (hc : c2 = c - m) (hr : Kd.C (Kd.int .u8) w0 A2 (rest.drop m).length (rest.drop m)) (hv : Kd.R (Kd.int .u64) 22 w1 w0.heap.size (fun _ => True) v1 xs) (hb : Below w0.heap.size w0 w1) (hgb0 : w0.heap.size ≤ gb) (hgo0 : w0.heap.size ≤ g_o) :
    ∃ A' v', ((w1.setCell ⟨g_o, 0, none⟩ v1).setCell ⟨gb, 0, none⟩ (.slice A2 n2 c2)).heap[gb]? = some (.cells #[.slice A' (rest.drop m).length (c - m)] 24 (0, 0)) ∧ ((w1.setCell ⟨g_o, 0, none⟩ v1).setCell ⟨gb, 0, none⟩ (.slice A2 n2 c2)).heap[g_o]? = some (.cells #[v'] 47 (0, 0)) ∧
      Kd.C (Kd.int .u8) w0 A' (rest.drop m).length (rest.drop m) ∧ Kd.R (Kd.int .u64) 22 ((w1.setCell ⟨g_o, 0, none⟩ v1).setCell ⟨gb, 0, none⟩ (.slice A2 n2 c2)) w0.heap.size (fun _ => True) v' xs ∧ Below w0.heap.size w0 ((w1.setCell ⟨g_o, 0, none⟩ v1).setCell ⟨gb, 0, none⟩ (.slice A2 n2 c2)) := by
  subst hn hc
  obtain ⟨u, h1⟩ : ∃ u, w1.heap[gb]? = some (.cells #[u] 24 (0, 0)) := by
    rcases h1 with h | h
    · exact ⟨_, h⟩
    · exact h
  have e1 : (w1.setCell ⟨g_o, 0, none⟩ v1).heap[gb]? = some (.cells #[u] 24 (0, 0)) := (hb_keep w1 0 v1 hgg).trans h1
  have e2 : (w1.setCell ⟨g_o, 0, none⟩ v1).heap[g_o]? = some (.cells #[v1] 47 (0, 0)) := hb_set h2 0 v1
  have hR1 := Kd.R_set hv h2 (by decide) 0 v1
  refine ⟨A2, v1, hb_set e1 0 _, (hb_keep _ 0 _ hgg.symm).trans e2, hr, Kd.R_set hR1 e1 (by decide) 0 _, below_set (below_set hb hgo0) hgb0⟩
set_option maxRecDepth 100000 in
set_option maxHeartbeats 4000000 in
theorem octets_Unpack.next (gb g_o : Nat) (x : Int) (A : Option Addr) (c : Nat) (rest : List Int) (v : Value) (nums : List Int) (w0 W : World) (HB : Below w0.heap.size w0 W)
    (hgb : W.heap[gb]? = some (.cells #[.slice A rest.length c] 24 (0, 0))) (hgo : W.heap[g_o]? = some (.cells #[v] 47 (0, 0)))
    (hr : Kd.C (Kd.int .u8) w0 A rest.length rest) (hc : rest.length ≤ c) (hby : Pl.BY rest) (hx1 : 1 ≤ x) (hx8 : x ≤ 8) (hx : x ≤ rest.length)
    (hv : Kd.R (Kd.int .u64) 22 W w0.heap.size (fun _ => True) v nums) (hgb0 : w0.heap.size ≤ gb) (hgo0 : w0.heap.size ≤ g_o) (hlim : nums.length < 1000) :
    Calls Try.prog 29 #[.int .i64 x, .pointer (some ⟨gb, 0, none⟩), .pointer (some ⟨g_o, 0, none⟩)] W fun e w' => e = .returned (.tuple #[]) ∧ ∃ A' v', 
      w'.heap[gb]? = some (.cells #[.slice A' (rest.drop x.toNat).length (c - x.toNat)] 24 (0, 0)) ∧ w'.heap[g_o]? = some (.cells #[v'] 47 (0, 0)) ∧
      Kd.C (Kd.int .u8) w0 A' (rest.drop x.toNat).length (rest.drop x.toNat) ∧ Kd.R (Kd.int .u64) 22 w' w0.heap.size (fun _ => True) v' (nums ++ [Pl.leI (rest.take x.toNat)]) ∧ Below w0.heap.size w0 w' := by
  have hneb : some gb ≠ v.ownBlock := Kd.R_ne hv hgb (by decide)
  have hneo : some g_o ≠ v.ownBlock := Kd.R_ne hv hgo (by decide)
  have hgg : gb ≠ g_o := by
    rintro rfl
    rw [hgb] at hgo
    simp at hgo
  have lgb := (Array.getElem?_eq_some_iff.1 hgb).1
  have lgo := (Array.getElem?_eq_some_iff.1 hgo).1
  have HGB := Aside0.mk hgb
  have HGO := Aside0.mk hgo
  have HR := Aside0.mk hr
  have HBY := Aside0.mk hby
  have HV := Aside0.mk hv
  have HBE := Aside0.mk HB
  have hmax := Kd.C_max hr
  have hg : octets_Get.f rest 0 x = some (Pl.leI (rest.take x.toNat), 0) := by
    unfold octets_Get.f
    rw [if_pos ⟨hby, by omega, by omega⟩]
    unfold Pl.getS
    rw [if_neg (by omega), if_neg (by omega), if_neg (by omega)]
    rfl
  have HG := Aside0.mk hg
  have hcb := (hb_cell hgb 0)
  have hco := (hb_cell hgo 0)
  simp only [List.getElem?_toArray, List.getElem?_cons_zero] at hcb hco
  have hfb := hb_free hgb 0
  have hfo := hb_free hgo 0
  clear hgb hgo hr hby hv HB hg
  obtain ⟨m, rfl⟩ := Pl.nat_of (show 0 ≤ x by omega)
  have hm : m ≤ rest.length := by omega
  have hd0 := Kd.C_drop (c := c) HR.out hm hc
  simp only [Kd.int, Kd.scalar, Nat.mul_one] at hd0
  have HD := Aside0.mk hd0
  clear hd0
  obtain ⟨ad, rfl, _⟩ := HR.out.2.2 (by omega)
  have hx0 : (0 : Int) ≤ (m : Int) := by omega
  simp only [Int.toNat_natCast] at HG ⊢
  by_cases hcm : c = m
  · rw [if_pos hcm] at HD
    subst hcm
    go_enter Try.func29, Try.ntmps29
    go_wp2_with (go_at_call 17; refine (octets_Get.calls (some ad) c rest 0 c _ 0 _ (Kd.C_below HR.out HBE.out) hc HG.out).mono ?_; rintro e w' ⟨rfl, hd⟩; obtain ⟨⟨q, rfl⟩⟩ := hd)
    have HV2 := Aside0.mk (Kd.R_drewN HV.out (q + 1))
    have HBE2 := Aside0.mk (pw_below_drewN HBE.out (q + 1))
    have a1 : ∀ (n : Nat) (o : Obj), ((W.drewN n).alloc o).cell? ⟨gb, 0, none⟩ = some (.slice (some ad) rest.length c) := fun n o => (World.cell?_alloc_lt _ _ _ lgb).trans hcb
    have a2 : ∀ (n : Nat) (o : Obj), ((W.drewN n).alloc o).cell? ⟨g_o, 0, none⟩ = some v := fun n o => (World.cell?_alloc_lt _ _ _ lgo).trans hco
    go_region_law
      ((refine Kd.R_append_step (Kd.int .u64) (w0 := w0) w0.heap.size rfl (.tmp 12) (.tmp 14) 47 22 (.int .u64 0) 8 rfl Try.underlying47 info22 rfl (by decide) (by omega) v nums (Pl.leI (List.take c rest)) [.int .u64 (Pl.leI (List.take c rest))] (fun _ => True) (fun _ => False) rfl rfl rfl (fun _ hk => hk.elim) (fun _ _ => trivial) HV2.out HBE2.out HBE2.out.size (by omega) ?_; intro v1 w1 hown1 hb1 hgrow hat; obtain ⟨A1, c1, hv1⟩ := Kd.R_slice hown1; subst hv1; have HGO1 := Aside0.mk ((hgrow.block g_o lgo hneo).trans HGO.out); have HGB1 := Aside0.mk ((hgrow.block gb lgb hneb).trans HGB.out); have x1 := hb_free HGO1.out 0; have x2 := hb_free HGB1.out 0; have x3 := hb_cell HGO1.out 0; have x4 := hb_cell HGB1.out 0; simp only [List.getElem?_toArray, List.getElem?_cons_zero] at x3 x4; have HO1 := Aside0.mk hown1; have HB1 := Aside0.mk hb1; clear hown1 hb1))
    all_goals
      go_end0
      exact ⟨rfl, octets_Unpack.fin hgg (.inr ⟨_, HGB1.out⟩) HGO1.out (by rw [List.length_drop]; omega) (by omega) HD.out (by simpa using HO1.out) HB1.out hgb0 hgo0⟩
  · rw [if_neg hcm] at HD
    have hcm' : (c = m) = False := eq_false hcm
    go_enter Try.func29, Try.ntmps29
    go_wp2_with (go_at_call 17; refine (octets_Get.calls (some ad) c rest 0 m _ 0 _ (Kd.C_below HR.out HBE.out) hc HG.out).mono ?_; rintro e w' ⟨rfl, hd⟩; obtain ⟨⟨q, rfl⟩⟩ := hd)
    have HV2 := Aside0.mk (Kd.R_drewN HV.out (q + 1))
    have HBE2 := Aside0.mk (pw_below_drewN HBE.out (q + 1))
    have a1 : ∀ (n : Nat) (o : Obj), ((W.drewN n).alloc o).cell? ⟨gb, 0, none⟩ = some (.slice (some ad) rest.length c) := fun n o => (World.cell?_alloc_lt _ _ _ lgb).trans hcb
    have a2 : ∀ (n : Nat) (o : Obj), ((W.drewN n).alloc o).cell? ⟨g_o, 0, none⟩ = some v := fun n o => (World.cell?_alloc_lt _ _ _ lgo).trans hco
    go_region_law
      ((refine Kd.R_append_step (Kd.int .u64) (w0 := w0) w0.heap.size rfl (.tmp 12) (.tmp 14) 47 22 (.int .u64 0) 8 rfl Try.underlying47 info22 rfl (by decide) (by omega) v nums (Pl.leI (List.take m rest)) [.int .u64 (Pl.leI (List.take m rest))] (fun _ => True) (fun _ => False) rfl rfl rfl (fun _ hk => hk.elim) (fun _ _ => trivial) HV2.out HBE2.out HBE2.out.size (by omega) ?_; intro v1 w1 hown1 hb1 hgrow hat; obtain ⟨A1, c1, hv1⟩ := Kd.R_slice hown1; subst hv1; have HGO1 := Aside0.mk ((hgrow.block g_o lgo hneo).trans HGO.out); have HGB1 := Aside0.mk ((hgrow.block gb lgb hneb).trans HGB.out); have x1 := hb_free HGO1.out 0; have x2 := hb_free HGB1.out 0; have x3 := hb_cell HGO1.out 0; have x4 := hb_cell HGB1.out 0; simp only [List.getElem?_toArray, List.getElem?_cons_zero] at x3 x4; have HO1 := Aside0.mk hown1; have HB1 := Aside0.mk hb1; clear hown1 hb1))
    all_goals
      go_end0
      exact ⟨rfl, octets_Unpack.fin hgg (.inr ⟨_, HGB1.out⟩) HGO1.out (by rw [List.length_drop]) rfl HD.out (by simpa using HO1.out) HB1.out hgb0 hgo0⟩
def octets_Unpack.Inv (w : World) (l0 l1 : List Int) (c1 j : Nat) (W : World) : Prop :=
  ∃ A' v', W.heap[w.heap.size]? = some (.cells #[.slice A' (l1.drop (Pl.sumN (l0.take j))).length (c1 - Pl.sumN (l0.take j))] 24 (0, 0)) ∧ W.heap[w.heap.size + 1]? = some (.cells #[v'] 47 (0, 0)) ∧
    Kd.C (Kd.int .u8) w A' (l1.drop (Pl.sumN (l0.take j))).length (l1.drop (Pl.sumN (l0.take j))) ∧ Kd.R (Kd.int .u64) 22 W w.heap.size (fun _ => True) v' (Pl.unpackGo (l0.take j) l1) ∧ Below w.heap.size w W
theorem octets_Unpack.inv0 {w : World} {l0 l1 : List Int} {A1 : Option Addr} {c1 : Nat} (hr : Kd.C (Kd.int .u8) w A1 l1.length l1) :
    octets_Unpack.Inv w l0 l1 c1 0 ((w.alloc (.cells #[.slice A1 l1.length c1] 24)).alloc (.cells #[.slice none 0 0] 47)) := by
  refine ⟨A1, .slice none 0 0, ?_, ?_, by simpa [Pl.sumN] using hr, Kd.R_nil _ _ _ _ _, below_alloc (below_alloc (Below.refl _ _) _) _⟩
  · rw [Below.heap_alloc _ _ _ (by simp)]
    simpa [Pl.sumN] using hb_new w _ _
  · have := hb_new (w.alloc (.cells #[.slice A1 l1.length c1] 24)) #[.slice none 0 0] 47
    simpa using this
theorem octets_Unpack.step {w W : World} {l0 l1 : List Int} {c1 j : Nat} (h : octets_Unpack.Inv w l0 l1 c1 j W) (hok : Pl.okW l0 = true) (hj : j < l0.length) (hby : Pl.BY l1) (hy : l1.length = Pl.sumN l0) (hc : l1.length ≤ c1) (h64 : l0.length ≤ 64) :
    Calls Try.prog 29 #[.int .i64 (l0.getD j 0), .pointer (some ⟨w.heap.size, 0, none⟩), .pointer (some ⟨w.heap.size + 1, 0, none⟩)] W fun e w' => e = .returned (.tuple #[]) ∧ octets_Unpack.Inv w l0 l1 c1 (j + 1) w' := by
  obtain ⟨A', v', h1, h2, h3, h4, h5⟩ := h
  have hb := Pl.okW_at hok j hj
  have e1 : l0.take (j + 1) = l0.take j ++ [l0.getD j 0] := Pl.take_snoc _ _ hj
  have e2 : Pl.sumN (l0.take (j + 1)) = Pl.sumN (l0.take j) + (l0.getD j 0).toNat := by rw [e1, Pl.sumN_snoc]
  have e3 : Pl.sumN (l0.take (j + 1)) ≤ Pl.sumN l0 := Pl.sumN_take_le _
  have e4 : (l1.drop (Pl.sumN (l0.take j))).length = l1.length - Pl.sumN (l0.take j) := by rw [List.length_drop]
  refine (octets_Unpack.next w.heap.size (w.heap.size + 1) (l0.getD j 0) A' _ _ v' _ w W h5 h1 h2 h3 (by rw [e4]; omega) (Pl.BY_drop hby _) hb.1 hb.2 (by rw [e4]; omega) h4 (Nat.le_refl _) (Nat.le_succ _) (by rw [Pl.unpackGo_length, List.length_take]; omega)).mono ?_
  rintro e w' ⟨rfl, A2, v2, g1, g2, g3, g4, g5⟩
  refine ⟨rfl, A2, v2, ?_, g2, ?_, ?_, g5⟩
  · rw [e2, ← List.drop_drop, ← Nat.sub_sub]; exact g1
  · rw [e2, ← List.drop_drop]; exact g3
  · rw [e1, Pl.unpackGo_snoc]; exact g4
set_option maxRecDepth 100000 in
set_option maxHeartbeats 4000000 in
theorem octets_Unpack.calls (A0 : Option Addr) (c0 : Nat) (l0 : List Int) (A1 : Option Addr) (c1 : Nat) (l1 : List Int) (r1 : List Int) (r2 : Int) (w : World) (hr0 : Kd.C (Kd.int .i64) w A0 l0.length l0) (hc0 : l0.length ≤ c0) (hr1 : Kd.C (Kd.int .u8) w A1 l1.length l1) (hc1 : l1.length ≤ c1) (h : octets_Unpack.f l0 l1 = some (r1, r2)) :
    Calls Try.prog 24 #[.slice A0 l0.length c0, .slice A1 l1.length c1] w fun e w' => ∃ v0_ : Value, e = .returned (.tuple #[v0_, .int .i64 r2]) ∧ Kd.R (Kd.int .u64) 22 w' w.heap.size (fun _ => True) v0_ r1 ∧ Below w.heap.size w w' := by
  unfold octets_Unpack.f at h
  split at h
  case isFalse => cases h
  rename_i hby
  have h := Option.some.inj h
  unfold Pl.unpackS at h
  have HB := Aside0.mk (Below.refl w.heap.size w)
  by_cases h1 : l0.length > 64
  · rw [if_pos h1] at h
    simp only [Prod.mk.injEq] at h
    obtain ⟨rfl, rfl⟩ := h
    clear hby
    go_enter Try.func24, Try.ntmps24
    go_wp2
    go_ret2
    exact ⟨_, rfl, Kd.R_nil _ _ _ _ _, by simpa using below_alloc HB.out _⟩
  rw [if_neg h1] at h
  have h64 : l0.length ≤ 64 := by omega
  have h64b : decide (64 < l0.length) = false := decide_eq_false (by omega)
  have HBY := Aside0.mk (show Pl.BY l1 from hby)
  have HR1 := Aside0.mk hr1
  have HR0 := Aside0.mk hr0
  clear hby hr1 hr0 h1
  have hmax1 := Kd.C_max HR1.out
  -- the first loop's cells
  have hcell : ∀ W : World, Below w.heap.size w W → 0 < l0.length → ∃ ad, A0 = some ad ∧ ∀ i, i < l0.length → W.cell? (ad.add i) = some (.int .i64 (l0.getD i 0)) := by
    intro W hW hp
    exact C_int (Kd.C_below HR0.out hW) hp
  have HC := Aside0.mk hcell
  clear hcell
  cases hok : Pl.okW l0 with
  | false =>
    rw [if_pos hok] at h
    simp only [Prod.mk.injEq] at h
    obtain ⟨rfl, rfl⟩ := h
    obtain ⟨p, hp, hbad, hpre⟩ := Pl.okW_bad hok
    obtain ⟨ad, rfl, hx⟩ := (HC.out _ (below_alloc HB.out (.cells #[.slice A1 l1.length c1] 24))) (by omega)
    have HX := Aside0.mk hx
    have HP := Aside0.mk hpre
    have HBAD := Aside0.mk hbad
    clear hx hpre hok HC hbad
    go_enter Try.func24, Try.ntmps24
    go_wp2
    go_loop [6, 18] (fun a c => ∃ i : Nat, i ≤ p ∧ c = .int .i64 i ∧ a = .int .i64 (Pl.sumI (l0.take i))) (fun _ c => p + 1 - (intOf c).toNat)
    case atStart => exact ⟨0, Nat.zero_le _, rfl, by simp [Pl.sumI]⟩
    case round =>
      obtain ⟨i, hi, rfl, rfl⟩ := hrel
      have hc := HX.out i (by omega)
      have hil : i < l0.length := by omega
      by_cases hlt : i < p
      · have hb := Pl.okW_at HP.out i (by rw [List.length_take]; omega)
        have e1 : (l0.take p).getD i 0 = l0.getD i 0 := by simp [List.getD_eq_getElem?_getD, List.getElem?_take, hlt]
        rw [e1] at hb
        have hs := Pl.sum_ok (Pl.okW_take HP.out i)
        have e2 : (l0.take p).take i = l0.take i := by rw [List.take_take, Nat.min_eq_left (by omega)]
        rw [e2] at hs
        have hsn : Pl.sumI (l0.take (i + 1)) = Pl.sumI (l0.take i) + l0.getD i 0 := by rw [Pl.take_snoc _ _ hil, Pl.sumI_snoc]
        have HS := Aside0.mk hsn
        have hl : (l0.take i).length ≤ 64 := by rw [List.length_take]; omega
        generalize l0.getD i 0 = x at hc hb HS
        obtain ⟨s1, s2⟩ := hs
        have s3 : 0 ≤ Pl.sumI (l0.take i) ∧ Pl.sumI (l0.take i) ≤ 512 := by omega
        obtain ⟨hb0, hb1⟩ := hb
        obtain ⟨s4, s5⟩ := s3
        clear hsn e1 e2 s1 s2 hl
        generalize Pl.sumI (l0.take i) = y at HS s4 s5 ⊢
        go_wp2
        go_round
        case rel => exact ⟨i + 1, by omega, by go_num, by rw [HS.out]⟩
        case measure => simp [intOf]; omega
      · obtain rfl : i = p := by omega
        have hb := HBAD.out
        generalize l0.getD i 0 = x at hc hb
        by_cases hx1 : x < 1
        · clear hb
          go_wp2
          go_ret2
          exact ⟨_, rfl, Kd.R_nil _ _ _ _ _, by simpa using below_alloc HB.out _⟩
        · have hx8 : 8 < x := by omega
          clear hb
          go_wp2
          go_ret2
          exact ⟨_, rfl, Kd.R_nil _ _ _ _ _, by simpa using below_alloc HB.out _⟩
  | true =>
    rw [if_neg (by simp [hok])] at h
    have hsum := Pl.sum_ok hok
    have HOK := Aside0.mk hok
    clear hok
    obtain ⟨hs1, hs2⟩ := hsum
    rw [hs1] at h
    have hcells := HC.out _ (below_alloc HB.out (.cells #[.slice A1 l1.length c1] 24))
    have HX := Aside0.mk hcells
    clear hcells
    have hS : Pl.sumN l0 ≤ 512 := by omega
    have hcb := hb_cell (hb_new w #[.slice A1 l1.length c1] 24) 0
    simp only [List.getElem?_toArray, List.getElem?_cons_zero] at hcb
    have HS1 := Aside0.mk hs1
    clear hs1
    go_enter Try.func24, Try.ntmps24
    go_wp2
    go_loop [6, 18] (fun a c => ∃ i : Nat, i ≤ l0.length ∧ c = .int .i64 i ∧ a = .int .i64 (Pl.sumI (l0.take i))) (fun _ c => l0.length - (intOf c).toNat)
    case atStart => exact ⟨0, Nat.zero_le _, rfl, by simp [Pl.sumI]⟩
    case round =>
      obtain ⟨i, hi, rfl, rfl⟩ := hrel
      by_cases hlt : i < l0.length
      · obtain ⟨ad, rfl, hx⟩ := HX.out (by omega)
        have hc := hx i hlt
        have hb := Pl.okW_at HOK.out i hlt
        have hs := Pl.sum_ok (Pl.okW_take HOK.out i)
        have hsn : Pl.sumI (l0.take (i + 1)) = Pl.sumI (l0.take i) + l0.getD i 0 := by rw [Pl.take_snoc _ _ hlt, Pl.sumI_snoc]
        have HS := Aside0.mk hsn
        have hl : (l0.take i).length ≤ 64 := by rw [List.length_take]; omega
        generalize l0.getD i 0 = x at hc hb HS
        obtain ⟨s1, s2⟩ := hs
        have s3 : 0 ≤ Pl.sumI (l0.take i) ∧ Pl.sumI (l0.take i) ≤ 512 := by omega
        obtain ⟨hb0, hb1⟩ := hb
        obtain ⟨s4, s5⟩ := s3
        clear hsn s1 s2 hl hx
        generalize Pl.sumI (l0.take i) = y at HS s4 s5 ⊢
        go_wp2
        go_round
        case rel => exact ⟨i + 1, by omega, by go_num, by rw [HS.out]⟩
        case measure => simp [intOf]; omega
      · obtain rfl : i = l0.length := by omega
        rw [List.take_length, HS1.out]
        by_cases hsh : (l1.length : Int) < (Pl.sumN l0 : Int)
        · rw [if_pos hsh] at h
          simp only [Prod.mk.injEq] at h
          obtain ⟨rfl, rfl⟩ := h
          have hsh' : l1.length < Pl.sumN l0 := by omega
          generalize Pl.sumN l0 = y at *
          go_wp2
          go_ret2
          exact ⟨_, rfl, Kd.R_nil _ _ _ _ _, by simpa using below_alloc HB.out _⟩
        rw [if_neg hsh] at h
        by_cases htl : (l1.length : Int) > (Pl.sumN l0 : Int)
        · rw [if_pos htl] at h
          simp only [Prod.mk.injEq] at h
          obtain ⟨rfl, rfl⟩ := h
          have hsh' : Pl.sumN l0 < l1.length := by omega
          generalize Pl.sumN l0 = y at *
          go_wp2
          go_ret2
          exact ⟨_, rfl, Kd.R_nil _ _ _ _ _, by simpa using below_alloc HB.out _⟩
        rw [if_neg htl] at h
        simp only [Prod.mk.injEq] at h
        obtain ⟨rfl, rfl⟩ := h
        have hle : l1.length = Pl.sumN l0 := by omega
        have HLE := Aside0.mk hle
        obtain ⟨y, hy⟩ : ∃ y, Pl.sumN l0 = y := ⟨_, rfl⟩
        rw [hy]
        have hyl : l1.length = y := by omega
        have HY := Aside0.mk hy
        have q1 : ¬ l1.length < y := by omega
        have q2 : ¬ y < l1.length := by omega
        clear hle hy hyl hsh htl hs2 hS
        have hmf : ∀ (fn : Fn) (first cap : Array Value) (w : World), (Instr.makeFunc fn first cap).run Try.prog w = .ok (.func fn first cap) w := fun _ _ _ _ => rfl
        have hlen : ((l0.length : Nat) : Int) ≤ 64 := by omega
        go_wp2
        go_loopw [45] (fun c wr => ∃ j : Nat, j ≤ l0.length ∧ c = .int .i64 j ∧ octets_Unpack.Inv w l0 l1 c1 j wr) (fun c _ => l0.length - (intOf c).toNat)
        case atStart => exact ⟨0, Nat.zero_le _, rfl, octets_Unpack.inv0 HR1.out⟩
        case round =>
          obtain ⟨j, hj, rfl, hinv⟩ := hrel
          have HI := Aside0.mk hinv
          clear hinv
          by_cases hlt : j < l0.length
          · obtain ⟨A', v', _, _, _, _, hbel⟩ := HI.out
            obtain ⟨ad, rfl, hx2⟩ := C_int (Kd.C_below HR0.out hbel) (by omega)
            have hcj := hx2 j hlt
            clear hx2 hbel
            have HST := Aside0.mk (octets_Unpack.step HI.out HOK.out hlt HBY.out HLE.out hc1 h64)
            generalize l0.getD j 0 = x at hcj HST
            go_wp2_with (go_at_call 29; refine HST.out.mono ?_; rintro e w' ⟨rfl, hi2⟩; have HI2 := Aside0.mk hi2; clear hi2)
            go_roundw
            case rel => exact ⟨j + 1, by omega, by go_num, HI2.out⟩
            case measure => simp [intOf]; omega
          · obtain rfl : j = l0.length := by omega
            obtain ⟨A', v', h1, h2, h3, h4, h5⟩ := HI.out
            rw [List.take_length] at h4
            have hco := hb_cell h2 0
            simp only [List.getElem?_toArray, List.getElem?_cons_zero] at hco
            obtain ⟨A2, c2, rfl⟩ := Kd.R_slice h4
            have H4 := Aside0.mk h4
            have H5 := Aside0.mk h5
            clear h1 h2 h3 h4 h5
            go_wp2
            go_ret2
            exact ⟨_, rfl, H4.out, H5.out⟩

/-! ### flagstoneplain_Spoil: function 25 -/
def flagstoneplain_Spoil.l0 : Nat → List Int → Int → Option (List Int)
  | 0, _, _ => none
  | k + 1, x0, x2 => if x2 < (x0.length : Int) then (if 0 ≤ x2 then (flagstoneplain_Spoil.l0 k (x0.set (x2 : Int).toNat (Go.bits .xor .u8 IntKind.u8.max (rd x0 x2))) (wrap64 (x2 + 1))) else (none)) else (some x0)
def flagstoneplain_Spoil.f (k : Nat) (l0 : List Int) : Option (List Int) := flagstoneplain_Spoil.l0 k l0 0
theorem flagstoneplain_Spoil.mono_l : ∀ k, (∀ y0 y1, LeO (flagstoneplain_Spoil.l0 k y0 y1) (flagstoneplain_Spoil.l0 (k + 1) y0 y1))
  | 0 => fun _ _ r h => by simp [flagstoneplain_Spoil.l0] at h
  | k + 1 => by
    have ih0 := flagstoneplain_Spoil.mono_l k
    · intro y0 y1
      unfold flagstoneplain_Spoil.l0
      repeat' first
      | (with_reducible exact ih0 _ _)
      | (with_reducible exact LeO.refl _)
      | (with_reducible exact LeO.none _)
      | (with_reducible refine LeO.ite ?_ ?_)
      | (with_reducible refine LeO.bind ?_ (fun _ => ?_))
      | exact ih0 _ _
      | exact LeO.none _
      | refine LeO.ite ?_ ?_
      | refine LeO.bind ?_ (fun _ => ?_)
theorem flagstoneplain_Spoil.mono : ∀ a0 k, LeO (flagstoneplain_Spoil.f k a0) (flagstoneplain_Spoil.f (k + 1) a0) := by
  intro a0 k
  have ih0 := flagstoneplain_Spoil.mono_l k
  unfold flagstoneplain_Spoil.f
  repeat' first
      | (with_reducible exact ih0 _ _)
      | (with_reducible exact LeO.refl _)
      | (with_reducible exact LeO.none _)
      | (with_reducible refine LeO.ite ?_ ?_)
      | (with_reducible refine LeO.bind ?_ (fun _ => ?_))
      | exact ih0 _ _
      | exact LeO.none _
      | refine LeO.ite ?_ ?_
      | refine LeO.bind ?_ (fun _ => ?_)
set_option maxHeartbeats 8000000 in
set_option maxRecDepth 100000 in
theorem flagstoneplain_Spoil.calls (k : Nat) (P0_ : Nat → Prop) (u9000_ : Value) (l0 : List Int) (r : List Int) (w0 w : World) (hB : Below w0.heap.size w0 w) (ho0 : Kd.R (Kd.int .u8) 5 w w0.heap.size P0_ u9000_ l0) (h : flagstoneplain_Spoil.f k l0 = some r) :
    Calls Try.prog 25 #[u9000_] w fun e w' => e = .returned (.tuple #[]) ∧ Kd.R (Kd.int .u8) 5 w' w0.heap.size (fun k_ => (P0_ k_ ∨ w.heap.size ≤ k_)) u9000_ r ∧ Below w0.heap.size w0 w' ∧ Kept w w' (fun k_ => P0_ k_) := by
  have HO0 := Aside0.mk (show Kd.R (Kd.int .u8) 5 w w0.heap.size (fun k_ => (P0_ k_ ∨ w.heap.size ≤ k_)) u9000_ l0 from Kd.R_mono ho0 (fun k_ hk => (.inl hk)))
  have HK := Aside0.mk (Kept.refl w (fun k_ => P0_ k_))
  have HW0 := Aside0.mk hB.size
  have HB := Aside0.mk hB
  clear hB
  have H : (flagstoneplain_Spoil.l0 k l0 0) = some r := h
  clear h
  have H' := Aside0.mk H
  clear H
  go_enter Try.func25, Try.ntmps25
  go_wp2
  go_loopg [2] k (fun kq v2 w' => ∃ (x0_1 : List Int) (x2_1 : Int), v2 = .int .i64 x2_1 ∧ Aside0 (flagstoneplain_Spoil.l0 kq x0_1 x2_1 = some r) ∧ Aside0 (kq ≤ k) ∧ Aside0 (Kd.R (Kd.int .u8) 5 w' w0.heap.size (fun k_ => (P0_ k_ ∨ w.heap.size ≤ k_)) u9000_ x0_1) ∧ Aside0 (Kept w w' (fun k_ => P0_ k_)) ∧ Aside0 (Below w0.heap.size w0 w'))
  case atStart => exact ⟨(l0), (0), (by first | rfl | (simp; done) | (simp [*]; done)), H', ⟨Nat.le_refl _⟩, ⟨by (with_reducible repeat (first | apply Kd.R_alloc | apply Kd.R_drewN | apply Kd.R_drew)); exact HO0.out⟩, ⟨by repeat (first | (with_reducible first | exact HK.out | apply Kept.alloc | apply Kept.drewN | apply Kept.drew) | exact HK.out)⟩, ⟨by repeat (first | (with_reducible first | exact HB.out | apply below_alloc | apply pw_below_drewN | apply below_drew1) | exact HB.out)⟩⟩
  case round =>
    clear H'
    obtain ⟨x0_1, x2_1, rfl, HA, HK1, HO_0, HK, HB⟩ := hrel
    cases gk with
    | zero => exact absurd HA.out (by simp [flagstoneplain_Spoil.l0])
    | succ k1 =>
      have H := HA.out
      clear HA
      simp only [flagstoneplain_Spoil.l0] at H
      by_cases c2 : x2_1 < (x0_1.length : Int)
      · rw [if_pos c2] at H
        have c2b0 : decide (x2_1 < (x0_1.length : Int)) = true := decide_eq_true c2
        clear c2
        by_cases c3 : 0 ≤ x2_1
        · rw [if_pos c3] at H
          have c3b0 : decide (0 ≤ x2_1) = true := decide_eq_true c3
          clear c3
          obtain ⟨y210, hy210⟩ : ∃ y_ : List Int, y_ = (x0_1.set (x2_1 : Int).toNat (Go.bits .xor .u8 IntKind.u8.max (rd x0_1 x2_1))) := ⟨_, rfl⟩
          replace H : (flagstoneplain_Spoil.l0 k1 y210 (wrap64 (x2_1 + 1))) = some r := by first | (rw [hy210]; with_reducible exact H) | (have H2_ := (Option.bind_some _ _).symm.trans H; rw [hy210]; with_reducible exact H2_) | (have H2_ := (Option.bind_some _ _).symm.trans H; with_reducible exact H2_) | with_reducible exact H | (rw [hy210]; exact H) | exact H
          have Ny210 := Aside0.mk hy210
          clear hy210
          have H' := Aside0.mk H
          clear H
          obtain ⟨Ao5, co5, eo5⟩ := Kd.R_slice HO_0.out
          subst eo5
          have p209 : 0 ≤ (x2_1 : Int) := of_decide_eq_true (by first | (with_reducible assumption) | assumption)
          have q209 : x2_1 < (x0_1.length : Int) := of_decide_eq_true (by first | (with_reducible assumption) | assumption)
          obtain ⟨ad209, e209, hx209_0⟩ := Kd.at_int (Kd.R_reads' HO_0.out).2.2 x2_1 p209 q209
          cases e209
          replace p209 := eq_true p209
          replace q209 := eq_true q209
          have p4 : 0 ≤ (x2_1 : Int) := of_decide_eq_true (by first | (with_reducible assumption) | assumption)
          have q4 : (x2_1 : Int) < ((x0_1.length : Int) : Int) := of_decide_eq_true (by first | (with_reducible assumption) | assumption)
          obtain ⟨go4, co4, eo4, gb4, gl4, cl4, HG4⟩ := Kd.R_form HO_0.out (by omega)
          (first | cases eo4 | (injection eo4 with ea_ en_ ec_; (first | subst ea_ | (injection ea_ with ea_; subst ea_)); subst ec_; clear en_))
          have GB4 := Aside0.mk gb4
          have GG4 := Aside0.mk HG4
          clear gb4 gl4 HG4
          have HMgo4 := Aside0.mk (show (P0_ go4 ∨ w.heap.size ≤ go4) from (HO_0.out.1 _ rfl))
          (first | simp only [add_plain] at hx209_0 | skip)
          obtain ⟨hx4_0, hf4_0⟩ := Kd.R_celln 0 HO_0.out (x2_1 : Int) p4 q4
          replace p4 := eq_true p4
          replace q4 := eq_true q4
          have HP6 := Kd.R_putg HO_0.out (x2_1 : Int) (Go.bits .xor .u8 IntKind.u8.max (rd x0_1 x2_1))
          go_wp2_with (first | ((with_reducible refine gate_store (t := 5) (p := 16) rfl ?_); refine store_event (t := 5) (p := 16) (v := ?vo_w7) (w1 := (wr.setCell ⟨go4, (x2_1 : Int).toNat, none⟩ (.int .u8 (Go.bits .xor .u8 IntKind.u8.max (rd x0_1 x2_1))))) ?hg ?ho ?hn ?hr ?_; (case ho => rfl); (case hg => rfl); (case hn => rfl); (case hr => first | (go_simp; done) | (go_simp; rfl)); intro w7 hw; have hg : wr.grownBy w7 (some go4) := (by rw [hw]; exact HP6.2); have hp_ : Kd.R (Kd.int .u8) 5 w7 w0.heap.size (fun k_ => (P0_ k_ ∨ w.heap.size ≤ k_)) (.slice (some ⟨go4, 0, none⟩) x0_1.length co5) y210 := (by rw [hw, Ny210.out]; exact HP6.1); clear HP6; have n0_ := Aside0.mk (hp_); have n1_ := Aside0.mk ((by rw [hw]; exact below_set (HB.out) GB4.out : Below w0.heap.size w0 w7)); have n2_ := Aside0.mk (Kept.of_grown (S := (fun k_ => P0_ k_)) hg (by repeat (first | (with_reducible first | exact HK.out | apply Kept.alloc | apply Kept.drewN | apply Kept.drew) | exact HK.out)) (fun k_ e_ => (HO_0.out.1 k_ e_))); clear HO_0; clear HB; clear HK; have HO_0 := n0_; have HB := n1_; have HK := n2_; clear n0_ n1_ n2_; clear hg hw hp_))
          go_roundg k1
          case measure => have := HK1.out; omega
          case rel => exact ⟨(y210), (wrap64 (x2_1 + 1)), (by first | rfl | (simp; done) | (simp [*]; done)), H', ⟨by have := HK1.out; omega⟩, ⟨by (with_reducible repeat (first | apply Kd.R_alloc | apply Kd.R_drewN | apply Kd.R_drew)); exact HO_0.out⟩, ⟨by repeat (first | (with_reducible first | exact HK.out | apply Kept.alloc | apply Kept.drewN | apply Kept.drew) | exact HK.out)⟩, ⟨by repeat (first | (with_reducible first | exact HB.out | apply below_alloc | apply pw_below_drewN | apply below_drew1) | exact HB.out)⟩⟩
        · rw [if_neg c3] at H
          exact absurd H (by simp)
      · rw [if_neg c2] at H
        have c2b0 : decide (x2_1 < (x0_1.length : Int)) = false := decide_eq_false c2
        clear c2
        obtain rfl := Option.some.inj H
        obtain ⟨Ao8, co8, eo8⟩ := Kd.R_slice HO_0.out
        subst eo8
        go_wp2
        first | go_end0 | ((try simp only [Exit.inBlock, Exit.then]); refine bodyPost_ret (results_none rfl _ _ _) rfl ?_)
        exact ⟨by first | rfl | (simp [errW_none, errW_some] <;> rfl) | (simp [*, errW_none, errW_some] <;> rfl), by (with_reducible repeat (first | apply Kd.R_alloc | apply Kd.R_drewN | apply Kd.R_drew)); exact HO_0.out, by repeat (first | (with_reducible first | exact HB.out | apply below_alloc | apply pw_below_drewN | apply below_drew1) | exact HB.out), by repeat (first | (with_reducible first | exact HK.out | apply Kept.alloc | apply Kept.drewN | apply Kept.drew) | exact HK.out)⟩

/-! ### flagstoneref01_Unpack: function 26 -/
mutual
def flagstoneref01_Unpack.l0 : Nat → List Int → List Int → Int → Option (List Int × Int)
  | 0, _, _, _ => none
  | k + 1, x0, x1, x6 => if x6 < (x0.length : Int) then (if 0 ≤ x6 then (if (rd x0 x6) < 1 then (some (([] : List Int), 1)) else (if (rd x0 x6) > 8 then (some (([] : List Int), 1)) else (flagstoneref01_Unpack.l0 k x0 x1 (wrap64 (x6 + 1))))) else (none)) else (flagstoneref01_Unpack.l1 k x0 x1 ([] : List Int) 0 0)
def flagstoneref01_Unpack.l1 : Nat → List Int → List Int → List Int → Int → Int → Option (List Int × Int)
  | 0, _, _, _, _, _ => none
  | k + 1, x0, x1, x7, x8, x9 => if x9 < (x0.length : Int) then (if 0 ≤ x9 then ((flagstoneref01_Get.f k x1 x8 (rd x0 x9)).bind fun bt214 => (if bt214.2 = 0 then (if x7.length < 17592186044416 then (flagstoneref01_Unpack.l1 k x0 x1 (x7 ++ [bt214.1]) (wrap64 (x8 + (rd x0 x9))) (wrap64 (x9 + 1))) else (none)) else (some (([] : List Int), bt214.2)))) else (none)) else (if x8 < (x1.length : Int) then (some (([] : List Int), 23)) else (some (x7, 0)))
end
def flagstoneref01_Unpack.f (k : Nat) (l0 : List Int) (l1 : List Int) : Option (List Int × Int) := if (l0.length : Int) > 64 then (some (([] : List Int), 3)) else (flagstoneref01_Unpack.l0 k l0 l1 0)
theorem flagstoneref01_Unpack.mono_l : ∀ k, (∀ y0 y1 y2, LeO (flagstoneref01_Unpack.l0 k y0 y1 y2) (flagstoneref01_Unpack.l0 (k + 1) y0 y1 y2)) ∧ (∀ y0 y1 y2 y3 y4, LeO (flagstoneref01_Unpack.l1 k y0 y1 y2 y3 y4) (flagstoneref01_Unpack.l1 (k + 1) y0 y1 y2 y3 y4))
  | 0 => ⟨fun _ _ _ r h => by simp [flagstoneref01_Unpack.l0] at h, fun _ _ _ _ _ r h => by simp [flagstoneref01_Unpack.l1] at h⟩
  | k + 1 => by
    obtain ⟨ih0, ih1⟩ := flagstoneref01_Unpack.mono_l k
    refine ⟨?_, ?_⟩
    · intro y0 y1 y2
      unfold flagstoneref01_Unpack.l0
      repeat' first
      | (with_reducible exact ih0 _ _ _)
      | (with_reducible exact ih1 _ _ _ _ _)
      | (with_reducible exact flagstoneref01_Get.mono _ _ _ _)
      | (with_reducible exact LeO.refl _)
      | (with_reducible exact LeO.none _)
      | (with_reducible refine LeO.ite ?_ ?_)
      | (with_reducible refine LeO.bind ?_ (fun _ => ?_))
      | exact ih0 _ _ _
      | exact ih1 _ _ _ _ _
      | exact flagstoneref01_Get.mono _ _ _ _
      | exact LeO.none _
      | refine LeO.ite ?_ ?_
      | refine LeO.bind ?_ (fun _ => ?_)
    · intro y0 y1 y2 y3 y4
      unfold flagstoneref01_Unpack.l1
      repeat' first
      | (with_reducible exact ih0 _ _ _)
      | (with_reducible exact ih1 _ _ _ _ _)
      | (with_reducible exact flagstoneref01_Get.mono _ _ _ _)
      | (with_reducible exact LeO.refl _)
      | (with_reducible exact LeO.none _)
      | (with_reducible refine LeO.ite ?_ ?_)
      | (with_reducible refine LeO.bind ?_ (fun _ => ?_))
      | exact ih0 _ _ _
      | exact ih1 _ _ _ _ _
      | exact flagstoneref01_Get.mono _ _ _ _
      | exact LeO.none _
      | refine LeO.ite ?_ ?_
      | refine LeO.bind ?_ (fun _ => ?_)
theorem flagstoneref01_Unpack.mono : ∀ a0 a1 k, LeO (flagstoneref01_Unpack.f k a0 a1) (flagstoneref01_Unpack.f (k + 1) a0 a1) := by
  intro a0 a1 k
  obtain ⟨ih0, ih1⟩ := flagstoneref01_Unpack.mono_l k
  unfold flagstoneref01_Unpack.f
  repeat' first
      | (with_reducible exact ih0 _ _ _)
      | (with_reducible exact ih1 _ _ _ _ _)
      | (with_reducible exact flagstoneref01_Get.mono _ _ _ _)
      | (with_reducible exact LeO.refl _)
      | (with_reducible exact LeO.none _)
      | (with_reducible refine LeO.ite ?_ ?_)
      | (with_reducible refine LeO.bind ?_ (fun _ => ?_))
      | exact ih0 _ _ _
      | exact ih1 _ _ _ _ _
      | exact flagstoneref01_Get.mono _ _ _ _
      | exact LeO.none _
      | refine LeO.ite ?_ ?_
      | refine LeO.bind ?_ (fun _ => ?_)
set_option maxHeartbeats 8000000 in
set_option maxRecDepth 100000 in
theorem flagstoneref01_Unpack.calls (k : Nat) (A0 : Option Addr) (c0 : Nat) (l0 : List Int) (A1 : Option Addr) (c1 : Nat) (l1 : List Int) (r1 : List Int) (r2 : Int) (w : World) (hr0 : Kd.C (Kd.int .i64) w A0 l0.length l0) (hc0 : l0.length ≤ c0) (hr1 : Kd.C (Kd.int .u8) w A1 l1.length l1) (hc1 : l1.length ≤ c1) (h : flagstoneref01_Unpack.f k l0 l1 = some (r1, r2)) :
    Calls Try.prog 26 #[.slice A0 l0.length c0, .slice A1 l1.length c1] w fun e w' => ∃ v0_ : Value, e = .returned (.tuple #[v0_, .int .i64 r2]) ∧ Kd.R (Kd.int .u64) 22 w' w.heap.size (fun _ => True) v0_ r1 ∧ Below w.heap.size w w' := by
  have HR0 := Aside0.mk hr0
  have HC0 := Aside0.mk hc0
  clear hr0 hc0
  have HR1 := Aside0.mk hr1
  have HC1 := Aside0.mk hc1
  clear hr1 hc1
  have HB := Aside0.mk (Below.refl w.heap.size w)
  have H : (if (l0.length : Int) > 64 then (some (([] : List Int), 3)) else (flagstoneref01_Unpack.l0 k l0 l1 0)) = some (r1, r2) := h
  clear h
  by_cases c3 : (l0.length : Int) > 64
  · rw [if_pos c3] at H
    have c3b0 : decide (64 < (l0.length : Int)) = true := decide_eq_true c3
    have c3b1 : decide (64 < l0.length) = true := decide_eq_true (by omega)
    clear c3
    simp only [Option.some.injEq, Prod.mk.injEq] at H
    obtain ⟨rfl, rfl⟩ := H
    go_enter Try.func26, Try.ntmps26
    go_wp2
    go_ret2
    exact ⟨_, by first | rfl | (simp [errW_none, errW_some] <;> rfl) | (simp [*, errW_none, errW_some] <;> rfl), by first | exact Kd.R_nil _ _ _ _ _ | exact Kd.N_nil _ _ _ _ _ | exact Kd.V_nil _ _ _ _ _ | exact Kd.Q_nil _ _ _ _ _ | exact Kd.S_nil _ _ _ _ _, by repeat (first | (with_reducible first | exact HB.out | apply below_alloc | apply pw_below_drewN | apply below_drew1) | exact HB.out)⟩
  · rw [if_neg c3] at H
    have c3b0 : decide (64 < (l0.length : Int)) = false := decide_eq_false c3
    have c3b1 : decide (64 < l0.length) = false := decide_eq_false (by omega)
    clear c3
    have H' := Aside0.mk H
    clear H
    go_enter Try.func26, Try.ntmps26
    go_wp2
    go_loopg [6] k (fun kq v6 w' => ∃ (x6_1 : Int), v6 = .int .i64 x6_1 ∧ Aside0 (flagstoneref01_Unpack.l0 kq l0 l1 x6_1 = some (r1, r2)) ∧ Aside0 (kq ≤ k) ∧ Aside0 (Below w.heap.size w w'))
    case atStart => exact ⟨(0), (by first | rfl | (simp; done) | (simp [*]; done)), H', ⟨Nat.le_refl _⟩, ⟨by repeat (first | (with_reducible first | exact HB.out | apply below_alloc | apply pw_below_drewN | apply below_drew1) | exact HB.out)⟩⟩
    case round =>
      clear H'
      try clear c1
      try clear c2
      try clear p2
      try clear c3
      try clear c3b0
      try clear c3b1
      obtain ⟨x6_1, rfl, HA, HK1, HB⟩ := hrel
      cases gk with
      | zero => exact absurd HA.out (by simp [flagstoneref01_Unpack.l0])
      | succ k1 =>
        have H := HA.out
        clear HA
        simp only [flagstoneref01_Unpack.l0] at H
        by_cases c4 : x6_1 < (l0.length : Int)
        · rw [if_pos c4] at H
          have c4b0 : decide (x6_1 < (l0.length : Int)) = true := decide_eq_true c4
          clear c4
          by_cases c5 : 0 ≤ x6_1
          · rw [if_pos c5] at H
            have c5b0 : decide (0 ≤ x6_1) = true := decide_eq_true c5
            clear c5
            by_cases c6 : (rd l0 x6_1) < 1
            · rw [if_pos c6] at H
              have c6b0 : decide ((rd l0 x6_1) < 1) = true := decide_eq_true c6
              clear c6
              simp only [Option.some.injEq, Prod.mk.injEq] at H
              obtain ⟨rfl, rfl⟩ := H
              have p211 : 0 ≤ (x6_1 : Int) := of_decide_eq_true (by first | (with_reducible assumption) | assumption)
              have q211 : x6_1 < (l0.length : Int) := of_decide_eq_true (by first | (with_reducible assumption) | assumption)
              obtain ⟨ad211, e211, hx211_0⟩ := Kd.at_int HR0.out x6_1 p211 q211
              cases e211
              replace hx211_0 := (HB.out.cell (World.block_lt_of_cell? w _ hx211_0)).trans hx211_0
              replace p211 := eq_true p211
              replace q211 := eq_true q211
              go_wp2
              go_ret2
              exact ⟨_, by first | rfl | (simp [errW_none, errW_some] <;> rfl) | (simp [*, errW_none, errW_some] <;> rfl), by first | exact Kd.R_nil _ _ _ _ _ | exact Kd.N_nil _ _ _ _ _ | exact Kd.V_nil _ _ _ _ _ | exact Kd.Q_nil _ _ _ _ _ | exact Kd.S_nil _ _ _ _ _, by repeat (first | (with_reducible first | exact HB.out | apply below_alloc | apply pw_below_drewN | apply below_drew1) | exact HB.out)⟩
            · rw [if_neg c6] at H
              have c6b0 : decide ((rd l0 x6_1) < 1) = false := decide_eq_false c6
              clear c6
              by_cases c7 : (rd l0 x6_1) > 8
              · rw [if_pos c7] at H
                have c7b0 : decide (8 < (rd l0 x6_1)) = true := decide_eq_true c7
                clear c7
                simp only [Option.some.injEq, Prod.mk.injEq] at H
                obtain ⟨rfl, rfl⟩ := H
                have p211 : 0 ≤ (x6_1 : Int) := of_decide_eq_true (by first | (with_reducible assumption) | assumption)
                have q211 : x6_1 < (l0.length : Int) := of_decide_eq_true (by first | (with_reducible assumption) | assumption)
                obtain ⟨ad211, e211, hx211_0⟩ := Kd.at_int HR0.out x6_1 p211 q211
                cases e211
                replace hx211_0 := (HB.out.cell (World.block_lt_of_cell? w _ hx211_0)).trans hx211_0
                replace p211 := eq_true p211
                replace q211 := eq_true q211
                have p212 : 0 ≤ (x6_1 : Int) := of_decide_eq_true (by first | (with_reducible assumption) | assumption)
                have q212 : x6_1 < (l0.length : Int) := of_decide_eq_true (by first | (with_reducible assumption) | assumption)
                obtain ⟨ad212, e212, hx212_0⟩ := Kd.at_int HR0.out x6_1 p212 q212
                obtain rfl : ad211 = ad212 := (by injection e212)
                replace hx212_0 := (HB.out.cell (World.block_lt_of_cell? w _ hx212_0)).trans hx212_0
                replace p212 := eq_true p212
                replace q212 := eq_true q212
                go_wp2
                go_ret2
                exact ⟨_, by first | rfl | (simp [errW_none, errW_some] <;> rfl) | (simp [*, errW_none, errW_some] <;> rfl), by first | exact Kd.R_nil _ _ _ _ _ | exact Kd.N_nil _ _ _ _ _ | exact Kd.V_nil _ _ _ _ _ | exact Kd.Q_nil _ _ _ _ _ | exact Kd.S_nil _ _ _ _ _, by repeat (first | (with_reducible first | exact HB.out | apply below_alloc | apply pw_below_drewN | apply below_drew1) | exact HB.out)⟩
              · rw [if_neg c7] at H
                have c7b0 : decide (8 < (rd l0 x6_1)) = false := decide_eq_false c7
                clear c7
                have H' := Aside0.mk H
                clear H
                have p211 : 0 ≤ (x6_1 : Int) := of_decide_eq_true (by first | (with_reducible assumption) | assumption)
                have q211 : x6_1 < (l0.length : Int) := of_decide_eq_true (by first | (with_reducible assumption) | assumption)
                obtain ⟨ad211, e211, hx211_0⟩ := Kd.at_int HR0.out x6_1 p211 q211
                cases e211
                replace hx211_0 := (HB.out.cell (World.block_lt_of_cell? w _ hx211_0)).trans hx211_0
                replace p211 := eq_true p211
                replace q211 := eq_true q211
                have p212 : 0 ≤ (x6_1 : Int) := of_decide_eq_true (by first | (with_reducible assumption) | assumption)
                have q212 : x6_1 < (l0.length : Int) := of_decide_eq_true (by first | (with_reducible assumption) | assumption)
                obtain ⟨ad212, e212, hx212_0⟩ := Kd.at_int HR0.out x6_1 p212 q212
                obtain rfl : ad211 = ad212 := (by injection e212)
                replace hx212_0 := (HB.out.cell (World.block_lt_of_cell? w _ hx212_0)).trans hx212_0
                replace p212 := eq_true p212
                replace q212 := eq_true q212
                go_wp2
                go_roundg k1
                case measure => have := HK1.out; omega
                case rel => exact ⟨(wrap64 (x6_1 + 1)), (by first | rfl | (simp; done) | (simp [*]; done)), H', ⟨by have := HK1.out; omega⟩, ⟨by repeat (first | (with_reducible first | exact HB.out | apply below_alloc | apply pw_below_drewN | apply below_drew1) | exact HB.out)⟩⟩
          · rw [if_neg c5] at H
            exact absurd H (by simp)
        · rw [if_neg c4] at H
          have c4b0 : decide (x6_1 < (l0.length : Int)) = false := decide_eq_false c4
          clear c4
          have H' := Aside0.mk H
          clear H
          go_wp2
          go_loopg [7, 8, 9] k1 (fun kq v7 v8 v9 w' => ∃ (x7_2 : List Int) (x8_2 : Int) (x9_2 : Int), v8 = .int .i64 x8_2 ∧ v9 = .int .i64 x9_2 ∧ Aside0 (flagstoneref01_Unpack.l1 kq l0 l1 x7_2 x8_2 x9_2 = some (r1, r2)) ∧ Aside0 (kq ≤ k1) ∧ Aside0 (Kd.R (Kd.int .u64) 22 w' w.heap.size (fun _ => True) v7 x7_2) ∧ Aside0 (Below w.heap.size w w'))
          case atStart => exact ⟨(([] : List Int)), (0), (0), (by first | rfl | (simp; done) | (simp [*]; done)), (by first | rfl | (simp; done) | (simp [*]; done)), H', ⟨Nat.le_refl _⟩, ⟨by first | exact Kd.R_nil _ _ _ _ _ | exact Kd.N_nil _ _ _ _ _ | exact Kd.V_nil _ _ _ _ _ | exact Kd.Q_nil _ _ _ _ _ | exact Kd.S_nil _ _ _ _ _⟩, ⟨by repeat (first | (with_reducible first | exact HB.out | apply below_alloc | apply pw_below_drewN | apply below_drew1) | exact HB.out)⟩⟩
          case round =>
            clear H'
            try clear c1
            try clear c2
            try clear p2
            try clear q2
            try clear hx2
            try clear c3
            try clear c3b0
            try clear c3b1
            try clear c4
            try clear c4b0
            try clear c5
            try clear c5b0
            try clear c6
            try clear c6b0
            try clear p6
            try clear c7
            try clear c7b0
            try clear hx211_0
            try clear hx212_0
            try clear p2
            try clear p211
            try clear p212
            try clear q211
            try clear q212
            obtain ⟨x7_2, x8_2, x9_2, rfl, rfl, HA, HK2, HO_7, HB⟩ := hrel
            cases gk with
            | zero => exact absurd HA.out (by simp [flagstoneref01_Unpack.l1])
            | succ k2 =>
              have H := HA.out
              clear HA
              simp only [flagstoneref01_Unpack.l1] at H
              by_cases c8 : x9_2 < (l0.length : Int)
              · rw [if_pos c8] at H
                have c8b0 : decide (x9_2 < (l0.length : Int)) = true := decide_eq_true c8
                clear c8
                by_cases c9 : 0 ≤ x9_2
                · rw [if_pos c9] at H
                  have c9b0 : decide (0 ≤ x9_2) = true := decide_eq_true c9
                  clear c9
                  replace H := Option.bind_eq_some_iff.mp H
                  obtain ⟨⟨t214, t215⟩, A100, H⟩ := H
                  replace H : (if t215 = 0 then (if x7_2.length < 17592186044416 then (flagstoneref01_Unpack.l1 k2 l0 l1 (x7_2 ++ [t214]) (wrap64 (x8_2 + (rd l0 x9_2))) (wrap64 (x9_2 + 1))) else (none)) else (some (([] : List Int), t215))) = some (r1, r2) := H
                  have A10 := Aside0.mk A100
                  clear A100
                  by_cases c11 : t215 = 0
                  · rw [if_pos c11] at H
                    have c11b0 : (t215 == 0) = true := beq_iff_eq.mpr c11
                    have c11b1 : (t215 != 0) = false := bne_eq_false_iff_eq.mpr c11
                    clear c11
                    by_cases c12 : x7_2.length < 17592186044416
                    · rw [if_pos c12] at H
                      have LMc12 := Aside0.mk c12
                      clear c12
                      obtain ⟨y216, hy216⟩ : ∃ y_ : List Int, y_ = (x7_2 ++ [t214]) := ⟨_, rfl⟩
                      replace H : (flagstoneref01_Unpack.l1 k2 l0 l1 y216 (wrap64 (x8_2 + (rd l0 x9_2))) (wrap64 (x9_2 + 1))) = some (r1, r2) := by first | (rw [hy216]; with_reducible exact H) | (have H2_ := (Option.bind_some _ _).symm.trans H; rw [hy216]; with_reducible exact H2_) | (have H2_ := (Option.bind_some _ _).symm.trans H; with_reducible exact H2_) | with_reducible exact H | (rw [hy216]; exact H) | exact H
                      have Ny216 := Aside0.mk hy216
                      clear hy216
                      have H' := Aside0.mk H
                      clear H
                      have p213 : 0 ≤ (x9_2 : Int) := of_decide_eq_true (by first | (with_reducible assumption) | assumption)
                      have q213 : x9_2 < (l0.length : Int) := of_decide_eq_true (by first | (with_reducible assumption) | assumption)
                      obtain ⟨ad213, e213, hx213_0⟩ := Kd.at_int HR0.out x9_2 p213 q213
                      cases e213
                      replace hx213_0 := (HB.out.cell (World.block_lt_of_cell? w _ hx213_0)).trans hx213_0
                      replace p213 := eq_true p213
                      replace q213 := eq_true q213
                      go_wp2_with (first | ((with_reducible refine gate_callee (f := 18) rfl ?_); refine goesL_ (some 46) rfl rfl Try.func18 (by kernel_rfl) rfl #[.slice A1 l1.length c1, .int .i64 x8_2, .int .i64 (rd l0 x9_2)] rfl (by (try simp only [List.map_toArray, List.map_cons, List.map_nil]); first | done | rfl | (simp only [List.length_drop, List.length_take]; rfl)) ?_; (with_reducible refine (flagstoneref01_Get.calls k2 _ _ l1 x8_2 (rd l0 x9_2) t214 t215 _ ?side1 ?side2 A10.out).mono ?_); (case side1 => repeat (first | exact (Kd.C_below HR1.out HB.out) | (with_reducible refine Kd.C_alloc ?_ _) | (with_reducible refine Kd.C_drewN ?_ _) | (with_reducible refine Kd.C_drew ?_))); (case side2 => exact HC1.out); rintro e w' ⟨rfl, ⟨nd, rfl⟩⟩; refine ⟨_, rfl, ?_⟩) | ((with_reducible refine gate_builtin (b := .append) (xs := #[.tmp 52, .tmp 54]) rfl ?_); at_builtin; refine Kd.R_append (Kd.int .u64) (w0 := w) w.heap.size rfl (.tmp 52) (.tmp 54) 47 22 (.int .u64 0) 8 rfl Try.underlying47 info22 rfl (by decide) (by omega) u7 x7_2 t214 [.int .u64 t214] (fun _ => True) (fun _ => False) rfl rfl ?aP (fun _ hk => hk.elim) ?aF ?aO ?aB ?aS ?aL ?_; (case aP => exact rfl); (case aB => exact (by repeat (first | (with_reducible first | exact HB.out | apply below_alloc | apply pw_below_drewN | apply below_drew1) | exact HB.out))); (case aF => exact (fun _ _ => trivial)); (case aO => exact (by (with_reducible repeat (first | apply Kd.R_alloc | apply Kd.R_drewN | apply Kd.R_drew)); exact HO_7.out)); (case aS => exact (below_size (by repeat (first | (with_reducible first | exact HB.out | apply below_alloc | apply pw_below_drewN | apply below_drew1) | exact HB.out)))); (case aL => have := LMc12.out; omega); intro v217 w13 ho hb hg hat; rw [← Ny216.out] at ho; have n0_ := Aside0.mk (hb); have n1_ := Aside0.mk (ho); clear HB; clear HO_7; have HB := n0_; have HO218 := n1_; clear n0_ n1_; clear ho hb hg hat; have p219 : 0 ≤ (x9_2 : Int) := of_decide_eq_true (by first | (with_reducible assumption) | assumption); have q219 : x9_2 < (l0.length : Int) := of_decide_eq_true (by first | (with_reducible assumption) | assumption); obtain ⟨ad219, e219, hx219_0⟩ := Kd.at_int HR0.out x9_2 p219 q219; obtain rfl : ad213 = ad219 := (by injection e219); replace hx219_0 := (HB.out.cell (World.block_lt_of_cell? w _ hx219_0)).trans hx219_0; replace p219 := eq_true p219; replace q219 := eq_true q219))
                      go_roundg k2
                      case measure => have := HK1.out; have := HK2.out; omega
                      case rel => exact ⟨(y216), (wrap64 (x8_2 + (rd l0 x9_2))), (wrap64 (x9_2 + 1)), (by first | rfl | (simp; done) | (simp [*]; done)), (by first | rfl | (simp; done) | (simp [*]; done)), H', ⟨by have := HK1.out; have := HK2.out; omega⟩, ⟨by (with_reducible repeat (first | apply Kd.R_alloc | apply Kd.R_drewN | apply Kd.R_drew)); exact HO218.out⟩, ⟨by repeat (first | (with_reducible first | exact HB.out | apply below_alloc | apply pw_below_drewN | apply below_drew1) | exact HB.out)⟩⟩
                    · rw [if_neg c12] at H
                      exact absurd H (by simp)
                  · rw [if_neg c11] at H
                    have c11b0 : (t215 == 0) = false := beq_eq_false_iff_ne.mpr c11
                    have c11b1 : (t215 != 0) = true := bne_iff_ne.mpr c11
                    simp only [Option.some.injEq, Prod.mk.injEq] at H
                    obtain ⟨rfl, rfl⟩ := H
                    have p213 : 0 ≤ (x9_2 : Int) := of_decide_eq_true (by first | (with_reducible assumption) | assumption)
                    have q213 : x9_2 < (l0.length : Int) := of_decide_eq_true (by first | (with_reducible assumption) | assumption)
                    obtain ⟨ad213, e213, hx213_0⟩ := Kd.at_int HR0.out x9_2 p213 q213
                    cases e213
                    replace hx213_0 := (HB.out.cell (World.block_lt_of_cell? w _ hx213_0)).trans hx213_0
                    replace p213 := eq_true p213
                    replace q213 := eq_true q213
                    go_wp2_with (first | ((with_reducible refine gate_callee (f := 18) rfl ?_); refine goesL_ (some 46) rfl rfl Try.func18 (by kernel_rfl) rfl #[.slice A1 l1.length c1, .int .i64 x8_2, .int .i64 (rd l0 x9_2)] rfl (by (try simp only [List.map_toArray, List.map_cons, List.map_nil]); first | done | rfl | (simp only [List.length_drop, List.length_take]; rfl)) ?_; (with_reducible refine (flagstoneref01_Get.calls k2 _ _ l1 x8_2 (rd l0 x9_2) t214 t215 _ ?side1 ?side2 A10.out).mono ?_); (case side1 => repeat (first | exact (Kd.C_below HR1.out HB.out) | (with_reducible refine Kd.C_alloc ?_ _) | (with_reducible refine Kd.C_drewN ?_ _) | (with_reducible refine Kd.C_drew ?_))); (case side2 => exact HC1.out); rintro e w' ⟨rfl, ⟨nd, rfl⟩⟩; refine ⟨_, rfl, ?_⟩))
                    go_ret2
                    exact ⟨_, by first | rfl | (simp [errW_none, errW_some] <;> rfl) | (simp [*, errW_none, errW_some] <;> rfl), by first | exact Kd.R_nil _ _ _ _ _ | exact Kd.N_nil _ _ _ _ _ | exact Kd.V_nil _ _ _ _ _ | exact Kd.Q_nil _ _ _ _ _ | exact Kd.S_nil _ _ _ _ _, by repeat (first | (with_reducible first | exact HB.out | apply below_alloc | apply pw_below_drewN | apply below_drew1) | exact HB.out)⟩
                · rw [if_neg c9] at H
                  exact absurd H (by simp)
              · rw [if_neg c8] at H
                have c8b0 : decide (x9_2 < (l0.length : Int)) = false := decide_eq_false c8
                clear c8
                by_cases c14 : x8_2 < (l1.length : Int)
                · rw [if_pos c14] at H
                  have c14b0 : decide (x8_2 < (l1.length : Int)) = true := decide_eq_true c14
                  clear c14
                  simp only [Option.some.injEq, Prod.mk.injEq] at H
                  obtain ⟨rfl, rfl⟩ := H
                  go_wp2
                  go_ret2
                  exact ⟨_, by first | rfl | (simp [errW_none, errW_some] <;> rfl) | (simp [*, errW_none, errW_some] <;> rfl), by first | exact Kd.R_nil _ _ _ _ _ | exact Kd.N_nil _ _ _ _ _ | exact Kd.V_nil _ _ _ _ _ | exact Kd.Q_nil _ _ _ _ _ | exact Kd.S_nil _ _ _ _ _, by repeat (first | (with_reducible first | exact HB.out | apply below_alloc | apply pw_below_drewN | apply below_drew1) | exact HB.out)⟩
                · rw [if_neg c14] at H
                  have c14b0 : decide (x8_2 < (l1.length : Int)) = false := decide_eq_false c14
                  clear c14
                  simp only [Option.some.injEq, Prod.mk.injEq] at H
                  obtain ⟨rfl, rfl⟩ := H
                  go_wp2
                  go_ret2
                  exact ⟨_, by first | rfl | (simp [errW_none, errW_some] <;> rfl) | (simp [*, errW_none, errW_some] <;> rfl), by (with_reducible repeat (first | apply Kd.R_alloc | apply Kd.R_drewN | apply Kd.R_drew)); exact HO_7.out, by repeat (first | (with_reducible first | exact HB.out | apply below_alloc | apply pw_below_drewN | apply below_drew1) | exact HB.out)⟩

/-! ### flagstoneplain_SameNumbers: function 27 -/
def flagstoneplain_SameNumbers.l0 : Nat → List Int → List Int → Int → Option (Bool)
  | 0, _, _, _ => none
  | k + 1, x0, x1, x5 => if x5 < (x0.length : Int) then (if 0 ≤ x5 then (if x5 < (x1.length : Int) then (if (rd x0 x5) = (rd x1 x5) then (flagstoneplain_SameNumbers.l0 k x0 x1 (wrap64 (x5 + 1))) else (some false)) else (none)) else (none)) else (some true)
def flagstoneplain_SameNumbers.f (k : Nat) (l0 : List Int) (l1 : List Int) : Option (Bool) := if (l0.length : Int) = (l1.length : Int) then (flagstoneplain_SameNumbers.l0 k l0 l1 0) else (some false)
theorem flagstoneplain_SameNumbers.mono_l : ∀ k, (∀ y0 y1 y2, LeO (flagstoneplain_SameNumbers.l0 k y0 y1 y2) (flagstoneplain_SameNumbers.l0 (k + 1) y0 y1 y2))
  | 0 => fun _ _ _ r h => by simp [flagstoneplain_SameNumbers.l0] at h
  | k + 1 => by
    have ih0 := flagstoneplain_SameNumbers.mono_l k
    · intro y0 y1 y2
      unfold flagstoneplain_SameNumbers.l0
      repeat' first
      | (with_reducible exact ih0 _ _ _)
      | (with_reducible exact LeO.refl _)
      | (with_reducible exact LeO.none _)
      | (with_reducible refine LeO.ite ?_ ?_)
      | (with_reducible refine LeO.bind ?_ (fun _ => ?_))
      | exact ih0 _ _ _
      | exact LeO.none _
      | refine LeO.ite ?_ ?_
      | refine LeO.bind ?_ (fun _ => ?_)
theorem flagstoneplain_SameNumbers.mono : ∀ a0 a1 k, LeO (flagstoneplain_SameNumbers.f k a0 a1) (flagstoneplain_SameNumbers.f (k + 1) a0 a1) := by
  intro a0 a1 k
  have ih0 := flagstoneplain_SameNumbers.mono_l k
  unfold flagstoneplain_SameNumbers.f
  repeat' first
      | (with_reducible exact ih0 _ _ _)
      | (with_reducible exact LeO.refl _)
      | (with_reducible exact LeO.none _)
      | (with_reducible refine LeO.ite ?_ ?_)
      | (with_reducible refine LeO.bind ?_ (fun _ => ?_))
      | exact ih0 _ _ _
      | exact LeO.none _
      | refine LeO.ite ?_ ?_
      | refine LeO.bind ?_ (fun _ => ?_)
set_option maxHeartbeats 8000000 in
set_option maxRecDepth 100000 in
theorem flagstoneplain_SameNumbers.calls (k : Nat) (A0 : Option Addr) (c0 : Nat) (l0 : List Int) (A1 : Option Addr) (c1 : Nat) (l1 : List Int) (r : Bool) (w : World) (hr0 : Kd.C (Kd.int .u64) w A0 l0.length l0) (hc0 : l0.length ≤ c0) (hr1 : Kd.C (Kd.int .u64) w A1 l1.length l1) (hc1 : l1.length ≤ c1) (h : flagstoneplain_SameNumbers.f k l0 l1 = some r) :
    Calls Try.prog 27 #[.slice A0 l0.length c0, .slice A1 l1.length c1] w fun e w' => e = .returned (.bool r) ∧ Drawn0 w w' := by
  have HR0 := Aside0.mk hr0
  have HC0 := Aside0.mk hc0
  clear hr0 hc0
  have HR1 := Aside0.mk hr1
  have HC1 := Aside0.mk hc1
  clear hr1 hc1
  have H : (if (l0.length : Int) = (l1.length : Int) then (flagstoneplain_SameNumbers.l0 k l0 l1 0) else (some false)) = some r := h
  clear h
  by_cases c3 : (l0.length : Int) = (l1.length : Int)
  · rw [if_pos c3] at H
    have c3b0 : ((l0.length : Int) == (l1.length : Int)) = true := beq_iff_eq.mpr c3
    have c3b1 : ((l0.length : Int) != (l1.length : Int)) = false := bne_eq_false_iff_eq.mpr c3
    have c3b2 : (l0.length == l1.length) = true := by first | simpa using c3 | (simp at c3 ⊢; omega)
    clear c3
    have H' := Aside0.mk H
    clear H
    go_enter Try.func27, Try.ntmps27
    go_wp2
    repeat (go_quiet (fail); try go_wp2)
    go_loopg [5] k (fun kq v5 w' => ∃ (x5_1 : Int), v5 = .int .i64 x5_1 ∧ Aside0 (flagstoneplain_SameNumbers.l0 kq l0 l1 x5_1 = some r) ∧ Aside0 (kq ≤ k) ∧ Drawn0 w w')
    case atStart => exact ⟨(0), (by first | rfl | (simp; done) | (simp [*]; done)), H', ⟨Nat.le_refl _⟩, by repeat (first | exact Drawn0.refl _ | apply Drawn0.step)⟩
    case round =>
      clear H'
      try clear c1
      try clear c2
      try clear p2
      try clear c3
      try clear c3b0
      try clear c3b1
      try clear c3b2
      obtain ⟨x5_1, rfl, HA, HK1, ⟨m1, rfl⟩⟩ := hrel
      cases gk with
      | zero => exact absurd HA.out (by simp [flagstoneplain_SameNumbers.l0])
      | succ k1 =>
        have H := HA.out
        clear HA
        simp only [flagstoneplain_SameNumbers.l0] at H
        by_cases c4 : x5_1 < (l0.length : Int)
        · rw [if_pos c4] at H
          have c4b0 : decide (x5_1 < (l0.length : Int)) = true := decide_eq_true c4
          clear c4
          by_cases c5 : 0 ≤ x5_1
          · rw [if_pos c5] at H
            have c5b0 : decide (0 ≤ x5_1) = true := decide_eq_true c5
            clear c5
            by_cases c6 : x5_1 < (l1.length : Int)
            · rw [if_pos c6] at H
              have c6b0 : decide (x5_1 < (l1.length : Int)) = true := decide_eq_true c6
              clear c6
              by_cases c7 : (rd l0 x5_1) = (rd l1 x5_1)
              · rw [if_pos c7] at H
                have c7b0 : ((rd l0 x5_1) == (rd l1 x5_1)) = true := beq_iff_eq.mpr c7
                have c7b1 : ((rd l0 x5_1) != (rd l1 x5_1)) = false := bne_eq_false_iff_eq.mpr c7
                clear c7
                have H' := Aside0.mk H
                clear H
                have p220 : 0 ≤ (x5_1 : Int) := of_decide_eq_true (by first | (with_reducible assumption) | assumption)
                have q220 : x5_1 < (l0.length : Int) := of_decide_eq_true (by first | (with_reducible assumption) | assumption)
                obtain ⟨ad220, e220, hx220_0⟩ := Kd.at_int HR0.out x5_1 p220 q220
                cases e220
                replace p220 := eq_true p220
                replace q220 := eq_true q220
                have p221 : 0 ≤ (x5_1 : Int) := of_decide_eq_true (by first | (with_reducible assumption) | assumption)
                have q221 : x5_1 < (l1.length : Int) := of_decide_eq_true (by first | (with_reducible assumption) | assumption)
                obtain ⟨ad221, e221, hx221_0⟩ := Kd.at_int HR1.out x5_1 p221 q221
                cases e221
                replace p221 := eq_true p221
                replace q221 := eq_true q221
                go_wp2
                repeat (go_quiet (fail); try go_wp2)
                go_roundg k1
                case measure => have := HK1.out; omega
                case rel => exact ⟨(wrap64 (x5_1 + 1)), (by first | rfl | (simp; done) | (simp [*]; done)), H', ⟨by have := HK1.out; omega⟩, by repeat (first | exact Drawn0.refl _ | apply Drawn0.step)⟩
              · rw [if_neg c7] at H
                have c7b0 : ((rd l0 x5_1) == (rd l1 x5_1)) = false := beq_eq_false_iff_ne.mpr c7
                have c7b1 : ((rd l0 x5_1) != (rd l1 x5_1)) = true := bne_iff_ne.mpr c7
                obtain rfl := Option.some.inj H
                have p220 : 0 ≤ (x5_1 : Int) := of_decide_eq_true (by first | (with_reducible assumption) | assumption)
                have q220 : x5_1 < (l0.length : Int) := of_decide_eq_true (by first | (with_reducible assumption) | assumption)
                obtain ⟨ad220, e220, hx220_0⟩ := Kd.at_int HR0.out x5_1 p220 q220
                cases e220
                replace p220 := eq_true p220
                replace q220 := eq_true q220
                have p221 : 0 ≤ (x5_1 : Int) := of_decide_eq_true (by first | (with_reducible assumption) | assumption)
                have q221 : x5_1 < (l1.length : Int) := of_decide_eq_true (by first | (with_reducible assumption) | assumption)
                obtain ⟨ad221, e221, hx221_0⟩ := Kd.at_int HR1.out x5_1 p221 q221
                cases e221
                replace p221 := eq_true p221
                replace q221 := eq_true q221
                go_wp2
                repeat (go_quiet (fail); try go_wp2)
                go_ret
                exact ⟨by first | rfl | (simp; done) | (simp [*]; done), by repeat (first | exact Drawn0.refl _ | apply Drawn0.step)⟩
            · rw [if_neg c6] at H
              exact absurd H (by simp)
          · rw [if_neg c5] at H
            exact absurd H (by simp)
        · rw [if_neg c4] at H
          have c4b0 : decide (x5_1 < (l0.length : Int)) = false := decide_eq_false c4
          clear c4
          obtain rfl := Option.some.inj H
          go_wp2
          repeat (go_quiet (fail); try go_wp2)
          go_ret
          exact ⟨by first | rfl | (simp; done) | (simp [*]; done), by repeat (first | exact Drawn0.refl _ | apply Drawn0.step)⟩
  · rw [if_neg c3] at H
    have c3b0 : ((l0.length : Int) == (l1.length : Int)) = false := beq_eq_false_iff_ne.mpr c3
    have c3b1 : ((l0.length : Int) != (l1.length : Int)) = true := bne_iff_ne.mpr c3
    have c3b2 : (l0.length == l1.length) = false := by first | simpa using c3 | (simp at c3 ⊢; omega)
    obtain rfl := Option.some.inj H
    go_enter Try.func27, Try.ntmps27
    go_wp2
    repeat (go_quiet (fail); try go_wp2)
    go_ret
    exact ⟨by first | rfl | (simp; done) | (simp [*]; done), by repeat (first | exact Drawn0.refl _ | apply Drawn0.step)⟩

end Go.Proofs.Ythkjahoebkicbaa.Hy
