import Derived.IntWalk
import Derived.Outline
import Derived.Test.YtijmldjghhndoaaCx
import Derived.Test.YtijmldjghhndoaaHelp
import Derived.Test.YtijmldjghhndoaaNest
import Derived.Test.YtijmldjghhndoaaPl
import Derived.Test.YtijmldjghhndoaaPlan
namespace Go.Proofs.Ytijmldjghhndoaa.Hy
open Go.RowKit Go.Proofs.YtijmldjghhndoaaW.PrintWords Go.Proofs.YtijmldjghhndoaaW.PrintLast Go.Proofs.YtijmldjghhndoaaW.PrintMore
attribute [local go_sem] max2_int min2_int max_two min_two max_three min_three max_four min_four   -- for this text's walks alone
set_option linter.unusedVariables false
set_option linter.unusedSimpArgs false
set_option maxRecDepth 100000 in
set_option maxHeartbeats 2000000 in
theorem flagstonelaw03_HostAll.good (A0_0 : Option Addr) (c0_0 : Nat) (l0_0 : List (List Int)) (A0_1 : Option Addr) (c0_1 : Nat) (l0_1 : List (S46)) (a0_2 : Int) (kO : Nat) (l9 : List S55) (s2 : List (List Int)) (t2 : List S55) (cp er : Int) (w : World) (hr0_0 : Kd.C (Kd.slice 5 (Kd.int .u8)) w A0_0 l0_0.length l0_0) (hc0_0 : l0_0.length ≤ c0_0) (hr0_1 : Kd.C k46 w A0_1 l0_1.length l0_1) (hc0_1 : l0_1.length ≤ c0_1) (hl : l0_1.length < 3518437208883) (eO : flagstonelaw03_Of.f kO l0_0 l0_1 a0_2 = some (l0_0, l9, a0_2)) (eC : host_Crash.f l0_0 l9 a0_2 (List.replicate l0_1.length true) = some (s2, t2, cp, er)) (eF : host_Flush.f l0_0 l9 a0_2 = some (s2, t2, cp, er)) (hs2 : s2.length ≤ 5864062014805) :
    Calls Try.prog 6 #[.agg #[.slice A0_0 l0_0.length c0_0, .slice A0_1 l0_1.length c0_1, .int .i64 a0_2]] w fun e w' => e = .returned (.bool true) ∧ Below w.heap.size w w' := by
  have HR0 := Aside0.mk hr0_0
  have HR1 := Aside0.mk hr0_1
  have EO := Aside0.mk eO
  have EC := Aside0.mk eC
  have EF := Aside0.mk eF
  have ES := Aside0.mk (flagstoneplain_SameList.same s2 hs2)
  clear hr0_0 hr0_1 eO eC eF hs2
  go_enter Try.func6, Try.ntmps6
  go_wp2_with (first | (go_at_call 11; have hq := hb_new w #[.slice A0_0 l0_0.length c0_0, .slice A0_1 l0_1.length c0_1, .int .i64 a0_2] 25; have ha := below_alloc (Below.refl w.heap.size w) (.cells #[.slice A0_0 l0_0.length c0_0, .slice A0_1 l0_1.length c0_1, .int .i64 a0_2] 25); generalize w.alloc (.cells #[.slice A0_0 l0_0.length c0_0, .slice A0_1 l0_1.length c0_1, .int .i64 a0_2] 25) = W1a at hq ha ⊢; have HA1a := Aside0.mk ha; have HQ_s := Aside0.mk hq; clear hq ha; refine (flagstonelaw03_alive.calls W1a).mono ?_; rintro e w1 ⟨rfl, hb⟩; have HB1 := Aside0.mk hb; clear hb; have q0 := blk_below HQ_s.out HB1.out; have x00 := hb_cell q0 0; have x01 := hb_cell q0 1; have x02 := hb_cell q0 2; simp only [List.getElem?_toArray, List.getElem?_cons_zero, List.getElem?_cons_succ] at x00 x01 x02; clear q0))
  have HW1 := Aside0.mk (below_step HA1a.out HB1.out)
  have HS1 := Aside0.mk (blk_below HQ_s.out HB1.out)
  clear x00 x01 x02
  go_loopw [3, 4] (fun v u wr => ∃ (i : Nat) (B : Option Addr) (k : Nat), i ≤ l0_1.length ∧ v = .slice B i k ∧ u = .int .i64 i ∧ Aside0 (wr.ownsRow w.heap.size 4 1 (.slice B i k) i (List.replicate i (.bool true)) ∧ Below w.heap.size w wr ∧ wr.heap[w.heap.size]? = some (.cells #[.slice A0_0 l0_0.length c0_0, .slice A0_1 l0_1.length c0_1, .int .i64 a0_2] 25 (0, 0)))) (fun _ u _ => l0_1.length - (intOf u).toNat)
  case atStart => exact ⟨0, none, 0, Nat.zero_le _, rfl, rfl, ⟨⟨rfl, .inl ⟨rfl, rfl⟩⟩, HW1.out, HS1.out⟩⟩
  case round =>
    obtain ⟨i, B, k, hi, rfl, rfl, HJ⟩ := hrel
    clear HB1 HA1a HQ_s HW1 HS1
    have HROW := Aside0.mk HJ.out.1
    have HWR := Aside0.mk HJ.out.2.1
    have HQ_s := Aside0.mk HJ.out.2.2
    have x00 := hb_cell HQ_s.out 0
    have x01 := hb_cell HQ_s.out 1
    have x02 := hb_cell HQ_s.out 2
    simp only [List.getElem?_toArray, List.getElem?_cons_zero, List.getElem?_cons_succ] at x00 x01 x02
    by_cases hlt : i < l0_1.length
    · have hlt2 : decide (i < l0_1.length) = true := decide_eq_true hlt
      go_wp2_with (at_builtin; go_loud (refine print_append_cells (w0 := w) (W := wr) w.heap.size rfl (.tmp 18) (.tmp 19) 41 4 (.bool false) 1 1 rfl Try.underlying41 info4 rfl (by omega) (by omega) (.slice B i k) i (List.replicate i (.bool true)) [.bool true] rfl (by simp [Act.eval]) rfl (by simp [Value.oneCell']) HROW.out HWR.out HWR.out.size (by omega) ?_); go_loud (intro v2 w5 hown5 hb5 hg5 hat5); go_loud (have hk5 := hg5.block _ (blk_lt HQ_s.out) (own_ne HROW.out HQ_s.out (by decide))); rw [HQ_s.out] at hk5; go_loud (obtain ⟨B5, k5, rfl⟩ := own_slice hown5); have HN := Aside0.mk (And.intro hown5 (And.intro hb5 hk5)); clear hown5 hb5 hg5 hat5 hk5 x00 x01 x02)
      go_roundw
      case rel =>
        refine ⟨i + 1, B5, k5, by omega, rfl, by go_num, ⟨?_, HN.out.2.1, HN.out.2.2⟩⟩
        rw [List.replicate_succ']
        exact HN.out.1
      case measure => simp [intOf]; omega
    · obtain rfl : i = l0_1.length := by omega
      have hlt2 : decide (l0_1.length < l0_1.length) = false := decide_eq_false (by omega)
      have HKL := Aside0.mk (show (List.replicate l0_1.length true).length = l0_1.length by simp)
      have hKC : Kd.R Kd.bool 4 wr w.heap.size (fun _ => True) (.slice B l0_1.length k) (List.replicate l0_1.length true) := Kd.R_of_own (enc := fun b : Bool => Value.bool b) (h1 := fun _ => rfl) (by
        rw [HKL.out]
        have := HROW.out
        rwa [show (List.replicate l0_1.length (Value.bool true)) = encs (fun b : Bool => Value.bool b) (List.replicate l0_1.length true) from by simp [encs]] at this) (fun _ _ => trivial)
      have HKC := Aside0.mk (Kd.R_reads' (n := (List.replicate l0_1.length true).length) (A := B) (c := k) (by rw [HKL.out]; exact hKC))
      clear hKC HROW
      go_wp2_with (first | (go_at_call 13; clear x00 x01 x02; refine (flagstonelaw03_Of.calls kO A0_0 c0_0 l0_0 A0_1 c0_1 l0_1 a0_2 l0_0 l9 a0_2 wr (Kd.C_below HR0.out HWR.out) hc0_0 (Kd.C_below HR1.out HWR.out) hc0_1 EO.out).mono ?_; rintro e w1 ⟨v0, v1, rfl, z0, z1, hb⟩; obtain ⟨A1, k1, rfl⟩ := Kd.S_slice z0; obtain ⟨B1, j1, rfl⟩ := Kd.S_slice z1; have S1 := Aside0.mk (Kd.S_reads' z0); have T1 := Aside0.mk (Kd.S_reads' z1); clear z0 z1; have HB1 := Aside0.mk hb; clear hb) | (go_at_call 18; rw [← HKL.out]; refine (host_Crash.calls A1 k1 l0_0 B1 j1 l9 a0_2 B k (List.replicate l0_1.length true) s2 t2 cp er w1 S1.out.2.2 S1.out.2.1 T1.out.2.2 T1.out.2.1 (Kd.C_below HKC.out.2.2 HB1.out) HKC.out.2.1 EC.out).mono ?_; rintro e w2 ⟨v0, v1, rfl, z0, z1, hb⟩; obtain ⟨A2, k2, rfl⟩ := Kd.S_slice z0; obtain ⟨B2, j2, rfl⟩ := Kd.S_slice z1; have S2 := Aside0.mk (Kd.S_reads' z0); have T2 := Aside0.mk (Kd.S_reads' z1); clear z0 z1; have HB2 := Aside0.mk hb; clear hb; have q0 := blk_below (blk_below HQ_s.out (below_step HB1.out HB2.out)) (below_alloc (Below.refl w2.heap.size w2) (.cells #[.slice A2 s2.length k2, .slice B2 t2.length j2, .int .i64 cp] 30)); have y00 := hb_cell q0 0; have y01 := hb_cell q0 1; have y02 := hb_cell q0 2; simp only [List.getElem?_toArray, List.getElem?_cons_zero, List.getElem?_cons_succ] at y00 y01 y02; clear q0) | (go_at_call 13; clear y00 y01 y02; have hq := hb_new w2 #[.slice A2 s2.length k2, .slice B2 t2.length j2, .int .i64 cp] 30; have ha := below_alloc (Below.refl w2.heap.size w2) (.cells #[.slice A2 s2.length k2, .slice B2 t2.length j2, .int .i64 cp] 30); generalize w2.alloc (.cells #[.slice A2 s2.length k2, .slice B2 t2.length j2, .int .i64 cp] 30) = W3a at hq ha ⊢; have HA3a := Aside0.mk ha; have HQ_a := Aside0.mk hq; clear hq ha; refine (flagstonelaw03_Of.calls kO A0_0 c0_0 l0_0 A0_1 c0_1 l0_1 a0_2 l0_0 l9 a0_2 W3a (Kd.C_below HR0.out (below_step (below_step (below_step HWR.out HB1.out) HB2.out) HA3a.out)) hc0_0 (Kd.C_below HR1.out (below_step (below_step (below_step HWR.out HB1.out) HB2.out) HA3a.out)) hc0_1 EO.out).mono ?_; rintro e w3 ⟨v0, v1, rfl, z0, z1, hb⟩; obtain ⟨A3, k3, rfl⟩ := Kd.S_slice z0; obtain ⟨B3, j3, rfl⟩ := Kd.S_slice z1; have S3 := Aside0.mk (Kd.S_reads' z0); have T3 := Aside0.mk (Kd.S_reads' z1); clear z0 z1; have HB3 := Aside0.mk hb; clear hb) | (go_at_call 15; refine (host_Flush.calls A3 k3 l0_0 B3 j3 l9 a0_2 s2 t2 cp er w3 S3.out.2.2 S3.out.2.1 T3.out.2.2 T3.out.2.1 EF.out).mono ?_; rintro e w4 ⟨v0, v1, rfl, z0, z1, hb⟩; obtain ⟨A4, k4, rfl⟩ := Kd.S_slice z0; obtain ⟨B4, j4, rfl⟩ := Kd.S_slice z1; have S4 := Aside0.mk (Kd.S_reads' z0); have T4 := Aside0.mk (Kd.S_reads' z1); clear z0 z1; have HB4 := Aside0.mk hb; clear hb; have q0 := blk_below (blk_below HQ_a.out (below_step HB3.out HB4.out)) (below_alloc (Below.refl w4.heap.size w4) (.cells #[.slice A4 s2.length k4, .slice B4 t2.length j4, .int .i64 cp] 30)); have y00 := hb_cell q0 0; have y01 := hb_cell q0 1; have y02 := hb_cell q0 2; simp only [List.getElem?_toArray, List.getElem?_cons_zero, List.getElem?_cons_succ] at y00 y01 y02; clear q0) | (go_at_call 19; clear y00 y01 y02; have hq := hb_new w4 #[.slice A4 s2.length k4, .slice B4 t2.length j4, .int .i64 cp] 30; have ha := below_alloc (Below.refl w4.heap.size w4) (.cells #[.slice A4 s2.length k4, .slice B4 t2.length j4, .int .i64 cp] 30); generalize w4.alloc (.cells #[.slice A4 s2.length k4, .slice B4 t2.length j4, .int .i64 cp] 30) = W5a at hq ha ⊢; have HA5a := Aside0.mk ha; have HQ_b := Aside0.mk hq; clear hq ha; refine (flagstoneplain_SameList.calls _ A2 k2 s2 A4 k4 s2 true W5a (Kd.C_below S2.out.2.2 (below_step (below_step (below_step HA3a.out HB3.out) HB4.out) HA5a.out)) S2.out.2.1 (Kd.C_below S4.out.2.2 HA5a.out) S4.out.2.1 ES.out).mono ?_; rintro e w5 ⟨rfl, hd⟩; have hb := hd.below; clear hd; have HB5 := Aside0.mk hb; clear hb; have q0 := blk_below HQ_a.out (below_step (below_step (below_step HB3.out HB4.out) HA5a.out) HB5.out); have x00 := hb_cell q0 0; have x01 := hb_cell q0 1; have x02 := hb_cell q0 2; simp only [List.getElem?_toArray, List.getElem?_cons_zero, List.getElem?_cons_succ] at x00 x01 x02; clear q0; have q1 := blk_below HQ_b.out HB5.out; have x10 := hb_cell q1 0; have x11 := hb_cell q1 1; have x12 := hb_cell q1 2; simp only [List.getElem?_toArray, List.getElem?_cons_zero, List.getElem?_cons_succ] at x10 x11 x12; clear q1))
      exact bodyPost_ret (v := .bool true) (by simp [results, Try.results6, go_sem]) rfl ⟨rfl, (below_step (below_step (below_step (below_step (below_step (below_step (below_step HWR.out HB1.out) HB2.out) HA3a.out) HB3.out) HB4.out) HA5a.out) HB5.out)⟩
theorem flagstonelaw03_HostAll.walk (A0_0 : Option Addr) (c0_0 : Nat) (l0_0 : List (List Int)) (A0_1 : Option Addr) (c0_1 : Nat) (l0_1 : List (S46)) (a0_2 : Int) (w : World) (hr0_0 : Kd.C (Kd.slice 5 (Kd.int .u8)) w A0_0 l0_0.length l0_0) (hc0_0 : l0_0.length ≤ c0_0) (hr0_1 : Kd.C k46 w A0_1 l0_1.length l0_1) (hc0_1 : l0_1.length ≤ c0_1) (hs : l0_0.length < 5864062014805) (hl : l0_1.length < 3518437208883) (hq : ∀ x ∈ l0_0, x.length < 140737488355328) (hr : ∀ a ∈ l0_1, a.f2.length < 140737488355328) :
    Calls Try.prog 6 #[.agg #[.slice A0_0 l0_0.length c0_0, .slice A0_1 l0_1.length c0_1, .int .i64 a0_2]] w fun e w' => e = .returned (.bool true) ∧ Below w.heap.size w w' := by
  obtain ⟨kO, eO⟩ := flagstonelaw03_Of.same l0_0 l0_1 a0_2 hs hl hq hr
  have hlen : (l0_1.map cv).length = l0_1.length := by simp
  by_cases hc : host_Check.chk l0_0 (l0_1.map cv) a0_2 = 0
  · have hrv := (host_Crash.run_valid hc (List.replicate l0_1.length true) _ (Nat.le_refl _)).1
    have hcap := (host_Crash.valid hc).2.1
    have eF := host_Flush.good hc
    have eC := host_Crash.good_f hc (List.replicate l0_1.length true)
    unfold host_Crash.full at eF
    rw [hlen] at eF eC hrv
    exact flagstonelaw03_HostAll.good A0_0 c0_0 l0_0 A0_1 c0_1 l0_1 a0_2 kO _ _ _ _ _ w hr0_0 hc0_0 hr0_1 hc0_1 hl eO eC eF (by omega)
  · exact flagstonelaw03_HostAll.good A0_0 c0_0 l0_0 A0_1 c0_1 l0_1 a0_2 kO _ _ _ _ _ w hr0_0 hc0_0 hr0_1 hc0_1 hl eO (host_Crash.bad_f hc _) (host_Flush.bad_f (by rw [hlen]; omega) hc) (by simp)

end Go.Proofs.Ytijmldjghhndoaa.Hy
