import Derived.IntWalk
import Derived.Outline
import Derived.Test.YtijmldjghhndoaaCx
import Derived.Test.YtijmldjghhndoaaHelp
import Derived.Test.YtijmldjghhndoaaNest
import Derived.Test.YtijmldjghhndoaaPl
import Derived.Test.YtijmldjghhndoaaPlan
namespace Go.Proofs.Ytijmldjghhndoaa.Hy
open Go.RowKit Go.Proofs.YtijmldjghhndoaaW.PrintWords Go.Proofs.YtijmldjghhndoaaW.PrintLast Go.Proofs.YtijmldjghhndoaaW.PrintMore
attribute [local go_sem] max2_int min2_int max_two min_two max_three min_three max_four min_four   -- for this text's walks alone
set_option linter.unusedVariables false
set_option linter.unusedSimpArgs false
set_option maxRecDepth 100000 in
theorem flagstonelaw03_HostBarrier.bad (A0_0 : Option Addr) (c0_0 : Nat) (l0_0 : List (List Int)) (A0_1 : Option Addr) (c0_1 : Nat) (l0_1 : List (S46)) (a0_2 : Int) (A1 : Option Addr) (c1 : Nat) (l1 : List Bool) (w : World) (hr0_0 : Kd.C (Kd.slice 5 (Kd.int .u8)) w A0_0 l0_0.length l0_0) (hc0_0 : l0_0.length ≤ c0_0) (hr0_1 : Kd.C k46 w A0_1 l0_1.length l0_1) (hc0_1 : l0_1.length ≤ c0_1) (hs : l0_0.length < 5864062014805) (hl : l0_1.length < 3518437208883) (hq : ∀ x ∈ l0_0, x.length < 140737488355328) (hr : ∀ a ∈ l0_1, a.f2.length < 140737488355328) (hw : l0_1.length ≤ 140737488355328) (hc : host_Check.chk l0_0 (l0_1.map cv) a0_2 ≠ 0) :
    Calls Try.prog 4 #[.agg #[.slice A0_0 l0_0.length c0_0, .slice A0_1 l0_1.length c0_1, .int .i64 a0_2], .slice A1 l1.length c1] w fun e w' => e = .returned (.bool true) ∧ Below w.heap.size w w' := by
  obtain ⟨kO, eO⟩ := flagstonelaw03_Of.same l0_0 l0_1 a0_2 hs hl hq hr
  have HR0 := Aside0.mk hr0_0
  have HR1 := Aside0.mk hr0_1
  clear hr0_0 hr0_1
  have eF : host_Flush.f l0_0 (l0_1.map cv) a0_2 = some ([], [], 0, 9) := by
    exact host_Flush.bad_f (by rw [List.length_map]; exact hw) hc
  generalize l0_1.map cv = l9 at eO eF
  have EO := Aside0.mk eO
  have EF := Aside0.mk eF
  clear eO eF hs hl hq hr hw hc
  go_enter Try.func4, Try.ntmps4
  go_wp2_with (first | (go_at_call 11; have hq := hb_new w #[.slice A0_0 l0_0.length c0_0, .slice A0_1 l0_1.length c0_1, .int .i64 a0_2] 25; have ha := below_alloc (Below.refl w.heap.size w) (.cells #[.slice A0_0 l0_0.length c0_0, .slice A0_1 l0_1.length c0_1, .int .i64 a0_2] 25); generalize w.alloc (.cells #[.slice A0_0 l0_0.length c0_0, .slice A0_1 l0_1.length c0_1, .int .i64 a0_2] 25) = W1a at hq ha ⊢; have HA1a := Aside0.mk ha; have HQ_s := Aside0.mk hq; clear hq ha; refine (flagstonelaw03_alive.calls W1a).mono ?_; rintro e w1 ⟨rfl, hb⟩; have HB1 := Aside0.mk hb; clear hb; have q0 := blk_below HQ_s.out HB1.out; have x00 := hb_cell q0 0; have x01 := hb_cell q0 1; have x02 := hb_cell q0 2; simp only [List.getElem?_toArray, List.getElem?_cons_zero, List.getElem?_cons_succ] at x00 x01 x02; clear q0) | (go_at_call 13; clear x00 x01 x02; refine (flagstonelaw03_Of.calls kO A0_0 c0_0 l0_0 A0_1 c0_1 l0_1 a0_2 l0_0 l9 a0_2 w1 (Kd.C_below HR0.out (below_step HA1a.out HB1.out)) hc0_0 (Kd.C_below HR1.out (below_step HA1a.out HB1.out)) hc0_1 EO.out).mono ?_; rintro e w2 ⟨v0, v1, rfl, z0, z1, hb⟩; obtain ⟨A2, k2, rfl⟩ := Kd.S_slice z0; obtain ⟨B2, j2, rfl⟩ := Kd.S_slice z1; have S2 := Aside0.mk (Kd.S_reads' z0); have T2 := Aside0.mk (Kd.S_reads' z1); clear z0 z1; have HB2 := Aside0.mk hb; clear hb) | (go_at_call 15; refine (host_Flush.calls A2 k2 l0_0 B2 j2 l9 a0_2 [] [] 0 9 w2 S2.out.2.2 S2.out.2.1 T2.out.2.2 T2.out.2.1 EF.out).mono ?_; rintro e w3 ⟨v0, v1, rfl, z0, z1, hb⟩; obtain ⟨A3, k3, rfl⟩ := Kd.S_slice z0; obtain ⟨B3, j3, rfl⟩ := Kd.S_slice z1; have S3 := Aside0.mk (Kd.S_reads' z0); have T3 := Aside0.mk (Kd.S_reads' z1); clear z0 z1; have HB3 := Aside0.mk hb; clear hb) | (go_at_call 14; refine (flagstonelaw03_num.same _ _).mono ?_; rintro e w4 ⟨rfl, hw⟩; subst hw))
  exact bodyPost_ret (v := .bool true) (by simp [results, Try.results4, go_sem]) rfl ⟨rfl, below_alloc (below_step (below_step (below_step HA1a.out HB1.out) HB2.out) HB3.out) _⟩
set_option maxRecDepth 100000 in
theorem flagstonelaw03_HostBarrier.good (A0_0 : Option Addr) (c0_0 : Nat) (l0_0 : List (List Int)) (A0_1 : Option Addr) (c0_1 : Nat) (l0_1 : List (S46)) (a0_2 : Int) (A1 : Option Addr) (c1 : Nat) (l1 : List Bool) (w : World) (hr0_0 : Kd.C (Kd.slice 5 (Kd.int .u8)) w A0_0 l0_0.length l0_0) (hc0_0 : l0_0.length ≤ c0_0) (hr0_1 : Kd.C k46 w A0_1 l0_1.length l0_1) (hc0_1 : l0_1.length ≤ c0_1) (hr1 : Kd.C Kd.bool w A1 l1.length l1) (hc1 : l1.length ≤ c1) (hs : l0_0.length < 5864062014805) (hl : l0_1.length < 3518437208883) (hq : ∀ x ∈ l0_0, x.length < 140737488355328) (hr : ∀ a ∈ l0_1, a.f2.length < 140737488355328) (hc : host_Check.chk l0_0 (l0_1.map cv) a0_2 = 0) :
    Calls Try.prog 4 #[.agg #[.slice A0_0 l0_0.length c0_0, .slice A0_1 l0_1.length c0_1, .int .i64 a0_2], .slice A1 l1.length c1] w fun e w' => e = .returned (.bool true) ∧ Below w.heap.size w w' := by
  obtain ⟨kO, eO⟩ := flagstonelaw03_Of.same l0_0 l0_1 a0_2 hs hl hq hr
  have HR0 := Aside0.mk hr0_0
  have HR1 := Aside0.mk hr0_1
  clear hr0_0 hr0_1
  have eF := host_Flush.good hc
  have hrun : host_Check.chk (host_Crash.full l0_0 (l0_1.map cv)) [] a0_2 = 0 := host_Crash.run_chk hc _
  have hv := host_Crash.valid hrun
  have eC : host_Crash.f (host_Crash.full l0_0 (l0_1.map cv)) [] a0_2 l1 = some (host_Crash.full l0_0 (l0_1.map cv), [], a0_2, 0) := host_Crash.good_f hrun l1
  have eS := flagstoneplain_SameList.same (host_Crash.full l0_0 (l0_1.map cv)) (by omega)
  generalize host_Crash.full l0_0 (l0_1.map cv) = s2 at eF eC eS
  obtain ⟨t2, ht2⟩ : ∃ t : List S55, t = [] := ⟨[], rfl⟩
  rw [← ht2] at eF eC
  generalize l0_1.map cv = l9 at eO eF
  have EO := Aside0.mk eO
  have EF := Aside0.mk eF
  have EC := Aside0.mk eC
  have ES := Aside0.mk eS
  have HK := Aside0.mk hr1
  have HT2 := Aside0.mk ht2
  clear eO eF eC eS hs hl hq hr hc hrun hv ht2 hr1
  go_enter Try.func4, Try.ntmps4
  go_wp2_with (first | (go_at_call 11; have hq := hb_new w #[.slice A0_0 l0_0.length c0_0, .slice A0_1 l0_1.length c0_1, .int .i64 a0_2] 25; have ha := below_alloc (Below.refl w.heap.size w) (.cells #[.slice A0_0 l0_0.length c0_0, .slice A0_1 l0_1.length c0_1, .int .i64 a0_2] 25); generalize w.alloc (.cells #[.slice A0_0 l0_0.length c0_0, .slice A0_1 l0_1.length c0_1, .int .i64 a0_2] 25) = W1a at hq ha ⊢; have HA1a := Aside0.mk ha; have HQ_s := Aside0.mk hq; clear hq ha; refine (flagstonelaw03_alive.calls W1a).mono ?_; rintro e w1 ⟨rfl, hb⟩; have HB1 := Aside0.mk hb; clear hb; have q0 := blk_below HQ_s.out HB1.out; have x00 := hb_cell q0 0; have x01 := hb_cell q0 1; have x02 := hb_cell q0 2; simp only [List.getElem?_toArray, List.getElem?_cons_zero, List.getElem?_cons_succ] at x00 x01 x02; clear q0) | (go_at_call 13; clear x00 x01 x02; refine (flagstonelaw03_Of.calls kO A0_0 c0_0 l0_0 A0_1 c0_1 l0_1 a0_2 l0_0 l9 a0_2 w1 (Kd.C_below HR0.out (below_step HA1a.out HB1.out)) hc0_0 (Kd.C_below HR1.out (below_step HA1a.out HB1.out)) hc0_1 EO.out).mono ?_; rintro e w2 ⟨v0, v1, rfl, z0, z1, hb⟩; obtain ⟨A2, k2, rfl⟩ := Kd.S_slice z0; obtain ⟨B2, j2, rfl⟩ := Kd.S_slice z1; have S2 := Aside0.mk (Kd.S_reads' z0); have T2 := Aside0.mk (Kd.S_reads' z1); clear z0 z1; have HB2 := Aside0.mk hb; clear hb) | (go_at_call 15; refine (host_Flush.calls A2 k2 l0_0 B2 j2 l9 a0_2 s2 t2 a0_2 0 w2 S2.out.2.2 S2.out.2.1 T2.out.2.2 T2.out.2.1 EF.out).mono ?_; rintro e w3 ⟨v0, v1, rfl, z0, z1, hb⟩; obtain ⟨A3, k3, rfl⟩ := Kd.S_slice z0; obtain ⟨B3, j3, rfl⟩ := Kd.S_slice z1; have S3 := Aside0.mk (Kd.S_reads' z0); have T3 := Aside0.mk (Kd.S_reads' z1); clear z0 z1; have HB3 := Aside0.mk hb; clear hb) | (go_at_call 14; refine (flagstonelaw03_num.same _ _).mono ?_; rintro e w4 ⟨rfl, hw⟩; subst hw) | (go_at_call 18; have hq := hb_new w3 #[.slice A3 s2.length k3, .slice B3 t2.length j3, .int .i64 a0_2] 30; have ha := below_alloc (Below.refl w3.heap.size w3) (.cells #[.slice A3 s2.length k3, .slice B3 t2.length j3, .int .i64 a0_2] 30); generalize w3.alloc (.cells #[.slice A3 s2.length k3, .slice B3 t2.length j3, .int .i64 a0_2] 30) = W4a at hq ha ⊢; have HA4a := Aside0.mk ha; have HQ_a := Aside0.mk hq; clear hq ha; refine (host_Crash.calls A3 k3 s2 B3 j3 t2 a0_2 A1 c1 l1 s2 t2 a0_2 0 W4a (Kd.C_below S3.out.2.2 HA4a.out) S3.out.2.1 (Kd.C_below T3.out.2.2 HA4a.out) T3.out.2.1 (Kd.C_below HK.out (below_step (below_step (below_step (below_step HA1a.out HB1.out) HB2.out) HB3.out) HA4a.out)) hc1 EC.out).mono ?_; rintro e w4 ⟨v0, v1, rfl, z0, z1, hb⟩; obtain ⟨A4, k4, rfl⟩ := Kd.S_slice z0; obtain ⟨B4, j4, rfl⟩ := Kd.S_slice z1; have S4 := Aside0.mk (Kd.S_reads' z0); have T4 := Aside0.mk (Kd.S_reads' z1); clear z0 z1; have HB4 := Aside0.mk hb; clear hb; have q0 := blk_below (blk_below HQ_a.out HB4.out) (below_alloc (Below.refl w4.heap.size w4) (.cells #[.slice A4 s2.length k4, .slice B4 t2.length j4, .int .i64 a0_2] 30)); have y00 := hb_cell q0 0; have y01 := hb_cell q0 1; have y02 := hb_cell q0 2; simp only [List.getElem?_toArray, List.getElem?_cons_zero, List.getElem?_cons_succ] at y00 y01 y02; clear q0) | (go_at_call 19; clear y00 y01 y02; have hq := hb_new w4 #[.slice A4 s2.length k4, .slice B4 t2.length j4, .int .i64 a0_2] 30; have ha := below_alloc (Below.refl w4.heap.size w4) (.cells #[.slice A4 s2.length k4, .slice B4 t2.length j4, .int .i64 a0_2] 30); generalize w4.alloc (.cells #[.slice A4 s2.length k4, .slice B4 t2.length j4, .int .i64 a0_2] 30) = W5a at hq ha ⊢; have HA5a := Aside0.mk ha; have HQ_b := Aside0.mk hq; clear hq ha; refine (flagstoneplain_SameList.calls _ A3 k3 s2 A4 k4 s2 true W5a (Kd.C_below S3.out.2.2 (below_step (below_step HA4a.out HB4.out) HA5a.out)) S3.out.2.1 (Kd.C_below S4.out.2.2 HA5a.out) S4.out.2.1 ES.out).mono ?_; rintro e w5 ⟨rfl, hd⟩; have hb := hd.below; clear hd; have HB5 := Aside0.mk hb; clear hb; have q0 := blk_below HQ_a.out (below_step (below_step HB4.out HA5a.out) HB5.out); have x00 := hb_cell q0 0; have x01 := hb_cell q0 1; have x02 := hb_cell q0 2; simp only [List.getElem?_toArray, List.getElem?_cons_zero, List.getElem?_cons_succ] at x00 x01 x02; clear q0; have q1 := blk_below HQ_b.out HB5.out; have x10 := hb_cell q1 0; have x11 := hb_cell q1 1; have x12 := hb_cell q1 2; simp only [List.getElem?_toArray, List.getElem?_cons_zero, List.getElem?_cons_succ] at x10 x11 x12; clear q1; have ht2 := HT2.out))
  exact bodyPost_ret (v := .bool true) (by simp [results, Try.results4, go_sem]) rfl ⟨rfl, (below_step (below_step (below_step (below_step (below_step (below_step (below_step HA1a.out HB1.out) HB2.out) HB3.out) HA4a.out) HB4.out) HA5a.out) HB5.out)⟩
theorem flagstonelaw03_HostBarrier.walk (A0_0 : Option Addr) (c0_0 : Nat) (l0_0 : List (List Int)) (A0_1 : Option Addr) (c0_1 : Nat) (l0_1 : List (S46)) (a0_2 : Int) (A1 : Option Addr) (c1 : Nat) (l1 : List Bool) (w : World) (hr0_0 : Kd.C (Kd.slice 5 (Kd.int .u8)) w A0_0 l0_0.length l0_0) (hc0_0 : l0_0.length ≤ c0_0) (hr0_1 : Kd.C k46 w A0_1 l0_1.length l0_1) (hc0_1 : l0_1.length ≤ c0_1) (hr1 : Kd.C Kd.bool w A1 l1.length l1) (hc1 : l1.length ≤ c1) (hs : l0_0.length < 5864062014805) (hl : l0_1.length < 3518437208883) (hq : ∀ x ∈ l0_0, x.length < 140737488355328) (hr : ∀ a ∈ l0_1, a.f2.length < 140737488355328) :
    Calls Try.prog 4 #[.agg #[.slice A0_0 l0_0.length c0_0, .slice A0_1 l0_1.length c0_1, .int .i64 a0_2], .slice A1 l1.length c1] w fun e w' => e = .returned (.bool true) ∧ Below w.heap.size w w' := by
  by_cases hc : host_Check.chk l0_0 (l0_1.map cv) a0_2 = 0
  · exact flagstonelaw03_HostBarrier.good A0_0 c0_0 l0_0 A0_1 c0_1 l0_1 a0_2 A1 c1 l1 w hr0_0 hc0_0 hr0_1 hc0_1 hr1 hc1 hs hl hq hr hc
  · exact flagstonelaw03_HostBarrier.bad A0_0 c0_0 l0_0 A0_1 c0_1 l0_1 a0_2 A1 c1 l1 w hr0_0 hc0_0 hr0_1 hc0_1 hs hl hq hr (by omega) hc

end Go.Proofs.Ytijmldjghhndoaa.Hy
