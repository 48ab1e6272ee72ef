-- Laid by a program of this session's (wip/hprint.py) over the kit's print, with hand-made texts beside it. Lean checks it.
import Derived.Test.YtkoljefjdnlciaaH0
import Derived.Test.YtkoljefjdnlciaaCrc
import Derived.Test.YtkoljefjdnlciaaHalf
import Derived.Test.YtkoljefjdnlciaaHelp
import Derived.Test.YtkoljefjdnlciaaPl
import Derived.WalkSpells
namespace Go.Proofs.Ytkoljefjdnlciaa.Hy
open Go.RowKit Go.Proofs.YtkoljefjdnlciaaW.PrintWords Go.Proofs.YtkoljefjdnlciaaW.PrintLast Go.Proofs.YtkoljefjdnlciaaW.PrintMore
attribute [local go_sem] max2_int min2_int max_two min_two max_three min_three max_four min_four   -- for this text's walks alone
set_option linter.unusedVariables false
set_option linter.unusedSimpArgs false

/-! ### flagstoneplain_CopyBytes: function 10 -/
def flagstoneplain_CopyBytes.f (l0 : List Int) : Option (List Int) := if ([] : List Int).length + l0.length < 140737488355328 then (some (([] : List Int) ++ l0)) else (none)
set_option maxHeartbeats 8000000 in
set_option maxRecDepth 100000 in
theorem flagstoneplain_CopyBytes.calls (A0 : Option Addr) (c0 : Nat) (l0 : List Int) (r : List Int) (w : World) (hr0 : Kd.C (Kd.int .u8) w A0 l0.length l0) (hc0 : l0.length ≤ c0) (h : flagstoneplain_CopyBytes.f l0 = some r) :
    Calls Try.prog 10 #[.slice A0 l0.length c0] w fun e w' => ∃ v0_ : Value, e = .returned (v0_) ∧ Kd.R (Kd.int .u8) 5 w' w.heap.size (fun _ => True) v0_ r ∧ Below w.heap.size w w' := by
  have HR0 := Aside0.mk hr0
  have HC0 := Aside0.mk hc0
  clear hr0 hc0
  have HB := Aside0.mk (Below.refl w.heap.size w)
  have H : (if ([] : List Int).length + l0.length < 140737488355328 then (some (([] : List Int) ++ l0)) else (none)) = some r := h
  clear h
  by_cases c2 : ([] : List Int).length + l0.length < 140737488355328
  · rw [if_pos c2] at H
    have LMc2 := Aside0.mk c2
    clear c2
    obtain ⟨y101, hy101⟩ : ∃ y_ : List Int, y_ = (([] : List Int) ++ l0) := ⟨_, rfl⟩
    replace H : (some y101) = some r := by first | (rw [hy101]; with_reducible exact H) | (have H2_ := (Option.bind_some _ _).symm.trans H; rw [hy101]; with_reducible exact H2_) | (have H2_ := (Option.bind_some _ _).symm.trans H; with_reducible exact H2_) | with_reducible exact H | (rw [hy101]; exact H) | exact H
    have Ny101 := Aside0.mk hy101
    clear hy101
    obtain rfl := Option.some.inj H
    go_enter Try.func10, Try.ntmps10
    go_wp2_with (first | ((with_reducible refine gate_builtin (b := .append) (xs := #[.tmp 4, .tmp 5]) rfl ?_); at_builtin; refine Kd.R_append_rows (Kd.int .u8) (w0 := w) w.heap.size rfl (.tmp 4) (.tmp 5) 22 5 (.int .u8 0) 1 rfl Try.underlying22 info5 rfl (by decide) (by omega) (.slice none 0 0) ([] : List Int) l0 _ _ _ (fun _ => True) (fun _ => False) rfl rfl ?aO ?aR (fun _ _ h => h) (fun _ h => h.elim) ?aF ?aB ?aS ?aL ?_; (case aR => repeat (first | exact HR0.out | (with_reducible refine Kd.C_alloc ?_ _) | (with_reducible refine Kd.C_drewN ?_ _) | (with_reducible refine Kd.C_drew ?_))); (case aB => exact (by repeat (first | (with_reducible first | exact HB.out | apply below_alloc | apply pw_below_drewN | apply below_drew1) | exact HB.out))); (case aF => exact (fun _ _ => trivial)); (case aO => exact ((Kd.R_nil _ _ _ _ (fun _ => True)))); (case aS => exact (below_size (by repeat (first | (with_reducible first | exact HB.out | apply below_alloc | apply pw_below_drewN | apply below_drew1) | exact HB.out)))); (case aL => have := LMc2.out; omega); intro v102 w3 ho hb hg hat; rw [← Ny101.out] at ho; have n0_ := Aside0.mk (hb); have n1_ := Aside0.mk (ho); clear HB; have HB := n0_; have HO103 := n1_; clear n0_ n1_; clear ho hb hg hat))
    go_ret
    exact ⟨_, by first | rfl | (simp [errW_none, errW_some] <;> rfl) | (simp [*, errW_none, errW_some] <;> rfl), by (with_reducible repeat (first | apply Kd.R_alloc | apply Kd.R_drewN | apply Kd.R_drew)); exact HO103.out, by repeat (first | (with_reducible first | exact HB.out | apply below_alloc | apply pw_below_drewN | apply below_drew1) | exact HB.out)⟩
  · rw [if_neg c2] at H
    exact absurd H (by simp)

/-! ### crc_More: function 15 -/
def crc_More.f (a0 : Int) (l1 : List Int) : Option (Int) :=
  if 0 ≤ a0 ∧ a0 < 4294967296 ∧ (∀ x ∈ l1, 0 ≤ x ∧ x < 256) then some (Pl.rI (Fs.more (Pl.iR a0) (Pl.toB l1))) else none
set_option maxRecDepth 100000 in
set_option maxHeartbeats 4000000 in
theorem crc_More.calls (a0 : Int) (A1 : Option Addr) (c1 : Nat) (l1 : List Int) (r : Int) (w : World) (hr1 : Kd.C (Kd.int .u8) w A1 l1.length l1) (hc1 : l1.length ≤ c1) (h : crc_More.f a0 l1 = some r) :
    Calls Try.prog 15 #[.int .u32 a0, .slice A1 l1.length c1] w fun e w' => e = .returned (.int .u32 r) ∧ Below w.heap.size w w' := by
  unfold crc_More.f at h
  split at h
  case isFalse => cases h
  rename_i hg
  obtain ⟨h0, h1, hby⟩ := hg
  have h := Option.some.inj h
  subst h
  obtain ⟨c0, rfl⟩ : ∃ c, a0 = Pl.rI c := ⟨Pl.iR a0, (Pl.rI_iR h0 h1).symm⟩
  rw [Pl.iR_rI]
  obtain ⟨z, hz⟩ : ∃ z, Pl.rI (Fs.more c0 (Pl.toB l1)) = z := ⟨_, rfl⟩
  rw [hz]
  have HZ := Aside0.mk hz
  clear hz
  have HBY := Aside0.mk (show Pl.BY l1 from hby)
  have HR := Aside0.mk hr1
  have hmax := Kd.C_max hr1
  have HB := Aside0.mk (Below.refl w.heap.size w)
  clear hby hr1
  have hnot := Pl.not_I c0
  obtain ⟨y, hy⟩ : ∃ y, Pl.rI c0 = y := ⟨_, rfl⟩
  have y0 : 0 ≤ y := by rw [← hy]; exact (Pl.rI_range _).1
  rw [hy] at hnot ⊢
  have HN := Aside0.mk hnot
  clear hnot hy h0 h1
  have hst : ∀ W : World, (storeCells ⟨W.heap.size, 0, none⟩ (crc_More.tabU 16).toList).run Try.prog (W.alloc (.cells #[.int .u32 0, .int .u32 0, .int .u32 0, .int .u32 0, .int .u32 0, .int .u32 0, .int .u32 0, .int .u32 0, .int .u32 0, .int .u32 0, .int .u32 0, .int .u32 0, .int .u32 0, .int .u32 0, .int .u32 0, .int .u32 0] 43)) = .ok () ((W.alloc (.cells #[.int .u32 0, .int .u32 0, .int .u32 0, .int .u32 0, .int .u32 0, .int .u32 0, .int .u32 0, .int .u32 0, .int .u32 0, .int .u32 0, .int .u32 0, .int .u32 0, .int .u32 0, .int .u32 0, .int .u32 0, .int .u32 0] 43)).setRow W.heap.size (crc_More.tabU 16)) := by
    intro W
    have := run_storeCells_from (P := Try.prog) W.heap.size 43 (crc_More.tabU 16).toList 0 _ _ (hb_new W #[.int .u32 0, .int .u32 0, .int .u32 0, .int .u32 0, .int .u32 0, .int .u32 0, .int .u32 0, .int .u32 0, .int .u32 0, .int .u32 0, .int .u32 0, .int .u32 0, .int .u32 0, .int .u32 0, .int .u32 0, .int .u32 0] 43) (by simp [crc_More.tab_size]) (fun v hv => by
      rw [crc_More.tab_lit] at hv
      simp at hv
      rcases hv with rfl | rfl | rfl | rfl | rfl | rfl | rfl | rfl | rfl | rfl | rfl | rfl | rfl | rfl | rfl | rfl <;> rfl)
    simpa using this
  go_enter Try.func15, Try.ntmps15
  go_wp2_with (go_at_call 27; refine (crc_More.half _).mono ?_; rintro e w1 ⟨rfl, hb⟩; have HB1 := Aside0.mk hb; clear hb)
  go_wp2
  have hG2 := setRow_heap (w1.alloc (.cells #[.int .u32 0, .int .u32 0, .int .u32 0, .int .u32 0, .int .u32 0, .int .u32 0, .int .u32 0, .int .u32 0, .int .u32 0, .int .u32 0, .int .u32 0, .int .u32 0, .int .u32 0, .int .u32 0, .int .u32 0, .int .u32 0] 43)) w1.heap.size _ (crc_More.tabU 16) _ _ (hb_new w1 #[.int .u32 0, .int .u32 0, .int .u32 0, .int .u32 0, .int .u32 0, .int .u32 0, .int .u32 0, .int .u32 0, .int .u32 0, .int .u32 0, .int .u32 0, .int .u32 0, .int .u32 0, .int .u32 0, .int .u32 0, .int .u32 0] 43)
  have hB2 : Below w.heap.size w ((w1.alloc (.cells #[.int .u32 0, .int .u32 0, .int .u32 0, .int .u32 0, .int .u32 0, .int .u32 0, .int .u32 0, .int .u32 0, .int .u32 0, .int .u32 0, .int .u32 0, .int .u32 0, .int .u32 0, .int .u32 0, .int .u32 0, .int .u32 0] 43)).setRow w1.heap.size (crc_More.tabU 16)) := below_row (below_alloc HB1.out _) HB1.out.size
  rw [HN.out]
  generalize (w1.alloc (.cells #[.int .u32 0, .int .u32 0, .int .u32 0, .int .u32 0, .int .u32 0, .int .u32 0, .int .u32 0, .int .u32 0, .int .u32 0, .int .u32 0, .int .u32 0, .int .u32 0, .int .u32 0, .int .u32 0, .int .u32 0, .int .u32 0] 43)).setRow w1.heap.size (crc_More.tabU 16) = w2 at hG2 hB2 ⊢
  have HG2 := Aside0.mk hG2
  have HB2 := Aside0.mk hB2
  obtain ⟨g, hg⟩ : ∃ g, w1.heap.size = g := ⟨_, rfl⟩
  rw [hg] at HG2 ⊢
  clear hst hG2 hB2 hg HN y0
  go_loop [0, 13] (fun c k => ∃ i : Nat, i ≤ l1.length ∧ k = .int .i64 i ∧ c = .int .u32 (Pl.rI (Fs.run (~~~ c0) (Pl.toB (l1.take i))))) (fun _ k => l1.length - (intOf k).toNat)
  case atStart => exact ⟨0, Nat.zero_le _, rfl, rfl⟩
  case round =>
    obtain ⟨i, hi, rfl, rfl⟩ := hrel
    by_cases hlt : i < l1.length
    · obtain ⟨ad, rfl, hx⟩ := C_int (Kd.C_below HR.out HB2.out) (by omega)
      have hc := hx i hlt
      have hb8 := Pl.BY_at HBY.out i
      have hend : Fs.run (~~~ c0) (Pl.toB (l1.take (i + 1))) = Fs.stN 4 (Fs.stN 4 (Fs.run (~~~ c0) (Pl.toB (l1.take i)) ^^^ Fs.reg (UInt8.ofNat (l1.getD i 0).toNat))) := by
        rw [Pl.take_snoc _ _ hlt, Pl.run_snoc, Pl.stN_8]
      have HE := Aside0.mk hend
      generalize l1.getD i 0 = b at hc hb8 HE
      have hreg := Pl.reg_I b hb8
      generalize Fs.run (~~~ c0) (Pl.toB (l1.take i)) = a at HE ⊢
      generalize Fs.reg (UInt8.ofNat b.toNat) = rb at HE hreg
      obtain ⟨b0, b1⟩ := hb8
      clear hend hx
      have q1 := Pl.bits_xor a rb
      have q2 := Pl.and15_I (a ^^^ rb)
      have q3 := Pl.half_walk (a ^^^ rb)
      have q4 := Pl.and15_I (Fs.stN 4 (a ^^^ rb))
      have q5 := Pl.half_walk (Fs.stN 4 (a ^^^ rb))
      have n1 := (Pl.rI_range (a ^^^ rb)).1
      have n2 := (Pl.rI_range (Fs.stN 4 (a ^^^ rb))).1
      have m1 : (a ^^^ rb).toNat % 16 < 16 := by omega
      have m2 : (Fs.stN 4 (a ^^^ rb)).toNat % 16 < 16 := by omega
      have k1 := (hb_cell HG2.out ((a ^^^ rb).toNat % 16)).trans (crc_More.tab_at 16 _ m1)
      have k2 := (hb_cell HG2.out ((Fs.stN 4 (a ^^^ rb)).toNat % 16)).trans (crc_More.tab_at 16 _ m2)
      rw [if_pos m1] at k1
      rw [if_pos m2] at k2
      rw [hreg] at q1
      rw [← HE.out] at q5
      clear HE hreg
      obtain ⟨y3, hy3⟩ : ∃ y, Pl.rI (Fs.run (~~~ c0) (Pl.toB (l1.take (i + 1)))) = y := ⟨_, rfl⟩
      rw [hy3] at q5
      have HY3 := Aside0.mk hy3
      clear hy3
      generalize Pl.tabI ((a ^^^ rb).toNat % 16) = t1 at q3 k1
      generalize Pl.tabI ((Fs.stN 4 (a ^^^ rb)).toNat % 16) = t2 at q5 k2
      generalize (a ^^^ rb).toNat % 16 = j1 at q2 m1 k1
      generalize (Fs.stN 4 (a ^^^ rb)).toNat % 16 = j2 at q4 m2 k2
      generalize Pl.rI (Fs.stN 4 (a ^^^ rb)) = y2 at q3 q4 q5 n2
      generalize Pl.rI (a ^^^ rb) = y1 at q1 q2 q3 n1
      generalize Pl.rI a = y0 at q1 ⊢
      go_wp2
      exact ⟨⟨i + 1, by omega, by go_num, by rw [HY3.out]⟩, by simp [intOf]; omega⟩
    · obtain rfl : i = l1.length := by omega
      rw [List.take_length]
      have hnot := Pl.not_I (Fs.run (~~~ c0) (Pl.toB l1))
      obtain ⟨y, hy⟩ : ∃ y, Pl.rI (Fs.run (~~~ c0) (Pl.toB l1)) = y := ⟨_, rfl⟩
      have hfin : Pl.rI (~~~ Fs.run (~~~ c0) (Pl.toB l1)) = z := HZ.out
      have y0 : 0 ≤ y := by rw [← hy]; exact (Pl.rI_range _).1
      rw [hy, hfin] at hnot
      rw [hy]
      clear hfin hy
      go_wp2
      go_ret
      exact ⟨rfl, HB2.out⟩

/-! ### crc_Sum: function 13 -/
def crc_Sum.f (l0 : List Int) : Option (Int) := (crc_More.f 0 l0).bind fun t104 => (some t104)
set_option maxHeartbeats 8000000 in
set_option maxRecDepth 100000 in
theorem crc_Sum.calls (A0 : Option Addr) (c0 : Nat) (l0 : List Int) (r : Int) (w : World) (hr0 : Kd.C (Kd.int .u8) w A0 l0.length l0) (hc0 : l0.length ≤ c0) (h : crc_Sum.f l0 = some r) :
    Calls Try.prog 13 #[.slice A0 l0.length c0] w fun e w' => e = .returned (.int .u32 r) ∧ Below w.heap.size w w' := by
  have HR0 := Aside0.mk hr0
  have HC0 := Aside0.mk hc0
  clear hr0 hc0
  have HB := Aside0.mk (Below.refl w.heap.size w)
  have H : ((crc_More.f 0 l0).bind fun t104 => (some t104)) = some r := h
  clear h
  replace H := Option.bind_eq_some_iff.mp H
  obtain ⟨t104, A20, H⟩ := H
  replace H : (some t104) = some r := H
  have A2 := Aside0.mk A20
  clear A20
  obtain rfl := Option.some.inj H
  go_enter Try.func13, Try.ntmps13
  go_wp2_with (first | ((with_reducible refine gate_callee (f := 15) rfl ?_); refine goesL_ (some 4) rfl rfl Try.func15 (by kernel_rfl) rfl #[.int .u32 0, .slice A0 l0.length c0] rfl (by (try simp only [List.map_toArray, List.map_cons, List.map_nil]); first | done | rfl | (simp only [List.length_drop, List.length_take]; rfl)) ?_; (with_reducible refine (crc_More.calls 0 _ _ l0 t104 _ ?side1 ?side2 A2.out).mono ?_); (case side1 => repeat (first | exact HR0.out | (with_reducible refine Kd.C_alloc ?_ _) | (with_reducible refine Kd.C_drewN ?_ _) | (with_reducible refine Kd.C_drew ?_))); (case side2 => exact HC0.out); rintro e w3 ⟨rfl, hb⟩; refine ⟨_, rfl, ?_⟩; have n0_ := Aside0.mk (below_step (by repeat (first | (with_reducible first | exact HB.out | apply below_alloc | apply pw_below_drewN | apply below_drew1) | exact HB.out)) hb); clear HB; have HB := n0_; clear n0_; (try clear hb); (try clear hb2); (try clear hk); (try clear hi)))
  go_ret
  exact ⟨by first | rfl | (simp [errW_none, errW_some] <;> rfl) | (simp [*, errW_none, errW_some] <;> rfl), by repeat (first | (with_reducible first | exact HB.out | apply below_alloc | apply pw_below_drewN | apply below_drew1) | exact HB.out)⟩

/-! ### octets_Get: function 23 -/
def octets_Get.f (l0 : List Int) (a1 : Int) (a2 : Int) : Option (Int × Int) :=
  if (∀ x ∈ l0, 0 ≤ x ∧ x < 256) ∧ -9223372036854775808 ≤ a1 ∧ a1 ≤ 9223372036854775807 then some (Pl.getS l0 a1 a2) else none
set_option maxRecDepth 100000 in
set_option maxHeartbeats 4000000 in
theorem octets_Get.calls (A0 : Option Addr) (c0 : Nat) (l0 : List Int) (a1 : Int) (a2 : Int) (r1 : Int) (r2 : Int) (w : World) (hr0 : Kd.C (Kd.int .u8) w A0 l0.length l0) (hc0 : l0.length ≤ c0) (h : octets_Get.f l0 a1 a2 = some (r1, r2)) :
    Calls Try.prog 23 #[.slice A0 l0.length c0, .int .i64 a1, .int .i64 a2] w fun e w' => e = .returned (.tuple #[.int .u64 r1, .int .i64 r2]) ∧ Drawn0 w w' := by
  unfold octets_Get.f at h
  split at h
  case isFalse => cases h
  rename_i hg
  obtain ⟨hby, ha, hb⟩ := hg
  have hmax := Kd.C_max hr0
  have h := Option.some.inj h
  unfold Pl.getS at h
  by_cases h1 : a2 < 1
  · rw [if_pos (.inl h1)] at h
    simp only [Prod.mk.injEq] at h
    obtain ⟨rfl, rfl⟩ := h
    clear hby
    go_enter Try.func23, Try.ntmps23
    go_wp2
    go_ret2
    exact ⟨rfl, Drawn0.refl _⟩
  by_cases h2 : a2 > 8
  · rw [if_pos (.inr h2)] at h
    simp only [Prod.mk.injEq] at h
    obtain ⟨rfl, rfl⟩ := h
    clear hby
    go_enter Try.func23, Try.ntmps23
    go_wp2
    go_ret2
    exact ⟨rfl, Drawn0.refl _⟩
  rw [if_neg (by omega)] at h
  by_cases h3 : a1 < 0
  · rw [if_pos h3] at h
    simp only [Prod.mk.injEq] at h
    obtain ⟨rfl, rfl⟩ := h
    clear hby
    go_enter Try.func23, Try.ntmps23
    go_wp2
    go_ret2
    exact ⟨rfl, Drawn0.refl _⟩
  rw [if_neg h3] at h
  by_cases h4 : a1 > (l0.length : Int)
  · rw [if_pos (.inl h4)] at h
    simp only [Prod.mk.injEq] at h
    obtain ⟨rfl, rfl⟩ := h
    clear hby
    go_enter Try.func23, Try.ntmps23
    go_wp2
    go_ret2
    exact ⟨rfl, Drawn0.refl _⟩
  by_cases h5 : a2 > (l0.length : Int) - a1
  · rw [if_pos (.inr h5)] at h
    simp only [Prod.mk.injEq] at h
    obtain ⟨rfl, rfl⟩ := h
    clear hby
    go_enter Try.func23, Try.ntmps23
    go_wp2
    go_ret2
    exact ⟨rfl, Drawn0.refl _⟩
  rw [if_neg (by omega)] at h
  simp only [Prod.mk.injEq] at h
  obtain ⟨rfl, rfl⟩ := h
  obtain ⟨i, rfl⟩ := Pl.nat_of (show 0 ≤ a1 by omega)
  obtain ⟨m, rfl⟩ := Pl.nat_of (show 0 ≤ a2 by omega)
  have HR := Aside0.mk hr0
  have HBY := Aside0.mk (show Pl.BY l0 from hby)
  clear hr0 hby
  have hl : (i : Int) + (m : Int) ≤ (l0.length : Int) := by omega
  simp only [Int.toNat_natCast]
  obtain ⟨ad, eA, hcell⟩ := HR.out.2.2 (by omega)
  subst eA
  have hx : ∀ j : Nat, j < m → w.cell? ((ad.add i).add j) = some (.int .u8 (l0.getD (i + j) 0)) := by
    intro j hj
    have hlt : i + j < l0.length := by omega
    obtain ⟨c, hc, hK, hu⟩ := hcell (i + j) _ (List.getElem?_eq_getElem hlt)
    have hK' : c = [Value.int .u8 l0[i + j]] := hK
    subst hK'
    have := hu 0 _ rfl
    rw [List.getD_eq_getElem?_getD, List.getElem?_eq_getElem hlt, add_of_add']
    simpa [Kd.int, Kd.scalar] using this
  have hi8 : i ≤ 9223372036854775807 := by omega
  have hl' : i + m ≤ l0.length := by omega
  have hm1 : 1 ≤ m := by omega
  have hm8 : m ≤ 8 := by omega
  have HX := Aside0.mk hx
  clear hx hcell h h1 h2 h3 h4 h5
  go_enter Try.func23, Try.ntmps23
  go_wp2
  go_loop [6, 40] (fun n c => ∃ j : Nat, j ≤ m ∧ c = .int .i64 j ∧ n = .int .u64 (Pl.leI (List.take j (List.drop i l0)))) (fun _ c => m - (intOf c).toNat)
  case atStart => exact ⟨0, Nat.zero_le _, rfl, by simp [Pl.leI, Pl.toB, Fs.le]⟩
  case round =>
    obtain ⟨j, hj, rfl, rfl⟩ := hrel
    by_cases hlt : j < m
    · have hc := HX.out j hlt
      have hb2 := Pl.BY_at HBY.out (i + j)
      have hstep : Go.bits .or .u64 (Pl.leI (List.take j (List.drop i l0))) (IntKind.u64.wrap (l0.getD (i + j) 0 * 2 ^ (8 * j))) = Pl.leI (List.take (j + 1) (List.drop i l0)) := by
        have hlen : (List.take j (List.drop i l0)).length = j := by rw [List.length_take, List.length_drop]; omega
        rw [Pl.wrap_shl _ j (by omega) hb2, Pl.or_shl _ _ j (by omega) (Pl.leI_nonneg _) (by have := Pl.leI_lt (List.take j (List.drop i l0)); rwa [hlen] at this) hb2]
        rw [Pl.take_snoc _ j (by rw [List.length_drop]; omega), Pl.leI_snoc]
        · rw [hlen]; simp [List.getD_eq_getElem?_getD, List.getElem?_drop]
        · have := Pl.BY_at (Pl.BY_drop HBY.out i) j; exact this
      have HS := Aside0.mk hstep
      clear hstep
      obtain ⟨b, hb⟩ : ∃ b, l0.getD (i + j) 0 = b := ⟨_, rfl⟩
      rw [hb] at hc hb2 HS
      obtain ⟨hb0, hb1⟩ := hb2
      have HBB := Aside0.mk hb
      clear hb
      obtain ⟨x, hx⟩ : ∃ x, Pl.leI (List.take j (List.drop i l0)) = x := ⟨_, rfl⟩
      rw [hx] at HS ⊢
      have HXX := Aside0.mk hx
      clear hx
      go_wp2
      exact ⟨⟨j + 1, by omega, by go_num, by rw [HS.out]⟩, by simp [intOf]; omega⟩
    · obtain rfl : j = m := by omega
      go_wp2
      go_ret2
      exact ⟨rfl, Drawn0.refl _⟩

/-! ### slices_Clone_byte_byte: function 24 -/
def slices_Clone_byte_byte.f (l0 : List Int) : Option (List Int) := if l0.length < 140737488355328 then some l0 else none
set_option maxRecDepth 100000 in
theorem slices_Clone_byte_byte.calls (A0 : Option Addr) (c0 : Nat) (l0 : List Int) (r : List Int) (w : World) (hr0 : Kd.C (Kd.int .u8) w A0 l0.length l0) (hc0 : l0.length ≤ c0) (h : slices_Clone_byte_byte.f l0 = some r) :
    Calls Try.prog 24 #[.slice A0 l0.length c0] w fun e w' => ∃ v0_ : Value, e = .returned (v0_) ∧ Kd.R (Kd.int .u8) 5 w' w.heap.size (fun _ => True) v0_ r ∧ Below w.heap.size w w' := by
  unfold slices_Clone_byte_byte.f at h
  split at h
  case isFalse => cases h
  rename_i hg
  have h := Option.some.inj h
  subst h
  have HB := Aside0.mk (Below.refl w.heap.size w)
  have HR := Aside0.mk hr0
  clear hr0
  cases A0 with
  | none =>
    have hl : l0.length = 0 := by
      rcases Nat.eq_zero_or_pos l0.length with h0 | h0
      · exact h0
      · obtain ⟨ad, h, _⟩ := HR.out.2.2 h0
        cases h
    obtain rfl : l0 = [] := List.eq_nil_of_length_eq_zero hl
    have heq := fun (W : World) => Lib.run_eql_slice_nil (P := Try.prog) W 22 5 none 0 c0 0 0 Try.underlying22
    go_enter Try.func24, Try.ntmps24
    go_wp2
    go_ret
    exact ⟨_, rfl, Kd.R_nil _ _ _ _ _, HB.out⟩
  | some ad =>
    have heq := fun (W : World) => Lib.run_eql_slice_nil (P := Try.prog) W 22 5 (some ad) l0.length c0 0 0 Try.underlying22
    have hb0 := hb_new w #[] 5
    have HO := Aside0.mk (Kd.R_of_own (enc := Value.int .u8) (h1 := fun _ => rfl) (xs := []) (ok := fun _ => True) (own_head (base := w.heap.size) (m := 0) (cap := 0) (xs := []) hb0 (Nat.le_refl _) (by omega) (by unfold maxLen; omega) rfl rfl) (fun _ _ => trivial))
    have HB1 := Aside0.mk (below_alloc HB.out (.cells #[] 5))
    have HR1 := Aside0.mk (Kd.C_alloc HR.out (.cells #[] 5))
    clear hb0
    go_enter Try.func24, Try.ntmps24
    go_wp2_with (at_builtin; refine Kd.R_append_rows (Kd.int .u8) (w0 := w) w.heap.size rfl (.tmp 5) (.tmp 6) 22 5 (.int .u8 0) 1 rfl Try.underlying22 info5 rfl (by decide) (by omega) (.slice (some ⟨w.heap.size, 0, none⟩) 0 0) [] l0 (some ad) l0.length c0 (fun _ => True) (fun _ => False) rfl rfl HO.out HR1.out (fun _ _ h => h) (fun _ hk => hk.elim) (fun _ _ => trivial) HB1.out HB1.out.size (by simp; omega) ?_; intro v1 w1 hown1 hb1 hg1 hat1)
    go_ret
    exact ⟨_, rfl, by simpa using hown1, hb1⟩

/-! ### crc_Open: function 11 -/
def crc_Open.f (l0 : List Int) : Option (List Int × Int) :=
  if (∀ x ∈ l0, 0 ≤ x ∧ x < 256) ∧ l0.length < 140737488355328 then some (Pl.openS l0) else none
set_option maxRecDepth 100000 in
set_option maxHeartbeats 4000000 in
theorem crc_Open.calls (A0 : Option Addr) (c0 : Nat) (l0 : List Int) (r1 : List Int) (r2 : Int) (w : World) (hr0 : Kd.C (Kd.int .u8) w A0 l0.length l0) (hc0 : l0.length ≤ c0) (h : crc_Open.f l0 = some (r1, r2)) :
    Calls Try.prog 11 #[.slice A0 l0.length c0] w fun e w' => ∃ v0_ : Value, e = .returned (.tuple #[v0_, .int .i64 r2]) ∧ Kd.R (Kd.int .u8) 5 w' w.heap.size (fun _ => True) v0_ r1 ∧ Below w.heap.size w w' := by
  unfold crc_Open.f at h
  split at h
  case isFalse => cases h
  rename_i hg
  obtain ⟨hby, hlen⟩ := hg
  have h := Option.some.inj h
  unfold Pl.openS at h
  have HB := Aside0.mk (Below.refl w.heap.size w)
  have HR := Aside0.mk hr0
  have HBY := Aside0.mk (show Pl.BY l0 from hby)
  have hGet : ∀ at_ : Int, -9223372036854775808 ≤ at_ → at_ ≤ 9223372036854775807 → octets_Get.f l0 at_ 4 = some (Pl.getS l0 at_ 4) := by
    intro at_ h1 h2
    unfold octets_Get.f
    rw [if_pos ⟨hby, h1, h2⟩]
  clear hr0 hby
  by_cases h4 : l0.length < 4
  · rw [if_pos h4] at h
    simp only [Prod.mk.injEq] at h
    obtain ⟨rfl, rfl⟩ := h
    have hg := hGet 0 (by omega) (by omega)
    unfold Pl.getS at hg
    rw [if_neg (by omega), if_neg (by omega), if_pos (.inr (by omega))] at hg
    have HG := Aside0.mk hg
    clear hg hGet
    have hmx : max ((l0.length : Int) - 4) 0 = 0 := by omega
    go_enter Try.func11, Try.ntmps11
    go_wp2_with (go_at_call 23; refine (octets_Get.calls A0 c0 l0 0 4 _ _ _ HR.out hc0 HG.out).mono ?_; rintro e w' ⟨rfl, hd⟩; obtain ⟨⟨q, rfl⟩⟩ := hd)
    go_ret2
    exact ⟨_, rfl, Kd.R_nil _ _ _ _ _, pw_below_drewN HB.out q⟩
  rw [if_neg h4] at h
  obtain ⟨n, hn⟩ : ∃ n, l0.length = n + 4 := ⟨l0.length - 4, by omega⟩
  have hn' : l0.length - 4 = n := by omega
  rw [hn'] at h
  have hg := hGet n (by omega) (by omega)
  unfold Pl.getS at hg
  rw [if_neg (by omega), if_neg (by omega), if_neg (by omega), Int.toNat_natCast, List.take_of_length_le (by rw [List.length_drop, show ((4 : Int)).toNat = 4 from rfl]; omega)] at hg
  have HG := Aside0.mk hg
  have hv0 := Pl.leI_nonneg (l0.drop n)
  have hv1 := Pl.leI_lt (l0.drop n)
  rw [List.length_drop, show l0.length - n = 4 by omega] at hv1
  have hv2 : Pl.leI (l0.drop n) < 4294967296 := by omega
  have hu := Pl.u32w hv0 hv2
  clear hg hGet hv1
  have hT := Kd.C_take (m := n) HR.out (by omega)
  have hl : (l0.take n).length = n := by rw [List.length_take]; omega
  have hsum : crc_Sum.f (l0.take n) = some (Pl.crcI (l0.take n)) := by
    unfold crc_Sum.f crc_More.f
    rw [if_pos ⟨by omega, by omega, Pl.BY_take HBY.out n⟩]
    rfl
  rw [hl] at hT
  have HT := Aside0.mk hT
  have HSUM := Aside0.mk hsum
  have HL := Aside0.mk hl
  clear hT hsum
  have hcl : slices_Clone_byte_byte.f (l0.take n) = some (l0.take n) := by
    unfold slices_Clone_byte_byte.f
    rw [if_pos (by omega)]
  have HCL := Aside0.mk hcl
  clear hcl hl
  have hmx : max (n : Int) 0 = (n : Int) := by omega
  have hsub : ((n + 4 : Nat) : Int) - 4 = (n : Int) := by omega
  have hnc : n ≤ c0 := by omega
  have hn0 : (0 : Int) ≤ (n : Int) := by omega
  have hnl : (n : Int) ≤ ((n + 4 : Nat) : Int) := by omega
  have hS : ∀ W : World, Below w.heap.size w W → Calls Try.prog 13 #[.slice A0 n c0] W fun e w' => e = .returned (.int .u32 (Pl.crcI (l0.take n))) ∧ Below w.heap.size w w' := by
    intro W hW
    have := crc_Sum.calls A0 c0 (l0.take n) (Pl.crcI (l0.take n)) W (by rw [HL.out]; exact Kd.C_below HT.out hW) (by rw [HL.out]; exact hnc) HSUM.out
    rw [HL.out] at this
    exact this.mono fun e w' ⟨he, hb⟩ => ⟨he, below_step hW hb⟩
  have hK : ∀ W : World, Below w.heap.size w W → Calls Try.prog 24 #[.slice A0 n c0] W fun e w' => ∃ v, e = .returned v ∧ Kd.R (Kd.int .u8) 5 w' w.heap.size (fun _ => True) v (l0.take n) ∧ Below w.heap.size w w' := by
    intro W hW
    have := slices_Clone_byte_byte.calls A0 c0 (l0.take n) (l0.take n) W (by rw [HL.out]; exact Kd.C_below HT.out hW) (by rw [HL.out]; exact hnc) HCL.out
    rw [HL.out] at this
    exact this.mono fun e w' ⟨v, he, hv, hb⟩ => ⟨v, he, Kd.R_lower hv hW.size, below_step hW hb⟩
  have HS := Aside0.mk hS
  have HK := Aside0.mk hK
  clear hS hK
  have hG2 := octets_Get.calls A0 c0 l0 n 4 _ _ w HR.out hc0 HG.out
  rw [hn] at hG2
  have HG2 := Aside0.mk hG2
  clear hG2
  rw [hn]
  generalize Pl.leI (l0.drop n) = v at h HG2 hv0 hv2 hu
  have hcr := Pl.crcI_range (l0.take n)
  obtain ⟨y, hy⟩ : ∃ y, Pl.crcI (l0.take n) = y := ⟨_, rfl⟩
  rw [hy] at h hcr HS
  clear hy
  obtain ⟨y0, y1⟩ := hcr
  by_cases he : v = y
  · rw [if_neg (by simp [he])] at h
    simp only [Prod.mk.injEq] at h
    obtain ⟨rfl, rfl⟩ := h
    have hb1 : (v != y) = false := by simp [he]
    go_enter Try.func11, Try.ntmps11
    go_wp2_with (go_at_call 23; refine HG2.out.mono ?_; rintro e w1 ⟨rfl, hd⟩; obtain ⟨⟨q, rfl⟩⟩ := hd; have HB1 := Aside0.mk (pw_below_drewN HB.out q))
    generalize w.drewN q = w1 at HB1 ⊢
    go_wp2_with (go_at_call 13; refine (HS.out _ HB1.out).mono ?_; rintro e w2 ⟨rfl, hb⟩; have HB2 := Aside0.mk hb; clear hb)
    go_wp2_with (go_at_call 24; refine (HK.out _ HB2.out).mono ?_; rintro e w3 ⟨x, rfl, hv, hb⟩; have HV := Aside0.mk hv; have HB3 := Aside0.mk hb; clear hv hb)
    go_ret2
    exact ⟨_, rfl, HV.out, HB3.out⟩
  · rw [if_pos (by simpa using he)] at h
    simp only [Prod.mk.injEq] at h
    obtain ⟨rfl, rfl⟩ := h
    have hb1 : (v != y) = true := by simpa using he
    go_enter Try.func11, Try.ntmps11
    go_wp2_with (go_at_call 23; refine HG2.out.mono ?_; rintro e w1 ⟨rfl, hd⟩; obtain ⟨⟨q, rfl⟩⟩ := hd; have HB1 := Aside0.mk (pw_below_drewN HB.out q))
    generalize w.drewN q = w1 at HB1 ⊢
    go_wp2_with (go_at_call 13; refine (HS.out _ HB1.out).mono ?_; rintro e w2 ⟨rfl, hb⟩; have HB2 := Aside0.mk hb; clear hb)
    go_ret2
    exact ⟨_, rfl, Kd.R_nil _ _ _ _ _, HB2.out⟩

/-! ### flagstoneref02_run: function 26 -/
mutual
def flagstoneref02_run.l0 : Nat → Int → List Int → Int → Option (Int)
  | 0, _, _, _ => none
  | k + 1, x0, x1, x5 => if x5 < (x1.length : Int) then (if 0 ≤ x5 then (flagstoneref02_run.l1 k (Go.bits .xor .u32 x0 ((rd x1 x5) % 4294967296)) x1 x5 0) else (none)) else (some x0)
def flagstoneref02_run.l1 : Nat → Int → List Int → Int → Int → Option (Int)
  | 0, _, _, _, _ => none
  | k + 1, x0, x1, x5, x6 => if x6 < 8 then (if (Go.bits .and .u32 x0 1) = 1 then (flagstoneref02_run.l1 k (Go.bits .xor .u32 (x0 / 2) 2197175160) x1 x5 (wrap64 (x6 + 1))) else (flagstoneref02_run.l1 k (x0 / 2) x1 x5 (wrap64 (x6 + 1)))) else (flagstoneref02_run.l0 k x0 x1 (wrap64 (x5 + 1)))
end
def flagstoneref02_run.f (k : Nat) (a0 : Int) (l1 : List Int) : Option (Int) := flagstoneref02_run.l0 k a0 l1 0
theorem flagstoneref02_run.mono_l : ∀ k, (∀ y0 y1 y2, LeO (flagstoneref02_run.l0 k y0 y1 y2) (flagstoneref02_run.l0 (k + 1) y0 y1 y2)) ∧ (∀ y0 y1 y2 y3, LeO (flagstoneref02_run.l1 k y0 y1 y2 y3) (flagstoneref02_run.l1 (k + 1) y0 y1 y2 y3))
  | 0 => ⟨fun _ _ _ r h => by simp [flagstoneref02_run.l0] at h, fun _ _ _ _ r h => by simp [flagstoneref02_run.l1] at h⟩
  | k + 1 => by
    obtain ⟨ih0, ih1⟩ := flagstoneref02_run.mono_l k
    refine ⟨?_, ?_⟩
    · intro y0 y1 y2
      unfold flagstoneref02_run.l0
      repeat' first
      | (with_reducible exact ih0 _ _ _)
      | (with_reducible exact ih1 _ _ _ _)
      | (with_reducible exact LeO.refl _)
      | (with_reducible exact LeO.none _)
      | (with_reducible refine LeO.ite ?_ ?_)
      | (with_reducible refine LeO.bind ?_ (fun _ => ?_))
      | exact ih0 _ _ _
      | exact ih1 _ _ _ _
      | exact LeO.none _
      | refine LeO.ite ?_ ?_
      | refine LeO.bind ?_ (fun _ => ?_)
    · intro y0 y1 y2 y3
      unfold flagstoneref02_run.l1
      repeat' first
      | (with_reducible exact ih0 _ _ _)
      | (with_reducible exact ih1 _ _ _ _)
      | (with_reducible exact LeO.refl _)
      | (with_reducible exact LeO.none _)
      | (with_reducible refine LeO.ite ?_ ?_)
      | (with_reducible refine LeO.bind ?_ (fun _ => ?_))
      | exact ih0 _ _ _
      | exact ih1 _ _ _ _
      | exact LeO.none _
      | refine LeO.ite ?_ ?_
      | refine LeO.bind ?_ (fun _ => ?_)
theorem flagstoneref02_run.mono : ∀ a0 a1 k, LeO (flagstoneref02_run.f k a0 a1) (flagstoneref02_run.f (k + 1) a0 a1) := by
  intro a0 a1 k
  obtain ⟨ih0, ih1⟩ := flagstoneref02_run.mono_l k
  unfold flagstoneref02_run.f
  repeat' first
      | (with_reducible exact ih0 _ _ _)
      | (with_reducible exact ih1 _ _ _ _)
      | (with_reducible exact LeO.refl _)
      | (with_reducible exact LeO.none _)
      | (with_reducible refine LeO.ite ?_ ?_)
      | (with_reducible refine LeO.bind ?_ (fun _ => ?_))
      | exact ih0 _ _ _
      | exact ih1 _ _ _ _
      | exact LeO.none _
      | refine LeO.ite ?_ ?_
      | refine LeO.bind ?_ (fun _ => ?_)
set_option maxHeartbeats 8000000 in
set_option maxRecDepth 100000 in
theorem flagstoneref02_run.calls (k : Nat) (a0 : Int) (A1 : Option Addr) (c1 : Nat) (l1 : List Int) (r : Int) (w : World) (hr1 : Kd.C (Kd.int .u8) w A1 l1.length l1) (hc1 : l1.length ≤ c1) (h : flagstoneref02_run.f k a0 l1 = some r) :
    Calls Try.prog 26 #[.int .u32 a0, .slice A1 l1.length c1] w fun e w' => e = .returned (.int .u32 r) ∧ Drawn0 w w' := by
  have HR1 := Aside0.mk hr1
  have HC1 := Aside0.mk hc1
  clear hr1 hc1
  have H : (flagstoneref02_run.l0 k a0 l1 0) = some r := h
  clear h
  have H' := Aside0.mk H
  clear H
  go_enter Try.func26, Try.ntmps26
  go_wp2
  go_loopg [0, 5] k (fun kq v0 v5 w' => ∃ (x0_1 : Int) (x5_1 : Int), v0 = .int .u32 x0_1 ∧ v5 = .int .i64 x5_1 ∧ Aside0 (flagstoneref02_run.l0 kq x0_1 l1 x5_1 = some r) ∧ Aside0 (kq ≤ k) ∧ Drawn0 w w')
  case atStart => exact ⟨(a0), (0), (by first | rfl | (simp; done) | (simp [*]; done)), (by first | rfl | (simp; done) | (simp [*]; done)), H', ⟨Nat.le_refl _⟩, by repeat (first | exact Drawn0.refl _ | apply Drawn0.step)⟩
  case round =>
    clear H'
    try clear c1
    try clear c2
    try clear p2
    obtain ⟨x0_1, x5_1, rfl, rfl, HA, HK1, ⟨m1, rfl⟩⟩ := hrel
    cases gk with
    | zero => exact absurd HA.out (by simp [flagstoneref02_run.l0])
    | succ k1 =>
      have H := HA.out
      clear HA
      simp only [flagstoneref02_run.l0] at H
      by_cases c3 : x5_1 < (l1.length : Int)
      · rw [if_pos c3] at H
        have c3b0 : decide (x5_1 < (l1.length : Int)) = true := decide_eq_true c3
        clear c3
        by_cases c4 : 0 ≤ x5_1
        · rw [if_pos c4] at H
          have c4b0 : decide (0 ≤ x5_1) = true := decide_eq_true c4
          clear c4
          have H' := Aside0.mk H
          clear H
          have p105 : 0 ≤ (x5_1 : Int) := of_decide_eq_true (by first | (with_reducible assumption) | assumption)
          have q105 : x5_1 < (l1.length : Int) := of_decide_eq_true (by first | (with_reducible assumption) | assumption)
          obtain ⟨ad105, e105, hx105_0⟩ := Kd.at_int HR1.out x5_1 p105 q105
          cases e105
          replace p105 := eq_true p105
          replace q105 := eq_true q105
          go_wp2
          go_loopg [0, 6] k1 (fun kq v0 v6 w' => ∃ (x0_2 : Int) (x6_2 : Int), v0 = .int .u32 x0_2 ∧ v6 = .int .i64 x6_2 ∧ Aside0 (flagstoneref02_run.l1 kq x0_2 l1 x5_1 x6_2 = some r) ∧ Aside0 (kq ≤ k1) ∧ Drawn0 w w')
          case atStart => exact ⟨(Go.bits .xor .u32 x0_1 ((rd l1 x5_1) % 4294967296)), (0), (by first | rfl | (simp; done) | (simp [*]; done)), (by first | rfl | (simp; done) | (simp [*]; done)), H', ⟨Nat.le_refl _⟩, by repeat (first | exact Drawn0.refl _ | apply Drawn0.step)⟩
          case round =>
            clear H'
            try clear c1
            try clear p1
            try clear q1
            try clear hx1
            try clear c2
            try clear p2
            try clear c3
            try clear c3b0
            try clear c4
            try clear c4b0
            try clear hx105_0
            try clear p105
            try clear p2
            try clear q105
            obtain ⟨x0_2, x6_2, rfl, rfl, HA, HK2, ⟨m2, rfl⟩⟩ := hrel
            cases gk with
            | zero => exact absurd HA.out (by simp [flagstoneref02_run.l1])
            | succ k2 =>
              have H := HA.out
              clear HA
              simp only [flagstoneref02_run.l1] at H
              by_cases c5 : x6_2 < 8
              · rw [if_pos c5] at H
                have c5b0 : decide (x6_2 < 8) = true := decide_eq_true c5
                clear c5
                by_cases c6 : (Go.bits .and .u32 x0_2 1) = 1
                · rw [if_pos c6] at H
                  have c6b0 : ((Go.bits .and .u32 x0_2 1) == 1) = true := beq_iff_eq.mpr c6
                  have c6b1 : ((Go.bits .and .u32 x0_2 1) != 1) = false := bne_eq_false_iff_eq.mpr c6
                  clear c6
                  have H' := Aside0.mk H
                  clear H
                  go_wp2
                  go_roundg k2
                  case measure => have := HK1.out; have := HK2.out; omega
                  case rel => exact ⟨(Go.bits .xor .u32 (x0_2 / 2) 2197175160), (wrap64 (x6_2 + 1)), (by first | rfl | (simp; done) | (simp [*]; done)), (by first | rfl | (simp; done) | (simp [*]; done)), H', ⟨by have := HK1.out; have := HK2.out; omega⟩, by repeat (first | exact Drawn0.refl _ | apply Drawn0.step)⟩
                · rw [if_neg c6] at H
                  have c6b0 : ((Go.bits .and .u32 x0_2 1) == 1) = false := beq_eq_false_iff_ne.mpr c6
                  have c6b1 : ((Go.bits .and .u32 x0_2 1) != 1) = true := bne_iff_ne.mpr c6
                  have H' := Aside0.mk H
                  clear H
                  go_wp2
                  go_roundg k2
                  case measure => have := HK1.out; have := HK2.out; omega
                  case rel => exact ⟨(x0_2 / 2), (wrap64 (x6_2 + 1)), (by first | rfl | (simp; done) | (simp [*]; done)), (by first | rfl | (simp; done) | (simp [*]; done)), H', ⟨by have := HK1.out; have := HK2.out; omega⟩, by repeat (first | exact Drawn0.refl _ | apply Drawn0.step)⟩
              · rw [if_neg c5] at H
                have c5b0 : decide (x6_2 < 8) = false := decide_eq_false c5
                clear c5
                have H' := Aside0.mk H
                clear H
                go_wp2
                go_roundg k2
                case measure => have := HK1.out; have := HK2.out; omega
                case rel => exact ⟨(x0_2), (wrap64 (x5_1 + 1)), (by first | rfl | (simp; done) | (simp [*]; done)), (by first | rfl | (simp; done) | (simp [*]; done)), H', ⟨by have := HK1.out; have := HK2.out; omega⟩, by repeat (first | exact Drawn0.refl _ | apply Drawn0.step)⟩
        · rw [if_neg c4] at H
          exact absurd H (by simp)
      · rw [if_neg c3] at H
        have c3b0 : decide (x5_1 < (l1.length : Int)) = false := decide_eq_false c3
        clear c3
        obtain rfl := Option.some.inj H
        go_wp2
        go_ret
        exact ⟨by first | rfl | (simp; done) | (simp [*]; done), by repeat (first | exact Drawn0.refl _ | apply Drawn0.step)⟩

/-! ### flagstoneref02_Sum: function 14 -/
def flagstoneref02_Sum.f (k : Nat) (l0 : List Int) : Option (Int) := (flagstoneref02_run.f k 4294967295 l0).bind fun t106 => (some (Go.bits .xor .u32 IntKind.u32.max t106))
theorem flagstoneref02_Sum.mono : ∀ a0 k, LeO (flagstoneref02_Sum.f k a0) (flagstoneref02_Sum.f (k + 1) a0) := by
  intro a0 k
  unfold flagstoneref02_Sum.f
  repeat' first
      | (with_reducible exact flagstoneref02_run.mono _ _ _)
      | (with_reducible exact LeO.refl _)
      | (with_reducible exact LeO.none _)
      | (with_reducible refine LeO.ite ?_ ?_)
      | (with_reducible refine LeO.bind ?_ (fun _ => ?_))
      | exact flagstoneref02_run.mono _ _ _
      | exact LeO.none _
      | refine LeO.ite ?_ ?_
      | refine LeO.bind ?_ (fun _ => ?_)
set_option maxHeartbeats 8000000 in
set_option maxRecDepth 100000 in
theorem flagstoneref02_Sum.calls (k : Nat) (A0 : Option Addr) (c0 : Nat) (l0 : List Int) (r : Int) (w : World) (hr0 : Kd.C (Kd.int .u8) w A0 l0.length l0) (hc0 : l0.length ≤ c0) (h : flagstoneref02_Sum.f k l0 = some r) :
    Calls Try.prog 14 #[.slice A0 l0.length c0] w fun e w' => e = .returned (.int .u32 r) ∧ Drawn0 w w' := by
  have HR0 := Aside0.mk hr0
  have HC0 := Aside0.mk hc0
  clear hr0 hc0
  have H : ((flagstoneref02_run.f k 4294967295 l0).bind fun t106 => (some (Go.bits .xor .u32 IntKind.u32.max t106))) = some r := h
  clear h
  replace H := Option.bind_eq_some_iff.mp H
  obtain ⟨t106, A20, H⟩ := H
  replace H : (some (Go.bits .xor .u32 IntKind.u32.max t106)) = some r := H
  have A2 := Aside0.mk A20
  clear A20
  obtain rfl := Option.some.inj H
  go_enter Try.func14, Try.ntmps14
  go_wp2_with (first | ((with_reducible refine gate_callee (f := 26) rfl ?_); refine goesL_ (some 4) rfl rfl Try.func26 (by kernel_rfl) rfl #[.int .u32 4294967295, .slice A0 l0.length c0] rfl (by (try simp only [List.map_toArray, List.map_cons, List.map_nil]); first | done | rfl | (simp only [List.length_drop, List.length_take]; rfl)) ?_; (with_reducible refine (flagstoneref02_run.calls k 4294967295 _ _ l0 t106 _ ?side1 ?side2 A2.out).mono ?_); (case side1 => repeat (first | exact HR0.out | (with_reducible refine Kd.C_alloc ?_ _) | (with_reducible refine Kd.C_drewN ?_ _) | (with_reducible refine Kd.C_drew ?_))); (case side2 => exact HC0.out); rintro e w' ⟨rfl, ⟨nd, rfl⟩⟩; refine ⟨_, rfl, ?_⟩))
  go_ret
  exact ⟨by first | rfl | (simp; done) | (simp [*]; done), by repeat (first | exact Drawn0.refl _ | apply Drawn0.step)⟩

/-! ### flagstoneref02_Copied: function 25 -/
def flagstoneref02_Copied.f (l0 : List Int) : Option (List Int) := if ([] : List Int).length + l0.length < 140737488355328 then (some (([] : List Int) ++ l0)) else (none)
set_option maxHeartbeats 8000000 in
set_option maxRecDepth 100000 in
theorem flagstoneref02_Copied.calls (A0 : Option Addr) (c0 : Nat) (l0 : List Int) (r : List Int) (w : World) (hr0 : Kd.C (Kd.int .u8) w A0 l0.length l0) (hc0 : l0.length ≤ c0) (h : flagstoneref02_Copied.f l0 = some r) :
    Calls Try.prog 25 #[.slice A0 l0.length c0] w fun e w' => ∃ v0_ : Value, e = .returned (v0_) ∧ Kd.R (Kd.int .u8) 5 w' w.heap.size (fun _ => True) v0_ r ∧ Below w.heap.size w w' := by
  have HR0 := Aside0.mk hr0
  have HC0 := Aside0.mk hc0
  clear hr0 hc0
  have HB := Aside0.mk (Below.refl w.heap.size w)
  have H : (if ([] : List Int).length + l0.length < 140737488355328 then (some (([] : List Int) ++ l0)) else (none)) = some r := h
  clear h
  by_cases c2 : ([] : List Int).length + l0.length < 140737488355328
  · rw [if_pos c2] at H
    have LMc2 := Aside0.mk c2
    clear c2
    obtain ⟨y107, hy107⟩ : ∃ y_ : List Int, y_ = (([] : List Int) ++ l0) := ⟨_, rfl⟩
    replace H : (some y107) = some r := by first | (rw [hy107]; with_reducible exact H) | (have H2_ := (Option.bind_some _ _).symm.trans H; rw [hy107]; with_reducible exact H2_) | (have H2_ := (Option.bind_some _ _).symm.trans H; with_reducible exact H2_) | with_reducible exact H | (rw [hy107]; exact H) | exact H
    have Ny107 := Aside0.mk hy107
    clear hy107
    obtain rfl := Option.some.inj H
    go_enter Try.func25, Try.ntmps25
    go_wp2_with (first | ((with_reducible refine gate_builtin (b := .append) (xs := #[.tmp 4, .tmp 5]) rfl ?_); at_builtin; refine Kd.R_append_rows (Kd.int .u8) (w0 := w) w.heap.size rfl (.tmp 4) (.tmp 5) 22 5 (.int .u8 0) 1 rfl Try.underlying22 info5 rfl (by decide) (by omega) (.slice none 0 0) ([] : List Int) l0 _ _ _ (fun _ => True) (fun _ => False) rfl rfl ?aO ?aR (fun _ _ h => h) (fun _ h => h.elim) ?aF ?aB ?aS ?aL ?_; (case aR => repeat (first | exact HR0.out | (with_reducible refine Kd.C_alloc ?_ _) | (with_reducible refine Kd.C_drewN ?_ _) | (with_reducible refine Kd.C_drew ?_))); (case aB => exact (by repeat (first | (with_reducible first | exact HB.out | apply below_alloc | apply pw_below_drewN | apply below_drew1) | exact HB.out))); (case aF => exact (fun _ _ => trivial)); (case aO => exact ((Kd.R_nil _ _ _ _ (fun _ => True)))); (case aS => exact (below_size (by repeat (first | (with_reducible first | exact HB.out | apply below_alloc | apply pw_below_drewN | apply below_drew1) | exact HB.out)))); (case aL => have := LMc2.out; omega); intro v108 w3 ho hb hg hat; rw [← Ny107.out] at ho; have n0_ := Aside0.mk (hb); have n1_ := Aside0.mk (ho); clear HB; have HB := n0_; have HO109 := n1_; clear n0_ n1_; clear ho hb hg hat))
    go_ret
    exact ⟨_, by first | rfl | (simp [errW_none, errW_some] <;> rfl) | (simp [*, errW_none, errW_some] <;> rfl), by (with_reducible repeat (first | apply Kd.R_alloc | apply Kd.R_drewN | apply Kd.R_drew)); exact HO109.out, by repeat (first | (with_reducible first | exact HB.out | apply below_alloc | apply pw_below_drewN | apply below_drew1) | exact HB.out)⟩
  · rw [if_neg c2] at H
    exact absurd H (by simp)

/-! ### flagstoneref02_Seal: function 19 -/
def flagstoneref02_Seal.f (k : Nat) (l0 : List Int) : Option (List Int) := (flagstoneref02_Sum.f k l0).bind fun t110 => ((flagstoneref02_Copied.f l0).bind fun t111 => ((some (([(t110) % 256, (t110 / 256) % 256, (t110 / 65536) % 256, (t110 / 16777216) % 256] : List Int) : List Int)).bind fun y114 => (if t111.length + y114.length < 140737488355328 then (some (t111 ++ y114)) else (none))))
theorem flagstoneref02_Seal.mono : ∀ a0 k, LeO (flagstoneref02_Seal.f k a0) (flagstoneref02_Seal.f (k + 1) a0) := by
  intro a0 k
  unfold flagstoneref02_Seal.f
  repeat' first
      | (with_reducible exact flagstoneref02_Sum.mono _ _)
      | (with_reducible exact LeO.refl _)
      | (with_reducible exact LeO.none _)
      | (with_reducible refine LeO.ite ?_ ?_)
      | (with_reducible refine LeO.bind ?_ (fun _ => ?_))
      | exact flagstoneref02_Sum.mono _ _
      | exact LeO.none _
      | refine LeO.ite ?_ ?_
      | refine LeO.bind ?_ (fun _ => ?_)
set_option maxHeartbeats 8000000 in
set_option maxRecDepth 100000 in
theorem flagstoneref02_Seal.calls (k : Nat) (A0 : Option Addr) (c0 : Nat) (l0 : List Int) (r : List Int) (w : World) (hr0 : Kd.C (Kd.int .u8) w A0 l0.length l0) (hc0 : l0.length ≤ c0) (h : flagstoneref02_Seal.f k l0 = some r) :
    Calls Try.prog 19 #[.slice A0 l0.length c0] w fun e w' => ∃ v0_ : Value, e = .returned (v0_) ∧ Kd.R (Kd.int .u8) 5 w' w.heap.size (fun _ => True) v0_ r ∧ Below w.heap.size w w' := by
  have HR0 := Aside0.mk hr0
  have HC0 := Aside0.mk hc0
  clear hr0 hc0
  have HB := Aside0.mk (Below.refl w.heap.size w)
  have H : ((flagstoneref02_Sum.f k l0).bind fun t110 => ((flagstoneref02_Copied.f l0).bind fun t111 => ((some (([(t110) % 256, (t110 / 256) % 256, (t110 / 65536) % 256, (t110 / 16777216) % 256] : List Int) : List Int)).bind fun y114 => (if t111.length + y114.length < 140737488355328 then (some (t111 ++ y114)) else (none))))) = some r := h
  clear h
  replace H := Option.bind_eq_some_iff.mp H
  obtain ⟨t110, A20, H⟩ := H
  replace H : ((flagstoneref02_Copied.f l0).bind fun t111 => ((some (([(t110) % 256, (t110 / 256) % 256, (t110 / 65536) % 256, (t110 / 16777216) % 256] : List Int) : List Int)).bind fun y114 => (if t111.length + y114.length < 140737488355328 then (some (t111 ++ y114)) else (none)))) = some r := H
  have A2 := Aside0.mk A20
  clear A20
  replace H := Option.bind_eq_some_iff.mp H
  obtain ⟨t111, A30, H⟩ := H
  replace H : ((some (([(t110) % 256, (t110 / 256) % 256, (t110 / 65536) % 256, (t110 / 16777216) % 256] : List Int) : List Int)).bind fun y114 => (if t111.length + y114.length < 140737488355328 then (some (t111 ++ y114)) else (none))) = some r := H
  have A3 := Aside0.mk A30
  clear A30
  obtain ⟨y114, hy114⟩ : ∃ y_ : List Int, y_ = (([(t110) % 256, (t110 / 256) % 256, (t110 / 65536) % 256, (t110 / 16777216) % 256] : List Int)) := ⟨_, rfl⟩
  replace H : (if t111.length + y114.length < 140737488355328 then (some (t111 ++ y114)) else (none)) = some r := by first | (rw [hy114]; with_reducible exact H) | (have H2_ := (Option.bind_some _ _).symm.trans H; rw [hy114]; with_reducible exact H2_) | (have H2_ := (Option.bind_some _ _).symm.trans H; with_reducible exact H2_) | with_reducible exact H | (rw [hy114]; exact H) | exact H
  have Ny114 := Aside0.mk hy114
  clear hy114
  by_cases c4 : t111.length + y114.length < 140737488355328
  · rw [if_pos c4] at H
    have LMc4 := Aside0.mk c4
    clear c4
    obtain ⟨y117, hy117⟩ : ∃ y_ : List Int, y_ = (t111 ++ y114) := ⟨_, rfl⟩
    replace H : (some y117) = some r := by first | (rw [hy117]; with_reducible exact H) | (have H2_ := (Option.bind_some _ _).symm.trans H; rw [hy117]; with_reducible exact H2_) | (have H2_ := (Option.bind_some _ _).symm.trans H; with_reducible exact H2_) | with_reducible exact H | (rw [hy117]; exact H) | exact H
    have Ny117 := Aside0.mk hy117
    clear hy117
    obtain rfl := Option.some.inj H
    go_enter Try.func19, Try.ntmps19
    go_wp2_with (first | ((with_reducible refine gate_callee (f := 14) rfl ?_); refine goesL_ (some 5) rfl rfl Try.func14 (by kernel_rfl) rfl #[.slice A0 l0.length c0] rfl (by (try simp only [List.map_toArray, List.map_cons, List.map_nil]); first | done | rfl | (simp only [List.length_drop, List.length_take]; rfl)) ?_; (with_reducible refine (flagstoneref02_Sum.calls k _ _ l0 t110 _ ?side1 ?side2 A2.out).mono ?_); (case side1 => repeat (first | exact HR0.out | (with_reducible refine Kd.C_alloc ?_ _) | (with_reducible refine Kd.C_drewN ?_ _) | (with_reducible refine Kd.C_drew ?_))); (case side2 => exact HC0.out); rintro e w' ⟨rfl, ⟨nd, rfl⟩⟩; refine ⟨_, rfl, ?_⟩) | ((with_reducible refine gate_callee (f := 25) rfl ?_); refine goesL_ (some 7) rfl rfl Try.func25 (by kernel_rfl) rfl #[.slice A0 l0.length c0] rfl (by (try simp only [List.map_toArray, List.map_cons, List.map_nil]); first | done | rfl | (simp only [List.length_drop, List.length_take]; rfl)) ?_; (with_reducible refine (flagstoneref02_Copied.calls _ _ l0 t111 _ ?side1 ?side2 A3.out).mono ?_); (case side1 => repeat (first | exact HR0.out | (with_reducible refine Kd.C_alloc ?_ _) | (with_reducible refine Kd.C_drewN ?_ _) | (with_reducible refine Kd.C_drew ?_))); (case side2 => exact HC0.out); rintro e w5 ⟨v112, rfl, ho0, hb⟩; refine ⟨_, rfl, ?_⟩; have n0_ := Aside0.mk (Kd.R_lower ho0 (below_size (by repeat (first | (with_reducible first | exact HB.out | apply below_alloc | apply pw_below_drewN | apply below_drew1) | exact HB.out)))); have n1_ := Aside0.mk (below_step (by repeat (first | (with_reducible first | exact HB.out | apply below_alloc | apply pw_below_drewN | apply below_drew1) | exact HB.out)) hb); clear HB; have HO113 := n0_; have HB := n1_; clear n0_ n1_; (try clear hb); (try clear hb2); (try clear hk); (try clear hi); (try clear ho0)) | ((with_reducible refine gate_dst (N := 19) rfl ?_); refine Kd.R_lit (Kd.int .u8) _ 5 ?hg (N := 19) ?hd (xs := ([(t110) % 256, (t110 / 256) % 256, (t110 / 65536) % 256, (t110 / 16777216) % 256] : List Int)) (inner := [.int .u8 ((t110) % 256), .int .u8 ((t110 / 256) % 256), .int .u8 ((t110 / 65536) % 256), .int .u8 ((t110 / 16777216) % 256)]) (ok := fun _ => True) (okp := fun _ => True) ?hr ?hp (fun _ hk => hk) trivial (Below.refl _ _) (Nat.le_refl _) (by simp) ?_; (case hd => rfl); (case hg => rfl); (case hr => first | (go_simp; done) | (go_simp; rfl)); (case hp => exact (Reps.one (show Kd.M (Kd.int .u8) _ _ _ ((t110) % 256) [.int .u8 ((t110) % 256)] from rfl) (Reps.one (show Kd.M (Kd.int .u8) _ _ _ ((t110 / 256) % 256) [.int .u8 ((t110 / 256) % 256)] from rfl) (Reps.one (show Kd.M (Kd.int .u8) _ _ _ ((t110 / 65536) % 256) [.int .u8 ((t110 / 65536) % 256)] from rfl) (Reps.one (show Kd.M (Kd.int .u8) _ _ _ ((t110 / 16777216) % 256) [.int .u8 ((t110 / 16777216) % 256)] from rfl) (Reps.none _ _)))))); intro v115 w6 ho7 hb hg_ hnew_; clear hg_ hnew_; (first | rw [← Ny114.out] at ho7 | (simp only [Int.reduceToNat] at ho7; rw [← Ny114.out] at ho7)); have n0_ := Aside0.mk (Kd.R_elder' (by (with_reducible repeat (first | apply Kd.R_alloc | apply Kd.R_drewN | apply Kd.R_drew)); exact HO113.out) (Kd.R_base ho7) hb); have n1_ := Aside0.mk (Kd.R_lower (Kd.R_new' ho7 (Kd.R_lt (by (with_reducible repeat (first | apply Kd.R_alloc | apply Kd.R_drewN | apply Kd.R_drew)); exact HO113.out))) (below_size (by repeat (first | (with_reducible first | exact HB.out | apply below_alloc | apply pw_below_drewN | apply below_drew1) | exact HB.out)))); have n2_ := Aside0.mk (below_step (by repeat (first | (with_reducible first | exact HB.out | apply below_alloc | apply pw_below_drewN | apply below_drew1) | exact HB.out)) hb); clear HO113; clear HB; have HO113 := n0_; have HO116 := n1_; have HB := n2_; clear n0_ n1_ n2_; clear hb ho7; obtain ⟨Ao9, co9, eo9⟩ := Kd.R_slice HO116.out; subst eo9) | ((with_reducible refine gate_builtin (b := .append) (xs := #[.tmp 7, .tmp 19]) rfl ?_); at_builtin; refine Kd.R_append_rows (Kd.int .u8) (w0 := w) w.heap.size rfl (.tmp 7) (.tmp 19) 22 5 (.int .u8 0) 1 rfl Try.underlying22 info5 rfl (by decide) (by omega) v112 t111 y114 _ _ _ (fun k_ => some k_ ≠ (.slice Ao9 y114.length co9 : Value).ownBlock) (fun _ => False) rfl rfl ?aO ?aR (fun _ _ h => h) (fun _ h => h.elim) ?aF ?aB ?aS ?aL ?_; (case aR => repeat (first | exact (Kd.R_reads' HO116.out).2.2 | (with_reducible refine Kd.C_alloc ?_ _) | (with_reducible refine Kd.C_drewN ?_ _) | (with_reducible refine Kd.C_drew ?_))); (case aB => exact (by repeat (first | (with_reducible first | exact HB.out | apply below_alloc | apply pw_below_drewN | apply below_drew1) | exact HB.out))); (case aF => exact (fun k_ hk => Kd.fresh' (Kd.R_lt (by (with_reducible repeat (first | apply Kd.R_alloc | apply Kd.R_drewN | apply Kd.R_drew)); exact HO116.out)) k_ hk)); (case aO => exact (by (with_reducible repeat (first | apply Kd.R_alloc | apply Kd.R_drewN | apply Kd.R_drew)); exact Kd.R_mono HO113.out (fun _ hk => hk.2))); (case aS => exact (below_size (by repeat (first | (with_reducible first | exact HB.out | apply below_alloc | apply pw_below_drewN | apply below_drew1) | exact HB.out)))); (case aL => have := LMc4.out; omega); intro v118 w8 ho hb hg hat; rw [← Ny117.out] at ho; have n0_ := Aside0.mk (Kd.R_after (ok := (fun _ => True)) (by (with_reducible repeat (first | apply Kd.R_alloc | apply Kd.R_drewN | apply Kd.R_drew)); exact HO116.out) hg hat); have n1_ := Aside0.mk (hb); have n2_ := Aside0.mk (ho); clear HO116; clear HB; clear HO113; have HO116 := n0_; have HB := n1_; have HO119 := n2_; clear n0_ n1_ n2_; clear ho hb hg hat))
    go_ret
    exact ⟨_, by first | rfl | (simp [errW_none, errW_some] <;> rfl) | (simp [*, errW_none, errW_some] <;> rfl), by (with_reducible repeat (first | apply Kd.R_alloc | apply Kd.R_drewN | apply Kd.R_drew)); exact Kd.R_mono HO119.out (fun _ hk => trivial), by repeat (first | (with_reducible first | exact HB.out | apply below_alloc | apply pw_below_drewN | apply below_drew1) | exact HB.out)⟩
  · rw [if_neg c4] at H
    exact absurd H (by simp)

end Go.Proofs.Ytkoljefjdnlciaa.Hy
